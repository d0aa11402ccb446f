/- Texts of the proof of ItemTexts, put together: LnkW. -/
import Derived.Test.YtelpdjhkedhppaaGreatDoorItemTextsZ5
import Derived.Test.YtelpdjhkedhppaaGreatDoorItemTextsZ12
import Derived.Test.YtelpdjhkedhppaaGreatDoorItemTextsZ21
import Derived.Test.YtelpdjhkedhppaaGreatDoorItemTextsZ25
import Derived.Test.YtelpdjhkedhppaaGreatDoorItemTextsZ33
set_option linter.unusedVariables false
set_option linter.unusedSimpArgs false
set_option maxRecDepth 100000
/- strings.Lines. -/
namespace Go.Proofs.YtelpdjhkedhppaaGreatDoor
open Go.RowKit Go.Shelf
attribute [local go_sem] Oper.semAt_some
theorem ext_takeL (l : Str) (n : Nat) : (⟨l.toArray⟩ : ByteArray).extract 0 n = ⟨(l.take n).toArray⟩ := by
 apply ByteArray.ext
 simp [ByteArray.data_extract]
theorem ext_dropL (l : Str) (n : Nat) : (⟨l.toArray⟩ : ByteArray).extract n l.length = ⟨(l.drop n).toArray⟩ := by
 apply ByteArray.ext
 simp [ByteArray.data_extract];exact List.take_of_length_le (by simp)
set_option maxHeartbeats 4000000 in
theorem lns1_in (l B : Nat) (s : Str) (hs : s.length ≤ 100000) (T : Nat → Prop) (hTB : ¬ T B) (J : List Str → World → Prop) (hJB : ∀ pre X Y, J pre X → Mod (· = B) X Y → J pre Y)
  (hY : ∀ pre (x : Str) W1, x.length ≤ 100000 → J pre W1 → pre.length < 100001 → YieldAt Fence.wide 7 Tryz.prog l #[.string ⟨x.toArray⟩] W1 fun e W' => e = .returned (.bool true) ∧ J (pre ++ [x]) W' ∧ Mod T W1 W')
  (W : World) (hB : Blk W B 9 #[.string ⟨s.toArray⟩]) (h0 : J [] W) :
  CallsIn Fence.wide 8 Tryz.prog 127 #[.func (.yield l) #[] #[], .pointer (some ⟨B, 0, none⟩)] W fun e W' => (∃ v, e = .returned v) ∧ J (lnsT s) W' := by
 refine callsIn_of_wp Tryz.func127 rfl trivial ?_ rfl;simp only [Tryz.ntmps127, List.size_toArray, List.length_cons, List.length_nil, Nat.reduceAdd, Nat.reduceSub, Array.replicate_succ, Array.replicate_zero, List.push_toArray, List.append_toArray, List.nil_append, List.cons_append]
 gi_wp2
 gi_loopw [3] (fun i wr => ∃ (pre : List Str) (t : Str), lnsT s = pre ++ lnsT t ∧ pre.length + t.length ≤ s.length ∧ Blk wr B 9 #[.string ⟨t.toArray⟩] ∧ J pre wr)
  (fun i wr => match wr.cell? ⟨B, 0, none⟩ with | some (.string b) => b.size | _ => 0)
 case atStart => exact ⟨[], s, rfl, by simp, hB, h0⟩
 case round =>
  obtain ⟨pre, t, hln, hlen, hb, hJ⟩ := hrel;have HLN := Lib.hid hln;have HJ := Lib.hid hJ;have HB := Lib.hid hb;have q0 := hb.cell 0;have q1 := hb.frozen 0;simp at q0 q1;clear hln hJ hb
  by_cases h0 : t = []
  ·subst h0
   gi_wp2
   go_end0
   exact ⟨⟨_, rfl⟩, by rw [HLN.out, lnsT_nil, List.append_nil]; exact HJ.out⟩
  have h1 : 0 < t.length := List.length_pos_iff.2 h0
  have hz : (⟨t.toArray⟩ : ByteArray).size = t.length := by simp [ByteArray.size]
  have hix := ixb_fst 10 t
  gi_wp2
  refine ⟨trivial, (callsIn_wide.2 (Any.strings_IndexByte Tryz.lays137 ⟨t.toArray⟩ 10 wr)).mono ?_⟩;rintro e wb ⟨rfl, rfl⟩;rw [show Lib.indexByte (⟨t.toArray⟩ : ByteArray).data.toList (10 : Int).toNat.toUInt8 = Lib.indexByte t 10 from rfl, hix];clear hix
  cases hf : fstL 10 t with
  | none =>
   have HF := Lib.hid hf;clear hf;obtain ⟨W2, hW2⟩ : ∃ W2, W2 = wb.setCell ⟨B, 0, none⟩ (.string ⟨#[]⟩) := ⟨_, rfl⟩
   have hb2 : Blk W2 B 9 #[.string ⟨#[]⟩] := by rw [hW2]; exact HB.out.set 0 _
   obtain ⟨fn, tmps, assign, body, hy, hR⟩ := hY pre t W2 (by omega) (hJB _ _ _ HJ.out (by rw [hW2]; exact Mod.setCell (S := (· = B)) (p := ⟨B, 0, none⟩) (Mod.refl _ _) (.inl rfl) _)) (by omega);simp only
   gi_wp2
   rw [← hW2, hy]
   gi_wp2
   try rw [← hW2]
   refine hR.mono ?_;rintro e W3 ⟨rfl, hJ3, hM3⟩;have hb3 := hb2.mod hM3 hTB
   gi_wp2
   go_roundw
   case rel => exact ⟨pre ++ [t], [], by rw [HLN.out, lnsT_none h0 HF.out, lnsT_nil, List.append_nil], by simp; omega, hb3, hJ3⟩
   case measure =>
    have e1 := HB.out.cell 0;have e2 := hb3.cell 0;simp at e1 e2;simp [e1, e2, ByteArray.size]
    omega
  | some p =>
   have HF := Lib.hid hf;obtain ⟨hp1, hp2⟩ := fstL_some (x := p.1) (y := p.2) hf;have hpl := fstL_len hf;clear hf;simp only
   gi_wp2
   refine wpIn_wide.2 ?_
   have j1 : (0 : Int) ≤ (p.1.length : Int) + 1 := by omega
   have j2 : (p.1.length : Int) + 1 ≤ (t.length : Int) := by omega
   have htk : t.take (p.1.length + 1) = p.1 ++ [10] := by rw [hp1, show p.1 ++ 10 :: p.2 = (p.1 ++ [10]) ++ p.2 by simp]; exact List.take_left' (by simp)
   have hdk : t.drop (p.1.length + 1) = p.2 := by rw [hp1, show p.1 ++ 10 :: p.2 = (p.1 ++ [10]) ++ p.2 by simp]; exact List.drop_left' (by simp)
   obtain ⟨ln, hln⟩ : ∃ ln, p.1 ++ [10] = ln := ⟨_, rfl⟩;rw [hln] at htk;have HTK := Lib.hid htk;have HL := Lib.hid hln;clear hln;have HDK := Lib.hid hdk;have hwr : IntKind.i64.wrap ((p.1.length : Int) + 1) = (p.1.length : Int) + 1 := IntWalk.i64_in _ (by omega)
   have hnt : ((p.1.length : Int) + 1).toNat = p.1.length + 1 := by omega
   have j3 : (p.1.length : Int) + 1 ≤ (p.1.length : Int) + 1 + (p.2.length : Int) := by omega
   have he3 : (⟨t.toArray⟩ : ByteArray).extract 0 (p.1.length + 1) = ⟨ln.toArray⟩ := by rw [ext_takeL, htk]
   have he7 : (⟨t.toArray⟩ : ByteArray).extract (p.1.length + 1) (p.1.length + 1 + p.2.length) = ⟨p.2.toArray⟩ := by rw [← hpl, ext_dropL, hdk]
   clear htk hdk hp1 hp2 q0 q1;have HGs := Lib.hid (show ∀ (D : Nat → Bool) (zzi : Nat) (zq zq' : World), zzi ≠ 9 → (fun D zq => (D 9 = false → (fun Z => Blk Z B 9 #[.string ⟨t.toArray⟩]) zq) ∧ (fun Z => D 9 = true → Blk Z B 9 #[.string ⟨p.2.toArray⟩]) zq) D zq → Mod (fun _ => False) zq zq' → (fun D zq => (D 9 = false → (fun Z => Blk Z B 9 #[.string ⟨t.toArray⟩]) zq) ∧ (fun Z => D 9 = true → Blk Z B 9 #[.string ⟨p.2.toArray⟩]) zq) (upd D zzi true) zq' from by intro D zzi zq zq' hi hh hm; refine ⟨fun hs => ?_, ?_⟩; (rw [upd_ne _ _ (Ne.symm hi)] at hs; have h := hh.1 hs; (exact h.modp hm)); (have h := hh.2; (intro hs; rw [upd_ne _ _ (Ne.symm hi)] at hs; exact (h hs).modp hm)))
   refine wp_region_inv (by kernel_rfl) (by kernel_rfl) (InvF (R := Mod (fun _ => False)) [.is (.string ⟨t.toArray⟩),
     .is (.int .i64 (p.1.length : Int)),
     .is (.int .i64 ((p.1.length : Int) + 1)),
     .is (.string ⟨ln.toArray⟩),
     .is (.string ⟨t.toArray⟩),
     .is (.int .i64 (p.1.length : Int)),
     .is (.int .i64 ((p.1.length : Int) + 1)),
     .is (.string ⟨p.2.toArray⟩),
     .is (.string ⟨ln.toArray⟩),
     .any]
     (PB wb (· = B) wb.heap.size (fun D zq => (D 9 = false → (fun Z => Blk Z B 9 #[.string ⟨t.toArray⟩]) zq) ∧ (fun Z => D 9 = true → Blk Z B 9 #[.string ⟨p.2.toArray⟩]) zq))) (InvF.start (PB.start (Mod.refl _ _) (Nat.le_refl _) (⟨fun _ => HB.out, (fun h => by cases h)⟩))) ?_ ?_
   ·refine .cons ?_ (.cons ?_ (.cons ?_ (.cons ?_ (.cons ?_ (.cons ?_ (.cons ?_ (.cons ?_ (.cons ?_ (.cons ?_ .nil)))))))))
    ·intro D V zw1 a hR hI K hK;obtain ⟨hM1, hB1, hG1⟩ := hI.1;obtain ⟨hGK, hG1⟩ := hG1;have ze1 := hR.frame.other (t := 1) (by kernel_rfl) rfl;have zx0 := (hGK (hR.later 9 rfl (by kernel_rfl))).cell 0; simp at zx0;rw [if_pos (by rfl)];go_simp;exact hK (.string ⟨t.toArray⟩) _ (hI.next hR (by kernel_rfl) (Mod.refl _ _) (PB.quiet hI.1 (Mod.refl _ _) (HGs.out D 0 zw1 zw1 (by omega) (hI.1).g (Mod.refl _ _))) (upd_same V 0 _))
    ·intro D V zw1 a hR hI K hK;obtain ⟨hM1, hB1, hG1⟩ := hI.1;obtain ⟨hGK, hG1⟩ := hG1;have ze4 := hR.frame.other (t := 4) (by kernel_rfl) rfl;rw [if_pos (by rfl)];go_simp;exact hK (.int .i64 (p.1.length : Int)) _ (hI.next hR (by kernel_rfl) (Mod.refl _ _) (PB.quiet hI.1 (Mod.refl _ _) (HGs.out D 1 zw1 zw1 (by omega) (hI.1).g (Mod.refl _ _))) (upd_same V 1 _))
    ·intro D V zw1 a hR hI K hK;obtain ⟨hM1, hB1, hG1⟩ := hI.1;obtain ⟨hGK, hG1⟩ := hG1;have zd1 := hR.pred 1 (by kernel_rfl);have zf1 : V 1 = .int .i64 (p.1.length : Int) := hI.2 1 zd1 rfl;have ze13 := hR.frame.done (t := 13) (j := 1) (by kernel_rfl) hR.ok zd1;rw [if_pos (by rfl)];go_simp;exact hK (.int .i64 ((p.1.length : Int) + 1)) _ (hI.next hR (by kernel_rfl) (Mod.refl _ _) (PB.quiet hI.1 (Mod.refl _ _) (HGs.out D 2 zw1 zw1 (by omega) (hI.1).g (Mod.refl _ _))) (upd_same V 2 _))
    ·intro D V zw1 a hR hI K hK;obtain ⟨hM1, hB1, hG1⟩ := hI.1;obtain ⟨hGK, hG1⟩ := hG1;have zd0 := hR.pred 0 (by kernel_rfl);have zf0 : V 0 = .string ⟨t.toArray⟩ := hI.2 0 zd0 rfl;have zd2 := hR.pred 2 (by kernel_rfl);have zf2 : V 2 = .int .i64 ((p.1.length : Int) + 1) := hI.2 2 zd2 rfl;have ze12 := hR.frame.done (t := 12) (j := 0) (by kernel_rfl) hR.ok zd0;have ze14 := hR.frame.done (t := 14) (j := 2) (by kernel_rfl) hR.ok zd2;rw [if_pos (by rfl)];go_simp;exact hK (.string ⟨ln.toArray⟩) _ (hI.next hR (by kernel_rfl) (Mod.refl _ _) (PB.quiet hI.1 (Mod.refl _ _) (HGs.out D 3 zw1 zw1 (by omega) (hI.1).g (Mod.refl _ _))) (upd_same V 3 _))
    ·intro D V zw1 a hR hI K hK;obtain ⟨hM1, hB1, hG1⟩ := hI.1;obtain ⟨hGK, hG1⟩ := hG1;have ze1 := hR.frame.other (t := 1) (by kernel_rfl) rfl;have zx0 := (hGK (hR.later 9 rfl (by kernel_rfl))).cell 0; simp at zx0;rw [if_pos (by rfl)];go_simp;exact hK (.string ⟨t.toArray⟩) _ (hI.next hR (by kernel_rfl) (Mod.refl _ _) (PB.quiet hI.1 (Mod.refl _ _) (HGs.out D 4 zw1 zw1 (by omega) (hI.1).g (Mod.refl _ _))) (upd_same V 4 _))
    ·intro D V zw1 a hR hI K hK;obtain ⟨hM1, hB1, hG1⟩ := hI.1;obtain ⟨hGK, hG1⟩ := hG1;have ze4 := hR.frame.other (t := 4) (by kernel_rfl) rfl;rw [if_pos (by rfl)];go_simp;exact hK (.int .i64 (p.1.length : Int)) _ (hI.next hR (by kernel_rfl) (Mod.refl _ _) (PB.quiet hI.1 (Mod.refl _ _) (HGs.out D 5 zw1 zw1 (by omega) (hI.1).g (Mod.refl _ _))) (upd_same V 5 _))
    ·intro D V zw1 a hR hI K hK;obtain ⟨hM1, hB1, hG1⟩ := hI.1;obtain ⟨hGK, hG1⟩ := hG1;have zd5 := hR.pred 5 (by kernel_rfl);have zf5 : V 5 = .int .i64 (p.1.length : Int) := hI.2 5 zd5 rfl;have ze17 := hR.frame.done (t := 17) (j := 5) (by kernel_rfl) hR.ok zd5;rw [if_pos (by rfl)];go_simp;exact hK (.int .i64 ((p.1.length : Int) + 1)) _ (hI.next hR (by kernel_rfl) (Mod.refl _ _) (PB.quiet hI.1 (Mod.refl _ _) (HGs.out D 6 zw1 zw1 (by omega) (hI.1).g (Mod.refl _ _))) (upd_same V 6 _))
    ·intro D V zw1 a hR hI K hK;obtain ⟨hM1, hB1, hG1⟩ := hI.1;obtain ⟨hGK, hG1⟩ := hG1;have zd4 := hR.pred 4 (by kernel_rfl);have zf4 : V 4 = .string ⟨t.toArray⟩ := hI.2 4 zd4 rfl;have zd6 := hR.pred 6 (by kernel_rfl);have zf6 : V 6 = .int .i64 ((p.1.length : Int) + 1) := hI.2 6 zd6 rfl;have ze16 := hR.frame.done (t := 16) (j := 4) (by kernel_rfl) hR.ok zd4;have ze18 := hR.frame.done (t := 18) (j := 6) (by kernel_rfl) hR.ok zd6;rw [if_pos (by rfl)];go_simp;exact hK (.string ⟨p.2.toArray⟩) _ (hI.next hR (by kernel_rfl) (Mod.refl _ _) (PB.quiet hI.1 (Mod.refl _ _) (HGs.out D 7 zw1 zw1 (by omega) (hI.1).g (Mod.refl _ _))) (upd_same V 7 _))
    ·intro D V zw1 a hR hI K hK;obtain ⟨hM1, hB1, hG1⟩ := hI.1;obtain ⟨hGK, hG1⟩ := hG1;have zd3 := hR.pred 3 (by kernel_rfl);have zf3 : V 3 = .string ⟨ln.toArray⟩ := hI.2 3 zd3 rfl;have ze15 := hR.frame.done (t := 15) (j := 3) (by kernel_rfl) hR.ok zd3;rw [if_pos (by rfl)];go_simp;exact hK (.string ⟨ln.toArray⟩) _ (hI.next hR (by kernel_rfl) (Mod.refl _ _) (PB.quiet hI.1 (Mod.refl _ _) (HGs.out D 8 zw1 zw1 (by omega) (hI.1).g (Mod.refl _ _))) (upd_same V 8 _))
    ·intro D V zw1 a hR hI K hK;obtain ⟨hM1, hB1, hG1⟩ := hI.1;obtain ⟨hGK, hG1⟩ := hG1;have zd7 := hR.pred 7 (by kernel_rfl);have zf7 : V 7 = .string ⟨p.2.toArray⟩ := hI.2 7 zd7 rfl;have ze1 := hR.frame.other (t := 1) (by kernel_rfl) rfl;have ze19 := hR.frame.done (t := 19) (j := 7) (by kernel_rfl) hR.ok zd7;rw [if_pos (by rfl)];have zx0 := (hGK hR.not).cell 0; have zy0 := (hGK hR.not).frozen 0;simp at zx0 zy0;go_simp;refine hK undef _ (InvF.last ⟨hM1.setCell (.inl rfl) _, (by simpa using hB1), ⟨fun hs => absurd hs (by rw [upd_same]; decide), fun _ => (hGK hR.not).set 0 _⟩⟩ trivial ?_);intro k hk hDk hlv;have hkl := hR.lt k hDk;have hv := hI.2 k hDk (liveB_of hlv)
     match k, hk, hDk, hlv, hkl, hv with
     | 0, _, _, _, _, hv => exact hv
     | 1, _, _, _, _, hv => exact hv
     | 2, _, _, _, _, hv => exact hv
     | 3, _, _, _, _, hv => exact hv
     | 4, _, _, _, _, hv => exact hv
     | 5, _, _, _, _, hv => exact hv
     | 6, _, _, _, _, hv => exact hv
     | 7, _, _, _, _, hv => exact hv
     | 8, _, _, _, _, hv => exact hv
     | 9, hk, _, _, _, _ => exact absurd rfl hk
     | k + 10, _, _, _, hkl, _ => exact absurd hkl (by simp)
   ·intro D V w2 hD hI;obtain ⟨hM1, hB1, hG1⟩ := hI.1;have hMx := hM1;clear hM1;have hBx := hB1;clear hB1;have hGx := hG1.2 (hD 9 (by decide));clear hG1;have zf0 : V 0 = .string ⟨t.toArray⟩ := hI.2 0 (hD 0 (by decide)) rfl;have zf1 : V 1 = .int .i64 (p.1.length : Int) := hI.2 1 (hD 1 (by decide)) rfl;have zf2 : V 2 = .int .i64 ((p.1.length : Int) + 1) := hI.2 2 (hD 2 (by decide)) rfl;have zf3 : V 3 = .string ⟨ln.toArray⟩ := hI.2 3 (hD 3 (by decide)) rfl;have zf4 : V 4 = .string ⟨t.toArray⟩ := hI.2 4 (hD 4 (by decide)) rfl;have zf5 : V 5 = .int .i64 (p.1.length : Int) := hI.2 5 (hD 5 (by decide)) rfl;have zf6 : V 6 = .int .i64 ((p.1.length : Int) + 1) := hI.2 6 (hD 6 (by decide)) rfl;have zf7 : V 7 = .string ⟨p.2.toArray⟩ := hI.2 7 (hD 7 (by decide)) rfl;have zf8 : V 8 = .string ⟨ln.toArray⟩ := hI.2 8 (hD 8 (by decide)) rfl;clear hI hD HGs;simp only [frAll, Act.put, List.setIfInBounds_toArray, List.set_cons_zero, List.set_cons_succ, Nat.zero_add, Nat.reduceAdd, zf0, zf1, zf2, zf3, zf4, zf5, zf6, zf7, zf8];clear zf0 zf1 zf2 zf3 zf4 zf5 zf6 zf7 zf8;clear V D;obtain ⟨fn, tmps, assign, body, hy, hR⟩ := hY pre ln w2 (by rw [← HL.out]; simp; omega) (hJB _ _ _ HJ.out hMx) (by omega)
    try dsimp only at hy
    gi_wp2
    refine hR.mono ?_;rintro e W3 ⟨rfl, hJ3, hM3⟩;have hb3 := hGx.mod hM3 hTB
    gi_wp2
    go_roundw
    case rel => exact ⟨pre ++ [ln], p.2, by rw [HLN.out, lnsT_some HF.out, HL.out, List.append_assoc]; rfl, by simp; omega, hb3, hJ3⟩
    case measure =>
     have e1 := HB.out.cell 0;have e2 := hb3.cell 0;simp at e1 e2;simp [e1, e2, ByteArray.size]
     omega
end Go.Proofs.YtelpdjhkedhppaaGreatDoor
