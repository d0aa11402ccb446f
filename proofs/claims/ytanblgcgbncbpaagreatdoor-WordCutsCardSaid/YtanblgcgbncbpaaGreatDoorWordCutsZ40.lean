/- Texts of the proof of WordCuts, put together: WrdE, QrA, QrB, QrK, LayVal, LayCon, VisA, TxtR, ItmE, ItlP, ItxP, IhdP, QryT, LayWra, LayAto, LayIto. -/
import Derived.Test.YtanblgcgbncbpaaGreatDoorWordCutsZ2
import Derived.Test.YtanblgcgbncbpaaGreatDoorWordCutsZ10
import Derived.Test.YtanblgcgbncbpaaGreatDoorWordCutsZ18
import Derived.Test.YtanblgcgbncbpaaGreatDoorWordCutsZ20
import Derived.Test.YtanblgcgbncbpaaGreatDoorWordCutsZ21
import Derived.Test.YtanblgcgbncbpaaGreatDoorWordCutsZ22
import Derived.Test.YtanblgcgbncbpaaGreatDoorWordCutsZ24
import Derived.Test.YtanblgcgbncbpaaGreatDoorWordCutsZ25
import Derived.Test.YtanblgcgbncbpaaGreatDoorWordCutsZ31
import Derived.Test.YtanblgcgbncbpaaGreatDoorWordCutsZ35
import Derived.Test.YtanblgcgbncbpaaGreatDoorWordCutsZ39
import Derived.Deep.DeepCutAuto
import Derived.Deep.CutBlock
import Derived.Ground.NamesProg
import Derived.Shelf.Unicode.ValidAny
import Derived.Test.YtanblgcgbncbpaaGreatDoorProg
import Derived.Shelf.Strings.Search3
import Derived.Shelf.Strings.Prefix
import Derived.Lib.Join
import Derived.Lib.ItoaLen
import Derived.Shelf.Small.Wraps
import Derived.Shelf.Strconv.Atoi
import Derived.Shelf.Strconv.Itoa3
/- Patterns of the reference. -/
namespace Go.Proofs.YtanblgcgbncbpaaGreatDoor
set_option linter.unusedVariables false
set_option linter.unusedSimpArgs false
open Go.RowKit

theorem smB_low (c : UInt8) : smB c = (letB c && lowB c == c) := by
 have key : ∀ c : Fin 256, smB (UInt8.ofNat c.val) = (letB (UInt8.ofNat c.val) && lowB (UInt8.ofNat c.val) == UInt8.ofNat c.val) := by decide +kernel
 have h := key ⟨c.toNat, c.toNat_lt⟩
 simpa using h
theorem smB_not (c : UInt8) (h : c.toNat = 63 ∨ c.toNat = 42) : smB c = false := by
 rw [smB_nat, letB_nat]
 rcases h with h | h <;> rw [h] <;> rfl
/-- A byte of a pattern, as the reference looks at it. -/
def patR (sm : Bool) (N i n : Nat) : Bool := (decide (n = 42) && decide (i + 1 = N)) || (decide (n = 63) || sm)
theorem patR_nat (N i : Nat) (c : UInt8) (h : i = 0 → c.toNat ≠ 63 ∧ c.toNat ≠ 42) : patC N i c = patR (smB c) N i c.toNat := by
 rw [patC_nat]
 unfold patN patR
 by_cases h0 : i = 0
 ·obtain ⟨h1, h2⟩ := h h0
  simp [h0, h1, h2]
 ·simp only [ne_eq, h0, not_false_eq_true, decide_true, Bool.true_and]
  cases smB c <;> cases decide (c.toNat = 63) <;> cases decide (c.toNat = 42) <;> cases decide (i + 1 = N) <;> rfl
theorem patAll_first {s : Str} (h : 0 < s.length) (hc : s[0].toNat = 63 ∨ s[0].toNat = 42) : patAll s s.length = false :=
 patAll_false h (by rw [patC_nat]; unfold patN; rw [smB_not _ hc]; rfl)

set_option maxRecDepth 100000 in
set_option maxHeartbeats 8000000 in
theorem patternIs_calls (w : World) (s : Str) (hs : s.length ≤ 1000000) : Calls Tryz.prog 17 #[.string ⟨s.toArray⟩] w (BoolPost w (patB s)) := by
 have hz : (⟨s.toArray⟩ : ByteArray).size = s.length := by simp [ByteArray.size]
 have HPB := Lib.hid (patB_all s)
 obtain ⟨n, hn⟩ : ∃ n, n = s.length := ⟨_, rfl⟩
 rw [← hn] at hz hs HPB
 have HN := Lib.hid hn
 clear hn
 obtain ⟨pb, hpb⟩ : ∃ pb, patB s = pb := ⟨_, rfl⟩
 rw [hpb] at HPB ⊢
 clear hpb
 go_enter Tryz.func17, Tryz.ntmps17
 go_wp2_with fail
 refine (rin_calls _ _ _ _).mono ?_
 rintro e w' ⟨rfl, rfl⟩
 by_cases hn1 : 1 ≤ n ∧ n ≤ 40
 rotate_left
 ·have hin : inB (n : Int) 1 40 = false := by
   cases h : inB (n : Int) 1 40
   ·rfl
   ·have := inB_true h
    omega
  rw [hin]
  have HR : Hid (pb = false) := Lib.hid (by rw [HPB.out, decide_eq_false hn1]; rfl)
  clear HPB hin
  go_wp2_with fail
  try simp only [Exit.inBlock, Exit.then]
  refine bodyPost_ret (v := .bool false) (by simp [results, Tryz.results17, go_sem]) rfl ?_
  rw [HR.out]
  exact ⟨rfl, Mod.refl _ _⟩
 have hin : inB (n : Int) 1 40 = true := by
  cases h : inB (n : Int) 1 40
  ·have := inB_false h
   omega
  ·rfl
 rw [hin]
 have hn0 : 0 < n := by omega
 have hlt0 : 0 < s.length := by rw [← HN.out]; exact hn0
 have hix0 : (⟨s.toArray⟩ : ByteArray)[0]'(by rw [hz]; exact hn0) = s[0] := rfl
 have HF0 := Lib.hid (fun h => patAll_first hlt0 h)
 have HPA : Hid (pb = patAll s n) := Lib.hid (by rw [HPB.out, decide_eq_true hn1]; rfl)
 obtain ⟨c0, hc0⟩ : ∃ c0, s[0].toNat = c0 := ⟨_, rfl⟩
 rw [hc0, ← HN.out] at HF0
 have HC0 := Lib.hid hc0
 clear HPB hin hc0
 by_cases h63 : c0 = 63
 ·have h63i : ((s[0].toNat : Int) == 63) = true := by have := HC0.out; simp; omega
  have HR : Hid (pb = false) := Lib.hid (by rw [HPA.out]; exact HF0.out (.inl h63))
  clear HPA HF0 h63
  go_wp2_with fail
  try simp only [Exit.inBlock, Exit.then]
  refine bodyPost_ret (v := .bool false) (by simp [results, Tryz.results17, go_sem]) rfl ?_
  rw [HR.out]
  exact ⟨rfl, Mod.refl _ _⟩
 have h63i : ((s[0].toNat : Int) == 63) = false := by have := HC0.out; simp; omega
 by_cases h42 : c0 = 42
 ·have h42i : ((s[0].toNat : Int) == 42) = true := by have := HC0.out; simp; omega
  have HR : Hid (pb = false) := Lib.hid (by rw [HPA.out]; exact HF0.out (.inr h42))
  clear HPA HF0 h42 h63
  go_wp2_with fail
  try simp only [Exit.inBlock, Exit.then]
  refine bodyPost_ret (v := .bool false) (by simp [results, Tryz.results17, go_sem]) rfl ?_
  rw [HR.out]
  exact ⟨rfl, Mod.refl _ _⟩
 have h42i : ((s[0].toNat : Int) == 42) = false := by have := HC0.out; simp; omega
 have HFST : Hid (∀ (k : Nat) (h : k < s.length), k = 0 → s[k].toNat ≠ 63 ∧ s[k].toNat ≠ 42) := Lib.hid (fun k h e => by subst e; have := HC0.out; omega)
 clear HF0 h63 h42 HC0
 go_wp2_with fail
 clear h63i h42i hix0
 go_loopg [21] n (fun gk i wr => ∃ k : Nat, n - k = gk ∧ k ≤ n ∧ i = .int .i64 (k : Int) ∧ patAll s k = true ∧ Pure w wr)
 case atStart => exact ⟨0, by omega, by omega, rfl, rfl, Mod.refl _ _⟩
 case round =>
  obtain ⟨k, rfl, hk, rfl, hpa, hm⟩ := hrel
  have HP : Hid (Pure w wr) := Lib.hid hm
  clear hm
  by_cases hlt : k < n
  ·have hlt2 : k < s.length := by rw [← HN.out]; exact hlt
   have HSU := Lib.hid (patAll_succ s k hlt2)
   have HFA := Lib.hid (patAll_false hlt2)
   have HPC := Lib.hid (patR_nat s.length k s[k] (HFST.out k hlt2))
   have hix : (⟨s.toArray⟩ : ByteArray)[k]'(by rw [hz]; exact hlt) = s[k] := rfl
   have hex : (⟨s.toArray⟩ : ByteArray).extract k (k + 1) = ⟨#[s[k]]⟩ := by
    rw [ext_sub]
    congr 1
    unfold subS
    rw [List.take_succ_eq_append_getElem hlt2, List.drop_append, List.drop_of_length_le (by rw [List.length_take]; omega), List.length_take, Nat.min_eq_left (by omega), Nat.sub_self]
    rfl
   rw [← HN.out] at HPC HFA HSU
   obtain ⟨cc, hcc⟩ : ∃ cc, s[k] = cc := ⟨_, rfl⟩
   rw [hcc] at HSU HFA HPC hix hex
   have HSM := Lib.hid (smB_low cc)
   have HLT : Hid (∀ W, Calls Tryz.prog 40 #[.int .u8 (cc.toNat : Int)] W (BoolPost W (letB cc))) := Lib.hid (fun W => (letterR_calls cc W).mono (fun e w' h => ⟨h.1, h.2 ▸ Mod.refl _ _⟩))
   have HSL : Hid (∀ W, Calls Tryz.prog 41 #[.string ⟨#[cc]⟩] W (fun e w' => e = .returned (.string ⟨#[lowB cc]⟩) ∧ Pure W w')) := Lib.hid (fun W => smallR_calls W [cc] (by simp))
   obtain ⟨pc, hpc⟩ : ∃ pc, patC n k cc = pc := ⟨_, rfl⟩
   obtain ⟨sm, hsm⟩ : ∃ sm, smB cc = sm := ⟨_, rfl⟩
   obtain ⟨lb, hlb⟩ : ∃ lb, letB cc = lb := ⟨_, rfl⟩
   obtain ⟨d, hd⟩ : ∃ d, lowB cc = d := ⟨_, rfl⟩
   obtain ⟨c, hc⟩ : ∃ c, cc.toNat = c := ⟨_, rfl⟩
   rw [hpc] at HSU HFA HPC
   rw [hsm] at HPC HSM
   rw [hlb] at HSM HLT
   rw [hd] at HSM HSL
   rw [hc] at HPC HLT
   have hcb : c < 256 := by rw [← hc]; exact cc.toNat_lt
   clear hcc hpc hsm hlb hd HFST
   have h := HPC.out
   unfold patR at h
   have YES : Hid (pc = true → patAll s (k + 1) = true) := Lib.hid (fun h => by rw [HSU.out, hpa, h]; rfl)
   have NO : Hid (pc = false → pb = false) := Lib.hid (fun h => by rw [HPA.out]; exact HFA.out h)
   clear HPC HSU HFA hpa HPA
   by_cases h63 : c = 63
   ·have h63i : ((c : Int) != 63) = false := by simp; omega
    have h42i : ((c : Int) == 42) = false := by simp; omega
    have e : pc = true := by rw [h, decide_eq_true h63, Bool.true_or, Bool.or_true]
    have HS2 := Lib.hid (YES.out e)
    clear YES NO h HSM h63
    go_upto_region 7 with (fail)
    have HGs := Lib.hid (show ∀ (D : Nat → Bool) (zzi : Nat) (zq zq' : World), (fun _ zq => (fun Z => ∃ hz : Nat, hz = Z.heap.size) zq) D zq → Mod (fun _ => False) zq zq' → (fun _ zq => (fun Z => ∃ hz : Nat, hz = Z.heap.size) zq) (upd D zzi true) zq' from by intro D zzi zq zq' h hm; (exact ⟨_, rfl⟩))
    refine wp_region_inv (by kernel_rfl) (by kernel_rfl) (InvF (R := Mod (fun _ => False)) [.is (.bool false),
      .is (.bool true),
      .is (.bool true),
      .is (.string ⟨s.toArray⟩),
      .is (.int .i64 (k : Int)),
      .is (.int .u8 (c : Int)),
      .is (.bool false),
      .is (.bool false),
      .is (.bool false),
      .is (undef),
      .is (undef),
      .is (undef),
      .is (undef),
      .is (undef),
      .is (undef),
      .is (undef),
      .is (undef),
      .is (undef),
      .is (undef),
      .is (undef),
      .is (undef),
      .is (undef),
      .is (undef),
      .is (undef),
      .is (undef),
      .is (undef),
      .is (undef),
      .is (undef),
      .is (.bool false)]
      (PB wr (fun _ => False) wr.heap.size (fun _ zq => (fun Z => ∃ hz : Nat, hz = Z.heap.size) zq))) (InvF.start (PB.start (Mod.refl _ _) (Nat.le_refl _) (⟨_, rfl⟩))) ?_ ?_
    ·refine .cons ?_ (.cons ?_ (.cons ?_ (.cons ?_ (.cons ?_ (.cons ?_ (.cons ?_ (.cons ?_ (.cons ?_ (.cons ?_ (.cons ?_ (.cons ?_ (.cons ?_ (.cons ?_ (.cons ?_ (.cons ?_ (.cons ?_ (.cons ?_ (.cons ?_ (.cons ?_ (.cons ?_ (.cons ?_ (.cons ?_ (.cons ?_ (.cons ?_ (.cons ?_ (.cons ?_ (.cons ?_ (.cons ?_ .nil))))))))))))))))))))))))))))
     ·intro D V zw1 a hR hI K hK
      obtain ⟨hM1, hB1, hG1⟩ := hI.1
      have ze4 := hR.frame.other (t := 4) (by kernel_rfl) rfl
      rw [if_pos (by rfl)]
      go_simp
      exact hK (.bool false) _ (hI.next hR (by kernel_rfl) (Mod.refl _ _) (PB.quiet hI.1 (Mod.refl _ _) (HGs.out D 0 zw1 zw1 (hI.1).g (Mod.refl _ _))) (upd_same V 0 _))
     ·intro D V zw1 a hR hI K hK
      obtain ⟨hM1, hB1, hG1⟩ := hI.1
      have zd0 := hR.pred 0 (by kernel_rfl)
      have zF0 : V 0 = .bool false := hI.2 0 zd0 rfl
      have zf0 := zF0; clear zF0
      have ze35 := hR.frame.done (t := 35) (j := 0) (by kernel_rfl) hR.ok zd0
      rw [if_pos (by rfl)]
      go_simp
      exact hK (.bool true) _ (hI.next hR (by kernel_rfl) (Mod.refl _ _) (PB.quiet hI.1 (Mod.refl _ _) (HGs.out D 1 zw1 zw1 (hI.1).g (Mod.refl _ _))) (upd_same V 1 _))
     ·intro D V zw1 a hR hI K hK
      obtain ⟨hM1, hB1, hG1⟩ := hI.1
      have zd1 := hR.pred 1 (by kernel_rfl)
      have zF1 : V 1 = .bool true := hI.2 1 zd1 rfl
      have zf1 := zF1; clear zF1
      have ze36 := hR.frame.done (t := 36) (j := 1) (by kernel_rfl) hR.ok zd1
      rw [if_pos (by rfl)]
      go_simp
      exact hK (.bool true) _ (hI.next hR (by kernel_rfl) (Mod.refl _ _) (PB.quiet hI.1 (Mod.refl _ _) (HGs.out D 2 zw1 zw1 (hI.1).g (Mod.refl _ _))) (upd_same V 2 _))
     ·intro D V zw1 a hR hI K hK
      obtain ⟨hM1, hB1, hG1⟩ := hI.1
      have zd2 := hR.pred 2 (by kernel_rfl)
      have zF2 : V 2 = .bool true := hI.2 2 zd2 rfl
      have zf2 := zF2; clear zF2
      have ze0 := hR.frame.other (t := 0) (by kernel_rfl) rfl
      have ze37 := hR.frame.done (t := 37) (j := 2) (by kernel_rfl) hR.ok zd2
      rw [if_pos (by simp [Region.wanted, yielded, ze37, zf2])]
      go_simp
      exact hK (.string ⟨s.toArray⟩) _ (hI.next hR (by kernel_rfl) (Mod.refl _ _) (PB.quiet hI.1 (Mod.refl _ _) (HGs.out D 3 zw1 zw1 (hI.1).g (Mod.refl _ _))) (upd_same V 3 _))
     ·intro D V zw1 a hR hI K hK
      obtain ⟨hM1, hB1, hG1⟩ := hI.1
      have zd2 := hR.pred 2 (by kernel_rfl)
      have zF2 : V 2 = .bool true := hI.2 2 zd2 rfl
      have zf2 := zF2; clear zF2
      have ze3 := hR.frame.other (t := 3) (by kernel_rfl) rfl
      have ze37 := hR.frame.done (t := 37) (j := 2) (by kernel_rfl) hR.ok zd2
      rw [if_pos (by simp [Region.wanted, yielded, ze37, zf2])]
      go_simp
      exact hK (.int .i64 (k : Int)) _ (hI.next hR (by kernel_rfl) (Mod.refl _ _) (PB.quiet hI.1 (Mod.refl _ _) (HGs.out D 4 zw1 zw1 (hI.1).g (Mod.refl _ _))) (upd_same V 4 _))
     ·intro D V zw1 a hR hI K hK
      obtain ⟨hM1, hB1, hG1⟩ := hI.1
      have zd3 := hR.pred 3 (by kernel_rfl)
      have zF3 : V 3 = .string ⟨s.toArray⟩ := hI.2 3 zd3 rfl
      have zf3 := zF3; clear zF3
      have zd4 := hR.pred 4 (by kernel_rfl)
      have zF4 : V 4 = .int .i64 (k : Int) := hI.2 4 zd4 rfl
      have zf4 := zF4; clear zF4
      have zd2 := hR.pred 2 (by kernel_rfl)
      have zF2 : V 2 = .bool true := hI.2 2 zd2 rfl
      have zf2 := zF2; clear zF2
      have ze38 := hR.frame.done (t := 38) (j := 3) (by kernel_rfl) hR.ok zd3
      have ze39 := hR.frame.done (t := 39) (j := 4) (by kernel_rfl) hR.ok zd4
      have ze37 := hR.frame.done (t := 37) (j := 2) (by kernel_rfl) hR.ok zd2
      rw [if_pos (by simp [Region.wanted, yielded, ze37, zf2])]
      go_simp
      exact hK (.int .u8 (c : Int)) _ (hI.next hR (by kernel_rfl) (Mod.refl _ _) (PB.quiet hI.1 (Mod.refl _ _) (HGs.out D 5 zw1 zw1 (hI.1).g (Mod.refl _ _))) (upd_same V 5 _))
     ·intro D V zw1 a hR hI K hK
      obtain ⟨hM1, hB1, hG1⟩ := hI.1
      have zd5 := hR.pred 5 (by kernel_rfl)
      have zF5 : V 5 = .int .u8 (c : Int) := hI.2 5 zd5 rfl
      have zf5 := zF5; clear zF5
      have zd2 := hR.pred 2 (by kernel_rfl)
      have zF2 : V 2 = .bool true := hI.2 2 zd2 rfl
      have zf2 := zF2; clear zF2
      have ze40 := hR.frame.done (t := 40) (j := 5) (by kernel_rfl) hR.ok zd5
      have ze37 := hR.frame.done (t := 37) (j := 2) (by kernel_rfl) hR.ok zd2
      rw [if_pos (by simp [Region.wanted, yielded, ze37, zf2])]
      go_simp
      exact hK (.bool false) _ (hI.next hR (by kernel_rfl) (Mod.refl _ _) (PB.quiet hI.1 (Mod.refl _ _) (HGs.out D 6 zw1 zw1 (hI.1).g (Mod.refl _ _))) (upd_same V 6 _))
     ·intro D V zw1 a hR hI K hK
      obtain ⟨hM1, hB1, hG1⟩ := hI.1
      have zd2 := hR.pred 2 (by kernel_rfl)
      have zF2 : V 2 = .bool true := hI.2 2 zd2 rfl
      have zf2 := zF2; clear zF2
      have zd6 := hR.pred 6 (by kernel_rfl)
      have zF6 : V 6 = .bool false := hI.2 6 zd6 rfl
      have zf6 := zF6; clear zF6
      have ze37 := hR.frame.done (t := 37) (j := 2) (by kernel_rfl) hR.ok zd2
      have ze41 := hR.frame.done (t := 41) (j := 6) (by kernel_rfl) hR.ok zd6
      rw [if_pos (by rfl)]
      go_simp
      exact hK (.bool false) _ (hI.next hR (by kernel_rfl) (Mod.refl _ _) (PB.quiet hI.1 (Mod.refl _ _) (HGs.out D 7 zw1 zw1 (hI.1).g (Mod.refl _ _))) (upd_same V 7 _))
     ·intro D V zw1 a hR hI K hK
      obtain ⟨hM1, hB1, hG1⟩ := hI.1
      have zd7 := hR.pred 7 (by kernel_rfl)
      have zF7 : V 7 = .bool false := hI.2 7 zd7 rfl
      have zf7 := zF7; clear zF7
      have ze42 := hR.frame.done (t := 42) (j := 7) (by kernel_rfl) hR.ok zd7
      rw [if_pos (by rfl)]
      go_simp
      exact hK (.bool false) _ (hI.next hR (by kernel_rfl) (Mod.refl _ _) (PB.quiet hI.1 (Mod.refl _ _) (HGs.out D 8 zw1 zw1 (hI.1).g (Mod.refl _ _))) (upd_same V 8 _))
     ·intro D V zw1 a hR hI K hK
      obtain ⟨hM1, hB1, hG1⟩ := hI.1
      have zd8 := hR.pred 8 (by kernel_rfl)
      have zF8 : V 8 = .bool false := hI.2 8 zd8 rfl
      have zf8 := zF8; clear zF8
      have ze43 := hR.frame.done (t := 43) (j := 8) (by kernel_rfl) hR.ok zd8
      rw [if_neg (by simp [Region.wanted, yielded, ze43, zf8])]
      exact hK undef _ (hI.next hR (by kernel_rfl) (Mod.refl _ _) (PB.quiet hI.1 (Mod.refl _ _) (HGs.out D 9 zw1 zw1 (hI.1).g (Mod.refl _ _))) (upd_same V 9 _))
     ·intro D V zw1 a hR hI K hK
      obtain ⟨hM1, hB1, hG1⟩ := hI.1
      have zd8 := hR.pred 8 (by kernel_rfl)
      have zF8 : V 8 = .bool false := hI.2 8 zd8 rfl
      have zf8 := zF8; clear zF8
      have ze43 := hR.frame.done (t := 43) (j := 8) (by kernel_rfl) hR.ok zd8
      rw [if_neg (by simp [Region.wanted, yielded, ze43, zf8])]
      exact hK undef _ (hI.next hR (by kernel_rfl) (Mod.refl _ _) (PB.quiet hI.1 (Mod.refl _ _) (HGs.out D 10 zw1 zw1 (hI.1).g (Mod.refl _ _))) (upd_same V 10 _))
     ·intro D V zw1 a hR hI K hK
      obtain ⟨hM1, hB1, hG1⟩ := hI.1
      have zd8 := hR.pred 8 (by kernel_rfl)
      have zF8 : V 8 = .bool false := hI.2 8 zd8 rfl
      have zf8 := zF8; clear zF8
      have ze43 := hR.frame.done (t := 43) (j := 8) (by kernel_rfl) hR.ok zd8
      rw [if_neg (by simp [Region.wanted, yielded, ze43, zf8])]
      exact hK undef _ (hI.next hR (by kernel_rfl) (Mod.refl _ _) (PB.quiet hI.1 (Mod.refl _ _) (HGs.out D 11 zw1 zw1 (hI.1).g (Mod.refl _ _))) (upd_same V 11 _))
     ·intro D V zw1 a hR hI K hK
      obtain ⟨hM1, hB1, hG1⟩ := hI.1
      have zd8 := hR.pred 8 (by kernel_rfl)
      have zF8 : V 8 = .bool false := hI.2 8 zd8 rfl
      have zf8 := zF8; clear zF8
      have ze43 := hR.frame.done (t := 43) (j := 8) (by kernel_rfl) hR.ok zd8
      rw [if_neg (by simp [Region.wanted, yielded, ze43, zf8])]
      exact hK undef _ (hI.next hR (by kernel_rfl) (Mod.refl _ _) (PB.quiet hI.1 (Mod.refl _ _) (HGs.out D 12 zw1 zw1 (hI.1).g (Mod.refl _ _))) (upd_same V 12 _))
     ·intro D V zw1 a hR hI K hK
      obtain ⟨hM1, hB1, hG1⟩ := hI.1
      have zd8 := hR.pred 8 (by kernel_rfl)
      have zF8 : V 8 = .bool false := hI.2 8 zd8 rfl
      have zf8 := zF8; clear zF8
      have ze43 := hR.frame.done (t := 43) (j := 8) (by kernel_rfl) hR.ok zd8
      rw [if_neg (by simp [Region.wanted, yielded, ze43, zf8])]
      exact hK undef _ (hI.next hR (by kernel_rfl) (Mod.refl _ _) (PB.quiet hI.1 (Mod.refl _ _) (HGs.out D 13 zw1 zw1 (hI.1).g (Mod.refl _ _))) (upd_same V 13 _))
     ·intro D V zw1 a hR hI K hK
      obtain ⟨hM1, hB1, hG1⟩ := hI.1
      have zd8 := hR.pred 8 (by kernel_rfl)
      have zF8 : V 8 = .bool false := hI.2 8 zd8 rfl
      have zf8 := zF8; clear zF8
      have ze43 := hR.frame.done (t := 43) (j := 8) (by kernel_rfl) hR.ok zd8
      rw [if_neg (by simp [Region.wanted, yielded, ze43, zf8])]
      exact hK undef _ (hI.next hR (by kernel_rfl) (Mod.refl _ _) (PB.quiet hI.1 (Mod.refl _ _) (HGs.out D 14 zw1 zw1 (hI.1).g (Mod.refl _ _))) (upd_same V 14 _))
     ·intro D V zw1 a hR hI K hK
      obtain ⟨hM1, hB1, hG1⟩ := hI.1
      have zd14 := hR.pred 14 (by kernel_rfl)
      have zF14 : V 14 = undef := hI.2 14 zd14 rfl
      have zf14 := zF14; clear zF14
      have ze49 := hR.frame.done (t := 49) (j := 14) (by kernel_rfl) hR.ok zd14
      rw [if_neg (by simp [Region.wanted, yielded, ze49, zf14, undef])]
      exact hK undef _ (hI.next hR (by kernel_rfl) (Mod.refl _ _) (PB.quiet hI.1 (Mod.refl _ _) (HGs.out D 15 zw1 zw1 (hI.1).g (Mod.refl _ _))) (upd_same V 15 _))
     ·intro D V zw1 a hR hI K hK
      obtain ⟨hM1, hB1, hG1⟩ := hI.1
      have zd14 := hR.pred 14 (by kernel_rfl)
      have zF14 : V 14 = undef := hI.2 14 zd14 rfl
      have zf14 := zF14; clear zF14
      have ze49 := hR.frame.done (t := 49) (j := 14) (by kernel_rfl) hR.ok zd14
      rw [if_neg (by simp [Region.wanted, yielded, ze49, zf14, undef])]
      exact hK undef _ (hI.next hR (by kernel_rfl) (Mod.refl _ _) (PB.quiet hI.1 (Mod.refl _ _) (HGs.out D 16 zw1 zw1 (hI.1).g (Mod.refl _ _))) (upd_same V 16 _))
     ·intro D V zw1 a hR hI K hK
      obtain ⟨hM1, hB1, hG1⟩ := hI.1
      have zd14 := hR.pred 14 (by kernel_rfl)
      have zF14 : V 14 = undef := hI.2 14 zd14 rfl
      have zf14 := zF14; clear zF14
      have ze49 := hR.frame.done (t := 49) (j := 14) (by kernel_rfl) hR.ok zd14
      rw [if_neg (by simp [Region.wanted, yielded, ze49, zf14, undef])]
      exact hK undef _ (hI.next hR (by kernel_rfl) (Mod.refl _ _) (PB.quiet hI.1 (Mod.refl _ _) (HGs.out D 17 zw1 zw1 (hI.1).g (Mod.refl _ _))) (upd_same V 17 _))
     ·intro D V zw1 a hR hI K hK
      obtain ⟨hM1, hB1, hG1⟩ := hI.1
      have zd14 := hR.pred 14 (by kernel_rfl)
      have zF14 : V 14 = undef := hI.2 14 zd14 rfl
      have zf14 := zF14; clear zF14
      have ze49 := hR.frame.done (t := 49) (j := 14) (by kernel_rfl) hR.ok zd14
      rw [if_neg (by simp [Region.wanted, yielded, ze49, zf14, undef])]
      exact hK undef _ (hI.next hR (by kernel_rfl) (Mod.refl _ _) (PB.quiet hI.1 (Mod.refl _ _) (HGs.out D 18 zw1 zw1 (hI.1).g (Mod.refl _ _))) (upd_same V 18 _))
     ·intro D V zw1 a hR hI K hK
      obtain ⟨hM1, hB1, hG1⟩ := hI.1
      have zd14 := hR.pred 14 (by kernel_rfl)
      have zF14 : V 14 = undef := hI.2 14 zd14 rfl
      have zf14 := zF14; clear zF14
      have ze49 := hR.frame.done (t := 49) (j := 14) (by kernel_rfl) hR.ok zd14
      rw [if_neg (by simp [Region.wanted, yielded, ze49, zf14, undef])]
      exact hK undef _ (hI.next hR (by kernel_rfl) (Mod.refl _ _) (PB.quiet hI.1 (Mod.refl _ _) (HGs.out D 19 zw1 zw1 (hI.1).g (Mod.refl _ _))) (upd_same V 19 _))
     ·intro D V zw1 a hR hI K hK
      obtain ⟨hM1, hB1, hG1⟩ := hI.1
      have zd14 := hR.pred 14 (by kernel_rfl)
      have zF14 : V 14 = undef := hI.2 14 zd14 rfl
      have zf14 := zF14; clear zF14
      have ze49 := hR.frame.done (t := 49) (j := 14) (by kernel_rfl) hR.ok zd14
      rw [if_neg (by simp [Region.wanted, yielded, ze49, zf14, undef])]
      exact hK undef _ (hI.next hR (by kernel_rfl) (Mod.refl _ _) (PB.quiet hI.1 (Mod.refl _ _) (HGs.out D 20 zw1 zw1 (hI.1).g (Mod.refl _ _))) (upd_same V 20 _))
     ·intro D V zw1 a hR hI K hK
      obtain ⟨hM1, hB1, hG1⟩ := hI.1
      have zd14 := hR.pred 14 (by kernel_rfl)
      have zF14 : V 14 = undef := hI.2 14 zd14 rfl
      have zf14 := zF14; clear zF14
      have ze49 := hR.frame.done (t := 49) (j := 14) (by kernel_rfl) hR.ok zd14
      rw [if_neg (by simp [Region.wanted, yielded, ze49, zf14, undef])]
      exact hK undef _ (hI.next hR (by kernel_rfl) (Mod.refl _ _) (PB.quiet hI.1 (Mod.refl _ _) (HGs.out D 21 zw1 zw1 (hI.1).g (Mod.refl _ _))) (upd_same V 21 _))
     ·intro D V zw1 a hR hI K hK
      obtain ⟨hM1, hB1, hG1⟩ := hI.1
      have zd14 := hR.pred 14 (by kernel_rfl)
      have zF14 : V 14 = undef := hI.2 14 zd14 rfl
      have zf14 := zF14; clear zF14
      have ze49 := hR.frame.done (t := 49) (j := 14) (by kernel_rfl) hR.ok zd14
      rw [if_neg (by simp [Region.wanted, yielded, ze49, zf14, undef])]
      exact hK undef _ (hI.next hR (by kernel_rfl) (Mod.refl _ _) (PB.quiet hI.1 (Mod.refl _ _) (HGs.out D 22 zw1 zw1 (hI.1).g (Mod.refl _ _))) (upd_same V 22 _))
     ·intro D V zw1 a hR hI K hK
      obtain ⟨hM1, hB1, hG1⟩ := hI.1
      have zd14 := hR.pred 14 (by kernel_rfl)
      have zF14 : V 14 = undef := hI.2 14 zd14 rfl
      have zf14 := zF14; clear zF14
      have ze49 := hR.frame.done (t := 49) (j := 14) (by kernel_rfl) hR.ok zd14
      rw [if_neg (by simp [Region.wanted, yielded, ze49, zf14, undef])]
      exact hK undef _ (hI.next hR (by kernel_rfl) (Mod.refl _ _) (PB.quiet hI.1 (Mod.refl _ _) (HGs.out D 23 zw1 zw1 (hI.1).g (Mod.refl _ _))) (upd_same V 23 _))
     ·intro D V zw1 a hR hI K hK
      obtain ⟨hM1, hB1, hG1⟩ := hI.1
      have zd14 := hR.pred 14 (by kernel_rfl)
      have zF14 : V 14 = undef := hI.2 14 zd14 rfl
      have zf14 := zF14; clear zF14
      have ze49 := hR.frame.done (t := 49) (j := 14) (by kernel_rfl) hR.ok zd14
      rw [if_neg (by simp [Region.wanted, yielded, ze49, zf14, undef])]
      exact hK undef _ (hI.next hR (by kernel_rfl) (Mod.refl _ _) (PB.quiet hI.1 (Mod.refl _ _) (HGs.out D 24 zw1 zw1 (hI.1).g (Mod.refl _ _))) (upd_same V 24 _))
     ·intro D V zw1 a hR hI K hK
      obtain ⟨hM1, hB1, hG1⟩ := hI.1
      have zd14 := hR.pred 14 (by kernel_rfl)
      have zF14 : V 14 = undef := hI.2 14 zd14 rfl
      have zf14 := zF14; clear zF14
      have ze49 := hR.frame.done (t := 49) (j := 14) (by kernel_rfl) hR.ok zd14
      rw [if_neg (by simp [Region.wanted, yielded, ze49, zf14, undef])]
      exact hK undef _ (hI.next hR (by kernel_rfl) (Mod.refl _ _) (PB.quiet hI.1 (Mod.refl _ _) (HGs.out D 25 zw1 zw1 (hI.1).g (Mod.refl _ _))) (upd_same V 25 _))
     ·intro D V zw1 a hR hI K hK
      obtain ⟨hM1, hB1, hG1⟩ := hI.1
      have zd14 := hR.pred 14 (by kernel_rfl)
      have zF14 : V 14 = undef := hI.2 14 zd14 rfl
      have zf14 := zF14; clear zF14
      have ze49 := hR.frame.done (t := 49) (j := 14) (by kernel_rfl) hR.ok zd14
      rw [if_neg (by simp [Region.wanted, yielded, ze49, zf14, undef])]
      exact hK undef _ (hI.next hR (by kernel_rfl) (Mod.refl _ _) (PB.quiet hI.1 (Mod.refl _ _) (HGs.out D 26 zw1 zw1 (hI.1).g (Mod.refl _ _))) (upd_same V 26 _))
     ·intro D V zw1 a hR hI K hK
      obtain ⟨hM1, hB1, hG1⟩ := hI.1
      have zd8 := hR.pred 8 (by kernel_rfl)
      have zF8 : V 8 = .bool false := hI.2 8 zd8 rfl
      have zf8 := zF8; clear zF8
      have ze43 := hR.frame.done (t := 43) (j := 8) (by kernel_rfl) hR.ok zd8
      rw [if_neg (by simp [Region.wanted, yielded, ze43, zf8])]
      exact hK undef _ (hI.next hR (by kernel_rfl) (Mod.refl _ _) (PB.quiet hI.1 (Mod.refl _ _) (HGs.out D 27 zw1 zw1 (hI.1).g (Mod.refl _ _))) (upd_same V 27 _))
     ·intro D V zw1 a hR hI K hK
      obtain ⟨hM1, hB1, hG1⟩ := hI.1
      have zd8 := hR.pred 8 (by kernel_rfl)
      have zF8 : V 8 = .bool false := hI.2 8 zd8 rfl
      have zf8 := zF8; clear zF8
      have zd27 := hR.pred 27 (by kernel_rfl)
      have zF27 : V 27 = undef := hI.2 27 zd27 rfl
      have zf27 := zF27; clear zF27
      have ze43 := hR.frame.done (t := 43) (j := 8) (by kernel_rfl) hR.ok zd8
      have ze62 := hR.frame.done (t := 62) (j := 27) (by kernel_rfl) hR.ok zd27
      rw [if_pos (by rfl)]
      go_simp
      exact hK (.bool false) _ (hI.next hR (by kernel_rfl) (Mod.refl _ _) (PB.quiet hI.1 (Mod.refl _ _) (HGs.out D 28 zw1 zw1 (hI.1).g (Mod.refl _ _))) (upd_same V 28 _))
    ·intro D V w9 hD hI
     obtain ⟨hM1, hB1, hG1⟩ := hI.1
     have hMx := hM1
     clear hM1
     have hBx := hB1
     clear hB1
     have hGx := hG1
     clear hG1
     have zF0 : V 0 = .bool false := hI.2 0 (hD 0 (by decide)) rfl
     have zf0 := zF0; clear zF0
     have zF1 : V 1 = .bool true := hI.2 1 (hD 1 (by decide)) rfl
     have zf1 := zF1; clear zF1
     have zF2 : V 2 = .bool true := hI.2 2 (hD 2 (by decide)) rfl
     have zf2 := zF2; clear zF2
     have zF3 : V 3 = .string ⟨s.toArray⟩ := hI.2 3 (hD 3 (by decide)) rfl
     have zf3 := zF3; clear zF3
     have zF4 : V 4 = .int .i64 (k : Int) := hI.2 4 (hD 4 (by decide)) rfl
     have zf4 := zF4; clear zF4
     have zF5 : V 5 = .int .u8 (c : Int) := hI.2 5 (hD 5 (by decide)) rfl
     have zf5 := zF5; clear zF5
     have zF6 : V 6 = .bool false := hI.2 6 (hD 6 (by decide)) rfl
     have zf6 := zF6; clear zF6
     have zF7 : V 7 = .bool false := hI.2 7 (hD 7 (by decide)) rfl
     have zf7 := zF7; clear zF7
     have zF8 : V 8 = .bool false := hI.2 8 (hD 8 (by decide)) rfl
     have zf8 := zF8; clear zF8
     have zF9 : V 9 = undef := hI.2 9 (hD 9 (by decide)) rfl
     have zf9 := zF9; clear zF9
     have zF10 : V 10 = undef := hI.2 10 (hD 10 (by decide)) rfl
     have zf10 := zF10; clear zF10
     have zF11 : V 11 = undef := hI.2 11 (hD 11 (by decide)) rfl
     have zf11 := zF11; clear zF11
     have zF12 : V 12 = undef := hI.2 12 (hD 12 (by decide)) rfl
     have zf12 := zF12; clear zF12
     have zF13 : V 13 = undef := hI.2 13 (hD 13 (by decide)) rfl
     have zf13 := zF13; clear zF13
     have zF14 : V 14 = undef := hI.2 14 (hD 14 (by decide)) rfl
     have zf14 := zF14; clear zF14
     have zF15 : V 15 = undef := hI.2 15 (hD 15 (by decide)) rfl
     have zf15 := zF15; clear zF15
     have zF16 : V 16 = undef := hI.2 16 (hD 16 (by decide)) rfl
     have zf16 := zF16; clear zF16
     have zF17 : V 17 = undef := hI.2 17 (hD 17 (by decide)) rfl
     have zf17 := zF17; clear zF17
     have zF18 : V 18 = undef := hI.2 18 (hD 18 (by decide)) rfl
     have zf18 := zF18; clear zF18
     have zF19 : V 19 = undef := hI.2 19 (hD 19 (by decide)) rfl
     have zf19 := zF19; clear zF19
     have zF20 : V 20 = undef := hI.2 20 (hD 20 (by decide)) rfl
     have zf20 := zF20; clear zF20
     have zF21 : V 21 = undef := hI.2 21 (hD 21 (by decide)) rfl
     have zf21 := zF21; clear zF21
     have zF22 : V 22 = undef := hI.2 22 (hD 22 (by decide)) rfl
     have zf22 := zF22; clear zF22
     have zF23 : V 23 = undef := hI.2 23 (hD 23 (by decide)) rfl
     have zf23 := zF23; clear zF23
     have zF24 : V 24 = undef := hI.2 24 (hD 24 (by decide)) rfl
     have zf24 := zF24; clear zF24
     have zF25 : V 25 = undef := hI.2 25 (hD 25 (by decide)) rfl
     have zf25 := zF25; clear zF25
     have zF26 : V 26 = undef := hI.2 26 (hD 26 (by decide)) rfl
     have zf26 := zF26; clear zF26
     have zF27 : V 27 = undef := hI.2 27 (hD 27 (by decide)) rfl
     have zf27 := zF27; clear zF27
     have zF28 : V 28 = .bool false := hI.2 28 (hD 28 (by decide)) rfl
     have zf28 := zF28; clear zF28
     clear hI hD HGs
     simp only [frAll, Act.put, List.setIfInBounds_toArray, List.set_cons_zero, List.set_cons_succ, Nat.zero_add, Nat.reduceAdd, zf0, zf1, zf2, zf3, zf4, zf5, zf6, zf7, zf8, zf9, zf10, zf11, zf12, zf13, zf14, zf15, zf16, zf17, zf18, zf19, zf20, zf21, zf22, zf23, zf24, zf25, zf26, zf27, zf28]
     clear zf0 zf1 zf2 zf3 zf4 zf5 zf6 zf7 zf8 zf9 zf10 zf11 zf12 zf13 zf14 zf15 zf16 zf17 zf18 zf19 zf20 zf21 zf22 zf23 zf24 zf25 zf26 zf27 zf28
     clear V D
     have HP2 : Hid (Pure w w9) := Lib.hid (HP.out.trans hMx)
     clear hGx hMx hBx
     go_wp2_with fail
     go_roundg (n - (k + 1))
     case measure => omega
     case rel => exact ⟨k + 1, rfl, by omega, by simp, HS2.out, HP2.out⟩
   have h63i : ((c : Int) != 63) = true := by simp; omega
   by_cases hst : c = 42 ∧ k + 1 = n
   ·have h42i : ((c : Int) == 42) = true := by simp; omega
    have hki : ((k : Int) == (n : Int) - 1) = true := by simp; omega
    have e : pc = true := by rw [h, decide_eq_true hst.1, decide_eq_true hst.2]; rfl
    have HS2 := Lib.hid (YES.out e)
    clear YES NO h HSM h63 hst
    go_upto_region 7 with (fail)
    have HGs := Lib.hid (show ∀ (D : Nat → Bool) (zzi : Nat) (zq zq' : World), (fun _ zq => (fun Z => ∃ hz : Nat, hz = Z.heap.size) zq) D zq → Mod (fun _ => False) zq zq' → (fun _ zq => (fun Z => ∃ hz : Nat, hz = Z.heap.size) zq) (upd D zzi true) zq' from by intro D zzi zq zq' h hm; (exact ⟨_, rfl⟩))
    refine wp_region_inv (by kernel_rfl) (by kernel_rfl) (InvF (R := Mod (fun _ => False)) [.is (.bool true),
      .is (.bool false),
      .is (.bool false),
      .is (undef),
      .is (undef),
      .is (undef),
      .is (undef),
      .is (.bool false),
      .is (.bool false),
      .is (undef),
      .is (undef),
      .is (undef),
      .is (undef),
      .is (undef),
      .is (undef),
      .is (undef),
      .is (undef),
      .is (undef),
      .is (undef),
      .is (undef),
      .is (undef),
      .is (undef),
      .is (undef),
      .is (undef),
      .is (undef),
      .is (undef),
      .is (undef),
      .is (undef),
      .is (.bool false)]
      (PB wr (fun _ => False) wr.heap.size (fun _ zq => (fun Z => ∃ hz : Nat, hz = Z.heap.size) zq))) (InvF.start (PB.start (Mod.refl _ _) (Nat.le_refl _) (⟨_, rfl⟩))) ?_ ?_
    ·refine .cons ?_ (.cons ?_ (.cons ?_ (.cons ?_ (.cons ?_ (.cons ?_ (.cons ?_ (.cons ?_ (.cons ?_ (.cons ?_ (.cons ?_ (.cons ?_ (.cons ?_ (.cons ?_ (.cons ?_ (.cons ?_ (.cons ?_ (.cons ?_ (.cons ?_ (.cons ?_ (.cons ?_ (.cons ?_ (.cons ?_ (.cons ?_ (.cons ?_ (.cons ?_ (.cons ?_ (.cons ?_ (.cons ?_ .nil))))))))))))))))))))))))))))
     ·intro D V zw1 a hR hI K hK
      obtain ⟨hM1, hB1, hG1⟩ := hI.1
      have ze4 := hR.frame.other (t := 4) (by kernel_rfl) rfl
      rw [if_pos (by rfl)]
      go_simp
      exact hK (.bool true) _ (hI.next hR (by kernel_rfl) (Mod.refl _ _) (PB.quiet hI.1 (Mod.refl _ _) (HGs.out D 0 zw1 zw1 (hI.1).g (Mod.refl _ _))) (upd_same V 0 _))
     ·intro D V zw1 a hR hI K hK
      obtain ⟨hM1, hB1, hG1⟩ := hI.1
      have zd0 := hR.pred 0 (by kernel_rfl)
      have zF0 : V 0 = .bool true := hI.2 0 zd0 rfl
      have zf0 := zF0; clear zF0
      have ze35 := hR.frame.done (t := 35) (j := 0) (by kernel_rfl) hR.ok zd0
      rw [if_pos (by rfl)]
      go_simp
      exact hK (.bool false) _ (hI.next hR (by kernel_rfl) (Mod.refl _ _) (PB.quiet hI.1 (Mod.refl _ _) (HGs.out D 1 zw1 zw1 (hI.1).g (Mod.refl _ _))) (upd_same V 1 _))
     ·intro D V zw1 a hR hI K hK
      obtain ⟨hM1, hB1, hG1⟩ := hI.1
      have zd1 := hR.pred 1 (by kernel_rfl)
      have zF1 : V 1 = .bool false := hI.2 1 zd1 rfl
      have zf1 := zF1; clear zF1
      have ze36 := hR.frame.done (t := 36) (j := 1) (by kernel_rfl) hR.ok zd1
      rw [if_pos (by rfl)]
      go_simp
      exact hK (.bool false) _ (hI.next hR (by kernel_rfl) (Mod.refl _ _) (PB.quiet hI.1 (Mod.refl _ _) (HGs.out D 2 zw1 zw1 (hI.1).g (Mod.refl _ _))) (upd_same V 2 _))
     ·intro D V zw1 a hR hI K hK
      obtain ⟨hM1, hB1, hG1⟩ := hI.1
      have zd2 := hR.pred 2 (by kernel_rfl)
      have zF2 : V 2 = .bool false := hI.2 2 zd2 rfl
      have zf2 := zF2; clear zF2
      have ze37 := hR.frame.done (t := 37) (j := 2) (by kernel_rfl) hR.ok zd2
      rw [if_neg (by simp [Region.wanted, yielded, ze37, zf2])]
      exact hK undef _ (hI.next hR (by kernel_rfl) (Mod.refl _ _) (PB.quiet hI.1 (Mod.refl _ _) (HGs.out D 3 zw1 zw1 (hI.1).g (Mod.refl _ _))) (upd_same V 3 _))
     ·intro D V zw1 a hR hI K hK
      obtain ⟨hM1, hB1, hG1⟩ := hI.1
      have zd2 := hR.pred 2 (by kernel_rfl)
      have zF2 : V 2 = .bool false := hI.2 2 zd2 rfl
      have zf2 := zF2; clear zF2
      have ze37 := hR.frame.done (t := 37) (j := 2) (by kernel_rfl) hR.ok zd2
      rw [if_neg (by simp [Region.wanted, yielded, ze37, zf2])]
      exact hK undef _ (hI.next hR (by kernel_rfl) (Mod.refl _ _) (PB.quiet hI.1 (Mod.refl _ _) (HGs.out D 4 zw1 zw1 (hI.1).g (Mod.refl _ _))) (upd_same V 4 _))
     ·intro D V zw1 a hR hI K hK
      obtain ⟨hM1, hB1, hG1⟩ := hI.1
      have zd2 := hR.pred 2 (by kernel_rfl)
      have zF2 : V 2 = .bool false := hI.2 2 zd2 rfl
      have zf2 := zF2; clear zF2
      have ze37 := hR.frame.done (t := 37) (j := 2) (by kernel_rfl) hR.ok zd2
      rw [if_neg (by simp [Region.wanted, yielded, ze37, zf2])]
      exact hK undef _ (hI.next hR (by kernel_rfl) (Mod.refl _ _) (PB.quiet hI.1 (Mod.refl _ _) (HGs.out D 5 zw1 zw1 (hI.1).g (Mod.refl _ _))) (upd_same V 5 _))
     ·intro D V zw1 a hR hI K hK
      obtain ⟨hM1, hB1, hG1⟩ := hI.1
      have zd2 := hR.pred 2 (by kernel_rfl)
      have zF2 : V 2 = .bool false := hI.2 2 zd2 rfl
      have zf2 := zF2; clear zF2
      have ze37 := hR.frame.done (t := 37) (j := 2) (by kernel_rfl) hR.ok zd2
      rw [if_neg (by simp [Region.wanted, yielded, ze37, zf2])]
      exact hK undef _ (hI.next hR (by kernel_rfl) (Mod.refl _ _) (PB.quiet hI.1 (Mod.refl _ _) (HGs.out D 6 zw1 zw1 (hI.1).g (Mod.refl _ _))) (upd_same V 6 _))
     ·intro D V zw1 a hR hI K hK
      obtain ⟨hM1, hB1, hG1⟩ := hI.1
      have zd2 := hR.pred 2 (by kernel_rfl)
      have zF2 : V 2 = .bool false := hI.2 2 zd2 rfl
      have zf2 := zF2; clear zF2
      have zd6 := hR.pred 6 (by kernel_rfl)
      have zF6 : V 6 = undef := hI.2 6 zd6 rfl
      have zf6 := zF6; clear zF6
      have ze37 := hR.frame.done (t := 37) (j := 2) (by kernel_rfl) hR.ok zd2
      have ze41 := hR.frame.done (t := 41) (j := 6) (by kernel_rfl) hR.ok zd6
      rw [if_pos (by rfl)]
      go_simp
      exact hK (.bool false) _ (hI.next hR (by kernel_rfl) (Mod.refl _ _) (PB.quiet hI.1 (Mod.refl _ _) (HGs.out D 7 zw1 zw1 (hI.1).g (Mod.refl _ _))) (upd_same V 7 _))
     ·intro D V zw1 a hR hI K hK
      obtain ⟨hM1, hB1, hG1⟩ := hI.1
      have zd7 := hR.pred 7 (by kernel_rfl)
      have zF7 : V 7 = .bool false := hI.2 7 zd7 rfl
      have zf7 := zF7; clear zF7
      have ze42 := hR.frame.done (t := 42) (j := 7) (by kernel_rfl) hR.ok zd7
      rw [if_pos (by rfl)]
      go_simp
      exact hK (.bool false) _ (hI.next hR (by kernel_rfl) (Mod.refl _ _) (PB.quiet hI.1 (Mod.refl _ _) (HGs.out D 8 zw1 zw1 (hI.1).g (Mod.refl _ _))) (upd_same V 8 _))
     ·intro D V zw1 a hR hI K hK
      obtain ⟨hM1, hB1, hG1⟩ := hI.1
      have zd8 := hR.pred 8 (by kernel_rfl)
      have zF8 : V 8 = .bool false := hI.2 8 zd8 rfl
      have zf8 := zF8; clear zF8
      have ze43 := hR.frame.done (t := 43) (j := 8) (by kernel_rfl) hR.ok zd8
      rw [if_neg (by simp [Region.wanted, yielded, ze43, zf8])]
      exact hK undef _ (hI.next hR (by kernel_rfl) (Mod.refl _ _) (PB.quiet hI.1 (Mod.refl _ _) (HGs.out D 9 zw1 zw1 (hI.1).g (Mod.refl _ _))) (upd_same V 9 _))
     ·intro D V zw1 a hR hI K hK
      obtain ⟨hM1, hB1, hG1⟩ := hI.1
      have zd8 := hR.pred 8 (by kernel_rfl)
      have zF8 : V 8 = .bool false := hI.2 8 zd8 rfl
      have zf8 := zF8; clear zF8
      have ze43 := hR.frame.done (t := 43) (j := 8) (by kernel_rfl) hR.ok zd8
      rw [if_neg (by simp [Region.wanted, yielded, ze43, zf8])]
      exact hK undef _ (hI.next hR (by kernel_rfl) (Mod.refl _ _) (PB.quiet hI.1 (Mod.refl _ _) (HGs.out D 10 zw1 zw1 (hI.1).g (Mod.refl _ _))) (upd_same V 10 _))
     ·intro D V zw1 a hR hI K hK
      obtain ⟨hM1, hB1, hG1⟩ := hI.1
      have zd8 := hR.pred 8 (by kernel_rfl)
      have zF8 : V 8 = .bool false := hI.2 8 zd8 rfl
      have zf8 := zF8; clear zF8
      have ze43 := hR.frame.done (t := 43) (j := 8) (by kernel_rfl) hR.ok zd8
      rw [if_neg (by simp [Region.wanted, yielded, ze43, zf8])]
      exact hK undef _ (hI.next hR (by kernel_rfl) (Mod.refl _ _) (PB.quiet hI.1 (Mod.refl _ _) (HGs.out D 11 zw1 zw1 (hI.1).g (Mod.refl _ _))) (upd_same V 11 _))
     ·intro D V zw1 a hR hI K hK
      obtain ⟨hM1, hB1, hG1⟩ := hI.1
      have zd8 := hR.pred 8 (by kernel_rfl)
      have zF8 : V 8 = .bool false := hI.2 8 zd8 rfl
      have zf8 := zF8; clear zF8
      have ze43 := hR.frame.done (t := 43) (j := 8) (by kernel_rfl) hR.ok zd8
      rw [if_neg (by simp [Region.wanted, yielded, ze43, zf8])]
      exact hK undef _ (hI.next hR (by kernel_rfl) (Mod.refl _ _) (PB.quiet hI.1 (Mod.refl _ _) (HGs.out D 12 zw1 zw1 (hI.1).g (Mod.refl _ _))) (upd_same V 12 _))
     ·intro D V zw1 a hR hI K hK
      obtain ⟨hM1, hB1, hG1⟩ := hI.1
      have zd8 := hR.pred 8 (by kernel_rfl)
      have zF8 : V 8 = .bool false := hI.2 8 zd8 rfl
      have zf8 := zF8; clear zF8
      have ze43 := hR.frame.done (t := 43) (j := 8) (by kernel_rfl) hR.ok zd8
      rw [if_neg (by simp [Region.wanted, yielded, ze43, zf8])]
      exact hK undef _ (hI.next hR (by kernel_rfl) (Mod.refl _ _) (PB.quiet hI.1 (Mod.refl _ _) (HGs.out D 13 zw1 zw1 (hI.1).g (Mod.refl _ _))) (upd_same V 13 _))
     ·intro D V zw1 a hR hI K hK
      obtain ⟨hM1, hB1, hG1⟩ := hI.1
      have zd8 := hR.pred 8 (by kernel_rfl)
      have zF8 : V 8 = .bool false := hI.2 8 zd8 rfl
      have zf8 := zF8; clear zF8
      have ze43 := hR.frame.done (t := 43) (j := 8) (by kernel_rfl) hR.ok zd8
      rw [if_neg (by simp [Region.wanted, yielded, ze43, zf8])]
      exact hK undef _ (hI.next hR (by kernel_rfl) (Mod.refl _ _) (PB.quiet hI.1 (Mod.refl _ _) (HGs.out D 14 zw1 zw1 (hI.1).g (Mod.refl _ _))) (upd_same V 14 _))
     ·intro D V zw1 a hR hI K hK
      obtain ⟨hM1, hB1, hG1⟩ := hI.1
      have zd14 := hR.pred 14 (by kernel_rfl)
      have zF14 : V 14 = undef := hI.2 14 zd14 rfl
      have zf14 := zF14; clear zF14
      have ze49 := hR.frame.done (t := 49) (j := 14) (by kernel_rfl) hR.ok zd14
      rw [if_neg (by simp [Region.wanted, yielded, ze49, zf14, undef])]
      exact hK undef _ (hI.next hR (by kernel_rfl) (Mod.refl _ _) (PB.quiet hI.1 (Mod.refl _ _) (HGs.out D 15 zw1 zw1 (hI.1).g (Mod.refl _ _))) (upd_same V 15 _))
     ·intro D V zw1 a hR hI K hK
      obtain ⟨hM1, hB1, hG1⟩ := hI.1
      have zd14 := hR.pred 14 (by kernel_rfl)
      have zF14 : V 14 = undef := hI.2 14 zd14 rfl
      have zf14 := zF14; clear zF14
      have ze49 := hR.frame.done (t := 49) (j := 14) (by kernel_rfl) hR.ok zd14
      rw [if_neg (by simp [Region.wanted, yielded, ze49, zf14, undef])]
      exact hK undef _ (hI.next hR (by kernel_rfl) (Mod.refl _ _) (PB.quiet hI.1 (Mod.refl _ _) (HGs.out D 16 zw1 zw1 (hI.1).g (Mod.refl _ _))) (upd_same V 16 _))
     ·intro D V zw1 a hR hI K hK
      obtain ⟨hM1, hB1, hG1⟩ := hI.1
      have zd14 := hR.pred 14 (by kernel_rfl)
      have zF14 : V 14 = undef := hI.2 14 zd14 rfl
      have zf14 := zF14; clear zF14
      have ze49 := hR.frame.done (t := 49) (j := 14) (by kernel_rfl) hR.ok zd14
      rw [if_neg (by simp [Region.wanted, yielded, ze49, zf14, undef])]
      exact hK undef _ (hI.next hR (by kernel_rfl) (Mod.refl _ _) (PB.quiet hI.1 (Mod.refl _ _) (HGs.out D 17 zw1 zw1 (hI.1).g (Mod.refl _ _))) (upd_same V 17 _))
     ·intro D V zw1 a hR hI K hK
      obtain ⟨hM1, hB1, hG1⟩ := hI.1
      have zd14 := hR.pred 14 (by kernel_rfl)
      have zF14 : V 14 = undef := hI.2 14 zd14 rfl
      have zf14 := zF14; clear zF14
      have ze49 := hR.frame.done (t := 49) (j := 14) (by kernel_rfl) hR.ok zd14
      rw [if_neg (by simp [Region.wanted, yielded, ze49, zf14, undef])]
      exact hK undef _ (hI.next hR (by kernel_rfl) (Mod.refl _ _) (PB.quiet hI.1 (Mod.refl _ _) (HGs.out D 18 zw1 zw1 (hI.1).g (Mod.refl _ _))) (upd_same V 18 _))
     ·intro D V zw1 a hR hI K hK
      obtain ⟨hM1, hB1, hG1⟩ := hI.1
      have zd14 := hR.pred 14 (by kernel_rfl)
      have zF14 : V 14 = undef := hI.2 14 zd14 rfl
      have zf14 := zF14; clear zF14
      have ze49 := hR.frame.done (t := 49) (j := 14) (by kernel_rfl) hR.ok zd14
      rw [if_neg (by simp [Region.wanted, yielded, ze49, zf14, undef])]
      exact hK undef _ (hI.next hR (by kernel_rfl) (Mod.refl _ _) (PB.quiet hI.1 (Mod.refl _ _) (HGs.out D 19 zw1 zw1 (hI.1).g (Mod.refl _ _))) (upd_same V 19 _))
     ·intro D V zw1 a hR hI K hK
      obtain ⟨hM1, hB1, hG1⟩ := hI.1
      have zd14 := hR.pred 14 (by kernel_rfl)
      have zF14 : V 14 = undef := hI.2 14 zd14 rfl
      have zf14 := zF14; clear zF14
      have ze49 := hR.frame.done (t := 49) (j := 14) (by kernel_rfl) hR.ok zd14
      rw [if_neg (by simp [Region.wanted, yielded, ze49, zf14, undef])]
      exact hK undef _ (hI.next hR (by kernel_rfl) (Mod.refl _ _) (PB.quiet hI.1 (Mod.refl _ _) (HGs.out D 20 zw1 zw1 (hI.1).g (Mod.refl _ _))) (upd_same V 20 _))
     ·intro D V zw1 a hR hI K hK
      obtain ⟨hM1, hB1, hG1⟩ := hI.1
      have zd14 := hR.pred 14 (by kernel_rfl)
      have zF14 : V 14 = undef := hI.2 14 zd14 rfl
      have zf14 := zF14; clear zF14
      have ze49 := hR.frame.done (t := 49) (j := 14) (by kernel_rfl) hR.ok zd14
      rw [if_neg (by simp [Region.wanted, yielded, ze49, zf14, undef])]
      exact hK undef _ (hI.next hR (by kernel_rfl) (Mod.refl _ _) (PB.quiet hI.1 (Mod.refl _ _) (HGs.out D 21 zw1 zw1 (hI.1).g (Mod.refl _ _))) (upd_same V 21 _))
     ·intro D V zw1 a hR hI K hK
      obtain ⟨hM1, hB1, hG1⟩ := hI.1
      have zd14 := hR.pred 14 (by kernel_rfl)
      have zF14 : V 14 = undef := hI.2 14 zd14 rfl
      have zf14 := zF14; clear zF14
      have ze49 := hR.frame.done (t := 49) (j := 14) (by kernel_rfl) hR.ok zd14
      rw [if_neg (by simp [Region.wanted, yielded, ze49, zf14, undef])]
      exact hK undef _ (hI.next hR (by kernel_rfl) (Mod.refl _ _) (PB.quiet hI.1 (Mod.refl _ _) (HGs.out D 22 zw1 zw1 (hI.1).g (Mod.refl _ _))) (upd_same V 22 _))
     ·intro D V zw1 a hR hI K hK
      obtain ⟨hM1, hB1, hG1⟩ := hI.1
      have zd14 := hR.pred 14 (by kernel_rfl)
      have zF14 : V 14 = undef := hI.2 14 zd14 rfl
      have zf14 := zF14; clear zF14
      have ze49 := hR.frame.done (t := 49) (j := 14) (by kernel_rfl) hR.ok zd14
      rw [if_neg (by simp [Region.wanted, yielded, ze49, zf14, undef])]
      exact hK undef _ (hI.next hR (by kernel_rfl) (Mod.refl _ _) (PB.quiet hI.1 (Mod.refl _ _) (HGs.out D 23 zw1 zw1 (hI.1).g (Mod.refl _ _))) (upd_same V 23 _))
     ·intro D V zw1 a hR hI K hK
      obtain ⟨hM1, hB1, hG1⟩ := hI.1
      have zd14 := hR.pred 14 (by kernel_rfl)
      have zF14 : V 14 = undef := hI.2 14 zd14 rfl
      have zf14 := zF14; clear zF14
      have ze49 := hR.frame.done (t := 49) (j := 14) (by kernel_rfl) hR.ok zd14
      rw [if_neg (by simp [Region.wanted, yielded, ze49, zf14, undef])]
      exact hK undef _ (hI.next hR (by kernel_rfl) (Mod.refl _ _) (PB.quiet hI.1 (Mod.refl _ _) (HGs.out D 24 zw1 zw1 (hI.1).g (Mod.refl _ _))) (upd_same V 24 _))
     ·intro D V zw1 a hR hI K hK
      obtain ⟨hM1, hB1, hG1⟩ := hI.1
      have zd14 := hR.pred 14 (by kernel_rfl)
      have zF14 : V 14 = undef := hI.2 14 zd14 rfl
      have zf14 := zF14; clear zF14
      have ze49 := hR.frame.done (t := 49) (j := 14) (by kernel_rfl) hR.ok zd14
      rw [if_neg (by simp [Region.wanted, yielded, ze49, zf14, undef])]
      exact hK undef _ (hI.next hR (by kernel_rfl) (Mod.refl _ _) (PB.quiet hI.1 (Mod.refl _ _) (HGs.out D 25 zw1 zw1 (hI.1).g (Mod.refl _ _))) (upd_same V 25 _))
     ·intro D V zw1 a hR hI K hK
      obtain ⟨hM1, hB1, hG1⟩ := hI.1
      have zd14 := hR.pred 14 (by kernel_rfl)
      have zF14 : V 14 = undef := hI.2 14 zd14 rfl
      have zf14 := zF14; clear zF14
      have ze49 := hR.frame.done (t := 49) (j := 14) (by kernel_rfl) hR.ok zd14
      rw [if_neg (by simp [Region.wanted, yielded, ze49, zf14, undef])]
      exact hK undef _ (hI.next hR (by kernel_rfl) (Mod.refl _ _) (PB.quiet hI.1 (Mod.refl _ _) (HGs.out D 26 zw1 zw1 (hI.1).g (Mod.refl _ _))) (upd_same V 26 _))
     ·intro D V zw1 a hR hI K hK
      obtain ⟨hM1, hB1, hG1⟩ := hI.1
      have zd8 := hR.pred 8 (by kernel_rfl)
      have zF8 : V 8 = .bool false := hI.2 8 zd8 rfl
      have zf8 := zF8; clear zF8
      have ze43 := hR.frame.done (t := 43) (j := 8) (by kernel_rfl) hR.ok zd8
      rw [if_neg (by simp [Region.wanted, yielded, ze43, zf8])]
      exact hK undef _ (hI.next hR (by kernel_rfl) (Mod.refl _ _) (PB.quiet hI.1 (Mod.refl _ _) (HGs.out D 27 zw1 zw1 (hI.1).g (Mod.refl _ _))) (upd_same V 27 _))
     ·intro D V zw1 a hR hI K hK
      obtain ⟨hM1, hB1, hG1⟩ := hI.1
      have zd8 := hR.pred 8 (by kernel_rfl)
      have zF8 : V 8 = .bool false := hI.2 8 zd8 rfl
      have zf8 := zF8; clear zF8
      have zd27 := hR.pred 27 (by kernel_rfl)
      have zF27 : V 27 = undef := hI.2 27 zd27 rfl
      have zf27 := zF27; clear zF27
      have ze43 := hR.frame.done (t := 43) (j := 8) (by kernel_rfl) hR.ok zd8
      have ze62 := hR.frame.done (t := 62) (j := 27) (by kernel_rfl) hR.ok zd27
      rw [if_pos (by rfl)]
      go_simp
      exact hK (.bool false) _ (hI.next hR (by kernel_rfl) (Mod.refl _ _) (PB.quiet hI.1 (Mod.refl _ _) (HGs.out D 28 zw1 zw1 (hI.1).g (Mod.refl _ _))) (upd_same V 28 _))
    ·intro D V w9 hD hI
     obtain ⟨hM1, hB1, hG1⟩ := hI.1
     have hMx := hM1
     clear hM1
     have hBx := hB1
     clear hB1
     have hGx := hG1
     clear hG1
     have zF0 : V 0 = .bool true := hI.2 0 (hD 0 (by decide)) rfl
     have zf0 := zF0; clear zF0
     have zF1 : V 1 = .bool false := hI.2 1 (hD 1 (by decide)) rfl
     have zf1 := zF1; clear zF1
     have zF2 : V 2 = .bool false := hI.2 2 (hD 2 (by decide)) rfl
     have zf2 := zF2; clear zF2
     have zF3 : V 3 = undef := hI.2 3 (hD 3 (by decide)) rfl
     have zf3 := zF3; clear zF3
     have zF4 : V 4 = undef := hI.2 4 (hD 4 (by decide)) rfl
     have zf4 := zF4; clear zF4
     have zF5 : V 5 = undef := hI.2 5 (hD 5 (by decide)) rfl
     have zf5 := zF5; clear zF5
     have zF6 : V 6 = undef := hI.2 6 (hD 6 (by decide)) rfl
     have zf6 := zF6; clear zF6
     have zF7 : V 7 = .bool false := hI.2 7 (hD 7 (by decide)) rfl
     have zf7 := zF7; clear zF7
     have zF8 : V 8 = .bool false := hI.2 8 (hD 8 (by decide)) rfl
     have zf8 := zF8; clear zF8
     have zF9 : V 9 = undef := hI.2 9 (hD 9 (by decide)) rfl
     have zf9 := zF9; clear zF9
     have zF10 : V 10 = undef := hI.2 10 (hD 10 (by decide)) rfl
     have zf10 := zF10; clear zF10
     have zF11 : V 11 = undef := hI.2 11 (hD 11 (by decide)) rfl
     have zf11 := zF11; clear zF11
     have zF12 : V 12 = undef := hI.2 12 (hD 12 (by decide)) rfl
     have zf12 := zF12; clear zF12
     have zF13 : V 13 = undef := hI.2 13 (hD 13 (by decide)) rfl
     have zf13 := zF13; clear zF13
     have zF14 : V 14 = undef := hI.2 14 (hD 14 (by decide)) rfl
     have zf14 := zF14; clear zF14
     have zF15 : V 15 = undef := hI.2 15 (hD 15 (by decide)) rfl
     have zf15 := zF15; clear zF15
     have zF16 : V 16 = undef := hI.2 16 (hD 16 (by decide)) rfl
     have zf16 := zF16; clear zF16
     have zF17 : V 17 = undef := hI.2 17 (hD 17 (by decide)) rfl
     have zf17 := zF17; clear zF17
     have zF18 : V 18 = undef := hI.2 18 (hD 18 (by decide)) rfl
     have zf18 := zF18; clear zF18
     have zF19 : V 19 = undef := hI.2 19 (hD 19 (by decide)) rfl
     have zf19 := zF19; clear zF19
     have zF20 : V 20 = undef := hI.2 20 (hD 20 (by decide)) rfl
     have zf20 := zF20; clear zF20
     have zF21 : V 21 = undef := hI.2 21 (hD 21 (by decide)) rfl
     have zf21 := zF21; clear zF21
     have zF22 : V 22 = undef := hI.2 22 (hD 22 (by decide)) rfl
     have zf22 := zF22; clear zF22
     have zF23 : V 23 = undef := hI.2 23 (hD 23 (by decide)) rfl
     have zf23 := zF23; clear zF23
     have zF24 : V 24 = undef := hI.2 24 (hD 24 (by decide)) rfl
     have zf24 := zF24; clear zF24
     have zF25 : V 25 = undef := hI.2 25 (hD 25 (by decide)) rfl
     have zf25 := zF25; clear zF25
     have zF26 : V 26 = undef := hI.2 26 (hD 26 (by decide)) rfl
     have zf26 := zF26; clear zF26
     have zF27 : V 27 = undef := hI.2 27 (hD 27 (by decide)) rfl
     have zf27 := zF27; clear zF27
     have zF28 : V 28 = .bool false := hI.2 28 (hD 28 (by decide)) rfl
     have zf28 := zF28; clear zF28
     clear hI hD HGs
     simp only [frAll, Act.put, List.setIfInBounds_toArray, List.set_cons_zero, List.set_cons_succ, Nat.zero_add, Nat.reduceAdd, zf0, zf1, zf2, zf3, zf4, zf5, zf6, zf7, zf8, zf9, zf10, zf11, zf12, zf13, zf14, zf15, zf16, zf17, zf18, zf19, zf20, zf21, zf22, zf23, zf24, zf25, zf26, zf27, zf28]
     clear zf0 zf1 zf2 zf3 zf4 zf5 zf6 zf7 zf8 zf9 zf10 zf11 zf12 zf13 zf14 zf15 zf16 zf17 zf18 zf19 zf20 zf21 zf22 zf23 zf24 zf25 zf26 zf27 zf28
     clear V D
     have HP2 : Hid (Pure w w9) := Lib.hid (HP.out.trans hMx)
     clear hGx hMx hBx
     go_wp2_with fail
     go_roundg (n - (k + 1))
     case measure => omega
     case rel => exact ⟨k + 1, rfl, by omega, by simp, HS2.out, HP2.out⟩
   have hpc : pc = sm := by
    rw [h, decide_eq_false h63, Bool.false_or]
    by_cases h1 : c = 42
    ·rw [decide_eq_false (show ¬ k + 1 = n from fun h2 => hst ⟨h1, h2⟩), Bool.and_false, Bool.false_or]
    ·rw [decide_eq_false h1, Bool.false_and, Bool.false_or]
   go_upto_region 6 with (fail)
   go_cut [4] from 24 to 34 (fun p wx => p = .bool false ∧ wr = wx)
   case first =>
    clear YES NO h HSM
    by_cases h1 : c = 42
    ·have h42i : ((c : Int) == 42) = true := by simp; omega
     have hki : ((k : Int) == (n : Int) - 1) = false := by simp; omega
     clear hst h1
     go_wp2_with fail
     go_meet
     exact ⟨rfl, rfl⟩
    ·have h42i : ((c : Int) == 42) = false := by simp; omega
     clear hst h1
     go_wp2_with fail
     go_meet
     exact ⟨rfl, rfl⟩
   case rest =>
    obtain ⟨rfl, rfl⟩ := hcut
    have hsm := HSM.out
    cases lb with
    | false =>
     have e : pc = false := by rw [hpc, hsm]; rfl
     have HR := Lib.hid (NO.out e)
     clear YES NO h HSM h63 hst hpc hsm e
     go_upto_region 7 with (fail)
     have HGs := Lib.hid (show ∀ (D : Nat → Bool) (zzi : Nat) (zq zq' : World), (fun _ zq => (fun Z => ∃ hz : Nat, hz = Z.heap.size) zq) D zq → Mod (fun _ => False) zq zq' → (fun _ zq => (fun Z => ∃ hz : Nat, hz = Z.heap.size) zq) (upd D zzi true) zq' from by intro D zzi zq zq' h hm; (exact ⟨_, rfl⟩))
     refine wp_region_inv (by kernel_rfl) (by kernel_rfl) (InvF (R := Mod (fun _ => False)) [.is (.bool false),
       .is (.bool true),
       .is (.bool true),
       .is (.string ⟨s.toArray⟩),
       .is (.int .i64 (k : Int)),
       .is (.int .u8 (c : Int)),
       .is (.bool true),
       .is (.bool true),
       .is (.bool true),
       .is (.string ⟨s.toArray⟩),
       .is (.int .i64 (k : Int)),
       .is (.int .u8 (c : Int)),
       .is (.bool false),
       .is (.bool true),
       .is (.bool true),
       .is (undef),
       .is (undef),
       .is (undef),
       .is (undef),
       .is (undef),
       .is (undef),
       .is (undef),
       .is (undef),
       .is (undef),
       .is (undef),
       .is (undef),
       .is (undef),
       .is (.bool true),
       .is (.bool true)]
       (PB wr (fun _ => False) wr.heap.size (fun _ zq => (fun Z => ∃ hz : Nat, hz = Z.heap.size) zq))) (InvF.start (PB.start (Mod.refl _ _) (Nat.le_refl _) (⟨_, rfl⟩))) ?_ ?_
     ·refine .cons ?_ (.cons ?_ (.cons ?_ (.cons ?_ (.cons ?_ (.cons ?_ (.cons ?_ (.cons ?_ (.cons ?_ (.cons ?_ (.cons ?_ (.cons ?_ (.cons ?_ (.cons ?_ (.cons ?_ (.cons ?_ (.cons ?_ (.cons ?_ (.cons ?_ (.cons ?_ (.cons ?_ (.cons ?_ (.cons ?_ (.cons ?_ (.cons ?_ (.cons ?_ (.cons ?_ (.cons ?_ (.cons ?_ .nil))))))))))))))))))))))))))))
      ·intro D V zw1 a hR hI K hK
       obtain ⟨hM1, hB1, hG1⟩ := hI.1
       have ze4 := hR.frame.other (t := 4) (by kernel_rfl) rfl
       rw [if_pos (by rfl)]
       go_simp
       exact hK (.bool false) _ (hI.next hR (by kernel_rfl) (Mod.refl _ _) (PB.quiet hI.1 (Mod.refl _ _) (HGs.out D 0 zw1 zw1 (hI.1).g (Mod.refl _ _))) (upd_same V 0 _))
      ·intro D V zw1 a hR hI K hK
       obtain ⟨hM1, hB1, hG1⟩ := hI.1
       have zd0 := hR.pred 0 (by kernel_rfl)
       have zF0 : V 0 = .bool false := hI.2 0 zd0 rfl
       have zf0 := zF0; clear zF0
       have ze35 := hR.frame.done (t := 35) (j := 0) (by kernel_rfl) hR.ok zd0
       rw [if_pos (by rfl)]
       go_simp
       exact hK (.bool true) _ (hI.next hR (by kernel_rfl) (Mod.refl _ _) (PB.quiet hI.1 (Mod.refl _ _) (HGs.out D 1 zw1 zw1 (hI.1).g (Mod.refl _ _))) (upd_same V 1 _))
      ·intro D V zw1 a hR hI K hK
       obtain ⟨hM1, hB1, hG1⟩ := hI.1
       have zd1 := hR.pred 1 (by kernel_rfl)
       have zF1 : V 1 = .bool true := hI.2 1 zd1 rfl
       have zf1 := zF1; clear zF1
       have ze36 := hR.frame.done (t := 36) (j := 1) (by kernel_rfl) hR.ok zd1
       rw [if_pos (by rfl)]
       go_simp
       exact hK (.bool true) _ (hI.next hR (by kernel_rfl) (Mod.refl _ _) (PB.quiet hI.1 (Mod.refl _ _) (HGs.out D 2 zw1 zw1 (hI.1).g (Mod.refl _ _))) (upd_same V 2 _))
      ·intro D V zw1 a hR hI K hK
       obtain ⟨hM1, hB1, hG1⟩ := hI.1
       have zd2 := hR.pred 2 (by kernel_rfl)
       have zF2 : V 2 = .bool true := hI.2 2 zd2 rfl
       have zf2 := zF2; clear zF2
       have ze0 := hR.frame.other (t := 0) (by kernel_rfl) rfl
       have ze37 := hR.frame.done (t := 37) (j := 2) (by kernel_rfl) hR.ok zd2
       rw [if_pos (by simp [Region.wanted, yielded, ze37, zf2])]
       go_simp
       exact hK (.string ⟨s.toArray⟩) _ (hI.next hR (by kernel_rfl) (Mod.refl _ _) (PB.quiet hI.1 (Mod.refl _ _) (HGs.out D 3 zw1 zw1 (hI.1).g (Mod.refl _ _))) (upd_same V 3 _))
      ·intro D V zw1 a hR hI K hK
       obtain ⟨hM1, hB1, hG1⟩ := hI.1
       have zd2 := hR.pred 2 (by kernel_rfl)
       have zF2 : V 2 = .bool true := hI.2 2 zd2 rfl
       have zf2 := zF2; clear zF2
       have ze3 := hR.frame.other (t := 3) (by kernel_rfl) rfl
       have ze37 := hR.frame.done (t := 37) (j := 2) (by kernel_rfl) hR.ok zd2
       rw [if_pos (by simp [Region.wanted, yielded, ze37, zf2])]
       go_simp
       exact hK (.int .i64 (k : Int)) _ (hI.next hR (by kernel_rfl) (Mod.refl _ _) (PB.quiet hI.1 (Mod.refl _ _) (HGs.out D 4 zw1 zw1 (hI.1).g (Mod.refl _ _))) (upd_same V 4 _))
      ·intro D V zw1 a hR hI K hK
       obtain ⟨hM1, hB1, hG1⟩ := hI.1
       have zd3 := hR.pred 3 (by kernel_rfl)
       have zF3 : V 3 = .string ⟨s.toArray⟩ := hI.2 3 zd3 rfl
       have zf3 := zF3; clear zF3
       have zd4 := hR.pred 4 (by kernel_rfl)
       have zF4 : V 4 = .int .i64 (k : Int) := hI.2 4 zd4 rfl
       have zf4 := zF4; clear zF4
       have zd2 := hR.pred 2 (by kernel_rfl)
       have zF2 : V 2 = .bool true := hI.2 2 zd2 rfl
       have zf2 := zF2; clear zF2
       have ze38 := hR.frame.done (t := 38) (j := 3) (by kernel_rfl) hR.ok zd3
       have ze39 := hR.frame.done (t := 39) (j := 4) (by kernel_rfl) hR.ok zd4
       have ze37 := hR.frame.done (t := 37) (j := 2) (by kernel_rfl) hR.ok zd2
       rw [if_pos (by simp [Region.wanted, yielded, ze37, zf2])]
       go_simp
       exact hK (.int .u8 (c : Int)) _ (hI.next hR (by kernel_rfl) (Mod.refl _ _) (PB.quiet hI.1 (Mod.refl _ _) (HGs.out D 5 zw1 zw1 (hI.1).g (Mod.refl _ _))) (upd_same V 5 _))
      ·intro D V zw1 a hR hI K hK
       obtain ⟨hM1, hB1, hG1⟩ := hI.1
       have zd5 := hR.pred 5 (by kernel_rfl)
       have zF5 : V 5 = .int .u8 (c : Int) := hI.2 5 zd5 rfl
       have zf5 := zF5; clear zF5
       have zd2 := hR.pred 2 (by kernel_rfl)
       have zF2 : V 2 = .bool true := hI.2 2 zd2 rfl
       have zf2 := zF2; clear zF2
       have ze40 := hR.frame.done (t := 40) (j := 5) (by kernel_rfl) hR.ok zd5
       have ze37 := hR.frame.done (t := 37) (j := 2) (by kernel_rfl) hR.ok zd2
       rw [if_pos (by simp [Region.wanted, yielded, ze37, zf2])]
       go_simp
       exact hK (.bool true) _ (hI.next hR (by kernel_rfl) (Mod.refl _ _) (PB.quiet hI.1 (Mod.refl _ _) (HGs.out D 6 zw1 zw1 (hI.1).g (Mod.refl _ _))) (upd_same V 6 _))
      ·intro D V zw1 a hR hI K hK
       obtain ⟨hM1, hB1, hG1⟩ := hI.1
       have zd2 := hR.pred 2 (by kernel_rfl)
       have zF2 : V 2 = .bool true := hI.2 2 zd2 rfl
       have zf2 := zF2; clear zF2
       have zd6 := hR.pred 6 (by kernel_rfl)
       have zF6 : V 6 = .bool true := hI.2 6 zd6 rfl
       have zf6 := zF6; clear zF6
       have ze37 := hR.frame.done (t := 37) (j := 2) (by kernel_rfl) hR.ok zd2
       have ze41 := hR.frame.done (t := 41) (j := 6) (by kernel_rfl) hR.ok zd6
       rw [if_pos (by rfl)]
       go_simp
       exact hK (.bool true) _ (hI.next hR (by kernel_rfl) (Mod.refl _ _) (PB.quiet hI.1 (Mod.refl _ _) (HGs.out D 7 zw1 zw1 (hI.1).g (Mod.refl _ _))) (upd_same V 7 _))
      ·intro D V zw1 a hR hI K hK
       obtain ⟨hM1, hB1, hG1⟩ := hI.1
       have zd7 := hR.pred 7 (by kernel_rfl)
       have zF7 : V 7 = .bool true := hI.2 7 zd7 rfl
       have zf7 := zF7; clear zF7
       have ze42 := hR.frame.done (t := 42) (j := 7) (by kernel_rfl) hR.ok zd7
       rw [if_pos (by rfl)]
       go_simp
       exact hK (.bool true) _ (hI.next hR (by kernel_rfl) (Mod.refl _ _) (PB.quiet hI.1 (Mod.refl _ _) (HGs.out D 8 zw1 zw1 (hI.1).g (Mod.refl _ _))) (upd_same V 8 _))
      ·intro D V zw1 a hR hI K hK
       obtain ⟨hM1, hB1, hG1⟩ := hI.1
       have zd8 := hR.pred 8 (by kernel_rfl)
       have zF8 : V 8 = .bool true := hI.2 8 zd8 rfl
       have zf8 := zF8; clear zF8
       have ze0 := hR.frame.other (t := 0) (by kernel_rfl) rfl
       have ze43 := hR.frame.done (t := 43) (j := 8) (by kernel_rfl) hR.ok zd8
       rw [if_pos (by simp [Region.wanted, yielded, ze43, zf8])]
       go_simp
       exact hK (.string ⟨s.toArray⟩) _ (hI.next hR (by kernel_rfl) (Mod.refl _ _) (PB.quiet hI.1 (Mod.refl _ _) (HGs.out D 9 zw1 zw1 (hI.1).g (Mod.refl _ _))) (upd_same V 9 _))
      ·intro D V zw1 a hR hI K hK
       obtain ⟨hM1, hB1, hG1⟩ := hI.1
       have zd8 := hR.pred 8 (by kernel_rfl)
       have zF8 : V 8 = .bool true := hI.2 8 zd8 rfl
       have zf8 := zF8; clear zF8
       have ze3 := hR.frame.other (t := 3) (by kernel_rfl) rfl
       have ze43 := hR.frame.done (t := 43) (j := 8) (by kernel_rfl) hR.ok zd8
       rw [if_pos (by simp [Region.wanted, yielded, ze43, zf8])]
       go_simp
       exact hK (.int .i64 (k : Int)) _ (hI.next hR (by kernel_rfl) (Mod.refl _ _) (PB.quiet hI.1 (Mod.refl _ _) (HGs.out D 10 zw1 zw1 (hI.1).g (Mod.refl _ _))) (upd_same V 10 _))
      ·intro D V zw1 a hR hI K hK
       obtain ⟨hM1, hB1, hG1⟩ := hI.1
       have zd9 := hR.pred 9 (by kernel_rfl)
       have zF9 : V 9 = .string ⟨s.toArray⟩ := hI.2 9 zd9 rfl
       have zf9 := zF9; clear zF9
       have zd10 := hR.pred 10 (by kernel_rfl)
       have zF10 : V 10 = .int .i64 (k : Int) := hI.2 10 zd10 rfl
       have zf10 := zF10; clear zF10
       have zd8 := hR.pred 8 (by kernel_rfl)
       have zF8 : V 8 = .bool true := hI.2 8 zd8 rfl
       have zf8 := zF8; clear zF8
       have ze44 := hR.frame.done (t := 44) (j := 9) (by kernel_rfl) hR.ok zd9
       have ze45 := hR.frame.done (t := 45) (j := 10) (by kernel_rfl) hR.ok zd10
       have ze43 := hR.frame.done (t := 43) (j := 8) (by kernel_rfl) hR.ok zd8
       rw [if_pos (by simp [Region.wanted, yielded, ze43, zf8])]
       go_simp
       exact hK (.int .u8 (c : Int)) _ (hI.next hR (by kernel_rfl) (Mod.refl _ _) (PB.quiet hI.1 (Mod.refl _ _) (HGs.out D 11 zw1 zw1 (hI.1).g (Mod.refl _ _))) (upd_same V 11 _))
      ·intro D V zw1 a hR hI K hK
       obtain ⟨hM1, hB1, hG1⟩ := hI.1
       have zd11 := hR.pred 11 (by kernel_rfl)
       have zF11 : V 11 = .int .u8 (c : Int) := hI.2 11 zd11 rfl
       have zf11 := zF11; clear zF11
       have zd8 := hR.pred 8 (by kernel_rfl)
       have zF8 : V 8 = .bool true := hI.2 8 zd8 rfl
       have zf8 := zF8; clear zF8
       have ze46 := hR.frame.done (t := 46) (j := 11) (by kernel_rfl) hR.ok zd11
       have ze43 := hR.frame.done (t := 43) (j := 8) (by kernel_rfl) hR.ok zd8
       rw [if_pos (by simp [Region.wanted, yielded, ze43, zf8])]
       go_simp
       refine (HLT.out zw1).mono ?_
       rintro e zw2 ⟨rfl, hm2⟩
       exact hK (.bool false) _ (hI.next hR (by kernel_rfl) hm2 (PB.quiet hI.1 hm2 (HGs.out D 12 _ _ (hI.1).g hm2)) (upd_same V 12 _))
      ·intro D V zw1 a hR hI K hK
       obtain ⟨hM1, hB1, hG1⟩ := hI.1
       have zd12 := hR.pred 12 (by kernel_rfl)
       have zF12 : V 12 = .bool false := hI.2 12 zd12 rfl
       have zf12 := zF12; clear zF12
       have zd8 := hR.pred 8 (by kernel_rfl)
       have zF8 : V 8 = .bool true := hI.2 8 zd8 rfl
       have zf8 := zF8; clear zF8
       have ze47 := hR.frame.done (t := 47) (j := 12) (by kernel_rfl) hR.ok zd12
       have ze43 := hR.frame.done (t := 43) (j := 8) (by kernel_rfl) hR.ok zd8
       rw [if_pos (by simp [Region.wanted, yielded, ze43, zf8])]
       go_simp
       exact hK (.bool true) _ (hI.next hR (by kernel_rfl) (Mod.refl _ _) (PB.quiet hI.1 (Mod.refl _ _) (HGs.out D 13 zw1 zw1 (hI.1).g (Mod.refl _ _))) (upd_same V 13 _))
      ·intro D V zw1 a hR hI K hK
       obtain ⟨hM1, hB1, hG1⟩ := hI.1
       have zd13 := hR.pred 13 (by kernel_rfl)
       have zF13 : V 13 = .bool true := hI.2 13 zd13 rfl
       have zf13 := zF13; clear zF13
       have zd8 := hR.pred 8 (by kernel_rfl)
       have zF8 : V 8 = .bool true := hI.2 8 zd8 rfl
       have zf8 := zF8; clear zF8
       have ze48 := hR.frame.done (t := 48) (j := 13) (by kernel_rfl) hR.ok zd13
       have ze43 := hR.frame.done (t := 43) (j := 8) (by kernel_rfl) hR.ok zd8
       rw [if_pos (by simp [Region.wanted, yielded, ze43, zf8])]
       go_simp
       exact hK (.bool true) _ (hI.next hR (by kernel_rfl) (Mod.refl _ _) (PB.quiet hI.1 (Mod.refl _ _) (HGs.out D 14 zw1 zw1 (hI.1).g (Mod.refl _ _))) (upd_same V 14 _))
      ·intro D V zw1 a hR hI K hK
       obtain ⟨hM1, hB1, hG1⟩ := hI.1
       have zd14 := hR.pred 14 (by kernel_rfl)
       have zF14 : V 14 = .bool true := hI.2 14 zd14 rfl
       have zf14 := zF14; clear zF14
       have ze49 := hR.frame.done (t := 49) (j := 14) (by kernel_rfl) hR.ok zd14
       rw [if_neg (by simp [Region.wanted, yielded, ze49, zf14])]
       exact hK undef _ (hI.next hR (by kernel_rfl) (Mod.refl _ _) (PB.quiet hI.1 (Mod.refl _ _) (HGs.out D 15 zw1 zw1 (hI.1).g (Mod.refl _ _))) (upd_same V 15 _))
      ·intro D V zw1 a hR hI K hK
       obtain ⟨hM1, hB1, hG1⟩ := hI.1
       have zd14 := hR.pred 14 (by kernel_rfl)
       have zF14 : V 14 = .bool true := hI.2 14 zd14 rfl
       have zf14 := zF14; clear zF14
       have ze49 := hR.frame.done (t := 49) (j := 14) (by kernel_rfl) hR.ok zd14
       rw [if_neg (by simp [Region.wanted, yielded, ze49, zf14])]
       exact hK undef _ (hI.next hR (by kernel_rfl) (Mod.refl _ _) (PB.quiet hI.1 (Mod.refl _ _) (HGs.out D 16 zw1 zw1 (hI.1).g (Mod.refl _ _))) (upd_same V 16 _))
      ·intro D V zw1 a hR hI K hK
       obtain ⟨hM1, hB1, hG1⟩ := hI.1
       have zd14 := hR.pred 14 (by kernel_rfl)
       have zF14 : V 14 = .bool true := hI.2 14 zd14 rfl
       have zf14 := zF14; clear zF14
       have ze49 := hR.frame.done (t := 49) (j := 14) (by kernel_rfl) hR.ok zd14
       rw [if_neg (by simp [Region.wanted, yielded, ze49, zf14])]
       exact hK undef _ (hI.next hR (by kernel_rfl) (Mod.refl _ _) (PB.quiet hI.1 (Mod.refl _ _) (HGs.out D 17 zw1 zw1 (hI.1).g (Mod.refl _ _))) (upd_same V 17 _))
      ·intro D V zw1 a hR hI K hK
       obtain ⟨hM1, hB1, hG1⟩ := hI.1
       have zd14 := hR.pred 14 (by kernel_rfl)
       have zF14 : V 14 = .bool true := hI.2 14 zd14 rfl
       have zf14 := zF14; clear zF14
       have ze49 := hR.frame.done (t := 49) (j := 14) (by kernel_rfl) hR.ok zd14
       rw [if_neg (by simp [Region.wanted, yielded, ze49, zf14])]
       exact hK undef _ (hI.next hR (by kernel_rfl) (Mod.refl _ _) (PB.quiet hI.1 (Mod.refl _ _) (HGs.out D 18 zw1 zw1 (hI.1).g (Mod.refl _ _))) (upd_same V 18 _))
      ·intro D V zw1 a hR hI K hK
       obtain ⟨hM1, hB1, hG1⟩ := hI.1
       have zd14 := hR.pred 14 (by kernel_rfl)
       have zF14 : V 14 = .bool true := hI.2 14 zd14 rfl
       have zf14 := zF14; clear zF14
       have ze49 := hR.frame.done (t := 49) (j := 14) (by kernel_rfl) hR.ok zd14
       rw [if_neg (by simp [Region.wanted, yielded, ze49, zf14])]
       exact hK undef _ (hI.next hR (by kernel_rfl) (Mod.refl _ _) (PB.quiet hI.1 (Mod.refl _ _) (HGs.out D 19 zw1 zw1 (hI.1).g (Mod.refl _ _))) (upd_same V 19 _))
      ·intro D V zw1 a hR hI K hK
       obtain ⟨hM1, hB1, hG1⟩ := hI.1
       have zd14 := hR.pred 14 (by kernel_rfl)
       have zF14 : V 14 = .bool true := hI.2 14 zd14 rfl
       have zf14 := zF14; clear zF14
       have ze49 := hR.frame.done (t := 49) (j := 14) (by kernel_rfl) hR.ok zd14
       rw [if_neg (by simp [Region.wanted, yielded, ze49, zf14])]
       exact hK undef _ (hI.next hR (by kernel_rfl) (Mod.refl _ _) (PB.quiet hI.1 (Mod.refl _ _) (HGs.out D 20 zw1 zw1 (hI.1).g (Mod.refl _ _))) (upd_same V 20 _))
      ·intro D V zw1 a hR hI K hK
       obtain ⟨hM1, hB1, hG1⟩ := hI.1
       have zd14 := hR.pred 14 (by kernel_rfl)
       have zF14 : V 14 = .bool true := hI.2 14 zd14 rfl
       have zf14 := zF14; clear zF14
       have ze49 := hR.frame.done (t := 49) (j := 14) (by kernel_rfl) hR.ok zd14
       rw [if_neg (by simp [Region.wanted, yielded, ze49, zf14])]
       exact hK undef _ (hI.next hR (by kernel_rfl) (Mod.refl _ _) (PB.quiet hI.1 (Mod.refl _ _) (HGs.out D 21 zw1 zw1 (hI.1).g (Mod.refl _ _))) (upd_same V 21 _))
      ·intro D V zw1 a hR hI K hK
       obtain ⟨hM1, hB1, hG1⟩ := hI.1
       have zd14 := hR.pred 14 (by kernel_rfl)
       have zF14 : V 14 = .bool true := hI.2 14 zd14 rfl
       have zf14 := zF14; clear zF14
       have ze49 := hR.frame.done (t := 49) (j := 14) (by kernel_rfl) hR.ok zd14
       rw [if_neg (by simp [Region.wanted, yielded, ze49, zf14])]
       exact hK undef _ (hI.next hR (by kernel_rfl) (Mod.refl _ _) (PB.quiet hI.1 (Mod.refl _ _) (HGs.out D 22 zw1 zw1 (hI.1).g (Mod.refl _ _))) (upd_same V 22 _))
      ·intro D V zw1 a hR hI K hK
       obtain ⟨hM1, hB1, hG1⟩ := hI.1
       have zd14 := hR.pred 14 (by kernel_rfl)
       have zF14 : V 14 = .bool true := hI.2 14 zd14 rfl
       have zf14 := zF14; clear zF14
       have ze49 := hR.frame.done (t := 49) (j := 14) (by kernel_rfl) hR.ok zd14
       rw [if_neg (by simp [Region.wanted, yielded, ze49, zf14])]
       exact hK undef _ (hI.next hR (by kernel_rfl) (Mod.refl _ _) (PB.quiet hI.1 (Mod.refl _ _) (HGs.out D 23 zw1 zw1 (hI.1).g (Mod.refl _ _))) (upd_same V 23 _))
      ·intro D V zw1 a hR hI K hK
       obtain ⟨hM1, hB1, hG1⟩ := hI.1
       have zd14 := hR.pred 14 (by kernel_rfl)
       have zF14 : V 14 = .bool true := hI.2 14 zd14 rfl
       have zf14 := zF14; clear zF14
       have ze49 := hR.frame.done (t := 49) (j := 14) (by kernel_rfl) hR.ok zd14
       rw [if_neg (by simp [Region.wanted, yielded, ze49, zf14])]
       exact hK undef _ (hI.next hR (by kernel_rfl) (Mod.refl _ _) (PB.quiet hI.1 (Mod.refl _ _) (HGs.out D 24 zw1 zw1 (hI.1).g (Mod.refl _ _))) (upd_same V 24 _))
      ·intro D V zw1 a hR hI K hK
       obtain ⟨hM1, hB1, hG1⟩ := hI.1
       have zd14 := hR.pred 14 (by kernel_rfl)
       have zF14 : V 14 = .bool true := hI.2 14 zd14 rfl
       have zf14 := zF14; clear zF14
       have ze49 := hR.frame.done (t := 49) (j := 14) (by kernel_rfl) hR.ok zd14
       rw [if_neg (by simp [Region.wanted, yielded, ze49, zf14])]
       exact hK undef _ (hI.next hR (by kernel_rfl) (Mod.refl _ _) (PB.quiet hI.1 (Mod.refl _ _) (HGs.out D 25 zw1 zw1 (hI.1).g (Mod.refl _ _))) (upd_same V 25 _))
      ·intro D V zw1 a hR hI K hK
       obtain ⟨hM1, hB1, hG1⟩ := hI.1
       have zd14 := hR.pred 14 (by kernel_rfl)
       have zF14 : V 14 = .bool true := hI.2 14 zd14 rfl
       have zf14 := zF14; clear zF14
       have ze49 := hR.frame.done (t := 49) (j := 14) (by kernel_rfl) hR.ok zd14
       rw [if_neg (by simp [Region.wanted, yielded, ze49, zf14])]
       exact hK undef _ (hI.next hR (by kernel_rfl) (Mod.refl _ _) (PB.quiet hI.1 (Mod.refl _ _) (HGs.out D 26 zw1 zw1 (hI.1).g (Mod.refl _ _))) (upd_same V 26 _))
      ·intro D V zw1 a hR hI K hK
       obtain ⟨hM1, hB1, hG1⟩ := hI.1
       have zd14 := hR.pred 14 (by kernel_rfl)
       have zF14 : V 14 = .bool true := hI.2 14 zd14 rfl
       have zf14 := zF14; clear zF14
       have zd26 := hR.pred 26 (by kernel_rfl)
       have zF26 : V 26 = undef := hI.2 26 zd26 rfl
       have zf26 := zF26; clear zF26
       have zd8 := hR.pred 8 (by kernel_rfl)
       have zF8 : V 8 = .bool true := hI.2 8 zd8 rfl
       have zf8 := zF8; clear zF8
       have ze49 := hR.frame.done (t := 49) (j := 14) (by kernel_rfl) hR.ok zd14
       have ze61 := hR.frame.done (t := 61) (j := 26) (by kernel_rfl) hR.ok zd26
       have ze43 := hR.frame.done (t := 43) (j := 8) (by kernel_rfl) hR.ok zd8
       rw [if_pos (by simp [Region.wanted, yielded, ze43, zf8])]
       go_simp
       exact hK (.bool true) _ (hI.next hR (by kernel_rfl) (Mod.refl _ _) (PB.quiet hI.1 (Mod.refl _ _) (HGs.out D 27 zw1 zw1 (hI.1).g (Mod.refl _ _))) (upd_same V 27 _))
      ·intro D V zw1 a hR hI K hK
       obtain ⟨hM1, hB1, hG1⟩ := hI.1
       have zd8 := hR.pred 8 (by kernel_rfl)
       have zF8 : V 8 = .bool true := hI.2 8 zd8 rfl
       have zf8 := zF8; clear zF8
       have zd27 := hR.pred 27 (by kernel_rfl)
       have zF27 : V 27 = .bool true := hI.2 27 zd27 rfl
       have zf27 := zF27; clear zF27
       have ze43 := hR.frame.done (t := 43) (j := 8) (by kernel_rfl) hR.ok zd8
       have ze62 := hR.frame.done (t := 62) (j := 27) (by kernel_rfl) hR.ok zd27
       rw [if_pos (by rfl)]
       go_simp
       exact hK (.bool true) _ (hI.next hR (by kernel_rfl) (Mod.refl _ _) (PB.quiet hI.1 (Mod.refl _ _) (HGs.out D 28 zw1 zw1 (hI.1).g (Mod.refl _ _))) (upd_same V 28 _))
     ·intro D V w9 hD hI
      obtain ⟨hM1, hB1, hG1⟩ := hI.1
      have hMx := hM1
      clear hM1
      have hBx := hB1
      clear hB1
      have hGx := hG1
      clear hG1
      have zF0 : V 0 = .bool false := hI.2 0 (hD 0 (by decide)) rfl
      have zf0 := zF0; clear zF0
      have zF1 : V 1 = .bool true := hI.2 1 (hD 1 (by decide)) rfl
      have zf1 := zF1; clear zF1
      have zF2 : V 2 = .bool true := hI.2 2 (hD 2 (by decide)) rfl
      have zf2 := zF2; clear zF2
      have zF3 : V 3 = .string ⟨s.toArray⟩ := hI.2 3 (hD 3 (by decide)) rfl
      have zf3 := zF3; clear zF3
      have zF4 : V 4 = .int .i64 (k : Int) := hI.2 4 (hD 4 (by decide)) rfl
      have zf4 := zF4; clear zF4
      have zF5 : V 5 = .int .u8 (c : Int) := hI.2 5 (hD 5 (by decide)) rfl
      have zf5 := zF5; clear zF5
      have zF6 : V 6 = .bool true := hI.2 6 (hD 6 (by decide)) rfl
      have zf6 := zF6; clear zF6
      have zF7 : V 7 = .bool true := hI.2 7 (hD 7 (by decide)) rfl
      have zf7 := zF7; clear zF7
      have zF8 : V 8 = .bool true := hI.2 8 (hD 8 (by decide)) rfl
      have zf8 := zF8; clear zF8
      have zF9 : V 9 = .string ⟨s.toArray⟩ := hI.2 9 (hD 9 (by decide)) rfl
      have zf9 := zF9; clear zF9
      have zF10 : V 10 = .int .i64 (k : Int) := hI.2 10 (hD 10 (by decide)) rfl
      have zf10 := zF10; clear zF10
      have zF11 : V 11 = .int .u8 (c : Int) := hI.2 11 (hD 11 (by decide)) rfl
      have zf11 := zF11; clear zF11
      have zF12 : V 12 = .bool false := hI.2 12 (hD 12 (by decide)) rfl
      have zf12 := zF12; clear zF12
      have zF13 : V 13 = .bool true := hI.2 13 (hD 13 (by decide)) rfl
      have zf13 := zF13; clear zF13
      have zF14 : V 14 = .bool true := hI.2 14 (hD 14 (by decide)) rfl
      have zf14 := zF14; clear zF14
      have zF15 : V 15 = undef := hI.2 15 (hD 15 (by decide)) rfl
      have zf15 := zF15; clear zF15
      have zF16 : V 16 = undef := hI.2 16 (hD 16 (by decide)) rfl
      have zf16 := zF16; clear zF16
      have zF17 : V 17 = undef := hI.2 17 (hD 17 (by decide)) rfl
      have zf17 := zF17; clear zF17
      have zF18 : V 18 = undef := hI.2 18 (hD 18 (by decide)) rfl
      have zf18 := zF18; clear zF18
      have zF19 : V 19 = undef := hI.2 19 (hD 19 (by decide)) rfl
      have zf19 := zF19; clear zF19
      have zF20 : V 20 = undef := hI.2 20 (hD 20 (by decide)) rfl
      have zf20 := zF20; clear zF20
      have zF21 : V 21 = undef := hI.2 21 (hD 21 (by decide)) rfl
      have zf21 := zF21; clear zF21
      have zF22 : V 22 = undef := hI.2 22 (hD 22 (by decide)) rfl
      have zf22 := zF22; clear zF22
      have zF23 : V 23 = undef := hI.2 23 (hD 23 (by decide)) rfl
      have zf23 := zF23; clear zF23
      have zF24 : V 24 = undef := hI.2 24 (hD 24 (by decide)) rfl
      have zf24 := zF24; clear zF24
      have zF25 : V 25 = undef := hI.2 25 (hD 25 (by decide)) rfl
      have zf25 := zF25; clear zF25
      have zF26 : V 26 = undef := hI.2 26 (hD 26 (by decide)) rfl
      have zf26 := zF26; clear zF26
      have zF27 : V 27 = .bool true := hI.2 27 (hD 27 (by decide)) rfl
      have zf27 := zF27; clear zF27
      have zF28 : V 28 = .bool true := hI.2 28 (hD 28 (by decide)) rfl
      have zf28 := zF28; clear zF28
      clear hI hD HGs
      simp only [frAll, Act.put, List.setIfInBounds_toArray, List.set_cons_zero, List.set_cons_succ, Nat.zero_add, Nat.reduceAdd, zf0, zf1, zf2, zf3, zf4, zf5, zf6, zf7, zf8, zf9, zf10, zf11, zf12, zf13, zf14, zf15, zf16, zf17, zf18, zf19, zf20, zf21, zf22, zf23, zf24, zf25, zf26, zf27, zf28]
      clear zf0 zf1 zf2 zf3 zf4 zf5 zf6 zf7 zf8 zf9 zf10 zf11 zf12 zf13 zf14 zf15 zf16 zf17 zf18 zf19 zf20 zf21 zf22 zf23 zf24 zf25 zf26 zf27 zf28
      clear V D
      have HP2 : Hid (Pure w w9) := Lib.hid (HP.out.trans hMx)
      clear hGx hMx hBx
      go_wp2_with fail
      try simp only [Exit.inBlock, Exit.then]
      refine bodyPost_ret (v := .bool false) (by simp [results, Tryz.results17, go_sem]) rfl ?_
      rw [HR.out]
      exact ⟨rfl, HP2.out⟩
    | true =>
     have hwk : IntKind.i64.wrap ((k : Int) + 1) = (k : Int) + 1 := by simp [IntKind.wrap, IntKind.bits, IntKind.signed]; omega
     have hb1 : (0 : Int) ≤ (k : Int) + 1 ∧ (k : Int) + 1 ≤ (n : Int) := by omega
     have hb2 : (k : Int) ≤ (k : Int) + 1 := by omega
     by_cases hdc : d = cc
     ·have e : pc = true := by rw [hpc, hsm, hdc]; simp
      have HS2 := Lib.hid (YES.out e)
      subst hdc
      have hdd : (d == d) = true := by simp
      have hdd2 : (d != d) = false := by simp
      clear YES NO h HSM h63 hst hpc hsm e
      go_upto_region 7 with (fail)
      have HGs := Lib.hid (show ∀ (D : Nat → Bool) (zzi : Nat) (zq zq' : World), (fun _ zq => (fun Z => ∃ hz : Nat, hz = Z.heap.size) zq) D zq → Mod (fun _ => False) zq zq' → (fun _ zq => (fun Z => ∃ hz : Nat, hz = Z.heap.size) zq) (upd D zzi true) zq' from by intro D zzi zq zq' h hm; (exact ⟨_, rfl⟩))
      refine wp_region_inv (by kernel_rfl) (by kernel_rfl) (InvF (R := Mod (fun _ => False)) [.is (.bool false),
        .is (.bool true),
        .is (.bool true),
        .is (.string ⟨s.toArray⟩),
        .is (.int .i64 (k : Int)),
        .is (.int .u8 (c : Int)),
        .is (.bool true),
        .is (.bool true),
        .is (.bool true),
        .is (.string ⟨s.toArray⟩),
        .is (.int .i64 (k : Int)),
        .is (.int .u8 (c : Int)),
        .is (.bool true),
        .is (.bool false),
        .is (.bool false),
        .is (.string ⟨s.toArray⟩),
        .is (.int .i64 (k : Int)),
        .is (.int .i64 (k : Int)),
        .is (.int .i64 ((k : Int) + 1)),
        .is (.string ⟨#[d]⟩),
        .is (.string ⟨#[d]⟩),
        .is (.string ⟨s.toArray⟩),
        .is (.int .i64 (k : Int)),
        .is (.int .i64 (k : Int)),
        .is (.int .i64 ((k : Int) + 1)),
        .is (.string ⟨#[d]⟩),
        .is (.bool false),
        .is (.bool false),
        .is (.bool false)]
        (PB wr (fun _ => False) wr.heap.size (fun _ zq => (fun Z => ∃ hz : Nat, hz = Z.heap.size) zq))) (InvF.start (PB.start (Mod.refl _ _) (Nat.le_refl _) (⟨_, rfl⟩))) ?_ ?_
      ·refine .cons ?_ (.cons ?_ (.cons ?_ (.cons ?_ (.cons ?_ (.cons ?_ (.cons ?_ (.cons ?_ (.cons ?_ (.cons ?_ (.cons ?_ (.cons ?_ (.cons ?_ (.cons ?_ (.cons ?_ (.cons ?_ (.cons ?_ (.cons ?_ (.cons ?_ (.cons ?_ (.cons ?_ (.cons ?_ (.cons ?_ (.cons ?_ (.cons ?_ (.cons ?_ (.cons ?_ (.cons ?_ (.cons ?_ .nil))))))))))))))))))))))))))))
       ·intro D V zw1 a hR hI K hK
        obtain ⟨hM1, hB1, hG1⟩ := hI.1
        have ze4 := hR.frame.other (t := 4) (by kernel_rfl) rfl
        rw [if_pos (by rfl)]
        go_simp
        exact hK (.bool false) _ (hI.next hR (by kernel_rfl) (Mod.refl _ _) (PB.quiet hI.1 (Mod.refl _ _) (HGs.out D 0 zw1 zw1 (hI.1).g (Mod.refl _ _))) (upd_same V 0 _))
       ·intro D V zw1 a hR hI K hK
        obtain ⟨hM1, hB1, hG1⟩ := hI.1
        have zd0 := hR.pred 0 (by kernel_rfl)
        have zF0 : V 0 = .bool false := hI.2 0 zd0 rfl
        have zf0 := zF0; clear zF0
        have ze35 := hR.frame.done (t := 35) (j := 0) (by kernel_rfl) hR.ok zd0
        rw [if_pos (by rfl)]
        go_simp
        exact hK (.bool true) _ (hI.next hR (by kernel_rfl) (Mod.refl _ _) (PB.quiet hI.1 (Mod.refl _ _) (HGs.out D 1 zw1 zw1 (hI.1).g (Mod.refl _ _))) (upd_same V 1 _))
       ·intro D V zw1 a hR hI K hK
        obtain ⟨hM1, hB1, hG1⟩ := hI.1
        have zd1 := hR.pred 1 (by kernel_rfl)
        have zF1 : V 1 = .bool true := hI.2 1 zd1 rfl
        have zf1 := zF1; clear zF1
        have ze36 := hR.frame.done (t := 36) (j := 1) (by kernel_rfl) hR.ok zd1
        rw [if_pos (by rfl)]
        go_simp
        exact hK (.bool true) _ (hI.next hR (by kernel_rfl) (Mod.refl _ _) (PB.quiet hI.1 (Mod.refl _ _) (HGs.out D 2 zw1 zw1 (hI.1).g (Mod.refl _ _))) (upd_same V 2 _))
       ·intro D V zw1 a hR hI K hK
        obtain ⟨hM1, hB1, hG1⟩ := hI.1
        have zd2 := hR.pred 2 (by kernel_rfl)
        have zF2 : V 2 = .bool true := hI.2 2 zd2 rfl
        have zf2 := zF2; clear zF2
        have ze0 := hR.frame.other (t := 0) (by kernel_rfl) rfl
        have ze37 := hR.frame.done (t := 37) (j := 2) (by kernel_rfl) hR.ok zd2
        rw [if_pos (by simp [Region.wanted, yielded, ze37, zf2])]
        go_simp
        exact hK (.string ⟨s.toArray⟩) _ (hI.next hR (by kernel_rfl) (Mod.refl _ _) (PB.quiet hI.1 (Mod.refl _ _) (HGs.out D 3 zw1 zw1 (hI.1).g (Mod.refl _ _))) (upd_same V 3 _))
       ·intro D V zw1 a hR hI K hK
        obtain ⟨hM1, hB1, hG1⟩ := hI.1
        have zd2 := hR.pred 2 (by kernel_rfl)
        have zF2 : V 2 = .bool true := hI.2 2 zd2 rfl
        have zf2 := zF2; clear zF2
        have ze3 := hR.frame.other (t := 3) (by kernel_rfl) rfl
        have ze37 := hR.frame.done (t := 37) (j := 2) (by kernel_rfl) hR.ok zd2
        rw [if_pos (by simp [Region.wanted, yielded, ze37, zf2])]
        go_simp
        exact hK (.int .i64 (k : Int)) _ (hI.next hR (by kernel_rfl) (Mod.refl _ _) (PB.quiet hI.1 (Mod.refl _ _) (HGs.out D 4 zw1 zw1 (hI.1).g (Mod.refl _ _))) (upd_same V 4 _))
       ·intro D V zw1 a hR hI K hK
        obtain ⟨hM1, hB1, hG1⟩ := hI.1
        have zd3 := hR.pred 3 (by kernel_rfl)
        have zF3 : V 3 = .string ⟨s.toArray⟩ := hI.2 3 zd3 rfl
        have zf3 := zF3; clear zF3
        have zd4 := hR.pred 4 (by kernel_rfl)
        have zF4 : V 4 = .int .i64 (k : Int) := hI.2 4 zd4 rfl
        have zf4 := zF4; clear zF4
        have zd2 := hR.pred 2 (by kernel_rfl)
        have zF2 : V 2 = .bool true := hI.2 2 zd2 rfl
        have zf2 := zF2; clear zF2
        have ze38 := hR.frame.done (t := 38) (j := 3) (by kernel_rfl) hR.ok zd3
        have ze39 := hR.frame.done (t := 39) (j := 4) (by kernel_rfl) hR.ok zd4
        have ze37 := hR.frame.done (t := 37) (j := 2) (by kernel_rfl) hR.ok zd2
        rw [if_pos (by simp [Region.wanted, yielded, ze37, zf2])]
        go_simp
        exact hK (.int .u8 (c : Int)) _ (hI.next hR (by kernel_rfl) (Mod.refl _ _) (PB.quiet hI.1 (Mod.refl _ _) (HGs.out D 5 zw1 zw1 (hI.1).g (Mod.refl _ _))) (upd_same V 5 _))
       ·intro D V zw1 a hR hI K hK
        obtain ⟨hM1, hB1, hG1⟩ := hI.1
        have zd5 := hR.pred 5 (by kernel_rfl)
        have zF5 : V 5 = .int .u8 (c : Int) := hI.2 5 zd5 rfl
        have zf5 := zF5; clear zF5
        have zd2 := hR.pred 2 (by kernel_rfl)
        have zF2 : V 2 = .bool true := hI.2 2 zd2 rfl
        have zf2 := zF2; clear zF2
        have ze40 := hR.frame.done (t := 40) (j := 5) (by kernel_rfl) hR.ok zd5
        have ze37 := hR.frame.done (t := 37) (j := 2) (by kernel_rfl) hR.ok zd2
        rw [if_pos (by simp [Region.wanted, yielded, ze37, zf2])]
        go_simp
        exact hK (.bool true) _ (hI.next hR (by kernel_rfl) (Mod.refl _ _) (PB.quiet hI.1 (Mod.refl _ _) (HGs.out D 6 zw1 zw1 (hI.1).g (Mod.refl _ _))) (upd_same V 6 _))
       ·intro D V zw1 a hR hI K hK
        obtain ⟨hM1, hB1, hG1⟩ := hI.1
        have zd2 := hR.pred 2 (by kernel_rfl)
        have zF2 : V 2 = .bool true := hI.2 2 zd2 rfl
        have zf2 := zF2; clear zF2
        have zd6 := hR.pred 6 (by kernel_rfl)
        have zF6 : V 6 = .bool true := hI.2 6 zd6 rfl
        have zf6 := zF6; clear zF6
        have ze37 := hR.frame.done (t := 37) (j := 2) (by kernel_rfl) hR.ok zd2
        have ze41 := hR.frame.done (t := 41) (j := 6) (by kernel_rfl) hR.ok zd6
        rw [if_pos (by rfl)]
        go_simp
        exact hK (.bool true) _ (hI.next hR (by kernel_rfl) (Mod.refl _ _) (PB.quiet hI.1 (Mod.refl _ _) (HGs.out D 7 zw1 zw1 (hI.1).g (Mod.refl _ _))) (upd_same V 7 _))
       ·intro D V zw1 a hR hI K hK
        obtain ⟨hM1, hB1, hG1⟩ := hI.1
        have zd7 := hR.pred 7 (by kernel_rfl)
        have zF7 : V 7 = .bool true := hI.2 7 zd7 rfl
        have zf7 := zF7; clear zF7
        have ze42 := hR.frame.done (t := 42) (j := 7) (by kernel_rfl) hR.ok zd7
        rw [if_pos (by rfl)]
        go_simp
        exact hK (.bool true) _ (hI.next hR (by kernel_rfl) (Mod.refl _ _) (PB.quiet hI.1 (Mod.refl _ _) (HGs.out D 8 zw1 zw1 (hI.1).g (Mod.refl _ _))) (upd_same V 8 _))
       ·intro D V zw1 a hR hI K hK
        obtain ⟨hM1, hB1, hG1⟩ := hI.1
        have zd8 := hR.pred 8 (by kernel_rfl)
        have zF8 : V 8 = .bool true := hI.2 8 zd8 rfl
        have zf8 := zF8; clear zF8
        have ze0 := hR.frame.other (t := 0) (by kernel_rfl) rfl
        have ze43 := hR.frame.done (t := 43) (j := 8) (by kernel_rfl) hR.ok zd8
        rw [if_pos (by simp [Region.wanted, yielded, ze43, zf8])]
        go_simp
        exact hK (.string ⟨s.toArray⟩) _ (hI.next hR (by kernel_rfl) (Mod.refl _ _) (PB.quiet hI.1 (Mod.refl _ _) (HGs.out D 9 zw1 zw1 (hI.1).g (Mod.refl _ _))) (upd_same V 9 _))
       ·intro D V zw1 a hR hI K hK
        obtain ⟨hM1, hB1, hG1⟩ := hI.1
        have zd8 := hR.pred 8 (by kernel_rfl)
        have zF8 : V 8 = .bool true := hI.2 8 zd8 rfl
        have zf8 := zF8; clear zF8
        have ze3 := hR.frame.other (t := 3) (by kernel_rfl) rfl
        have ze43 := hR.frame.done (t := 43) (j := 8) (by kernel_rfl) hR.ok zd8
        rw [if_pos (by simp [Region.wanted, yielded, ze43, zf8])]
        go_simp
        exact hK (.int .i64 (k : Int)) _ (hI.next hR (by kernel_rfl) (Mod.refl _ _) (PB.quiet hI.1 (Mod.refl _ _) (HGs.out D 10 zw1 zw1 (hI.1).g (Mod.refl _ _))) (upd_same V 10 _))
       ·intro D V zw1 a hR hI K hK
        obtain ⟨hM1, hB1, hG1⟩ := hI.1
        have zd9 := hR.pred 9 (by kernel_rfl)
        have zF9 : V 9 = .string ⟨s.toArray⟩ := hI.2 9 zd9 rfl
        have zf9 := zF9; clear zF9
        have zd10 := hR.pred 10 (by kernel_rfl)
        have zF10 : V 10 = .int .i64 (k : Int) := hI.2 10 zd10 rfl
        have zf10 := zF10; clear zF10
        have zd8 := hR.pred 8 (by kernel_rfl)
        have zF8 : V 8 = .bool true := hI.2 8 zd8 rfl
        have zf8 := zF8; clear zF8
        have ze44 := hR.frame.done (t := 44) (j := 9) (by kernel_rfl) hR.ok zd9
        have ze45 := hR.frame.done (t := 45) (j := 10) (by kernel_rfl) hR.ok zd10
        have ze43 := hR.frame.done (t := 43) (j := 8) (by kernel_rfl) hR.ok zd8
        rw [if_pos (by simp [Region.wanted, yielded, ze43, zf8])]
        go_simp
        exact hK (.int .u8 (c : Int)) _ (hI.next hR (by kernel_rfl) (Mod.refl _ _) (PB.quiet hI.1 (Mod.refl _ _) (HGs.out D 11 zw1 zw1 (hI.1).g (Mod.refl _ _))) (upd_same V 11 _))
       ·intro D V zw1 a hR hI K hK
        obtain ⟨hM1, hB1, hG1⟩ := hI.1
        have zd11 := hR.pred 11 (by kernel_rfl)
        have zF11 : V 11 = .int .u8 (c : Int) := hI.2 11 zd11 rfl
        have zf11 := zF11; clear zF11
        have zd8 := hR.pred 8 (by kernel_rfl)
        have zF8 : V 8 = .bool true := hI.2 8 zd8 rfl
        have zf8 := zF8; clear zF8
        have ze46 := hR.frame.done (t := 46) (j := 11) (by kernel_rfl) hR.ok zd11
        have ze43 := hR.frame.done (t := 43) (j := 8) (by kernel_rfl) hR.ok zd8
        rw [if_pos (by simp [Region.wanted, yielded, ze43, zf8])]
        go_simp
        refine (HLT.out zw1).mono ?_
        rintro e zw2 ⟨rfl, hm2⟩
        exact hK (.bool true) _ (hI.next hR (by kernel_rfl) hm2 (PB.quiet hI.1 hm2 (HGs.out D 12 _ _ (hI.1).g hm2)) (upd_same V 12 _))
       ·intro D V zw1 a hR hI K hK
        obtain ⟨hM1, hB1, hG1⟩ := hI.1
        have zd12 := hR.pred 12 (by kernel_rfl)
        have zF12 : V 12 = .bool true := hI.2 12 zd12 rfl
        have zf12 := zF12; clear zF12
        have zd8 := hR.pred 8 (by kernel_rfl)
        have zF8 : V 8 = .bool true := hI.2 8 zd8 rfl
        have zf8 := zF8; clear zF8
        have ze47 := hR.frame.done (t := 47) (j := 12) (by kernel_rfl) hR.ok zd12
        have ze43 := hR.frame.done (t := 43) (j := 8) (by kernel_rfl) hR.ok zd8
        rw [if_pos (by simp [Region.wanted, yielded, ze43, zf8])]
        go_simp
        exact hK (.bool false) _ (hI.next hR (by kernel_rfl) (Mod.refl _ _) (PB.quiet hI.1 (Mod.refl _ _) (HGs.out D 13 zw1 zw1 (hI.1).g (Mod.refl _ _))) (upd_same V 13 _))
       ·intro D V zw1 a hR hI K hK
        obtain ⟨hM1, hB1, hG1⟩ := hI.1
        have zd13 := hR.pred 13 (by kernel_rfl)
        have zF13 : V 13 = .bool false := hI.2 13 zd13 rfl
        have zf13 := zF13; clear zF13
        have zd8 := hR.pred 8 (by kernel_rfl)
        have zF8 : V 8 = .bool true := hI.2 8 zd8 rfl
        have zf8 := zF8; clear zF8
        have ze48 := hR.frame.done (t := 48) (j := 13) (by kernel_rfl) hR.ok zd13
        have ze43 := hR.frame.done (t := 43) (j := 8) (by kernel_rfl) hR.ok zd8
        rw [if_pos (by simp [Region.wanted, yielded, ze43, zf8])]
        go_simp
        exact hK (.bool false) _ (hI.next hR (by kernel_rfl) (Mod.refl _ _) (PB.quiet hI.1 (Mod.refl _ _) (HGs.out D 14 zw1 zw1 (hI.1).g (Mod.refl _ _))) (upd_same V 14 _))
       ·intro D V zw1 a hR hI K hK
        obtain ⟨hM1, hB1, hG1⟩ := hI.1
        have zd14 := hR.pred 14 (by kernel_rfl)
        have zF14 : V 14 = .bool false := hI.2 14 zd14 rfl
        have zf14 := zF14; clear zF14
        have ze0 := hR.frame.other (t := 0) (by kernel_rfl) rfl
        have ze49 := hR.frame.done (t := 49) (j := 14) (by kernel_rfl) hR.ok zd14
        rw [if_pos (by simp [Region.wanted, yielded, ze49, zf14])]
        go_simp
        exact hK (.string ⟨s.toArray⟩) _ (hI.next hR (by kernel_rfl) (Mod.refl _ _) (PB.quiet hI.1 (Mod.refl _ _) (HGs.out D 15 zw1 zw1 (hI.1).g (Mod.refl _ _))) (upd_same V 15 _))
       ·intro D V zw1 a hR hI K hK
        obtain ⟨hM1, hB1, hG1⟩ := hI.1
        have zd14 := hR.pred 14 (by kernel_rfl)
        have zF14 : V 14 = .bool false := hI.2 14 zd14 rfl
        have zf14 := zF14; clear zF14
        have ze3 := hR.frame.other (t := 3) (by kernel_rfl) rfl
        have ze49 := hR.frame.done (t := 49) (j := 14) (by kernel_rfl) hR.ok zd14
        rw [if_pos (by simp [Region.wanted, yielded, ze49, zf14])]
        go_simp
        exact hK (.int .i64 (k : Int)) _ (hI.next hR (by kernel_rfl) (Mod.refl _ _) (PB.quiet hI.1 (Mod.refl _ _) (HGs.out D 16 zw1 zw1 (hI.1).g (Mod.refl _ _))) (upd_same V 16 _))
       ·intro D V zw1 a hR hI K hK
        obtain ⟨hM1, hB1, hG1⟩ := hI.1
        have zd14 := hR.pred 14 (by kernel_rfl)
        have zF14 : V 14 = .bool false := hI.2 14 zd14 rfl
        have zf14 := zF14; clear zF14
        have ze3 := hR.frame.other (t := 3) (by kernel_rfl) rfl
        have ze49 := hR.frame.done (t := 49) (j := 14) (by kernel_rfl) hR.ok zd14
        rw [if_pos (by simp [Region.wanted, yielded, ze49, zf14])]
        go_simp
        exact hK (.int .i64 (k : Int)) _ (hI.next hR (by kernel_rfl) (Mod.refl _ _) (PB.quiet hI.1 (Mod.refl _ _) (HGs.out D 17 zw1 zw1 (hI.1).g (Mod.refl _ _))) (upd_same V 17 _))
       ·intro D V zw1 a hR hI K hK
        obtain ⟨hM1, hB1, hG1⟩ := hI.1
        have zd17 := hR.pred 17 (by kernel_rfl)
        have zF17 : V 17 = .int .i64 (k : Int) := hI.2 17 zd17 rfl
        have zf17 := zF17; clear zF17
        have zd14 := hR.pred 14 (by kernel_rfl)
        have zF14 : V 14 = .bool false := hI.2 14 zd14 rfl
        have zf14 := zF14; clear zF14
        have ze52 := hR.frame.done (t := 52) (j := 17) (by kernel_rfl) hR.ok zd17
        have ze49 := hR.frame.done (t := 49) (j := 14) (by kernel_rfl) hR.ok zd14
        rw [if_pos (by simp [Region.wanted, yielded, ze49, zf14])]
        go_simp
        exact hK (.int .i64 ((k : Int) + 1)) _ (hI.next hR (by kernel_rfl) (Mod.refl _ _) (PB.quiet hI.1 (Mod.refl _ _) (HGs.out D 18 zw1 zw1 (hI.1).g (Mod.refl _ _))) (upd_same V 18 _))
       ·intro D V zw1 a hR hI K hK
        obtain ⟨hM1, hB1, hG1⟩ := hI.1
        have zd15 := hR.pred 15 (by kernel_rfl)
        have zF15 : V 15 = .string ⟨s.toArray⟩ := hI.2 15 zd15 rfl
        have zf15 := zF15; clear zF15
        have zd16 := hR.pred 16 (by kernel_rfl)
        have zF16 : V 16 = .int .i64 (k : Int) := hI.2 16 zd16 rfl
        have zf16 := zF16; clear zF16
        have zd18 := hR.pred 18 (by kernel_rfl)
        have zF18 : V 18 = .int .i64 ((k : Int) + 1) := hI.2 18 zd18 rfl
        have zf18 := zF18; clear zF18
        have zd14 := hR.pred 14 (by kernel_rfl)
        have zF14 : V 14 = .bool false := hI.2 14 zd14 rfl
        have zf14 := zF14; clear zF14
        have ze50 := hR.frame.done (t := 50) (j := 15) (by kernel_rfl) hR.ok zd15
        have ze51 := hR.frame.done (t := 51) (j := 16) (by kernel_rfl) hR.ok zd16
        have ze53 := hR.frame.done (t := 53) (j := 18) (by kernel_rfl) hR.ok zd18
        have ze49 := hR.frame.done (t := 49) (j := 14) (by kernel_rfl) hR.ok zd14
        rw [if_pos (by simp [Region.wanted, yielded, ze49, zf14])]
        go_simp
        exact hK (.string ⟨#[d]⟩) _ (hI.next hR (by kernel_rfl) (Mod.refl _ _) (PB.quiet hI.1 (Mod.refl _ _) (HGs.out D 19 zw1 zw1 (hI.1).g (Mod.refl _ _))) (upd_same V 19 _))
       ·intro D V zw1 a hR hI K hK
        obtain ⟨hM1, hB1, hG1⟩ := hI.1
        have zd19 := hR.pred 19 (by kernel_rfl)
        have zF19 : V 19 = .string ⟨#[d]⟩ := hI.2 19 zd19 rfl
        have zf19 := zF19; clear zF19
        have zd14 := hR.pred 14 (by kernel_rfl)
        have zF14 : V 14 = .bool false := hI.2 14 zd14 rfl
        have zf14 := zF14; clear zF14
        have ze54 := hR.frame.done (t := 54) (j := 19) (by kernel_rfl) hR.ok zd19
        have ze49 := hR.frame.done (t := 49) (j := 14) (by kernel_rfl) hR.ok zd14
        rw [if_pos (by simp [Region.wanted, yielded, ze49, zf14])]
        go_simp
        refine (HSL.out zw1).mono ?_
        rintro e zw2 ⟨rfl, hm2⟩
        exact hK (.string ⟨#[d]⟩) _ (hI.next hR (by kernel_rfl) hm2 (PB.quiet hI.1 hm2 (HGs.out D 20 _ _ (hI.1).g hm2)) (upd_same V 20 _))
       ·intro D V zw1 a hR hI K hK
        obtain ⟨hM1, hB1, hG1⟩ := hI.1
        have zd14 := hR.pred 14 (by kernel_rfl)
        have zF14 : V 14 = .bool false := hI.2 14 zd14 rfl
        have zf14 := zF14; clear zF14
        have ze0 := hR.frame.other (t := 0) (by kernel_rfl) rfl
        have ze49 := hR.frame.done (t := 49) (j := 14) (by kernel_rfl) hR.ok zd14
        rw [if_pos (by simp [Region.wanted, yielded, ze49, zf14])]
        go_simp
        exact hK (.string ⟨s.toArray⟩) _ (hI.next hR (by kernel_rfl) (Mod.refl _ _) (PB.quiet hI.1 (Mod.refl _ _) (HGs.out D 21 zw1 zw1 (hI.1).g (Mod.refl _ _))) (upd_same V 21 _))
       ·intro D V zw1 a hR hI K hK
        obtain ⟨hM1, hB1, hG1⟩ := hI.1
        have zd14 := hR.pred 14 (by kernel_rfl)
        have zF14 : V 14 = .bool false := hI.2 14 zd14 rfl
        have zf14 := zF14; clear zF14
        have ze3 := hR.frame.other (t := 3) (by kernel_rfl) rfl
        have ze49 := hR.frame.done (t := 49) (j := 14) (by kernel_rfl) hR.ok zd14
        rw [if_pos (by simp [Region.wanted, yielded, ze49, zf14])]
        go_simp
        exact hK (.int .i64 (k : Int)) _ (hI.next hR (by kernel_rfl) (Mod.refl _ _) (PB.quiet hI.1 (Mod.refl _ _) (HGs.out D 22 zw1 zw1 (hI.1).g (Mod.refl _ _))) (upd_same V 22 _))
       ·intro D V zw1 a hR hI K hK
        obtain ⟨hM1, hB1, hG1⟩ := hI.1
        have zd14 := hR.pred 14 (by kernel_rfl)
        have zF14 : V 14 = .bool false := hI.2 14 zd14 rfl
        have zf14 := zF14; clear zF14
        have ze3 := hR.frame.other (t := 3) (by kernel_rfl) rfl
        have ze49 := hR.frame.done (t := 49) (j := 14) (by kernel_rfl) hR.ok zd14
        rw [if_pos (by simp [Region.wanted, yielded, ze49, zf14])]
        go_simp
        exact hK (.int .i64 (k : Int)) _ (hI.next hR (by kernel_rfl) (Mod.refl _ _) (PB.quiet hI.1 (Mod.refl _ _) (HGs.out D 23 zw1 zw1 (hI.1).g (Mod.refl _ _))) (upd_same V 23 _))
       ·intro D V zw1 a hR hI K hK
        obtain ⟨hM1, hB1, hG1⟩ := hI.1
        have zd23 := hR.pred 23 (by kernel_rfl)
        have zF23 : V 23 = .int .i64 (k : Int) := hI.2 23 zd23 rfl
        have zf23 := zF23; clear zF23
        have zd14 := hR.pred 14 (by kernel_rfl)
        have zF14 : V 14 = .bool false := hI.2 14 zd14 rfl
        have zf14 := zF14; clear zF14
        have ze58 := hR.frame.done (t := 58) (j := 23) (by kernel_rfl) hR.ok zd23
        have ze49 := hR.frame.done (t := 49) (j := 14) (by kernel_rfl) hR.ok zd14
        rw [if_pos (by simp [Region.wanted, yielded, ze49, zf14])]
        go_simp
        exact hK (.int .i64 ((k : Int) + 1)) _ (hI.next hR (by kernel_rfl) (Mod.refl _ _) (PB.quiet hI.1 (Mod.refl _ _) (HGs.out D 24 zw1 zw1 (hI.1).g (Mod.refl _ _))) (upd_same V 24 _))
       ·intro D V zw1 a hR hI K hK
        obtain ⟨hM1, hB1, hG1⟩ := hI.1
        have zd21 := hR.pred 21 (by kernel_rfl)
        have zF21 : V 21 = .string ⟨s.toArray⟩ := hI.2 21 zd21 rfl
        have zf21 := zF21; clear zF21
        have zd22 := hR.pred 22 (by kernel_rfl)
        have zF22 : V 22 = .int .i64 (k : Int) := hI.2 22 zd22 rfl
        have zf22 := zF22; clear zF22
        have zd24 := hR.pred 24 (by kernel_rfl)
        have zF24 : V 24 = .int .i64 ((k : Int) + 1) := hI.2 24 zd24 rfl
        have zf24 := zF24; clear zF24
        have zd14 := hR.pred 14 (by kernel_rfl)
        have zF14 : V 14 = .bool false := hI.2 14 zd14 rfl
        have zf14 := zF14; clear zF14
        have ze56 := hR.frame.done (t := 56) (j := 21) (by kernel_rfl) hR.ok zd21
        have ze57 := hR.frame.done (t := 57) (j := 22) (by kernel_rfl) hR.ok zd22
        have ze59 := hR.frame.done (t := 59) (j := 24) (by kernel_rfl) hR.ok zd24
        have ze49 := hR.frame.done (t := 49) (j := 14) (by kernel_rfl) hR.ok zd14
        rw [if_pos (by simp [Region.wanted, yielded, ze49, zf14])]
        go_simp
        exact hK (.string ⟨#[d]⟩) _ (hI.next hR (by kernel_rfl) (Mod.refl _ _) (PB.quiet hI.1 (Mod.refl _ _) (HGs.out D 25 zw1 zw1 (hI.1).g (Mod.refl _ _))) (upd_same V 25 _))
       ·intro D V zw1 a hR hI K hK
        obtain ⟨hM1, hB1, hG1⟩ := hI.1
        have zd20 := hR.pred 20 (by kernel_rfl)
        have zF20 : V 20 = .string ⟨#[d]⟩ := hI.2 20 zd20 rfl
        have zf20 := zF20; clear zF20
        have zd25 := hR.pred 25 (by kernel_rfl)
        have zF25 : V 25 = .string ⟨#[d]⟩ := hI.2 25 zd25 rfl
        have zf25 := zF25; clear zF25
        have zd14 := hR.pred 14 (by kernel_rfl)
        have zF14 : V 14 = .bool false := hI.2 14 zd14 rfl
        have zf14 := zF14; clear zF14
        have ze55 := hR.frame.done (t := 55) (j := 20) (by kernel_rfl) hR.ok zd20
        have ze60 := hR.frame.done (t := 60) (j := 25) (by kernel_rfl) hR.ok zd25
        have ze49 := hR.frame.done (t := 49) (j := 14) (by kernel_rfl) hR.ok zd14
        rw [if_pos (by simp [Region.wanted, yielded, ze49, zf14])]
        go_simp
        exact hK (.bool false) _ (hI.next hR (by kernel_rfl) (Mod.refl _ _) (PB.quiet hI.1 (Mod.refl _ _) (HGs.out D 26 zw1 zw1 (hI.1).g (Mod.refl _ _))) (upd_same V 26 _))
       ·intro D V zw1 a hR hI K hK
        obtain ⟨hM1, hB1, hG1⟩ := hI.1
        have zd14 := hR.pred 14 (by kernel_rfl)
        have zF14 : V 14 = .bool false := hI.2 14 zd14 rfl
        have zf14 := zF14; clear zF14
        have zd26 := hR.pred 26 (by kernel_rfl)
        have zF26 : V 26 = .bool false := hI.2 26 zd26 rfl
        have zf26 := zF26; clear zF26
        have zd8 := hR.pred 8 (by kernel_rfl)
        have zF8 : V 8 = .bool true := hI.2 8 zd8 rfl
        have zf8 := zF8; clear zF8
        have ze49 := hR.frame.done (t := 49) (j := 14) (by kernel_rfl) hR.ok zd14
        have ze61 := hR.frame.done (t := 61) (j := 26) (by kernel_rfl) hR.ok zd26
        have ze43 := hR.frame.done (t := 43) (j := 8) (by kernel_rfl) hR.ok zd8
        rw [if_pos (by simp [Region.wanted, yielded, ze43, zf8])]
        go_simp
        exact hK (.bool false) _ (hI.next hR (by kernel_rfl) (Mod.refl _ _) (PB.quiet hI.1 (Mod.refl _ _) (HGs.out D 27 zw1 zw1 (hI.1).g (Mod.refl _ _))) (upd_same V 27 _))
       ·intro D V zw1 a hR hI K hK
        obtain ⟨hM1, hB1, hG1⟩ := hI.1
        have zd8 := hR.pred 8 (by kernel_rfl)
        have zF8 : V 8 = .bool true := hI.2 8 zd8 rfl
        have zf8 := zF8; clear zF8
        have zd27 := hR.pred 27 (by kernel_rfl)
        have zF27 : V 27 = .bool false := hI.2 27 zd27 rfl
        have zf27 := zF27; clear zF27
        have ze43 := hR.frame.done (t := 43) (j := 8) (by kernel_rfl) hR.ok zd8
        have ze62 := hR.frame.done (t := 62) (j := 27) (by kernel_rfl) hR.ok zd27
        rw [if_pos (by rfl)]
        go_simp
        exact hK (.bool false) _ (hI.next hR (by kernel_rfl) (Mod.refl _ _) (PB.quiet hI.1 (Mod.refl _ _) (HGs.out D 28 zw1 zw1 (hI.1).g (Mod.refl _ _))) (upd_same V 28 _))
      ·intro D V w9 hD hI
       obtain ⟨hM1, hB1, hG1⟩ := hI.1
       have hMx := hM1
       clear hM1
       have hBx := hB1
       clear hB1
       have hGx := hG1
       clear hG1
       have zF0 : V 0 = .bool false := hI.2 0 (hD 0 (by decide)) rfl
       have zf0 := zF0; clear zF0
       have zF1 : V 1 = .bool true := hI.2 1 (hD 1 (by decide)) rfl
       have zf1 := zF1; clear zF1
       have zF2 : V 2 = .bool true := hI.2 2 (hD 2 (by decide)) rfl
       have zf2 := zF2; clear zF2
       have zF3 : V 3 = .string ⟨s.toArray⟩ := hI.2 3 (hD 3 (by decide)) rfl
       have zf3 := zF3; clear zF3
       have zF4 : V 4 = .int .i64 (k : Int) := hI.2 4 (hD 4 (by decide)) rfl
       have zf4 := zF4; clear zF4
       have zF5 : V 5 = .int .u8 (c : Int) := hI.2 5 (hD 5 (by decide)) rfl
       have zf5 := zF5; clear zF5
       have zF6 : V 6 = .bool true := hI.2 6 (hD 6 (by decide)) rfl
       have zf6 := zF6; clear zF6
       have zF7 : V 7 = .bool true := hI.2 7 (hD 7 (by decide)) rfl
       have zf7 := zF7; clear zF7
       have zF8 : V 8 = .bool true := hI.2 8 (hD 8 (by decide)) rfl
       have zf8 := zF8; clear zF8
       have zF9 : V 9 = .string ⟨s.toArray⟩ := hI.2 9 (hD 9 (by decide)) rfl
       have zf9 := zF9; clear zF9
       have zF10 : V 10 = .int .i64 (k : Int) := hI.2 10 (hD 10 (by decide)) rfl
       have zf10 := zF10; clear zF10
       have zF11 : V 11 = .int .u8 (c : Int) := hI.2 11 (hD 11 (by decide)) rfl
       have zf11 := zF11; clear zF11
       have zF12 : V 12 = .bool true := hI.2 12 (hD 12 (by decide)) rfl
       have zf12 := zF12; clear zF12
       have zF13 : V 13 = .bool false := hI.2 13 (hD 13 (by decide)) rfl
       have zf13 := zF13; clear zF13
       have zF14 : V 14 = .bool false := hI.2 14 (hD 14 (by decide)) rfl
       have zf14 := zF14; clear zF14
       have zF15 : V 15 = .string ⟨s.toArray⟩ := hI.2 15 (hD 15 (by decide)) rfl
       have zf15 := zF15; clear zF15
       have zF16 : V 16 = .int .i64 (k : Int) := hI.2 16 (hD 16 (by decide)) rfl
       have zf16 := zF16; clear zF16
       have zF17 : V 17 = .int .i64 (k : Int) := hI.2 17 (hD 17 (by decide)) rfl
       have zf17 := zF17; clear zF17
       have zF18 : V 18 = .int .i64 ((k : Int) + 1) := hI.2 18 (hD 18 (by decide)) rfl
       have zf18 := zF18; clear zF18
       have zF19 : V 19 = .string ⟨#[d]⟩ := hI.2 19 (hD 19 (by decide)) rfl
       have zf19 := zF19; clear zF19
       have zF20 : V 20 = .string ⟨#[d]⟩ := hI.2 20 (hD 20 (by decide)) rfl
       have zf20 := zF20; clear zF20
       have zF21 : V 21 = .string ⟨s.toArray⟩ := hI.2 21 (hD 21 (by decide)) rfl
       have zf21 := zF21; clear zF21
       have zF22 : V 22 = .int .i64 (k : Int) := hI.2 22 (hD 22 (by decide)) rfl
       have zf22 := zF22; clear zF22
       have zF23 : V 23 = .int .i64 (k : Int) := hI.2 23 (hD 23 (by decide)) rfl
       have zf23 := zF23; clear zF23
       have zF24 : V 24 = .int .i64 ((k : Int) + 1) := hI.2 24 (hD 24 (by decide)) rfl
       have zf24 := zF24; clear zF24
       have zF25 : V 25 = .string ⟨#[d]⟩ := hI.2 25 (hD 25 (by decide)) rfl
       have zf25 := zF25; clear zF25
       have zF26 : V 26 = .bool false := hI.2 26 (hD 26 (by decide)) rfl
       have zf26 := zF26; clear zF26
       have zF27 : V 27 = .bool false := hI.2 27 (hD 27 (by decide)) rfl
       have zf27 := zF27; clear zF27
       have zF28 : V 28 = .bool false := hI.2 28 (hD 28 (by decide)) rfl
       have zf28 := zF28; clear zF28
       clear hI hD HGs
       simp only [frAll, Act.put, List.setIfInBounds_toArray, List.set_cons_zero, List.set_cons_succ, Nat.zero_add, Nat.reduceAdd, zf0, zf1, zf2, zf3, zf4, zf5, zf6, zf7, zf8, zf9, zf10, zf11, zf12, zf13, zf14, zf15, zf16, zf17, zf18, zf19, zf20, zf21, zf22, zf23, zf24, zf25, zf26, zf27, zf28]
       clear zf0 zf1 zf2 zf3 zf4 zf5 zf6 zf7 zf8 zf9 zf10 zf11 zf12 zf13 zf14 zf15 zf16 zf17 zf18 zf19 zf20 zf21 zf22 zf23 zf24 zf25 zf26 zf27 zf28
       clear V D
       have HP2 : Hid (Pure w w9) := Lib.hid (HP.out.trans hMx)
       clear hGx hMx hBx
       go_wp2_with fail
       go_roundg (n - (k + 1))
       case measure => omega
       case rel => exact ⟨k + 1, rfl, by omega, by simp, HS2.out, HP2.out⟩
     ·have e : pc = false := by rw [hpc, hsm]; simpa using hdc
      have HR := Lib.hid (NO.out e)
      have hdd : (d == cc) = false := by simpa using hdc
      have hdd2 : (d != cc) = true := by simpa using hdc
      clear YES NO h HSM h63 hst hpc hsm e
      go_upto_region 7 with (fail)
      have HGs := Lib.hid (show ∀ (D : Nat → Bool) (zzi : Nat) (zq zq' : World), (fun _ zq => (fun Z => ∃ hz : Nat, hz = Z.heap.size) zq) D zq → Mod (fun _ => False) zq zq' → (fun _ zq => (fun Z => ∃ hz : Nat, hz = Z.heap.size) zq) (upd D zzi true) zq' from by intro D zzi zq zq' h hm; (exact ⟨_, rfl⟩))
      refine wp_region_inv (by kernel_rfl) (by kernel_rfl) (InvF (R := Mod (fun _ => False)) [.is (.bool false),
        .is (.bool true),
        .is (.bool true),
        .is (.string ⟨s.toArray⟩),
        .is (.int .i64 (k : Int)),
        .is (.int .u8 (c : Int)),
        .is (.bool true),
        .is (.bool true),
        .is (.bool true),
        .is (.string ⟨s.toArray⟩),
        .is (.int .i64 (k : Int)),
        .is (.int .u8 (c : Int)),
        .is (.bool true),
        .is (.bool false),
        .is (.bool false),
        .is (.string ⟨s.toArray⟩),
        .is (.int .i64 (k : Int)),
        .is (.int .i64 (k : Int)),
        .is (.int .i64 ((k : Int) + 1)),
        .is (.string ⟨#[cc]⟩),
        .is (.string ⟨#[d]⟩),
        .is (.string ⟨s.toArray⟩),
        .is (.int .i64 (k : Int)),
        .is (.int .i64 (k : Int)),
        .is (.int .i64 ((k : Int) + 1)),
        .is (.string ⟨#[cc]⟩),
        .is (.bool true),
        .is (.bool true),
        .is (.bool true)]
        (PB wr (fun _ => False) wr.heap.size (fun _ zq => (fun Z => ∃ hz : Nat, hz = Z.heap.size) zq))) (InvF.start (PB.start (Mod.refl _ _) (Nat.le_refl _) (⟨_, rfl⟩))) ?_ ?_
      ·refine .cons ?_ (.cons ?_ (.cons ?_ (.cons ?_ (.cons ?_ (.cons ?_ (.cons ?_ (.cons ?_ (.cons ?_ (.cons ?_ (.cons ?_ (.cons ?_ (.cons ?_ (.cons ?_ (.cons ?_ (.cons ?_ (.cons ?_ (.cons ?_ (.cons ?_ (.cons ?_ (.cons ?_ (.cons ?_ (.cons ?_ (.cons ?_ (.cons ?_ (.cons ?_ (.cons ?_ (.cons ?_ (.cons ?_ .nil))))))))))))))))))))))))))))
       ·intro D V zw1 a hR hI K hK
        obtain ⟨hM1, hB1, hG1⟩ := hI.1
        have ze4 := hR.frame.other (t := 4) (by kernel_rfl) rfl
        rw [if_pos (by rfl)]
        go_simp
        exact hK (.bool false) _ (hI.next hR (by kernel_rfl) (Mod.refl _ _) (PB.quiet hI.1 (Mod.refl _ _) (HGs.out D 0 zw1 zw1 (hI.1).g (Mod.refl _ _))) (upd_same V 0 _))
       ·intro D V zw1 a hR hI K hK
        obtain ⟨hM1, hB1, hG1⟩ := hI.1
        have zd0 := hR.pred 0 (by kernel_rfl)
        have zF0 : V 0 = .bool false := hI.2 0 zd0 rfl
        have zf0 := zF0; clear zF0
        have ze35 := hR.frame.done (t := 35) (j := 0) (by kernel_rfl) hR.ok zd0
        rw [if_pos (by rfl)]
        go_simp
        exact hK (.bool true) _ (hI.next hR (by kernel_rfl) (Mod.refl _ _) (PB.quiet hI.1 (Mod.refl _ _) (HGs.out D 1 zw1 zw1 (hI.1).g (Mod.refl _ _))) (upd_same V 1 _))
       ·intro D V zw1 a hR hI K hK
        obtain ⟨hM1, hB1, hG1⟩ := hI.1
        have zd1 := hR.pred 1 (by kernel_rfl)
        have zF1 : V 1 = .bool true := hI.2 1 zd1 rfl
        have zf1 := zF1; clear zF1
        have ze36 := hR.frame.done (t := 36) (j := 1) (by kernel_rfl) hR.ok zd1
        rw [if_pos (by rfl)]
        go_simp
        exact hK (.bool true) _ (hI.next hR (by kernel_rfl) (Mod.refl _ _) (PB.quiet hI.1 (Mod.refl _ _) (HGs.out D 2 zw1 zw1 (hI.1).g (Mod.refl _ _))) (upd_same V 2 _))
       ·intro D V zw1 a hR hI K hK
        obtain ⟨hM1, hB1, hG1⟩ := hI.1
        have zd2 := hR.pred 2 (by kernel_rfl)
        have zF2 : V 2 = .bool true := hI.2 2 zd2 rfl
        have zf2 := zF2; clear zF2
        have ze0 := hR.frame.other (t := 0) (by kernel_rfl) rfl
        have ze37 := hR.frame.done (t := 37) (j := 2) (by kernel_rfl) hR.ok zd2
        rw [if_pos (by simp [Region.wanted, yielded, ze37, zf2])]
        go_simp
        exact hK (.string ⟨s.toArray⟩) _ (hI.next hR (by kernel_rfl) (Mod.refl _ _) (PB.quiet hI.1 (Mod.refl _ _) (HGs.out D 3 zw1 zw1 (hI.1).g (Mod.refl _ _))) (upd_same V 3 _))
       ·intro D V zw1 a hR hI K hK
        obtain ⟨hM1, hB1, hG1⟩ := hI.1
        have zd2 := hR.pred 2 (by kernel_rfl)
        have zF2 : V 2 = .bool true := hI.2 2 zd2 rfl
        have zf2 := zF2; clear zF2
        have ze3 := hR.frame.other (t := 3) (by kernel_rfl) rfl
        have ze37 := hR.frame.done (t := 37) (j := 2) (by kernel_rfl) hR.ok zd2
        rw [if_pos (by simp [Region.wanted, yielded, ze37, zf2])]
        go_simp
        exact hK (.int .i64 (k : Int)) _ (hI.next hR (by kernel_rfl) (Mod.refl _ _) (PB.quiet hI.1 (Mod.refl _ _) (HGs.out D 4 zw1 zw1 (hI.1).g (Mod.refl _ _))) (upd_same V 4 _))
       ·intro D V zw1 a hR hI K hK
        obtain ⟨hM1, hB1, hG1⟩ := hI.1
        have zd3 := hR.pred 3 (by kernel_rfl)
        have zF3 : V 3 = .string ⟨s.toArray⟩ := hI.2 3 zd3 rfl
        have zf3 := zF3; clear zF3
        have zd4 := hR.pred 4 (by kernel_rfl)
        have zF4 : V 4 = .int .i64 (k : Int) := hI.2 4 zd4 rfl
        have zf4 := zF4; clear zF4
        have zd2 := hR.pred 2 (by kernel_rfl)
        have zF2 : V 2 = .bool true := hI.2 2 zd2 rfl
        have zf2 := zF2; clear zF2
        have ze38 := hR.frame.done (t := 38) (j := 3) (by kernel_rfl) hR.ok zd3
        have ze39 := hR.frame.done (t := 39) (j := 4) (by kernel_rfl) hR.ok zd4
        have ze37 := hR.frame.done (t := 37) (j := 2) (by kernel_rfl) hR.ok zd2
        rw [if_pos (by simp [Region.wanted, yielded, ze37, zf2])]
        go_simp
        exact hK (.int .u8 (c : Int)) _ (hI.next hR (by kernel_rfl) (Mod.refl _ _) (PB.quiet hI.1 (Mod.refl _ _) (HGs.out D 5 zw1 zw1 (hI.1).g (Mod.refl _ _))) (upd_same V 5 _))
       ·intro D V zw1 a hR hI K hK
        obtain ⟨hM1, hB1, hG1⟩ := hI.1
        have zd5 := hR.pred 5 (by kernel_rfl)
        have zF5 : V 5 = .int .u8 (c : Int) := hI.2 5 zd5 rfl
        have zf5 := zF5; clear zF5
        have zd2 := hR.pred 2 (by kernel_rfl)
        have zF2 : V 2 = .bool true := hI.2 2 zd2 rfl
        have zf2 := zF2; clear zF2
        have ze40 := hR.frame.done (t := 40) (j := 5) (by kernel_rfl) hR.ok zd5
        have ze37 := hR.frame.done (t := 37) (j := 2) (by kernel_rfl) hR.ok zd2
        rw [if_pos (by simp [Region.wanted, yielded, ze37, zf2])]
        go_simp
        exact hK (.bool true) _ (hI.next hR (by kernel_rfl) (Mod.refl _ _) (PB.quiet hI.1 (Mod.refl _ _) (HGs.out D 6 zw1 zw1 (hI.1).g (Mod.refl _ _))) (upd_same V 6 _))
       ·intro D V zw1 a hR hI K hK
        obtain ⟨hM1, hB1, hG1⟩ := hI.1
        have zd2 := hR.pred 2 (by kernel_rfl)
        have zF2 : V 2 = .bool true := hI.2 2 zd2 rfl
        have zf2 := zF2; clear zF2
        have zd6 := hR.pred 6 (by kernel_rfl)
        have zF6 : V 6 = .bool true := hI.2 6 zd6 rfl
        have zf6 := zF6; clear zF6
        have ze37 := hR.frame.done (t := 37) (j := 2) (by kernel_rfl) hR.ok zd2
        have ze41 := hR.frame.done (t := 41) (j := 6) (by kernel_rfl) hR.ok zd6
        rw [if_pos (by rfl)]
        go_simp
        exact hK (.bool true) _ (hI.next hR (by kernel_rfl) (Mod.refl _ _) (PB.quiet hI.1 (Mod.refl _ _) (HGs.out D 7 zw1 zw1 (hI.1).g (Mod.refl _ _))) (upd_same V 7 _))
       ·intro D V zw1 a hR hI K hK
        obtain ⟨hM1, hB1, hG1⟩ := hI.1
        have zd7 := hR.pred 7 (by kernel_rfl)
        have zF7 : V 7 = .bool true := hI.2 7 zd7 rfl
        have zf7 := zF7; clear zF7
        have ze42 := hR.frame.done (t := 42) (j := 7) (by kernel_rfl) hR.ok zd7
        rw [if_pos (by rfl)]
        go_simp
        exact hK (.bool true) _ (hI.next hR (by kernel_rfl) (Mod.refl _ _) (PB.quiet hI.1 (Mod.refl _ _) (HGs.out D 8 zw1 zw1 (hI.1).g (Mod.refl _ _))) (upd_same V 8 _))
       ·intro D V zw1 a hR hI K hK
        obtain ⟨hM1, hB1, hG1⟩ := hI.1
        have zd8 := hR.pred 8 (by kernel_rfl)
        have zF8 : V 8 = .bool true := hI.2 8 zd8 rfl
        have zf8 := zF8; clear zF8
        have ze0 := hR.frame.other (t := 0) (by kernel_rfl) rfl
        have ze43 := hR.frame.done (t := 43) (j := 8) (by kernel_rfl) hR.ok zd8
        rw [if_pos (by simp [Region.wanted, yielded, ze43, zf8])]
        go_simp
        exact hK (.string ⟨s.toArray⟩) _ (hI.next hR (by kernel_rfl) (Mod.refl _ _) (PB.quiet hI.1 (Mod.refl _ _) (HGs.out D 9 zw1 zw1 (hI.1).g (Mod.refl _ _))) (upd_same V 9 _))
       ·intro D V zw1 a hR hI K hK
        obtain ⟨hM1, hB1, hG1⟩ := hI.1
        have zd8 := hR.pred 8 (by kernel_rfl)
        have zF8 : V 8 = .bool true := hI.2 8 zd8 rfl
        have zf8 := zF8; clear zF8
        have ze3 := hR.frame.other (t := 3) (by kernel_rfl) rfl
        have ze43 := hR.frame.done (t := 43) (j := 8) (by kernel_rfl) hR.ok zd8
        rw [if_pos (by simp [Region.wanted, yielded, ze43, zf8])]
        go_simp
        exact hK (.int .i64 (k : Int)) _ (hI.next hR (by kernel_rfl) (Mod.refl _ _) (PB.quiet hI.1 (Mod.refl _ _) (HGs.out D 10 zw1 zw1 (hI.1).g (Mod.refl _ _))) (upd_same V 10 _))
       ·intro D V zw1 a hR hI K hK
        obtain ⟨hM1, hB1, hG1⟩ := hI.1
        have zd9 := hR.pred 9 (by kernel_rfl)
        have zF9 : V 9 = .string ⟨s.toArray⟩ := hI.2 9 zd9 rfl
        have zf9 := zF9; clear zF9
        have zd10 := hR.pred 10 (by kernel_rfl)
        have zF10 : V 10 = .int .i64 (k : Int) := hI.2 10 zd10 rfl
        have zf10 := zF10; clear zF10
        have zd8 := hR.pred 8 (by kernel_rfl)
        have zF8 : V 8 = .bool true := hI.2 8 zd8 rfl
        have zf8 := zF8; clear zF8
        have ze44 := hR.frame.done (t := 44) (j := 9) (by kernel_rfl) hR.ok zd9
        have ze45 := hR.frame.done (t := 45) (j := 10) (by kernel_rfl) hR.ok zd10
        have ze43 := hR.frame.done (t := 43) (j := 8) (by kernel_rfl) hR.ok zd8
        rw [if_pos (by simp [Region.wanted, yielded, ze43, zf8])]
        go_simp
        exact hK (.int .u8 (c : Int)) _ (hI.next hR (by kernel_rfl) (Mod.refl _ _) (PB.quiet hI.1 (Mod.refl _ _) (HGs.out D 11 zw1 zw1 (hI.1).g (Mod.refl _ _))) (upd_same V 11 _))
       ·intro D V zw1 a hR hI K hK
        obtain ⟨hM1, hB1, hG1⟩ := hI.1
        have zd11 := hR.pred 11 (by kernel_rfl)
        have zF11 : V 11 = .int .u8 (c : Int) := hI.2 11 zd11 rfl
        have zf11 := zF11; clear zF11
        have zd8 := hR.pred 8 (by kernel_rfl)
        have zF8 : V 8 = .bool true := hI.2 8 zd8 rfl
        have zf8 := zF8; clear zF8
        have ze46 := hR.frame.done (t := 46) (j := 11) (by kernel_rfl) hR.ok zd11
        have ze43 := hR.frame.done (t := 43) (j := 8) (by kernel_rfl) hR.ok zd8
        rw [if_pos (by simp [Region.wanted, yielded, ze43, zf8])]
        go_simp
        refine (HLT.out zw1).mono ?_
        rintro e zw2 ⟨rfl, hm2⟩
        exact hK (.bool true) _ (hI.next hR (by kernel_rfl) hm2 (PB.quiet hI.1 hm2 (HGs.out D 12 _ _ (hI.1).g hm2)) (upd_same V 12 _))
       ·intro D V zw1 a hR hI K hK
        obtain ⟨hM1, hB1, hG1⟩ := hI.1
        have zd12 := hR.pred 12 (by kernel_rfl)
        have zF12 : V 12 = .bool true := hI.2 12 zd12 rfl
        have zf12 := zF12; clear zF12
        have zd8 := hR.pred 8 (by kernel_rfl)
        have zF8 : V 8 = .bool true := hI.2 8 zd8 rfl
        have zf8 := zF8; clear zF8
        have ze47 := hR.frame.done (t := 47) (j := 12) (by kernel_rfl) hR.ok zd12
        have ze43 := hR.frame.done (t := 43) (j := 8) (by kernel_rfl) hR.ok zd8
        rw [if_pos (by simp [Region.wanted, yielded, ze43, zf8])]
        go_simp
        exact hK (.bool false) _ (hI.next hR (by kernel_rfl) (Mod.refl _ _) (PB.quiet hI.1 (Mod.refl _ _) (HGs.out D 13 zw1 zw1 (hI.1).g (Mod.refl _ _))) (upd_same V 13 _))
       ·intro D V zw1 a hR hI K hK
        obtain ⟨hM1, hB1, hG1⟩ := hI.1
        have zd13 := hR.pred 13 (by kernel_rfl)
        have zF13 : V 13 = .bool false := hI.2 13 zd13 rfl
        have zf13 := zF13; clear zF13
        have zd8 := hR.pred 8 (by kernel_rfl)
        have zF8 : V 8 = .bool true := hI.2 8 zd8 rfl
        have zf8 := zF8; clear zF8
        have ze48 := hR.frame.done (t := 48) (j := 13) (by kernel_rfl) hR.ok zd13
        have ze43 := hR.frame.done (t := 43) (j := 8) (by kernel_rfl) hR.ok zd8
        rw [if_pos (by simp [Region.wanted, yielded, ze43, zf8])]
        go_simp
        exact hK (.bool false) _ (hI.next hR (by kernel_rfl) (Mod.refl _ _) (PB.quiet hI.1 (Mod.refl _ _) (HGs.out D 14 zw1 zw1 (hI.1).g (Mod.refl _ _))) (upd_same V 14 _))
       ·intro D V zw1 a hR hI K hK
        obtain ⟨hM1, hB1, hG1⟩ := hI.1
        have zd14 := hR.pred 14 (by kernel_rfl)
        have zF14 : V 14 = .bool false := hI.2 14 zd14 rfl
        have zf14 := zF14; clear zF14
        have ze0 := hR.frame.other (t := 0) (by kernel_rfl) rfl
        have ze49 := hR.frame.done (t := 49) (j := 14) (by kernel_rfl) hR.ok zd14
        rw [if_pos (by simp [Region.wanted, yielded, ze49, zf14])]
        go_simp
        exact hK (.string ⟨s.toArray⟩) _ (hI.next hR (by kernel_rfl) (Mod.refl _ _) (PB.quiet hI.1 (Mod.refl _ _) (HGs.out D 15 zw1 zw1 (hI.1).g (Mod.refl _ _))) (upd_same V 15 _))
       ·intro D V zw1 a hR hI K hK
        obtain ⟨hM1, hB1, hG1⟩ := hI.1
        have zd14 := hR.pred 14 (by kernel_rfl)
        have zF14 : V 14 = .bool false := hI.2 14 zd14 rfl
        have zf14 := zF14; clear zF14
        have ze3 := hR.frame.other (t := 3) (by kernel_rfl) rfl
        have ze49 := hR.frame.done (t := 49) (j := 14) (by kernel_rfl) hR.ok zd14
        rw [if_pos (by simp [Region.wanted, yielded, ze49, zf14])]
        go_simp
        exact hK (.int .i64 (k : Int)) _ (hI.next hR (by kernel_rfl) (Mod.refl _ _) (PB.quiet hI.1 (Mod.refl _ _) (HGs.out D 16 zw1 zw1 (hI.1).g (Mod.refl _ _))) (upd_same V 16 _))
       ·intro D V zw1 a hR hI K hK
        obtain ⟨hM1, hB1, hG1⟩ := hI.1
        have zd14 := hR.pred 14 (by kernel_rfl)
        have zF14 : V 14 = .bool false := hI.2 14 zd14 rfl
        have zf14 := zF14; clear zF14
        have ze3 := hR.frame.other (t := 3) (by kernel_rfl) rfl
        have ze49 := hR.frame.done (t := 49) (j := 14) (by kernel_rfl) hR.ok zd14
        rw [if_pos (by simp [Region.wanted, yielded, ze49, zf14])]
        go_simp
        exact hK (.int .i64 (k : Int)) _ (hI.next hR (by kernel_rfl) (Mod.refl _ _) (PB.quiet hI.1 (Mod.refl _ _) (HGs.out D 17 zw1 zw1 (hI.1).g (Mod.refl _ _))) (upd_same V 17 _))
       ·intro D V zw1 a hR hI K hK
        obtain ⟨hM1, hB1, hG1⟩ := hI.1
        have zd17 := hR.pred 17 (by kernel_rfl)
        have zF17 : V 17 = .int .i64 (k : Int) := hI.2 17 zd17 rfl
        have zf17 := zF17; clear zF17
        have zd14 := hR.pred 14 (by kernel_rfl)
        have zF14 : V 14 = .bool false := hI.2 14 zd14 rfl
        have zf14 := zF14; clear zF14
        have ze52 := hR.frame.done (t := 52) (j := 17) (by kernel_rfl) hR.ok zd17
        have ze49 := hR.frame.done (t := 49) (j := 14) (by kernel_rfl) hR.ok zd14
        rw [if_pos (by simp [Region.wanted, yielded, ze49, zf14])]
        go_simp
        exact hK (.int .i64 ((k : Int) + 1)) _ (hI.next hR (by kernel_rfl) (Mod.refl _ _) (PB.quiet hI.1 (Mod.refl _ _) (HGs.out D 18 zw1 zw1 (hI.1).g (Mod.refl _ _))) (upd_same V 18 _))
       ·intro D V zw1 a hR hI K hK
        obtain ⟨hM1, hB1, hG1⟩ := hI.1
        have zd15 := hR.pred 15 (by kernel_rfl)
        have zF15 : V 15 = .string ⟨s.toArray⟩ := hI.2 15 zd15 rfl
        have zf15 := zF15; clear zF15
        have zd16 := hR.pred 16 (by kernel_rfl)
        have zF16 : V 16 = .int .i64 (k : Int) := hI.2 16 zd16 rfl
        have zf16 := zF16; clear zF16
        have zd18 := hR.pred 18 (by kernel_rfl)
        have zF18 : V 18 = .int .i64 ((k : Int) + 1) := hI.2 18 zd18 rfl
        have zf18 := zF18; clear zF18
        have zd14 := hR.pred 14 (by kernel_rfl)
        have zF14 : V 14 = .bool false := hI.2 14 zd14 rfl
        have zf14 := zF14; clear zF14
        have ze50 := hR.frame.done (t := 50) (j := 15) (by kernel_rfl) hR.ok zd15
        have ze51 := hR.frame.done (t := 51) (j := 16) (by kernel_rfl) hR.ok zd16
        have ze53 := hR.frame.done (t := 53) (j := 18) (by kernel_rfl) hR.ok zd18
        have ze49 := hR.frame.done (t := 49) (j := 14) (by kernel_rfl) hR.ok zd14
        rw [if_pos (by simp [Region.wanted, yielded, ze49, zf14])]
        go_simp
        exact hK (.string ⟨#[cc]⟩) _ (hI.next hR (by kernel_rfl) (Mod.refl _ _) (PB.quiet hI.1 (Mod.refl _ _) (HGs.out D 19 zw1 zw1 (hI.1).g (Mod.refl _ _))) (upd_same V 19 _))
       ·intro D V zw1 a hR hI K hK
        obtain ⟨hM1, hB1, hG1⟩ := hI.1
        have zd19 := hR.pred 19 (by kernel_rfl)
        have zF19 : V 19 = .string ⟨#[cc]⟩ := hI.2 19 zd19 rfl
        have zf19 := zF19; clear zF19
        have zd14 := hR.pred 14 (by kernel_rfl)
        have zF14 : V 14 = .bool false := hI.2 14 zd14 rfl
        have zf14 := zF14; clear zF14
        have ze54 := hR.frame.done (t := 54) (j := 19) (by kernel_rfl) hR.ok zd19
        have ze49 := hR.frame.done (t := 49) (j := 14) (by kernel_rfl) hR.ok zd14
        rw [if_pos (by simp [Region.wanted, yielded, ze49, zf14])]
        go_simp
        refine (HSL.out zw1).mono ?_
        rintro e zw2 ⟨rfl, hm2⟩
        exact hK (.string ⟨#[d]⟩) _ (hI.next hR (by kernel_rfl) hm2 (PB.quiet hI.1 hm2 (HGs.out D 20 _ _ (hI.1).g hm2)) (upd_same V 20 _))
       ·intro D V zw1 a hR hI K hK
        obtain ⟨hM1, hB1, hG1⟩ := hI.1
        have zd14 := hR.pred 14 (by kernel_rfl)
        have zF14 : V 14 = .bool false := hI.2 14 zd14 rfl
        have zf14 := zF14; clear zF14
        have ze0 := hR.frame.other (t := 0) (by kernel_rfl) rfl
        have ze49 := hR.frame.done (t := 49) (j := 14) (by kernel_rfl) hR.ok zd14
        rw [if_pos (by simp [Region.wanted, yielded, ze49, zf14])]
        go_simp
        exact hK (.string ⟨s.toArray⟩) _ (hI.next hR (by kernel_rfl) (Mod.refl _ _) (PB.quiet hI.1 (Mod.refl _ _) (HGs.out D 21 zw1 zw1 (hI.1).g (Mod.refl _ _))) (upd_same V 21 _))
       ·intro D V zw1 a hR hI K hK
        obtain ⟨hM1, hB1, hG1⟩ := hI.1
        have zd14 := hR.pred 14 (by kernel_rfl)
        have zF14 : V 14 = .bool false := hI.2 14 zd14 rfl
        have zf14 := zF14; clear zF14
        have ze3 := hR.frame.other (t := 3) (by kernel_rfl) rfl
        have ze49 := hR.frame.done (t := 49) (j := 14) (by kernel_rfl) hR.ok zd14
        rw [if_pos (by simp [Region.wanted, yielded, ze49, zf14])]
        go_simp
        exact hK (.int .i64 (k : Int)) _ (hI.next hR (by kernel_rfl) (Mod.refl _ _) (PB.quiet hI.1 (Mod.refl _ _) (HGs.out D 22 zw1 zw1 (hI.1).g (Mod.refl _ _))) (upd_same V 22 _))
       ·intro D V zw1 a hR hI K hK
        obtain ⟨hM1, hB1, hG1⟩ := hI.1
        have zd14 := hR.pred 14 (by kernel_rfl)
        have zF14 : V 14 = .bool false := hI.2 14 zd14 rfl
        have zf14 := zF14; clear zF14
        have ze3 := hR.frame.other (t := 3) (by kernel_rfl) rfl
        have ze49 := hR.frame.done (t := 49) (j := 14) (by kernel_rfl) hR.ok zd14
        rw [if_pos (by simp [Region.wanted, yielded, ze49, zf14])]
        go_simp
        exact hK (.int .i64 (k : Int)) _ (hI.next hR (by kernel_rfl) (Mod.refl _ _) (PB.quiet hI.1 (Mod.refl _ _) (HGs.out D 23 zw1 zw1 (hI.1).g (Mod.refl _ _))) (upd_same V 23 _))
       ·intro D V zw1 a hR hI K hK
        obtain ⟨hM1, hB1, hG1⟩ := hI.1
        have zd23 := hR.pred 23 (by kernel_rfl)
        have zF23 : V 23 = .int .i64 (k : Int) := hI.2 23 zd23 rfl
        have zf23 := zF23; clear zF23
        have zd14 := hR.pred 14 (by kernel_rfl)
        have zF14 : V 14 = .bool false := hI.2 14 zd14 rfl
        have zf14 := zF14; clear zF14
        have ze58 := hR.frame.done (t := 58) (j := 23) (by kernel_rfl) hR.ok zd23
        have ze49 := hR.frame.done (t := 49) (j := 14) (by kernel_rfl) hR.ok zd14
        rw [if_pos (by simp [Region.wanted, yielded, ze49, zf14])]
        go_simp
        exact hK (.int .i64 ((k : Int) + 1)) _ (hI.next hR (by kernel_rfl) (Mod.refl _ _) (PB.quiet hI.1 (Mod.refl _ _) (HGs.out D 24 zw1 zw1 (hI.1).g (Mod.refl _ _))) (upd_same V 24 _))
       ·intro D V zw1 a hR hI K hK
        obtain ⟨hM1, hB1, hG1⟩ := hI.1
        have zd21 := hR.pred 21 (by kernel_rfl)
        have zF21 : V 21 = .string ⟨s.toArray⟩ := hI.2 21 zd21 rfl
        have zf21 := zF21; clear zF21
        have zd22 := hR.pred 22 (by kernel_rfl)
        have zF22 : V 22 = .int .i64 (k : Int) := hI.2 22 zd22 rfl
        have zf22 := zF22; clear zF22
        have zd24 := hR.pred 24 (by kernel_rfl)
        have zF24 : V 24 = .int .i64 ((k : Int) + 1) := hI.2 24 zd24 rfl
        have zf24 := zF24; clear zF24
        have zd14 := hR.pred 14 (by kernel_rfl)
        have zF14 : V 14 = .bool false := hI.2 14 zd14 rfl
        have zf14 := zF14; clear zF14
        have ze56 := hR.frame.done (t := 56) (j := 21) (by kernel_rfl) hR.ok zd21
        have ze57 := hR.frame.done (t := 57) (j := 22) (by kernel_rfl) hR.ok zd22
        have ze59 := hR.frame.done (t := 59) (j := 24) (by kernel_rfl) hR.ok zd24
        have ze49 := hR.frame.done (t := 49) (j := 14) (by kernel_rfl) hR.ok zd14
        rw [if_pos (by simp [Region.wanted, yielded, ze49, zf14])]
        go_simp
        exact hK (.string ⟨#[cc]⟩) _ (hI.next hR (by kernel_rfl) (Mod.refl _ _) (PB.quiet hI.1 (Mod.refl _ _) (HGs.out D 25 zw1 zw1 (hI.1).g (Mod.refl _ _))) (upd_same V 25 _))
       ·intro D V zw1 a hR hI K hK
        obtain ⟨hM1, hB1, hG1⟩ := hI.1
        have zd20 := hR.pred 20 (by kernel_rfl)
        have zF20 : V 20 = .string ⟨#[d]⟩ := hI.2 20 zd20 rfl
        have zf20 := zF20; clear zF20
        have zd25 := hR.pred 25 (by kernel_rfl)
        have zF25 : V 25 = .string ⟨#[cc]⟩ := hI.2 25 zd25 rfl
        have zf25 := zF25; clear zF25
        have zd14 := hR.pred 14 (by kernel_rfl)
        have zF14 : V 14 = .bool false := hI.2 14 zd14 rfl
        have zf14 := zF14; clear zF14
        have ze55 := hR.frame.done (t := 55) (j := 20) (by kernel_rfl) hR.ok zd20
        have ze60 := hR.frame.done (t := 60) (j := 25) (by kernel_rfl) hR.ok zd25
        have ze49 := hR.frame.done (t := 49) (j := 14) (by kernel_rfl) hR.ok zd14
        rw [if_pos (by simp [Region.wanted, yielded, ze49, zf14])]
        go_simp
        exact hK (.bool true) _ (hI.next hR (by kernel_rfl) (Mod.refl _ _) (PB.quiet hI.1 (Mod.refl _ _) (HGs.out D 26 zw1 zw1 (hI.1).g (Mod.refl _ _))) (upd_same V 26 _))
       ·intro D V zw1 a hR hI K hK
        obtain ⟨hM1, hB1, hG1⟩ := hI.1
        have zd14 := hR.pred 14 (by kernel_rfl)
        have zF14 : V 14 = .bool false := hI.2 14 zd14 rfl
        have zf14 := zF14; clear zF14
        have zd26 := hR.pred 26 (by kernel_rfl)
        have zF26 : V 26 = .bool true := hI.2 26 zd26 rfl
        have zf26 := zF26; clear zF26
        have zd8 := hR.pred 8 (by kernel_rfl)
        have zF8 : V 8 = .bool true := hI.2 8 zd8 rfl
        have zf8 := zF8; clear zF8
        have ze49 := hR.frame.done (t := 49) (j := 14) (by kernel_rfl) hR.ok zd14
        have ze61 := hR.frame.done (t := 61) (j := 26) (by kernel_rfl) hR.ok zd26
        have ze43 := hR.frame.done (t := 43) (j := 8) (by kernel_rfl) hR.ok zd8
        rw [if_pos (by simp [Region.wanted, yielded, ze43, zf8])]
        go_simp
        exact hK (.bool true) _ (hI.next hR (by kernel_rfl) (Mod.refl _ _) (PB.quiet hI.1 (Mod.refl _ _) (HGs.out D 27 zw1 zw1 (hI.1).g (Mod.refl _ _))) (upd_same V 27 _))
       ·intro D V zw1 a hR hI K hK
        obtain ⟨hM1, hB1, hG1⟩ := hI.1
        have zd8 := hR.pred 8 (by kernel_rfl)
        have zF8 : V 8 = .bool true := hI.2 8 zd8 rfl
        have zf8 := zF8; clear zF8
        have zd27 := hR.pred 27 (by kernel_rfl)
        have zF27 : V 27 = .bool true := hI.2 27 zd27 rfl
        have zf27 := zF27; clear zF27
        have ze43 := hR.frame.done (t := 43) (j := 8) (by kernel_rfl) hR.ok zd8
        have ze62 := hR.frame.done (t := 62) (j := 27) (by kernel_rfl) hR.ok zd27
        rw [if_pos (by rfl)]
        go_simp
        exact hK (.bool true) _ (hI.next hR (by kernel_rfl) (Mod.refl _ _) (PB.quiet hI.1 (Mod.refl _ _) (HGs.out D 28 zw1 zw1 (hI.1).g (Mod.refl _ _))) (upd_same V 28 _))
      ·intro D V w9 hD hI
       obtain ⟨hM1, hB1, hG1⟩ := hI.1
       have hMx := hM1
       clear hM1
       have hBx := hB1
       clear hB1
       have hGx := hG1
       clear hG1
       have zF0 : V 0 = .bool false := hI.2 0 (hD 0 (by decide)) rfl
       have zf0 := zF0; clear zF0
       have zF1 : V 1 = .bool true := hI.2 1 (hD 1 (by decide)) rfl
       have zf1 := zF1; clear zF1
       have zF2 : V 2 = .bool true := hI.2 2 (hD 2 (by decide)) rfl
       have zf2 := zF2; clear zF2
       have zF3 : V 3 = .string ⟨s.toArray⟩ := hI.2 3 (hD 3 (by decide)) rfl
       have zf3 := zF3; clear zF3
       have zF4 : V 4 = .int .i64 (k : Int) := hI.2 4 (hD 4 (by decide)) rfl
       have zf4 := zF4; clear zF4
       have zF5 : V 5 = .int .u8 (c : Int) := hI.2 5 (hD 5 (by decide)) rfl
       have zf5 := zF5; clear zF5
       have zF6 : V 6 = .bool true := hI.2 6 (hD 6 (by decide)) rfl
       have zf6 := zF6; clear zF6
       have zF7 : V 7 = .bool true := hI.2 7 (hD 7 (by decide)) rfl
       have zf7 := zF7; clear zF7
       have zF8 : V 8 = .bool true := hI.2 8 (hD 8 (by decide)) rfl
       have zf8 := zF8; clear zF8
       have zF9 : V 9 = .string ⟨s.toArray⟩ := hI.2 9 (hD 9 (by decide)) rfl
       have zf9 := zF9; clear zF9
       have zF10 : V 10 = .int .i64 (k : Int) := hI.2 10 (hD 10 (by decide)) rfl
       have zf10 := zF10; clear zF10
       have zF11 : V 11 = .int .u8 (c : Int) := hI.2 11 (hD 11 (by decide)) rfl
       have zf11 := zF11; clear zF11
       have zF12 : V 12 = .bool true := hI.2 12 (hD 12 (by decide)) rfl
       have zf12 := zF12; clear zF12
       have zF13 : V 13 = .bool false := hI.2 13 (hD 13 (by decide)) rfl
       have zf13 := zF13; clear zF13
       have zF14 : V 14 = .bool false := hI.2 14 (hD 14 (by decide)) rfl
       have zf14 := zF14; clear zF14
       have zF15 : V 15 = .string ⟨s.toArray⟩ := hI.2 15 (hD 15 (by decide)) rfl
       have zf15 := zF15; clear zF15
       have zF16 : V 16 = .int .i64 (k : Int) := hI.2 16 (hD 16 (by decide)) rfl
       have zf16 := zF16; clear zF16
       have zF17 : V 17 = .int .i64 (k : Int) := hI.2 17 (hD 17 (by decide)) rfl
       have zf17 := zF17; clear zF17
       have zF18 : V 18 = .int .i64 ((k : Int) + 1) := hI.2 18 (hD 18 (by decide)) rfl
       have zf18 := zF18; clear zF18
       have zF19 : V 19 = .string ⟨#[cc]⟩ := hI.2 19 (hD 19 (by decide)) rfl
       have zf19 := zF19; clear zF19
       have zF20 : V 20 = .string ⟨#[d]⟩ := hI.2 20 (hD 20 (by decide)) rfl
       have zf20 := zF20; clear zF20
       have zF21 : V 21 = .string ⟨s.toArray⟩ := hI.2 21 (hD 21 (by decide)) rfl
       have zf21 := zF21; clear zF21
       have zF22 : V 22 = .int .i64 (k : Int) := hI.2 22 (hD 22 (by decide)) rfl
       have zf22 := zF22; clear zF22
       have zF23 : V 23 = .int .i64 (k : Int) := hI.2 23 (hD 23 (by decide)) rfl
       have zf23 := zF23; clear zF23
       have zF24 : V 24 = .int .i64 ((k : Int) + 1) := hI.2 24 (hD 24 (by decide)) rfl
       have zf24 := zF24; clear zF24
       have zF25 : V 25 = .string ⟨#[cc]⟩ := hI.2 25 (hD 25 (by decide)) rfl
       have zf25 := zF25; clear zF25
       have zF26 : V 26 = .bool true := hI.2 26 (hD 26 (by decide)) rfl
       have zf26 := zF26; clear zF26
       have zF27 : V 27 = .bool true := hI.2 27 (hD 27 (by decide)) rfl
       have zf27 := zF27; clear zF27
       have zF28 : V 28 = .bool true := hI.2 28 (hD 28 (by decide)) rfl
       have zf28 := zF28; clear zF28
       clear hI hD HGs
       simp only [frAll, Act.put, List.setIfInBounds_toArray, List.set_cons_zero, List.set_cons_succ, Nat.zero_add, Nat.reduceAdd, zf0, zf1, zf2, zf3, zf4, zf5, zf6, zf7, zf8, zf9, zf10, zf11, zf12, zf13, zf14, zf15, zf16, zf17, zf18, zf19, zf20, zf21, zf22, zf23, zf24, zf25, zf26, zf27, zf28]
       clear zf0 zf1 zf2 zf3 zf4 zf5 zf6 zf7 zf8 zf9 zf10 zf11 zf12 zf13 zf14 zf15 zf16 zf17 zf18 zf19 zf20 zf21 zf22 zf23 zf24 zf25 zf26 zf27 zf28
       clear V D
       have HP2 : Hid (Pure w w9) := Lib.hid (HP.out.trans hMx)
       clear hGx hMx hBx
       go_wp2_with fail
       try simp only [Exit.inBlock, Exit.then]
       refine bodyPost_ret (v := .bool false) (by simp [results, Tryz.results17, go_sem]) rfl ?_
       rw [HR.out]
       exact ⟨rfl, HP2.out⟩
  ·obtain rfl : k = n := by omega
   have hkk : ¬ (k : Int) < (k : Int) := by omega
   have HR : Hid (pb = true) := Lib.hid (HPA.out.trans hpa)
   clear HPA hpa HFST
   go_wp2_with fail
   go_ret
   rw [HR.out]
   exact ⟨rfl, HP.out⟩

set_option maxRecDepth 100000 in
set_option maxHeartbeats 8000000 in
theorem fitsOf_calls (w : World) (p x : Str) (hp : p.length ≤ 1000000) (hx : x.length ≤ 1000000) : Calls Tryz.prog 19 #[.string ⟨p.toArray⟩, .string ⟨x.toArray⟩] w (BoolPost w (fitsB p x)) := by
 have HIP := Lib.hid (patternIs_calls w p hp)
 have HCS := Lib.hid (fun W => cutSuffix_calls W p [42] (by omega))
 have HF : Hid (fitsB p x = (patB p && (decide ((patBody p).length ≤ x.length) && ((patOpen p || decide (x.length ≤ (patBody p).length)) && fitN (patBody p) x (patBody p).length)))) := Lib.hid rfl
 have hbl : (patBody p).length ≤ p.length := by
  unfold patBody Lib.trimSuffix
  split
  ·rw [List.length_take]; omega
  ·exact Nat.le_refl _
 have hzx : (⟨x.toArray⟩ : ByteArray).size = x.length := by simp [ByteArray.size]
 unfold patBody patOpen at HF
 unfold patBody at hbl
 generalize fitsB p x = r at *
 generalize patB p = pb at *
 generalize Lib.hasSuffix p [42] = op at *
 generalize Lib.trimSuffix p [42] = b at *
 have hzb : (⟨b.toArray⟩ : ByteArray).size = b.length := by simp [ByteArray.size]
 obtain ⟨n, hn⟩ : ∃ n, n = b.length := ⟨_, rfl⟩
 obtain ⟨m, hm⟩ : ∃ m, m = x.length := ⟨_, rfl⟩
 rw [← hn, ← hm] at HF
 rw [← hn] at hzb hbl
 rw [← hm] at hzx hx
 have HN := Lib.hid hn
 have HM := Lib.hid hm
 clear hn hm
 go_enter Tryz.func19, Tryz.ntmps19
 go_wp2_with fail
 refine HIP.out.mono ?_
 rintro e w1 ⟨rfl, hm0⟩
 have HM0 : Hid (Pure w w1) := Lib.hid hm0
 clear HIP hm0
 cases pb with
 | false =>
  have HR : Hid (r = false) := Lib.hid HF.out
  clear HF HCS
  go_wp2_with fail
  try simp only [Exit.inBlock, Exit.then]
  refine bodyPost_ret (v := .bool false) (by simp [results, Tryz.results19, go_sem]) rfl ?_
  rw [HR.out]
  exact ⟨rfl, HM0.out⟩
 | true =>
  go_wp2_with fail
  refine (HCS.out _).mono ?_
  rintro e w2 ⟨rfl, rfl⟩
  clear HCS
  obtain ⟨bad, hbad⟩ : ∃ bad, (decide (m < n) || (!op && decide (n < m))) = bad := ⟨_, rfl⟩
  have HF2 : Hid (r = (!bad && fitN b x n)) := Lib.hid (by
   rw [HF.out, ← hbad]
   rcases Nat.lt_trichotomy m n with h | h | h
   ·rw [decide_eq_false (show ¬ n ≤ m by omega), decide_eq_true h]
    rfl
   ·subst h
    simp
   ·rw [decide_eq_true (show n ≤ m by omega), decide_eq_false (show ¬ m < n by omega), decide_eq_true h, decide_eq_false (show ¬ m ≤ n by omega)]
    simp)
  have HBD := Lib.hid hbad
  clear HF hbad
  go_upto_region 4 with (fail)
  go_cut [31] from 16 to 30 (fun q wx => q = .bool bad ∧ w2 = wx)
  case first =>
   have h := HBD.out
   clear HF2
   rcases Nat.lt_trichotomy m n with h1 | h1 | h1
   ·have d1 : decide (m < n) = true := decide_eq_true h1
    have d1i : (m : Int) < (n : Int) := by omega
    rw [d1, Bool.true_or] at h
    subst h
    go_wp2_with fail
    go_meet
    exact ⟨by first | rfl | simp, rfl⟩
   ·subst h1
    rw [decide_eq_false (Nat.lt_irrefl m), Bool.and_false, Bool.or_false] at h
    subst h
    have d1 : decide (m < m) = false := decide_eq_false (Nat.lt_irrefl m)
    have d1i : ¬ (m : Int) < (m : Int) := by omega
    have d2 : ((m : Int) != (m : Int)) = false := by simp
    cases op
    ·go_wp2_with fail
     go_meet
     exact ⟨by first | rfl | simp, rfl⟩
    ·go_wp2_with fail
     go_meet
     exact ⟨by first | rfl | simp, rfl⟩
   ·have d1 : decide (m < n) = false := decide_eq_false (by omega)
    have d1i : ¬ (m : Int) < (n : Int) := by omega
    have d2 : decide (n < m) = true := decide_eq_true h1
    have d2i : (n : Int) < (m : Int) := by omega
    have d3 : ((m : Int) != (n : Int)) = true := by simp; omega
    rw [d1, d2, Bool.and_true, Bool.false_or] at h
    cases op
    ·obtain rfl : true = bad := h
     go_wp2_with fail
     go_meet
     exact ⟨by first | rfl | simp, rfl⟩
    ·obtain rfl : false = bad := h
     go_wp2_with fail
     go_meet
     exact ⟨by first | rfl | simp, rfl⟩
  case rest =>
   obtain ⟨rfl, rfl⟩ := hcut
   cases bad with
   | true =>
    have HR : Hid (r = false) := Lib.hid HF2.out
    clear HF2 HBD
    go_wp2_with fail
    try simp only [Exit.inBlock, Exit.then]
    refine bodyPost_ret (v := .bool false) (by simp [results, Tryz.results19, go_sem]) rfl ?_
    rw [HR.out]
    exact ⟨rfl, HM0.out⟩
   | false =>
    have hnm : n ≤ m := by
     have h := HBD.out
     rcases Nat.lt_or_ge m n with h1 | h1
     ·rw [decide_eq_true h1] at h; cases h
     ·exact h1
    have HF3 : Hid (r = fitN b x n) := Lib.hid HF2.out
    clear HF2 HBD
    go_wp2_with fail
    go_loopg [34] n (fun gk i wr => ∃ k : Nat, n - k = gk ∧ k ≤ n ∧ i = .int .i64 (k : Int) ∧ fitN b x k = true ∧ Pure w2 wr)
    case atStart => exact ⟨0, by omega, by omega, rfl, rfl, Mod.refl _ _⟩
    case round =>
     obtain ⟨k, rfl, hk, rfl, hpa, hm⟩ := hrel
     by_cases hlt : k < n
     ·have hltb : k < b.length := by rw [← HN.out]; exact hlt
      have hltx : k < x.length := by rw [← HM.out]; omega
      have HSU := Lib.hid (fitN_succ (x := x) hltb (by rw [← HN.out, ← HM.out]; exact hnm))
      have HFA := Lib.hid (fitN_false (x := x) hltb (by rw [← HN.out, ← HM.out]; exact hnm))
      have hix : (⟨b.toArray⟩ : ByteArray)[k]'(by rw [hzb]; exact hlt) = b[k] := rfl
      have hiy : (⟨x.toArray⟩ : ByteArray)[k]'(by rw [hzx]; omega) = x[k] := rfl
      have HP : Hid (Pure w2 wr) := Lib.hid hm
      have e1 : (b[k] == 63) = decide (b[k].toNat = 63) := u8_eqW _ 63 (by decide)
      have e2 : (b[k] == x[k]) = decide (b[k].toNat = x[k].toNat) := by
       rw [Bool.eq_iff_iff, beq_iff_eq, decide_eq_true_iff]
       exact UInt8.toNat_inj.symm
      rw [e1, e2] at HSU HFA
      rw [← HN.out] at HFA
      have hix2 : ((k : Nat) : Int) < (n : Int) := by omega
      have hbc := b[k].toNat_lt
      have hxc := x[k].toNat_lt
      clear hm e1 e2
      by_cases h63 : b[k].toNat = 63
      ·have h63i : ((b[k].toNat : Int) != 63) = false := by simp; omega
       have HS2 : Hid (fitN b x (k + 1) = true) := Lib.hid (by rw [HSU.out, hpa, decide_eq_true h63]; rfl)
       clear HF3 HSU HFA hpa h63
       go_upto_region 9 with (fail)
       go_quiet (fail)
       go_wp2_with fail
       go_roundg (n - (k + 1))
       case measure => omega
       case rel => exact ⟨k + 1, rfl, by omega, by simp, HS2.out, HP.out.drewN _⟩
      ·have h63i : ((b[k].toNat : Int) != 63) = true := by simp; omega
       by_cases hxe : b[k].toNat = x[k].toNat
       ·have hxi : ((b[k].toNat : Int) != (x[k].toNat : Int)) = false := by simp; omega
        have HS2 : Hid (fitN b x (k + 1) = true) := Lib.hid (by rw [HSU.out, hpa, decide_eq_true hxe, Bool.or_true]; rfl)
        clear HF3 HSU HFA hpa h63 hxe
        go_upto_region 9 with (fail)
        go_quiet (fail)
        go_wp2_with fail
        go_roundg (n - (k + 1))
        case measure => omega
        case rel => exact ⟨k + 1, rfl, by omega, by simp, HS2.out, HP.out.drewN _⟩
       ·have hxi : ((b[k].toNat : Int) != (x[k].toNat : Int)) = true := by simp; omega
        have HR : Hid (r = false) := Lib.hid (by rw [HF3.out]; exact HFA.out (by rw [decide_eq_false h63, decide_eq_false hxe]; rfl))
        clear HF3 HSU HFA hpa h63 hxe
        go_upto_region 9 with (fail)
        go_quiet (fail)
        go_wp2_with fail
        try simp only [Exit.inBlock, Exit.then]
        refine bodyPost_ret (v := .bool false) (by simp [results, Tryz.results19, go_sem]) rfl ?_
        rw [HR.out]
        exact ⟨rfl, HM0.out.trans (HP.out.drewN _)⟩
     ·obtain rfl : k = n := by omega
      have HR : Hid (r = true) := Lib.hid (HF3.out.trans hpa)
      have HP : Hid (Pure w2 wr) := Lib.hid hm
      clear HF3 hpa hm
      go_wp2_with fail
      go_ret
      rw [HR.out]
      exact ⟨rfl, HM0.out.trans HP.out⟩

end Go.Proofs.YtanblgcgbncbpaaGreatDoor

/- Kinds of searches. -/
namespace Go.Proofs.YtanblgcgbncbpaaGreatDoor
set_option linter.unusedVariables false
set_option linter.unusedSimpArgs false
open Go.RowKit

section
variable (w : World) (k n : Int) (A B : Option Addr) (a c b d : Nat)
set_option maxRecDepth 100000 in
set_option maxHeartbeats 4000000 in
theorem nears_calls : Calls Tryz.prog 90 #[.agg #[.int .i64 k, .slice A a c, .int .i64 n, .slice B b d]] w (BoolPost w (nearK k)) := by
 have hB := Blk.new w 44 #[.int .i64 k, .slice A a c, .int .i64 n, .slice B b d]
 have HP := Lib.hid (pure_alloc w (.cells #[.int .i64 k, .slice A a c, .int .i64 n, .slice B b d] 44))
 obtain ⟨r, hr⟩ : ∃ r, nearK k = r := ⟨_, rfl⟩
 rw [hr]
 have HR : Hid ((decide (k = 4) || decide (k = 5)) = r) := Lib.hid hr
 clear hr
 go_enter Tryz.func90, Tryz.ntmps90
 go_upto_region 1 with (fail)
 generalize (w.alloc (.cells #[.int .i64 k, .slice A a c, .int .i64 n, .slice B b d] 44)) = w1 at *
 generalize w.heap.size = g at *
 have x0 := hB.cell 0; have x1 := hB.cell 1; have x2 := hB.cell 2; have x3 := hB.cell 3; simp at x0 x1 x2 x3
 clear hB
 by_cases h4 : k = 4
 ·have e := HR.out
  rw [decide_eq_true h4] at e
  subst e h4
  go_wp2_with fail
  go_ret
  exact ⟨rfl, HP.out⟩
 ·have h4i : (k == 4) = false := by simpa using h4
  by_cases h5 : k = 5
  ·have e := HR.out
   rw [decide_eq_true h5, Bool.or_true] at e
   subst e h5
   go_wp2_with fail
   go_ret
   exact ⟨rfl, HP.out⟩
  ·have h5i : (k == 5) = false := by simpa using h5
   have e := HR.out
   rw [decide_eq_false h4, decide_eq_false h5] at e
   obtain rfl : false = r := e
   go_wp2_with fail
   go_ret
   exact ⟨rfl, HP.out⟩
set_option maxRecDepth 100000 in
set_option maxHeartbeats 4000000 in
theorem byWords_calls : Calls Tryz.prog 93 #[.agg #[.int .i64 k, .slice A a c, .int .i64 n, .slice B b d]] w (BoolPost w (byWK k)) := by
 have hB := Blk.new w 44 #[.int .i64 k, .slice A a c, .int .i64 n, .slice B b d]
 have HP := Lib.hid (pure_alloc w (.cells #[.int .i64 k, .slice A a c, .int .i64 n, .slice B b d] 44))
 have HNK := Lib.hid (fun W => nears_calls W k n A B a c b d)
 obtain ⟨nk, hnk⟩ : ∃ nk, nearK k = nk := ⟨_, rfl⟩
 obtain ⟨r, hr⟩ : ∃ r, byWK k = r := ⟨_, rfl⟩
 rw [hr]
 rw [hnk] at HNK
 have HR : Hid ((decide (k = 2) || (decide (k = 3) || (nk || decide (k = 7)))) = r) := Lib.hid (by rw [← hnk]; exact hr)
 have HNN : Hid (nearK k = nk) := Lib.hid hnk
 clear hr hnk
 go_enter Tryz.func93, Tryz.ntmps93
 go_upto_region 1 with (fail)
 generalize (w.alloc (.cells #[.int .i64 k, .slice A a c, .int .i64 n, .slice B b d] 44)) = w1 at *
 generalize w.heap.size = g at *
 have HB := Lib.hid hB
 have x0 := hB.cell 0; have x1 := hB.cell 1; have x2 := hB.cell 2; have x3 := hB.cell 3; simp at x0 x1 x2 x3
 clear hB
 by_cases h2 : k = 2
 ·have e := HR.out
  rw [decide_eq_true h2, Bool.true_or] at e
  subst e h2
  go_wp2_with fail
  go_ret
  exact ⟨rfl, HP.out⟩
 have h2i : (k == 2) = false := by simpa using h2
 by_cases h3 : k = 3
 ·have e := HR.out
  rw [decide_eq_true h3, Bool.true_or, Bool.or_true] at e
  subst e h3
  go_wp2_with fail
  go_ret
  exact ⟨rfl, HP.out⟩
 have h3i : (k == 3) = false := by simpa using h3
 have e := HR.out
 rw [decide_eq_false h2, decide_eq_false h3, Bool.false_or, Bool.false_or] at e
 clear h2 h3
 go_wp2_with fail
 refine (HNK.out w1).mono ?_
 rintro e2 w2 ⟨rfl, hm⟩
 have HP2 : Hid (Pure w w2) := Lib.hid (HP.out.trans hm)
 have hB2 := HB.out.modp hm
 clear x0 x1 x2 x3 HB HP hm
 have x0 := hB2.cell 0; have x1 := hB2.cell 1; have x2 := hB2.cell 2; have x3 := hB2.cell 3; simp at x0 x1 x2 x3
 clear hB2
 cases nk with
 | true =>
  rw [Bool.true_or] at e
  subst e
  go_wp2_with fail
  go_ret
  exact ⟨rfl, HP2.out⟩
 | false =>
  rw [Bool.false_or] at e
  by_cases h7 : k = 7
  ·rw [decide_eq_true h7] at e
   subst e h7
   go_wp2_with fail
   go_ret
   exact ⟨rfl, HP2.out⟩
  ·have h7i : (k == 7) = false := by simpa using h7
   rw [decide_eq_false h7] at e
   subst e
   go_wp2_with fail
   go_ret
   exact ⟨rfl, HP2.out⟩
end
set_option maxRecDepth 100000 in
set_option maxHeartbeats 4000000 in
theorem reserved_calls (w : World) (s : Str) : Calls Tryz.prog 95 #[.string ⟨s.toArray⟩] w (BoolSame w (resvB s)) := by
 have HR : Hid (resvB s = (s == [97, 108, 108] || (s == [97, 110, 100] || (s == [111, 114] || s == [110, 111, 116])))) := Lib.hid rfl
 generalize resvB s = r at *
 cases h1 : (s == [97, 108, 108]) <;> cases h2 : (s == [97, 110, 100]) <;> cases h3 : (s == [111, 114]) <;> cases h4 : (s == [110, 111, 116])
 all_goals
  have e := HR.out
  rw [h1, h2, h3, h4] at e
  simp only [Bool.true_or, Bool.or_true, Bool.or_false, Bool.false_or] at e
  subst e
  go_enter Tryz.func95, Tryz.ntmps95
  go_wp2_with fail
  go_ret
  exact ⟨rfl, rfl⟩
def kwQ (n : Int) : Str := if n = 1 then [109, 97, 105, 108] else if n = 2 then [102, 105, 108, 101] else if n = 3 then [98, 111, 120] else if n = 4 then [110, 111, 116, 101] else []
set_option maxRecDepth 100000 in
set_option maxHeartbeats 4000000 in
theorem kindWordQ_calls (w : World) (n : Int) : Calls Tryz.prog 96 #[.int .i64 n] w (fun e w' => e = .returned (.string ⟨(kwQ n).toArray⟩) ∧ w' = w) := by
 by_cases h1 : n = 1
 ·subst h1
  go_enter Tryz.func96, Tryz.ntmps96
  go_wp2_with fail
  try simp only [Exit.inBlock, Exit.then]
  refine bodyPost_ret (v := .string ⟨#[109, 97, 105, 108]⟩) (by simp [results, Tryz.results96, go_sem]) rfl ?_
  exact ⟨rfl, rfl⟩
 by_cases h2 : n = 2
 ·subst h2
  go_enter Tryz.func96, Tryz.ntmps96
  go_wp2_with fail
  try simp only [Exit.inBlock, Exit.then]
  refine bodyPost_ret (v := .string ⟨#[102, 105, 108, 101]⟩) (by simp [results, Tryz.results96, go_sem]) rfl ?_
  exact ⟨rfl, rfl⟩
 by_cases h3 : n = 3
 ·subst h3
  go_enter Tryz.func96, Tryz.ntmps96
  go_wp2_with fail
  try simp only [Exit.inBlock, Exit.then]
  refine bodyPost_ret (v := .string ⟨#[98, 111, 120]⟩) (by simp [results, Tryz.results96, go_sem]) rfl ?_
  exact ⟨rfl, rfl⟩
 by_cases h4 : n = 4
 ·subst h4
  go_enter Tryz.func96, Tryz.ntmps96
  go_wp2_with fail
  try simp only [Exit.inBlock, Exit.then]
  refine bodyPost_ret (v := .string ⟨#[110, 111, 116, 101]⟩) (by simp [results, Tryz.results96, go_sem]) rfl ?_
  exact ⟨rfl, rfl⟩
 have e : kwQ n = [] := by unfold kwQ; rw [if_neg h1, if_neg h2, if_neg h3, if_neg h4]
 rw [e]
 have i1 : (n == 1) = false := by simpa using h1
 have i2 : (n == 2) = false := by simpa using h2
 have i3 : (n == 3) = false := by simpa using h3
 have i4 : (n == 4) = false := by simpa using h4
 clear e
 go_enter Tryz.func96, Tryz.ntmps96
 go_wp2_with fail
 try simp only [Exit.inBlock, Exit.then]
 refine bodyPost_ret (v := .string ⟨#[]⟩) (by simp [results, Tryz.results96, go_sem]) rfl ?_
 exact ⟨rfl, rfl⟩

end Go.Proofs.YtanblgcgbncbpaaGreatDoor

/- How large a search is: the program. -/
namespace Go.Proofs.YtanblgcgbncbpaaGreatDoor
set_option linter.unusedVariables false
set_option linter.unusedSimpArgs false
open Go.RowKit

def Go2P (w : World) (gm : Nat) (q : Qry) (m d r : Nat) (e : Ending) (w' : World) : Prop := ∃ m' : Nat, e = .returned (.bool (qFit q m d r)) ∧ (qFit q m d r = true → m' = m + qSize q) ∧ m' ≤ 101 ∧ Blk w' gm 3 #[.int .i64 (m' : Int)] ∧ Mod (· = gm) w w'
/-- What the loop over the searches within keeps. -/
def Go2R (w : World) (gm m d r : Nat) (ks : List Qry) (gk : Nat) (i : Value) (wr : World) : Prop :=
 ∃ j : Nat, ks.length - j = gk ∧ j ≤ ks.length ∧ i = .int .i64 (j : Int) ∧ m + qSum ks j ≤ 100 ∧ (∀ t (ht : t < ks.length), t < j → qFit ks[t] (m + qSum ks t) d r = true) ∧ Blk wr gm 3 #[.int .i64 ((m + qSum ks j : Nat) : Int)] ∧ Mod (· = gm) w wr
theorem QR.ex (q : QR) : ∃ k A c ws n B d xs, q = .mk k A c ws n B d xs := by cases q; exact ⟨_, _, _, _, _, _, _, _, rfl⟩
theorem Sl.ofGm {w w' : World} {gm : Nat} {cs : Array Value} {v : Value} {e : TypeId} {size : Nat} {xs : List Value} (h : Sl w e size v xs) (hm : Mod (· = gm) w w') (hB : Blk w gm 3 cs) (hne : e ≠ 3) : Sl w' e size v xs :=
 Sl.mod h hm (fun g arr fr hg he => by
  subst he
  unfold Blk at hB
  rw [hB] at hg
  injection hg with hg
  injection hg with _ hg
  exact hne hg.symm)
theorem QS.ofGm {w w' : World} {gm : Nat} {cs : Array Value} {q : QR} (h : QS w q) (hm : Mod (· = gm) w w') (hB : Blk w gm 3 cs) : QS w' q := by
 induction h with
 | mk hw ha hs ih => exact .mk (hw.ofGm hm hB (by decide)) (ha.ofGm hm hB (by decide)) ih
theorem blk_other {w : World} {g h : Nat} {t u : TypeId} {a b : Array Value} (h1 : Blk w g t a) (h2 : Blk w h u b) (hne : t ≠ u) : g ≠ h := fun e => by
 subst e
 unfold Blk at h1 h2
 rw [h1] at h2
 injection h2 with h2
 injection h2 with _ h2
 exact hne h2

set_option maxRecDepth 100000 in
set_option maxHeartbeats 8000000 in
theorem go2_calls : ∀ (qr : QR) (w : World) (m d r gm gf : Nat), QS w qr → QB 1000 qr.key → Blk w gm 3 #[.int .i64 (m : Int)] → Blk w gf 125 #[.func (.func 89) #[] #[.pointer (some ⟨gm, 0, none⟩), .pointer (some ⟨gf, 0, none⟩)]] → m ≤ 100 → d ≤ 12 → r ≤ 3 →
  Calls Tryz.prog 89 #[qA qr, .int .i64 ((d : Int) + 1), .int .i64 (r : Int), .pointer (some ⟨gm, 0, none⟩), .pointer (some ⟨gf, 0, none⟩)] w (Go2P w gm qr.key m d r) := by
 refine QR.ind (fun k A c ws n B dd xs ih => ?_)
 intro w m d r gm gf hQ hB hM hF hm hd hr
 have HIH := Lib.hid ih
 rw [QR.key_mk] at hB ⊢
 have HQ := Lib.hid hQ
 have hql := hB.xsH
 have HQB := Lib.hid hB.allH
 rw [List.length_map] at hql
 have hgg := blk_other hM hF (by decide)
 have hgm := hM.lt
 have hgf := hF.lt
 have HQX := Lib.hid hQ.xsH
 have hB0 := Blk.new w 44 #[.int .i64 k, .slice A ws.length c, .int .i64 n, .slice B xs.length dd]
 have hP0 := pure_alloc w (.cells #[.int .i64 k, .slice A ws.length c, .int .i64 n, .slice B xs.length dd] 44)
 have hM1 := hM.alloc (.cells #[.int .i64 k, .slice A ws.length c, .int .i64 n, .slice B xs.length dd] 44)
 have hF1 := hF.alloc (.cells #[.int .i64 k, .slice A ws.length c, .int .i64 n, .slice B xs.length dd] 44)
 have HNK := Lib.hid (fun W => nears_calls W k n A B ws.length c xs.length dd)
 obtain ⟨nk, hnk⟩ : ∃ nk, nearK k = nk := ⟨_, rfl⟩
 rw [hnk] at HNK
 have HKN := Lib.hid hnk
 show Calls Tryz.prog 89 #[.agg #[.int .i64 k, .slice A ws.length c, .int .i64 n, .slice B xs.length dd], .int .i64 ((d : Int) + 1), .int .i64 (r : Int), .pointer (some ⟨gm, 0, none⟩), .pointer (some ⟨gf, 0, none⟩)] w (Go2P w gm _ m d r)
 have hBM := hM
 clear hQ hB hM hF ih hnk
 go_enter Tryz.func89, Tryz.ntmps89
 go_upto_region 1 with (fail)
 generalize (w.alloc (.cells #[.int .i64 k, .slice A ws.length c, .int .i64 n, .slice B xs.length dd] 44)) = w1 at *
 have hgw := Nat.le_refl w.heap.size
 generalize hg0 : w.heap.size = g0 at *
 have hwg : w.heap.size ≤ g0 := Nat.le_of_eq hg0
 clear hg0 hgw
 have hB1 := hB0.far (p := ⟨gm, 0, none⟩) (by show g0 ≠ gm; omega) (.int .i64 ((m : Int) + 1))
 have hF2 := hF1.far (p := ⟨gm, 0, none⟩) (by show gf ≠ gm; omega) (.int .i64 ((m : Int) + 1))
 have hM2 := hM1.set 0 (.int .i64 ((m : Int) + 1))
 have hm2 : Mod (· = gm) w (w1.setCell ⟨gm, 0, none⟩ (.int .i64 ((m : Int) + 1))) := ((Mod.of_pure hP0 : Mod (· = gm) w w1)).setCell (.inl rfl) _
 have HB1 := Lib.hid hB1
 have HF2 := Lib.hid hF2
 have HM2 : Hid (Blk (w1.setCell ⟨gm, 0, none⟩ (.int .i64 ((m : Int) + 1))) gm 3 #[.int .i64 ((m + 1 : Nat) : Int)]) := Lib.hid (by simpa using hM2)
 have HMM := Lib.hid hm2
 have x0 := hM1.cell 0; have xf0 := hM1.frozen 0; simp at x0
 clear hB0 hF1 hM1 hB1 hF2 hM2 hm2 hP0
 go_upto_region 2 with (fail)
 generalize (w1.setCell ⟨gm, 0, none⟩ (.int .i64 ((m : Int) + 1))) = w2 at *
 clear x0
 have hb2 := HB1.out
 have x0 := hb2.cell 0; have x1 := hb2.cell 1; have x2 := hb2.cell 2; have x3 := hb2.cell 3; simp at x0 x1 x2 x3
 clear hb2
 go_wp2_with fail
 refine (HNK.out w2).mono ?_
 rintro e w3 ⟨rfl, hm3⟩
 have HB3 := Lib.hid (HB1.out.modp hm3)
 have HF3 := Lib.hid (HF2.out.modp hm3)
 have HM3 := Lib.hid (HM2.out.modp hm3)
 have HMD : Hid (Mod (· = gm) w w3) := Lib.hid (HMM.out.trans (Mod.of_pure hm3))
 have HBM := Lib.hid hBM
 clear x1 x2 x3 hm3 HNK HB1 HF2 HM2 HMM hBM
 obtain ⟨rn, hrn⟩ : ∃ rn : Nat, r + (if nk = true then 1 else 0) = rn := ⟨_, rfl⟩
 have HRN : Hid (r + (if nearK k = true then 1 else 0) = rn) := Lib.hid (by rw [HKN.out]; exact hrn)
 have hrn4 : rn ≤ 4 := by rw [← hrn]; split <;> omega
 go_upto_if 14 with (fail)
 go_cut [2] from 15 to 16 (fun v wx => v = .int .i64 (rn : Int) ∧ w3 = wx)
 case first =>
  cases nk
  ·obtain rfl : r = rn := by simpa using hrn
   clear hrn
   go_wp2_with fail
   go_meet
   exact ⟨rfl, rfl⟩
  ·have e : rn = r + 1 := by rw [← hrn]; rfl
   subst e
   clear hrn
   go_wp2_with fail
   go_meet
   exact ⟨by simp, rfl⟩
 case rest =>
  obtain ⟨rfl, rfl⟩ := hcut
  clear hrn HKN
  obtain ⟨bad, hbad⟩ : ∃ bad, decide (100 < m + 1 ∨ 12 < d + 1 ∨ 3 < rn) = bad := ⟨_, rfl⟩
  have HBD := Lib.hid hbad
  clear hbad
  have hm3 := HM3.out
  have z0 := hm3.cell 0; simp at z0
  clear hm3
  go_upto_region 4 with (fail)
  go_cut [26] from 17 to 25 (fun p wx => p = .bool bad ∧ w3 = wx)
  case first =>
   have e := HBD.out
   clear HQ HQB HQX HIH
   by_cases h1 : 100 < m + 1
   ·have h1i : (100 : Int) < ((m : Int) + 1) := by omega
    have hb : bad = true := by rw [← e]; exact decide_eq_true (.inl h1)
    subst hb
    clear e
    go_wp2_with fail
    go_meet
    exact ⟨by first | rfl | simp, rfl⟩
   ·have h1i : ¬ (100 : Int) < ((m : Int) + 1) := by omega
    by_cases h2 : 12 < d + 1
    ·have h2i : (12 : Int) < ((d : Int) + 1) := by omega
     have hb : bad = true := by rw [← e]; exact decide_eq_true (.inr (.inl h2))
     subst hb
     clear e
     go_wp2_with fail
     go_meet
     exact ⟨by first | rfl | simp, rfl⟩
    ·have h2i : ¬ (12 : Int) < ((d : Int) + 1) := by omega
     by_cases h3 : 3 < rn
     ·have h3i : (3 : Int) < (rn : Int) := by omega
      have hb : bad = true := by rw [← e]; exact decide_eq_true (.inr (.inr h3))
      subst hb
      clear e
      go_wp2_with fail
      go_meet
      exact ⟨by first | rfl | simp, rfl⟩
     ·have h3i : ¬ (3 : Int) < (rn : Int) := by omega
      have hb : bad = false := by rw [← e]; exact decide_eq_false (by omega)
      subst hb
      clear e
      go_wp2_with fail
      go_meet
      exact ⟨by first | rfl | simp, rfl⟩
  case rest =>
   obtain ⟨rfl, rfl⟩ := hcut
   cases bad with
   | true =>
    have hh : 100 < m + 1 ∨ 12 < d + 1 ∨ 3 < rn := by simpa using HBD.out
    have HN : Hid (qFit (.mk k ws n (xs.map QR.key)) m d r = false) := Lib.hid (by
     rw [Bool.eq_false_iff]
     intro hf
     obtain ⟨h1, h2, h3, _, _⟩ := qFit_iff.1 hf
     rw [HRN.out] at h3
     omega)
    clear HBD HQ HQB HQX HIH
    go_wp2_with fail
    try simp only [Exit.inBlock, Exit.then]
    refine bodyPost_ret (v := .bool false) (by simp [results, Tryz.results89, go_sem]) rfl ?_
    exact ⟨m + 1, by rw [HN.out], fun h => (by rw [HN.out] at h; cases h), by omega, HM3.out, HMD.out⟩
   | false =>
    have hh : ¬ (100 < m + 1 ∨ 12 < d + 1 ∨ 3 < rn) := by simpa using HBD.out
    have h1 : m + 1 ≤ 100 := by omega
    have h2 : d + 1 ≤ 12 := by omega
    have h3 : rn ≤ 3 := by omega
    clear hh HBD
    have hb3 := HB3.out
    have b3 := hb3.cell 3
    simp at b3
    clear hb3 z0
    go_wp2_with fail
    go_loopg [30] xs.length (fun gk i wr => Go2R w3 gm (m + 1) (d + 1) rn (xs.map QR.key) gk i wr)
    case atStart => exact ⟨0, by simp, by omega, rfl, by rw [qSum_zero]; omega, fun t _ h => by omega, by rw [qSum_zero]; exact HM3.out, Mod.refl _ _⟩
    case round =>
     obtain ⟨j, hgk, hj, rfl, hmj, hok, hbj, hmd⟩ := hrel
     rw [List.length_map] at hgk hj
     subst hgk
     have HOK := Lib.hid hok
     have HBJ := Lib.hid hbj
     have HMJ := Lib.hid hmd
     clear hok hbj hmd
     by_cases hlt : j < xs.length
     ·obtain ⟨k', A', c', ws', n', B', dd', xs', hq⟩ := QR.ex xs[j]
      have hxs := HQX.out.ofGm (HMD.out.trans HMJ.out) HBM.out (by decide)
      obtain ⟨g, off, hA, q0, q1, q2, q3⟩ := qcells hxs hlt hq
      obtain rfl := hA
      have HQJ : Hid (QS wr (.mk k' A' c' ws' n' B' dd' xs')) := Lib.hid (by rw [← hq]; exact (HQ.out.allH _ (List.getElem_mem hlt)).ofGm (HMD.out.trans HMJ.out) HBM.out)
      have HQK : Hid (QB 1000 (QR.mk k' A' c' ws' n' B' dd' xs').key) := Lib.hid (by rw [← hq]; exact HQB.out _ (List.mem_map.2 ⟨_, List.getElem_mem hlt, rfl⟩))
      have HMEM : Hid (QR.mk k' A' c' ws' n' B' dd' xs' ∈ xs) := Lib.hid (by rw [← hq]; exact List.getElem_mem hlt)
      have hjk : j < (xs.map QR.key).length := by rw [List.length_map]; exact hlt
      have HKEY : Hid ((xs.map QR.key)[j] = (QR.mk k' A' c' ws' n' B' dd' xs').key) := Lib.hid (by rw [List.getElem_map, hq])
      have HSUM := Lib.hid (qSum_succ hjk)
      have HARG := Lib.hid (fun h => qFit_arg (k := k) (ws := ws) (n := n) (xs := xs.map QR.key) (m := m) (d := d) (r := r) hjk h)
      have HFJ := Lib.hid (HF3.out.mod HMJ.out (fun e => by omega))
      have hbj := HBJ.out
      have hfj := HFJ.out
      have hgjw := hbj.lt
      have hgfw := hfj.lt
      have f0 := hfj.cell 0; simp at f0
      have hpal := pure_alloc wr (.cells #[.int .i64 k', .slice A' ws'.length c', .int .i64 n', .slice B' xs'.length dd'] 44)
      have HC := Lib.hid (HIH.out _ HMEM.out (wr.alloc (.cells #[.int .i64 k', .slice A' ws'.length c', .int .i64 n', .slice B' xs'.length dd'] 44)) (m + 1 + qSum (xs.map QR.key) j) (d + 1) rn gm gf (HQJ.out.pure hpal) HQK.out (hbj.alloc _) (hfj.alloc _) hmj h2 h3)
      rw [← HKEY.out] at HC
      have HMA : Hid (Mod (· = gm) w3 (wr.alloc (.cells #[.int .i64 k', .slice A' ws'.length c', .int .i64 n', .slice B' xs'.length dd'] 44))) := Lib.hid (HMJ.out.trans (Mod.of_pure hpal))
      rw [HRN.out] at HARG
      clear hbj hfj hpal HIH HQ HQB HQX HQJ HQK HMEM HKEY hxs hq HBJ HMJ
      have hji : ((j : Nat) : Int) < (xs.length : Int) := by omega
      go_wp2_with fail
      rw [show ((d : Int) + 1 + 1) = (((d + 1 : Nat) : Int) + 1) by simp]
      refine HC.out.mono ?_
      rintro e w5 ⟨m', rfl, hfit, hm', hb5, hmd5⟩
      have HMF : Hid (Mod (· = gm) w3 w5) := Lib.hid (HMA.out.trans hmd5)
      have HB5 := Lib.hid hb5
      have HFT := Lib.hid hfit
      clear hb5 hmd5 HC HMA hfit q0 q1 q2 q3 f0
      cases hf : qFit (xs.map QR.key)[j] (m + 1 + qSum (xs.map QR.key) j) (d + 1) rn with
      | false =>
       have HN := Lib.hid (HARG.out hf)
       clear HFT HARG HOK HSUM hf
       go_wp2_with fail
       try simp only [Exit.inBlock, Exit.then]
       refine bodyPost_ret (v := .bool false) (by simp [results, Tryz.results89, go_sem]) rfl ?_
       exact ⟨m', by rw [HN.out], fun h => (by rw [HN.out] at h; cases h), hm', HB5.out, HMD.out.trans HMF.out⟩
      | true =>
       have hme := HFT.out hf
       have hsz : m + 1 + qSum (xs.map QR.key) j + qSize (xs.map QR.key)[j] ≤ 100 := by
        unfold qFit at hf
        simp only [Bool.and_eq_true, decide_eq_true_eq] at hf
        exact hf.1
       have HOK2 : Hid (∀ t (ht : t < (xs.map QR.key).length), t < j + 1 → qFit (xs.map QR.key)[t] (m + 1 + qSum (xs.map QR.key) t) (d + 1) rn = true) := Lib.hid (fun t ht h => by
        by_cases e : t = j
        ·subst e; exact hf
        ·exact HOK.out t ht (by omega))
       have hs := HSUM.out
       have HBF : Hid (Blk w5 gm 3 #[.int .i64 ((m + 1 + qSum (xs.map QR.key) (j + 1) : Nat) : Int)]) := Lib.hid (by
        have h := HB5.out
        rw [hme, Nat.add_assoc, ← hs] at h
        exact h)
       have HLE : Hid (m + 1 + qSum (xs.map QR.key) (j + 1) ≤ 100) := Lib.hid (by omega)
       clear HFT HARG HOK HSUM hf hs hsz hme HB5
       go_wp2_with fail
       go_roundg (xs.length - (j + 1))
       case measure => omega
       case rel => exact ⟨j + 1, by rw [List.length_map], by rw [List.length_map]; omega, by simp, HLE.out, HOK2.out, HBF.out, HMF.out⟩
     ·obtain rfl : j = xs.length := by omega
      have HY : Hid (qFit (.mk k ws n (xs.map QR.key)) m d r = true) := Lib.hid (qFit_all (by omega) h1 (by rw [HRN.out]; exact h3) (fun t ht => by rw [HRN.out]; exact HOK.out t ht (by simpa using ht)))
      have hsum : qSum (xs.map QR.key) xs.length = ((xs.map QR.key).map qSize).sum := by
       have h := qSum_all (xs.map QR.key)
       rw [List.length_map] at h
       exact h
      have hjj : ¬ ((xs.length : Nat) : Int) < (xs.length : Int) := by omega
      have HSZ : Hid (m + 1 + qSum (xs.map QR.key) xs.length = m + qSize (.mk k ws n (xs.map QR.key))) := Lib.hid (by rw [qSize, hsum]; omega)
      clear hsum HOK HIH HQ HQB HQX
      go_wp2_with fail
      try simp only [Exit.inBlock, Exit.then]
      refine bodyPost_ret (v := .bool true) (by simp [results, Tryz.results89, go_sem]) rfl ?_
      exact ⟨m + 1 + qSum (xs.map QR.key) xs.length, by rw [HY.out], fun _ => HSZ.out, by omega, HBJ.out, HMD.out.trans HMJ.out⟩

set_option maxRecDepth 100000 in
set_option maxHeartbeats 8000000 in
theorem qsize_calls (w : World) (qr : QR) (hQ : QS w qr) (hB : QB 1000 qr.key) : Calls Tryz.prog 53 #[qA qr] w (IntPost w (if qFit qr.key 0 0 0 = true then 0 else 2)) := by
 obtain ⟨k, A, c, ws, n, B, dd, xs, rfl⟩ := qr.ex
 have hO := ((Blk.new w 44 #[.int .i64 k, .slice A ws.length c, .int .i64 n, .slice B xs.length dd]).alloc (.cells #[.int .i64 0] 3)).alloc (.cells #[.nilFunc] 125)
 have hM := (Blk.snd w (.cells #[.int .i64 k, .slice A ws.length c, .int .i64 n, .slice B xs.length dd] 44) 3 #[.int .i64 0]).alloc (.cells #[.nilFunc] 125)
 have hF := Blk.snd (w.alloc (.cells #[.int .i64 k, .slice A ws.length c, .int .i64 n, .slice B xs.length dd] 44)) (.cells #[.int .i64 0] 3) 125 #[.nilFunc]
 rw [World.size_alloc] at hF
 have hP0 := ((pure_alloc w (.cells #[.int .i64 k, .slice A ws.length c, .int .i64 n, .slice B xs.length dd] 44)).alloc (.cells #[.int .i64 0] 3)).alloc (.cells #[.nilFunc] 125)
 obtain ⟨er, her⟩ : ∃ er : Int, (if qFit (QR.mk k A c ws n B dd xs).key 0 0 0 = true then 0 else 2) = er := ⟨_, rfl⟩
 rw [her]
 have HER := Lib.hid her
 clear her
 show Calls Tryz.prog 53 #[.agg #[.int .i64 k, .slice A ws.length c, .int .i64 n, .slice B xs.length dd]] w (IntPost w er)
 go_enter Tryz.func53, Tryz.ntmps53
 go_upto_region 3 with (fail)
 generalize (((w.alloc (.cells #[.int .i64 k, .slice A ws.length c, .int .i64 n, .slice B xs.length dd] 44)).alloc (.cells #[.int .i64 0] 3)).alloc (.cells #[.nilFunc] 125)) = w3 at *
 generalize hg0 : w.heap.size = g0 at *
 have hwg : w.heap.size ≤ g0 := Nat.le_of_eq hg0
 clear hg0
 have q0 := hF.cell 0
 have q1 := hF.frozen 0
 simp at q0
 have hst : Sem.run Tryz.prog (store ⟨g0 + 1 + 1, 0, none⟩ (.func (.func 89) #[] #[.pointer (some ⟨g0 + 1, 0, none⟩), .pointer (some ⟨g0 + 1 + 1, 0, none⟩)])) w3 = .ok () (w3.setCell ⟨g0 + 1 + 1, 0, none⟩ (.func (.func 89) #[] #[.pointer (some ⟨g0 + 1, 0, none⟩), .pointer (some ⟨g0 + 1 + 1, 0, none⟩)])) := by
  refine (run_store _ _ _ _ _ rfl).trans ?_
  simp [stored, q0, q1]
 have hO2 := hO.far (p := ⟨g0 + 1 + 1, 0, none⟩) (by show g0 ≠ g0 + 1 + 1; omega) (.func (.func 89) #[] #[.pointer (some ⟨g0 + 1, 0, none⟩), .pointer (some ⟨g0 + 1 + 1, 0, none⟩)])
 have hM2 := hM.far (p := ⟨g0 + 1 + 1, 0, none⟩) (by show g0 + 1 ≠ g0 + 1 + 1; omega) (.func (.func 89) #[] #[.pointer (some ⟨g0 + 1, 0, none⟩), .pointer (some ⟨g0 + 1 + 1, 0, none⟩)])
 have hF2 := hF.set 0 (.func (.func 89) #[] #[.pointer (some ⟨g0 + 1, 0, none⟩), .pointer (some ⟨g0 + 1 + 1, 0, none⟩)])
 have HP2 : Hid (Pure w (w3.setCell ⟨g0 + 1 + 1, 0, none⟩ (.func (.func 89) #[] #[.pointer (some ⟨g0 + 1, 0, none⟩), .pointer (some ⟨g0 + 1 + 1, 0, none⟩)]))) := Lib.hid (hP0.setCell (.inr (by show w.heap.size ≤ g0 + 1 + 1; omega)) _)
 have HC := Lib.hid (go2_calls (.mk k A c ws n B dd xs) _ 0 0 0 (g0 + 1) (g0 + 1 + 1) (hQ.pure HP2.out) hB (by simpa using hM2) (by simpa using hF2) (by omega) (by omega) (by omega))
 rw [show qA (QR.mk k A c ws n B dd xs) = .agg #[.int .i64 k, .slice A ws.length c, .int .i64 n, .slice B xs.length dd] from rfl] at HC
 clear hQ hB hO hM hF hP0
 go_upto_region 4 with (fail)
 generalize (w3.setCell ⟨g0 + 1 + 1, 0, none⟩ (.func (.func 89) #[] #[.pointer (some ⟨g0 + 1, 0, none⟩), .pointer (some ⟨g0 + 1 + 1, 0, none⟩)])) = w4 at *
 clear q0 q1 hst hM2
 have hF3 : Blk w4 (g0 + 1 + 1) 125 #[.func (.func 89) #[] #[.pointer (some ⟨g0 + 1, 0, none⟩), .pointer (some ⟨g0 + 1 + 1, 0, none⟩)]] := by simpa using hF2
 have x0 := hO2.cell 0; have x1 := hO2.cell 1; have x2 := hO2.cell 2; have x3 := hO2.cell 3; simp at x0 x1 x2 x3
 have f0 := hF3.cell 0; simp at f0
 clear hO2 hF2 hF3
 go_wp2_with fail
 refine HC.out.mono ?_
 rintro e w5 ⟨m', rfl, _, _, hb, hm⟩
 have HP5 : Hid (Pure w w5) := Lib.hid (HP2.out.trans' hm (fun i hi hlt => by omega))
 have e := HER.out
 clear hb hm HC HP2 x0 x1 x2 x3 f0
 generalize qFit (QR.mk k A c ws n B dd xs).key 0 0 0 = fit at *
 cases fit
 ·obtain rfl : (2 : Int) = er := by simpa using e
  go_wp2_with fail
  refine (whenQ_calls _ _ _ 2 (by simp)).mono ?_
  rintro e2 w6 ⟨rfl, hm6⟩
  go_wp2_with fail
  go_ret
  exact ⟨rfl, HP5.out.trans hm6⟩
 ·obtain rfl : (0 : Int) = er := by simpa using e
  go_wp2_with fail
  refine (whenQ_calls _ _ _ 0 (by simp)).mono ?_
  rintro e2 w6 ⟨rfl, hm6⟩
  go_wp2_with fail
  go_ret
  exact ⟨rfl, HP5.out.trans hm6⟩

end Go.Proofs.YtanblgcgbncbpaaGreatDoor

/- Searches by words that are made. -/
namespace Go.Proofs.YtanblgcgbncbpaaGreatDoor
set_option linter.unusedVariables false
set_option linter.unusedSimpArgs false
open Go.RowKit

theorem qA_mk {k n : Int} {A B : Option Addr} {c d : Nat} {ws : List Str} {xs : List QR} : qA (.mk k A c ws n B d xs) = .agg #[.int .i64 k, .slice A ws.length c, .int .i64 n, .slice B xs.length d] := rfl
/-- Four cells stored in a row. -/
theorem st4_blk {w : World} {g : Nat} {t : TypeId} {x0 x1 x2 x3 a b c d : Value} (h : Blk w g t #[x0, x1, x2, x3]) : Blk ((((w.setCell ⟨g, 0, none⟩ a).setCell ⟨g, 1, none⟩ b).setCell ⟨g, 2, none⟩ c).setCell ⟨g, 3, none⟩ d) g t #[a, b, c, d] := by
 have h2 := (((h.set 0 a).set 1 b).set 2 c).set 3 d
 simpa using h2
theorem st4_mod {w : World} {g : Nat} {a b c d : Value} : Mod (· = g) w ((((w.setCell ⟨g, 0, none⟩ a).setCell ⟨g, 1, none⟩ b).setCell ⟨g, 2, none⟩ c).setCell ⟨g, 3, none⟩ d) :=
 ((((Mod.refl (· = g) w).setCell (p := ⟨g, 0, none⟩) (.inl rfl) a).setCell (p := ⟨g, 1, none⟩) (.inl rfl) b).setCell (p := ⟨g, 2, none⟩) (.inl rfl) c).setCell (p := ⟨g, 3, none⟩) (.inl rfl) d
theorem slOne {w : World} {g : Nat} {cs : List Str} (h : Blk w g 9 (strsV cs).toArray) (hn : cs.length ≤ 1000) : Sl w 9 1 (.slice (some ⟨g, 0, none⟩) cs.length cs.length) (strsV cs) :=
 ⟨_, _, _, rfl, Nat.le_refl _, by omega, by simp [strsV], fun _ => ⟨g, 0, rfl, h.row0⟩⟩
/-- The search of a block that has been stored last. -/
theorem qs_words {w : World} {g : Nat} {k n : Int} {ws : List Str} (h : Blk w g 9 (strsV ws).toArray) (hn : ws.length ≤ 1000) : QS w (.mk k (some ⟨g, 0, none⟩) ws.length ws n none 0 []) := .mk (slOne h hn) Sl.nil_ (fun a ha => by cases ha)
end Go.Proofs.YtanblgcgbncbpaaGreatDoor

/-
 DERIVED: THE SHELF's CONTRACTS AT THIS DUMP, IN PLAIN WORDS (tools/lay-plain.mjs out of 'YtanblgcgbncbpaaGreatDoorLayVal.lean', which tools/lay-shelf.mjs wrote): THE SAME DECLARATIONS UNDER THE SAME NAMES: 'import', 'namespace', 'open', 'def', 'theorem' AND NOTHING ELSE: no command of the shelf's: FOR A HAND-IN. Each laying: the table of numbers ('.._ren') and one theorem, a field a fact of the dump's own or the kernel's comparison; each contract: ONE APPLICATION.
-/
namespace Go.Proofs
open Go.Shelf
def Tryz.lays196_ren : Go.Shelf.Ren := ⟨fun | 196 => 189 | 259 => 212 | n => n, fun | 9 => 9 | 4 => 4 | 3 => 3 | 5 => 5 | 12 => 12 | 119 => 214 | 0 => 0 | 46 => 81 | 139 => 217 | 138 => 216 | 53 => 122 | n => n, fun | 3 => 2 | 4 => 3 | n => n⟩
theorem Tryz.lays196 : Go.Proofs.Lays.n196 Tryz.prog Tryz.lays196_ren := {
 mixed := by kernel_rfl
 f196 := Tryz.func189.trans (congrArg some (by kernel_rfl))
 f259 := Tryz.func212.trans (congrArg some (by kernel_rfl))
 t0 := Tryz.underlying0
 a0 := Tryz.isAgg0
 z0 := Tryz.sizeOf0
 v0 := Tryz.zeroValue0
 t3 := Tryz.underlying3
 a3 := Tryz.isAgg3
 z3 := Tryz.sizeOf3
 v3 := Tryz.zeroValue3
 t4 := Tryz.underlying4
 a4 := Tryz.isAgg4
 z4 := Tryz.sizeOf4
 v4 := Tryz.zeroValue4
 t5 := Tryz.underlying5
 a5 := Tryz.isAgg5
 z5 := Tryz.sizeOf5
 v5 := Tryz.zeroValue5
 t9 := Tryz.underlying9
 a9 := Tryz.isAgg9
 z9 := Tryz.sizeOf9
 v9 := Tryz.zeroValue9
 t12 := Tryz.underlying12
 a12 := Tryz.isAgg12
 z12 := Tryz.sizeOf12
 v12 := Tryz.zeroValue12
 t46 := Tryz.underlying81
 a46 := Tryz.isAgg81
 z46 := Tryz.sizeOf81
 v46 := Tryz.zeroValue81
 t53 := Tryz.underlying122
 a53 := Tryz.isAgg122
 z53 := Tryz.sizeOf122
 v53 := Tryz.zeroValue122
 t119 := Tryz.underlying214
 a119 := Tryz.isAgg214
 z119 := Tryz.sizeOf214
 t138 := Tryz.underlying216
 a138 := Tryz.isAgg216
 z138 := Tryz.sizeOf216
 v138 := Tryz.zeroValue216
 t139 := Tryz.underlying217
 a139 := Tryz.isAgg217
 z139 := Tryz.sizeOf217
 v139 := Tryz.zeroValue217
 g3 := by kernel_rfl
 g4 := by kernel_rfl }
end Go.Proofs

/-
 DERIVED: THE SHELF's CONTRACTS AT THIS DUMP, IN PLAIN WORDS (tools/lay-plain.mjs out of 'YtanblgcgbncbpaaGreatDoorLayCon.lean', which tools/lay-shelf.mjs wrote): THE SAME DECLARATIONS UNDER THE SAME NAMES: 'import', 'namespace', 'open', 'def', 'theorem' AND NOTHING ELSE: no command of the shelf's: FOR A HAND-IN. Each laying: the table of numbers ('.._ren') and one theorem, a field a fact of the dump's own or the kernel's comparison; each contract: ONE APPLICATION.
-/
namespace Go.Proofs
open Go.Shelf
def Tryz.lays144_ren : Go.Shelf.Ren := ⟨fun | 144 => 164 | 143 => 191 | 219 => 207 | 217 => 114 | 225 => 186 | 224 => 185 | 267 => 221 | 266 => 151 | 314 => 231 | n => n, fun | 9 => 9 | 4 => 4 | 3 => 3 | 5 => 5 | 46 => 81 | 146 => 120 | 51 => 119 | n => n, fun | 1 => 0 | n => n⟩
theorem Tryz.lays144 : Go.Proofs.Lays.n144 Tryz.prog Tryz.lays144_ren := {
 mixed := by kernel_rfl
 f143 := Tryz.func191.trans (congrArg some (by kernel_rfl))
 f144 := Tryz.func164.trans (congrArg some (by kernel_rfl))
 f217 := Tryz.func114.trans (congrArg some (by kernel_rfl))
 f219 := Tryz.func207.trans (congrArg some (by kernel_rfl))
 f224 := Tryz.func185.trans (congrArg some (by kernel_rfl))
 f225 := Tryz.func186.trans (congrArg some (by kernel_rfl))
 f266 := Tryz.func151.trans (congrArg some (by kernel_rfl))
 f267 := Tryz.func221.trans (congrArg some (by kernel_rfl))
 f314 := Tryz.func231.trans (congrArg some (by kernel_rfl))
 t3 := Tryz.underlying3
 a3 := Tryz.isAgg3
 z3 := Tryz.sizeOf3
 v3 := Tryz.zeroValue3
 t4 := Tryz.underlying4
 a4 := Tryz.isAgg4
 z4 := Tryz.sizeOf4
 v4 := Tryz.zeroValue4
 t5 := Tryz.underlying5
 a5 := Tryz.isAgg5
 z5 := Tryz.sizeOf5
 v5 := Tryz.zeroValue5
 t9 := Tryz.underlying9
 a9 := Tryz.isAgg9
 z9 := Tryz.sizeOf9
 v9 := Tryz.zeroValue9
 t46 := Tryz.underlying81
 a46 := Tryz.isAgg81
 z46 := Tryz.sizeOf81
 v46 := Tryz.zeroValue81
 t51 := Tryz.underlying119
 a51 := Tryz.isAgg119
 z51 := Tryz.sizeOf119
 v51 := Tryz.zeroValue119
 t146 := Tryz.underlying120
 a146 := Tryz.isAgg120
 z146 := Tryz.sizeOf120
 v146 := Tryz.zeroValue120
 g1 := by kernel_rfl }
def Tryz.lays100_ren : Go.Shelf.Ren := ⟨fun | 100 => 163 | 207 => 115 | n => n, fun | 9 => 9 | 4 => 4 | 3 => 3 | n => n, fun | n => n⟩
theorem Tryz.lays100 : Go.Proofs.Lays.n100 Tryz.prog Tryz.lays100_ren := {
 mixed := by kernel_rfl
 f100 := Tryz.func163.trans (congrArg some (by kernel_rfl))
 f207 := Tryz.func115.trans (congrArg some (by kernel_rfl))
 t3 := Tryz.underlying3
 a3 := Tryz.isAgg3
 z3 := Tryz.sizeOf3
 v3 := Tryz.zeroValue3
 t4 := Tryz.underlying4
 a4 := Tryz.isAgg4
 z4 := Tryz.sizeOf4
 v4 := Tryz.zeroValue4
 t9 := Tryz.underlying9
 a9 := Tryz.isAgg9
 z9 := Tryz.sizeOf9
 v9 := Tryz.zeroValue9 }
def Tryz.layc99_ren : Go.Shelf.Ren := ⟨fun | 99 => 162 | 206 => 190 | n => n, fun | 9 => 9 | 4 => 4 | 3 => 3 | n => n, fun | n => n⟩
theorem Tryz.layc99 : Go.Proofs.Lays.n99 Tryz.prog Tryz.layc99_ren := {
 mixed := by kernel_rfl
 f99 := Tryz.func162.trans (congrArg some (by kernel_rfl))
 f206 := Tryz.func190.trans (congrArg some (by kernel_rfl))
 t3 := Tryz.underlying3
 a3 := Tryz.isAgg3
 z3 := Tryz.sizeOf3
 v3 := Tryz.zeroValue3
 t4 := Tryz.underlying4
 a4 := Tryz.isAgg4
 z4 := Tryz.sizeOf4
 v4 := Tryz.zeroValue4
 t9 := Tryz.underlying9
 a9 := Tryz.isAgg9
 z9 := Tryz.sizeOf9
 v9 := Tryz.zeroValue9 }
end Go.Proofs

/- Strings of items: what the program and the reference say of them. -/
namespace Go.Proofs.YtanblgcgbncbpaaGreatDoor
set_option linter.unusedVariables false
set_option linter.unusedSimpArgs false
open Go.RowKit

/-- The tables of UTF-8. -/
def Utf (w : World) : Prop := Lib.Utf8Tabs 2 3 w
/-- The library's variable MaxLen holds some number. -/
def Mln (w : World) : Prop := ∃ m : Int, w.cell? ⟨0, 0, none⟩ = some (.int .i64 m)
def Env (w : World) : Prop := Utf w ∧ Mln w
theorem Utf.pure {w w' : World} (h : Utf w) (hm : Pure w w') : Utf w' := Utf8Tabs_below h hm.below
theorem Mln.pure {w w' : World} (h : Mln w) (hm : Pure w w') : Mln w' := by
 obtain ⟨m, h⟩ := h
 exact ⟨m, hm.keep h id⟩
theorem Env.pure {w w' : World} (h : Env w) (hm : Pure w w') : Env w' := ⟨h.1.pure hm, h.2.pure hm⟩
theorem Env.alloc {w : World} (h : Env w) (o : Obj) : Env (w.alloc o) := h.pure ((Mod.refl _ _).alloc o)
theorem Pure.same (w : World) : Pure w w := Mod.refl _ _

theorem valid_calls (w : World) (s : ByteArray) (hs : s.size ≤ 1000000) (hU : Utf w) : Calls Tryz.prog 189 #[.string s] w (BoolPost w (Lib.validD s.data.toList)) := by
 refine (Any.utf8_ValidString Tryz.lays196 s w (by omega) hU).mono ?_
 rintro e w' ⟨rfl, h⟩
 exact ⟨rfl, Mod.of_below h⟩
theorem contains_calls (w : World) (s t : ByteArray) (hs : s.size ≤ 1000000) (hM : Mln w) : Calls Tryz.prog 164 #[.string s, .string t] w (BoolSame w (Lib.contains s.data.toList t.data.toList)) := by
 obtain ⟨m, hm⟩ := hM
 refine (Any.strings_Contains Tryz.lays144 s t m w (by omega) hm).mono ?_
 rintro e w' ⟨rfl, h⟩
 exact ⟨rfl, h.symm⟩
theorem suffix_calls (w : World) (s t : ByteArray) (hs : s.size ≤ 1000000) : Calls Tryz.prog 163 #[.string s, .string t] w (BoolSame w (Lib.hasSuffix s.data.toList t.data.toList)) := by
 refine (Any.strings_HasSuffix Tryz.lays100 s t w (by omega)).mono ?_
 rintro e w' ⟨rfl, h⟩
 exact ⟨rfl, h.symm⟩
theorem pfx_calls (w : World) (s t : ByteArray) : Calls Tryz.prog 162 #[.string s, .string t] w (BoolSame w (Lib.hasPrefix s.data.toList t.data.toList)) := by
 refine (Any.strings_HasPrefix Tryz.layc99 s t w).mono ?_
 rintro e w' ⟨rfl, h⟩
 exact ⟨rfl, h.symm⟩
theorem visB_false (f : Bool) (l : Str) (k : Nat) (h : k < l.length) (hk : visC f l[k].toNat = false) : visB f l = false := by
 unfold visB
 rw [List.all_eq_false]
 exact ⟨l[k], List.getElem_mem h, by simp [hk]⟩

set_option maxRecDepth 100000 in
set_option maxHeartbeats 2000000 in
theorem visible_calls (w : World) (s : ByteArray) (f : Bool) (hs : s.size ≤ 1000000) (hU : Utf w) : Calls Tryz.prog 161 #[.string s, .bool f] w (BoolPost w (visB f s.data.toList && Lib.validD s.data.toList)) := by
 have hls : s.data.toList.length = s.size := by simp
 have HLS := Lib.hid hls
 have HV := Lib.hid (valid_calls w s hs hU)
 clear hls hU
 go_enter Tryz.func161, Tryz.ntmps161
 go_wp2_with fail
 go_loopg [9] s.size (fun gk i wr => ∃ k : Nat, s.size - k = gk ∧ k ≤ s.size ∧ i = .int .i64 (k : Int) ∧ visB f (s.data.toList.take k) = true ∧ w = wr)
 case atStart => exact ⟨0, by omega, by omega, rfl, rfl, rfl⟩
 case round =>
  obtain ⟨k, rfl, hk, rfl, hall, rfl⟩ := hrel
  have HA := Lib.hid hall
  clear hall
  by_cases hlt : k < s.size
  ·have hl : k < s.data.toList.length := by rw [HLS.out]; exact hlt
   have hsn := visB_snoc f s.data.toList k hl
   have hfa := visB_false f s.data.toList k hl
   have hidx : s.data.toList[k] = s[k] := by simp; rfl
   rw [hidx] at hsn hfa
   have NO : Hid (visC f s[k].toNat = false → (visB f s.data.toList && Lib.validD s.data.toList) = false) := Lib.hid (fun h => by rw [hfa h]; rfl)
   have OK : Hid (visC f s[k].toNat = true → visB f (s.data.toList.take (k + 1)) = true) := Lib.hid (fun h => by rw [hsn, HA.out, h]; rfl)
   clear hsn hfa hidx HV
   generalize (visB f s.data.toList && Lib.validD s.data.toList) = ans at *
   generalize hc : s[k].toNat = c at *
   by_cases h1 : (c : Int) < 32
   ·have h3 : ((c : Int) == 127) = false := by simp; omega
    by_cases h2 : c = 10
    ·subst h2
     cases f
     ·go_wp2_with fail
      go_ret
      exact BoolPost.of (NO.out (by decide)) (Mod.refl _ _)
     ·go_wp2_with fail
      go_roundg (s.size - (k + 1))
      case measure => omega
      case rel => exact ⟨k + 1, rfl, hlt, by simp, OK.out (by decide), rfl⟩
    ·have h2' : ((c : Int) == 10) = false := by simp; omega
     have hx : visC f c = false := by
      unfold visC
      rw [decide_eq_true (by omega : c < 32), show (c == 10) = false by simpa using h2]
      simp
     cases f
     all_goals
      go_wp2_with fail
      go_ret
      exact BoolPost.of (NO.out hx) (Mod.refl _ _)
   ·by_cases h2 : c = 127
    ·subst h2
     have hx : visC f 127 = false := by cases f <;> decide
     go_wp2_with fail
     go_ret
     exact BoolPost.of (NO.out hx) (Mod.refl _ _)
    ·have h2' : ((c : Int) == 127) = false := by simp; omega
     have hx : visC f c = true := by
      unfold visC
      rw [decide_eq_false (by omega : ¬ c < 32), show (c == 127) = false by simpa using h2]
      simp
     go_wp2_with fail
     go_roundg (s.size - (k + 1))
     case measure => omega
     case rel => exact ⟨k + 1, rfl, hlt, by simp, OK.out hx, rfl⟩
  ·have hke : k = s.size := by omega
   subst hke
   have hall : visB f s.data.toList = true := by
    have := HA.out
    rwa [List.take_of_length_le (by rw [HLS.out]; omega)] at this
   go_wp2_with fail
   refine HV.out.mono ?_
   rintro e w1 ⟨rfl, hm⟩
   have HX : Hid ((visB f s.data.toList && Lib.validD s.data.toList) = Lib.validD s.data.toList) := Lib.hid (by rw [hall]; rfl)
   clear hall HV HA
   generalize Lib.validD s.data.toList = v at *
   go_wp2_with fail
   go_ret
   exact BoolPost.of HX.out hm

set_option maxRecDepth 100000 in
set_option maxHeartbeats 2000000 in
theorem plain_calls (w : World) (s : ByteArray) (hs : s.size ≤ 1000000) (hE : Env w) : Calls Tryz.prog 123 #[.string s] w (BoolPost w (plainB s.data.toList)) := by
 have HV := Lib.hid (visible_calls w s false hs hE.1)
 have HP := Lib.hid (fun W => pfx_calls W s ⟨#[32]⟩)
 have HS := Lib.hid (fun W => suffix_calls W s ⟨#[32]⟩ hs)
 have HC := Lib.hid (fun W (h : Pure w W) => contains_calls W s ⟨#[32, 32]⟩ hs (hE.2.pure h))
 have HX : Hid (plainB s.data.toList = (((visB false s.data.toList && Lib.validD s.data.toList) && !Lib.hasPrefix s.data.toList [32]) && !Lib.hasSuffix s.data.toList [32] && !Lib.contains s.data.toList [32, 32])) := Lib.hid (by unfold plainB; simp only [Bool.and_assoc])
 clear hE
 go_enter Tryz.func123, Tryz.ntmps123
 go_wp2_with fail
 refine HV.out.mono ?_
 rintro e w1 ⟨rfl, hm⟩
 generalize (visB false s.data.toList && Lib.validD s.data.toList) = v at *
 cases v
 ·go_wp2_with fail
  go_ret
  exact BoolPost.of (by rw [HX.out]; rfl) hm
 ·go_wp2_with fail
  refine (HP.out _).mono ?_
  rintro e w' ⟨rfl, rfl⟩
  generalize Lib.hasPrefix s.data.toList [32] = p at *
  cases p
  ·go_wp2_with fail
   refine (HS.out _).mono ?_
   rintro e w' ⟨rfl, rfl⟩
   generalize Lib.hasSuffix s.data.toList [32] = q at *
   cases q
   ·go_wp2_with fail
    refine (HC.out _ hm).mono ?_
    rintro e w' ⟨rfl, rfl⟩
    generalize Lib.contains s.data.toList [32, 32] = r at *
    go_wp2_with fail
    go_ret
    exact BoolPost.of (by rw [HX.out]; rfl) hm
   ·go_wp2_with fail
    go_ret
    exact BoolPost.of (by rw [HX.out]; rfl) hm
  ·go_wp2_with fail
   go_ret
   exact BoolPost.of (by rw [HX.out]; rfl) hm

set_option maxRecDepth 100000 in
set_option maxHeartbeats 2000000 in
theorem text_calls (w : World) (l : Str) (hs : l.length ≤ 1000000) (hE : Env w) : Calls Tryz.prog 125 #[.string ⟨l.toArray⟩] w (BoolPost w (textB l)) := by
 have hsz : (⟨l.toArray⟩ : ByteArray).size ≤ 1000000 := by simpa [ByteArray.size] using hs
 have HV := Lib.hid (visible_calls w ⟨l.toArray⟩ true hsz hE.1)
 have HS := Lib.hid (fun W => suffix_calls W ⟨l.toArray⟩ ⟨#[10]⟩ hsz)
 have HX : Hid (textB l = ((visB true l && Lib.validD l) && (l.isEmpty || Lib.hasSuffix l [10]))) := Lib.hid (by unfold textB; simp only [Bool.and_assoc])
 clear hE hsz
 go_enter Tryz.func125, Tryz.ntmps125
 go_wp2_with fail
 refine HV.out.mono ?_
 rintro e w1 ⟨rfl, hm⟩
 generalize (visB true l && Lib.validD l) = v at *
 cases v
 ·go_wp2_with fail
  go_ret
  exact BoolPost.of (by rw [HX.out]; rfl) hm
 ·cases he : l.isEmpty
  ·go_wp2_with fail
   refine (HS.out _).mono ?_
   rintro e w' ⟨rfl, rfl⟩
   generalize Lib.hasSuffix l [10] = r at *
   go_wp2_with fail
   go_ret
   exact BoolPost.of (by rw [HX.out, he]; rfl) hm
  ·go_wp2_with fail
   go_ret
   exact BoolPost.of (by rw [HX.out, he]; rfl) hm

end Go.Proofs.YtanblgcgbncbpaaGreatDoor

/- Strings of items: what the reference says of them. -/
namespace Go.Proofs.YtanblgcgbncbpaaGreatDoor
set_option linter.unusedVariables false
set_option linter.unusedSimpArgs false
open Go.RowKit

end Go.Proofs.YtanblgcgbncbpaaGreatDoor

/- The errors of one item: CheckItem of package intake, ItemFault of the reference. -/
namespace Go.Proofs.YtanblgcgbncbpaaGreatDoor
set_option linter.unusedVariables false
set_option linter.unusedSimpArgs false
open Go.RowKit

/-- An item whose strings are of a length that the walks allow. -/
def ItL (x : Itm) : Prop := x.id.length ≤ 300000 ∧ x.cust.length ≤ 300000 ∧ x.name.length ≤ 300000 ∧ x.par.length ≤ 300000 ∧ x.text.length ≤ 300000
theorem ItB.l {x : Itm} (h : ItB x) : ItL x := by
 obtain ⟨a, b, c, d, e⟩ := h
 exact ⟨by omega, by omega, by omega, by omega, by omega⟩
theorem key_any (W : World) (l : Str) (h : l.length ≤ 1000000) : Calls Tryz.prog 94 #[.string ⟨l.toArray⟩] W (BoolPost W (keyB l)) := by
 refine (key_calls W ⟨l.toArray⟩ (by simpa [ByteArray.size] using h)).mono ?_
 rintro e w' ⟨rfl, rfl⟩
 exact ⟨rfl, Mod.refl _ _⟩
theorem plain_any (W : World) (l : Str) (h : l.length ≤ 1000000) (hE : Env W) : Calls Tryz.prog 123 #[.string ⟨l.toArray⟩] W (BoolPost W (plainB l)) :=
 plain_calls W ⟨l.toArray⟩ (by simpa [ByteArray.size] using h) hE
theorem text_any (W : World) (l : Str) (h : l.length ≤ 1000000) (hE : Env W) : Calls Tryz.prog 125 #[.string ⟨l.toArray⟩] W (BoolPost W (textB l)) := text_calls W l h hE
set_option maxHeartbeats 400000 in
theorem moment_calls (n : Int) (w : World) : Calls Tryz.prog 124 #[.int .i64 n] w (BoolSame w (inB n 0 5761439)) := by
 go_enter Tryz.func124, Tryz.ntmps124
 go_wp2_with fail
 refine (in_calls _ _ _ _).mono ?_
 rintro e w' ⟨rfl, rfl⟩
 go_wp2_with fail
 go_ret
 exact BoolSame.of rfl
/-- The word of a kind. -/
def kwS (n : Int) : Str := if n = 1 then [109, 97, 105, 108] else if n = 2 then [102, 105, 108, 101] else if n = 3 then [98, 111, 120] else if n = 4 then [110, 111, 116, 101] else []
theorem kwS_empty (n : Int) : (kwS n).isEmpty = !inB n 1 4 := by
 unfold kwS inB
 by_cases h1 : n = 1
 ·subst h1; rfl
 by_cases h2 : n = 2
 ·subst h2; rfl
 by_cases h3 : n = 3
 ·subst h3; rfl
 by_cases h4 : n = 4
 ·subst h4; rfl
 rw [if_neg h1, if_neg h2, if_neg h3, if_neg h4, decide_eq_false (by omega)]
 rfl
set_option maxHeartbeats 400000 in
theorem kindWord_calls (n : Int) (w : World) : Calls Tryz.prog 122 #[.int .i64 n] w (fun e w' => e = .returned (.string ⟨(kwS n).toArray⟩) ∧ w = w') := by
 by_cases h1 : n = 1
 ·subst h1
  go_enter Tryz.func122, Tryz.ntmps122
  go_wp2_with fail
  go_ret
  exact ⟨rfl, rfl⟩
 by_cases h2 : n = 2
 ·subst h2
  go_enter Tryz.func122, Tryz.ntmps122
  go_wp2_with fail
  go_ret
  exact ⟨rfl, rfl⟩
 by_cases h3 : n = 3
 ·subst h3
  go_enter Tryz.func122, Tryz.ntmps122
  go_wp2_with fail
  go_ret
  exact ⟨rfl, rfl⟩
 by_cases h4 : n = 4
 ·subst h4
  go_enter Tryz.func122, Tryz.ntmps122
  go_wp2_with fail
  go_ret
  exact ⟨rfl, rfl⟩
 have g1 : (n == 1) = false := by simpa using h1
 have g2 : (n == 2) = false := by simpa using h2
 have g3 : (n == 3) = false := by simpa using h3
 have g4 : (n == 4) = false := by simpa using h4
 go_enter Tryz.func122, Tryz.ntmps122
 go_wp2_with fail
 go_ret
 exact ⟨by unfold kwS; rw [if_neg h1, if_neg h2, if_neg h3, if_neg h4]; rfl, rfl⟩


set_option maxRecDepth 100000 in
set_option maxHeartbeats 8000000 in
theorem checkItemL_calls (w : World) (x : Itm) (hz : ItL x) (hE : Env w) : Calls Tryz.prog 81 #[itA x] w (IntPost w (itemE x)) := by
 obtain ⟨id, cust, kind, name, tm, par, text⟩ := x
 obtain ⟨z1, z2, z3, z4, z5⟩ := hz
 simp only at z1 z2 z3 z4 z5
 have HK1 := Lib.hid (fun W => key_any W id (by omega))
 have HK2 := Lib.hid (fun W => key_any W cust (by omega))
 have HK3 := Lib.hid (fun W => key_any W par (by omega))
 have HPL := Lib.hid (fun W (h : Pure w W) => plain_any W name (by omega) (hE.pure h))
 have HTX := Lib.hid (fun W (h : Pure w W) => text_any W text (by omega) (hE.pure h))
 have HIE : Hid (itemE ⟨id, cust, kind, name, tm, par, text⟩ = if !(keyB id && keyB cust) then 5 else if !inB kind 1 4 then 4 else if 120 < name.length then 2 else if !plainB name then 3 else if !inB tm 0 5761439 then 1 else
  if !par.isEmpty && !keyB par then 5 else if par = id then 14 else if 20000 < text.length then 2 else if !textB text then 3 else 0) := Lib.hid (by unfold itemE; rw [show decide (par ≠ []) = !par.isEmpty by cases par <;> simp])
 generalize hie : itemE ⟨id, cust, kind, name, tm, par, text⟩ = ie at *
 have HKN : Hid (keyB id = true → id.isEmpty = false) := Lib.hid (fun h => by cases id <;> first | rfl | cases h)
 generalize keyB id = k1 at *
 generalize keyB cust = k2 at *
 generalize keyB par = k3 at *
 generalize plainB name = pl at *
 generalize textB text = tx at *
 clear hie hE z1 z2 z3 z4 z5
 have B0 := Blk.new w 78 (itQ ⟨id, cust, kind, name, tm, par, text⟩)
 have m0 : Pure w (w.alloc (.cells (itQ ⟨id, cust, kind, name, tm, par, text⟩) 78)) := pure_alloc _ _
 unfold itQ at B0 m0
 simp only at B0 m0
 have HB0 := Lib.hid B0
 have Hm0 := Lib.hid m0
 clear B0 m0
 unfold itA
 simp only
 go_enter Tryz.func81, Tryz.ntmps81
 go_wp2_with fail
 refine (HK1.out _).mono ?_
 rintro e w1 ⟨rfl, m1⟩
 have B1 := HB0.out.mod m1 _root_.id
 have m1 := Hm0.out.trans m1
 clear HB0 Hm0
 generalize w.heap.size = gx at *
 cases k1
 ·clear B1 HK1 HK2 HK3 HPL HTX
  go_wp2_with fail
  go_ret
  exact IntPost.of (by rw [HIE.out]; rfl) m1
 have c0 := B1.cell 0; have c1 := B1.cell 1; have c2 := B1.cell 2; have c3 := B1.cell 3; have c4 := B1.cell 4; have c5 := B1.cell 5; have c6 := B1.cell 6; simp at c0 c1 c2 c3 c4 c5 c6
 go_wp2_with fail
 clear c0 c1 c2 c3 c4 c5 c6
 refine (HK2.out _).mono ?_
 rintro e w2 ⟨rfl, m2⟩
 have B2 := B1.mod m2 _root_.id
 have m2 := m1.trans m2
 clear B1 m1
 cases k2
 ·clear B2 HK1 HK2 HK3 HPL HTX
  go_wp2_with fail
  go_ret
  exact IntPost.of (by rw [HIE.out]; rfl) m2
 have c0 := B2.cell 0; have c1 := B2.cell 1; have c2 := B2.cell 2; have c3 := B2.cell 3; have c4 := B2.cell 4; have c5 := B2.cell 5; have c6 := B2.cell 6; simp at c0 c1 c2 c3 c4 c5 c6
 go_wp2_with fail
 refine (kindWord_calls _ _).mono ?_
 rintro e w' ⟨rfl, rfl⟩
 have hkw := kwS_empty kind
 cases hki : inB kind 1 4
 all_goals
  rw [hki] at hkw
  simp only [Bool.not_true, Bool.not_false] at hkw
  generalize kwS kind = kw at *
 ·clear B2 HK1 HK2 HK3 HPL HTX
  go_wp2_with fail
  go_ret
  exact IntPost.of (by rw [HIE.out]; simp [hki]) m2
 by_cases hn : 120 < name.length
 ·have hn' : (120 : Int) < (name.length : Int) := by omega
  clear B2 HK1 HK2 HK3 HPL HTX
  go_wp2_with fail
  go_ret
  exact IntPost.of (by rw [HIE.out]; simp [hki, hn]) m2
 have hn' : ¬ ((120 : Int) < (name.length : Int)) := by omega
 go_wp2_with fail
 clear c0 c1 c2 c3 c4 c5 c6
 refine (HPL.out _ m2).mono ?_
 rintro e w3 ⟨rfl, m3⟩
 have B3 := B2.mod m3 _root_.id
 have m3 := m2.trans m3
 clear B2 m2
 cases pl
 ·clear B3 HK1 HK2 HK3 HPL HTX
  go_wp2_with fail
  go_ret
  exact IntPost.of (by rw [HIE.out]; simp [hki, hn]) m3
 have c0 := B3.cell 0; have c1 := B3.cell 1; have c2 := B3.cell 2; have c3 := B3.cell 3; have c4 := B3.cell 4; have c5 := B3.cell 5; have c6 := B3.cell 6; simp at c0 c1 c2 c3 c4 c5 c6
 go_wp2_with fail
 refine (moment_calls _ _).mono ?_
 rintro e w' ⟨rfl, rfl⟩
 cases htm : inB tm 0 5761439
 ·clear B3 HK1 HK2 HK3 HPL HTX
  go_wp2_with fail
  go_ret
  exact IntPost.of (by rw [HIE.out]; simp [hki, hn, htm]) m3
 rw [hki, htm] at HIE
 cases hpe : par.isEmpty
 ·rw [hpe] at HIE
  go_wp2_with fail
  clear c0 c1 c2 c3 c4 c5 c6
  refine (HK3.out _).mono ?_
  rintro e w4 ⟨rfl, m4⟩
  have B4 := B3.mod m4 _root_.id
  have m4 := m3.trans m4
  clear B3 m3
  cases k3
  ·clear B4 HK1 HK2 HK3 HPL HTX
   go_wp2_with fail
   go_ret
   exact IntPost.of (by rw [HIE.out]; simp [hn]) m4
  have c0 := B4.cell 0; have c1 := B4.cell 1; have c2 := B4.cell 2; have c3 := B4.cell 3; have c4 := B4.cell 4; have c5 := B4.cell 5; have c6 := B4.cell 6; simp at c0 c1 c2 c3 c4 c5 c6
  cases hpi : (par == id)
  ·have hpi2 : ¬ par = id := by simpa using hpi
   by_cases hl2 : 20000 < text.length
   ·have hl2' : (20000 : Int) < (text.length : Int) := by omega
    clear HK1 HK2 HK3 HPL HTX
    go_wp2_with fail
    go_ret
    exact IntPost.of (by rw [HIE.out]; simp [hn, hl2, hpi2]) m4
   ·have hl2' : ¬ ((20000 : Int) < (text.length : Int)) := by omega
    clear HK1 HK2 HK3 HPL
    go_wp2_with fail
    refine (HTX.out _ m4).mono ?_
    rintro e w6 ⟨rfl, m6⟩
    have m6 := m4.trans m6
    clear HTX
    cases tx
    all_goals
     go_wp2_with fail
     go_ret
     exact IntPost.of (by rw [HIE.out]; simp [hn, hl2, hpi2]) m6
  ·have hpi2 : par = id := by simpa using hpi
   clear HK1 HK2 HK3 HPL HTX
   go_wp2_with fail
   go_ret
   exact IntPost.of (by rw [HIE.out]; simp [hn, hpi2]) m4

 ·rw [hpe] at HIE
  cases hpi : (par == id)
  ·have hpi2 : ¬ par = id := by simpa using hpi
   by_cases hl2 : 20000 < text.length
   ·have hl2' : (20000 : Int) < (text.length : Int) := by omega
    clear HK1 HK2 HK3 HPL HTX
    go_wp2_with fail
    go_ret
    exact IntPost.of (by rw [HIE.out]; simp [hn, hl2, hpi2]) m3
   ·have hl2' : ¬ ((20000 : Int) < (text.length : Int)) := by omega
    clear HK1 HK2 HK3 HPL
    go_wp2_with fail
    refine (HTX.out _ m3).mono ?_
    rintro e w6 ⟨rfl, m6⟩
    have m6 := m3.trans m6
    clear HTX
    cases tx
    all_goals
     go_wp2_with fail
     go_ret
     exact IntPost.of (by rw [HIE.out]; simp [hn, hl2, hpi2]) m6
  ·have hpi2 : par = id := by simpa using hpi
   have hx : id.isEmpty = false := by have := HKN.out; simpa using this
   rw [← hpi2, hpe] at hx
   cases hx




end Go.Proofs.YtanblgcgbncbpaaGreatDoor

/- Items as text, plain. -/
namespace Go.Proofs.YtanblgcgbncbpaaGreatDoor
set_option linter.unusedVariables false
set_option linter.unusedSimpArgs false
open Go.RowKit

end Go.Proofs.YtanblgcgbncbpaaGreatDoor

/- Items as the program writes them, plain. -/
namespace Go.Proofs.YtanblgcgbncbpaaGreatDoor
set_option linter.unusedVariables false
set_option linter.unusedSimpArgs false
open Go.RowKit

end Go.Proofs.YtanblgcgbncbpaaGreatDoor

/- Items read from a text, plain. -/
namespace Go.Proofs.YtanblgcgbncbpaaGreatDoor
set_option linter.unusedVariables false
set_option linter.unusedSimpArgs false
open Go.RowKit

def kndI (s : Str) : Int := if s = [109, 97, 105, 108] then 1 else if s = [102, 105, 108, 101] then 2 else if s = [98, 111, 120] then 3 else if s = [110, 111, 116, 101] then 4 else 0
end Go.Proofs.YtanblgcgbncbpaaGreatDoor

/- Tokens and the reading of a search, in plain words. -/
namespace Go.Proofs.YtanblgcgbncbpaaGreatDoor
set_option linter.unusedVariables false
set_option linter.unusedSimpArgs false
open Go.RowKit
/-- A token: its kind, where it begins, the search that it says. -/
structure Tk where
 kind : Int
 pos : Nat
 q : Qry
def q0 : Qry := .mk 0 [] 0 []
def blkC (c : UInt8) : Bool := c == 32 || c == 10
def stpC (c : UInt8) : Bool := c == 32 || (c == 10 || (c == 40 || (c == 41 || c == 34)))
/-- A number that is not below 0, of at most six digits. -/
def natQ (s : Str) : Option Int := match numQ 6 s with | none => none | some n => if 0 ≤ n then some n else none
/-- The first part of a string that is cut at a byte, and the second one, if it can be cut. -/
def headS (c : UInt8) (s : Str) : Str := match fstL c s with | none => s | some p => p.1
def restS (c : UInt8) (s : Str) : Str := match fstL c s with | none => [] | some p => p.2
def slashQ (w rest : Str) : Int × Qry := match natQ rest with
 | none => (8, q0)
 | some n => if w = [119] then (7, .mk 4 [] n []) else if w = [112, 114, 101] then (7, .mk 5 [] n []) else (8, q0)
def colonQ (w rest : Str) : Int × Qry :=
 if w = [111, 119, 110, 101, 114] ∧ keyB rest = true then (3, .mk 9 [rest] 0 [])
 else if w = [110, 97, 109, 101] ∧ patB rest = true then (3, .mk 11 [rest] 0 [])
 else if w = [102, 114, 111, 109] ∧ (natQ rest).isSome = true then (3, .mk 12 [] ((natQ rest).getD 0) [])
 else if w = [117, 110, 116, 105, 108] ∧ (natQ rest).isSome = true then (3, .mk 13 [] ((natQ rest).getD 0) [])
 else if w = [107, 105, 110, 100] ∧ kndI rest ≠ 0 then (3, .mk 10 [] (kndI rest) []) else (8, q0)
/-- A piece: what kind of a token it is, and what search. -/
def pieceQ (s : Str) : Int × Qry :=
 if s = [97, 108, 108] then (3, .mk 1 [] 0 []) else if s = [97, 110, 100] then (4, q0) else if s = [111, 114] then (5, q0) else if s = [110, 111, 116] then (6, q0)
 else if patB s = true then (3, .mk 2 [s] 0 []) else match fstL 47 s with
  | some p => slashQ p.1 p.2
  | none => colonQ (headS 58 s) (restS 58 s)
/-- The patterns of a phrase. -/
def phrW (body : Str) : List Str := (spl 32 (lowS body)).filter fun w => !w.isEmpty
def phraseQ (body : Str) : Int × Qry :=
 if (phrW body).all patB = false ∨ phrW body = [] then (8, q0) else (3, .mk (if (phrW body).length = 1 then 2 else 3) (phrW body) 0 [])
/-- What stands at a place without blanks: a token, and how many bytes it takes. -/
def wordQ (s : Str) : Str := s.takeWhile fun d => !stpC d
def tokC (c : UInt8) (t : Str) : Int × Qry × Nat :=
 if c = 40 then (1, q0, 1) else if c = 41 then (2, q0, 1) else if c = 34 then (match fstL 34 t with
   | none => (8, q0, 0)
   | some p => ((phraseQ p.1).1, (phraseQ p.1).2, p.1.length + 2))
  else ((pieceQ (lowS (wordQ (c :: t)))).1, (pieceQ (lowS (wordQ (c :: t)))).2, (wordQ (c :: t)).length)
def tokQ : Str → Int × Qry × Nat
 | [] => (0, q0, 0)
 | c :: t => tokC c t
def skpQ (s : Str) (a : Nat) : Nat := a + ((s.drop a).takeWhile blkC).length
/-- The token from a place on, and the place behind it. -/
def nextQ (s : Str) (a : Nat) : Tk × Nat := (⟨(tokQ (s.drop (skpQ s a))).1, skpQ s a, (tokQ (s.drop (skpQ s a))).2.1⟩, skpQ s a + (tokQ (s.drop (skpQ s a))).2.2)
def toksF (s : Str) : Nat → Nat → List Tk
 | 0, _ => []
 | f + 1, a => if (nextQ s a).1.kind = 0 ∨ (nextQ s a).1.kind = 8 then [(nextQ s a).1] else (nextQ s a).1 :: toksF s f (nextQ s a).2
/-- The tokens from a place on, to the end or to the first that is none. -/
def toksQ (s : Str) (a : Nat) : List Tk := toksF s (s.length + 1 - a) a
theorem piece_kind (s : Str) : (pieceQ s).1 ≠ 0 := by
 unfold pieceQ slashQ colonQ
 repeat' split
 all_goals first | decide | (simp; done)
theorem phrase_kind (s : Str) : (phraseQ s).1 = 8 ∨ (phraseQ s).1 = 3 := by
 unfold phraseQ
 split
 ·exact .inl rfl
 ·exact .inr rfl
theorem skp_le (s : Str) {a : Nat} (h : a ≤ s.length) : a ≤ skpQ s a ∧ skpQ s a ≤ s.length := by
 unfold skpQ
 have := (List.takeWhile_prefix (l := s.drop a) blkC).length_le
 rw [List.length_drop] at this
 omega
theorem fstL_le {c : UInt8} : ∀ {s : Str} {p : Str × Str}, fstL c s = some p → p.1.length + 1 ≤ s.length
 | [], p, h => by cases h
 | d :: t, p, h => by
  unfold fstL at h
  split at h
  ·cases h; simp
  ·obtain ⟨r, hr, rfl⟩ := Option.map_eq_some_iff.1 h
   have := fstL_le hr
   simp
   omega
theorem word_pos {c : UInt8} {t : Str} (h : stpC c = false) : 1 ≤ (wordQ (c :: t)).length := by
 unfold wordQ
 rw [List.takeWhile_cons, show (!stpC c) = true by simpa using h]
 simp
theorem word_le (s : Str) : (wordQ s).length ≤ s.length := (List.takeWhile_prefix _).length_le
theorem tokC_len (c : UInt8) (t : Str) (hb : blkC c = false) : (tokC c t).2.2 ≤ t.length + 1 ∧ (tokC c t).1 ≠ 0 ∧ ((tokC c t).1 ≠ 8 → 1 ≤ (tokC c t).2.2) := by
 unfold tokC
 by_cases h1 : c = 40
 ·rw [if_pos h1]; exact ⟨by simp, by decide, fun _ => Nat.le_refl _⟩
 rw [if_neg h1]
 by_cases h2 : c = 41
 ·rw [if_pos h2]; exact ⟨by simp, by decide, fun _ => Nat.le_refl _⟩
 rw [if_neg h2]
 by_cases h3 : c = 34
 ·rw [if_pos h3]
  cases hf : fstL 34 t with
  | none => exact ⟨by simp, by decide, fun h => absurd rfl h⟩
  | some p =>
   have := fstL_le hf
   refine ⟨by simp; omega, fun h => ?_, fun _ => by simp⟩
   rcases phrase_kind p.1 with h2 | h2 <;> simp only at h <;> rw [h2] at h <;> cases h
 rw [if_neg h3]
 refine ⟨by have := word_le (c :: t); simpa using this, piece_kind _, fun _ => word_pos ?_⟩
 simp [blkC] at hb
 simp [stpC, hb, h1, h2, h3]
theorem skp_head (s : Str) {a : Nat} {c : UInt8} {t : Str} (h : s.drop (skpQ s a) = c :: t) : blkC c = false := by
 unfold skpQ at h
 rw [← List.drop_drop] at h
 have h2 : ∀ l : Str, l.drop (l.takeWhile blkC).length = c :: t → blkC c = false := by
  intro l
  induction l with
  | nil => intro h; simp at h
  | cons d l ih =>
   intro h
   rw [List.takeWhile_cons] at h
   by_cases hd : blkC d = true
   ·rw [if_pos hd] at h
    simp only [List.length_cons, List.drop_succ_cons] at h
    exact ih h
   ·rw [if_neg hd] at h
    simp at h
    rw [← h.1]; simpa using hd
 exact h2 _ h
/-- Behind a token that is no end and not wrong. -/
theorem next_len (s : Str) {a : Nat} (h : a ≤ s.length) : (nextQ s a).2 ≤ s.length ∧ ((nextQ s a).1.kind = 0 → (nextQ s a).1.pos = s.length) ∧ ((nextQ s a).1.kind ≠ 0 → (nextQ s a).1.kind ≠ 8 → a + 1 ≤ (nextQ s a).2) := by
 obtain ⟨h1, h2⟩ := skp_le s h
 show skpQ s a + (tokQ (s.drop (skpQ s a))).2.2 ≤ s.length ∧ ((tokQ (s.drop (skpQ s a))).1 = 0 → skpQ s a = s.length) ∧ ((tokQ (s.drop (skpQ s a))).1 ≠ 0 → (tokQ (s.drop (skpQ s a))).1 ≠ 8 → a + 1 ≤ skpQ s a + (tokQ (s.drop (skpQ s a))).2.2)
 have hl : (s.drop (skpQ s a)).length = s.length - skpQ s a := List.length_drop
 have hh : ∀ c t, s.drop (skpQ s a) = c :: t → blkC c = false := fun c t => skp_head s
 cases hd : s.drop (skpQ s a) with
 | nil =>
  rw [hd] at hl
  simp only [List.length_nil] at hl
  exact ⟨by show skpQ s a + 0 ≤ _; omega, fun _ => by omega, fun h => absurd rfl h⟩
 | cons c t =>
  rw [hd] at hl
  obtain ⟨h3, h4, h5⟩ := tokC_len c t (hh c t hd)
  simp only [List.length_cons] at hl
  exact ⟨by show skpQ s a + (tokC c t).2.2 ≤ _; omega, fun h => absurd h h4, fun _ h8 => by have := h5 h8; show a + 1 ≤ skpQ s a + (tokC c t).2.2; omega⟩
theorem toksF_fuel (s : Str) : ∀ (f g a : Nat), a ≤ s.length → s.length + 1 ≤ f + a → s.length + 1 ≤ g + a → toksF s f a = toksF s g a
 | 0, g, a, h, h1, h2 => by omega
 | f + 1, 0, a, h, h1, h2 => by omega
 | f + 1, g + 1, a, h, h1, h2 => by
  unfold toksF
  obtain ⟨h3, h4, h5⟩ := next_len s h
  split
  ·rfl
  ·rename_i hk
   have := h5 (fun e => hk (.inl e)) (fun e => hk (.inr e))
   rw [toksF_fuel s f g _ h3 (by omega) (by omega)]
theorem toks_eq (s : Str) {a : Nat} (h : a ≤ s.length) : toksQ s a = if (nextQ s a).1.kind = 0 ∨ (nextQ s a).1.kind = 8 then [(nextQ s a).1] else (nextQ s a).1 :: toksQ s (nextQ s a).2 := by
 unfold toksQ
 rw [show s.length + 1 - a = (s.length - a) + 1 by omega, toksF]
 obtain ⟨h3, h4, h5⟩ := next_len s h
 split
 ·rfl
 ·rename_i hk
  have := h5 (fun e => hk (.inl e)) (fun e => hk (.inr e))
  rw [toksF_fuel s _ (s.length + 1 - (nextQ s a).2) _ h3 (by omega) (by omega)]
theorem toksF_le (s : Str) : ∀ (f a : Nat), (toksF s f a).length ≤ f
 | 0, _ => Nat.le_refl _
 | f + 1, a => by
  unfold toksF
  split
  ·simp
  ·have := toksF_le s f (nextQ s a).2
   simp
   omega
theorem toks_len (s : Str) (a : Nat) : (toksQ s a).length ≤ s.length + 1 - a := toksF_le s _ a

/-- What reading a part of a search leads to: the tokens at which it failed, or the search and the tokens behind it. -/
abbrev PR := List Tk ⊕ (Qry × List Tk)
def kdL : List Tk → Int | [] => 0 | t :: _ => t.kind
def qL : List Tk → Qry | [] => q0 | t :: _ => t.q
def closeP : PR → PR
 | .inl l => .inl l
 | .inr (q, l) => if kdL l = 2 then .inr (q, l.tail) else .inl l
def pPart (rec : List Tk → PR) (L : List Tk) : PR :=
 if kdL L = 3 then .inr (qL L, L.tail) else if kdL L = 1 then closeP (rec L.tail) else .inl L
def pNearL (rec : List Tk → PR) : Nat → Qry → List Tk → PR
 | 0, _, L => .inl L
 | f + 1, q, L => if kdL L = 7 then (match pPart rec L.tail with
   | .inl l => .inl l
   | .inr (b, l) => pNearL rec f (.mk (qL L).kind [] (qL L).num [q, b]) l) else .inr (q, L)
def pNear (rec : List Tk → PR) (f : Nat) (L : List Tk) : PR := match pPart rec L with
 | .inl l => .inl l
 | .inr (q, l) => pNearL rec f q l
def notN : Nat → Qry → Qry
 | 0, q => q
 | n + 1, q => notN n (.mk 8 [] 0 [q])
def notP (n : Nat) : PR → PR
 | .inl l => .inl l
 | .inr (q, l) => .inr (notN n q, l)
def notL (L : List Tk) : Nat := (L.takeWhile fun t => t.kind == 6).length
def pNot (rec : List Tk → PR) (f : Nat) (L : List Tk) : PR := notP (notL L) (pNear rec f (L.drop (notL L)))
def pSevL (kind between : Int) (el : List Tk → PR) : Nat → List Qry → List Tk → PR
 | 0, _, L => .inl L
 | f + 1, qs, L => if kdL L = between then (match el L.tail with
   | .inl l => .inl l
   | .inr (q, l) => pSevL kind between el f (qs ++ [q]) l) else .inr (.mk kind [] 0 qs, L)
def pSev (kind between : Int) (el : List Tk → PR) (f : Nat) (L : List Tk) : PR := match el L with
 | .inl l => .inl l
 | .inr (q, l) => if kdL l = between then pSevL kind between el f [q] l else .inr (q, l)
def pOr : Nat → List Tk → PR
 | 0, L => .inl L
 | f + 1, L => pSev 7 5 (pSev 6 4 (pNot (pOr f) f) f) f L
end Go.Proofs.YtanblgcgbncbpaaGreatDoor

/-
 DERIVED: THE SHELF's CONTRACTS AT THIS DUMP, IN PLAIN WORDS (tools/lay-plain.mjs out of 'YtanblgcgbncbpaaGreatDoorLayWra.lean', which tools/lay-shelf.mjs wrote): THE SAME DECLARATIONS UNDER THE SAME NAMES: 'import', 'namespace', 'open', 'def', 'theorem' AND NOTHING ELSE: no command of the shelf's: FOR A HAND-IN. Each laying: the table of numbers ('.._ren') and one theorem, a field a fact of the dump's own or the kernel's comparison; each contract: ONE APPLICATION.
-/
namespace Go.Proofs
open Go.Shelf
def Tryz.lays103_ren : Go.Shelf.Ren := ⟨fun | 103 => 210 | 210 => 224 | 206 => 190 | n => n, fun | 9 => 9 | 4 => 4 | 24 => 71 | 3 => 3 | n => n, fun | n => n⟩
theorem Tryz.lays103 : Go.Proofs.Lays.n103 Tryz.prog Tryz.lays103_ren := {
 mixed := by kernel_rfl
 f103 := Tryz.func210.trans (congrArg some (by kernel_rfl))
 f206 := Tryz.func190.trans (congrArg some (by kernel_rfl))
 f210 := Tryz.func224.trans (congrArg some (by kernel_rfl))
 t3 := Tryz.underlying3
 a3 := Tryz.isAgg3
 z3 := Tryz.sizeOf3
 v3 := Tryz.zeroValue3
 t4 := Tryz.underlying4
 a4 := Tryz.isAgg4
 z4 := Tryz.sizeOf4
 v4 := Tryz.zeroValue4
 t9 := Tryz.underlying9
 a9 := Tryz.isAgg9
 z9 := Tryz.sizeOf9
 v9 := Tryz.zeroValue9
 t24 := Tryz.underlying71
 a24 := Tryz.isAgg71
 z24 := Tryz.sizeOf71
 v24 := Tryz.zeroValue71 }
end Go.Proofs

/-
 DERIVED: THE SHELF's CONTRACTS AT THIS DUMP, IN PLAIN WORDS (tools/lay-plain.mjs out of 'YtanblgcgbncbpaaGreatDoorLayAto.lean', which tools/lay-shelf.mjs wrote): THE SAME DECLARATIONS UNDER THE SAME NAMES: 'import', 'namespace', 'open', 'def', 'theorem' AND NOTHING ELSE: no command of the shelf's: FOR A HAND-IN. Each laying: the table of numbers ('.._ren') and one theorem, a field a fact of the dump's own or the kernel's comparison; each contract: ONE APPLICATION.
-/
namespace Go.Proofs
open Go.Shelf
def Tryz.lays172_ren : Go.Shelf.Ren := ⟨fun | 172 => 211 | 244 => 225 | 245 => 226 | 247 => 232 | 279 => 233 | 280 => 234 | 281 => 235 | 282 => 236 | 287 => 246 | 316 => 247 | 171 => 72 | 205 => 248 | 321 => 252 | 322 => 253 | 243 => 110 | 246 => 148 | 283 => 176 | 284 => 177 | 285 => 178 | 286 => 179 | 129 => 146 | 317 => 203 | 318 => 204 | 319 => 205 | 320 => 206 | 337 => 219 | 338 => 220 | n => n, fun | 9 => 9 | 3 => 3 | 75 => 144 | 76 => 145 | 4 => 4 | 5 => 5 | 167 => 232 | 37 => 103 | 0 => 0 | 85 => 233 | 2 => 2 | 168 => 235 | 53 => 122 | 175 => 244 | 46 => 81 | 210 => 247 | 127 => 168 | 145 => 254 | 143 => 252 | 21 => 21 | 171 => 191 | 173 => 193 | 212 => 210 | 51 => 119 | 20 => 20 | 213 => 211 | 232 => 229 | 233 => 230 | 80 => 26 | n => n, fun | 15 => 6 | 16 => 7 | 17 => 1 | 18 => 4 | 19 => 5 | n => n⟩
theorem Tryz.lays172 : Go.Proofs.Lays.n172 Tryz.prog Tryz.lays172_ren := {
 mixed := by kernel_rfl
 f129 := Tryz.func146.trans (congrArg some (by kernel_rfl))
 f171 := Tryz.func72.trans (congrArg some (by kernel_rfl))
 f172 := Tryz.func211.trans (congrArg some (by kernel_rfl))
 f205 := Tryz.func248.trans (congrArg some (by kernel_rfl))
 f243 := Tryz.func110.trans (congrArg some (by kernel_rfl))
 f244 := Tryz.func225.trans (congrArg some (by kernel_rfl))
 f245 := Tryz.func226.trans (congrArg some (by kernel_rfl))
 f246 := Tryz.func148.trans (congrArg some (by kernel_rfl))
 f247 := Tryz.func232.trans (congrArg some (by kernel_rfl))
 f279 := Tryz.func233.trans (congrArg some (by kernel_rfl))
 f280 := Tryz.func234.trans (congrArg some (by kernel_rfl))
 f281 := Tryz.func235.trans (congrArg some (by kernel_rfl))
 f282 := Tryz.func236.trans (congrArg some (by kernel_rfl))
 f283 := Tryz.func176.trans (congrArg some (by kernel_rfl))
 f284 := Tryz.func177.trans (congrArg some (by kernel_rfl))
 f285 := Tryz.func178.trans (congrArg some (by kernel_rfl))
 f286 := Tryz.func179.trans (congrArg some (by kernel_rfl))
 f287 := Tryz.func246.trans (congrArg some (by kernel_rfl))
 f316 := Tryz.func247.trans (congrArg some (by kernel_rfl))
 f317 := Tryz.func203.trans (congrArg some (by kernel_rfl))
 f318 := Tryz.func204.trans (congrArg some (by kernel_rfl))
 f319 := Tryz.func205.trans (congrArg some (by kernel_rfl))
 f320 := Tryz.func206.trans (congrArg some (by kernel_rfl))
 f321 := Tryz.func252.trans (congrArg some (by kernel_rfl))
 f322 := Tryz.func253.trans (congrArg some (by kernel_rfl))
 f337 := Tryz.func219.trans (congrArg some (by kernel_rfl))
 f338 := Tryz.func220.trans (congrArg some (by kernel_rfl))
 t0 := Tryz.underlying0
 a0 := Tryz.isAgg0
 z0 := Tryz.sizeOf0
 v0 := Tryz.zeroValue0
 t2 := Tryz.underlying2
 a2 := Tryz.isAgg2
 z2 := Tryz.sizeOf2
 v2 := Tryz.zeroValue2
 t3 := Tryz.underlying3
 a3 := Tryz.isAgg3
 z3 := Tryz.sizeOf3
 v3 := Tryz.zeroValue3
 t4 := Tryz.underlying4
 a4 := Tryz.isAgg4
 z4 := Tryz.sizeOf4
 v4 := Tryz.zeroValue4
 t5 := Tryz.underlying5
 a5 := Tryz.isAgg5
 z5 := Tryz.sizeOf5
 v5 := Tryz.zeroValue5
 t9 := Tryz.underlying9
 a9 := Tryz.isAgg9
 z9 := Tryz.sizeOf9
 v9 := Tryz.zeroValue9
 t20 := Tryz.underlying20
 a20 := Tryz.isAgg20
 z20 := Tryz.sizeOf20
 v20 := Tryz.zeroValue20
 t21 := Tryz.underlying21
 a21 := Tryz.isAgg21
 z21 := Tryz.sizeOf21
 v21 := Tryz.zeroValue21
 t37 := Tryz.underlying103
 a37 := Tryz.isAgg103
 z37 := Tryz.sizeOf103
 v37 := Tryz.zeroValue103
 t46 := Tryz.underlying81
 a46 := Tryz.isAgg81
 z46 := Tryz.sizeOf81
 v46 := Tryz.zeroValue81
 t51 := Tryz.underlying119
 a51 := Tryz.isAgg119
 z51 := Tryz.sizeOf119
 v51 := Tryz.zeroValue119
 t53 := Tryz.underlying122
 a53 := Tryz.isAgg122
 z53 := Tryz.sizeOf122
 v53 := Tryz.zeroValue122
 t75 := Tryz.underlying144
 a75 := Tryz.isAgg144
 z75 := Tryz.sizeOf144
 v75 := Tryz.zeroValue144
 t76 := Tryz.underlying145
 a76 := Tryz.isAgg145
 z76 := Tryz.sizeOf145
 v76 := Tryz.zeroValue145
 t85 := Tryz.underlying233
 a85 := Tryz.isAgg233
 z85 := Tryz.sizeOf233
 v85 := Tryz.zeroValue233
 t127 := Tryz.underlying168
 a127 := Tryz.isAgg168
 z127 := Tryz.sizeOf168
 v127 := Tryz.zeroValue168
 t143 := Tryz.underlying252
 a143 := Tryz.isAgg252
 z143 := Tryz.sizeOf252
 v143 := Tryz.zeroValue252
 t145 := Tryz.underlying254
 a145 := Tryz.isAgg254
 z145 := Tryz.sizeOf254
 v145 := Tryz.zeroValue254
 t167 := Tryz.underlying232
 a167 := Tryz.isAgg232
 z167 := Tryz.sizeOf232
 v167 := Tryz.zeroValue232
 t168 := Tryz.underlying235
 a168 := Tryz.isAgg235
 z168 := Tryz.sizeOf235
 v168 := Tryz.zeroValue235
 t171 := Tryz.underlying191
 a171 := Tryz.isAgg191
 z171 := Tryz.sizeOf191
 v171 := Tryz.zeroValue191
 t173 := Tryz.underlying193
 a173 := Tryz.isAgg193
 z173 := Tryz.sizeOf193
 v173 := Tryz.zeroValue193
 t175 := Tryz.underlying244
 a175 := Tryz.isAgg244
 z175 := Tryz.sizeOf244
 v175 := Tryz.zeroValue244
 t210 := Tryz.underlying247
 a210 := Tryz.isAgg247
 z210 := Tryz.sizeOf247
 v210 := Tryz.zeroValue247
 t212 := Tryz.underlying210
 a212 := Tryz.isAgg210
 z212 := Tryz.sizeOf210
 v212 := Tryz.zeroValue210
 t213 := Tryz.underlying211
 a213 := Tryz.isAgg211
 z213 := Tryz.sizeOf211
 t232 := Tryz.underlying229
 a232 := Tryz.isAgg229
 z232 := Tryz.sizeOf229
 v232 := Tryz.zeroValue229
 t233 := Tryz.underlying230
 a233 := Tryz.isAgg230
 z233 := Tryz.sizeOf230
 v233 := Tryz.zeroValue230
 g15 := by kernel_rfl
 g16 := by kernel_rfl
 g17 := by kernel_rfl
 g18 := by kernel_rfl
 g19 := by kernel_rfl }
end Go.Proofs

/-
 DERIVED: THE SHELF's CONTRACTS AT THIS DUMP, IN PLAIN WORDS (tools/lay-plain.mjs out of 'YtanblgcgbncbpaaGreatDoorLayIto.lean', which tools/lay-shelf.mjs wrote): THE SAME DECLARATIONS UNDER THE SAME NAMES: 'import', 'namespace', 'open', 'def', 'theorem' AND NOTHING ELSE: no command of the shelf's: FOR A HAND-IN. Each laying: the table of numbers ('.._ren') and one theorem, a field a fact of the dump's own or the kernel's comparison; each contract: ONE APPLICATION.
-/
namespace Go.Proofs
open Go.Shelf
end Go.Proofs
