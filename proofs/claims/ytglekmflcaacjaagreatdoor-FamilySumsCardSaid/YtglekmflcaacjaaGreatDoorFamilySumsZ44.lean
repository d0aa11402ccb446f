/- Texts of the proof of FamilySums, put together: LawI, HasI, SumA, SumB, SumR, SumC, LawFamilySums. -/
import Derived.Test.YtglekmflcaacjaaGreatDoorFamilySumsZ33
import Derived.Test.YtglekmflcaacjaaGreatDoorFamilySumsZ37
import Derived.Test.YtglekmflcaacjaaGreatDoorFamilySumsZ39
import Derived.Test.YtglekmflcaacjaaGreatDoorFamilySumsZ40
import Derived.Test.YtglekmflcaacjaaGreatDoorFamilySumsZ41
import Derived.Test.YtglekmflcaacjaaGreatDoorFamilySumsZ42
import Derived.Laws.AppendOwnNone
import Derived.Deep.DeepCutAuto
import Derived.Deep.CutBlock
/- Words for the laws on items. -/
namespace Go.Proofs.YtglekmflcaacjaaGreatDoor
set_option linter.unusedVariables false
set_option linter.unusedSimpArgs false
open Go.RowKit

theorem pure_strmI {w w' : World} {o : Obj} (h : Mod (· = w.heap.size) (w.alloc o) w') : Pure w w' := ((Mod.refl (fun _ => False) w).alloc o).trans' h (fun i hi hlt => by omega)
theorem rangeI_calls (w : World) (b N : Nat) (hi : Int) (hS : Strm w b N) (hN : N ≤ 1000000000) (h1 : 0 ≤ hi) (h2 : hi ≤ 1000) : Calls Tryz.prog 9 #[.pointer (some ⟨b, 0, none⟩), .int .i64 0, .int .i64 hi] w (fun e w' => ∃ (m : Nat) (mI : Int), mI = (m : Int) ∧ mI ≤ hi ∧ e = .returned (.int .i64 mI) ∧ Strm w' b (N + 1) ∧ Mod (· = b) w w') := by
  refine (range_calls w b N 0 hi hS hN h1 (by omega) (by omega)).mono ?_
  rintro e w' ⟨k, h0, h1, rfl, h3, h4⟩
  exact ⟨k.toNat, k, by omega, h1, rfl, h3, h4⟩

end Go.Proofs.YtglekmflcaacjaaGreatDoor

/- has of the laws; AnyId of the generators. -/
namespace Go.Proofs.YtglekmflcaacjaaGreatDoor
set_option linter.unusedVariables false
set_option linter.unusedSimpArgs false
open Go.RowKit


set_option maxRecDepth 100000 in
set_option maxHeartbeats 1000000 in
theorem containsI1_calls (w : World) (v : Value) (xs : List Itm) (F : Nat) (c1 : Value) (P : Itm → Bool) (hv : Sl w 95 7 v (itV xs))
    (hcf : ∀ (x : Itm) (W : World), Sem.run Tryz.prog (callFunc F #[.agg #[.string ⟨x.id.toArray⟩, .string ⟨x.cust.toArray⟩, .int .i64 x.kind, .string ⟨x.name.toArray⟩, .int .i64 x.tm, .string ⟨x.par.toArray⟩, .string ⟨x.text.toArray⟩], c1]) W = .ok (.enter F #[.agg #[.string ⟨x.id.toArray⟩, .string ⟨x.cust.toArray⟩, .int .i64 x.kind, .string ⟨x.name.toArray⟩, .int .i64 x.tm, .string ⟨x.par.toArray⟩, .string ⟨x.text.toArray⟩], c1]) W)
    (hF : ∀ (x : Itm) (W : World), x ∈ xs → Pure w W → Calls Tryz.prog F #[.agg #[.string ⟨x.id.toArray⟩, .string ⟨x.cust.toArray⟩, .int .i64 x.kind, .string ⟨x.name.toArray⟩, .int .i64 x.tm, .string ⟨x.par.toArray⟩, .string ⟨x.text.toArray⟩], c1] W (BoolPost W (P x))) :
    Calls Tryz.prog 77 #[v, .func (.func F) #[] #[c1]] w (BoolPost w (xs.any P)) := by
  have HC := Lib.hid (indexI1_calls w v xs F c1 P hv hcf hF)
  have HI := Lib.hid (idxQ_any P xs 0 (by omega))
  clear hcf hF
  obtain ⟨A, n, c, rfl⟩ := hv.form
  clear hv
  go_enter Tryz.func77, Tryz.ntmps77
  go_wp2_with fail
  refine HC.out.mono ?_
  rintro e w1 ⟨rfl, hm1⟩
  generalize idxQ P xs 0 = r at *
  go_wp2_with fail
  go_ret
  exact BoolPost.of HI.out.symm hm1


set_option maxRecDepth 100000 in
set_option maxHeartbeats 400000 in
theorem has1_calls (w : World) (g : Nat) (s : Str) (x : Itm) (hb : w.cell? ⟨g, 0, none⟩ = some (.string ⟨s.toArray⟩)) :
    Calls Tryz.prog 78 #[.agg #[.string ⟨x.id.toArray⟩, .string ⟨x.cust.toArray⟩, .int .i64 x.kind, .string ⟨x.name.toArray⟩, .int .i64 x.tm, .string ⟨x.par.toArray⟩, .string ⟨x.text.toArray⟩], .pointer (some ⟨g, 0, none⟩)] w (BoolPost w (x.id == s)) := by
  have hb2 := cell_alloc hb (.cells (itQ x) 95)
  unfold itQ at hb2
  clear hb
  go_enter Tryz.func78, Tryz.ntmps78
  go_wp2_with fail
  go_ret
  exact BoolPost.of rfl (pure_alloc _ _)
theorem any_plc (s : Str) : ∀ l : List Itm, (l.any fun x => x.id == s) = (plc l s).isSome
  | [] => rfl
  | x :: l => by
    unfold plc
    rw [List.any_cons, any_plc s l]
    by_cases h : x.id = s
    · simp [h]
    · rw [if_neg h]
      have h2 : (x.id == s) = false := by simpa using h
      rw [h2]
      simp

set_option maxRecDepth 100000 in
set_option maxHeartbeats 400000 in
theorem has_calls (w : World) (v : Value) (xs : List Itm) (s : Str) (hv : Its w v xs) : Calls Tryz.prog 30 #[v, .string ⟨s.toArray⟩] w (BoolPost w (plc xs s).isSome) := by
  have B0 := Blk.new w 9 #[.string ⟨s.toArray⟩]
  have HIX := Lib.hid (containsI1_calls (w.alloc (.cells #[.string ⟨s.toArray⟩] 9)) v xs 78 (.pointer (some ⟨w.heap.size, 0, none⟩)) (fun x => x.id == s) (hv.pure (pure_alloc _ _)) (fun _ _ => rfl)
    (fun x W _ hm => has1_calls W w.heap.size s x (hm.keep (by simp [B0.cell 0]) id)))
  rw [any_plc] at HIX
  obtain ⟨A, n, c, rfl⟩ := Sl.form hv
  clear hv B0
  go_enter Tryz.func30, Tryz.ntmps30
  go_wp2_with fail
  refine HIX.out.mono ?_
  rintro e w1 ⟨rfl, hm⟩
  clear HIX
  generalize (plc xs s).isSome = r at *
  go_wp2_with fail
  go_ret
  exact BoolPost.of rfl ((pure_alloc _ _).trans hm)

set_option maxRecDepth 100000 in
set_option maxHeartbeats 2000000 in
theorem anyId_calls (w : World) (b N : Nat) (v : Value) (l : List Itm) (hS : Strm w b N) (hN : N ≤ 900000000) (hv : Its w v l) (hz : ∀ x ∈ l, ItB x) (hl : l.length ≤ 1000) : Calls Tryz.prog 28 #[.pointer (some ⟨b, 0, none⟩), v] w (StrB w b (N + 2) 100) := by
  have HZ := Lib.hid hz
  have HV := Lib.hid hv
  obtain ⟨A, n, c, rfl, _, _, hl2, _⟩ := hv
  have hln : l.length = n := by rw [itV_len] at hl2; omega
  subst hln
  clear hl2 hz
  have HW : Hid (∀ W M, Strm W b M → M ≤ N + 1 → Mod (· = b) w W → Calls Tryz.prog 44 #[.pointer (some ⟨b, 0, none⟩), .slice (some ⟨W.heap.size, 0, none⟩) 3 3] (W.alloc (.cells #[.string ⟨#[105, 122, 122]⟩, .string ⟨#[]⟩, .string ⟨#[65]⟩] 9)) (StrB w b (N + 2) 100)) := Lib.hid (fun W M h1 h2 h3 => by
    have := h1.lt
    refine (someb_calls _ b _ _ _ _ [[105, 122, 122], [], [65]] 3 rfl (by decide) (h1.alloc _) (by omega) (Blk.new _ _ _) (by omega) (by decide) (by decide)).mono ?_
    rintro e w2 ⟨s, hs, rfl, hS2, hM2⟩
    exact ⟨s, by omega, rfl, hS2.more (by omega), (h3.alloc _).trans hM2⟩)
  by_cases h0 : l.length = 0
  · have h0' : ((l.length : Int) == 0) = true := by simp [h0]
    have HS := Lib.hid (HW.out w N hS (by omega) (Mod.refl _ _))
    clear h0 HW hS
    go_enter Tryz.func28, Tryz.ntmps28
    go_wp2_with fail
    refine HS.out.mono ?_
    rintro e w2 ⟨s, hs, rfl, h1, h2⟩
    go_wp2_with fail
    go_ret
    exact ⟨s, hs, rfl, h1, h2⟩
  · have h0' : ((l.length : Int) == 0) = false := by rw [beq_eq_false_iff_ne]; omega
    go_enter Tryz.func28, Tryz.ntmps28
    go_wp2_with fail
    refine (flip_calls _ b _ _ hS (by omega) (by omega) (by omega)).mono ?_
    rintro e w1 ⟨fl, rfl, hS1, hM1⟩
    cases fl
    · have HV1 := Lib.hid (HV.out.strm hS hM1 (by decide))
      clear HW hS
      go_wp2_with fail
      refine (next_calls _ b _ _ hS1 (by omega) (by omega) (by omega)).mono ?_
      rintro e w2 ⟨k, hk0, hk1, rfl, hS2, hM2⟩
      obtain ⟨k, rfl⟩ := Int.eq_ofNat_of_zero_le hk0
      have hkl : k < l.length := by omega
      have hv2 := HV1.out.strm hS1 hM2 (by decide)
      obtain ⟨A', n', c', he, _, _, hl2, hr⟩ := hv2
      injection he with he1 he2 he3
      subst he1 he2 he3
      obtain ⟨g, off, rfl, hrow⟩ := hr (by omega)
      have q1 := (item_cells hrow hkl).1
      have hid := (HZ.out _ (List.getElem_mem hkl)).1
      have HM := Lib.hid (hM1.trans hM2)
      clear hl2 hr hrow hM1 hM2 hS1
      generalize l[k].id = s at *
      go_wp2_with fail
      go_ret
      exact ⟨s, hid, rfl, hS2, HM.out⟩
    · have HS := Lib.hid (HW.out w1 _ hS1 (by omega) hM1)
      clear HW hS hS1 hM1
      go_wp2_with fail
      refine HS.out.mono ?_
      rintro e w2 ⟨s, hs, rfl, h1, h2⟩
      go_wp2_with fail
      go_ret
      exact ⟨s, hs, rfl, h1, h2⟩

end Go.Proofs.YtglekmflcaacjaaGreatDoor

/- The sum of a family: tree.sum of package intake. -/
namespace Go.Proofs.YtglekmflcaacjaaGreatDoor
set_option linter.unusedVariables false
set_option linter.unusedSimpArgs false
open Go.RowKit

def srtS (xs : List Str) : List Str := xs.mergeSort fun x y => decide (x ≤ y)
/-- The sum of an item, and of what is in it. -/
def fsJ (x : Itm) (ks : List Str) : Str := digS (Lib.join (sumS x :: srtS ks) [32])
def itmAt (l : List Itm) (i : Nat) : Itm := l[i]?.getD ⟨[], [], 0, [], 0, [], []⟩
theorem itmAt_eq {l : List Itm} {i : Nat} (h : i < l.length) : itmAt l i = l[i] := by simp [itmAt, h]
def fsI (l : List Itm) : Nat → Nat → Str
  | 0, i => fsJ (itmAt l i) []
  | n + 1, i => fsJ (itmAt l i) ((kidsI l i).map (fsI l n))
theorem digS_len16 (s : Str) : (digS s).length = 16 := by simp [digS, hexR]
theorem fsJ_len (x : Itm) (ks : List Str) : (fsJ x ks).length = 16 := digS_len16 _
theorem fsI_len (l : List Itm) (n i : Nat) : (fsI l n i).length = 16 := by
  cases n <;> exact fsJ_len _ _
theorem join_len : ∀ (xs : List Str), (∀ x ∈ xs, x.length = 16) → (Lib.join xs [32]).length ≤ 17 * xs.length
  | [], _ => by simp [Lib.join]
  | [x], h => by
    have := h x (by simp)
    simp [Lib.join]
    omega
  | x :: y :: r, h => by
    have h1 := join_len (y :: r) (fun z hz => h z (by simp [hz]))
    have h2 := h x (by simp)
    have e : Lib.join (x :: y :: r) [32] = x ++ [32] ++ Lib.join (y :: r) [32] := by simp [Lib.join, List.intercalate, List.intersperse]
    rw [e]
    simp only [List.length_append, List.length_cons, List.length_nil] at *
    omega
theorem join_small {zs : List Str} (h : ∀ y ∈ zs, y.length = 16) (hl : zs.length ≤ 2001) : (Lib.join zs [32]).length ≤ 40000 := by
  have := join_len zs h
  omega
theorem digJ_calls (w : World) (js : Str) (h : js.length ≤ 40000) (hD : Deb w) : Calls Tryz.prog 59 #[.string ⟨js.toArray⟩] w (StrPost1 w (digS js)) := by
  have := Digest_calls w ⟨js.toArray⟩ (by show js.toArray.size ≤ _; rw [List.size_toArray]; omega) hD
  simpa using this
theorem digOJ_calls (w : World) (js : Str) (h : js.length ≤ 40000) : Calls Tryz.prog 85 #[.string ⟨js.toArray⟩] w (StrPost1 w (digS js)) := by
  have := DigestOf_calls w ⟨js.toArray⟩ (by show js.toArray.size ≤ _; rw [List.size_toArray]; omega)
  simpa using this
theorem sumS_len (x : Itm) : (sumS x).length = 16 := digS_len16 _
def SmRel (w : World) (base g0 bi bk : Nat) (At : Option Addr) (nt ct : Nat) (ks : List Nat) (B : Nat → Str) (gk : Nat) (x i : Value) (wr : World) : Prop :=
  ∃ (k : Nat) (Ao : Option Addr) (cap : Nat), (k = 0 → Ao = none ∧ cap = 0) ∧ ks.length - k = gk ∧ k ≤ ks.length ∧ x = .slice Ao k cap ∧ i = .int .i64 (k : Int) ∧
    wr.ownsRow base 9 1 (.slice Ao k cap) k (strsV ((ks.take k).map B)) ∧ Blk wr g0 100 #[.map (some bi), .map (some bk), .slice At nt ct] ∧ Pure w wr ∧ base ≤ wr.heap.size

set_option maxRecDepth 100000 in
set_option maxHeartbeats 8000000 in
theorem tsum_step (w : World) (bi bk : Nat) (At : Option Addr) (nt ct : Nat) (l : List Itm) (hR : Right l) (q : Nat) (hq : q < l.length) (ks : List Nat) (B : Nat → Str) (hT : TreeIs w bi bk (.slice At nt ct) l) (hz : ∀ x ∈ l, ItB x) (hD : Deb w)
    (hkids : kidsS l l[q].id = ks.map (idAt2 l)) (hkn : ks.length ≤ 2000) (hB : ∀ k, (B k).length = 16)
    (hrec : ∀ k ∈ ks, ∀ W, Pure w W → Calls Tryz.prog 83 #[.agg #[.map (some bi), .map (some bk), .slice At nt ct], .string ⟨(idAt2 l k).toArray⟩] W (StrPost1 W (B k))) :
    Calls Tryz.prog 83 #[.agg #[.map (some bi), .map (some bk), .slice At nt ct], .string ⟨l[q].id.toArray⟩] w (StrPost1 w (fsJ l[q] (ks.map B))) := by
  obtain ⟨i0, hi0, hz0, hz1, hz2⟩ := info_parts info_str7
  have hxb := hz _ (List.getElem_mem hq)
  have hx := hxb.1
  have HXB := Lib.hid hxb
  have HREC := Lib.hid hrec
  have HBL := Lib.hid hB
  have hp := pure_alloc w (.cells #[.map (some bi), .map (some bk), .slice At nt ct] 100)
  obtain ⟨n, V, hM, hV⟩ := (hT.pure hp).kids
  have hV1 := hV l[q].id
  rw [hkids] at hV1
  have hlook := hM.lookup (e := 29) Tryz.underlying98 zero_strs l[q].id (by omega)
  obtain ⟨Ak, nk, ck, hk0⟩ := hV1.form
  rw [hk0] at hlook hV1
  have hnk : (ks.map (idAt2 l)).length = nk := hV1.lenS
  rw [List.length_map] at hnk
  subst hnk
  have HSV := Lib.hid hV1
  have HLI : Hid (∀ W, Pure w W → (Instr.lookup 97 (.map (some bi)) (.string ⟨l[q].id.toArray⟩) false).run Tryz.prog W = .ok (itA l[q]) W) := Lib.hid (fun W h => (hT.pure h).par hR hq (by omega))
  have HDB : Hid (∀ W, Pure w W → Deb W) := Lib.hid (fun W h => hD.pure h)
  have HB0 := Lib.hid (Blk.new w 100 #[.map (some bi), .map (some bk), .slice At nt ct])
  have HP := Lib.hid hp
  clear hrec hB hM hV hV1 hT hkids hk0 hxb hz hD hp hR
  generalize l[q] = x at *
  go_enter Tryz.func83, Tryz.ntmps83
  go_wp2_with fail
  clear hlook
  obtain ⟨g0, hg0⟩ : ∃ g0, g0 = w.heap.size := ⟨_, rfl⟩
  have hg1 := Nat.le_of_eq hg0
  have hg2 := Nat.le_of_eq hg0.symm
  rw [← hg0] at HB0 ⊢
  clear hg0
  have hsz := Nat.le_of_eq (World.size_alloc w (.cells #[.map (some bi), .map (some bk), .slice At nt ct] 100)).symm
  generalize (w.alloc (.cells #[.map (some bi), .map (some bk), .slice At nt ct] 100)) = W0 at *
  obtain ⟨base, hba⟩ : ∃ base, base = W0.heap.size := ⟨_, rfl⟩
  have hb1 := Nat.le_of_eq hba
  have hb2 := Nat.le_of_eq hba.symm
  clear hba
  go_loopg [5, 13] ks.length (fun gk x i wr => SmRel W0 base g0 bi bk At nt ct ks B gk x i wr)
  case atStart => exact ⟨0, none, 0, fun _ => ⟨rfl, rfl⟩, by omega, by omega, rfl, rfl, ⟨rfl, .inl ⟨rfl, rfl⟩⟩, HB0.out, Mod.refl _ _, hb1⟩
  case round =>
    clear HB0
    obtain ⟨k, Ao, cap, hk0, rfl, hk, rfl, rfl, hown, hB, hm, hsz2⟩ := hrel
    have HK0 := Lib.hid hk0
    clear hk0
    by_cases hlt : k < ks.length
    · have hkk : k < (ks.map (idAt2 l)).length := by simpa using hlt
      have S1 := HSV.out.pure hm
      obtain ⟨gr, off, rfl, hrow⟩ := S1.rowS (by omega)
      have q1 := hrow.cell (strsV_get (ks.map (idAt2 l)) k hkk)
      rw [List.getElem_map] at q1
      have HRK := Lib.hid (HREC.out ks[k] (List.getElem_mem hlt) wr (HP.out.trans hm))
      have HTK : Hid ((ks.take (k + 1)).map B = (ks.take k).map B ++ [B ks[k]]) := Lib.hid (by rw [List.take_succ_eq_append_getElem hlt, List.map_append]; rfl)
      have hB1 := HBL.out ks[k]
      clear hrow S1
      generalize idAt2 l ks[k] = kid at *
      generalize B ks[k] = sb at *
      have t0 := hB.cell 0; have t1 := hB.cell 1; have t2 := hB.cell 2; simp at t0 t1 t2
      go_wp2_with fail
      refine HRK.out.mono ?_
      rintro e w2 ⟨rfl, m2⟩
      have hownA := own_pure hown m2
      have HB2 := Lib.hid (hB.mod m2 _root_.id)
      have hm2 := hm.trans m2
      have HM2 := Lib.hid hm2
      have hob := own_block hownA
      have HOB := Lib.hid hob
      have hzz := m2.size
      have hg0l : g0 < wr.heap.size := hB.lt
      clear t0 t1 t2 q1 hown hB hm HRK m2 hob
      go_wp2_with (at_builtin; refine wpList_append_lies _ rfl _ _ _ rfl base 9 i0 _ 1 16 Tryz.underlying29 hi0 hz0 hz1 hz2 rfl (by omega) (.slice Ao k cap) k (strsV ((ks.take k).map B)) rfl (hownA.alloc _) ⟨w2.heap.size, 0, none⟩ 1 1 [.string ⟨sb.toArray⟩] rfl rfl (World.news_of_block (cs := #[.string ⟨sb.toArray⟩]) (t := 9) (fr := (0, 0)) (heap_alloc_new w2 _)) (by simp [Value.oneCell']) (by omega) (by simp [maxLen]; omega) (by omega) (by have := hm2.size; simp; omega) (w2.heap.size + 1) (by simp) ?_; intro g5 cap5 w5 hown5 hgrow hat hlt5)
      have hz5 := hgrow.size
      simp at hz5
      have hm5 := grown_mod (v := .slice Ao k cap) hgrow
      go_roundg (ks.length - (k + 1))
      case measure => omega
      case rel =>
        refine ⟨k + 1, some ⟨g5, 0, none⟩, cap5, fun h => absurd h (by omega), rfl, by omega, rfl, by simp, ?_, (HB2.out.alloc _).mod hm5 (fun h => by have := HOB.out _ h; omega), (HM2.out.alloc _).trans' hm5 (fun i h hl => by have := HOB.out _ h; omega), by omega⟩
        rw [HTK.out]
        simpa [strsV] using hown5
    · obtain rfl : k = ks.length := by omega
      rw [List.take_length] at hown
      have HOWN := Lib.hid hown
      have HB2 := Lib.hid hB
      have HM2 := Lib.hid hm
      have hg0l : g0 < wr.heap.size := hB.lt
      have hws := hm.size
      clear hown hB hm
      have HS := Lib.hid (sortS_calls2 wr (.slice Ao ks.length cap) ks.length base (ks.map B) HOWN.out (by simp; omega))
      have hol := own_block HOWN.out
      have HOL := Lib.hid hol
      clear hol
      go_wp2_with fail
      refine HS.out.mono ?_
      rintro e w3 ⟨rfl, own3, m3⟩
      have hB3 := HB2.out.mod m3 (fun h => by have := HOL.out _ h; omega)
      have HM3 : Hid (Pure w w3) := Lib.hid (HP.out.trans (HM2.out.trans' m3 (fun i h hl => by have := HOL.out _ h; omega)))
      have hli := HLI.out w3 HM3.out
      have m3z := m3.size
      have HSM := Lib.hid (sum_calls w3 x HXB.out (HDB.out _ HM3.out))
      have HO3 := Lib.hid own3
      unfold itA at hli HSM
      have t0 := hB3.cell 0; have t1 := hB3.cell 1; have t2 := hB3.cell 2; simp at t0 t1 t2
      clear HS HB2 HM2 HOWN own3 m3 hB3
      go_wp2_with fail
      refine HSM.out.mono ?_
      rintro e w4 ⟨rfl, m4⟩
      have own4 := own_pure HO3.out m4
      have HM4 : Hid (Pure w w4) := Lib.hid (HM3.out.trans m4)
      have hml : (ks.map B).mergeSort (fun x y => decide (x ≤ y)) = srtS (ks.map B) := rfl
      rw [hml] at own4
      have hkl1 : (srtS (ks.map B)).length ≤ ks.length := by simp [srtS]
      have hkl2 : ks.length ≤ (srtS (ks.map B)).length := by simp [srtS]
      have H16 : Hid (∀ y ∈ sumS x :: srtS (ks.map B), y.length = 16) := Lib.hid (by
        intro y hy
        rcases List.mem_cons.1 hy with rfl | hy
        · exact sumS_len x
        · have h2 : y ∈ ks.map B := by
            unfold srtS at hy
            exact (List.mergeSort_perm _ _).mem_iff.1 hy
          obtain ⟨k, _, rfl⟩ := List.mem_map.1 h2
          exact HBL.out k)
      have HDG : Hid (digS (Lib.join (sumS x :: srtS (ks.map B)) [32]) = fsJ x (ks.map B)) := Lib.hid rfl
      have hws4 := HM4.out.size
      have hob4 := own_block own4
      have HOB4 := Lib.hid hob4
      have hbw : base ≤ w4.heap.size := Nat.le_trans hsz2 (Nat.le_trans m3z m4.size)
      clear HLI HSM HO3 m4 t0 t1 t2 hli hml hob4 HM3
      generalize srtS (ks.map B) = ys at *
      generalize sumS x = sx at *
      obtain ⟨zs, hzs⟩ : ∃ zs, zs = sx :: ys := ⟨_, rfl⟩
      have HZS := Lib.hid hzs
      rw [← hzs] at H16 HDG
      have hzl : zs.length ≤ 2001 := by rw [hzs, List.length_cons]; omega
      have HJL := Lib.hid (join_small H16.out hzl)
      clear hzs
      have O1 := World.ownsRow_lit (base := w4.heap.size) (e := 9) (size := 1) w4 #[.string ⟨sx.toArray⟩] 1 (by simp) (by simp [maxLen]) rfl
      have own5 := own4.alloc (.cells #[.string ⟨sx.toArray⟩] 9)
      have P5 := HM4.out.alloc (.cells #[.string ⟨sx.toArray⟩] 9)
      by_cases hk0 : ks.length = 0
      · obtain ⟨rfl, rfl⟩ := HK0.out hk0
        have hy0 : ys = [] := List.eq_nil_of_length_eq_zero (by omega)
        have OO : (w4.alloc (.cells #[.string ⟨sx.toArray⟩] 9)).ownsRow w4.heap.size 9 1 (.slice (some ⟨w4.heap.size, 0, none⟩) 1 1) 1 (strsV zs) := by rw [HZS.out, hy0]; simpa [strsV] using O1
        have PP := P5
        clear hy0
        rw [hk0]
        have hk1 := Nat.le_of_eq hk0
        clear hk0
        go_wp2_with (at_builtin; refine wpList_append_own_none rfl _ _ _ rfl w4.heap.size 9 i0 1 Tryz.underlying29 hi0 (.slice (some ⟨w4.heap.size, 0, none⟩) 1 1) 1 _ rfl O1 rfl ?_)
        clear O1 own5 P5
        have HJ := Lib.hid (join_calls _ _ zs [32] (Sl.of_own OO) (by omega) (by have := HJL.out; omega))
        have HP6 := Lib.hid PP
        clear OO PP own4
        generalize Lib.join zs [32] = js at *
        go_wp2_with fail
        refine HJ.out.mono ?_
        rintro e w7 ⟨rfl, m7⟩
        have P7 := HP6.out.trans m7
        have HDD := Lib.hid (digJ_calls w7 js HJL.out (HDB.out _ P7))
        rw [HDG.out] at HDD
        clear HJ HP6 m7 H16
        go_wp2_with fail
        refine HDD.out.mono ?_
        rintro e w8 ⟨rfl, m8⟩
        have P8 := P7.trans m8
        clear HDD
        go_wp2_with fail
        go_ret
        exact ⟨rfl, P8⟩
      · have hbl : 0 < ys.length := by omega
        obtain ⟨g2, c2, hv2, hg2a, hg2b, hc2, hc22⟩ := own_form own5 hbl
        injection hv2 with hv2 _ hv3
        subst hv2 hv3
        have hnews := World.ownsRow.cells own5 (g := g2) rfl
        have hsl2 : (strsV ys).length = ys.length * 1 := by rw [strsV_len]; omega
        have hone := strsV_one ys
        have hwz := Nat.le_of_eq (World.size_alloc w4 (.cells #[.string ⟨sx.toArray⟩] 9)).symm
        go_wp2_with (at_builtin; (refine wpList_append_own_at _ rfl _ _ _ rfl w4.heap.size 9 i0 _ 1 16 Tryz.underlying29 hi0 hz0 hz1 hz2 rfl (by omega) (.slice (some ⟨w4.heap.size, 0, none⟩) 1 1) 1 _ rfl O1 ⟨g2, 0, none⟩ ys.length _ _ rfl hsl2 hnews hone (by simp [maxLen]; omega) (by omega) (by omega) ?_); intro v6 w6 hown6 hgrow hnil hat; obtain ⟨A6, n6, c6, rfl⟩ := (Sl.of_own hown6).form; clear hnil)
        have hm6 := grown_mod (v := .slice (some ⟨w4.heap.size, 0, none⟩) 1 1) hgrow
        have PP : Pure w w6 := P5.trans' hm6 (fun i h hl => by have h3 : w4.heap.size = i := (by injection h); omega)
        have OO : w6.ownsRow w4.heap.size 9 1 (.slice A6 n6 c6) (1 + ys.length) (strsV zs) := by rw [HZS.out]; simpa [strsV] using hown6
        clear hown6 hgrow hm6 hnews hsl2 hone O1 own5 P5
        have HJ := Lib.hid (join_calls _ _ zs [32] (Sl.of_own OO) (by omega) (by have := HJL.out; omega))
        have HP6 := Lib.hid PP
        clear OO PP own4
        generalize Lib.join zs [32] = js at *
        go_wp2_with fail
        refine HJ.out.mono ?_
        rintro e w7 ⟨rfl, m7⟩
        have P7 := HP6.out.trans m7
        have HDD := Lib.hid (digJ_calls w7 js HJL.out (HDB.out _ P7))
        rw [HDG.out] at HDD
        clear HJ HP6 m7 H16
        go_wp2_with fail
        refine HDD.out.mono ?_
        rintro e w8 ⟨rfl, m8⟩
        have P8 := P7.trans m8
        clear HDD
        go_wp2_with fail
        go_ret
        exact ⟨rfl, P8⟩

theorem tsum_calls (l : List Itm) (hR : Right l) (hz : ∀ x ∈ l, ItB x) (bi bk : Nat) (At : Option Addr) (nt ct : Nat) : ∀ (m i : Nat) (hi : i < l.length), short l (m + 1) i → ∀ w, Deb w → TreeIs w bi bk (.slice At nt ct) l →
    Calls Tryz.prog 83 #[.agg #[.map (some bi), .map (some bk), .slice At nt ct], .string ⟨l[i].id.toArray⟩] w (StrPost1 w (fsI l m i)) := by
  intro m
  induction m with
  | zero =>
    intro i hi hs w hD hT
    have hk := short_nokid hs
    have h := tsum_step w bi bk At nt ct l hR i hi [] (fun _ => List.replicate 16 0) hT hz hD (by rw [hR.kidsS_eq hi, hk]) (by simp) (fun _ => by simp) (fun k h => absurd h (by simp))
    have e : fsI l 0 i = fsJ l[i] (([] : List Nat).map fun _ => List.replicate 16 0) := by simp [fsI, itmAt_eq hi]
    rw [e]
    exact h
  | succ m ih =>
    intro i hi hs w hD hT
    have e : fsI l (m + 1) i = fsJ l[i] ((kidsI l i).map (fsI l m)) := by simp [fsI, itmAt_eq hi]
    rw [e]
    refine tsum_step w bi bk At nt ct l hR i hi (kidsI l i) (fsI l m) hT hz hD (hR.kidsS_eq hi) ?_ (fun k => fsI_len l m k) (fun k hk W hW => ?_)
    · have h1 : (kidsI l i).length ≤ l.length := by
        unfold kidsI
        exact Nat.le_trans (List.length_filter_le _ _) (by simp)
      have h2 := hR.len
      omega
    · have hkl := (mem_kidsI.1 hk).1
      have := ih k hkl (short_kid hs hk) W (hD.pure hW) (hT.pure hW)
      rw [idAt2_eq hkl]
      exact this

end Go.Proofs.YtglekmflcaacjaaGreatDoor

/- FamilySum, Holders of package intake. -/
namespace Go.Proofs.YtglekmflcaacjaaGreatDoor
set_option linter.unusedVariables false
set_option linter.unusedSimpArgs false
open Go.RowKit

/-- The error of the sum of a family. -/
def topE (l : List Itm) (id : Str) : Int := if fndE l id ≠ 0 then fndE l id else if (itmAt l (idxId l id)).par = [] then 0 else 16
def FsPost (w : World) (l : List Itm) (id : Str) (e : Ending) (w' : World) : Prop :=
  ∃ s : Str, e = .returned (.tuple #[.string ⟨s.toArray⟩, .int .i64 (topE l id)]) ∧ (topE l id ≠ 0 → s = []) ∧ (topE l id = 0 → s = fsI l 4 (idxId l id)) ∧ Pure w w'
theorem itmZ_eq : itZ = itA ⟨[], [], 0, [], 0, [], []⟩ := rfl
/-- What the map of a found tree gives at the id. -/
theorem look_found {w : World} {l : List Itm} {id : Str} {m0 m1 : Option Nat} {At : Option Addr} {nt ct : Nat} (hid : id.length ≤ 30000)
    (h0 : itsE itemE l = 0 → ∃ bi bk, m0 = some bi ∧ m1 = some bk ∧ TreeIs w bi bk (.slice At nt ct) l) (hn : itsE itemE l ≠ 0 → m0 = none ∧ m1 = none) :
    ∃ x : Itm, (∀ W, Pure w W → (Instr.lookup 97 (.map m0) (.string ⟨id.toArray⟩) false).run Tryz.prog W = .ok (itA x) W) ∧ (fndE l id ≠ 0 → x.par = []) ∧ (fndE l id = 0 → x = itmAt l (idxId l id)) := by
  by_cases hi : itsE itemE l = 0
  · obtain ⟨bi, bk, rfl, rfl, hT⟩ := h0 hi
    cases hp : plc l id with
    | none =>
      refine ⟨⟨[], [], 0, [], 0, [], []⟩, fun W h => ?_, fun _ => rfl, fun h => ?_⟩
      · have := (hT.pure h).items.lookup Tryz.underlying97 zero_item id (by omega)
        unfold byF at this
        rw [fnd_none hp] at this
        exact this
      · unfold fndE at h
        rw [if_neg (by rw [hi]; simp), hp] at h
        simp at h
    | some i =>
      obtain ⟨hil, hie⟩ := plc_lt _ _ _ hp
      refine ⟨l[i], fun W h => ?_, fun h => ?_, fun _ => ?_⟩
      · have := (hT.pure h).items.lookup Tryz.underlying97 zero_item id (by omega)
        unfold byF at this
        rw [fnd_plc hp hil] at this
        exact this
      · exfalso
        refine h ?_
        unfold fndE
        rw [if_neg (by rw [hi]; simp), hp]
        simp
      · unfold idxId
        rw [hp, Option.getD_some, itmAt_eq hil]
  · obtain ⟨rfl, rfl⟩ := hn hi
    refine ⟨⟨[], [], 0, [], 0, [], []⟩, fun W h => ?_, fun _ => rfl, fun h => ?_⟩
    · have h1 := Maps.look_nil (w := W) (P := Tryz.prog) false strKey Tryz.underlying97 (zero_item W) (keyS id (by omega))
      simp only [Bool.false_eq_true, if_false] at h1
      exact h1
    · unfold fndE at h
      rw [if_pos hi] at h
      exact absurd h hi

set_option maxRecDepth 100000 in
set_option maxHeartbeats 8000000 in
theorem familySum_calls (w : World) (v : Value) (l : List Itm) (id : Str) (hv : Its w v l) (hz : ∀ x ∈ l, ItB x) (hl : l.length ≤ 2000) (hE : Env w) (hD : Deb w) (hid : id.length ≤ 30000) : Calls Tryz.prog 38 #[v, .string ⟨id.toArray⟩] w (FsPost w l id) := by
  have HFD := Lib.hid (found_calls w v l id hv hz hl hE hid)
  have HTS := Lib.hid (fun hR bi bk At nt ct => tsum_calls l hR hz bi bk At nt ct 4)
  have HDB : Hid (∀ W, Pure w W → Deb W) := Lib.hid (fun W h => hD.pure h)
  have hfld : ∀ (a0 a1 a2 a3 a4 a5 a6 : Value) (W : World), Sem.run Tryz.prog (Instr.field 95 (.agg #[a0, a1, a2, a3, a4, a5, a6]) 5) W = .ok a5 W := fun _ _ _ _ _ _ _ _ => rfl
  obtain ⟨A, n, c, rfl⟩ := Sl.form hv
  unfold FoundPost at HFD
  have HFZ := Lib.hid (fun h => fndE_zero (l := l) (id := id) h)
  have HLF := Lib.hid (fun w1 m0 m1 At nt ct h1 h2 => look_found (w := w1) (l := l) (id := id) (m0 := m0) (m1 := m1) (At := At) (nt := nt) (ct := ct) hid h1 h2)
  have HTE : Hid (topE l id = if fndE l id ≠ 0 then fndE l id else if (itmAt l (idxId l id)).par = [] then 0 else 16) := Lib.hid rfl
  obtain ⟨e1, he1⟩ : ∃ e1, fndE l id = e1 := ⟨_, rfl⟩
  rw [he1] at HFD HFZ HLF HTE
  have HE1 := Lib.hid he1
  clear hv hz hE hD he1
  go_enter Tryz.func38, Tryz.ntmps38
  go_wp2_with fail
  refine HFD.out.mono ?_
  rintro e w1 ⟨m0, m1, At, nt, ct, rfl, hf, hmz, hm1⟩
  obtain ⟨x, hlk, hx1, hx2⟩ := HLF.out w1 m0 m1 At nt ct hf hmz
  have HF := Lib.hid hf
  have HX1 := Lib.hid hx1
  have HX2 := Lib.hid hx2
  have hlook := hlk _ (pure_alloc w1 (.cells #[.map m0, .map m1, .slice At nt ct] 100))
  have HM6 := Lib.hid (hm1.alloc (.cells #[.map m0, .map m1, .slice At nt ct] 100))
  obtain ⟨bd, hbd⟩ : ∃ bd, x.par.isEmpty = bd := ⟨_, rfl⟩
  have HBD := Lib.hid hbd
  obtain ⟨e2, he2⟩ : ∃ e2 : Int, (if bd = true then 0 else 16) = e2 := ⟨_, rfl⟩
  have HE2 := Lib.hid he2
  have HWH : Hid (∀ W, Calls Tryz.prog 49 #[.bool (!bd), .int .i64 16] W fun r w' => r = .returned (.int .i64 e2) ∧ W = w') := Lib.hid (fun W => by
    subst he2
    cases bd
    · exact when_t 16 W
    · exact when_f 16 W)
  obtain ⟨er, her⟩ : ∃ er, firstErr [e1, e2] = er := ⟨_, rfl⟩
  have HER := Lib.hid her
  have HFE := Lib.hid (fun W g c hb => firstE_calls W g c [e1, e2] hb (by simp))
  rw [her] at HFE
  unfold itA at hlook
  clear HFD hf hmz hlk hx1 hx2 hm1 HLF he2 her
  go_upto_region 2 with (fail)
  have hB6 := Blk.new w1 100 #[.map m0, .map m1, .slice At nt ct]
  have HP6 := Lib.hid (pure_alloc w1 (.cells #[.map m0, .map m1, .slice At nt ct] 100))
  generalize (w1.alloc (.cells #[.map m0, .map m1, .slice At nt ct] 100)) = W6 at *
  generalize w1.heap.size = g6 at *
  have HB6 := Lib.hid hB6
  have t0 := hB6.cell 0; have t1 := hB6.cell 1; have t2 := hB6.cell 2; simp at t0 t1 t2
  clear hB6
  go_wp2_with fail
  refine (HWH.out _).mono ?_
  rintro e w2 ⟨rfl, rfl⟩
  clear hlook hbd
  have HFC := Lib.hid (HFE.out _ _ 2 ((Blk.new W6 32 #[.int .i64 e1, .int .i64 e2]).row0))
  clear HWH HFE
  go_wp2_with fail
  refine HFC.out.mono ?_
  rintro e w3 ⟨rfl, m3⟩
  have hm3 := (pure_alloc W6 (.cells #[.int .i64 e1, .int .i64 e2] 32)).trans m3
  have HM3 := Lib.hid hm3
  have hB3 := HB6.out.mod hm3 _root_.id
  clear HFC m3 hm3 t0 t1 t2
  have hTOP : topE l id = er := by
    rw [HTE.out, ← HER.out]
    by_cases h1 : e1 = 0
    · have hx := HX2.out h1
      rw [if_neg (by simpa using h1), h1]
      have hb := HBD.out
      have he2 := HE2.out
      rw [hx] at hb
      cases bd
      · rw [if_neg (fun h => by rw [h] at hb; cases hb)]
        simp at he2
        simp [firstErr, ← he2]
      · rw [if_pos (by simpa using hb)]
        simp at he2
        simp [firstErr, ← he2]
    · rw [if_pos h1]
      simp [firstErr, h1]
  have HTOP := Lib.hid hTOP
  clear hTOP
  by_cases h0 : er = 0
  · subst h0
    have h1 : e1 = 0 := by
      have := HER.out
      by_cases h : e1 = 0
      · exact h
      · simp [firstErr, h] at this
    obtain ⟨hit, hi, hie⟩ := HFZ.out h1
    obtain ⟨bi, bk, rfl, rfl, hT⟩ := HF.out hit
    have hR := right_items hit
    have hC := HTS.out hR bi bk At nt ct (idxId l id) hi (hR.short _) w3 (HDB.out _ (HM6.out.trans HM3.out)) (hT.pure (HP6.out.trans HM3.out))
    rw [hie] at hC
    have HC := Lib.hid hC
    clear h1 hit hi hie hT hR hC HF HFZ HTS HB6 HER HE2 HBD HX1 HX2 HTE HE1
    have t0 := hB3.cell 0; have t1 := hB3.cell 1; have t2 := hB3.cell 2; simp at t0 t1 t2
    clear hB3
    go_wp2_with fail
    refine HC.out.mono ?_
    rintro e w4 ⟨rfl, m4⟩
    clear HC
    go_wp2_with fail
    refine bodyPost_ret (v := .tuple #[.string ⟨(fsI l 4 (idxId l id)).toArray⟩, .int .i64 0]) (by simp [results, Tryz.results38, go_sem]) rfl ?_
    exact ⟨_, by rw [HTOP.out], fun h => absurd HTOP.out h, fun _ => rfl, HM6.out.trans (HM3.out.trans m4)⟩
  · have h0' : (er != 0) = true := by simpa using h0
    have H0 := Lib.hid h0
    clear h0 hB3
    go_wp2_with fail
    refine bodyPost_ret (v := .tuple #[.string ⟨#[]⟩, .int .i64 er]) (by simp [results, Tryz.results38, go_sem]) rfl ?_
    exact ⟨[], by rw [HTOP.out], fun _ => rfl, fun h => absurd (HTOP.out.symm.trans h) H0.out, HM6.out.trans HM3.out⟩

/-- The custodians of the tops whose family has the sum s. -/
def hldS (l : List Itm) (s : Str) (ts : List Nat) : List Str := (ts.filter fun t => decide (fsI l 4 t = s)).map fun t => (itmAt l t).cust
def HdPost (w : World) (l : List Itm) (id : Str) (e : Ending) (w' : World) : Prop :=
  ∃ (A : Option Addr) (n c : Nat), e = .returned (.tuple #[.slice A n c, .int .i64 (topE l id)]) ∧ (topE l id ≠ 0 → A = none ∧ n = 0 ∧ c = 0) ∧ (topE l id = 0 → Sl w' 9 1 (.slice A n c) (strsV (srtS (uniq (hldS l (fsI l 4 (idxId l id)) (topsI l)))))) ∧ Pure w w'
theorem hldS_take {l : List Itm} {s : Str} {ts : List Nat} {k : Nat} (h : k < ts.length) : hldS l s (ts.take (k + 1)) = if fsI l 4 ts[k] = s then hldS l s (ts.take k) ++ [(itmAt l ts[k]).cust] else hldS l s (ts.take k) := by
  unfold hldS
  rw [List.take_succ_eq_append_getElem h, List.filter_append]
  by_cases hm : fsI l 4 ts[k] = s
  · rw [if_pos hm]
    simp [hm]
  · rw [if_neg hm]
    simp [hm]
theorem topE_zero {l : List Itm} {id : Str} (h : topE l id = 0) : fndE l id = 0 ∧ (itmAt l (idxId l id)).par = [] := by
  unfold topE at h
  split at h
  · rename_i h1; exact absurd h h1
  · rename_i h1
    split at h
    · rename_i h2; exact ⟨by simpa using h1, h2⟩
    · omega
def HdRel (w : World) (bm g0 bi bk : Nat) (At : Option Addr) (nt ct : Nat) (l : List Itm) (s : Str) (gk : Nat) (i : Value) (wr : World) : Prop :=
  ∃ (k m : Nat), (topsI l).length - k = gk ∧ k ≤ (topsI l).length ∧ i = .int .i64 (k : Int) ∧ m ≤ k ∧ SetS wr bm m (hldS l s ((topsI l).take k)) ∧
    Blk wr g0 100 #[.map (some bi), .map (some bk), .slice At nt ct] ∧ Pure w wr

set_option maxRecDepth 100000 in
set_option maxHeartbeats 8000000 in
theorem holders_calls (w : World) (v : Value) (l : List Itm) (id : Str) (hv : Its w v l) (hz : ∀ x ∈ l, ItB x) (hl : l.length ≤ 2000) (hE : Env w) (hD : Deb w) (hid : id.length ≤ 30000) : Calls Tryz.prog 39 #[v, .string ⟨id.toArray⟩] w (HdPost w l id) := by
  have HFS := Lib.hid (familySum_calls w v l id hv hz hl hE hD hid)
  have HNT := Lib.hid (fun W (h : Pure w W) hd => newTree_calls W v l (hv.pure h) hz hd hl)
  have HTS := Lib.hid (fun hR bi bk At nt ct => tsum_calls l hR hz bi bk At nt ct 4)
  have HDB : Hid (∀ W, Pure w W → Deb W) := Lib.hid (fun W h => hD.pure h)
  have HZ := Lib.hid hz
  have HTZ := Lib.hid (fun h => topE_zero (l := l) (id := id) h)
  have HFZ := Lib.hid (fun h => fndE_zero (l := l) (id := id) h)
  have hfld : ∀ (a0 a1 a2 a3 a4 a5 a6 : Value) (W : World), Sem.run Tryz.prog (Instr.field 95 (.agg #[a0, a1, a2, a3, a4, a5, a6]) 1) W = .ok a1 W := fun _ _ _ _ _ _ _ _ => rfl
  have hmm := @run_makeMap Tryz.prog
  obtain ⟨A, n, c, rfl⟩ := Sl.form hv
  unfold FsPost at HFS
  obtain ⟨er, her⟩ : ∃ er, topE l id = er := ⟨_, rfl⟩
  rw [her] at HFS HTZ
  have HER := Lib.hid her
  clear hv hz hE hD her
  go_enter Tryz.func39, Tryz.ntmps39
  go_wp2_with fail
  refine HFS.out.mono ?_
  rintro e w1 ⟨s, rfl, hs1, hs2, m1⟩
  have HS2 := Lib.hid hs2
  clear HFS hs1 hs2
  by_cases h0 : er = 0
  · subst h0
    obtain ⟨hf0, _⟩ := HTZ.out rfl
    obtain ⟨hit, _, _⟩ := HFZ.out hf0
    have HR := Lib.hid (right_items hit)
    have HDS := Lib.hid HR.out.distinct
    obtain rfl := HS2.out rfl
    clear HTZ HFZ HS2 hf0 hit
    go_wp2_with fail
    refine (HNT.out _ m1 HDS.out).mono ?_
    rintro e w2 ⟨bi, bk, vt, rfl, hT, m2⟩
    have m3 := m1.trans m2
    obtain ⟨At, nt, ct, rfl⟩ := hT.tops.form
    have hnt : (topsS l).length = nt := hT.tops.lenS
    rw [HR.out.topsS_eq, List.length_map] at hnt
    subst hnt
    have htl : (topsI l).length ≤ 2000 := by
      unfold topsI
      exact Nat.le_trans (List.length_filter_le _ _) (by simp; omega)
    have hHB := (Blk.new w2 100 #[.map (some bi), .map (some bk), .slice At (topsI l).length ct]).alloc (.map #[] 0)
    have hHS := SetS.made (w2.alloc (.cells #[.map (some bi), .map (some bk), .slice At (topsI l).length ct] 100))
    have hHP : Pure w2 ((w2.alloc (.cells #[.map (some bi), .map (some bk), .slice At (topsI l).length ct] 100)).alloc (.map #[] 0)) := (pure_alloc _ _).trans (pure_alloc _ _)
    rw [World.size_alloc] at hHS
    have HB0 := Lib.hid hHB
    have HS0 := Lib.hid hHS
    have HP0 := Lib.hid hHP
    have HM := Lib.hid m3
    have HLI : Hid (∀ W, Pure w2 W → ∀ q (hq : q < l.length), (Instr.lookup 97 (.map (some bi)) (.string ⟨l[q].id.toArray⟩) false).run Tryz.prog W = .ok (itA l[q]) W) := Lib.hid (fun W h q hq => (hT.pure h).par HR.out hq (by have := (HZ.out _ (List.getElem_mem hq)).1; omega))
    have HSM : Hid (∀ W, Pure w2 W → ∀ q (hq : q < l.length), _) := Lib.hid (fun W h q hq => HTS.out HR.out bi bk At (topsI l).length ct q hq (HR.out.short q) W (HDB.out _ (m3.trans h)) (hT.pure h))
    have HTT : Hid (∀ W, Pure w2 W → Sl W 9 1 (.slice At (topsI l).length ct) (strsV (topsS l))) := Lib.hid (fun W h => hT.tops.pure h)
    clear HNT HTS HDB m1 m2 m3 hT hHB hHS hHP
    generalize hss : fsI l 4 (idxId l id) = s at *
    have HSS := Lib.hid hss
    clear hss
    go_wp2_with fail
    clear hmm
    obtain ⟨g0, hg0⟩ : ∃ g0, g0 = w2.heap.size := ⟨_, rfl⟩
    have hg1 := Nat.le_of_eq hg0
    have hg2 := Nat.le_of_eq hg0.symm
    rw [← hg0] at HB0 HS0 ⊢
    clear hg0
    generalize ((w2.alloc (.cells #[.map (some bi), .map (some bk), .slice At (topsI l).length ct] 100)).alloc (.map #[] 0)) = W at *
    go_loopg [27] (topsI l).length (fun gk i wr => HdRel w2 (g0 + 1) g0 bi bk At (topsI l).length ct l s gk i wr)
    case atStart => exact ⟨0, 0, by omega, by omega, rfl, by omega, by simpa [hldS] using HS0.out, HB0.out, HP0.out⟩
    case round =>
      clear HB0 HS0 HP0 W
      obtain ⟨k, m, rfl, hk, rfl, hmk, hset, hB, hm⟩ := hrel
      by_cases hlt : k < (topsI l).length
      · have S1 := HTT.out wr hm
        have hkl : k < (topsS l).length := by rw [HR.out.topsS_eq, List.length_map]; exact hlt
        obtain ⟨gr, off, rfl, hrow⟩ := S1.rowS (by omega)
        have q1 := hrow.cell (strsV_get (topsS l) k hkl)
        have htk : (topsI l)[k] < l.length := (mem_topsI.1 (List.getElem_mem hlt)).1
        have hte : (topsS l)[k] = l[(topsI l)[k]].id := by
          have := HR.out.topsS_eq
          simp only [this, List.getElem_map]
          exact idAt2_eq htk
        rw [hte] at q1
        have HCB := Lib.hid (HSM.out wr hm _ htk)
        have HTK := Lib.hid (hldS_take (l := l) (s := s) hlt)
        have HIT : Hid (itmAt l (topsI l)[k] = l[(topsI l)[k]]) := Lib.hid (itmAt_eq htk)
        have HLK : Hid (∀ W, Pure w2 W → (Instr.lookup 97 (.map (some bi)) (.string ⟨l[(topsI l)[k]].id.toArray⟩) false).run Tryz.prog W = .ok (itA l[(topsI l)[k]]) W) := Lib.hid (fun W h => HLI.out W h _ htk)
        have hcl := (HZ.out _ (List.getElem_mem htk)).2.1
        rw [HIT.out] at HTK
        clear hrow hkl S1 hte HIT
        generalize l[(topsI l)[k]] = x at *
        generalize fsI l 4 (topsI l)[k] = sk at *
        have HB1 := Lib.hid hB
        have t0 := hB.cell 0; have t1 := hB.cell 1; have t2 := hB.cell 2; simp at t0 t1 t2
        clear hB
        go_wp2_with fail
        refine HCB.out.mono ?_
        rintro e w3 ⟨rfl, m3⟩
        have hB3 := HB1.out.mod m3 _root_.id
        have HB3 := Lib.hid hB3
        have hset3 := SetS.pure hset m3
        have hm3 := hm.trans m3
        have hlook := HLK.out w3 hm3
        have HM3 := Lib.hid hm3
        unfold itA at hlook
        clear HCB HB1 hset hm m3 hm3 t0 t1 t2 q1
        obtain ⟨bd, hbd⟩ : ∃ bd, (sk == s) = bd := ⟨_, rfl⟩
        have HBD : Hid (sk = s ↔ bd = true) := Lib.hid (by rw [← hbd]; simp)
        cases bd
        · have HN : Hid (hldS l s ((topsI l).take (k + 1)) = hldS l s ((topsI l).take k)) := Lib.hid (by rw [HTK.out, if_neg (fun h => by have := HBD.out.1 h; cases this)])
          have HS3 := Lib.hid hset3
          clear HTK HBD hset3 hB3 hlook
          go_wp2_with fail
          go_roundg ((topsI l).length - (k + 1))
          case measure => omega
          case rel => exact ⟨k + 1, m, rfl, by omega, by simp, by omega, by rw [HN.out]; exact HS3.out, HB3.out, HM3.out⟩
        · have HN : Hid (hldS l s ((topsI l).take (k + 1)) = hldS l s ((topsI l).take k) ++ [x.cust]) := Lib.hid (by rw [HTK.out, if_pos (HBD.out.2 rfl)])
          have hbml : g0 + 1 < w3.heap.size := hset3.lt
          obtain ⟨w4, hrun, hset4, hm4⟩ := hset3.add Tryz.underlying110 (by omega) x.cust (by omega)
          have HS4 := Lib.hid hset4
          have HB4 := Lib.hid (HB3.out.mod hm4 (by omega))
          have HM4 := Lib.hid (HM3.out.trans' hm4 (fun i hi hl => by omega))
          have t0 := hB3.cell 0; have t1 := hB3.cell 1; have t2 := hB3.cell 2; simp at t0 t1 t2
          clear HTK HBD hset3 hB3 hset4 hm4
          go_wp2_with fail
          go_roundg ((topsI l).length - (k + 1))
          case measure => omega
          case rel => exact ⟨k + 1, m + 1, rfl, by omega, by simp, by omega, by rw [HN.out]; exact HS4.out, HB4.out, HM4.out⟩
      · obtain rfl : k = (topsI l).length := by omega
        rw [List.take_length] at hset
        have HKS := Lib.hid (mapsKeysSB_calls (some (g0 + 1)) wr)
        have HSO := Lib.hid (sortedSB_calls (g0 + 1) m (setF (hldS l s (topsI l))) wr hset (by omega) (uniq (hldS l s (topsI l))) (nodup_uniq _) (fun x => by
          rw [mem_uniq]
          unfold setF
          split
          · rename_i h; simp [h]
          · rename_i h; simp [h]))
        have HM1 := Lib.hid hm
        clear hset hB hm HLI HSM HTT
        go_wp2_with fail
        refine HKS.out.mono ?_
        rintro e w3 ⟨rfl, rfl⟩
        clear HKS
        go_wp2_with fail
        refine HSO.out.mono ?_
        rintro e w4 ⟨v4, rfl, own4, m4⟩
        have S4 := Sl.of_own own4
        obtain ⟨A4, n4, c4, rfl⟩ := S4.form
        have HS4 := Lib.hid S4
        have HM4 := Lib.hid (HM.out.trans ((HM1.out.alloc _).trans m4))
        clear HSO own4 m4 S4
        go_wp2_with fail
        refine bodyPost_ret (v := .tuple #[.slice A4 n4 c4, .int .i64 0]) (by simp [results, Tryz.results39, go_sem]) rfl ?_
        refine ⟨_, _, _, by rw [HER.out], fun h => absurd HER.out h, fun _ => ?_, HM4.out⟩
        rw [HSS.out]
        exact HS4.out
  · have h0' : (er != 0) = true := by simpa using h0
    have H0 := Lib.hid h0
    clear HNT HTS HTZ HFZ HS2 h0
    go_wp2_with fail
    refine bodyPost_ret (v := .tuple #[.slice none 0 0, .int .i64 er]) (by simp [results, Tryz.results39, go_sem]) rfl ?_
    exact ⟨none, 0, 0, by rw [HER.out], fun _ => ⟨rfl, rfl, rfl⟩, fun h => absurd (HER.out.symm.trans h) H0.out, m1⟩

end Go.Proofs.YtglekmflcaacjaaGreatDoor

/- The sum of a family: FamilySumOf of the reference. -/
namespace Go.Proofs.YtglekmflcaacjaaGreatDoor
set_option linter.unusedVariables false
set_option linter.unusedSimpArgs false
open Go.RowKit

def SrRel (w : World) (base : Nat) (ks : List Nat) (B : Nat → Str) (gk : Nat) (x i : Value) (wr : World) : Prop :=
  ∃ (k : Nat) (Ao : Option Addr) (cap : Nat), (k = 0 → Ao = none ∧ cap = 0) ∧ ks.length - k = gk ∧ k ≤ ks.length ∧ x = .slice Ao k cap ∧ i = .int .i64 (k : Int) ∧
    wr.ownsRow base 9 1 (.slice Ao k cap) k (strsV ((ks.take k).map B)) ∧ Pure w wr ∧ base ≤ wr.heap.size

set_option maxRecDepth 100000 in
set_option maxHeartbeats 8000000 in
theorem rsum_step (w : World) (v : Value) (l : List Itm) (hR : Right l) (hl : l.length ≤ 2000) (q : Nat) (hq : q < l.length) (ks : List Nat) (B : Nat → Str) (hv : Its w v l) (hz : ∀ x ∈ l, ItB x) (hkd : ∀ x ∈ l, 1 ≤ x.kind ∧ x.kind ≤ 4)
    (hkids : kidsS l l[q].id = ks.map (idAt2 l)) (hkn : ks.length ≤ 2000) (hB : ∀ k, (B k).length = 16)
    (hrec : ∀ k ∈ ks, ∀ W, Pure w W → Calls Tryz.prog 42 #[v, .string ⟨(idAt2 l k).toArray⟩] W (StrPost1 W (B k))) :
    Calls Tryz.prog 42 #[v, .string ⟨l[q].id.toArray⟩] w (StrPost1 w (fsJ l[q] (ks.map B))) := by
  obtain ⟨i0, hi0, hz0, hz1, hz2⟩ := info_parts info_str7
  have HREC := Lib.hid hrec
  have HBL := Lib.hid hB
  have HCH := Lib.hid (childrenOf_calls w v l l[q].id hv hl (hR.key _ (List.getElem_mem hq)))
  rw [hkids] at HCH
  have HPL : Hid (∀ W, Pure w W → Calls Tryz.prog 69 #[v, .string ⟨l[q].id.toArray⟩] W (IntPost W (q : Int))) := Lib.hid (fun W h => by
    have := place_calls W v l l[q].id (hv.pure h)
    unfold plcZ at this
    rw [plc_self hR.distinct q hq] at this
    exact this)
  have HSU : Hid (∀ W, Calls Tryz.prog 87 #[itA l[q]] W (StrPost1 W (sumS l[q]))) := Lib.hid (fun W => SumOf_calls W l[q] (hz _ (List.getElem_mem hq)) (hkd _ (List.getElem_mem hq)).1 (hkd _ (List.getElem_mem hq)).2)
  obtain ⟨A, n, c, rfl, hc1, hc2, hl2, hr⟩ := hv
  have hln : l.length = n := by rw [itV_len] at hl2; omega
  subst hln
  obtain ⟨g, off, rfl, hrow⟩ := hr (by omega)
  have HIC := Lib.hid (fun W (h : Pure w W) => item_cells (hrow.mod h _root_.id) hq)
  have i1 : (0 : Int) ≤ (q : Int) := by omega
  have i2 : (q : Int) < (l.length : Int) := by omega
  clear hrec hB hl2 hr hrow hkids hz hkd hR
  generalize l[q] = x at *
  go_enter Tryz.func42, Tryz.ntmps42
  go_wp2_with fail
  refine HCH.out.mono ?_
  rintro e w1 ⟨Ak, nk, ck, rfl, hS1, m1⟩
  have hnk : (ks.map (idAt2 l)).length = nk := hS1.lenS
  rw [List.length_map] at hnk
  subst hnk
  have HSV := Lib.hid hS1
  have HP := Lib.hid m1
  clear HCH hS1 m1
  go_wp2_with fail
  obtain ⟨base, hba⟩ : ∃ base, base = w1.heap.size := ⟨_, rfl⟩
  have hb1 := Nat.le_of_eq hba
  have hb2 := Nat.le_of_eq hba.symm
  clear hba
  go_loopg [5, 12] ks.length (fun gk x i wr => SrRel w1 base ks B gk x i wr)
  case atStart => exact ⟨0, none, 0, fun _ => ⟨rfl, rfl⟩, by omega, by omega, rfl, rfl, ⟨rfl, .inl ⟨rfl, rfl⟩⟩, Mod.refl _ _, hb1⟩
  case round =>
    obtain ⟨k, Ao, cap, hk0, rfl, hk, rfl, rfl, hown, hm, hsz2⟩ := hrel
    have HK0 := Lib.hid hk0
    clear hk0
    by_cases hlt : k < ks.length
    · have hkk : k < (ks.map (idAt2 l)).length := by simpa using hlt
      have S1 := HSV.out.pure hm
      obtain ⟨gr, og, rfl, hrow⟩ := S1.rowS (by omega)
      have q1 := hrow.cell (strsV_get (ks.map (idAt2 l)) k hkk)
      rw [List.getElem_map] at q1
      have HRK := Lib.hid (HREC.out ks[k] (List.getElem_mem hlt) wr (HP.out.trans hm))
      have HTK : Hid ((ks.take (k + 1)).map B = (ks.take k).map B ++ [B ks[k]]) := Lib.hid (by rw [List.take_succ_eq_append_getElem hlt, List.map_append]; rfl)
      have hB1 := HBL.out ks[k]
      clear hrow S1
      generalize idAt2 l ks[k] = kid at *
      generalize B ks[k] = sb at *
      go_wp2_with fail
      refine HRK.out.mono ?_
      rintro e w2 ⟨rfl, m2⟩
      have hownA := own_pure hown m2
      have hm2 := hm.trans m2
      have HM2 := Lib.hid hm2
      have hob := own_block hownA
      have HOB := Lib.hid hob
      have hzz := m2.size
      clear q1 hown hm HRK m2 hob
      go_wp2_with (at_builtin; refine wpList_append_lies _ rfl _ _ _ rfl base 9 i0 _ 1 16 Tryz.underlying29 hi0 hz0 hz1 hz2 rfl (by omega) (.slice Ao k cap) k (strsV ((ks.take k).map B)) rfl (hownA.alloc _) ⟨w2.heap.size, 0, none⟩ 1 1 [.string ⟨sb.toArray⟩] rfl rfl (World.news_of_block (cs := #[.string ⟨sb.toArray⟩]) (t := 9) (fr := (0, 0)) (heap_alloc_new w2 _)) (by simp [Value.oneCell']) (by omega) (by simp [maxLen]; omega) (by omega) (by have := hm2.size; simp; omega) (w2.heap.size + 1) (by simp) ?_; intro g5 cap5 w5 hown5 hgrow hat hlt5)
      have hz5 := hgrow.size
      simp at hz5
      have hm5 := grown_mod (v := .slice Ao k cap) hgrow
      go_roundg (ks.length - (k + 1))
      case measure => omega
      case rel =>
        refine ⟨k + 1, some ⟨g5, 0, none⟩, cap5, fun h => absurd h (by omega), rfl, by omega, rfl, by simp, ?_, (HM2.out.alloc _).trans' hm5 (fun i h hl => by have := HOB.out _ h; omega), by omega⟩
        rw [HTK.out]
        simpa [strsV] using hown5
    · obtain rfl : k = ks.length := by omega
      rw [List.take_length] at hown
      have HOWN := Lib.hid hown
      have HM2 := Lib.hid hm
      have hws := hm.size
      clear hown hm
      have HS := Lib.hid (sortS_calls2 wr (.slice Ao ks.length cap) ks.length base (ks.map B) HOWN.out (by simp; omega))
      have hol := own_block HOWN.out
      have HOL := Lib.hid hol
      clear hol
      go_wp2_with fail
      refine HS.out.mono ?_
      rintro e w3 ⟨rfl, own3, m3⟩
      have HM3 : Hid (Pure w w3) := Lib.hid (HP.out.trans (HM2.out.trans' m3 (fun i h hl => by have := HOL.out _ h; omega)))
      have m3z := m3.size
      have HPC := Lib.hid (HPL.out w3 HM3.out)
      have HO3 := Lib.hid own3
      clear HS HM2 HOWN own3 m3 HPL
      go_wp2_with fail
      refine HPC.out.mono ?_
      rintro e w3b ⟨rfl, m3b⟩
      have HM3b : Hid (Pure w w3b) := Lib.hid (HM3.out.trans m3b)
      obtain ⟨q0, q1, q2, q3, q4, q5, q6⟩ := HIC.out w3b HM3b.out
      have HSM := Lib.hid (HSU.out w3b)
      have HO3b := Lib.hid (own_pure HO3.out m3b)
      unfold itA at HSM
      have m3bz := m3b.size
      clear HPC HO3 HM3 m3b HIC
      go_wp2_with fail
      refine HSM.out.mono ?_
      rintro e w4 ⟨rfl, m4⟩
      have own4 := own_pure HO3b.out m4
      have HM4 : Hid (Pure w w4) := Lib.hid (HM3b.out.trans m4)
      have hml : (ks.map B).mergeSort (fun x y => decide (x ≤ y)) = srtS (ks.map B) := rfl
      rw [hml] at own4
      have hkl1 : (srtS (ks.map B)).length ≤ ks.length := by simp [srtS]
      have hkl2 : ks.length ≤ (srtS (ks.map B)).length := by simp [srtS]
      have H16 : Hid (∀ y ∈ sumS x :: srtS (ks.map B), y.length = 16) := Lib.hid (by
        intro y hy
        rcases List.mem_cons.1 hy with rfl | hy
        · exact sumS_len x
        · have h2 : y ∈ ks.map B := by
            unfold srtS at hy
            exact (List.mergeSort_perm _ _).mem_iff.1 hy
          obtain ⟨k, _, rfl⟩ := List.mem_map.1 h2
          exact HBL.out k)
      have HDG : Hid (digS (Lib.join (sumS x :: srtS (ks.map B)) [32]) = fsJ x (ks.map B)) := Lib.hid rfl
      have hws4 := HM4.out.size
      have hbw : base ≤ w4.heap.size := Nat.le_trans hsz2 (Nat.le_trans m3z (Nat.le_trans m3bz m4.size))
      clear HSM HO3b m4 hml HM3b q0 q1 q2 q3 q4 q5 q6 HSU
      generalize srtS (ks.map B) = ys at *
      generalize sumS x = sx at *
      obtain ⟨zs, hzs⟩ : ∃ zs, zs = sx :: ys := ⟨_, rfl⟩
      have HZS := Lib.hid hzs
      rw [← hzs] at H16 HDG
      have hzl : zs.length ≤ 2001 := by rw [hzs, List.length_cons]; omega
      have HJL := Lib.hid (join_small H16.out hzl)
      clear hzs
      have O1 := World.ownsRow_lit (base := w4.heap.size) (e := 9) (size := 1) w4 #[.string ⟨sx.toArray⟩] 1 (by simp) (by simp [maxLen]) rfl
      have own5 := own4.alloc (.cells #[.string ⟨sx.toArray⟩] 9)
      have P5 := HM4.out.alloc (.cells #[.string ⟨sx.toArray⟩] 9)
      by_cases hk0 : ks.length = 0
      · obtain ⟨rfl, rfl⟩ := HK0.out hk0
        have hy0 : ys = [] := List.eq_nil_of_length_eq_zero (by omega)
        have OO : (w4.alloc (.cells #[.string ⟨sx.toArray⟩] 9)).ownsRow w4.heap.size 9 1 (.slice (some ⟨w4.heap.size, 0, none⟩) 1 1) 1 (strsV zs) := by rw [HZS.out, hy0]; simpa [strsV] using O1
        have PP := P5
        clear hy0
        rw [hk0]
        have hk1 := Nat.le_of_eq hk0
        clear hk0
        go_wp2_with (at_builtin; refine wpList_append_own_none rfl _ _ _ rfl w4.heap.size 9 i0 1 Tryz.underlying29 hi0 (.slice (some ⟨w4.heap.size, 0, none⟩) 1 1) 1 _ rfl O1 rfl ?_)
        clear O1 own5 P5
        have HJ := Lib.hid (join_calls _ _ zs [32] (Sl.of_own OO) (by omega) (by have := HJL.out; omega))
        have HP6 := Lib.hid PP
        clear OO PP own4
        generalize Lib.join zs [32] = js at *
        go_wp2_with fail
        refine HJ.out.mono ?_
        rintro e w7 ⟨rfl, m7⟩
        have P7 := HP6.out.trans m7
        have HDD := Lib.hid (digOJ_calls w7 js HJL.out)
        rw [HDG.out] at HDD
        clear HJ HP6 m7 H16
        go_wp2_with fail
        refine HDD.out.mono ?_
        rintro e w8 ⟨rfl, m8⟩
        have P8 := P7.trans m8
        clear HDD
        go_wp2_with fail
        go_ret
        exact ⟨rfl, P8⟩
      · have hbl : 0 < ys.length := by omega
        obtain ⟨g2, c2, hv2, hg2a, hg2b, hc2, hc22⟩ := own_form own5 hbl
        injection hv2 with hv2 _ hv3
        subst hv2 hv3
        have hnews := World.ownsRow.cells own5 (g := g2) rfl
        have hsl2 : (strsV ys).length = ys.length * 1 := by rw [strsV_len]; omega
        have hone := strsV_one ys
        have hwz := Nat.le_of_eq (World.size_alloc w4 (.cells #[.string ⟨sx.toArray⟩] 9)).symm
        go_wp2_with (at_builtin; (refine wpList_append_own_at _ rfl _ _ _ rfl w4.heap.size 9 i0 _ 1 16 Tryz.underlying29 hi0 hz0 hz1 hz2 rfl (by omega) (.slice (some ⟨w4.heap.size, 0, none⟩) 1 1) 1 _ rfl O1 ⟨g2, 0, none⟩ ys.length _ _ rfl hsl2 hnews hone (by simp [maxLen]; omega) (by omega) (by omega) ?_); intro v6 w6 hown6 hgrow hnil hat; obtain ⟨A6, n6, c6, rfl⟩ := (Sl.of_own hown6).form; clear hnil)
        have hm6 := grown_mod (v := .slice (some ⟨w4.heap.size, 0, none⟩) 1 1) hgrow
        have PP : Pure w w6 := P5.trans' hm6 (fun i h hl => by have h3 : w4.heap.size = i := (by injection h); omega)
        have OO : w6.ownsRow w4.heap.size 9 1 (.slice A6 n6 c6) (1 + ys.length) (strsV zs) := by rw [HZS.out]; simpa [strsV] using hown6
        clear hown6 hgrow hm6 hnews hsl2 hone O1 own5 P5
        have HJ := Lib.hid (join_calls _ _ zs [32] (Sl.of_own OO) (by omega) (by have := HJL.out; omega))
        have HP6 := Lib.hid PP
        clear OO PP own4
        generalize Lib.join zs [32] = js at *
        go_wp2_with fail
        refine HJ.out.mono ?_
        rintro e w7 ⟨rfl, m7⟩
        have P7 := HP6.out.trans m7
        have HDD := Lib.hid (digOJ_calls w7 js HJL.out)
        rw [HDG.out] at HDD
        clear HJ HP6 m7 H16
        go_wp2_with fail
        refine HDD.out.mono ?_
        rintro e w8 ⟨rfl, m8⟩
        have P8 := P7.trans m8
        clear HDD
        go_wp2_with fail
        go_ret
        exact ⟨rfl, P8⟩

theorem rsum_calls (l : List Itm) (hR : Right l) (hz : ∀ x ∈ l, ItB x) (hkd : ∀ x ∈ l, 1 ≤ x.kind ∧ x.kind ≤ 4) (v : Value) : ∀ (m i : Nat) (hi : i < l.length), short l (m + 1) i → ∀ w, Its w v l →
    Calls Tryz.prog 42 #[v, .string ⟨l[i].id.toArray⟩] w (StrPost1 w (fsI l m i)) := by
  intro m
  induction m with
  | zero =>
    intro i hi hs w hT
    have hk := short_nokid hs
    have h := rsum_step w v l hR hR.len i hi [] (fun _ => List.replicate 16 0) hT hz hkd (by rw [hR.kidsS_eq hi, hk]) (by simp) (fun _ => by simp) (fun k h => absurd h (by simp))
    have e : fsI l 0 i = fsJ l[i] (([] : List Nat).map fun _ => List.replicate 16 0) := by simp [fsI, itmAt_eq hi]
    rw [e]
    exact h
  | succ m ih =>
    intro i hi hs w hT
    have e : fsI l (m + 1) i = fsJ l[i] ((kidsI l i).map (fsI l m)) := by simp [fsI, itmAt_eq hi]
    rw [e]
    refine rsum_step w v l hR hR.len i hi (kidsI l i) (fsI l m) hT hz hkd (hR.kidsS_eq hi) ?_ (fun k => fsI_len l m k) (fun k hk W hW => ?_)
    · have h1 : (kidsI l i).length ≤ l.length := by
        unfold kidsI
        exact Nat.le_trans (List.length_filter_le _ _) (by simp)
      have h2 := hR.len
      omega
    · have hkl := (mem_kidsI.1 hk).1
      have := ih k hkl (short_kid hs hk) W (hT.pure hW)
      rw [idAt2_eq hkl]
      exact this

end Go.Proofs.YtglekmflcaacjaaGreatDoor

/- HoldersOf of the reference; wrongOr, topFault of the laws. -/
namespace Go.Proofs.YtglekmflcaacjaaGreatDoor
set_option linter.unusedVariables false
set_option linter.unusedSimpArgs false
open Go.RowKit

set_option maxRecDepth 100000 in
set_option maxHeartbeats 400000 in
theorem wrongOr_calls (w : World) (g c : Nat) (es : List Int) (hb : RowAt w 32 g 0 (es.map (Value.int .i64))) (hl : es.length ≤ 1000) :
    Calls Tryz.prog 40 #[.slice (some ⟨g, 0, none⟩) es.length c] w (IntPost w (firstErr es)) := by
  go_enter Tryz.func40, Tryz.ntmps40
  go_wp2_with fail
  go_loopg [7] es.length (fun gk i wr => ∃ k : Nat, es.length - k = gk ∧ k ≤ es.length ∧ i = .int .i64 (k : Int) ∧ firstErr (es.drop k) = firstErr es ∧ w = wr)
  case atStart => exact ⟨0, by omega, by omega, rfl, rfl, rfl⟩
  case round =>
    obtain ⟨k, rfl, hk, rfl, hf, rfl⟩ := hrel
    have HF := Lib.hid hf
    clear hf
    by_cases hlt : k < es.length
    · have hc := hb.cell (i := k) (u := .int .i64 es[k]) (by simp [hlt])
      rw [Nat.zero_add] at hc
      have hd : es.drop k = es[k] :: es.drop (k + 1) := List.drop_eq_getElem_cons hlt
      have hf2 : firstErr es = if es[k] = 0 then firstErr (es.drop (k + 1)) else es[k] := by rw [← HF.out, hd]; rfl
      have HF2 := Lib.hid hf2
      clear hd hf2
      generalize es[k] = x at *
      by_cases hx : x = 0
      · subst hx
        go_wp2_with fail
        go_roundg (es.length - (k + 1))
        case measure => omega
        case rel => exact ⟨k + 1, rfl, hlt, by simp, by rw [HF2.out]; simp, rfl⟩
      · have hx2 : (x != 0) = true := by simpa using hx
        go_wp2_with fail
        go_ret
        exact IntPost.of (by rw [HF2.out, if_neg hx]) (Mod.refl _ _)
    · have hke : k = es.length := by omega
      subst hke
      go_wp2_with fail
      go_ret
      exact IntPost.of (by rw [← HF.out]; simp [firstErr]) (Mod.refl _ _)

theorem itemE_kindI {x : Itm} (h : itemE x = 0) : 1 ≤ x.kind ∧ x.kind ≤ 4 := by
  unfold itemE at h
  split at h
  · omega
  split at h
  · omega
  rename_i h2
  simp at h2
  exact inB_true h2

theorem items_kinds {l : List Itm} (h : itsE itemE l = 0) : ∀ x ∈ l, 1 ≤ x.kind ∧ x.kind ≤ 4 := by
  unfold itsE at h
  split at h
  · omega
  split at h
  · rename_i h2; exact absurd h h2
  rename_i h2
  have h2 : ordE itemE [] l = 0 := by simpa using h2
  exact fun x hx => itemE_kindI (ordE_gt h2 x hx).1
def tfE (l : List Itm) (id : Str) : Int := match fnd l id with
  | none => 8
  | some x => if x.par = [] then 0 else 16
theorem tfE_cons (x : Itm) (l : List Itm) (id : Str) : tfE (x :: l) id = if x.id = id then (if x.par = [] then 0 else 16) else tfE l id := by
  unfold tfE
  rw [fnd_cons]
  by_cases h : x.id = id
  · simp [h]
  · simp [h]
theorem top_first (l : List Itm) (id : Str) : firstErr [itsE itemE l, tfE l id] = topE l id := by
  unfold topE fndE tfE
  by_cases hi : itsE itemE l = 0
  · cases hp : plc l id with
    | none => simp [firstErr, hi, fnd_none hp]
    | some i =>
      obtain ⟨hil, hie⟩ := plc_lt _ _ _ hp
      have e : idxId l id = i := by unfold idxId; rw [hp]; rfl
      rw [fnd_plc hp hil, e, itmAt_eq hil]
      by_cases hpar : l[i].par = []
      · simp [firstErr, hi, hpar]
      · simp [firstErr, hi, hpar]
  · simp [firstErr, hi]

set_option maxRecDepth 100000 in
set_option maxHeartbeats 2000000 in
theorem topFault_calls (w : World) (v : Value) (l : List Itm) (id : Str) (hv : Its w v l) : Calls Tryz.prog 41 #[v, .string ⟨id.toArray⟩] w (IntPost w (tfE l id)) := by
  obtain ⟨A, n, c, rfl, hc1, hc2, hl2, hr⟩ := hv
  have hln : l.length = n := by rw [itV_len] at hl2; omega
  subst hln
  have HR := Lib.hid hr
  clear hl2 hr
  go_enter Tryz.func41, Tryz.ntmps41
  go_wp2_with fail
  go_loopg [9] l.length (fun gk i wr => ∃ k : Nat, l.length - k = gk ∧ k ≤ l.length ∧ i = .int .i64 (k : Int) ∧ tfE (l.drop k) id = tfE l id ∧ Pure w wr)
  case atStart => exact ⟨0, by omega, by omega, rfl, rfl, Mod.refl _ _⟩
  case round =>
    obtain ⟨k, rfl, hk, rfl, hf, hm⟩ := hrel
    have HF := Lib.hid hf
    clear hf
    by_cases hlt : k < l.length
    · obtain ⟨g, off, rfl, hrow⟩ := HR.out (by omega)
      obtain ⟨q0, q1, q2, q3, q4, q5, q6⟩ := item_cells (hrow.mod hm _root_.id) hlt
      have HST : Hid (tfE l id = if l[k].id = id then (if l[k].par = [] then 0 else 16) else tfE (l.drop (k + 1)) id) := Lib.hid (by rw [← HF.out, List.drop_eq_getElem_cons hlt, tfE_cons])
      have HMA := Lib.hid (hm.alloc (.cells (itQ l[k]) 95))
      clear hrow hm HF
      generalize l[k] = x at *
      unfold itQ at HMA
      obtain ⟨bd, hbd⟩ : ∃ bd, (x.id == id) = bd := ⟨_, rfl⟩
      have HBD : Hid (x.id = id ↔ bd = true) := Lib.hid (by rw [← hbd]; simp)
      cases bd
      · have HN : Hid (tfE l id = tfE (l.drop (k + 1)) id) := Lib.hid (by rw [HST.out, if_neg (fun h => by have := HBD.out.1 h; cases this)])
        clear HST HBD
        go_wp2_with fail
        go_roundg (l.length - (k + 1))
        case measure => omega
        case rel => exact ⟨k + 1, rfl, by omega, by simp, HN.out.symm, HMA.out⟩
      · have HN : Hid (tfE l id = if x.par = [] then 0 else 16) := Lib.hid (by rw [HST.out, if_pos (HBD.out.2 rfl)])
        clear HST HBD
        cases he : x.par.isEmpty
        · have HP : Hid (x.par ≠ []) := Lib.hid (fun h => by rw [h] at he; cases he)
          go_wp2_with fail
          go_ret
          exact IntPost.of (by rw [HN.out, if_neg HP.out]) HMA.out
        · have HP : Hid (x.par = []) := Lib.hid (by simpa using he)
          go_wp2_with fail
          go_ret
          exact IntPost.of (by rw [HN.out, if_pos HP.out]) HMA.out
    · obtain rfl : k = l.length := by omega
      have HN : Hid (tfE l id = 8) := Lib.hid (by rw [← HF.out, List.drop_of_length_le (Nat.le_refl _)]; rfl)
      clear HF
      go_wp2_with fail
      go_ret
      exact IntPost.of HN.out hm

def HrRel (w : World) (base : Nat) (l : List Itm) (s : Str) (gk : Nat) (x i : Value) (wr : World) : Prop :=
  ∃ (k : Nat) (out : List Str) (Ao : Option Addr) (cap : Nat), (topsI l).length - k = gk ∧ k ≤ (topsI l).length ∧ x = .slice Ao out.length cap ∧ i = .int .i64 (k : Int) ∧ out = hldS l s ((topsI l).take k) ∧ out.length ≤ k ∧
    wr.ownsRow base 9 1 (.slice Ao out.length cap) out.length (strsV out) ∧ Pure w wr ∧ base ≤ wr.heap.size

set_option maxRecDepth 100000 in
set_option maxHeartbeats 8000000 in
theorem holdersOf_calls (w : World) (v : Value) (l : List Itm) (id : Str) (hv : Its w v l) (hR : Right l) (hl : l.length ≤ 12) (hz : ∀ x ∈ l, ItB x) (hkd : ∀ x ∈ l, 1 ≤ x.kind ∧ x.kind ≤ 4) (hi : idxId l id < l.length) (hie : l[idxId l id].id = id) (htop : idxId l id ∈ topsI l) :
    Calls Tryz.prog 43 #[v, .string ⟨id.toArray⟩] w (SlPost w (srtS (uniq (hldS l (fsI l 4 (idxId l id)) (topsI l))))) := by
  obtain ⟨i0, hi0, hz0, hz1, hz2⟩ := info_parts info_str7
  have HFO := Lib.hid (familiesOf_calls w v l hv hR hl)
  have HS0 : Hid (∀ W, Pure w W → Calls Tryz.prog 42 #[v, .string ⟨id.toArray⟩] W (StrPost1 W (fsI l 4 (idxId l id)))) := Lib.hid (fun W h => by
    have := rsum_calls l hR hz hkd v 4 (idxId l id) hi (hR.short _) W (hv.pure h)
    rw [hie] at this
    exact this)
  have HSQ : Hid (∀ W, Pure w W → ∀ q (hq : q < l.length), Calls Tryz.prog 42 #[v, .string ⟨l[q].id.toArray⟩] W (StrPost1 W (fsI l 4 q))) := Lib.hid (fun W h q hq => rsum_calls l hR hz hkd v 4 q hq (hR.short _) W (hv.pure h))
  have HPL : Hid (∀ W, Pure w W → ∀ q (hq : q < l.length), Calls Tryz.prog 69 #[v, .string ⟨l[q].id.toArray⟩] W (IntPost W (q : Int))) := Lib.hid (fun W h q hq => by
    have := place_calls W v l l[q].id (hv.pure h)
    unfold plcZ at this
    rw [plc_self hR.distinct q hq] at this
    exact this)
  obtain ⟨A, n, c, rfl, hc1, hc2, hl2, hr⟩ := hv
  have hln : l.length = n := by rw [itV_len] at hl2; omega
  subst hln
  obtain ⟨g, off, rfl, hrow⟩ := hr (by omega)
  have HIC := Lib.hid (fun W (h : Pure w W) q (hq : q < l.length) => item_cells (hrow.mod h _root_.id) hq)
  have HNE : Hid (hldS l (fsI l 4 (idxId l id)) (topsI l) ≠ []) := Lib.hid (fun h => by
    have hm : (itmAt l (idxId l id)).cust ∈ hldS l (fsI l 4 (idxId l id)) (topsI l) := by
      unfold hldS
      exact List.mem_map.2 ⟨idxId l id, List.mem_filter.2 ⟨htop, by simp⟩, rfl⟩
    rw [h] at hm
    cases hm)
  have htl : (topsI l).length ≤ 12 := by
    unfold topsI
    exact Nat.le_trans (List.length_filter_le _ _) (by simp; omega)
  have HFT : Hid (∀ k (hk : k < (topsI l).length), (topsI l)[k] < l.length) := Lib.hid (fun k hk => (mem_topsI.1 (List.getElem_mem hk)).1)
  have hfl : (famsS l).length = (topsI l).length := by simp [famsS]
  have HFA : Hid (∀ k (hk : k < (topsI l).length) (hk2 : k < (famsS l).length), (famsS l)[k].1 = idAt2 l (topsI l)[k]) := Lib.hid (fun k hk hk2 => by simp [famsS])
  clear hl2 hr hrow hR hz hkd hi hie htop
  generalize fsI l 4 (idxId l id) = s at *
  go_enter Tryz.func43, Tryz.ntmps43
  go_wp2_with fail
  refine HFO.out.mono ?_
  rintro e w1 ⟨v1, fs, rfl, hfm, hfs, m1⟩
  obtain ⟨Af, nf, cf, rfl⟩ := hfm.1.form
  have hnf := hfm.len.1
  subst hnf
  have HF1 : Hid (∀ W, Pure w1 W → FmR W (.slice Af fs.length cf) fs) := Lib.hid (fun W h => hfm.pure h)
  have hfl2 : (famsS l).length = fs.length := by rw [← hfs]; simp [fmS]
  have hfl3 : fs.length ≤ (topsI l).length := by omega
  have hfl4 : (topsI l).length ≤ fs.length := by omega
  have HFS := Lib.hid hfs
  have HM1 := Lib.hid m1
  have HFL := Lib.hid hfl
  clear HFO hfm hfs m1 hfl2 hfl
  obtain ⟨base, hba⟩ : ∃ base, base = w1.heap.size := ⟨_, rfl⟩
  have hb1 := Nat.le_of_eq hba
  have hb2 := Nat.le_of_eq hba.symm
  clear hba
  go_wp2_with fail
  go_loopg [5, 11] (topsI l).length (fun gk x i wr => HrRel w1 base l s gk x i wr)
  case atStart => exact ⟨0, [], none, 0, by omega, by omega, rfl, rfl, by simp [hldS], by simp, ⟨rfl, .inl ⟨rfl, rfl⟩⟩, Mod.refl _ _, hb1⟩
  case round =>
    obtain ⟨k, out, Ao, cap, rfl, hk, rfl, rfl, hout, hol, hown, hm, hsz⟩ := hrel
    by_cases hlt : k < (topsI l).length
    · have hkf : k < fs.length := by omega
      obtain ⟨g2, o2, B, m, d, rfl, q1, q2, _, s1⟩ := (HF1.out wr hm).at hkf
      have htk := HFT.out k hlt
      have hfa : fs[k].1 = l[(topsI l)[k]].id := by
        have hk2 : k < (famsS l).length := by rw [HFL.out]; exact hlt
        have h1 := HFA.out k hlt hk2
        have := congrArg (fun x => x[k]?) HFS.out
        have h3 : (fs[k].1, fs[k].2.2) = (famsS l)[k] := by simpa [fmS, hkf, hk2] using this
        rw [← h3] at h1
        rw [← idAt2_eq htk]
        exact h1
      rw [hfa] at q1
      have HTK := Lib.hid (hldS_take (l := l) (s := s) hlt)
      have HIT : Hid (itmAt l (topsI l)[k] = l[(topsI l)[k]]) := Lib.hid (itmAt_eq htk)
      rw [HIT.out] at HTK
      have HS1 := Lib.hid (fun W (h : Pure w W) => HSQ.out W h _ htk)
      have HP1 := Lib.hid (fun W (h : Pure w W) => HPL.out W h _ htk)
      have HC1 := Lib.hid (fun W (h : Pure w W) => (HIC.out W h _ htk).2.1)
      have HOUT := Lib.hid hout
      clear hfa s1 HIT hout
      generalize l[(topsI l)[k]] = x at *
      generalize fsI l 4 (topsI l)[k] = sk at *
      generalize hti : (topsI l)[k] = ti at *
      clear hti
      have hm2 := hm.alloc (.cells #[.string ⟨x.id.toArray⟩, .slice B m d] 53)
      have hB2 := Blk.new wr 53 #[.string ⟨x.id.toArray⟩, .slice B m d]
      have HO2 := Lib.hid (hown.alloc (.cells #[.string ⟨x.id.toArray⟩, .slice B m d] 53))
      have hszA := Nat.le_of_eq (World.size_alloc wr (.cells #[.string ⟨x.id.toArray⟩, .slice B m d] 53)).symm
      go_upto_region 5 with (fail)
      generalize (wr.alloc (.cells #[.string ⟨x.id.toArray⟩, .slice B m d] 53)) = WA at *
      generalize wr.heap.size = gx at *
      have HB2 := Lib.hid hB2
      have HM2 := Lib.hid hm2
      have t0 := hB2.cell 0; have t1 := hB2.cell 1; simp at t0 t1
      clear hB2 hm2 hown hm q1 q2
      go_wp2_with fail
      refine (HS1.out WA (HM1.out.trans HM2.out)).mono ?_
      rintro e w3 ⟨rfl, m3⟩
      have HM3 := Lib.hid (HM2.out.trans m3)
      have HB3 := Lib.hid (HB2.out.mod m3 _root_.id)
      have HO3 := Lib.hid (own_pure HO2.out m3)
      have hz3 := m3.size
      clear HB2 HM2 HO2 m3 HS1
      go_wp2_with fail
      refine (HS0.out w3 (HM1.out.trans HM3.out)).mono ?_
      rintro e w4 ⟨rfl, m4⟩
      have HM4 := Lib.hid (HM3.out.trans m4)
      have hB4 := HB3.out.mod m4 _root_.id
      have HO4 := Lib.hid (own_pure HO3.out m4)
      have HB4 := Lib.hid hB4
      have hz4 := m4.size
      clear HB3 HM3 HO3 m4 t0 t1
      obtain ⟨bd, hbd⟩ : ∃ bd, (sk == s) = bd := ⟨_, rfl⟩
      have HBD : Hid (sk = s ↔ bd = true) := Lib.hid (by rw [← hbd]; simp)
      cases bd
      · have HN : Hid (hldS l s ((topsI l).take (k + 1)) = out) := Lib.hid (by rw [HTK.out, if_neg (fun h => by have := HBD.out.1 h; cases this), HOUT.out])
        clear HTK HBD hB4
        go_wp2_with fail
        go_roundg ((topsI l).length - (k + 1))
        case measure => omega
        case rel => exact ⟨k + 1, out, Ao, cap, rfl, by omega, rfl, by simp, HN.out.symm, by omega, HO4.out, HM4.out, by omega⟩
      · have HN : Hid (hldS l s ((topsI l).take (k + 1)) = out ++ [x.cust]) := Lib.hid (by rw [HTK.out, if_pos (HBD.out.2 rfl), HOUT.out])
        have t0 := hB4.cell 0; have t1 := hB4.cell 1; simp at t0 t1
        clear HTK HBD hB4
        go_wp2_with fail
        refine (HP1.out w4 (HM1.out.trans HM4.out)).mono ?_
        rintro e w5 ⟨rfl, m5⟩
        have hq5 := HC1.out w5 (HM1.out.trans (HM4.out.trans m5))
        have hown5 := own_pure HO4.out m5
        have hm5 := HM4.out.trans m5
        have hob := own_block hown5
        have HOB := Lib.hid hob
        have HM5 := Lib.hid hm5
        have hz5' := m5.size
        have i1 : (0 : Int) ≤ (ti : Int) := by omega
        have i2 : (ti : Int) < (l.length : Int) := by omega
        clear HB4 HM4 HO4 m5 t0 t1 hob hbd
        go_wp2_with (at_builtin; refine wpList_append_lies _ rfl _ _ _ rfl base 9 i0 _ 1 16 Tryz.underlying29 hi0 hz0 hz1 hz2 rfl (by omega) (.slice Ao out.length cap) out.length (strsV out) rfl (hown5.alloc _) ⟨w5.heap.size, 0, none⟩ 1 1 [.string ⟨x.cust.toArray⟩] rfl rfl (World.news_of_block (cs := #[.string ⟨x.cust.toArray⟩]) (t := 9) (fr := (0, 0)) (heap_alloc_new w5 _)) (by simp [Value.oneCell']) (by omega) (by simp [maxLen]; omega) (by omega) (by have := hm5.size; simp; omega) (w5.heap.size + 1) (by simp) ?_; intro g5 cap5 w5 hown5 hgrow hat hlt5)
        have hz5 := hgrow.size
        simp at hz5
        have hmg := grown_mod (v := .slice Ao out.length cap) hgrow
        go_roundg ((topsI l).length - (k + 1))
        case measure => omega
        case rel =>
          refine ⟨k + 1, out ++ [x.cust], some ⟨g5, 0, none⟩, cap5, rfl, by omega, by simp, by simp, HN.out.symm, by simp; omega, by have := hown5; simpa [strsV] using this, (HM5.out.alloc _).trans' hmg (fun i h hl => by have := HOB.out _ h; omega), by omega⟩
    · obtain rfl : k = (topsI l).length := by omega
      rw [List.take_length] at hout
      have HOUT := Lib.hid hout
      have HNE2 : Hid (out ≠ []) := Lib.hid (by rw [HOUT.out]; exact HNE.out)
      have hol0 : 0 < out.length := List.length_pos_iff.2 HNE2.out
      obtain ⟨g3, c3, hv3, hg3a, hg3b, _, _⟩ := own_form hown hol0
      simp only [Value.slice.injEq, true_and] at hv3
      obtain ⟨hv3, hv4⟩ := hv3
      subst hv3 hv4
      have HSO := Lib.hid (sortS_calls2 wr _ out.length base out hown (by omega))
      have HM2 := Lib.hid hm
      have hws := hm.size
      clear hown hout hm
      go_wp2_with fail
      refine HSO.out.mono ?_
      rintro e w3 ⟨rfl, own3, m3⟩
      have hml : out.mergeSort (fun x y => decide (x ≤ y)) = srtS out := rfl
      rw [hml] at own3
      have hsl : (srtS out).length = out.length := by simp [srtS]
      rw [hsl] at own3
      have hsl1 := Nat.le_of_eq hsl
      clear hsl
      have HCM := Lib.hid (compactS_calls2 w3 g3 cap out.length base (srtS out) own3 (by omega))
      have HM3 : Hid (Pure w w3) := Lib.hid (HM1.out.trans (HM2.out.trans' m3 (fun i h hl => by have h3 : g3 = i := (by injection h); omega)))
      have hwz := m3.size
      have hg3w := HM1.out.size
      clear HSO own3 m3 HM2 hml
      go_wp2_with fail
      refine HCM.out.mono ?_
      rintro e w4 ⟨rfl, own4, m4⟩
      have HCU : Hid (Lib.compact (srtS out) = srtS (uniq (hldS l s (topsI l)))) := Lib.hid (by rw [HOUT.out]; exact compact_uniq _)
      have HO4 := Lib.hid (Sl.of_own own4)
      have HM4 : Hid (Pure w w4) := Lib.hid (HM3.out.trans' m4 (fun i h hl => by omega))
      clear HCM own4 m4
      go_wp2_with fail
      go_ret
      exact ⟨_, _, _, rfl, by rw [← HCU.out]; exact HO4.out, HM4.out⟩

end Go.Proofs.YtglekmflcaacjaaGreatDoor

/- The law FamilySums. -/
namespace Go.Proofs.YtglekmflcaacjaaGreatDoor
set_option linter.unusedVariables false
set_option linter.unusedSimpArgs false
open Go.RowKit

set_option maxRecDepth 100000 in
set_option maxHeartbeats 16000000 in
theorem FamilySums_calls (w : World) (A : Option Addr) (n c : Nat) (hA : ArgInts w A n) (hE : ErrS w) (hD : Deb w) (hV : Env w) :
    Calls Tryz.prog 7 #[.slice A n c] w (BoolPost w true) := by
  have hS0 := strm_new (c := c) hA
  have HE : Hid (∀ w1, Pure w w1 → ErrS w1) := Lib.hid (fun _ h => hE.pure h)
  have HD : Hid (∀ w1, Pure w w1 → Deb w1) := Lib.hid (fun _ h => hD.pure h)
  have HV : Hid (∀ w1, Pure w w1 → Env w1) := Lib.hid (fun _ h => hV.pure h)
  obtain ⟨b, hb⟩ : ∃ b, b = w.heap.size := ⟨_, rfl⟩
  have P0 := pure_alloc w (.cells #[.slice A n c, .int .i64 0] 25)
  have HPS : Hid (∀ {w1 w' : World}, Pure w w1 → Mod (· = b) w1 w' → Pure w w') := Lib.hid (fun k h => k.trans' h (fun i hi hlt => by omega))
  rw [← hb] at hS0
  clear hE hD hV hA
  go_enter Tryz.func7, Tryz.ntmps7
  go_wp2_with fail
  rw [← hb]
  generalize (w.alloc (.cells #[.slice A n c, .int .i64 0] 25)) = w0 at *
  clear hb
  refine (rangeI_calls _ _ _ _ hS0 (by omega) (by omega) (by omega)).mono ?_
  rintro e w1 ⟨m, mI, hmI, hm8, rfl, hS1, hM1⟩
  have P1 := HPS.out P0 hM1
  have hm20 : m ≤ 10 := by omega
  have HIT := Lib.hid (items_calls w1 b _ m mI hmI hS1 (by omega) (by omega) (fun W h => HV.out W (HPS.out P1 h)))
  clear hS0 P0 hM1 hmI hm8 hS1
  go_wp2_with fail
  refine HIT.out.mono ?_
  rintro e w2 ⟨v, xs, rfl, hxl, hxz, hown, hS2, hM2⟩
  have P2 := HPS.out P1 hM2
  have hv : Its w2 v xs := Sl.of_own hown
  have HXZ := Lib.hid hxz
  have hx11 : xs.length ≤ 11 := by omega
  have HAN := Lib.hid (anyId_calls w2 b _ v xs hS2 (by omega) hv hxz (by omega))
  have HVS : Hid (∀ W, Mod (· = b) w2 W → Its W v xs) := Lib.hid (fun W h => hv.strm hS2 h (by decide))
  clear HIT hxz P1 hM2 hown hv hS2 hxl
  go_wp2_with fail
  refine HAN.out.mono ?_
  rintro e w3 ⟨id, hid, rfl, hS3, hM3⟩
  have P3 := HPS.out P2 hM3
  have HV3 := Lib.hid (HVS.out _ hM3)
  have HT : Hid (∀ W, Pure w W → _) := Lib.hid (fun W hW => taken_calls W (HE.out _ hW) (HD.out _ hW))
  have HIT : Hid (∀ W, Pure w3 W → Its W v xs) := Lib.hid (fun W h => HV3.out.pure h)
  have HVV : Hid (∀ W, Pure w3 W → Env W) := Lib.hid (fun W h => HV.out W (P3.trans h))
  have HDD : Hid (∀ W, Pure w3 W → Deb W) := Lib.hid (fun W h => HD.out W (P3.trans h))
  have HP3 := Lib.hid P3
  clear HAN HVS P2 P3 hM3 hS3 HV3 HE HD HPS HV
  have HFM := Lib.hid (familySum_calls w3 v xs id (HIT.out _ (Mod.refl _ _)) HXZ.out (by omega) (HVV.out _ (Mod.refl _ _)) (HDD.out _ (Mod.refl _ _)) (by omega))
  have HH2 := Lib.hid (fun W (h : Pure w3 W) => holders_calls W v xs id (HIT.out _ h) HXZ.out (by omega) (HVV.out _ h) (HDD.out _ h) (by omega))
  have HIF := Lib.hid (fun W (h : Pure w3 W) => itemsFault_calls W v xs (HIT.out _ h) HXZ.out (by omega) (HVV.out _ h))
  have HTF := Lib.hid (fun W (h : Pure w3 W) => topFault_calls W v xs id (HIT.out _ h))
  have HWO := Lib.hid (fun W g c hb => wrongOr_calls W g c [itsE itemE xs, tfE xs id] hb (by simp))
  rw [top_first] at HWO
  have HPROP : Hid (topE xs id = 0 → itsE itemE xs = 0 ∧ ∃ hi : idxId xs id < xs.length, xs[idxId xs id].id = id ∧ idxId xs id ∈ topsI xs) := Lib.hid (fun h => by
    obtain ⟨h1, h2⟩ := topE_zero h
    obtain ⟨h3, h4, h5⟩ := fndE_zero h1
    refine ⟨h3, h4, h5, mem_topsI.2 ⟨h4, ?_⟩⟩
    rw [itmAt_eq h4] at h2
    exact ((right_items h3).top_iff h4).2 h2)
  have HRS : Hid (topE xs id = 0 → ∀ W, Pure w3 W → Calls Tryz.prog 42 #[v, .string ⟨id.toArray⟩] W (StrPost1 W (fsI xs 4 (idxId xs id)))) := Lib.hid (fun h0 W h => by
    obtain ⟨h3, h4, h5, _⟩ := HPROP.out h0
    have := rsum_calls xs (right_items h3) HXZ.out (items_kinds h3) v 4 (idxId xs id) h4 ((right_items h3).short _) W (HIT.out W h)
    rw [h5] at this
    exact this)
  have HRH : Hid (topE xs id = 0 → ∀ W, Pure w3 W → Calls Tryz.prog 43 #[v, .string ⟨id.toArray⟩] W (SlPost W (srtS (uniq (hldS xs (fsI xs 4 (idxId xs id)) (topsI xs)))))) := Lib.hid (fun h0 W h => by
    obtain ⟨h3, h4, h5, h6⟩ := HPROP.out h0
    exact holdersOf_calls W v xs id (HIT.out W h) (right_items h3) (by omega) HXZ.out (items_kinds h3) h4 h5 h6)
  unfold FsPost at HFM
  unfold HdPost at HH2
  generalize topE xs id = er at *
  generalize srtS (uniq (hldS xs (fsI xs 4 (idxId xs id)) (topsI xs))) = hs at *
  generalize fsI xs 4 (idxId xs id) = ss at *
  generalize itsE itemE xs = f0 at *
  generalize tfE xs id = t0 at *
  clear HXZ HIT HVV HDD HPROP
  go_wp2_with fail
  refine HFM.out.mono ?_
  rintro e w4 ⟨s, rfl, hs1, hs2, m4⟩
  have HS1 := Lib.hid hs1
  have HS2 := Lib.hid hs2
  have HM4 := Lib.hid m4
  have HC4 := Lib.hid (HH2.out _ m4)
  clear HFM hs1 hs2 m4 HH2
  go_wp2_with fail
  refine HC4.out.mono ?_
  rintro e w5 ⟨Ac, nc, cc, rfl, hc, hc0, m5⟩
  have HCH := Lib.hid hc
  have HCH0 := Lib.hid hc0
  have HM5 := Lib.hid (HM4.out.trans m5)
  have HI5 := Lib.hid (HIF.out _ HM5.out)
  clear HC4 hc hc0 m5 HM4 HIF
  go_wp2_with fail
  refine HI5.out.mono ?_
  rintro e w6 ⟨rfl, m6⟩
  have HM6 := Lib.hid (HM5.out.trans m6)
  have HM56 := Lib.hid m6
  have HT6 := Lib.hid (HTF.out _ HM6.out)
  clear HI5 m6 HTF
  go_wp2_with fail
  refine HT6.out.mono ?_
  rintro e w7 ⟨rfl, m7⟩
  have hp7 := pure_alloc w7 (.cells #[.int .i64 f0, .int .i64 t0] 32)
  have HM7 := Lib.hid (HM6.out.trans (m7.trans hp7))
  have HM57 := Lib.hid (HM56.out.trans (m7.trans hp7))
  have HW7 := Lib.hid (HWO.out _ _ 2 ((Blk.new w7 32 #[.int .i64 f0, .int .i64 t0]).row0))
  clear HT6 m7 hp7 HM6 HM56 HWO
  go_wp2_with fail
  refine HW7.out.mono ?_
  rintro e w8 ⟨rfl, m8⟩
  have PQ := HP3.out.trans (HM7.out.trans m8)
  have HM8 := Lib.hid (HM7.out.trans m8)
  have HM58 := Lib.hid (HM57.out.trans m8)
  have hne1 : (er != er) = false := by simp
  clear HW7 HM7 HM57 m8 HM5
  by_cases h0 : er = 0
  · subst h0
    have hss := HS2.out rfl
    have hS8 := (HCH0.out rfl).pure HM58.out
    have HRS8 := Lib.hid (HRS.out rfl _ HM8.out)
    have HRH8 : Hid (∀ W, Pure w8 W → _) := Lib.hid (fun W h => HRH.out rfl W (HM8.out.trans h))
    subst hss
    have HS8 := Lib.hid hS8
    have hse : (s == s) = true := by simp
    unfold SlPost at HRH8
    clear HS1 HS2 HCH HCH0 HRS HRH hS8 HM58 HM8
    go_wp2_with fail
    refine HRS8.out.mono ?_
    rintro e w9 ⟨rfl, m9⟩
    have HC9 := Lib.hid (HRH8.out _ m9)
    clear HRS8 HRH8
    go_wp2_with fail
    refine HC9.out.mono ?_
    rintro e w10 ⟨Ar, nr, cr, rfl, hSr, m10⟩
    have HEQ := Lib.hid (equalS_calls w10 _ _ hs (HS8.out.pure (m9.trans m10)) hSr)
    clear HC9 hSr HS8
    go_wp2_with fail
    refine HEQ.out.mono ?_
    rintro e w11 ⟨rfl, m11⟩
    have P11 := PQ.trans (m9.trans (m10.trans m11))
    clear HEQ
    go_wp2_with fail
    refine (HT.out _ P11).mono ?_
    rintro e w12 ⟨rfl, m12⟩
    go_wp2_with fail
    go_ret
    exact ⟨rfl, P11.trans m12⟩
  · have hne0 : (er != 0) = true := by simpa using h0
    obtain rfl := HS1.out h0
    obtain ⟨rfl, rfl, rfl⟩ := HCH.out h0
    clear HS1 HS2 HCH HCH0 HRS HRH h0 HM8 HM58
    go_wp2_with fail
    refine (HT.out _ PQ).mono ?_
    rintro e w9 ⟨rfl, m9⟩
    go_wp2_with fail
    go_ret
    exact ⟨rfl, PQ.trans m9⟩

end Go.Proofs.YtglekmflcaacjaaGreatDoor
