/- Texts of the proof of CodingLatest, put together: LatB, LatC, LatD, LatE. -/
import Derived.Test.YtkkndblcejmmjaaGreatDoorCodingLatestZ36
import Derived.Test.YtkkndblcejmmjaaGreatDoorCodingLatestZ40
import Derived.Test.YtkkndblcejmmjaaGreatDoorCodingLatestZ41
import Derived.Test.YtkkndblcejmmjaaGreatDoorCodingLatestZ42
/- CodingOf and Codings of the program. -/
namespace Go.Proofs.YtkkndblcejmmjaaGreatDoor
set_option linter.unusedVariables false
set_option linter.unusedSimpArgs false
open Go.RowKit

def moE (a : Int) : Int := if inB a 0 5761439 = true then 0 else 1
set_option maxRecDepth 100000 in
set_option maxHeartbeats 1000000 in
theorem momentE_calls (w : World) (a : Int) : Calls Tryz.prog 95 #[.int .i64 a] w (IntPost w (moE a)) := by
  have HQ : Hid (moE a = if inB a 0 5761439 = true then 0 else 1) := Lib.hid rfl
  have HM := Lib.hid (momD_calls a w)
  generalize moE a = q at *
  generalize inB a 0 5761439 = f at *
  go_enter Tryz.func95, Tryz.ntmps95
  go_wp2_with fail
  refine HM.out.mono ?_
  rintro e w1 ⟨rfl, rfl⟩
  go_wp2_with fail
  refine (whenQ_calls _ _ _ q (by rw [HQ.out]; cases f <;> rfl)).mono ?_
  rintro e w2 ⟨rfl, hm⟩
  go_wp2_with fail
  go_ret
  exact IntPost.of rfl hm
def kyE (s : Str) : Int := if keyB s = true then 0 else 5
def cofE (L : LayR) (ds : List DecR) (item : Str) (at_ : Int) : Int := if decsE L ds ≠ 0 then decsE L ds else if kyE item ≠ 0 then kyE item else moE at_
theorem cof3 (a b c : Int) : firstErr [a, b, c] = if a ≠ 0 then a else if b ≠ 0 then b else c := by
  simp only [firstErr]
  by_cases ha : a = 0
  · by_cases hb : b = 0
    · by_cases hc : c = 0 <;> simp [ha, hb, hc]
    · simp [ha, hb]
  · simp [ha]
theorem cof2 (a b : Int) : firstErr [a, b] = if a ≠ 0 then a else b := by
  simp only [firstErr]
  by_cases ha : a = 0
  · by_cases hb : b = 0 <;> simp [ha, hb]
  · simp [ha]
def CofPost (w : World) (q : Int) (it : Str) (V : List ChoR) (e : Ending) (w' : World) : Prop :=
  ∃ (s : Str) (A : Option Addr) (c : Nat) (vs : List ChoR), e = .returned (.tuple #[.agg #[.string ⟨s.toArray⟩, .slice A vs.length c], .int .i64 q]) ∧ s = (if q = 0 then it else []) ∧ Vals w' (.slice A vs.length c) vs ∧ likes vs (if q = 0 then V else []) ∧ Pure w w'
/-- The latest decision on an item (none: an empty one). -/
def latD (al : List AskR) (at_ : Int) (ds : List DecR) (i : Str) : DecR := (latO al (prI i at_) ds).getD decN
theorem latD_vals (al : List AskR) (at_ : Int) (ds : List DecR) (i : Str) : (latD al at_ ds i).vals = codV al ds at_ i := by
  unfold latD codV
  cases latO al (prI i at_) ds <;> rfl
theorem latM_getD (al : List AskR) (at_ : Int) (ds : List DecR) (i : Str) : (latM al at_ ds i).getD (DecVal decN) = DecVal (latD al at_ ds i) := by
  unfold latM latD
  cases latO al (prI i at_) ds <;> rfl
theorem latD_el {W : World} {al : List AskR} {at_ : Int} {ds : List DecR} (h : DecS W ds) (hz : ∀ d ∈ ds, DecB d) (i : Str) : Vals W (.slice (latD al at_ ds i).A (latD al at_ ds i).vals.length (latD al at_ ds i).c) (latD al at_ ds i).vals ∧ (latD al at_ ds i).vals.length ≤ 100 ∧ ∀ x ∈ (latD al at_ ds i).vals, ChoB x := by
  unfold latD
  cases ho : latO al (prI i at_) ds with
  | none => exact ⟨⟨Sl.nil_, fun x hx => absurd hx (by simp [decN])⟩, by simp [decN], fun x hx => absurd hx (by simp [decN])⟩
  | some y =>
    have hm := (latO_mem al _ ds ho).1
    exact ⟨h y hm, (hz y hm).2.2.2.2.2.2.1, (hz y hm).2.2.2.2.2.2.2⟩

set_option maxRecDepth 100000 in
set_option maxHeartbeats 8000000 in
theorem codingOf_calls (w : World) (vl : Value) (L : LayR) (A3 : Option Addr) (n3 c3 : Nat) (ds : List DecR) (item : Str) (at_ : Int) (hL : LayV w L vl) (hLB : LayB L) (hD : Decs w (.slice A3 n3 c3) ds) (hz : ∀ d ∈ ds, DecB d) (hn : ds.length ≤ 4000) (hi : item.length ≤ 1000) (hk : decsE L ds = 0 → ∀ d ∈ ds, ∀ z ∈ d.vals, 0 ≤ kIx L.asks z.field) :
    Calls Tryz.prog 35 #[vl, .slice A3 n3 c3, .string ⟨item.toArray⟩, .int .i64 at_] w (CofPost w (cofE L ds item at_) item (codV L.asks ds at_ item)) := by
  have HCK := Lib.hid (fun W (h : Pure w W) => dcheck_calls W vl L A3 n3 c3 ds (hL.pure h) hLB (hD.pure h) hz hn)
  have HKY := Lib.hid (fun W => keyP_calls W item (keyB item) rfl hi)
  have HLT := Lib.hid (fun (h0 : decsE L ds = 0) W (h : Pure w W) => latest_calls W vl L A3 n3 c3 ds at_ (hL.pure h) hLB (hD.pure h) hz hn (hk h0))
  have HQ : Hid (cofE L ds item at_ = if decsE L ds ≠ 0 then decsE L ds else if kyE item ≠ 0 then kyE item else moE at_) := Lib.hid rfl
  have HKE : Hid (kyE item = if keyB item = true then 0 else 5) := Lib.hid rfl
  have hel := fun W (h : Pure w W) => latD_el (al := L.asks) (at_ := at_) (hD.2.pure h) hz item
  have HPV := Lib.hid (fun W (h : Pure w W) => pvalues_calls W _ _ _ _ (hel W h).1 (by have := (hel W h).2.1; omega) (hel W h).2.2)
  rw [latD_vals] at HPV
  have HGD := Lib.hid (latM_getD L.asks at_ ds item)
  have HMO := Lib.hid (fun W => momentE_calls W at_)
  have HVL : Hid ((latD L.asks at_ ds item).vals = codV L.asks ds at_ item) := Lib.hid (latD_vals L.asks at_ ds item)
  obtain ⟨A, n, c, A2, n2, c2, rfl, _, _⟩ := hL
  have HB0 := Lib.hid ((Blk.new w 29 #[.slice A n c, .slice A2 n2 c2]).alloc (.cells #[.string ⟨#[]⟩, .slice none 0 0] 69))
  have HR0 := Lib.hid (Blk.snd w (.cells #[.slice A n c, .slice A2 n2 c2] 29) 69 #[.string ⟨#[]⟩, .slice none 0 0])
  have HP0 := Lib.hid ((pure_alloc w (.cells #[.slice A n c, .slice A2 n2 c2] 29)).trans (pure_alloc _ (.cells #[.string ⟨#[]⟩, .slice none 0 0] 69)))
  generalize cofE L ds item at_ = q at *
  generalize decsE L ds = qs at *
  generalize hky : kyE item = ky at *
  generalize keyB item = kb at *
  generalize moE at_ = mo at *
  clear hLB hD hz hk hel hky
  have hfld : ∀ (a0 a1 a2 a3 a4 a5 : Value) (W : World), Sem.run Tryz.prog (Instr.field 40 (.agg #[a0, a1, a2, a3, a4, a5]) 5) W = .ok a5 W := fun _ _ _ _ _ _ _ => rfl
  go_enter Tryz.func35, Tryz.ntmps35
  go_upto_region 1 with (fail)
  generalize ((w.alloc (.cells #[.slice A n c, .slice A2 n2 c2] 29)).alloc (.cells #[.string ⟨#[]⟩, .slice none 0 0] 69)) = w1 at *
  generalize hg : w.heap.size = g3 at *
  have hg3 := Nat.le_of_eq hg
  clear hg
  have hX := HB0.out
  have l0 := hX.cell 0; have l1 := hX.cell 1; simp at l0 l1
  clear hX
  go_wp2_with fail
  refine (HCK.out _ HP0.out).mono ?_
  rintro e w2 ⟨rfl, hm⟩
  have HP2 := Lib.hid (HP0.out.trans hm)
  have HB2 := Lib.hid (HB0.out.modp hm)
  have HR2 := Lib.hid (HR0.out.modp hm)
  clear hm l0 l1 HP0 HB0 HR0 HCK
  go_wp2_with fail
  refine (HKY.out _).mono ?_
  rintro e w3 ⟨rfl, hm⟩
  have HP3 := Lib.hid (HP2.out.trans hm)
  have HB3 := Lib.hid (HB2.out.modp hm)
  have HR3 := Lib.hid (HR2.out.modp hm)
  clear hm HP2 HB2 HR2 HKY
  go_wp2_with fail
  refine (whenQ_calls _ _ _ ky (by rw [HKE.out]; cases kb <;> rfl)).mono ?_
  rintro e w4 ⟨rfl, hm⟩
  have HP4 := Lib.hid (HP3.out.trans hm)
  have HB4 := Lib.hid (HB3.out.modp hm)
  have HR4 := Lib.hid (HR3.out.modp hm)
  clear hm HP3 HB3 HR3
  go_wp2_with fail
  refine (HMO.out _).mono ?_
  rintro e w5 ⟨rfl, hm⟩
  have HP5 := Lib.hid (HP4.out.trans hm)
  have HB5 := Lib.hid (HB4.out.modp hm)
  have HR5 := Lib.hid (HR4.out.modp hm)
  clear hm HP4 HB4 HR4 HMO
  have HFE : Hid (∀ (W : World) (g : Nat), Blk W g 41 #[.int .i64 qs, .int .i64 ky, .int .i64 mo] → Calls Tryz.prog 55 #[.slice (some ⟨g, 0, none⟩) 3 3] W (IntPost W q)) := Lib.hid (fun W g h => by
    have := firstE_calls W g 3 [qs, ky, mo] h.row0 (by simp)
    rwa [cof3, ← HQ.out] at this)
  go_wp2_with fail
  refine (HFE.out _ _ (Blk.new' rfl)).mono ?_
  rintro e w6 ⟨rfl, hm⟩
  have HP6 := Lib.hid (HP5.out.trans ((pure_alloc _ _).trans hm))
  have HB6 := Lib.hid ((HB5.out.alloc _).modp hm)
  have HR6 := Lib.hid ((HR5.out.alloc _).modp hm)
  clear hm HP5 HB5 HR5 HFE
  by_cases h0 : q = 0
  · subst h0
    have hq0 : qs = 0 := Decidable.byContradiction fun h => h (by have := HQ.out; rw [if_pos h] at this; omega)
    have HLT2 := Lib.hid (HLT.out hq0 w6 HP6.out)
    have hX := HB6.out
    have l0 := hX.cell 0; have l1 := hX.cell 1; simp at l0 l1
    clear hX HLT hq0 HQ
    go_wp2_with fail
    refine HLT2.out.mono ?_
    rintro e w7 ⟨bm, nm, rfl, hM, hnm, hm⟩
    have hlook := hM.lookup (e := 40) Tryz.underlying138 zero_dec item (by omega)
    rw [HGD.out] at hlook
    have HP7 := Lib.hid (HP6.out.trans hm)
    have HR7 := Lib.hid (HR6.out.modp hm)
    have HPV7 := Lib.hid (HPV.out w7 HP7.out)
    rw [← HVL.out] at HPV7
    have HV2 := HVL
    clear hM hm HP6 HR6 HB6 l0 l1 HLT2 HPV HGD
    generalize latD L.asks at_ ds item = y at *
    obtain ⟨yno, yat, yrev, yitem, ysec, yA, yc, yv⟩ := y
    rw [DecVal.eq] at hlook
    simp only at HPV7 HV2
    go_wp2_with fail
    refine HPV7.out.mono ?_
    rintro e w8 ⟨A8, c8, cs8, rfl, hvc, hm⟩
    have HP8 := Lib.hid (HP7.out.trans hm)
    have HR8 := Lib.hid (HR7.out.modp hm)
    have HVC := Lib.hid (Vals.of_vc hvc)
    have HLK := Lib.hid hvc.2.2
    have hX := HR8.out
    have d0 := hX.cell 0; have df0 := hX.frozen 0; have d1 := hX.cell 1; have df1 := hX.frozen 1; simp at d0 d1
    clear hX hvc hm HP7 HR7 hlook HPV7
    go_wp2_with fail
    have hms : Mod (· = g3 + 1) w8 ((w8.setCell ⟨g3 + 1, 0, none⟩ (.string ⟨item.toArray⟩)).setCell ⟨g3 + 1, 1, none⟩ (.slice A8 cs8.length c8)) := (Mod.setCell (S := (· = g3 + 1)) (p := ⟨g3 + 1, 0, none⟩) (Mod.refl _ _) (.inl rfl) _).setCell (p := ⟨g3 + 1, 1, none⟩) (.inl rfl) _
    have hR9 : Blk ((w8.setCell ⟨g3 + 1, 0, none⟩ (.string ⟨item.toArray⟩)).setCell ⟨g3 + 1, 1, none⟩ (.slice A8 cs8.length c8)) (g3 + 1) 69 #[.string ⟨item.toArray⟩, .slice A8 cs8.length c8] := HR8.out.set2
    have r0 := hR9.cell 0
    have r1 := hR9.cell 1
    simp at r0 r1
    refine bodyPost_ret (v := .tuple #[.agg #[.string ⟨item.toArray⟩, .slice A8 cs8.length c8], .int .i64 0]) (by simp [results, Tryz.results35, go_sem, r0, r1]) rfl ?_
    exact ⟨item, A8, c8, cs8, rfl, by rw [if_pos rfl], HVC.out.mod hms (fun i arr fr hi => blk_ty HR8.out hi (by decide)) (fun i arr fr hi => blk_ty HR8.out hi (by decide)), by rw [if_pos rfl, ← HV2.out]; exact HLK.out, HP8.out.trans' hms (fun i hi hl => by omega)⟩
  · have h0' : (q != 0) = true := by simpa using h0
    have hX := HR6.out
    have d0 := hX.cell 0; have df0 := hX.frozen 0; have d1 := hX.cell 1; have df1 := hX.frozen 1; simp at d0 d1
    clear hX HLT HPV HQ
    go_wp2_with fail
    have hms : Mod (· = g3 + 1) w6 ((w6.setCell ⟨g3 + 1, 0, none⟩ (.string ⟨#[]⟩)).setCell ⟨g3 + 1, 1, none⟩ (.slice none 0 0)) := (Mod.setCell (S := (· = g3 + 1)) (p := ⟨g3 + 1, 0, none⟩) (Mod.refl _ _) (.inl rfl) _).setCell (p := ⟨g3 + 1, 1, none⟩) (.inl rfl) _
    have hR9 : Blk ((w6.setCell ⟨g3 + 1, 0, none⟩ (.string ⟨#[]⟩)).setCell ⟨g3 + 1, 1, none⟩ (.slice none 0 0)) (g3 + 1) 69 #[.string ⟨#[]⟩, .slice none 0 0] := HR6.out.set2
    have r0 := hR9.cell 0
    have r1 := hR9.cell 1
    simp at r0 r1
    refine bodyPost_ret (v := .tuple #[.agg #[.string ⟨#[]⟩, .slice none 0 0], .int .i64 q]) (by simp [results, Tryz.results35, go_sem, r0, r1]) rfl ?_
    exact ⟨[], none, 0, [], rfl, by rw [if_neg h0], ⟨Sl.nil_, fun x hx => absurd hx (by simp)⟩, by rw [if_neg h0]; rfl, HP6.out.trans' hms (fun i hi hl => by omega)⟩

end Go.Proofs.YtkkndblcejmmjaaGreatDoor

/- Codings of the program. -/
namespace Go.Proofs.YtkkndblcejmmjaaGreatDoor
set_option linter.unusedVariables false
set_option linter.unusedSimpArgs false
open Go.RowKit

/-- The items that have a decision. -/
def itL (al : List AskR) (ds : List DecR) (at_ : Int) : List Str := (itemsD ds).filter (fun i => (latO al (prI i at_) ds).isSome)
def ksL (al : List AskR) (ds : List DecR) (at_ : Int) : List Str := (uniq (ds.map (·.item))).filter (fun i => (latO al (prI i at_) ds).isSome)
theorem ksL_nodup (al : List AskR) (ds : List DecR) (at_ : Int) : (ksL al ds at_).Nodup := (nodup_uniq _).filter _
theorem ksL_mem (al : List AskR) (ds : List DecR) (at_ : Int) (i : Str) : i ∈ ksL al ds at_ ↔ (latO al (prI i at_) ds).isSome = true := by
  unfold ksL
  rw [List.mem_filter, mem_uniq]
  constructor
  · exact fun h => h.2
  · intro h
    refine ⟨?_, h⟩
    obtain ⟨y, hy⟩ := Option.isSome_iff_exists.1 h
    obtain ⟨h1, h2⟩ := latO_mem al _ ds hy
    unfold prI at h2
    rw [Bool.and_eq_true] at h2
    exact List.mem_map.2 ⟨y, h1, of_decide_eq_true h2.1⟩
theorem ksL_sort (al : List AskR) (ds : List DecR) (at_ : Int) : ((ksL al ds at_).mergeSort fun x y => decide (x ≤ y)) = itL al ds at_ := keys_filter al at_ ds _ (ksL_nodup al ds at_) (ksL_mem al ds at_)
theorem itL_mem {al : List AskR} {ds : List DecR} {at_ : Int} {i : Str} (h : i ∈ itL al ds at_) : ∃ d ∈ ds, d.item = i := by
  rw [← ksL_sort, (List.mergeSort_perm _ _).mem_iff, ksL_mem] at h
  obtain ⟨y, hy⟩ := Option.isSome_iff_exists.1 h
  obtain ⟨h1, h2⟩ := latO_mem al _ ds hy
  unfold prI at h2
  rw [Bool.and_eq_true] at h2
  exact ⟨y, h1, of_decide_eq_true h2.1⟩
theorem uniq_len : ∀ l : List Str, (uniq l).length ≤ l.length
  | [] => by simp [uniq]
  | x :: t => by
    unfold uniq
    split
    · exact Nat.le_trans (uniq_len t) (by simp)
    · simpa using uniq_len t
theorem itL_len (al : List AskR) (ds : List DecR) (at_ : Int) : (itL al ds at_).length ≤ ds.length := by
  rw [← ksL_sort, List.length_mergeSort]
  unfold ksL
  have h1 := List.length_filter_le (fun i => (latO al (prI i at_) ds).isSome) (uniq (ds.map (·.item)))
  have h2 := uniq_len (ds.map (·.item))
  simp at h2
  omega
def cogE (L : LayR) (ds : List DecR) (at_ : Int) : Int := if decsE L ds ≠ 0 then decsE L ds else moE at_
def CgPost (w : World) (q : Int) (CL : List CodR) (e : Ending) (w' : World) : Prop :=
  ∃ (A : Option Addr) (k c : Nat) (xs : List CodR), e = .returned (.tuple #[.slice A k c, .int .i64 q]) ∧ (q ≠ 0 → k = 0) ∧ Cods w' (.slice A k c) xs ∧ likesC xs (if q = 0 then CL else []) ∧ Pure w w'
theorem codL_key (al : List AskR) (ds : List DecR) (at_ : Int) (i : Str) : (codL al ds at_ i).key = (i, (latD al at_ ds i).vals.map fun y => (y.field, y.ch)) := by
  unfold CodR.key
  rw [(codL_vals al ds at_ i).1, (codL_vals al ds at_ i).2, latD_vals]
def CgRel (w w4 : World) (base bm nm : Nat) (al : List AskR) (ds : List DecR) (at_ : Int) (gk : Nat) (x i : Value) (wr : World) : Prop :=
  ∃ (k cap : Nat) (Ao : Option Addr) (xs : List CodR), (itL al ds at_).length - k = gk ∧ k ≤ (itL al ds at_).length ∧ x = .slice Ao xs.length cap ∧ i = .int .i64 (k : Int) ∧ CdOk wr base Ao cap xs (((itL al ds at_).take k).map (codL al ds at_)) ∧ Pure w4 wr ∧ base ≤ wr.heap.size

set_option maxRecDepth 100000 in
set_option maxHeartbeats 8000000 in
theorem codings_calls (w : World) (vl : Value) (L : LayR) (A3 : Option Addr) (n3 c3 : Nat) (ds : List DecR) (at_ : Int) (hL : LayV w L vl) (hLB : LayB L) (hD : Decs w (.slice A3 n3 c3) ds) (hz : ∀ d ∈ ds, DecB d) (hn : ds.length ≤ 4000) (hk : decsE L ds = 0 → ∀ d ∈ ds, ∀ z ∈ d.vals, 0 ≤ kIx L.asks z.field) :
    Calls Tryz.prog 36 #[vl, .slice A3 n3 c3, .int .i64 at_] w (CgPost w (cogE L ds at_) (codsL L.asks ds at_)) := by
  have HCK := Lib.hid (fun W (h : Pure w W) => dcheck_calls W vl L A3 n3 c3 ds (hL.pure h) hLB (hD.pure h) hz hn)
  have HLT := Lib.hid (fun (h0 : decsE L ds = 0) W (h : Pure w W) => latest_calls W vl L A3 n3 c3 ds at_ (hL.pure h) hLB (hD.pure h) hz hn (hk h0))
  have HQ : Hid (cogE L ds at_ = if decsE L ds ≠ 0 then decsE L ds else moE at_) := Lib.hid rfl
  have HEL := Lib.hid (fun W (h : Pure w W) i => latD_el (al := L.asks) (at_ := at_) (hD.2.pure h) hz i)
  have HMO := Lib.hid (fun W => momentE_calls W at_)
  have HCL : Hid (codsL L.asks ds at_ = (itL L.asks ds at_).map (codL L.asks ds at_)) := Lib.hid rfl
  have HIL : Hid (∀ s ∈ itL L.asks ds at_, s.length ≤ 1000) := Lib.hid (fun s hs => by
    obtain ⟨d, hd, rfl⟩ := itL_mem hs
    exact (hz d hd).2.2.2.2.2.1)
  have hitl := itL_len L.asks ds at_
  obtain ⟨A, n, c, A2, n2, c2, rfl, _, _⟩ := hL
  have HB0 := Lib.hid (Blk.new w 29 #[.slice A n c, .slice A2 n2 c2])
  have HP0 := Lib.hid (pure_alloc w (.cells #[.slice A n c, .slice A2 n2 c2] 29))
  generalize cogE L ds at_ = q at *
  generalize decsE L ds = qs at *
  generalize moE at_ = mo at *
  clear hLB hD hz hk
  have hfld : ∀ (a0 a1 a2 a3 a4 a5 : Value) (W : World), Sem.run Tryz.prog (Instr.field 40 (.agg #[a0, a1, a2, a3, a4, a5]) 5) W = .ok a5 W := fun _ _ _ _ _ _ _ => rfl
  go_enter Tryz.func36, Tryz.ntmps36
  go_upto_region 1 with (fail)
  generalize (w.alloc (.cells #[.slice A n c, .slice A2 n2 c2] 29)) = w1 at *
  generalize w.heap.size = g3 at *
  have hX := HB0.out
  have l0 := hX.cell 0; have l1 := hX.cell 1; simp at l0 l1
  clear hX
  go_wp2_with fail
  refine (HCK.out _ HP0.out).mono ?_
  rintro e w2 ⟨rfl, hm⟩
  have HP2 := Lib.hid (HP0.out.trans hm)
  have HB2 := Lib.hid (HB0.out.modp hm)
  clear hm l0 l1 HP0 HB0 HCK
  go_wp2_with fail
  refine (HMO.out _).mono ?_
  rintro e w5 ⟨rfl, hm⟩
  have HP5 := Lib.hid (HP2.out.trans hm)
  have HB5 := Lib.hid (HB2.out.modp hm)
  clear hm HP2 HB2 HMO
  have HFE : Hid (∀ (W : World) (g : Nat), Blk W g 41 #[.int .i64 qs, .int .i64 mo] → Calls Tryz.prog 55 #[.slice (some ⟨g, 0, none⟩) 2 2] W (IntPost W q)) := Lib.hid (fun W g h => by
    have := firstE_calls W g 2 [qs, mo] h.row0 (by simp)
    rwa [cof2, ← HQ.out] at this)
  go_wp2_with fail
  refine (HFE.out _ _ (Blk.new' rfl)).mono ?_
  rintro e w6 ⟨rfl, hm⟩
  have HP6 := Lib.hid (HP5.out.trans ((pure_alloc _ _).trans hm))
  have HB6 := Lib.hid ((HB5.out.alloc _).modp hm)
  clear hm HP5 HB5 HFE
  by_cases h0 : q = 0
  rotate_left
  · have h0' : (q != 0) = true := by simpa using h0
    clear HLT HEL HQ HB6
    go_wp2_with fail
    refine bodyPost_ret (v := .tuple #[.slice none 0 0, .int .i64 q]) (by simp [results, Tryz.results36, go_sem]) rfl ?_
    exact ⟨none, 0, 0, [], rfl, fun _ => rfl, ⟨Sl.nil_, fun x hx => absurd hx (by simp)⟩, by rw [if_neg h0]; rfl, HP6.out⟩
  subst h0
  have hq0 : qs = 0 := Decidable.byContradiction fun h => h (by have := HQ.out; rw [if_pos h] at this; omega)
  have HLT2 := Lib.hid (HLT.out hq0 w6 HP6.out)
  have hX := HB6.out
  have l0 := hX.cell 0; have l1 := hX.cell 1; simp at l0 l1
  clear hX HLT hq0 HQ HB6
  go_wp2_with fail
  refine HLT2.out.mono ?_
  rintro e w7 ⟨bm, nm, rfl, hM, hnm, hm⟩
  have HP7 := Lib.hid (HP6.out.trans hm)
  have HKS := Lib.hid (mapsKeysSD_calls (some bm) w7)
  have HSO := Lib.hid (sortedSD_calls bm nm (latM L.asks at_ ds) w7 hM (by omega) (ksL L.asks ds at_) (ksL_nodup _ _ _) (fun x => by rw [ksL_mem]; unfold latM; cases latO L.asks (prI x at_) ds <;> simp))
  rw [ksL_sort] at HSO
  have HMS : Hid (∀ W, Pure w7 W → MapS W bm nm (latM L.asks at_ ds)) := Lib.hid (fun W h => hM.pure h)
  clear hM hm HP6 l0 l1 HLT2
  go_wp2_with fail
  refine HKS.out.mono ?_
  rintro e w3 ⟨rfl, rfl⟩
  clear HKS
  go_wp2_with fail
  refine HSO.out.mono ?_
  rintro e w4 ⟨v4, rfl, own4, m4⟩
  have HK4 : Hid (∀ W, Pure w4 W → Sl W 9 1 v4 (strsV (itL L.asks ds at_))) := Lib.hid (fun W h => (Sl.of_own own4).pure h)
  have HP4 := Lib.hid (HP7.out.trans ((pure_alloc w7 (.cells #[.map (some bm)] 138)).trans m4))
  have HMS4 : Hid (∀ W, Pure w4 W → MapS W bm nm (latM L.asks at_ ds)) := Lib.hid (fun W h => HMS.out W (((pure_alloc w7 (.cells #[.map (some bm)] 138)).trans m4).trans h))
  obtain ⟨A4, n4, c4, rfl⟩ := (Sl.of_own own4).form
  have hn4 : (itL L.asks ds at_).length = n4 := (HK4.out w4 (Mod.refl _ _)).lenS
  subst hn4
  clear HSO own4 m4 HMS HP7
  go_wp2_with fail
  obtain ⟨base, hbase⟩ : ∃ base, base = w4.heap.size := ⟨_, rfl⟩
  have hs1 := Nat.le_of_eq hbase
  have hs2 := Nat.le_of_eq hbase.symm
  clear hbase
  go_loopg [10, 31] (itL L.asks ds at_).length (fun gk x i wr => CgRel w w4 base bm nm L.asks ds at_ gk x i wr)
  case atStart => exact ⟨0, 0, none, [], by omega, by omega, rfl, rfl, ⟨World.ownsRow_nil _ _ _ _, fun x h => absurd h (by simp), rfl⟩, Mod.refl _ _, by omega⟩
  case round =>
    obtain ⟨k, cap, Ao, xs, rfl, hk, rfl, rfl, hO, hm, hbs⟩ := hrel
    by_cases hlt : k < (itL L.asks ds at_).length
    · obtain ⟨gr, off, rfl, hrow⟩ := (HK4.out _ hm).rowS (by omega)
      have q1 := hrow.cell (strsV_get _ k hlt)
      have hsl := HIL.out _ (List.getElem_mem hlt)
      have hxl : xs.length ≤ 4000 := by have := hO.2.2.len; simp at this; omega
      have hlook := (HMS4.out _ hm).lookup (e := 40) Tryz.underlying138 zero_dec (itL L.asks ds at_)[k] (by omega)
      rw [latM_getD] at hlook
      have HTK : Hid (((itL L.asks ds at_).take (k + 1)).map (codL L.asks ds at_) = ((itL L.asks ds at_).take k).map (codL L.asks ds at_) ++ [codL L.asks ds at_ (itL L.asks ds at_)[k]]) := Lib.hid (by rw [List.take_succ_eq_append_getElem hlt, List.map_append]; rfl)
      have HKY := Lib.hid (codL_key L.asks ds at_ (itL L.asks ds at_)[k])
      have hel := HEL.out wr (HP4.out.trans hm) (itL L.asks ds at_)[k]
      have HPV := Lib.hid (pvalues_calls wr _ _ _ _ hel.1 (by have := hel.2.1; omega) hel.2.2)
      have HO := Lib.hid hO
      have HM := Lib.hid hm
      have hil : (k : Int) < ((itL L.asks ds at_).length : Int) := by omega
      clear hrow hel hO hm
      generalize latD L.asks at_ ds (itL L.asks ds at_)[k] = y at *
      generalize codL L.asks ds at_ (itL L.asks ds at_)[k] = z at *
      generalize (itL L.asks ds at_)[k] = s at *
      obtain ⟨yno, yat, yrev, yitem, ysec, yA, yc, yv⟩ := y
      rw [DecVal.eq] at hlook
      simp only at HPV HKY
      go_wp2_with fail
      refine HPV.out.mono ?_
      rintro e w8 ⟨A8, c8, cs8, rfl, hvc, hm⟩
      have HM8 := Lib.hid (HM.out.trans hm)
      have HO8 := Lib.hid (HO.out.pure hm)
      have HVC := Lib.hid (Vals.of_vc hvc)
      have HLK := Lib.hid hvc.2.2
      have hownO := HO8.out.1
      have hmO := HM8.out
      have hb8 : base ≤ w8.heap.size := by have := hm.size; omega
      obtain ⟨i0, hi0, hz0, hz1, hz2⟩ := info_parts info_cod
      clear hvc hm hlook HPV HM HO q1
      go_wp2_with ((at_builtin; refine wpList_append_lies _ rfl _ _ _ rfl base 69 i0 _ 2 40 Tryz.underlying49 hi0 hz0 hz1 hz2 rfl (by omega) (.slice Ao xs.length cap) xs.length (cdV xs) rfl (hownO.alloc _) ⟨w8.heap.size, 0, none⟩ 1 1 [.string ⟨s.toArray⟩, .slice A8 cs8.length c8] rfl rfl (World.news_of_block (cs := #[.string ⟨s.toArray⟩, .slice A8 cs8.length c8]) (t := 69) (fr := (0, 0)) (heap_alloc_new w8 _)) (by simp [Value.oneCell']) (by omega) (by simp [maxLen]; omega) (by omega) (by have := hmO.size; simp; omega) (w8.heap.size + 1) (by simp) ?_; intro g5 cap5 w5 hown5 hgrow hat hlt5))
      have mG := mod_grown hgrow
      have hob := own_block hownO
      have hzz := mG.size
      simp only [World.size_alloc] at hzz
      go_roundg ((itL L.asks ds at_).length - (k + 1))
      case measure => omega
      case rel =>
        refine ⟨k + 1, cap5, some ⟨g5, 0, none⟩, xs ++ [⟨s, A8, c8, cs8⟩], rfl, by omega, by simp, by simp, ?_, (HM8.out.alloc _).grown hgrow (fun i hi => .inr (by have := hob i hi; omega)), by omega⟩
        rw [HTK.out]
        refine (HO8.out.pure (pure_alloc _ (.cells #[.string ⟨s.toArray⟩, .slice A8 cs8.length c8] 69))).app (x := ⟨s, A8, c8, cs8⟩) (HVC.out.pure (pure_alloc _ _)) ?_ mG rfl hown5
        have hlk := HLK.out
        unfold likes at hlk
        rw [HKY.out]
        simp only [CodR.key, hlk]
    · have hke : k = (itL L.asks ds at_).length := by omega
      have HO := Lib.hid hO
      have HM := Lib.hid hm
      have HTZ : Hid ((itL L.asks ds at_).take k = itL L.asks ds at_) := Lib.hid (List.take_of_length_le (by omega))
      clear hO hm
      go_wp2_with fail
      refine bodyPost_ret (v := .tuple #[.slice Ao xs.length cap, .int .i64 0]) (by simp [results, Tryz.results36, go_sem]) rfl ?_
      exact ⟨Ao, xs.length, cap, xs, rfl, fun h => absurd rfl h, HO.out.cods, by rw [if_pos rfl, HCL.out]; have := HO.out.2.2; rwa [HTZ.out] at this, HP4.out.trans HM.out⟩

end Go.Proofs.YtkkndblcejmmjaaGreatDoor

/- latest, CodedAt of the reference. -/
namespace Go.Proofs.YtkkndblcejmmjaaGreatDoor
set_option linter.unusedVariables false
set_option linter.unusedSimpArgs false
open Go.RowKit

theorem latF_if (al : List AskR) (p : DecR → Bool) (o : Option DecR) (x : DecR) : latF al p o x = if (p x && (!o.isSome || decide (laterS al x (o.getD decN) = 1))) = true then some x else o := by
  unfold latF
  cases hp : p x
  · simp
  · cases o with
    | none => simp
    | some y => simp
theorem Blk.set6 {w : World} {g : Nat} {t : TypeId} {a b c d e f a' b' c' d' e' f' : Value} (h : Blk w g t #[a, b, c, d, e, f]) : Blk (World.setCell (World.setCell (World.setCell (World.setCell (World.setCell (World.setCell w ⟨g, 0, none⟩ a') ⟨g, 1, none⟩ b') ⟨g, 2, none⟩ c') ⟨g, 3, none⟩ d') ⟨g, 4, none⟩ e') ⟨g, 5, none⟩ f') g t #[a', b', c', d', e', f'] := by
  simpa using (((((h.set 0 a').set 1 b').set 2 c').set 3 d').set 4 e').set 5 f'
theorem Mod.set6 (w : World) (g : Nat) (a' b' c' d' e' f' : Value) : Mod (· = g) w (World.setCell (World.setCell (World.setCell (World.setCell (World.setCell (World.setCell w ⟨g, 0, none⟩ a') ⟨g, 1, none⟩ b') ⟨g, 2, none⟩ c') ⟨g, 3, none⟩ d') ⟨g, 4, none⟩ e') ⟨g, 5, none⟩ f') :=
  ((((((Mod.refl (· = g) w).setCell (p := ⟨g, 0, none⟩) (.inl rfl) a').setCell (p := ⟨g, 1, none⟩) (.inl rfl) b').setCell (p := ⟨g, 2, none⟩) (.inl rfl) c').setCell (p := ⟨g, 3, none⟩) (.inl rfl) d').setCell (p := ⟨g, 4, none⟩) (.inl rfl) e').setCell (p := ⟨g, 5, none⟩) (.inl rfl) f'
def RltPost (w : World) (o : Option DecR) (e : Ending) (w' : World) : Prop := e = .returned (.tuple #[DecVal (o.getD decN), .bool o.isSome]) ∧ Pure w w'
def RltRel (w : World) (g3 : Nat) (lay : Array Value) (al : List AskR) (p : DecR → Bool) (ds : List DecR) (gk : Nat) (h i : Value) (wr : World) : Prop :=
  ∃ (k : Nat) (o : Option DecR), ds.length - k = gk ∧ k ≤ ds.length ∧ h = .bool o.isSome ∧ i = .int .i64 (k : Int) ∧ o = latO al p (ds.take k) ∧ Blk wr (g3 + 1 + 1) 40 (decC (o.getD decN)).toArray ∧ Blk wr (g3 + 1) 40 (decC decN).toArray ∧ Blk wr g3 29 lay ∧ Pure w wr

set_option maxRecDepth 100000 in
set_option maxHeartbeats 8000000 in
theorem rlatest2_calls (w : World) (vl : Value) (L : LayR) (A3 : Option Addr) (n3 c3 : Nat) (ds : List DecR) (F : Nat) (c1 c2 : Value) (p : DecR → Bool) (hL : LayV w L vl) (hLB : LayB L) (hD : Decs w (.slice A3 n3 c3) ds) (hz : ∀ d ∈ ds, DecB d) (hn : ds.length ≤ 4000) (hk : ∀ d ∈ ds, ∀ z ∈ d.vals, 0 ≤ kIx L.asks z.field)
    (hcf : ∀ (x : Value) (W : World), Sem.run Tryz.prog (callFunc F #[x, c1, c2]) W = .ok (.enter F #[x, c1, c2]) W)
    (hF : ∀ (x : DecR) (W : World), x ∈ ds → Pure w W → Calls Tryz.prog F #[DecVal x, c1, c2] W (BoolPost W (p x))) :
    Calls Tryz.prog 101 #[vl, .slice A3 n3 c3, .func (.func F) #[] #[c1, c2]] w (RltPost w (latO L.asks p ds)) := by
  have HLR := Lib.hid (fun W (h : Pure w W) (x y : DecR) (hx : x ∈ ds) (hy : y ∈ ds) => laterR_calls W vl L x y (hL.pure h) hLB ((hD.2 x hx).pure h) ((hD.2 y hy).pure h) (hz x hx) (hz y hy) (hk x hx) (hk y hy))
  have HSG := Lib.hid (fun (x y : DecR) (hx : x ∈ ds) => laterR_sg L.asks x y (hk x hx))
  have HF := Lib.hid hF
  have hl := hD.len
  subst hl
  have HD := Lib.hid hD
  obtain ⟨A, n, c, A2, n2, c2, rfl, _, _⟩ := hL
  have HB0 := Lib.hid (((Blk.new w 29 #[.slice A n c, .slice A2 n2 c2]).alloc (.cells #[.int .i64 0, .int .i64 0, .string ⟨#[]⟩, .string ⟨#[]⟩, .bool false, .slice none 0 0] 40)).alloc (.cells #[.int .i64 0, .int .i64 0, .string ⟨#[]⟩, .string ⟨#[]⟩, .bool false, .slice none 0 0] 40))
  have HR0 := Lib.hid ((Blk.snd w (.cells #[.slice A n c, .slice A2 n2 c2] 29) 40 #[.int .i64 0, .int .i64 0, .string ⟨#[]⟩, .string ⟨#[]⟩, .bool false, .slice none 0 0]).alloc (.cells #[.int .i64 0, .int .i64 0, .string ⟨#[]⟩, .string ⟨#[]⟩, .bool false, .slice none 0 0] 40))
  have HO0 := Lib.hid (Blk.thd w (.cells #[.slice A n c, .slice A2 n2 c2] 29) (.cells #[.int .i64 0, .int .i64 0, .string ⟨#[]⟩, .string ⟨#[]⟩, .bool false, .slice none 0 0] 40) 40 #[.int .i64 0, .int .i64 0, .string ⟨#[]⟩, .string ⟨#[]⟩, .bool false, .slice none 0 0])
  have HP0 := Lib.hid (((pure_alloc w (.cells #[.slice A n c, .slice A2 n2 c2] 29)).trans (pure_alloc _ (.cells #[.int .i64 0, .int .i64 0, .string ⟨#[]⟩, .string ⟨#[]⟩, .bool false, .slice none 0 0] 40))).trans (pure_alloc _ (.cells #[.int .i64 0, .int .i64 0, .string ⟨#[]⟩, .string ⟨#[]⟩, .bool false, .slice none 0 0] 40)))
  clear hLB hD hz hk hF
  go_enter Tryz.func101, Tryz.ntmps101
  go_upto_region 2 with (fail)
  generalize (((w.alloc (.cells #[.slice A n c, .slice A2 n2 c2] 29)).alloc (.cells #[.int .i64 0, .int .i64 0, .string ⟨#[]⟩, .string ⟨#[]⟩, .bool false, .slice none 0 0] 40)).alloc (.cells #[.int .i64 0, .int .i64 0, .string ⟨#[]⟩, .string ⟨#[]⟩, .bool false, .slice none 0 0] 40)) = w1 at *
  generalize hg : w.heap.size = g3 at *
  have hg3 := Nat.le_of_eq hg
  clear hg
  go_wp2_with fail
  go_loopg [9, 14] ds.length (fun gk h i wr => RltRel w g3 #[.slice A n c, .slice A2 n2 c2] L.asks p ds gk h i wr)
  case atStart => exact ⟨0, none, by omega, by omega, rfl, rfl, rfl, HO0.out, HR0.out, HB0.out, HP0.out⟩
  case round =>
    clear HO0 HR0 HB0 HP0
    obtain ⟨k, o, rfl, hk, rfl, rfl, ho, hO, hR, hB, hm⟩ := hrel
    by_cases hlt : k < ds.length
    · obtain ⟨g, off, rfl, q0, q1, q2, q3, q4, q5⟩ := (HD.out.pure hm).cells hlt
      have HXM := Lib.hid (List.getElem_mem hlt)
      have HTK := Lib.hid (List.take_succ_eq_append_getElem hlt)
      have HTM : Hid (∀ y, o = some y → y ∈ ds) := Lib.hid (fun y hy => List.mem_of_mem_take (latO_mem L.asks p (ds.take k) (y := y) (by rw [← ho]; exact hy)).1)
      have HNX : Hid (latO L.asks p (ds.take k ++ [ds[k]]) = if (p ds[k] && (!o.isSome || decide (laterS L.asks ds[k] (o.getD decN) = 1))) = true then some ds[k] else o) := Lib.hid (by rw [latO_snoc, ← ho, latF_if])
      have hgw := hB.lt
      have hgr := hR.lt
      have hgo := hO.lt
      generalize ds[k] = x at *
      have HFX := Lib.hid (fun W (h : Pure wr W) => HF.out x W HXM.out (hm.trans h))
      have HLY : Hid (∀ W, Pure wr W → ∀ y, o = some y → Calls Tryz.prog 153 #[.agg #[.slice A n c, .slice A2 n2 c2], DecVal x, DecVal y] W (IntD W (laterR L.asks x y))) := Lib.hid (fun W h y hy => HLR.out W (hm.trans h) x y HXM.out (HTM.out y hy))
      have HSX : Hid (∀ y, decide (laterS L.asks x y = 1) = decide (0 < laterR L.asks x y)) := Lib.hid (fun y => by rw [← HSG.out x y HXM.out, Bool.eq_iff_iff]; simp [sgI_pos])
      generalize hy : o.getD decN = y at *
      have HY := Lib.hid hy
      have HO := Lib.hid hO
      have HR := Lib.hid hR
      have HB := Lib.hid hB
      have HM := Lib.hid hm
      clear hy ho hO hR hB hm
      obtain ⟨xno, xat, xrev, xitem, xsec, xA, xc, xv⟩ := x
      obtain ⟨yno, yat, yrev, yitem, ysec, yA, yc, yv⟩ := y
      rw [HSX.out] at HNX
      simp only [decC, DecVal.eq] at *
      go_upto_region 6 with (fail)
      have HBX := Lib.hid (Blk.new wr 40 #[.int .i64 xno, .int .i64 xat, .string ⟨xrev.toArray⟩, .string ⟨xitem.toArray⟩, .bool xsec, .slice xA xv.length xc])
      have HO2 := Lib.hid (HO.out.alloc (.cells #[.int .i64 xno, .int .i64 xat, .string ⟨xrev.toArray⟩, .string ⟨xitem.toArray⟩, .bool xsec, .slice xA xv.length xc] 40))
      have HR2 := Lib.hid (HR.out.alloc (.cells #[.int .i64 xno, .int .i64 xat, .string ⟨xrev.toArray⟩, .string ⟨xitem.toArray⟩, .bool xsec, .slice xA xv.length xc] 40))
      have HB2 := Lib.hid (HB.out.alloc (.cells #[.int .i64 xno, .int .i64 xat, .string ⟨xrev.toArray⟩, .string ⟨xitem.toArray⟩, .bool xsec, .slice xA xv.length xc] 40))
      have HPA : Hid (Pure wr (wr.alloc (.cells #[.int .i64 xno, .int .i64 xat, .string ⟨xrev.toArray⟩, .string ⟨xitem.toArray⟩, .bool xsec, .slice xA xv.length xc] 40))) := Lib.hid (pure_alloc _ _)
      have hg9 : g3 + 1 + 1 < wr.heap.size := hgo
      clear q0 q1 q2 q3 q4 q5 HO HR HB
      generalize (wr.alloc (.cells #[.int .i64 xno, .int .i64 xat, .string ⟨xrev.toArray⟩, .string ⟨xitem.toArray⟩, .bool xsec, .slice xA xv.length xc] 40)) = wa at *
      generalize wr.heap.size = g9 at *
      have HLZ : Hid (o.isSome = true → ∀ W, Pure wr W → Calls Tryz.prog 153 #[.agg #[.slice A n c, .slice A2 n2 c2], .agg #[.int .i64 xno, .int .i64 xat, .string ⟨xrev.toArray⟩, .string ⟨xitem.toArray⟩, .bool xsec, .slice xA xv.length xc], .agg #[.int .i64 yno, .int .i64 yat, .string ⟨yrev.toArray⟩, .string ⟨yitem.toArray⟩, .bool ysec, .slice yA yv.length yc]] W (IntD W (laterR L.asks ⟨xno, xat, xrev, xitem, xsec, xA, xc, xv⟩ ⟨yno, yat, yrev, yitem, ysec, yA, yc, yv⟩))) := Lib.hid (fun ho W h => by
        cases o with
        | none => cases ho
        | some z =>
          have hz : z = ⟨yno, yat, yrev, yitem, ysec, yA, yc, yv⟩ := HY.out
          have := HLY.out W h z rfl
          rw [hz] at this
          exact this)
      generalize p ⟨xno, xat, xrev, xitem, xsec, xA, xc, xv⟩ = px at *
      generalize laterR L.asks ⟨xno, xat, xrev, xitem, xsec, xA, xc, xv⟩ ⟨yno, yat, yrev, yitem, ysec, yA, yc, yv⟩ = lp at *
      generalize hcd : (px && (!o.isSome || decide (0 < lp))) = cd at *
      have HCD := Lib.hid hcd
      clear hcd
      go_cut [31] (fun q wx => q = .bool cd ∧ Pure wa wx)
      case first =>
        have hX := HBX.out
        have d0 := hX.cell 0; have d1 := hX.cell 1; have d2 := hX.cell 2; have d3 := hX.cell 3; have d4 := hX.cell 4; have d5 := hX.cell 5; simp at d0 d1 d2 d3 d4 d5
        clear hX
        generalize o.isSome = os at *
        go_wp2_with fail
        refine (HFX.out _ HPA.out).mono ?_
        rintro e w6 ⟨rfl, hm⟩
        have hX := HBX.out.modp hm
        have hY := HO2.out.modp hm
        have hB := HB2.out.modp hm
        have HP6 := Lib.hid (HPA.out.trans hm)
        have HM6 := Lib.hid hm
        clear d0 d1 d2 d3 d4 d5 hm
        have d0 := hX.cell 0; have d1 := hX.cell 1; have d2 := hX.cell 2; have d3 := hX.cell 3; have d4 := hX.cell 4; have d5 := hX.cell 5; simp at d0 d1 d2 d3 d4 d5
        have e0 := hY.cell 0; have e1 := hY.cell 1; have e2 := hY.cell 2; have e3 := hY.cell 3; have e4 := hY.cell 4; have e5 := hY.cell 5; simp at e0 e1 e2 e3 e4 e5
        have l0 := hB.cell 0; have l1 := hB.cell 1; simp at l0 l1
        clear hX hY hB
        cases px
        · have HZC : Hid (cd = false) := Lib.hid (by rw [← HCD.out]; simp)
          clear HCD HLZ
          go_wp2_with fail
          go_meet
          exact ⟨by rw [HZC.out], HM6.out⟩
        · cases os
          · have HZC : Hid (cd = true) := Lib.hid (by rw [← HCD.out]; simp)
            clear HCD HLZ
            go_wp2_with fail
            go_meet
            exact ⟨by rw [HZC.out], HM6.out⟩
          · have HLW := Lib.hid (HLZ.out rfl w6 HP6.out)
            have HZC : Hid (cd = decide (0 < lp)) := Lib.hid (by rw [← HCD.out]; simp)
            clear HCD HLZ
            go_wp2_with fail
            refine HLW.out.mono ?_
            rintro e w7 ⟨rfl, hm7⟩
            have HM7 := Lib.hid (HM6.out.trans hm7.1)
            clear hm7
            go_wp2_with fail
            go_meet
            exact ⟨by rw [HZC.out], HM7.out⟩
      case rest =>
        obtain ⟨rfl, hmx⟩ := hcut
        have HO3 := Lib.hid (HO2.out.modp hmx)
        have HR3 := Lib.hid (HR2.out.modp hmx)
        have HB3 := Lib.hid (HB2.out.modp hmx)
        have hX := HBX.out.modp hmx
        have HMC := Lib.hid (HM.out.trans (HPA.out.trans hmx))
        clear hmx HO2 HR2 HB2 HBX HLZ HLY HFX HPA
        have d0 := hX.cell 0; have d1 := hX.cell 1; have d2 := hX.cell 2; have d3 := hX.cell 3; have d4 := hX.cell 4; have d5 := hX.cell 5; simp at d0 d1 d2 d3 d4 d5
        clear hX
        cases cd
        · have HNN : Hid (latO L.asks p (ds.take (k + 1)) = o) := Lib.hid (by rw [HTK.out, HNX.out]; simp)
          have HOY : Hid (Blk wc (g3 + 1 + 1) 40 (decC (o.getD decN)).toArray) := Lib.hid (by rw [HY.out]; exact HO3.out)
          clear HO3 HNX
          go_wp2_with fail
          go_roundg (ds.length - (k + 1))
          case measure => omega
          case rel => exact ⟨k + 1, o, rfl, by omega, rfl, by simp, HNN.out.symm, HOY.out, HR3.out, HB3.out, HMC.out⟩
        · have HNN : Hid (latO L.asks p (ds.take (k + 1)) = some ⟨xno, xat, xrev, xitem, xsec, xA, xc, xv⟩) := Lib.hid (by rw [HTK.out, HNX.out]; simp)
          have hY := HO3.out
          have e0 := hY.cell 0; have ef0 := hY.frozen 0; have e1 := hY.cell 1; have ef1 := hY.frozen 1; have e2 := hY.cell 2; have ef2 := hY.frozen 2; have e3 := hY.cell 3; have ef3 := hY.frozen 3; have e4 := hY.cell 4; have ef4 := hY.frozen 4; have e5 := hY.cell 5; have ef5 := hY.frozen 5; simp at e0 e1 e2 e3 e4 e5
          clear hY
          have HO4 : Hid (Blk (World.setCell (World.setCell (World.setCell (World.setCell (World.setCell (World.setCell wc ⟨(g3 + 1 + 1), 0, none⟩ (.int .i64 xno)) ⟨(g3 + 1 + 1), 1, none⟩ (.int .i64 xat)) ⟨(g3 + 1 + 1), 2, none⟩ (.string ⟨xrev.toArray⟩)) ⟨(g3 + 1 + 1), 3, none⟩ (.string ⟨xitem.toArray⟩)) ⟨(g3 + 1 + 1), 4, none⟩ (.bool xsec)) ⟨(g3 + 1 + 1), 5, none⟩ (.slice xA xv.length xc)) (g3 + 1 + 1) 40 #[.int .i64 xno, .int .i64 xat, .string ⟨xrev.toArray⟩, .string ⟨xitem.toArray⟩, .bool xsec, .slice xA xv.length xc]) := Lib.hid (Blk.set6 HO3.out)
          have HMS : Hid (Mod (· = g3 + 1 + 1) wc (World.setCell (World.setCell (World.setCell (World.setCell (World.setCell (World.setCell wc ⟨(g3 + 1 + 1), 0, none⟩ (.int .i64 xno)) ⟨(g3 + 1 + 1), 1, none⟩ (.int .i64 xat)) ⟨(g3 + 1 + 1), 2, none⟩ (.string ⟨xrev.toArray⟩)) ⟨(g3 + 1 + 1), 3, none⟩ (.string ⟨xitem.toArray⟩)) ⟨(g3 + 1 + 1), 4, none⟩ (.bool xsec)) ⟨(g3 + 1 + 1), 5, none⟩ (.slice xA xv.length xc))) := Lib.hid (Mod.set6 _ _ _ _ _ _ _ _)
          have HR4 := Lib.hid (HR3.out.mod HMS.out (by omega))
          have HB4 := Lib.hid (HB3.out.mod HMS.out (by omega))
          have HM4 := Lib.hid (HMC.out.trans' HMS.out (fun i hi hl => by omega))
          clear HO3 HNX HR3 HB3 HMC
          go_wp2_with fail
          go_roundg (ds.length - (k + 1))
          case measure => omega
          case rel => exact ⟨k + 1, some ⟨xno, xat, xrev, xitem, xsec, xA, xc, xv⟩, rfl, by omega, rfl, by simp, HNN.out.symm, HO4.out, HR4.out, HB4.out, HM4.out⟩
    · have hke : k = ds.length := by omega
      have HTZ : Hid (o = latO L.asks p ds) := Lib.hid (by rw [ho, List.take_of_length_le (by omega)])
      generalize hy : o.getD decN = y at *
      have HY := Lib.hid hy
      clear hy ho hB
      obtain ⟨xno, xat, xrev, xitem, xsec, xA, xc, xv⟩ := y
      simp only [decC] at hO
      simp only [decC, decN] at hR
      have hgr : g3 + 1 < wr.heap.size := hR.lt
      have hX := hO
      have hR6 := hR
      have HRR := Lib.hid hR
      have HMM := Lib.hid hm
      have d0 := hX.cell 0; have d1 := hX.cell 1; have d2 := hX.cell 2; have d3 := hX.cell 3; have d4 := hX.cell 4; have d5 := hX.cell 5; simp at d0 d1 d2 d3 d4 d5
      have e0 := hR6.cell 0; have ef0 := hR6.frozen 0; have e1 := hR6.cell 1; have ef1 := hR6.frozen 1; have e2 := hR6.cell 2; have ef2 := hR6.frozen 2; have e3 := hR6.cell 3; have ef3 := hR6.frozen 3; have e4 := hR6.cell 4; have ef4 := hR6.frozen 4; have e5 := hR6.cell 5; have ef5 := hR6.frozen 5; simp at e0 e1 e2 e3 e4 e5
      clear hX hR6 hO hR hm
      go_wp2_with fail
      have HMS : Hid (Mod (· = g3 + 1) wr (World.setCell (World.setCell (World.setCell (World.setCell (World.setCell (World.setCell wr ⟨(g3 + 1), 0, none⟩ (.int .i64 xno)) ⟨(g3 + 1), 1, none⟩ (.int .i64 xat)) ⟨(g3 + 1), 2, none⟩ (.string ⟨xrev.toArray⟩)) ⟨(g3 + 1), 3, none⟩ (.string ⟨xitem.toArray⟩)) ⟨(g3 + 1), 4, none⟩ (.bool xsec)) ⟨(g3 + 1), 5, none⟩ (.slice xA xv.length xc))) := Lib.hid (Mod.set6 _ _ _ _ _ _ _ _)
      have HR4 : Hid (Blk (World.setCell (World.setCell (World.setCell (World.setCell (World.setCell (World.setCell wr ⟨(g3 + 1), 0, none⟩ (.int .i64 xno)) ⟨(g3 + 1), 1, none⟩ (.int .i64 xat)) ⟨(g3 + 1), 2, none⟩ (.string ⟨xrev.toArray⟩)) ⟨(g3 + 1), 3, none⟩ (.string ⟨xitem.toArray⟩)) ⟨(g3 + 1), 4, none⟩ (.bool xsec)) ⟨(g3 + 1), 5, none⟩ (.slice xA xv.length xc)) (g3 + 1) 40 #[.int .i64 xno, .int .i64 xat, .string ⟨xrev.toArray⟩, .string ⟨xitem.toArray⟩, .bool xsec, .slice xA xv.length xc]) := Lib.hid (Blk.set6 HRR.out)
      have HM4 := Lib.hid (HMM.out.trans' HMS.out (fun i hi hl => by omega))
      have hZ := HR4.out
      have z0 := hZ.cell 0; have z1 := hZ.cell 1; have z2 := hZ.cell 2; have z3 := hZ.cell 3; have z4 := hZ.cell 4; have z5 := hZ.cell 5; simp at z0 z1 z2 z3 z4 z5
      refine bodyPost_ret (v := .tuple #[.agg #[.int .i64 xno, .int .i64 xat, .string ⟨xrev.toArray⟩, .string ⟨xitem.toArray⟩, .bool xsec, .slice xA xv.length xc], .bool o.isSome]) (by simp [results, Tryz.results101, go_sem, z0, z1, z2, z3, z4, z5]) rfl ?_
      exact ⟨by rw [← HTZ.out, HY.out, DecVal.eq], HM4.out⟩


end Go.Proofs.YtkkndblcejmmjaaGreatDoor

/- CodedAt, decidedItems, CodingsAt of the reference. -/
namespace Go.Proofs.YtkkndblcejmmjaaGreatDoor
set_option linter.unusedVariables false
set_option linter.unusedSimpArgs false
open Go.RowKit

set_option maxRecDepth 100000 in
set_option maxHeartbeats 2000000 in
theorem codedAt1_calls (w : World) (gi ga : Nat) (item : Str) (at_ : Int) (x : DecR) (hi : w.cell? ⟨gi, 0, none⟩ = some (.string ⟨item.toArray⟩)) (ha : w.cell? ⟨ga, 0, none⟩ = some (.int .i64 at_)) : Calls Tryz.prog 102 #[DecVal x, .pointer (some ⟨gi, 0, none⟩), .pointer (some ⟨ga, 0, none⟩)] w (BoolPost w (prI item at_ x)) := by
  have HQ : Hid (prI item at_ x = (decide (x.item = item) && decide (x.at_ ≤ at_))) := Lib.hid rfl
  generalize prI item at_ x = q at *
  obtain ⟨xno, xat, xrev, xitem, xsec, xA, xc, xv⟩ := x
  simp only [DecVal.eq] at *
  have hi2 := cell_alloc hi (.cells #[.int .i64 xno, .int .i64 xat, .string ⟨xrev.toArray⟩, .string ⟨xitem.toArray⟩, .bool xsec, .slice xA xv.length xc] 40)
  have ha2 := cell_alloc ha (.cells #[.int .i64 xno, .int .i64 xat, .string ⟨xrev.toArray⟩, .string ⟨xitem.toArray⟩, .bool xsec, .slice xA xv.length xc] 40)
  clear hi ha
  by_cases h1 : xitem = item
  · subst h1
    have t1 : (xitem == xitem) = true := by simp
    have HQ2 : Hid (q = decide (xat ≤ at_)) := Lib.hid (by rw [HQ.out]; simp)
    clear HQ
    go_enter Tryz.func102, Tryz.ntmps102
    go_wp2_with fail
    go_ret
    exact BoolPost.of HQ2.out (pure_alloc _ _)
  · have t1 : (xitem == item) = false := by simpa using h1
    have HQ2 : Hid (q = false) := Lib.hid (by rw [HQ.out]; simp [h1])
    clear HQ h1
    go_enter Tryz.func102, Tryz.ntmps102
    go_wp2_with fail
    go_ret
    exact BoolPost.of HQ2.out (pure_alloc _ _)
def CaPost (w : World) (item : Str) (y : DecR) (e : Ending) (w' : World) : Prop := e = .returned (.agg #[.string ⟨item.toArray⟩, .slice y.A y.vals.length y.c]) ∧ Pure w w'

set_option maxRecDepth 100000 in
set_option maxHeartbeats 8000000 in
theorem codedAt_calls (w : World) (vl : Value) (L : LayR) (A3 : Option Addr) (n3 c3 : Nat) (ds : List DecR) (item : Str) (at_ : Int) (hL : LayV w L vl) (hLB : LayB L) (hD : Decs w (.slice A3 n3 c3) ds) (hz : ∀ d ∈ ds, DecB d) (hn : ds.length ≤ 4000) (hk : ∀ d ∈ ds, ∀ z ∈ d.vals, 0 ≤ kIx L.asks z.field) :
    Calls Tryz.prog 40 #[vl, .slice A3 n3 c3, .string ⟨item.toArray⟩, .int .i64 at_] w (CaPost w item (latD L.asks at_ ds item)) := by
  obtain ⟨A, n, c, A2, n2, c2, rfl, hA, hR⟩ := hL
  have hL : LayV w L (.agg #[.slice A n c, .slice A2 n2 c2]) := ⟨A, n, c, A2, n2, c2, rfl, hA, hR⟩
  have HLT := Lib.hid (fun W (h : Pure w W) gi ga (h1 : W.cell? ⟨gi, 0, none⟩ = some (.string ⟨item.toArray⟩)) (h2 : W.cell? ⟨ga, 0, none⟩ = some (.int .i64 at_)) => rlatest2_calls W _ L A3 n3 c3 ds 102 (.pointer (some ⟨gi, 0, none⟩)) (.pointer (some ⟨ga, 0, none⟩)) (prI item at_) (hL.pure h) hLB (hD.pure h) hz hn hk (fun _ _ => rfl) (fun x W2 _ hm => codedAt1_calls W2 gi ga item at_ x (keepp h1 hm) (keepp h2 hm)))
  have HQ : Hid (latD L.asks at_ ds item = (latO L.asks (prI item at_) ds).getD decN) := Lib.hid rfl
  have HB1 := Lib.hid ((((Blk.new w 29 #[.slice A n c, .slice A2 n2 c2]).alloc (.cells #[.string ⟨item.toArray⟩] 9)).alloc (.cells #[.int .i64 at_] 3)).alloc (.cells #[.string ⟨#[]⟩, .slice none 0 0] 69))
  have HB2 := Lib.hid (((Blk.snd w (.cells #[.slice A n c, .slice A2 n2 c2] 29) 9 #[.string ⟨item.toArray⟩]).alloc (.cells #[.int .i64 at_] 3)).alloc (.cells #[.string ⟨#[]⟩, .slice none 0 0] 69))
  have HB3 := Lib.hid ((Blk.thd w (.cells #[.slice A n c, .slice A2 n2 c2] 29) (.cells #[.string ⟨item.toArray⟩] 9) 3 #[.int .i64 at_]).alloc (.cells #[.string ⟨#[]⟩, .slice none 0 0] 69))
  have HB4 : Hid (Blk ((((w.alloc (.cells #[.slice A n c, .slice A2 n2 c2] 29)).alloc (.cells #[.string ⟨item.toArray⟩] 9)).alloc (.cells #[.int .i64 at_] 3)).alloc (.cells #[.string ⟨#[]⟩, .slice none 0 0] 69)) (w.heap.size + 1 + 1 + 1) 69 #[.string ⟨#[]⟩, .slice none 0 0]) := Lib.hid (Blk.new' (by simp))
  have HP0 := Lib.hid ((((pure_alloc w (.cells #[.slice A n c, .slice A2 n2 c2] 29)).trans (pure_alloc _ (.cells #[.string ⟨item.toArray⟩] 9))).trans (pure_alloc _ (.cells #[.int .i64 at_] 3))).trans (pure_alloc _ (.cells #[.string ⟨#[]⟩, .slice none 0 0] 69)))
  generalize latD L.asks at_ ds item = y at *
  generalize latO L.asks (prI item at_) ds = o at *
  clear hA hR hL hLB hD hz hk
  go_enter Tryz.func40, Tryz.ntmps40
  go_upto_region 1 with (fail)
  generalize ((((w.alloc (.cells #[.slice A n c, .slice A2 n2 c2] 29)).alloc (.cells #[.string ⟨item.toArray⟩] 9)).alloc (.cells #[.int .i64 at_] 3)).alloc (.cells #[.string ⟨#[]⟩, .slice none 0 0] 69)) = w1 at *
  generalize hg : w.heap.size = g3 at *
  have hg3 := Nat.le_of_eq hg
  clear hg
  have HLW := Lib.hid (HLT.out w1 HP0.out (g3 + 1) (g3 + 1 + 1) (by have := HB2.out.cell 0; simpa using this) (by have := HB3.out.cell 0; simpa using this))
  have hX := HB1.out
  have l0 := hX.cell 0; have l1 := hX.cell 1; simp at l0 l1
  clear hX HLT
  go_wp2_with fail
  refine HLW.out.mono ?_
  rintro e w2 ⟨rfl, hm⟩
  rw [← HQ.out]
  have HP2 := Lib.hid (HP0.out.trans hm)
  have hY := HB2.out.modp hm
  have hR := HB4.out.modp hm
  obtain ⟨xno, xat, xrev, xitem, xsec, xA, xc, xv⟩ := y
  clear l0 l1 HLW HB1 HB3 hm HQ
  simp only [DecVal.eq]
  go_upto_region 2 with (fail)
  have hY2 := hY.alloc (.cells #[.int .i64 xno, .int .i64 xat, .string ⟨xrev.toArray⟩, .string ⟨xitem.toArray⟩, .bool xsec, .slice xA xv.length xc] 40)
  have hR2 := hR.alloc (.cells #[.int .i64 xno, .int .i64 xat, .string ⟨xrev.toArray⟩, .string ⟨xitem.toArray⟩, .bool xsec, .slice xA xv.length xc] 40)
  have hZ := Blk.new w2 40 #[.int .i64 xno, .int .i64 xat, .string ⟨xrev.toArray⟩, .string ⟨xitem.toArray⟩, .bool xsec, .slice xA xv.length xc]
  have HP3 := Lib.hid (HP2.out.alloc (.cells #[.int .i64 xno, .int .i64 xat, .string ⟨xrev.toArray⟩, .string ⟨xitem.toArray⟩, .bool xsec, .slice xA xv.length xc] 40))
  clear hY hR HP2 HB2 HB4
  generalize (w2.alloc (.cells #[.int .i64 xno, .int .i64 xat, .string ⟨xrev.toArray⟩, .string ⟨xitem.toArray⟩, .bool xsec, .slice xA xv.length xc] 40)) = w3 at *
  generalize w2.heap.size = g9 at *
  have HRR := Lib.hid hR2
  have a0 := hY2.cell 0; simp at a0
  have d0 := hR2.cell 0; have df0 := hR2.frozen 0; have d1 := hR2.cell 1; have df1 := hR2.frozen 1; simp at d0 d1
  have e0 := hZ.cell 0; have e1 := hZ.cell 1; have e2 := hZ.cell 2; have e3 := hZ.cell 3; have e4 := hZ.cell 4; have e5 := hZ.cell 5; simp at e0 e1 e2 e3 e4 e5
  clear hY2 hR2 hZ
  go_wp2_with fail
  have hms : Mod (· = g3 + 1 + 1 + 1) w3 ((w3.setCell ⟨g3 + 1 + 1 + 1, 0, none⟩ (.string ⟨item.toArray⟩)).setCell ⟨g3 + 1 + 1 + 1, 1, none⟩ (.slice xA xv.length xc)) := (Mod.setCell (S := (· = g3 + 1 + 1 + 1)) (p := ⟨g3 + 1 + 1 + 1, 0, none⟩) (Mod.refl _ _) (.inl rfl) _).setCell (p := ⟨g3 + 1 + 1 + 1, 1, none⟩) (.inl rfl) _
  have hR9 : Blk ((w3.setCell ⟨g3 + 1 + 1 + 1, 0, none⟩ (.string ⟨item.toArray⟩)).setCell ⟨g3 + 1 + 1 + 1, 1, none⟩ (.slice xA xv.length xc)) (g3 + 1 + 1 + 1) 69 #[.string ⟨item.toArray⟩, .slice xA xv.length xc] := HRR.out.set2
  have r0 := hR9.cell 0
  have r1 := hR9.cell 1
  simp at r0 r1
  refine bodyPost_ret (v := .agg #[.string ⟨item.toArray⟩, .slice xA xv.length xc]) (by simp [results, Tryz.results40, go_sem, r0, r1]) rfl ?_
  exact ⟨rfl, HP3.out.trans' hms (fun i hi hl => by omega)⟩
theorem compactOwn_calls (w : World) (base n cap : Nat) (A : Option Addr) (ss : List Str) (hown : w.ownsRow base 9 1 (.slice A n cap) n (strsV ss)) (hl : ss.length ≤ 1000000) :
    Calls Tryz.prog 154 #[.slice A n cap] w (fun e w' => ∃ v', e = .returned v' ∧ Sl w' 9 1 v' (strsV (Lib.compact ss)) ∧ Mod (fun k => base ≤ k) w w') := by
  rcases hown.2 with ⟨h0, hn⟩ | ⟨g, cap', cur, hv, hbase, hb, h1, h2, h3, h4⟩
  · cases h0
    have e : ss = [] := by
      have := hown.1
      rw [strsV_len] at this
      exact List.eq_nil_of_length_eq_zero (by omega)
    subst e
    refine (Any.slices_Compact_string_empty Tryz.lays194 none 0 w).mono ?_
    rintro e w' ⟨rfl, rfl⟩
    exact ⟨_, rfl, Sl.nil_, Mod.refl _ _⟩
  · cases hv
    refine (compactS_calls2 w g cap n base ss hown hl).mono ?_
    rintro e w' ⟨rfl, hown2, hm⟩
    exact ⟨_, rfl, Sl.of_own hown2, hm.mono (fun k hk => by rw [hk]; exact hbase)⟩
/-- The row that decidedItems hands back. -/
def DiPost (w : World) (I : List Str) (e : Ending) (w' : World) : Prop := ∃ v, e = .returned v ∧ Sl w' 9 1 v (strsV I) ∧ Pure w w'
def DiRel (w : World) (base : Nat) (ds : List DecR) (gk : Nat) (x i : Value) (wr : World) : Prop :=
  ∃ (k cap : Nat) (A : Option Addr) (ss : List Str), ds.length - k = gk ∧ k ≤ ds.length ∧ x = .slice A ss.length cap ∧ i = .int .i64 (k : Int) ∧ ss = (ds.take k).map (·.item) ∧ wr.ownsRow base 9 1 (.slice A ss.length cap) ss.length (strsV ss) ∧ Pure w wr ∧ base ≤ wr.heap.size

set_option maxRecDepth 100000 in
set_option maxHeartbeats 4000000 in
theorem decidedItems_calls (w : World) (A3 : Option Addr) (n3 c3 : Nat) (ds : List DecR) (hD : Decs w (.slice A3 n3 c3) ds) (hn : ds.length ≤ 4000) : Calls Tryz.prog 103 #[.slice A3 n3 c3] w (DiPost w (itemsD ds)) := by
  obtain ⟨i0, hi0, hz0, hz1, hz2⟩ := info_parts info_str0
  have hl := hD.len
  subst hl
  have HD := Lib.hid hD
  have HIT : Hid (itemsD ds = Lib.compact ((ds.map (·.item)).mergeSort fun x y => decide (x ≤ y))) := Lib.hid rfl
  generalize itemsD ds = I at *
  clear hD
  go_enter Tryz.func103, Tryz.ntmps103
  go_wp2_with fail
  obtain ⟨base, hbase⟩ : ∃ base, base = w.heap.size := ⟨_, rfl⟩
  have hs1 := Nat.le_of_eq hbase
  have hs2 := Nat.le_of_eq hbase.symm
  clear hbase
  go_loopg [3, 8] ds.length (fun gk x i wr => DiRel w base ds gk x i wr)
  case atStart => exact ⟨0, 0, none, [], by omega, by omega, rfl, rfl, rfl, World.ownsRow_nil _ _ _ _, Mod.refl _ _, by omega⟩
  case round =>
    obtain ⟨k, cap, Ao, ss, rfl, hk, rfl, rfl, hss, hO, hm, hb⟩ := hrel
    have hsl : ss.length ≤ 4000 := by rw [hss]; simp; omega
    by_cases hlt : k < ds.length
    · obtain ⟨g, off, rfl, q0, q1, q2, q3, q4, q5⟩ := (HD.out.pure hm).cells hlt
      have HTK : Hid (ss ++ [(ds[k]).item] = (ds.take (k + 1)).map (·.item)) := Lib.hid (by rw [hss, List.take_succ_eq_append_getElem hlt, List.map_append]; rfl)
      generalize ds[k] = x at *
      obtain ⟨xno, xat, xrev, xitem, xsec, xA, xc, xv⟩ := x
      simp only at q0 q1 q2 q3 q4 q5 HTK
      have hX := Blk.new wr 40 #[.int .i64 xno, .int .i64 xat, .string ⟨xrev.toArray⟩, .string ⟨xitem.toArray⟩, .bool xsec, .slice xA xv.length xc]
      have hown := own_pure hO (pure_alloc _ (.cells #[.int .i64 xno, .int .i64 xat, .string ⟨xrev.toArray⟩, .string ⟨xitem.toArray⟩, .bool xsec, .slice xA xv.length xc] 40))
      have hm2 := hm.alloc (.cells #[.int .i64 xno, .int .i64 xat, .string ⟨xrev.toArray⟩, .string ⟨xitem.toArray⟩, .bool xsec, .slice xA xv.length xc] 40)
      clear hO hm hss
      go_upto_region 5 with (fail)
      clear q0 q1 q2 q3 q4 q5
      have hb2 : base ≤ (wr.alloc (.cells #[.int .i64 xno, .int .i64 xat, .string ⟨xrev.toArray⟩, .string ⟨xitem.toArray⟩, .bool xsec, .slice xA xv.length xc] 40)).heap.size := by simp; omega
      generalize (wr.alloc (.cells #[.int .i64 xno, .int .i64 xat, .string ⟨xrev.toArray⟩, .string ⟨xitem.toArray⟩, .bool xsec, .slice xA xv.length xc] 40)) = w3 at *
      generalize wr.heap.size = g9 at *
      have HM := Lib.hid hm2
      have d0 := hX.cell 0; have d1 := hX.cell 1; have d2 := hX.cell 2; have d3 := hX.cell 3; have d4 := hX.cell 4; have d5 := hX.cell 5; simp at d0 d1 d2 d3 d4 d5
      clear hX
      go_wp2_with ((at_builtin; refine wpList_append_lies _ rfl _ _ _ rfl base 9 i0 _ 1 16 Tryz.underlying35 hi0 hz0 hz1 hz2 rfl (by omega) (.slice Ao ss.length cap) ss.length (strsV ss) rfl (hown.alloc _) ⟨w3.heap.size, 0, none⟩ 1 1 [.string ⟨xitem.toArray⟩] rfl rfl (World.news_of_block (cs := #[.string ⟨xitem.toArray⟩]) (t := 9) (fr := (0, 0)) (heap_alloc_new w3 _)) (by simp [Value.oneCell']) (by omega) (by simp [maxLen]; omega) (by omega) (by have := hm2.size; simp; omega) (w3.heap.size + 1) (by simp) ?_; intro g5 cap5 w5 hown5 hgrow hat hlt5))
      have mG := mod_grown hgrow
      have hob := own_block hown
      have hzz := mG.size
      simp only [World.size_alloc] at hzz
      go_roundg (ds.length - (k + 1))
      case measure => omega
      case rel => exact ⟨k + 1, cap5, some ⟨g5, 0, none⟩, ss ++ [xitem], rfl, by omega, by simp, by simp, HTK.out, by simpa [strsV] using hown5, (HM.out.alloc _).grown hgrow (fun i hi => .inr (by have := hob i hi; omega)), by omega⟩
    · have hke : k = ds.length := by omega
      have HSS : Hid (ss = ds.map (·.item)) := Lib.hid (by rw [hss, List.take_of_length_le (by omega)])
      have HOO := Lib.hid hO
      have HMM := Lib.hid hm
      have HSO := Lib.hid (sortS_calls2 wr _ _ base ss hO (by omega))
      clear hO hm hss hke
      go_wp2_with fail
      refine HSO.out.mono ?_
      rintro e w2 ⟨rfl, hown2, hm2⟩
      have HM2 : Hid (Pure w w2) := Lib.hid (HMM.out.trans' hm2 (fun i hi hl => by have := own_block HOO.out i hi; omega))
      have hln : (ss.mergeSort fun x y => decide (x ≤ y)).length = ss.length := List.length_mergeSort _
      rw [hln] at hown2
      have HCO := Lib.hid (compactOwn_calls w2 base ss.length cap Ao _ hown2 (by omega))
      clear hown2 hm2 HSO HOO HMM hln
      go_wp2_with fail
      refine HCO.out.mono ?_
      rintro e w4 ⟨v4, rfl, hsl4, hm4⟩
      have HS4 := Lib.hid hsl4
      have HM4 : Hid (Pure w w4) := Lib.hid (HM2.out.trans' hm4 (fun i hi hl => by omega))
      clear hsl4 hm4 HCO
      go_wp2_with fail
      go_ret
      exact ⟨v4, rfl, by rw [HIT.out, ← HSS.out]; exact HS4.out, HM4.out⟩

/-- The reference's codings: the values' slices are those of the decisions. -/
def RcPost (w : World) (CL : List CodR) (e : Ending) (w' : World) : Prop := ∃ (A : Option Addr) (c : Nat), e = .returned (.slice A CL.length c) ∧ Cods w' (.slice A CL.length c) CL ∧ Pure w w'
def codD (al : List AskR) (at_ : Int) (ds : List DecR) (i : Str) : CodR := ⟨i, (latD al at_ ds i).A, (latD al at_ ds i).c, (latD al at_ ds i).vals⟩
theorem codD_L {al : List AskR} {at_ : Int} {ds : List DecR} {i : Str} : codD al at_ ds i = codL al ds at_ i := by
  unfold codD codL latD
  cases latO al (prI i at_) ds <;> rfl
def itsF (al : List AskR) (at_ : Int) (ds : List DecR) (I : List Str) : List Str := I.filter (fun i => decide (0 < (codV al ds at_ i).length))
theorem itsF_step {al : List AskR} {at_ : Int} {ds : List DecR} {I : List Str} {k : Nat} (h : k < I.length) : itsF al at_ ds (I.take (k + 1)) = if 0 < (latD al at_ ds I[k]).vals.length then itsF al at_ ds (I.take k) ++ [I[k]] else itsF al at_ ds (I.take k) := by
  unfold itsF
  rw [List.take_succ_eq_append_getElem h, List.filter_append, latD_vals]
  by_cases h0 : 0 < (codV al ds at_ I[k]).length
  · rw [if_pos h0]; simp [h0]
  · rw [if_neg h0]; simp [h0]
def RcRel (w : World) (base g3 : Nat) (lay : Array Value) (al : List AskR) (at_ : Int) (ds : List DecR) (I : List Str) (gk : Nat) (x i : Value) (wr : World) : Prop :=
  ∃ (k cap : Nat) (A : Option Addr) (xs : List CodR), I.length - k = gk ∧ k ≤ I.length ∧ x = .slice A xs.length cap ∧ i = .int .i64 (k : Int) ∧ xs = (itsF al at_ ds (I.take k)).map (codD al at_ ds) ∧ xs.length ≤ k ∧ CdOk wr base A cap xs xs ∧ Blk wr g3 29 lay ∧ Pure w wr ∧ base ≤ wr.heap.size

set_option maxRecDepth 100000 in
set_option maxHeartbeats 8000000 in
theorem codingsAt_calls (w : World) (vl : Value) (L : LayR) (A3 : Option Addr) (n3 c3 : Nat) (ds : List DecR) (at_ : Int) (hL : LayV w L vl) (hLB : LayB L) (hD : Decs w (.slice A3 n3 c3) ds) (hz : ∀ d ∈ ds, DecB d) (hn : ds.length ≤ 4000) (hk : ∀ d ∈ ds, ∀ z ∈ d.vals, 0 ≤ kIx L.asks z.field) :
    Calls Tryz.prog 42 #[vl, .slice A3 n3 c3, .int .i64 at_] w (RcPost w ((itsF L.asks at_ ds (itemsD ds)).map (codD L.asks at_ ds))) := by
  have HCA := Lib.hid (fun W (h : Pure w W) i => codedAt_calls W vl L A3 n3 c3 ds i at_ (hL.pure h) hLB (hD.pure h) hz hn hk)
  have HDI := Lib.hid (fun W (h : Pure w W) => decidedItems_calls W A3 n3 c3 ds (hD.pure h) hn)
  have HEL := Lib.hid (fun W (h : Pure w W) i => (latD_el (al := L.asks) (at_ := at_) (hD.2.pure h) hz i).1)
  have hil : (itemsD ds).length ≤ 4000 := by
    have h1 := compact_le2 ((ds.map (·.item)).mergeSort fun x y => decide (x ≤ y))
    rw [List.length_mergeSort, List.length_map] at h1
    exact Nat.le_trans h1 hn
  obtain ⟨A, n, c, A2, n2, c2, rfl, _, _⟩ := hL
  have HB0 := Lib.hid (Blk.new w 29 #[.slice A n c, .slice A2 n2 c2])
  have HP0 := Lib.hid (pure_alloc w (.cells #[.slice A n c, .slice A2 n2 c2] 29))
  clear hLB hD hz hk
  generalize itemsD ds = I at *
  go_enter Tryz.func42, Tryz.ntmps42
  go_upto_region 1 with (fail)
  generalize (w.alloc (.cells #[.slice A n c, .slice A2 n2 c2] 29)) = w1 at *
  generalize hg : w.heap.size = g3 at *
  have hg3 := Nat.le_of_eq hg
  clear hg
  go_wp2_with fail
  refine (HDI.out _ HP0.out).mono ?_
  rintro e w2 ⟨v2, rfl, hsl, hm⟩
  have HSI := Lib.hid (fun W (h : Pure w2 W) => hsl.pure h)
  obtain ⟨A4, n4, c4, rfl⟩ := hsl.form
  have hn4 := hsl.lenS
  have HP2 := Lib.hid (HP0.out.trans hm)
  have HB2 := Lib.hid (HB0.out.modp hm)
  have hbw := HB2.out.lt
  subst hn4
  clear hsl hm HP0 HB0 HDI
  go_wp2_with fail
  obtain ⟨base, hbase⟩ : ∃ base, base = w2.heap.size := ⟨_, rfl⟩
  have hs1 := Nat.le_of_eq hbase
  have hs2 := Nat.le_of_eq hbase.symm
  have hwb : w.heap.size ≤ base := by have := HP2.out.size; omega
  clear hbase
  go_loopg [7, 14] I.length (fun gk x i wr => RcRel w2 base g3 #[.slice A n c, .slice A2 n2 c2] L.asks at_ ds I gk x i wr)
  case atStart => exact ⟨0, 0, none, [], by omega, by omega, rfl, rfl, rfl, by simp, ⟨World.ownsRow_nil _ _ _ _, fun x h => absurd h (by simp), rfl⟩, HB2.out, Mod.refl _ _, by omega⟩
  case round =>
    obtain ⟨k, cap, Ao, xs, rfl, hk, rfl, rfl, hxs, hxl, hO, hB, hm, hb⟩ := hrel
    have HXS := Lib.hid hxs
    clear hxs
    by_cases hlt : k < I.length
    · obtain ⟨gr, off, rfl, hrow⟩ := (HSI.out _ hm).rowS (by omega)
      have q1 := hrow.cell (strsV_get _ k hlt)
      have HST := Lib.hid (itsF_step (al := L.asks) (at_ := at_) (ds := ds) hlt)
      have HCI := Lib.hid (fun W (h : Pure wr W) => HCA.out W (HP2.out.trans (hm.trans h)) I[k])
      have HELI := Lib.hid (fun W (h : Pure wr W) => HEL.out W (HP2.out.trans (hm.trans h)) I[k])
      have HDD : Hid (codD L.asks at_ ds I[k] = ⟨I[k], (latD L.asks at_ ds I[k]).A, (latD L.asks at_ ds I[k]).c, (latD L.asks at_ ds I[k]).vals⟩) := Lib.hid rfl
      have HO := Lib.hid hO
      have HM := Lib.hid hm
      have HB := Lib.hid hB
      have hYB := hB
      clear hrow hO hm hB
      have l0 := hYB.cell 0; have l1 := hYB.cell 1; simp at l0 l1
      clear hYB
      generalize latD L.asks at_ ds I[k] = y at *
      generalize hcd : codD L.asks at_ ds I[k] = z at *
      have HCD := Lib.hid hcd
      clear hcd
      generalize hs : I[k] = s at *
      clear hs
      obtain ⟨yno, yat, yrev, yitem, ysec, yA, yc, yv⟩ := y
      simp only at HELI HDD HST
      go_wp2_with fail
      refine (HCI.out _ (Mod.refl _ _)).mono ?_
      rintro e w5 ⟨rfl, hm5⟩
      simp only
      go_upto_region 6 with (fail)
      have HO6 := Lib.hid ((HO.out.pure hm5).pure (pure_alloc _ (.cells #[.string ⟨s.toArray⟩, .slice yA yv.length yc] 69)))
      have HB6 := Lib.hid ((HB.out.modp hm5).alloc (.cells #[.string ⟨s.toArray⟩, .slice yA yv.length yc] 69))
      have HM6 := Lib.hid ((HM.out.trans hm5).alloc (.cells #[.string ⟨s.toArray⟩, .slice yA yv.length yc] 69))
      have HV6 := Lib.hid ((HELI.out _ hm5).pure (pure_alloc w5 (.cells #[.string ⟨s.toArray⟩, .slice yA yv.length yc] 69)))
      have hX := Blk.new w5 69 #[.string ⟨s.toArray⟩, .slice yA yv.length yc]
      have hb6 : base ≤ (w5.alloc (.cells #[.string ⟨s.toArray⟩, .slice yA yv.length yc] 69)).heap.size := by have := hm5.size; simp; omega
      clear hm5 HO HB HM HCI HELI q1 l0 l1
      generalize (w5.alloc (.cells #[.string ⟨s.toArray⟩, .slice yA yv.length yc] 69)) = w6 at *
      generalize w5.heap.size = g10 at *
      have d0 := hX.cell 0; have d1 := hX.cell 1; simp at d0 d1
      clear hX
      have hownO := HO6.out.1
      have hmO := HM6.out
      by_cases h0 : 0 < yv.length
      · have h0' : (0 : Int) < (yv.length : Int) := by omega
        have HST2 := Lib.hid (HST.out.trans (if_pos h0))
        obtain ⟨i0, hi0, hz0, hz1, hz2⟩ := info_parts info_cod
        clear HST h0
        go_wp2_with ((at_builtin; refine wpList_append_lies _ rfl _ _ _ rfl base 69 i0 _ 2 40 Tryz.underlying49 hi0 hz0 hz1 hz2 rfl (by omega) (.slice Ao xs.length cap) xs.length (cdV xs) rfl (hownO.alloc _) ⟨w6.heap.size, 0, none⟩ 1 1 [.string ⟨s.toArray⟩, .slice yA yv.length yc] rfl rfl (World.news_of_block (cs := #[.string ⟨s.toArray⟩, .slice yA yv.length yc]) (t := 69) (fr := (0, 0)) (heap_alloc_new w6 _)) (by simp [Value.oneCell']) (by omega) (by simp [maxLen]; omega) (by omega) (by have := hmO.size; simp; omega) (w6.heap.size + 1) (by simp) ?_; intro g5 cap5 w5 hown5 hgrow hat hlt5))
        have mG := mod_grown hgrow
        have hob := own_block hownO
        have hzz := mG.size
        simp only [World.size_alloc] at hzz
        have hoa := hownO.alloc (.cells #[.string ⟨s.toArray⟩, .slice yA yv.length yc] 69)
        go_roundg (I.length - (k + 1))
        case measure => omega
        case rel =>
          refine ⟨k + 1, cap5, some ⟨g5, 0, none⟩, xs ++ [⟨s, yA, yc, yv⟩], rfl, by omega, by simp, by simp, ?_, by simp; omega, ?_, (HB6.out.alloc (.cells #[.string ⟨s.toArray⟩, .slice yA yv.length yc] 69)).mod mG (fun hs => ?_), (HM6.out.alloc _).grown hgrow (fun i hi => .inr (by have := hob i hi; omega)), by omega⟩
          · rw [HST2.out, List.map_append, List.map_cons, List.map_nil, HCD.out, HDD.out, ← HXS.out]
          · exact (HO6.out.pure (pure_alloc _ (.cells #[.string ⟨s.toArray⟩, .slice yA yv.length yc] 69))).app (x := ⟨s, yA, yc, yv⟩) (y := ⟨s, yA, yc, yv⟩) (HV6.out.pure (pure_alloc _ _)) rfl mG rfl hown5
          · have h3 := HB6.out.alloc (.cells #[.string ⟨s.toArray⟩, .slice yA yv.length yc] 69); unfold Blk at h3; exact absurd (own_ty hoa hs h3) (by decide)
      · have h0' : ¬ (0 : Int) < (yv.length : Int) := by omega
        have HST2 := Lib.hid (HST.out.trans (if_neg h0))
        clear HST h0
        go_wp2_with fail
        go_roundg (I.length - (k + 1))
        case measure => omega
        case rel => exact ⟨k + 1, cap, Ao, xs, rfl, by omega, rfl, by simp, by rw [HST2.out]; exact HXS.out, by omega, HO6.out, HB6.out, HM6.out, hb6⟩
    · have hke : k = I.length := by omega
      have HXE : Hid (xs = (itsF L.asks at_ ds I).map (codD L.asks at_ ds)) := Lib.hid (by rw [HXS.out, List.take_of_length_le (by omega)])
      have HO := Lib.hid hO
      have HM := Lib.hid hm
      clear hO hm hB HXS hke
      go_wp2_with fail
      go_ret
      rw [← HXE.out]
      exact ⟨Ao, cap, rfl, HO.out.cods, HP2.out.trans HM.out⟩

end Go.Proofs.YtkkndblcejmmjaaGreatDoor
