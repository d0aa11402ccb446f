/- Texts of the proof of CodingLatest, put together: LayF, EqlF. -/
import Derived.Test.YtkkndblcejmmjaaGreatDoorCodingLatestZ15
import Derived.Test.YtkkndblcejmmjaaGreatDoorCodingLatestZ19
import Derived.Test.YtkkndblcejmmjaaGreatDoorCodingLatestZ28
/- What was chosen for a field: program and reference. -/
namespace Go.Proofs.YtkkndblcejmmjaaGreatDoor
set_option linter.unusedVariables false
set_option linter.unusedSimpArgs false
open Go.RowKit

def choI (v : List ChoR) (f : Str) : Int := match v.findIdx? fun c => decide (c.field = f) with | none => -1 | some k => (k : Int)
theorem choI_idx (v : List ChoR) (f : Str) : idxQ (fun x : ChoR => x.field == f) v 0 = choI v f := by
  rw [idxQ_findIdx]
  unfold choI
  rw [show (fun x : ChoR => x.field == f) = fun a => decide (a.field = f) from by funext x; rw [Bool.eq_iff_iff]; simp]
  cases v.findIdx? fun a => decide (a.field = f) with
  | none => rfl
  | some k => simp
theorem chIn_none {v : List ChoR} {f : Str} (h : (v.findIdx? fun c => decide (c.field = f)) = none) : chIn v f = [] := by
  rw [List.findIdx?_eq_none_iff] at h
  unfold chIn
  rw [List.find?_eq_none.2 (fun x hx => by have := h x hx; simpa using this)]
  rfl
theorem chIn_some {v : List ChoR} {f : Str} {k : Nat} (h : (v.findIdx? fun c => decide (c.field = f)) = some k) : ∃ hk : k < v.length, chIn v f = v[k].ch := by
  rw [List.findIdx?_eq_some_iff_getElem] at h
  obtain ⟨hk, h1, h2⟩ := h
  refine ⟨hk, ?_⟩
  unfold chIn
  have : v.find? (fun c => decide (c.field = f)) = some v[k] := by
    rw [List.find?_eq_some_iff_getElem]
    exact ⟨h1, k, hk, rfl, fun j hj => by simpa using h2 j hj⟩
  rw [this]
  rfl
theorem chIn_cons (x : ChoR) (t : List ChoR) (f : Str) : chIn (x :: t) f = if x.field = f then x.ch else chIn t f := by
  unfold chIn
  by_cases h : x.field = f <;> simp [h]
theorem chIn_len {v : List ChoR} (f : Str) (h : ∀ c ∈ v, c.ch.length ≤ 1000) : (chIn v f).length ≤ 1000 := by
  cases hx : v.findIdx? fun c => decide (c.field = f) with
  | none => rw [chIn_none hx]; simp
  | some k =>
    obtain ⟨hk, e⟩ := chIn_some hx
    rw [e]
    exact h _ (List.getElem_mem hk)
def ChPost (w : World) (v : List ChoR) (f : Str) (e : Ending) (w' : World) : Prop := ∃ (A : Option Addr) (c : Nat), e = .returned (.slice A (chIn v f).length c) ∧ Sl w' 9 1 (.slice A (chIn v f).length c) (strsV (chIn v f)) ∧ Pure w w'
set_option maxRecDepth 100000 in
set_option maxHeartbeats 4000000 in
theorem value_calls (w : World) (vv : Value) (v : List ChoR) (f : Str) (hV : Vals w vv v) : Calls Tryz.prog 71 #[vv, .string ⟨f.toArray⟩] w (ChPost w v f) := by
  obtain ⟨AV, nv, cv, rfl⟩ := hV.1.form
  have hnv := hV.len
  have B0 := Blk.new w 9 #[.string ⟨f.toArray⟩]
  have HP := Lib.hid (pure_alloc w (.cells #[.string ⟨f.toArray⟩] 9))
  have HIX := Lib.hid (indexC1_calls (w.alloc (.cells #[.string ⟨f.toArray⟩] 9)) (.slice AV nv cv) v 130 (.pointer (some ⟨w.heap.size, 0, none⟩)) (fun x => x.field == f) (hV.1.pure HP.out) (fun _ _ => rfl)
    (fun x W _ hm => value1_calls W w.heap.size f x (hm.keep (by simp [B0.cell 0]) id)))
  rw [choI_idx] at HIX
  have HV := Lib.hid hV
  clear hV B0
  unfold choI at HIX
  cases hx : v.findIdx? fun c => decide (c.field = f) with
  | none =>
    have HC := Lib.hid (chIn_none hx)
    rw [hx] at HIX
    simp only [] at HIX
    clear hx
    go_enter Tryz.func71, Tryz.ntmps71
    go_wp2_with fail
    refine HIX.out.mono ?_
    rintro e w1 ⟨rfl, hm⟩
    go_wp2_with fail
    go_ret
    exact ⟨none, 0, by rw [HC.out]; rfl, by rw [HC.out]; exact Sl.nil_, HP.out.trans hm⟩
  | some k =>
    obtain ⟨hk, e1⟩ := chIn_some hx
    have HC := Lib.hid e1
    rw [hx] at HIX
    simp only [] at HIX
    obtain ⟨g, off, rfl, q0, q1⟩ := HV.out.cells hk
    have HQ1 := Lib.hid q1
    have HS := Lib.hid (fun W (h : Pure w W) => (HV.out.pure h).2 _ (List.getElem_mem hk))
    have hkn : (k : Int) < (nv : Int) := by omega
    clear hx e1 q0 q1
    generalize v[k] = x at *
    go_enter Tryz.func71, Tryz.ntmps71
    go_wp2_with fail
    refine HIX.out.mono ?_
    rintro e w1 ⟨rfl, hm⟩
    have q1 := (HP.out.trans hm).keep HQ1.out _root_.id
    have HM := Lib.hid (HP.out.trans hm)
    clear HIX hm
    go_wp2_with fail
    go_ret
    exact ⟨x.A, x.c, by rw [HC.out]; rfl, by rw [HC.out]; exact HS.out _ HM.out, HM.out⟩
set_option maxRecDepth 100000 in
set_option maxHeartbeats 4000000 in
theorem choicesIn_calls (w : World) (vv : Value) (v : List ChoR) (f : Str) (hV : Vals w vv v) (hvl : v.length ≤ 1000000) : Calls Tryz.prog 78 #[vv, .string ⟨f.toArray⟩] w (ChPost w v f) := by
  obtain ⟨AV, nv, cv, rfl⟩ := hV.1.form
  have hnv := hV.len
  have HV := Lib.hid hV
  clear hV
  go_enter Tryz.func78, Tryz.ntmps78
  go_wp2_with fail
  go_loopg [9] nv (fun gk i wr => ∃ k : Nat, nv - k = gk ∧ k ≤ nv ∧ i = .int .i64 (k : Int) ∧ chIn v f = chIn (v.drop k) f ∧ Pure w wr)
  case atStart => exact ⟨0, by omega, by omega, rfl, rfl, Mod.refl _ _⟩
  case round =>
    obtain ⟨k, rfl, hk, rfl, hix, hm⟩ := hrel
    by_cases hlt : k < nv
    · have hkl : k < v.length := by omega
      rw [List.drop_eq_getElem_cons hkl, chIn_cons] at hix
      obtain ⟨g, off, rfl, q0, q1⟩ := (HV.out.pure hm).cells hkl
      have HS := Lib.hid (fun W (h : Pure w W) => (HV.out.pure h).2 _ (List.getElem_mem hkl))
      have HIX := Lib.hid hix
      have HM := Lib.hid hm
      clear hix hm
      generalize v[k] = x at *
      obtain ⟨xf, xA, xc, xs⟩ := x
      simp only [] at q0 q1 HIX HS
      have hx1 := Blk.new wr 105 #[.string ⟨xf.toArray⟩, .slice xA xs.length xc]
      have x0 := hx1.cell 0; have x1 := hx1.cell 1; simp at x0 x1
      clear hx1
      have HM2 := Lib.hid (HM.out.alloc (.cells #[.string ⟨xf.toArray⟩, .slice xA xs.length xc] 105))
      obtain ⟨bf, hbf⟩ : ∃ bf, (xf == f) = bf := ⟨_, rfl⟩
      have HBF := Lib.hid hbf
      cases bf
      · have HN : Hid (chIn v f = chIn (v.drop (k + 1)) f) := Lib.hid (by rw [HIX.out, if_neg (by simpa using HBF.out)])
        clear HIX HBF
        go_wp2_with fail
        go_roundg (nv - (k + 1))
        case measure => omega
        case rel => exact ⟨k + 1, rfl, hlt, by simp, HN.out, HM2.out⟩
      · have HN : Hid (chIn v f = xs) := Lib.hid (by rw [HIX.out, if_pos (by simpa using HBF.out)])
        clear HIX HBF
        go_wp2_with fail
        go_ret
        exact ⟨xA, xc, by rw [HN.out]; rfl, by rw [HN.out]; exact HS.out _ HM2.out, HM2.out⟩
    · have hke : v.length = k := by omega
      have HN : Hid (chIn v f = []) := Lib.hid (by rw [hix, ← hke, List.drop_length]; rfl)
      have hkn : nv = k := by omega
      have HM := Lib.hid hm
      subst hkn
      clear hke hix hlt hk hm
      go_wp2_with fail
      go_ret
      exact ⟨none, 0, by rw [HN.out]; rfl, by rw [HN.out]; exact Sl.nil_, HM.out⟩

end Go.Proofs.YtkkndblcejmmjaaGreatDoor

/- Two lists compared element by element: SameChoice, SameValues, SameDecision, slices.EqualFunc. -/
namespace Go.Proofs.YtkkndblcejmmjaaGreatDoor
set_option linter.unusedVariables false
set_option linter.unusedSimpArgs false
open Go.RowKit

theorem Sl.capL {w : World} {e : TypeId} {size n c : Nat} {A : Option Addr} {xs : List Value} (h : Sl w e size (.slice A n c) xs) : n ≤ c ∧ c ≤ 9223372036854775807 := by
  obtain ⟨A', n', c', e, h1, h2, _⟩ := h
  injection e with _ e2 e3
  subst e2 e3
  exact ⟨h1, h2⟩
def eqL {α β : Type} (f : α → β → Bool) : List α → List β → Bool
  | [], [] => true
  | [], _ :: _ => false
  | _ :: _, [] => false
  | x :: s, y :: t => f x y && eqL f s t
theorem eqL_len {α β : Type} (f : α → β → Bool) : ∀ {xs : List α} {ys : List β}, xs.length ≠ ys.length → eqL f xs ys = false
  | [], [], h => absurd rfl h
  | [], _ :: _, _ => rfl
  | _ :: _, [], _ => rfl
  | x :: s, y :: t, h => by
    show (f x y && eqL f s t) = false
    rw [eqL_len f (fun e => h (by simp [e])), Bool.and_false]
theorem eqL_step {α β : Type} (f : α → β → Bool) {xs : List α} {ys : List β} {k : Nat} (h1 : k < xs.length) (h2 : k < ys.length) : eqL f (xs.drop k) (ys.drop k) = (f xs[k] ys[k] && eqL f (xs.drop (k + 1)) (ys.drop (k + 1))) := by
  rw [List.drop_eq_getElem_cons h1, List.drop_eq_getElem_cons h2]
  rfl
theorem eqL_map {α β γ : Type} {f : α → β → Bool} {r : α → γ} {q : β → γ} (h : ∀ x y, f x y = true ↔ r x = q y) : ∀ {xs : List α} {ys : List β}, eqL f xs ys = true ↔ xs.map r = ys.map q
  | [], [] => by simp [eqL]
  | [], _ :: _ => by simp [eqL]
  | _ :: _, [] => by simp [eqL]
  | x :: s, y :: t => by
    show (f x y && eqL f s t) = true ↔ _
    rw [Bool.and_eq_true, h, eqL_map h, List.map_cons, List.map_cons, List.cons.injEq]
def choEq (x y : ChoR) : Bool := decide (x.field = y.field) && decide (x.ch = y.ch)
theorem choEq_iff (x y : ChoR) : choEq x y = true ↔ (x.field, x.ch) = (y.field, y.ch) := by
  unfold choEq
  simp
theorem likes_iff {xs ys : List ChoR} : eqL choEq xs ys = true ↔ likes xs ys := eqL_map choEq_iff
/-- An element's slice. -/
def ChoEl (W : World) (x : ChoR) : Prop := Sl W 9 1 (.slice x.A x.ch.length x.c) (strsV x.ch)
theorem ChoEl.pure {x : ChoR} {w w' : World} (h : ChoEl w x) (hm : Pure w w') : ChoEl w' x := Sl.pure h hm
theorem Vals.el {w : World} {v : Value} {xs : List ChoR} (h : Vals w v xs) {k : Nat} (hk : k < xs.length) : ChoEl w xs[k] := h.2 _ (List.getElem_mem hk)
def DecEl (W : World) (x : DecR) : Prop := Vals W (.slice x.A x.vals.length x.c) x.vals
theorem DecEl.pure {x : DecR} {w w' : World} (h : DecEl w x) (hm : Pure w w') : DecEl w' x := Vals.pure h hm
theorem Decs.el {w : World} {v : Value} {xs : List DecR} (h : Decs w v xs) {k : Nat} (hk : k < xs.length) : DecEl w xs[k] := h.2 _ (List.getElem_mem hk)

set_option maxRecDepth 100000 in
set_option maxHeartbeats 2000000 in
theorem sameChoice_calls (w : World) (x y : ChoR) (hx : ChoEl w x) (hy : ChoEl w y) : Calls Tryz.prog 121 #[.agg #[.string ⟨x.field.toArray⟩, .slice x.A x.ch.length x.c], .agg #[.string ⟨y.field.toArray⟩, .slice y.A y.ch.length y.c]] w (BoolPost w (choEq x y)) := by
  obtain ⟨xf, xA, xc, xs⟩ := x
  obtain ⟨yf, yA, yc, ys⟩ := y
  simp only
  have hp : Pure w ((w.alloc (.cells #[.string ⟨xf.toArray⟩, .slice xA xs.length xc] 105)).alloc (.cells #[.string ⟨yf.toArray⟩, .slice yA ys.length yc] 105)) := (pure_alloc _ _).trans (pure_alloc _ _)
  have HP := Lib.hid hp
  have HE := Lib.hid (equalG_calls _ _ _ xs ys (Sl.pure hx hp) (Sl.pure hy hp))
  have HQ : Hid (choEq ⟨xf, xA, xc, xs⟩ ⟨yf, yA, yc, ys⟩ = (decide (xf = yf) && decide (xs = ys))) := Lib.hid rfl
  clear hp hx hy
  generalize choEq ⟨xf, xA, xc, xs⟩ ⟨yf, yA, yc, ys⟩ = q at *
  generalize decide (xs = ys) = fc at *
  by_cases hf : xf = yf
  · subst hf
    have t1 : (xf == xf) = true := by simp
    have HQ2 : Hid (q = fc) := Lib.hid (by rw [HQ.out]; simp)
    clear HQ
    go_enter Tryz.func121, Tryz.ntmps121
    go_wp2_with fail
    refine HE.out.mono ?_
    rintro e w1 ⟨rfl, m1⟩
    go_wp2_with fail
    go_ret
    exact BoolPost.of HQ2.out (HP.out.trans m1)
  · have t1 : (xf == yf) = false := by simpa using hf
    have HQ2 : Hid (q = false) := Lib.hid (by rw [HQ.out]; simp [hf])
    clear HQ hf HE
    go_enter Tryz.func121, Tryz.ntmps121
    go_wp2_with fail
    go_ret
    exact BoolPost.of HQ2.out HP.out

set_option maxRecDepth 100000 in
set_option maxHeartbeats 2000000 in
theorem equalCho_calls (w : World) (v1 v2 : Value) (xs ys : List ChoR) (h1 : Vals w v1 xs) (h2 : Vals w v2 ys) :
    Calls Tryz.prog 120 #[v1, v2, .func (.func 121) #[] #[]] w (BoolPost w (eqL choEq xs ys)) := by
  obtain ⟨A1, n1, c1, rfl⟩ := h1.1.form
  obtain ⟨A2, n2, c2, rfl⟩ := h2.1.form
  have hb : n1 ≤ 9223372036854775807 := by have := Sl.capL h1.1; omega
  have hn1 := h1.len
  have hn2 := h2.len
  subst hn1 hn2
  have H1 := Lib.hid h1
  have H2 := Lib.hid h2
  have hcf : ∀ (x y : Value) (W : World), Sem.run Tryz.prog (callFunc 121 #[x, y]) W = .ok (.enter 121 #[x, y]) W := fun _ _ _ => rfl
  clear h1 h2
  by_cases hlen : xs.length = ys.length
  · have HLN := Lib.hid hlen
    have hlx := Nat.le_of_eq hlen
    have hly := Nat.le_of_eq hlen.symm
    have hne : ((xs.length : Int) != (ys.length : Int)) = false := by rw [hlen]; simp
    clear hlen
    go_enter Tryz.func120, Tryz.ntmps120
    go_wp2_with fail
    go_loopg [17] xs.length (fun gk i wr => ∃ k : Nat, xs.length - k = gk ∧ k ≤ xs.length ∧ i = .int .i64 (k : Int) ∧ Hid (eqL choEq (xs.drop k) (ys.drop k) = eqL choEq xs ys) ∧ Pure w wr)
    case atStart => exact ⟨0, by omega, by omega, rfl, Lib.hid rfl, Mod.refl _ _⟩
    case round =>
      obtain ⟨k, rfl, hk, rfl, HT, hm⟩ := hrel
      by_cases hlt : k < xs.length
      · have hky : k < ys.length := by omega
        obtain ⟨g1, o1, rfl, q0, q1⟩ := Vals.cells (H1.out.pure hm) hlt
        obtain ⟨g2, o2, rfl, p0, p1⟩ := Vals.cells (H2.out.pure hm) hky
        have s1 := Vals.el (H1.out.pure hm) hlt
        have s2 := Vals.el (H2.out.pure hm) hky
        have HS0 := Lib.hid (eqL_step choEq hlt hky)
        have HC := Lib.hid (fun W (h : Pure wr W) => sameChoice_calls W xs[k] ys[k] (ChoEl.pure s1 h) (ChoEl.pure s2 h))
        clear s1 s2
        generalize xs[k] = x at *
        generalize ys[k] = y at *
        have r0 := cell_alloc p0 (.cells #[.string ⟨x.field.toArray⟩, .slice x.A x.ch.length x.c] 105)
        have r1 := cell_alloc p1 (.cells #[.string ⟨x.field.toArray⟩, .slice x.A x.ch.length x.c] 105)
        have HP : Hid (Pure wr ((wr.alloc (.cells #[.string ⟨x.field.toArray⟩, .slice x.A x.ch.length x.c] 105)).alloc (.cells #[.string ⟨y.field.toArray⟩, .slice y.A y.ch.length y.c] 105))) := Lib.hid ((pure_alloc _ _).trans (pure_alloc _ _))
        have HM := Lib.hid (hm.trans HP.out)
        have HC2 := Lib.hid (HC.out _ HP.out)
        have HNX := Lib.hid (HT.out.symm.trans HS0.out)
        have i1 : (0 : Int) ≤ (k : Int) := by omega
        have i2 : (k : Int) < (xs.length : Int) := by omega
        have i3 : (k : Int) < (ys.length : Int) := by omega
        clear hm HT HS0 HC p0 p1
        generalize choEq x y = fb at *
        go_wp2_with fail
        refine HC2.out.mono ?_
        rintro e w1 ⟨rfl, hm1⟩
        cases fb
        · have HZ := HNX.out
          rw [Bool.false_and] at HZ
          have HZ2 := Lib.hid HZ
          clear HNX HZ
          go_wp2_with fail
          go_ret
          exact BoolPost.of HZ2.out (HM.out.trans hm1)
        · have HZ := HNX.out
          rw [Bool.true_and] at HZ
          have HZ2 := Lib.hid HZ
          clear HNX HZ
          go_wp2_with fail
          go_roundg (xs.length - (k + 1))
          case measure => omega
          case rel => exact ⟨k + 1, rfl, by omega, by simp, Lib.hid HZ2.out.symm, HM.out.trans hm1⟩
      · have HZ : Hid (eqL choEq xs ys = true) := Lib.hid (by
          rw [← HT.out, List.drop_of_length_le (by omega), List.drop_of_length_le (by have := HLN.out; omega)]; rfl)
        have hke : k = xs.length := by omega
        subst hke
        clear HT
        go_wp2_with fail
        go_ret
        exact BoolPost.of HZ.out hm
  · have HZ : Hid (eqL choEq xs ys = false) := Lib.hid (eqL_len choEq hlen)
    have hne : ((xs.length : Int) != (ys.length : Int)) = true := by rw [bne_iff_ne]; omega
    clear hlen
    go_enter Tryz.func120, Tryz.ntmps120
    go_wp2_with fail
    go_ret
    exact BoolPost.of HZ.out (Mod.refl _ _)


set_option maxRecDepth 100000 in
set_option maxHeartbeats 2000000 in
theorem sameValues_calls (w : World) (v1 v2 : Value) (xs ys : List ChoR) (h1 : Vals w v1 xs) (h2 : Vals w v2 ys) : Calls Tryz.prog 63 #[v1, v2] w (BoolPost w (eqL choEq xs ys)) := by
  have HE := Lib.hid (equalCho_calls w v1 v2 xs ys h1 h2)
  clear h1 h2
  generalize eqL choEq xs ys = q at *
  go_enter Tryz.func63, Tryz.ntmps63
  go_wp2_with fail
  refine HE.out.mono ?_
  rintro e w1 ⟨rfl, m1⟩
  go_wp2_with fail
  go_ret
  exact BoolPost.of rfl m1
end Go.Proofs.YtkkndblcejmmjaaGreatDoor
