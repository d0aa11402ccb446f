/- Texts of the proof of ValueChecks, put together: LayF. -/
import Derived.Test.YtinjblkhblhlpaaDoorValueChecksZ20
/- What was chosen for a field: program and reference. -/
namespace Go.Proofs.YtinjblkhblhlpaaDoor
set_option linter.unusedVariables false
set_option linter.unusedSimpArgs false
open Go.RowKit

def choI (v : List ChoR) (f : Str) : Int := match v.findIdx? fun c => decide (c.field = f) with | none => -1 | some k => (k : Int)
theorem choI_idx (v : List ChoR) (f : Str) : idxQ (fun x : ChoR => x.field == f) v 0 = choI v f := by
  rw [idxQ_findIdx]
  unfold choI
  rw [show (fun x : ChoR => x.field == f) = fun a => decide (a.field = f) from by funext x; rw [Bool.eq_iff_iff]; simp]
  cases v.findIdx? fun a => decide (a.field = f) with
  | none => rfl
  | some k => simp
theorem chIn_none {v : List ChoR} {f : Str} (h : (v.findIdx? fun c => decide (c.field = f)) = none) : chIn v f = [] := by
  rw [List.findIdx?_eq_none_iff] at h
  unfold chIn
  rw [List.find?_eq_none.2 (fun x hx => by have := h x hx; simpa using this)]
  rfl
theorem chIn_some {v : List ChoR} {f : Str} {k : Nat} (h : (v.findIdx? fun c => decide (c.field = f)) = some k) : ∃ hk : k < v.length, chIn v f = v[k].ch := by
  rw [List.findIdx?_eq_some_iff_getElem] at h
  obtain ⟨hk, h1, h2⟩ := h
  refine ⟨hk, ?_⟩
  unfold chIn
  have : v.find? (fun c => decide (c.field = f)) = some v[k] := by
    rw [List.find?_eq_some_iff_getElem]
    exact ⟨h1, k, hk, rfl, fun j hj => by simpa using h2 j hj⟩
  rw [this]
  rfl
theorem chIn_cons (x : ChoR) (t : List ChoR) (f : Str) : chIn (x :: t) f = if x.field = f then x.ch else chIn t f := by
  unfold chIn
  by_cases h : x.field = f <;> simp [h]
theorem chIn_len {v : List ChoR} (f : Str) (h : ∀ c ∈ v, c.ch.length ≤ 1000) : (chIn v f).length ≤ 1000 := by
  cases hx : v.findIdx? fun c => decide (c.field = f) with
  | none => rw [chIn_none hx]; simp
  | some k =>
    obtain ⟨hk, e⟩ := chIn_some hx
    rw [e]
    exact h _ (List.getElem_mem hk)
def ChPost (w : World) (v : List ChoR) (f : Str) (e : Ending) (w' : World) : Prop := ∃ (A : Option Addr) (c : Nat), e = .returned (.slice A (chIn v f).length c) ∧ Sl w' 9 1 (.slice A (chIn v f).length c) (strsV (chIn v f)) ∧ Pure w w'
set_option maxRecDepth 100000 in
set_option maxHeartbeats 4000000 in
theorem value_calls (w : World) (vv : Value) (v : List ChoR) (f : Str) (hV : Vals w vv v) : Calls Tryd.prog 42 #[vv, .string ⟨f.toArray⟩] w (ChPost w v f) := by
  obtain ⟨AV, nv, cv, rfl⟩ := hV.1.form
  have hnv := hV.len
  have B0 := Blk.new w 9 #[.string ⟨f.toArray⟩]
  have HP := Lib.hid (pure_alloc w (.cells #[.string ⟨f.toArray⟩] 9))
  have HIX := Lib.hid (indexC1_calls (w.alloc (.cells #[.string ⟨f.toArray⟩] 9)) (.slice AV nv cv) v 55 (.pointer (some ⟨w.heap.size, 0, none⟩)) (fun x => x.field == f) (hV.1.pure HP.out) (fun _ _ => rfl)
    (fun x W _ hm => value1_calls W w.heap.size f x (hm.keep (by simp [B0.cell 0]) id)))
  rw [choI_idx] at HIX
  have HV := Lib.hid hV
  clear hV B0
  unfold choI at HIX
  cases hx : v.findIdx? fun c => decide (c.field = f) with
  | none =>
    have HC := Lib.hid (chIn_none hx)
    rw [hx] at HIX
    simp only [] at HIX
    clear hx
    go_enter Tryd.func42, Tryd.ntmps42
    go_wp2_with fail
    refine HIX.out.mono ?_
    rintro e w1 ⟨rfl, hm⟩
    go_wp2_with fail
    go_ret
    exact ⟨none, 0, by rw [HC.out]; rfl, by rw [HC.out]; exact Sl.nil_, HP.out.trans hm⟩
  | some k =>
    obtain ⟨hk, e1⟩ := chIn_some hx
    have HC := Lib.hid e1
    rw [hx] at HIX
    simp only [] at HIX
    obtain ⟨g, off, rfl, q0, q1⟩ := HV.out.cells hk
    have HQ1 := Lib.hid q1
    have HS := Lib.hid (fun W (h : Pure w W) => (HV.out.pure h).2 _ (List.getElem_mem hk))
    have hkn : (k : Int) < (nv : Int) := by omega
    clear hx e1 q0 q1
    generalize v[k] = x at *
    go_enter Tryd.func42, Tryd.ntmps42
    go_wp2_with fail
    refine HIX.out.mono ?_
    rintro e w1 ⟨rfl, hm⟩
    have q1 := (HP.out.trans hm).keep HQ1.out _root_.id
    have HM := Lib.hid (HP.out.trans hm)
    clear HIX hm
    go_wp2_with fail
    go_ret
    exact ⟨x.A, x.c, by rw [HC.out]; rfl, by rw [HC.out]; exact HS.out _ HM.out, HM.out⟩
set_option maxRecDepth 100000 in
set_option maxHeartbeats 4000000 in
theorem choicesIn_calls (w : World) (vv : Value) (v : List ChoR) (f : Str) (hV : Vals w vv v) (hvl : v.length ≤ 1000000) : Calls Tryd.prog 38 #[vv, .string ⟨f.toArray⟩] w (ChPost w v f) := by
  obtain ⟨AV, nv, cv, rfl⟩ := hV.1.form
  have hnv := hV.len
  have HV := Lib.hid hV
  clear hV
  go_enter Tryd.func38, Tryd.ntmps38
  go_wp2_with fail
  go_loopg [9] nv (fun gk i wr => ∃ k : Nat, nv - k = gk ∧ k ≤ nv ∧ i = .int .i64 (k : Int) ∧ chIn v f = chIn (v.drop k) f ∧ Pure w wr)
  case atStart => exact ⟨0, by omega, by omega, rfl, rfl, Mod.refl _ _⟩
  case round =>
    obtain ⟨k, rfl, hk, rfl, hix, hm⟩ := hrel
    by_cases hlt : k < nv
    · have hkl : k < v.length := by omega
      rw [List.drop_eq_getElem_cons hkl, chIn_cons] at hix
      obtain ⟨g, off, rfl, q0, q1⟩ := (HV.out.pure hm).cells hkl
      have HS := Lib.hid (fun W (h : Pure w W) => (HV.out.pure h).2 _ (List.getElem_mem hkl))
      have HIX := Lib.hid hix
      have HM := Lib.hid hm
      clear hix hm
      generalize v[k] = x at *
      obtain ⟨xf, xA, xc, xs⟩ := x
      simp only [] at q0 q1 HIX HS
      have hx1 := Blk.new wr 54 #[.string ⟨xf.toArray⟩, .slice xA xs.length xc]
      have x0 := hx1.cell 0; have x1 := hx1.cell 1; simp at x0 x1
      clear hx1
      have HM2 := Lib.hid (HM.out.alloc (.cells #[.string ⟨xf.toArray⟩, .slice xA xs.length xc] 54))
      obtain ⟨bf, hbf⟩ : ∃ bf, (xf == f) = bf := ⟨_, rfl⟩
      have HBF := Lib.hid hbf
      cases bf
      · have HN : Hid (chIn v f = chIn (v.drop (k + 1)) f) := Lib.hid (by rw [HIX.out, if_neg (by simpa using HBF.out)])
        clear HIX HBF
        go_wp2_with fail
        go_roundg (nv - (k + 1))
        case measure => omega
        case rel => exact ⟨k + 1, rfl, hlt, by simp, HN.out, HM2.out⟩
      · have HN : Hid (chIn v f = xs) := Lib.hid (by rw [HIX.out, if_pos (by simpa using HBF.out)])
        clear HIX HBF
        go_wp2_with fail
        go_ret
        exact ⟨xA, xc, by rw [HN.out]; rfl, by rw [HN.out]; exact HS.out _ HM2.out, HM2.out⟩
    · have hke : v.length = k := by omega
      have HN : Hid (chIn v f = []) := Lib.hid (by rw [hix, ← hke, List.drop_length]; rfl)
      have hkn : nv = k := by omega
      have HM := Lib.hid hm
      subst hkn
      clear hke hix hlt hk hm
      go_wp2_with fail
      go_ret
      exact ⟨none, 0, by rw [HN.out]; rfl, by rw [HN.out]; exact Sl.nil_, HM.out⟩

end Go.Proofs.YtinjblkhblhlpaaDoor
