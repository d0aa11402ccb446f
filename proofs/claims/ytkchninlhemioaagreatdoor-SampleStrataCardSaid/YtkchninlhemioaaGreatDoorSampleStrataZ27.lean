/- Texts of the proof of SampleStrata, put together: StrA. -/
import Derived.Test.YtkchninlhemioaaGreatDoorSampleStrataZ11
import Derived.Test.YtkchninlhemioaaGreatDoorSampleStrataZ14
import Derived.Test.YtkchninlhemioaaGreatDoorSampleStrataZ20
import Derived.Test.YtkchninlhemioaaGreatDoorSampleStrataZ22
/- Strata: how they lie in memory; their errors. -/
namespace Go.Proofs.YtkchninlhemioaaGreatDoor
set_option linter.unusedVariables false
set_option linter.unusedSimpArgs false
open Go.RowKit

/-- A stratum: its name, the slice of its ids, the ids. -/
abbrev Stm := Str × Value × List Str
def stV (xs : List Stm) : List Value := xs.flatMap fun p => [.string ⟨p.1.toArray⟩, p.2.1]
theorem stV_len : ∀ xs : List Stm, (stV xs).length = xs.length * 2
  | [] => rfl
  | x :: xs => by
    have := stV_len xs
    simp only [stV, List.flatMap_cons, List.length_append, List.length_cons, List.length_nil] at *
    omega
theorem stV_get : ∀ (xs : List Stm) (i : Nat) (h : i < xs.length), (stV xs)[i * 2]? = some (.string ⟨xs[i].1.toArray⟩) ∧ (stV xs)[i * 2 + 1]? = some xs[i].2.1
  | [], i, h => absurd h (by simp)
  | x :: xs, 0, h => by simp [stV]
  | x :: xs, i + 1, h => by
    have := stV_get xs i (by simpa using h)
    have e : (i + 1) * 2 = i * 2 + 1 + 1 := by omega
    simp only [stV, List.flatMap_cons, List.cons_append, List.nil_append, e, List.getElem?_cons_succ, List.getElem_cons_succ]
    exact this
theorem stV_snoc (xs : List Stm) (p : Stm) : stV (xs ++ [p]) = stV xs ++ [.string ⟨p.1.toArray⟩, p.2.1] := by simp [stV]
/-- v is a slice of the strata xs. -/
def StR (w : World) (v : Value) (xs : List Stm) : Prop := Sl w 49 2 v (stV xs) ∧ ∀ p ∈ xs, Sl w 9 1 p.2.1 (strsV p.2.2)
theorem StR.pure {w w' : World} {v : Value} {xs : List Stm} (h : StR w v xs) (hm : Pure w w') : StR w' v xs := ⟨h.1.pure hm, fun p hp => (h.2 p hp).pure hm⟩

/-- The error of strata: names and ids that were there before. -/
def strE (ns seen : List Str) : List Stm → Int
  | [] => 0
  | p :: r => if keyE p.1 ≠ 0 then 5 else if p.1 ∈ ns then 6 else if idsE keyE p.2.2 ≠ 0 then idsE keyE p.2.2 else if p.2.2.any (fun s => decide (s ∈ seen)) then 6 else strE (ns ++ [p.1]) (seen ++ p.2.2) r
def strataE (xs : List Stm) : Int := if 20 < xs.length then 2 else strE [] [] xs
def namesOf (xs : List Stm) : List Str := xs.map (·.1)
def idsOf (xs : List Stm) : List Str := xs.flatMap (·.2.2)
theorem strE_step {xs : List Stm} {k : Nat} (h : k < xs.length) (ns seen : List Str) :
    strE ns seen (xs.drop k) = if keyE xs[k].1 ≠ 0 then 5 else if xs[k].1 ∈ ns then 6 else if idsE keyE xs[k].2.2 ≠ 0 then idsE keyE xs[k].2.2 else if xs[k].2.2.any (fun s => decide (s ∈ seen)) then 6 else strE (ns ++ [xs[k].1]) (seen ++ xs[k].2.2) (xs.drop (k + 1)) := by
  rw [List.drop_eq_getElem_cons h]
  rfl
theorem names_take {xs : List Stm} {k : Nat} (h : k < xs.length) : namesOf (xs.take (k + 1)) = namesOf (xs.take k) ++ [xs[k].1] := by
  unfold namesOf
  rw [List.take_succ_eq_append_getElem h, List.map_append]
  rfl
theorem ids_take {xs : List Stm} {k : Nat} (h : k < xs.length) : idsOf (xs.take (k + 1)) = idsOf (xs.take k) ++ xs[k].2.2 := by
  unfold idsOf
  rw [List.take_succ_eq_append_getElem h, List.flatMap_append, List.flatMap_cons, List.flatMap_nil, List.append_nil]
theorem strE_ok : ∀ {xs : List Stm} {ns seen : List Str}, strE ns seen xs = 0 → ∀ p ∈ xs, idsE keyE p.2.2 = 0
  | [], _, _, _, p, hp => absurd hp (by simp)
  | q :: r, ns, seen, h, p, hp => by
    unfold strE at h
    split at h
    · omega
    split at h
    · omega
    split at h
    · rename_i h3; exact absurd h h3
    split at h
    · omega
    rename_i h3 _
    rcases List.mem_cons.1 hp with rfl | hp
    · simpa using h3
    · exact strE_ok h p hp


set_option maxRecDepth 100000 in
set_option maxHeartbeats 1000000 in
theorem indexSt1_calls (w : World) (v : Value) (xs : List Stm) (F : Nat) (c1 : Value) (P : Stm → Bool) (hv : Sl w 49 2 v (stV xs))
    (hcf : ∀ (x : Stm) (W : World), Sem.run Tryz.prog (callFunc F #[.agg #[.string ⟨x.1.toArray⟩, x.2.1], c1]) W = .ok (.enter F #[.agg #[.string ⟨x.1.toArray⟩, x.2.1], c1]) W)
    (hF : ∀ (x : Stm) (W : World), x ∈ xs → Pure w W → Calls Tryz.prog F #[.agg #[.string ⟨x.1.toArray⟩, x.2.1], c1] W (BoolPost W (P x))) :
    Calls Tryz.prog 73 #[v, .func (.func F) #[] #[c1]] w (IntPost w (idxQ P xs 0)) := by
  have HF := Lib.hid hF
  obtain ⟨A, n, c, rfl, hc1, hc2, hl, hr⟩ := hv
  have hln : xs.length = n := by rw [stV_len] at hl; omega
  subst hln
  have HR := Lib.hid hr
  clear hF hl hr
  go_enter Tryz.func73, Tryz.ntmps73
  go_wp2_with fail
  go_loopg [8] xs.length (fun gk i wr => ∃ k : Nat, xs.length - k = gk ∧ k ≤ xs.length ∧ i = .int .i64 (k : Int) ∧ idxQ P xs 0 = idxQ P (xs.drop k) (k : Int) ∧ Pure w wr)
  case atStart => exact ⟨0, by omega, by omega, rfl, rfl, Mod.refl _ _⟩
  case round =>
    obtain ⟨k, rfl, hk, rfl, hix, hm⟩ := hrel
    have HIX := Lib.hid hix
    clear hix
    by_cases hlt : k < xs.length
    · obtain ⟨g, off, rfl, hrow⟩ := HR.out (by omega)
      have hget := stV_get xs k hlt
      have hq0 := (hrow.mod hm id).cell (hget.1)
      have hq1 := (hrow.mod hm id).cell (hget.2)
      rw [← Nat.add_assoc] at hq1
      clear hget
      have hd : xs.drop k = xs[k] :: xs.drop (k + 1) := List.drop_eq_getElem_cons hlt
      have hcall := HF.out xs[k] wr (List.getElem_mem hlt) hm
      have hi2 : idxQ P xs 0 = if P xs[k] then (k : Int) else idxQ P (xs.drop (k + 1)) ((k : Int) + 1) := by rw [HIX.out, hd]; rfl
      have HI2 := Lib.hid hi2
      have HC := Lib.hid hcall
      clear hd hi2 hcall hrow HIX
      generalize xs[k] = x at *
      go_wp2_with fail
      refine HC.out.mono ?_
      rintro e w1 ⟨rfl, hm1⟩
      cases hp : P x
      · go_wp2_with fail
        go_roundg (xs.length - (k + 1))
        case measure => omega
        case rel => exact ⟨k + 1, rfl, hlt, by simp, by rw [HI2.out, hp]; simp, hm.trans hm1⟩
      · go_wp2_with fail
        go_ret
        exact IntPost.of (by rw [HI2.out, hp]; rfl) (hm.trans hm1)
    · have hke : k = xs.length := by omega
      subst hke
      go_wp2_with fail
      go_ret
      exact IntPost.of (by rw [HIX.out, List.drop_of_length_le (Nat.le_refl _)]; rfl) hm


set_option maxRecDepth 100000 in
set_option maxHeartbeats 1000000 in
theorem containsSt1_calls (w : World) (v : Value) (xs : List Stm) (F : Nat) (c1 : Value) (P : Stm → Bool) (hv : Sl w 49 2 v (stV xs))
    (hcf : ∀ (x : Stm) (W : World), Sem.run Tryz.prog (callFunc F #[.agg #[.string ⟨x.1.toArray⟩, x.2.1], c1]) W = .ok (.enter F #[.agg #[.string ⟨x.1.toArray⟩, x.2.1], c1]) W)
    (hF : ∀ (x : Stm) (W : World), x ∈ xs → Pure w W → Calls Tryz.prog F #[.agg #[.string ⟨x.1.toArray⟩, x.2.1], c1] W (BoolPost W (P x))) :
    Calls Tryz.prog 51 #[v, .func (.func F) #[] #[c1]] w (BoolPost w (xs.any P)) := by
  have HC := Lib.hid (indexSt1_calls w v xs F c1 P hv hcf hF)
  have HI := Lib.hid (idxQ_any P xs 0 (by omega))
  clear hcf hF
  obtain ⟨A, n, c, rfl⟩ := hv.form
  clear hv
  go_enter Tryz.func51, Tryz.ntmps51
  go_wp2_with fail
  refine HC.out.mono ?_
  rintro e w1 ⟨rfl, hm1⟩
  generalize idxQ P xs 0 = r at *
  go_wp2_with fail
  go_ret
  exact BoolPost.of HI.out.symm hm1


set_option maxRecDepth 100000 in
set_option maxHeartbeats 400000 in
theorem strataFault1_calls (w : World) (g : Nat) (y : Str) (u : Value) (x : Stm) (hb : Blk w g 49 #[.string ⟨y.toArray⟩, u]) :
    Calls Tryz.prog 52 #[.agg #[.string ⟨x.1.toArray⟩, x.2.1], .pointer (some ⟨g, 0, none⟩)] w (BoolPost w (x.1 == y)) := by
  obtain ⟨n, vv, l⟩ := x
  have hb2 := hb.alloc (.cells #[.string ⟨n.toArray⟩, vv] 49)
  have q0 := hb2.cell 0; have q1 := hb2.cell 1; simp at q0 q1
  clear hb hb2
  go_enter Tryz.func52, Tryz.ntmps52
  go_wp2_with fail
  go_ret
  exact BoolPost.of rfl (pure_alloc _ _)

theorem zero_bool (W : World) : (zeroValue 4).run Tryz.prog W = .ok (.bool false) W := by kernel_rfl
set_option maxRecDepth 100000 in
set_option maxHeartbeats 400000 in
theorem strataError1_calls (w : World) (g b n : Nat) (S : List Str) (x : Str) (hx : x.length ≤ 1000) (hb : Blk w g 77 #[.map (some b)]) (hS : SetS w b n S) :
    Calls Tryz.prog 70 #[.string ⟨x.toArray⟩, .pointer (some ⟨g, 0, none⟩)] w (BoolPost w (decide (x ∈ S))) := by
  have hrun := hS.has Tryz.underlying77 zero_bool x (by omega)
  have q0 := hb.cell 0; simp at q0
  generalize decide (x ∈ S) = r at *
  go_enter Tryz.func70, Tryz.ntmps70
  go_wp2_with fail
  go_ret
  exact BoolPost.of rfl (Mod.refl _ _)

end Go.Proofs.YtkchninlhemioaaGreatDoor
