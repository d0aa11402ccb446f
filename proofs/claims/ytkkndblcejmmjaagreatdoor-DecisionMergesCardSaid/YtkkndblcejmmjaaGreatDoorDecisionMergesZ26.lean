/- Texts of the proof of DecisionMerges, put together: LayA, LayB, EqlF, LayE. -/
import Derived.Test.YtkkndblcejmmjaaGreatDoorDecisionMergesZ12
import Derived.Test.YtkkndblcejmmjaaGreatDoorDecisionMergesZ14
import Derived.Test.YtkkndblcejmmjaaGreatDoorDecisionMergesZ18
import Derived.Test.YtkkndblcejmmjaaGreatDoorDecisionMergesZ23
import Derived.Deep.DeepCutAuto
import Derived.Deep.CutBlock
/- Fields of a layout: where they are, whether they have a choice (program and reference). -/
namespace Go.Proofs.YtkkndblcejmmjaaGreatDoor
set_option linter.unusedVariables false
set_option linter.unusedSimpArgs false
open Go.RowKit


set_option maxRecDepth 100000 in
set_option maxHeartbeats 1000000 in
theorem indexA1_calls (w : World) (v : Value) (xs : List AskR) (F : Nat) (c1 : Value) (P : AskR → Bool) (hv : Sl w 88 4 v (askV xs))
  (hcf : ∀ (x : AskR) (W : World), Sem.run Tryz.prog (callFunc F #[.agg #[.string ⟨x.field.toArray⟩, .slice x.A x.ch.length x.c, .bool x.many, .int .i64 x.spread], c1]) W = .ok (.enter F #[.agg #[.string ⟨x.field.toArray⟩, .slice x.A x.ch.length x.c, .bool x.many, .int .i64 x.spread], c1]) W)
  (hF : ∀ (x : AskR) (W : World), x ∈ xs → Pure w W → Calls Tryz.prog F #[.agg #[.string ⟨x.field.toArray⟩, .slice x.A x.ch.length x.c, .bool x.many, .int .i64 x.spread], c1] W (BoolPost W (P x))) :
  Calls Tryz.prog 106 #[v, .func (.func F) #[] #[c1]] w (IntPost w (idxQ P xs 0)) := by
 have HF := Lib.hid hF
 obtain ⟨A, n, c, rfl, hc1, hc2, hl, hr⟩ := hv
 have hln : xs.length = n := by rw [askV_len] at hl; omega
 subst hln
 have HR := Lib.hid hr
 clear hF hl hr
 go_enter Tryz.func106, Tryz.ntmps106
 go_wp2_with fail
 go_loopg [8] xs.length (fun gk i wr => ∃ k : Nat, xs.length - k = gk ∧ k ≤ xs.length ∧ i = .int .i64 (k : Int) ∧ idxQ P xs 0 = idxQ P (xs.drop k) (k : Int) ∧ Pure w wr)
 case atStart => exact ⟨0, by omega, by omega, rfl, rfl, Mod.refl _ _⟩
 case round =>
  obtain ⟨k, rfl, hk, rfl, hix, hm⟩ := hrel
  have HIX := Lib.hid hix
  clear hix
  by_cases hlt : k < xs.length
  ·obtain ⟨g, off, rfl, hrow⟩ := HR.out (by omega)
   have hget := askV_get xs k hlt
   have hq0 := (hrow.mod hm id).cell (hget.1)
   have hq1 := (hrow.mod hm id).cell (hget.2.1)
   rw [← Nat.add_assoc] at hq1
   have hq2 := (hrow.mod hm id).cell (hget.2.2.1)
   rw [← Nat.add_assoc] at hq2
   have hq3 := (hrow.mod hm id).cell (hget.2.2.2)
   rw [← Nat.add_assoc] at hq3
   clear hget
   have hd : xs.drop k = xs[k] :: xs.drop (k + 1) := List.drop_eq_getElem_cons hlt
   have hcall := HF.out xs[k] wr (List.getElem_mem hlt) hm
   have hi2 : idxQ P xs 0 = if P xs[k] then (k : Int) else idxQ P (xs.drop (k + 1)) ((k : Int) + 1) := by rw [HIX.out, hd]; rfl
   have HI2 := Lib.hid hi2
   have HC := Lib.hid hcall
   clear hd hi2 hcall hrow HIX
   generalize xs[k] = x at *
   go_wp2_with fail
   refine HC.out.mono ?_
   rintro e w1 ⟨rfl, hm1⟩
   cases hp : P x
   ·go_wp2_with fail
    go_roundg (xs.length - (k + 1))
    case measure => omega
    case rel => exact ⟨k + 1, rfl, hlt, by simp, by rw [HI2.out, hp]; simp, hm.trans hm1⟩
   ·go_wp2_with fail
    go_ret
    exact IntPost.of (by rw [HI2.out, hp]; rfl) (hm.trans hm1)
  ·have hke : k = xs.length := by omega
   subst hke
   go_wp2_with fail
   go_ret
   exact IntPost.of (by rw [HIX.out, List.drop_of_length_le (Nat.le_refl _)]; rfl) hm


set_option maxRecDepth 100000 in
set_option maxHeartbeats 1000000 in
theorem containsA1_calls (w : World) (v : Value) (xs : List AskR) (F : Nat) (c1 : Value) (P : AskR → Bool) (hv : Sl w 88 4 v (askV xs))
  (hcf : ∀ (x : AskR) (W : World), Sem.run Tryz.prog (callFunc F #[.agg #[.string ⟨x.field.toArray⟩, .slice x.A x.ch.length x.c, .bool x.many, .int .i64 x.spread], c1]) W = .ok (.enter F #[.agg #[.string ⟨x.field.toArray⟩, .slice x.A x.ch.length x.c, .bool x.many, .int .i64 x.spread], c1]) W)
  (hF : ∀ (x : AskR) (W : World), x ∈ xs → Pure w W → Calls Tryz.prog F #[.agg #[.string ⟨x.field.toArray⟩, .slice x.A x.ch.length x.c, .bool x.many, .int .i64 x.spread], c1] W (BoolPost W (P x))) :
  Calls Tryz.prog 45 #[v, .func (.func F) #[] #[c1]] w (BoolPost w (xs.any P)) := by
 have HC := Lib.hid (indexA1_calls w v xs F c1 P hv hcf hF)
 have HI := Lib.hid (idxQ_any P xs 0 (by omega))
 clear hcf hF
 obtain ⟨A, n, c, rfl⟩ := hv.form
 clear hv
 go_enter Tryz.func45, Tryz.ntmps45
 go_wp2_with fail
 refine HC.out.mono ?_
 rintro e w1 ⟨rfl, hm1⟩
 generalize idxQ P xs 0 = r at *
 go_wp2_with fail
 go_ret
 exact BoolPost.of HI.out.symm hm1


set_option maxRecDepth 100000 in
set_option maxHeartbeats 1000000 in
theorem indexC1_calls (w : World) (v : Value) (xs : List ChoR) (F : Nat) (c1 : Value) (P : ChoR → Bool) (hv : Sl w 105 2 v (choV xs))
  (hcf : ∀ (x : ChoR) (W : World), Sem.run Tryz.prog (callFunc F #[.agg #[.string ⟨x.field.toArray⟩, .slice x.A x.ch.length x.c], c1]) W = .ok (.enter F #[.agg #[.string ⟨x.field.toArray⟩, .slice x.A x.ch.length x.c], c1]) W)
  (hF : ∀ (x : ChoR) (W : World), x ∈ xs → Pure w W → Calls Tryz.prog F #[.agg #[.string ⟨x.field.toArray⟩, .slice x.A x.ch.length x.c], c1] W (BoolPost W (P x))) :
  Calls Tryz.prog 129 #[v, .func (.func F) #[] #[c1]] w (IntPost w (idxQ P xs 0)) := by
 have HF := Lib.hid hF
 obtain ⟨A, n, c, rfl, hc1, hc2, hl, hr⟩ := hv
 have hln : xs.length = n := by rw [choV_len] at hl; omega
 subst hln
 have HR := Lib.hid hr
 clear hF hl hr
 go_enter Tryz.func129, Tryz.ntmps129
 go_wp2_with fail
 go_loopg [8] xs.length (fun gk i wr => ∃ k : Nat, xs.length - k = gk ∧ k ≤ xs.length ∧ i = .int .i64 (k : Int) ∧ idxQ P xs 0 = idxQ P (xs.drop k) (k : Int) ∧ Pure w wr)
 case atStart => exact ⟨0, by omega, by omega, rfl, rfl, Mod.refl _ _⟩
 case round =>
  obtain ⟨k, rfl, hk, rfl, hix, hm⟩ := hrel
  have HIX := Lib.hid hix
  clear hix
  by_cases hlt : k < xs.length
  ·obtain ⟨g, off, rfl, hrow⟩ := HR.out (by omega)
   have hget := choV_get xs k hlt
   have hq0 := (hrow.mod hm id).cell (hget.1)
   have hq1 := (hrow.mod hm id).cell (hget.2)
   rw [← Nat.add_assoc] at hq1
   clear hget
   have hd : xs.drop k = xs[k] :: xs.drop (k + 1) := List.drop_eq_getElem_cons hlt
   have hcall := HF.out xs[k] wr (List.getElem_mem hlt) hm
   have hi2 : idxQ P xs 0 = if P xs[k] then (k : Int) else idxQ P (xs.drop (k + 1)) ((k : Int) + 1) := by rw [HIX.out, hd]; rfl
   have HI2 := Lib.hid hi2
   have HC := Lib.hid hcall
   clear hd hi2 hcall hrow HIX
   generalize xs[k] = x at *
   go_wp2_with fail
   refine HC.out.mono ?_
   rintro e w1 ⟨rfl, hm1⟩
   cases hp : P x
   ·go_wp2_with fail
    go_roundg (xs.length - (k + 1))
    case measure => omega
    case rel => exact ⟨k + 1, rfl, hlt, by simp, by rw [HI2.out, hp]; simp, hm.trans hm1⟩
   ·go_wp2_with fail
    go_ret
    exact IntPost.of (by rw [HI2.out, hp]; rfl) (hm.trans hm1)
  ·have hke : k = xs.length := by omega
   subst hke
   go_wp2_with fail
   go_ret
   exact IntPost.of (by rw [HIX.out, List.drop_of_length_le (Nat.le_refl _)]; rfl) hm

set_option maxRecDepth 100000 in
set_option maxHeartbeats 1000000 in
theorem ask1_calls (w : World) (g : Nat) (s : Str) (x : AskR) (hb : w.cell? ⟨g, 0, none⟩ = some (.string ⟨s.toArray⟩)) : Calls Tryz.prog 131 #[.agg #[.string ⟨x.field.toArray⟩, .slice x.A x.ch.length x.c, .bool x.many, .int .i64 x.spread], .pointer (some ⟨g, 0, none⟩)] w (BoolPost w (x.field == s)) := by
 have hb2 := cell_alloc hb (.cells #[.string ⟨x.field.toArray⟩, .slice x.A x.ch.length x.c, .bool x.many, .int .i64 x.spread] 88)
 clear hb
 go_enter Tryz.func131, Tryz.ntmps131
 go_wp2_with fail
 go_ret
 exact BoolPost.of rfl (pure_alloc _ _)
set_option maxRecDepth 100000 in
set_option maxHeartbeats 1000000 in
theorem askAt1_calls (w : World) (g : Nat) (s : Str) (x : AskR) (hb : w.cell? ⟨g, 0, none⟩ = some (.string ⟨s.toArray⟩)) : Calls Tryz.prog 132 #[.agg #[.string ⟨x.field.toArray⟩, .slice x.A x.ch.length x.c, .bool x.many, .int .i64 x.spread], .pointer (some ⟨g, 0, none⟩)] w (BoolPost w (x.field == s)) := by
 have hb2 := cell_alloc hb (.cells #[.string ⟨x.field.toArray⟩, .slice x.A x.ch.length x.c, .bool x.many, .int .i64 x.spread] 88)
 clear hb
 go_enter Tryz.func132, Tryz.ntmps132
 go_wp2_with fail
 go_ret
 exact BoolPost.of rfl (pure_alloc _ _)
set_option maxRecDepth 100000 in
set_option maxHeartbeats 1000000 in
theorem value1_calls (w : World) (g : Nat) (s : Str) (x : ChoR) (hb : w.cell? ⟨g, 0, none⟩ = some (.string ⟨s.toArray⟩)) : Calls Tryz.prog 130 #[.agg #[.string ⟨x.field.toArray⟩, .slice x.A x.ch.length x.c], .pointer (some ⟨g, 0, none⟩)] w (BoolPost w (x.field == s)) := by
 have hb2 := cell_alloc hb (.cells #[.string ⟨x.field.toArray⟩, .slice x.A x.ch.length x.c] 105)
 clear hb
 go_enter Tryz.func130, Tryz.ntmps130
 go_wp2_with fail
 go_ret
 exact BoolPost.of rfl (pure_alloc _ _)
set_option maxRecDepth 100000 in
set_option maxHeartbeats 1000000 in
theorem checkL1_calls (w : World) (g : Nat) (s : Str) (v1 v2 v3 : Value) (x : AskR) (hb : Blk w g 88 #[.string ⟨s.toArray⟩, v1, v2, v3]) : Calls Tryz.prog 114 #[.agg #[.string ⟨x.field.toArray⟩, .slice x.A x.ch.length x.c, .bool x.many, .int .i64 x.spread], .pointer (some ⟨g, 0, none⟩)] w (BoolPost w (x.field == s)) := by
 have hb2 := hb.alloc (.cells #[.string ⟨x.field.toArray⟩, .slice x.A x.ch.length x.c, .bool x.many, .int .i64 x.spread] 88)
 have c0 := hb2.cell 0; have c1 := hb2.cell 1; have c2 := hb2.cell 2; have c3 := hb2.cell 3; simp at c0 c1 c2 c3
 clear hb hb2
 go_enter Tryz.func114, Tryz.ntmps114
 go_wp2_with fail
 go_ret
 exact BoolPost.of rfl (pure_alloc _ _)

end Go.Proofs.YtkkndblcejmmjaaGreatDoor

/- Where a field is, whether it has a choice: program and reference. -/
namespace Go.Proofs.YtkkndblcejmmjaaGreatDoor
set_option linter.unusedVariables false
set_option linter.unusedSimpArgs false
open Go.RowKit

theorem idxQ_findIdx {α : Type} (P : α → Bool) : ∀ (xs : List α) (j : Int), idxQ P xs j = match xs.findIdx? P with | none => -1 | some k => j + (k : Int)
 | [], j => rfl
 | x :: t, j => by
  unfold idxQ
  rw [List.findIdx?_cons]
  cases h : P x
  ·simp only [Bool.false_eq_true, if_false]
   rw [idxQ_findIdx P t (j + 1)]
   cases t.findIdx? P with
   | none => rfl
   | some k => show j + 1 + (k : Int) = j + ((k + 1 : Nat) : Int); omega
  ·simp
def askI (al : List AskR) (s : Str) : Int := match askIx al s with | none => -1 | some k => (k : Int)
theorem askI_idx (al : List AskR) (s : Str) : idxQ (fun x : AskR => x.field == s) al 0 = askI al s := by
 rw [idxQ_findIdx]
 unfold askI askIx
 rw [show (fun x : AskR => x.field == s) = fun a => decide (a.field = s) from by funext x; rw [Bool.eq_iff_iff]; simp]
 cases al.findIdx? fun a => decide (a.field = s) with
 | none => rfl
 | some k => simp
theorem slTakeG {w : World} {e : TypeId} {g off k c size : Nat} {xs : List Value} (h : RowAt w e g off xs) (hk : k * size ≤ xs.length) (h1 : k ≤ c) (h2 : c ≤ 9223372036854775807) : Sl w e size (.slice (some ⟨g, off, none⟩) k c) (xs.take (k * size)) := by
 obtain ⟨arr, fr, e1, e2⟩ := h
 refine ⟨_, _, _, rfl, h1, h2, by rw [List.length_take]; omega, fun _ => ⟨g, off, rfl, arr, fr, e1, fun i u hi => e2 i u ?_⟩⟩
 have hl : i < (xs.take (k * size)).length := Nat.lt_of_not_le fun h => by
  rw [List.getElem?_eq_none (by omega)] at hi
  cases hi
 rw [List.length_take] at hl
 rw [← hi, List.getElem?_take, if_pos (by omega)]
theorem askV_take : ∀ (xs : List AskR) (k : Nat), askV (xs.take k) = (askV xs).take (k * 4)
 | [], k => by simp [askV]
 | x :: t, 0 => by simp [askV]
 | x :: t, k + 1 => by
  have e : askV (x :: t.take k) = askC x ++ askV (t.take k) := rfl
  show askV (x :: t.take k) = _
  rw [e, askV_take t k, show (k + 1) * 4 = k * 4 + 1 + 1 + 1 + 1 by omega]
  rfl
theorem twB_any (al : List AskR) (k : Nat) (s : Str) : ((al.take k).any fun x => x.field == s) = twB al k s := by
 unfold twB
 congr 1
 funext x
 rw [Bool.eq_iff_iff]
 simp
theorem Asks.cells {w : World} {A : Option Addr} {n c : Nat} {al : List AskR} (h : Asks w (.slice A n c) al) {k : Nat} (hk : k < al.length) : ∃ g off, A = some ⟨g, off, none⟩ ∧ w.cell? ⟨g, off + k * 4, none⟩ = some (.string ⟨al[k].field.toArray⟩) ∧
  w.cell? ⟨g, off + k * 4 + 1, none⟩ = some (.slice al[k].A al[k].ch.length al[k].c) ∧ w.cell? ⟨g, off + k * 4 + 2, none⟩ = some (.bool al[k].many) ∧ w.cell? ⟨g, off + k * 4 + 3, none⟩ = some (.int .i64 al[k].spread) := by
 have hl := h.len
 obtain ⟨⟨A', n', c', e, _, _, _, hr⟩, _⟩ := h
 injection e with e1 e2 e3
 subst e1 e2
 obtain ⟨g, off, rfl, hrow⟩ := hr (by omega)
 obtain ⟨h0, h1, h2, h3⟩ := askV_get al k hk
 refine ⟨g, off, rfl, hrow.cell h0, ?_, ?_, ?_⟩
 ·have := hrow.cell h1; rwa [← Nat.add_assoc] at this
 ·have := hrow.cell h2; rwa [← Nat.add_assoc] at this
 ·have := hrow.cell h3; rwa [← Nat.add_assoc] at this
theorem Asks.pre {w : World} {g off n c k : Nat} {al : List AskR} (h : Asks w (.slice (some ⟨g, off, none⟩) n c) al) (hk : k < n) : Sl w 88 4 (.slice (some ⟨g, off, none⟩) k c) (askV (al.take k)) := by
 have hl := h.len
 obtain ⟨⟨A', n', c', e, h1, h2, h3, hr⟩, _⟩ := h
 injection e with e1 e2 e3
 subst e2 e3
 obtain ⟨g2, off2, e4, hrow⟩ := hr (by omega)
 rw [← e1] at e4
 injection e4 with e4
 injection e4 with e5 e6 _
 subst e5 e6
 rw [askV_take]
 exact slTakeG hrow (by rw [askV_len]; omega) (by omega) h2
theorem Vals.cells {w : World} {A : Option Addr} {n c : Nat} {al : List ChoR} (h : Vals w (.slice A n c) al) {k : Nat} (hk : k < al.length) : ∃ g off, A = some ⟨g, off, none⟩ ∧ w.cell? ⟨g, off + k * 2, none⟩ = some (.string ⟨al[k].field.toArray⟩) ∧
  w.cell? ⟨g, off + k * 2 + 1, none⟩ = some (.slice al[k].A al[k].ch.length al[k].c) := by
 have hl := h.len
 obtain ⟨⟨A', n', c', e, _, _, _, hr⟩, _⟩ := h
 injection e with e1 e2 e3
 subst e1 e2
 obtain ⟨g, off, rfl, hrow⟩ := hr (by omega)
 obtain ⟨h0, h1⟩ := choV_get al k hk
 refine ⟨g, off, rfl, hrow.cell h0, ?_⟩
 have := hrow.cell h1; rwa [← Nat.add_assoc] at this
theorem Ruls.cells {w : World} {A : Option Addr} {n c : Nat} {al : List RulR} (h : Ruls w (.slice A n c) al) {k : Nat} (hk : k < al.length) : ∃ g off, A = some ⟨g, off, none⟩ ∧ w.cell? ⟨g, off + k * 5, none⟩ = some (.int .i64 al[k].kind) ∧
  w.cell? ⟨g, off + k * 5 + 1, none⟩ = some (.string ⟨al[k].field.toArray⟩) ∧ w.cell? ⟨g, off + k * 5 + 2, none⟩ = some (.string ⟨al[k].ifs.toArray⟩) ∧ w.cell? ⟨g, off + k * 5 + 3, none⟩ = some (.string ⟨al[k].other.toArray⟩) ∧ w.cell? ⟨g, off + k * 5 + 4, none⟩ = some (.string ⟨al[k].thn.toArray⟩) := by
 have hl := h.len
 obtain ⟨A', n', c', e, _, _, _, hr⟩ := h
 injection e with e1 e2 e3
 subst e1 e2
 obtain ⟨g, off, rfl, hrow⟩ := hr (by omega)
 obtain ⟨h0, h1, h2, h3, h4⟩ := rulV_get al k hk
 refine ⟨g, off, rfl, hrow.cell h0, ?_, ?_, ?_, ?_⟩
 ·have := hrow.cell h1; rwa [← Nat.add_assoc] at this
 ·have := hrow.cell h2; rwa [← Nat.add_assoc] at this
 ·have := hrow.cell h3; rwa [← Nat.add_assoc] at this
 ·have := hrow.cell h4; rwa [← Nat.add_assoc] at this

set_option maxRecDepth 100000 in
set_option maxHeartbeats 2000000 in
theorem ask_calls (w : World) (v : Value) (L : LayR) (s : Str) (hL : LayV w L v) : Calls Tryz.prog 72 #[v, .string ⟨s.toArray⟩] w (IntPost w (askI L.asks s)) := by
 obtain ⟨A, n, c, A2, n2, c2, rfl, hA, hR⟩ := hL
 have B0 := Blk.new (w.alloc (.cells #[.slice A n c, .slice A2 n2 c2] 29)) 9 #[.string ⟨s.toArray⟩]
 have M0 : Pure w ((w.alloc (.cells #[.slice A n c, .slice A2 n2 c2] 29)).alloc (.cells #[.string ⟨s.toArray⟩] 9)) := (pure_alloc _ _).trans (pure_alloc _ _)
 have HIX := Lib.hid (indexA1_calls ((w.alloc (.cells #[.slice A n c, .slice A2 n2 c2] 29)).alloc (.cells #[.string ⟨s.toArray⟩] 9)) (.slice A n c) L.asks 131 (.pointer (some ⟨w.heap.size + 1, 0, none⟩)) (fun x => x.field == s) (hA.1.pure M0) (fun _ _ => rfl)
  (fun x W _ hm => ask1_calls W (w.heap.size + 1) s x (hm.keep (by rw [World.size_alloc] at B0; simp [B0.cell 0]) id)))
 rw [askI_idx] at HIX
 have HM := Lib.hid M0
 have C0 := (Blk.new w 29 #[.slice A n c, .slice A2 n2 c2]).alloc (.cells #[.string ⟨s.toArray⟩] 9)
 have c0 := C0.cell 0; have c1 := C0.cell 1; simp at c0 c1
 clear B0 C0 M0 hA hR
 go_enter Tryz.func72, Tryz.ntmps72
 go_wp2_with fail
 refine HIX.out.mono ?_
 rintro e w1 ⟨rfl, hm⟩
 clear HIX
 generalize askI L.asks s = r at *
 go_wp2_with fail
 go_ret
 exact IntPost.of rfl (HM.out.trans hm)
set_option maxRecDepth 100000 in
set_option maxHeartbeats 2000000 in
theorem askAt_calls (w : World) (v : Value) (L : LayR) (s : Str) (hL : LayV w L v) : Calls Tryz.prog 74 #[v, .string ⟨s.toArray⟩] w (IntPost w (askI L.asks s)) := by
 obtain ⟨A, n, c, A2, n2, c2, rfl, hA, hR⟩ := hL
 have B0 := Blk.new (w.alloc (.cells #[.slice A n c, .slice A2 n2 c2] 29)) 9 #[.string ⟨s.toArray⟩]
 have M0 : Pure w ((w.alloc (.cells #[.slice A n c, .slice A2 n2 c2] 29)).alloc (.cells #[.string ⟨s.toArray⟩] 9)) := (pure_alloc _ _).trans (pure_alloc _ _)
 have HIX := Lib.hid (indexA1_calls ((w.alloc (.cells #[.slice A n c, .slice A2 n2 c2] 29)).alloc (.cells #[.string ⟨s.toArray⟩] 9)) (.slice A n c) L.asks 132 (.pointer (some ⟨w.heap.size + 1, 0, none⟩)) (fun x => x.field == s) (hA.1.pure M0) (fun _ _ => rfl)
  (fun x W _ hm => askAt1_calls W (w.heap.size + 1) s x (hm.keep (by rw [World.size_alloc] at B0; simp [B0.cell 0]) id)))
 rw [askI_idx] at HIX
 have HM := Lib.hid M0
 have C0 := (Blk.new w 29 #[.slice A n c, .slice A2 n2 c2]).alloc (.cells #[.string ⟨s.toArray⟩] 9)
 have c0 := C0.cell 0; have c1 := C0.cell 1; simp at c0 c1
 clear B0 C0 M0 hA hR
 go_enter Tryz.func74, Tryz.ntmps74
 go_wp2_with fail
 refine HIX.out.mono ?_
 rintro e w1 ⟨rfl, hm⟩
 clear HIX
 generalize askI L.asks s = r at *
 go_wp2_with fail
 go_ret
 exact IntPost.of rfl (HM.out.trans hm)
set_option maxRecDepth 100000 in
set_option maxHeartbeats 4000000 in
theorem offers_calls (w : World) (v : Value) (L : LayR) (f ch : Str) (e : Bool) (hL : LayV w L v) : Calls Tryz.prog 69 #[v, .string ⟨f.toArray⟩, .string ⟨ch.toArray⟩, .bool e] w (BoolPost w (offB L.asks f ch e)) := by
 obtain ⟨A, n, c, A2, n2, c2, rfl, hA, hR⟩ := hL
 have hp := pure_alloc w (.cells #[.slice A n c, .slice A2 n2 c2] 29)
 have HAK := Lib.hid (ask_calls (w.alloc (.cells #[.slice A n c, .slice A2 n2 c2] 29)) (.agg #[.slice A n c, .slice A2 n2 c2]) L f ⟨A, n, c, A2, n2, c2, rfl, hA.pure hp, Sl.pure hR hp⟩)
 have HOF : Hid (offB L.asks f ch e = match choOf L.asks f with | none => false | some cs => (e && decide (ch = [])) || decide (ch ∈ cs)) := Lib.hid rfl
 have hln := hA.len
 have HB := Lib.hid (Blk.new w 29 #[.slice A n c, .slice A2 n2 c2])
 have HP := Lib.hid hp
 have hB := HB.out
 have c0 := hB.cell 0; have c1 := hB.cell 1; simp at c0 c1
 have HA := Lib.hid hA
 clear hp hR hB hA
 generalize offB L.asks f ch e = ob at *
 unfold askI at HAK
 cases hix : askIx L.asks f with
 | none =>
  have hc := askIx_none hix
  rw [hc] at HOF
  rw [hix] at HAK
  have HO := HOF.out
  simp only [] at HO HAK
  subst HO
  clear hc HOF hix
  go_enter Tryz.func69, Tryz.ntmps69
  go_wp2_with fail
  refine HAK.out.mono ?_
  rintro e w1 ⟨rfl, hm⟩
  go_wp2_with fail
  go_ret
  exact BoolPost.of rfl (HP.out.trans hm)
 | some k =>
  obtain ⟨hk, hf, hc, _⟩ := askIx_some hix
  rw [hc] at HOF
  rw [hix] at HAK
  simp only [] at HOF HAK
  obtain ⟨g, off, rfl, q0, q1, q2, q3⟩ := HA.out.cells hk
  have HCC := Lib.hid (fun W (hm : Pure w W) => containsQs_calls W _ _ ch ((HA.out.2 _ (List.getElem_mem hk)).pure hm))
  simp only [any_memT] at HCC
  have hkn : (k : Int) < (n : Int) := by omega
  have HQ1 := Lib.hid q1
  clear q0 q1 q2 q3 hc hf hix
  generalize L.asks[k] = x at *
  go_enter Tryz.func69, Tryz.ntmps69
  go_wp2_with fail
  refine HAK.out.mono ?_
  rintro e w1 ⟨rfl, hm⟩
  have q1 := (HP.out.trans hm).keep HQ1.out _root_.id
  have HC := Lib.hid (HCC.out w1 (HP.out.trans hm))
  have hB1 := HB.out.modp hm
  have d0 := hB1.cell 0; have d1 := hB1.cell 1; simp at d0 d1
  clear HAK HCC hB1 c0 c1
  cases e
  ·go_wp2_with fail
   refine HC.out.mono ?_
   rintro e w2 ⟨rfl, hm2⟩
   have HM := Lib.hid ((HP.out.trans hm).trans hm2)
   rw [show (false && decide (ch = []) || decide (ch ∈ x.ch)) = decide (ch ∈ x.ch) by simp] at HOF
   generalize decide (ch ∈ x.ch) = z at *
   go_wp2_with fail
   go_ret
   exact BoolPost.of HOF.out HM.out
  ·cases hce : ch.isEmpty
   ·have hne : decide (ch = []) = false := by simpa using hce
    have hce2 : List.isEmpty ch = false := hce
    rw [show (true && decide (ch = []) || decide (ch ∈ x.ch)) = decide (ch ∈ x.ch) by rw [hne]; simp] at HOF
    clear hne hce
    go_wp2_with fail
    refine HC.out.mono ?_
    rintro e w2 ⟨rfl, hm2⟩
    have HM := Lib.hid ((HP.out.trans hm).trans hm2)
    generalize decide (ch ∈ x.ch) = z at *
    go_wp2_with fail
    go_ret
    exact BoolPost.of HOF.out HM.out
   ·have hne : decide (ch = []) = true := by simpa using hce
    have hce2 : List.isEmpty ch = true := hce
    rw [show (true && decide (ch = []) || decide (ch ∈ x.ch)) = true by rw [hne]; simp] at HOF
    have HM := Lib.hid (HP.out.trans hm)
    clear hne hce HC
    go_wp2_with fail
    go_ret
    exact BoolPost.of HOF.out HM.out
set_option maxRecDepth 100000 in
set_option maxHeartbeats 4000000 in
theorem hasChoice_calls (w : World) (v : Value) (L : LayR) (f ch : Str) (hL : LayV w L v) : Calls Tryz.prog 76 #[v, .string ⟨f.toArray⟩, .string ⟨ch.toArray⟩] w (BoolPost w (offB L.asks f ch false)) := by
 obtain ⟨A, n, c, A2, n2, c2, rfl, hA, hR⟩ := hL
 have hp := pure_alloc w (.cells #[.slice A n c, .slice A2 n2 c2] 29)
 have HAK := Lib.hid (askAt_calls (w.alloc (.cells #[.slice A n c, .slice A2 n2 c2] 29)) (.agg #[.slice A n c, .slice A2 n2 c2]) L f ⟨A, n, c, A2, n2, c2, rfl, hA.pure hp, Sl.pure hR hp⟩)
 have HOF : Hid (offB L.asks f ch false = match choOf L.asks f with | none => false | some cs => (false && decide (ch = [])) || decide (ch ∈ cs)) := Lib.hid rfl
 have hln := hA.len
 have HB := Lib.hid (Blk.new w 29 #[.slice A n c, .slice A2 n2 c2])
 have HP := Lib.hid hp
 have hB := HB.out
 have c0 := hB.cell 0; have c1 := hB.cell 1; simp at c0 c1
 have HA := Lib.hid hA
 clear hp hR hB hA
 generalize offB L.asks f ch false = ob at *
 unfold askI at HAK
 cases hix : askIx L.asks f with
 | none =>
  have hc := askIx_none hix
  rw [hc] at HOF
  rw [hix] at HAK
  have HO := HOF.out
  simp only [] at HO HAK
  subst HO
  clear hc HOF hix
  go_enter Tryz.func76, Tryz.ntmps76
  go_wp2_with fail
  refine HAK.out.mono ?_
  rintro e w1 ⟨rfl, hm⟩
  go_wp2_with fail
  go_ret
  exact BoolPost.of rfl (HP.out.trans hm)
 | some k =>
  obtain ⟨hk, hf, hc, _⟩ := askIx_some hix
  rw [hc] at HOF
  rw [hix] at HAK
  simp only [] at HOF HAK
  obtain ⟨g, off, rfl, q0, q1, q2, q3⟩ := HA.out.cells hk
  have HCC := Lib.hid (fun W (hm : Pure w W) => containsQs_calls W _ _ ch ((HA.out.2 _ (List.getElem_mem hk)).pure hm))
  simp only [any_memT] at HCC
  have hkn : (k : Int) < (n : Int) := by omega
  have HQ1 := Lib.hid q1
  clear q0 q1 q2 q3 hc hf hix
  generalize L.asks[k] = x at *
  go_enter Tryz.func76, Tryz.ntmps76
  go_wp2_with fail
  refine HAK.out.mono ?_
  rintro e w1 ⟨rfl, hm⟩
  have q1 := (HP.out.trans hm).keep HQ1.out _root_.id
  have HC := Lib.hid (HCC.out w1 (HP.out.trans hm))
  have hB1 := HB.out.modp hm
  have d0 := hB1.cell 0; have d1 := hB1.cell 1; simp at d0 d1
  clear HAK HCC hB1 c0 c1
  go_wp2_with fail
  refine HC.out.mono ?_
  rintro e w2 ⟨rfl, hm2⟩
  have HM := Lib.hid ((HP.out.trans hm).trans hm2)
  rw [show (false && decide (ch = []) || decide (ch ∈ x.ch)) = decide (ch ∈ x.ch) by simp] at HOF
  generalize decide (ch ∈ x.ch) = z at *
  go_wp2_with fail
  go_ret
  exact BoolPost.of HOF.out HM.out

end Go.Proofs.YtkkndblcejmmjaaGreatDoor

/- Two lists compared element by element: SameChoice, SameValues, SameDecision, slices.EqualFunc. -/
namespace Go.Proofs.YtkkndblcejmmjaaGreatDoor
set_option linter.unusedVariables false
set_option linter.unusedSimpArgs false
open Go.RowKit

theorem Sl.capL {w : World} {e : TypeId} {size n c : Nat} {A : Option Addr} {xs : List Value} (h : Sl w e size (.slice A n c) xs) : n ≤ c ∧ c ≤ 9223372036854775807 := by
 obtain ⟨A', n', c', e, h1, h2, _⟩ := h
 injection e with _ e2 e3
 subst e2 e3
 exact ⟨h1, h2⟩
def eqL {α β : Type} (f : α → β → Bool) : List α → List β → Bool
 | [], [] => true
 | [], _ :: _ => false
 | _ :: _, [] => false
 | x :: s, y :: t => f x y && eqL f s t
theorem eqL_len {α β : Type} (f : α → β → Bool) : ∀ {xs : List α} {ys : List β}, xs.length ≠ ys.length → eqL f xs ys = false
 | [], [], h => absurd rfl h
 | [], _ :: _, _ => rfl
 | _ :: _, [], _ => rfl
 | x :: s, y :: t, h => by
  show (f x y && eqL f s t) = false
  rw [eqL_len f (fun e => h (by simp [e])), Bool.and_false]
theorem eqL_step {α β : Type} (f : α → β → Bool) {xs : List α} {ys : List β} {k : Nat} (h1 : k < xs.length) (h2 : k < ys.length) : eqL f (xs.drop k) (ys.drop k) = (f xs[k] ys[k] && eqL f (xs.drop (k + 1)) (ys.drop (k + 1))) := by
 rw [List.drop_eq_getElem_cons h1, List.drop_eq_getElem_cons h2]
 rfl
theorem eqL_map {α β γ : Type} {f : α → β → Bool} {r : α → γ} {q : β → γ} (h : ∀ x y, f x y = true ↔ r x = q y) : ∀ {xs : List α} {ys : List β}, eqL f xs ys = true ↔ xs.map r = ys.map q
 | [], [] => by simp [eqL]
 | [], _ :: _ => by simp [eqL]
 | _ :: _, [] => by simp [eqL]
 | x :: s, y :: t => by
  show (f x y && eqL f s t) = true ↔ _
  rw [Bool.and_eq_true, h, eqL_map h, List.map_cons, List.map_cons, List.cons.injEq]
def choEq (x y : ChoR) : Bool := decide (x.field = y.field) && decide (x.ch = y.ch)
theorem choEq_iff (x y : ChoR) : choEq x y = true ↔ (x.field, x.ch) = (y.field, y.ch) := by
 unfold choEq
 simp
theorem likes_iff {xs ys : List ChoR} : eqL choEq xs ys = true ↔ likes xs ys := eqL_map choEq_iff
def decEq (x y : DecR) : Bool := decide (x.no = y.no) && (decide (x.at_ = y.at_) && (decide (x.rev = y.rev) && (decide (x.item = y.item) && (decide (x.sec = y.sec) && eqL choEq x.vals y.vals))))
theorem decEq_iff (x y : DecR) : decEq x y = true ↔ x.like y := by
 unfold decEq DecR.like
 simp only [Bool.and_eq_true, decide_eq_true_eq, likes_iff]
/-- An element's slice. -/
def ChoEl (W : World) (x : ChoR) : Prop := Sl W 9 1 (.slice x.A x.ch.length x.c) (strsV x.ch)
theorem ChoEl.pure {x : ChoR} {w w' : World} (h : ChoEl w x) (hm : Pure w w') : ChoEl w' x := Sl.pure h hm
theorem Vals.el {w : World} {v : Value} {xs : List ChoR} (h : Vals w v xs) {k : Nat} (hk : k < xs.length) : ChoEl w xs[k] := h.2 _ (List.getElem_mem hk)
def DecEl (W : World) (x : DecR) : Prop := Vals W (.slice x.A x.vals.length x.c) x.vals
theorem DecEl.pure {x : DecR} {w w' : World} (h : DecEl w x) (hm : Pure w w') : DecEl w' x := Vals.pure h hm
theorem Decs.el {w : World} {v : Value} {xs : List DecR} (h : Decs w v xs) {k : Nat} (hk : k < xs.length) : DecEl w xs[k] := h.2 _ (List.getElem_mem hk)

set_option maxRecDepth 100000 in
set_option maxHeartbeats 2000000 in
theorem sameChoice_calls (w : World) (x y : ChoR) (hx : ChoEl w x) (hy : ChoEl w y) : Calls Tryz.prog 121 #[.agg #[.string ⟨x.field.toArray⟩, .slice x.A x.ch.length x.c], .agg #[.string ⟨y.field.toArray⟩, .slice y.A y.ch.length y.c]] w (BoolPost w (choEq x y)) := by
 obtain ⟨xf, xA, xc, xs⟩ := x
 obtain ⟨yf, yA, yc, ys⟩ := y
 simp only
 have hp : Pure w ((w.alloc (.cells #[.string ⟨xf.toArray⟩, .slice xA xs.length xc] 105)).alloc (.cells #[.string ⟨yf.toArray⟩, .slice yA ys.length yc] 105)) := (pure_alloc _ _).trans (pure_alloc _ _)
 have HP := Lib.hid hp
 have HE := Lib.hid (equalG_calls _ _ _ xs ys (Sl.pure hx hp) (Sl.pure hy hp))
 have HQ : Hid (choEq ⟨xf, xA, xc, xs⟩ ⟨yf, yA, yc, ys⟩ = (decide (xf = yf) && decide (xs = ys))) := Lib.hid rfl
 clear hp hx hy
 generalize choEq ⟨xf, xA, xc, xs⟩ ⟨yf, yA, yc, ys⟩ = q at *
 generalize decide (xs = ys) = fc at *
 by_cases hf : xf = yf
 ·subst hf
  have t1 : (xf == xf) = true := by simp
  have HQ2 : Hid (q = fc) := Lib.hid (by rw [HQ.out]; simp)
  clear HQ
  go_enter Tryz.func121, Tryz.ntmps121
  go_wp2_with fail
  refine HE.out.mono ?_
  rintro e w1 ⟨rfl, m1⟩
  go_wp2_with fail
  go_ret
  exact BoolPost.of HQ2.out (HP.out.trans m1)
 ·have t1 : (xf == yf) = false := by simpa using hf
  have HQ2 : Hid (q = false) := Lib.hid (by rw [HQ.out]; simp [hf])
  clear HQ hf HE
  go_enter Tryz.func121, Tryz.ntmps121
  go_wp2_with fail
  go_ret
  exact BoolPost.of HQ2.out HP.out

set_option maxRecDepth 100000 in
set_option maxHeartbeats 2000000 in
theorem equalCho_calls (w : World) (v1 v2 : Value) (xs ys : List ChoR) (h1 : Vals w v1 xs) (h2 : Vals w v2 ys) :
  Calls Tryz.prog 120 #[v1, v2, .func (.func 121) #[] #[]] w (BoolPost w (eqL choEq xs ys)) := by
 obtain ⟨A1, n1, c1, rfl⟩ := h1.1.form
 obtain ⟨A2, n2, c2, rfl⟩ := h2.1.form
 have hb : n1 ≤ 9223372036854775807 := by have := Sl.capL h1.1; omega
 have hn1 := h1.len
 have hn2 := h2.len
 subst hn1 hn2
 have H1 := Lib.hid h1
 have H2 := Lib.hid h2
 have hcf : ∀ (x y : Value) (W : World), Sem.run Tryz.prog (callFunc 121 #[x, y]) W = .ok (.enter 121 #[x, y]) W := fun _ _ _ => rfl
 clear h1 h2
 by_cases hlen : xs.length = ys.length
 ·have HLN := Lib.hid hlen
  have hlx := Nat.le_of_eq hlen
  have hly := Nat.le_of_eq hlen.symm
  have hne : ((xs.length : Int) != (ys.length : Int)) = false := by rw [hlen]; simp
  clear hlen
  go_enter Tryz.func120, Tryz.ntmps120
  go_wp2_with fail
  go_loopg [17] xs.length (fun gk i wr => ∃ k : Nat, xs.length - k = gk ∧ k ≤ xs.length ∧ i = .int .i64 (k : Int) ∧ Hid (eqL choEq (xs.drop k) (ys.drop k) = eqL choEq xs ys) ∧ Pure w wr)
  case atStart => exact ⟨0, by omega, by omega, rfl, Lib.hid rfl, Mod.refl _ _⟩
  case round =>
   obtain ⟨k, rfl, hk, rfl, HT, hm⟩ := hrel
   by_cases hlt : k < xs.length
   ·have hky : k < ys.length := by omega
    obtain ⟨g1, o1, rfl, q0, q1⟩ := Vals.cells (H1.out.pure hm) hlt
    obtain ⟨g2, o2, rfl, p0, p1⟩ := Vals.cells (H2.out.pure hm) hky
    have s1 := Vals.el (H1.out.pure hm) hlt
    have s2 := Vals.el (H2.out.pure hm) hky
    have HS0 := Lib.hid (eqL_step choEq hlt hky)
    have HC := Lib.hid (fun W (h : Pure wr W) => sameChoice_calls W xs[k] ys[k] (ChoEl.pure s1 h) (ChoEl.pure s2 h))
    clear s1 s2
    generalize xs[k] = x at *
    generalize ys[k] = y at *
    have r0 := cell_alloc p0 (.cells #[.string ⟨x.field.toArray⟩, .slice x.A x.ch.length x.c] 105)
    have r1 := cell_alloc p1 (.cells #[.string ⟨x.field.toArray⟩, .slice x.A x.ch.length x.c] 105)
    have HP : Hid (Pure wr ((wr.alloc (.cells #[.string ⟨x.field.toArray⟩, .slice x.A x.ch.length x.c] 105)).alloc (.cells #[.string ⟨y.field.toArray⟩, .slice y.A y.ch.length y.c] 105))) := Lib.hid ((pure_alloc _ _).trans (pure_alloc _ _))
    have HM := Lib.hid (hm.trans HP.out)
    have HC2 := Lib.hid (HC.out _ HP.out)
    have HNX := Lib.hid (HT.out.symm.trans HS0.out)
    have i1 : (0 : Int) ≤ (k : Int) := by omega
    have i2 : (k : Int) < (xs.length : Int) := by omega
    have i3 : (k : Int) < (ys.length : Int) := by omega
    clear hm HT HS0 HC p0 p1
    generalize choEq x y = fb at *
    go_wp2_with fail
    refine HC2.out.mono ?_
    rintro e w1 ⟨rfl, hm1⟩
    cases fb
    ·have HZ := HNX.out
     rw [Bool.false_and] at HZ
     have HZ2 := Lib.hid HZ
     clear HNX HZ
     go_wp2_with fail
     go_ret
     exact BoolPost.of HZ2.out (HM.out.trans hm1)
    ·have HZ := HNX.out
     rw [Bool.true_and] at HZ
     have HZ2 := Lib.hid HZ
     clear HNX HZ
     go_wp2_with fail
     go_roundg (xs.length - (k + 1))
     case measure => omega
     case rel => exact ⟨k + 1, rfl, by omega, by simp, Lib.hid HZ2.out.symm, HM.out.trans hm1⟩
   ·have HZ : Hid (eqL choEq xs ys = true) := Lib.hid (by
     rw [← HT.out, List.drop_of_length_le (by omega), List.drop_of_length_le (by have := HLN.out; omega)]; rfl)
    have hke : k = xs.length := by omega
    subst hke
    clear HT
    go_wp2_with fail
    go_ret
    exact BoolPost.of HZ.out hm
 ·have HZ : Hid (eqL choEq xs ys = false) := Lib.hid (eqL_len choEq hlen)
  have hne : ((xs.length : Int) != (ys.length : Int)) = true := by rw [bne_iff_ne]; omega
  clear hlen
  go_enter Tryz.func120, Tryz.ntmps120
  go_wp2_with fail
  go_ret
  exact BoolPost.of HZ.out (Mod.refl _ _)


set_option maxRecDepth 100000 in
set_option maxHeartbeats 2000000 in
theorem sameValues_calls (w : World) (v1 v2 : Value) (xs ys : List ChoR) (h1 : Vals w v1 xs) (h2 : Vals w v2 ys) : Calls Tryz.prog 63 #[v1, v2] w (BoolPost w (eqL choEq xs ys)) := by
 have HE := Lib.hid (equalCho_calls w v1 v2 xs ys h1 h2)
 clear h1 h2
 generalize eqL choEq xs ys = q at *
 go_enter Tryz.func63, Tryz.ntmps63
 go_wp2_with fail
 refine HE.out.mono ?_
 rintro e w1 ⟨rfl, m1⟩
 go_wp2_with fail
 go_ret
 exact BoolPost.of rfl m1
set_option maxRecDepth 100000 in
set_option maxHeartbeats 2000000 in
theorem sameDecision_calls (w : World) (x y : DecR) (hx : DecEl w x) (hy : DecEl w y) : Calls Tryz.prog 20 #[.agg #[.int .i64 x.no, .int .i64 x.at_, .string ⟨x.rev.toArray⟩, .string ⟨x.item.toArray⟩, .bool x.sec, .slice x.A x.vals.length x.c], .agg #[.int .i64 y.no, .int .i64 y.at_, .string ⟨y.rev.toArray⟩, .string ⟨y.item.toArray⟩, .bool y.sec, .slice y.A y.vals.length y.c]] w (BoolPost w (decEq x y)) := by
 obtain ⟨xno, xat, xrev, xitem, xsec, xA, xc, xs⟩ := x
 obtain ⟨yno, yat, yrev, yitem, ysec, yA, yc, ys⟩ := y
 simp only
 have hp : Pure w ((w.alloc (.cells #[.int .i64 xno, .int .i64 xat, .string ⟨xrev.toArray⟩, .string ⟨xitem.toArray⟩, .bool xsec, .slice xA xs.length xc] 40)).alloc (.cells #[.int .i64 yno, .int .i64 yat, .string ⟨yrev.toArray⟩, .string ⟨yitem.toArray⟩, .bool ysec, .slice yA ys.length yc] 40)) := (pure_alloc _ _).trans (pure_alloc _ _)
 have HP := Lib.hid hp
 have HE := Lib.hid (sameValues_calls _ _ _ xs ys (Vals.pure hx hp) (Vals.pure hy hp))
 have HQ : Hid (decEq ⟨xno, xat, xrev, xitem, xsec, xA, xc, xs⟩ ⟨yno, yat, yrev, yitem, ysec, yA, yc, ys⟩ = (decide (xno = yno) && (decide (xat = yat) && (decide (xrev = yrev) && (decide (xitem = yitem) && (decide (xsec = ysec) && eqL choEq xs ys)))))) := Lib.hid rfl
 clear hp hx hy
 generalize decEq ⟨xno, xat, xrev, xitem, xsec, xA, xc, xs⟩ ⟨yno, yat, yrev, yitem, ysec, yA, yc, ys⟩ = q at *
 generalize eqL choEq xs ys = fc at *
 by_cases hno : xno = yno
 rotate_left
 ·have tno : (xno == yno) = false := by simpa using hno
  have HQ2 : Hid (q = false) := Lib.hid (by rw [HQ.out]; simp [hno])
  clear HQ hno HE
  go_enter Tryz.func20, Tryz.ntmps20
  go_wp2_with fail
  go_ret
  exact BoolPost.of HQ2.out HP.out
 subst hno
 have tno : (xno == xno) = true := by simp
 by_cases hat : xat = yat
 rotate_left
 ·have tat : (xat == yat) = false := by simpa using hat
  have HQ2 : Hid (q = false) := Lib.hid (by rw [HQ.out]; simp [hat])
  clear HQ hat HE
  go_enter Tryz.func20, Tryz.ntmps20
  go_wp2_with fail
  go_ret
  exact BoolPost.of HQ2.out HP.out
 subst hat
 have tat : (xat == xat) = true := by simp
 by_cases hrev : xrev = yrev
 rotate_left
 ·have trev : (xrev == yrev) = false := by simpa using hrev
  have HQ2 : Hid (q = false) := Lib.hid (by rw [HQ.out]; simp [hrev])
  clear HQ hrev HE
  go_enter Tryz.func20, Tryz.ntmps20
  go_wp2_with fail
  go_ret
  exact BoolPost.of HQ2.out HP.out
 subst hrev
 have trev : (xrev == xrev) = true := by simp
 by_cases hitem : xitem = yitem
 rotate_left
 ·have titem : (xitem == yitem) = false := by simpa using hitem
  have HQ2 : Hid (q = false) := Lib.hid (by rw [HQ.out]; simp [hitem])
  clear HQ hitem HE
  go_enter Tryz.func20, Tryz.ntmps20
  go_wp2_with fail
  go_ret
  exact BoolPost.of HQ2.out HP.out
 subst hitem
 have titem : (xitem == xitem) = true := by simp
 by_cases hsec : xsec = ysec
 rotate_left
 ·have tsec : (xsec == ysec) = false := by simpa using hsec
  have HQ2 : Hid (q = false) := Lib.hid (by rw [HQ.out]; simp [hsec])
  clear HQ hsec HE
  go_enter Tryz.func20, Tryz.ntmps20
  go_wp2_with fail
  go_ret
  exact BoolPost.of HQ2.out HP.out
 subst hsec
 have tsec : (xsec == xsec) = true := by simp
 have HQ2 : Hid (q = fc) := Lib.hid (by rw [HQ.out]; simp)
 clear HQ
 go_enter Tryz.func20, Tryz.ntmps20
 go_wp2_with fail
 refine HE.out.mono ?_
 rintro e w1 ⟨rfl, m1⟩
 go_wp2_with fail
 go_ret
 exact BoolPost.of HQ2.out (HP.out.trans m1)

set_option maxRecDepth 100000 in
set_option maxHeartbeats 2000000 in
theorem equalDec_calls (w : World) (v1 v2 : Value) (xs ys : List DecR) (h1 : Decs w v1 xs) (h2 : Decs w v2 ys) :
  Calls Tryz.prog 19 #[v1, v2, .func (.func 20) #[] #[]] w (BoolPost w (eqL decEq xs ys)) := by
 obtain ⟨A1, n1, c1, rfl⟩ := h1.1.form
 obtain ⟨A2, n2, c2, rfl⟩ := h2.1.form
 have hb : n1 ≤ 9223372036854775807 := by have := Sl.capL h1.1; omega
 have hn1 := h1.len
 have hn2 := h2.len
 subst hn1 hn2
 have H1 := Lib.hid h1
 have H2 := Lib.hid h2
 have hcf : ∀ (x y : Value) (W : World), Sem.run Tryz.prog (callFunc 20 #[x, y]) W = .ok (.enter 20 #[x, y]) W := fun _ _ _ => rfl
 clear h1 h2
 by_cases hlen : xs.length = ys.length
 ·have HLN := Lib.hid hlen
  have hlx := Nat.le_of_eq hlen
  have hly := Nat.le_of_eq hlen.symm
  have hne : ((xs.length : Int) != (ys.length : Int)) = false := by rw [hlen]; simp
  clear hlen
  go_enter Tryz.func19, Tryz.ntmps19
  go_wp2_with fail
  go_loopg [17] xs.length (fun gk i wr => ∃ k : Nat, xs.length - k = gk ∧ k ≤ xs.length ∧ i = .int .i64 (k : Int) ∧ Hid (eqL decEq (xs.drop k) (ys.drop k) = eqL decEq xs ys) ∧ Pure w wr)
  case atStart => exact ⟨0, by omega, by omega, rfl, Lib.hid rfl, Mod.refl _ _⟩
  case round =>
   obtain ⟨k, rfl, hk, rfl, HT, hm⟩ := hrel
   by_cases hlt : k < xs.length
   ·have hky : k < ys.length := by omega
    obtain ⟨g1, o1, rfl, q0, q1, q2, q3, q4, q5⟩ := Decs.cells (H1.out.pure hm) hlt
    obtain ⟨g2, o2, rfl, p0, p1, p2, p3, p4, p5⟩ := Decs.cells (H2.out.pure hm) hky
    have s1 := Decs.el (H1.out.pure hm) hlt
    have s2 := Decs.el (H2.out.pure hm) hky
    have HS0 := Lib.hid (eqL_step decEq hlt hky)
    have HC := Lib.hid (fun W (h : Pure wr W) => sameDecision_calls W xs[k] ys[k] (DecEl.pure s1 h) (DecEl.pure s2 h))
    clear s1 s2
    generalize xs[k] = x at *
    generalize ys[k] = y at *
    have r0 := cell_alloc p0 (.cells #[.int .i64 x.no, .int .i64 x.at_, .string ⟨x.rev.toArray⟩, .string ⟨x.item.toArray⟩, .bool x.sec, .slice x.A x.vals.length x.c] 40)
    have r1 := cell_alloc p1 (.cells #[.int .i64 x.no, .int .i64 x.at_, .string ⟨x.rev.toArray⟩, .string ⟨x.item.toArray⟩, .bool x.sec, .slice x.A x.vals.length x.c] 40)
    have r2 := cell_alloc p2 (.cells #[.int .i64 x.no, .int .i64 x.at_, .string ⟨x.rev.toArray⟩, .string ⟨x.item.toArray⟩, .bool x.sec, .slice x.A x.vals.length x.c] 40)
    have r3 := cell_alloc p3 (.cells #[.int .i64 x.no, .int .i64 x.at_, .string ⟨x.rev.toArray⟩, .string ⟨x.item.toArray⟩, .bool x.sec, .slice x.A x.vals.length x.c] 40)
    have r4 := cell_alloc p4 (.cells #[.int .i64 x.no, .int .i64 x.at_, .string ⟨x.rev.toArray⟩, .string ⟨x.item.toArray⟩, .bool x.sec, .slice x.A x.vals.length x.c] 40)
    have r5 := cell_alloc p5 (.cells #[.int .i64 x.no, .int .i64 x.at_, .string ⟨x.rev.toArray⟩, .string ⟨x.item.toArray⟩, .bool x.sec, .slice x.A x.vals.length x.c] 40)
    have HP : Hid (Pure wr ((wr.alloc (.cells #[.int .i64 x.no, .int .i64 x.at_, .string ⟨x.rev.toArray⟩, .string ⟨x.item.toArray⟩, .bool x.sec, .slice x.A x.vals.length x.c] 40)).alloc (.cells #[.int .i64 y.no, .int .i64 y.at_, .string ⟨y.rev.toArray⟩, .string ⟨y.item.toArray⟩, .bool y.sec, .slice y.A y.vals.length y.c] 40))) := Lib.hid ((pure_alloc _ _).trans (pure_alloc _ _))
    have HM := Lib.hid (hm.trans HP.out)
    have HC2 := Lib.hid (HC.out _ HP.out)
    have HNX := Lib.hid (HT.out.symm.trans HS0.out)
    have i1 : (0 : Int) ≤ (k : Int) := by omega
    have i2 : (k : Int) < (xs.length : Int) := by omega
    have i3 : (k : Int) < (ys.length : Int) := by omega
    clear hm HT HS0 HC p0 p1 p2 p3 p4 p5
    generalize decEq x y = fb at *
    go_wp2_with fail
    refine HC2.out.mono ?_
    rintro e w1 ⟨rfl, hm1⟩
    cases fb
    ·have HZ := HNX.out
     rw [Bool.false_and] at HZ
     have HZ2 := Lib.hid HZ
     clear HNX HZ
     go_wp2_with fail
     go_ret
     exact BoolPost.of HZ2.out (HM.out.trans hm1)
    ·have HZ := HNX.out
     rw [Bool.true_and] at HZ
     have HZ2 := Lib.hid HZ
     clear HNX HZ
     go_wp2_with fail
     go_roundg (xs.length - (k + 1))
     case measure => omega
     case rel => exact ⟨k + 1, rfl, by omega, by simp, Lib.hid HZ2.out.symm, HM.out.trans hm1⟩
   ·have HZ : Hid (eqL decEq xs ys = true) := Lib.hid (by
     rw [← HT.out, List.drop_of_length_le (by omega), List.drop_of_length_le (by have := HLN.out; omega)]; rfl)
    have hke : k = xs.length := by omega
    subst hke
    clear HT
    go_wp2_with fail
    go_ret
    exact BoolPost.of HZ.out hm
 ·have HZ : Hid (eqL decEq xs ys = false) := Lib.hid (eqL_len decEq hlen)
  have hne : ((xs.length : Int) != (ys.length : Int)) = true := by rw [bne_iff_ne]; omega
  clear hlen
  go_enter Tryz.func19, Tryz.ntmps19
  go_wp2_with fail
  go_ret
  exact BoolPost.of HZ.out (Mod.refl _ _)


end Go.Proofs.YtkkndblcejmmjaaGreatDoor

/- What is wrong with values of a right layout: program and reference. -/
namespace Go.Proofs.YtkkndblcejmmjaaGreatDoor
set_option linter.unusedVariables false
set_option linter.unusedSimpArgs false
open Go.RowKit

theorem ixS_idx (cs : List Str) (s : Str) : idxQ (fun x => s == x) cs 0 = ixS cs s := by
 rw [idxQ_findIdx]
 unfold ixS
 rw [show (fun x : Str => s == x) = fun c => decide (c = s) from by funext x; rw [Bool.eq_iff_iff]; simp; exact ⟨fun h => h.symm, fun h => h.symm⟩]
 cases cs.findIdx? fun c => decide (c = s) with
 | none => rfl
 | some k => simp
theorem valE_cons (al : List AskR) (p : Int) (c : ChoR) (t : List ChoR) : valE al p (c :: t) = match askIx al c.field with
  | none => 8
  | some k => if (k : Int) ≤ p then 7 else if c.ch.length = 0 then 3 else if 1 < c.ch.length ∧ (al.getD k askN).many = false then 16
   else if pickE (al.getD k askN).ch (-1) c.ch ≠ 0 then pickE (al.getD k askN).ch (-1) c.ch else valE al k t := rfl
theorem pickE_cons (cs : List Str) (p : Int) (s : Str) (t : List Str) : pickE cs p (s :: t) = if ixS cs s < 0 then 8 else if ixS cs s ≤ p then 7 else pickE cs (ixS cs s) t := rfl
theorem first_pick (x p : Int) : firstErr [if (decide (x < 0)) = true then (8 : Int) else 0, if (decide (x ≤ p)) = true then (7 : Int) else 0] = if x < 0 then 8 else if x ≤ p then 7 else 0 := by
 by_cases h1 : x < 0
 ·simp [firstErr, h1]
 ·by_cases h2 : x ≤ p <;> simp [firstErr, h1, h2]
set_option maxRecDepth 100000 in
set_option maxHeartbeats 16000000 in
theorem valuesError_calls (w : World) (v vv : Value) (L : LayR) (cs : List ChoR) (hL : LayV w L v) (hb : LayB L) (hV : Vals w vv cs) (hcs : cs.length ≤ 1000) (hcz : ∀ c ∈ cs, ChoB c) : Calls Tryz.prog 111 #[v, vv] w (IntPost w (valsE L cs)) := by
 obtain ⟨A, n, c, A2, n2, c2, rfl, hA, hR⟩ := hL
 obtain ⟨AV, nv, cv, rfl⟩ := hV.1.form
 have hn := hA.len
 have hnv := hV.len
 have HA := Lib.hid hA
 have HV := Lib.hid hV
 have HLB := Lib.hid hb
 have HCZ := Lib.hid hcz
 have HVE : Hid (valsE L cs = if 40 < cs.length then 2 else valE L.asks (-1) cs) := Lib.hid rfl
 have HB0 := Lib.hid (Blk.new w 29 #[.slice A n c, .slice A2 n2 c2])
 have HP0 := Lib.hid (pure_alloc w (.cells #[.slice A n c, .slice A2 n2 c2] 29))
 have HAT : Hid (∀ W, Pure w W → ∀ f, Calls Tryz.prog 72 #[.agg #[.slice A n c, .slice A2 n2 c2], .string ⟨f.toArray⟩] W (IntPost W (askI L.asks f))) := Lib.hid (fun W h f => ask_calls W _ L f ⟨A, n, c, A2, n2, c2, rfl, hA.pure h, Sl.pure hR h⟩)
 generalize valsE L cs = le at *
 clear hA hR hb hV hcz
 go_enter Tryz.func111, Tryz.ntmps111
 go_upto_region 1 with (fail)
 generalize (w.alloc (.cells #[.slice A n c, .slice A2 n2 c2] 29)) = w1 at *
 generalize w.heap.size = g1 at *
 by_cases hn40 : 40 < nv
 ·have hn40' : (40 : Int) < (nv : Int) := by omega
  go_wp2_with fail
  go_ret
  exact IntPost.of (by rw [HVE.out, if_pos (by omega)]) HP0.out
 have hn40' : ¬ (40 : Int) < (nv : Int) := by omega
 rw [if_neg (by omega)] at HVE
 go_wp2_with fail
 clear hn40'
 go_loopg [5, 19] nv (fun gk la i wr => ∃ (k : Nat) (p : Int), nv - k = gk ∧ k ≤ nv ∧ la = .int .i64 p ∧ i = .int .i64 (k : Int) ∧ valE L.asks p (cs.drop k) = valE L.asks (-1) cs ∧ Pure w1 wr)
 case atStart => exact ⟨0, -1, by omega, by omega, rfl, rfl, rfl, Mod.refl _ _⟩
 case round =>
  obtain ⟨k, p, rfl, hk, rfl, rfl, hix, hm⟩ := hrel
  have hm0 := HP0.out.trans hm
  by_cases hlt : k < nv
  ·have hkl : k < cs.length := by omega
   have hVk := HV.out.pure hm0
   obtain ⟨g, off, rfl, q0, q1⟩ := hVk.cells hkl
   have HSTP := Lib.hid (fun W (h : Pure w W) => (HV.out.pure h).2 _ (List.getElem_mem hkl))
   have hxb := HCZ.out _ (List.getElem_mem hkl)
   rw [List.drop_eq_getElem_cons hkl, valE_cons] at hix
   have HIX := Lib.hid (hix.trans HVE.out.symm)
   have HAC := Lib.hid (fun W h => HAT.out W h cs[k].field)
   generalize cs[k] = x at *
   obtain ⟨xf, xA, xc, xs⟩ := x
   simp only [] at q0 q1 HSTP hxb HIX HAC
   obtain ⟨hxf, hxs, hxz⟩ := hxb
   simp only [StB] at hxf hxs hxz
   have HXZ := Lib.hid hxz
   have HXB := Lib.hid (Blk.new wr 105 #[.string ⟨xf.toArray⟩, .slice xA xs.length xc])
   have HPA := Lib.hid (hm.alloc (.cells #[.string ⟨xf.toArray⟩, .slice xA xs.length xc] 105))
   have hBw := (HB0.out.modp hm).alloc (.cells #[.string ⟨xf.toArray⟩, .slice xA xs.length xc] 105)
   have hx1 := HXB.out
   have d0 := hBw.cell 0; have d1 := hBw.cell 1; simp at d0 d1
   have x0 := hx1.cell 0; have x1 := hx1.cell 1; simp at x0 x1
   clear hBw hx1 hix hxz hVk
   go_wp2_with fail
   refine (HAC.out _ (HP0.out.trans HPA.out)).mono ?_
   rintro e w4 ⟨rfl, hm4⟩
   have HP4 := Lib.hid (HPA.out.trans hm4)
   have HX4 := Lib.hid (HXB.out.modp hm4)
   have hx1 := HX4.out
   have hb1 := HB0.out.modp HP4.out
   clear q0 q1 d0 d1 x0 x1 hm4 hm hm0 HPA HXB HAC
   generalize wr.heap.size = g7 at *
   cases hqi : askIx L.asks xf with
   | none =>
    have hai : askI L.asks xf = -1 := by unfold askI; rw [hqi]
    rw [hai]
    rw [hqi] at HIX
    have HL : le = 8 := HIX.out.symm
    have HP := Lib.hid (HP0.out.trans HP4.out)
    clear hai hqi hx1 hb1 HIX
    go_wp2_with fail
    go_ret
    exact IntPost.of HL HP.out
   | some q =>
    obtain ⟨hq, hqf, _, _⟩ := askIx_some hqi
    have hai : askI L.asks xf = (q : Int) := by unfold askI; rw [hqi]
    rw [hai]
    rw [hqi] at HIX
    simp only [show L.asks.getD q askN = L.asks[q] by simp [List.getD, hq]] at HIX
    obtain ⟨ga, offa, rfl, a0, a1, a2, a3⟩ := (HA.out.pure (HP0.out.trans HP4.out)).cells hq
    have hqn : (q : Int) < (n : Int) := by omega
    have HCSA := Lib.hid (fun W (h : Pure w W) => (HA.out.pure h).2 _ (List.getElem_mem hq))
    have HAQ : Hid (∀ W, Pure w W → W.cell? ⟨ga, offa + q * 4 + 1, none⟩ = some (.slice L.asks[q].A L.asks[q].ch.length L.asks[q].c)) := Lib.hid (fun W (h : Pure w W) => by
     obtain ⟨g', off', e1, b0, b1, b2, b3⟩ := (HA.out.pure h).cells hq
     injection e1 with e1
     injection e1 with e1 e2 _
     subst e1 e2
     exact b1)
    have hyb := (HLB.out.2.2.1 _ (List.getElem_mem hq)).2.1.1
    clear hai hqi hqf
    generalize L.asks[q] = y at *
    obtain ⟨yf, yA, yc, ys, ym, yp⟩ := y
    simp only [] at a0 a1 a2 a3 HIX HCSA HAQ hyb
    by_cases hqp : (q : Int) ≤ p
    ·have HL : le = 7 := by rw [← HIX.out, if_pos hqp]
     have HP := Lib.hid (HP0.out.trans HP4.out)
     clear hx1 hb1 HIX a0 a1 a2 a3
     go_wp2_with fail
     go_ret
     exact IntPost.of HL HP.out
    rw [if_neg hqp] at HIX
    have x0 := hx1.cell 0; have x1 := hx1.cell 1; simp at x0 x1
    clear hx1
    by_cases hx0 : xs.length = 0
    ·have HL : le = 3 := by rw [← HIX.out, if_pos hx0]
     have HP := Lib.hid (HP0.out.trans HP4.out)
     have hxz1 : (xs.length : Int) = 0 := by omega
     have hxz0 : ((xs.length : Int) == 0) = true := by rw [hxz1]; rfl
     clear hb1 HIX hx0 a0 a1 a2 a3
     go_wp2_with fail
     go_ret
     exact IntPost.of HL HP.out
    rw [if_neg hx0] at HIX
    have hx0' : ((xs.length : Int) == 0) = false := by rw [beq_eq_false_iff_ne]; omega
    clear hx0
    have d0 := hb1.cell 0; have d1 := hb1.cell 1; simp at d0 d1
    clear hb1
    have MID : Hid (¬ (1 < xs.length ∧ ym = false) → (if pickE ys (-1) xs ≠ 0 then pickE ys (-1) xs else valE L.asks (q : Int) (cs.drop (k + 1))) = le) := Lib.hid (fun h => by have := HIX.out; rw [if_neg h] at this; exact this)
    have M16 : Hid (1 < xs.length ∧ ym = false → le = 16) := Lib.hid (fun h => by rw [← HIX.out, if_pos h])
    clear HIX
    have HS4 := Lib.hid (HSTP.out w4 (HP0.out.trans HP4.out))
    clear HSTP
    by_cases hov : 1 < xs.length
    rotate_left
    ·have HMD := Lib.hid (MID.out (fun h => hov h.1))
     have hov2 : ¬ (1 : Int) < (xs.length : Int) := by omega
     clear MID M16 hov
     go_wp2_with fail
     clear hov2
     go_loopg [9, 57] xs.length (fun gk la i wr => ∃ (j : Nat) (p : Int), xs.length - j = gk ∧ j ≤ xs.length ∧ la = .int .i64 p ∧ i = .int .i64 (j : Int) ∧ pickE ys p (xs.drop j) = pickE ys (-1) xs ∧ Pure w4 wr)
     case atStart => exact ⟨0, -1, by omega, by omega, rfl, rfl, rfl, Mod.refl _ _⟩
     case round =>
      clear x0 x1 d0 d1 a0 a1 a2 a3
      obtain ⟨j, p2, rfl, hj, rfl, rfl, hjx, hmj⟩ := hrel
      by_cases hjl : j < xs.length
      ·obtain ⟨A', n', c', e1, hc1, hc2, hl1, hr1⟩ := HS4.out
       injection e1 with e1 e2 e3
       subst e1 e2 e3
       obtain ⟨gs, offs, rfl, hrs⟩ := hr1 (by omega)
       have hqs := (hrs.mod hmj _root_.id).cell (strsV_get xs j hjl)
       rw [List.drop_eq_getElem_cons hjl, pickE_cons] at hjx
       have HJX := Lib.hid hjx
       generalize xs[j] = s at *
       have hb1 := HB0.out.modp (HP4.out.trans hmj)
       have a1 := HAQ.out _ (HP0.out.trans (HP4.out.trans hmj))
       have HCI := Lib.hid (fun W (h : Pure w W) => indexQs_calls W _ ys s (HCSA.out W h))
       simp only [ixS_idx] at HCI
       have hil := ixS_lt ys s
       generalize ixS ys s = q2 at *
       have HMJ := Lib.hid (HP4.out.trans hmj)
       have HM4J := Lib.hid hmj
       have d0 := hb1.cell 0; have d1 := hb1.cell 1; simp at d0 d1
       clear hjx hr1 hl1 hrs hb1 hmj
       go_wp2_with fail
       refine (HCI.out _ (HP0.out.trans HMJ.out)).mono ?_
       rintro e w6 ⟨rfl, hm6⟩
       have HM6 := Lib.hid (HMJ.out.trans hm6)
       have HMW := Lib.hid (HM4J.out.trans hm6)
       clear HM4J d0 d1 a1 hqs HMJ HCI hm6
       have HFP := Lib.hid (first_pick q2 p2)
       obtain ⟨e5, he5⟩ : ∃ e : Int, (if (decide (q2 < 0)) = true then (8 : Int) else 0) = e := ⟨_, rfl⟩
       obtain ⟨e6, he6⟩ : ∃ e : Int, (if (decide (q2 ≤ p2)) = true then (7 : Int) else 0) = e := ⟨_, rfl⟩
       rw [he5, he6] at HFP
       have HE5 := Lib.hid he5
       have HE6 := Lib.hid he6
       clear he5 he6
       go_wp2_with fail
       refine (whenQ_calls _ _ _ e5 HE5.out).mono ?_
       rintro e w7 ⟨rfl, hm7⟩
       go_wp2_with fail
       refine (whenQ_calls _ _ _ e6 HE6.out).mono ?_
       rintro e w8 ⟨rfl, hm8⟩
       go_wp2_with fail
       refine (firstE_calls _ _ _ [e5, e6] (Blk.new _ _ _).row0 (by simp)).mono ?_
       rintro e w9 ⟨rfl, hm9⟩
       have hm69 := ((hm7.trans hm8).alloc _).trans hm9
       have HM9 := Lib.hid (HM6.out.trans hm69)
       have HMX := Lib.hid (HMW.out.trans hm69)
       obtain ⟨fe, hfe⟩ : ∃ fe, firstErr [e5, e6] = fe := ⟨_, rfl⟩
       rw [hfe] at HFP ⊢
       clear HE5 HE6 HM6 HMW hm7 hm8 hm9 hm69 hfe
       by_cases h0 : fe = 0
       ·subst h0
        have h1 : ¬ q2 < 0 := fun h => by have := HFP.out; rw [if_pos h] at this; cases this
        have h2 : ¬ q2 ≤ p2 := fun h => by have := HFP.out; rw [if_neg h1, if_pos h] at this; cases this
        have HN : Hid (pickE ys q2 (xs.drop (j + 1)) = pickE ys (-1) xs) := Lib.hid (by rw [← HJX.out, if_neg h1, if_neg h2])
        clear HJX HFP h1 h2
        go_wp2_with fail
        go_roundg (xs.length - (j + 1))
        case measure => omega
        case rel => exact ⟨j + 1, q2, rfl, hjl, rfl, by simp, HN.out, HMX.out⟩
       ·have hne : (fe != 0) = true := by simpa using h0
        have hp : pickE ys (-1) xs = fe := by
         rw [← HJX.out]
         by_cases h1 : q2 < 0
         ·rw [if_pos h1]; have := HFP.out; rw [if_pos h1] at this; exact this.symm
         ·by_cases h2 : q2 ≤ p2
          ·rw [if_neg h1, if_pos h2]; have := HFP.out; rw [if_neg h1, if_pos h2] at this; exact this.symm
          ·have := HFP.out; rw [if_neg h1, if_neg h2] at this; exact absurd this h0
        have HL : le = fe := by rw [← HMD.out, hp, if_pos h0]
        have HP := Lib.hid (HP0.out.trans HM9.out)
        clear h0 hp HJX HFP HMD
        go_wp2_with fail
        go_ret
        exact IntPost.of HL HP.out
      ·have hje : xs.length = j := by omega
       have hpz : pickE ys (-1) xs = 0 := by rw [← hjx, ← hje, List.drop_length]; rfl
       rw [hpz, if_neg (by simp)] at HMD
       have HM6 := Lib.hid (HP4.out.trans hmj)
       have hjl2 : ¬ (j : Int) < (xs.length : Int) := by omega
       clear hje hpz hjx hjl hj hmj
       go_wp2_with fail
       go_roundg (nv - (k + 1))
       case measure => omega
       case rel => exact ⟨k + 1, (q : Int), rfl, hlt, rfl, by simp, by rw [HMD.out, HVE.out], HM6.out⟩
    ·have hov2 : (1 : Int) < (xs.length : Int) := by omega
     cases ym
     ·have HL := M16.out ⟨hov, rfl⟩
      have HP := Lib.hid (HP0.out.trans HP4.out)
      clear MID M16 hov
      go_wp2_with fail
      go_ret
      exact IntPost.of HL HP.out
     ·have HMD := Lib.hid (MID.out (fun h => by cases h.2))
      clear MID M16 hov
      go_wp2_with fail
      clear hov2
      go_loopg [9, 57] xs.length (fun gk la i wr => ∃ (j : Nat) (p : Int), xs.length - j = gk ∧ j ≤ xs.length ∧ la = .int .i64 p ∧ i = .int .i64 (j : Int) ∧ pickE ys p (xs.drop j) = pickE ys (-1) xs ∧ Pure w4 wr)
      case atStart => exact ⟨0, -1, by omega, by omega, rfl, rfl, rfl, Mod.refl _ _⟩
      case round =>
       clear x0 x1 d0 d1 a0 a1 a2 a3
       obtain ⟨j, p2, rfl, hj, rfl, rfl, hjx, hmj⟩ := hrel
       by_cases hjl : j < xs.length
       ·obtain ⟨A', n', c', e1, hc1, hc2, hl1, hr1⟩ := HS4.out
        injection e1 with e1 e2 e3
        subst e1 e2 e3
        obtain ⟨gs, offs, rfl, hrs⟩ := hr1 (by omega)
        have hqs := (hrs.mod hmj _root_.id).cell (strsV_get xs j hjl)
        rw [List.drop_eq_getElem_cons hjl, pickE_cons] at hjx
        have HJX := Lib.hid hjx
        generalize xs[j] = s at *
        have hb1 := HB0.out.modp (HP4.out.trans hmj)
        have a1 := HAQ.out _ (HP0.out.trans (HP4.out.trans hmj))
        have HCI := Lib.hid (fun W (h : Pure w W) => indexQs_calls W _ ys s (HCSA.out W h))
        simp only [ixS_idx] at HCI
        have hil := ixS_lt ys s
        generalize ixS ys s = q2 at *
        have HMJ := Lib.hid (HP4.out.trans hmj)
        have HM4J := Lib.hid hmj
        have d0 := hb1.cell 0; have d1 := hb1.cell 1; simp at d0 d1
        clear hjx hr1 hl1 hrs hb1 hmj
        go_wp2_with fail
        refine (HCI.out _ (HP0.out.trans HMJ.out)).mono ?_
        rintro e w6 ⟨rfl, hm6⟩
        have HM6 := Lib.hid (HMJ.out.trans hm6)
        have HMW := Lib.hid (HM4J.out.trans hm6)
        clear HM4J d0 d1 a1 hqs HMJ HCI hm6
        have HFP := Lib.hid (first_pick q2 p2)
        obtain ⟨e5, he5⟩ : ∃ e : Int, (if (decide (q2 < 0)) = true then (8 : Int) else 0) = e := ⟨_, rfl⟩
        obtain ⟨e6, he6⟩ : ∃ e : Int, (if (decide (q2 ≤ p2)) = true then (7 : Int) else 0) = e := ⟨_, rfl⟩
        rw [he5, he6] at HFP
        have HE5 := Lib.hid he5
        have HE6 := Lib.hid he6
        clear he5 he6
        go_wp2_with fail
        refine (whenQ_calls _ _ _ e5 HE5.out).mono ?_
        rintro e w7 ⟨rfl, hm7⟩
        go_wp2_with fail
        refine (whenQ_calls _ _ _ e6 HE6.out).mono ?_
        rintro e w8 ⟨rfl, hm8⟩
        go_wp2_with fail
        refine (firstE_calls _ _ _ [e5, e6] (Blk.new _ _ _).row0 (by simp)).mono ?_
        rintro e w9 ⟨rfl, hm9⟩
        have hm69 := ((hm7.trans hm8).alloc _).trans hm9
        have HM9 := Lib.hid (HM6.out.trans hm69)
        have HMX := Lib.hid (HMW.out.trans hm69)
        obtain ⟨fe, hfe⟩ : ∃ fe, firstErr [e5, e6] = fe := ⟨_, rfl⟩
        rw [hfe] at HFP ⊢
        clear HE5 HE6 HM6 HMW hm7 hm8 hm9 hm69 hfe
        by_cases h0 : fe = 0
        ·subst h0
         have h1 : ¬ q2 < 0 := fun h => by have := HFP.out; rw [if_pos h] at this; cases this
         have h2 : ¬ q2 ≤ p2 := fun h => by have := HFP.out; rw [if_neg h1, if_pos h] at this; cases this
         have HN : Hid (pickE ys q2 (xs.drop (j + 1)) = pickE ys (-1) xs) := Lib.hid (by rw [← HJX.out, if_neg h1, if_neg h2])
         clear HJX HFP h1 h2
         go_wp2_with fail
         go_roundg (xs.length - (j + 1))
         case measure => omega
         case rel => exact ⟨j + 1, q2, rfl, hjl, rfl, by simp, HN.out, HMX.out⟩
        ·have hne : (fe != 0) = true := by simpa using h0
         have hp : pickE ys (-1) xs = fe := by
          rw [← HJX.out]
          by_cases h1 : q2 < 0
          ·rw [if_pos h1]; have := HFP.out; rw [if_pos h1] at this; exact this.symm
          ·by_cases h2 : q2 ≤ p2
           ·rw [if_neg h1, if_pos h2]; have := HFP.out; rw [if_neg h1, if_pos h2] at this; exact this.symm
           ·have := HFP.out; rw [if_neg h1, if_neg h2] at this; exact absurd this h0
         have HL : le = fe := by rw [← HMD.out, hp, if_pos h0]
         have HP := Lib.hid (HP0.out.trans HM9.out)
         clear h0 hp HJX HFP HMD
         go_wp2_with fail
         go_ret
         exact IntPost.of HL HP.out
       ·have hje : xs.length = j := by omega
        have hpz : pickE ys (-1) xs = 0 := by rw [← hjx, ← hje, List.drop_length]; rfl
        rw [hpz, if_neg (by simp)] at HMD
        have HM6 := Lib.hid (HP4.out.trans hmj)
        have hjl2 : ¬ (j : Int) < (xs.length : Int) := by omega
        clear hje hpz hjx hjl hj hmj
        go_wp2_with fail
        go_roundg (nv - (k + 1))
        case measure => omega
        case rel => exact ⟨k + 1, (q : Int), rfl, hlt, rfl, by simp, by rw [HMD.out, HVE.out], HM6.out⟩
  ·have hke : cs.length = k := by omega
   have HL : le = 0 := by
    rw [HVE.out, ← hix, ← hke, List.drop_length]
    rfl
   have HP := Lib.hid (HP0.out.trans hm)
   have hkn : nv = k := by omega
   subst hkn
   clear hke hix hm hm0 hlt hk
   go_wp2_with fail
   go_ret
   exact IntPost.of HL HP.out
set_option maxRecDepth 100000 in
set_option maxHeartbeats 16000000 in
theorem valuesRight_calls (w : World) (v vv : Value) (L : LayR) (cs : List ChoR) (hL : LayV w L v) (hb : LayB L) (hV : Vals w vv cs) (hcs : cs.length ≤ 1000) (hcz : ∀ c ∈ cs, ChoB c) : Calls Tryz.prog 77 #[v, vv] w (IntPost w (valsE L cs)) := by
 obtain ⟨A, n, c, A2, n2, c2, rfl, hA, hR⟩ := hL
 obtain ⟨AV, nv, cv, rfl⟩ := hV.1.form
 have hn := hA.len
 have hnv := hV.len
 have HA := Lib.hid hA
 have HV := Lib.hid hV
 have HLB := Lib.hid hb
 have HCZ := Lib.hid hcz
 have HVE : Hid (valsE L cs = if 40 < cs.length then 2 else valE L.asks (-1) cs) := Lib.hid rfl
 have HB0 := Lib.hid (Blk.new w 29 #[.slice A n c, .slice A2 n2 c2])
 have HP0 := Lib.hid (pure_alloc w (.cells #[.slice A n c, .slice A2 n2 c2] 29))
 have HAT : Hid (∀ W, Pure w W → ∀ f, Calls Tryz.prog 74 #[.agg #[.slice A n c, .slice A2 n2 c2], .string ⟨f.toArray⟩] W (IntPost W (askI L.asks f))) := Lib.hid (fun W h f => askAt_calls W _ L f ⟨A, n, c, A2, n2, c2, rfl, hA.pure h, Sl.pure hR h⟩)
 generalize valsE L cs = le at *
 clear hA hR hb hV hcz
 go_enter Tryz.func77, Tryz.ntmps77
 go_upto_region 1 with (fail)
 generalize (w.alloc (.cells #[.slice A n c, .slice A2 n2 c2] 29)) = w1 at *
 generalize w.heap.size = g1 at *
 by_cases hn40 : 40 < nv
 ·have hn40' : (40 : Int) < (nv : Int) := by omega
  go_wp2_with fail
  go_ret
  exact IntPost.of (by rw [HVE.out, if_pos (by omega)]) HP0.out
 have hn40' : ¬ (40 : Int) < (nv : Int) := by omega
 rw [if_neg (by omega)] at HVE
 go_wp2_with fail
 clear hn40'
 go_loopg [5, 18] nv (fun gk la i wr => ∃ (k : Nat) (p : Int), nv - k = gk ∧ k ≤ nv ∧ la = .int .i64 p ∧ i = .int .i64 (k : Int) ∧ valE L.asks p (cs.drop k) = valE L.asks (-1) cs ∧ Pure w1 wr)
 case atStart => exact ⟨0, -1, by omega, by omega, rfl, rfl, rfl, Mod.refl _ _⟩
 case round =>
  obtain ⟨k, p, rfl, hk, rfl, rfl, hix, hm⟩ := hrel
  have hm0 := HP0.out.trans hm
  by_cases hlt : k < nv
  ·have hkl : k < cs.length := by omega
   have hVk := HV.out.pure hm0
   obtain ⟨g, off, rfl, q0, q1⟩ := hVk.cells hkl
   have HSTP := Lib.hid (fun W (h : Pure w W) => (HV.out.pure h).2 _ (List.getElem_mem hkl))
   have hxb := HCZ.out _ (List.getElem_mem hkl)
   rw [List.drop_eq_getElem_cons hkl, valE_cons] at hix
   have HIX := Lib.hid (hix.trans HVE.out.symm)
   have HAC := Lib.hid (fun W h => HAT.out W h cs[k].field)
   generalize cs[k] = x at *
   obtain ⟨xf, xA, xc, xs⟩ := x
   simp only [] at q0 q1 HSTP hxb HIX HAC
   obtain ⟨hxf, hxs, hxz⟩ := hxb
   simp only [StB] at hxf hxs hxz
   have HXZ := Lib.hid hxz
   have HXB := Lib.hid (Blk.new wr 105 #[.string ⟨xf.toArray⟩, .slice xA xs.length xc])
   have HPA := Lib.hid (hm.alloc (.cells #[.string ⟨xf.toArray⟩, .slice xA xs.length xc] 105))
   have hBw := (HB0.out.modp hm).alloc (.cells #[.string ⟨xf.toArray⟩, .slice xA xs.length xc] 105)
   have hx1 := HXB.out
   have d0 := hBw.cell 0; have d1 := hBw.cell 1; simp at d0 d1
   have x0 := hx1.cell 0; have x1 := hx1.cell 1; simp at x0 x1
   clear hBw hx1 hix hxz hVk
   go_wp2_with fail
   refine (HAC.out _ (HP0.out.trans HPA.out)).mono ?_
   rintro e w4 ⟨rfl, hm4⟩
   have HP4 := Lib.hid (HPA.out.trans hm4)
   have HX4 := Lib.hid (HXB.out.modp hm4)
   have hx1 := HX4.out
   have hb1 := HB0.out.modp HP4.out
   clear q0 q1 d0 d1 x0 x1 hm4 hm hm0 HPA HXB HAC
   generalize wr.heap.size = g7 at *
   cases hqi : askIx L.asks xf with
   | none =>
    have hai : askI L.asks xf = -1 := by unfold askI; rw [hqi]
    rw [hai]
    rw [hqi] at HIX
    have HL : le = 8 := HIX.out.symm
    have HP := Lib.hid (HP0.out.trans HP4.out)
    clear hai hqi hx1 hb1 HIX
    go_wp2_with fail
    go_ret
    exact IntPost.of HL HP.out
   | some q =>
    obtain ⟨hq, hqf, _, _⟩ := askIx_some hqi
    have hai : askI L.asks xf = (q : Int) := by unfold askI; rw [hqi]
    rw [hai]
    rw [hqi] at HIX
    simp only [show L.asks.getD q askN = L.asks[q] by simp [List.getD, hq]] at HIX
    obtain ⟨ga, offa, rfl, a0, a1, a2, a3⟩ := (HA.out.pure (HP0.out.trans HP4.out)).cells hq
    have hqn : (q : Int) < (n : Int) := by omega
    have HCSA := Lib.hid (fun W (h : Pure w W) => (HA.out.pure h).2 _ (List.getElem_mem hq))
    have HAQ : Hid (∀ W, Pure w W → W.cell? ⟨ga, offa + q * 4 + 1, none⟩ = some (.slice L.asks[q].A L.asks[q].ch.length L.asks[q].c)) := Lib.hid (fun W (h : Pure w W) => by
     obtain ⟨g', off', e1, b0, b1, b2, b3⟩ := (HA.out.pure h).cells hq
     injection e1 with e1
     injection e1 with e1 e2 _
     subst e1 e2
     exact b1)
    have hyb := (HLB.out.2.2.1 _ (List.getElem_mem hq)).2.1.1
    clear hai hqi hqf
    generalize L.asks[q] = y at *
    obtain ⟨yf, yA, yc, ys, ym, yp⟩ := y
    simp only [] at a0 a1 a2 a3 HIX HCSA HAQ hyb
    by_cases hqp : (q : Int) ≤ p
    ·have HL : le = 7 := by rw [← HIX.out, if_pos hqp]
     have HP := Lib.hid (HP0.out.trans HP4.out)
     clear hx1 hb1 HIX a0 a1 a2 a3
     go_wp2_with fail
     go_ret
     exact IntPost.of HL HP.out
    rw [if_neg hqp] at HIX
    have x0 := hx1.cell 0; have x1 := hx1.cell 1; simp at x0 x1
    clear hx1
    by_cases hx0 : xs.length = 0
    ·have HL : le = 3 := by rw [← HIX.out, if_pos hx0]
     have HP := Lib.hid (HP0.out.trans HP4.out)
     have hxz1 : (xs.length : Int) = 0 := by omega
     have hxz0 : ((xs.length : Int) == 0) = true := by rw [hxz1]; rfl
     clear hb1 HIX hx0 a0 a1 a2 a3
     go_wp2_with fail
     go_ret
     exact IntPost.of HL HP.out
    rw [if_neg hx0] at HIX
    have hx0' : ((xs.length : Int) == 0) = false := by rw [beq_eq_false_iff_ne]; omega
    clear hx0
    have d0 := hb1.cell 0; have d1 := hb1.cell 1; simp at d0 d1
    clear hb1
    have MID : Hid (¬ (1 < xs.length ∧ ym = false) → (if pickE ys (-1) xs ≠ 0 then pickE ys (-1) xs else valE L.asks (q : Int) (cs.drop (k + 1))) = le) := Lib.hid (fun h => by have := HIX.out; rw [if_neg h] at this; exact this)
    have M16 : Hid (1 < xs.length ∧ ym = false → le = 16) := Lib.hid (fun h => by rw [← HIX.out, if_pos h])
    clear HIX
    have HS4 := Lib.hid (HSTP.out w4 (HP0.out.trans HP4.out))
    clear HSTP
    by_cases hov : 1 < xs.length
    rotate_left
    ·have HMD := Lib.hid (MID.out (fun h => hov h.1))
     have hov2 : ¬ (1 : Int) < (xs.length : Int) := by omega
     clear MID M16 hov
     go_wp2_with fail
     clear hov2
     go_loopg [9, 56] xs.length (fun gk la i wr => ∃ (j : Nat) (p : Int), xs.length - j = gk ∧ j ≤ xs.length ∧ la = .int .i64 p ∧ i = .int .i64 (j : Int) ∧ pickE ys p (xs.drop j) = pickE ys (-1) xs ∧ Pure w4 wr)
     case atStart => exact ⟨0, -1, by omega, by omega, rfl, rfl, rfl, Mod.refl _ _⟩
     case round =>
      clear x0 x1 d0 d1 a0 a1 a2 a3
      obtain ⟨j, p2, rfl, hj, rfl, rfl, hjx, hmj⟩ := hrel
      by_cases hjl : j < xs.length
      ·obtain ⟨A', n', c', e1, hc1, hc2, hl1, hr1⟩ := HS4.out
       injection e1 with e1 e2 e3
       subst e1 e2 e3
       obtain ⟨gs, offs, rfl, hrs⟩ := hr1 (by omega)
       have hqs := (hrs.mod hmj _root_.id).cell (strsV_get xs j hjl)
       rw [List.drop_eq_getElem_cons hjl, pickE_cons] at hjx
       have HJX := Lib.hid hjx
       generalize xs[j] = s at *
       have hb1 := HB0.out.modp (HP4.out.trans hmj)
       have a1 := HAQ.out _ (HP0.out.trans (HP4.out.trans hmj))
       have HCI := Lib.hid (fun W (h : Pure w W) => indexQs_calls W _ ys s (HCSA.out W h))
       simp only [ixS_idx] at HCI
       have hil := ixS_lt ys s
       generalize ixS ys s = q2 at *
       have HMJ := Lib.hid (HP4.out.trans hmj)
       have HM4J := Lib.hid hmj
       have d0 := hb1.cell 0; have d1 := hb1.cell 1; simp at d0 d1
       clear hjx hr1 hl1 hrs hb1 hmj
       go_wp2_with fail
       refine (HCI.out _ (HP0.out.trans HMJ.out)).mono ?_
       rintro e w6 ⟨rfl, hm6⟩
       have HM6 := Lib.hid (HMJ.out.trans hm6)
       have HMW := Lib.hid (HM4J.out.trans hm6)
       clear HM4J d0 d1 a1 hqs HMJ HCI hm6
       by_cases h1 : q2 < 0
       ·have h0 : pickE ys (-1) xs = 8 := by rw [← HJX.out, if_pos h1]
        have HL : le = 8 := by rw [← HMD.out, h0]; rfl
        have HP := Lib.hid (HP0.out.trans HM6.out)
        clear h0 HJX HMD
        go_wp2_with fail
        go_ret
        exact IntPost.of HL HP.out
       by_cases h2 : q2 ≤ p2
       ·have h0 : pickE ys (-1) xs = 7 := by rw [← HJX.out, if_neg h1, if_pos h2]
        have HL : le = 7 := by rw [← HMD.out, h0]; rfl
        have HP := Lib.hid (HP0.out.trans HM6.out)
        clear h0 HJX HMD
        go_wp2_with fail
        go_ret
        exact IntPost.of HL HP.out
       have HN : Hid (pickE ys q2 (xs.drop (j + 1)) = pickE ys (-1) xs) := Lib.hid (by rw [← HJX.out, if_neg h1, if_neg h2])
       have HM7 := Lib.hid HMW.out
       clear HJX HMW
       go_wp2_with fail
       go_roundg (xs.length - (j + 1))
       case measure => omega
       case rel => exact ⟨j + 1, q2, rfl, hjl, rfl, by simp, HN.out, HM7.out⟩
      ·have hje : xs.length = j := by omega
       have hpz : pickE ys (-1) xs = 0 := by rw [← hjx, ← hje, List.drop_length]; rfl
       rw [hpz, if_neg (by simp)] at HMD
       have HM6 := Lib.hid (HP4.out.trans hmj)
       have hjl2 : ¬ (j : Int) < (xs.length : Int) := by omega
       clear hje hpz hjx hjl hj hmj
       go_wp2_with fail
       go_roundg (nv - (k + 1))
       case measure => omega
       case rel => exact ⟨k + 1, (q : Int), rfl, hlt, rfl, by simp, by rw [HMD.out, HVE.out], HM6.out⟩
    ·have hov2 : (1 : Int) < (xs.length : Int) := by omega
     cases ym
     ·have HL := M16.out ⟨hov, rfl⟩
      have HP := Lib.hid (HP0.out.trans HP4.out)
      clear MID M16 hov
      go_wp2_with fail
      go_ret
      exact IntPost.of HL HP.out
     ·have HMD := Lib.hid (MID.out (fun h => by cases h.2))
      clear MID M16 hov
      go_wp2_with fail
      clear hov2
      go_loopg [9, 56] xs.length (fun gk la i wr => ∃ (j : Nat) (p : Int), xs.length - j = gk ∧ j ≤ xs.length ∧ la = .int .i64 p ∧ i = .int .i64 (j : Int) ∧ pickE ys p (xs.drop j) = pickE ys (-1) xs ∧ Pure w4 wr)
      case atStart => exact ⟨0, -1, by omega, by omega, rfl, rfl, rfl, Mod.refl _ _⟩
      case round =>
       clear x0 x1 d0 d1 a0 a1 a2 a3
       obtain ⟨j, p2, rfl, hj, rfl, rfl, hjx, hmj⟩ := hrel
       by_cases hjl : j < xs.length
       ·obtain ⟨A', n', c', e1, hc1, hc2, hl1, hr1⟩ := HS4.out
        injection e1 with e1 e2 e3
        subst e1 e2 e3
        obtain ⟨gs, offs, rfl, hrs⟩ := hr1 (by omega)
        have hqs := (hrs.mod hmj _root_.id).cell (strsV_get xs j hjl)
        rw [List.drop_eq_getElem_cons hjl, pickE_cons] at hjx
        have HJX := Lib.hid hjx
        generalize xs[j] = s at *
        have hb1 := HB0.out.modp (HP4.out.trans hmj)
        have a1 := HAQ.out _ (HP0.out.trans (HP4.out.trans hmj))
        have HCI := Lib.hid (fun W (h : Pure w W) => indexQs_calls W _ ys s (HCSA.out W h))
        simp only [ixS_idx] at HCI
        have hil := ixS_lt ys s
        generalize ixS ys s = q2 at *
        have HMJ := Lib.hid (HP4.out.trans hmj)
        have HM4J := Lib.hid hmj
        have d0 := hb1.cell 0; have d1 := hb1.cell 1; simp at d0 d1
        clear hjx hr1 hl1 hrs hb1 hmj
        go_wp2_with fail
        refine (HCI.out _ (HP0.out.trans HMJ.out)).mono ?_
        rintro e w6 ⟨rfl, hm6⟩
        have HM6 := Lib.hid (HMJ.out.trans hm6)
        have HMW := Lib.hid (HM4J.out.trans hm6)
        clear HM4J d0 d1 a1 hqs HMJ HCI hm6
        by_cases h1 : q2 < 0
        ·have h0 : pickE ys (-1) xs = 8 := by rw [← HJX.out, if_pos h1]
         have HL : le = 8 := by rw [← HMD.out, h0]; rfl
         have HP := Lib.hid (HP0.out.trans HM6.out)
         clear h0 HJX HMD
         go_wp2_with fail
         go_ret
         exact IntPost.of HL HP.out
        by_cases h2 : q2 ≤ p2
        ·have h0 : pickE ys (-1) xs = 7 := by rw [← HJX.out, if_neg h1, if_pos h2]
         have HL : le = 7 := by rw [← HMD.out, h0]; rfl
         have HP := Lib.hid (HP0.out.trans HM6.out)
         clear h0 HJX HMD
         go_wp2_with fail
         go_ret
         exact IntPost.of HL HP.out
        have HN : Hid (pickE ys q2 (xs.drop (j + 1)) = pickE ys (-1) xs) := Lib.hid (by rw [← HJX.out, if_neg h1, if_neg h2])
        have HM7 := Lib.hid HMW.out
        clear HJX HMW
        go_wp2_with fail
        go_roundg (xs.length - (j + 1))
        case measure => omega
        case rel => exact ⟨j + 1, q2, rfl, hjl, rfl, by simp, HN.out, HM7.out⟩
       ·have hje : xs.length = j := by omega
        have hpz : pickE ys (-1) xs = 0 := by rw [← hjx, ← hje, List.drop_length]; rfl
        rw [hpz, if_neg (by simp)] at HMD
        have HM6 := Lib.hid (HP4.out.trans hmj)
        have hjl2 : ¬ (j : Int) < (xs.length : Int) := by omega
        clear hje hpz hjx hjl hj hmj
        go_wp2_with fail
        go_roundg (nv - (k + 1))
        case measure => omega
        case rel => exact ⟨k + 1, (q : Int), rfl, hlt, rfl, by simp, by rw [HMD.out, HVE.out], HM6.out⟩
  ·have hke : cs.length = k := by omega
   have HL : le = 0 := by
    rw [HVE.out, ← hix, ← hke, List.drop_length]
    rfl
   have HP := Lib.hid (HP0.out.trans hm)
   have hkn : nv = k := by omega
   subst hkn
   clear hke hix hm hm0 hlt hk
   go_wp2_with fail
   go_ret
   exact IntPost.of HL HP.out

end Go.Proofs.YtkkndblcejmmjaaGreatDoor
