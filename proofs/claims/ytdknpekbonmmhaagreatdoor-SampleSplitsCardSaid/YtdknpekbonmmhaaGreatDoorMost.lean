/- Package sample: drawnError, most, Most, Fewest. -/
import Derived.Test.YtdknpekbonmmhaaGreatDoorCheck
import Derived.Test.YtdknpekbonmmhaaGreatDoorLikely
namespace Go.Proofs.YtdknpekbonmmhaaGreatDoor
set_option linter.unusedVariables false
set_option linter.unusedSimpArgs false
open Go.RowKit
attribute [local go_sem ↓] Go.wp_at_zero Go.wp_at_succ

abbrev agg2 (a b : Int) : Value := .agg #[.int .i64 a, .int .i64 b]
abbrev agg3 (a b c : Int) : Value := .agg #[.int .i64 a, .int .i64 b, .int .i64 c]

set_option maxRecDepth 100000 in
set_option maxHeartbeats 1000000 in
theorem drawnError_calls (w : World) (p s f n d : Int) :
    Calls Tryz.prog 199 #[agg3 p s f, agg2 n d] w (IntPost w (firstErr [drawnErr p s f, levelErr n d])) := by
  go_enter Tryz.func199, Tryz.ntmps199
  go_wp2_with fail
  have hdB := (Blk.new w 163 #[.int .i64 p, .int .i64 s, .int .i64 f]).alloc (.cells #[.int .i64 n, .int .i64 d] 85)
  have hlB := Blk.new (w.alloc (.cells #[.int .i64 p, .int .i64 s, .int .i64 f] 163)) 85 #[.int .i64 n, .int .i64 d]
  rw [World.size_alloc] at hlB
  have hm0 : Pure w ((w.alloc (.cells #[.int .i64 p, .int .i64 s, .int .i64 f] 163)).alloc (.cells #[.int .i64 n, .int .i64 d] 85)) := ((Mod.refl _ _).alloc _).alloc _
  generalize ((w.alloc (.cells #[.int .i64 p, .int .i64 s, .int .i64 f] 163)).alloc (.cells #[.int .i64 n, .int .i64 d] 85)) = W at *
  have q0 := hdB.cell 0
  have q1 := hdB.cell 1
  have q2 := hdB.cell 2
  have l0 := hlB.cell 0
  have l1 := hlB.cell 1
  simp at q0 q1 q2 l0 l1
  go_region_held3 (fun w' => w'.cell? ⟨w.heap.size, 0, none⟩ = some (.int .i64 p) ∧ w'.cell? ⟨w.heap.size, 1, none⟩ = some (.int .i64 s) ∧ w'.cell? ⟨w.heap.size, 2, none⟩ = some (.int .i64 f) ∧ w'.cell? ⟨w.heap.size + 1, 0, none⟩ = some (.int .i64 n) ∧ w'.cell? ⟨w.heap.size + 1, 1, none⟩ = some (.int .i64 d)) (go_keep)
    (first
      | (go_at_call 269; (refine (checkDrawn_calls _ _ _ _).mono ?_); rintro e w1 ⟨rfl, hm1⟩; have k0 := hm1.keep q0 id; have k1 := hm1.keep q1 id; have k2 := hm1.keep q2 id; have k3 := hm1.keep l0 id; have k4 := hm1.keep l1 id)
      | (go_at_call 270; (refine (checkLevel_calls _ _ _).mono ?_); rintro e w2 ⟨rfl, hm2⟩; have j0 := hm2.keep k0 id; have j1 := hm2.keep k1 id; have j2 := hm2.keep k2 id; have j3 := hm2.keep k3 id; have j4 := hm2.keep k4 id)
      | (go_at_call 84; (refine (firstE_calls _ _ _ [drawnErr p s f, levelErr n d] (Blk.new _ _ _).row0 (by simp)).mono ?_); rintro e w3 ⟨rfl, hm3⟩; have hM3 : Pure w2 w3 := ((Mod.refl _ _).alloc _).trans hm3; have i0 := hM3.keep j0 id; have i1 := hM3.keep j1 id; have i2 := hM3.keep j2 id; have i3 := hM3.keep j3 id; have i4 := hM3.keep j4 id))
  go_wp2_with fail
  go_ret
  exact IntPost.of rfl (((hm0.drew.trans hm1).trans hm2).trans hM3)

/-- With so many relevant items few are not likely; many are. -/
def mostP (p s f num den : Nat) (n : Int) : Bool := !likelyB p s n.toNat 0 (f + 1) num den
def fewP (p s f num den : Nat) (n : Int) : Bool := likelyB p s n.toNat f (s + 1 - f) num den
/-- What samples and levels must be. -/
def DrawnOk (p s f num den : Nat) : Prop := 1 ≤ p ∧ p ≤ 2000 ∧ 1 ≤ s ∧ s ≤ 60 ∧ s ≤ p ∧ f ≤ s ∧ 1 ≤ num ∧ num < den ∧ den ≤ 1000

set_option maxRecDepth 100000 in
set_option maxHeartbeats 1000000 in
theorem most1_calls (w : World) (g1 g2 : Nat) (p s f num den r : Nat) (h : DrawnOk p s f num den) (hr : r ≤ p) (h1 : Blk w g1 163 #[.int .i64 (p : Int), .int .i64 (s : Int), .int .i64 (f : Int)]) (h2 : Blk w g2 85 #[.int .i64 (num : Int), .int .i64 (den : Int)]) :
    Calls Tryz.prog 272 #[.int .i64 (r : Int), .pointer (some ⟨g1, 0, none⟩), .pointer (some ⟨g2, 0, none⟩)] w (BoolPost w (!likelyB p s r 0 (f + 1) num den)) := by
  obtain ⟨a1, a2, a3, a4, a5, a6, a7, a8, a9⟩ := h
  have q0 := h1.cell 0
  have q1 := h1.cell 1
  have q2 := h1.cell 2
  have l0 := h2.cell 0
  have l1 := h2.cell 1
  simp at q0 q1 q2 l0 l1
  go_enter Tryz.func272, Tryz.ntmps272
  go_wp2_with fail
  refine (likely_calls _ p s f r 0 f num den hr a2 (by omega) a6 (by omega) (by omega) (by omega)).mono ?_
  rintro e w1 ⟨rfl, hm1⟩
  go_wp2_with fail
  go_ret
  exact BoolPost.of rfl hm1

/-- The greatest number of relevant items that is likely, and the least one. -/
def IsMost (p s f num den : Nat) (x : Int) : Prop := Least ((f : Int) + 1) ((p : Int) - s + f + 1) (mostP p s f num den) (x + 1)
def IsFew (p s f num den : Nat) (x : Int) : Prop := Least (f : Int) ((p : Int) - s + f) (fewP p s f num den) x
theorem mostP_up {p s f num den : Nat} (h : DrawnOk p s f num den) : ∀ x y : Int, (f : Int) + 1 ≤ x → x ≤ y → y < (p : Int) - s + f + 1 → mostP p s f num den x = true → mostP p s f num den y = true := by
  intro x y h1 h2 h3 h4
  obtain ⟨a1, a2, a3, a4, a5, a6, a7, a8, a9⟩ := h
  unfold mostP at *
  cases hy : likelyB p s y.toNat 0 (f + 1) num den with
  | false => rfl
  | true =>
    have := likely_dec p s f num den x.toNat y.toNat a6 (by omega) (by omega) hy
    rw [this] at h4
    cases h4
theorem fewP_up {p s f num den : Nat} (h : DrawnOk p s f num den) : ∀ x y : Int, (f : Int) ≤ x → x ≤ y → y < (p : Int) - s + f → fewP p s f num den x = true → fewP p s f num den y = true := by
  intro x y h1 h2 h3 h4
  obtain ⟨a1, a2, a3, a4, a5, a6, a7, a8, a9⟩ := h
  exact likely_inc p s f num den x.toNat y.toNat a6 (by omega) (by omega) h4

def MostPost (w : World) (p s f num den : Nat) (e : Ending) (w' : World) : Prop := ∃ x : Int, IsMost p s f num den x ∧ e = .returned (.int .i64 x) ∧ Pure w w'

set_option maxRecDepth 100000 in
set_option maxHeartbeats 1000000 in
theorem most_calls (w : World) (p s f num den : Nat) (h : DrawnOk p s f num den) :
    Calls Tryz.prog 200 #[agg3 p s f, agg2 num den] w (MostPost w p s f num den) := by
  have HOK := Lib.hid h
  obtain ⟨a1, a2, a3, a4, a5, a6, a7, a8, a9⟩ := h
  go_enter Tryz.func200, Tryz.ntmps200
  go_wp2_with fail
  have hdB := (Blk.new w 163 #[.int .i64 (p : Int), .int .i64 (s : Int), .int .i64 (f : Int)]).alloc (.cells #[.int .i64 (num : Int), .int .i64 (den : Int)] 85)
  have hlB := Blk.new (w.alloc (.cells #[.int .i64 (p : Int), .int .i64 (s : Int), .int .i64 (f : Int)] 163)) 85 #[.int .i64 (num : Int), .int .i64 (den : Int)]
  rw [World.size_alloc] at hlB
  refine (first_calls _ _ _ _ _ _ (mostP p s f num den) (by omega) (by omega) (by omega) (fun _ _ => rfl) (mostP_up HOK.out) (fun n W hn1 hn2 hm => ?_)).mono ?_
  · obtain ⟨r, rfl⟩ := Int.eq_ofNat_of_zero_le (show 0 ≤ n by omega)
    exact most1_calls W _ _ p s f num den r HOK.out (by omega) (hdB.mod hm id) (hlB.mod hm id)
  · rintro e w1 ⟨x, hx, rfl, hm1⟩
    have hxb := hx
    obtain ⟨x1, x2, _, _⟩ := hxb
    have HX := Lib.hid hx
    clear hx
    go_wp2_with fail
    go_ret
    refine ⟨x - 1, ?_, rfl, (((Mod.refl _ _).alloc _).alloc _).trans hm1⟩
    unfold IsMost
    rw [Int.sub_add_cancel]
    exact HX.out

end Go.Proofs.YtdknpekbonmmhaaGreatDoor
