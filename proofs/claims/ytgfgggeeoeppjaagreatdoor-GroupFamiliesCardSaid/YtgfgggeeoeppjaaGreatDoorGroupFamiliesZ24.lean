/- Texts of the proof of GroupFamilies, put together: GroF. -/
import Derived.Test.YtgfgggeeoeppjaaGreatDoorGroupFamiliesZ15
import Derived.RangeFuncNested
import Derived.RangeFuncBound
import Derived.RangeFuncCalls
import Derived.RangeFuncLeaves
import Derived.Shelf.Abstract
import Derived.Shelf.RegionOpen
import Derived.WalkKit
import Derived.OwnWalkIn
import Derived.TacticsInMore
import Derived.LoopNIn
import Derived.LoopIn
set_option linter.unusedVariables false
set_option linter.unusedSimpArgs false
set_option maxRecDepth 100000
/- slices.Backward over strings. -/
namespace Go.Proofs.YtgfgggeeoeppjaaGreatDoor
open Go.RowKit Go.Shelf
attribute [local go_sem] Oper.semAt_some
def uptoS {α : Type} (f : Nat → α) (k : Nat) : List α := (List.range k).map f
theorem uptoS_succ {α : Type} (f : Nat → α) (k : Nat) : uptoS f (k + 1) = uptoS f k ++ [f k] := by simp [uptoS, List.range_succ]
theorem uptoS_length {α : Type} (f : Nat → α) (k : Nat) : (uptoS f k).length = k := by simp [uptoS]
def bwS (xs : List Str) (j : Nat) : Nat × Str := (xs.length - 1 - j, xs[xs.length - 1 - j]?.getD [])
set_option maxHeartbeats 4000000 in
theorem bwS1_in (F : Fence) (n : Nat) (h7 : F.fn 141) (hro : F.round = none) (hn : 1 ≤ n) (l Bs cap : Nat) (A : Option Addr) (xs : List Str) (hreach : xs.length ≤ 100000) (S : Nat → Prop) (hBs0 : ¬ S Bs) (J Jx : List (Nat × Str) → World → Prop)
  (hY : ∀ pre (x : Nat × Str) W, x.2 ∈ xs → J pre W → pre.length < xs.length → YieldAt F (n - 1) Tryz.prog l #[.int .i64 (x.1 : Int), .string ⟨x.2.toArray⟩] W fun e W' =>
   (e = .returned (.bool true) ∧ J (pre ++ [x]) W' ∧ Mod S W W') ∨ (e = .returned (.bool false) ∧ Jx (pre ++ [x]) W'))
  (W : World) (hBs : W.cell? ⟨Bs, 0, none⟩ = some (.slice A xs.length cap)) (hc : 0 < xs.length → ∃ b off, A = some ⟨b, off, none⟩ ∧ ¬ S b ∧ RowAt W 9 b off (strsV xs)) (h0 : J [] W) :
  CallsIn F n Tryz.prog 141 #[.func (.yield l) #[] #[], .pointer (some ⟨Bs, 0, none⟩)] W fun e W' => (∃ v, e = .returned v) ∧
   ((∃ ys, ys = uptoS (bwS xs) xs.length ∧ J ys W') ∨ (∃ pre, (∃ k, k ≤ xs.length ∧ pre = uptoS (bwS xs) k) ∧ Jx pre W')) := by
 refine callsIn_of_wp Tryz.func141 rfl h7 ?_ hro;simp only [Tryz.ntmps141, List.size_toArray, List.length_cons, List.length_nil, Nat.reduceAdd, Nat.reduceSub, Array.replicate_succ, Array.replicate_zero, List.push_toArray, List.append_toArray, List.nil_append, List.cons_append]
 gi_wp2
 gi_loopw [3] (fun i wr => ∃ m : Nat, m ≤ xs.length ∧ i = .int .i64 ((m : Int) - 1) ∧ J (uptoS (bwS xs) (xs.length - m)) wr ∧ Mod S W wr)
  (fun i _ => (intOf i + 1).toNat)
 case atStart => exact ⟨xs.length, Nat.le_refl _, rfl, by simpa [uptoS] using h0, Mod.refl _ _⟩
 case round =>
  obtain ⟨m, hm, rfl, hJs, hnx⟩ := hrel
  cases m with
  | zero =>
   gi_wp2
   go_end0
   exact ⟨⟨_, rfl⟩, .inl ⟨_, rfl, by simpa using hJs⟩⟩
  | succ j =>
   have hj : j < xs.length := by omega
   obtain ⟨b, off, rfl, hb, hc⟩ := hc (by omega);have hrow : RowAt wr 9 b off (strsV xs) := hc.mod hnx hb;have q0 := hrow.cell (strsV_get xs j hj);have hbx := hnx.keep hBs hBs0
   have hlen : (uptoS (bwS xs) (xs.length - (j + 1))).length < xs.length := by rw [uptoS_length]; omega
   have hbw : bwS xs (xs.length - (j + 1)) = (j, xs[j]) := by
    unfold bwS
    have e : xs.length - 1 - (xs.length - (j + 1)) = j := by omega
    rw [e, List.getElem?_eq_getElem hj]
    rfl
   have hup : uptoS (bwS xs) (xs.length - j) = uptoS (bwS xs) (xs.length - (j + 1)) ++ [(j, xs[j])] := by
    rw [show xs.length - j = (xs.length - (j + 1)) + 1 by omega, uptoS_succ, hbw]
   have HUP := Lib.hid hup;clear hbw hup;obtain ⟨fn, tmps, assign, body, hy, hR⟩ := hY _ (j, xs[j]) wr (List.getElem_mem hj) hJs hlen
   have hi1 : ((j + 1 : Nat) : Int) - 1 = (j : Int) := by omega
   rw [hi1]
   have j1 : (0 : Int) ≤ (j : Int) := by omega
   have j2 : (j : Int) < (xs.length : Int) := by omega
   dsimp only at hy
   clear hi1 hlen hrow
   gi_wp2
   refine hR.mono ?_;rintro e W3 (⟨rfl, hJ3, hk3⟩ | ⟨rfl, hJx3⟩)
   ·gi_wp2
    go_roundw
    case rel => exact ⟨j, by omega, rfl, by rw [HUP.out]; exact hJ3, hnx.trans hk3⟩
    case measure => simp [intOf] <;> omega
   ·gi_wp2
    refine bodyPost_ret (results_none rfl _ _ _) rfl ?_;exact ⟨⟨_, rfl⟩, .inr ⟨_, ⟨xs.length - j, by omega, HUP.out.symm⟩, hJx3⟩⟩
set_option maxHeartbeats 1000000 in
theorem bwS_in (F : Fence) (n : Nat) (h5 : F.fn 79) (hro : F.round = none) (a : Option Addr) (len cap : Nat) (w : World) :
  CallsIn F n Tryz.prog 79 #[.slice a len cap] w fun e w' => e = .returned (.func (.func 141) #[] #[.pointer (some ⟨w.heap.size, 0, none⟩)]) ∧ w' = w.alloc (.cells #[.slice a len cap] 29) := by
 refine callsIn_of_wp Tryz.func79 rfl h5 ?_ hro;simp only [Tryz.ntmps79, List.size_toArray, List.length_cons, List.length_nil, Nat.reduceAdd, Nat.reduceSub, Array.replicate_succ, Array.replicate_zero, List.push_toArray, List.append_toArray, List.nil_append, List.cons_append]
 gi_wp2
 go_ret;exact ⟨rfl, rfl⟩
theorem bwS_rev (xs : List Str) : (uptoS (bwS xs) xs.length).map (·.2) = xs.reverse := by
 unfold uptoS bwS;rw [List.map_map]
 apply List.ext_getElem
 ·simp
 ·intro i h1 h2;simp at h1;simp [List.getElem_reverse, h1, show xs.length - 1 - i < xs.length by omega]
theorem bwS_stops (n : Nat) (hn : 1 ≤ n) (Bs cap : Nat) (A : Option Addr) (xs : List Str) (hreach : xs.length ≤ 100000) (S : Nat → Prop) (w : World) (hBs : ¬ S Bs)
  (hc : w.cell? ⟨Bs, 0, none⟩ = some (.slice A xs.length cap)) (hI : 0 < xs.length → ∃ b off, A = some ⟨b, off, none⟩ ∧ ¬ S b ∧ RowAt w 9 b off (strsV xs)) :
  SeqStopsK Fence.wide n Tryz.prog 141 #[.pointer (some ⟨Bs, 0, none⟩)] (fun x : { x : Nat × Str // x.2 ∈ xs } => #[Value.int .i64 (x.1.1 : Int), .string ⟨x.1.2.toArray⟩]) (Mod S) (fun ys => ys.map (·.1.2) = xs.reverse) (fun _ => True) xs.length w := fun l J Jx W hW _ _ hY h0 => by
 have hbl : Bs < w.heap.size := lt_of_cell hc;refine (bwS1_in Fence.wide n trivial rfl hn l Bs cap A xs hreach S hBs (fun pre W => ∃ p : List { x : Nat × Str // x.2 ∈ xs }, p.map (·.1) = pre ∧ J p W) (fun pre W => ∃ p : List { x : Nat × Str // x.2 ∈ xs }, p.map (·.1) = pre ∧ Jx p W) (fun pre x W1 hx hJ hlen => ?_) W ((hW.cell (p := ⟨Bs, 0, none⟩) hbl).trans hc) (fun h => ?_) ⟨[], rfl, h0⟩).mono ?_
 ·obtain ⟨p, rfl, hp⟩ := hJ;obtain ⟨fn, tmps, assign, body, hy, hR⟩ := hY p ⟨x, hx⟩ W1 hp (by simpa using hlen);refine ⟨fn, tmps, assign, body, hy, hR.mono ?_⟩;rintro e W' (⟨rfl, h1, h2⟩ | ⟨rfl, h1⟩)
  ·exact .inl ⟨rfl, ⟨p ++ [⟨x, hx⟩], by simp, h1⟩, h2⟩
  ·exact .inr ⟨rfl, ⟨p ++ [⟨x, hx⟩], by simp, h1⟩⟩
 ·obtain ⟨b, off, h1, h2, h3⟩ := hI h;have hlt := h3.lt;obtain ⟨arr, fr, h3, h4⟩ := h3;exact ⟨b, off, h1, h2, arr, fr, (hW.block b hlt).trans h3, h4⟩
 ·rintro e W' ⟨hv, ⟨ys, rfl, p, hp, hJ⟩ | ⟨pre, _, p, hp, hJ⟩⟩
  ·refine ⟨hv, .inl ⟨p, ?_, hJ⟩⟩;rw [← bwS_rev, ← hp, List.map_map]
   rfl
  ·exact ⟨hv, .inr ⟨p, trivial, hJ⟩⟩
end Go.Proofs.YtgfgggeeoeppjaaGreatDoor
