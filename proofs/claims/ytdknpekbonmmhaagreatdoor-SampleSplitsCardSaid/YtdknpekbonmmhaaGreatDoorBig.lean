/- The reference's numbers: times, plus. -/
import Derived.Test.YtdknpekbonmmhaaGreatDoorBase
import Derived.Test.YtdknpekbonmmhaaGreatDoorMath
import Derived.Deep.AppendLies
import Derived.Deep.DeepCutAuto
namespace Go.Proofs.YtdknpekbonmmhaaGreatDoor
set_option linter.unusedVariables false
set_option linter.unusedSimpArgs false
open Go.RowKit

def intsN (ds : List Nat) : List Value := ds.map (fun (d : Nat) => Value.int .i64 (d : Int))
theorem intsN_length (ds : List Nat) : (intsN ds).length = ds.length := by simp [intsN]
theorem intsN_get (ds : List Nat) (i : Nat) (h : i < ds.length) : (intsN ds)[i]? = some (.int .i64 ((ds.getD i 0 : Nat) : Int)) := by
  simp [intsN, List.getD, h]
theorem intsN_snoc (ds : List Nat) (d : Nat) : intsN ds ++ [.int .i64 (d : Int)] = intsN (ds ++ [d]) := by simp [intsN]
/-- A number of the reference: its digits, all below 10^9, at most L of them. -/
def IsBig (w : World) (v : Value) (x L : Nat) : Prop :=
  ∃ ds : List Nat, Sl w 3 1 v (intsN ds) ∧ (∀ d ∈ ds, d < 1000000000) ∧ val B9 ds = x ∧ ds.length ≤ L
theorem IsBig.pure {w w' : World} {v : Value} {x L : Nat} (h : IsBig w v x L) (hm : Pure w w') : IsBig w' v x L := by
  obtain ⟨ds, h1, h2⟩ := h
  exact ⟨ds, h1.pure hm, h2⟩
theorem IsBig.more {w : World} {v : Value} {x L M : Nat} (h : IsBig w v x L) (hL : L ≤ M) : IsBig w v x M := by
  obtain ⟨ds, h1, h2, h3, h4⟩ := h
  exact ⟨ds, h1, h2, h3, by omega⟩
theorem IsBig.form {w : World} {v : Value} {x L : Nat} (h : IsBig w v x L) : ∃ A n c, v = .slice A n c := by
  obtain ⟨ds, h1, _⟩ := h
  exact h1.form
def BigPost (w : World) (x L : Nat) (e : Ending) (w' : World) : Prop := ∃ v, e = .returned v ∧ IsBig w' v x L ∧ Pure w w'
theorem IsBig.zero (w : World) (L : Nat) : IsBig w (.slice none 0 0) 0 L := ⟨[], Sl.nil_, by simp, rfl, by simp⟩

theorem info_int : (Tryz.prog.info? 3).map (fun i => (i.zero, i.size, i.bytes)) = some (some (.int .i64 0), 1, 8) := by kernel_rfl
theorem mem_snoc_lt {B : Nat} {us : List Nat} {d : Nat} (h : ∀ x ∈ us, x < B) (hd : d < B) : ∀ x ∈ us ++ [d], x < B := by
  intro x hx
  rcases List.mem_append.1 hx with h1 | h1
  · exact h x h1
  · simp at h1; omega

def TimRel (w : World) (ds : List Nat) (n gk : Nat) (o cy i : Value) (wr : World) : Prop :=
  ∃ (k c : Nat) (us : List Nat) (A : Option Addr) (cap : Nat), ds.length - k = gk ∧ k ≤ ds.length ∧ cy = .int .i64 (c : Int) ∧ c ≤ n ∧ i = .int .i64 (k : Int) ∧ us.length = k ∧ (∀ d ∈ us, d < 1000000000) ∧
    val B9 us + B9 ^ k * c = val B9 (ds.take k) * n ∧ o = .slice A k cap ∧ wr.ownsRow w.heap.size 3 1 (.slice A k cap) k (intsN us) ∧ Pure w wr
def TimRel2 (w : World) (ds : List Nat) (n gk : Nat) (o cy : Value) (wr : World) : Prop :=
  ∃ (k c : Nat) (us : List Nat) (A : Option Addr) (cap : Nat), c = gk ∧ k ≤ ds.length + 1 ∧ (c = 0 ∨ k = ds.length) ∧ cy = .int .i64 (c : Int) ∧ c ≤ n ∧ us.length = k ∧ (∀ d ∈ us, d < 1000000000) ∧
    val B9 us + B9 ^ k * c = val B9 ds * n ∧ o = .slice A k cap ∧ wr.ownsRow w.heap.size 3 1 (.slice A k cap) k (intsN us) ∧ Pure w wr

theorem tim_next {w wr : World} {ds us : List Nat} {n k c d p r q : Nat} {A : Option Addr} {cap : Nat} (hlt : k < ds.length) (hul : us.length = k) (hud : ∀ d ∈ us, d < 1000000000)
    (hval : val B9 us + B9 ^ k * c = val B9 (ds.take k) * n) (hd : ds.getD k 0 = d) (hp : d * n = p) (hr : (c + p) % B9 = r) (hq : (c + p) / B9 = q) (hrb : r < 1000000000) (hqn : q ≤ n)
    (hown : wr.ownsRow w.heap.size 3 1 (.slice A (k + 1) cap) (k + 1) (intsN us ++ [.int .i64 (r : Int)])) (hm : Pure w wr) :
    TimRel w ds n (ds.length - (k + 1)) (.slice A (k + 1) cap) (.int .i64 (q : Int)) (.int .i64 ((k : Int) + 1)) wr := by
  refine ⟨k + 1, q, us ++ [r], A, cap, rfl, hlt, rfl, hqn, by simp, by simp [hul], mem_snoc_lt hud hrb, ?_, rfl, by rw [← intsN_snoc]; exact hown, hm⟩
  have hst := tim_step B9 k n d c _ _ hval
  rw [hp, hr, hq, ← hd, ← val_take_succ] at hst
  rw [val_snoc, hul]
  exact hst

theorem tim_last {w wr : World} {ds us : List Nat} {n k c : Nat} {A : Option Addr} {cap : Nat} {q : Int} (hk : k = ds.length) (hul : us.length = k) (hud : ∀ d ∈ us, d < 1000000000)
    (hval : val B9 us + B9 ^ k * c = val B9 ds * n) (hc : c < 1000000000) (hq : q = 0)
    (hown : wr.ownsRow w.heap.size 3 1 (.slice A (k + 1) cap) (k + 1) (intsN us ++ [.int .i64 (c : Int)])) (hm : Pure w wr) :
    TimRel2 w ds n 0 (.slice A (k + 1) cap) (.int .i64 q) wr := by
  subst hq
  refine ⟨k + 1, 0, us ++ [c], A, cap, rfl, by omega, .inl rfl, rfl, by omega, by simp [hul], mem_snoc_lt hud hc, ?_, rfl, by rw [← intsN_snoc]; exact hown, hm⟩
  rw [val_snoc, hul, Nat.mul_zero, Nat.add_zero]
  exact hval
theorem tim_done {w : World} {ds us : List Nat} {n k L : Nat} {v : Value} (hul : us.length = k) (hud : ∀ d ∈ us, d < 1000000000) (hk : k ≤ ds.length + 1) (hx : ds.length ≤ L)
    (hval : val B9 us + B9 ^ k * 0 = val B9 ds * n) (hs : Sl w 3 1 v (intsN us)) : IsBig w v (val B9 ds * n) (L + 1) := by
  rw [Nat.mul_zero, Nat.add_zero] at hval
  exact ⟨us, hs, hud, hval, by omega⟩

end Go.Proofs.YtdknpekbonmmhaaGreatDoor
