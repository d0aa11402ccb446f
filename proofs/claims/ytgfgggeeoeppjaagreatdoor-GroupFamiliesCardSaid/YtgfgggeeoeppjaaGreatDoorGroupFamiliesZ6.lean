/- Texts of the proof of GroupFamilies, put together: Picks, Gen, Strs, ItmP, ItmB, QuoP, LeastP, FamP, SlS, GroP, GrqP. -/
import Derived.Test.YtgfgggeeoeppjaaGreatDoorGroupFamiliesZ5
import Derived.Deep.RegionHeld3
set_option linter.unusedVariables false
set_option linter.unusedSimpArgs false
set_option maxRecDepth 100000
namespace Go.Proofs.YtgfgggeeoeppjaaGreatDoor
open Go.RowKit
def RangePost (w : World) (b N : Nat) (lo hi : Int) (e : Ending) (w' : World) : Prop :=
 ∃ k : Int, lo ≤ k ∧ k ≤ hi ∧ e = .returned (.int .i64 k) ∧ Strm w' b (N + 1) ∧ Mod (· = b) w w'
set_option maxHeartbeats 400000 in
theorem range_calls (w : World) (b N : Nat) (lo hi : Int) (hS : Strm w b N) (hN : N ≤ 1000000000) (h1 : lo ≤ hi) (h2 : -4611686018427387904 ≤ lo) (h3 : hi ≤ 4611686018427387900) :
  Calls Tryz.prog 7 #[.pointer (some ⟨b, 0, none⟩), .int .i64 lo, .int .i64 hi] w (RangePost w b N lo hi) := by
 go_enter Tryz.func7, Tryz.ntmps7
 go_wp2_with fail
 refine (next_calls _ b N _ hS hN (by omega) (by omega)).mono ?_;rintro e w' ⟨k, hk0, hk1, rfl, hS', hM⟩
 go_wp2_with fail
 go_ret;exact ⟨_, by omega, by omega, rfl, hS', hM⟩
def FlipPost (w : World) (b N : Nat) (e : Ending) (w' : World) : Prop :=
 ∃ k : Bool, e = .returned (.bool k) ∧ Strm w' b (N + 1) ∧ Mod (· = b) w w'
set_option maxHeartbeats 400000 in
theorem flip_calls (w : World) (b N : Nat) (n : Int) (hS : Strm w b N) (hN : N ≤ 1000000000) (hn : 1 ≤ n) (hn2 : n ≤ 9223372036854775807) :
  Calls Tryz.prog 9 #[.pointer (some ⟨b, 0, none⟩), .int .i64 n] w (FlipPost w b N) := by
 go_enter Tryz.func9, Tryz.ntmps9
 go_wp2_with fail
 refine (next_calls _ b N _ hS hN hn hn2).mono ?_;rintro e w' ⟨k, hk0, hk1, rfl, hS', hM⟩
 go_wp2_with fail
 go_ret;exact ⟨_, rfl, hS', hM⟩
def PickPost (w : World) (b N : Nat) (xs : List Int) (e : Ending) (w' : World) : Prop :=
 ∃ k : Int, k ∈ xs ∧ e = .returned (.int .i64 k) ∧ Strm w' b (N + 1) ∧ Mod (· = b) w w'
def ints (xs : List Int) : List Value := xs.map (Value.int .i64)
set_option maxHeartbeats 400000 in
theorem pick_calls (w : World) (b N g c : Nat) (xs : List Int) (hS : Strm w b N) (hN : N ≤ 1000000000) (hx : Blk w g 3 (ints xs).toArray) (hgb : g ≠ b) (h0 : 0 < xs.length) (hl : xs.length ≤ 1000) :
  Calls Tryz.prog 14 #[.pointer (some ⟨b, 0, none⟩), .slice (some ⟨g, 0, none⟩) xs.length c] w (PickPost w b N xs) := by
 go_enter Tryz.func14, Tryz.ntmps14
 go_wp2_with fail
 refine (next_calls _ b N _ hS hN (by omega) (by omega)).mono ?_;rintro e w' ⟨k, hk0, hk1, rfl, hS', hM⟩;obtain ⟨i, rfl⟩ := Int.eq_ofNat_of_zero_le hk0
 have hi : i < xs.length := by omega
 have hc := (hx.mod hM hgb).cell i
 have hc2 : (ints xs).toArray[i]? = some (.int .i64 xs[i]) := by simp [ints, hi]
 rw [hc2] at hc;have hm : xs[i] ∈ xs := List.getElem_mem hi;generalize xs[i] = z at hc hm;clear hc2
 go_wp2_with fail
 go_ret;exact ⟨_, hm, rfl, hS', hM⟩
def OddPost (w : World) (b N : Nat) (e : Ending) (w' : World) : Prop :=
 ∃ k : Int, -1099511627776 ≤ k ∧ k ≤ 1099511627776 ∧ e = .returned (.int .i64 k) ∧ Strm w' b (N + 2) ∧ Mod (· = b) w w'
set_option maxHeartbeats 400000 in
theorem odd_calls (w : World) (b N : Nat) (lo hi : Int) (hS : Strm w b N) (hN : N ≤ 900000000) (h1 : lo ≤ hi) (h2 : -1099511627775 ≤ lo) (h3 : hi ≤ 1099511627775) :
  Calls Tryz.prog 46 #[.pointer (some ⟨b, 0, none⟩), .int .i64 lo, .int .i64 hi] w (OddPost w b N) := by
 go_enter Tryz.func46, Tryz.ntmps46
 go_wp2_with fail
 refine (flip_calls _ b N _ hS (by omega) (by omega) (by omega)).mono ?_;rintro e w1 ⟨k, rfl, hS1, hM1⟩;have hlt := hS1.lt
 cases k
 ·go_wp2_with fail
  refine (range_calls _ b _ _ _ hS1 (by omega) h1 (by omega) (by omega)).mono ?_;rintro e w2 ⟨k, hk0, hk1, rfl, hS2, hM2⟩
  go_wp2_with fail
  go_ret;exact ⟨_, by omega, by omega, rfl, hS2, hM1.trans hM2⟩
 ·go_wp2_with fail
  refine (pick_calls _ b _ _ _ [lo - 1, hi + 1, lo, hi, -1099511627776, 1099511627776] (hS1.pure ((Mod.refl _ _).alloc _)) (by omega) (Blk.new _ _ _) (by omega) (by simp) (by simp)).mono ?_;rintro e w2 ⟨k, hk, rfl, hS2, hM2⟩
  go_wp2_with fail
  go_ret;refine ⟨_, ?_, ?_, rfl, hS2, hM1.trans (((Mod.refl _ _).alloc _).trans hM2)⟩
  all_goals (simp at hk; omega)
end Go.Proofs.YtgfgggeeoeppjaaGreatDoor
/- Helpers that serve at any world: chains of facts over new blocks, draws, stores and calls. -/
namespace Go.Proofs.YtgfgggeeoeppjaaGreatDoor
open Go.RowKit
section
variable {w w' : World} {g b i N : Nat} {t : TypeId} {cs : Array Value} {v : Value} {p : Addr} {S : Nat → Prop} {P : Prop}
theorem Blk.snd (w : World) (o : Obj) (t : TypeId) (cs : Array Value) : Blk ((w.alloc o).alloc (.cells cs t)) (w.heap.size + 1) t cs := by
 have := Blk.new (w.alloc o) t cs;rw [World.size_alloc] at this;exact this
theorem Blk.modb (h : Blk w g t cs) (hb : Mod (· = b) w w') (hg : g ≠ b) : Blk w' g t cs := h.mod hb hg
theorem Blk.modp (h : Blk w g t cs) (hb : Pure w w') : Blk w' g t cs := h.mod hb id
theorem Blk.set3 {a b c x y z : Value} (h : Blk w g t #[a, b, c]) : Blk (((w.setCell ⟨g, 0, none⟩ x).setCell ⟨g, 1, none⟩ y).setCell ⟨g, 2, none⟩ z) g t #[x, y, z] := by
 have := ((h.set 0 x).set 1 y).set 2 z
 simpa using this
theorem cell_alloc (h : w.cell? p = some v) (o : Obj) : (w.alloc o).cell? p = some v := (World.cell?_alloc_lt w _ _ (lt_of_cell h)).trans h
theorem cell_drew (h : w.cell? p = some v) : w.drew.cell? p = some v := h
theorem cell_far {q : Addr} {u : Value} (h : w.cell? p = some v) (hq : q.block ≠ p.block) : (w.setCell q u).cell? p = some v := (World.cell?_setCell_far w q p u hq).trans h
theorem keepp (h : w.cell? p = some v) (hm : Pure w w') : w'.cell? p = some v := hm.keep h id
theorem Mod.transp {a c d : World} (h : Mod S a c) (k : Pure c d) : Mod S a d := h.trans (Mod.of_pure k)
theorem Strm.modb (h : Strm w b N) (hm : Pure w w') : Strm w' b N := h.pure hm
end
section
variable {w w' : World} {g b i N : Nat} {t : TypeId} {cs : Array Value} {v : Value} {p : Addr} {S : Nat → Prop} {P : Prop}
end
def intsOf (cs : Array Value) : List Int := cs.toList.map intOf
def PickV (w : World) (b N : Nat) (cs : Array Value) (e : Ending) (w' : World) : Prop :=
 ∃ k : Int, k ∈ intsOf cs ∧ e = .returned (.int .i64 k) ∧ Strm w' b (N + 1) ∧ Mod (· = b) w w'
theorem pickv_calls (w : World) (b N g c n : Nat) (cs : Array Value) (hS : Strm w b N) (hx : Blk w g 3 cs) (hN : N ≤ 1000000000) (hgb : g ≠ b) (hn : n = (intsOf cs).length) (h0 : 0 < n) (hl : n ≤ 1000) (hi : cs = (ints (intsOf cs)).toArray) :
  Calls Tryz.prog 14 #[.pointer (some ⟨b, 0, none⟩), .slice (some ⟨g, 0, none⟩) n c] w (PickV w b N cs) := by
 subst hn;rw [hi] at hx;exact pick_calls w b N g c (intsOf cs) hS hN hx hgb h0 hl
end Go.Proofs.YtgfgggeeoeppjaaGreatDoor
/- The generators of strings: some10, Seed. -/
namespace Go.Proofs.YtgfgggeeoeppjaaGreatDoor
open Go.RowKit
abbrev Str := List UInt8
def strsV (ss : List Str) : List Value := ss.map fun l => Value.string ⟨l.toArray⟩
theorem strsV_len (ss : List Str) : (strsV ss).length = ss.length := by simp [strsV]
theorem strsV_get (ss : List Str) (i : Nat) (h : i < ss.length) : (strsV ss)[i]? = some (.string ⟨ss[i].toArray⟩) := by simp [strsV, h]
theorem strsV_one (ss : List Str) : ∀ u ∈ strsV ss, u.oneCell' = true := by
 intro u hu;simp [strsV] at hu;obtain ⟨z, _, rfl⟩ := hu
 rfl
def SomePost (w : World) (b N : Nat) (ss : List Str) (e : Ending) (w' : World) : Prop :=
 ∃ s, s ∈ ss ∧ e = .returned (.string ⟨s.toArray⟩) ∧ Strm w' b (N + 1) ∧ Mod (· = b) w w'
set_option maxHeartbeats 400000 in
theorem some_calls (w : World) (b N g c : Nat) (ss : List Str) (hS : Strm w b N) (hN : N ≤ 1000000000) (hx : Blk w g 9 (strsV ss).toArray) (hgb : g ≠ b) (h0 : 0 < ss.length) (hl : ss.length ≤ 1000) :
  Calls Tryz.prog 43 #[.pointer (some ⟨b, 0, none⟩), .slice (some ⟨g, 0, none⟩) ss.length c] w (SomePost w b N ss) := by
 go_enter Tryz.func43, Tryz.ntmps43
 go_wp2_with fail
 refine (next_calls _ b N _ hS hN (by omega) (by omega)).mono ?_;rintro e w' ⟨k, hk0, hk1, rfl, hS', hM⟩;obtain ⟨i, rfl⟩ := Int.eq_ofNat_of_zero_le hk0
 have hi : i < ss.length := by omega
 have hc := (hx.mod hM hgb).cell i
 have hc2 : (strsV ss).toArray[i]? = some (.string ⟨ss[i].toArray⟩) := by simp [strsV, hi]
 rw [hc2] at hc;have hm : ss[i] ∈ ss := List.getElem_mem hi;generalize ss[i] = z at hc hm;clear hc2
 go_wp2_with fail
 go_ret;exact ⟨_, hm, rfl, hS', hM⟩
end Go.Proofs.YtgfgggeeoeppjaaGreatDoor
/- Items: their plain form; ways from parent to parent; the errors of items together. -/
namespace Go.Proofs.YtgfgggeeoeppjaaGreatDoor
open Go.RowKit
structure Itm where
 id : Str
 cust : Str
 kind : Int
 name : Str
 tm : Int
 par : Str
 text : Str
def plc : List Itm → Str → Option Nat
 | [], _ => none
 | x :: l, s => if x.id = s then some 0 else (plc l s).map (· + 1)
theorem plc_lt : ∀ (l : List Itm) (s : Str) (k : Nat), plc l s = some k → ∃ h : k < l.length, l[k].id = s
 | [], s, k, h => by simp [plc] at h
 | x :: l, s, k, h => by
  unfold plc at h
  split at h
  ·rename_i hx
   injection h with h
   subst h;exact ⟨by simp, by simpa using hx⟩
  ·cases hp : plc l s with
   | none => rw [hp] at h; simp at h
   | some j =>
    rw [hp] at h;simp at h;subst h;obtain ⟨h1, h2⟩ := plc_lt l s j hp;exact ⟨by simpa using h1, by simpa using h2⟩
def upI (l : List Itm) (i : Nat) : Option Nat :=
 match l[i]? with
 | none => none
 | some x => if x.par = [] then none else plc l x.par
theorem upI_lt {l : List Itm} {i k : Nat} (h : upI l i = some k) : k < l.length := by
 unfold upI at h
 split at h
 ·cases h
 ·split at h
  ·cases h
  ·exact (plc_lt _ _ _ h).1
def chn (l : List Itm) : Nat → Nat → List Nat
 | 0, _ => []
 | n + 1, i => match upI l i with
  | none => []
  | some k => k :: chn l n k
theorem chn_len (l : List Itm) : ∀ n i, (chn l n i).length ≤ n
 | 0, i => by simp [chn]
 | n + 1, i => by
  unfold chn
  split
  ·simp
  ·have := chn_len l n ‹_›;simp; omega
theorem nodup_le : ∀ (n : Nat) (l : List Nat), l.Nodup → (∀ x ∈ l, x < n) → l.length ≤ n
 | 0, l, _, h => by
  cases l with
  | nil => simp
  | cons a t => exact absurd (h a (by simp)) (by omega)
 | n + 1, l, hd, h => by
  have h1 : (l.filter (· ≠ n)).length ≤ n := nodup_le n _ (hd.filter _) (fun x hx => by
   have := h x (List.mem_filter.1 hx).1
   have h2 : x ≠ n := by simpa using (List.mem_filter.1 hx).2
   omega)
  have h2 : ∀ l : List Nat, l.Nodup → l.length ≤ (l.filter (· ≠ n)).length + 1 := by
   intro l
   induction l with
   | nil => simp
   | cons a t ih =>
    intro hd;have hd' := List.nodup_cons.1 hd
    by_cases e : a = n
    ·subst e
     have : t.filter (· ≠ a) = t := List.filter_eq_self.2 (fun x hx => by
      have : x ≠ a := fun e => hd'.1 (e ▸ hx)
      simpa using this)
     have e2 : (a :: t).filter (· ≠ a) = t.filter (· ≠ a) := by simp
     rw [e2, this];simp
    ·have := ih hd'.2
     have e2 : (a :: t).filter (· ≠ n) = a :: t.filter (· ≠ n) := by simp [e]
     rw [e2, List.length_cons, List.length_cons]
     omega
  have := h2 l hd
  omega
def stp (l : List Itm) : Nat → Nat → Option Nat
 | 0, i => some i
 | n + 1, i => (upI l i).bind (stp l n)
theorem stp_add (l : List Itm) : ∀ a b i, stp l (a + b) i = (stp l a i).bind (stp l b)
 | 0, b, i => by simp [stp]
 | a + 1, b, i => by
  rw [show a + 1 + b = (a + b) + 1 by omega];simp only [stp]
  cases upI l i with
  | none => rfl
  | some k => simp [stp_add l a b k]
theorem stp_some (l : List Itm) {a b i k : Nat} (h : stp l (a + b) i = some k) : ∃ j, stp l a i = some j ∧ stp l b j = some k := by
 rw [stp_add] at h
 cases hj : stp l a i with
 | none => rw [hj] at h; cases h
 | some j => rw [hj] at h; exact ⟨j, rfl, h⟩
theorem stp_lt (l : List Itm) : ∀ {n i k : Nat}, stp l (n + 1) i = some k → k < l.length
 | 0, i, k, h => by
  simp only [stp] at h
  cases hu : upI l i with
  | none => rw [hu] at h; cases h
  | some j => rw [hu] at h; simp [stp] at h; subst h; exact upI_lt hu
 | n + 1, i, k, h => by
  rw [stp] at h
  cases hu : upI l i with
  | none => rw [hu] at h; cases h
  | some j => rw [hu] at h; exact stp_lt l (n := n) h
theorem chn_get (l : List Itm) : ∀ n i j, (chn l n i)[j]? = if j < n then stp l (j + 1) i else none
 | 0, i, j => by simp [chn]
 | n + 1, i, j => by
  cases hu : upI l i with
  | none =>
   have e : stp l (j + 1) i = none := by simp [stp, hu]
   simp [chn, hu, e]
  | some k =>
   have e : chn l (n + 1) i = k :: chn l n k := by simp [chn, hu]
   rw [e]
   cases j with
   | zero => simp [stp, hu]
   | succ j =>
    rw [List.getElem?_cons_succ, chn_get l n k j]
    have e2 : stp l (j + 1 + 1) i = stp l (j + 1) k := by
     rw [stp, hu]
     rfl
    rw [e2]
    by_cases h : j < n
    ·rw [if_pos h, if_pos (by omega)]
    ·rw [if_neg h, if_neg (by omega)]
theorem mem_chn (l : List Itm) (n i x : Nat) : x ∈ chn l n i ↔ ∃ j, j < n ∧ stp l (j + 1) i = some x := by
 rw [List.mem_iff_getElem?]
 constructor
 ·rintro ⟨j, h⟩;rw [chn_get] at h
  split at h
  ·exact ⟨j, ‹_›, h⟩
  ·cases h
 ·rintro ⟨j, h1, h2⟩;exact ⟨j, by rw [chn_get, if_pos h1]; exact h2⟩
theorem inj_le (n m : Nat) (f : Nat → Nat) (hf : ∀ i, i < m → f i < n) (hi : ∀ i j, i < j → j < m → f i ≠ f j) : m ≤ n := by
 have h := nodup_le n ((List.range m).map f) (by
  rw [List.nodup_iff_pairwise_ne, List.pairwise_iff_getElem];intro i j h1 h2 hij;simp at h1 h2;simp
  exact hi i j hij h2) (by
  intro x hx;simp at hx;obtain ⟨a, ha, rfl⟩ := hx
  exact hf a ha)
 simpa using h
def onLoop (l : List Itm) (i : Nat) : Prop := ∃ n, stp l (n + 1) i = some i
theorem loop_short (l : List Itm) (i : Nat) (h : onLoop l i) : ∃ n, n < l.length ∧ stp l (n + 1) i = some i ∧ ∀ j, j < n → stp l (j + 1) i ≠ some i := by
 obtain ⟨n, hn, hmin⟩ : ∃ n, stp l (n + 1) i = some i ∧ ∀ j, j < n → stp l (j + 1) i ≠ some i := by
  obtain ⟨n, hn⟩ := h
  induction n using Nat.strongRecOn with
  | _ n ih =>
   by_cases h : ∃ j, j < n ∧ stp l (j + 1) i = some i
   ·obtain ⟨j, h1, h2⟩ := h;exact ih j h1 h2
   ·exact ⟨n, hn, fun j h1 h2 => h ⟨j, h1, h2⟩⟩
 refine ⟨n, ?_, hn, hmin⟩
 have hall : ∀ j, j ≤ n → ∃ x, stp l (j + 1) i = some x ∧ stp l (n - j) x = some i := by
  intro j hj;have := stp_some l (a := j + 1) (b := n - j) (i := i) (k := i) (by rw [show j + 1 + (n - j) = n + 1 by omega]; exact hn);exact this
 have key := inj_le l.length (n + 1) (fun j => (stp l (j + 1) i).getD 0) (by
  intro j hj;obtain ⟨x, hx, _⟩ := hall j (by omega);simp [hx]
  exact stp_lt l hx) (by
  intro a b hab hb he;obtain ⟨x, hx, hx2⟩ := hall a (by omega);obtain ⟨y, hy, hy2⟩ := hall b (by omega);simp [hx, hy] at he;subst he
  -- from place a, the rest of the way behind b
  have h1 : stp l (a + 1 + (n - b)) i = some i := by rw [stp_add, hx]; exact hy2
  exact hmin (a + (n - b)) (by omega) (by rw [show a + (n - b) + 1 = a + 1 + (n - b) by omega]; exact h1))
 omega
theorem noloop_end (l : List Itm) (hno : ∀ i, i < l.length → ¬ onLoop l i) (i : Nat) (hi : i < l.length) : stp l l.length i = none := by
 cases hs : stp l l.length i with
 | none => rfl
 | some z =>
  exfalso
  have hall : ∀ j, j ≤ l.length → ∃ x, stp l j i = some x := by
   intro j hj;obtain ⟨x, hx, _⟩ := stp_some l (a := j) (b := l.length - j) (i := i) (k := z) (by rw [show j + (l.length - j) = l.length by omega]; exact hs);exact ⟨x, hx⟩
  have hlt : ∀ j, j ≤ l.length → ∀ x, stp l j i = some x → x < l.length := by
   intro j hj x hx
   cases j with
   | zero => simp [stp] at hx; omega
   | succ j => exact stp_lt l hx
  have key := inj_le l.length (l.length + 1) (fun j => (stp l j i).getD 0) (by
   intro j hj;obtain ⟨x, hx⟩ := hall j (by omega);simp [hx]
   exact hlt j (by omega) x hx) (by
   intro a b hab hb he;obtain ⟨x, hx⟩ := hall a (by omega);obtain ⟨y, hy⟩ := hall b (by omega);simp [hx, hy] at he;subst he;obtain ⟨q, hq, hq2⟩ := stp_some l (a := a) (b := b - a) (i := i) (k := x) (by rw [show a + (b - a) = b by omega]; exact hy);rw [hx] at hq
   injection hq with hq
   subst hq
   exact hno x (hlt a (by omega) x hx) ⟨b - a - 1, by rw [show b - a - 1 + 1 = b - a by omega]; exact hq2⟩)
  omega
def lpB (l : List Itm) (i : Nat) : Bool := (chn l l.length i).contains i
theorem lpB_iff (l : List Itm) (i : Nat) : lpB l i = true ↔ onLoop l i := by
 unfold lpB;rw [List.contains_iff_mem, mem_chn]
 constructor
 ·rintro ⟨j, _, h⟩;exact ⟨j, h⟩
 ·intro h;obtain ⟨n, h1, h2, _⟩ := loop_short l i h;exact ⟨n, h1, h2⟩
theorem lpB_more (l : List Itm) (i : Nat) : (chn l (l.length + 1) i).contains i = lpB l i := by
 have h : (chn l (l.length + 1) i).contains i = true ↔ onLoop l i := by
  rw [List.contains_iff_mem, mem_chn]
  constructor
  ·rintro ⟨j, _, h⟩;exact ⟨j, h⟩
  ·intro h;obtain ⟨n, h1, h2, _⟩ := loop_short l i h;exact ⟨n, by omega, h2⟩
 have h2 := lpB_iff l i;exact Bool.eq_iff_iff.2 (h.trans h2.symm)
theorem chn_eq_of_none (l : List Itm) : ∀ n i, stp l n i = none → ∀ m, n ≤ m + 1 → chn l m i = chn l (m + 1) i
 | 0, i, h, m, _ => by simp [stp] at h
 | n + 1, i, h, m, hm => by
  rw [stp] at h
  cases hu : upI l i with
  | none =>
   cases m with
   | zero => simp [chn, hu]
   | succ m => simp [chn, hu]
  | some k =>
   rw [hu] at h
   cases n with
   | zero => simp [stp] at h
   | succ n =>
    cases m with
    | zero => omega
    | succ m =>
     have ih := chn_eq_of_none l (n + 1) k h m (by omega)
     have e1 : chn l (m + 1) i = k :: chn l m k := by simp [chn, hu]
     have e2 : chn l (m + 1 + 1) i = k :: chn l (m + 1) k := by
      rw [chn, hu]
     rw [e1, e2, ih]
theorem chn_noloop (l : List Itm) (hno : ∀ i, i < l.length → lpB l i = false) (i : Nat) (hi : i < l.length) : chn l (l.length + 1) i = chn l l.length i := by
 refine (chn_eq_of_none l l.length i (noloop_end l (fun j hj h => ?_) i hi) l.length (by omega)).symm;have := (lpB_iff l j).2 h;rw [hno j hj] at this
 cases this
def ordE (E : Itm → Int) : Str → List Itm → Int
 | _, [] => 0
 | p, x :: r => if E x ≠ 0 then E x else if x.id ≤ p then 7 else ordE E x.id r
def missB (l : List Itm) (x : Itm) : Bool := decide (x.par ≠ []) && (plc l x.par).isNone
def ruleB (l : List Itm) (x : Itm) : Bool := decide (x.par ≠ []) && match plc l x.par with
 | none => false
 | some k => match l[k]? with
  | none => false
  | some p => decide (p.kind ≠ 1) && decide (p.kind ≠ 3)
def depE (l : List Itm) (i : Nat) : Int := match l[i]? with
 | none => 0
 | some x => if ruleB l x then 16 else if 4 < (chn l l.length i).length then 2 else 0
def firstE (f : Nat → Int) : Nat → Nat → Int
 | _, 0 => 0
 | i, n + 1 => if f i ≠ 0 then f i else firstE f (i + 1) n
def treeE (l : List Itm) : Int := if (List.range l.length).any (lpB l) then 14 else firstE (depE l) 0 l.length
def itsE (E : Itm → Int) (l : List Itm) : Int := if 2000 < l.length then 2 else if ordE E [] l ≠ 0 then ordE E [] l else if l.any (missB l) then 8 else treeE l
theorem ordE_gt {E : Itm → Int} : ∀ {l : List Itm} {p : Str}, ordE E p l = 0 → ∀ x ∈ l, E x = 0 ∧ ¬ x.id ≤ p
 | [], p, _, x, hx => absurd hx (by simp)
 | y :: r, p, h, x, hx => by
  unfold ordE at h
  split at h
  ·rename_i h1; exact absurd h h1
  ·split at h
   ·omega
   ·rename_i h1 h2
    rcases List.mem_cons.1 hx with rfl | hx
    ·exact ⟨by simpa using h1, h2⟩
    ·obtain ⟨h3, h4⟩ := ordE_gt h x hx;refine ⟨h3, fun h5 => h4 ?_⟩
     have h6 : p ≤ y.id := by
      rcases List.le_total p y.id with h | h
      ·exact h
      ·exact absurd h h2
     exact List.le_trans h5 h6
theorem ordE_ne {E : Itm → Int} : ∀ {l : List Itm} {p : Str}, ordE E p l = 0 → l.Pairwise (fun x y => x.id ≠ y.id)
 | [], p, _ => List.Pairwise.nil
 | y :: r, p, h => by
  unfold ordE at h
  split at h
  ·rename_i h1; exact absurd h h1
  ·split at h
   ·omega
   ·refine List.pairwise_cons.2 ⟨fun x hx e => ?_, ordE_ne h⟩;exact (ordE_gt h x hx).2 (by rw [e]; exact List.le_refl _)
def itC (x : Itm) : List Value := [.string ⟨x.id.toArray⟩, .string ⟨x.cust.toArray⟩, .int .i64 x.kind, .string ⟨x.name.toArray⟩, .int .i64 x.tm, .string ⟨x.par.toArray⟩, .string ⟨x.text.toArray⟩]
def itV (xs : List Itm) : List Value := xs.flatMap itC
theorem itV_len : ∀ xs : List Itm, (itV xs).length = xs.length * 7
 | [] => rfl
 | x :: xs => by
  have := itV_len xs;simp only [itV, itC, List.flatMap_cons, List.length_append, List.length_cons, List.length_nil] at *
  omega
theorem itV_get : ∀ (xs : List Itm) (i : Nat) (h : i < xs.length), (itV xs)[i * 7]? = some (.string ⟨xs[i].id.toArray⟩) ∧ (itV xs)[i * 7 + 1]? = some (.string ⟨xs[i].cust.toArray⟩) ∧ (itV xs)[i * 7 + 2]? = some (.int .i64 xs[i].kind) ∧
  (itV xs)[i * 7 + 3]? = some (.string ⟨xs[i].name.toArray⟩) ∧ (itV xs)[i * 7 + 4]? = some (.int .i64 xs[i].tm) ∧ (itV xs)[i * 7 + 5]? = some (.string ⟨xs[i].par.toArray⟩) ∧ (itV xs)[i * 7 + 6]? = some (.string ⟨xs[i].text.toArray⟩)
 | [], i, h => absurd h (by simp)
 | x :: xs, 0, h => by simp [itV, itC]
 | x :: xs, i + 1, h => by
  have := itV_get xs i (by simpa using h)
  have e : (i + 1) * 7 = i * 7 + 1 + 1 + 1 + 1 + 1 + 1 + 1 := by omega
  simp only [itV, itC, List.flatMap_cons, List.cons_append, List.nil_append, e, List.getElem?_cons_succ, List.getElem_cons_succ];exact this
theorem itV_snoc (xs : List Itm) (p : Itm) : itV (xs ++ [p]) = itV xs ++ itC p := by simp [itV]
def ItB (x : Itm) : Prop := x.id.length ≤ 100 ∧ x.cust.length ≤ 30000 ∧ x.name.length ≤ 30000 ∧ x.par.length ≤ 30000 ∧ x.text.length ≤ 30000
theorem plc_self : ∀ {l : List Itm}, l.Pairwise (fun x y => x.id ≠ y.id) → ∀ k (h : k < l.length), plc l l[k].id = some k
 | [], _, k, h => absurd h (by simp)
 | x :: l, hp, 0, h => by simp [plc]
 | x :: l, hp, k + 1, h => by
  obtain ⟨h1, h2⟩ := List.pairwise_cons.1 hp
  have hk : k < l.length := by simpa using h
  have hne : x.id ≠ l[k].id := h1 _ (List.getElem_mem hk);have := plc_self h2 k hk;simp only [List.getElem_cons_succ, plc, if_neg hne, this]
  rfl
theorem id_inj {l : List Itm} (hp : l.Pairwise (fun x y => x.id ≠ y.id)) {i k : Nat} (hi : i < l.length) (hk : k < l.length) (h : l[i].id = l[k].id) : i = k := by
 have h1 := plc_self hp i hi;have h2 := plc_self hp k hk;rw [h, h2] at h1
 injection h1 with h1
 exact h1.symm
theorem ordE_step {E : Itm → Int} {xs : List Itm} {k : Nat} (h : k < xs.length) (p : Str) : ordE E p (xs.drop k) = if E xs[k] ≠ 0 then E xs[k] else if xs[k].id ≤ p then 7 else ordE E xs[k].id (xs.drop (k + 1)) := by
 rw [List.drop_eq_getElem_cons h]
 rfl
theorem firstE_step (f : Nat → Int) {i n : Nat} (h : i < n) : firstE f i (n - i) = if f i ≠ 0 then f i else firstE f (i + 1) (n - (i + 1)) := by
 obtain ⟨d, hd⟩ : ∃ d, n - i = d + 1 := ⟨n - i - 1, by omega⟩;rw [hd, firstE, show n - (i + 1) = d by omega]
end Go.Proofs.YtgfgggeeoeppjaaGreatDoor
/- Items found by their ids; the numbers above an item, step by step. -/
namespace Go.Proofs.YtgfgggeeoeppjaaGreatDoor
open Go.RowKit
def fnd (l : List Itm) (s : Str) : Option Itm := (plc l s).bind (fun k => l[k]?)
theorem fnd_nil (s : Str) : fnd [] s = none := rfl
theorem fnd_cons (x : Itm) (l : List Itm) (s : Str) : fnd (x :: l) s = if x.id = s then some x else fnd l s := by
 unfold fnd;rw [plc]
 split
 ·rfl
 ·cases plc l s <;> simp
theorem fnd_plc {l : List Itm} {s : Str} {k : Nat} (h : plc l s = some k) (hk : k < l.length) : fnd l s = some l[k] := by
 unfold fnd;rw [h];simp [hk]
theorem fnd_none {l : List Itm} {s : Str} (h : plc l s = none) : fnd l s = none := by
 unfold fnd;rw [h]
 rfl
theorem fnd_isSome (l : List Itm) (s : Str) : (fnd l s).isSome = (plc l s).isSome := by
 cases h : plc l s with
 | none => rw [fnd_none h]; rfl
 | some k =>
  obtain ⟨hk, _⟩ := plc_lt l s k h;rw [fnd_plc h hk]
  rfl
theorem fnd_not {s : Str} : ∀ {l : List Itm}, (∀ x ∈ l, x.id ≠ s) → fnd l s = none
 | [], _ => rfl
 | x :: l, h => by
  rw [fnd_cons, if_neg (h x (by simp)), fnd_not (fun y hy => h y (by simp [hy]))]
theorem fnd_take {s : Str} : ∀ {l : List Itm} (k : Nat) (h : k < l.length), l.Pairwise (fun x y => x.id ≠ y.id) → fnd (l.take (k + 1)) s = if s = l[k].id then some l[k] else fnd (l.take k) s
 | [], k, h, _ => absurd h (by simp)
 | x :: l, 0, h, _ => by
  simp only [List.take_succ_cons, List.take_zero, List.getElem_cons_zero];rw [fnd_cons, fnd_nil]
  by_cases e : x.id = s
  ·rw [if_pos e, if_pos e.symm]
  ·rw [if_neg e, if_neg (fun e2 => e e2.symm)]
 | x :: l, k + 1, h, hp => by
  obtain ⟨h1, h2⟩ := List.pairwise_cons.1 hp
  have hk : k < l.length := by simpa using h
  have hne := h1 _ (List.getElem_mem hk);rw [List.take_succ_cons, List.take_succ_cons, fnd_cons, fnd_cons, fnd_take k hk h2];simp only [List.getElem_cons_succ]
  by_cases e : x.id = s
  ·rw [if_pos e, if_pos e, if_neg (fun e2 => hne (e.trans e2))]
  ·rw [if_neg e, if_neg e]
def itA (x : Itm) : Value := .agg #[.string ⟨x.id.toArray⟩, .string ⟨x.cust.toArray⟩, .int .i64 x.kind, .string ⟨x.name.toArray⟩, .int .i64 x.tm, .string ⟨x.par.toArray⟩, .string ⟨x.text.toArray⟩]
def byF (l : List Itm) (s : Str) : Option Value := (fnd l s).map itA
theorem byF_take {l : List Itm} (k : Nat) (h : k < l.length) (hp : l.Pairwise (fun x y => x.id ≠ y.id)) : byF (l.take (k + 1)) = fun x => if x = l[k].id then some (itA l[k]) else byF (l.take k) x := by
 funext s
 unfold byF;rw [fnd_take k h hp]
 split <;> rfl
theorem byF_new {l : List Itm} (k : Nat) (h : k < l.length) (hp : l.Pairwise (fun x y => x.id ≠ y.id)) : byF (l.take k) l[k].id = none := by
 unfold byF;rw [fnd_not (fun x hx => ?_)]
 ·rfl
 ·rw [List.mem_take_iff_getElem] at hx;obtain ⟨i, hi, rfl⟩ := hx;exact (List.pairwise_iff_getElem.1 hp) i k (by omega) h (by omega)
structure Upto (l : List Itm) (i j q : Nat) : Prop where
 at_ : stp l j i = some q
 lt : q < l.length
 not : ∀ a, a < j → stp l (a + 1) i ≠ some i
theorem Upto.start {l : List Itm} {i : Nat} (h : i < l.length) : Upto l i 0 i := ⟨rfl, h, fun a ha => by omega⟩
theorem stp_succ {l : List Itm} {i j q : Nat} (h : stp l j i = some q) : stp l (j + 1) i = upI l q := by
 rw [stp_add, h]
 show (upI l q).bind (stp l 0) = _
 cases upI l q <;> rfl
theorem Upto.step {l : List Itm} {i j q k : Nat} (h : Upto l i j q) (hu : upI l q = some k) (hk : k ≠ i) : Upto l i (j + 1) k := by
 have h1 := stp_succ h.at_;refine ⟨h1.trans hu, upI_lt hu, fun a ha => ?_⟩
 rcases Nat.eq_or_lt_of_le (Nat.le_of_lt_succ ha) with rfl | hlt
 ·rw [h1, hu];intro e
  injection e with e
  exact hk e
 ·exact h.not a hlt
theorem Upto.top {l : List Itm} {i j q : Nat} (h : Upto l i j q) (hu : upI l q = none) (hj : j ≤ l.length) : lpB l i = false ∧ (chn l l.length i).length = j := by
 have h1 := stp_succ h.at_;rw [hu] at h1
 have hend : ∀ a, j ≤ a → stp l (a + 1) i = none := by
  intro a ha;obtain ⟨d, rfl⟩ : ∃ d, a = j + d := ⟨a - j, by omega⟩;rw [show j + d + 1 = (j + 1) + d by omega, stp_add, h1]
  rfl
 constructor
 ·cases hb : lpB l i with
  | false => rfl
  | true =>
   exfalso
   unfold lpB at hb;rw [List.contains_iff_mem, mem_chn] at hb;obtain ⟨a, ha, hs⟩ := hb
   rcases Nat.lt_or_ge a j with hlt | hge
   ·exact h.not a hlt hs
   ·rw [hend a hge] at hs
    cases hs
 ·have g1 := chn_get l l.length i j
  have g2 : (chn l l.length i)[j]? = none := by
   rw [g1]
   split
   ·exact h1
   ·rfl
  have g3 : (chn l l.length i).length ≤ j := by simpa using g2
  cases j with
  | zero => omega
  | succ a =>
   have g4 := chn_get l l.length i a;rw [if_pos (by omega), h.at_] at g4;have := (List.getElem?_eq_some_iff.1 g4).1
   omega
theorem Upto.back {l : List Itm} {i j q : Nat} (h : Upto l i j q) (hu : upI l q = some i) (hj : j < l.length) : lpB l i = true := by
 unfold lpB;rw [List.contains_iff_mem, mem_chn];exact ⟨j, hj, (stp_succ h.at_).trans hu⟩
theorem Upto.full {l : List Itm} {i q : Nat} (h : Upto l i l.length q) : lpB l i = false ∧ (chn l l.length i).length = l.length := by
 constructor
 ·cases hb : lpB l i with
  | false => rfl
  | true =>
   exfalso
   unfold lpB at hb;rw [List.contains_iff_mem, mem_chn] at hb;obtain ⟨a, ha, hs⟩ := hb;exact h.not a ha hs
 ·have hle := chn_len l l.length i
  cases hn : l.length with
  | zero => rw [hn] at hle; omega
  | succ n =>
   have g4 := chn_get l l.length i n;rw [if_pos (by omega), show n + 1 = l.length by omega, h.at_] at g4;have := (List.getElem?_eq_some_iff.1 g4).1;rw [hn] at hle this
   omega
theorem up_fnd {l : List Itm} {q : Nat} (hq : q < l.length) : (l[q].par = [] ∧ upI l q = none) ∨ (l[q].par ≠ [] ∧ upI l q = none ∧ fnd l l[q].par = none) ∨ ∃ k, ∃ hk : k < l.length, l[q].par ≠ [] ∧ upI l q = some k ∧ fnd l l[q].par = some l[k] := by
 unfold upI;rw [List.getElem?_eq_getElem hq];simp only
 by_cases hp : l[q].par = []
 ·exact .inl ⟨hp, by rw [if_pos hp]⟩
 ·rw [if_neg hp]
  cases h : plc l l[q].par with
  | none => exact .inr (.inl ⟨hp, rfl, fnd_none h⟩)
  | some k =>
   obtain ⟨hk, _⟩ := plc_lt _ _ _ h;exact .inr (.inr ⟨k, hk, hp, rfl, fnd_plc h hk⟩)
end Go.Proofs.YtgfgggeeoeppjaaGreatDoor
/- Quoted strings and digests: the plain facts. -/
namespace Go.Proofs.YtgfgggeeoeppjaaGreatDoor
def hexD (n : Nat) : UInt8 := if n < 10 then UInt8.ofNat (48 + n) else UInt8.ofNat (87 + n)
def quoB (c : UInt8) : Str := if c = 34 ∨ c = 92 then [92, c] else if c = 10 then [92, 110] else if c < 33 ∨ 126 < c then [92, 120, hexD (c.toNat / 16), hexD (c.toNat % 16)] else [c]
def hexV (c : UInt8) : Nat := if 48 ≤ c ∧ c ≤ 57 then c.toNat - 48 else if 97 ≤ (c ||| 32) ∧ (c ||| 32) ≤ 102 then (c ||| 32).toNat - 87 else 255
def escP : Str → UInt8 × Nat
 | [] => (0, 0)
 | c :: r => if c ≠ 92 then (c, 1) else match r with
  | [] => (0, 0)
  | d :: r2 => if d = 110 then (10, 2) else if d = 34 ∨ d = 92 then (d, 2) else if d = 120 then (match r2 with
    | h :: l :: _ => if hexV h < 16 ∧ hexV l < 16 then (UInt8.ofNat (hexV h * 16 + hexV l), 4) else (0, 0)
    | _ => (0, 0)) else (0, 0)
def decP (s : Str) : Option (UInt8 × Nat) := if (escP s).2 ≠ 0 ∧ quoB (escP s).1 = s.take (escP s).2 then some (escP s) else none
theorem escP_quo : ∀ c : UInt8, c ≠ 34 ∨ True → ∀ t : Str, escP (quoB c ++ t) = (c, (quoB c).length) := by
 intro c _ t
 have key : ∀ n : Fin 256, (let c := UInt8.ofNat n.val; ((quoB c).length = 1 ∧ quoB c = [c] ∧ c ≠ 92) ∨ ((quoB c).length = 2 ∧ quoB c = [92, (quoB c).getD 1 0] ∧ ((quoB c).getD 1 0 = 110 ∧ c = 10 ∨ (quoB c).getD 1 0 = c ∧ (c = 34 ∨ c = 92))) ∨ ((quoB c).length = 4 ∧ quoB c = [92, 120, hexD (c.toNat / 16), hexD (c.toNat % 16)] ∧ hexV (hexD (c.toNat / 16)) < 16 ∧ hexV (hexD (c.toNat % 16)) < 16 ∧ UInt8.ofNat (hexV (hexD (c.toNat / 16)) * 16 + hexV (hexD (c.toNat % 16))) = c)) := by decide +kernel
 have hc := key ⟨c.toNat, c.toNat_lt⟩;simp only [UInt8.ofNat_toNat] at hc
 rcases hc with ⟨h1, h2, h3⟩ | ⟨h1, h2, h3⟩ | ⟨h1, h2, h3, h4, h5⟩
 ·rw [h1, h2];simp [escP, h3]
 ·rw [h1, h2]
  rcases h3 with ⟨h3, h4⟩ | ⟨h3, h4⟩
  ·rw [h3];simp [escP, h4]
  ·rw [h3]
   rcases h4 with h4 | h4 <;> simp [escP, h4]
 ·rw [h1, h2];simp [escP, h3, h4, h5]
theorem decP_some {s : Str} {c : UInt8} {n : Nat} (h : decP s = some (c, n)) : n = (quoB c).length ∧ quoB c <+: s := by
 unfold decP at h
 split at h
 ·rename_i hh
  injection h with h
  have h2 := hh.2;rw [h] at h2;simp only at h2
  have hp : quoB c <+: s := by rw [h2]; exact List.take_prefix _ _
  refine ⟨?_, hp⟩;obtain ⟨t, ht⟩ := hp;have h3 := escP_quo c (.inr trivial) t;rw [ht, h] at h3
  injection h3
 ·cases h
def unqF : Nat → Str → Str → Nat → Option (Str × Nat)
 | 0, _, _, _ => none
 | _ + 1, [], _, _ => none
 | f + 1, c :: r, acc, at_ => if c = 34 then some (acc, at_ + 1) else match decP (c :: r) with
  | none => none
  | some (d, n) => unqF f ((c :: r).drop n) (acc ++ [d]) (at_ + n)
def unqS : Str → Option (Str × Nat)
 | 34 :: r => unqF (r.length + 1) r [] 1
 | _ => none
def hexR (h : Nat) : Nat → Str
 | 0 => []
 | k + 1 => hexD (h / 16 ^ k % 16) :: hexR h k
theorem hexR_len (h : Nat) : ∀ k, (hexR h k).length = k
 | 0 => rfl
 | k + 1 => by simp [hexR, hexR_len h k]
theorem hexR_pad {h m : Nat} (hm : h < 16 ^ m) : ∀ d, hexR h (m + d) = List.replicate d 48 ++ hexR h m
 | 0 => by simp
 | d + 1 => by
  have e : h / 16 ^ (m + d) = 0 := by
   apply Nat.div_eq_of_lt
   exact Nat.lt_of_lt_of_le hm (Nat.pow_le_pow_right (by omega) (by omega))
  rw [show m + (d + 1) = (m + d) + 1 by omega, hexR, e, hexR_pad hm d, List.replicate_succ]
  rfl
def P40 : Nat := 1099511628211
def B64 : Nat := 18446744073709551616
def O64 : Nat := 14695981039346656037
def fnvS (h c : Nat) : Nat := ((h ^^^ c) * P40) % B64
def fnv (l : Str) : Nat := l.foldl (fun h c => fnvS h c.toNat) O64
theorem fnv_snoc (l : Str) (c : UInt8) : fnv (l ++ [c]) = fnvS (fnv l) c.toNat := by unfold fnv; rw [List.foldl_append, List.foldl_cons, List.foldl_nil]
theorem fnvS_lt (h c : Nat) : fnvS h c < B64 := Nat.mod_lt _ (by unfold B64; omega)
theorem O64_lt : O64 < B64 := by unfold O64 B64; omega
theorem fnv_lt (l : Str) : fnv l < B64 := by
 rcases List.eq_nil_or_concat l with rfl | ⟨l', c, rfl⟩
 ·exact O64_lt
 ·rw [List.concat_eq_append, fnv_snoc]; exact fnvS_lt _ _
def digS (l : Str) : Str := hexR (fnv l) 16
end Go.Proofs.YtgfgggeeoeppjaaGreatDoor
/- Least: the plain facts on the least elements of a list. -/
namespace Go.Proofs.YtgfgggeeoeppjaaGreatDoor
section
variable {α : Type} [DecidableEq α]
theorem subset_len : ∀ (A B : List α), A.Nodup → (∀ x ∈ A, x ∈ B) → A.length ≤ B.length
 | [], B, _, _ => by simp
 | x :: A, B, hn, hs => by
  have hx := hs x (by simp);rw [List.nodup_cons] at hn;have h1 := subset_len A (B.erase x) hn.2 (fun y hy => (List.mem_erase_of_ne (by rintro rfl; exact hn.1 hy)).2 (hs y (by simp [hy])));rw [List.length_erase_of_mem hx] at h1;have : 0 < B.length := List.length_pos_of_mem hx;simp only [List.length_cons]
  omega
theorem subset_back {A B : List α} (hn : A.Nodup) (hs : ∀ x ∈ A, x ∈ B) (hl : B.length ≤ A.length) : ∀ x ∈ B, x ∈ A := by
 intro b hb;refine Decidable.byContradiction fun hna => ?_;have h1 := subset_len A (B.erase b) hn (fun y hy => (List.mem_erase_of_ne (by rintro rfl; exact hna hy)).2 (hs y hy));rw [List.length_erase_of_mem hb] at h1;have : 0 < B.length := List.length_pos_of_mem hb
 omega
def Down (lt : α → α → Prop) (l A : List α) : Prop := ∀ a ∈ A, ∀ z ∈ l, z ∉ A → lt a z
theorem down_unique {lt : α → α → Prop} {l A B : List α} (has : ∀ x y, lt x y → ¬ lt y x) (hA : A.Nodup) (hB : B.Nodup) (sA : ∀ x ∈ A, x ∈ l) (sB : ∀ x ∈ B, x ∈ l) (hl : A.length = B.length) (dA : Down lt l A) (dB : Down lt l B) :
  ∀ x ∈ A, x ∈ B := by
 intro x hx;refine Decidable.byContradiction fun hxB => ?_;have h1 : ¬ ∀ y ∈ B, y ∈ A := fun h => hxB (subset_back hB h (by omega) x hx)
 apply h1
 intro y hy;refine Decidable.byContradiction fun hyA => ?_;exact has x y (dA x hx y (sB y hy) hyA) (dB y hy x (sA x hx) hxB)
theorem sorted_unique {lt : α → α → Prop} (has : ∀ x y, lt x y → ¬ lt y x) : ∀ (A B : List α), A.Pairwise lt → B.Pairwise lt → (∀ x ∈ A, x ∈ B) → (∀ x ∈ B, x ∈ A) → A = B
 | [], [], _, _, _, _ => rfl
 | [], b :: B, _, _, _, h => absurd (h b (by simp)) (by simp)
 | a :: A, [], _, _, h, _ => absurd (h a (by simp)) (by simp)
 | a :: A, b :: B, pA, pB, h1, h2 => by
  rw [List.pairwise_cons] at pA pB
  have e : a = b := by
   refine Decidable.byContradiction fun hne => ?_
   have ha : a ∈ B := by
    rcases List.mem_cons.1 (h1 a (by simp)) with h | h
    ·exact absurd h hne
    ·exact h
   have hb : b ∈ A := by
    rcases List.mem_cons.1 (h2 b (by simp)) with h | h
    ·exact absurd h.symm hne
    ·exact h
   exact has a b (pA.1 b hb) (pB.1 a ha)
  subst e;have irr : ∀ x, ¬ lt x x := fun x h => has x x h h
  rw [sorted_unique has A B pA.2 pB.2 (fun x hx => by
    rcases List.mem_cons.1 (h1 x (by simp [hx])) with h | h
    ·subst h;exact absurd (pA.1 _ hx) (irr _)
    ·exact h) (fun x hx => by
    rcases List.mem_cons.1 (h2 x (by simp [hx])) with h | h
    ·subst h;exact absurd (pB.1 _ hx) (irr _)
    ·exact h)]
end
def ltH (h : Str → Nat) (a b : Str) : Prop := h a < h b ∨ (h a = h b ∧ a < b)
theorem str_irrefl (a : Str) : ¬ a < a := List.lt_irrefl a
theorem str_asymm {a b : Str} (h : a < b) : ¬ b < a := List.lt_asymm h
theorem str_total {a b : Str} (h : ¬ a < b) (h2 : ¬ b < a) : a = b := List.le_antisymm (by simpa using h2) (by simpa using h)
theorem ltH_asymm (h : Str → Nat) (a b : Str) : ltH h a b → ¬ ltH h b a := by
 rintro (h1 | ⟨h1, h2⟩) (h3 | ⟨h3, h4⟩)
 ·omega
 ·omega
 ·omega
 ·exact str_asymm h2 h4
def LeastSpec (h : Str → Nat) (ids : List Str) (many : Nat) (out : List Str) : Prop :=
 out.Pairwise (· < ·) ∧ (∀ x ∈ out, x ∈ ids) ∧ Down (ltH h) ids out ∧ out.length = min many ids.length
theorem nodup_of_lt {l : List Str} (h : l.Pairwise (· < ·)) : l.Nodup := by
 refine List.Pairwise.imp ?_ h;intro a b hab e;subst e;exact str_irrefl _ hab
theorem LeastSpec.unique {h : Str → Nat} {ids : List Str} {many : Nat} {a b : List Str} (ha : LeastSpec h ids many a) (hb : LeastSpec h ids many b) : a = b := by
 obtain ⟨a1, a2, a3, a4⟩ := ha;obtain ⟨b1, b2, b3, b4⟩ := hb;have hab := down_unique (ltH_asymm h) (nodup_of_lt a1) (nodup_of_lt b1) a2 b2 (a4.trans b4.symm) a3 b3;have hba := down_unique (ltH_asymm h) (nodup_of_lt b1) (nodup_of_lt a1) b2 a2 (b4.trans a4.symm) b3 a3;exact sorted_unique (fun _ _ => str_asymm) a b a1 b1 hab hba
def LeastInv (h : Str → Nat) (ids : List Str) (many : Nat) (out : List Str) : Prop :=
 out.Pairwise (· < ·) ∧ (∀ x ∈ out, x ∈ ids) ∧ Down (ltH h) ids out ∧ min many ids.length ≤ out.length ∧ out.length ≤ ids.length
theorem LeastInv.start {h : Str → Nat} {ids : List Str} {many : Nat} (hs : ids.Pairwise (· < ·)) : LeastInv h ids many ids :=
 ⟨hs, fun _ h => h, fun _ _ z hz hn => absurd hz hn, by omega, by omega⟩
theorem LeastInv.done {h : Str → Nat} {ids : List Str} {many : Nat} {out : List Str} (hi : LeastInv h ids many out) (hl : out.length ≤ many) : LeastSpec h ids many out := by
 obtain ⟨a, b, c, d, e⟩ := hi;exact ⟨a, b, c, by omega⟩
def WorstAt (h : Str → Nat) (l : List Str) (k i : Nat) : Prop :=
 i < l.length ∧ ∀ j, j < k → (hj : j < l.length) → h l[j] ≤ h (l.getD i []) ∧ (i < j → h l[j] < h (l.getD i []))
theorem WorstAt.start {h : Str → Nat} {l : List Str} (hl : 0 < l.length) : WorstAt h l 0 0 := ⟨hl, fun j hj => absurd hj (by omega)⟩
theorem WorstAt.take {h : Str → Nat} {l : List Str} {k i : Nat} (hw : WorstAt h l k i) (hk : k < l.length) (hle : h (l.getD i []) ≤ h l[k]) : WorstAt h l (k + 1) k := by
 have e : l.getD k [] = l[k] := by simp [List.getD, hk]
 refine ⟨hk, fun j hj hjl => ?_⟩;rw [e]
 by_cases hjk : j = k
 ·subst hjk;exact ⟨Nat.le_refl _, fun h => absurd h (by omega)⟩
 ·have := (hw.2 j (by omega) hjl).1;exact ⟨by omega, fun h => absurd h (by omega)⟩
theorem WorstAt.keep {h : Str → Nat} {l : List Str} {k i : Nat} (hw : WorstAt h l k i) (hk : k < l.length) (hle : h l[k] < h (l.getD i [])) : WorstAt h l (k + 1) i := by
 refine ⟨hw.1, fun j hj hjl => ?_⟩
 by_cases hjk : j = k
 ·subst hjk;exact ⟨by omega, fun _ => hle⟩
 ·exact hw.2 j (by omega) hjl
theorem LeastInv.step {h : Str → Nat} {ids : List Str} {many : Nat} {out : List Str} {i : Nat} (hi : LeastInv h ids many out) (hl : many < out.length) (hw : WorstAt h out out.length i) : LeastInv h ids many (out.eraseIdx i) := by
 obtain ⟨a, b, c, d, e⟩ := hi;obtain ⟨hil, hw⟩ := hw;have hsub := List.eraseIdx_sublist out i;have hlen : (out.eraseIdx i).length = out.length - 1 := List.length_eraseIdx_of_lt hil;refine ⟨a.sublist hsub, fun x hx => b x (hsub.subset hx), ?_, by omega, by omega⟩;intro x hx z hz hzn
 by_cases hzo : z ∈ out
 ·-- z is the worst
  obtain ⟨j, hj, rfl⟩ := List.getElem_of_mem hzo
  have hji : j = i := by
   refine Decidable.byContradiction fun hne => hzn ?_;rw [List.mem_eraseIdx_iff_getElem?];exact ⟨j, hne, by simp [hj]⟩
  subst hji;rw [List.mem_eraseIdx_iff_getElem?] at hx;obtain ⟨m, hmi, hm⟩ := hx;obtain ⟨hml, rfl⟩ := List.getElem?_eq_some_iff.1 hm
  have eg : out.getD j [] = out[j] := by simp [List.getD, hj]
  have h1 := hw m hml hml;rw [eg] at h1;rw [List.pairwise_iff_getElem] at a
  by_cases hlt : m < j
  ·by_cases heq : h out[m] = h out[j]
   ·exact .inr ⟨heq, a m j hml hj hlt⟩
   ·exact .inl (by omega)
  ·exact .inl (h1.2 (by omega))
 ·exact c x (hsub.subset hx) z hz hzo
end Go.Proofs.YtgfgggeeoeppjaaGreatDoor
/- Families: the items below an item, in order; the ways from the tops down; the order of the ways. -/
namespace Go.Proofs.YtgfgggeeoeppjaaGreatDoor
open Go.RowKit
def kidsI (l : List Itm) (i : Nat) : List Nat := (List.range l.length).filter fun k => decide (upI l k = some i)
def topsI (l : List Itm) : List Nat := (List.range l.length).filter fun k => decide (upI l k = none)
def belI (l : List Itm) : Nat → Nat → List Nat
 | 0, i => [i]
 | n + 1, i => i :: (kidsI l i).flatMap (belI l n)
def wayI (l : List Itm) (i : Nat) : List Nat := (chn l l.length i).reverse ++ [i]
def short (l : List Itm) (n i : Nat) : Prop := ∀ k, stp l n k ≠ some i
theorem mem_kidsI {l : List Itm} {i k : Nat} : k ∈ kidsI l i ↔ k < l.length ∧ upI l k = some i := by simp [kidsI]
theorem mem_topsI {l : List Itm} {k : Nat} : k ∈ topsI l ↔ k < l.length ∧ upI l k = none := by simp [topsI]
theorem short_kid {l : List Itm} {n i k : Nat} (h : short l (n + 1) i) (hk : k ∈ kidsI l i) : short l n k := by
 intro j hj;refine h j ?_;rw [stp_add, hj];simp [stp, (mem_kidsI.1 hk).2]
theorem short_nokid {l : List Itm} {i : Nat} (h : short l 1 i) : kidsI l i = [] := by
 rw [List.eq_nil_iff_forall_not_mem];intro k hk;refine h k ?_;simp [stp, (mem_kidsI.1 hk).2]
theorem wayI_top {l : List Itm} {i : Nat} (h : upI l i = none) : wayI l i = [i] := by
 unfold wayI
 cases hn : l.length with
 | zero => simp [chn]
 | succ n => simp [chn, h]
theorem wayI_kid {l : List Itm} (hno : ∀ i, i < l.length → lpB l i = false) {i k : Nat} (hk : k < l.length) (h : upI l k = some i) : wayI l k = wayI l i ++ [k] := by
 unfold wayI;rw [← chn_noloop l hno k hk, chn, h];simp
def lexL : List Nat → List Nat → Bool
 | _, [] => false
 | [], _ :: _ => true
 | a :: x, b :: y => decide (a < b) || (decide (a = b) && lexL x y)
theorem lexL_append (x : List Nat) : ∀ {y z : List Nat}, lexL y z = true → lexL (x ++ y) (x ++ z) = true := by
 intro y z h
 induction x with
 | nil => exact h
 | cons a x ih => simp [lexL, ih]
theorem lexL_prefix (x : List Nat) (a : Nat) (z : List Nat) : lexL x (x ++ a :: z) = true := by
 have := lexL_append x (y := []) (z := a :: z) rfl
 simpa using this
theorem lexL_fork (x : List Nat) {a b : Nat} (h : a < b) (y z : List Nat) : lexL (x ++ a :: y) (x ++ b :: z) = true :=
 lexL_append x (by simp [lexL, h])
theorem lexL_irrefl : ∀ x : List Nat, lexL x x = false
 | [] => rfl
 | a :: x => by simp [lexL, lexL_irrefl x]
theorem lexL_asymm : ∀ {x y : List Nat}, lexL x y = true → lexL y x = false
 | [], _ :: _, _ => rfl
 | a :: x, b :: y, h => by
  simp only [lexL, Bool.or_eq_true, Bool.and_eq_true, decide_eq_true_eq] at h
  rcases h with h | ⟨rfl, h⟩
  ·simp [lexL]; omega
  ·simp [lexL, lexL_asymm h]
theorem lexL_total : ∀ {x y : List Nat}, x ≠ y → lexL x y = true ∨ lexL y x = true
 | [], [], h => absurd rfl h
 | [], _ :: _, _ => .inl rfl
 | _ :: _, [], _ => .inr rfl
 | a :: x, b :: y, h => by
  rcases Nat.lt_trichotomy a b with hab | rfl | hab
  ·exact .inl (by simp [lexL, hab])
  ·have hne : x ≠ y := fun e => h (by rw [e])
   rcases lexL_total hne with h | h
   ·exact .inl (by simp [lexL, h])
   ·exact .inr (by simp [lexL, h])
  ·exact .inr (by simp [lexL, hab])
theorem lexL_trans : ∀ {x y z : List Nat}, lexL x y = true → lexL y z = true → lexL x z = true
 | [], _ :: _, _ :: _, _, _ => rfl
 | a :: x, b :: y, c :: z, h, k => by
  simp only [lexL, Bool.or_eq_true, Bool.and_eq_true, decide_eq_true_eq] at h k ⊢
  rcases h with h | ⟨rfl, h⟩
  ·rcases k with k | ⟨rfl, k⟩
   ·exact .inl (by omega)
   ·exact .inl h
  ·rcases k with k | ⟨rfl, k⟩
   ·exact .inl k
   ·exact .inr ⟨rfl, lexL_trans h k⟩
theorem bel_way {l : List Itm} (hno : ∀ i, i < l.length → lpB l i = false) : ∀ (n i x : Nat), x ∈ belI l n i → ∃ t, wayI l x = wayI l i ++ t
 | 0, i, x, h => by
  simp [belI] at h;subst h;exact ⟨[], by simp⟩
 | n + 1, i, x, h => by
  rw [belI, List.mem_cons, List.mem_flatMap] at h
  rcases h with rfl | ⟨k, hk, hx⟩
  ·exact ⟨[], by simp⟩
  ·obtain ⟨t, ht⟩ := bel_way hno n k x hx;obtain ⟨h1, h2⟩ := mem_kidsI.1 hk;rw [wayI_kid hno h1 h2] at ht;exact ⟨k :: t, by rw [ht]; simp⟩
theorem range_filter_lt (n : Nat) (p : Nat → Bool) : ((List.range n).filter p).Pairwise (· < ·) := List.Pairwise.filter _ List.pairwise_lt_range
theorem bel_sorted {l : List Itm} (hno : ∀ i, i < l.length → lpB l i = false) : ∀ (n i : Nat), (belI l n i).Pairwise fun a b => lexL (wayI l a) (wayI l b) = true
 | 0, i => by simp [belI]
 | n + 1, i => by
  rw [belI, List.pairwise_cons, List.pairwise_flatMap];refine ⟨?_, fun k _ => bel_sorted hno n k, ?_⟩
  ·intro x hx;rw [List.mem_flatMap] at hx;obtain ⟨k, hk, hx⟩ := hx;obtain ⟨t, ht⟩ := bel_way hno n k x hx;obtain ⟨h1, h2⟩ := mem_kidsI.1 hk;rw [wayI_kid hno h1 h2] at ht;rw [ht, List.append_assoc];exact lexL_prefix _ _ _
  ·have hp : (kidsI l i).Pairwise (· < ·) := range_filter_lt _ _;refine List.Pairwise.imp_of_mem ?_ hp;intro a b ha hb hab x hx y hy;obtain ⟨t, ht⟩ := bel_way hno n a x hx;obtain ⟨u, hu⟩ := bel_way hno n b y hy;obtain ⟨h1, h2⟩ := mem_kidsI.1 ha;obtain ⟨h3, h4⟩ := mem_kidsI.1 hb;rw [wayI_kid hno h1 h2] at ht;rw [wayI_kid hno h3 h4] at hu;rw [ht, hu, List.append_assoc, List.append_assoc];exact lexL_fork _ hab _ _
def allI (l : List Itm) : List Nat := (topsI l).flatMap (belI l 4)
theorem all_sorted {l : List Itm} (hno : ∀ i, i < l.length → lpB l i = false) : (allI l).Pairwise fun a b => lexL (wayI l a) (wayI l b) = true := by
 rw [allI, List.pairwise_flatMap];refine ⟨fun k _ => bel_sorted hno 4 k, ?_⟩;have hp : (topsI l).Pairwise (· < ·) := range_filter_lt _ _;refine List.Pairwise.imp_of_mem ?_ hp;intro a b ha hb hab x hx y hy;obtain ⟨t, ht⟩ := bel_way hno 4 a x hx;obtain ⟨u, hu⟩ := bel_way hno 4 b y hy;rw [wayI_top (mem_topsI.1 ha).2] at ht;rw [wayI_top (mem_topsI.1 hb).2] at hu;rw [ht, hu];exact lexL_fork [] hab _ _
theorem bel_lt {l : List Itm} : ∀ (n i x : Nat), i < l.length → x ∈ belI l n i → x < l.length
 | 0, i, x, hi, h => by
  simp [belI] at h
  omega
 | n + 1, i, x, hi, h => by
  rw [belI, List.mem_cons, List.mem_flatMap] at h
  rcases h with rfl | ⟨k, hk, hx⟩
  ·exact hi
  ·exact bel_lt n k x (mem_kidsI.1 hk).1 hx
theorem bel_has {l : List Itm} : ∀ (m n i x : Nat), m ≤ n → x < l.length → stp l m x = some i → x ∈ belI l n i
 | 0, n, i, x, _, hx, h => by
  simp [stp] at h;subst h
  cases n <;> simp [belI]
 | m + 1, n, i, x, hmn, hx, h => by
  obtain ⟨n, rfl⟩ : ∃ k, n = k + 1 := ⟨n - 1, by omega⟩;obtain ⟨j, h1, h2⟩ := stp_some l (a := m) (b := 1) h
  have h3 : upI l j = some i := by
   cases hu : upI l j with
   | none => simp [stp, hu] at h2
   | some q => simpa [stp, hu] using h2
  have hj : j < l.length := by
   cases m with
   | zero => simp [stp] at h1; omega
   | succ m => exact stp_lt l h1
  rw [belI, List.mem_cons, List.mem_flatMap];exact .inr ⟨j, mem_kidsI.2 ⟨hj, h3⟩, bel_has m n j x (by omega) hx h1⟩
theorem top_of {l : List Itm} : ∀ (n x : Nat), x < l.length → stp l n x = none → ∃ m i, m < n ∧ i < l.length ∧ stp l m x = some i ∧ upI l i = none
 | 0, x, _, h => by simp [stp] at h
 | n + 1, x, hx, h => by
  cases hu : upI l x with
  | none => exact ⟨0, x, by omega, hx, rfl, hu⟩
  | some k =>
   rw [stp, hu] at h;obtain ⟨m, i, h1, h2, h3, h4⟩ := top_of n k (upI_lt hu) h;exact ⟨m + 1, i, by omega, h2, by rw [stp, hu]; exact h3, h4⟩
theorem mem_all {l : List Itm} (hd : ∀ x, x < l.length → stp l 5 x = none) (x : Nat) : x ∈ allI l ↔ x < l.length := by
 rw [allI, List.mem_flatMap]
 constructor
 ·rintro ⟨t, ht, hx⟩;exact bel_lt 4 t x (mem_topsI.1 ht).1 hx
 ·intro hx;obtain ⟨m, i, h1, h2, h3, h4⟩ := top_of 5 x hx (hd x hx);exact ⟨i, mem_topsI.2 ⟨h2, h4⟩, bel_has m 4 i x (by omega) hx h3⟩
theorem all_perm {l : List Itm} (hno : ∀ i, i < l.length → lpB l i = false) (hd : ∀ x, x < l.length → stp l 5 x = none) : (allI l).Perm (List.range l.length) := by
 refine (List.perm_ext_iff_of_nodup ?_ List.nodup_range).2 (fun x => by rw [mem_all hd, List.mem_range]);rw [List.nodup_iff_pairwise_ne];refine (all_sorted hno).imp ?_;rintro a b h rfl;rw [lexL_irrefl] at h
 cases h
theorem ways_unique {l : List Itm} : ∀ {a b : List Nat}, (a.Pairwise fun x y => lexL (wayI l x) (wayI l y) = true) → (b.Pairwise fun x y => lexL (wayI l x) (wayI l y) = true) → a.Perm b → a = b := by
 intro a b ha hb hp;refine List.Perm.eq_of_pairwise (le := fun x y => lexL (wayI l x) (wayI l y) = true) ?_ ha hb hp;intro x y _ _ h1 h2;rw [lexL_asymm h1] at h2
 cases h2
theorem wayI_inj {l : List Itm} {i k : Nat} (h : wayI l i = wayI l k) : i = k := by
 have h1 : (wayI l i).getLast? = some i := by simp [wayI]
 have h2 : (wayI l k).getLast? = some k := by simp [wayI]
 rw [h, h2] at h1
 injection h1 with h1
 exact h1.symm
def famsI (l : List Itm) : List (Nat × List Nat) := (topsI l).map fun t => (t, belI l 4 t)
def famStep (l : List Itm) (fs : List (Nat × List Nat)) (i : Nat) : List (Nat × List Nat) :=
 if upI l i = none then fs ++ [(i, [i])] else match fs.getLast? with
  | none => fs
  | some (t, xs) => fs.dropLast ++ [(t, xs ++ [i])]
theorem bel_rest {l : List Itm} : ∀ (n i x : Nat), x ∈ (kidsI l i).flatMap (belI l n) → upI l x ≠ none
 | n, i, x, h => by
  rw [List.mem_flatMap] at h;obtain ⟨k, hk, hx⟩ := h
  cases n with
  | zero =>
   simp [belI] at hx;subst hx;rw [(mem_kidsI.1 hk).2];simp
  | succ n =>
   rw [belI, List.mem_cons] at hx
   rcases hx with rfl | hx
   ·rw [(mem_kidsI.1 hk).2];simp
   ·exact bel_rest n k x hx
theorem fam_rest {l : List Itm} (fs : List (Nat × List Nat)) (t : Nat) : ∀ (r xs : List Nat), (∀ x ∈ r, upI l x ≠ none) → r.foldl (famStep l) (fs ++ [(t, xs)]) = fs ++ [(t, xs ++ r)]
 | [], xs, _ => by simp
 | x :: r, xs, h => by
  have h1 : famStep l (fs ++ [(t, xs)]) x = fs ++ [(t, xs ++ [x])] := by
   unfold famStep;rw [if_neg (h x (by simp))];simp
  rw [List.foldl_cons, h1, fam_rest fs t r _ (fun y hy => h y (by simp [hy]))];simp
theorem fam_fold_go {l : List Itm} : ∀ (ts : List Nat) (fs : List (Nat × List Nat)), (∀ t ∈ ts, upI l t = none) → (ts.flatMap (belI l 4)).foldl (famStep l) fs = fs ++ ts.map fun t => (t, belI l 4 t)
 | [], fs, _ => by simp
 | t :: ts, fs, h => by
  have h1 : (belI l 4 t).foldl (famStep l) fs = fs ++ [(t, belI l 4 t)] := by
   have e : belI l 4 t = t :: (kidsI l t).flatMap (belI l 3) := rfl
   have h2 : famStep l fs t = fs ++ [(t, [t])] := by
    unfold famStep;rw [if_pos (h t (by simp))]
   rw [e, List.foldl_cons, h2, fam_rest fs t _ _ (fun x hx => bel_rest 3 t x hx)]
   rfl
  rw [List.flatMap_cons, List.foldl_append, h1, fam_fold_go ts _ (fun y hy => h y (by simp [hy]))];simp
theorem fam_fold (l : List Itm) : (allI l).foldl (famStep l) [] = famsI l := by
 have := fam_fold_go (l := l) (topsI l) [] (fun t ht => (mem_topsI.1 ht).2)
 simpa [allI, famsI] using this
structure Right (l : List Itm) : Prop where
 len : l.length ≤ 2000
 key : ∀ x ∈ l, x.id ≠ []
 rise : l.Pairwise fun x y => x.id < y.id
 par : ∀ x ∈ l, x.par ≠ [] → plc l x.par ≠ none
 loop : ∀ i, i < l.length → lpB l i = false
 deep : ∀ i, i < l.length → (chn l l.length i).length ≤ 4
theorem ordE_rise {E : Itm → Int} : ∀ {l : List Itm} {p : Str}, ordE E p l = 0 → l.Pairwise fun x y => x.id < y.id
 | [], p, _ => List.Pairwise.nil
 | y :: r, p, h => by
  unfold ordE at h
  split at h
  ·rename_i h1; exact absurd h h1
  ·split at h
   ·omega
   ·refine List.pairwise_cons.2 ⟨fun x hx => ?_, ordE_rise h⟩;exact List.not_le.1 (ordE_gt h x hx).2
theorem firstE_zero {f : Nat → Int} : ∀ {n i : Nat}, firstE f i n = 0 → ∀ k, i ≤ k → k < i + n → f k = 0
 | 0, i, _, k, h1, h2 => by omega
 | n + 1, i, h, k, h1, h2 => by
  unfold firstE at h
  split at h
  ·rename_i h3; exact absurd h h3
  ·rename_i h3
   rcases Nat.eq_or_lt_of_le h1 with rfl | hlt
   ·simpa using h3
   ·exact firstE_zero h k (by omega) (by omega)
theorem right_of {E : Itm → Int} (hE : ∀ x, E x = 0 → x.id ≠ []) {l : List Itm} (h : itsE E l = 0) : Right l := by
 unfold itsE at h
 split at h
 ·omega
 rename_i h1
 split at h
 ·rename_i h2; exact absurd h h2
 rename_i h2
 have h2 : ordE E [] l = 0 := by simpa using h2
 split at h
 ·omega
 rename_i h3
 unfold treeE at h
 split at h
 ·omega
 rename_i h4
 refine ⟨by omega, fun x hx => hE x (ordE_gt h2 x hx).1, ordE_rise h2, fun x hx hp he => ?_, fun i hi => ?_, fun i hi => ?_⟩
 ·refine h3 (List.any_eq_true.2 ⟨x, hx, ?_⟩);unfold missB;rw [decide_eq_true hp, he]
  rfl
 ·cases hb : lpB l i with
  | false => rfl
  | true => exact absurd (List.any_eq_true.2 ⟨i, List.mem_range.2 hi, hb⟩) h4
 ·have h5 := firstE_zero h i (by omega) (by omega);unfold depE at h5;rw [List.getElem?_eq_getElem hi] at h5;simp only at h5
  split at h5
  ·omega
  ·split at h5
   ·omega
   ·omega
theorem Right.end5 {l : List Itm} (h : Right l) : ∀ x, x < l.length → stp l 5 x = none := by
 intro x hx
 cases hs : stp l 5 x with
 | none => rfl
 | some i =>
  exfalso
  have h1 := h.deep x hx
  have hne := noloop_end l (fun j hj hl => by
   have := (lpB_iff l j).2 hl;rw [h.loop j hj] at this
   cases this) x hx
  have h2 := chn_get l l.length x 4
  have hlen : 4 < l.length := by
   rcases Nat.lt_or_ge 4 l.length with h | h
   ·exact h
   ·exfalso
    obtain ⟨d, hd⟩ : ∃ d, 5 = l.length + d := ⟨5 - l.length, by omega⟩;rw [hd, stp_add, hne] at hs
    cases hs
  rw [if_pos hlen, hs] at h2;have := (List.getElem?_eq_some_iff.1 h2).1
  omega
theorem Right.short {l : List Itm} (h : Right l) (i : Nat) : short l 5 i := by
 intro k hk
 by_cases hl : k < l.length
 ·rw [h.end5 k hl] at hk
  cases hk
 ·have : upI l k = none := by
   unfold upI;rw [List.getElem?_eq_none (by omega)]
  simp [stp, this] at hk
theorem Right.distinct {l : List Itm} (h : Right l) : l.Pairwise fun x y => x.id ≠ y.id :=
 h.rise.imp fun hlt he => by rw [he] at hlt; exact absurd hlt (List.lt_irrefl _)
theorem Right.top_iff {l : List Itm} (h : Right l) {i : Nat} (hi : i < l.length) : upI l i = none ↔ l[i].par = [] := by
 unfold upI;rw [List.getElem?_eq_getElem hi];simp only
 by_cases hp : l[i].par = []
 ·simp [hp]
 ·rw [if_neg hp];exact ⟨fun he => absurd he (h.par _ (List.getElem_mem hi) hp), fun he => absurd he hp⟩
theorem Right.kid_iff {l : List Itm} (h : Right l) {i k : Nat} (hi : i < l.length) (hk : k < l.length) : upI l k = some i ↔ l[k].par = l[i].id := by
 unfold upI;rw [List.getElem?_eq_getElem hk];simp only
 by_cases hp : l[k].par = []
 ·rw [if_pos hp]
  constructor
  ·intro he; cases he
  ·intro he;exact absurd (he ▸ hp) (h.key _ (List.getElem_mem hi))
 ·rw [if_neg hp]
  constructor
  ·intro he;obtain ⟨h1, h2⟩ := plc_lt _ _ _ he;exact h2.symm
  ·intro he;rw [he];exact plc_self h.distinct i hi
theorem Right.id_lt {l : List Itm} (h : Right l) {i k : Nat} (hi : i < l.length) (hk : k < l.length) : l[i].id < l[k].id ↔ i < k := by
 constructor
 ·intro hlt
  rcases Nat.lt_trichotomy i k with hik | rfl | hik
  ·exact hik
  ·exact absurd hlt (List.lt_irrefl _)
  ·have := (List.pairwise_iff_getElem.1 h.rise) k i hk hi hik;exact absurd (List.lt_trans hlt this) (List.lt_irrefl _)
 ·intro hlt;exact (List.pairwise_iff_getElem.1 h.rise) i k hi hk hlt
end Go.Proofs.YtgfgggeeoeppjaaGreatDoor
/- Slices of one-cell elements: their rows. -/
namespace Go.Proofs.YtgfgggeeoeppjaaGreatDoor
open Go.RowKit
theorem Sl.lenS {w : World} {A : Option Addr} {n c : Nat} {xs : List Str} (h : Sl w 9 1 (.slice A n c) (strsV xs)) : xs.length = n := by
 obtain ⟨A', n', c', hf, _, _, hl, _⟩ := h
 injection hf with _ h2 _
 simp [strsV] at hl
 omega
theorem Sl.rowS {w : World} {A : Option Addr} {n c : Nat} {e : TypeId} {xs : List Value} (h : Sl w e 1 (.slice A n c) xs) (hn : 0 < n) : ∃ g off, A = some ⟨g, off, none⟩ ∧ RowAt w e g off xs := by
 obtain ⟨A', n', c', hf, _, _, hl, hr⟩ := h
 injection hf with h1 h2 _
 subst h1 h2;exact hr hn
end Go.Proofs.YtgfgggeeoeppjaaGreatDoor
/- Groups of families in plain words. -/
namespace Go.Proofs.YtgfgggeeoeppjaaGreatDoor
open Go.RowKit
def ltP (a b : Int × Int) : Prop := a.1 < b.1 ∨ a.1 = b.1 ∧ a.2 < b.2
instance (a b : Int × Int) : Decidable (ltP a b) := inferInstanceAs (Decidable (_ ∨ _))
def bestS (f : Str → Int × Int) : List Str → Str → Str
 | [], m => m
 | x :: t, m => bestS f t (if ltP (f x) (f m) then x else m)
theorem ltP_irrefl (a : Int × Int) : ¬ ltP a a := by unfold ltP; omega
theorem bestS_snoc (f : Str → Int × Int) : ∀ (t : List Str) (x m : Str), bestS f (t ++ [x]) m = if ltP (f x) (f (bestS f t m)) then x else bestS f t m
 | [], x, m => rfl
 | y :: t, x, m => by
  show bestS f (t ++ [x]) _ = _
  rw [bestS_snoc f t x]
  rfl
theorem best_first (f : Str → Int × Int) : ∀ (t pre : List Str) (m : Str), pre.find? (fun x => decide (f x = f m)) = some m → (∀ x ∈ pre, ¬ ltP (f x) (f m)) →
  (pre ++ t).find? (fun x => decide (f x = f (bestS f t m))) = some (bestS f t m)
 | [], pre, m, h, _ => by
  rw [List.append_nil];exact h
 | x :: t, pre, m, h, hl => by
  have e : pre ++ x :: t = (pre ++ [x]) ++ t := by simp
  rw [e]
  show _ = some (bestS f t _)
  have hb : bestS f (x :: t) m = bestS f t (if ltP (f x) (f m) then x else m) := rfl;rw [hb]
  by_cases hx : ltP (f x) (f m)
  ·rw [if_pos hx];refine best_first f t (pre ++ [x]) x ?_ (fun y hy => ?_)
   ·rw [List.find?_append]
    have : pre.find? (fun y => decide (f y = f x)) = none := by
     rw [List.find?_eq_none];intro y hy hq;have h1 := hl y hy
     have h2 : f y = f x := by simpa using hq
     rw [h2] at h1;exact h1 hx
    rw [this];simp
   ·rcases List.mem_append.1 hy with hy | hy
    ·have := hl y hy;unfold ltP at *
     omega
    ·rw [List.mem_singleton.1 hy];exact ltP_irrefl _
  ·rw [if_neg hx];refine best_first f t (pre ++ [x]) m ?_ (fun y hy => ?_)
   ·rw [List.find?_append, h]
    rfl
   ·rcases List.mem_append.1 hy with hy | hy
    ·exact hl y hy
    ·rw [List.mem_singleton.1 hy];exact hx
def backS (f : Str → Int × Int) (l : List Str) (p : Str) : Str := l.foldr (fun x q => if f x = f q then x else q) p
theorem back_val (f : Str → Int × Int) : ∀ (l : List Str) (p : Str), f (backS f l p) = f p
 | [], p => rfl
 | x :: t, p => by
  show f (if f x = f (backS f t p) then x else backS f t p) = _
  split
  ·next h => rw [h, back_val f t p]
  ·exact back_val f t p
theorem back_find (f : Str → Int × Int) : ∀ (l : List Str) (p : Str), backS f l p = (l.find? (fun x => decide (f x = f p))).getD p
 | [], p => rfl
 | x :: t, p => by
  show (if f x = f (backS f t p) then x else backS f t p) = _
  rw [back_val f t p]
  by_cases h : f x = f p
  ·simp [h]
  ·rw [if_neg h, back_find f t p];simp [h]
theorem back_best (f : Str → Int × Int) (x : Str) (t : List Str) : backS f (x :: t) (bestS f (x :: t) x) = bestS f t x := by
 have e : bestS f (x :: t) x = bestS f t x := by
  show bestS f t (if ltP (f x) (f x) then x else x) = _
  simp
 rw [e, back_find];have h := best_first f t [x] x (by simp) (fun y hy => by rw [List.mem_singleton.1 hy]; exact ltP_irrefl _);rw [show x :: t = [x] ++ t from rfl, h]
 rfl
section
variable {κ : Type} [DecidableEq κ] (kf : Str → κ) (f : Str → Int × Int) (T : List Str)
def clsS (t : Str) : List Str := T.filter fun x => decide (kf x = kf t)
def fstB (k : Nat) : Bool := (T.take k).all fun x => decide (kf x ≠ kf (T.getD k []))
structure GrpR (κ : Type) where
 key : κ
 prim : Str
 tops : List Str
def grpOf (t : Str) : GrpR κ := ⟨kf t, bestS f (clsS kf T t) t, clsS kf T t⟩
def grpsK (k : Nat) : List (GrpR κ) := ((List.range k).filter fun i => fstB kf T i && decide (2 ≤ (clsS kf T (T.getD i [])).length)).map fun i => grpOf kf f T (T.getD i [])
def ordK (k : Nat) : List κ := ((List.range k).filter fun i => fstB kf T i).map fun i => kf (T.getD i [])
variable {kf f T}
theorem ordK_s {k : Nat} : ordK kf T (k + 1) = if fstB kf T k = true then ordK kf T k ++ [kf (T.getD k [])] else ordK kf T k := by
 unfold ordK;rw [List.range_succ, List.filter_append, List.filter_cons, List.filter_nil];generalize fstB kf T k = z
 cases z <;> simp
theorem grpsK_s {k : Nat} : grpsK kf f T (k + 1) = if (fstB kf T k && decide (2 ≤ (clsS kf T (T.getD k [])).length)) = true then grpsK kf f T k ++ [grpOf kf f T (T.getD k [])] else grpsK kf f T k := by
 unfold grpsK;rw [List.range_succ, List.filter_append, List.filter_cons, List.filter_nil];generalize (fstB kf T k && decide (2 ≤ (clsS kf T (T.getD k [])).length)) = z
 cases z <;> simp
end
end Go.Proofs.YtgfgggeeoeppjaaGreatDoor
/- Groups of families, plain: what the program's two loops and the reference's loops keep. -/
namespace Go.Proofs.YtgfgggeeoeppjaaGreatDoor
open Go.RowKit
section
variable {κ : Type} [DecidableEq κ] (kf : Str → κ) (f : Str → Int × Int) (T : List Str)
def clsK (k : Nat) (p : κ) : List Str := (T.take k).filter fun x => decide (kf x = p)
def grpB (p : κ) : GrpR κ := ⟨p, bestS f (clsK kf T T.length p).tail ((clsK kf T T.length p).headD []), clsK kf T T.length p⟩
def outK (ks : List κ) : List (GrpR κ) := (ks.filter fun p => decide (1 < (clsK kf T T.length p).length)).map (grpB kf f T)
variable {kf f T}
theorem clsK_succ {k : Nat} (h : k < T.length) (p : κ) : clsK kf T (k + 1) p = if p = kf T[k] then clsK kf T k p ++ [T[k]] else clsK kf T k p := by
 unfold clsK;rw [List.take_succ_eq_append_getElem h, List.filter_append, List.filter_cons, List.filter_nil]
 by_cases e : p = kf T[k]
 ·rw [if_pos e, if_pos (by simp [e])]
 ·rw [if_neg e, if_neg (by simpa using fun h => e h.symm), List.append_nil]
theorem clsK_all (t : Str) : clsK kf T T.length (kf t) = clsS kf T t := by
 unfold clsK clsS;rw [List.take_length]
theorem clsK_len {k : Nat} (p : κ) (h : k ≤ T.length) : (clsK kf T k p).length ≤ k := by
 unfold clsK;have := List.length_filter_le (fun x => decide (kf x = p)) (T.take k);rw [List.length_take] at this
 omega
theorem fst_iff {k : Nat} (h : k < T.length) : fstB kf T k = true ↔ clsK kf T k (kf T[k]) = [] := by
 unfold fstB clsK;rw [List.filter_eq_nil_iff, List.all_eq_true, show T.getD k [] = T[k] by simp [List.getD, h]];simp
theorem ordK_succ {k : Nat} (h : k < T.length) : ordK kf T (k + 1) = if clsK kf T k (kf T[k]) = [] then ordK kf T k ++ [kf T[k]] else ordK kf T k := by
 rw [ordK_s, show T.getD k [] = T[k] by simp [List.getD, h]]
 by_cases e : clsK kf T k (kf T[k]) = []
 ·rw [if_pos e, if_pos ((fst_iff h).2 e)]
 ·rw [if_neg e, if_neg (fun h2 => e ((fst_iff h).1 h2))]
theorem ordK_len (k : Nat) : (ordK kf T k).length ≤ k := by
 unfold ordK;rw [List.length_map];have := List.length_filter_le (fun i => fstB kf T i) (List.range k)
 rwa [List.length_range] at this
theorem cls_head {k : Nat} (h : k < T.length) (hf : fstB kf T k = true) : ∃ r, clsS kf T T[k] = T[k] :: r := by
 have h1 := (fst_iff h).1 hf;rw [← clsK_all];refine ⟨(T.drop (k + 1)).filter fun x => decide (kf x = kf T[k]), ?_⟩;unfold clsK at *;rw [List.take_length]
 have e : T = T.take k ++ T[k] :: T.drop (k + 1) := by
  have := List.take_append_drop k T;rw [List.drop_eq_getElem_cons h] at this;exact this.symm
 have e2 : T.filter (fun x => decide (kf x = kf T[k])) = (T.take k ++ T[k] :: T.drop (k + 1)).filter (fun x => decide (kf x = kf T[k])) := congrArg (List.filter _) e;rw [e2, List.filter_append, h1, List.nil_append, List.filter_cons, if_pos (by simp)]
theorem grpB_of {k : Nat} (h : k < T.length) (hf : fstB kf T k = true) : grpB kf f T (kf T[k]) = grpOf kf f T T[k] := by
 obtain ⟨r, hr⟩ := cls_head h hf;unfold grpB grpOf;rw [clsK_all, hr]
 congr 1
 show bestS f r T[k] = bestS f r (if ltP (f T[k]) (f T[k]) then T[k] else T[k])
 simp
theorem outK_all : outK kf f T (ordK kf T T.length) = grpsK kf f T T.length := by
 unfold outK ordK grpsK;rw [List.filter_map, List.map_map, List.filter_filter]
 have e1 : (List.range T.length).filter (fun a => ((fun p => decide (1 < (clsK kf T T.length p).length)) ∘ fun i => kf (T.getD i [])) a && fstB kf T a) = (List.range T.length).filter (fun i => fstB kf T i && decide (2 ≤ (clsS kf T (T.getD i [])).length)) := by
  apply List.filter_congr
  intro i hi;simp only [Function.comp];rw [clsK_all, Bool.and_comm]
  rfl
 rw [e1]
 apply List.map_congr_left
 intro i hi;obtain ⟨h1, h2⟩ := List.mem_filter.1 hi;have h3 : i < T.length := List.mem_range.1 h1
 have h4 : fstB kf T i = true := by simp only [Bool.and_eq_true] at h2; exact h2.1
 simp only [Function.comp];rw [show T.getD i [] = T[i] by simp [List.getD, h3]];exact grpB_of h3 h4
theorem outK_take {ks : List κ} {j : Nat} (h : j < ks.length) : outK kf f T (ks.take (j + 1)) = if 1 < (clsK kf T T.length ks[j]).length then outK kf f T (ks.take j) ++ [grpB kf f T ks[j]] else outK kf f T (ks.take j) := by
 unfold outK;rw [List.take_succ_eq_append_getElem h, List.filter_append, List.filter_cons, List.filter_nil]
 by_cases e : 1 < (clsK kf T T.length ks[j]).length
 ·rw [if_pos e, if_pos (by simpa using e)];simp
 ·rw [if_neg e, if_neg (by simpa using e)];simp
def DoneS (kf : Str → κ) (T : List Str) (k : Nat) (S : List Str) : Prop := ∀ x ∈ T, (x ∈ S ↔ ∃ i, i < k ∧ kf x = kf (T.getD i []) ∧ 1 < (clsK kf T T.length (kf x)).length)
theorem DoneS.zero : DoneS kf T 0 [] := fun x _ => by simp
theorem DoneS.skip1 {k : Nat} {S : List Str} (h : DoneS kf T k S) (hk : k < T.length) (hl : ¬ 1 < (clsK kf T T.length (kf T[k])).length) : DoneS kf T (k + 1) S := fun x hx => by
 rw [h x hx]
 constructor
 ·rintro ⟨i, h1, h2⟩; exact ⟨i, by omega, h2⟩
 ·rintro ⟨i, h1, h2, h3⟩;refine ⟨i, ?_, h2, h3⟩
  by_cases e : i = k
  ·subst e;rw [show T.getD i [] = T[i] by simp [List.getD, hk]] at h2;rw [h2] at h3;exact absurd h3 hl
  ·omega
theorem DoneS.skip2 {k : Nat} {S : List Str} (h : DoneS kf T k S) (hk : k < T.length) (hd : T[k] ∈ S) : DoneS kf T (k + 1) S := fun x hx => by
 obtain ⟨j, j1, j2, j3⟩ := (h _ (List.getElem_mem hk)).1 hd;rw [h x hx]
 constructor
 ·rintro ⟨i, h1, h2⟩; exact ⟨i, by omega, h2⟩
 ·rintro ⟨i, h1, h2, h3⟩
  by_cases e : i = k
  ·subst e;rw [show T.getD i [] = T[i] by simp [List.getD, hk]] at h2;exact ⟨j, j1, h2.trans j2, h3⟩
  ·exact ⟨i, by omega, h2, h3⟩
theorem DoneS.add {k : Nat} {S : List Str} (h : DoneS kf T k S) (hk : k < T.length) (hl : 1 < (clsK kf T T.length (kf T[k])).length) : DoneS kf T (k + 1) (S ++ clsK kf T T.length (kf T[k])) := fun x hx => by
 rw [List.mem_append, h x hx]
 have hm : x ∈ clsK kf T T.length (kf T[k]) ↔ kf x = kf T[k] := by
  unfold clsK;rw [List.take_length, List.mem_filter];simp [hx]
 rw [hm]
 constructor
 ·rintro (⟨i, h1, h2⟩ | h1)
  ·exact ⟨i, by omega, h2⟩
  ·exact ⟨k, by omega, by rw [show T.getD k [] = T[k] by simp [List.getD, hk]]; exact h1, by rw [h1]; exact hl⟩
 ·rintro ⟨i, h1, h2, h3⟩
  by_cases e : i = k
  ·subst e;rw [show T.getD i [] = T[i] by simp [List.getD, hk]] at h2;exact .inr h2
  ·exact .inl ⟨i, by omega, h2, h3⟩
theorem DoneS.fst {k : Nat} {S : List Str} (h : DoneS kf T k S) (hk : k < T.length) (hl : 1 < (clsK kf T T.length (kf T[k])).length) : (T[k] ∈ S) ↔ fstB kf T k = false := by
 rw [h _ (List.getElem_mem hk)];unfold fstB;rw [show T.getD k [] = T[k] by simp [List.getD, hk]];rw [← Bool.not_eq_true, List.all_eq_true]
 constructor
 ·rintro ⟨i, h1, h2, _⟩ h4;rw [show T.getD i [] = T[i]'(by omega) by simp [List.getD, show i < T.length by omega]] at h2;have := h4 (T[i]'(by omega)) (List.mem_take_iff_getElem.2 ⟨i, by omega, rfl⟩);simp at this;exact this h2.symm
 ·intro h4;refine Classical.byContradiction fun h5 => h4 fun x hx => ?_;obtain ⟨i, h6, rfl⟩ := List.mem_take_iff_getElem.1 hx
  have h7 : i < k := by omega
  have h8 : i < T.length := by omega
  simp only [ne_eq, decide_not, Bool.not_eq_eq_eq_not, Bool.not_true, decide_eq_false_iff_not];intro h9;exact h5 ⟨i, h7, by rw [show T.getD i [] = T[i] by simp [List.getD, h8]]; exact h9.symm, hl⟩
theorem grpsK_succ {k : Nat} (hk : k < T.length) : grpsK kf f T (k + 1) = if (fstB kf T k && decide (1 < (clsK kf T T.length (kf T[k])).length)) = true then grpsK kf f T k ++ [grpOf kf f T T[k]] else grpsK kf f T k := by
 rw [grpsK_s, show T.getD k [] = T[k] by simp [List.getD, hk], ← clsK_all]
 rfl
theorem grpOf_back {k : Nat} (hk : k < T.length) (hf : fstB kf T k = true) : grpOf kf f T T[k] = ⟨kf T[k], backS f (clsK kf T T.length (kf T[k])) (bestS f (clsK kf T T.length (kf T[k])) T[k]), clsK kf T T.length (kf T[k])⟩ := by
 obtain ⟨r, hr⟩ := cls_head hk hf;unfold grpOf;rw [clsK_all, hr, back_best]
 congr 1
 show bestS f r (if ltP (f T[k]) (f T[k]) then T[k] else T[k]) = _
 simp
end
end Go.Proofs.YtgfgggeeoeppjaaGreatDoor
