/- Texts of the proof of CodingCounts, put together: CntT. -/
import Derived.Test.YtkkndblcejmmjaaGreatDoorCodingCountsZ20
import Derived.Test.YtkkndblcejmmjaaGreatDoorCodingCountsZ25
import Derived.Test.YtkkndblcejmmjaaGreatDoorCodingCountsZ30
/- Tallies of codings (plain). -/
namespace Go.Proofs.YtkkndblcejmmjaaGreatDoor
set_option linter.unusedVariables false
set_option linter.unusedSimpArgs false
open Go.RowKit

/-- The first n numbers of a function. -/
def rowF (F : Nat → Int) (n : Nat) : List Int := (List.range n).map F
theorem rowF_len (F : Nat → Int) (n : Nat) : (rowF F n).length = n := by simp [rowF]
theorem rowF_get (F : Nat → Int) {n i : Nat} (h : i < n) : (ints (rowF F n))[i]? = some (.int .i64 (F i)) := by
 simp [ints, rowF, h]
theorem rowF_set (F : Nat → Int) (n i : Nat) (v : Int) : (ints (rowF F n)).set i (.int .i64 v) = ints (rowF (fun j => if j = i then v else F j) n) := by
 apply List.ext_getElem?
 intro j
 simp only [ints, rowF, List.getElem?_set, List.getElem?_map, List.length_map, List.length_range]
 by_cases h : i = j
 ·subst h
  by_cases hn : i < n <;> simp [hn]
 ·have h2 : ¬ j = i := fun e => h e.symm
  rw [if_neg h]
  by_cases hn : j < n <;> simp [hn, h2]
theorem rowF_zero (n : Nat) : List.replicate n (Value.int .i64 0) = ints (rowF (fun _ => 0) n) := by
 apply List.ext_getElem?
 intro j
 simp only [ints, rowF, List.getElem?_map, List.getElem?_replicate]
 by_cases hn : j < n <;> simp [hn]
theorem rowF_congr {F G : Nat → Int} {n : Nat} (h : ∀ i, i < n → F i = G i) : rowF F n = rowF G n := by
 unfold rowF
 exact List.map_congr_left (fun i hi => h i (List.mem_range.1 hi))
/-- What one coding adds to place i, while the first q of its choices have been counted. -/
def colQ (cs v : List Str) (q i : Nat) : Int := if i = cs.length then (if v = [] then 1 else 0) else (cntS cs (v.take q) i : Int)
def talF (cs : List Str) (f : Str) (xs : List CodR) (i : Nat) : Int := (xs.map fun x => colQ cs (chIn x.vals f) (chIn x.vals f).length i).sum
theorem talF_snoc (cs : List Str) (f : Str) {xs : List CodR} {k : Nat} (h : k < xs.length) : talF cs f (xs.take (k + 1)) = fun i => talF cs f (xs.take k) i + colQ cs (chIn xs[k].vals f) (chIn xs[k].vals f).length i := by
 funext i
 unfold talF
 rw [List.take_succ_eq_append_getElem h, List.map_append, List.sum_append]
 simp
theorem colQ_bd (cs v : List Str) (q i : Nat) (h : v.length ≤ 1000) : 0 ≤ colQ cs v q i ∧ colQ cs v q i ≤ 1000 := by
 unfold colQ
 split
 ·split <;> omega
 ·have h1 : cntS cs (v.take q) i ≤ (v.take q).length := by unfold cntS; exact List.countP_le_length
  rw [List.length_take] at h1
  omega
theorem talF_bd (cs : List Str) (f : Str) (i : Nat) : ∀ {xs : List CodR}, (∀ x ∈ xs, (chIn x.vals f).length ≤ 1000) → 0 ≤ talF cs f xs i ∧ talF cs f xs i ≤ 1000 * (xs.length : Int)
 | [], _ => by simp [talF]
 | x :: t, h => by
  have h1 := talF_bd cs f i (xs := t) (fun y hy => h y (List.mem_cons_of_mem _ hy))
  have h2 := colQ_bd cs (chIn x.vals f) (chIn x.vals f).length i (h x List.mem_cons_self)
  have e : talF cs f (x :: t) i = colQ cs (chIn x.vals f) (chIn x.vals f).length i + talF cs f t i := by simp [talF]
  rw [e, List.length_cons]
  omega
/-- The row while a coding is being counted. -/
def midF (cs : List Str) (F : Nat → Int) (v : List Str) (q : Nat) (i : Nat) : Int := F i + colQ cs v q i
theorem midF_0 (cs : List Str) (F : Nat → Int) : midF cs F [] 0 = fun j => if j = cs.length then F cs.length + 1 else F j := by
 funext j
 unfold midF colQ
 by_cases h : j = cs.length
 ·subst h; simp
 ·simp [h, cntS]
theorem midF_n (cs : List Str) (F : Nat → Int) {v : List Str} (h : v ≠ []) : midF cs F v 0 = F := by
 funext j
 unfold midF colQ
 by_cases hj : j = cs.length
 ·simp [hj, h]
 ·simp [hj, cntS]
theorem midF_s (cs : List Str) (F : Nat → Int) {v : List Str} {q ix : Nat} (h : q < v.length) (hi : ixS cs v[q] = (ix : Int)) (hlt : ix < cs.length) : midF cs F v (q + 1) = fun j => if j = ix then midF cs F v q ix + 1 else midF cs F v q j := by
 funext j
 unfold midF colQ
 by_cases hj : j = cs.length
 ·have : ¬ j = ix := by omega
  simp [hj, show ¬ cs.length = ix by omega]
 ·have e : cntS cs (v.take (q + 1)) j = cntS cs (v.take q) j + (if j = ix then 1 else 0) := by
   unfold cntS
   rw [List.take_succ_eq_append_getElem h, List.countP_append]
   congr 1
   rw [List.countP_singleton]
   by_cases hx : j = ix
   ·subst hx; simp [hi]
   ·have : ¬ ix = j := fun e => hx e.symm
    simp [hi, hx]; omega
  rw [if_neg hj, e]
  by_cases hx : j = ix
  ·subst hx
   rw [if_pos rfl, if_pos rfl, if_neg hj]
   omega
  ·rw [if_neg hx, if_neg hx, if_neg hj]
   omega
/-- Codings without faults have right values. -/
theorem ceE_0 {L : LayR} : ∀ {xs : List CodR} {p : Str}, ceE L p xs = 0 → ∀ x ∈ xs, valsE L x.vals = 0
 | [], _, _, x, hx => absurd hx (by simp)
 | y :: t, p, h, x, hx => by
  unfold ceE at h
  split at h
  ·omega
  split at h
  ·omega
  split at h
  ·rename_i h1; exact absurd h h1
  ·rename_i h1
   rcases List.mem_cons.1 hx with e | e
   ·subst e; omega
   ·exact ceE_0 h x e
theorem val_pick {al : List AskR} : ∀ {v : List ChoR} {p : Int}, valE al p v = 0 → ∀ x ∈ v, ∃ k, askIx al x.field = some k ∧ pickE (al.getD k askN).ch (-1) x.ch = 0
 | [], _, _, x, hx => absurd hx (by simp)
 | c :: t, p, h, x, hx => by
  unfold valE at h
  cases hk : askIx al c.field with
  | none => rw [hk] at h; simp only at h; omega
  | some k =>
   rw [hk] at h
   simp only at h
   split at h
   ·omega
   split at h
   ·omega
   split at h
   ·omega
   split at h
   ·rename_i h1; exact absurd h h1
   ·rename_i h1
    rcases List.mem_cons.1 hx with e | e
    ·subst e; exact ⟨k, hk, by omega⟩
    ·exact val_pick h x e
theorem chIn_pick {L : LayR} {v : List ChoR} {f : Str} {k : Nat} (h : valsE L v = 0) (hk : askIx L.asks f = some k) : pickE (L.asks.getD k askN).ch (-1) (chIn v f) = 0 := by
 unfold valsE at h
 split at h
 ·omega
 cases hf : v.findIdx? fun c => decide (c.field = f) with
 | none => rw [chIn_none hf]; rfl
 | some j =>
  obtain ⟨hj, e⟩ := chIn_some hf
  rw [e]
  obtain ⟨k2, h1, h2⟩ := val_pick h v[j] (List.getElem_mem hj)
  have h3 : v[j].field = f := by
   rw [List.findIdx?_eq_some_iff_getElem] at hf
   obtain ⟨_, hf, _⟩ := hf
   simpa using hf
  rw [h3, hk] at h1
  cases h1
  exact h2
/-- What the reference adds. -/
def colR (cs v : List Str) (i : Nat) : Int := if i = cs.length then (if v = [] then 1 else 0) else if cs.getD i [] ∈ v then 1 else 0
theorem col_same {cs v : List Str} (hn : cs.Nodup) (hp : pickE cs (-1) v = 0) {i : Nat} (hi : i ≤ cs.length) : colQ cs v v.length i = colR cs v i := by
 unfold colQ colR
 by_cases h : i = cs.length
 ·rw [if_pos h, if_pos h]
 ·have hi2 : i < cs.length := by omega
  rw [if_neg h, if_neg h, List.take_length, pickE_cnt hn hi2 hp]
  simp only [List.getD, List.getElem?_eq_getElem hi2, Option.getD_some]
  split <;> rfl
/-- The reference's counts. -/
def talG (cs : List Str) (f : Str) (xs : List CodR) (i : Nat) : Int := (xs.map fun x => colR cs (chIn x.vals f) i).sum
theorem talG_snoc (cs : List Str) (f : Str) {xs : List CodR} {k : Nat} (h : k < xs.length) : talG cs f (xs.take (k + 1)) = fun i => talG cs f (xs.take k) i + colR cs (chIn xs[k].vals f) i := by
 funext i
 unfold talG
 rw [List.take_succ_eq_append_getElem h, List.map_append, List.sum_append]
 simp
theorem colR_bd (cs v : List Str) (i : Nat) : 0 ≤ colR cs v i ∧ colR cs v i ≤ 1 := by
 unfold colR
 split
 ·split <;> omega
 ·split <;> omega
theorem talG_bd (cs : List Str) (f : Str) (i : Nat) : ∀ (xs : List CodR), 0 ≤ talG cs f xs i ∧ talG cs f xs i ≤ (xs.length : Int)
 | [] => by simp [talG]
 | x :: t => by
  have h1 := talG_bd cs f i t
  have h2 := colR_bd cs (chIn x.vals f) i
  have e : talG cs f (x :: t) i = colR cs (chIn x.vals f) i + talG cs f t i := by simp [talG]
  rw [e, List.length_cons]
  omega
theorem tal_same {cs : List Str} {f : Str} (hn : cs.Nodup) {i : Nat} (hi : i ≤ cs.length) : ∀ {xs : List CodR}, (∀ x ∈ xs, pickE cs (-1) (chIn x.vals f) = 0) → talF cs f xs i = talG cs f xs i
 | [], _ => rfl
 | x :: t, h => by
  have h1 := tal_same (f := f) hn hi (xs := t) (fun y hy => h y (List.mem_cons_of_mem _ hy))
  have h2 := col_same hn (h x List.mem_cons_self) hi
  have e1 : talF cs f (x :: t) i = colQ cs (chIn x.vals f) (chIn x.vals f).length i + talF cs f t i := by simp [talF]
  have e2 : talG cs f (x :: t) i = colR cs (chIn x.vals f) i + talG cs f t i := by simp [talG]
  rw [e1, e2, h1, h2]
def midR (cs : List Str) (F : Nat → Int) (v : List Str) (q j : Nat) : Int := if j < q then F j + colR cs v j else F j
theorem midR_s (cs : List Str) (F : Nat → Int) (v : List Str) {q : Nat} (h : q < cs.length) : midR cs F v (q + 1) = fun j => if j = q then F q + (if cs[q] ∈ v then 1 else 0) else midR cs F v q j := by
 funext j
 unfold midR
 by_cases hj : j = q
 ·subst hj
  rw [if_pos rfl, if_pos (by omega)]
  unfold colR
  rw [if_neg (by omega)]
  simp [List.getD, h]
 ·rw [if_neg hj]
  by_cases h2 : j < q
  ·rw [if_pos (by omega), if_pos h2]
  ·rw [if_neg (by omega), if_neg h2]
theorem midR_e (cs : List Str) (F : Nat → Int) (v : List Str) : ∀ j, j < cs.length + 1 → (if j = cs.length then F cs.length + (if v = [] then 1 else 0) else midR cs F v cs.length j) = F j + colR cs v j := by
 intro j hj
 by_cases h : j = cs.length
 ·subst h; rw [if_pos rfl]; unfold colR; rw [if_pos rfl]
 ·rw [if_neg h]; unfold midR; rw [if_pos (by omega)]
theorem lay_nodup {L : LayR} (h : layE L = 0) {k : Nat} (hk : k < L.asks.length) : L.asks[k].ch.Nodup := by
 have ha : errsOf (askE L.asks) L.asks.length = 0 := by
  unfold layE at h
  split at h
  ·omega
  split at h
  ·omega
  split at h
  ·rename_i h1; exact absurd h h1
  ·rename_i h1; omega
 have h2 := errsFrom_0 (f := askE L.asks) ha k (by omega) hk
 unfold askE at h2
 simp only [List.getD, List.getElem?_eq_getElem hk, Option.getD_some] at h2
 split at h2
 ·omega
 split at h2
 ·omega
 split at h2
 ·omega
 split at h2
 ·omega
 split at h2
 ·rename_i h1; exact absurd h2 h1
 ·rename_i h1
  exact chsE_nodup (by omega)

end Go.Proofs.YtkkndblcejmmjaaGreatDoor
