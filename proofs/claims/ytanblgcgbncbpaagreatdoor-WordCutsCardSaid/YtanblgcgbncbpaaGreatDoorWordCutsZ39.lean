/- Texts of the proof of WordCuts, put together: LayInt, SorI, RunD, RunE, RunG, RunH, LayBld, LayB2, QuoA, WrdB, WrdC, WrdD, RunF, QuoB, DigA, DigB, ItmK, QrJ, LayWd, WrdR. -/
import Derived.Test.YtanblgcgbncbpaaGreatDoorWordCutsZ1
import Derived.Test.YtanblgcgbncbpaaGreatDoorWordCutsZ2
import Derived.Test.YtanblgcgbncbpaaGreatDoorWordCutsZ3
import Derived.Test.YtanblgcgbncbpaaGreatDoorWordCutsZ10
import Derived.Test.YtanblgcgbncbpaaGreatDoorWordCutsZ12
import Derived.Test.YtanblgcgbncbpaaGreatDoorWordCutsZ13
import Derived.Test.YtanblgcgbncbpaaGreatDoorWordCutsZ14
import Derived.Test.YtanblgcgbncbpaaGreatDoorWordCutsZ15
import Derived.Test.YtanblgcgbncbpaaGreatDoorWordCutsZ17
import Derived.Test.YtanblgcgbncbpaaGreatDoorWordCutsZ21
import Derived.Test.YtanblgcgbncbpaaGreatDoorWordCutsZ24
import Derived.Test.YtanblgcgbncbpaaGreatDoorWordCutsZ28
import Derived.Test.YtanblgcgbncbpaaGreatDoorWordCutsZ31
import Derived.Test.YtanblgcgbncbpaaGreatDoorWordCutsZ34
import Derived.Ground.NamesProg
import Derived.Shelf.Sort.Plain
import Derived.Shelf.Slices.In.SortNone
import Derived.Ground.Names2Prog
import Derived.Shelf.Slices.CompactI
import Derived.Test.YtanblgcgbncbpaaGreatDoorProg
import Derived.Sort.OwnSorted
import Derived.Deep.RegionLaw
import Derived.Shelf.Strings.BuilderK
import Derived.Shelf.Strings.Repeat
import Derived.Shelf.Strings.Prefix
import Derived.Deep.DeepCutAuto
import Derived.Deep.CutBlock
import Derived.Deep.AppendLies
import Derived.Lib.AppendStr
import Derived.Laws.IdiomStrings
import Derived.Shelf.SlGeneric
import Derived.Ground.SlgnProg
import Derived.Shelf.SlicesQ.Reverse
import Derived.Ground.SlgqProg
import Derived.Shelf.SlicesQ.Equal
import Derived.Shelf.Small.Strs
/-
 DERIVED: THE SHELF's CONTRACTS AT THIS DUMP, IN PLAIN WORDS (tools/lay-plain.mjs out of 'YtanblgcgbncbpaaGreatDoorLayInt.lean', which tools/lay-shelf.mjs wrote): THE SAME DECLARATIONS UNDER THE SAME NAMES: 'import', 'namespace', 'open', 'def', 'theorem' AND NOTHING ELSE: no command of the shelf's: FOR A HAND-IN. Each laying: the table of numbers ('.._ren') and one theorem, a field a fact of the dump's own or the kernel's comparison; each contract: ONE APPLICATION.
-/
namespace Go.Proofs
open Go.Shelf
def Tryz.lays189_ren : Go.Shelf.Ren := ⟨fun | 189 => 213 | 125 => 104 | 257 => 227 | 128 => 145 | 129 => 146 | 294 => 237 | 295 => 238 | 296 => 239 | 297 => 240 | 298 => 241 | 299 => 242 | 216 => 243 | 300 => 244 | 301 => 245 | 328 => 249 | 329 => 172 | 330 => 173 | 331 => 250 | 332 => 251 | 215 => 105 | 343 => 254 | n => n, fun | 28 => 22 | 3 => 3 | 46 => 81 | 0 => 0 | 51 => 119 | 53 => 122 | 4 => 4 | 183 => 159 | 182 => 158 | 131 => 163 | 5 => 5 | 9 => 9 | 218 => 185 | 222 => 189 | 228 => 207 | 229 => 85 | n => n, fun | n => n⟩
theorem Tryz.lays189 : Go.Proofs.Lays.n189 Tryz.prog Tryz.lays189_ren := {
 mixed := by kernel_rfl
 f125 := Tryz.func104.trans (congrArg some (by kernel_rfl))
 f128 := Tryz.func145.trans (congrArg some (by kernel_rfl))
 f129 := Tryz.func146.trans (congrArg some (by kernel_rfl))
 f189 := Tryz.func213.trans (congrArg some (by kernel_rfl))
 f215 := Tryz.func105.trans (congrArg some (by kernel_rfl))
 f216 := Tryz.func243.trans (congrArg some (by kernel_rfl))
 f257 := Tryz.func227.trans (congrArg some (by kernel_rfl))
 f294 := Tryz.func237.trans (congrArg some (by kernel_rfl))
 f295 := Tryz.func238.trans (congrArg some (by kernel_rfl))
 f296 := Tryz.func239.trans (congrArg some (by kernel_rfl))
 f297 := Tryz.func240.trans (congrArg some (by kernel_rfl))
 f298 := Tryz.func241.trans (congrArg some (by kernel_rfl))
 f299 := Tryz.func242.trans (congrArg some (by kernel_rfl))
 f300 := Tryz.func244.trans (congrArg some (by kernel_rfl))
 f301 := Tryz.func245.trans (congrArg some (by kernel_rfl))
 f328 := Tryz.func249.trans (congrArg some (by kernel_rfl))
 f329 := Tryz.func172.trans (congrArg some (by kernel_rfl))
 f330 := Tryz.func173.trans (congrArg some (by kernel_rfl))
 f331 := Tryz.func250.trans (congrArg some (by kernel_rfl))
 f332 := Tryz.func251.trans (congrArg some (by kernel_rfl))
 f343 := Tryz.func254.trans (congrArg some (by kernel_rfl))
 t0 := Tryz.underlying0
 a0 := Tryz.isAgg0
 z0 := Tryz.sizeOf0
 v0 := Tryz.zeroValue0
 t3 := Tryz.underlying3
 a3 := Tryz.isAgg3
 z3 := Tryz.sizeOf3
 v3 := Tryz.zeroValue3
 t4 := Tryz.underlying4
 a4 := Tryz.isAgg4
 z4 := Tryz.sizeOf4
 v4 := Tryz.zeroValue4
 t5 := Tryz.underlying5
 a5 := Tryz.isAgg5
 z5 := Tryz.sizeOf5
 v5 := Tryz.zeroValue5
 t9 := Tryz.underlying9
 a9 := Tryz.isAgg9
 z9 := Tryz.sizeOf9
 v9 := Tryz.zeroValue9
 t28 := Tryz.underlying22
 a28 := Tryz.isAgg22
 z28 := Tryz.sizeOf22
 v28 := Tryz.zeroValue22
 t46 := Tryz.underlying81
 a46 := Tryz.isAgg81
 z46 := Tryz.sizeOf81
 v46 := Tryz.zeroValue81
 t51 := Tryz.underlying119
 a51 := Tryz.isAgg119
 z51 := Tryz.sizeOf119
 v51 := Tryz.zeroValue119
 t53 := Tryz.underlying122
 a53 := Tryz.isAgg122
 z53 := Tryz.sizeOf122
 v53 := Tryz.zeroValue122
 t131 := Tryz.underlying163
 a131 := Tryz.isAgg163
 z131 := Tryz.sizeOf163
 v131 := Tryz.zeroValue163
 t182 := Tryz.underlying158
 a182 := Tryz.isAgg158
 z182 := Tryz.sizeOf158
 v182 := Tryz.zeroValue158
 t183 := Tryz.underlying159
 a183 := Tryz.isAgg159
 z183 := Tryz.sizeOf159
 v183 := Tryz.zeroValue159
 t218 := Tryz.underlying185
 a218 := Tryz.isAgg185
 z218 := Tryz.sizeOf185
 v218 := Tryz.zeroValue185
 t222 := Tryz.underlying189
 a222 := Tryz.isAgg189
 z222 := Tryz.sizeOf189
 v222 := Tryz.zeroValue189
 t228 := Tryz.underlying207
 a228 := Tryz.isAgg207
 z228 := Tryz.sizeOf207
 v228 := Tryz.zeroValue207
 t229 := Tryz.underlying85
 a229 := Tryz.isAgg85
 z229 := Tryz.sizeOf85
 v229 := Tryz.zeroValue85 }
def Tryz.laysNm220_ren : Go.Shelf.Ren := ⟨fun | 20 => 214 | n => n, fun | 22 => 22 | 3 => 3 | 4 => 4 | 0 => 0 | n => n, fun | n => n⟩
theorem Tryz.laysNm220 : Go.Proofs.Lays2.n20 Tryz.prog Tryz.laysNm220_ren := {
 mixed := by kernel_rfl
 f20 := Tryz.func214.trans (congrArg some (by kernel_rfl))
 t0 := Tryz.underlying0
 a0 := Tryz.isAgg0
 z0 := Tryz.sizeOf0
 v0 := Tryz.zeroValue0
 t3 := Tryz.underlying3
 a3 := Tryz.isAgg3
 z3 := Tryz.sizeOf3
 v3 := Tryz.zeroValue3
 t4 := Tryz.underlying4
 a4 := Tryz.isAgg4
 z4 := Tryz.sizeOf4
 v4 := Tryz.zeroValue4
 t22 := Tryz.underlying22
 a22 := Tryz.isAgg22
 z22 := Tryz.sizeOf22
 v22 := Tryz.zeroValue22
 i3 := by kernel_rfl }
end Go.Proofs

/- slices.Sort, Compact of numbers that the call owns (the shelf's contracts in my words). -/
namespace Go.Proofs.YtanblgcgbncbpaaGreatDoor
set_option linter.unusedVariables false
set_option linter.unusedSimpArgs false
open Go.RowKit
open Go.Sort
section
variable {α : Type} [Inhabited α] {enc : α → Value} {w : World} {base g cap n : Nat} {e : TypeId} {os : Array Obj} {cur : Array Value} {ss ts : List α}
/-- The cells of an own row, as the shelf's contracts ask for them. -/
theorem holdsE (hb : w.heap[g]? = some (.cells cur e (0, 0))) (ht : cur.toList.take ss.length = ss.map enc) : Holds enc w g 0 ss.toArray := by
 intro j hj
 rw [List.size_toArray] at hj
 constructor
 ·have h : cur[j]? = some (enc ss[j]) := by
   rw [← Array.getElem?_toList, ← List.getElem?_take_of_lt hj, ht]
   simp [hj]
  simp [World.cell?, hb, h, hj]
 ·simp [World.frozen?, hb]
/-- Behind a call that has written the row anew: all else is as it was, and the slice owns the new elements. -/
theorem putE_mod (d : Array α) : Mod (fun k => k = g) w (grow (putRow enc (Sort.ahead w n) g 0 d) os) := by
 refine ⟨rfl, rfl, rfl, by simp, fun k hk hne => ?_⟩
 rw [heap_grow_old _ _ (by simpa using hk)]
 have hgk : g ≠ k := fun h => hne h.symm
 simp [putRow, mapBlock, Sort.ahead, Array.getElem?_modify, hgk]
theorem putE_own (hl : ts.length = ss.length) (hbase : base ≤ g) (hb : w.heap[g]? = some (.cells cur e (0, 0))) (h1 : ss.length ≤ cap) (h2 : cap ≤ maxLen) (h3 : cur.size = cap * 1) :
  (grow (putRow enc (Sort.ahead w n) g 0 ts.toArray) os).ownsRow base e 1 (.slice (some ⟨g, 0, none⟩) ss.length cap) ss.length (ts.map enc) := by
 have hnew : (grow (putRow enc (Sort.ahead w n) g 0 ts.toArray) os).heap[g]? = some (.cells (putCells enc 0 ts.toArray cur) e (0, 0)) := by
  rw [heap_grow_old _ _ (by simpa using (Array.getElem?_eq_some_iff.1 hb).1)]
  simp [putRow, mapBlock, Sort.ahead, Array.getElem?_modify, hb, onCells]
 refine ⟨by simp [hl], .inr ⟨g, cap, _, rfl, hbase, hnew, h1, h2, by simp [putCells, h3], ?_⟩⟩
 rw [Nat.mul_one, ← hl]
 refine List.ext_getElem? fun j => ?_
 rcases Nat.lt_or_ge j ts.length with hj | hj
 ·rw [List.getElem?_take_of_lt hj, Array.getElem?_toList]
  simp [putCells, hj, show j < cur.size by omega]
 ·rw [List.getElem?_take_eq_none hj, List.getElem?_eq_none (by simpa using hj)]
end
def ivQ (l : List Int) : List Value := l.map (.int .i64)
theorem ivQ_cast (l : List Nat) : ivQ (castI l) = nvQ l := castI_V l
def SameRowI (w : World) (base : Nat) (v : Value) (ss : List Int) (e : Ending) (w' : World) : Prop :=
 e = .returned (.tuple #[]) ∧ w'.ownsRow base 3 1 v ss.length (ivQ ss) ∧ Mod (fun k => v.ownBlock = some k) w w'
theorem sortI_calls (w : World) (v : Value) (n base : Nat) (ss : List Int) (hown : w.ownsRow base 3 1 v n (ivQ ss)) (hl : ss.length ≤ 100000000) :
  Calls Tryz.prog 213 #[v] w (SameRowI w base v (ss.mergeSort fun x y => decide (x ≤ y))) := by
 have hn : n = ss.length := by have := hown.1; simp [ivQ] at this; omega
 subst hn
 rcases hown.2 with ⟨rfl, h0⟩ | ⟨g, cap, cur, rfl, hbase, hb, h1, h2, h3, h4⟩
 ·have e : ss = [] := List.eq_nil_of_length_eq_zero h0
  subst e
  refine (Any.slices_Sort_int_none Tryz.lays189 none 0 w).mono ?_
  rintro e w' ⟨rfl, rfl⟩
  exact ⟨rfl, by simpa using hown, Mod.refl _ _⟩
 ·refine (Any.slices_Sort_int Tryz.lays189 g 0 cap ss w (holdsE hb (by simpa [ivQ] using h4)) (lt_of_heap hb) (by omega)).mono ?_
  rintro e w' ⟨rfl, nn, os, rfl⟩
  refine ⟨rfl, ?_, (putE_mod _).mono (fun k hk => by rw [hk]; rfl)⟩
  have := putE_own (enc := Value.int .i64) (n := nn) (os := os) (ts := ss.mergeSort fun x y => decide (x ≤ y)) (ss := ss) (by simp) hbase hb h1 h2 h3
  simpa [ivQ] using this
/-- What Compact hands back. -/
def CompactPostI (w : World) (base : Nat) (v : Value) (ss : List Int) (e : Ending) (w' : World) : Prop :=
 ∃ v', e = .returned v' ∧ w'.ownsRow base 3 1 v' (Lib.compact ss).length (ivQ (Lib.compact ss)) ∧ v'.ownBlock = v.ownBlock ∧ Mod (fun k => v.ownBlock = some k) w w'
theorem own_shrinkI {w : World} {base g cap n m : Nat} {e : TypeId} {xs : List Value} (h : w.ownsRow base e 1 (.slice (some ⟨g, 0, none⟩) n cap) n xs) (hm : m ≤ n) : w.ownsRow base e 1 (.slice (some ⟨g, 0, none⟩) m cap) m (xs.take m) := by
 rcases h.2 with ⟨h0, _⟩ | ⟨g', cap', cur, hv, hbase, hb, h1, h2, h3, h4⟩
 ·cases h0
 ·cases hv
  have := h.1
  refine ⟨by simp; omega, .inr ⟨g, cap, cur, rfl, hbase, hb, by omega, h2, h3, ?_⟩⟩
  rw [← h4, List.take_take]
  congr 1
  omega
theorem compactI_le (ss : List Int) : (Lib.compact ss).length ≤ ss.length := by
 unfold Lib.compact Lib.compactUpTo
 rw [List.length_map]
 have := List.length_filter_le (Lib.keeps ss.toArray) (List.range ss.length)
 simpa using this
theorem compactI_calls (w : World) (v : Value) (n base : Nat) (ss : List Int) (hown : w.ownsRow base 3 1 v n (ivQ ss)) (hl : ss.length ≤ 100000000) :
  Calls Tryz.prog 214 #[v] w (CompactPostI w base v ss) := by
 have hn : n = ss.length := by have := hown.1; simp [ivQ] at this; omega
 subst hn
 rcases hown.2 with ⟨rfl, h0⟩ | ⟨g, cap, cur, rfl, hbase, hb, h1, h2, h3, h4⟩
 ·have e : ss = [] := List.eq_nil_of_length_eq_zero h0
  subst e
  refine (Any.slices_Compact_int_empty Tryz.laysNm220 none 0 w).mono ?_
  rintro e w' ⟨rfl, rfl⟩
  exact ⟨_, rfl, hown, rfl, Mod.refl _ _⟩
 ·refine (Any.slices_Compact_int Tryz.laysNm220 g 0 cap ss w (holdsE hb (by simpa [ivQ] using h4)) (by omega) h1).mono ?_
  rintro e w' ⟨rfl, nn, rfl⟩
  have e0 : ∀ W : World, W = grow W #[] := fun W => by simp [grow]
  rw [e0 (putRow _ _ _ _ _)]
  have hcl := compactI_le ss
  refine ⟨_, rfl, ?_, rfl, (putE_mod _).mono (fun k hk => by rw [hk]; rfl)⟩
  have h := putE_own (enc := Value.int .i64) (n := nn) (os := #[]) (ts := Lib.compact ss ++ List.replicate (ss.length - (Lib.compact ss).length) 0) (ss := ss) (by simp; omega) hbase hb h1 h2 h3
  have h2 := own_shrinkI h hcl
  rw [List.map_append, List.take_left' (by simp)] at h2
  exact h2

end Go.Proofs.YtanblgcgbncbpaaGreatDoor

/- Rows of places that are being made, in memory. -/
namespace Go.Proofs.YtanblgcgbncbpaaGreatDoor
set_option linter.unusedVariables false
set_option linter.unusedSimpArgs false
open Go.RowKit
/-- The slices us read as the rows rs. -/
def RowsU (w : World) (us : List Value) (rs : List (List Nat)) : Prop := us.length = rs.length ∧ ∀ i, (h : i < rs.length) → ∃ u, us[i]? = some u ∧ Sl w 3 1 u (nvQ rs[i]) ∧ NilOkI u
/-- A row of rows that is being made: the first ones are there, the others are nil. -/
def OutB (w : World) (g : Nat) (us : List Value) (W : Nat) : Prop := Blk w g 22 (us ++ List.replicate (W - us.length) (Value.slice none 0 0)).toArray
def RnP (w : World) (W : Nat) (F : Nat → Nat → Bool) (e : Ending) (w' : World) : Prop := ∃ v, e = .returned v ∧ SlI w' v (rowsQ W F) ∧ Pure w w'
variable {w w' : World} {us : List Value} {rs : List (List Nat)} {u : Value} {r : List Nat} {W g : Nat}
theorem nilI : Sl w 3 1 (Value.slice none 0 0) (nvQ []) ∧ NilOkI (Value.slice none 0 0) := ⟨Sl.nil_, fun n c h => by cases h; exact ⟨rfl, rfl⟩⟩
theorem rowsQ_tail {W k : Nat} {F : Nat → Nat → Bool} (hk : k ≤ W) (h : ∀ i, k ≤ i → i < W → rowQ W (F i) = []) : (rowsQ W F).take k ++ List.replicate (W - k) [] = rowsQ W F := by
 refine List.ext_getElem (by simp [rowsQ_len]; omega) fun i h1 h2 => ?_
 rw [rowsQ_at]
 have hi : i < W := by rw [rowsQ_len] at h2; exact h2
 by_cases hlt : i < k
 ·rw [List.getElem_append_left (by simp [rowsQ_len]; omega), List.getElem_take, rowsQ_at]
 ·rw [List.getElem_append_right (by simp [rowsQ_len]; omega), List.getElem_replicate, h i (by omega) hi]
theorem OutB.all (h : OutB w g us W) (hl : us.length ≤ W) : OutB w g (us ++ List.replicate (W - us.length) (Value.slice none 0 0)) W := by
 unfold OutB at *
 rw [show W - (us ++ List.replicate (W - us.length) (Value.slice none 0 0)).length = 0 by simp; omega, List.replicate_zero, List.append_nil]
 exact h
theorem RowsU.nil : RowsU w [] [] := ⟨rfl, fun i h => absurd h (Nat.not_lt_zero _)⟩
theorem RowsU.snoc (h : RowsU w us rs) (hs : Sl w 3 1 u (nvQ r)) (hn : NilOkI u) : RowsU w (us ++ [u]) (rs ++ [r]) := by
 obtain ⟨h1, h2⟩ := h
 refine ⟨by simp [h1], fun i hi => ?_⟩
 by_cases hlt : i < rs.length
 ·obtain ⟨x, hx, a, b⟩ := h2 i hlt
  refine ⟨x, by rw [List.getElem?_append_left (by omega)]; exact hx, ?_, b⟩
  rw [List.getElem_append_left hlt]
  exact a
 ·have hi' : i = rs.length := by simp at hi; omega
  subst hi'
  refine ⟨u, by rw [← h1]; simp, ?_, hn⟩
  simpa using hs
theorem RowsU.nils (h : RowsU w us rs) : ∀ n, RowsU w (us ++ List.replicate n (Value.slice none 0 0)) (rs ++ List.replicate n [])
 | 0 => by simpa using h
 | n + 1 => by
  rw [List.replicate_succ', ← List.append_assoc, List.replicate_succ', ← List.append_assoc]
  exact (RowsU.nils h n).snoc (nilI (w := w)).1 (nilI (w := w)).2
theorem RowsU.mod {S : Nat → Prop} (h : RowsU w us rs) (hm : Mod S w w') (hs : ∀ g arr fr, w.heap[g]? = some (.cells arr 3 fr) → ¬ S g) : RowsU w' us rs :=
 ⟨h.1, fun i hi => by obtain ⟨x, hx, a, b⟩ := h.2 i hi; exact ⟨x, hx, a.mod hm hs, b⟩⟩
theorem RowsU.pure (h : RowsU w us rs) (hm : Pure w w') : RowsU w' us rs := h.mod hm (fun _ _ _ _ h => h)
/-- A store into a row of rows. -/
theorem RowsU.set {t : TypeId} {cs : Array Value} (h : RowsU w us rs) (hB : Blk w g t cs) (hne : 3 ≠ t) (j : Nat) (v : Value) : RowsU (w.setCell ⟨g, j, none⟩ v) us rs :=
 ⟨h.1, fun i hi => by obtain ⟨x, hx, a, b⟩ := h.2 i hi; exact ⟨x, hx, a.set_ne hB hne v, b⟩⟩
theorem OutB.lt (h : OutB w g us W) : g < w.heap.size := Blk.lt h
theorem OutB.mod {S : Nat → Prop} (h : OutB w g us W) (hm : Mod S w w') (hg : ¬ S g) : OutB w' g us W := Blk.mod h hm hg
theorem OutB.snoc {k : Nat} (h : OutB w g us W) (hk : k = us.length) (hl : us.length < W) (v : Value) : OutB (w.setCell ⟨g, k, none⟩ v) g (us ++ [v]) W := by
 subst hk
 have h1 := Blk.set h us.length v
 unfold OutB
 rw [show W - us.length = (W - (us ++ [v]).length) + 1 by simp; omega, List.replicate_succ] at h1
 have e : (us ++ Value.slice none 0 0 :: List.replicate (W - (us ++ [v]).length) (Value.slice none 0 0)).toArray.setIfInBounds us.length v = (us ++ [v] ++ List.replicate (W - (us ++ [v]).length) (Value.slice none 0 0)).toArray := by
  rw [List.setIfInBounds_toArray, List.set_append_right _ _ (Nat.le_refl _), Nat.sub_self, List.set_cons_zero, List.append_assoc]
  rfl
 rw [e] at h1
 exact h1
theorem OutB.cellk {k : Nat} (h : OutB w g us W) (hk : k = us.length) (hl : us.length < W) : w.cell? ⟨g, k, none⟩ = some (.slice none 0 0) ∧ w.frozen? ⟨g, k, none⟩ = false := by
 subst hk
 refine ⟨?_, Blk.frozen h _⟩
 rw [Blk.cell h, List.getElem?_toArray, List.getElem?_append_right (Nat.le_refl _), Nat.sub_self, List.getElem?_replicate, if_pos (by omega)]
theorem OutB.skip (h : OutB w g us W) (hl : us.length < W) : OutB w g (us ++ [Value.slice none 0 0]) W := by
 unfold OutB at *
 rw [show W - us.length = (W - (us ++ [Value.slice none 0 0]).length) + 1 by simp; omega, List.replicate_succ] at h
 rw [List.append_assoc]
 exact h
theorem OutB.new (w : World) (W : Nat) : OutB (w.alloc (.cells (List.replicate W (Value.slice none 0 0)).toArray 22)) w.heap.size [] W := by
 unfold OutB
 simpa using Blk.new w 22 (List.replicate W (Value.slice none 0 0)).toArray
/-- Rows that are whole, as a slice. -/
theorem OutB.sl (h : OutB w g us W) (hr : RowsU w us rs) (hW : rs.length = W) (hb : W ≤ 1000000) : SlI w (.slice (some ⟨g, 0, none⟩) W W) rs := by
 have hl := hr.1
 unfold OutB at h
 rw [show W - us.length = 0 by omega, List.replicate_zero, List.append_nil] at h
 exact ⟨us, ⟨_, _, _, rfl, Nat.le_refl _, by omega, by omega, fun _ => ⟨g, 0, rfl, h.row0⟩⟩, hl, hr.2⟩
theorem SlI.two {g : Nat} {u v : Value} {a b : List Nat} (h : Blk w g 22 #[u, v]) (hu : Sl w 3 1 u (nvQ a) ∧ NilOkI u) (hv : Sl w 3 1 v (nvQ b) ∧ NilOkI v) : SlI w (.slice (some ⟨g, 0, none⟩) 2 2) [a, b] := by
 refine ⟨[u, v], ⟨_, _, _, rfl, Nat.le_refl _, by omega, rfl, fun _ => ⟨g, 0, rfl, Blk.row0 h⟩⟩, rfl, fun i hi => ?_⟩
 match i, hi with
 | 0, _ => exact ⟨u, rfl, hu.1, hu.2⟩
 | 1, _ => exact ⟨v, rfl, hv.1, hv.2⟩
theorem own_NilOk {base n : Nat} {v : Value} {xs : List Value} (h : w.ownsRow base 3 1 v n xs) : NilOkI v := by
 intro m c hv
 rcases h.2 with ⟨h1, h2⟩ | ⟨g, cap, cur, h1, _⟩
 ·rw [h1] at hv; cases hv; exact ⟨rfl, rfl⟩
 ·rw [h1] at hv; cases hv

end Go.Proofs.YtanblgcgbncbpaaGreatDoor

/- both: the places of one or the other (package query). -/
namespace Go.Proofs.YtanblgcgbncbpaaGreatDoor
set_option linter.unusedVariables false
set_option linter.unusedSimpArgs false
open Go.RowKit
theorem own_baseI {w : World} {b1 b2 n s : Nat} {e : TypeId} {v : Value} {xs : List Value} (h : w.ownsRow b1 e s v n xs) (hb : b2 ≤ b1) : w.ownsRow b2 e s v n xs := by
 refine ⟨h.1, ?_⟩
 rcases h.2 with h | ⟨g, cap, cur, a, b, c⟩
 ·exact .inl h
 ·exact .inr ⟨g, cap, cur, a, by omega, c⟩
set_option maxRecDepth 100000 in
set_option maxHeartbeats 4000000 in
theorem both_calls (w : World) (va vb : Value) (W : Nat) (F G : Nat → Nat → Bool) (ha : SlI w va (rowsQ W F)) (hb : SlI w vb (rowsQ W G)) (hW : W ≤ 1000) : Calls Tryz.prog 194 #[va, vb] w (RnP w W (fun i j => F i j || G i j)) := by
 obtain ⟨Aa, ca, rfl, hca, hca2⟩ := ha.form
 obtain ⟨Ab, cb, rfl, hcb, hcb2⟩ := hb.form
 have HA := Lib.hid ha
 have HB := Lib.hid hb
 have hmk := run_make_one (P := Tryz.prog) 183 22 (.slice none 0 0) 24 Tryz.underlying183 info_intsQ rfl .i64 .i64 W (W : Int) rfl (by omega) (by omega) (Array.replicate W (Value.slice none 0 0)) (by simp)
 simp only [rowsQ_len] at *
 clear ha hb
 have HO := Lib.hid (OutB.new w W)
 have HM := Lib.hid (pure_alloc w (.cells (List.replicate W (Value.slice none 0 0)).toArray 22))
 rw [List.toArray_replicate] at HO HM
 go_enter Tryz.func194, Tryz.ntmps194
 go_wp2_with fail
 clear hmk
 have hgw := Nat.le_refl w.heap.size
 generalize (w.alloc (.cells (Array.replicate W (Value.slice none 0 0)) 22)) = w1 at *
 generalize hg : w.heap.size = g at *
 go_loopg [13] W (fun gk i wr => ∃ (k : Nat) (us : List Value), W - k = gk ∧ k ≤ W ∧ i = .int .i64 (k : Int) ∧ us.length = k ∧ OutB wr g us W ∧ RowsU wr us ((rowsQ W fun i j => F i j || G i j).take k) ∧ Pure w wr)
 case atStart => exact ⟨0, [], by omega, by omega, rfl, rfl, HO.out, RowsU.nil, HM.out⟩
 case round =>
  clear HO HM
  obtain ⟨k, us, rfl, hk, rfl, hul, hO, hR, hm⟩ := hrel
  by_cases hlt : k < W
  ·obtain ⟨ga, oa, A1, c1, rfl, qa, sa, na⟩ := (HA.out.pure hm).at (i := k) (by rw [rowsQ_len]; exact hlt)
   obtain ⟨gb, ob, A2, c2, rfl, qb, sb, nb⟩ := (HB.out.pure hm).at (i := k) (by rw [rowsQ_len]; exact hlt)
   rw [rowsQ_at] at qa qb sa sb na nb
   have HROW := Lib.hid (bothRow (W := W) (f := F k) (g := G k))
   have HLA := rowQ_len W (F k)
   have HLB := rowQ_len W (G k)
   have HTK : Hid ((rowsQ W fun i j => F i j || G i j).take (k + 1) = (rowsQ W fun i j => F i j || G i j).take k ++ [rowQ W fun j => F k j || G k j]) := Lib.hid (by
    rw [List.take_succ_eq_append_getElem (by rw [rowsQ_len]; exact hlt), rowsQ_at])
   have HSA := Lib.hid (And.intro sa na)
   have HSB := Lib.hid (And.intro sb nb)
   have HO := Lib.hid hO
   have HR := Lib.hid hR
   have HM := Lib.hid hm
   have HU := Lib.hid hul
   clear sa na sb nb hO hR hm hul
   generalize rowQ W (F k) = la at *
   generalize rowQ W (G k) = lb at *
   go_wp2_with fail
   have HGs := Lib.hid (show ∀ (D : Nat → Bool) (zzi : Nat) (zq zq' : World), (fun _ zq => (fun Z => Z.cell? ⟨ga, oa + k, none⟩ = some (.slice A1 la.length c1) ∧ Z.cell? ⟨gb, ob + k, none⟩ = some (.slice A2 lb.length c2) ∧ (Sl Z 3 1 (.slice A1 la.length c1) (nvQ la) ∧ NilOkI (.slice A1 la.length c1)) ∧ (Sl Z 3 1 (.slice A2 lb.length c2) (nvQ lb) ∧ NilOkI (.slice A2 lb.length c2))) zq) D zq → Mod (fun _ => False) zq zq' → (fun _ zq => (fun Z => Z.cell? ⟨ga, oa + k, none⟩ = some (.slice A1 la.length c1) ∧ Z.cell? ⟨gb, ob + k, none⟩ = some (.slice A2 lb.length c2) ∧ (Sl Z 3 1 (.slice A1 la.length c1) (nvQ la) ∧ NilOkI (.slice A1 la.length c1)) ∧ (Sl Z 3 1 (.slice A2 lb.length c2) (nvQ lb) ∧ NilOkI (.slice A2 lb.length c2))) zq) (upd D zzi true) zq' from by intro D zzi zq zq' h hm; (exact ⟨keepp h.1 hm, keepp h.2.1 hm, ⟨h.2.2.1.1.pure hm, h.2.2.1.2⟩, ⟨h.2.2.2.1.pure hm, h.2.2.2.2⟩⟩))
   refine wp_region_inv (by kernel_rfl) (by kernel_rfl) (InvF (R := Mod (fun _ => False)) [.is (.slice (some ⟨ga, oa, none⟩) W ca),
     .is (.int .i64 (k : Int)),
     .is (.pointer (some ⟨ga, oa + k, none⟩)),
     .is (.slice A1 la.length c1),
     .is (.slice (some ⟨gb, ob, none⟩) W cb),
     .is (.int .i64 (k : Int)),
     .is (.pointer (some ⟨gb, ob + k, none⟩)),
     .is (.slice A2 lb.length c2),
     ⟨fun zv zw => ∃ (g_8 : Nat), zv = .slice (some ⟨g_8, 0, none⟩) 2 2 ∧ wr.heap.size ≤ g_8 ∧ Blk zw g_8 22 #[.slice A1 la.length c1, .slice A2 lb.length c2], (by rintro zv zw zx ⟨g_8, rfl, c0, q0⟩ hm; exact ⟨g_8, rfl, c0, (q0.modp hm)⟩), none, some 9⟩,
     ⟨fun zv zw => ∃ (v_9 : Value) (n_9 : Nat), zv = v_9 ∧ zw.ownsRow wr.heap.size 3 1 v_9 n_9 (nvQ [la, lb].flatten), (by rintro zv zw zx ⟨v_9, n_9, hze, q0⟩ hm; exact ⟨v_9, n_9, hze, (own_pure q0 hm)⟩), none, none⟩,
     ⟨fun zv zw => ∃ (v_10 : Value) (n_10 : Nat), zv = v_10 ∧ zw.ownsRow wr.heap.size 3 1 v_10 n_10 (nvQ [la, lb].flatten), (by rintro zv zw zx ⟨v_10, n_10, hze, q0⟩ hm; exact ⟨v_10, n_10, hze, (own_pure q0 hm)⟩), none, none⟩]
     (PB wr (fun _ => False) wr.heap.size (fun _ zq => (fun Z => Z.cell? ⟨ga, oa + k, none⟩ = some (.slice A1 la.length c1) ∧ Z.cell? ⟨gb, ob + k, none⟩ = some (.slice A2 lb.length c2) ∧ (Sl Z 3 1 (.slice A1 la.length c1) (nvQ la) ∧ NilOkI (.slice A1 la.length c1)) ∧ (Sl Z 3 1 (.slice A2 lb.length c2) (nvQ lb) ∧ NilOkI (.slice A2 lb.length c2))) zq))) (InvF.start (PB.start (Mod.refl _ _) (Nat.le_refl _) (⟨qa, qb, HSA.out, HSB.out⟩))) ?_ ?_
   ·refine .cons ?_ (.cons ?_ (.cons ?_ (.cons ?_ (.cons ?_ (.cons ?_ (.cons ?_ (.cons ?_ (.cons ?_ (.cons ?_ (.cons ?_ .nil))))))))))
    ·intro D V zw1 a hR hI K hK
     obtain ⟨hM1, hB1, hG1⟩ := hI.1
     obtain ⟨hG1a, hG1b, hG1c, hG1d⟩ := hG1
     have ze0 := hR.frame.other (t := 0) (by kernel_rfl) rfl
     rw [if_pos (by rfl)]
     go_simp
     exact hK (.slice (some ⟨ga, oa, none⟩) W ca) _ (hI.next hR (by kernel_rfl) (Mod.refl _ _) (PB.quiet hI.1 (Mod.refl _ _) (HGs.out D 0 zw1 zw1 (hI.1).g (Mod.refl _ _))) (upd_same V 0 _))
    ·intro D V zw1 a hR hI K hK
     obtain ⟨hM1, hB1, hG1⟩ := hI.1
     obtain ⟨hG1a, hG1b, hG1c, hG1d⟩ := hG1
     have ze6 := hR.frame.other (t := 6) (by kernel_rfl) rfl
     rw [if_pos (by rfl)]
     go_simp
     exact hK (.int .i64 (k : Int)) _ (hI.next hR (by kernel_rfl) (Mod.refl _ _) (PB.quiet hI.1 (Mod.refl _ _) (HGs.out D 1 zw1 zw1 (hI.1).g (Mod.refl _ _))) (upd_same V 1 _))
    ·intro D V zw1 a hR hI K hK
     obtain ⟨hM1, hB1, hG1⟩ := hI.1
     obtain ⟨hG1a, hG1b, hG1c, hG1d⟩ := hG1
     have zd0 := hR.pred 0 (by kernel_rfl)
     have zF0 : V 0 = .slice (some ⟨ga, oa, none⟩) W ca := hI.2 0 zd0 rfl
     have zf0 := zF0; clear zF0
     have zd1 := hR.pred 1 (by kernel_rfl)
     have zF1 : V 1 = .int .i64 (k : Int) := hI.2 1 zd1 rfl
     have zf1 := zF1; clear zF1
     have ze16 := hR.frame.done (t := 16) (j := 0) (by kernel_rfl) hR.ok zd0
     have ze17 := hR.frame.done (t := 17) (j := 1) (by kernel_rfl) hR.ok zd1
     rw [if_pos (by rfl)]
     go_simp
     exact hK (.pointer (some ⟨ga, oa + k, none⟩)) _ (hI.next hR (by kernel_rfl) (Mod.refl _ _) (PB.quiet hI.1 (Mod.refl _ _) (HGs.out D 2 zw1 zw1 (hI.1).g (Mod.refl _ _))) (upd_same V 2 _))
    ·intro D V zw1 a hR hI K hK
     obtain ⟨hM1, hB1, hG1⟩ := hI.1
     obtain ⟨hG1a, hG1b, hG1c, hG1d⟩ := hG1
     have zd2 := hR.pred 2 (by kernel_rfl)
     have zF2 : V 2 = .pointer (some ⟨ga, oa + k, none⟩) := hI.2 2 zd2 rfl
     have zf2 := zF2; clear zF2
     have ze18 := hR.frame.done (t := 18) (j := 2) (by kernel_rfl) hR.ok zd2
     rw [if_pos (by rfl)]
     go_simp
     exact hK (.slice A1 la.length c1) _ (hI.next hR (by kernel_rfl) (Mod.refl _ _) (PB.quiet hI.1 (Mod.refl _ _) (HGs.out D 3 zw1 zw1 (hI.1).g (Mod.refl _ _))) (upd_same V 3 _))
    ·intro D V zw1 a hR hI K hK
     obtain ⟨hM1, hB1, hG1⟩ := hI.1
     obtain ⟨hG1a, hG1b, hG1c, hG1d⟩ := hG1
     have ze1 := hR.frame.other (t := 1) (by kernel_rfl) rfl
     rw [if_pos (by rfl)]
     go_simp
     exact hK (.slice (some ⟨gb, ob, none⟩) W cb) _ (hI.next hR (by kernel_rfl) (Mod.refl _ _) (PB.quiet hI.1 (Mod.refl _ _) (HGs.out D 4 zw1 zw1 (hI.1).g (Mod.refl _ _))) (upd_same V 4 _))
    ·intro D V zw1 a hR hI K hK
     obtain ⟨hM1, hB1, hG1⟩ := hI.1
     obtain ⟨hG1a, hG1b, hG1c, hG1d⟩ := hG1
     have ze6 := hR.frame.other (t := 6) (by kernel_rfl) rfl
     rw [if_pos (by rfl)]
     go_simp
     exact hK (.int .i64 (k : Int)) _ (hI.next hR (by kernel_rfl) (Mod.refl _ _) (PB.quiet hI.1 (Mod.refl _ _) (HGs.out D 5 zw1 zw1 (hI.1).g (Mod.refl _ _))) (upd_same V 5 _))
    ·intro D V zw1 a hR hI K hK
     obtain ⟨hM1, hB1, hG1⟩ := hI.1
     obtain ⟨hG1a, hG1b, hG1c, hG1d⟩ := hG1
     have zd4 := hR.pred 4 (by kernel_rfl)
     have zF4 : V 4 = .slice (some ⟨gb, ob, none⟩) W cb := hI.2 4 zd4 rfl
     have zf4 := zF4; clear zF4
     have zd5 := hR.pred 5 (by kernel_rfl)
     have zF5 : V 5 = .int .i64 (k : Int) := hI.2 5 zd5 rfl
     have zf5 := zF5; clear zF5
     have ze20 := hR.frame.done (t := 20) (j := 4) (by kernel_rfl) hR.ok zd4
     have ze21 := hR.frame.done (t := 21) (j := 5) (by kernel_rfl) hR.ok zd5
     rw [if_pos (by rfl)]
     go_simp
     exact hK (.pointer (some ⟨gb, ob + k, none⟩)) _ (hI.next hR (by kernel_rfl) (Mod.refl _ _) (PB.quiet hI.1 (Mod.refl _ _) (HGs.out D 6 zw1 zw1 (hI.1).g (Mod.refl _ _))) (upd_same V 6 _))
    ·intro D V zw1 a hR hI K hK
     obtain ⟨hM1, hB1, hG1⟩ := hI.1
     obtain ⟨hG1a, hG1b, hG1c, hG1d⟩ := hG1
     have zd6 := hR.pred 6 (by kernel_rfl)
     have zF6 : V 6 = .pointer (some ⟨gb, ob + k, none⟩) := hI.2 6 zd6 rfl
     have zf6 := zF6; clear zF6
     have ze22 := hR.frame.done (t := 22) (j := 6) (by kernel_rfl) hR.ok zd6
     rw [if_pos (by rfl)]
     go_simp
     exact hK (.slice A2 lb.length c2) _ (hI.next hR (by kernel_rfl) (Mod.refl _ _) (PB.quiet hI.1 (Mod.refl _ _) (HGs.out D 7 zw1 zw1 (hI.1).g (Mod.refl _ _))) (upd_same V 7 _))
    ·intro D V zw1 a hR hI K hK
     obtain ⟨hM1, hB1, hG1⟩ := hI.1
     obtain ⟨hG1a, hG1b, hG1c, hG1d⟩ := hG1
     have zd3 := hR.pred 3 (by kernel_rfl)
     have zF3 : V 3 = .slice A1 la.length c1 := hI.2 3 zd3 rfl
     have zf3 := zF3; clear zF3
     have zd7 := hR.pred 7 (by kernel_rfl)
     have zF7 : V 7 = .slice A2 lb.length c2 := hI.2 7 zd7 rfl
     have zf7 := zF7; clear zF7
     have ze19 := hR.frame.done (t := 19) (j := 3) (by kernel_rfl) hR.ok zd3
     have ze23 := hR.frame.done (t := 23) (j := 7) (by kernel_rfl) hR.ok zd7
     rw [if_pos (by rfl)]
     go_simp
     exact hK (_) _ (hI.next hR (by kernel_rfl) ((Mod.refl _ _).alloc _) (PB.quiet hI.1 (pure_alloc _ _) (HGs.out D 8 _ _ (hI.1).g ((Mod.refl _ _).alloc _))) (⟨_, upd_same V 8 _, (by omega), (Blk.new _ _ _)⟩))
    ·intro D V zw1 a hR hI K hK
     obtain ⟨hM1, hB1, hG1⟩ := hI.1
     obtain ⟨hG1a, hG1b, hG1c, hG1d⟩ := hG1
     have zd8 := hR.pred 8 (by kernel_rfl)
     have zF8 : ∃ (g_8 : Nat), V 8 = .slice (some ⟨g_8, 0, none⟩) 2 2 ∧ wr.heap.size ≤ g_8 ∧ Blk zw1 g_8 22 #[.slice A1 la.length c1, .slice A2 lb.length c2] := hI.2 8 zd8 (by show (!D 9) = true; rw [hR.not]; rfl)
     obtain ⟨g_8, zf8, c8_0, b8_0⟩ := zF8
     have ze24 := hR.frame.done (t := 24) (j := 8) (by kernel_rfl) hR.ok zd8
     rw [if_pos (by rfl)]
     go_simp
     refine (concatI_calls zw1 _ [la, lb] (SlI.two b8_0 hG1c hG1d) (by simp [lensI]; omega)).mono ?_
     rintro e zw2 ⟨v_0, n_0, rfl, hq, hm2⟩
     exact hK (v_0) _ (hI.next hR (by kernel_rfl) hm2 (PB.quiet hI.1 hm2 (HGs.out D 9 _ _ (hI.1).g hm2)) (⟨v_0, n_0, upd_same V 9 _, (own_baseI hq (by omega))⟩))
    ·intro D V zw1 a hR hI K hK
     obtain ⟨hM1, hB1, hG1⟩ := hI.1
     obtain ⟨hG1a, hG1b, hG1c, hG1d⟩ := hG1
     have zd9 := hR.pred 9 (by kernel_rfl)
     have zF9 : ∃ (v_9 : Value) (n_9 : Nat), V 9 = v_9 ∧ zw1.ownsRow wr.heap.size 3 1 v_9 n_9 (nvQ [la, lb].flatten) := hI.2 9 zd9 rfl
     obtain ⟨v_9, n_9, zf9, b9_0⟩ := zF9
     have ze25 := hR.frame.done (t := 25) (j := 9) (by kernel_rfl) hR.ok zd9
     rw [if_pos (by rfl)]
     go_simp
     exact hK (v_9) _ (hI.next hR (by kernel_rfl) (Mod.refl _ _) (PB.quiet hI.1 (Mod.refl _ _) (HGs.out D 10 zw1 zw1 (hI.1).g (Mod.refl _ _))) (⟨v_9, n_9, upd_same V 10 _, b9_0⟩))
   ·intro D V w2 hD hI
    obtain ⟨hM1, hB1, hG1⟩ := hI.1
    have hMx := hM1
    clear hM1
    have hBx := hB1
    clear hB1
    have hGx := hG1
    clear hG1
    have zF0 : V 0 = .slice (some ⟨ga, oa, none⟩) W ca := hI.2 0 (hD 0 (by decide)) rfl
    have zf0 := zF0; clear zF0
    have zF1 : V 1 = .int .i64 (k : Int) := hI.2 1 (hD 1 (by decide)) rfl
    have zf1 := zF1; clear zF1
    have zF2 : V 2 = .pointer (some ⟨ga, oa + k, none⟩) := hI.2 2 (hD 2 (by decide)) rfl
    have zf2 := zF2; clear zF2
    have zF3 : V 3 = .slice A1 la.length c1 := hI.2 3 (hD 3 (by decide)) rfl
    have zf3 := zF3; clear zF3
    have zF4 : V 4 = .slice (some ⟨gb, ob, none⟩) W cb := hI.2 4 (hD 4 (by decide)) rfl
    have zf4 := zF4; clear zF4
    have zF5 : V 5 = .int .i64 (k : Int) := hI.2 5 (hD 5 (by decide)) rfl
    have zf5 := zF5; clear zF5
    have zF6 : V 6 = .pointer (some ⟨gb, ob + k, none⟩) := hI.2 6 (hD 6 (by decide)) rfl
    have zf6 := zF6; clear zF6
    have zF7 : V 7 = .slice A2 lb.length c2 := hI.2 7 (hD 7 (by decide)) rfl
    have zf7 := zF7; clear zF7
    have zF9 : ∃ (v_9 : Value) (n_9 : Nat), V 9 = v_9 ∧ w2.ownsRow wr.heap.size 3 1 v_9 n_9 (nvQ [la, lb].flatten) := hI.2 9 (hD 9 (by decide)) rfl
    obtain ⟨v_9, n_9, zf9, b9_0⟩ := zF9
    have zF10 : ∃ (v_10 : Value) (n_10 : Nat), V 10 = v_10 ∧ w2.ownsRow wr.heap.size 3 1 v_10 n_10 (nvQ [la, lb].flatten) := hI.2 10 (hD 10 (by decide)) rfl
    obtain ⟨v_10, n_10, zf10, b10_0⟩ := zF10
    clear hI hD HGs
    simp only [frAll, Act.put, List.setIfInBounds_toArray, List.set_cons_zero, List.set_cons_succ, Nat.zero_add, Nat.reduceAdd, zf0, zf1, zf2, zf3, zf4, zf5, zf6, zf7, zf9, zf10]
    clear zf0 zf1 zf2 zf3 zf4 zf5 zf6 zf7 zf9 zf10
    generalize V 8 = u8
    clear V D
    have HOW := Lib.hid b10_0
    have hm2 := hMx
    have hg2 := HO.out.lt
    have hlen : (la ++ lb).length ≤ 2000 := by simp; omega
    rw [show ([la, lb].flatten : List Nat) = la ++ lb by simp] at HOW
    have hn : n_10 = (la ++ lb).length := by have := HOW.out.1; simp [nvQ] at this; simp; omega
    subst hn
    have HSO := Lib.hid (fun W0 (h : W0.ownsRow wr.heap.size 3 1 v_10 (la ++ lb).length (nvQ (la ++ lb))) => sortI_calls W0 v_10 _ _ (castI (la ++ lb)) (by rw [ivQ_cast]; exact h) (by rw [castI_len]; omega))
    have hob := Lib.hid (own_block HOW.out)
    have HM2 := Lib.hid hm2
    clear hMx hGx b10_0 qa qb HSA HSB hm2
    go_wp2_with fail
    refine (HSO.out _ HOW.out).mono ?_
    rintro e w3 ⟨rfl, hq, hm3⟩
    have HM3 : Hid (Pure wr w3) := Lib.hid (HM2.out.trans' hm3 (fun i hi hlt => by have := hob.out i hi; omega))
    have HCO := Lib.hid (compactI_calls w3 v_10 _ _ _ hq (by rw [List.length_mergeSort, castI_len]; omega))
    rw [show ((castI (la ++ lb)).mergeSort fun x y => decide (x ≤ y)) = (castI (la ++ lb)).mergeSort fun x y => decide (x ≤ y) from rfl] at HCO
    clear hq hm3 HSO HM2
    go_wp2_with fail
    refine HCO.out.mono ?_
    rintro e w4 ⟨v4, rfl, hq, hbk, hm4⟩
    obtain ⟨A4, n4, c4, rfl⟩ := (Sl.of_own hq).form
    rw [HROW.out, castI_len, ivQ_cast] at hq
    have HQ := Lib.hid hq
    have HM4 : Hid (Pure wr w4) := Lib.hid (HM3.out.trans' hm4 (fun i hi hlt => by have := hob.out i hi; omega))
    have HO4 := Lib.hid (HO.out.mod HM4.out (fun h => h))
    obtain ⟨x0, xf0⟩ := HO4.out.cellk HU.out.symm (by rw [HU.out]; exact hlt)
    clear hq hm4 HCO HM3 HO
    go_wp2_with fail
    go_roundg (W - (k + 1))
    case measure => omega
    case rel =>
     refine ⟨k + 1, us ++ [.slice A4 n4 c4], rfl, hlt, by simp, by simp [HU.out], HO4.out.snoc HU.out.symm (by rw [HU.out]; exact hlt) _, ?_, (HM.out.trans HM4.out).setCell (.inr (by show w.heap.size ≤ g; omega)) _⟩
     rw [HTK.out]
     exact ((HR.out.pure HM4.out).set HO4.out (by decide) _ _).snoc ((Sl.of_own HQ.out).set_ne HO4.out (by decide) _) (own_NilOk HQ.out)
  ·have hke : k = W := by omega
   subst hke
   go_wp2_with fail
   go_ret
   exact ⟨_, rfl, hO.sl (by rw [List.take_of_length_le (by rw [rowsQ_len]; omega)] at hR; exact hR) (rowsQ_len _ _) (by omega), hm⟩

end Go.Proofs.YtanblgcgbncbpaaGreatDoor

/- Rows of numbers that grow; tables whose cells are told by a function. -/
namespace Go.Proofs.YtanblgcgbncbpaaGreatDoor
set_option linter.unusedVariables false
set_option linter.unusedSimpArgs false
open Go.RowKit
theorem nvQ_one (l : List Nat) : ∀ u ∈ nvQ l, u.oneCell' = true := by
 intro u hu
 obtain ⟨x, _, rfl⟩ := List.mem_map.1 hu
 rfl
set_option maxRecDepth 100000 in
/-- append of a row of numbers to a row that is one's own. -/
theorem run_appI (w : World) (ty : TypeId) (base n : Nat) (v u : Value) (xs : List Value) (l : List Nat) (hown : w.ownsRow base 3 1 v n xs) (hu : Sl w 3 1 u (nvQ l)) (hn : NilOkI u) (hb : base ≤ w.heap.size) (hs : n + l.length ≤ 100000000) :
  ∃ A c w', (Builtin.append_ #[22, 22] ty #[v, u]).run Tryz.prog w = .ok (.slice A (n + l.length) c) w' ∧ w'.ownsRow base 3 1 (.slice A (n + l.length) c) (n + l.length) (xs ++ nvQ l) ∧ w.grownBy w' v.ownBlock ∧ ((Value.slice A (n + l.length) c).ownBlock = v.ownBlock ∨ (Value.slice A (n + l.length) c).ownBlock = some w.heap.size) := by
 obtain ⟨i0, hi0, hz0, hz1, hz2⟩ := info_parts info_intQ
 obtain ⟨A, m, c, rfl⟩ := hu.form
 obtain ⟨hm, hmc, _⟩ := hu.lenI
 rw [nvQ_len] at hm
 subst hm
 cases A with
 | none =>
  obtain ⟨h0, rfl⟩ := hn _ _ rfl
  have hl : l = [] := List.eq_nil_of_length_eq_zero h0
  subst hl
  have hr := run_append_owned_none (P := Tryz.prog) (w := w) base 22 ty 3 i0 1 Tryz.underlying22 hi0 v n xs hown
  obtain ⟨A, k, c, rfl⟩ := (Sl.of_own hown).form
  have hk := (Sl.of_own hown).lenI
  have h1 := hown.1
  obtain rfl : k = n := by omega
  exact ⟨A, c, w, by simpa using hr, by simpa [nvQ] using hown, ⟨rfl, rfl, rfl, Nat.le_refl _, fun _ _ _ => rfl⟩, .inl rfl⟩
 | some ad =>
  obtain ⟨_, _, _, e, _, _, _, hrow⟩ := hu
  cases e
  have hc : ∀ j u, (nvQ l)[j]? = some u → w.cell? (ad.add j) = some u := by
   intro j u hj
   have hjl : j < l.length := by
    rcases Nat.lt_or_ge j (nvQ l).length with h | h
    ·rwa [nvQ_len] at h
    ·rw [List.getElem?_eq_none h] at hj; cases hj
   obtain ⟨g3, o3, he3, hr3⟩ := hrow (by omega)
   injection he3 with he3
   subst he3
   have := hr3.cell hj
   unfold Addr.add
   split
   ·rename_i h0; subst h0; simpa using this
   ·exact this
  obtain ⟨v', w', hr, h2, h3, h4, h5⟩ := run_append_own_at (P := Tryz.prog) w base 22 ty 3 i0 _ 1 8 Tryz.underlying22 hi0 hz0 hz1 hz2 rfl (by omega) v n xs hown ad l.length c (nvQ l) (by rw [nvQ_len]; omega) hc (nvQ_one l) (by simp [maxLen]; omega) (by omega) hb
  obtain ⟨A, k, c', rfl⟩ := (Sl.of_own h2).form
  have hk := (Sl.of_own h2).lenI
  have h1 := h2.1
  obtain rfl : k = n + l.length := by omega
  exact ⟨A, c', w', hr, h2, h3, h5⟩ -- hb5
/-- A step of a region that draws: an append whose run is known. -/
theorem step_append_I {P : Program} {ops : Array Oper} {o : Oper} {a : Act} {w : World} {K : Act → World → Prop} {Q : Exit → Act → World → Prop} {E : Prop} (hg : o.guard = none) (s x : Operand) (t : TypeId)
  (hop : o.op = Op.call { callee := Callee.builtin Builtin.append, args := #[s, x], argTypes := #[t, t] }) (v u r : Value) (w' : World) (hs : a.eval s = v) (hx : a.eval x = u)
  (hr : (Builtin.append_ #[t, t] o.type #[v, u]).run P w = .ok r w') (hK : K (a.put o.dst r) w') : if Region.wanted o (yielded ops a.tmps) = true then Oper.wp P o a w K Q else E := by
 rw [if_pos (by simp [Region.wanted, hg])]
 unfold Oper.wp execOp
 simp only [hop, resolve, invoke, builtin, Sem.run_bind, Sem.run_pure, Result.andThen_ok, List.map_toArray, List.map_cons, List.map_nil, hs, hx, hr]
 exact hK
/-- A block of N cells, told by a function. -/
def RangeB (w : World) (g : Nat) (t : TypeId) (N : Nat) (f : Nat → Value) : Prop := Blk w g t ((List.range N).map f).toArray
variable {w w' : World} {g N : Nat} {t : TypeId} {f : Nat → Value}
theorem RangeB.cell (h : RangeB w g t N f) {i : Nat} (hi : i < N) : w.cell? ⟨g, i, none⟩ = some (f i) := by
 rw [Blk.cell h, List.getElem?_toArray, List.getElem?_map, List.getElem?_range hi]
 rfl
theorem RangeB.frozen (h : RangeB w g t N f) (i : Nat) : w.frozen? ⟨g, i, none⟩ = false := Blk.frozen h i
theorem RangeB.lt (h : RangeB w g t N f) : g < w.heap.size := Blk.lt h
theorem RangeB.mod {S : Nat → Prop} (h : RangeB w g t N f) (hm : Mod S w w') (hg : ¬ S g) : RangeB w' g t N f := Blk.mod h hm hg
theorem RangeB.set (h : RangeB w g t N f) (i : Nat) (v : Value) : RangeB (w.setCell ⟨g, i, none⟩ v) g t N (upd f i v) := by
 have h1 := Blk.set h i v
 unfold RangeB
 have e : ((List.range N).map f).toArray.setIfInBounds i v = ((List.range N).map (upd f i v)).toArray := by
  rw [List.setIfInBounds_toArray]
  congr 1
  refine List.ext_getElem (by simp) fun j h1 h2 => ?_
  rw [List.getElem_set, List.getElem_map, List.getElem_map, List.getElem_range]
  unfold upd
  by_cases hj : i = j
  ·rw [if_pos hj, if_pos hj.symm]
  ·rw [if_neg hj, if_neg (fun h => hj h.symm)]
 rw [e] at h1
 exact h1
theorem RangeB.far (h : RangeB w g t N f) {p : Addr} (hp : g ≠ p.block) (v : Value) : RangeB (w.setCell p v) g t N f := Blk.far h hp v
theorem RangeB.new (w : World) (t : TypeId) (N : Nat) (z : Value) : RangeB (w.alloc (.cells (Array.replicate N z) t)) w.heap.size t N (fun _ => z) := by
 unfold RangeB
 have e : ((List.range N).map (fun _ : Nat => z)).toArray = Array.replicate N z := by
  rw [← List.toArray_replicate]
  congr 1
  refine List.ext_getElem (by simp) fun j h1 h2 => by simp
 rw [e]
 exact Blk.new w t _
theorem RangeB.alloc (h : RangeB w g t N f) (o : Obj) : RangeB (w.alloc o) g t N f := Blk.alloc h o
/-- The rows that have been made so far: those that are known read as told, the others are nil. -/
def KnwI (w : World) (bv : Nat → Value) (kf : Nat → Bool) (R : Nat → List Nat) (N : Nat) : Prop := ∀ e, e < N → (kf e = false → bv e = .slice none 0 0) ∧ (kf e = true → Sl w 3 1 (bv e) (nvQ (R e)) ∧ NilOkI (bv e))
theorem KnwI.mod {bv : Nat → Value} {kf : Nat → Bool} {R : Nat → List Nat} {S : Nat → Prop} (h : KnwI w bv kf R N) (hm : Mod S w w') (hs : ∀ g arr fr, w.heap[g]? = some (.cells arr 3 fr) → ¬ S g) : KnwI w' bv kf R N :=
 fun e he => ⟨(h e he).1, fun hk => ⟨((h e he).2 hk).1.mod hm hs, ((h e he).2 hk).2⟩⟩
theorem KnwI.pure {bv : Nat → Value} {kf : Nat → Bool} {R : Nat → List Nat} (h : KnwI w bv kf R N) (hm : Pure w w') : KnwI w' bv kf R N := h.mod hm (fun _ _ _ _ h => h)
theorem KnwI.add {bv : Nat → Value} {kf : Nat → Bool} {R : Nat → List Nat} {e : Nat} {v : Value} (h : KnwI w bv kf R N) (hs : Sl w 3 1 v (nvQ (R e))) (hn : NilOkI v) : KnwI w (upd bv e v) (upd kf e true) R N := by
 intro i hi
 by_cases h1 : i = e
 ·subst h1
  rw [upd_same, upd_same]
  exact ⟨fun h => (by cases h), fun _ => ⟨hs, hn⟩⟩
 ·rw [upd_ne _ _ h1, upd_ne _ _ h1]
  exact h i hi

end Go.Proofs.YtanblgcgbncbpaaGreatDoor

/- ahead: the places from one of a to one of b behind it (package query). -/
namespace Go.Proofs.YtanblgcgbncbpaaGreatDoor
set_option linter.unusedVariables false
set_option linter.unusedSimpArgs false
open Go.RowKit
theorem info_boolQ : (Tryz.prog.info? 4).map (fun i => (i.zero, i.size, i.bytes)) = some (some (.bool false), 1, 1) := by kernel_rfl
theorem upd_self {α : Type} (f : Nat → α) (e : Nat) : upd f e (f e) = f := by
 funext i
 unfold upd
 split
 ·rename_i h; rw [h]
 ·rfl
theorem upd_upd {α : Type} (f : Nat → α) (e : Nat) (a b : α) : upd (upd f e a) e b = upd f e b := by
 funext i
 unfold upd
 split <;> rfl
theorem upd_bool (kf : Nat → Bool) (e : Nat) : upd (fun i => Value.bool (kf i)) e (.bool true) = fun i => Value.bool (upd kf e true i) := by
 funext i
 unfold upd
 split <;> rfl
/-- The tables of ahead: what is behind each word, and whether it is known. -/
def TabI (w : World) (gB gK W : Nat) (bv : Nat → Value) (kf : Nat → Bool) (R : Nat → List Nat) : Prop := RangeB w gB 22 (W + 1) bv ∧ RangeB w gK 4 (W + 1) (fun e => .bool (kf e)) ∧ KnwI w bv kf R W
def BK (gB gK : Nat) : Nat → Prop := fun j => j = gB ∨ j = gK
theorem blk_int {w : World} {g : Nat} {t : TypeId} {N : Nat} {f : Nat → Value} (h : RangeB w g t N f) (hne : t ≠ 3) : ∀ g' arr fr, w.heap[g']? = some (.cells arr 3 fr) → ¬ g' = g := by
 intro g' arr fr hg e
 subst e
 unfold RangeB Blk at h
 rw [h] at hg
 injection hg with hg
 injection hg with _ hg
 exact hne hg
theorem bk_int {w : World} {gB gK W : Nat} {bv : Nat → Value} {kf : Nat → Bool} {R : Nat → List Nat} (h : TabI w gB gK W bv kf R) : ∀ g' arr fr, w.heap[g']? = some (.cells arr 3 fr) → ¬ BK gB gK g' := by
 rintro g' arr fr hg (e | e)
 ·exact blk_int h.1 (by decide) g' arr fr hg e
 ·exact blk_int h.2.1 (by decide) g' arr fr hg e
theorem TabI.pure {w w' : World} {gB gK W : Nat} {bv : Nat → Value} {kf : Nat → Bool} {R : Nat → List Nat} (h : TabI w gB gK W bv kf R) (hm : Pure w w') : TabI w' gB gK W bv kf R := ⟨h.1.mod hm (fun h => h), h.2.1.mod hm (fun h => h), h.2.2.pure hm⟩
/-- The rows of the table lie in blocks that are there, and in another one than a slice. -/
def AvI (w : World) (W : Nat) (bv : Nat → Value) (v : Value) : Prop := ∀ e, e < W → ∀ g, (bv e).ownBlock = some g → g < w.heap.size ∧ v.ownBlock ≠ some g
theorem AvI.big {w w' : World} {W : Nat} {bv : Nat → Value} {v : Value} (h : AvI w W bv v) (hs : w.heap.size ≤ w'.heap.size) : AvI w' W bv v := fun e he g hg => ⟨Nat.lt_of_lt_of_le (h e he g hg).1 hs, (h e he g hg).2⟩
theorem AvI.to {w : World} {W : Nat} {bv : Nat → Value} {v v' : Value} (h : AvI w W bv v) (hv : v'.ownBlock = v.ownBlock ∨ ∃ k, v'.ownBlock = some k ∧ w.heap.size ≤ k) : AvI w W bv v' := by
 intro e he g hg
 obtain ⟨h1, h2⟩ := h e he g hg
 refine ⟨h1, ?_⟩
 rcases hv with hv | ⟨k, hv, hk⟩
 ·rw [hv]; exact h2
 ·rw [hv]
  intro hh
  injection hh with hh
  omega
theorem AvI.nil {w : World} {W : Nat} {bv : Nat → Value} {v : Value} (h : AvI w W bv v) : AvI w W bv (.slice none 0 0) := fun e he g hg => ⟨(h e he g hg).1, fun hh => by cases hh⟩
theorem mod_setK (w : World) (g i : Nat) (v : Value) : Mod (· = g) w (w.setCell ⟨g, i, none⟩ v) := Mod.setCell (S := fun k => k = g) (p := ⟨g, i, none⟩) (Mod.refl _ _) (.inl rfl) v
theorem TabI.own {w w' : World} {gB gK W : Nat} {bv : Nat → Value} {kf : Nat → Bool} {R : Nat → List Nat} {v : Value} (h : TabI w gB gK W bv kf R) (ha : AvI w W bv v) (hm : Mod (fun k => v.ownBlock = some k) w w') (hB : v.ownBlock ≠ some gB) (hK : v.ownBlock ≠ some gK) : TabI w' gB gK W bv kf R :=
 ⟨h.1.mod hm hB, h.2.1.mod hm hK, fun e he => ⟨(h.2.2 e he).1, fun hk => ⟨((h.2.2 e he).2 hk).1.mod_ob hm (fun g hg => (ha e he g hg).2), ((h.2.2 e he).2 hk).2⟩⟩⟩
set_option maxRecDepth 100000 in
set_option maxHeartbeats 8000000 in
theorem ahead_calls (w : World) (va vb : Value) (W : Nat) (F G : Nat → Nat → Bool) (n : Int) (ha : SlI w va (rowsQ W F)) (hb : SlI w vb (rowsQ W G)) (hW : W ≤ 1000) (hn0 : 0 ≤ n) (hn1 : n ≤ 20) : Calls Tryz.prog 193 #[va, vb, .int .i64 n] w (RnP w W (cutB F G n W)) := by
 obtain ⟨Aa, ca, rfl, hca, hca2⟩ := ha.form
 obtain ⟨Ab, cb, rfl, hcb, hcb2⟩ := hb.form
 have HA := Lib.hid ha
 have HB := Lib.hid hb
 have hmk1 := run_make_one (P := Tryz.prog) 182 22 (.slice none 0 0) 24 Tryz.underlying182 info_intsQ rfl .i64 .i64 (W + 1) ((W : Int) + 1) (by omega) (by omega) (by omega) (Array.replicate (W + 1) (Value.slice none 0 0)) (by simp)
 have hmk2 := run_make_one (P := Tryz.prog) 218 4 (.bool false) 1 Tryz.underlying218 info_boolQ rfl .i64 .i64 (W + 1) ((W : Int) + 1) (by omega) (by omega) (by omega) (Array.replicate (W + 1) (Value.bool false)) (by simp)
 have hmk3 := run_make_one (P := Tryz.prog) 183 22 (.slice none 0 0) 24 Tryz.underlying183 info_intsQ rfl .i64 .i64 W (W : Int) rfl (by omega) (by omega) (Array.replicate W (Value.slice none 0 0)) (by simp)
 simp only [rowsQ_len] at *
 clear ha hb
 have HBB := Lib.hid (((RangeB.new w 22 (W + 1) (.slice none 0 0)).alloc (.cells (Array.replicate (W + 1) (Value.bool false)) 4)).alloc (.cells (Array.replicate W (Value.slice none 0 0)) 22))
 have HKK := Lib.hid ((RangeB.new (w.alloc (.cells (Array.replicate (W + 1) (Value.slice none 0 0)) 22)) 4 (W + 1) (.bool false)).alloc (.cells (Array.replicate W (Value.slice none 0 0)) 22))
 have HO := Lib.hid (OutB.new ((w.alloc (.cells (Array.replicate (W + 1) (Value.slice none 0 0)) 22)).alloc (.cells (Array.replicate (W + 1) (Value.bool false)) 4)) W)
 rw [List.toArray_replicate] at HO
 have HM : Hid (Pure w (((w.alloc (.cells (Array.replicate (W + 1) (Value.slice none 0 0)) 22)).alloc (.cells (Array.replicate (W + 1) (Value.bool false)) 4)).alloc (.cells (Array.replicate W (Value.slice none 0 0)) 22))) := Lib.hid ((((Mod.refl _ _).alloc _).alloc _).alloc _)
 go_enter Tryz.func193, Tryz.ntmps193
 go_wp2_with fail
 clear hmk1 hmk2 hmk3
 obtain ⟨gB, hgB⟩ : ∃ g, w.heap.size = g := ⟨_, rfl⟩
 have HSZ : Hid ((w.alloc (.cells (Array.replicate (W + 1) (Value.slice none 0 0)) 22)).heap.size = gB + 1 ∧ ((w.alloc (.cells (Array.replicate (W + 1) (Value.slice none 0 0)) 22)).alloc (.cells (Array.replicate (W + 1) (Value.bool false)) 4)).heap.size = gB + 1 + 1) := Lib.hid (by constructor <;> simp <;> omega)
 rw [hgB] at HBB
 rw [HSZ.out.1] at HKK
 rw [HSZ.out.2] at HO
 generalize (((w.alloc (.cells (Array.replicate (W + 1) (Value.slice none 0 0)) 22)).alloc (.cells (Array.replicate (W + 1) (Value.bool false)) 4)).alloc (.cells (Array.replicate W (Value.slice none 0 0)) 22)) = w1 at *
 try simp only [hgB]
 obtain ⟨gK, hgK⟩ : ∃ g, gB + 1 = g := ⟨_, rfl⟩
 rw [hgK] at HKK HO
 try simp only [hgK]
 obtain ⟨gO, hgO⟩ : ∃ g, gK + 1 = g := ⟨_, rfl⟩
 rw [hgO] at HO
 try simp only [hgO]
 have hl1 : w.heap.size ≤ gB := by omega
 have hl2 : gB < gK := by omega
 have hl3 : gK < gO := by omega
 clear hgB hgK hgO HSZ
 have HT : Hid (TabI w1 gB gK W (fun _ => .slice none 0 0) (fun _ => false) (fun e => rowQ W (behB G n W e))) := Lib.hid ⟨HBB.out, HKK.out, fun e he => ⟨fun _ => rfl, fun h => by cases h⟩⟩
 clear HBB HKK
 go_loopg [28] W (fun gk i wr => ∃ (k : Nat) (us : List Value) (bv : Nat → Value) (kf : Nat → Bool), W - k = gk ∧ k ≤ W ∧ i = .int .i64 (k : Int) ∧ us.length = k ∧ OutB wr gO us W ∧ RowsU wr us ((rowsQ W (cutB F G n W)).take k) ∧ TabI wr gB gK W bv kf (fun e => rowQ W (behB G n W e)) ∧ AvI wr W bv (.slice none 0 0) ∧ Pure w wr)
 case atStart => exact ⟨0, [], _, _, by omega, by omega, rfl, rfl, HO.out, RowsU.nil, HT.out, (fun e he g hg => by cases hg), HM.out⟩
 case round =>
  clear HO HM HT
  obtain ⟨k, us, bv, kf, rfl, hk, rfl, hul, hO, hR, hT, hAV, hm⟩ := hrel
  have HAV := Lib.hid hAV
  have HO := Lib.hid hO
  have HR := Lib.hid hR
  have HT := Lib.hid hT
  have HM := Lib.hid hm
  have HU := Lib.hid hul
  clear hO hR hT hm hul hAV
  generalize wr = w2 at *
  by_cases hlt : k < W
  ·obtain ⟨ga, oa, A1, c1, rfl, qa, sa, na⟩ := (HA.out.pure HM.out).at (i := k) (by rw [rowsQ_len]; exact hlt)
   rw [rowsQ_at] at qa sa na
   have HSA := Lib.hid sa
   have hcl := sa.lenI.2
   clear sa na
   have hgO2 := HO.out.lt
   have hgB2 := HT.out.1.lt
   have hgK2 := HT.out.2.1.lt
   have hral := rowQ_len W (F k)
   have hszw := HM.out.size
   go_wp2_with fail
   go_loopg [11, 36] (rowQ W (F k)).length (fun gk l i wx => ∃ (t : Nat) (A : Option Addr) (c : Nat) (bv : Nat → Value) (kf : Nat → Bool), (rowQ W (F k)).length - t = gk ∧ t ≤ (rowQ W (F k)).length ∧ i = .int .i64 (t : Int) ∧ l = .slice A (gatB F G n W k t).length c ∧ wx.ownsRow w2.heap.size 3 1 (.slice A (gatB F G n W k t).length c) (gatB F G n W k t).length (nvQ (gatB F G n W k t)) ∧ TabI wx gB gK W bv kf (fun e => rowQ W (behB G n W e)) ∧ AvI wx W bv (.slice A (gatB F G n W k t).length c) ∧ Mod (BK gB gK) w2 wx)
   case atStart => exact ⟨0, none, 0, bv, kf, by omega, by omega, rfl, rfl, ⟨rfl, .inl ⟨rfl, rfl⟩⟩, HT.out, HAV.out.nil, Mod.refl _ _⟩
   case round =>
    obtain ⟨t, A, c, bv2, kf2, rfl, ht, rfl, rfl, hown, hT, hA2, hm⟩ := hrel
    have HAX := Lib.hid hA2
    have HOW := Lib.hid hown
    have HTX := Lib.hid hT
    have HMX := Lib.hid hm
    have hgl := Nat.le_trans (gatB_len F G n W k t ht) (Nat.mul_le_mul (show t ≤ 1000 by omega) hW)
    clear hown hT hm hA2
    by_cases htl : t < (rowQ W (F k)).length
    ·have heW : (rowQ W (F k))[t] < W := (rowQ_mem.1 (List.getElem_mem htl)).1
     obtain ⟨g1, o1, hA1, hr1⟩ := (HSA.out.mod HMX.out (bk_int HT.out)).rowS (by omega)
     subst hA1
     have q1 := hr1.cell (nvQ_get _ t htl)
     have HGS := Lib.hid (gatB_succ F G n W k htl)
     have hgl2 := Nat.le_trans (gatB_len F G n W k (t + 1) htl) (Nat.mul_le_mul (show t + 1 ≤ 1000 by omega) hW)
     rw [HGS.out, List.length_append] at hgl2
     clear hr1
     generalize (rowQ W (F k))[t] = e at *
     have k1 := HTX.out.2.1.cell (show e < W + 1 by omega)
     have k2 := HTX.out.2.1.frozen e
     go_upto_if 44 with (fail)
     go_cut [] (fun wy => ∃ (bv3 : Nat → Value) (kf3 : Nat → Bool), kf3 e = true ∧ TabI wy gB gK W bv3 kf3 (fun e => rowQ W (behB G n W e)) ∧ AvI wy W bv3 (.slice A (gatB F G n W k t).length c) ∧ wy.ownsRow w2.heap.size 3 1 (.slice A (gatB F G n W k t).length c) (gatB F G n W k t).length (nvQ (gatB F G n W k t)) ∧ Mod (BK gB gK) w2 wy)
     case first =>
      cases hke : kf2 e
      ·rw [hke] at k1
       have hbe := (HTX.out.2.2 e heW).1 hke
       obtain ⟨S, hS⟩ : ∃ S, S = min (e + 2 + n.toNat) W := ⟨_, rfl⟩
       have hS1 : e + 1 ≤ S := by omega
       have hS2 : S ≤ W := by omega
       have hS3 : (S : Int) ≤ (e : Int) + 2 + n := by omega
       have hS4 : S = W ∨ (e : Int) + 1 + n < S := by omega
       have hS5 : (if ((W : Int) - 1) < ((e : Int) + 1 + n) then (W : Int) - 1 else (e : Int) + 1 + n) = (S : Int) - 1 := by split <;> omega
       have HBR := Lib.hid (behRow (B := G) (n := n) (W := W) (e := e) (s := S) hS2 hS1 hn0 hS3 hS4)
       clear hS hS3 hS4
       have hstK : Mod (BK gB gK) wr (wr.setCell ⟨gK, e, none⟩ (.bool true)) := (mod_setK wr gK e (.bool true)).mono (fun i hi => .inr hi)
       have HB3 : Hid (RangeB (wr.setCell ⟨gK, e, none⟩ (.bool true)) gB 22 (W + 1) bv2) := Lib.hid (HTX.out.1.far (by show gB ≠ gK; omega) _)
       have HK3 : Hid (RangeB (wr.setCell ⟨gK, e, none⟩ (.bool true)) gK 4 (W + 1) (fun i => .bool (upd kf2 e true i))) := Lib.hid (by rw [← upd_bool]; exact HTX.out.2.1.set e _)
       have HN3 := Lib.hid (HTX.out.2.2.mod hstK (bk_int HTX.out))
       have HO3 := Lib.hid (own_mod HOW.out hstK (fun g hg hh => by have := own_block HOW.out g hg; rcases hh with h | h <;> omega))
       have HM3 := Lib.hid (HMX.out.trans hstK)
       have HA3 := Lib.hid (HAX.out.big hstK.size)
       clear hstK
       go_upto_region 13 with (fail)
       generalize (wr.setCell ⟨gK, e, none⟩ (.bool true)) = w3 at *
       clear k1 k2 q1
       have hg3 := HB3.out.lt
       have hw3 := HM3.out.size
       go_wp2_with fail
       go_loopg [14] (S - (e + 1)) (fun gk x wz => ∃ (s : Nat) (A3 : Option Addr) (c3 : Nat), S - s = gk ∧ e + 1 ≤ s ∧ s ≤ S ∧ x = .int .i64 (s : Int) ∧ RangeB wz gB 22 (W + 1) (upd bv2 e (.slice A3 (catB G W e s).length c3)) ∧ wz.ownsRow w3.heap.size 3 1 (.slice A3 (catB G W e s).length c3) (catB G W e s).length (nvQ (catB G W e s)) ∧ Mod (· = gB) w3 wz)
       case atStart => exact ⟨e + 1, none, 0, by omega, Nat.le_refl _, hS1, by simp, by rw [catB_zero]; show RangeB _ _ _ _ (upd bv2 e (.slice none 0 0)); rw [← hbe, upd_self]; exact HB3.out, by rw [catB_zero]; exact ⟨rfl, .inl ⟨rfl, rfl⟩⟩, Mod.refl _ _⟩
       case round =>
        obtain ⟨s, A3, c3, rfl, hs1, hs2, rfl, hRB, hown3, hm⟩ := hrel
        have HRB := Lib.hid hRB
        have HOWN := Lib.hid hown3
        have HMZ := Lib.hid hm
        have hgz := hRB.lt
        have hsz := hm.size
        have hc1 := hRB.cell (show e < W + 1 by omega)
        rw [upd_same] at hc1
        have hc2 := hRB.frozen e
        clear hRB hown3 hm
        generalize wr = w4 at *
        by_cases hlt3 : s < S
        ·have hle : (s : Int) ≤ (S : Int) - 1 := by omega
         have HP4 : Hid (Pure w w4) := Lib.hid ((HM.out.trans' HM3.out (fun i hi hlt => by rcases hi with h | h <;> omega)).trans' HMZ.out (fun i hi hlt => by omega))
         obtain ⟨gb, ob, A2, c2, hAb, qb, sb, nb⟩ := (HB.out.pure HP4.out).at (i := s) (by rw [rowsQ_len]; omega)
         subst hAb
         rw [rowsQ_at] at qb sb nb
         have hcs := catB_len G W e (s - (e + 1))
         rw [show e + 1 + (s - (e + 1)) = s by omega] at hcs
         have hcs2 := Nat.le_trans hcs (Nat.mul_le_mul (show s - (e + 1) ≤ 1000 by omega) hW)
         have hrw := rowQ_len W (G s)
         have HCS := Lib.hid (catB_succ G W e s hs1)
         have hd : Pure w4 w4.drew := (Mod.refl _ _).drew
         obtain ⟨A5, c5, w5, hr5, hown5, hgrow5, hb5⟩ := run_appI w4.drew 22 w3.heap.size _ _ _ _ (rowQ W (G s)) (own_pure HOWN.out hd) (sb.pure hd) nb (by have := hd.size; omega) (by omega)
         have hob := own_block HOWN.out
         have hm5 : Mod (· = gB) w3 w5 := (HMZ.out.drew).trans' (mod_grown hgrow5) (fun i hi hlt => by have := hob i hi; omega)
         have hRB5 := (HRB.out.mod hd (fun h => h)).mod (mod_grown hgrow5) (fun h => by have := hob _ h; omega)
         have hd1 := hRB5.cell (show e < W + 1 by omega)
         rw [upd_same] at hd1
         have hd2 := hRB5.frozen e
         have HRB5 := Lib.hid hRB5
         have HR5 := Lib.hid hr5
         have HM5 := Lib.hid hm5
         have HO5 := Lib.hid hown5
         clear hcs hcs2 hb5 hob hm5 hRB5 hr5 hown5 hgrow5 sb nb hd
         generalize rowQ W (G s) = rs at *
         rw [← List.length_append, ← nvQ_append] at HO5
         rw [← List.length_append] at HR5
         have hi1 : (e : Int) < (W : Int) + 1 := by omega
         have hi2 : e < W + 1 := by omega
         have hi3 : (s : Int) < (W : Int) := by omega
         have hi4 : s < W := by omega
         have hi5 : (0 : Int) ≤ (e : Int) := by omega
         have hi6 : (0 : Int) ≤ (s : Int) := by omega
         go_upto_region 16 with (fail)
         go_region_law (refine step_append_I rfl (.tmp 67) (.tmp 71) 22 rfl _ _ _ _ (by simp [Act.eval, Act.put]) (by simp [Act.eval, Act.put]) HR5.out ?_)
         all_goals
          go_wp2_with fail
          go_roundg (S - (s + 1))
          case measure => omega
          case rel => exact ⟨s + 1, A5, c5, rfl, by omega, by omega, by simp, by rw [HCS.out, List.length_append]; have h := HRB5.out.set e (.slice A5 ((catB G W e s).length + rs.length) c5); rw [upd_upd] at h; exact h, by rw [HCS.out]; exact own_mod HO5.out (mod_setK _ _ _ _) (fun g hg hh => by have := own_block HO5.out g hg; omega), HM5.out.trans (mod_setK _ _ _ _)⟩
        ·obtain rfl : s = S := by omega
         have hle : ¬ ((s : Int) ≤ (s : Int) - 1) := by omega
         have hcs := catB_len G W e (s - (e + 1))
         rw [show e + 1 + (s - (e + 1)) = s by omega] at hcs
         have hcs2 := Nat.le_trans hcs (Nat.mul_le_mul (show s - (e + 1) ≤ 1000 by omega) hW)
         have HOB := Lib.hid (own_block HOWN.out)
         have HSO := Lib.hid (sortI_calls w4 _ _ _ (castI (catB G W e s)) (by rw [ivQ_cast]; exact HOWN.out) (by rw [castI_len]; omega))
         have HCL : Hid ((castI (catB G W e s)).length ≤ 1000000) := Lib.hid (by rw [castI_len]; exact hcs2)
         clear hcs hcs2 hs1 hs2 hlt3
         generalize hcat : catB G W e s = cat at *
         clear hcat
         go_wp2_with fail
         refine HSO.out.mono ?_
         rintro e' w5 ⟨rfl, hq, hm5⟩
         have HCO := Lib.hid (compactI_calls w5 _ _ _ _ hq (by rw [List.length_mergeSort]; have := HCL.out; omega))
         have HM5 : Hid (Mod (· = gB) w3 w5) := Lib.hid (HMZ.out.trans' hm5 (fun i hi hlt => by have := HOB.out i hi; omega))
         have hRB5 := HRB.out.mod hm5 (fun h => by have := HOB.out _ h; omega)
         have hd1 := hRB5.cell (show e < W + 1 by omega)
         rw [upd_same] at hd1
         have HRB5 := Lib.hid hRB5
         clear hq hm5 hRB5 HSO hc1 hc2
         go_wp2_with fail
         refine HCO.out.mono ?_
         rintro e' w6 ⟨v4, rfl, hq, hbk, hm6⟩
         obtain ⟨A6, n6, c6, rfl⟩ := (Sl.of_own hq).form
         rw [HBR.out, castI_len, ivQ_cast] at hq
         have HM6 : Hid (Mod (· = gB) w3 w6) := Lib.hid (HM5.out.trans' hm6 (fun i hi hlt => by have := HOB.out i hi; omega))
         have hRB6 := HRB5.out.mod hm6 (fun h => by have := HOB.out _ h; omega)
         have he1 := hRB6.cell (show e < W + 1 by omega)
         rw [upd_same] at he1
         have he2 := hRB6.frozen e
         have HRB6 := Lib.hid hRB6
         have HQ6 := Lib.hid hq
         clear hq hm6 hRB6 HCO hd1 HRB5 hbk
         go_wp2_with fail
         go_meet
         have hst := mod_setK w6 gB e (.slice A6 n6 c6)
         have hmf : Mod (· = gB) w3 (w6.setCell ⟨gB, e, none⟩ (.slice A6 n6 c6)) := HM6.out.trans hst
         have hown6 := own_mod HQ6.out hst (fun g hg hh => by have := own_block HQ6.out g hg; omega)
         have hint := blk_int HB3.out (by decide)
         have hRBf := HRB6.out.set e (.slice A6 n6 c6)
         rw [upd_upd] at hRBf
         refine ⟨upd bv2 e (.slice A6 n6 c6), upd kf2 e true, upd_same _ _ _, ⟨hRBf, HK3.out.mod hmf (by omega), KnwI.add (HN3.out.mod hmf hint) (Sl.of_own hown6) (own_NilOk hown6)⟩, ?_, own_mod HO3.out hmf (fun g hg hh => by have := own_block HO3.out g hg; omega), HM3.out.trans (hmf.mono (fun i hi => .inl hi))⟩
         intro e2 he2 g2 hg2
         by_cases hee : e2 = e
         ·subst hee
          rw [upd_same] at hg2
          obtain ⟨arr, harr⟩ := own_heap hown6 hg2
          have h1 := own_block HQ6.out _ hg2
          refine ⟨lt_of_heap harr, fun hh => ?_⟩
          obtain ⟨arr2, harr2⟩ := own_heap HO3.out hh
          have := lt_of_heap harr2
          omega
         ·rw [upd_ne _ _ hee] at hg2
          exact (HA3.out.big hmf.size) e2 he2 g2 hg2
      ·rw [hke] at k1
       go_wp2_with fail
       go_meet
       exact ⟨bv2, kf2, hke, HTX.out, HAX.out, HOW.out, HMX.out⟩
     case rest =>
      obtain ⟨bv3, kf3, hk3, hT3, hA3, hO3, hM3⟩ := hcut
      have HK3 := hk3
      obtain ⟨hs3, hn3⟩ := (hT3.2.2 e heW).2 hk3
      have c3 := hT3.1.cell (show e < W + 1 by omega)
      obtain ⟨Ae, ne, ce, hbe⟩ := hs3.form
      rw [hbe] at c3 hs3 hn3
      have hob := own_block hO3
      have hM3s := hM3.size
      obtain ⟨A5, c5, w5, hr5, hown5, hgrow5, hb5⟩ := run_appI wc 22 w2.heap.size _ _ _ _ (rowQ W (behB G n W e)) hO3 hs3 hn3 (by omega) (by omega)
      have HR5 := Lib.hid hr5
      have HT3 := Lib.hid hT3
      have HA3 := Lib.hid hA3
      have HM3 := Lib.hid hM3
      have HO5 := Lib.hid hown5
      have HG5 := Lib.hid (mod_grown hgrow5)
      have HB5 := Lib.hid hb5
      have HOB := Lib.hid hob
      clear hs3 hn3 hT3 hA3 hO3 hM3 hr5 hown5 hgrow5 hb5 hob k1 k2 q1 HTX HAX HOW HMX
      generalize wc = w4 at *
      rw [← List.length_append] at hgl2 HR5 HO5 HB5
      go_wp2_with (at_builtin; refine wpList_append_runI rfl (.tmp 87) (.tmp 91) _ _ rfl _ _ _ _ rfl rfl HR5.out ?_)
      go_roundg ((rowQ W (F k)).length - (t + 1))
      case measure => omega
      case rel =>
       have hob : ∀ g, (Value.slice A (gatB F G n W k t).length c).ownBlock = some g → ¬ BK gB gK g := fun g hg hh => by have := HOB.out g hg; rcases hh with h | h <;> omega
       refine ⟨t + 1, A5, c5, bv3, kf3, rfl, htl, by simp, by rw [HGS.out, List.length_append], by rw [HGS.out]; simpa [nvQ_append] using HO5.out, HT3.out.own HA3.out HG5.out (fun h => hob _ h (.inl rfl)) (fun h => hob _ h (.inr rfl)), ?_, HM3.out.trans' HG5.out (fun i hi hlt => by have := HOB.out _ hi; omega)⟩
       rw [HGS.out]
       refine (HA3.out.to ?_).big HG5.out.size
       rcases HB5.out with h | h
       ·exact .inl h
       ·exact .inr ⟨_, h, Nat.le_refl _⟩
    ·obtain rfl : t = (rowQ W (F k)).length := by omega
     have HCR := Lib.hid (cutRow (A := F) (B := G) (n := n) (W := W) (i := k))
     have HTK : Hid ((rowsQ W (cutB F G n W)).take (k + 1) = (rowsQ W (cutB F G n W)).take k ++ [rowQ W (cutB F G n W k)]) := Lib.hid (by
      rw [List.take_succ_eq_append_getElem (by rw [rowsQ_len]; exact hlt), rowsQ_at])
     have hszx := HMX.out.size
     have hob := Lib.hid (own_block HOW.out)
     have HSO := Lib.hid (sortI_calls wr _ _ _ (castI (gatB F G n W k (rowQ W (F k)).length)) (by rw [ivQ_cast]; exact HOW.out) (by rw [castI_len]; omega))
     have HGL : Hid ((castI (gatB F G n W k (rowQ W (F k)).length)).length ≤ 1000000) := Lib.hid (by rw [castI_len]; exact hgl)
     clear hgl
     generalize gatB F G n W k (rowQ W (F k)).length = gl at *
     generalize hra : (rowQ W (F k)).length = nra at *
     clear hra
     go_wp2_with fail
     refine HSO.out.mono ?_
     rintro e w3 ⟨rfl, hq, hm3⟩
     have HM3 : Hid (Mod (fun k => (Value.slice A gl.length c).ownBlock = some k) wr w3) := Lib.hid hm3
     have HCO := Lib.hid (compactI_calls w3 _ _ _ _ hq (by rw [List.length_mergeSort]; have := HGL.out; omega))
     clear hq hm3 HSO
     go_wp2_with fail
     refine HCO.out.mono ?_
     rintro e w4 ⟨v4, rfl, hq, hbk, hm4⟩
     obtain ⟨A4, n4, c4, rfl⟩ := (Sl.of_own hq).form
     rw [HCR.out, castI_len, ivQ_cast] at hq
     have HQ := Lib.hid hq
     have HM4 : Hid (Mod (fun k => (Value.slice A gl.length c).ownBlock = some k) wr w4) := Lib.hid (HM3.out.trans hm4)
     have HMX4 : Hid (Mod (BK gB gK) w2 w4) := Lib.hid (HMX.out.trans' HM4.out (fun i hi hlt => by have := hob.out _ hi; omega))
     have HO4 := Lib.hid (HO.out.mod HMX4.out (by rintro (h | h) <;> omega))
     have HR4 := Lib.hid (HR.out.mod HMX4.out (bk_int HT.out))
     have HT4 := Lib.hid (HTX.out.own HAX.out HM4.out (fun h => by have := hob.out _ h; omega) (fun h => by have := hob.out _ h; omega))
     have HM5 : Hid (Pure w w4) := Lib.hid (HM.out.trans' HMX4.out (fun i hi hlt => by rcases hi with h | h <;> omega))
     have HA4 := Lib.hid ((HAX.out.big HM4.out.size).nil)
     obtain ⟨x0, xf0⟩ := HO4.out.cellk HU.out.symm (by rw [HU.out]; exact hlt)
     have hw4 := HMX4.out.size
     clear hq hm4 HCO HM3 HO HR HTX HAX HMX HM HAV HSA HOW HT
     go_wp2_with fail
     go_roundg (W - (k + 1))
     case measure => omega
     case rel =>
      have hne : ∀ i, i = gO → ¬ BK gB gK i := fun i hi hh => by rcases hh with h | h <;> omega
      refine ⟨k + 1, us ++ [.slice A4 n4 c4], bv2, kf2, rfl, hlt, by simp, by simp [HU.out], HO4.out.snoc HU.out.symm (by rw [HU.out]; exact hlt) _, ?_, ⟨HT4.out.1.far (by show gB ≠ gO; omega) _, HT4.out.2.1.far (by show gK ≠ gO; omega) _, fun e he => ⟨(HT4.out.2.2 e he).1, fun hk => ⟨((HT4.out.2.2 e he).2 hk).1.set_ne HO4.out (by decide) _, ((HT4.out.2.2 e he).2 hk).2⟩⟩⟩, HA4.out.big (by simp), HM5.out.setCell (.inr (by show w.heap.size ≤ gO; omega)) _⟩
      rw [HTK.out]
      exact (HR4.out.set HO4.out (by decide) _ _).snoc ((Sl.of_own HQ.out).set_ne HO4.out (by decide) _) (own_NilOk HQ.out)
  ·have hke : k = W := by omega
   subst hke
   go_wp2_with fail
   go_ret
   exact ⟨_, rfl, HO.out.sl (by have h := HR.out; rw [List.take_of_length_le (by rw [rowsQ_len]; omega)] at h; exact h) (rowsQ_len _ _) (by omega), HM.out⟩

end Go.Proofs.YtanblgcgbncbpaaGreatDoor

/-
 DERIVED: THE SHELF's CONTRACTS AT THIS DUMP, IN PLAIN WORDS (tools/lay-plain.mjs out of 'YtanblgcgbncbpaaGreatDoorLayBld.lean', which tools/lay-shelf.mjs wrote): THE SAME DECLARATIONS UNDER THE SAME NAMES: 'import', 'namespace', 'open', 'def', 'theorem' AND NOTHING ELSE: no command of the shelf's: FOR A HAND-IN. Each laying: the table of numbers ('.._ren') and one theorem, a field a fact of the dump's own or the kernel's comparison; each contract: ONE APPLICATION.
-/
namespace Go.Proofs
open Go.Shelf
end Go.Proofs

/- The contracts of strings.Builder's writers, laid at this program. -/
namespace Go.Proofs.YtanblgcgbncbpaaGreatDoor
set_option linter.unusedVariables false
set_option linter.unusedSimpArgs false
open Go.RowKit Go.Shelf

end Go.Proofs.YtanblgcgbncbpaaGreatDoor

/- Quoted strings: quoted and Quote of package intake. -/
namespace Go.Proofs.YtanblgcgbncbpaaGreatDoor
set_option linter.unusedVariables false
set_option linter.unusedSimpArgs false
open Go.RowKit

theorem enc_ascii (c : Nat) (h : c < 128) : Utf8.encode (c : Int) = ⟨#[UInt8.ofNat c]⟩ := by
 have key : ∀ n : Fin 128, Utf8.encode (n.val : Int) = ⟨#[UInt8.ofNat n.val]⟩ := by decide +kernel
 exact key ⟨c, h⟩
def StrPost1 (w : World) (l : Str) (e : Ending) (w' : World) : Prop := e = .returned (.string ⟨l.toArray⟩) ∧ Pure w w'

/-- A builder at block b that holds the bytes l. -/
def IsB (w : World) (b : Nat) (l : Str) : Prop := Lib.IsBuilderF 141 5 b b (Lib.byteCells l) w ∧ b ≤ w.heap.size
theorem ownF_pure {w w' : World} {base n size : Nat} {e : TypeId} {v : Value} {xs : List Value} (h : w.ownsRowF base e size v n xs) (hm : Pure w w') : w'.ownsRowF base e size v n xs := by
 obtain ⟨h1, h2⟩ := h
 refine ⟨h1, ?_⟩
 rcases h2 with h2 | ⟨g, cap, cur, fz, hv, hg, hh, r⟩
 ·exact .inl h2
 ·exact .inr ⟨g, cap, cur, fz, hv, hg, (hm.block g (lt_of_heap hh) id).trans hh, r⟩
theorem IsB.pure {w w' : World} {b : Nat} {l : Str} (h : IsB w b l) (hm : Pure w w') : IsB w' b l := by
 obtain ⟨h1, h2⟩ := h
 have key : ∀ p, Lib.BuilderAtF 141 5 b b p (Lib.byteCells l) w → Lib.BuilderAtF 141 5 b b p (Lib.byteCells l) w' := by
  rintro p ⟨k1, v, k2, k3, k4⟩
  exact ⟨k1, v, (hm.block b (lt_of_heap k2) id).trans k2, ownF_pure k3 hm, k4⟩
 exact ⟨h1.elim (fun x => .inl (key _ x)) (fun x => .inr (key _ x)), Nat.le_trans h2 hm.size⟩
end Go.Proofs.YtanblgcgbncbpaaGreatDoor

/- Lower, small; words and patterns of the program. -/
namespace Go.Proofs.YtanblgcgbncbpaaGreatDoor
set_option linter.unusedVariables false
set_option linter.unusedSimpArgs false
open Go.RowKit

set_option maxRecDepth 100000 in
set_option maxHeartbeats 8000000 in
theorem lowerQ_calls (w : World) (s : Str) (hs : s.length ≤ 1000000) : Calls Tryz.prog 39 #[.string ⟨s.toArray⟩] w (StrPost1 w (lowS s)) := by
 have hcv := fun W s => Lib.run_convert_string_bytes (P := Tryz.prog) W 9 103 5 s Tryz.underlying9 Tryz.underlying103 Tryz.underlying5
 have hz : (⟨s.toArray⟩ : ByteArray).size = s.length := by simp [ByteArray.size]
 have hB := BufB.new w s
 have hP := bytes_pure w 5 ⟨s.toArray⟩
 obtain ⟨n, hn⟩ : ∃ n, n = s.length := ⟨_, rfl⟩
 rw [← hn] at hz hs
 have HN := Lib.hid hn
 clear hn
 go_enter Tryz.func39, Tryz.ntmps39
 go_wp2_with fail
 clear hcv
 generalize Lib.bytesWorld w 5 ⟨s.toArray⟩ = W0 at *
 generalize (Lib.bytesCells w 5 ⟨s.toArray⟩).size = cap at *
 generalize grownCap w n 0 5 = cp at *
 have HB := Lib.hid hB
 have HP := Lib.hid hP
 clear hB hP hz
 generalize hgg : w.heap.size = g at *
 have hge : w.heap.size ≤ g := Nat.le_of_eq hgg
 clear hgg
 go_loopg [10] n (fun gk i wr => ∃ k : Nat, n - k = gk ∧ k ≤ n ∧ i = .int .i64 (k : Int) ∧ BufB wr g cap (lowS (s.take k) ++ s.drop k) ∧ Mod (· = g) W0 wr)
 case atStart => exact ⟨0, by omega, by omega, rfl, by simpa [lowS] using HB.out, Mod.refl _ _⟩
 case round =>
  clear HB
  obtain ⟨k, rfl, hk, rfl, hb, hm⟩ := hrel
  by_cases hlt : k < n
  ·have hlt2 : k < s.length := by rw [← HN.out]; exact hlt
   have hkl : k < (lowS (s.take k) ++ s.drop k).length := by rw [lowS_len]; exact hlt2
   have hc := hb.cell hkl
   have hf := hb.frozen hkl
   have he : (lowS (s.take k) ++ s.drop k)[k] = s[k] := by
    have h := lowS_getD hlt2
    rw [List.getElem?_eq_getElem hkl] at h
    exact Option.some.inj h
   rw [he] at hc
   have HS := Lib.hid (lowS_step hlt2)
   have HM := Lib.hid hm
   have HSET := Lib.hid (fun c => hb.set hkl c)
   have hcb : s[k].toNat < 256 := s[k].toNat_lt
   have HLB := Lib.hid (lowB_nat s[k])
   have HSM := Lib.hid (fun (h : ¬ ((65 : Int) ≤ (s[k].toNat : Int) ∧ (s[k].toNat : Int) ≤ 90)) => lowB_same h)
   obtain ⟨c, hcc⟩ : ∃ c, s[k] = c := ⟨_, rfl⟩
   rw [hcc] at hc hcb HS HLB HSM he
   have hb2 : Hid (c = s[k]) := Lib.hid hcc.symm
   have HBB := Lib.hid hb
   clear hcc hb hm
   by_cases h1 : (65 : Int) ≤ (c.toNat : Int)
   ·by_cases h2 : (c.toNat : Int) ≤ 90
    ·have e := HLB.out
     rw [if_pos ⟨h1, h2⟩] at e
     have hw8 : IntKind.u8.wrap ((c.toNat : Int) + 32) = (c.toNat : Int) + 32 := by simp [IntKind.wrap, IntKind.bits, IntKind.signed]; omega
     have hnb := HSET.out (lowB c)
     rw [e, HS.out] at hnb
     have HNB := Lib.hid hnb
     have HM2 := Lib.hid (HM.out.setCell (p := ⟨g, k, none⟩) (.inl rfl) (.int .u8 ((c.toNat : Int) + 32)))
     clear hnb e HSET HLB HSM HS HBB he hkl
     generalize c.toNat = cn at *
     go_wp2_with fail
     go_roundg (n - (k + 1))
     case measure => omega
     case rel => exact ⟨k + 1, rfl, by omega, by simp, HNB.out, HM2.out⟩
    ·have e := HSM.out (fun h => h2 h.2)
     have HNB : Hid (BufB wr g cap (lowS (s.take (k + 1)) ++ s.drop (k + 1))) := Lib.hid (by
      rw [← HS.out, e]
      have h : (lowS (s.take k) ++ s.drop k).set k c = lowS (s.take k) ++ s.drop k := by
       rw [← he]
       exact List.set_getElem_self hkl
      rw [h]
      exact HBB.out)
     clear e HSET HLB HSM HS HBB he hkl
     generalize c.toNat = cn at *
     go_wp2_with fail
     go_roundg (n - (k + 1))
     case measure => omega
     case rel => exact ⟨k + 1, rfl, by omega, by simp, HNB.out, HM.out⟩
   ·have e := HSM.out (fun h => h1 h.1)
    have HNB : Hid (BufB wr g cap (lowS (s.take (k + 1)) ++ s.drop (k + 1))) := Lib.hid (by
     rw [← HS.out, e]
     have h : (lowS (s.take k) ++ s.drop k).set k c = lowS (s.take k) ++ s.drop k := by
      rw [← he]
      exact List.set_getElem_self hkl
     rw [h]
     exact HBB.out)
    clear e HSET HLB HSM HS HBB he hkl
    generalize c.toNat = cn at *
    go_wp2_with fail
    go_roundg (n - (k + 1))
    case measure => omega
    case rel => exact ⟨k + 1, rfl, by omega, by simp, HNB.out, HM.out⟩
  ·obtain rfl : k = n := by omega
   have e : lowS (s.take k) ++ s.drop k = lowS s := by
    rw [HN.out, List.take_length, List.drop_length, List.append_nil]
   rw [e] at hb
   have hl : (lowS s).length = k := by rw [HN.out]; simp [lowS]
   have HPW : Hid (Pure w wr) := Lib.hid (HP.out.trans' hm (fun i hi hlt => by omega))
   have hcv2 := run_convert_bytes_back (P := Tryz.prog) wr 103 9 5 ⟨g, 0, none⟩ cp (lowS s) Tryz.underlying103 Tryz.underlying5 Tryz.underlying9 (fun j hj => by
    have h := hb.cell hj
    by_cases h0 : j = 0
    ·subst h0; simpa [Addr.add] using h
    ·simpa [Addr.add, h0] using h)
   rw [hl] at hcv2
   clear hb hm e hl hlt
   go_wp2_with fail
   go_ret
   exact ⟨rfl, HPW.out⟩

set_option maxRecDepth 100000 in
set_option maxHeartbeats 8000000 in
theorem smallR_calls (w : World) (s : Str) (hs : s.length ≤ 1000000) : Calls Tryz.prog 41 #[.string ⟨s.toArray⟩] w (StrPost1 w (lowS s)) := by
 have hcv := fun W s => Lib.run_convert_string_bytes (P := Tryz.prog) W 9 103 5 s Tryz.underlying9 Tryz.underlying103 Tryz.underlying5
 have hz : (⟨s.toArray⟩ : ByteArray).size = s.length := by simp [ByteArray.size]
 have hB := BufB.new w s
 have hP := bytes_pure w 5 ⟨s.toArray⟩
 obtain ⟨n, hn⟩ : ∃ n, n = s.length := ⟨_, rfl⟩
 rw [← hn] at hz hs
 have HN := Lib.hid hn
 clear hn
 go_enter Tryz.func41, Tryz.ntmps41
 go_wp2_with fail
 clear hcv
 generalize Lib.bytesWorld w 5 ⟨s.toArray⟩ = W0 at *
 generalize (Lib.bytesCells w 5 ⟨s.toArray⟩).size = cap at *
 generalize grownCap w n 0 5 = cp at *
 have HB := Lib.hid hB
 have HP := Lib.hid hP
 clear hB hP hz
 generalize hgg : w.heap.size = g at *
 have hge : w.heap.size ≤ g := Nat.le_of_eq hgg
 clear hgg
 go_loopg [10] n (fun gk i wr => ∃ k : Nat, n - k = gk ∧ k ≤ n ∧ i = .int .i64 (k : Int) ∧ BufB wr g cap (lowS (s.take k) ++ s.drop k) ∧ Mod (· = g) W0 wr)
 case atStart => exact ⟨0, by omega, by omega, rfl, by simpa [lowS] using HB.out, Mod.refl _ _⟩
 case round =>
  clear HB
  obtain ⟨k, rfl, hk, rfl, hb, hm⟩ := hrel
  by_cases hlt : k < n
  ·have hlt2 : k < s.length := by rw [← HN.out]; exact hlt
   have hkl : k < (lowS (s.take k) ++ s.drop k).length := by rw [lowS_len]; exact hlt2
   have hc := hb.cell hkl
   have hf := hb.frozen hkl
   have he : (lowS (s.take k) ++ s.drop k)[k] = s[k] := by
    have h := lowS_getD hlt2
    rw [List.getElem?_eq_getElem hkl] at h
    exact Option.some.inj h
   rw [he] at hc
   have HS := Lib.hid (lowS_step hlt2)
   have HM := Lib.hid hm
   have HSET := Lib.hid (fun c => hb.set hkl c)
   have hcb : s[k].toNat < 256 := s[k].toNat_lt
   have HLB := Lib.hid (lowB_nat s[k])
   have HSM := Lib.hid (fun (h : ¬ ((65 : Int) ≤ (s[k].toNat : Int) ∧ (s[k].toNat : Int) ≤ 90)) => lowB_same h)
   obtain ⟨c, hcc⟩ : ∃ c, s[k] = c := ⟨_, rfl⟩
   rw [hcc] at hc hcb HS HLB HSM he
   have hb2 : Hid (c = s[k]) := Lib.hid hcc.symm
   have HBB := Lib.hid hb
   clear hcc hb hm
   by_cases h1 : (65 : Int) ≤ (c.toNat : Int)
   ·by_cases h2 : (c.toNat : Int) ≤ 90
    ·have e := HLB.out
     rw [if_pos ⟨h1, h2⟩] at e
     have hw8 : IntKind.u8.wrap ((c.toNat : Int) + 32) = (c.toNat : Int) + 32 := by simp [IntKind.wrap, IntKind.bits, IntKind.signed]; omega
     have hnb := HSET.out (lowB c)
     rw [e, HS.out] at hnb
     have HNB := Lib.hid hnb
     have HM2 := Lib.hid (HM.out.setCell (p := ⟨g, k, none⟩) (.inl rfl) (.int .u8 ((c.toNat : Int) + 32)))
     clear hnb e HSET HLB HSM HS HBB he hkl
     generalize c.toNat = cn at *
     go_wp2_with fail
     go_roundg (n - (k + 1))
     case measure => omega
     case rel => exact ⟨k + 1, rfl, by omega, by simp, HNB.out, HM2.out⟩
    ·have e := HSM.out (fun h => h2 h.2)
     have HNB : Hid (BufB wr g cap (lowS (s.take (k + 1)) ++ s.drop (k + 1))) := Lib.hid (by
      rw [← HS.out, e]
      have h : (lowS (s.take k) ++ s.drop k).set k c = lowS (s.take k) ++ s.drop k := by
       rw [← he]
       exact List.set_getElem_self hkl
      rw [h]
      exact HBB.out)
     clear e HSET HLB HSM HS HBB he hkl
     generalize c.toNat = cn at *
     go_wp2_with fail
     go_roundg (n - (k + 1))
     case measure => omega
     case rel => exact ⟨k + 1, rfl, by omega, by simp, HNB.out, HM.out⟩
   ·have e := HSM.out (fun h => h1 h.1)
    have HNB : Hid (BufB wr g cap (lowS (s.take (k + 1)) ++ s.drop (k + 1))) := Lib.hid (by
     rw [← HS.out, e]
     have h : (lowS (s.take k) ++ s.drop k).set k c = lowS (s.take k) ++ s.drop k := by
      rw [← he]
      exact List.set_getElem_self hkl
     rw [h]
     exact HBB.out)
    clear e HSET HLB HSM HS HBB he hkl
    generalize c.toNat = cn at *
    go_wp2_with fail
    go_roundg (n - (k + 1))
    case measure => omega
    case rel => exact ⟨k + 1, rfl, by omega, by simp, HNB.out, HM.out⟩
  ·obtain rfl : k = n := by omega
   have e : lowS (s.take k) ++ s.drop k = lowS s := by
    rw [HN.out, List.take_length, List.drop_length, List.append_nil]
   rw [e] at hb
   have hl : (lowS s).length = k := by rw [HN.out]; simp [lowS]
   have HPW : Hid (Pure w wr) := Lib.hid (HP.out.trans' hm (fun i hi hlt => by omega))
   have hcv2 := run_convert_bytes_back (P := Tryz.prog) wr 103 9 5 ⟨g, 0, none⟩ cp (lowS s) Tryz.underlying103 Tryz.underlying5 Tryz.underlying9 (fun j hj => by
    have h := hb.cell hj
    by_cases h0 : j = 0
    ·subst h0; simpa [Addr.add] using h
    ·simpa [Addr.add, h0] using h)
   rw [hl] at hcv2
   clear hb hm e hl hlt
   go_wp2_with fail
   go_ret
   exact ⟨rfl, HPW.out⟩

def wdC (x : Wd) : List Value := [.int .i64 (x.1.1 : Int), .int .i64 (x.1.2 : Int), .string ⟨x.2.toArray⟩]
def wdV (l : List Wd) : List Value := l.flatMap wdC
theorem wdV_len : ∀ l : List Wd, (wdV l).length = l.length * 3
 | [] => rfl
 | x :: t => by
  show (wdC x ++ wdV t).length = _
  rw [List.length_append, wdV_len t]
  simp [wdC]
  omega
theorem wdV_get : ∀ (l : List Wd) (i : Nat) (h : i < l.length), (wdV l)[i * 3]? = some (.int .i64 (l[i].1.1 : Int)) ∧ (wdV l)[i * 3 + 1]? = some (.int .i64 (l[i].1.2 : Int)) ∧ (wdV l)[i * 3 + 2]? = some (.string ⟨l[i].2.toArray⟩)
 | x :: t, 0, _ => ⟨rfl, rfl, rfl⟩
 | x :: t, i + 1, h => by
  have ih := wdV_get t i (by simpa using h)
  have e : wdV (x :: t) = wdC x ++ wdV t := rfl
  have hs : ∀ j, (wdV (x :: t))[(i + 1) * 3 + j]? = (wdV t)[i * 3 + j]? := fun j => by
   rw [e, List.getElem?_append_right (by simp [wdC]; omega)]
   congr 1
   simp [wdC]; omega
  exact ⟨(hs 0).trans ih.1, (hs 1).trans ih.2.1, (hs 2).trans ih.2.2⟩
theorem wdV_snoc (l : List Wd) (x : Wd) : wdV (l ++ [x]) = wdV l ++ wdC x := by simp [wdV]
theorem info_wd : (Tryz.prog.info? 36).map (fun i => (i.zero, i.size, i.bytes)) = some (some (.agg #[.int .i64 0, .int .i64 0, .string ⟨#[]⟩]), 3, 32) := by kernel_rfl
theorem ext_sub (l : Str) (a b : Nat) : (⟨l.toArray⟩ : ByteArray).extract a b = ⟨(subS l a b).toArray⟩ := by
 apply ByteArray.ext
 unfold subS
 simp only [ByteArray.data_extract, List.extract_toArray, List.extract_eq_take_drop]
 congr 1
 rw [List.drop_take]
def Wds (w : World) (v : Value) (l : List Wd) : Prop := Sl w 36 3 v (wdV l)
def WdsPost (w : World) (l : List Wd) (e : Ending) (w' : World) : Prop := ∃ v, e = .returned v ∧ w'.ownsRow w.heap.size 36 3 v l.length (wdV l) ∧ Pure w w'
def frI : Option Nat → Int
 | none => -1
 | some f => (f : Int)
def WlRel (w : World) (s : Str) (gk : Nat) (x f i : Value) (wr : World) : Prop :=
 ∃ (k : Nat) (l : List (Nat × Nat)) (fo : Option Nat) (A : Option Addr) (cap : Nat), s.length + 1 - k = gk ∧ k ≤ s.length + 1 ∧ i = .int .i64 (k : Int) ∧ f = .int .i64 (frI fo) ∧ x = .slice A l.length cap ∧ l.length ≤ k ∧ (k ≤ s.length → progW s k l fo) ∧ (k = s.length + 1 → l = spR s 0) ∧
  wr.ownsRow w.heap.size 36 3 (.slice A l.length cap) l.length (wdV (l.map (wdAt s))) ∧ Pure w wr
set_option maxRecDepth 100000 in
set_option maxHeartbeats 8000000 in
theorem words_calls (w : World) (s : Str) (hs : s.length ≤ 1000000) : Calls Tryz.prog 13 #[.string ⟨s.toArray⟩] w (WdsPost w (wordsQ s)) := by
 obtain ⟨i0, hi0, hz0, hz1, hz2⟩ := info_parts info_wd
 have hz : (⟨s.toArray⟩ : ByteArray).size = s.length := by simp [ByteArray.size]
 obtain ⟨n, hn⟩ : ∃ n, n = s.length := ⟨_, rfl⟩
 rw [← hn] at hz hs
 have HN := Lib.hid hn
 clear hn
 go_enter Tryz.func13, Tryz.ntmps13
 go_wp2_with fail
 go_loopg [3, 4, 5] (n + 1) (fun gk x f i wr => WlRel w s gk x f i wr)
 case atStart => exact ⟨0, [], none, none, 0, by rw [← HN.out]; omega, by omega, rfl, rfl, rfl, by simp, fun _ => progW_start s, fun h => by rw [← HN.out] at h; omega, ⟨rfl, .inl ⟨rfl, rfl⟩⟩, Mod.refl _ _⟩
 case round =>
  obtain ⟨k, l, fo, A, cap, hgk, hk, rfl, rfl, rfl, hlk, hpw, hend, hown, hm⟩ := hrel
  rw [← HN.out] at hgk hk
  subst hgk
  have HPW := Lib.hid hpw
  have HEND := Lib.hid hend
  have HO := Lib.hid hown
  have HM : Hid (Pure w wr) := Lib.hid hm
  clear hpw hend hown hm
  by_cases hkn : k ≤ n
  ·by_cases hlt : k < n
   ·have hlt2 : k < s.length := by rw [← HN.out]; exact hlt
    have hp := HPW.out (by omega)
    obtain ⟨bb, hbb⟩ : ∃ bb, letB s[k] = bb := ⟨_, rfl⟩
    have HC := Lib.hid (letter_calls s[k] wr)
    rw [hbb] at HC
    have HBB := Lib.hid hbb
    clear hbb
    have hi1 : -1 < (k : Int) := by omega
    go_wp2_with fail
    refine HC.out.mono ?_
    rintro e w2 ⟨rfl, rfl⟩
    clear HC
    cases bb with
    | true =>
     cases fo with
     | none =>
      have hf0 : frI none = -1 := rfl
      have HP2 := Lib.hid (progW_in hlt2 hp HBB.out)
      clear hp HPW HEND
      go_wp2_with fail
      go_roundg (n + 1 - (k + 1))
      case measure => omega
      case rel => exact ⟨k + 1, l, some k, A, cap, by rw [← HN.out], by omega, by simp, rfl, rfl, by omega, fun _ => HP2.out, fun h => by rw [← HN.out] at h; omega, HO.out, HM.out⟩
     | some f =>
      have hf0 : frI (some f) = (f : Int) := rfl
      have hf1 : ¬ (f : Int) < 0 := by omega
      have HP2 := Lib.hid (progW_on hlt2 hp HBB.out)
      clear hp HPW HEND
      go_wp2_with fail
      go_roundg (n + 1 - (k + 1))
      case measure => omega
      case rel => exact ⟨k + 1, l, some f, A, cap, by rw [← HN.out], by omega, by simp, rfl, rfl, by omega, fun _ => HP2.out, fun h => by rw [← HN.out] at h; omega, HO.out, HM.out⟩
    | false =>
     cases fo with
     | none =>
      have hf0 : frI none = -1 := rfl
      have HP2 := Lib.hid (progW_off hlt2 hp HBB.out)
      clear hp HPW HEND
      go_wp2_with fail
      go_roundg (n + 1 - (k + 1))
      case measure => omega
      case rel => exact ⟨k + 1, l, none, A, cap, by rw [← HN.out], by omega, by simp, rfl, rfl, by omega, fun _ => HP2.out, fun h => by rw [← HN.out] at h; omega, HO.out, HM.out⟩
     | some f =>
      have hf0 : frI (some f) = (f : Int) := rfl
      have hf1 : (0 : Int) ≤ (f : Int) := by omega
      have hfk : f < k := hp.1
      have HP2 := Lib.hid (progW_out hlt2 hp HBB.out)
      have HLW := Lib.hid (fun W => lowerQ_calls W (subS s f k) (by unfold subS; rw [List.length_drop, List.length_take]; omega))
      have HEX : Hid ((⟨s.toArray⟩ : ByteArray).extract f k = ⟨(subS s f k).toArray⟩) := Lib.hid (ext_sub s f k)
      have HWD : Hid (wdV ((l ++ [(f, k)]).map (wdAt s)) = wdV (l.map (wdAt s)) ++ [.int .i64 (f : Int), .int .i64 (k : Int), .string ⟨(lowS (subS s f k)).toArray⟩]) := Lib.hid (by rw [List.map_append, List.map_singleton, wdV_snoc]; rfl)
      clear hp HPW HEND
      go_wp2_with fail
      rw [HEX.out]
      refine (HLW.out _).mono ?_
      rintro e w3 ⟨rfl, hm3⟩
      have HO3 := Lib.hid (own_pure HO.out hm3)
      have HM3 : Hid (Pure w w3) := Lib.hid (HM.out.trans hm3)
      clear hm3 HLW HEX HO HM
      generalize lowS (subS s f k) = lw at *
      have hownS := HO3.out
      have hmS := HM3.out
      clear HO3
      generalize hln : l.length = ln at hownS hlk ⊢
      have HLN := Lib.hid hln
      clear hln
      go_wp2_with (at_builtin; refine wpList_append_lies _ rfl _ _ _ rfl w.heap.size 36 i0 _ 3 32 Tryz.underlying30 hi0 hz0 hz1 hz2 rfl (by omega) (.slice A ln cap) ln (wdV (l.map (wdAt s))) rfl (hownS.alloc _) ⟨w3.heap.size, 0, none⟩ 1 1 [.int .i64 (f : Int), .int .i64 (k : Int), .string ⟨lw.toArray⟩] rfl rfl (World.news_of_block (cs := #[.int .i64 (f : Int), .int .i64 (k : Int), .string ⟨lw.toArray⟩]) (t := 36) (fr := (0, 0)) (heap_alloc_new w3 _)) (by simp [Value.oneCell']) (by omega) (by simp [maxLen]; omega) (by omega) (by have := hmS.size; simp; omega) (w3.heap.size + 1) (by simp) ?_; intro g5 cap5 w5 hown5 hgrow hat hlt5)
      have HP5 : Hid (Pure w w5) := Lib.hid ((hmS.alloc (.cells #[.int .i64 (f : Int), .int .i64 (k : Int), .string ⟨lw.toArray⟩] 36)).trans' (mod_grown hgrow) (fun i hi hlt => by have := own_block (hownS.alloc (.cells #[.int .i64 (f : Int), .int .i64 (k : Int), .string ⟨lw.toArray⟩] 36)) i hi; omega))
      go_roundg (n + 1 - (k + 1))
      case measure => omega
      case rel =>
       refine ⟨k + 1, l ++ [(f, k)], none, some ⟨g5, 0, none⟩, cap5, by rw [← HN.out], by omega, by simp, rfl, by rw [List.length_append, HLN.out]; rfl, by rw [List.length_append, HLN.out]; simp; omega, fun _ => HP2.out, fun h => by rw [← HN.out] at h; omega, ?_, HP5.out⟩
       rw [HWD.out, List.length_append, HLN.out]
       exact hown5
   ·obtain rfl : k = n := by omega
    have hp := HPW.out (by rw [← HN.out]; omega)
    have hi1 : -1 < (k : Int) := by omega
    have hll : ¬ (k : Int) < (k : Int) := by omega
    cases fo with
    | none =>
     have hf0 : frI none = -1 := rfl
     have HE2 : Hid (l = spR s 0) := Lib.hid (progW_end (by rw [← HN.out]; exact hp))
     clear hp HPW HEND
     go_wp2_with fail
     go_roundg (k + 1 - (k + 1))
     case measure => omega
     case rel => exact ⟨k + 1, l, none, A, cap, by rw [← HN.out], by rw [← HN.out]; omega, by simp, rfl, rfl, by omega, fun h => by rw [← HN.out] at h; omega, fun _ => HE2.out, HO.out, HM.out⟩
    | some f =>
      have hf0 : frI (some f) = (f : Int) := rfl
      have hf1 : (0 : Int) ≤ (f : Int) := by omega
      have hfk : f < k := hp.1
      have HP2 : Hid (l ++ [(f, k)] = spR s 0) := Lib.hid (by
       have h := progW_endW (s := s) (l := l) (f := f) (by rw [← HN.out]; exact hp)
       rw [← HN.out] at h
       exact h)
      have HLW := Lib.hid (fun W => lowerQ_calls W (subS s f k) (by unfold subS; rw [List.length_drop, List.length_take]; omega))
      have HEX : Hid ((⟨s.toArray⟩ : ByteArray).extract f k = ⟨(subS s f k).toArray⟩) := Lib.hid (ext_sub s f k)
      have HWD : Hid (wdV ((l ++ [(f, k)]).map (wdAt s)) = wdV (l.map (wdAt s)) ++ [.int .i64 (f : Int), .int .i64 (k : Int), .string ⟨(lowS (subS s f k)).toArray⟩]) := Lib.hid (by rw [List.map_append, List.map_singleton, wdV_snoc]; rfl)
      clear hp HPW HEND
      go_wp2_with fail
      rw [HEX.out]
      refine (HLW.out _).mono ?_
      rintro e w3 ⟨rfl, hm3⟩
      have HO3 := Lib.hid (own_pure HO.out hm3)
      have HM3 : Hid (Pure w w3) := Lib.hid (HM.out.trans hm3)
      clear hm3 HLW HEX HO HM
      generalize lowS (subS s f k) = lw at *
      have hownS := HO3.out
      have hmS := HM3.out
      clear HO3
      generalize hln : l.length = ln at hownS hlk ⊢
      have HLN := Lib.hid hln
      clear hln
      go_wp2_with (at_builtin; refine wpList_append_lies _ rfl _ _ _ rfl w.heap.size 36 i0 _ 3 32 Tryz.underlying30 hi0 hz0 hz1 hz2 rfl (by omega) (.slice A ln cap) ln (wdV (l.map (wdAt s))) rfl (hownS.alloc _) ⟨w3.heap.size, 0, none⟩ 1 1 [.int .i64 (f : Int), .int .i64 (k : Int), .string ⟨lw.toArray⟩] rfl rfl (World.news_of_block (cs := #[.int .i64 (f : Int), .int .i64 (k : Int), .string ⟨lw.toArray⟩]) (t := 36) (fr := (0, 0)) (heap_alloc_new w3 _)) (by simp [Value.oneCell']) (by omega) (by simp [maxLen]; omega) (by omega) (by have := hmS.size; simp; omega) (w3.heap.size + 1) (by simp) ?_; intro g5 cap5 w5 hown5 hgrow hat hlt5)
      have HP5 : Hid (Pure w w5) := Lib.hid ((hmS.alloc (.cells #[.int .i64 (f : Int), .int .i64 (k : Int), .string ⟨lw.toArray⟩] 36)).trans' (mod_grown hgrow) (fun i hi hlt => by have := own_block (hownS.alloc (.cells #[.int .i64 (f : Int), .int .i64 (k : Int), .string ⟨lw.toArray⟩] 36)) i hi; omega))
      go_roundg (k + 1 - (k + 1))
      case measure => omega
      case rel =>
       refine ⟨k + 1, l ++ [(f, k)], none, some ⟨g5, 0, none⟩, cap5, by rw [← HN.out], by rw [← HN.out]; omega, by simp, rfl, by rw [List.length_append, HLN.out]; rfl, by rw [List.length_append, HLN.out]; simp; omega, fun h => by rw [← HN.out] at h; omega, fun _ => HP2.out, ?_, HP5.out⟩
       rw [HWD.out, List.length_append, HLN.out]
       exact hown5
  ·obtain rfl : k = n + 1 := by omega
   have e := HEND.out (by rw [← HN.out])
   have hll : ¬ ((n : Int) + 1) ≤ (n : Int) := by omega
   have hwq : Hid (wordsQ s = l.map (wdAt s)) := Lib.hid (by unfold wordsQ; rw [e])
   clear e HPW HEND
   go_wp2_with fail
   go_ret
   refine ⟨_, rfl, ?_, HM.out⟩
   rw [hwq.out, List.length_map]
   exact HO.out

end Go.Proofs.YtanblgcgbncbpaaGreatDoor

/- Patterns of the program. -/
namespace Go.Proofs.YtanblgcgbncbpaaGreatDoor
set_option linter.unusedVariables false
set_option linter.unusedSimpArgs false
open Go.RowKit

theorem smB_nat (c : UInt8) : smB c = (letB c && !decide (65 ≤ c.toNat ∧ c.toNat ≤ 90)) := by
 have key : ∀ c : Fin 256, smB (UInt8.ofNat c.val) = (letB (UInt8.ofNat c.val) && !decide (65 ≤ (UInt8.ofNat c.val).toNat ∧ (UInt8.ofNat c.val).toNat ≤ 90)) := by decide +kernel
 have h := key ⟨c.toNat, c.toNat_lt⟩
 simpa using h
/-- A byte of a pattern, by its number. -/
def patN (sm : Bool) (N i n : Nat) : Bool := sm || (decide (i ≠ 0) && (decide (n = 63) || (decide (n = 42) && decide (i + 1 = N))))
theorem u8_eqW (c : UInt8) (d : Nat) (hd : d < 256) : (c == UInt8.ofNat d) = decide (c.toNat = d) := by
 rw [Bool.eq_iff_iff, beq_iff_eq, decide_eq_true_iff]
 constructor
 ·intro h; rw [h]; simp; omega
 ·intro h; rw [← h]; simp
theorem patC_nat (N i : Nat) (c : UInt8) : patC N i c = patN (smB c) N i c.toNat := by
 have h1 := u8_eqW c 63 (by decide)
 have h2 := u8_eqW c 42 (by decide)
 unfold patC patN
 rw [show (c == 63) = decide (c.toNat = 63) from h1, show (c == 42) = decide (c.toNat = 42) from h2]
def patAll (s : Str) (k : Nat) : Bool := (List.range k).all fun i => patC s.length i (s.getD i 0)
theorem patAll_succ (s : Str) (k : Nat) (h : k < s.length) : patAll s (k + 1) = (patAll s k && patC s.length k s[k]) := by
 unfold patAll
 rw [List.range_succ, List.all_append]
 simp [List.getD, h]
theorem patAll_false {s : Str} {k : Nat} (h : k < s.length) (hc : patC s.length k s[k] = false) : patAll s s.length = false := by
 unfold patAll
 rw [List.all_eq_false]
 exact ⟨k, List.mem_range.2 h, by simp [List.getD, h, hc]⟩
theorem patB_all (s : Str) : patB s = (decide (1 ≤ s.length ∧ s.length ≤ 40) && patAll s s.length) := by
 unfold patB patAll
 rw [Bool.decide_and]

set_option maxRecDepth 100000 in
set_option maxHeartbeats 8000000 in
theorem isPattern_calls (w : World) (s : Str) (hs : s.length ≤ 1000000) : Calls Tryz.prog 16 #[.string ⟨s.toArray⟩] w (BoolSame w (patB s)) := by
 have hz : (⟨s.toArray⟩ : ByteArray).size = s.length := by simp [ByteArray.size]
 have HPB := Lib.hid (patB_all s)
 obtain ⟨n, hn⟩ : ∃ n, n = s.length := ⟨_, rfl⟩
 rw [← hn] at hz hs HPB
 have HN := Lib.hid hn
 clear hn
 go_enter Tryz.func16, Tryz.ntmps16
 go_wp2_with fail
 go_loopg [8] n (fun gk i wr => ∃ k : Nat, n - k = gk ∧ k ≤ n ∧ i = .int .i64 (k : Int) ∧ patAll s k = true ∧ w = wr)
 case atStart => exact ⟨0, by omega, by omega, rfl, rfl, rfl⟩
 case round =>
  obtain ⟨k, rfl, hk, rfl, hpa, rfl⟩ := hrel
  by_cases hlt : k < n
  ·have hlt2 : k < s.length := by rw [← HN.out]; exact hlt
   have HSU := Lib.hid (patAll_succ s k hlt2)
   have HFA := Lib.hid (patAll_false hlt2)
   have HC := Lib.hid (letter_calls s[k] w)
   have HSM := Lib.hid (smB_nat s[k])
   have HPC := Lib.hid (patC_nat s.length k s[k])
   rw [← HN.out] at HPC HFA HSU
   obtain ⟨bb, hbb⟩ : ∃ bb, letB s[k] = bb := ⟨_, rfl⟩
   obtain ⟨sm, hsm⟩ : ∃ sm, smB s[k] = sm := ⟨_, rfl⟩
   obtain ⟨pc, hpc⟩ : ∃ pc, patC n k s[k] = pc := ⟨_, rfl⟩
   rw [hbb, hsm] at HSM
   rw [hbb] at HC
   rw [hpc, hsm] at HPC
   rw [hpc] at HFA HSU
   have hix : (⟨s.toArray⟩ : ByteArray)[k]'(by rw [hz]; exact hlt) = s[k] := rfl
   clear hbb hsm hpc
   go_upto_region 5 with (fail)
   clear hix
   generalize s[k].toNat = c at *
   go_cut [5] from 14 to 24 (fun p wx => p = .bool sm ∧ w = wx)
   case first =>
    clear HPB HSU HFA HPC
    go_wp2_with fail
    refine HC.out.mono ?_
    rintro e w2 ⟨rfl, rfl⟩
    have h := HSM.out
    cases bb
    ·have e : sm = false := by rw [h]; rfl
     subst e
     clear h
     go_wp2_with fail
     go_meet
     exact ⟨rfl, rfl⟩
    ·by_cases h1 : (65 : Int) ≤ (c : Int)
     ·by_cases h2 : (c : Int) ≤ 90
      ·have e : sm = false := by rw [h]; simp; omega
       subst e
       clear h
       go_wp2_with fail
       go_meet
       exact ⟨by first | rfl | (simp; omega), rfl⟩
      ·have e : sm = true := by rw [h]; simp; omega
       subst e
       clear h
       go_wp2_with fail
       go_meet
       exact ⟨by first | rfl | (simp; omega), rfl⟩
     ·have e : sm = true := by rw [h]; simp; omega
      subst e
      clear h
      go_wp2_with fail
      go_meet
      exact ⟨by first | rfl | (simp; omega), rfl⟩
   case rest =>
    obtain ⟨rfl, rfl⟩ := hcut
    clear HC HSM
    go_upto_region 6 with (fail)
    go_cut [46] from 25 to 45 (fun p wx => p = .bool (!pc) ∧ w = wx)
    case first =>
     have h := HPC.out
     unfold patN at h
     clear HPB HSU HFA HPC
     cases sm with
     | true =>
      have e : pc = true := by rw [h]; rfl
      subst e
      clear h
      go_wp2_with fail
      go_meet
      exact ⟨by first | rfl | (simp; omega), rfl⟩
     | false =>
      by_cases h0 : k = 0
      ·subst h0
       have e : pc = false := by rw [h]; rfl
       subst e
       clear h
       go_wp2_with fail
       go_meet
       exact ⟨by first | rfl | (simp; omega), rfl⟩
      ·have h0i : ((k : Int) == 0) = false := by simp; omega
       have h0d : decide (k ≠ 0) = true := by simpa using h0
       by_cases h1 : c = 63
       ·subst h1
        have e : pc = true := by rw [h, h0d]; rfl
        subst e
        clear h h0d h0
        go_wp2_with fail
        go_meet
        exact ⟨rfl, rfl⟩
       ·have h1i : ((c : Int) == 63) = false := by simp; omega
        have h1n : ((c : Int) != 63) = true := by simp; omega
        by_cases h2 : c = 42
        ·subst h2
         by_cases h3 : k + 1 = n
         ·have e : pc = true := by rw [h, h0d]; simp [h3]
          have h3i : ((k : Int) == (n : Int) - 1) = true := by simp; omega
          subst e
          clear h h0d h0 h1 h3
          go_wp2_with fail
          go_meet
          exact ⟨rfl, rfl⟩
         ·have e : pc = false := by rw [h, h0d]; simp [h3]
          have h3i : ((k : Int) == (n : Int) - 1) = false := by simp; omega
          subst e
          clear h h0d h0 h1 h3
          go_wp2_with fail
          go_meet
          exact ⟨rfl, rfl⟩
        ·have h2i : ((c : Int) == 42) = false := by simp; omega
         have e : pc = false := by rw [h, h0d]; simp [h1, h2]
         subst e
         clear h h0d h0 h1 h2
         go_wp2_with fail
         go_meet
         exact ⟨rfl, rfl⟩
    case rest =>
     obtain ⟨rfl, rfl⟩ := hcut
     clear HPC
     cases pc with
     | true =>
      have HS2 : Hid (patAll s (k + 1) = true) := Lib.hid (by rw [HSU.out, hpa]; rfl)
      clear HPB HSU HFA hpa
      go_wp2_with fail
      go_roundg (n - (k + 1))
      case measure => omega
      case rel => exact ⟨k + 1, rfl, by omega, by simp, HS2.out, rfl⟩
     | false =>
      have HB : Hid (patB s = false) := Lib.hid (by rw [HPB.out, HFA.out rfl, Bool.and_false])
      clear HPB HSU HFA hpa
      go_wp2_with fail
      try simp only [Exit.inBlock, Exit.then]
      refine bodyPost_ret (v := .bool false) (by simp [results, Tryz.results16, go_sem]) rfl ?_
      exact BoolSame.of HB.out
  ·obtain rfl : k = n := by omega
   have e := HPB.out
   rw [hpa, Bool.and_true] at e
   have HB := Lib.hid e
   clear e HPB hpa
   go_wp2_with fail
   refine (in_calls _ _ _ _).mono ?_
   rintro e w' ⟨rfl, rfl⟩
   go_wp2_with fail
   go_ret
   refine BoolSame.of ?_
   rw [HB.out]
   cases hin : inB (k : Int) 1 40
   ·have := inB_false hin
    simp; omega
   ·have := inB_true hin
    simp; omega

end Go.Proofs.YtanblgcgbncbpaaGreatDoor

/- Whether a pattern fits a word: the program, the reference. -/
namespace Go.Proofs.YtanblgcgbncbpaaGreatDoor
set_option linter.unusedVariables false
set_option linter.unusedSimpArgs false
open Go.RowKit

theorem isPatternP_calls (w : World) (s : Str) (hs : s.length ≤ 1000000) : Calls Tryz.prog 16 #[.string ⟨s.toArray⟩] w (BoolPost w (patB s)) := (isPattern_calls w s hs).mono (fun e w' h => ⟨h.1, h.2 ▸ Mod.refl _ _⟩)
theorem fitN_succ {b x : Str} {k : Nat} (h : k < b.length) (hx : b.length ≤ x.length) : fitN b x (k + 1) = (fitN b x k && (b[k] == 63 || b[k] == x[k]'(by omega))) := by
 unfold fitN
 rw [List.range_succ, List.all_append]
 have hx2 : k < x.length := by omega
 simp [List.getD, h, hx2]
theorem fitN_false {b x : Str} {k : Nat} (h : k < b.length) (hx : b.length ≤ x.length) (hc : (b[k] == 63 || b[k] == x[k]'(by omega)) = false) : fitN b x b.length = false := by
 unfold fitN
 rw [List.all_eq_false]
 have hx2 : k < x.length := by omega
 refine ⟨k, List.mem_range.2 h, ?_⟩
 simpa [List.getD, h, hx2] using hc

set_option maxRecDepth 100000 in
set_option maxHeartbeats 8000000 in
theorem fits_calls (w : World) (p x : Str) (hp : p.length ≤ 1000000) (hx : x.length ≤ 1000000) : Calls Tryz.prog 18 #[.string ⟨p.toArray⟩, .string ⟨x.toArray⟩] w (BoolPost w (fitsB p x)) := by
 have HIP := Lib.hid (isPatternP_calls w p hp)
 have HCS := Lib.hid (fun W => cutSuffix_calls W p [42] (by omega))
 have HF : Hid (fitsB p x = (patB p && (decide ((patBody p).length ≤ x.length) && ((patOpen p || decide (x.length ≤ (patBody p).length)) && fitN (patBody p) x (patBody p).length)))) := Lib.hid rfl
 have hbl : (patBody p).length ≤ p.length := by
  unfold patBody Lib.trimSuffix
  split
  ·rw [List.length_take]; omega
  ·exact Nat.le_refl _
 have hzx : (⟨x.toArray⟩ : ByteArray).size = x.length := by simp [ByteArray.size]
 unfold patBody patOpen at HF
 unfold patBody at hbl
 generalize fitsB p x = r at *
 generalize patB p = pb at *
 generalize Lib.hasSuffix p [42] = op at *
 generalize Lib.trimSuffix p [42] = b at *
 have hzb : (⟨b.toArray⟩ : ByteArray).size = b.length := by simp [ByteArray.size]
 obtain ⟨n, hn⟩ : ∃ n, n = b.length := ⟨_, rfl⟩
 obtain ⟨m, hm⟩ : ∃ m, m = x.length := ⟨_, rfl⟩
 rw [← hn, ← hm] at HF
 rw [← hn] at hzb hbl
 rw [← hm] at hzx hx
 have HN := Lib.hid hn
 have HM := Lib.hid hm
 clear hn hm
 go_enter Tryz.func18, Tryz.ntmps18
 go_wp2_with fail
 refine HIP.out.mono ?_
 rintro e w1 ⟨rfl, hm0⟩
 have HM0 : Hid (Pure w w1) := Lib.hid hm0
 clear HIP hm0
 cases pb with
 | false =>
  have HR : Hid (r = false) := Lib.hid HF.out
  clear HF HCS
  go_wp2_with fail
  try simp only [Exit.inBlock, Exit.then]
  refine bodyPost_ret (v := .bool false) (by simp [results, Tryz.results18, go_sem]) rfl ?_
  rw [HR.out]
  exact ⟨rfl, HM0.out⟩
 | true =>
  go_wp2_with fail
  refine (HCS.out _).mono ?_
  rintro e w2 ⟨rfl, rfl⟩
  clear HCS
  obtain ⟨bad, hbad⟩ : ∃ bad, (decide (m < n) || (!op && decide (n < m))) = bad := ⟨_, rfl⟩
  have HF2 : Hid (r = (!bad && fitN b x n)) := Lib.hid (by
   rw [HF.out, ← hbad]
   rcases Nat.lt_trichotomy m n with h | h | h
   ·rw [decide_eq_false (show ¬ n ≤ m by omega), decide_eq_true h]
    rfl
   ·subst h
    simp
   ·rw [decide_eq_true (show n ≤ m by omega), decide_eq_false (show ¬ m < n by omega), decide_eq_true h, decide_eq_false (show ¬ m ≤ n by omega)]
    simp)
  have HBD := Lib.hid hbad
  clear HF hbad
  go_upto_region 4 with (fail)
  go_cut [31] from 16 to 30 (fun q wx => q = .bool bad ∧ w2 = wx)
  case first =>
   have h := HBD.out
   clear HF2
   rcases Nat.lt_trichotomy m n with h1 | h1 | h1
   ·have d1 : decide (m < n) = true := decide_eq_true h1
    have d1i : (m : Int) < (n : Int) := by omega
    rw [d1, Bool.true_or] at h
    subst h
    go_wp2_with fail
    go_meet
    exact ⟨by first | rfl | simp, rfl⟩
   ·subst h1
    rw [decide_eq_false (Nat.lt_irrefl m), Bool.and_false, Bool.or_false] at h
    subst h
    have d1 : decide (m < m) = false := decide_eq_false (Nat.lt_irrefl m)
    have d1i : ¬ (m : Int) < (m : Int) := by omega
    have d2 : ((m : Int) != (m : Int)) = false := by simp
    cases op
    ·go_wp2_with fail
     go_meet
     exact ⟨by first | rfl | simp, rfl⟩
    ·go_wp2_with fail
     go_meet
     exact ⟨by first | rfl | simp, rfl⟩
   ·have d1 : decide (m < n) = false := decide_eq_false (by omega)
    have d1i : ¬ (m : Int) < (n : Int) := by omega
    have d2 : decide (n < m) = true := decide_eq_true h1
    have d2i : (n : Int) < (m : Int) := by omega
    have d3 : ((m : Int) != (n : Int)) = true := by simp; omega
    rw [d1, d2, Bool.and_true, Bool.false_or] at h
    cases op
    ·obtain rfl : true = bad := h
     go_wp2_with fail
     go_meet
     exact ⟨by first | rfl | simp, rfl⟩
    ·obtain rfl : false = bad := h
     go_wp2_with fail
     go_meet
     exact ⟨by first | rfl | simp, rfl⟩
  case rest =>
   obtain ⟨rfl, rfl⟩ := hcut
   cases bad with
   | true =>
    have HR : Hid (r = false) := Lib.hid HF2.out
    clear HF2 HBD
    go_wp2_with fail
    try simp only [Exit.inBlock, Exit.then]
    refine bodyPost_ret (v := .bool false) (by simp [results, Tryz.results18, go_sem]) rfl ?_
    rw [HR.out]
    exact ⟨rfl, HM0.out⟩
   | false =>
    have hnm : n ≤ m := by
     have h := HBD.out
     rcases Nat.lt_or_ge m n with h1 | h1
     ·rw [decide_eq_true h1] at h; cases h
     ·exact h1
    have HF3 : Hid (r = fitN b x n) := Lib.hid HF2.out
    clear HF2 HBD
    go_wp2_with fail
    go_loopg [34] n (fun gk i wr => ∃ k : Nat, n - k = gk ∧ k ≤ n ∧ i = .int .i64 (k : Int) ∧ fitN b x k = true ∧ Pure w2 wr)
    case atStart => exact ⟨0, by omega, by omega, rfl, rfl, Mod.refl _ _⟩
    case round =>
     obtain ⟨k, rfl, hk, rfl, hpa, hm⟩ := hrel
     by_cases hlt : k < n
     ·have hltb : k < b.length := by rw [← HN.out]; exact hlt
      have hltx : k < x.length := by rw [← HM.out]; omega
      have HSU := Lib.hid (fitN_succ (x := x) hltb (by rw [← HN.out, ← HM.out]; exact hnm))
      have HFA := Lib.hid (fitN_false (x := x) hltb (by rw [← HN.out, ← HM.out]; exact hnm))
      have hix : (⟨b.toArray⟩ : ByteArray)[k]'(by rw [hzb]; exact hlt) = b[k] := rfl
      have hiy : (⟨x.toArray⟩ : ByteArray)[k]'(by rw [hzx]; omega) = x[k] := rfl
      have HP : Hid (Pure w2 wr) := Lib.hid hm
      have e1 : (b[k] == 63) = decide (b[k].toNat = 63) := u8_eqW _ 63 (by decide)
      have e2 : (b[k] == x[k]) = decide (b[k].toNat = x[k].toNat) := by
       rw [Bool.eq_iff_iff, beq_iff_eq, decide_eq_true_iff]
       exact UInt8.toNat_inj.symm
      rw [e1, e2] at HSU HFA
      rw [← HN.out] at HFA
      have hix2 : ((k : Nat) : Int) < (n : Int) := by omega
      have hbc := b[k].toNat_lt
      have hxc := x[k].toNat_lt
      clear hm e1 e2
      by_cases h63 : b[k].toNat = 63
      ·have h63i : ((b[k].toNat : Int) != 63) = false := by simp; omega
       have HS2 : Hid (fitN b x (k + 1) = true) := Lib.hid (by rw [HSU.out, hpa, decide_eq_true h63]; rfl)
       clear HF3 HSU HFA hpa h63
       go_upto_region 9 with (fail)
       go_quiet (fail)
       go_wp2_with fail
       go_roundg (n - (k + 1))
       case measure => omega
       case rel => exact ⟨k + 1, rfl, by omega, by simp, HS2.out, HP.out.drewN _⟩
      ·have h63i : ((b[k].toNat : Int) != 63) = true := by simp; omega
       by_cases hxe : b[k].toNat = x[k].toNat
       ·have hxi : ((b[k].toNat : Int) != (x[k].toNat : Int)) = false := by simp; omega
        have HS2 : Hid (fitN b x (k + 1) = true) := Lib.hid (by rw [HSU.out, hpa, decide_eq_true hxe, Bool.or_true]; rfl)
        clear HF3 HSU HFA hpa h63 hxe
        go_upto_region 9 with (fail)
        go_quiet (fail)
        go_wp2_with fail
        go_roundg (n - (k + 1))
        case measure => omega
        case rel => exact ⟨k + 1, rfl, by omega, by simp, HS2.out, HP.out.drewN _⟩
       ·have hxi : ((b[k].toNat : Int) != (x[k].toNat : Int)) = true := by simp; omega
        have HR : Hid (r = false) := Lib.hid (by rw [HF3.out]; exact HFA.out (by rw [decide_eq_false h63, decide_eq_false hxe]; rfl))
        clear HF3 HSU HFA hpa h63 hxe
        go_upto_region 9 with (fail)
        go_quiet (fail)
        go_wp2_with fail
        try simp only [Exit.inBlock, Exit.then]
        refine bodyPost_ret (v := .bool false) (by simp [results, Tryz.results18, go_sem]) rfl ?_
        rw [HR.out]
        exact ⟨rfl, HM0.out.trans (HP.out.drewN _)⟩
     ·obtain rfl : k = n := by omega
      have HR : Hid (r = true) := Lib.hid (HF3.out.trans hpa)
      have HP : Hid (Pure w2 wr) := Lib.hid hm
      clear HF3 hpa hm
      go_wp2_with fail
      go_ret
      rw [HR.out]
      exact ⟨rfl, HM0.out.trans HP.out⟩

end Go.Proofs.YtanblgcgbncbpaaGreatDoor

/- phrase: the places where patterns fit words one after the other (package query). -/
namespace Go.Proofs.YtanblgcgbncbpaaGreatDoor
set_option linter.unusedVariables false
set_option linter.unusedSimpArgs false
open Go.RowKit
def wsQ (l : List Wd) : List Str := l.map (·.2)
theorem wsQ_len (l : List Wd) : (wsQ l).length = l.length := by simp [wsQ]
theorem phr_getD {l : List Wd} {i : Nat} (h : i < l.length) : (wsQ l).getD i [] = l[i].2 := by simp [wsQ, List.getD, h]
theorem pat_getD {l : List Str} {i : Nat} (h : i < l.length) : l.getD i [] = l[i] := by simp [List.getD, h]
set_option maxRecDepth 100000 in
set_option maxHeartbeats 4000000 in
theorem phraseQ_calls (w : World) (vp vw : Value) (pats : List Str) (wl : List Wd) (hp : Sl w 9 1 vp (strsV pats)) (hw : Wds w vw wl) (hp0 : 1 ≤ pats.length) (hp1 : pats.length ≤ 1000) (hpl : ∀ x ∈ pats, x.length ≤ 1000000) (hW : wl.length ≤ 1000) (hwl : ∀ x ∈ wl, x.2.length ≤ 1000000) :
  Calls Tryz.prog 195 #[vp, vw] w (RnP w wl.length (phrB (wsQ wl) pats)) := by
 obtain ⟨Ap, np, cp, rfl⟩ := hp.form
 obtain rfl := hp.lenS
 obtain ⟨Aw, nw, cw, rfl⟩ := hw.form
 have hwn : nw = wl.length := by obtain ⟨_, _, _, e, _, _, h, _⟩ := hw; cases e; rw [wdV_len] at h; omega
 subst hwn
 have hcp := hp.lenI.2
 have hcw : wl.length ≤ cw ∧ cw ≤ 9223372036854775807 := by obtain ⟨_, _, _, e, h1, h2, _⟩ := hw; cases e; exact ⟨h1, h2⟩
 have HP := Lib.hid hp
 have HW := Lib.hid hw
 have HPL := Lib.hid hpl
 have HWL := Lib.hid hwl
 clear hp hw hpl hwl
 have hmk := run_make_one (P := Tryz.prog) 183 22 (.slice none 0 0) 24 Tryz.underlying183 info_intsQ rfl .i64 .i64 wl.length (wl.length : Int) rfl (by omega) (by omega) (Array.replicate wl.length (Value.slice none 0 0)) (by simp)
 have HO := Lib.hid (OutB.new w wl.length)
 have HM := Lib.hid (pure_alloc w (.cells (List.replicate wl.length (Value.slice none 0 0)).toArray 22))
 rw [List.toArray_replicate] at HO HM
 go_enter Tryz.func195, Tryz.ntmps195
 go_wp2_with fail
 clear hmk
 have hgw := Nat.le_refl w.heap.size
 generalize (w.alloc (.cells (Array.replicate wl.length (Value.slice none 0 0)) 22)) = w1 at *
 generalize hg : w.heap.size = g at *
 go_loopg [19] (wl.length + 1 - pats.length) (fun gk i wr => ∃ (k : Nat) (us : List Value), (wl.length + 1 - pats.length) - k = gk ∧ k ≤ wl.length ∧ (k = 0 ∨ k + pats.length ≤ wl.length + 1) ∧ i = .int .i64 (k : Int) ∧ us.length = k ∧ OutB wr g us wl.length ∧ RowsU wr us ((rowsQ wl.length (phrB (wsQ wl) pats)).take k) ∧ Pure w wr)
 case atStart => exact ⟨0, [], by omega, by omega, .inl rfl, rfl, rfl, HO.out, RowsU.nil, HM.out⟩
 case round =>
  clear HO HM
  obtain ⟨k, us, rfl, hk, hk2, rfl, hul, hO, hR, hm⟩ := hrel
  have HO := Lib.hid hO
  have HR := Lib.hid hR
  have HM := Lib.hid hm
  have HU := Lib.hid hul
  clear hO hR hm hul
  rcases Nat.lt_or_ge wl.length (k + pats.length) with hout | hin
  ·have hlt : ¬ ((k : Int) < (wl.length : Int) - (pats.length : Int) + 1) := by omega
   go_wp2_with fail
   go_ret
   have h1 := HR.out.nils (wl.length - k)
   rw [rowsQ_tail hk (fun i h2 h3 => by have h4 := phrRow_out (ws := wsQ wl) (pats := pats) (i := i) (by rw [wsQ_len]; omega); rw [wsQ_len] at h4; exact h4)] at h1
   have h2 := HO.out.all (by rw [HU.out]; exact hk)
   rw [HU.out] at h2
   exact ⟨_, rfl, h2.sl h1 (rowsQ_len _ _) (by omega), HM.out⟩
  ·have hlt : (k : Int) < (wl.length : Int) - (pats.length : Int) + 1 := by omega
   generalize wr = w2 at *
   go_wp2_with fail
   go_loopg [7, 24] pats.length (fun gk b i wx => ∃ t : Nat, pats.length - t = gk ∧ t ≤ pats.length ∧ b = .bool (phrN (wsQ wl) pats k t) ∧ i = .int .i64 (t : Int) ∧ Pure w2 wx)
   case atStart => exact ⟨0, by omega, by omega, rfl, rfl, Mod.refl _ _⟩
   case round =>
    obtain ⟨t, rfl, ht, rfl, rfl, hmx⟩ := hrel
    by_cases htl : t < pats.length
    ·have HN := Lib.hid (phrN_succ (wsQ wl) pats k t)
     rw [phr_getD (by omega), pat_getD htl] at HN
     obtain ⟨gp, op, rfl, hrp⟩ := (HP.out.pure (HM.out.trans hmx)).rowS (by omega)
     have qp := hrp.cell (strsV_get pats t htl)
     obtain ⟨_, _, _, e, _, _, _, hrw0⟩ := HW.out.pure (HM.out.trans hmx)
     cases e
     obtain ⟨gw, ow, rfl, hrw⟩ := hrw0 (by omega)
     have qw := hrw.cell (wdV_get wl (k + t) (by omega)).2.2
     rw [← Nat.add_assoc] at qw
     have h1 := HPL.out _ (List.getElem_mem htl)
     have h2 := HWL.out _ (List.getElem_mem (show k + t < wl.length by omega))
     have HF := Lib.hid (fun W0 => fits_calls W0 pats[t] wl[k + t].2 h1 h2)
     clear h1 h2 hrp hrw hrw0
     generalize phrN (wsQ wl) pats k t = b1 at *
     generalize fitsB pats[t] wl[k + t].2 = b3 at *
     generalize pats[t] = pt at *
     generalize wl[k + t].2 = wt at *
     cases b1
     ·go_wp2_with fail
      go_roundg (pats.length - (t + 1))
      case measure => omega
      case rel => exact ⟨t + 1, rfl, htl, by rw [HN.out]; rfl, by simp, hmx⟩
     ·go_wp2_with fail
      refine (HF.out _).mono ?_
      rintro e w3 ⟨rfl, hm2⟩
      go_wp2_with fail
      go_roundg (pats.length - (t + 1))
      case measure => omega
      case rel => exact ⟨t + 1, rfl, htl, by rw [HN.out]; rfl, by simp, hmx.trans hm2⟩
    ·obtain rfl : t = pats.length := by omega
     have HROW := Lib.hid (phrRow (ws := wsQ wl) (pats := pats) (i := k) (by intro h; rw [h] at hp0; exact absurd hp0 (by decide)) (by rw [wsQ_len]; exact hin))
     rw [wsQ_len] at HROW
     have hkW : k < wl.length := by omega
     have HTK : Hid ((rowsQ wl.length (phrB (wsQ wl) pats)).take (k + 1) = (rowsQ wl.length (phrB (wsQ wl) pats)).take k ++ [rowQ wl.length (phrB (wsQ wl) pats k)]) := Lib.hid (by
      rw [List.take_succ_eq_append_getElem (by rw [rowsQ_len]; exact hkW), rowsQ_at])
     have HX := Lib.hid hmx
     clear hmx
     have HO2 := Lib.hid (HO.out.mod HX.out (fun h => h))
     have HR2 := Lib.hid (HR.out.pure HX.out)
     have HM2 := Lib.hid (HM.out.trans HX.out)
     cases hb : phrN (wsQ wl) pats k pats.length
     ·have HRN : Hid (rowQ wl.length (phrB (wsQ wl) pats k) = []) := Lib.hid (by rw [HROW.out, hb]; rfl)
      go_wp2_with fail
      go_roundg (wl.length + 1 - pats.length - (k + 1))
      case measure => omega
      case rel =>
       refine ⟨k + 1, us ++ [Value.slice none 0 0], rfl, by omega, by omega, by simp, by simp [HU.out], HO2.out.skip (by rw [HU.out]; exact hkW), ?_, HM2.out⟩
       rw [HTK.out, HRN.out]
       exact HR2.out.snoc (nilI (w := wr)).1 (nilI (w := wr)).2
     ·have HRN : Hid (rowQ wl.length (phrB (wsQ wl) pats k) = [k + pats.length - 1]) := Lib.hid (by rw [HROW.out, hb]; rfl)
      have xa := fun o => ((HO2.out.mod (pure_alloc wr o) (fun h => h)).cellk HU.out.symm (by rw [HU.out]; exact hkW)).1
      have xb := fun o => ((HO2.out.mod (pure_alloc wr o) (fun h => h)).cellk HU.out.symm (by rw [HU.out]; exact hkW)).2
      go_wp2_with fail
      go_roundg (wl.length + 1 - pats.length - (k + 1))
      case measure => omega
      case rel =>
       have hA := HO2.out.mod (pure_alloc wr (.cells #[.int .i64 ((k : Int) + (pats.length : Int) - 1)] 3)) (fun h => h)
       have hone : Sl (wr.alloc (.cells #[.int .i64 ((k : Int) + (pats.length : Int) - 1)] 3)) 3 1 (.slice (some ⟨wr.heap.size, 0, none⟩) 1 1) (nvQ [k + pats.length - 1]) := by
        have hn := Blk.new wr 3 #[.int .i64 ((k : Int) + (pats.length : Int) - 1)]
        have e : nvQ [k + pats.length - 1] = [Value.int .i64 ((k : Int) + (pats.length : Int) - 1)] := by
         show [Value.int .i64 ((k + pats.length - 1 : Nat) : Int)] = _
         rw [show ((k + pats.length - 1 : Nat) : Int) = (k : Int) + (pats.length : Int) - 1 by omega]
        rw [e]
        exact ⟨_, _, _, rfl, Nat.le_refl _, by omega, rfl, fun _ => ⟨_, 0, rfl, hn.row0⟩⟩
       refine ⟨k + 1, us ++ [Value.slice (some ⟨wr.heap.size, 0, none⟩) 1 1], rfl, by omega, by omega, by simp, by simp [HU.out], hA.snoc HU.out.symm (by rw [HU.out]; exact hkW) _, ?_, (HM2.out.trans (pure_alloc _ _)).setCell (.inr (by show w.heap.size ≤ g; omega)) _⟩
       rw [HTK.out, HRN.out]
       exact ((HR2.out.pure (pure_alloc _ _)).set hA (by decide) _ _).snoc (hone.set_ne hA (by decide) _) (fun n c h => by cases h)

end Go.Proofs.YtanblgcgbncbpaaGreatDoor

/- Quoted strings: Quoted of the reference. -/
namespace Go.Proofs.YtanblgcgbncbpaaGreatDoor
set_option linter.unusedVariables false
set_option linter.unusedSimpArgs false
open Go.RowKit

end Go.Proofs.YtanblgcgbncbpaaGreatDoor

/- Digests: hex digits by strconv. -/
namespace Go.Proofs.YtanblgcgbncbpaaGreatDoor
set_option linter.unusedVariables false
set_option linter.unusedSimpArgs false
open Go.RowKit

/-- The table's cell that the walk reads. -/
def Deb (w : World) : Prop := w.cell? ⟨5, 15, none⟩ = some (.int .u8 4)
theorem Deb.pure {w w' : World} (h : Deb w) (hm : Pure w w') : Deb w' := hm.keep h id

/-- The digits that have been written. -/
def DigAt (arr : Array Value) (h k : Nat) : Prop := arr.size = 65 ∧ ∀ j, j < k → arr[64 - j]? = some (.int .u8 ((hexD (h / 16 ^ j % 16)).toNat : Int))
theorem DigAt.step {arr : Array Value} {h k : Nat} (hd : DigAt arr h k) (hk : k < 64) : DigAt (arr.setIfInBounds (64 - k) (.int .u8 ((hexD (h / 16 ^ k % 16)).toNat : Int))) h (k + 1) := by
 refine ⟨by simpa using hd.1, fun j hj => ?_⟩
 have hs := hd.1
 by_cases e : j = k
 ·subst e
  rw [Array.getElem?_setIfInBounds_self_of_lt (by omega)]
 ·rw [Array.getElem?_setIfInBounds_ne (by omega)]
  exact hd.2 j (by omega)
theorem hexR_get (h : Nat) : ∀ (k i : Nat) (hi : i < k), (hexR h k)[i]'(by rw [hexR_len]; exact hi) = hexD (h / 16 ^ (k - 1 - i) % 16)
 | 0, i, hi => absurd hi (by omega)
 | k + 1, 0, hi => by simp [hexR]
 | k + 1, i + 1, hi => by
  have := hexR_get h k i (by omega)
  simp only [hexR, List.getElem_cons_succ]
  rw [this]
  congr 4
  omega
theorem DigAt.cells {w : World} {arr : Array Value} {h k g : Nat} (hd : DigAt arr h k) (hb : Blk w g 211 arr) (hk : k ≤ 65) : ∀ j (hj : j < (hexR h k).length), w.cell? ((⟨g, 65 - k, none⟩ : Addr).add j) = some (.int .u8 ((hexR h k)[j].toNat : Int)) := by
 intro j hj
 have hj' : j < k := by rw [hexR_len] at hj; exact hj
 rw [hexR_get h k j hj']
 have h1 := hd.2 (k - 1 - j) (by omega)
 have h2 : w.cell? ⟨g, 65 - k + j, none⟩ = some (.int .u8 ((hexD (h / 16 ^ (k - 1 - j) % 16)).toNat : Int)) := by
  rw [hb.cell, show 65 - k + j = 64 - (k - 1 - j) by omega]
  exact h1
 unfold Addr.add
 split
 ·rename_i e; subst e; simpa using h2
 ·exact h2
end Go.Proofs.YtanblgcgbncbpaaGreatDoor

/- Digests: Digest of package intake, DigestOf of the reference. -/
namespace Go.Proofs.YtanblgcgbncbpaaGreatDoor
set_option linter.unusedVariables false
set_option linter.unusedSimpArgs false
open Go.RowKit

end Go.Proofs.YtanblgcgbncbpaaGreatDoor

/- The generators of items: itemId, ItemText, Item. -/
namespace Go.Proofs.YtanblgcgbncbpaaGreatDoor
set_option linter.unusedVariables false
set_option linter.unusedSimpArgs false
open Go.RowKit

/-- The strings of an item are not too long: of what the generators make. -/
def ItG (x : Itm) : Prop := x.id.length ≤ 100 ∧ x.cust.length ≤ 30000 ∧ x.name.length ≤ 30000 ∧ x.par.length ≤ 30000 ∧ x.text.length ≤ 29000
theorem ItG.b {x : Itm} (h : ItG x) : ItB x := ⟨h.1, h.2.1, h.2.2.1, h.2.2.2.1, by have := h.2.2.2.2; omega⟩
def StrB (w : World) (b N M : Nat) (e : Ending) (w' : World) : Prop := ∃ s : Str, s.length ≤ M ∧ e = .returned (.string ⟨s.toArray⟩) ∧ Strm w' b N ∧ Mod (· = b) w w'
theorem someb_calls (w : World) (b N g c n : Nat) (ss : List Str) (M : Nat) (hn : n = ss.length) (hM : ∀ s ∈ ss, s.length ≤ M) (hS : Strm w b N) (hN : N ≤ 1000000000) (hx : Blk w g 9 (strsV ss).toArray) (hgb : g ≠ b) (h0 : 0 < ss.length) (hl : ss.length ≤ 1000) :
  Calls Tryz.prog 36 #[.pointer (some ⟨b, 0, none⟩), .slice (some ⟨g, 0, none⟩) n c] w (StrB w b (N + 1) M) := by
 subst hn
 refine (some_calls w b N g c ss hS hN hx hgb h0 hl).mono ?_
 rintro e w' ⟨s, hs, rfl, h1, h2⟩
 exact ⟨s, hM s hs, rfl, h1, h2⟩
def itWords : List Str := [[100, 101, 97, 108], [68, 101, 97, 108], [115, 105, 103, 110], [115, 105, 103, 110, 101, 100], [116, 104, 101], [102, 114, 105, 100, 97, 121], [99, 111, 110, 116, 114, 97, 99, 116], [120, 49], [99, 97, 102, 195, 169], [97, 110, 100]]
def itSeps : List Str := [[32], [32], [32], [44, 32], [45]]
def It1 (w : World) (b N m gk : Nat) (x i : Value) (wr : World) : Prop :=
 ∃ (j : Nat) (a : ByteArray), m - j = gk ∧ j ≤ m ∧ x = .string a ∧ i = .int .i64 (j : Int) ∧ a.size ≤ 100 * j ∧ Strm wr b (N + 1 + 20 * j) ∧ Mod (· = b) w wr
def It2 (w : World) (b N j m gk : Nat) (x i : Value) (wr : World) : Prop :=
 ∃ (k : Nat) (a : ByteArray), m - k = gk ∧ k ≤ m ∧ x = .string a ∧ i = .int .i64 (k : Int) ∧ a.size ≤ 100 * j + 10 * k ∧ Strm wr b (N + 1 + 20 * j + 1 + 2 * k) ∧ Mod (· = b) w wr

set_option maxRecDepth 100000 in
set_option maxHeartbeats 4000000 in
theorem itemText_calls (w : World) (b N : Nat) (hS : Strm w b N) (hN : N ≤ 900000000) : Calls Tryz.prog 8 #[.pointer (some ⟨b, 0, none⟩)] w (StrB w b (N + 61) 300) := by
 have hbl := hS.lt
 go_enter Tryz.func8, Tryz.ntmps8
 go_wp2_with fail
 refine (pickv_calls _ b _ w.heap.size _ _ #[.int .i64 0, .int .i64 1, .int .i64 1, .int .i64 2, .int .i64 3] (hS.alloc _) (Blk.new _ _ _) (by omega) (by omega) rfl (by decide) (by decide) rfl).mono ?_
 rintro e w1 ⟨m, hmem, rfl, hS1, hM1⟩
 have hm02 : 0 ≤ m ∧ m ≤ 3 := by
  have : m = 0 ∨ m = 1 ∨ m = 1 ∨ m = 2 ∨ m = 3 := by simpa [intsOf, Go.RowKit.intOf] using hmem
  omega
 obtain ⟨hm0, hm2⟩ := hm02
 obtain ⟨m, rfl⟩ := Int.eq_ofNat_of_zero_le hm0
 have hm2' : m ≤ 3 := by omega
 have m1 : Mod (· = b) w w1 := ((Mod.refl _ _).alloc _).trans hM1
 clear hmem hS hM1 hm0 hm2 hbl
 go_wp2_with fail
 go_loopg [3, 8] m (fun gk x i wr => It1 w b N m gk x i wr)
 case atStart => exact ⟨0, ⟨#[]⟩, rfl, by omega, rfl, rfl, by simp [ByteArray.size], hS1.more (by omega), m1⟩
 case round =>
  clear hS1 m1
  obtain ⟨j, a, rfl, hj, rfl, rfl, ha, hS1, hM1⟩ := hrel
  by_cases hlt : j < m
  ·go_wp2_with fail
   refine (range_calls _ b _ _ _ hS1 (by omega) (by omega) (by omega) (by omega)).mono ?_
   rintro e w2 ⟨r, hr0, hr1, rfl, hS2, hM2⟩
   obtain ⟨r, rfl⟩ := Int.eq_ofNat_of_zero_le hr0
   have hr6 : r ≤ 6 := by omega
   have m2 := hM1.trans hM2
   clear hS1 hM1 hM2 hr0 hr1
   go_wp2_with fail
   go_loopg [3, 12] r (fun gk x i wr => It2 w b N j r gk x i wr)
   case atStart => exact ⟨0, a, rfl, by omega, rfl, rfl, by omega, hS2.more (by omega), m2⟩
   case round =>
    clear hS2 m2 ha
    obtain ⟨k, a, rfl, hk, rfl, rfl, ha, hS2, m2⟩ := hrel
    have hbl := hS2.lt
    by_cases hlk : k < r
    ·by_cases hk0 : k = 0
     ·subst hk0
      go_wp2_with fail
      refine (someb_calls _ b _ _ _ _ itWords 8 rfl (by decide) (hS2.alloc _) (by omega) (Blk.new _ _ _) (by omega) (by decide) (by decide)).mono ?_
      rintro e w3 ⟨s, hs, rfl, hS3, hM3⟩
      have m3 := (m2.alloc _).trans hM3
      have hz : (⟨s.toArray⟩ : ByteArray).size ≤ 8 := by simpa [ByteArray.size] using hs
      generalize (⟨s.toArray⟩ : ByteArray) = z at *
      clear hS2 hM3 m2 hs
      go_wp2_with fail
      go_roundg (r - (0 + 1))
      case measure => omega
      case rel => exact ⟨0 + 1, _, rfl, by omega, rfl, by simp, by rw [ByteArray.size_append]; omega, hS3.more (by omega), m3⟩
     ·have hk1 : (0 : Int) < (k : Int) := by omega
      go_wp2_with fail
      refine (someb_calls _ b _ _ _ _ itSeps 2 rfl (by decide) (hS2.alloc _) (by omega) (Blk.new _ _ _) (by omega) (by decide) (by decide)).mono ?_
      rintro e w3 ⟨s, hs, rfl, hS3, hM3⟩
      have m3 := (m2.alloc _).trans hM3
      have hz : (⟨s.toArray⟩ : ByteArray).size ≤ 2 := by simpa [ByteArray.size] using hs
      generalize (⟨s.toArray⟩ : ByteArray) = z at *
      have hbl3 := hS3.lt
      have hza : (a ++ z).size ≤ 100 * j + 10 * k + 2 := by rw [ByteArray.size_append]; omega
      clear hS2 hM3 m2 hs hbl
      go_wp2_with fail
      refine (someb_calls _ b _ _ _ _ itWords 8 rfl (by decide) (hS3.alloc _) (by omega) (Blk.new _ _ _) (by omega) (by decide) (by decide)).mono ?_
      rintro e w4 ⟨s, hs, rfl, hS4, hM4⟩
      have m4 := (m3.alloc _).trans hM4
      have hz2 : (⟨s.toArray⟩ : ByteArray).size ≤ 8 := by simpa [ByteArray.size] using hs
      generalize (⟨s.toArray⟩ : ByteArray) = z2 at *
      generalize a ++ z = az at *
      clear hS3 hM4 m3 hs hz ha
      go_wp2_with fail
      go_roundg (r - (k + 1))
      case measure => omega
      case rel => exact ⟨k + 1, _, rfl, by omega, rfl, by simp, by rw [ByteArray.size_append]; omega, hS4.more (by omega), m4⟩
    ·obtain rfl : k = r := by omega
     have hz1 : (⟨#[10]⟩ : ByteArray).size = 1 := rfl
     go_wp2_with fail
     go_roundg (m - (j + 1))
     case measure => omega
     case rel => exact ⟨j + 1, _, rfl, by omega, rfl, by simp, by rw [ByteArray.size_append]; omega, hS2.more (by omega), m2⟩
  ·obtain rfl : j = m := by omega
   go_wp2_with fail
   go_ret
   exact ⟨a.data.toList, by simp; omega, by simp, hS1.more (by omega), hM1⟩

end Go.Proofs.YtanblgcgbncbpaaGreatDoor

/- Searches that are made: patterns, fresh searches. -/
namespace Go.Proofs.YtanblgcgbncbpaaGreatDoor
set_option linter.unusedVariables false
set_option linter.unusedSimpArgs false
open Go.RowKit

def patA : List Str := [[], [42], [63, 97], [97, 42, 98], [65], [97, 110, 100], [97, 32, 98], [48, 49, 50, 51, 52, 53, 54, 55, 56, 57, 48, 49, 50, 51, 52, 53, 54, 55, 56, 57, 48, 49, 50, 51, 52, 53, 54, 55, 56, 57, 48, 49, 50, 51, 52, 53, 54, 55, 56, 57], [48, 49, 50, 51, 52, 53, 54, 55, 56, 57, 48, 49, 50, 51, 52, 53, 54, 55, 56, 57, 48, 49, 50, 51, 52, 53, 54, 55, 56, 57, 48, 49, 50, 51, 52, 53, 54, 55, 56, 57, 48]]
def patBs : List Str := [[100, 101, 97, 108], [115, 105, 103, 110], [115, 105, 103, 110, 42], [116, 104, 101], [102, 114, 105, 42], [102, 114, 105, 100, 97, 121], [100, 63, 97, 108], [99, 111, 110, 116, 114, 97, 99, 116], [120, 49], [99, 97, 102, 42], [110, 111, 116, 104, 105, 110, 103], [115, 63, 63, 63, 101, 100]]

set_option maxRecDepth 100000 in
set_option maxHeartbeats 8000000 in
theorem pattern_calls (w : World) (b N : Nat) (hS : Strm w b N) (hN : N ≤ 900000000) : Calls Tryz.prog 10 #[.pointer (some ⟨b, 0, none⟩)] w (StrB w b (N + 2) 41) := by
 have hF := flip_calls w b N 40 hS (by omega) (by omega) (by omega)
 have HA : Hid (∀ w, Strm w b (N + 1) → Calls Tryz.prog 36 #[.pointer (some ⟨b, 0, none⟩), .slice (some ⟨w.heap.size, 0, none⟩) 9 9] (w.alloc (.cells (strsV patA).toArray 9)) (StrB (w.alloc (.cells (strsV patA).toArray 9)) b (N + 1 + 1) 41)) := Lib.hid (fun w h => someb_calls _ b (N + 1) w.heap.size 9 9 patA 41 rfl (by decide) (h.alloc _) (by omega) (Blk.new _ _ _) (by have := h.lt; omega) (by decide) (by decide))
 have HB : Hid (∀ w, Strm w b (N + 1) → Calls Tryz.prog 36 #[.pointer (some ⟨b, 0, none⟩), .slice (some ⟨w.heap.size, 0, none⟩) 12 12] (w.alloc (.cells (strsV patBs).toArray 9)) (StrB (w.alloc (.cells (strsV patBs).toArray 9)) b (N + 1 + 1) 41)) := Lib.hid (fun w h => someb_calls _ b (N + 1) w.heap.size 12 12 patBs 41 rfl (by decide) (h.alloc _) (by omega) (Blk.new _ _ _) (by have := h.lt; omega) (by decide) (by decide))
 have HPS : Hid (∀ {w1 w' : World} {o : Obj}, Mod (· = b) w w1 → Mod (· = b) (w1.alloc o) w' → Mod (· = b) w w') := Lib.hid (fun h k => (h.trans (Mod.of_pure (pure_alloc _ _))).trans k)
 have hb := hS.lt
 clear hS
 go_enter Tryz.func10, Tryz.ntmps10
 go_wp2_with fail
 refine hF.mono ?_
 rintro e w1 ⟨f, rfl, hS1, hM1⟩
 have HM1 := Lib.hid hM1
 clear hF hM1
 cases f
 ·have HC := Lib.hid (HB.out w1 hS1)
  unfold patBs strsV at HC
  simp only [List.map_cons, List.map_nil] at HC
  clear HA HB
  go_wp2_with fail
  refine HC.out.mono ?_
  rintro e w2 ⟨s, hs, rfl, hS2, hM2⟩
  go_wp2_with fail
  go_ret
  exact ⟨s, hs, rfl, hS2, HPS.out HM1.out hM2⟩
 ·have HC := Lib.hid (HA.out w1 hS1)
  unfold patA strsV at HC
  simp only [List.map_cons, List.map_nil] at HC
  clear HA HB
  go_wp2_with fail
  refine HC.out.mono ?_
  rintro e w2 ⟨s, hs, rfl, hS2, hM2⟩
  go_wp2_with fail
  try simp only [Exit.inBlock, Exit.then]
  refine bodyPost_ret (v := .string ⟨s.toArray⟩) (by simp [results, Tryz.results10, go_sem]) rfl ?_
  exact ⟨s, hs, rfl, hS2, HPS.out HM1.out hM2⟩

/-- The rows of searches within a search lie in blocks from base on. -/
inductive QFr (base : Nat) : QR → Prop
 | mk {k : Int} {A : Option Addr} {c : Nat} {ws : List Str} {n : Int} {B : Option Addr} {d : Nat} {xs : List QR} (h : xs ≠ [] → ∃ g off, B = some ⟨g, off, none⟩ ∧ base ≤ g) (hs : ∀ a ∈ xs, QFr base a) : QFr base (.mk k A c ws n B d xs)
theorem QFr.up {b1 b2 : Nat} {q : QR} (h : QFr b2 q) (hb : b1 ≤ b2) : QFr b1 q := by
 induction h with
 | mk h hs ih => exact .mk (fun hx => by obtain ⟨g, off, e, hg⟩ := h hx; exact ⟨g, off, e, by omega⟩) ih
theorem QS.strm {w w' : World} {b N : Nat} {q : QR} (h : QS w q) (hS : Strm w b N) (hm : Mod (· = b) w w') : QS w' q := by
 induction h with
 | mk hw ha hs ih => exact .mk (hw.strm hS hm (by decide)) (ha.strm hS hm (by decide)) ih
end Go.Proofs.YtanblgcgbncbpaaGreatDoor

/-
 DERIVED: THE SHELF's CONTRACTS AT THIS DUMP, IN PLAIN WORDS (tools/lay-plain.mjs out of 'YtanblgcgbncbpaaGreatDoorLayWd.lean', which tools/lay-shelf.mjs wrote): THE SAME DECLARATIONS UNDER THE SAME NAMES: 'import', 'namespace', 'open', 'def', 'theorem' AND NOTHING ELSE: no command of the shelf's: FOR A HAND-IN. Each laying: the table of numbers ('.._ren') and one theorem, a field a fact of the dump's own or the kernel's comparison; each contract: ONE APPLICATION.
-/
namespace Go.Proofs
open Go.Shelf
def Tryz.revWrd_ren : Go.Shelf.Ren := ⟨fun | 35 => 42 | n => n, fun | 22 => 30 | 23 => 36 | 3 => 3 | 4 => 4 | 0 => 0 | n => n, fun | n => n⟩
theorem Tryz.revWrd : Go.Proofs.SlLaysE0.n35 Tryz.prog Tryz.revWrd_ren := {
 mixed := by kernel_rfl
 f35 := ⟨Tryz.f42.name, by decide, Tryz.func42.trans (congrArg some (by kernel_rfl))⟩
 t0 := Tryz.underlying0
 a0 := Tryz.isAgg0
 z0 := Tryz.sizeOf0
 v0 := Tryz.zeroValue0
 t3 := Tryz.underlying3
 a3 := Tryz.isAgg3
 z3 := Tryz.sizeOf3
 v3 := Tryz.zeroValue3
 t4 := Tryz.underlying4
 a4 := Tryz.isAgg4
 z4 := Tryz.sizeOf4
 v4 := Tryz.zeroValue4
 t22 := Tryz.underlying30
 a22 := Tryz.isAgg30
 z22 := Tryz.sizeOf30
 v22 := Tryz.zeroValue30 }
def Tryz.eqWrd_ren : Go.Shelf.Ren := ⟨fun | 8 => 14 | n => n, fun | 22 => 30 | 24 => 36 | 4 => 4 | 3 => 3 | 0 => 0 | n => n, fun | n => n⟩
theorem Tryz.eqWrd : Go.Proofs.SlLaysQ.n8 Tryz.prog Tryz.eqWrd_ren := {
 mixed := by kernel_rfl
 f8 := ⟨Tryz.f14.name, by decide, Tryz.func14.trans (congrArg some (by kernel_rfl))⟩
 t0 := Tryz.underlying0
 a0 := Tryz.isAgg0
 z0 := Tryz.sizeOf0
 v0 := Tryz.zeroValue0
 t3 := Tryz.underlying3
 a3 := Tryz.isAgg3
 z3 := Tryz.sizeOf3
 v3 := Tryz.zeroValue3
 t4 := Tryz.underlying4
 a4 := Tryz.isAgg4
 z4 := Tryz.sizeOf4
 v4 := Tryz.zeroValue4
 t22 := Tryz.underlying30
 a22 := Tryz.isAgg30
 z22 := Tryz.sizeOf30
 v22 := Tryz.zeroValue30 }
end Go.Proofs

/- Words of the reference. -/
namespace Go.Proofs.YtanblgcgbncbpaaGreatDoor
set_option linter.unusedVariables false
set_option linter.unusedSimpArgs false
open Go.RowKit Go.Shelf

def letS : Str := [97, 98, 99, 100, 101, 102, 103, 104, 105, 106, 107, 108, 109, 110, 111, 112, 113, 114, 115, 116, 117, 118, 119, 120, 121, 122, 48, 49, 50, 51, 52, 53, 54, 55, 56, 57, 65, 66, 67, 68, 69, 70, 71, 72, 73, 74, 75, 76, 77, 78, 79, 80, 81, 82, 83, 84, 85, 86, 87, 88, 89, 90]
theorem letB_idx (c : UInt8) : letB c = (decide (128 ≤ c.toNat) || decide (0 ≤ Lib.indexByte letS c)) := by
 have key : ∀ c : Fin 256, letB (UInt8.ofNat c.val) = (decide (128 ≤ (UInt8.ofNat c.val).toNat) || decide (0 ≤ Lib.indexByte letS (UInt8.ofNat c.val))) := by decide +kernel
 have h := key ⟨c.toNat, c.toNat_lt⟩
 simpa using h
set_option maxHeartbeats 4000000 in
theorem letterR_calls (c : UInt8) (w : World) : Calls Tryz.prog 40 #[.int .u8 (c.toNat : Int)] w (BoolSame w (letB c)) := by
 have HI := Lib.hid (Any.strings_IndexByte Tryz.lays137 ⟨letS.toArray⟩ (c.toNat : Int) w)
 have hc8 : ((c.toNat : Int).toNat).toUInt8 = c := by simp
 rw [hc8] at HI
 rw [letB_idx]
 rw [show (⟨letS.toArray⟩ : ByteArray).data.toList = letS from rfl] at HI
 have hcl : c.toNat < 256 := c.toNat_lt
 generalize Lib.indexByte letS c = z at *
 generalize c.toNat = n at *
 unfold letS at HI
 clear hc8
 by_cases h1 : (128 : Int) ≤ (n : Int)
 ·clear HI
  go_enter Tryz.func40, Tryz.ntmps40
  go_wp2_with fail
  go_ret
  exact BoolSame.of (by rw [decide_eq_true (show 128 ≤ n by omega)]; rfl)
 ·go_enter Tryz.func40, Tryz.ntmps40
  go_wp2_with fail
  refine HI.out.mono ?_
  rintro e w' ⟨rfl, rfl⟩
  go_wp2_with fail
  go_ret
  exact BoolSame.of (by rw [decide_eq_false (show ¬ 128 ≤ n by omega)]; rfl)
theorem own_formW {w : World} {base n size : Nat} {e : TypeId} {v : Value} {xs : List Value} (h : w.ownsRow base e size v n xs) (hn : 0 < n) : ∃ g cap, v = .slice (some ⟨g, 0, none⟩) n cap ∧ base ≤ g ∧ g < w.heap.size ∧ n ≤ cap ∧ cap ≤ 9223372036854775807 := by
 rcases h.2 with ⟨rfl, h0⟩ | ⟨g, cap, cur, rfl, hg, hh, hc, hcm, _⟩
 ·omega
 ·exact ⟨g, cap, rfl, hg, lt_of_heap hh, hc, by simpa [maxLen] using hcm⟩
theorem wdV_setLast (L : List Wd) (x : Wd) (a : Nat) (y : Str) : ((wdV (L ++ [x])).set (L.length * 3) (.int .i64 (a : Int))).set (L.length * 3 + 2) (.string ⟨y.toArray⟩) = wdV (L ++ [((a, x.1.2), y)]) := by
 have hl := wdV_len L
 rw [wdV_snoc, wdV_snoc, List.set_append_right _ _ (by omega), List.set_append_right _ _ (by omega), hl, Nat.sub_self, Nat.add_sub_cancel_left]
 rfl
/-- Slices.Reverse at words. -/
theorem revW_calls (w : World) (base : Nat) (A : Option Addr) (c : Nat) (l : List Wd) (hown : w.ownsRow base 36 3 (.slice A l.length c) l.length (wdV l)) (hl : l.length ≤ 2000000) : Calls Tryz.prog 42 #[.slice A l.length c] w (fun e w' => e = .returned (.tuple #[]) ∧ w'.ownsRow base 36 3 (.slice A l.length c) l.length (wdV l.reverse) ∧ Mod (fun g => (Value.slice A l.length c).ownBlock = some g) w w') := by
 by_cases h0 : l.length = 0
 ·have hl0 : l = [] := by cases l; rfl; cases h0
  subst hl0
  refine (AnyQ.slices_Reverse_empty Tryz.revWrd A c w).mono ?_
  rintro e w' ⟨rfl, rfl⟩
  exact ⟨rfl, hown, Mod.refl _ _⟩
 ·obtain ⟨g, cap, hf, _, _, hc1, hc2⟩ := own_formW hown (by omega)
  injection hf with hA _ hC
  subst hA hC
  refine (AnyQ.slices_Reverse Tryz.revWrd 3 Tryz.isAgg36 Tryz.sizeOf36 wdC (fun _ => rfl) (by intro x v hv; simp [wdC] at hv; rcases hv with rfl | rfl | rfl <;> rfl) g 0 c l.toArray w (holdsK_ownW (fun _ => rfl) (by omega) hown) (by simpa using (by omega : l.length ≤ 9223372036854775807))).mono ?_
  rintro e w' ⟨rfl, m, rfl⟩
  have h := own_putW (m := m) (ys := l.reverse) (enc := wdC) (fun _ => rfl) (by omega) hown (by simp)
  rw [List.reverse_toArray]
  exact ⟨rfl, h.1, h.2.mono (fun q hq => by rw [hq]; rfl)⟩
def WrRel (w : World) (s : Str) (gk : Nat) (x i : Value) (wr : World) : Prop :=
 ∃ (k : Nat) (z : Int) (L : List Wd) (A : Option Addr) (cap : Nat), k = gk ∧ k ≤ s.length ∧ i = .int .i64 z ∧ z = (k : Int) - 1 ∧ x = .slice A L.length cap ∧ L.length + k ≤ s.length ∧ ((spR (s.drop k) k).map (wdAt s)).reverse = L ∧
  wr.ownsRow w.heap.size 36 3 (.slice A L.length cap) L.length (wdV L) ∧ Pure w wr
/-- What is written when a letter has been seen. -/
def WrCut (w : World) (s : Str) (n j : Nat) (v : Value) (wx : World) : Prop :=
 ∃ (L0 : List Wd) (f0 e : Nat) (y : Str) (A : Option Addr) (cap : Nat), v = .slice A (L0.length + 1) cap ∧ L0.length + 1 + j ≤ n ∧ j < e ∧ e ≤ n ∧ ((spR (s.drop j) j).map (wdAt s)).reverse = L0 ++ [((j, e), lowS (subS s j e))] ∧
  wx.ownsRow w.heap.size 36 3 (.slice A (L0.length + 1) cap) (L0.length + 1) (wdV (L0 ++ [((f0, e), y)])) ∧ Pure w wx

set_option maxRecDepth 100000 in
set_option maxHeartbeats 8000000 in
theorem wordsOf_calls (w : World) (s : Str) (hs : s.length ≤ 1000000) : Calls Tryz.prog 15 #[.string ⟨s.toArray⟩] w (WdsPost w (wordsQ s)) := by
 obtain ⟨i0, hi0, hz0, hz1, hz2⟩ := info_parts info_wd
 have hz : (⟨s.toArray⟩ : ByteArray).size = s.length := by simp [ByteArray.size]
 obtain ⟨n, hn⟩ : ∃ n, n = s.length := ⟨_, rfl⟩
 rw [← hn] at hz hs
 have HN := Lib.hid hn
 clear hn
 go_enter Tryz.func15, Tryz.ntmps15
 go_wp2_with fail
 go_loopg [3, 4] n (fun gk x i wr => WrRel w s gk x i wr)
 case atStart => exact ⟨n, _, [], none, 0, rfl, by rw [← HN.out]; omega, rfl, rfl, rfl, by rw [← HN.out]; simp, by rw [HN.out, List.drop_length]; rfl, ⟨rfl, .inl ⟨rfl, rfl⟩⟩, Mod.refl _ _⟩
 case round =>
  obtain ⟨k, z, L, A, cap, rfl, hk, rfl, hzk, rfl, hlk, hL, hown, hm⟩ := hrel
  rw [← HN.out] at hlk hk
  have HL := Lib.hid hL
  have HO := Lib.hid hown
  have HM : Hid (Pure w wr) := Lib.hid hm
  clear hL hown hm
  cases k with
  | zero =>
   obtain rfl : z = -1 := by simpa using hzk
   have hL0 := HL.out
   rw [List.drop_zero] at hL0
   have HW : Hid (wordsQ s = L.reverse) := Lib.hid (by rw [← hL0, List.reverse_reverse]; rfl)
   have HRV := Lib.hid (revW_calls wr _ A cap L HO.out (by omega))
   have hle : L.length ≤ n := by omega
   clear hL0 HL HO hzk hk
   go_wp2_with fail
   refine HRV.out.mono ?_
   rintro e w3 ⟨rfl, ho3, hm3⟩
   have hmf : Pure w w3 := HM.out.trans' hm3 (fun i hi hlt => by have := own_block ho3 i hi; omega)
   have HO3 := Lib.hid ho3
   have HMF : Hid (Pure w w3) := Lib.hid hmf
   clear ho3 hm3 hmf HRV HM
   go_wp2_with fail
   go_ret
   refine ⟨_, rfl, ?_, HMF.out⟩
   rw [HW.out, List.length_reverse]
   exact HO3.out
  | succ j =>
   obtain rfl : z = (j : Int) := by rw [hzk]; simp
   clear hzk
   have hlt2 : j < s.length := by rw [← HN.out]; omega
   have HC := Lib.hid (letterR_calls s[j] wr)
   have HOTH := Lib.hid (fun (h : letB s[j] = false) => ref_other hlt2 h)
   have HNEW := Lib.hid (fun (h : letB s[j] = true) => ref_new hlt2 h)
   have hjn : j < n := by omega
   obtain ⟨bb, hbb⟩ : ∃ bb, letB s[j] = bb := ⟨_, rfl⟩
   rw [hbb] at HC
   have HBB := Lib.hid hbb
   clear hbb
   go_wp2_with fail
   refine HC.out.mono ?_
   rintro e w2 ⟨rfl, rfl⟩
   clear HC
   cases bb with
   | false =>
    have HL2 : Hid (((spR (s.drop j) j).map (wdAt s)).reverse = L) := Lib.hid (by rw [HOTH.out HBB.out]; exact HL.out)
    clear HOTH HNEW HL HBB
    go_wp2_with fail
    go_roundg j
    case measure => omega
    case rel => exact ⟨j, _, L, A, cap, rfl, by rw [← HN.out]; omega, rfl, by simp, rfl, by rw [← HN.out]; omega, HL2.out, HO.out, HM.out⟩
   | true =>
    go_upto_region 6 with (fail)
    go_cut [30] from 18 to 29 (fun p wx => (∃ nw : Bool, p = .bool nw ∧ (nw = true → ∀ h : j + 1 < s.length, letB s[j + 1] = false) ∧ (nw = false → ∃ h : j + 1 < s.length, letB s[j + 1] = true)) ∧ wr = wx)
    case first =>
     clear HOTH HNEW HL HO HM
     by_cases hj1 : j + 1 = n
     ·have hji : ((j : Int) == (n : Int) - 1) = true := by simp; omega
      go_wp2_with fail
      go_meet
      exact ⟨⟨true, rfl, fun _ h => by rw [← HN.out] at h; omega, fun h => by cases h⟩, rfl⟩
     ·have hji : ((j : Int) == (n : Int) - 1) = false := by simp; omega
      have hlt3 : j + 1 < s.length := by rw [← HN.out]; omega
      have HC := Lib.hid (letterR_calls s[j + 1] wr)
      obtain ⟨b2, hb2⟩ : ∃ b2, letB s[j + 1] = b2 := ⟨_, rfl⟩
      rw [hb2] at HC
      have HB2 := Lib.hid hb2
      clear hb2
      go_wp2_with fail
      refine HC.out.mono ?_
      rintro e w3 ⟨rfl, rfl⟩
      go_wp2_with fail
      go_meet
      refine ⟨⟨!b2, rfl, fun h _ => ?_, fun h => ⟨hlt3, ?_⟩⟩, rfl⟩
      ·rw [HB2.out]; simpa using h
      ·rw [HB2.out]; simpa using h
    case rest =>
     obtain ⟨⟨nw, rfl, hn1, hn2⟩, rfl⟩ := hcut
     have HN1 := Lib.hid hn1
     have HN2 := Lib.hid hn2
     clear hn1 hn2 HOTH
     go_upto_if 30 with (fail)
     go_cut [3] from 18 to 37 (fun v wx => WrCut w s n j v wx)
     case first =>
      cases nw with
      | true =>
       have hsp := HNEW.out HBB.out (HN1.out rfl)
       have hspr : ((spR (s.drop j) j).map (wdAt s)).reverse = L ++ [((j, j + 1), lowS (subS s j (j + 1)))] := by
        rw [hsp, List.map_cons, List.reverse_cons, HL.out]; rfl
       have HSP := Lib.hid hspr
       have hownS := HO.out
       have hmS := HM.out
       have HWD : Hid (wdV (L ++ [((0, j + 1), [])]) = wdV L ++ [.int .i64 0, .int .i64 ((j : Int) + 1), .string ⟨#[]⟩]) := Lib.hid (by rw [wdV_snoc]; rfl)
       generalize hln : L.length = ln at hownS hlk ⊢
       have HLN := Lib.hid hln
       clear hln hsp hspr HN1 HN2 HNEW HL HO HM HBB
       go_wp2_with (at_builtin; refine wpList_append_lies _ rfl _ _ _ rfl w.heap.size 36 i0 _ 3 32 Tryz.underlying30 hi0 hz0 hz1 hz2 rfl (by omega) (.slice A ln cap) ln (wdV L) rfl (hownS.alloc _) ⟨wr.heap.size, 0, none⟩ 1 1 [.int .i64 0, .int .i64 ((j : Int) + 1), .string ⟨#[]⟩] rfl rfl (World.news_of_block (cs := #[.int .i64 0, .int .i64 ((j : Int) + 1), .string ⟨#[]⟩]) (t := 36) (fr := (0, 0)) (heap_alloc_new wr _)) (by simp [Value.oneCell']) (by omega) (by simp [maxLen]; omega) (by omega) (by have := hmS.size; simp; omega) (wr.heap.size + 1) (by simp) ?_; intro g5 cap5 w5 hown5 hgrow hat hlt5)
       have HP5 : Hid (Pure w w5) := Lib.hid ((hmS.alloc (.cells #[.int .i64 0, .int .i64 ((j : Int) + 1), .string ⟨#[]⟩] 36)).trans' (mod_grown hgrow) (fun i hi hlt => by have := own_block (hownS.alloc (.cells #[.int .i64 0, .int .i64 ((j : Int) + 1), .string ⟨#[]⟩] 36)) i hi; omega))
       go_meet
       refine ⟨L, 0, j + 1, [], some ⟨g5, 0, none⟩, cap5, by rw [HLN.out], by rw [HLN.out]; omega, by omega, by omega, HSP.out, ?_, HP5.out⟩
       rw [HWD.out, HLN.out]
       exact hown5
      | false =>
       obtain ⟨hlt3, hb3⟩ := HN2.out rfl
       obtain ⟨e, r, h1, h2⟩ := ref_more hlt3 HBB.out hb3
       have hein := spR_in (s.drop j) j (j, e) (by rw [h2]; simp)
       have hll : (s.drop j).length = s.length - j := List.length_drop
       have hL2 : L = (r.map (wdAt s)).reverse ++ [((j + 1, e), lowS (subS s (j + 1) e))] := by
        rw [← HL.out, h1, List.map_cons, List.reverse_cons]; rfl
       have hspr : ((spR (s.drop j) j).map (wdAt s)).reverse = (r.map (wdAt s)).reverse ++ [((j, e), lowS (subS s j e))] := by
        rw [h2, List.map_cons, List.reverse_cons]; rfl
       have hen : e ≤ n := by have := hein.2.1; rw [HN.out]; omega
       have hje : j < e := hein.1
       have HSP := Lib.hid hspr
       have hlen : L.length = (r.map (wdAt s)).reverse.length + 1 := by rw [hL2]; simp
       have HFIN : Hid (WrCut w s n j (.slice A L.length cap) wr) := Lib.hid (by
        refine ⟨(r.map (wdAt s)).reverse, j + 1, e, lowS (subS s (j + 1) e), A, cap, by rw [hlen], by omega, hje, hen, HSP.out, ?_, HM.out⟩
        have h := HO.out
        rw [hlen, hL2] at h
        exact h)
       clear HN1 HN2 HNEW HL HO HM HBB hlt3 hb3 h1 h2 hein hll hL2 hspr hlen HSP
       go_wp2_with fail
       go_meet
       exact HFIN.out
     case rest =>
      obtain ⟨L0, f0, e, y, A2, cap2, rfl, hlj, hje, hen, hsp, hown, hm⟩ := hcut
      obtain ⟨g, cap', hform, hg1, hg2, hcap, hcap2⟩ := own_formW hown (by omega)
      injection hform with hA _ hC
      subst hA hC
      have HSP := Lib.hid hsp
      obtain ⟨v0, v1, v2⟩ := wdV_get (L0 ++ [((f0, e), y)]) L0.length (by simp)
      simp only [List.getElem_concat_length] at v0 v1 v2
      have hl3 : L0.length * 3 + 3 ≤ (L0.length + 1) * 3 := by omega
      have c0 := (World.ownsRow.cellAt hown (L0.length * 3) (by omega)).trans v0
      have c1 := (World.ownsRow.cellAt hown (L0.length * 3 + 1) (by omega)).trans v1
      have c2 := (World.ownsRow.cellAt hown (L0.length * 3 + 2) (by omega)).trans v2
      have HLW := Lib.hid (smallR_calls wc (subS s j e) (by unfold subS; rw [List.length_drop, List.length_take, ← HN.out]; omega))
      have HEX : Hid ((⟨s.toArray⟩ : ByteArray).extract j e = ⟨(subS s j e).toArray⟩) := Lib.hid (ext_sub s j e)
      have HSET := Lib.hid (wdV_setLast L0 ((f0, e), y) j (lowS (subS s j e)))
      have HOC := Lib.hid hown
      have HMC : Hid (Pure w wc) := Lib.hid hm
      clear v0 v1 v2 hown hm hsp HN1 HN2 HNEW HL HO HM HBB
      generalize hmm : L0.length = m at *
      have HMM := Lib.hid hmm
      clear hmm
      go_wp2_with fail
      rw [HEX.out]
      refine HLW.out.mono ?_
      rintro e2 w3 ⟨rfl, hm3⟩
      have hown3 := own_pure HOC.out hm3
      have c0' := hm3.keep c0 (by simp)
      have c2' := hm3.keep c2 (by simp)
      have f0' := World.ownsRow.frozenAt hown3 (m * 3)
      have f2' := World.ownsRow.frozenAt hown3 (m * 3 + 2)
      have ho1 := (World.ownsRow.stored hown3 (m * 3) (.int .i64 (j : Int))).1
      have ho2 := (World.ownsRow.stored ho1 (m * 3 + 2) (.string ⟨(lowS (subS s j e)).toArray⟩)).1
      rw [HSET.out] at ho2
      have HOF := Lib.hid ho2
      have hmf := ((HMC.out.trans hm3).setCell (p := ⟨g, m * 3, none⟩) (.inr hg1) (.int .i64 (j : Int))).setCell (p := ⟨g, m * 3 + 2, none⟩) (.inr hg1) (.string ⟨(lowS (subS s j e)).toArray⟩)
      have HMF := Lib.hid hmf
      clear hm3 hown3 ho1 ho2 hmf c0 c1 c2 HLW HEX HSET HOC HMC
      generalize lowS (subS s j e) = lw at *
      go_wp2_with fail
      go_roundg j
      case measure => omega
      case rel =>
       refine ⟨j, _, L0 ++ [((j, e), lw)], some ⟨g, 0, none⟩, cap2, rfl, by rw [← HN.out]; omega, rfl, by simp, ?_, by rw [List.length_append, HMM.out, ← HN.out]; simp; omega, HSP.out, ?_, HMF.out⟩
       ·rw [List.length_append, HMM.out]; rfl
       ·rw [List.length_append, HMM.out]; exact HOF.out

end Go.Proofs.YtanblgcgbncbpaaGreatDoor
