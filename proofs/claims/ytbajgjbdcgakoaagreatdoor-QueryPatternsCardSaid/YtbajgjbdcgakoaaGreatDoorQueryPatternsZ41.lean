/- Texts of the proof of QueryPatterns, put together: LaySum, SrtA, PatB, PatC, ItmF, ItmG, EqS, RunH, RunF, RunI, RunJ, RunK, RunL, QrV, QrX, LayAny, RunM, UnqB, QuoS, LaidI, LawQueryPatterns. -/
import Derived.Test.YtbajgjbdcgakoaaGreatDoorQueryPatternsZ6
import Derived.Test.YtbajgjbdcgakoaaGreatDoorQueryPatternsZ9
import Derived.Test.YtbajgjbdcgakoaaGreatDoorQueryPatternsZ13
import Derived.Test.YtbajgjbdcgakoaaGreatDoorQueryPatternsZ14
import Derived.Test.YtbajgjbdcgakoaaGreatDoorQueryPatternsZ15
import Derived.Test.YtbajgjbdcgakoaaGreatDoorQueryPatternsZ17
import Derived.Test.YtbajgjbdcgakoaaGreatDoorQueryPatternsZ19
import Derived.Test.YtbajgjbdcgakoaaGreatDoorQueryPatternsZ21
import Derived.Test.YtbajgjbdcgakoaaGreatDoorQueryPatternsZ29
import Derived.Test.YtbajgjbdcgakoaaGreatDoorQueryPatternsZ30
import Derived.Test.YtbajgjbdcgakoaaGreatDoorQueryPatternsZ37
import Derived.Test.YtbajgjbdcgakoaaGreatDoorQueryPatternsZ38
import Derived.Test.YtbajgjbdcgakoaaGreatDoorQueryPatternsZ39
import Derived.Test.YtbajgjbdcgakoaaGreatDoorQueryPatternsZ40
import Derived.Ground.NamesProg
import Derived.Shelf.Sort.Plain
import Derived.Shelf.Slices.In.SortNone
import Derived.Shelf.Slices.CompactS
import Derived.Shelf.Strings.OnBuilder
import Derived.Shelf.SlIter.Nil
import Derived.Shelf.SortM.Plain
import Derived.Shelf.SortM.SortNone
import Derived.Ground.GgzProg
import Derived.Ground.SlgmProg
import Derived.Test.YtbajgjbdcgakoaaGreatDoorProg
import Derived.Sort.OwnSorted
import Derived.Lib.SlicesCompact
import Derived.Deep.DeepCutAuto
import Derived.Sort.Walk0
import Derived.Shelf.Strings.IndexAnyAll
import Derived.Test.YtbajgjbdcgakoaaGreatDoorRows
import Derived.Stop.LaidErr
import Derived.Lib.LaidTab
import Derived.Lib.LaidU8T
import Derived.ProofKit
/-
 DERIVED: THE SHELF's CONTRACTS AT THIS DUMP, IN PLAIN WORDS (tools/lay-plain.mjs out of 'YtbajgjbdcgakoaaGreatDoorLaySum.lean', which tools/lay-shelf.mjs wrote): THE SAME DECLARATIONS UNDER THE SAME NAMES: 'import', 'namespace', 'open', 'def', 'theorem' AND NOTHING ELSE: no command of the shelf's: FOR A HAND-IN. Each laying: the table of numbers ('.._ren') and one theorem, a field a fact of the dump's own or the kernel's comparison; each contract: ONE APPLICATION.
-/
namespace Go.Proofs
open Go.Shelf
def Tryz.lays190_ren : Go.Shelf.Ren := ⟨fun | 190 => 40 | 125 => 86 | 258 => 85 | 128 => 132 | 129 => 133 | 302 => 123 | 303 => 124 | 304 => 125 | 305 => 126 | 306 => 127 | 307 => 128 | 308 => 129 | 309 => 130 | 310 => 131 | 333 => 159 | 329 => 160 | 330 => 161 | 334 => 162 | 335 => 163 | 336 => 134 | 344 => 193 | n => n, fun | 31 => 26 | 9 => 9 | 3 => 3 | 46 => 56 | 0 => 0 | 51 => 87 | 53 => 90 | 4 => 4 | 183 => 151 | 182 => 150 | 131 => 155 | 5 => 5 | 218 => 181 | 222 => 185 | 228 => 203 | 229 => 60 | n => n, fun | n => n⟩
theorem Tryz.lays190 : Go.Proofs.Lays.n190 Tryz.prog Tryz.lays190_ren := {
 mixed := by kernel_rfl
 f125 := Tryz.func86.trans (congrArg some (by kernel_rfl))
 f128 := Tryz.func132.trans (congrArg some (by kernel_rfl))
 f129 := Tryz.func133.trans (congrArg some (by kernel_rfl))
 f190 := Tryz.func40.trans (congrArg some (by kernel_rfl))
 f258 := Tryz.func85.trans (congrArg some (by kernel_rfl))
 f302 := Tryz.func123.trans (congrArg some (by kernel_rfl))
 f303 := Tryz.func124.trans (congrArg some (by kernel_rfl))
 f304 := Tryz.func125.trans (congrArg some (by kernel_rfl))
 f305 := Tryz.func126.trans (congrArg some (by kernel_rfl))
 f306 := Tryz.func127.trans (congrArg some (by kernel_rfl))
 f307 := Tryz.func128.trans (congrArg some (by kernel_rfl))
 f308 := Tryz.func129.trans (congrArg some (by kernel_rfl))
 f309 := Tryz.func130.trans (congrArg some (by kernel_rfl))
 f310 := Tryz.func131.trans (congrArg some (by kernel_rfl))
 f329 := Tryz.func160.trans (congrArg some (by kernel_rfl))
 f330 := Tryz.func161.trans (congrArg some (by kernel_rfl))
 f333 := Tryz.func159.trans (congrArg some (by kernel_rfl))
 f334 := Tryz.func162.trans (congrArg some (by kernel_rfl))
 f335 := Tryz.func163.trans (congrArg some (by kernel_rfl))
 f336 := Tryz.func134.trans (congrArg some (by kernel_rfl))
 f344 := Tryz.func193.trans (congrArg some (by kernel_rfl))
 t0 := Tryz.underlying0
 a0 := Tryz.isAgg0
 z0 := Tryz.sizeOf0
 v0 := Tryz.zeroValue0
 t3 := Tryz.underlying3
 a3 := Tryz.isAgg3
 z3 := Tryz.sizeOf3
 v3 := Tryz.zeroValue3
 t4 := Tryz.underlying4
 a4 := Tryz.isAgg4
 z4 := Tryz.sizeOf4
 v4 := Tryz.zeroValue4
 t5 := Tryz.underlying5
 a5 := Tryz.isAgg5
 z5 := Tryz.sizeOf5
 v5 := Tryz.zeroValue5
 t9 := Tryz.underlying9
 a9 := Tryz.isAgg9
 z9 := Tryz.sizeOf9
 v9 := Tryz.zeroValue9
 t31 := Tryz.underlying26
 a31 := Tryz.isAgg26
 z31 := Tryz.sizeOf26
 v31 := Tryz.zeroValue26
 t46 := Tryz.underlying56
 a46 := Tryz.isAgg56
 z46 := Tryz.sizeOf56
 v46 := Tryz.zeroValue56
 t51 := Tryz.underlying87
 a51 := Tryz.isAgg87
 z51 := Tryz.sizeOf87
 v51 := Tryz.zeroValue87
 t53 := Tryz.underlying90
 a53 := Tryz.isAgg90
 z53 := Tryz.sizeOf90
 v53 := Tryz.zeroValue90
 t131 := Tryz.underlying155
 a131 := Tryz.isAgg155
 z131 := Tryz.sizeOf155
 v131 := Tryz.zeroValue155
 t182 := Tryz.underlying150
 a182 := Tryz.isAgg150
 z182 := Tryz.sizeOf150
 v182 := Tryz.zeroValue150
 t183 := Tryz.underlying151
 a183 := Tryz.isAgg151
 z183 := Tryz.sizeOf151
 v183 := Tryz.zeroValue151
 t218 := Tryz.underlying181
 a218 := Tryz.isAgg181
 z218 := Tryz.sizeOf181
 v218 := Tryz.zeroValue181
 t222 := Tryz.underlying185
 a222 := Tryz.isAgg185
 z222 := Tryz.sizeOf185
 v222 := Tryz.zeroValue185
 t228 := Tryz.underlying203
 a228 := Tryz.isAgg203
 z228 := Tryz.sizeOf203
 v228 := Tryz.zeroValue203
 t229 := Tryz.underlying60
 a229 := Tryz.isAgg60
 z229 := Tryz.sizeOf60
 v229 := Tryz.zeroValue60 }
def Tryz.lays194_ren : Go.Shelf.Ren := ⟨fun | 194 => 41 | n => n, fun | 31 => 26 | 9 => 9 | 3 => 3 | 4 => 4 | 0 => 0 | n => n, fun | n => n⟩
theorem Tryz.lays194 : Go.Proofs.Lays.n194 Tryz.prog Tryz.lays194_ren := {
 mixed := by kernel_rfl
 f194 := Tryz.func41.trans (congrArg some (by kernel_rfl))
 t0 := Tryz.underlying0
 a0 := Tryz.isAgg0
 z0 := Tryz.sizeOf0
 v0 := Tryz.zeroValue0
 t3 := Tryz.underlying3
 a3 := Tryz.isAgg3
 z3 := Tryz.sizeOf3
 v3 := Tryz.zeroValue3
 t4 := Tryz.underlying4
 a4 := Tryz.isAgg4
 z4 := Tryz.sizeOf4
 v4 := Tryz.zeroValue4
 t9 := Tryz.underlying9
 a9 := Tryz.isAgg9
 z9 := Tryz.sizeOf9
 v9 := Tryz.zeroValue9
 t31 := Tryz.underlying26
 a31 := Tryz.isAgg26
 z31 := Tryz.sizeOf26
 v31 := Tryz.zeroValue26 }
def Tryz.sortedK_ren : Go.Shelf.Ren := ⟨fun | 6 => 38 | 8 => 83 | 9 => 40 | 11 => 122 | 13 => 86 | 12 => 85 | 23 => 132 | 24 => 133 | 14 => 123 | 15 => 124 | 16 => 125 | 17 => 126 | 18 => 127 | 19 => 128 | 20 => 129 | 21 => 130 | 22 => 131 | 25 => 159 | 26 => 160 | 27 => 161 | 28 => 162 | 29 => 163 | 30 => 134 | 31 => 193 | n => n, fun | 26 => 9 | 28 => 73 | 24 => 26 | 0 => 0 | 3 => 3 | 37 => 56 | 48 => 87 | 50 => 90 | 4 => 4 | 40 => 151 | 39 => 150 | 45 => 155 | 5 => 5 | 9 => 9 | 51 => 181 | 55 => 185 | 57 => 203 | 58 => 60 | 33 => 100 | n => n, fun | n => n⟩
theorem Tryz.sortedK : Go.Proofs.SlLaysZ.n6 Tryz.prog Tryz.sortedK_ren := {
 mixed := by kernel_rfl
 f6 := ⟨Tryz.f38.name, by decide, Tryz.func38.trans (congrArg some (by kernel_rfl))⟩
 f8 := ⟨Tryz.f83.name, by decide, Tryz.func83.trans (congrArg some (by kernel_rfl))⟩
 f11 := ⟨Tryz.f122.name, by decide, Tryz.func122.trans (congrArg some (by kernel_rfl))⟩
 t0 := Tryz.underlying0
 a0 := Tryz.isAgg0
 z0 := Tryz.sizeOf0
 v0 := Tryz.zeroValue0
 t24 := Tryz.underlying26
 a24 := Tryz.isAgg26
 z24 := Tryz.sizeOf26
 v24 := Tryz.zeroValue26
 t26 := Tryz.underlying9
 a26 := Tryz.isAgg9
 z26 := Tryz.sizeOf9
 v26 := Tryz.zeroValue9
 t28 := Tryz.underlying73
 a28 := Tryz.isAgg73
 z28 := Tryz.sizeOf73
 v28 := Tryz.zeroValue73
 i26 := by kernel_rfl }
def Tryz.sortK_ren : Go.Shelf.Ren := ⟨fun | 6 => 40 | 8 => 86 | 9 => 85 | 19 => 132 | 20 => 133 | 21 => 123 | 22 => 124 | 23 => 125 | 24 => 126 | 25 => 127 | 26 => 128 | 27 => 129 | 28 => 130 | 29 => 131 | 36 => 159 | 31 => 160 | 32 => 161 | 37 => 162 | 38 => 163 | 39 => 134 | 41 => 193 | n => n, fun | 27 => 26 | 29 => 9 | 3 => 3 | 32 => 56 | 26 => 26 | 0 => 0 | 44 => 87 | 46 => 90 | 4 => 4 | 36 => 151 | 35 => 150 | 41 => 155 | 5 => 5 | 9 => 9 | 53 => 181 | 57 => 185 | 63 => 203 | 64 => 60 | n => n, fun | n => n⟩
theorem Tryz.sortK : Go.Proofs.SlLaysM.n6 Tryz.prog Tryz.sortK_ren := {
 mixed := by kernel_rfl
 f6 := ⟨Tryz.f40.name, by decide, Tryz.func40.trans (congrArg some (by kernel_rfl))⟩
 f8 := Tryz.func86.trans (congrArg some (by kernel_rfl))
 f9 := ⟨Tryz.f85.name, by decide, Tryz.func85.trans (congrArg some (by kernel_rfl))⟩
 f19 := Tryz.func132.trans (congrArg some (by kernel_rfl))
 f20 := Tryz.func133.trans (congrArg some (by kernel_rfl))
 f21 := ⟨Tryz.f123.name, by decide, Tryz.func123.trans (congrArg some (by kernel_rfl))⟩
 f22 := ⟨Tryz.f124.name, by decide, Tryz.func124.trans (congrArg some (by kernel_rfl))⟩
 f23 := ⟨Tryz.f125.name, by decide, Tryz.func125.trans (congrArg some (by kernel_rfl))⟩
 f24 := ⟨Tryz.f126.name, by decide, Tryz.func126.trans (congrArg some (by kernel_rfl))⟩
 f25 := ⟨Tryz.f127.name, by decide, Tryz.func127.trans (congrArg some (by kernel_rfl))⟩
 f26 := ⟨Tryz.f128.name, by decide, Tryz.func128.trans (congrArg some (by kernel_rfl))⟩
 f27 := ⟨Tryz.f129.name, by decide, Tryz.func129.trans (congrArg some (by kernel_rfl))⟩
 f28 := ⟨Tryz.f130.name, by decide, Tryz.func130.trans (congrArg some (by kernel_rfl))⟩
 f29 := ⟨Tryz.f131.name, by decide, Tryz.func131.trans (congrArg some (by kernel_rfl))⟩
 f31 := Tryz.func160.trans (congrArg some (by kernel_rfl))
 f32 := Tryz.func161.trans (congrArg some (by kernel_rfl))
 f36 := ⟨Tryz.f159.name, by decide, Tryz.func159.trans (congrArg some (by kernel_rfl))⟩
 f37 := ⟨Tryz.f162.name, by decide, Tryz.func162.trans (congrArg some (by kernel_rfl))⟩
 f38 := ⟨Tryz.f163.name, by decide, Tryz.func163.trans (congrArg some (by kernel_rfl))⟩
 f39 := ⟨Tryz.f134.name, by decide, Tryz.func134.trans (congrArg some (by kernel_rfl))⟩
 f41 := ⟨Tryz.f193.name, by decide, Tryz.func193.trans (congrArg some (by kernel_rfl))⟩
 t0 := Tryz.underlying0
 a0 := Tryz.isAgg0
 z0 := Tryz.sizeOf0
 v0 := Tryz.zeroValue0
 t3 := Tryz.underlying3
 a3 := Tryz.isAgg3
 z3 := Tryz.sizeOf3
 v3 := Tryz.zeroValue3
 t4 := Tryz.underlying4
 a4 := Tryz.isAgg4
 z4 := Tryz.sizeOf4
 v4 := Tryz.zeroValue4
 t5 := Tryz.underlying5
 a5 := Tryz.isAgg5
 z5 := Tryz.sizeOf5
 v5 := Tryz.zeroValue5
 t9 := Tryz.underlying9
 a9 := Tryz.isAgg9
 z9 := Tryz.sizeOf9
 v9 := Tryz.zeroValue9
 t26 := Tryz.underlying26
 a26 := Tryz.isAgg26
 z26 := Tryz.sizeOf26
 v26 := Tryz.zeroValue26
 t27 := Tryz.underlying26
 a27 := Tryz.isAgg26
 z27 := Tryz.sizeOf26
 v27 := Tryz.zeroValue26
 t29 := Tryz.underlying9
 a29 := Tryz.isAgg9
 z29 := Tryz.sizeOf9
 v29 := Tryz.zeroValue9
 t32 := Tryz.underlying56
 a32 := Tryz.isAgg56
 z32 := Tryz.sizeOf56
 v32 := Tryz.zeroValue56
 t35 := Tryz.underlying150
 a35 := Tryz.isAgg150
 z35 := Tryz.sizeOf150
 v35 := Tryz.zeroValue150
 t36 := Tryz.underlying151
 a36 := Tryz.isAgg151
 z36 := Tryz.sizeOf151
 v36 := Tryz.zeroValue151
 t41 := Tryz.underlying155
 a41 := Tryz.isAgg155
 z41 := Tryz.sizeOf155
 v41 := Tryz.zeroValue155
 t44 := Tryz.underlying87
 a44 := Tryz.isAgg87
 z44 := Tryz.sizeOf87
 v44 := Tryz.zeroValue87
 t46 := Tryz.underlying90
 a46 := Tryz.isAgg90
 z46 := Tryz.sizeOf90
 v46 := Tryz.zeroValue90
 t53 := Tryz.underlying181
 a53 := Tryz.isAgg181
 z53 := Tryz.sizeOf181
 v53 := Tryz.zeroValue181
 t57 := Tryz.underlying185
 a57 := Tryz.isAgg185
 z57 := Tryz.sizeOf185
 v57 := Tryz.zeroValue185
 t63 := Tryz.underlying203
 a63 := Tryz.isAgg203
 z63 := Tryz.sizeOf203
 v63 := Tryz.zeroValue203
 t64 := Tryz.underlying60
 a64 := Tryz.isAgg60
 z64 := Tryz.sizeOf60
 v64 := Tryz.zeroValue60 }
def Tryz.keysSB_ren : Go.Shelf.Ren := ⟨fun | 7 => 39 | 10 => 84 | n => n, fun | 23 => 69 | 26 => 9 | 3 => 4 | 28 => 73 | 0 => 0 | 27 => 72 | 33 => 100 | 4 => 4 | n => n, fun | n => n⟩
theorem Tryz.keysSB : Go.Proofs.SlLaysZ.n7 Tryz.prog Tryz.keysSB_ren := {
 mixed := by kernel_rfl
 f7 := ⟨Tryz.f39.name, by decide, Tryz.func39.trans (congrArg some (by kernel_rfl))⟩
 f10 := ⟨Tryz.f84.name, by decide, Tryz.func84.trans (congrArg some (by kernel_rfl))⟩
 t0 := Tryz.underlying0
 a0 := Tryz.isAgg0
 z0 := Tryz.sizeOf0
 v0 := Tryz.zeroValue0
 t4 := Tryz.underlying4
 a4 := Tryz.isAgg4
 z4 := Tryz.sizeOf4
 v4 := Tryz.zeroValue4
 t23 := Tryz.underlying69
 a23 := Tryz.isAgg69
 z23 := Tryz.sizeOf69
 v23 := Tryz.zeroValue69
 t26 := Tryz.underlying9
 a26 := Tryz.isAgg9
 z26 := Tryz.sizeOf9
 v26 := Tryz.zeroValue9
 t27 := Tryz.underlying72
 a27 := Tryz.isAgg72
 z27 := Tryz.sizeOf72
 v27 := Tryz.zeroValue72
 t28 := Tryz.underlying73
 a28 := Tryz.isAgg73
 z28 := Tryz.sizeOf73
 v28 := Tryz.zeroValue73
 t33 := Tryz.underlying100
 a33 := Tryz.isAgg100
 z33 := Tryz.sizeOf100
 v33 := Tryz.zeroValue100 }
end Go.Proofs

/- Sorting, Compact, Join, the sorted keys of a map (the shelf's contracts in my words). -/
namespace Go.Proofs.YtbajgjbdcgakoaaGreatDoor
set_option linter.unusedVariables false
set_option linter.unusedSimpArgs false
open Go.RowKit Go.Sort

def SameRow2 (w : World) (base : Nat) (v : Value) (ss : List Str) (e : Ending) (w' : World) : Prop :=
 e = .returned (.tuple #[]) ∧ w'.ownsRow base 9 1 v ss.length (strsV ss) ∧ Mod (fun k => v.ownBlock = some k) w w'
theorem grown_mod2 {w w' : World} {row : Option Nat} (h : w.grownBy w' row) : Mod (fun k => row = some k) w w' :=
 ⟨h.os, h.tape, h.output, h.size, fun k hk hs => h.block k hk (fun x => hs x.symm)⟩
theorem sortS_calls2 (w : World) (v : Value) (n base : Nat) (ss : List Str) (hown : w.ownsRow base 9 1 v n (strsV ss)) (hl : ss.length ≤ 1000000) :
  Calls Tryz.prog 40 #[v] w (SameRow2 w base v (ss.mergeSort fun x y => decide (x ≤ y))) := by
 have hn : n = ss.length := by have := hown.1; simp [strsV] at this; omega
 subst hn
 rcases hown.2 with ⟨rfl, h0⟩ | ⟨g, cap, cur, rfl, hbase, hb, h1, h2, h3, h4⟩
 ·have e : ss = [] := List.eq_nil_of_length_eq_zero h0
  subst e
  refine (Any.slices_Sort_string_none Tryz.lays190 none 0 w).mono ?_
  rintro e w' ⟨rfl, rfl⟩
  exact ⟨rfl, by simpa using hown, Mod.refl _ _⟩
 ·refine (Any.slices_Sort_string Tryz.lays190 g 0 cap ss w (holds_of_block hb (by simpa [strsV] using h4)) (lt_of_heap hb) (by omega)).mono ?_
  rintro e w' ⟨rfl, nn, os, rfl⟩
  refine ⟨rfl, ?_, grown_mod2 (grownBy_sorted _)⟩
  have := ownsRow_sorted (n := nn) (os := os) (ts := ss.mergeSort fun x y => decide (x ≤ y)) (ss := ss) (by simp) hbase hb h1 h2 h3
  simpa [strsV] using this


/-- What Compact hands back. -/
def CompactPost2 (w : World) (base g cap : Nat) (ss : List Str) (e : Ending) (w' : World) : Prop :=
 e = .returned (.slice (some ⟨g, 0, none⟩) (Lib.compact ss).length cap) ∧ w'.ownsRow base 9 1 (.slice (some ⟨g, 0, none⟩) (Lib.compact ss).length cap) (Lib.compact ss).length (strsV (Lib.compact ss)) ∧ Mod (fun k => k = g) w w'
theorem own_shrink2 {w : World} {base g cap n m : Nat} {e : TypeId} {xs : List Value} (h : w.ownsRow base e 1 (.slice (some ⟨g, 0, none⟩) n cap) n xs) (hm : m ≤ n) : w.ownsRow base e 1 (.slice (some ⟨g, 0, none⟩) m cap) m (xs.take m) := by
 rcases h.2 with ⟨h0, _⟩ | ⟨g', cap', cur, hv, hbase, hb, h1, h2, h3, h4⟩
 ·cases h0
 ·cases hv
  have := h.1
  refine ⟨by simp; omega, .inr ⟨g, cap, cur, rfl, hbase, hb, by omega, h2, h3, ?_⟩⟩
  rw [← h4, List.take_take]
  congr 1
  omega
theorem compact_le2 (ss : List Str) : (Lib.compact ss).length ≤ ss.length := by
 unfold Lib.compact Lib.compactUpTo
 rw [List.length_map]
 have := List.length_filter_le (Lib.keeps ss.toArray) (List.range ss.length)
 simpa using this
theorem compactS_calls2 (w : World) (g cap n base : Nat) (ss : List Str) (hown : w.ownsRow base 9 1 (.slice (some ⟨g, 0, none⟩) n cap) n (strsV ss)) (hl : ss.length ≤ 1000000) :
  Calls Tryz.prog 41 #[.slice (some ⟨g, 0, none⟩) n cap] w (CompactPost2 w base g cap ss) := by
 have hn : n = ss.length := by have := hown.1; simp [strsV] at this; omega
 subst hn
 rcases hown.2 with ⟨h0, _⟩ | ⟨g', cap', cur, hv, hbase, hb, h1, h2, h3, h4⟩
 ·cases h0
 ·cases hv
  refine (Any.slices_Compact_string Tryz.lays194 g 0 cap ss w (holds_of_block hb (by simpa [strsV] using h4)) (by omega) h1).mono ?_
  rintro e w' ⟨rfl, nn, rfl⟩
  have e0 : ∀ W : World, W = grow W #[] := fun W => by simp [grow]
  rw [e0 (putRow _ _ _ _ _)]
  have hcl := compact_le2 ss
  refine ⟨rfl, ?_, (grown_mod2 (grownBy_sorted _)).mono (fun k hk => by injection hk with hk; exact hk.symm)⟩
  have h := ownsRow_sorted (n := nn) (os := #[]) (ts := Lib.compact ss ++ List.replicate (ss.length - (Lib.compact ss).length) []) (ss := ss) (by simp; omega) hbase hb h1 h2 h3
  have h2 := own_shrink2 h hcl
  rw [List.map_append, List.take_left' (by simp)] at h2
  exact h2

end Go.Proofs.YtbajgjbdcgakoaaGreatDoor

namespace Go.Proofs.YtbajgjbdcgakoaaGreatDoor
open Go.RowKit

end Go.Proofs.YtbajgjbdcgakoaaGreatDoor

namespace Go.Proofs.YtbajgjbdcgakoaaGreatDoor
open Go.RowKit

end Go.Proofs.YtbajgjbdcgakoaaGreatDoor

namespace Go.Proofs.YtbajgjbdcgakoaaGreatDoor
open Go.RowKit Go.Maps Go.Sort Go.Shelf

theorem sortsK (m : Nat) : AnyZ.SortsIn Tryz.prog Tryz.sortedK_ren Fence.wide m := -- 38
  ⟨fun blk off cap ss W hH hblk hsz => callsIn_wide.2 (AnyM.slices_Sort_string Tryz.sortK blk off cap ss W hH hblk hsz),
   fun p cap W => callsIn_wide.2 (AnyM.slices_Sort_string_none Tryz.sortK p cap W)⟩
/-- The keys of a map, as they stand in the datum. -/
theorem perm_keys {w : World} {b n : Nat} {R : Value → Option (DataW Value × List MemPlace)} {D : DataW Value} (hown : w.ownsMap Tryz.prog 9 R b n D) {K : List Str} (hn : K.Nodup) (hK : ∀ x, x ∈ K ↔ Maps.has D (.string x) = true) : K.Perm (strKeys D) := by
 obtain ⟨es, hD, hpw, _⟩ := hown.entries strKey
 obtain ⟨es', hD', hko⟩ := hown.keysOf
 obtain rfl : es = es' := by rw [hD] at hD'; simpa using hD'
 subst hD
 exact perm_strKeys hpw (fun p hp => by obtain ⟨v, hv⟩ := hko p hp; obtain ⟨x, _, hx, _⟩ := Maps.keyOf_str Tryz.underlying9 hv; exact ⟨x, hx⟩) hn hK
theorem size_keys {w : World} {b n : Nat} {R : Value → Option (DataW Value × List MemPlace)} {D : DataW Value} (hown : w.ownsMap Tryz.prog 9 R b n D) : Maps.size D ≤ n := hown.size_le

def SortedPost (w : World) (ys : List Str) (e : Ending) (w' : World) : Prop := ∃ v, e = .returned v ∧ w'.ownsRow w.heap.size 9 1 v ys.length (strsV ys) ∧ Pure w w'
theorem mapsKeysSB_calls (mb : Option Nat) (W : World) : Calls Tryz.prog 39 #[.map mb] W fun e w' => e = .returned (.func (.func 84) #[] #[.pointer (some ⟨W.heap.size, 0, none⟩)]) ∧ w' = W.alloc (.cells #[.map mb] 69) :=
 callsIn_wide.1 (AnyZ.keys_in Tryz.keysSB Fence.wide 5 trivial rfl mb W)

set_option maxHeartbeats 1000000 in
theorem sortedSB_calls (b n : Nat) (f : Str → Option Value) (w : World) (hM : MapS w b n f) (hn : n ≤ 1000000) (K : List Str) (hKn : K.Nodup) (hK : ∀ x, x ∈ K ↔ (f x).isSome = true) :
  Calls Tryz.prog 38 #[.func (.func 84) #[] #[.pointer (some ⟨w.heap.size, 0, none⟩)]] (w.alloc (.cells #[.map (some b)] 69)) (SortedPost (w.alloc (.cells #[.map (some b)] 69)) (K.mergeSort fun x y => decide (x ≤ y))) := by
 obtain ⟨D0, hown, _, hhas⟩ := hM
 have hsz := size_keys hown
 have hperm : K.Perm (strKeys D0) := perm_keys hown hKn (fun x => by rw [hK x, hhas x])
 have hbl := hown.lt
 have hseq : SeqGives Fence.wide 2 Tryz.prog 84 #[.pointer (some ⟨w.heap.size, 0, none⟩)] encStr (fun ss => ss.Perm (strKeys D0)) (Maps.size D0) (w.alloc (.cells #[.map (some b)] 69)) :=
  AnyZ.keys_gives (ρ := Tryz.keysSB_ren) { Tryz.keysSB with } Fence.wide _ trivial rfl (by omega) w.heap.size b n D0 _ (by simp) (by simp) (by
   obtain ⟨es, clock, hb, Ft, hs, hD⟩ := hown
   exact ⟨es, clock, (Below.heap_alloc _ _ b hbl).trans hb, Ft, hs, hD⟩)
 have hmain := callsIn_wide.1 (AnyZ.sorted_in Tryz.sortedK Fence.wide 5 trivial trivial trivial trivial rfl (by omega) (sortsK _) (enters_of Tryz.func40 (by kernel_rfl) rfl) 84 #[.pointer (some ⟨w.heap.size, 0, none⟩)] trivial (enters_of Tryz.func84 (by kernel_rfl) rfl) _ (Maps.size D0) (by unfold maxLen; omega) (by omega) _ hseq)
 refine hmain.mono ?_
 rintro e w' ⟨v, ss, rfl, hS, hrow, hnil, hb⟩
 have he : ss.mergeSort (fun x y => decide (x ≤ y)) = K.mergeSort fun x y => decide (x ≤ y) := mergeSort_of_perm (hS.trans hperm.symm)
 rw [he] at hrow
 have hl : ss.length = (K.mergeSort fun x y => decide (x ≤ y)).length := by rw [← he]; simp
 rw [hl] at hrow
 exact ⟨v, rfl, hrow, Mod.of_below hb⟩

end Go.Proofs.YtbajgjbdcgakoaaGreatDoor

/- The patterns of a search: the program. -/
namespace Go.Proofs.YtbajgjbdcgakoaaGreatDoor
set_option linter.unusedVariables false
set_option linter.unusedSimpArgs false
open Go.RowKit

/-- The patterns of a right search; its error, and none, of a wrong one. -/
def PtnP (w : World) (q : Qry) (l : List Str) (e : Ending) (w' : World) : Prop := ∃ v, e = .returned (.tuple #[v, .int .i64 (checkQ q)]) ∧ Sl w' 9 1 v (strsV (if checkQ q = 0 then l else [])) ∧ Pure w w'
theorem size_check {q : Qry} (h : checkQ q = 0) : qSize q ≤ 100 := by
 unfold checkQ at h
 by_cases hf : qFit q 0 0 0 = true
 ·unfold qFit at hf
  simp only [Bool.and_eq_true, decide_eq_true_eq] at hf
  omega
 ·rw [if_neg hf] at h
  cases h
set_option maxRecDepth 100000 in
set_option maxHeartbeats 8000000 in
theorem patterns_calls (w : World) (qr : QR) (hQ : QS w qr) (hB : QB 1000 qr.key) : Calls Tryz.prog 15 #[qA qr] w (PtnP w qr.key (srtQ (uniq (patsQ qr.key)))) := by
 obtain ⟨k, A, c, ws, n, B, d, xs, rfl⟩ := qr.ex
 have HB0 := Lib.hid (Blk.new w 29 #[.int .i64 k, .slice A ws.length c, .int .i64 n, .slice B xs.length d])
 have hpa := pure_alloc w (.cells #[.int .i64 k, .slice A ws.length c, .int .i64 n, .slice B xs.length d] 29)
 have HP0 := Lib.hid hpa
 have HQ := Lib.hid hQ
 have HBD := Lib.hid hB
 have HCK := Lib.hid (qcheck_calls (w.alloc (.cells #[.int .i64 k, .slice A ws.length c, .int .i64 n, .slice B xs.length d] 29)) _ (hQ.pure hpa) hB)
 obtain ⟨ck, hck⟩ : ∃ ck, checkQ (QR.mk k A c ws n B d xs).key = ck := ⟨_, rfl⟩
 have HC0 := Lib.hid hck
 rw [hck] at HCK
 rw [qA_mk] at HCK ⊢
 clear hck hpa hQ hB
 go_enter Tryz.func15, Tryz.ntmps15
 go_upto_region 1 with (fail)
 generalize (w.alloc (.cells #[.int .i64 k, .slice A ws.length c, .int .i64 n, .slice B xs.length d] 29)) = w1 at *
 generalize hg0 : w.heap.size = g0 at *
 have hwg : w.heap.size ≤ g0 := Nat.le_of_eq hg0
 clear hg0
 have hmm := @run_makeMap Tryz.prog
 have hb0 := HB0.out
 have x0 := hb0.cell 0; have x1 := hb0.cell 1; have x2 := hb0.cell 2; have x3 := hb0.cell 3; simp at x0 x1 x2 x3
 clear hb0
 go_wp2_with fail
 refine HCK.out.mono ?_
 rintro e w2 ⟨rfl, hm2⟩
 have hb2 := HB0.out.modp hm2
 have HP2 : Hid (Pure w w2) := Lib.hid (HP0.out.trans hm2)
 by_cases h0 : ck = 0
 ·subst h0
  have hO := (((hb2.alloc (.map #[] 0)).alloc (.cells #[.map (some w2.heap.size)] 69)).alloc (.cells #[.nilFunc] 70))
  have hSM : SetS (((w2.alloc (.map #[] 0)).alloc (.cells #[.map (some w2.heap.size)] 69)).alloc (.cells #[.nilFunc] 70)) w2.heap.size 0 [] := (SetS.made w2).pure (((Mod.refl _ _).alloc _).alloc _)
  have hI := (Blk.snd w2 (.map #[] 0) 69 #[.map (some w2.heap.size)]).alloc (.cells #[.nilFunc] 70)
  have hF := Blk.snd (w2.alloc (.map #[] 0)) (.cells #[.map (some w2.heap.size)] 69) 70 #[.nilFunc]
  rw [World.size_alloc] at hF
  have hP3 := (((Mod.refl (fun _ => False) w2).alloc (.map #[] 0)).alloc (.cells #[.map (some w2.heap.size)] 69)).alloc (.cells #[.nilFunc] 70)
  have hg2 : w.heap.size ≤ w2.heap.size := HP2.out.size
  have hg02 := hb2.lt
  clear hb2 hm2 x0 x1 x2 x3 HCK
  go_upto_region 6 with (fail)
  generalize (((w2.alloc (.map #[] 0)).alloc (.cells #[.map (some w2.heap.size)] 69)).alloc (.cells #[.nilFunc] 70)) = w3 at *
  generalize hmb : w2.heap.size = mb at *
  have hmb1 : w2.heap.size ≤ mb := Nat.le_of_eq hmb
  clear hmb
  have q0 := hF.cell 0
  have q1 := hF.frozen 0
  simp at q0
  have hst : Sem.run Tryz.prog (store ⟨mb + 1 + 1, 0, none⟩ (.func (.func 37) #[] #[.pointer (some ⟨mb + 1, 0, none⟩), .pointer (some ⟨mb + 1 + 1, 0, none⟩)])) w3 = .ok () (w3.setCell ⟨mb + 1 + 1, 0, none⟩ (.func (.func 37) #[] #[.pointer (some ⟨mb + 1, 0, none⟩), .pointer (some ⟨mb + 1 + 1, 0, none⟩)])) := by
   refine (run_store _ _ _ _ _ rfl).trans ?_
   simp [stored, q0, q1]
  have hO2 := hO.far (p := ⟨mb + 1 + 1, 0, none⟩) (by show g0 ≠ mb + 1 + 1; omega) (.func (.func 37) #[] #[.pointer (some ⟨mb + 1, 0, none⟩), .pointer (some ⟨mb + 1 + 1, 0, none⟩)])
  have hI2 := hI.far (p := ⟨mb + 1 + 1, 0, none⟩) (by show mb + 1 ≠ mb + 1 + 1; omega) (.func (.func 37) #[] #[.pointer (some ⟨mb + 1, 0, none⟩), .pointer (some ⟨mb + 1 + 1, 0, none⟩)])
  have hF2 := hF.set 0 (.func (.func 37) #[] #[.pointer (some ⟨mb + 1, 0, none⟩), .pointer (some ⟨mb + 1 + 1, 0, none⟩)])
  have hm4 : Mod (· = mb + 1 + 1) w3 (w3.setCell ⟨mb + 1 + 1, 0, none⟩ (.func (.func 37) #[] #[.pointer (some ⟨mb + 1, 0, none⟩), .pointer (some ⟨mb + 1 + 1, 0, none⟩)])) := mod_set (Mod.refl _ _) 0 _
  have hS2 := hSM.mod hm4 (by omega)
  have HP4 : Hid (Pure w (w3.setCell ⟨mb + 1 + 1, 0, none⟩ (.func (.func 37) #[] #[.pointer (some ⟨mb + 1, 0, none⟩), .pointer (some ⟨mb + 1 + 1, 0, none⟩)]))) := Lib.hid ((HP2.out.trans hP3).trans' hm4 (fun i hi hlt => by omega))
  have hsz := size_check HC0.out
  have HC := Lib.hid (take_calls (.mk k A c ws n B d xs) _ 0 [] (mb + 1) (mb + 1 + 1) mb (HQ.out.pure HP4.out) HBD.out hI2 (by simpa using hF2) hS2 (by omega))
  rw [qA_mk] at HC
  have HI2 := Lib.hid hI2
  clear hO hI hF hP3 hm4 hS2 hSM
  go_upto_region 7 with (fail)
  generalize (w3.setCell ⟨mb + 1 + 1, 0, none⟩ (.func (.func 37) #[] #[.pointer (some ⟨mb + 1, 0, none⟩), .pointer (some ⟨mb + 1 + 1, 0, none⟩)])) = w4 at *
  clear q0 q1 hst
  have hF3 : Blk w4 (mb + 1 + 1) 70 #[.func (.func 37) #[] #[.pointer (some ⟨mb + 1, 0, none⟩), .pointer (some ⟨mb + 1 + 1, 0, none⟩)]] := by simpa using hF2
  have x0 := hO2.cell 0; have x1 := hO2.cell 1; have x2 := hO2.cell 2; have x3 := hO2.cell 3; simp at x0 x1 x2 x3
  have f0 := hF3.cell 0; simp at f0
  clear hO2 hF2 hF3 hI2
  go_wp2_with fail
  refine HC.out.mono ?_
  rintro e w5 ⟨n5, rfl, hn5, hs5, hm5⟩
  rw [List.nil_append] at hs5
  have HP5 : Hid (Pure w w5) := Lib.hid (HP4.out.trans' hm5 (fun i hi hlt => by omega))
  have hI5 := HI2.out.modb hm5 (by omega)
  have hK := Lib.hid (mapsKeysSB_calls (some mb) w5)
  have hS := Lib.hid (sortedSB_calls mb n5 _ w5 hs5 (by omega) (uniq (patsQ (QR.mk k A c ws n B d xs).key)) (nodup_uniq _) (fun x => by unfold setF; rw [mem_uniq]; by_cases hx : x ∈ patsQ (QR.mk k A c ws n B d xs).key <;> simp [hx]))
  have hpa5 := pure_alloc w5 (.cells #[.map (some mb)] 69)
  have HPA := Lib.hid hpa5
  have y0 := hI5.cell 0; simp at y0
  clear hpa5 hn5 hs5 hm5 hI5 HC HI2 HBD HQ x0 x1 x2 x3 f0 HP4
  go_wp2_with fail
  refine hK.out.mono ?_
  rintro e w6 ⟨rfl, hw6⟩
  have hw7 := hw6.symm
  subst hw7
  clear hw6
  go_wp2_with fail
  refine hS.out.mono ?_
  rintro e w8 ⟨v8, rfl, hown8, hm8⟩
  have HR : Hid (PtnP w (QR.mk k A c ws n B d xs).key (srtQ (uniq (patsQ (QR.mk k A c ws n B d xs).key))) (.returned (.tuple #[v8, .int .i64 0])) w8) := Lib.hid ⟨_, by rw [HC0.out], by rw [HC0.out, if_pos rfl]; exact Sl.of_own hown8, (HP5.out.trans HPA.out).trans hm8⟩
  clear hown8 hm8 hK hS HPA HP5 HC0
  go_wp2_with fail
  go_ret2
  exact HR.out
 ·have h0i : (ck == 0) = false := by simpa using h0
  have HR : Hid (PtnP w (QR.mk k A c ws n B d xs).key (srtQ (uniq (patsQ (QR.mk k A c ws n B d xs).key))) (.returned (.tuple #[.slice none 0 0, .int .i64 ck])) w2) := Lib.hid ⟨_, by rw [HC0.out], by rw [HC0.out, if_neg h0]; exact Sl.nil_, HP2.out⟩
  clear hb2 hm2 x0 x1 x2 x3 HCK HC0 HQ HBD
  go_wp2_with fail
  go_ret2
  exact HR.out

end Go.Proofs.YtbajgjbdcgakoaaGreatDoor

/- The patterns of a search: the reference. -/
namespace Go.Proofs.YtbajgjbdcgakoaaGreatDoor
set_option linter.unusedVariables false
set_option linter.unusedSimpArgs false
open Go.RowKit

theorem strsV_oneP (l : List Str) : ∀ u ∈ strsV l, u.oneCell' = true := by
 intro u hu
 obtain ⟨x, _, rfl⟩ := List.mem_map.1 hu
 rfl
theorem strsV_lenP (l : List Str) : (strsV l).length = l.length := by simp [strsV]
set_option maxRecDepth 100000 in
/-- append of a row of strings to a row that is one's own. -/
theorem run_appSs (w : World) (ty : TypeId) (base n m c0 : Nat) (v : Value) (U : Option Addr) (xs l : List Str) (hown : w.ownsRow base 9 1 v n (strsV xs)) (hu : Sl w 9 1 (.slice U m c0) (strsV l)) (hn : U = none → c0 = 0) (hb : base ≤ w.heap.size) (hs : n + l.length ≤ 100000000) :
  ∃ A c w', (Builtin.append_ #[26, 26] ty #[v, .slice U m c0]).run Tryz.prog w = .ok (.slice A (n + l.length) c) w' ∧ w'.ownsRow base 9 1 (.slice A (n + l.length) c) (n + l.length) (strsV (xs ++ l)) ∧ w.grownBy w' v.ownBlock ∧ ((Value.slice A (n + l.length) c).ownBlock = v.ownBlock ∨ (Value.slice A (n + l.length) c).ownBlock = some w.heap.size) := by
 obtain ⟨i0, hi0, hz0, hz1, hz2⟩ := info_parts info_strS
 have hm := hu.lenS
 subst hm
 have hxs : strsV xs ++ strsV l = strsV (xs ++ l) := by simp [strsV]
 cases U with
 | none =>
  obtain rfl := hn rfl
  have hl : l = [] := by
   obtain ⟨_, _, _, e, _, _, _, h⟩ := hu
   cases e
   rcases Nat.eq_zero_or_pos l.length with h0 | h0
   ·exact List.eq_nil_of_length_eq_zero h0
   ·obtain ⟨_, _, e, _⟩ := h h0
    cases e
  subst hl
  have hr := run_append_owned_none (P := Tryz.prog) (w := w) base 26 ty 9 i0 1 Tryz.underlying26 hi0 v n (strsV xs) hown
  obtain ⟨A, c, rfl⟩ := own_formS hown
  exact ⟨A, c, w, by simpa using hr, by simpa using hown, ⟨rfl, rfl, rfl, Nat.le_refl _, fun _ _ _ => rfl⟩, .inl rfl⟩
 | some ad =>
  obtain ⟨_, _, _, e, _, _, _, hrow⟩ := hu
  cases e
  have hc : ∀ j u, (strsV l)[j]? = some u → w.cell? (ad.add j) = some u := by
   intro j u hj
   have hjl : j < l.length := by
    have := (List.getElem?_eq_some_iff.1 hj).1
    rwa [strsV_lenP] at this
   obtain ⟨g3, o3, he3, hr3⟩ := hrow (by omega)
   injection he3 with he3
   subst he3
   have := hr3.cell hj
   unfold Addr.add
   split
   ·rename_i h0; subst h0; simpa using this
   ·exact this
  obtain ⟨v', w', hr, h2, h3, h4, h5⟩ := run_append_own_at (P := Tryz.prog) w base 26 ty 9 i0 _ 1 16 Tryz.underlying26 hi0 hz0 hz1 hz2 rfl (by omega) v n (strsV xs) hown ad l.length c0 (strsV l) (by rw [strsV_lenP]; omega) hc (strsV_oneP l) (by simp [maxLen]; omega) (by omega) hb
  obtain ⟨A, c', rfl⟩ := own_formS h2
  rw [hxs] at h2
  exact ⟨A, c', w', hr, h2, h3, h5⟩
/-- Searches by words have words. -/
inductive PtnR : Qry → Prop
 | mk {k n : Int} {ws : List Str} {xs : List Qry} (h : patK k = true → ws ≠ []) (hs : ∀ a ∈ xs, PtnR a) : PtnR (.mk k ws n xs)
theorem PtnR.hereH {k n : Int} {ws : List Str} {xs : List Qry} (h : PtnR (.mk k ws n xs)) : patK k = true → ws ≠ [] := by cases h; assumption
theorem PtnR.allH {k n : Int} {ws : List Str} {xs : List Qry} (h : PtnR (.mk k ws n xs)) : ∀ a ∈ xs, PtnR a := by cases h; assumption
theorem form_wd {M : Nat} {k n : Int} {nw na : Nat} (h : formB M k nw n na = true) (hk : patK k = true) : 1 ≤ nw := by
 unfold formB at h
 simp only [Bool.and_eq_true, decide_eq_true_eq] at h
 have hk2 : k = 2 ∨ k = 3 := of_decide_eq_true hk
 rcases hk2 with rfl | rfl <;> simp [useQ] at h <;> omega
theorem ptnR_of : ∀ (q : Qry) (M : Nat) (must : Bool), fltQ M must q = 0 → PtnR q := by
 refine Qry.ind (fun k ws n xs ih M must h => ?_)
 obtain ⟨h1, h2⟩ := flt_parts h
 refine .mk (fun hk e => ?_) (fun a ha => ih a ha M _ (h2 a ha))
 unfold headE at h1
 by_cases c1 : ¬ (1 ≤ k ∧ k ≤ 13)
 ·rw [if_pos c1] at h1; cases h1
 ·rw [if_neg c1] at h1
  by_cases c2 : must = true ∧ byWK k = false
  ·rw [if_pos c2] at h1; cases h1
  ·rw [if_neg c2] at h1
   by_cases c3 : formB M k ws.length n xs.length = false
   ·rw [if_pos c3] at h1; cases h1
   ·have := form_wd (by simpa using c3) hk
    rw [e] at this
    simp at this
theorem ptnR_check {q : Qry} (h : checkQ q = 0) : PtnR q := by
 unfold checkQ at h
 by_cases hf : qFit q 0 0 0 = true
 ·rw [if_pos hf] at h
  exact ptnR_of q _ _ h
 ·rw [if_neg hf] at h
  cases h
def pttT (ks : List Qry) (j : Nat) : List Str := ((ks.take j).map pttR).flatten
theorem pttT_zero (ks : List Qry) : pttT ks 0 = [] := by simp [pttT]
theorem pttT_succ {ks : List Qry} {j : Nat} (h : j < ks.length) : pttT ks (j + 1) = pttT ks j ++ pttR ks[j] := by
 unfold pttT
 rw [List.take_succ_eq_append_getElem h, List.map_append, List.flatten_append, List.map_singleton, List.flatten_singleton]
theorem pttT_all (ks : List Qry) : pttT ks ks.length = (ks.map pttR).flatten := by simp [pttT]
theorem srtQ_len (l : List Str) : (srtQ l).length = l.length := List.length_mergeSort _
theorem leafP_len (k : Int) (ws : List Str) : (leafP k ws).length ≤ ws.length := by
 unfold leafP
 split <;> simp
theorem pttR_len : ∀ q : Qry, QB 1000 q → (pttR q).length ≤ 1000 * qSize q := by
 refine Qry.ind (fun k ws n xs ih hB => ?_)
 rw [pttR, qSize]
 have h1 := compact_le2 (srtQ (leafP k ws ++ (xs.map pttR).flatten))
 have h2 := leafP_len k ws
 have h3 := hB.wsH.1
 have h4 : ∀ l : List Qry, (∀ a ∈ l, (pttR a).length ≤ 1000 * qSize a) → (l.map pttR).flatten.length ≤ 1000 * (l.map qSize).sum := by
  intro l
  induction l with
  | nil => intro _; simp
  | cons a t iht =>
   intro h
   have h5 := h a (by simp)
   have h6 := iht (fun x hx => h x (by simp [hx]))
   simp only [List.map_cons, List.flatten_cons, List.length_append, List.sum_cons]
   omega
 have h7 := h4 xs (fun a ha => ih a ha (hB.allH a ha))
 rw [srtQ_len, List.length_append] at h1
 omega
theorem pttT_len {ks : List Qry} (hB : ∀ a ∈ ks, QB 1000 a) : ∀ j, j ≤ ks.length → (pttT ks j).length ≤ 1000 * qSum ks j := by
 intro j
 induction j with
 | zero => intro _; rw [pttT_zero]; simp
 | succ j ih =>
  intro hj
  rw [pttT_succ (show j < ks.length by omega), qSum_succ (show j < ks.length by omega), List.length_append]
  have h1 := ih (by omega)
  have h2 := pttR_len ks[j] (hB _ (List.getElem_mem _))
  omega
def PtoP (w : World) (l : List Str) (e : Ending) (w' : World) : Prop := ∃ v, e = .returned v ∧ w'.ownsRow w.heap.size 9 1 v l.length (strsV l) ∧ Pure w w'
/-- A list that is one's own. -/
def PtI (w1 : World) (base : Nat) (l : List Str) (p : Value) (wx : World) : Prop := ∃ A c, p = .slice A l.length c ∧ wx.ownsRow base 9 1 (.slice A l.length c) l.length (strsV l) ∧ Pure w1 wx
theorem own_capP {w : World} {base m c : Nat} {A : Option Addr} {e : TypeId} {size : Nat} {xs : List Value} (h : w.ownsRow base e size (.slice A m c) m xs) : A = none → c = 0 := fun e => by
 subst e
 rcases h.2 with ⟨h1, _⟩ | ⟨g, cap, cur, h1, _⟩
 ·injection h1
 ·injection h1 with h1
  cases h1
set_option maxRecDepth 100000 in
set_option maxHeartbeats 8000000 in
theorem patternsOf_calls : ∀ (qr : QR) (w : World), QS w qr → PtnR qr.key → QB 1000 qr.key → qSize qr.key ≤ 1000 → Calls Tryz.prog 17 #[qA qr] w (PtoP w (pttR qr.key)) := by
 refine QR.ind (fun k A c ws n B d xs ih => ?_)
 intro w hQ hR hB hz
 rw [QR.key_mk] at hR hB hz ⊢
 rw [qSize] at hz
 have HIH := Lib.hid ih
 have HQ := Lib.hid hQ
 have HR := Lib.hid hR
 have HBD := Lib.hid hB
 have hwl := hB.wsH.1
 have hxl : xs.length ≤ 1000 := by simpa using hB.xsH
 have hB0 := Blk.new w 29 #[.int .i64 k, .slice A ws.length c, .int .i64 n, .slice B xs.length d]
 have hpa := pure_alloc w (.cells #[.int .i64 k, .slice A ws.length c, .int .i64 n, .slice B xs.length d] 29)
 have HP1 := Lib.hid hpa
 rw [qA_mk]
 clear hQ hR hB ih hpa
 go_enter Tryz.func17, Tryz.ntmps17
 go_upto_region 2 with (fail)
 generalize (w.alloc (.cells #[.int .i64 k, .slice A ws.length c, .int .i64 n, .slice B xs.length d] 29)) = w1 at *
 generalize hg0 : w.heap.size = g0 at *
 have hwg : w.heap.size ≤ g0 := Nat.le_of_eq hg0
 have hwg2 : g0 ≤ w.heap.size := Nat.le_of_eq hg0.symm
 clear hg0
 have HB0 := Lib.hid hB0
 have hgl := hB0.lt
 obtain ⟨base, hbase⟩ : ∃ base, w1.heap.size = base := ⟨_, rfl⟩
 have hb1 : base ≤ w1.heap.size := by omega
 have hb2 : w1.heap.size ≤ base := by omega
 clear hbase
 have x0 := hB0.cell 0; have x1 := hB0.cell 1; have x2 := hB0.cell 2; have x3 := hB0.cell 3; simp at x0 x1 x2 x3
 clear hB0
 obtain ⟨pk, hpk⟩ : ∃ pk, patK k = pk := ⟨_, rfl⟩
 have HPK := Lib.hid hpk
 clear hpk
 go_cut [13] from 6 to 12 (fun p wx => p = .bool pk ∧ w1 = wx)
 case first =>
  have e := HPK.out
  clear HPK HIH HQ HBD HP1 HB0 HR
  by_cases h2 : k = 2
  ·subst h2
   obtain rfl : true = pk := by rw [← e]; rfl
   clear e
   go_wp2_with fail
   go_meet
   exact ⟨by first | rfl | simp, rfl⟩
  ·have h2i : (k == 2) = false := by simpa using h2
   by_cases h3 : k = 3
   ·subst h3
    obtain rfl : true = pk := by rw [← e]; rfl
    clear e
    go_wp2_with fail
    go_meet
    exact ⟨by first | rfl | simp, rfl⟩
   ·have h3i : (k == 3) = false := by simpa using h3
    obtain rfl : false = pk := by rw [← e]; exact (decide_eq_false (by omega)).symm
    clear e h2 h3
    go_wp2_with fail
    go_meet
    exact ⟨by first | rfl | simp, rfl⟩
 case rest =>
  obtain ⟨rfl, rfl⟩ := hcut
  go_upto_if 13 with (fail)
  go_cut [3] (fun p wx => PtI w1 base (leafP k ws) p wx)
  case first =>
   cases pk with
   | false =>
    have e : leafP k ws = [] := by unfold leafP; rw [HPK.out]; rfl
    have HEE := Lib.hid e
    clear e
    go_wp2_with fail
    go_meet
    exact ⟨none, 0, by rw [HEE.out]; rfl, by rw [HEE.out]; exact World.ownsRow_nil _ _ _ _, Mod.refl _ _⟩
   | true =>
    have e : leafP k ws = ws := by unfold leafP; rw [HPK.out]; rfl
    have HEE := Lib.hid e
    have hws := HR.out.hereH HPK.out
    obtain ⟨A5, c5, w5, hr5, hown5, hgrow5, hat5⟩ := run_appSs w1 26 base 0 ws.length c (.slice none 0 0) A [] ws (World.ownsRow_nil _ _ _ _) (HQ.out.wsH.pure HP1.out) (fun e2 => by
     obtain ⟨g, off, e3, _⟩ := (HQ.out.wsH).rowS (List.length_pos_iff.2 hws)
     rw [e2] at e3
     cases e3) hb1 (by omega)
    have HO5 : Hid (PtI w1 base (leafP k ws) (.slice A5 (0 + ws.length) c5) w5) := Lib.hid ⟨A5, c5, by rw [HEE.out, Nat.zero_add], by rw [HEE.out]; simpa using hown5, (Mod.refl (fun _ => False) w1).trans' (mod_grown hgrow5) (fun i hi hlt => by cases hi)⟩
    simp only [Nat.zero_add] at hr5 HO5
    clear e hown5 hgrow5 hat5 HEE hws HIH HBD
    go_wp2_with (at_builtin; refine wpList_append_runI rfl _ _ _ _ rfl _ _ _ _ rfl rfl hr5 ?_)
    go_meet
    exact HO5.out
  case rest =>
   clear HPK x0 x1 x2 x3
   obtain ⟨A3, c3, rfl, hown3, hm3⟩ := hcut
   have hb0 := HB0.out.modp hm3
   have HI3 : Hid (PtI w1 base (leafP k ws ++ pttT (xs.map QR.key) 0) (.slice A3 (leafP k ws).length c3) wc) := Lib.hid ⟨A3, c3, by rw [pttT_zero, List.append_nil], by rw [pttT_zero, List.append_nil]; exact hown3, hm3⟩
   have hlf := leafP_len k ws
   have b3 := hb0.cell 3
   simp at b3
   clear hown3 hm3 hb0
   go_wp2_with fail
   go_loopg [3, 21] xs.length (fun gk p i wr => ∃ j : Nat, xs.length - j = gk ∧ j ≤ xs.length ∧ i = .int .i64 (j : Int) ∧ PtI w1 base (leafP k ws ++ pttT (xs.map QR.key) j) p wr)
   case atStart => exact ⟨0, rfl, by omega, rfl, HI3.out⟩
   case round =>
    clear HI3
    obtain ⟨j, rfl, hj, rfl, A4, c4, rfl, hown4, hm4⟩ := hrel
    have HM := Lib.hid hm4
    have HO := Lib.hid hown4
    have hs0 := qSum_le (xs.map QR.key) j
    have hpl := pttT_len (ks := xs.map QR.key) HBD.out.allH j (by simpa using hj)
    have hsr := hm4.size
    by_cases hlt : j < xs.length
    ·have hji : ((j : Nat) : Int) < (xs.length : Int) := by omega
     obtain ⟨k', A', c', ws', n2, B', d', xs', hq⟩ := QR.ex xs[j]
     have hX := (HQ.out.xsH.pure HP1.out).pure hm4
     obtain ⟨g, off, rfl, q0, q1, q2, q3⟩ := qcells hX hlt hq
     have hjk : j < (xs.map QR.key).length := by rw [List.length_map]; exact hlt
     have hkey : (xs.map QR.key)[j] = (QR.mk k' A' c' ws' n2 B' d' xs').key := by rw [List.getElem_map, hq]
     have hsum := qSum_succ hjk
     have hpt := pttT_succ hjk
     rw [hkey] at hsum hpt
     have hs1 := qSum_le (xs.map QR.key) (j + 1)
     have HMEM : Hid (QR.mk k' A' c' ws' n2 B' d' xs' ∈ xs) := Lib.hid (by rw [← hq]; exact List.getElem_mem hlt)
     have HMK : Hid ((QR.mk k' A' c' ws' n2 B' d' xs').key ∈ xs.map QR.key) := Lib.hid (List.mem_map.2 ⟨_, HMEM.out, rfl⟩)
     have hQJ : QS wr (.mk k' A' c' ws' n2 B' d' xs') := by rw [← hq]; exact ((HQ.out.allH _ (List.getElem_mem hlt)).pure HP1.out).pure hm4
     have hpa := pure_alloc wr (.cells #[.int .i64 k', .slice A' ws'.length c', .int .i64 n2, .slice B' xs'.length d'] 29)
     have HPA := Lib.hid hpa
     have hspa := hpa.size
     have hrl := pttR_len (QR.mk k' A' c' ws' n2 B' d' xs').key (HBD.out.allH _ HMK.out)
     have HC := Lib.hid (HIH.out _ HMEM.out _ (hQJ.pure hpa) (HR.out.allH _ HMK.out) (HBD.out.allH _ HMK.out) (by omega))
     rw [qA_mk] at HC
     have HPT := Lib.hid hpt
     have hll : (leafP k ws ++ pttT (xs.map QR.key) j).length ≤ 1000 + 1000000 := by rw [List.length_append]; omega
     have hrl2 : (pttR (QR.mk k' A' c' ws' n2 B' d' xs').key).length ≤ 1000000 := by omega
     clear hown4 hm4 hX hsum hpt hkey hpa hq hQJ HMEM HMK hs1 HIH HBD b3 HR HQ hpl hs0 hrl
     generalize hL : leafP k ws ++ pttT (xs.map QR.key) j = L at *
     generalize pttR (QR.mk k' A' c' ws' n2 B' d' xs').key = R at *
     have HLL := Lib.hid hL
     clear hL
     go_wp2_with fail
     refine HC.out.mono ?_
     rintro e w5 ⟨v5, rfl, hown5, hm5⟩
     obtain ⟨A5, c5, rfl⟩ := own_formS hown5
     have hs5 := hm5.size
     obtain ⟨A6, c6, w6, hr6, hown6, hgrow6, hat6⟩ := run_appSs w5 26 base L.length R.length c5 (.slice A4 L.length c4) A5 L R (own_pure HO.out (HPA.out.trans hm5)) (Sl.of_own hown5) (own_capP hown5) (by omega) (by omega)
     have hol := (own_pure HO.out (HPA.out.trans hm5)).lt
     have HI6 : Hid (PtI w1 base (leafP k ws ++ pttT (xs.map QR.key) (j + 1)) (.slice A6 (L.length + R.length) c6) w6) := Lib.hid ⟨A6, c6, by rw [HPT.out, ← List.append_assoc, HLL.out, List.length_append], by rw [HPT.out, ← List.append_assoc, HLL.out, List.length_append]; exact hown6, ((HM.out.trans HPA.out).trans hm5).trans' (mod_grown hgrow6) (fun i hi hlt => by have := (hol i hi).1; omega)⟩
     clear hown5 hm5 hown6 hgrow6 hat6 hol HC HM HO HPA HPT HLL q0 q1 q2 q3
     go_wp2_with (at_builtin; refine wpList_append_runI rfl _ _ _ _ rfl _ _ _ _ rfl rfl hr6 ?_)
     go_roundg (xs.length - (j + 1))
     case measure => omega
     case rel => exact ⟨j + 1, rfl, by omega, by simp, HI6.out⟩
    ·obtain rfl : j = xs.length := by omega
     have hjj : ¬ ((xs.length : Nat) : Int) < (xs.length : Int) := by omega
     have hpt := pttT_all (xs.map QR.key)
     rw [List.length_map] at hpt
     have hll : (leafP k ws ++ pttT (xs.map QR.key) xs.length).length ≤ 1000000 := by rw [List.length_append]; omega
     have HRES : Hid (pttR (.mk k ws n (xs.map QR.key)) = Lib.compact (srtQ (leafP k ws ++ pttT (xs.map QR.key) xs.length))) := Lib.hid (by rw [pttR, hpt])
     clear hpt hpl hs0 b3 HBD HIH HQ HR hm4
     generalize leafP k ws ++ pttT (xs.map QR.key) xs.length = L at *
     generalize pttR (.mk k ws n (xs.map QR.key)) = RR at *
     have HSO := Lib.hid (sortS_calls2 wr _ _ _ L hown4 hll)
     clear hown4
     go_wp2_with fail
     refine HSO.out.mono ?_
     rintro e w5 ⟨rfl, hown5, hm5⟩
     have hsl : (L.mergeSort fun x y => decide (x ≤ y)).length = L.length := List.length_mergeSort _
     rw [hsl] at hown5
     have hol := HO.out.lt
     have HP5 : Hid (Pure w w5) := Lib.hid ((HP1.out.trans HM.out).trans' hm5 (fun i hi hlt => by have := (hol i hi).1; omega))
     by_cases hL0 : L = []
     ·subst hL0
      have HE : Hid (∀ W, Calls Tryz.prog 41 #[.slice A4 0 c4] W (fun e w' => e = .returned (.slice A4 0 c4) ∧ w' = W)) := Lib.hid (fun W => Any.slices_Compact_string_empty Tryz.lays194 A4 c4 W)
      have HRR : Hid (RR = []) := Lib.hid (by
       rw [HRES.out]
       have h := compact_le2 (srtQ [])
       rw [srtQ_len] at h
       exact List.eq_nil_of_length_eq_zero (Nat.le_zero.1 h))
      simp only [List.length_nil] at hown5
      have HO5 := Lib.hid hown5
      clear hown5 hm5 hsl hol HSO HRES HO HM
      go_wp2_with fail
      refine (HE.out w5).mono ?_
      rintro e w6 ⟨rfl, hw6⟩
      have hw7 := hw6.symm
      subst hw7
      clear hw6
      go_wp2_with fail
      go_ret
      exact ⟨_, rfl, by rw [HRR.out]; exact own_up (by simpa using HO5.out) (by omega), HP5.out⟩
     ·obtain ⟨g, rfl⟩ : ∃ g, A4 = some ⟨g, 0, none⟩ := by
       rcases hown5.2 with ⟨_, h1⟩ | ⟨g', cap, cur, h1, _⟩
       ·exact absurd (List.eq_nil_of_length_eq_zero h1) hL0
       ·injection h1 with h1 _ _
        exact ⟨g', h1⟩
      have HCO := Lib.hid (compactS_calls2 w5 g c4 L.length base (L.mergeSort fun x y => decide (x ≤ y)) hown5 (by omega))
      have hgb := (hol g rfl).1
      clear hown5 hm5 hsl hol HSO HO HM hL0
      go_wp2_with fail
      refine HCO.out.mono ?_
      rintro e w6 ⟨rfl, hown6, hm6⟩
      have HF : Hid (PtoP w RR (.returned (.slice (some ⟨g, 0, none⟩) (Lib.compact (L.mergeSort fun x y => decide (x ≤ y))).length c4)) w6) := Lib.hid ⟨_, rfl, by rw [HRES.out]; exact own_up hown6 (by omega), HP5.out.trans' hm6 (fun i hi hlt => by omega)⟩
      clear hown6 hm6 HCO HRES HP5
      go_wp2_with fail
      go_ret
      exact HF.out

end Go.Proofs.YtbajgjbdcgakoaaGreatDoor

/- placed, Check of package intake. -/
namespace Go.Proofs.YtbajgjbdcgakoaaGreatDoor
set_option linter.unusedVariables false
set_option linter.unusedSimpArgs false
open Go.RowKit

end Go.Proofs.YtbajgjbdcgakoaaGreatDoor

/- Check of package intake. -/
namespace Go.Proofs.YtbajgjbdcgakoaaGreatDoor
set_option linter.unusedVariables false
set_option linter.unusedSimpArgs false
open Go.RowKit

end Go.Proofs.YtbajgjbdcgakoaaGreatDoor

/- slices.Equal over strings: the same lists. -/
namespace Go.Proofs.YtbajgjbdcgakoaaGreatDoor
set_option linter.unusedVariables false
set_option linter.unusedSimpArgs false
open Go.RowKit

set_option maxRecDepth 100000 in
set_option maxHeartbeats 2000000 in
theorem equalS_calls (w : World) (v1 v2 : Value) (xs : List Str) (h1 : Sl w 9 1 v1 (strsV xs)) (h2 : Sl w 9 1 v2 (strsV xs)) : Calls Tryz.prog 16 #[v1, v2] w (BoolPost w true) := by
 obtain ⟨A1, n1, c1, rfl, a1, a2, a3, a4⟩ := h1
 obtain ⟨A2, n2, c2, rfl, b1, b2, b3, b4⟩ := h2
 have hn1 : xs.length = n1 := by simpa [strsV] using a3
 have hn2 : xs.length = n2 := by simpa [strsV] using b3
 subst hn1
 subst hn2
 have HA := Lib.hid a4
 have HB := Lib.hid b4
 have hne : ((xs.length : Int) != (xs.length : Int)) = false := by simp
 clear a3 b3 a4 b4
 go_enter Tryz.func16, Tryz.ntmps16
 go_wp2_with fail
 go_loopg [13] xs.length (fun gk i wr => ∃ k : Nat, xs.length - k = gk ∧ k ≤ xs.length ∧ i = .int .i64 (k : Int) ∧ Pure w wr)
 case atStart => exact ⟨0, by omega, by omega, rfl, Mod.refl _ _⟩
 case round =>
  obtain ⟨k, rfl, hk, rfl, hm⟩ := hrel
  by_cases hlt : k < xs.length
  ·obtain ⟨g1, o1, rfl, r1⟩ := HA.out (by omega)
   obtain ⟨g2, o2, rfl, r2⟩ := HB.out (by omega)
   have q1 := (r1.mod hm id).cell (strsV_get xs k hlt)
   have q2 := (r2.mod hm id).cell (strsV_get xs k hlt)
   have t1 : (xs[k] != xs[k]) = false := by simp
   have i1 : (0 : Int) ≤ (k : Int) := by omega
   have i2 : (k : Int) < (xs.length : Int) := by omega
   clear r1 r2
   generalize xs[k] = x at *
   go_wp2_with fail
   go_quiet (fail)
   go_wp2_with fail
   go_roundg (xs.length - (k + 1))
   case measure => omega
   case rel => exact ⟨k + 1, rfl, by omega, by simp, hm.drewN _⟩
  ·have hke : k = xs.length := by omega
   subst hke
   go_wp2_with fail
   go_ret
   exact BoolPost.of rfl hm

end Go.Proofs.YtbajgjbdcgakoaaGreatDoor

/- ahead: the places from one of a to one of b behind it (package query). -/
namespace Go.Proofs.YtbajgjbdcgakoaaGreatDoor
set_option linter.unusedVariables false
set_option linter.unusedSimpArgs false
open Go.RowKit
theorem info_boolQ : (Tryz.prog.info? 4).map (fun i => (i.zero, i.size, i.bytes)) = some (some (.bool false), 1, 1) := by kernel_rfl
theorem upd_self {α : Type} (f : Nat → α) (e : Nat) : upd f e (f e) = f := by
 funext i
 unfold upd
 split
 ·rename_i h; rw [h]
 ·rfl
theorem upd_upd {α : Type} (f : Nat → α) (e : Nat) (a b : α) : upd (upd f e a) e b = upd f e b := by
 funext i
 unfold upd
 split <;> rfl
theorem upd_bool (kf : Nat → Bool) (e : Nat) : upd (fun i => Value.bool (kf i)) e (.bool true) = fun i => Value.bool (upd kf e true i) := by
 funext i
 unfold upd
 split <;> rfl
/-- The tables of ahead: what is behind each word, and whether it is known. -/
def TabI (w : World) (gB gK W : Nat) (bv : Nat → Value) (kf : Nat → Bool) (R : Nat → List Nat) : Prop := RangeB w gB 22 (W + 1) bv ∧ RangeB w gK 4 (W + 1) (fun e => .bool (kf e)) ∧ KnwI w bv kf R W
def BK (gB gK : Nat) : Nat → Prop := fun j => j = gB ∨ j = gK
theorem blk_int {w : World} {g : Nat} {t : TypeId} {N : Nat} {f : Nat → Value} (h : RangeB w g t N f) (hne : t ≠ 3) : ∀ g' arr fr, w.heap[g']? = some (.cells arr 3 fr) → ¬ g' = g := by
 intro g' arr fr hg e
 subst e
 unfold RangeB Blk at h
 rw [h] at hg
 injection hg with hg
 injection hg with _ hg
 exact hne hg
theorem bk_int {w : World} {gB gK W : Nat} {bv : Nat → Value} {kf : Nat → Bool} {R : Nat → List Nat} (h : TabI w gB gK W bv kf R) : ∀ g' arr fr, w.heap[g']? = some (.cells arr 3 fr) → ¬ BK gB gK g' := by
 rintro g' arr fr hg (e | e)
 ·exact blk_int h.1 (by decide) g' arr fr hg e
 ·exact blk_int h.2.1 (by decide) g' arr fr hg e
theorem TabI.pure {w w' : World} {gB gK W : Nat} {bv : Nat → Value} {kf : Nat → Bool} {R : Nat → List Nat} (h : TabI w gB gK W bv kf R) (hm : Pure w w') : TabI w' gB gK W bv kf R := ⟨h.1.mod hm (fun h => h), h.2.1.mod hm (fun h => h), h.2.2.pure hm⟩
/-- The rows of the table lie in blocks that are there, and in another one than a slice. -/
def AvI (w : World) (W : Nat) (bv : Nat → Value) (v : Value) : Prop := ∀ e, e < W → ∀ g, (bv e).ownBlock = some g → g < w.heap.size ∧ v.ownBlock ≠ some g
theorem AvI.big {w w' : World} {W : Nat} {bv : Nat → Value} {v : Value} (h : AvI w W bv v) (hs : w.heap.size ≤ w'.heap.size) : AvI w' W bv v := fun e he g hg => ⟨Nat.lt_of_lt_of_le (h e he g hg).1 hs, (h e he g hg).2⟩
theorem AvI.to {w : World} {W : Nat} {bv : Nat → Value} {v v' : Value} (h : AvI w W bv v) (hv : v'.ownBlock = v.ownBlock ∨ ∃ k, v'.ownBlock = some k ∧ w.heap.size ≤ k) : AvI w W bv v' := by
 intro e he g hg
 obtain ⟨h1, h2⟩ := h e he g hg
 refine ⟨h1, ?_⟩
 rcases hv with hv | ⟨k, hv, hk⟩
 ·rw [hv]; exact h2
 ·rw [hv]
  intro hh
  injection hh with hh
  omega
theorem AvI.nil {w : World} {W : Nat} {bv : Nat → Value} {v : Value} (h : AvI w W bv v) : AvI w W bv (.slice none 0 0) := fun e he g hg => ⟨(h e he g hg).1, fun hh => by cases hh⟩
theorem mod_setK (w : World) (g i : Nat) (v : Value) : Mod (· = g) w (w.setCell ⟨g, i, none⟩ v) := Mod.setCell (S := fun k => k = g) (p := ⟨g, i, none⟩) (Mod.refl _ _) (.inl rfl) v
theorem TabI.own {w w' : World} {gB gK W : Nat} {bv : Nat → Value} {kf : Nat → Bool} {R : Nat → List Nat} {v : Value} (h : TabI w gB gK W bv kf R) (ha : AvI w W bv v) (hm : Mod (fun k => v.ownBlock = some k) w w') (hB : v.ownBlock ≠ some gB) (hK : v.ownBlock ≠ some gK) : TabI w' gB gK W bv kf R :=
 ⟨h.1.mod hm hB, h.2.1.mod hm hK, fun e he => ⟨(h.2.2 e he).1, fun hk => ⟨((h.2.2 e he).2 hk).1.mod_ob hm (fun g hg => (ha e he g hg).2), ((h.2.2 e he).2 hk).2⟩⟩⟩
set_option maxRecDepth 100000 in
set_option maxHeartbeats 8000000 in
theorem ahead_calls (w : World) (va vb : Value) (W : Nat) (F G : Nat → Nat → Bool) (n : Int) (ha : SlI w va (rowsQ W F)) (hb : SlI w vb (rowsQ W G)) (hW : W ≤ 1000) (hn0 : 0 ≤ n) (hn1 : n ≤ 20) : Calls Tryz.prog 190 #[va, vb, .int .i64 n] w (RnP w W (cutB F G n W)) := by
 obtain ⟨Aa, ca, rfl, hca, hca2⟩ := ha.form
 obtain ⟨Ab, cb, rfl, hcb, hcb2⟩ := hb.form
 have HA := Lib.hid ha
 have HB := Lib.hid hb
 have hmk1 := run_make_one (P := Tryz.prog) 178 22 (.slice none 0 0) 24 Tryz.underlying178 info_intsQ rfl .i64 .i64 (W + 1) ((W : Int) + 1) (by omega) (by omega) (by omega) (Array.replicate (W + 1) (Value.slice none 0 0)) (by simp)
 have hmk2 := run_make_one (P := Tryz.prog) 217 4 (.bool false) 1 Tryz.underlying217 info_boolQ rfl .i64 .i64 (W + 1) ((W : Int) + 1) (by omega) (by omega) (by omega) (Array.replicate (W + 1) (Value.bool false)) (by simp)
 have hmk3 := run_make_one (P := Tryz.prog) 179 22 (.slice none 0 0) 24 Tryz.underlying179 info_intsQ rfl .i64 .i64 W (W : Int) rfl (by omega) (by omega) (Array.replicate W (Value.slice none 0 0)) (by simp)
 simp only [rowsQ_len] at *
 clear ha hb
 have HBB := Lib.hid (((RangeB.new w 22 (W + 1) (.slice none 0 0)).alloc (.cells (Array.replicate (W + 1) (Value.bool false)) 4)).alloc (.cells (Array.replicate W (Value.slice none 0 0)) 22))
 have HKK := Lib.hid ((RangeB.new (w.alloc (.cells (Array.replicate (W + 1) (Value.slice none 0 0)) 22)) 4 (W + 1) (.bool false)).alloc (.cells (Array.replicate W (Value.slice none 0 0)) 22))
 have HO := Lib.hid (OutB.new ((w.alloc (.cells (Array.replicate (W + 1) (Value.slice none 0 0)) 22)).alloc (.cells (Array.replicate (W + 1) (Value.bool false)) 4)) W)
 rw [List.toArray_replicate] at HO
 have HM : Hid (Pure w (((w.alloc (.cells (Array.replicate (W + 1) (Value.slice none 0 0)) 22)).alloc (.cells (Array.replicate (W + 1) (Value.bool false)) 4)).alloc (.cells (Array.replicate W (Value.slice none 0 0)) 22))) := Lib.hid ((((Mod.refl _ _).alloc _).alloc _).alloc _)
 go_enter Tryz.func190, Tryz.ntmps190
 go_wp2_with fail
 clear hmk1 hmk2 hmk3
 obtain ⟨gB, hgB⟩ : ∃ g, w.heap.size = g := ⟨_, rfl⟩
 have HSZ : Hid ((w.alloc (.cells (Array.replicate (W + 1) (Value.slice none 0 0)) 22)).heap.size = gB + 1 ∧ ((w.alloc (.cells (Array.replicate (W + 1) (Value.slice none 0 0)) 22)).alloc (.cells (Array.replicate (W + 1) (Value.bool false)) 4)).heap.size = gB + 1 + 1) := Lib.hid (by constructor <;> simp <;> omega)
 rw [hgB] at HBB
 rw [HSZ.out.1] at HKK
 rw [HSZ.out.2] at HO
 generalize (((w.alloc (.cells (Array.replicate (W + 1) (Value.slice none 0 0)) 22)).alloc (.cells (Array.replicate (W + 1) (Value.bool false)) 4)).alloc (.cells (Array.replicate W (Value.slice none 0 0)) 22)) = w1 at *
 try simp only [hgB]
 obtain ⟨gK, hgK⟩ : ∃ g, gB + 1 = g := ⟨_, rfl⟩
 rw [hgK] at HKK HO
 try simp only [hgK]
 obtain ⟨gO, hgO⟩ : ∃ g, gK + 1 = g := ⟨_, rfl⟩
 rw [hgO] at HO
 try simp only [hgO]
 have hl1 : w.heap.size ≤ gB := by omega
 have hl2 : gB < gK := by omega
 have hl3 : gK < gO := by omega
 clear hgB hgK hgO HSZ
 have HT : Hid (TabI w1 gB gK W (fun _ => .slice none 0 0) (fun _ => false) (fun e => rowQ W (behB G n W e))) := Lib.hid ⟨HBB.out, HKK.out, fun e he => ⟨fun _ => rfl, fun h => by cases h⟩⟩
 clear HBB HKK
 go_loopg [28] W (fun gk i wr => ∃ (k : Nat) (us : List Value) (bv : Nat → Value) (kf : Nat → Bool), W - k = gk ∧ k ≤ W ∧ i = .int .i64 (k : Int) ∧ us.length = k ∧ OutB wr gO us W ∧ RowsU wr us ((rowsQ W (cutB F G n W)).take k) ∧ TabI wr gB gK W bv kf (fun e => rowQ W (behB G n W e)) ∧ AvI wr W bv (.slice none 0 0) ∧ Pure w wr)
 case atStart => exact ⟨0, [], _, _, by omega, by omega, rfl, rfl, HO.out, RowsU.nil, HT.out, (fun e he g hg => by cases hg), HM.out⟩
 case round =>
  clear HO HM HT
  obtain ⟨k, us, bv, kf, rfl, hk, rfl, hul, hO, hR, hT, hAV, hm⟩ := hrel
  have HAV := Lib.hid hAV
  have HO := Lib.hid hO
  have HR := Lib.hid hR
  have HT := Lib.hid hT
  have HM := Lib.hid hm
  have HU := Lib.hid hul
  clear hO hR hT hm hul hAV
  generalize wr = w2 at *
  by_cases hlt : k < W
  ·obtain ⟨ga, oa, A1, c1, rfl, qa, sa, na⟩ := (HA.out.pure HM.out).at (i := k) (by rw [rowsQ_len]; exact hlt)
   rw [rowsQ_at] at qa sa na
   have HSA := Lib.hid sa
   have hcl := sa.lenI.2
   clear sa na
   have hgO2 := HO.out.lt
   have hgB2 := HT.out.1.lt
   have hgK2 := HT.out.2.1.lt
   have hral := rowQ_len W (F k)
   have hszw := HM.out.size
   go_wp2_with fail
   go_loopg [11, 36] (rowQ W (F k)).length (fun gk l i wx => ∃ (t : Nat) (A : Option Addr) (c : Nat) (bv : Nat → Value) (kf : Nat → Bool), (rowQ W (F k)).length - t = gk ∧ t ≤ (rowQ W (F k)).length ∧ i = .int .i64 (t : Int) ∧ l = .slice A (gatB F G n W k t).length c ∧ wx.ownsRow w2.heap.size 3 1 (.slice A (gatB F G n W k t).length c) (gatB F G n W k t).length (nvQ (gatB F G n W k t)) ∧ TabI wx gB gK W bv kf (fun e => rowQ W (behB G n W e)) ∧ AvI wx W bv (.slice A (gatB F G n W k t).length c) ∧ Mod (BK gB gK) w2 wx)
   case atStart => exact ⟨0, none, 0, bv, kf, by omega, by omega, rfl, rfl, ⟨rfl, .inl ⟨rfl, rfl⟩⟩, HT.out, HAV.out.nil, Mod.refl _ _⟩
   case round =>
    obtain ⟨t, A, c, bv2, kf2, rfl, ht, rfl, rfl, hown, hT, hA2, hm⟩ := hrel
    have HAX := Lib.hid hA2
    have HOW := Lib.hid hown
    have HTX := Lib.hid hT
    have HMX := Lib.hid hm
    have hgl := Nat.le_trans (gatB_len F G n W k t ht) (Nat.mul_le_mul (show t ≤ 1000 by omega) hW)
    clear hown hT hm hA2
    by_cases htl : t < (rowQ W (F k)).length
    ·have heW : (rowQ W (F k))[t] < W := (rowQ_mem.1 (List.getElem_mem htl)).1
     obtain ⟨g1, o1, hA1, hr1⟩ := (HSA.out.mod HMX.out (bk_int HT.out)).rowS (by omega)
     subst hA1
     have q1 := hr1.cell (nvQ_get _ t htl)
     have HGS := Lib.hid (gatB_succ F G n W k htl)
     have hgl2 := Nat.le_trans (gatB_len F G n W k (t + 1) htl) (Nat.mul_le_mul (show t + 1 ≤ 1000 by omega) hW)
     rw [HGS.out, List.length_append] at hgl2
     clear hr1
     generalize (rowQ W (F k))[t] = e at *
     have k1 := HTX.out.2.1.cell (show e < W + 1 by omega)
     have k2 := HTX.out.2.1.frozen e
     go_upto_if 44 with (fail)
     go_cut [] (fun wy => ∃ (bv3 : Nat → Value) (kf3 : Nat → Bool), kf3 e = true ∧ TabI wy gB gK W bv3 kf3 (fun e => rowQ W (behB G n W e)) ∧ AvI wy W bv3 (.slice A (gatB F G n W k t).length c) ∧ wy.ownsRow w2.heap.size 3 1 (.slice A (gatB F G n W k t).length c) (gatB F G n W k t).length (nvQ (gatB F G n W k t)) ∧ Mod (BK gB gK) w2 wy)
     case first =>
      cases hke : kf2 e
      ·rw [hke] at k1
       have hbe := (HTX.out.2.2 e heW).1 hke
       obtain ⟨S, hS⟩ : ∃ S, S = min (e + 2 + n.toNat) W := ⟨_, rfl⟩
       have hS1 : e + 1 ≤ S := by omega
       have hS2 : S ≤ W := by omega
       have hS3 : (S : Int) ≤ (e : Int) + 2 + n := by omega
       have hS4 : S = W ∨ (e : Int) + 1 + n < S := by omega
       have hS5 : (if ((W : Int) - 1) < ((e : Int) + 1 + n) then (W : Int) - 1 else (e : Int) + 1 + n) = (S : Int) - 1 := by split <;> omega
       have HBR := Lib.hid (behRow (B := G) (n := n) (W := W) (e := e) (s := S) hS2 hS1 hn0 hS3 hS4)
       clear hS hS3 hS4
       have hstK : Mod (BK gB gK) wr (wr.setCell ⟨gK, e, none⟩ (.bool true)) := (mod_setK wr gK e (.bool true)).mono (fun i hi => .inr hi)
       have HB3 : Hid (RangeB (wr.setCell ⟨gK, e, none⟩ (.bool true)) gB 22 (W + 1) bv2) := Lib.hid (HTX.out.1.far (by show gB ≠ gK; omega) _)
       have HK3 : Hid (RangeB (wr.setCell ⟨gK, e, none⟩ (.bool true)) gK 4 (W + 1) (fun i => .bool (upd kf2 e true i))) := Lib.hid (by rw [← upd_bool]; exact HTX.out.2.1.set e _)
       have HN3 := Lib.hid (HTX.out.2.2.mod hstK (bk_int HTX.out))
       have HO3 := Lib.hid (own_mod HOW.out hstK (fun g hg hh => by have := own_block HOW.out g hg; rcases hh with h | h <;> omega))
       have HM3 := Lib.hid (HMX.out.trans hstK)
       have HA3 := Lib.hid (HAX.out.big hstK.size)
       clear hstK
       go_upto_region 13 with (fail)
       generalize (wr.setCell ⟨gK, e, none⟩ (.bool true)) = w3 at *
       clear k1 k2 q1
       have hg3 := HB3.out.lt
       have hw3 := HM3.out.size
       go_wp2_with fail
       go_loopg [14] (S - (e + 1)) (fun gk x wz => ∃ (s : Nat) (A3 : Option Addr) (c3 : Nat), S - s = gk ∧ e + 1 ≤ s ∧ s ≤ S ∧ x = .int .i64 (s : Int) ∧ RangeB wz gB 22 (W + 1) (upd bv2 e (.slice A3 (catB G W e s).length c3)) ∧ wz.ownsRow w3.heap.size 3 1 (.slice A3 (catB G W e s).length c3) (catB G W e s).length (nvQ (catB G W e s)) ∧ Mod (· = gB) w3 wz)
       case atStart => exact ⟨e + 1, none, 0, by omega, Nat.le_refl _, hS1, by simp, by rw [catB_zero]; show RangeB _ _ _ _ (upd bv2 e (.slice none 0 0)); rw [← hbe, upd_self]; exact HB3.out, by rw [catB_zero]; exact ⟨rfl, .inl ⟨rfl, rfl⟩⟩, Mod.refl _ _⟩
       case round =>
        obtain ⟨s, A3, c3, rfl, hs1, hs2, rfl, hRB, hown3, hm⟩ := hrel
        have HRB := Lib.hid hRB
        have HOWN := Lib.hid hown3
        have HMZ := Lib.hid hm
        have hgz := hRB.lt
        have hsz := hm.size
        have hc1 := hRB.cell (show e < W + 1 by omega)
        rw [upd_same] at hc1
        have hc2 := hRB.frozen e
        clear hRB hown3 hm
        generalize wr = w4 at *
        by_cases hlt3 : s < S
        ·have hle : (s : Int) ≤ (S : Int) - 1 := by omega
         have HP4 : Hid (Pure w w4) := Lib.hid ((HM.out.trans' HM3.out (fun i hi hlt => by rcases hi with h | h <;> omega)).trans' HMZ.out (fun i hi hlt => by omega))
         obtain ⟨gb, ob, A2, c2, hAb, qb, sb, nb⟩ := (HB.out.pure HP4.out).at (i := s) (by rw [rowsQ_len]; omega)
         subst hAb
         rw [rowsQ_at] at qb sb nb
         have hcs := catB_len G W e (s - (e + 1))
         rw [show e + 1 + (s - (e + 1)) = s by omega] at hcs
         have hcs2 := Nat.le_trans hcs (Nat.mul_le_mul (show s - (e + 1) ≤ 1000 by omega) hW)
         have hrw := rowQ_len W (G s)
         have HCS := Lib.hid (catB_succ G W e s hs1)
         have hd : Pure w4 w4.drew := (Mod.refl _ _).drew
         obtain ⟨A5, c5, w5, hr5, hown5, hgrow5, hb5⟩ := run_appI w4.drew 22 w3.heap.size _ _ _ _ (rowQ W (G s)) (own_pure HOWN.out hd) (sb.pure hd) nb (by have := hd.size; omega) (by omega)
         have hob := own_block HOWN.out
         have hm5 : Mod (· = gB) w3 w5 := (HMZ.out.drew).trans' (mod_grown hgrow5) (fun i hi hlt => by have := hob i hi; omega)
         have hRB5 := (HRB.out.mod hd (fun h => h)).mod (mod_grown hgrow5) (fun h => by have := hob _ h; omega)
         have hd1 := hRB5.cell (show e < W + 1 by omega)
         rw [upd_same] at hd1
         have hd2 := hRB5.frozen e
         have HRB5 := Lib.hid hRB5
         have HR5 := Lib.hid hr5
         have HM5 := Lib.hid hm5
         have HO5 := Lib.hid hown5
         clear hcs hcs2 hb5 hob hm5 hRB5 hr5 hown5 hgrow5 sb nb hd
         generalize rowQ W (G s) = rs at *
         rw [← List.length_append, ← nvQ_append] at HO5
         rw [← List.length_append] at HR5
         have hi1 : (e : Int) < (W : Int) + 1 := by omega
         have hi2 : e < W + 1 := by omega
         have hi3 : (s : Int) < (W : Int) := by omega
         have hi4 : s < W := by omega
         have hi5 : (0 : Int) ≤ (e : Int) := by omega
         have hi6 : (0 : Int) ≤ (s : Int) := by omega
         go_upto_region 16 with (fail)
         go_region_law (refine step_append_I rfl (.tmp 67) (.tmp 71) 22 rfl _ _ _ _ (by simp [Act.eval, Act.put]) (by simp [Act.eval, Act.put]) HR5.out ?_)
         all_goals
          go_wp2_with fail
          go_roundg (S - (s + 1))
          case measure => omega
          case rel => exact ⟨s + 1, A5, c5, rfl, by omega, by omega, by simp, by rw [HCS.out, List.length_append]; have h := HRB5.out.set e (.slice A5 ((catB G W e s).length + rs.length) c5); rw [upd_upd] at h; exact h, by rw [HCS.out]; exact own_mod HO5.out (mod_setK _ _ _ _) (fun g hg hh => by have := own_block HO5.out g hg; omega), HM5.out.trans (mod_setK _ _ _ _)⟩
        ·obtain rfl : s = S := by omega
         have hle : ¬ ((s : Int) ≤ (s : Int) - 1) := by omega
         have hcs := catB_len G W e (s - (e + 1))
         rw [show e + 1 + (s - (e + 1)) = s by omega] at hcs
         have hcs2 := Nat.le_trans hcs (Nat.mul_le_mul (show s - (e + 1) ≤ 1000 by omega) hW)
         have HOB := Lib.hid (own_block HOWN.out)
         have HSO := Lib.hid (sortI_calls w4 _ _ _ (castI (catB G W e s)) (by rw [ivQ_cast]; exact HOWN.out) (by rw [castI_len]; omega))
         have HCL : Hid ((castI (catB G W e s)).length ≤ 1000000) := Lib.hid (by rw [castI_len]; exact hcs2)
         clear hcs hcs2 hs1 hs2 hlt3
         generalize hcat : catB G W e s = cat at *
         clear hcat
         go_wp2_with fail
         refine HSO.out.mono ?_
         rintro e' w5 ⟨rfl, hq, hm5⟩
         have HCO := Lib.hid (compactI_calls w5 _ _ _ _ hq (by rw [List.length_mergeSort]; have := HCL.out; omega))
         have HM5 : Hid (Mod (· = gB) w3 w5) := Lib.hid (HMZ.out.trans' hm5 (fun i hi hlt => by have := HOB.out i hi; omega))
         have hRB5 := HRB.out.mod hm5 (fun h => by have := HOB.out _ h; omega)
         have hd1 := hRB5.cell (show e < W + 1 by omega)
         rw [upd_same] at hd1
         have HRB5 := Lib.hid hRB5
         clear hq hm5 hRB5 HSO hc1 hc2
         go_wp2_with fail
         refine HCO.out.mono ?_
         rintro e' w6 ⟨v4, rfl, hq, hbk, hm6⟩
         obtain ⟨A6, n6, c6, rfl⟩ := (Sl.of_own hq).form
         rw [HBR.out, castI_len, ivQ_cast] at hq
         have HM6 : Hid (Mod (· = gB) w3 w6) := Lib.hid (HM5.out.trans' hm6 (fun i hi hlt => by have := HOB.out i hi; omega))
         have hRB6 := HRB5.out.mod hm6 (fun h => by have := HOB.out _ h; omega)
         have he1 := hRB6.cell (show e < W + 1 by omega)
         rw [upd_same] at he1
         have he2 := hRB6.frozen e
         have HRB6 := Lib.hid hRB6
         have HQ6 := Lib.hid hq
         clear hq hm6 hRB6 HCO hd1 HRB5 hbk
         go_wp2_with fail
         go_meet
         have hst := mod_setK w6 gB e (.slice A6 n6 c6)
         have hmf : Mod (· = gB) w3 (w6.setCell ⟨gB, e, none⟩ (.slice A6 n6 c6)) := HM6.out.trans hst
         have hown6 := own_mod HQ6.out hst (fun g hg hh => by have := own_block HQ6.out g hg; omega)
         have hint := blk_int HB3.out (by decide)
         have hRBf := HRB6.out.set e (.slice A6 n6 c6)
         rw [upd_upd] at hRBf
         refine ⟨upd bv2 e (.slice A6 n6 c6), upd kf2 e true, upd_same _ _ _, ⟨hRBf, HK3.out.mod hmf (by omega), KnwI.add (HN3.out.mod hmf hint) (Sl.of_own hown6) (own_NilOk hown6)⟩, ?_, own_mod HO3.out hmf (fun g hg hh => by have := own_block HO3.out g hg; omega), HM3.out.trans (hmf.mono (fun i hi => .inl hi))⟩
         intro e2 he2 g2 hg2
         by_cases hee : e2 = e
         ·subst hee
          rw [upd_same] at hg2
          obtain ⟨arr, harr⟩ := own_heap hown6 hg2
          have h1 := own_block HQ6.out _ hg2
          refine ⟨lt_of_heap harr, fun hh => ?_⟩
          obtain ⟨arr2, harr2⟩ := own_heap HO3.out hh
          have := lt_of_heap harr2
          omega
         ·rw [upd_ne _ _ hee] at hg2
          exact (HA3.out.big hmf.size) e2 he2 g2 hg2
      ·rw [hke] at k1
       go_wp2_with fail
       go_meet
       exact ⟨bv2, kf2, hke, HTX.out, HAX.out, HOW.out, HMX.out⟩
     case rest =>
      obtain ⟨bv3, kf3, hk3, hT3, hA3, hO3, hM3⟩ := hcut
      have HK3 := hk3
      obtain ⟨hs3, hn3⟩ := (hT3.2.2 e heW).2 hk3
      have c3 := hT3.1.cell (show e < W + 1 by omega)
      obtain ⟨Ae, ne, ce, hbe⟩ := hs3.form
      rw [hbe] at c3 hs3 hn3
      have hob := own_block hO3
      have hM3s := hM3.size
      obtain ⟨A5, c5, w5, hr5, hown5, hgrow5, hb5⟩ := run_appI wc 22 w2.heap.size _ _ _ _ (rowQ W (behB G n W e)) hO3 hs3 hn3 (by omega) (by omega)
      have HR5 := Lib.hid hr5
      have HT3 := Lib.hid hT3
      have HA3 := Lib.hid hA3
      have HM3 := Lib.hid hM3
      have HO5 := Lib.hid hown5
      have HG5 := Lib.hid (mod_grown hgrow5)
      have HB5 := Lib.hid hb5
      have HOB := Lib.hid hob
      clear hs3 hn3 hT3 hA3 hO3 hM3 hr5 hown5 hgrow5 hb5 hob k1 k2 q1 HTX HAX HOW HMX
      generalize wc = w4 at *
      rw [← List.length_append] at hgl2 HR5 HO5 HB5
      go_wp2_with (at_builtin; refine wpList_append_runI rfl (.tmp 87) (.tmp 91) _ _ rfl _ _ _ _ rfl rfl HR5.out ?_)
      go_roundg ((rowQ W (F k)).length - (t + 1))
      case measure => omega
      case rel =>
       have hob : ∀ g, (Value.slice A (gatB F G n W k t).length c).ownBlock = some g → ¬ BK gB gK g := fun g hg hh => by have := HOB.out g hg; rcases hh with h | h <;> omega
       refine ⟨t + 1, A5, c5, bv3, kf3, rfl, htl, by simp, by rw [HGS.out, List.length_append], by rw [HGS.out]; simpa [nvQ_append] using HO5.out, HT3.out.own HA3.out HG5.out (fun h => hob _ h (.inl rfl)) (fun h => hob _ h (.inr rfl)), ?_, HM3.out.trans' HG5.out (fun i hi hlt => by have := HOB.out _ hi; omega)⟩
       rw [HGS.out]
       refine (HA3.out.to ?_).big HG5.out.size
       rcases HB5.out with h | h
       ·exact .inl h
       ·exact .inr ⟨_, h, Nat.le_refl _⟩
    ·obtain rfl : t = (rowQ W (F k)).length := by omega
     have HCR := Lib.hid (cutRow (A := F) (B := G) (n := n) (W := W) (i := k))
     have HTK : Hid ((rowsQ W (cutB F G n W)).take (k + 1) = (rowsQ W (cutB F G n W)).take k ++ [rowQ W (cutB F G n W k)]) := Lib.hid (by
      rw [List.take_succ_eq_append_getElem (by rw [rowsQ_len]; exact hlt), rowsQ_at])
     have hszx := HMX.out.size
     have hob := Lib.hid (own_block HOW.out)
     have HSO := Lib.hid (sortI_calls wr _ _ _ (castI (gatB F G n W k (rowQ W (F k)).length)) (by rw [ivQ_cast]; exact HOW.out) (by rw [castI_len]; omega))
     have HGL : Hid ((castI (gatB F G n W k (rowQ W (F k)).length)).length ≤ 1000000) := Lib.hid (by rw [castI_len]; exact hgl)
     clear hgl
     generalize gatB F G n W k (rowQ W (F k)).length = gl at *
     generalize hra : (rowQ W (F k)).length = nra at *
     clear hra
     go_wp2_with fail
     refine HSO.out.mono ?_
     rintro e w3 ⟨rfl, hq, hm3⟩
     have HM3 : Hid (Mod (fun k => (Value.slice A gl.length c).ownBlock = some k) wr w3) := Lib.hid hm3
     have HCO := Lib.hid (compactI_calls w3 _ _ _ _ hq (by rw [List.length_mergeSort]; have := HGL.out; omega))
     clear hq hm3 HSO
     go_wp2_with fail
     refine HCO.out.mono ?_
     rintro e w4 ⟨v4, rfl, hq, hbk, hm4⟩
     obtain ⟨A4, n4, c4, rfl⟩ := (Sl.of_own hq).form
     rw [HCR.out, castI_len, ivQ_cast] at hq
     have HQ := Lib.hid hq
     have HM4 : Hid (Mod (fun k => (Value.slice A gl.length c).ownBlock = some k) wr w4) := Lib.hid (HM3.out.trans hm4)
     have HMX4 : Hid (Mod (BK gB gK) w2 w4) := Lib.hid (HMX.out.trans' HM4.out (fun i hi hlt => by have := hob.out _ hi; omega))
     have HO4 := Lib.hid (HO.out.mod HMX4.out (by rintro (h | h) <;> omega))
     have HR4 := Lib.hid (HR.out.mod HMX4.out (bk_int HT.out))
     have HT4 := Lib.hid (HTX.out.own HAX.out HM4.out (fun h => by have := hob.out _ h; omega) (fun h => by have := hob.out _ h; omega))
     have HM5 : Hid (Pure w w4) := Lib.hid (HM.out.trans' HMX4.out (fun i hi hlt => by rcases hi with h | h <;> omega))
     have HA4 := Lib.hid ((HAX.out.big HM4.out.size).nil)
     obtain ⟨x0, xf0⟩ := HO4.out.cellk HU.out.symm (by rw [HU.out]; exact hlt)
     have hw4 := HMX4.out.size
     clear hq hm4 HCO HM3 HO HR HTX HAX HMX HM HAV HSA HOW HT
     go_wp2_with fail
     go_roundg (W - (k + 1))
     case measure => omega
     case rel =>
      have hne : ∀ i, i = gO → ¬ BK gB gK i := fun i hi hh => by rcases hh with h | h <;> omega
      refine ⟨k + 1, us ++ [.slice A4 n4 c4], bv2, kf2, rfl, hlt, by simp, by simp [HU.out], HO4.out.snoc HU.out.symm (by rw [HU.out]; exact hlt) _, ?_, ⟨HT4.out.1.far (by show gB ≠ gO; omega) _, HT4.out.2.1.far (by show gK ≠ gO; omega) _, fun e he => ⟨(HT4.out.2.2 e he).1, fun hk => ⟨((HT4.out.2.2 e he).2 hk).1.set_ne HO4.out (by decide) _, ((HT4.out.2.2 e he).2 hk).2⟩⟩⟩, HA4.out.big (by simp), HM5.out.setCell (.inr (by show w.heap.size ≤ gO; omega)) _⟩
      rw [HTK.out]
      exact (HR4.out.set HO4.out (by decide) _ _).snoc ((Sl.of_own HQ.out).set_ne HO4.out (by decide) _) (own_NilOk HQ.out)
  ·have hke : k = W := by omega
   subst hke
   go_wp2_with fail
   go_ret
   exact ⟨_, rfl, HO.out.sl (by have h := HR.out; rw [List.take_of_length_le (by rw [rowsQ_len]; omega)] at h; exact h) (rowsQ_len _ _) (by omega), HM.out⟩

end Go.Proofs.YtbajgjbdcgakoaaGreatDoor

/- phrase: the places where patterns fit words one after the other (package query). -/
namespace Go.Proofs.YtbajgjbdcgakoaaGreatDoor
set_option linter.unusedVariables false
set_option linter.unusedSimpArgs false
open Go.RowKit
def wsQ (l : List Wd) : List Str := l.map (·.2)
theorem wsQ_len (l : List Wd) : (wsQ l).length = l.length := by simp [wsQ]
theorem phr_getD {l : List Wd} {i : Nat} (h : i < l.length) : (wsQ l).getD i [] = l[i].2 := by simp [wsQ, List.getD, h]
theorem pat_getD {l : List Str} {i : Nat} (h : i < l.length) : l.getD i [] = l[i] := by simp [List.getD, h]
set_option maxRecDepth 100000 in
set_option maxHeartbeats 4000000 in
theorem phraseQ_calls (w : World) (vp vw : Value) (pats : List Str) (wl : List Wd) (hp : Sl w 9 1 vp (strsV pats)) (hw : Wds w vw wl) (hp0 : 1 ≤ pats.length) (hp1 : pats.length ≤ 1000) (hpl : ∀ x ∈ pats, x.length ≤ 1000000) (hW : wl.length ≤ 1000) (hwl : ∀ x ∈ wl, x.2.length ≤ 1000000) :
  Calls Tryz.prog 192 #[vp, vw] w (RnP w wl.length (phrB (wsQ wl) pats)) := by
 obtain ⟨Ap, np, cp, rfl⟩ := hp.form
 obtain rfl := hp.lenS
 obtain ⟨Aw, nw, cw, rfl⟩ := hw.form
 have hwn : nw = wl.length := by obtain ⟨_, _, _, e, _, _, h, _⟩ := hw; cases e; rw [wdV_len] at h; omega
 subst hwn
 have hcp := hp.lenI.2
 have hcw : wl.length ≤ cw ∧ cw ≤ 9223372036854775807 := by obtain ⟨_, _, _, e, h1, h2, _⟩ := hw; cases e; exact ⟨h1, h2⟩
 have HP := Lib.hid hp
 have HW := Lib.hid hw
 have HPL := Lib.hid hpl
 have HWL := Lib.hid hwl
 clear hp hw hpl hwl
 have hmk := run_make_one (P := Tryz.prog) 179 22 (.slice none 0 0) 24 Tryz.underlying179 info_intsQ rfl .i64 .i64 wl.length (wl.length : Int) rfl (by omega) (by omega) (Array.replicate wl.length (Value.slice none 0 0)) (by simp)
 have HO := Lib.hid (OutB.new w wl.length)
 have HM := Lib.hid (pure_alloc w (.cells (List.replicate wl.length (Value.slice none 0 0)).toArray 22))
 rw [List.toArray_replicate] at HO HM
 go_enter Tryz.func192, Tryz.ntmps192
 go_wp2_with fail
 clear hmk
 have hgw := Nat.le_refl w.heap.size
 generalize (w.alloc (.cells (Array.replicate wl.length (Value.slice none 0 0)) 22)) = w1 at *
 generalize hg : w.heap.size = g at *
 go_loopg [19] (wl.length + 1 - pats.length) (fun gk i wr => ∃ (k : Nat) (us : List Value), (wl.length + 1 - pats.length) - k = gk ∧ k ≤ wl.length ∧ (k = 0 ∨ k + pats.length ≤ wl.length + 1) ∧ i = .int .i64 (k : Int) ∧ us.length = k ∧ OutB wr g us wl.length ∧ RowsU wr us ((rowsQ wl.length (phrB (wsQ wl) pats)).take k) ∧ Pure w wr)
 case atStart => exact ⟨0, [], by omega, by omega, .inl rfl, rfl, rfl, HO.out, RowsU.nil, HM.out⟩
 case round =>
  clear HO HM
  obtain ⟨k, us, rfl, hk, hk2, rfl, hul, hO, hR, hm⟩ := hrel
  have HO := Lib.hid hO
  have HR := Lib.hid hR
  have HM := Lib.hid hm
  have HU := Lib.hid hul
  clear hO hR hm hul
  rcases Nat.lt_or_ge wl.length (k + pats.length) with hout | hin
  ·have hlt : ¬ ((k : Int) < (wl.length : Int) - (pats.length : Int) + 1) := by omega
   go_wp2_with fail
   go_ret
   have h1 := HR.out.nils (wl.length - k)
   rw [rowsQ_tail hk (fun i h2 h3 => by have h4 := phrRow_out (ws := wsQ wl) (pats := pats) (i := i) (by rw [wsQ_len]; omega); rw [wsQ_len] at h4; exact h4)] at h1
   have h2 := HO.out.all (by rw [HU.out]; exact hk)
   rw [HU.out] at h2
   exact ⟨_, rfl, h2.sl h1 (rowsQ_len _ _) (by omega), HM.out⟩
  ·have hlt : (k : Int) < (wl.length : Int) - (pats.length : Int) + 1 := by omega
   generalize wr = w2 at *
   go_wp2_with fail
   go_loopg [7, 24] pats.length (fun gk b i wx => ∃ t : Nat, pats.length - t = gk ∧ t ≤ pats.length ∧ b = .bool (phrN (wsQ wl) pats k t) ∧ i = .int .i64 (t : Int) ∧ Pure w2 wx)
   case atStart => exact ⟨0, by omega, by omega, rfl, rfl, Mod.refl _ _⟩
   case round =>
    obtain ⟨t, rfl, ht, rfl, rfl, hmx⟩ := hrel
    by_cases htl : t < pats.length
    ·have HN := Lib.hid (phrN_succ (wsQ wl) pats k t)
     rw [phr_getD (by omega), pat_getD htl] at HN
     obtain ⟨gp, op, rfl, hrp⟩ := (HP.out.pure (HM.out.trans hmx)).rowS (by omega)
     have qp := hrp.cell (strsV_get pats t htl)
     obtain ⟨_, _, _, e, _, _, _, hrw0⟩ := HW.out.pure (HM.out.trans hmx)
     cases e
     obtain ⟨gw, ow, rfl, hrw⟩ := hrw0 (by omega)
     have qw := hrw.cell (wdV_get wl (k + t) (by omega)).2.2
     rw [← Nat.add_assoc] at qw
     have h1 := HPL.out _ (List.getElem_mem htl)
     have h2 := HWL.out _ (List.getElem_mem (show k + t < wl.length by omega))
     have HF := Lib.hid (fun W0 => fits_calls W0 pats[t] wl[k + t].2 h1 h2)
     clear h1 h2 hrp hrw hrw0
     generalize phrN (wsQ wl) pats k t = b1 at *
     generalize fitsB pats[t] wl[k + t].2 = b3 at *
     generalize pats[t] = pt at *
     generalize wl[k + t].2 = wt at *
     cases b1
     ·go_wp2_with fail
      go_roundg (pats.length - (t + 1))
      case measure => omega
      case rel => exact ⟨t + 1, rfl, htl, by rw [HN.out]; rfl, by simp, hmx⟩
     ·go_wp2_with fail
      refine (HF.out _).mono ?_
      rintro e w3 ⟨rfl, hm2⟩
      go_wp2_with fail
      go_roundg (pats.length - (t + 1))
      case measure => omega
      case rel => exact ⟨t + 1, rfl, htl, by rw [HN.out]; rfl, by simp, hmx.trans hm2⟩
    ·obtain rfl : t = pats.length := by omega
     have HROW := Lib.hid (phrRow (ws := wsQ wl) (pats := pats) (i := k) (by intro h; rw [h] at hp0; exact absurd hp0 (by decide)) (by rw [wsQ_len]; exact hin))
     rw [wsQ_len] at HROW
     have hkW : k < wl.length := by omega
     have HTK : Hid ((rowsQ wl.length (phrB (wsQ wl) pats)).take (k + 1) = (rowsQ wl.length (phrB (wsQ wl) pats)).take k ++ [rowQ wl.length (phrB (wsQ wl) pats k)]) := Lib.hid (by
      rw [List.take_succ_eq_append_getElem (by rw [rowsQ_len]; exact hkW), rowsQ_at])
     have HX := Lib.hid hmx
     clear hmx
     have HO2 := Lib.hid (HO.out.mod HX.out (fun h => h))
     have HR2 := Lib.hid (HR.out.pure HX.out)
     have HM2 := Lib.hid (HM.out.trans HX.out)
     cases hb : phrN (wsQ wl) pats k pats.length
     ·have HRN : Hid (rowQ wl.length (phrB (wsQ wl) pats k) = []) := Lib.hid (by rw [HROW.out, hb]; rfl)
      go_wp2_with fail
      go_roundg (wl.length + 1 - pats.length - (k + 1))
      case measure => omega
      case rel =>
       refine ⟨k + 1, us ++ [Value.slice none 0 0], rfl, by omega, by omega, by simp, by simp [HU.out], HO2.out.skip (by rw [HU.out]; exact hkW), ?_, HM2.out⟩
       rw [HTK.out, HRN.out]
       exact HR2.out.snoc (nilI (w := wr)).1 (nilI (w := wr)).2
     ·have HRN : Hid (rowQ wl.length (phrB (wsQ wl) pats k) = [k + pats.length - 1]) := Lib.hid (by rw [HROW.out, hb]; rfl)
      have xa := fun o => ((HO2.out.mod (pure_alloc wr o) (fun h => h)).cellk HU.out.symm (by rw [HU.out]; exact hkW)).1
      have xb := fun o => ((HO2.out.mod (pure_alloc wr o) (fun h => h)).cellk HU.out.symm (by rw [HU.out]; exact hkW)).2
      go_wp2_with fail
      go_roundg (wl.length + 1 - pats.length - (k + 1))
      case measure => omega
      case rel =>
       have hA := HO2.out.mod (pure_alloc wr (.cells #[.int .i64 ((k : Int) + (pats.length : Int) - 1)] 3)) (fun h => h)
       have hone : Sl (wr.alloc (.cells #[.int .i64 ((k : Int) + (pats.length : Int) - 1)] 3)) 3 1 (.slice (some ⟨wr.heap.size, 0, none⟩) 1 1) (nvQ [k + pats.length - 1]) := by
        have hn := Blk.new wr 3 #[.int .i64 ((k : Int) + (pats.length : Int) - 1)]
        have e : nvQ [k + pats.length - 1] = [Value.int .i64 ((k : Int) + (pats.length : Int) - 1)] := by
         show [Value.int .i64 ((k + pats.length - 1 : Nat) : Int)] = _
         rw [show ((k + pats.length - 1 : Nat) : Int) = (k : Int) + (pats.length : Int) - 1 by omega]
        rw [e]
        exact ⟨_, _, _, rfl, Nat.le_refl _, by omega, rfl, fun _ => ⟨_, 0, rfl, hn.row0⟩⟩
       refine ⟨k + 1, us ++ [Value.slice (some ⟨wr.heap.size, 0, none⟩) 1 1], rfl, by omega, by omega, by simp, by simp [HU.out], hA.snoc HU.out.symm (by rw [HU.out]; exact hkW) _, ?_, (HM2.out.trans (pure_alloc _ _)).setCell (.inr (by show w.heap.size ≤ g; omega)) _⟩
       rw [HTK.out, HRN.out]
       exact ((HR2.out.pure (pure_alloc _ _)).set hA (by decide) _ _).snoc (hone.set_ne hA (by decide) _) (fun n c h => by cases h)

end Go.Proofs.YtbajgjbdcgakoaaGreatDoor

/- places of searches by words (package query): patterns, and two searches near to each other. -/
namespace Go.Proofs.YtbajgjbdcgakoaaGreatDoor
set_option linter.unusedVariables false
set_option linter.unusedSimpArgs false
open Go.RowKit
theorem RnP.up {w w1 : World} {W : Nat} {F : Nat → Nat → Bool} {e : Ending} {w' : World} (h : RnP w1 W F e w') (hm : Pure w w1) : RnP w W F e w' := by
 obtain ⟨v, h1, h2, h3⟩ := h
 exact ⟨v, h1, h2, hm.trans h3⟩
theorem plc_word {ws : List Str} {k n : Int} {pats : List Str} {xs : List Qry} (hk : k = 2 ∨ k = 3) : plcQ ws (.mk k pats n xs) = phrB ws pats := by
 rw [plcQ]
 funext i j
 unfold plcK
 rcases hk with rfl | rfl <;> rfl
theorem plc_near {ws : List Str} {n : Int} {pats : List Str} {a b : Qry} : plcQ ws (.mk 4 pats n [a, b]) = fun i j => cutB (plcQ ws a) (plcQ ws b) n ws.length i j || cutB (plcQ ws b) (plcQ ws a) n ws.length i j := by
 rw [plcQ]
 rfl
set_option maxRecDepth 100000 in
set_option maxHeartbeats 4000000 in
theorem placesW_calls (w : World) (vw : Value) (wl : List Wd) (k n : Int) (A B : Option Addr) (c d : Nat) (pats : List Str) (xs : List QR) (hk : k = 2 ∨ k = 3) (hQ : QS w (.mk k A c pats n B d xs)) (hw : Wds w vw wl) (hp0 : 1 ≤ pats.length) (hp1 : pats.length ≤ 1000) (hpl : ∀ x ∈ pats, x.length ≤ 1000000) (hW : wl.length ≤ 1000) (hwl : ∀ x ∈ wl, x.2.length ≤ 1000000) :
  Calls Tryz.prog 157 #[qA (.mk k A c pats n B d xs), vw] w (RnP w wl.length (plcQ (wsQ wl) (QR.mk k A c pats n B d xs).key)) := by
 rw [QR.key_mk, plc_word hk, qA_mk]
 have hm : Pure w (w.alloc (.cells #[.int .i64 k, .slice A pats.length c, .int .i64 n, .slice B xs.length d] 29)) := (Mod.refl _ _).alloc _
 have HP := Lib.hid (phraseQ_calls (w.alloc (.cells #[.int .i64 k, .slice A pats.length c, .int .i64 n, .slice B xs.length d] 29)) (.slice A pats.length c) vw pats wl (hQ.wsH.pure hm) (hw.pure hm) hp0 hp1 hpl hW hwl)
 have HM := Lib.hid hm
 have hb := Blk.new w 29 #[.int .i64 k, .slice A pats.length c, .int .i64 n, .slice B xs.length d]
 have x0 := hb.cell 0; have x1 := hb.cell 1; have x2 := hb.cell 2; have x3 := hb.cell 3; simp at x0 x1 x2 x3
 have h5 : (k == 5) = false := by rcases hk with rfl | rfl <;> rfl
 have h4 : (k == 4) = false := by rcases hk with rfl | rfl <;> rfl
 have h7 : (k == 7) = false := by rcases hk with rfl | rfl <;> rfl
 clear hQ hw hpl hwl hm hb hk
 go_enter Tryz.func157, Tryz.ntmps157
 go_wp2_with fail
 refine HP.out.mono ?_
 rintro e w2 ⟨v, rfl, hs, hm2⟩
 have HS := Lib.hid hs
 have HM2 := Lib.hid (HM.out.trans hm2)
 clear hs hm2 HP
 go_wp2_with fail
 go_ret
 exact ⟨v, rfl, HS.out, HM2.out⟩
set_option maxRecDepth 100000 in
set_option maxHeartbeats 4000000 in
theorem placesN_calls (w : World) (vw : Value) (wl : List Wd) (n : Int) (A B : Option Addr) (c d : Nat) (ws : List Str) (a1 a2 : QR) (hQ : QS w (.mk 4 A c ws n B d [a1, a2])) (hW : wl.length ≤ 1000) (hn0 : 0 ≤ n) (hn1 : n ≤ 20)
  (h1 : ∀ W, Pure w W → Calls Tryz.prog 157 #[qA a1, vw] W (RnP W wl.length (plcQ (wsQ wl) a1.key))) (h2 : ∀ W, Pure w W → Calls Tryz.prog 157 #[qA a2, vw] W (RnP W wl.length (plcQ (wsQ wl) a2.key))) :
  Calls Tryz.prog 157 #[qA (.mk 4 A c ws n B d [a1, a2]), vw] w (RnP w wl.length (plcQ (wsQ wl) (QR.mk 4 A c ws n B d [a1, a2]).key)) := by
 rw [QR.key_mk, show [a1, a2].map QR.key = [a1.key, a2.key] from rfl, plc_near, qA_mk, wsQ_len]
 generalize plcQ (wsQ wl) a1.key = F1 at *
 generalize plcQ (wsQ wl) a2.key = F2 at *
 obtain ⟨k1, A1, c1, ws1, n1, B1, d1, xs1⟩ := a1
 obtain ⟨k2, A2, c2, ws2, n2, B2, d2, xs2⟩ := a2
 obtain ⟨gB, oB, hBe, p0, p1, p2, p3⟩ := qcells hQ.xsH (show 0 < 2 by decide) rfl
 obtain ⟨gB', oB', hBe', r0, r1, r2, r3⟩ := qcells hQ.xsH (show 1 < 2 by decide) rfl
 rw [hBe] at hBe'
 injection hBe' with hBe'
 injection hBe' with e1 e2
 subst e1 e2 hBe
 have hle : ∃ m, m = ([QR.mk k1 A1 c1 ws1 n1 B1 d1 xs1, QR.mk k2 A2 c2 ws2 n2 B2 d2 xs2] : List QR).length := ⟨_, rfl⟩
 have hd2 : 2 ≤ d ∧ d ≤ 9223372036854775807 := by
  obtain ⟨_, _, _, e, h1, h2, _⟩ := hQ.xsH
  cases e
  exact ⟨h1, h2⟩
 simp only [Nat.zero_mul, Nat.one_mul, Nat.add_zero] at p0 p1 p2 p3 r0 r1 r2 r3
 have hm : Pure w (w.alloc (.cells #[.int .i64 4, .slice A ws.length c, .int .i64 n, .slice (some ⟨gB, oB, none⟩) 2 d] 29)) := (Mod.refl _ _).alloc _
 have HM := Lib.hid hm
 have hb := Blk.new w 29 #[.int .i64 4, .slice A ws.length c, .int .i64 n, .slice (some ⟨gB, oB, none⟩) 2 d]
 have HB := Lib.hid hb
 have HC : Hid (CellQ w gB oB (.int .i64 k1) ∧ CellQ w gB (oB + 1) (.slice A1 ws1.length c1) ∧ CellQ w gB (oB + 2) (.int .i64 n1) ∧ CellQ w gB (oB + 3) (.slice B1 xs1.length d1) ∧ CellQ w gB (oB + 4) (.int .i64 k2) ∧ CellQ w gB (oB + 4 + 1) (.slice A2 ws2.length c2) ∧ CellQ w gB (oB + 4 + 2) (.int .i64 n2) ∧ CellQ w gB (oB + 4 + 3) (.slice B2 xs2.length d2)) := Lib.hid ⟨p0, p1, p2, p3, r0, r1, r2, r3⟩
 have H1 := Lib.hid h1
 have H2 := Lib.hid h2
 simp only [qA_mk] at H1 H2
 have x0 := hb.cell 0; have x1 := hb.cell 1; have x2 := hb.cell 2; have x3 := hb.cell 3; simp at x0 x1 x2 x3
 clear hQ hm hb h1 h2 p0 p1 p2 p3 r0 r1 r2 r3 hle
 go_enter Tryz.func157, Tryz.ntmps157
 go_upto_region 5 with (fail)
 generalize (w.alloc (.cells #[.int .i64 4, .slice A ws.length c, .int .i64 n, .slice (some ⟨gB, oB, none⟩) 2 d] 29)) = w1 at *
 generalize w.heap.size = gb at *
 have HC1 := Lib.hid (show _ ∧ _ ∧ _ ∧ _ ∧ _ ∧ _ ∧ _ ∧ _ from ⟨HC.out.1.pure HM.out, HC.out.2.1.pure HM.out, HC.out.2.2.1.pure HM.out, HC.out.2.2.2.1.pure HM.out, HC.out.2.2.2.2.1.pure HM.out, HC.out.2.2.2.2.2.1.pure HM.out, HC.out.2.2.2.2.2.2.1.pure HM.out, HC.out.2.2.2.2.2.2.2.pure HM.out⟩)
 clear HC x0 x1 x2 x3
 have HGs := Lib.hid (show ∀ (D : Nat → Bool) (zzi : Nat) (zq zq' : World), (fun _ zq => (fun Z => Blk Z gb 29 #[.int .i64 4, .slice A ws.length c, .int .i64 n, .slice (some ⟨gB, oB, none⟩) 2 d] ∧ CellQ Z gB oB (.int .i64 k1) ∧ CellQ Z gB (oB + 1) (.slice A1 ws1.length c1) ∧ CellQ Z gB (oB + 2) (.int .i64 n1) ∧ CellQ Z gB (oB + 3) (.slice B1 xs1.length d1) ∧ CellQ Z gB (oB + 4) (.int .i64 k2) ∧ CellQ Z gB (oB + 4 + 1) (.slice A2 ws2.length c2) ∧ CellQ Z gB (oB + 4 + 2) (.int .i64 n2) ∧ CellQ Z gB (oB + 4 + 3) (.slice B2 xs2.length d2)) zq) D zq → Mod (fun _ => False) zq zq' → (fun _ zq => (fun Z => Blk Z gb 29 #[.int .i64 4, .slice A ws.length c, .int .i64 n, .slice (some ⟨gB, oB, none⟩) 2 d] ∧ CellQ Z gB oB (.int .i64 k1) ∧ CellQ Z gB (oB + 1) (.slice A1 ws1.length c1) ∧ CellQ Z gB (oB + 2) (.int .i64 n1) ∧ CellQ Z gB (oB + 3) (.slice B1 xs1.length d1) ∧ CellQ Z gB (oB + 4) (.int .i64 k2) ∧ CellQ Z gB (oB + 4 + 1) (.slice A2 ws2.length c2) ∧ CellQ Z gB (oB + 4 + 2) (.int .i64 n2) ∧ CellQ Z gB (oB + 4 + 3) (.slice B2 xs2.length d2)) zq) (upd D zzi true) zq' from by intro D zzi zq zq' h hm; (exact ⟨h.1.modp hm, h.2.1.pure hm, h.2.2.1.pure hm, h.2.2.2.1.pure hm, h.2.2.2.2.1.pure hm, h.2.2.2.2.2.1.pure hm, h.2.2.2.2.2.2.1.pure hm, h.2.2.2.2.2.2.2.1.pure hm, h.2.2.2.2.2.2.2.2.pure hm⟩))
 refine wp_region_inv (by kernel_rfl) (by kernel_rfl) (InvF (R := Mod (fun _ => False)) [.is (.pointer (some ⟨gb, 3, none⟩)),
   .is (.slice (some ⟨gB, oB, none⟩) 2 d),
   .is (.pointer (some ⟨gB, oB, none⟩)),
   .is (.agg #[.int .i64 k1, .slice A1 ws1.length c1, .int .i64 n1, .slice B1 xs1.length d1]),
   .is (vw),
   ⟨fun zv zw => ∃ (v_5 : Value), zv = v_5 ∧ SlI zw v_5 (rowsQ wl.length F1), (by rintro zv zw zx ⟨v_5, hze, q0⟩ hm; exact ⟨v_5, hze, (q0.pure hm)⟩), none, none⟩,
   .is (.pointer (some ⟨gb, 3, none⟩)),
   .is (.slice (some ⟨gB, oB, none⟩) 2 d),
   .is (.pointer (some ⟨gB, oB + 4, none⟩)),
   .is (.agg #[.int .i64 k2, .slice A2 ws2.length c2, .int .i64 n2, .slice B2 xs2.length d2]),
   .is (vw),
   ⟨fun zv zw => ∃ (v_11 : Value), zv = v_11 ∧ SlI zw v_11 (rowsQ wl.length F2), (by rintro zv zw zx ⟨v_11, hze, q0⟩ hm; exact ⟨v_11, hze, (q0.pure hm)⟩), none, none⟩,
   ⟨fun zv zw => ∃ (v_12 : Value), zv = v_12 ∧ SlI zw v_12 (rowsQ wl.length F1), (by rintro zv zw zx ⟨v_12, hze, q0⟩ hm; exact ⟨v_12, hze, (q0.pure hm)⟩), none, none⟩,
   ⟨fun zv zw => ∃ (v_13 : Value), zv = v_13 ∧ SlI zw v_13 (rowsQ wl.length F2), (by rintro zv zw zx ⟨v_13, hze, q0⟩ hm; exact ⟨v_13, hze, (q0.pure hm)⟩), none, none⟩]
   (PB w1 (fun _ => False) w1.heap.size (fun _ zq => (fun Z => Blk Z gb 29 #[.int .i64 4, .slice A ws.length c, .int .i64 n, .slice (some ⟨gB, oB, none⟩) 2 d] ∧ CellQ Z gB oB (.int .i64 k1) ∧ CellQ Z gB (oB + 1) (.slice A1 ws1.length c1) ∧ CellQ Z gB (oB + 2) (.int .i64 n1) ∧ CellQ Z gB (oB + 3) (.slice B1 xs1.length d1) ∧ CellQ Z gB (oB + 4) (.int .i64 k2) ∧ CellQ Z gB (oB + 4 + 1) (.slice A2 ws2.length c2) ∧ CellQ Z gB (oB + 4 + 2) (.int .i64 n2) ∧ CellQ Z gB (oB + 4 + 3) (.slice B2 xs2.length d2)) zq))) (InvF.start (PB.start (Mod.refl _ _) (Nat.le_refl _) (⟨HB.out.drew, HC1.out⟩))) ?_ ?_
 ·refine .cons ?_ (.cons ?_ (.cons ?_ (.cons ?_ (.cons ?_ (.cons ?_ (.cons ?_ (.cons ?_ (.cons ?_ (.cons ?_ (.cons ?_ (.cons ?_ (.cons ?_ (.cons ?_ .nil)))))))))))))
  ·intro D V zw1 a hR hI K hK
   obtain ⟨hM1, hB1, hG1⟩ := hI.1
   obtain ⟨hG1b, hG10, hG11, hG12, hG13, hG14, hG15, hG16, hG17⟩ := hG1
   have ze2 := hR.frame.other (t := 2) (by kernel_rfl) rfl
   rw [if_pos (by rfl)]
   go_simp
   exact hK (.pointer (some ⟨gb, 3, none⟩)) _ (hI.next hR (by kernel_rfl) (Mod.refl _ _) (PB.quiet hI.1 (Mod.refl _ _) (HGs.out D 0 zw1 zw1 (hI.1).g (Mod.refl _ _))) (upd_same V 0 _))
  ·intro D V zw1 a hR hI K hK
   obtain ⟨hM1, hB1, hG1⟩ := hI.1
   obtain ⟨hG1b, hG10, hG11, hG12, hG13, hG14, hG15, hG16, hG17⟩ := hG1
   have zd0 := hR.pred 0 (by kernel_rfl)
   have zF0 : V 0 = .pointer (some ⟨gb, 3, none⟩) := hI.2 0 zd0 rfl
   have zf0 := zF0; clear zF0
   have ze31 := hR.frame.done (t := 31) (j := 0) (by kernel_rfl) hR.ok zd0
   have zx3 := (hG1b).cell 3; have zy3 := (hG1b).frozen 3; simp at zx3
   rw [if_pos (by rfl)]
   go_simp
   exact hK (.slice (some ⟨gB, oB, none⟩) 2 d) _ (hI.next hR (by kernel_rfl) (Mod.refl _ _) (PB.quiet hI.1 (Mod.refl _ _) (HGs.out D 1 zw1 zw1 (hI.1).g (Mod.refl _ _))) (upd_same V 1 _))
  ·intro D V zw1 a hR hI K hK
   obtain ⟨hM1, hB1, hG1⟩ := hI.1
   obtain ⟨hG1b, hG10, hG11, hG12, hG13, hG14, hG15, hG16, hG17⟩ := hG1
   have zd1 := hR.pred 1 (by kernel_rfl)
   have zF1 : V 1 = .slice (some ⟨gB, oB, none⟩) 2 d := hI.2 1 zd1 rfl
   have zf1 := zF1; clear zF1
   have ze32 := hR.frame.done (t := 32) (j := 1) (by kernel_rfl) hR.ok zd1
   rw [if_pos (by rfl)]
   go_simp
   exact hK (.pointer (some ⟨gB, oB, none⟩)) _ (hI.next hR (by kernel_rfl) (Mod.refl _ _) (PB.quiet hI.1 (Mod.refl _ _) (HGs.out D 2 zw1 zw1 (hI.1).g (Mod.refl _ _))) (upd_same V 2 _))
  ·intro D V zw1 a hR hI K hK
   obtain ⟨hM1, hB1, hG1⟩ := hI.1
   obtain ⟨hG1b, hG10, hG11, hG12, hG13, hG14, hG15, hG16, hG17⟩ := hG1
   have zd2 := hR.pred 2 (by kernel_rfl)
   have zF2 : V 2 = .pointer (some ⟨gB, oB, none⟩) := hI.2 2 zd2 rfl
   have zf2 := zF2; clear zF2
   have ze33 := hR.frame.done (t := 33) (j := 2) (by kernel_rfl) hR.ok zd2
   unfold CellQ at hG10 hG11 hG12 hG13
   rw [if_pos (by rfl)]
   go_simp
   exact hK (.agg #[.int .i64 k1, .slice A1 ws1.length c1, .int .i64 n1, .slice B1 xs1.length d1]) _ (hI.next hR (by kernel_rfl) (Mod.refl _ _) (PB.quiet hI.1 (Mod.refl _ _) (HGs.out D 3 zw1 zw1 (hI.1).g (Mod.refl _ _))) (upd_same V 3 _))
  ·intro D V zw1 a hR hI K hK
   obtain ⟨hM1, hB1, hG1⟩ := hI.1
   obtain ⟨hG1b, hG10, hG11, hG12, hG13, hG14, hG15, hG16, hG17⟩ := hG1
   have ze1 := hR.frame.other (t := 1) (by kernel_rfl) rfl
   rw [if_pos (by rfl)]
   go_simp
   exact hK (vw) _ (hI.next hR (by kernel_rfl) (Mod.refl _ _) (PB.quiet hI.1 (Mod.refl _ _) (HGs.out D 4 zw1 zw1 (hI.1).g (Mod.refl _ _))) (upd_same V 4 _))
  ·intro D V zw1 a hR hI K hK
   obtain ⟨hM1, hB1, hG1⟩ := hI.1
   obtain ⟨hG1b, hG10, hG11, hG12, hG13, hG14, hG15, hG16, hG17⟩ := hG1
   have zd3 := hR.pred 3 (by kernel_rfl)
   have zF3 : V 3 = .agg #[.int .i64 k1, .slice A1 ws1.length c1, .int .i64 n1, .slice B1 xs1.length d1] := hI.2 3 zd3 rfl
   have zf3 := zF3; clear zF3
   have zd4 := hR.pred 4 (by kernel_rfl)
   have zF4 : V 4 = vw := hI.2 4 zd4 rfl
   have zf4 := zF4; clear zF4
   have ze34 := hR.frame.done (t := 34) (j := 3) (by kernel_rfl) hR.ok zd3
   have ze35 := hR.frame.done (t := 35) (j := 4) (by kernel_rfl) hR.ok zd4
   rw [if_pos (by rfl)]
   go_simp
   refine (H1.out zw1 (HM.out.trans hM1)).mono ?_
   rintro e zw2 ⟨v_0, rfl, hq, hm2⟩
   exact hK (v_0) _ (hI.next hR (by kernel_rfl) hm2 (PB.quiet hI.1 hm2 (HGs.out D 5 _ _ (hI.1).g hm2)) (⟨v_0, upd_same V 5 _, hq⟩))
  ·intro D V zw1 a hR hI K hK
   obtain ⟨hM1, hB1, hG1⟩ := hI.1
   obtain ⟨hG1b, hG10, hG11, hG12, hG13, hG14, hG15, hG16, hG17⟩ := hG1
   have ze2 := hR.frame.other (t := 2) (by kernel_rfl) rfl
   rw [if_pos (by rfl)]
   go_simp
   exact hK (.pointer (some ⟨gb, 3, none⟩)) _ (hI.next hR (by kernel_rfl) (Mod.refl _ _) (PB.quiet hI.1 (Mod.refl _ _) (HGs.out D 6 zw1 zw1 (hI.1).g (Mod.refl _ _))) (upd_same V 6 _))
  ·intro D V zw1 a hR hI K hK
   obtain ⟨hM1, hB1, hG1⟩ := hI.1
   obtain ⟨hG1b, hG10, hG11, hG12, hG13, hG14, hG15, hG16, hG17⟩ := hG1
   have zd6 := hR.pred 6 (by kernel_rfl)
   have zF6 : V 6 = .pointer (some ⟨gb, 3, none⟩) := hI.2 6 zd6 rfl
   have zf6 := zF6; clear zF6
   have ze37 := hR.frame.done (t := 37) (j := 6) (by kernel_rfl) hR.ok zd6
   have zx3 := (hG1b).cell 3; have zy3 := (hG1b).frozen 3; simp at zx3
   rw [if_pos (by rfl)]
   go_simp
   exact hK (.slice (some ⟨gB, oB, none⟩) 2 d) _ (hI.next hR (by kernel_rfl) (Mod.refl _ _) (PB.quiet hI.1 (Mod.refl _ _) (HGs.out D 7 zw1 zw1 (hI.1).g (Mod.refl _ _))) (upd_same V 7 _))
  ·intro D V zw1 a hR hI K hK
   obtain ⟨hM1, hB1, hG1⟩ := hI.1
   obtain ⟨hG1b, hG10, hG11, hG12, hG13, hG14, hG15, hG16, hG17⟩ := hG1
   have zd7 := hR.pred 7 (by kernel_rfl)
   have zF7 : V 7 = .slice (some ⟨gB, oB, none⟩) 2 d := hI.2 7 zd7 rfl
   have zf7 := zF7; clear zF7
   have ze38 := hR.frame.done (t := 38) (j := 7) (by kernel_rfl) hR.ok zd7
   rw [if_pos (by rfl)]
   go_simp
   exact hK (.pointer (some ⟨gB, oB + 4, none⟩)) _ (hI.next hR (by kernel_rfl) (Mod.refl _ _) (PB.quiet hI.1 (Mod.refl _ _) (HGs.out D 8 zw1 zw1 (hI.1).g (Mod.refl _ _))) (upd_same V 8 _))
  ·intro D V zw1 a hR hI K hK
   obtain ⟨hM1, hB1, hG1⟩ := hI.1
   obtain ⟨hG1b, hG10, hG11, hG12, hG13, hG14, hG15, hG16, hG17⟩ := hG1
   have zd8 := hR.pred 8 (by kernel_rfl)
   have zF8 : V 8 = .pointer (some ⟨gB, oB + 4, none⟩) := hI.2 8 zd8 rfl
   have zf8 := zF8; clear zF8
   have ze39 := hR.frame.done (t := 39) (j := 8) (by kernel_rfl) hR.ok zd8
   unfold CellQ at hG14 hG15 hG16 hG17
   rw [if_pos (by rfl)]
   go_simp
   exact hK (.agg #[.int .i64 k2, .slice A2 ws2.length c2, .int .i64 n2, .slice B2 xs2.length d2]) _ (hI.next hR (by kernel_rfl) (Mod.refl _ _) (PB.quiet hI.1 (Mod.refl _ _) (HGs.out D 9 zw1 zw1 (hI.1).g (Mod.refl _ _))) (upd_same V 9 _))
  ·intro D V zw1 a hR hI K hK
   obtain ⟨hM1, hB1, hG1⟩ := hI.1
   obtain ⟨hG1b, hG10, hG11, hG12, hG13, hG14, hG15, hG16, hG17⟩ := hG1
   have ze1 := hR.frame.other (t := 1) (by kernel_rfl) rfl
   rw [if_pos (by rfl)]
   go_simp
   exact hK (vw) _ (hI.next hR (by kernel_rfl) (Mod.refl _ _) (PB.quiet hI.1 (Mod.refl _ _) (HGs.out D 10 zw1 zw1 (hI.1).g (Mod.refl _ _))) (upd_same V 10 _))
  ·intro D V zw1 a hR hI K hK
   obtain ⟨hM1, hB1, hG1⟩ := hI.1
   obtain ⟨hG1b, hG10, hG11, hG12, hG13, hG14, hG15, hG16, hG17⟩ := hG1
   have zd9 := hR.pred 9 (by kernel_rfl)
   have zF9 : V 9 = .agg #[.int .i64 k2, .slice A2 ws2.length c2, .int .i64 n2, .slice B2 xs2.length d2] := hI.2 9 zd9 rfl
   have zf9 := zF9; clear zF9
   have zd10 := hR.pred 10 (by kernel_rfl)
   have zF10 : V 10 = vw := hI.2 10 zd10 rfl
   have zf10 := zF10; clear zF10
   have ze40 := hR.frame.done (t := 40) (j := 9) (by kernel_rfl) hR.ok zd9
   have ze41 := hR.frame.done (t := 41) (j := 10) (by kernel_rfl) hR.ok zd10
   rw [if_pos (by rfl)]
   go_simp
   refine (H2.out zw1 (HM.out.trans hM1)).mono ?_
   rintro e zw2 ⟨v_0, rfl, hq, hm2⟩
   exact hK (v_0) _ (hI.next hR (by kernel_rfl) hm2 (PB.quiet hI.1 hm2 (HGs.out D 11 _ _ (hI.1).g hm2)) (⟨v_0, upd_same V 11 _, hq⟩))
  ·intro D V zw1 a hR hI K hK
   obtain ⟨hM1, hB1, hG1⟩ := hI.1
   obtain ⟨hG1b, hG10, hG11, hG12, hG13, hG14, hG15, hG16, hG17⟩ := hG1
   have zd5 := hR.pred 5 (by kernel_rfl)
   have zF5 : ∃ (v_5 : Value), V 5 = v_5 ∧ SlI zw1 v_5 (rowsQ wl.length F1) := hI.2 5 zd5 rfl
   obtain ⟨v_5, zf5, b5_0⟩ := zF5
   have ze36 := hR.frame.done (t := 36) (j := 5) (by kernel_rfl) hR.ok zd5
   rw [if_pos (by rfl)]
   go_simp
   exact hK (v_5) _ (hI.next hR (by kernel_rfl) (Mod.refl _ _) (PB.quiet hI.1 (Mod.refl _ _) (HGs.out D 12 zw1 zw1 (hI.1).g (Mod.refl _ _))) (⟨v_5, upd_same V 12 _, b5_0⟩))
  ·intro D V zw1 a hR hI K hK
   obtain ⟨hM1, hB1, hG1⟩ := hI.1
   obtain ⟨hG1b, hG10, hG11, hG12, hG13, hG14, hG15, hG16, hG17⟩ := hG1
   have zd11 := hR.pred 11 (by kernel_rfl)
   have zF11 : ∃ (v_11 : Value), V 11 = v_11 ∧ SlI zw1 v_11 (rowsQ wl.length F2) := hI.2 11 zd11 rfl
   obtain ⟨v_11, zf11, b11_0⟩ := zF11
   have ze42 := hR.frame.done (t := 42) (j := 11) (by kernel_rfl) hR.ok zd11
   rw [if_pos (by rfl)]
   go_simp
   exact hK (v_11) _ (hI.next hR (by kernel_rfl) (Mod.refl _ _) (PB.quiet hI.1 (Mod.refl _ _) (HGs.out D 13 zw1 zw1 (hI.1).g (Mod.refl _ _))) (⟨v_11, upd_same V 13 _, b11_0⟩))
 ·intro D V w2 hD hI
  obtain ⟨hM1, hB1, hG1⟩ := hI.1
  have hMx := hM1
  clear hM1
  have hBx := hB1
  clear hB1
  have hGx := hG1
  clear hG1
  have zF0 : V 0 = .pointer (some ⟨gb, 3, none⟩) := hI.2 0 (hD 0 (by decide)) rfl
  have zf0 := zF0; clear zF0
  have zF1 : V 1 = .slice (some ⟨gB, oB, none⟩) 2 d := hI.2 1 (hD 1 (by decide)) rfl
  have zf1 := zF1; clear zF1
  have zF2 : V 2 = .pointer (some ⟨gB, oB, none⟩) := hI.2 2 (hD 2 (by decide)) rfl
  have zf2 := zF2; clear zF2
  have zF3 : V 3 = .agg #[.int .i64 k1, .slice A1 ws1.length c1, .int .i64 n1, .slice B1 xs1.length d1] := hI.2 3 (hD 3 (by decide)) rfl
  have zf3 := zF3; clear zF3
  have zF4 : V 4 = vw := hI.2 4 (hD 4 (by decide)) rfl
  have zf4 := zF4; clear zF4
  have zF5 : ∃ (v_5 : Value), V 5 = v_5 ∧ SlI w2 v_5 (rowsQ wl.length F1) := hI.2 5 (hD 5 (by decide)) rfl
  obtain ⟨v_5, zf5, b5_0⟩ := zF5
  have zF6 : V 6 = .pointer (some ⟨gb, 3, none⟩) := hI.2 6 (hD 6 (by decide)) rfl
  have zf6 := zF6; clear zF6
  have zF7 : V 7 = .slice (some ⟨gB, oB, none⟩) 2 d := hI.2 7 (hD 7 (by decide)) rfl
  have zf7 := zF7; clear zF7
  have zF8 : V 8 = .pointer (some ⟨gB, oB + 4, none⟩) := hI.2 8 (hD 8 (by decide)) rfl
  have zf8 := zF8; clear zF8
  have zF9 : V 9 = .agg #[.int .i64 k2, .slice A2 ws2.length c2, .int .i64 n2, .slice B2 xs2.length d2] := hI.2 9 (hD 9 (by decide)) rfl
  have zf9 := zF9; clear zF9
  have zF10 : V 10 = vw := hI.2 10 (hD 10 (by decide)) rfl
  have zf10 := zF10; clear zF10
  have zF11 : ∃ (v_11 : Value), V 11 = v_11 ∧ SlI w2 v_11 (rowsQ wl.length F2) := hI.2 11 (hD 11 (by decide)) rfl
  obtain ⟨v_11, zf11, b11_0⟩ := zF11
  have zF12 : ∃ (v_12 : Value), V 12 = v_12 ∧ SlI w2 v_12 (rowsQ wl.length F1) := hI.2 12 (hD 12 (by decide)) rfl
  obtain ⟨v_12, zf12, b12_0⟩ := zF12
  have zF13 : ∃ (v_13 : Value), V 13 = v_13 ∧ SlI w2 v_13 (rowsQ wl.length F2) := hI.2 13 (hD 13 (by decide)) rfl
  obtain ⟨v_13, zf13, b13_0⟩ := zF13
  clear hI hD HGs
  simp only [frAll, Act.put, List.setIfInBounds_toArray, List.set_cons_zero, List.set_cons_succ, Nat.zero_add, Nat.reduceAdd, zf0, zf1, zf2, zf3, zf4, zf5, zf6, zf7, zf8, zf9, zf10, zf11, zf12, zf13]
  clear zf0 zf1 zf2 zf3 zf4 zf5 zf6 zf7 zf8 zf9 zf10 zf11 zf12 zf13
  clear V D
  have HBX := Lib.hid hGx.1
  have HS1 := Lib.hid b12_0
  have HS2 := Lib.hid b13_0
  have HMX := Lib.hid (HM.out.trans hMx)
  clear hGx hMx b12_0 b13_0 b5_0 b11_0 H1 H2 HC1 HB
  generalize v_12 = p1 at *
  generalize v_13 = p2 at *
  go_upto_region 6 with (fail)
  have HGs := Lib.hid (show ∀ (D : Nat → Bool) (zzi : Nat) (zq zq' : World), (fun _ zq => (fun Z => Blk Z gb 29 #[.int .i64 4, .slice A ws.length c, .int .i64 n, .slice (some ⟨gB, oB, none⟩) 2 d] ∧ SlI Z p1 (rowsQ wl.length F1) ∧ SlI Z p2 (rowsQ wl.length F2)) zq) D zq → Mod (fun _ => False) zq zq' → (fun _ zq => (fun Z => Blk Z gb 29 #[.int .i64 4, .slice A ws.length c, .int .i64 n, .slice (some ⟨gB, oB, none⟩) 2 d] ∧ SlI Z p1 (rowsQ wl.length F1) ∧ SlI Z p2 (rowsQ wl.length F2)) zq) (upd D zzi true) zq' from by intro D zzi zq zq' h hm; (exact ⟨h.1.modp hm, h.2.1.pure hm, h.2.2.pure hm⟩))
  refine wp_region_inv (by kernel_rfl) (by kernel_rfl) (InvF (R := Mod (fun _ => False)) [.is (p1),
    .is (p2),
    .is (.pointer (some ⟨gb, 2, none⟩)),
    .is (.int .i64 n),
    ⟨fun zv zw => ∃ (v_4 : Value), zv = v_4 ∧ SlI zw v_4 (rowsQ wl.length (cutB F1 F2 n wl.length)), (by rintro zv zw zx ⟨v_4, hze, q0⟩ hm; exact ⟨v_4, hze, (q0.pure hm)⟩), none, none⟩,
    .is (p2),
    .is (p1),
    .is (.pointer (some ⟨gb, 2, none⟩)),
    .is (.int .i64 n),
    ⟨fun zv zw => ∃ (v_9 : Value), zv = v_9 ∧ SlI zw v_9 (rowsQ wl.length (cutB F2 F1 n wl.length)), (by rintro zv zw zx ⟨v_9, hze, q0⟩ hm; exact ⟨v_9, hze, (q0.pure hm)⟩), none, none⟩,
    ⟨fun zv zw => ∃ (v_10 : Value), zv = v_10 ∧ SlI zw v_10 (rowsQ wl.length (fun i j => cutB F1 F2 n wl.length i j || cutB F2 F1 n wl.length i j)), (by rintro zv zw zx ⟨v_10, hze, q0⟩ hm; exact ⟨v_10, hze, (q0.pure hm)⟩), none, none⟩,
    ⟨fun zv zw => ∃ (v_11 : Value), zv = v_11 ∧ SlI zw v_11 (rowsQ wl.length (fun i j => cutB F1 F2 n wl.length i j || cutB F2 F1 n wl.length i j)), (by rintro zv zw zx ⟨v_11, hze, q0⟩ hm; exact ⟨v_11, hze, (q0.pure hm)⟩), none, none⟩]
    (PB w2 (fun _ => False) w2.heap.size (fun _ zq => (fun Z => Blk Z gb 29 #[.int .i64 4, .slice A ws.length c, .int .i64 n, .slice (some ⟨gB, oB, none⟩) 2 d] ∧ SlI Z p1 (rowsQ wl.length F1) ∧ SlI Z p2 (rowsQ wl.length F2)) zq))) (InvF.start (PB.start (Mod.refl _ _) (Nat.le_refl _) (⟨HBX.out.drew, HS1.out.pure ((Mod.refl _ _).drew), HS2.out.pure ((Mod.refl _ _).drew)⟩))) ?_ ?_
  ·refine .cons ?_ (.cons ?_ (.cons ?_ (.cons ?_ (.cons ?_ (.cons ?_ (.cons ?_ (.cons ?_ (.cons ?_ (.cons ?_ (.cons ?_ (.cons ?_ .nil)))))))))))
   ·intro D V zw1 a hR hI K hK
    obtain ⟨hM1, hB1, hG1⟩ := hI.1
    obtain ⟨hG1b, hG1c, hG1d⟩ := hG1
    have ze5 := hR.frame.other (t := 5) (by kernel_rfl) rfl
    rw [if_pos (by rfl)]
    go_simp
    exact hK (p1) _ (hI.next hR (by kernel_rfl) (Mod.refl _ _) (PB.quiet hI.1 (Mod.refl _ _) (HGs.out D 0 zw1 zw1 (hI.1).g (Mod.refl _ _))) (upd_same V 0 _))
   ·intro D V zw1 a hR hI K hK
    obtain ⟨hM1, hB1, hG1⟩ := hI.1
    obtain ⟨hG1b, hG1c, hG1d⟩ := hG1
    have ze6 := hR.frame.other (t := 6) (by kernel_rfl) rfl
    rw [if_pos (by rfl)]
    go_simp
    exact hK (p2) _ (hI.next hR (by kernel_rfl) (Mod.refl _ _) (PB.quiet hI.1 (Mod.refl _ _) (HGs.out D 1 zw1 zw1 (hI.1).g (Mod.refl _ _))) (upd_same V 1 _))
   ·intro D V zw1 a hR hI K hK
    obtain ⟨hM1, hB1, hG1⟩ := hI.1
    obtain ⟨hG1b, hG1c, hG1d⟩ := hG1
    have ze2 := hR.frame.other (t := 2) (by kernel_rfl) rfl
    rw [if_pos (by rfl)]
    go_simp
    exact hK (.pointer (some ⟨gb, 2, none⟩)) _ (hI.next hR (by kernel_rfl) (Mod.refl _ _) (PB.quiet hI.1 (Mod.refl _ _) (HGs.out D 2 zw1 zw1 (hI.1).g (Mod.refl _ _))) (upd_same V 2 _))
   ·intro D V zw1 a hR hI K hK
    obtain ⟨hM1, hB1, hG1⟩ := hI.1
    obtain ⟨hG1b, hG1c, hG1d⟩ := hG1
    have zd2 := hR.pred 2 (by kernel_rfl)
    have zF2 : V 2 = .pointer (some ⟨gb, 2, none⟩) := hI.2 2 zd2 rfl
    have zf2 := zF2; clear zF2
    have ze45 := hR.frame.done (t := 45) (j := 2) (by kernel_rfl) hR.ok zd2
    have zx2 := (hG1b).cell 2; have zy2 := (hG1b).frozen 2; simp at zx2
    rw [if_pos (by rfl)]
    go_simp
    exact hK (.int .i64 n) _ (hI.next hR (by kernel_rfl) (Mod.refl _ _) (PB.quiet hI.1 (Mod.refl _ _) (HGs.out D 3 zw1 zw1 (hI.1).g (Mod.refl _ _))) (upd_same V 3 _))
   ·intro D V zw1 a hR hI K hK
    obtain ⟨hM1, hB1, hG1⟩ := hI.1
    obtain ⟨hG1b, hG1c, hG1d⟩ := hG1
    have zd0 := hR.pred 0 (by kernel_rfl)
    have zF0 : V 0 = p1 := hI.2 0 zd0 rfl
    have zf0 := zF0; clear zF0
    have zd1 := hR.pred 1 (by kernel_rfl)
    have zF1 : V 1 = p2 := hI.2 1 zd1 rfl
    have zf1 := zF1; clear zF1
    have zd3 := hR.pred 3 (by kernel_rfl)
    have zF3 : V 3 = .int .i64 n := hI.2 3 zd3 rfl
    have zf3 := zF3; clear zF3
    have ze43 := hR.frame.done (t := 43) (j := 0) (by kernel_rfl) hR.ok zd0
    have ze44 := hR.frame.done (t := 44) (j := 1) (by kernel_rfl) hR.ok zd1
    have ze46 := hR.frame.done (t := 46) (j := 3) (by kernel_rfl) hR.ok zd3
    rw [if_pos (by rfl)]
    go_simp
    refine (ahead_calls zw1 p1 p2 wl.length F1 F2 n hG1c hG1d hW hn0 hn1).mono ?_
    rintro e zw2 ⟨v_0, rfl, hq, hm2⟩
    exact hK (v_0) _ (hI.next hR (by kernel_rfl) hm2 (PB.quiet hI.1 hm2 (HGs.out D 4 _ _ (hI.1).g hm2)) (⟨v_0, upd_same V 4 _, hq⟩))
   ·intro D V zw1 a hR hI K hK
    obtain ⟨hM1, hB1, hG1⟩ := hI.1
    obtain ⟨hG1b, hG1c, hG1d⟩ := hG1
    have ze6 := hR.frame.other (t := 6) (by kernel_rfl) rfl
    rw [if_pos (by rfl)]
    go_simp
    exact hK (p2) _ (hI.next hR (by kernel_rfl) (Mod.refl _ _) (PB.quiet hI.1 (Mod.refl _ _) (HGs.out D 5 zw1 zw1 (hI.1).g (Mod.refl _ _))) (upd_same V 5 _))
   ·intro D V zw1 a hR hI K hK
    obtain ⟨hM1, hB1, hG1⟩ := hI.1
    obtain ⟨hG1b, hG1c, hG1d⟩ := hG1
    have ze5 := hR.frame.other (t := 5) (by kernel_rfl) rfl
    rw [if_pos (by rfl)]
    go_simp
    exact hK (p1) _ (hI.next hR (by kernel_rfl) (Mod.refl _ _) (PB.quiet hI.1 (Mod.refl _ _) (HGs.out D 6 zw1 zw1 (hI.1).g (Mod.refl _ _))) (upd_same V 6 _))
   ·intro D V zw1 a hR hI K hK
    obtain ⟨hM1, hB1, hG1⟩ := hI.1
    obtain ⟨hG1b, hG1c, hG1d⟩ := hG1
    have ze2 := hR.frame.other (t := 2) (by kernel_rfl) rfl
    rw [if_pos (by rfl)]
    go_simp
    exact hK (.pointer (some ⟨gb, 2, none⟩)) _ (hI.next hR (by kernel_rfl) (Mod.refl _ _) (PB.quiet hI.1 (Mod.refl _ _) (HGs.out D 7 zw1 zw1 (hI.1).g (Mod.refl _ _))) (upd_same V 7 _))
   ·intro D V zw1 a hR hI K hK
    obtain ⟨hM1, hB1, hG1⟩ := hI.1
    obtain ⟨hG1b, hG1c, hG1d⟩ := hG1
    have zd7 := hR.pred 7 (by kernel_rfl)
    have zF7 : V 7 = .pointer (some ⟨gb, 2, none⟩) := hI.2 7 zd7 rfl
    have zf7 := zF7; clear zF7
    have ze50 := hR.frame.done (t := 50) (j := 7) (by kernel_rfl) hR.ok zd7
    have zx2 := (hG1b).cell 2; have zy2 := (hG1b).frozen 2; simp at zx2
    rw [if_pos (by rfl)]
    go_simp
    exact hK (.int .i64 n) _ (hI.next hR (by kernel_rfl) (Mod.refl _ _) (PB.quiet hI.1 (Mod.refl _ _) (HGs.out D 8 zw1 zw1 (hI.1).g (Mod.refl _ _))) (upd_same V 8 _))
   ·intro D V zw1 a hR hI K hK
    obtain ⟨hM1, hB1, hG1⟩ := hI.1
    obtain ⟨hG1b, hG1c, hG1d⟩ := hG1
    have zd5 := hR.pred 5 (by kernel_rfl)
    have zF5 : V 5 = p2 := hI.2 5 zd5 rfl
    have zf5 := zF5; clear zF5
    have zd6 := hR.pred 6 (by kernel_rfl)
    have zF6 : V 6 = p1 := hI.2 6 zd6 rfl
    have zf6 := zF6; clear zF6
    have zd8 := hR.pred 8 (by kernel_rfl)
    have zF8 : V 8 = .int .i64 n := hI.2 8 zd8 rfl
    have zf8 := zF8; clear zF8
    have ze48 := hR.frame.done (t := 48) (j := 5) (by kernel_rfl) hR.ok zd5
    have ze49 := hR.frame.done (t := 49) (j := 6) (by kernel_rfl) hR.ok zd6
    have ze51 := hR.frame.done (t := 51) (j := 8) (by kernel_rfl) hR.ok zd8
    rw [if_pos (by rfl)]
    go_simp
    refine (ahead_calls zw1 p2 p1 wl.length F2 F1 n hG1d hG1c hW hn0 hn1).mono ?_
    rintro e zw2 ⟨v_0, rfl, hq, hm2⟩
    exact hK (v_0) _ (hI.next hR (by kernel_rfl) hm2 (PB.quiet hI.1 hm2 (HGs.out D 9 _ _ (hI.1).g hm2)) (⟨v_0, upd_same V 9 _, hq⟩))
   ·intro D V zw1 a hR hI K hK
    obtain ⟨hM1, hB1, hG1⟩ := hI.1
    obtain ⟨hG1b, hG1c, hG1d⟩ := hG1
    have zd4 := hR.pred 4 (by kernel_rfl)
    have zF4 : ∃ (v_4 : Value), V 4 = v_4 ∧ SlI zw1 v_4 (rowsQ wl.length (cutB F1 F2 n wl.length)) := hI.2 4 zd4 rfl
    obtain ⟨v_4, zf4, b4_0⟩ := zF4
    have zd9 := hR.pred 9 (by kernel_rfl)
    have zF9 : ∃ (v_9 : Value), V 9 = v_9 ∧ SlI zw1 v_9 (rowsQ wl.length (cutB F2 F1 n wl.length)) := hI.2 9 zd9 rfl
    obtain ⟨v_9, zf9, b9_0⟩ := zF9
    have ze47 := hR.frame.done (t := 47) (j := 4) (by kernel_rfl) hR.ok zd4
    have ze52 := hR.frame.done (t := 52) (j := 9) (by kernel_rfl) hR.ok zd9
    rw [if_pos (by rfl)]
    go_simp
    refine (both_calls zw1 v_4 v_9 wl.length (cutB F1 F2 n wl.length) (cutB F2 F1 n wl.length) b4_0 b9_0 hW).mono ?_
    rintro e zw2 ⟨v_0, rfl, hq, hm2⟩
    exact hK (v_0) _ (hI.next hR (by kernel_rfl) hm2 (PB.quiet hI.1 hm2 (HGs.out D 10 _ _ (hI.1).g hm2)) (⟨v_0, upd_same V 10 _, hq⟩))
   ·intro D V zw1 a hR hI K hK
    obtain ⟨hM1, hB1, hG1⟩ := hI.1
    obtain ⟨hG1b, hG1c, hG1d⟩ := hG1
    have zd10 := hR.pred 10 (by kernel_rfl)
    have zF10 : ∃ (v_10 : Value), V 10 = v_10 ∧ SlI zw1 v_10 (rowsQ wl.length (fun i j => cutB F1 F2 n wl.length i j || cutB F2 F1 n wl.length i j)) := hI.2 10 zd10 rfl
    obtain ⟨v_10, zf10, b10_0⟩ := zF10
    have ze53 := hR.frame.done (t := 53) (j := 10) (by kernel_rfl) hR.ok zd10
    rw [if_pos (by rfl)]
    go_simp
    exact hK (v_10) _ (hI.next hR (by kernel_rfl) (Mod.refl _ _) (PB.quiet hI.1 (Mod.refl _ _) (HGs.out D 11 zw1 zw1 (hI.1).g (Mod.refl _ _))) (⟨v_10, upd_same V 11 _, b10_0⟩))
  ·intro D V w3 hD hI
   obtain ⟨hM1, hB1, hG1⟩ := hI.1
   have hMx := hM1
   clear hM1
   have hBx := hB1
   clear hB1
   have hGx := hG1
   clear hG1
   have zF0 : V 0 = p1 := hI.2 0 (hD 0 (by decide)) rfl
   have zf0 := zF0; clear zF0
   have zF1 : V 1 = p2 := hI.2 1 (hD 1 (by decide)) rfl
   have zf1 := zF1; clear zF1
   have zF2 : V 2 = .pointer (some ⟨gb, 2, none⟩) := hI.2 2 (hD 2 (by decide)) rfl
   have zf2 := zF2; clear zF2
   have zF3 : V 3 = .int .i64 n := hI.2 3 (hD 3 (by decide)) rfl
   have zf3 := zF3; clear zF3
   have zF4 : ∃ (v_4 : Value), V 4 = v_4 ∧ SlI w3 v_4 (rowsQ wl.length (cutB F1 F2 n wl.length)) := hI.2 4 (hD 4 (by decide)) rfl
   obtain ⟨v_4, zf4, b4_0⟩ := zF4
   have zF5 : V 5 = p2 := hI.2 5 (hD 5 (by decide)) rfl
   have zf5 := zF5; clear zF5
   have zF6 : V 6 = p1 := hI.2 6 (hD 6 (by decide)) rfl
   have zf6 := zF6; clear zF6
   have zF7 : V 7 = .pointer (some ⟨gb, 2, none⟩) := hI.2 7 (hD 7 (by decide)) rfl
   have zf7 := zF7; clear zF7
   have zF8 : V 8 = .int .i64 n := hI.2 8 (hD 8 (by decide)) rfl
   have zf8 := zF8; clear zF8
   have zF9 : ∃ (v_9 : Value), V 9 = v_9 ∧ SlI w3 v_9 (rowsQ wl.length (cutB F2 F1 n wl.length)) := hI.2 9 (hD 9 (by decide)) rfl
   obtain ⟨v_9, zf9, b9_0⟩ := zF9
   have zF10 : ∃ (v_10 : Value), V 10 = v_10 ∧ SlI w3 v_10 (rowsQ wl.length (fun i j => cutB F1 F2 n wl.length i j || cutB F2 F1 n wl.length i j)) := hI.2 10 (hD 10 (by decide)) rfl
   obtain ⟨v_10, zf10, b10_0⟩ := zF10
   have zF11 : ∃ (v_11 : Value), V 11 = v_11 ∧ SlI w3 v_11 (rowsQ wl.length (fun i j => cutB F1 F2 n wl.length i j || cutB F2 F1 n wl.length i j)) := hI.2 11 (hD 11 (by decide)) rfl
   obtain ⟨v_11, zf11, b11_0⟩ := zF11
   clear hI hD HGs
   simp only [frAll, Act.put, List.setIfInBounds_toArray, List.set_cons_zero, List.set_cons_succ, Nat.zero_add, Nat.reduceAdd, zf0, zf1, zf2, zf3, zf4, zf5, zf6, zf7, zf8, zf9, zf10, zf11]
   clear zf0 zf1 zf2 zf3 zf4 zf5 zf6 zf7 zf8 zf9 zf10 zf11
   clear V D
   have HR := Lib.hid b11_0
   have HME := Lib.hid (HMX.out.trans hMx)
   clear hGx hMx b4_0 b9_0 b10_0 b11_0 HS1 HS2 HBX
   go_wp2_with fail
   go_ret
   exact ⟨_, rfl, HR.out, HME.out⟩

end Go.Proofs.YtbajgjbdcgakoaaGreatDoor

/- Matches of a search of two patterns near to each other (package query). -/
namespace Go.Proofs.YtbajgjbdcgakoaaGreatDoor
set_option linter.unusedVariables false
set_option linter.unusedSimpArgs false
open Go.RowKit
abbrev SlcT := Option Addr × Nat × Nat
def slcV (l : List SlcT) : List Value := l.map fun x => .slice x.1 x.2.1 x.2.2
theorem slcV_get (l : List SlcT) (i : Nat) (h : i < l.length) : (slcV l)[i]? = some (.slice l[i].1 l[i].2.1 l[i].2.2) := by simp [slcV, h]
def decS : Value → SlcT
 | .slice A n c => (A, n, c)
 | _ => (none, 0, 0)
theorem slc_of {w : World} {v : Value} {rs : List (List Nat)} (h : SlI w v rs) : ∃ xs : List SlcT, Sl w 22 1 v (slcV xs) ∧ xs.map (·.2.1) = rs.map List.length := by
 obtain ⟨us, h1, h2, h3⟩ := h
 refine ⟨us.map decS, ?_, ?_⟩
 ·have e : slcV (us.map decS) = us := by
   refine List.ext_getElem (by simp [slcV]) fun i a b => ?_
   obtain ⟨u, hu, hs, _⟩ := h3 i (by omega)
   obtain ⟨A, n, c, rfl⟩ := hs.form
   rw [List.getElem?_eq_getElem b] at hu
   injection hu with hu
   simp only [slcV, List.getElem_map, hu, decS]
  rw [e]
  exact h1
 ·refine List.ext_getElem (by simp [h2]) fun i a b => ?_
  have hi : i < rs.length := by simpa using b
  obtain ⟨u, hu, hs, _⟩ := h3 i hi
  obtain ⟨A, n, c, rfl⟩ := hs.form
  have hl := hs.lenI.1
  rw [nvQ_len] at hl
  rw [List.getElem?_eq_getElem (by omega)] at hu
  injection hu with hu
  simp only [List.getElem_map, hu, decS]
  exact hl

set_option maxRecDepth 100000 in
set_option maxHeartbeats 1000000 in
theorem indexRn_calls (w : World) (v : Value) (xs : List SlcT) (F : Nat) (P : SlcT → Bool) (hv : Sl w 22 1 v (slcV xs))
  (hcf : ∀ (x : SlcT) (W : World), Sem.run Tryz.prog (callFunc F #[.slice x.1 x.2.1 x.2.2]) W = .ok (.enter F #[.slice x.1 x.2.1 x.2.2]) W)
  (hF : ∀ (x : SlcT) (W : World), x ∈ xs → Pure w W → Calls Tryz.prog F #[.slice x.1 x.2.1 x.2.2] W (BoolPost W (P x))) :
  Calls Tryz.prog 189 #[v, .func (.func F) #[] #[]] w (IntPost w (idxQ P xs 0)) := by
 have HF := Lib.hid hF
 obtain ⟨A, n, c, rfl, hc1, hc2, hl, hr⟩ := hv
 have hln : xs.length = n := by simpa [slcV] using hl
 subst hln
 have HR := Lib.hid hr
 clear hF hl hr
 go_enter Tryz.func189, Tryz.ntmps189
 go_wp2_with fail
 go_loopg [8] xs.length (fun gk i wr => ∃ k : Nat, xs.length - k = gk ∧ k ≤ xs.length ∧ i = .int .i64 (k : Int) ∧ idxQ P xs 0 = idxQ P (xs.drop k) (k : Int) ∧ Pure w wr)
 case atStart => exact ⟨0, by omega, by omega, rfl, rfl, Mod.refl _ _⟩
 case round =>
  obtain ⟨k, rfl, hk, rfl, hix, hm⟩ := hrel
  have HIX := Lib.hid hix
  clear hix
  by_cases hlt : k < xs.length
  ·obtain ⟨g, off, rfl, hrow⟩ := HR.out (by omega)
   have hq := (hrow.mod hm id).cell (slcV_get xs k hlt)
   have hd : xs.drop k = xs[k] :: xs.drop (k + 1) := List.drop_eq_getElem_cons hlt
   have hcall := HF.out xs[k] wr (List.getElem_mem hlt) hm
   have hi2 : idxQ P xs 0 = if P xs[k] then (k : Int) else idxQ P (xs.drop (k + 1)) ((k : Int) + 1) := by rw [HIX.out, hd]; rfl
   have HI2 := Lib.hid hi2
   have HC := Lib.hid hcall
   clear hd hi2 hcall hrow HIX
   generalize xs[k] = x at *
   go_wp2_with fail
   refine HC.out.mono ?_
   rintro e w1 ⟨rfl, hm1⟩
   cases hp : P x
   ·go_wp2_with fail
    go_roundg (xs.length - (k + 1))
    case measure => omega
    case rel => exact ⟨k + 1, rfl, hlt, by simp, by rw [HI2.out, hp]; simp, hm.trans hm1⟩
   ·go_wp2_with fail
    go_ret
    exact IntPost.of (by rw [HI2.out, hp]; rfl) (hm.trans hm1)
  ·have hke : k = xs.length := by omega
   subst hke
   go_wp2_with fail
   go_ret
   exact IntPost.of (by rw [HIX.out, List.drop_of_length_le (Nat.le_refl _)]; rfl) hm


set_option maxRecDepth 100000 in
set_option maxHeartbeats 1000000 in
theorem containsRn_calls (w : World) (v : Value) (xs : List SlcT) (F : Nat) (P : SlcT → Bool) (hv : Sl w 22 1 v (slcV xs))
  (hcf : ∀ (x : SlcT) (W : World), Sem.run Tryz.prog (callFunc F #[.slice x.1 x.2.1 x.2.2]) W = .ok (.enter F #[.slice x.1 x.2.1 x.2.2]) W)
  (hF : ∀ (x : SlcT) (W : World), x ∈ xs → Pure w W → Calls Tryz.prog F #[.slice x.1 x.2.1 x.2.2] W (BoolPost W (P x))) :
  Calls Tryz.prog 156 #[v, .func (.func F) #[] #[]] w (BoolPost w (xs.any P)) := by
 have HC := Lib.hid (indexRn_calls w v xs F  P hv hcf hF)
 have HI := Lib.hid (idxQ_any P xs 0 (by omega))
 clear hcf hF
 obtain ⟨A, n, c, rfl⟩ := hv.form
 clear hv
 go_enter Tryz.func156, Tryz.ntmps156
 go_wp2_with fail
 refine HC.out.mono ?_
 rintro e w1 ⟨rfl, hm1⟩
 generalize idxQ P xs 0 = r at *
 go_wp2_with fail
 go_ret
 exact BoolPost.of HI.out.symm hm1


end Go.Proofs.YtbajgjbdcgakoaaGreatDoor

/- What is found (package query): for a search of two patterns near to each other. -/
namespace Go.Proofs.YtbajgjbdcgakoaaGreatDoor
set_option linter.unusedVariables false
set_option linter.unusedSimpArgs false
open Go.RowKit
set_option maxRecDepth 100000 in
set_option maxHeartbeats 1000000 in
theorem some1_calls (x : SlcT) (W : World) : Calls Tryz.prog 158 #[.slice x.1 x.2.1 x.2.2] W (BoolPost W (decide (0 < x.2.1))) := by
 obtain ⟨A, n, c⟩ := x
 go_enter Tryz.func158, Tryz.ntmps158
 go_wp2_with fail
 go_ret
 exact BoolPost.of (by simp) (Mod.refl _ _)
/-- A target: an item, and its words. -/
def tgL (x : Itm) (vw : Value) : List Value := [.string ⟨x.id.toArray⟩, .string ⟨x.cust.toArray⟩, .int .i64 x.kind, .string ⟨x.name.toArray⟩, .int .i64 x.tm, .string ⟨x.par.toArray⟩, .string ⟨x.text.toArray⟩, vw]
def tgA (x : Itm) (vw : Value) : Value := .agg (tgL x vw).toArray
set_option maxRecDepth 100000 in
set_option maxHeartbeats 4000000 in
theorem somewhere_calls (w : World) (x : Itm) (A : Option Addr) (n c : Nat) (qr : QR) (W : Nat) (F : Nat → Nat → Bool) (hW : W ≤ 1000000) (hP : ∀ W', Pure w W' → Calls Tryz.prog 157 #[qA qr, .slice A n c] W' (RnP W' W F)) :
  Calls Tryz.prog 121 #[tgA x (.slice A n c), qA qr] w (BoolPost w (somePl F W)) := by
 have HP := Lib.hid hP
 clear hP
 obtain ⟨k, Aq, cq, ws, nq, Bq, dq, xs⟩ := qr
 unfold tgA tgL
 simp only [qA_mk] at HP ⊢
 obtain ⟨w1, hw1⟩ : ∃ w1, w1 = w.alloc (.cells #[.string ⟨x.id.toArray⟩, .string ⟨x.cust.toArray⟩, .int .i64 x.kind, .string ⟨x.name.toArray⟩, .int .i64 x.tm, .string ⟨x.par.toArray⟩, .string ⟨x.text.toArray⟩, .slice A n c] 115) := ⟨_, rfl⟩
 have hb1 := (Blk.new w 115 #[.string ⟨x.id.toArray⟩, .string ⟨x.cust.toArray⟩, .int .i64 x.kind, .string ⟨x.name.toArray⟩, .int .i64 x.tm, .string ⟨x.par.toArray⟩, .string ⟨x.text.toArray⟩, .slice A n c]).alloc (.cells #[.int .i64 k, .slice Aq ws.length cq, .int .i64 nq, .slice Bq xs.length dq] 29)
 have hb2 := Blk.snd w (.cells #[.string ⟨x.id.toArray⟩, .string ⟨x.cust.toArray⟩, .int .i64 x.kind, .string ⟨x.name.toArray⟩, .int .i64 x.tm, .string ⟨x.par.toArray⟩, .string ⟨x.text.toArray⟩, .slice A n c] 115) 29 #[.int .i64 k, .slice Aq ws.length cq, .int .i64 nq, .slice Bq xs.length dq]
 have HM : Hid (Pure w ((w.alloc (.cells #[.string ⟨x.id.toArray⟩, .string ⟨x.cust.toArray⟩, .int .i64 x.kind, .string ⟨x.name.toArray⟩, .int .i64 x.tm, .string ⟨x.par.toArray⟩, .string ⟨x.text.toArray⟩, .slice A n c] 115)).alloc (.cells #[.int .i64 k, .slice Aq ws.length cq, .int .i64 nq, .slice Bq xs.length dq] 29))) := Lib.hid (((Mod.refl _ _).alloc _).alloc _)
 have HPX := Lib.hid (HP.out _ HM.out)
 have x0 := hb1.cell 0; have x1 := hb1.cell 1; have x2 := hb1.cell 2; have x3 := hb1.cell 3; have x4 := hb1.cell 4; have x5 := hb1.cell 5; have x6 := hb1.cell 6; have x7 := hb1.cell 7; simp at x0 x1 x2 x3 x4 x5 x6 x7
 have y0 := hb2.cell 0; have y1 := hb2.cell 1; have y2 := hb2.cell 2; have y3 := hb2.cell 3; simp at y0 y1 y2 y3
 clear hw1 w1 hb1 hb2
 go_enter Tryz.func121, Tryz.ntmps121
 go_wp2_with fail
 refine HPX.out.mono ?_
 rintro e w2 ⟨v, rfl, hs, hm⟩
 obtain ⟨zs, hz1, hz2⟩ := slc_of hs
 have hany : zs.any (fun x => decide (0 < x.2.1)) = somePl F W := by
  rw [somePl_rows]
  have h1 : zs.any (fun x => decide (0 < x.2.1)) = (zs.map (·.2.1)).any (fun n => decide (0 < n)) := by rw [List.any_map]; rfl
  have h2 : (rowsQ W F).any (fun l => decide (0 < l.length)) = ((rowsQ W F).map List.length).any (fun n => decide (0 < n)) := by rw [List.any_map]; rfl
  rw [h1, h2, hz2]
 have HC := Lib.hid (containsRn_calls w2 v zs 158 (fun x => decide (0 < x.2.1)) hz1 (fun x W => rfl) (fun x W _ _ => some1_calls x W))
 rw [hany] at HC
 have HM2 := Lib.hid (HM.out.trans hm)
 clear hs hm hz1 hz2 hany HPX
 go_wp2_with fail
 refine HC.out.mono ?_
 rintro e w3 ⟨rfl, hm3⟩
 go_wp2_with fail
 go_ret
 exact ⟨rfl, HM2.out.trans hm3⟩
set_option maxRecDepth 100000 in
set_option maxHeartbeats 4000000 in
theorem found4_calls (w : World) (x : Itm) (A : Option Addr) (n c : Nat) (Aq Bq : Option Addr) (cq dq : Nat) (nq : Int) (ws : List Str) (xs : List QR) (W : Nat) (F : Nat → Nat → Bool) (hW : W ≤ 1000000) (hP : ∀ W', Pure w W' → Calls Tryz.prog 157 #[qA (.mk 4 Aq cq ws nq Bq dq xs), .slice A n c] W' (RnP W' W F)) :
  Calls Tryz.prog 82 #[tgA x (.slice A n c), qA (.mk 4 Aq cq ws nq Bq dq xs)] w (BoolPost w (somePl F W)) := by
 have HP := Lib.hid hP
 clear hP
 have hb1 := (Blk.new w 115 #[.string ⟨x.id.toArray⟩, .string ⟨x.cust.toArray⟩, .int .i64 x.kind, .string ⟨x.name.toArray⟩, .int .i64 x.tm, .string ⟨x.par.toArray⟩, .string ⟨x.text.toArray⟩, .slice A n c]).alloc (.cells #[.int .i64 4, .slice Aq ws.length cq, .int .i64 nq, .slice Bq xs.length dq] 29)
 have hb2 := Blk.snd w (.cells #[.string ⟨x.id.toArray⟩, .string ⟨x.cust.toArray⟩, .int .i64 x.kind, .string ⟨x.name.toArray⟩, .int .i64 x.tm, .string ⟨x.par.toArray⟩, .string ⟨x.text.toArray⟩, .slice A n c] 115) 29 #[.int .i64 4, .slice Aq ws.length cq, .int .i64 nq, .slice Bq xs.length dq]
 have HM : Hid (Pure w ((w.alloc (.cells #[.string ⟨x.id.toArray⟩, .string ⟨x.cust.toArray⟩, .int .i64 x.kind, .string ⟨x.name.toArray⟩, .int .i64 x.tm, .string ⟨x.par.toArray⟩, .string ⟨x.text.toArray⟩, .slice A n c] 115)).alloc (.cells #[.int .i64 4, .slice Aq ws.length cq, .int .i64 nq, .slice Bq xs.length dq] 29))) := Lib.hid (((Mod.refl _ _).alloc _).alloc _)
 have HS := Lib.hid (somewhere_calls _ x A n c (.mk 4 Aq cq ws nq Bq dq xs) W F hW (fun W' h => HP.out W' (HM.out.trans h)))
 unfold tgA tgL at *
 rw [qA_mk] at HS ⊢
 have x0 := hb1.cell 0; have x1 := hb1.cell 1; have x2 := hb1.cell 2; have x3 := hb1.cell 3; have x4 := hb1.cell 4; have x5 := hb1.cell 5; have x6 := hb1.cell 6; have x7 := hb1.cell 7; simp at x0 x1 x2 x3 x4 x5 x6 x7
 have y0 := hb2.cell 0; have y1 := hb2.cell 1; have y2 := hb2.cell 2; have y3 := hb2.cell 3; simp at y0 y1 y2 y3
 clear hb1 hb2
 go_enter Tryz.func82, Tryz.ntmps82
 go_wp2_with fail
 refine HS.out.mono ?_
 rintro e w3 ⟨rfl, hm3⟩
 go_wp2_with fail
 go_ret
 exact ⟨rfl, HM.out.trans hm3⟩

end Go.Proofs.YtbajgjbdcgakoaaGreatDoor

/- Matches (package query), for a right search of two patterns near to each other and a right item. -/
namespace Go.Proofs.YtbajgjbdcgakoaaGreatDoor
set_option linter.unusedVariables false
set_option linter.unusedSimpArgs false
open Go.RowKit
def NtP (w : World) (x : Itm) (e : Ending) (w' : World) : Prop := ∃ A n c, e = .returned (tgA x (.slice A n c)) ∧ Wds w' (.slice A n c) (wordsQ x.text) ∧ Pure w w'
set_option maxRecDepth 100000 in
set_option maxHeartbeats 4000000 in
theorem newTarget_calls (w : World) (x : Itm) (ht : x.text.length ≤ 1000000) : Calls Tryz.prog 81 #[itA x] w (NtP w x) := by
 have hb1 := (Blk.new w 68 #[.string ⟨x.id.toArray⟩, .string ⟨x.cust.toArray⟩, .int .i64 x.kind, .string ⟨x.name.toArray⟩, .int .i64 x.tm, .string ⟨x.par.toArray⟩, .string ⟨x.text.toArray⟩]).alloc (.cells #[.string ⟨#[]⟩, .string ⟨#[]⟩, .int .i64 0, .string ⟨#[]⟩, .int .i64 0, .string ⟨#[]⟩, .string ⟨#[]⟩, .slice none 0 0] 115)
 have hb2 := Blk.snd w (.cells #[.string ⟨x.id.toArray⟩, .string ⟨x.cust.toArray⟩, .int .i64 x.kind, .string ⟨x.name.toArray⟩, .int .i64 x.tm, .string ⟨x.par.toArray⟩, .string ⟨x.text.toArray⟩] 68) 115 #[.string ⟨#[]⟩, .string ⟨#[]⟩, .int .i64 0, .string ⟨#[]⟩, .int .i64 0, .string ⟨#[]⟩, .string ⟨#[]⟩, .slice none 0 0]
 have HM : Hid (Pure w ((w.alloc (.cells #[.string ⟨x.id.toArray⟩, .string ⟨x.cust.toArray⟩, .int .i64 x.kind, .string ⟨x.name.toArray⟩, .int .i64 x.tm, .string ⟨x.par.toArray⟩, .string ⟨x.text.toArray⟩] 68)).alloc (.cells #[.string ⟨#[]⟩, .string ⟨#[]⟩, .int .i64 0, .string ⟨#[]⟩, .int .i64 0, .string ⟨#[]⟩, .string ⟨#[]⟩, .slice none 0 0] 115))) := Lib.hid (((Mod.refl _ _).alloc _).alloc _)
 have HB1 := Lib.hid hb1
 have HB2 := Lib.hid hb2
 have hbu : w.heap.size + 1 ≤ w.heap.size + 1 := Nat.le_refl _
 clear hb1 hb2
 unfold itA
 go_enter Tryz.func81, Tryz.ntmps81
 go_upto_region 1 with (fail)
 generalize ((w.alloc (.cells #[.string ⟨x.id.toArray⟩, .string ⟨x.cust.toArray⟩, .int .i64 x.kind, .string ⟨x.name.toArray⟩, .int .i64 x.tm, .string ⟨x.par.toArray⟩, .string ⟨x.text.toArray⟩] 68)).alloc (.cells #[.string ⟨#[]⟩, .string ⟨#[]⟩, .int .i64 0, .string ⟨#[]⟩, .int .i64 0, .string ⟨#[]⟩, .string ⟨#[]⟩, .slice none 0 0] 115)) = w1 at *
 obtain ⟨b1, hb1⟩ : ∃ b, w.heap.size = b := ⟨_, rfl⟩
 rw [hb1] at HB1 HB2
 simp only [hb1]
 obtain ⟨b2, hb2⟩ : ∃ b, b1 + 1 = b := ⟨_, rfl⟩
 rw [hb2] at HB2
 simp only [hb2]
 have hbl : w.heap.size ≤ b2 := by omega
 clear hb1 hb2 hbu
 have h1 := HB1.out
 have u0 := h1.cell 0; have u1 := h1.cell 1; have u2 := h1.cell 2; have u3 := h1.cell 3; have u4 := h1.cell 4; have u5 := h1.cell 5; have u6 := h1.cell 6; simp at u0 u1 u2 u3 u4 u5 u6
 clear h1
 have HWD := Lib.hid (fun W => words_calls W x.text ht)
 go_region_with (go_at_call 114; (refine (HWD.out _).mono ?_); rintro e w5 ⟨v, rfl, hq, hm5⟩; obtain ⟨A, n, c, rfl⟩ := (Sl.of_own hq).form; have hP5 := ((Mod.refl (fun _ => False) w1).drew).trans hm5; have hc2 := HB2.out.modp hP5; have hc1 := HB1.out.modp hP5; have q0 := hc2.cell 0; have qf0 := hc2.frozen 0; have q1 := hc2.cell 1; have qf1 := hc2.frozen 1; have q2 := hc2.cell 2; have qf2 := hc2.frozen 2; have q3 := hc2.cell 3; have qf3 := hc2.frozen 3; have q4 := hc2.cell 4; have qf4 := hc2.frozen 4; have q5 := hc2.cell 5; have qf5 := hc2.frozen 5; have q6 := hc2.cell 6; have qf6 := hc2.frozen 6; have q7 := hc2.cell 7; have qf7 := hc2.frozen 7; simp at q0 q1 q2 q3 q4 q5 q6 q7; have r0 := hc1.cell 0; have r1 := hc1.cell 1; have r2 := hc1.cell 2; have r3 := hc1.cell 3; have r4 := hc1.cell 4; have r5 := hc1.cell 5; have r6 := hc1.cell 6; simp at r0 r1 r2 r3 r4 r5 r6)
 all_goals
  have HS := Lib.hid (show Wds w5 (.slice A n c) (wordsQ x.text) from Sl.of_own hq)
  have HP5 := Lib.hid hP5
  have HC2 := Lib.hid hc2
  clear hq hm5 hP5 hc1 hc2
  try simp only [Exit.inBlock, Exit.then]
  have h9 := (((((((HC2.out.set 0 (.string ⟨x.id.toArray⟩)).set 1 (.string ⟨x.cust.toArray⟩)).set 2 (.int .i64 x.kind)).set 3 (.string ⟨x.name.toArray⟩)).set 4 (.int .i64 x.tm)).set 5 (.string ⟨x.par.toArray⟩)).set 6 (.string ⟨x.text.toArray⟩)).set 7 (.slice A n c)
  simp at h9
  have hm9 := mod_set (mod_set (mod_set (mod_set (mod_set (mod_set (mod_set (mod_set (Mod.refl (· = b2) w5) 0 (.string ⟨x.id.toArray⟩)) 1 (.string ⟨x.cust.toArray⟩)) 2 (.int .i64 x.kind)) 3 (.string ⟨x.name.toArray⟩)) 4 (.int .i64 x.tm)) 5 (.string ⟨x.par.toArray⟩)) 6 (.string ⟨x.text.toArray⟩)) 7 (.slice A n c)
  have HS9 := Lib.hid (Sl.mod HS.out hm9 (fun g arr fr hg he => by subst he; have h := HC2.out; unfold Blk at h; rw [h] at hg; injection hg with hg; injection hg with _ hg; exact absurd hg (by decide)))
  have HM9 := Lib.hid ((HM.out.trans HP5.out).trans' hm9 (fun i hi hlt => by omega))
  have z0 := h9.cell 0; have z1 := h9.cell 1; have z2 := h9.cell 2; have z3 := h9.cell 3; have z4 := h9.cell 4; have z5 := h9.cell 5; have z6 := h9.cell 6; have z7 := h9.cell 7; simp at z0 z1 z2 z3 z4 z5 z6 z7
  clear hm9 h9
  go_wp2_with fail
  try simp only [Exit.inBlock, Exit.then]
  refine bodyPost_ret (v := .agg #[.string ⟨x.id.toArray⟩, .string ⟨x.cust.toArray⟩, .int .i64 x.kind, .string ⟨x.name.toArray⟩, .int .i64 x.tm, .string ⟨x.par.toArray⟩, .string ⟨x.text.toArray⟩, .slice A n c]) (by simp [results, Tryz.results81, go_sem, z0, z1, z2, z3, z4, z5, z6, z7]) rfl ?_
  exact ⟨A, n, c, rfl, HS9.out, HM9.out⟩
set_option maxRecDepth 100000 in
set_option maxHeartbeats 4000000 in
theorem matches4_calls (w : World) (x : Itm) (Aq Bq : Option Addr) (cq dq : Nat) (nq : Int) (ws : List Str) (xs : List QR) (F : Nat → Nat → Bool) (hx : ItL x) (hE : Env w) (hie : itemE x = 0) (hQ : QS w (.mk 4 Aq cq ws nq Bq dq xs)) (hB : QB 1000 (QR.mk 4 Aq cq ws nq Bq dq xs).key) (hc : checkQ (QR.mk 4 Aq cq ws nq Bq dq xs).key = 0) (hW : (wordsQ x.text).length ≤ 1000000)
  (hP : ∀ W' A n c, Pure w W' → Wds W' (.slice A n c) (wordsQ x.text) → Calls Tryz.prog 157 #[qA (.mk 4 Aq cq ws nq Bq dq xs), .slice A n c] W' (RnP W' (wordsQ x.text).length F)) :
  Calls Tryz.prog 36 #[qA (.mk 4 Aq cq ws nq Bq dq xs), itA x] w (fun e w' => e = .returned (.tuple #[.bool (somePl F (wordsQ x.text).length), .int .i64 0]) ∧ Pure w w') := by
 have hxt : x.text.length ≤ 1000000 := by have := hx.2.2.2.2; omega
 have HCK := Lib.hid (fun W (h : QS W (QR.mk 4 Aq cq ws nq Bq dq xs)) => by have h2 := qcheck_calls W (.mk 4 Aq cq ws nq Bq dq xs) h hB; rw [hc] at h2; exact h2)
 have HIC := Lib.hid (fun W (h : Pure w W) => by have h2 := checkItemL_calls W x hx (hE.pure h); rw [hie] at h2; exact h2)
 have HNT := Lib.hid (fun W => newTarget_calls W x hxt)
 have HFD := Lib.hid (fun W A n c (h : Pure w W) (hw : Wds W (.slice A n c) (wordsQ x.text)) => found4_calls W x A n c Aq Bq cq dq nq ws xs (wordsQ x.text).length F hW (fun W' h' => hP W' A n c (h.trans h') (hw.pure h')))
 have HQ := Lib.hid hQ
 have hb1 := (Blk.new w 29 #[.int .i64 4, .slice Aq ws.length cq, .int .i64 nq, .slice Bq xs.length dq]).alloc (.cells #[.string ⟨x.id.toArray⟩, .string ⟨x.cust.toArray⟩, .int .i64 x.kind, .string ⟨x.name.toArray⟩, .int .i64 x.tm, .string ⟨x.par.toArray⟩, .string ⟨x.text.toArray⟩] 68)
 have hb2 := Blk.snd w (.cells #[.int .i64 4, .slice Aq ws.length cq, .int .i64 nq, .slice Bq xs.length dq] 29) 68 #[.string ⟨x.id.toArray⟩, .string ⟨x.cust.toArray⟩, .int .i64 x.kind, .string ⟨x.name.toArray⟩, .int .i64 x.tm, .string ⟨x.par.toArray⟩, .string ⟨x.text.toArray⟩]
 have HM : Hid (Pure w ((w.alloc (.cells #[.int .i64 4, .slice Aq ws.length cq, .int .i64 nq, .slice Bq xs.length dq] 29)).alloc (.cells #[.string ⟨x.id.toArray⟩, .string ⟨x.cust.toArray⟩, .int .i64 x.kind, .string ⟨x.name.toArray⟩, .int .i64 x.tm, .string ⟨x.par.toArray⟩, .string ⟨x.text.toArray⟩] 68))) := Lib.hid (((Mod.refl _ _).alloc _).alloc _)
 have HB1 := Lib.hid hb1
 have HB2 := Lib.hid hb2
 clear hb1 hb2 hx hE hie hQ hB hc hP hxt
 simp only [qA_mk] at HCK HFD ⊢
 unfold itA at HIC HNT ⊢
 generalize somePl F (wordsQ x.text).length = ans at *
 go_enter Tryz.func36, Tryz.ntmps36
 go_upto_region 1 with (fail)
 generalize ((w.alloc (.cells #[.int .i64 4, .slice Aq ws.length cq, .int .i64 nq, .slice Bq xs.length dq] 29)).alloc (.cells #[.string ⟨x.id.toArray⟩, .string ⟨x.cust.toArray⟩, .int .i64 x.kind, .string ⟨x.name.toArray⟩, .int .i64 x.tm, .string ⟨x.par.toArray⟩, .string ⟨x.text.toArray⟩] 68)) = w1 at *
 obtain ⟨b1, hb1⟩ : ∃ b, w.heap.size = b := ⟨_, rfl⟩
 rw [hb1] at HB1 HB2
 simp only [hb1]
 obtain ⟨b2, hb2⟩ : ∃ b, b1 + 1 = b := ⟨_, rfl⟩
 rw [hb2] at HB2
 simp only [hb2]
 clear hb1 hb2
 have HGs := Lib.hid (show ∀ (D : Nat → Bool) (zzi : Nat) (zq zq' : World), (fun _ zq => (fun Z => Blk Z b1 29 #[.int .i64 4, .slice Aq ws.length cq, .int .i64 nq, .slice Bq xs.length dq] ∧ Blk Z b2 68 #[.string ⟨x.id.toArray⟩, .string ⟨x.cust.toArray⟩, .int .i64 x.kind, .string ⟨x.name.toArray⟩, .int .i64 x.tm, .string ⟨x.par.toArray⟩, .string ⟨x.text.toArray⟩]) zq) D zq → Mod (fun _ => False) zq zq' → (fun _ zq => (fun Z => Blk Z b1 29 #[.int .i64 4, .slice Aq ws.length cq, .int .i64 nq, .slice Bq xs.length dq] ∧ Blk Z b2 68 #[.string ⟨x.id.toArray⟩, .string ⟨x.cust.toArray⟩, .int .i64 x.kind, .string ⟨x.name.toArray⟩, .int .i64 x.tm, .string ⟨x.par.toArray⟩, .string ⟨x.text.toArray⟩]) zq) (upd D zzi true) zq' from by intro D zzi zq zq' h hm; (exact ⟨h.1.modp hm, h.2.modp hm⟩))
 refine wp_region_inv (by kernel_rfl) (by kernel_rfl) (InvF (R := Mod (fun _ => False)) [.is (.agg #[.int .i64 4, .slice Aq ws.length cq, .int .i64 nq, .slice Bq xs.length dq]),
   .is (.int .i64 0),
   .is (.agg #[.string ⟨x.id.toArray⟩, .string ⟨x.cust.toArray⟩, .int .i64 x.kind, .string ⟨x.name.toArray⟩, .int .i64 x.tm, .string ⟨x.par.toArray⟩, .string ⟨x.text.toArray⟩]),
   .is (.int .i64 0),
   ⟨fun zv zw => ∃ (g_4 : Nat), zv = .slice (some ⟨g_4, 0, none⟩) 2 2 ∧ w1.heap.size ≤ g_4 ∧ Blk zw g_4 30 #[.int .i64 0, .int .i64 0], (by rintro zv zw zx ⟨g_4, rfl, c0, q0⟩ hm; exact ⟨g_4, rfl, c0, (q0.modp hm)⟩), none, some 5⟩,
   .is (.int .i64 0),
   .is (.int .i64 0)]
   (PB w1 (fun _ => False) w1.heap.size (fun _ zq => (fun Z => Blk Z b1 29 #[.int .i64 4, .slice Aq ws.length cq, .int .i64 nq, .slice Bq xs.length dq] ∧ Blk Z b2 68 #[.string ⟨x.id.toArray⟩, .string ⟨x.cust.toArray⟩, .int .i64 x.kind, .string ⟨x.name.toArray⟩, .int .i64 x.tm, .string ⟨x.par.toArray⟩, .string ⟨x.text.toArray⟩]) zq))) (InvF.start (PB.start (Mod.refl _ _) (Nat.le_refl _) (⟨HB1.out.drew, HB2.out.drew⟩))) ?_ ?_
 ·refine .cons ?_ (.cons ?_ (.cons ?_ (.cons ?_ (.cons ?_ (.cons ?_ (.cons ?_ .nil))))))
  ·intro D V zw1 a hR hI K hK
   obtain ⟨hM1, hB1, hG1⟩ := hI.1
   obtain ⟨hG1b, hG1c⟩ := hG1
   have ze2 := hR.frame.other (t := 2) (by kernel_rfl) rfl
   have zx0 := (hG1b).cell 0; have zy0 := (hG1b).frozen 0; simp at zx0
   have zx1 := (hG1b).cell 1; have zy1 := (hG1b).frozen 1; simp at zx1
   have zx2 := (hG1b).cell 2; have zy2 := (hG1b).frozen 2; simp at zx2
   have zx3 := (hG1b).cell 3; have zy3 := (hG1b).frozen 3; simp at zx3
   rw [if_pos (by rfl)]
   go_simp
   exact hK (.agg #[.int .i64 4, .slice Aq ws.length cq, .int .i64 nq, .slice Bq xs.length dq]) _ (hI.next hR (by kernel_rfl) (Mod.refl _ _) (PB.quiet hI.1 (Mod.refl _ _) (HGs.out D 0 zw1 zw1 (hI.1).g (Mod.refl _ _))) (upd_same V 0 _))
  ·intro D V zw1 a hR hI K hK
   obtain ⟨hM1, hB1, hG1⟩ := hI.1
   obtain ⟨hG1b, hG1c⟩ := hG1
   have zd0 := hR.pred 0 (by kernel_rfl)
   have zF0 : V 0 = .agg #[.int .i64 4, .slice Aq ws.length cq, .int .i64 nq, .slice Bq xs.length dq] := hI.2 0 zd0 rfl
   have zf0 := zF0; clear zF0
   have ze7 := hR.frame.done (t := 7) (j := 0) (by kernel_rfl) hR.ok zd0
   rw [if_pos (by rfl)]
   go_simp
   refine (HCK.out zw1 (HQ.out.pure (HM.out.trans hM1))).mono ?_
   rintro e zw2 ⟨rfl, hm2⟩
   exact hK (.int .i64 0) _ (hI.next hR (by kernel_rfl) hm2 (PB.quiet hI.1 hm2 (HGs.out D 1 _ _ (hI.1).g hm2)) (upd_same V 1 _))
  ·intro D V zw1 a hR hI K hK
   obtain ⟨hM1, hB1, hG1⟩ := hI.1
   obtain ⟨hG1b, hG1c⟩ := hG1
   have ze3 := hR.frame.other (t := 3) (by kernel_rfl) rfl
   have zx0 := (hG1c).cell 0; have zy0 := (hG1c).frozen 0; simp at zx0
   have zx1 := (hG1c).cell 1; have zy1 := (hG1c).frozen 1; simp at zx1
   have zx2 := (hG1c).cell 2; have zy2 := (hG1c).frozen 2; simp at zx2
   have zx3 := (hG1c).cell 3; have zy3 := (hG1c).frozen 3; simp at zx3
   have zx4 := (hG1c).cell 4; have zy4 := (hG1c).frozen 4; simp at zx4
   have zx5 := (hG1c).cell 5; have zy5 := (hG1c).frozen 5; simp at zx5
   have zx6 := (hG1c).cell 6; have zy6 := (hG1c).frozen 6; simp at zx6
   rw [if_pos (by rfl)]
   go_simp
   exact hK (.agg #[.string ⟨x.id.toArray⟩, .string ⟨x.cust.toArray⟩, .int .i64 x.kind, .string ⟨x.name.toArray⟩, .int .i64 x.tm, .string ⟨x.par.toArray⟩, .string ⟨x.text.toArray⟩]) _ (hI.next hR (by kernel_rfl) (Mod.refl _ _) (PB.quiet hI.1 (Mod.refl _ _) (HGs.out D 2 zw1 zw1 (hI.1).g (Mod.refl _ _))) (upd_same V 2 _))
  ·intro D V zw1 a hR hI K hK
   obtain ⟨hM1, hB1, hG1⟩ := hI.1
   obtain ⟨hG1b, hG1c⟩ := hG1
   have zd2 := hR.pred 2 (by kernel_rfl)
   have zF2 : V 2 = .agg #[.string ⟨x.id.toArray⟩, .string ⟨x.cust.toArray⟩, .int .i64 x.kind, .string ⟨x.name.toArray⟩, .int .i64 x.tm, .string ⟨x.par.toArray⟩, .string ⟨x.text.toArray⟩] := hI.2 2 zd2 rfl
   have zf2 := zF2; clear zF2
   have ze9 := hR.frame.done (t := 9) (j := 2) (by kernel_rfl) hR.ok zd2
   rw [if_pos (by rfl)]
   go_simp
   refine (HIC.out zw1 (HM.out.trans hM1)).mono ?_
   rintro e zw2 ⟨rfl, hm2⟩
   exact hK (.int .i64 0) _ (hI.next hR (by kernel_rfl) hm2 (PB.quiet hI.1 hm2 (HGs.out D 3 _ _ (hI.1).g hm2)) (upd_same V 3 _))
  ·intro D V zw1 a hR hI K hK
   obtain ⟨hM1, hB1, hG1⟩ := hI.1
   obtain ⟨hG1b, hG1c⟩ := hG1
   have zd1 := hR.pred 1 (by kernel_rfl)
   have zF1 : V 1 = .int .i64 0 := hI.2 1 zd1 rfl
   have zf1 := zF1; clear zF1
   have zd3 := hR.pred 3 (by kernel_rfl)
   have zF3 : V 3 = .int .i64 0 := hI.2 3 zd3 rfl
   have zf3 := zF3; clear zF3
   have ze8 := hR.frame.done (t := 8) (j := 1) (by kernel_rfl) hR.ok zd1
   have ze10 := hR.frame.done (t := 10) (j := 3) (by kernel_rfl) hR.ok zd3
   rw [if_pos (by rfl)]
   go_simp
   exact hK (_) _ (hI.next hR (by kernel_rfl) ((Mod.refl _ _).alloc _) (PB.quiet hI.1 (pure_alloc _ _) (HGs.out D 4 _ _ (hI.1).g ((Mod.refl _ _).alloc _))) (⟨_, upd_same V 4 _, (by omega), (Blk.new _ _ _)⟩))
  ·intro D V zw1 a hR hI K hK
   obtain ⟨hM1, hB1, hG1⟩ := hI.1
   obtain ⟨hG1b, hG1c⟩ := hG1
   have zd4 := hR.pred 4 (by kernel_rfl)
   have zF4 : ∃ (g_4 : Nat), V 4 = .slice (some ⟨g_4, 0, none⟩) 2 2 ∧ w1.heap.size ≤ g_4 ∧ Blk zw1 g_4 30 #[.int .i64 0, .int .i64 0] := hI.2 4 zd4 (by show (!D 5) = true; rw [hR.not]; rfl)
   obtain ⟨g_4, zf4, c4_0, b4_0⟩ := zF4
   have ze11 := hR.frame.done (t := 11) (j := 4) (by kernel_rfl) hR.ok zd4
   rw [if_pos (by rfl)]
   go_simp
   refine (firstE_calls zw1 g_4 2 [0, 0] b4_0.row0 (by simp)).mono ?_
   rintro e zw2 ⟨rfl, hm2⟩
   exact hK (.int .i64 0) _ (hI.next hR (by kernel_rfl) hm2 (PB.quiet hI.1 hm2 (HGs.out D 5 _ _ (hI.1).g hm2)) (upd_same V 5 _))
  ·intro D V zw1 a hR hI K hK
   obtain ⟨hM1, hB1, hG1⟩ := hI.1
   obtain ⟨hG1b, hG1c⟩ := hG1
   have zd5 := hR.pred 5 (by kernel_rfl)
   have zF5 : V 5 = .int .i64 0 := hI.2 5 zd5 rfl
   have zf5 := zF5; clear zF5
   have ze12 := hR.frame.done (t := 12) (j := 5) (by kernel_rfl) hR.ok zd5
   rw [if_pos (by rfl)]
   go_simp
   exact hK (.int .i64 0) _ (hI.next hR (by kernel_rfl) (Mod.refl _ _) (PB.quiet hI.1 (Mod.refl _ _) (HGs.out D 6 zw1 zw1 (hI.1).g (Mod.refl _ _))) (upd_same V 6 _))
 ·intro D V w2 hD hI
  obtain ⟨hM1, hB1, hG1⟩ := hI.1
  have hMx := hM1
  clear hM1
  have hBx := hB1
  clear hB1
  have hGx := hG1
  clear hG1
  have zF0 : V 0 = .agg #[.int .i64 4, .slice Aq ws.length cq, .int .i64 nq, .slice Bq xs.length dq] := hI.2 0 (hD 0 (by decide)) rfl
  have zf0 := zF0; clear zF0
  have zF1 : V 1 = .int .i64 0 := hI.2 1 (hD 1 (by decide)) rfl
  have zf1 := zF1; clear zF1
  have zF2 : V 2 = .agg #[.string ⟨x.id.toArray⟩, .string ⟨x.cust.toArray⟩, .int .i64 x.kind, .string ⟨x.name.toArray⟩, .int .i64 x.tm, .string ⟨x.par.toArray⟩, .string ⟨x.text.toArray⟩] := hI.2 2 (hD 2 (by decide)) rfl
  have zf2 := zF2; clear zF2
  have zF3 : V 3 = .int .i64 0 := hI.2 3 (hD 3 (by decide)) rfl
  have zf3 := zF3; clear zF3
  have zF5 : V 5 = .int .i64 0 := hI.2 5 (hD 5 (by decide)) rfl
  have zf5 := zF5; clear zF5
  have zF6 : V 6 = .int .i64 0 := hI.2 6 (hD 6 (by decide)) rfl
  have zf6 := zF6; clear zF6
  clear hI hD HGs
  simp only [frAll, Act.put, List.setIfInBounds_toArray, List.set_cons_zero, List.set_cons_succ, Nat.zero_add, Nat.reduceAdd, zf0, zf1, zf2, zf3, zf5, zf6]
  clear zf0 zf1 zf2 zf3 zf5 zf6
  generalize V 4 = u4
  clear V D
  have HB1' := Lib.hid hGx.1
  have HB2' := Lib.hid hGx.2
  have HM2 := Lib.hid (HM.out.trans hMx)
  clear hGx hMx HB1 HB2 HM
  go_upto_region 4 with (fail)
  have HGs := Lib.hid (show ∀ (D : Nat → Bool) (zzi : Nat) (zq zq' : World), (fun _ zq => (fun Z => Blk Z b1 29 #[.int .i64 4, .slice Aq ws.length cq, .int .i64 nq, .slice Bq xs.length dq] ∧ Blk Z b2 68 #[.string ⟨x.id.toArray⟩, .string ⟨x.cust.toArray⟩, .int .i64 x.kind, .string ⟨x.name.toArray⟩, .int .i64 x.tm, .string ⟨x.par.toArray⟩, .string ⟨x.text.toArray⟩]) zq) D zq → Mod (fun _ => False) zq zq' → (fun _ zq => (fun Z => Blk Z b1 29 #[.int .i64 4, .slice Aq ws.length cq, .int .i64 nq, .slice Bq xs.length dq] ∧ Blk Z b2 68 #[.string ⟨x.id.toArray⟩, .string ⟨x.cust.toArray⟩, .int .i64 x.kind, .string ⟨x.name.toArray⟩, .int .i64 x.tm, .string ⟨x.par.toArray⟩, .string ⟨x.text.toArray⟩]) zq) (upd D zzi true) zq' from by intro D zzi zq zq' h hm; (exact ⟨h.1.modp hm, h.2.modp hm⟩))
  refine wp_region_inv (by kernel_rfl) (by kernel_rfl) (InvF (R := Mod (fun _ => False)) [.is (.agg #[.string ⟨x.id.toArray⟩, .string ⟨x.cust.toArray⟩, .int .i64 x.kind, .string ⟨x.name.toArray⟩, .int .i64 x.tm, .string ⟨x.par.toArray⟩, .string ⟨x.text.toArray⟩]),
    ⟨fun zv zw => ∃ (A_1 : Option Addr) (n_1 : Nat) (c_1 : Nat), zv = tgA x (.slice A_1 n_1 c_1) ∧ Wds zw (.slice A_1 n_1 c_1) (wordsQ x.text), (by rintro zv zw zx ⟨A_1, n_1, c_1, rfl, q0⟩ hm; exact ⟨A_1, n_1, c_1, rfl, (q0.pure hm)⟩), none, none⟩,
    .is (.agg #[.int .i64 4, .slice Aq ws.length cq, .int .i64 nq, .slice Bq xs.length dq]),
    .is (.bool ans),
    .is (.bool ans),
    .is ((.int .i64 0))]
    (PB w2 (fun _ => False) w2.heap.size (fun _ zq => (fun Z => Blk Z b1 29 #[.int .i64 4, .slice Aq ws.length cq, .int .i64 nq, .slice Bq xs.length dq] ∧ Blk Z b2 68 #[.string ⟨x.id.toArray⟩, .string ⟨x.cust.toArray⟩, .int .i64 x.kind, .string ⟨x.name.toArray⟩, .int .i64 x.tm, .string ⟨x.par.toArray⟩, .string ⟨x.text.toArray⟩]) zq))) (InvF.start (PB.start (Mod.refl _ _) (Nat.le_refl _) (⟨HB1'.out.drew, HB2'.out.drew⟩))) ?_ ?_
  ·refine .cons ?_ (.cons ?_ (.cons ?_ (.cons ?_ (.cons ?_ (.cons ?_ .nil)))))
   ·intro D V zw1 a hR hI K hK
    obtain ⟨hM1, hB1, hG1⟩ := hI.1
    obtain ⟨hG1b, hG1c⟩ := hG1
    have ze3 := hR.frame.other (t := 3) (by kernel_rfl) rfl
    have zx0 := (hG1c).cell 0; have zy0 := (hG1c).frozen 0; simp at zx0
    have zx1 := (hG1c).cell 1; have zy1 := (hG1c).frozen 1; simp at zx1
    have zx2 := (hG1c).cell 2; have zy2 := (hG1c).frozen 2; simp at zx2
    have zx3 := (hG1c).cell 3; have zy3 := (hG1c).frozen 3; simp at zx3
    have zx4 := (hG1c).cell 4; have zy4 := (hG1c).frozen 4; simp at zx4
    have zx5 := (hG1c).cell 5; have zy5 := (hG1c).frozen 5; simp at zx5
    have zx6 := (hG1c).cell 6; have zy6 := (hG1c).frozen 6; simp at zx6
    rw [if_pos (by rfl)]
    go_simp
    exact hK (.agg #[.string ⟨x.id.toArray⟩, .string ⟨x.cust.toArray⟩, .int .i64 x.kind, .string ⟨x.name.toArray⟩, .int .i64 x.tm, .string ⟨x.par.toArray⟩, .string ⟨x.text.toArray⟩]) _ (hI.next hR (by kernel_rfl) (Mod.refl _ _) (PB.quiet hI.1 (Mod.refl _ _) (HGs.out D 0 zw1 zw1 (hI.1).g (Mod.refl _ _))) (upd_same V 0 _))
   ·intro D V zw1 a hR hI K hK
    obtain ⟨hM1, hB1, hG1⟩ := hI.1
    obtain ⟨hG1b, hG1c⟩ := hG1
    have zd0 := hR.pred 0 (by kernel_rfl)
    have zF0 : V 0 = .agg #[.string ⟨x.id.toArray⟩, .string ⟨x.cust.toArray⟩, .int .i64 x.kind, .string ⟨x.name.toArray⟩, .int .i64 x.tm, .string ⟨x.par.toArray⟩, .string ⟨x.text.toArray⟩] := hI.2 0 zd0 rfl
    have zf0 := zF0; clear zF0
    have ze16 := hR.frame.done (t := 16) (j := 0) (by kernel_rfl) hR.ok zd0
    rw [if_pos (by rfl)]
    go_simp
    refine (HNT.out zw1).mono ?_
    rintro e zw2 ⟨A_0, n_0, c_0, rfl, hq, hm2⟩
    exact hK (tgA x (.slice A_0 n_0 c_0)) _ (hI.next hR (by kernel_rfl) hm2 (PB.quiet hI.1 hm2 (HGs.out D 1 _ _ (hI.1).g hm2)) (⟨A_0, n_0, c_0, upd_same V 1 _, hq⟩))
   ·intro D V zw1 a hR hI K hK
    obtain ⟨hM1, hB1, hG1⟩ := hI.1
    obtain ⟨hG1b, hG1c⟩ := hG1
    have ze2 := hR.frame.other (t := 2) (by kernel_rfl) rfl
    have zx0 := (hG1b).cell 0; have zy0 := (hG1b).frozen 0; simp at zx0
    have zx1 := (hG1b).cell 1; have zy1 := (hG1b).frozen 1; simp at zx1
    have zx2 := (hG1b).cell 2; have zy2 := (hG1b).frozen 2; simp at zx2
    have zx3 := (hG1b).cell 3; have zy3 := (hG1b).frozen 3; simp at zx3
    rw [if_pos (by rfl)]
    go_simp
    exact hK (.agg #[.int .i64 4, .slice Aq ws.length cq, .int .i64 nq, .slice Bq xs.length dq]) _ (hI.next hR (by kernel_rfl) (Mod.refl _ _) (PB.quiet hI.1 (Mod.refl _ _) (HGs.out D 2 zw1 zw1 (hI.1).g (Mod.refl _ _))) (upd_same V 2 _))
   ·intro D V zw1 a hR hI K hK
    obtain ⟨hM1, hB1, hG1⟩ := hI.1
    obtain ⟨hG1b, hG1c⟩ := hG1
    have zd1 := hR.pred 1 (by kernel_rfl)
    have zF1 : ∃ (A_1 : Option Addr) (n_1 : Nat) (c_1 : Nat), V 1 = tgA x (.slice A_1 n_1 c_1) ∧ Wds zw1 (.slice A_1 n_1 c_1) (wordsQ x.text) := hI.2 1 zd1 rfl
    obtain ⟨A_1, n_1, c_1, zf1, b1_0⟩ := zF1
    have zd2 := hR.pred 2 (by kernel_rfl)
    have zF2 : V 2 = .agg #[.int .i64 4, .slice Aq ws.length cq, .int .i64 nq, .slice Bq xs.length dq] := hI.2 2 zd2 rfl
    have zf2 := zF2; clear zF2
    have ze17 := hR.frame.done (t := 17) (j := 1) (by kernel_rfl) hR.ok zd1
    have ze18 := hR.frame.done (t := 18) (j := 2) (by kernel_rfl) hR.ok zd2
    rw [if_pos (by rfl)]
    go_simp
    refine (HFD.out zw1 A_1 n_1 c_1 (HM2.out.trans hM1) b1_0).mono ?_
    rintro e zw2 ⟨rfl, hm2⟩
    exact hK (.bool ans) _ (hI.next hR (by kernel_rfl) hm2 (PB.quiet hI.1 hm2 (HGs.out D 3 _ _ (hI.1).g hm2)) (upd_same V 3 _))
   ·intro D V zw1 a hR hI K hK
    obtain ⟨hM1, hB1, hG1⟩ := hI.1
    obtain ⟨hG1b, hG1c⟩ := hG1
    have zd3 := hR.pred 3 (by kernel_rfl)
    have zF3 : V 3 = .bool ans := hI.2 3 zd3 rfl
    have zf3 := zF3; clear zF3
    have ze19 := hR.frame.done (t := 19) (j := 3) (by kernel_rfl) hR.ok zd3
    rw [if_pos (by rfl)]
    go_simp
    exact hK (.bool ans) _ (hI.next hR (by kernel_rfl) (Mod.refl _ _) (PB.quiet hI.1 (Mod.refl _ _) (HGs.out D 4 zw1 zw1 (hI.1).g (Mod.refl _ _))) (upd_same V 4 _))
   ·intro D V zw1 a hR hI K hK
    obtain ⟨hM1, hB1, hG1⟩ := hI.1
    obtain ⟨hG1b, hG1c⟩ := hG1
    rw [if_pos (by rfl)]
    go_simp
    exact hK ((.int .i64 0)) _ (hI.next hR (by kernel_rfl) (Mod.refl _ _) (PB.quiet hI.1 (Mod.refl _ _) (HGs.out D 5 zw1 zw1 (hI.1).g (Mod.refl _ _))) (upd_same V 5 _))
  ·intro D V w3 hD hI
   obtain ⟨hM1, hB1, hG1⟩ := hI.1
   have hMx := hM1
   clear hM1
   have hBx := hB1
   clear hB1
   have hGx := hG1
   clear hG1
   have zF0 : V 0 = .agg #[.string ⟨x.id.toArray⟩, .string ⟨x.cust.toArray⟩, .int .i64 x.kind, .string ⟨x.name.toArray⟩, .int .i64 x.tm, .string ⟨x.par.toArray⟩, .string ⟨x.text.toArray⟩] := hI.2 0 (hD 0 (by decide)) rfl
   have zf0 := zF0; clear zF0
   have zF1 : ∃ (A_1 : Option Addr) (n_1 : Nat) (c_1 : Nat), V 1 = tgA x (.slice A_1 n_1 c_1) ∧ Wds w3 (.slice A_1 n_1 c_1) (wordsQ x.text) := hI.2 1 (hD 1 (by decide)) rfl
   obtain ⟨A_1, n_1, c_1, zf1, b1_0⟩ := zF1
   have zF2 : V 2 = .agg #[.int .i64 4, .slice Aq ws.length cq, .int .i64 nq, .slice Bq xs.length dq] := hI.2 2 (hD 2 (by decide)) rfl
   have zf2 := zF2; clear zF2
   have zF3 : V 3 = .bool ans := hI.2 3 (hD 3 (by decide)) rfl
   have zf3 := zF3; clear zF3
   have zF4 : V 4 = .bool ans := hI.2 4 (hD 4 (by decide)) rfl
   have zf4 := zF4; clear zF4
   have zF5 : V 5 = (.int .i64 0) := hI.2 5 (hD 5 (by decide)) rfl
   have zf5 := zF5; clear zF5
   clear hI hD HGs
   simp only [frAll, Act.put, List.setIfInBounds_toArray, List.set_cons_zero, List.set_cons_succ, Nat.zero_add, Nat.reduceAdd, zf0, zf1, zf2, zf3, zf4, zf5]
   clear zf0 zf1 zf2 zf3 zf4 zf5
   clear V D
   have HM3 := Lib.hid (HM2.out.trans hMx)
   clear hGx hMx b1_0
   go_wp2_with fail
   try simp only [Exit.inBlock, Exit.then]
   refine bodyPost_ret (v := .tuple #[.bool ans, .int .i64 0]) (by simp [results, Tryz.results36, go_sem]) rfl ?_
   exact ⟨rfl, HM3.out⟩

end Go.Proofs.YtbajgjbdcgakoaaGreatDoor

/- A whole search: (*reader).or. -/
namespace Go.Proofs.YtbajgjbdcgakoaaGreatDoor
set_option linter.unusedVariables false
set_option linter.unusedSimpArgs false
open Go.RowKit
set_option maxRecDepth 100000 in
set_option maxHeartbeats 4000000 in
theorem or1_calls (w0 : World) (g bx : Nat) (s : Str) (f : Nat) (hf : f ≤ 1000000) (hN : NxC w0 g s) (hP : NrC w0 g s f) (hgx : bx ≠ g) (w : World) (L : List Tk) (hW : Mod (· = g) w0 w) (hX : Blk w bx 105 #[.pointer (some ⟨g, 0, none⟩)]) (hR : RdrS w g s L) (hL : L.length ≤ f) :
  Calls Tryz.prog 108 #[.pointer (some ⟨bx, 0, none⟩)] w (PrP w g s (pSev 6 4 (pNot (pOr f) f) f L)) := by
 have hg0 := hR.lt
 have hmz : Pure w (w.alloc (.cells #[.int .i64 0, .slice none 0 0, .int .i64 0, .slice none 0 0] 29)) := (Mod.refl _ _).alloc _
 have HB2 := Lib.hid (Blk.new w 29 #[.int .i64 0, .slice none 0 0, .int .i64 0, .slice none 0 0])
 have HX2 := Lib.hid (hX.alloc (.cells #[.int .i64 0, .slice none 0 0, .int .i64 0, .slice none 0 0] 29))
 have HM2 : Hid (Mod (· = g) w (w.alloc (.cells #[.int .i64 0, .slice none 0 0, .int .i64 0, .slice none 0 0] 29))) := Lib.hid (Mod.of_pure hmz)
 have HS := Lib.hid (sevNot_calls w0 g bx s f (pNot (pOr f) f) hf hN (pNot_len (pOr_len f) f) hgx (fun W L' hW' _ hR' hL' => not_calls w0 g s f hf hN hP W L' hW' hR' hL') (w.alloc (.cells #[.int .i64 0, .slice none 0 0, .int .i64 0, .slice none 0 0] 29)) L (hW.trans HM2.out) HX2.out (hR.pure hmz) hL)
 have hx2 := HX2.out.cell 0
 simp at hx2
 generalize pSev 6 4 (pNot (pOr f) f) f L = r at *
 clear hN hP hW hmz hR hX
 obtain ⟨b2, hb2e⟩ : ∃ b2, w.heap.size = b2 := ⟨_, rfl⟩
 have hb2l : w.heap.size ≤ b2 := by omega
 have hb2u : b2 ≤ w.heap.size := by omega
 go_enter Tryz.func108, Tryz.ntmps108
 go_wp2_with fail
 generalize (w.alloc (.cells #[.int .i64 0, .slice none 0 0, .int .i64 0, .slice none 0 0] 29)) = w2 at *
 rw [hb2e] at HB2
 try simp only [hb2e]
 clear hb2e hx2
 refine HS.out.mono ?_
 rintro e w3 ⟨qr2, bt, l2, rfl, hR3, hm3, h0, h1⟩
 obtain ⟨k2, A2, c2, ws2, n2, B2, d2, xs2⟩ := qr2
 simp only [qA_mk]
 have hb2r := HB2.out.lt
 have HB3 := Lib.hid (HB2.out.modb hm3 (by omega))
 have HM3 := Lib.hid (HM2.out.trans hm3)
 have HR3 := Lib.hid hR3
 have hs2 := HM2.out.size
 have H0 := Lib.hid h0
 have H1 := Lib.hid h1
 have h5 := HB3.out
 have x0 := h5.cell 0; have xf0 := h5.frozen 0; have x1 := h5.cell 1; have xf1 := h5.frozen 1; have x2 := h5.cell 2; have xf2 := h5.frozen 2; have x3 := h5.cell 3; have xf3 := h5.frozen 3; simp at x0 x1 x2 x3
 clear h5 hR3 hm3 h0 h1 HS
 go_wp2_with fail
 have h4F := st4_blk HB3.out (a := .int .i64 k2) (b := .slice A2 ws2.length c2) (c := .int .i64 n2) (d := .slice B2 xs2.length d2)
 have z0 := h4F.cell 0; have z1 := h4F.cell 1; have z2 := h4F.cell 2; have z3 := h4F.cell 3; simp at z0 z1 z2 z3
 try simp only [Exit.inBlock, Exit.then]
 refine bodyPost_ret (v := .tuple #[.agg #[.int .i64 k2, .slice A2 ws2.length c2, .int .i64 n2, .slice B2 xs2.length d2], .bool bt]) (by simp [results, Tryz.results108, go_sem, z0, z1, z2, z3]) rfl ?_
 exact pr_ret HM3.out HR3.out HB3.out (by omega) (by omega) H0.out (fun h => by
  obtain ⟨a1, a2, a3⟩ := H1.out h
  exact ⟨a1, a2, QN.old a3 (fun k hk => by omega), a3.up (by omega)⟩)
set_option maxRecDepth 100000 in
set_option maxHeartbeats 4000000 in
theorem orS_calls (w0 : World) (g : Nat) (s : Str) (f : Nat) (hf : f ≤ 1000000) (hN : NxC w0 g s) (hP : NrC w0 g s f) (hg00 : g < w0.heap.size) : OrC w0 g s (f + 1) := by
 intro w L hW hR hL0
 have hL : L.length ≤ f := by omega
 clear hL0
 have hg0 := hR.lt
 have hmz : Pure w ((w.alloc (.cells #[.pointer (some ⟨g, 0, none⟩)] 105)).alloc (.cells #[.int .i64 0, .slice none 0 0, .int .i64 0, .slice none 0 0] 29)) := ((Mod.refl _ _).alloc _).alloc _
 have HB2 := Lib.hid (Blk.snd w (.cells #[.pointer (some ⟨g, 0, none⟩)] 105) 29 #[.int .i64 0, .slice none 0 0, .int .i64 0, .slice none 0 0])
 have HX2 := Lib.hid ((Blk.new w 105 #[.pointer (some ⟨g, 0, none⟩)]).alloc (.cells #[.int .i64 0, .slice none 0 0, .int .i64 0, .slice none 0 0] 29))
 have HM2 : Hid (Mod (· = g) w ((w.alloc (.cells #[.pointer (some ⟨g, 0, none⟩)] 105)).alloc (.cells #[.int .i64 0, .slice none 0 0, .int .i64 0, .slice none 0 0] 29))) := Lib.hid (Mod.of_pure hmz)
 have HS := Lib.hid (sevOr_calls w0 g w.heap.size s f (pSev 6 4 (pNot (pOr f) f) f) hf hN (pSev_len (by decide) (pNot_len (pOr_len f) f) f) (by omega) (fun W L' hW' hX' hR' hL' => or1_calls w0 g w.heap.size s f hf hN hP (by omega) W L' hW' hX' hR' hL') ((w.alloc (.cells #[.pointer (some ⟨g, 0, none⟩)] 105)).alloc (.cells #[.int .i64 0, .slice none 0 0, .int .i64 0, .slice none 0 0] 29)) L (hW.trans HM2.out) HX2.out (hR.pure hmz) hL)
 have hx2 := HX2.out.cell 0
 simp at hx2
 change Hid (Calls Tryz.prog 107 _ _ (PrP _ g s (pOr (f + 1) L))) at HS
 generalize pOr (f + 1) L = r at *
 clear hN hP hW hmz hR
 go_enter Tryz.func79, Tryz.ntmps79
 go_wp2_with fail
 refine HS.out.mono ?_
 rintro e w3 ⟨qr2, bt, l2, rfl, hR3, hm3, h0, h1⟩
 have hs2 := HM2.out.size
 have hb2r := HB2.out.lt
 have HB3 := Lib.hid (HB2.out.modb hm3 (by omega))
 have HM3 := Lib.hid (HM2.out.trans hm3)
 clear hx2 HX2
 generalize ((w.alloc (.cells #[.pointer (some ⟨g, 0, none⟩)] 105)).alloc (.cells #[.int .i64 0, .slice none 0 0, .int .i64 0, .slice none 0 0] 29)) = w2 at *
 obtain ⟨b2, hb2e⟩ : ∃ b2, w.heap.size + 1 = b2 := ⟨_, rfl⟩
 rw [hb2e] at HB2 HB3
 try simp only [hb2e]
 have hb2l : w.heap.size ≤ b2 := by omega
 have hb2v := HB2.out.lt
 clear hb2e hb2r
 obtain ⟨k2, A2, c2, ws2, n2, B2, d2, xs2⟩ := qr2
 simp only [qA_mk]
 have HR3 := Lib.hid hR3
 have H0 := Lib.hid h0
 have H1 := Lib.hid h1
 have h5 := HB3.out
 have x0 := h5.cell 0; have xf0 := h5.frozen 0; have x1 := h5.cell 1; have xf1 := h5.frozen 1; have x2 := h5.cell 2; have xf2 := h5.frozen 2; have x3 := h5.cell 3; have xf3 := h5.frozen 3; simp at x0 x1 x2 x3
 clear h5 hR3 hm3 h0 h1 HS HB2 HM2
 go_wp2_with fail
 have h4F := st4_blk HB3.out (a := .int .i64 k2) (b := .slice A2 ws2.length c2) (c := .int .i64 n2) (d := .slice B2 xs2.length d2)
 have z0 := h4F.cell 0; have z1 := h4F.cell 1; have z2 := h4F.cell 2; have z3 := h4F.cell 3; simp at z0 z1 z2 z3
 try simp only [Exit.inBlock, Exit.then]
 refine bodyPost_ret (v := .tuple #[.agg #[.int .i64 k2, .slice A2 ws2.length c2, .int .i64 n2, .slice B2 xs2.length d2], .bool bt]) (by simp [results, Tryz.results79, go_sem, z0, z1, z2, z3]) rfl ?_
 exact pr_ret HM3.out HR3.out HB3.out (by omega) (by omega) H0.out (fun h => by
  obtain ⟨a1, a2, a3⟩ := H1.out h
  exact ⟨a1, a2, QN.old a3 (fun k hk => by omega), a3.up (by omega)⟩)
theorem or_calls (w0 : World) (g : Nat) (s : Str) (hN : NxC w0 g s) (hg : g < w0.heap.size) : ∀ f, f ≤ 1000000 → OrC w0 g s f
 | 0, _ => fun W L _ _ h => absurd h (by omega)
 | f + 1, hf => by
  have hO := or_calls w0 g s hN hg f (by omega)
  have hP : PtC w0 g s f := fun W L hW hR hL => part_calls w0 g s f hN hO W L hW hR hL
  have hR : NrC w0 g s f := fun W L hW hR hL => near_calls w0 g s f hN hP W L hW hR hL
  exact orS_calls w0 g s f (by omega) hN hR hg
end Go.Proofs.YtbajgjbdcgakoaaGreatDoor

/- Parse of a search's text that is right. -/
namespace Go.Proofs.YtbajgjbdcgakoaaGreatDoor
set_option linter.unusedVariables false
set_option linter.unusedSimpArgs false
open Go.RowKit
/-- strings.IndexAny of the rests of a text. -/
def IxP (s : Str) : Prop := ∀ (W : World) (a : Nat), a ≤ s.length → Calls Tryz.prog 104 #[.string ⟨(s.drop a).toArray⟩, .string ⟨#[32, 10, 40, 41, 34]⟩] W (fun e w' => e = .returned (.int .i64 (Lib.indexAny (s.drop a) [32, 10, 40, 41, 34])) ∧ Pure W w')
def ParP (w : World) (q : Qry) (e : Ending) (w' : World) : Prop := ∃ qr : QR, e = .returned (.tuple #[qA qr, .int .i64 0, .int .i64 0]) ∧ qr.key = q ∧ QS w' qr ∧ Pure w w'
set_option maxRecDepth 100000 in
set_option maxHeartbeats 8000000 in
theorem parseOk_calls (w : World) (s : Str) (q : Qry) (l : List Tk) (hs : s.length ≤ 200000) (hM : MlnS w) (hI : IxP s) (hp : pOr ((toksQ s 0).length + 1) (toksQ s 0) = .inr (q, l)) (hl : kdL l = 0) (hc : checkQ q = 0) (hq : QB 1000 q) : Calls Tryz.prog 35 #[.string ⟨s.toArray⟩] w (ParP w q) := by
 have hz : (⟨s.toArray⟩ : ByteArray).size = s.length := by simp [ByteArray.size]
 have HP := Lib.hid hp
 have HL := Lib.hid hl
 have HC := Lib.hid hc
 have HQB := Lib.hid hq
 have hmA : Pure w ((w.alloc (.cells #[.int .i64 0, .slice none 0 0, .int .i64 0, .slice none 0 0] 29)).alloc (.cells #[.string ⟨s.toArray⟩, .int .i64 0, .int .i64 0, .int .i64 0, .int .i64 0, .slice none 0 0, .int .i64 0, .slice none 0 0] 109)) := ((Mod.refl _ _).alloc _).alloc _
 have HB2 := Lib.hid ((Blk.new w 29 #[.int .i64 0, .slice none 0 0, .int .i64 0, .slice none 0 0]).alloc (.cells #[.string ⟨s.toArray⟩, .int .i64 0, .int .i64 0, .int .i64 0, .int .i64 0, .slice none 0 0, .int .i64 0, .slice none 0 0] 109))
 have HBR := Lib.hid (Blk.snd w (.cells #[.int .i64 0, .slice none 0 0, .int .i64 0, .slice none 0 0] 29) 109 #[.string ⟨s.toArray⟩, .int .i64 0, .int .i64 0, .int .i64 0, .int .i64 0, .slice none 0 0, .int .i64 0, .slice none 0 0])
 have HMA := Lib.hid hmA
 have HML : Hid (∀ W, Mod (· = w.heap.size + 1) ((w.alloc (.cells #[.int .i64 0, .slice none 0 0, .int .i64 0, .slice none 0 0] 29)).alloc (.cells #[.string ⟨s.toArray⟩, .int .i64 0, .int .i64 0, .int .i64 0, .int .i64 0, .slice none 0 0, .int .i64 0, .slice none 0 0] 109)) W → MlnS W) := Lib.hid (fun W hW => hM.pure (hmA.trans' hW (fun i hi hlt => by omega)))
 have HIX : Hid (IxA (w.heap.size + 1) ((w.alloc (.cells #[.int .i64 0, .slice none 0 0, .int .i64 0, .slice none 0 0] 29)).alloc (.cells #[.string ⟨s.toArray⟩, .int .i64 0, .int .i64 0, .int .i64 0, .int .i64 0, .slice none 0 0, .int .i64 0, .slice none 0 0] 109)) s) := Lib.hid (fun W a _ ha => hI W a ha)
 have htl := toks_len s 0
 clear hp hl hc hq hM hI hmA
 go_enter Tryz.func35, Tryz.ntmps35
 go_upto_region 4 with (fail)
 generalize ((w.alloc (.cells #[.int .i64 0, .slice none 0 0, .int .i64 0, .slice none 0 0] 29)).alloc (.cells #[.string ⟨s.toArray⟩, .int .i64 0, .int .i64 0, .int .i64 0, .int .i64 0, .slice none 0 0, .int .i64 0, .slice none 0 0] 109)) = w1 at *
 obtain ⟨b2, hb2e⟩ : ∃ b2, w.heap.size = b2 := ⟨_, rfl⟩
 rw [hb2e] at HB2 HBR HML HIX
 try simp only [hb2e]
 obtain ⟨g, hge⟩ : ∃ g, b2 + 1 = g := ⟨_, rfl⟩
 rw [hge] at HBR HML HIX
 try simp only [hge]
 have hb2l : w.heap.size ≤ b2 := by omega
 have hbg : b2 < g := by omega
 clear hb2e hge
 have hgr := HBR.out.lt
 have HN := Lib.hid (nxC_of (g := g) hs HML.out HIX.out)
 have HO := Lib.hid (or_calls w1 g s HN.out hgr ((toksQ s 0).length + 1) (by omega))
 have HNX := Lib.hid (nextR_calls w1 s 0 0 0 0 0 (.slice none 0 0) (.slice none 0 0) g hs (Nat.zero_le _) HML.out HIX.out HBR.out)
 go_wp2_with fail
 refine HNX.out.mono ?_
 intro e w3 h
 obtain ⟨rfl, hR3, hm3⟩ := h.rds (Nat.zero_le _)
 have HB3 := Lib.hid (HB2.out.modb hm3 (by omega))
 have HM3 := Lib.hid hm3
 have HOX := Lib.hid (HO.out w3 (toksQ s 0) hm3 hR3 (Nat.le_refl _))
 clear h hR3 hm3 HNX HO HB2
 go_wp2_with fail
 refine HOX.out.mono ?_
 rintro e w4 ⟨qr2, bt, l2, rfl, hR4, hm4, h0, h1⟩
 obtain ⟨k2, A2, c2, ws2, n2, B2, d2, xs2⟩ := qr2
 simp only [qA_mk]
 cases bt
 ·exact absurd (h0 rfl) (by rw [HP.out]; intro h; cases h)
 ·obtain ⟨a1, a2, a3⟩ := h1 rfl
  rw [HP.out] at a1
  injection a1 with a1
  injection a1 with a1 a4
  subst a4
  have HK := Lib.hid a1.symm
  have hb2r := HB3.out.lt
  have hs4 := hm4.size
  have hs3 := HM3.out.size
  have hmC : Pure w4 (w4.alloc (.cells #[.int .i64 k2, .slice A2 ws2.length c2, .int .i64 n2, .slice B2 xs2.length d2] 29)) := (Mod.refl _ _).alloc _
  have HB5 := Lib.hid ((HB3.out.modb hm4 (by omega)).alloc (.cells #[.int .i64 k2, .slice A2 ws2.length c2, .int .i64 n2, .slice B2 xs2.length d2] 29))
  have HB6 := Lib.hid (Blk.new w4 29 #[.int .i64 k2, .slice A2 ws2.length c2, .int .i64 n2, .slice B2 xs2.length d2])
  have HR5 := Lib.hid (RdrS.pure hR4 hmC)
  have HM5 : Hid (Pure w (w4.alloc (.cells #[.int .i64 k2, .slice A2 ws2.length c2, .int .i64 n2, .slice B2 xs2.length d2] 29))) := Lib.hid (((HMA.out.trans' HM3.out (fun i hi hlt => by omega)).trans' hm4 (fun i hi hlt => by omega)).trans hmC)
  have HQ5 := Lib.hid (a2.pure hmC)
  have HQN : Hid (QN (· = b2) (QR.mk k2 A2 c2 ws2 n2 B2 d2 xs2)) := Lib.hid (QN.old a3 (fun k hk => by omega))
  clear h0 h1 hR4 hm4 a1 a2 a3 hmC HB3 HM3 HMA HOX
  go_upto_region 6 with (fail)
  generalize (w4.alloc (.cells #[.int .i64 k2, .slice A2 ws2.length c2, .int .i64 n2, .slice B2 xs2.length d2] 29)) = w5 at *
  obtain ⟨b6, hb6⟩ : ∃ b6, w4.heap.size = b6 := ⟨_, rfl⟩
  rw [hb6] at HB6
  try simp only [hb6]
  have hb6l : w4.heap.size ≤ b6 := by omega
  clear hb6
  obtain ⟨p5, qr5, t5, l5, rfl, hB7, hp5, hQ5, hk5, ha5, _, _⟩ := HR5.out
  obtain ⟨k5, A5, c5, ws5, n5, B5, d5, xs5⟩ := qr5
  have hk0 : t5.kind = 0 := HL.out
  have hBr := hB7
  unfold rdC at hBr
  simp [qC] at hBr
  rw [hk0] at hBr
  have u0 := hBr.cell 0; have u1 := hBr.cell 1; have u2 := hBr.cell 2; have u3 := hBr.cell 3; have u4 := hBr.cell 4; have u5 := hBr.cell 5; have u6 := hBr.cell 6; have u7 := hBr.cell 7; simp at u0 u1 u2 u3 u4 u5 u6 u7
  have h6 := HB6.out
  have y0 := h6.cell 0; have y1 := h6.cell 1; have y2 := h6.cell 2; have y3 := h6.cell 3; simp at y0 y1 y2 y3
  clear hBr hQ5 hk5 ha5 hB7 h6 hk0 HL
  have HCK := Lib.hid (fun W (h : QS W (QR.mk k2 A2 c2 ws2 n2 B2 d2 xs2)) => qcheck_calls W (.mk k2 A2 c2 ws2 n2 B2 d2 xs2) h (by rw [HK.out]; exact HQB.out))
  rw [HK.out, HC.out] at HCK
  simp only [qA_mk] at HCK
  go_wp2_with fail
  refine (HCK.out _ HQ5.out).mono ?_
  rintro e w7 ⟨rfl, hm7⟩
  have HB8 := Lib.hid (HB5.out.modp hm7)
  have HQ8 := Lib.hid (HQ5.out.pure hm7)
  have HM8 := Lib.hid (HM5.out.trans hm7)
  have h6 := HB6.out.modp hm7
  have h5 := HB8.out
  clear u0 u1 u2 u3 u4 u5 u6 u7 y0 y1 y2 y3
  have y0 := h6.cell 0; have y1 := h6.cell 1; have y2 := h6.cell 2; have y3 := h6.cell 3; simp at y0 y1 y2 y3
  have x0 := h5.cell 0; have xf0 := h5.frozen 0; have x1 := h5.cell 1; have xf1 := h5.frozen 1; have x2 := h5.cell 2; have xf2 := h5.frozen 2; have x3 := h5.cell 3; have xf3 := h5.frozen 3; simp at x0 x1 x2 x3
  clear h5 h6 hm7 HCK HB5 HQ5 HM5
  go_wp2_with fail
  have h4F := st4_blk HB8.out (a := .int .i64 k2) (b := .slice A2 ws2.length c2) (c := .int .i64 n2) (d := .slice B2 xs2.length d2)
  have z0 := h4F.cell 0; have z1 := h4F.cell 1; have z2 := h4F.cell 2; have z3 := h4F.cell 3; simp at z0 z1 z2 z3
  try simp only [Exit.inBlock, Exit.then]
  refine bodyPost_ret (v := .tuple #[.agg #[.int .i64 k2, .slice A2 ws2.length c2, .int .i64 n2, .slice B2 xs2.length d2], .int .i64 0, .int .i64 0]) (by simp [results, Tryz.results35, go_sem, z0, z1, z2, z3]) rfl ?_
  have hst : Mod (· = b2) w7 ((((w7.setCell ⟨b2, 0, none⟩ (.int .i64 k2)).setCell ⟨b2, 1, none⟩ (.slice A2 ws2.length c2)).setCell ⟨b2, 2, none⟩ (.int .i64 n2)).setCell ⟨b2, 3, none⟩ (.slice B2 xs2.length d2)) := st4_mod
  exact ⟨.mk k2 A2 c2 ws2 n2 B2 d2 xs2, rfl, HK.out, HQ8.out.box HB8.out HQN.out hst, HM8.out.trans' hst (fun i hi hlt => by omega)⟩
end Go.Proofs.YtbajgjbdcgakoaaGreatDoor

/-
 DERIVED: THE SHELF's CONTRACTS AT THIS DUMP, IN PLAIN WORDS (tools/lay-plain.mjs out of 'YtbajgjbdcgakoaaGreatDoorLayAny.lean', which tools/lay-shelf.mjs wrote): THE SAME DECLARATIONS UNDER THE SAME NAMES: 'import', 'namespace', 'open', 'def', 'theorem' AND NOTHING ELSE: no command of the shelf's: FOR A HAND-IN. Each laying: the table of numbers ('.._ren') and one theorem, a field a fact of the dump's own or the kernel's comparison; each contract: ONE APPLICATION.
-/
namespace Go.Proofs
open Go.Shelf
def Tryz.lays153_ren : Go.Shelf.Ren := ⟨fun | 153 => 104 | 152 => 142 | 226 => 143 | 227 => 144 | 228 => 145 | 137 => 138 | 119 => 179 | 224 => 180 | 225 => 181 | 217 => 170 | 266 => 198 | n => n, fun | 9 => 9 | 3 => 3 | 4 => 4 | 5 => 5 | 21 => 21 | 117 => 169 | 116 => 168 | 0 => 0 | 46 => 56 | 124 => 196 | n => n, fun | n => n⟩
theorem Tryz.lays153 : Go.Proofs.Lays.n153 Tryz.prog Tryz.lays153_ren := {
 mixed := by kernel_rfl
 f119 := Tryz.func179.trans (congrArg some (by kernel_rfl))
 f137 := Tryz.func138.trans (congrArg some (by kernel_rfl))
 f152 := Tryz.func142.trans (congrArg some (by kernel_rfl))
 f153 := Tryz.func104.trans (congrArg some (by kernel_rfl))
 f217 := Tryz.func170.trans (congrArg some (by kernel_rfl))
 f224 := Tryz.func180.trans (congrArg some (by kernel_rfl))
 f225 := Tryz.func181.trans (congrArg some (by kernel_rfl))
 f226 := Tryz.func143.trans (congrArg some (by kernel_rfl))
 f227 := Tryz.func144.trans (congrArg some (by kernel_rfl))
 f228 := Tryz.func145.trans (congrArg some (by kernel_rfl))
 f266 := Tryz.func198.trans (congrArg some (by kernel_rfl))
 t0 := Tryz.underlying0
 a0 := Tryz.isAgg0
 z0 := Tryz.sizeOf0
 v0 := Tryz.zeroValue0
 t3 := Tryz.underlying3
 a3 := Tryz.isAgg3
 z3 := Tryz.sizeOf3
 v3 := Tryz.zeroValue3
 t4 := Tryz.underlying4
 a4 := Tryz.isAgg4
 z4 := Tryz.sizeOf4
 v4 := Tryz.zeroValue4
 t5 := Tryz.underlying5
 a5 := Tryz.isAgg5
 z5 := Tryz.sizeOf5
 v5 := Tryz.zeroValue5
 t9 := Tryz.underlying9
 a9 := Tryz.isAgg9
 z9 := Tryz.sizeOf9
 v9 := Tryz.zeroValue9
 t21 := Tryz.underlying21
 a21 := Tryz.isAgg21
 z21 := Tryz.sizeOf21
 v21 := Tryz.zeroValue21
 t46 := Tryz.underlying56
 a46 := Tryz.isAgg56
 z46 := Tryz.sizeOf56
 v46 := Tryz.zeroValue56
 t116 := Tryz.underlying168
 a116 := Tryz.isAgg168
 z116 := Tryz.sizeOf168
 t117 := Tryz.underlying169
 a117 := Tryz.isAgg169
 z117 := Tryz.sizeOf169
 v117 := Tryz.zeroValue169
 t124 := Tryz.underlying196
 a124 := Tryz.isAgg196
 z124 := Tryz.sizeOf196
 v124 := Tryz.zeroValue196 }
end Go.Proofs

/- asks (chaselaw2/queries.go): package query reads and finds. -/
namespace Go.Proofs.YtbajgjbdcgakoaaGreatDoor
set_option linter.unusedVariables false
set_option linter.unusedSimpArgs false
open Go.RowKit
def askTx : Str := [100, 101, 97, 108, 32, 119, 47, 49, 32, 102, 114, 105, 100, 97, 121]
def askD : Str := [100, 101, 97, 108]
def askF : Str := [102, 114, 105, 100, 97, 121]
def askQy : Qry := .mk 4 [] 1 [.mk 2 [askD] 0 [], .mk 2 [askF] 0 []]
def askIt : Itm := ⟨[97], [98], 1, [], 0, [], [102, 114, 105, 100, 97, 121, 44, 32, 100, 101, 97, 108, 10]⟩
theorem ask_toks : toksQ askTx 0 = [⟨3, 0, .mk 2 [askD] 0 []⟩, ⟨7, 5, .mk 4 [] 1 []⟩, ⟨3, 9, .mk 2 [askF] 0 []⟩, ⟨0, 15, q0⟩] := by kernel_rfl
theorem ask_or : pOr ((toksQ askTx 0).length + 1) (toksQ askTx 0) = .inr (askQy, [⟨0, 15, q0⟩]) := by
 rw [ask_toks]
 rfl
theorem ask_check : checkQ askQy = 0 := by
 have h1 : qFit askQy 0 0 0 = true := by
  unfold askQy qFit
  simp [qSize, qDeep, qNear, nearK]
 unfold checkQ
 rw [if_pos h1]
 unfold askQy
 rw [fltQ]
 have e1 : fltQ 100 (mustQ false 4) (.mk 2 [askD] 0 []) = 0 := by rw [fltQ]; rfl
 have e2 : fltQ 100 (mustQ false 4) (.mk 2 [askF] 0 []) = 0 := by rw [fltQ]; rfl
 rw [show ([Qry.mk 2 [askD] 0 [], .mk 2 [askF] 0 []] : List Qry).map (fltQ 100 (mustQ false 4)) = [fltQ 100 (mustQ false 4) (.mk 2 [askD] 0 []), fltQ 100 (mustQ false 4) (.mk 2 [askF] 0 [])] from rfl, e1, e2]
 rfl
theorem ask_qb : QB 1000 askQy := by
 refine .mk (by decide) (by decide) (by decide) (by decide) (by decide) (by simp) (by decide) (fun a ha => ?_)
 simp at ha
 rcases ha with rfl | rfl
 ·exact .mk (by decide) (by decide) (by decide) (by decide) (by decide) (by simp [askD]) (by decide) (fun a ha => by cases ha)
 ·exact .mk (by decide) (by decide) (by decide) (by decide) (by decide) (by simp [askF]) (by decide) (fun a ha => by cases ha)
theorem ask_words : wordsQ askIt.text = [((0, 6), askF), ((8, 12), askD)] := by kernel_rfl
theorem ask_item : itemE askIt = 0 := by kernel_rfl
theorem ask_some : somePl (plcQ (wsQ (wordsQ askIt.text)) askQy) (wordsQ askIt.text).length = true := by
 rw [ask_words]
 unfold askQy
 rw [plc_near, plc_word (.inl rfl), plc_word (.inl rfl)]
 rfl
theorem ask_ix : IxP askTx := by
 intro W a _
 have h116 : (Tryz.prog.info? (Tryz.lays153_ren.t 116)).map (fun i => (i.zero, i.size)) = some (some (.agg (Array.replicate 256 (.bool false))), 256) := by kernel_rfl
 refine (Any.strings_IndexAny_laid Tryz.lays153 h116 ⟨(askTx.drop a).toArray⟩ ⟨#[32, 10, 40, 41, 34]⟩ W ?_ (by decide) ?_ ?_).mono ?_
 ·have h : askTx.length = 15 := rfl
  simp [ByteArray.size]
  omega
 ·intro j b hb
  have hm : b ∈ askTx := List.mem_of_mem_drop (List.mem_of_getElem? hb)
  have hall : askTx.all (fun c => decide (c.toNat < 128)) = true := by decide
  simpa using List.all_eq_true.1 hall b hm
 ·intro j b hb
  have hm : b ∈ ([32, 10, 40, 41, 34] : Str) := List.mem_of_getElem? hb
  have hall : ([32, 10, 40, 41, 34] : Str).all (fun c => decide (c.toNat < 128)) = true := by decide
  simpa using List.all_eq_true.1 hall b hm
 ·rintro e w' ⟨rfl, h⟩
  exact ⟨rfl, Mod.of_below h⟩

theorem leaf_of {a : QR} {p : Str} (h : a.key = .mk 2 [p] 0 []) : ∃ A c B d, a = .mk 2 A c [p] 0 B d [] := by
 obtain ⟨k, A, c, ws, n, B, d, xs⟩ := a
 rw [QR.key_mk] at h
 injection h with h1 h2 h3 h4
 subst h1 h2 h3
 have h5 : xs = [] := List.map_eq_nil_iff.1 h4
 subst h5
 exact ⟨A, c, B, d, rfl⟩
set_option maxRecDepth 100000 in
set_option maxHeartbeats 4000000 in
theorem asks_calls (w : World) (hE : Env w) : Calls Tryz.prog 14 #[] w (BoolPost w true) := by
 have HP := Lib.hid (parseOk_calls w askTx askQy [⟨0, 15, q0⟩] (by decide) hE.2 ask_ix ask_or rfl ask_check ask_qb)
 have HE := Lib.hid hE
 clear hE
 go_enter Tryz.func14, Tryz.ntmps14
 go_wp2_with fail
 refine HP.out.mono ?_
 rintro e w1 ⟨qr, rfl, hk, hQ, hm⟩
 obtain ⟨k, A, c, ws, n, B, d, xs⟩ := qr
 have hk0 := hk
 rw [QR.key_mk] at hk
 injection hk with e1 e2 e3 e4
 subst e1 e2 e3
 obtain ⟨a1, r1, rfl, g1, g2⟩ := List.map_eq_cons_iff.1 e4
 obtain ⟨a2, r2, rfl, g3, g4⟩ := List.map_eq_cons_iff.1 g2
 have hr2 : r2 = [] := List.map_eq_nil_iff.1 g4
 subst hr2
 have hq1 := hQ.allH a1 (by simp)
 have hq2 := hQ.allH a2 (by simp)
 obtain ⟨A1, c1, B1, d1, rfl⟩ := leaf_of g1
 obtain ⟨A2, c2, B2, d2, rfl⟩ := leaf_of g3
 simp only [qA_mk]
 have hmA : Pure w1 (w1.alloc (.cells #[.int .i64 4, .slice A 0 c, .int .i64 1, .slice B 2 d] 29)) := (Mod.refl _ _).alloc _
 have HMX := Lib.hid (matches4_calls (w1.alloc (.cells #[.int .i64 4, .slice A 0 c, .int .i64 1, .slice B 2 d] 29)) askIt A B c d 1 [] [.mk 2 A1 c1 [askD] 0 B1 d1 [], .mk 2 A2 c2 [askF] 0 B2 d2 []] (plcQ (wsQ (wordsQ askIt.text)) askQy) (by unfold ItL askIt; simp) (HE.out.pure (hm.trans hmA)) ask_item (hQ.pure hmA) (by rw [hk0]; exact ask_qb) (by rw [hk0]; exact ask_check) (by rw [ask_words]; decide)
  (fun W' Aw nw cw hW hw => by
   have hwl : ∀ x ∈ wordsQ askIt.text, x.2.length ≤ 1000000 := by rw [ask_words]; simp [askF, askD]
   have hW2 : (wordsQ askIt.text).length ≤ 1000 := by rw [ask_words]; decide
   have h := placesN_calls W' (.slice Aw nw cw) (wordsQ askIt.text) 1 A B c d [] (.mk 2 A1 c1 [askD] 0 B1 d1 []) (.mk 2 A2 c2 [askF] 0 B2 d2 []) ((hQ.pure hmA).pure hW) hW2 (by decide) (by decide)
    (fun W2 h2 => placesW_calls W2 _ _ 2 0 A1 B1 c1 d1 [askD] [] (.inl rfl) (((hq1.pure hmA).pure hW).pure h2) (hw.pure h2) (by decide) (by decide) (by simp [askD]) hW2 hwl)
    (fun W2 h2 => placesW_calls W2 _ _ 2 0 A2 B2 c2 d2 [askF] [] (.inl rfl) (((hq2.pure hmA).pure hW).pure h2) (hw.pure h2) (by decide) (by decide) (by simp [askF]) hW2 hwl)
   rw [hk0] at h
   exact h))
 rw [ask_some] at HMX
 have HM := Lib.hid (hm.trans hmA)
 have hb := Blk.new w1 29 #[.int .i64 4, .slice A 0 c, .int .i64 1, .slice B 2 d]
 have x0 := hb.cell 0; have x1 := hb.cell 1; have x2 := hb.cell 2; have x3 := hb.cell 3; simp at x0 x1 x2 x3
 simp only [qA_mk] at HMX
 unfold itA askIt at HMX
 clear hk0 hQ hm e4 g1 g2 g3 g4 hq1 hq2 hmA hb HP
 go_wp2_with fail
 refine HMX.out.mono ?_
 rintro e w3 ⟨rfl, hm3⟩
 go_wp2_with fail
 go_ret
 exact ⟨rfl, HM.out.trans hm3⟩

end Go.Proofs.YtbajgjbdcgakoaaGreatDoor

/- Quoted strings: Unquoted of the reference. -/
namespace Go.Proofs.YtbajgjbdcgakoaaGreatDoor
set_option linter.unusedVariables false
set_option linter.unusedSimpArgs false
open Go.RowKit

end Go.Proofs.YtbajgjbdcgakoaaGreatDoor

/- Quoted strings: strange strings, taken. -/
namespace Go.Proofs.YtbajgjbdcgakoaaGreatDoor
set_option linter.unusedVariables false
set_option linter.unusedSimpArgs false
open Go.RowKit

end Go.Proofs.YtbajgjbdcgakoaaGreatDoor

/- What the listed variables of the item laws hold. -/
namespace Go.Proofs.YtbajgjbdcgakoaaGreatDoor
set_option linter.unusedVariables false
set_option linter.unusedSimpArgs false
open Go.RowKit

def litZ : DataW Unit → Int
 | .lit (.int _ n) => n
 | _ => 0
def litsZ : DataW Unit → List Int
 | .agg ps => ps.map litZ
 | _ => []
theorem cell_of_var {W : World} {g : Nat} {name : String} {cs : Array Value} (hg : Tryz.prog.globalNamed name = some g) (h : W.var? Tryz.prog name = some cs) (i : Nat) : W.cell? ⟨g, i, none⟩ = cs[i]? := by
 unfold World.var? at h
 rw [hg] at h
 simp only [Option.bind_some] at h
 split at h
 ·rename_i hh
  injection h with h
  subst h
  exact cell_of_row W g i _ _ _ hh
 ·cases h
theorem star : "*" ++ "errors.errorString" = "*errors.errorString" := by decide
theorem rowErr (u : TypeId) (h : Tryz.prog.typeName? 3 u = some "*errors.errorString") : u = 248 :=
 typeName_ptr_named (nm := "errors.errorString") (by rw [star]; kernel_rfl) (by kernel_rfl) (by decide) u (by rw [star]; exact h)
/-- The list that all rows of this seat have. -/
abbrev laidI : List (String × DataW Unit) := [("math/bits.deBruijn32tab", Rows.laid_math_bits_deBruijn32tab), ("math/bits.deBruijn64tab", Rows.laid_math_bits_deBruijn64tab), ("internal/strconv.uint64pow10", Rows.laid_internal_strconv_uint64pow10), ("unicode/utf8.acceptRanges", Rows.laid_unicode_utf8_acceptRanges), ("strconv.ErrRange", Rows.laid_strconv_ErrRange), ("strconv.ErrSyntax", Rows.laid_strconv_ErrSyntax), ("unicode/utf8.first", Rows.laid_unicode_utf8_first)]
theorem deb_of {W : World} (hL : laidMet Tryz.prog laidI W) : Deb W := by
 have h1 := Lib.tabIs_of_head (k := .u8) (zs := litsZ Rows.laid_math_bits_deBruijn64tab) (g := 5) (name := "math/bits.deBruijn64tab") (P := Tryz.prog) (W := W) (n := 64) (t := 226) (e := 5) (by kernel_rfl) (by kernel_rfl) (by kernel_rfl) (by kernel_rfl) (by kernel_rfl) (by kernel_rfl) hL.tail
 exact (cell_of_var (by kernel_rfl) h1 15).trans (by kernel_rfl)
theorem err_of {W : World} (hL : laidMet Tryz.prog laidI W) : ErrS W := by
 obtain ⟨a, s, hv, _⟩ := laid_sentinel (g := 6) hL.tail.tail.tail.tail.tail (by kernel_rfl) (by kernel_rfl) Tryz.underlying128 rowErr Tryz.underlying248 Tryz.underlying250 rfl rfl Tryz.underlying9 (by kernel_rfl) (by kernel_rfl)
 exact ⟨_, _, (cell_of_var (by kernel_rfl) hv 0).trans rfl⟩
theorem dFirst : Rows.laid_unicode_utf8_first = Lib.firstData := by kernel_rfl
theorem dAccept : (Rows.laid_unicode_utf8_acceptRanges : DataW Unit) = Lib.acceptData := by kernel_rfl
theorem utf_of {W : World} (hL : laidMet Tryz.prog laidI W) : Utf W :=
 utf8Tabs_of_readsT (ρ := Tryz.lays196_ren) (U8Types.of196 Tryz.lays196) ⟨by kernel_rfl, by kernel_rfl, by kernel_rfl, by kernel_rfl, by kernel_rfl, by kernel_rfl, by kernel_rfl⟩
  (dFirst ▸ Lib.laidMet.reads hL (by simp [laidI])) (dAccept ▸ Lib.laidMet.reads hL (by simp [laidI]))
theorem mln_of {W : World} (h : W.ShapedOpen Tryz.prog) : Mln W := Tryz.laysM144.s1_3 W h
theorem env_of {W : World} (hL : laidMet Tryz.prog laidI W) (h : W.ShapedOpen Tryz.prog) : Env W := ⟨utf_of hL, mln_of h⟩

end Go.Proofs.YtbajgjbdcgakoaaGreatDoor

/- The law QueryPatterns. -/
namespace Go.Proofs.YtbajgjbdcgakoaaGreatDoor
set_option linter.unusedVariables false
set_option linter.unusedSimpArgs false
open Go.RowKit

theorem sl_nil {w : World} {e : TypeId} {v : Value} (h : Sl w e 1 v []) : ∃ A c, v = .slice A 0 c := by
 obtain ⟨A, n, c, rfl, _, _, hl, _⟩ := h
 have : n = 0 := by simpa using hl.symm
 exact ⟨A, c, by rw [this]⟩
set_option maxRecDepth 100000 in
set_option maxHeartbeats 8000000 in
theorem QueryPatterns_calls (w : World) (A : Option Addr) (n c : Nat) (hA : ArgInts w A n) (hE : ErrS w) (hD : Deb w) (hV : Env w) : Calls Tryz.prog 4 #[.slice A n c] w (BoolPost w true) := by
 have hS0 := strm_new (c := c) hA
 have HV : Hid (∀ w1, Pure w w1 → Env w1) := Lib.hid (fun _ h => hV.pure h)
 obtain ⟨b, hb⟩ : ∃ b, b = w.heap.size := ⟨_, rfl⟩
 have P0 := pure_alloc w (.cells #[.slice A n c, .int .i64 0] 25)
 rw [← hb] at hS0
 have hwb : w.heap.size ≤ b := by omega
 clear hE hD hV hA
 go_enter Tryz.func4, Tryz.ntmps4
 go_wp2_with fail
 rw [← hb]
 generalize (w.alloc (.cells #[.slice A n c, .int .i64 0] 25)) = w0 at *
 clear hb
 refine (someQuery_calls w0 b 0 hS0 (by omega)).mono ?_
 rintro e w1 ⟨⟨k1, A1, c1, ws1, n1, B1, d1, xs1⟩, rfl, hq1, hf1, hqz1, hb1, hsz1, hS1, hM1⟩
 rw [qA_mk]
 have hpa := pure_alloc w1 (.cells #[.int .i64 k1, .slice A1 ws1.length c1, .int .i64 n1, .slice B1 xs1.length d1] 29)
 have P1 : Pure w w1 := P0.trans' hM1 (fun i hi hlt => by omega)
 have hX := Blk.new w1 29 #[.int .i64 k1, .slice A1 ws1.length c1, .int .i64 n1, .slice B1 xs1.length d1]
 have HX := Lib.hid hX
 have HQ := Lib.hid (hq1.pure hpa)
 have HP := Lib.hid (P1.trans hpa)
 have HB := Lib.hid hb1
 have HPT := Lib.hid (patterns_calls (w1.alloc (.cells #[.int .i64 k1, .slice A1 ws1.length c1, .int .i64 n1, .slice B1 xs1.length d1] 29)) (QR.mk k1 A1 c1 ws1 n1 B1 d1 xs1) (hq1.pure hpa) (hb1.mono (by omega)))
 rw [qA_mk] at HPT
 clear hpa hq1 hf1 hqz1 hb1 hS1 hM1 P0 P1 hS0
 go_upto_region 3 with (fail)
 generalize (w1.alloc (.cells #[.int .i64 k1, .slice A1 ws1.length c1, .int .i64 n1, .slice B1 xs1.length d1] 29)) = w2 at *
 generalize w1.heap.size = g4 at *
 have x0 := hX.cell 0; have x1 := hX.cell 1; have x2 := hX.cell 2; have x3 := hX.cell 3; simp at x0 x1 x2 x3
 clear hX
 obtain ⟨ck, hck⟩ : ∃ ck, checkQ (QR.key (QR.mk k1 A1 c1 ws1 n1 B1 d1 xs1)) = ck := ⟨_, rfl⟩
 have HCK := Lib.hid hck
 try simp only [hck]
 clear hck
 go_wp2_with fail
 refine HPT.out.mono ?_
 rintro e w3 ⟨v3, rfl, hs3, hm3⟩
 rw [HCK.out] at hs3
 simp only [HCK.out]
 have hX3 := HX.out.modp hm3
 have HP3 := Lib.hid (HP.out.trans hm3)
 have HAS := Lib.hid (fun W (h : Pure w W) => asks_calls W (HV.out W h))
 have HQ3 := Lib.hid (HQ.out.pure hm3)
 clear HPT hm3 HX HP HQ x0 x1 x2 x3
 by_cases h0 : ck = 0
 ·subst h0
  rw [if_pos rfl, pat_same] at hs3
  have HS3 := Lib.hid hs3
  have HPO := Lib.hid (fun W (h : Pure w3 W) => patternsOf_calls (QR.mk k1 A1 c1 ws1 n1 B1 d1 xs1) W (HQ3.out.pure h) (ptnR_check HCK.out) (HB.out.mono (by omega)) (by omega))
  rw [qA_mk] at HPO
  obtain ⟨A3, n3, c3, rfl⟩ := hs3.form
  have x0 := hX3.cell 0; have x1 := hX3.cell 1; have x2 := hX3.cell 2; have x3 := hX3.cell 3; simp at x0 x1 x2 x3
  clear hs3 hX3
  go_wp2_with fail
  refine (HPO.out _ (Mod.refl _ _)).mono ?_
  rintro e w4 ⟨v4, rfl, hown4, hm4⟩
  have HEQ := Lib.hid (equalS_calls w4 _ v4 _ (HS3.out.pure hm4) (Sl.of_own hown4))
  have HP4 := Lib.hid (HP3.out.trans hm4)
  clear hown4 hm4 HPO HS3 HP3 HQ3 HB
  go_wp2_with fail
  refine HEQ.out.mono ?_
  rintro e w5 ⟨rfl, hm5⟩
  have HP5 := Lib.hid (HP4.out.trans hm5)
  clear hm5 HEQ HP4
  go_wp2_with fail
  refine (HAS.out _ HP5.out).mono ?_
  rintro e w6 ⟨rfl, hm6⟩
  have HP6 := Lib.hid (HP5.out.trans hm6)
  clear hm6
  go_wp2_with fail
  go_ret
  exact ⟨rfl, HP6.out⟩
 ·have h0i : (ck == 0) = false := by simpa using h0
  have h0n : (ck != 0) = true := by simp [h0]
  rw [if_neg h0] at hs3
  obtain ⟨A3, c3, rfl⟩ := sl_nil hs3
  clear hs3 hX3 HQ3 HB
  go_wp2_with fail
  refine (HAS.out _ HP3.out).mono ?_
  rintro e w6 ⟨rfl, hm6⟩
  have HP6 := Lib.hid (HP3.out.trans hm6)
  clear hm6
  go_wp2_with fail
  go_ret
  exact ⟨rfl, HP6.out⟩

end Go.Proofs.YtbajgjbdcgakoaaGreatDoor
