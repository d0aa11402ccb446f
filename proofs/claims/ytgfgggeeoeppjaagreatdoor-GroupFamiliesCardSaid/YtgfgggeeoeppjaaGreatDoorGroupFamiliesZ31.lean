/- Texts of the proof of GroupFamilies, put together: PlcR, LaySum, SrtA, ItmS, LawI, HasI, JoinS, SumA, SumB, SumR, SumC, GroD, GrqR, GroE, GroG. -/
import Derived.Test.YtgfgggeeoeppjaaGreatDoorGroupFamiliesZ6
import Derived.Test.YtgfgggeeoeppjaaGreatDoorGroupFamiliesZ7
import Derived.Test.YtgfgggeeoeppjaaGreatDoorGroupFamiliesZ9
import Derived.Test.YtgfgggeeoeppjaaGreatDoorGroupFamiliesZ12
import Derived.Test.YtgfgggeeoeppjaaGreatDoorGroupFamiliesZ13
import Derived.Test.YtgfgggeeoeppjaaGreatDoorGroupFamiliesZ14
import Derived.Test.YtgfgggeeoeppjaaGreatDoorGroupFamiliesZ21
import Derived.Test.YtgfgggeeoeppjaaGreatDoorGroupFamiliesZ25
import Derived.Test.YtgfgggeeoeppjaaGreatDoorGroupFamiliesZ26
import Derived.Test.YtgfgggeeoeppjaaGreatDoorGroupFamiliesZ29
import Derived.Test.YtgfgggeeoeppjaaGreatDoorGroupFamiliesZ30
import Derived.Deep.DeepCutAuto
import Derived.Deep.CutBlock
import Derived.Ground.NamesProg
import Derived.Shelf.Sort.Plain
import Derived.Shelf.Slices.In.SortNone
import Derived.Shelf.Strings.OnBuilder
import Derived.Shelf.SlIter.Nil
import Derived.Shelf.SortM.Plain
import Derived.Shelf.SortM.SortNone
import Derived.Ground.GgzProg
import Derived.Ground.SlgmProg
import Derived.Test.YtgfgggeeoeppjaaGreatDoorProg
import Derived.Sort.OwnSorted
import Derived.Shelf.Slices.CompactS
import Derived.Lib.SlicesCompact
import Derived.Laws.AppendOwnNone
set_option linter.unusedVariables false
set_option linter.unusedSimpArgs false
set_option maxRecDepth 100000
/- FamilyOf, ChildrenOf, DepthOf of the reference. -/
namespace Go.Proofs.YtgfgggeeoeppjaaGreatDoor
open Go.RowKit
def PlcSlPost (w : World) (ys : List Str) (e : Ending) (w' : World) : Prop := ∃ (A : Option Addr) (n c : Nat), e = .returned (.slice A n c) ∧ Sl w' 9 1 (.slice A n c) (strsV ys) ∧ Pure w w'
def RcRel (w : World) (base : Nat) (l : List Itm) (id : Str) (gk : Nat) (x i : Value) (wr : World) : Prop :=
 ∃ (k : Nat) (out : List Str) (A : Option Addr) (cap : Nat), l.length - k = gk ∧ k ≤ l.length ∧ x = .slice A out.length cap ∧ i = .int .i64 (k : Int) ∧ out = kidsS (l.take k) id ∧ out.length ≤ k ∧ wr.ownsRow base 9 1 (.slice A out.length cap) out.length (strsV out) ∧ Pure w wr ∧ base ≤ wr.heap.size
set_option maxHeartbeats 8000000 in
theorem childrenOf_calls (w : World) (v : Value) (l : List Itm) (id : Str) (hv : Its w v l) (hl : l.length ≤ 2000) (hid : id ≠ []) : Calls Tryz.prog 138 #[v, .string ⟨id.toArray⟩] w (PlcSlPost w (kidsS l id)) := by
 obtain ⟨i0, hi0, hz0, hz1, hz2⟩ := info_parts info_str7;obtain ⟨A, n, c, rfl, hc1, hc2, hl2, hr⟩ := hv
 have hln : l.length = n := by rw [itV_len] at hl2; omega
 subst hln;have HR := Lib.hid hr;have HID := Lib.hid hid;obtain ⟨base, hba⟩ : ∃ base, base = w.heap.size := ⟨_, rfl⟩;have hb1 := Nat.le_of_eq hba;have hb2 := Nat.le_of_eq hba.symm;clear hl2 hr hid hba
 go_enter Tryz.func138, Tryz.ntmps138
 go_wp2_with fail
 go_loopg [5, 10] l.length (fun gk x i wr => RcRel w base l id gk x i wr)
 case atStart => exact ⟨0, [], none, 0, by omega, by omega, rfl, rfl, by simp [kidsS], by simp, ⟨rfl, .inl ⟨rfl, rfl⟩⟩, Mod.refl _ _, hb1⟩
 case round =>
  obtain ⟨k, out, Ao, cap, rfl, hk, rfl, rfl, hout, hol, hown, hm, hsz⟩ := hrel
  by_cases hlt : k < l.length
  ·obtain ⟨g, off, rfl, hrow⟩ := HR.out (by omega);obtain ⟨q0, q1, q2, q3, q4, q5, q6⟩ := item_cells (hrow.mod hm _root_.id) hlt;have HKT := Lib.hid (kidsS_take hlt id);have hownA := hown.alloc (.cells (itQ l[k]) 79);have hmA := hm.alloc (.cells (itQ l[k]) 79);have HOUT := Lib.hid hout;have hob := own_block hown;have HOB := Lib.hid hob;have HOA := Lib.hid hownA;have HMA := Lib.hid hmA;clear hrow hown hm hout hob;generalize l[k] = x at *;unfold itQ at hownA hmA HOA HMA;obtain ⟨bd, hbd⟩ : ∃ bd, (x.par == id) = bd := ⟨_, rfl⟩;have HBD : Hid (x.par = id ↔ bd = true) := Lib.hid (by rw [← hbd]; simp)
   cases bd
   ·have HN : Hid (kidsS (l.take (k + 1)) id = out) := Lib.hid (by
     rw [HKT.out, if_neg HID.out, if_neg (fun h => by have := HBD.out.1 h; cases this), HOUT.out])
    clear hownA hmA HKT HBD
    go_wp2_with fail
    go_roundg (l.length - (k + 1))
    case measure => omega
    case rel => exact ⟨k + 1, out, Ao, cap, rfl, by omega, rfl, by simp, HN.out.symm, by omega, HOA.out, HMA.out, by simp; omega⟩
   ·have HN : Hid (kidsS (l.take (k + 1)) id = out ++ [x.id]) := Lib.hid (by
     rw [HKT.out, if_neg HID.out, if_pos (HBD.out.2 rfl), HOUT.out])
    have hszA : base ≤ (wr.alloc (.cells #[.string ⟨x.id.toArray⟩, .string ⟨x.cust.toArray⟩, .int .i64 x.kind, .string ⟨x.name.toArray⟩, .int .i64 x.tm, .string ⟨x.par.toArray⟩, .string ⟨x.text.toArray⟩] 79)).heap.size := by simp; omega
    clear HKT HBD
    go_upto_region 6 with (fail)
    have hBX := Blk.new wr 79 #[.string ⟨x.id.toArray⟩, .string ⟨x.cust.toArray⟩, .int .i64 x.kind, .string ⟨x.name.toArray⟩, .int .i64 x.tm, .string ⟨x.par.toArray⟩, .string ⟨x.text.toArray⟩];generalize (wr.alloc (.cells #[.string ⟨x.id.toArray⟩, .string ⟨x.cust.toArray⟩, .int .i64 x.kind, .string ⟨x.name.toArray⟩, .int .i64 x.tm, .string ⟨x.par.toArray⟩, .string ⟨x.text.toArray⟩] 79)) = WA at *;generalize wr.heap.size = gx at *;have c0 := hBX.cell 0; have c1 := hBX.cell 1; have c2 := hBX.cell 2; have c3 := hBX.cell 3; have c4 := hBX.cell 4; have c5 := hBX.cell 5; have c6 := hBX.cell 6; simp at c0 c1 c2 c3 c4 c5 c6;clear hBX
    go_wp2_with (at_builtin; refine wpList_append_lies _ rfl _ _ _ rfl base 9 i0 _ 1 16 Tryz.underlying29 hi0 hz0 hz1 hz2 rfl (by omega) (.slice Ao out.length cap) out.length (strsV out) rfl (hownA.alloc _) ⟨WA.heap.size, 0, none⟩ 1 1 [.string ⟨x.id.toArray⟩] rfl rfl (World.news_of_block (cs := #[.string ⟨x.id.toArray⟩]) (t := 9) (fr := (0, 0)) (heap_alloc_new WA _)) (by simp [Value.oneCell']) (by omega) (by simp [maxLen]; omega) (by omega) (by have := hmA.size; simp; omega) (WA.heap.size + 1) (by simp) ?_; intro g5 cap5 w5 hown5 hgrow hat hlt5)
    have hz5 := hgrow.size;simp at hz5;have hm5 := grown_mod (v := .slice Ao out.length cap) hgrow
    go_roundg (l.length - (k + 1))
    case measure => omega
    case rel =>
     refine ⟨k + 1, out ++ [x.id], some ⟨g5, 0, none⟩, cap5, rfl, by omega, by simp, by simp, HN.out.symm, by simp; omega, by have := hown5; simpa [strsV] using this, (HMA.out.alloc _).trans' hm5 (fun i h hl => by have := HOB.out _ h; omega), by omega⟩
  ·obtain rfl : k = l.length := by omega
   rw [List.take_length] at hout;have HOUT := Lib.hid hout;have HOW := Lib.hid (Sl.of_own hown);have HM2 := Lib.hid hm;clear hown hout hm
   go_wp2_with fail
   go_ret;exact ⟨_, _, _, rfl, by rw [← HOUT.out]; exact HOW.out, HM2.out⟩
end Go.Proofs.YtgfgggeeoeppjaaGreatDoor
/-
 DERIVED: THE SHELF's CONTRACTS AT THIS DUMP, IN PLAIN WORDS (tools/lay-plain.mjs out of 'YtgfgggeeoeppjaaGreatDoorLaySum.lean', which tools/lay-shelf.mjs wrote): THE SAME DECLARATIONS UNDER THE SAME NAMES: 'import', 'namespace', 'open', 'def', 'theorem' AND NOTHING ELSE: no command of the shelf's: FOR A HAND-IN. Each laying: the table of numbers ('.._ren') and one theorem, a field a fact of the dump's own or the kernel's comparison; each contract: ONE APPLICATION.
-/
namespace Go.Proofs
open Go.Shelf
def Tryz.lays190_ren : Go.Shelf.Ren := ⟨fun | 190 => 126 | 125 => 166 | 258 => 172 | 128 => 204 | 129 => 205 | 302 => 216 | 303 => 217 | 304 => 218 | 305 => 219 | 306 => 220 | 307 => 221 | 308 => 222 | 309 => 223 | 310 => 224 | 333 => 254 | 329 => 247 | 330 => 248 | 334 => 255 | 335 => 256 | 336 => 206 | 344 => 272 | n => n, fun | 31 => 29 | 9 => 9 | 3 => 3 | 46 => 210 | 0 => 0 | 51 => 231 | 53 => 197 | 4 => 4 | 183 => 240 | 182 => 239 | 131 => 155 | 5 => 5 | 218 => 283 | 222 => 287 | 228 => 310 | 229 => 311 | n => n, fun | n => n⟩
theorem Tryz.lays190 : Go.Proofs.Lays.n190 Tryz.prog Tryz.lays190_ren := {
 mixed := by kernel_rfl
 f125 := Tryz.func166.trans (congrArg some (by kernel_rfl))
 f128 := Tryz.func204.trans (congrArg some (by kernel_rfl))
 f129 := Tryz.func205.trans (congrArg some (by kernel_rfl))
 f190 := Tryz.func126.trans (congrArg some (by kernel_rfl))
 f258 := Tryz.func172.trans (congrArg some (by kernel_rfl))
 f302 := Tryz.func216.trans (congrArg some (by kernel_rfl))
 f303 := Tryz.func217.trans (congrArg some (by kernel_rfl))
 f304 := Tryz.func218.trans (congrArg some (by kernel_rfl))
 f305 := Tryz.func219.trans (congrArg some (by kernel_rfl))
 f306 := Tryz.func220.trans (congrArg some (by kernel_rfl))
 f307 := Tryz.func221.trans (congrArg some (by kernel_rfl))
 f308 := Tryz.func222.trans (congrArg some (by kernel_rfl))
 f309 := Tryz.func223.trans (congrArg some (by kernel_rfl))
 f310 := Tryz.func224.trans (congrArg some (by kernel_rfl))
 f329 := Tryz.func247.trans (congrArg some (by kernel_rfl))
 f330 := Tryz.func248.trans (congrArg some (by kernel_rfl))
 f333 := Tryz.func254.trans (congrArg some (by kernel_rfl))
 f334 := Tryz.func255.trans (congrArg some (by kernel_rfl))
 f335 := Tryz.func256.trans (congrArg some (by kernel_rfl))
 f336 := Tryz.func206.trans (congrArg some (by kernel_rfl))
 f344 := Tryz.func272.trans (congrArg some (by kernel_rfl))
 t0 := Tryz.underlying0
 a0 := Tryz.isAgg0
 z0 := Tryz.sizeOf0
 v0 := Tryz.zeroValue0
 t3 := Tryz.underlying3
 a3 := Tryz.isAgg3
 z3 := Tryz.sizeOf3
 v3 := Tryz.zeroValue3
 t4 := Tryz.underlying4
 a4 := Tryz.isAgg4
 z4 := Tryz.sizeOf4
 v4 := Tryz.zeroValue4
 t5 := Tryz.underlying5
 a5 := Tryz.isAgg5
 z5 := Tryz.sizeOf5
 v5 := Tryz.zeroValue5
 t9 := Tryz.underlying9
 a9 := Tryz.isAgg9
 z9 := Tryz.sizeOf9
 v9 := Tryz.zeroValue9
 t31 := Tryz.underlying29
 a31 := Tryz.isAgg29
 z31 := Tryz.sizeOf29
 v31 := Tryz.zeroValue29
 t46 := Tryz.underlying210
 a46 := Tryz.isAgg210
 z46 := Tryz.sizeOf210
 v46 := Tryz.zeroValue210
 t51 := Tryz.underlying231
 a51 := Tryz.isAgg231
 z51 := Tryz.sizeOf231
 v51 := Tryz.zeroValue231
 t53 := Tryz.underlying197
 a53 := Tryz.isAgg197
 z53 := Tryz.sizeOf197
 v53 := Tryz.zeroValue197
 t131 := Tryz.underlying155
 a131 := Tryz.isAgg155
 z131 := Tryz.sizeOf155
 v131 := Tryz.zeroValue155
 t182 := Tryz.underlying239
 a182 := Tryz.isAgg239
 z182 := Tryz.sizeOf239
 v182 := Tryz.zeroValue239
 t183 := Tryz.underlying240
 a183 := Tryz.isAgg240
 z183 := Tryz.sizeOf240
 v183 := Tryz.zeroValue240
 t218 := Tryz.underlying283
 a218 := Tryz.isAgg283
 z218 := Tryz.sizeOf283
 v218 := Tryz.zeroValue283
 t222 := Tryz.underlying287
 a222 := Tryz.isAgg287
 z222 := Tryz.sizeOf287
 v222 := Tryz.zeroValue287
 t228 := Tryz.underlying310
 a228 := Tryz.isAgg310
 z228 := Tryz.sizeOf310
 v228 := Tryz.zeroValue310
 t229 := Tryz.underlying311
 a229 := Tryz.isAgg311
 z229 := Tryz.sizeOf311
 v229 := Tryz.zeroValue311 }
def Tryz.lays156_ren : Go.Shelf.Ren := ⟨fun | 156 => 85 | 165 => 146 | 166 => 84 | 169 => 87 | 240 => 145 | 241 => 182 | 276 => 181 | 277 => 233 | n => n, fun | 31 => 29 | 9 => 9 | 3 => 3 | 4 => 4 | 0 => 0 | 20 => 20 | 72 => 137 | 76 => 142 | 70 => 134 | 37 => 135 | 75 => 141 | 127 => 203 | 164 => 224 | 5 => 5 | 80 => 146 | n => n, fun | n => n⟩
theorem Tryz.lays156 : Go.Proofs.Lays.n156 Tryz.prog Tryz.lays156_ren := {
 mixed := by kernel_rfl
 f156 := Tryz.func85.trans (congrArg some (by kernel_rfl))
 f165 := Tryz.func146.trans (congrArg some (by kernel_rfl))
 f166 := Tryz.func84.trans (congrArg some (by kernel_rfl))
 f169 := Tryz.func87.trans (congrArg some (by kernel_rfl))
 f240 := Tryz.func145.trans (congrArg some (by kernel_rfl))
 f241 := Tryz.func182.trans (congrArg some (by kernel_rfl))
 f276 := Tryz.func181.trans (congrArg some (by kernel_rfl))
 f277 := Tryz.func233.trans (congrArg some (by kernel_rfl))
 t0 := Tryz.underlying0
 a0 := Tryz.isAgg0
 z0 := Tryz.sizeOf0
 v0 := Tryz.zeroValue0
 t3 := Tryz.underlying3
 a3 := Tryz.isAgg3
 z3 := Tryz.sizeOf3
 v3 := Tryz.zeroValue3
 t4 := Tryz.underlying4
 a4 := Tryz.isAgg4
 z4 := Tryz.sizeOf4
 v4 := Tryz.zeroValue4
 t9 := Tryz.underlying9
 a9 := Tryz.isAgg9
 z9 := Tryz.sizeOf9
 v9 := Tryz.zeroValue9
 t20 := Tryz.underlying20
 a20 := Tryz.isAgg20
 z20 := Tryz.sizeOf20
 v20 := Tryz.zeroValue20
 t31 := Tryz.underlying29
 a31 := Tryz.isAgg29
 z31 := Tryz.sizeOf29
 v31 := Tryz.zeroValue29
 t37 := Tryz.underlying135
 a37 := Tryz.isAgg135
 z37 := Tryz.sizeOf135
 v37 := Tryz.zeroValue135
 t70 := Tryz.underlying134
 a70 := Tryz.isAgg134
 z70 := Tryz.sizeOf134
 v70 := Tryz.zeroValue134
 t72 := Tryz.underlying137
 a72 := Tryz.isAgg137
 z72 := Tryz.sizeOf137
 v72 := Tryz.zeroValue137
 t75 := Tryz.underlying141
 a75 := Tryz.isAgg141
 z75 := Tryz.sizeOf141
 v75 := Tryz.zeroValue141
 t76 := Tryz.underlying142
 a76 := Tryz.isAgg142
 z76 := Tryz.sizeOf142
 v76 := Tryz.zeroValue142
 t127 := Tryz.underlying203
 a127 := Tryz.isAgg203
 z127 := Tryz.sizeOf203
 v127 := Tryz.zeroValue203
 t164 := Tryz.underlying224
 a164 := Tryz.isAgg224
 z164 := Tryz.sizeOf224
 v164 := Tryz.zeroValue224 }
end Go.Proofs
/- Sorting, Compact, Join, the sorted keys of a map (the shelf's contracts in my words). -/
namespace Go.Proofs.YtgfgggeeoeppjaaGreatDoor
open Go.RowKit Go.Sort
def SameRow2 (w : World) (base : Nat) (v : Value) (ss : List Str) (e : Ending) (w' : World) : Prop :=
 e = .returned (.tuple #[]) ∧ w'.ownsRow base 9 1 v ss.length (strsV ss) ∧ Mod (fun k => v.ownBlock = some k) w w'
theorem grown_mod2 {w w' : World} {row : Option Nat} (h : w.grownBy w' row) : Mod (fun k => row = some k) w w' :=
 ⟨h.os, h.tape, h.output, h.size, fun k hk hs => h.block k hk (fun x => hs x.symm)⟩
theorem sortS_calls2 (w : World) (v : Value) (n base : Nat) (ss : List Str) (hown : w.ownsRow base 9 1 v n (strsV ss)) (hl : ss.length ≤ 1000000) :
  Calls Tryz.prog 126 #[v] w (SameRow2 w base v (ss.mergeSort fun x y => decide (x ≤ y))) := by
 have hn : n = ss.length := by have := hown.1; simp [strsV] at this; omega
 subst hn
 rcases hown.2 with ⟨rfl, h0⟩ | ⟨g, cap, cur, rfl, hbase, hb, h1, h2, h3, h4⟩
 ·have e : ss = [] := List.eq_nil_of_length_eq_zero h0;subst e;refine (Any.slices_Sort_string_none Tryz.lays190 none 0 w).mono ?_;rintro e w' ⟨rfl, rfl⟩;exact ⟨rfl, by simpa using hown, Mod.refl _ _⟩
 ·refine (Any.slices_Sort_string Tryz.lays190 g 0 cap ss w (holds_of_block hb (by simpa [strsV] using h4)) (lt_of_heap hb) (by omega)).mono ?_;rintro e w' ⟨rfl, nn, os, rfl⟩;refine ⟨rfl, ?_, grown_mod2 (grownBy_sorted _)⟩;have := ownsRow_sorted (n := nn) (os := os) (ts := ss.mergeSort fun x y => decide (x ≤ y)) (ss := ss) (by simp) hbase hb h1 h2 h3
  simpa [strsV] using this
end Go.Proofs.YtgfgggeeoeppjaaGreatDoor
namespace Go.Proofs.YtgfgggeeoeppjaaGreatDoor
open Go.RowKit
end Go.Proofs.YtgfgggeeoeppjaaGreatDoor
namespace Go.Proofs.YtgfgggeeoeppjaaGreatDoor
open Go.RowKit
end Go.Proofs.YtgfgggeeoeppjaaGreatDoor
namespace Go.Proofs.YtgfgggeeoeppjaaGreatDoor
open Go.RowKit Go.Maps Go.Sort Go.Shelf
end Go.Proofs.YtgfgggeeoeppjaaGreatDoor
/- Sums of items. -/
namespace Go.Proofs.YtgfgggeeoeppjaaGreatDoor
open Go.RowKit
def sumS (x : Itm) : Str := digS (kwS x.kind ++ [10] ++ x.text)
theorem StrPost1.of {w w' : World} {l m : Str} (h : l = m) (hm : Pure w w') : StrPost1 w l (.returned (.string ⟨m.toArray⟩)) w' := ⟨by rw [h], hm⟩
set_option maxHeartbeats 2000000 in
theorem sum_calls (w : World) (x : Itm) (hz : ItB x) (hD : Deb w) : Calls Tryz.prog 127 #[itA x] w (StrPost1 w (sumS x)) := by
 obtain ⟨id, cust, kind, name, tm, par, text⟩ := x;have hz5 : text.length ≤ 30000 := hz.2.2.2.2;have HT5 := Lib.hid hz5;have hkl := kwS_len kind;have HS : Hid (sumS ⟨id, cust, kind, name, tm, par, text⟩ = digS (kwS kind ++ [10] ++ text)) := Lib.hid rfl;have HKW := Lib.hid (fun W => kindWord_calls kind W);have a1 := bytes_app (kwS kind) [10];have a2 := bytes_app (kwS kind ++ [10]) text;generalize kwS kind = kw at *
 have hs1 : (⟨(kw ++ [10]).toArray⟩ : ByteArray).size ≤ 5 := by simp [ByteArray.size]; omega
 have hs0 : (⟨kw.toArray⟩ : ByteArray).size ≤ 4 := by simp [ByteArray.size]; omega
 have hs2 : (⟨(kw ++ [10] ++ text).toArray⟩ : ByteArray).size ≤ 40000 := by simp [ByteArray.size]; omega
 have ht : (⟨text.toArray⟩ : ByteArray).size ≤ 30000 := by simpa [ByteArray.size] using hz5
 have HDG := Lib.hid (fun W (h : Pure w W) => Digest_calls W ⟨(kw ++ [10] ++ text).toArray⟩ (by omega) (hD.pure h));have hdl : (⟨(kw ++ [10] ++ text).toArray⟩ : ByteArray).data.toList = kw ++ [10] ++ text := rfl;rw [hdl] at HDG;have HB0 := Lib.hid (Blk.new w 79 (itQ ⟨id, cust, kind, name, tm, par, text⟩));have Hm0 := Lib.hid (pure_alloc w (.cells (itQ ⟨id, cust, kind, name, tm, par, text⟩) 79));unfold itQ at HB0 Hm0;simp only at HB0 Hm0;clear hz hz5 hkl hD hdl;generalize digS (kw ++ [10] ++ text) = dg at *;rw [← a2, ← a1] at HDG
 have hs01 : ((⟨kw.toArray⟩ : ByteArray) ++ ⟨#[10]⟩).size ≤ 5 := by
  have := congrArg ByteArray.size a1;rw [show (⟨#[10]⟩ : ByteArray) = ⟨[10].toArray⟩ from rfl, this];exact hs1
 clear a1 a2 hs1 hs2;obtain ⟨z0, h_z0⟩ : ∃ z0 : ByteArray, ⟨kw.toArray⟩ = z0 := ⟨_, rfl⟩;rw [h_z0] at hs0 HKW hs01 HDG;clear h_z0;have HS01 := Lib.hid hs01;unfold itA;simp only
 go_enter Tryz.func127, Tryz.ntmps127
 go_wp2_with fail
 generalize (w.alloc (.cells #[.string ⟨id.toArray⟩, .string ⟨cust.toArray⟩, .int .i64 kind, .string ⟨name.toArray⟩, .int .i64 tm, .string ⟨par.toArray⟩, .string ⟨text.toArray⟩] 79)) = W at *;generalize w.heap.size = gs at *;have HGs := Lib.hid (show ∀ (D : Nat → Bool) (zzi : Nat) (zq zq' : World), (fun _ zq => (fun Z => Blk Z gs 79 #[.string ⟨id.toArray⟩, .string ⟨cust.toArray⟩, .int .i64 kind, .string ⟨name.toArray⟩, .int .i64 tm, .string ⟨par.toArray⟩, .string ⟨text.toArray⟩]) zq) D zq → Mod (fun _ => False) zq zq' → (fun _ zq => (fun Z => Blk Z gs 79 #[.string ⟨id.toArray⟩, .string ⟨cust.toArray⟩, .int .i64 kind, .string ⟨name.toArray⟩, .int .i64 tm, .string ⟨par.toArray⟩, .string ⟨text.toArray⟩]) zq) (upd D zzi true) zq' from by intro D zzi zq zq' h hm; (exact h.modp hm))
 refine wp_region_inv (by kernel_rfl) (by kernel_rfl) (InvF (R := Mod (fun _ => False)) [.is (.pointer (some ⟨gs, 2, none⟩)),
   .is (.int .i64 kind),
   .is (.string z0),
   .is (.string (z0 ++ (⟨#[10]⟩ : ByteArray))),
   .is (.pointer (some ⟨gs, 6, none⟩)),
   .is (.string ⟨text.toArray⟩),
   .is (.string (z0 ++ (⟨#[10]⟩ : ByteArray) ++ (⟨text.toArray⟩ : ByteArray))),
   .is (.string ⟨dg.toArray⟩),
   .is (.string ⟨dg.toArray⟩)]
   (PB w (fun _ => False) W.heap.size (fun _ zq => (fun Z => Blk Z gs 79 #[.string ⟨id.toArray⟩, .string ⟨cust.toArray⟩, .int .i64 kind, .string ⟨name.toArray⟩, .int .i64 tm, .string ⟨par.toArray⟩, .string ⟨text.toArray⟩]) zq))) (InvF.start (PB.start Hm0.out (Nat.le_refl _) (HB0.out.drew))) ?_ ?_
 ·refine .cons ?_ (.cons ?_ (.cons ?_ (.cons ?_ (.cons ?_ (.cons ?_ (.cons ?_ (.cons ?_ (.cons ?_ .nil))))))))
  ·intro D V zw1 a hR hI K hK;obtain ⟨hM1, hB1, hG1⟩ := hI.1;have ze1 := hR.frame.other (t := 1) (by kernel_rfl) rfl;rw [if_pos (by rfl)];go_simp;exact hK (.pointer (some ⟨gs, 2, none⟩)) _ (hI.next hR (by kernel_rfl) (Mod.refl _ _) (PB.quiet hI.1 (Mod.refl _ _) (HGs.out D 0 zw1 zw1 (hI.1).g (Mod.refl _ _))) (upd_same V 0 _))
  ·intro D V zw1 a hR hI K hK;obtain ⟨hM1, hB1, hG1⟩ := hI.1;have zd0 := hR.pred 0 (by kernel_rfl);have zf0 : V 0 = .pointer (some ⟨gs, 2, none⟩) := hI.2 0 zd0 rfl;have ze3 := hR.frame.done (t := 3) (j := 0) (by kernel_rfl) hR.ok zd0;have zx0 := hG1.cell 0; have zx1 := hG1.cell 1; have zx2 := hG1.cell 2; have zx3 := hG1.cell 3; have zx4 := hG1.cell 4; have zx5 := hG1.cell 5; have zx6 := hG1.cell 6;simp at zx0 zx1 zx2 zx3 zx4 zx5 zx6;rw [if_pos (by rfl)];go_simp;exact hK (.int .i64 kind) _ (hI.next hR (by kernel_rfl) (Mod.refl _ _) (PB.quiet hI.1 (Mod.refl _ _) (HGs.out D 1 zw1 zw1 (hI.1).g (Mod.refl _ _))) (upd_same V 1 _))
  ·intro D V zw1 a hR hI K hK;obtain ⟨hM1, hB1, hG1⟩ := hI.1;have zd1 := hR.pred 1 (by kernel_rfl);have zf1 : V 1 = .int .i64 kind := hI.2 1 zd1 rfl;have ze4 := hR.frame.done (t := 4) (j := 1) (by kernel_rfl) hR.ok zd1;rw [if_pos (by rfl)];go_simp;refine (HKW.out _).mono ?_;rintro e zw2 ⟨rfl, rfl⟩;have hm2 : Pure zw1 zw1 := Mod.refl _ _;exact hK (.string z0) _ (hI.next hR (by kernel_rfl) hm2 (PB.quiet hI.1 hm2 (HGs.out D 2 _ _ (hI.1).g hm2)) (upd_same V 2 _))
  ·intro D V zw1 a hR hI K hK;obtain ⟨hM1, hB1, hG1⟩ := hI.1;have zd2 := hR.pred 2 (by kernel_rfl);have zf2 : V 2 = .string z0 := hI.2 2 zd2 rfl;have ze5 := hR.frame.done (t := 5) (j := 2) (by kernel_rfl) hR.ok zd2
   have hb1 : ¬ (9223372036854775807 < z0.size + 1) := by omega
   rw [if_pos (by rfl)];go_simp;exact hK (.string (z0 ++ (⟨#[10]⟩ : ByteArray))) _ (hI.next hR (by kernel_rfl) (Mod.refl _ _) (PB.quiet hI.1 (Mod.refl _ _) (HGs.out D 3 zw1 zw1 (hI.1).g (Mod.refl _ _))) (upd_same V 3 _))
  ·intro D V zw1 a hR hI K hK;obtain ⟨hM1, hB1, hG1⟩ := hI.1;have ze1 := hR.frame.other (t := 1) (by kernel_rfl) rfl;rw [if_pos (by rfl)];go_simp;exact hK (.pointer (some ⟨gs, 6, none⟩)) _ (hI.next hR (by kernel_rfl) (Mod.refl _ _) (PB.quiet hI.1 (Mod.refl _ _) (HGs.out D 4 zw1 zw1 (hI.1).g (Mod.refl _ _))) (upd_same V 4 _))
  ·intro D V zw1 a hR hI K hK;obtain ⟨hM1, hB1, hG1⟩ := hI.1;have zd4 := hR.pred 4 (by kernel_rfl);have zf4 : V 4 = .pointer (some ⟨gs, 6, none⟩) := hI.2 4 zd4 rfl;have ze7 := hR.frame.done (t := 7) (j := 4) (by kernel_rfl) hR.ok zd4;have zx0 := hG1.cell 0; have zx1 := hG1.cell 1; have zx2 := hG1.cell 2; have zx3 := hG1.cell 3; have zx4 := hG1.cell 4; have zx5 := hG1.cell 5; have zx6 := hG1.cell 6;simp at zx0 zx1 zx2 zx3 zx4 zx5 zx6;rw [if_pos (by rfl)];go_simp;exact hK (.string ⟨text.toArray⟩) _ (hI.next hR (by kernel_rfl) (Mod.refl _ _) (PB.quiet hI.1 (Mod.refl _ _) (HGs.out D 5 zw1 zw1 (hI.1).g (Mod.refl _ _))) (upd_same V 5 _))
  ·intro D V zw1 a hR hI K hK;obtain ⟨hM1, hB1, hG1⟩ := hI.1;have zd3 := hR.pred 3 (by kernel_rfl);have zf3 : V 3 = .string (z0 ++ (⟨#[10]⟩ : ByteArray)) := hI.2 3 zd3 rfl;have zd5 := hR.pred 5 (by kernel_rfl);have zf5 : V 5 = .string ⟨text.toArray⟩ := hI.2 5 zd5 rfl;have ze6 := hR.frame.done (t := 6) (j := 3) (by kernel_rfl) hR.ok zd3;have ze8 := hR.frame.done (t := 8) (j := 5) (by kernel_rfl) hR.ok zd5
   have hb1 : ¬ (9223372036854775807 < z0.size + 1 + text.length) := by have := HT5.out; omega
   rw [if_pos (by rfl)];go_simp;exact hK (.string (z0 ++ (⟨#[10]⟩ : ByteArray) ++ (⟨text.toArray⟩ : ByteArray))) _ (hI.next hR (by kernel_rfl) (Mod.refl _ _) (PB.quiet hI.1 (Mod.refl _ _) (HGs.out D 6 zw1 zw1 (hI.1).g (Mod.refl _ _))) (upd_same V 6 _))
  ·intro D V zw1 a hR hI K hK;obtain ⟨hM1, hB1, hG1⟩ := hI.1;have zd6 := hR.pred 6 (by kernel_rfl);have zf6 : V 6 = .string (z0 ++ (⟨#[10]⟩ : ByteArray) ++ (⟨text.toArray⟩ : ByteArray)) := hI.2 6 zd6 rfl;have ze9 := hR.frame.done (t := 9) (j := 6) (by kernel_rfl) hR.ok zd6;rw [if_pos (by rfl)];go_simp;refine (HDG.out _ hM1).mono ?_;rintro e zw2 ⟨rfl, hm2⟩;exact hK (.string ⟨dg.toArray⟩) _ (hI.next hR (by kernel_rfl) hm2 (PB.quiet hI.1 hm2 (HGs.out D 7 _ _ (hI.1).g hm2)) (upd_same V 7 _))
  ·intro D V zw1 a hR hI K hK;obtain ⟨hM1, hB1, hG1⟩ := hI.1;have zd7 := hR.pred 7 (by kernel_rfl);have zf7 : V 7 = .string ⟨dg.toArray⟩ := hI.2 7 zd7 rfl;have ze10 := hR.frame.done (t := 10) (j := 7) (by kernel_rfl) hR.ok zd7;rw [if_pos (by rfl)];go_simp;exact hK (.string ⟨dg.toArray⟩) _ (hI.next hR (by kernel_rfl) (Mod.refl _ _) (PB.quiet hI.1 (Mod.refl _ _) (HGs.out D 8 zw1 zw1 (hI.1).g (Mod.refl _ _))) (upd_same V 8 _))
 ·intro D V w1 hD hI;obtain ⟨hM1, hB1, hG1⟩ := hI.1;have hMx := hM1;clear hM1;have hBx := hB1;clear hB1;have hGx := hG1;clear hG1;have zf0 : V 0 = .pointer (some ⟨gs, 2, none⟩) := hI.2 0 (hD 0 (by decide)) rfl;have zf1 : V 1 = .int .i64 kind := hI.2 1 (hD 1 (by decide)) rfl;have zf2 : V 2 = .string z0 := hI.2 2 (hD 2 (by decide)) rfl;have zf3 : V 3 = .string (z0 ++ (⟨#[10]⟩ : ByteArray)) := hI.2 3 (hD 3 (by decide)) rfl;have zf4 : V 4 = .pointer (some ⟨gs, 6, none⟩) := hI.2 4 (hD 4 (by decide)) rfl;have zf5 : V 5 = .string ⟨text.toArray⟩ := hI.2 5 (hD 5 (by decide)) rfl;have zf6 : V 6 = .string (z0 ++ (⟨#[10]⟩ : ByteArray) ++ (⟨text.toArray⟩ : ByteArray)) := hI.2 6 (hD 6 (by decide)) rfl;have zf7 : V 7 = .string ⟨dg.toArray⟩ := hI.2 7 (hD 7 (by decide)) rfl;have zf8 : V 8 = .string ⟨dg.toArray⟩ := hI.2 8 (hD 8 (by decide)) rfl;clear hI hD HGs;simp only [frAll, Act.put, List.setIfInBounds_toArray, List.set_cons_zero, List.set_cons_succ, Nat.zero_add, Nat.reduceAdd, zf0, zf1, zf2, zf3, zf4, zf5, zf6, zf7, zf8];clear zf0 zf1 zf2 zf3 zf4 zf5 zf6 zf7 zf8;clear V D
  go_wp2_with fail
  go_ret;exact StrPost1.of HS.out hMx
set_option maxHeartbeats 400000 in
theorem KindWord_calls (n : Int) (w : World) (h1 : 1 ≤ n) (h4 : n ≤ 4) : Calls Tryz.prog 88 #[.int .i64 n] w (fun e w' => e = .returned (.string ⟨(kwS n).toArray⟩) ∧ w = w') := by
 rcases (show n = 1 ∨ n = 2 ∨ n = 3 ∨ n = 4 by omega) with rfl | rfl | rfl | rfl
 ·have hrun : (Instr.index 204 (.agg #[.string ⟨#[]⟩, .string ⟨#[109, 97, 105, 108]⟩, .string ⟨#[102, 105, 108, 101]⟩, .string ⟨#[98, 111, 120]⟩, .string ⟨#[110, 111, 116, 101]⟩]) (.int .i64 1)).run Tryz.prog w = .ok (.string ⟨#[109, 97, 105, 108]⟩) w := by kernel_rfl
  go_enter Tryz.func88, Tryz.ntmps88
  go_wp2_with fail
  go_ret;exact ⟨rfl, rfl⟩
 ·have hrun : (Instr.index 204 (.agg #[.string ⟨#[]⟩, .string ⟨#[109, 97, 105, 108]⟩, .string ⟨#[102, 105, 108, 101]⟩, .string ⟨#[98, 111, 120]⟩, .string ⟨#[110, 111, 116, 101]⟩]) (.int .i64 2)).run Tryz.prog w = .ok (.string ⟨#[102, 105, 108, 101]⟩) w := by kernel_rfl
  go_enter Tryz.func88, Tryz.ntmps88
  go_wp2_with fail
  go_ret;exact ⟨rfl, rfl⟩
 ·have hrun : (Instr.index 204 (.agg #[.string ⟨#[]⟩, .string ⟨#[109, 97, 105, 108]⟩, .string ⟨#[102, 105, 108, 101]⟩, .string ⟨#[98, 111, 120]⟩, .string ⟨#[110, 111, 116, 101]⟩]) (.int .i64 3)).run Tryz.prog w = .ok (.string ⟨#[98, 111, 120]⟩) w := by kernel_rfl
  go_enter Tryz.func88, Tryz.ntmps88
  go_wp2_with fail
  go_ret;exact ⟨rfl, rfl⟩
 ·have hrun : (Instr.index 204 (.agg #[.string ⟨#[]⟩, .string ⟨#[109, 97, 105, 108]⟩, .string ⟨#[102, 105, 108, 101]⟩, .string ⟨#[98, 111, 120]⟩, .string ⟨#[110, 111, 116, 101]⟩]) (.int .i64 4)).run Tryz.prog w = .ok (.string ⟨#[110, 111, 116, 101]⟩) w := by kernel_rfl
  go_enter Tryz.func88, Tryz.ntmps88
  go_wp2_with fail
  go_ret;exact ⟨rfl, rfl⟩
set_option maxHeartbeats 2000000 in
theorem SumOf_calls (w : World) (x : Itm) (hz : ItB x) (h1 : 1 ≤ x.kind) (h4 : x.kind ≤ 4) : Calls Tryz.prog 140 #[itA x] w (StrPost1 w (sumS x)) := by
 obtain ⟨id, cust, kind, name, tm, par, text⟩ := x;have hz5 : text.length ≤ 30000 := hz.2.2.2.2;have HT5 := Lib.hid hz5;have hkl := kwS_len kind;have HS : Hid (sumS ⟨id, cust, kind, name, tm, par, text⟩ = digS (kwS kind ++ [10] ++ text)) := Lib.hid rfl;have HKW := Lib.hid (fun W => KindWord_calls kind W h1 h4);have a1 := bytes_app (kwS kind) [10];have a2 := bytes_app (kwS kind ++ [10]) text;generalize kwS kind = kw at *
 have hs1 : (⟨(kw ++ [10]).toArray⟩ : ByteArray).size ≤ 5 := by simp [ByteArray.size]; omega
 have hs0 : (⟨kw.toArray⟩ : ByteArray).size ≤ 4 := by simp [ByteArray.size]; omega
 have hs2 : (⟨(kw ++ [10] ++ text).toArray⟩ : ByteArray).size ≤ 40000 := by simp [ByteArray.size]; omega
 have ht : (⟨text.toArray⟩ : ByteArray).size ≤ 30000 := by simpa [ByteArray.size] using hz5
 have HDG := Lib.hid (fun W => DigestOf_calls W ⟨(kw ++ [10] ++ text).toArray⟩ (by omega));have hdl : (⟨(kw ++ [10] ++ text).toArray⟩ : ByteArray).data.toList = kw ++ [10] ++ text := rfl;rw [hdl] at HDG;have HB0 := Lib.hid (Blk.new w 79 (itQ ⟨id, cust, kind, name, tm, par, text⟩));have Hm0 := Lib.hid (pure_alloc w (.cells (itQ ⟨id, cust, kind, name, tm, par, text⟩) 79));unfold itQ at HB0 Hm0;simp only at HB0 Hm0;clear hz hz5 hkl hdl h1 h4;generalize digS (kw ++ [10] ++ text) = dg at *;rw [← a2, ← a1] at HDG
 have hs01 : ((⟨kw.toArray⟩ : ByteArray) ++ ⟨#[10]⟩).size ≤ 5 := by
  have := congrArg ByteArray.size a1;rw [show (⟨#[10]⟩ : ByteArray) = ⟨[10].toArray⟩ from rfl, this];exact hs1
 clear a1 a2 hs1 hs2;obtain ⟨z0, h_z0⟩ : ∃ z0 : ByteArray, ⟨kw.toArray⟩ = z0 := ⟨_, rfl⟩;rw [h_z0] at hs0 HKW hs01 HDG;clear h_z0;have HS01 := Lib.hid hs01;unfold itA;simp only
 go_enter Tryz.func140, Tryz.ntmps140
 go_wp2_with fail
 generalize (w.alloc (.cells #[.string ⟨id.toArray⟩, .string ⟨cust.toArray⟩, .int .i64 kind, .string ⟨name.toArray⟩, .int .i64 tm, .string ⟨par.toArray⟩, .string ⟨text.toArray⟩] 79)) = W at *;generalize w.heap.size = gs at *;have HGs := Lib.hid (show ∀ (D : Nat → Bool) (zzi : Nat) (zq zq' : World), (fun _ zq => (fun Z => Blk Z gs 79 #[.string ⟨id.toArray⟩, .string ⟨cust.toArray⟩, .int .i64 kind, .string ⟨name.toArray⟩, .int .i64 tm, .string ⟨par.toArray⟩, .string ⟨text.toArray⟩]) zq) D zq → Mod (fun _ => False) zq zq' → (fun _ zq => (fun Z => Blk Z gs 79 #[.string ⟨id.toArray⟩, .string ⟨cust.toArray⟩, .int .i64 kind, .string ⟨name.toArray⟩, .int .i64 tm, .string ⟨par.toArray⟩, .string ⟨text.toArray⟩]) zq) (upd D zzi true) zq' from by intro D zzi zq zq' h hm; (exact h.modp hm))
 refine wp_region_inv (by kernel_rfl) (by kernel_rfl) (InvF (R := Mod (fun _ => False)) [.is (.pointer (some ⟨gs, 2, none⟩)),
   .is (.int .i64 kind),
   .is (.string z0),
   .is (.string (z0 ++ (⟨#[10]⟩ : ByteArray))),
   .is (.pointer (some ⟨gs, 6, none⟩)),
   .is (.string ⟨text.toArray⟩),
   .is (.string (z0 ++ (⟨#[10]⟩ : ByteArray) ++ (⟨text.toArray⟩ : ByteArray))),
   .is (.string ⟨dg.toArray⟩),
   .is (.string ⟨dg.toArray⟩)]
   (PB w (fun _ => False) W.heap.size (fun _ zq => (fun Z => Blk Z gs 79 #[.string ⟨id.toArray⟩, .string ⟨cust.toArray⟩, .int .i64 kind, .string ⟨name.toArray⟩, .int .i64 tm, .string ⟨par.toArray⟩, .string ⟨text.toArray⟩]) zq))) (InvF.start (PB.start Hm0.out (Nat.le_refl _) (HB0.out.drew))) ?_ ?_
 ·refine .cons ?_ (.cons ?_ (.cons ?_ (.cons ?_ (.cons ?_ (.cons ?_ (.cons ?_ (.cons ?_ (.cons ?_ .nil))))))))
  ·intro D V zw1 a hR hI K hK;obtain ⟨hM1, hB1, hG1⟩ := hI.1;have ze1 := hR.frame.other (t := 1) (by kernel_rfl) rfl;rw [if_pos (by rfl)];go_simp;exact hK (.pointer (some ⟨gs, 2, none⟩)) _ (hI.next hR (by kernel_rfl) (Mod.refl _ _) (PB.quiet hI.1 (Mod.refl _ _) (HGs.out D 0 zw1 zw1 (hI.1).g (Mod.refl _ _))) (upd_same V 0 _))
  ·intro D V zw1 a hR hI K hK;obtain ⟨hM1, hB1, hG1⟩ := hI.1;have zd0 := hR.pred 0 (by kernel_rfl);have zf0 : V 0 = .pointer (some ⟨gs, 2, none⟩) := hI.2 0 zd0 rfl;have ze3 := hR.frame.done (t := 3) (j := 0) (by kernel_rfl) hR.ok zd0;have zx0 := hG1.cell 0; have zx1 := hG1.cell 1; have zx2 := hG1.cell 2; have zx3 := hG1.cell 3; have zx4 := hG1.cell 4; have zx5 := hG1.cell 5; have zx6 := hG1.cell 6;simp at zx0 zx1 zx2 zx3 zx4 zx5 zx6;rw [if_pos (by rfl)];go_simp;exact hK (.int .i64 kind) _ (hI.next hR (by kernel_rfl) (Mod.refl _ _) (PB.quiet hI.1 (Mod.refl _ _) (HGs.out D 1 zw1 zw1 (hI.1).g (Mod.refl _ _))) (upd_same V 1 _))
  ·intro D V zw1 a hR hI K hK;obtain ⟨hM1, hB1, hG1⟩ := hI.1;have zd1 := hR.pred 1 (by kernel_rfl);have zf1 : V 1 = .int .i64 kind := hI.2 1 zd1 rfl;have ze4 := hR.frame.done (t := 4) (j := 1) (by kernel_rfl) hR.ok zd1;rw [if_pos (by rfl)];go_simp;refine (HKW.out _).mono ?_;rintro e zw2 ⟨rfl, rfl⟩;have hm2 : Pure zw1 zw1 := Mod.refl _ _;exact hK (.string z0) _ (hI.next hR (by kernel_rfl) hm2 (PB.quiet hI.1 hm2 (HGs.out D 2 _ _ (hI.1).g hm2)) (upd_same V 2 _))
  ·intro D V zw1 a hR hI K hK;obtain ⟨hM1, hB1, hG1⟩ := hI.1;have zd2 := hR.pred 2 (by kernel_rfl);have zf2 : V 2 = .string z0 := hI.2 2 zd2 rfl;have ze5 := hR.frame.done (t := 5) (j := 2) (by kernel_rfl) hR.ok zd2
   have hb1 : ¬ (9223372036854775807 < z0.size + 1) := by omega
   rw [if_pos (by rfl)];go_simp;exact hK (.string (z0 ++ (⟨#[10]⟩ : ByteArray))) _ (hI.next hR (by kernel_rfl) (Mod.refl _ _) (PB.quiet hI.1 (Mod.refl _ _) (HGs.out D 3 zw1 zw1 (hI.1).g (Mod.refl _ _))) (upd_same V 3 _))
  ·intro D V zw1 a hR hI K hK;obtain ⟨hM1, hB1, hG1⟩ := hI.1;have ze1 := hR.frame.other (t := 1) (by kernel_rfl) rfl;rw [if_pos (by rfl)];go_simp;exact hK (.pointer (some ⟨gs, 6, none⟩)) _ (hI.next hR (by kernel_rfl) (Mod.refl _ _) (PB.quiet hI.1 (Mod.refl _ _) (HGs.out D 4 zw1 zw1 (hI.1).g (Mod.refl _ _))) (upd_same V 4 _))
  ·intro D V zw1 a hR hI K hK;obtain ⟨hM1, hB1, hG1⟩ := hI.1;have zd4 := hR.pred 4 (by kernel_rfl);have zf4 : V 4 = .pointer (some ⟨gs, 6, none⟩) := hI.2 4 zd4 rfl;have ze7 := hR.frame.done (t := 7) (j := 4) (by kernel_rfl) hR.ok zd4;have zx0 := hG1.cell 0; have zx1 := hG1.cell 1; have zx2 := hG1.cell 2; have zx3 := hG1.cell 3; have zx4 := hG1.cell 4; have zx5 := hG1.cell 5; have zx6 := hG1.cell 6;simp at zx0 zx1 zx2 zx3 zx4 zx5 zx6;rw [if_pos (by rfl)];go_simp;exact hK (.string ⟨text.toArray⟩) _ (hI.next hR (by kernel_rfl) (Mod.refl _ _) (PB.quiet hI.1 (Mod.refl _ _) (HGs.out D 5 zw1 zw1 (hI.1).g (Mod.refl _ _))) (upd_same V 5 _))
  ·intro D V zw1 a hR hI K hK;obtain ⟨hM1, hB1, hG1⟩ := hI.1;have zd3 := hR.pred 3 (by kernel_rfl);have zf3 : V 3 = .string (z0 ++ (⟨#[10]⟩ : ByteArray)) := hI.2 3 zd3 rfl;have zd5 := hR.pred 5 (by kernel_rfl);have zf5 : V 5 = .string ⟨text.toArray⟩ := hI.2 5 zd5 rfl;have ze6 := hR.frame.done (t := 6) (j := 3) (by kernel_rfl) hR.ok zd3;have ze8 := hR.frame.done (t := 8) (j := 5) (by kernel_rfl) hR.ok zd5
   have hb1 : ¬ (9223372036854775807 < z0.size + 1 + text.length) := by have := HT5.out; omega
   rw [if_pos (by rfl)];go_simp;exact hK (.string (z0 ++ (⟨#[10]⟩ : ByteArray) ++ (⟨text.toArray⟩ : ByteArray))) _ (hI.next hR (by kernel_rfl) (Mod.refl _ _) (PB.quiet hI.1 (Mod.refl _ _) (HGs.out D 6 zw1 zw1 (hI.1).g (Mod.refl _ _))) (upd_same V 6 _))
  ·intro D V zw1 a hR hI K hK;obtain ⟨hM1, hB1, hG1⟩ := hI.1;have zd6 := hR.pred 6 (by kernel_rfl);have zf6 : V 6 = .string (z0 ++ (⟨#[10]⟩ : ByteArray) ++ (⟨text.toArray⟩ : ByteArray)) := hI.2 6 zd6 rfl;have ze9 := hR.frame.done (t := 9) (j := 6) (by kernel_rfl) hR.ok zd6;rw [if_pos (by rfl)];go_simp;refine (HDG.out _).mono ?_;rintro e zw2 ⟨rfl, hm2⟩;exact hK (.string ⟨dg.toArray⟩) _ (hI.next hR (by kernel_rfl) hm2 (PB.quiet hI.1 hm2 (HGs.out D 7 _ _ (hI.1).g hm2)) (upd_same V 7 _))
  ·intro D V zw1 a hR hI K hK;obtain ⟨hM1, hB1, hG1⟩ := hI.1;have zd7 := hR.pred 7 (by kernel_rfl);have zf7 : V 7 = .string ⟨dg.toArray⟩ := hI.2 7 zd7 rfl;have ze10 := hR.frame.done (t := 10) (j := 7) (by kernel_rfl) hR.ok zd7;rw [if_pos (by rfl)];go_simp;exact hK (.string ⟨dg.toArray⟩) _ (hI.next hR (by kernel_rfl) (Mod.refl _ _) (PB.quiet hI.1 (Mod.refl _ _) (HGs.out D 8 zw1 zw1 (hI.1).g (Mod.refl _ _))) (upd_same V 8 _))
 ·intro D V w1 hD hI;obtain ⟨hM1, hB1, hG1⟩ := hI.1;have hMx := hM1;clear hM1;have hBx := hB1;clear hB1;have hGx := hG1;clear hG1;have zf0 : V 0 = .pointer (some ⟨gs, 2, none⟩) := hI.2 0 (hD 0 (by decide)) rfl;have zf1 : V 1 = .int .i64 kind := hI.2 1 (hD 1 (by decide)) rfl;have zf2 : V 2 = .string z0 := hI.2 2 (hD 2 (by decide)) rfl;have zf3 : V 3 = .string (z0 ++ (⟨#[10]⟩ : ByteArray)) := hI.2 3 (hD 3 (by decide)) rfl;have zf4 : V 4 = .pointer (some ⟨gs, 6, none⟩) := hI.2 4 (hD 4 (by decide)) rfl;have zf5 : V 5 = .string ⟨text.toArray⟩ := hI.2 5 (hD 5 (by decide)) rfl;have zf6 : V 6 = .string (z0 ++ (⟨#[10]⟩ : ByteArray) ++ (⟨text.toArray⟩ : ByteArray)) := hI.2 6 (hD 6 (by decide)) rfl;have zf7 : V 7 = .string ⟨dg.toArray⟩ := hI.2 7 (hD 7 (by decide)) rfl;have zf8 : V 8 = .string ⟨dg.toArray⟩ := hI.2 8 (hD 8 (by decide)) rfl;clear hI hD HGs;simp only [frAll, Act.put, List.setIfInBounds_toArray, List.set_cons_zero, List.set_cons_succ, Nat.zero_add, Nat.reduceAdd, zf0, zf1, zf2, zf3, zf4, zf5, zf6, zf7, zf8];clear zf0 zf1 zf2 zf3 zf4 zf5 zf6 zf7 zf8;clear V D
  go_wp2_with fail
  go_ret;exact StrPost1.of HS.out hMx
end Go.Proofs.YtgfgggeeoeppjaaGreatDoor
/- Words for the laws on items. -/
namespace Go.Proofs.YtgfgggeeoeppjaaGreatDoor
end Go.Proofs.YtgfgggeeoeppjaaGreatDoor
/- has of the laws; AnyId of the generators. -/
namespace Go.Proofs.YtgfgggeeoeppjaaGreatDoor
open Go.RowKit
end Go.Proofs.YtgfgggeeoeppjaaGreatDoor
/- strings.Join. -/
namespace Go.Proofs.YtgfgggeeoeppjaaGreatDoor
open Go.RowKit Go.Sort
theorem bldExtraJ : Builder.Extra Tryz.prog Tryz.lays156_ren where
 sizeBuilder := by kernel_rfl
 liesBuilder := by kernel_rfl
 t5 := Tryz.underlying5
 a5 := Tryz.isAgg5
 z5 := Tryz.sizeOf5
 v5 := Tryz.zeroValue5
 infoByte := by kernel_rfl
 cellsByte := by kernel_rfl
 sizeByte := by kernel_rfl
 neB5 := by decide
theorem map_strs (xs : List Str) : (xs.map fun s => (⟨s.toArray⟩ : ByteArray)).map (·.data.toList) = xs := by
 induction xs with
 | nil => rfl
 | cons x xs ih => simp only [List.map_cons, ih]
theorem join_calls (w : World) (v : Value) (xs : List Str) (sep : Str) (h : Sl w 9 1 v (strsV xs)) (hN : xs.length ≤ 1000000) (hlen : (Lib.join xs sep).length ≤ 100000000) : Calls Tryz.prog 85 #[v, .string ⟨sep.toArray⟩] w (StrPost1 w (Lib.join xs sep)) := by
 obtain ⟨A, n, c, rfl, h1, h2, h3, h4⟩ := h
 have hn : xs.length = n := by rw [strsV_len] at h3; omega
 subst hn
 by_cases h0 : xs.length = 0
 ·obtain rfl := List.eq_nil_of_length_eq_zero h0;refine (Any.strings_Join_none Tryz.lays156 bldExtraJ A c ⟨sep.toArray⟩ w).mono ?_;rintro e w' ⟨rfl, rfl⟩;exact ⟨rfl, Mod.refl _ _⟩
 ·obtain ⟨g, off, rfl, hrow⟩ := h4 (by omega);have e := map_strs xs
  have hj := Any.strings_Join Tryz.lays156 bldExtraJ g off c (xs.map fun s => (⟨s.toArray⟩ : ByteArray)) ⟨sep.toArray⟩ w (fun j x hx => by
   rw [List.getElem?_map] at hx
   cases hxj : xs[j]? with
   | none => rw [hxj] at hx; cases hx
   | some s =>
    rw [hxj] at hx
    injection hx with hx
    subst hx;refine hrow.cell ?_
    simp [strsV, hxj]) hrow.lt (by rw [List.length_map]; omega) (by rw [List.length_map]; exact h1) (by rw [e]; show (Lib.join xs sep).length ≤ _; omega)
  rw [e, List.length_map] at hj;refine hj.mono ?_;rintro e w' ⟨rfl, hb⟩;exact ⟨rfl, Mod.of_below hb⟩
end Go.Proofs.YtgfgggeeoeppjaaGreatDoor
/- The sum of a family: tree.sum of package intake. -/
namespace Go.Proofs.YtgfgggeeoeppjaaGreatDoor
open Go.RowKit
def srtS (xs : List Str) : List Str := xs.mergeSort fun x y => decide (x ≤ y)
def fsJ (x : Itm) (ks : List Str) : Str := digS (Lib.join (sumS x :: srtS ks) [32])
def itmAt (l : List Itm) (i : Nat) : Itm := l[i]?.getD ⟨[], [], 0, [], 0, [], []⟩
theorem itmAt_eq {l : List Itm} {i : Nat} (h : i < l.length) : itmAt l i = l[i] := by simp [itmAt, h]
def fsI (l : List Itm) : Nat → Nat → Str
 | 0, i => fsJ (itmAt l i) []
 | n + 1, i => fsJ (itmAt l i) ((kidsI l i).map (fsI l n))
theorem digS_len16 (s : Str) : (digS s).length = 16 := by simp [digS, hexR]
theorem fsJ_len (x : Itm) (ks : List Str) : (fsJ x ks).length = 16 := digS_len16 _
theorem fsI_len (l : List Itm) (n i : Nat) : (fsI l n i).length = 16 := by
 cases n <;> exact fsJ_len _ _
theorem join_len : ∀ (xs : List Str), (∀ x ∈ xs, x.length = 16) → (Lib.join xs [32]).length ≤ 17 * xs.length
 | [], _ => by simp [Lib.join]
 | [x], h => by
  have := h x (by simp);simp [Lib.join]
  omega
 | x :: y :: r, h => by
  have h1 := join_len (y :: r) (fun z hz => h z (by simp [hz]));have h2 := h x (by simp)
  have e : Lib.join (x :: y :: r) [32] = x ++ [32] ++ Lib.join (y :: r) [32] := by simp [Lib.join, List.intercalate, List.intersperse]
  rw [e];simp only [List.length_append, List.length_cons, List.length_nil] at *
  omega
theorem join_small {zs : List Str} (h : ∀ y ∈ zs, y.length = 16) (hl : zs.length ≤ 2001) : (Lib.join zs [32]).length ≤ 40000 := by
 have := join_len zs h
 omega
theorem digJ_calls (w : World) (js : Str) (h : js.length ≤ 40000) (hD : Deb w) : Calls Tryz.prog 75 #[.string ⟨js.toArray⟩] w (StrPost1 w (digS js)) := by
 have := Digest_calls w ⟨js.toArray⟩ (by show js.toArray.size ≤ _; rw [List.size_toArray]; omega) hD
 simpa using this
theorem digOJ_calls (w : World) (js : Str) (h : js.length ≤ 40000) : Calls Tryz.prog 139 #[.string ⟨js.toArray⟩] w (StrPost1 w (digS js)) := by
 have := DigestOf_calls w ⟨js.toArray⟩ (by show js.toArray.size ≤ _; rw [List.size_toArray]; omega)
 simpa using this
theorem sumS_len (x : Itm) : (sumS x).length = 16 := digS_len16 _
def SmRel (w : World) (base g0 bi bk : Nat) (At : Option Addr) (nt ct : Nat) (ks : List Nat) (B : Nat → Str) (gk : Nat) (x i : Value) (wr : World) : Prop :=
 ∃ (k : Nat) (Ao : Option Addr) (cap : Nat), (k = 0 → Ao = none ∧ cap = 0) ∧ ks.length - k = gk ∧ k ≤ ks.length ∧ x = .slice Ao k cap ∧ i = .int .i64 (k : Int) ∧
  wr.ownsRow base 9 1 (.slice Ao k cap) k (strsV ((ks.take k).map B)) ∧ Blk wr g0 116 #[.map (some bi), .map (some bk), .slice At nt ct] ∧ Pure w wr ∧ base ≤ wr.heap.size
set_option maxHeartbeats 8000000 in
theorem tsum_step (w : World) (bi bk : Nat) (At : Option Addr) (nt ct : Nat) (l : List Itm) (hR : Right l) (q : Nat) (hq : q < l.length) (ks : List Nat) (B : Nat → Str) (hT : TreeIs w bi bk (.slice At nt ct) l) (hz : ∀ x ∈ l, ItB x) (hD : Deb w)
  (hkids : kidsS l l[q].id = ks.map (idAt2 l)) (hkn : ks.length ≤ 2000) (hB : ∀ k, (B k).length = 16)
  (hrec : ∀ k ∈ ks, ∀ W, Pure w W → Calls Tryz.prog 70 #[.agg #[.map (some bi), .map (some bk), .slice At nt ct], .string ⟨(idAt2 l k).toArray⟩] W (StrPost1 W (B k))) :
  Calls Tryz.prog 70 #[.agg #[.map (some bi), .map (some bk), .slice At nt ct], .string ⟨l[q].id.toArray⟩] w (StrPost1 w (fsJ l[q] (ks.map B))) := by
 obtain ⟨i0, hi0, hz0, hz1, hz2⟩ := info_parts info_str7;have hxb := hz _ (List.getElem_mem hq);have hx := hxb.1;have HXB := Lib.hid hxb;have HREC := Lib.hid hrec;have HBL := Lib.hid hB;have hp := pure_alloc w (.cells #[.map (some bi), .map (some bk), .slice At nt ct] 116);obtain ⟨n, V, hM, hV⟩ := (hT.pure hp).kids;have hV1 := hV l[q].id;rw [hkids] at hV1;have hlook := hM.lookup (e := 29) Tryz.underlying114 zero_strs l[q].id (by omega);obtain ⟨Ak, nk, ck, hk0⟩ := hV1.form;rw [hk0] at hlook hV1;have hnk : (ks.map (idAt2 l)).length = nk := hV1.lenS;rw [List.length_map] at hnk;subst hnk;have HSV := Lib.hid hV1;have HLI : Hid (∀ W, Pure w W → (Instr.lookup 113 (.map (some bi)) (.string ⟨l[q].id.toArray⟩) false).run Tryz.prog W = .ok (itA l[q]) W) := Lib.hid (fun W h => (hT.pure h).par hR hq (by omega));have HDB : Hid (∀ W, Pure w W → Deb W) := Lib.hid (fun W h => hD.pure h);have HB0 := Lib.hid (Blk.new w 116 #[.map (some bi), .map (some bk), .slice At nt ct]);have HP := Lib.hid hp;clear hrec hB hM hV hV1 hT hkids hk0 hxb hz hD hp hR;generalize l[q] = x at *
 go_enter Tryz.func70, Tryz.ntmps70
 go_wp2_with fail
 clear hlook;obtain ⟨g0, hg0⟩ : ∃ g0, g0 = w.heap.size := ⟨_, rfl⟩;have hg1 := Nat.le_of_eq hg0;have hg2 := Nat.le_of_eq hg0.symm;rw [← hg0] at HB0 ⊢;clear hg0;have hsz := Nat.le_of_eq (World.size_alloc w (.cells #[.map (some bi), .map (some bk), .slice At nt ct] 116)).symm;generalize (w.alloc (.cells #[.map (some bi), .map (some bk), .slice At nt ct] 116)) = W0 at *;obtain ⟨base, hba⟩ : ∃ base, base = W0.heap.size := ⟨_, rfl⟩;have hb1 := Nat.le_of_eq hba;have hb2 := Nat.le_of_eq hba.symm;clear hba
 go_loopg [5, 13] ks.length (fun gk x i wr => SmRel W0 base g0 bi bk At nt ct ks B gk x i wr)
 case atStart => exact ⟨0, none, 0, fun _ => ⟨rfl, rfl⟩, by omega, by omega, rfl, rfl, ⟨rfl, .inl ⟨rfl, rfl⟩⟩, HB0.out, Mod.refl _ _, hb1⟩
 case round =>
  clear HB0;obtain ⟨k, Ao, cap, hk0, rfl, hk, rfl, rfl, hown, hB, hm, hsz2⟩ := hrel;have HK0 := Lib.hid hk0;clear hk0
  by_cases hlt : k < ks.length
  ·have hkk : k < (ks.map (idAt2 l)).length := by simpa using hlt
   have S1 := HSV.out.pure hm;obtain ⟨gr, off, rfl, hrow⟩ := S1.rowS (by omega);have q1 := hrow.cell (strsV_get (ks.map (idAt2 l)) k hkk);rw [List.getElem_map] at q1;have HRK := Lib.hid (HREC.out ks[k] (List.getElem_mem hlt) wr (HP.out.trans hm));have HTK : Hid ((ks.take (k + 1)).map B = (ks.take k).map B ++ [B ks[k]]) := Lib.hid (by rw [List.take_succ_eq_append_getElem hlt, List.map_append]; rfl);have hB1 := HBL.out ks[k];clear hrow S1;generalize idAt2 l ks[k] = kid at *;generalize B ks[k] = sb at *;have t0 := hB.cell 0; have t1 := hB.cell 1; have t2 := hB.cell 2; simp at t0 t1 t2
   go_wp2_with fail
   refine HRK.out.mono ?_;rintro e w2 ⟨rfl, m2⟩;have hownA := own_pure hown m2;have HB2 := Lib.hid (hB.mod m2 _root_.id);have hm2 := hm.trans m2;have HM2 := Lib.hid hm2;have hob := own_block hownA;have HOB := Lib.hid hob;have hzz := m2.size;have hg0l : g0 < wr.heap.size := hB.lt;clear t0 t1 t2 q1 hown hB hm HRK m2 hob
   go_wp2_with (at_builtin; refine wpList_append_lies _ rfl _ _ _ rfl base 9 i0 _ 1 16 Tryz.underlying29 hi0 hz0 hz1 hz2 rfl (by omega) (.slice Ao k cap) k (strsV ((ks.take k).map B)) rfl (hownA.alloc _) ⟨w2.heap.size, 0, none⟩ 1 1 [.string ⟨sb.toArray⟩] rfl rfl (World.news_of_block (cs := #[.string ⟨sb.toArray⟩]) (t := 9) (fr := (0, 0)) (heap_alloc_new w2 _)) (by simp [Value.oneCell']) (by omega) (by simp [maxLen]; omega) (by omega) (by have := hm2.size; simp; omega) (w2.heap.size + 1) (by simp) ?_; intro g5 cap5 w5 hown5 hgrow hat hlt5)
   have hz5 := hgrow.size;simp at hz5;have hm5 := grown_mod (v := .slice Ao k cap) hgrow
   go_roundg (ks.length - (k + 1))
   case measure => omega
   case rel =>
    refine ⟨k + 1, some ⟨g5, 0, none⟩, cap5, fun h => absurd h (by omega), rfl, by omega, rfl, by simp, ?_, (HB2.out.alloc _).mod hm5 (fun h => by have := HOB.out _ h; omega), (HM2.out.alloc _).trans' hm5 (fun i h hl => by have := HOB.out _ h; omega), by omega⟩;rw [HTK.out]
    simpa [strsV] using hown5
  ·obtain rfl : k = ks.length := by omega
   rw [List.take_length] at hown;have HOWN := Lib.hid hown;have HB2 := Lib.hid hB;have HM2 := Lib.hid hm;have hg0l : g0 < wr.heap.size := hB.lt;have hws := hm.size;clear hown hB hm;have HS := Lib.hid (sortS_calls2 wr (.slice Ao ks.length cap) ks.length base (ks.map B) HOWN.out (by simp; omega));have hol := own_block HOWN.out;have HOL := Lib.hid hol;clear hol
   go_wp2_with fail
   refine HS.out.mono ?_;rintro e w3 ⟨rfl, own3, m3⟩;have hB3 := HB2.out.mod m3 (fun h => by have := HOL.out _ h; omega);have HM3 : Hid (Pure w w3) := Lib.hid (HP.out.trans (HM2.out.trans' m3 (fun i h hl => by have := HOL.out _ h; omega)));have hli := HLI.out w3 HM3.out;have m3z := m3.size;have HSM := Lib.hid (sum_calls w3 x HXB.out (HDB.out _ HM3.out));have HO3 := Lib.hid own3;unfold itA at hli HSM;have t0 := hB3.cell 0; have t1 := hB3.cell 1; have t2 := hB3.cell 2; simp at t0 t1 t2;clear HS HB2 HM2 HOWN own3 m3 hB3
   go_wp2_with fail
   refine HSM.out.mono ?_;rintro e w4 ⟨rfl, m4⟩;have own4 := own_pure HO3.out m4;have HM4 : Hid (Pure w w4) := Lib.hid (HM3.out.trans m4);have hml : (ks.map B).mergeSort (fun x y => decide (x ≤ y)) = srtS (ks.map B) := rfl;rw [hml] at own4
   have hkl1 : (srtS (ks.map B)).length ≤ ks.length := by simp [srtS]
   have hkl2 : ks.length ≤ (srtS (ks.map B)).length := by simp [srtS]
   have H16 : Hid (∀ y ∈ sumS x :: srtS (ks.map B), y.length = 16) := Lib.hid (by
    intro y hy
    rcases List.mem_cons.1 hy with rfl | hy
    ·exact sumS_len x
    ·have h2 : y ∈ ks.map B := by
      unfold srtS at hy;exact (List.mergeSort_perm _ _).mem_iff.1 hy
     obtain ⟨k, _, rfl⟩ := List.mem_map.1 h2
     exact HBL.out k)
   have HDG : Hid (digS (Lib.join (sumS x :: srtS (ks.map B)) [32]) = fsJ x (ks.map B)) := Lib.hid rfl;have hws4 := HM4.out.size;have hob4 := own_block own4;have HOB4 := Lib.hid hob4;have hbw : base ≤ w4.heap.size := Nat.le_trans hsz2 (Nat.le_trans m3z m4.size);clear HLI HSM HO3 m4 t0 t1 t2 hli hml hob4 HM3;generalize srtS (ks.map B) = ys at *;generalize sumS x = sx at *;obtain ⟨zs, hzs⟩ : ∃ zs, zs = sx :: ys := ⟨_, rfl⟩;have HZS := Lib.hid hzs;rw [← hzs] at H16 HDG
   have hzl : zs.length ≤ 2001 := by rw [hzs, List.length_cons]; omega
   have HJL := Lib.hid (join_small H16.out hzl);clear hzs;have O1 := World.ownsRow_lit (base := w4.heap.size) (e := 9) (size := 1) w4 #[.string ⟨sx.toArray⟩] 1 (by simp) (by simp [maxLen]) rfl;have own5 := own4.alloc (.cells #[.string ⟨sx.toArray⟩] 9);have P5 := HM4.out.alloc (.cells #[.string ⟨sx.toArray⟩] 9)
   by_cases hk0 : ks.length = 0
   ·obtain ⟨rfl, rfl⟩ := HK0.out hk0;have hy0 : ys = [] := List.eq_nil_of_length_eq_zero (by omega)
    have OO : (w4.alloc (.cells #[.string ⟨sx.toArray⟩] 9)).ownsRow w4.heap.size 9 1 (.slice (some ⟨w4.heap.size, 0, none⟩) 1 1) 1 (strsV zs) := by rw [HZS.out, hy0]; simpa [strsV] using O1
    have PP := P5;clear hy0;rw [hk0];have hk1 := Nat.le_of_eq hk0;clear hk0
    go_wp2_with (at_builtin; refine wpList_append_own_none rfl _ _ _ rfl w4.heap.size 9 i0 1 Tryz.underlying29 hi0 (.slice (some ⟨w4.heap.size, 0, none⟩) 1 1) 1 _ rfl O1 rfl ?_)
    clear O1 own5 P5;have HJ := Lib.hid (join_calls _ _ zs [32] (Sl.of_own OO) (by omega) (by have := HJL.out; omega));have HP6 := Lib.hid PP;clear OO PP own4;generalize Lib.join zs [32] = js at *
    go_wp2_with fail
    refine HJ.out.mono ?_;rintro e w7 ⟨rfl, m7⟩;have P7 := HP6.out.trans m7;have HDD := Lib.hid (digJ_calls w7 js HJL.out (HDB.out _ P7));rw [HDG.out] at HDD;clear HJ HP6 m7 H16
    go_wp2_with fail
    refine HDD.out.mono ?_;rintro e w8 ⟨rfl, m8⟩;have P8 := P7.trans m8;clear HDD
    go_wp2_with fail
    go_ret;exact ⟨rfl, P8⟩
   ·have hbl : 0 < ys.length := by omega
    obtain ⟨g2, c2, hv2, hg2a, hg2b, hc2, hc22⟩ := own_form own5 hbl
    injection hv2 with hv2 _ hv3
    subst hv2 hv3;have hnews := World.ownsRow.cells own5 (g := g2) rfl
    have hsl2 : (strsV ys).length = ys.length * 1 := by rw [strsV_len]; omega
    have hone := strsV_one ys;have hwz := Nat.le_of_eq (World.size_alloc w4 (.cells #[.string ⟨sx.toArray⟩] 9)).symm
    go_wp2_with (at_builtin; (refine wpList_append_own_at _ rfl _ _ _ rfl w4.heap.size 9 i0 _ 1 16 Tryz.underlying29 hi0 hz0 hz1 hz2 rfl (by omega) (.slice (some ⟨w4.heap.size, 0, none⟩) 1 1) 1 _ rfl O1 ⟨g2, 0, none⟩ ys.length _ _ rfl hsl2 hnews hone (by simp [maxLen]; omega) (by omega) (by omega) ?_); intro v6 w6 hown6 hgrow hnil hat; obtain ⟨A6, n6, c6, rfl⟩ := (Sl.of_own hown6).form; clear hnil)
    have hm6 := grown_mod (v := .slice (some ⟨w4.heap.size, 0, none⟩) 1 1) hgrow;have PP : Pure w w6 := P5.trans' hm6 (fun i h hl => by have h3 : w4.heap.size = i := (by injection h); omega)
    have OO : w6.ownsRow w4.heap.size 9 1 (.slice A6 n6 c6) (1 + ys.length) (strsV zs) := by rw [HZS.out]; simpa [strsV] using hown6
    clear hown6 hgrow hm6 hnews hsl2 hone O1 own5 P5;have HJ := Lib.hid (join_calls _ _ zs [32] (Sl.of_own OO) (by omega) (by have := HJL.out; omega));have HP6 := Lib.hid PP;clear OO PP own4;generalize Lib.join zs [32] = js at *
    go_wp2_with fail
    refine HJ.out.mono ?_;rintro e w7 ⟨rfl, m7⟩;have P7 := HP6.out.trans m7;have HDD := Lib.hid (digJ_calls w7 js HJL.out (HDB.out _ P7));rw [HDG.out] at HDD;clear HJ HP6 m7 H16
    go_wp2_with fail
    refine HDD.out.mono ?_;rintro e w8 ⟨rfl, m8⟩;have P8 := P7.trans m8;clear HDD
    go_wp2_with fail
    go_ret;exact ⟨rfl, P8⟩
theorem tsum_calls (l : List Itm) (hR : Right l) (hz : ∀ x ∈ l, ItB x) (bi bk : Nat) (At : Option Addr) (nt ct : Nat) : ∀ (m i : Nat) (hi : i < l.length), short l (m + 1) i → ∀ w, Deb w → TreeIs w bi bk (.slice At nt ct) l →
  Calls Tryz.prog 70 #[.agg #[.map (some bi), .map (some bk), .slice At nt ct], .string ⟨l[i].id.toArray⟩] w (StrPost1 w (fsI l m i)) := by
 intro m
 induction m with
 | zero =>
  intro i hi hs w hD hT;have hk := short_nokid hs;have h := tsum_step w bi bk At nt ct l hR i hi [] (fun _ => List.replicate 16 0) hT hz hD (by rw [hR.kidsS_eq hi, hk]) (by simp) (fun _ => by simp) (fun k h => absurd h (by simp))
  have e : fsI l 0 i = fsJ l[i] (([] : List Nat).map fun _ => List.replicate 16 0) := by simp [fsI, itmAt_eq hi]
  rw [e];exact h
 | succ m ih =>
  intro i hi hs w hD hT
  have e : fsI l (m + 1) i = fsJ l[i] ((kidsI l i).map (fsI l m)) := by simp [fsI, itmAt_eq hi]
  rw [e];refine tsum_step w bi bk At nt ct l hR i hi (kidsI l i) (fsI l m) hT hz hD (hR.kidsS_eq hi) ?_ (fun k => fsI_len l m k) (fun k hk W hW => ?_)
  ·have h1 : (kidsI l i).length ≤ l.length := by
    unfold kidsI;exact Nat.le_trans (List.length_filter_le _ _) (by simp)
   have h2 := hR.len
   omega
  ·have hkl := (mem_kidsI.1 hk).1;have := ih k hkl (short_kid hs hk) W (hD.pure hW) (hT.pure hW);rw [idAt2_eq hkl];exact this
end Go.Proofs.YtgfgggeeoeppjaaGreatDoor
/- FamilySum, Holders of package intake. -/
namespace Go.Proofs.YtgfgggeeoeppjaaGreatDoor
open Go.RowKit
end Go.Proofs.YtgfgggeeoeppjaaGreatDoor
/- The sum of a family: FamilySumOf of the reference. -/
namespace Go.Proofs.YtgfgggeeoeppjaaGreatDoor
open Go.RowKit
def SrRel (w : World) (base : Nat) (ks : List Nat) (B : Nat → Str) (gk : Nat) (x i : Value) (wr : World) : Prop :=
 ∃ (k : Nat) (Ao : Option Addr) (cap : Nat), (k = 0 → Ao = none ∧ cap = 0) ∧ ks.length - k = gk ∧ k ≤ ks.length ∧ x = .slice Ao k cap ∧ i = .int .i64 (k : Int) ∧
  wr.ownsRow base 9 1 (.slice Ao k cap) k (strsV ((ks.take k).map B)) ∧ Pure w wr ∧ base ≤ wr.heap.size
set_option maxHeartbeats 8000000 in
theorem rsum_step (w : World) (v : Value) (l : List Itm) (hR : Right l) (hl : l.length ≤ 2000) (q : Nat) (hq : q < l.length) (ks : List Nat) (B : Nat → Str) (hv : Its w v l) (hz : ∀ x ∈ l, ItB x) (hkd : ∀ x ∈ l, 1 ≤ x.kind ∧ x.kind ≤ 4)
  (hkids : kidsS l l[q].id = ks.map (idAt2 l)) (hkn : ks.length ≤ 2000) (hB : ∀ k, (B k).length = 16)
  (hrec : ∀ k ∈ ks, ∀ W, Pure w W → Calls Tryz.prog 78 #[v, .string ⟨(idAt2 l k).toArray⟩] W (StrPost1 W (B k))) :
  Calls Tryz.prog 78 #[v, .string ⟨l[q].id.toArray⟩] w (StrPost1 w (fsJ l[q] (ks.map B))) := by
 obtain ⟨i0, hi0, hz0, hz1, hz2⟩ := info_parts info_str7;have HREC := Lib.hid hrec;have HBL := Lib.hid hB;have HCH := Lib.hid (childrenOf_calls w v l l[q].id hv hl (hR.key _ (List.getElem_mem hq)));rw [hkids] at HCH
 have HPL : Hid (∀ W, Pure w W → Calls Tryz.prog 49 #[v, .string ⟨l[q].id.toArray⟩] W (IntPost W (q : Int))) := Lib.hid (fun W h => by
  have := place_calls W v l l[q].id (hv.pure h);unfold plcZ at this;rw [plc_self hR.distinct q hq] at this
  exact this)
 have HSU : Hid (∀ W, Calls Tryz.prog 140 #[itA l[q]] W (StrPost1 W (sumS l[q]))) := Lib.hid (fun W => SumOf_calls W l[q] (hz _ (List.getElem_mem hq)) (hkd _ (List.getElem_mem hq)).1 (hkd _ (List.getElem_mem hq)).2);obtain ⟨A, n, c, rfl, hc1, hc2, hl2, hr⟩ := hv
 have hln : l.length = n := by rw [itV_len] at hl2; omega
 subst hln;obtain ⟨g, off, rfl, hrow⟩ := hr (by omega);have HIC := Lib.hid (fun W (h : Pure w W) => item_cells (hrow.mod h _root_.id) hq)
 have i1 : (0 : Int) ≤ (q : Int) := by omega
 have i2 : (q : Int) < (l.length : Int) := by omega
 clear hrec hB hl2 hr hrow hkids hz hkd hR;generalize l[q] = x at *
 go_enter Tryz.func78, Tryz.ntmps78
 go_wp2_with fail
 refine HCH.out.mono ?_;rintro e w1 ⟨Ak, nk, ck, rfl, hS1, m1⟩;have hnk : (ks.map (idAt2 l)).length = nk := hS1.lenS;rw [List.length_map] at hnk;subst hnk;have HSV := Lib.hid hS1;have HP := Lib.hid m1;clear HCH hS1 m1
 go_wp2_with fail
 obtain ⟨base, hba⟩ : ∃ base, base = w1.heap.size := ⟨_, rfl⟩;have hb1 := Nat.le_of_eq hba;have hb2 := Nat.le_of_eq hba.symm;clear hba
 go_loopg [5, 12] ks.length (fun gk x i wr => SrRel w1 base ks B gk x i wr)
 case atStart => exact ⟨0, none, 0, fun _ => ⟨rfl, rfl⟩, by omega, by omega, rfl, rfl, ⟨rfl, .inl ⟨rfl, rfl⟩⟩, Mod.refl _ _, hb1⟩
 case round =>
  obtain ⟨k, Ao, cap, hk0, rfl, hk, rfl, rfl, hown, hm, hsz2⟩ := hrel;have HK0 := Lib.hid hk0;clear hk0
  by_cases hlt : k < ks.length
  ·have hkk : k < (ks.map (idAt2 l)).length := by simpa using hlt
   have S1 := HSV.out.pure hm;obtain ⟨gr, og, rfl, hrow⟩ := S1.rowS (by omega);have q1 := hrow.cell (strsV_get (ks.map (idAt2 l)) k hkk);rw [List.getElem_map] at q1;have HRK := Lib.hid (HREC.out ks[k] (List.getElem_mem hlt) wr (HP.out.trans hm));have HTK : Hid ((ks.take (k + 1)).map B = (ks.take k).map B ++ [B ks[k]]) := Lib.hid (by rw [List.take_succ_eq_append_getElem hlt, List.map_append]; rfl);have hB1 := HBL.out ks[k];clear hrow S1;generalize idAt2 l ks[k] = kid at *;generalize B ks[k] = sb at *
   go_wp2_with fail
   refine HRK.out.mono ?_;rintro e w2 ⟨rfl, m2⟩;have hownA := own_pure hown m2;have hm2 := hm.trans m2;have HM2 := Lib.hid hm2;have hob := own_block hownA;have HOB := Lib.hid hob;have hzz := m2.size;clear q1 hown hm HRK m2 hob
   go_wp2_with (at_builtin; refine wpList_append_lies _ rfl _ _ _ rfl base 9 i0 _ 1 16 Tryz.underlying29 hi0 hz0 hz1 hz2 rfl (by omega) (.slice Ao k cap) k (strsV ((ks.take k).map B)) rfl (hownA.alloc _) ⟨w2.heap.size, 0, none⟩ 1 1 [.string ⟨sb.toArray⟩] rfl rfl (World.news_of_block (cs := #[.string ⟨sb.toArray⟩]) (t := 9) (fr := (0, 0)) (heap_alloc_new w2 _)) (by simp [Value.oneCell']) (by omega) (by simp [maxLen]; omega) (by omega) (by have := hm2.size; simp; omega) (w2.heap.size + 1) (by simp) ?_; intro g5 cap5 w5 hown5 hgrow hat hlt5)
   have hz5 := hgrow.size;simp at hz5;have hm5 := grown_mod (v := .slice Ao k cap) hgrow
   go_roundg (ks.length - (k + 1))
   case measure => omega
   case rel =>
    refine ⟨k + 1, some ⟨g5, 0, none⟩, cap5, fun h => absurd h (by omega), rfl, by omega, rfl, by simp, ?_, (HM2.out.alloc _).trans' hm5 (fun i h hl => by have := HOB.out _ h; omega), by omega⟩;rw [HTK.out]
    simpa [strsV] using hown5
  ·obtain rfl : k = ks.length := by omega
   rw [List.take_length] at hown;have HOWN := Lib.hid hown;have HM2 := Lib.hid hm;have hws := hm.size;clear hown hm;have HS := Lib.hid (sortS_calls2 wr (.slice Ao ks.length cap) ks.length base (ks.map B) HOWN.out (by simp; omega));have hol := own_block HOWN.out;have HOL := Lib.hid hol;clear hol
   go_wp2_with fail
   refine HS.out.mono ?_;rintro e w3 ⟨rfl, own3, m3⟩;have HM3 : Hid (Pure w w3) := Lib.hid (HP.out.trans (HM2.out.trans' m3 (fun i h hl => by have := HOL.out _ h; omega)));have m3z := m3.size;have HPC := Lib.hid (HPL.out w3 HM3.out);have HO3 := Lib.hid own3;clear HS HM2 HOWN own3 m3 HPL
   go_wp2_with fail
   refine HPC.out.mono ?_;rintro e w3b ⟨rfl, m3b⟩;have HM3b : Hid (Pure w w3b) := Lib.hid (HM3.out.trans m3b);obtain ⟨q0, q1, q2, q3, q4, q5, q6⟩ := HIC.out w3b HM3b.out;have HSM := Lib.hid (HSU.out w3b);have HO3b := Lib.hid (own_pure HO3.out m3b);unfold itA at HSM;have m3bz := m3b.size;clear HPC HO3 HM3 m3b HIC
   go_wp2_with fail
   refine HSM.out.mono ?_;rintro e w4 ⟨rfl, m4⟩;have own4 := own_pure HO3b.out m4;have HM4 : Hid (Pure w w4) := Lib.hid (HM3b.out.trans m4);have hml : (ks.map B).mergeSort (fun x y => decide (x ≤ y)) = srtS (ks.map B) := rfl;rw [hml] at own4
   have hkl1 : (srtS (ks.map B)).length ≤ ks.length := by simp [srtS]
   have hkl2 : ks.length ≤ (srtS (ks.map B)).length := by simp [srtS]
   have H16 : Hid (∀ y ∈ sumS x :: srtS (ks.map B), y.length = 16) := Lib.hid (by
    intro y hy
    rcases List.mem_cons.1 hy with rfl | hy
    ·exact sumS_len x
    ·have h2 : y ∈ ks.map B := by
      unfold srtS at hy;exact (List.mergeSort_perm _ _).mem_iff.1 hy
     obtain ⟨k, _, rfl⟩ := List.mem_map.1 h2
     exact HBL.out k)
   have HDG : Hid (digS (Lib.join (sumS x :: srtS (ks.map B)) [32]) = fsJ x (ks.map B)) := Lib.hid rfl;have hws4 := HM4.out.size;have hbw : base ≤ w4.heap.size := Nat.le_trans hsz2 (Nat.le_trans m3z (Nat.le_trans m3bz m4.size));clear HSM HO3b m4 hml HM3b q0 q1 q2 q3 q4 q5 q6 HSU;generalize srtS (ks.map B) = ys at *;generalize sumS x = sx at *;obtain ⟨zs, hzs⟩ : ∃ zs, zs = sx :: ys := ⟨_, rfl⟩;have HZS := Lib.hid hzs;rw [← hzs] at H16 HDG
   have hzl : zs.length ≤ 2001 := by rw [hzs, List.length_cons]; omega
   have HJL := Lib.hid (join_small H16.out hzl);clear hzs;have O1 := World.ownsRow_lit (base := w4.heap.size) (e := 9) (size := 1) w4 #[.string ⟨sx.toArray⟩] 1 (by simp) (by simp [maxLen]) rfl;have own5 := own4.alloc (.cells #[.string ⟨sx.toArray⟩] 9);have P5 := HM4.out.alloc (.cells #[.string ⟨sx.toArray⟩] 9)
   by_cases hk0 : ks.length = 0
   ·obtain ⟨rfl, rfl⟩ := HK0.out hk0;have hy0 : ys = [] := List.eq_nil_of_length_eq_zero (by omega)
    have OO : (w4.alloc (.cells #[.string ⟨sx.toArray⟩] 9)).ownsRow w4.heap.size 9 1 (.slice (some ⟨w4.heap.size, 0, none⟩) 1 1) 1 (strsV zs) := by rw [HZS.out, hy0]; simpa [strsV] using O1
    have PP := P5;clear hy0;rw [hk0];have hk1 := Nat.le_of_eq hk0;clear hk0
    go_wp2_with (at_builtin; refine wpList_append_own_none rfl _ _ _ rfl w4.heap.size 9 i0 1 Tryz.underlying29 hi0 (.slice (some ⟨w4.heap.size, 0, none⟩) 1 1) 1 _ rfl O1 rfl ?_)
    clear O1 own5 P5;have HJ := Lib.hid (join_calls _ _ zs [32] (Sl.of_own OO) (by omega) (by have := HJL.out; omega));have HP6 := Lib.hid PP;clear OO PP own4;generalize Lib.join zs [32] = js at *
    go_wp2_with fail
    refine HJ.out.mono ?_;rintro e w7 ⟨rfl, m7⟩;have P7 := HP6.out.trans m7;have HDD := Lib.hid (digOJ_calls w7 js HJL.out);rw [HDG.out] at HDD;clear HJ HP6 m7 H16
    go_wp2_with fail
    refine HDD.out.mono ?_;rintro e w8 ⟨rfl, m8⟩;have P8 := P7.trans m8;clear HDD
    go_wp2_with fail
    go_ret;exact ⟨rfl, P8⟩
   ·have hbl : 0 < ys.length := by omega
    obtain ⟨g2, c2, hv2, hg2a, hg2b, hc2, hc22⟩ := own_form own5 hbl
    injection hv2 with hv2 _ hv3
    subst hv2 hv3;have hnews := World.ownsRow.cells own5 (g := g2) rfl
    have hsl2 : (strsV ys).length = ys.length * 1 := by rw [strsV_len]; omega
    have hone := strsV_one ys;have hwz := Nat.le_of_eq (World.size_alloc w4 (.cells #[.string ⟨sx.toArray⟩] 9)).symm
    go_wp2_with (at_builtin; (refine wpList_append_own_at _ rfl _ _ _ rfl w4.heap.size 9 i0 _ 1 16 Tryz.underlying29 hi0 hz0 hz1 hz2 rfl (by omega) (.slice (some ⟨w4.heap.size, 0, none⟩) 1 1) 1 _ rfl O1 ⟨g2, 0, none⟩ ys.length _ _ rfl hsl2 hnews hone (by simp [maxLen]; omega) (by omega) (by omega) ?_); intro v6 w6 hown6 hgrow hnil hat; obtain ⟨A6, n6, c6, rfl⟩ := (Sl.of_own hown6).form; clear hnil)
    have hm6 := grown_mod (v := .slice (some ⟨w4.heap.size, 0, none⟩) 1 1) hgrow;have PP : Pure w w6 := P5.trans' hm6 (fun i h hl => by have h3 : w4.heap.size = i := (by injection h); omega)
    have OO : w6.ownsRow w4.heap.size 9 1 (.slice A6 n6 c6) (1 + ys.length) (strsV zs) := by rw [HZS.out]; simpa [strsV] using hown6
    clear hown6 hgrow hm6 hnews hsl2 hone O1 own5 P5;have HJ := Lib.hid (join_calls _ _ zs [32] (Sl.of_own OO) (by omega) (by have := HJL.out; omega));have HP6 := Lib.hid PP;clear OO PP own4;generalize Lib.join zs [32] = js at *
    go_wp2_with fail
    refine HJ.out.mono ?_;rintro e w7 ⟨rfl, m7⟩;have P7 := HP6.out.trans m7;have HDD := Lib.hid (digOJ_calls w7 js HJL.out);rw [HDG.out] at HDD;clear HJ HP6 m7 H16
    go_wp2_with fail
    refine HDD.out.mono ?_;rintro e w8 ⟨rfl, m8⟩;have P8 := P7.trans m8;clear HDD
    go_wp2_with fail
    go_ret;exact ⟨rfl, P8⟩
theorem rsum_calls (l : List Itm) (hR : Right l) (hz : ∀ x ∈ l, ItB x) (hkd : ∀ x ∈ l, 1 ≤ x.kind ∧ x.kind ≤ 4) (v : Value) : ∀ (m i : Nat) (hi : i < l.length), short l (m + 1) i → ∀ w, Its w v l →
  Calls Tryz.prog 78 #[v, .string ⟨l[i].id.toArray⟩] w (StrPost1 w (fsI l m i)) := by
 intro m
 induction m with
 | zero =>
  intro i hi hs w hT;have hk := short_nokid hs;have h := rsum_step w v l hR hR.len i hi [] (fun _ => List.replicate 16 0) hT hz hkd (by rw [hR.kidsS_eq hi, hk]) (by simp) (fun _ => by simp) (fun k h => absurd h (by simp))
  have e : fsI l 0 i = fsJ l[i] (([] : List Nat).map fun _ => List.replicate 16 0) := by simp [fsI, itmAt_eq hi]
  rw [e];exact h
 | succ m ih =>
  intro i hi hs w hT
  have e : fsI l (m + 1) i = fsJ l[i] ((kidsI l i).map (fsI l m)) := by simp [fsI, itmAt_eq hi]
  rw [e];refine rsum_step w v l hR hR.len i hi (kidsI l i) (fsI l m) hT hz hkd (hR.kidsS_eq hi) ?_ (fun k => fsI_len l m k) (fun k hk W hW => ?_)
  ·have h1 : (kidsI l i).length ≤ l.length := by
    unfold kidsI;exact Nat.le_trans (List.length_filter_le _ _) (by simp)
   have h2 := hR.len
   omega
  ·have hkl := (mem_kidsI.1 hk).1;have := ih k hkl (short_kid hs hk) W (hT.pure hW);rw [idAt2_eq hkl];exact this
end Go.Proofs.YtgfgggeeoeppjaaGreatDoor
/- HoldersOf of the reference; wrongOr, topFault of the laws. -/
namespace Go.Proofs.YtgfgggeeoeppjaaGreatDoor
open Go.RowKit
set_option maxHeartbeats 400000 in
theorem wrongOr_calls (w : World) (g c : Nat) (es : List Int) (hb : RowAt w 33 g 0 (es.map (Value.int .i64))) (hl : es.length ≤ 1000) :
  Calls Tryz.prog 29 #[.slice (some ⟨g, 0, none⟩) es.length c] w (IntPost w (firstErr es)) := by
 go_enter Tryz.func29, Tryz.ntmps29
 go_wp2_with fail
 go_loopg [7] es.length (fun gk i wr => ∃ k : Nat, es.length - k = gk ∧ k ≤ es.length ∧ i = .int .i64 (k : Int) ∧ firstErr (es.drop k) = firstErr es ∧ w = wr)
 case atStart => exact ⟨0, by omega, by omega, rfl, rfl, rfl⟩
 case round =>
  obtain ⟨k, rfl, hk, rfl, hf, rfl⟩ := hrel;have HF := Lib.hid hf;clear hf
  by_cases hlt : k < es.length
  ·have hc := hb.cell (i := k) (u := .int .i64 es[k]) (by simp [hlt]);rw [Nat.zero_add] at hc;have hd : es.drop k = es[k] :: es.drop (k + 1) := List.drop_eq_getElem_cons hlt
   have hf2 : firstErr es = if es[k] = 0 then firstErr (es.drop (k + 1)) else es[k] := by rw [← HF.out, hd]; rfl
   have HF2 := Lib.hid hf2;clear hd hf2;generalize es[k] = x at *
   by_cases hx : x = 0
   ·subst hx
    go_wp2_with fail
    go_roundg (es.length - (k + 1))
    case measure => omega
    case rel => exact ⟨k + 1, rfl, hlt, by simp, by rw [HF2.out]; simp, rfl⟩
   ·have hx2 : (x != 0) = true := by simpa using hx
    go_wp2_with fail
    go_ret;exact IntPost.of (by rw [HF2.out, if_neg hx]) (Mod.refl _ _)
  ·have hke : k = es.length := by omega
   subst hke
   go_wp2_with fail
   go_ret;exact IntPost.of (by rw [← HF.out]; simp [firstErr]) (Mod.refl _ _)
theorem itemE_kindI {x : Itm} (h : itemE x = 0) : 1 ≤ x.kind ∧ x.kind ≤ 4 := by
 unfold itemE at h
 split at h
 ·omega
 split at h
 ·omega
 rename_i h2
 simp at h2;exact inB_true h2
theorem items_kinds {l : List Itm} (h : itsE itemE l = 0) : ∀ x ∈ l, 1 ≤ x.kind ∧ x.kind ≤ 4 := by
 unfold itsE at h
 split at h
 ·omega
 split at h
 ·rename_i h2; exact absurd h h2
 rename_i h2
 have h2 : ordE itemE [] l = 0 := by simpa using h2
 exact fun x hx => itemE_kindI (ordE_gt h2 x hx).1
end Go.Proofs.YtgfgggeeoeppjaaGreatDoor
/- The family that is read (package intake): primary. -/
namespace Go.Proofs.YtgfgggeeoeppjaaGreatDoor
open Go.RowKit
def itmOf (l : List Itm) (s : Str) : Itm := itmAt l (idxId l s)
def prF2 (l : List Itm) (ranks : List Str) (s : Str) : Int × Int := (rankI ranks (itmOf l s).cust, (itmOf l s).tm)
theorem itmOf_self {l : List Itm} (h : Right l) {i : Nat} (hi : i < l.length) : itmOf l l[i].id = l[i] := by
 unfold itmOf idxId;rw [plc_self h.distinct i hi, Option.getD_some, itmAt_eq hi]
set_option maxHeartbeats 4000000 in
theorem primary_calls (w : World) (bi bk nt ct : Nat) (At : Option Addr) (l : List Itm) (ranks : List Str) (vr v : Value) (x0 : Str) (xs : List Str) (hT : TreeIs w bi bk (.slice At nt ct) l) (hR : Right l) (hz : ∀ x ∈ l, ItB x) (htm : ∀ x ∈ l, 0 ≤ x.tm ∧ x.tm ≤ 1000000000)
  (hr : Sl w 9 1 vr (strsV ranks)) (hrl : ranks.length ≤ 1000000) (hv : Sl w 9 1 v (strsV (x0 :: xs))) (hin : ∀ s ∈ x0 :: xs, ∃ i, ∃ h : i < l.length, l[i].id = s) :
  Calls Tryz.prog 71 #[.agg #[.map (some bi), .map (some bk), .slice At nt ct], v, vr] w (StrPost1 w (bestS (prF2 l ranks) xs x0)) := by
 have HV := Lib.hid hv;have HR := Lib.hid hr;have HT := Lib.hid hT;have HI := Lib.hid hin;have hcf : ∀ (x y : Str) (c1 c2 : Value) (W : World), Sem.run Tryz.prog (callFunc 130 #[.string ⟨x.toArray⟩, .string ⟨y.toArray⟩, c1, c2]) W = .ok (.enter 130 #[.string ⟨x.toArray⟩, .string ⟨y.toArray⟩, c1, c2]) W := fun _ _ _ _ _ => rfl;have HCF := Lib.hid hcf;obtain ⟨Ar, nr, cr, rfl⟩ := hr.form;obtain ⟨Av, nv, cv, rfl⟩ := hv.form;have B0 := Blk.new ((w.alloc (.cells #[.map (some bi), .map (some bk), .slice At nt ct] 116)).alloc (.cells #[.slice Ar nr cr] 29)) 129 #[.nilFunc];rw [World.size_alloc, World.size_alloc] at B0;have q0 : (((w.alloc (.cells #[.map (some bi), .map (some bk), .slice At nt ct] 116)).alloc (.cells #[.slice Ar nr cr] 29)).alloc (.cells #[.nilFunc] 129)).cell? ⟨w.heap.size + 1 + 1, 0, none⟩ = some .nilFunc := B0.cell 0;have q1 : (((w.alloc (.cells #[.map (some bi), .map (some bk), .slice At nt ct] 116)).alloc (.cells #[.slice Ar nr cr] 29)).alloc (.cells #[.nilFunc] 129)).frozen? ⟨w.heap.size + 1 + 1, 0, none⟩ = false := B0.frozen 0
 have hst : Sem.run Tryz.prog (store ⟨w.heap.size + 1 + 1, 0, none⟩ (.func (.func 128) #[] #[.pointer (some ⟨w.heap.size + 1, 0, none⟩), .pointer (some ⟨w.heap.size, 0, none⟩)])) (((w.alloc (.cells #[.map (some bi), .map (some bk), .slice At nt ct] 116)).alloc (.cells #[.slice Ar nr cr] 29)).alloc (.cells #[.nilFunc] 129)) = .ok () ((((w.alloc (.cells #[.map (some bi), .map (some bk), .slice At nt ct] 116)).alloc (.cells #[.slice Ar nr cr] 29)).alloc (.cells #[.nilFunc] 129)).setCell ⟨w.heap.size + 1 + 1, 0, none⟩ (.func (.func 128) #[] #[.pointer (some ⟨w.heap.size + 1, 0, none⟩), .pointer (some ⟨w.heap.size, 0, none⟩)])) := by
  refine (run_store _ _ _ _ _ rfl).trans ?_;simp [stored, q0, q1]
 have K0 := ((Blk.new w 116 #[.map (some bi), .map (some bk), .slice At nt ct]).alloc (.cells #[.slice Ar nr cr] 29)).alloc (.cells #[(.func (.func 128) #[] #[.pointer (some ⟨w.heap.size + 1, 0, none⟩), .pointer (some ⟨w.heap.size, 0, none⟩)])] 129);have K1 := (Blk.snd w (.cells #[.map (some bi), .map (some bk), .slice At nt ct] 116) 29 #[.slice Ar nr cr]).alloc (.cells #[(.func (.func 128) #[] #[.pointer (some ⟨w.heap.size + 1, 0, none⟩), .pointer (some ⟨w.heap.size, 0, none⟩)])] 129);have K2 := Blk.new ((w.alloc (.cells #[.map (some bi), .map (some bk), .slice At nt ct] 116)).alloc (.cells #[.slice Ar nr cr] 29)) 129 #[(.func (.func 128) #[] #[.pointer (some ⟨w.heap.size + 1, 0, none⟩), .pointer (some ⟨w.heap.size, 0, none⟩)])];rw [World.size_alloc, World.size_alloc] at K2;have M0 : Pure w (((w.alloc (.cells #[.map (some bi), .map (some bk), .slice At nt ct] 116)).alloc (.cells #[.slice Ar nr cr] 29)).alloc (.cells #[(.func (.func 128) #[] #[.pointer (some ⟨w.heap.size + 1, 0, none⟩), .pointer (some ⟨w.heap.size, 0, none⟩)])] 129)) := ((pure_alloc _ _).trans (pure_alloc _ _)).trans (pure_alloc _ _);have HK0 := Lib.hid K0;have HK1 := Lib.hid K1;have HK2 := Lib.hid K2;have HM0 := Lib.hid M0;clear hv hr hT hin hcf B0 K0 K1 K2 M0
 go_enter Tryz.func71, Tryz.ntmps71
 go_wp2_with fail
 clear hst q0 q1;generalize (((w.alloc (.cells #[.map (some bi), .map (some bk), .slice At nt ct] 116)).alloc (.cells #[.slice Ar nr cr] 29)).alloc (.cells #[(.func (.func 128) #[] #[.pointer (some ⟨w.heap.size + 1, 0, none⟩), .pointer (some ⟨w.heap.size, 0, none⟩)])] 129)) = W1 at *;refine (minFunc_calls W1 _ x0 xs 130 _ _ (prF2 l ranks) (HV.out.pure HM0.out) (fun x y W => HCF.out x y _ _ W) ?_).mono ?_
 ·intro sa sb W ha hb hW;obtain ⟨i, hi, rfl⟩ := HI.out _ ha;obtain ⟨j, hj, rfl⟩ := HI.out _ hb;have hLI : ∀ q (hq : q < l.length) (W' : World), Pure w W' → LookIt W' bi l[q].id l[q] := fun q hq W' hP W2 h2 => (HT.out.pure (hP.trans h2)).par hR hq (by have := (hz _ (List.getElem_mem hq)).1; omega);have hPW := HM0.out.trans hW;have hB : ∀ W', Pure W1 W' → TrB W' w.heap.size bi bk At nt ct := fun W' h => HK0.out.modp h;have hK : ∀ W', Pure W1 W' → W'.cell? ⟨w.heap.size + 1, 0, none⟩ = some (.slice Ar nr cr) := fun W' h => (HK1.out.modp h).cell 0;have hF : W.cell? ⟨w.heap.size + 1 + 1, 0, none⟩ = some (prF (w.heap.size + 1) w.heap.size) := (HK2.out.modp hW).cell 0;have h1 := rankI_le ranks l[i].cust;have h2 := rankI_le ranks l[j].cust
  have := prim2_calls W (w.heap.size + 1 + 1) (w.heap.size + 1) w.heap.size bi bk nt ct At l[i].id l[j].id l[i] l[j] (rankI ranks l[i].cust) (rankI ranks l[j].cust) hF (hB W hW) (hLI i hi W hPW) (hLI j hj W hPW)
   (fun W' h => prim1_calls W' _ _ bi bk nt ct At _ ranks _ _ (hK W' (hW.trans h)) (HR.out.pure (hPW.trans h)) (hB W' (hW.trans h)) (hLI i hi W' (hPW.trans h)))
   (fun W' h => prim1_calls W' _ _ bi bk nt ct At _ ranks _ _ (hK W' (hW.trans h)) (HR.out.pure (hPW.trans h)) (hB W' (hW.trans h)) (hLI j hj W' (hPW.trans h)))
   (by omega) (by omega) (htm _ (List.getElem_mem hi)) (htm _ (List.getElem_mem hj))
  unfold prF2;rw [itmOf_self hR hi, itmOf_self hR hj];exact this
 ·rintro e w2 ⟨rfl, m2⟩;have hm := HM0.out.trans m2
  go_wp2_with fail
  go_ret;exact ⟨rfl, hm⟩
end Go.Proofs.YtgfgggeeoeppjaaGreatDoor
/- Groups of families in memory; equal groups. -/
namespace Go.Proofs.YtgfgggeeoeppjaaGreatDoor
open Go.RowKit
abbrev Gm := Str × Str × Value × List Str
def gmV (xs : List Gm) : List Value := xs.flatMap fun p => [.string ⟨p.1.toArray⟩, .string ⟨p.2.1.toArray⟩, p.2.2.1]
theorem gmV_len : ∀ xs : List Gm, (gmV xs).length = xs.length * 3
 | [] => rfl
 | x :: xs => by
  have := gmV_len xs;simp only [gmV, List.flatMap_cons, List.length_append, List.length_cons, List.length_nil] at *
  omega
theorem gmV_get : ∀ (xs : List Gm) (i : Nat) (h : i < xs.length), (gmV xs)[i * 3]? = some (.string ⟨xs[i].1.toArray⟩) ∧ (gmV xs)[i * 3 + 1]? = some (.string ⟨xs[i].2.1.toArray⟩) ∧ (gmV xs)[i * 3 + 2]? = some xs[i].2.2.1
 | [], i, h => absurd h (by simp)
 | x :: xs, 0, h => by simp [gmV]
 | x :: xs, i + 1, h => by
  have := gmV_get xs i (by simpa using h)
  have e : (i + 1) * 3 = i * 3 + 1 + 1 + 1 := by omega
  simp only [gmV, List.flatMap_cons, List.cons_append, List.nil_append, e, List.getElem?_cons_succ, List.getElem_cons_succ];exact this
theorem gmV_snoc (xs : List Gm) (p : Gm) : gmV (xs ++ [p]) = gmV xs ++ [.string ⟨p.1.toArray⟩, .string ⟨p.2.1.toArray⟩, p.2.2.1] := by simp [gmV]
def gmS (xs : List Gm) : List (Str × Str × List Str) := xs.map fun p => (p.1, p.2.1, p.2.2.2)
def GmR (w : World) (v : Value) (xs : List Gm) : Prop := Sl w 69 3 v (gmV xs) ∧ ∀ p ∈ xs, Sl w 9 1 p.2.2.1 (strsV p.2.2.2)
theorem GmR.pure {w w' : World} {v : Value} {xs : List Gm} (h : GmR w v xs) (hm : Pure w w') : GmR w' v xs := ⟨h.1.pure hm, fun p hp => (h.2 p hp).pure hm⟩
theorem info_grp : (Tryz.prog.info? 69).map (fun i => (i.zero, i.size, i.bytes)) = some (some (.agg #[.string ⟨#[]⟩, .string ⟨#[]⟩, .slice none 0 0]), 3, 56) := by kernel_rfl
theorem GmR.at {w : World} {A : Option Addr} {n c : Nat} {xs : List Gm} (h : GmR w (.slice A n c) xs) {k : Nat} (hk : k < xs.length) :
  ∃ g off B m d, A = some ⟨g, off, none⟩ ∧ w.cell? ⟨g, off + k * 3, none⟩ = some (.string ⟨xs[k].1.toArray⟩) ∧ w.cell? ⟨g, off + k * 3 + 1, none⟩ = some (.string ⟨xs[k].2.1.toArray⟩) ∧ w.cell? ⟨g, off + k * 3 + 2, none⟩ = some (.slice B m d) ∧ xs[k].2.2.1 = .slice B m d ∧ Sl w 9 1 (.slice B m d) (strsV xs[k].2.2.2) := by
 have hs := h.2 _ (List.getElem_mem hk);obtain ⟨B, m, d, hu⟩ := hs.form;obtain ⟨A', n', c', hf, _, _, hl, hr⟩ := h.1
 injection hf with e1 e2 e3
 subst e1 e2 e3;rw [gmV_len] at hl;obtain ⟨g, off, rfl, hrow⟩ := hr (by omega);obtain ⟨g1, g2, g3⟩ := gmV_get xs k hk;refine ⟨g, off, B, m, d, rfl, hrow.cell g1, hrow.cell g2, ?_, hu, by rw [← hu]; exact hs⟩;have := hrow.cell g3;rw [hu] at this;exact this
theorem GmR.len {w : World} {A : Option Addr} {n c : Nat} {xs : List Gm} (h : GmR w (.slice A n c) xs) : xs.length = n ∧ n ≤ 9223372036854775807 := by
 obtain ⟨A', n', c', hf, h4, h5, hl, _⟩ := h.1
 injection hf with e1 e2 e3
 rw [gmV_len] at hl
 omega
theorem gmS_at {xs ys : List Gm} (h : gmS xs = gmS ys) : xs.length = ys.length ∧ ∀ k (h1 : k < xs.length) (h2 : k < ys.length), xs[k].1 = ys[k].1 ∧ xs[k].2.1 = ys[k].2.1 ∧ xs[k].2.2.2 = ys[k].2.2.2 := by
 have hl : xs.length = ys.length := by simpa [gmS] using congrArg List.length h
 refine ⟨hl, fun k h1 h2 => ?_⟩;have := congrArg (fun l => l[k]?) h
 simpa [gmS, h1, h2] using this
set_option maxHeartbeats 2000000 in
theorem sameGrp_calls (w : World) (a p : Str) (v1 v2 : Value) (xs : List Str) (h1 : Sl w 9 1 v1 (strsV xs)) (h2 : Sl w 9 1 v2 (strsV xs)) :
  Calls Tryz.prog 35 #[.agg #[.string ⟨a.toArray⟩, .string ⟨p.toArray⟩, v1], .agg #[.string ⟨a.toArray⟩, .string ⟨p.toArray⟩, v2]] w (BoolPost w true) := by
 have h1' := h1.pure ((pure_alloc w (.cells #[.string ⟨a.toArray⟩, .string ⟨p.toArray⟩, v1] 69)).trans (pure_alloc _ (.cells #[.string ⟨a.toArray⟩, .string ⟨p.toArray⟩, v2] 69)));have h2' := h2.pure ((pure_alloc w (.cells #[.string ⟨a.toArray⟩, .string ⟨p.toArray⟩, v1] 69)).trans (pure_alloc _ (.cells #[.string ⟨a.toArray⟩, .string ⟨p.toArray⟩, v2] 69)));have HE := Lib.hid (equalS_calls _ v1 v2 xs h1' h2');have hm : Pure w ((w.alloc (.cells #[.string ⟨a.toArray⟩, .string ⟨p.toArray⟩, v1] 69)).alloc (.cells #[.string ⟨a.toArray⟩, .string ⟨p.toArray⟩, v2] 69)) := (pure_alloc _ _).trans (pure_alloc _ _);have HM := Lib.hid hm;obtain ⟨A1, n1, c1, rfl⟩ := h1.form;obtain ⟨A2, n2, c2, rfl⟩ := h2.form
 have hse : (a == a) = true := by simp
 have hsp : (p == p) = true := by simp
 clear h1 h2 h1' h2' hm
 go_enter Tryz.func35, Tryz.ntmps35
 go_wp2_with fail
 refine HE.out.mono ?_;rintro e w1 ⟨rfl, m1⟩
 go_wp2_with fail
 go_ret;exact BoolPost.of rfl (HM.out.trans m1)
set_option maxHeartbeats 2000000 in
theorem equalGrp_calls (w : World) (v1 v2 : Value) (xs ys : List Gm) (h1 : GmR w v1 xs) (h2 : GmR w v2 ys) (hxy : gmS xs = gmS ys) :
  Calls Tryz.prog 33 #[v1, v2, .func (.func 35) #[] #[]] w (BoolPost w true) := by
 obtain ⟨A1, n1, c1, rfl⟩ := h1.1.form;obtain ⟨A2, n2, c2, rfl⟩ := h2.1.form;obtain ⟨hn1, hb1⟩ := h1.len;obtain ⟨hn2, hb2⟩ := h2.len;obtain ⟨hl, HX⟩ := gmS_at hxy;have HX := Lib.hid HX;subst hn1
 have hl2 : n2 = xs.length := by omega
 subst hl2;have H1 := Lib.hid h1;have H2 := Lib.hid h2;have hly := Nat.le_of_eq hl
 have hne : ((xs.length : Int) != (xs.length : Int)) = false := by simp
 have hcf : ∀ (x y : Value) (W : World), Sem.run Tryz.prog (callFunc 35 #[x, y]) W = .ok (.enter 35 #[x, y]) W := fun _ _ _ => rfl;clear h1 h2 hn2 hl hxy
 go_enter Tryz.func33, Tryz.ntmps33
 go_wp2_with fail
 go_loopg [17] xs.length (fun gk i wr => ∃ k : Nat, xs.length - k = gk ∧ k ≤ xs.length ∧ i = .int .i64 (k : Int) ∧ Pure w wr)
 case atStart => exact ⟨0, by omega, by omega, rfl, Mod.refl _ _⟩
 case round =>
  obtain ⟨k, rfl, hk, rfl, hm⟩ := hrel
  by_cases hlt : k < xs.length
  ·have hky : k < ys.length := by omega
   obtain ⟨g1, o1, B1, m1, d1, rfl, q1, q1', q1'', _, s1⟩ := (H1.out.pure hm).at hlt;obtain ⟨g2, o2, B2, m2, d2, rfl, q2, q2', q2'', _, s2⟩ := (H2.out.pure hm).at hky;obtain ⟨e1, e2, e3⟩ := HX.out k hlt hky;rw [← e1] at q2;rw [← e2] at q2';rw [← e3] at s2;clear e1 e2 e3;generalize xs[k].1 = a at *;generalize xs[k].2.1 = p at *;generalize xs[k].2.2.2 = bs at *;have hp : Pure wr ((wr.alloc (.cells #[.string ⟨a.toArray⟩, .string ⟨p.toArray⟩, .slice B1 m1 d1] 69)).alloc (.cells #[.string ⟨a.toArray⟩, .string ⟨p.toArray⟩, .slice B2 m2 d2] 69)) := (pure_alloc _ _).trans (pure_alloc _ _);have HS := Lib.hid (sameGrp_calls _ a p _ _ _ (s1.pure hp) (s2.pure hp));have hM := Lib.hid (hm.trans hp)
   have i1 : (0 : Int) ≤ (k : Int) := by omega
   have i2 : (k : Int) < (xs.length : Int) := by omega
   have q3 := cell_alloc q2 (.cells #[.string ⟨a.toArray⟩, .string ⟨p.toArray⟩, .slice B1 m1 d1] 69);have q4 := cell_alloc q2' (.cells #[.string ⟨a.toArray⟩, .string ⟨p.toArray⟩, .slice B1 m1 d1] 69);have q5 := cell_alloc q2'' (.cells #[.string ⟨a.toArray⟩, .string ⟨p.toArray⟩, .slice B1 m1 d1] 69);clear s1 s2 hp hm q2 q2' q2''
   go_wp2_with fail
   refine HS.out.mono ?_;rintro e w1 ⟨rfl, hm1⟩
   go_wp2_with fail
   go_roundg (xs.length - (k + 1))
   case measure => omega
   case rel => exact ⟨k + 1, rfl, by omega, by simp, hM.out.trans hm1⟩
  ·have hke : k = xs.length := by omega
   subst hke
   go_wp2_with fail
   go_ret;exact BoolPost.of rfl hm
end Go.Proofs.YtgfgggeeoeppjaaGreatDoor
/- Groups of package intake. -/
namespace Go.Proofs.YtgfgggeeoeppjaaGreatDoor
open Go.RowKit
def kfI (l : List Itm) (each : Bool) (s : Str) : Pk := (fsI l 4 (idxId l s), if each = true then (itmOf l s).cust else [])
def grpT (g : GrpR Pk) : Str × Str × List Str := (g.key.1, g.prim, g.tops)
def groupsS (l : List Itm) (ranks : List Str) (each : Bool) : List (Str × Str × List Str) := (grpsK (kfI l each) (prF2 l ranks) (topsS l) (topsS l).length).map grpT
def grE (l : List Itm) (ranks : List Str) : Int := firstErr [itsE itemE l, rnkE ranks]
def GrPost (w : World) (l : List Itm) (ranks : List Str) (each : Bool) (e : Ending) (w' : World) : Prop :=
 ∃ v, e = .returned (.tuple #[v, .int .i64 (grE l ranks)]) ∧ (grE l ranks ≠ 0 → v = nilS) ∧ (grE l ranks = 0 → ∃ gs, GmR w' v gs ∧ gmS gs = groupsS l ranks each) ∧ Pure w w'
theorem itemE_tm {x : Itm} (h : itemE x = 0) : 0 ≤ x.tm ∧ x.tm ≤ 1000000000 := by
 unfold itemE at h
 split at h
 ·omega
 split at h
 ·omega
 split at h
 ·omega
 split at h
 ·omega
 split at h
 ·omega
 rename_i h5
 simp at h5;have := inB_true h5
 omega
theorem items_tms {l : List Itm} (h : itsE itemE l = 0) : ∀ x ∈ l, 0 ≤ x.tm ∧ x.tm ≤ 1000000000 := by
 unfold itsE at h
 split at h
 ·omega
 split at h
 ·rename_i h2; exact absurd h h2
 rename_i h2
 have h2 : ordE itemE [] l = 0 := by simpa using h2
 exact fun x hx => itemE_tm (ordE_gt h2 x hx).1
theorem zero_strsG (W : World) : (zeroValue 29).run Tryz.prog W = .ok nilS W := by kernel_rfl
theorem eql_nilG (W : World) (n c : Nat) : Sem.run Tryz.prog (binOp BinOp.eql 29 (.slice none n c) (.slice none 0 0)) W = .ok (.bool true) W := by kernel_rfl
theorem eql_someG (W : World) (a : Addr) (n c : Nat) : Sem.run Tryz.prog (binOp BinOp.eql 29 (.slice (some a) n c) (.slice none 0 0)) W = .ok (.bool false) W := by kernel_rfl
def GmO (w : World) (base : Nat) (A : Option Addr) (c : Nat) (gs : List Gm) : Prop := w.ownsRow base 69 3 (.slice A gs.length c) gs.length (gmV gs)
theorem GmO.pure {w w' : World} {base : Nat} {A : Option Addr} {c : Nat} {gs : List Gm} (h : GmO w base A c gs) (hm : Pure w w') : GmO w' base A c gs := own_pure h hm
theorem gmO_app {w : World} {base g c : Nat} {gs : List Gm} {a b : Str} {v : Value} {tops : List Str} (h : w.ownsRow base 69 3 (.slice (some ⟨g, 0, none⟩) (gs.length + 1) c) (gs.length + 1) (gmV gs ++ [.string ⟨a.toArray⟩, .string ⟨b.toArray⟩, v])) : GmO w base (some ⟨g, 0, none⟩) c (gs ++ [(a, b, v, tops)]) := by
 unfold GmO;rw [gmV_snoc]
 simpa using h
def GsRel (w : World) (base bm gt bi bk : Nat) (At : Option Addr) (ct : Nat) (l : List Itm) (each : Bool) (gk : Nat) (x i : Value) (wr : World) : Prop :=
 ∃ (k n : Nat) (V : Pk → Option Value) (Ao : Option Addr) (cap : Nat), (topsS l).length - k = gk ∧ k ≤ (topsS l).length ∧ x = .slice Ao (ordK (kfI l each) (topsS l) k).length cap ∧ i = .int .i64 (k : Int) ∧ n ≤ k ∧
  GrpM wr base bm n k V (fun p => clsK (kfI l each) (topsS l) k p) (.slice Ao (ordK (kfI l each) (topsS l) k).length cap) (ordK (kfI l each) (topsS l) k) ∧ Blk wr gt 116 #[.map (some bi), .map (some bk), .slice At (topsS l).length ct] ∧ Pure w wr ∧ base ≤ wr.heap.size
set_option maxHeartbeats 8000000 in
theorem groups_calls (w : World) (v vr : Value) (l : List Itm) (ranks : List Str) (each : Bool) (hv : Its w v l) (hz : ∀ x ∈ l, ItB x) (hl : l.length ≤ 2000) (hr : Sl w 9 1 vr (strsV ranks)) (hrz : ∀ s ∈ ranks, s.length ≤ 1000) (hrl : ranks.length ≤ 1000000) (hE : Env w) (hD : Deb w) :
  Calls Tryz.prog 28 #[v, vr, .bool each] w (GrPost w l ranks each) := by
 obtain ⟨i0, hi0, hz0, hz1, hz2⟩ := info_parts info_str7;have hmm := @run_makeMap Tryz.prog;have HCH := Lib.hid (check_calls w v l hv hz hl hE);have HNT := Lib.hid (fun W (h : Pure w W) hd => newTree_calls W v l (hv.pure h) hz hd hl);have HTS := Lib.hid (fun hR bi bk At nt ct => tsum_calls l hR hz bi bk At nt ct 4);have HDB : Hid (∀ W, Pure w W → Deb W) := Lib.hid (fun W h => hD.pure h);have HZ := Lib.hid hz;have HRZ := Lib.hid hrz;have HRS : Hid (∀ W, Pure w W → Sl W 9 1 vr (strsV ranks)) := Lib.hid (fun W h => hr.pure h);have HRT := Lib.hid (fun h => right_items (l := l) h);have HTM := Lib.hid (fun h => items_tms (l := l) h);obtain ⟨A, n, c, rfl⟩ := Sl.form hv;obtain ⟨Ar, nr, cr, rfl⟩ := hr.form;have hnr : ranks.length = nr := hr.lenS;subst hnr;obtain ⟨e1, he1⟩ : ∃ e1, itsE itemE l = e1 := ⟨_, rfl⟩;rw [he1] at HCH HRT HTM;obtain ⟨e2, he2⟩ : ∃ e2 : Int, (if decide (200 < (ranks.length : Int)) = true then (2 : Int) else 0) = e2 := ⟨_, rfl⟩;have HE2 := Lib.hid he2;obtain ⟨er, her⟩ : ∃ er, firstErr [e1, e2] = er := ⟨_, rfl⟩;have HFE := Lib.hid (fun W g c hb => firstE_calls W g c [e1, e2] hb (by simp));rw [her] at HFE
 have HGE : Hid (er ≠ 0 → grE l ranks = er) := Lib.hid (fun h => by
  unfold grE rnkE;rw [he1];rw [← her] at h ⊢
  by_cases h1 : e1 = 0
  ·subst h1
   by_cases hb : 200 < ranks.length
   ·have hb2 : 200 < (ranks.length : Int) := by omega
    rw [if_pos hb, ← he2, if_pos (by simpa using hb2)]
   ·have hb2 : ¬ 200 < (ranks.length : Int) := by omega
    exfalso
    rw [← he2, if_neg (by simpa using hb2)] at h;exact h rfl
  ·simp [firstErr, h1])
 have HGZ : Hid (er = 0 → e1 = 0 ∧ ranks.length ≤ 200 ∧ grE l ranks = chsE ranks) := Lib.hid (fun h => by
  rw [← her] at h
  have h1 : e1 = 0 := by
   by_cases h1 : e1 = 0
   ·exact h1
   ·simp [firstErr, h1] at h
  subst h1
  have hb : ¬ 200 < ranks.length := fun hb => by
   have hb2 : 200 < (ranks.length : Int) := by omega
   rw [← he2, if_pos (by simpa using hb2)] at h;simp [firstErr] at h
  refine ⟨rfl, by omega, ?_⟩;unfold grE rnkE;rw [he1, if_neg hb]
  by_cases h2 : chsE ranks = 0
  ·rw [h2]; rfl
  ·simp [firstErr, h2])
 have HE1 := Lib.hid he1;clear hv hz hE hD he1 he2 her hr hrz
 go_enter Tryz.func28, Tryz.ntmps28
 go_wp2_with fail
 refine HCH.out.mono ?_;rintro e w1 ⟨rfl, m1⟩;have HM1 := Lib.hid m1;clear HCH m1
 go_wp2_with fail
 refine (whenQ_calls _ _ _ e2 HE2.out).mono ?_;rintro e w2 ⟨rfl, m2⟩;have HM2 := Lib.hid (HM1.out.trans m2);clear HM1 m2 HE2;have HFC := Lib.hid (HFE.out _ _ 2 ((Blk.new w2 33 #[.int .i64 e1, .int .i64 e2]).row0));clear HFE
 go_wp2_with fail
 refine HFC.out.mono ?_;rintro e w3 ⟨rfl, m3⟩;have HM3 := Lib.hid (HM2.out.trans ((pure_alloc w2 (.cells #[.int .i64 e1, .int .i64 e2] 33)).trans m3));clear HFC HM2 m3
 by_cases h0 : er = 0
 rotate_left
 ·have h0' : (er != 0) = true := by simpa using h0
  have HG := Lib.hid (HGE.out h0);clear HGE HGZ HNT HTS HRT HTM
  go_wp2_with fail
  refine bodyPost_ret (v := .tuple #[.slice none 0 0, .int .i64 er]) (by simp [results, Tryz.results28, go_sem]) rfl ?_;exact ⟨_, by rw [HG.out], fun _ => rfl, fun h => absurd (HG.out.symm.trans h) h0, HM3.out⟩
 subst h0;obtain ⟨hz1', hrl2, hge⟩ := HGZ.out rfl;subst hz1';have HGC := Lib.hid hge;have HR0 := Lib.hid (HRT.out rfl);have HTM0 := Lib.hid (HTM.out rfl);clear HGZ HGE hge HRT HTM hrl
 go_wp2_with fail
 go_loopg [35] ranks.length (fun gk i wr => ∃ k : Nat, ranks.length - k = gk ∧ k ≤ ranks.length ∧ i = .int .i64 (k : Int) ∧ errsFrom (chE ranks) ranks.length k = chsE ranks ∧ Pure w wr)
 case atStart => exact ⟨0, by omega, by omega, rfl, rfl, HM3.out⟩
 case round =>
  clear HM3;obtain ⟨j, rfl, hj, rfl, hjx, hmj⟩ := hrel;have HJX := Lib.hid hjx;clear hjx
  by_cases hjl : j < ranks.length
  ·obtain ⟨A', n', c', e1', hc1, hc2, hl1, hr1⟩ := HRS.out wr hmj
   injection e1' with e1' e2' e3'
   subst e1' e2' e3';obtain ⟨gs, offs, rfl, hrs⟩ := hr1 (by omega);have hq := hrs.cell (strsV_get ranks j hjl);have HTK := Lib.hid (slTake hrs hj (by omega : j ≤ cr) hc2);have hi3 := errsFrom_step (chE ranks) hjl;rw [HJX.out] at hi3;have HI3 := Lib.hid hi3;have HCE := Lib.hid (chE_at hjl);have hzs := HRZ.out _ (List.getElem_mem hjl);generalize ranks[j] = s at *;have HCS := Lib.hid (fun W (h : Pure wr W) => containsQs_calls W _ _ s (HTK.out.pure h));simp only [any_memT] at HCS;obtain ⟨tw2, htw2⟩ : ∃ tw, decide (s ∈ ranks.take j) = tw := ⟨_, rfl⟩;rw [htw2] at HCS;obtain ⟨kb2, hkb⟩ : ∃ kb, keyB s = kb := ⟨_, rfl⟩;obtain ⟨e5, he5⟩ : ∃ e : Int, (if (!kb2) = true then (5 : Int) else 0) = e := ⟨_, rfl⟩;obtain ⟨e6, he6⟩ : ∃ e : Int, (if tw2 = true then (6 : Int) else 0) = e := ⟨_, rfl⟩;obtain ⟨fe, hfe⟩ : ∃ fe : Int, firstErr [e5, e6] = fe := ⟨_, rfl⟩;have HKB := Lib.hid hkb;have HE5 := Lib.hid he5;have HE6 := Lib.hid he6
   have HF1 : Hid (∀ (W : World) (g : Nat), Blk W g 33 #[.int .i64 e5, .int .i64 e6] → Calls Tryz.prog 55 #[.slice (some ⟨g, 0, none⟩) 2 2] W (IntPost W fe)) := Lib.hid (fun W g h => by
    rw [← hfe]
    exact firstE_calls W g 2 [e5, e6] h.row0 (by simp))
   have HFE : Hid (chE ranks j = fe) := Lib.hid (by
    rw [HCE.out, hkb, ← hfe, ← he5, ← he6, ← htw2]
    cases kb2
    ·rfl
    ·by_cases hin : s ∈ ranks.take j
     ·have z : decide (s ∈ ranks.take j) = true := by simpa using hin
      rw [z, if_neg (by simp), if_pos hin]; rfl
     ·have z : decide (s ∈ ranks.take j) = false := by simpa using hin
      rw [z, if_neg (by simp), if_neg hin]; rfl)
   clear hkb he5 he6 hfe htw2 HCE hi3 hr1 hl1 hrs HJX
   go_upto_region 7 with (fail)
   have HGs := Lib.hid (show ∀ (D : Nat → Bool) (zzi : Nat) (zq zq' : World), (fun _ zq => (fun Z => ∃ hz : Nat, hz = Z.heap.size) zq) D zq → Mod (fun _ => False) zq zq' → (fun _ zq => (fun Z => ∃ hz : Nat, hz = Z.heap.size) zq) (upd D zzi true) zq' from by intro D zzi zq zq' h hm; (exact ⟨_, rfl⟩))
   refine wp_region_inv (by kernel_rfl) (by kernel_rfl) (InvF (R := Mod (fun _ => False)) [.is (.string ⟨s.toArray⟩),
     .is (.bool kb2),
     .is (.bool (!kb2)),
     .is (.int .i64 e5),
     .is (.slice (some ⟨gs, offs, none⟩) ranks.length cr),
     .is (.int .i64 (j : Int)),
     .is (.slice (some ⟨gs, offs, none⟩) j cr),
     .is (.string ⟨s.toArray⟩),
     .is (.bool tw2),
     .is (.int .i64 e6),
     ⟨fun zv zw => ∃ (g_10 : Nat), zv = .slice (some ⟨g_10, 0, none⟩) 2 2 ∧ wr.heap.size ≤ g_10 ∧ Blk zw g_10 33 #[.int .i64 e5, .int .i64 e6], (by rintro zv zw zx ⟨g_10, rfl, c0, q0⟩ hm; exact ⟨g_10, rfl, c0, (q0.modp hm)⟩), none, some 11⟩,
     .is (.int .i64 fe),
     .is (.int .i64 fe)]
     (PB wr (fun _ => False) wr.heap.size (fun _ zq => (fun Z => ∃ hz : Nat, hz = Z.heap.size) zq))) (InvF.start (PB.start (Mod.refl _ _) (Nat.le_refl _) (⟨_, rfl⟩))) ?_ ?_
   ·refine .cons ?_ (.cons ?_ (.cons ?_ (.cons ?_ (.cons ?_ (.cons ?_ (.cons ?_ (.cons ?_ (.cons ?_ (.cons ?_ (.cons ?_ (.cons ?_ (.cons ?_ .nil))))))))))))
    ·intro D V zw1 a hR hI K hK;obtain ⟨hM1, hB1, hG1⟩ := hI.1;have ze10 := hR.frame.other (t := 10) (by kernel_rfl) rfl;rw [if_pos (by rfl)];go_simp;exact hK (.string ⟨s.toArray⟩) _ (hI.next hR (by kernel_rfl) (Mod.refl _ _) (PB.quiet hI.1 (Mod.refl _ _) (HGs.out D 0 zw1 zw1 (hI.1).g (Mod.refl _ _))) (upd_same V 0 _))
    ·intro D V zw1 a hR hI K hK;obtain ⟨hM1, hB1, hG1⟩ := hI.1;have zd0 := hR.pred 0 (by kernel_rfl);have zf0 : V 0 = .string ⟨s.toArray⟩ := hI.2 0 zd0 rfl;have ze40 := hR.frame.done (t := 40) (j := 0) (by kernel_rfl) hR.ok zd0;rw [if_pos (by rfl)];go_simp;refine (keyP_calls _ _ kb2 HKB.out hzs).mono ?_;rintro e zw2 ⟨rfl, hm2⟩;exact hK (.bool kb2) _ (hI.next hR (by kernel_rfl) hm2 (PB.quiet hI.1 hm2 (HGs.out D 1 _ _ (hI.1).g hm2)) (upd_same V 1 _))
    ·intro D V zw1 a hR hI K hK;obtain ⟨hM1, hB1, hG1⟩ := hI.1;have zd1 := hR.pred 1 (by kernel_rfl);have zf1 : V 1 = .bool kb2 := hI.2 1 zd1 rfl;have ze41 := hR.frame.done (t := 41) (j := 1) (by kernel_rfl) hR.ok zd1;rw [if_pos (by rfl)];go_simp;exact hK (.bool (!kb2)) _ (hI.next hR (by kernel_rfl) (Mod.refl _ _) (PB.quiet hI.1 (Mod.refl _ _) (HGs.out D 2 zw1 zw1 (hI.1).g (Mod.refl _ _))) (upd_same V 2 _))
    ·intro D V zw1 a hR hI K hK;obtain ⟨hM1, hB1, hG1⟩ := hI.1;have zd2 := hR.pred 2 (by kernel_rfl);have zf2 : V 2 = .bool (!kb2) := hI.2 2 zd2 rfl;have ze42 := hR.frame.done (t := 42) (j := 2) (by kernel_rfl) hR.ok zd2;rw [if_pos (by rfl)];go_simp;refine (whenQ_calls _ _ _ e5 HE5.out).mono ?_;rintro e zw2 ⟨rfl, hm2⟩;exact hK (.int .i64 e5) _ (hI.next hR (by kernel_rfl) hm2 (PB.quiet hI.1 hm2 (HGs.out D 3 _ _ (hI.1).g hm2)) (upd_same V 3 _))
    ·intro D V zw1 a hR hI K hK;obtain ⟨hM1, hB1, hG1⟩ := hI.1;have ze1 := hR.frame.other (t := 1) (by kernel_rfl) rfl;rw [if_pos (by rfl)];go_simp;exact hK (.slice (some ⟨gs, offs, none⟩) ranks.length cr) _ (hI.next hR (by kernel_rfl) (Mod.refl _ _) (PB.quiet hI.1 (Mod.refl _ _) (HGs.out D 4 zw1 zw1 (hI.1).g (Mod.refl _ _))) (upd_same V 4 _))
    ·intro D V zw1 a hR hI K hK;obtain ⟨hM1, hB1, hG1⟩ := hI.1;have ze9 := hR.frame.other (t := 9) (by kernel_rfl) rfl;rw [if_pos (by rfl)];go_simp;exact hK (.int .i64 (j : Int)) _ (hI.next hR (by kernel_rfl) (Mod.refl _ _) (PB.quiet hI.1 (Mod.refl _ _) (HGs.out D 5 zw1 zw1 (hI.1).g (Mod.refl _ _))) (upd_same V 5 _))
    ·intro D V zw1 a hR hI K hK;obtain ⟨hM1, hB1, hG1⟩ := hI.1;have zd4 := hR.pred 4 (by kernel_rfl);have zf4 : V 4 = .slice (some ⟨gs, offs, none⟩) ranks.length cr := hI.2 4 zd4 rfl;have zd5 := hR.pred 5 (by kernel_rfl);have zf5 : V 5 = .int .i64 (j : Int) := hI.2 5 zd5 rfl;have ze44 := hR.frame.done (t := 44) (j := 4) (by kernel_rfl) hR.ok zd4;have ze45 := hR.frame.done (t := 45) (j := 5) (by kernel_rfl) hR.ok zd5
     have zjc : j ≤ cr := by omega
     rw [if_pos (by rfl)];go_simp;exact hK (.slice (some ⟨gs, offs, none⟩) j cr) _ (hI.next hR (by kernel_rfl) (Mod.refl _ _) (PB.quiet hI.1 (Mod.refl _ _) (HGs.out D 6 zw1 zw1 (hI.1).g (Mod.refl _ _))) (upd_same V 6 _))
    ·intro D V zw1 a hR hI K hK;obtain ⟨hM1, hB1, hG1⟩ := hI.1;have ze10 := hR.frame.other (t := 10) (by kernel_rfl) rfl;rw [if_pos (by rfl)];go_simp;exact hK (.string ⟨s.toArray⟩) _ (hI.next hR (by kernel_rfl) (Mod.refl _ _) (PB.quiet hI.1 (Mod.refl _ _) (HGs.out D 7 zw1 zw1 (hI.1).g (Mod.refl _ _))) (upd_same V 7 _))
    ·intro D V zw1 a hR hI K hK;obtain ⟨hM1, hB1, hG1⟩ := hI.1;have zd6 := hR.pred 6 (by kernel_rfl);have zf6 : V 6 = .slice (some ⟨gs, offs, none⟩) j cr := hI.2 6 zd6 rfl;have zd7 := hR.pred 7 (by kernel_rfl);have zf7 : V 7 = .string ⟨s.toArray⟩ := hI.2 7 zd7 rfl;have ze46 := hR.frame.done (t := 46) (j := 6) (by kernel_rfl) hR.ok zd6;have ze47 := hR.frame.done (t := 47) (j := 7) (by kernel_rfl) hR.ok zd7;rw [if_pos (by rfl)];go_simp;refine (HCS.out _ hM1).mono ?_;rintro e zw2 ⟨rfl, hm2⟩;exact hK (.bool tw2) _ (hI.next hR (by kernel_rfl) hm2 (PB.quiet hI.1 hm2 (HGs.out D 8 _ _ (hI.1).g hm2)) (upd_same V 8 _))
    ·intro D V zw1 a hR hI K hK;obtain ⟨hM1, hB1, hG1⟩ := hI.1;have zd8 := hR.pred 8 (by kernel_rfl);have zf8 : V 8 = .bool tw2 := hI.2 8 zd8 rfl;have ze48 := hR.frame.done (t := 48) (j := 8) (by kernel_rfl) hR.ok zd8;rw [if_pos (by rfl)];go_simp;refine (whenQ_calls _ _ _ e6 HE6.out).mono ?_;rintro e zw2 ⟨rfl, hm2⟩;exact hK (.int .i64 e6) _ (hI.next hR (by kernel_rfl) hm2 (PB.quiet hI.1 hm2 (HGs.out D 9 _ _ (hI.1).g hm2)) (upd_same V 9 _))
    ·intro D V zw1 a hR hI K hK;obtain ⟨hM1, hB1, hG1⟩ := hI.1;have zd3 := hR.pred 3 (by kernel_rfl);have zf3 : V 3 = .int .i64 e5 := hI.2 3 zd3 rfl;have zd9 := hR.pred 9 (by kernel_rfl);have zf9 : V 9 = .int .i64 e6 := hI.2 9 zd9 rfl;have ze43 := hR.frame.done (t := 43) (j := 3) (by kernel_rfl) hR.ok zd3;have ze49 := hR.frame.done (t := 49) (j := 9) (by kernel_rfl) hR.ok zd9;rw [if_pos (by rfl)];go_simp;exact hK (_) _ (hI.next hR (by kernel_rfl) ((Mod.refl _ _).alloc _) (PB.quiet hI.1 (pure_alloc _ _) (HGs.out D 10 _ _ (hI.1).g ((Mod.refl _ _).alloc _))) (⟨_, upd_same V 10 _, (by omega), (Blk.new _ _ _)⟩))
    ·intro D V zw1 a hR hI K hK;obtain ⟨hM1, hB1, hG1⟩ := hI.1;have zd10 := hR.pred 10 (by kernel_rfl);have zF10 : ∃ (g_10 : Nat), V 10 = .slice (some ⟨g_10, 0, none⟩) 2 2 ∧ wr.heap.size ≤ g_10 ∧ Blk zw1 g_10 33 #[.int .i64 e5, .int .i64 e6] := hI.2 10 zd10 (by show (!D 11) = true; rw [hR.not]; rfl);obtain ⟨g_10, zf10, c10_0, b10_0⟩ := zF10;have ze50 := hR.frame.done (t := 50) (j := 10) (by kernel_rfl) hR.ok zd10;rw [if_pos (by rfl)];go_simp;refine (HF1.out _ _ b10_0).mono ?_;rintro e zw2 ⟨rfl, hm2⟩;exact hK (.int .i64 fe) _ (hI.next hR (by kernel_rfl) hm2 (PB.quiet hI.1 hm2 (HGs.out D 11 _ _ (hI.1).g hm2)) (upd_same V 11 _))
    ·intro D V zw1 a hR hI K hK;obtain ⟨hM1, hB1, hG1⟩ := hI.1;have zd11 := hR.pred 11 (by kernel_rfl);have zf11 : V 11 = .int .i64 fe := hI.2 11 zd11 rfl;have ze51 := hR.frame.done (t := 51) (j := 11) (by kernel_rfl) hR.ok zd11;rw [if_pos (by rfl)];go_simp;exact hK (.int .i64 fe) _ (hI.next hR (by kernel_rfl) (Mod.refl _ _) (PB.quiet hI.1 (Mod.refl _ _) (HGs.out D 12 zw1 zw1 (hI.1).g (Mod.refl _ _))) (upd_same V 12 _))
   ·intro D V w6 hD hI;obtain ⟨hM1, hB1, hG1⟩ := hI.1;have hMx := hM1;clear hM1;have hBx := hB1;clear hB1;have hGx := hG1;clear hG1;have zf0 : V 0 = .string ⟨s.toArray⟩ := hI.2 0 (hD 0 (by decide)) rfl;have zf1 : V 1 = .bool kb2 := hI.2 1 (hD 1 (by decide)) rfl;have zf2 : V 2 = .bool (!kb2) := hI.2 2 (hD 2 (by decide)) rfl;have zf3 : V 3 = .int .i64 e5 := hI.2 3 (hD 3 (by decide)) rfl;have zf4 : V 4 = .slice (some ⟨gs, offs, none⟩) ranks.length cr := hI.2 4 (hD 4 (by decide)) rfl;have zf5 : V 5 = .int .i64 (j : Int) := hI.2 5 (hD 5 (by decide)) rfl;have zf6 : V 6 = .slice (some ⟨gs, offs, none⟩) j cr := hI.2 6 (hD 6 (by decide)) rfl;have zf7 : V 7 = .string ⟨s.toArray⟩ := hI.2 7 (hD 7 (by decide)) rfl;have zf8 : V 8 = .bool tw2 := hI.2 8 (hD 8 (by decide)) rfl;have zf9 : V 9 = .int .i64 e6 := hI.2 9 (hD 9 (by decide)) rfl;have zf11 : V 11 = .int .i64 fe := hI.2 11 (hD 11 (by decide)) rfl;have zf12 : V 12 = .int .i64 fe := hI.2 12 (hD 12 (by decide)) rfl;clear hI hD HGs;simp only [frAll, Act.put, List.setIfInBounds_toArray, List.set_cons_zero, List.set_cons_succ, Nat.zero_add, Nat.reduceAdd, zf0, zf1, zf2, zf3, zf4, zf5, zf6, zf7, zf8, zf9, zf11, zf12];clear zf0 zf1 zf2 zf3 zf4 zf5 zf6 zf7 zf8 zf9 zf11 zf12;generalize V 10 = u10;clear V D;have HM6 := Lib.hid (hmj.trans hMx);clear HF1 HE5 HE6 HKB HCS hGx hmj hMx hq
    by_cases h0 : fe = 0
    ·subst h0;have HN : Hid (errsFrom (chE ranks) ranks.length (j + 1) = chsE ranks) := Lib.hid (by rw [HI3.out, if_pos HFE.out]);clear HI3 HFE
     go_wp2_with fail
     go_roundg (ranks.length - (j + 1))
     case measure => omega
     case rel => exact ⟨j + 1, rfl, hjl, by simp, HN.out, HM6.out⟩
    ·have hne : (fe != 0) = true := by simpa using h0
     have h1 : chsE ranks = fe := by rw [HI3.out, if_neg (by rw [HFE.out]; exact h0), HFE.out]
     have HG : Hid (grE l ranks = fe) := Lib.hid (HGC.out.trans h1);have H0 := Lib.hid h0;clear h0 h1 HFE HI3
     go_wp2_with fail
     refine bodyPost_ret (v := .tuple #[.slice none 0 0, .int .i64 fe]) (by simp [results, Tryz.results28, go_sem]) rfl ?_;exact ⟨_, by rw [HG.out], fun _ => rfl, fun h => absurd (HG.out.symm.trans h) H0.out, HM6.out⟩
  ·obtain rfl : j = ranks.length := by omega
   have hcz : chsE ranks = 0 := by rw [← HJX.out]; exact errsFrom_end _ _
   have HG0 : Hid (grE l ranks = 0) := Lib.hid (HGC.out.trans hcz);have HDS := Lib.hid HR0.out.distinct;have HM3 := Lib.hid hmj;clear hcz HGC HJX hmj
   go_wp2_with fail
   refine (HNT.out _ HM3.out HDS.out).mono ?_;rintro e w4 ⟨bi, bk, vt, rfl, hT, m4⟩;have m5 := HM3.out.trans m4;obtain ⟨At, nt, ct, rfl⟩ := hT.tops.form;have hnt : (topsS l).length = nt := hT.tops.lenS;subst hnt
   have htl : (topsS l).length ≤ 2000 := by
    rw [HR0.out.topsS_eq, List.length_map];unfold topsI;exact Nat.le_trans (List.length_filter_le _ _) (by simp; omega)
   have hHB := (Blk.new w4 116 #[.map (some bi), .map (some bk), .slice At (topsS l).length ct]).alloc (.map #[] 0);have hHS := MapP.made (w4.alloc (.cells #[.map (some bi), .map (some bk), .slice At (topsS l).length ct] 116));have hHP : Pure w4 ((w4.alloc (.cells #[.map (some bi), .map (some bk), .slice At (topsS l).length ct] 116)).alloc (.map #[] 0)) := (pure_alloc _ _).trans (pure_alloc _ _)
   have hsz2 : ((w4.alloc (.cells #[.map (some bi), .map (some bk), .slice At (topsS l).length ct] 116)).alloc (.map #[] 0)).heap.size = w4.heap.size + 1 + 1 := by simp
   rw [World.size_alloc] at hHS;have hbil := hT.items.lt;have HB0 := Lib.hid hHB;have HS0 := Lib.hid hHS;have HP0 := Lib.hid hHP;have HM := Lib.hid m5;have HLI : Hid (∀ W, Pure w4 W → ∀ q (hq : q < l.length), (Instr.lookup 113 (.map (some bi)) (.string ⟨l[q].id.toArray⟩) false).run Tryz.prog W = .ok (itA l[q]) W) := Lib.hid (fun W h q hq => (hT.pure h).par HR0.out hq (by have := (HZ.out _ (List.getElem_mem hq)).1; omega));have HSM : Hid (∀ W, Pure w4 W → ∀ q (hq : q < l.length), _) := Lib.hid (fun W h q hq => HTS.out HR0.out bi bk At (topsS l).length ct q hq (HR0.out.short q) W (HDB.out _ (m5.trans h)) (hT.pure h));have HTT : Hid (∀ W, Pure w4 W → Sl W 9 1 (.slice At (topsS l).length ct) (strsV (topsS l))) := Lib.hid (fun W h => hT.tops.pure h)
   have HPR : Hid (∀ W, Pure w4 W → ∀ (v : Value) (x0 : Str) (xs : List Str), Sl W 9 1 v (strsV (x0 :: xs)) → (∀ s ∈ x0 :: xs, s ∈ topsS l) → Calls Tryz.prog 71 #[.agg #[.map (some bi), .map (some bk), .slice At (topsS l).length ct], v, .slice Ar ranks.length cr] W (StrPost1 W (bestS (prF2 l ranks) xs x0))) := Lib.hid (fun W h v x0 xs hv hin =>
    primary_calls W bi bk _ ct At l ranks _ v x0 xs (hT.pure h) HR0.out HZ.out HTM0.out (HRS.out _ (m5.trans h)) (by omega) hv (fun s hs => by
     have h1 := hin s hs;rw [HR0.out.topsS_eq] at h1;obtain ⟨q, hq, rfl⟩ := List.mem_map.1 h1;have h2 := (mem_topsI.1 hq).1
     exact ⟨q, h2, (idAt2_eq h2).symm⟩))
   have HTQ : Hid (∀ k (hk : k < (topsS l).length), ∃ q, ∃ hq : q < l.length, (topsS l)[k] = l[q].id ∧ kfI l each (topsS l)[k] = (fsI l 4 q, if each = true then l[q].cust else [])) := Lib.hid (fun k hk => by
    have h1 := List.getElem_mem hk
    have h3 : (topsS l)[k] ∈ (topsI l).map (idAt2 l) := by rw [← HR0.out.topsS_eq]; exact h1
    obtain ⟨q, hq, he⟩ := List.mem_map.1 h3;have h2 := (mem_topsI.1 hq).1;rw [idAt2_eq h2] at he;refine ⟨q, h2, he.symm, ?_⟩;rw [← he];unfold kfI;rw [itmOf_self HR0.out h2];unfold idxId;rw [plc_self HR0.out.distinct q h2]
    rfl)
   have HOK : Hid (∀ s, pkOk (kfI l each s)) := Lib.hid (fun s => by
    unfold kfI pkOk;refine ⟨by simp [fsI_len], ?_⟩
    by_cases he : each = true
    ·simp only [if_pos he];unfold itmOf itmAt
     cases hx : l[idxId l s]? with
     | none => simp
     | some x =>
      have := (HZ.out x (List.mem_of_getElem? hx)).2.1;simp
      omega
    ·simp [if_neg he])
   clear HNT HTS HDB HRS HTM0 m4 m5 hT hHB hHS hHP
   go_wp2_with fail
   clear hmm;obtain ⟨gt, hgt⟩ : ∃ gt, gt = w4.heap.size := ⟨_, rfl⟩;have hgt1 := Nat.le_of_eq hgt;have hgt2 := Nat.le_of_eq hgt.symm;obtain ⟨base, hba⟩ : ∃ base, base = w4.heap.size + 1 + 1 := ⟨_, rfl⟩;have hba1 := Nat.le_of_eq hba;have hba2 := Nat.le_of_eq hba.symm;have hsz3 := Nat.le_of_eq hsz2.symm;rw [← hgt] at HB0 HS0 ⊢;clear hgt hba hsz2;generalize ((w4.alloc (.cells #[.map (some bi), .map (some bk), .slice At (topsS l).length ct] 116)).alloc (.map #[] 0)) = W at *
   go_loopg [14, 62] (topsS l).length (fun gk x i wr => GsRel w4 base (gt + 1) gt bi bk At ct l each gk x i wr)
   case atStart =>
    exact ⟨0, 0, fun _ => none, none, 0, by omega, by omega, rfl, rfl, by omega, ⟨HS0.out, fun p u h => (by cases h), fun p _ => rfl, fun p u h => (by cases h), fun p q u v g _ h => (by cases h), ⟨rfl, .inl ⟨rfl, rfl⟩⟩, by omega, fun p => by simp [clsK]⟩, HB0.out, HP0.out, by omega⟩
   case round =>
    clear HB0 HS0 HP0 hsz3 W;obtain ⟨k, nk, V, Ao, cap, rfl, hk, rfl, rfl, hnk, hG, hB, hm, hsz⟩ := hrel
    by_cases hlt : k < (topsS l).length
    ·obtain ⟨q, hq, hqe, hqk⟩ := HTQ.out k hlt;have S1 := HTT.out wr hm;obtain ⟨gr, off, rfl, hrow⟩ := S1.rowS (by omega);have q1 := hrow.cell (strsV_get (topsS l) k hlt);have HOKP := HOK.out (topsS l)[k];have HCS := Lib.hid (fun p => clsK_succ (kf := kfI l each) hlt p);have HOS := Lib.hid (ordK_succ (kf := kfI l each) hlt);have HCB := Lib.hid (fun W (h : Pure w4 W) => HSM.out W h _ hq);have HLK := Lib.hid (fun W (h : Pure w4 W) => HLI.out W h _ hq);have hcl := clsK_len (kf := kfI l each) (kfI l each (topsS l)[k]) hk;have hol := ordK_len (kf := kfI l each) (T := topsS l) k;rw [hqk] at HCS HOS HOKP hcl;rw [hqe] at q1 HCS;clear hrow S1 hqk hqe;generalize l[q] = x at *;generalize hSm : fsI l 4 q = S at *;clear hSm;generalize hks2 : ordK (kfI l each) (topsS l) (k + 1) = ks2 at *;generalize ordK (kfI l each) (topsS l) k = ks at *;generalize hF2 : clsK (kfI l each) (topsS l) (k + 1) = F2 at *;have HKS2 := Lib.hid hks2;have HF2 := Lib.hid hF2;clear hks2 hF2;generalize clsK (kfI l each) (topsS l) k = F at *;have HB1 := Lib.hid hB;have HBT := Lib.hid hB;have HG1 := Lib.hid hG;have HOL : Hid (∀ j, (Value.slice Ao ks.length cap).ownBlock = some j → j < wr.heap.size) := Lib.hid (fun j hj => (hG.tops.lt j hj).2);have HM1 := Lib.hid hm;have hbl := hB.lt;have hbm := hG.map.lt;have t0 := hB.cell 0; have t1 := hB.cell 1; have t2 := hB.cell 2; simp at t0 t1 t2;clear hB hG hm
     go_wp2_with fail
     refine (HCB.out _ HM1.out).mono ?_;rintro e w5 ⟨rfl, m5⟩;have hB5 := HB1.out.modp m5;have HB5 := Lib.hid (hB5.alloc (.cells #[.string ⟨S.toArray⟩, .string ⟨#[]⟩] 122));have hm5 := m5.trans (pure_alloc w5 (.cells #[.string ⟨S.toArray⟩, .string ⟨#[]⟩] 122));have HK5 := Lib.hid (Blk.new w5 122 #[.string ⟨S.toArray⟩, .string ⟨#[]⟩]);have hwz := m5.size;have HM5 := Lib.hid hm5;clear hB5 m5 hm5 HCB HB1 t0 t1 t2 q1
     go_upto_if 70 with (fail)
     have hC : Hid ((if each = true then x.cust else []) = (if each = true then x.cust else [])) := Lib.hid rfl;generalize hCC : (if each = true then x.cust else []) = C at *;have HCC := Lib.hid hCC;clear hCC hC;generalize hW5 : (w5.alloc (.cells #[.string ⟨S.toArray⟩, .string ⟨#[]⟩] 122)) = W5 at *;generalize hgx : w5.heap.size = gx at *;have hgx1 := Nat.le_of_eq hgx;have hgx2 := Nat.le_of_eq hgx.symm;have hgxl := HK5.out.lt;clear hgx hW5;have hlook := HLK.out W5 (HM1.out.trans HM5.out);have hfld : ∀ (a0 a1 a2 a3 a4 a5 a6 : Value) (W : World), Sem.run Tryz.prog (Instr.field 79 (.agg #[a0, a1, a2, a3, a4, a5, a6]) 1) W = .ok a1 W := fun _ _ _ _ _ _ _ _ => rfl;have hB5 := HB5.out;have hK5 := HK5.out;unfold itA at hlook
     go_cut [] (fun wx => Blk wx gx 122 #[.string ⟨S.toArray⟩, .string ⟨C.toArray⟩] ∧ Pure wr wx)
     case first =>
      cases each
      ·have hc0 := HCC.out;simp at hc0;subst hc0
       go_wp2_with fail
       go_meet;exact ⟨HK5.out, HM5.out⟩
      ·have hc0 := HCC.out;simp at hc0;subst hc0;have t0 := hB5.cell 0; have t1 := hB5.cell 1; have t2 := hB5.cell 2; simp at t0 t1 t2;have c0 := hK5.cell 0; have cf0 := hK5.frozen 0; have c1 := hK5.cell 1; have cf1 := hK5.frozen 1; simp at c0 c1;clear hB5 hK5
       go_wp2_with fail
       go_meet;refine ⟨?_, HM5.out.setCell (.inr (by show _ ≤ gx; omega)) _⟩;have := HK5.out.set 1 (.string ⟨x.cust.toArray⟩)
       simpa using this
     case rest =>
      obtain ⟨hK, hm⟩ := hcut;have hGC := HG1.out.pure hm;obtain ⟨Au, cu, hu, hu0, hu1⟩ := hGC.form (S, C);have hlook2 := hGC.map.lookup (e := 29) Tryz.underlying118 zero_strsG (S, C) HOKP;rw [hu] at hlook2;unfold pkV at hlook2;have HU := Lib.hid hu;have HU0 := Lib.hid hu0;have HU1 := Lib.hid hu1;have HGC := Lib.hid hGC;have HKC := Lib.hid hK;have HMC := Lib.hid hm;clear HG1 HB5 HK5 HM5 hu hu0 hu1 hGC hm hlook hfld hB5 hK5 HLK;have c0 := hK.cell 0; have c1 := hK.cell 1; simp at c0 c1;clear hK;simp only at hlook2
      obtain ⟨nb, hnb, HNB⟩ : ∃ nb : Bool, Sem.run Tryz.prog (binOp BinOp.eql 29 (.slice Au (F (S, C)).length cu) (.slice none 0 0)) wc = .ok (.bool nb) wc ∧ Hid (nb = true ↔ F (S, C) = []) := by
       by_cases hF : F (S, C) = []
       ·obtain ⟨h1, h2⟩ := HU0.out hF;rw [h1];exact ⟨true, eql_nilG _ _ _, Lib.hid (by simp [hF])⟩
       ·obtain ⟨g, h1⟩ := HU1.out hF;rw [h1];exact ⟨false, eql_someG _ _ _ _, Lib.hid (by simp [hF])⟩
      have HGT : Hid (∀ W, Pure wr W → Blk W gt 116 #[.map (some bi), .map (some bk), .slice (some ⟨gr, off, none⟩) (topsS l).length ct]) := Lib.hid (fun W h => HBT.out.modp h);have hownK := HGC.out.tops
      have hksl : ks.length ≤ 2000 := by omega
      go_upto_if 80 with (fail)
      go_cut [14] (fun y wx => ∃ (Ao2 : Option Addr) (cap2 : Nat), y = .slice Ao2 ks2.length cap2 ∧ GrpM wx base (gt + 1) nk k V F (.slice Ao2 ks2.length cap2) ks2 ∧ Blk wx gx 122 #[.string ⟨S.toArray⟩, .string ⟨C.toArray⟩] ∧ Blk wx gt 116 #[.map (some bi), .map (some bk), .slice (some ⟨gr, off, none⟩) (topsS l).length ct] ∧ Pure w4 wx ∧ wc.heap.size ≤ wx.heap.size)
      case first =>
       cases nb
       ·have HK2 : Hid (ks2 = ks) := Lib.hid (by rw [HOS.out, if_neg (fun h => by have := HNB.out.2 h; cases this)])
        go_wp2_with fail
        go_meet;rw [HK2.out];exact ⟨_, _, rfl, HGC.out, HKC.out, HGT.out _ HMC.out, HM1.out.trans HMC.out, Nat.le_refl _⟩
       ·have HK2 : Hid (ks2 = ks ++ [(S, C)]) := Lib.hid (by rw [HOS.out, if_pos (HNB.out.1 rfl)]);obtain ⟨i0, hi0, hz0, hz1, hz2⟩ := info_parts info_sam;have hmC := HM1.out.trans HMC.out;have hob := own_block hownK;have HOB := Lib.hid hob;clear hob
        go_wp2_with (at_builtin; refine wpList_append_lies _ rfl _ _ _ rfl base 122 i0 _ 2 32 Tryz.underlying119 hi0 hz0 hz1 hz2 rfl (by omega) (.slice Ao ks.length cap) ks.length (pksV ks) rfl (hownK.alloc _) ⟨wc.heap.size, 0, none⟩ 1 1 [.string ⟨S.toArray⟩, .string ⟨C.toArray⟩] rfl rfl (World.news_of_block (cs := #[.string ⟨S.toArray⟩, .string ⟨C.toArray⟩]) (t := 122) (fr := (0, 0)) (heap_alloc_new wc _)) (by simp [Value.oneCell']) (by omega) (by simp [maxLen]; omega) (by omega) (by have := HMC.out.size; simp; omega) (wc.heap.size + 1) (by simp) ?_; intro g5 cap5 w5 hown5 hgrow hat hlt5)
        go_meet;have hz5 := hgrow.size;simp at hz5;have pA := pure_alloc wc (.cells #[.string ⟨S.toArray⟩, .string ⟨C.toArray⟩] 122);have hG5 := (HGC.out.pure pA).top hgrow (p := (S, C)) hown5 (by simp);have hmg := grown_mod (v := .slice Ao ks.length cap) hgrow;rw [HK2.out];refine ⟨some ⟨g5, 0, none⟩, cap5, by simp, by simpa using hG5, (HKC.out.modp pA).mod hmg (fun h => by have := HOL.out _ h; omega), (HGT.out _ (HMC.out.trans pA)).mod hmg (fun h => by have := HOB.out _ h; omega), (hmC.trans pA).trans' hmg (fun i h hl => by have := HOB.out _ h; omega), by omega⟩
      case rest =>
       obtain ⟨Ao2, cap2, rfl, hG2, hK2, hB2, hm2, hsz2⟩ := hcut;clear hlook2 hnb HNB HGC HKC HMC HGT hownK HU0 HU1 HOL c0 c1;have hf2 := hG2.few (S, C);have pA := pure_alloc wc (.cells #[.string ⟨x.id.toArray⟩] 9);have hNB := Blk.new wc 9 #[.string ⟨x.id.toArray⟩]
       have hszA : (wc.alloc (.cells #[.string ⟨x.id.toArray⟩] 9)).heap.size = wc.heap.size + 1 := by simp
       have hGA := hG2.pure pA;have hbml := hG2.map.lt;obtain ⟨st, wE, hent, hmE, hEP⟩ := hGA.map.entry (e := 29) Tryz.underlying118 zero_strsG (by omega) (S, C) HOKP;have ownU := hGA.atE hmE (S, C);rw [HU.out] at hent ownU;unfold pkV goInt at hent;simp only at hent;have hNE := hNB.mod hmE (by omega);have hzE := hmE.size
       have hbaE : base ≤ wE.heap.size := by omega
       have HE := Lib.hid hmE;have HEP := Lib.hid hEP;have HGA := Lib.hid hGA;have HB2 := Lib.hid (hB2.modp pA);have HM2 := Lib.hid (hm2.trans pA);have HSZA1 := Nat.le_of_eq hszA;have HSZA2 := Nat.le_of_eq hszA.symm;have hobU := own_block ownU;have HOBU := Lib.hid hobU;have hblU := fun j => own_lt ownU (g := j);have HBLU := Lib.hid hblU;have c0 := hK2.cell 0; have c1 := hK2.cell 1; simp at c0 c1;generalize hFp : F (S, C) = Fp at *;have HFP := Lib.hid hFp
       have hfl : Fp.length ≤ 2000 := by omega
       clear hG2 hK2 hB2 hm2 pA hNB hszA hGA hmE hEP hobU hblU hFp;obtain ⟨i0, hi0, hz0, hz1, hz2⟩ := info_parts info_str7;have hNEc := hNE.cell 0
       have hcell : ∀ j u, [Value.string ⟨x.id.toArray⟩][j]? = some u → wE.cell? ((⟨wc.heap.size, 0, none⟩ : Addr).add j) = some u := fun j u hju => by
        cases j with
        | zero => simp at hju; subst hju; simpa [Addr.add] using hNEc
        | succ j => simp at hju
       have HCEL := Lib.hid hcell;clear hcell hNEc hNE
       go_wp2_with (at_builtin; refine wpList_append_lies _ rfl _ _ _ rfl base 9 i0 _ 1 16 Tryz.underlying29 hi0 hz0 hz1 hz2 rfl (by omega) (.slice Au Fp.length cu) Fp.length (strsV Fp) rfl ownU ⟨wc.heap.size, 0, none⟩ 1 1 [.string ⟨x.id.toArray⟩] rfl rfl HCEL.out (by simp [Value.oneCell']) (by omega) (by simp [maxLen]; omega) (by omega) hbaE wE.heap.size rfl ?_; intro g5 cap5 w5 hown5 hgrow hat hlt5; obtain ⟨w6, hes, hM6, hm6⟩ := HEP.out w5 (.slice (some ⟨g5, 0, none⟩) (Fp.length + 1) cap5) (hgrow.block (gt + 1) (by omega) (fun h => by have := HOBU.out _ h.symm; omega)); unfold goInt at hes; have HM6 := Lib.hid hM6; have Hm6 := Lib.hid hm6; clear hM6 hm6)
       go_roundg ((topsS l).length - (k + 1))
       case measure => omega
       case rel =>
        have hgm := grown_mod (v := .slice Au Fp.length cu) hgrow;have hg5 := hgrow.size
        have hat' : (Value.slice (some ⟨g5, 0, none⟩) (Fp.length + 1) cap5).ownBlock = ((V (S, C)).getD nilS).ownBlock ∨ (Value.slice (some ⟨g5, 0, none⟩) (Fp.length + 1) cap5).ownBlock = some wE.heap.size := by
         rw [HU.out]
         rcases hat with h | h
         ·exact .inl h.symm
         ·exact .inr (by rw [h]; rfl)
        have hGP := HGA.out.putE HE.out (p := (S, C)) (id := x.id) (by rw [HU.out]; exact hgrow) (by rw [HFP.out]; exact hown5) hat' (Nat.le_refl _) HM6.out Hm6.out
        have hFF : (fun y => if y = (S, C) then F (S, C) ++ [x.id] else F y) = fun y => clsK (kfI l each) (topsS l) (k + 1) y := by
         rw [HF2.out]
         funext y
         rw [HCS.out y]
         by_cases hy : y = (S, C)
         ·rw [if_pos hy, if_pos hy, hy]
         ·rw [if_neg hy, if_neg hy]
        rw [hFF] at hGP;have hB6 := ((HB2.out.mod HE.out (by omega)).mod hgm (fun h => by have := HOBU.out _ h; omega)).mod Hm6.out (by omega);have hP6 := ((HM2.out.trans' HE.out (fun i h hl => by omega)).trans' hgm (fun i h hl => by have := HOBU.out _ h; omega)).trans' Hm6.out (fun i h hl => by omega);have hz6 := Hm6.out.size;refine ⟨k + 1, nk + 1, fun y => if y = (S, C) then some (.slice (some ⟨g5, 0, none⟩) (Fp.length + 1) cap5) else V y, Ao2, cap2, rfl, by omega, by rw [HKS2.out], by simp, by omega, ?_, hB6, hP6, by omega⟩;rw [HKS2.out];exact hGP
    ·obtain rfl : k = (topsS l).length := by omega
     have HKOK : Hid (∀ j (hj : j < (ordK (kfI l each) (topsS l) (topsS l).length).length), pkOk (ordK (kfI l each) (topsS l) (topsS l).length)[j]) := Lib.hid (fun j hj => by
      have h1 := List.getElem_mem hj;generalize (ordK (kfI l each) (topsS l) (topsS l).length)[j] = p at *;unfold ordK at h1;obtain ⟨i, _, rfl⟩ := List.mem_map.1 h1
      exact HOK.out _)
     have HCM : Hid (∀ p, ∀ s ∈ clsK (kfI l each) (topsS l) (topsS l).length p, s ∈ topsS l) := Lib.hid (fun p s hs => by
      unfold clsK at hs
      exact List.mem_of_mem_take (List.mem_filter.1 hs).1)
     have HCL : Hid (∀ p, (clsK (kfI l each) (topsS l) (topsS l).length p).length ≤ 2000) := Lib.hid (fun p => Nat.le_trans (clsK_len p (Nat.le_refl _)) htl);have HOA := Lib.hid (outK_all (kf := kfI l each) (f := prF2 l ranks) (T := topsS l));have hol := ordK_len (kf := kfI l each) (T := topsS l) (topsS l).length;have HTK := Lib.hid (fun (ks : List Pk) j (hj : j < ks.length) => outK_take (kf := kfI l each) (f := prF2 l ranks) (T := topsS l) hj);have HZ0 : Hid (outK (kfI l each) (prF2 l ranks) (topsS l) [] = []) := Lib.hid rfl;have HGB : Hid (∀ p x0 xs, clsK (kfI l each) (topsS l) (topsS l).length p = x0 :: xs → grpT (grpB (kfI l each) (prF2 l ranks) (topsS l) p) = (p.1, bestS (prF2 l ranks) xs x0, x0 :: xs)) := Lib.hid (fun p x0 xs h => by unfold grpT grpB; rw [h]; rfl);have HGS : Hid (groupsS l ranks each = (grpsK (kfI l each) (prF2 l ranks) (topsS l) (topsS l).length).map grpT) := Lib.hid rfl;have HGM := Lib.hid hG;have HGT := Lib.hid hB;have HML := Lib.hid hm;generalize ordK (kfI l each) (topsS l) (topsS l).length = ks at *;generalize hF : clsK (kfI l each) (topsS l) (topsS l).length = F at *;generalize outK (kfI l each) (prF2 l ranks) (topsS l) = OK at *;have HF := Lib.hid hF
     have hksl : ks.length ≤ 2000 := by omega
     clear hG hB hm hF HTQ HOK HLI HSM;obtain ⟨base3, hb3⟩ : ∃ base3, base3 = wr.heap.size := ⟨_, rfl⟩;have hb31 := Nat.le_of_eq hb3;have hb32 := Nat.le_of_eq hb3.symm;have hgtl := HGT.out.lt;clear hb3
     go_wp2_with fail
     generalize hwL : wr = wL at *;clear hwL
     go_loopg [18, 96] ks.length (fun gk x i wx => ∃ (j : Nat) (gs : List Gm) (Ao3 : Option Addr) (cap3 : Nat), ks.length - j = gk ∧ j ≤ ks.length ∧ x = .slice Ao3 gs.length cap3 ∧ i = .int .i64 (j : Int) ∧ gmS gs = (OK (ks.take j)).map grpT ∧ gs.length ≤ j ∧ GmO wx base3 Ao3 cap3 gs ∧ (∀ p ∈ gs, Sl wL 9 1 p.2.2.1 (strsV p.2.2.2)) ∧ Pure wL wx)
     case atStart => exact ⟨0, [], none, 0, by omega, by omega, rfl, rfl, by rw [List.take_zero, HZ0.out]; rfl, by simp, ⟨rfl, .inl ⟨rfl, rfl⟩⟩, fun p hp => absurd hp (by simp), Mod.refl _ _⟩
     case round =>
      obtain ⟨j, gs, Ao3, cap3, rfl, hj, rfl, rfl, hgs, hgl, hown, hsl, hm⟩ := hrel;have hGr := HGM.out.pure hm
      by_cases hjl : j < ks.length
      ·have hks0 := hGr.tops;obtain ⟨gO, cO, hvO, _, _, _, _⟩ := own_form hks0 (by omega);simp only [Value.slice.injEq, true_and] at hvO;obtain ⟨hv1, hv2⟩ := hvO;subst hv1 hv2;obtain ⟨k1, k2⟩ := pksV_get ks j hjl;have q1 := (hks0.cellAt (j * 2) (by omega)).trans k1;have q2 := (hks0.cellAt (j * 2 + 1) (by omega)).trans k2;have HPO := HKOK.out j hjl;have HTJ := Lib.hid (HTK.out ks j hjl);generalize ks[j] = p at *;obtain ⟨Au, cu, hu, _, _⟩ := hGr.form p;have hrow := hGr.at_ p;rw [hu] at hrow;have pA := pure_alloc wr (.cells #[.string ⟨p.1.toArray⟩, .string ⟨p.2.toArray⟩] 122);have hGA := hGr.pure pA;have hlk := hGA.map.lookup (e := 29) Tryz.underlying118 zero_strsG p HPO;rw [hu] at hlk;unfold pkV at hlk;have hfl := HCL.out p;have HGSS := Lib.hid hgs;have HSLL := Lib.hid hsl;have HOWN := Lib.hid hown;have HMW := Lib.hid hm;have hKA := Blk.new wr 122 #[.string ⟨p.1.toArray⟩, .string ⟨p.2.toArray⟩];have hBA := HGT.out.modp (hm.trans pA);have HKA := Lib.hid hKA;have HBA := Lib.hid hBA;have HPA := Lib.hid (hm.trans pA);have HOA2 := Lib.hid (hown.pure pA);have HSU : Hid (Sl wL 9 1 (.slice Au (F p).length cu) (strsV (F p))) := Lib.hid (by have h := HGM.out.at_ p; rw [hu] at h; exact Sl.of_own h);have HGBP := Lib.hid (HGB.out p);have HCMP := Lib.hid (HCM.out p)
       have HPRW : Hid (∀ W, Pure wL W → ∀ (x0 : Str) (xs : List Str), F p = x0 :: xs → Calls Tryz.prog 71 #[.agg #[.map (some bi), .map (some bk), .slice At (topsS l).length ct], .slice Au (F p).length cu, .slice Ar ranks.length cr] W (StrPost1 W (bestS (prF2 l ranks) xs x0))) := Lib.hid (fun W h x0 xs he =>
        HPR.out W (HML.out.trans h) _ x0 xs (by rw [← he]; exact HSU.out.pure h) (fun s hs => HCMP.out s (by rw [he]; exact hs)))
       have hglt := hm.size;have HOLT : Hid (∀ j, (Value.slice Ao3 gs.length cap3).ownBlock = some j → j < wr.heap.size) := Lib.hid (fun j hj => (hown.lt j hj).2);clear hgs hsl hown hm hks0 k1 k2 hGr hGA pA hu hrow
       by_cases hbig : 1 < (F p).length
       rotate_left
       ·have HN : Hid (OK (ks.take (j + 1)) = OK (ks.take j)) := Lib.hid (by rw [HTJ.out, if_neg hbig]);have c0 := hKA.cell 0; have c1 := hKA.cell 1; simp at c0 c1;clear hKA hBA HTJ
        go_wp2_with fail
        go_roundg (ks.length - (j + 1))
        case measure => omega
        case rel => exact ⟨j + 1, gs, Ao3, cap3, rfl, by omega, by simp, by simp, by rw [HN.out]; exact HGSS.out, by omega, HOA2.out, HSLL.out, HPA.out⟩
       ·obtain ⟨x0, xs, hF0⟩ : ∃ x0 xs, F p = x0 :: xs := by
         cases h : F p with
         | nil => rw [h] at hbig; simp at hbig
         | cons x0 xs => exact ⟨x0, xs, rfl⟩
        have HPC := Lib.hid (fun W (h : Pure wL W) => HPRW.out W h x0 xs hF0);have HGQ := Lib.hid (HGBP.out x0 xs hF0);have HN : Hid (OK (ks.take (j + 1)) = OK (ks.take j) ++ [grpB (kfI l each) (prF2 l ranks) (topsS l) p]) := Lib.hid (by rw [HTJ.out, if_pos hbig]);rw [← hF0] at HGQ;generalize hpr : bestS (prF2 l ranks) xs x0 = pr at *;generalize hFp : F p = Fp at *
        have hbig2 : (1 : Int) < (Fp.length : Int) := by omega
        have HSN : Hid (∀ q ∈ gs ++ [(p.1, pr, Value.slice Au Fp.length cu, Fp)], Sl wL 9 1 q.2.2.1 (strsV q.2.2.2)) := Lib.hid (fun q hq => by
         rcases List.mem_append.1 hq with hq | hq
         ·exact HSLL.out q hq
         ·rw [List.mem_singleton.1 hq]; exact HSU.out)
        have c0 := hKA.cell 0; have c1 := hKA.cell 1; simp at c0 c1;clear hKA hBA HTJ hpr hFp hF0 HPRW HGBP HCMP HSU HSLL
        go_upto_region 30 with (fail)
        generalize (wr.alloc (.cells #[.string ⟨p.1.toArray⟩, .string ⟨p.2.toArray⟩] 122)) = WA at *;generalize hgx : wr.heap.size = gx at *;have hgx1 := Nat.le_of_eq hgx;have hgx2 := Nat.le_of_eq hgx.symm;have hgxl := HKA.out.lt;have HOL3 : Hid (∀ j, (Value.slice Ao3 gs.length cap3).ownBlock = some j → j < WA.heap.size) := Lib.hid (fun j hj => by have := HOLT.out j hj; omega);clear hgx hlk q1 q2 c0 c1 hbig hi0 hz0 hz1 hz2 i0;obtain ⟨i0, hi0, hz0, hz1, hz2⟩ := info_parts info_grp;have HGs := Lib.hid (show ∀ (D : Nat → Bool) (zzi : Nat) (zq zq' : World), zzi ≠ 10 → (fun D zq => (D 10 = false → (fun Z => GmO Z base3 Ao3 cap3 gs) zq) ∧ (fun Z => Blk Z gt 116 #[.map (some bi), .map (some bk), .slice At (topsS l).length ct] ∧ Blk Z gx 122 #[.string ⟨p.1.toArray⟩, .string ⟨p.2.toArray⟩]) zq) D zq → Mod (fun _ => False) zq zq' → (fun D zq => (D 10 = false → (fun Z => GmO Z base3 Ao3 cap3 gs) zq) ∧ (fun Z => Blk Z gt 116 #[.map (some bi), .map (some bk), .slice At (topsS l).length ct] ∧ Blk Z gx 122 #[.string ⟨p.1.toArray⟩, .string ⟨p.2.toArray⟩]) zq) (upd D zzi true) zq' from by intro D zzi zq zq' hi hh hm; refine ⟨fun hs => ?_, ?_⟩; (rw [upd_ne _ _ (Ne.symm hi)] at hs; have h := hh.1 hs; (exact h.pure hm)); (have h := hh.2; (exact ⟨h.1.modp hm, h.2.modp hm⟩)))
        refine wp_region_inv (by kernel_rfl) (by kernel_rfl) (InvF (R := Mod (fun _ => False)) [.is (.slice Ao3 gs.length cap3),
          .is (.pointer (some ⟨gx, 0, none⟩)),
          .is (.string ⟨p.1.toArray⟩),
          .is (.agg #[.map (some bi), .map (some bk), .slice At (topsS l).length ct]),
          .is (.slice Au Fp.length cu),
          .is (.slice Ar ranks.length cr),
          .is (.string ⟨pr.toArray⟩),
          .is (.slice Au Fp.length cu),
          .is (.agg #[.string ⟨p.1.toArray⟩, .string ⟨pr.toArray⟩, .slice Au Fp.length cu]),
          ⟨fun zv zw => ∃ (g_9 : Nat), zv = .slice (some ⟨g_9, 0, none⟩) 1 1 ∧ WA.heap.size ≤ g_9 ∧ Blk zw g_9 69 #[.string ⟨p.1.toArray⟩, .string ⟨pr.toArray⟩, .slice Au Fp.length cu], (by rintro zv zw zx ⟨g_9, rfl, c0, q0⟩ hm; exact ⟨g_9, rfl, c0, (q0.modp hm)⟩), none, some 10⟩,
          ⟨fun zv zw => ∃ (g_10 : Nat) (c_10 : Nat), zv = .slice (some ⟨g_10, 0, none⟩) (gs.length + 1) c_10 ∧ GmO zw base3 (some ⟨g_10, 0, none⟩) c_10 (gs ++ [(p.1, pr, .slice Au Fp.length cu, Fp)]), (by rintro zv zw zx ⟨g_10, c_10, rfl, q0⟩ hm; exact ⟨g_10, c_10, rfl, (q0.pure hm)⟩), none, none⟩,
          ⟨fun zv zw => ∃ (g_11 : Nat) (c_11 : Nat), zv = .slice (some ⟨g_11, 0, none⟩) (gs.length + 1) c_11 ∧ GmO zw base3 (some ⟨g_11, 0, none⟩) c_11 (gs ++ [(p.1, pr, .slice Au Fp.length cu, Fp)]), (by rintro zv zw zx ⟨g_11, c_11, rfl, q0⟩ hm; exact ⟨g_11, c_11, rfl, (q0.pure hm)⟩), none, none⟩]
          (PB wL (fun _ => False) WA.heap.size (fun D zq => (D 10 = false → (fun Z => GmO Z base3 Ao3 cap3 gs) zq) ∧ (fun Z => Blk Z gt 116 #[.map (some bi), .map (some bk), .slice At (topsS l).length ct] ∧ Blk Z gx 122 #[.string ⟨p.1.toArray⟩, .string ⟨p.2.toArray⟩]) zq))) (InvF.start (PB.start HPA.out (Nat.le_refl _) (⟨fun _ => HOA2.out.pure ((Mod.refl _ _).drew), ⟨HBA.out.drew, HKA.out.drew⟩⟩))) ?_ ?_
        ·refine .cons ?_ (.cons ?_ (.cons ?_ (.cons ?_ (.cons ?_ (.cons ?_ (.cons ?_ (.cons ?_ (.cons ?_ (.cons ?_ (.cons ?_ (.cons ?_ .nil)))))))))))
         ·intro D V zw1 a hR hI K hK;obtain ⟨hM1, hB1, hG1⟩ := hI.1;obtain ⟨hGK, hG1⟩ := hG1;have ze18 := hR.frame.undone (t := 18) (j := 11) (by kernel_rfl) (hR.later 11 rfl (by kernel_rfl)) rfl;rw [if_pos (by rfl)];go_simp;exact hK (.slice Ao3 gs.length cap3) _ (hI.next hR (by kernel_rfl) (Mod.refl _ _) (PB.quiet hI.1 (Mod.refl _ _) (HGs.out D 0 zw1 zw1 (by omega) (hI.1).g (Mod.refl _ _))) (upd_same V 0 _))
         ·intro D V zw1 a hR hI K hK;obtain ⟨hM1, hB1, hG1⟩ := hI.1;obtain ⟨hGK, hG1⟩ := hG1;have ze20 := hR.frame.other (t := 20) (by kernel_rfl) rfl;rw [if_pos (by rfl)];go_simp;exact hK (.pointer (some ⟨gx, 0, none⟩)) _ (hI.next hR (by kernel_rfl) (Mod.refl _ _) (PB.quiet hI.1 (Mod.refl _ _) (HGs.out D 1 zw1 zw1 (by omega) (hI.1).g (Mod.refl _ _))) (upd_same V 1 _))
         ·intro D V zw1 a hR hI K hK;obtain ⟨hM1, hB1, hG1⟩ := hI.1;obtain ⟨hGK, hG1⟩ := hG1;have zd1 := hR.pred 1 (by kernel_rfl);have zf1 : V 1 = .pointer (some ⟨gx, 0, none⟩) := hI.2 1 zd1 rfl;have ze107 := hR.frame.done (t := 107) (j := 1) (by kernel_rfl) hR.ok zd1;have zx0 := hG1.2.cell 0; have zx1 := hG1.2.cell 1;simp at zx0 zx1;rw [if_pos (by rfl)];go_simp;exact hK (.string ⟨p.1.toArray⟩) _ (hI.next hR (by kernel_rfl) (Mod.refl _ _) (PB.quiet hI.1 (Mod.refl _ _) (HGs.out D 2 zw1 zw1 (by omega) (hI.1).g (Mod.refl _ _))) (upd_same V 2 _))
         ·intro D V zw1 a hR hI K hK;obtain ⟨hM1, hB1, hG1⟩ := hI.1;obtain ⟨hGK, hG1⟩ := hG1;have ze12 := hR.frame.other (t := 12) (by kernel_rfl) rfl;have zx0 := hG1.1.cell 0; have zx1 := hG1.1.cell 1; have zx2 := hG1.1.cell 2;simp at zx0 zx1 zx2;rw [if_pos (by rfl)];go_simp;exact hK (.agg #[.map (some bi), .map (some bk), .slice At (topsS l).length ct]) _ (hI.next hR (by kernel_rfl) (Mod.refl _ _) (PB.quiet hI.1 (Mod.refl _ _) (HGs.out D 3 zw1 zw1 (by omega) (hI.1).g (Mod.refl _ _))) (upd_same V 3 _))
         ·intro D V zw1 a hR hI K hK;obtain ⟨hM1, hB1, hG1⟩ := hI.1;obtain ⟨hGK, hG1⟩ := hG1;have ze21 := hR.frame.other (t := 21) (by kernel_rfl) rfl;rw [if_pos (by rfl)];go_simp;exact hK (.slice Au Fp.length cu) _ (hI.next hR (by kernel_rfl) (Mod.refl _ _) (PB.quiet hI.1 (Mod.refl _ _) (HGs.out D 4 zw1 zw1 (by omega) (hI.1).g (Mod.refl _ _))) (upd_same V 4 _))
         ·intro D V zw1 a hR hI K hK;obtain ⟨hM1, hB1, hG1⟩ := hI.1;obtain ⟨hGK, hG1⟩ := hG1;have ze1 := hR.frame.other (t := 1) (by kernel_rfl) rfl;rw [if_pos (by rfl)];go_simp;exact hK (.slice Ar ranks.length cr) _ (hI.next hR (by kernel_rfl) (Mod.refl _ _) (PB.quiet hI.1 (Mod.refl _ _) (HGs.out D 5 zw1 zw1 (by omega) (hI.1).g (Mod.refl _ _))) (upd_same V 5 _))
         ·intro D V zw1 a hR hI K hK;obtain ⟨hM1, hB1, hG1⟩ := hI.1;obtain ⟨hGK, hG1⟩ := hG1;have zd3 := hR.pred 3 (by kernel_rfl);have zf3 : V 3 = .agg #[.map (some bi), .map (some bk), .slice At (topsS l).length ct] := hI.2 3 zd3 rfl;have zd4 := hR.pred 4 (by kernel_rfl);have zf4 : V 4 = .slice Au Fp.length cu := hI.2 4 zd4 rfl;have zd5 := hR.pred 5 (by kernel_rfl);have zf5 : V 5 = .slice Ar ranks.length cr := hI.2 5 zd5 rfl;have ze109 := hR.frame.done (t := 109) (j := 3) (by kernel_rfl) hR.ok zd3;have ze110 := hR.frame.done (t := 110) (j := 4) (by kernel_rfl) hR.ok zd4;have ze111 := hR.frame.done (t := 111) (j := 5) (by kernel_rfl) hR.ok zd5;rw [if_pos (by rfl)];go_simp;refine (HPC.out _ hM1).mono ?_;rintro e zw2 ⟨rfl, hm2⟩;exact hK (.string ⟨pr.toArray⟩) _ (hI.next hR (by kernel_rfl) hm2 (PB.quiet hI.1 hm2 (HGs.out D 6 _ _ (by omega) (hI.1).g hm2)) (upd_same V 6 _))
         ·intro D V zw1 a hR hI K hK;obtain ⟨hM1, hB1, hG1⟩ := hI.1;obtain ⟨hGK, hG1⟩ := hG1;have ze21 := hR.frame.other (t := 21) (by kernel_rfl) rfl;rw [if_pos (by rfl)];go_simp;exact hK (.slice Au Fp.length cu) _ (hI.next hR (by kernel_rfl) (Mod.refl _ _) (PB.quiet hI.1 (Mod.refl _ _) (HGs.out D 7 zw1 zw1 (by omega) (hI.1).g (Mod.refl _ _))) (upd_same V 7 _))
         ·intro D V zw1 a hR hI K hK;obtain ⟨hM1, hB1, hG1⟩ := hI.1;obtain ⟨hGK, hG1⟩ := hG1;have zd2 := hR.pred 2 (by kernel_rfl);have zf2 : V 2 = .string ⟨p.1.toArray⟩ := hI.2 2 zd2 rfl;have zd6 := hR.pred 6 (by kernel_rfl);have zf6 : V 6 = .string ⟨pr.toArray⟩ := hI.2 6 zd6 rfl;have zd7 := hR.pred 7 (by kernel_rfl);have zf7 : V 7 = .slice Au Fp.length cu := hI.2 7 zd7 rfl;have ze108 := hR.frame.done (t := 108) (j := 2) (by kernel_rfl) hR.ok zd2;have ze112 := hR.frame.done (t := 112) (j := 6) (by kernel_rfl) hR.ok zd6;have ze113 := hR.frame.done (t := 113) (j := 7) (by kernel_rfl) hR.ok zd7;rw [if_pos (by rfl)];go_simp;exact hK (_) _ (hI.next hR (by kernel_rfl) (Mod.refl _ _) (PB.quiet hI.1 (Mod.refl _ _) (HGs.out D 8 zw1 zw1 (by omega) (hI.1).g (Mod.refl _ _))) (upd_same V 8 _))
         ·intro D V zw1 a hR hI K hK;obtain ⟨hM1, hB1, hG1⟩ := hI.1;obtain ⟨hGK, hG1⟩ := hG1;have zd8 := hR.pred 8 (by kernel_rfl);have zf8 : V 8 = .agg #[.string ⟨p.1.toArray⟩, .string ⟨pr.toArray⟩, .slice Au Fp.length cu] := hI.2 8 zd8 rfl;have ze114 := hR.frame.done (t := 114) (j := 8) (by kernel_rfl) hR.ok zd8;rw [if_pos (by rfl)];go_simp;exact hK (_) _ (hI.next hR (by kernel_rfl) ((Mod.refl _ _).alloc _) (PB.quiet hI.1 (pure_alloc _ _) (HGs.out D 9 _ _ (by omega) (hI.1).g ((Mod.refl _ _).alloc _))) (⟨_, upd_same V 9 _, (by omega), (Blk.new _ _ _)⟩))
         ·intro D V zw1 a hR hI K hK;obtain ⟨hM1, hB1, hG1⟩ := hI.1;obtain ⟨hGK, hG1⟩ := hG1;have zd0 := hR.pred 0 (by kernel_rfl);have zf0 : V 0 = .slice Ao3 gs.length cap3 := hI.2 0 zd0 rfl;have zd9 := hR.pred 9 (by kernel_rfl);have zF9 : ∃ (g_9 : Nat), V 9 = .slice (some ⟨g_9, 0, none⟩) 1 1 ∧ WA.heap.size ≤ g_9 ∧ Blk zw1 g_9 69 #[.string ⟨p.1.toArray⟩, .string ⟨pr.toArray⟩, .slice Au Fp.length cu] := hI.2 9 zd9 (by show (!D 10) = true; rw [hR.not]; rfl);obtain ⟨g_9, zf9, c9_0, b9_0⟩ := zF9;have ze106 := hR.frame.done (t := 106) (j := 0) (by kernel_rfl) hR.ok zd0;have ze115 := hR.frame.done (t := 115) (j := 9) (by kernel_rfl) hR.ok zd9;rw [if_pos (by rfl)];have hown := (hGK hR.not);refine wp_append_lies _ (.tmp 106) (.tmp 115) 61 (by rfl) base3 69 i0 _ 3 56 Tryz.underlying61 hi0 hz0 hz1 hz2 (by rfl) (by omega) (.slice Ao3 gs.length cap3) (gs.length) (gmV gs) ?_ hown ⟨g_9, 0, none⟩ 1 1 [.string ⟨p.1.toArray⟩, .string ⟨pr.toArray⟩, .slice Au Fp.length cu] ?_ (by rfl) (World.news_of_block (cs := #[.string ⟨p.1.toArray⟩, .string ⟨pr.toArray⟩, .slice Au Fp.length cu]) (t := 69) (fr := (0, 0)) b9_0) (by simp [Value.oneCell']) (by omega) (by simp [maxLen]; omega) (by omega) (by omega) zw1.heap.size rfl ?_
          ·show a.tmps.getD 106 undef = _; simp [ze106, zf0]
          ·show a.tmps.getD 115 undef = _; simp [ze115, zf9]
          intro g5 cap5 zw2 hown5 hgrow hat hlt5;have hT := mod_grown hgrow;have hTb : ∀ j, (.slice Ao3 gs.length cap3 : Value).ownBlock = some j → base3 ≤ j := own_block hown;have hTl : ∀ j, (.slice Ao3 gs.length cap3 : Value).ownBlock = some j → j < WA.heap.size := HOL3.out;refine hK _ _ (InvF.last (PB.writes hI.1 (fun j hj hl => by have := hTb j hj; omega) hT ⟨fun hs => absurd hs (by rw [upd_same]; decide), ⟨hG1.1.mod hT (fun h => by have := hTb _ h; omega), hG1.2.mod hT (fun h => by have := HOLT.out _ h; omega)⟩⟩) ⟨_, _, upd_same V 10 _, gmO_app hown5⟩ ?_);intro k hk hDk hlv;have hkl := hR.lt k hDk;have hv := hI.2 k hDk (liveB_of hlv)
          match k, hk, hDk, hlv, hkl, hv with
          | 0, _, _, _, _, hv => exact hv
          | 1, _, _, _, _, hv => exact hv
          | 2, _, _, _, _, hv => exact hv
          | 3, _, _, _, _, hv => exact hv
          | 4, _, _, _, _, hv => exact hv
          | 5, _, _, _, _, hv => exact hv
          | 6, _, _, _, _, hv => exact hv
          | 7, _, _, _, _, hv => exact hv
          | 8, _, _, _, _, hv => exact hv
          | 9, _, _, hlv, _, _ => exact absurd hlv (by show ¬ (!upd D 10 true 10) = true; rw [upd_same]; decide)
          | 10, hk, _, _, _, _ => exact absurd rfl hk
          | 11, _, hDk, _, _, _ => exact absurd hDk (by rw [hR.later 11 rfl (by kernel_rfl)]; decide)
          | k + 12, _, _, _, hkl, _ => exact absurd hkl (by simp)
         ·intro D V zw1 a hR hI K hK;obtain ⟨hM1, hB1, hG1⟩ := hI.1;obtain ⟨hGK, hG1⟩ := hG1;have zd10 := hR.pred 10 (by kernel_rfl);have zF10 : ∃ (g_10 : Nat) (c_10 : Nat), V 10 = .slice (some ⟨g_10, 0, none⟩) (gs.length + 1) c_10 ∧ GmO zw1 base3 (some ⟨g_10, 0, none⟩) c_10 (gs ++ [(p.1, pr, .slice Au Fp.length cu, Fp)]) := hI.2 10 zd10 rfl;obtain ⟨g_10, c_10, zf10, b10_0⟩ := zF10;have ze116 := hR.frame.done (t := 116) (j := 10) (by kernel_rfl) hR.ok zd10;rw [if_pos (by rfl)];go_simp;exact hK (.slice (some ⟨g_10, 0, none⟩) (gs.length + 1) c_10) _ (hI.next hR (by kernel_rfl) (Mod.refl _ _) (PB.quiet hI.1 (Mod.refl _ _) (HGs.out D 11 zw1 zw1 (by omega) (hI.1).g (Mod.refl _ _))) (⟨g_10, c_10, upd_same V 11 _, b10_0⟩))
        ·intro D V w7 hD hI;obtain ⟨hM1, hB1, hG1⟩ := hI.1;have hMx := hM1;clear hM1;have hBx := hB1;clear hB1;have hGx := hG1.2;clear hG1;have zf0 : V 0 = .slice Ao3 gs.length cap3 := hI.2 0 (hD 0 (by decide)) rfl;have zf1 : V 1 = .pointer (some ⟨gx, 0, none⟩) := hI.2 1 (hD 1 (by decide)) rfl;have zf2 : V 2 = .string ⟨p.1.toArray⟩ := hI.2 2 (hD 2 (by decide)) rfl;have zf3 : V 3 = .agg #[.map (some bi), .map (some bk), .slice At (topsS l).length ct] := hI.2 3 (hD 3 (by decide)) rfl;have zf4 : V 4 = .slice Au Fp.length cu := hI.2 4 (hD 4 (by decide)) rfl;have zf5 : V 5 = .slice Ar ranks.length cr := hI.2 5 (hD 5 (by decide)) rfl;have zf6 : V 6 = .string ⟨pr.toArray⟩ := hI.2 6 (hD 6 (by decide)) rfl;have zf7 : V 7 = .slice Au Fp.length cu := hI.2 7 (hD 7 (by decide)) rfl;have zf8 : V 8 = .agg #[.string ⟨p.1.toArray⟩, .string ⟨pr.toArray⟩, .slice Au Fp.length cu] := hI.2 8 (hD 8 (by decide)) rfl;have zF10 : ∃ (g_10 : Nat) (c_10 : Nat), V 10 = .slice (some ⟨g_10, 0, none⟩) (gs.length + 1) c_10 ∧ GmO w7 base3 (some ⟨g_10, 0, none⟩) c_10 (gs ++ [(p.1, pr, .slice Au Fp.length cu, Fp)]) := hI.2 10 (hD 10 (by decide)) rfl;obtain ⟨g_10, c_10, zf10, b10_0⟩ := zF10;have zF11 : ∃ (g_11 : Nat) (c_11 : Nat), V 11 = .slice (some ⟨g_11, 0, none⟩) (gs.length + 1) c_11 ∧ GmO w7 base3 (some ⟨g_11, 0, none⟩) c_11 (gs ++ [(p.1, pr, .slice Au Fp.length cu, Fp)]) := hI.2 11 (hD 11 (by decide)) rfl;obtain ⟨g_11, c_11, zf11, b11_0⟩ := zF11;clear hI hD HGs;simp only [frAll, Act.put, List.setIfInBounds_toArray, List.set_cons_zero, List.set_cons_succ, Nat.zero_add, Nat.reduceAdd, zf0, zf1, zf2, zf3, zf4, zf5, zf6, zf7, zf8, zf10, zf11];clear zf0 zf1 zf2 zf3 zf4 zf5 zf6 zf7 zf8 zf10 zf11;generalize V 9 = u9;clear V D;have HM7 := Lib.hid hMx;have HO7 := Lib.hid b11_0;clear hMx b11_0 hGx
         go_wp2_with fail
         go_roundg (ks.length - (j + 1))
         case measure => omega
         case rel =>
          refine ⟨j + 1, gs ++ [(p.1, pr, .slice Au Fp.length cu, Fp)], some ⟨g_11, 0, none⟩, c_11, rfl, by omega, by simp, by simp, ?_, by simp; omega, HO7.out, HSN.out, HM7.out⟩;rw [HN.out, List.map_append, ← HGSS.out];simp [gmS, HGQ.out]
      ·obtain rfl : j = ks.length := by omega
       have HOW := Lib.hid (Sl.of_own hown);have HSL := Lib.hid (fun q hq => (hsl q hq).pure hm);have HFI : Hid (gmS gs = groupsS l ranks each) := Lib.hid (by rw [hgs, List.take_length, HOA.out, HGS.out]);have HPF := Lib.hid (HM.out.trans (HML.out.trans hm));clear hown hsl hgs hGr hm
       go_wp2_with fail
       refine bodyPost_ret (v := .tuple #[.slice Ao3 gs.length cap3, .int .i64 0]) (by simp [results, Tryz.results28, go_sem]) rfl ?_;exact ⟨_, by rw [HG0.out], fun h => absurd HG0.out h, fun _ => ⟨gs, ⟨HOW.out, HSL.out⟩, HFI.out⟩, HPF.out⟩
end Go.Proofs.YtgfgggeeoeppjaaGreatDoor
/- The rank of a family (chaseref2.GroupsOf). -/
namespace Go.Proofs.YtgfgggeeoeppjaaGreatDoor
open Go.RowKit
set_option maxHeartbeats 4000000 in
theorem rrank_calls (w : World) (gk gi : Nat) (v vr : Value) (ranks : List Str) (l : List Itm) (q : Nat) (hq : q < l.length) (hv : Its w v l) (hd : l.Pairwise fun x y => x.id ≠ y.id) (hr : Sl w 9 1 vr (strsV ranks)) (hk : w.cell? ⟨gk, 0, none⟩ = some vr) (hi : w.cell? ⟨gi, 0, none⟩ = some v) :
  Calls Tryz.prog 76 #[.string ⟨l[q].id.toArray⟩, .pointer (some ⟨gk, 0, none⟩), .pointer (some ⟨gi, 0, none⟩)] w (IntPost w (rankI ranks l[q].cust)) := by
 have HPL : Hid (∀ W, Pure w W → Calls Tryz.prog 49 #[v, .string ⟨l[q].id.toArray⟩] W (IntPost W (q : Int))) := Lib.hid (fun W h => by
  have := place_calls W v l l[q].id (hv.pure h);unfold plcZ at this;rw [plc_self hd q hq] at this
  exact this)
 have HIX := Lib.hid (fun W (h : Pure w W) => indexQs_calls W vr ranks l[q].cust (hr.pure h));obtain ⟨A, n, c, rfl, hc1, hc2, hl2, hrw⟩ := hv
 have hln : l.length = n := by rw [itV_len] at hl2; omega
 subst hln;obtain ⟨g, off, rfl, hrow⟩ := hrw (by omega);have q2 := (item_cells hrow hq).2.1;obtain ⟨Ar, nr, cr, rfl⟩ := hr.form;have hnr : ranks.length = nr := hr.lenS;subst hnr;have hRK : Hid (rankI ranks l[q].cust = if idxQ (fun y => l[q].cust == y) ranks 0 < 0 then (ranks.length : Int) else idxQ (fun y => l[q].cust == y) ranks 0) := Lib.hid rfl;generalize rankI ranks l[q].cust = rk at *;generalize l[q].id = id at *;generalize l[q].cust = cu at *;generalize idxQ (fun y => cu == y) ranks 0 = ix at *
 have i1 : (0 : Int) ≤ (q : Int) := by omega
 have i2 : (q : Int) < (l.length : Int) := by omega
 have HG0 := Lib.hid (And.intro hk (And.intro hi q2));clear hl2 hrw hrow hd hr hk hi q2
 go_enter Tryz.func76, Tryz.ntmps76
 go_upto_region 1 with (fail)
 have HGs := Lib.hid (show ∀ (D : Nat → Bool) (zzi : Nat) (zq zq' : World), (fun _ zq => (fun Z => Z.cell? ⟨gk, 0, none⟩ = some (.slice Ar ranks.length cr) ∧ Z.cell? ⟨gi, 0, none⟩ = some (.slice (some ⟨g, off, none⟩) l.length c) ∧ Z.cell? ⟨g, off + q * 7 + 1, none⟩ = some (.string ⟨cu.toArray⟩)) zq) D zq → Mod (fun _ => False) zq zq' → (fun _ zq => (fun Z => Z.cell? ⟨gk, 0, none⟩ = some (.slice Ar ranks.length cr) ∧ Z.cell? ⟨gi, 0, none⟩ = some (.slice (some ⟨g, off, none⟩) l.length c) ∧ Z.cell? ⟨g, off + q * 7 + 1, none⟩ = some (.string ⟨cu.toArray⟩)) zq) (upd D zzi true) zq' from by intro D zzi zq zq' h hm; (exact ⟨hm.keep h.1 _root_.id, hm.keep h.2.1 _root_.id, hm.keep h.2.2 _root_.id⟩))
 refine wp_region_inv (by kernel_rfl) (by kernel_rfl) (InvF (R := Mod (fun _ => False)) [.is (.slice Ar ranks.length cr),
   .is (.slice (some ⟨g, off, none⟩) l.length c),
   .is (.slice (some ⟨g, off, none⟩) l.length c),
   .is (.string ⟨id.toArray⟩),
   .is (.int .i64 (q : Int)),
   .is (.pointer (some ⟨g, off + q * 7, none⟩)),
   .is (.pointer (some ⟨g, off + q * 7 + 1, none⟩)),
   .is (.string ⟨cu.toArray⟩),
   .is (.int .i64 ix),
   .is (.int .i64 ix)]
   (PB w (fun _ => False) w.heap.size (fun _ zq => (fun Z => Z.cell? ⟨gk, 0, none⟩ = some (.slice Ar ranks.length cr) ∧ Z.cell? ⟨gi, 0, none⟩ = some (.slice (some ⟨g, off, none⟩) l.length c) ∧ Z.cell? ⟨g, off + q * 7 + 1, none⟩ = some (.string ⟨cu.toArray⟩)) zq))) (InvF.start (PB.start (Mod.refl _ _) (Nat.le_refl _) (HG0.out))) ?_ ?_
 ·refine .cons ?_ (.cons ?_ (.cons ?_ (.cons ?_ (.cons ?_ (.cons ?_ (.cons ?_ (.cons ?_ (.cons ?_ (.cons ?_ .nil)))))))))
  ·intro D V zw1 a hR hI K hK;obtain ⟨hM1, hB1, hG1⟩ := hI.1;have ze1 := hR.frame.other (t := 1) (by kernel_rfl) rfl;have zx0 := hG1.1;rw [if_pos (by rfl)];go_simp;exact hK (.slice Ar ranks.length cr) _ (hI.next hR (by kernel_rfl) (Mod.refl _ _) (PB.quiet hI.1 (Mod.refl _ _) (HGs.out D 0 zw1 zw1 (hI.1).g (Mod.refl _ _))) (upd_same V 0 _))
  ·intro D V zw1 a hR hI K hK;obtain ⟨hM1, hB1, hG1⟩ := hI.1;have ze2 := hR.frame.other (t := 2) (by kernel_rfl) rfl;have zx0 := hG1.2.1;rw [if_pos (by rfl)];go_simp;exact hK (.slice (some ⟨g, off, none⟩) l.length c) _ (hI.next hR (by kernel_rfl) (Mod.refl _ _) (PB.quiet hI.1 (Mod.refl _ _) (HGs.out D 1 zw1 zw1 (hI.1).g (Mod.refl _ _))) (upd_same V 1 _))
  ·intro D V zw1 a hR hI K hK;obtain ⟨hM1, hB1, hG1⟩ := hI.1;have ze2 := hR.frame.other (t := 2) (by kernel_rfl) rfl;have zx0 := hG1.2.1;rw [if_pos (by rfl)];go_simp;exact hK (.slice (some ⟨g, off, none⟩) l.length c) _ (hI.next hR (by kernel_rfl) (Mod.refl _ _) (PB.quiet hI.1 (Mod.refl _ _) (HGs.out D 2 zw1 zw1 (hI.1).g (Mod.refl _ _))) (upd_same V 2 _))
  ·intro D V zw1 a hR hI K hK;obtain ⟨hM1, hB1, hG1⟩ := hI.1;have ze0 := hR.frame.other (t := 0) (by kernel_rfl) rfl;rw [if_pos (by rfl)];go_simp;exact hK (.string ⟨id.toArray⟩) _ (hI.next hR (by kernel_rfl) (Mod.refl _ _) (PB.quiet hI.1 (Mod.refl _ _) (HGs.out D 3 zw1 zw1 (hI.1).g (Mod.refl _ _))) (upd_same V 3 _))
  ·intro D V zw1 a hR hI K hK;obtain ⟨hM1, hB1, hG1⟩ := hI.1;have zd2 := hR.pred 2 (by kernel_rfl);have zf2 : V 2 = .slice (some ⟨g, off, none⟩) l.length c := hI.2 2 zd2 rfl;have zd3 := hR.pred 3 (by kernel_rfl);have zf3 : V 3 = .string ⟨id.toArray⟩ := hI.2 3 zd3 rfl;have ze8 := hR.frame.done (t := 8) (j := 2) (by kernel_rfl) hR.ok zd2;have ze9 := hR.frame.done (t := 9) (j := 3) (by kernel_rfl) hR.ok zd3;rw [if_pos (by rfl)];go_simp;refine (HPL.out _ hM1).mono ?_;rintro e zw2 ⟨rfl, hm2⟩;exact hK (.int .i64 (q : Int)) _ (hI.next hR (by kernel_rfl) hm2 (PB.quiet hI.1 hm2 (HGs.out D 4 _ _ (hI.1).g hm2)) (upd_same V 4 _))
  ·intro D V zw1 a hR hI K hK;obtain ⟨hM1, hB1, hG1⟩ := hI.1;have zd1 := hR.pred 1 (by kernel_rfl);have zf1 : V 1 = .slice (some ⟨g, off, none⟩) l.length c := hI.2 1 zd1 rfl;have zd4 := hR.pred 4 (by kernel_rfl);have zf4 : V 4 = .int .i64 (q : Int) := hI.2 4 zd4 rfl;have ze7 := hR.frame.done (t := 7) (j := 1) (by kernel_rfl) hR.ok zd1;have ze10 := hR.frame.done (t := 10) (j := 4) (by kernel_rfl) hR.ok zd4;rw [if_pos (by rfl)];go_simp;exact hK (.pointer (some ⟨g, off + q * 7, none⟩)) _ (hI.next hR (by kernel_rfl) (Mod.refl _ _) (PB.quiet hI.1 (Mod.refl _ _) (HGs.out D 5 zw1 zw1 (hI.1).g (Mod.refl _ _))) (upd_same V 5 _))
  ·intro D V zw1 a hR hI K hK;obtain ⟨hM1, hB1, hG1⟩ := hI.1;have zd5 := hR.pred 5 (by kernel_rfl);have zf5 : V 5 = .pointer (some ⟨g, off + q * 7, none⟩) := hI.2 5 zd5 rfl;have ze11 := hR.frame.done (t := 11) (j := 5) (by kernel_rfl) hR.ok zd5;rw [if_pos (by rfl)];go_simp;exact hK (.pointer (some ⟨g, off + q * 7 + 1, none⟩)) _ (hI.next hR (by kernel_rfl) (Mod.refl _ _) (PB.quiet hI.1 (Mod.refl _ _) (HGs.out D 6 zw1 zw1 (hI.1).g (Mod.refl _ _))) (upd_same V 6 _))
  ·intro D V zw1 a hR hI K hK;obtain ⟨hM1, hB1, hG1⟩ := hI.1;have zd6 := hR.pred 6 (by kernel_rfl);have zf6 : V 6 = .pointer (some ⟨g, off + q * 7 + 1, none⟩) := hI.2 6 zd6 rfl;have ze12 := hR.frame.done (t := 12) (j := 6) (by kernel_rfl) hR.ok zd6;have zx0 := hG1.2.2;rw [if_pos (by rfl)];go_simp;exact hK (.string ⟨cu.toArray⟩) _ (hI.next hR (by kernel_rfl) (Mod.refl _ _) (PB.quiet hI.1 (Mod.refl _ _) (HGs.out D 7 zw1 zw1 (hI.1).g (Mod.refl _ _))) (upd_same V 7 _))
  ·intro D V zw1 a hR hI K hK;obtain ⟨hM1, hB1, hG1⟩ := hI.1;have zd0 := hR.pred 0 (by kernel_rfl);have zf0 : V 0 = .slice Ar ranks.length cr := hI.2 0 zd0 rfl;have zd7 := hR.pred 7 (by kernel_rfl);have zf7 : V 7 = .string ⟨cu.toArray⟩ := hI.2 7 zd7 rfl;have ze6 := hR.frame.done (t := 6) (j := 0) (by kernel_rfl) hR.ok zd0;have ze13 := hR.frame.done (t := 13) (j := 7) (by kernel_rfl) hR.ok zd7;rw [if_pos (by rfl)];go_simp;refine (HIX.out _ hM1).mono ?_;rintro e zw2 ⟨rfl, hm2⟩;exact hK (.int .i64 ix) _ (hI.next hR (by kernel_rfl) hm2 (PB.quiet hI.1 hm2 (HGs.out D 8 _ _ (hI.1).g hm2)) (upd_same V 8 _))
  ·intro D V zw1 a hR hI K hK;obtain ⟨hM1, hB1, hG1⟩ := hI.1;have zd8 := hR.pred 8 (by kernel_rfl);have zf8 : V 8 = .int .i64 ix := hI.2 8 zd8 rfl;have ze14 := hR.frame.done (t := 14) (j := 8) (by kernel_rfl) hR.ok zd8;rw [if_pos (by rfl)];go_simp;exact hK (.int .i64 ix) _ (hI.next hR (by kernel_rfl) (Mod.refl _ _) (PB.quiet hI.1 (Mod.refl _ _) (HGs.out D 9 zw1 zw1 (hI.1).g (Mod.refl _ _))) (upd_same V 9 _))
 ·intro D V w1 hD hI;obtain ⟨hM1, hB1, hG1⟩ := hI.1;have hMx := hM1;clear hM1;have hBx := hB1;clear hB1;have hGx := hG1;clear hG1;have zf0 : V 0 = .slice Ar ranks.length cr := hI.2 0 (hD 0 (by decide)) rfl;have zf1 : V 1 = .slice (some ⟨g, off, none⟩) l.length c := hI.2 1 (hD 1 (by decide)) rfl;have zf2 : V 2 = .slice (some ⟨g, off, none⟩) l.length c := hI.2 2 (hD 2 (by decide)) rfl;have zf3 : V 3 = .string ⟨id.toArray⟩ := hI.2 3 (hD 3 (by decide)) rfl;have zf4 : V 4 = .int .i64 (q : Int) := hI.2 4 (hD 4 (by decide)) rfl;have zf5 : V 5 = .pointer (some ⟨g, off + q * 7, none⟩) := hI.2 5 (hD 5 (by decide)) rfl;have zf6 : V 6 = .pointer (some ⟨g, off + q * 7 + 1, none⟩) := hI.2 6 (hD 6 (by decide)) rfl;have zf7 : V 7 = .string ⟨cu.toArray⟩ := hI.2 7 (hD 7 (by decide)) rfl;have zf8 : V 8 = .int .i64 ix := hI.2 8 (hD 8 (by decide)) rfl;have zf9 : V 9 = .int .i64 ix := hI.2 9 (hD 9 (by decide)) rfl;clear hI hD HGs;simp only [frAll, Act.put, List.setIfInBounds_toArray, List.set_cons_zero, List.set_cons_succ, Nat.zero_add, Nat.reduceAdd, zf0, zf1, zf2, zf3, zf4, zf5, zf6, zf7, zf8, zf9];clear zf0 zf1 zf2 zf3 zf4 zf5 zf6 zf7 zf8 zf9;clear V D;have HM1 := Lib.hid hMx;have zk := hGx.1;clear HPL HIX HG0 hGx hMx i1 i2
  by_cases h0 : ix < 0
  ·have h0' : ¬ (0 ≤ ix) := by omega
   have H0 := Lib.hid h0;clear h0
   go_wp2_with fail
   go_ret;exact IntPost.of (by rw [hRK.out, if_pos H0.out]) HM1.out
  ·have h0' : 0 ≤ ix := by omega
   have H0 := Lib.hid h0;clear h0
   go_wp2_with fail
   go_ret;exact IntPost.of (by rw [hRK.out, if_neg (Int.not_lt.2 H0.out)]) HM1.out
end Go.Proofs.YtgfgggeeoeppjaaGreatDoor
