/- Texts of the proof of DeskHands, put together: LayK, DecF, CodW, LayVal, LayCon, VisA, TxtR, ItmE, LayBld, LayB2, QuoA, QuoB, DigA, DigB, ItmS, ItmF, ItmG, FamD, WhoP, WhoT, PlcA, PlcB, SprP, DskP, SprA, FamQ. -/
import Derived.Test.YtgfgggeeoeppjaaGreatDoorDeskHandsZ7
import Derived.Test.YtgfgggeeoeppjaaGreatDoorDeskHandsZ8
import Derived.Test.YtgfgggeeoeppjaaGreatDoorDeskHandsZ9
import Derived.Test.YtgfgggeeoeppjaaGreatDoorDeskHandsZ10
import Derived.Test.YtgfgggeeoeppjaaGreatDoorDeskHandsZ11
import Derived.Test.YtgfgggeeoeppjaaGreatDoorDeskHandsZ12
import Derived.Test.YtgfgggeeoeppjaaGreatDoorDeskHandsZ15
import Derived.Test.YtgfgggeeoeppjaaGreatDoorDeskHandsZ20
import Derived.Test.YtgfgggeeoeppjaaGreatDoorDeskHandsZ23
import Derived.Test.YtgfgggeeoeppjaaGreatDoorDeskHandsZ24
import Derived.Test.YtgfgggeeoeppjaaGreatDoorDeskHandsZ27
import Derived.Test.YtgfgggeeoeppjaaGreatDoorDeskHandsZ28
import Derived.Test.YtgfgggeeoeppjaaGreatDoorDeskHandsZ34
import Derived.Test.YtgfgggeeoeppjaaGreatDoorDeskHandsZ35
import Derived.Ground.NamesProg
import Derived.Shelf.SlGeneric
import Derived.Ground.SlgqProg
import Derived.Shelf.SlicesQ.Equal
import Derived.Shelf.Small.Bits
import Derived.Test.YtgfgggeeoeppjaaGreatDoorProg
import Derived.Shelf.SlicesE.Clone
import Derived.Shelf.Unicode.ValidAny
import Derived.Shelf.Strings.Search3
import Derived.Shelf.Strings.Prefix
import Derived.Shelf.Strings.BuilderK
import Derived.Shelf.Strings.Repeat
import Derived.Deep.DeepCutAuto
import Derived.Deep.AppendLies
import Derived.Lib.AppendStr
import Derived.Laws.IdiomStrings
import Derived.Sort.Walk0
import Derived.Deep.CutBlock
set_option linter.unusedVariables false
set_option linter.unusedSimpArgs false
set_option maxRecDepth 100000
/-
 DERIVED: THE SHELF's CONTRACTS AT THIS DUMP, IN PLAIN WORDS (tools/lay-plain.mjs out of 'YtgfgggeeoeppjaaGreatDoorLayK.lean', which tools/lay-shelf.mjs wrote): THE SAME DECLARATIONS UNDER THE SAME NAMES: 'import', 'namespace', 'open', 'def', 'theorem' AND NOTHING ELSE: no command of the shelf's: FOR A HAND-IN. Each laying: the table of numbers ('.._ren') and one theorem, a field a fact of the dump's own or the kernel's comparison; each contract: ONE APPLICATION.
-/
namespace Go.Proofs
open Go.Shelf
end Go.Proofs
/- Decide of the program, DecideOf of the reference; clones of decisions. -/
namespace Go.Proofs.YtgfgggeeoeppjaaGreatDoor
open Go.RowKit Go.Sort Go.Shelf
theorem likesD.app {xs ys zs us : List DecR} (h : likesD xs ys) (k : likesD zs us) : likesD (xs ++ zs) (ys ++ us) := by
 unfold likesD at h k ⊢;rw [List.map_append, List.map_append, h, k]
end Go.Proofs.YtgfgggeeoeppjaaGreatDoor
/- Codings in memory; sameCoding of the law, slices.EqualFunc of codings. -/
namespace Go.Proofs.YtgfgggeeoeppjaaGreatDoor
open Go.RowKit
end Go.Proofs.YtgfgggeeoeppjaaGreatDoor
/-
 DERIVED: THE SHELF's CONTRACTS AT THIS DUMP, IN PLAIN WORDS (tools/lay-plain.mjs out of 'YtgfgggeeoeppjaaGreatDoorLayVal.lean', which tools/lay-shelf.mjs wrote): THE SAME DECLARATIONS UNDER THE SAME NAMES: 'import', 'namespace', 'open', 'def', 'theorem' AND NOTHING ELSE: no command of the shelf's: FOR A HAND-IN. Each laying: the table of numbers ('.._ren') and one theorem, a field a fact of the dump's own or the kernel's comparison; each contract: ONE APPLICATION.
-/
namespace Go.Proofs
open Go.Shelf
def Tryz.lays196_ren : Go.Shelf.Ren := ⟨fun | 196 => 173 | 259 => 225 | n => n, fun | 9 => 9 | 4 => 4 | 3 => 3 | 5 => 5 | 12 => 12 | 119 => 227 | 0 => 0 | 46 => 210 | 139 => 263 | 138 => 262 | 53 => 197 | n => n, fun | 3 => 2 | 4 => 3 | n => n⟩
theorem Tryz.lays196 : Go.Proofs.Lays.n196 Tryz.prog Tryz.lays196_ren := {
 mixed := by kernel_rfl
 f196 := Tryz.func173.trans (congrArg some (by kernel_rfl))
 f259 := Tryz.func225.trans (congrArg some (by kernel_rfl))
 t0 := Tryz.underlying0
 a0 := Tryz.isAgg0
 z0 := Tryz.sizeOf0
 v0 := Tryz.zeroValue0
 t3 := Tryz.underlying3
 a3 := Tryz.isAgg3
 z3 := Tryz.sizeOf3
 v3 := Tryz.zeroValue3
 t4 := Tryz.underlying4
 a4 := Tryz.isAgg4
 z4 := Tryz.sizeOf4
 v4 := Tryz.zeroValue4
 t5 := Tryz.underlying5
 a5 := Tryz.isAgg5
 z5 := Tryz.sizeOf5
 v5 := Tryz.zeroValue5
 t9 := Tryz.underlying9
 a9 := Tryz.isAgg9
 z9 := Tryz.sizeOf9
 v9 := Tryz.zeroValue9
 t12 := Tryz.underlying12
 a12 := Tryz.isAgg12
 z12 := Tryz.sizeOf12
 v12 := Tryz.zeroValue12
 t46 := Tryz.underlying210
 a46 := Tryz.isAgg210
 z46 := Tryz.sizeOf210
 v46 := Tryz.zeroValue210
 t53 := Tryz.underlying197
 a53 := Tryz.isAgg197
 z53 := Tryz.sizeOf197
 v53 := Tryz.zeroValue197
 t119 := Tryz.underlying227
 a119 := Tryz.isAgg227
 z119 := Tryz.sizeOf227
 t138 := Tryz.underlying262
 a138 := Tryz.isAgg262
 z138 := Tryz.sizeOf262
 v138 := Tryz.zeroValue262
 t139 := Tryz.underlying263
 a139 := Tryz.isAgg263
 z139 := Tryz.sizeOf263
 v139 := Tryz.zeroValue263
 g3 := by kernel_rfl
 g4 := by kernel_rfl }
end Go.Proofs
/-
 DERIVED: THE SHELF's CONTRACTS AT THIS DUMP, IN PLAIN WORDS (tools/lay-plain.mjs out of 'YtgfgggeeoeppjaaGreatDoorLayCon.lean', which tools/lay-shelf.mjs wrote): THE SAME DECLARATIONS UNDER THE SAME NAMES: 'import', 'namespace', 'open', 'def', 'theorem' AND NOTHING ELSE: no command of the shelf's: FOR A HAND-IN. Each laying: the table of numbers ('.._ren') and one theorem, a field a fact of the dump's own or the kernel's comparison; each contract: ONE APPLICATION.
-/
namespace Go.Proofs
open Go.Shelf
def Tryz.lays144_ren : Go.Shelf.Ren := ⟨fun | 144 => 174 | 143 => 149 | 219 => 183 | 217 => 184 | 225 => 234 | 224 => 235 | 267 => 236 | 266 => 237 | 314 => 263 | n => n, fun | 9 => 9 | 4 => 4 | 3 => 3 | 5 => 5 | 46 => 210 | 146 => 232 | 51 => 231 | n => n, fun | 1 => 0 | n => n⟩
theorem Tryz.lays144 : Go.Proofs.Lays.n144 Tryz.prog Tryz.lays144_ren := {
 mixed := by kernel_rfl
 f143 := Tryz.func149.trans (congrArg some (by kernel_rfl))
 f144 := Tryz.func174.trans (congrArg some (by kernel_rfl))
 f217 := Tryz.func184.trans (congrArg some (by kernel_rfl))
 f219 := Tryz.func183.trans (congrArg some (by kernel_rfl))
 f224 := Tryz.func235.trans (congrArg some (by kernel_rfl))
 f225 := Tryz.func234.trans (congrArg some (by kernel_rfl))
 f266 := Tryz.func237.trans (congrArg some (by kernel_rfl))
 f267 := Tryz.func236.trans (congrArg some (by kernel_rfl))
 f314 := Tryz.func263.trans (congrArg some (by kernel_rfl))
 t3 := Tryz.underlying3
 a3 := Tryz.isAgg3
 z3 := Tryz.sizeOf3
 v3 := Tryz.zeroValue3
 t4 := Tryz.underlying4
 a4 := Tryz.isAgg4
 z4 := Tryz.sizeOf4
 v4 := Tryz.zeroValue4
 t5 := Tryz.underlying5
 a5 := Tryz.isAgg5
 z5 := Tryz.sizeOf5
 v5 := Tryz.zeroValue5
 t9 := Tryz.underlying9
 a9 := Tryz.isAgg9
 z9 := Tryz.sizeOf9
 v9 := Tryz.zeroValue9
 t46 := Tryz.underlying210
 a46 := Tryz.isAgg210
 z46 := Tryz.sizeOf210
 v46 := Tryz.zeroValue210
 t51 := Tryz.underlying231
 a51 := Tryz.isAgg231
 z51 := Tryz.sizeOf231
 v51 := Tryz.zeroValue231
 t146 := Tryz.underlying232
 a146 := Tryz.isAgg232
 z146 := Tryz.sizeOf232
 v146 := Tryz.zeroValue232
 g1 := by kernel_rfl }
def Tryz.lays100_ren : Go.Shelf.Ren := ⟨fun | 100 => 215 | 207 => 232 | n => n, fun | 9 => 9 | 4 => 4 | 3 => 3 | n => n, fun | n => n⟩
theorem Tryz.lays100 : Go.Proofs.Lays.n100 Tryz.prog Tryz.lays100_ren := {
 mixed := by kernel_rfl
 f100 := Tryz.func215.trans (congrArg some (by kernel_rfl))
 f207 := Tryz.func232.trans (congrArg some (by kernel_rfl))
 t3 := Tryz.underlying3
 a3 := Tryz.isAgg3
 z3 := Tryz.sizeOf3
 v3 := Tryz.zeroValue3
 t4 := Tryz.underlying4
 a4 := Tryz.isAgg4
 z4 := Tryz.sizeOf4
 v4 := Tryz.zeroValue4
 t9 := Tryz.underlying9
 a9 := Tryz.isAgg9
 z9 := Tryz.sizeOf9
 v9 := Tryz.zeroValue9 }
def Tryz.layc99_ren : Go.Shelf.Ren := ⟨fun | 99 => 134 | 206 => 176 | n => n, fun | 9 => 9 | 4 => 4 | 3 => 3 | n => n, fun | n => n⟩
theorem Tryz.layc99 : Go.Proofs.Lays.n99 Tryz.prog Tryz.layc99_ren := {
 mixed := by kernel_rfl
 f99 := Tryz.func134.trans (congrArg some (by kernel_rfl))
 f206 := Tryz.func176.trans (congrArg some (by kernel_rfl))
 t3 := Tryz.underlying3
 a3 := Tryz.isAgg3
 z3 := Tryz.sizeOf3
 v3 := Tryz.zeroValue3
 t4 := Tryz.underlying4
 a4 := Tryz.isAgg4
 z4 := Tryz.sizeOf4
 v4 := Tryz.zeroValue4
 t9 := Tryz.underlying9
 a9 := Tryz.isAgg9
 z9 := Tryz.sizeOf9
 v9 := Tryz.zeroValue9 }
end Go.Proofs
/- Strings of items: what the program and the reference say of them. -/
namespace Go.Proofs.YtgfgggeeoeppjaaGreatDoor
open Go.RowKit
def Utf (w : World) : Prop := Lib.Utf8Tabs 2 3 w
def Mln (w : World) : Prop := ∃ m : Int, w.cell? ⟨0, 0, none⟩ = some (.int .i64 m)
def Env (w : World) : Prop := Utf w ∧ Mln w
theorem Utf.pure {w w' : World} (h : Utf w) (hm : Pure w w') : Utf w' := Utf8Tabs_below h hm.below
theorem Mln.pure {w w' : World} (h : Mln w) (hm : Pure w w') : Mln w' := by
 obtain ⟨m, h⟩ := h;exact ⟨m, hm.keep h id⟩
theorem Env.pure {w w' : World} (h : Env w) (hm : Pure w w') : Env w' := ⟨h.1.pure hm, h.2.pure hm⟩
theorem Env.alloc {w : World} (h : Env w) (o : Obj) : Env (w.alloc o) := h.pure ((Mod.refl _ _).alloc o)
theorem Pure.same (w : World) : Pure w w := Mod.refl _ _
theorem valid_calls (w : World) (s : ByteArray) (hs : s.size ≤ 1000000) (hU : Utf w) : Calls Tryz.prog 173 #[.string s] w (BoolPost w (Lib.validD s.data.toList)) := by
 refine (Any.utf8_ValidString Tryz.lays196 s w (by omega) hU).mono ?_;rintro e w' ⟨rfl, h⟩;exact ⟨rfl, Mod.of_below h⟩
theorem contains_calls (w : World) (s t : ByteArray) (hs : s.size ≤ 1000000) (hM : Mln w) : Calls Tryz.prog 174 #[.string s, .string t] w (BoolSame w (Lib.contains s.data.toList t.data.toList)) := by
 obtain ⟨m, hm⟩ := hM;refine (Any.strings_Contains Tryz.lays144 s t m w (by omega) hm).mono ?_;rintro e w' ⟨rfl, h⟩;exact ⟨rfl, h.symm⟩
theorem suffix_calls (w : World) (s t : ByteArray) (hs : s.size ≤ 1000000) : Calls Tryz.prog 215 #[.string s, .string t] w (BoolSame w (Lib.hasSuffix s.data.toList t.data.toList)) := by
 refine (Any.strings_HasSuffix Tryz.lays100 s t w (by omega)).mono ?_;rintro e w' ⟨rfl, h⟩;exact ⟨rfl, h.symm⟩
theorem pfx_calls (w : World) (s t : ByteArray) : Calls Tryz.prog 134 #[.string s, .string t] w (BoolSame w (Lib.hasPrefix s.data.toList t.data.toList)) := by
 refine (Any.strings_HasPrefix Tryz.layc99 s t w).mono ?_;rintro e w' ⟨rfl, h⟩;exact ⟨rfl, h.symm⟩
theorem visB_false (f : Bool) (l : Str) (k : Nat) (h : k < l.length) (hk : visC f l[k].toNat = false) : visB f l = false := by
 unfold visB;rw [List.all_eq_false];exact ⟨l[k], List.getElem_mem h, by simp [hk]⟩
set_option maxHeartbeats 2000000 in
theorem visible_calls (w : World) (s : ByteArray) (f : Bool) (hs : s.size ≤ 1000000) (hU : Utf w) : Calls Tryz.prog 214 #[.string s, .bool f] w (BoolPost w (visB f s.data.toList && Lib.validD s.data.toList)) := by
 have hls : s.data.toList.length = s.size := by simp
 have HLS := Lib.hid hls;have HV := Lib.hid (valid_calls w s hs hU);clear hls hU
 go_enter Tryz.func214, Tryz.ntmps214
 go_wp2_with fail
 go_loopg [9] s.size (fun gk i wr => ∃ k : Nat, s.size - k = gk ∧ k ≤ s.size ∧ i = .int .i64 (k : Int) ∧ visB f (s.data.toList.take k) = true ∧ w = wr)
 case atStart => exact ⟨0, by omega, by omega, rfl, rfl, rfl⟩
 case round =>
  obtain ⟨k, rfl, hk, rfl, hall, rfl⟩ := hrel;have HA := Lib.hid hall;clear hall
  by_cases hlt : k < s.size
  ·have hl : k < s.data.toList.length := by rw [HLS.out]; exact hlt
   have hsn := visB_snoc f s.data.toList k hl;have hfa := visB_false f s.data.toList k hl
   have hidx : s.data.toList[k] = s[k] := by simp; rfl
   rw [hidx] at hsn hfa;have NO : Hid (visC f s[k].toNat = false → (visB f s.data.toList && Lib.validD s.data.toList) = false) := Lib.hid (fun h => by rw [hfa h]; rfl);have OK : Hid (visC f s[k].toNat = true → visB f (s.data.toList.take (k + 1)) = true) := Lib.hid (fun h => by rw [hsn, HA.out, h]; rfl);clear hsn hfa hidx HV;generalize (visB f s.data.toList && Lib.validD s.data.toList) = ans at *;generalize hc : s[k].toNat = c at *
   by_cases h1 : (c : Int) < 32
   ·have h3 : ((c : Int) == 127) = false := by simp; omega
    by_cases h2 : c = 10
    ·subst h2
     cases f
     ·go_wp2_with fail
      go_ret;exact BoolPost.of (NO.out (by decide)) (Mod.refl _ _)
     ·go_wp2_with fail
      go_roundg (s.size - (k + 1))
      case measure => omega
      case rel => exact ⟨k + 1, rfl, hlt, by simp, OK.out (by decide), rfl⟩
    ·have h2' : ((c : Int) == 10) = false := by simp; omega
     have hx : visC f c = false := by
      unfold visC;rw [decide_eq_true (by omega : c < 32), show (c == 10) = false by simpa using h2];simp
     cases f
     all_goals
      go_wp2_with fail
      go_ret;exact BoolPost.of (NO.out hx) (Mod.refl _ _)
   ·by_cases h2 : c = 127
    ·subst h2
     have hx : visC f 127 = false := by cases f <;> decide
     go_wp2_with fail
     go_ret;exact BoolPost.of (NO.out hx) (Mod.refl _ _)
    ·have h2' : ((c : Int) == 127) = false := by simp; omega
     have hx : visC f c = true := by
      unfold visC;rw [decide_eq_false (by omega : ¬ c < 32), show (c == 127) = false by simpa using h2];simp
     go_wp2_with fail
     go_roundg (s.size - (k + 1))
     case measure => omega
     case rel => exact ⟨k + 1, rfl, hlt, by simp, OK.out hx, rfl⟩
  ·have hke : k = s.size := by omega
   subst hke
   have hall : visB f s.data.toList = true := by
    have := HA.out
    rwa [List.take_of_length_le (by rw [HLS.out]; omega)] at this
   go_wp2_with fail
   refine HV.out.mono ?_;rintro e w1 ⟨rfl, hm⟩;have HX : Hid ((visB f s.data.toList && Lib.validD s.data.toList) = Lib.validD s.data.toList) := Lib.hid (by rw [hall]; rfl);clear hall HV HA;generalize Lib.validD s.data.toList = v at *
   go_wp2_with fail
   go_ret;exact BoolPost.of HX.out hm
set_option maxHeartbeats 2000000 in
theorem plain_calls (w : World) (s : ByteArray) (hs : s.size ≤ 1000000) (hE : Env w) : Calls Tryz.prog 170 #[.string s] w (BoolPost w (plainB s.data.toList)) := by
 have HV := Lib.hid (visible_calls w s false hs hE.1);have HP := Lib.hid (fun W => pfx_calls W s ⟨#[32]⟩);have HS := Lib.hid (fun W => suffix_calls W s ⟨#[32]⟩ hs);have HC := Lib.hid (fun W (h : Pure w W) => contains_calls W s ⟨#[32, 32]⟩ hs (hE.2.pure h));have HX : Hid (plainB s.data.toList = (((visB false s.data.toList && Lib.validD s.data.toList) && !Lib.hasPrefix s.data.toList [32]) && !Lib.hasSuffix s.data.toList [32] && !Lib.contains s.data.toList [32, 32])) := Lib.hid (by unfold plainB; simp only [Bool.and_assoc]);clear hE
 go_enter Tryz.func170, Tryz.ntmps170
 go_wp2_with fail
 refine HV.out.mono ?_;rintro e w1 ⟨rfl, hm⟩;generalize (visB false s.data.toList && Lib.validD s.data.toList) = v at *
 cases v
 ·go_wp2_with fail
  go_ret;exact BoolPost.of (by rw [HX.out]; rfl) hm
 ·go_wp2_with fail
  refine (HP.out _).mono ?_;rintro e w' ⟨rfl, rfl⟩;generalize Lib.hasPrefix s.data.toList [32] = p at *
  cases p
  ·go_wp2_with fail
   refine (HS.out _).mono ?_;rintro e w' ⟨rfl, rfl⟩;generalize Lib.hasSuffix s.data.toList [32] = q at *
   cases q
   ·go_wp2_with fail
    refine (HC.out _ hm).mono ?_;rintro e w' ⟨rfl, rfl⟩;generalize Lib.contains s.data.toList [32, 32] = r at *
    go_wp2_with fail
    go_ret;exact BoolPost.of (by rw [HX.out]; rfl) hm
   ·go_wp2_with fail
    go_ret;exact BoolPost.of (by rw [HX.out]; rfl) hm
  ·go_wp2_with fail
   go_ret;exact BoolPost.of (by rw [HX.out]; rfl) hm
set_option maxHeartbeats 2000000 in
theorem text_calls (w : World) (l : Str) (hs : l.length ≤ 1000000) (hE : Env w) : Calls Tryz.prog 171 #[.string ⟨l.toArray⟩] w (BoolPost w (textB l)) := by
 have hsz : (⟨l.toArray⟩ : ByteArray).size ≤ 1000000 := by simpa [ByteArray.size] using hs
 have HV := Lib.hid (visible_calls w ⟨l.toArray⟩ true hsz hE.1);have HS := Lib.hid (fun W => suffix_calls W ⟨l.toArray⟩ ⟨#[10]⟩ hsz);have HX : Hid (textB l = ((visB true l && Lib.validD l) && (l.isEmpty || Lib.hasSuffix l [10]))) := Lib.hid (by unfold textB; simp only [Bool.and_assoc]);clear hE hsz
 go_enter Tryz.func171, Tryz.ntmps171
 go_wp2_with fail
 refine HV.out.mono ?_;rintro e w1 ⟨rfl, hm⟩;generalize (visB true l && Lib.validD l) = v at *
 cases v
 ·go_wp2_with fail
  go_ret;exact BoolPost.of (by rw [HX.out]; rfl) hm
 ·cases he : l.isEmpty
  ·go_wp2_with fail
   refine (HS.out _).mono ?_;rintro e w' ⟨rfl, rfl⟩;generalize Lib.hasSuffix l [10] = r at *
   go_wp2_with fail
   go_ret;exact BoolPost.of (by rw [HX.out, he]; rfl) hm
  ·go_wp2_with fail
   go_ret;exact BoolPost.of (by rw [HX.out, he]; rfl) hm
end Go.Proofs.YtgfgggeeoeppjaaGreatDoor
/- Strings of items: what the reference says of them. -/
namespace Go.Proofs.YtgfgggeeoeppjaaGreatDoor
open Go.RowKit
theorem trim32_calls (w : World) (l : Str) (hs : l.length ≤ 1000000) : Calls Tryz.prog 168 #[.string ⟨l.toArray⟩, .string ⟨#[32]⟩] w (fun e w' => e = .returned (.string ⟨(Lib.trimS l [32]).toArray⟩) ∧ Pure w w') := by
 have hsz : (⟨l.toArray⟩ : ByteArray).size ≤ 1000000 := by simpa [ByteArray.size] using hs
 have hcon := Any.strings_Trim_laid Tryz.lays160 (by kernel_rfl) ⟨l.toArray⟩ ⟨#[32]⟩ w (by omega) (by simp [ByteArray.size]) (ascii_of_all (by decide));refine hcon.mono ?_;rintro e w' ⟨rfl, h⟩;exact ⟨rfl, Mod.of_below h⟩
set_option maxHeartbeats 2000000 in
theorem rplain_calls (w : World) (l : Str) (hs : l.length ≤ 1000000) (hE : Env w) : Calls Tryz.prog 131 #[.string ⟨l.toArray⟩] w (BoolPost w (plainB l)) := by
 have hsz : (⟨l.toArray⟩ : ByteArray).size ≤ 1000000 := by simpa [ByteArray.size] using hs
 have HLS : Hid (l.length = (⟨l.toArray⟩ : ByteArray).size) := Lib.hid (by simp [ByteArray.size]);have HV := Lib.hid (valid_calls w ⟨l.toArray⟩ hsz hE.1);have HT := Lib.hid (fun W => trim32_calls W l hs);have HC := Lib.hid (fun W (h : Pure w W) => contains_calls W ⟨l.toArray⟩ ⟨#[32, 32]⟩ hsz (hE.2.pure h));have HTS := Lib.hid (trim_self l);have HX : Hid (plainB l = (visB false l && (Lib.validD l && (!Lib.hasPrefix l [32] && (!Lib.hasSuffix l [32] && !Lib.contains l [32, 32]))))) := Lib.hid rfl;clear hE hs;generalize hp : plainB l = pl at *;clear hp;obtain ⟨s, hsd⟩ : ∃ s : ByteArray, s = ⟨l.toArray⟩ := ⟨_, rfl⟩;have HSD := Lib.hid hsd;rw [← hsd] at hsz HLS HV HT HC ⊢;have HIX : Hid (∀ k (h : k < l.length) (h2 : k < s.size), l[k] = s[k]) := Lib.hid (fun k h h2 => by subst hsd; rfl);clear hsd
 go_enter Tryz.func131, Tryz.ntmps131
 go_wp2_with fail
 go_loopg [6] s.size (fun gk i wr => ∃ k : Nat, s.size - k = gk ∧ k ≤ s.size ∧ i = .int .i64 (k : Int) ∧ visB false (l.take k) = true ∧ w = wr)
 case atStart => exact ⟨0, by omega, by omega, rfl, rfl, rfl⟩
 case round =>
  obtain ⟨k, rfl, hk, rfl, hall, rfl⟩ := hrel;have HA := Lib.hid hall;clear hall
  by_cases hlt : k < s.size
  ·have hl : k < l.length := by rw [HLS.out]; exact hlt
   have hsn := visB_snoc false l k hl;have hfa := visB_false false l k hl;rw [HIX.out k hl hlt] at hsn hfa;have NO : Hid (visC false s[k].toNat = false → pl = false) := Lib.hid (fun h => by rw [HX.out, hfa h]; rfl);have OK : Hid (visC false s[k].toNat = true → visB false (l.take (k + 1)) = true) := Lib.hid (fun h => by rw [hsn, HA.out, h]; rfl);clear hsn hfa HX HA HV HT HC HTS HIX HSD;generalize hc : s[k].toNat = c at *
   by_cases h1 : (c : Int) < 32
   ·have hx : visC false c = false := by
     unfold visC;rw [decide_eq_true (by omega : c < 32)];simp
    go_wp2_with fail
    go_ret;exact BoolPost.of (NO.out hx) (Mod.refl _ _)
   ·by_cases h2 : c = 127
    ·subst h2
     go_wp2_with fail
     go_ret;exact BoolPost.of (NO.out (by decide)) (Mod.refl _ _)
    ·have h2' : ((c : Int) == 127) = false := by simp; omega
     have hx : visC false c = true := by
      unfold visC;rw [decide_eq_false (by omega : ¬ c < 32), show (c == 127) = false by simpa using h2];simp
     go_wp2_with fail
     go_roundg (s.size - (k + 1))
     case measure => omega
     case rel => exact ⟨k + 1, rfl, hlt, by simp, OK.out hx, rfl⟩
  ·have hke : k = s.size := by omega
   subst hke
   have hall : visB false l = true := by
    have := HA.out
    rwa [List.take_of_length_le (by rw [HLS.out]; omega)] at this
   have HX2 : Hid (pl = (Lib.validD l && (!Lib.hasPrefix l [32] && (!Lib.hasSuffix l [32] && !Lib.contains l [32, 32])))) := Lib.hid (by rw [HX.out, hall]; rfl);have HSL : Hid (s.data.toList = l) := Lib.hid (by rw [HSD.out]);rw [HSL.out] at HV HC;clear hall HX HA HIX HLS
   go_wp2_with fail
   refine HV.out.mono ?_;rintro e w1 ⟨rfl, hm⟩;generalize Lib.validD l = v at *
   cases v
   ·clear HSD HV HT HC HTS
    go_wp2_with fail
    go_ret;exact BoolPost.of (by rw [HX2.out]; rfl) hm
   ·have hs0 := HSD.out;clear HSD HSL;subst hs0
    go_wp2_with fail
    refine (HT.out _).mono ?_;rintro e w2 ⟨rfl, hm2⟩;have m2 := hm.trans hm2;generalize Lib.trimS l [32] = r at *
    cases hq : (r == l)
    ·have hne : ¬ (Lib.hasPrefix l [32] = false ∧ Lib.hasSuffix l [32] = false) := fun h => by
      have := HTS.out.2 h;rw [this] at hq;simp at hq
     have hpl : pl = false := by
      rw [HX2.out]
      cases h1 : Lib.hasPrefix l [32]
      ·cases h2 : Lib.hasSuffix l [32]
       ·exact absurd ⟨h1, h2⟩ hne
       ·simp
      ·simp
     clear HX2 HTS HT HC hm hm2 hne
     go_wp2_with fail
     go_ret;exact BoolPost.of hpl m2
    ·obtain ⟨h1, h2⟩ := HTS.out.1 (eq_of_beq hq);have HP : Hid (pl = !Lib.contains l [32, 32]) := Lib.hid (by rw [HX2.out, h1, h2]; simp);clear HX2 HTS HT hm hm2 h1 h2
     go_wp2_with fail
     refine (HC.out _ m2).mono ?_;rintro e w3 ⟨rfl, rfl⟩;generalize Lib.contains l [32, 32] = cc at *
     go_wp2_with fail
     go_ret;exact BoolPost.of HP.out m2
theorem text_last {l : Str} (h : 0 < l.length) : Lib.hasSuffix l [10] = (l[l.length - 1].toNat == 10) := by
 obtain ⟨a, x, rfl⟩ : ∃ a x, l = a ++ [x] := ⟨l.dropLast, l.getLast (by intro e; simp [e] at h), (List.dropLast_concat_getLast _).symm⟩
 have e : (a ++ [x])[(a ++ [x]).length - 1] = x := by simp
 rw [e];unfold Lib.hasSuffix List.isSuffixOf;simp only [List.reverse_append, List.reverse_cons, List.reverse_nil, List.nil_append, List.cons_append, List.isPrefixOf, Bool.and_true]
 exact Bool.eq_iff_iff.2 ⟨fun h => by have := eq_of_beq h; subst this; rfl, fun h => by
  have h1 : x.toNat = 10 := eq_of_beq h;have h2 : x = 10 := UInt8.toNat_inj.1 (by rw [h1]; rfl);rw [h2]
  rfl⟩
set_option maxHeartbeats 2000000 in
theorem isText_calls (w : World) (l : Str) (hs : l.length ≤ 1000000) (hE : Env w) : Calls Tryz.prog 132 #[.string ⟨l.toArray⟩] w (BoolPost w (textB l)) := by
 have hsz : (⟨l.toArray⟩ : ByteArray).size ≤ 1000000 := by simpa [ByteArray.size] using hs
 have HLS : Hid (l.length = (⟨l.toArray⟩ : ByteArray).size) := Lib.hid (by simp [ByteArray.size]);have HV := Lib.hid (valid_calls w ⟨l.toArray⟩ hsz hE.1);have HTL := Lib.hid (fun h => text_last (l := l) h);have HX : Hid (textB l = (visB true l && (Lib.validD l && (l.isEmpty || Lib.hasSuffix l [10])))) := Lib.hid rfl;clear hE hs;generalize hp : textB l = pl at *;clear hp;obtain ⟨s, hsd⟩ : ∃ s : ByteArray, s = ⟨l.toArray⟩ := ⟨_, rfl⟩;have HSD := Lib.hid hsd;rw [← hsd] at hsz HLS HV ⊢;have HIX : Hid (∀ k (h : k < l.length) (h2 : k < s.size), l[k] = s[k]) := Lib.hid (fun k h h2 => by subst hsd; rfl);clear hsd
 go_enter Tryz.func132, Tryz.ntmps132
 go_wp2_with fail
 go_loopg [6] s.size (fun gk i wr => ∃ k : Nat, s.size - k = gk ∧ k ≤ s.size ∧ i = .int .i64 (k : Int) ∧ visB true (l.take k) = true ∧ w = wr)
 case atStart => exact ⟨0, by omega, by omega, rfl, rfl, rfl⟩
 case round =>
  obtain ⟨k, rfl, hk, rfl, hall, rfl⟩ := hrel;have HA := Lib.hid hall;clear hall
  by_cases hlt : k < s.size
  ·have hl : k < l.length := by rw [HLS.out]; exact hlt
   have hsn := visB_snoc true l k hl;have hfa := visB_false true l k hl;rw [HIX.out k hl hlt] at hsn hfa;have NO : Hid (visC true s[k].toNat = false → pl = false) := Lib.hid (fun h => by rw [HX.out, hfa h]; rfl);have OK : Hid (visC true s[k].toNat = true → visB true (l.take (k + 1)) = true) := Lib.hid (fun h => by rw [hsn, HA.out, h]; rfl);clear hsn hfa HX HA HV HTL HIX HSD;generalize hc : s[k].toNat = c at *
   by_cases h1 : (c : Int) < 32
   ·have h3 : ((c : Int) == 127) = false := by simp; omega
    by_cases h2 : c = 10
    ·subst h2
     go_wp2_with fail
     go_roundg (s.size - (k + 1))
     case measure => omega
     case rel => exact ⟨k + 1, rfl, hlt, by simp, OK.out (by decide), rfl⟩
    ·have h2' : ((c : Int) != 10) = true := by simp; omega
     have hx : visC true c = false := by
      unfold visC;rw [decide_eq_true (by omega : c < 32), show (c == 10) = false by simpa using h2];simp
     go_wp2_with fail
     go_ret;exact BoolPost.of (NO.out hx) (Mod.refl _ _)
   ·by_cases h2 : c = 127
    ·subst h2
     go_wp2_with fail
     go_ret;exact BoolPost.of (NO.out (by decide)) (Mod.refl _ _)
    ·have h2' : ((c : Int) == 127) = false := by simp; omega
     have hx : visC true c = true := by
      unfold visC;rw [decide_eq_false (by omega : ¬ c < 32), show (c == 127) = false by simpa using h2];simp
     go_wp2_with fail
     go_roundg (s.size - (k + 1))
     case measure => omega
     case rel => exact ⟨k + 1, rfl, hlt, by simp, OK.out hx, rfl⟩
  ·have hke : k = s.size := by omega
   subst hke
   have hall : visB true l = true := by
    have := HA.out
    rwa [List.take_of_length_le (by rw [HLS.out]; omega)] at this
   have HX2 : Hid (pl = (Lib.validD l && (l.isEmpty || Lib.hasSuffix l [10]))) := Lib.hid (by rw [HX.out, hall]; rfl);have HSL : Hid (s.data.toList = l) := Lib.hid (by rw [HSD.out]);rw [HSL.out] at HV;clear hall HX HA
   go_wp2_with fail
   refine HV.out.mono ?_;rintro e w1 ⟨rfl, hm⟩;generalize Lib.validD l = v at *
   cases v
   ·clear HSD HV HTL
    go_wp2_with fail
    go_ret;exact BoolPost.of (by rw [HX2.out]; rfl) hm
   ·have hse : s.toList.isEmpty = l.isEmpty := by rw [ByteArray.toList_eq, HSL.out]
    cases he : l.isEmpty
    ·rw [he] at hse
     have hl0 : 0 < l.length := by
      cases l with
      | nil => cases he
      | cons a t => simp
     have hs0 : 0 < s.size := by rw [← HLS.out]; exact hl0
     have htl := HTL.out hl0;have hix := HIX.out (l.length - 1) (by omega) (by rw [← HLS.out]; omega)
     have hidx : s[s.size - 1].toNat = l[l.length - 1].toNat := by
      rw [hix]
      congr 2
      rw [HLS.out]
     have HP : Hid (pl = (s[s.size - 1].toNat == 10)) := Lib.hid (by rw [HX2.out, he, htl, hidx]; simp)
     have i1 : (0 : Int) ≤ (s.size : Int) - 1 := by omega
     have i2 : (s.size : Int) - 1 < (s.size : Int) := by omega
     have hcast : ((s.size : Int) - 1) = ((s.size - 1 : Nat) : Int) := by omega
     clear HX2 HTL HIX htl hix hidx HSD HV HSL he
     go_wp2_with fail
     go_ret;exact BoolPost.of (by rw [HP.out]; exact Bool.eq_iff_iff.2 (by simp; omega)) hm
    ·rw [he] at hse;clear HSD HV HTL
     go_wp2_with fail
     go_ret;exact BoolPost.of (by rw [HX2.out, he]; rfl) hm
end Go.Proofs.YtgfgggeeoeppjaaGreatDoor
/- The errors of one item: CheckItem of package intake, ItemFault of the reference. -/
namespace Go.Proofs.YtgfgggeeoeppjaaGreatDoor
open Go.RowKit
theorem key_any (W : World) (l : Str) (h : l.length ≤ 1000000) : Calls Tryz.prog 57 #[.string ⟨l.toArray⟩] W (BoolPost W (keyB l)) := by
 refine (key_calls W ⟨l.toArray⟩ (by simpa [ByteArray.size] using h)).mono ?_;rintro e w' ⟨rfl, rfl⟩;exact ⟨rfl, Mod.refl _ _⟩
theorem rkey_any (W : World) (l : Str) (h : l.length ≤ 1000000) : Calls Tryz.prog 62 #[.string ⟨l.toArray⟩] W (BoolPost W (keyB l)) :=
 rkey_calls W ⟨l.toArray⟩ (by simpa [ByteArray.size] using h)
theorem plain_any (W : World) (l : Str) (h : l.length ≤ 1000000) (hE : Env W) : Calls Tryz.prog 170 #[.string ⟨l.toArray⟩] W (BoolPost W (plainB l)) :=
 plain_calls W ⟨l.toArray⟩ (by simpa [ByteArray.size] using h) hE
theorem rplain_any (W : World) (l : Str) (h : l.length ≤ 1000000) (hE : Env W) : Calls Tryz.prog 131 #[.string ⟨l.toArray⟩] W (BoolPost W (plainB l)) := rplain_calls W l h hE
theorem text_any (W : World) (l : Str) (h : l.length ≤ 1000000) (hE : Env W) : Calls Tryz.prog 171 #[.string ⟨l.toArray⟩] W (BoolPost W (textB l)) := text_calls W l h hE
theorem rtext_any (W : World) (l : Str) (h : l.length ≤ 1000000) (hE : Env W) : Calls Tryz.prog 132 #[.string ⟨l.toArray⟩] W (BoolPost W (textB l)) := isText_calls W l h hE
set_option maxHeartbeats 400000 in
theorem moment_calls (n : Int) (w : World) : Calls Tryz.prog 118 #[.int .i64 n] w (BoolSame w (inB n 0 5761439)) := by
 go_enter Tryz.func118, Tryz.ntmps118
 go_wp2_with fail
 refine (in_calls _ _ _ _).mono ?_;rintro e w' ⟨rfl, rfl⟩
 go_wp2_with fail
 go_ret;exact BoolSame.of rfl
theorem rmoment_calls (n : Int) (w : World) : Calls Tryz.prog 63 #[.int .i64 n, .int .i64 0, .int .i64 5761439] w (BoolSame w (inB n 0 5761439)) := rin_calls _ _ _ _
def kwS (n : Int) : Str := if n = 1 then [109, 97, 105, 108] else if n = 2 then [102, 105, 108, 101] else if n = 3 then [98, 111, 120] else if n = 4 then [110, 111, 116, 101] else []
theorem kwS_empty (n : Int) : (kwS n).isEmpty = !inB n 1 4 := by
 unfold kwS inB
 by_cases h1 : n = 1
 ·subst h1; rfl
 by_cases h2 : n = 2
 ·subst h2; rfl
 by_cases h3 : n = 3
 ·subst h3; rfl
 by_cases h4 : n = 4
 ·subst h4; rfl
 rw [if_neg h1, if_neg h2, if_neg h3, if_neg h4, decide_eq_false (by omega)]
 rfl
set_option maxHeartbeats 400000 in
theorem kindWord_calls (n : Int) (w : World) : Calls Tryz.prog 81 #[.int .i64 n] w (fun e w' => e = .returned (.string ⟨(kwS n).toArray⟩) ∧ w = w') := by
 by_cases h1 : n = 1
 ·subst h1
  go_enter Tryz.func81, Tryz.ntmps81
  go_wp2_with fail
  go_ret;exact ⟨rfl, rfl⟩
 by_cases h2 : n = 2
 ·subst h2
  go_enter Tryz.func81, Tryz.ntmps81
  go_wp2_with fail
  go_ret;exact ⟨rfl, rfl⟩
 by_cases h3 : n = 3
 ·subst h3
  go_enter Tryz.func81, Tryz.ntmps81
  go_wp2_with fail
  go_ret;exact ⟨rfl, rfl⟩
 by_cases h4 : n = 4
 ·subst h4
  go_enter Tryz.func81, Tryz.ntmps81
  go_wp2_with fail
  go_ret;exact ⟨rfl, rfl⟩
 have g1 : (n == 1) = false := by simpa using h1
 have g2 : (n == 2) = false := by simpa using h2
 have g3 : (n == 3) = false := by simpa using h3
 have g4 : (n == 4) = false := by simpa using h4
 go_enter Tryz.func81, Tryz.ntmps81
 go_wp2_with fail
 go_ret;exact ⟨by unfold kwS; rw [if_neg h1, if_neg h2, if_neg h3, if_neg h4]; rfl, rfl⟩
set_option maxHeartbeats 8000000 in
theorem checkItem_calls (w : World) (x : Itm) (hz : ItB x) (hE : Env w) : Calls Tryz.prog 122 #[itA x] w (IntPost w (itemE x)) := by
 obtain ⟨id, cust, kind, name, tm, par, text⟩ := x;obtain ⟨z1, z2, z3, z4, z5⟩ := hz;simp only at z1 z2 z3 z4 z5;have HK1 := Lib.hid (fun W => key_any W id (by omega));have HK2 := Lib.hid (fun W => key_any W cust (by omega));have HK3 := Lib.hid (fun W => key_any W par (by omega));have HPL := Lib.hid (fun W (h : Pure w W) => plain_any W name (by omega) (hE.pure h));have HTX := Lib.hid (fun W (h : Pure w W) => text_any W text (by omega) (hE.pure h))
 have HIE : Hid (itemE ⟨id, cust, kind, name, tm, par, text⟩ = if !(keyB id && keyB cust) then 5 else if !inB kind 1 4 then 4 else if 120 < name.length then 2 else if !plainB name then 3 else if !inB tm 0 5761439 then 1 else
  if !par.isEmpty && !keyB par then 5 else if par = id then 14 else if 20000 < text.length then 2 else if !textB text then 3 else 0) := Lib.hid (by unfold itemE; rw [show decide (par ≠ []) = !par.isEmpty by cases par <;> simp])
 generalize hie : itemE ⟨id, cust, kind, name, tm, par, text⟩ = ie at *;have HKN : Hid (keyB id = true → id.isEmpty = false) := Lib.hid (fun h => by cases id <;> first | rfl | cases h);generalize keyB id = k1 at *;generalize keyB cust = k2 at *;generalize keyB par = k3 at *;generalize plainB name = pl at *;generalize textB text = tx at *;clear hie hE z1 z2 z3 z4 z5;have B0 := Blk.new w 79 (itQ ⟨id, cust, kind, name, tm, par, text⟩);have m0 : Pure w (w.alloc (.cells (itQ ⟨id, cust, kind, name, tm, par, text⟩) 79)) := pure_alloc _ _;unfold itQ at B0 m0;simp only at B0 m0;have HB0 := Lib.hid B0;have Hm0 := Lib.hid m0;clear B0 m0;unfold itA;simp only
 go_enter Tryz.func122, Tryz.ntmps122
 go_wp2_with fail
 refine (HK1.out _).mono ?_;rintro e w1 ⟨rfl, m1⟩;have B1 := HB0.out.mod m1 _root_.id;have m1 := Hm0.out.trans m1;clear HB0 Hm0;generalize w.heap.size = gx at *
 cases k1
 ·clear B1 HK1 HK2 HK3 HPL HTX
  go_wp2_with fail
  go_ret;exact IntPost.of (by rw [HIE.out]; rfl) m1
 have c0 := B1.cell 0; have c1 := B1.cell 1; have c2 := B1.cell 2; have c3 := B1.cell 3; have c4 := B1.cell 4; have c5 := B1.cell 5; have c6 := B1.cell 6; simp at c0 c1 c2 c3 c4 c5 c6
 go_wp2_with fail
 clear c0 c1 c2 c3 c4 c5 c6;refine (HK2.out _).mono ?_;rintro e w2 ⟨rfl, m2⟩;have B2 := B1.mod m2 _root_.id;have m2 := m1.trans m2;clear B1 m1
 cases k2
 ·clear B2 HK1 HK2 HK3 HPL HTX
  go_wp2_with fail
  go_ret;exact IntPost.of (by rw [HIE.out]; rfl) m2
 have c0 := B2.cell 0; have c1 := B2.cell 1; have c2 := B2.cell 2; have c3 := B2.cell 3; have c4 := B2.cell 4; have c5 := B2.cell 5; have c6 := B2.cell 6; simp at c0 c1 c2 c3 c4 c5 c6
 go_wp2_with fail
 refine (kindWord_calls _ _).mono ?_;rintro e w' ⟨rfl, rfl⟩;have hkw := kwS_empty kind
 cases hki : inB kind 1 4
 all_goals
  rw [hki] at hkw;simp only [Bool.not_true, Bool.not_false] at hkw;generalize kwS kind = kw at *
 ·clear B2 HK1 HK2 HK3 HPL HTX
  go_wp2_with fail
  go_ret;exact IntPost.of (by rw [HIE.out]; simp [hki]) m2
 by_cases hn : 120 < name.length
 ·have hn' : (120 : Int) < (name.length : Int) := by omega
  clear B2 HK1 HK2 HK3 HPL HTX
  go_wp2_with fail
  go_ret;exact IntPost.of (by rw [HIE.out]; simp [hki, hn]) m2
 have hn' : ¬ ((120 : Int) < (name.length : Int)) := by omega
 go_wp2_with fail
 clear c0 c1 c2 c3 c4 c5 c6;refine (HPL.out _ m2).mono ?_;rintro e w3 ⟨rfl, m3⟩;have B3 := B2.mod m3 _root_.id;have m3 := m2.trans m3;clear B2 m2
 cases pl
 ·clear B3 HK1 HK2 HK3 HPL HTX
  go_wp2_with fail
  go_ret;exact IntPost.of (by rw [HIE.out]; simp [hki, hn]) m3
 have c0 := B3.cell 0; have c1 := B3.cell 1; have c2 := B3.cell 2; have c3 := B3.cell 3; have c4 := B3.cell 4; have c5 := B3.cell 5; have c6 := B3.cell 6; simp at c0 c1 c2 c3 c4 c5 c6
 go_wp2_with fail
 refine (moment_calls _ _).mono ?_;rintro e w' ⟨rfl, rfl⟩
 cases htm : inB tm 0 5761439
 ·clear B3 HK1 HK2 HK3 HPL HTX
  go_wp2_with fail
  go_ret;exact IntPost.of (by rw [HIE.out]; simp [hki, hn, htm]) m3
 rw [hki, htm] at HIE
 cases hpe : par.isEmpty
 ·rw [hpe] at HIE
  go_wp2_with fail
  clear c0 c1 c2 c3 c4 c5 c6;refine (HK3.out _).mono ?_;rintro e w4 ⟨rfl, m4⟩;have B4 := B3.mod m4 _root_.id;have m4 := m3.trans m4;clear B3 m3
  cases k3
  ·clear B4 HK1 HK2 HK3 HPL HTX
   go_wp2_with fail
   go_ret;exact IntPost.of (by rw [HIE.out]; simp [hn]) m4
  have c0 := B4.cell 0; have c1 := B4.cell 1; have c2 := B4.cell 2; have c3 := B4.cell 3; have c4 := B4.cell 4; have c5 := B4.cell 5; have c6 := B4.cell 6; simp at c0 c1 c2 c3 c4 c5 c6
  cases hpi : (par == id)
  ·have hpi2 : ¬ par = id := by simpa using hpi
   by_cases hl2 : 20000 < text.length
   ·have hl2' : (20000 : Int) < (text.length : Int) := by omega
    clear HK1 HK2 HK3 HPL HTX
    go_wp2_with fail
    go_ret;exact IntPost.of (by rw [HIE.out]; simp [hn, hl2, hpi2]) m4
   ·have hl2' : ¬ ((20000 : Int) < (text.length : Int)) := by omega
    clear HK1 HK2 HK3 HPL
    go_wp2_with fail
    refine (HTX.out _ m4).mono ?_;rintro e w6 ⟨rfl, m6⟩;have m6 := m4.trans m6;clear HTX
    cases tx
    all_goals
     go_wp2_with fail
     go_ret;exact IntPost.of (by rw [HIE.out]; simp [hn, hl2, hpi2]) m6
  ·have hpi2 : par = id := by simpa using hpi
   clear HK1 HK2 HK3 HPL HTX
   go_wp2_with fail
   go_ret;exact IntPost.of (by rw [HIE.out]; simp [hn, hpi2]) m4
 ·rw [hpe] at HIE
  cases hpi : (par == id)
  ·have hpi2 : ¬ par = id := by simpa using hpi
   by_cases hl2 : 20000 < text.length
   ·have hl2' : (20000 : Int) < (text.length : Int) := by omega
    clear HK1 HK2 HK3 HPL HTX
    go_wp2_with fail
    go_ret;exact IntPost.of (by rw [HIE.out]; simp [hn, hl2, hpi2]) m3
   ·have hl2' : ¬ ((20000 : Int) < (text.length : Int)) := by omega
    clear HK1 HK2 HK3 HPL
    go_wp2_with fail
    refine (HTX.out _ m3).mono ?_;rintro e w6 ⟨rfl, m6⟩;have m6 := m3.trans m6;clear HTX
    cases tx
    all_goals
     go_wp2_with fail
     go_ret;exact IntPost.of (by rw [HIE.out]; simp [hn, hl2, hpi2]) m6
  ·have hpi2 : par = id := by simpa using hpi
   have hx : id.isEmpty = false := by have := HKN.out; simpa using this
   rw [← hpi2, hpe] at hx
   cases hx
set_option maxHeartbeats 8000000 in
theorem itemFault_calls (w : World) (x : Itm) (hz : ItB x) (hE : Env w) : Calls Tryz.prog 72 #[itA x] w (IntPost w (itemE x)) := by
 obtain ⟨id, cust, kind, name, tm, par, text⟩ := x;obtain ⟨z1, z2, z3, z4, z5⟩ := hz;simp only at z1 z2 z3 z4 z5;have HK1 := Lib.hid (fun W => rkey_any W id (by omega));have HK2 := Lib.hid (fun W => rkey_any W cust (by omega));have HK3 := Lib.hid (fun W => rkey_any W par (by omega));have HPL := Lib.hid (fun W (h : Pure w W) => rplain_any W name (by omega) (hE.pure h));have HTX := Lib.hid (fun W (h : Pure w W) => rtext_any W text (by omega) (hE.pure h))
 have HIE : Hid (itemE ⟨id, cust, kind, name, tm, par, text⟩ = if !(keyB id && keyB cust) then 5 else if !inB kind 1 4 then 4 else if 120 < name.length then 2 else if !plainB name then 3 else if !inB tm 0 5761439 then 1 else
  if !par.isEmpty && !keyB par then 5 else if par = id then 14 else if 20000 < text.length then 2 else if !textB text then 3 else 0) := Lib.hid (by unfold itemE; rw [show decide (par ≠ []) = !par.isEmpty by cases par <;> simp])
 generalize hie : itemE ⟨id, cust, kind, name, tm, par, text⟩ = ie at *;have HKN : Hid (keyB id = true → id.isEmpty = false) := Lib.hid (fun h => by cases id <;> first | rfl | cases h);generalize keyB id = k1 at *;generalize keyB cust = k2 at *;generalize keyB par = k3 at *;generalize plainB name = pl at *;generalize textB text = tx at *;clear hie hE z1 z2 z3 z4 z5;have B0 := Blk.new w 79 (itQ ⟨id, cust, kind, name, tm, par, text⟩);have m0 : Pure w (w.alloc (.cells (itQ ⟨id, cust, kind, name, tm, par, text⟩) 79)) := pure_alloc _ _;unfold itQ at B0 m0;simp only at B0 m0;have HB0 := Lib.hid B0;have Hm0 := Lib.hid m0;clear B0 m0;unfold itA;simp only
 go_enter Tryz.func72, Tryz.ntmps72
 go_wp2_with fail
 refine (HK1.out _).mono ?_;rintro e w1 ⟨rfl, m1⟩;have B1 := HB0.out.mod m1 _root_.id;have m1 := Hm0.out.trans m1;clear HB0 Hm0;generalize w.heap.size = gx at *
 cases k1
 ·clear B1 HK1 HK2 HK3 HPL HTX
  go_wp2_with fail
  go_ret;exact IntPost.of (by rw [HIE.out]; rfl) m1
 have c0 := B1.cell 0; have c1 := B1.cell 1; have c2 := B1.cell 2; have c3 := B1.cell 3; have c4 := B1.cell 4; have c5 := B1.cell 5; have c6 := B1.cell 6; simp at c0 c1 c2 c3 c4 c5 c6
 go_wp2_with fail
 clear c0 c1 c2 c3 c4 c5 c6;refine (HK2.out _).mono ?_;rintro e w2 ⟨rfl, m2⟩;have B2 := B1.mod m2 _root_.id;have m2 := m1.trans m2;clear B1 m1
 cases k2
 ·clear B2 HK1 HK2 HK3 HPL HTX
  go_wp2_with fail
  go_ret;exact IntPost.of (by rw [HIE.out]; rfl) m2
 have c0 := B2.cell 0; have c1 := B2.cell 1; have c2 := B2.cell 2; have c3 := B2.cell 3; have c4 := B2.cell 4; have c5 := B2.cell 5; have c6 := B2.cell 6; simp at c0 c1 c2 c3 c4 c5 c6
 go_wp2_with fail
 refine (rin_calls _ _ _ _).mono ?_;rintro e w' ⟨rfl, rfl⟩
 cases hki : inB kind 1 4
 ·clear B2 HK1 HK2 HK3 HPL HTX
  go_wp2_with fail
  go_ret;exact IntPost.of (by rw [HIE.out]; simp [hki]) m2
 by_cases hn : 120 < name.length
 ·have hn' : (120 : Int) < (name.length : Int) := by omega
  clear B2 HK1 HK2 HK3 HPL HTX
  go_wp2_with fail
  go_ret;exact IntPost.of (by rw [HIE.out]; simp [hki, hn]) m2
 have hn' : ¬ ((120 : Int) < (name.length : Int)) := by omega
 go_wp2_with fail
 clear c0 c1 c2 c3 c4 c5 c6;refine (HPL.out _ m2).mono ?_;rintro e w3 ⟨rfl, m3⟩;have B3 := B2.mod m3 _root_.id;have m3 := m2.trans m3;clear B2 m2
 cases pl
 ·clear B3 HK1 HK2 HK3 HPL HTX
  go_wp2_with fail
  go_ret;exact IntPost.of (by rw [HIE.out]; simp [hki, hn]) m3
 have c0 := B3.cell 0; have c1 := B3.cell 1; have c2 := B3.cell 2; have c3 := B3.cell 3; have c4 := B3.cell 4; have c5 := B3.cell 5; have c6 := B3.cell 6; simp at c0 c1 c2 c3 c4 c5 c6
 go_wp2_with fail
 refine (rmoment_calls _ _).mono ?_;rintro e w' ⟨rfl, rfl⟩
 cases htm : inB tm 0 5761439
 ·clear B3 HK1 HK2 HK3 HPL HTX
  go_wp2_with fail
  go_ret;exact IntPost.of (by rw [HIE.out]; simp [hki, hn, htm]) m3
 rw [hki, htm] at HIE
 cases hpe : par.isEmpty
 ·rw [hpe] at HIE
  go_wp2_with fail
  clear c0 c1 c2 c3 c4 c5 c6;refine (HK3.out _).mono ?_;rintro e w4 ⟨rfl, m4⟩;have B4 := B3.mod m4 _root_.id;have m4 := m3.trans m4;clear B3 m3
  cases k3
  ·clear B4 HK1 HK2 HK3 HPL HTX
   go_wp2_with fail
   go_ret;exact IntPost.of (by rw [HIE.out]; simp [hn]) m4
  have c0 := B4.cell 0; have c1 := B4.cell 1; have c2 := B4.cell 2; have c3 := B4.cell 3; have c4 := B4.cell 4; have c5 := B4.cell 5; have c6 := B4.cell 6; simp at c0 c1 c2 c3 c4 c5 c6
  cases hpi : (par == id)
  ·have hpi2 : ¬ par = id := by simpa using hpi
   by_cases hl2 : 20000 < text.length
   ·have hl2' : (20000 : Int) < (text.length : Int) := by omega
    clear HK1 HK2 HK3 HPL HTX
    go_wp2_with fail
    go_ret;exact IntPost.of (by rw [HIE.out]; simp [hn, hl2, hpi2]) m4
   ·have hl2' : ¬ ((20000 : Int) < (text.length : Int)) := by omega
    clear HK1 HK2 HK3 HPL
    go_wp2_with fail
    refine (HTX.out _ m4).mono ?_;rintro e w6 ⟨rfl, m6⟩;have m6 := m4.trans m6;clear HTX
    cases tx
    all_goals
     go_wp2_with fail
     go_ret;exact IntPost.of (by rw [HIE.out]; simp [hn, hl2, hpi2]) m6
  ·have hpi2 : par = id := by simpa using hpi
   clear HK1 HK2 HK3 HPL HTX
   go_wp2_with fail
   go_ret;exact IntPost.of (by rw [HIE.out]; simp [hn, hpi2]) m4
 ·rw [hpe] at HIE
  cases hpi : (par == id)
  ·have hpi2 : ¬ par = id := by simpa using hpi
   by_cases hl2 : 20000 < text.length
   ·have hl2' : (20000 : Int) < (text.length : Int) := by omega
    clear HK1 HK2 HK3 HPL HTX
    go_wp2_with fail
    go_ret;exact IntPost.of (by rw [HIE.out]; simp [hn, hl2, hpi2]) m3
   ·have hl2' : ¬ ((20000 : Int) < (text.length : Int)) := by omega
    clear HK1 HK2 HK3 HPL
    go_wp2_with fail
    refine (HTX.out _ m3).mono ?_;rintro e w6 ⟨rfl, m6⟩;have m6 := m3.trans m6;clear HTX
    cases tx
    all_goals
     go_wp2_with fail
     go_ret;exact IntPost.of (by rw [HIE.out]; simp [hn, hl2, hpi2]) m6
  ·have hpi2 : par = id := by simpa using hpi
   have hx : id.isEmpty = false := by have := HKN.out; simpa using this
   rw [← hpi2, hpe] at hx
   cases hx
end Go.Proofs.YtgfgggeeoeppjaaGreatDoor
/-
 DERIVED: THE SHELF's CONTRACTS AT THIS DUMP, IN PLAIN WORDS (tools/lay-plain.mjs out of 'YtgfgggeeoeppjaaGreatDoorLayBld.lean', which tools/lay-shelf.mjs wrote): THE SAME DECLARATIONS UNDER THE SAME NAMES: 'import', 'namespace', 'open', 'def', 'theorem' AND NOTHING ELSE: no command of the shelf's: FOR A HAND-IN. Each laying: the table of numbers ('.._ren') and one theorem, a field a fact of the dump's own or the kernel's comparison; each contract: ONE APPLICATION.
-/
namespace Go.Proofs
open Go.Shelf
def Tryz.lays105_ren : Go.Shelf.Ren := ⟨fun | 105 => 101 | 212 => 160 | 99 => 134 | 165 => 146 | 166 => 84 | 170 => 86 | 169 => 87 | 263 => 192 | 264 => 193 | 206 => 176 | 240 => 145 | 241 => 182 | 276 => 181 | 277 => 233 | n => n, fun | 9 => 9 | 3 => 3 | 4 => 4 | 20 => 20 | 0 => 0 | 46 => 210 | 109 => 211 | 5 => 5 | 72 => 137 | 76 => 142 | 51 => 231 | 146 => 232 | 53 => 197 | 148 => 234 | 70 => 134 | 37 => 135 | 75 => 141 | 127 => 203 | 164 => 224 | 80 => 146 | n => n, fun | n => n⟩
theorem Tryz.lays105 : Go.Proofs.Lays.n105 Tryz.prog Tryz.lays105_ren := {
 mixed := by kernel_rfl
 f99 := Tryz.func134.trans (congrArg some (by kernel_rfl))
 f105 := Tryz.func101.trans (congrArg some (by kernel_rfl))
 f165 := Tryz.func146.trans (congrArg some (by kernel_rfl))
 f166 := Tryz.func84.trans (congrArg some (by kernel_rfl))
 f169 := Tryz.func87.trans (congrArg some (by kernel_rfl))
 f170 := Tryz.func86.trans (congrArg some (by kernel_rfl))
 f206 := Tryz.func176.trans (congrArg some (by kernel_rfl))
 f212 := Tryz.func160.trans (congrArg some (by kernel_rfl))
 f240 := Tryz.func145.trans (congrArg some (by kernel_rfl))
 f241 := Tryz.func182.trans (congrArg some (by kernel_rfl))
 f263 := Tryz.func192.trans (congrArg some (by kernel_rfl))
 f264 := Tryz.func193.trans (congrArg some (by kernel_rfl))
 f276 := Tryz.func181.trans (congrArg some (by kernel_rfl))
 f277 := Tryz.func233.trans (congrArg some (by kernel_rfl))
 t0 := Tryz.underlying0
 a0 := Tryz.isAgg0
 z0 := Tryz.sizeOf0
 v0 := Tryz.zeroValue0
 t3 := Tryz.underlying3
 a3 := Tryz.isAgg3
 z3 := Tryz.sizeOf3
 v3 := Tryz.zeroValue3
 t4 := Tryz.underlying4
 a4 := Tryz.isAgg4
 z4 := Tryz.sizeOf4
 v4 := Tryz.zeroValue4
 t5 := Tryz.underlying5
 a5 := Tryz.isAgg5
 z5 := Tryz.sizeOf5
 v5 := Tryz.zeroValue5
 t9 := Tryz.underlying9
 a9 := Tryz.isAgg9
 z9 := Tryz.sizeOf9
 v9 := Tryz.zeroValue9
 t20 := Tryz.underlying20
 a20 := Tryz.isAgg20
 z20 := Tryz.sizeOf20
 v20 := Tryz.zeroValue20
 t37 := Tryz.underlying135
 a37 := Tryz.isAgg135
 z37 := Tryz.sizeOf135
 v37 := Tryz.zeroValue135
 t46 := Tryz.underlying210
 a46 := Tryz.isAgg210
 z46 := Tryz.sizeOf210
 v46 := Tryz.zeroValue210
 t51 := Tryz.underlying231
 a51 := Tryz.isAgg231
 z51 := Tryz.sizeOf231
 v51 := Tryz.zeroValue231
 t53 := Tryz.underlying197
 a53 := Tryz.isAgg197
 z53 := Tryz.sizeOf197
 v53 := Tryz.zeroValue197
 t70 := Tryz.underlying134
 a70 := Tryz.isAgg134
 z70 := Tryz.sizeOf134
 v70 := Tryz.zeroValue134
 t72 := Tryz.underlying137
 a72 := Tryz.isAgg137
 z72 := Tryz.sizeOf137
 v72 := Tryz.zeroValue137
 t75 := Tryz.underlying141
 a75 := Tryz.isAgg141
 z75 := Tryz.sizeOf141
 v75 := Tryz.zeroValue141
 t76 := Tryz.underlying142
 a76 := Tryz.isAgg142
 z76 := Tryz.sizeOf142
 v76 := Tryz.zeroValue142
 t109 := Tryz.underlying211
 a109 := Tryz.isAgg211
 z109 := Tryz.sizeOf211
 v109 := Tryz.zeroValue211
 t127 := Tryz.underlying203
 a127 := Tryz.isAgg203
 z127 := Tryz.sizeOf203
 v127 := Tryz.zeroValue203
 t146 := Tryz.underlying232
 a146 := Tryz.isAgg232
 z146 := Tryz.sizeOf232
 v146 := Tryz.zeroValue232
 t148 := Tryz.underlying234
 a148 := Tryz.isAgg234
 z148 := Tryz.sizeOf234
 v148 := Tryz.zeroValue234
 t164 := Tryz.underlying224
 a164 := Tryz.isAgg224
 z164 := Tryz.sizeOf224
 v164 := Tryz.zeroValue224 }
end Go.Proofs
/- The contracts of strings.Builder's writers, laid at this program. -/
namespace Go.Proofs.YtgfgggeeoeppjaaGreatDoor
open Go.RowKit Go.Shelf
end Go.Proofs.YtgfgggeeoeppjaaGreatDoor
/- Quoted strings: quoted and Quote of package intake. -/
namespace Go.Proofs.YtgfgggeeoeppjaaGreatDoor
open Go.RowKit
theorem enc_ascii (c : Nat) (h : c < 128) : Utf8.encode (c : Int) = ⟨#[UInt8.ofNat c]⟩ := by
 have key : ∀ n : Fin 128, Utf8.encode (n.val : Int) = ⟨#[UInt8.ofNat n.val]⟩ := by decide +kernel
 exact key ⟨c, h⟩
def StrPost1 (w : World) (l : Str) (e : Ending) (w' : World) : Prop := e = .returned (.string ⟨l.toArray⟩) ∧ Pure w w'
def IsB (w : World) (b : Nat) (l : Str) : Prop := Lib.IsBuilderF 137 5 b b (Lib.byteCells l) w ∧ b ≤ w.heap.size
theorem ownF_pure {w w' : World} {base n size : Nat} {e : TypeId} {v : Value} {xs : List Value} (h : w.ownsRowF base e size v n xs) (hm : Pure w w') : w'.ownsRowF base e size v n xs := by
 obtain ⟨h1, h2⟩ := h;refine ⟨h1, ?_⟩
 rcases h2 with h2 | ⟨g, cap, cur, fz, hv, hg, hh, r⟩
 ·exact .inl h2
 ·exact .inr ⟨g, cap, cur, fz, hv, hg, (hm.block g (lt_of_heap hh) id).trans hh, r⟩
theorem IsB.pure {w w' : World} {b : Nat} {l : Str} (h : IsB w b l) (hm : Pure w w') : IsB w' b l := by
 obtain ⟨h1, h2⟩ := h
 have key : ∀ p, Lib.BuilderAtF 137 5 b b p (Lib.byteCells l) w → Lib.BuilderAtF 137 5 b b p (Lib.byteCells l) w' := by
  rintro p ⟨k1, v, k2, k3, k4⟩;exact ⟨k1, v, (hm.block b (lt_of_heap k2) id).trans k2, ownF_pure k3 hm, k4⟩
 exact ⟨h1.elim (fun x => .inl (key _ x)) (fun x => .inr (key _ x)), Nat.le_trans h2 hm.size⟩
end Go.Proofs.YtgfgggeeoeppjaaGreatDoor
/- Quoted strings: Quoted of the reference. -/
namespace Go.Proofs.YtgfgggeeoeppjaaGreatDoor
open Go.RowKit
end Go.Proofs.YtgfgggeeoeppjaaGreatDoor
/- Digests: hex digits by strconv. -/
namespace Go.Proofs.YtgfgggeeoeppjaaGreatDoor
open Go.RowKit
def Deb (w : World) : Prop := w.cell? ⟨9, 15, none⟩ = some (.int .u8 4)
theorem Deb.pure {w w' : World} (h : Deb w) (hm : Pure w w') : Deb w' := hm.keep h id
def DigAt (arr : Array Value) (h k : Nat) : Prop := arr.size = 65 ∧ ∀ j, j < k → arr[64 - j]? = some (.int .u8 ((hexD (h / 16 ^ j % 16)).toNat : Int))
theorem DigAt.step {arr : Array Value} {h k : Nat} (hd : DigAt arr h k) (hk : k < 64) : DigAt (arr.setIfInBounds (64 - k) (.int .u8 ((hexD (h / 16 ^ k % 16)).toNat : Int))) h (k + 1) := by
 refine ⟨by simpa using hd.1, fun j hj => ?_⟩;have hs := hd.1
 by_cases e : j = k
 ·subst e;rw [Array.getElem?_setIfInBounds_self_of_lt (by omega)]
 ·rw [Array.getElem?_setIfInBounds_ne (by omega)];exact hd.2 j (by omega)
theorem hexR_get (h : Nat) : ∀ (k i : Nat) (hi : i < k), (hexR h k)[i]'(by rw [hexR_len]; exact hi) = hexD (h / 16 ^ (k - 1 - i) % 16)
 | 0, i, hi => absurd hi (by omega)
 | k + 1, 0, hi => by simp [hexR]
 | k + 1, i + 1, hi => by
  have := hexR_get h k i (by omega);simp only [hexR, List.getElem_cons_succ];rw [this]
  congr 4
  omega
theorem DigAt.cells {w : World} {arr : Array Value} {h k g : Nat} (hd : DigAt arr h k) (hb : Blk w g 294 arr) (hk : k ≤ 65) : ∀ j (hj : j < (hexR h k).length), w.cell? ((⟨g, 65 - k, none⟩ : Addr).add j) = some (.int .u8 ((hexR h k)[j].toNat : Int)) := by
 intro j hj
 have hj' : j < k := by rw [hexR_len] at hj; exact hj
 rw [hexR_get h k j hj'];have h1 := hd.2 (k - 1 - j) (by omega)
 have h2 : w.cell? ⟨g, 65 - k + j, none⟩ = some (.int .u8 ((hexD (h / 16 ^ (k - 1 - j) % 16)).toNat : Int)) := by
  rw [hb.cell, show 65 - k + j = 64 - (k - 1 - j) by omega];exact h1
 unfold Addr.add
 split
 ·rename_i e; subst e; simpa using h2
 ·exact h2
end Go.Proofs.YtgfgggeeoeppjaaGreatDoor
/- Digests: Digest of package intake, DigestOf of the reference. -/
namespace Go.Proofs.YtgfgggeeoeppjaaGreatDoor
open Go.RowKit
theorem bldExtra5 : Builder.Extra Tryz.prog Tryz.lays105_ren where
 sizeBuilder := by kernel_rfl
 liesBuilder := by kernel_rfl
 t5 := Tryz.underlying5
 a5 := Tryz.isAgg5
 z5 := Tryz.sizeOf5
 v5 := Tryz.zeroValue5
 infoByte := by kernel_rfl
 cellsByte := by kernel_rfl
 sizeByte := by kernel_rfl
 neB5 := by decide
theorem bytes_app (a b : Str) : (⟨a.toArray⟩ : ByteArray) ++ ⟨b.toArray⟩ = ⟨(a ++ b).toArray⟩ := by
 apply ByteArray.ext
 rw [ByteArray.data_append];simp
end Go.Proofs.YtgfgggeeoeppjaaGreatDoor
/- Sums of items. -/
namespace Go.Proofs.YtgfgggeeoeppjaaGreatDoor
open Go.RowKit
theorem StrPost1.of {w w' : World} {l m : Str} (h : l = m) (hm : Pure w w') : StrPost1 w l (.returned (.string ⟨m.toArray⟩)) w' := ⟨by rw [h], hm⟩
end Go.Proofs.YtgfgggeeoeppjaaGreatDoor
/- placed, Check of package intake. -/
namespace Go.Proofs.YtgfgggeeoeppjaaGreatDoor
open Go.RowKit
theorem when_any2 (b : Bool) (n : Int) (w : World) : Calls Tryz.prog 56 #[.bool b, .int .i64 n] w fun e w' => e = .returned (.int .i64 (if b then n else 0)) ∧ w = w' := by
 cases b
 ·exact (when_f _ _).mono fun e w' h => h
 ·exact (when_t _ _).mono fun e w' h => h
theorem ruleB_fnd (l : List Itm) (x : Itm) : ruleB l x = (decide (x.par ≠ []) && match fnd l x.par with
 | none => false
 | some p => decide (p.kind ≠ 1) && decide (p.kind ≠ 3)) := by
 unfold ruleB fnd
 cases h : plc l x.par with
 | none => rfl
 | some k =>
  obtain ⟨hk, _⟩ := plc_lt _ _ _ h;simp [hk]
set_option maxHeartbeats 4000000 in
theorem placed_calls (w : World) (b : Nat) (l : List Itm) (x : Itm) (i : Nat) (hx : l[i]? = some x) (hM : MapX w b l.length (byF l)) (hz : ∀ x ∈ l, ItB x) (hd : l.Pairwise fun x y => x.id ≠ y.id) (hl : l.length ≤ 100000) (hno : lpB l i = false) :
  Calls Tryz.prog 125 #[.map (some b), itA x] w (IntPost w (depE l i)) := by
 have hblt := hM.lt;have hzx : x.par.length ≤ 30000 := (hz x (List.mem_of_getElem? hx)).2.2.2.1;have HAB := Lib.hid (fun W (h : MapX W b l.length (byF l)) => iabove_calls W b l x i hx h hz hd hl);have HDE : Hid (depE l i = if ruleB l x then 16 else if 4 < (chn l l.length i).length then 2 else 0) := Lib.hid (by unfold depE; rw [hx]);have HRU := Lib.hid (ruleB_fnd l x);have HNO := Lib.hid hno;clear hx hz hd hno;have m0 : Pure w (w.alloc (.cells (itQ x) 79)) := pure_alloc _ _;have M0 := hM.pure m0;have B0 := Blk.new w 79 (itQ x);have hlook := M0.look_ok Tryz.underlying113 zero_item x.par (by omega);unfold byF at hlook;have HM0 := Lib.hid M0;have HB0 := Lib.hid B0;have Hm0 := Lib.hid m0;clear M0 B0 m0 hM
 cases hf : fnd l x.par with
 | none =>
  have hr : ruleB l x = false := by
   rw [HRU.out, hf];simp
  have HR := Lib.hid hr;rw [hf] at hlook;simp only [Option.map_none, Option.getD_none, Option.isSome_none] at hlook;have HM1 := Lib.hid (HM0.out.alloc (.cells itZc 79));have HB1 := Lib.hid (HB0.out.alloc (.cells itZc 79));have Hm1 := Lib.hid (Hm0.out.alloc (.cells itZc 79));unfold itZ at hlook;clear HM0 HB0 Hm0 HRU hf hr;unfold itQ at hlook HM1 HB1 Hm1;unfold itZc at HM1 HB1 Hm1;have hb1 := HB1.out;have c0 := hb1.cell 0; have c1 := hb1.cell 1; have c2 := hb1.cell 2; have c3 := hb1.cell 3; have c4 := hb1.cell 4; have c5 := hb1.cell 5; have c6 := hb1.cell 6; simp at c0 c1 c2 c3 c4 c5 c6;clear hb1;unfold itA at HAB ⊢
  cases he : x.par.isEmpty
  all_goals
   go_enter Tryz.func125, Tryz.ntmps125
   go_wp2_with fail
   refine (HAB.out _ HM1.out).mono ?_;rintro e w2 ⟨n, lp, rfl, hlp, hn0, m2⟩
   obtain rfl : lp = false := by rw [hlp]; exact HNO.out
   have hn := hn0 rfl;have m2 := Hm1.out.trans m2;have hd2 := HDE.out;rw [← hn, HR.out] at hd2;have HD2 := Lib.hid hd2;generalize depE l i = de at *;clear hlp hn hn0 hd2 HDE hlook c0 c1 c2 c3 c4 c5 c6 HM1 HB1 Hm1 HAB
   go_wp2_with fail
   refine (when_any2 _ _ _).mono ?_;rintro e w3 ⟨rfl, rfl⟩
   by_cases h4 : 4 < n
   ·have h4' : (4 : Int) < (n : Int) := by omega
    have hd4 : decide ((4 : Int) < (n : Int)) = true := decide_eq_true h4';rw [hd4]
    go_wp2_with fail
    go_ret;exact IntPost.of (by rw [HD2.out]; simp [h4]) m2
   ·have h4' : ¬ ((4 : Int) < (n : Int)) := by omega
    have hd4 : decide ((4 : Int) < (n : Int)) = false := decide_eq_false h4';rw [hd4]
    go_wp2_with fail
    go_ret;exact IntPost.of (by rw [HD2.out]; simp [h4]) m2
 | some p =>
  have hr : ruleB l x = (!x.par.isEmpty && (decide (p.kind ≠ 1) && decide (p.kind ≠ 3))) := by
   rw [HRU.out, hf];rw [show decide (x.par ≠ []) = !x.par.isEmpty by cases x.par <;> simp]
  have HR := Lib.hid hr;rw [hf] at hlook;simp only [Option.map_some, Option.getD_some, Option.isSome_some] at hlook;have HM1 := Lib.hid (HM0.out.alloc (.cells (itQ p) 79));have HB1 := Lib.hid (HB0.out.alloc (.cells (itQ p) 79));have Hm1 := Lib.hid (Hm0.out.alloc (.cells (itQ p) 79));clear HM0 HB0 Hm0 HRU hf hr;unfold itQ at hlook HM1 HB1 Hm1;unfold itA at hlook;have hb1 := HB1.out;have c0 := hb1.cell 0; have c1 := hb1.cell 1; have c2 := hb1.cell 2; have c3 := hb1.cell 3; have c4 := hb1.cell 4; have c5 := hb1.cell 5; have c6 := hb1.cell 6; simp at c0 c1 c2 c3 c4 c5 c6;clear hb1;unfold itA at HAB ⊢
  cases he : x.par.isEmpty
  ·rw [he] at HR
   by_cases hk1 : p.kind = 1
   ·have hk1' : (p.kind != 1) = false := by simpa using hk1
    have HR2 : Hid (ruleB l x = false) := Lib.hid (by rw [HR.out, hk1]; rfl);clear HR;clear hk1
    go_enter Tryz.func125, Tryz.ntmps125
    go_wp2_with fail
    refine (HAB.out _ HM1.out).mono ?_;rintro e w2 ⟨n, lp, rfl, hlp, hn0, m2⟩
    obtain rfl : lp = false := by rw [hlp]; exact HNO.out
    have hn := hn0 rfl;have m2 := Hm1.out.trans m2;have hd2 := HDE.out;rw [← hn, HR2.out] at hd2;have HD2 := Lib.hid hd2;generalize depE l i = de at *;clear hlp hn hn0 hd2 HDE hlook c0 c1 c2 c3 c4 c5 c6 HM1 HB1 Hm1 HAB
    go_wp2_with fail
    refine (when_any2 _ _ _).mono ?_;rintro e w3 ⟨rfl, rfl⟩
    by_cases h4 : 4 < n
    ·have h4' : (4 : Int) < (n : Int) := by omega
     have hd4 : decide ((4 : Int) < (n : Int)) = true := decide_eq_true h4';rw [hd4]
     go_wp2_with fail
     go_ret;exact IntPost.of (by rw [HD2.out]; simp [h4]) m2
    ·have h4' : ¬ ((4 : Int) < (n : Int)) := by omega
     have hd4 : decide ((4 : Int) < (n : Int)) = false := decide_eq_false h4';rw [hd4]
     go_wp2_with fail
     go_ret;exact IntPost.of (by rw [HD2.out]; simp [h4]) m2
   have hk1' : (p.kind != 1) = true := by simpa using hk1
   by_cases hk3 : p.kind = 3
   ·have hk3' : (p.kind != 3) = false := by simpa using hk3
    have HR2 : Hid (ruleB l x = false) := Lib.hid (by rw [HR.out, hk3]; rfl);clear HR;clear hk1 hk3
    go_enter Tryz.func125, Tryz.ntmps125
    go_wp2_with fail
    refine (HAB.out _ HM1.out).mono ?_;rintro e w2 ⟨n, lp, rfl, hlp, hn0, m2⟩
    obtain rfl : lp = false := by rw [hlp]; exact HNO.out
    have hn := hn0 rfl;have m2 := Hm1.out.trans m2;have hd2 := HDE.out;rw [← hn, HR2.out] at hd2;have HD2 := Lib.hid hd2;generalize depE l i = de at *;clear hlp hn hn0 hd2 HDE hlook c0 c1 c2 c3 c4 c5 c6 HM1 HB1 Hm1 HAB
    go_wp2_with fail
    refine (when_any2 _ _ _).mono ?_;rintro e w3 ⟨rfl, rfl⟩
    by_cases h4 : 4 < n
    ·have h4' : (4 : Int) < (n : Int) := by omega
     have hd4 : decide ((4 : Int) < (n : Int)) = true := decide_eq_true h4';rw [hd4]
     go_wp2_with fail
     go_ret;exact IntPost.of (by rw [HD2.out]; simp [h4]) m2
    ·have h4' : ¬ ((4 : Int) < (n : Int)) := by omega
     have hd4 : decide ((4 : Int) < (n : Int)) = false := decide_eq_false h4';rw [hd4]
     go_wp2_with fail
     go_ret;exact IntPost.of (by rw [HD2.out]; simp [h4]) m2
   have hk3' : (p.kind != 3) = true := by simpa using hk3
   have HR2 : Hid (ruleB l x = true) := Lib.hid (by rw [HR.out]; simp [hk1, hk3]);clear HAB HR hk1 hk3
   go_enter Tryz.func125, Tryz.ntmps125
   go_wp2_with fail
   go_ret;exact IntPost.of (by rw [HDE.out, HR2.out]; rfl) Hm1.out
  ·rw [he] at HR;have HR2 : Hid (ruleB l x = false) := Lib.hid (by rw [HR.out]; rfl)
   by_cases hdm : True
   ·have hk3 := hdm;have hk1 := hdm;clear HR;clear hk1
    go_enter Tryz.func125, Tryz.ntmps125
    go_wp2_with fail
    refine (HAB.out _ HM1.out).mono ?_;rintro e w2 ⟨n, lp, rfl, hlp, hn0, m2⟩
    obtain rfl : lp = false := by rw [hlp]; exact HNO.out
    have hn := hn0 rfl;have m2 := Hm1.out.trans m2;have hd2 := HDE.out;rw [← hn, HR2.out] at hd2;have HD2 := Lib.hid hd2;generalize depE l i = de at *;clear hlp hn hn0 hd2 HDE hlook c0 c1 c2 c3 c4 c5 c6 HM1 HB1 Hm1 HAB
    go_wp2_with fail
    refine (when_any2 _ _ _).mono ?_;rintro e w3 ⟨rfl, rfl⟩
    by_cases h4 : 4 < n
    ·have h4' : (4 : Int) < (n : Int) := by omega
     have hd4 : decide ((4 : Int) < (n : Int)) = true := decide_eq_true h4';rw [hd4]
     go_wp2_with fail
     go_ret;exact IntPost.of (by rw [HD2.out]; simp [h4]) m2
    ·have h4' : ¬ ((4 : Int) < (n : Int)) := by omega
     have hd4 : decide ((4 : Int) < (n : Int)) = false := decide_eq_false h4';rw [hd4]
     go_wp2_with fail
     go_ret;exact IntPost.of (by rw [HD2.out]; simp [h4]) m2
   ·exact absurd trivial hdm
end Go.Proofs.YtgfgggeeoeppjaaGreatDoor
/- Check of package intake. -/
namespace Go.Proofs.YtgfgggeeoeppjaaGreatDoor
open Go.RowKit
theorem leS_iff {a b : Str} : leS a b = true ↔ a ≤ b := by
 unfold leS;rw [bytesLess_eq];simp only [Bool.or_eq_true, decide_eq_true_eq]
 constructor
 ·rintro (h | h)
  ·exact List.le_of_lt h
  ·rw [eq_of_beq h]; exact List.le_refl _
 ·intro h
  by_cases hlt : a < b
  ·exact .inl hlt
  ·exact .inr (by rw [str_total hlt (List.not_lt.2 h)]; simp)
def pid (xs : List Itm) : Nat → Str
 | 0 => []
 | k + 1 => match xs[k]? with | some x => x.id | none => []
theorem pid_succ {xs : List Itm} {k : Nat} (h : k < xs.length) : pid xs (k + 1) = xs[k].id := by
 simp [pid, h]
theorem firstErr2 {e1 e2 er : Int} (h : firstErr [e1, e2] = er) : er = if e1 ≠ 0 then e1 else e2 := by
 rw [← h];unfold firstErr
 by_cases h1 : e1 = 0
 ·simp only [h1, if_true];unfold firstErr
  by_cases h2 : e2 = 0
  ·simp [h2, firstErr]
  ·simp [h2]
 ·simp [h1]
theorem ids_of_ordE {l : List Itm} (h : ordE itemE [] l = 0) : l.Pairwise fun x y => x.id ≠ y.id := ordE_ne h
theorem any_take_snoc {α : Type} (p : α → Bool) (l : List α) (k : Nat) (h : k < l.length) : (l.take (k + 1)).any p = ((l.take k).any p || p l[k]) := by
 rw [List.take_succ_eq_append_getElem h, List.any_append];simp
theorem any_of_at {α : Type} {p : α → Bool} {l : List α} {k : Nat} (h : k < l.length) (hp : p l[k] = true) : l.any p = true := List.any_eq_true.2 ⟨_, List.getElem_mem h, hp⟩
theorem missB_fnd (l : List Itm) (x : Itm) : missB l x = (!x.par.isEmpty && !(fnd l x.par).isSome) := by
 unfold missB;rw [fnd_isSome, show decide (x.par ≠ []) = !x.par.isEmpty by cases x.par <;> simp]
 cases plc l x.par <;> rfl
def Ck1 (w : World) (xs : List Itm) (gk : Nat) (i : Value) (wr : World) : Prop := ∃ k : Nat, xs.length - k = gk ∧ k ≤ xs.length ∧ i = .int .i64 (k : Int) ∧ ordE itemE (pid xs k) (xs.drop k) = ordE itemE [] xs ∧ Pure w wr
def Ck2 (w : World) (b : Nat) (xs : List Itm) (gk : Nat) (i : Value) (wr : World) : Prop := ∃ k : Nat, xs.length - k = gk ∧ k ≤ xs.length ∧ i = .int .i64 (k : Int) ∧ (xs.take k).any (missB xs) = false ∧ MapX wr b xs.length (byF xs) ∧ Pure w wr
def Ck3 (w : World) (b : Nat) (xs : List Itm) (gk : Nat) (i : Value) (wr : World) : Prop := ∃ k : Nat, xs.length - k = gk ∧ k ≤ xs.length ∧ i = .int .i64 (k : Int) ∧ (∀ j, j < k → lpB xs j = false) ∧ MapX wr b xs.length (byF xs) ∧ Pure w wr
def Ck4 (w : World) (b : Nat) (xs : List Itm) (gk : Nat) (i : Value) (wr : World) : Prop := ∃ k : Nat, xs.length - k = gk ∧ k ≤ xs.length ∧ i = .int .i64 (k : Int) ∧ firstE (depE xs) k (xs.length - k) = firstE (depE xs) 0 xs.length ∧ MapX wr b xs.length (byF xs) ∧ Pure w wr
set_option maxHeartbeats 8000000 in
theorem check_calls (w : World) (v : Value) (xs : List Itm) (hv : Its w v xs) (hz : ∀ x ∈ xs, ItB x) (hl : xs.length ≤ 2000) (hE : Env w) : Calls Tryz.prog 68 #[v] w (IntPost w (itsE itemE xs)) := by
 obtain ⟨A, n, c, rfl, hc1, hc2, hl2, hr⟩ := hv
 have hln : xs.length = n := by rw [itV_len] at hl2; omega
 subst hln;have HBY := Lib.hid (fun W (h : Pure w W) hd => byId_calls W (.slice A xs.length c) xs (Its.pure ⟨A, xs.length, c, rfl, hc1, hc2, hl2, hr⟩ h) hz hd (by omega));have HR := Lib.hid hr;have HZ := Lib.hid hz;have HE := Lib.hid hE;have HIE : Hid (itsE itemE xs = if ordE itemE [] xs ≠ 0 then ordE itemE [] xs else if xs.any (missB xs) then 8 else treeE xs) := Lib.hid (by unfold itsE; rw [if_neg (by omega)])
 have n1 : ¬ ((2000 : Int) < (xs.length : Int)) := by omega
 have m0 : Pure w w := Mod.refl _ _;clear hl2 hr hz hE
 go_enter Tryz.func68, Tryz.ntmps68
 go_wp2_with fail
 go_loopg [23] xs.length (fun gk i wr => Ck1 w xs gk i wr)
 case atStart => exact ⟨0, by omega, by omega, rfl, rfl, m0⟩
 case round =>
  clear m0;obtain ⟨k, rfl, hk, rfl, hord, hm⟩ := hrel
  by_cases hlt : k < xs.length
  ·obtain ⟨g, off, rfl, hrow⟩ := HR.out (by omega);have hrow1 := hrow.mod hm id;obtain ⟨q0, q1, q2, q3, q4, q5, q6⟩ := item_cells hrow1 hlt;have HST := Lib.hid (ordE_step (E := itemE) hlt (pid xs k));rw [hord] at HST;have HPI := Lib.hid (pid_succ hlt);have hzx := HZ.out _ (List.getElem_mem hlt);have HCI := Lib.hid (fun W (h : Pure w W) => checkItem_calls W xs[k] hzx (HE.out.pure h));have HKN : Hid (itemE xs[k] = 0 → xs[k].id ≠ []) := Lib.hid (fun h e => by have := itemE_id h; rw [e] at this; cases this);have HXK : Hid (∃ x, x = xs[k]) := Lib.hid ⟨_, rfl⟩;clear hord;have HB0 := Lib.hid (Blk.new wr 79 (itQ xs[k]));have Hm0 := Lib.hid (pure_alloc wr (.cells (itQ xs[k]) 79))
   by_cases h0 : k = 0
   ·subst h0
    have HST0 : Hid (ordE itemE [] xs = if itemE xs[0] ≠ 0 then itemE xs[0] else ordE itemE xs[0].id (xs.drop (0 + 1))) := Lib.hid (by
     rw [HST.out]
     show (if itemE xs[0] ≠ 0 then itemE xs[0] else if xs[0].id ≤ [] then 7 else ordE itemE xs[0].id (xs.drop (0 + 1))) = _
     by_cases he : itemE xs[0] = 0
     ·have h3 : ¬ xs[0].id ≤ [] := by
       intro h;have h1 := HKN.out he
       cases hh : xs[0].id with
       | nil => exact h1 hh
       | cons a t =>
        rw [hh] at h;exact absurd (List.nil_lt_cons a t) (List.not_lt.2 h)
      rw [if_neg h3]
     ·rw [if_pos he, if_pos he])
    obtain ⟨e1, he1⟩ : ∃ e1, itemE xs[0] = e1 := ⟨_, rfl⟩;obtain ⟨er, her⟩ : ∃ er, firstErr [e1, 0] = er := ⟨_, rfl⟩;rw [he1] at HCI HST0;have HER := Lib.hid her;have HFE := Lib.hid (fun (W : World) (g c : Nat) (h : Blk W g 33 #[.int .i64 e1, .int .i64 0]) => firstE_calls W g c [e1, 0] h.row0 (by simp));rw [her] at HFE;have HWF := Lib.hid (fun W => when_f 7 W);clear hrow hrow1 HST HKN he1 her HXK;simp only [Nat.zero_mul, Nat.add_zero] at q0 q1 q2 q3 q4 q5 q6;generalize xs[0] = x at *;unfold itQ at HB0 Hm0;unfold itA at HCI
    go_wp2_with fail
    go_upto_region 6 with (fail)
    generalize (wr.alloc (.cells #[.string ⟨x.id.toArray⟩, .string ⟨x.cust.toArray⟩, .int .i64 x.kind, .string ⟨x.name.toArray⟩, .int .i64 x.tm, .string ⟨x.par.toArray⟩, .string ⟨x.text.toArray⟩] 79)) = WS at *;have hgsz := hm.size;generalize hgs : wr.heap.size = gs at *;have hgs1 := Nat.le_of_eq hgs;clear hgs q0 q1 q2 q3 q4 q5 q6
    go_cut [5] (fun p wx => p = .int .i64 er ∧ Pure wr wx)
    case first =>
     have HGs := Lib.hid (show ∀ (D : Nat → Bool) (zzi : Nat) (zq zq' : World), (fun _ zq => (fun Z => Blk Z gs 79 #[.string ⟨x.id.toArray⟩, .string ⟨x.cust.toArray⟩, .int .i64 x.kind, .string ⟨x.name.toArray⟩, .int .i64 x.tm, .string ⟨x.par.toArray⟩, .string ⟨x.text.toArray⟩]) zq) D zq → Mod (fun _ => False) zq zq' → (fun _ zq => (fun Z => Blk Z gs 79 #[.string ⟨x.id.toArray⟩, .string ⟨x.cust.toArray⟩, .int .i64 x.kind, .string ⟨x.name.toArray⟩, .int .i64 x.tm, .string ⟨x.par.toArray⟩, .string ⟨x.text.toArray⟩]) zq) (upd D zzi true) zq' from by intro D zzi zq zq' h hm; (exact h.modp hm))
     refine wp_region_inv (by kernel_rfl) (by kernel_rfl) (InvF (R := Mod (fun _ => False)) [.is (.agg #[.string ⟨x.id.toArray⟩, .string ⟨x.cust.toArray⟩, .int .i64 x.kind, .string ⟨x.name.toArray⟩, .int .i64 x.tm, .string ⟨x.par.toArray⟩, .string ⟨x.text.toArray⟩]),
       .is (.int .i64 e1),
       .is (.int .i64 0),
       .is (.bool false),
       .is (.bool false),
       .is (undef),
       .is (undef),
       .is (undef),
       .is (undef),
       .is (undef),
       .is (undef),
       .is (undef),
       .is (undef),
       .is (undef),
       .is (undef),
       .is (.bool false),
       .is (.int .i64 0),
       ⟨fun zv zw => ∃ (g_17 : Nat), zv = .slice (some ⟨g_17, 0, none⟩) 2 2 ∧ WS.heap.size ≤ g_17 ∧ Blk zw g_17 33 #[.int .i64 e1, .int .i64 0], (by rintro zv zw zx ⟨g_17, rfl, c0, q0⟩ hm; exact ⟨g_17, rfl, c0, (q0.modp hm)⟩), none, some 18⟩,
       .is (.int .i64 er),
       .is (.int .i64 er)]
       (PB wr (fun _ => False) WS.heap.size (fun _ zq => (fun Z => Blk Z gs 79 #[.string ⟨x.id.toArray⟩, .string ⟨x.cust.toArray⟩, .int .i64 x.kind, .string ⟨x.name.toArray⟩, .int .i64 x.tm, .string ⟨x.par.toArray⟩, .string ⟨x.text.toArray⟩]) zq))) (InvF.start (PB.start Hm0.out (Nat.le_refl _) (HB0.out.drew))) ?_ ?_
     ·refine .cons ?_ (.cons ?_ (.cons ?_ (.cons ?_ (.cons ?_ (.cons ?_ (.cons ?_ (.cons ?_ (.cons ?_ (.cons ?_ (.cons ?_ (.cons ?_ (.cons ?_ (.cons ?_ (.cons ?_ (.cons ?_ (.cons ?_ (.cons ?_ (.cons ?_ (.cons ?_ .nil)))))))))))))))))))
      ·intro D V zw1 a hR hI K hK;obtain ⟨hM1, hB1, hG1⟩ := hI.1;have ze4 := hR.frame.other (t := 4) (by kernel_rfl) rfl;have zx0 := hG1.cell 0; have zx1 := hG1.cell 1; have zx2 := hG1.cell 2; have zx3 := hG1.cell 3; have zx4 := hG1.cell 4; have zx5 := hG1.cell 5; have zx6 := hG1.cell 6;simp at zx0 zx1 zx2 zx3 zx4 zx5 zx6;rw [if_pos (by rfl)];go_simp;exact hK (.agg #[.string ⟨x.id.toArray⟩, .string ⟨x.cust.toArray⟩, .int .i64 x.kind, .string ⟨x.name.toArray⟩, .int .i64 x.tm, .string ⟨x.par.toArray⟩, .string ⟨x.text.toArray⟩]) _ (hI.next hR (by kernel_rfl) (Mod.refl _ _) (PB.quiet hI.1 (Mod.refl _ _) (HGs.out D 0 zw1 zw1 (hI.1).g (Mod.refl _ _))) (upd_same V 0 _))
      ·intro D V zw1 a hR hI K hK;obtain ⟨hM1, hB1, hG1⟩ := hI.1;have zd0 := hR.pred 0 (by kernel_rfl);have zf0 : V 0 = .agg #[.string ⟨x.id.toArray⟩, .string ⟨x.cust.toArray⟩, .int .i64 x.kind, .string ⟨x.name.toArray⟩, .int .i64 x.tm, .string ⟨x.par.toArray⟩, .string ⟨x.text.toArray⟩] := hI.2 0 zd0 rfl;have ze28 := hR.frame.done (t := 28) (j := 0) (by kernel_rfl) hR.ok zd0;rw [if_pos (by rfl)];go_simp;refine (HCI.out _ (hm.trans hM1)).mono ?_;rintro e zw2 ⟨rfl, hm2⟩;exact hK (.int .i64 e1) _ (hI.next hR (by kernel_rfl) hm2 (PB.quiet hI.1 hm2 (HGs.out D 1 _ _ (hI.1).g hm2)) (upd_same V 1 _))
      ·intro D V zw1 a hR hI K hK;obtain ⟨hM1, hB1, hG1⟩ := hI.1;have ze3 := hR.frame.other (t := 3) (by kernel_rfl) rfl;rw [if_pos (by rfl)];go_simp;exact hK (.int .i64 0) _ (hI.next hR (by kernel_rfl) (Mod.refl _ _) (PB.quiet hI.1 (Mod.refl _ _) (HGs.out D 2 zw1 zw1 (hI.1).g (Mod.refl _ _))) (upd_same V 2 _))
      ·intro D V zw1 a hR hI K hK;obtain ⟨hM1, hB1, hG1⟩ := hI.1;have zd2 := hR.pred 2 (by kernel_rfl);have zf2 : V 2 = .int .i64 0 := hI.2 2 zd2 rfl;have ze30 := hR.frame.done (t := 30) (j := 2) (by kernel_rfl) hR.ok zd2;rw [if_pos (by rfl)];go_simp;exact hK (.bool false) _ (hI.next hR (by kernel_rfl) (Mod.refl _ _) (PB.quiet hI.1 (Mod.refl _ _) (HGs.out D 3 zw1 zw1 (hI.1).g (Mod.refl _ _))) (upd_same V 3 _))
      ·intro D V zw1 a hR hI K hK;obtain ⟨hM1, hB1, hG1⟩ := hI.1;have zd3 := hR.pred 3 (by kernel_rfl);have zf3 : V 3 = .bool false := hI.2 3 zd3 rfl;have ze31 := hR.frame.done (t := 31) (j := 3) (by kernel_rfl) hR.ok zd3;rw [if_pos (by rfl)];go_simp;exact hK (.bool false) _ (hI.next hR (by kernel_rfl) (Mod.refl _ _) (PB.quiet hI.1 (Mod.refl _ _) (HGs.out D 4 zw1 zw1 (hI.1).g (Mod.refl _ _))) (upd_same V 4 _))
      ·intro D V zw1 a hR hI K hK;obtain ⟨hM1, hB1, hG1⟩ := hI.1;have zd4 := hR.pred 4 (by kernel_rfl);have zf4 : V 4 = .bool false := hI.2 4 zd4 rfl;have ze32 := hR.frame.done (t := 32) (j := 4) (by kernel_rfl) hR.ok zd4;rw [if_neg (by simp [Region.wanted, yielded, ze32, zf4])];exact hK undef _ (hI.next hR (by kernel_rfl) (Mod.refl _ _) (PB.quiet hI.1 (Mod.refl _ _) (HGs.out D 5 zw1 zw1 (hI.1).g (Mod.refl _ _))) (upd_same V 5 _))
      ·intro D V zw1 a hR hI K hK;obtain ⟨hM1, hB1, hG1⟩ := hI.1;have zd4 := hR.pred 4 (by kernel_rfl);have zf4 : V 4 = .bool false := hI.2 4 zd4 rfl;have ze32 := hR.frame.done (t := 32) (j := 4) (by kernel_rfl) hR.ok zd4;rw [if_neg (by simp [Region.wanted, yielded, ze32, zf4])];exact hK undef _ (hI.next hR (by kernel_rfl) (Mod.refl _ _) (PB.quiet hI.1 (Mod.refl _ _) (HGs.out D 6 zw1 zw1 (hI.1).g (Mod.refl _ _))) (upd_same V 6 _))
      ·intro D V zw1 a hR hI K hK;obtain ⟨hM1, hB1, hG1⟩ := hI.1;have zd4 := hR.pred 4 (by kernel_rfl);have zf4 : V 4 = .bool false := hI.2 4 zd4 rfl;have ze32 := hR.frame.done (t := 32) (j := 4) (by kernel_rfl) hR.ok zd4;rw [if_neg (by simp [Region.wanted, yielded, ze32, zf4])];exact hK undef _ (hI.next hR (by kernel_rfl) (Mod.refl _ _) (PB.quiet hI.1 (Mod.refl _ _) (HGs.out D 7 zw1 zw1 (hI.1).g (Mod.refl _ _))) (upd_same V 7 _))
      ·intro D V zw1 a hR hI K hK;obtain ⟨hM1, hB1, hG1⟩ := hI.1;have zd4 := hR.pred 4 (by kernel_rfl);have zf4 : V 4 = .bool false := hI.2 4 zd4 rfl;have ze32 := hR.frame.done (t := 32) (j := 4) (by kernel_rfl) hR.ok zd4;rw [if_neg (by simp [Region.wanted, yielded, ze32, zf4])];exact hK undef _ (hI.next hR (by kernel_rfl) (Mod.refl _ _) (PB.quiet hI.1 (Mod.refl _ _) (HGs.out D 8 zw1 zw1 (hI.1).g (Mod.refl _ _))) (upd_same V 8 _))
      ·intro D V zw1 a hR hI K hK;obtain ⟨hM1, hB1, hG1⟩ := hI.1;have zd4 := hR.pred 4 (by kernel_rfl);have zf4 : V 4 = .bool false := hI.2 4 zd4 rfl;have ze32 := hR.frame.done (t := 32) (j := 4) (by kernel_rfl) hR.ok zd4;rw [if_neg (by simp [Region.wanted, yielded, ze32, zf4])];exact hK undef _ (hI.next hR (by kernel_rfl) (Mod.refl _ _) (PB.quiet hI.1 (Mod.refl _ _) (HGs.out D 9 zw1 zw1 (hI.1).g (Mod.refl _ _))) (upd_same V 9 _))
      ·intro D V zw1 a hR hI K hK;obtain ⟨hM1, hB1, hG1⟩ := hI.1;have zd4 := hR.pred 4 (by kernel_rfl);have zf4 : V 4 = .bool false := hI.2 4 zd4 rfl;have ze32 := hR.frame.done (t := 32) (j := 4) (by kernel_rfl) hR.ok zd4;rw [if_neg (by simp [Region.wanted, yielded, ze32, zf4])];exact hK undef _ (hI.next hR (by kernel_rfl) (Mod.refl _ _) (PB.quiet hI.1 (Mod.refl _ _) (HGs.out D 10 zw1 zw1 (hI.1).g (Mod.refl _ _))) (upd_same V 10 _))
      ·intro D V zw1 a hR hI K hK;obtain ⟨hM1, hB1, hG1⟩ := hI.1;have zd4 := hR.pred 4 (by kernel_rfl);have zf4 : V 4 = .bool false := hI.2 4 zd4 rfl;have ze32 := hR.frame.done (t := 32) (j := 4) (by kernel_rfl) hR.ok zd4;rw [if_neg (by simp [Region.wanted, yielded, ze32, zf4])];exact hK undef _ (hI.next hR (by kernel_rfl) (Mod.refl _ _) (PB.quiet hI.1 (Mod.refl _ _) (HGs.out D 11 zw1 zw1 (hI.1).g (Mod.refl _ _))) (upd_same V 11 _))
      ·intro D V zw1 a hR hI K hK;obtain ⟨hM1, hB1, hG1⟩ := hI.1;have zd4 := hR.pred 4 (by kernel_rfl);have zf4 : V 4 = .bool false := hI.2 4 zd4 rfl;have ze32 := hR.frame.done (t := 32) (j := 4) (by kernel_rfl) hR.ok zd4;rw [if_neg (by simp [Region.wanted, yielded, ze32, zf4])];exact hK undef _ (hI.next hR (by kernel_rfl) (Mod.refl _ _) (PB.quiet hI.1 (Mod.refl _ _) (HGs.out D 12 zw1 zw1 (hI.1).g (Mod.refl _ _))) (upd_same V 12 _))
      ·intro D V zw1 a hR hI K hK;obtain ⟨hM1, hB1, hG1⟩ := hI.1;have zd4 := hR.pred 4 (by kernel_rfl);have zf4 : V 4 = .bool false := hI.2 4 zd4 rfl;have ze32 := hR.frame.done (t := 32) (j := 4) (by kernel_rfl) hR.ok zd4;rw [if_neg (by simp [Region.wanted, yielded, ze32, zf4])];exact hK undef _ (hI.next hR (by kernel_rfl) (Mod.refl _ _) (PB.quiet hI.1 (Mod.refl _ _) (HGs.out D 13 zw1 zw1 (hI.1).g (Mod.refl _ _))) (upd_same V 13 _))
      ·intro D V zw1 a hR hI K hK;obtain ⟨hM1, hB1, hG1⟩ := hI.1;have zd4 := hR.pred 4 (by kernel_rfl);have zf4 : V 4 = .bool false := hI.2 4 zd4 rfl;have ze32 := hR.frame.done (t := 32) (j := 4) (by kernel_rfl) hR.ok zd4;rw [if_neg (by simp [Region.wanted, yielded, ze32, zf4])];exact hK undef _ (hI.next hR (by kernel_rfl) (Mod.refl _ _) (PB.quiet hI.1 (Mod.refl _ _) (HGs.out D 14 zw1 zw1 (hI.1).g (Mod.refl _ _))) (upd_same V 14 _))
      ·intro D V zw1 a hR hI K hK;obtain ⟨hM1, hB1, hG1⟩ := hI.1;have zd4 := hR.pred 4 (by kernel_rfl);have zf4 : V 4 = .bool false := hI.2 4 zd4 rfl;have zd14 := hR.pred 14 (by kernel_rfl);have zf14 : V 14 = undef := hI.2 14 zd14 rfl;have ze32 := hR.frame.done (t := 32) (j := 4) (by kernel_rfl) hR.ok zd4;have ze42 := hR.frame.done (t := 42) (j := 14) (by kernel_rfl) hR.ok zd14;rw [if_pos (by rfl)];go_simp;exact hK (.bool false) _ (hI.next hR (by kernel_rfl) (Mod.refl _ _) (PB.quiet hI.1 (Mod.refl _ _) (HGs.out D 15 zw1 zw1 (hI.1).g (Mod.refl _ _))) (upd_same V 15 _))
      ·intro D V zw1 a hR hI K hK;obtain ⟨hM1, hB1, hG1⟩ := hI.1;have zd15 := hR.pred 15 (by kernel_rfl);have zf15 : V 15 = .bool false := hI.2 15 zd15 rfl;have ze43 := hR.frame.done (t := 43) (j := 15) (by kernel_rfl) hR.ok zd15;rw [if_pos (by rfl)];go_simp;refine (HWF.out _).mono ?_;rintro e zw2 ⟨rfl, rfl⟩;have hm2 : Pure zw1 zw1 := Mod.refl _ _;exact hK (.int .i64 0) _ (hI.next hR (by kernel_rfl) hm2 (PB.quiet hI.1 hm2 (HGs.out D 16 _ _ (hI.1).g hm2)) (upd_same V 16 _))
      ·intro D V zw1 a hR hI K hK;obtain ⟨hM1, hB1, hG1⟩ := hI.1;have zd1 := hR.pred 1 (by kernel_rfl);have zf1 : V 1 = .int .i64 e1 := hI.2 1 zd1 rfl;have zd16 := hR.pred 16 (by kernel_rfl);have zf16 : V 16 = .int .i64 0 := hI.2 16 zd16 rfl;have ze29 := hR.frame.done (t := 29) (j := 1) (by kernel_rfl) hR.ok zd1;have ze44 := hR.frame.done (t := 44) (j := 16) (by kernel_rfl) hR.ok zd16;rw [if_pos (by rfl)];go_simp;exact hK (_) _ (hI.next hR (by kernel_rfl) ((Mod.refl _ _).alloc _) (PB.quiet hI.1 (pure_alloc _ _) (HGs.out D 17 _ _ (hI.1).g ((Mod.refl _ _).alloc _))) (⟨_, upd_same V 17 _, (by omega), (Blk.new _ _ _)⟩))
      ·intro D V zw1 a hR hI K hK;obtain ⟨hM1, hB1, hG1⟩ := hI.1;have zd17 := hR.pred 17 (by kernel_rfl);have zF17 : ∃ (g_17 : Nat), V 17 = .slice (some ⟨g_17, 0, none⟩) 2 2 ∧ WS.heap.size ≤ g_17 ∧ Blk zw1 g_17 33 #[.int .i64 e1, .int .i64 0] := hI.2 17 zd17 (by show (!D 18) = true; rw [hR.not]; rfl);obtain ⟨g_17, zf17, c17_0, b17_0⟩ := zF17;have ze45 := hR.frame.done (t := 45) (j := 17) (by kernel_rfl) hR.ok zd17;rw [if_pos (by rfl)];go_simp;refine (HFE.out _ _ _ b17_0).mono ?_;rintro e zw2 ⟨rfl, hm2⟩;exact hK (.int .i64 er) _ (hI.next hR (by kernel_rfl) hm2 (PB.quiet hI.1 hm2 (HGs.out D 18 _ _ (hI.1).g hm2)) (upd_same V 18 _))
      ·intro D V zw1 a hR hI K hK;obtain ⟨hM1, hB1, hG1⟩ := hI.1;have zd18 := hR.pred 18 (by kernel_rfl);have zf18 : V 18 = .int .i64 er := hI.2 18 zd18 rfl;have ze46 := hR.frame.done (t := 46) (j := 18) (by kernel_rfl) hR.ok zd18;rw [if_pos (by rfl)];go_simp;exact hK (.int .i64 er) _ (hI.next hR (by kernel_rfl) (Mod.refl _ _) (PB.quiet hI.1 (Mod.refl _ _) (HGs.out D 19 zw1 zw1 (hI.1).g (Mod.refl _ _))) (upd_same V 19 _))
     ·intro D V w1 hD hI;obtain ⟨hM1, hB1, hG1⟩ := hI.1;have hMx := hM1;clear hM1;have hBx := hB1;clear hB1;have hGx := hG1;clear hG1;have zf0 : V 0 = .agg #[.string ⟨x.id.toArray⟩, .string ⟨x.cust.toArray⟩, .int .i64 x.kind, .string ⟨x.name.toArray⟩, .int .i64 x.tm, .string ⟨x.par.toArray⟩, .string ⟨x.text.toArray⟩] := hI.2 0 (hD 0 (by decide)) rfl;have zf1 : V 1 = .int .i64 e1 := hI.2 1 (hD 1 (by decide)) rfl;have zf2 : V 2 = .int .i64 0 := hI.2 2 (hD 2 (by decide)) rfl;have zf3 : V 3 = .bool false := hI.2 3 (hD 3 (by decide)) rfl;have zf4 : V 4 = .bool false := hI.2 4 (hD 4 (by decide)) rfl;have zf5 : V 5 = undef := hI.2 5 (hD 5 (by decide)) rfl;have zf6 : V 6 = undef := hI.2 6 (hD 6 (by decide)) rfl;have zf7 : V 7 = undef := hI.2 7 (hD 7 (by decide)) rfl;have zf8 : V 8 = undef := hI.2 8 (hD 8 (by decide)) rfl;have zf9 : V 9 = undef := hI.2 9 (hD 9 (by decide)) rfl;have zf10 : V 10 = undef := hI.2 10 (hD 10 (by decide)) rfl;have zf11 : V 11 = undef := hI.2 11 (hD 11 (by decide)) rfl;have zf12 : V 12 = undef := hI.2 12 (hD 12 (by decide)) rfl;have zf13 : V 13 = undef := hI.2 13 (hD 13 (by decide)) rfl;have zf14 : V 14 = undef := hI.2 14 (hD 14 (by decide)) rfl;have zf15 : V 15 = .bool false := hI.2 15 (hD 15 (by decide)) rfl;have zf16 : V 16 = .int .i64 0 := hI.2 16 (hD 16 (by decide)) rfl;have zf18 : V 18 = .int .i64 er := hI.2 18 (hD 18 (by decide)) rfl;have zf19 : V 19 = .int .i64 er := hI.2 19 (hD 19 (by decide)) rfl;clear hI hD HGs;simp only [frAll, Act.put, List.setIfInBounds_toArray, List.set_cons_zero, List.set_cons_succ, Nat.zero_add, Nat.reduceAdd, zf0, zf1, zf2, zf3, zf4, zf5, zf6, zf7, zf8, zf9, zf10, zf11, zf12, zf13, zf14, zf15, zf16, zf18, zf19];clear zf0 zf1 zf2 zf3 zf4 zf5 zf6 zf7 zf8 zf9 zf10 zf11 zf12 zf13 zf14 zf15 zf16 zf18 zf19;generalize V 17 = u17;clear V D
      go_wp2_with fail
      go_meet;exact ⟨rfl, hMx⟩
    case rest =>
     obtain ⟨rfl, m1⟩ := hcut;have m2 := hm.trans m1;have hr2 := firstErr2 HER.out;have HR2 := Lib.hid hr2;clear HCI HFE HWF HB0 Hm0 WS hr2
     by_cases he0 : er = 0
     ·have he1 : e1 = 0 := by
       have := HR2.out;rw [he0] at this
       by_cases h : e1 = 0
       ·exact h
       ·rw [if_pos h] at this; exact absurd this.symm h
      have HS1 : Hid (ordE itemE [] xs = ordE itemE x.id (xs.drop (0 + 1))) := Lib.hid (by rw [HST0.out, he1]; simp);clear HST0 HR2 HER;subst he0
      go_wp2_with fail
      go_roundg (xs.length - (0 + 1))
      case measure => omega
      case rel => exact ⟨0 + 1, rfl, by omega, by simp, by rw [HPI.out, HS1.out], m2⟩
     ·have he0' : (er != 0) = true := by simpa using he0
      have hx : e1 ≠ 0 ∧ er = e1 := by
       have := HR2.out
       by_cases h : e1 = 0
       ·rw [if_neg (by simpa using h)] at this; exact absurd this he0
       ·rw [if_pos h] at this; exact ⟨h, this⟩
      have HF : Hid (itsE itemE xs = er) := Lib.hid (by rw [HIE.out, HST0.out, if_pos hx.1, if_pos hx.1, hx.2]);clear HST0 HR2 HER hx HIE
      go_wp2_with fail
      go_ret;exact IntPost.of HF.out m2
   ·obtain ⟨j, rfl⟩ : ∃ j, k = j + 1 := ⟨k - 1, by omega⟩
    have hjl : j < xs.length := by omega
    have hy0 := (item_cells hrow1 hjl).1;have hpj := pid_succ hjl;have HPJ : Hid (pid xs (j + 1) = xs[j].id) := Lib.hid hpj;obtain ⟨e1, he1⟩ : ∃ e1, itemE xs[j + 1] = e1 := ⟨_, rfl⟩;obtain ⟨bo, hbo⟩ : ∃ bo, leS xs[j + 1].id xs[j].id = bo := ⟨_, rfl⟩;obtain ⟨e2, he2⟩ : ∃ e2 : Int, (if bo = true then 7 else 0) = e2 := ⟨_, rfl⟩;obtain ⟨er, her⟩ : ∃ er, firstErr [e1, e2] = er := ⟨_, rfl⟩
    have HST1 : Hid (ordE itemE [] xs = if e1 ≠ 0 then e1 else if bo = true then 7 else ordE itemE xs[j + 1].id (xs.drop (j + 1 + 1))) := Lib.hid (by
     rw [HST.out, he1, hpj]
     have h2 : xs[j + 1].id ≤ xs[j].id ↔ bo = true := by rw [← hbo]; exact leS_iff.symm
     by_cases hb : bo = true
     ·rw [if_pos (h2.2 hb), if_pos hb]
     ·rw [if_neg (fun h => hb (h2.1 h)), if_neg hb])
    have HBO : Hid ((Op.bytesLess xs[j + 1].id xs[j].id || xs[j + 1].id == xs[j].id) = bo) := Lib.hid hbo;have HE2 := Lib.hid he2;rw [he1] at HCI;have HER := Lib.hid her;have HFE := Lib.hid (fun (W : World) (g c : Nat) (h : Blk W g 33 #[.int .i64 e1, .int .i64 e2]) => firstE_calls W g c [e1, e2] h.row0 (by simp));rw [her] at HFE;have HWF := Lib.hid (fun W => when_any2 bo 7 W);rw [he2] at HWF;clear hrow hrow1 HST HKN he1 her HXK hpj hbo he2 h0;generalize xs[j + 1] = x at *;generalize xs[j] = y at *;have hy1 := cell_alloc hy0 (.cells (itQ x) 79);unfold itQ at HB0 Hm0 hy1;unfold itA at HCI
    go_wp2_with fail
    go_upto_region 6 with (fail)
    generalize (wr.alloc (.cells #[.string ⟨x.id.toArray⟩, .string ⟨x.cust.toArray⟩, .int .i64 x.kind, .string ⟨x.name.toArray⟩, .int .i64 x.tm, .string ⟨x.par.toArray⟩, .string ⟨x.text.toArray⟩] 79)) = WS at *;have hgsz := hm.size;generalize hgs : wr.heap.size = gs at *;have hgs1 := Nat.le_of_eq hgs;clear hgs q0 q1 q2 q3 q4 q5 q6 hy0
    go_cut [5] (fun p wx => p = .int .i64 er ∧ Pure wr wx)
    case first =>
     have HGs := Lib.hid (show ∀ (D : Nat → Bool) (zzi : Nat) (zq zq' : World), (fun _ zq => (fun Z => Blk Z gs 79 #[.string ⟨x.id.toArray⟩, .string ⟨x.cust.toArray⟩, .int .i64 x.kind, .string ⟨x.name.toArray⟩, .int .i64 x.tm, .string ⟨x.par.toArray⟩, .string ⟨x.text.toArray⟩] ∧ Z.cell? ⟨g, off + j * 7, none⟩ = some (.string ⟨y.id.toArray⟩)) zq) D zq → Mod (fun _ => False) zq zq' → (fun _ zq => (fun Z => Blk Z gs 79 #[.string ⟨x.id.toArray⟩, .string ⟨x.cust.toArray⟩, .int .i64 x.kind, .string ⟨x.name.toArray⟩, .int .i64 x.tm, .string ⟨x.par.toArray⟩, .string ⟨x.text.toArray⟩] ∧ Z.cell? ⟨g, off + j * 7, none⟩ = some (.string ⟨y.id.toArray⟩)) zq) (upd D zzi true) zq' from by intro D zzi zq zq' h hm; (exact ⟨h.1.modp hm, keepp h.2 hm⟩))
     refine wp_region_inv (by kernel_rfl) (by kernel_rfl) (InvF (R := Mod (fun _ => False)) [.is (.agg #[.string ⟨x.id.toArray⟩, .string ⟨x.cust.toArray⟩, .int .i64 x.kind, .string ⟨x.name.toArray⟩, .int .i64 x.tm, .string ⟨x.par.toArray⟩, .string ⟨x.text.toArray⟩]),
       .is (.int .i64 e1),
       .is (.int .i64 ((j : Int) + 1)),
       .is (.bool true),
       .is (.bool true),
       .is (.pointer (some ⟨gs, 0, none⟩)),
       .is (.string ⟨x.id.toArray⟩),
       .is (.slice (some ⟨g, off, none⟩) xs.length c),
       .is (.int .i64 ((j : Int) + 1)),
       .is (.int .i64 ((j : Int) + 1)),
       .is (.int .i64 (j : Int)),
       .is (.pointer (some ⟨g, off + j * 7, none⟩)),
       .is (.pointer (some ⟨g, off + j * 7, none⟩)),
       .is (.string ⟨y.id.toArray⟩),
       .is (.bool bo),
       .is (.bool bo),
       .is (.int .i64 e2),
       ⟨fun zv zw => ∃ (g_17 : Nat), zv = .slice (some ⟨g_17, 0, none⟩) 2 2 ∧ WS.heap.size ≤ g_17 ∧ Blk zw g_17 33 #[.int .i64 e1, .int .i64 e2], (by rintro zv zw zx ⟨g_17, rfl, c0, q0⟩ hm; exact ⟨g_17, rfl, c0, (q0.modp hm)⟩), none, some 18⟩,
       .is (.int .i64 er),
       .is (.int .i64 er)]
       (PB wr (fun _ => False) WS.heap.size (fun _ zq => (fun Z => Blk Z gs 79 #[.string ⟨x.id.toArray⟩, .string ⟨x.cust.toArray⟩, .int .i64 x.kind, .string ⟨x.name.toArray⟩, .int .i64 x.tm, .string ⟨x.par.toArray⟩, .string ⟨x.text.toArray⟩] ∧ Z.cell? ⟨g, off + j * 7, none⟩ = some (.string ⟨y.id.toArray⟩)) zq))) (InvF.start (PB.start Hm0.out (Nat.le_refl _) (⟨HB0.out.drew, cell_drew hy1⟩))) ?_ ?_
     ·refine .cons ?_ (.cons ?_ (.cons ?_ (.cons ?_ (.cons ?_ (.cons ?_ (.cons ?_ (.cons ?_ (.cons ?_ (.cons ?_ (.cons ?_ (.cons ?_ (.cons ?_ (.cons ?_ (.cons ?_ (.cons ?_ (.cons ?_ (.cons ?_ (.cons ?_ (.cons ?_ .nil)))))))))))))))))))
      ·intro D V zw1 a hR hI K hK;obtain ⟨hM1, hB1, hG1⟩ := hI.1;obtain ⟨hG1a, hG1b⟩ := hG1;have ze4 := hR.frame.other (t := 4) (by kernel_rfl) rfl;have zx0 := hG1a.cell 0; have zx1 := hG1a.cell 1; have zx2 := hG1a.cell 2; have zx3 := hG1a.cell 3; have zx4 := hG1a.cell 4; have zx5 := hG1a.cell 5; have zx6 := hG1a.cell 6;simp at zx0 zx1 zx2 zx3 zx4 zx5 zx6;rw [if_pos (by rfl)];go_simp;exact hK (.agg #[.string ⟨x.id.toArray⟩, .string ⟨x.cust.toArray⟩, .int .i64 x.kind, .string ⟨x.name.toArray⟩, .int .i64 x.tm, .string ⟨x.par.toArray⟩, .string ⟨x.text.toArray⟩]) _ (hI.next hR (by kernel_rfl) (Mod.refl _ _) (PB.quiet hI.1 (Mod.refl _ _) (HGs.out D 0 zw1 zw1 (hI.1).g (Mod.refl _ _))) (upd_same V 0 _))
      ·intro D V zw1 a hR hI K hK;obtain ⟨hM1, hB1, hG1⟩ := hI.1;obtain ⟨hG1a, hG1b⟩ := hG1;have zd0 := hR.pred 0 (by kernel_rfl);have zf0 : V 0 = .agg #[.string ⟨x.id.toArray⟩, .string ⟨x.cust.toArray⟩, .int .i64 x.kind, .string ⟨x.name.toArray⟩, .int .i64 x.tm, .string ⟨x.par.toArray⟩, .string ⟨x.text.toArray⟩] := hI.2 0 zd0 rfl;have ze28 := hR.frame.done (t := 28) (j := 0) (by kernel_rfl) hR.ok zd0;rw [if_pos (by rfl)];go_simp;refine (HCI.out _ (hm.trans hM1)).mono ?_;rintro e zw2 ⟨rfl, hm2⟩;exact hK (.int .i64 e1) _ (hI.next hR (by kernel_rfl) hm2 (PB.quiet hI.1 hm2 (HGs.out D 1 _ _ (hI.1).g hm2)) (upd_same V 1 _))
      ·intro D V zw1 a hR hI K hK;obtain ⟨hM1, hB1, hG1⟩ := hI.1;obtain ⟨hG1a, hG1b⟩ := hG1;have ze3 := hR.frame.other (t := 3) (by kernel_rfl) rfl;rw [if_pos (by rfl)];go_simp;exact hK (.int .i64 ((j : Int) + 1)) _ (hI.next hR (by kernel_rfl) (Mod.refl _ _) (PB.quiet hI.1 (Mod.refl _ _) (HGs.out D 2 zw1 zw1 (hI.1).g (Mod.refl _ _))) (upd_same V 2 _))
      ·intro D V zw1 a hR hI K hK;obtain ⟨hM1, hB1, hG1⟩ := hI.1;obtain ⟨hG1a, hG1b⟩ := hG1;have zd2 := hR.pred 2 (by kernel_rfl);have zf2 : V 2 = .int .i64 ((j : Int) + 1) := hI.2 2 zd2 rfl;have ze30 := hR.frame.done (t := 30) (j := 2) (by kernel_rfl) hR.ok zd2
       have i0 : (0 : Int) < (j : Int) + 1 := by omega
       rw [if_pos (by rfl)];go_simp;exact hK (.bool true) _ (hI.next hR (by kernel_rfl) (Mod.refl _ _) (PB.quiet hI.1 (Mod.refl _ _) (HGs.out D 3 zw1 zw1 (hI.1).g (Mod.refl _ _))) (upd_same V 3 _))
      ·intro D V zw1 a hR hI K hK;obtain ⟨hM1, hB1, hG1⟩ := hI.1;obtain ⟨hG1a, hG1b⟩ := hG1;have zd3 := hR.pred 3 (by kernel_rfl);have zf3 : V 3 = .bool true := hI.2 3 zd3 rfl;have ze31 := hR.frame.done (t := 31) (j := 3) (by kernel_rfl) hR.ok zd3;rw [if_pos (by rfl)];go_simp;exact hK (.bool true) _ (hI.next hR (by kernel_rfl) (Mod.refl _ _) (PB.quiet hI.1 (Mod.refl _ _) (HGs.out D 4 zw1 zw1 (hI.1).g (Mod.refl _ _))) (upd_same V 4 _))
      ·intro D V zw1 a hR hI K hK;obtain ⟨hM1, hB1, hG1⟩ := hI.1;obtain ⟨hG1a, hG1b⟩ := hG1;have zd4 := hR.pred 4 (by kernel_rfl);have zf4 : V 4 = .bool true := hI.2 4 zd4 rfl;have ze4 := hR.frame.other (t := 4) (by kernel_rfl) rfl;have ze32 := hR.frame.done (t := 32) (j := 4) (by kernel_rfl) hR.ok zd4;rw [if_pos (by simp [Region.wanted, yielded, ze32, zf4])];go_simp;exact hK (.pointer (some ⟨gs, 0, none⟩)) _ (hI.next hR (by kernel_rfl) (Mod.refl _ _) (PB.quiet hI.1 (Mod.refl _ _) (HGs.out D 5 zw1 zw1 (hI.1).g (Mod.refl _ _))) (upd_same V 5 _))
      ·intro D V zw1 a hR hI K hK;obtain ⟨hM1, hB1, hG1⟩ := hI.1;obtain ⟨hG1a, hG1b⟩ := hG1;have zd5 := hR.pred 5 (by kernel_rfl);have zf5 : V 5 = .pointer (some ⟨gs, 0, none⟩) := hI.2 5 zd5 rfl;have zd4 := hR.pred 4 (by kernel_rfl);have zf4 : V 4 = .bool true := hI.2 4 zd4 rfl;have ze33 := hR.frame.done (t := 33) (j := 5) (by kernel_rfl) hR.ok zd5;have zx0 := hG1a.cell 0; have zx1 := hG1a.cell 1; have zx2 := hG1a.cell 2; have zx3 := hG1a.cell 3; have zx4 := hG1a.cell 4; have zx5 := hG1a.cell 5; have zx6 := hG1a.cell 6;simp at zx0 zx1 zx2 zx3 zx4 zx5 zx6;have ze32 := hR.frame.done (t := 32) (j := 4) (by kernel_rfl) hR.ok zd4;rw [if_pos (by simp [Region.wanted, yielded, ze32, zf4])];go_simp;exact hK (.string ⟨x.id.toArray⟩) _ (hI.next hR (by kernel_rfl) (Mod.refl _ _) (PB.quiet hI.1 (Mod.refl _ _) (HGs.out D 6 zw1 zw1 (hI.1).g (Mod.refl _ _))) (upd_same V 6 _))
      ·intro D V zw1 a hR hI K hK;obtain ⟨hM1, hB1, hG1⟩ := hI.1;obtain ⟨hG1a, hG1b⟩ := hG1;have zd4 := hR.pred 4 (by kernel_rfl);have zf4 : V 4 = .bool true := hI.2 4 zd4 rfl;have ze0 := hR.frame.other (t := 0) (by kernel_rfl) rfl;have ze32 := hR.frame.done (t := 32) (j := 4) (by kernel_rfl) hR.ok zd4;rw [if_pos (by simp [Region.wanted, yielded, ze32, zf4])];go_simp;exact hK (.slice (some ⟨g, off, none⟩) xs.length c) _ (hI.next hR (by kernel_rfl) (Mod.refl _ _) (PB.quiet hI.1 (Mod.refl _ _) (HGs.out D 7 zw1 zw1 (hI.1).g (Mod.refl _ _))) (upd_same V 7 _))
      ·intro D V zw1 a hR hI K hK;obtain ⟨hM1, hB1, hG1⟩ := hI.1;obtain ⟨hG1a, hG1b⟩ := hG1;have zd4 := hR.pred 4 (by kernel_rfl);have zf4 : V 4 = .bool true := hI.2 4 zd4 rfl;have ze3 := hR.frame.other (t := 3) (by kernel_rfl) rfl;have ze32 := hR.frame.done (t := 32) (j := 4) (by kernel_rfl) hR.ok zd4;rw [if_pos (by simp [Region.wanted, yielded, ze32, zf4])];go_simp;exact hK (.int .i64 ((j : Int) + 1)) _ (hI.next hR (by kernel_rfl) (Mod.refl _ _) (PB.quiet hI.1 (Mod.refl _ _) (HGs.out D 8 zw1 zw1 (hI.1).g (Mod.refl _ _))) (upd_same V 8 _))
      ·intro D V zw1 a hR hI K hK;obtain ⟨hM1, hB1, hG1⟩ := hI.1;obtain ⟨hG1a, hG1b⟩ := hG1;have zd8 := hR.pred 8 (by kernel_rfl);have zf8 : V 8 = .int .i64 ((j : Int) + 1) := hI.2 8 zd8 rfl;have zd4 := hR.pred 4 (by kernel_rfl);have zf4 : V 4 = .bool true := hI.2 4 zd4 rfl;have ze36 := hR.frame.done (t := 36) (j := 8) (by kernel_rfl) hR.ok zd8;have hmx : (if ((j : Int) + 1) < 1 then (1 : Int) else (j : Int) + 1) = (j : Int) + 1 := if_neg (by omega)
       have hmx2 : max ((j : Int) + 1) 1 = (j : Int) + 1 := by omega
       have ze32 := hR.frame.done (t := 32) (j := 4) (by kernel_rfl) hR.ok zd4;rw [if_pos (by simp [Region.wanted, yielded, ze32, zf4])];go_simp;exact hK (.int .i64 ((j : Int) + 1)) _ (hI.next hR (by kernel_rfl) (Mod.refl _ _) (PB.quiet hI.1 (Mod.refl _ _) (HGs.out D 9 zw1 zw1 (hI.1).g (Mod.refl _ _))) (upd_same V 9 _))
      ·intro D V zw1 a hR hI K hK;obtain ⟨hM1, hB1, hG1⟩ := hI.1;obtain ⟨hG1a, hG1b⟩ := hG1;have zd9 := hR.pred 9 (by kernel_rfl);have zf9 : V 9 = .int .i64 ((j : Int) + 1) := hI.2 9 zd9 rfl;have zd4 := hR.pred 4 (by kernel_rfl);have zf4 : V 4 = .bool true := hI.2 4 zd4 rfl;have ze37 := hR.frame.done (t := 37) (j := 9) (by kernel_rfl) hR.ok zd9;have hw : IntKind.i64.wrap (j : Int) = (j : Int) := IntWalk.i64_in _ (by omega);have ze32 := hR.frame.done (t := 32) (j := 4) (by kernel_rfl) hR.ok zd4;rw [if_pos (by simp [Region.wanted, yielded, ze32, zf4])];go_simp;exact hK (.int .i64 (j : Int)) _ (hI.next hR (by kernel_rfl) (Mod.refl _ _) (PB.quiet hI.1 (Mod.refl _ _) (HGs.out D 10 zw1 zw1 (hI.1).g (Mod.refl _ _))) (upd_same V 10 _))
      ·intro D V zw1 a hR hI K hK;obtain ⟨hM1, hB1, hG1⟩ := hI.1;obtain ⟨hG1a, hG1b⟩ := hG1;have zd7 := hR.pred 7 (by kernel_rfl);have zf7 : V 7 = .slice (some ⟨g, off, none⟩) xs.length c := hI.2 7 zd7 rfl;have zd10 := hR.pred 10 (by kernel_rfl);have zf10 : V 10 = .int .i64 (j : Int) := hI.2 10 zd10 rfl;have zd4 := hR.pred 4 (by kernel_rfl);have zf4 : V 4 = .bool true := hI.2 4 zd4 rfl;have ze35 := hR.frame.done (t := 35) (j := 7) (by kernel_rfl) hR.ok zd7;have ze38 := hR.frame.done (t := 38) (j := 10) (by kernel_rfl) hR.ok zd10
       have i3 : (0 : Int) ≤ (j : Int) := by omega
       have i4 : (j : Int) < (xs.length : Int) := by omega
       have ze32 := hR.frame.done (t := 32) (j := 4) (by kernel_rfl) hR.ok zd4;rw [if_pos (by simp [Region.wanted, yielded, ze32, zf4])];go_simp;exact hK (.pointer (some ⟨g, off + j * 7, none⟩)) _ (hI.next hR (by kernel_rfl) (Mod.refl _ _) (PB.quiet hI.1 (Mod.refl _ _) (HGs.out D 11 zw1 zw1 (hI.1).g (Mod.refl _ _))) (upd_same V 11 _))
      ·intro D V zw1 a hR hI K hK;obtain ⟨hM1, hB1, hG1⟩ := hI.1;obtain ⟨hG1a, hG1b⟩ := hG1;have zd11 := hR.pred 11 (by kernel_rfl);have zf11 : V 11 = .pointer (some ⟨g, off + j * 7, none⟩) := hI.2 11 zd11 rfl;have zd4 := hR.pred 4 (by kernel_rfl);have zf4 : V 4 = .bool true := hI.2 4 zd4 rfl;have ze39 := hR.frame.done (t := 39) (j := 11) (by kernel_rfl) hR.ok zd11;have ze32 := hR.frame.done (t := 32) (j := 4) (by kernel_rfl) hR.ok zd4;rw [if_pos (by simp [Region.wanted, yielded, ze32, zf4])];go_simp;exact hK (.pointer (some ⟨g, off + j * 7, none⟩)) _ (hI.next hR (by kernel_rfl) (Mod.refl _ _) (PB.quiet hI.1 (Mod.refl _ _) (HGs.out D 12 zw1 zw1 (hI.1).g (Mod.refl _ _))) (upd_same V 12 _))
      ·intro D V zw1 a hR hI K hK;obtain ⟨hM1, hB1, hG1⟩ := hI.1;obtain ⟨hG1a, hG1b⟩ := hG1;have zd12 := hR.pred 12 (by kernel_rfl);have zf12 : V 12 = .pointer (some ⟨g, off + j * 7, none⟩) := hI.2 12 zd12 rfl;have zd4 := hR.pred 4 (by kernel_rfl);have zf4 : V 4 = .bool true := hI.2 4 zd4 rfl;have ze40 := hR.frame.done (t := 40) (j := 12) (by kernel_rfl) hR.ok zd12;have ze32 := hR.frame.done (t := 32) (j := 4) (by kernel_rfl) hR.ok zd4;rw [if_pos (by simp [Region.wanted, yielded, ze32, zf4])];go_simp;exact hK (.string ⟨y.id.toArray⟩) _ (hI.next hR (by kernel_rfl) (Mod.refl _ _) (PB.quiet hI.1 (Mod.refl _ _) (HGs.out D 13 zw1 zw1 (hI.1).g (Mod.refl _ _))) (upd_same V 13 _))
      ·intro D V zw1 a hR hI K hK;obtain ⟨hM1, hB1, hG1⟩ := hI.1;obtain ⟨hG1a, hG1b⟩ := hG1;have zd6 := hR.pred 6 (by kernel_rfl);have zf6 : V 6 = .string ⟨x.id.toArray⟩ := hI.2 6 zd6 rfl;have zd13 := hR.pred 13 (by kernel_rfl);have zf13 : V 13 = .string ⟨y.id.toArray⟩ := hI.2 13 zd13 rfl;have zd4 := hR.pred 4 (by kernel_rfl);have zf4 : V 4 = .bool true := hI.2 4 zd4 rfl;have ze34 := hR.frame.done (t := 34) (j := 6) (by kernel_rfl) hR.ok zd6;have ze41 := hR.frame.done (t := 41) (j := 13) (by kernel_rfl) hR.ok zd13;have hbo := HBO.out;have ze32 := hR.frame.done (t := 32) (j := 4) (by kernel_rfl) hR.ok zd4;rw [if_pos (by simp [Region.wanted, yielded, ze32, zf4])];go_simp;exact hK (.bool bo) _ (hI.next hR (by kernel_rfl) (Mod.refl _ _) (PB.quiet hI.1 (Mod.refl _ _) (HGs.out D 14 zw1 zw1 (hI.1).g (Mod.refl _ _))) (upd_same V 14 _))
      ·intro D V zw1 a hR hI K hK;obtain ⟨hM1, hB1, hG1⟩ := hI.1;obtain ⟨hG1a, hG1b⟩ := hG1;have zd4 := hR.pred 4 (by kernel_rfl);have zf4 : V 4 = .bool true := hI.2 4 zd4 rfl;have zd14 := hR.pred 14 (by kernel_rfl);have zf14 : V 14 = .bool bo := hI.2 14 zd14 rfl;have ze32 := hR.frame.done (t := 32) (j := 4) (by kernel_rfl) hR.ok zd4;have ze42 := hR.frame.done (t := 42) (j := 14) (by kernel_rfl) hR.ok zd14;rw [if_pos (by rfl)];go_simp;exact hK (.bool bo) _ (hI.next hR (by kernel_rfl) (Mod.refl _ _) (PB.quiet hI.1 (Mod.refl _ _) (HGs.out D 15 zw1 zw1 (hI.1).g (Mod.refl _ _))) (upd_same V 15 _))
      ·intro D V zw1 a hR hI K hK;obtain ⟨hM1, hB1, hG1⟩ := hI.1;obtain ⟨hG1a, hG1b⟩ := hG1;have zd15 := hR.pred 15 (by kernel_rfl);have zf15 : V 15 = .bool bo := hI.2 15 zd15 rfl;have ze43 := hR.frame.done (t := 43) (j := 15) (by kernel_rfl) hR.ok zd15;rw [if_pos (by rfl)];go_simp;refine (HWF.out _).mono ?_;rintro e zw2 ⟨rfl, rfl⟩;have hm2 : Pure zw1 zw1 := Mod.refl _ _;exact hK (.int .i64 e2) _ (hI.next hR (by kernel_rfl) hm2 (PB.quiet hI.1 hm2 (HGs.out D 16 _ _ (hI.1).g hm2)) (upd_same V 16 _))
      ·intro D V zw1 a hR hI K hK;obtain ⟨hM1, hB1, hG1⟩ := hI.1;obtain ⟨hG1a, hG1b⟩ := hG1;have zd1 := hR.pred 1 (by kernel_rfl);have zf1 : V 1 = .int .i64 e1 := hI.2 1 zd1 rfl;have zd16 := hR.pred 16 (by kernel_rfl);have zf16 : V 16 = .int .i64 e2 := hI.2 16 zd16 rfl;have ze29 := hR.frame.done (t := 29) (j := 1) (by kernel_rfl) hR.ok zd1;have ze44 := hR.frame.done (t := 44) (j := 16) (by kernel_rfl) hR.ok zd16;rw [if_pos (by rfl)];go_simp;exact hK (_) _ (hI.next hR (by kernel_rfl) ((Mod.refl _ _).alloc _) (PB.quiet hI.1 (pure_alloc _ _) (HGs.out D 17 _ _ (hI.1).g ((Mod.refl _ _).alloc _))) (⟨_, upd_same V 17 _, (by omega), (Blk.new _ _ _)⟩))
      ·intro D V zw1 a hR hI K hK;obtain ⟨hM1, hB1, hG1⟩ := hI.1;obtain ⟨hG1a, hG1b⟩ := hG1;have zd17 := hR.pred 17 (by kernel_rfl);have zF17 : ∃ (g_17 : Nat), V 17 = .slice (some ⟨g_17, 0, none⟩) 2 2 ∧ WS.heap.size ≤ g_17 ∧ Blk zw1 g_17 33 #[.int .i64 e1, .int .i64 e2] := hI.2 17 zd17 (by show (!D 18) = true; rw [hR.not]; rfl);obtain ⟨g_17, zf17, c17_0, b17_0⟩ := zF17;have ze45 := hR.frame.done (t := 45) (j := 17) (by kernel_rfl) hR.ok zd17;rw [if_pos (by rfl)];go_simp;refine (HFE.out _ _ _ b17_0).mono ?_;rintro e zw2 ⟨rfl, hm2⟩;exact hK (.int .i64 er) _ (hI.next hR (by kernel_rfl) hm2 (PB.quiet hI.1 hm2 (HGs.out D 18 _ _ (hI.1).g hm2)) (upd_same V 18 _))
      ·intro D V zw1 a hR hI K hK;obtain ⟨hM1, hB1, hG1⟩ := hI.1;obtain ⟨hG1a, hG1b⟩ := hG1;have zd18 := hR.pred 18 (by kernel_rfl);have zf18 : V 18 = .int .i64 er := hI.2 18 zd18 rfl;have ze46 := hR.frame.done (t := 46) (j := 18) (by kernel_rfl) hR.ok zd18;rw [if_pos (by rfl)];go_simp;exact hK (.int .i64 er) _ (hI.next hR (by kernel_rfl) (Mod.refl _ _) (PB.quiet hI.1 (Mod.refl _ _) (HGs.out D 19 zw1 zw1 (hI.1).g (Mod.refl _ _))) (upd_same V 19 _))
     ·intro D V w1 hD hI;obtain ⟨hM1, hB1, hG1⟩ := hI.1;have hMx := hM1;clear hM1;have hBx := hB1;clear hB1;have hGx := hG1;clear hG1;have zf0 : V 0 = .agg #[.string ⟨x.id.toArray⟩, .string ⟨x.cust.toArray⟩, .int .i64 x.kind, .string ⟨x.name.toArray⟩, .int .i64 x.tm, .string ⟨x.par.toArray⟩, .string ⟨x.text.toArray⟩] := hI.2 0 (hD 0 (by decide)) rfl;have zf1 : V 1 = .int .i64 e1 := hI.2 1 (hD 1 (by decide)) rfl;have zf2 : V 2 = .int .i64 ((j : Int) + 1) := hI.2 2 (hD 2 (by decide)) rfl;have zf3 : V 3 = .bool true := hI.2 3 (hD 3 (by decide)) rfl;have zf4 : V 4 = .bool true := hI.2 4 (hD 4 (by decide)) rfl;have zf5 : V 5 = .pointer (some ⟨gs, 0, none⟩) := hI.2 5 (hD 5 (by decide)) rfl;have zf6 : V 6 = .string ⟨x.id.toArray⟩ := hI.2 6 (hD 6 (by decide)) rfl;have zf7 : V 7 = .slice (some ⟨g, off, none⟩) xs.length c := hI.2 7 (hD 7 (by decide)) rfl;have zf8 : V 8 = .int .i64 ((j : Int) + 1) := hI.2 8 (hD 8 (by decide)) rfl;have zf9 : V 9 = .int .i64 ((j : Int) + 1) := hI.2 9 (hD 9 (by decide)) rfl;have zf10 : V 10 = .int .i64 (j : Int) := hI.2 10 (hD 10 (by decide)) rfl;have zf11 : V 11 = .pointer (some ⟨g, off + j * 7, none⟩) := hI.2 11 (hD 11 (by decide)) rfl;have zf12 : V 12 = .pointer (some ⟨g, off + j * 7, none⟩) := hI.2 12 (hD 12 (by decide)) rfl;have zf13 : V 13 = .string ⟨y.id.toArray⟩ := hI.2 13 (hD 13 (by decide)) rfl;have zf14 : V 14 = .bool bo := hI.2 14 (hD 14 (by decide)) rfl;have zf15 : V 15 = .bool bo := hI.2 15 (hD 15 (by decide)) rfl;have zf16 : V 16 = .int .i64 e2 := hI.2 16 (hD 16 (by decide)) rfl;have zf18 : V 18 = .int .i64 er := hI.2 18 (hD 18 (by decide)) rfl;have zf19 : V 19 = .int .i64 er := hI.2 19 (hD 19 (by decide)) rfl;clear hI hD HGs;simp only [frAll, Act.put, List.setIfInBounds_toArray, List.set_cons_zero, List.set_cons_succ, Nat.zero_add, Nat.reduceAdd, zf0, zf1, zf2, zf3, zf4, zf5, zf6, zf7, zf8, zf9, zf10, zf11, zf12, zf13, zf14, zf15, zf16, zf18, zf19];clear zf0 zf1 zf2 zf3 zf4 zf5 zf6 zf7 zf8 zf9 zf10 zf11 zf12 zf13 zf14 zf15 zf16 zf18 zf19;generalize V 17 = u17;clear V D
      go_wp2_with fail
      go_meet;exact ⟨rfl, hMx⟩
    case rest =>
     obtain ⟨rfl, m1⟩ := hcut;have m2 := hm.trans m1;have hr2 := firstErr2 HER.out;have HR2 := Lib.hid hr2;clear HCI HFE HWF HB0 Hm0 WS hr2 HBO hy1
     by_cases he0 : er = 0
     ·have he1 : e1 = 0 ∧ e2 = 0 := by
       have := HR2.out;rw [he0] at this
       by_cases h : e1 = 0
       ·rw [if_neg (by simpa using h)] at this; exact ⟨h, this.symm⟩
       ·rw [if_pos h] at this; exact absurd this.symm h
      have HS1 : Hid (ordE itemE [] xs = ordE itemE x.id (xs.drop (j + 1 + 1))) := Lib.hid (by
       rw [HST1.out, he1.1];have h2 := HE2.out;rw [he1.2] at h2
       cases bo
       ·simp
       ·simp at h2)
      clear HST1 HR2 HER HE2 he1;subst he0
      go_wp2_with fail
      go_roundg (xs.length - (j + 1 + 1))
      case measure => omega
      case rel => exact ⟨j + 1 + 1, rfl, by omega, by simp, by rw [HPI.out, HS1.out], m2⟩
     ·have he0' : (er != 0) = true := by simpa using he0
      have hx : ordE itemE [] xs = er := by
       have h1 := HR2.out;rw [HST1.out]
       by_cases h : e1 = 0
       ·rw [if_neg (by simpa using h)] at h1;rw [if_neg (by simpa using h)];have h2 := HE2.out
        cases bo
        ·simp at h2;rw [h1, ← h2] at he0;exact absurd rfl he0
        ·simp at h2;rw [h1, ← h2]
         rfl
       ·rw [if_pos h] at h1;rw [if_pos h, h1]
      have HF : Hid (itsE itemE xs = er) := Lib.hid (by rw [HIE.out, hx, if_pos he0]);clear HST1 HR2 HER HE2 hx HIE
      go_wp2_with fail
      go_ret;exact IntPost.of HF.out m2
  ·have hke : k = xs.length := by omega
   have ho : ordE itemE [] xs = 0 := by
    rw [← hord, hke, List.drop_of_length_le (Nat.le_refl _)]
    rfl
   have hd := ids_of_ordE ho;have HD := Lib.hid hd;have HIE2 : Hid (itsE itemE xs = if xs.any (missB xs) then 8 else treeE xs) := Lib.hid (by rw [HIE.out, ho]; rfl);clear hd ho HIE hord hke
   go_wp2_with fail
   refine (HBY.out _ hm HD.out).mono ?_;rintro e w1 ⟨b, rfl, hb, hM1, m1⟩;have m2 := hm.trans m1;clear HBY hm m1 hb hlt hk
   go_wp2_with fail
   go_loopg [55] xs.length (fun gk i wr => Ck2 w b xs gk i wr)
   case atStart => exact ⟨0, by omega, by omega, rfl, rfl, hM1, m2⟩
   case round =>
    clear m2 hM1;obtain ⟨k, rfl, hk, rfl, hno, hM, hm⟩ := hrel;have hblt := hM.lt
    by_cases hlt : k < xs.length
    ·obtain ⟨g, off, rfl, hrow⟩ := HR.out (by omega);obtain ⟨q0, q1, q2, q3, q4, q5, q6⟩ := item_cells (hrow.mod hm id) hlt;have hzx := (HZ.out _ (List.getElem_mem hlt)).2.2.2.1;have HTK := Lib.hid (any_take_snoc (missB xs) xs k hlt);rw [hno] at HTK;have HAT := Lib.hid (fun h => any_of_at (p := missB xs) hlt h);have HMF := Lib.hid (missB_fnd xs xs[k]);clear hrow hno;generalize xs[k] = x at *;have hlook := (hM.alloc (.cells (itQ x) 79)).look_ok Tryz.underlying113 zero_item x.par (by omega);unfold byF at hlook;have B0 := Blk.new wr 79 (itQ x)
     cases hf : fnd xs x.par with
     | none =>
      rw [hf] at hlook HMF;simp only [Option.map_none, Option.getD_none, Option.isSome_none] at hlook;have B1 := B0.alloc (.cells itZc 79);have HM1 := Lib.hid ((hM.alloc (.cells (itQ x) 79)).alloc (.cells itZc 79));have Hm1 := Lib.hid ((hm.alloc (.cells (itQ x) 79)).alloc (.cells itZc 79));unfold itZ at hlook;unfold itQ at hlook B1 HM1 Hm1;unfold itZc at B1 HM1 Hm1;have c0 := B1.cell 0; have c1 := B1.cell 1; have c2 := B1.cell 2; have c3 := B1.cell 3; have c4 := B1.cell 4; have c5 := B1.cell 5; have c6 := B1.cell 6; simp at c0 c1 c2 c3 c4 c5 c6;clear B0 B1 hf hM hm
      cases he : x.par.isEmpty
      ·have HF : Hid (itsE itemE xs = 8) := Lib.hid (by rw [HIE2.out, HAT.out (by rw [HMF.out, he]; rfl)]; rfl);clear HTK HAT HMF HM1
       go_wp2_with fail
       go_ret;exact IntPost.of HF.out Hm1.out
      ·have HN : Hid ((xs.take (k + 1)).any (missB xs) = false) := Lib.hid (by rw [HTK.out, HMF.out, he]; rfl);clear HTK HAT HMF
       go_wp2_with fail
       go_roundg (xs.length - (k + 1))
       case measure => omega
       case rel => exact ⟨k + 1, rfl, by omega, by simp, HN.out, HM1.out, Hm1.out⟩
     | some p =>
      rw [hf] at hlook HMF;simp only [Option.map_some, Option.getD_some, Option.isSome_some] at hlook;have B1 := B0.alloc (.cells (itQ p) 79);have HM1 := Lib.hid ((hM.alloc (.cells (itQ x) 79)).alloc (.cells (itQ p) 79));have Hm1 := Lib.hid ((hm.alloc (.cells (itQ x) 79)).alloc (.cells (itQ p) 79));unfold itA at hlook;unfold itQ at hlook B1 HM1 Hm1;have c0 := B1.cell 0; have c1 := B1.cell 1; have c2 := B1.cell 2; have c3 := B1.cell 3; have c4 := B1.cell 4; have c5 := B1.cell 5; have c6 := B1.cell 6; simp at c0 c1 c2 c3 c4 c5 c6;have HN : Hid ((xs.take (k + 1)).any (missB xs) = false) := Lib.hid (by rw [HTK.out, HMF.out]; simp);clear B0 B1 hf hM hm HTK HAT HMF
      cases he : x.par.isEmpty
      all_goals
       go_wp2_with fail
       go_roundg (xs.length - (k + 1))
       case measure => omega
       case rel => exact ⟨k + 1, rfl, by omega, by simp, HN.out, HM1.out, Hm1.out⟩
    ·obtain rfl : k = xs.length := by omega
     rw [List.take_length] at hno;have HIE3 : Hid (itsE itemE xs = treeE xs) := Lib.hid (by rw [HIE2.out, hno]; rfl);clear HIE2 hno hlt hk
     go_wp2_with fail
     go_loopg [76] xs.length (fun gk i wr => Ck3 w b xs gk i wr)
     case atStart => exact ⟨0, by omega, by omega, rfl, fun j h => absurd h (by omega), hM, hm⟩
     case round =>
      clear hM hm;obtain ⟨k, rfl, hk, rfl, hno, hM, hm⟩ := hrel
      by_cases hlt : k < xs.length
      ·obtain ⟨g, off, rfl, hrow⟩ := HR.out (by omega);obtain ⟨q0, q1, q2, q3, q4, q5, q6⟩ := item_cells (hrow.mod hm id) hlt;have HNO := Lib.hid hno
       have HAT : Hid (lpB xs k = true → itsE itemE xs = 14) := Lib.hid (fun h => by
        rw [HIE3.out];unfold treeE
        rw [if_pos (List.any_eq_true.2 ⟨k, List.mem_range.2 hlt, h⟩)])
       have HAB := Lib.hid (iabove_calls (wr.alloc (.cells (itQ xs[k]) 79)) b xs xs[k] k (List.getElem?_eq_getElem hlt) (hM.alloc _) HZ.out HD.out (by omega));have Hm0 := Lib.hid (hm.alloc (.cells (itQ xs[k]) 79));have HM0 := Lib.hid (hM.alloc (.cells (itQ xs[k]) 79));clear hrow hno hM hm;generalize xs[k] = x at *;unfold itA at HAB;unfold itQ at HAB Hm0 HM0
       go_wp2_with fail
       refine HAB.out.mono ?_;rintro e w1 ⟨n, lp, rfl, hlp, _, m1⟩;have m2 := Hm0.out.trans m1;have hM2 := HM0.out.pure m1;have HLP := Lib.hid hlp;clear HAB hlp m1 Hm0 HM0 q0 q1 q2 q3 q4 q5 q6
       cases lp
       ·have HN : Hid (∀ j, j < k + 1 → lpB xs j = false) := Lib.hid (fun j hj => by
         rcases Nat.lt_or_ge j k with h | h
         ·exact HNO.out j h
         ·obtain rfl : j = k := by omega
          exact HLP.out.symm)
        clear HAT HNO
        go_wp2_with fail
        go_roundg (xs.length - (k + 1))
        case measure => omega
        case rel => exact ⟨k + 1, rfl, by omega, by simp, HN.out, hM2, m2⟩
       ·have HF := Lib.hid (HAT.out HLP.out.symm);clear HAT HNO HLP
        go_wp2_with fail
        go_ret;exact IntPost.of HF.out m2
      ·obtain rfl : k = xs.length := by omega
       have HIE4 : Hid (itsE itemE xs = firstE (depE xs) 0 xs.length) := Lib.hid (by
        rw [HIE3.out];unfold treeE;rw [if_neg];intro h;rw [List.any_eq_true] at h;obtain ⟨j, hj, h⟩ := h;rw [hno j (List.mem_range.1 hj)] at h
        cases h)
       have HNO := Lib.hid hno;clear HIE3 hno hlt hk
       go_wp2_with fail
       go_loopg [90] xs.length (fun gk i wr => Ck4 w b xs gk i wr)
       case atStart => exact ⟨0, by omega, by omega, rfl, rfl, hM, hm⟩
       case round =>
        clear hM hm;obtain ⟨k, rfl, hk, rfl, hfe, hM, hm⟩ := hrel
        by_cases hlt : k < xs.length
        ·obtain ⟨g, off, rfl, hrow⟩ := HR.out (by omega);obtain ⟨q0, q1, q2, q3, q4, q5, q6⟩ := item_cells (hrow.mod hm id) hlt;rw [firstE_step _ hlt] at hfe;have HFE := Lib.hid hfe;have HPL := Lib.hid (placed_calls (wr.alloc (.cells (itQ xs[k]) 79)) b xs xs[k] k (List.getElem?_eq_getElem hlt) (hM.alloc _) HZ.out HD.out (by omega) (HNO.out k hlt));have Hm0 := Lib.hid (hm.alloc (.cells (itQ xs[k]) 79));have HM0 := Lib.hid (hM.alloc (.cells (itQ xs[k]) 79));clear hrow hfe hM hm;generalize xs[k] = x at *;generalize depE xs k = de at *;unfold itA at HPL;unfold itQ at HPL Hm0 HM0
         go_wp2_with fail
         refine HPL.out.mono ?_;rintro e w1 ⟨rfl, m1⟩;have m2 := Hm0.out.trans m1;have hM2 := HM0.out.pure m1;clear HPL m1 Hm0 HM0 q0 q1 q2 q3 q4 q5 q6
         by_cases he : de = 0
         ·have HN : Hid (firstE (depE xs) (k + 1) (xs.length - (k + 1)) = firstE (depE xs) 0 xs.length) := Lib.hid (by
           have := HFE.out
           rwa [if_neg (by simpa using he)] at this)
          clear HFE;subst he
          go_wp2_with fail
          go_roundg (xs.length - (k + 1))
          case measure => omega
          case rel => exact ⟨k + 1, rfl, by omega, by simp, HN.out, hM2, m2⟩
         ·have he' : (de != 0) = true := by simpa using he
          have HF : Hid (itsE itemE xs = de) := Lib.hid (by
           have := HFE.out;rw [if_pos he] at this
           rw [HIE4.out, ← this])
          clear HFE
          go_wp2_with fail
          go_ret;exact IntPost.of HF.out m2
        ·obtain rfl : k = xs.length := by omega
         have HF : Hid (itsE itemE xs = 0) := Lib.hid (by rw [HIE4.out, ← hfe, Nat.sub_self]; rfl);clear hfe
         go_wp2_with fail
         go_ret;exact IntPost.of HF.out hm
end Go.Proofs.YtgfgggeeoeppjaaGreatDoor
/- Families of package intake. -/
namespace Go.Proofs.YtgfgggeeoeppjaaGreatDoor
open Go.RowKit
abbrev Fm := Str × Value × List Str
def fmV (xs : List Fm) : List Value := xs.flatMap fun p => [.string ⟨p.1.toArray⟩, p.2.1]
theorem fmV_len : ∀ xs : List Fm, (fmV xs).length = xs.length * 2
 | [] => rfl
 | x :: xs => by
  have := fmV_len xs;simp only [fmV, List.flatMap_cons, List.length_append, List.length_cons, List.length_nil] at *
  omega
theorem fmV_get : ∀ (xs : List Fm) (i : Nat) (h : i < xs.length), (fmV xs)[i * 2]? = some (.string ⟨xs[i].1.toArray⟩) ∧ (fmV xs)[i * 2 + 1]? = some xs[i].2.1
 | [], i, h => absurd h (by simp)
 | x :: xs, 0, h => by simp [fmV]
 | x :: xs, i + 1, h => by
  have := fmV_get xs i (by simpa using h)
  have e : (i + 1) * 2 = i * 2 + 1 + 1 := by omega
  simp only [fmV, List.flatMap_cons, List.cons_append, List.nil_append, e, List.getElem?_cons_succ, List.getElem_cons_succ];exact this
theorem fmV_snoc (xs : List Fm) (p : Fm) : fmV (xs ++ [p]) = fmV xs ++ [.string ⟨p.1.toArray⟩, p.2.1] := by simp [fmV]
def fmS (xs : List Fm) : List (Str × List Str) := xs.map fun p => (p.1, p.2.2)
def FmR (w : World) (v : Value) (xs : List Fm) : Prop := Sl w 90 2 v (fmV xs) ∧ ∀ p ∈ xs, Sl w 9 1 p.2.1 (strsV p.2.2)
theorem FmR.pure {w w' : World} {v : Value} {xs : List Fm} (h : FmR w v xs) (hm : Pure w w') : FmR w' v xs := ⟨h.1.pure hm, fun p hp => (h.2 p hp).pure hm⟩
def famsS (l : List Itm) : List (Str × List Str) := (topsI l).map fun t => (idAt2 l t, belS l 4 t)
theorem info_fam : (Tryz.prog.info? 90).map (fun i => (i.zero, i.size, i.bytes)) = some (some (.agg #[.string ⟨#[]⟩, .slice none 0 0]), 2, 40) := by kernel_rfl
def FamPost (w : World) (l : List Itm) (e : Ending) (w' : World) : Prop :=
 ∃ v, e = .returned (.tuple #[v, .int .i64 (itsE itemE l)]) ∧ (itsE itemE l ≠ 0 → v = nilS) ∧ (itsE itemE l = 0 → ∃ fs, FmR w' v fs ∧ fmS fs = famsS l) ∧ Pure w w'
def FaRel (w : World) (base g0 bi bk : Nat) (At : Option Addr) (nt ct : Nat) (l : List Itm) (gk : Nat) (x i : Value) (wr : World) : Prop :=
 ∃ (k : Nat) (fs : List Fm) (Ao : Option Addr) (cap : Nat), (topsI l).length - k = gk ∧ k ≤ (topsI l).length ∧ x = .slice Ao k cap ∧ i = .int .i64 (k : Int) ∧ fs.length = k ∧ fmS fs = (famsS l).take k ∧
  wr.ownsRow base 90 2 (.slice Ao k cap) k (fmV fs) ∧ (∀ p ∈ fs, Sl wr 9 1 p.2.1 (strsV p.2.2)) ∧ Blk wr g0 116 #[.map (some bi), .map (some bk), .slice At nt ct] ∧ TreeIs wr bi bk (.slice At nt ct) l ∧ Pure w wr ∧ base ≤ wr.heap.size
theorem TreeIs.grown {w w' : World} {bi bk : Nat} {vt v : Value} {xs : List Itm} {base size n : Nat} {ys : List Value} (h : TreeIs w bi bk vt xs) (hb : bi < base) (hb2 : bk < base) (hown : w.ownsRow base 90 size v n ys) (hg : w.grownBy w' v.ownBlock) : TreeIs w' bi bk vt xs := by
 obtain ⟨n, V, h1, h2⟩ := h.kids;have hm := grown_mod hg;have hne : ∀ k, v.ownBlock = some k → base ≤ k := own_block hown;exact ⟨h.items.mod hm (fun hh => by have := hne _ hh; omega), ⟨n, V, h1.mod hm (fun hh => by have := hne _ hh; omega), fun p => (h2 p).grown hown hg (by decide)⟩, h.tops.grown hown hg (by decide)⟩
theorem itemE_ne {x : Itm} (h : itemE x = 0) : x.id ≠ [] := fun e => by have := itemE_id h; rw [e] at this; cases this
set_option maxHeartbeats 8000000 in
theorem families_calls (w : World) (v : Value) (l : List Itm) (hv : Its w v l) (hz : ∀ x ∈ l, ItB x) (hl : l.length ≤ 2000) (hE : Env w) : Calls Tryz.prog 47 #[v] w (FamPost w l) := by
 obtain ⟨i0, hi0, hz0, hz1, hz2⟩ := info_parts info_fam;have HCH := Lib.hid (check_calls w v l hv hz hl hE);have HNT := Lib.hid (fun W (h : Pure w W) hd => newTree_calls W v l (hv.pure h) hz hd hl);have HRT := Lib.hid (fun h => right_of (E := itemE) (fun x hx => itemE_ne hx) (l := l) h);have HBT := Lib.hid (fun hR bi bk At nt ct => belowT_calls l hR hz bi bk At nt ct 4);obtain ⟨A, n, c, rfl⟩ := Sl.form hv;have HE := Lib.hid (rfl : itsE itemE l = itsE itemE l);obtain ⟨e1, he1⟩ : ∃ e1, itsE itemE l = e1 := ⟨_, rfl⟩;rw [he1] at HCH;have HE1 := Lib.hid he1;clear hv hz hE HE he1
 go_enter Tryz.func47, Tryz.ntmps47
 go_wp2_with fail
 refine HCH.out.mono ?_;rintro e w1 ⟨rfl, m1⟩;clear HCH
 by_cases h0 : e1 = 0
 ·subst h0;have hR := HRT.out HE1.out;have HR := Lib.hid hR;have hds := hR.distinct;have HDS := Lib.hid hds;clear hR hds HRT
  go_wp2_with fail
  refine (HNT.out _ m1 HDS.out).mono ?_;rintro e w2 ⟨bi, bk, vt, rfl, hT, m2⟩;have m3 := m1.trans m2;obtain ⟨At, nt, ct, rfl⟩ := hT.tops.form;have hbil := hT.items.lt;have hws := m3.size
  have hbkl : bk < w2.heap.size := by
   obtain ⟨_, _, h1, _⟩ := hT.kids;exact h1.lt
  have hnt : (topsS l).length = nt := hT.tops.lenS;rw [HR.out.topsS_eq, List.length_map] at hnt;subst hnt;have hB0 := Blk.new w2 116 #[.map (some bi), .map (some bk), .slice At (topsI l).length ct];have hT0 := hT.pure (pure_alloc w2 (.cells #[.map (some bi), .map (some bk), .slice At (topsI l).length ct] 116));have hm0 := m3.alloc (.cells #[.map (some bi), .map (some bk), .slice At (topsI l).length ct] 116)
  have hsz : (w2.alloc (.cells #[.map (some bi), .map (some bk), .slice At (topsI l).length ct] 116)).heap.size = w2.heap.size + 1 := by simp
  have hsz1 := Nat.le_of_eq hsz;have hsz2 := Nat.le_of_eq hsz.symm;have HB0 := Lib.hid hB0;have HT0 := Lib.hid hT0;have Hm0 := Lib.hid hm0
  have htl : (topsI l).length ≤ 2000 := by
   unfold topsI;exact Nat.le_trans (List.length_filter_le _ _) (by simp; omega)
  clear HNT m1 m2 m3 hT hB0 hT0 hm0 hsz
  go_wp2_with fail
  obtain ⟨g0, hg0⟩ : ∃ g0, g0 = w2.heap.size := ⟨_, rfl⟩;obtain ⟨base, hba⟩ : ∃ base, base = w2.heap.size + 1 := ⟨_, rfl⟩;have hg1 := Nat.le_of_eq hg0;have hg2 := Nat.le_of_eq hg0.symm;have hb1 := Nat.le_of_eq hba;have hb2 := Nat.le_of_eq hba.symm;rw [← hg0] at HB0 ⊢;clear hg0 hba;generalize (w2.alloc (.cells #[.map (some bi), .map (some bk), .slice At (topsI l).length ct] 116)) = W at *;have hmz := Hm0.out.size
  go_loopg [6, 19] (topsI l).length (fun gk xv i wr => FaRel w base g0 bi bk At (topsI l).length ct l gk xv i wr)
  case atStart => exact ⟨0, [], none, 0, by omega, by omega, rfl, rfl, rfl, by simp [fmS], ⟨rfl, .inl ⟨rfl, rfl⟩⟩, fun p hp => absurd hp (by simp), HB0.out, HT0.out, Hm0.out, by omega⟩
  case round =>
   clear HB0 HT0 Hm0 hmz hsz1 hsz2;obtain ⟨k, fs, Ao, cap, rfl, hk, rfl, rfl, hfl, hfs, hown, hsl, hB, hT, hm, hsz⟩ := hrel
   by_cases hlt : k < (topsI l).length
   ·have hkl : k < (topsS l).length := by rw [HR.out.topsS_eq, List.length_map]; exact hlt
    obtain ⟨gr, off, rfl, hrow⟩ := hT.tops.rowS (by omega);have q1 := hrow.cell (strsV_get (topsS l) k hkl)
    have hte : (topsS l)[k] = idAt2 l (topsI l)[k] := by
     have := HR.out.topsS_eq;simp only [this, List.getElem_map]
    rw [hte] at q1;have htk : (topsI l)[k] < l.length := (mem_topsI.1 (List.getElem_mem hlt)).1;have hbt := HBT.out HR.out bi bk (some ⟨gr, off, none⟩) (topsI l).length ct _ htk (HR.out.short _) wr hT;rw [← idAt2_eq htk] at hbt;have HBC := Lib.hid hbt
    have hft : (famsS l).take (k + 1) = (famsS l).take k ++ [(idAt2 l (topsI l)[k], belS l 4 (topsI l)[k])] := by
     have hkf : k < (famsS l).length := by unfold famsS; rw [List.length_map]; exact hlt
     rw [List.take_succ_eq_append_getElem hkf]
     congr 2
     simp [famsS]
    have HFT := Lib.hid hft;have HFS := Lib.hid hfs;have HSL := Lib.hid hsl;have HTT := Lib.hid hT;clear hrow hte htk hbt hft hfs hsl hT hkl;generalize idAt2 l (topsI l)[k] = tid at *;generalize belS l 4 (topsI l)[k] = bs at *;have t0 := hB.cell 0; have t1 := hB.cell 1; have t2 := hB.cell 2; simp at t0 t1 t2
    go_wp2_with fail
    refine HBC.out.mono ?_;rintro e w3 ⟨v3, rfl, own3, m3⟩;have hS3 := Sl.of_own own3;obtain ⟨Ai, ni, ci, rfl⟩ := hS3.form;have hownA := own_pure hown m3;have hB3 := hB.mod m3 id;have hm3 := hm.trans m3;have hT3 := HTT.out.pure m3;have hob := own_block hownA;have HOB := Lib.hid hob;have hzz := m3.size;have HSL3 := Lib.hid (fun p hp => (HSL.out p hp).pure m3);have HS3 := Lib.hid hS3;have HB3 := Lib.hid hB3;have HT3 := Lib.hid hT3;have HM3 := Lib.hid hm3;clear t0 t1 t2 q1 hown hB hm HBC own3 m3 hob hB3 hT3 HTT HSL hS3
    go_wp2_with (at_builtin; refine wpList_append_lies _ rfl _ _ _ rfl base 90 i0 _ 2 40 Tryz.underlying83 hi0 hz0 hz1 hz2 rfl (by omega) (.slice Ao k cap) k (fmV fs) rfl (hownA.alloc _) ⟨w3.heap.size, 0, none⟩ 1 1 [.string ⟨tid.toArray⟩, .slice Ai ni ci] rfl rfl (World.news_of_block (cs := #[.string ⟨tid.toArray⟩, .slice Ai ni ci]) (t := 90) (fr := (0, 0)) (heap_alloc_new w3 _)) (by simp [Value.oneCell']) (by omega) (by simp [maxLen]; omega) (by omega) (by have := hm3.size; simp; omega) (w3.heap.size + 1) (by simp) ?_; intro g5 cap5 w5 hown5 hgrow hat hlt5)
    have hz5 := hgrow.size;simp at hz5;have hg3 := hownA.alloc (.cells #[.string ⟨tid.toArray⟩, .slice Ai ni ci] 90);have pA := pure_alloc w3 (.cells #[.string ⟨tid.toArray⟩, .slice Ai ni ci] 90)
    go_roundg ((topsI l).length - (k + 1))
    case measure => omega
    case rel =>
     refine ⟨k + 1, fs ++ [(tid, .slice Ai ni ci, bs)], some ⟨g5, 0, none⟩, cap5, rfl, by omega, rfl, by simp, by simp [hfl], ?_, ?_, ?_, ?_, ?_, (HM3.out.alloc _).grown hgrow (fun k hk => .inr (by have := HOB.out k hk; omega)), by omega⟩
     ·rw [HFT.out, ← HFS.out];simp [fmS]
     ·rw [fmV_snoc];exact hown5
     ·intro p hp
      rcases List.mem_append.1 hp with hp | hp
      ·exact ((HSL3.out p hp).pure pA).grown hg3 hgrow (by decide)
      ·rw [List.mem_singleton.1 hp];exact (HS3.out.pure pA).grown hg3 hgrow (by decide)
     ·exact (HB3.out.mod pA id).mod (grown_mod hgrow) (fun h => by have := HOB.out _ h; omega)
     ·exact (HT3.out.pure pA).grown (by omega) (by omega) hg3 hgrow
   ·obtain rfl : k = (topsI l).length := by omega
    have hft : fmS fs = famsS l := by
     rw [hfs, List.take_of_length_le];unfold famsS;rw [List.length_map];exact Nat.le_refl _
    have HFT := Lib.hid hft;have HSL := Lib.hid hsl;have HOW := Lib.hid (Sl.of_own hown);clear hft hsl hown hfs hB hT
    go_wp2_with fail
    refine bodyPost_ret (v := .tuple #[.slice Ao (topsI l).length cap, .int .i64 0]) (by simp [results, Tryz.results47, go_sem]) rfl ?_;exact ⟨_, by rw [HE1.out], fun h => absurd HE1.out h, fun _ => ⟨fs, ⟨HOW.out, HSL.out⟩, HFT.out⟩, hm⟩
 ·have h0' : (e1 != 0) = true := by simpa using h0
  have H0 := Lib.hid h0;clear HNT HRT HBT h0
  go_wp2_with fail
  refine bodyPost_ret (v := .tuple #[.slice none 0 0, .int .i64 e1]) (by simp [results, Tryz.results47, go_sem]) rfl ?_;exact ⟨_, by rw [HE1.out], fun _ => rfl, fun h => absurd (HE1.out.symm.trans h) H0.out, m1⟩
end Go.Proofs.YtgfgggeeoeppjaaGreatDoor
/- Whole: the tops of items, the families that are hit. -/
namespace Go.Proofs.YtgfgggeeoeppjaaGreatDoor
open Go.RowKit
def tpI (l : List Itm) (i : Nat) : Nat := (wayI l i).head?.getD i
theorem tpI_top {l : List Itm} {i : Nat} (h : upI l i = none) : tpI l i = i := by simp [tpI, wayI_top h]
theorem wayI_ne (l : List Itm) (i : Nat) : wayI l i ≠ [] := by simp [wayI]
theorem tpI_kid {l : List Itm} (hno : ∀ i, i < l.length → lpB l i = false) {i k : Nat} (hk : k < l.length) (h : upI l k = some i) : tpI l k = tpI l i := by
 unfold tpI;rw [wayI_kid hno hk h]
 cases hw : wayI l i with
 | nil => exact absurd hw (wayI_ne l i)
 | cons a t => rfl
theorem tpI_stp {l : List Itm} (hno : ∀ i, i < l.length → lpB l i = false) : ∀ (j i q : Nat), i < l.length → stp l j i = some q → upI l q = none → tpI l i = q
 | 0, i, q, _, h, hq => by
  simp [stp] at h;subst h;exact tpI_top hq
 | j + 1, i, q, hi, h, hq => by
  cases hu : upI l i with
  | none => simp [stp, hu] at h
  | some p =>
   rw [stp, hu] at h;rw [tpI_kid hno hi hu];exact tpI_stp hno j p q (upI_lt hu) h hq
theorem Right.top_at {l : List Itm} (h : Right l) {x : Nat} (hx : x < l.length) : ∃ m, m < 5 ∧ stp l m x = some (tpI l x) ∧ tpI l x < l.length ∧ upI l (tpI l x) = none := by
 obtain ⟨m, i, h1, h2, h3, h4⟩ := top_of 5 x hx (h.end5 x hx);rw [tpI_stp h.loop m x i hx h3 h4];exact ⟨m, h1, h3, h2, h4⟩
theorem Right.tpI_mem {l : List Itm} (h : Right l) {x : Nat} (hx : x < l.length) : tpI l x ∈ topsI l := by
 obtain ⟨m, _, _, h3, h4⟩ := h.top_at hx;exact mem_topsI.2 ⟨h3, h4⟩
theorem Right.bel_top {l : List Itm} (h : Right l) {t x : Nat} (ht : t ∈ topsI l) : x ∈ belI l 4 t ↔ x < l.length ∧ tpI l x = t := by
 obtain ⟨h1, h2⟩ := mem_topsI.1 ht
 constructor
 ·intro hx;refine ⟨bel_lt 4 t x h1 hx, ?_⟩;obtain ⟨r, hr⟩ := bel_way h.loop 4 t x hx;unfold tpI;rw [hr, wayI_top h2]
  rfl
 ·rintro ⟨hx, rfl⟩;obtain ⟨m, h3, h4, _, _⟩ := h.top_at hx;exact bel_has m 4 _ x (by omega) hx h4
theorem Right.id2_inj {l : List Itm} (h : Right l) {i k : Nat} (hi : i < l.length) (hk : k < l.length) (he : idAt2 l i = idAt2 l k) : i = k := by
 rw [idAt2_eq hi, idAt2_eq hk] at he;exact id_inj h.distinct hi hk he
theorem Right.all_len {l : List Itm} (h : Right l) : ((topsI l).flatMap fun t => belS l 4 t).length = l.length := by
 have h1 := (all_perm h.loop h.end5).length_eq;rw [List.length_range] at h1;rw [← h1, allI];clear h1
 induction topsI l with
 | nil => rfl
 | cons t ts ih =>
  simp only [List.flatMap_cons, List.length_append, ih];simp [belS]
end Go.Proofs.YtgfgggeeoeppjaaGreatDoor
/- The top of an item: tree.top. -/
namespace Go.Proofs.YtgfgggeeoeppjaaGreatDoor
open Go.RowKit
theorem TreeIs.par {w : World} {bi bk : Nat} {vt : Value} {l : List Itm} (h : TreeIs w bi bk vt l) (hR : Right l) {q : Nat} (hq : q < l.length) (hz : l[q].id.length ≤ 1000000) :
  (Instr.lookup 113 (.map (some bi)) (.string ⟨l[q].id.toArray⟩) false).run Tryz.prog w = .ok (itA l[q]) w := by
 have := h.items.lookup Tryz.underlying113 zero_item l[q].id hz;unfold byF at this;rw [fnd_plc (plc_self hR.distinct q hq) hq] at this;exact this
end Go.Proofs.YtgfgggeeoeppjaaGreatDoor
/- found, FamilyOf, Children, Depth of package intake. -/
namespace Go.Proofs.YtgfgggeeoeppjaaGreatDoor
open Go.RowKit
def FdNew (w : World) (g4 bi bk : Nat) (At : Option Addr) (nt ct : Nat) : Prop := Blk w g4 116 #[.map (some bi), .map (some bk), .slice At nt ct]
theorem FdNew.pure {w w' : World} {g4 bi bk : Nat} {At : Option Addr} {nt ct : Nat} (h : FdNew w g4 bi bk At nt ct) (hm : Pure w w') : FdNew w' g4 bi bk At nt ct := Blk.mod h hm id
theorem Mod.set3 (w : World) (g : Nat) (x y z : Value) : Mod (· = g) w (((w.setCell ⟨g, 0, none⟩ x).setCell ⟨g, 1, none⟩ y).setCell ⟨g, 2, none⟩ z) :=
 Mod.setCell (S := fun j => j = g) (p := ⟨g, 2, none⟩) (Mod.setCell (S := fun j => j = g) (p := ⟨g, 1, none⟩) (Mod.setCell (S := fun j => j = g) (p := ⟨g, 0, none⟩) (Mod.refl _ _) (.inl rfl) _) (.inl rfl) _) (.inl rfl) _
end Go.Proofs.YtgfgggeeoeppjaaGreatDoor
/- FamilyOf, Children, Depth of package intake. -/
namespace Go.Proofs.YtgfgggeeoeppjaaGreatDoor
open Go.RowKit
def idxId (l : List Itm) (id : Str) : Nat := (plc l id).getD 0
def fmB (l : List Itm) (id : Str) : List Str := belS l 4 (tpI l (idxId l id))
theorem right_items {l : List Itm} (h : itsE itemE l = 0) : Right l := right_of (E := itemE) (fun _ hx => itemE_ne hx) h
end Go.Proofs.YtgfgggeeoeppjaaGreatDoor
/- What counts for items (plain): the reference's and the program's answer. -/
namespace Go.Proofs.YtgfgggeeoeppjaaGreatDoor
open Go.RowKit
end Go.Proofs.YtgfgggeeoeppjaaGreatDoor
/- Desks, plain: what a desk is after its calls. -/
namespace Go.Proofs.YtgfgggeeoeppjaaGreatDoor
abbrev BatK := Int × Int × Int × Str × List Str
structure DskR where
 fams : List (List Str)
 st : Str → Int
 bats : List BatK
 last : Int
def opnF (st : Str → Int) (f : List Str) : List Str := f.filter fun s => decide (st s = 0)
theorem opnF_take {st : Str → Int} {f : List Str} {k : Nat} (h : k < f.length) : opnF st (f.take (k + 1)) = if st f[k] = 0 then opnF st (f.take k) ++ [f[k]] else opnF st (f.take k) := by
 unfold opnF;rw [List.take_succ_eq_append_getElem h, List.filter_append, List.filter_cons]
 by_cases e : st f[k] = 0
 ·rw [if_pos e, if_pos (by simpa using e)]; rfl
 ·rw [if_neg e, if_neg (by simpa using e)]; simp
theorem opnF_len (st : Str → Int) (f : List Str) : (opnF st f).length ≤ f.length := List.length_filter_le _ _
def takL (st : Str → Int) (most : Int) : List (List Str) → List Str → List Str
 | [], l => l
 | f :: t, l => if l ≠ [] ∧ opnF st f ≠ [] ∧ most < (l.length : Int) + (opnF st f).length then l else takL st most t (l ++ opnF st f)
theorem takL_len (st : Str → Int) (most : Int) : ∀ (fs : List (List Str)) (l : List Str), (takL st most fs l).length ≤ l.length + fs.flatten.length
 | [], l => by simp [takL]
 | f :: t, l => by
  unfold takL
  split
  ·simp
  ·have h1 := takL_len st most t (l ++ opnF st f);have h2 := opnF_len st f;simp only [List.length_append, List.flatten_cons] at h1 ⊢
   omega
theorem takL_mem {st : Str → Int} {most : Int} {P : Str → Prop} : ∀ (fs : List (List Str)) (l : List Str), (∀ s ∈ l, P s) → (∀ f ∈ fs, ∀ s ∈ f, P s) → ∀ s ∈ takL st most fs l, P s
 | [], l, h, _ => h
 | f :: t, l, h, hf => by
  unfold takL
  split
  ·exact h
  ·refine takL_mem t _ (fun s hs => ?_) (fun g hg => hf g (List.mem_cons_of_mem _ hg))
   rcases List.mem_append.1 hs with h1 | h1
   ·exact h s h1
   ·exact hf f (List.mem_cons_self) s (List.mem_filter.1 h1).1
def dTake (d : DskR) (rev : Str) (at_ most : Int) : DskR :=
 let l := takL d.st most d.fams []
 ⟨d.fams, fun s => if s ∈ l then (d.bats.length : Int) + 1 else d.st s, d.bats ++ [((d.bats.length : Int) + 1, at_, -1, rev, l)], at_⟩
def lftL (st : Str → Int) (fs : List (List Str)) : List Str := fs.flatMap (opnF st)
theorem lftL_take {st : Str → Int} {fs : List (List Str)} {k : Nat} (h : k < fs.length) : lftL st (fs.take (k + 1)) = lftL st (fs.take k) ++ opnF st fs[k] := by
 unfold lftL;rw [List.take_succ_eq_append_getElem h, List.flatMap_append];simp
theorem lftL_len (st : Str → Int) : ∀ fs : List (List Str), (lftL st fs).length ≤ fs.flatten.length
 | [] => by simp [lftL]
 | f :: t => by
  have h1 := lftL_len st t;have h2 := opnF_len st f;unfold lftL at h1 ⊢;rw [List.flatMap_cons, List.length_append, List.flatten_cons, List.length_append]
  omega
theorem flatten_take_len {fs : List (List Str)} (k : Nat) : (fs.take k).flatten.length ≤ fs.flatten.length := by
 have h : fs.flatten = (fs.take k).flatten ++ (fs.drop k).flatten := by rw [← List.flatten_append, List.take_append_drop]
 rw [h, List.length_append]
 omega
def pst (x : Int) : Int := if x = 0 then 0 else if x < 0 then 2 else 1
theorem pst_zero (x : Int) : pst x = 0 ↔ x = 0 := by
 unfold pst
 split
 ·simp [*]
 ·split <;> simp [*]
structure DkOk (ids : List Str) (d : DskR) : Prop where
 nd : ids.Nodup
 il : ids.length ≤ 1000
 sl : ∀ s ∈ ids, s.length ≤ 1000
 fi : ∀ f ∈ d.fams, ∀ s ∈ f, s ∈ ids
 fl : d.fams.flatten.length ≤ 1000
 fn : d.fams.length ≤ 1000
 bl : d.bats.length ≤ 1000
 inn : ∀ b ∈ d.bats, b.2.2.1 = -1 ∨ 0 ≤ b.2.2.1
 bi : ∀ b ∈ d.bats, ∀ s ∈ b.2.2.2.2, s ∈ ids
 bz : ∀ b ∈ d.bats, b.2.2.2.2.length ≤ 1000
theorem len_flatten {fs : List (List Str)} {f : List Str} (h : f ∈ fs) : f.length ≤ fs.flatten.length := by
 obtain ⟨a, b, rfl⟩ := List.append_of_mem h;simp
 omega
end Go.Proofs.YtgfgggeeoeppjaaGreatDoor
/- The closures of Spread: what an item has of its own; the first of some. -/
namespace Go.Proofs.YtgfgggeeoeppjaaGreatDoor
open Go.RowKit
def CodR.sl (x : CodR) : Value := .slice x.A x.vals.length x.c
end Go.Proofs.YtgfgggeeoeppjaaGreatDoor
/- FamiliesOf: what its second loop keeps. -/
namespace Go.Proofs.YtgfgggeeoeppjaaGreatDoor
open Go.RowKit
def famT (l : List Itm) (f : List (Nat × List Nat)) : List (Str × List Str) := f.map fun p => (idAt2 l p.1, p.2.map (idAt2 l))
theorem famT_all (l : List Itm) : famT l (famsI l) = famsS l := by simp [famT, famsI, famsS, belS]
def foldK (l : List Itm) (k : Nat) : List (Nat × List Nat) := ((allI l).take k).foldl (famStep l) []
theorem foldK_all (l : List Itm) : famT l (foldK l (allI l).length) = famsS l := by
 unfold foldK;rw [List.take_length, fam_fold, famT_all]
theorem foldK_succ {l : List Itm} {k : Nat} (h : k < (allI l).length) : foldK l (k + 1) = famStep l (foldK l k) (allI l)[k] := by
 unfold foldK;rw [List.take_succ_eq_append_getElem h, List.foldl_append]
 rfl
theorem all_first (l : List Itm) (h : 0 < (allI l).length) : upI l (allI l)[0] = none := by
 cases ht : topsI l with
 | nil => simp [allI, ht] at h
 | cons t ts =>
  have e : (allI l)[0]? = some t := by
   rw [allI, ht, List.flatMap_cons]
   rfl
  rw [List.getElem?_eq_getElem h] at e
  injection e with e
  rw [e];exact (mem_topsI.1 (by rw [ht]; simp)).2
theorem famStep_ne {l : List Itm} {f : List (Nat × List Nat)} {i : Nat} (h : f ≠ []) : famStep l f i ≠ [] := by
 unfold famStep
 split
 ·simp
 ·cases hf : f.getLast? with
  | none => exact h
  | some p => simp
theorem foldK_ne {l : List Itm} : ∀ {k : Nat}, 0 < k → k ≤ (allI l).length → foldK l k ≠ []
 | 1, _, h => by
  rw [foldK_succ (by omega)];unfold famStep;rw [if_pos (all_first l (by omega))];simp [foldK]
 | k + 2, _, h => by
  rw [foldK_succ (by omega)];exact famStep_ne (foldK_ne (by omega) (by omega))
theorem famT_top {l : List Itm} {f : List (Nat × List Nat)} {i : Nat} (h : upI l i = none) : famT l (famStep l f i) = famT l f ++ [(idAt2 l i, [idAt2 l i])] := by
 unfold famStep;rw [if_pos h];simp [famT]
theorem famT_kid {l : List Itm} {f : List (Nat × List Nat)} {i : Nat} (h : upI l i ≠ none) {fs0 : List (Str × List Str)} {p : Str × List Str} (hf : famT l f = fs0 ++ [p]) : famT l (famStep l f i) = fs0 ++ [(p.1, p.2 ++ [idAt2 l i])] := by
 have hne : f ≠ [] := by rintro rfl; simp [famT] at hf
 obtain ⟨f0, q, rfl⟩ : ∃ f0 q, f = f0 ++ [q] := ⟨f.dropLast, f.getLast hne, (List.dropLast_concat_getLast hne).symm⟩;unfold famStep;rw [if_neg h];unfold famT at hf ⊢;rw [List.map_append, List.map_cons, List.map_nil] at hf;obtain ⟨h1, h2⟩ := List.append_inj' hf (by simp);simp at h2;subst h1;subst h2;simp
def FoOwn (w : World) (base : Nat) (vo : Value) (fs : List Fm) : Prop :=
 w.ownsRow base 90 2 vo fs.length (fmV fs) ∧
 (fs = [] ∨ ∃ fs0 p bl, fs = fs0 ++ [p] ∧ base ≤ bl ∧ bl ≤ w.heap.size ∧ (∀ q ∈ fs0, SlU w bl q.2.1 q.2.2) ∧ w.ownsRow bl 9 1 p.2.1 p.2.2.length (strsV p.2.2))
theorem FoOwn.all {w : World} {base : Nat} {vo : Value} {fs : List Fm} (h : FoOwn w base vo fs) : ∀ q ∈ fs, SlU w w.heap.size q.2.1 q.2.2 := by
 rcases h.2 with rfl | ⟨fs0, p, bl, rfl, h1, h1', h2, h3⟩
 ·intro q hq; cases hq
 ·intro q hq
  rcases List.mem_append.1 hq with hq | hq
  ·exact (h2 q hq).up h1'
  ·rw [List.mem_singleton.1 hq];exact SlU.of_own h3
theorem FoOwn.fm {w : World} {base : Nat} {vo : Value} {fs : List Fm} (h : FoOwn w base vo fs) : FmR w vo fs := ⟨Sl.of_own h.1, fun p hp => (h.all p hp).1⟩
theorem FoOwn.pure {w w' : World} {base : Nat} {vo : Value} {fs : List Fm} (h : FoOwn w base vo fs) (hm : Pure w w') : FoOwn w' base vo fs := by
 refine ⟨own_pure h.1 hm, ?_⟩
 rcases h.2 with rfl | ⟨fs0, p, bl, rfl, h1, h1', h2, h3⟩
 ·exact .inl rfl
 ·exact .inr ⟨fs0, p, bl, rfl, h1, Nat.le_trans h1' hm.size, fun q hq => (h2 q hq).mod hm (fun _ _ _ => id), own_pure h3 hm⟩
theorem FoOwn.top {w w5 : World} {base n' : Nat} {vo v5 : Value} {fs : List Fm} {id : Str} (h : FoOwn w base vo fs) (hg : w.grownBy w5 vo.ownBlock) (hn : n' = fs.length + 1) (hown : w5.ownsRow base 90 2 v5 n' (fmV fs ++ [.string ⟨id.toArray⟩, nilS])) (hb : base ≤ w.heap.size) : FoOwn w5 base v5 (fs ++ [(id, nilS, [])]) := by
 subst hn;refine ⟨?_, .inr ⟨fs, _, w5.heap.size, rfl, Nat.le_trans hb hg.size, Nat.le_refl _, fun q hq => ?_, ?_⟩⟩
 ·rw [fmV_snoc]
  simpa using hown
 ·exact ((h.all q hq).grown h.1 (by decide) hg).up hg.size
 ·exact ⟨by simp [strsV], .inl ⟨rfl, rfl⟩⟩
theorem fmV_set (fs0 : List Fm) (p : Fm) (v : Value) (ids : List Str) : (fmV (fs0 ++ [p])).set (fs0.length * 2 + 1) v = fmV (fs0 ++ [(p.1, v, ids)]) := by
 rw [fmV_snoc, fmV_snoc, ← fmV_len, List.set_append_right _ _ (by omega)];simp
structure FoLast (w : World) (base g cap bl : Nat) (fs0 : List Fm) (t : Str) (v : Value) (ids : List Str) : Prop where
 out : w.ownsRow base 90 2 (.slice (some ⟨g, 0, none⟩) (fs0.length + 1) cap) (fs0.length + 1) (fmV (fs0 ++ [(t, v, ids)]))
 b1 : base ≤ bl
 b2 : bl ≤ w.heap.size
 old : ∀ q ∈ fs0, SlU w bl q.2.1 q.2.2
 own : w.ownsRow bl 9 1 v ids.length (strsV ids)
section
variable {w w' : World} {base g cap bl : Nat} {fs0 : List Fm} {t : Str} {v : Value} {ids : List Str}
theorem FoLast.pure (h : FoLast w base g cap bl fs0 t v ids) (hm : Pure w w') : FoLast w' base g cap bl fs0 t v ids :=
 ⟨own_pure h.out hm, h.b1, Nat.le_trans h.b2 hm.size, fun q hq => (h.old q hq).mod hm (fun _ _ _ => id), own_pure h.own hm⟩
theorem FoLast.cell (h : FoLast w base g cap bl fs0 t v ids) : w.cell? ⟨g, fs0.length * 2 + 1, none⟩ = some v := by
 rw [h.out.cellAt _ (by omega)];have := (fmV_get (fs0 ++ [(t, v, ids)]) fs0.length (by simp)).2
 simpa using this
theorem FoLast.lt (h : FoLast w base g cap bl fs0 t v ids) : base ≤ g ∧ g < w.heap.size := h.out.lt g rfl
theorem FoOwn.last {vo : Value} {fs : List Fm} (h : FoOwn w base vo fs) (hne : fs ≠ []) : ∃ fs0 t A ids c g cap bl, fs = fs0 ++ [(t, .slice A ids.length c, ids)] ∧ vo = .slice (some ⟨g, 0, none⟩) (fs0.length + 1) cap ∧ FoLast w base g cap bl fs0 t (.slice A ids.length c) ids := by
 rcases h.2 with rfl | ⟨fs0, ⟨t, v, ids⟩, bl, rfl, h1, h1', h2, h3⟩
 ·exact absurd rfl hne
 ·have ho := h.1
  rcases ho.2 with ⟨_, h0⟩ | ⟨g, cap, cur, hv, r⟩
  ·simp at h0
  ·simp only [List.length_append, List.length_cons, List.length_nil, Nat.zero_add] at hv ho;subst hv;obtain ⟨A, n, c, rfl⟩ := (Sl.of_own h3).form;have hn : ids.length = n := (Sl.of_own h3).lenS;subst hn;exact ⟨fs0, t, A, ids, c, g, cap, bl, rfl, rfl, ho, h1, h1', h2, h3⟩
def FoPre (zw : World) (base g cap bl : Nat) (fs0 : List Fm) (t : Str) (v : Value) (ids : List Str) (id : Str) (v5 : Value) : Prop :=
 ∃ W n', FoLast W base g cap bl fs0 t v ids ∧ W.grownBy zw v.ownBlock ∧ n' = ids.length + 1 ∧ zw.ownsRow bl 9 1 v5 n' (strsV ids ++ [.string ⟨id.toArray⟩])
theorem grownBy_pure {W w w' : World} {row : Option Nat} (h : W.grownBy w row) (hm : Pure w w') : W.grownBy w' row :=
 ⟨hm.os.trans h.os, hm.tape.trans h.tape, hm.output.trans h.output, Nat.le_trans h.size hm.size, fun k hk hr => (hm.block k (Nat.lt_of_lt_of_le hk h.size) id).trans (h.block k hk hr)⟩
variable {id : Str} {v5 : Value}
theorem FoPre.pure (h : FoPre w base g cap bl fs0 t v ids id v5) (hm : Pure w w') : FoPre w' base g cap bl fs0 t v ids id v5 := by
 obtain ⟨W, n', h1, h2, h3, h4⟩ := h;exact ⟨W, n', h1, grownBy_pure h2 hm, h3, own_pure h4 hm⟩
theorem FoPre.outs (h : FoPre w base g cap bl fs0 t v ids id v5) : w.ownsRow base 90 2 (.slice (some ⟨g, 0, none⟩) (fs0.length + 1) cap) (fs0.length + 1) (fmV (fs0 ++ [(t, v, ids)])) := by
 obtain ⟨W, n', h1, h2, h3, h4⟩ := h;exact own_grown h1.out h1.own (by decide) h2
theorem FoPre.cell (h : FoPre w base g cap bl fs0 t v ids id v5) : w.cell? ⟨g, fs0.length * 2 + 1, none⟩ = some v := by
 rw [h.outs.cellAt _ (by omega)];have := (fmV_get (fs0 ++ [(t, v, ids)]) fs0.length (by simp)).2
 simpa using this
theorem FoPre.store (h : FoPre w base g cap bl fs0 t v ids id v5) : FoOwn (w.setCell ⟨g, fs0.length * 2 + 1, none⟩ v5) base (.slice (some ⟨g, 0, none⟩) (fs0.length + 1) cap) (fs0 ++ [(t, v5, ids ++ [id])]) := by
 have ho5 := h.outs;obtain ⟨W, n', hL, hg, hn, hown⟩ := h;subst hn;obtain ⟨hs, hgr⟩ := ho5.stored (fs0.length * 2 + 1) v5;rw [fmV_set _ _ _ (ids ++ [id])] at hs;refine ⟨by simpa using hs, .inr ⟨fs0, _, bl, rfl, hL.b1, Nat.le_trans hL.b2 (Nat.le_trans hg.size hgr.size), fun q hq => ?_, ?_⟩⟩
 ·have h4 : SlU w bl q.2.1 q.2.2 := (hL.old q hq).mod (grown_mod hg) (fun g' _ hl he => by have := (hL.own.lt g' he).1; omega);exact h4.grown ho5 (by decide) hgr
 ·have := own_grown hown ho5 (by decide) hgr
  simpa [strsV] using this
end
theorem foldK_len {l : List Itm} : ∀ {k : Nat}, k ≤ (allI l).length → (foldK l k).length ≤ k ∧ ∀ p ∈ foldK l k, p.2.length ≤ k
 | 0, _ => by simp [foldK]
 | k + 1, h => by
  obtain ⟨h1, h2⟩ := foldK_len (l := l) (k := k) (by omega);rw [foldK_succ (by omega)];generalize foldK l k = f at *;unfold famStep
  split
  ·refine ⟨by simp; omega, fun p hp => ?_⟩
   rcases List.mem_append.1 hp with hp | hp
   ·exact Nat.le_succ_of_le (h2 p hp)
   ·rw [List.mem_singleton.1 hp];simp
  ·cases hf : f.getLast? with
   | none => exact ⟨by show f.length ≤ _; omega, fun p hp => Nat.le_succ_of_le (h2 p hp)⟩
   | some q =>
    have hq := h2 q (List.mem_of_getLast? hf);refine ⟨by simp; omega, fun p hp => ?_⟩
    rcases List.mem_append.1 hp with hp | hp
    ·exact Nat.le_succ_of_le (h2 p (List.dropLast_subset f hp))
    ·rw [List.mem_singleton.1 hp];simp
     omega
theorem fo_len {l : List Itm} {fs : List Fm} {k : Nat} (hk : k ≤ (allI l).length) (h : fmS fs = famT l (foldK l k)) : fs.length ≤ k ∧ ∀ p ∈ fs, p.2.2.length ≤ k := by
 obtain ⟨h1, h2⟩ := foldK_len hk;have hl := congrArg List.length h;simp [fmS, famT] at hl;refine ⟨by omega, fun p hp => ?_⟩
 have : (p.1, p.2.2) ∈ famT l (foldK l k) := by
  rw [← h];exact List.mem_map.2 ⟨p, hp, rfl⟩
 unfold famT at this;obtain ⟨q, hq, he⟩ := List.mem_map.1 this
 injection he with _ he
 rw [← he, List.length_map];exact h2 q hq
end Go.Proofs.YtgfgggeeoeppjaaGreatDoor
