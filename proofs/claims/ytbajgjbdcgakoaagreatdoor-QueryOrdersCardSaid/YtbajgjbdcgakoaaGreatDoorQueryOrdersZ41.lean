/- Texts of the proof of QueryOrders, put together: LayVal, LayCon, VisA, TxtR, ItmE, ItlP, ItxP, IhdP, QryT, LayCln, ClnC, RdA, RdC, RdD, LayWra, LayAto, LayIto, NumW, EscA, LaySyn, EscB, UnqA, IhdW, LayCut, LnsB, QrL, QrM, QryU, QrO, LayInt, SorI, RunD, RunE, RunG, QrP. -/
import Derived.Test.YtbajgjbdcgakoaaGreatDoorQueryOrdersZ2
import Derived.Test.YtbajgjbdcgakoaaGreatDoorQueryOrdersZ5
import Derived.Test.YtbajgjbdcgakoaaGreatDoorQueryOrdersZ9
import Derived.Test.YtbajgjbdcgakoaaGreatDoorQueryOrdersZ12
import Derived.Test.YtbajgjbdcgakoaaGreatDoorQueryOrdersZ17
import Derived.Test.YtbajgjbdcgakoaaGreatDoorQueryOrdersZ19
import Derived.Test.YtbajgjbdcgakoaaGreatDoorQueryOrdersZ20
import Derived.Test.YtbajgjbdcgakoaaGreatDoorQueryOrdersZ21
import Derived.Test.YtbajgjbdcgakoaaGreatDoorQueryOrdersZ24
import Derived.Test.YtbajgjbdcgakoaaGreatDoorQueryOrdersZ25
import Derived.Test.YtbajgjbdcgakoaaGreatDoorQueryOrdersZ27
import Derived.Test.YtbajgjbdcgakoaaGreatDoorQueryOrdersZ30
import Derived.Test.YtbajgjbdcgakoaaGreatDoorQueryOrdersZ31
import Derived.Test.YtbajgjbdcgakoaaGreatDoorQueryOrdersZ32
import Derived.Test.YtbajgjbdcgakoaaGreatDoorQueryOrdersZ33
import Derived.Test.YtbajgjbdcgakoaaGreatDoorQueryOrdersZ34
import Derived.Test.YtbajgjbdcgakoaaGreatDoorQueryOrdersZ35
import Derived.Test.YtbajgjbdcgakoaaGreatDoorQueryOrdersZ39
import Derived.Test.YtbajgjbdcgakoaaGreatDoorQueryOrdersZ40
import Derived.Ground.NamesProg
import Derived.Shelf.Unicode.ValidAny
import Derived.Test.YtbajgjbdcgakoaaGreatDoorProg
import Derived.Shelf.Strings.Search3
import Derived.Shelf.Strings.Prefix
import Derived.Lib.Join
import Derived.Lib.ItoaLen
import Derived.Ground.Names2Prog
import Derived.Shelf.Slices.Clone
import Derived.Deep.AppendLies
import Derived.Shelf.Strings.Fields
import Derived.Lib.LaidTab
import Derived.Deep.DeepCutAuto
import Derived.Deep.CutBlock
import Derived.Shelf.Small.Wraps
import Derived.Shelf.Strconv.Atoi
import Derived.Shelf.Strconv.Itoa3
import Derived.Lib.SmallJoins
import Derived.Lib.QuietBelow
import Derived.Lib.ConvBytes
import Derived.Shelf.Strconv.SyntaxError
import Derived.Shelf.LaysM
import Derived.Laws.BytesArg
import Derived.Shelf.Strings.Cut
import Derived.Lib.IndexAny
import Derived.Shelf.Sort.Plain
import Derived.Shelf.Slices.In.SortNone
import Derived.Shelf.Slices.CompactI
import Derived.Sort.OwnSorted
import Derived.Deep.RegionLaw
import Derived.Deep.QuietTactic
import Derived.BigQuiet
/-
 DERIVED: THE SHELF's CONTRACTS AT THIS DUMP, IN PLAIN WORDS (tools/lay-plain.mjs out of 'YtbajgjbdcgakoaaGreatDoorLayVal.lean', which tools/lay-shelf.mjs wrote): THE SAME DECLARATIONS UNDER THE SAME NAMES: 'import', 'namespace', 'open', 'def', 'theorem' AND NOTHING ELSE: no command of the shelf's: FOR A HAND-IN. Each laying: the table of numbers ('.._ren') and one theorem, a field a fact of the dump's own or the kernel's comparison; each contract: ONE APPLICATION.
-/
namespace Go.Proofs
open Go.Shelf
def Tryz.lays196_ren : Go.Shelf.Ren := ⟨fun | 196 => 184 | 259 => 207 | n => n, fun | 9 => 9 | 4 => 4 | 3 => 3 | 5 => 5 | 12 => 12 | 119 => 213 | 0 => 0 | 46 => 56 | 139 => 216 | 138 => 215 | 53 => 90 | n => n, fun | 3 => 2 | 4 => 3 | n => n⟩
theorem Tryz.lays196 : Go.Proofs.Lays.n196 Tryz.prog Tryz.lays196_ren := {
 mixed := by kernel_rfl
 f196 := Tryz.func184.trans (congrArg some (by kernel_rfl))
 f259 := Tryz.func207.trans (congrArg some (by kernel_rfl))
 t0 := Tryz.underlying0
 a0 := Tryz.isAgg0
 z0 := Tryz.sizeOf0
 v0 := Tryz.zeroValue0
 t3 := Tryz.underlying3
 a3 := Tryz.isAgg3
 z3 := Tryz.sizeOf3
 v3 := Tryz.zeroValue3
 t4 := Tryz.underlying4
 a4 := Tryz.isAgg4
 z4 := Tryz.sizeOf4
 v4 := Tryz.zeroValue4
 t5 := Tryz.underlying5
 a5 := Tryz.isAgg5
 z5 := Tryz.sizeOf5
 v5 := Tryz.zeroValue5
 t9 := Tryz.underlying9
 a9 := Tryz.isAgg9
 z9 := Tryz.sizeOf9
 v9 := Tryz.zeroValue9
 t12 := Tryz.underlying12
 a12 := Tryz.isAgg12
 z12 := Tryz.sizeOf12
 v12 := Tryz.zeroValue12
 t46 := Tryz.underlying56
 a46 := Tryz.isAgg56
 z46 := Tryz.sizeOf56
 v46 := Tryz.zeroValue56
 t53 := Tryz.underlying90
 a53 := Tryz.isAgg90
 z53 := Tryz.sizeOf90
 v53 := Tryz.zeroValue90
 t119 := Tryz.underlying213
 a119 := Tryz.isAgg213
 z119 := Tryz.sizeOf213
 t138 := Tryz.underlying215
 a138 := Tryz.isAgg215
 z138 := Tryz.sizeOf215
 v138 := Tryz.zeroValue215
 t139 := Tryz.underlying216
 a139 := Tryz.isAgg216
 z139 := Tryz.sizeOf216
 v139 := Tryz.zeroValue216
 g3 := by kernel_rfl
 g4 := by kernel_rfl }
end Go.Proofs

/-
 DERIVED: THE SHELF's CONTRACTS AT THIS DUMP, IN PLAIN WORDS (tools/lay-plain.mjs out of 'YtbajgjbdcgakoaaGreatDoorLayCon.lean', which tools/lay-shelf.mjs wrote): THE SAME DECLARATIONS UNDER THE SAME NAMES: 'import', 'namespace', 'open', 'def', 'theorem' AND NOTHING ELSE: no command of the shelf's: FOR A HAND-IN. Each laying: the table of numbers ('.._ren') and one theorem, a field a fact of the dump's own or the kernel's comparison; each contract: ONE APPLICATION.
-/
namespace Go.Proofs
open Go.Shelf
def Tryz.lays144_ren : Go.Shelf.Ren := ⟨fun | 144 => 152 | 143 => 187 | 219 => 202 | 217 => 170 | 225 => 181 | 224 => 180 | 267 => 215 | 266 => 198 | 314 => 223 | n => n, fun | 9 => 9 | 4 => 4 | 3 => 3 | 5 => 5 | 46 => 56 | 146 => 88 | 51 => 87 | n => n, fun | 1 => 1 | n => n⟩
theorem Tryz.lays144 : Go.Proofs.Lays.n144 Tryz.prog Tryz.lays144_ren := {
 mixed := by kernel_rfl
 f143 := Tryz.func187.trans (congrArg some (by kernel_rfl))
 f144 := Tryz.func152.trans (congrArg some (by kernel_rfl))
 f217 := Tryz.func170.trans (congrArg some (by kernel_rfl))
 f219 := Tryz.func202.trans (congrArg some (by kernel_rfl))
 f224 := Tryz.func180.trans (congrArg some (by kernel_rfl))
 f225 := Tryz.func181.trans (congrArg some (by kernel_rfl))
 f266 := Tryz.func198.trans (congrArg some (by kernel_rfl))
 f267 := Tryz.func215.trans (congrArg some (by kernel_rfl))
 f314 := Tryz.func223.trans (congrArg some (by kernel_rfl))
 t3 := Tryz.underlying3
 a3 := Tryz.isAgg3
 z3 := Tryz.sizeOf3
 v3 := Tryz.zeroValue3
 t4 := Tryz.underlying4
 a4 := Tryz.isAgg4
 z4 := Tryz.sizeOf4
 v4 := Tryz.zeroValue4
 t5 := Tryz.underlying5
 a5 := Tryz.isAgg5
 z5 := Tryz.sizeOf5
 v5 := Tryz.zeroValue5
 t9 := Tryz.underlying9
 a9 := Tryz.isAgg9
 z9 := Tryz.sizeOf9
 v9 := Tryz.zeroValue9
 t46 := Tryz.underlying56
 a46 := Tryz.isAgg56
 z46 := Tryz.sizeOf56
 v46 := Tryz.zeroValue56
 t51 := Tryz.underlying87
 a51 := Tryz.isAgg87
 z51 := Tryz.sizeOf87
 v51 := Tryz.zeroValue87
 t146 := Tryz.underlying88
 a146 := Tryz.isAgg88
 z146 := Tryz.sizeOf88
 v146 := Tryz.zeroValue88
 g1 := by kernel_rfl }
def Tryz.lays100_ren : Go.Shelf.Ren := ⟨fun | 100 => 151 | 207 => 186 | n => n, fun | 9 => 9 | 4 => 4 | 3 => 3 | n => n, fun | n => n⟩
theorem Tryz.lays100 : Go.Proofs.Lays.n100 Tryz.prog Tryz.lays100_ren := {
 mixed := by kernel_rfl
 f100 := Tryz.func151.trans (congrArg some (by kernel_rfl))
 f207 := Tryz.func186.trans (congrArg some (by kernel_rfl))
 t3 := Tryz.underlying3
 a3 := Tryz.isAgg3
 z3 := Tryz.sizeOf3
 v3 := Tryz.zeroValue3
 t4 := Tryz.underlying4
 a4 := Tryz.isAgg4
 z4 := Tryz.sizeOf4
 v4 := Tryz.zeroValue4
 t9 := Tryz.underlying9
 a9 := Tryz.isAgg9
 z9 := Tryz.sizeOf9
 v9 := Tryz.zeroValue9 }
def Tryz.layc99_ren : Go.Shelf.Ren := ⟨fun | 99 => 150 | 206 => 185 | n => n, fun | 9 => 9 | 4 => 4 | 3 => 3 | n => n, fun | n => n⟩
theorem Tryz.layc99 : Go.Proofs.Lays.n99 Tryz.prog Tryz.layc99_ren := {
 mixed := by kernel_rfl
 f99 := Tryz.func150.trans (congrArg some (by kernel_rfl))
 f206 := Tryz.func185.trans (congrArg some (by kernel_rfl))
 t3 := Tryz.underlying3
 a3 := Tryz.isAgg3
 z3 := Tryz.sizeOf3
 v3 := Tryz.zeroValue3
 t4 := Tryz.underlying4
 a4 := Tryz.isAgg4
 z4 := Tryz.sizeOf4
 v4 := Tryz.zeroValue4
 t9 := Tryz.underlying9
 a9 := Tryz.isAgg9
 z9 := Tryz.sizeOf9
 v9 := Tryz.zeroValue9 }
end Go.Proofs

/- Strings of items: what the program and the reference say of them. -/
namespace Go.Proofs.YtbajgjbdcgakoaaGreatDoor
set_option linter.unusedVariables false
set_option linter.unusedSimpArgs false
open Go.RowKit

/-- The tables of UTF-8. -/
def Utf (w : World) : Prop := Lib.Utf8Tabs 2 3 w
/-- The library's variable MaxLen holds some number. -/
def Mln (w : World) : Prop := ∃ m : Int, w.cell? ⟨1, 0, none⟩ = some (.int .i64 m)
def Env (w : World) : Prop := Utf w ∧ Mln w
theorem Utf.pure {w w' : World} (h : Utf w) (hm : Pure w w') : Utf w' := Utf8Tabs_below h hm.below
theorem Mln.pure {w w' : World} (h : Mln w) (hm : Pure w w') : Mln w' := by
 obtain ⟨m, h⟩ := h
 exact ⟨m, hm.keep h id⟩
theorem Env.pure {w w' : World} (h : Env w) (hm : Pure w w') : Env w' := ⟨h.1.pure hm, h.2.pure hm⟩
theorem Env.alloc {w : World} (h : Env w) (o : Obj) : Env (w.alloc o) := h.pure ((Mod.refl _ _).alloc o)
theorem valid_calls (w : World) (s : ByteArray) (hs : s.size ≤ 1000000) (hU : Utf w) : Calls Tryz.prog 184 #[.string s] w (BoolPost w (Lib.validD s.data.toList)) := by
 refine (Any.utf8_ValidString Tryz.lays196 s w (by omega) hU).mono ?_
 rintro e w' ⟨rfl, h⟩
 exact ⟨rfl, Mod.of_below h⟩
theorem contains_calls (w : World) (s t : ByteArray) (hs : s.size ≤ 1000000) (hM : Mln w) : Calls Tryz.prog 152 #[.string s, .string t] w (BoolSame w (Lib.contains s.data.toList t.data.toList)) := by
 obtain ⟨m, hm⟩ := hM
 refine (Any.strings_Contains Tryz.lays144 s t m w (by omega) hm).mono ?_
 rintro e w' ⟨rfl, h⟩
 exact ⟨rfl, h.symm⟩
theorem suffix_calls (w : World) (s t : ByteArray) (hs : s.size ≤ 1000000) : Calls Tryz.prog 151 #[.string s, .string t] w (BoolSame w (Lib.hasSuffix s.data.toList t.data.toList)) := by
 refine (Any.strings_HasSuffix Tryz.lays100 s t w (by omega)).mono ?_
 rintro e w' ⟨rfl, h⟩
 exact ⟨rfl, h.symm⟩
theorem pfx_calls (w : World) (s t : ByteArray) : Calls Tryz.prog 150 #[.string s, .string t] w (BoolSame w (Lib.hasPrefix s.data.toList t.data.toList)) := by
 refine (Any.strings_HasPrefix Tryz.layc99 s t w).mono ?_
 rintro e w' ⟨rfl, h⟩
 exact ⟨rfl, h.symm⟩
theorem visB_false (f : Bool) (l : Str) (k : Nat) (h : k < l.length) (hk : visC f l[k].toNat = false) : visB f l = false := by
 unfold visB
 rw [List.all_eq_false]
 exact ⟨l[k], List.getElem_mem h, by simp [hk]⟩

set_option maxRecDepth 100000 in
set_option maxHeartbeats 2000000 in
theorem visible_calls (w : World) (s : ByteArray) (f : Bool) (hs : s.size ≤ 1000000) (hU : Utf w) : Calls Tryz.prog 149 #[.string s, .bool f] w (BoolPost w (visB f s.data.toList && Lib.validD s.data.toList)) := by
 have hls : s.data.toList.length = s.size := by simp
 have HLS := Lib.hid hls
 have HV := Lib.hid (valid_calls w s hs hU)
 clear hls hU
 go_enter Tryz.func149, Tryz.ntmps149
 go_wp2_with fail
 go_loopg [9] s.size (fun gk i wr => ∃ k : Nat, s.size - k = gk ∧ k ≤ s.size ∧ i = .int .i64 (k : Int) ∧ visB f (s.data.toList.take k) = true ∧ w = wr)
 case atStart => exact ⟨0, by omega, by omega, rfl, rfl, rfl⟩
 case round =>
  obtain ⟨k, rfl, hk, rfl, hall, rfl⟩ := hrel
  have HA := Lib.hid hall
  clear hall
  by_cases hlt : k < s.size
  ·have hl : k < s.data.toList.length := by rw [HLS.out]; exact hlt
   have hsn := visB_snoc f s.data.toList k hl
   have hfa := visB_false f s.data.toList k hl
   have hidx : s.data.toList[k] = s[k] := by simp; rfl
   rw [hidx] at hsn hfa
   have NO : Hid (visC f s[k].toNat = false → (visB f s.data.toList && Lib.validD s.data.toList) = false) := Lib.hid (fun h => by rw [hfa h]; rfl)
   have OK : Hid (visC f s[k].toNat = true → visB f (s.data.toList.take (k + 1)) = true) := Lib.hid (fun h => by rw [hsn, HA.out, h]; rfl)
   clear hsn hfa hidx HV
   generalize (visB f s.data.toList && Lib.validD s.data.toList) = ans at *
   generalize hc : s[k].toNat = c at *
   by_cases h1 : (c : Int) < 32
   ·have h3 : ((c : Int) == 127) = false := by simp; omega
    by_cases h2 : c = 10
    ·subst h2
     cases f
     ·go_wp2_with fail
      go_ret
      exact BoolPost.of (NO.out (by decide)) (Mod.refl _ _)
     ·go_wp2_with fail
      go_roundg (s.size - (k + 1))
      case measure => omega
      case rel => exact ⟨k + 1, rfl, hlt, by simp, OK.out (by decide), rfl⟩
    ·have h2' : ((c : Int) == 10) = false := by simp; omega
     have hx : visC f c = false := by
      unfold visC
      rw [decide_eq_true (by omega : c < 32), show (c == 10) = false by simpa using h2]
      simp
     cases f
     all_goals
      go_wp2_with fail
      go_ret
      exact BoolPost.of (NO.out hx) (Mod.refl _ _)
   ·by_cases h2 : c = 127
    ·subst h2
     have hx : visC f 127 = false := by cases f <;> decide
     go_wp2_with fail
     go_ret
     exact BoolPost.of (NO.out hx) (Mod.refl _ _)
    ·have h2' : ((c : Int) == 127) = false := by simp; omega
     have hx : visC f c = true := by
      unfold visC
      rw [decide_eq_false (by omega : ¬ c < 32), show (c == 127) = false by simpa using h2]
      simp
     go_wp2_with fail
     go_roundg (s.size - (k + 1))
     case measure => omega
     case rel => exact ⟨k + 1, rfl, hlt, by simp, OK.out hx, rfl⟩
  ·have hke : k = s.size := by omega
   subst hke
   have hall : visB f s.data.toList = true := by
    have := HA.out
    rwa [List.take_of_length_le (by rw [HLS.out]; omega)] at this
   go_wp2_with fail
   refine HV.out.mono ?_
   rintro e w1 ⟨rfl, hm⟩
   have HX : Hid ((visB f s.data.toList && Lib.validD s.data.toList) = Lib.validD s.data.toList) := Lib.hid (by rw [hall]; rfl)
   clear hall HV HA
   generalize Lib.validD s.data.toList = v at *
   go_wp2_with fail
   go_ret
   exact BoolPost.of HX.out hm

set_option maxRecDepth 100000 in
set_option maxHeartbeats 2000000 in
theorem plain_calls (w : World) (s : ByteArray) (hs : s.size ≤ 1000000) (hE : Env w) : Calls Tryz.prog 111 #[.string s] w (BoolPost w (plainB s.data.toList)) := by
 have HV := Lib.hid (visible_calls w s false hs hE.1)
 have HP := Lib.hid (fun W => pfx_calls W s ⟨#[32]⟩)
 have HS := Lib.hid (fun W => suffix_calls W s ⟨#[32]⟩ hs)
 have HC := Lib.hid (fun W (h : Pure w W) => contains_calls W s ⟨#[32, 32]⟩ hs (hE.2.pure h))
 have HX : Hid (plainB s.data.toList = (((visB false s.data.toList && Lib.validD s.data.toList) && !Lib.hasPrefix s.data.toList [32]) && !Lib.hasSuffix s.data.toList [32] && !Lib.contains s.data.toList [32, 32])) := Lib.hid (by unfold plainB; simp only [Bool.and_assoc])
 clear hE
 go_enter Tryz.func111, Tryz.ntmps111
 go_wp2_with fail
 refine HV.out.mono ?_
 rintro e w1 ⟨rfl, hm⟩
 generalize (visB false s.data.toList && Lib.validD s.data.toList) = v at *
 cases v
 ·go_wp2_with fail
  go_ret
  exact BoolPost.of (by rw [HX.out]; rfl) hm
 ·go_wp2_with fail
  refine (HP.out _).mono ?_
  rintro e w' ⟨rfl, rfl⟩
  generalize Lib.hasPrefix s.data.toList [32] = p at *
  cases p
  ·go_wp2_with fail
   refine (HS.out _).mono ?_
   rintro e w' ⟨rfl, rfl⟩
   generalize Lib.hasSuffix s.data.toList [32] = q at *
   cases q
   ·go_wp2_with fail
    refine (HC.out _ hm).mono ?_
    rintro e w' ⟨rfl, rfl⟩
    generalize Lib.contains s.data.toList [32, 32] = r at *
    go_wp2_with fail
    go_ret
    exact BoolPost.of (by rw [HX.out]; rfl) hm
   ·go_wp2_with fail
    go_ret
    exact BoolPost.of (by rw [HX.out]; rfl) hm
  ·go_wp2_with fail
   go_ret
   exact BoolPost.of (by rw [HX.out]; rfl) hm

set_option maxRecDepth 100000 in
set_option maxHeartbeats 2000000 in
theorem text_calls (w : World) (l : Str) (hs : l.length ≤ 1000000) (hE : Env w) : Calls Tryz.prog 113 #[.string ⟨l.toArray⟩] w (BoolPost w (textB l)) := by
 have hsz : (⟨l.toArray⟩ : ByteArray).size ≤ 1000000 := by simpa [ByteArray.size] using hs
 have HV := Lib.hid (visible_calls w ⟨l.toArray⟩ true hsz hE.1)
 have HS := Lib.hid (fun W => suffix_calls W ⟨l.toArray⟩ ⟨#[10]⟩ hsz)
 have HX : Hid (textB l = ((visB true l && Lib.validD l) && (l.isEmpty || Lib.hasSuffix l [10]))) := Lib.hid (by unfold textB; simp only [Bool.and_assoc])
 clear hE hsz
 go_enter Tryz.func113, Tryz.ntmps113
 go_wp2_with fail
 refine HV.out.mono ?_
 rintro e w1 ⟨rfl, hm⟩
 generalize (visB true l && Lib.validD l) = v at *
 cases v
 ·go_wp2_with fail
  go_ret
  exact BoolPost.of (by rw [HX.out]; rfl) hm
 ·cases he : l.isEmpty
  ·go_wp2_with fail
   refine (HS.out _).mono ?_
   rintro e w' ⟨rfl, rfl⟩
   generalize Lib.hasSuffix l [10] = r at *
   go_wp2_with fail
   go_ret
   exact BoolPost.of (by rw [HX.out, he]; rfl) hm
  ·go_wp2_with fail
   go_ret
   exact BoolPost.of (by rw [HX.out, he]; rfl) hm

end Go.Proofs.YtbajgjbdcgakoaaGreatDoor

/- Strings of items: what the reference says of them. -/
namespace Go.Proofs.YtbajgjbdcgakoaaGreatDoor
set_option linter.unusedVariables false
set_option linter.unusedSimpArgs false
open Go.RowKit

end Go.Proofs.YtbajgjbdcgakoaaGreatDoor

/- The errors of one item: CheckItem of package intake, ItemFault of the reference. -/
namespace Go.Proofs.YtbajgjbdcgakoaaGreatDoor
set_option linter.unusedVariables false
set_option linter.unusedSimpArgs false
open Go.RowKit

/-- An item whose strings are of a length that the walks allow. -/
def ItL (x : Itm) : Prop := x.id.length ≤ 300000 ∧ x.cust.length ≤ 300000 ∧ x.name.length ≤ 300000 ∧ x.par.length ≤ 300000 ∧ x.text.length ≤ 300000
theorem ItB.l {x : Itm} (h : ItB x) : ItL x := by
 obtain ⟨a, b, c, d, e⟩ := h
 exact ⟨by omega, by omega, by omega, by omega, by omega⟩
theorem key_any (W : World) (l : Str) (h : l.length ≤ 1000000) : Calls Tryz.prog 68 #[.string ⟨l.toArray⟩] W (BoolPost W (keyB l)) := by
 refine (key_calls W ⟨l.toArray⟩ (by simpa [ByteArray.size] using h)).mono ?_
 rintro e w' ⟨rfl, rfl⟩
 exact ⟨rfl, Mod.refl _ _⟩
theorem plain_any (W : World) (l : Str) (h : l.length ≤ 1000000) (hE : Env W) : Calls Tryz.prog 111 #[.string ⟨l.toArray⟩] W (BoolPost W (plainB l)) :=
 plain_calls W ⟨l.toArray⟩ (by simpa [ByteArray.size] using h) hE
theorem text_any (W : World) (l : Str) (h : l.length ≤ 1000000) (hE : Env W) : Calls Tryz.prog 113 #[.string ⟨l.toArray⟩] W (BoolPost W (textB l)) := text_calls W l h hE
set_option maxHeartbeats 400000 in
theorem moment_calls (n : Int) (w : World) : Calls Tryz.prog 112 #[.int .i64 n] w (BoolSame w (inB n 0 5761439)) := by
 go_enter Tryz.func112, Tryz.ntmps112
 go_wp2_with fail
 refine (in_calls _ _ _ _).mono ?_
 rintro e w' ⟨rfl, rfl⟩
 go_wp2_with fail
 go_ret
 exact BoolSame.of rfl
/-- The word of a kind. -/
def kwS (n : Int) : Str := if n = 1 then [109, 97, 105, 108] else if n = 2 then [102, 105, 108, 101] else if n = 3 then [98, 111, 120] else if n = 4 then [110, 111, 116, 101] else []
theorem kwS_empty (n : Int) : (kwS n).isEmpty = !inB n 1 4 := by
 unfold kwS inB
 by_cases h1 : n = 1
 ·subst h1; rfl
 by_cases h2 : n = 2
 ·subst h2; rfl
 by_cases h3 : n = 3
 ·subst h3; rfl
 by_cases h4 : n = 4
 ·subst h4; rfl
 rw [if_neg h1, if_neg h2, if_neg h3, if_neg h4, decide_eq_false (by omega)]
 rfl
set_option maxHeartbeats 400000 in
theorem kindWord_calls (n : Int) (w : World) : Calls Tryz.prog 110 #[.int .i64 n] w (fun e w' => e = .returned (.string ⟨(kwS n).toArray⟩) ∧ w = w') := by
 by_cases h1 : n = 1
 ·subst h1
  go_enter Tryz.func110, Tryz.ntmps110
  go_wp2_with fail
  go_ret
  exact ⟨rfl, rfl⟩
 by_cases h2 : n = 2
 ·subst h2
  go_enter Tryz.func110, Tryz.ntmps110
  go_wp2_with fail
  go_ret
  exact ⟨rfl, rfl⟩
 by_cases h3 : n = 3
 ·subst h3
  go_enter Tryz.func110, Tryz.ntmps110
  go_wp2_with fail
  go_ret
  exact ⟨rfl, rfl⟩
 by_cases h4 : n = 4
 ·subst h4
  go_enter Tryz.func110, Tryz.ntmps110
  go_wp2_with fail
  go_ret
  exact ⟨rfl, rfl⟩
 have g1 : (n == 1) = false := by simpa using h1
 have g2 : (n == 2) = false := by simpa using h2
 have g3 : (n == 3) = false := by simpa using h3
 have g4 : (n == 4) = false := by simpa using h4
 go_enter Tryz.func110, Tryz.ntmps110
 go_wp2_with fail
 go_ret
 exact ⟨by unfold kwS; rw [if_neg h1, if_neg h2, if_neg h3, if_neg h4]; rfl, rfl⟩


set_option maxRecDepth 100000 in
set_option maxHeartbeats 8000000 in
theorem checkItemL_calls (w : World) (x : Itm) (hz : ItL x) (hE : Env w) : Calls Tryz.prog 80 #[itA x] w (IntPost w (itemE x)) := by
 obtain ⟨id, cust, kind, name, tm, par, text⟩ := x
 obtain ⟨z1, z2, z3, z4, z5⟩ := hz
 simp only at z1 z2 z3 z4 z5
 have HK1 := Lib.hid (fun W => key_any W id (by omega))
 have HK2 := Lib.hid (fun W => key_any W cust (by omega))
 have HK3 := Lib.hid (fun W => key_any W par (by omega))
 have HPL := Lib.hid (fun W (h : Pure w W) => plain_any W name (by omega) (hE.pure h))
 have HTX := Lib.hid (fun W (h : Pure w W) => text_any W text (by omega) (hE.pure h))
 have HIE : Hid (itemE ⟨id, cust, kind, name, tm, par, text⟩ = if !(keyB id && keyB cust) then 5 else if !inB kind 1 4 then 4 else if 120 < name.length then 2 else if !plainB name then 3 else if !inB tm 0 5761439 then 1 else
  if !par.isEmpty && !keyB par then 5 else if par = id then 14 else if 20000 < text.length then 2 else if !textB text then 3 else 0) := Lib.hid (by unfold itemE; rw [show decide (par ≠ []) = !par.isEmpty by cases par <;> simp])
 generalize hie : itemE ⟨id, cust, kind, name, tm, par, text⟩ = ie at *
 have HKN : Hid (keyB id = true → id.isEmpty = false) := Lib.hid (fun h => by cases id <;> first | rfl | cases h)
 generalize keyB id = k1 at *
 generalize keyB cust = k2 at *
 generalize keyB par = k3 at *
 generalize plainB name = pl at *
 generalize textB text = tx at *
 clear hie hE z1 z2 z3 z4 z5
 have B0 := Blk.new w 68 (itQ ⟨id, cust, kind, name, tm, par, text⟩)
 have m0 : Pure w (w.alloc (.cells (itQ ⟨id, cust, kind, name, tm, par, text⟩) 68)) := pure_alloc _ _
 unfold itQ at B0 m0
 simp only at B0 m0
 have HB0 := Lib.hid B0
 have Hm0 := Lib.hid m0
 clear B0 m0
 unfold itA
 simp only
 go_enter Tryz.func80, Tryz.ntmps80
 go_wp2_with fail
 refine (HK1.out _).mono ?_
 rintro e w1 ⟨rfl, m1⟩
 have B1 := HB0.out.mod m1 _root_.id
 have m1 := Hm0.out.trans m1
 clear HB0 Hm0
 generalize w.heap.size = gx at *
 cases k1
 ·clear B1 HK1 HK2 HK3 HPL HTX
  go_wp2_with fail
  go_ret
  exact IntPost.of (by rw [HIE.out]; rfl) m1
 have c0 := B1.cell 0; have c1 := B1.cell 1; have c2 := B1.cell 2; have c3 := B1.cell 3; have c4 := B1.cell 4; have c5 := B1.cell 5; have c6 := B1.cell 6; simp at c0 c1 c2 c3 c4 c5 c6
 go_wp2_with fail
 clear c0 c1 c2 c3 c4 c5 c6
 refine (HK2.out _).mono ?_
 rintro e w2 ⟨rfl, m2⟩
 have B2 := B1.mod m2 _root_.id
 have m2 := m1.trans m2
 clear B1 m1
 cases k2
 ·clear B2 HK1 HK2 HK3 HPL HTX
  go_wp2_with fail
  go_ret
  exact IntPost.of (by rw [HIE.out]; rfl) m2
 have c0 := B2.cell 0; have c1 := B2.cell 1; have c2 := B2.cell 2; have c3 := B2.cell 3; have c4 := B2.cell 4; have c5 := B2.cell 5; have c6 := B2.cell 6; simp at c0 c1 c2 c3 c4 c5 c6
 go_wp2_with fail
 refine (kindWord_calls _ _).mono ?_
 rintro e w' ⟨rfl, rfl⟩
 have hkw := kwS_empty kind
 cases hki : inB kind 1 4
 all_goals
  rw [hki] at hkw
  simp only [Bool.not_true, Bool.not_false] at hkw
  generalize kwS kind = kw at *
 ·clear B2 HK1 HK2 HK3 HPL HTX
  go_wp2_with fail
  go_ret
  exact IntPost.of (by rw [HIE.out]; simp [hki]) m2
 by_cases hn : 120 < name.length
 ·have hn' : (120 : Int) < (name.length : Int) := by omega
  clear B2 HK1 HK2 HK3 HPL HTX
  go_wp2_with fail
  go_ret
  exact IntPost.of (by rw [HIE.out]; simp [hki, hn]) m2
 have hn' : ¬ ((120 : Int) < (name.length : Int)) := by omega
 go_wp2_with fail
 clear c0 c1 c2 c3 c4 c5 c6
 refine (HPL.out _ m2).mono ?_
 rintro e w3 ⟨rfl, m3⟩
 have B3 := B2.mod m3 _root_.id
 have m3 := m2.trans m3
 clear B2 m2
 cases pl
 ·clear B3 HK1 HK2 HK3 HPL HTX
  go_wp2_with fail
  go_ret
  exact IntPost.of (by rw [HIE.out]; simp [hki, hn]) m3
 have c0 := B3.cell 0; have c1 := B3.cell 1; have c2 := B3.cell 2; have c3 := B3.cell 3; have c4 := B3.cell 4; have c5 := B3.cell 5; have c6 := B3.cell 6; simp at c0 c1 c2 c3 c4 c5 c6
 go_wp2_with fail
 refine (moment_calls _ _).mono ?_
 rintro e w' ⟨rfl, rfl⟩
 cases htm : inB tm 0 5761439
 ·clear B3 HK1 HK2 HK3 HPL HTX
  go_wp2_with fail
  go_ret
  exact IntPost.of (by rw [HIE.out]; simp [hki, hn, htm]) m3
 rw [hki, htm] at HIE
 cases hpe : par.isEmpty
 ·rw [hpe] at HIE
  go_wp2_with fail
  clear c0 c1 c2 c3 c4 c5 c6
  refine (HK3.out _).mono ?_
  rintro e w4 ⟨rfl, m4⟩
  have B4 := B3.mod m4 _root_.id
  have m4 := m3.trans m4
  clear B3 m3
  cases k3
  ·clear B4 HK1 HK2 HK3 HPL HTX
   go_wp2_with fail
   go_ret
   exact IntPost.of (by rw [HIE.out]; simp [hn]) m4
  have c0 := B4.cell 0; have c1 := B4.cell 1; have c2 := B4.cell 2; have c3 := B4.cell 3; have c4 := B4.cell 4; have c5 := B4.cell 5; have c6 := B4.cell 6; simp at c0 c1 c2 c3 c4 c5 c6
  cases hpi : (par == id)
  ·have hpi2 : ¬ par = id := by simpa using hpi
   by_cases hl2 : 20000 < text.length
   ·have hl2' : (20000 : Int) < (text.length : Int) := by omega
    clear HK1 HK2 HK3 HPL HTX
    go_wp2_with fail
    go_ret
    exact IntPost.of (by rw [HIE.out]; simp [hn, hl2, hpi2]) m4
   ·have hl2' : ¬ ((20000 : Int) < (text.length : Int)) := by omega
    clear HK1 HK2 HK3 HPL
    go_wp2_with fail
    refine (HTX.out _ m4).mono ?_
    rintro e w6 ⟨rfl, m6⟩
    have m6 := m4.trans m6
    clear HTX
    cases tx
    all_goals
     go_wp2_with fail
     go_ret
     exact IntPost.of (by rw [HIE.out]; simp [hn, hl2, hpi2]) m6
  ·have hpi2 : par = id := by simpa using hpi
   clear HK1 HK2 HK3 HPL HTX
   go_wp2_with fail
   go_ret
   exact IntPost.of (by rw [HIE.out]; simp [hn, hpi2]) m4

 ·rw [hpe] at HIE
  cases hpi : (par == id)
  ·have hpi2 : ¬ par = id := by simpa using hpi
   by_cases hl2 : 20000 < text.length
   ·have hl2' : (20000 : Int) < (text.length : Int) := by omega
    clear HK1 HK2 HK3 HPL HTX
    go_wp2_with fail
    go_ret
    exact IntPost.of (by rw [HIE.out]; simp [hn, hl2, hpi2]) m3
   ·have hl2' : ¬ ((20000 : Int) < (text.length : Int)) := by omega
    clear HK1 HK2 HK3 HPL
    go_wp2_with fail
    refine (HTX.out _ m3).mono ?_
    rintro e w6 ⟨rfl, m6⟩
    have m6 := m3.trans m6
    clear HTX
    cases tx
    all_goals
     go_wp2_with fail
     go_ret
     exact IntPost.of (by rw [HIE.out]; simp [hn, hl2, hpi2]) m6
  ·have hpi2 : par = id := by simpa using hpi
   have hx : id.isEmpty = false := by have := HKN.out; simpa using this
   rw [← hpi2, hpe] at hx
   cases hx




end Go.Proofs.YtbajgjbdcgakoaaGreatDoor

/- Items as text, plain. -/
namespace Go.Proofs.YtbajgjbdcgakoaaGreatDoor
set_option linter.unusedVariables false
set_option linter.unusedSimpArgs false
open Go.RowKit

end Go.Proofs.YtbajgjbdcgakoaaGreatDoor

/- Items as the program writes them, plain. -/
namespace Go.Proofs.YtbajgjbdcgakoaaGreatDoor
set_option linter.unusedVariables false
set_option linter.unusedSimpArgs false
open Go.RowKit

end Go.Proofs.YtbajgjbdcgakoaaGreatDoor

/- Items read from a text, plain. -/
namespace Go.Proofs.YtbajgjbdcgakoaaGreatDoor
set_option linter.unusedVariables false
set_option linter.unusedSimpArgs false
open Go.RowKit

def kndI (s : Str) : Int := if s = [109, 97, 105, 108] then 1 else if s = [102, 105, 108, 101] then 2 else if s = [98, 111, 120] then 3 else if s = [110, 111, 116, 101] then 4 else 0
end Go.Proofs.YtbajgjbdcgakoaaGreatDoor

/- Tokens and the reading of a search, in plain words. -/
namespace Go.Proofs.YtbajgjbdcgakoaaGreatDoor
set_option linter.unusedVariables false
set_option linter.unusedSimpArgs false
open Go.RowKit
/-- A token: its kind, where it begins, the search that it says. -/
structure Tk where
 kind : Int
 pos : Nat
 q : Qry
def q0 : Qry := .mk 0 [] 0 []
def blkC (c : UInt8) : Bool := c == 32 || c == 10
def stpC (c : UInt8) : Bool := c == 32 || (c == 10 || (c == 40 || (c == 41 || c == 34)))
/-- A number that is not below 0, of at most six digits. -/
def natQ (s : Str) : Option Int := match numQ 6 s with | none => none | some n => if 0 ≤ n then some n else none
/-- The first part of a string that is cut at a byte, and the second one, if it can be cut. -/
def headS (c : UInt8) (s : Str) : Str := match fstL c s with | none => s | some p => p.1
def restS (c : UInt8) (s : Str) : Str := match fstL c s with | none => [] | some p => p.2
def slashQ (w rest : Str) : Int × Qry := match natQ rest with
 | none => (8, q0)
 | some n => if w = [119] then (7, .mk 4 [] n []) else if w = [112, 114, 101] then (7, .mk 5 [] n []) else (8, q0)
def colonQ (w rest : Str) : Int × Qry :=
 if w = [111, 119, 110, 101, 114] ∧ keyB rest = true then (3, .mk 9 [rest] 0 [])
 else if w = [110, 97, 109, 101] ∧ patB rest = true then (3, .mk 11 [rest] 0 [])
 else if w = [102, 114, 111, 109] ∧ (natQ rest).isSome = true then (3, .mk 12 [] ((natQ rest).getD 0) [])
 else if w = [117, 110, 116, 105, 108] ∧ (natQ rest).isSome = true then (3, .mk 13 [] ((natQ rest).getD 0) [])
 else if w = [107, 105, 110, 100] ∧ kndI rest ≠ 0 then (3, .mk 10 [] (kndI rest) []) else (8, q0)
/-- A piece: what kind of a token it is, and what search. -/
def pieceQ (s : Str) : Int × Qry :=
 if s = [97, 108, 108] then (3, .mk 1 [] 0 []) else if s = [97, 110, 100] then (4, q0) else if s = [111, 114] then (5, q0) else if s = [110, 111, 116] then (6, q0)
 else if patB s = true then (3, .mk 2 [s] 0 []) else match fstL 47 s with
  | some p => slashQ p.1 p.2
  | none => colonQ (headS 58 s) (restS 58 s)
/-- The patterns of a phrase. -/
def phrW (body : Str) : List Str := (spl 32 (lowS body)).filter fun w => !w.isEmpty
def phraseQ (body : Str) : Int × Qry :=
 if (phrW body).all patB = false ∨ phrW body = [] then (8, q0) else (3, .mk (if (phrW body).length = 1 then 2 else 3) (phrW body) 0 [])
/-- What stands at a place without blanks: a token, and how many bytes it takes. -/
def wordQ (s : Str) : Str := s.takeWhile fun d => !stpC d
def tokC (c : UInt8) (t : Str) : Int × Qry × Nat :=
 if c = 40 then (1, q0, 1) else if c = 41 then (2, q0, 1) else if c = 34 then (match fstL 34 t with
   | none => (8, q0, 0)
   | some p => ((phraseQ p.1).1, (phraseQ p.1).2, p.1.length + 2))
  else ((pieceQ (lowS (wordQ (c :: t)))).1, (pieceQ (lowS (wordQ (c :: t)))).2, (wordQ (c :: t)).length)
def tokQ : Str → Int × Qry × Nat
 | [] => (0, q0, 0)
 | c :: t => tokC c t
def skpQ (s : Str) (a : Nat) : Nat := a + ((s.drop a).takeWhile blkC).length
/-- The token from a place on, and the place behind it. -/
def nextQ (s : Str) (a : Nat) : Tk × Nat := (⟨(tokQ (s.drop (skpQ s a))).1, skpQ s a, (tokQ (s.drop (skpQ s a))).2.1⟩, skpQ s a + (tokQ (s.drop (skpQ s a))).2.2)
def toksF (s : Str) : Nat → Nat → List Tk
 | 0, _ => []
 | f + 1, a => if (nextQ s a).1.kind = 0 ∨ (nextQ s a).1.kind = 8 then [(nextQ s a).1] else (nextQ s a).1 :: toksF s f (nextQ s a).2
/-- The tokens from a place on, to the end or to the first that is none. -/
def toksQ (s : Str) (a : Nat) : List Tk := toksF s (s.length + 1 - a) a
theorem piece_kind (s : Str) : (pieceQ s).1 ≠ 0 := by
 unfold pieceQ slashQ colonQ
 repeat' split
 all_goals first | decide | (simp; done)
theorem phrase_kind (s : Str) : (phraseQ s).1 = 8 ∨ (phraseQ s).1 = 3 := by
 unfold phraseQ
 split
 ·exact .inl rfl
 ·exact .inr rfl
theorem skp_le (s : Str) {a : Nat} (h : a ≤ s.length) : a ≤ skpQ s a ∧ skpQ s a ≤ s.length := by
 unfold skpQ
 have := (List.takeWhile_prefix (l := s.drop a) blkC).length_le
 rw [List.length_drop] at this
 omega
theorem fstL_le {c : UInt8} : ∀ {s : Str} {p : Str × Str}, fstL c s = some p → p.1.length + 1 ≤ s.length
 | [], p, h => by cases h
 | d :: t, p, h => by
  unfold fstL at h
  split at h
  ·cases h; simp
  ·obtain ⟨r, hr, rfl⟩ := Option.map_eq_some_iff.1 h
   have := fstL_le hr
   simp
   omega
theorem word_pos {c : UInt8} {t : Str} (h : stpC c = false) : 1 ≤ (wordQ (c :: t)).length := by
 unfold wordQ
 rw [List.takeWhile_cons, show (!stpC c) = true by simpa using h]
 simp
theorem word_le (s : Str) : (wordQ s).length ≤ s.length := (List.takeWhile_prefix _).length_le
theorem tokC_len (c : UInt8) (t : Str) (hb : blkC c = false) : (tokC c t).2.2 ≤ t.length + 1 ∧ (tokC c t).1 ≠ 0 ∧ ((tokC c t).1 ≠ 8 → 1 ≤ (tokC c t).2.2) := by
 unfold tokC
 by_cases h1 : c = 40
 ·rw [if_pos h1]; exact ⟨by simp, by decide, fun _ => Nat.le_refl _⟩
 rw [if_neg h1]
 by_cases h2 : c = 41
 ·rw [if_pos h2]; exact ⟨by simp, by decide, fun _ => Nat.le_refl _⟩
 rw [if_neg h2]
 by_cases h3 : c = 34
 ·rw [if_pos h3]
  cases hf : fstL 34 t with
  | none => exact ⟨by simp, by decide, fun h => absurd rfl h⟩
  | some p =>
   have := fstL_le hf
   refine ⟨by simp; omega, fun h => ?_, fun _ => by simp⟩
   rcases phrase_kind p.1 with h2 | h2 <;> simp only at h <;> rw [h2] at h <;> cases h
 rw [if_neg h3]
 refine ⟨by have := word_le (c :: t); simpa using this, piece_kind _, fun _ => word_pos ?_⟩
 simp [blkC] at hb
 simp [stpC, hb, h1, h2, h3]
theorem skp_head (s : Str) {a : Nat} {c : UInt8} {t : Str} (h : s.drop (skpQ s a) = c :: t) : blkC c = false := by
 unfold skpQ at h
 rw [← List.drop_drop] at h
 have h2 : ∀ l : Str, l.drop (l.takeWhile blkC).length = c :: t → blkC c = false := by
  intro l
  induction l with
  | nil => intro h; simp at h
  | cons d l ih =>
   intro h
   rw [List.takeWhile_cons] at h
   by_cases hd : blkC d = true
   ·rw [if_pos hd] at h
    simp only [List.length_cons, List.drop_succ_cons] at h
    exact ih h
   ·rw [if_neg hd] at h
    simp at h
    rw [← h.1]; simpa using hd
 exact h2 _ h
/-- Behind a token that is no end and not wrong. -/
theorem next_len (s : Str) {a : Nat} (h : a ≤ s.length) : (nextQ s a).2 ≤ s.length ∧ ((nextQ s a).1.kind = 0 → (nextQ s a).1.pos = s.length) ∧ ((nextQ s a).1.kind ≠ 0 → (nextQ s a).1.kind ≠ 8 → a + 1 ≤ (nextQ s a).2) := by
 obtain ⟨h1, h2⟩ := skp_le s h
 show skpQ s a + (tokQ (s.drop (skpQ s a))).2.2 ≤ s.length ∧ ((tokQ (s.drop (skpQ s a))).1 = 0 → skpQ s a = s.length) ∧ ((tokQ (s.drop (skpQ s a))).1 ≠ 0 → (tokQ (s.drop (skpQ s a))).1 ≠ 8 → a + 1 ≤ skpQ s a + (tokQ (s.drop (skpQ s a))).2.2)
 have hl : (s.drop (skpQ s a)).length = s.length - skpQ s a := List.length_drop
 have hh : ∀ c t, s.drop (skpQ s a) = c :: t → blkC c = false := fun c t => skp_head s
 cases hd : s.drop (skpQ s a) with
 | nil =>
  rw [hd] at hl
  simp only [List.length_nil] at hl
  exact ⟨by show skpQ s a + 0 ≤ _; omega, fun _ => by omega, fun h => absurd rfl h⟩
 | cons c t =>
  rw [hd] at hl
  obtain ⟨h3, h4, h5⟩ := tokC_len c t (hh c t hd)
  simp only [List.length_cons] at hl
  exact ⟨by show skpQ s a + (tokC c t).2.2 ≤ _; omega, fun h => absurd h h4, fun _ h8 => by have := h5 h8; show a + 1 ≤ skpQ s a + (tokC c t).2.2; omega⟩
theorem toksF_fuel (s : Str) : ∀ (f g a : Nat), a ≤ s.length → s.length + 1 ≤ f + a → s.length + 1 ≤ g + a → toksF s f a = toksF s g a
 | 0, g, a, h, h1, h2 => by omega
 | f + 1, 0, a, h, h1, h2 => by omega
 | f + 1, g + 1, a, h, h1, h2 => by
  unfold toksF
  obtain ⟨h3, h4, h5⟩ := next_len s h
  split
  ·rfl
  ·rename_i hk
   have := h5 (fun e => hk (.inl e)) (fun e => hk (.inr e))
   rw [toksF_fuel s f g _ h3 (by omega) (by omega)]
theorem toks_eq (s : Str) {a : Nat} (h : a ≤ s.length) : toksQ s a = if (nextQ s a).1.kind = 0 ∨ (nextQ s a).1.kind = 8 then [(nextQ s a).1] else (nextQ s a).1 :: toksQ s (nextQ s a).2 := by
 unfold toksQ
 rw [show s.length + 1 - a = (s.length - a) + 1 by omega, toksF]
 obtain ⟨h3, h4, h5⟩ := next_len s h
 split
 ·rfl
 ·rename_i hk
  have := h5 (fun e => hk (.inl e)) (fun e => hk (.inr e))
  rw [toksF_fuel s _ (s.length + 1 - (nextQ s a).2) _ h3 (by omega) (by omega)]
theorem toksF_le (s : Str) : ∀ (f a : Nat), (toksF s f a).length ≤ f
 | 0, _ => Nat.le_refl _
 | f + 1, a => by
  unfold toksF
  split
  ·simp
  ·have := toksF_le s f (nextQ s a).2
   simp
   omega
theorem toks_len (s : Str) (a : Nat) : (toksQ s a).length ≤ s.length + 1 - a := toksF_le s _ a

/-- What reading a part of a search leads to: the tokens at which it failed, or the search and the tokens behind it. -/
abbrev PR := List Tk ⊕ (Qry × List Tk)
def kdL : List Tk → Int | [] => 0 | t :: _ => t.kind
def qL : List Tk → Qry | [] => q0 | t :: _ => t.q
def closeP : PR → PR
 | .inl l => .inl l
 | .inr (q, l) => if kdL l = 2 then .inr (q, l.tail) else .inl l
def pPart (rec : List Tk → PR) (L : List Tk) : PR :=
 if kdL L = 3 then .inr (qL L, L.tail) else if kdL L = 1 then closeP (rec L.tail) else .inl L
def pNearL (rec : List Tk → PR) : Nat → Qry → List Tk → PR
 | 0, _, L => .inl L
 | f + 1, q, L => if kdL L = 7 then (match pPart rec L.tail with
   | .inl l => .inl l
   | .inr (b, l) => pNearL rec f (.mk (qL L).kind [] (qL L).num [q, b]) l) else .inr (q, L)
def pNear (rec : List Tk → PR) (f : Nat) (L : List Tk) : PR := match pPart rec L with
 | .inl l => .inl l
 | .inr (q, l) => pNearL rec f q l
def notN : Nat → Qry → Qry
 | 0, q => q
 | n + 1, q => notN n (.mk 8 [] 0 [q])
def notP (n : Nat) : PR → PR
 | .inl l => .inl l
 | .inr (q, l) => .inr (notN n q, l)
def notL (L : List Tk) : Nat := (L.takeWhile fun t => t.kind == 6).length
def pNot (rec : List Tk → PR) (f : Nat) (L : List Tk) : PR := notP (notL L) (pNear rec f (L.drop (notL L)))
def pSevL (kind between : Int) (el : List Tk → PR) : Nat → List Qry → List Tk → PR
 | 0, _, L => .inl L
 | f + 1, qs, L => if kdL L = between then (match el L.tail with
   | .inl l => .inl l
   | .inr (q, l) => pSevL kind between el f (qs ++ [q]) l) else .inr (.mk kind [] 0 qs, L)
def pSev (kind between : Int) (el : List Tk → PR) (f : Nat) (L : List Tk) : PR := match el L with
 | .inl l => .inl l
 | .inr (q, l) => if kdL l = between then pSevL kind between el f [q] l else .inr (q, l)
def pOr : Nat → List Tk → PR
 | 0, L => .inl L
 | f + 1, L => pSev 7 5 (pSev 6 4 (pNot (pOr f) f) f) f L
end Go.Proofs.YtbajgjbdcgakoaaGreatDoor

/-
 DERIVED: THE SHELF's CONTRACTS AT THIS DUMP, IN PLAIN WORDS (tools/lay-plain.mjs out of 'YtbajgjbdcgakoaaGreatDoorLayCln.lean', which tools/lay-shelf.mjs wrote): THE SAME DECLARATIONS UNDER THE SAME NAMES: 'import', 'namespace', 'open', 'def', 'theorem' AND NOTHING ELSE: no command of the shelf's: FOR A HAND-IN. Each laying: the table of numbers ('.._ren') and one theorem, a field a fact of the dump's own or the kernel's comparison; each contract: ONE APPLICATION.
-/
namespace Go.Proofs
open Go.Shelf
def Tryz.laysNm216_ren : Go.Shelf.Ren := ⟨fun | 16 => 58 | n => n, fun | 24 => 26 | 9 => 9 | 4 => 4 | n => n, fun | n => n⟩
theorem Tryz.laysNm216 : Go.Proofs.Lays2.n16 Tryz.prog Tryz.laysNm216_ren := {
 mixed := by kernel_rfl
 f16 := Tryz.func58.trans (congrArg some (by kernel_rfl))
 t4 := Tryz.underlying4
 a4 := Tryz.isAgg4
 z4 := Tryz.sizeOf4
 v4 := Tryz.zeroValue4
 t9 := Tryz.underlying9
 a9 := Tryz.isAgg9
 z9 := Tryz.sizeOf9
 v9 := Tryz.zeroValue9
 t24 := Tryz.underlying26
 a24 := Tryz.isAgg26
 z24 := Tryz.sizeOf26
 v24 := Tryz.zeroValue26
 i9 := by kernel_rfl }
end Go.Proofs

/- slices.Clone of strings. -/
namespace Go.Proofs.YtbajgjbdcgakoaaGreatDoor
set_option linter.unusedVariables false
set_option linter.unusedSimpArgs false
open Go.RowKit

/-- A slice that is a copy. -/
def OwnCPost (w : World) (xs : List Str) (e : Ending) (w' : World) : Prop := ∃ v, e = .returned v ∧ w'.ownsRow w.heap.size 9 1 v xs.length (strsV xs) ∧ Pure w w'
theorem cloneC_calls (w : World) (v : Value) (xs : List Str) (hv : Sl w 9 1 v (strsV xs)) (hl : xs.length ≤ 1000000) : Calls Tryz.prog 58 #[v] w (OwnCPost w xs) := by
 obtain ⟨A, n, c, rfl, h1, h2, h3, h4⟩ := hv
 have hn : xs.length = n := by simpa [strsV] using h3
 subst hn
 cases A with
 | none =>
  have h0 : xs.length = 0 := by
   rcases Nat.eq_zero_or_pos xs.length with h | h
   ·exact h
   ·obtain ⟨g, off, h, _⟩ := h4 h
    cases h
  have e : xs = [] := List.eq_nil_of_length_eq_zero h0
  subst e
  refine (Any.slices_Clone_string_nil Tryz.laysNm216 _ c w).mono ?_
  rintro e w' ⟨rfl, rfl⟩
  exact ⟨_, rfl, ⟨rfl, .inl ⟨rfl, rfl⟩⟩, Mod.refl _ _⟩
 | some a =>
  rcases Nat.eq_zero_or_pos xs.length with h0 | h0
  ·have e : xs = [] := List.eq_nil_of_length_eq_zero h0
   subst e
   refine (Any.slices_Clone_string_zero Tryz.laysNm216 a c w).mono ?_
   rintro e w' ⟨v', rfl, hown, _, hb⟩
   exact ⟨_, rfl, hown, Mod.of_below hb⟩
  ·obtain ⟨g, off, ha, hr⟩ := h4 h0
   injection ha with ha
   subst ha
   refine (Any.slices_Clone_string Tryz.laysNm216 g off xs.length c (xs.map fun l => ⟨l.toArray⟩) w (by simp) (by omega) (fun j hj => ?_)).mono ?_
   ·have hj' : j < xs.length := by simpa using hj
    rw [hr.cell (strsV_get xs j hj')]
    simp [List.getD, hj']
   ·rintro e w' ⟨v', rfl, hown, _, hb⟩
    refine ⟨_, rfl, ?_, Mod.of_below hb⟩
    rw [List.take_of_length_le (by simp), List.map_map] at hown
    exact hown

end Go.Proofs.YtbajgjbdcgakoaaGreatDoor

/- The one line that the laws of reviews have read: its words, its field. -/
namespace Go.Proofs.YtbajgjbdcgakoaaGreatDoor
set_option linter.unusedVariables false
set_option linter.unusedSimpArgs false
open Go.RowKit

def ws5 : List Str := [[97, 115, 107], [97], [111, 110, 101], [110, 111, 110, 101], [98]]
end Go.Proofs.YtbajgjbdcgakoaaGreatDoor

/- askLine of the program, for any words. -/
namespace Go.Proofs.YtbajgjbdcgakoaaGreatDoor
set_option linter.unusedVariables false
set_option linter.unusedSimpArgs false
open Go.RowKit

end Go.Proofs.YtbajgjbdcgakoaaGreatDoor

/- ruleLine of the program, for any words. -/
namespace Go.Proofs.YtbajgjbdcgakoaaGreatDoor
set_option linter.unusedVariables false
set_option linter.unusedSimpArgs false
open Go.RowKit

/-- Two blocks of old. -/
def TwoB (Z : World) (g gr : Nat) (t1 t2 : TypeId) (c1 c2 : Array Value) : Prop := Blk Z g t1 c1 ∧ Blk Z gr t2 c2
theorem TwoB.far {Z : World} {g gr q : Nat} {t1 t2 : TypeId} {c1 c2 : Array Value} (h : TwoB Z g gr t1 t2 c1 c2) (h1 : g ≠ q) (h2 : gr ≠ q) (j : Nat) (u : Value) : TwoB (Z.setCell ⟨q, j, none⟩ u) g gr t1 t2 c1 c2 := ⟨h.1.far h1 u, h.2.far h2 u⟩
theorem inI_calls (w : World) (n lo hi : Int) : Calls Tryz.prog 67 #[.int .i64 n, .int .i64 lo, .int .i64 hi] w (BoolPost w (decide (lo ≤ n) && decide (n ≤ hi))) := by
 go_enter Tryz.func67, Tryz.ntmps67
 by_cases h : lo ≤ n
 ·go_wp2_with fail
  go_ret
  exact BoolPost.of (by simp [h]) (Mod.refl _ _)
 ·go_wp2_with fail
  go_ret
  exact BoolPost.of (by rw [decide_eq_false (show ¬ lo ≤ n by omega)]; rfl) (Mod.refl _ _)

end Go.Proofs.YtbajgjbdcgakoaaGreatDoor

/-
 DERIVED: THE SHELF's CONTRACTS AT THIS DUMP, IN PLAIN WORDS (tools/lay-plain.mjs out of 'YtbajgjbdcgakoaaGreatDoorLayWra.lean', which tools/lay-shelf.mjs wrote): THE SAME DECLARATIONS UNDER THE SAME NAMES: 'import', 'namespace', 'open', 'def', 'theorem' AND NOTHING ELSE: no command of the shelf's: FOR A HAND-IN. Each laying: the table of numbers ('.._ren') and one theorem, a field a fact of the dump's own or the kernel's comparison; each contract: ONE APPLICATION.
-/
namespace Go.Proofs
open Go.Shelf
def Tryz.lays103_ren : Go.Shelf.Ren := ⟨fun | 103 => 205 | 210 => 218 | 206 => 185 | n => n, fun | 9 => 9 | 4 => 4 | 24 => 175 | 3 => 3 | n => n, fun | n => n⟩
theorem Tryz.lays103 : Go.Proofs.Lays.n103 Tryz.prog Tryz.lays103_ren := {
 mixed := by kernel_rfl
 f103 := Tryz.func205.trans (congrArg some (by kernel_rfl))
 f206 := Tryz.func185.trans (congrArg some (by kernel_rfl))
 f210 := Tryz.func218.trans (congrArg some (by kernel_rfl))
 t3 := Tryz.underlying3
 a3 := Tryz.isAgg3
 z3 := Tryz.sizeOf3
 v3 := Tryz.zeroValue3
 t4 := Tryz.underlying4
 a4 := Tryz.isAgg4
 z4 := Tryz.sizeOf4
 v4 := Tryz.zeroValue4
 t9 := Tryz.underlying9
 a9 := Tryz.isAgg9
 z9 := Tryz.sizeOf9
 v9 := Tryz.zeroValue9
 t24 := Tryz.underlying175
 a24 := Tryz.isAgg175
 z24 := Tryz.sizeOf175
 v24 := Tryz.zeroValue175 }
end Go.Proofs

/-
 DERIVED: THE SHELF's CONTRACTS AT THIS DUMP, IN PLAIN WORDS (tools/lay-plain.mjs out of 'YtbajgjbdcgakoaaGreatDoorLayAto.lean', which tools/lay-shelf.mjs wrote): THE SAME DECLARATIONS UNDER THE SAME NAMES: 'import', 'namespace', 'open', 'def', 'theorem' AND NOTHING ELSE: no command of the shelf's: FOR A HAND-IN. Each laying: the table of numbers ('.._ren') and one theorem, a field a fact of the dump's own or the kernel's comparison; each contract: ONE APPLICATION.
-/
namespace Go.Proofs
open Go.Shelf
def Tryz.lays172_ren : Go.Shelf.Ren := ⟨fun | 172 => 206 | 244 => 219 | 245 => 220 | 247 => 224 | 279 => 225 | 280 => 226 | 281 => 227 | 282 => 228 | 287 => 238 | 316 => 239 | 171 => 51 | 205 => 240 | 321 => 244 | 322 => 245 | 243 => 92 | 246 => 135 | 283 => 164 | 284 => 165 | 285 => 166 | 286 => 167 | 129 => 133 | 317 => 194 | 318 => 195 | 319 => 196 | 320 => 197 | 337 => 211 | 338 => 212 | n => n, fun | 9 => 9 | 3 => 3 | 75 => 128 | 76 => 129 | 4 => 4 | 5 => 5 | 167 => 228 | 37 => 123 | 0 => 0 | 85 => 229 | 2 => 2 | 168 => 231 | 53 => 90 | 175 => 240 | 46 => 56 | 210 => 243 | 127 => 160 | 145 => 250 | 143 => 248 | 21 => 21 | 171 => 187 | 173 => 189 | 212 => 206 | 51 => 87 | 20 => 20 | 213 => 207 | 232 => 225 | 233 => 226 | 80 => 55 | n => n, fun | 15 => 6 | 16 => 7 | 17 => 0 | 18 => 4 | 19 => 5 | n => n⟩
theorem Tryz.lays172 : Go.Proofs.Lays.n172 Tryz.prog Tryz.lays172_ren := {
 mixed := by kernel_rfl
 f129 := Tryz.func133.trans (congrArg some (by kernel_rfl))
 f171 := Tryz.func51.trans (congrArg some (by kernel_rfl))
 f172 := Tryz.func206.trans (congrArg some (by kernel_rfl))
 f205 := Tryz.func240.trans (congrArg some (by kernel_rfl))
 f243 := Tryz.func92.trans (congrArg some (by kernel_rfl))
 f244 := Tryz.func219.trans (congrArg some (by kernel_rfl))
 f245 := Tryz.func220.trans (congrArg some (by kernel_rfl))
 f246 := Tryz.func135.trans (congrArg some (by kernel_rfl))
 f247 := Tryz.func224.trans (congrArg some (by kernel_rfl))
 f279 := Tryz.func225.trans (congrArg some (by kernel_rfl))
 f280 := Tryz.func226.trans (congrArg some (by kernel_rfl))
 f281 := Tryz.func227.trans (congrArg some (by kernel_rfl))
 f282 := Tryz.func228.trans (congrArg some (by kernel_rfl))
 f283 := Tryz.func164.trans (congrArg some (by kernel_rfl))
 f284 := Tryz.func165.trans (congrArg some (by kernel_rfl))
 f285 := Tryz.func166.trans (congrArg some (by kernel_rfl))
 f286 := Tryz.func167.trans (congrArg some (by kernel_rfl))
 f287 := Tryz.func238.trans (congrArg some (by kernel_rfl))
 f316 := Tryz.func239.trans (congrArg some (by kernel_rfl))
 f317 := Tryz.func194.trans (congrArg some (by kernel_rfl))
 f318 := Tryz.func195.trans (congrArg some (by kernel_rfl))
 f319 := Tryz.func196.trans (congrArg some (by kernel_rfl))
 f320 := Tryz.func197.trans (congrArg some (by kernel_rfl))
 f321 := Tryz.func244.trans (congrArg some (by kernel_rfl))
 f322 := Tryz.func245.trans (congrArg some (by kernel_rfl))
 f337 := Tryz.func211.trans (congrArg some (by kernel_rfl))
 f338 := Tryz.func212.trans (congrArg some (by kernel_rfl))
 t0 := Tryz.underlying0
 a0 := Tryz.isAgg0
 z0 := Tryz.sizeOf0
 v0 := Tryz.zeroValue0
 t2 := Tryz.underlying2
 a2 := Tryz.isAgg2
 z2 := Tryz.sizeOf2
 v2 := Tryz.zeroValue2
 t3 := Tryz.underlying3
 a3 := Tryz.isAgg3
 z3 := Tryz.sizeOf3
 v3 := Tryz.zeroValue3
 t4 := Tryz.underlying4
 a4 := Tryz.isAgg4
 z4 := Tryz.sizeOf4
 v4 := Tryz.zeroValue4
 t5 := Tryz.underlying5
 a5 := Tryz.isAgg5
 z5 := Tryz.sizeOf5
 v5 := Tryz.zeroValue5
 t9 := Tryz.underlying9
 a9 := Tryz.isAgg9
 z9 := Tryz.sizeOf9
 v9 := Tryz.zeroValue9
 t20 := Tryz.underlying20
 a20 := Tryz.isAgg20
 z20 := Tryz.sizeOf20
 v20 := Tryz.zeroValue20
 t21 := Tryz.underlying21
 a21 := Tryz.isAgg21
 z21 := Tryz.sizeOf21
 v21 := Tryz.zeroValue21
 t37 := Tryz.underlying123
 a37 := Tryz.isAgg123
 z37 := Tryz.sizeOf123
 v37 := Tryz.zeroValue123
 t46 := Tryz.underlying56
 a46 := Tryz.isAgg56
 z46 := Tryz.sizeOf56
 v46 := Tryz.zeroValue56
 t51 := Tryz.underlying87
 a51 := Tryz.isAgg87
 z51 := Tryz.sizeOf87
 v51 := Tryz.zeroValue87
 t53 := Tryz.underlying90
 a53 := Tryz.isAgg90
 z53 := Tryz.sizeOf90
 v53 := Tryz.zeroValue90
 t75 := Tryz.underlying128
 a75 := Tryz.isAgg128
 z75 := Tryz.sizeOf128
 v75 := Tryz.zeroValue128
 t76 := Tryz.underlying129
 a76 := Tryz.isAgg129
 z76 := Tryz.sizeOf129
 v76 := Tryz.zeroValue129
 t85 := Tryz.underlying229
 a85 := Tryz.isAgg229
 z85 := Tryz.sizeOf229
 v85 := Tryz.zeroValue229
 t127 := Tryz.underlying160
 a127 := Tryz.isAgg160
 z127 := Tryz.sizeOf160
 v127 := Tryz.zeroValue160
 t143 := Tryz.underlying248
 a143 := Tryz.isAgg248
 z143 := Tryz.sizeOf248
 v143 := Tryz.zeroValue248
 t145 := Tryz.underlying250
 a145 := Tryz.isAgg250
 z145 := Tryz.sizeOf250
 v145 := Tryz.zeroValue250
 t167 := Tryz.underlying228
 a167 := Tryz.isAgg228
 z167 := Tryz.sizeOf228
 v167 := Tryz.zeroValue228
 t168 := Tryz.underlying231
 a168 := Tryz.isAgg231
 z168 := Tryz.sizeOf231
 v168 := Tryz.zeroValue231
 t171 := Tryz.underlying187
 a171 := Tryz.isAgg187
 z171 := Tryz.sizeOf187
 v171 := Tryz.zeroValue187
 t173 := Tryz.underlying189
 a173 := Tryz.isAgg189
 z173 := Tryz.sizeOf189
 v173 := Tryz.zeroValue189
 t175 := Tryz.underlying240
 a175 := Tryz.isAgg240
 z175 := Tryz.sizeOf240
 v175 := Tryz.zeroValue240
 t210 := Tryz.underlying243
 a210 := Tryz.isAgg243
 z210 := Tryz.sizeOf243
 v210 := Tryz.zeroValue243
 t212 := Tryz.underlying206
 a212 := Tryz.isAgg206
 z212 := Tryz.sizeOf206
 v212 := Tryz.zeroValue206
 t213 := Tryz.underlying207
 a213 := Tryz.isAgg207
 z213 := Tryz.sizeOf207
 t232 := Tryz.underlying225
 a232 := Tryz.isAgg225
 z232 := Tryz.sizeOf225
 v232 := Tryz.zeroValue225
 t233 := Tryz.underlying226
 a233 := Tryz.isAgg226
 z233 := Tryz.sizeOf226
 v233 := Tryz.zeroValue226
 g15 := by kernel_rfl
 g16 := by kernel_rfl
 g17 := by kernel_rfl
 g18 := by kernel_rfl
 g19 := by kernel_rfl }
end Go.Proofs

/-
 DERIVED: THE SHELF's CONTRACTS AT THIS DUMP, IN PLAIN WORDS (tools/lay-plain.mjs out of 'YtbajgjbdcgakoaaGreatDoorLayIto.lean', which tools/lay-shelf.mjs wrote): THE SAME DECLARATIONS UNDER THE SAME NAMES: 'import', 'namespace', 'open', 'def', 'theorem' AND NOTHING ELSE: no command of the shelf's: FOR A HAND-IN. Each laying: the table of numbers ('.._ren') and one theorem, a field a fact of the dump's own or the kernel's comparison; each contract: ONE APPLICATION.
-/
namespace Go.Proofs
open Go.Shelf
end Go.Proofs

/- Numbers of at most nine digits, as the program and as the reference read them. -/
namespace Go.Proofs.YtbajgjbdcgakoaaGreatDoor
set_option linter.unusedVariables false
set_option linter.unusedSimpArgs false
open Go.RowKit

/-- The table of powers of ten is as it is laid. -/
def Pow (w : World) : Prop := Lib.TabIs Tryz.prog w "internal/strconv.uint64pow10" .u64 Lib.pow10Tab
theorem pow_g : Tryz.prog.globalNamed "internal/strconv.uint64pow10" = some 0 := by kernel_rfl
theorem Pow.mod {w w' : World} {S : Nat → Prop} (h : Pow w) (hm : Mod S w w') (hs : ¬ S 0) : Pow w' := by
 unfold Pow Lib.TabIs World.var? at h ⊢
 rw [pow_g] at h ⊢
 simp only [Option.bind_some] at h ⊢
 cases hh : w.heap[0]? with
 | none => rw [hh] at h; cases h
 | some o =>
  rw [hm.block _ (lt_of_heap hh) hs]
  exact h
theorem Pow.pure {w w' : World} (h : Pow w) (hm : Pure w w') : Pow w' := h.mod hm id
theorem Pow.lt {w : World} (h : Pow w) : 0 < w.heap.size := by
 unfold Pow Lib.TabIs World.var? at h
 rw [pow_g] at h
 simp only [Option.bind_some] at h
 cases hh : w.heap[0]? with
 | none => rw [hh] at h; cases h
 | some o => exact lt_of_heap hh
theorem atoiW_calls (w : World) (s : Str) (n : Int) (hs : s.length ≤ 18) (h : Lib.atoi s = some n) : Calls Tryz.prog 206 #[.string ⟨s.toArray⟩] w (fun e w' => e = .returned (.tuple #[.int .i64 n, .nilIface]) ∧ Pure w w') := by
 refine (Any.strconv_Atoi Tryz.lays172 ⟨s.toArray⟩ n (by simpa [ByteArray.size] using hs) (by simpa using h) w).mono ?_
 rintro e w' ⟨rfl, t, rfl⟩
 exact ⟨rfl, Mod.of_below (Joins.below_bytesWorld _ _ _ _ (Nat.le_refl _))⟩
/-- What reading a number answers. -/
def NumPost (w : World) (o : Option Int) (e : Ending) (w' : World) : Prop := ∃ v : Int, e = .returned (.tuple #[.int .i64 v, .bool o.isSome]) ∧ (∀ n, o = some n → v = n) ∧ -1000000000 < v ∧ v < 1000000000 ∧ Pure w w'
theorem NumPost.no {w w' : World} {o : Option Int} (h : o = none) (hm : Pure w w') : NumPost w o (.returned (.tuple #[.int .i64 0, .bool false])) w' :=
 ⟨0, by rw [h]; rfl, fun n hn => (by rw [h] at hn; cases hn), by omega, by omega, hm⟩
theorem numQ_none1 {D : Nat} {s : Str} (h : ¬ numD D (numT s)) : numQ D s = none := by unfold numQ; rw [if_neg (fun hh => h hh.1)]
theorem numQ_none2 {D : Nat} {s : Str} (h : ¬ numC s) : numQ D s = none := by unfold numQ; rw [if_neg (fun hh => h hh.2)]
theorem allD_take {l : Str} {k : Nat} (h : k < l.length) : (l.take (k + 1)).all digB = ((l.take k).all digB && digB l[k]) := by
 rw [List.take_succ_eq_append_getElem h, List.all_append]; simp
theorem numD_fail {D : Nat} {l : Str} {k : Nat} (h : k < l.length) (hk : digB l[k] = false) : ¬ numD D l := fun hh => by
 have := hh.2.2 l[k] (List.getElem_mem h)
 rw [hk] at this
 cases this

set_option maxRecDepth 100000 in
set_option maxHeartbeats 4000000 in
theorem number_calls (w : World) (s : Str) (D : Nat) (hD : D ≤ 9) (hs : s.length ≤ 1000000) : Calls Tryz.prog 182 #[.string ⟨s.toArray⟩, .int .i64 (D : Int)] w (NumPost w (numQ D s)) := by
 have hcp := Any.strings_CutPrefix Tryz.lays103 ⟨s.toArray⟩ ⟨#[45]⟩ w
 change Calls Tryz.prog 205 _ _ (fun e w' => e = .returned (.tuple #[.string ⟨(numT s).toArray⟩, .bool (numMi s)]) ∧ w' = w) at hcp
 have HCP := Lib.hid hcp
 obtain ⟨d, hd⟩ : ∃ d, numT s = d := ⟨_, rfl⟩
 obtain ⟨mi, hmi⟩ : ∃ mi, numMi s = mi := ⟨_, rfl⟩
 have HQ1 : Hid (¬ numD D d → numQ D s = none) := Lib.hid (fun h => numQ_none1 (by rw [hd]; exact h))
 have HQ2 : Hid (¬ (canD d ∧ ¬ (mi = true ∧ d = [48])) → numQ D s = none) := Lib.hid (fun h => numQ_none2 (by unfold numC; rw [hd, hmi]; exact h))
 have HQ3 : Hid (numD D d → canD d ∧ ¬ (mi = true ∧ d = [48]) → ∃ n, numQ D s = some n ∧ Lib.atoi s = some n ∧ -1000000000 < n ∧ n < 1000000000 ∧ s.length ≤ 10) := Lib.hid (fun h1 h2 => by
  rw [← hd] at h1 h2
  rw [← hmi] at h2
  obtain ⟨n, e, b1, b2, _, b3⟩ := num_atoi h1 hD
  exact ⟨n, by unfold numQ; rw [if_pos ⟨h1, h2⟩]; exact e, e, b1, b2, b3⟩)
 rw [hd, hmi] at HCP
 have hdl : d.length ≤ s.length := by rw [← hd]; unfold numT Lib.trimPrefix; split <;> simp
 have hds : (⟨d.toArray⟩ : ByteArray).size = d.length := by simp [ByteArray.size]
 clear hcp hd hmi
 go_enter Tryz.func182, Tryz.ntmps182
 go_wp2_with fail
 refine HCP.out.mono ?_
 rintro e w1 ⟨rfl, rfl⟩
 have HIN := Lib.hid (inI_calls w1 (d.length : Int) 1 (D : Int))
 rw [← hds] at HIN
 obtain ⟨db, hdb⟩ : ∃ db : ByteArray, db = ⟨d.toArray⟩ := ⟨_, rfl⟩
 rw [← hdb] at HIN hds ⊢
 have HDB := Lib.hid hdb
 have HDL : Hid (db.size = d.length) := Lib.hid hds
 have HGET : Hid (∀ k (h : k < db.size) (h2 : k < d.length), db[k] = d[k]) := Lib.hid (by subst hdb; intro k h h2; rfl)
 clear hds hdb HCP
 go_upto_region 2 with (fail)
 go_cut [37] (fun p wy => ∃ fl : Bool, p = .bool fl ∧ Pure w1 wy ∧ (fl = true → numQ D s = none) ∧ (fl = false → 1 ≤ d.length ∧ d.length ≤ D ∧ canD d ∧ ¬ (mi = true ∧ d = [48])))
 case first =>
  go_wp2_with fail
  refine HIN.out.mono ?_
  rintro e w2 ⟨rfl, hm2⟩
  have HM2 := Lib.hid hm2
  clear hm2 HIN
  by_cases hin : 1 ≤ (db.size : Int) ∧ (db.size : Int) ≤ D
  rotate_left
  ·have hdec : (decide ((1 : Int) ≤ (db.size : Int)) && decide ((db.size : Int) ≤ (D : Int))) = false := by
    rw [Bool.and_eq_false_iff]; simp only [decide_eq_false_iff_not]
    omega
   rw [hdec]
   have HN := Lib.hid (HQ1.out (fun h => hin (by have h1 := h.1; have h2 := h.2.1; have h3 := HDL.out; omega)))
   clear hin hdec HQ1 HQ2 HQ3
   go_wp2_with fail
   go_meet
   exact ⟨true, rfl, HM2.out, fun _ => HN.out, fun h => by cases h⟩
  have hdec : (decide ((1 : Int) ≤ (db.size : Int)) && decide ((db.size : Int) ≤ (D : Int))) = true := by
   rw [Bool.and_eq_true_iff]; simp only [decide_eq_true_eq]
   omega
  rw [hdec]
  clear hdec
  have hpos : 0 < db.size := by omega
  by_cases hlz : 1 < d.length ∧ d.headD 0 = 48
  ·have HN := Lib.hid (HQ2.out (fun h => h.1 hlz))
   have h1 : (1 : Int) < (db.size : Int) := by have := HDL.out; omega
   have hx : ((db[0].toNat : Int) == 48) = true := by
    rw [HGET.out 0 hpos (by omega)]
    have h2 := hlz.2
    cases d with
    | nil => simp at hlz
    | cons c t => simp at h2; subst h2; rfl
   clear hlz HQ1 HQ2 HQ3
   go_wp2_with fail
   go_meet
   exact ⟨true, rfl, HM2.out, fun _ => HN.out, fun h => by cases h⟩
  have hlz2 : ¬ (1 : Int) < (db.size : Int) ∨ ((1 : Int) < (db.size : Int) ∧ ((db[0].toNat : Int) == 48) = false) := by
   by_cases h1 : (1 : Int) < (db.size : Int)
   ·refine .inr ⟨h1, ?_⟩
    rw [beq_eq_false_iff_ne]
    intro h2
    refine hlz ⟨by have := HDL.out; omega, ?_⟩
    rw [HGET.out 0 hpos (by have := HDL.out; omega)] at h2
    cases d with
    | nil => have := HDL.out; rw [List.length_nil] at this; omega
    | cons c t => exact UInt8.toNat_inj.mp (by have h3 : ((c.toNat : Int)) = 48 := h2; show c.toNat = 48; omega)
   ·exact .inl h1
  by_cases hmz : mi = true ∧ d = [48]
  ·have HN := Lib.hid (HQ2.out (fun h => h.2 hmz))
   obtain ⟨rfl, rfl⟩ := hmz
   obtain rfl := HDB.out
   clear HQ1 HQ2 HQ3 hlz hlz2 HGET
   go_wp2_with fail
   go_meet
   exact ⟨true, rfl, HM2.out, fun _ => HN.out, fun h => by cases h⟩
  have hmz2 : mi = false ∨ (mi = true ∧ (d == [48]) = false) := by
   cases mi with
   | false => exact .inl rfl
   | true =>
    refine .inr ⟨rfl, ?_⟩
    rw [beq_eq_false_iff_ne]
    exact fun h => hmz ⟨rfl, h⟩
  have HRES : Hid (1 ≤ d.length ∧ d.length ≤ D ∧ canD d ∧ ¬ (mi = true ∧ d = [48])) := Lib.hid ⟨by have := HDL.out; omega, by have := HDL.out; omega, hlz, hmz⟩
  clear hmz hlz HQ1 HQ2 HQ3
  obtain ⟨c0, hc0⟩ : ∃ c0 : UInt8, db[0] = c0 := ⟨_, rfl⟩
  rw [hc0] at hlz2
  have hlz3 : ¬ (1 : Int) < (d.length : Int) ∨ ((1 : Int) < (d.length : Int) ∧ ((c0.toNat : Int) == 48) = false ∧ ¬ (c0.toNat : Int) = 48 ∧ ¬ c0.toNat = 48) := hlz2.imp (fun h => by have := HDL.out; omega) (fun h => ⟨by have := HDL.out; have := h.1; omega, h.2, by simpa using h.2, by have := h.2; simp at this; omega⟩)
  clear hlz2
  have hdb := HDB.out
  subst hdb
  clear HDB HDL HGET
  rcases hlz3 with h1 | ⟨h1, h2, h2b, h2c⟩ <;> rcases hmz2 with rfl | ⟨rfl, h4⟩
  all_goals
   go_wp2_with fail
   go_meet
   exact ⟨false, rfl, HM2.out, fun h => (by cases h), fun _ => HRES.out⟩
 case rest =>
  obtain ⟨fl, rfl, hm2, hno, hyes⟩ := hcut
  have HM2 := Lib.hid hm2
  cases fl
  rotate_left
  ·have HN := Lib.hid (hno rfl)
   clear hno hyes HQ1 HQ2 HQ3 hm2
   go_wp2_with fail
   try simp only [Exit.inBlock, Exit.then]
   refine bodyPost_ret (v := .tuple #[.int .i64 0, .bool false]) (by simp [results, Tryz.results182, go_sem]) rfl ?_
   exact NumPost.no HN.out HM2.out
  obtain ⟨hl1, hl2, hcan, hnz⟩ := hyes rfl
  have HQ4 : Hid (numD D d → ∃ n, numQ D s = some n ∧ Lib.atoi s = some n ∧ -1000000000 < n ∧ n < 1000000000 ∧ s.length ≤ 10) := Lib.hid (fun h => HQ3.out h ⟨hcan, hnz⟩)
  clear hno hyes hm2 HQ2 HQ3 hcan hnz HIN
  go_wp2_with fail
  go_loopg [40] db.size (fun gk i wr => ∃ k : Nat, db.size - k = gk ∧ k ≤ db.size ∧ i = .int .i64 (k : Int) ∧ (d.take k).all digB = true ∧ wr = wc)
  case atStart => exact ⟨0, by omega, by omega, rfl, rfl, rfl⟩
  case round =>
   obtain ⟨k, rfl, hk, rfl, hall, rfl⟩ := hrel
   have HA := Lib.hid hall
   clear hall
   by_cases hlt : k < db.size
   ·have hkd : k < d.length := by have := HDL.out; omega
    have hk9 : k < 9 := by omega
    have hix := HGET.out k hlt hkd
    have HSN := Lib.hid (allD_take hkd)
    have HFA := Lib.hid (fun h => HQ1.out (numD_fail (D := D) hkd h))
    rw [← hix] at HSN HFA
    obtain ⟨c, hc⟩ : ∃ c, db[k] = c := ⟨_, rfl⟩
    rw [hc] at HSN HFA
    clear hix hkd
    go_wp2_with fail
    refine (digit_calls _ _).mono ?_
    rintro e w' ⟨rfl, rfl⟩
    cases hd : digitB c.toNat
    ·have HN := Lib.hid (HFA.out hd)
     clear hd HFA HSN HA
     go_wp2_with fail
     try simp only [Exit.inBlock, Exit.then]
     refine bodyPost_ret (v := .tuple #[.int .i64 0, .bool false]) (by simp [results, Tryz.results182, go_sem]) rfl ?_
     exact NumPost.no HN.out HM2.out
    ·have hd2 : digB c = true := hd
     go_wp2_with fail
     go_roundg (db.size - (k + 1))
     case measure => omega
     case rel => exact ⟨k + 1, rfl, hlt, by simp, by rw [HSN.out, HA.out, hd2]; rfl, rfl⟩
   ·obtain rfl : k = db.size := by omega
    have hall : d.all digB = true := by have := HA.out; rwa [HDL.out, List.take_of_length_le (Nat.le_refl _)] at this
    obtain ⟨n, hn1, hn2, hn3, hn4, hn5⟩ := HQ4.out ⟨hl1, hl2, fun c hc => List.all_eq_true.1 hall c hc⟩
    have HAT := Lib.hid (atoiW_calls wr s n (by omega) hn2)
    have HN := Lib.hid hn1
    clear hall hn1 hn2 HQ4 HA HQ1
    go_wp2_with fail
    refine HAT.out.mono ?_
    rintro e w5 ⟨rfl, hm5⟩
    clear HAT
    go_upto_region 11 with (fail)
    go_quiet (fail)
    go_wp2_with fail
    try simp only [Exit.inBlock, Exit.then]
    refine bodyPost_ret (v := .tuple #[.int .i64 n, .bool true]) (by simp [results, Tryz.results182, go_sem]) rfl ?_
    rw [HN.out]
    exact ⟨n, rfl, (fun m hm => (by cases hm; rfl)), hn3, hn4, (HM2.out.trans hm5).drewN _⟩

end Go.Proofs.YtbajgjbdcgakoaaGreatDoor

/- Two hex digits as strconv reads them. -/
namespace Go.Proofs.YtbajgjbdcgakoaaGreatDoor
set_option linter.unusedVariables false
set_option linter.unusedSimpArgs false
open Go.RowKit

/-- The digit that strconv makes of a byte; 255: none. -/
def hv (x : Nat) : Nat := if 48 ≤ x ∧ x ≤ 57 then x - 48 else if 97 ≤ (x ||| 32) ∧ (x ||| 32) ≤ 122 then (x ||| 32) - 87 else 255
end Go.Proofs.YtbajgjbdcgakoaaGreatDoor

/-
 DERIVED: THE SHELF's CONTRACTS AT THIS DUMP, IN PLAIN WORDS (tools/lay-plain.mjs out of 'YtbajgjbdcgakoaaGreatDoorLaySyn.lean', which tools/lay-shelf.mjs wrote): THE SAME DECLARATIONS UNDER THE SAME NAMES: 'import', 'namespace', 'open', 'def', 'theorem' AND NOTHING ELSE: no command of the shelf's: FOR A HAND-IN. Each laying: the table of numbers ('.._ren') and one theorem, a field a fact of the dump's own or the kernel's comparison; each contract: ONE APPLICATION.
-/
namespace Go.Proofs
open Go.Shelf
end Go.Proofs

/- Quoted strings: escaped and Unquote of package intake. -/
namespace Go.Proofs.YtbajgjbdcgakoaaGreatDoor
set_option linter.unusedVariables false
set_option linter.unusedSimpArgs false
open Go.RowKit

/-- The sentinel is an error that is there. -/
def ErrS (w : World) : Prop := ∃ te pe, w.cell? ⟨6, 0, none⟩ = some (.iface te pe)
theorem ErrS.pure {w w' : World} (h : ErrS w) (hm : Pure w w') : ErrS w' := by
 obtain ⟨te, pe, h⟩ := h
 exact ⟨te, pe, hm.keep h id⟩
end Go.Proofs.YtbajgjbdcgakoaaGreatDoor

/- Quoted strings: Unquote of package intake. -/
namespace Go.Proofs.YtbajgjbdcgakoaaGreatDoor
set_option linter.unusedVariables false
set_option linter.unusedSimpArgs false
open Go.RowKit

/-- Where a reader of a quoted string stands. -/
def UnqAt (l : Str) (k : Nat) (acc : Str) : Prop := k ≤ l.length ∧ ∃ f, (l.drop k).length < f ∧ unqF f (l.drop k) acc k = unqS l
theorem UnqAt.start (r : Str) : UnqAt (34 :: r) 1 [] := ⟨by simp, r.length + 1, by simp, rfl⟩
theorem UnqAt.bad {l : Str} {k : Nat} {acc r : Str} {c : UInt8} (h : UnqAt l k acc) (hr : l.drop k = c :: r) (hc : c ≠ 34) (hd : decP (c :: r) = none) : unqS l = none := by
 obtain ⟨_, f, h1, h2⟩ := h
 rw [hr] at h1 h2
 rw [← h2]
 match f, h1 with
 | f + 1, _ => simp [unqF, hc, hd]
theorem UnqAt.next {l : Str} {k : Nat} {acc r : Str} {c d : UInt8} {n : Nat} (h : UnqAt l k acc) (hr : l.drop k = c :: r) (hc : c ≠ 34) (hd : decP (c :: r) = some (d, n)) : UnqAt l (k + n) (acc ++ [d]) ∧ 1 ≤ n ∧ k + n ≤ l.length := by
 obtain ⟨hk, f, h1, h2⟩ := h
 obtain ⟨hn, hp⟩ := decP_some hd
 have hle := hp.length_le
 have h0 : 1 ≤ n := by
  rw [hn]
  unfold quoB
  split <;> (try split) <;> (try split) <;> simp
 have hlen : (l.drop k).length = l.length - k := List.length_drop ..
 rw [← hr, ← hn, hlen] at hle
 refine ⟨⟨by omega, ?_⟩, h0, by omega⟩
 rw [hr] at h1 h2
 match f, h1, h2 with
 | f + 1, h1, h2 =>
  refine ⟨f, ?_, ?_⟩
  ·rw [List.length_drop]
   rw [← hr, hlen] at h1
   omega
  ·rw [← h2]
   simp only [unqF, hc, if_false, hd]
   rw [← hr, List.drop_drop]
end Go.Proofs.YtbajgjbdcgakoaaGreatDoor

/- The head line of an item, as the program reads it. -/
namespace Go.Proofs.YtbajgjbdcgakoaaGreatDoor
set_option linter.unusedVariables false
set_option linter.unusedSimpArgs false
open Go.RowKit

def NatlPost (w : World) (o : Option Int) (e : Ending) (w' : World) : Prop := ∃ v : Int, e = .returned (.tuple #[.int .i64 v, .bool (o.isSome && decide (0 ≤ v))]) ∧ (∀ n, o = some n → v = n) ∧ -1000000000 < v ∧ v < 1000000000 ∧ Pure w w'
theorem natural_calls (w : World) (s : Str) (D : Nat) (hD : D ≤ 9) (hs : s.length ≤ 1000000) : Calls Tryz.prog 146 #[.string ⟨s.toArray⟩, .int .i64 (D : Int)] w (NatlPost w (numQ D s)) := by
 have HN := Lib.hid (number_calls w s D hD hs)
 generalize numQ D s = o at *
 go_enter Tryz.func146, Tryz.ntmps146
 go_wp2_with fail
 refine HN.out.mono ?_
 rintro e w1 ⟨v, rfl, h1, h2, h3, hm⟩
 have H1 := Lib.hid h1
 clear HN h1
 cases hb : o.isSome
 ·go_wp2_with fail
  refine bodyPost_ret (v := .tuple #[.int .i64 v, .bool false]) (by simp [results, Tryz.results146, go_sem]) rfl ?_
  exact ⟨v, by rw [hb]; rfl, H1.out, h2, h3, hm⟩
 ·go_wp2_with fail
  refine bodyPost_ret (v := .tuple #[.int .i64 v, .bool (decide (0 ≤ v))]) (by simp [results, Tryz.results146, go_sem]) rfl ?_
  exact ⟨v, by rw [hb]; simp, H1.out, h2, h3, hm⟩
end Go.Proofs.YtbajgjbdcgakoaaGreatDoor

/-
 DERIVED: THE SHELF's CONTRACTS AT THIS DUMP, IN PLAIN WORDS (tools/lay-plain.mjs out of 'YtbajgjbdcgakoaaGreatDoorLayCut.lean', which tools/lay-shelf.mjs wrote): THE SAME DECLARATIONS UNDER THE SAME NAMES: 'import', 'namespace', 'open', 'def', 'theorem' AND NOTHING ELSE: no command of the shelf's: FOR A HAND-IN. Each laying: the table of numbers ('.._ren') and one theorem, a field a fact of the dump's own or the kernel's comparison; each contract: ONE APPLICATION.
-/
namespace Go.Proofs
open Go.Shelf
def Tryz.lays145_ren : Go.Shelf.Ren := ⟨fun | 145 => 140 | 220 => 177 | 219 => 202 | 217 => 170 | 225 => 181 | 224 => 180 | 267 => 215 | 266 => 198 | 314 => 223 | n => n, fun | 9 => 9 | 4 => 4 | 59 => 163 | 3 => 3 | 5 => 5 | 46 => 56 | 146 => 88 | 51 => 87 | n => n, fun | 1 => 1 | n => n⟩
theorem Tryz.lays145 : Go.Proofs.Lays.n145 Tryz.prog Tryz.lays145_ren := {
 mixed := by kernel_rfl
 f145 := Tryz.func140.trans (congrArg some (by kernel_rfl))
 f217 := Tryz.func170.trans (congrArg some (by kernel_rfl))
 f219 := Tryz.func202.trans (congrArg some (by kernel_rfl))
 f220 := Tryz.func177.trans (congrArg some (by kernel_rfl))
 f224 := Tryz.func180.trans (congrArg some (by kernel_rfl))
 f225 := Tryz.func181.trans (congrArg some (by kernel_rfl))
 f266 := Tryz.func198.trans (congrArg some (by kernel_rfl))
 f267 := Tryz.func215.trans (congrArg some (by kernel_rfl))
 f314 := Tryz.func223.trans (congrArg some (by kernel_rfl))
 t3 := Tryz.underlying3
 a3 := Tryz.isAgg3
 z3 := Tryz.sizeOf3
 v3 := Tryz.zeroValue3
 t4 := Tryz.underlying4
 a4 := Tryz.isAgg4
 z4 := Tryz.sizeOf4
 v4 := Tryz.zeroValue4
 t5 := Tryz.underlying5
 a5 := Tryz.isAgg5
 z5 := Tryz.sizeOf5
 v5 := Tryz.zeroValue5
 t9 := Tryz.underlying9
 a9 := Tryz.isAgg9
 z9 := Tryz.sizeOf9
 v9 := Tryz.zeroValue9
 t46 := Tryz.underlying56
 a46 := Tryz.isAgg56
 z46 := Tryz.sizeOf56
 v46 := Tryz.zeroValue56
 t51 := Tryz.underlying87
 a51 := Tryz.isAgg87
 z51 := Tryz.sizeOf87
 v51 := Tryz.zeroValue87
 t59 := Tryz.underlying163
 a59 := Tryz.isAgg163
 z59 := Tryz.sizeOf163
 v59 := Tryz.zeroValue163
 t146 := Tryz.underlying88
 a146 := Tryz.isAgg88
 z146 := Tryz.sizeOf88
 v146 := Tryz.zeroValue88
 g1 := by kernel_rfl }
end Go.Proofs

/- lines of the reference, for any closure that takes a line. -/
namespace Go.Proofs.YtbajgjbdcgakoaaGreatDoor
set_option linter.unusedVariables false
set_option linter.unusedSimpArgs false
open Go.RowKit

end Go.Proofs.YtbajgjbdcgakoaaGreatDoor

/- A piece of the text of a search: what token it is. -/
namespace Go.Proofs.YtbajgjbdcgakoaaGreatDoor
set_option linter.unusedVariables false
set_option linter.unusedSimpArgs false
open Go.RowKit

def CutP (w : World) (s : Str) (c : UInt8) (e : Ending) (w' : World) : Prop := e = .returned (.tuple #[.string ⟨(headS c s).toArray⟩, .string ⟨(restS c s).toArray⟩, .bool (fstL c s).isSome]) ∧ Pure w w'
theorem cutB_calls (w : World) (s : Str) (c : UInt8) (hM : MlnS w) (hs : s.length ≤ 1000000) : Calls Tryz.prog 140 #[.string ⟨s.toArray⟩, .string ⟨#[c]⟩] w (CutP w s c) := by
 obtain ⟨m, hm⟩ := hM
 refine (Any.strings_Cut Tryz.lays145 ⟨s.toArray⟩ ⟨#[c]⟩ m w (by simp [ByteArray.size]; omega) hm).mono ?_
 rintro e w' ⟨rfl, n, rfl⟩
 refine ⟨?_, (Mod.refl _ _).drewN n⟩
 have h := cut_byte c s
 show Ending.returned (.tuple #[.string ⟨(Lib.cut s [c]).1.toArray⟩, .string ⟨(Lib.cut s [c]).2.1.toArray⟩, .bool (Lib.cut s [c]).2.2]) = _
 rw [h]
 unfold headS restS
 cases fstL c s <;> rfl
def PcP (w : World) (s : Str) (e : Ending) (w' : World) : Prop := ∃ qr : QR, e = .returned (.tuple #[.int .i64 (pieceQ s).1, qA qr]) ∧ QS w' qr ∧ qr.key = (pieceQ s).2 ∧ QFr w.heap.size qr ∧ Pure w w'
theorem natQ_of {s : Str} {v : Int} (h : ∀ n, numQ 6 s = some n → v = n) : natQ s = if ((numQ 6 s).isSome && decide (0 ≤ v)) = true then some v else none := by
 unfold natQ
 cases hn : numQ 6 s with
 | none => rfl
 | some n =>
  have e := h n hn
  subst e
  by_cases h0 : 0 ≤ v
  ·simp [h0]
  ·simp [h0]

theorem restS_len (c : UInt8) (s : Str) : (restS c s).length ≤ s.length := by
 unfold restS
 cases hf : fstL c s with
 | none => simp
 | some p => have := fstL_len hf; simp only; omega

theorem keyS_calls (w : World) (s : Str) (hs : s.length ≤ 1000000) : Calls Tryz.prog 68 #[.string ⟨s.toArray⟩] w (BoolSame w (keyB s)) := by
 have h := key_calls w ⟨s.toArray⟩ (by show s.toArray.size ≤ _; rw [List.size_toArray]; omega)
 simpa using h
theorem colon_owner (rs : Str) : colonQ [111, 119, 110, 101, 114] rs = if keyB rs = true then (3, .mk 9 [rs] 0 []) else (8, q0) := by unfold colonQ; simp
theorem colon_name (rs : Str) : colonQ [110, 97, 109, 101] rs = if patB rs = true then (3, .mk 11 [rs] 0 []) else (8, q0) := by unfold colonQ; simp
theorem colon_from (rs : Str) : colonQ [102, 114, 111, 109] rs = if (natQ rs).isSome = true then (3, .mk 12 [] ((natQ rs).getD 0) []) else (8, q0) := by unfold colonQ; simp
theorem colon_until (rs : Str) : colonQ [117, 110, 116, 105, 108] rs = if (natQ rs).isSome = true then (3, .mk 13 [] ((natQ rs).getD 0) []) else (8, q0) := by unfold colonQ; simp
theorem colon_kind (rs : Str) : colonQ [107, 105, 110, 100] rs = if kndI rs ≠ 0 then (3, .mk 10 [] (kndI rs) []) else (8, q0) := by unfold colonQ; simp
theorem colon_else {hd : Str} (rs : Str) (h1 : ¬ hd = [111, 119, 110, 101, 114]) (h2 : ¬ hd = [110, 97, 109, 101]) (h3 : ¬ hd = [102, 114, 111, 109]) (h4 : ¬ hd = [117, 110, 116, 105, 108]) (h5 : ¬ hd = [107, 105, 110, 100]) : colonQ hd rs = (8, q0) := by
 unfold colonQ
 rw [if_neg (fun h => h1 h.1), if_neg (fun h => h2 h.1), if_neg (fun h => h3 h.1), if_neg (fun h => h4 h.1), if_neg (fun h => h5 h.1)]
theorem knd_at {rs : Str} {j : Nat} (h1 : 1 ≤ j) (h4 : j ≤ 4) (h : kwQ j = rs) : kndI rs = j := by
 subst h
 obtain rfl | rfl | rfl | rfl : j = 1 ∨ j = 2 ∨ j = 3 ∨ j = 4 := by omega
 all_goals rfl
theorem knd_none {rs : Str} (h : ∀ t : Nat, 1 ≤ t → t < 5 → kwQ t ≠ rs) : kndI rs = 0 := by
 have a1 : ¬ rs = [109, 97, 105, 108] := fun e => h 1 (by omega) (by omega) e.symm
 have a2 : ¬ rs = [102, 105, 108, 101] := fun e => h 2 (by omega) (by omega) e.symm
 have a3 : ¬ rs = [98, 111, 120] := fun e => h 3 (by omega) (by omega) e.symm
 have a4 : ¬ rs = [110, 111, 116, 101] := fun e => h 4 (by omega) (by omega) e.symm
 unfold kndI
 rw [if_neg a1, if_neg a2, if_neg a3, if_neg a4]

set_option maxRecDepth 100000 in
set_option maxHeartbeats 8000000 in
theorem piece_calls (w : World) (s : Str) (hs : s.length ≤ 300000) (hM : MlnS w) : Calls Tryz.prog 105 #[.string ⟨s.toArray⟩] w (PcP w s) := by
 have h30 := Blk.new w 29 #[.int .i64 0, .slice none 0 0, .int .i64 0, .slice none 0 0]
 have hP0 := pure_alloc w (.cells #[.int .i64 0, .slice none 0 0, .int .i64 0, .slice none 0 0] 29)
 have HPQ : Hid (pieceQ s = if s = [97, 108, 108] then (3, .mk 1 [] 0 []) else if s = [97, 110, 100] then (4, q0) else if s = [111, 114] then (5, q0) else if s = [110, 111, 116] then (6, q0)
  else if patB s = true then (3, .mk 2 [s] 0 []) else match fstL 47 s with
  | some p => slashQ p.1 p.2
  | none => colonQ (headS 58 s) (restS 58 s)) := Lib.hid rfl
 have HML := Lib.hid (fun W (h : Pure w W) => hM.pure h)
 clear hM
 go_enter Tryz.func105, Tryz.ntmps105
 go_upto_region 1 with (fail)
 generalize (w.alloc (.cells #[.int .i64 0, .slice none 0 0, .int .i64 0, .slice none 0 0] 29)) = w0 at *
 generalize hg3 : w.heap.size = g3 at *
 have hgw : w.heap.size ≤ g3 := Nat.le_of_eq hg3
 clear hg3
 have H3 := Lib.hid h30
 have HP0 : Hid (Pure w w0) := Lib.hid hP0
 clear h30 hP0
 by_cases eall : s = [97, 108, 108]
 ·subst eall
  have HX := Lib.hid (H3.out)
  have HPY := Lib.hid (HP0.out)
  have h3x := HX.out
  have y0 := h3x.cell 0; have yf0 := h3x.frozen 0; have y1 := h3x.cell 1; have yf1 := h3x.frozen 1; have y2 := h3x.cell 2; have yf2 := h3x.frozen 2; have y3 := h3x.cell 3; have yf3 := h3x.frozen 3; simp at y0 y1 y2 y3
  clear h3x
  go_wp2_with fail
  clear y0 y1 y2 y3 yf0 yf1 yf2 yf3
  have h4F := st4_blk (a := .int .i64 1) (b := .slice none 0 0) (c := .int .i64 0) (d := .slice none 0 0) HX.out
  have HMF : Hid (Pure w (((((w0).setCell ⟨g3, 0, none⟩ (.int .i64 1)).setCell ⟨g3, 1, none⟩ (.slice none 0 0)).setCell ⟨g3, 2, none⟩ (.int .i64 0)).setCell ⟨g3, 3, none⟩ (.slice none 0 0))) := Lib.hid (Mod.trans' HPY.out (st4_mod (g := g3)) (fun i hi hlt => by omega))
  have HQS : Hid (QS (((((w0).setCell ⟨g3, 0, none⟩ (.int .i64 1)).setCell ⟨g3, 1, none⟩ (.slice none 0 0)).setCell ⟨g3, 2, none⟩ (.int .i64 0)).setCell ⟨g3, 3, none⟩ (.slice none 0 0)) (.mk 1 none 0 [] 0 none 0 [])) := Lib.hid (.mk Sl.nil_ Sl.nil_ (fun a ha => by cases ha))
  have HFC := Lib.hid ((show pieceQ [97, 108, 108] = (3, .mk 1 [] 0 []) from rfl))
  have x0 := h4F.cell 0; have x1 := h4F.cell 1; have x2 := h4F.cell 2; have x3 := h4F.cell 3; simp at x0 x1 x2 x3
  try simp only [Exit.inBlock, Exit.then]
  refine bodyPost_ret (v := .tuple #[.int .i64 3, .agg #[.int .i64 1, .slice none 0 0, .int .i64 0, .slice none 0 0]]) (by simp [results, Tryz.results105, go_sem, x0, x1, x2, x3]) rfl ?_
  exact ⟨.mk 1 none 0 [] 0 none 0 [], by rw [HFC.out]; rfl, HQS.out, by rw [HFC.out, QR.key_mk]; rfl, .mk (fun h => absurd rfl h) (fun a ha => by cases ha), HMF.out⟩
 have nall : (s == [97, 108, 108]) = false := by simpa using eall
 by_cases eand : s = [97, 110, 100]
 ·subst eand
  have HX := Lib.hid (H3.out)
  have HPY := Lib.hid (HP0.out)
  have h3x := HX.out
  have y0 := h3x.cell 0; have yf0 := h3x.frozen 0; have y1 := h3x.cell 1; have yf1 := h3x.frozen 1; have y2 := h3x.cell 2; have yf2 := h3x.frozen 2; have y3 := h3x.cell 3; have yf3 := h3x.frozen 3; simp at y0 y1 y2 y3
  clear h3x
  go_wp2_with fail
  clear y0 y1 y2 y3 yf0 yf1 yf2 yf3
  have h4F := st4_blk (a := .int .i64 0) (b := .slice none 0 0) (c := .int .i64 0) (d := .slice none 0 0) HX.out
  have HMF : Hid (Pure w (((((w0).setCell ⟨g3, 0, none⟩ (.int .i64 0)).setCell ⟨g3, 1, none⟩ (.slice none 0 0)).setCell ⟨g3, 2, none⟩ (.int .i64 0)).setCell ⟨g3, 3, none⟩ (.slice none 0 0))) := Lib.hid (Mod.trans' HPY.out (st4_mod (g := g3)) (fun i hi hlt => by omega))
  have HQS : Hid (QS (((((w0).setCell ⟨g3, 0, none⟩ (.int .i64 0)).setCell ⟨g3, 1, none⟩ (.slice none 0 0)).setCell ⟨g3, 2, none⟩ (.int .i64 0)).setCell ⟨g3, 3, none⟩ (.slice none 0 0)) (.mk 0 none 0 [] 0 none 0 [])) := Lib.hid (.mk Sl.nil_ Sl.nil_ (fun a ha => by cases ha))
  have HFC := Lib.hid ((show pieceQ [97, 110, 100] = (4, .mk 0 [] 0 []) from rfl))
  have x0 := h4F.cell 0; have x1 := h4F.cell 1; have x2 := h4F.cell 2; have x3 := h4F.cell 3; simp at x0 x1 x2 x3
  try simp only [Exit.inBlock, Exit.then]
  refine bodyPost_ret (v := .tuple #[.int .i64 4, .agg #[.int .i64 0, .slice none 0 0, .int .i64 0, .slice none 0 0]]) (by simp [results, Tryz.results105, go_sem, x0, x1, x2, x3]) rfl ?_
  exact ⟨.mk 0 none 0 [] 0 none 0 [], by rw [HFC.out]; rfl, HQS.out, by rw [HFC.out, QR.key_mk]; rfl, .mk (fun h => absurd rfl h) (fun a ha => by cases ha), HMF.out⟩
 have nand : (s == [97, 110, 100]) = false := by simpa using eand
 by_cases eor : s = [111, 114]
 ·subst eor
  have HX := Lib.hid (H3.out)
  have HPY := Lib.hid (HP0.out)
  have h3x := HX.out
  have y0 := h3x.cell 0; have yf0 := h3x.frozen 0; have y1 := h3x.cell 1; have yf1 := h3x.frozen 1; have y2 := h3x.cell 2; have yf2 := h3x.frozen 2; have y3 := h3x.cell 3; have yf3 := h3x.frozen 3; simp at y0 y1 y2 y3
  clear h3x
  go_wp2_with fail
  clear y0 y1 y2 y3 yf0 yf1 yf2 yf3
  have h4F := st4_blk (a := .int .i64 0) (b := .slice none 0 0) (c := .int .i64 0) (d := .slice none 0 0) HX.out
  have HMF : Hid (Pure w (((((w0).setCell ⟨g3, 0, none⟩ (.int .i64 0)).setCell ⟨g3, 1, none⟩ (.slice none 0 0)).setCell ⟨g3, 2, none⟩ (.int .i64 0)).setCell ⟨g3, 3, none⟩ (.slice none 0 0))) := Lib.hid (Mod.trans' HPY.out (st4_mod (g := g3)) (fun i hi hlt => by omega))
  have HQS : Hid (QS (((((w0).setCell ⟨g3, 0, none⟩ (.int .i64 0)).setCell ⟨g3, 1, none⟩ (.slice none 0 0)).setCell ⟨g3, 2, none⟩ (.int .i64 0)).setCell ⟨g3, 3, none⟩ (.slice none 0 0)) (.mk 0 none 0 [] 0 none 0 [])) := Lib.hid (.mk Sl.nil_ Sl.nil_ (fun a ha => by cases ha))
  have HFC := Lib.hid ((show pieceQ [111, 114] = (5, .mk 0 [] 0 []) from rfl))
  have x0 := h4F.cell 0; have x1 := h4F.cell 1; have x2 := h4F.cell 2; have x3 := h4F.cell 3; simp at x0 x1 x2 x3
  try simp only [Exit.inBlock, Exit.then]
  refine bodyPost_ret (v := .tuple #[.int .i64 5, .agg #[.int .i64 0, .slice none 0 0, .int .i64 0, .slice none 0 0]]) (by simp [results, Tryz.results105, go_sem, x0, x1, x2, x3]) rfl ?_
  exact ⟨.mk 0 none 0 [] 0 none 0 [], by rw [HFC.out]; rfl, HQS.out, by rw [HFC.out, QR.key_mk]; rfl, .mk (fun h => absurd rfl h) (fun a ha => by cases ha), HMF.out⟩
 have nor : (s == [111, 114]) = false := by simpa using eor
 by_cases enot : s = [110, 111, 116]
 ·subst enot
  have HX := Lib.hid (H3.out)
  have HPY := Lib.hid (HP0.out)
  have h3x := HX.out
  have y0 := h3x.cell 0; have yf0 := h3x.frozen 0; have y1 := h3x.cell 1; have yf1 := h3x.frozen 1; have y2 := h3x.cell 2; have yf2 := h3x.frozen 2; have y3 := h3x.cell 3; have yf3 := h3x.frozen 3; simp at y0 y1 y2 y3
  clear h3x
  go_wp2_with fail
  clear y0 y1 y2 y3 yf0 yf1 yf2 yf3
  have h4F := st4_blk (a := .int .i64 0) (b := .slice none 0 0) (c := .int .i64 0) (d := .slice none 0 0) HX.out
  have HMF : Hid (Pure w (((((w0).setCell ⟨g3, 0, none⟩ (.int .i64 0)).setCell ⟨g3, 1, none⟩ (.slice none 0 0)).setCell ⟨g3, 2, none⟩ (.int .i64 0)).setCell ⟨g3, 3, none⟩ (.slice none 0 0))) := Lib.hid (Mod.trans' HPY.out (st4_mod (g := g3)) (fun i hi hlt => by omega))
  have HQS : Hid (QS (((((w0).setCell ⟨g3, 0, none⟩ (.int .i64 0)).setCell ⟨g3, 1, none⟩ (.slice none 0 0)).setCell ⟨g3, 2, none⟩ (.int .i64 0)).setCell ⟨g3, 3, none⟩ (.slice none 0 0)) (.mk 0 none 0 [] 0 none 0 [])) := Lib.hid (.mk Sl.nil_ Sl.nil_ (fun a ha => by cases ha))
  have HFC := Lib.hid ((show pieceQ [110, 111, 116] = (6, .mk 0 [] 0 []) from rfl))
  have x0 := h4F.cell 0; have x1 := h4F.cell 1; have x2 := h4F.cell 2; have x3 := h4F.cell 3; simp at x0 x1 x2 x3
  try simp only [Exit.inBlock, Exit.then]
  refine bodyPost_ret (v := .tuple #[.int .i64 6, .agg #[.int .i64 0, .slice none 0 0, .int .i64 0, .slice none 0 0]]) (by simp [results, Tryz.results105, go_sem, x0, x1, x2, x3]) rfl ?_
  exact ⟨.mk 0 none 0 [] 0 none 0 [], by rw [HFC.out]; rfl, HQS.out, by rw [HFC.out, QR.key_mk]; rfl, .mk (fun h => absurd rfl h) (fun a ha => by cases ha), HMF.out⟩
 have nnot : (s == [110, 111, 116]) = false := by simpa using enot
 have HPR : Hid (pieceQ s = if patB s = true then (3, .mk 2 [s] 0 []) else match fstL 47 s with
  | some p => slashQ p.1 p.2
  | none => colonQ (headS 58 s) (restS 58 s)) := Lib.hid (by rw [HPQ.out, if_neg eall, if_neg eand, if_neg eor, if_neg enot])
 have HIP := Lib.hid (isPattern_calls w0 s (by omega))
 clear HPQ eall eand eor enot
 obtain ⟨pb, hpb⟩ : ∃ pb, patB s = pb := ⟨_, rfl⟩
 rw [hpb] at HPR HIP
 clear hpb
 go_wp2_with fail
 refine HIP.out.mono ?_
 rintro e w1 ⟨rfl, rfl⟩
 clear HIP nall nand nor nnot
 cases pb with
 | true =>
  have HX := Lib.hid (H3.out)
  have HPY := Lib.hid (HP0.out)
  have h3x := HX.out
  have h3z := h3x.alloc (.cells #[.string ⟨s.toArray⟩] 9)
  have hgw2 := h3x.lt
  have z0 := h3z.cell 0; have zf0 := h3z.frozen 0; have z1 := h3z.cell 1; have zf1 := h3z.frozen 1; have z2 := h3z.cell 2; have zf2 := h3z.frozen 2; have z3 := h3z.cell 3; have zf3 := h3z.frozen 3; simp at z0 z1 z2 z3
  clear h3z
  have y0 := h3x.cell 0; have yf0 := h3x.frozen 0; have y1 := h3x.cell 1; have yf1 := h3x.frozen 1; have y2 := h3x.cell 2; have yf2 := h3x.frozen 2; have y3 := h3x.cell 3; have yf3 := h3x.frozen 3; simp at y0 y1 y2 y3
  clear h3x
  go_wp2_with fail
  clear y0 y1 y2 y3 yf0 yf1 yf2 yf3
  clear z0 z1 z2 z3 zf0 zf1 zf2 zf3
  have hsb : Blk ((((((w0).setCell ⟨g3, 0, none⟩ (.int .i64 2)).setCell ⟨g3, 1, none⟩ (.slice (some ⟨w0.heap.size, 0, none⟩) 1 1)).setCell ⟨g3, 2, none⟩ (.int .i64 0)).setCell ⟨g3, 3, none⟩ (.slice none 0 0)).alloc (.cells #[.string ⟨s.toArray⟩] 9)) w0.heap.size 9 (strsV [s]).toArray := by
   have h := Blk.new (((((w0).setCell ⟨g3, 0, none⟩ (.int .i64 2)).setCell ⟨g3, 1, none⟩ (.slice (some ⟨w0.heap.size, 0, none⟩) 1 1)).setCell ⟨g3, 2, none⟩ (.int .i64 0)).setCell ⟨g3, 3, none⟩ (.slice none 0 0)) 9 #[.string ⟨s.toArray⟩]
   rw [show (((((w0).setCell ⟨g3, 0, none⟩ (.int .i64 2)).setCell ⟨g3, 1, none⟩ (.slice (some ⟨w0.heap.size, 0, none⟩) 1 1)).setCell ⟨g3, 2, none⟩ (.int .i64 0)).setCell ⟨g3, 3, none⟩ (.slice none 0 0)).heap.size = w0.heap.size by simp] at h
   exact h
  have h4F := (st4_blk (a := .int .i64 2) (b := .slice (some ⟨w0.heap.size, 0, none⟩) 1 1) (c := .int .i64 0) (d := .slice none 0 0) HX.out).alloc (.cells #[.string ⟨s.toArray⟩] 9)
  have HMF : Hid (Pure w ((((((w0).setCell ⟨g3, 0, none⟩ (.int .i64 2)).setCell ⟨g3, 1, none⟩ (.slice (some ⟨w0.heap.size, 0, none⟩) 1 1)).setCell ⟨g3, 2, none⟩ (.int .i64 0)).setCell ⟨g3, 3, none⟩ (.slice none 0 0)).alloc (.cells #[.string ⟨s.toArray⟩] 9))) := Lib.hid ((Mod.trans' HPY.out (st4_mod (g := g3)) (fun i hi hlt => by omega)).alloc (.cells #[.string ⟨s.toArray⟩] 9))
  have HQS : Hid (QS ((((((w0).setCell ⟨g3, 0, none⟩ (.int .i64 2)).setCell ⟨g3, 1, none⟩ (.slice (some ⟨w0.heap.size, 0, none⟩) 1 1)).setCell ⟨g3, 2, none⟩ (.int .i64 0)).setCell ⟨g3, 3, none⟩ (.slice none 0 0)).alloc (.cells #[.string ⟨s.toArray⟩] 9)) (.mk 2 (some ⟨w0.heap.size, 0, none⟩) 1 [s] 0 none 0 [])) := Lib.hid (qs_words hsb (by simp))
  have HFC := Lib.hid (HPR.out.trans (if_pos (by first | rfl | trivial)))
  have x0 := h4F.cell 0; have x1 := h4F.cell 1; have x2 := h4F.cell 2; have x3 := h4F.cell 3; simp at x0 x1 x2 x3
  try simp only [Exit.inBlock, Exit.then]
  refine bodyPost_ret (v := .tuple #[.int .i64 3, .agg #[.int .i64 2, .slice (some ⟨w0.heap.size, 0, none⟩) 1 1, .int .i64 0, .slice none 0 0]]) (by simp [results, Tryz.results105, go_sem, x0, x1, x2, x3]) rfl ?_
  exact ⟨.mk 2 (some ⟨w0.heap.size, 0, none⟩) 1 [s] 0 none 0 [], by rw [HFC.out]; rfl, HQS.out, by rw [HFC.out, QR.key_mk]; rfl, .mk (fun h => absurd rfl h) (fun a ha => by cases ha), HMF.out⟩
 | false =>
  have HP1 : Hid (pieceQ s = match fstL 47 s with
   | some p => slashQ p.1 p.2
   | none => colonQ (headS 58 s) (restS 58 s)) := Lib.hid (HPR.out.trans (if_neg (by first | decide | simp)))
  have HC := Lib.hid (cutB_calls w0 s 47 (HML.out _ HP0.out) (by omega))
  clear HPR
  go_wp2_with fail
  refine HC.out.mono ?_
  rintro e w1 ⟨rfl, hm1⟩
  have H31 := Lib.hid (H3.out.modp hm1)
  have HPW : Hid (Pure w w1) := Lib.hid (HP0.out.trans hm1)
  clear HC hm1 H3 HP0
  cases hf : fstL 47 s with
  | some p =>
   have eh : headS 47 s = p.1 := by unfold headS; rw [hf]
   have er : restS 47 s = p.2 := by unfold restS; rw [hf]
   have hpl : p.2.length ≤ s.length := by have := fstL_len hf; omega
   have HP2 : Hid (pieceQ s = slashQ p.1 p.2) := Lib.hid (by rw [HP1.out, hf])
   rw [eh, er]
   have HNT := Lib.hid (natural_calls w1 p.2 6 (by omega) (by omega))
   clear HP1 hf eh er
   obtain ⟨hd, rs⟩ := p
   simp only at HP2 HNT hpl ⊢
   go_wp2_with fail
   refine HNT.out.mono ?_
   rintro e w2 ⟨v, rfl, hv, hv1, hv2, hm2⟩
   have H32 := Lib.hid (H31.out.modp hm2)
   have HPX : Hid (Pure w w2) := Lib.hid (HPW.out.trans hm2)
   have hnq := natQ_of hv
   obtain ⟨rt, hrt⟩ : ∃ rt, ((numQ 6 rs).isSome && decide (0 ≤ v)) = rt := ⟨_, rfl⟩
   rw [hrt] at hnq ⊢
   have HNQ := Lib.hid hnq
   clear hm2 H31 HPW HNT hv hnq hrt
   cases rt with
   | false =>
    have HBAD : Hid (pieceQ s = (8, .mk 0 [] 0 [])) := Lib.hid (by rw [HP2.out]; unfold slashQ; rw [HNQ.out]; rfl)
    have HX := Lib.hid (H32.out)
    have HPY := Lib.hid (HPX.out)
    have h3x := HX.out
    have y0 := h3x.cell 0; have yf0 := h3x.frozen 0; have y1 := h3x.cell 1; have yf1 := h3x.frozen 1; have y2 := h3x.cell 2; have yf2 := h3x.frozen 2; have y3 := h3x.cell 3; have yf3 := h3x.frozen 3; simp at y0 y1 y2 y3
    clear h3x
    go_wp2_with fail
    clear y0 y1 y2 y3 yf0 yf1 yf2 yf3
    have h4F := st4_blk (a := .int .i64 0) (b := .slice none 0 0) (c := .int .i64 0) (d := .slice none 0 0) HX.out
    have HMF : Hid (Pure w (((((w2).setCell ⟨g3, 0, none⟩ (.int .i64 0)).setCell ⟨g3, 1, none⟩ (.slice none 0 0)).setCell ⟨g3, 2, none⟩ (.int .i64 0)).setCell ⟨g3, 3, none⟩ (.slice none 0 0))) := Lib.hid (Mod.trans' HPY.out (st4_mod (g := g3)) (fun i hi hlt => by omega))
    have HQS : Hid (QS (((((w2).setCell ⟨g3, 0, none⟩ (.int .i64 0)).setCell ⟨g3, 1, none⟩ (.slice none 0 0)).setCell ⟨g3, 2, none⟩ (.int .i64 0)).setCell ⟨g3, 3, none⟩ (.slice none 0 0)) (.mk 0 none 0 [] 0 none 0 [])) := Lib.hid (.mk Sl.nil_ Sl.nil_ (fun a ha => by cases ha))
    have HFC := Lib.hid (HBAD.out)
    have x0 := h4F.cell 0; have x1 := h4F.cell 1; have x2 := h4F.cell 2; have x3 := h4F.cell 3; simp at x0 x1 x2 x3
    try simp only [Exit.inBlock, Exit.then]
    refine bodyPost_ret (v := .tuple #[.int .i64 8, .agg #[.int .i64 0, .slice none 0 0, .int .i64 0, .slice none 0 0]]) (by simp [results, Tryz.results105, go_sem, x0, x1, x2, x3]) rfl ?_
    exact ⟨.mk 0 none 0 [] 0 none 0 [], by rw [HFC.out]; rfl, HQS.out, by rw [HFC.out, QR.key_mk]; rfl, .mk (fun h => absurd rfl h) (fun a ha => by cases ha), HMF.out⟩
   | true =>
    have hsl : pieceQ s = if hd = [119] then (7, .mk 4 [] v []) else if hd = [112, 114, 101] then (7, .mk 5 [] v []) else (8, q0) := by
     rw [HP2.out]; unfold slashQ; rw [HNQ.out]; rfl
    by_cases hw : hd = [119]
    ·have HBAD := Lib.hid (hsl.trans (if_pos hw))
     subst hw
     clear hsl HP2 HNQ
     have HX := Lib.hid (H32.out)
     have HPY := Lib.hid (HPX.out)
     have h3x := HX.out
     have y0 := h3x.cell 0; have yf0 := h3x.frozen 0; have y1 := h3x.cell 1; have yf1 := h3x.frozen 1; have y2 := h3x.cell 2; have yf2 := h3x.frozen 2; have y3 := h3x.cell 3; have yf3 := h3x.frozen 3; simp at y0 y1 y2 y3
     clear h3x
     go_wp2_with fail
     clear y0 y1 y2 y3 yf0 yf1 yf2 yf3
     have h4F := st4_blk (a := .int .i64 4) (b := .slice none 0 0) (c := .int .i64 v) (d := .slice none 0 0) HX.out
     have HMF : Hid (Pure w (((((w2).setCell ⟨g3, 0, none⟩ (.int .i64 4)).setCell ⟨g3, 1, none⟩ (.slice none 0 0)).setCell ⟨g3, 2, none⟩ (.int .i64 v)).setCell ⟨g3, 3, none⟩ (.slice none 0 0))) := Lib.hid (Mod.trans' HPY.out (st4_mod (g := g3)) (fun i hi hlt => by omega))
     have HQS : Hid (QS (((((w2).setCell ⟨g3, 0, none⟩ (.int .i64 4)).setCell ⟨g3, 1, none⟩ (.slice none 0 0)).setCell ⟨g3, 2, none⟩ (.int .i64 v)).setCell ⟨g3, 3, none⟩ (.slice none 0 0)) (.mk 4 none 0 [] v none 0 [])) := Lib.hid (.mk Sl.nil_ Sl.nil_ (fun a ha => by cases ha))
     have HFC := Lib.hid (HBAD.out)
     have x0 := h4F.cell 0; have x1 := h4F.cell 1; have x2 := h4F.cell 2; have x3 := h4F.cell 3; simp at x0 x1 x2 x3
     try simp only [Exit.inBlock, Exit.then]
     refine bodyPost_ret (v := .tuple #[.int .i64 7, .agg #[.int .i64 4, .slice none 0 0, .int .i64 v, .slice none 0 0]]) (by simp [results, Tryz.results105, go_sem, x0, x1, x2, x3]) rfl ?_
     exact ⟨.mk 4 none 0 [] v none 0 [], by rw [HFC.out]; rfl, HQS.out, by rw [HFC.out, QR.key_mk]; rfl, .mk (fun h => absurd rfl h) (fun a ha => by cases ha), HMF.out⟩
    ·have hwn : (hd == [119]) = false := by simpa using hw
     have hsl2 := hsl.trans (if_neg hw)
     by_cases hp : hd = [112, 114, 101]
     ·have HBAD := Lib.hid (hsl2.trans (if_pos hp))
      subst hp
      clear hsl hsl2 HP2 HNQ hw
      have HX := Lib.hid (H32.out)
      have HPY := Lib.hid (HPX.out)
      have h3x := HX.out
      have y0 := h3x.cell 0; have yf0 := h3x.frozen 0; have y1 := h3x.cell 1; have yf1 := h3x.frozen 1; have y2 := h3x.cell 2; have yf2 := h3x.frozen 2; have y3 := h3x.cell 3; have yf3 := h3x.frozen 3; simp at y0 y1 y2 y3
      clear h3x
      go_wp2_with fail
      clear y0 y1 y2 y3 yf0 yf1 yf2 yf3
      have h4F := st4_blk (a := .int .i64 5) (b := .slice none 0 0) (c := .int .i64 v) (d := .slice none 0 0) HX.out
      have HMF : Hid (Pure w (((((w2).setCell ⟨g3, 0, none⟩ (.int .i64 5)).setCell ⟨g3, 1, none⟩ (.slice none 0 0)).setCell ⟨g3, 2, none⟩ (.int .i64 v)).setCell ⟨g3, 3, none⟩ (.slice none 0 0))) := Lib.hid (Mod.trans' HPY.out (st4_mod (g := g3)) (fun i hi hlt => by omega))
      have HQS : Hid (QS (((((w2).setCell ⟨g3, 0, none⟩ (.int .i64 5)).setCell ⟨g3, 1, none⟩ (.slice none 0 0)).setCell ⟨g3, 2, none⟩ (.int .i64 v)).setCell ⟨g3, 3, none⟩ (.slice none 0 0)) (.mk 5 none 0 [] v none 0 [])) := Lib.hid (.mk Sl.nil_ Sl.nil_ (fun a ha => by cases ha))
      have HFC := Lib.hid (HBAD.out)
      have x0 := h4F.cell 0; have x1 := h4F.cell 1; have x2 := h4F.cell 2; have x3 := h4F.cell 3; simp at x0 x1 x2 x3
      try simp only [Exit.inBlock, Exit.then]
      refine bodyPost_ret (v := .tuple #[.int .i64 7, .agg #[.int .i64 5, .slice none 0 0, .int .i64 v, .slice none 0 0]]) (by simp [results, Tryz.results105, go_sem, x0, x1, x2, x3]) rfl ?_
      exact ⟨.mk 5 none 0 [] v none 0 [], by rw [HFC.out]; rfl, HQS.out, by rw [HFC.out, QR.key_mk]; rfl, .mk (fun h => absurd rfl h) (fun a ha => by cases ha), HMF.out⟩
     ·have hpn : (hd == [112, 114, 101]) = false := by simpa using hp
      have HBAD := Lib.hid (hsl2.trans (if_neg hp))
      clear hsl hsl2 HP2 HNQ hw hp
      have HX := Lib.hid (H32.out)
      have HPY := Lib.hid (HPX.out)
      have h3x := HX.out
      have y0 := h3x.cell 0; have yf0 := h3x.frozen 0; have y1 := h3x.cell 1; have yf1 := h3x.frozen 1; have y2 := h3x.cell 2; have yf2 := h3x.frozen 2; have y3 := h3x.cell 3; have yf3 := h3x.frozen 3; simp at y0 y1 y2 y3
      clear h3x
      go_wp2_with fail
      clear y0 y1 y2 y3 yf0 yf1 yf2 yf3
      have h4F := st4_blk (a := .int .i64 0) (b := .slice none 0 0) (c := .int .i64 0) (d := .slice none 0 0) HX.out
      have HMF : Hid (Pure w (((((w2).setCell ⟨g3, 0, none⟩ (.int .i64 0)).setCell ⟨g3, 1, none⟩ (.slice none 0 0)).setCell ⟨g3, 2, none⟩ (.int .i64 0)).setCell ⟨g3, 3, none⟩ (.slice none 0 0))) := Lib.hid (Mod.trans' HPY.out (st4_mod (g := g3)) (fun i hi hlt => by omega))
      have HQS : Hid (QS (((((w2).setCell ⟨g3, 0, none⟩ (.int .i64 0)).setCell ⟨g3, 1, none⟩ (.slice none 0 0)).setCell ⟨g3, 2, none⟩ (.int .i64 0)).setCell ⟨g3, 3, none⟩ (.slice none 0 0)) (.mk 0 none 0 [] 0 none 0 [])) := Lib.hid (.mk Sl.nil_ Sl.nil_ (fun a ha => by cases ha))
      have HFC := Lib.hid (HBAD.out)
      have x0 := h4F.cell 0; have x1 := h4F.cell 1; have x2 := h4F.cell 2; have x3 := h4F.cell 3; simp at x0 x1 x2 x3
      try simp only [Exit.inBlock, Exit.then]
      refine bodyPost_ret (v := .tuple #[.int .i64 8, .agg #[.int .i64 0, .slice none 0 0, .int .i64 0, .slice none 0 0]]) (by simp [results, Tryz.results105, go_sem, x0, x1, x2, x3]) rfl ?_
      exact ⟨.mk 0 none 0 [] 0 none 0 [], by rw [HFC.out]; rfl, HQS.out, by rw [HFC.out, QR.key_mk]; rfl, .mk (fun h => absurd rfl h) (fun a ha => by cases ha), HMF.out⟩
  | none =>
   have HP2 : Hid (pieceQ s = colonQ (headS 58 s) (restS 58 s)) := Lib.hid (by rw [HP1.out, hf])
   have HC2 := Lib.hid (cutB_calls w1 s 58 (HML.out _ HPW.out) (by omega))
   have hrl := restS_len 58 s
   clear HP1 hf
   go_wp2_with fail
   refine HC2.out.mono ?_
   rintro e w2 ⟨rfl, hm2⟩
   have H32 := Lib.hid (H31.out.modp hm2)
   have HPX : Hid (Pure w w2) := Lib.hid (HPW.out.trans hm2)
   clear HC2 hm2 H31 HPW
   generalize headS 58 s = hd at *
   generalize restS 58 s = rs at *
   generalize (fstL 58 s).isSome = fb at *
   have HNT := Lib.hid (natural_calls w2 rs 6 (by omega) (by omega))
   go_wp2_with fail
   refine HNT.out.mono ?_
   rintro e w3 ⟨v, rfl, hv, hv1, hv2, hm3⟩
   have H33 := Lib.hid (H32.out.modp hm3)
   have HPV : Hid (Pure w w3) := Lib.hid (HPX.out.trans hm3)
   have hnq := natQ_of hv
   obtain ⟨rt, hrt⟩ : ∃ rt, ((numQ 6 rs).isSome && decide (0 ≤ v)) = rt := ⟨_, rfl⟩
   rw [hrt] at hnq ⊢
   have HNQ := Lib.hid hnq
   clear hm3 H32 HPX HNT hv hnq hrt
   by_cases cowner : hd = [111, 119, 110, 101, 114]
   ·subst cowner
    have HK := Lib.hid (keyS_calls w3 rs (by omega))
    have HCO := Lib.hid (HP2.out.trans (colon_owner rs))
    obtain ⟨kb, hkb⟩ : ∃ kb, keyB rs = kb := ⟨_, rfl⟩
    rw [hkb] at HK HCO
    clear hkb HP2 HNQ
    go_wp2_with fail
    refine HK.out.mono ?_
    rintro e w4 ⟨rfl, rfl⟩
    clear HK
    cases kb with
    | true =>
     have HX := Lib.hid (H33.out)
     have HPY := Lib.hid (HPV.out)
     have h3x := HX.out
     have h3z := h3x.alloc (.cells #[.string ⟨rs.toArray⟩] 9)
     have hgw2 := h3x.lt
     have z0 := h3z.cell 0; have zf0 := h3z.frozen 0; have z1 := h3z.cell 1; have zf1 := h3z.frozen 1; have z2 := h3z.cell 2; have zf2 := h3z.frozen 2; have z3 := h3z.cell 3; have zf3 := h3z.frozen 3; simp at z0 z1 z2 z3
     clear h3z
     have y0 := h3x.cell 0; have yf0 := h3x.frozen 0; have y1 := h3x.cell 1; have yf1 := h3x.frozen 1; have y2 := h3x.cell 2; have yf2 := h3x.frozen 2; have y3 := h3x.cell 3; have yf3 := h3x.frozen 3; simp at y0 y1 y2 y3
     clear h3x
     go_wp2_with fail
     clear y0 y1 y2 y3 yf0 yf1 yf2 yf3
     clear z0 z1 z2 z3 zf0 zf1 zf2 zf3
     have hsb : Blk ((((((w3).setCell ⟨g3, 0, none⟩ (.int .i64 9)).setCell ⟨g3, 1, none⟩ (.slice (some ⟨w3.heap.size, 0, none⟩) 1 1)).setCell ⟨g3, 2, none⟩ (.int .i64 0)).setCell ⟨g3, 3, none⟩ (.slice none 0 0)).alloc (.cells #[.string ⟨rs.toArray⟩] 9)) w3.heap.size 9 (strsV [rs]).toArray := by
      have h := Blk.new (((((w3).setCell ⟨g3, 0, none⟩ (.int .i64 9)).setCell ⟨g3, 1, none⟩ (.slice (some ⟨w3.heap.size, 0, none⟩) 1 1)).setCell ⟨g3, 2, none⟩ (.int .i64 0)).setCell ⟨g3, 3, none⟩ (.slice none 0 0)) 9 #[.string ⟨rs.toArray⟩]
      rw [show (((((w3).setCell ⟨g3, 0, none⟩ (.int .i64 9)).setCell ⟨g3, 1, none⟩ (.slice (some ⟨w3.heap.size, 0, none⟩) 1 1)).setCell ⟨g3, 2, none⟩ (.int .i64 0)).setCell ⟨g3, 3, none⟩ (.slice none 0 0)).heap.size = w3.heap.size by simp] at h
      exact h
     have h4F := (st4_blk (a := .int .i64 9) (b := .slice (some ⟨w3.heap.size, 0, none⟩) 1 1) (c := .int .i64 0) (d := .slice none 0 0) HX.out).alloc (.cells #[.string ⟨rs.toArray⟩] 9)
     have HMF : Hid (Pure w ((((((w3).setCell ⟨g3, 0, none⟩ (.int .i64 9)).setCell ⟨g3, 1, none⟩ (.slice (some ⟨w3.heap.size, 0, none⟩) 1 1)).setCell ⟨g3, 2, none⟩ (.int .i64 0)).setCell ⟨g3, 3, none⟩ (.slice none 0 0)).alloc (.cells #[.string ⟨rs.toArray⟩] 9))) := Lib.hid ((Mod.trans' HPY.out (st4_mod (g := g3)) (fun i hi hlt => by omega)).alloc (.cells #[.string ⟨rs.toArray⟩] 9))
     have HQS : Hid (QS ((((((w3).setCell ⟨g3, 0, none⟩ (.int .i64 9)).setCell ⟨g3, 1, none⟩ (.slice (some ⟨w3.heap.size, 0, none⟩) 1 1)).setCell ⟨g3, 2, none⟩ (.int .i64 0)).setCell ⟨g3, 3, none⟩ (.slice none 0 0)).alloc (.cells #[.string ⟨rs.toArray⟩] 9)) (.mk 9 (some ⟨w3.heap.size, 0, none⟩) 1 [rs] 0 none 0 [])) := Lib.hid (qs_words hsb (by simp))
     have HFC := Lib.hid (HCO.out.trans (if_pos (by first | rfl | trivial | simp)))
     have x0 := h4F.cell 0; have x1 := h4F.cell 1; have x2 := h4F.cell 2; have x3 := h4F.cell 3; simp at x0 x1 x2 x3
     try simp only [Exit.inBlock, Exit.then]
     refine bodyPost_ret (v := .tuple #[.int .i64 3, .agg #[.int .i64 9, .slice (some ⟨w3.heap.size, 0, none⟩) 1 1, .int .i64 0, .slice none 0 0]]) (by simp [results, Tryz.results105, go_sem, x0, x1, x2, x3]) rfl ?_
     exact ⟨.mk 9 (some ⟨w3.heap.size, 0, none⟩) 1 [rs] 0 none 0 [], by rw [HFC.out]; rfl, HQS.out, by rw [HFC.out, QR.key_mk]; rfl, .mk (fun h => absurd rfl h) (fun a ha => by cases ha), HMF.out⟩
    | false =>
     have HX := Lib.hid (H33.out)
     have HPY := Lib.hid (HPV.out)
     have h3x := HX.out
     have y0 := h3x.cell 0; have yf0 := h3x.frozen 0; have y1 := h3x.cell 1; have yf1 := h3x.frozen 1; have y2 := h3x.cell 2; have yf2 := h3x.frozen 2; have y3 := h3x.cell 3; have yf3 := h3x.frozen 3; simp at y0 y1 y2 y3
     clear h3x
     go_wp2_with fail
     clear y0 y1 y2 y3 yf0 yf1 yf2 yf3
     have h4F := st4_blk (a := .int .i64 0) (b := .slice none 0 0) (c := .int .i64 0) (d := .slice none 0 0) HX.out
     have HMF : Hid (Pure w (((((w3).setCell ⟨g3, 0, none⟩ (.int .i64 0)).setCell ⟨g3, 1, none⟩ (.slice none 0 0)).setCell ⟨g3, 2, none⟩ (.int .i64 0)).setCell ⟨g3, 3, none⟩ (.slice none 0 0))) := Lib.hid (Mod.trans' HPY.out (st4_mod (g := g3)) (fun i hi hlt => by omega))
     have HQS : Hid (QS (((((w3).setCell ⟨g3, 0, none⟩ (.int .i64 0)).setCell ⟨g3, 1, none⟩ (.slice none 0 0)).setCell ⟨g3, 2, none⟩ (.int .i64 0)).setCell ⟨g3, 3, none⟩ (.slice none 0 0)) (.mk 0 none 0 [] 0 none 0 [])) := Lib.hid (.mk Sl.nil_ Sl.nil_ (fun a ha => by cases ha))
     have HFC := Lib.hid (HCO.out.trans (if_neg (by first | decide | simp)))
     have x0 := h4F.cell 0; have x1 := h4F.cell 1; have x2 := h4F.cell 2; have x3 := h4F.cell 3; simp at x0 x1 x2 x3
     try simp only [Exit.inBlock, Exit.then]
     refine bodyPost_ret (v := .tuple #[.int .i64 8, .agg #[.int .i64 0, .slice none 0 0, .int .i64 0, .slice none 0 0]]) (by simp [results, Tryz.results105, go_sem, x0, x1, x2, x3]) rfl ?_
     exact ⟨.mk 0 none 0 [] 0 none 0 [], by rw [HFC.out]; rfl, HQS.out, by rw [HFC.out, QR.key_mk]; rfl, .mk (fun h => absurd rfl h) (fun a ha => by cases ha), HMF.out⟩
   have downer : (hd == [111, 119, 110, 101, 114]) = false := by simpa using cowner
   by_cases cname : hd = [110, 97, 109, 101]
   ·subst cname
    have HK := Lib.hid (isPattern_calls w3 rs (by omega))
    have HCO := Lib.hid (HP2.out.trans (colon_name rs))
    obtain ⟨kb, hkb⟩ : ∃ kb, patB rs = kb := ⟨_, rfl⟩
    rw [hkb] at HK HCO
    clear hkb HP2 HNQ
    go_wp2_with fail
    refine HK.out.mono ?_
    rintro e w4 ⟨rfl, rfl⟩
    clear HK
    cases kb with
    | true =>
     have HX := Lib.hid (H33.out)
     have HPY := Lib.hid (HPV.out)
     have h3x := HX.out
     have h3z := h3x.alloc (.cells #[.string ⟨rs.toArray⟩] 9)
     have hgw2 := h3x.lt
     have z0 := h3z.cell 0; have zf0 := h3z.frozen 0; have z1 := h3z.cell 1; have zf1 := h3z.frozen 1; have z2 := h3z.cell 2; have zf2 := h3z.frozen 2; have z3 := h3z.cell 3; have zf3 := h3z.frozen 3; simp at z0 z1 z2 z3
     clear h3z
     have y0 := h3x.cell 0; have yf0 := h3x.frozen 0; have y1 := h3x.cell 1; have yf1 := h3x.frozen 1; have y2 := h3x.cell 2; have yf2 := h3x.frozen 2; have y3 := h3x.cell 3; have yf3 := h3x.frozen 3; simp at y0 y1 y2 y3
     clear h3x
     go_wp2_with fail
     clear y0 y1 y2 y3 yf0 yf1 yf2 yf3
     clear z0 z1 z2 z3 zf0 zf1 zf2 zf3
     have hsb : Blk ((((((w3).setCell ⟨g3, 0, none⟩ (.int .i64 11)).setCell ⟨g3, 1, none⟩ (.slice (some ⟨w3.heap.size, 0, none⟩) 1 1)).setCell ⟨g3, 2, none⟩ (.int .i64 0)).setCell ⟨g3, 3, none⟩ (.slice none 0 0)).alloc (.cells #[.string ⟨rs.toArray⟩] 9)) w3.heap.size 9 (strsV [rs]).toArray := by
      have h := Blk.new (((((w3).setCell ⟨g3, 0, none⟩ (.int .i64 11)).setCell ⟨g3, 1, none⟩ (.slice (some ⟨w3.heap.size, 0, none⟩) 1 1)).setCell ⟨g3, 2, none⟩ (.int .i64 0)).setCell ⟨g3, 3, none⟩ (.slice none 0 0)) 9 #[.string ⟨rs.toArray⟩]
      rw [show (((((w3).setCell ⟨g3, 0, none⟩ (.int .i64 11)).setCell ⟨g3, 1, none⟩ (.slice (some ⟨w3.heap.size, 0, none⟩) 1 1)).setCell ⟨g3, 2, none⟩ (.int .i64 0)).setCell ⟨g3, 3, none⟩ (.slice none 0 0)).heap.size = w3.heap.size by simp] at h
      exact h
     have h4F := (st4_blk (a := .int .i64 11) (b := .slice (some ⟨w3.heap.size, 0, none⟩) 1 1) (c := .int .i64 0) (d := .slice none 0 0) HX.out).alloc (.cells #[.string ⟨rs.toArray⟩] 9)
     have HMF : Hid (Pure w ((((((w3).setCell ⟨g3, 0, none⟩ (.int .i64 11)).setCell ⟨g3, 1, none⟩ (.slice (some ⟨w3.heap.size, 0, none⟩) 1 1)).setCell ⟨g3, 2, none⟩ (.int .i64 0)).setCell ⟨g3, 3, none⟩ (.slice none 0 0)).alloc (.cells #[.string ⟨rs.toArray⟩] 9))) := Lib.hid ((Mod.trans' HPY.out (st4_mod (g := g3)) (fun i hi hlt => by omega)).alloc (.cells #[.string ⟨rs.toArray⟩] 9))
     have HQS : Hid (QS ((((((w3).setCell ⟨g3, 0, none⟩ (.int .i64 11)).setCell ⟨g3, 1, none⟩ (.slice (some ⟨w3.heap.size, 0, none⟩) 1 1)).setCell ⟨g3, 2, none⟩ (.int .i64 0)).setCell ⟨g3, 3, none⟩ (.slice none 0 0)).alloc (.cells #[.string ⟨rs.toArray⟩] 9)) (.mk 11 (some ⟨w3.heap.size, 0, none⟩) 1 [rs] 0 none 0 [])) := Lib.hid (qs_words hsb (by simp))
     have HFC := Lib.hid (HCO.out.trans (if_pos (by first | rfl | trivial | simp)))
     have x0 := h4F.cell 0; have x1 := h4F.cell 1; have x2 := h4F.cell 2; have x3 := h4F.cell 3; simp at x0 x1 x2 x3
     try simp only [Exit.inBlock, Exit.then]
     refine bodyPost_ret (v := .tuple #[.int .i64 3, .agg #[.int .i64 11, .slice (some ⟨w3.heap.size, 0, none⟩) 1 1, .int .i64 0, .slice none 0 0]]) (by simp [results, Tryz.results105, go_sem, x0, x1, x2, x3]) rfl ?_
     exact ⟨.mk 11 (some ⟨w3.heap.size, 0, none⟩) 1 [rs] 0 none 0 [], by rw [HFC.out]; rfl, HQS.out, by rw [HFC.out, QR.key_mk]; rfl, .mk (fun h => absurd rfl h) (fun a ha => by cases ha), HMF.out⟩
    | false =>
     have HX := Lib.hid (H33.out)
     have HPY := Lib.hid (HPV.out)
     have h3x := HX.out
     have y0 := h3x.cell 0; have yf0 := h3x.frozen 0; have y1 := h3x.cell 1; have yf1 := h3x.frozen 1; have y2 := h3x.cell 2; have yf2 := h3x.frozen 2; have y3 := h3x.cell 3; have yf3 := h3x.frozen 3; simp at y0 y1 y2 y3
     clear h3x
     go_wp2_with fail
     clear y0 y1 y2 y3 yf0 yf1 yf2 yf3
     have h4F := st4_blk (a := .int .i64 0) (b := .slice none 0 0) (c := .int .i64 0) (d := .slice none 0 0) HX.out
     have HMF : Hid (Pure w (((((w3).setCell ⟨g3, 0, none⟩ (.int .i64 0)).setCell ⟨g3, 1, none⟩ (.slice none 0 0)).setCell ⟨g3, 2, none⟩ (.int .i64 0)).setCell ⟨g3, 3, none⟩ (.slice none 0 0))) := Lib.hid (Mod.trans' HPY.out (st4_mod (g := g3)) (fun i hi hlt => by omega))
     have HQS : Hid (QS (((((w3).setCell ⟨g3, 0, none⟩ (.int .i64 0)).setCell ⟨g3, 1, none⟩ (.slice none 0 0)).setCell ⟨g3, 2, none⟩ (.int .i64 0)).setCell ⟨g3, 3, none⟩ (.slice none 0 0)) (.mk 0 none 0 [] 0 none 0 [])) := Lib.hid (.mk Sl.nil_ Sl.nil_ (fun a ha => by cases ha))
     have HFC := Lib.hid (HCO.out.trans (if_neg (by first | decide | simp)))
     have x0 := h4F.cell 0; have x1 := h4F.cell 1; have x2 := h4F.cell 2; have x3 := h4F.cell 3; simp at x0 x1 x2 x3
     try simp only [Exit.inBlock, Exit.then]
     refine bodyPost_ret (v := .tuple #[.int .i64 8, .agg #[.int .i64 0, .slice none 0 0, .int .i64 0, .slice none 0 0]]) (by simp [results, Tryz.results105, go_sem, x0, x1, x2, x3]) rfl ?_
     exact ⟨.mk 0 none 0 [] 0 none 0 [], by rw [HFC.out]; rfl, HQS.out, by rw [HFC.out, QR.key_mk]; rfl, .mk (fun h => absurd rfl h) (fun a ha => by cases ha), HMF.out⟩
   have dname : (hd == [110, 97, 109, 101]) = false := by simpa using cname
   by_cases cfrom : hd = [102, 114, 111, 109]
   ·subst cfrom
    have hco := HP2.out.trans (colon_from rs)
    rw [HNQ.out] at hco
    have HCO := Lib.hid hco
    clear hco HP2 HNQ
    cases rt with
    | true =>
     have HX := Lib.hid (H33.out)
     have HPY := Lib.hid (HPV.out)
     have h3x := HX.out
     have y0 := h3x.cell 0; have yf0 := h3x.frozen 0; have y1 := h3x.cell 1; have yf1 := h3x.frozen 1; have y2 := h3x.cell 2; have yf2 := h3x.frozen 2; have y3 := h3x.cell 3; have yf3 := h3x.frozen 3; simp at y0 y1 y2 y3
     clear h3x
     go_wp2_with fail
     clear y0 y1 y2 y3 yf0 yf1 yf2 yf3
     have h4F := st4_blk (a := .int .i64 12) (b := .slice none 0 0) (c := .int .i64 v) (d := .slice none 0 0) HX.out
     have HMF : Hid (Pure w (((((w3).setCell ⟨g3, 0, none⟩ (.int .i64 12)).setCell ⟨g3, 1, none⟩ (.slice none 0 0)).setCell ⟨g3, 2, none⟩ (.int .i64 v)).setCell ⟨g3, 3, none⟩ (.slice none 0 0))) := Lib.hid (Mod.trans' HPY.out (st4_mod (g := g3)) (fun i hi hlt => by omega))
     have HQS : Hid (QS (((((w3).setCell ⟨g3, 0, none⟩ (.int .i64 12)).setCell ⟨g3, 1, none⟩ (.slice none 0 0)).setCell ⟨g3, 2, none⟩ (.int .i64 v)).setCell ⟨g3, 3, none⟩ (.slice none 0 0)) (.mk 12 none 0 [] v none 0 [])) := Lib.hid (.mk Sl.nil_ Sl.nil_ (fun a ha => by cases ha))
     have HFC := Lib.hid ((show pieceQ s = (3, .mk 12 [] v []) from by have h := HCO.out; simpa using h))
     have x0 := h4F.cell 0; have x1 := h4F.cell 1; have x2 := h4F.cell 2; have x3 := h4F.cell 3; simp at x0 x1 x2 x3
     try simp only [Exit.inBlock, Exit.then]
     refine bodyPost_ret (v := .tuple #[.int .i64 3, .agg #[.int .i64 12, .slice none 0 0, .int .i64 v, .slice none 0 0]]) (by simp [results, Tryz.results105, go_sem, x0, x1, x2, x3]) rfl ?_
     exact ⟨.mk 12 none 0 [] v none 0 [], by rw [HFC.out]; rfl, HQS.out, by rw [HFC.out, QR.key_mk]; rfl, .mk (fun h => absurd rfl h) (fun a ha => by cases ha), HMF.out⟩
    | false =>
     have HX := Lib.hid (H33.out)
     have HPY := Lib.hid (HPV.out)
     have h3x := HX.out
     have y0 := h3x.cell 0; have yf0 := h3x.frozen 0; have y1 := h3x.cell 1; have yf1 := h3x.frozen 1; have y2 := h3x.cell 2; have yf2 := h3x.frozen 2; have y3 := h3x.cell 3; have yf3 := h3x.frozen 3; simp at y0 y1 y2 y3
     clear h3x
     go_wp2_with fail
     clear y0 y1 y2 y3 yf0 yf1 yf2 yf3
     have h4F := st4_blk (a := .int .i64 0) (b := .slice none 0 0) (c := .int .i64 0) (d := .slice none 0 0) HX.out
     have HMF : Hid (Pure w (((((w3).setCell ⟨g3, 0, none⟩ (.int .i64 0)).setCell ⟨g3, 1, none⟩ (.slice none 0 0)).setCell ⟨g3, 2, none⟩ (.int .i64 0)).setCell ⟨g3, 3, none⟩ (.slice none 0 0))) := Lib.hid (Mod.trans' HPY.out (st4_mod (g := g3)) (fun i hi hlt => by omega))
     have HQS : Hid (QS (((((w3).setCell ⟨g3, 0, none⟩ (.int .i64 0)).setCell ⟨g3, 1, none⟩ (.slice none 0 0)).setCell ⟨g3, 2, none⟩ (.int .i64 0)).setCell ⟨g3, 3, none⟩ (.slice none 0 0)) (.mk 0 none 0 [] 0 none 0 [])) := Lib.hid (.mk Sl.nil_ Sl.nil_ (fun a ha => by cases ha))
     have HFC := Lib.hid ((show pieceQ s = (8, q0) from by have h := HCO.out; simpa using h))
     have x0 := h4F.cell 0; have x1 := h4F.cell 1; have x2 := h4F.cell 2; have x3 := h4F.cell 3; simp at x0 x1 x2 x3
     try simp only [Exit.inBlock, Exit.then]
     refine bodyPost_ret (v := .tuple #[.int .i64 8, .agg #[.int .i64 0, .slice none 0 0, .int .i64 0, .slice none 0 0]]) (by simp [results, Tryz.results105, go_sem, x0, x1, x2, x3]) rfl ?_
     exact ⟨.mk 0 none 0 [] 0 none 0 [], by rw [HFC.out]; rfl, HQS.out, by rw [HFC.out, QR.key_mk]; rfl, .mk (fun h => absurd rfl h) (fun a ha => by cases ha), HMF.out⟩
   have dfrom : (hd == [102, 114, 111, 109]) = false := by simpa using cfrom
   by_cases cuntil : hd = [117, 110, 116, 105, 108]
   ·subst cuntil
    have hco := HP2.out.trans (colon_until rs)
    rw [HNQ.out] at hco
    have HCO := Lib.hid hco
    clear hco HP2 HNQ
    cases rt with
    | true =>
     have HX := Lib.hid (H33.out)
     have HPY := Lib.hid (HPV.out)
     have h3x := HX.out
     have y0 := h3x.cell 0; have yf0 := h3x.frozen 0; have y1 := h3x.cell 1; have yf1 := h3x.frozen 1; have y2 := h3x.cell 2; have yf2 := h3x.frozen 2; have y3 := h3x.cell 3; have yf3 := h3x.frozen 3; simp at y0 y1 y2 y3
     clear h3x
     go_wp2_with fail
     clear y0 y1 y2 y3 yf0 yf1 yf2 yf3
     have h4F := st4_blk (a := .int .i64 13) (b := .slice none 0 0) (c := .int .i64 v) (d := .slice none 0 0) HX.out
     have HMF : Hid (Pure w (((((w3).setCell ⟨g3, 0, none⟩ (.int .i64 13)).setCell ⟨g3, 1, none⟩ (.slice none 0 0)).setCell ⟨g3, 2, none⟩ (.int .i64 v)).setCell ⟨g3, 3, none⟩ (.slice none 0 0))) := Lib.hid (Mod.trans' HPY.out (st4_mod (g := g3)) (fun i hi hlt => by omega))
     have HQS : Hid (QS (((((w3).setCell ⟨g3, 0, none⟩ (.int .i64 13)).setCell ⟨g3, 1, none⟩ (.slice none 0 0)).setCell ⟨g3, 2, none⟩ (.int .i64 v)).setCell ⟨g3, 3, none⟩ (.slice none 0 0)) (.mk 13 none 0 [] v none 0 [])) := Lib.hid (.mk Sl.nil_ Sl.nil_ (fun a ha => by cases ha))
     have HFC := Lib.hid ((show pieceQ s = (3, .mk 13 [] v []) from by have h := HCO.out; simpa using h))
     have x0 := h4F.cell 0; have x1 := h4F.cell 1; have x2 := h4F.cell 2; have x3 := h4F.cell 3; simp at x0 x1 x2 x3
     try simp only [Exit.inBlock, Exit.then]
     refine bodyPost_ret (v := .tuple #[.int .i64 3, .agg #[.int .i64 13, .slice none 0 0, .int .i64 v, .slice none 0 0]]) (by simp [results, Tryz.results105, go_sem, x0, x1, x2, x3]) rfl ?_
     exact ⟨.mk 13 none 0 [] v none 0 [], by rw [HFC.out]; rfl, HQS.out, by rw [HFC.out, QR.key_mk]; rfl, .mk (fun h => absurd rfl h) (fun a ha => by cases ha), HMF.out⟩
    | false =>
     have HX := Lib.hid (H33.out)
     have HPY := Lib.hid (HPV.out)
     have h3x := HX.out
     have y0 := h3x.cell 0; have yf0 := h3x.frozen 0; have y1 := h3x.cell 1; have yf1 := h3x.frozen 1; have y2 := h3x.cell 2; have yf2 := h3x.frozen 2; have y3 := h3x.cell 3; have yf3 := h3x.frozen 3; simp at y0 y1 y2 y3
     clear h3x
     go_wp2_with fail
     clear y0 y1 y2 y3 yf0 yf1 yf2 yf3
     have h4F := st4_blk (a := .int .i64 0) (b := .slice none 0 0) (c := .int .i64 0) (d := .slice none 0 0) HX.out
     have HMF : Hid (Pure w (((((w3).setCell ⟨g3, 0, none⟩ (.int .i64 0)).setCell ⟨g3, 1, none⟩ (.slice none 0 0)).setCell ⟨g3, 2, none⟩ (.int .i64 0)).setCell ⟨g3, 3, none⟩ (.slice none 0 0))) := Lib.hid (Mod.trans' HPY.out (st4_mod (g := g3)) (fun i hi hlt => by omega))
     have HQS : Hid (QS (((((w3).setCell ⟨g3, 0, none⟩ (.int .i64 0)).setCell ⟨g3, 1, none⟩ (.slice none 0 0)).setCell ⟨g3, 2, none⟩ (.int .i64 0)).setCell ⟨g3, 3, none⟩ (.slice none 0 0)) (.mk 0 none 0 [] 0 none 0 [])) := Lib.hid (.mk Sl.nil_ Sl.nil_ (fun a ha => by cases ha))
     have HFC := Lib.hid ((show pieceQ s = (8, q0) from by have h := HCO.out; simpa using h))
     have x0 := h4F.cell 0; have x1 := h4F.cell 1; have x2 := h4F.cell 2; have x3 := h4F.cell 3; simp at x0 x1 x2 x3
     try simp only [Exit.inBlock, Exit.then]
     refine bodyPost_ret (v := .tuple #[.int .i64 8, .agg #[.int .i64 0, .slice none 0 0, .int .i64 0, .slice none 0 0]]) (by simp [results, Tryz.results105, go_sem, x0, x1, x2, x3]) rfl ?_
     exact ⟨.mk 0 none 0 [] 0 none 0 [], by rw [HFC.out]; rfl, HQS.out, by rw [HFC.out, QR.key_mk]; rfl, .mk (fun h => absurd rfl h) (fun a ha => by cases ha), HMF.out⟩
   have duntil : (hd == [117, 110, 116, 105, 108]) = false := by simpa using cuntil
   by_cases ckind : hd = [107, 105, 110, 100]
   ·subst ckind
    have HCO := Lib.hid (HP2.out.trans (colon_kind rs))
    clear HP2 HNQ
    go_wp2_with fail
    go_loopg [14] 4 (fun gk i wr => ∃ j : Nat, 5 - j = gk ∧ 1 ≤ j ∧ j ≤ 5 ∧ i = .int .i64 (j : Int) ∧ (∀ t : Nat, 1 ≤ t → t < j → kwQ t ≠ rs) ∧ w3 = wr)
    case atStart => exact ⟨1, by omega, by omega, by omega, rfl, fun t h1 h2 => by omega, rfl⟩
    case round =>
     obtain ⟨j, rfl, hj1, hj5, rfl, hno, rfl⟩ := hrel
     have HNO := Lib.hid hno
     clear hno
     by_cases hlt : j < 5
     ·have HKW := Lib.hid (kindWordQ_calls w3 (j : Int))
      go_wp2_with fail
      refine HKW.out.mono ?_
      rintro e w3 ⟨rfl, rfl⟩
      clear HKW
      by_cases heq : kwQ (j : Int) = rs
      ·have hki := knd_at hj1 (by omega) heq
       have hkb : (kwQ (j : Int) == rs) = true := by simpa using heq
       have HFK := Lib.hid (HCO.out.trans (by rw [if_pos (by rw [hki]; omega), hki]))
       clear heq hki
       have HX := Lib.hid (H33.out)
       have HPY := Lib.hid (HPV.out)
       have h3x := HX.out
       have y0 := h3x.cell 0; have yf0 := h3x.frozen 0; have y1 := h3x.cell 1; have yf1 := h3x.frozen 1; have y2 := h3x.cell 2; have yf2 := h3x.frozen 2; have y3 := h3x.cell 3; have yf3 := h3x.frozen 3; simp at y0 y1 y2 y3
       clear h3x
       go_wp2_with fail
       clear y0 y1 y2 y3 yf0 yf1 yf2 yf3
       have h4F := st4_blk (a := .int .i64 10) (b := .slice none 0 0) (c := .int .i64 (j : Int)) (d := .slice none 0 0) HX.out
       have HMF : Hid (Pure w (((((w3).setCell ⟨g3, 0, none⟩ (.int .i64 10)).setCell ⟨g3, 1, none⟩ (.slice none 0 0)).setCell ⟨g3, 2, none⟩ (.int .i64 (j : Int))).setCell ⟨g3, 3, none⟩ (.slice none 0 0))) := Lib.hid (Mod.trans' HPY.out (st4_mod (g := g3)) (fun i hi hlt => by omega))
       have HQS : Hid (QS (((((w3).setCell ⟨g3, 0, none⟩ (.int .i64 10)).setCell ⟨g3, 1, none⟩ (.slice none 0 0)).setCell ⟨g3, 2, none⟩ (.int .i64 (j : Int))).setCell ⟨g3, 3, none⟩ (.slice none 0 0)) (.mk 10 none 0 [] (j : Int) none 0 [])) := Lib.hid (.mk Sl.nil_ Sl.nil_ (fun a ha => by cases ha))
       have HFC := Lib.hid (HFK.out)
       have x0 := h4F.cell 0; have x1 := h4F.cell 1; have x2 := h4F.cell 2; have x3 := h4F.cell 3; simp at x0 x1 x2 x3
       try simp only [Exit.inBlock, Exit.then]
       refine bodyPost_ret (v := .tuple #[.int .i64 3, .agg #[.int .i64 10, .slice none 0 0, .int .i64 (j : Int), .slice none 0 0]]) (by simp [results, Tryz.results105, go_sem, x0, x1, x2, x3]) rfl ?_
       exact ⟨.mk 10 none 0 [] (j : Int) none 0 [], by rw [HFC.out]; rfl, HQS.out, by rw [HFC.out, QR.key_mk]; rfl, .mk (fun h => absurd rfl h) (fun a ha => by cases ha), HMF.out⟩
      ·have hkb : (kwQ (j : Int) == rs) = false := by simpa using heq
       have HN2 : Hid (∀ t : Nat, 1 ≤ t → t < j + 1 → kwQ t ≠ rs) := Lib.hid (by
        intro t h1 h2
        by_cases h : t < j
        ·exact HNO.out t h1 h
        ·have e : t = j := by omega
         rw [e]
         exact heq)
       clear heq
       go_wp2_with fail
       go_roundg (5 - (j + 1))
       case measure => omega
       case rel => exact ⟨j + 1, rfl, by omega, by omega, by simp, HN2.out, rfl⟩
     ·have e5 : j = 5 := by omega
      subst e5
      have HFK := Lib.hid (HCO.out.trans (if_neg (by rw [knd_none HNO.out]; simp)))
      clear HCO
      have HX := Lib.hid (H33.out)
      have HPY := Lib.hid (HPV.out)
      have h3x := HX.out
      have y0 := h3x.cell 0; have yf0 := h3x.frozen 0; have y1 := h3x.cell 1; have yf1 := h3x.frozen 1; have y2 := h3x.cell 2; have yf2 := h3x.frozen 2; have y3 := h3x.cell 3; have yf3 := h3x.frozen 3; simp at y0 y1 y2 y3
      clear h3x
      go_wp2_with fail
      clear y0 y1 y2 y3 yf0 yf1 yf2 yf3
      have h4F := st4_blk (a := .int .i64 0) (b := .slice none 0 0) (c := .int .i64 0) (d := .slice none 0 0) HX.out
      have HMF : Hid (Pure w (((((w3).setCell ⟨g3, 0, none⟩ (.int .i64 0)).setCell ⟨g3, 1, none⟩ (.slice none 0 0)).setCell ⟨g3, 2, none⟩ (.int .i64 0)).setCell ⟨g3, 3, none⟩ (.slice none 0 0))) := Lib.hid (Mod.trans' HPY.out (st4_mod (g := g3)) (fun i hi hlt => by omega))
      have HQS : Hid (QS (((((w3).setCell ⟨g3, 0, none⟩ (.int .i64 0)).setCell ⟨g3, 1, none⟩ (.slice none 0 0)).setCell ⟨g3, 2, none⟩ (.int .i64 0)).setCell ⟨g3, 3, none⟩ (.slice none 0 0)) (.mk 0 none 0 [] 0 none 0 [])) := Lib.hid (.mk Sl.nil_ Sl.nil_ (fun a ha => by cases ha))
      have HFC := Lib.hid (HFK.out)
      have x0 := h4F.cell 0; have x1 := h4F.cell 1; have x2 := h4F.cell 2; have x3 := h4F.cell 3; simp at x0 x1 x2 x3
      try simp only [Exit.inBlock, Exit.then]
      refine bodyPost_ret (v := .tuple #[.int .i64 8, .agg #[.int .i64 0, .slice none 0 0, .int .i64 0, .slice none 0 0]]) (by simp [results, Tryz.results105, go_sem, x0, x1, x2, x3]) rfl ?_
      exact ⟨.mk 0 none 0 [] 0 none 0 [], by rw [HFC.out]; rfl, HQS.out, by rw [HFC.out, QR.key_mk]; rfl, .mk (fun h => absurd rfl h) (fun a ha => by cases ha), HMF.out⟩
   have dkind : (hd == [107, 105, 110, 100]) = false := by simpa using ckind
   have HBAD := Lib.hid (HP2.out.trans (colon_else rs cowner cname cfrom cuntil ckind))
   clear HP2 HNQ cowner cname cfrom cuntil ckind
   have HX := Lib.hid (H33.out)
   have HPY := Lib.hid (HPV.out)
   have h3x := HX.out
   have y0 := h3x.cell 0; have yf0 := h3x.frozen 0; have y1 := h3x.cell 1; have yf1 := h3x.frozen 1; have y2 := h3x.cell 2; have yf2 := h3x.frozen 2; have y3 := h3x.cell 3; have yf3 := h3x.frozen 3; simp at y0 y1 y2 y3
   clear h3x
   go_wp2_with fail
   clear y0 y1 y2 y3 yf0 yf1 yf2 yf3
   have h4F := st4_blk (a := .int .i64 0) (b := .slice none 0 0) (c := .int .i64 0) (d := .slice none 0 0) HX.out
   have HMF : Hid (Pure w (((((w3).setCell ⟨g3, 0, none⟩ (.int .i64 0)).setCell ⟨g3, 1, none⟩ (.slice none 0 0)).setCell ⟨g3, 2, none⟩ (.int .i64 0)).setCell ⟨g3, 3, none⟩ (.slice none 0 0))) := Lib.hid (Mod.trans' HPY.out (st4_mod (g := g3)) (fun i hi hlt => by omega))
   have HQS : Hid (QS (((((w3).setCell ⟨g3, 0, none⟩ (.int .i64 0)).setCell ⟨g3, 1, none⟩ (.slice none 0 0)).setCell ⟨g3, 2, none⟩ (.int .i64 0)).setCell ⟨g3, 3, none⟩ (.slice none 0 0)) (.mk 0 none 0 [] 0 none 0 [])) := Lib.hid (.mk Sl.nil_ Sl.nil_ (fun a ha => by cases ha))
   have HFC := Lib.hid (HBAD.out)
   have x0 := h4F.cell 0; have x1 := h4F.cell 1; have x2 := h4F.cell 2; have x3 := h4F.cell 3; simp at x0 x1 x2 x3
   try simp only [Exit.inBlock, Exit.then]
   refine bodyPost_ret (v := .tuple #[.int .i64 8, .agg #[.int .i64 0, .slice none 0 0, .int .i64 0, .slice none 0 0]]) (by simp [results, Tryz.results105, go_sem, x0, x1, x2, x3]) rfl ?_
   exact ⟨.mk 0 none 0 [] 0 none 0 [], by rw [HFC.out]; rfl, HQS.out, by rw [HFC.out, QR.key_mk]; rfl, .mk (fun h => absurd rfl h) (fun a ha => by cases ha), HMF.out⟩

end Go.Proofs.YtbajgjbdcgakoaaGreatDoor

/- The reader of a search's text: how it lies in memory, and what its steps say in plain words. -/
namespace Go.Proofs.YtbajgjbdcgakoaaGreatDoor
set_option linter.unusedVariables false
set_option linter.unusedSimpArgs false
open Go.RowKit
/-- The cells of a reader: the text, the place, the token (kind, place, search). -/
def rdC (s : Str) (p : Nat) (kd : Int) (tp : Nat) (q : QR) : Array Value :=
 #[.string ⟨s.toArray⟩, .int .i64 (p : Int), .int .i64 kd, .int .i64 (tp : Int)] ++ (qC q).toArray
theorem skp_blank {s : Str} {a : Nat} (h : a < s.length) (hb : blkC s[a] = true) : skpQ s a = skpQ s (a + 1) := by
 unfold skpQ
 rw [List.drop_eq_getElem_cons h, List.takeWhile_cons_of_pos hb, List.length_cons]
 omega
theorem skp_stop {s : Str} {a : Nat} (h : a < s.length) (hb : blkC s[a] = false) : skpQ s a = a := by
 unfold skpQ
 rw [List.drop_eq_getElem_cons h, List.takeWhile_cons_of_neg (by rw [hb]; simp)]
 rfl
theorem skp_end {s : Str} {a : Nat} (h : s.length ≤ a) : skpQ s a = a := by
 unfold skpQ
 rw [List.drop_eq_nil_of_le h]
 rfl
end Go.Proofs.YtbajgjbdcgakoaaGreatDoor

/- What reading a part of a search takes (plain): at least one token. -/
namespace Go.Proofs.YtbajgjbdcgakoaaGreatDoor
set_option linter.unusedVariables false
set_option linter.unusedSimpArgs false
open Go.RowKit
theorem kdL_ne {L : List Tk} (h : kdL L ≠ 0) : L.length = L.tail.length + 1 := by
 cases L with
 | nil => exact absurd rfl h
 | cons t l => simp
/-- A part takes at least one token. -/
def LenP (f : List Tk → PR) : Prop := ∀ L q l, f L = .inr (q, l) → l.length + 1 ≤ L.length
theorem closeP_inr {r : PR} {q : Qry} {l : List Tk} (h : closeP r = .inr (q, l)) : ∃ m, r = .inr (q, m) ∧ kdL m = 2 ∧ l = m.tail := by
 cases r with
 | inl m => cases h
 | inr p =>
  obtain ⟨a, m⟩ := p
  unfold closeP at h
  by_cases h2 : kdL m = 2
  ·simp only [h2] at h
   injection h with h
   injection h with h3 h4
   subst h3 h4
   exact ⟨m, rfl, h2, rfl⟩
  ·simp only [h2] at h
   cases h
theorem pPart_len {rec : List Tk → PR} (hr : LenP rec) : LenP (pPart rec) := by
 intro L q l h
 unfold pPart at h
 by_cases h3 : kdL L = 3
 ·rw [if_pos h3] at h
  injection h with h
  injection h with _ h5
  subst h5
  have := kdL_ne (L := L) (by omega)
  omega
 ·rw [if_neg h3] at h
  by_cases h1 : kdL L = 1
  ·rw [if_pos h1] at h
   obtain ⟨m, hm, h2, rfl⟩ := closeP_inr h
   have := hr _ _ _ hm
   have h6 := kdL_ne (L := L) (by omega)
   have h7 := kdL_ne (L := m) (by omega)
   omega
  ·rw [if_neg h1] at h
   cases h
theorem pNearL_len {rec : List Tk → PR} (hr : LenP rec) : ∀ (f : Nat) (a : Qry) (L : List Tk) (q : Qry) (l : List Tk), pNearL rec f a L = .inr (q, l) → l.length ≤ L.length
 | 0, _, _, _, _, h => by cases h
 | f + 1, a, L, q, l, h => by
  unfold pNearL at h
  by_cases h7 : kdL L = 7
  ·rw [if_pos h7] at h
   cases hp : pPart rec L.tail with
   | inl m => rw [hp] at h; cases h
   | inr p =>
    obtain ⟨b, m⟩ := p
    rw [hp] at h
    have h1 := pPart_len hr _ _ _ hp
    have h2 := pNearL_len hr f _ _ _ _ h
    have h6 := kdL_ne (L := L) (by omega)
    omega
  ·rw [if_neg h7] at h
   injection h with h
   injection h with _ h5
   subst h5
   exact Nat.le_refl _
theorem pNear_len {rec : List Tk → PR} (hr : LenP rec) (f : Nat) : LenP (pNear rec f) := by
 intro L q l h
 unfold pNear at h
 cases hp : pPart rec L with
 | inl m => rw [hp] at h; cases h
 | inr p =>
  obtain ⟨b, m⟩ := p
  rw [hp] at h
  have h1 := pPart_len hr _ _ _ hp
  have h2 := pNearL_len hr f _ _ _ _ h
  omega
theorem pNot_len {rec : List Tk → PR} (hr : LenP rec) (f : Nat) : LenP (pNot rec f) := by
 intro L q l h
 unfold pNot at h
 cases hp : pNear rec f (L.drop (notL L)) with
 | inl m => rw [hp] at h; cases h
 | inr p =>
  obtain ⟨b, m⟩ := p
  rw [hp] at h
  injection h with h
  injection h with _ h5
  subst h5
  have h1 := pNear_len hr f _ _ _ hp
  rw [List.length_drop] at h1
  omega
theorem pSevL_len {kind between : Int} {el : List Tk → PR} (h0 : between ≠ 0) (he : LenP el) : ∀ (f : Nat) (a : List Qry) (L : List Tk) (q : Qry) (l : List Tk), pSevL kind between el f a L = .inr (q, l) → l.length ≤ L.length
 | 0, _, _, _, _, h => by cases h
 | f + 1, a, L, q, l, h => by
  unfold pSevL at h
  by_cases h7 : kdL L = between
  ·rw [if_pos h7] at h
   cases hp : el L.tail with
   | inl m => rw [hp] at h; cases h
   | inr p =>
    obtain ⟨b, m⟩ := p
    rw [hp] at h
    have h1 := he _ _ _ hp
    have h2 := pSevL_len h0 he f _ _ _ _ h
    have h6 := kdL_ne (L := L) (by omega)
    omega
  ·rw [if_neg h7] at h
   injection h with h
   injection h with _ h5
   subst h5
   exact Nat.le_refl _
theorem pSev_len {kind between : Int} {el : List Tk → PR} (h0 : between ≠ 0) (he : LenP el) (f : Nat) : LenP (pSev kind between el f) := by
 intro L q l h
 unfold pSev at h
 cases hp : el L with
 | inl m => rw [hp] at h; cases h
 | inr p =>
  obtain ⟨b, m⟩ := p
  rw [hp] at h
  have h1 := he _ _ _ hp
  by_cases h7 : kdL m = between
  ·simp only [h7, if_true] at h
   have h2 := pSevL_len h0 he f _ _ _ _ h
   omega
  ·simp only [h7, if_false] at h
   injection h with h
   injection h with _ h5
   subst h5
   exact h1
theorem pOr_len : ∀ f : Nat, LenP (pOr f)
 | 0 => by intro L q l h; cases h
 | f + 1 => by
  show LenP (pSev 7 5 (pSev 6 4 (pNot (pOr f) f) f) f)
  exact pSev_len (by decide) (pSev_len (by decide) (pNot_len (pOr_len f) f) f) f

end Go.Proofs.YtbajgjbdcgakoaaGreatDoor

/- The reader of a search's text: its state, and what stays as it was where searches are gathered. -/
namespace Go.Proofs.YtbajgjbdcgakoaaGreatDoor
set_option linter.unusedVariables false
set_option linter.unusedSimpArgs false
open Go.RowKit
theorem stpC_set (c : UInt8) : ([32, 10, 40, 41, 34] : Str).contains c = stpC c := by
 unfold stpC
 rw [Bool.eq_iff_iff]
 simp
theorem wordQ_idx : ∀ t : Str, -1 ≤ Lib.indexAny t [32, 10, 40, 41, 34] ∧ ((wordQ t).length : Int) = if Lib.indexAny t [32, 10, 40, 41, 34] < 0 then (t.length : Int) else Lib.indexAny t [32, 10, 40, 41, 34]
 | [] => ⟨by decide, rfl⟩
 | c :: t => by
  obtain ⟨h0, h⟩ := wordQ_idx t
  unfold Lib.indexAny
  rw [stpC_set]
  unfold wordQ
  rw [List.takeWhile_cons]
  cases hc : stpC c
  ·simp only [Bool.not_false, if_true, List.length_cons, Bool.false_eq_true, if_false]
   change ((wordQ t).length : Int) = _ at h
   rw [show (List.takeWhile (fun d => !stpC d) t) = wordQ t from rfl]
   generalize Lib.indexAny t [32, 10, 40, 41, 34] = n at *
   by_cases hn : n = -1
   ·subst hn
    simp at h ⊢
    omega
   ·have hb : (n == -1) = false := by simpa using hn
    rw [hb]
    simp only [Bool.false_eq_true, if_false]
    rw [if_neg (by omega)] at h ⊢
    omega
  ·simp
theorem wordQ_sub (t : Str) : wordQ t = t.take (wordQ t).length := List.prefix_iff_eq_take.1 (List.takeWhile_prefix _)
theorem piece_args (s : Str) : (pieceQ s).2.args = [] ∧ ((pieceQ s).1 = 7 → (pieceQ s).2.words = []) := by
 unfold pieceQ slashQ colonQ
 repeat' split
 all_goals first | exact ⟨rfl, fun _ => rfl⟩ | exact ⟨rfl, fun h => absurd h (by decide)⟩ | exact ⟨rfl, fun h => by simp at h⟩
theorem phrase_args (s : Str) : (phraseQ s).2.args = [] ∧ (phraseQ s).1 ≠ 7 := by
 unfold phraseQ
 split
 ·exact ⟨rfl, by decide⟩
 ·exact ⟨rfl, show (3 : Int) ≠ 7 by decide⟩
theorem tok_args (s : Str) : (tokQ s).2.1.args = [] ∧ ((tokQ s).1 = 7 → (tokQ s).2.1.words = []) := by
 cases s with
 | nil => exact ⟨rfl, fun h => absurd h (by decide)⟩
 | cons c t =>
  show (tokC c t).2.1.args = [] ∧ ((tokC c t).1 = 7 → (tokC c t).2.1.words = [])
  unfold tokC
  split
  ·exact ⟨rfl, fun h => absurd h (by decide)⟩
  ·split
   ·exact ⟨rfl, fun h => absurd h (by decide)⟩
   ·split
    ·split
     ·exact ⟨rfl, fun h => absurd h (by decide)⟩
     ·rename_i p _
      exact ⟨(phrase_args p.1).1, fun h => absurd h (phrase_args p.1).2⟩
    ·exact piece_args _
/-- What next leads to. -/
def NxP (w : World) (g : Nat) (s : Str) (p : Nat) (e : Ending) (w' : World) : Prop := ∃ qr : QR, e = .returned (.tuple #[]) ∧ Blk w' g 109 (rdC s (nextQ s p).2 (nextQ s p).1.kind (nextQ s p).1.pos qr) ∧ qr.key = (nextQ s p).1.q ∧ QS w' qr ∧ Mod (· = g) w w'
/-- The reader is at a list of tokens: it holds the first, the others are what is read from its place on. -/
def RdrS (w : World) (g : Nat) (s : Str) (L : List Tk) : Prop :=
 ∃ (p : Nat) (qr : QR) (t : Tk) (l : List Tk), L = t :: l ∧ Blk w g 109 (rdC s p t.kind t.pos qr) ∧ p ≤ s.length ∧ QS w qr ∧ qr.key = t.q ∧ t.q.args = [] ∧ (t.kind = 7 → t.q.words = []) ∧ (t.kind ≠ 0 → t.kind ≠ 8 → l = toksQ s p)
def NrP (w : World) (g : Nat) (s : Str) (L : List Tk) (e : Ending) (w' : World) : Prop := e = .returned (.tuple #[]) ∧ RdrS w' g s L ∧ Mod (· = g) w w'
theorem NxP.rds {w : World} {g : Nat} {s : Str} {p : Nat} {e : Ending} {w' : World} (h : NxP w g s p e w') (hp : p ≤ s.length) : NrP w g s (toksQ s p) e w' := by
 obtain ⟨qr, he, hB, hk, hQ, hm⟩ := h
 exact ⟨he, ⟨(nextQ s p).2, qr, (nextQ s p).1, if (nextQ s p).1.kind = 0 ∨ (nextQ s p).1.kind = 8 then [] else toksQ s (nextQ s p).2, by rw [toks_eq s hp]; split <;> rfl, hB, (next_len s hp).1, hQ, hk, (tok_args _).1, (tok_args _).2, fun h1 h2 => if_neg (by simp [h1, h2])⟩, hm⟩
/-- Rows of searches within a search lie in no block of S. -/
inductive QN (S : Nat → Prop) : QR → Prop
 | mk {k : Int} {A : Option Addr} {c : Nat} {ws : List Str} {n : Int} {B : Option Addr} {d : Nat} {xs : List QR} (h : xs ≠ [] → ∀ g off, B = some ⟨g, off, none⟩ → ¬ S g) (hs : ∀ a ∈ xs, QN S a) : QN S (.mk k A c ws n B d xs)
theorem QN.leaf {S : Nat → Prop} {q : QR} (h : q.key.args = []) : QN S q := by
 obtain ⟨k, A, c, ws, n, B, d, xs⟩ := q
 have hx : xs = [] := by
  rw [QR.key_mk] at h
  exact List.map_eq_nil_iff.1 h
 subst hx
 exact .mk (fun h => absurd rfl h) (fun a ha => by cases ha)
theorem QFr.leaf {base : Nat} {q : QR} (h : q.key.args = []) : QFr base q := by
 obtain ⟨k, A, c, ws, n, B, d, xs⟩ := q
 have hx : xs = [] := by
  rw [QR.key_mk] at h
  exact List.map_eq_nil_iff.1 h
 subst hx
 exact .mk (fun h => absurd rfl h) (fun a ha => by cases ha)
theorem QN.old {S : Nat → Prop} {base : Nat} {q : QR} (h : QFr base q) (hS : ∀ k, S k → k < base) : QN S q := by
 induction h with
 | mk hb hs ih =>
  refine .mk (fun hx g off he hg => ?_) ih
  obtain ⟨g', off', he', hle⟩ := hb hx
  rw [he] at he'
  injection he' with he'
  injection he' with he'
  subst he'
  have := hS _ hg
  omega
theorem QN.new {S : Nat → Prop} {w : World} {q : QR} (h : QS w q) (hS : ∀ k, S k → w.heap.size ≤ k) : QN S q := by
 induction h with
 | mk hw ha hs ih =>
  rename_i k A c ws n B d xs
  refine .mk (fun hx g off he hg => ?_) ih
  have hl : 0 < xs.length := by cases xs with | nil => exact absurd rfl hx | cons a t => simp
  obtain ⟨B', n', d', e2, hle, hc, hl2, hr⟩ := ha
  injection e2 with e3 e4 e5
  subst e3 e4 e5
  obtain ⟨g', off', he', hr⟩ := hr hl
  rw [he] at he'
  injection he' with he'
  injection he' with he'
  subst he'
  have h1 := hr.lt
  have h2 := hS _ hg
  omega
theorem QS.modN {w w' : World} {S : Nat → Prop} {q : QR} (h : QS w q) (hn : QN S q) (hm : Mod S w w') (h1 : ∀ g arr fr, w.heap[g]? = some (.cells arr 9 fr) → ¬ S g) : QS w' q := by
 induction h with
 | mk hw ha hs ih =>
  rename_i k A c ws n B d xs
  cases hn with
  | mk hb hx =>
   refine .mk (hw.mod hm h1) ?_ (fun a hm => ih a hm (hx a hm))
   cases xs with
   | nil => exact ⟨B, 0, d, rfl, Nat.zero_le _, by obtain ⟨_, _, _, e2, _, hc, _⟩ := ha; injection e2 with _ _ e5; omega, rfl, fun h => absurd h (by decide)⟩
   | cons x t =>
    obtain ⟨B', n', d', he, hle, hc, hl, hr⟩ := ha
    injection he with e1 e2 e3
    subst e1 e2 e3
    refine ⟨B, _, d, rfl, hle, hc, hl, fun h0 => ?_⟩
    obtain ⟨g, off, hB, hrow⟩ := hr h0
    exact ⟨g, off, hB, hrow.mod hm (hb (by simp) g off hB)⟩
/-- Behind a step of the reader. -/
theorem Sl.rd {w w' : World} {g : Nat} {cs : Array Value} {size : Nat} {v : Value} {xs : List Value} {e : TypeId} (h : Sl w e size v xs) (hB : Blk w g 109 cs) (hm : Mod (· = g) w w') (hne : e ≠ 109) : Sl w' e size v xs :=
 Sl.mod h hm (fun g' arr fr hg he => by
  subst he
  unfold Blk at hB
  rw [hB] at hg
  injection hg with hg
  injection hg with _ hg
  exact hne hg.symm)
theorem QS.rd {w w' : World} {g : Nat} {cs : Array Value} {q : QR} (h : QS w q) (hB : Blk w g 109 cs) (hm : Mod (· = g) w w') : QS w' q := by
 induction h with
 | mk hw ha hs ih => exact .mk (Sl.rd hw hB hm (by decide)) (Sl.rd ha hB hm (by decide)) ih
theorem RdrS.blk {w : World} {g : Nat} {s : Str} {L : List Tk} (h : RdrS w g s L) : ∃ cs, Blk w g 109 cs := by
 obtain ⟨p, qr, t, l, _, h, _⟩ := h
 exact ⟨_, h⟩
theorem RdrS.lt {w : World} {g : Nat} {s : Str} {L : List Tk} (h : RdrS w g s L) : g < w.heap.size := by
 obtain ⟨cs, h⟩ := h.blk
 exact h.lt
/-- Where other blocks than the reader's and those of strings have been written. -/
theorem RdrS.mod {w w' : World} {g : Nat} {s : Str} {L : List Tk} {S : Nat → Prop} (h : RdrS w g s L) (hm : Mod S w w') (hg : ¬ S g) (h1 : ∀ g arr fr, w.heap[g]? = some (.cells arr 9 fr) → ¬ S g) : RdrS w' g s L := by
 obtain ⟨p, qr, t, l, a1, a2, a3, a4, a5, a6, a7, a8⟩ := h
 exact ⟨p, qr, t, l, a1, a2.mod hm hg, a3, a4.modN (QN.leaf (by rw [a5]; exact a6)) hm h1, a5, a6, a7, a8⟩
theorem RdrS.pure {w w' : World} {g : Nat} {s : Str} {L : List Tk} (h : RdrS w g s L) (hm : Pure w w') : RdrS w' g s L := h.mod hm (fun h => h) (fun _ _ _ _ h => h)
/-- What reading a part of a search hands back. -/
def PrP (w : World) (g : Nat) (s : Str) (r : PR) (e : Ending) (w' : World) : Prop := ∃ (qr : QR) (b : Bool) (l : List Tk), e = .returned (.tuple #[qA qr, .bool b]) ∧ RdrS w' g s l ∧ Mod (· = g) w w' ∧ (b = false → r = .inl l) ∧ (b = true → r = .inr (qr.key, l) ∧ QS w' qr ∧ QFr w.heap.size qr)

end Go.Proofs.YtbajgjbdcgakoaaGreatDoor

/-
 DERIVED: THE SHELF's CONTRACTS AT THIS DUMP, IN PLAIN WORDS (tools/lay-plain.mjs out of 'YtbajgjbdcgakoaaGreatDoorLayInt.lean', which tools/lay-shelf.mjs wrote): THE SAME DECLARATIONS UNDER THE SAME NAMES: 'import', 'namespace', 'open', 'def', 'theorem' AND NOTHING ELSE: no command of the shelf's: FOR A HAND-IN. Each laying: the table of numbers ('.._ren') and one theorem, a field a fact of the dump's own or the kernel's comparison; each contract: ONE APPLICATION.
-/
namespace Go.Proofs
open Go.Shelf
def Tryz.lays189_ren : Go.Shelf.Ren := ⟨fun | 189 => 208 | 125 => 86 | 257 => 221 | 128 => 132 | 129 => 133 | 294 => 229 | 295 => 230 | 296 => 231 | 297 => 232 | 298 => 233 | 299 => 234 | 216 => 235 | 300 => 236 | 301 => 237 | 328 => 241 | 329 => 160 | 330 => 161 | 331 => 242 | 332 => 243 | 215 => 87 | 343 => 246 | n => n, fun | 28 => 22 | 3 => 3 | 46 => 56 | 0 => 0 | 51 => 87 | 53 => 90 | 4 => 4 | 183 => 151 | 182 => 150 | 131 => 155 | 5 => 5 | 9 => 9 | 218 => 181 | 222 => 185 | 228 => 203 | 229 => 60 | n => n, fun | n => n⟩
theorem Tryz.lays189 : Go.Proofs.Lays.n189 Tryz.prog Tryz.lays189_ren := {
 mixed := by kernel_rfl
 f125 := Tryz.func86.trans (congrArg some (by kernel_rfl))
 f128 := Tryz.func132.trans (congrArg some (by kernel_rfl))
 f129 := Tryz.func133.trans (congrArg some (by kernel_rfl))
 f189 := Tryz.func208.trans (congrArg some (by kernel_rfl))
 f215 := Tryz.func87.trans (congrArg some (by kernel_rfl))
 f216 := Tryz.func235.trans (congrArg some (by kernel_rfl))
 f257 := Tryz.func221.trans (congrArg some (by kernel_rfl))
 f294 := Tryz.func229.trans (congrArg some (by kernel_rfl))
 f295 := Tryz.func230.trans (congrArg some (by kernel_rfl))
 f296 := Tryz.func231.trans (congrArg some (by kernel_rfl))
 f297 := Tryz.func232.trans (congrArg some (by kernel_rfl))
 f298 := Tryz.func233.trans (congrArg some (by kernel_rfl))
 f299 := Tryz.func234.trans (congrArg some (by kernel_rfl))
 f300 := Tryz.func236.trans (congrArg some (by kernel_rfl))
 f301 := Tryz.func237.trans (congrArg some (by kernel_rfl))
 f328 := Tryz.func241.trans (congrArg some (by kernel_rfl))
 f329 := Tryz.func160.trans (congrArg some (by kernel_rfl))
 f330 := Tryz.func161.trans (congrArg some (by kernel_rfl))
 f331 := Tryz.func242.trans (congrArg some (by kernel_rfl))
 f332 := Tryz.func243.trans (congrArg some (by kernel_rfl))
 f343 := Tryz.func246.trans (congrArg some (by kernel_rfl))
 t0 := Tryz.underlying0
 a0 := Tryz.isAgg0
 z0 := Tryz.sizeOf0
 v0 := Tryz.zeroValue0
 t3 := Tryz.underlying3
 a3 := Tryz.isAgg3
 z3 := Tryz.sizeOf3
 v3 := Tryz.zeroValue3
 t4 := Tryz.underlying4
 a4 := Tryz.isAgg4
 z4 := Tryz.sizeOf4
 v4 := Tryz.zeroValue4
 t5 := Tryz.underlying5
 a5 := Tryz.isAgg5
 z5 := Tryz.sizeOf5
 v5 := Tryz.zeroValue5
 t9 := Tryz.underlying9
 a9 := Tryz.isAgg9
 z9 := Tryz.sizeOf9
 v9 := Tryz.zeroValue9
 t28 := Tryz.underlying22
 a28 := Tryz.isAgg22
 z28 := Tryz.sizeOf22
 v28 := Tryz.zeroValue22
 t46 := Tryz.underlying56
 a46 := Tryz.isAgg56
 z46 := Tryz.sizeOf56
 v46 := Tryz.zeroValue56
 t51 := Tryz.underlying87
 a51 := Tryz.isAgg87
 z51 := Tryz.sizeOf87
 v51 := Tryz.zeroValue87
 t53 := Tryz.underlying90
 a53 := Tryz.isAgg90
 z53 := Tryz.sizeOf90
 v53 := Tryz.zeroValue90
 t131 := Tryz.underlying155
 a131 := Tryz.isAgg155
 z131 := Tryz.sizeOf155
 v131 := Tryz.zeroValue155
 t182 := Tryz.underlying150
 a182 := Tryz.isAgg150
 z182 := Tryz.sizeOf150
 v182 := Tryz.zeroValue150
 t183 := Tryz.underlying151
 a183 := Tryz.isAgg151
 z183 := Tryz.sizeOf151
 v183 := Tryz.zeroValue151
 t218 := Tryz.underlying181
 a218 := Tryz.isAgg181
 z218 := Tryz.sizeOf181
 v218 := Tryz.zeroValue181
 t222 := Tryz.underlying185
 a222 := Tryz.isAgg185
 z222 := Tryz.sizeOf185
 v222 := Tryz.zeroValue185
 t228 := Tryz.underlying203
 a228 := Tryz.isAgg203
 z228 := Tryz.sizeOf203
 v228 := Tryz.zeroValue203
 t229 := Tryz.underlying60
 a229 := Tryz.isAgg60
 z229 := Tryz.sizeOf60
 v229 := Tryz.zeroValue60 }
def Tryz.laysNm220_ren : Go.Shelf.Ren := ⟨fun | 20 => 209 | n => n, fun | 22 => 22 | 3 => 3 | 4 => 4 | 0 => 0 | n => n, fun | n => n⟩
theorem Tryz.laysNm220 : Go.Proofs.Lays2.n20 Tryz.prog Tryz.laysNm220_ren := {
 mixed := by kernel_rfl
 f20 := Tryz.func209.trans (congrArg some (by kernel_rfl))
 t0 := Tryz.underlying0
 a0 := Tryz.isAgg0
 z0 := Tryz.sizeOf0
 v0 := Tryz.zeroValue0
 t3 := Tryz.underlying3
 a3 := Tryz.isAgg3
 z3 := Tryz.sizeOf3
 v3 := Tryz.zeroValue3
 t4 := Tryz.underlying4
 a4 := Tryz.isAgg4
 z4 := Tryz.sizeOf4
 v4 := Tryz.zeroValue4
 t22 := Tryz.underlying22
 a22 := Tryz.isAgg22
 z22 := Tryz.sizeOf22
 v22 := Tryz.zeroValue22
 i3 := by kernel_rfl }
end Go.Proofs

/- slices.Sort, Compact of numbers that the call owns (the shelf's contracts in my words). -/
namespace Go.Proofs.YtbajgjbdcgakoaaGreatDoor
set_option linter.unusedVariables false
set_option linter.unusedSimpArgs false
open Go.RowKit
open Go.Sort
section
variable {α : Type} [Inhabited α] {enc : α → Value} {w : World} {base g cap n : Nat} {e : TypeId} {os : Array Obj} {cur : Array Value} {ss ts : List α}
/-- The cells of an own row, as the shelf's contracts ask for them. -/
theorem holdsE (hb : w.heap[g]? = some (.cells cur e (0, 0))) (ht : cur.toList.take ss.length = ss.map enc) : Holds enc w g 0 ss.toArray := by
 intro j hj
 rw [List.size_toArray] at hj
 constructor
 ·have h : cur[j]? = some (enc ss[j]) := by
   rw [← Array.getElem?_toList, ← List.getElem?_take_of_lt hj, ht]
   simp [hj]
  simp [World.cell?, hb, h, hj]
 ·simp [World.frozen?, hb]
/-- Behind a call that has written the row anew: all else is as it was, and the slice owns the new elements. -/
theorem putE_mod (d : Array α) : Mod (fun k => k = g) w (grow (putRow enc (Sort.ahead w n) g 0 d) os) := by
 refine ⟨rfl, rfl, rfl, by simp, fun k hk hne => ?_⟩
 rw [heap_grow_old _ _ (by simpa using hk)]
 have hgk : g ≠ k := fun h => hne h.symm
 simp [putRow, mapBlock, Sort.ahead, Array.getElem?_modify, hgk]
theorem putE_own (hl : ts.length = ss.length) (hbase : base ≤ g) (hb : w.heap[g]? = some (.cells cur e (0, 0))) (h1 : ss.length ≤ cap) (h2 : cap ≤ maxLen) (h3 : cur.size = cap * 1) :
  (grow (putRow enc (Sort.ahead w n) g 0 ts.toArray) os).ownsRow base e 1 (.slice (some ⟨g, 0, none⟩) ss.length cap) ss.length (ts.map enc) := by
 have hnew : (grow (putRow enc (Sort.ahead w n) g 0 ts.toArray) os).heap[g]? = some (.cells (putCells enc 0 ts.toArray cur) e (0, 0)) := by
  rw [heap_grow_old _ _ (by simpa using (Array.getElem?_eq_some_iff.1 hb).1)]
  simp [putRow, mapBlock, Sort.ahead, Array.getElem?_modify, hb, onCells]
 refine ⟨by simp [hl], .inr ⟨g, cap, _, rfl, hbase, hnew, h1, h2, by simp [putCells, h3], ?_⟩⟩
 rw [Nat.mul_one, ← hl]
 refine List.ext_getElem? fun j => ?_
 rcases Nat.lt_or_ge j ts.length with hj | hj
 ·rw [List.getElem?_take_of_lt hj, Array.getElem?_toList]
  simp [putCells, hj, show j < cur.size by omega]
 ·rw [List.getElem?_take_eq_none hj, List.getElem?_eq_none (by simpa using hj)]
end
def ivQ (l : List Int) : List Value := l.map (.int .i64)
theorem ivQ_cast (l : List Nat) : ivQ (castI l) = nvQ l := castI_V l
def SameRowI (w : World) (base : Nat) (v : Value) (ss : List Int) (e : Ending) (w' : World) : Prop :=
 e = .returned (.tuple #[]) ∧ w'.ownsRow base 3 1 v ss.length (ivQ ss) ∧ Mod (fun k => v.ownBlock = some k) w w'
theorem sortI_calls (w : World) (v : Value) (n base : Nat) (ss : List Int) (hown : w.ownsRow base 3 1 v n (ivQ ss)) (hl : ss.length ≤ 100000000) :
  Calls Tryz.prog 208 #[v] w (SameRowI w base v (ss.mergeSort fun x y => decide (x ≤ y))) := by
 have hn : n = ss.length := by have := hown.1; simp [ivQ] at this; omega
 subst hn
 rcases hown.2 with ⟨rfl, h0⟩ | ⟨g, cap, cur, rfl, hbase, hb, h1, h2, h3, h4⟩
 ·have e : ss = [] := List.eq_nil_of_length_eq_zero h0
  subst e
  refine (Any.slices_Sort_int_none Tryz.lays189 none 0 w).mono ?_
  rintro e w' ⟨rfl, rfl⟩
  exact ⟨rfl, by simpa using hown, Mod.refl _ _⟩
 ·refine (Any.slices_Sort_int Tryz.lays189 g 0 cap ss w (holdsE hb (by simpa [ivQ] using h4)) (lt_of_heap hb) (by omega)).mono ?_
  rintro e w' ⟨rfl, nn, os, rfl⟩
  refine ⟨rfl, ?_, (putE_mod _).mono (fun k hk => by rw [hk]; rfl)⟩
  have := putE_own (enc := Value.int .i64) (n := nn) (os := os) (ts := ss.mergeSort fun x y => decide (x ≤ y)) (ss := ss) (by simp) hbase hb h1 h2 h3
  simpa [ivQ] using this
/-- What Compact hands back. -/
def CompactPostI (w : World) (base : Nat) (v : Value) (ss : List Int) (e : Ending) (w' : World) : Prop :=
 ∃ v', e = .returned v' ∧ w'.ownsRow base 3 1 v' (Lib.compact ss).length (ivQ (Lib.compact ss)) ∧ v'.ownBlock = v.ownBlock ∧ Mod (fun k => v.ownBlock = some k) w w'
theorem own_shrinkI {w : World} {base g cap n m : Nat} {e : TypeId} {xs : List Value} (h : w.ownsRow base e 1 (.slice (some ⟨g, 0, none⟩) n cap) n xs) (hm : m ≤ n) : w.ownsRow base e 1 (.slice (some ⟨g, 0, none⟩) m cap) m (xs.take m) := by
 rcases h.2 with ⟨h0, _⟩ | ⟨g', cap', cur, hv, hbase, hb, h1, h2, h3, h4⟩
 ·cases h0
 ·cases hv
  have := h.1
  refine ⟨by simp; omega, .inr ⟨g, cap, cur, rfl, hbase, hb, by omega, h2, h3, ?_⟩⟩
  rw [← h4, List.take_take]
  congr 1
  omega
theorem compactI_le (ss : List Int) : (Lib.compact ss).length ≤ ss.length := by
 unfold Lib.compact Lib.compactUpTo
 rw [List.length_map]
 have := List.length_filter_le (Lib.keeps ss.toArray) (List.range ss.length)
 simpa using this
theorem compactI_calls (w : World) (v : Value) (n base : Nat) (ss : List Int) (hown : w.ownsRow base 3 1 v n (ivQ ss)) (hl : ss.length ≤ 100000000) :
  Calls Tryz.prog 209 #[v] w (CompactPostI w base v ss) := by
 have hn : n = ss.length := by have := hown.1; simp [ivQ] at this; omega
 subst hn
 rcases hown.2 with ⟨rfl, h0⟩ | ⟨g, cap, cur, rfl, hbase, hb, h1, h2, h3, h4⟩
 ·have e : ss = [] := List.eq_nil_of_length_eq_zero h0
  subst e
  refine (Any.slices_Compact_int_empty Tryz.laysNm220 none 0 w).mono ?_
  rintro e w' ⟨rfl, rfl⟩
  exact ⟨_, rfl, hown, rfl, Mod.refl _ _⟩
 ·refine (Any.slices_Compact_int Tryz.laysNm220 g 0 cap ss w (holdsE hb (by simpa [ivQ] using h4)) (by omega) h1).mono ?_
  rintro e w' ⟨rfl, nn, rfl⟩
  have e0 : ∀ W : World, W = grow W #[] := fun W => by simp [grow]
  rw [e0 (putRow _ _ _ _ _)]
  have hcl := compactI_le ss
  refine ⟨_, rfl, ?_, rfl, (putE_mod _).mono (fun k hk => by rw [hk]; rfl)⟩
  have h := putE_own (enc := Value.int .i64) (n := nn) (os := #[]) (ts := Lib.compact ss ++ List.replicate (ss.length - (Lib.compact ss).length) 0) (ss := ss) (by simp; omega) hbase hb h1 h2 h3
  have h2 := own_shrinkI h hcl
  rw [List.map_append, List.take_left' (by simp)] at h2
  exact h2

end Go.Proofs.YtbajgjbdcgakoaaGreatDoor

/- Rows of places that are being made, in memory. -/
namespace Go.Proofs.YtbajgjbdcgakoaaGreatDoor
set_option linter.unusedVariables false
set_option linter.unusedSimpArgs false
open Go.RowKit
/-- The slices us read as the rows rs. -/
def RowsU (w : World) (us : List Value) (rs : List (List Nat)) : Prop := us.length = rs.length ∧ ∀ i, (h : i < rs.length) → ∃ u, us[i]? = some u ∧ Sl w 3 1 u (nvQ rs[i]) ∧ NilOkI u
/-- A row of rows that is being made: the first ones are there, the others are nil. -/
def OutB (w : World) (g : Nat) (us : List Value) (W : Nat) : Prop := Blk w g 22 (us ++ List.replicate (W - us.length) (Value.slice none 0 0)).toArray
def RnP (w : World) (W : Nat) (F : Nat → Nat → Bool) (e : Ending) (w' : World) : Prop := ∃ v, e = .returned v ∧ SlI w' v (rowsQ W F) ∧ Pure w w'
variable {w w' : World} {us : List Value} {rs : List (List Nat)} {u : Value} {r : List Nat} {W g : Nat}
theorem nilI : Sl w 3 1 (Value.slice none 0 0) (nvQ []) ∧ NilOkI (Value.slice none 0 0) := ⟨Sl.nil_, fun n c h => by cases h; exact ⟨rfl, rfl⟩⟩
theorem rowsQ_tail {W k : Nat} {F : Nat → Nat → Bool} (hk : k ≤ W) (h : ∀ i, k ≤ i → i < W → rowQ W (F i) = []) : (rowsQ W F).take k ++ List.replicate (W - k) [] = rowsQ W F := by
 refine List.ext_getElem (by simp [rowsQ_len]; omega) fun i h1 h2 => ?_
 rw [rowsQ_at]
 have hi : i < W := by rw [rowsQ_len] at h2; exact h2
 by_cases hlt : i < k
 ·rw [List.getElem_append_left (by simp [rowsQ_len]; omega), List.getElem_take, rowsQ_at]
 ·rw [List.getElem_append_right (by simp [rowsQ_len]; omega), List.getElem_replicate, h i (by omega) hi]
theorem OutB.all (h : OutB w g us W) (hl : us.length ≤ W) : OutB w g (us ++ List.replicate (W - us.length) (Value.slice none 0 0)) W := by
 unfold OutB at *
 rw [show W - (us ++ List.replicate (W - us.length) (Value.slice none 0 0)).length = 0 by simp; omega, List.replicate_zero, List.append_nil]
 exact h
theorem RowsU.nil : RowsU w [] [] := ⟨rfl, fun i h => absurd h (Nat.not_lt_zero _)⟩
theorem RowsU.snoc (h : RowsU w us rs) (hs : Sl w 3 1 u (nvQ r)) (hn : NilOkI u) : RowsU w (us ++ [u]) (rs ++ [r]) := by
 obtain ⟨h1, h2⟩ := h
 refine ⟨by simp [h1], fun i hi => ?_⟩
 by_cases hlt : i < rs.length
 ·obtain ⟨x, hx, a, b⟩ := h2 i hlt
  refine ⟨x, by rw [List.getElem?_append_left (by omega)]; exact hx, ?_, b⟩
  rw [List.getElem_append_left hlt]
  exact a
 ·have hi' : i = rs.length := by simp at hi; omega
  subst hi'
  refine ⟨u, by rw [← h1]; simp, ?_, hn⟩
  simpa using hs
theorem RowsU.nils (h : RowsU w us rs) : ∀ n, RowsU w (us ++ List.replicate n (Value.slice none 0 0)) (rs ++ List.replicate n [])
 | 0 => by simpa using h
 | n + 1 => by
  rw [List.replicate_succ', ← List.append_assoc, List.replicate_succ', ← List.append_assoc]
  exact (RowsU.nils h n).snoc (nilI (w := w)).1 (nilI (w := w)).2
theorem RowsU.mod {S : Nat → Prop} (h : RowsU w us rs) (hm : Mod S w w') (hs : ∀ g arr fr, w.heap[g]? = some (.cells arr 3 fr) → ¬ S g) : RowsU w' us rs :=
 ⟨h.1, fun i hi => by obtain ⟨x, hx, a, b⟩ := h.2 i hi; exact ⟨x, hx, a.mod hm hs, b⟩⟩
theorem RowsU.pure (h : RowsU w us rs) (hm : Pure w w') : RowsU w' us rs := h.mod hm (fun _ _ _ _ h => h)
/-- A store into a row of rows. -/
theorem RowsU.set {t : TypeId} {cs : Array Value} (h : RowsU w us rs) (hB : Blk w g t cs) (hne : 3 ≠ t) (j : Nat) (v : Value) : RowsU (w.setCell ⟨g, j, none⟩ v) us rs :=
 ⟨h.1, fun i hi => by obtain ⟨x, hx, a, b⟩ := h.2 i hi; exact ⟨x, hx, a.set_ne hB hne v, b⟩⟩
theorem OutB.lt (h : OutB w g us W) : g < w.heap.size := Blk.lt h
theorem OutB.mod {S : Nat → Prop} (h : OutB w g us W) (hm : Mod S w w') (hg : ¬ S g) : OutB w' g us W := Blk.mod h hm hg
theorem OutB.snoc {k : Nat} (h : OutB w g us W) (hk : k = us.length) (hl : us.length < W) (v : Value) : OutB (w.setCell ⟨g, k, none⟩ v) g (us ++ [v]) W := by
 subst hk
 have h1 := Blk.set h us.length v
 unfold OutB
 rw [show W - us.length = (W - (us ++ [v]).length) + 1 by simp; omega, List.replicate_succ] at h1
 have e : (us ++ Value.slice none 0 0 :: List.replicate (W - (us ++ [v]).length) (Value.slice none 0 0)).toArray.setIfInBounds us.length v = (us ++ [v] ++ List.replicate (W - (us ++ [v]).length) (Value.slice none 0 0)).toArray := by
  rw [List.setIfInBounds_toArray, List.set_append_right _ _ (Nat.le_refl _), Nat.sub_self, List.set_cons_zero, List.append_assoc]
  rfl
 rw [e] at h1
 exact h1
theorem OutB.cellk {k : Nat} (h : OutB w g us W) (hk : k = us.length) (hl : us.length < W) : w.cell? ⟨g, k, none⟩ = some (.slice none 0 0) ∧ w.frozen? ⟨g, k, none⟩ = false := by
 subst hk
 refine ⟨?_, Blk.frozen h _⟩
 rw [Blk.cell h, List.getElem?_toArray, List.getElem?_append_right (Nat.le_refl _), Nat.sub_self, List.getElem?_replicate, if_pos (by omega)]
theorem OutB.skip (h : OutB w g us W) (hl : us.length < W) : OutB w g (us ++ [Value.slice none 0 0]) W := by
 unfold OutB at *
 rw [show W - us.length = (W - (us ++ [Value.slice none 0 0]).length) + 1 by simp; omega, List.replicate_succ] at h
 rw [List.append_assoc]
 exact h
theorem OutB.new (w : World) (W : Nat) : OutB (w.alloc (.cells (List.replicate W (Value.slice none 0 0)).toArray 22)) w.heap.size [] W := by
 unfold OutB
 simpa using Blk.new w 22 (List.replicate W (Value.slice none 0 0)).toArray
/-- Rows that are whole, as a slice. -/
theorem OutB.sl (h : OutB w g us W) (hr : RowsU w us rs) (hW : rs.length = W) (hb : W ≤ 1000000) : SlI w (.slice (some ⟨g, 0, none⟩) W W) rs := by
 have hl := hr.1
 unfold OutB at h
 rw [show W - us.length = 0 by omega, List.replicate_zero, List.append_nil] at h
 exact ⟨us, ⟨_, _, _, rfl, Nat.le_refl _, by omega, by omega, fun _ => ⟨g, 0, rfl, h.row0⟩⟩, hl, hr.2⟩
theorem SlI.two {g : Nat} {u v : Value} {a b : List Nat} (h : Blk w g 22 #[u, v]) (hu : Sl w 3 1 u (nvQ a) ∧ NilOkI u) (hv : Sl w 3 1 v (nvQ b) ∧ NilOkI v) : SlI w (.slice (some ⟨g, 0, none⟩) 2 2) [a, b] := by
 refine ⟨[u, v], ⟨_, _, _, rfl, Nat.le_refl _, by omega, rfl, fun _ => ⟨g, 0, rfl, Blk.row0 h⟩⟩, rfl, fun i hi => ?_⟩
 match i, hi with
 | 0, _ => exact ⟨u, rfl, hu.1, hu.2⟩
 | 1, _ => exact ⟨v, rfl, hv.1, hv.2⟩
theorem own_NilOk {base n : Nat} {v : Value} {xs : List Value} (h : w.ownsRow base 3 1 v n xs) : NilOkI v := by
 intro m c hv
 rcases h.2 with ⟨h1, h2⟩ | ⟨g, cap, cur, h1, _⟩
 ·rw [h1] at hv; cases hv; exact ⟨rfl, rfl⟩
 ·rw [h1] at hv; cases hv

end Go.Proofs.YtbajgjbdcgakoaaGreatDoor

/- both: the places of one or the other (package query). -/
namespace Go.Proofs.YtbajgjbdcgakoaaGreatDoor
set_option linter.unusedVariables false
set_option linter.unusedSimpArgs false
open Go.RowKit
theorem own_baseI {w : World} {b1 b2 n s : Nat} {e : TypeId} {v : Value} {xs : List Value} (h : w.ownsRow b1 e s v n xs) (hb : b2 ≤ b1) : w.ownsRow b2 e s v n xs := by
 refine ⟨h.1, ?_⟩
 rcases h.2 with h | ⟨g, cap, cur, a, b, c⟩
 ·exact .inl h
 ·exact .inr ⟨g, cap, cur, a, by omega, c⟩
set_option maxRecDepth 100000 in
set_option maxHeartbeats 4000000 in
theorem both_calls (w : World) (va vb : Value) (W : Nat) (F G : Nat → Nat → Bool) (ha : SlI w va (rowsQ W F)) (hb : SlI w vb (rowsQ W G)) (hW : W ≤ 1000) : Calls Tryz.prog 191 #[va, vb] w (RnP w W (fun i j => F i j || G i j)) := by
 obtain ⟨Aa, ca, rfl, hca, hca2⟩ := ha.form
 obtain ⟨Ab, cb, rfl, hcb, hcb2⟩ := hb.form
 have HA := Lib.hid ha
 have HB := Lib.hid hb
 have hmk := run_make_one (P := Tryz.prog) 179 22 (.slice none 0 0) 24 Tryz.underlying179 info_intsQ rfl .i64 .i64 W (W : Int) rfl (by omega) (by omega) (Array.replicate W (Value.slice none 0 0)) (by simp)
 simp only [rowsQ_len] at *
 clear ha hb
 have HO := Lib.hid (OutB.new w W)
 have HM := Lib.hid (pure_alloc w (.cells (List.replicate W (Value.slice none 0 0)).toArray 22))
 rw [List.toArray_replicate] at HO HM
 go_enter Tryz.func191, Tryz.ntmps191
 go_wp2_with fail
 clear hmk
 have hgw := Nat.le_refl w.heap.size
 generalize (w.alloc (.cells (Array.replicate W (Value.slice none 0 0)) 22)) = w1 at *
 generalize hg : w.heap.size = g at *
 go_loopg [13] W (fun gk i wr => ∃ (k : Nat) (us : List Value), W - k = gk ∧ k ≤ W ∧ i = .int .i64 (k : Int) ∧ us.length = k ∧ OutB wr g us W ∧ RowsU wr us ((rowsQ W fun i j => F i j || G i j).take k) ∧ Pure w wr)
 case atStart => exact ⟨0, [], by omega, by omega, rfl, rfl, HO.out, RowsU.nil, HM.out⟩
 case round =>
  clear HO HM
  obtain ⟨k, us, rfl, hk, rfl, hul, hO, hR, hm⟩ := hrel
  by_cases hlt : k < W
  ·obtain ⟨ga, oa, A1, c1, rfl, qa, sa, na⟩ := (HA.out.pure hm).at (i := k) (by rw [rowsQ_len]; exact hlt)
   obtain ⟨gb, ob, A2, c2, rfl, qb, sb, nb⟩ := (HB.out.pure hm).at (i := k) (by rw [rowsQ_len]; exact hlt)
   rw [rowsQ_at] at qa qb sa sb na nb
   have HROW := Lib.hid (bothRow (W := W) (f := F k) (g := G k))
   have HLA := rowQ_len W (F k)
   have HLB := rowQ_len W (G k)
   have HTK : Hid ((rowsQ W fun i j => F i j || G i j).take (k + 1) = (rowsQ W fun i j => F i j || G i j).take k ++ [rowQ W fun j => F k j || G k j]) := Lib.hid (by
    rw [List.take_succ_eq_append_getElem (by rw [rowsQ_len]; exact hlt), rowsQ_at])
   have HSA := Lib.hid (And.intro sa na)
   have HSB := Lib.hid (And.intro sb nb)
   have HO := Lib.hid hO
   have HR := Lib.hid hR
   have HM := Lib.hid hm
   have HU := Lib.hid hul
   clear sa na sb nb hO hR hm hul
   generalize rowQ W (F k) = la at *
   generalize rowQ W (G k) = lb at *
   go_wp2_with fail
   have HGs := Lib.hid (show ∀ (D : Nat → Bool) (zzi : Nat) (zq zq' : World), (fun _ zq => (fun Z => Z.cell? ⟨ga, oa + k, none⟩ = some (.slice A1 la.length c1) ∧ Z.cell? ⟨gb, ob + k, none⟩ = some (.slice A2 lb.length c2) ∧ (Sl Z 3 1 (.slice A1 la.length c1) (nvQ la) ∧ NilOkI (.slice A1 la.length c1)) ∧ (Sl Z 3 1 (.slice A2 lb.length c2) (nvQ lb) ∧ NilOkI (.slice A2 lb.length c2))) zq) D zq → Mod (fun _ => False) zq zq' → (fun _ zq => (fun Z => Z.cell? ⟨ga, oa + k, none⟩ = some (.slice A1 la.length c1) ∧ Z.cell? ⟨gb, ob + k, none⟩ = some (.slice A2 lb.length c2) ∧ (Sl Z 3 1 (.slice A1 la.length c1) (nvQ la) ∧ NilOkI (.slice A1 la.length c1)) ∧ (Sl Z 3 1 (.slice A2 lb.length c2) (nvQ lb) ∧ NilOkI (.slice A2 lb.length c2))) zq) (upd D zzi true) zq' from by intro D zzi zq zq' h hm; (exact ⟨keepp h.1 hm, keepp h.2.1 hm, ⟨h.2.2.1.1.pure hm, h.2.2.1.2⟩, ⟨h.2.2.2.1.pure hm, h.2.2.2.2⟩⟩))
   refine wp_region_inv (by kernel_rfl) (by kernel_rfl) (InvF (R := Mod (fun _ => False)) [.is (.slice (some ⟨ga, oa, none⟩) W ca),
     .is (.int .i64 (k : Int)),
     .is (.pointer (some ⟨ga, oa + k, none⟩)),
     .is (.slice A1 la.length c1),
     .is (.slice (some ⟨gb, ob, none⟩) W cb),
     .is (.int .i64 (k : Int)),
     .is (.pointer (some ⟨gb, ob + k, none⟩)),
     .is (.slice A2 lb.length c2),
     ⟨fun zv zw => ∃ (g_8 : Nat), zv = .slice (some ⟨g_8, 0, none⟩) 2 2 ∧ wr.heap.size ≤ g_8 ∧ Blk zw g_8 22 #[.slice A1 la.length c1, .slice A2 lb.length c2], (by rintro zv zw zx ⟨g_8, rfl, c0, q0⟩ hm; exact ⟨g_8, rfl, c0, (q0.modp hm)⟩), none, some 9⟩,
     ⟨fun zv zw => ∃ (v_9 : Value) (n_9 : Nat), zv = v_9 ∧ zw.ownsRow wr.heap.size 3 1 v_9 n_9 (nvQ [la, lb].flatten), (by rintro zv zw zx ⟨v_9, n_9, hze, q0⟩ hm; exact ⟨v_9, n_9, hze, (own_pure q0 hm)⟩), none, none⟩,
     ⟨fun zv zw => ∃ (v_10 : Value) (n_10 : Nat), zv = v_10 ∧ zw.ownsRow wr.heap.size 3 1 v_10 n_10 (nvQ [la, lb].flatten), (by rintro zv zw zx ⟨v_10, n_10, hze, q0⟩ hm; exact ⟨v_10, n_10, hze, (own_pure q0 hm)⟩), none, none⟩]
     (PB wr (fun _ => False) wr.heap.size (fun _ zq => (fun Z => Z.cell? ⟨ga, oa + k, none⟩ = some (.slice A1 la.length c1) ∧ Z.cell? ⟨gb, ob + k, none⟩ = some (.slice A2 lb.length c2) ∧ (Sl Z 3 1 (.slice A1 la.length c1) (nvQ la) ∧ NilOkI (.slice A1 la.length c1)) ∧ (Sl Z 3 1 (.slice A2 lb.length c2) (nvQ lb) ∧ NilOkI (.slice A2 lb.length c2))) zq))) (InvF.start (PB.start (Mod.refl _ _) (Nat.le_refl _) (⟨qa, qb, HSA.out, HSB.out⟩))) ?_ ?_
   ·refine .cons ?_ (.cons ?_ (.cons ?_ (.cons ?_ (.cons ?_ (.cons ?_ (.cons ?_ (.cons ?_ (.cons ?_ (.cons ?_ (.cons ?_ .nil))))))))))
    ·intro D V zw1 a hR hI K hK
     obtain ⟨hM1, hB1, hG1⟩ := hI.1
     obtain ⟨hG1a, hG1b, hG1c, hG1d⟩ := hG1
     have ze0 := hR.frame.other (t := 0) (by kernel_rfl) rfl
     rw [if_pos (by rfl)]
     go_simp
     exact hK (.slice (some ⟨ga, oa, none⟩) W ca) _ (hI.next hR (by kernel_rfl) (Mod.refl _ _) (PB.quiet hI.1 (Mod.refl _ _) (HGs.out D 0 zw1 zw1 (hI.1).g (Mod.refl _ _))) (upd_same V 0 _))
    ·intro D V zw1 a hR hI K hK
     obtain ⟨hM1, hB1, hG1⟩ := hI.1
     obtain ⟨hG1a, hG1b, hG1c, hG1d⟩ := hG1
     have ze6 := hR.frame.other (t := 6) (by kernel_rfl) rfl
     rw [if_pos (by rfl)]
     go_simp
     exact hK (.int .i64 (k : Int)) _ (hI.next hR (by kernel_rfl) (Mod.refl _ _) (PB.quiet hI.1 (Mod.refl _ _) (HGs.out D 1 zw1 zw1 (hI.1).g (Mod.refl _ _))) (upd_same V 1 _))
    ·intro D V zw1 a hR hI K hK
     obtain ⟨hM1, hB1, hG1⟩ := hI.1
     obtain ⟨hG1a, hG1b, hG1c, hG1d⟩ := hG1
     have zd0 := hR.pred 0 (by kernel_rfl)
     have zF0 : V 0 = .slice (some ⟨ga, oa, none⟩) W ca := hI.2 0 zd0 rfl
     have zf0 := zF0; clear zF0
     have zd1 := hR.pred 1 (by kernel_rfl)
     have zF1 : V 1 = .int .i64 (k : Int) := hI.2 1 zd1 rfl
     have zf1 := zF1; clear zF1
     have ze16 := hR.frame.done (t := 16) (j := 0) (by kernel_rfl) hR.ok zd0
     have ze17 := hR.frame.done (t := 17) (j := 1) (by kernel_rfl) hR.ok zd1
     rw [if_pos (by rfl)]
     go_simp
     exact hK (.pointer (some ⟨ga, oa + k, none⟩)) _ (hI.next hR (by kernel_rfl) (Mod.refl _ _) (PB.quiet hI.1 (Mod.refl _ _) (HGs.out D 2 zw1 zw1 (hI.1).g (Mod.refl _ _))) (upd_same V 2 _))
    ·intro D V zw1 a hR hI K hK
     obtain ⟨hM1, hB1, hG1⟩ := hI.1
     obtain ⟨hG1a, hG1b, hG1c, hG1d⟩ := hG1
     have zd2 := hR.pred 2 (by kernel_rfl)
     have zF2 : V 2 = .pointer (some ⟨ga, oa + k, none⟩) := hI.2 2 zd2 rfl
     have zf2 := zF2; clear zF2
     have ze18 := hR.frame.done (t := 18) (j := 2) (by kernel_rfl) hR.ok zd2
     rw [if_pos (by rfl)]
     go_simp
     exact hK (.slice A1 la.length c1) _ (hI.next hR (by kernel_rfl) (Mod.refl _ _) (PB.quiet hI.1 (Mod.refl _ _) (HGs.out D 3 zw1 zw1 (hI.1).g (Mod.refl _ _))) (upd_same V 3 _))
    ·intro D V zw1 a hR hI K hK
     obtain ⟨hM1, hB1, hG1⟩ := hI.1
     obtain ⟨hG1a, hG1b, hG1c, hG1d⟩ := hG1
     have ze1 := hR.frame.other (t := 1) (by kernel_rfl) rfl
     rw [if_pos (by rfl)]
     go_simp
     exact hK (.slice (some ⟨gb, ob, none⟩) W cb) _ (hI.next hR (by kernel_rfl) (Mod.refl _ _) (PB.quiet hI.1 (Mod.refl _ _) (HGs.out D 4 zw1 zw1 (hI.1).g (Mod.refl _ _))) (upd_same V 4 _))
    ·intro D V zw1 a hR hI K hK
     obtain ⟨hM1, hB1, hG1⟩ := hI.1
     obtain ⟨hG1a, hG1b, hG1c, hG1d⟩ := hG1
     have ze6 := hR.frame.other (t := 6) (by kernel_rfl) rfl
     rw [if_pos (by rfl)]
     go_simp
     exact hK (.int .i64 (k : Int)) _ (hI.next hR (by kernel_rfl) (Mod.refl _ _) (PB.quiet hI.1 (Mod.refl _ _) (HGs.out D 5 zw1 zw1 (hI.1).g (Mod.refl _ _))) (upd_same V 5 _))
    ·intro D V zw1 a hR hI K hK
     obtain ⟨hM1, hB1, hG1⟩ := hI.1
     obtain ⟨hG1a, hG1b, hG1c, hG1d⟩ := hG1
     have zd4 := hR.pred 4 (by kernel_rfl)
     have zF4 : V 4 = .slice (some ⟨gb, ob, none⟩) W cb := hI.2 4 zd4 rfl
     have zf4 := zF4; clear zF4
     have zd5 := hR.pred 5 (by kernel_rfl)
     have zF5 : V 5 = .int .i64 (k : Int) := hI.2 5 zd5 rfl
     have zf5 := zF5; clear zF5
     have ze20 := hR.frame.done (t := 20) (j := 4) (by kernel_rfl) hR.ok zd4
     have ze21 := hR.frame.done (t := 21) (j := 5) (by kernel_rfl) hR.ok zd5
     rw [if_pos (by rfl)]
     go_simp
     exact hK (.pointer (some ⟨gb, ob + k, none⟩)) _ (hI.next hR (by kernel_rfl) (Mod.refl _ _) (PB.quiet hI.1 (Mod.refl _ _) (HGs.out D 6 zw1 zw1 (hI.1).g (Mod.refl _ _))) (upd_same V 6 _))
    ·intro D V zw1 a hR hI K hK
     obtain ⟨hM1, hB1, hG1⟩ := hI.1
     obtain ⟨hG1a, hG1b, hG1c, hG1d⟩ := hG1
     have zd6 := hR.pred 6 (by kernel_rfl)
     have zF6 : V 6 = .pointer (some ⟨gb, ob + k, none⟩) := hI.2 6 zd6 rfl
     have zf6 := zF6; clear zF6
     have ze22 := hR.frame.done (t := 22) (j := 6) (by kernel_rfl) hR.ok zd6
     rw [if_pos (by rfl)]
     go_simp
     exact hK (.slice A2 lb.length c2) _ (hI.next hR (by kernel_rfl) (Mod.refl _ _) (PB.quiet hI.1 (Mod.refl _ _) (HGs.out D 7 zw1 zw1 (hI.1).g (Mod.refl _ _))) (upd_same V 7 _))
    ·intro D V zw1 a hR hI K hK
     obtain ⟨hM1, hB1, hG1⟩ := hI.1
     obtain ⟨hG1a, hG1b, hG1c, hG1d⟩ := hG1
     have zd3 := hR.pred 3 (by kernel_rfl)
     have zF3 : V 3 = .slice A1 la.length c1 := hI.2 3 zd3 rfl
     have zf3 := zF3; clear zF3
     have zd7 := hR.pred 7 (by kernel_rfl)
     have zF7 : V 7 = .slice A2 lb.length c2 := hI.2 7 zd7 rfl
     have zf7 := zF7; clear zF7
     have ze19 := hR.frame.done (t := 19) (j := 3) (by kernel_rfl) hR.ok zd3
     have ze23 := hR.frame.done (t := 23) (j := 7) (by kernel_rfl) hR.ok zd7
     rw [if_pos (by rfl)]
     go_simp
     exact hK (_) _ (hI.next hR (by kernel_rfl) ((Mod.refl _ _).alloc _) (PB.quiet hI.1 (pure_alloc _ _) (HGs.out D 8 _ _ (hI.1).g ((Mod.refl _ _).alloc _))) (⟨_, upd_same V 8 _, (by omega), (Blk.new _ _ _)⟩))
    ·intro D V zw1 a hR hI K hK
     obtain ⟨hM1, hB1, hG1⟩ := hI.1
     obtain ⟨hG1a, hG1b, hG1c, hG1d⟩ := hG1
     have zd8 := hR.pred 8 (by kernel_rfl)
     have zF8 : ∃ (g_8 : Nat), V 8 = .slice (some ⟨g_8, 0, none⟩) 2 2 ∧ wr.heap.size ≤ g_8 ∧ Blk zw1 g_8 22 #[.slice A1 la.length c1, .slice A2 lb.length c2] := hI.2 8 zd8 (by show (!D 9) = true; rw [hR.not]; rfl)
     obtain ⟨g_8, zf8, c8_0, b8_0⟩ := zF8
     have ze24 := hR.frame.done (t := 24) (j := 8) (by kernel_rfl) hR.ok zd8
     rw [if_pos (by rfl)]
     go_simp
     refine (concatI_calls zw1 _ [la, lb] (SlI.two b8_0 hG1c hG1d) (by simp [lensI]; omega)).mono ?_
     rintro e zw2 ⟨v_0, n_0, rfl, hq, hm2⟩
     exact hK (v_0) _ (hI.next hR (by kernel_rfl) hm2 (PB.quiet hI.1 hm2 (HGs.out D 9 _ _ (hI.1).g hm2)) (⟨v_0, n_0, upd_same V 9 _, (own_baseI hq (by omega))⟩))
    ·intro D V zw1 a hR hI K hK
     obtain ⟨hM1, hB1, hG1⟩ := hI.1
     obtain ⟨hG1a, hG1b, hG1c, hG1d⟩ := hG1
     have zd9 := hR.pred 9 (by kernel_rfl)
     have zF9 : ∃ (v_9 : Value) (n_9 : Nat), V 9 = v_9 ∧ zw1.ownsRow wr.heap.size 3 1 v_9 n_9 (nvQ [la, lb].flatten) := hI.2 9 zd9 rfl
     obtain ⟨v_9, n_9, zf9, b9_0⟩ := zF9
     have ze25 := hR.frame.done (t := 25) (j := 9) (by kernel_rfl) hR.ok zd9
     rw [if_pos (by rfl)]
     go_simp
     exact hK (v_9) _ (hI.next hR (by kernel_rfl) (Mod.refl _ _) (PB.quiet hI.1 (Mod.refl _ _) (HGs.out D 10 zw1 zw1 (hI.1).g (Mod.refl _ _))) (⟨v_9, n_9, upd_same V 10 _, b9_0⟩))
   ·intro D V w2 hD hI
    obtain ⟨hM1, hB1, hG1⟩ := hI.1
    have hMx := hM1
    clear hM1
    have hBx := hB1
    clear hB1
    have hGx := hG1
    clear hG1
    have zF0 : V 0 = .slice (some ⟨ga, oa, none⟩) W ca := hI.2 0 (hD 0 (by decide)) rfl
    have zf0 := zF0; clear zF0
    have zF1 : V 1 = .int .i64 (k : Int) := hI.2 1 (hD 1 (by decide)) rfl
    have zf1 := zF1; clear zF1
    have zF2 : V 2 = .pointer (some ⟨ga, oa + k, none⟩) := hI.2 2 (hD 2 (by decide)) rfl
    have zf2 := zF2; clear zF2
    have zF3 : V 3 = .slice A1 la.length c1 := hI.2 3 (hD 3 (by decide)) rfl
    have zf3 := zF3; clear zF3
    have zF4 : V 4 = .slice (some ⟨gb, ob, none⟩) W cb := hI.2 4 (hD 4 (by decide)) rfl
    have zf4 := zF4; clear zF4
    have zF5 : V 5 = .int .i64 (k : Int) := hI.2 5 (hD 5 (by decide)) rfl
    have zf5 := zF5; clear zF5
    have zF6 : V 6 = .pointer (some ⟨gb, ob + k, none⟩) := hI.2 6 (hD 6 (by decide)) rfl
    have zf6 := zF6; clear zF6
    have zF7 : V 7 = .slice A2 lb.length c2 := hI.2 7 (hD 7 (by decide)) rfl
    have zf7 := zF7; clear zF7
    have zF9 : ∃ (v_9 : Value) (n_9 : Nat), V 9 = v_9 ∧ w2.ownsRow wr.heap.size 3 1 v_9 n_9 (nvQ [la, lb].flatten) := hI.2 9 (hD 9 (by decide)) rfl
    obtain ⟨v_9, n_9, zf9, b9_0⟩ := zF9
    have zF10 : ∃ (v_10 : Value) (n_10 : Nat), V 10 = v_10 ∧ w2.ownsRow wr.heap.size 3 1 v_10 n_10 (nvQ [la, lb].flatten) := hI.2 10 (hD 10 (by decide)) rfl
    obtain ⟨v_10, n_10, zf10, b10_0⟩ := zF10
    clear hI hD HGs
    simp only [frAll, Act.put, List.setIfInBounds_toArray, List.set_cons_zero, List.set_cons_succ, Nat.zero_add, Nat.reduceAdd, zf0, zf1, zf2, zf3, zf4, zf5, zf6, zf7, zf9, zf10]
    clear zf0 zf1 zf2 zf3 zf4 zf5 zf6 zf7 zf9 zf10
    generalize V 8 = u8
    clear V D
    have HOW := Lib.hid b10_0
    have hm2 := hMx
    have hg2 := HO.out.lt
    have hlen : (la ++ lb).length ≤ 2000 := by simp; omega
    rw [show ([la, lb].flatten : List Nat) = la ++ lb by simp] at HOW
    have hn : n_10 = (la ++ lb).length := by have := HOW.out.1; simp [nvQ] at this; simp; omega
    subst hn
    have HSO := Lib.hid (fun W0 (h : W0.ownsRow wr.heap.size 3 1 v_10 (la ++ lb).length (nvQ (la ++ lb))) => sortI_calls W0 v_10 _ _ (castI (la ++ lb)) (by rw [ivQ_cast]; exact h) (by rw [castI_len]; omega))
    have hob := Lib.hid (own_block HOW.out)
    have HM2 := Lib.hid hm2
    clear hMx hGx b10_0 qa qb HSA HSB hm2
    go_wp2_with fail
    refine (HSO.out _ HOW.out).mono ?_
    rintro e w3 ⟨rfl, hq, hm3⟩
    have HM3 : Hid (Pure wr w3) := Lib.hid (HM2.out.trans' hm3 (fun i hi hlt => by have := hob.out i hi; omega))
    have HCO := Lib.hid (compactI_calls w3 v_10 _ _ _ hq (by rw [List.length_mergeSort, castI_len]; omega))
    rw [show ((castI (la ++ lb)).mergeSort fun x y => decide (x ≤ y)) = (castI (la ++ lb)).mergeSort fun x y => decide (x ≤ y) from rfl] at HCO
    clear hq hm3 HSO HM2
    go_wp2_with fail
    refine HCO.out.mono ?_
    rintro e w4 ⟨v4, rfl, hq, hbk, hm4⟩
    obtain ⟨A4, n4, c4, rfl⟩ := (Sl.of_own hq).form
    rw [HROW.out, castI_len, ivQ_cast] at hq
    have HQ := Lib.hid hq
    have HM4 : Hid (Pure wr w4) := Lib.hid (HM3.out.trans' hm4 (fun i hi hlt => by have := hob.out i hi; omega))
    have HO4 := Lib.hid (HO.out.mod HM4.out (fun h => h))
    obtain ⟨x0, xf0⟩ := HO4.out.cellk HU.out.symm (by rw [HU.out]; exact hlt)
    clear hq hm4 HCO HM3 HO
    go_wp2_with fail
    go_roundg (W - (k + 1))
    case measure => omega
    case rel =>
     refine ⟨k + 1, us ++ [.slice A4 n4 c4], rfl, hlt, by simp, by simp [HU.out], HO4.out.snoc HU.out.symm (by rw [HU.out]; exact hlt) _, ?_, (HM.out.trans HM4.out).setCell (.inr (by show w.heap.size ≤ g; omega)) _⟩
     rw [HTK.out]
     exact ((HR.out.pure HM4.out).set HO4.out (by decide) _ _).snoc ((Sl.of_own HQ.out).set_ne HO4.out (by decide) _) (own_NilOk HQ.out)
  ·have hke : k = W := by omega
   subst hke
   go_wp2_with fail
   go_ret
   exact ⟨_, rfl, hO.sl (by rw [List.take_of_length_le (by rw [rowsQ_len]; omega)] at hR; exact hR) (rowsQ_len _ _) (by omega), hm⟩

end Go.Proofs.YtbajgjbdcgakoaaGreatDoor

/- Rows of numbers that grow; tables whose cells are told by a function. -/
namespace Go.Proofs.YtbajgjbdcgakoaaGreatDoor
set_option linter.unusedVariables false
set_option linter.unusedSimpArgs false
open Go.RowKit
theorem nvQ_one (l : List Nat) : ∀ u ∈ nvQ l, u.oneCell' = true := by
 intro u hu
 obtain ⟨x, _, rfl⟩ := List.mem_map.1 hu
 rfl
set_option maxRecDepth 100000 in
/-- append of a row of numbers to a row that is one's own. -/
theorem run_appI (w : World) (ty : TypeId) (base n : Nat) (v u : Value) (xs : List Value) (l : List Nat) (hown : w.ownsRow base 3 1 v n xs) (hu : Sl w 3 1 u (nvQ l)) (hn : NilOkI u) (hb : base ≤ w.heap.size) (hs : n + l.length ≤ 100000000) :
  ∃ A c w', (Builtin.append_ #[22, 22] ty #[v, u]).run Tryz.prog w = .ok (.slice A (n + l.length) c) w' ∧ w'.ownsRow base 3 1 (.slice A (n + l.length) c) (n + l.length) (xs ++ nvQ l) ∧ w.grownBy w' v.ownBlock ∧ ((Value.slice A (n + l.length) c).ownBlock = v.ownBlock ∨ (Value.slice A (n + l.length) c).ownBlock = some w.heap.size) := by
 obtain ⟨i0, hi0, hz0, hz1, hz2⟩ := info_parts info_intQ
 obtain ⟨A, m, c, rfl⟩ := hu.form
 obtain ⟨hm, hmc, _⟩ := hu.lenI
 rw [nvQ_len] at hm
 subst hm
 cases A with
 | none =>
  obtain ⟨h0, rfl⟩ := hn _ _ rfl
  have hl : l = [] := List.eq_nil_of_length_eq_zero h0
  subst hl
  have hr := run_append_owned_none (P := Tryz.prog) (w := w) base 22 ty 3 i0 1 Tryz.underlying22 hi0 v n xs hown
  obtain ⟨A, k, c, rfl⟩ := (Sl.of_own hown).form
  have hk := (Sl.of_own hown).lenI
  have h1 := hown.1
  obtain rfl : k = n := by omega
  exact ⟨A, c, w, by simpa using hr, by simpa [nvQ] using hown, ⟨rfl, rfl, rfl, Nat.le_refl _, fun _ _ _ => rfl⟩, .inl rfl⟩
 | some ad =>
  obtain ⟨_, _, _, e, _, _, _, hrow⟩ := hu
  cases e
  have hc : ∀ j u, (nvQ l)[j]? = some u → w.cell? (ad.add j) = some u := by
   intro j u hj
   have hjl : j < l.length := by
    rcases Nat.lt_or_ge j (nvQ l).length with h | h
    ·rwa [nvQ_len] at h
    ·rw [List.getElem?_eq_none h] at hj; cases hj
   obtain ⟨g3, o3, he3, hr3⟩ := hrow (by omega)
   injection he3 with he3
   subst he3
   have := hr3.cell hj
   unfold Addr.add
   split
   ·rename_i h0; subst h0; simpa using this
   ·exact this
  obtain ⟨v', w', hr, h2, h3, h4, h5⟩ := run_append_own_at (P := Tryz.prog) w base 22 ty 3 i0 _ 1 8 Tryz.underlying22 hi0 hz0 hz1 hz2 rfl (by omega) v n xs hown ad l.length c (nvQ l) (by rw [nvQ_len]; omega) hc (nvQ_one l) (by simp [maxLen]; omega) (by omega) hb
  obtain ⟨A, k, c', rfl⟩ := (Sl.of_own h2).form
  have hk := (Sl.of_own h2).lenI
  have h1 := h2.1
  obtain rfl : k = n + l.length := by omega
  exact ⟨A, c', w', hr, h2, h3, h5⟩ -- hb5
/-- A step of a region that draws: an append whose run is known. -/
theorem step_append_I {P : Program} {ops : Array Oper} {o : Oper} {a : Act} {w : World} {K : Act → World → Prop} {Q : Exit → Act → World → Prop} {E : Prop} (hg : o.guard = none) (s x : Operand) (t : TypeId)
  (hop : o.op = Op.call { callee := Callee.builtin Builtin.append, args := #[s, x], argTypes := #[t, t] }) (v u r : Value) (w' : World) (hs : a.eval s = v) (hx : a.eval x = u)
  (hr : (Builtin.append_ #[t, t] o.type #[v, u]).run P w = .ok r w') (hK : K (a.put o.dst r) w') : if Region.wanted o (yielded ops a.tmps) = true then Oper.wp P o a w K Q else E := by
 rw [if_pos (by simp [Region.wanted, hg])]
 unfold Oper.wp execOp
 simp only [hop, resolve, invoke, builtin, Sem.run_bind, Sem.run_pure, Result.andThen_ok, List.map_toArray, List.map_cons, List.map_nil, hs, hx, hr]
 exact hK
/-- A block of N cells, told by a function. -/
def RangeB (w : World) (g : Nat) (t : TypeId) (N : Nat) (f : Nat → Value) : Prop := Blk w g t ((List.range N).map f).toArray
variable {w w' : World} {g N : Nat} {t : TypeId} {f : Nat → Value}
theorem RangeB.cell (h : RangeB w g t N f) {i : Nat} (hi : i < N) : w.cell? ⟨g, i, none⟩ = some (f i) := by
 rw [Blk.cell h, List.getElem?_toArray, List.getElem?_map, List.getElem?_range hi]
 rfl
theorem RangeB.frozen (h : RangeB w g t N f) (i : Nat) : w.frozen? ⟨g, i, none⟩ = false := Blk.frozen h i
theorem RangeB.lt (h : RangeB w g t N f) : g < w.heap.size := Blk.lt h
theorem RangeB.mod {S : Nat → Prop} (h : RangeB w g t N f) (hm : Mod S w w') (hg : ¬ S g) : RangeB w' g t N f := Blk.mod h hm hg
theorem RangeB.set (h : RangeB w g t N f) (i : Nat) (v : Value) : RangeB (w.setCell ⟨g, i, none⟩ v) g t N (upd f i v) := by
 have h1 := Blk.set h i v
 unfold RangeB
 have e : ((List.range N).map f).toArray.setIfInBounds i v = ((List.range N).map (upd f i v)).toArray := by
  rw [List.setIfInBounds_toArray]
  congr 1
  refine List.ext_getElem (by simp) fun j h1 h2 => ?_
  rw [List.getElem_set, List.getElem_map, List.getElem_map, List.getElem_range]
  unfold upd
  by_cases hj : i = j
  ·rw [if_pos hj, if_pos hj.symm]
  ·rw [if_neg hj, if_neg (fun h => hj h.symm)]
 rw [e] at h1
 exact h1
theorem RangeB.far (h : RangeB w g t N f) {p : Addr} (hp : g ≠ p.block) (v : Value) : RangeB (w.setCell p v) g t N f := Blk.far h hp v
theorem RangeB.new (w : World) (t : TypeId) (N : Nat) (z : Value) : RangeB (w.alloc (.cells (Array.replicate N z) t)) w.heap.size t N (fun _ => z) := by
 unfold RangeB
 have e : ((List.range N).map (fun _ : Nat => z)).toArray = Array.replicate N z := by
  rw [← List.toArray_replicate]
  congr 1
  refine List.ext_getElem (by simp) fun j h1 h2 => by simp
 rw [e]
 exact Blk.new w t _
theorem RangeB.alloc (h : RangeB w g t N f) (o : Obj) : RangeB (w.alloc o) g t N f := Blk.alloc h o
/-- The rows that have been made so far: those that are known read as told, the others are nil. -/
def KnwI (w : World) (bv : Nat → Value) (kf : Nat → Bool) (R : Nat → List Nat) (N : Nat) : Prop := ∀ e, e < N → (kf e = false → bv e = .slice none 0 0) ∧ (kf e = true → Sl w 3 1 (bv e) (nvQ (R e)) ∧ NilOkI (bv e))
theorem KnwI.mod {bv : Nat → Value} {kf : Nat → Bool} {R : Nat → List Nat} {S : Nat → Prop} (h : KnwI w bv kf R N) (hm : Mod S w w') (hs : ∀ g arr fr, w.heap[g]? = some (.cells arr 3 fr) → ¬ S g) : KnwI w' bv kf R N :=
 fun e he => ⟨(h e he).1, fun hk => ⟨((h e he).2 hk).1.mod hm hs, ((h e he).2 hk).2⟩⟩
theorem KnwI.pure {bv : Nat → Value} {kf : Nat → Bool} {R : Nat → List Nat} (h : KnwI w bv kf R N) (hm : Pure w w') : KnwI w' bv kf R N := h.mod hm (fun _ _ _ _ h => h)
theorem KnwI.add {bv : Nat → Value} {kf : Nat → Bool} {R : Nat → List Nat} {e : Nat} {v : Value} (h : KnwI w bv kf R N) (hs : Sl w 3 1 v (nvQ (R e))) (hn : NilOkI v) : KnwI w (upd bv e v) (upd kf e true) R N := by
 intro i hi
 by_cases h1 : i = e
 ·subst h1
  rw [upd_same, upd_same]
  exact ⟨fun h => (by cases h), fun _ => ⟨hs, hn⟩⟩
 ·rw [upd_ne _ _ h1, upd_ne _ _ h1]
  exact h i hi

end Go.Proofs.YtbajgjbdcgakoaaGreatDoor

/- A phrase in a search's text: (*reader).phrase. -/
namespace Go.Proofs.YtbajgjbdcgakoaaGreatDoor
set_option linter.unusedVariables false
set_option linter.unusedSimpArgs false
open Go.RowKit
def rdK (s : Str) (p kd tp k : Int) (a : Value) (n : Int) (b : Value) : Array Value := #[.string ⟨s.toArray⟩, .int .i64 p, .int .i64 kd, .int .i64 tp, .int .i64 k, a, .int .i64 n, b]
theorem mod_set {a w : World} {g : Nat} (h : Mod (· = g) a w) (i : Nat) (v : Value) : Mod (· = g) a (w.setCell ⟨g, i, none⟩ v) := Mod.setCell (S := fun k => k = g) (p := ⟨g, i, none⟩) h (.inl rfl) v
theorem cutB_quiet (w : World) (s : Str) (c : UInt8) (hM : MlnS w) (hs : s.length ≤ 1000000) : Calls Tryz.prog 140 #[.string ⟨s.toArray⟩, .string ⟨#[c]⟩] w (fun e w' => e = .returned (.tuple #[.string ⟨(headS c s).toArray⟩, .string ⟨(restS c s).toArray⟩, .bool (fstL c s).isSome]) ∧ ∃ n, w' = w.drewN n) := by
 obtain ⟨m, hm⟩ := hM
 refine (Any.strings_Cut Tryz.lays145 ⟨s.toArray⟩ ⟨#[c]⟩ m w (by simp [ByteArray.size]; omega) hm).mono ?_
 rintro e w' ⟨rfl, n, rfl⟩
 refine ⟨?_, n, rfl⟩
 have h := cut_byte c s
 show Ending.returned (.tuple #[.string ⟨(Lib.cut s [c]).1.toArray⟩, .string ⟨(Lib.cut s [c]).2.1.toArray⟩, .bool (Lib.cut s [c]).2.2]) = _
 rw [h]
 unfold headS restS
 cases fstL c s <;> rfl
/-- What a piece of the text leads to: the reader behind it. -/
def TkP (w : World) (g : Nat) (s : Str) (j : Nat) (r : Int × Qry × Nat) (e : Ending) (w' : World) : Prop := ∃ qr : QR, e = .returned (.tuple #[]) ∧ Blk w' g 109 (rdC s (j + r.2.2) r.1 j qr) ∧ qr.key = r.2.1 ∧ QS w' qr ∧ Mod (· = g) w w'
theorem QS.zero {w : World} {k n : Int} : QS w (.mk k none 0 [] n none 0 []) := .mk Sl.nil_ Sl.nil_ (fun a ha => by cases ha)
def neQ (ls : List Str) (k : Nat) : List Str := (ls.take k).filter fun w => !w.isEmpty
theorem neQ_succ {ls : List Str} {k : Nat} (h : k < ls.length) : neQ ls (k + 1) = neQ ls k ++ (if ls[k] = [] then [] else [ls[k]]) := by
 unfold neQ
 rw [List.take_succ_eq_append_getElem h, List.filter_append]
 congr 1
 cases hx : ls[k] with
 | nil => simp
 | cons c t => simp
theorem neQ_len (ls : List Str) (k : Nat) : (neQ ls k).length ≤ k := by
 unfold neQ
 have := List.length_filter_le (fun w : Str => !w.isEmpty) (ls.take k)
 rw [List.length_take] at this
 omega
theorem neQ_mem {ls : List Str} {k : Nat} (h : k < ls.length) (hx : ls[k] ≠ []) : ls[k] ∈ neQ ls ls.length := by
 unfold neQ
 rw [List.take_length]
 refine List.mem_filter.2 ⟨List.getElem_mem h, ?_⟩
 cases he : ls[k] with
 | nil => exact absurd he hx
 | cons c t => rfl
theorem neQ_all (ls : List Str) : neQ ls ls.length = ls.filter fun w => !w.isEmpty := by
 unfold neQ
 rw [List.take_length]
theorem phrase_bad {body x : Str} (hx : x ∈ phrW body) (hp : patB x = false) : phraseQ body = (8, q0) := by
 unfold phraseQ
 rw [if_pos (.inl (List.all_eq_false.2 ⟨x, hx, by rw [hp]; simp⟩))]
theorem phrase_none {body : Str} (hx : phrW body = []) : phraseQ body = (8, q0) := by
 unfold phraseQ
 rw [if_pos (.inr hx)]
theorem phrase_some {body : Str} (hx : phrW body ≠ []) (hp : (phrW body).all patB = true) : phraseQ body = (3, .mk (if (phrW body).length = 1 then 2 else 3) (phrW body) 0 []) := by
 unfold phraseQ
 rw [if_neg]
 rintro (h | h)
 ·rw [hp] at h; cases h
 ·exact hx h
theorem ext_end (s : Str) (a n : Nat) (h : n = s.length) : (⟨s.toArray⟩ : ByteArray).extract a n = ⟨(s.drop a).toArray⟩ := by
 subst h
 rw [ext_sub]
 unfold subS
 rw [List.take_length]
set_option maxRecDepth 100000 in
set_option maxHeartbeats 8000000 in
theorem phraseR_calls (w : World) (g : Nat) (s t : Str) (j : Nat) (hs : s.length ≤ 200000) (hj : j < s.length) (ht : s.drop (j + 1) = t) (hM : ∀ W, Mod (· = g) w W → MlnS W) (hB : Blk w g 109 (rdK s j 0 j 0 (.slice none 0 0) 0 (.slice none 0 0))) :
  Calls Tryz.prog 103 #[.pointer (some ⟨g, 0, none⟩)] w (TkP w g s j (tokC 34 t)) := by
 have hz : (⟨s.toArray⟩ : ByteArray).size = s.length := by simp [ByteArray.size]
 have hB1 := hB.set 2 (.int .i64 8)
 have hm1 : Mod (· = g) w (w.setCell ⟨g, 2, none⟩ (.int .i64 8)) := mod_set (Mod.refl _ _) 2 _
 unfold rdK at hB hB1
 simp at hB1
 have x0 := hB.cell 0; have xf0 := hB.frozen 0; have x1 := hB.cell 1; have xf1 := hB.frozen 1; have x2 := hB.cell 2; have xf2 := hB.frozen 2; have x3 := hB.cell 3; have xf3 := hB.frozen 3; have x4 := hB.cell 4; have xf4 := hB.frozen 4; have x5 := hB.cell 5; have xf5 := hB.frozen 5; have x6 := hB.cell 6; have xf6 := hB.frozen 6; have x7 := hB.cell 7; have xf7 := hB.frozen 7; simp at x0 x1 x2 x3 x4 x5 x6 x7
 have HM := Lib.hid hM
 have HB1 := Lib.hid hB1
 have HM1 := Lib.hid hm1
 clear hM hB hB1 hm1
 obtain ⟨i0, hi0, hz0, hz1, hz2⟩ := info_parts info_strS
 go_enter Tryz.func103, Tryz.ntmps103
 go_upto_region 1 with (fail)
 generalize (w.setCell ⟨g, 2, none⟩ (.int .i64 8)) = w1 at *
 clear x0 x1 x2 x3 x4 x5 x6 x7 xf0 xf1 xf2 xf3 xf4 xf5 xf6 xf7
 have hB1 := HB1.out
 have x0 := hB1.cell 0; have xf0 := hB1.frozen 0; have x1 := hB1.cell 1; have xf1 := hB1.frozen 1; have x2 := hB1.cell 2; have xf2 := hB1.frozen 2; have x3 := hB1.cell 3; have xf3 := hB1.frozen 3; have x4 := hB1.cell 4; have xf4 := hB1.frozen 4; have x5 := hB1.cell 5; have xf5 := hB1.frozen 5; have x6 := hB1.cell 6; have xf6 := hB1.frozen 6; have x7 := hB1.cell 7; have xf7 := hB1.frozen 7; simp at x0 x1 x2 x3 x4 x5 x6 x7
 clear hB1
 have hw1 : IntKind.i64.wrap ((j : Int) + 1) = (j : Int) + 1 := IntWalk.i64_in _ (by omega)
 have hext : (⟨s.toArray⟩ : ByteArray).extract (j + 1) s.length = ⟨t.toArray⟩ := by rw [ext_end s (j + 1) _ rfl, ht]
 have htl : t.length + (j + 1) = s.length := by rw [← ht, List.length_drop]; omega
 have HC := Lib.hid (fun n => cutB_quiet (w1.drewN n) t 34 (HM.out _ (HM1.out.drewN n)) (by omega))
 go_quiet (exact Calls.quiet_of (HC.out _))
 have HB2 := Lib.hid (HB1.out.drewN nq)
 have HM2 := Lib.hid (HM1.out.drewN nq)
 clear x0 x1 x2 x3 x4 x5 x6 x7 xf0 xf1 xf2 xf3 xf4 xf5 xf6 xf7 HB1 HM1 HC
 generalize w1.drewN nq = w2 at *
 cases hf : fstL 34 t with
 | none =>
  have HT : Hid (tokC 34 t = (8, q0, 0)) := Lib.hid (by unfold tokC; rw [hf]; rfl)
  clear hf
  go_wp2_with fail
  go_end0
  exact ⟨.mk 0 none 0 [] 0 none 0 [], rfl, by rw [HT.out]; exact HB2.out, by rw [HT.out, QR.key_mk]; rfl, QS.zero, HM2.out⟩
 | some p =>
  have hpl := fstL_le hf
  have hh : headS 34 t = p.1 := by unfold headS; rw [hf]
  have HT : Hid (tokC 34 t = ((phraseQ p.1).1, (phraseQ p.1).2, p.1.length + 2)) := Lib.hid (by unfold tokC; rw [hf]; rfl)
  rw [hh]
  clear hf hh
  generalize restS 34 t = t2
  have hzp : (⟨p.1.toArray⟩ : ByteArray).size = p.1.length := by simp [ByteArray.size]
  have hB2 := HB2.out
  have x0 := hB2.cell 0; have xf0 := hB2.frozen 0; have x1 := hB2.cell 1; have xf1 := hB2.frozen 1; have x2 := hB2.cell 2; have xf2 := hB2.frozen 2; have x3 := hB2.cell 3; have xf3 := hB2.frozen 3; have x4 := hB2.cell 4; have xf4 := hB2.frozen 4; have x5 := hB2.cell 5; have xf5 := hB2.frozen 5; have x6 := hB2.cell 6; have xf6 := hB2.frozen 6; have x7 := hB2.cell 7; have xf7 := hB2.frozen 7; simp at x0 x1 x2 x3 x4 x5 x6 x7
  have HB3 := Lib.hid (hB2.set 1 (.int .i64 ((j : Int) + ((p.1.length : Int) + 2))))
  have HM3 := Lib.hid (mod_set HM2.out 1 (.int .i64 ((j : Int) + ((p.1.length : Int) + 2))))
  clear hB2
  go_upto_region 4 with (fail)
  generalize (w2.setCell ⟨g, 1, none⟩ (.int .i64 ((j : Int) + ((p.1.length : Int) + 2)))) = w3 at *
  clear x0 x1 x2 x3 x4 x5 x6 x7 xf0 xf1 xf2 xf3 xf4 xf5 xf6 xf7 HB2 HM2
  have HL := Lib.hid (lowerQ_calls w3 p.1 (by omega))
  generalize hb : p.1 = body at *
  go_wp2_with fail
  refine HL.out.mono ?_
  rintro e w4 ⟨rfl, hm4⟩
  have HB4 := Lib.hid (HB3.out.modp hm4)
  have HM4 := Lib.hid (HM3.out.trans (Mod.of_pure hm4))
  have hll : (lowS body).length = body.length := by simp [lowS]
  have HS := Lib.hid (split_calls w4 (lowS body) [32] (HM.out _ HM4.out) (by omega) (by decide))
  rw [split_byte] at HS
  have HLN : Hid (∀ x ∈ spl 32 (lowS body), x.length ≤ 200000) := Lib.hid (fun x hx => by have := spl_len hx; omega)
  have hct := spl_count 32 (lowS body)
  have HPH : Hid (phrW body = (spl 32 (lowS body)).filter fun w => !w.isEmpty) := Lib.hid rfl
  clear hm4 HB3 HM3 HL
  generalize spl 32 (lowS body) = ls at *
  go_wp2_with fail
  refine HS.out.mono ?_
  rintro e wB ⟨rfl, rfl⟩
  have HSB := Lib.hid (Blk.new w4 9 (strsV ls).toArray)
  have HB5 := Lib.hid (HB4.out.alloc (.cells (strsV ls).toArray 9))
  have HM5 := Lib.hid (HM4.out.alloc (.cells (strsV ls).toArray 9))
  have hg5 : g < w4.heap.size := HB4.out.lt
  clear HB4 HM4 HS
  generalize (w4.alloc (.cells (strsV ls).toArray 9)) = wB at *
  generalize hgs : w4.heap.size = gs at *
  clear hgs
  have hsz5 := Nat.le_refl wB.heap.size
  go_wp2_with fail
  go_loopg [5, 43] ls.length (fun gk l i wr => ∃ (k : Nat) (A : Option Addr) (c : Nat), ls.length - k = gk ∧ k ≤ ls.length ∧ i = .int .i64 (k : Int) ∧ l = .slice A (neQ ls k).length c ∧ wr.ownsRow wB.heap.size 9 1 (.slice A (neQ ls k).length c) (neQ ls k).length (strsV (neQ ls k)) ∧ (neQ ls k).all patB = true ∧ Pure wB wr)
  case atStart => exact ⟨0, none, 0, by omega, by omega, rfl, rfl, ⟨by simp [strsV, neQ], .inl ⟨rfl, rfl⟩⟩, rfl, Mod.refl _ _⟩
  case round =>
   obtain ⟨k, A, c, rfl, hk, rfl, rfl, hown, hall, hm⟩ := hrel
   have HOW := Lib.hid hown
   have HAL := Lib.hid hall
   have HMR := Lib.hid hm
   have hnl := neQ_len ls k
   clear hown hall hm
   by_cases hlt : k < ls.length
   ·have q0 := (HSB.out.modp HMR.out).row0.cell (strsV_get ls k hlt)
    rw [Nat.zero_add] at q0
    have HNS := Lib.hid (neQ_succ hlt)
    have hxl := HLN.out _ (List.getElem_mem hlt)
    have HNM := Lib.hid (fun h => neQ_mem hlt h)
    by_cases he : ls[k] = []
    ·have HN2 : Hid (neQ ls (k + 1) = neQ ls k) := Lib.hid (by rw [HNS.out, if_pos he, List.append_nil])
     rw [he] at q0
     go_wp2_with fail
     go_roundg (ls.length - (k + 1))
     case measure => omega
     case rel => exact ⟨k + 1, A, c, rfl, hlt, by simp, by rw [HN2.out], by rw [HN2.out]; exact HOW.out, by rw [HN2.out]; exact HAL.out, HMR.out⟩
    ·have hxe : (ls[k] == ([] : Str)) = false := by simpa using he
     have HN2 : Hid (neQ ls (k + 1) = neQ ls k ++ [ls[k]]) := Lib.hid (by rw [HNS.out, if_neg he])
     have HNM2 := Lib.hid (HNM.out he)
     have HIP := Lib.hid (isPattern_calls wr ls[k] (by omega))
     clear HNS HNM he
     generalize ls[k] = x at *
     go_wp2_with fail
     refine HIP.out.mono ?_
     rintro e w6 ⟨rfl, rfl⟩
     cases hpx : patB x
     ·go_wp2_with fail
      go_end0
      have HPQ := phrase_bad (by rw [HPH.out, ← neQ_all]; exact HNM2.out) hpx
      have hB9 := HB5.out.modp HMR.out
      refine ⟨.mk 0 none 0 [] 0 none 0 [], rfl, ?_, by rw [HT.out, HPQ, QR.key_mk]; rfl, QS.zero, HM5.out.trans (Mod.of_pure HMR.out)⟩
      rw [HT.out, HPQ]
      have e : ((j + (body.length + 2) : Nat) : Int) = (j : Int) + ((body.length : Int) + 2) := by omega
      show Blk wr g _ (rdC s (j + (body.length + 2)) 8 j _)
      unfold rdC
      rw [e]
      exact hB9
     ·have hmr := HMR.out
      have hown := HOW.out
      have hown0 := HOW.out
      have hbs := hmr.size
      go_wp2_with ((at_builtin; refine wpList_append_lies _ rfl _ _ _ rfl wB.heap.size 9 i0 _ 1 16 Tryz.underlying26 hi0 hz0 hz1 hz2 rfl (by omega) (.slice A (neQ ls k).length c) (neQ ls k).length (strsV (neQ ls k)) rfl (hown.alloc _) ⟨wr.heap.size, 0, none⟩ 1 1 [.string ⟨x.toArray⟩] rfl rfl (World.news_of_block (cs := #[.string ⟨x.toArray⟩]) (t := 9) (fr := (0, 0)) (heap_alloc_new wr _)) (by simp [Value.oneCell']) (by omega) (by simp [maxLen]; omega) (by omega) (by have := hmr.size; simp; omega) (wr.heap.size + 1) (by simp) ?_; intro g5 cap5 w5 hown5 hgrow hat hlt5))
      go_roundg (ls.length - (k + 1))
      case measure => omega
      case rel =>
       refine ⟨k + 1, some ⟨g5, 0, none⟩, cap5, rfl, hlt, by simp, by rw [HN2.out]; simp, ?_, by rw [HN2.out, List.all_append, HAL.out]; simp [hpx], ((HMR.out.alloc _).grown hgrow (fun j hj => .inr (own_block hown0 j hj)))⟩
       rw [HN2.out]
       simpa [strsV] using hown5
   ·obtain rfl : k = ls.length := by omega
    rw [neQ_all] at HOW HAL hnl ⊢
    rw [← HPH.out] at HOW HAL hnl ⊢
    have HPQ : Hid (phrW body = [] → phraseQ body = (8, q0)) := Lib.hid phrase_none
    have HPS : Hid (phrW body ≠ [] → phraseQ body = (3, .mk (if (phrW body).length = 1 then 2 else 3) (phrW body) 0 [])) := Lib.hid (fun h => phrase_some h HAL.out)
    have HM9 := Lib.hid (HM5.out.trans (Mod.of_pure HMR.out))
    have HB9 := Lib.hid (HB5.out.modp HMR.out)
    clear HPH HAL HM5 HB5 HSB HMR
    generalize phrW body = L at *
    by_cases hL : L = []
    ·have HQ := Lib.hid (HPQ.out hL)
     subst hL
     go_wp2_with fail
     go_end0
     have e : ((j + (body.length + 2) : Nat) : Int) = (j : Int) + ((body.length : Int) + 2) := by omega
     refine ⟨.mk 0 none 0 [] 0 none 0 [], rfl, ?_, by rw [HT.out, HQ.out, QR.key_mk]; rfl, QS.zero, HM9.out⟩
     rw [HT.out, HQ.out]
     show Blk wr g _ (rdC s (j + (body.length + 2)) 8 j _)
     unfold rdC
     rw [e]
     exact HB9.out
    ·have HQ := Lib.hid (HPS.out hL)
     have hl0 : 0 < L.length := List.length_pos_iff.2 hL
     have hl1 : ((L.length : Int) == 0) = false := by rw [← Bool.not_eq_true, beq_iff_eq]; omega
     have hB9 := HB9.out
     have x0 := hB9.cell 0; have xf0 := hB9.frozen 0; have x1 := hB9.cell 1; have xf1 := hB9.frozen 1; have x2 := hB9.cell 2; have xf2 := hB9.frozen 2; have x3 := hB9.cell 3; have xf3 := hB9.frozen 3; have x4 := hB9.cell 4; have xf4 := hB9.frozen 4; have x5 := hB9.cell 5; have xf5 := hB9.frozen 5; have x6 := hB9.cell 6; have xf6 := hB9.frozen 6; have x7 := hB9.cell 7; have xf7 := hB9.frozen 7; simp at x0 x1 x2 x3 x4 x5 x6 x7
     have HBW := Lib.hid (((((hB9.set 2 (.int .i64 3)).set 4 (.int .i64 3)).set 5 (.slice A L.length c)).set 6 (.int .i64 0)).set 7 (.slice none 0 0))
     have HMW0 := Lib.hid (mod_set (mod_set (mod_set (mod_set (mod_set (Mod.refl (· = g) wr) 2 (.int .i64 3)) 4 (.int .i64 3)) 5 (.slice A L.length c)) 6 (.int .i64 0)) 7 (.slice none 0 0))
     clear HPQ HPS hL hB9
     go_upto_region 15 with (fail)
     generalize (((((wr.setCell ⟨g, 2, none⟩ (.int .i64 3)).setCell ⟨g, 4, none⟩ (.int .i64 3)).setCell ⟨g, 5, none⟩ (.slice A L.length c)).setCell ⟨g, 6, none⟩ (.int .i64 0)).setCell ⟨g, 7, none⟩ (.slice none 0 0)) = w7 at *
     clear x0 x1 x2 x3 x4 x5 x6 x7 xf0 xf1 xf2 xf3 xf4 xf5 xf6 xf7
     have HSL := Lib.hid ((Sl.of_own HOW.out).rd HB9.out HMW0.out (by decide))
     have HMW := Lib.hid (HM9.out.trans HMW0.out)
     have e : ((j + (body.length + 2) : Nat) : Int) = (j : Int) + ((body.length : Int) + 2) := by omega
     have hBW := HBW.out
     simp at hBW
     have HB8 := Lib.hid hBW
     have x0 := hBW.cell 0; have xf0 := hBW.frozen 0; have x1 := hBW.cell 1; have xf1 := hBW.frozen 1; have x2 := hBW.cell 2; have xf2 := hBW.frozen 2; have x3 := hBW.cell 3; have xf3 := hBW.frozen 3; have x4 := hBW.cell 4; have xf4 := hBW.frozen 4; have x5 := hBW.cell 5; have xf5 := hBW.frozen 5; have x6 := hBW.cell 6; have xf6 := hBW.frozen 6; have x7 := hBW.cell 7; have xf7 := hBW.frozen 7; simp at x0 x1 x2 x3 x4 x5 x6 x7
     clear hBW HBW HB9 HM9 HMW0 HOW
     by_cases h1 : L.length = 1
     ·have h1i : ((L.length : Int) == 1) = true := by rw [beq_iff_eq]; omega
      have HK : Hid ((if L.length = 1 then 2 else 3 : Int) = 2) := Lib.hid (if_pos h1)
      clear h1
      go_wp2_with fail
      go_end0
      refine ⟨.mk 2 A c L 0 none 0 [], rfl, ?_, by rw [HT.out, HQ.out, QR.key_mk, HK.out]; rfl, .mk (HSL.out.rd HB8.out (mod_set (Mod.refl _ _) 4 _) (by decide)) Sl.nil_ (fun a ha => by cases ha), mod_set HMW.out 4 _⟩
      rw [HT.out, HQ.out]
      show Blk _ g _ (rdC s (j + (body.length + 2)) 3 j _)
      have h9 := HB8.out.set 4 (.int .i64 2)
      unfold rdC
      rw [e]
      simpa [qC] using h9
     ·have h1i : ((L.length : Int) == 1) = false := by rw [← Bool.not_eq_true, beq_iff_eq]; omega
      have HK : Hid ((if L.length = 1 then 2 else 3 : Int) = 3) := Lib.hid (if_neg h1)
      clear h1
      go_wp2_with fail
      go_end0
      refine ⟨.mk 3 A c L 0 none 0 [], rfl, ?_, by rw [HT.out, HQ.out, QR.key_mk, HK.out]; rfl, .mk HSL.out Sl.nil_ (fun a ha => by cases ha), HMW.out⟩
      rw [HT.out, HQ.out]
      show Blk _ g _ (rdC s (j + (body.length + 2)) 3 j _)
      unfold rdC
      rw [e]
      simpa [qC] using HB8.out

end Go.Proofs.YtbajgjbdcgakoaaGreatDoor
