/- Texts of the proof of ItemTexts, put together: LayBld, LayB2, QuoA, QuoB, DigA, DigB, ItmK, LayVal, LayCon, VisA, TxtR, ItmE, ItmF, ItmG, ItmI, ItmJ. -/
import Derived.Test.YtelpdjhkedhppaaGreatDoorItemTextsZ11
import Derived.Test.YtelpdjhkedhppaaGreatDoorItemTextsZ12
import Derived.Test.YtelpdjhkedhppaaGreatDoorItemTextsZ13
import Derived.Test.YtelpdjhkedhppaaGreatDoorItemTextsZ14
import Derived.Test.YtelpdjhkedhppaaGreatDoorItemTextsZ16
import Derived.Test.YtelpdjhkedhppaaGreatDoorItemTextsZ28
import Derived.Test.YtelpdjhkedhppaaGreatDoorItemTextsZ31
import Derived.Test.YtelpdjhkedhppaaGreatDoorItemTextsZ34
import Derived.Ground.NamesProg
import Derived.Shelf.Strings.BuilderK
import Derived.Shelf.Strings.Repeat
import Derived.Shelf.Strings.Prefix
import Derived.Test.YtelpdjhkedhppaaGreatDoorProg
import Derived.Deep.DeepCutAuto
import Derived.Deep.AppendLies
import Derived.Lib.AppendStr
import Derived.Laws.IdiomStrings
import Derived.Deep.CutBlock
import Derived.Shelf.Unicode.ValidAny
import Derived.Shelf.Strings.Search3
import Derived.Sort.Walk0
set_option linter.unusedVariables false
set_option linter.unusedSimpArgs false
set_option maxRecDepth 100000
/-
 DERIVED: THE SHELF's CONTRACTS AT THIS DUMP, IN PLAIN WORDS (tools/lay-plain.mjs out of 'YtelpdjhkedhppaaGreatDoorLayBld.lean', which tools/lay-shelf.mjs wrote): THE SAME DECLARATIONS UNDER THE SAME NAMES: 'import', 'namespace', 'open', 'def', 'theorem' AND NOTHING ELSE: no command of the shelf's: FOR A HAND-IN. Each laying: the table of numbers ('.._ren') and one theorem, a field a fact of the dump's own or the kernel's comparison; each contract: ONE APPLICATION.
-/
namespace Go.Proofs
open Go.Shelf
def Tryz.lays169_ren : Go.Shelf.Ren := ⟨fun | 169 => 56 | n => n, fun | 70 => 76 | 9 => 9 | 0 => 0 | 72 => 79 | 37 => 77 | 127 => 145 | 3 => 3 | 5 => 5 | n => n, fun | n => n⟩
theorem Tryz.lays169 : Go.Proofs.Lays.n169 Tryz.prog Tryz.lays169_ren := {
 mixed := by kernel_rfl
 f169 := Tryz.func56.trans (congrArg some (by kernel_rfl))
 t0 := Tryz.underlying0
 a0 := Tryz.isAgg0
 z0 := Tryz.sizeOf0
 v0 := Tryz.zeroValue0
 t3 := Tryz.underlying3
 a3 := Tryz.isAgg3
 z3 := Tryz.sizeOf3
 v3 := Tryz.zeroValue3
 t9 := Tryz.underlying9
 a9 := Tryz.isAgg9
 z9 := Tryz.sizeOf9
 v9 := Tryz.zeroValue9
 t37 := Tryz.underlying77
 a37 := Tryz.isAgg77
 z37 := Tryz.sizeOf77
 v37 := Tryz.zeroValue77
 t70 := Tryz.underlying76
 a70 := Tryz.isAgg76
 z70 := Tryz.sizeOf76
 v70 := Tryz.zeroValue76
 t72 := Tryz.underlying79
 a72 := Tryz.isAgg79
 z72 := Tryz.sizeOf79
 v72 := Tryz.zeroValue79
 t127 := Tryz.underlying145
 a127 := Tryz.isAgg145
 z127 := Tryz.sizeOf145
 v127 := Tryz.zeroValue145 }
def Tryz.lays105_ren : Go.Shelf.Ren := ⟨fun | 105 => 106 | 212 => 88 | 99 => 139 | 165 => 116 | 166 => 53 | 170 => 55 | 169 => 56 | 263 => 151 | 264 => 152 | 206 => 181 | 240 => 115 | 241 => 174 | 276 => 173 | 277 => 224 | n => n, fun | 9 => 9 | 3 => 3 | 4 => 4 | 20 => 20 | 0 => 0 | 46 => 119 | 109 => 120 | 5 => 5 | 72 => 79 | 76 => 85 | 51 => 176 | 146 => 177 | 53 => 161 | 148 => 179 | 70 => 76 | 37 => 77 | 75 => 84 | 127 => 145 | 164 => 191 | 80 => 43 | n => n, fun | n => n⟩
theorem Tryz.lays105 : Go.Proofs.Lays.n105 Tryz.prog Tryz.lays105_ren := {
 mixed := by kernel_rfl
 f99 := Tryz.func139.trans (congrArg some (by kernel_rfl))
 f105 := Tryz.func106.trans (congrArg some (by kernel_rfl))
 f165 := Tryz.func116.trans (congrArg some (by kernel_rfl))
 f166 := Tryz.func53.trans (congrArg some (by kernel_rfl))
 f169 := Tryz.func56.trans (congrArg some (by kernel_rfl))
 f170 := Tryz.func55.trans (congrArg some (by kernel_rfl))
 f206 := Tryz.func181.trans (congrArg some (by kernel_rfl))
 f212 := Tryz.func88.trans (congrArg some (by kernel_rfl))
 f240 := Tryz.func115.trans (congrArg some (by kernel_rfl))
 f241 := Tryz.func174.trans (congrArg some (by kernel_rfl))
 f263 := Tryz.func151.trans (congrArg some (by kernel_rfl))
 f264 := Tryz.func152.trans (congrArg some (by kernel_rfl))
 f276 := Tryz.func173.trans (congrArg some (by kernel_rfl))
 f277 := Tryz.func224.trans (congrArg some (by kernel_rfl))
 t0 := Tryz.underlying0
 a0 := Tryz.isAgg0
 z0 := Tryz.sizeOf0
 v0 := Tryz.zeroValue0
 t3 := Tryz.underlying3
 a3 := Tryz.isAgg3
 z3 := Tryz.sizeOf3
 v3 := Tryz.zeroValue3
 t4 := Tryz.underlying4
 a4 := Tryz.isAgg4
 z4 := Tryz.sizeOf4
 v4 := Tryz.zeroValue4
 t5 := Tryz.underlying5
 a5 := Tryz.isAgg5
 z5 := Tryz.sizeOf5
 v5 := Tryz.zeroValue5
 t9 := Tryz.underlying9
 a9 := Tryz.isAgg9
 z9 := Tryz.sizeOf9
 v9 := Tryz.zeroValue9
 t20 := Tryz.underlying20
 a20 := Tryz.isAgg20
 z20 := Tryz.sizeOf20
 v20 := Tryz.zeroValue20
 t37 := Tryz.underlying77
 a37 := Tryz.isAgg77
 z37 := Tryz.sizeOf77
 v37 := Tryz.zeroValue77
 t46 := Tryz.underlying119
 a46 := Tryz.isAgg119
 z46 := Tryz.sizeOf119
 v46 := Tryz.zeroValue119
 t51 := Tryz.underlying176
 a51 := Tryz.isAgg176
 z51 := Tryz.sizeOf176
 v51 := Tryz.zeroValue176
 t53 := Tryz.underlying161
 a53 := Tryz.isAgg161
 z53 := Tryz.sizeOf161
 v53 := Tryz.zeroValue161
 t70 := Tryz.underlying76
 a70 := Tryz.isAgg76
 z70 := Tryz.sizeOf76
 v70 := Tryz.zeroValue76
 t72 := Tryz.underlying79
 a72 := Tryz.isAgg79
 z72 := Tryz.sizeOf79
 v72 := Tryz.zeroValue79
 t75 := Tryz.underlying84
 a75 := Tryz.isAgg84
 z75 := Tryz.sizeOf84
 v75 := Tryz.zeroValue84
 t76 := Tryz.underlying85
 a76 := Tryz.isAgg85
 z76 := Tryz.sizeOf85
 v76 := Tryz.zeroValue85
 t109 := Tryz.underlying120
 a109 := Tryz.isAgg120
 z109 := Tryz.sizeOf120
 v109 := Tryz.zeroValue120
 t127 := Tryz.underlying145
 a127 := Tryz.isAgg145
 z127 := Tryz.sizeOf145
 v127 := Tryz.zeroValue145
 t146 := Tryz.underlying177
 a146 := Tryz.isAgg177
 z146 := Tryz.sizeOf177
 v146 := Tryz.zeroValue177
 t148 := Tryz.underlying179
 a148 := Tryz.isAgg179
 z148 := Tryz.sizeOf179
 v148 := Tryz.zeroValue179
 t164 := Tryz.underlying191
 a164 := Tryz.isAgg191
 z164 := Tryz.sizeOf191
 v164 := Tryz.zeroValue191 }
def Tryz.lays99_ren : Go.Shelf.Ren := ⟨fun | 99 => 139 | 206 => 181 | n => n, fun | 9 => 9 | 4 => 4 | 3 => 3 | n => n, fun | n => n⟩
theorem Tryz.lays99 : Go.Proofs.Lays.n99 Tryz.prog Tryz.lays99_ren := {
 mixed := by kernel_rfl
 f99 := Tryz.func139.trans (congrArg some (by kernel_rfl))
 f206 := Tryz.func181.trans (congrArg some (by kernel_rfl))
 t3 := Tryz.underlying3
 a3 := Tryz.isAgg3
 z3 := Tryz.sizeOf3
 v3 := Tryz.zeroValue3
 t4 := Tryz.underlying4
 a4 := Tryz.isAgg4
 z4 := Tryz.sizeOf4
 v4 := Tryz.zeroValue4
 t9 := Tryz.underlying9
 a9 := Tryz.isAgg9
 z9 := Tryz.sizeOf9
 v9 := Tryz.zeroValue9 }
end Go.Proofs
/- The contracts of strings.Builder's writers, laid at this program. -/
namespace Go.Proofs.YtelpdjhkedhppaaGreatDoor
open Go.RowKit Go.Shelf
def bldRen : Go.Shelf.Ren := ⟨fun
 | 167 => 113
 | 166 => 53
 | 240 => 115
 | 276 => 173
 | n => n, fun
 | 0 => 0
 | 3 => 3
 | 4 => 4
 | 5 => 5
 | 9 => 9
 | 20 => 20
 | 37 => 77
 | 70 => 76
 | 72 => 79
 | 75 => 84
 | 80 => 43
 | 164 => 191
 | n => n, fun n => n⟩
theorem lays167 : Lays.n167 Tryz.prog bldRen := {
 mixed := by kernel_rfl
 f167 := Tryz.func113.trans (congrArg some (by kernel_rfl))
 f240 := Tryz.func115.trans (congrArg some (by kernel_rfl))
 f276 := Tryz.func173.trans (congrArg some (by kernel_rfl))
 t0 := Tryz.underlying0
 a0 := Tryz.isAgg0
 z0 := Tryz.sizeOf0
 v0 := Tryz.zeroValue0
 t4 := Tryz.underlying4
 a4 := Tryz.isAgg4
 z4 := Tryz.sizeOf4
 v4 := Tryz.zeroValue4
 t5 := Tryz.underlying5
 a5 := Tryz.isAgg5
 z5 := Tryz.sizeOf5
 v5 := Tryz.zeroValue5
 t9 := Tryz.underlying9
 a9 := Tryz.isAgg9
 z9 := Tryz.sizeOf9
 v9 := Tryz.zeroValue9
 t20 := Tryz.underlying20
 a20 := Tryz.isAgg20
 z20 := Tryz.sizeOf20
 v20 := Tryz.zeroValue20
 t37 := Tryz.underlying77
 a37 := Tryz.isAgg77
 z37 := Tryz.sizeOf77
 v37 := Tryz.zeroValue77
 t70 := Tryz.underlying76
 a70 := Tryz.isAgg76
 z70 := Tryz.sizeOf76
 v70 := Tryz.zeroValue76
 t72 := Tryz.underlying79
 a72 := Tryz.isAgg79
 z72 := Tryz.sizeOf79
 v72 := Tryz.zeroValue79
 t75 := Tryz.underlying84
 a75 := Tryz.isAgg84
 z75 := Tryz.sizeOf84
 v75 := Tryz.zeroValue84
 t164 := Tryz.underlying191
 a164 := Tryz.isAgg191
 z164 := Tryz.sizeOf191
 v164 := Tryz.zeroValue191
}
theorem lays166 : Lays.n166 Tryz.prog bldRen := {
 mixed := by kernel_rfl
 f166 := Tryz.func53.trans (congrArg some (by kernel_rfl))
 f240 := Tryz.func115.trans (congrArg some (by kernel_rfl))
 f276 := Tryz.func173.trans (congrArg some (by kernel_rfl))
 t0 := Tryz.underlying0
 a0 := Tryz.isAgg0
 z0 := Tryz.sizeOf0
 v0 := Tryz.zeroValue0
 t3 := Tryz.underlying3
 a3 := Tryz.isAgg3
 z3 := Tryz.sizeOf3
 v3 := Tryz.zeroValue3
 t4 := Tryz.underlying4
 a4 := Tryz.isAgg4
 z4 := Tryz.sizeOf4
 v4 := Tryz.zeroValue4
 t9 := Tryz.underlying9
 a9 := Tryz.isAgg9
 z9 := Tryz.sizeOf9
 v9 := Tryz.zeroValue9
 t20 := Tryz.underlying20
 a20 := Tryz.isAgg20
 z20 := Tryz.sizeOf20
 v20 := Tryz.zeroValue20
 t37 := Tryz.underlying77
 a37 := Tryz.isAgg77
 z37 := Tryz.sizeOf77
 v37 := Tryz.zeroValue77
 t70 := Tryz.underlying76
 a70 := Tryz.isAgg76
 z70 := Tryz.sizeOf76
 v70 := Tryz.zeroValue76
 t72 := Tryz.underlying79
 a72 := Tryz.isAgg79
 z72 := Tryz.sizeOf79
 v72 := Tryz.zeroValue79
 t75 := Tryz.underlying84
 a75 := Tryz.isAgg84
 z75 := Tryz.sizeOf84
 v75 := Tryz.zeroValue84
 t164 := Tryz.underlying191
 a164 := Tryz.isAgg191
 z164 := Tryz.sizeOf191
 v164 := Tryz.zeroValue191
}
theorem bldExtra : Builder.Extra Tryz.prog bldRen where
 sizeBuilder := by kernel_rfl
 liesBuilder := by kernel_rfl
 t5 := Tryz.underlying5
 a5 := Tryz.isAgg5
 z5 := Tryz.sizeOf5
 v5 := Tryz.zeroValue5
 infoByte := by kernel_rfl
 cellsByte := by kernel_rfl
 sizeByte := by kernel_rfl
 neB5 := by decide
theorem bldExtra9 : Builder.Extra Tryz.prog Tryz.lays169_ren where
 sizeBuilder := by kernel_rfl
 liesBuilder := by kernel_rfl
 t5 := Tryz.underlying5
 a5 := Tryz.isAgg5
 z5 := Tryz.sizeOf5
 v5 := Tryz.zeroValue5
 infoByte := by kernel_rfl
 cellsByte := by kernel_rfl
 sizeByte := by kernel_rfl
 neB5 := by decide
end Go.Proofs.YtelpdjhkedhppaaGreatDoor
/- Quoted strings: quoted and Quote of package intake. -/
namespace Go.Proofs.YtelpdjhkedhppaaGreatDoor
open Go.RowKit
theorem enc_ascii (c : Nat) (h : c < 128) : Utf8.encode (c : Int) = ⟨#[UInt8.ofNat c]⟩ := by
 have key : ∀ n : Fin 128, Utf8.encode (n.val : Int) = ⟨#[UInt8.ofNat n.val]⟩ := by decide +kernel
 exact key ⟨c, h⟩
theorem quoB_vis (c : Nat) (h1 : 33 ≤ c) (h2 : c ≤ 126) (h3 : c ≠ 34) (h4 : c ≠ 92) : quoB (UInt8.ofNat c) = [UInt8.ofNat c] := by
 have key : ∀ n : Fin 256, 33 ≤ n.val → n.val ≤ 126 → n.val ≠ 34 → n.val ≠ 92 → quoB (UInt8.ofNat n.val) = [UInt8.ofNat n.val] := by decide +kernel
 exact key ⟨c, by omega⟩ h1 h2 h3 h4
theorem quoB_hid (c : Nat) (hc : c < 256) (h1 : c < 33 ∨ 126 < c) (h3 : c ≠ 10) : quoB (UInt8.ofNat c) = [92, 120, hexD (c / 16), hexD (c % 16)] := by
 have key : ∀ n : Fin 256, (n.val < 33 ∨ 126 < n.val) → n.val ≠ 10 → quoB (UInt8.ofNat n.val) = [92, 120, hexD (n.val / 16), hexD (n.val % 16)] := by decide +kernel
 exact key ⟨c, hc⟩ h1 h3
def hexB : ByteArray := ⟨#[48, 49, 50, 51, 52, 53, 54, 55, 56, 57, 97, 98, 99, 100, 101, 102]⟩
theorem hexB_at (n : Nat) (h : n < 16) : hexB.extract n (n + 1) = ⟨#[hexD n]⟩ := by
 have key : ∀ n : Fin 16, hexB.extract n.val (n.val + 1) = ⟨#[hexD n.val]⟩ := by decide +kernel
 exact key ⟨n, h⟩
theorem Mod.of_below' {b : Nat} {a w : World} (h : Below b a w) : Mod (fun k => b ≤ k) a w := ⟨h.os, h.tape, h.output, h.size, fun k _ hs => h.block k (by omega)⟩
def StrPost1 (w : World) (l : Str) (e : Ending) (w' : World) : Prop := e = .returned (.string ⟨l.toArray⟩) ∧ Pure w w'
set_option maxHeartbeats 1000000 in
theorem quoted_calls (w : World) (c : Nat) (hc : c < 256) : Calls Tryz.prog 114 #[.int .u8 (c : Int)] w (StrPost1 w (quoB (UInt8.ofNat c))) := by
 by_cases h34 : c = 34
 ·subst h34
  go_enter Tryz.func114, Tryz.ntmps114
  go_wp2_with fail
  go_ret;exact ⟨rfl, Mod.refl _ _⟩
 by_cases h92 : c = 92
 ·subst h92
  go_enter Tryz.func114, Tryz.ntmps114
  go_wp2_with fail
  go_ret;exact ⟨rfl, Mod.refl _ _⟩
 have b34 : ((c : Int) == 34) = false := by simp; omega
 have b92 : ((c : Int) == 92) = false := by simp; omega
 by_cases h10 : c = 10
 ·subst h10
  go_enter Tryz.func114, Tryz.ntmps114
  go_wp2_with fail
  go_ret;exact ⟨rfl, Mod.refl _ _⟩
 have b10 : ((c : Int) == 10) = false := by simp; omega
 by_cases hv : c < 33 ∨ 126 < c
 ·have HQ := Lib.hid (quoB_hid c hc hv h10);clear h34 h92 h10
  have HEX : Hid ((⟨#[92, 120]⟩ : ByteArray) ++ hexB.extract (c / 16) (c / 16 + 1) ++ hexB.extract (c % 16) (c % 16 + 1) = ⟨[92, 120, hexD (c / 16), hexD (c % 16)].toArray⟩) := Lib.hid (by
   rw [hexB_at (c / 16) (by omega), hexB_at (c % 16) (by omega)]
   rfl)
  by_cases hv1 : c < 33
  ·have v1 : (c : Int) < 33 := by omega
   have d1 : decide (c < 33) = true := by simpa using hv1
   clear hv
   go_enter Tryz.func114, Tryz.ntmps114
   go_wp2_with fail
   go_quiet (fail)
   go_wp2_with fail
   go_ret;exact ⟨by rw [HQ.out]; exact congrArg (fun x => Ending.returned (.string x)) HEX.out, (Mod.refl _ _).drewN _⟩
  ·have v1 : ¬ ((c : Int) < 33) := by omega
   have v2 : (126 : Int) < (c : Int) := by omega
   have d1 : decide (c < 33) = false := by simpa using hv1
   have d2 : decide (126 < c) = true := by simp; omega
   clear hv
   go_enter Tryz.func114, Tryz.ntmps114
   go_wp2_with fail
   go_quiet (fail)
   go_wp2_with fail
   go_ret;exact ⟨by rw [HQ.out]; exact congrArg (fun x => Ending.returned (.string x)) HEX.out, (Mod.refl _ _).drewN _⟩
 ·have v1 : ¬ ((c : Int) < 33) := by omega
  have v2 : ¬ ((126 : Int) < (c : Int)) := by omega
  have HQ := Lib.hid (quoB_vis c (by omega) (by omega) h34 h92);have HEN := Lib.hid (enc_ascii c (by omega));clear h34 h92 h10 hv
  go_enter Tryz.func114, Tryz.ntmps114
  go_wp2_with fail
  go_ret;exact ⟨by rw [HQ.out]; exact congrArg (fun x => Ending.returned (.string x)) HEN.out, Mod.refl _ _⟩
def IsB (w : World) (b : Nat) (l : Str) : Prop := Lib.IsBuilderF 79 5 b b (Lib.byteCells l) w ∧ b ≤ w.heap.size
theorem byteCells_app (l m : Str) : Lib.byteCells l ++ Lib.byteCells m = Lib.byteCells (l ++ m) := by simp [Lib.byteCells]
theorem byteCells_len (l : Str) : (Lib.byteCells l).length = l.length := by simp [Lib.byteCells]
def BldPost (w : World) (b : Nat) (l : Str) (v : Value) (e : Ending) (w' : World) : Prop := e = .returned v ∧ IsB w' b l ∧ Below b w w'
theorem wbyte_calls (w : World) (b : Nat) (l : Str) (c : Nat) (hc : c < 256) (h : IsB w b l) (hl : l.length ≤ 1000000) :
  Calls Tryz.prog 113 #[.pointer (some ⟨b, 0, none⟩), .int .u8 (c : Int)] w (BldPost w b (l ++ [UInt8.ofNat c]) .nilIface) := by
 refine (Any.Builder_WriteByte_k lays167 bldExtra b b (Lib.byteCells l) (c : Int) w h.1 (by rw [byteCells_len]; omega) h.2).mono ?_;rintro e w' ⟨rfl, h1, h2, _⟩;refine ⟨rfl, ⟨.inr ?_, Nat.le_trans h.2 h2.size⟩, h2⟩
 have e : [Value.int .u8 (c : Int)] = Lib.byteCells [UInt8.ofNat c] := by
  simp [Lib.byteCells]
  omega
 rw [e, byteCells_app] at h1;exact h1
theorem wstring_calls (w : World) (b : Nat) (l m : Str) (h : IsB w b l) (hl : l.length ≤ 1000000) (hm : m.length ≤ 1000000) :
  Calls Tryz.prog 53 #[.pointer (some ⟨b, 0, none⟩), .string ⟨m.toArray⟩] w (BldPost w b (l ++ m) (.tuple #[.int .i64 (m.length : Int), .nilIface])) := by
 have hz : (⟨m.toArray⟩ : ByteArray).size = m.length := by simp [ByteArray.size]
 refine (Any.Builder_WriteString_k lays166 bldExtra b b (Lib.byteCells l) ⟨m.toArray⟩ w h.1 (by rw [byteCells_len, hz]; omega) h.2).mono ?_;rintro e w' ⟨rfl, h1, h2, _⟩;refine ⟨by rw [hz], ⟨.inr ?_, Nat.le_trans h.2 h2.size⟩, h2⟩;rw [show Lib.strCells (⟨m.toArray⟩ : ByteArray) = Lib.byteCells m from rfl, byteCells_app] at h1;exact h1
theorem bstring_calls (w : World) (b : Nat) (l : Str) (h : IsB w b l) :
  Calls Tryz.prog 56 #[.pointer (some ⟨b, 0, none⟩)] w fun e w' => e = .returned (.string ⟨l.toArray⟩) ∧ Below b w w' := by
 refine (Any.Builder_String_any_k Tryz.lays169 bldExtra9 b b l w h.1 h.2).mono ?_;rintro e w' ⟨rfl, _, h2, _⟩;exact ⟨rfl, h2⟩
theorem isB_new (w : World) : IsB (w.alloc (.cells #[.pointer none, .slice none 0 0] 79)) w.heap.size [] := by
 refine ⟨Lib.IsBuilderF.of (.inl ⟨Nat.le_refl _, .slice none 0 0, heap_alloc_new _ _, ⟨rfl, .inl ⟨rfl, rfl⟩⟩, by simp [Value.ownBlock]⟩), by simp⟩
theorem flat_take (s : Str) (k : Nat) (h : k < s.length) : (s.take (k + 1)).flatMap quoB = (s.take k).flatMap quoB ++ quoB s[k] := by
 rw [List.take_succ_eq_append_getElem h, List.flatMap_append, List.flatMap_cons, List.flatMap_nil, List.append_nil]
theorem quoB_len (c : UInt8) : (quoB c).length ≤ 4 := by unfold quoB; split <;> (try split) <;> (try split) <;> simp
theorem flat_len (s : Str) : (s.flatMap quoB).length ≤ 4 * s.length := by
 induction s with
 | nil => simp
 | cons c s ih =>
  have := quoB_len c;simp only [List.flatMap_cons, List.length_append, List.length_cons]
  omega
theorem ownF_pure {w w' : World} {base n size : Nat} {e : TypeId} {v : Value} {xs : List Value} (h : w.ownsRowF base e size v n xs) (hm : Pure w w') : w'.ownsRowF base e size v n xs := by
 obtain ⟨h1, h2⟩ := h;refine ⟨h1, ?_⟩
 rcases h2 with h2 | ⟨g, cap, cur, fz, hv, hg, hh, r⟩
 ·exact .inl h2
 ·exact .inr ⟨g, cap, cur, fz, hv, hg, (hm.block g (lt_of_heap hh) id).trans hh, r⟩
theorem IsB.pure {w w' : World} {b : Nat} {l : Str} (h : IsB w b l) (hm : Pure w w') : IsB w' b l := by
 obtain ⟨h1, h2⟩ := h
 have key : ∀ p, Lib.BuilderAtF 79 5 b b p (Lib.byteCells l) w → Lib.BuilderAtF 79 5 b b p (Lib.byteCells l) w' := by
  rintro p ⟨k1, v, k2, k3, k4⟩;exact ⟨k1, v, (hm.block b (lt_of_heap k2) id).trans k2, ownF_pure k3 hm, k4⟩
 exact ⟨h1.elim (fun x => .inl (key _ x)) (fun x => .inr (key _ x)), Nat.le_trans h2 hm.size⟩
def QuoRel (w : World) (s : ByteArray) (b gk : Nat) (i : Value) (wr : World) : Prop :=
 ∃ k : Nat, s.size - k = gk ∧ k ≤ s.size ∧ i = .int .i64 (k : Int) ∧ IsB wr b (34 :: (s.data.toList.take k).flatMap quoB) ∧ Pure w wr
theorem flat_take' (s : ByteArray) (k : Nat) (h : k < s.size) : (s.data.toList.take (k + 1)).flatMap quoB = (s.data.toList.take k).flatMap quoB ++ quoB s[k] := by
 have h1 : k < s.data.toList.length := by simpa using h
 have e : s.data.toList[k] = s[k] := by simp; rfl
 rw [flat_take _ k h1, e]
theorem quoB_nat (c : UInt8) : quoB (UInt8.ofNat c.toNat) = quoB c := by simp
set_option maxHeartbeats 2000000 in
theorem Quote_calls (w : World) (s : ByteArray) (hs : s.size ≤ 10000) : Calls Tryz.prog 52 #[.string s] w (StrPost1 w (quoS s.data.toList)) := by
 have HB := Lib.hid (isB_new w);have HM := Lib.hid ((Mod.refl (fun _ => False) w).alloc (.cells #[.pointer none, .slice none 0 0] 79))
 have hls : s.data.toList.length = s.size := by simp
 have HLS := Lib.hid hls;clear hls
 go_enter Tryz.func52, Tryz.ntmps52
 go_wp2_with fail
 generalize (w.alloc (.cells #[.pointer none, .slice none 0 0] 79)) = W at *;generalize hb : w.heap.size = b at *;have hb1 := Nat.le_of_eq hb;clear hb;refine (wbyte_calls _ _ [] 34 (by omega) HB.out (by simp)).mono ?_;rintro e w1 ⟨rfl, hB1, hbel⟩;have m1 : Pure w w1 := HM.out.trans' (Mod.of_below' hbel) (fun i hi hlt => by omega);have hB1' : IsB w1 b (34 :: ([] : Str)) := hB1;have HB1 := Lib.hid hB1';clear HB HM hB1 hB1' hbel
 go_wp2_with fail
 go_loopg [8] s.size (fun gk i wr => QuoRel w s b gk i wr)
 case atStart => exact ⟨0, by omega, by omega, rfl, by simpa using HB1.out, m1⟩
 case round =>
  clear HB1 m1;obtain ⟨k, rfl, hk, rfl, hB, hm⟩ := hrel;have HB := Lib.hid hB;have hfl := flat_len (s.data.toList.take k);have hfl2 : (s.data.toList.take k).length ≤ k := List.length_take_le _ _;clear hB
  by_cases hlt : k < s.size
  ·have HT := Lib.hid (flat_take' s k hlt);have hc := s[k].toNat_lt;have hql := quoB_len s[k];have HQN := Lib.hid (quoB_nat s[k]);generalize (s.data.toList.take k).flatMap quoB = fl at *
   go_wp2_with fail
   refine (quoted_calls _ _ hc).mono ?_;rintro e w1 ⟨rfl, hm1⟩;rw [HQN.out];have hB1 : IsB w1 b (34 :: fl) := HB.out.pure hm1
   go_wp2_with fail
   refine (wstring_calls _ _ _ _ hB1 (by simp; omega) (by omega)).mono ?_;rintro e w2 ⟨rfl, hB2, hbel2⟩;have m2 : Pure w w2 := (hm.trans hm1).trans' (Mod.of_below' hbel2) (fun i hi hlt => by omega);have HB2 := Lib.hid hB2;clear hB2 hB1 HB
   go_wp2_with fail
   go_roundg (s.size - (k + 1))
   case measure => omega
   case rel => exact ⟨k + 1, rfl, by omega, by simp, by rw [HT.out]; exact HB2.out, m2⟩
  ·obtain rfl : k = s.size := by omega
   have e1 : s.data.toList.take s.size = s.data.toList := List.take_of_length_le (by rw [HLS.out]; omega);rw [e1] at HB hfl hfl2;clear e1;generalize hfe : s.data.toList.flatMap quoB = fl at *;have HFE := Lib.hid hfe;clear hfe
   go_wp2_with fail
   refine (wbyte_calls _ _ _ 34 (by omega) HB.out (by simp; omega)).mono ?_;rintro e w2 ⟨rfl, hB2, hbel2⟩;have m2 : Pure w w2 := hm.trans' (Mod.of_below' hbel2) (fun i hi hlt => by omega)
   go_wp2_with fail
   refine (bstring_calls _ _ _ hB2).mono ?_;rintro e w3 ⟨rfl, hbel3⟩;have m3 : Pure w w3 := m2.trans' (Mod.of_below' hbel3) (fun i hi hlt => by omega)
   go_wp2_with fail
   go_ret;exact ⟨by unfold quoS; rw [HFE.out]; rfl, m3⟩
end Go.Proofs.YtelpdjhkedhppaaGreatDoor
/- Quoted strings: Quoted of the reference. -/
namespace Go.Proofs.YtelpdjhkedhppaaGreatDoor
open Go.RowKit
theorem info_u8 : (Tryz.prog.info? 5).map (fun i => (i.zero, i.size, i.bytes)) = some (some (.int .u8 0), 1, 1) := by kernel_rfl
def QdRel (w : World) (s : ByteArray) (base gk : Nat) (x i : Value) (wr : World) : Prop :=
 ∃ (k : Nat) (A : Option Addr) (cap : Nat) (fl : Str), s.size - k = gk ∧ k ≤ s.size ∧ i = .int .i64 (k : Int) ∧ fl = 34 :: (s.data.toList.take k).flatMap quoB ∧ x = .slice A fl.length cap ∧ wr.ownsRow base 5 1 (.slice A fl.length cap) fl.length (Lib.byteCells fl) ∧ Pure w wr ∧ base ≤ wr.heap.size
theorem byteCells_get (l : Str) (j : Nat) (h : j < l.length) : (Lib.byteCells l)[j]? = some (.int .u8 (l[j].toNat : Int)) := by simp [Lib.byteCells, h]
theorem own_bytes {w : World} {base g n cap : Nat} {l : Str} (h : w.ownsRow base 5 1 (.slice (some ⟨g, 0, none⟩) n cap) n (Lib.byteCells l)) : ∀ j (hj : j < l.length), w.cell? ((⟨g, 0, none⟩ : Addr).add j) = some (.int .u8 (l[j].toNat : Int)) := by
 intro j hj
 have hn : l.length = n := by have := h.1; simp [Lib.byteCells] at this; omega
 have := (h.cellAt j (by omega)).trans (byteCells_get l j hj);unfold Addr.add
 split
 ·rename_i e; subst e; exact this
 ·simpa using this
theorem hexB_get (n : Nat) (hn : n < 16) : ∀ h, (⟨#[48, 49, 50, 51, 52, 53, 54, 55, 56, 57, 97, 98, 99, 100, 101, 102]⟩ : ByteArray)[n]'h = hexD n := by
 have key : ∀ n : Fin 16, ∀ h, (⟨#[48, 49, 50, 51, 52, 53, 54, 55, 56, 57, 97, 98, 99, 100, 101, 102]⟩ : ByteArray)[n.val]'h = hexD n.val := by decide +kernel
 exact key ⟨n, hn⟩
theorem u8_wrap (n : Int) (h0 : 0 ≤ n) (h1 : n < 256) : IntKind.u8.wrap n = n := by
 unfold IntKind.wrap;simp [IntKind.bits, IntKind.signed]
 omega
theorem quoS_as (l : Str) : quoS l = (34 :: l.flatMap quoB) ++ [34] := rfl
theorem cell_u8 (c : Nat) (h : c < 256) : Value.int .u8 (c : Int) = .int .u8 ((UInt8.ofNat c).toNat : Int) := by
 congr 1
 simp
 omega
set_option maxHeartbeats 4000000 in
theorem Quoted_calls (w : World) (s : ByteArray) (hs : s.size ≤ 10000) : Calls Tryz.prog 61 #[.string s] w (StrPost1 w (quoS s.data.toList)) := by
 obtain ⟨i0, hi0, hz0, hz1, hz2⟩ := info_parts info_u8
 have hls : s.data.toList.length = s.size := by simp
 have HLS := Lib.hid hls;clear hls;have own0 : (w.alloc (.cells #[.int .u8 34] 5)).ownsRow w.heap.size 5 1 (.slice (some ⟨w.heap.size, 0, none⟩) 1 1) 1 (Lib.byteCells [34]) := ⟨rfl, .inr ⟨w.heap.size, 1, #[.int .u8 34], rfl, Nat.le_refl _, heap_alloc_new _ _, by omega, by simp [maxLen], rfl, rfl⟩⟩;have HO := Lib.hid own0;have HM := Lib.hid ((Mod.refl (fun _ => False) w).alloc (.cells #[.int .u8 34] 5))
 have hsz : w.heap.size ≤ (w.alloc (.cells #[.int .u8 34] 5)).heap.size := by simp
 clear own0
 go_enter Tryz.func61, Tryz.ntmps61
 go_wp2_with fail
 generalize (w.alloc (.cells #[.int .u8 34] 5)) = W at *;generalize hb : w.heap.size = base at *;have hb1 := Nat.le_of_eq hb;clear hb
 go_loopg [3, 9] s.size (fun gk x i wr => QdRel w s base gk x i wr)
 case atStart => exact ⟨0, some ⟨base, 0, none⟩, 1, [34], by omega, by omega, rfl, by simp, rfl, HO.out, HM.out, hsz⟩
 case round =>
  clear HO HM hsz;obtain ⟨k, A, cap, fl, rfl, hk, rfl, hfe, rfl, hown, hm, hbig⟩ := hrel
  have hfl : fl.length ≤ 1 + 4 * k := by
   rw [hfe];have h1 := flat_len (s.data.toList.take k);have h2 : (s.data.toList.take k).length ≤ k := List.length_take_le _ _;simp only [List.length_cons]
   omega
  have HFE := Lib.hid hfe;clear hfe
  by_cases hlt : k < s.size
  ·have HT := Lib.hid (flat_take' s k hlt);have hc := s[k].toNat_lt;have HQN := Lib.hid (quoB_nat s[k]);have HFN : Hid (34 :: (s.data.toList.take (k + 1)).flatMap quoB = fl ++ quoB (UInt8.ofNat s[k].toNat)) := Lib.hid (by rw [HT.out, HFE.out, HQN.out]; rfl);clear HT HQN
   have HREL : Hid (∀ (g5 cap5 m : Nat) (w5 : World) (new : List Value), new = Lib.byteCells (quoB (UInt8.ofNat s[k].toNat)) → m = (quoB (UInt8.ofNat s[k].toNat)).length → w5.ownsRow base 5 1 (.slice (some ⟨g5, 0, none⟩) (fl.length + m) cap5) (fl.length + m) (Lib.byteCells fl ++ new) → Pure w w5 → base ≤ w5.heap.size →
     QdRel w s base (s.size - (k + 1)) (.slice (some ⟨g5, 0, none⟩) (fl.length + m) cap5) (.int .i64 ((k : Int) + 1)) w5) := Lib.hid (by
    intro g5 cap5 m w5 new hn hmm hown5 hp hb5;subst hn hmm;rw [byteCells_app, ← List.length_append] at hown5
    exact ⟨k + 1, _, cap5, fl ++ quoB (UInt8.ofNat s[k].toNat), rfl, by omega, by simp, HFN.out.symm, by rw [List.length_append], hown5, hp, hb5⟩)
   clear HFN HFE;generalize hcc : s[k].toNat = c at *
   by_cases h34 : c = 34
   ·subst h34
    go_wp2_with (at_builtin; refine wpList_append_lies _ rfl _ _ _ rfl base 5 i0 _ 1 1 Tryz.underlying77 hi0 hz0 hz1 hz2 rfl (by omega) (.slice A fl.length cap) fl.length (Lib.byteCells fl) rfl (hown.alloc _) ⟨wr.heap.size, 0, none⟩ 2 2 [.int .u8 92, .int .u8 34] rfl rfl (World.news_of_block (cs := #[.int .u8 92, .int .u8 34]) (t := 5) (fr := (0, 0)) (heap_alloc_new wr _)) (by simp [Value.oneCell']) (by omega) (by simp [maxLen]; omega) (by omega) (by have := hm.size; simp; omega) (wr.heap.size + 1) (by simp) ?_; intro g5 cap5 w5 hown5 hgrow hat hlt5)
    go_roundg (s.size - (k + 1))
    case measure => omega
    case rel =>
     have hz5 := hgrow.size;simp at hz5;exact HREL.out g5 cap5 2 w5 _ rfl rfl hown5 ((hm.alloc _).grown hgrow (fun j hj => .inr (by have := own_block hown j hj; omega))) (by omega)
   by_cases h92 : c = 92
   ·subst h92
    go_wp2_with (at_builtin; refine wpList_append_lies _ rfl _ _ _ rfl base 5 i0 _ 1 1 Tryz.underlying77 hi0 hz0 hz1 hz2 rfl (by omega) (.slice A fl.length cap) fl.length (Lib.byteCells fl) rfl (hown.alloc _) ⟨wr.heap.size, 0, none⟩ 2 2 [.int .u8 92, .int .u8 92] rfl rfl (World.news_of_block (cs := #[.int .u8 92, .int .u8 92]) (t := 5) (fr := (0, 0)) (heap_alloc_new wr _)) (by simp [Value.oneCell']) (by omega) (by simp [maxLen]; omega) (by omega) (by have := hm.size; simp; omega) (wr.heap.size + 1) (by simp) ?_; intro g5 cap5 w5 hown5 hgrow hat hlt5)
    go_roundg (s.size - (k + 1))
    case measure => omega
    case rel =>
     have hz5 := hgrow.size;simp at hz5;exact HREL.out g5 cap5 2 w5 _ rfl rfl hown5 ((hm.alloc _).grown hgrow (fun j hj => .inr (by have := own_block hown j hj; omega))) (by omega)
   have b34 : ((c : Int) == 34) = false := by simp; omega
   have b92 : ((c : Int) == 92) = false := by simp; omega
   by_cases h10 : c = 10
   ·subst h10
    go_wp2_with (at_builtin; (refine Lib.wpList_append_own_string _ rfl _ _ _ _ rfl base 5 i0 Tryz.underlying77 Tryz.underlying9 hi0 hz0 hz1 hz2 (.slice A fl.length cap) fl.length (Lib.byteCells fl) rfl hown ⟨#[92, 110]⟩ rfl (by simp [maxLen, ByteArray.size]; omega) (by simp [ByteArray.size]; omega) hbig ?_); intro v5 w5 hown5 hgrow hnil; obtain ⟨g5, cap5, rfl, _⟩ := own_form hown5 (by simp [ByteArray.size]); clear hnil)
    go_roundg (s.size - (k + 1))
    case measure => omega
    case rel =>
     have hz5 := hgrow.size;exact HREL.out g5 cap5 2 w5 _ rfl rfl hown5 (hm.grown hgrow (fun j hj => .inr (by have := own_block hown j hj; omega))) (by omega)
   have b10 : ((c : Int) == 10) = false := by simp; omega
   by_cases hv : c < 33 ∨ 126 < c
   ·have HQ := Lib.hid (quoB_hid c hc hv h10);have hx1 : ∀ h, (⟨#[48, 49, 50, 51, 52, 53, 54, 55, 56, 57, 97, 98, 99, 100, 101, 102]⟩ : ByteArray)[c / 16]'h = hexD (c / 16) := hexB_get (c / 16) (by omega);have hx2 : ∀ h, (⟨#[48, 49, 50, 51, 52, 53, 54, 55, 56, 57, 97, 98, 99, 100, 101, 102]⟩ : ByteArray)[c % 16]'h = hexD (c % 16) := hexB_get (c % 16) (by omega);have HLT := Lib.hid (fun j (hj : (Value.slice A fl.length cap).ownBlock = some j) => own_lt hown hj);clear h34 h92 h10
    by_cases hv1 : c < 33
    ·have v1 : (c : Int) < 33 := by omega
     have d1 : decide (c < 33) = true := by simpa using hv1
     clear hv
     go_wp2_with fail
     have HGs := Lib.hid (show ∀ (D : Nat → Bool) (zzi : Nat) (zq zq' : World), zzi ≠ 8 → (fun D zq => (D 8 = false → (fun Z => Z.ownsRow base 5 1 (.slice A fl.length cap) fl.length (Lib.byteCells fl)) zq) ∧ (fun Z => base ≤ Z.heap.size) zq) D zq → Mod (fun _ => False) zq zq' → (fun D zq => (D 8 = false → (fun Z => Z.ownsRow base 5 1 (.slice A fl.length cap) fl.length (Lib.byteCells fl)) zq) ∧ (fun Z => base ≤ Z.heap.size) zq) (upd D zzi true) zq' from by intro D zzi zq zq' hi hh hm; refine ⟨fun hs => ?_, ?_⟩; (rw [upd_ne _ _ (Ne.symm hi)] at hs; have h := hh.1 hs; (exact own_pure h hm)); (have h := hh.2; (exact Nat.le_trans h hm.size)))
     refine wp_region_inv (by kernel_rfl) (by kernel_rfl) (InvF (R := Mod (fun _ => False)) [.is (.slice A fl.length cap),
       .is (.int .u8 (c : Int)),
       .is (.int .u8 ((c : Int) / 16)),
       .is (.int .u8 ((hexD (c / 16)).toNat : Int)),
       .is (.int .u8 (c : Int)),
       .is (.int .u8 ((c : Int) % 16)),
       .is (.int .u8 ((hexD (c % 16)).toNat : Int)),
       ⟨fun zv zw => ∃ (g_7 : Nat), zv = .slice (some ⟨g_7, 0, none⟩) 4 4 ∧ wr.heap.size ≤ g_7 ∧ Blk zw g_7 5 #[(.int .u8 92), (.int .u8 120), .int .u8 ((hexD (c / 16)).toNat : Int), .int .u8 ((hexD (c % 16)).toNat : Int)], (by rintro zv zw zx ⟨g_7, rfl, c0, q0⟩ hm; exact ⟨g_7, rfl, c0, (q0.modp hm)⟩), none, some 8⟩,
       ⟨fun zv zw => ∃ (g_8 : Nat) (cap_8 : Nat), zv = .slice (some ⟨g_8, 0, none⟩) (fl.length + 4) cap_8 ∧ zw.ownsRow base 5 1 (.slice (some ⟨g_8, 0, none⟩) (fl.length + 4) cap_8) (fl.length + 4) (Lib.byteCells fl ++ [.int .u8 92, .int .u8 120, .int .u8 ((hexD (c / 16)).toNat : Int), .int .u8 ((hexD (c % 16)).toNat : Int)]), (by rintro zv zw zx ⟨g_8, cap_8, rfl, q0⟩ hm; exact ⟨g_8, cap_8, rfl, (own_pure q0 hm)⟩), none, none⟩,
       ⟨fun zv zw => ∃ (g_9 : Nat) (cap_9 : Nat), zv = .slice (some ⟨g_9, 0, none⟩) (fl.length + 4) cap_9 ∧ zw.ownsRow base 5 1 (.slice (some ⟨g_9, 0, none⟩) (fl.length + 4) cap_9) (fl.length + 4) (Lib.byteCells fl ++ [.int .u8 92, .int .u8 120, .int .u8 ((hexD (c / 16)).toNat : Int), .int .u8 ((hexD (c % 16)).toNat : Int)]), (by rintro zv zw zx ⟨g_9, cap_9, rfl, q0⟩ hm; exact ⟨g_9, cap_9, rfl, (own_pure q0 hm)⟩), none, none⟩]
       (PB w (fun _ => False) wr.heap.size (fun D zq => (D 8 = false → (fun Z => Z.ownsRow base 5 1 (.slice A fl.length cap) fl.length (Lib.byteCells fl)) zq) ∧ (fun Z => base ≤ Z.heap.size) zq))) (InvF.start (PB.start hm (Nat.le_refl _) (⟨fun _ => hown.drew, hbig⟩))) ?_ ?_
     ·refine .cons ?_ (.cons ?_ (.cons ?_ (.cons ?_ (.cons ?_ (.cons ?_ (.cons ?_ (.cons ?_ (.cons ?_ (.cons ?_ .nil)))))))))
      ·intro D V zw1 a hR hI K hK;obtain ⟨hM1, hB1, hG1⟩ := hI.1;obtain ⟨hGK, hG1⟩ := hG1;have ze3 := hR.frame.undone (t := 3) (j := 9) (by kernel_rfl) (hR.later 9 rfl (by kernel_rfl)) rfl;rw [if_pos (by rfl)];go_simp;exact hK (.slice A fl.length cap) _ (hI.next hR (by kernel_rfl) (Mod.refl _ _) (PB.quiet hI.1 (Mod.refl _ _) (HGs.out D 0 zw1 zw1 (by omega) (hI.1).g (Mod.refl _ _))) (upd_same V 0 _))
      ·intro D V zw1 a hR hI K hK;obtain ⟨hM1, hB1, hG1⟩ := hI.1;obtain ⟨hGK, hG1⟩ := hG1;have ze5 := hR.frame.other (t := 5) (by kernel_rfl) rfl;rw [if_pos (by rfl)];go_simp;exact hK (.int .u8 (c : Int)) _ (hI.next hR (by kernel_rfl) (Mod.refl _ _) (PB.quiet hI.1 (Mod.refl _ _) (HGs.out D 1 zw1 zw1 (by omega) (hI.1).g (Mod.refl _ _))) (upd_same V 1 _))
      ·intro D V zw1 a hR hI K hK;obtain ⟨hM1, hB1, hG1⟩ := hI.1;obtain ⟨hGK, hG1⟩ := hG1;have zd1 := hR.pred 1 (by kernel_rfl);have zf1 : V 1 = .int .u8 (c : Int) := hI.2 1 zd1 rfl;have ze43 := hR.frame.done (t := 43) (j := 1) (by kernel_rfl) hR.ok zd1;have hw8 : IntKind.u8.wrap ((c : Int) / 16) = (c : Int) / 16 := u8_wrap _ (by omega) (by omega);rw [if_pos (by rfl)];go_simp;exact hK (.int .u8 ((c : Int) / 16)) _ (hI.next hR (by kernel_rfl) (Mod.refl _ _) (PB.quiet hI.1 (Mod.refl _ _) (HGs.out D 2 zw1 zw1 (by omega) (hI.1).g (Mod.refl _ _))) (upd_same V 2 _))
      ·intro D V zw1 a hR hI K hK;obtain ⟨hM1, hB1, hG1⟩ := hI.1;obtain ⟨hGK, hG1⟩ := hG1;have zd2 := hR.pred 2 (by kernel_rfl);have zf2 : V 2 = .int .u8 ((c : Int) / 16) := hI.2 2 zd2 rfl;have ze44 := hR.frame.done (t := 44) (j := 2) (by kernel_rfl) hR.ok zd2
       have j1 : (0 : Int) ≤ (c : Int) / 16 := by omega
       have j2 : (c : Int) / 16 < 16 := by omega
       have j3 : ((c : Int) / 16).toNat = c / 16 := by omega
       rw [if_pos (by rfl)];go_simp;exact hK (.int .u8 ((hexD (c / 16)).toNat : Int)) _ (hI.next hR (by kernel_rfl) (Mod.refl _ _) (PB.quiet hI.1 (Mod.refl _ _) (HGs.out D 3 zw1 zw1 (by omega) (hI.1).g (Mod.refl _ _))) (upd_same V 3 _))
      ·intro D V zw1 a hR hI K hK;obtain ⟨hM1, hB1, hG1⟩ := hI.1;obtain ⟨hGK, hG1⟩ := hG1;have ze5 := hR.frame.other (t := 5) (by kernel_rfl) rfl;rw [if_pos (by rfl)];go_simp;exact hK (.int .u8 (c : Int)) _ (hI.next hR (by kernel_rfl) (Mod.refl _ _) (PB.quiet hI.1 (Mod.refl _ _) (HGs.out D 4 zw1 zw1 (by omega) (hI.1).g (Mod.refl _ _))) (upd_same V 4 _))
      ·intro D V zw1 a hR hI K hK;obtain ⟨hM1, hB1, hG1⟩ := hI.1;obtain ⟨hGK, hG1⟩ := hG1;have zd4 := hR.pred 4 (by kernel_rfl);have zf4 : V 4 = .int .u8 (c : Int) := hI.2 4 zd4 rfl;have ze46 := hR.frame.done (t := 46) (j := 4) (by kernel_rfl) hR.ok zd4;rw [if_pos (by rfl)];go_simp;exact hK (.int .u8 ((c : Int) % 16)) _ (hI.next hR (by kernel_rfl) (Mod.refl _ _) (PB.quiet hI.1 (Mod.refl _ _) (HGs.out D 5 zw1 zw1 (by omega) (hI.1).g (Mod.refl _ _))) (upd_same V 5 _))
      ·intro D V zw1 a hR hI K hK;obtain ⟨hM1, hB1, hG1⟩ := hI.1;obtain ⟨hGK, hG1⟩ := hG1;have zd5 := hR.pred 5 (by kernel_rfl);have zf5 : V 5 = .int .u8 ((c : Int) % 16) := hI.2 5 zd5 rfl;have ze47 := hR.frame.done (t := 47) (j := 5) (by kernel_rfl) hR.ok zd5
       have j1 : (0 : Int) ≤ (c : Int) % 16 := by omega
       have j2 : (c : Int) % 16 < 16 := by omega
       have j3 : ((c : Int) % 16).toNat = c % 16 := by omega
       rw [if_pos (by rfl)];go_simp;exact hK (.int .u8 ((hexD (c % 16)).toNat : Int)) _ (hI.next hR (by kernel_rfl) (Mod.refl _ _) (PB.quiet hI.1 (Mod.refl _ _) (HGs.out D 6 zw1 zw1 (by omega) (hI.1).g (Mod.refl _ _))) (upd_same V 6 _))
      ·intro D V zw1 a hR hI K hK;obtain ⟨hM1, hB1, hG1⟩ := hI.1;obtain ⟨hGK, hG1⟩ := hG1;have zd3 := hR.pred 3 (by kernel_rfl);have zf3 : V 3 = .int .u8 ((hexD (c / 16)).toNat : Int) := hI.2 3 zd3 rfl;have zd6 := hR.pred 6 (by kernel_rfl);have zf6 : V 6 = .int .u8 ((hexD (c % 16)).toNat : Int) := hI.2 6 zd6 rfl;have ze45 := hR.frame.done (t := 45) (j := 3) (by kernel_rfl) hR.ok zd3;have ze48 := hR.frame.done (t := 48) (j := 6) (by kernel_rfl) hR.ok zd6;rw [if_pos (by rfl)];go_simp;exact hK (_) _ (hI.next hR (by kernel_rfl) ((Mod.refl _ _).alloc _) (PB.quiet hI.1 (pure_alloc _ _) (HGs.out D 7 _ _ (by omega) (hI.1).g ((Mod.refl _ _).alloc _))) (⟨_, upd_same V 7 _, (by omega), (Blk.new _ _ _)⟩))
      ·intro D V zw1 a hR hI K hK;obtain ⟨hM1, hB1, hG1⟩ := hI.1;obtain ⟨hGK, hG1⟩ := hG1;have zd0 := hR.pred 0 (by kernel_rfl);have zf0 : V 0 = .slice A fl.length cap := hI.2 0 zd0 rfl;have zd7 := hR.pred 7 (by kernel_rfl);have zF7 : ∃ (g_7 : Nat), V 7 = .slice (some ⟨g_7, 0, none⟩) 4 4 ∧ wr.heap.size ≤ g_7 ∧ Blk zw1 g_7 5 #[(.int .u8 92), (.int .u8 120), .int .u8 ((hexD (c / 16)).toNat : Int), .int .u8 ((hexD (c % 16)).toNat : Int)] := hI.2 7 zd7 (by show (!D 8) = true; rw [hR.not]; rfl);obtain ⟨g_7, zf7, c7_0, b7_0⟩ := zF7;have ze42 := hR.frame.done (t := 42) (j := 0) (by kernel_rfl) hR.ok zd0;have ze49 := hR.frame.done (t := 49) (j := 7) (by kernel_rfl) hR.ok zd7;rw [if_pos (by rfl)];have hown := hGK hR.not;refine wp_append_lies _ (.tmp 42) (.tmp 49) 77 (by rfl) base 5 i0 _ 1 1 Tryz.underlying77 hi0 hz0 hz1 hz2 (by rfl) (by omega) (.slice A fl.length cap) (fl.length) (Lib.byteCells fl) ?_ hown ⟨g_7, 0, none⟩ 4 4 [.int .u8 92, .int .u8 120, .int .u8 ((hexD (c / 16)).toNat : Int), .int .u8 ((hexD (c % 16)).toNat : Int)] ?_ (by rfl) (World.news_of_block (cs := #[.int .u8 92, .int .u8 120, .int .u8 ((hexD (c / 16)).toNat : Int), .int .u8 ((hexD (c % 16)).toNat : Int)]) (t := 5) (fr := (0, 0)) b7_0) (by simp [Value.oneCell']) (by omega) (by simp [maxLen]; omega) (by omega) (by omega) zw1.heap.size rfl ?_
       ·show a.tmps.getD 42 undef = _; simp [ze42, zf0]
       ·show a.tmps.getD 49 undef = _; simp [ze49, zf7]
       intro g5 cap5 zw2 hown5 hgrow hat hlt5;have hT := mod_grown hgrow;have hTb : ∀ j, (.slice A fl.length cap : Value).ownBlock = some j → base ≤ j := own_block hown;have hTl : ∀ j, (.slice A fl.length cap : Value).ownBlock = some j → j < wr.heap.size := fun j hj => HLT.out j hj;refine hK _ _ (InvF.last (PB.writes hI.1 (fun j hj hl => by have := hTb j hj; omega) hT ⟨fun hs => absurd hs (by rw [upd_same]; decide), Nat.le_trans hG1 hgrow.size⟩) ⟨_, _, upd_same V 8 _, hown5⟩ ?_);intro k hk hDk hlv;have hkl := hR.lt k hDk;have hv := hI.2 k hDk (liveB_of hlv)
       match k, hk, hDk, hlv, hkl, hv with
       | 0, _, _, _, _, hv => exact hv
       | 1, _, _, _, _, hv => exact hv
       | 2, _, _, _, _, hv => exact hv
       | 3, _, _, _, _, hv => exact hv
       | 4, _, _, _, _, hv => exact hv
       | 5, _, _, _, _, hv => exact hv
       | 6, _, _, _, _, hv => exact hv
       | 7, _, _, hlv, _, _ => exact absurd hlv (by show ¬ (!upd D 8 true 8) = true; rw [upd_same]; decide)
       | 8, hk, _, _, _, _ => exact absurd rfl hk
       | 9, _, hDk, _, _, _ => exact absurd hDk (by rw [hR.later 9 rfl (by kernel_rfl)]; decide)
       | k + 10, _, _, _, hkl, _ => exact absurd hkl (by simp)
      ·intro D V zw1 a hR hI K hK;obtain ⟨hM1, hB1, hG1⟩ := hI.1;obtain ⟨hGK, hG1⟩ := hG1;have zd8 := hR.pred 8 (by kernel_rfl);have zF8 : ∃ (g_8 : Nat) (cap_8 : Nat), V 8 = .slice (some ⟨g_8, 0, none⟩) (fl.length + 4) cap_8 ∧ zw1.ownsRow base 5 1 (.slice (some ⟨g_8, 0, none⟩) (fl.length + 4) cap_8) (fl.length + 4) (Lib.byteCells fl ++ [.int .u8 92, .int .u8 120, .int .u8 ((hexD (c / 16)).toNat : Int), .int .u8 ((hexD (c % 16)).toNat : Int)]) := hI.2 8 zd8 rfl;obtain ⟨g_8, cap_8, zf8, b8_0⟩ := zF8;have ze50 := hR.frame.done (t := 50) (j := 8) (by kernel_rfl) hR.ok zd8;rw [if_pos (by rfl)];go_simp;exact hK (.slice (some ⟨g_8, 0, none⟩) (fl.length + 4) cap_8) _ (hI.next hR (by kernel_rfl) (Mod.refl _ _) (PB.quiet hI.1 (Mod.refl _ _) (HGs.out D 9 zw1 zw1 (by omega) (hI.1).g (Mod.refl _ _))) (⟨g_8, cap_8, upd_same V 9 _, b8_0⟩))
     ·intro D V w1 hD hI;obtain ⟨hM1, hB1, hG1⟩ := hI.1;have hMx := hM1;clear hM1;have hBx := hB1;clear hB1;have hGx := hG1.2;clear hG1;have zf0 : V 0 = .slice A fl.length cap := hI.2 0 (hD 0 (by decide)) rfl;have zf1 : V 1 = .int .u8 (c : Int) := hI.2 1 (hD 1 (by decide)) rfl;have zf2 : V 2 = .int .u8 ((c : Int) / 16) := hI.2 2 (hD 2 (by decide)) rfl;have zf3 : V 3 = .int .u8 ((hexD (c / 16)).toNat : Int) := hI.2 3 (hD 3 (by decide)) rfl;have zf4 : V 4 = .int .u8 (c : Int) := hI.2 4 (hD 4 (by decide)) rfl;have zf5 : V 5 = .int .u8 ((c : Int) % 16) := hI.2 5 (hD 5 (by decide)) rfl;have zf6 : V 6 = .int .u8 ((hexD (c % 16)).toNat : Int) := hI.2 6 (hD 6 (by decide)) rfl;have zF8 : ∃ (g_8 : Nat) (cap_8 : Nat), V 8 = .slice (some ⟨g_8, 0, none⟩) (fl.length + 4) cap_8 ∧ w1.ownsRow base 5 1 (.slice (some ⟨g_8, 0, none⟩) (fl.length + 4) cap_8) (fl.length + 4) (Lib.byteCells fl ++ [.int .u8 92, .int .u8 120, .int .u8 ((hexD (c / 16)).toNat : Int), .int .u8 ((hexD (c % 16)).toNat : Int)]) := hI.2 8 (hD 8 (by decide)) rfl;obtain ⟨g_8, cap_8, zf8, b8_0⟩ := zF8;have zF9 : ∃ (g_9 : Nat) (cap_9 : Nat), V 9 = .slice (some ⟨g_9, 0, none⟩) (fl.length + 4) cap_9 ∧ w1.ownsRow base 5 1 (.slice (some ⟨g_9, 0, none⟩) (fl.length + 4) cap_9) (fl.length + 4) (Lib.byteCells fl ++ [.int .u8 92, .int .u8 120, .int .u8 ((hexD (c / 16)).toNat : Int), .int .u8 ((hexD (c % 16)).toNat : Int)]) := hI.2 9 (hD 9 (by decide)) rfl;obtain ⟨g_9, cap_9, zf9, b9_0⟩ := zF9;clear hI hD HGs;simp only [frAll, Act.put, List.setIfInBounds_toArray, List.set_cons_zero, List.set_cons_succ, Nat.zero_add, Nat.reduceAdd, zf0, zf1, zf2, zf3, zf4, zf5, zf6, zf8, zf9];clear zf0 zf1 zf2 zf3 zf4 zf5 zf6 zf8 zf9;generalize V 7 = u7;clear V D
      go_wp2_with fail
      go_roundg (s.size - (k + 1))
      case measure => omega
      case rel => exact HREL.out g_9 cap_9 4 w1 _ (by rw [HQ.out]; rfl) (by rw [HQ.out]; rfl) b9_0 hMx hGx
    ·have v1 : ¬ ((c : Int) < 33) := by omega
     have v2 : (126 : Int) < (c : Int) := by omega
     have d1 : decide (c < 33) = false := by simpa using hv1
     have d2 : decide (126 < c) = true := by simp; omega
     clear hv
     go_wp2_with fail
     have HGs := Lib.hid (show ∀ (D : Nat → Bool) (zzi : Nat) (zq zq' : World), zzi ≠ 8 → (fun D zq => (D 8 = false → (fun Z => Z.ownsRow base 5 1 (.slice A fl.length cap) fl.length (Lib.byteCells fl)) zq) ∧ (fun Z => base ≤ Z.heap.size) zq) D zq → Mod (fun _ => False) zq zq' → (fun D zq => (D 8 = false → (fun Z => Z.ownsRow base 5 1 (.slice A fl.length cap) fl.length (Lib.byteCells fl)) zq) ∧ (fun Z => base ≤ Z.heap.size) zq) (upd D zzi true) zq' from by intro D zzi zq zq' hi hh hm; refine ⟨fun hs => ?_, ?_⟩; (rw [upd_ne _ _ (Ne.symm hi)] at hs; have h := hh.1 hs; (exact own_pure h hm)); (have h := hh.2; (exact Nat.le_trans h hm.size)))
     refine wp_region_inv (by kernel_rfl) (by kernel_rfl) (InvF (R := Mod (fun _ => False)) [.is (.slice A fl.length cap),
       .is (.int .u8 (c : Int)),
       .is (.int .u8 ((c : Int) / 16)),
       .is (.int .u8 ((hexD (c / 16)).toNat : Int)),
       .is (.int .u8 (c : Int)),
       .is (.int .u8 ((c : Int) % 16)),
       .is (.int .u8 ((hexD (c % 16)).toNat : Int)),
       ⟨fun zv zw => ∃ (g_7 : Nat), zv = .slice (some ⟨g_7, 0, none⟩) 4 4 ∧ wr.heap.size ≤ g_7 ∧ Blk zw g_7 5 #[(.int .u8 92), (.int .u8 120), .int .u8 ((hexD (c / 16)).toNat : Int), .int .u8 ((hexD (c % 16)).toNat : Int)], (by rintro zv zw zx ⟨g_7, rfl, c0, q0⟩ hm; exact ⟨g_7, rfl, c0, (q0.modp hm)⟩), none, some 8⟩,
       ⟨fun zv zw => ∃ (g_8 : Nat) (cap_8 : Nat), zv = .slice (some ⟨g_8, 0, none⟩) (fl.length + 4) cap_8 ∧ zw.ownsRow base 5 1 (.slice (some ⟨g_8, 0, none⟩) (fl.length + 4) cap_8) (fl.length + 4) (Lib.byteCells fl ++ [.int .u8 92, .int .u8 120, .int .u8 ((hexD (c / 16)).toNat : Int), .int .u8 ((hexD (c % 16)).toNat : Int)]), (by rintro zv zw zx ⟨g_8, cap_8, rfl, q0⟩ hm; exact ⟨g_8, cap_8, rfl, (own_pure q0 hm)⟩), none, none⟩,
       ⟨fun zv zw => ∃ (g_9 : Nat) (cap_9 : Nat), zv = .slice (some ⟨g_9, 0, none⟩) (fl.length + 4) cap_9 ∧ zw.ownsRow base 5 1 (.slice (some ⟨g_9, 0, none⟩) (fl.length + 4) cap_9) (fl.length + 4) (Lib.byteCells fl ++ [.int .u8 92, .int .u8 120, .int .u8 ((hexD (c / 16)).toNat : Int), .int .u8 ((hexD (c % 16)).toNat : Int)]), (by rintro zv zw zx ⟨g_9, cap_9, rfl, q0⟩ hm; exact ⟨g_9, cap_9, rfl, (own_pure q0 hm)⟩), none, none⟩]
       (PB w (fun _ => False) wr.heap.size (fun D zq => (D 8 = false → (fun Z => Z.ownsRow base 5 1 (.slice A fl.length cap) fl.length (Lib.byteCells fl)) zq) ∧ (fun Z => base ≤ Z.heap.size) zq))) (InvF.start (PB.start hm (Nat.le_refl _) (⟨fun _ => hown.drew, hbig⟩))) ?_ ?_
     ·refine .cons ?_ (.cons ?_ (.cons ?_ (.cons ?_ (.cons ?_ (.cons ?_ (.cons ?_ (.cons ?_ (.cons ?_ (.cons ?_ .nil)))))))))
      ·intro D V zw1 a hR hI K hK;obtain ⟨hM1, hB1, hG1⟩ := hI.1;obtain ⟨hGK, hG1⟩ := hG1;have ze3 := hR.frame.undone (t := 3) (j := 9) (by kernel_rfl) (hR.later 9 rfl (by kernel_rfl)) rfl;rw [if_pos (by rfl)];go_simp;exact hK (.slice A fl.length cap) _ (hI.next hR (by kernel_rfl) (Mod.refl _ _) (PB.quiet hI.1 (Mod.refl _ _) (HGs.out D 0 zw1 zw1 (by omega) (hI.1).g (Mod.refl _ _))) (upd_same V 0 _))
      ·intro D V zw1 a hR hI K hK;obtain ⟨hM1, hB1, hG1⟩ := hI.1;obtain ⟨hGK, hG1⟩ := hG1;have ze5 := hR.frame.other (t := 5) (by kernel_rfl) rfl;rw [if_pos (by rfl)];go_simp;exact hK (.int .u8 (c : Int)) _ (hI.next hR (by kernel_rfl) (Mod.refl _ _) (PB.quiet hI.1 (Mod.refl _ _) (HGs.out D 1 zw1 zw1 (by omega) (hI.1).g (Mod.refl _ _))) (upd_same V 1 _))
      ·intro D V zw1 a hR hI K hK;obtain ⟨hM1, hB1, hG1⟩ := hI.1;obtain ⟨hGK, hG1⟩ := hG1;have zd1 := hR.pred 1 (by kernel_rfl);have zf1 : V 1 = .int .u8 (c : Int) := hI.2 1 zd1 rfl;have ze43 := hR.frame.done (t := 43) (j := 1) (by kernel_rfl) hR.ok zd1;have hw8 : IntKind.u8.wrap ((c : Int) / 16) = (c : Int) / 16 := u8_wrap _ (by omega) (by omega);rw [if_pos (by rfl)];go_simp;exact hK (.int .u8 ((c : Int) / 16)) _ (hI.next hR (by kernel_rfl) (Mod.refl _ _) (PB.quiet hI.1 (Mod.refl _ _) (HGs.out D 2 zw1 zw1 (by omega) (hI.1).g (Mod.refl _ _))) (upd_same V 2 _))
      ·intro D V zw1 a hR hI K hK;obtain ⟨hM1, hB1, hG1⟩ := hI.1;obtain ⟨hGK, hG1⟩ := hG1;have zd2 := hR.pred 2 (by kernel_rfl);have zf2 : V 2 = .int .u8 ((c : Int) / 16) := hI.2 2 zd2 rfl;have ze44 := hR.frame.done (t := 44) (j := 2) (by kernel_rfl) hR.ok zd2
       have j1 : (0 : Int) ≤ (c : Int) / 16 := by omega
       have j2 : (c : Int) / 16 < 16 := by omega
       have j3 : ((c : Int) / 16).toNat = c / 16 := by omega
       rw [if_pos (by rfl)];go_simp;exact hK (.int .u8 ((hexD (c / 16)).toNat : Int)) _ (hI.next hR (by kernel_rfl) (Mod.refl _ _) (PB.quiet hI.1 (Mod.refl _ _) (HGs.out D 3 zw1 zw1 (by omega) (hI.1).g (Mod.refl _ _))) (upd_same V 3 _))
      ·intro D V zw1 a hR hI K hK;obtain ⟨hM1, hB1, hG1⟩ := hI.1;obtain ⟨hGK, hG1⟩ := hG1;have ze5 := hR.frame.other (t := 5) (by kernel_rfl) rfl;rw [if_pos (by rfl)];go_simp;exact hK (.int .u8 (c : Int)) _ (hI.next hR (by kernel_rfl) (Mod.refl _ _) (PB.quiet hI.1 (Mod.refl _ _) (HGs.out D 4 zw1 zw1 (by omega) (hI.1).g (Mod.refl _ _))) (upd_same V 4 _))
      ·intro D V zw1 a hR hI K hK;obtain ⟨hM1, hB1, hG1⟩ := hI.1;obtain ⟨hGK, hG1⟩ := hG1;have zd4 := hR.pred 4 (by kernel_rfl);have zf4 : V 4 = .int .u8 (c : Int) := hI.2 4 zd4 rfl;have ze46 := hR.frame.done (t := 46) (j := 4) (by kernel_rfl) hR.ok zd4;rw [if_pos (by rfl)];go_simp;exact hK (.int .u8 ((c : Int) % 16)) _ (hI.next hR (by kernel_rfl) (Mod.refl _ _) (PB.quiet hI.1 (Mod.refl _ _) (HGs.out D 5 zw1 zw1 (by omega) (hI.1).g (Mod.refl _ _))) (upd_same V 5 _))
      ·intro D V zw1 a hR hI K hK;obtain ⟨hM1, hB1, hG1⟩ := hI.1;obtain ⟨hGK, hG1⟩ := hG1;have zd5 := hR.pred 5 (by kernel_rfl);have zf5 : V 5 = .int .u8 ((c : Int) % 16) := hI.2 5 zd5 rfl;have ze47 := hR.frame.done (t := 47) (j := 5) (by kernel_rfl) hR.ok zd5
       have j1 : (0 : Int) ≤ (c : Int) % 16 := by omega
       have j2 : (c : Int) % 16 < 16 := by omega
       have j3 : ((c : Int) % 16).toNat = c % 16 := by omega
       rw [if_pos (by rfl)];go_simp;exact hK (.int .u8 ((hexD (c % 16)).toNat : Int)) _ (hI.next hR (by kernel_rfl) (Mod.refl _ _) (PB.quiet hI.1 (Mod.refl _ _) (HGs.out D 6 zw1 zw1 (by omega) (hI.1).g (Mod.refl _ _))) (upd_same V 6 _))
      ·intro D V zw1 a hR hI K hK;obtain ⟨hM1, hB1, hG1⟩ := hI.1;obtain ⟨hGK, hG1⟩ := hG1;have zd3 := hR.pred 3 (by kernel_rfl);have zf3 : V 3 = .int .u8 ((hexD (c / 16)).toNat : Int) := hI.2 3 zd3 rfl;have zd6 := hR.pred 6 (by kernel_rfl);have zf6 : V 6 = .int .u8 ((hexD (c % 16)).toNat : Int) := hI.2 6 zd6 rfl;have ze45 := hR.frame.done (t := 45) (j := 3) (by kernel_rfl) hR.ok zd3;have ze48 := hR.frame.done (t := 48) (j := 6) (by kernel_rfl) hR.ok zd6;rw [if_pos (by rfl)];go_simp;exact hK (_) _ (hI.next hR (by kernel_rfl) ((Mod.refl _ _).alloc _) (PB.quiet hI.1 (pure_alloc _ _) (HGs.out D 7 _ _ (by omega) (hI.1).g ((Mod.refl _ _).alloc _))) (⟨_, upd_same V 7 _, (by omega), (Blk.new _ _ _)⟩))
      ·intro D V zw1 a hR hI K hK;obtain ⟨hM1, hB1, hG1⟩ := hI.1;obtain ⟨hGK, hG1⟩ := hG1;have zd0 := hR.pred 0 (by kernel_rfl);have zf0 : V 0 = .slice A fl.length cap := hI.2 0 zd0 rfl;have zd7 := hR.pred 7 (by kernel_rfl);have zF7 : ∃ (g_7 : Nat), V 7 = .slice (some ⟨g_7, 0, none⟩) 4 4 ∧ wr.heap.size ≤ g_7 ∧ Blk zw1 g_7 5 #[(.int .u8 92), (.int .u8 120), .int .u8 ((hexD (c / 16)).toNat : Int), .int .u8 ((hexD (c % 16)).toNat : Int)] := hI.2 7 zd7 (by show (!D 8) = true; rw [hR.not]; rfl);obtain ⟨g_7, zf7, c7_0, b7_0⟩ := zF7;have ze42 := hR.frame.done (t := 42) (j := 0) (by kernel_rfl) hR.ok zd0;have ze49 := hR.frame.done (t := 49) (j := 7) (by kernel_rfl) hR.ok zd7;rw [if_pos (by rfl)];have hown := hGK hR.not;refine wp_append_lies _ (.tmp 42) (.tmp 49) 77 (by rfl) base 5 i0 _ 1 1 Tryz.underlying77 hi0 hz0 hz1 hz2 (by rfl) (by omega) (.slice A fl.length cap) (fl.length) (Lib.byteCells fl) ?_ hown ⟨g_7, 0, none⟩ 4 4 [.int .u8 92, .int .u8 120, .int .u8 ((hexD (c / 16)).toNat : Int), .int .u8 ((hexD (c % 16)).toNat : Int)] ?_ (by rfl) (World.news_of_block (cs := #[.int .u8 92, .int .u8 120, .int .u8 ((hexD (c / 16)).toNat : Int), .int .u8 ((hexD (c % 16)).toNat : Int)]) (t := 5) (fr := (0, 0)) b7_0) (by simp [Value.oneCell']) (by omega) (by simp [maxLen]; omega) (by omega) (by omega) zw1.heap.size rfl ?_
       ·show a.tmps.getD 42 undef = _; simp [ze42, zf0]
       ·show a.tmps.getD 49 undef = _; simp [ze49, zf7]
       intro g5 cap5 zw2 hown5 hgrow hat hlt5;have hT := mod_grown hgrow;have hTb : ∀ j, (.slice A fl.length cap : Value).ownBlock = some j → base ≤ j := own_block hown;have hTl : ∀ j, (.slice A fl.length cap : Value).ownBlock = some j → j < wr.heap.size := fun j hj => HLT.out j hj;refine hK _ _ (InvF.last (PB.writes hI.1 (fun j hj hl => by have := hTb j hj; omega) hT ⟨fun hs => absurd hs (by rw [upd_same]; decide), Nat.le_trans hG1 hgrow.size⟩) ⟨_, _, upd_same V 8 _, hown5⟩ ?_);intro k hk hDk hlv;have hkl := hR.lt k hDk;have hv := hI.2 k hDk (liveB_of hlv)
       match k, hk, hDk, hlv, hkl, hv with
       | 0, _, _, _, _, hv => exact hv
       | 1, _, _, _, _, hv => exact hv
       | 2, _, _, _, _, hv => exact hv
       | 3, _, _, _, _, hv => exact hv
       | 4, _, _, _, _, hv => exact hv
       | 5, _, _, _, _, hv => exact hv
       | 6, _, _, _, _, hv => exact hv
       | 7, _, _, hlv, _, _ => exact absurd hlv (by show ¬ (!upd D 8 true 8) = true; rw [upd_same]; decide)
       | 8, hk, _, _, _, _ => exact absurd rfl hk
       | 9, _, hDk, _, _, _ => exact absurd hDk (by rw [hR.later 9 rfl (by kernel_rfl)]; decide)
       | k + 10, _, _, _, hkl, _ => exact absurd hkl (by simp)
      ·intro D V zw1 a hR hI K hK;obtain ⟨hM1, hB1, hG1⟩ := hI.1;obtain ⟨hGK, hG1⟩ := hG1;have zd8 := hR.pred 8 (by kernel_rfl);have zF8 : ∃ (g_8 : Nat) (cap_8 : Nat), V 8 = .slice (some ⟨g_8, 0, none⟩) (fl.length + 4) cap_8 ∧ zw1.ownsRow base 5 1 (.slice (some ⟨g_8, 0, none⟩) (fl.length + 4) cap_8) (fl.length + 4) (Lib.byteCells fl ++ [.int .u8 92, .int .u8 120, .int .u8 ((hexD (c / 16)).toNat : Int), .int .u8 ((hexD (c % 16)).toNat : Int)]) := hI.2 8 zd8 rfl;obtain ⟨g_8, cap_8, zf8, b8_0⟩ := zF8;have ze50 := hR.frame.done (t := 50) (j := 8) (by kernel_rfl) hR.ok zd8;rw [if_pos (by rfl)];go_simp;exact hK (.slice (some ⟨g_8, 0, none⟩) (fl.length + 4) cap_8) _ (hI.next hR (by kernel_rfl) (Mod.refl _ _) (PB.quiet hI.1 (Mod.refl _ _) (HGs.out D 9 zw1 zw1 (by omega) (hI.1).g (Mod.refl _ _))) (⟨g_8, cap_8, upd_same V 9 _, b8_0⟩))
     ·intro D V w1 hD hI;obtain ⟨hM1, hB1, hG1⟩ := hI.1;have hMx := hM1;clear hM1;have hBx := hB1;clear hB1;have hGx := hG1.2;clear hG1;have zf0 : V 0 = .slice A fl.length cap := hI.2 0 (hD 0 (by decide)) rfl;have zf1 : V 1 = .int .u8 (c : Int) := hI.2 1 (hD 1 (by decide)) rfl;have zf2 : V 2 = .int .u8 ((c : Int) / 16) := hI.2 2 (hD 2 (by decide)) rfl;have zf3 : V 3 = .int .u8 ((hexD (c / 16)).toNat : Int) := hI.2 3 (hD 3 (by decide)) rfl;have zf4 : V 4 = .int .u8 (c : Int) := hI.2 4 (hD 4 (by decide)) rfl;have zf5 : V 5 = .int .u8 ((c : Int) % 16) := hI.2 5 (hD 5 (by decide)) rfl;have zf6 : V 6 = .int .u8 ((hexD (c % 16)).toNat : Int) := hI.2 6 (hD 6 (by decide)) rfl;have zF8 : ∃ (g_8 : Nat) (cap_8 : Nat), V 8 = .slice (some ⟨g_8, 0, none⟩) (fl.length + 4) cap_8 ∧ w1.ownsRow base 5 1 (.slice (some ⟨g_8, 0, none⟩) (fl.length + 4) cap_8) (fl.length + 4) (Lib.byteCells fl ++ [.int .u8 92, .int .u8 120, .int .u8 ((hexD (c / 16)).toNat : Int), .int .u8 ((hexD (c % 16)).toNat : Int)]) := hI.2 8 (hD 8 (by decide)) rfl;obtain ⟨g_8, cap_8, zf8, b8_0⟩ := zF8;have zF9 : ∃ (g_9 : Nat) (cap_9 : Nat), V 9 = .slice (some ⟨g_9, 0, none⟩) (fl.length + 4) cap_9 ∧ w1.ownsRow base 5 1 (.slice (some ⟨g_9, 0, none⟩) (fl.length + 4) cap_9) (fl.length + 4) (Lib.byteCells fl ++ [.int .u8 92, .int .u8 120, .int .u8 ((hexD (c / 16)).toNat : Int), .int .u8 ((hexD (c % 16)).toNat : Int)]) := hI.2 9 (hD 9 (by decide)) rfl;obtain ⟨g_9, cap_9, zf9, b9_0⟩ := zF9;clear hI hD HGs;simp only [frAll, Act.put, List.setIfInBounds_toArray, List.set_cons_zero, List.set_cons_succ, Nat.zero_add, Nat.reduceAdd, zf0, zf1, zf2, zf3, zf4, zf5, zf6, zf8, zf9];clear zf0 zf1 zf2 zf3 zf4 zf5 zf6 zf8 zf9;generalize V 7 = u7;clear V D
      go_wp2_with fail
      go_roundg (s.size - (k + 1))
      case measure => omega
      case rel => exact HREL.out g_9 cap_9 4 w1 _ (by rw [HQ.out]; rfl) (by rw [HQ.out]; rfl) b9_0 hMx hGx
   ·have HQ := Lib.hid (quoB_vis c (by omega) (by omega) h34 h92)
    have v1 : ¬ ((c : Int) < 33) := by omega
    have v2 : ¬ ((126 : Int) < (c : Int)) := by omega
    clear h34 h92 h10 hv
    go_wp2_with (at_builtin; refine wpList_append_lies _ rfl _ _ _ rfl base 5 i0 _ 1 1 Tryz.underlying77 hi0 hz0 hz1 hz2 rfl (by omega) (.slice A fl.length cap) fl.length (Lib.byteCells fl) rfl (hown.alloc _) ⟨wr.heap.size, 0, none⟩ 1 1 [.int .u8 (c : Int)] rfl rfl (World.news_of_block (cs := #[.int .u8 (c : Int)]) (t := 5) (fr := (0, 0)) (heap_alloc_new wr _)) (by simp [Value.oneCell']) (by omega) (by simp [maxLen]; omega) (by omega) (by have := hm.size; simp; omega) (wr.heap.size + 1) (by simp) ?_; intro g5 cap5 w5 hown5 hgrow hat hlt5)
    go_roundg (s.size - (k + 1))
    case measure => omega
    case rel =>
     have hz5 := hgrow.size;simp at hz5;exact HREL.out g5 cap5 1 w5 _ (by rw [HQ.out, cell_u8 c hc]; rfl) (by rw [HQ.out]; rfl) hown5 ((hm.alloc _).grown hgrow (fun j hj => .inr (by have := own_block hown j hj; omega))) (by omega)
  ·obtain rfl : k = s.size := by omega
   have e1 : s.data.toList.take s.size = s.data.toList := List.take_of_length_le (by rw [HLS.out]; omega);rw [e1] at HFE;clear e1;have HQ : Hid (quoS s.data.toList = fl ++ [34]) := Lib.hid (by rw [quoS_as, HFE.out]);clear HFE
   go_wp2_with (at_builtin; (refine wpList_append_lies _ rfl _ _ _ rfl base 5 i0 _ 1 1 Tryz.underlying77 hi0 hz0 hz1 hz2 rfl (by omega) (.slice A fl.length cap) fl.length (Lib.byteCells fl) rfl (hown.alloc _) ⟨wr.heap.size, 0, none⟩ 1 1 [.int .u8 34] rfl rfl (World.news_of_block (cs := #[.int .u8 34]) (t := 5) (fr := (0, 0)) (heap_alloc_new wr _)) (by simp [Value.oneCell']) (by omega) (by simp [maxLen]; omega) (by omega) (by simp; omega) (wr.heap.size + 1) (by simp) ?_); intro g5 cap5 w5 hown5 hgrow hat hlt5; have hcv := run_convert_bytes_back (P := Tryz.prog) w5 77 9 5 ⟨g5, 0, none⟩ cap5 (fl ++ [34]) Tryz.underlying77 Tryz.underlying5 Tryz.underlying9 (own_bytes (n := fl.length + 1) (by rw [← byteCells_app]; exact hown5)); rw [List.length_append, List.length_singleton] at hcv)
   go_ret;exact ⟨by rw [HQ.out]; rfl, (hm.alloc _).grown hgrow (fun j hj => .inr (by have := own_block hown j hj; omega))⟩
end Go.Proofs.YtelpdjhkedhppaaGreatDoor
/- Digests: hex digits by strconv. -/
namespace Go.Proofs.YtelpdjhkedhppaaGreatDoor
open Go.RowKit
theorem D36_get (n : Nat) (hn : n < 16) : ∀ h, (⟨#[48, 49, 50, 51, 52, 53, 54, 55, 56, 57, 97, 98, 99, 100, 101, 102, 103, 104, 105, 106, 107, 108, 109, 110, 111, 112, 113, 114, 115, 116, 117, 118, 119, 120, 121, 122]⟩ : ByteArray)[n]'h = hexD n := by
 have key : ∀ n : Fin 16, ∀ h, (⟨#[48, 49, 50, 51, 52, 53, 54, 55, 56, 57, 97, 98, 99, 100, 101, 102, 103, 104, 105, 106, 107, 108, 109, 110, 111, 112, 113, 114, 115, 116, 117, 118, 119, 120, 121, 122]⟩ : ByteArray)[n.val]'h = hexD n.val := by decide +kernel
 exact key ⟨n, hn⟩
def Deb (w : World) : Prop := w.cell? ⟨9, 15, none⟩ = some (.int .u8 4)
theorem Deb.pure {w w' : World} (h : Deb w) (hm : Pure w w') : Deb w' := hm.keep h id
set_option maxHeartbeats 400000 in
theorem tz64_calls (w : World) (h : Deb w) : Calls Tryz.prog 283 #[.int .u64 16] w fun e w' => e = .returned (.int .i64 4) ∧ w = w' := by
 unfold Deb at h
 have e1 : bits BinOp.and IntKind.u64 16 (IntKind.u64.wrap (-16)) = 16 := by decide +kernel
 have e2 : IntKind.u64.wrap 4573923408821661840 = 4573923408821661840 := by decide +kernel
 have e3 : IntKind.u64.wrap (16 * 285870213051353865) = 4573923408821661840 := by decide +kernel
 go_enter Tryz.func283, Tryz.ntmps283
 go_wp2_with fail
 go_ret;exact ⟨rfl, rfl⟩
set_option maxHeartbeats 400000 in
theorem tz_calls (w : World) (h : Deb w) : Calls Tryz.prog 264 #[.int .u64 16] w fun e w' => e = .returned (.int .i64 4) ∧ w = w' := by
 go_enter Tryz.func264, Tryz.ntmps264
 go_wp2_with fail
 refine (tz64_calls _ h).mono ?_;rintro e w' ⟨rfl, rfl⟩
 go_wp2_with fail
 go_ret;exact ⟨rfl, rfl⟩
set_option maxHeartbeats 400000 in
theorem pow2_calls (w : World) : Calls Tryz.prog 263 #[.int .i64 16] w fun e w' => e = .returned (.bool true) ∧ w = w' := by
 go_enter Tryz.func263, Tryz.ntmps263
 go_wp2_with fail
 go_ret;exact ⟨rfl, rfl⟩
theorem hdiv_step (h k : Nat) : h / 16 ^ k / 16 = h / 16 ^ (k + 1) := by rw [Nat.div_div_eq_div_mul, Nat.pow_succ]
theorem hdiv_bound {h k : Nat} (hh : h < 16 ^ 16) (hk : 16 ≤ h / 16 ^ k) : k < 15 := by
 refine Decidable.byContradiction fun hn => ?_;have h1 : h / 16 ^ k ≤ h / 16 ^ 15 := Nat.div_le_div_left (Nat.pow_le_pow_right (by omega) (by omega)) (Nat.pow_pos (by omega));have h2 : h / 16 ^ 15 < 16 := Nat.div_lt_of_lt_mul (by rw [← Nat.pow_succ]; exact hh)
 omega
theorem hdiv_end {h k : Nat} (hk : h / 16 ^ k < 16) : h < 16 ^ (k + 1) := by
 have := (Nat.div_lt_iff_lt_mul (Nat.pow_pos (by omega))).1 hk;rw [Nat.pow_succ, Nat.mul_comm]
 omega
theorem and15 (u : Nat) (h : u < 18446744073709551616) : bits BinOp.and IntKind.u64 (u : Int) 15 = ((u % 16 : Nat) : Int) := by
 have h1 := u64_and_nat u 15 h (by omega);have h2 : u &&& 15 = u % 16 := Nat.and_two_pow_sub_one_eq_mod u 4;rw [h2] at h1;exact h1
def DigAt (arr : Array Value) (h k : Nat) : Prop := arr.size = 65 ∧ ∀ j, j < k → arr[64 - j]? = some (.int .u8 ((hexD (h / 16 ^ j % 16)).toNat : Int))
theorem DigAt.step {arr : Array Value} {h k : Nat} (hd : DigAt arr h k) (hk : k < 64) : DigAt (arr.setIfInBounds (64 - k) (.int .u8 ((hexD (h / 16 ^ k % 16)).toNat : Int))) h (k + 1) := by
 refine ⟨by simpa using hd.1, fun j hj => ?_⟩;have hs := hd.1
 by_cases e : j = k
 ·subst e;rw [Array.getElem?_setIfInBounds_self_of_lt (by omega)]
 ·rw [Array.getElem?_setIfInBounds_ne (by omega)];exact hd.2 j (by omega)
theorem slice65 (g k : Nat) (hk : k ≤ 15) (W : World) : (Instr.sliceAt 264 (.pointer (some ⟨g, 0, none⟩)) (some (.int .i64 ((64 - k : Nat) : Int))) none none).run Tryz.prog W = .ok (.slice (some ⟨g, 64 - k, none⟩) (k + 1) (k + 1)) W := by
 have hal : Tryz.prog.arrayLen 264 = 65 := by kernel_rfl
 have hse : (Go.sizeOf (Tryz.prog.elem 264)).run Tryz.prog W = .ok 1 W := by kernel_rfl
 rw [run_sliceAt_array_l W 264 ⟨g, 0, none⟩ (by kernel_rfl) .i64 _ (by omega) (by rw [hal]; omega), hse, hal, Int.toNat_natCast];simp only [Result.andThen, slicedAt, Nat.mul_one, Addr.add];rw [if_neg (by omega), if_neg (by omega), Nat.zero_add, show 65 - (64 - k) = k + 1 by omega]
def FbRel (w : World) (h g gk : Nat) (u i : Value) (wr : World) : Prop :=
 ∃ (k : Nat) (arr : Array Value), 15 - k = gk ∧ k ≤ 15 ∧ u = .int .u64 ((h / 16 ^ k : Nat) : Int) ∧ i = .int .i64 (65 - (k : Int)) ∧ DigAt arr h k ∧ Blk wr g 264 arr ∧ Pure w wr
theorem hexR_get (h : Nat) : ∀ (k i : Nat) (hi : i < k), (hexR h k)[i]'(by rw [hexR_len]; exact hi) = hexD (h / 16 ^ (k - 1 - i) % 16)
 | 0, i, hi => absurd hi (by omega)
 | k + 1, 0, hi => by simp [hexR]
 | k + 1, i + 1, hi => by
  have := hexR_get h k i (by omega);simp only [hexR, List.getElem_cons_succ];rw [this]
  congr 4
  omega
theorem DigAt.cells {w : World} {arr : Array Value} {h k g : Nat} (hd : DigAt arr h k) (hb : Blk w g 264 arr) (hk : k ≤ 65) : ∀ j (hj : j < (hexR h k).length), w.cell? ((⟨g, 65 - k, none⟩ : Addr).add j) = some (.int .u8 ((hexR h k)[j].toNat : Int)) := by
 intro j hj
 have hj' : j < k := by rw [hexR_len] at hj; exact hj
 rw [hexR_get h k j hj'];have h1 := hd.2 (k - 1 - j) (by omega)
 have h2 : w.cell? ⟨g, 65 - k + j, none⟩ = some (.int .u8 ((hexD (h / 16 ^ (k - 1 - j) % 16)).toNat : Int)) := by
  rw [hb.cell, show 65 - k + j = 64 - (k - 1 - j) by omega];exact h1
 unfold Addr.add
 split
 ·rename_i e; subst e; simpa using h2
 ·exact h2
def FbPost (w : World) (h : Nat) (e : Ending) (w' : World) : Prop := ∃ k, 1 ≤ k ∧ k ≤ 16 ∧ h < 16 ^ k ∧ e = .returned (.tuple #[.slice none 0 0, .string ⟨(hexR h k).toArray⟩]) ∧ Pure w w'
set_option maxHeartbeats 2000000 in
theorem formatBits_calls (w : World) (h : Nat) (hh : h < 16 ^ 16) (hD : Deb w) : Calls Tryz.prog 223 #[.slice none 0 0, .int .u64 (h : Int), .int .i64 16, .bool false, .bool false] w (FbPost w h) := by
 have HH := Lib.hid hh;clear hh;have HD := Lib.hid (hD.pure ((Mod.refl (fun _ => False) w).alloc (.cells Tryz.zeroCells264 264)));have HB := Lib.hid (Blk.new w 264 Tryz.zeroCells264);have HM := Lib.hid ((Mod.refl (fun _ => False) w).alloc (.cells Tryz.zeroCells264 264));clear hD
 go_enter Tryz.func223, Tryz.ntmps223
 go_wp2_with fail
 generalize (w.alloc (.cells Tryz.zeroCells264 264)) = W at *;generalize hb : w.heap.size = g at *;have hb1 := Nat.le_of_eq hb;clear hb;refine (pow2_calls _).mono ?_;rintro e w' ⟨rfl, rfl⟩
 go_wp2_with fail
 refine (tz_calls _ HD.out).mono ?_;rintro e w' ⟨rfl, rfl⟩;have HZ : Hid (DigAt Tryz.zeroCells264 h 0) := Lib.hid ⟨by kernel_rfl, fun j hj => absurd hj (by omega)⟩;generalize Tryz.zeroCells264 = zc at *
 go_wp2_with fail
 go_loopg [1, 13] 15 (fun gk u i wr => FbRel w h g gk u i wr)
 case atStart => exact ⟨0, zc, rfl, by omega, by simp, rfl, HZ.out, HB.out, HM.out⟩
 case round =>
  clear HZ HB HM HD;obtain ⟨k, arr, rfl, hk, rfl, rfl, hd, hB, hm⟩ := hrel;have HDG := Lib.hid hd;have hsz := hd.1;have hul : h / 16 ^ k < 18446744073709551616 := Nat.lt_of_le_of_lt (Nat.div_le_self _ _) (by have := HH.out; rw [show (16 : Nat) ^ 16 = 18446744073709551616 by decide +kernel] at this; exact this)
  by_cases hge : 16 ≤ h / 16 ^ k
  ·have hk15 := hdiv_bound HH.out hge;have HS := Lib.hid (hdiv_step h k);have HN := Lib.hid (HDG.out.step (by omega));have hx := D36_get (h / 16 ^ k % 16) (by omega);generalize h / 16 ^ k = u at *;have q1 : ∃ v0, arr[64 - k]? = some v0 := ⟨arr[64 - k]'(by omega), Array.getElem?_eq_getElem _⟩;obtain ⟨v0, hv0⟩ := q1;have qc := (hB.cell (64 - k)).trans hv0;have qf := hB.frozen (64 - k);have hset := hB.set (64 - k) (.int .u8 ((hexD (u % 16)).toNat : Int));have HSET := Lib.hid hset
   have i1 : (65 : Int) - (k : Int) - 1 = ((64 - k : Nat) : Int) := by omega
   clear hset hd;have hand := and15 u hul;have j1 : u % 16 < 16 := Nat.mod_lt _ (by omega)
   have hge2 : (16 : Int) ≤ (u : Int) := by omega
   have M2 := Lib.hid (hm.setCell (p := ⟨g, 64 - k, none⟩) (.inr (by show _ ≤ g; omega)) (.int .u8 ((hexD (u % 16)).toNat : Int)))
   have hud : (u : Int) / 16 = ((u / 16 : Nat) : Int) := by omega
   rw [HS.out] at hud;clear HS hB HDG hv0
   go_wp2_with fail
   go_roundg (15 - (k + 1))
   case measure => omega
   case rel => exact ⟨k + 1, _, rfl, by omega, rfl, by congr 1; omega, HN.out, HSET.out, M2.out⟩
  ·have hlt : h / 16 ^ k < 16 := by omega
   have HE := Lib.hid (hdiv_end hlt);have HN := Lib.hid (HDG.out.step (by omega));have hx := D36_get (h / 16 ^ k) hlt;have hmod : h / 16 ^ k % 16 = h / 16 ^ k := Nat.mod_eq_of_lt hlt;rw [hmod] at HN;clear hmod;generalize h / 16 ^ k = u at *;have q1 : ∃ v0, arr[64 - k]? = some v0 := ⟨arr[64 - k]'(by omega), Array.getElem?_eq_getElem _⟩;obtain ⟨v0, hv0⟩ := q1;have qc := (hB.cell (64 - k)).trans hv0;have qf := hB.frozen (64 - k);have hset := hB.set (64 - k) (.int .u8 ((hexD u).toNat : Int))
   have i1 : (65 : Int) - (k : Int) - 1 = ((64 - k : Nat) : Int) := by omega
   have M2 := Lib.hid (hm.setCell (p := ⟨g, 64 - k, none⟩) (.inr (by show _ ≤ g; omega)) (.int .u8 ((hexD u).toNat : Int)))
   have hge2 : ¬ ((16 : Int) ≤ (u : Int)) := by omega
   have hcl := HN.out.cells hset (by omega);have hcv := fun cap => run_convert_bytes_back (P := Tryz.prog) _ 77 9 5 ⟨g, 65 - (k + 1), none⟩ cap (hexR h (k + 1)) Tryz.underlying77 Tryz.underlying5 Tryz.underlying9 hcl;rw [hexR_len, show 65 - (k + 1) = 64 - k by omega] at hcv;have hsl := slice65 g k hk;clear hset hd hcl HDG hB hv0
   go_wp2_with fail
   go_ret2
   exact ⟨k + 1, by omega, by omega, HE.out, rfl, M2.out⟩
end Go.Proofs.YtelpdjhkedhppaaGreatDoor
/- Digests: Digest of package intake, DigestOf of the reference. -/
namespace Go.Proofs.YtelpdjhkedhppaaGreatDoor
open Go.RowKit
def FuPost (w : World) (h : Nat) (e : Ending) (w' : World) : Prop := ∃ k, 1 ≤ k ∧ k ≤ 16 ∧ h < 16 ^ k ∧ e = .returned (.string ⟨(hexR h k).toArray⟩) ∧ Pure w w'
set_option maxHeartbeats 400000 in
theorem ifu_calls (w : World) (h : Nat) (hh : h < 16 ^ 16) (hD : Deb w) : Calls Tryz.prog 190 #[.int .u64 (h : Int), .int .i64 16] w (FuPost w h) := by
 have HC := Lib.hid (formatBits_calls w h hh hD);clear hh hD
 go_enter Tryz.func190, Tryz.ntmps190
 go_wp2_with fail
 refine HC.out.mono ?_;rintro e w1 ⟨k, h1, h2, h3, rfl, hm⟩;have H3 := Lib.hid h3;clear h3 HC;generalize hl : hexR h k = l at *;have HL := Lib.hid hl;clear hl
 go_wp2_with fail
 go_ret;exact ⟨k, h1, h2, H3.out, by rw [HL.out]; rfl, hm⟩
set_option maxHeartbeats 400000 in
theorem fu_calls (w : World) (h : Nat) (hh : h < 16 ^ 16) (hD : Deb w) : Calls Tryz.prog 141 #[.int .u64 (h : Int), .int .i64 16] w (FuPost w h) := by
 have HC := Lib.hid (ifu_calls w h hh hD);clear hh hD
 go_enter Tryz.func141, Tryz.ntmps141
 go_wp2_with fail
 refine HC.out.mono ?_;rintro e w1 ⟨k, h1, h2, h3, rfl, hm⟩;have H3 := Lib.hid h3;clear h3 HC;generalize hl : hexR h k = l at *;have HL := Lib.hid hl;clear hl
 go_wp2_with fail
 go_ret;exact ⟨k, h1, h2, H3.out, by rw [HL.out]; rfl, hm⟩
theorem bldExtra5 : Builder.Extra Tryz.prog Tryz.lays105_ren where
 sizeBuilder := by kernel_rfl
 liesBuilder := by kernel_rfl
 t5 := Tryz.underlying5
 a5 := Tryz.isAgg5
 z5 := Tryz.sizeOf5
 v5 := Tryz.zeroValue5
 infoByte := by kernel_rfl
 cellsByte := by kernel_rfl
 sizeByte := by kernel_rfl
 neB5 := by decide
theorem repeat0_list : ∀ n : Fin 17, Lib.repeatL [48] n.val = List.replicate n.val 48 := by decide +kernel
theorem repeat0_calls (w : World) (n : Nat) (hn : n ≤ 16) : Calls Tryz.prog 106 #[.string ⟨#[48]⟩, .int .i64 (n : Int)] w (StrPost1 w (List.replicate n 48)) := by
 rcases (show n = 0 ∨ n = 1 ∨ 2 ≤ n by omega) with rfl | rfl | h2
 ·refine (Any.strings_Repeat_zero Tryz.lays105 ⟨#[48]⟩ w).mono ?_;rintro e w' ⟨rfl, rfl⟩;exact ⟨rfl, Mod.refl _ _⟩
 ·refine (Any.strings_Repeat_one Tryz.lays105 ⟨#[48]⟩ w).mono ?_;rintro e w' ⟨rfl, rfl⟩;exact ⟨rfl, Mod.refl _ _⟩
 ·refine (Any.strings_Repeat_main Tryz.lays105 bldExtra5 ⟨#[48]⟩ n w h2 (by omega) (by simp [ByteArray.size]; omega) (by simp [ByteArray.size])).mono ?_;rintro e w' ⟨rfl, hb⟩;refine ⟨?_, Mod.of_below hb⟩;have := repeat0_list ⟨n, by omega⟩;simp only at this;rw [← this]
theorem bytes_app (a b : Str) : (⟨a.toArray⟩ : ByteArray) ++ ⟨b.toArray⟩ = ⟨(a ++ b).toArray⟩ := by
 apply ByteArray.ext
 rw [ByteArray.data_append];simp
theorem cast_mulmod2 (x a m : Nat) : ((x * a % m : Nat) : Int) = (x : Int) * (a : Int) % (m : Int) := by simp
theorem hex_pad {h k : Nat} (hk : k ≤ 16) (hh : h < 16 ^ k) : hexR h 16 = List.replicate (16 - k) 48 ++ hexR h k := by
 have := hexR_pad hh (16 - k);rw [show k + (16 - k) = 16 by omega] at this;exact this
theorem fnv_take (s : ByteArray) (k : Nat) (h : k < s.size) : fnv (s.data.toList.take (k + 1)) = fnvS (fnv (s.data.toList.take k)) s[k].toNat := by
 have h1 : k < s.data.toList.length := by simpa using h
 have e : s.data.toList[k] = s[k] := by simp; rfl
 rw [List.take_succ_eq_append_getElem h1, fnv_snoc, e]
set_option maxHeartbeats 1000000 in
theorem Digest_calls (w : World) (s : ByteArray) (hs : s.size ≤ 1000000) (hD : Deb w) : Calls Tryz.prog 74 #[.string s] w (StrPost1 w (digS s.data.toList)) := by
 have hls : s.data.toList.length = s.size := by simp
 have HLS := Lib.hid hls;have HD := Lib.hid hD;clear hls hD
 go_enter Tryz.func74, Tryz.ntmps74
 go_wp2_with fail
 go_loopg [3, 8] s.size (fun gk x i wr => ∃ k : Nat, s.size - k = gk ∧ k ≤ s.size ∧ i = .int .i64 (k : Int) ∧ x = .int .u64 ((fnv (s.data.toList.take k) : Nat) : Int) ∧ w = wr)
 case atStart => exact ⟨0, by omega, by omega, rfl, by simp [fnv, O64], rfl⟩
 case round =>
  obtain ⟨k, rfl, hk, rfl, rfl, rfl⟩ := hrel;have hb : fnv (s.data.toList.take k) < 18446744073709551616 := fnv_lt _
  by_cases hlt : k < s.size
  ·have HS := Lib.hid (fnv_take s k hlt);have hc := s[k].toNat_lt;generalize fnv (s.data.toList.take k) = h at *;generalize hcc : s[k].toNat = c at *;have hx := u64_xor_nat h c hb (by omega);have hxl : h ^^^ c < 18446744073709551616 := Nat.xor_lt_two_pow (n := 64) hb (by omega);have HS2 : Hid (fnv (s.data.toList.take (k + 1)) = ((h ^^^ c) * 1099511628211) % 18446744073709551616) := Lib.hid (by rw [HS.out]; rfl);clear HS;generalize h ^^^ c = x at *
   go_wp2_with fail
   go_roundg (s.size - (k + 1))
   case measure => omega
   case rel => exact ⟨k + 1, rfl, by omega, by simp, by rw [HS2.out, cast_mulmod2]; rfl, rfl⟩
  ·obtain rfl : k = s.size := by omega
   have e1 : s.data.toList.take s.size = s.data.toList := List.take_of_length_le (by rw [HLS.out]; omega);rw [e1] at hb ⊢;clear e1;have HG : Hid (digS s.data.toList = hexR (fnv s.data.toList) 16) := Lib.hid rfl;generalize fnv s.data.toList = h at *;have HC := Lib.hid (fu_calls w h (by rw [show (16 : Nat) ^ 16 = 18446744073709551616 by decide +kernel]; exact hb) HD.out)
   go_wp2_with fail
   refine HC.out.mono ?_;rintro e w1 ⟨n, h1, h2, h3, rfl, hm⟩;have HP := Lib.hid (hex_pad h2 h3)
   have hzl : (⟨(hexR h n).toArray⟩ : ByteArray).size = n := by simp [ByteArray.size, hexR_len]
   clear h3 HC
   have hn16 : (16 : Int) - (n : Int) = ((16 - n : Nat) : Int) := by omega
   generalize hexR h n = l at *
   go_wp2_with fail
   refine (repeat0_calls _ (16 - n) (by omega)).mono ?_;rintro e w2 ⟨rfl, hm2⟩
   go_wp2_with fail
   go_ret;refine ⟨?_, hm.trans hm2⟩;rw [HG.out, HP.out];exact congrArg (fun x => Ending.returned (.string x)) (bytes_app _ _)
end Go.Proofs.YtelpdjhkedhppaaGreatDoor
/- The generators of items: itemId, ItemText, Item. -/
namespace Go.Proofs.YtelpdjhkedhppaaGreatDoor
open Go.RowKit
def ItG (x : Itm) : Prop := x.id.length ≤ 100 ∧ x.cust.length ≤ 30000 ∧ x.name.length ≤ 30000 ∧ x.par.length ≤ 30000 ∧ x.text.length ≤ 29000
theorem ItG.b {x : Itm} (h : ItG x) : ItB x := ⟨h.1, h.2.1, h.2.2.1, h.2.2.2.1, by have := h.2.2.2.2; omega⟩
def StrB (w : World) (b N M : Nat) (e : Ending) (w' : World) : Prop := ∃ s : Str, s.length ≤ M ∧ e = .returned (.string ⟨s.toArray⟩) ∧ Strm w' b N ∧ Mod (· = b) w w'
theorem someb_calls (w : World) (b N g c n : Nat) (ss : List Str) (M : Nat) (hn : n = ss.length) (hM : ∀ s ∈ ss, s.length ≤ M) (hS : Strm w b N) (hN : N ≤ 1000000000) (hx : Blk w g 9 (strsV ss).toArray) (hgb : g ≠ b) (h0 : 0 < ss.length) (hl : ss.length ≤ 1000) :
  Calls Tryz.prog 44 #[.pointer (some ⟨b, 0, none⟩), .slice (some ⟨g, 0, none⟩) n c] w (StrB w b (N + 1) M) := by
 subst hn;refine (some_calls w b N g c ss hS hN hx hgb h0 hl).mono ?_;rintro e w' ⟨s, hs, rfl, h1, h2⟩;exact ⟨s, hM s hs, rfl, h1, h2⟩
theorem le_cons {M : Nat} {s : Str} {ss : List Str} (h : s.length ≤ M) (hs : ∀ s ∈ ss, s.length ≤ M) : ∀ t ∈ s :: ss, t.length ≤ M := fun t ht => by
 rcases List.mem_cons.1 ht with rfl | ht
 ·exact h
 ·exact hs t ht
theorem le_nil {M : Nat} : ∀ t ∈ ([] : List Str), t.length ≤ M := fun t ht => absurd ht (by simp)
theorem repeatA_calls (w : World) (n : Nat) (h2 : 2 ≤ n) (hn : n ≤ 100000) : Calls Tryz.prog 106 #[.string ⟨#[97]⟩, .int .i64 (n : Int)] w (fun e w' => ∃ s : Str, s.length = n ∧ e = .returned (.string ⟨s.toArray⟩) ∧ Pure w w') := by
 refine (Any.strings_Repeat_main Tryz.lays105 bldExtra5 ⟨#[97]⟩ n w h2 (by omega) (by simp [ByteArray.size]; omega) (by simp [ByteArray.size])).mono ?_;rintro e w' ⟨rfl, hb⟩;refine ⟨Lib.repeatL [97] n, by rw [Lib.repeatL_length]; simp, rfl, Mod.of_below hb⟩
def itS (i : Nat) : Str := [105, 97, 97 + UInt8.ofNat i]
set_option maxHeartbeats 1000000 in
theorem itemId_calls (w : World) (i : Nat) (hi : i < 26) : Calls Tryz.prog 45 #[.int .i64 (i : Int)] w (fun e w' => e = .returned (.string ⟨(itS i).toArray⟩) ∧ Pure w w') := by
 have e1 : Utf8.encode 97 = ⟨#[97]⟩ := enc_ascii 97 (by omega)
 have e2 : Utf8.encode (97 + (i : Int)) = ⟨#[UInt8.ofNat (97 + i)]⟩ := by
  have := enc_ascii (97 + i) (by omega)
  rwa [Int.natCast_add] at this
 have h1 : (i : Int).tdiv 26 = 0 := by
  rw [Int.tdiv_eq_ediv_of_nonneg (by omega)]
  omega
 have h1' : (i : Int) / 26 = 0 := by omega
 have h2 : (i : Int).tmod 26 = (i : Int) := by
  rw [Int.tmod_eq_emod_of_nonneg (by omega)]
  omega
 have h2' : (i : Int) % 26 = (i : Int) := by omega
 have hw : IntKind.i32.wrap (97 + (i : Int)) = 97 + (i : Int) := by simp [IntKind.wrap, IntKind.bits, IntKind.signed]; omega
 have hw1 : IntKind.i32.wrap 97 = 97 := by decide
 go_enter Tryz.func45, Tryz.ntmps45
 go_wp2_with fail
 go_ret;refine ⟨?_, Mod.refl _ _⟩;have h0 := bytes_app [105] [97];have h := bytes_app ([105] ++ [97]) [97 + UInt8.ofNat i];rw [← h0] at h;exact congrArg (fun x => Ending.returned (Value.string x)) h
def itWords : List Str := [[100, 101, 97, 108], [68, 101, 97, 108], [115, 105, 103, 110], [115, 105, 103, 110, 101, 100], [116, 104, 101], [102, 114, 105, 100, 97, 121], [99, 111, 110, 116, 114, 97, 99, 116], [120, 49], [99, 97, 102, 195, 169], [97, 110, 100]]
def itSeps : List Str := [[32], [32], [32], [44, 32], [45]]
def It1 (w : World) (b N m gk : Nat) (x i : Value) (wr : World) : Prop :=
 ∃ (j : Nat) (a : ByteArray), m - j = gk ∧ j ≤ m ∧ x = .string a ∧ i = .int .i64 (j : Int) ∧ a.size ≤ 100 * j ∧ Strm wr b (N + 1 + 20 * j) ∧ Mod (· = b) w wr
def It2 (w : World) (b N j m gk : Nat) (x i : Value) (wr : World) : Prop :=
 ∃ (k : Nat) (a : ByteArray), m - k = gk ∧ k ≤ m ∧ x = .string a ∧ i = .int .i64 (k : Int) ∧ a.size ≤ 100 * j + 10 * k ∧ Strm wr b (N + 1 + 20 * j + 1 + 2 * k) ∧ Mod (· = b) w wr
set_option maxHeartbeats 4000000 in
theorem itemText_calls (w : World) (b N : Nat) (hS : Strm w b N) (hN : N ≤ 900000000) : Calls Tryz.prog 20 #[.pointer (some ⟨b, 0, none⟩)] w (StrB w b (N + 61) 300) := by
 have hbl := hS.lt
 go_enter Tryz.func20, Tryz.ntmps20
 go_wp2_with fail
 refine (pickv_calls _ b _ w.heap.size _ _ #[.int .i64 0, .int .i64 1, .int .i64 1, .int .i64 2, .int .i64 3] (hS.alloc _) (Blk.new _ _ _) (by omega) (by omega) rfl (by decide) (by decide) rfl).mono ?_;rintro e w1 ⟨m, hmem, rfl, hS1, hM1⟩
 have hm02 : 0 ≤ m ∧ m ≤ 3 := by
  have : m = 0 ∨ m = 1 ∨ m = 1 ∨ m = 2 ∨ m = 3 := by simpa [intsOf, Go.RowKit.intOf] using hmem
  omega
 obtain ⟨hm0, hm2⟩ := hm02;obtain ⟨m, rfl⟩ := Int.eq_ofNat_of_zero_le hm0
 have hm2' : m ≤ 3 := by omega
 have m1 : Mod (· = b) w w1 := ((Mod.refl _ _).alloc _).trans hM1;clear hmem hS hM1 hm0 hm2 hbl
 go_wp2_with fail
 go_loopg [3, 8] m (fun gk x i wr => It1 w b N m gk x i wr)
 case atStart => exact ⟨0, ⟨#[]⟩, rfl, by omega, rfl, rfl, by simp [ByteArray.size], hS1.more (by omega), m1⟩
 case round =>
  clear hS1 m1;obtain ⟨j, a, rfl, hj, rfl, rfl, ha, hS1, hM1⟩ := hrel
  by_cases hlt : j < m
  ·go_wp2_with fail
   refine (range_calls _ b _ _ _ hS1 (by omega) (by omega) (by omega) (by omega)).mono ?_;rintro e w2 ⟨r, hr0, hr1, rfl, hS2, hM2⟩;obtain ⟨r, rfl⟩ := Int.eq_ofNat_of_zero_le hr0
   have hr6 : r ≤ 6 := by omega
   have m2 := hM1.trans hM2;clear hS1 hM1 hM2 hr0 hr1
   go_wp2_with fail
   go_loopg [3, 12] r (fun gk x i wr => It2 w b N j r gk x i wr)
   case atStart => exact ⟨0, a, rfl, by omega, rfl, rfl, by omega, hS2.more (by omega), m2⟩
   case round =>
    clear hS2 m2 ha;obtain ⟨k, a, rfl, hk, rfl, rfl, ha, hS2, m2⟩ := hrel;have hbl := hS2.lt
    by_cases hlk : k < r
    ·by_cases hk0 : k = 0
     ·subst hk0
      go_wp2_with fail
      refine (someb_calls _ b _ _ _ _ itWords 8 rfl (by decide) (hS2.alloc _) (by omega) (Blk.new _ _ _) (by omega) (by decide) (by decide)).mono ?_;rintro e w3 ⟨s, hs, rfl, hS3, hM3⟩;have m3 := (m2.alloc _).trans hM3
      have hz : (⟨s.toArray⟩ : ByteArray).size ≤ 8 := by simpa [ByteArray.size] using hs
      generalize (⟨s.toArray⟩ : ByteArray) = z at *;clear hS2 hM3 m2 hs
      go_wp2_with fail
      go_roundg (r - (0 + 1))
      case measure => omega
      case rel => exact ⟨0 + 1, _, rfl, by omega, rfl, by simp, by rw [ByteArray.size_append]; omega, hS3.more (by omega), m3⟩
     ·have hk1 : (0 : Int) < (k : Int) := by omega
      go_wp2_with fail
      refine (someb_calls _ b _ _ _ _ itSeps 2 rfl (by decide) (hS2.alloc _) (by omega) (Blk.new _ _ _) (by omega) (by decide) (by decide)).mono ?_;rintro e w3 ⟨s, hs, rfl, hS3, hM3⟩;have m3 := (m2.alloc _).trans hM3
      have hz : (⟨s.toArray⟩ : ByteArray).size ≤ 2 := by simpa [ByteArray.size] using hs
      generalize (⟨s.toArray⟩ : ByteArray) = z at *;have hbl3 := hS3.lt
      have hza : (a ++ z).size ≤ 100 * j + 10 * k + 2 := by rw [ByteArray.size_append]; omega
      clear hS2 hM3 m2 hs hbl
      go_wp2_with fail
      refine (someb_calls _ b _ _ _ _ itWords 8 rfl (by decide) (hS3.alloc _) (by omega) (Blk.new _ _ _) (by omega) (by decide) (by decide)).mono ?_;rintro e w4 ⟨s, hs, rfl, hS4, hM4⟩;have m4 := (m3.alloc _).trans hM4
      have hz2 : (⟨s.toArray⟩ : ByteArray).size ≤ 8 := by simpa [ByteArray.size] using hs
      generalize (⟨s.toArray⟩ : ByteArray) = z2 at *;generalize a ++ z = az at *;clear hS3 hM4 m3 hs hz ha
      go_wp2_with fail
      go_roundg (r - (k + 1))
      case measure => omega
      case rel => exact ⟨k + 1, _, rfl, by omega, rfl, by simp, by rw [ByteArray.size_append]; omega, hS4.more (by omega), m4⟩
    ·obtain rfl : k = r := by omega
     have hz1 : (⟨#[10]⟩ : ByteArray).size = 1 := rfl
     go_wp2_with fail
     go_roundg (m - (j + 1))
     case measure => omega
     case rel => exact ⟨j + 1, _, rfl, by omega, rfl, by simp, by rw [ByteArray.size_append]; omega, hS2.more (by omega), m2⟩
  ·obtain rfl : j = m := by omega
   go_wp2_with fail
   go_ret;exact ⟨a.data.toList, by simp; omega, by simp, hS1.more (by omega), hM1⟩
def someA : List Str := [[97, 110, 110], [98, 111, 98], [99, 105, 100]]
def someB : List Str := [[], [109, 101, 109, 111], [84, 104, 101, 32, 100, 101, 97, 108], [120, 45, 49, 46, 116, 120, 116]]
def ItemPostG (w : World) (b N : Nat) (e : Ending) (w' : World) : Prop := ∃ x : Itm, ItG x ∧ e = .returned (itA x) ∧ Strm w' b N ∧ Mod (· = b) w w'
def ItCut (w : World) (b N gr gx : Nat) (wx : World) : Prop :=
 ∃ x : Itm, ItG x ∧ Blk wx gx 40 (itQ x) ∧ Blk wx gr 40 itZc ∧ Strm wx b N ∧ Mod (· = b) w wx
set_option maxHeartbeats 8000000 in
theorem item_callsG (w : World) (b N : Nat) (id : Str) (hS : Strm w b N) (hN : N ≤ 800000000) (hid : id.length ≤ 100) : Calls Tryz.prog 46 #[.pointer (some ⟨b, 0, none⟩), .string ⟨id.toArray⟩] w (ItemPostG w b (N + 140)) := by
 have hbl := hS.lt;have HR0 := Lib.hid (Blk.new w 40 itZc);unfold itZc at HR0
 go_enter Tryz.func46, Tryz.ntmps46
 go_wp2_with fail
 refine (someb_calls _ b _ _ _ _ someA 3 rfl (by decide) ((hS.alloc _).alloc _) (by omega) (Blk.snd _ _ _ _) (by omega) (by decide) (by decide)).mono ?_;rintro e w1 ⟨s1, hs1, rfl, hS1, hM1⟩;have R1 := (HR0.out.alloc _).mod hM1 (by omega);have m1 : Mod (· = b) w w1 := (((Mod.refl _ _).alloc _).alloc _).trans hM1;obtain ⟨gr, hgr⟩ : ∃ gr, gr = w.heap.size := ⟨_, rfl⟩;rw [← hgr] at R1 ⊢;have hgr1 := Nat.le_of_eq hgr;have hgr2 := Nat.le_of_eq hgr.symm
 have hbr : b < gr := by omega
 clear hgr HR0 hM1 hS;have hl1 := hS1.lt
 go_wp2_with fail
 refine (pickv_calls _ b _ w1.heap.size _ _ #[.int .i64 1, .int .i64 1, .int .i64 1, .int .i64 2, .int .i64 3, .int .i64 3, .int .i64 4] (hS1.alloc _) (Blk.new _ _ _) (by omega) (by omega) rfl (by decide) (by decide) rfl).mono ?_;rintro e w2 ⟨kd, _, rfl, hS2, hM2⟩;have R2 := (R1.alloc _).mod hM2 (by omega);have m2 := (m1.alloc _).trans hM2;clear R1 m1 hS1 hM2 hl1;have hl2 := hS2.lt
 go_wp2_with fail
 refine (someb_calls _ b _ _ _ _ someB 8 rfl (by decide) (hS2.alloc _) (by omega) (Blk.new _ _ _) (by omega) (by decide) (by decide)).mono ?_;rintro e w3 ⟨s3, hs3, rfl, hS3, hM3⟩;have R3 := (R2.alloc _).mod hM3 (by omega);have m3 := (m2.alloc _).trans hM3;clear R2 m2 hS2 hM3 hl2;have hl3 := hS3.lt
 go_wp2_with fail
 refine (pickv_calls _ b _ w3.heap.size _ _ #[.int .i64 0, .int .i64 10, .int .i64 100, .int .i64 1439, .int .i64 1440, .int .i64 5000, .int .i64 20000] (hS3.alloc _) (Blk.new _ _ _) (by omega) (by omega) rfl (by decide) (by decide) rfl).mono ?_;rintro e w4 ⟨tm, _, rfl, hS4, hM4⟩;have R4 := (R3.alloc _).mod hM4 (by omega);have m4 := (m3.alloc _).trans hM4;clear R3 m3 hS3 hM4 hl3
 go_wp2_with fail
 refine (itemText_calls _ b _ hS4 (by omega)).mono ?_;rintro e w5 ⟨s5, hs5, rfl, hS5, hM5⟩;have R5 := R4.mod hM5 (by omega);have m5 := m4.trans hM5;clear R4 m4 hS4 hM5
 go_wp2_with fail
 refine (itemText_calls _ b _ hS5 (by omega)).mono ?_;rintro e w6 ⟨s6, hs6, rfl, hS6, hM6⟩;have R6 := R5.mod hM6 (by omega);have m6 := m5.trans hM6;clear R5 m5 hS5 hM6;have hl6 := hS6.lt
 go_wp2_with fail
 refine (someb_calls _ b _ _ _ _ [[], [111, 110, 101, 10], [111, 110, 101, 10, 116, 119, 111, 10], s5, s6] 300 rfl (le_cons (by decide) (le_cons (by decide) (le_cons (by decide) (le_cons hs5 (le_cons hs6 le_nil))))) (hS6.alloc _) (by omega) (Blk.new _ _ _) (by omega) (by simp) (by simp)).mono ?_;rintro e w7 ⟨s7, hs7, rfl, hS7, hM7⟩;have R7 := (R6.alloc _).mod hM7 (by omega);have m7 := (m6.alloc _).trans hM7;clear R6 m6 hS6 hM7 hl6 hs5 hs6;have HB := Lib.hid (Blk.new w7 40 (itQ ⟨id, s1, kd, s3, tm, [], s7⟩));have R8 := R7.alloc (.cells (itQ ⟨id, s1, kd, s3, tm, [], s7⟩) 40);have m8 := m7.alloc (.cells (itQ ⟨id, s1, kd, s3, tm, [], s7⟩) 40);have hS8 := hS7.alloc (.cells (itQ ⟨id, s1, kd, s3, tm, [], s7⟩) 40);have hrl := R7.lt;have hl7 := hS7.lt;unfold itQ at HB R8 m8 hS8;simp only at HB R8 m8 hS8;have HR8 := Lib.hid R8;have Hm8 := Lib.hid m8;have HS8 := Lib.hid hS8;clear R7 m7 hS7 R8 m8 hS8
 go_wp2_with fail
 refine (flip_calls _ b _ _ HS8.out (by omega) (by omega) (by omega)).mono ?_;rintro e w9 ⟨fl, rfl, hS9, hM9⟩;have B9 := HB.out.mod hM9 (by omega);have R9 := HR8.out.mod hM9 (by omega);have m9 := Hm8.out.trans hM9;generalize w7.heap.size = gx at *;clear HB HR8 Hm8 HS8 hM9
 go_upto_if 28 with (fail)
 go_cut [] (fun wx => ItCut w b (N + 140) gr gx wx)
 case first =>
  cases fl
  ·go_wp2_with fail
   go_meet;exact ⟨⟨id, s1, kd, s3, tm, [], s7⟩, ⟨by show id.length ≤ _; omega, by show s1.length ≤ _; omega, by show s3.length ≤ _; omega, by simp, by show s7.length ≤ _; omega⟩, B9, R9, hS9.more (by omega), m9⟩
  go_wp2_with fail
  refine (next_calls _ b _ _ hS9 (by omega) (by omega) (by omega)).mono ?_;rintro e w10 ⟨k, hk0, hk1, rfl, hS10, hM10⟩;have B10 := B9.mod hM10 (by omega);have R10 := R9.mod hM10 (by omega);have m10 := m9.trans hM10;have hl10 := hS10.lt;clear B9 R9 m9 hS9 hM10
  have HST : Hid (∀ (W : World) (j : Nat) (u : Value), b < gx → Strm W b (N + 140) → Mod (· = b) w W → Blk W gr 40 itZc → Strm (W.setCell ⟨gx, j, none⟩ u) b (N + 140) ∧ Mod (· = b) w (W.setCell ⟨gx, j, none⟩ u) ∧ Blk (W.setCell ⟨gx, j, none⟩ u) gr 40 itZc) :=
   Lib.hid (fun W j u h1 h2 h3 h4 => ⟨h2.setCell h1 _, h3.setCell (p := ⟨gx, j, none⟩) (.inr (by show _ ≤ gx; omega)) _, h4.far (p := ⟨gx, j, none⟩) (by show gr ≠ gx; omega) _⟩)
  by_cases k0 : k = 0
  ·subst k0
   go_wp2_with fail
   refine (someb_calls _ b _ _ _ _ [[], [65], id] 100 rfl (le_cons (by decide) (le_cons (by decide) (le_cons hid le_nil))) (hS10.alloc _) (by omega) (Blk.new _ _ _) (by omega) (by simp) (by simp)).mono ?_;rintro e w11 ⟨t1, ht1, rfl, hS11, hM11⟩;have B11 := (B10.alloc _).mod hM11 (by omega);have R11 := (R10.alloc _).mod hM11 (by omega);have m11 := (m10.alloc _).trans hM11;have hl11 := hS11.lt;clear B10 R10 m10 hS10 hM11
   go_wp2_with fail
   refine (someb_calls _ b _ _ _ _ [[], [65, 110, 110], [97, 110, 110]] 3 rfl (by decide) (hS11.alloc _) (by omega) (Blk.new _ _ _) (by omega) (by simp) (by simp)).mono ?_;rintro e w12 ⟨t2, ht2, rfl, hS12, hM12⟩;have B12 := (B11.alloc _).mod hM12 (by omega);have R12 := (R11.alloc _).mod hM12 (by omega);have m12 := (m11.alloc _).trans hM12;clear B11 R11 m11 hS11 hM12;have HB := Lib.hid B12;have c0 := B12.cell 0; have cf0 := B12.frozen 0; have c1 := B12.cell 1; have cf1 := B12.frozen 1; have c2 := B12.cell 2; have cf2 := B12.frozen 2; have c3 := B12.cell 3; have cf3 := B12.frozen 3; have c4 := B12.cell 4; have cf4 := B12.frozen 4; have c5 := B12.cell 5; have cf5 := B12.frozen 5; have c6 := B12.cell 6; have cf6 := B12.frozen 6; simp at c0 c1 c2 c3 c4 c5 c6;clear B12
   go_wp2_with fail
   go_meet;obtain ⟨a1, a2, a3⟩ := HST.out _ 0 (.string ⟨t1.toArray⟩) (by omega) (hS12.more (by omega)) m12 R12;obtain ⟨d1, d2, d3⟩ := HST.out _ 1 (.string ⟨t2.toArray⟩) (by omega) a1 a2 a3;exact ⟨⟨t1, t2, kd, s3, tm, [], s7⟩, ⟨by show t1.length ≤ _; omega, by show t2.length ≤ _; omega, by show s3.length ≤ _; omega, by simp, by show s7.length ≤ _; omega⟩, by have := (HB.out.set 0 (.string ⟨t1.toArray⟩)).set 1 (.string ⟨t2.toArray⟩); simpa [itQ] using this, d3, d1, d2⟩
  have k0' : (k == 0) = false := by simpa using k0
  by_cases k1 : k = 1
  ·subst k1
   go_wp2_with fail
   refine (odd_calls _ b _ _ _ hS10 (by omega) (by omega) (by omega) (by omega)).mono ?_;rintro e w11 ⟨z, _, _, rfl, hS11, hM11⟩;have B11 := B10.mod hM11 (by omega);have R11 := R10.mod hM11 (by omega);have m11 := m10.trans hM11;clear B10 R10 m10 hS10 hM11;have HB := Lib.hid B11;have c0 := B11.cell 0; have cf0 := B11.frozen 0; have c1 := B11.cell 1; have cf1 := B11.frozen 1; have c2 := B11.cell 2; have cf2 := B11.frozen 2; have c3 := B11.cell 3; have cf3 := B11.frozen 3; have c4 := B11.cell 4; have cf4 := B11.frozen 4; have c5 := B11.cell 5; have cf5 := B11.frozen 5; have c6 := B11.cell 6; have cf6 := B11.frozen 6; simp at c0 c1 c2 c3 c4 c5 c6;clear B11
   go_wp2_with fail
   go_meet;obtain ⟨a1, a2, a3⟩ := HST.out _ 2 (.int .i64 z) (by omega) (hS11.more (by omega)) m11 R11;exact ⟨⟨id, s1, z, s3, tm, [], s7⟩, ⟨by show id.length ≤ _; omega, by show s1.length ≤ _; omega, by show s3.length ≤ _; omega, by simp, by show s7.length ≤ _; omega⟩, by have := HB.out.set 2 (.int .i64 z); simpa [itQ] using this, a3, a1, a2⟩
  have k1' : (k == 1) = false := by simpa using k1
  by_cases k2 : k = 2
  ·subst k2
   go_wp2_with fail
   refine (pickv_calls _ b _ w10.heap.size _ _ #[.int .i64 120, .int .i64 121] (hS10.alloc _) (Blk.new _ _ _) (by omega) (by omega) rfl (by decide) (by decide) rfl).mono ?_;rintro e w11 ⟨z, hz, rfl, hS11, hM11⟩
   have hz2 : 2 ≤ z ∧ z ≤ 200 := by
    have : z = 120 ∨ z = 121 := by simpa [intsOf, Go.RowKit.intOf] using hz
    omega
   obtain ⟨z, rfl⟩ := Int.eq_ofNat_of_zero_le (by omega : 0 ≤ z);have B11 := (B10.alloc _).mod hM11 (by omega);have R11 := (R10.alloc _).mod hM11 (by omega);have m11 := (m10.alloc _).trans hM11;clear B10 R10 m10 hS10 hM11 hz
   go_wp2_with fail
   refine (repeatA_calls _ z (by omega) (by omega)).mono ?_;rintro e w12 ⟨t1, ht1, rfl, hM12⟩;have B12 := B11.mod hM12 _root_.id;have R12 := R11.mod hM12 _root_.id;have m12 := m11.transp hM12;have hS12 := hS11.pure hM12;have hl12 := hS12.lt
   have ht1' : t1.length ≤ 200 := by omega
   clear B11 R11 m11 hS11 hM12 ht1 hz2
   go_wp2_with fail
   refine (someb_calls _ b _ _ _ _ [[32, 97], [97, 32, 32, 98], [97, 10], [255], t1] 200 rfl (le_cons (by decide) (le_cons (by decide) (le_cons (by decide) (le_cons (by decide) (le_cons ht1' le_nil))))) (hS12.alloc _) (by omega) (Blk.new _ _ _) (by omega) (by simp) (by simp)).mono ?_;rintro e w13 ⟨t2, ht2, rfl, hS13, hM13⟩;have B13 := (B12.alloc _).mod hM13 (by omega);have R13 := (R12.alloc _).mod hM13 (by omega);have m13 := (m12.alloc _).trans hM13;clear B12 R12 m12 hS12 hM13;have HB := Lib.hid B13;have c0 := B13.cell 0; have cf0 := B13.frozen 0; have c1 := B13.cell 1; have cf1 := B13.frozen 1; have c2 := B13.cell 2; have cf2 := B13.frozen 2; have c3 := B13.cell 3; have cf3 := B13.frozen 3; have c4 := B13.cell 4; have cf4 := B13.frozen 4; have c5 := B13.cell 5; have cf5 := B13.frozen 5; have c6 := B13.cell 6; have cf6 := B13.frozen 6; simp at c0 c1 c2 c3 c4 c5 c6;clear B13
   go_wp2_with fail
   go_meet;obtain ⟨a1, a2, a3⟩ := HST.out _ 3 (.string ⟨t2.toArray⟩) (by omega) (hS13.more (by omega)) m13 R13;exact ⟨⟨id, s1, kd, t2, tm, [], s7⟩, ⟨by show id.length ≤ _; omega, by show s1.length ≤ _; omega, by show t2.length ≤ _; omega, by simp, by show s7.length ≤ _; omega⟩, by have := HB.out.set 3 (.string ⟨t2.toArray⟩); simpa [itQ] using this, a3, a1, a2⟩
  have k2' : (k == 2) = false := by simpa using k2
  by_cases k3 : k = 3
  ·subst k3
   go_wp2_with fail
   refine (odd_calls _ b _ _ _ hS10 (by omega) (by omega) (by omega) (by omega)).mono ?_;rintro e w11 ⟨z, _, _, rfl, hS11, hM11⟩;have B11 := B10.mod hM11 (by omega);have R11 := R10.mod hM11 (by omega);have m11 := m10.trans hM11;clear B10 R10 m10 hS10 hM11;have HB := Lib.hid B11;have c0 := B11.cell 0; have cf0 := B11.frozen 0; have c1 := B11.cell 1; have cf1 := B11.frozen 1; have c2 := B11.cell 2; have cf2 := B11.frozen 2; have c3 := B11.cell 3; have cf3 := B11.frozen 3; have c4 := B11.cell 4; have cf4 := B11.frozen 4; have c5 := B11.cell 5; have cf5 := B11.frozen 5; have c6 := B11.cell 6; have cf6 := B11.frozen 6; simp at c0 c1 c2 c3 c4 c5 c6;clear B11
   go_wp2_with fail
   go_meet;obtain ⟨a1, a2, a3⟩ := HST.out _ 4 (.int .i64 z) (by omega) (hS11.more (by omega)) m11 R11;exact ⟨⟨id, s1, kd, s3, z, [], s7⟩, ⟨by show id.length ≤ _; omega, by show s1.length ≤ _; omega, by show s3.length ≤ _; omega, by simp, by show s7.length ≤ _; omega⟩, by have := HB.out.set 4 (.int .i64 z); simpa [itQ] using this, a3, a1, a2⟩
  have k3' : (k == 3) = false := by simpa using k3
  by_cases k4 : k = 4
  ·subst k4
   go_wp2_with fail
   refine (someb_calls _ b _ _ _ _ [[65], id, [57]] 100 rfl (le_cons (by decide) (le_cons hid (le_cons (by decide) le_nil))) (hS10.alloc _) (by omega) (Blk.new _ _ _) (by omega) (by simp) (by simp)).mono ?_;rintro e w11 ⟨t1, ht1, rfl, hS11, hM11⟩;have B11 := (B10.alloc _).mod hM11 (by omega);have R11 := (R10.alloc _).mod hM11 (by omega);have m11 := (m10.alloc _).trans hM11;clear B10 R10 m10 hS10 hM11;have HB := Lib.hid B11;have c0 := B11.cell 0; have cf0 := B11.frozen 0; have c1 := B11.cell 1; have cf1 := B11.frozen 1; have c2 := B11.cell 2; have cf2 := B11.frozen 2; have c3 := B11.cell 3; have cf3 := B11.frozen 3; have c4 := B11.cell 4; have cf4 := B11.frozen 4; have c5 := B11.cell 5; have cf5 := B11.frozen 5; have c6 := B11.cell 6; have cf6 := B11.frozen 6; simp at c0 c1 c2 c3 c4 c5 c6;clear B11
   go_wp2_with fail
   go_meet;obtain ⟨a1, a2, a3⟩ := HST.out _ 5 (.string ⟨t1.toArray⟩) (by omega) (hS11.more (by omega)) m11 R11;exact ⟨⟨id, s1, kd, s3, tm, t1, s7⟩, ⟨by show id.length ≤ _; omega, by show s1.length ≤ _; omega, by show s3.length ≤ _; omega, by show t1.length ≤ _; omega, by show s7.length ≤ _; omega⟩, by have := HB.out.set 5 (.string ⟨t1.toArray⟩); simpa [itQ] using this, a3, a1, a2⟩
  have k4' : (k == 4) = false := by simpa using k4
  go_wp2_with fail
  refine (pickv_calls _ b _ w10.heap.size _ _ #[.int .i64 19999, .int .i64 20000] (hS10.alloc _) (Blk.new _ _ _) (by omega) (by omega) rfl (by decide) (by decide) rfl).mono ?_;rintro e w11 ⟨z, hz, rfl, hS11, hM11⟩
  have hz2 : 2 ≤ z ∧ z ≤ 20000 := by
   have : z = 19999 ∨ z = 20000 := by simpa [intsOf, Go.RowKit.intOf] using hz
   omega
  obtain ⟨z, rfl⟩ := Int.eq_ofNat_of_zero_le (by omega : 0 ≤ z);have B11 := (B10.alloc _).mod hM11 (by omega);have R11 := (R10.alloc _).mod hM11 (by omega);have m11 := (m10.alloc _).trans hM11;clear B10 R10 m10 hS10 hM11 hz
  go_wp2_with fail
  refine (repeatA_calls _ z (by omega) (by omega)).mono ?_;rintro e w12 ⟨t1, ht1, rfl, hM12⟩;have B12 := B11.mod hM12 _root_.id;have R12 := R11.mod hM12 _root_.id;have m12 := m11.transp hM12;have hS12 := hS11.pure hM12;have hl12 := hS12.lt
  have ht1' : (t1 ++ [10]).length ≤ 20001 := by simp; omega
  have hap := bytes_app t1 [10]
  have hsz : (⟨t1.toArray⟩ : ByteArray).size ≤ 20000 := by simp [ByteArray.size]; omega
  have HAP : Hid ((⟨t1.toArray⟩ : ByteArray) ++ ⟨#[10]⟩ = ⟨(t1 ++ [10]).toArray⟩) := Lib.hid hap;clear B11 R11 m11 hS11 hM12 ht1 hz2 hap;generalize t1 ++ [10] = t3 at *;generalize (⟨t1.toArray⟩ : ByteArray) = z1 at *
  go_wp2_with fail
  rw [HAP.out];refine (someb_calls _ b _ _ _ _ [[110, 111, 32, 101, 110, 100], [1, 10], [127, 10], [255, 10], t3] 20001 rfl (le_cons (by decide) (le_cons (by decide) (le_cons (by decide) (le_cons (by decide) (le_cons ht1' le_nil))))) (hS12.alloc _) (by omega) (Blk.new _ _ _) (by omega) (by simp) (by simp)).mono ?_;rintro e w13 ⟨t2, ht2, rfl, hS13, hM13⟩;have B13 := (B12.alloc _).mod hM13 (by omega);have R13 := (R12.alloc _).mod hM13 (by omega);have m13 := (m12.alloc _).trans hM13;clear B12 R12 m12 hS12 hM13;have HB := Lib.hid B13;have c0 := B13.cell 0; have cf0 := B13.frozen 0; have c1 := B13.cell 1; have cf1 := B13.frozen 1; have c2 := B13.cell 2; have cf2 := B13.frozen 2; have c3 := B13.cell 3; have cf3 := B13.frozen 3; have c4 := B13.cell 4; have cf4 := B13.frozen 4; have c5 := B13.cell 5; have cf5 := B13.frozen 5; have c6 := B13.cell 6; have cf6 := B13.frozen 6; simp at c0 c1 c2 c3 c4 c5 c6;clear B13
  go_wp2_with fail
  go_meet;obtain ⟨a1, a2, a3⟩ := HST.out _ 6 (.string ⟨t2.toArray⟩) (by omega) (hS13.more (by omega)) m13 R13;exact ⟨⟨id, s1, kd, s3, tm, [], t2⟩, ⟨by show id.length ≤ _; omega, by show s1.length ≤ _; omega, by show s3.length ≤ _; omega, by simp, by show t2.length ≤ _; omega⟩, by have := HB.out.set 6 (.string ⟨t2.toArray⟩); simpa [itQ] using this, a3, a1, a2⟩
 case rest =>
  clear B9 R9 m9 hS9;obtain ⟨⟨y0, y1, y2, y3, y4, y5, y6⟩, hy, B, R, hS, hm⟩ := hcut;unfold itQ at B;unfold itZc at R;simp only at B;have HR := Lib.hid R;have c0 := B.cell 0; have c1 := B.cell 1; have c2 := B.cell 2; have c3 := B.cell 3; have c4 := B.cell 4; have c5 := B.cell 5; have c6 := B.cell 6; simp at c0 c1 c2 c3 c4 c5 c6;have d0 := R.cell 0; have df0 := R.frozen 0; have d1 := R.cell 1; have df1 := R.frozen 1; have d2 := R.cell 2; have df2 := R.frozen 2; have d3 := R.cell 3; have df3 := R.frozen 3; have d4 := R.cell 4; have df4 := R.frozen 4; have d5 := R.cell 5; have df5 := R.frozen 5; have d6 := R.cell 6; have df6 := R.frozen 6; simp at d0 d1 d2 d3 d4 d5 d6;clear B R
  go_wp2_with fail
  have q := HR.out.set7 (x0 := .string ⟨y0.toArray⟩) (x1 := .string ⟨y1.toArray⟩) (x2 := .int .i64 y2) (x3 := .string ⟨y3.toArray⟩) (x4 := .int .i64 y4) (x5 := .string ⟨y5.toArray⟩) (x6 := .string ⟨y6.toArray⟩);have hm7 := Mod.set7 wc gr (.string ⟨y0.toArray⟩) (.string ⟨y1.toArray⟩) (.int .i64 y2) (.string ⟨y3.toArray⟩) (.int .i64 y4) (.string ⟨y5.toArray⟩) (.string ⟨y6.toArray⟩);have r0 := q.cell 0; have r1 := q.cell 1; have r2 := q.cell 2; have r3 := q.cell 3; have r4 := q.cell 4; have r5 := q.cell 5; have r6 := q.cell 6; simp at r0 r1 r2 r3 r4 r5 r6;refine bodyPost_ret (v := itA ⟨y0, y1, y2, y3, y4, y5, y6⟩) (by simp [results, Tryz.results46, go_sem, itA, r0, r1, r2, r3, r4, r5, r6]) rfl ?_;exact ⟨_, hy, rfl, hS.mod hm7 (fun i hi => by omega), hm.trans' hm7 (fun i hi hlt => by omega)⟩
end Go.Proofs.YtelpdjhkedhppaaGreatDoor
/-
 DERIVED: THE SHELF's CONTRACTS AT THIS DUMP, IN PLAIN WORDS (tools/lay-plain.mjs out of 'YtelpdjhkedhppaaGreatDoorLayVal.lean', which tools/lay-shelf.mjs wrote): THE SAME DECLARATIONS UNDER THE SAME NAMES: 'import', 'namespace', 'open', 'def', 'theorem' AND NOTHING ELSE: no command of the shelf's: FOR A HAND-IN. Each laying: the table of numbers ('.._ren') and one theorem, a field a fact of the dump's own or the kernel's comparison; each contract: ONE APPLICATION.
-/
namespace Go.Proofs
open Go.Shelf
def Tryz.lays196_ren : Go.Shelf.Ren := ⟨fun | 196 => 175 | 259 => 225 | n => n, fun | 9 => 9 | 4 => 4 | 3 => 3 | 5 => 5 | 12 => 12 | 119 => 195 | 0 => 0 | 46 => 119 | 139 => 227 | 138 => 226 | 53 => 161 | n => n, fun | 3 => 2 | 4 => 3 | n => n⟩
theorem Tryz.lays196 : Go.Proofs.Lays.n196 Tryz.prog Tryz.lays196_ren := {
 mixed := by kernel_rfl
 f196 := Tryz.func175.trans (congrArg some (by kernel_rfl))
 f259 := Tryz.func225.trans (congrArg some (by kernel_rfl))
 t0 := Tryz.underlying0
 a0 := Tryz.isAgg0
 z0 := Tryz.sizeOf0
 v0 := Tryz.zeroValue0
 t3 := Tryz.underlying3
 a3 := Tryz.isAgg3
 z3 := Tryz.sizeOf3
 v3 := Tryz.zeroValue3
 t4 := Tryz.underlying4
 a4 := Tryz.isAgg4
 z4 := Tryz.sizeOf4
 v4 := Tryz.zeroValue4
 t5 := Tryz.underlying5
 a5 := Tryz.isAgg5
 z5 := Tryz.sizeOf5
 v5 := Tryz.zeroValue5
 t9 := Tryz.underlying9
 a9 := Tryz.isAgg9
 z9 := Tryz.sizeOf9
 v9 := Tryz.zeroValue9
 t12 := Tryz.underlying12
 a12 := Tryz.isAgg12
 z12 := Tryz.sizeOf12
 v12 := Tryz.zeroValue12
 t46 := Tryz.underlying119
 a46 := Tryz.isAgg119
 z46 := Tryz.sizeOf119
 v46 := Tryz.zeroValue119
 t53 := Tryz.underlying161
 a53 := Tryz.isAgg161
 z53 := Tryz.sizeOf161
 v53 := Tryz.zeroValue161
 t119 := Tryz.underlying195
 a119 := Tryz.isAgg195
 z119 := Tryz.sizeOf195
 t138 := Tryz.underlying226
 a138 := Tryz.isAgg226
 z138 := Tryz.sizeOf226
 v138 := Tryz.zeroValue226
 t139 := Tryz.underlying227
 a139 := Tryz.isAgg227
 z139 := Tryz.sizeOf227
 v139 := Tryz.zeroValue227
 g3 := by kernel_rfl
 g4 := by kernel_rfl }
end Go.Proofs
/-
 DERIVED: THE SHELF's CONTRACTS AT THIS DUMP, IN PLAIN WORDS (tools/lay-plain.mjs out of 'YtelpdjhkedhppaaGreatDoorLayCon.lean', which tools/lay-shelf.mjs wrote): THE SAME DECLARATIONS UNDER THE SAME NAMES: 'import', 'namespace', 'open', 'def', 'theorem' AND NOTHING ELSE: no command of the shelf's: FOR A HAND-IN. Each laying: the table of numbers ('.._ren') and one theorem, a field a fact of the dump's own or the kernel's comparison; each contract: ONE APPLICATION.
-/
namespace Go.Proofs
open Go.Shelf
def Tryz.lays144_ren : Go.Shelf.Ren := ⟨fun | 144 => 177 | 143 => 126 | 219 => 179 | 217 => 180 | 225 => 234 | 224 => 235 | 267 => 236 | 266 => 237 | 314 => 267 | n => n, fun | 9 => 9 | 4 => 4 | 3 => 3 | 5 => 5 | 46 => 119 | 146 => 177 | 51 => 176 | n => n, fun | 1 => 0 | n => n⟩
theorem Tryz.lays144 : Go.Proofs.Lays.n144 Tryz.prog Tryz.lays144_ren := {
 mixed := by kernel_rfl
 f143 := Tryz.func126.trans (congrArg some (by kernel_rfl))
 f144 := Tryz.func177.trans (congrArg some (by kernel_rfl))
 f217 := Tryz.func180.trans (congrArg some (by kernel_rfl))
 f219 := Tryz.func179.trans (congrArg some (by kernel_rfl))
 f224 := Tryz.func235.trans (congrArg some (by kernel_rfl))
 f225 := Tryz.func234.trans (congrArg some (by kernel_rfl))
 f266 := Tryz.func237.trans (congrArg some (by kernel_rfl))
 f267 := Tryz.func236.trans (congrArg some (by kernel_rfl))
 f314 := Tryz.func267.trans (congrArg some (by kernel_rfl))
 t3 := Tryz.underlying3
 a3 := Tryz.isAgg3
 z3 := Tryz.sizeOf3
 v3 := Tryz.zeroValue3
 t4 := Tryz.underlying4
 a4 := Tryz.isAgg4
 z4 := Tryz.sizeOf4
 v4 := Tryz.zeroValue4
 t5 := Tryz.underlying5
 a5 := Tryz.isAgg5
 z5 := Tryz.sizeOf5
 v5 := Tryz.zeroValue5
 t9 := Tryz.underlying9
 a9 := Tryz.isAgg9
 z9 := Tryz.sizeOf9
 v9 := Tryz.zeroValue9
 t46 := Tryz.underlying119
 a46 := Tryz.isAgg119
 z46 := Tryz.sizeOf119
 v46 := Tryz.zeroValue119
 t51 := Tryz.underlying176
 a51 := Tryz.isAgg176
 z51 := Tryz.sizeOf176
 v51 := Tryz.zeroValue176
 t146 := Tryz.underlying177
 a146 := Tryz.isAgg177
 z146 := Tryz.sizeOf177
 v146 := Tryz.zeroValue177
 g1 := by kernel_rfl }
def Tryz.lays100_ren : Go.Shelf.Ren := ⟨fun | 100 => 219 | 207 => 191 | n => n, fun | 9 => 9 | 4 => 4 | 3 => 3 | n => n, fun | n => n⟩
theorem Tryz.lays100 : Go.Proofs.Lays.n100 Tryz.prog Tryz.lays100_ren := {
 mixed := by kernel_rfl
 f100 := Tryz.func219.trans (congrArg some (by kernel_rfl))
 f207 := Tryz.func191.trans (congrArg some (by kernel_rfl))
 t3 := Tryz.underlying3
 a3 := Tryz.isAgg3
 z3 := Tryz.sizeOf3
 v3 := Tryz.zeroValue3
 t4 := Tryz.underlying4
 a4 := Tryz.isAgg4
 z4 := Tryz.sizeOf4
 v4 := Tryz.zeroValue4
 t9 := Tryz.underlying9
 a9 := Tryz.isAgg9
 z9 := Tryz.sizeOf9
 v9 := Tryz.zeroValue9 }
def Tryz.layc99_ren : Go.Shelf.Ren := ⟨fun | 99 => 139 | 206 => 181 | n => n, fun | 9 => 9 | 4 => 4 | 3 => 3 | n => n, fun | n => n⟩
theorem Tryz.layc99 : Go.Proofs.Lays.n99 Tryz.prog Tryz.layc99_ren := {
 mixed := by kernel_rfl
 f99 := Tryz.func139.trans (congrArg some (by kernel_rfl))
 f206 := Tryz.func181.trans (congrArg some (by kernel_rfl))
 t3 := Tryz.underlying3
 a3 := Tryz.isAgg3
 z3 := Tryz.sizeOf3
 v3 := Tryz.zeroValue3
 t4 := Tryz.underlying4
 a4 := Tryz.isAgg4
 z4 := Tryz.sizeOf4
 v4 := Tryz.zeroValue4
 t9 := Tryz.underlying9
 a9 := Tryz.isAgg9
 z9 := Tryz.sizeOf9
 v9 := Tryz.zeroValue9 }
end Go.Proofs
/- Strings of items: what the program and the reference say of them. -/
namespace Go.Proofs.YtelpdjhkedhppaaGreatDoor
open Go.RowKit
def Utf (w : World) : Prop := Lib.Utf8Tabs 2 3 w
def Mln (w : World) : Prop := ∃ m : Int, w.cell? ⟨0, 0, none⟩ = some (.int .i64 m)
def Env (w : World) : Prop := Utf w ∧ Mln w
theorem Utf.pure {w w' : World} (h : Utf w) (hm : Pure w w') : Utf w' := Utf8Tabs_below h hm.below
theorem Mln.pure {w w' : World} (h : Mln w) (hm : Pure w w') : Mln w' := by
 obtain ⟨m, h⟩ := h;exact ⟨m, hm.keep h id⟩
theorem Env.pure {w w' : World} (h : Env w) (hm : Pure w w') : Env w' := ⟨h.1.pure hm, h.2.pure hm⟩
theorem Env.alloc {w : World} (h : Env w) (o : Obj) : Env (w.alloc o) := h.pure ((Mod.refl _ _).alloc o)
theorem Pure.same (w : World) : Pure w w := Mod.refl _ _
theorem valid_calls (w : World) (s : ByteArray) (hs : s.size ≤ 1000000) (hU : Utf w) : Calls Tryz.prog 175 #[.string s] w (BoolPost w (Lib.validD s.data.toList)) := by
 refine (Any.utf8_ValidString Tryz.lays196 s w (by omega) hU).mono ?_;rintro e w' ⟨rfl, h⟩;exact ⟨rfl, Mod.of_below h⟩
theorem contains_calls (w : World) (s t : ByteArray) (hs : s.size ≤ 1000000) (hM : Mln w) : Calls Tryz.prog 177 #[.string s, .string t] w (BoolSame w (Lib.contains s.data.toList t.data.toList)) := by
 obtain ⟨m, hm⟩ := hM;refine (Any.strings_Contains Tryz.lays144 s t m w (by omega) hm).mono ?_;rintro e w' ⟨rfl, h⟩;exact ⟨rfl, h.symm⟩
theorem suffix_calls (w : World) (s t : ByteArray) (hs : s.size ≤ 1000000) : Calls Tryz.prog 219 #[.string s, .string t] w (BoolSame w (Lib.hasSuffix s.data.toList t.data.toList)) := by
 refine (Any.strings_HasSuffix Tryz.lays100 s t w (by omega)).mono ?_;rintro e w' ⟨rfl, h⟩;exact ⟨rfl, h.symm⟩
theorem pfx_calls (w : World) (s t : ByteArray) : Calls Tryz.prog 139 #[.string s, .string t] w (BoolSame w (Lib.hasPrefix s.data.toList t.data.toList)) := by
 refine (Any.strings_HasPrefix Tryz.layc99 s t w).mono ?_;rintro e w' ⟨rfl, h⟩;exact ⟨rfl, h.symm⟩
theorem visB_false (f : Bool) (l : Str) (k : Nat) (h : k < l.length) (hk : visC f l[k].toNat = false) : visB f l = false := by
 unfold visB;rw [List.all_eq_false];exact ⟨l[k], List.getElem_mem h, by simp [hk]⟩
set_option maxHeartbeats 2000000 in
theorem visible_calls (w : World) (s : ByteArray) (f : Bool) (hs : s.size ≤ 1000000) (hU : Utf w) : Calls Tryz.prog 218 #[.string s, .bool f] w (BoolPost w (visB f s.data.toList && Lib.validD s.data.toList)) := by
 have hls : s.data.toList.length = s.size := by simp
 have HLS := Lib.hid hls;have HV := Lib.hid (valid_calls w s hs hU);clear hls hU
 go_enter Tryz.func218, Tryz.ntmps218
 go_wp2_with fail
 go_loopg [9] s.size (fun gk i wr => ∃ k : Nat, s.size - k = gk ∧ k ≤ s.size ∧ i = .int .i64 (k : Int) ∧ visB f (s.data.toList.take k) = true ∧ w = wr)
 case atStart => exact ⟨0, by omega, by omega, rfl, rfl, rfl⟩
 case round =>
  obtain ⟨k, rfl, hk, rfl, hall, rfl⟩ := hrel;have HA := Lib.hid hall;clear hall
  by_cases hlt : k < s.size
  ·have hl : k < s.data.toList.length := by rw [HLS.out]; exact hlt
   have hsn := visB_snoc f s.data.toList k hl;have hfa := visB_false f s.data.toList k hl
   have hidx : s.data.toList[k] = s[k] := by simp; rfl
   rw [hidx] at hsn hfa;have NO : Hid (visC f s[k].toNat = false → (visB f s.data.toList && Lib.validD s.data.toList) = false) := Lib.hid (fun h => by rw [hfa h]; rfl);have OK : Hid (visC f s[k].toNat = true → visB f (s.data.toList.take (k + 1)) = true) := Lib.hid (fun h => by rw [hsn, HA.out, h]; rfl);clear hsn hfa hidx HV;generalize (visB f s.data.toList && Lib.validD s.data.toList) = ans at *;generalize hc : s[k].toNat = c at *
   by_cases h1 : (c : Int) < 32
   ·have h3 : ((c : Int) == 127) = false := by simp; omega
    by_cases h2 : c = 10
    ·subst h2
     cases f
     ·go_wp2_with fail
      go_ret;exact BoolPost.of (NO.out (by decide)) (Mod.refl _ _)
     ·go_wp2_with fail
      go_roundg (s.size - (k + 1))
      case measure => omega
      case rel => exact ⟨k + 1, rfl, hlt, by simp, OK.out (by decide), rfl⟩
    ·have h2' : ((c : Int) == 10) = false := by simp; omega
     have hx : visC f c = false := by
      unfold visC;rw [decide_eq_true (by omega : c < 32), show (c == 10) = false by simpa using h2];simp
     cases f
     all_goals
      go_wp2_with fail
      go_ret;exact BoolPost.of (NO.out hx) (Mod.refl _ _)
   ·by_cases h2 : c = 127
    ·subst h2
     have hx : visC f 127 = false := by cases f <;> decide
     go_wp2_with fail
     go_ret;exact BoolPost.of (NO.out hx) (Mod.refl _ _)
    ·have h2' : ((c : Int) == 127) = false := by simp; omega
     have hx : visC f c = true := by
      unfold visC;rw [decide_eq_false (by omega : ¬ c < 32), show (c == 127) = false by simpa using h2];simp
     go_wp2_with fail
     go_roundg (s.size - (k + 1))
     case measure => omega
     case rel => exact ⟨k + 1, rfl, hlt, by simp, OK.out hx, rfl⟩
  ·have hke : k = s.size := by omega
   subst hke
   have hall : visB f s.data.toList = true := by
    have := HA.out
    rwa [List.take_of_length_le (by rw [HLS.out]; omega)] at this
   go_wp2_with fail
   refine HV.out.mono ?_;rintro e w1 ⟨rfl, hm⟩;have HX : Hid ((visB f s.data.toList && Lib.validD s.data.toList) = Lib.validD s.data.toList) := Lib.hid (by rw [hall]; rfl);clear hall HV HA;generalize Lib.validD s.data.toList = v at *
   go_wp2_with fail
   go_ret;exact BoolPost.of HX.out hm
set_option maxHeartbeats 2000000 in
theorem plain_calls (w : World) (s : ByteArray) (hs : s.size ≤ 1000000) (hE : Env w) : Calls Tryz.prog 169 #[.string s] w (BoolPost w (plainB s.data.toList)) := by
 have HV := Lib.hid (visible_calls w s false hs hE.1);have HP := Lib.hid (fun W => pfx_calls W s ⟨#[32]⟩);have HS := Lib.hid (fun W => suffix_calls W s ⟨#[32]⟩ hs);have HC := Lib.hid (fun W (h : Pure w W) => contains_calls W s ⟨#[32, 32]⟩ hs (hE.2.pure h));have HX : Hid (plainB s.data.toList = (((visB false s.data.toList && Lib.validD s.data.toList) && !Lib.hasPrefix s.data.toList [32]) && !Lib.hasSuffix s.data.toList [32] && !Lib.contains s.data.toList [32, 32])) := Lib.hid (by unfold plainB; simp only [Bool.and_assoc]);clear hE
 go_enter Tryz.func169, Tryz.ntmps169
 go_wp2_with fail
 refine HV.out.mono ?_;rintro e w1 ⟨rfl, hm⟩;generalize (visB false s.data.toList && Lib.validD s.data.toList) = v at *
 cases v
 ·go_wp2_with fail
  go_ret;exact BoolPost.of (by rw [HX.out]; rfl) hm
 ·go_wp2_with fail
  refine (HP.out _).mono ?_;rintro e w' ⟨rfl, rfl⟩;generalize Lib.hasPrefix s.data.toList [32] = p at *
  cases p
  ·go_wp2_with fail
   refine (HS.out _).mono ?_;rintro e w' ⟨rfl, rfl⟩;generalize Lib.hasSuffix s.data.toList [32] = q at *
   cases q
   ·go_wp2_with fail
    refine (HC.out _ hm).mono ?_;rintro e w' ⟨rfl, rfl⟩;generalize Lib.contains s.data.toList [32, 32] = r at *
    go_wp2_with fail
    go_ret;exact BoolPost.of (by rw [HX.out]; rfl) hm
   ·go_wp2_with fail
    go_ret;exact BoolPost.of (by rw [HX.out]; rfl) hm
  ·go_wp2_with fail
   go_ret;exact BoolPost.of (by rw [HX.out]; rfl) hm
set_option maxHeartbeats 2000000 in
theorem text_calls (w : World) (l : Str) (hs : l.length ≤ 1000000) (hE : Env w) : Calls Tryz.prog 171 #[.string ⟨l.toArray⟩] w (BoolPost w (textB l)) := by
 have hsz : (⟨l.toArray⟩ : ByteArray).size ≤ 1000000 := by simpa [ByteArray.size] using hs
 have HV := Lib.hid (visible_calls w ⟨l.toArray⟩ true hsz hE.1);have HS := Lib.hid (fun W => suffix_calls W ⟨l.toArray⟩ ⟨#[10]⟩ hsz);have HX : Hid (textB l = ((visB true l && Lib.validD l) && (l.isEmpty || Lib.hasSuffix l [10]))) := Lib.hid (by unfold textB; simp only [Bool.and_assoc]);clear hE hsz
 go_enter Tryz.func171, Tryz.ntmps171
 go_wp2_with fail
 refine HV.out.mono ?_;rintro e w1 ⟨rfl, hm⟩;generalize (visB true l && Lib.validD l) = v at *
 cases v
 ·go_wp2_with fail
  go_ret;exact BoolPost.of (by rw [HX.out]; rfl) hm
 ·cases he : l.isEmpty
  ·go_wp2_with fail
   refine (HS.out _).mono ?_;rintro e w' ⟨rfl, rfl⟩;generalize Lib.hasSuffix l [10] = r at *
   go_wp2_with fail
   go_ret;exact BoolPost.of (by rw [HX.out, he]; rfl) hm
  ·go_wp2_with fail
   go_ret;exact BoolPost.of (by rw [HX.out, he]; rfl) hm
end Go.Proofs.YtelpdjhkedhppaaGreatDoor
/- Strings of items: what the reference says of them. -/
namespace Go.Proofs.YtelpdjhkedhppaaGreatDoor
open Go.RowKit
theorem trim32_calls (w : World) (l : Str) (hs : l.length ≤ 1000000) : Calls Tryz.prog 176 #[.string ⟨l.toArray⟩, .string ⟨#[32]⟩] w (fun e w' => e = .returned (.string ⟨(Lib.trimS l [32]).toArray⟩) ∧ Pure w w') := by
 have hsz : (⟨l.toArray⟩ : ByteArray).size ≤ 1000000 := by simpa [ByteArray.size] using hs
 have hcon := Any.strings_Trim_laid Tryz.lays160 (by kernel_rfl) ⟨l.toArray⟩ ⟨#[32]⟩ w (by omega) (by simp [ByteArray.size]) (ascii_of_all (by decide));refine hcon.mono ?_;rintro e w' ⟨rfl, h⟩;exact ⟨rfl, Mod.of_below h⟩
set_option maxHeartbeats 2000000 in
theorem rplain_calls (w : World) (l : Str) (hs : l.length ≤ 1000000) (hE : Env w) : Calls Tryz.prog 118 #[.string ⟨l.toArray⟩] w (BoolPost w (plainB l)) := by
 have hsz : (⟨l.toArray⟩ : ByteArray).size ≤ 1000000 := by simpa [ByteArray.size] using hs
 have HLS : Hid (l.length = (⟨l.toArray⟩ : ByteArray).size) := Lib.hid (by simp [ByteArray.size]);have HV := Lib.hid (valid_calls w ⟨l.toArray⟩ hsz hE.1);have HT := Lib.hid (fun W => trim32_calls W l hs);have HC := Lib.hid (fun W (h : Pure w W) => contains_calls W ⟨l.toArray⟩ ⟨#[32, 32]⟩ hsz (hE.2.pure h));have HTS := Lib.hid (trim_self l);have HX : Hid (plainB l = (visB false l && (Lib.validD l && (!Lib.hasPrefix l [32] && (!Lib.hasSuffix l [32] && !Lib.contains l [32, 32]))))) := Lib.hid rfl;clear hE hs;generalize hp : plainB l = pl at *;clear hp;obtain ⟨s, hsd⟩ : ∃ s : ByteArray, s = ⟨l.toArray⟩ := ⟨_, rfl⟩;have HSD := Lib.hid hsd;rw [← hsd] at hsz HLS HV HT HC ⊢;have HIX : Hid (∀ k (h : k < l.length) (h2 : k < s.size), l[k] = s[k]) := Lib.hid (fun k h h2 => by subst hsd; rfl);clear hsd
 go_enter Tryz.func118, Tryz.ntmps118
 go_wp2_with fail
 go_loopg [6] s.size (fun gk i wr => ∃ k : Nat, s.size - k = gk ∧ k ≤ s.size ∧ i = .int .i64 (k : Int) ∧ visB false (l.take k) = true ∧ w = wr)
 case atStart => exact ⟨0, by omega, by omega, rfl, rfl, rfl⟩
 case round =>
  obtain ⟨k, rfl, hk, rfl, hall, rfl⟩ := hrel;have HA := Lib.hid hall;clear hall
  by_cases hlt : k < s.size
  ·have hl : k < l.length := by rw [HLS.out]; exact hlt
   have hsn := visB_snoc false l k hl;have hfa := visB_false false l k hl;rw [HIX.out k hl hlt] at hsn hfa;have NO : Hid (visC false s[k].toNat = false → pl = false) := Lib.hid (fun h => by rw [HX.out, hfa h]; rfl);have OK : Hid (visC false s[k].toNat = true → visB false (l.take (k + 1)) = true) := Lib.hid (fun h => by rw [hsn, HA.out, h]; rfl);clear hsn hfa HX HA HV HT HC HTS HIX HSD;generalize hc : s[k].toNat = c at *
   by_cases h1 : (c : Int) < 32
   ·have hx : visC false c = false := by
     unfold visC;rw [decide_eq_true (by omega : c < 32)];simp
    go_wp2_with fail
    go_ret;exact BoolPost.of (NO.out hx) (Mod.refl _ _)
   ·by_cases h2 : c = 127
    ·subst h2
     go_wp2_with fail
     go_ret;exact BoolPost.of (NO.out (by decide)) (Mod.refl _ _)
    ·have h2' : ((c : Int) == 127) = false := by simp; omega
     have hx : visC false c = true := by
      unfold visC;rw [decide_eq_false (by omega : ¬ c < 32), show (c == 127) = false by simpa using h2];simp
     go_wp2_with fail
     go_roundg (s.size - (k + 1))
     case measure => omega
     case rel => exact ⟨k + 1, rfl, hlt, by simp, OK.out hx, rfl⟩
  ·have hke : k = s.size := by omega
   subst hke
   have hall : visB false l = true := by
    have := HA.out
    rwa [List.take_of_length_le (by rw [HLS.out]; omega)] at this
   have HX2 : Hid (pl = (Lib.validD l && (!Lib.hasPrefix l [32] && (!Lib.hasSuffix l [32] && !Lib.contains l [32, 32])))) := Lib.hid (by rw [HX.out, hall]; rfl);have HSL : Hid (s.data.toList = l) := Lib.hid (by rw [HSD.out]);rw [HSL.out] at HV HC;clear hall HX HA HIX HLS
   go_wp2_with fail
   refine HV.out.mono ?_;rintro e w1 ⟨rfl, hm⟩;generalize Lib.validD l = v at *
   cases v
   ·clear HSD HV HT HC HTS
    go_wp2_with fail
    go_ret;exact BoolPost.of (by rw [HX2.out]; rfl) hm
   ·have hs0 := HSD.out;clear HSD HSL;subst hs0
    go_wp2_with fail
    refine (HT.out _).mono ?_;rintro e w2 ⟨rfl, hm2⟩;have m2 := hm.trans hm2;generalize Lib.trimS l [32] = r at *
    cases hq : (r == l)
    ·have hne : ¬ (Lib.hasPrefix l [32] = false ∧ Lib.hasSuffix l [32] = false) := fun h => by
      have := HTS.out.2 h;rw [this] at hq;simp at hq
     have hpl : pl = false := by
      rw [HX2.out]
      cases h1 : Lib.hasPrefix l [32]
      ·cases h2 : Lib.hasSuffix l [32]
       ·exact absurd ⟨h1, h2⟩ hne
       ·simp
      ·simp
     clear HX2 HTS HT HC hm hm2 hne
     go_wp2_with fail
     go_ret;exact BoolPost.of hpl m2
    ·obtain ⟨h1, h2⟩ := HTS.out.1 (eq_of_beq hq);have HP : Hid (pl = !Lib.contains l [32, 32]) := Lib.hid (by rw [HX2.out, h1, h2]; simp);clear HX2 HTS HT hm hm2 h1 h2
     go_wp2_with fail
     refine (HC.out _ m2).mono ?_;rintro e w3 ⟨rfl, rfl⟩;generalize Lib.contains l [32, 32] = cc at *
     go_wp2_with fail
     go_ret;exact BoolPost.of HP.out m2
theorem text_last {l : Str} (h : 0 < l.length) : Lib.hasSuffix l [10] = (l[l.length - 1].toNat == 10) := by
 obtain ⟨a, x, rfl⟩ : ∃ a x, l = a ++ [x] := ⟨l.dropLast, l.getLast (by intro e; simp [e] at h), (List.dropLast_concat_getLast _).symm⟩
 have e : (a ++ [x])[(a ++ [x]).length - 1] = x := by simp
 rw [e];unfold Lib.hasSuffix List.isSuffixOf;simp only [List.reverse_append, List.reverse_cons, List.reverse_nil, List.nil_append, List.cons_append, List.isPrefixOf, Bool.and_true]
 exact Bool.eq_iff_iff.2 ⟨fun h => by have := eq_of_beq h; subst this; rfl, fun h => by
  have h1 : x.toNat = 10 := eq_of_beq h;have h2 : x = 10 := UInt8.toNat_inj.1 (by rw [h1]; rfl);rw [h2]
  rfl⟩
set_option maxHeartbeats 2000000 in
theorem isText_calls (w : World) (l : Str) (hs : l.length ≤ 1000000) (hE : Env w) : Calls Tryz.prog 119 #[.string ⟨l.toArray⟩] w (BoolPost w (textB l)) := by
 have hsz : (⟨l.toArray⟩ : ByteArray).size ≤ 1000000 := by simpa [ByteArray.size] using hs
 have HLS : Hid (l.length = (⟨l.toArray⟩ : ByteArray).size) := Lib.hid (by simp [ByteArray.size]);have HV := Lib.hid (valid_calls w ⟨l.toArray⟩ hsz hE.1);have HTL := Lib.hid (fun h => text_last (l := l) h);have HX : Hid (textB l = (visB true l && (Lib.validD l && (l.isEmpty || Lib.hasSuffix l [10])))) := Lib.hid rfl;clear hE hs;generalize hp : textB l = pl at *;clear hp;obtain ⟨s, hsd⟩ : ∃ s : ByteArray, s = ⟨l.toArray⟩ := ⟨_, rfl⟩;have HSD := Lib.hid hsd;rw [← hsd] at hsz HLS HV ⊢;have HIX : Hid (∀ k (h : k < l.length) (h2 : k < s.size), l[k] = s[k]) := Lib.hid (fun k h h2 => by subst hsd; rfl);clear hsd
 go_enter Tryz.func119, Tryz.ntmps119
 go_wp2_with fail
 go_loopg [6] s.size (fun gk i wr => ∃ k : Nat, s.size - k = gk ∧ k ≤ s.size ∧ i = .int .i64 (k : Int) ∧ visB true (l.take k) = true ∧ w = wr)
 case atStart => exact ⟨0, by omega, by omega, rfl, rfl, rfl⟩
 case round =>
  obtain ⟨k, rfl, hk, rfl, hall, rfl⟩ := hrel;have HA := Lib.hid hall;clear hall
  by_cases hlt : k < s.size
  ·have hl : k < l.length := by rw [HLS.out]; exact hlt
   have hsn := visB_snoc true l k hl;have hfa := visB_false true l k hl;rw [HIX.out k hl hlt] at hsn hfa;have NO : Hid (visC true s[k].toNat = false → pl = false) := Lib.hid (fun h => by rw [HX.out, hfa h]; rfl);have OK : Hid (visC true s[k].toNat = true → visB true (l.take (k + 1)) = true) := Lib.hid (fun h => by rw [hsn, HA.out, h]; rfl);clear hsn hfa HX HA HV HTL HIX HSD;generalize hc : s[k].toNat = c at *
   by_cases h1 : (c : Int) < 32
   ·have h3 : ((c : Int) == 127) = false := by simp; omega
    by_cases h2 : c = 10
    ·subst h2
     go_wp2_with fail
     go_roundg (s.size - (k + 1))
     case measure => omega
     case rel => exact ⟨k + 1, rfl, hlt, by simp, OK.out (by decide), rfl⟩
    ·have h2' : ((c : Int) != 10) = true := by simp; omega
     have hx : visC true c = false := by
      unfold visC;rw [decide_eq_true (by omega : c < 32), show (c == 10) = false by simpa using h2];simp
     go_wp2_with fail
     go_ret;exact BoolPost.of (NO.out hx) (Mod.refl _ _)
   ·by_cases h2 : c = 127
    ·subst h2
     go_wp2_with fail
     go_ret;exact BoolPost.of (NO.out (by decide)) (Mod.refl _ _)
    ·have h2' : ((c : Int) == 127) = false := by simp; omega
     have hx : visC true c = true := by
      unfold visC;rw [decide_eq_false (by omega : ¬ c < 32), show (c == 127) = false by simpa using h2];simp
     go_wp2_with fail
     go_roundg (s.size - (k + 1))
     case measure => omega
     case rel => exact ⟨k + 1, rfl, hlt, by simp, OK.out hx, rfl⟩
  ·have hke : k = s.size := by omega
   subst hke
   have hall : visB true l = true := by
    have := HA.out
    rwa [List.take_of_length_le (by rw [HLS.out]; omega)] at this
   have HX2 : Hid (pl = (Lib.validD l && (l.isEmpty || Lib.hasSuffix l [10]))) := Lib.hid (by rw [HX.out, hall]; rfl);have HSL : Hid (s.data.toList = l) := Lib.hid (by rw [HSD.out]);rw [HSL.out] at HV;clear hall HX HA
   go_wp2_with fail
   refine HV.out.mono ?_;rintro e w1 ⟨rfl, hm⟩;generalize Lib.validD l = v at *
   cases v
   ·clear HSD HV HTL
    go_wp2_with fail
    go_ret;exact BoolPost.of (by rw [HX2.out]; rfl) hm
   ·have hse : s.toList.isEmpty = l.isEmpty := by rw [ByteArray.toList_eq, HSL.out]
    cases he : l.isEmpty
    ·rw [he] at hse
     have hl0 : 0 < l.length := by
      cases l with
      | nil => cases he
      | cons a t => simp
     have hs0 : 0 < s.size := by rw [← HLS.out]; exact hl0
     have htl := HTL.out hl0;have hix := HIX.out (l.length - 1) (by omega) (by rw [← HLS.out]; omega)
     have hidx : s[s.size - 1].toNat = l[l.length - 1].toNat := by
      rw [hix]
      congr 2
      rw [HLS.out]
     have HP : Hid (pl = (s[s.size - 1].toNat == 10)) := Lib.hid (by rw [HX2.out, he, htl, hidx]; simp)
     have i1 : (0 : Int) ≤ (s.size : Int) - 1 := by omega
     have i2 : (s.size : Int) - 1 < (s.size : Int) := by omega
     have hcast : ((s.size : Int) - 1) = ((s.size - 1 : Nat) : Int) := by omega
     clear HX2 HTL HIX htl hix hidx HSD HV HSL he
     go_wp2_with fail
     go_ret;exact BoolPost.of (by rw [HP.out]; exact Bool.eq_iff_iff.2 (by simp; omega)) hm
    ·rw [he] at hse;clear HSD HV HTL
     go_wp2_with fail
     go_ret;exact BoolPost.of (by rw [HX2.out, he]; rfl) hm
end Go.Proofs.YtelpdjhkedhppaaGreatDoor
/- The errors of one item: CheckItem of package intake, ItemFault of the reference. -/
namespace Go.Proofs.YtelpdjhkedhppaaGreatDoor
open Go.RowKit
def ItL (x : Itm) : Prop := x.id.length ≤ 300000 ∧ x.cust.length ≤ 300000 ∧ x.name.length ≤ 300000 ∧ x.par.length ≤ 300000 ∧ x.text.length ≤ 300000
theorem ItB.l {x : Itm} (h : ItB x) : ItL x := by
 obtain ⟨a, b, c, d, e⟩ := h;exact ⟨by omega, by omega, by omega, by omega, by omega⟩
theorem keyB_le {l : Str} (h : keyB l = true) : l.length ≤ 40 := by
 unfold keyB at h;simp only [Bool.and_eq_true, decide_eq_true_eq] at h;exact h.1.1.2
theorem itemE_B {x : Itm} (h : itemE x = 0) : ItB x := by
 unfold itemE at h
 split at h
 ·omega
 rename_i h1
 split at h
 ·omega
 split at h
 ·omega
 rename_i h3
 split at h
 ·omega
 split at h
 ·omega
 split at h
 ·omega
 rename_i h6
 split at h
 ·omega
 split at h
 ·omega
 rename_i h8
 simp only [Bool.not_eq_true', Bool.not_eq_false, Bool.and_eq_true, Bool.not_eq_true, Bool.not_eq_false'] at h1;have k1 := keyB_le h1.1;have k2 := keyB_le h1.2;refine ⟨by omega, by omega, by omega, ?_, by omega⟩
 by_cases hp : x.par = []
 ·rw [hp]; simp
 ·have : keyB x.par = true := by simpa [hp] using h6
  have := keyB_le this
  omega
theorem key_any (W : World) (l : Str) (h : l.length ≤ 1000000) : Calls Tryz.prog 157 #[.string ⟨l.toArray⟩] W (BoolPost W (keyB l)) := by
 refine (key_calls W ⟨l.toArray⟩ (by simpa [ByteArray.size] using h)).mono ?_;rintro e w' ⟨rfl, rfl⟩;exact ⟨rfl, Mod.refl _ _⟩
theorem rkey_any (W : World) (l : Str) (h : l.length ≤ 1000000) : Calls Tryz.prog 117 #[.string ⟨l.toArray⟩] W (BoolPost W (keyB l)) :=
 rkey_calls W ⟨l.toArray⟩ (by simpa [ByteArray.size] using h)
theorem plain_any (W : World) (l : Str) (h : l.length ≤ 1000000) (hE : Env W) : Calls Tryz.prog 169 #[.string ⟨l.toArray⟩] W (BoolPost W (plainB l)) :=
 plain_calls W ⟨l.toArray⟩ (by simpa [ByteArray.size] using h) hE
theorem rplain_any (W : World) (l : Str) (h : l.length ≤ 1000000) (hE : Env W) : Calls Tryz.prog 118 #[.string ⟨l.toArray⟩] W (BoolPost W (plainB l)) := rplain_calls W l h hE
theorem text_any (W : World) (l : Str) (h : l.length ≤ 1000000) (hE : Env W) : Calls Tryz.prog 171 #[.string ⟨l.toArray⟩] W (BoolPost W (textB l)) := text_calls W l h hE
theorem rtext_any (W : World) (l : Str) (h : l.length ≤ 1000000) (hE : Env W) : Calls Tryz.prog 119 #[.string ⟨l.toArray⟩] W (BoolPost W (textB l)) := isText_calls W l h hE
set_option maxHeartbeats 400000 in
theorem moment_calls (n : Int) (w : World) : Calls Tryz.prog 170 #[.int .i64 n] w (BoolSame w (inB n 0 5761439)) := by
 go_enter Tryz.func170, Tryz.ntmps170
 go_wp2_with fail
 refine (in_calls _ _ _ _).mono ?_;rintro e w' ⟨rfl, rfl⟩
 go_wp2_with fail
 go_ret;exact BoolSame.of rfl
theorem rmoment_calls (n : Int) (w : World) : Calls Tryz.prog 81 #[.int .i64 n, .int .i64 0, .int .i64 5761439] w (BoolSame w (inB n 0 5761439)) := rin_calls _ _ _ _
def kwS (n : Int) : Str := if n = 1 then [109, 97, 105, 108] else if n = 2 then [102, 105, 108, 101] else if n = 3 then [98, 111, 120] else if n = 4 then [110, 111, 116, 101] else []
theorem kwS_empty (n : Int) : (kwS n).isEmpty = !inB n 1 4 := by
 unfold kwS inB
 by_cases h1 : n = 1
 ·subst h1; rfl
 by_cases h2 : n = 2
 ·subst h2; rfl
 by_cases h3 : n = 3
 ·subst h3; rfl
 by_cases h4 : n = 4
 ·subst h4; rfl
 rw [if_neg h1, if_neg h2, if_neg h3, if_neg h4, decide_eq_false (by omega)]
 rfl
set_option maxHeartbeats 400000 in
theorem kindWord_calls (n : Int) (w : World) : Calls Tryz.prog 50 #[.int .i64 n] w (fun e w' => e = .returned (.string ⟨(kwS n).toArray⟩) ∧ w = w') := by
 by_cases h1 : n = 1
 ·subst h1
  go_enter Tryz.func50, Tryz.ntmps50
  go_wp2_with fail
  go_ret;exact ⟨rfl, rfl⟩
 by_cases h2 : n = 2
 ·subst h2
  go_enter Tryz.func50, Tryz.ntmps50
  go_wp2_with fail
  go_ret;exact ⟨rfl, rfl⟩
 by_cases h3 : n = 3
 ·subst h3
  go_enter Tryz.func50, Tryz.ntmps50
  go_wp2_with fail
  go_ret;exact ⟨rfl, rfl⟩
 by_cases h4 : n = 4
 ·subst h4
  go_enter Tryz.func50, Tryz.ntmps50
  go_wp2_with fail
  go_ret;exact ⟨rfl, rfl⟩
 have g1 : (n == 1) = false := by simpa using h1
 have g2 : (n == 2) = false := by simpa using h2
 have g3 : (n == 3) = false := by simpa using h3
 have g4 : (n == 4) = false := by simpa using h4
 go_enter Tryz.func50, Tryz.ntmps50
 go_wp2_with fail
 go_ret;exact ⟨by unfold kwS; rw [if_neg h1, if_neg h2, if_neg h3, if_neg h4]; rfl, rfl⟩
set_option maxHeartbeats 8000000 in
theorem checkItemL_calls (w : World) (x : Itm) (hz : ItL x) (hE : Env w) : Calls Tryz.prog 107 #[itA x] w (IntPost w (itemE x)) := by
 obtain ⟨id, cust, kind, name, tm, par, text⟩ := x;obtain ⟨z1, z2, z3, z4, z5⟩ := hz;simp only at z1 z2 z3 z4 z5;have HK1 := Lib.hid (fun W => key_any W id (by omega));have HK2 := Lib.hid (fun W => key_any W cust (by omega));have HK3 := Lib.hid (fun W => key_any W par (by omega));have HPL := Lib.hid (fun W (h : Pure w W) => plain_any W name (by omega) (hE.pure h));have HTX := Lib.hid (fun W (h : Pure w W) => text_any W text (by omega) (hE.pure h))
 have HIE : Hid (itemE ⟨id, cust, kind, name, tm, par, text⟩ = if !(keyB id && keyB cust) then 5 else if !inB kind 1 4 then 4 else if 120 < name.length then 2 else if !plainB name then 3 else if !inB tm 0 5761439 then 1 else
  if !par.isEmpty && !keyB par then 5 else if par = id then 14 else if 20000 < text.length then 2 else if !textB text then 3 else 0) := Lib.hid (by unfold itemE; rw [show decide (par ≠ []) = !par.isEmpty by cases par <;> simp])
 generalize hie : itemE ⟨id, cust, kind, name, tm, par, text⟩ = ie at *;have HKN : Hid (keyB id = true → id.isEmpty = false) := Lib.hid (fun h => by cases id <;> first | rfl | cases h);generalize keyB id = k1 at *;generalize keyB cust = k2 at *;generalize keyB par = k3 at *;generalize plainB name = pl at *;generalize textB text = tx at *;clear hie hE z1 z2 z3 z4 z5;have B0 := Blk.new w 40 (itQ ⟨id, cust, kind, name, tm, par, text⟩);have m0 : Pure w (w.alloc (.cells (itQ ⟨id, cust, kind, name, tm, par, text⟩) 40)) := pure_alloc _ _;unfold itQ at B0 m0;simp only at B0 m0;have HB0 := Lib.hid B0;have Hm0 := Lib.hid m0;clear B0 m0;unfold itA;simp only
 go_enter Tryz.func107, Tryz.ntmps107
 go_wp2_with fail
 refine (HK1.out _).mono ?_;rintro e w1 ⟨rfl, m1⟩;have B1 := HB0.out.mod m1 _root_.id;have m1 := Hm0.out.trans m1;clear HB0 Hm0;generalize w.heap.size = gx at *
 cases k1
 ·clear B1 HK1 HK2 HK3 HPL HTX
  go_wp2_with fail
  go_ret;exact IntPost.of (by rw [HIE.out]; rfl) m1
 have c0 := B1.cell 0; have c1 := B1.cell 1; have c2 := B1.cell 2; have c3 := B1.cell 3; have c4 := B1.cell 4; have c5 := B1.cell 5; have c6 := B1.cell 6; simp at c0 c1 c2 c3 c4 c5 c6
 go_wp2_with fail
 clear c0 c1 c2 c3 c4 c5 c6;refine (HK2.out _).mono ?_;rintro e w2 ⟨rfl, m2⟩;have B2 := B1.mod m2 _root_.id;have m2 := m1.trans m2;clear B1 m1
 cases k2
 ·clear B2 HK1 HK2 HK3 HPL HTX
  go_wp2_with fail
  go_ret;exact IntPost.of (by rw [HIE.out]; rfl) m2
 have c0 := B2.cell 0; have c1 := B2.cell 1; have c2 := B2.cell 2; have c3 := B2.cell 3; have c4 := B2.cell 4; have c5 := B2.cell 5; have c6 := B2.cell 6; simp at c0 c1 c2 c3 c4 c5 c6
 go_wp2_with fail
 refine (kindWord_calls _ _).mono ?_;rintro e w' ⟨rfl, rfl⟩;have hkw := kwS_empty kind
 cases hki : inB kind 1 4
 all_goals
  rw [hki] at hkw;simp only [Bool.not_true, Bool.not_false] at hkw;generalize kwS kind = kw at *
 ·clear B2 HK1 HK2 HK3 HPL HTX
  go_wp2_with fail
  go_ret;exact IntPost.of (by rw [HIE.out]; simp [hki]) m2
 by_cases hn : 120 < name.length
 ·have hn' : (120 : Int) < (name.length : Int) := by omega
  clear B2 HK1 HK2 HK3 HPL HTX
  go_wp2_with fail
  go_ret;exact IntPost.of (by rw [HIE.out]; simp [hki, hn]) m2
 have hn' : ¬ ((120 : Int) < (name.length : Int)) := by omega
 go_wp2_with fail
 clear c0 c1 c2 c3 c4 c5 c6;refine (HPL.out _ m2).mono ?_;rintro e w3 ⟨rfl, m3⟩;have B3 := B2.mod m3 _root_.id;have m3 := m2.trans m3;clear B2 m2
 cases pl
 ·clear B3 HK1 HK2 HK3 HPL HTX
  go_wp2_with fail
  go_ret;exact IntPost.of (by rw [HIE.out]; simp [hki, hn]) m3
 have c0 := B3.cell 0; have c1 := B3.cell 1; have c2 := B3.cell 2; have c3 := B3.cell 3; have c4 := B3.cell 4; have c5 := B3.cell 5; have c6 := B3.cell 6; simp at c0 c1 c2 c3 c4 c5 c6
 go_wp2_with fail
 refine (moment_calls _ _).mono ?_;rintro e w' ⟨rfl, rfl⟩
 cases htm : inB tm 0 5761439
 ·clear B3 HK1 HK2 HK3 HPL HTX
  go_wp2_with fail
  go_ret;exact IntPost.of (by rw [HIE.out]; simp [hki, hn, htm]) m3
 rw [hki, htm] at HIE
 cases hpe : par.isEmpty
 ·rw [hpe] at HIE
  go_wp2_with fail
  clear c0 c1 c2 c3 c4 c5 c6;refine (HK3.out _).mono ?_;rintro e w4 ⟨rfl, m4⟩;have B4 := B3.mod m4 _root_.id;have m4 := m3.trans m4;clear B3 m3
  cases k3
  ·clear B4 HK1 HK2 HK3 HPL HTX
   go_wp2_with fail
   go_ret;exact IntPost.of (by rw [HIE.out]; simp [hn]) m4
  have c0 := B4.cell 0; have c1 := B4.cell 1; have c2 := B4.cell 2; have c3 := B4.cell 3; have c4 := B4.cell 4; have c5 := B4.cell 5; have c6 := B4.cell 6; simp at c0 c1 c2 c3 c4 c5 c6
  cases hpi : (par == id)
  ·have hpi2 : ¬ par = id := by simpa using hpi
   by_cases hl2 : 20000 < text.length
   ·have hl2' : (20000 : Int) < (text.length : Int) := by omega
    clear HK1 HK2 HK3 HPL HTX
    go_wp2_with fail
    go_ret;exact IntPost.of (by rw [HIE.out]; simp [hn, hl2, hpi2]) m4
   ·have hl2' : ¬ ((20000 : Int) < (text.length : Int)) := by omega
    clear HK1 HK2 HK3 HPL
    go_wp2_with fail
    refine (HTX.out _ m4).mono ?_;rintro e w6 ⟨rfl, m6⟩;have m6 := m4.trans m6;clear HTX
    cases tx
    all_goals
     go_wp2_with fail
     go_ret;exact IntPost.of (by rw [HIE.out]; simp [hn, hl2, hpi2]) m6
  ·have hpi2 : par = id := by simpa using hpi
   clear HK1 HK2 HK3 HPL HTX
   go_wp2_with fail
   go_ret;exact IntPost.of (by rw [HIE.out]; simp [hn, hpi2]) m4
 ·rw [hpe] at HIE
  cases hpi : (par == id)
  ·have hpi2 : ¬ par = id := by simpa using hpi
   by_cases hl2 : 20000 < text.length
   ·have hl2' : (20000 : Int) < (text.length : Int) := by omega
    clear HK1 HK2 HK3 HPL HTX
    go_wp2_with fail
    go_ret;exact IntPost.of (by rw [HIE.out]; simp [hn, hl2, hpi2]) m3
   ·have hl2' : ¬ ((20000 : Int) < (text.length : Int)) := by omega
    clear HK1 HK2 HK3 HPL
    go_wp2_with fail
    refine (HTX.out _ m3).mono ?_;rintro e w6 ⟨rfl, m6⟩;have m6 := m3.trans m6;clear HTX
    cases tx
    all_goals
     go_wp2_with fail
     go_ret;exact IntPost.of (by rw [HIE.out]; simp [hn, hl2, hpi2]) m6
  ·have hpi2 : par = id := by simpa using hpi
   have hx : id.isEmpty = false := by have := HKN.out; simpa using this
   rw [← hpi2, hpe] at hx
   cases hx
set_option maxHeartbeats 8000000 in
theorem itemFaultL_calls (w : World) (x : Itm) (hz : ItL x) (hE : Env w) : Calls Tryz.prog 57 #[itA x] w (IntPost w (itemE x)) := by
 obtain ⟨id, cust, kind, name, tm, par, text⟩ := x;obtain ⟨z1, z2, z3, z4, z5⟩ := hz;simp only at z1 z2 z3 z4 z5;have HK1 := Lib.hid (fun W => rkey_any W id (by omega));have HK2 := Lib.hid (fun W => rkey_any W cust (by omega));have HK3 := Lib.hid (fun W => rkey_any W par (by omega));have HPL := Lib.hid (fun W (h : Pure w W) => rplain_any W name (by omega) (hE.pure h));have HTX := Lib.hid (fun W (h : Pure w W) => rtext_any W text (by omega) (hE.pure h))
 have HIE : Hid (itemE ⟨id, cust, kind, name, tm, par, text⟩ = if !(keyB id && keyB cust) then 5 else if !inB kind 1 4 then 4 else if 120 < name.length then 2 else if !plainB name then 3 else if !inB tm 0 5761439 then 1 else
  if !par.isEmpty && !keyB par then 5 else if par = id then 14 else if 20000 < text.length then 2 else if !textB text then 3 else 0) := Lib.hid (by unfold itemE; rw [show decide (par ≠ []) = !par.isEmpty by cases par <;> simp])
 generalize hie : itemE ⟨id, cust, kind, name, tm, par, text⟩ = ie at *;have HKN : Hid (keyB id = true → id.isEmpty = false) := Lib.hid (fun h => by cases id <;> first | rfl | cases h);generalize keyB id = k1 at *;generalize keyB cust = k2 at *;generalize keyB par = k3 at *;generalize plainB name = pl at *;generalize textB text = tx at *;clear hie hE z1 z2 z3 z4 z5;have B0 := Blk.new w 40 (itQ ⟨id, cust, kind, name, tm, par, text⟩);have m0 : Pure w (w.alloc (.cells (itQ ⟨id, cust, kind, name, tm, par, text⟩) 40)) := pure_alloc _ _;unfold itQ at B0 m0;simp only at B0 m0;have HB0 := Lib.hid B0;have Hm0 := Lib.hid m0;clear B0 m0;unfold itA;simp only
 go_enter Tryz.func57, Tryz.ntmps57
 go_wp2_with fail
 refine (HK1.out _).mono ?_;rintro e w1 ⟨rfl, m1⟩;have B1 := HB0.out.mod m1 _root_.id;have m1 := Hm0.out.trans m1;clear HB0 Hm0;generalize w.heap.size = gx at *
 cases k1
 ·clear B1 HK1 HK2 HK3 HPL HTX
  go_wp2_with fail
  go_ret;exact IntPost.of (by rw [HIE.out]; rfl) m1
 have c0 := B1.cell 0; have c1 := B1.cell 1; have c2 := B1.cell 2; have c3 := B1.cell 3; have c4 := B1.cell 4; have c5 := B1.cell 5; have c6 := B1.cell 6; simp at c0 c1 c2 c3 c4 c5 c6
 go_wp2_with fail
 clear c0 c1 c2 c3 c4 c5 c6;refine (HK2.out _).mono ?_;rintro e w2 ⟨rfl, m2⟩;have B2 := B1.mod m2 _root_.id;have m2 := m1.trans m2;clear B1 m1
 cases k2
 ·clear B2 HK1 HK2 HK3 HPL HTX
  go_wp2_with fail
  go_ret;exact IntPost.of (by rw [HIE.out]; rfl) m2
 have c0 := B2.cell 0; have c1 := B2.cell 1; have c2 := B2.cell 2; have c3 := B2.cell 3; have c4 := B2.cell 4; have c5 := B2.cell 5; have c6 := B2.cell 6; simp at c0 c1 c2 c3 c4 c5 c6
 go_wp2_with fail
 refine (rin_calls _ _ _ _).mono ?_;rintro e w' ⟨rfl, rfl⟩
 cases hki : inB kind 1 4
 ·clear B2 HK1 HK2 HK3 HPL HTX
  go_wp2_with fail
  go_ret;exact IntPost.of (by rw [HIE.out]; simp [hki]) m2
 by_cases hn : 120 < name.length
 ·have hn' : (120 : Int) < (name.length : Int) := by omega
  clear B2 HK1 HK2 HK3 HPL HTX
  go_wp2_with fail
  go_ret;exact IntPost.of (by rw [HIE.out]; simp [hki, hn]) m2
 have hn' : ¬ ((120 : Int) < (name.length : Int)) := by omega
 go_wp2_with fail
 clear c0 c1 c2 c3 c4 c5 c6;refine (HPL.out _ m2).mono ?_;rintro e w3 ⟨rfl, m3⟩;have B3 := B2.mod m3 _root_.id;have m3 := m2.trans m3;clear B2 m2
 cases pl
 ·clear B3 HK1 HK2 HK3 HPL HTX
  go_wp2_with fail
  go_ret;exact IntPost.of (by rw [HIE.out]; simp [hki, hn]) m3
 have c0 := B3.cell 0; have c1 := B3.cell 1; have c2 := B3.cell 2; have c3 := B3.cell 3; have c4 := B3.cell 4; have c5 := B3.cell 5; have c6 := B3.cell 6; simp at c0 c1 c2 c3 c4 c5 c6
 go_wp2_with fail
 refine (rmoment_calls _ _).mono ?_;rintro e w' ⟨rfl, rfl⟩
 cases htm : inB tm 0 5761439
 ·clear B3 HK1 HK2 HK3 HPL HTX
  go_wp2_with fail
  go_ret;exact IntPost.of (by rw [HIE.out]; simp [hki, hn, htm]) m3
 rw [hki, htm] at HIE
 cases hpe : par.isEmpty
 ·rw [hpe] at HIE
  go_wp2_with fail
  clear c0 c1 c2 c3 c4 c5 c6;refine (HK3.out _).mono ?_;rintro e w4 ⟨rfl, m4⟩;have B4 := B3.mod m4 _root_.id;have m4 := m3.trans m4;clear B3 m3
  cases k3
  ·clear B4 HK1 HK2 HK3 HPL HTX
   go_wp2_with fail
   go_ret;exact IntPost.of (by rw [HIE.out]; simp [hn]) m4
  have c0 := B4.cell 0; have c1 := B4.cell 1; have c2 := B4.cell 2; have c3 := B4.cell 3; have c4 := B4.cell 4; have c5 := B4.cell 5; have c6 := B4.cell 6; simp at c0 c1 c2 c3 c4 c5 c6
  cases hpi : (par == id)
  ·have hpi2 : ¬ par = id := by simpa using hpi
   by_cases hl2 : 20000 < text.length
   ·have hl2' : (20000 : Int) < (text.length : Int) := by omega
    clear HK1 HK2 HK3 HPL HTX
    go_wp2_with fail
    go_ret;exact IntPost.of (by rw [HIE.out]; simp [hn, hl2, hpi2]) m4
   ·have hl2' : ¬ ((20000 : Int) < (text.length : Int)) := by omega
    clear HK1 HK2 HK3 HPL
    go_wp2_with fail
    refine (HTX.out _ m4).mono ?_;rintro e w6 ⟨rfl, m6⟩;have m6 := m4.trans m6;clear HTX
    cases tx
    all_goals
     go_wp2_with fail
     go_ret;exact IntPost.of (by rw [HIE.out]; simp [hn, hl2, hpi2]) m6
  ·have hpi2 : par = id := by simpa using hpi
   clear HK1 HK2 HK3 HPL HTX
   go_wp2_with fail
   go_ret;exact IntPost.of (by rw [HIE.out]; simp [hn, hpi2]) m4
 ·rw [hpe] at HIE
  cases hpi : (par == id)
  ·have hpi2 : ¬ par = id := by simpa using hpi
   by_cases hl2 : 20000 < text.length
   ·have hl2' : (20000 : Int) < (text.length : Int) := by omega
    clear HK1 HK2 HK3 HPL HTX
    go_wp2_with fail
    go_ret;exact IntPost.of (by rw [HIE.out]; simp [hn, hl2, hpi2]) m3
   ·have hl2' : ¬ ((20000 : Int) < (text.length : Int)) := by omega
    clear HK1 HK2 HK3 HPL
    go_wp2_with fail
    refine (HTX.out _ m3).mono ?_;rintro e w6 ⟨rfl, m6⟩;have m6 := m3.trans m6;clear HTX
    cases tx
    all_goals
     go_wp2_with fail
     go_ret;exact IntPost.of (by rw [HIE.out]; simp [hn, hl2, hpi2]) m6
  ·have hpi2 : par = id := by simpa using hpi
   have hx : id.isEmpty = false := by have := HKN.out; simpa using this
   rw [← hpi2, hpe] at hx
   cases hx
theorem itemFault_calls (w : World) (x : Itm) (hz : ItB x) (hE : Env w) : Calls Tryz.prog 57 #[itA x] w (IntPost w (itemE x)) := itemFaultL_calls w x hz.l hE
end Go.Proofs.YtelpdjhkedhppaaGreatDoor
/- placed, Check of package intake. -/
namespace Go.Proofs.YtelpdjhkedhppaaGreatDoor
open Go.RowKit
theorem when_any2 (b : Bool) (n : Int) (w : World) : Calls Tryz.prog 108 #[.bool b, .int .i64 n] w fun e w' => e = .returned (.int .i64 (if b then n else 0)) ∧ w = w' := by
 cases b
 ·exact (when_f _ _).mono fun e w' h => h
 ·exact (when_t _ _).mono fun e w' h => h
theorem ruleB_fnd (l : List Itm) (x : Itm) : ruleB l x = (decide (x.par ≠ []) && match fnd l x.par with
 | none => false
 | some p => decide (p.kind ≠ 1) && decide (p.kind ≠ 3)) := by
 unfold ruleB fnd
 cases h : plc l x.par with
 | none => rfl
 | some k =>
  obtain ⟨hk, _⟩ := plc_lt _ _ _ h;simp [hk]
set_option maxHeartbeats 4000000 in
theorem placed_calls (w : World) (b : Nat) (l : List Itm) (x : Itm) (i : Nat) (hx : l[i]? = some x) (hM : MapX w b l.length (byF l)) (hz : ∀ x ∈ l, ItB x) (hd : l.Pairwise fun x y => x.id ≠ y.id) (hl : l.length ≤ 100000) (hno : lpB l i = false) :
  Calls Tryz.prog 111 #[.map (some b), itA x] w (IntPost w (depE l i)) := by
 have hblt := hM.lt;have hzx : x.par.length ≤ 30000 := (hz x (List.mem_of_getElem? hx)).2.2.2.1;have HAB := Lib.hid (fun W (h : MapX W b l.length (byF l)) => iabove_calls W b l x i hx h hz hd hl);have HDE : Hid (depE l i = if ruleB l x then 16 else if 4 < (chn l l.length i).length then 2 else 0) := Lib.hid (by unfold depE; rw [hx]);have HRU := Lib.hid (ruleB_fnd l x);have HNO := Lib.hid hno;clear hx hz hd hno;have m0 : Pure w (w.alloc (.cells (itQ x) 40)) := pure_alloc _ _;have M0 := hM.pure m0;have B0 := Blk.new w 40 (itQ x);have hlook := M0.look_ok Tryz.underlying137 zero_item x.par (by omega);unfold byF at hlook;have HM0 := Lib.hid M0;have HB0 := Lib.hid B0;have Hm0 := Lib.hid m0;clear M0 B0 m0 hM
 cases hf : fnd l x.par with
 | none =>
  have hr : ruleB l x = false := by
   rw [HRU.out, hf];simp
  have HR := Lib.hid hr;rw [hf] at hlook;simp only [Option.map_none, Option.getD_none, Option.isSome_none] at hlook;have HM1 := Lib.hid (HM0.out.alloc (.cells itZc 40));have HB1 := Lib.hid (HB0.out.alloc (.cells itZc 40));have Hm1 := Lib.hid (Hm0.out.alloc (.cells itZc 40));unfold itZ at hlook;clear HM0 HB0 Hm0 HRU hf hr;unfold itQ at hlook HM1 HB1 Hm1;unfold itZc at HM1 HB1 Hm1;have hb1 := HB1.out;have c0 := hb1.cell 0; have c1 := hb1.cell 1; have c2 := hb1.cell 2; have c3 := hb1.cell 3; have c4 := hb1.cell 4; have c5 := hb1.cell 5; have c6 := hb1.cell 6; simp at c0 c1 c2 c3 c4 c5 c6;clear hb1;unfold itA at HAB ⊢
  cases he : x.par.isEmpty
  all_goals
   go_enter Tryz.func111, Tryz.ntmps111
   go_wp2_with fail
   refine (HAB.out _ HM1.out).mono ?_;rintro e w2 ⟨n, lp, rfl, hlp, hn0, m2⟩
   obtain rfl : lp = false := by rw [hlp]; exact HNO.out
   have hn := hn0 rfl;have m2 := Hm1.out.trans m2;have hd2 := HDE.out;rw [← hn, HR.out] at hd2;have HD2 := Lib.hid hd2;generalize depE l i = de at *;clear hlp hn hn0 hd2 HDE hlook c0 c1 c2 c3 c4 c5 c6 HM1 HB1 Hm1 HAB
   go_wp2_with fail
   refine (when_any2 _ _ _).mono ?_;rintro e w3 ⟨rfl, rfl⟩
   by_cases h4 : 4 < n
   ·have h4' : (4 : Int) < (n : Int) := by omega
    have hd4 : decide ((4 : Int) < (n : Int)) = true := decide_eq_true h4';rw [hd4]
    go_wp2_with fail
    go_ret;exact IntPost.of (by rw [HD2.out]; simp [h4]) m2
   ·have h4' : ¬ ((4 : Int) < (n : Int)) := by omega
    have hd4 : decide ((4 : Int) < (n : Int)) = false := decide_eq_false h4';rw [hd4]
    go_wp2_with fail
    go_ret;exact IntPost.of (by rw [HD2.out]; simp [h4]) m2
 | some p =>
  have hr : ruleB l x = (!x.par.isEmpty && (decide (p.kind ≠ 1) && decide (p.kind ≠ 3))) := by
   rw [HRU.out, hf];rw [show decide (x.par ≠ []) = !x.par.isEmpty by cases x.par <;> simp]
  have HR := Lib.hid hr;rw [hf] at hlook;simp only [Option.map_some, Option.getD_some, Option.isSome_some] at hlook;have HM1 := Lib.hid (HM0.out.alloc (.cells (itQ p) 40));have HB1 := Lib.hid (HB0.out.alloc (.cells (itQ p) 40));have Hm1 := Lib.hid (Hm0.out.alloc (.cells (itQ p) 40));clear HM0 HB0 Hm0 HRU hf hr;unfold itQ at hlook HM1 HB1 Hm1;unfold itA at hlook;have hb1 := HB1.out;have c0 := hb1.cell 0; have c1 := hb1.cell 1; have c2 := hb1.cell 2; have c3 := hb1.cell 3; have c4 := hb1.cell 4; have c5 := hb1.cell 5; have c6 := hb1.cell 6; simp at c0 c1 c2 c3 c4 c5 c6;clear hb1;unfold itA at HAB ⊢
  cases he : x.par.isEmpty
  ·rw [he] at HR
   by_cases hk1 : p.kind = 1
   ·have hk1' : (p.kind != 1) = false := by simpa using hk1
    have HR2 : Hid (ruleB l x = false) := Lib.hid (by rw [HR.out, hk1]; rfl);clear HR;clear hk1
    go_enter Tryz.func111, Tryz.ntmps111
    go_wp2_with fail
    refine (HAB.out _ HM1.out).mono ?_;rintro e w2 ⟨n, lp, rfl, hlp, hn0, m2⟩
    obtain rfl : lp = false := by rw [hlp]; exact HNO.out
    have hn := hn0 rfl;have m2 := Hm1.out.trans m2;have hd2 := HDE.out;rw [← hn, HR2.out] at hd2;have HD2 := Lib.hid hd2;generalize depE l i = de at *;clear hlp hn hn0 hd2 HDE hlook c0 c1 c2 c3 c4 c5 c6 HM1 HB1 Hm1 HAB
    go_wp2_with fail
    refine (when_any2 _ _ _).mono ?_;rintro e w3 ⟨rfl, rfl⟩
    by_cases h4 : 4 < n
    ·have h4' : (4 : Int) < (n : Int) := by omega
     have hd4 : decide ((4 : Int) < (n : Int)) = true := decide_eq_true h4';rw [hd4]
     go_wp2_with fail
     go_ret;exact IntPost.of (by rw [HD2.out]; simp [h4]) m2
    ·have h4' : ¬ ((4 : Int) < (n : Int)) := by omega
     have hd4 : decide ((4 : Int) < (n : Int)) = false := decide_eq_false h4';rw [hd4]
     go_wp2_with fail
     go_ret;exact IntPost.of (by rw [HD2.out]; simp [h4]) m2
   have hk1' : (p.kind != 1) = true := by simpa using hk1
   by_cases hk3 : p.kind = 3
   ·have hk3' : (p.kind != 3) = false := by simpa using hk3
    have HR2 : Hid (ruleB l x = false) := Lib.hid (by rw [HR.out, hk3]; rfl);clear HR;clear hk1 hk3
    go_enter Tryz.func111, Tryz.ntmps111
    go_wp2_with fail
    refine (HAB.out _ HM1.out).mono ?_;rintro e w2 ⟨n, lp, rfl, hlp, hn0, m2⟩
    obtain rfl : lp = false := by rw [hlp]; exact HNO.out
    have hn := hn0 rfl;have m2 := Hm1.out.trans m2;have hd2 := HDE.out;rw [← hn, HR2.out] at hd2;have HD2 := Lib.hid hd2;generalize depE l i = de at *;clear hlp hn hn0 hd2 HDE hlook c0 c1 c2 c3 c4 c5 c6 HM1 HB1 Hm1 HAB
    go_wp2_with fail
    refine (when_any2 _ _ _).mono ?_;rintro e w3 ⟨rfl, rfl⟩
    by_cases h4 : 4 < n
    ·have h4' : (4 : Int) < (n : Int) := by omega
     have hd4 : decide ((4 : Int) < (n : Int)) = true := decide_eq_true h4';rw [hd4]
     go_wp2_with fail
     go_ret;exact IntPost.of (by rw [HD2.out]; simp [h4]) m2
    ·have h4' : ¬ ((4 : Int) < (n : Int)) := by omega
     have hd4 : decide ((4 : Int) < (n : Int)) = false := decide_eq_false h4';rw [hd4]
     go_wp2_with fail
     go_ret;exact IntPost.of (by rw [HD2.out]; simp [h4]) m2
   have hk3' : (p.kind != 3) = true := by simpa using hk3
   have HR2 : Hid (ruleB l x = true) := Lib.hid (by rw [HR.out]; simp [hk1, hk3]);clear HAB HR hk1 hk3
   go_enter Tryz.func111, Tryz.ntmps111
   go_wp2_with fail
   go_ret;exact IntPost.of (by rw [HDE.out, HR2.out]; rfl) Hm1.out
  ·rw [he] at HR;have HR2 : Hid (ruleB l x = false) := Lib.hid (by rw [HR.out]; rfl)
   by_cases hdm : True
   ·have hk3 := hdm;have hk1 := hdm;clear HR;clear hk1
    go_enter Tryz.func111, Tryz.ntmps111
    go_wp2_with fail
    refine (HAB.out _ HM1.out).mono ?_;rintro e w2 ⟨n, lp, rfl, hlp, hn0, m2⟩
    obtain rfl : lp = false := by rw [hlp]; exact HNO.out
    have hn := hn0 rfl;have m2 := Hm1.out.trans m2;have hd2 := HDE.out;rw [← hn, HR2.out] at hd2;have HD2 := Lib.hid hd2;generalize depE l i = de at *;clear hlp hn hn0 hd2 HDE hlook c0 c1 c2 c3 c4 c5 c6 HM1 HB1 Hm1 HAB
    go_wp2_with fail
    refine (when_any2 _ _ _).mono ?_;rintro e w3 ⟨rfl, rfl⟩
    by_cases h4 : 4 < n
    ·have h4' : (4 : Int) < (n : Int) := by omega
     have hd4 : decide ((4 : Int) < (n : Int)) = true := decide_eq_true h4';rw [hd4]
     go_wp2_with fail
     go_ret;exact IntPost.of (by rw [HD2.out]; simp [h4]) m2
    ·have h4' : ¬ ((4 : Int) < (n : Int)) := by omega
     have hd4 : decide ((4 : Int) < (n : Int)) = false := decide_eq_false h4';rw [hd4]
     go_wp2_with fail
     go_ret;exact IntPost.of (by rw [HD2.out]; simp [h4]) m2
   ·exact absurd trivial hdm
end Go.Proofs.YtelpdjhkedhppaaGreatDoor
/- Check of package intake. -/
namespace Go.Proofs.YtelpdjhkedhppaaGreatDoor
open Go.RowKit
theorem leS_iff {a b : Str} : leS a b = true ↔ a ≤ b := by
 unfold leS;rw [bytesLess_eq];simp only [Bool.or_eq_true, decide_eq_true_eq]
 constructor
 ·rintro (h | h)
  ·exact List.le_of_lt h
  ·rw [eq_of_beq h]; exact List.le_refl _
 ·intro h
  by_cases hlt : a < b
  ·exact .inl hlt
  ·exact .inr (by rw [str_total hlt (List.not_lt.2 h)]; simp)
def pid (xs : List Itm) : Nat → Str
 | 0 => []
 | k + 1 => match xs[k]? with | some x => x.id | none => []
theorem pid_succ {xs : List Itm} {k : Nat} (h : k < xs.length) : pid xs (k + 1) = xs[k].id := by
 simp [pid, h]
theorem firstErr2 {e1 e2 er : Int} (h : firstErr [e1, e2] = er) : er = if e1 ≠ 0 then e1 else e2 := by
 rw [← h];unfold firstErr
 by_cases h1 : e1 = 0
 ·simp only [h1, if_true];unfold firstErr
  by_cases h2 : e2 = 0
  ·simp [h2, firstErr]
  ·simp [h2]
 ·simp [h1]
theorem ids_of_ordE {l : List Itm} (h : ordE itemE [] l = 0) : l.Pairwise fun x y => x.id ≠ y.id := ordE_ne h
theorem any_take_snoc {α : Type} (p : α → Bool) (l : List α) (k : Nat) (h : k < l.length) : (l.take (k + 1)).any p = ((l.take k).any p || p l[k]) := by
 rw [List.take_succ_eq_append_getElem h, List.any_append];simp
theorem any_of_at {α : Type} {p : α → Bool} {l : List α} {k : Nat} (h : k < l.length) (hp : p l[k] = true) : l.any p = true := List.any_eq_true.2 ⟨_, List.getElem_mem h, hp⟩
theorem missB_fnd (l : List Itm) (x : Itm) : missB l x = (!x.par.isEmpty && !(fnd l x.par).isSome) := by
 unfold missB;rw [fnd_isSome, show decide (x.par ≠ []) = !x.par.isEmpty by cases x.par <;> simp]
 cases plc l x.par <;> rfl
def Ck1 (w : World) (xs : List Itm) (gk : Nat) (i : Value) (wr : World) : Prop := ∃ k : Nat, xs.length - k = gk ∧ k ≤ xs.length ∧ i = .int .i64 (k : Int) ∧ ordE itemE (pid xs k) (xs.drop k) = ordE itemE [] xs ∧ Pure w wr
def Ck2 (w : World) (b : Nat) (xs : List Itm) (gk : Nat) (i : Value) (wr : World) : Prop := ∃ k : Nat, xs.length - k = gk ∧ k ≤ xs.length ∧ i = .int .i64 (k : Int) ∧ (xs.take k).any (missB xs) = false ∧ MapX wr b xs.length (byF xs) ∧ Pure w wr
def Ck3 (w : World) (b : Nat) (xs : List Itm) (gk : Nat) (i : Value) (wr : World) : Prop := ∃ k : Nat, xs.length - k = gk ∧ k ≤ xs.length ∧ i = .int .i64 (k : Int) ∧ (∀ j, j < k → lpB xs j = false) ∧ MapX wr b xs.length (byF xs) ∧ Pure w wr
def Ck4 (w : World) (b : Nat) (xs : List Itm) (gk : Nat) (i : Value) (wr : World) : Prop := ∃ k : Nat, xs.length - k = gk ∧ k ≤ xs.length ∧ i = .int .i64 (k : Int) ∧ firstE (depE xs) k (xs.length - k) = firstE (depE xs) 0 xs.length ∧ MapX wr b xs.length (byF xs) ∧ Pure w wr
set_option maxHeartbeats 8000000 in
theorem checkL_calls (w : World) (v : Value) (xs : List Itm) (hv : Its w v xs) (hz : ∀ x ∈ xs, ItL x) (hl : xs.length ≤ 2000) (hE : Env w) : Calls Tryz.prog 48 #[v] w (IntPost w (itsE itemE xs)) := by
 obtain ⟨A, n, c, rfl, hc1, hc2, hl2, hr⟩ := hv
 have hln : xs.length = n := by rw [itV_len] at hl2; omega
 subst hln;have HBY := Lib.hid (fun W (h : Pure w W) (hb : ∀ x ∈ xs, ItB x) hd => byId_calls W (.slice A xs.length c) xs (Its.pure ⟨A, xs.length, c, rfl, hc1, hc2, hl2, hr⟩ h) hb hd (by omega));have HR := Lib.hid hr;have HZ := Lib.hid hz;have HE := Lib.hid hE;have HIE : Hid (itsE itemE xs = if ordE itemE [] xs ≠ 0 then ordE itemE [] xs else if xs.any (missB xs) then 8 else treeE xs) := Lib.hid (by unfold itsE; rw [if_neg (by omega)])
 have n1 : ¬ ((2000 : Int) < (xs.length : Int)) := by omega
 have m0 : Pure w w := Mod.refl _ _;clear hl2 hr hz hE
 go_enter Tryz.func48, Tryz.ntmps48
 go_wp2_with fail
 go_loopg [23] xs.length (fun gk i wr => Ck1 w xs gk i wr)
 case atStart => exact ⟨0, by omega, by omega, rfl, rfl, m0⟩
 case round =>
  clear m0;obtain ⟨k, rfl, hk, rfl, hord, hm⟩ := hrel
  by_cases hlt : k < xs.length
  ·obtain ⟨g, off, rfl, hrow⟩ := HR.out (by omega);have hrow1 := hrow.mod hm id;obtain ⟨q0, q1, q2, q3, q4, q5, q6⟩ := item_cells hrow1 hlt;have HST := Lib.hid (ordE_step (E := itemE) hlt (pid xs k));rw [hord] at HST;have HPI := Lib.hid (pid_succ hlt);have hzx := HZ.out _ (List.getElem_mem hlt);have HCI := Lib.hid (fun W (h : Pure w W) => checkItemL_calls W xs[k] hzx (HE.out.pure h));have HKN : Hid (itemE xs[k] = 0 → xs[k].id ≠ []) := Lib.hid (fun h e => by have := itemE_id h; rw [e] at this; cases this);have HXK : Hid (∃ x, x = xs[k]) := Lib.hid ⟨_, rfl⟩;clear hord;have HB0 := Lib.hid (Blk.new wr 40 (itQ xs[k]));have Hm0 := Lib.hid (pure_alloc wr (.cells (itQ xs[k]) 40))
   by_cases h0 : k = 0
   ·subst h0
    have HST0 : Hid (ordE itemE [] xs = if itemE xs[0] ≠ 0 then itemE xs[0] else ordE itemE xs[0].id (xs.drop (0 + 1))) := Lib.hid (by
     rw [HST.out]
     show (if itemE xs[0] ≠ 0 then itemE xs[0] else if xs[0].id ≤ [] then 7 else ordE itemE xs[0].id (xs.drop (0 + 1))) = _
     by_cases he : itemE xs[0] = 0
     ·have h3 : ¬ xs[0].id ≤ [] := by
       intro h;have h1 := HKN.out he
       cases hh : xs[0].id with
       | nil => exact h1 hh
       | cons a t =>
        rw [hh] at h;exact absurd (List.nil_lt_cons a t) (List.not_lt.2 h)
      rw [if_neg h3]
     ·rw [if_pos he, if_pos he])
    obtain ⟨e1, he1⟩ : ∃ e1, itemE xs[0] = e1 := ⟨_, rfl⟩;obtain ⟨er, her⟩ : ∃ er, firstErr [e1, 0] = er := ⟨_, rfl⟩;rw [he1] at HCI HST0;have HER := Lib.hid her;have HFE := Lib.hid (fun (W : World) (g c : Nat) (h : Blk W g 29 #[.int .i64 e1, .int .i64 0]) => firstE_calls W g c [e1, 0] h.row0 (by simp));rw [her] at HFE;have HWF := Lib.hid (fun W => when_f 7 W);clear hrow hrow1 HST HKN he1 her HXK;simp only [Nat.zero_mul, Nat.add_zero] at q0 q1 q2 q3 q4 q5 q6;generalize xs[0] = x at *;unfold itQ at HB0 Hm0;unfold itA at HCI
    go_wp2_with fail
    go_upto_region 6 with (fail)
    generalize (wr.alloc (.cells #[.string ⟨x.id.toArray⟩, .string ⟨x.cust.toArray⟩, .int .i64 x.kind, .string ⟨x.name.toArray⟩, .int .i64 x.tm, .string ⟨x.par.toArray⟩, .string ⟨x.text.toArray⟩] 40)) = WS at *;have hgsz := hm.size;generalize hgs : wr.heap.size = gs at *;have hgs1 := Nat.le_of_eq hgs;clear hgs q0 q1 q2 q3 q4 q5 q6
    go_cut [5] (fun p wx => p = .int .i64 er ∧ Pure wr wx)
    case first =>
     have HGs := Lib.hid (show ∀ (D : Nat → Bool) (zzi : Nat) (zq zq' : World), (fun _ zq => (fun Z => Blk Z gs 40 #[.string ⟨x.id.toArray⟩, .string ⟨x.cust.toArray⟩, .int .i64 x.kind, .string ⟨x.name.toArray⟩, .int .i64 x.tm, .string ⟨x.par.toArray⟩, .string ⟨x.text.toArray⟩]) zq) D zq → Mod (fun _ => False) zq zq' → (fun _ zq => (fun Z => Blk Z gs 40 #[.string ⟨x.id.toArray⟩, .string ⟨x.cust.toArray⟩, .int .i64 x.kind, .string ⟨x.name.toArray⟩, .int .i64 x.tm, .string ⟨x.par.toArray⟩, .string ⟨x.text.toArray⟩]) zq) (upd D zzi true) zq' from by intro D zzi zq zq' h hm; (exact h.modp hm))
     refine wp_region_inv (by kernel_rfl) (by kernel_rfl) (InvF (R := Mod (fun _ => False)) [.is (.agg #[.string ⟨x.id.toArray⟩, .string ⟨x.cust.toArray⟩, .int .i64 x.kind, .string ⟨x.name.toArray⟩, .int .i64 x.tm, .string ⟨x.par.toArray⟩, .string ⟨x.text.toArray⟩]),
       .is (.int .i64 e1),
       .is (.int .i64 0),
       .is (.bool false),
       .is (.bool false),
       .is (undef),
       .is (undef),
       .is (undef),
       .is (undef),
       .is (undef),
       .is (undef),
       .is (undef),
       .is (undef),
       .is (undef),
       .is (undef),
       .is (.bool false),
       .is (.int .i64 0),
       ⟨fun zv zw => ∃ (g_17 : Nat), zv = .slice (some ⟨g_17, 0, none⟩) 2 2 ∧ WS.heap.size ≤ g_17 ∧ Blk zw g_17 29 #[.int .i64 e1, .int .i64 0], (by rintro zv zw zx ⟨g_17, rfl, c0, q0⟩ hm; exact ⟨g_17, rfl, c0, (q0.modp hm)⟩), none, some 18⟩,
       .is (.int .i64 er),
       .is (.int .i64 er)]
       (PB wr (fun _ => False) WS.heap.size (fun _ zq => (fun Z => Blk Z gs 40 #[.string ⟨x.id.toArray⟩, .string ⟨x.cust.toArray⟩, .int .i64 x.kind, .string ⟨x.name.toArray⟩, .int .i64 x.tm, .string ⟨x.par.toArray⟩, .string ⟨x.text.toArray⟩]) zq))) (InvF.start (PB.start Hm0.out (Nat.le_refl _) (HB0.out.drew))) ?_ ?_
     ·refine .cons ?_ (.cons ?_ (.cons ?_ (.cons ?_ (.cons ?_ (.cons ?_ (.cons ?_ (.cons ?_ (.cons ?_ (.cons ?_ (.cons ?_ (.cons ?_ (.cons ?_ (.cons ?_ (.cons ?_ (.cons ?_ (.cons ?_ (.cons ?_ (.cons ?_ (.cons ?_ .nil)))))))))))))))))))
      ·intro D V zw1 a hR hI K hK;obtain ⟨hM1, hB1, hG1⟩ := hI.1;have ze4 := hR.frame.other (t := 4) (by kernel_rfl) rfl;have zx0 := hG1.cell 0; have zx1 := hG1.cell 1; have zx2 := hG1.cell 2; have zx3 := hG1.cell 3; have zx4 := hG1.cell 4; have zx5 := hG1.cell 5; have zx6 := hG1.cell 6;simp at zx0 zx1 zx2 zx3 zx4 zx5 zx6;rw [if_pos (by rfl)];go_simp;exact hK (.agg #[.string ⟨x.id.toArray⟩, .string ⟨x.cust.toArray⟩, .int .i64 x.kind, .string ⟨x.name.toArray⟩, .int .i64 x.tm, .string ⟨x.par.toArray⟩, .string ⟨x.text.toArray⟩]) _ (hI.next hR (by kernel_rfl) (Mod.refl _ _) (PB.quiet hI.1 (Mod.refl _ _) (HGs.out D 0 zw1 zw1 (hI.1).g (Mod.refl _ _))) (upd_same V 0 _))
      ·intro D V zw1 a hR hI K hK;obtain ⟨hM1, hB1, hG1⟩ := hI.1;have zd0 := hR.pred 0 (by kernel_rfl);have zf0 : V 0 = .agg #[.string ⟨x.id.toArray⟩, .string ⟨x.cust.toArray⟩, .int .i64 x.kind, .string ⟨x.name.toArray⟩, .int .i64 x.tm, .string ⟨x.par.toArray⟩, .string ⟨x.text.toArray⟩] := hI.2 0 zd0 rfl;have ze28 := hR.frame.done (t := 28) (j := 0) (by kernel_rfl) hR.ok zd0;rw [if_pos (by rfl)];go_simp;refine (HCI.out _ (hm.trans hM1)).mono ?_;rintro e zw2 ⟨rfl, hm2⟩;exact hK (.int .i64 e1) _ (hI.next hR (by kernel_rfl) hm2 (PB.quiet hI.1 hm2 (HGs.out D 1 _ _ (hI.1).g hm2)) (upd_same V 1 _))
      ·intro D V zw1 a hR hI K hK;obtain ⟨hM1, hB1, hG1⟩ := hI.1;have ze3 := hR.frame.other (t := 3) (by kernel_rfl) rfl;rw [if_pos (by rfl)];go_simp;exact hK (.int .i64 0) _ (hI.next hR (by kernel_rfl) (Mod.refl _ _) (PB.quiet hI.1 (Mod.refl _ _) (HGs.out D 2 zw1 zw1 (hI.1).g (Mod.refl _ _))) (upd_same V 2 _))
      ·intro D V zw1 a hR hI K hK;obtain ⟨hM1, hB1, hG1⟩ := hI.1;have zd2 := hR.pred 2 (by kernel_rfl);have zf2 : V 2 = .int .i64 0 := hI.2 2 zd2 rfl;have ze30 := hR.frame.done (t := 30) (j := 2) (by kernel_rfl) hR.ok zd2;rw [if_pos (by rfl)];go_simp;exact hK (.bool false) _ (hI.next hR (by kernel_rfl) (Mod.refl _ _) (PB.quiet hI.1 (Mod.refl _ _) (HGs.out D 3 zw1 zw1 (hI.1).g (Mod.refl _ _))) (upd_same V 3 _))
      ·intro D V zw1 a hR hI K hK;obtain ⟨hM1, hB1, hG1⟩ := hI.1;have zd3 := hR.pred 3 (by kernel_rfl);have zf3 : V 3 = .bool false := hI.2 3 zd3 rfl;have ze31 := hR.frame.done (t := 31) (j := 3) (by kernel_rfl) hR.ok zd3;rw [if_pos (by rfl)];go_simp;exact hK (.bool false) _ (hI.next hR (by kernel_rfl) (Mod.refl _ _) (PB.quiet hI.1 (Mod.refl _ _) (HGs.out D 4 zw1 zw1 (hI.1).g (Mod.refl _ _))) (upd_same V 4 _))
      ·intro D V zw1 a hR hI K hK;obtain ⟨hM1, hB1, hG1⟩ := hI.1;have zd4 := hR.pred 4 (by kernel_rfl);have zf4 : V 4 = .bool false := hI.2 4 zd4 rfl;have ze32 := hR.frame.done (t := 32) (j := 4) (by kernel_rfl) hR.ok zd4;rw [if_neg (by simp [Region.wanted, yielded, ze32, zf4])];exact hK undef _ (hI.next hR (by kernel_rfl) (Mod.refl _ _) (PB.quiet hI.1 (Mod.refl _ _) (HGs.out D 5 zw1 zw1 (hI.1).g (Mod.refl _ _))) (upd_same V 5 _))
      ·intro D V zw1 a hR hI K hK;obtain ⟨hM1, hB1, hG1⟩ := hI.1;have zd4 := hR.pred 4 (by kernel_rfl);have zf4 : V 4 = .bool false := hI.2 4 zd4 rfl;have ze32 := hR.frame.done (t := 32) (j := 4) (by kernel_rfl) hR.ok zd4;rw [if_neg (by simp [Region.wanted, yielded, ze32, zf4])];exact hK undef _ (hI.next hR (by kernel_rfl) (Mod.refl _ _) (PB.quiet hI.1 (Mod.refl _ _) (HGs.out D 6 zw1 zw1 (hI.1).g (Mod.refl _ _))) (upd_same V 6 _))
      ·intro D V zw1 a hR hI K hK;obtain ⟨hM1, hB1, hG1⟩ := hI.1;have zd4 := hR.pred 4 (by kernel_rfl);have zf4 : V 4 = .bool false := hI.2 4 zd4 rfl;have ze32 := hR.frame.done (t := 32) (j := 4) (by kernel_rfl) hR.ok zd4;rw [if_neg (by simp [Region.wanted, yielded, ze32, zf4])];exact hK undef _ (hI.next hR (by kernel_rfl) (Mod.refl _ _) (PB.quiet hI.1 (Mod.refl _ _) (HGs.out D 7 zw1 zw1 (hI.1).g (Mod.refl _ _))) (upd_same V 7 _))
      ·intro D V zw1 a hR hI K hK;obtain ⟨hM1, hB1, hG1⟩ := hI.1;have zd4 := hR.pred 4 (by kernel_rfl);have zf4 : V 4 = .bool false := hI.2 4 zd4 rfl;have ze32 := hR.frame.done (t := 32) (j := 4) (by kernel_rfl) hR.ok zd4;rw [if_neg (by simp [Region.wanted, yielded, ze32, zf4])];exact hK undef _ (hI.next hR (by kernel_rfl) (Mod.refl _ _) (PB.quiet hI.1 (Mod.refl _ _) (HGs.out D 8 zw1 zw1 (hI.1).g (Mod.refl _ _))) (upd_same V 8 _))
      ·intro D V zw1 a hR hI K hK;obtain ⟨hM1, hB1, hG1⟩ := hI.1;have zd4 := hR.pred 4 (by kernel_rfl);have zf4 : V 4 = .bool false := hI.2 4 zd4 rfl;have ze32 := hR.frame.done (t := 32) (j := 4) (by kernel_rfl) hR.ok zd4;rw [if_neg (by simp [Region.wanted, yielded, ze32, zf4])];exact hK undef _ (hI.next hR (by kernel_rfl) (Mod.refl _ _) (PB.quiet hI.1 (Mod.refl _ _) (HGs.out D 9 zw1 zw1 (hI.1).g (Mod.refl _ _))) (upd_same V 9 _))
      ·intro D V zw1 a hR hI K hK;obtain ⟨hM1, hB1, hG1⟩ := hI.1;have zd4 := hR.pred 4 (by kernel_rfl);have zf4 : V 4 = .bool false := hI.2 4 zd4 rfl;have ze32 := hR.frame.done (t := 32) (j := 4) (by kernel_rfl) hR.ok zd4;rw [if_neg (by simp [Region.wanted, yielded, ze32, zf4])];exact hK undef _ (hI.next hR (by kernel_rfl) (Mod.refl _ _) (PB.quiet hI.1 (Mod.refl _ _) (HGs.out D 10 zw1 zw1 (hI.1).g (Mod.refl _ _))) (upd_same V 10 _))
      ·intro D V zw1 a hR hI K hK;obtain ⟨hM1, hB1, hG1⟩ := hI.1;have zd4 := hR.pred 4 (by kernel_rfl);have zf4 : V 4 = .bool false := hI.2 4 zd4 rfl;have ze32 := hR.frame.done (t := 32) (j := 4) (by kernel_rfl) hR.ok zd4;rw [if_neg (by simp [Region.wanted, yielded, ze32, zf4])];exact hK undef _ (hI.next hR (by kernel_rfl) (Mod.refl _ _) (PB.quiet hI.1 (Mod.refl _ _) (HGs.out D 11 zw1 zw1 (hI.1).g (Mod.refl _ _))) (upd_same V 11 _))
      ·intro D V zw1 a hR hI K hK;obtain ⟨hM1, hB1, hG1⟩ := hI.1;have zd4 := hR.pred 4 (by kernel_rfl);have zf4 : V 4 = .bool false := hI.2 4 zd4 rfl;have ze32 := hR.frame.done (t := 32) (j := 4) (by kernel_rfl) hR.ok zd4;rw [if_neg (by simp [Region.wanted, yielded, ze32, zf4])];exact hK undef _ (hI.next hR (by kernel_rfl) (Mod.refl _ _) (PB.quiet hI.1 (Mod.refl _ _) (HGs.out D 12 zw1 zw1 (hI.1).g (Mod.refl _ _))) (upd_same V 12 _))
      ·intro D V zw1 a hR hI K hK;obtain ⟨hM1, hB1, hG1⟩ := hI.1;have zd4 := hR.pred 4 (by kernel_rfl);have zf4 : V 4 = .bool false := hI.2 4 zd4 rfl;have ze32 := hR.frame.done (t := 32) (j := 4) (by kernel_rfl) hR.ok zd4;rw [if_neg (by simp [Region.wanted, yielded, ze32, zf4])];exact hK undef _ (hI.next hR (by kernel_rfl) (Mod.refl _ _) (PB.quiet hI.1 (Mod.refl _ _) (HGs.out D 13 zw1 zw1 (hI.1).g (Mod.refl _ _))) (upd_same V 13 _))
      ·intro D V zw1 a hR hI K hK;obtain ⟨hM1, hB1, hG1⟩ := hI.1;have zd4 := hR.pred 4 (by kernel_rfl);have zf4 : V 4 = .bool false := hI.2 4 zd4 rfl;have ze32 := hR.frame.done (t := 32) (j := 4) (by kernel_rfl) hR.ok zd4;rw [if_neg (by simp [Region.wanted, yielded, ze32, zf4])];exact hK undef _ (hI.next hR (by kernel_rfl) (Mod.refl _ _) (PB.quiet hI.1 (Mod.refl _ _) (HGs.out D 14 zw1 zw1 (hI.1).g (Mod.refl _ _))) (upd_same V 14 _))
      ·intro D V zw1 a hR hI K hK;obtain ⟨hM1, hB1, hG1⟩ := hI.1;have zd4 := hR.pred 4 (by kernel_rfl);have zf4 : V 4 = .bool false := hI.2 4 zd4 rfl;have zd14 := hR.pred 14 (by kernel_rfl);have zf14 : V 14 = undef := hI.2 14 zd14 rfl;have ze32 := hR.frame.done (t := 32) (j := 4) (by kernel_rfl) hR.ok zd4;have ze42 := hR.frame.done (t := 42) (j := 14) (by kernel_rfl) hR.ok zd14;rw [if_pos (by rfl)];go_simp;exact hK (.bool false) _ (hI.next hR (by kernel_rfl) (Mod.refl _ _) (PB.quiet hI.1 (Mod.refl _ _) (HGs.out D 15 zw1 zw1 (hI.1).g (Mod.refl _ _))) (upd_same V 15 _))
      ·intro D V zw1 a hR hI K hK;obtain ⟨hM1, hB1, hG1⟩ := hI.1;have zd15 := hR.pred 15 (by kernel_rfl);have zf15 : V 15 = .bool false := hI.2 15 zd15 rfl;have ze43 := hR.frame.done (t := 43) (j := 15) (by kernel_rfl) hR.ok zd15;rw [if_pos (by rfl)];go_simp;refine (HWF.out _).mono ?_;rintro e zw2 ⟨rfl, rfl⟩;have hm2 : Pure zw1 zw1 := Mod.refl _ _;exact hK (.int .i64 0) _ (hI.next hR (by kernel_rfl) hm2 (PB.quiet hI.1 hm2 (HGs.out D 16 _ _ (hI.1).g hm2)) (upd_same V 16 _))
      ·intro D V zw1 a hR hI K hK;obtain ⟨hM1, hB1, hG1⟩ := hI.1;have zd1 := hR.pred 1 (by kernel_rfl);have zf1 : V 1 = .int .i64 e1 := hI.2 1 zd1 rfl;have zd16 := hR.pred 16 (by kernel_rfl);have zf16 : V 16 = .int .i64 0 := hI.2 16 zd16 rfl;have ze29 := hR.frame.done (t := 29) (j := 1) (by kernel_rfl) hR.ok zd1;have ze44 := hR.frame.done (t := 44) (j := 16) (by kernel_rfl) hR.ok zd16;rw [if_pos (by rfl)];go_simp;exact hK (_) _ (hI.next hR (by kernel_rfl) ((Mod.refl _ _).alloc _) (PB.quiet hI.1 (pure_alloc _ _) (HGs.out D 17 _ _ (hI.1).g ((Mod.refl _ _).alloc _))) (⟨_, upd_same V 17 _, (by omega), (Blk.new _ _ _)⟩))
      ·intro D V zw1 a hR hI K hK;obtain ⟨hM1, hB1, hG1⟩ := hI.1;have zd17 := hR.pred 17 (by kernel_rfl);have zF17 : ∃ (g_17 : Nat), V 17 = .slice (some ⟨g_17, 0, none⟩) 2 2 ∧ WS.heap.size ≤ g_17 ∧ Blk zw1 g_17 29 #[.int .i64 e1, .int .i64 0] := hI.2 17 zd17 (by show (!D 18) = true; rw [hR.not]; rfl);obtain ⟨g_17, zf17, c17_0, b17_0⟩ := zF17;have ze45 := hR.frame.done (t := 45) (j := 17) (by kernel_rfl) hR.ok zd17;rw [if_pos (by rfl)];go_simp;refine (HFE.out _ _ _ b17_0).mono ?_;rintro e zw2 ⟨rfl, hm2⟩;exact hK (.int .i64 er) _ (hI.next hR (by kernel_rfl) hm2 (PB.quiet hI.1 hm2 (HGs.out D 18 _ _ (hI.1).g hm2)) (upd_same V 18 _))
      ·intro D V zw1 a hR hI K hK;obtain ⟨hM1, hB1, hG1⟩ := hI.1;have zd18 := hR.pred 18 (by kernel_rfl);have zf18 : V 18 = .int .i64 er := hI.2 18 zd18 rfl;have ze46 := hR.frame.done (t := 46) (j := 18) (by kernel_rfl) hR.ok zd18;rw [if_pos (by rfl)];go_simp;exact hK (.int .i64 er) _ (hI.next hR (by kernel_rfl) (Mod.refl _ _) (PB.quiet hI.1 (Mod.refl _ _) (HGs.out D 19 zw1 zw1 (hI.1).g (Mod.refl _ _))) (upd_same V 19 _))
     ·intro D V w1 hD hI;obtain ⟨hM1, hB1, hG1⟩ := hI.1;have hMx := hM1;clear hM1;have hBx := hB1;clear hB1;have hGx := hG1;clear hG1;have zf0 : V 0 = .agg #[.string ⟨x.id.toArray⟩, .string ⟨x.cust.toArray⟩, .int .i64 x.kind, .string ⟨x.name.toArray⟩, .int .i64 x.tm, .string ⟨x.par.toArray⟩, .string ⟨x.text.toArray⟩] := hI.2 0 (hD 0 (by decide)) rfl;have zf1 : V 1 = .int .i64 e1 := hI.2 1 (hD 1 (by decide)) rfl;have zf2 : V 2 = .int .i64 0 := hI.2 2 (hD 2 (by decide)) rfl;have zf3 : V 3 = .bool false := hI.2 3 (hD 3 (by decide)) rfl;have zf4 : V 4 = .bool false := hI.2 4 (hD 4 (by decide)) rfl;have zf5 : V 5 = undef := hI.2 5 (hD 5 (by decide)) rfl;have zf6 : V 6 = undef := hI.2 6 (hD 6 (by decide)) rfl;have zf7 : V 7 = undef := hI.2 7 (hD 7 (by decide)) rfl;have zf8 : V 8 = undef := hI.2 8 (hD 8 (by decide)) rfl;have zf9 : V 9 = undef := hI.2 9 (hD 9 (by decide)) rfl;have zf10 : V 10 = undef := hI.2 10 (hD 10 (by decide)) rfl;have zf11 : V 11 = undef := hI.2 11 (hD 11 (by decide)) rfl;have zf12 : V 12 = undef := hI.2 12 (hD 12 (by decide)) rfl;have zf13 : V 13 = undef := hI.2 13 (hD 13 (by decide)) rfl;have zf14 : V 14 = undef := hI.2 14 (hD 14 (by decide)) rfl;have zf15 : V 15 = .bool false := hI.2 15 (hD 15 (by decide)) rfl;have zf16 : V 16 = .int .i64 0 := hI.2 16 (hD 16 (by decide)) rfl;have zf18 : V 18 = .int .i64 er := hI.2 18 (hD 18 (by decide)) rfl;have zf19 : V 19 = .int .i64 er := hI.2 19 (hD 19 (by decide)) rfl;clear hI hD HGs;simp only [frAll, Act.put, List.setIfInBounds_toArray, List.set_cons_zero, List.set_cons_succ, Nat.zero_add, Nat.reduceAdd, zf0, zf1, zf2, zf3, zf4, zf5, zf6, zf7, zf8, zf9, zf10, zf11, zf12, zf13, zf14, zf15, zf16, zf18, zf19];clear zf0 zf1 zf2 zf3 zf4 zf5 zf6 zf7 zf8 zf9 zf10 zf11 zf12 zf13 zf14 zf15 zf16 zf18 zf19;generalize V 17 = u17;clear V D
      go_wp2_with fail
      go_meet;exact ⟨rfl, hMx⟩
    case rest =>
     obtain ⟨rfl, m1⟩ := hcut;have m2 := hm.trans m1;have hr2 := firstErr2 HER.out;have HR2 := Lib.hid hr2;clear HCI HFE HWF HB0 Hm0 WS hr2
     by_cases he0 : er = 0
     ·have he1 : e1 = 0 := by
       have := HR2.out;rw [he0] at this
       by_cases h : e1 = 0
       ·exact h
       ·rw [if_pos h] at this; exact absurd this.symm h
      have HS1 : Hid (ordE itemE [] xs = ordE itemE x.id (xs.drop (0 + 1))) := Lib.hid (by rw [HST0.out, he1]; simp);clear HST0 HR2 HER;subst he0
      go_wp2_with fail
      go_roundg (xs.length - (0 + 1))
      case measure => omega
      case rel => exact ⟨0 + 1, rfl, by omega, by simp, by rw [HPI.out, HS1.out], m2⟩
     ·have he0' : (er != 0) = true := by simpa using he0
      have hx : e1 ≠ 0 ∧ er = e1 := by
       have := HR2.out
       by_cases h : e1 = 0
       ·rw [if_neg (by simpa using h)] at this; exact absurd this he0
       ·rw [if_pos h] at this; exact ⟨h, this⟩
      have HF : Hid (itsE itemE xs = er) := Lib.hid (by rw [HIE.out, HST0.out, if_pos hx.1, if_pos hx.1, hx.2]);clear HST0 HR2 HER hx HIE
      go_wp2_with fail
      go_ret;exact IntPost.of HF.out m2
   ·obtain ⟨j, rfl⟩ : ∃ j, k = j + 1 := ⟨k - 1, by omega⟩
    have hjl : j < xs.length := by omega
    have hy0 := (item_cells hrow1 hjl).1;have hpj := pid_succ hjl;have HPJ : Hid (pid xs (j + 1) = xs[j].id) := Lib.hid hpj;obtain ⟨e1, he1⟩ : ∃ e1, itemE xs[j + 1] = e1 := ⟨_, rfl⟩;obtain ⟨bo, hbo⟩ : ∃ bo, leS xs[j + 1].id xs[j].id = bo := ⟨_, rfl⟩;obtain ⟨e2, he2⟩ : ∃ e2 : Int, (if bo = true then 7 else 0) = e2 := ⟨_, rfl⟩;obtain ⟨er, her⟩ : ∃ er, firstErr [e1, e2] = er := ⟨_, rfl⟩
    have HST1 : Hid (ordE itemE [] xs = if e1 ≠ 0 then e1 else if bo = true then 7 else ordE itemE xs[j + 1].id (xs.drop (j + 1 + 1))) := Lib.hid (by
     rw [HST.out, he1, hpj]
     have h2 : xs[j + 1].id ≤ xs[j].id ↔ bo = true := by rw [← hbo]; exact leS_iff.symm
     by_cases hb : bo = true
     ·rw [if_pos (h2.2 hb), if_pos hb]
     ·rw [if_neg (fun h => hb (h2.1 h)), if_neg hb])
    have HBO : Hid ((Op.bytesLess xs[j + 1].id xs[j].id || xs[j + 1].id == xs[j].id) = bo) := Lib.hid hbo;have HE2 := Lib.hid he2;rw [he1] at HCI;have HER := Lib.hid her;have HFE := Lib.hid (fun (W : World) (g c : Nat) (h : Blk W g 29 #[.int .i64 e1, .int .i64 e2]) => firstE_calls W g c [e1, e2] h.row0 (by simp));rw [her] at HFE;have HWF := Lib.hid (fun W => when_any2 bo 7 W);rw [he2] at HWF;clear hrow hrow1 HST HKN he1 her HXK hpj hbo he2 h0;generalize xs[j + 1] = x at *;generalize xs[j] = y at *;have hy1 := cell_alloc hy0 (.cells (itQ x) 40);unfold itQ at HB0 Hm0 hy1;unfold itA at HCI
    go_wp2_with fail
    go_upto_region 6 with (fail)
    generalize (wr.alloc (.cells #[.string ⟨x.id.toArray⟩, .string ⟨x.cust.toArray⟩, .int .i64 x.kind, .string ⟨x.name.toArray⟩, .int .i64 x.tm, .string ⟨x.par.toArray⟩, .string ⟨x.text.toArray⟩] 40)) = WS at *;have hgsz := hm.size;generalize hgs : wr.heap.size = gs at *;have hgs1 := Nat.le_of_eq hgs;clear hgs q0 q1 q2 q3 q4 q5 q6 hy0
    go_cut [5] (fun p wx => p = .int .i64 er ∧ Pure wr wx)
    case first =>
     have HGs := Lib.hid (show ∀ (D : Nat → Bool) (zzi : Nat) (zq zq' : World), (fun _ zq => (fun Z => Blk Z gs 40 #[.string ⟨x.id.toArray⟩, .string ⟨x.cust.toArray⟩, .int .i64 x.kind, .string ⟨x.name.toArray⟩, .int .i64 x.tm, .string ⟨x.par.toArray⟩, .string ⟨x.text.toArray⟩] ∧ Z.cell? ⟨g, off + j * 7, none⟩ = some (.string ⟨y.id.toArray⟩)) zq) D zq → Mod (fun _ => False) zq zq' → (fun _ zq => (fun Z => Blk Z gs 40 #[.string ⟨x.id.toArray⟩, .string ⟨x.cust.toArray⟩, .int .i64 x.kind, .string ⟨x.name.toArray⟩, .int .i64 x.tm, .string ⟨x.par.toArray⟩, .string ⟨x.text.toArray⟩] ∧ Z.cell? ⟨g, off + j * 7, none⟩ = some (.string ⟨y.id.toArray⟩)) zq) (upd D zzi true) zq' from by intro D zzi zq zq' h hm; (exact ⟨h.1.modp hm, keepp h.2 hm⟩))
     refine wp_region_inv (by kernel_rfl) (by kernel_rfl) (InvF (R := Mod (fun _ => False)) [.is (.agg #[.string ⟨x.id.toArray⟩, .string ⟨x.cust.toArray⟩, .int .i64 x.kind, .string ⟨x.name.toArray⟩, .int .i64 x.tm, .string ⟨x.par.toArray⟩, .string ⟨x.text.toArray⟩]),
       .is (.int .i64 e1),
       .is (.int .i64 ((j : Int) + 1)),
       .is (.bool true),
       .is (.bool true),
       .is (.pointer (some ⟨gs, 0, none⟩)),
       .is (.string ⟨x.id.toArray⟩),
       .is (.slice (some ⟨g, off, none⟩) xs.length c),
       .is (.int .i64 ((j : Int) + 1)),
       .is (.int .i64 ((j : Int) + 1)),
       .is (.int .i64 (j : Int)),
       .is (.pointer (some ⟨g, off + j * 7, none⟩)),
       .is (.pointer (some ⟨g, off + j * 7, none⟩)),
       .is (.string ⟨y.id.toArray⟩),
       .is (.bool bo),
       .is (.bool bo),
       .is (.int .i64 e2),
       ⟨fun zv zw => ∃ (g_17 : Nat), zv = .slice (some ⟨g_17, 0, none⟩) 2 2 ∧ WS.heap.size ≤ g_17 ∧ Blk zw g_17 29 #[.int .i64 e1, .int .i64 e2], (by rintro zv zw zx ⟨g_17, rfl, c0, q0⟩ hm; exact ⟨g_17, rfl, c0, (q0.modp hm)⟩), none, some 18⟩,
       .is (.int .i64 er),
       .is (.int .i64 er)]
       (PB wr (fun _ => False) WS.heap.size (fun _ zq => (fun Z => Blk Z gs 40 #[.string ⟨x.id.toArray⟩, .string ⟨x.cust.toArray⟩, .int .i64 x.kind, .string ⟨x.name.toArray⟩, .int .i64 x.tm, .string ⟨x.par.toArray⟩, .string ⟨x.text.toArray⟩] ∧ Z.cell? ⟨g, off + j * 7, none⟩ = some (.string ⟨y.id.toArray⟩)) zq))) (InvF.start (PB.start Hm0.out (Nat.le_refl _) (⟨HB0.out.drew, cell_drew hy1⟩))) ?_ ?_
     ·refine .cons ?_ (.cons ?_ (.cons ?_ (.cons ?_ (.cons ?_ (.cons ?_ (.cons ?_ (.cons ?_ (.cons ?_ (.cons ?_ (.cons ?_ (.cons ?_ (.cons ?_ (.cons ?_ (.cons ?_ (.cons ?_ (.cons ?_ (.cons ?_ (.cons ?_ (.cons ?_ .nil)))))))))))))))))))
      ·intro D V zw1 a hR hI K hK;obtain ⟨hM1, hB1, hG1⟩ := hI.1;obtain ⟨hG1a, hG1b⟩ := hG1;have ze4 := hR.frame.other (t := 4) (by kernel_rfl) rfl;have zx0 := hG1a.cell 0; have zx1 := hG1a.cell 1; have zx2 := hG1a.cell 2; have zx3 := hG1a.cell 3; have zx4 := hG1a.cell 4; have zx5 := hG1a.cell 5; have zx6 := hG1a.cell 6;simp at zx0 zx1 zx2 zx3 zx4 zx5 zx6;rw [if_pos (by rfl)];go_simp;exact hK (.agg #[.string ⟨x.id.toArray⟩, .string ⟨x.cust.toArray⟩, .int .i64 x.kind, .string ⟨x.name.toArray⟩, .int .i64 x.tm, .string ⟨x.par.toArray⟩, .string ⟨x.text.toArray⟩]) _ (hI.next hR (by kernel_rfl) (Mod.refl _ _) (PB.quiet hI.1 (Mod.refl _ _) (HGs.out D 0 zw1 zw1 (hI.1).g (Mod.refl _ _))) (upd_same V 0 _))
      ·intro D V zw1 a hR hI K hK;obtain ⟨hM1, hB1, hG1⟩ := hI.1;obtain ⟨hG1a, hG1b⟩ := hG1;have zd0 := hR.pred 0 (by kernel_rfl);have zf0 : V 0 = .agg #[.string ⟨x.id.toArray⟩, .string ⟨x.cust.toArray⟩, .int .i64 x.kind, .string ⟨x.name.toArray⟩, .int .i64 x.tm, .string ⟨x.par.toArray⟩, .string ⟨x.text.toArray⟩] := hI.2 0 zd0 rfl;have ze28 := hR.frame.done (t := 28) (j := 0) (by kernel_rfl) hR.ok zd0;rw [if_pos (by rfl)];go_simp;refine (HCI.out _ (hm.trans hM1)).mono ?_;rintro e zw2 ⟨rfl, hm2⟩;exact hK (.int .i64 e1) _ (hI.next hR (by kernel_rfl) hm2 (PB.quiet hI.1 hm2 (HGs.out D 1 _ _ (hI.1).g hm2)) (upd_same V 1 _))
      ·intro D V zw1 a hR hI K hK;obtain ⟨hM1, hB1, hG1⟩ := hI.1;obtain ⟨hG1a, hG1b⟩ := hG1;have ze3 := hR.frame.other (t := 3) (by kernel_rfl) rfl;rw [if_pos (by rfl)];go_simp;exact hK (.int .i64 ((j : Int) + 1)) _ (hI.next hR (by kernel_rfl) (Mod.refl _ _) (PB.quiet hI.1 (Mod.refl _ _) (HGs.out D 2 zw1 zw1 (hI.1).g (Mod.refl _ _))) (upd_same V 2 _))
      ·intro D V zw1 a hR hI K hK;obtain ⟨hM1, hB1, hG1⟩ := hI.1;obtain ⟨hG1a, hG1b⟩ := hG1;have zd2 := hR.pred 2 (by kernel_rfl);have zf2 : V 2 = .int .i64 ((j : Int) + 1) := hI.2 2 zd2 rfl;have ze30 := hR.frame.done (t := 30) (j := 2) (by kernel_rfl) hR.ok zd2
       have i0 : (0 : Int) < (j : Int) + 1 := by omega
       rw [if_pos (by rfl)];go_simp;exact hK (.bool true) _ (hI.next hR (by kernel_rfl) (Mod.refl _ _) (PB.quiet hI.1 (Mod.refl _ _) (HGs.out D 3 zw1 zw1 (hI.1).g (Mod.refl _ _))) (upd_same V 3 _))
      ·intro D V zw1 a hR hI K hK;obtain ⟨hM1, hB1, hG1⟩ := hI.1;obtain ⟨hG1a, hG1b⟩ := hG1;have zd3 := hR.pred 3 (by kernel_rfl);have zf3 : V 3 = .bool true := hI.2 3 zd3 rfl;have ze31 := hR.frame.done (t := 31) (j := 3) (by kernel_rfl) hR.ok zd3;rw [if_pos (by rfl)];go_simp;exact hK (.bool true) _ (hI.next hR (by kernel_rfl) (Mod.refl _ _) (PB.quiet hI.1 (Mod.refl _ _) (HGs.out D 4 zw1 zw1 (hI.1).g (Mod.refl _ _))) (upd_same V 4 _))
      ·intro D V zw1 a hR hI K hK;obtain ⟨hM1, hB1, hG1⟩ := hI.1;obtain ⟨hG1a, hG1b⟩ := hG1;have zd4 := hR.pred 4 (by kernel_rfl);have zf4 : V 4 = .bool true := hI.2 4 zd4 rfl;have ze4 := hR.frame.other (t := 4) (by kernel_rfl) rfl;have ze32 := hR.frame.done (t := 32) (j := 4) (by kernel_rfl) hR.ok zd4;rw [if_pos (by simp [Region.wanted, yielded, ze32, zf4])];go_simp;exact hK (.pointer (some ⟨gs, 0, none⟩)) _ (hI.next hR (by kernel_rfl) (Mod.refl _ _) (PB.quiet hI.1 (Mod.refl _ _) (HGs.out D 5 zw1 zw1 (hI.1).g (Mod.refl _ _))) (upd_same V 5 _))
      ·intro D V zw1 a hR hI K hK;obtain ⟨hM1, hB1, hG1⟩ := hI.1;obtain ⟨hG1a, hG1b⟩ := hG1;have zd5 := hR.pred 5 (by kernel_rfl);have zf5 : V 5 = .pointer (some ⟨gs, 0, none⟩) := hI.2 5 zd5 rfl;have zd4 := hR.pred 4 (by kernel_rfl);have zf4 : V 4 = .bool true := hI.2 4 zd4 rfl;have ze33 := hR.frame.done (t := 33) (j := 5) (by kernel_rfl) hR.ok zd5;have zx0 := hG1a.cell 0; have zx1 := hG1a.cell 1; have zx2 := hG1a.cell 2; have zx3 := hG1a.cell 3; have zx4 := hG1a.cell 4; have zx5 := hG1a.cell 5; have zx6 := hG1a.cell 6;simp at zx0 zx1 zx2 zx3 zx4 zx5 zx6;have ze32 := hR.frame.done (t := 32) (j := 4) (by kernel_rfl) hR.ok zd4;rw [if_pos (by simp [Region.wanted, yielded, ze32, zf4])];go_simp;exact hK (.string ⟨x.id.toArray⟩) _ (hI.next hR (by kernel_rfl) (Mod.refl _ _) (PB.quiet hI.1 (Mod.refl _ _) (HGs.out D 6 zw1 zw1 (hI.1).g (Mod.refl _ _))) (upd_same V 6 _))
      ·intro D V zw1 a hR hI K hK;obtain ⟨hM1, hB1, hG1⟩ := hI.1;obtain ⟨hG1a, hG1b⟩ := hG1;have zd4 := hR.pred 4 (by kernel_rfl);have zf4 : V 4 = .bool true := hI.2 4 zd4 rfl;have ze0 := hR.frame.other (t := 0) (by kernel_rfl) rfl;have ze32 := hR.frame.done (t := 32) (j := 4) (by kernel_rfl) hR.ok zd4;rw [if_pos (by simp [Region.wanted, yielded, ze32, zf4])];go_simp;exact hK (.slice (some ⟨g, off, none⟩) xs.length c) _ (hI.next hR (by kernel_rfl) (Mod.refl _ _) (PB.quiet hI.1 (Mod.refl _ _) (HGs.out D 7 zw1 zw1 (hI.1).g (Mod.refl _ _))) (upd_same V 7 _))
      ·intro D V zw1 a hR hI K hK;obtain ⟨hM1, hB1, hG1⟩ := hI.1;obtain ⟨hG1a, hG1b⟩ := hG1;have zd4 := hR.pred 4 (by kernel_rfl);have zf4 : V 4 = .bool true := hI.2 4 zd4 rfl;have ze3 := hR.frame.other (t := 3) (by kernel_rfl) rfl;have ze32 := hR.frame.done (t := 32) (j := 4) (by kernel_rfl) hR.ok zd4;rw [if_pos (by simp [Region.wanted, yielded, ze32, zf4])];go_simp;exact hK (.int .i64 ((j : Int) + 1)) _ (hI.next hR (by kernel_rfl) (Mod.refl _ _) (PB.quiet hI.1 (Mod.refl _ _) (HGs.out D 8 zw1 zw1 (hI.1).g (Mod.refl _ _))) (upd_same V 8 _))
      ·intro D V zw1 a hR hI K hK;obtain ⟨hM1, hB1, hG1⟩ := hI.1;obtain ⟨hG1a, hG1b⟩ := hG1;have zd8 := hR.pred 8 (by kernel_rfl);have zf8 : V 8 = .int .i64 ((j : Int) + 1) := hI.2 8 zd8 rfl;have zd4 := hR.pred 4 (by kernel_rfl);have zf4 : V 4 = .bool true := hI.2 4 zd4 rfl;have ze36 := hR.frame.done (t := 36) (j := 8) (by kernel_rfl) hR.ok zd8;have hmx : (if ((j : Int) + 1) < 1 then (1 : Int) else (j : Int) + 1) = (j : Int) + 1 := if_neg (by omega)
       have hmx2 : max ((j : Int) + 1) 1 = (j : Int) + 1 := by omega
       have ze32 := hR.frame.done (t := 32) (j := 4) (by kernel_rfl) hR.ok zd4;rw [if_pos (by simp [Region.wanted, yielded, ze32, zf4])];go_simp;exact hK (.int .i64 ((j : Int) + 1)) _ (hI.next hR (by kernel_rfl) (Mod.refl _ _) (PB.quiet hI.1 (Mod.refl _ _) (HGs.out D 9 zw1 zw1 (hI.1).g (Mod.refl _ _))) (upd_same V 9 _))
      ·intro D V zw1 a hR hI K hK;obtain ⟨hM1, hB1, hG1⟩ := hI.1;obtain ⟨hG1a, hG1b⟩ := hG1;have zd9 := hR.pred 9 (by kernel_rfl);have zf9 : V 9 = .int .i64 ((j : Int) + 1) := hI.2 9 zd9 rfl;have zd4 := hR.pred 4 (by kernel_rfl);have zf4 : V 4 = .bool true := hI.2 4 zd4 rfl;have ze37 := hR.frame.done (t := 37) (j := 9) (by kernel_rfl) hR.ok zd9;have hw : IntKind.i64.wrap (j : Int) = (j : Int) := IntWalk.i64_in _ (by omega);have ze32 := hR.frame.done (t := 32) (j := 4) (by kernel_rfl) hR.ok zd4;rw [if_pos (by simp [Region.wanted, yielded, ze32, zf4])];go_simp;exact hK (.int .i64 (j : Int)) _ (hI.next hR (by kernel_rfl) (Mod.refl _ _) (PB.quiet hI.1 (Mod.refl _ _) (HGs.out D 10 zw1 zw1 (hI.1).g (Mod.refl _ _))) (upd_same V 10 _))
      ·intro D V zw1 a hR hI K hK;obtain ⟨hM1, hB1, hG1⟩ := hI.1;obtain ⟨hG1a, hG1b⟩ := hG1;have zd7 := hR.pred 7 (by kernel_rfl);have zf7 : V 7 = .slice (some ⟨g, off, none⟩) xs.length c := hI.2 7 zd7 rfl;have zd10 := hR.pred 10 (by kernel_rfl);have zf10 : V 10 = .int .i64 (j : Int) := hI.2 10 zd10 rfl;have zd4 := hR.pred 4 (by kernel_rfl);have zf4 : V 4 = .bool true := hI.2 4 zd4 rfl;have ze35 := hR.frame.done (t := 35) (j := 7) (by kernel_rfl) hR.ok zd7;have ze38 := hR.frame.done (t := 38) (j := 10) (by kernel_rfl) hR.ok zd10
       have i3 : (0 : Int) ≤ (j : Int) := by omega
       have i4 : (j : Int) < (xs.length : Int) := by omega
       have ze32 := hR.frame.done (t := 32) (j := 4) (by kernel_rfl) hR.ok zd4;rw [if_pos (by simp [Region.wanted, yielded, ze32, zf4])];go_simp;exact hK (.pointer (some ⟨g, off + j * 7, none⟩)) _ (hI.next hR (by kernel_rfl) (Mod.refl _ _) (PB.quiet hI.1 (Mod.refl _ _) (HGs.out D 11 zw1 zw1 (hI.1).g (Mod.refl _ _))) (upd_same V 11 _))
      ·intro D V zw1 a hR hI K hK;obtain ⟨hM1, hB1, hG1⟩ := hI.1;obtain ⟨hG1a, hG1b⟩ := hG1;have zd11 := hR.pred 11 (by kernel_rfl);have zf11 : V 11 = .pointer (some ⟨g, off + j * 7, none⟩) := hI.2 11 zd11 rfl;have zd4 := hR.pred 4 (by kernel_rfl);have zf4 : V 4 = .bool true := hI.2 4 zd4 rfl;have ze39 := hR.frame.done (t := 39) (j := 11) (by kernel_rfl) hR.ok zd11;have ze32 := hR.frame.done (t := 32) (j := 4) (by kernel_rfl) hR.ok zd4;rw [if_pos (by simp [Region.wanted, yielded, ze32, zf4])];go_simp;exact hK (.pointer (some ⟨g, off + j * 7, none⟩)) _ (hI.next hR (by kernel_rfl) (Mod.refl _ _) (PB.quiet hI.1 (Mod.refl _ _) (HGs.out D 12 zw1 zw1 (hI.1).g (Mod.refl _ _))) (upd_same V 12 _))
      ·intro D V zw1 a hR hI K hK;obtain ⟨hM1, hB1, hG1⟩ := hI.1;obtain ⟨hG1a, hG1b⟩ := hG1;have zd12 := hR.pred 12 (by kernel_rfl);have zf12 : V 12 = .pointer (some ⟨g, off + j * 7, none⟩) := hI.2 12 zd12 rfl;have zd4 := hR.pred 4 (by kernel_rfl);have zf4 : V 4 = .bool true := hI.2 4 zd4 rfl;have ze40 := hR.frame.done (t := 40) (j := 12) (by kernel_rfl) hR.ok zd12;have ze32 := hR.frame.done (t := 32) (j := 4) (by kernel_rfl) hR.ok zd4;rw [if_pos (by simp [Region.wanted, yielded, ze32, zf4])];go_simp;exact hK (.string ⟨y.id.toArray⟩) _ (hI.next hR (by kernel_rfl) (Mod.refl _ _) (PB.quiet hI.1 (Mod.refl _ _) (HGs.out D 13 zw1 zw1 (hI.1).g (Mod.refl _ _))) (upd_same V 13 _))
      ·intro D V zw1 a hR hI K hK;obtain ⟨hM1, hB1, hG1⟩ := hI.1;obtain ⟨hG1a, hG1b⟩ := hG1;have zd6 := hR.pred 6 (by kernel_rfl);have zf6 : V 6 = .string ⟨x.id.toArray⟩ := hI.2 6 zd6 rfl;have zd13 := hR.pred 13 (by kernel_rfl);have zf13 : V 13 = .string ⟨y.id.toArray⟩ := hI.2 13 zd13 rfl;have zd4 := hR.pred 4 (by kernel_rfl);have zf4 : V 4 = .bool true := hI.2 4 zd4 rfl;have ze34 := hR.frame.done (t := 34) (j := 6) (by kernel_rfl) hR.ok zd6;have ze41 := hR.frame.done (t := 41) (j := 13) (by kernel_rfl) hR.ok zd13;have hbo := HBO.out;have ze32 := hR.frame.done (t := 32) (j := 4) (by kernel_rfl) hR.ok zd4;rw [if_pos (by simp [Region.wanted, yielded, ze32, zf4])];go_simp;exact hK (.bool bo) _ (hI.next hR (by kernel_rfl) (Mod.refl _ _) (PB.quiet hI.1 (Mod.refl _ _) (HGs.out D 14 zw1 zw1 (hI.1).g (Mod.refl _ _))) (upd_same V 14 _))
      ·intro D V zw1 a hR hI K hK;obtain ⟨hM1, hB1, hG1⟩ := hI.1;obtain ⟨hG1a, hG1b⟩ := hG1;have zd4 := hR.pred 4 (by kernel_rfl);have zf4 : V 4 = .bool true := hI.2 4 zd4 rfl;have zd14 := hR.pred 14 (by kernel_rfl);have zf14 : V 14 = .bool bo := hI.2 14 zd14 rfl;have ze32 := hR.frame.done (t := 32) (j := 4) (by kernel_rfl) hR.ok zd4;have ze42 := hR.frame.done (t := 42) (j := 14) (by kernel_rfl) hR.ok zd14;rw [if_pos (by rfl)];go_simp;exact hK (.bool bo) _ (hI.next hR (by kernel_rfl) (Mod.refl _ _) (PB.quiet hI.1 (Mod.refl _ _) (HGs.out D 15 zw1 zw1 (hI.1).g (Mod.refl _ _))) (upd_same V 15 _))
      ·intro D V zw1 a hR hI K hK;obtain ⟨hM1, hB1, hG1⟩ := hI.1;obtain ⟨hG1a, hG1b⟩ := hG1;have zd15 := hR.pred 15 (by kernel_rfl);have zf15 : V 15 = .bool bo := hI.2 15 zd15 rfl;have ze43 := hR.frame.done (t := 43) (j := 15) (by kernel_rfl) hR.ok zd15;rw [if_pos (by rfl)];go_simp;refine (HWF.out _).mono ?_;rintro e zw2 ⟨rfl, rfl⟩;have hm2 : Pure zw1 zw1 := Mod.refl _ _;exact hK (.int .i64 e2) _ (hI.next hR (by kernel_rfl) hm2 (PB.quiet hI.1 hm2 (HGs.out D 16 _ _ (hI.1).g hm2)) (upd_same V 16 _))
      ·intro D V zw1 a hR hI K hK;obtain ⟨hM1, hB1, hG1⟩ := hI.1;obtain ⟨hG1a, hG1b⟩ := hG1;have zd1 := hR.pred 1 (by kernel_rfl);have zf1 : V 1 = .int .i64 e1 := hI.2 1 zd1 rfl;have zd16 := hR.pred 16 (by kernel_rfl);have zf16 : V 16 = .int .i64 e2 := hI.2 16 zd16 rfl;have ze29 := hR.frame.done (t := 29) (j := 1) (by kernel_rfl) hR.ok zd1;have ze44 := hR.frame.done (t := 44) (j := 16) (by kernel_rfl) hR.ok zd16;rw [if_pos (by rfl)];go_simp;exact hK (_) _ (hI.next hR (by kernel_rfl) ((Mod.refl _ _).alloc _) (PB.quiet hI.1 (pure_alloc _ _) (HGs.out D 17 _ _ (hI.1).g ((Mod.refl _ _).alloc _))) (⟨_, upd_same V 17 _, (by omega), (Blk.new _ _ _)⟩))
      ·intro D V zw1 a hR hI K hK;obtain ⟨hM1, hB1, hG1⟩ := hI.1;obtain ⟨hG1a, hG1b⟩ := hG1;have zd17 := hR.pred 17 (by kernel_rfl);have zF17 : ∃ (g_17 : Nat), V 17 = .slice (some ⟨g_17, 0, none⟩) 2 2 ∧ WS.heap.size ≤ g_17 ∧ Blk zw1 g_17 29 #[.int .i64 e1, .int .i64 e2] := hI.2 17 zd17 (by show (!D 18) = true; rw [hR.not]; rfl);obtain ⟨g_17, zf17, c17_0, b17_0⟩ := zF17;have ze45 := hR.frame.done (t := 45) (j := 17) (by kernel_rfl) hR.ok zd17;rw [if_pos (by rfl)];go_simp;refine (HFE.out _ _ _ b17_0).mono ?_;rintro e zw2 ⟨rfl, hm2⟩;exact hK (.int .i64 er) _ (hI.next hR (by kernel_rfl) hm2 (PB.quiet hI.1 hm2 (HGs.out D 18 _ _ (hI.1).g hm2)) (upd_same V 18 _))
      ·intro D V zw1 a hR hI K hK;obtain ⟨hM1, hB1, hG1⟩ := hI.1;obtain ⟨hG1a, hG1b⟩ := hG1;have zd18 := hR.pred 18 (by kernel_rfl);have zf18 : V 18 = .int .i64 er := hI.2 18 zd18 rfl;have ze46 := hR.frame.done (t := 46) (j := 18) (by kernel_rfl) hR.ok zd18;rw [if_pos (by rfl)];go_simp;exact hK (.int .i64 er) _ (hI.next hR (by kernel_rfl) (Mod.refl _ _) (PB.quiet hI.1 (Mod.refl _ _) (HGs.out D 19 zw1 zw1 (hI.1).g (Mod.refl _ _))) (upd_same V 19 _))
     ·intro D V w1 hD hI;obtain ⟨hM1, hB1, hG1⟩ := hI.1;have hMx := hM1;clear hM1;have hBx := hB1;clear hB1;have hGx := hG1;clear hG1;have zf0 : V 0 = .agg #[.string ⟨x.id.toArray⟩, .string ⟨x.cust.toArray⟩, .int .i64 x.kind, .string ⟨x.name.toArray⟩, .int .i64 x.tm, .string ⟨x.par.toArray⟩, .string ⟨x.text.toArray⟩] := hI.2 0 (hD 0 (by decide)) rfl;have zf1 : V 1 = .int .i64 e1 := hI.2 1 (hD 1 (by decide)) rfl;have zf2 : V 2 = .int .i64 ((j : Int) + 1) := hI.2 2 (hD 2 (by decide)) rfl;have zf3 : V 3 = .bool true := hI.2 3 (hD 3 (by decide)) rfl;have zf4 : V 4 = .bool true := hI.2 4 (hD 4 (by decide)) rfl;have zf5 : V 5 = .pointer (some ⟨gs, 0, none⟩) := hI.2 5 (hD 5 (by decide)) rfl;have zf6 : V 6 = .string ⟨x.id.toArray⟩ := hI.2 6 (hD 6 (by decide)) rfl;have zf7 : V 7 = .slice (some ⟨g, off, none⟩) xs.length c := hI.2 7 (hD 7 (by decide)) rfl;have zf8 : V 8 = .int .i64 ((j : Int) + 1) := hI.2 8 (hD 8 (by decide)) rfl;have zf9 : V 9 = .int .i64 ((j : Int) + 1) := hI.2 9 (hD 9 (by decide)) rfl;have zf10 : V 10 = .int .i64 (j : Int) := hI.2 10 (hD 10 (by decide)) rfl;have zf11 : V 11 = .pointer (some ⟨g, off + j * 7, none⟩) := hI.2 11 (hD 11 (by decide)) rfl;have zf12 : V 12 = .pointer (some ⟨g, off + j * 7, none⟩) := hI.2 12 (hD 12 (by decide)) rfl;have zf13 : V 13 = .string ⟨y.id.toArray⟩ := hI.2 13 (hD 13 (by decide)) rfl;have zf14 : V 14 = .bool bo := hI.2 14 (hD 14 (by decide)) rfl;have zf15 : V 15 = .bool bo := hI.2 15 (hD 15 (by decide)) rfl;have zf16 : V 16 = .int .i64 e2 := hI.2 16 (hD 16 (by decide)) rfl;have zf18 : V 18 = .int .i64 er := hI.2 18 (hD 18 (by decide)) rfl;have zf19 : V 19 = .int .i64 er := hI.2 19 (hD 19 (by decide)) rfl;clear hI hD HGs;simp only [frAll, Act.put, List.setIfInBounds_toArray, List.set_cons_zero, List.set_cons_succ, Nat.zero_add, Nat.reduceAdd, zf0, zf1, zf2, zf3, zf4, zf5, zf6, zf7, zf8, zf9, zf10, zf11, zf12, zf13, zf14, zf15, zf16, zf18, zf19];clear zf0 zf1 zf2 zf3 zf4 zf5 zf6 zf7 zf8 zf9 zf10 zf11 zf12 zf13 zf14 zf15 zf16 zf18 zf19;generalize V 17 = u17;clear V D
      go_wp2_with fail
      go_meet;exact ⟨rfl, hMx⟩
    case rest =>
     obtain ⟨rfl, m1⟩ := hcut;have m2 := hm.trans m1;have hr2 := firstErr2 HER.out;have HR2 := Lib.hid hr2;clear HCI HFE HWF HB0 Hm0 WS hr2 HBO hy1
     by_cases he0 : er = 0
     ·have he1 : e1 = 0 ∧ e2 = 0 := by
       have := HR2.out;rw [he0] at this
       by_cases h : e1 = 0
       ·rw [if_neg (by simpa using h)] at this; exact ⟨h, this.symm⟩
       ·rw [if_pos h] at this; exact absurd this.symm h
      have HS1 : Hid (ordE itemE [] xs = ordE itemE x.id (xs.drop (j + 1 + 1))) := Lib.hid (by
       rw [HST1.out, he1.1];have h2 := HE2.out;rw [he1.2] at h2
       cases bo
       ·simp
       ·simp at h2)
      clear HST1 HR2 HER HE2 he1;subst he0
      go_wp2_with fail
      go_roundg (xs.length - (j + 1 + 1))
      case measure => omega
      case rel => exact ⟨j + 1 + 1, rfl, by omega, by simp, by rw [HPI.out, HS1.out], m2⟩
     ·have he0' : (er != 0) = true := by simpa using he0
      have hx : ordE itemE [] xs = er := by
       have h1 := HR2.out;rw [HST1.out]
       by_cases h : e1 = 0
       ·rw [if_neg (by simpa using h)] at h1;rw [if_neg (by simpa using h)];have h2 := HE2.out
        cases bo
        ·simp at h2;rw [h1, ← h2] at he0;exact absurd rfl he0
        ·simp at h2;rw [h1, ← h2]
         rfl
       ·rw [if_pos h] at h1;rw [if_pos h, h1]
      have HF : Hid (itsE itemE xs = er) := Lib.hid (by rw [HIE.out, hx, if_pos he0]);clear HST1 HR2 HER HE2 hx HIE
      go_wp2_with fail
      go_ret;exact IntPost.of HF.out m2
  ·have hke : k = xs.length := by omega
   have ho : ordE itemE [] xs = 0 := by
    rw [← hord, hke, List.drop_of_length_le (Nat.le_refl _)]
    rfl
   have hd := ids_of_ordE ho;have HZ : Hid (∀ x ∈ xs, ItB x) := Lib.hid (fun x hx => itemE_B (ordE_gt ho x hx).1);have HD := Lib.hid hd;have HIE2 : Hid (itsE itemE xs = if xs.any (missB xs) then 8 else treeE xs) := Lib.hid (by rw [HIE.out, ho]; rfl);clear hd ho HIE hord hke
   go_wp2_with fail
   refine (HBY.out _ hm HZ.out HD.out).mono ?_;rintro e w1 ⟨b, rfl, hb, hM1, m1⟩;have m2 := hm.trans m1;clear HBY hm m1 hb hlt hk
   go_wp2_with fail
   go_loopg [55] xs.length (fun gk i wr => Ck2 w b xs gk i wr)
   case atStart => exact ⟨0, by omega, by omega, rfl, rfl, hM1, m2⟩
   case round =>
    clear m2 hM1;obtain ⟨k, rfl, hk, rfl, hno, hM, hm⟩ := hrel;have hblt := hM.lt
    by_cases hlt : k < xs.length
    ·obtain ⟨g, off, rfl, hrow⟩ := HR.out (by omega);obtain ⟨q0, q1, q2, q3, q4, q5, q6⟩ := item_cells (hrow.mod hm id) hlt;have hzx := (HZ.out _ (List.getElem_mem hlt)).2.2.2.1;have HTK := Lib.hid (any_take_snoc (missB xs) xs k hlt);rw [hno] at HTK;have HAT := Lib.hid (fun h => any_of_at (p := missB xs) hlt h);have HMF := Lib.hid (missB_fnd xs xs[k]);clear hrow hno;generalize xs[k] = x at *;have hlook := (hM.alloc (.cells (itQ x) 40)).look_ok Tryz.underlying137 zero_item x.par (by omega);unfold byF at hlook;have B0 := Blk.new wr 40 (itQ x)
     cases hf : fnd xs x.par with
     | none =>
      rw [hf] at hlook HMF;simp only [Option.map_none, Option.getD_none, Option.isSome_none] at hlook;have B1 := B0.alloc (.cells itZc 40);have HM1 := Lib.hid ((hM.alloc (.cells (itQ x) 40)).alloc (.cells itZc 40));have Hm1 := Lib.hid ((hm.alloc (.cells (itQ x) 40)).alloc (.cells itZc 40));unfold itZ at hlook;unfold itQ at hlook B1 HM1 Hm1;unfold itZc at B1 HM1 Hm1;have c0 := B1.cell 0; have c1 := B1.cell 1; have c2 := B1.cell 2; have c3 := B1.cell 3; have c4 := B1.cell 4; have c5 := B1.cell 5; have c6 := B1.cell 6; simp at c0 c1 c2 c3 c4 c5 c6;clear B0 B1 hf hM hm
      cases he : x.par.isEmpty
      ·have HF : Hid (itsE itemE xs = 8) := Lib.hid (by rw [HIE2.out, HAT.out (by rw [HMF.out, he]; rfl)]; rfl);clear HTK HAT HMF HM1
       go_wp2_with fail
       go_ret;exact IntPost.of HF.out Hm1.out
      ·have HN : Hid ((xs.take (k + 1)).any (missB xs) = false) := Lib.hid (by rw [HTK.out, HMF.out, he]; rfl);clear HTK HAT HMF
       go_wp2_with fail
       go_roundg (xs.length - (k + 1))
       case measure => omega
       case rel => exact ⟨k + 1, rfl, by omega, by simp, HN.out, HM1.out, Hm1.out⟩
     | some p =>
      rw [hf] at hlook HMF;simp only [Option.map_some, Option.getD_some, Option.isSome_some] at hlook;have B1 := B0.alloc (.cells (itQ p) 40);have HM1 := Lib.hid ((hM.alloc (.cells (itQ x) 40)).alloc (.cells (itQ p) 40));have Hm1 := Lib.hid ((hm.alloc (.cells (itQ x) 40)).alloc (.cells (itQ p) 40));unfold itA at hlook;unfold itQ at hlook B1 HM1 Hm1;have c0 := B1.cell 0; have c1 := B1.cell 1; have c2 := B1.cell 2; have c3 := B1.cell 3; have c4 := B1.cell 4; have c5 := B1.cell 5; have c6 := B1.cell 6; simp at c0 c1 c2 c3 c4 c5 c6;have HN : Hid ((xs.take (k + 1)).any (missB xs) = false) := Lib.hid (by rw [HTK.out, HMF.out]; simp);clear B0 B1 hf hM hm HTK HAT HMF
      cases he : x.par.isEmpty
      all_goals
       go_wp2_with fail
       go_roundg (xs.length - (k + 1))
       case measure => omega
       case rel => exact ⟨k + 1, rfl, by omega, by simp, HN.out, HM1.out, Hm1.out⟩
    ·obtain rfl : k = xs.length := by omega
     rw [List.take_length] at hno;have HIE3 : Hid (itsE itemE xs = treeE xs) := Lib.hid (by rw [HIE2.out, hno]; rfl);clear HIE2 hno hlt hk
     go_wp2_with fail
     go_loopg [76] xs.length (fun gk i wr => Ck3 w b xs gk i wr)
     case atStart => exact ⟨0, by omega, by omega, rfl, fun j h => absurd h (by omega), hM, hm⟩
     case round =>
      clear hM hm;obtain ⟨k, rfl, hk, rfl, hno, hM, hm⟩ := hrel
      by_cases hlt : k < xs.length
      ·obtain ⟨g, off, rfl, hrow⟩ := HR.out (by omega);obtain ⟨q0, q1, q2, q3, q4, q5, q6⟩ := item_cells (hrow.mod hm id) hlt;have HNO := Lib.hid hno
       have HAT : Hid (lpB xs k = true → itsE itemE xs = 14) := Lib.hid (fun h => by
        rw [HIE3.out];unfold treeE
        rw [if_pos (List.any_eq_true.2 ⟨k, List.mem_range.2 hlt, h⟩)])
       have HAB := Lib.hid (iabove_calls (wr.alloc (.cells (itQ xs[k]) 40)) b xs xs[k] k (List.getElem?_eq_getElem hlt) (hM.alloc _) HZ.out HD.out (by omega));have Hm0 := Lib.hid (hm.alloc (.cells (itQ xs[k]) 40));have HM0 := Lib.hid (hM.alloc (.cells (itQ xs[k]) 40));clear hrow hno hM hm;generalize xs[k] = x at *;unfold itA at HAB;unfold itQ at HAB Hm0 HM0
       go_wp2_with fail
       refine HAB.out.mono ?_;rintro e w1 ⟨n, lp, rfl, hlp, _, m1⟩;have m2 := Hm0.out.trans m1;have hM2 := HM0.out.pure m1;have HLP := Lib.hid hlp;clear HAB hlp m1 Hm0 HM0 q0 q1 q2 q3 q4 q5 q6
       cases lp
       ·have HN : Hid (∀ j, j < k + 1 → lpB xs j = false) := Lib.hid (fun j hj => by
         rcases Nat.lt_or_ge j k with h | h
         ·exact HNO.out j h
         ·obtain rfl : j = k := by omega
          exact HLP.out.symm)
        clear HAT HNO
        go_wp2_with fail
        go_roundg (xs.length - (k + 1))
        case measure => omega
        case rel => exact ⟨k + 1, rfl, by omega, by simp, HN.out, hM2, m2⟩
       ·have HF := Lib.hid (HAT.out HLP.out.symm);clear HAT HNO HLP
        go_wp2_with fail
        go_ret;exact IntPost.of HF.out m2
      ·obtain rfl : k = xs.length := by omega
       have HIE4 : Hid (itsE itemE xs = firstE (depE xs) 0 xs.length) := Lib.hid (by
        rw [HIE3.out];unfold treeE;rw [if_neg];intro h;rw [List.any_eq_true] at h;obtain ⟨j, hj, h⟩ := h;rw [hno j (List.mem_range.1 hj)] at h
        cases h)
       have HNO := Lib.hid hno;clear HIE3 hno hlt hk
       go_wp2_with fail
       go_loopg [90] xs.length (fun gk i wr => Ck4 w b xs gk i wr)
       case atStart => exact ⟨0, by omega, by omega, rfl, rfl, hM, hm⟩
       case round =>
        clear hM hm;obtain ⟨k, rfl, hk, rfl, hfe, hM, hm⟩ := hrel
        by_cases hlt : k < xs.length
        ·obtain ⟨g, off, rfl, hrow⟩ := HR.out (by omega);obtain ⟨q0, q1, q2, q3, q4, q5, q6⟩ := item_cells (hrow.mod hm id) hlt;rw [firstE_step _ hlt] at hfe;have HFE := Lib.hid hfe;have HPL := Lib.hid (placed_calls (wr.alloc (.cells (itQ xs[k]) 40)) b xs xs[k] k (List.getElem?_eq_getElem hlt) (hM.alloc _) HZ.out HD.out (by omega) (HNO.out k hlt));have Hm0 := Lib.hid (hm.alloc (.cells (itQ xs[k]) 40));have HM0 := Lib.hid (hM.alloc (.cells (itQ xs[k]) 40));clear hrow hfe hM hm;generalize xs[k] = x at *;generalize depE xs k = de at *;unfold itA at HPL;unfold itQ at HPL Hm0 HM0
         go_wp2_with fail
         refine HPL.out.mono ?_;rintro e w1 ⟨rfl, m1⟩;have m2 := Hm0.out.trans m1;have hM2 := HM0.out.pure m1;clear HPL m1 Hm0 HM0 q0 q1 q2 q3 q4 q5 q6
         by_cases he : de = 0
         ·have HN : Hid (firstE (depE xs) (k + 1) (xs.length - (k + 1)) = firstE (depE xs) 0 xs.length) := Lib.hid (by
           have := HFE.out
           rwa [if_neg (by simpa using he)] at this)
          clear HFE;subst he
          go_wp2_with fail
          go_roundg (xs.length - (k + 1))
          case measure => omega
          case rel => exact ⟨k + 1, rfl, by omega, by simp, HN.out, hM2, m2⟩
         ·have he' : (de != 0) = true := by simpa using he
          have HF : Hid (itsE itemE xs = de) := Lib.hid (by
           have := HFE.out;rw [if_pos he] at this
           rw [HIE4.out, ← this])
          clear HFE
          go_wp2_with fail
          go_ret;exact IntPost.of HF.out m2
        ·obtain rfl : k = xs.length := by omega
         have HF : Hid (itsE itemE xs = 0) := Lib.hid (by rw [HIE4.out, ← hfe, Nat.sub_self]; rfl);clear hfe
         go_wp2_with fail
         go_ret;exact IntPost.of HF.out hm
theorem check_calls (w : World) (v : Value) (xs : List Itm) (hv : Its w v xs) (hz : ∀ x ∈ xs, ItB x) (hl : xs.length ≤ 2000) (hE : Env w) : Calls Tryz.prog 48 #[v] w (IntPost w (itsE itemE xs)) := checkL_calls w v xs hv (fun x hx => (hz x hx).l) hl hE
end Go.Proofs.YtelpdjhkedhppaaGreatDoor
/- Items of the reference: returns, treeFault, ItemsFault. -/
namespace Go.Proofs.YtelpdjhkedhppaaGreatDoor
open Go.RowKit
set_option maxHeartbeats 1000000 in
theorem indexN_calls (w : World) (v : Value) (xs : List Nat) (y : Nat) (hv : Sl w 3 1 v (natsV xs)) : Calls Tryz.prog 233 #[v, .int .i64 (y : Int)] w (IntPost w (idxQ (fun x => y == x) xs 0)) := by
 obtain ⟨A, n, c, rfl, hc1, hc2, hl, hr⟩ := hv
 have hln : xs.length = n := by rw [natsV_len] at hl; omega
 subst hln;have HR := Lib.hid hr;clear hl hr
 go_enter Tryz.func233, Tryz.ntmps233
 go_wp2_with fail
 go_loopg [8] xs.length (fun gk i wr => ∃ k : Nat, xs.length - k = gk ∧ k ≤ xs.length ∧ i = .int .i64 (k : Int) ∧ idxQ (fun x => y == x) xs 0 = idxQ (fun x => y == x) (xs.drop k) (k : Int) ∧ w = wr)
 case atStart => exact ⟨0, by omega, by omega, rfl, rfl, rfl⟩
 case round =>
  obtain ⟨k, rfl, hk, rfl, hix, rfl⟩ := hrel;have HIX := Lib.hid hix;clear hix
  by_cases hlt : k < xs.length
  ·obtain ⟨g, off, rfl, hrow⟩ := HR.out (by omega);have hq := hrow.cell (natsV_get xs k hlt);have hd : xs.drop k = xs[k] :: xs.drop (k + 1) := List.drop_eq_getElem_cons hlt
   have hi2 : idxQ (fun x => y == x) xs 0 = if (fun x => y == x) xs[k] then (k : Int) else idxQ (fun x => y == x) (xs.drop (k + 1)) ((k : Int) + 1) := by rw [HIX.out, hd]; rfl
   have HI2 := Lib.hid hi2;clear hd hi2 hrow HIX;generalize xs[k] = x at *
   have heq : ((y : Int) == (x : Int)) = (y == x) := by first | rfl | (exact Bool.eq_iff_iff.2 (by simp; try omega))
   cases hp : (y == x)
   ·have hp2 := heq.trans hp;have HP := Lib.hid hp;clear hp heq
    go_wp2_with fail
    go_roundg (xs.length - (k + 1))
    case measure => omega
    case rel => exact ⟨k + 1, rfl, hlt, by simp, by rw [HI2.out]; simp only [HP.out]; simp, rfl⟩
   ·have hp2 := heq.trans hp;have HP := Lib.hid hp;clear hp heq
    go_wp2_with fail
    go_ret;exact IntPost.of (by rw [HI2.out]; simp only [HP.out]; simp) (Mod.refl _ _)
  ·have hke : k = xs.length := by omega
   subst hke
   go_wp2_with fail
   go_ret;exact IntPost.of (by rw [HIX.out, List.drop_of_length_le (Nat.le_refl _)]; rfl) (Mod.refl _ _)
set_option maxHeartbeats 1000000 in
theorem containsN_calls (w : World) (v : Value) (xs : List Nat) (y : Nat) (hv : Sl w 3 1 v (natsV xs)) : Calls Tryz.prog 178 #[v, .int .i64 (y : Int)] w (BoolPost w (xs.any (fun x => y == x))) := by
 have HC := Lib.hid (indexN_calls w v xs y hv);have HI := Lib.hid (idxQ_any (fun x => y == x) xs 0 (by omega));obtain ⟨A, n, c, rfl⟩ := hv.form;clear hv
 go_enter Tryz.func178, Tryz.ntmps178
 go_wp2_with fail
 refine HC.out.mono ?_;rintro e w1 ⟨rfl, hm1⟩;generalize idxQ (fun x => y == x) xs 0 = r at *
 go_wp2_with fail
 go_ret;exact BoolPost.of HI.out.symm hm1
theorem any_contains (l : List Nat) (i : Nat) : (l.any fun x => i == x) = l.contains i := by
 rw [List.contains_eq_any_beq]
set_option maxHeartbeats 1000000 in
theorem returns_calls (w : World) (v : Value) (l : List Itm) (x : Itm) (i : Nat) (hx : l[i]? = some x) (hv : Its w v l) (hl : l.length ≤ 100000) : Calls Tryz.prog 122 #[v, .int .i64 (i : Int)] w (BoolPost w (lpB l i)) := by
 have HA := Lib.hid (rabove_calls w v l x i hx hv hl);have HL : Hid (((chn l (l.length + 1) i).any fun x => i == x) = lpB l i) := Lib.hid ((any_contains _ _).trans (lpB_more l i));obtain ⟨A, n, c, rfl⟩ := Sl.form hv;clear hv hx
 go_enter Tryz.func122, Tryz.ntmps122
 go_wp2_with fail
 refine HA.out.mono ?_;rintro e w1 ⟨A1, cap, bl, rfl, hown, hm⟩;have HC := Lib.hid (containsN_calls w1 _ _ i (Sl.of_own hown));rw [HL.out] at HC;clear hown HA HL;generalize (chn l (l.length + 1) i).length = k at *
 go_wp2_with fail
 refine HC.out.mono ?_;rintro e w2 ⟨rfl, m2⟩
 go_wp2_with fail
 go_ret;exact BoolPost.of rfl (hm.trans m2)
def Tr1 (w : World) (xs : List Itm) (gk : Nat) (i : Value) (wr : World) : Prop := ∃ k : Nat, xs.length - k = gk ∧ k ≤ xs.length ∧ i = .int .i64 (k : Int) ∧ (∀ j, j < k → lpB xs j = false) ∧ Pure w wr
def Tr2 (w : World) (xs : List Itm) (gk : Nat) (i : Value) (wr : World) : Prop := ∃ k : Nat, xs.length - k = gk ∧ k ≤ xs.length ∧ i = .int .i64 (k : Int) ∧ firstE (depE xs) k (xs.length - k) = firstE (depE xs) 0 xs.length ∧ Pure w wr
set_option maxHeartbeats 4000000 in
theorem treeFault_calls (w : World) (v : Value) (xs : List Itm) (hv : Its w v xs) (hl : xs.length ≤ 100000) : Calls Tryz.prog 59 #[v] w (IntPost w (treeE xs)) := by
 obtain ⟨A, n, c, rfl, hc1, hc2, hl2, hr⟩ := hv
 have hln : xs.length = n := by rw [itV_len] at hl2; omega
 subst hln;have HRET := Lib.hid (fun W (h : Pure w W) i x hx => returns_calls W (.slice A xs.length c) xs x i hx (Its.pure ⟨A, xs.length, c, rfl, hc1, hc2, hl2, hr⟩ h) hl);have HAB := Lib.hid (fun W (h : Pure w W) i x hx => rabove_calls W (.slice A xs.length c) xs x i hx (Its.pure ⟨A, xs.length, c, rfl, hc1, hc2, hl2, hr⟩ h) hl);have HPL := Lib.hid (fun W (h : Pure w W) s => place_calls W (.slice A xs.length c) xs s (Its.pure ⟨A, xs.length, c, rfl, hc1, hc2, hl2, hr⟩ h));have HR := Lib.hid hr;have m0 : Pure w w := Mod.refl _ _;clear hl2 hr
 go_enter Tryz.func59, Tryz.ntmps59
 go_wp2_with fail
 go_loopg [10] xs.length (fun gk i wr => Tr1 w xs gk i wr)
 case atStart => exact ⟨0, by omega, by omega, rfl, fun j h => absurd h (by omega), m0⟩
 case round =>
  clear m0;obtain ⟨k, rfl, hk, rfl, hno, hm⟩ := hrel
  by_cases hlt : k < xs.length
  ·have HNO := Lib.hid hno;have HC := Lib.hid (HRET.out wr hm k xs[k] (List.getElem?_eq_getElem hlt))
   have HAT : Hid (lpB xs k = true → treeE xs = 14) := Lib.hid (fun h => by
    unfold treeE
    rw [if_pos (List.any_eq_true.2 ⟨k, List.mem_range.2 hlt, h⟩)])
   clear hno
   cases hlp : lpB xs k
   ·rw [hlp] at HC
    have HN : Hid (∀ j, j < k + 1 → lpB xs j = false) := Lib.hid (fun j hj => by
     rcases Nat.lt_or_ge j k with h | h
     ·exact HNO.out j h
     ·obtain rfl : j = k := by omega
      exact hlp)
    clear HAT HNO hlp
    go_wp2_with fail
    refine HC.out.mono ?_;rintro e w1 ⟨rfl, m1⟩
    go_wp2_with fail
    go_roundg (xs.length - (k + 1))
    case measure => omega
    case rel => exact ⟨k + 1, rfl, by omega, by simp, HN.out, hm.trans m1⟩
   ·rw [hlp] at HC;have HF := Lib.hid (HAT.out hlp);clear HAT HNO hlp
    go_wp2_with fail
    refine HC.out.mono ?_;rintro e w1 ⟨rfl, m1⟩
    go_wp2_with fail
    go_ret;exact IntPost.of HF.out (hm.trans m1)
  ·obtain rfl : k = xs.length := by omega
   have HIE : Hid (treeE xs = firstE (depE xs) 0 xs.length) := Lib.hid (by
    unfold treeE;rw [if_neg];intro h;rw [List.any_eq_true] at h;obtain ⟨j, hj, h⟩ := h;rw [hno j (List.mem_range.1 hj)] at h
    cases h)
   have HNO := Lib.hid hno;clear hno hlt hk HRET
   go_wp2_with fail
   go_loopg [19] xs.length (fun gk i wr => Tr2 w xs gk i wr)
   case atStart => exact ⟨0, by omega, by omega, rfl, rfl, hm⟩
   case round =>
    clear hm;obtain ⟨k, rfl, hk, rfl, hfe, hm⟩ := hrel
    by_cases hlt : k < xs.length
    ·obtain ⟨g, off, rfl, hrow⟩ := HR.out (by omega);have HROW := Lib.hid hrow;have q5 := (item_cells (hrow.mod hm id) hlt).2.2.2.2.2.1;have HX : Hid (xs[k]? = some xs[k]) := Lib.hid (List.getElem?_eq_getElem hlt);have HQ5 := Lib.hid (fun W (h : Pure w W) => (item_cells (hrow.mod h id) hlt).2.2.2.2.2.1);have HCH := Lib.hid (chn_noloop xs HNO.out k hlt);have HDE : Hid (depE xs k = if ruleB xs xs[k] then 16 else if 4 < (chn xs xs.length k).length then 2 else 0) := Lib.hid (by unfold depE; rw [HX.out]);rw [firstE_step _ hlt] at hfe;have HFE := Lib.hid hfe
     have HRU : Hid (ruleB xs xs[k] = (decide (xs[k].par ≠ []) && match plc xs xs[k].par with
      | none => false
      | some k => match xs[k]? with
       | none => false
       | some p => decide (p.kind ≠ 1) && decide (p.kind ≠ 3))) := Lib.hid rfl
     have HPK := Lib.hid (HPL.out wr hm xs[k].par);have HABK := Lib.hid (fun W h => HAB.out W h k xs[k] HX.out)
     have i1 : (0 : Int) ≤ (k : Int) := by omega
     have i2 : (k : Int) < (xs.length : Int) := by omega
     clear hrow hfe;generalize hxk : xs[k] = x at *;clear hxk;generalize hrb : ruleB xs x = rb at *;clear hrb;rw [show decide (x.par ≠ []) = !x.par.isEmpty by cases x.par <;> simp] at HRU
     -- the part behind the rule
     have FIN : Hid (∀ n : Nat, n = (chn xs (xs.length + 1) k).length → rb = false → depE xs k = if 4 < n then 2 else 0) := Lib.hid (fun n hn h => by rw [HDE.out, h, hn, HCH.out]; rfl);have FIN2 : Hid (rb = true → depE xs k = 16) := Lib.hid (fun h => by rw [HDE.out, h]; rfl);clear HDE HCH HX;generalize depE xs k = de at *;obtain ⟨z, hzz⟩ : ∃ z, plcZ xs x.par = z := ⟨_, rfl⟩;rw [hzz] at HPK;have HZZ := Lib.hid hzz;clear hzz
     go_wp2_with fail
     refine HPK.out.mono ?_;rintro e w1 ⟨rfl, m1⟩;have m1 := hm.trans m1;have q5 := HQ5.out w1 m1;clear hm HPK HPL
     go_upto_region 11 with (fail)
     go_cut [54] (fun p wx => p = .bool rb ∧ w1 = wx)
     case first =>
      clear HABK FIN FIN2 HFE HIE HNO
      cases he : x.par.isEmpty
      ·rw [he] at HRU
       cases hp : plc xs x.par with
       | none =>
        have hrb : rb = false := by rw [HRU.out, hp]; rfl
        have hz : z = -1 := by rw [← HZZ.out]; unfold plcZ; rw [hp]
        have HRB := Lib.hid hrb;clear hrb hp HRU HZZ;subst hz
        go_wp2_with fail
        go_meet;exact ⟨by rw [HRB.out], rfl⟩
       | some j =>
        have hjl := (plc_lt _ _ _ hp).1
        have hz : z = (j : Int) := by rw [← HZZ.out]; unfold plcZ; rw [hp]
        have q2 := (item_cells (HROW.out.mod m1 id) hjl).2.2.1
        have hrb : rb = (decide (xs[j].kind ≠ 1) && decide (xs[j].kind ≠ 3)) := by
         rw [HRU.out, hp];simp only [List.getElem?_eq_getElem hjl]
         rfl
        have j1 : (0 : Int) ≤ (j : Int) := by omega
        have j2 : (j : Int) < (xs.length : Int) := by omega
        clear hp HRU HZZ;subst hz;generalize xs[j].kind = kd at *
        by_cases h1 : kd = 1
        ·have h1' : (kd != 1) = false := by simpa using h1
         have hrb2 : rb = false := by rw [hrb, h1]; rfl
         have HRB := Lib.hid hrb2;clear hrb hrb2 h1
         go_wp2_with fail
         go_meet;exact ⟨by rw [HRB.out], rfl⟩
        ·have h1' : (kd != 1) = true := by simpa using h1
         by_cases h3 : kd = 3
         ·have h3' : (kd != 3) = false := by simpa using h3
          have hrb2 : rb = false := by rw [hrb, h3]; rfl
          have HRB := Lib.hid hrb2;clear hrb hrb2 h1 h3
          go_wp2_with fail
          go_meet;exact ⟨by rw [HRB.out], rfl⟩
         ·have h3' : (kd != 3) = true := by simpa using h3
          have hrb2 : rb = true := by rw [hrb]; simp [h1, h3]
          have HRB := Lib.hid hrb2;clear hrb hrb2 h1 h3
          go_wp2_with fail
          go_meet;exact ⟨by rw [HRB.out], rfl⟩
      ·have hrb : rb = false := by rw [HRU.out, he]; rfl
       have HRB := Lib.hid hrb;clear hrb HRU
       go_wp2_with fail
       go_meet;exact ⟨by rw [HRB.out], rfl⟩
     case rest =>
      obtain ⟨rfl, rfl⟩ := hcut;clear HRU q5 HQ5 HROW
      cases rb
      ·have HAW := Lib.hid (HABK.out _ m1);clear FIN2 HABK
       go_wp2_with fail
       refine HAW.out.mono ?_;rintro e w2 ⟨A1, cap, bl, rfl, _, m2⟩;have m3 := m1.trans m2;have HFN := Lib.hid (FIN.out _ rfl (by simp));clear HAW FIN m1 m2;generalize (chn xs (xs.length + 1) k).length = n at *
       by_cases h4 : 4 < n
       ·have h4' : (4 : Int) < (n : Int) := by omega
        have hd : de = 2 := by rw [HFN.out, if_pos h4]
        have HF : Hid (treeE xs = 2) := Lib.hid (by
         rw [HIE.out, ← HFE.out, hd]
         rfl)
        clear HFE HFN hd h4
        go_wp2_with fail
        go_ret;exact IntPost.of HF.out m3
       ·have h4' : ¬ ((4 : Int) < (n : Int)) := by omega
        have hd : de = 0 := by rw [HFN.out, if_neg h4]
        have HN : Hid (firstE (depE xs) (k + 1) (xs.length - (k + 1)) = firstE (depE xs) 0 xs.length) := Lib.hid (by
         have := HFE.out
         rwa [if_neg (by simpa using hd)] at this)
        clear HFE HFN hd h4
        go_wp2_with fail
        go_roundg (xs.length - (k + 1))
        case measure => omega
        case rel => exact ⟨k + 1, rfl, by omega, by simp, HN.out, m3⟩
      ·have hd : de = 16 := FIN2.out (by simp)
       have HF : Hid (treeE xs = 16) := Lib.hid (by
        rw [HIE.out, ← HFE.out, hd]
        rfl)
       clear HFE FIN FIN2 HABK hd
       go_wp2_with fail
       go_ret;exact IntPost.of HF.out m1
    ·obtain rfl : k = xs.length := by omega
     have HF : Hid (treeE xs = 0) := Lib.hid (by rw [HIE.out, ← hfe, Nat.sub_self]; rfl);clear hfe
     go_wp2_with fail
     go_ret;exact IntPost.of HF.out hm
end Go.Proofs.YtelpdjhkedhppaaGreatDoor
/- Items of the reference: ItemsFault. -/
namespace Go.Proofs.YtelpdjhkedhppaaGreatDoor
open Go.RowKit
def Jf1 (w : World) (xs : List Itm) (gk : Nat) (lv i : Value) (wr : World) : Prop := ∃ k : Nat, xs.length - k = gk ∧ k ≤ xs.length ∧ lv = .string ⟨(pid xs k).toArray⟩ ∧ i = .int .i64 (k : Int) ∧ ordE itemE (pid xs k) (xs.drop k) = ordE itemE [] xs ∧ Pure w wr
def Jf2 (w : World) (xs : List Itm) (gk : Nat) (i : Value) (wr : World) : Prop := ∃ k : Nat, xs.length - k = gk ∧ k ≤ xs.length ∧ i = .int .i64 (k : Int) ∧ (xs.take k).any (missB xs) = false ∧ Pure w wr
theorem missB_plcZ (l : List Itm) (x : Itm) : missB l x = (!x.par.isEmpty && decide (plcZ l x.par < 0)) := by
 unfold missB plcZ;rw [show decide (x.par ≠ []) = !x.par.isEmpty by cases x.par <;> simp]
 cases plc l x.par with
 | none => rfl
 | some k =>
  rw [show decide (((k : Nat) : Int) < 0) = false by simp]
  rfl
set_option maxHeartbeats 8000000 in
theorem itemsFaultL_calls (w : World) (v : Value) (xs : List Itm) (hv : Its w v xs) (hz : ∀ x ∈ xs, ItL x) (hl : xs.length ≤ 2000) (hE : Env w) : Calls Tryz.prog 11 #[v] w (IntPost w (itsE itemE xs)) := by
 obtain ⟨A, n, c, rfl, hc1, hc2, hl2, hr⟩ := hv
 have hln : xs.length = n := by rw [itV_len] at hl2; omega
 subst hln;have HTF := Lib.hid (fun W (h : Pure w W) => treeFault_calls W (.slice A xs.length c) xs (Its.pure ⟨A, xs.length, c, rfl, hc1, hc2, hl2, hr⟩ h) (by omega));have HPL := Lib.hid (fun W (h : Pure w W) s => place_calls W (.slice A xs.length c) xs s (Its.pure ⟨A, xs.length, c, rfl, hc1, hc2, hl2, hr⟩ h));have HR := Lib.hid hr;have HZ := Lib.hid hz;have HE := Lib.hid hE;have HIE : Hid (itsE itemE xs = if ordE itemE [] xs ≠ 0 then ordE itemE [] xs else if xs.any (missB xs) then 8 else treeE xs) := Lib.hid (by unfold itsE; rw [if_neg (by omega)])
 have n1 : ¬ ((2000 : Int) < (xs.length : Int)) := by omega
 have m0 : Pure w w := Mod.refl _ _;clear hl2 hr hz hE
 go_enter Tryz.func11, Tryz.ntmps11
 go_wp2_with fail
 go_loopg [3, 14] xs.length (fun gk lv i wr => Jf1 w xs gk lv i wr)
 case atStart => exact ⟨0, by omega, by omega, rfl, rfl, rfl, m0⟩
 case round =>
  clear m0;obtain ⟨k, rfl, hk, rfl, rfl, hord, hm⟩ := hrel
  by_cases hlt : k < xs.length
  ·obtain ⟨g, off, rfl, hrow⟩ := HR.out (by omega);obtain ⟨q0, q1, q2, q3, q4, q5, q6⟩ := item_cells (hrow.mod hm id) hlt;have HST := Lib.hid (ordE_step (E := itemE) hlt (pid xs k));rw [hord] at HST;have HPI := Lib.hid (pid_succ hlt);have HIF := Lib.hid (itemFaultL_calls (wr.alloc (.cells (itQ xs[k]) 40)) xs[k] (HZ.out _ (List.getElem_mem hlt)) (HE.out.pure (hm.alloc _)));have HB0 := Lib.hid (Blk.new wr 40 (itQ xs[k]));have Hm0 := Lib.hid (hm.alloc (.cells (itQ xs[k]) 40));obtain ⟨p, hp⟩ : ∃ p, pid xs k = p := ⟨_, rfl⟩;rw [hp] at HST ⊢;clear hrow hord hm hp;generalize xs[k] = x at *;obtain ⟨e1, he1⟩ : ∃ e1, itemE x = e1 := ⟨_, rfl⟩;rw [he1] at HST HIF;clear he1;unfold itA at HIF;unfold itQ at HIF HB0 Hm0
   go_wp2_with fail
   refine HIF.out.mono ?_;rintro e w1 ⟨rfl, m1⟩;have B1 := HB0.out.mod m1 id;have m2 := Hm0.out.trans m1;clear HIF HB0 Hm0 m1 q0 q1 q2 q3 q4 q5 q6;generalize wr.heap.size = gs at *
   by_cases he0 : e1 = 0
   ·subst he0;have c0 := B1.cell 0; have c1 := B1.cell 1; have c2 := B1.cell 2; have c3 := B1.cell 3; have c4 := B1.cell 4; have c5 := B1.cell 5; have c6 := B1.cell 6; simp at c0 c1 c2 c3 c4 c5 c6;clear B1
    cases hle : leS x.id p
    ·have hle2 : (Op.bytesLess x.id p || x.id == p) = false := hle
     have HS1 : Hid (ordE itemE [] xs = ordE itemE x.id (xs.drop (k + 1))) := Lib.hid (by
      rw [HST.out, if_neg (by simp), if_neg];intro h;rw [leS_iff.2 h] at hle
      cases hle)
     clear HST hle
     go_wp2_with fail
     go_roundg (xs.length - (k + 1))
     case measure => omega
     case rel => exact ⟨k + 1, rfl, by omega, by rw [HPI.out], by simp, by rw [HPI.out, HS1.out], m2⟩
    ·have hle2 : (Op.bytesLess x.id p || x.id == p) = true := hle
     have HF : Hid (itsE itemE xs = 7) := Lib.hid (by
      have : ordE itemE [] xs = 7 := by rw [HST.out, if_neg (by simp), if_pos (leS_iff.1 hle)]
      rw [HIE.out, this]
      rfl)
     clear HST hle HIE
     go_wp2_with fail
     go_ret;exact IntPost.of HF.out m2
   ·have he0' : (e1 != 0) = true := by simpa using he0
    have HF : Hid (itsE itemE xs = e1) := Lib.hid (by
     have : ordE itemE [] xs = e1 := by rw [HST.out, if_pos he0]
     rw [HIE.out, this, if_pos he0])
    clear HST HIE B1
    go_wp2_with fail
    go_ret;exact IntPost.of HF.out m2
  ·have hke : k = xs.length := by omega
   have ho : ordE itemE [] xs = 0 := by
    rw [← hord, hke, List.drop_of_length_le (Nat.le_refl _)]
    rfl
   have HIE2 : Hid (itsE itemE xs = if xs.any (missB xs) then 8 else treeE xs) := Lib.hid (by rw [HIE.out, ho]; rfl);clear ho HIE hord hke
   go_wp2_with fail
   go_loopg [32] xs.length (fun gk i wr => Jf2 w xs gk i wr)
   case atStart => exact ⟨0, by omega, by omega, rfl, rfl, hm⟩
   case round =>
    clear hm hlt hk;obtain ⟨k, rfl, hk, rfl, hno, hm⟩ := hrel
    by_cases hlt : k < xs.length
    ·obtain ⟨g, off, rfl, hrow⟩ := HR.out (by omega);obtain ⟨q0, q1, q2, q3, q4, q5, q6⟩ := item_cells (hrow.mod hm id) hlt;have HTK := Lib.hid (any_take_snoc (missB xs) xs k hlt);rw [hno] at HTK;have HAT := Lib.hid (fun h => any_of_at (p := missB xs) hlt h);have HMF := Lib.hid (missB_plcZ xs xs[k]);have HPK := Lib.hid (HPL.out (wr.alloc (.cells (itQ xs[k]) 40)) (hm.alloc _) xs[k].par);have Hm0 := Lib.hid (hm.alloc (.cells (itQ xs[k]) 40));clear hrow hno hm;generalize xs[k] = x at *;obtain ⟨z, hz⟩ : ∃ z, plcZ xs x.par = z := ⟨_, rfl⟩;rw [hz] at HMF HPK;clear hz;unfold itQ at HPK Hm0
     cases he : x.par.isEmpty
     ·rw [he] at HMF
      by_cases hz0 : z < 0
      ·have HF : Hid (itsE itemE xs = 8) := Lib.hid (by rw [HIE2.out, HAT.out (by rw [HMF.out, decide_eq_true hz0]; rfl)]; rfl);clear HTK HAT HMF
       go_wp2_with fail
       refine HPK.out.mono ?_;rintro e w1 ⟨rfl, m1⟩;have m2 := Hm0.out.trans m1;clear HPK
       go_wp2_with fail
       go_ret;exact IntPost.of HF.out m2
      ·have HN : Hid ((xs.take (k + 1)).any (missB xs) = false) := Lib.hid (by rw [HTK.out, HMF.out, decide_eq_false hz0]; rfl);clear HTK HAT HMF
       go_wp2_with fail
       refine HPK.out.mono ?_;rintro e w1 ⟨rfl, m1⟩;have m2 := Hm0.out.trans m1;clear HPK
       go_wp2_with fail
       go_roundg (xs.length - (k + 1))
       case measure => omega
       case rel => exact ⟨k + 1, rfl, by omega, by simp, HN.out, m2⟩
     ·rw [he] at HMF;have HN : Hid ((xs.take (k + 1)).any (missB xs) = false) := Lib.hid (by rw [HTK.out, HMF.out]; rfl);clear HTK HAT HMF HPK
      go_wp2_with fail
      go_roundg (xs.length - (k + 1))
      case measure => omega
      case rel => exact ⟨k + 1, rfl, by omega, by simp, HN.out, Hm0.out⟩
    ·obtain rfl : k = xs.length := by omega
     rw [List.take_length] at hno;have HF : Hid (itsE itemE xs = treeE xs) := Lib.hid (by rw [HIE2.out, hno]; rfl);have HT := Lib.hid (HTF.out _ hm);rw [← HF.out] at HT;clear HIE2 hno HTF HPL
     go_wp2_with fail
     refine HT.out.mono ?_;rintro e w1 ⟨rfl, m1⟩
     go_wp2_with fail
     go_ret;exact IntPost.of rfl (hm.trans m1)
theorem itemsFault_calls (w : World) (v : Value) (xs : List Itm) (hv : Its w v xs) (hz : ∀ x ∈ xs, ItB x) (hl : xs.length ≤ 2000) (hE : Env w) : Calls Tryz.prog 11 #[v] w (IntPost w (itsE itemE xs)) := itemsFaultL_calls w v xs hv (fun x hx => (hz x hx).l) hl hE
end Go.Proofs.YtelpdjhkedhppaaGreatDoor
