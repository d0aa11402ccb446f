/- Texts of the proof of ItemTexts, put together: LaySum, SrtA, JoinS, LayLen, ItxW, ItmS, ItlW, RitV, LayK, EqI, Chg, LawItemTexts, LaidD, LaidI, LaidT. -/
import Derived.Test.YtelpdjhkedhppaaGreatDoorItemTextsZ6
import Derived.Test.YtelpdjhkedhppaaGreatDoorItemTextsZ7
import Derived.Test.YtelpdjhkedhppaaGreatDoorItemTextsZ11
import Derived.Test.YtelpdjhkedhppaaGreatDoorItemTextsZ12
import Derived.Test.YtelpdjhkedhppaaGreatDoorItemTextsZ14
import Derived.Test.YtelpdjhkedhppaaGreatDoorItemTextsZ17
import Derived.Test.YtelpdjhkedhppaaGreatDoorItemTextsZ18
import Derived.Test.YtelpdjhkedhppaaGreatDoorItemTextsZ25
import Derived.Test.YtelpdjhkedhppaaGreatDoorItemTextsZ28
import Derived.Test.YtelpdjhkedhppaaGreatDoorItemTextsZ37
import Derived.Test.YtelpdjhkedhppaaGreatDoorItemTextsZ38
import Derived.Test.YtelpdjhkedhppaaGreatDoorItemTextsZ39
import Derived.Test.YtelpdjhkedhppaaGreatDoorItemTextsZ40
import Derived.Test.YtelpdjhkedhppaaGreatDoorItemTextsZ41
import Derived.Ground.NamesProg
import Derived.Shelf.Sort.Plain
import Derived.Shelf.Slices.In.SortNone
import Derived.Shelf.Slices.CompactS
import Derived.Shelf.Strings.OnBuilder
import Derived.Shelf.SlIter.Nil
import Derived.Shelf.SortM.Plain
import Derived.Shelf.SortM.SortNone
import Derived.Ground.GgzProg
import Derived.Ground.SlgmProg
import Derived.Test.YtelpdjhkedhppaaGreatDoorProg
import Derived.Sort.OwnSorted
import Derived.Lib.SlicesCompact
import Derived.Shelf.Strings.BuilderF
import Derived.Deep.DeepCutAuto
import Derived.Deep.CutBlock
import Derived.Shelf.Strings.Count
import Derived.Deep.LoopGhost
import Derived.TacticsInMore
import Derived.Shelf.SlGeneric
import Derived.Ground.SlgqProg
import Derived.Shelf.SlicesQ.Equal
import Derived.Shelf.Small.Bits
import Derived.Shelf.Small.Strs
import Derived.Laws.StructEq
import Derived.Lib.ItoaNum
import Derived.Test.YtelpdjhkedhppaaGreatDoorRows
import Derived.Stop.LaidErr
import Derived.Lib.LaidTab
import Derived.Lib.LaidU8T
import Derived.ProofKit
set_option linter.unusedVariables false
set_option linter.unusedSimpArgs false
set_option maxRecDepth 100000
/-
 DERIVED: THE SHELF's CONTRACTS AT THIS DUMP, IN PLAIN WORDS (tools/lay-plain.mjs out of 'YtelpdjhkedhppaaGreatDoorLaySum.lean', which tools/lay-shelf.mjs wrote): THE SAME DECLARATIONS UNDER THE SAME NAMES: 'import', 'namespace', 'open', 'def', 'theorem' AND NOTHING ELSE: no command of the shelf's: FOR A HAND-IN. Each laying: the table of numbers ('.._ren') and one theorem, a field a fact of the dump's own or the kernel's comparison; each contract: ONE APPLICATION.
-/
namespace Go.Proofs
open Go.Shelf
def Tryz.lays156_ren : Go.Shelf.Ren := ⟨fun | 156 => 54 | 165 => 116 | 166 => 53 | 169 => 56 | 240 => 115 | 241 => 174 | 276 => 173 | 277 => 224 | n => n, fun | 31 => 55 | 9 => 9 | 3 => 3 | 4 => 4 | 0 => 0 | 20 => 20 | 72 => 79 | 76 => 85 | 70 => 76 | 37 => 77 | 75 => 84 | 127 => 145 | 164 => 191 | 5 => 5 | 80 => 43 | n => n, fun | n => n⟩
theorem Tryz.lays156 : Go.Proofs.Lays.n156 Tryz.prog Tryz.lays156_ren := {
 mixed := by kernel_rfl
 f156 := Tryz.func54.trans (congrArg some (by kernel_rfl))
 f165 := Tryz.func116.trans (congrArg some (by kernel_rfl))
 f166 := Tryz.func53.trans (congrArg some (by kernel_rfl))
 f169 := Tryz.func56.trans (congrArg some (by kernel_rfl))
 f240 := Tryz.func115.trans (congrArg some (by kernel_rfl))
 f241 := Tryz.func174.trans (congrArg some (by kernel_rfl))
 f276 := Tryz.func173.trans (congrArg some (by kernel_rfl))
 f277 := Tryz.func224.trans (congrArg some (by kernel_rfl))
 t0 := Tryz.underlying0
 a0 := Tryz.isAgg0
 z0 := Tryz.sizeOf0
 v0 := Tryz.zeroValue0
 t3 := Tryz.underlying3
 a3 := Tryz.isAgg3
 z3 := Tryz.sizeOf3
 v3 := Tryz.zeroValue3
 t4 := Tryz.underlying4
 a4 := Tryz.isAgg4
 z4 := Tryz.sizeOf4
 v4 := Tryz.zeroValue4
 t9 := Tryz.underlying9
 a9 := Tryz.isAgg9
 z9 := Tryz.sizeOf9
 v9 := Tryz.zeroValue9
 t20 := Tryz.underlying20
 a20 := Tryz.isAgg20
 z20 := Tryz.sizeOf20
 v20 := Tryz.zeroValue20
 t31 := Tryz.underlying55
 a31 := Tryz.isAgg55
 z31 := Tryz.sizeOf55
 v31 := Tryz.zeroValue55
 t37 := Tryz.underlying77
 a37 := Tryz.isAgg77
 z37 := Tryz.sizeOf77
 v37 := Tryz.zeroValue77
 t70 := Tryz.underlying76
 a70 := Tryz.isAgg76
 z70 := Tryz.sizeOf76
 v70 := Tryz.zeroValue76
 t72 := Tryz.underlying79
 a72 := Tryz.isAgg79
 z72 := Tryz.sizeOf79
 v72 := Tryz.zeroValue79
 t75 := Tryz.underlying84
 a75 := Tryz.isAgg84
 z75 := Tryz.sizeOf84
 v75 := Tryz.zeroValue84
 t76 := Tryz.underlying85
 a76 := Tryz.isAgg85
 z76 := Tryz.sizeOf85
 v76 := Tryz.zeroValue85
 t127 := Tryz.underlying145
 a127 := Tryz.isAgg145
 z127 := Tryz.sizeOf145
 v127 := Tryz.zeroValue145
 t164 := Tryz.underlying191
 a164 := Tryz.isAgg191
 z164 := Tryz.sizeOf191
 v164 := Tryz.zeroValue191 }
end Go.Proofs
/- Sorting, Compact, Join, the sorted keys of a map (the shelf's contracts in my words). -/
namespace Go.Proofs.YtelpdjhkedhppaaGreatDoor
open Go.RowKit Go.Sort
end Go.Proofs.YtelpdjhkedhppaaGreatDoor
namespace Go.Proofs.YtelpdjhkedhppaaGreatDoor
open Go.RowKit
end Go.Proofs.YtelpdjhkedhppaaGreatDoor
namespace Go.Proofs.YtelpdjhkedhppaaGreatDoor
open Go.RowKit
end Go.Proofs.YtelpdjhkedhppaaGreatDoor
namespace Go.Proofs.YtelpdjhkedhppaaGreatDoor
open Go.RowKit Go.Maps Go.Sort Go.Shelf
end Go.Proofs.YtelpdjhkedhppaaGreatDoor
/- strings.Join. -/
namespace Go.Proofs.YtelpdjhkedhppaaGreatDoor
open Go.RowKit Go.Sort
theorem bldExtraJ : Builder.Extra Tryz.prog Tryz.lays156_ren where
 sizeBuilder := by kernel_rfl
 liesBuilder := by kernel_rfl
 t5 := Tryz.underlying5
 a5 := Tryz.isAgg5
 z5 := Tryz.sizeOf5
 v5 := Tryz.zeroValue5
 infoByte := by kernel_rfl
 cellsByte := by kernel_rfl
 sizeByte := by kernel_rfl
 neB5 := by decide
theorem map_strs (xs : List Str) : (xs.map fun s => (⟨s.toArray⟩ : ByteArray)).map (·.data.toList) = xs := by
 induction xs with
 | nil => rfl
 | cons x xs ih => simp only [List.map_cons, ih]
theorem join_calls (w : World) (v : Value) (xs : List Str) (sep : Str) (h : Sl w 9 1 v (strsV xs)) (hN : xs.length ≤ 1000000) (hlen : (Lib.join xs sep).length ≤ 100000000) : Calls Tryz.prog 54 #[v, .string ⟨sep.toArray⟩] w (StrPost1 w (Lib.join xs sep)) := by
 obtain ⟨A, n, c, rfl, h1, h2, h3, h4⟩ := h
 have hn : xs.length = n := by rw [strsV_len] at h3; omega
 subst hn
 by_cases h0 : xs.length = 0
 ·obtain rfl := List.eq_nil_of_length_eq_zero h0;refine (Any.strings_Join_none Tryz.lays156 bldExtraJ A c ⟨sep.toArray⟩ w).mono ?_;rintro e w' ⟨rfl, rfl⟩;exact ⟨rfl, Mod.refl _ _⟩
 ·obtain ⟨g, off, rfl, hrow⟩ := h4 (by omega);have e := map_strs xs
  have hj := Any.strings_Join Tryz.lays156 bldExtraJ g off c (xs.map fun s => (⟨s.toArray⟩ : ByteArray)) ⟨sep.toArray⟩ w (fun j x hx => by
   rw [List.getElem?_map] at hx
   cases hxj : xs[j]? with
   | none => rw [hxj] at hx; cases hx
   | some s =>
    rw [hxj] at hx
    injection hx with hx
    subst hx;refine hrow.cell ?_
    simp [strsV, hxj]) hrow.lt (by rw [List.length_map]; omega) (by rw [List.length_map]; exact h1) (by rw [e]; show (Lib.join xs sep).length ≤ _; omega)
  rw [e, List.length_map] at hj;refine hj.mono ?_;rintro e w' ⟨rfl, hb⟩;exact ⟨rfl, Mod.of_below hb⟩
end Go.Proofs.YtelpdjhkedhppaaGreatDoor
/-
 DERIVED: THE SHELF's CONTRACTS AT THIS DUMP, IN PLAIN WORDS (tools/lay-plain.mjs out of 'YtelpdjhkedhppaaGreatDoorLayLen.lean', which tools/lay-shelf.mjs wrote): THE SAME DECLARATIONS UNDER THE SAME NAMES: 'import', 'namespace', 'open', 'def', 'theorem' AND NOTHING ELSE: no command of the shelf's: FOR A HAND-IN. Each laying: the table of numbers ('.._ren') and one theorem, a field a fact of the dump's own or the kernel's comparison; each contract: ONE APPLICATION.
-/
namespace Go.Proofs
open Go.Shelf
def Tryz.lays170_ren : Go.Shelf.Ren := ⟨fun | 170 => 55 | n => n, fun | 70 => 76 | 3 => 3 | 0 => 0 | 72 => 79 | 37 => 77 | 5 => 5 | n => n, fun | n => n⟩
theorem Tryz.lays170 : Go.Proofs.Lays.n170 Tryz.prog Tryz.lays170_ren := {
 mixed := by kernel_rfl
 f170 := Tryz.func55.trans (congrArg some (by kernel_rfl))
 t0 := Tryz.underlying0
 a0 := Tryz.isAgg0
 z0 := Tryz.sizeOf0
 v0 := Tryz.zeroValue0
 t3 := Tryz.underlying3
 a3 := Tryz.isAgg3
 z3 := Tryz.sizeOf3
 v3 := Tryz.zeroValue3
 t37 := Tryz.underlying77
 a37 := Tryz.isAgg77
 z37 := Tryz.sizeOf77
 v37 := Tryz.zeroValue77
 t70 := Tryz.underlying76
 a70 := Tryz.isAgg76
 z70 := Tryz.sizeOf76
 v70 := Tryz.zeroValue76
 t72 := Tryz.underlying79
 a72 := Tryz.isAgg79
 z72 := Tryz.sizeOf79
 v72 := Tryz.zeroValue79 }
end Go.Proofs
/- Text of package intake. -/
namespace Go.Proofs.YtelpdjhkedhppaaGreatDoor
open Go.RowKit
theorem blenI_calls (w : World) (b : Nat) (l : Str) (h : IsB w b l) : Calls Tryz.prog 55 #[.pointer (some ⟨b, 0, none⟩)] w (fun e w' => e = .returned (.int .i64 (l.length : Int)) ∧ w' = w) := by
 refine (Any.Builder_Len_f Tryz.lays170 b b (Lib.byteCells l) w h.1).mono ?_;rintro e w' ⟨rfl, rfl⟩;exact ⟨by rw [byteCells_len], rfl⟩
def U8Bk (w : World) (k : Nat) : Prop := ∃ arr fr, w.heap[k]? = some (.cells arr 5 fr)
def KeepB (b : Nat) (w w' : World) : Prop := Mod (fun k => b ≤ k ∧ (k = b ∨ U8Bk w k)) w w'
theorem KeepB.of {b : Nat} {w w' : World} (h : Below b w w') (ho : Lib.OthersKept 5 (some b) w w') : KeepB b w w' :=
 ⟨h.os, h.tape, h.output, h.size, fun k hk hs => by
  by_cases hb : k < b
  ·exact h.block k hb
  ·obtain ⟨o, he⟩ : ∃ o, w.heap[k]? = some o := ⟨_, Array.getElem?_eq_getElem hk⟩;rw [he]
   exact ho k o he (fun e => hs ⟨by omega, .inl (by injection e)⟩) (fun arr fr e => hs ⟨by omega, .inr ⟨arr, fr, by rw [he, e]⟩⟩)⟩
theorem KeepB.sl {b : Nat} {w w' : World} {v : Value} {xs : List Value} {size : Nat} (h : KeepB b w w') (hs : Sl w 9 size v xs) (hb : ∀ arr fr, w.heap[b]? ≠ some (.cells arr 9 fr)) : Sl w' 9 size v xs := Sl.mod hs h (fun g arr fr hg hh => by
 rcases hh.2 with rfl | ⟨arr2, fr2, h2⟩
 ·exact hb _ _ hg
 ·rw [h2] at hg
  injection hg with hg
  injection hg with _ hg
  exact absurd hg (by decide))
theorem KeepB.pure {b : Nat} {a w w' : World} (h : KeepB b w w') (hp : Pure a w) (hb : a.heap.size ≤ b) : Pure a w' := hp.trans' h (fun i hi hlt => by have := hi.1; omega)
theorem IsB.noS {w : World} {b : Nat} {l : Str} (h : IsB w b l) : ∀ arr fr, w.heap[b]? ≠ some (.cells arr 9 fr) := fun arr fr e => by
 obtain ⟨h1, h2⟩ := h
 have key : ∀ p, Lib.BuilderAtF 79 5 b b p (Lib.byteCells l) w → False := by
  rintro p ⟨k1, v, k2, k3, k4⟩;rw [k2] at e
  injection e with e
  injection e with _ e
  exact absurd e (by decide)
 rcases h1 with h1 | h1
 ·exact key _ h1
 ·exact key _ h1
def WsPost (w : World) (b : Nat) (l : Str) (n : Nat) (e : Ending) (w' : World) : Prop := e = .returned (.tuple #[.int .i64 (n : Int), .nilIface]) ∧ IsB w' b l ∧ KeepB b w w'
theorem wsI_calls (w : World) (b : Nat) (l m : Str) (h : IsB w b l) (hl : l.length ≤ 1000000) (hm : m.length ≤ 1000000) :
  Calls Tryz.prog 53 #[.pointer (some ⟨b, 0, none⟩), .string ⟨m.toArray⟩] w (WsPost w b (l ++ m) m.length) := by
 have hz : (⟨m.toArray⟩ : ByteArray).size = m.length := by simp [ByteArray.size]
 refine (Any.Builder_WriteString_k lays166 bldExtra b b (Lib.byteCells l) ⟨m.toArray⟩ w h.1 (by rw [byteCells_len, hz]; omega) h.2).mono ?_;rintro e w' ⟨rfl, h1, h2, h3⟩;refine ⟨by rw [hz], ⟨.inr ?_, Nat.le_trans h.2 h2.size⟩, KeepB.of h2 h3⟩;rw [show Lib.strCells (⟨m.toArray⟩ : ByteArray) = Lib.byteCells m from rfl, byteCells_app] at h1;exact h1
theorem kindWord1 (n : Int) (w : World) : Calls Tryz.prog 50 #[.int .i64 n] w (StrPost1 w (kwS n)) := (kindWord_calls n w).mono (fun e w' h => ⟨h.1, h.2 ▸ Mod.refl _ _⟩)
theorem itoaP_calls (w : World) (n : Int) (h0 : -1099511627776 ≤ n) (h1 : n ≤ 1099511627776) (hP : Pow w) : Calls Tryz.prog 51 #[.int .i64 n] w (StrPost1 w (Lib.itoa n)) := itoaW_calls w n h0 h1 hP
def ItxPost (w : World) (l : List Itm) (e : Ending) (w' : World) : Prop := e = .returned (.tuple #[.string ⟨(if itxE l = 0 then itsT l else []).toArray⟩, .int .i64 (itxE l)]) ∧ Pure w w'
set_option maxHeartbeats 8000000 in
theorem itext_calls (w : World) (v : Value) (l : List Itm) (hv : Its w v l) (hz : ∀ x ∈ l, ItB x) (hl : l.length ≤ 12) (hE : Env w) (hMl : MlnS w) (hP : Pow w) :
  Calls Tryz.prog 10 #[v] w (ItxPost w l) := by
 have HCK := Lib.hid (check_calls w v l hv hz (by omega) hE);have HPOW := Lib.hid (fun W (h : Pure w W) => hP.pure h);have HML := Lib.hid (fun W (h : Pure w W) => hMl.mod h (fun x => x));obtain ⟨A, n, c, rfl⟩ := Sl.form hv
 have hn : n = l.length := by
  obtain ⟨A', n', c', e1, _, _, h3, _⟩ := hv
  injection e1 with e1 e2 e3
  rw [itV_len] at h3
  omega
 subst hn
 have HROW : Hid (0 < l.length → ∃ g off, A = some ⟨g, off, none⟩ ∧ ∀ W, Pure w W → RowAt W 40 g off (itV l)) := Lib.hid (fun h0 => by
  obtain ⟨A', n', c', e1, _, _, _, hr⟩ := hv
  injection e1 with e1 e2 e3
  subst e1 e2 e3;obtain ⟨g, off, e1, hrow⟩ := hr h0
  exact ⟨g, off, e1, fun W h => hrow.mod h (fun x => x)⟩)
 have HALL := Lib.hid (its_all (l := l));have HBAD := Lib.hid (itxE_bad (l := l));have HLRG := Lib.hid (fun k => itxE_large (l := l) (k := k));have HOKE := Lib.hid (itxE_ok (l := l));obtain ⟨q, hq⟩ : ∃ q, itsE itemE l = q := ⟨_, rfl⟩;rw [hq] at HCK HALL HBAD HLRG HOKE;clear hv hz hE hMl hP hq
 go_enter Tryz.func10, Tryz.ntmps10
 go_wp2_with fail
 refine HCK.out.mono ?_;rintro e w1 ⟨rfl, hm⟩;have HP1 := Lib.hid hm;clear hm HCK
 by_cases h0 : q = 0
 rotate_left
 ·have h1 : (q != 0) = true := by simpa using h0
  have HB := Lib.hid (HBAD.out h0);clear HROW HPOW HML HALL HBAD HLRG HOKE
  go_wp2_with fail
  try simp only [Exit.inBlock, Exit.then]
  refine bodyPost_ret (v := .tuple #[.string ⟨#[]⟩, .int .i64 q]) (by simp [results, Tryz.results10, go_sem]) rfl ?_;exact ⟨by rw [HB.out, if_neg h0], HP1.out⟩
 subst h0;have HT := Lib.hid (HALL.out rfl);have HIB2 := Lib.hid (isB_new w1);have HP3 := Lib.hid (HP1.out.alloc (.cells #[.pointer none, .slice none 0 0] 79));have hgb0 := HP1.out.size;clear HALL HBAD
 go_upto_region 5 with (fail)
 generalize (w1.alloc (.cells #[.pointer none, .slice none 0 0] 79)) = w3 at *;generalize w1.heap.size = gb at *;clear HP1
 go_wp2_with fail
 go_loopg [21] l.length (fun gk i wr => ∃ k : Nat, l.length - k = gk ∧ k ≤ l.length ∧ i = .int .i64 (k : Int) ∧ IsB wr gb (itsT (l.take k)) ∧ (itsT (l.take k)).length ≤ 200000 ∧ Pure w wr)
 case atStart => exact ⟨0, by omega, by omega, rfl, HIB2.out, by simp [itsT], HP3.out⟩
 case round =>
  clear HIB2 HP3;obtain ⟨k, rfl, hk, rfl, hib, hal, hm⟩ := hrel;have HIB := Lib.hid hib;have HM := Lib.hid hm
  by_cases hlt : k < l.length
  ·obtain ⟨g, off, rfl, hrw⟩ := HROW.out (by omega);obtain ⟨c0, c1, c2, c3, c4, c5, c6⟩ := item_cells (hrw wr hm) hlt;have hX := HT.out _ (List.getElem_mem hlt);have HTK : Hid (itsT (l.take (k + 1)) = itsT (l.take k) ++ itTx l[k]) := Lib.hid (by rw [List.take_succ_eq_append_getElem hlt, itsT_snoc]);have HTL := Lib.hid (itTx_len hX);generalize itsT (l.take k) = acc at *;have HXE : Hid (itTx l[k] = (Lib.join (itFs l[k]) [32] ++ [10]) ++ itLn l[k].text) := Lib.hid rfl;have HFS : Hid (itFs l[k] = [[105, 116, 101, 109], l[k].id, l[k].cust, kwS l[k].kind, Lib.itoa l[k].tm, if l[k].par = [] then [45] else l[k].par, quoS l[k].name, Lib.itoa ((Lib.countByte l[k].text 10 : Nat) : Int)]) := Lib.hid rfl;have HJL := Lib.hid (itHd_len hX);have HLW := Lib.hid (itLn_whole hX.whole);have HCW := Lib.hid (count_whole hX.whole);have HX := Lib.hid hX;generalize itTx l[k] = tx at *;generalize itFs l[k] = fs at *;generalize l[k] = x at *;obtain ⟨xid, xcu, xki, xna, xtm, xpa, xte⟩ := x
   dsimp only at *
   obtain ⟨pv, hpv⟩ : ∃ pv : Str, (if xpa = [] then [45] else xpa) = pv := ⟨_, rfl⟩;rw [hpv] at HFS
   have hkk : ((k : Nat) : Int) < (l.length : Int) := by omega
   have hB5 := Blk.new wr 40 #[.string ⟨xid.toArray⟩, .string ⟨xcu.toArray⟩, .int .i64 xki, .string ⟨xna.toArray⟩, .int .i64 xtm, .string ⟨xpa.toArray⟩, .string ⟨xte.toArray⟩];have hPA := pure_alloc wr (.cells #[.string ⟨xid.toArray⟩, .string ⟨xcu.toArray⟩, .int .i64 xki, .string ⟨xna.toArray⟩, .int .i64 xtm, .string ⟨xpa.toArray⟩, .string ⟨xte.toArray⟩] 40);clear hib hm hX hrw
   go_upto_region 8 with (fail)
   generalize (wr.alloc (.cells #[.string ⟨xid.toArray⟩, .string ⟨xcu.toArray⟩, .int .i64 xki, .string ⟨xna.toArray⟩, .int .i64 xtm, .string ⟨xpa.toArray⟩, .string ⟨xte.toArray⟩] 40)) = wA at *;generalize hg5 : wr.heap.size = g5 at *;have q5 := hB5.cell 5;have q6 := hB5.cell 6;simp at q5 q6
   go_upto_if 28 with (fail)
   go_cut [8] from 27 to 28 (fun y wx => y = .string ⟨pv.toArray⟩ ∧ wA = wx)
   case first =>
    cases hp : List.isEmpty xpa with
    | true =>
     have hp2 : xpa = [] := by simpa using hp
     rw [if_pos hp2] at hpv;subst hpv;clear hp2 hp
     go_wp2_with fail
     go_meet;exact ⟨rfl, rfl⟩
    | false =>
     have hp2 : ¬ xpa = [] := by simpa using hp
     rw [if_neg hp2] at hpv;subst hpv;clear hp2 hp
     go_wp2_with fail
     go_meet;exact ⟨rfl, rfl⟩
   case rest =>
    obtain ⟨rfl, rfl⟩ := hcut;have HPA := Lib.hid (HM.out.trans hPA);have HLI := Lib.hid (baseLines_calls wA xte (HML.out _ HPA.out) (by have := HX.out.text; dsimp only at this; omega));have HB5 := Lib.hid hB5;have HPR := Lib.hid hPA;clear hB5 hPA c0 c1 c2 c3 c4 c5 c6 hpv
    go_wp2_with fail
    refine HLI.out.mono ?_;rintro e wL ⟨lA, lc, rfl, hls, hml⟩;rw [linesP_Q] at hls ⊢;have hxl := HX.out.text
    dsimp only at hxl
    have hlq : (linesQ xte).length ≤ 20000 := by
     rw [← HCW.out];exact Nat.le_trans List.count_le_length hxl
    have HITL := Lib.hid (itLn_len _ xte (Nat.le_refl _));have HKW := Lib.hid (fun W => kindWord1 xki W);have HIT := Lib.hid (fun W (h : Pow W) => itoaP_calls W xtm (by have := HX.out.t0; dsimp only at this; omega) (by have := HX.out.t1; dsimp only at this; omega) h);have HQU := Lib.hid (fun W => Quote_calls W ⟨xna.toArray⟩ (by have := HX.out.name; dsimp only at this; simp [ByteArray.size]; omega));have HIC := Lib.hid (fun W (h : Pow W) => itoaP_calls W ((linesQ xte).length : Int) (by omega) (by omega) h);have hxna : (⟨xna.toArray⟩ : ByteArray).data.toList = xna := rfl;rw [hxna] at HQU;rw [HCW.out] at HFS;rw [HLW.out] at HXE HITL;clear HCW HLW hxna;generalize linesQ xte = ls at *;generalize kwS xki = kw at *;generalize Lib.itoa xtm = it at *;generalize Lib.itoa (ls.length : Int) = ic at *;generalize quoS xna = qn at *
    have HJN : Hid (∀ W gg, Blk W gg 9 #[.string ⟨#[105, 116, 101, 109]⟩, .string ⟨xid.toArray⟩, .string ⟨xcu.toArray⟩, .string ⟨kw.toArray⟩, .string ⟨it.toArray⟩, .string ⟨pv.toArray⟩, .string ⟨qn.toArray⟩, .string ⟨ic.toArray⟩] →
      Calls Tryz.prog 54 #[.slice (some ⟨gg, 0, none⟩) 8 8, .string ⟨#[32]⟩] W (StrPost1 W (Lib.join fs [32]))) := Lib.hid (fun W gg h => by
     have hs : Sl W 9 1 (.slice (some ⟨gg, 0, none⟩) 8 8) (strsV fs) := by
      rw [HFS.out];exact ⟨_, _, _, rfl, Nat.le_refl _, by omega, by simp [strsV], fun _ => ⟨gg, 0, rfl, Blk.row0 h⟩⟩
     exact join_calls W _ fs [32] hs (by rw [HFS.out]; simp) (by have := HJL.out; omega))
    obtain ⟨hd, hhd⟩ : ∃ hd : Str, Lib.join fs [32] ++ [10] = hd := ⟨_, rfl⟩;have HD1 : Hid ((⟨(Lib.join fs [32]).toArray⟩ : ByteArray) ++ ⟨#[10]⟩ = ⟨hd.toArray⟩) := Lib.hid (by rw [← hhd]; exact bytes_app _ [10]);rw [hhd] at HXE;have HDL : Hid (hd.length ≤ 1001) := Lib.hid (by rw [← hhd]; have := HJL.out; simp; omega);have HS1 : Hid (¬ 9223372036854775807 < (Lib.join fs [32]).length + 1) := Lib.hid (by have := HJL.out; omega);generalize Lib.join fs [32] = jn at *;have HPL : Hid (Pure w wL) := Lib.hid (HPA.out.trans hml);have HPW : Hid (∀ Z, Pure wL Z → Pow Z) := Lib.hid (fun Z h => HPOW.out _ (HPL.out.trans h));have HBL := Lib.hid (HB5.out.modp hml);have HIL := Lib.hid ((HIB.out.pure HPR.out).pure hml);have HLS := Lib.hid hls;clear hhd hls hml HB5 HIB HPA HPR HLI HJL HFS hxl q5 q6 HM
    go_upto_region 12 with (fail)
    have HGs := Lib.hid (show ∀ (D : Nat → Bool) (zzi : Nat) (zq zq' : World), (fun _ zq => (fun Z => Blk Z g5 40 #[.string ⟨xid.toArray⟩, .string ⟨xcu.toArray⟩, .int .i64 xki, .string ⟨xna.toArray⟩, .int .i64 xtm, .string ⟨xpa.toArray⟩, .string ⟨xte.toArray⟩]) zq) D zq → Mod (fun _ => False) zq zq' → (fun _ zq => (fun Z => Blk Z g5 40 #[.string ⟨xid.toArray⟩, .string ⟨xcu.toArray⟩, .int .i64 xki, .string ⟨xna.toArray⟩, .int .i64 xtm, .string ⟨xpa.toArray⟩, .string ⟨xte.toArray⟩]) zq) (upd D zzi true) zq' from by intro D zzi zq zq' h hm; (exact h.modp hm))
    refine wp_region_inv (by kernel_rfl) (by kernel_rfl) (InvF (R := Mod (fun _ => False)) [.is (.pointer (some ⟨g5, 0, none⟩)),
      .is (.string ⟨xid.toArray⟩),
      .is (.pointer (some ⟨g5, 1, none⟩)),
      .is (.string ⟨xcu.toArray⟩),
      .is (.pointer (some ⟨g5, 2, none⟩)),
      .is (.int .i64 xki),
      .is (.string ⟨kw.toArray⟩),
      .is (.pointer (some ⟨g5, 4, none⟩)),
      .is (.int .i64 xtm),
      .is (.string ⟨it.toArray⟩),
      .is (.string ⟨pv.toArray⟩),
      .is (.pointer (some ⟨g5, 3, none⟩)),
      .is (.string ⟨xna.toArray⟩),
      .is (.string ⟨qn.toArray⟩),
      .is (.slice lA ls.length lc),
      .is (.int .i64 (ls.length : Int)),
      .is (.string ⟨ic.toArray⟩),
      ⟨fun zv zw => ∃ (g_17 : Nat), zv = .slice (some ⟨g_17, 0, none⟩) 8 8 ∧ wL.heap.size ≤ g_17 ∧ Blk zw g_17 9 #[(.string { data := #[105, 116, 101, 109] }), .string ⟨xid.toArray⟩, .string ⟨xcu.toArray⟩, .string ⟨kw.toArray⟩, .string ⟨it.toArray⟩, .string ⟨pv.toArray⟩, .string ⟨qn.toArray⟩, .string ⟨ic.toArray⟩], (by rintro zv zw zx ⟨g_17, rfl, c0, q0⟩ hm; exact ⟨g_17, rfl, c0, (q0.modp hm)⟩), none, none⟩,
      ⟨fun zv zw => ∃ (g_18 : Nat), zv = .slice (some ⟨g_18, 0, none⟩) 8 8 ∧ wL.heap.size ≤ g_18 ∧ Blk zw g_18 9 #[(.string { data := #[105, 116, 101, 109] }), .string ⟨xid.toArray⟩, .string ⟨xcu.toArray⟩, .string ⟨kw.toArray⟩, .string ⟨it.toArray⟩, .string ⟨pv.toArray⟩, .string ⟨qn.toArray⟩, .string ⟨ic.toArray⟩], (by rintro zv zw zx ⟨g_18, rfl, c0, q0⟩ hm; exact ⟨g_18, rfl, c0, (q0.modp hm)⟩), none, none⟩]
      (PB wL (fun _ => False) wL.heap.size (fun _ zq => (fun Z => Blk Z g5 40 #[.string ⟨xid.toArray⟩, .string ⟨xcu.toArray⟩, .int .i64 xki, .string ⟨xna.toArray⟩, .int .i64 xtm, .string ⟨xpa.toArray⟩, .string ⟨xte.toArray⟩]) zq))) (InvF.start (PB.start (Mod.refl _ _) (Nat.le_refl _) (HBL.out))) ?_ ?_
    ·refine .cons ?_ (.cons ?_ (.cons ?_ (.cons ?_ (.cons ?_ (.cons ?_ (.cons ?_ (.cons ?_ (.cons ?_ (.cons ?_ (.cons ?_ (.cons ?_ (.cons ?_ (.cons ?_ (.cons ?_ (.cons ?_ (.cons ?_ (.cons ?_ (.cons ?_ .nil))))))))))))))))))
     ·intro D V zw1 a hR hI K hK;obtain ⟨hM1, hB1, hG1⟩ := hI.1;have ze7 := hR.frame.other (t := 7) (by kernel_rfl) rfl;rw [if_pos (by rfl)];go_simp;exact hK (.pointer (some ⟨g5, 0, none⟩)) _ (hI.next hR (by kernel_rfl) (Mod.refl _ _) (PB.quiet hI.1 (Mod.refl _ _) (HGs.out D 0 zw1 zw1 (hI.1).g (Mod.refl _ _))) (upd_same V 0 _))
     ·intro D V zw1 a hR hI K hK;obtain ⟨hM1, hB1, hG1⟩ := hI.1;have zd0 := hR.pred 0 (by kernel_rfl);have zf0 : V 0 = .pointer (some ⟨g5, 0, none⟩) := hI.2 0 zd0 rfl;have ze35 := hR.frame.done (t := 35) (j := 0) (by kernel_rfl) hR.ok zd0;have zx0 := hG1.cell 0; have zx1 := hG1.cell 1; have zx2 := hG1.cell 2; have zx3 := hG1.cell 3; have zx4 := hG1.cell 4; have zx5 := hG1.cell 5; have zx6 := hG1.cell 6;simp at zx0 zx1 zx2 zx3 zx4 zx5 zx6;rw [if_pos (by rfl)];go_simp;exact hK (.string ⟨xid.toArray⟩) _ (hI.next hR (by kernel_rfl) (Mod.refl _ _) (PB.quiet hI.1 (Mod.refl _ _) (HGs.out D 1 zw1 zw1 (hI.1).g (Mod.refl _ _))) (upd_same V 1 _))
     ·intro D V zw1 a hR hI K hK;obtain ⟨hM1, hB1, hG1⟩ := hI.1;have ze7 := hR.frame.other (t := 7) (by kernel_rfl) rfl;rw [if_pos (by rfl)];go_simp;exact hK (.pointer (some ⟨g5, 1, none⟩)) _ (hI.next hR (by kernel_rfl) (Mod.refl _ _) (PB.quiet hI.1 (Mod.refl _ _) (HGs.out D 2 zw1 zw1 (hI.1).g (Mod.refl _ _))) (upd_same V 2 _))
     ·intro D V zw1 a hR hI K hK;obtain ⟨hM1, hB1, hG1⟩ := hI.1;have zd2 := hR.pred 2 (by kernel_rfl);have zf2 : V 2 = .pointer (some ⟨g5, 1, none⟩) := hI.2 2 zd2 rfl;have ze37 := hR.frame.done (t := 37) (j := 2) (by kernel_rfl) hR.ok zd2;have zx0 := hG1.cell 0; have zx1 := hG1.cell 1; have zx2 := hG1.cell 2; have zx3 := hG1.cell 3; have zx4 := hG1.cell 4; have zx5 := hG1.cell 5; have zx6 := hG1.cell 6;simp at zx0 zx1 zx2 zx3 zx4 zx5 zx6;rw [if_pos (by rfl)];go_simp;exact hK (.string ⟨xcu.toArray⟩) _ (hI.next hR (by kernel_rfl) (Mod.refl _ _) (PB.quiet hI.1 (Mod.refl _ _) (HGs.out D 3 zw1 zw1 (hI.1).g (Mod.refl _ _))) (upd_same V 3 _))
     ·intro D V zw1 a hR hI K hK;obtain ⟨hM1, hB1, hG1⟩ := hI.1;have ze7 := hR.frame.other (t := 7) (by kernel_rfl) rfl;rw [if_pos (by rfl)];go_simp;exact hK (.pointer (some ⟨g5, 2, none⟩)) _ (hI.next hR (by kernel_rfl) (Mod.refl _ _) (PB.quiet hI.1 (Mod.refl _ _) (HGs.out D 4 zw1 zw1 (hI.1).g (Mod.refl _ _))) (upd_same V 4 _))
     ·intro D V zw1 a hR hI K hK;obtain ⟨hM1, hB1, hG1⟩ := hI.1;have zd4 := hR.pred 4 (by kernel_rfl);have zf4 : V 4 = .pointer (some ⟨g5, 2, none⟩) := hI.2 4 zd4 rfl;have ze39 := hR.frame.done (t := 39) (j := 4) (by kernel_rfl) hR.ok zd4;have zx0 := hG1.cell 0; have zx1 := hG1.cell 1; have zx2 := hG1.cell 2; have zx3 := hG1.cell 3; have zx4 := hG1.cell 4; have zx5 := hG1.cell 5; have zx6 := hG1.cell 6;simp at zx0 zx1 zx2 zx3 zx4 zx5 zx6;rw [if_pos (by rfl)];go_simp;exact hK (.int .i64 xki) _ (hI.next hR (by kernel_rfl) (Mod.refl _ _) (PB.quiet hI.1 (Mod.refl _ _) (HGs.out D 5 zw1 zw1 (hI.1).g (Mod.refl _ _))) (upd_same V 5 _))
     ·intro D V zw1 a hR hI K hK;obtain ⟨hM1, hB1, hG1⟩ := hI.1;have zd5 := hR.pred 5 (by kernel_rfl);have zf5 : V 5 = .int .i64 xki := hI.2 5 zd5 rfl;have ze40 := hR.frame.done (t := 40) (j := 5) (by kernel_rfl) hR.ok zd5;rw [if_pos (by rfl)];go_simp;refine (HKW.out zw1).mono ?_;rintro e zw2 ⟨rfl, hm2⟩;exact hK (.string ⟨kw.toArray⟩) _ (hI.next hR (by kernel_rfl) hm2 (PB.quiet hI.1 hm2 (HGs.out D 6 _ _ (hI.1).g hm2)) (upd_same V 6 _))
     ·intro D V zw1 a hR hI K hK;obtain ⟨hM1, hB1, hG1⟩ := hI.1;have ze7 := hR.frame.other (t := 7) (by kernel_rfl) rfl;rw [if_pos (by rfl)];go_simp;exact hK (.pointer (some ⟨g5, 4, none⟩)) _ (hI.next hR (by kernel_rfl) (Mod.refl _ _) (PB.quiet hI.1 (Mod.refl _ _) (HGs.out D 7 zw1 zw1 (hI.1).g (Mod.refl _ _))) (upd_same V 7 _))
     ·intro D V zw1 a hR hI K hK;obtain ⟨hM1, hB1, hG1⟩ := hI.1;have zd7 := hR.pred 7 (by kernel_rfl);have zf7 : V 7 = .pointer (some ⟨g5, 4, none⟩) := hI.2 7 zd7 rfl;have ze42 := hR.frame.done (t := 42) (j := 7) (by kernel_rfl) hR.ok zd7;have zx0 := hG1.cell 0; have zx1 := hG1.cell 1; have zx2 := hG1.cell 2; have zx3 := hG1.cell 3; have zx4 := hG1.cell 4; have zx5 := hG1.cell 5; have zx6 := hG1.cell 6;simp at zx0 zx1 zx2 zx3 zx4 zx5 zx6;rw [if_pos (by rfl)];go_simp;exact hK (.int .i64 xtm) _ (hI.next hR (by kernel_rfl) (Mod.refl _ _) (PB.quiet hI.1 (Mod.refl _ _) (HGs.out D 8 zw1 zw1 (hI.1).g (Mod.refl _ _))) (upd_same V 8 _))
     ·intro D V zw1 a hR hI K hK;obtain ⟨hM1, hB1, hG1⟩ := hI.1;have zd8 := hR.pred 8 (by kernel_rfl);have zf8 : V 8 = .int .i64 xtm := hI.2 8 zd8 rfl;have ze43 := hR.frame.done (t := 43) (j := 8) (by kernel_rfl) hR.ok zd8;rw [if_pos (by rfl)];go_simp;refine (HIT.out zw1 (HPW.out zw1 hM1)).mono ?_;rintro e zw2 ⟨rfl, hm2⟩;exact hK (.string ⟨it.toArray⟩) _ (hI.next hR (by kernel_rfl) hm2 (PB.quiet hI.1 hm2 (HGs.out D 9 _ _ (hI.1).g hm2)) (upd_same V 9 _))
     ·intro D V zw1 a hR hI K hK;obtain ⟨hM1, hB1, hG1⟩ := hI.1;have ze8 := hR.frame.other (t := 8) (by kernel_rfl) rfl;rw [if_pos (by rfl)];go_simp;exact hK (.string ⟨pv.toArray⟩) _ (hI.next hR (by kernel_rfl) (Mod.refl _ _) (PB.quiet hI.1 (Mod.refl _ _) (HGs.out D 10 zw1 zw1 (hI.1).g (Mod.refl _ _))) (upd_same V 10 _))
     ·intro D V zw1 a hR hI K hK;obtain ⟨hM1, hB1, hG1⟩ := hI.1;have ze7 := hR.frame.other (t := 7) (by kernel_rfl) rfl;rw [if_pos (by rfl)];go_simp;exact hK (.pointer (some ⟨g5, 3, none⟩)) _ (hI.next hR (by kernel_rfl) (Mod.refl _ _) (PB.quiet hI.1 (Mod.refl _ _) (HGs.out D 11 zw1 zw1 (hI.1).g (Mod.refl _ _))) (upd_same V 11 _))
     ·intro D V zw1 a hR hI K hK;obtain ⟨hM1, hB1, hG1⟩ := hI.1;have zd11 := hR.pred 11 (by kernel_rfl);have zf11 : V 11 = .pointer (some ⟨g5, 3, none⟩) := hI.2 11 zd11 rfl;have ze46 := hR.frame.done (t := 46) (j := 11) (by kernel_rfl) hR.ok zd11;have zx0 := hG1.cell 0; have zx1 := hG1.cell 1; have zx2 := hG1.cell 2; have zx3 := hG1.cell 3; have zx4 := hG1.cell 4; have zx5 := hG1.cell 5; have zx6 := hG1.cell 6;simp at zx0 zx1 zx2 zx3 zx4 zx5 zx6;rw [if_pos (by rfl)];go_simp;exact hK (.string ⟨xna.toArray⟩) _ (hI.next hR (by kernel_rfl) (Mod.refl _ _) (PB.quiet hI.1 (Mod.refl _ _) (HGs.out D 12 zw1 zw1 (hI.1).g (Mod.refl _ _))) (upd_same V 12 _))
     ·intro D V zw1 a hR hI K hK;obtain ⟨hM1, hB1, hG1⟩ := hI.1;have zd12 := hR.pred 12 (by kernel_rfl);have zf12 : V 12 = .string ⟨xna.toArray⟩ := hI.2 12 zd12 rfl;have ze47 := hR.frame.done (t := 47) (j := 12) (by kernel_rfl) hR.ok zd12;rw [if_pos (by rfl)];go_simp;refine (HQU.out zw1).mono ?_;rintro e zw2 ⟨rfl, hm2⟩;exact hK (.string ⟨qn.toArray⟩) _ (hI.next hR (by kernel_rfl) hm2 (PB.quiet hI.1 hm2 (HGs.out D 13 _ _ (hI.1).g hm2)) (upd_same V 13 _))
     ·intro D V zw1 a hR hI K hK;obtain ⟨hM1, hB1, hG1⟩ := hI.1;have ze9 := hR.frame.other (t := 9) (by kernel_rfl) rfl;rw [if_pos (by rfl)];go_simp;exact hK (.slice lA ls.length lc) _ (hI.next hR (by kernel_rfl) (Mod.refl _ _) (PB.quiet hI.1 (Mod.refl _ _) (HGs.out D 14 zw1 zw1 (hI.1).g (Mod.refl _ _))) (upd_same V 14 _))
     ·intro D V zw1 a hR hI K hK;obtain ⟨hM1, hB1, hG1⟩ := hI.1;have zd14 := hR.pred 14 (by kernel_rfl);have zf14 : V 14 = .slice lA ls.length lc := hI.2 14 zd14 rfl;have ze49 := hR.frame.done (t := 49) (j := 14) (by kernel_rfl) hR.ok zd14;rw [if_pos (by rfl)];go_simp;exact hK (.int .i64 (ls.length : Int)) _ (hI.next hR (by kernel_rfl) (Mod.refl _ _) (PB.quiet hI.1 (Mod.refl _ _) (HGs.out D 15 zw1 zw1 (hI.1).g (Mod.refl _ _))) (upd_same V 15 _))
     ·intro D V zw1 a hR hI K hK;obtain ⟨hM1, hB1, hG1⟩ := hI.1;have zd15 := hR.pred 15 (by kernel_rfl);have zf15 : V 15 = .int .i64 (ls.length : Int) := hI.2 15 zd15 rfl;have ze50 := hR.frame.done (t := 50) (j := 15) (by kernel_rfl) hR.ok zd15;rw [if_pos (by rfl)];go_simp;refine (HIC.out zw1 (HPW.out zw1 hM1)).mono ?_;rintro e zw2 ⟨rfl, hm2⟩;exact hK (.string ⟨ic.toArray⟩) _ (hI.next hR (by kernel_rfl) hm2 (PB.quiet hI.1 hm2 (HGs.out D 16 _ _ (hI.1).g hm2)) (upd_same V 16 _))
     ·intro D V zw1 a hR hI K hK;obtain ⟨hM1, hB1, hG1⟩ := hI.1;have zd1 := hR.pred 1 (by kernel_rfl);have zf1 : V 1 = .string ⟨xid.toArray⟩ := hI.2 1 zd1 rfl;have zd3 := hR.pred 3 (by kernel_rfl);have zf3 : V 3 = .string ⟨xcu.toArray⟩ := hI.2 3 zd3 rfl;have zd6 := hR.pred 6 (by kernel_rfl);have zf6 : V 6 = .string ⟨kw.toArray⟩ := hI.2 6 zd6 rfl;have zd9 := hR.pred 9 (by kernel_rfl);have zf9 : V 9 = .string ⟨it.toArray⟩ := hI.2 9 zd9 rfl;have zd10 := hR.pred 10 (by kernel_rfl);have zf10 : V 10 = .string ⟨pv.toArray⟩ := hI.2 10 zd10 rfl;have zd13 := hR.pred 13 (by kernel_rfl);have zf13 : V 13 = .string ⟨qn.toArray⟩ := hI.2 13 zd13 rfl;have zd16 := hR.pred 16 (by kernel_rfl);have zf16 : V 16 = .string ⟨ic.toArray⟩ := hI.2 16 zd16 rfl;have ze36 := hR.frame.done (t := 36) (j := 1) (by kernel_rfl) hR.ok zd1;have ze38 := hR.frame.done (t := 38) (j := 3) (by kernel_rfl) hR.ok zd3;have ze41 := hR.frame.done (t := 41) (j := 6) (by kernel_rfl) hR.ok zd6;have ze44 := hR.frame.done (t := 44) (j := 9) (by kernel_rfl) hR.ok zd9;have ze45 := hR.frame.done (t := 45) (j := 10) (by kernel_rfl) hR.ok zd10;have ze48 := hR.frame.done (t := 48) (j := 13) (by kernel_rfl) hR.ok zd13;have ze51 := hR.frame.done (t := 51) (j := 16) (by kernel_rfl) hR.ok zd16;rw [if_pos (by rfl)];go_simp;exact hK (_) _ (hI.next hR (by kernel_rfl) ((Mod.refl _ _).alloc _) (PB.quiet hI.1 (pure_alloc _ _) (HGs.out D 17 _ _ (hI.1).g ((Mod.refl _ _).alloc _))) (⟨_, upd_same V 17 _, (by omega), (Blk.new _ _ _)⟩))
     ·intro D V zw1 a hR hI K hK;obtain ⟨hM1, hB1, hG1⟩ := hI.1;have zd17 := hR.pred 17 (by kernel_rfl);have zF17 : ∃ (g_17 : Nat), V 17 = .slice (some ⟨g_17, 0, none⟩) 8 8 ∧ wL.heap.size ≤ g_17 ∧ Blk zw1 g_17 9 #[(.string { data := #[105, 116, 101, 109] }), .string ⟨xid.toArray⟩, .string ⟨xcu.toArray⟩, .string ⟨kw.toArray⟩, .string ⟨it.toArray⟩, .string ⟨pv.toArray⟩, .string ⟨qn.toArray⟩, .string ⟨ic.toArray⟩] := hI.2 17 zd17 rfl;obtain ⟨g_17, zf17, c17_0, b17_0⟩ := zF17;have ze52 := hR.frame.done (t := 52) (j := 17) (by kernel_rfl) hR.ok zd17;rw [if_pos (by rfl)];go_simp;exact hK (.slice (some ⟨g_17, 0, none⟩) 8 8) _ (hI.next hR (by kernel_rfl) (Mod.refl _ _) (PB.quiet hI.1 (Mod.refl _ _) (HGs.out D 18 zw1 zw1 (hI.1).g (Mod.refl _ _))) (⟨g_17, upd_same V 18 _, (by first | assumption | omega), b17_0⟩))
    ·intro D V w5 hD hI;obtain ⟨hM1, hB1, hG1⟩ := hI.1;have hMx := hM1;clear hM1;have hBx := hB1;clear hB1;have hGx := hG1;clear hG1;have zf0 : V 0 = .pointer (some ⟨g5, 0, none⟩) := hI.2 0 (hD 0 (by decide)) rfl;have zf1 : V 1 = .string ⟨xid.toArray⟩ := hI.2 1 (hD 1 (by decide)) rfl;have zf2 : V 2 = .pointer (some ⟨g5, 1, none⟩) := hI.2 2 (hD 2 (by decide)) rfl;have zf3 : V 3 = .string ⟨xcu.toArray⟩ := hI.2 3 (hD 3 (by decide)) rfl;have zf4 : V 4 = .pointer (some ⟨g5, 2, none⟩) := hI.2 4 (hD 4 (by decide)) rfl;have zf5 : V 5 = .int .i64 xki := hI.2 5 (hD 5 (by decide)) rfl;have zf6 : V 6 = .string ⟨kw.toArray⟩ := hI.2 6 (hD 6 (by decide)) rfl;have zf7 : V 7 = .pointer (some ⟨g5, 4, none⟩) := hI.2 7 (hD 7 (by decide)) rfl;have zf8 : V 8 = .int .i64 xtm := hI.2 8 (hD 8 (by decide)) rfl;have zf9 : V 9 = .string ⟨it.toArray⟩ := hI.2 9 (hD 9 (by decide)) rfl;have zf10 : V 10 = .string ⟨pv.toArray⟩ := hI.2 10 (hD 10 (by decide)) rfl;have zf11 : V 11 = .pointer (some ⟨g5, 3, none⟩) := hI.2 11 (hD 11 (by decide)) rfl;have zf12 : V 12 = .string ⟨xna.toArray⟩ := hI.2 12 (hD 12 (by decide)) rfl;have zf13 : V 13 = .string ⟨qn.toArray⟩ := hI.2 13 (hD 13 (by decide)) rfl;have zf14 : V 14 = .slice lA ls.length lc := hI.2 14 (hD 14 (by decide)) rfl;have zf15 : V 15 = .int .i64 (ls.length : Int) := hI.2 15 (hD 15 (by decide)) rfl;have zf16 : V 16 = .string ⟨ic.toArray⟩ := hI.2 16 (hD 16 (by decide)) rfl;have zF17 : ∃ (g_17 : Nat), V 17 = .slice (some ⟨g_17, 0, none⟩) 8 8 ∧ wL.heap.size ≤ g_17 ∧ Blk w5 g_17 9 #[(.string { data := #[105, 116, 101, 109] }), .string ⟨xid.toArray⟩, .string ⟨xcu.toArray⟩, .string ⟨kw.toArray⟩, .string ⟨it.toArray⟩, .string ⟨pv.toArray⟩, .string ⟨qn.toArray⟩, .string ⟨ic.toArray⟩] := hI.2 17 (hD 17 (by decide)) rfl;obtain ⟨g_17, zf17, c17_0, b17_0⟩ := zF17;have zF18 : ∃ (g_18 : Nat), V 18 = .slice (some ⟨g_18, 0, none⟩) 8 8 ∧ wL.heap.size ≤ g_18 ∧ Blk w5 g_18 9 #[(.string { data := #[105, 116, 101, 109] }), .string ⟨xid.toArray⟩, .string ⟨xcu.toArray⟩, .string ⟨kw.toArray⟩, .string ⟨it.toArray⟩, .string ⟨pv.toArray⟩, .string ⟨qn.toArray⟩, .string ⟨ic.toArray⟩] := hI.2 18 (hD 18 (by decide)) rfl;obtain ⟨g_18, zf18, c18_0, b18_0⟩ := zF18;clear hI hD HGs;simp only [frAll, Act.put, List.setIfInBounds_toArray, List.set_cons_zero, List.set_cons_succ, Nat.zero_add, Nat.reduceAdd, zf0, zf1, zf2, zf3, zf4, zf5, zf6, zf7, zf8, zf9, zf10, zf11, zf12, zf13, zf14, zf15, zf16, zf17, zf18];clear zf0 zf1 zf2 zf3 zf4 zf5 zf6 zf7 zf8 zf9 zf10 zf11 zf12 zf13 zf14 zf15 zf16 zf17 zf18;clear V D;have HJX := Lib.hid (HJN.out w5 _ b18_0);have HM5 : Hid (Pure wL w5) := Lib.hid hMx;clear b17_0 b18_0 c17_0 c18_0 hMx hBx hGx HBL HKW HIT HQU HIC HJN HPW;generalize g_18 = gx at *
     go_wp2_with fail
     refine HJX.out.mono ?_;rintro e w6 ⟨rfl, hm6⟩;have HM6 : Hid (Pure wL w6) := Lib.hid (HM5.out.trans hm6);have HI6 := Lib.hid (HIL.out.pure HM6.out);have HP6 : Hid (Pure w w6) := Lib.hid (HPL.out.trans HM6.out);have HL6 := Lib.hid (HLS.out.pure HM6.out);have he1 := HD1.out;have hs1 := HS1.out;clear hm6 HJX HM5 HIL HLS HPL HM6
     go_wp2_with fail
     refine (wsI_calls w6 gb acc hd HI6.out (by omega) (by have := HDL.out; omega)).mono ?_;rintro e w7 ⟨rfl, hib7, hk7⟩;have HP7 : Hid (Pure w w7) := Lib.hid (hk7.pure HP6.out (by omega));have HL7 := Lib.hid (hk7.sl HL6.out HI6.out.noS);obtain ⟨ah, hah⟩ : ∃ ah, acc ++ hd = ah := ⟨_, rfl⟩;have HAH : Hid (itsT (l.take (k + 1)) = ah ++ ls.flatMap (fun l => 124 :: (l ++ [10]))) := Lib.hid (by rw [HTK.out, HXE.out, ← List.append_assoc, hah])
     have hahl : ah.length ≤ 202000 := by rw [← hah, List.length_append]; have := HDL.out; omega
     rw [hah] at hib7;have HI7 := Lib.hid hib7;have hitl := HITL.out;have hxtl := HX.out.text
     dsimp only at hxtl
     clear hib7 hk7 hah HI6 HP6 HL6 he1 hs1 HD1 HS1 HDL HTK HXE
     go_wp2_with fail
     go_loopg [59] ls.length (fun gk i wr => ∃ j : Nat, ls.length - j = gk ∧ j ≤ ls.length ∧ i = .int .i64 (j : Int) ∧ IsB wr gb (ah ++ (ls.take j).flatMap (fun l => 124 :: (l ++ [10]))) ∧ Sl wr 9 1 (.slice lA ls.length lc) (strsV ls) ∧ Pure w wr)
     case atStart => exact ⟨0, by omega, by omega, rfl, by simpa using HI7.out, HL7.out, HP7.out⟩
     case round =>
      clear HI7 HL7 HP7;obtain ⟨j, rfl, hj, rfl, hib, hls, hm⟩ := hrel;have hfl := flat_takeI_le ls j (fun l => 124 :: (l ++ [10]))
      by_cases hlj : j < ls.length
      ·have hfs := flat_takeI hlj (fun l => 124 :: (l ++ [10]));have hf1 := flat_takeI_le ls (j + 1) (fun l => 124 :: (l ++ [10]))
       obtain ⟨g2, o2, rfl, hrow⟩ : ∃ g2 o2, lA = some ⟨g2, o2, none⟩ ∧ RowAt wr 9 g2 o2 (strsV ls) := by
        obtain ⟨A', n', c', e1, _, _, _, hr⟩ := hls
        injection e1 with e1 e2 e3
        subst e1 e2 e3;obtain ⟨g2, o2, e1, hrow⟩ := hr (by omega);exact ⟨g2, o2, e1, hrow⟩
       have q0 := hrow.cell (strsV_get ls j hlj);have HIB := Lib.hid hib;have HLS := Lib.hid hls;have HM := Lib.hid hm
       have hjj : ((j : Nat) : Int) < (ls.length : Int) := by omega
       have HFS := Lib.hid hfs;rw [hfs] at hf1;generalize ls[j] = ln at *;generalize (ls.take j).flatMap (fun l => 124 :: (l ++ [10])) = fj at *;obtain ⟨la, hla⟩ : ∃ la : Str, 124 :: ln = la := ⟨_, rfl⟩;obtain ⟨lb, hlb⟩ : ∃ lb : Str, la ++ [10] = lb := ⟨_, rfl⟩
       have he1 : (⟨#[124]⟩ : ByteArray) ++ ⟨ln.toArray⟩ = ⟨la.toArray⟩ := by rw [← hla]; exact bytes_app [124] ln
       have he2 : (⟨la.toArray⟩ : ByteArray) ++ ⟨#[10]⟩ = ⟨lb.toArray⟩ := by rw [← hlb]; exact bytes_app la [10]
       have heq : (124 :: (ln ++ [10]) : Str) = lb := by rw [← hlb, ← hla]; rfl
       rw [heq] at hf1 HFS
       have hll : lb.length = ln.length + 2 := by rw [← hlb, ← hla]; simp
       have hla2 : la.length = ln.length + 1 := by rw [← hla]; simp
       rw [List.length_append] at hf1
       have hs1 : ¬ 9223372036854775807 < 1 + ln.length := by omega
       have hs2 : ¬ 9223372036854775807 < la.length + 1 := by omega
       clear hfs heq hlb hla hrow hls hib hm
       go_wp2_with fail
       refine (wsI_calls wr gb (ah ++ fj) lb HIB.out (by rw [List.length_append]; omega) (by omega)).mono ?_;rintro e w8 ⟨rfl, hib8, hk8⟩;have HI8 := Lib.hid hib8;have HL8 := Lib.hid (hk8.sl HLS.out HIB.out.noS);have HP8 := Lib.hid (hk8.pure HM.out (by omega));clear hib8 hk8 HIB HLS HM he1 he2 hs1 hs2
       go_wp2_with fail
       go_roundg (ls.length - (j + 1))
       case measure => omega
       case rel => exact ⟨j + 1, rfl, by omega, by simp, by rw [HFS.out, ← List.append_assoc]; exact HI8.out, HL8.out, HP8.out⟩
      ·obtain rfl : j = ls.length := by omega
       rw [List.take_of_length_le (Nat.le_refl _), ← HAH.out] at hib;have HLN := Lib.hid (blenI_calls wr _ _ hib);have HI8 := Lib.hid hib;have HM8 := Lib.hid hm;clear hib hls hm
       go_wp2_with fail
       refine HLN.out.mono ?_;rintro e wq ⟨rfl, rfl⟩;clear HLN
       by_cases hbig : 200000 < (itsT (l.take (k + 1))).length
       ·have HEE := Lib.hid (HLRG.out (k + 1) trivial hbig)
        have hbi : (200000 : Int) < ((itsT (l.take (k + 1))).length : Int) := by omega
        generalize itsT (l.take (k + 1)) = ac2 at *;clear HT HROW HPOW HML HLRG HOKE HAH HX
        go_wp2_with fail
        try simp only [Exit.inBlock, Exit.then]
        refine bodyPost_ret (v := .tuple #[.string ⟨#[]⟩, .int .i64 2]) (by simp [results, Tryz.results10, go_sem]) rfl ?_;exact ⟨by rw [HEE.out]; rfl, HM8.out⟩
       ·have hbi : ¬ (200000 : Int) < ((itsT (l.take (k + 1))).length : Int) := by omega
        obtain ⟨ac2, hac⟩ : ∃ ac2, itsT (l.take (k + 1)) = ac2 := ⟨_, rfl⟩;have HAC := Lib.hid hac;rw [hac] at hbi hbig HI8 ⊢;clear hac
        go_wp2_with fail
        go_roundg (l.length - (k + 1))
        case measure => omega
        case rel => exact ⟨k + 1, rfl, by omega, by simp, by rw [HAC.out]; exact HI8.out, by rw [HAC.out]; omega, HM8.out⟩
  ·obtain rfl : k = l.length := by omega
   rw [List.take_of_length_le (Nat.le_refl _)] at hib hal;have HSR := Lib.hid (bstring_calls wr gb _ hib);have HEE := Lib.hid (HOKE.out trivial hal);clear hm hib HIB
   go_wp2_with fail
   refine HSR.out.mono ?_;rintro e wq ⟨rfl, hbel⟩;have HM9 : Hid (Pure w wq) := Lib.hid (HM.out.trans' (Mod.of_below' hbel) (fun i hi hlt => by have h1 : gb ≤ i := hi; omega));clear HM HSR hbel
   go_wp2_with fail
   try simp only [Exit.inBlock, Exit.then]
   refine bodyPost_ret (v := .tuple #[.string ⟨(itsT l).toArray⟩, .int .i64 0]) (by simp [results, Tryz.results10, go_sem]) rfl ?_;exact ⟨by rw [HEE.out]; rfl, HM9.out⟩
end Go.Proofs.YtelpdjhkedhppaaGreatDoor
/- Sums of items. -/
namespace Go.Proofs.YtelpdjhkedhppaaGreatDoor
open Go.RowKit
theorem StrPost1.of {w w' : World} {l m : Str} (h : l = m) (hm : Pure w w') : StrPost1 w l (.returned (.string ⟨m.toArray⟩)) w' := ⟨by rw [h], hm⟩
set_option maxHeartbeats 400000 in
theorem KindWord_calls (n : Int) (w : World) (h1 : 1 ≤ n) (h4 : n ≤ 4) : Calls Tryz.prog 60 #[.int .i64 n] w (fun e w' => e = .returned (.string ⟨(kwS n).toArray⟩) ∧ w = w') := by
 rcases (show n = 1 ∨ n = 2 ∨ n = 3 ∨ n = 4 by omega) with rfl | rfl | rfl | rfl
 ·have hrun : (Instr.index 151 (.agg #[.string ⟨#[]⟩, .string ⟨#[109, 97, 105, 108]⟩, .string ⟨#[102, 105, 108, 101]⟩, .string ⟨#[98, 111, 120]⟩, .string ⟨#[110, 111, 116, 101]⟩]) (.int .i64 1)).run Tryz.prog w = .ok (.string ⟨#[109, 97, 105, 108]⟩) w := by kernel_rfl
  go_enter Tryz.func60, Tryz.ntmps60
  go_wp2_with fail
  go_ret;exact ⟨rfl, rfl⟩
 ·have hrun : (Instr.index 151 (.agg #[.string ⟨#[]⟩, .string ⟨#[109, 97, 105, 108]⟩, .string ⟨#[102, 105, 108, 101]⟩, .string ⟨#[98, 111, 120]⟩, .string ⟨#[110, 111, 116, 101]⟩]) (.int .i64 2)).run Tryz.prog w = .ok (.string ⟨#[102, 105, 108, 101]⟩) w := by kernel_rfl
  go_enter Tryz.func60, Tryz.ntmps60
  go_wp2_with fail
  go_ret;exact ⟨rfl, rfl⟩
 ·have hrun : (Instr.index 151 (.agg #[.string ⟨#[]⟩, .string ⟨#[109, 97, 105, 108]⟩, .string ⟨#[102, 105, 108, 101]⟩, .string ⟨#[98, 111, 120]⟩, .string ⟨#[110, 111, 116, 101]⟩]) (.int .i64 3)).run Tryz.prog w = .ok (.string ⟨#[98, 111, 120]⟩) w := by kernel_rfl
  go_enter Tryz.func60, Tryz.ntmps60
  go_wp2_with fail
  go_ret;exact ⟨rfl, rfl⟩
 ·have hrun : (Instr.index 151 (.agg #[.string ⟨#[]⟩, .string ⟨#[109, 97, 105, 108]⟩, .string ⟨#[102, 105, 108, 101]⟩, .string ⟨#[98, 111, 120]⟩, .string ⟨#[110, 111, 116, 101]⟩]) (.int .i64 4)).run Tryz.prog w = .ok (.string ⟨#[110, 111, 116, 101]⟩) w := by kernel_rfl
  go_enter Tryz.func60, Tryz.ntmps60
  go_wp2_with fail
  go_ret;exact ⟨rfl, rfl⟩
end Go.Proofs.YtelpdjhkedhppaaGreatDoor
/- ItemLines of the reference. -/
namespace Go.Proofs.YtelpdjhkedhppaaGreatDoor
open Go.RowKit Go.Shelf
attribute [local go_sem] Oper.semAt_some
theorem KindWord1 (n : Int) (w : World) (h1 : 1 ≤ n) (h4 : n ≤ 4) : Calls Tryz.prog 60 #[.int .i64 n] w (StrPost1 w (kwS n)) := (KindWord_calls n w h1 h4).mono (fun e w' h => ⟨h.1, h.2 ▸ Mod.refl _ _⟩)
theorem count1_calls (w : World) (t : Str) : Calls Tryz.prog 62 #[.string ⟨t.toArray⟩, .string ⟨#[10]⟩] w (IntPost w ((Lib.countByte t 10 : Nat) : Int)) := (Any.strings_Count_one Tryz.lays138 ⟨t.toArray⟩ 10 w).mono (fun e w' h => ⟨h.1, h.2 ▸ Mod.refl _ _⟩)
theorem lines_calls (w : World) (t : Str) : Calls Tryz.prog 63 #[.string ⟨t.toArray⟩] w fun e w' => e = .returned (.func (.func 127) #[] #[.pointer (some ⟨w.heap.size, 0, none⟩)]) ∧ w' = w.alloc (.cells #[.string ⟨t.toArray⟩] 9) := by
 go_enter Tryz.func63, Tryz.ntmps63
 go_wp2_with fail
 go_ret;exact ⟨rfl, rfl⟩
theorem itoaS_calls (w : World) (n : Int) (h0 : -1099511627776 ≤ n) (h1 : n ≤ 1099511627776) (hP : Pow w) : Calls Tryz.prog 51 #[.int .i64 n] w (StrPost1 w (Lib.itoa n)) := itoaW_calls w n h0 h1 hP
abbrev LnE := { x : Str // x.length ≤ 100000 }
theorem lns_seq (B : Nat) (s : Str) (hs : s.length ≤ 100000) (T : Nat → Prop) (hTB : ¬ T B) (w : World) (hB : Blk w B 9 #[.string ⟨s.toArray⟩]) :
  SeqW Tryz.prog 127 #[.pointer (some ⟨B, 0, none⟩)] (fun x : LnE => #[.string ⟨x.1.toArray⟩]) T B (fun ys => ys.map (·.1) = lnsT s) 100001 w := fun l J W hW hJB hY h0 => by
 refine (lns1_in l B s hs T hTB (fun pre W => ∃ p : List LnE, p.map (·.1) = pre ∧ J p W) (fun pre X Y hx hm => ?_) (fun pre x W1 hx hJ hlen => ?_) W ((hW.block B hB.lt).trans hB) ⟨[], rfl, h0⟩).mono ?_
 ·obtain ⟨p, h1, h2⟩ := hx;exact ⟨p, h1, hJB _ _ _ h2 hm⟩
 ·obtain ⟨p, rfl, hp⟩ := hJ;obtain ⟨fn, tmps, assign, body, hy, hR⟩ := hY p ⟨x, hx⟩ W1 hp (by simpa using hlen);refine ⟨fn, tmps, assign, body, hy, hR.mono ?_⟩;rintro e W' ⟨rfl, h1, h2⟩;exact ⟨rfl, ⟨p ++ [⟨x, hx⟩], by simp, h1⟩, h2⟩
 ·rintro e W' ⟨hv, p, hp, hJ⟩;exact ⟨hv, p, hp, hJ⟩
def LnI (wy : World) (g3 gB : Nat) (nx : Str) (pre : List LnE) (W : World) : Prop :=
 Blk W g3 9 #[.string ⟨(nx ++ pre.flatMap (fun x => 124 :: x.1)).toArray⟩] ∧ Mod (fun k => wy.heap.size ≤ k ∨ k = g3 ∨ k = gB) wy W
theorem lnE_len : ∀ pre : List LnE, (pre.flatMap (fun x => 124 :: x.1)).length ≤ 100001 * pre.length
 | [] => by simp
 | ⟨x, hx⟩ :: t => by
  have ih := lnE_len t;simp only [List.flatMap_cons, List.length_append, List.length_cons] at ih ⊢
  omega
def ItlRel (w : World) (l : List Itm) (gk : Nat) (ds : List Deferred) (i : Value) (wr : World) : Prop :=
 ∃ k : Nat, l.length - k = gk ∧ k ≤ l.length ∧ i = .int .i64 (k : Int) ∧ Blk wr w.heap.size 9 #[.string ⟨(itsT (l.take k)).toArray⟩] ∧ Marks wr w.heap.size ds ∧ Pure w wr
set_option maxHeartbeats 8000000 in
theorem itemLines_calls (w : World) (v : Value) (l : List Itm) (hv : Its w v l) (hl : l.length ≤ 12) (hT : ∀ x ∈ l, ItT x) (hP : Pow w) :
  Calls Tryz.prog 12 #[v] w (StrPost1 w (itsT l)) := by
 have HPOW := Lib.hid (fun W (h : Pure w W) => hP.pure h);have HV := Lib.hid (fun W (h : Pure w W) => hv.pure h);have HT := Lib.hid hT;obtain ⟨A, n, c, rfl⟩ := Sl.form hv
 have hn : n = l.length := by
  obtain ⟨A', n', c', e1, _, _, h3, _⟩ := hv
  injection e1 with e1 e2 e3
  rw [itV_len] at h3
  omega
 subst hn
 have HROW : Hid (0 < l.length → ∃ g off, A = some ⟨g, off, none⟩ ∧ ∀ W, Pure w W → RowAt W 40 g off (itV l)) := Lib.hid (fun h0 => by
  obtain ⟨A', n', c', e1, _, _, _, hr⟩ := hv
  injection e1 with e1 e2 e3
  subst e1 e2 e3;obtain ⟨g, off, e1, hrow⟩ := hr h0
  exact ⟨g, off, e1, fun W h => hrow.mod h (fun x => x)⟩)
 have HLL := Lib.hid (itsT_len hT);clear hv hP hT;refine calls_of_wp_marks w.heap.size Tryz.func12 rfl ?_;simp only [Tryz.ntmps12, List.size_toArray, List.length_cons, List.length_nil, Nat.reduceAdd, Nat.reduceSub, Array.replicate_succ, Array.replicate_zero, List.push_toArray, List.append_toArray, List.nil_append, List.cons_append]
 go_wp2_with fail
 refine wp_loop_u (fun u => #[.slice A l.length c, undef, .string ⟨#[]⟩, .pointer (some ⟨w.heap.size, 0, none⟩), undef, u 5, u 6, u 7, .slice A l.length c, .int .i64 (l.length : Int), u 10, u 11, u 12, u 13, u 14, u 15, u 16, u 17, u 18, u 19, u 20, u 21, u 22, u 23, u 24, u 25, u 26, u 27, u 28, u 29, u 30, u 31, u 32, u 33, u 34, u 35, u 36, u 37, u 38, u 39, u 40, u 41, u 42, u 43, undef, u 45, u 46, u 47, u 48, u 49, undef]) (fun gk ds u wr => ItlRel w l gk ds (u 10) wr) l.length rfl ?atStart ?round
 case atStart => exact ⟨0, by omega, by omega, rfl, Blk.new _ _ _, trivial, pure_alloc _ _⟩
 case round =>
  intro gk ds u wr hrel J K hJ hK
  dsimp only
  obtain ⟨k, rfl, hk, hi, hb, hmk, hm⟩ := hrel;rw [hi];have HMK := Lib.hid hmk;have HM := Lib.hid hm;have HB := Lib.hid hb;have hg3 := hb.lt
  by_cases hlt : k < l.length
  ·obtain ⟨g, off, rfl, hrw⟩ := HROW.out (by omega);obtain ⟨c0, c1, c2, c3, c4, c5, c6⟩ := item_cells (hrw wr hm) hlt;have hX := HT.out _ (List.getElem_mem hlt);have HTK : Hid (itsT (l.take (k + 1)) = itsT (l.take k) ++ itTx l[k]) := Lib.hid (by rw [List.take_succ_eq_append_getElem hlt, itsT_snoc])
   have HAL : Hid ((itsT (l.take k)).length ≤ 42000 * 12) := Lib.hid (by
    have h1 := itsT_len (l := l.take k) (fun x hx => HT.out x (List.mem_of_mem_take hx));rw [List.length_take] at h1;have : 42000 * min k l.length ≤ 42000 * 12 := Nat.mul_le_mul_left _ (by omega)
    omega)
   generalize itsT (l.take k) = acc at *;generalize l[k] = x at *;have HX := Lib.hid hX
   have hkk : ((k : Nat) : Int) < (l.length : Int) := by omega
   clear hi hb hmk hm hX hrw;have HXE : Hid (itTx x = (Lib.join (itFs x) [32] ++ [10]) ++ itLn x.text) := Lib.hid rfl;have HFS : Hid (itFs x = [[105, 116, 101, 109], x.id, x.cust, kwS x.kind, Lib.itoa x.tm, if x.par = [] then [45] else x.par, quoS x.name, Lib.itoa ((Lib.countByte x.text 10 : Nat) : Int)]) := Lib.hid rfl;have HJL := Lib.hid (itHd_len HX.out);generalize itTx x = tx at *;generalize itFs x = fs at *;obtain ⟨xid, xcu, xki, xna, xtm, xpa, xte⟩ := x
   dsimp only at *
   obtain ⟨pv, hpv⟩ : ∃ pv : Str, (if xpa = [] then [45] else xpa) = pv := ⟨_, rfl⟩;rw [hpv] at HFS;have hB5 := Blk.new wr 40 #[.string ⟨xid.toArray⟩, .string ⟨xcu.toArray⟩, .int .i64 xki, .string ⟨xna.toArray⟩, .int .i64 xtm, .string ⟨xpa.toArray⟩, .string ⟨xte.toArray⟩];have hBA := HB.out.alloc (.cells #[.string ⟨xid.toArray⟩, .string ⟨xcu.toArray⟩, .int .i64 xki, .string ⟨xna.toArray⟩, .int .i64 xtm, .string ⟨xpa.toArray⟩, .string ⟨xte.toArray⟩] 40);have hPA := pure_alloc wr (.cells #[.string ⟨xid.toArray⟩, .string ⟨xcu.toArray⟩, .int .i64 xki, .string ⟨xna.toArray⟩, .int .i64 xtm, .string ⟨xpa.toArray⟩, .string ⟨xte.toArray⟩] 40)
   go_upto_region 5 with (fail)
   generalize (wr.alloc (.cells #[.string ⟨xid.toArray⟩, .string ⟨xcu.toArray⟩, .int .i64 xki, .string ⟨xna.toArray⟩, .int .i64 xtm, .string ⟨xpa.toArray⟩, .string ⟨xte.toArray⟩] 40)) = wA at *;generalize hg5 : wr.heap.size = g5 at *;have q5 := hB5.cell 5;simp at q5
   go_upto_if 17 with (fail)
   go_cut [6] from 16 to 17 (fun y wx => y = .string ⟨pv.toArray⟩ ∧ wA = wx)
   case first =>
    cases hp : List.isEmpty xpa with
    | true =>
     have hp2 : xpa = [] := by simpa using hp
     rw [if_pos hp2] at hpv;subst hpv;clear hp2 hp
     go_wp2_with fail
     go_meet;exact ⟨rfl, rfl⟩
    | false =>
     have hp2 : ¬ xpa = [] := by simpa using hp
     rw [if_neg hp2] at hpv;subst hpv;clear hp2 hp
     go_wp2_with fail
     go_meet;exact ⟨rfl, rfl⟩
   case rest =>
    obtain ⟨rfl, rfl⟩ := hcut;have HKW := Lib.hid (fun W => KindWord1 xki W HX.out.k1 HX.out.k4);have HIT := Lib.hid (fun W (h : Pow W) => itoaS_calls W xtm (by have := HX.out.t0; dsimp only at this; omega) (by have := HX.out.t1; dsimp only at this; omega) h);have HQU := Lib.hid (fun W => Quoted_calls W ⟨xna.toArray⟩ (by have := HX.out.name; dsimp only at this; simp [ByteArray.size]; omega));have HCN := Lib.hid (fun W => count1_calls W xte);have hcn : Lib.countByte xte 10 ≤ 20000 := Nat.le_trans List.count_le_length (by have := HX.out.text; exact this);have HIC := Lib.hid (fun W (h : Pow W) => itoaS_calls W ((Lib.countByte xte 10 : Nat) : Int) (by omega) (by omega) h);have hxna : (⟨xna.toArray⟩ : ByteArray).data.toList = xna := rfl;rw [hxna] at HQU;generalize ((Lib.countByte xte 10 : Nat) : Int) = cn at *;generalize kwS xki = kw at *;generalize Lib.itoa xtm = it at *;generalize Lib.itoa cn = ic at *;generalize quoS xna = qn at *
    have HJN : Hid (∀ W gg, Blk W gg 9 #[.string ⟨#[105, 116, 101, 109]⟩, .string ⟨xid.toArray⟩, .string ⟨xcu.toArray⟩, .string ⟨kw.toArray⟩, .string ⟨it.toArray⟩, .string ⟨pv.toArray⟩, .string ⟨qn.toArray⟩, .string ⟨ic.toArray⟩] →
      Calls Tryz.prog 54 #[.slice (some ⟨gg, 0, none⟩) 8 8, .string ⟨#[32]⟩] W (StrPost1 W (Lib.join fs [32]))) := Lib.hid (fun W gg h => by
     have hs : Sl W 9 1 (.slice (some ⟨gg, 0, none⟩) 8 8) (strsV fs) := by
      rw [HFS.out];exact ⟨_, _, _, rfl, Nat.le_refl _, by omega, by simp [strsV], fun _ => ⟨gg, 0, rfl, Blk.row0 h⟩⟩
     exact join_calls W _ fs [32] hs (by rw [HFS.out]; simp) (by have := HJL.out; omega))
    obtain ⟨hd, hhd⟩ : ∃ hd : Str, Lib.join fs [32] ++ [10] = hd := ⟨_, rfl⟩;have HD1 : Hid ((⟨(Lib.join fs [32]).toArray⟩ : ByteArray) ++ ⟨#[10]⟩ = ⟨hd.toArray⟩) := Lib.hid (by rw [← hhd]; exact bytes_app _ [10]);rw [hhd] at HXE;have HDL : Hid (hd.length ≤ 1001) := Lib.hid (by rw [← hhd]; have := HJL.out; simp; omega);have HS1 : Hid (¬ 9223372036854775807 < (Lib.join fs [32]).length + 1) := Lib.hid (by have := HJL.out; omega);have HS2 : Hid (¬ 9223372036854775807 < acc.length + hd.length) := Lib.hid (by have := HDL.out; have := HAL.out; omega);generalize Lib.join fs [32] = jn at *;obtain ⟨nx, hnx⟩ : ∃ nx : Str, acc ++ hd = nx := ⟨_, rfl⟩;have HD2 : Hid ((⟨acc.toArray⟩ : ByteArray) ++ ⟨hd.toArray⟩ = ⟨nx.toArray⟩) := Lib.hid (by rw [← hnx]; exact bytes_app _ _);have HNX := Lib.hid hnx;have HPR := Lib.hid hPA;have HPA := Lib.hid (HM.out.trans hPA);have hsz : w.heap.size < wA.heap.size := hBA.lt;have HPW : Hid (∀ Z, Mod (· = w.heap.size) wA Z → Pow Z) := Lib.hid (fun Z h => (HPOW.out _ HPA.out).mod h (fun e => by have := (HPOW.out _ (Mod.refl _ _)).lt; omega));have HB5 := Lib.hid hB5;have HBA := Lib.hid hBA;clear hhd hnx hPA hB5 hBA q5 c0 c1 c2 c3 c4 c5 c6 hpv hxna HJL
    go_upto_region 8 with (fail)
    have HGs := Lib.hid (show ∀ (D : Nat → Bool) (zzi : Nat) (zq zq' : World), zzi ≠ 23 → (fun D zq => (D 23 = false → (fun Z => Blk Z w.heap.size 9 #[.string ⟨acc.toArray⟩]) zq) ∧ (fun Z => (D 23 = true → Blk Z w.heap.size 9 #[.string ⟨nx.toArray⟩]) ∧ Blk Z g5 40 #[.string ⟨xid.toArray⟩, .string ⟨xcu.toArray⟩, .int .i64 xki, .string ⟨xna.toArray⟩, .int .i64 xtm, .string ⟨xpa.toArray⟩, .string ⟨xte.toArray⟩]) zq) D zq → Mod (fun _ => False) zq zq' → (fun D zq => (D 23 = false → (fun Z => Blk Z w.heap.size 9 #[.string ⟨acc.toArray⟩]) zq) ∧ (fun Z => (D 23 = true → Blk Z w.heap.size 9 #[.string ⟨nx.toArray⟩]) ∧ Blk Z g5 40 #[.string ⟨xid.toArray⟩, .string ⟨xcu.toArray⟩, .int .i64 xki, .string ⟨xna.toArray⟩, .int .i64 xtm, .string ⟨xpa.toArray⟩, .string ⟨xte.toArray⟩]) zq) (upd D zzi true) zq' from by intro D zzi zq zq' hi hh hm; refine ⟨fun hs => ?_, ?_⟩; (rw [upd_ne _ _ (Ne.symm hi)] at hs; have h := hh.1 hs; (exact h.modp hm)); (have h := hh.2; (refine ⟨?_, h.2.modp hm⟩; intro hs; rw [upd_ne _ _ (Ne.symm hi)] at hs; exact (h.1 hs).modp hm)))
    refine wp_region_inv (by kernel_rfl) (by kernel_rfl) (InvF (R := Mod (fun _ => False)) [.is (.string ⟨acc.toArray⟩),
      .is (.pointer (some ⟨g5, 0, none⟩)),
      .is (.string ⟨xid.toArray⟩),
      .is (.pointer (some ⟨g5, 1, none⟩)),
      .is (.string ⟨xcu.toArray⟩),
      .is (.pointer (some ⟨g5, 2, none⟩)),
      .is (.int .i64 xki),
      .is (.string ⟨kw.toArray⟩),
      .is (.pointer (some ⟨g5, 4, none⟩)),
      .is (.int .i64 xtm),
      .is (.string ⟨it.toArray⟩),
      .is (.string ⟨pv.toArray⟩),
      .is (.pointer (some ⟨g5, 3, none⟩)),
      .is (.string ⟨xna.toArray⟩),
      .is (.string ⟨qn.toArray⟩),
      .is (.pointer (some ⟨g5, 6, none⟩)),
      .is (.string ⟨xte.toArray⟩),
      .is (.int .i64 cn),
      .is (.string ⟨ic.toArray⟩),
      ⟨fun zv zw => ∃ (g_19 : Nat), zv = .slice (some ⟨g_19, 0, none⟩) 8 8 ∧ wA.heap.size ≤ g_19 ∧ Blk zw g_19 9 #[(.string { data := #[105, 116, 101, 109] }), .string ⟨xid.toArray⟩, .string ⟨xcu.toArray⟩, .string ⟨kw.toArray⟩, .string ⟨it.toArray⟩, .string ⟨pv.toArray⟩, .string ⟨qn.toArray⟩, .string ⟨ic.toArray⟩], (by rintro zv zw zx ⟨g_19, rfl, c0, q0⟩ hm; exact ⟨g_19, rfl, c0, (q0.modp hm)⟩), none, some 20⟩,
      .is (.string ⟨jn.toArray⟩),
      .is (.string ⟨hd.toArray⟩),
      .is (.string ⟨nx.toArray⟩),
      .any]
      (PB wA (· = w.heap.size) wA.heap.size (fun D zq => (D 23 = false → (fun Z => Blk Z w.heap.size 9 #[.string ⟨acc.toArray⟩]) zq) ∧ (fun Z => (D 23 = true → Blk Z w.heap.size 9 #[.string ⟨nx.toArray⟩]) ∧ Blk Z g5 40 #[.string ⟨xid.toArray⟩, .string ⟨xcu.toArray⟩, .int .i64 xki, .string ⟨xna.toArray⟩, .int .i64 xtm, .string ⟨xpa.toArray⟩, .string ⟨xte.toArray⟩]) zq))) (InvF.start (PB.start (Mod.refl _ _) (Nat.le_refl _) (⟨fun _ => HBA.out, ⟨(fun h => by cases h), HB5.out⟩⟩))) ?_ ?_
    ·refine .cons ?_ (.cons ?_ (.cons ?_ (.cons ?_ (.cons ?_ (.cons ?_ (.cons ?_ (.cons ?_ (.cons ?_ (.cons ?_ (.cons ?_ (.cons ?_ (.cons ?_ (.cons ?_ (.cons ?_ (.cons ?_ (.cons ?_ (.cons ?_ (.cons ?_ (.cons ?_ (.cons ?_ (.cons ?_ (.cons ?_ (.cons ?_ .nil)))))))))))))))))))))))
     ·intro D V zw1 a hR hI K hK;obtain ⟨hM1, hB1, hG1⟩ := hI.1;obtain ⟨hGK, hG1⟩ := hG1;have ze3 := hR.frame.other (t := 3) (by kernel_rfl) rfl;have zx0 := (hGK (hR.later 23 rfl (by kernel_rfl))).cell 0; simp at zx0;rw [if_pos (by rfl)];go_simp;exact hK (.string ⟨acc.toArray⟩) _ (hI.next hR (by kernel_rfl) (Mod.refl _ _) (PB.quiet hI.1 (Mod.refl _ _) (HGs.out D 0 zw1 zw1 (by omega) (hI.1).g (Mod.refl _ _))) (upd_same V 0 _))
     ·intro D V zw1 a hR hI K hK;obtain ⟨hM1, hB1, hG1⟩ := hI.1;obtain ⟨hGK, hG1⟩ := hG1;have ze5 := hR.frame.other (t := 5) (by kernel_rfl) rfl;rw [if_pos (by rfl)];go_simp;exact hK (.pointer (some ⟨g5, 0, none⟩)) _ (hI.next hR (by kernel_rfl) (Mod.refl _ _) (PB.quiet hI.1 (Mod.refl _ _) (HGs.out D 1 zw1 zw1 (by omega) (hI.1).g (Mod.refl _ _))) (upd_same V 1 _))
     ·intro D V zw1 a hR hI K hK;obtain ⟨hM1, hB1, hG1⟩ := hI.1;obtain ⟨hGK, hG1⟩ := hG1;have zd1 := hR.pred 1 (by kernel_rfl);have zf1 : V 1 = .pointer (some ⟨g5, 0, none⟩) := hI.2 1 zd1 rfl;have ze19 := hR.frame.done (t := 19) (j := 1) (by kernel_rfl) hR.ok zd1;have zx0 := hG1.2.cell 0; have zx1 := hG1.2.cell 1; have zx2 := hG1.2.cell 2; have zx3 := hG1.2.cell 3; have zx4 := hG1.2.cell 4; have zx5 := hG1.2.cell 5; have zx6 := hG1.2.cell 6;simp at zx0 zx1 zx2 zx3 zx4 zx5 zx6;rw [if_pos (by rfl)];go_simp;exact hK (.string ⟨xid.toArray⟩) _ (hI.next hR (by kernel_rfl) (Mod.refl _ _) (PB.quiet hI.1 (Mod.refl _ _) (HGs.out D 2 zw1 zw1 (by omega) (hI.1).g (Mod.refl _ _))) (upd_same V 2 _))
     ·intro D V zw1 a hR hI K hK;obtain ⟨hM1, hB1, hG1⟩ := hI.1;obtain ⟨hGK, hG1⟩ := hG1;have ze5 := hR.frame.other (t := 5) (by kernel_rfl) rfl;rw [if_pos (by rfl)];go_simp;exact hK (.pointer (some ⟨g5, 1, none⟩)) _ (hI.next hR (by kernel_rfl) (Mod.refl _ _) (PB.quiet hI.1 (Mod.refl _ _) (HGs.out D 3 zw1 zw1 (by omega) (hI.1).g (Mod.refl _ _))) (upd_same V 3 _))
     ·intro D V zw1 a hR hI K hK;obtain ⟨hM1, hB1, hG1⟩ := hI.1;obtain ⟨hGK, hG1⟩ := hG1;have zd3 := hR.pred 3 (by kernel_rfl);have zf3 : V 3 = .pointer (some ⟨g5, 1, none⟩) := hI.2 3 zd3 rfl;have ze21 := hR.frame.done (t := 21) (j := 3) (by kernel_rfl) hR.ok zd3;have zx0 := hG1.2.cell 0; have zx1 := hG1.2.cell 1; have zx2 := hG1.2.cell 2; have zx3 := hG1.2.cell 3; have zx4 := hG1.2.cell 4; have zx5 := hG1.2.cell 5; have zx6 := hG1.2.cell 6;simp at zx0 zx1 zx2 zx3 zx4 zx5 zx6;rw [if_pos (by rfl)];go_simp;exact hK (.string ⟨xcu.toArray⟩) _ (hI.next hR (by kernel_rfl) (Mod.refl _ _) (PB.quiet hI.1 (Mod.refl _ _) (HGs.out D 4 zw1 zw1 (by omega) (hI.1).g (Mod.refl _ _))) (upd_same V 4 _))
     ·intro D V zw1 a hR hI K hK;obtain ⟨hM1, hB1, hG1⟩ := hI.1;obtain ⟨hGK, hG1⟩ := hG1;have ze5 := hR.frame.other (t := 5) (by kernel_rfl) rfl;rw [if_pos (by rfl)];go_simp;exact hK (.pointer (some ⟨g5, 2, none⟩)) _ (hI.next hR (by kernel_rfl) (Mod.refl _ _) (PB.quiet hI.1 (Mod.refl _ _) (HGs.out D 5 zw1 zw1 (by omega) (hI.1).g (Mod.refl _ _))) (upd_same V 5 _))
     ·intro D V zw1 a hR hI K hK;obtain ⟨hM1, hB1, hG1⟩ := hI.1;obtain ⟨hGK, hG1⟩ := hG1;have zd5 := hR.pred 5 (by kernel_rfl);have zf5 : V 5 = .pointer (some ⟨g5, 2, none⟩) := hI.2 5 zd5 rfl;have ze23 := hR.frame.done (t := 23) (j := 5) (by kernel_rfl) hR.ok zd5;have zx0 := hG1.2.cell 0; have zx1 := hG1.2.cell 1; have zx2 := hG1.2.cell 2; have zx3 := hG1.2.cell 3; have zx4 := hG1.2.cell 4; have zx5 := hG1.2.cell 5; have zx6 := hG1.2.cell 6;simp at zx0 zx1 zx2 zx3 zx4 zx5 zx6;rw [if_pos (by rfl)];go_simp;exact hK (.int .i64 xki) _ (hI.next hR (by kernel_rfl) (Mod.refl _ _) (PB.quiet hI.1 (Mod.refl _ _) (HGs.out D 6 zw1 zw1 (by omega) (hI.1).g (Mod.refl _ _))) (upd_same V 6 _))
     ·intro D V zw1 a hR hI K hK;obtain ⟨hM1, hB1, hG1⟩ := hI.1;obtain ⟨hGK, hG1⟩ := hG1;have zd6 := hR.pred 6 (by kernel_rfl);have zf6 : V 6 = .int .i64 xki := hI.2 6 zd6 rfl;have ze24 := hR.frame.done (t := 24) (j := 6) (by kernel_rfl) hR.ok zd6;rw [if_pos (by rfl)];go_simp;refine (HKW.out zw1).mono ?_;rintro e zw2 ⟨rfl, hm2⟩;exact hK (.string ⟨kw.toArray⟩) _ (hI.next hR (by kernel_rfl) hm2 (PB.quiet hI.1 hm2 (HGs.out D 7 _ _ (by omega) (hI.1).g hm2)) (upd_same V 7 _))
     ·intro D V zw1 a hR hI K hK;obtain ⟨hM1, hB1, hG1⟩ := hI.1;obtain ⟨hGK, hG1⟩ := hG1;have ze5 := hR.frame.other (t := 5) (by kernel_rfl) rfl;rw [if_pos (by rfl)];go_simp;exact hK (.pointer (some ⟨g5, 4, none⟩)) _ (hI.next hR (by kernel_rfl) (Mod.refl _ _) (PB.quiet hI.1 (Mod.refl _ _) (HGs.out D 8 zw1 zw1 (by omega) (hI.1).g (Mod.refl _ _))) (upd_same V 8 _))
     ·intro D V zw1 a hR hI K hK;obtain ⟨hM1, hB1, hG1⟩ := hI.1;obtain ⟨hGK, hG1⟩ := hG1;have zd8 := hR.pred 8 (by kernel_rfl);have zf8 : V 8 = .pointer (some ⟨g5, 4, none⟩) := hI.2 8 zd8 rfl;have ze26 := hR.frame.done (t := 26) (j := 8) (by kernel_rfl) hR.ok zd8;have zx0 := hG1.2.cell 0; have zx1 := hG1.2.cell 1; have zx2 := hG1.2.cell 2; have zx3 := hG1.2.cell 3; have zx4 := hG1.2.cell 4; have zx5 := hG1.2.cell 5; have zx6 := hG1.2.cell 6;simp at zx0 zx1 zx2 zx3 zx4 zx5 zx6;rw [if_pos (by rfl)];go_simp;exact hK (.int .i64 xtm) _ (hI.next hR (by kernel_rfl) (Mod.refl _ _) (PB.quiet hI.1 (Mod.refl _ _) (HGs.out D 9 zw1 zw1 (by omega) (hI.1).g (Mod.refl _ _))) (upd_same V 9 _))
     ·intro D V zw1 a hR hI K hK;obtain ⟨hM1, hB1, hG1⟩ := hI.1;obtain ⟨hGK, hG1⟩ := hG1;have zd9 := hR.pred 9 (by kernel_rfl);have zf9 : V 9 = .int .i64 xtm := hI.2 9 zd9 rfl;have ze27 := hR.frame.done (t := 27) (j := 9) (by kernel_rfl) hR.ok zd9;rw [if_pos (by rfl)];go_simp;refine (HIT.out zw1 (HPW.out zw1 hM1)).mono ?_;rintro e zw2 ⟨rfl, hm2⟩;exact hK (.string ⟨it.toArray⟩) _ (hI.next hR (by kernel_rfl) hm2 (PB.quiet hI.1 hm2 (HGs.out D 10 _ _ (by omega) (hI.1).g hm2)) (upd_same V 10 _))
     ·intro D V zw1 a hR hI K hK;obtain ⟨hM1, hB1, hG1⟩ := hI.1;obtain ⟨hGK, hG1⟩ := hG1;have ze6 := hR.frame.other (t := 6) (by kernel_rfl) rfl;rw [if_pos (by rfl)];go_simp;exact hK (.string ⟨pv.toArray⟩) _ (hI.next hR (by kernel_rfl) (Mod.refl _ _) (PB.quiet hI.1 (Mod.refl _ _) (HGs.out D 11 zw1 zw1 (by omega) (hI.1).g (Mod.refl _ _))) (upd_same V 11 _))
     ·intro D V zw1 a hR hI K hK;obtain ⟨hM1, hB1, hG1⟩ := hI.1;obtain ⟨hGK, hG1⟩ := hG1;have ze5 := hR.frame.other (t := 5) (by kernel_rfl) rfl;rw [if_pos (by rfl)];go_simp;exact hK (.pointer (some ⟨g5, 3, none⟩)) _ (hI.next hR (by kernel_rfl) (Mod.refl _ _) (PB.quiet hI.1 (Mod.refl _ _) (HGs.out D 12 zw1 zw1 (by omega) (hI.1).g (Mod.refl _ _))) (upd_same V 12 _))
     ·intro D V zw1 a hR hI K hK;obtain ⟨hM1, hB1, hG1⟩ := hI.1;obtain ⟨hGK, hG1⟩ := hG1;have zd12 := hR.pred 12 (by kernel_rfl);have zf12 : V 12 = .pointer (some ⟨g5, 3, none⟩) := hI.2 12 zd12 rfl;have ze30 := hR.frame.done (t := 30) (j := 12) (by kernel_rfl) hR.ok zd12;have zx0 := hG1.2.cell 0; have zx1 := hG1.2.cell 1; have zx2 := hG1.2.cell 2; have zx3 := hG1.2.cell 3; have zx4 := hG1.2.cell 4; have zx5 := hG1.2.cell 5; have zx6 := hG1.2.cell 6;simp at zx0 zx1 zx2 zx3 zx4 zx5 zx6;rw [if_pos (by rfl)];go_simp;exact hK (.string ⟨xna.toArray⟩) _ (hI.next hR (by kernel_rfl) (Mod.refl _ _) (PB.quiet hI.1 (Mod.refl _ _) (HGs.out D 13 zw1 zw1 (by omega) (hI.1).g (Mod.refl _ _))) (upd_same V 13 _))
     ·intro D V zw1 a hR hI K hK;obtain ⟨hM1, hB1, hG1⟩ := hI.1;obtain ⟨hGK, hG1⟩ := hG1;have zd13 := hR.pred 13 (by kernel_rfl);have zf13 : V 13 = .string ⟨xna.toArray⟩ := hI.2 13 zd13 rfl;have ze31 := hR.frame.done (t := 31) (j := 13) (by kernel_rfl) hR.ok zd13;rw [if_pos (by rfl)];go_simp;refine (HQU.out zw1).mono ?_;rintro e zw2 ⟨rfl, hm2⟩;exact hK (.string ⟨qn.toArray⟩) _ (hI.next hR (by kernel_rfl) hm2 (PB.quiet hI.1 hm2 (HGs.out D 14 _ _ (by omega) (hI.1).g hm2)) (upd_same V 14 _))
     ·intro D V zw1 a hR hI K hK;obtain ⟨hM1, hB1, hG1⟩ := hI.1;obtain ⟨hGK, hG1⟩ := hG1;have ze5 := hR.frame.other (t := 5) (by kernel_rfl) rfl;rw [if_pos (by rfl)];go_simp;exact hK (.pointer (some ⟨g5, 6, none⟩)) _ (hI.next hR (by kernel_rfl) (Mod.refl _ _) (PB.quiet hI.1 (Mod.refl _ _) (HGs.out D 15 zw1 zw1 (by omega) (hI.1).g (Mod.refl _ _))) (upd_same V 15 _))
     ·intro D V zw1 a hR hI K hK;obtain ⟨hM1, hB1, hG1⟩ := hI.1;obtain ⟨hGK, hG1⟩ := hG1;have zd15 := hR.pred 15 (by kernel_rfl);have zf15 : V 15 = .pointer (some ⟨g5, 6, none⟩) := hI.2 15 zd15 rfl;have ze33 := hR.frame.done (t := 33) (j := 15) (by kernel_rfl) hR.ok zd15;have zx0 := hG1.2.cell 0; have zx1 := hG1.2.cell 1; have zx2 := hG1.2.cell 2; have zx3 := hG1.2.cell 3; have zx4 := hG1.2.cell 4; have zx5 := hG1.2.cell 5; have zx6 := hG1.2.cell 6;simp at zx0 zx1 zx2 zx3 zx4 zx5 zx6;rw [if_pos (by rfl)];go_simp;exact hK (.string ⟨xte.toArray⟩) _ (hI.next hR (by kernel_rfl) (Mod.refl _ _) (PB.quiet hI.1 (Mod.refl _ _) (HGs.out D 16 zw1 zw1 (by omega) (hI.1).g (Mod.refl _ _))) (upd_same V 16 _))
     ·intro D V zw1 a hR hI K hK;obtain ⟨hM1, hB1, hG1⟩ := hI.1;obtain ⟨hGK, hG1⟩ := hG1;have zd16 := hR.pred 16 (by kernel_rfl);have zf16 : V 16 = .string ⟨xte.toArray⟩ := hI.2 16 zd16 rfl;have ze34 := hR.frame.done (t := 34) (j := 16) (by kernel_rfl) hR.ok zd16;rw [if_pos (by rfl)];go_simp;refine (HCN.out zw1).mono ?_;rintro e zw2 ⟨rfl, hm2⟩;exact hK (.int .i64 cn) _ (hI.next hR (by kernel_rfl) hm2 (PB.quiet hI.1 hm2 (HGs.out D 17 _ _ (by omega) (hI.1).g hm2)) (upd_same V 17 _))
     ·intro D V zw1 a hR hI K hK;obtain ⟨hM1, hB1, hG1⟩ := hI.1;obtain ⟨hGK, hG1⟩ := hG1;have zd17 := hR.pred 17 (by kernel_rfl);have zf17 : V 17 = .int .i64 cn := hI.2 17 zd17 rfl;have ze35 := hR.frame.done (t := 35) (j := 17) (by kernel_rfl) hR.ok zd17;rw [if_pos (by rfl)];go_simp;refine (HIC.out zw1 (HPW.out zw1 hM1)).mono ?_;rintro e zw2 ⟨rfl, hm2⟩;exact hK (.string ⟨ic.toArray⟩) _ (hI.next hR (by kernel_rfl) hm2 (PB.quiet hI.1 hm2 (HGs.out D 18 _ _ (by omega) (hI.1).g hm2)) (upd_same V 18 _))
     ·intro D V zw1 a hR hI K hK;obtain ⟨hM1, hB1, hG1⟩ := hI.1;obtain ⟨hGK, hG1⟩ := hG1;have zd2 := hR.pred 2 (by kernel_rfl);have zf2 : V 2 = .string ⟨xid.toArray⟩ := hI.2 2 zd2 rfl;have zd4 := hR.pred 4 (by kernel_rfl);have zf4 : V 4 = .string ⟨xcu.toArray⟩ := hI.2 4 zd4 rfl;have zd7 := hR.pred 7 (by kernel_rfl);have zf7 : V 7 = .string ⟨kw.toArray⟩ := hI.2 7 zd7 rfl;have zd10 := hR.pred 10 (by kernel_rfl);have zf10 : V 10 = .string ⟨it.toArray⟩ := hI.2 10 zd10 rfl;have zd11 := hR.pred 11 (by kernel_rfl);have zf11 : V 11 = .string ⟨pv.toArray⟩ := hI.2 11 zd11 rfl;have zd14 := hR.pred 14 (by kernel_rfl);have zf14 : V 14 = .string ⟨qn.toArray⟩ := hI.2 14 zd14 rfl;have zd18 := hR.pred 18 (by kernel_rfl);have zf18 : V 18 = .string ⟨ic.toArray⟩ := hI.2 18 zd18 rfl;have ze20 := hR.frame.done (t := 20) (j := 2) (by kernel_rfl) hR.ok zd2;have ze22 := hR.frame.done (t := 22) (j := 4) (by kernel_rfl) hR.ok zd4;have ze25 := hR.frame.done (t := 25) (j := 7) (by kernel_rfl) hR.ok zd7;have ze28 := hR.frame.done (t := 28) (j := 10) (by kernel_rfl) hR.ok zd10;have ze29 := hR.frame.done (t := 29) (j := 11) (by kernel_rfl) hR.ok zd11;have ze32 := hR.frame.done (t := 32) (j := 14) (by kernel_rfl) hR.ok zd14;have ze36 := hR.frame.done (t := 36) (j := 18) (by kernel_rfl) hR.ok zd18;rw [if_pos (by rfl)];go_simp;exact hK (_) _ (hI.next hR (by kernel_rfl) ((Mod.refl _ _).alloc _) (PB.quiet hI.1 (pure_alloc _ _) (HGs.out D 19 _ _ (by omega) (hI.1).g ((Mod.refl _ _).alloc _))) (⟨_, upd_same V 19 _, (by omega), (Blk.new _ _ _)⟩))
     ·intro D V zw1 a hR hI K hK;obtain ⟨hM1, hB1, hG1⟩ := hI.1;obtain ⟨hGK, hG1⟩ := hG1;have zd19 := hR.pred 19 (by kernel_rfl);have zF19 : ∃ (g_19 : Nat), V 19 = .slice (some ⟨g_19, 0, none⟩) 8 8 ∧ wA.heap.size ≤ g_19 ∧ Blk zw1 g_19 9 #[(.string { data := #[105, 116, 101, 109] }), .string ⟨xid.toArray⟩, .string ⟨xcu.toArray⟩, .string ⟨kw.toArray⟩, .string ⟨it.toArray⟩, .string ⟨pv.toArray⟩, .string ⟨qn.toArray⟩, .string ⟨ic.toArray⟩] := hI.2 19 zd19 (by show (!D 20) = true; rw [hR.not]; rfl);obtain ⟨g_19, zf19, c19_0, b19_0⟩ := zF19;have ze37 := hR.frame.done (t := 37) (j := 19) (by kernel_rfl) hR.ok zd19;rw [if_pos (by rfl)];go_simp;refine (HJN.out zw1 g_19 b19_0).mono ?_;rintro e zw2 ⟨rfl, hm2⟩;exact hK (.string ⟨jn.toArray⟩) _ (hI.next hR (by kernel_rfl) hm2 (PB.quiet hI.1 hm2 (HGs.out D 20 _ _ (by omega) (hI.1).g hm2)) (upd_same V 20 _))
     ·intro D V zw1 a hR hI K hK;obtain ⟨hM1, hB1, hG1⟩ := hI.1;obtain ⟨hGK, hG1⟩ := hG1;have zd20 := hR.pred 20 (by kernel_rfl);have zf20 : V 20 = .string ⟨jn.toArray⟩ := hI.2 20 zd20 rfl;have ze38 := hR.frame.done (t := 38) (j := 20) (by kernel_rfl) hR.ok zd20;have he := HD1.out; have hl := HS1.out;rw [if_pos (by rfl)];go_simp;exact hK (.string ⟨hd.toArray⟩) _ (hI.next hR (by kernel_rfl) (Mod.refl _ _) (PB.quiet hI.1 (Mod.refl _ _) (HGs.out D 21 zw1 zw1 (by omega) (hI.1).g (Mod.refl _ _))) (upd_same V 21 _))
     ·intro D V zw1 a hR hI K hK;obtain ⟨hM1, hB1, hG1⟩ := hI.1;obtain ⟨hGK, hG1⟩ := hG1;have zd0 := hR.pred 0 (by kernel_rfl);have zf0 : V 0 = .string ⟨acc.toArray⟩ := hI.2 0 zd0 rfl;have zd21 := hR.pred 21 (by kernel_rfl);have zf21 : V 21 = .string ⟨hd.toArray⟩ := hI.2 21 zd21 rfl;have ze18 := hR.frame.done (t := 18) (j := 0) (by kernel_rfl) hR.ok zd0;have ze39 := hR.frame.done (t := 39) (j := 21) (by kernel_rfl) hR.ok zd21;have he := HD2.out; have hl := HS2.out;rw [if_pos (by rfl)];go_simp;exact hK (.string ⟨nx.toArray⟩) _ (hI.next hR (by kernel_rfl) (Mod.refl _ _) (PB.quiet hI.1 (Mod.refl _ _) (HGs.out D 22 zw1 zw1 (by omega) (hI.1).g (Mod.refl _ _))) (upd_same V 22 _))
     ·intro D V zw1 a hR hI K hK;obtain ⟨hM1, hB1, hG1⟩ := hI.1;obtain ⟨hGK, hG1⟩ := hG1;have zd22 := hR.pred 22 (by kernel_rfl);have zf22 : V 22 = .string ⟨nx.toArray⟩ := hI.2 22 zd22 rfl;have ze3 := hR.frame.other (t := 3) (by kernel_rfl) rfl;have ze40 := hR.frame.done (t := 40) (j := 22) (by kernel_rfl) hR.ok zd22;rw [if_pos (by rfl)];have zx0 := (hGK hR.not).cell 0; have zy0 := (hGK hR.not).frozen 0;simp at zx0 zy0;go_simp;refine hK undef _ (InvF.last ⟨hM1.setCell (.inl rfl) _, (by simpa using hB1), ⟨fun hs => absurd hs (by rw [upd_same]; decide), fun _ => (hGK hR.not).set 0 _, hG1.2.far (by show g5 ≠ w.heap.size; omega) _⟩⟩ trivial ?_);intro k hk hDk hlv;have hkl := hR.lt k hDk;have hv := hI.2 k hDk (liveB_of hlv)
      match k, hk, hDk, hlv, hkl, hv with
      | 0, _, _, _, _, hv => exact hv
      | 1, _, _, _, _, hv => exact hv
      | 2, _, _, _, _, hv => exact hv
      | 3, _, _, _, _, hv => exact hv
      | 4, _, _, _, _, hv => exact hv
      | 5, _, _, _, _, hv => exact hv
      | 6, _, _, _, _, hv => exact hv
      | 7, _, _, _, _, hv => exact hv
      | 8, _, _, _, _, hv => exact hv
      | 9, _, _, _, _, hv => exact hv
      | 10, _, _, _, _, hv => exact hv
      | 11, _, _, _, _, hv => exact hv
      | 12, _, _, _, _, hv => exact hv
      | 13, _, _, _, _, hv => exact hv
      | 14, _, _, _, _, hv => exact hv
      | 15, _, _, _, _, hv => exact hv
      | 16, _, _, _, _, hv => exact hv
      | 17, _, _, _, _, hv => exact hv
      | 18, _, _, _, _, hv => exact hv
      | 19, _, _, hlv, _, _ => exact absurd hlv (by show ¬ (!upd D 23 true 20) = true; rw [upd_ne _ _ (by omega), hR.pred 20 (by kernel_rfl)]; decide)
      | 20, _, _, _, _, hv => exact hv
      | 21, _, _, _, _, hv => exact hv
      | 22, _, _, _, _, hv => exact hv
      | 23, hk, _, _, _, _ => exact absurd rfl hk
      | k + 24, _, _, _, hkl, _ => exact absurd hkl (by simp)
    ·intro D V wB hD hI;obtain ⟨hM1, hB1, hG1⟩ := hI.1;have hMx := hM1;clear hM1;have hBx := hB1;clear hB1;have hGx := And.intro (hG1.2.1 (hD 23 (by decide))) hG1.2.2;clear hG1;have zf0 : V 0 = .string ⟨acc.toArray⟩ := hI.2 0 (hD 0 (by decide)) rfl;have zf1 : V 1 = .pointer (some ⟨g5, 0, none⟩) := hI.2 1 (hD 1 (by decide)) rfl;have zf2 : V 2 = .string ⟨xid.toArray⟩ := hI.2 2 (hD 2 (by decide)) rfl;have zf3 : V 3 = .pointer (some ⟨g5, 1, none⟩) := hI.2 3 (hD 3 (by decide)) rfl;have zf4 : V 4 = .string ⟨xcu.toArray⟩ := hI.2 4 (hD 4 (by decide)) rfl;have zf5 : V 5 = .pointer (some ⟨g5, 2, none⟩) := hI.2 5 (hD 5 (by decide)) rfl;have zf6 : V 6 = .int .i64 xki := hI.2 6 (hD 6 (by decide)) rfl;have zf7 : V 7 = .string ⟨kw.toArray⟩ := hI.2 7 (hD 7 (by decide)) rfl;have zf8 : V 8 = .pointer (some ⟨g5, 4, none⟩) := hI.2 8 (hD 8 (by decide)) rfl;have zf9 : V 9 = .int .i64 xtm := hI.2 9 (hD 9 (by decide)) rfl;have zf10 : V 10 = .string ⟨it.toArray⟩ := hI.2 10 (hD 10 (by decide)) rfl;have zf11 : V 11 = .string ⟨pv.toArray⟩ := hI.2 11 (hD 11 (by decide)) rfl;have zf12 : V 12 = .pointer (some ⟨g5, 3, none⟩) := hI.2 12 (hD 12 (by decide)) rfl;have zf13 : V 13 = .string ⟨xna.toArray⟩ := hI.2 13 (hD 13 (by decide)) rfl;have zf14 : V 14 = .string ⟨qn.toArray⟩ := hI.2 14 (hD 14 (by decide)) rfl;have zf15 : V 15 = .pointer (some ⟨g5, 6, none⟩) := hI.2 15 (hD 15 (by decide)) rfl;have zf16 : V 16 = .string ⟨xte.toArray⟩ := hI.2 16 (hD 16 (by decide)) rfl;have zf17 : V 17 = .int .i64 cn := hI.2 17 (hD 17 (by decide)) rfl;have zf18 : V 18 = .string ⟨ic.toArray⟩ := hI.2 18 (hD 18 (by decide)) rfl;have zf20 : V 20 = .string ⟨jn.toArray⟩ := hI.2 20 (hD 20 (by decide)) rfl;have zf21 : V 21 = .string ⟨hd.toArray⟩ := hI.2 21 (hD 21 (by decide)) rfl;have zf22 : V 22 = .string ⟨nx.toArray⟩ := hI.2 22 (hD 22 (by decide)) rfl;clear hI hD HGs;simp only [frAll, Act.put, List.setIfInBounds_toArray, List.set_cons_zero, List.set_cons_succ, Nat.zero_add, Nat.reduceAdd, zf0, zf1, zf2, zf3, zf4, zf5, zf6, zf7, zf8, zf9, zf10, zf11, zf12, zf13, zf14, zf15, zf16, zf17, zf18, zf20, zf21, zf22];clear zf0 zf1 zf2 zf3 zf4 zf5 zf6 zf7 zf8 zf9 zf10 zf11 zf12 zf13 zf14 zf15 zf16 zf17 zf18 zf20 zf21 zf22;generalize V 19 = u19;clear V D;obtain ⟨hb3, hb5⟩ := hGx;have q6 := hb5.cell 6;simp at q6;have HB3 := Lib.hid hb3;have HMB := Lib.hid hMx;have hszB := hMx.size;have hxl := HX.out.text
     dsimp only at hxl
     clear hb3 hb5 hMx hBx
     go_wp2_with fail
     refine (lines_calls wB xte).mono ?_;rintro e wy ⟨rfl, hwy⟩;have hBX := Blk.new wB 9 #[.string ⟨xte.toArray⟩];have hB3 := HB3.out.alloc (.cells #[.string ⟨xte.toArray⟩] 9);have hPY := pure_alloc wB (.cells #[.string ⟨xte.toArray⟩] 9);rw [← hwy] at hBX hB3 hPY;generalize hgB : wB.heap.size = gB at *;have hgy := hBX.lt;have HBX := Lib.hid hBX;have HB3y := Lib.hid hB3;have HPY := Lib.hid hPY;clear hwy hBX hB3 hPY q6
     go_wp2_with fail
     refine wp_rangeFuncW (gf := 127) (lb := #[.pointer (some ⟨gB, 0, none⟩)]) rfl (enters_of Tryz.func127 (by kernel_rfl) rfl) (fun k => k = w.heap.size) gB (by omega)
      (lns_seq gB xte (by omega) _ (by omega) wy HBX.out) (fun _ => rfl) (LnI wy w.heap.size gB nx)
      (fun pre X Y hx hb => ⟨hb.blk hx.1, hx.2.trans' hb.mod (fun i h hl => .inl h.1)⟩)
      (fun pre X Y hx hm => ⟨hx.1.mod hm (by omega), hx.2.trans' hm (fun i h hl => .inr (.inr h))⟩)
      ⟨by simpa using HB3y.out, Mod.refl _ _⟩ ?assign ?done
     case assign =>
      rintro l0 pre0 ⟨ln, hln⟩ W0 K0 hI0 hK0
      gi_wp2
      clear hI0 pre0 W0;rintro l' pre W ⟨hbW, hmW⟩ hlen
      try dsimp only at *
      have hpl := lnE_len pre;have HSN : Hid (nx ++ (pre ++ [(⟨ln, hln⟩ : LnE)]).flatMap (fun x => 124 :: x.1) = (nx ++ pre.flatMap (fun x => 124 :: x.1)) ++ (124 :: ln)) := Lib.hid (by simp)
      have hnxl : nx.length ≤ 600000 := by rw [← HNX.out]; have := HAL.out; have := HDL.out; simp; omega
      have hcl : (nx ++ pre.flatMap (fun x => 124 :: x.1)).length ≤ 100000000000 := by rw [List.length_append]; omega
      generalize nx ++ pre.flatMap (fun x => 124 :: x.1) = cur at *;have q3 := hbW.cell 0;have q4 := hbW.frozen 0;simp at q3 q4;have hgW := hbW.lt;have HBW := Lib.hid hbW;have HMW := Lib.hid hmW;obtain ⟨la, hla⟩ : ∃ la : Str, 124 :: ln = la := ⟨_, rfl⟩;obtain ⟨nw, hnw⟩ : ∃ nw : Str, cur ++ la = nw := ⟨_, rfl⟩
      have he1 : (⟨#[124]⟩ : ByteArray) ++ ⟨ln.toArray⟩ = ⟨la.toArray⟩ := by rw [← hla]; exact bytes_app [124] ln
      have he2 : (⟨cur.toArray⟩ : ByteArray) ++ ⟨la.toArray⟩ = ⟨nw.toArray⟩ := by rw [← hnw]; exact bytes_app _ _
      have hlal : la.length = ln.length + 1 := by rw [← hla]; simp
      have hs1 : ¬ 9223372036854775807 < 1 + ln.length := by omega
      have hs2 : ¬ 9223372036854775807 < cur.length + la.length := by omega
      rw [hla, hnw] at HSN;clear hla hnw hbW hmW
      gi_wp2
      refine ⟨rfl, Mod.setCell (S := fun k => k = w.heap.size ∧ k < wy.heap.size) (p := ⟨w.heap.size, 0, none⟩) (Mod.refl _ _) (.inl ⟨rfl, by show w.heap.size < _; omega⟩) _, ?_, ?_⟩
      ·rw [HSN.out];have h := HBW.out.set 0 (.string ⟨nw.toArray⟩)
       simpa using h
      ·exact HMW.out.setCell (.inl (.inr (.inl rfl))) _
     case done =>
      rintro D ys W hD hys ⟨hbW, hmW⟩ hdef
      have hfl : nx ++ ys.flatMap (fun x => 124 :: x.1) = itsT (l.take (k + 1)) := by
       rw [HTK.out, HXE.out, ← List.append_assoc, HNX.out]
       congr 1
       unfold itLn;rw [← hys, List.flatMap_map]
      rw [hfl] at hbW;have HMKA := HMK.out.pure (show Pure wr wA from HPR.out)
      have HMKB := HMKA.mod HMB.out (fun q hq hd => by
       subst hq;obtain ⟨y, hy⟩ := hd;have hk := HBA.out;unfold Blk at hk;rw [hk] at hy
       cases hy)
      have HMKY := HMKB.pure HPY.out
      have HMKW := HMKY.mod hmW (fun q hq hd => by
       obtain ⟨y, hy⟩ := hd
       rcases hq with hq | hq | hq
       ·have := (Array.getElem?_eq_some_iff.1 hy).1
        omega
       ·subst hq;have hk := HB3y.out;unfold Blk at hk;rw [hk] at hy
        cases hy
       ·subst hq;have hk := HBX.out;unfold Blk at hk;rw [hk] at hy
        cases hy)
      have HF := Lib.hid (HMKY.more HMKW (by omega) hD hdef);have HPF : Hid (Pure w W) := Lib.hid (((HPA.out.trans' HMB.out (fun i h hl => by omega)).trans HPY.out).trans' hmW (fun i h hl => by rcases h with h | h | h <;> omega));have HBF := Lib.hid hbW;clear hbW hmW hdef hys hfl HMKA HMKB HMKY HMKW
      go_wp2_with fail
      refine Handed.intro (l.length - (k + 1)) ?_ ?_
      ·omega
      refine hJ _ _ _ _ ?_ ?_
      ·rfl
      exact ⟨k + 1, rfl, by omega, rfl, HBF.out, HF.out, HPF.out⟩
  ·obtain rfl : k = l.length := by omega
   have hk2 : ¬ ((l.length : Int) < (l.length : Int)) := by omega
   have q0 := hb.cell 0;simp at q0;clear hi hb hmk hm
   go_wp2_with fail
   refine ⟨HMK.out, fun w' hw' => ⟨.string ⟨(itsT l).toArray⟩, by simp [results, Tryz.results12, go_sem], rfl, hw'.pure HM.out (Nat.le_refl _)⟩⟩
end Go.Proofs.YtelpdjhkedhppaaGreatDoor
/- RightItems: its items are right, one by one. -/
namespace Go.Proofs.YtelpdjhkedhppaaGreatDoor
open Go.RowKit
def ItR (x : Itm) : Prop := ItG x ∧ ItT x
theorem ItR.par {x : Itm} (h : ItR x) {s : Str} (hs : s.length ≤ 100) : ItR { x with par := s } := ⟨h.1.par (by omega), ⟨h.2.id, h.2.cust, h.2.k1, h.2.k4, h.2.name, h.2.t0, h.2.t1, hs, h.2.text, h.2.whole⟩⟩
theorem set_allV {xs : List Itm} {k : Nat} {y : Itm} (h : ∀ x ∈ xs, ItR x) (hy : ItR y) : ∀ x ∈ xs.set k y, ItR x := fun x hx => by
 rcases List.mem_or_eq_of_mem_set hx with hx | rfl
 ·exact h x hx
 ·exact hy
theorem le_nilV : ∀ x ∈ ([] : List Itm), ItR x := fun x hx => absurd hx (by simp)
def ItemsPostV (w : World) (b N m : Nat) (e : Ending) (w' : World) : Prop :=
 ∃ (v : Value) (xs : List Itm), e = .returned v ∧ xs.length ≤ m ∧ (∀ x ∈ xs, ItR x) ∧ w'.ownsRow w.heap.size 40 7 v xs.length (itV xs) ∧ Strm w' b N ∧ Mod (· = b) w w'
def Ri1V (w : World) (b N m gk : Nat) (ov i : Value) (wr : World) : Prop :=
 ∃ (j : Nat) (xs : List Itm) (A : Option Addr) (cap : Nat), m - j = gk ∧ j ≤ m ∧ ov = .slice A xs.length cap ∧ i = .int .i64 (j : Int) ∧ xs.length ≤ j ∧ (∀ x ∈ xs, ItR x) ∧ wr.ownsRow w.heap.size 40 7 (.slice A xs.length cap) xs.length (itV xs) ∧ Strm wr b (N + 140 * j) ∧ Mod (· = b) w wr ∧ w.heap.size ≤ wr.heap.size
def Ri2V (w : World) (b N base g n cap gk : Nat) (i : Value) (wr : World) : Prop :=
 ∃ (j : Nat) (xs : List Itm), n - j = gk ∧ j ≤ n ∧ i = .int .i64 (j : Int) ∧ (∀ x ∈ xs, ItR x) ∧ OwnI wr base g n cap xs ∧ Strm wr b (N + 2 * j) ∧ Mod (· = b) w wr
set_option maxHeartbeats 8000000 in
theorem rightItems_callsV (w : World) (b N m : Nat) (hS : Strm w b N) (hN : N ≤ 700000000) (hm : m ≤ 20) (hE : ∀ W, Mod (· = b) w W → Env W) : Calls Tryz.prog 13 #[.pointer (some ⟨b, 0, none⟩), .int .i64 (m : Int)] w (ItemsPostV w b (N + 142 * m) m) := by
 obtain ⟨i0, hi0, hz0, hz1, hz2⟩ := info_parts info_item7;have HE := Lib.hid hE;have hbl := hS.lt;clear hE;have m0 : Mod (· = b) w w := Mod.refl _ _
 go_enter Tryz.func13, Tryz.ntmps13
 go_wp2_with fail
 go_loopg [5, 12] m (fun gk ov i wr => Ri1V w b N m gk ov i wr)
 case atStart => exact ⟨0, [], none, 0, rfl, by omega, rfl, rfl, by simp, le_nilV, ⟨rfl, .inl ⟨rfl, rfl⟩⟩, hS.more (by omega), m0, Nat.le_refl _⟩
 case round =>
  clear hS m0;obtain ⟨j, xs, A, cap, rfl, hj, rfl, rfl, hxj, hxz, hown, hS, hmm, hsz⟩ := hrel
  by_cases hlt : j < m
  ·have HXZ := Lib.hid hxz;clear hxz
   go_wp2_with fail
   refine (itemId_calls _ j (by omega)).mono ?_;rintro e w1 ⟨rfl, hm1⟩;have hS1 := hS.pure hm1;have m1 := hmm.transp hm1;have own1 := own_pure hown hm1;have hsz1 := hm1.size;clear hS hmm hown hm1
   go_wp2_with fail
   refine (item_callsG _ b _ (itS j) hS1 (by omega) (by simp [itS])).mono ?_;rintro e w2 ⟨x, hx, rfl, hS2, hM2⟩;have hb2 := own_block own1;have own2 := own_mod own1 hM2 (fun k hk => by have := hb2 k hk; omega);have m2 := m1.trans hM2;have hsz2 := hM2.size;clear hS1 m1 own1 hM2 hb2;have HB0 := Lib.hid (Blk.new w2 40 (itQ x));have Hm0 := Lib.hid (pure_alloc w2 (.cells (itQ x) 40));obtain ⟨bo, hbo⟩ : ∃ bo, (x.id == itS j) = bo := ⟨_, rfl⟩;have HBO := Lib.hid hbo;obtain ⟨e1, he1⟩ : ∃ e1, itemE x = e1 := ⟨_, rfl⟩;have HIF := Lib.hid (fun W (h : Mod (· = b) w W) => itemFault_calls W x hx.b (HE.out W h));rw [he1] at HIF;have HE1 := Lib.hid he1;have HX := Lib.hid hx;clear hbo he1 hx;have HID := Lib.hid (fun W => itemId_calls W j (by omega));generalize itS j = ij at *;unfold itA at HIF ⊢;unfold itQ at HB0 Hm0
   go_upto_region 6 with (fail)
   generalize (w2.alloc (.cells #[.string ⟨x.id.toArray⟩, .string ⟨x.cust.toArray⟩, .int .i64 x.kind, .string ⟨x.name.toArray⟩, .int .i64 x.tm, .string ⟨x.par.toArray⟩, .string ⟨x.text.toArray⟩] 40)) = WS at *;generalize hgs : w2.heap.size = gs at *;have hgs1 := Nat.le_of_eq hgs;have hgs2 := Nat.le_of_eq hgs.symm;clear hgs;obtain ⟨bad, hbad⟩ : ∃ bad, bad = (!bo || (!x.par.isEmpty || (e1 != 0))) := ⟨_, rfl⟩;have HBAD := Lib.hid hbad;clear hbad
   go_cut [33] (fun p wx => p = .bool bad ∧ Blk wx gs 40 #[.string ⟨x.id.toArray⟩, .string ⟨x.cust.toArray⟩, .int .i64 x.kind, .string ⟨x.name.toArray⟩, .int .i64 x.tm, .string ⟨x.par.toArray⟩, .string ⟨x.text.toArray⟩] ∧ Pure w2 wx)
   case first =>
    cases bo
    ·obtain rfl : bad = true := by rw [HBAD.out]; rfl
     have HGs := Lib.hid (show ∀ (D : Nat → Bool) (zzi : Nat) (zq zq' : World), (fun _ zq => (fun Z => Blk Z gs 40 #[.string ⟨x.id.toArray⟩, .string ⟨x.cust.toArray⟩, .int .i64 x.kind, .string ⟨x.name.toArray⟩, .int .i64 x.tm, .string ⟨x.par.toArray⟩, .string ⟨x.text.toArray⟩]) zq) D zq → Mod (fun _ => False) zq zq' → (fun _ zq => (fun Z => Blk Z gs 40 #[.string ⟨x.id.toArray⟩, .string ⟨x.cust.toArray⟩, .int .i64 x.kind, .string ⟨x.name.toArray⟩, .int .i64 x.tm, .string ⟨x.par.toArray⟩, .string ⟨x.text.toArray⟩]) zq) (upd D zzi true) zq' from by intro D zzi zq zq' h hm; (exact h.modp hm))
     refine wp_region_inv (by kernel_rfl) (by kernel_rfl) (InvF (R := Mod (fun _ => False)) [.is (.pointer (some ⟨gs, 0, none⟩)),
       .is (.string ⟨x.id.toArray⟩),
       .is (.int .i64 (j : Int)),
       .is (.string ⟨ij.toArray⟩),
       .is (.bool true),
       .is (.bool true),
       .is (undef),
       .is (undef),
       .is (undef),
       .is (.bool true),
       .is (.bool true),
       .is (undef),
       .is (undef),
       .is (undef),
       .is (.bool true)]
       (PB w2 (fun _ => False) WS.heap.size (fun _ zq => (fun Z => Blk Z gs 40 #[.string ⟨x.id.toArray⟩, .string ⟨x.cust.toArray⟩, .int .i64 x.kind, .string ⟨x.name.toArray⟩, .int .i64 x.tm, .string ⟨x.par.toArray⟩, .string ⟨x.text.toArray⟩]) zq))) (InvF.start (PB.start Hm0.out (Nat.le_refl _) (HB0.out.drew))) ?_ ?_
     ·refine .cons ?_ (.cons ?_ (.cons ?_ (.cons ?_ (.cons ?_ (.cons ?_ (.cons ?_ (.cons ?_ (.cons ?_ (.cons ?_ (.cons ?_ (.cons ?_ (.cons ?_ (.cons ?_ (.cons ?_ .nil))))))))))))))
      ·intro D V zw1 a hR hI K hK;obtain ⟨hM1, hB1, hG1⟩ := hI.1;have ze7 := hR.frame.other (t := 7) (by kernel_rfl) rfl;rw [if_pos (by rfl)];go_simp;exact hK (.pointer (some ⟨gs, 0, none⟩)) _ (hI.next hR (by kernel_rfl) (Mod.refl _ _) (PB.quiet hI.1 (Mod.refl _ _) (HGs.out D 0 zw1 zw1 (hI.1).g (Mod.refl _ _))) (upd_same V 0 _))
      ·intro D V zw1 a hR hI K hK;obtain ⟨hM1, hB1, hG1⟩ := hI.1;have zd0 := hR.pred 0 (by kernel_rfl);have zf0 : V 0 = .pointer (some ⟨gs, 0, none⟩) := hI.2 0 zd0 rfl;have ze19 := hR.frame.done (t := 19) (j := 0) (by kernel_rfl) hR.ok zd0;have zx0 := hG1.cell 0; have zx1 := hG1.cell 1; have zx2 := hG1.cell 2; have zx3 := hG1.cell 3; have zx4 := hG1.cell 4; have zx5 := hG1.cell 5; have zx6 := hG1.cell 6;simp at zx0 zx1 zx2 zx3 zx4 zx5 zx6;rw [if_pos (by rfl)];go_simp;exact hK (.string ⟨x.id.toArray⟩) _ (hI.next hR (by kernel_rfl) (Mod.refl _ _) (PB.quiet hI.1 (Mod.refl _ _) (HGs.out D 1 zw1 zw1 (hI.1).g (Mod.refl _ _))) (upd_same V 1 _))
      ·intro D V zw1 a hR hI K hK;obtain ⟨hM1, hB1, hG1⟩ := hI.1;have ze6 := hR.frame.other (t := 6) (by kernel_rfl) rfl;rw [if_pos (by rfl)];go_simp;exact hK (.int .i64 (j : Int)) _ (hI.next hR (by kernel_rfl) (Mod.refl _ _) (PB.quiet hI.1 (Mod.refl _ _) (HGs.out D 2 zw1 zw1 (hI.1).g (Mod.refl _ _))) (upd_same V 2 _))
      ·intro D V zw1 a hR hI K hK;obtain ⟨hM1, hB1, hG1⟩ := hI.1;have zd2 := hR.pred 2 (by kernel_rfl);have zf2 : V 2 = .int .i64 (j : Int) := hI.2 2 zd2 rfl;have ze21 := hR.frame.done (t := 21) (j := 2) (by kernel_rfl) hR.ok zd2;rw [if_pos (by rfl)];go_simp;refine (HID.out _).mono ?_;rintro e zw2 ⟨rfl, hm2⟩;exact hK (.string ⟨ij.toArray⟩) _ (hI.next hR (by kernel_rfl) hm2 (PB.quiet hI.1 hm2 (HGs.out D 3 _ _ (hI.1).g hm2)) (upd_same V 3 _))
      ·intro D V zw1 a hR hI K hK;obtain ⟨hM1, hB1, hG1⟩ := hI.1;have zd1 := hR.pred 1 (by kernel_rfl);have zf1 : V 1 = .string ⟨x.id.toArray⟩ := hI.2 1 zd1 rfl;have zd3 := hR.pred 3 (by kernel_rfl);have zf3 : V 3 = .string ⟨ij.toArray⟩ := hI.2 3 zd3 rfl;have ze20 := hR.frame.done (t := 20) (j := 1) (by kernel_rfl) hR.ok zd1;have ze22 := hR.frame.done (t := 22) (j := 3) (by kernel_rfl) hR.ok zd3;have hbo := HBO.out;rw [if_pos (by rfl)];go_simp;exact hK (.bool true) _ (hI.next hR (by kernel_rfl) (Mod.refl _ _) (PB.quiet hI.1 (Mod.refl _ _) (HGs.out D 4 zw1 zw1 (hI.1).g (Mod.refl _ _))) (upd_same V 4 _))
      ·intro D V zw1 a hR hI K hK;obtain ⟨hM1, hB1, hG1⟩ := hI.1;have zd4 := hR.pred 4 (by kernel_rfl);have zf4 : V 4 = .bool true := hI.2 4 zd4 rfl;have ze23 := hR.frame.done (t := 23) (j := 4) (by kernel_rfl) hR.ok zd4;rw [if_pos (by rfl)];go_simp;exact hK (.bool true) _ (hI.next hR (by kernel_rfl) (Mod.refl _ _) (PB.quiet hI.1 (Mod.refl _ _) (HGs.out D 5 zw1 zw1 (hI.1).g (Mod.refl _ _))) (upd_same V 5 _))
      ·intro D V zw1 a hR hI K hK;obtain ⟨hM1, hB1, hG1⟩ := hI.1;have zd5 := hR.pred 5 (by kernel_rfl);have zf5 : V 5 = .bool true := hI.2 5 zd5 rfl;have ze24 := hR.frame.done (t := 24) (j := 5) (by kernel_rfl) hR.ok zd5;rw [if_neg (by simp [Region.wanted, yielded, ze24, zf5])];exact hK undef _ (hI.next hR (by kernel_rfl) (Mod.refl _ _) (PB.quiet hI.1 (Mod.refl _ _) (HGs.out D 6 zw1 zw1 (hI.1).g (Mod.refl _ _))) (upd_same V 6 _))
      ·intro D V zw1 a hR hI K hK;obtain ⟨hM1, hB1, hG1⟩ := hI.1;have zd5 := hR.pred 5 (by kernel_rfl);have zf5 : V 5 = .bool true := hI.2 5 zd5 rfl;have ze24 := hR.frame.done (t := 24) (j := 5) (by kernel_rfl) hR.ok zd5;rw [if_neg (by simp [Region.wanted, yielded, ze24, zf5])];exact hK undef _ (hI.next hR (by kernel_rfl) (Mod.refl _ _) (PB.quiet hI.1 (Mod.refl _ _) (HGs.out D 7 zw1 zw1 (hI.1).g (Mod.refl _ _))) (upd_same V 7 _))
      ·intro D V zw1 a hR hI K hK;obtain ⟨hM1, hB1, hG1⟩ := hI.1;have zd5 := hR.pred 5 (by kernel_rfl);have zf5 : V 5 = .bool true := hI.2 5 zd5 rfl;have ze24 := hR.frame.done (t := 24) (j := 5) (by kernel_rfl) hR.ok zd5;rw [if_neg (by simp [Region.wanted, yielded, ze24, zf5])];exact hK undef _ (hI.next hR (by kernel_rfl) (Mod.refl _ _) (PB.quiet hI.1 (Mod.refl _ _) (HGs.out D 8 zw1 zw1 (hI.1).g (Mod.refl _ _))) (upd_same V 8 _))
      ·intro D V zw1 a hR hI K hK;obtain ⟨hM1, hB1, hG1⟩ := hI.1;have zd5 := hR.pred 5 (by kernel_rfl);have zf5 : V 5 = .bool true := hI.2 5 zd5 rfl;have zd8 := hR.pred 8 (by kernel_rfl);have zf8 : V 8 = undef := hI.2 8 zd8 rfl;have ze24 := hR.frame.done (t := 24) (j := 5) (by kernel_rfl) hR.ok zd5;have ze27 := hR.frame.done (t := 27) (j := 8) (by kernel_rfl) hR.ok zd8;rw [if_pos (by rfl)];go_simp;exact hK (.bool true) _ (hI.next hR (by kernel_rfl) (Mod.refl _ _) (PB.quiet hI.1 (Mod.refl _ _) (HGs.out D 9 zw1 zw1 (hI.1).g (Mod.refl _ _))) (upd_same V 9 _))
      ·intro D V zw1 a hR hI K hK;obtain ⟨hM1, hB1, hG1⟩ := hI.1;have zd9 := hR.pred 9 (by kernel_rfl);have zf9 : V 9 = .bool true := hI.2 9 zd9 rfl;have ze28 := hR.frame.done (t := 28) (j := 9) (by kernel_rfl) hR.ok zd9;rw [if_pos (by rfl)];go_simp;exact hK (.bool true) _ (hI.next hR (by kernel_rfl) (Mod.refl _ _) (PB.quiet hI.1 (Mod.refl _ _) (HGs.out D 10 zw1 zw1 (hI.1).g (Mod.refl _ _))) (upd_same V 10 _))
      ·intro D V zw1 a hR hI K hK;obtain ⟨hM1, hB1, hG1⟩ := hI.1;have zd10 := hR.pred 10 (by kernel_rfl);have zf10 : V 10 = .bool true := hI.2 10 zd10 rfl;have ze29 := hR.frame.done (t := 29) (j := 10) (by kernel_rfl) hR.ok zd10;rw [if_neg (by simp [Region.wanted, yielded, ze29, zf10])];exact hK undef _ (hI.next hR (by kernel_rfl) (Mod.refl _ _) (PB.quiet hI.1 (Mod.refl _ _) (HGs.out D 11 zw1 zw1 (hI.1).g (Mod.refl _ _))) (upd_same V 11 _))
      ·intro D V zw1 a hR hI K hK;obtain ⟨hM1, hB1, hG1⟩ := hI.1;have zd10 := hR.pred 10 (by kernel_rfl);have zf10 : V 10 = .bool true := hI.2 10 zd10 rfl;have ze29 := hR.frame.done (t := 29) (j := 10) (by kernel_rfl) hR.ok zd10;rw [if_neg (by simp [Region.wanted, yielded, ze29, zf10])];exact hK undef _ (hI.next hR (by kernel_rfl) (Mod.refl _ _) (PB.quiet hI.1 (Mod.refl _ _) (HGs.out D 12 zw1 zw1 (hI.1).g (Mod.refl _ _))) (upd_same V 12 _))
      ·intro D V zw1 a hR hI K hK;obtain ⟨hM1, hB1, hG1⟩ := hI.1;have zd10 := hR.pred 10 (by kernel_rfl);have zf10 : V 10 = .bool true := hI.2 10 zd10 rfl;have ze29 := hR.frame.done (t := 29) (j := 10) (by kernel_rfl) hR.ok zd10;rw [if_neg (by simp [Region.wanted, yielded, ze29, zf10])];exact hK undef _ (hI.next hR (by kernel_rfl) (Mod.refl _ _) (PB.quiet hI.1 (Mod.refl _ _) (HGs.out D 13 zw1 zw1 (hI.1).g (Mod.refl _ _))) (upd_same V 13 _))
      ·intro D V zw1 a hR hI K hK;obtain ⟨hM1, hB1, hG1⟩ := hI.1;have zd10 := hR.pred 10 (by kernel_rfl);have zf10 : V 10 = .bool true := hI.2 10 zd10 rfl;have zd13 := hR.pred 13 (by kernel_rfl);have zf13 : V 13 = undef := hI.2 13 zd13 rfl;have ze29 := hR.frame.done (t := 29) (j := 10) (by kernel_rfl) hR.ok zd10;have ze32 := hR.frame.done (t := 32) (j := 13) (by kernel_rfl) hR.ok zd13;rw [if_pos (by rfl)];go_simp;exact hK (.bool true) _ (hI.next hR (by kernel_rfl) (Mod.refl _ _) (PB.quiet hI.1 (Mod.refl _ _) (HGs.out D 14 zw1 zw1 (hI.1).g (Mod.refl _ _))) (upd_same V 14 _))
     ·intro D V w3 hD hI;obtain ⟨hM1, hB1, hG1⟩ := hI.1;have hMx := hM1;clear hM1;have hBx := hB1;clear hB1;have hGx := hG1;clear hG1;have zf0 : V 0 = .pointer (some ⟨gs, 0, none⟩) := hI.2 0 (hD 0 (by decide)) rfl;have zf1 : V 1 = .string ⟨x.id.toArray⟩ := hI.2 1 (hD 1 (by decide)) rfl;have zf2 : V 2 = .int .i64 (j : Int) := hI.2 2 (hD 2 (by decide)) rfl;have zf3 : V 3 = .string ⟨ij.toArray⟩ := hI.2 3 (hD 3 (by decide)) rfl;have zf4 : V 4 = .bool true := hI.2 4 (hD 4 (by decide)) rfl;have zf5 : V 5 = .bool true := hI.2 5 (hD 5 (by decide)) rfl;have zf6 : V 6 = undef := hI.2 6 (hD 6 (by decide)) rfl;have zf7 : V 7 = undef := hI.2 7 (hD 7 (by decide)) rfl;have zf8 : V 8 = undef := hI.2 8 (hD 8 (by decide)) rfl;have zf9 : V 9 = .bool true := hI.2 9 (hD 9 (by decide)) rfl;have zf10 : V 10 = .bool true := hI.2 10 (hD 10 (by decide)) rfl;have zf11 : V 11 = undef := hI.2 11 (hD 11 (by decide)) rfl;have zf12 : V 12 = undef := hI.2 12 (hD 12 (by decide)) rfl;have zf13 : V 13 = undef := hI.2 13 (hD 13 (by decide)) rfl;have zf14 : V 14 = .bool true := hI.2 14 (hD 14 (by decide)) rfl;clear hI hD HGs;simp only [frAll, Act.put, List.setIfInBounds_toArray, List.set_cons_zero, List.set_cons_succ, Nat.zero_add, Nat.reduceAdd, zf0, zf1, zf2, zf3, zf4, zf5, zf6, zf7, zf8, zf9, zf10, zf11, zf12, zf13, zf14];clear zf0 zf1 zf2 zf3 zf4 zf5 zf6 zf7 zf8 zf9 zf10 zf11 zf12 zf13 zf14;clear V D
      go_wp2_with fail
      go_meet;exact ⟨rfl, hGx, hMx⟩
    ·cases hpe : x.par.isEmpty
     ·obtain rfl : bad = true := by rw [HBAD.out, hpe]; rfl
      have HGs := Lib.hid (show ∀ (D : Nat → Bool) (zzi : Nat) (zq zq' : World), (fun _ zq => (fun Z => Blk Z gs 40 #[.string ⟨x.id.toArray⟩, .string ⟨x.cust.toArray⟩, .int .i64 x.kind, .string ⟨x.name.toArray⟩, .int .i64 x.tm, .string ⟨x.par.toArray⟩, .string ⟨x.text.toArray⟩]) zq) D zq → Mod (fun _ => False) zq zq' → (fun _ zq => (fun Z => Blk Z gs 40 #[.string ⟨x.id.toArray⟩, .string ⟨x.cust.toArray⟩, .int .i64 x.kind, .string ⟨x.name.toArray⟩, .int .i64 x.tm, .string ⟨x.par.toArray⟩, .string ⟨x.text.toArray⟩]) zq) (upd D zzi true) zq' from by intro D zzi zq zq' h hm; (exact h.modp hm))
      refine wp_region_inv (by kernel_rfl) (by kernel_rfl) (InvF (R := Mod (fun _ => False)) [.is (.pointer (some ⟨gs, 0, none⟩)),
        .is (.string ⟨x.id.toArray⟩),
        .is (.int .i64 (j : Int)),
        .is (.string ⟨ij.toArray⟩),
        .is (.bool false),
        .is (.bool false),
        .is (.pointer (some ⟨gs, 5, none⟩)),
        .is (.string ⟨x.par.toArray⟩),
        .is (.bool true),
        .is (.bool true),
        .is (.bool true),
        .is (undef),
        .is (undef),
        .is (undef),
        .is (.bool true)]
        (PB w2 (fun _ => False) WS.heap.size (fun _ zq => (fun Z => Blk Z gs 40 #[.string ⟨x.id.toArray⟩, .string ⟨x.cust.toArray⟩, .int .i64 x.kind, .string ⟨x.name.toArray⟩, .int .i64 x.tm, .string ⟨x.par.toArray⟩, .string ⟨x.text.toArray⟩]) zq))) (InvF.start (PB.start Hm0.out (Nat.le_refl _) (HB0.out.drew))) ?_ ?_
      ·refine .cons ?_ (.cons ?_ (.cons ?_ (.cons ?_ (.cons ?_ (.cons ?_ (.cons ?_ (.cons ?_ (.cons ?_ (.cons ?_ (.cons ?_ (.cons ?_ (.cons ?_ (.cons ?_ (.cons ?_ .nil))))))))))))))
       ·intro D V zw1 a hR hI K hK;obtain ⟨hM1, hB1, hG1⟩ := hI.1;have ze7 := hR.frame.other (t := 7) (by kernel_rfl) rfl;rw [if_pos (by rfl)];go_simp;exact hK (.pointer (some ⟨gs, 0, none⟩)) _ (hI.next hR (by kernel_rfl) (Mod.refl _ _) (PB.quiet hI.1 (Mod.refl _ _) (HGs.out D 0 zw1 zw1 (hI.1).g (Mod.refl _ _))) (upd_same V 0 _))
       ·intro D V zw1 a hR hI K hK;obtain ⟨hM1, hB1, hG1⟩ := hI.1;have zd0 := hR.pred 0 (by kernel_rfl);have zf0 : V 0 = .pointer (some ⟨gs, 0, none⟩) := hI.2 0 zd0 rfl;have ze19 := hR.frame.done (t := 19) (j := 0) (by kernel_rfl) hR.ok zd0;have zx0 := hG1.cell 0; have zx1 := hG1.cell 1; have zx2 := hG1.cell 2; have zx3 := hG1.cell 3; have zx4 := hG1.cell 4; have zx5 := hG1.cell 5; have zx6 := hG1.cell 6;simp at zx0 zx1 zx2 zx3 zx4 zx5 zx6;rw [if_pos (by rfl)];go_simp;exact hK (.string ⟨x.id.toArray⟩) _ (hI.next hR (by kernel_rfl) (Mod.refl _ _) (PB.quiet hI.1 (Mod.refl _ _) (HGs.out D 1 zw1 zw1 (hI.1).g (Mod.refl _ _))) (upd_same V 1 _))
       ·intro D V zw1 a hR hI K hK;obtain ⟨hM1, hB1, hG1⟩ := hI.1;have ze6 := hR.frame.other (t := 6) (by kernel_rfl) rfl;rw [if_pos (by rfl)];go_simp;exact hK (.int .i64 (j : Int)) _ (hI.next hR (by kernel_rfl) (Mod.refl _ _) (PB.quiet hI.1 (Mod.refl _ _) (HGs.out D 2 zw1 zw1 (hI.1).g (Mod.refl _ _))) (upd_same V 2 _))
       ·intro D V zw1 a hR hI K hK;obtain ⟨hM1, hB1, hG1⟩ := hI.1;have zd2 := hR.pred 2 (by kernel_rfl);have zf2 : V 2 = .int .i64 (j : Int) := hI.2 2 zd2 rfl;have ze21 := hR.frame.done (t := 21) (j := 2) (by kernel_rfl) hR.ok zd2;rw [if_pos (by rfl)];go_simp;refine (HID.out _).mono ?_;rintro e zw2 ⟨rfl, hm2⟩;exact hK (.string ⟨ij.toArray⟩) _ (hI.next hR (by kernel_rfl) hm2 (PB.quiet hI.1 hm2 (HGs.out D 3 _ _ (hI.1).g hm2)) (upd_same V 3 _))
       ·intro D V zw1 a hR hI K hK;obtain ⟨hM1, hB1, hG1⟩ := hI.1;have zd1 := hR.pred 1 (by kernel_rfl);have zf1 : V 1 = .string ⟨x.id.toArray⟩ := hI.2 1 zd1 rfl;have zd3 := hR.pred 3 (by kernel_rfl);have zf3 : V 3 = .string ⟨ij.toArray⟩ := hI.2 3 zd3 rfl;have ze20 := hR.frame.done (t := 20) (j := 1) (by kernel_rfl) hR.ok zd1;have ze22 := hR.frame.done (t := 22) (j := 3) (by kernel_rfl) hR.ok zd3;have hbo := HBO.out;rw [if_pos (by rfl)];go_simp;exact hK (.bool false) _ (hI.next hR (by kernel_rfl) (Mod.refl _ _) (PB.quiet hI.1 (Mod.refl _ _) (HGs.out D 4 zw1 zw1 (hI.1).g (Mod.refl _ _))) (upd_same V 4 _))
       ·intro D V zw1 a hR hI K hK;obtain ⟨hM1, hB1, hG1⟩ := hI.1;have zd4 := hR.pred 4 (by kernel_rfl);have zf4 : V 4 = .bool false := hI.2 4 zd4 rfl;have ze23 := hR.frame.done (t := 23) (j := 4) (by kernel_rfl) hR.ok zd4;rw [if_pos (by rfl)];go_simp;exact hK (.bool false) _ (hI.next hR (by kernel_rfl) (Mod.refl _ _) (PB.quiet hI.1 (Mod.refl _ _) (HGs.out D 5 zw1 zw1 (hI.1).g (Mod.refl _ _))) (upd_same V 5 _))
       ·intro D V zw1 a hR hI K hK;obtain ⟨hM1, hB1, hG1⟩ := hI.1;have zd5 := hR.pred 5 (by kernel_rfl);have zf5 : V 5 = .bool false := hI.2 5 zd5 rfl;have ze7 := hR.frame.other (t := 7) (by kernel_rfl) rfl;have ze24 := hR.frame.done (t := 24) (j := 5) (by kernel_rfl) hR.ok zd5;rw [if_pos (by simp [Region.wanted, yielded, ze24, zf5])];go_simp;exact hK (.pointer (some ⟨gs, 5, none⟩)) _ (hI.next hR (by kernel_rfl) (Mod.refl _ _) (PB.quiet hI.1 (Mod.refl _ _) (HGs.out D 6 zw1 zw1 (hI.1).g (Mod.refl _ _))) (upd_same V 6 _))
       ·intro D V zw1 a hR hI K hK;obtain ⟨hM1, hB1, hG1⟩ := hI.1;have zd6 := hR.pred 6 (by kernel_rfl);have zf6 : V 6 = .pointer (some ⟨gs, 5, none⟩) := hI.2 6 zd6 rfl;have zd5 := hR.pred 5 (by kernel_rfl);have zf5 : V 5 = .bool false := hI.2 5 zd5 rfl;have ze25 := hR.frame.done (t := 25) (j := 6) (by kernel_rfl) hR.ok zd6;have zx0 := hG1.cell 0; have zx1 := hG1.cell 1; have zx2 := hG1.cell 2; have zx3 := hG1.cell 3; have zx4 := hG1.cell 4; have zx5 := hG1.cell 5; have zx6 := hG1.cell 6;simp at zx0 zx1 zx2 zx3 zx4 zx5 zx6;have ze24 := hR.frame.done (t := 24) (j := 5) (by kernel_rfl) hR.ok zd5;rw [if_pos (by simp [Region.wanted, yielded, ze24, zf5])];go_simp;exact hK (.string ⟨x.par.toArray⟩) _ (hI.next hR (by kernel_rfl) (Mod.refl _ _) (PB.quiet hI.1 (Mod.refl _ _) (HGs.out D 7 zw1 zw1 (hI.1).g (Mod.refl _ _))) (upd_same V 7 _))
       ·intro D V zw1 a hR hI K hK;obtain ⟨hM1, hB1, hG1⟩ := hI.1;have zd7 := hR.pred 7 (by kernel_rfl);have zf7 : V 7 = .string ⟨x.par.toArray⟩ := hI.2 7 zd7 rfl;have zd5 := hR.pred 5 (by kernel_rfl);have zf5 : V 5 = .bool false := hI.2 5 zd5 rfl;have ze26 := hR.frame.done (t := 26) (j := 7) (by kernel_rfl) hR.ok zd7;have ze24 := hR.frame.done (t := 24) (j := 5) (by kernel_rfl) hR.ok zd5;rw [if_pos (by simp [Region.wanted, yielded, ze24, zf5])];go_simp;exact hK (.bool true) _ (hI.next hR (by kernel_rfl) (Mod.refl _ _) (PB.quiet hI.1 (Mod.refl _ _) (HGs.out D 8 zw1 zw1 (hI.1).g (Mod.refl _ _))) (upd_same V 8 _))
       ·intro D V zw1 a hR hI K hK;obtain ⟨hM1, hB1, hG1⟩ := hI.1;have zd5 := hR.pred 5 (by kernel_rfl);have zf5 : V 5 = .bool false := hI.2 5 zd5 rfl;have zd8 := hR.pred 8 (by kernel_rfl);have zf8 : V 8 = .bool true := hI.2 8 zd8 rfl;have ze24 := hR.frame.done (t := 24) (j := 5) (by kernel_rfl) hR.ok zd5;have ze27 := hR.frame.done (t := 27) (j := 8) (by kernel_rfl) hR.ok zd8;rw [if_pos (by rfl)];go_simp;exact hK (.bool true) _ (hI.next hR (by kernel_rfl) (Mod.refl _ _) (PB.quiet hI.1 (Mod.refl _ _) (HGs.out D 9 zw1 zw1 (hI.1).g (Mod.refl _ _))) (upd_same V 9 _))
       ·intro D V zw1 a hR hI K hK;obtain ⟨hM1, hB1, hG1⟩ := hI.1;have zd9 := hR.pred 9 (by kernel_rfl);have zf9 : V 9 = .bool true := hI.2 9 zd9 rfl;have ze28 := hR.frame.done (t := 28) (j := 9) (by kernel_rfl) hR.ok zd9;rw [if_pos (by rfl)];go_simp;exact hK (.bool true) _ (hI.next hR (by kernel_rfl) (Mod.refl _ _) (PB.quiet hI.1 (Mod.refl _ _) (HGs.out D 10 zw1 zw1 (hI.1).g (Mod.refl _ _))) (upd_same V 10 _))
       ·intro D V zw1 a hR hI K hK;obtain ⟨hM1, hB1, hG1⟩ := hI.1;have zd10 := hR.pred 10 (by kernel_rfl);have zf10 : V 10 = .bool true := hI.2 10 zd10 rfl;have ze29 := hR.frame.done (t := 29) (j := 10) (by kernel_rfl) hR.ok zd10;rw [if_neg (by simp [Region.wanted, yielded, ze29, zf10])];exact hK undef _ (hI.next hR (by kernel_rfl) (Mod.refl _ _) (PB.quiet hI.1 (Mod.refl _ _) (HGs.out D 11 zw1 zw1 (hI.1).g (Mod.refl _ _))) (upd_same V 11 _))
       ·intro D V zw1 a hR hI K hK;obtain ⟨hM1, hB1, hG1⟩ := hI.1;have zd10 := hR.pred 10 (by kernel_rfl);have zf10 : V 10 = .bool true := hI.2 10 zd10 rfl;have ze29 := hR.frame.done (t := 29) (j := 10) (by kernel_rfl) hR.ok zd10;rw [if_neg (by simp [Region.wanted, yielded, ze29, zf10])];exact hK undef _ (hI.next hR (by kernel_rfl) (Mod.refl _ _) (PB.quiet hI.1 (Mod.refl _ _) (HGs.out D 12 zw1 zw1 (hI.1).g (Mod.refl _ _))) (upd_same V 12 _))
       ·intro D V zw1 a hR hI K hK;obtain ⟨hM1, hB1, hG1⟩ := hI.1;have zd10 := hR.pred 10 (by kernel_rfl);have zf10 : V 10 = .bool true := hI.2 10 zd10 rfl;have ze29 := hR.frame.done (t := 29) (j := 10) (by kernel_rfl) hR.ok zd10;rw [if_neg (by simp [Region.wanted, yielded, ze29, zf10])];exact hK undef _ (hI.next hR (by kernel_rfl) (Mod.refl _ _) (PB.quiet hI.1 (Mod.refl _ _) (HGs.out D 13 zw1 zw1 (hI.1).g (Mod.refl _ _))) (upd_same V 13 _))
       ·intro D V zw1 a hR hI K hK;obtain ⟨hM1, hB1, hG1⟩ := hI.1;have zd10 := hR.pred 10 (by kernel_rfl);have zf10 : V 10 = .bool true := hI.2 10 zd10 rfl;have zd13 := hR.pred 13 (by kernel_rfl);have zf13 : V 13 = undef := hI.2 13 zd13 rfl;have ze29 := hR.frame.done (t := 29) (j := 10) (by kernel_rfl) hR.ok zd10;have ze32 := hR.frame.done (t := 32) (j := 13) (by kernel_rfl) hR.ok zd13;rw [if_pos (by rfl)];go_simp;exact hK (.bool true) _ (hI.next hR (by kernel_rfl) (Mod.refl _ _) (PB.quiet hI.1 (Mod.refl _ _) (HGs.out D 14 zw1 zw1 (hI.1).g (Mod.refl _ _))) (upd_same V 14 _))
      ·intro D V w3 hD hI;obtain ⟨hM1, hB1, hG1⟩ := hI.1;have hMx := hM1;clear hM1;have hBx := hB1;clear hB1;have hGx := hG1;clear hG1;have zf0 : V 0 = .pointer (some ⟨gs, 0, none⟩) := hI.2 0 (hD 0 (by decide)) rfl;have zf1 : V 1 = .string ⟨x.id.toArray⟩ := hI.2 1 (hD 1 (by decide)) rfl;have zf2 : V 2 = .int .i64 (j : Int) := hI.2 2 (hD 2 (by decide)) rfl;have zf3 : V 3 = .string ⟨ij.toArray⟩ := hI.2 3 (hD 3 (by decide)) rfl;have zf4 : V 4 = .bool false := hI.2 4 (hD 4 (by decide)) rfl;have zf5 : V 5 = .bool false := hI.2 5 (hD 5 (by decide)) rfl;have zf6 : V 6 = .pointer (some ⟨gs, 5, none⟩) := hI.2 6 (hD 6 (by decide)) rfl;have zf7 : V 7 = .string ⟨x.par.toArray⟩ := hI.2 7 (hD 7 (by decide)) rfl;have zf8 : V 8 = .bool true := hI.2 8 (hD 8 (by decide)) rfl;have zf9 : V 9 = .bool true := hI.2 9 (hD 9 (by decide)) rfl;have zf10 : V 10 = .bool true := hI.2 10 (hD 10 (by decide)) rfl;have zf11 : V 11 = undef := hI.2 11 (hD 11 (by decide)) rfl;have zf12 : V 12 = undef := hI.2 12 (hD 12 (by decide)) rfl;have zf13 : V 13 = undef := hI.2 13 (hD 13 (by decide)) rfl;have zf14 : V 14 = .bool true := hI.2 14 (hD 14 (by decide)) rfl;clear hI hD HGs;simp only [frAll, Act.put, List.setIfInBounds_toArray, List.set_cons_zero, List.set_cons_succ, Nat.zero_add, Nat.reduceAdd, zf0, zf1, zf2, zf3, zf4, zf5, zf6, zf7, zf8, zf9, zf10, zf11, zf12, zf13, zf14];clear zf0 zf1 zf2 zf3 zf4 zf5 zf6 zf7 zf8 zf9 zf10 zf11 zf12 zf13 zf14;clear V D
       go_wp2_with fail
       go_meet;exact ⟨rfl, hGx, hMx⟩
     ·obtain ⟨be, hbe⟩ : ∃ be, (e1 != 0) = be := ⟨_, rfl⟩
      obtain rfl : bad = be := by rw [HBAD.out, hpe, ← hbe]; rfl
      have HGs := Lib.hid (show ∀ (D : Nat → Bool) (zzi : Nat) (zq zq' : World), (fun _ zq => (fun Z => Blk Z gs 40 #[.string ⟨x.id.toArray⟩, .string ⟨x.cust.toArray⟩, .int .i64 x.kind, .string ⟨x.name.toArray⟩, .int .i64 x.tm, .string ⟨x.par.toArray⟩, .string ⟨x.text.toArray⟩]) zq) D zq → Mod (fun _ => False) zq zq' → (fun _ zq => (fun Z => Blk Z gs 40 #[.string ⟨x.id.toArray⟩, .string ⟨x.cust.toArray⟩, .int .i64 x.kind, .string ⟨x.name.toArray⟩, .int .i64 x.tm, .string ⟨x.par.toArray⟩, .string ⟨x.text.toArray⟩]) zq) (upd D zzi true) zq' from by intro D zzi zq zq' h hm; (exact h.modp hm))
      refine wp_region_inv (by kernel_rfl) (by kernel_rfl) (InvF (R := Mod (fun _ => False)) [.is (.pointer (some ⟨gs, 0, none⟩)),
        .is (.string ⟨x.id.toArray⟩),
        .is (.int .i64 (j : Int)),
        .is (.string ⟨ij.toArray⟩),
        .is (.bool false),
        .is (.bool false),
        .is (.pointer (some ⟨gs, 5, none⟩)),
        .is (.string ⟨x.par.toArray⟩),
        .is (.bool false),
        .is (.bool false),
        .is (.bool false),
        .is (.agg #[.string ⟨x.id.toArray⟩, .string ⟨x.cust.toArray⟩, .int .i64 x.kind, .string ⟨x.name.toArray⟩, .int .i64 x.tm, .string ⟨x.par.toArray⟩, .string ⟨x.text.toArray⟩]),
        .is (.int .i64 e1),
        .is (.bool bad),
        .is (.bool bad)]
        (PB w2 (fun _ => False) WS.heap.size (fun _ zq => (fun Z => Blk Z gs 40 #[.string ⟨x.id.toArray⟩, .string ⟨x.cust.toArray⟩, .int .i64 x.kind, .string ⟨x.name.toArray⟩, .int .i64 x.tm, .string ⟨x.par.toArray⟩, .string ⟨x.text.toArray⟩]) zq))) (InvF.start (PB.start Hm0.out (Nat.le_refl _) (HB0.out.drew))) ?_ ?_
      ·refine .cons ?_ (.cons ?_ (.cons ?_ (.cons ?_ (.cons ?_ (.cons ?_ (.cons ?_ (.cons ?_ (.cons ?_ (.cons ?_ (.cons ?_ (.cons ?_ (.cons ?_ (.cons ?_ (.cons ?_ .nil))))))))))))))
       ·intro D V zw1 a hR hI K hK;obtain ⟨hM1, hB1, hG1⟩ := hI.1;have ze7 := hR.frame.other (t := 7) (by kernel_rfl) rfl;rw [if_pos (by rfl)];go_simp;exact hK (.pointer (some ⟨gs, 0, none⟩)) _ (hI.next hR (by kernel_rfl) (Mod.refl _ _) (PB.quiet hI.1 (Mod.refl _ _) (HGs.out D 0 zw1 zw1 (hI.1).g (Mod.refl _ _))) (upd_same V 0 _))
       ·intro D V zw1 a hR hI K hK;obtain ⟨hM1, hB1, hG1⟩ := hI.1;have zd0 := hR.pred 0 (by kernel_rfl);have zf0 : V 0 = .pointer (some ⟨gs, 0, none⟩) := hI.2 0 zd0 rfl;have ze19 := hR.frame.done (t := 19) (j := 0) (by kernel_rfl) hR.ok zd0;have zx0 := hG1.cell 0; have zx1 := hG1.cell 1; have zx2 := hG1.cell 2; have zx3 := hG1.cell 3; have zx4 := hG1.cell 4; have zx5 := hG1.cell 5; have zx6 := hG1.cell 6;simp at zx0 zx1 zx2 zx3 zx4 zx5 zx6;rw [if_pos (by rfl)];go_simp;exact hK (.string ⟨x.id.toArray⟩) _ (hI.next hR (by kernel_rfl) (Mod.refl _ _) (PB.quiet hI.1 (Mod.refl _ _) (HGs.out D 1 zw1 zw1 (hI.1).g (Mod.refl _ _))) (upd_same V 1 _))
       ·intro D V zw1 a hR hI K hK;obtain ⟨hM1, hB1, hG1⟩ := hI.1;have ze6 := hR.frame.other (t := 6) (by kernel_rfl) rfl;rw [if_pos (by rfl)];go_simp;exact hK (.int .i64 (j : Int)) _ (hI.next hR (by kernel_rfl) (Mod.refl _ _) (PB.quiet hI.1 (Mod.refl _ _) (HGs.out D 2 zw1 zw1 (hI.1).g (Mod.refl _ _))) (upd_same V 2 _))
       ·intro D V zw1 a hR hI K hK;obtain ⟨hM1, hB1, hG1⟩ := hI.1;have zd2 := hR.pred 2 (by kernel_rfl);have zf2 : V 2 = .int .i64 (j : Int) := hI.2 2 zd2 rfl;have ze21 := hR.frame.done (t := 21) (j := 2) (by kernel_rfl) hR.ok zd2;rw [if_pos (by rfl)];go_simp;refine (HID.out _).mono ?_;rintro e zw2 ⟨rfl, hm2⟩;exact hK (.string ⟨ij.toArray⟩) _ (hI.next hR (by kernel_rfl) hm2 (PB.quiet hI.1 hm2 (HGs.out D 3 _ _ (hI.1).g hm2)) (upd_same V 3 _))
       ·intro D V zw1 a hR hI K hK;obtain ⟨hM1, hB1, hG1⟩ := hI.1;have zd1 := hR.pred 1 (by kernel_rfl);have zf1 : V 1 = .string ⟨x.id.toArray⟩ := hI.2 1 zd1 rfl;have zd3 := hR.pred 3 (by kernel_rfl);have zf3 : V 3 = .string ⟨ij.toArray⟩ := hI.2 3 zd3 rfl;have ze20 := hR.frame.done (t := 20) (j := 1) (by kernel_rfl) hR.ok zd1;have ze22 := hR.frame.done (t := 22) (j := 3) (by kernel_rfl) hR.ok zd3;have hbo := HBO.out;rw [if_pos (by rfl)];go_simp;exact hK (.bool false) _ (hI.next hR (by kernel_rfl) (Mod.refl _ _) (PB.quiet hI.1 (Mod.refl _ _) (HGs.out D 4 zw1 zw1 (hI.1).g (Mod.refl _ _))) (upd_same V 4 _))
       ·intro D V zw1 a hR hI K hK;obtain ⟨hM1, hB1, hG1⟩ := hI.1;have zd4 := hR.pred 4 (by kernel_rfl);have zf4 : V 4 = .bool false := hI.2 4 zd4 rfl;have ze23 := hR.frame.done (t := 23) (j := 4) (by kernel_rfl) hR.ok zd4;rw [if_pos (by rfl)];go_simp;exact hK (.bool false) _ (hI.next hR (by kernel_rfl) (Mod.refl _ _) (PB.quiet hI.1 (Mod.refl _ _) (HGs.out D 5 zw1 zw1 (hI.1).g (Mod.refl _ _))) (upd_same V 5 _))
       ·intro D V zw1 a hR hI K hK;obtain ⟨hM1, hB1, hG1⟩ := hI.1;have zd5 := hR.pred 5 (by kernel_rfl);have zf5 : V 5 = .bool false := hI.2 5 zd5 rfl;have ze7 := hR.frame.other (t := 7) (by kernel_rfl) rfl;have ze24 := hR.frame.done (t := 24) (j := 5) (by kernel_rfl) hR.ok zd5;rw [if_pos (by simp [Region.wanted, yielded, ze24, zf5])];go_simp;exact hK (.pointer (some ⟨gs, 5, none⟩)) _ (hI.next hR (by kernel_rfl) (Mod.refl _ _) (PB.quiet hI.1 (Mod.refl _ _) (HGs.out D 6 zw1 zw1 (hI.1).g (Mod.refl _ _))) (upd_same V 6 _))
       ·intro D V zw1 a hR hI K hK;obtain ⟨hM1, hB1, hG1⟩ := hI.1;have zd6 := hR.pred 6 (by kernel_rfl);have zf6 : V 6 = .pointer (some ⟨gs, 5, none⟩) := hI.2 6 zd6 rfl;have zd5 := hR.pred 5 (by kernel_rfl);have zf5 : V 5 = .bool false := hI.2 5 zd5 rfl;have ze25 := hR.frame.done (t := 25) (j := 6) (by kernel_rfl) hR.ok zd6;have zx0 := hG1.cell 0; have zx1 := hG1.cell 1; have zx2 := hG1.cell 2; have zx3 := hG1.cell 3; have zx4 := hG1.cell 4; have zx5 := hG1.cell 5; have zx6 := hG1.cell 6;simp at zx0 zx1 zx2 zx3 zx4 zx5 zx6;have ze24 := hR.frame.done (t := 24) (j := 5) (by kernel_rfl) hR.ok zd5;rw [if_pos (by simp [Region.wanted, yielded, ze24, zf5])];go_simp;exact hK (.string ⟨x.par.toArray⟩) _ (hI.next hR (by kernel_rfl) (Mod.refl _ _) (PB.quiet hI.1 (Mod.refl _ _) (HGs.out D 7 zw1 zw1 (hI.1).g (Mod.refl _ _))) (upd_same V 7 _))
       ·intro D V zw1 a hR hI K hK;obtain ⟨hM1, hB1, hG1⟩ := hI.1;have zd7 := hR.pred 7 (by kernel_rfl);have zf7 : V 7 = .string ⟨x.par.toArray⟩ := hI.2 7 zd7 rfl;have zd5 := hR.pred 5 (by kernel_rfl);have zf5 : V 5 = .bool false := hI.2 5 zd5 rfl;have ze26 := hR.frame.done (t := 26) (j := 7) (by kernel_rfl) hR.ok zd7;have ze24 := hR.frame.done (t := 24) (j := 5) (by kernel_rfl) hR.ok zd5;rw [if_pos (by simp [Region.wanted, yielded, ze24, zf5])];go_simp;exact hK (.bool false) _ (hI.next hR (by kernel_rfl) (Mod.refl _ _) (PB.quiet hI.1 (Mod.refl _ _) (HGs.out D 8 zw1 zw1 (hI.1).g (Mod.refl _ _))) (upd_same V 8 _))
       ·intro D V zw1 a hR hI K hK;obtain ⟨hM1, hB1, hG1⟩ := hI.1;have zd5 := hR.pred 5 (by kernel_rfl);have zf5 : V 5 = .bool false := hI.2 5 zd5 rfl;have zd8 := hR.pred 8 (by kernel_rfl);have zf8 : V 8 = .bool false := hI.2 8 zd8 rfl;have ze24 := hR.frame.done (t := 24) (j := 5) (by kernel_rfl) hR.ok zd5;have ze27 := hR.frame.done (t := 27) (j := 8) (by kernel_rfl) hR.ok zd8;rw [if_pos (by rfl)];go_simp;exact hK (.bool false) _ (hI.next hR (by kernel_rfl) (Mod.refl _ _) (PB.quiet hI.1 (Mod.refl _ _) (HGs.out D 9 zw1 zw1 (hI.1).g (Mod.refl _ _))) (upd_same V 9 _))
       ·intro D V zw1 a hR hI K hK;obtain ⟨hM1, hB1, hG1⟩ := hI.1;have zd9 := hR.pred 9 (by kernel_rfl);have zf9 : V 9 = .bool false := hI.2 9 zd9 rfl;have ze28 := hR.frame.done (t := 28) (j := 9) (by kernel_rfl) hR.ok zd9;rw [if_pos (by rfl)];go_simp;exact hK (.bool false) _ (hI.next hR (by kernel_rfl) (Mod.refl _ _) (PB.quiet hI.1 (Mod.refl _ _) (HGs.out D 10 zw1 zw1 (hI.1).g (Mod.refl _ _))) (upd_same V 10 _))
       ·intro D V zw1 a hR hI K hK;obtain ⟨hM1, hB1, hG1⟩ := hI.1;have zd10 := hR.pred 10 (by kernel_rfl);have zf10 : V 10 = .bool false := hI.2 10 zd10 rfl;have ze7 := hR.frame.other (t := 7) (by kernel_rfl) rfl;have zx0 := hG1.cell 0; have zx1 := hG1.cell 1; have zx2 := hG1.cell 2; have zx3 := hG1.cell 3; have zx4 := hG1.cell 4; have zx5 := hG1.cell 5; have zx6 := hG1.cell 6;simp at zx0 zx1 zx2 zx3 zx4 zx5 zx6;have ze29 := hR.frame.done (t := 29) (j := 10) (by kernel_rfl) hR.ok zd10;rw [if_pos (by simp [Region.wanted, yielded, ze29, zf10])];go_simp;exact hK (.agg #[.string ⟨x.id.toArray⟩, .string ⟨x.cust.toArray⟩, .int .i64 x.kind, .string ⟨x.name.toArray⟩, .int .i64 x.tm, .string ⟨x.par.toArray⟩, .string ⟨x.text.toArray⟩]) _ (hI.next hR (by kernel_rfl) (Mod.refl _ _) (PB.quiet hI.1 (Mod.refl _ _) (HGs.out D 11 zw1 zw1 (hI.1).g (Mod.refl _ _))) (upd_same V 11 _))
       ·intro D V zw1 a hR hI K hK;obtain ⟨hM1, hB1, hG1⟩ := hI.1;have zd11 := hR.pred 11 (by kernel_rfl);have zf11 : V 11 = .agg #[.string ⟨x.id.toArray⟩, .string ⟨x.cust.toArray⟩, .int .i64 x.kind, .string ⟨x.name.toArray⟩, .int .i64 x.tm, .string ⟨x.par.toArray⟩, .string ⟨x.text.toArray⟩] := hI.2 11 zd11 rfl;have zd10 := hR.pred 10 (by kernel_rfl);have zf10 : V 10 = .bool false := hI.2 10 zd10 rfl;have ze30 := hR.frame.done (t := 30) (j := 11) (by kernel_rfl) hR.ok zd11;have ze29 := hR.frame.done (t := 29) (j := 10) (by kernel_rfl) hR.ok zd10;rw [if_pos (by simp [Region.wanted, yielded, ze29, zf10])];go_simp;refine (HIF.out _ (m2.transp hM1)).mono ?_;rintro e zw2 ⟨rfl, hm2⟩;exact hK (.int .i64 e1) _ (hI.next hR (by kernel_rfl) hm2 (PB.quiet hI.1 hm2 (HGs.out D 12 _ _ (hI.1).g hm2)) (upd_same V 12 _))
       ·intro D V zw1 a hR hI K hK;obtain ⟨hM1, hB1, hG1⟩ := hI.1;have zd12 := hR.pred 12 (by kernel_rfl);have zf12 : V 12 = .int .i64 e1 := hI.2 12 zd12 rfl;have zd10 := hR.pred 10 (by kernel_rfl);have zf10 : V 10 = .bool false := hI.2 10 zd10 rfl;have ze31 := hR.frame.done (t := 31) (j := 12) (by kernel_rfl) hR.ok zd12;have hbe2 := hbe;have ze29 := hR.frame.done (t := 29) (j := 10) (by kernel_rfl) hR.ok zd10;rw [if_pos (by simp [Region.wanted, yielded, ze29, zf10])];go_simp;exact hK (.bool bad) _ (hI.next hR (by kernel_rfl) (Mod.refl _ _) (PB.quiet hI.1 (Mod.refl _ _) (HGs.out D 13 zw1 zw1 (hI.1).g (Mod.refl _ _))) (upd_same V 13 _))
       ·intro D V zw1 a hR hI K hK;obtain ⟨hM1, hB1, hG1⟩ := hI.1;have zd10 := hR.pred 10 (by kernel_rfl);have zf10 : V 10 = .bool false := hI.2 10 zd10 rfl;have zd13 := hR.pred 13 (by kernel_rfl);have zf13 : V 13 = .bool bad := hI.2 13 zd13 rfl;have ze29 := hR.frame.done (t := 29) (j := 10) (by kernel_rfl) hR.ok zd10;have ze32 := hR.frame.done (t := 32) (j := 13) (by kernel_rfl) hR.ok zd13;rw [if_pos (by rfl)];go_simp;exact hK (.bool bad) _ (hI.next hR (by kernel_rfl) (Mod.refl _ _) (PB.quiet hI.1 (Mod.refl _ _) (HGs.out D 14 zw1 zw1 (hI.1).g (Mod.refl _ _))) (upd_same V 14 _))
      ·intro D V w3 hD hI;obtain ⟨hM1, hB1, hG1⟩ := hI.1;have hMx := hM1;clear hM1;have hBx := hB1;clear hB1;have hGx := hG1;clear hG1;have zf0 : V 0 = .pointer (some ⟨gs, 0, none⟩) := hI.2 0 (hD 0 (by decide)) rfl;have zf1 : V 1 = .string ⟨x.id.toArray⟩ := hI.2 1 (hD 1 (by decide)) rfl;have zf2 : V 2 = .int .i64 (j : Int) := hI.2 2 (hD 2 (by decide)) rfl;have zf3 : V 3 = .string ⟨ij.toArray⟩ := hI.2 3 (hD 3 (by decide)) rfl;have zf4 : V 4 = .bool false := hI.2 4 (hD 4 (by decide)) rfl;have zf5 : V 5 = .bool false := hI.2 5 (hD 5 (by decide)) rfl;have zf6 : V 6 = .pointer (some ⟨gs, 5, none⟩) := hI.2 6 (hD 6 (by decide)) rfl;have zf7 : V 7 = .string ⟨x.par.toArray⟩ := hI.2 7 (hD 7 (by decide)) rfl;have zf8 : V 8 = .bool false := hI.2 8 (hD 8 (by decide)) rfl;have zf9 : V 9 = .bool false := hI.2 9 (hD 9 (by decide)) rfl;have zf10 : V 10 = .bool false := hI.2 10 (hD 10 (by decide)) rfl;have zf11 : V 11 = .agg #[.string ⟨x.id.toArray⟩, .string ⟨x.cust.toArray⟩, .int .i64 x.kind, .string ⟨x.name.toArray⟩, .int .i64 x.tm, .string ⟨x.par.toArray⟩, .string ⟨x.text.toArray⟩] := hI.2 11 (hD 11 (by decide)) rfl;have zf12 : V 12 = .int .i64 e1 := hI.2 12 (hD 12 (by decide)) rfl;have zf13 : V 13 = .bool bad := hI.2 13 (hD 13 (by decide)) rfl;have zf14 : V 14 = .bool bad := hI.2 14 (hD 14 (by decide)) rfl;clear hI hD HGs;simp only [frAll, Act.put, List.setIfInBounds_toArray, List.set_cons_zero, List.set_cons_succ, Nat.zero_add, Nat.reduceAdd, zf0, zf1, zf2, zf3, zf4, zf5, zf6, zf7, zf8, zf9, zf10, zf11, zf12, zf13, zf14];clear zf0 zf1 zf2 zf3 zf4 zf5 zf6 zf7 zf8 zf9 zf10 zf11 zf12 zf13 zf14;clear V D
       go_wp2_with fail
       go_meet;exact ⟨rfl, hGx, hMx⟩
   case rest =>
    obtain ⟨rfl, B3, m3⟩ := hcut;have own3 := own_pure own2 m3;have hS3 := hS2.pure m3;have mm3 := m2.transp m3;have hsz3 := m3.size
    have HXZ2 : Hid (bad = false → ∀ y ∈ xs ++ [x], ItR y) := Lib.hid (fun hb y hy => by
     have h0 : e1 = 0 := by
      have h := HBAD.out;rw [hb] at h;simp at h;exact h.2.2
     rcases List.mem_append.1 hy with hy | hy
     ·exact HXZ.out y hy
     ·rw [List.mem_singleton.1 hy]; exact ⟨HX.out, itT_of (HE1.out.trans h0)⟩)
    have HXV : Hid (itV (xs ++ [x]) = itV xs ++ [.string ⟨x.id.toArray⟩, .string ⟨x.cust.toArray⟩, .int .i64 x.kind, .string ⟨x.name.toArray⟩, .int .i64 x.tm, .string ⟨x.par.toArray⟩, .string ⟨x.text.toArray⟩]) := Lib.hid (itV_snoc xs x);clear HIF HX HBAD HBO HB0 Hm0 WS hS2 m2 own2 m3 HID HE1
    cases bad
    ·have c0 := B3.cell 0; have c1 := B3.cell 1; have c2 := B3.cell 2; have c3 := B3.cell 3; have c4 := B3.cell 4; have c5 := B3.cell 5; have c6 := B3.cell 6; simp at c0 c1 c2 c3 c4 c5 c6;clear B3
     go_wp2_with (at_builtin; refine wpList_append_lies _ rfl _ _ _ rfl w.heap.size 40 i0 _ 7 96 Tryz.underlying26 hi0 hz0 hz1 hz2 rfl (by omega) (.slice A xs.length cap) xs.length (itV xs) rfl (own3.alloc _) ⟨wc.heap.size, 0, none⟩ 1 1 [.string ⟨x.id.toArray⟩, .string ⟨x.cust.toArray⟩, .int .i64 x.kind, .string ⟨x.name.toArray⟩, .int .i64 x.tm, .string ⟨x.par.toArray⟩, .string ⟨x.text.toArray⟩] rfl rfl (World.news_of_block (cs := #[.string ⟨x.id.toArray⟩, .string ⟨x.cust.toArray⟩, .int .i64 x.kind, .string ⟨x.name.toArray⟩, .int .i64 x.tm, .string ⟨x.par.toArray⟩, .string ⟨x.text.toArray⟩]) (t := 40) (fr := (0, 0)) (heap_alloc_new wc _)) (by simp [Value.oneCell']) (by omega) (by simp [maxLen]; omega) (by omega) (by have := mm3.size; simp; omega) (wc.heap.size + 1) (by simp) ?_; intro g5 cap5 w5 hown5 hgrow hat hlt5)
     go_roundg (m - (j + 1))
     case measure => omega
     case rel =>
      have hz5 := hgrow.size;simp at hz5;refine ⟨j + 1, xs ++ [x], some ⟨g5, 0, none⟩, cap5, rfl, by omega, by simp, by simp, by simp; omega, HXZ2.out (by first | rfl | trivial), ?_, (hS3.alloc _ |>.mod (S := fun k => (Value.slice A xs.length cap).ownBlock = some k) ⟨hgrow.os, hgrow.tape, hgrow.output, hgrow.size, fun k hk hs => hgrow.block k hk (fun x => hs x.symm)⟩ (fun i hi hk => by have := own_block own3 i hk; omega)).more (by omega), (mm3.alloc _).grown hgrow (fun k hk => .inr (by have := own_block own3 k hk; omega)), by omega⟩;rw [HXV.out]
      simpa using hown5
    ·go_wp2_with fail
     go_roundg (m - (j + 1))
     case measure => omega
     case rel => exact ⟨j + 1, xs, A, cap, rfl, by omega, rfl, by simp, by omega, HXZ.out, own3, hS3.more (by omega), mm3, by omega⟩
  ·obtain rfl : j = m := by omega
   by_cases h0 : xs.length = 0
   ·have e0 : xs = [] := List.eq_nil_of_length_eq_zero h0;subst e0;have d0 : decide ((0 : Int) < 0) = false := rfl
    go_wp2_with fail
    go_loopg [41] 0 (fun gk i wx => i = .int .i64 0 ∧ gk = 0 ∧ wr = wx)
    case atStart => exact ⟨rfl, rfl, rfl⟩
    case round =>
     obtain ⟨rfl, rfl, rfl⟩ := hrel
     go_wp2_with fail
     go_ret;exact ⟨.slice A 0 cap, [], rfl, by simp, le_nilV, hown, hS.more (by omega), hmm⟩
   ·obtain ⟨g, cap', hform, hg1, hg2, hcap, hcap2⟩ := own_form7 hown (by omega)
    injection hform with hA _ hC
    subst hA hC;have hownI : OwnI wr w.heap.size g xs.length cap xs := hown
    have hl20 : xs.length ≤ 20 := by omega
    have hxn := hxj;clear hown hlt;generalize hn : xs.length = n at *;clear hn;obtain ⟨base, hbase⟩ : ∃ base, base = w.heap.size := ⟨_, rfl⟩;rw [← hbase] at hownI hg1;have hba1 := Nat.le_of_eq hbase;have hba2 := Nat.le_of_eq hbase.symm;have HBA := Lib.hid hbase;clear hbase
    go_wp2_with fail
    go_loopg [41] n (fun gk i wr => Ri2V w b (N + 140 * j) base g n cap gk i wr)
    case atStart => exact ⟨0, xs, rfl, by omega, rfl, hxz, hownI, hS.more (by omega), hmm⟩
    case round =>
     clear hxz hownI hS hmm hxj;obtain ⟨k, ys, rfl, hk, rfl, hyz, hown, hS, hmm⟩ := hrel;have hyl := hown.len;have hgl := hown.ge;have hbs := hS.lt
     by_cases hlt : k < n
     ·have HYZ := Lib.hid hyz;clear hyz
      go_wp2_with fail
      refine (flip_calls _ b _ _ hS (by omega) (by omega) (by omega)).mono ?_;rintro e w1 ⟨fl, rfl, hS1, hM1⟩;have own1 := hown.mod hM1 (by omega);have m1 := hmm.trans hM1;clear hS hown hmm hM1
      cases fl
      ·go_wp2_with fail
       refine (next_calls _ b _ _ hS1 (by omega) (by omega) (by omega)).mono ?_;rintro e w2 ⟨q, hq0, hq1, rfl, hS2, hM2⟩;obtain ⟨q, rfl⟩ := Int.eq_ofNat_of_zero_le hq0;have own2 := own1.mod hM2 (by omega);have m2 := m1.trans hM2
       have hqn : q < n := by omega
       have hqy : q < ys.length := by omega
       have hky : k < ys.length := by omega
       have HI0 := Lib.hid (own2.cells hqy).1;have HP0 := Lib.hid (own2.cells hky).2.2.2.2.2.1;have HF0 := Lib.hid (own2.frozen (k * 7 + 5));have HO1 := Lib.hid (own2.setPar hky ys[q].id);have HZ1 : Hid (∀ x ∈ ys.set k { ys[k] with par := ys[q].id }, ItR x) := Lib.hid (set_allV HYZ.out ((HYZ.out _ (List.getElem_mem hky)).par (HYZ.out _ (List.getElem_mem hqy)).2.id));have HZK := Lib.hid (HYZ.out _ (List.getElem_mem hky))
       have hsk : k < (ys.set k { ys[k] with par := ys[q].id }).length := by simpa using hky
       have HO2 := Lib.hid (fun (W : World) (h : OwnI W base g n cap (ys.set k { ys[k] with par := ys[q].id })) => h.setPar hsk ys[k].par);have HZ2 : Hid (∀ x ∈ (ys.set k { ys[k] with par := ys[q].id }).set k { (ys.set k { ys[k] with par := ys[q].id })[k] with par := ys[k].par }, ItR x) := Lib.hid (set_allV HZ1.out ((HZ1.out _ (List.getElem_mem hsk)).par HZK.out.2.par));generalize (ys.set k { ys[k] with par := ys[q].id }).set k { (ys.set k { ys[k] with par := ys[q].id })[k] with par := ys[k].par } = y2 at *;generalize ys.set k { ys[k] with par := ys[q].id } = y1 at *;generalize ys[q].id = qid at *;generalize ys[k].par = kpar at *;clear hS1 m1 own1 hM2 own2 hq0 hq1 hqy hky hsk HZK HYZ hyl
       have j1 : (0 : Int) ≤ (k : Int) := by omega
       have j2 : (k : Int) < (n : Int) := by omega
       have j3 : (0 : Int) ≤ (q : Int) := by omega
       have j4 : (q : Int) < (n : Int) := by omega
       have c0 := HI0.out;have c1 := HP0.out;have c2 := HF0.out;have HM2 := Lib.hid (m2.setCell (p := ⟨g, k * 7 + 5, none⟩) (.inr (by show _ ≤ g; omega)) (.string ⟨qid.toArray⟩));have HS2 := Lib.hid (hS2.setCell (p := ⟨g, k * 7 + 5, none⟩) (by show _ < g; omega) (.string ⟨qid.toArray⟩));have hown1 := HO1.out;have hy1 := hown1.len;have c3 := hown1.frozen (k * 7 + 5)
       have hky1 : k < y1.length := by omega
       have HIF := Lib.hid (fun W (h : Mod (· = b) w W) (h2 : OwnI W base g n cap y1) => itemsFault_calls W _ y1 h2.its (fun z h => (HZ1.out z h).1.b) (by omega) (HE.out W h));obtain ⟨e1, he1⟩ : ∃ e1, itsE itemE y1 = e1 := ⟨_, rfl⟩;rw [he1] at HIF;have HOW := Lib.hid hown1;clear he1 HI0 HP0 HF0 HO1 hown1 hS2 m2;have HC4 := Lib.hid (fun W (h : OwnI W base g n cap y1) => (h.cells hky1).2.2.2.2.2.1);have HG : Hid (b < g ∧ w.heap.size ≤ g) := Lib.hid ⟨by omega, by omega⟩
       have FIN : Hid (∀ W, Strm W b (N + 140 * j + 2 * k + 1 + 1) → Mod (· = b) w W → OwnI W base g n cap y1 → Strm (W.setCell ⟨g, k * 7 + 5, none⟩ (.string ⟨kpar.toArray⟩)) b (N + 140 * j + 2 * (k + 1)) ∧ Mod (· = b) w (W.setCell ⟨g, k * 7 + 5, none⟩ (.string ⟨kpar.toArray⟩)) ∧ OwnI (W.setCell ⟨g, k * 7 + 5, none⟩ (.string ⟨kpar.toArray⟩)) base g n cap y2) :=
        Lib.hid (fun W h1 h2 h3 => ⟨(h1.setCell (p := ⟨g, k * 7 + 5, none⟩) HG.out.1 _).more (by omega), h2.setCell (p := ⟨g, k * 7 + 5, none⟩) (.inr HG.out.2) _, HO2.out W h3⟩)
       by_cases hqk : q = k
       ·have hqk' : ((q : Int) == (k : Int)) = true := by rw [hqk]; simp
        clear hqk HIF HC4
        go_wp2_with fail
        obtain ⟨f1, f2, f3⟩ := FIN.out _ HS2.out HM2.out HOW.out
        go_roundg (n - (k + 1))
        case measure => omega
        case rel => exact ⟨k + 1, y2, rfl, by omega, by simp, HZ2.out, f3, f1, f2⟩
       ·have hqk' : ((q : Int) == (k : Int)) = false := by simp; omega
        clear hqk
        go_wp2_with fail
        refine (HIF.out _ HM2.out HOW.out).mono ?_;rintro e w3 ⟨rfl, hm3⟩;have m3 := HM2.out.transp hm3;have hS3 := HS2.out.pure hm3;have own3 := HOW.out.mod hm3 id;have c5 := own3.frozen (k * 7 + 5);have H3 := Lib.hid own3;clear HIF HM2 HS2 HOW own3 c0 c1 c2 c3 hm3
        by_cases he : e1 = 0
        ·subst he
         go_wp2_with fail
         go_roundg (n - (k + 1))
         case measure => omega
         case rel => exact ⟨k + 1, y1, rfl, by omega, by simp, HZ1.out, H3.out, hS3.more (by omega), m3⟩
        ·have he' : (e1 != 0) = true := by simpa using he
         clear he;have hc4 := HC4.out _ H3.out
         go_wp2_with fail
         obtain ⟨f1, f2, f3⟩ := FIN.out _ hS3 m3 H3.out
         go_roundg (n - (k + 1))
         case measure => omega
         case rel => exact ⟨k + 1, y2, rfl, by omega, by simp, HZ2.out, f3, f1, f2⟩
      ·go_wp2_with fail
       go_roundg (n - (k + 1))
       case measure => omega
       case rel => exact ⟨k + 1, ys, rfl, by omega, by simp, HYZ.out, own1, hS1.more (by omega), m1⟩
     ·obtain rfl : k = n := by omega
      go_wp2_with fail
      go_ret;exact ⟨.slice (some ⟨g, 0, none⟩) k cap, ys, rfl, by omega, hyz, by rw [hyl, ← HBA.out]; exact hown, hS.more (by omega), hmm⟩
end Go.Proofs.YtelpdjhkedhppaaGreatDoor
/-
 DERIVED: THE SHELF's CONTRACTS AT THIS DUMP, IN PLAIN WORDS (tools/lay-plain.mjs out of 'YtelpdjhkedhppaaGreatDoorLayK.lean', which tools/lay-shelf.mjs wrote): THE SAME DECLARATIONS UNDER THE SAME NAMES: 'import', 'namespace', 'open', 'def', 'theorem' AND NOTHING ELSE: no command of the shelf's: FOR A HAND-IN. Each laying: the table of numbers ('.._ren') and one theorem, a field a fact of the dump's own or the kernel's comparison; each contract: ONE APPLICATION.
-/
namespace Go.Proofs
open Go.Shelf
def Tryz.eqItm_ren : Go.Shelf.Ren := ⟨fun | 8 => 18 | n => n, fun | 22 => 26 | 24 => 40 | 4 => 4 | 3 => 3 | 0 => 0 | n => n, fun | n => n⟩
theorem Tryz.eqItm : Go.Proofs.SlLaysQ.n8 Tryz.prog Tryz.eqItm_ren := {
 mixed := by kernel_rfl
 f8 := ⟨Tryz.f18.name, by decide, Tryz.func18.trans (congrArg some (by kernel_rfl))⟩
 t0 := Tryz.underlying0
 a0 := Tryz.isAgg0
 z0 := Tryz.sizeOf0
 v0 := Tryz.zeroValue0
 t3 := Tryz.underlying3
 a3 := Tryz.isAgg3
 z3 := Tryz.sizeOf3
 v3 := Tryz.zeroValue3
 t4 := Tryz.underlying4
 a4 := Tryz.isAgg4
 z4 := Tryz.sizeOf4
 v4 := Tryz.zeroValue4
 t22 := Tryz.underlying26
 a22 := Tryz.isAgg26
 z22 := Tryz.sizeOf26
 v22 := Tryz.zeroValue26 }
end Go.Proofs
/- Rows of items: ==, slices.Equal. -/
namespace Go.Proofs.YtelpdjhkedhppaaGreatDoor
open Go.RowKit Go.Shelf
attribute [local go_sem ↓] Go.wp_at_zero Go.wp_at_succ
section
variable {α : Type} {enc : α → List Value} {k : Nat}
variable [Inhabited α]
theorem flatK_at (hk : ∀ x, (enc x).length = k) (h0 : 0 < k) : ∀ (xs : List α) (t : Nat), t < xs.length * k → (xs.flatMap enc)[t]? = some (enc xs[t / k]!)[t % k]!
 | [], t, h => by simp at h
 | x :: xs, t, h => by
  rw [List.flatMap_cons]
  by_cases ht : t < k
  ·rw [List.getElem?_append_left (by rw [hk]; exact ht), Nat.div_eq_of_lt ht, Nat.mod_eq_of_lt ht]
   have : t < (enc x).length := by rw [hk]; exact ht
   simp [this]
  ·obtain ⟨s, rfl⟩ : ∃ s, t = s + k := ⟨t - k, by omega⟩;rw [List.getElem?_append_right (by rw [hk]; omega), hk, Nat.add_sub_cancel, Nat.add_div_right _ h0, Nat.add_mod_right]
   have hs : s < xs.length * k := by rw [List.length_cons, Nat.add_mul] at h; omega
   rw [flatK_at hk h0 xs s hs];simp
end
instance : Inhabited Itm := ⟨⟨[], [], 0, [], 0, [], []⟩⟩
theorem eqTypeItm : Tryz.prog.stoodInHeld 40 = false := by kernel_rfl
theorem eqGuardTItm : Tryz.prog.eqGuardType Tryz.prog.depth 40 = false := by kernel_rfl
theorem eqStructItm : Tryz.prog.underlying 40 = some (.struct (Tryz.prog.fieldsOf 40)) := by kernel_rfl
set_option maxHeartbeats 2000000 in
theorem eqInItm (x y : Itm) (w : World) : Sem.run Tryz.prog (Op.equalIn 10000 40 (itA x) (itA y)) w = .ok (itEq x y) w := by
 have us := Tryz.underlying9;have ag := Tryz.isAgg9;have zs := Tryz.sizeOf9;have ui := Tryz.underlying3;have ai := Tryz.isAgg3;have zi := Tryz.sizeOf3;have hS := eqStructItm;unfold itA itEq;rw [show (10000 : Nat) = 9999 + 1 from rfl, run_equalIn_agg w 9999 40 _ _ hS eqTypeItm];simp only [Program.fieldsOf, Tryz.underlying40];clear hS;go_simp
 (repeat' split) <;> simp_all
theorem neqItm (x y : Itm) (w : World) : Sem.run Tryz.prog (binOp .neq 40 (itA x) (itA y)) w = .ok (.bool (!itEq x y)) w := by
 have h := eqInItm x y w;unfold itA at h ⊢;rw [run_neq_struct, h]
 rfl
theorem guardItm (op : BinOp) (a b : Operand) (x y : Itm) (w : World) : Sem.run Tryz.prog (eqGuard op 40 a b (itA x) (itA y)) w = .ok () w :=
 run_eqGuard_agg w op 40 a b _ _ eqGuardTItm
theorem neqAtItm : NeqAt Tryz.prog 40 (fun x => .agg (itC x).toArray) itEq := ⟨neqItm, guardItm⟩
set_option maxHeartbeats 2000000 in
theorem equal0Itm_calls (w : World) (A1 A2 : Option Addr) (c1 c2 : Nat) : Calls Tryz.prog 18 #[.slice A1 0 c1, .slice A2 0 c2] w (BoolPost w true) := by
 go_enter Tryz.func18, Tryz.ntmps18
 go_wp2_with fail
 refine wp_loop_rounds 1 ?_;rw [rounds_succ]
 go_wp2_with fail
 go_ret;exact BoolPost.of rfl (Mod.refl _ _)
set_option maxHeartbeats 1000000 in
theorem equalItm_calls (w : World) (v1 v2 : Value) (xs : List Itm) (h1 : Sl w 40 7 v1 (itV xs)) (h2 : Sl w 40 7 v2 (itV xs)) : Calls Tryz.prog 18 #[v1, v2] w (BoolPost w true) := by
 obtain ⟨A1, n1, c1, rfl, a1, a2, a3, a4⟩ := h1;obtain ⟨A2, n2, c2, rfl, b1, b2, b3, b4⟩ := h2;rw [itV_len] at a3 b3
 obtain rfl : n1 = xs.length := by omega
 obtain rfl : n2 = xs.length := by omega
 by_cases h0 : xs.length = 0
 ·rw [h0];exact equal0Itm_calls w A1 A2 c1 c2
 obtain ⟨g1, o1, rfl, r1⟩ := a4 (by omega);obtain ⟨g2, o2, rfl, r2⟩ := b4 (by omega);have hk : ∀ x, (itC x).length = 7 := fun _ => rfl
 have hr : ∀ {g o : Nat}, RowAt w 40 g o (itV xs) → ∀ j, j < xs.length → ∀ i v, (itC xs[j]!)[i]? = some v → w.cell? ⟨g, o + j * 7 + i, none⟩ = some v := fun {g o} r j hj i v hv => by
  have hi : i < 7 := by
   rw [← hk xs[j]!];exact (List.getElem?_eq_some_iff.1 hv).1
  have h := r.cell (i := j * 7 + i) (u := v) (by
   show (xs.flatMap itC)[j * 7 + i]? = some v
   rw [flatK_at hk (by omega) xs (j * 7 + i) (by omega), show (j * 7 + i) / 7 = j by omega, show (j * 7 + i) % 7 = i by omega];obtain ⟨h3, h4⟩ := List.getElem?_eq_some_iff.1 hv
   rw [getElem!_pos _ i h3, h4])
  rw [Nat.add_assoc];exact h
 refine (AnyQ.slices_Equal Tryz.eqItm 7 Tryz.isAgg40 Tryz.sizeOf40 itC hk itEq neqAtItm g1 o1 xs.length c1 g2 o2 xs.length c2 xs xs w (Nat.le_refl _) (Nat.le_refl _) (by omega) (by omega) (hr r1) (hr r2)).mono ?_;rintro e w' ⟨rfl, q, rfl⟩;rw [Lib.allEq_all itEq _ _ rfl (fun j _ => itEq_refl _)];exact BoolPost.of rfl ((Mod.refl _ _).drewN q)
end Go.Proofs.YtelpdjhkedhppaaGreatDoor
/- Changed strings of the stream. -/
namespace Go.Proofs.YtelpdjhkedhppaaGreatDoor
open Go.RowKit
def ChgPost (w : World) (b N n : Nat) (e : Ending) (w' : World) : Prop :=
 ∃ a : ByteArray, a.size ≤ n ∧ e = .returned (.string a) ∧ Strm w' b (N + 3) ∧ Mod (· = b) w w'
set_option maxHeartbeats 4000000 in
theorem changed_calls (w : World) (b N : Nat) (t wi : ByteArray) (hS : Strm w b N) (hN : N ≤ 100000000) (ht : t.size ≤ 100000) (h1 : 1 ≤ wi.size) (h2 : wi.size ≤ 1000) (h3 : ∀ i (h : i < wi.size), wi[i].toNat < 128) :
  Calls Tryz.prog 15 #[.pointer (some ⟨b, 0, none⟩), .string t, .string wi] w (ChgPost w b N (t.size + wi.size)) := by
 have hwe : wi.toList.isEmpty = false := by
  rw [ByteArray.toList_eq]
  have hh : wi.data.toList.length = wi.size := by simp
  match hl : wi.data.toList with
  | [] => rw [hl] at hh; simp at hh; omega
  | _ :: _ => rfl
 by_cases h0 : t.size = 0
 ·have hte : t = ⟨#[]⟩ := by
   apply ByteArray.ext
   exact Array.eq_empty_of_size_eq_zero h0
  subst hte
  go_enter Tryz.func15, Tryz.ntmps15
  go_wp2_with fail
  go_ret;exact ⟨wi, by omega, rfl, hS.more (by omega), Mod.refl _ _⟩
 ·have hte : t.toList.isEmpty = false := by
   rw [ByteArray.toList_eq]
   have hh : t.data.toList.length = t.size := by simp
   match hl : t.data.toList with
   | [] => rw [hl] at hh; simp at hh; omega
   | _ :: _ => rfl
  have H3 := Lib.hid h3;clear h3
  go_enter Tryz.func15, Tryz.ntmps15
  go_wp2_with fail
  refine (next_calls _ b N _ hS (by omega) (by omega) (by omega)).mono ?_;rintro e w1 ⟨i, hi0, hi1, rfl, hS1, hM1⟩;obtain ⟨i, rfl⟩ := Int.eq_ofNat_of_zero_le hi0
  have hi : i < t.size := by omega
  clear hi0 hi1 hS
  go_wp2_with fail
  refine (next_calls _ b (N + 1) _ hS1 (by omega) (by omega) (by omega)).mono ?_;rintro e w2 ⟨j, hj0, hj1, rfl, hS2, hM2⟩;obtain ⟨j, rfl⟩ := Int.eq_ofNat_of_zero_le hj0
  have hj : j < wi.size := by omega
  clear hj0 hj1 hS1;have hc := H3.out j hj;generalize hcc : wi[j].toNat = c at *
  go_wp2_with fail
  refine (next_calls _ b (N + 1 + 1) _ hS2 (by omega) (by omega) (by omega)).mono ?_;rintro e w3 ⟨u, hu0, hu1, rfl, hS3, hM3⟩;have HM := Lib.hid ((hM1.trans hM2).trans hM3);have henc := enc_ascii c hc
  have hzs : (⟨#[UInt8.ofNat c]⟩ : ByteArray).size = 1 := by simp [ByteArray.size]
  generalize (⟨#[UInt8.ofNat c]⟩ : ByteArray) = z at *
  have hx1 : (t.extract 0 i).size = i := by simp; omega
  have hx2 : (t.extract (i + 1) t.size).size = t.size - (i + 1) := by simp
  have hx3 : (t.extract i t.size).size = t.size - i := by simp
  have hwr : IntKind.i32.wrap (c : Int) = (c : Int) := by simp [IntKind.wrap, IntKind.bits, IntKind.signed]; omega
  clear H3 hS2 hM1 hM2 hM3
  by_cases hu : u = 0
  ·subst hu
   go_wp2_with fail
   go_quiet (fail)
   go_wp2_with fail
   go_ret;exact ⟨_, by simp only [ByteArray.size_append, hx1, hx2, hzs]; omega, rfl, hS3, HM.out.drewN _⟩
  ·by_cases hu' : u = 1
   ·subst hu'
    go_wp2_with fail
    go_quiet (fail)
    go_wp2_with fail
    go_ret;exact ⟨_, by simp only [ByteArray.size_append, hx1, hx2, hx3, hzs]; omega, rfl, hS3, HM.out.drewN _⟩
   ·obtain rfl : u = 2 := by omega
    go_wp2_with fail
    go_quiet (fail)
    go_wp2_with fail
    go_ret;exact ⟨_, by simp only [ByteArray.size_append, hx1, hx2, hx3, hzs]; omega, rfl, hS3, HM.out.drewN _⟩
end Go.Proofs.YtelpdjhkedhppaaGreatDoor
/- The law ItemTexts. -/
namespace Go.Proofs.YtelpdjhkedhppaaGreatDoor
open Go.RowKit
def chgI : ByteArray := ⟨#[48, 45, 57, 32, 124, 10, 34, 105, 116, 101, 109]⟩
theorem chgI_lt : ∀ i (h : i < chgI.size), chgI[i].toNat < 128 := by
 have key : ∀ i : Fin 11, (chgI[i.val]'i.isLt).toNat < 128 := by decide +kernel
 exact fun i h => key ⟨i, h⟩
def ItRel (w : World) (b m N gk : Nat) (x i : Value) (wr : World) : Prop :=
 ∃ (j : Nat) (t : ByteArray), m - j = gk ∧ j ≤ m ∧ x = .string t ∧ i = .int .i64 (j : Int) ∧ t.size ≤ 170000 ∧ Strm wr b (N + 3 * j) ∧ Pure w wr
set_option maxHeartbeats 8000000 in
theorem ItemTexts_calls (w : World) (A : Option Addr) (n c : Nat) (hA : ArgInts w A n) (hMl : MlnS w) (hAs : Asc w) (hPw : Pow w) (hE : ErrS w) (hD : Deb w) (hV : Env w) :
  Calls Tryz.prog 3 #[.slice A n c] w (BoolPost w true) := by
 have hS0 := strm_new (c := c) hA;have HM : Hid (∀ w1, Pure w w1 → MlnS w1) := Lib.hid (fun _ h => hMl.pure h);have HA : Hid (∀ w1, Pure w w1 → Asc w1) := Lib.hid (fun _ h => hAs.pure h);have HPW : Hid (∀ w1, Pure w w1 → Pow w1) := Lib.hid (fun _ h => hPw.pure h);have HE : Hid (∀ w1, Pure w w1 → ErrS w1) := Lib.hid (fun _ h => hE.pure h);have HD : Hid (∀ w1, Pure w w1 → Deb w1) := Lib.hid (fun _ h => hD.pure h);have HV : Hid (∀ w1, Pure w w1 → Env w1) := Lib.hid (fun _ h => hV.pure h);have HT : Hid (∀ W, Pure w W → _) := Lib.hid (fun W hW => taken_calls W (HE.out _ hW) (HD.out _ hW));obtain ⟨b, hb⟩ : ∃ b, b = w.heap.size := ⟨_, rfl⟩;have P0 := pure_alloc w (.cells #[.slice A n c, .int .i64 0] 25);have HPS : Hid (∀ {w1 w' : World}, Pure w w1 → Mod (· = b) w1 w' → Pure w w') := Lib.hid (fun k h => k.trans' h (fun i hi hlt => by omega));rw [← hb] at hS0;clear hMl hAs hPw hE hD hV hA
 go_enter Tryz.func3, Tryz.ntmps3
 go_wp2_with fail
 rw [← hb];generalize (w.alloc (.cells #[.slice A n c, .int .i64 0] 25)) = w0 at *;clear hb;refine (rangeI_calls _ _ _ _ hS0 (by omega) (by omega) (by omega)).mono ?_;rintro e w1 ⟨m, mI, hmI, hm8, rfl, hS1, hM1⟩;have P1 := HPS.out P0 hM1;have HIT := Lib.hid (items_callsG w1 b _ m mI hmI hS1 (by omega) (by omega) (fun W h => HV.out W (HPS.out P1 h)))
 have hm20 : m ≤ 10 := by omega
 clear hS0 P0 hM1 hmI
 go_wp2_with fail
 refine HIT.out.mono ?_;rintro e w2 ⟨v, xs, rfl, hxl, hxz, hown, hS2, hM2⟩;have P2 := HPS.out P1 hM2;have hv : Its w2 v xs := Sl.of_own hown;have hxb : ∀ x ∈ xs, ItB x := fun x hx => (hxz x hx).b;have HTX := Lib.hid (itext_calls w2 v xs hv hxb (by omega) (HV.out _ P2) (HM.out _ P2) (HPW.out _ P2));have HIF : Hid (∀ W, Pure w2 W → Calls Tryz.prog 11 #[v] W (IntPost W (itsE itemE xs))) := Lib.hid (fun W h => itemsFault_calls W v xs (hv.pure h) hxb (by omega) (HV.out W (P2.trans h)));have HIL : Hid (itsE itemE xs = 0 → ∀ W, Pure w2 W → Calls Tryz.prog 12 #[v] W (StrPost1 W (itsT xs))) := Lib.hid (fun h0 W h => itemLines_calls W v xs (hv.pure h) (by omega) (its_all h0) (HPW.out W (P2.trans h)));have HX0 : Hid (itsE itemE xs ≠ 0 → itxE xs = itsE itemE xs) := Lib.hid (fun h => itxE_bad h);have HX1 : Hid (itsE itemE xs = 0 → 200000 < (itsT xs).length → itxE xs = 2) := Lib.hid (fun h h2 => by unfold itxE; rw [if_neg (not_not_intro h), if_pos h2]);have HX2 : Hid (itsE itemE xs = 0 → (itsT xs).length ≤ 200000 → itxE xs = 0) := Lib.hid (fun h h2 => itxE_ok h h2);unfold ItxPost at HTX;have hS3 := hS2.more (M := 5000) (by omega);clear HIT hxz hxb P1 hM2 hown hv hS1 hS2 hm8;generalize itsE itemE xs = f at *;generalize itxE xs = fx at *;generalize itsT xs = tx at *;obtain ⟨ot, hot⟩ : ∃ ot : Str, (if fx = 0 then tx else []) = ot := ⟨_, rfl⟩;rw [hot] at HTX;have HOT := Lib.hid hot;clear hot
 go_wp2_with fail
 refine HTX.out.mono ?_;rintro e w3 ⟨rfl, hm3⟩;have P3 := P2.trans hm3;have hS4 := hS3.pure hm3;have HF := Lib.hid (HIF.out w3 hm3);clear HTX HIF hS3
 go_wp2_with fail
 refine HF.out.mono ?_;rintro e w4 ⟨rfl, hm4⟩;have HIL4 := Lib.hid (fun h0 => HIL.out h0 w4 (hm3.trans hm4));have P4 := P3.trans hm4;have hS5 := hS4.pure hm4;clear HF hS4 hm4 hm3 P3 HIL
 go_upto_if 29 with (fail)
 go_cut [7, 8] from 28 to 34 (fun y z wx => y = .int .i64 fx ∧ z = .string ⟨ot.toArray⟩ ∧ Pure w4 wx)
 case first =>
  by_cases h0 : f = 0
  ·subst h0;have HL := Lib.hid (HIL4.out rfl);clear HIL4 HX0
   go_wp2_with fail
   refine HL.out.mono ?_;rintro e w5 ⟨rfl, hm5⟩
   have hds : (⟨tx.toArray⟩ : ByteArray).size = tx.length := by simp [ByteArray.size]
   by_cases hbig : 200000 < tx.length
   ·have hb2 : (200000 : Int) < (tx.length : Int) := by omega
    have h2 := HX1.out trivial hbig
    have hot : ot = [] := by rw [← HOT.out, if_neg (by rw [h2]; decide)]
    subst h2 hot;clear HX1 HX2 hbig
    go_wp2_with fail
    go_meet;exact ⟨rfl, rfl, hm5⟩
   ·have hb2 : ¬ (200000 : Int) < (tx.length : Int) := by omega
    have h2 := HX2.out trivial (by omega)
    have hot : ot = tx := by rw [← HOT.out, if_pos h2]
    subst h2 hot;clear HX1 HX2 hbig
    go_wp2_with fail
    go_meet;exact ⟨rfl, rfl, hm5⟩
  ·have h2 := HX0.out h0
   have hot : ot = [] := by rw [← HOT.out, if_neg (by rw [h2]; exact h0)]
   have h0' : (f == 0) = false := by simpa using h0
   subst h2 hot;clear HX0 HX1 HX2 HIL4 h0
   go_wp2_with fail
   go_meet;exact ⟨rfl, rfl, Mod.refl _ _⟩
 case rest =>
  obtain ⟨rfl, rfl, hmc⟩ := hcut;have P5 := P4.trans hmc;have hS6 := hS5.pure hmc
  have hff : (fx == fx) = true := by simp
  have hoo : (ot == ot) = true := by simp
  clear HX0 HX1 HX2 HIL4 HOT P4 hS5 hmc P2
  go_wp2_with fail
  refine (rangeI_calls _ _ _ _ hS6 (by omega) (by omega) (by omega)).mono ?_;rintro e w6 ⟨q, qI, hqI, hq4, rfl, hS7, hM7⟩;have P6 := HPS.out P5 hM7
  have hq5 : q ≤ 4 := by omega
  obtain rfl : qI = (q : Int) := hqI;have HRI := Lib.hid (rightItems_callsV w6 b _ q hS7 (by omega) (by omega) (fun W h => HV.out W (HPS.out P6 h)));clear P5 hS6 hM7
  go_wp2_with fail
  refine HRI.out.mono ?_;rintro e w7 ⟨v2, ys, rfl, hyl, hyz, hown2, hS8, hM8⟩;have P7 := HPS.out P6 hM8;have hv2 : Its w7 v2 ys := Sl.of_own hown2;have HIL := Lib.hid (itemLines_calls w7 v2 ys hv2 (by omega) (fun x hx => (hyz x hx).2) (HPW.out _ P7));have hty := itsT_len (fun x hx => (hyz x hx).2)
  have hty2 : (itsT ys).length ≤ 168000 := by omega
  clear HRI hyz hown2 hv2 P6 hS7 hM8 hyl hty;generalize itsT ys = ty at *
  go_wp2_with fail
  refine HIL.out.mono ?_;rintro e w8 ⟨rfl, hm8⟩;have P8 := P7.trans hm8;have hS9 := hS8.pure hm8;clear HIL P7 hS8 hm8
  go_wp2_with fail
  have hb9 := hS9.lt;refine (pickv_calls _ b _ w8.heap.size _ _ #[.int .i64 0, .int .i64 1, .int .i64 1, .int .i64 2] (hS9.alloc _) (Blk.new _ _ _) (by omega) (by omega) rfl (by decide) (by decide) rfl).mono ?_;rintro e w9 ⟨r, hmem, rfl, hS10, hM10⟩;have P9 := HPS.out (P8.alloc _) hM10
  have hr02 : 0 ≤ r ∧ r ≤ 2 := by
   have : r = 0 ∨ r = 1 ∨ r = 1 ∨ r = 2 := by simpa [intsOf, Go.RowKit.intOf] using hmem
   omega
  obtain ⟨hr0, hr2⟩ := hr02;obtain ⟨r, rfl⟩ := Int.eq_ofNat_of_zero_le hr0
  have hr2' : r ≤ 2 := by omega
  obtain ⟨t0, ht0⟩ : ∃ t0 : ByteArray, t0 = ⟨ty.toArray⟩ := ⟨_, rfl⟩
  have hts : t0.size ≤ 168000 := by rw [ht0]; exact hty2
  rw [← ht0];clear hmem hS9 hM10 P8 hr0 hr2 hb9 ht0 hty2
  go_wp2_with fail
  go_loopg [5, 51] r (fun gk x i wr => ItRel w b r 10000 gk x i wr)
  case atStart => exact ⟨0, t0, rfl, by omega, rfl, rfl, by omega, hS10.more (by omega), P9⟩
  case round =>
   clear hts hS10 P9;obtain ⟨j, t, rfl, hj, rfl, rfl, htz, hSr, PR⟩ := hrel
   by_cases hlt : j < r
   ·have hjr : ((j : Nat) : Int) < (r : Int) := by omega
    by_cases h2 : t.size < 2000
    ·have h2i : ((t.size : Nat) : Int) < 2000 := by omega
     have HC := Lib.hid (changed_calls wr b _ t chgI hSr (by omega) (by omega) (by decide) (by decide) chgI_lt);unfold chgI at HC
     go_wp2_with fail
     refine HC.out.mono ?_;rintro e wx ⟨t2, ht2, rfl, hSx, hMx⟩;have hc11 : (⟨#[48, 45, 57, 32, 124, 10, 34, 105, 116, 101, 109]⟩ : ByteArray).size = 11 := rfl;rw [hc11] at ht2;clear HC
     go_wp2_with fail
     go_roundg (r - (j + 1))
     case measure => omega
     case rel => exact ⟨j + 1, t2, rfl, by omega, rfl, by simp, by omega, hSx.more (by omega), HPS.out PR hMx⟩
    ·have h2i : ¬ ((t.size : Nat) : Int) < 2000 := by omega
     go_wp2_with fail
     go_roundg (r - (j + 1))
     case measure => omega
     case rel => exact ⟨j + 1, t, rfl, by omega, rfl, by simp, by omega, hSr.more (by omega), PR⟩
   ·obtain rfl : j = r := by omega
    obtain ⟨s, hs⟩ : ∃ s : Str, t = ⟨s.toArray⟩ := ⟨t.data.toList, by simp⟩;subst hs
    have hsl : s.length ≤ 200000 := by
     have : (⟨s.toArray⟩ : ByteArray).size = s.length := rfl
     omega
    have HR1 := Lib.hid (read_calls wr s hsl (HM.out _ PR) (HE.out _ PR) (HV.out _ PR));have HR2 := Lib.hid (fun W (h : Pure wr W) => itemsRead_calls W s hsl (HM.out _ (PR.trans h)) (HPW.out _ (PR.trans h)) (HA.out _ (PR.trans h)) (HV.out _ (PR.trans h)));clear hsl HM HE HV HPW HA HD HPS hSr htz;generalize rdR s = rr at *;obtain ⟨r1, r2, r3⟩ := rr
    go_wp2_with fail
    refine HR1.out.mono ?_;rintro e wa ⟨va, rfl, hia, hma⟩;have HRa := Lib.hid (HR2.out wa hma);clear HR1 HR2
    go_wp2_with fail
    refine HRa.out.mono ?_;rintro e wb ⟨vb, rfl, hib, hmb⟩;have PB := (PR.trans hma).trans hmb;have HQ := Lib.hid (equalItm_calls wb _ _ _ (hia.pure hmb) hib);clear HRa PR hma hmb hia hib
    go_wp2_with fail
    refine HQ.out.mono ?_;rintro e wd ⟨rfl, hmd⟩;have PD := PB.trans hmd;clear HQ
    go_wp2_with fail
    refine (HT.out _ PD).mono ?_;rintro e wf ⟨rfl, hmf⟩
    go_wp2_with fail
    go_ret;exact ⟨rfl, PD.trans hmf⟩
end Go.Proofs.YtelpdjhkedhppaaGreatDoor
/- What the listed variables of the texts of decisions hold. -/
namespace Go.Proofs.YtelpdjhkedhppaaGreatDoor
open Go.RowKit
abbrev laidD : List (String × DataW Unit) := [("math/bits.deBruijn32tab", Rows.laid_math_bits_deBruijn32tab), ("math/bits.deBruijn64tab", Rows.laid_math_bits_deBruijn64tab), ("internal/strconv.uint64pow10", Rows.laid_internal_strconv_uint64pow10), ("unicode/utf8.acceptRanges", Rows.laid_unicode_utf8_acceptRanges), ("strconv.ErrRange", Rows.laid_strconv_ErrRange), ("strconv.ErrSyntax", Rows.laid_strconv_ErrSyntax), ("unicode.White_Space", Rows.laid_unicode_White_Space), ("strings.asciiSpace", Rows.laid_strings_asciiSpace), ("unicode/utf8.first", Rows.laid_unicode_utf8_first)]
theorem powZ : litsZv Rows.laid_internal_strconv_uint64pow10 = Lib.pow10Tab := by kernel_rfl
theorem ascD_of {W : World} (hL : laidMet Tryz.prog laidD W) : Asc W := by
 have h1 := Lib.tabIs_of_head (k := .u8) (zs := litsZv Rows.laid_strings_asciiSpace) (g := 1) (name := "strings.asciiSpace") (P := Tryz.prog) (W := W) (n := 256) (t := 195) (e := 5) (by kernel_rfl) (by kernel_rfl) (by kernel_rfl) (by kernel_rfl) (by kernel_rfl) (by kernel_rfl) hL.tail.tail.tail.tail.tail.tail.tail;rw [ascZ] at h1;exact h1
theorem powD_of {W : World} (hL : laidMet Tryz.prog laidD W) : Pow W := by
 have h1 := Lib.tabIs_of_head (k := .u64) (zs := litsZv Rows.laid_internal_strconv_uint64pow10) (g := 5) (name := "internal/strconv.uint64pow10") (P := Tryz.prog) (W := W) (n := 20) (t := 263) (e := 161) (by kernel_rfl) (by kernel_rfl) (by kernel_rfl) (by kernel_rfl) (by kernel_rfl) (by kernel_rfl) hL.tail.tail;rw [powZ] at h1;exact h1
end Go.Proofs.YtelpdjhkedhppaaGreatDoor
/- What the listed variables of the item laws hold. -/
namespace Go.Proofs.YtelpdjhkedhppaaGreatDoor
open Go.RowKit
def litZ : DataW Unit → Int
 | .lit (.int _ n) => n
 | _ => 0
def litsZ : DataW Unit → List Int
 | .agg ps => ps.map litZ
 | _ => []
theorem cell_of_var {W : World} {g : Nat} {name : String} {cs : Array Value} (hg : Tryz.prog.globalNamed name = some g) (h : W.var? Tryz.prog name = some cs) (i : Nat) : W.cell? ⟨g, i, none⟩ = cs[i]? := by
 unfold World.var? at h;rw [hg] at h;simp only [Option.bind_some] at h
 split at h
 ·rename_i hh
  injection h with h
  subst h;exact cell_of_row W g i _ _ _ hh
 ·cases h
theorem star : "*" ++ "errors.errorString" = "*errors.errorString" := by decide
theorem rowErr (u : TypeId) (h : Tryz.prog.typeName? 3 u = some "*errors.errorString") : u = 290 :=
 typeName_ptr_named (nm := "errors.errorString") (by rw [star]; kernel_rfl) (by kernel_rfl) (by decide) u (by rw [star]; exact h)
theorem dFirst : Rows.laid_unicode_utf8_first = Lib.firstData := by kernel_rfl
theorem dAccept : (Rows.laid_unicode_utf8_acceptRanges : DataW Unit) = Lib.acceptData := by kernel_rfl
theorem mln_of {W : World} (h : W.ShapedOpen Tryz.prog) : Mln W := Tryz.laysM144.s1_3 W h
end Go.Proofs.YtelpdjhkedhppaaGreatDoor
/- What the listed variables of the texts of items hold. -/
namespace Go.Proofs.YtelpdjhkedhppaaGreatDoor
open Go.RowKit
theorem debT_of {W : World} (hL : laidMet Tryz.prog laidD W) : Deb W := by
 have h1 := Lib.tabIs_of_head (k := .u8) (zs := litsZ Rows.laid_math_bits_deBruijn64tab) (g := 9) (name := "math/bits.deBruijn64tab") (P := Tryz.prog) (W := W) (n := 64) (t := 298) (e := 5) (by kernel_rfl) (by kernel_rfl) (by kernel_rfl) (by kernel_rfl) (by kernel_rfl) (by kernel_rfl) hL.tail;exact (cell_of_var (by kernel_rfl) h1 15).trans (by kernel_rfl)
theorem errT_of {W : World} (hL : laidMet Tryz.prog laidD W) : ErrS W := by
 obtain ⟨a, s, hv, _⟩ := laid_sentinel (g := 6) hL.tail.tail.tail.tail.tail (by kernel_rfl) (by kernel_rfl) Tryz.underlying84 rowErr Tryz.underlying290 Tryz.underlying292 rfl rfl Tryz.underlying9 (by kernel_rfl) (by kernel_rfl);exact ⟨_, _, (cell_of_var (by kernel_rfl) hv 0).trans rfl⟩
theorem utfT_of {W : World} (hL : laidMet Tryz.prog laidD W) : Utf W :=
 utf8Tabs_of_readsT (ρ := Tryz.lays196_ren) (U8Types.of196 Tryz.lays196) ⟨by kernel_rfl, by kernel_rfl, by kernel_rfl, by kernel_rfl, by kernel_rfl, by kernel_rfl, by kernel_rfl⟩
  (dFirst ▸ Lib.laidMet.reads hL (by simp [laidD])) (dAccept ▸ Lib.laidMet.reads hL (by simp [laidD]))
theorem envT_of {W : World} (hL : laidMet Tryz.prog laidD W) (h : W.ShapedOpen Tryz.prog) : Env W := ⟨utfT_of hL, mln_of h⟩
end Go.Proofs.YtelpdjhkedhppaaGreatDoor
