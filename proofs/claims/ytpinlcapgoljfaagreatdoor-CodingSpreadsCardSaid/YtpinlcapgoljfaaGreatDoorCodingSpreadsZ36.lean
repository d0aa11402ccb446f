/- Texts of the proof of CodingSpreads, put together: LayK, DecF, CodW, LayVal, LayCon, VisA, TxtR, ItmE, LayBld, LayB2, QuoA, QuoB, DigA, DigB, ItmS, ItmF, ItmG, FamD, WhoP, WhoT, PlcA, PlcB, SprP, SprA, FamQ, FamO, EqS, SamF, WhoR. -/
import Derived.Test.YtpinlcapgoljfaaGreatDoorCodingSpreadsZ7
import Derived.Test.YtpinlcapgoljfaaGreatDoorCodingSpreadsZ8
import Derived.Test.YtpinlcapgoljfaaGreatDoorCodingSpreadsZ9
import Derived.Test.YtpinlcapgoljfaaGreatDoorCodingSpreadsZ10
import Derived.Test.YtpinlcapgoljfaaGreatDoorCodingSpreadsZ11
import Derived.Test.YtpinlcapgoljfaaGreatDoorCodingSpreadsZ12
import Derived.Test.YtpinlcapgoljfaaGreatDoorCodingSpreadsZ15
import Derived.Test.YtpinlcapgoljfaaGreatDoorCodingSpreadsZ19
import Derived.Test.YtpinlcapgoljfaaGreatDoorCodingSpreadsZ20
import Derived.Test.YtpinlcapgoljfaaGreatDoorCodingSpreadsZ22
import Derived.Test.YtpinlcapgoljfaaGreatDoorCodingSpreadsZ23
import Derived.Test.YtpinlcapgoljfaaGreatDoorCodingSpreadsZ27
import Derived.Test.YtpinlcapgoljfaaGreatDoorCodingSpreadsZ28
import Derived.Test.YtpinlcapgoljfaaGreatDoorCodingSpreadsZ34
import Derived.Test.YtpinlcapgoljfaaGreatDoorCodingSpreadsZ35
import Derived.Ground.NamesProg
import Derived.Shelf.SlGeneric
import Derived.Shelf.Small.Bits
import Derived.Test.YtpinlcapgoljfaaGreatDoorProg
import Derived.Shelf.SlicesE.Clone
import Derived.Shelf.Unicode.ValidAny
import Derived.Shelf.Strings.Search3
import Derived.Shelf.Strings.Prefix
import Derived.Shelf.Strings.BuilderK
import Derived.Shelf.Strings.Repeat
import Derived.Deep.DeepCutAuto
import Derived.Deep.AppendLies
import Derived.Lib.AppendStr
import Derived.Laws.IdiomStrings
import Derived.Sort.Walk0
import Derived.Deep.CutBlock
set_option linter.unusedVariables false
set_option linter.unusedSimpArgs false
/-
 DERIVED: THE SHELF's CONTRACTS AT THIS DUMP, IN PLAIN WORDS (tools/lay-plain.mjs out of 'YtpinlcapgoljfaaGreatDoorLayK.lean', which tools/lay-shelf.mjs wrote): THE SAME DECLARATIONS UNDER THE SAME NAMES: 'import', 'namespace', 'open', 'def', 'theorem' AND NOTHING ELSE: no command of the shelf's: FOR A HAND-IN. Each laying: the table of numbers ('.._ren') and one theorem, a field a fact of the dump's own or the kernel's comparison; each contract: ONE APPLICATION.
-/
namespace Go.Proofs
open Go.Shelf
end Go.Proofs

/- Decide of the program, DecideOf of the reference; clones of decisions. -/
namespace Go.Proofs.YtpinlcapgoljfaaGreatDoor
open Go.RowKit Go.Sort Go.Shelf

theorem likesD.app {xs ys zs us : List DecR} (h : likesD xs ys) (k : likesD zs us) : likesD (xs ++ zs) (ys ++ us) := by
 unfold likesD at h k ⊢;rw [List.map_append, List.map_append, h, k]
end Go.Proofs.YtpinlcapgoljfaaGreatDoor

/- Codings in memory; sameCoding of the law, slices.EqualFunc of codings. -/
namespace Go.Proofs.YtpinlcapgoljfaaGreatDoor
open Go.RowKit

def cdC (x : CodR) : List Value := [.string ⟨x.item.toArray⟩, .slice x.A x.vals.length x.c]
def cdV (xs : List CodR) : List Value := xs.flatMap cdC
theorem cdV_len : ∀ xs : List CodR, (cdV xs).length = xs.length * 2
 | [] => rfl
 | x :: t => by
  show (cdC x ++ cdV t).length = _
  rw [List.length_append, cdV_len t];simp [cdC]; omega
theorem cdV_get : ∀ (xs : List CodR) (i : Nat) (h : i < xs.length), (cdV xs)[i * 2]? = some (.string ⟨xs[i].item.toArray⟩) ∧ (cdV xs)[i * 2 + 1]? = some (.slice xs[i].A xs[i].vals.length xs[i].c)
 | x :: t, 0, _ => ⟨rfl, rfl⟩
 | x :: t, i + 1, h => by
  have ih := cdV_get t i (by simpa using h);have e : cdV (x :: t) = cdC x ++ cdV t := rfl
  have hs : ∀ j, (cdV (x :: t))[(i + 1) * 2 + j]? = (cdV t)[i * 2 + j]? := fun j => by
   rw [e, List.getElem?_append_right (by simp [cdC]; omega)]
   congr 1
   simp [cdC]; omega
  exact ⟨(hs 0).trans ih.1, (hs 1).trans ih.2⟩
theorem cdV_snoc (xs : List CodR) (p : CodR) : cdV (xs ++ [p]) = cdV xs ++ cdC p := by simp [cdV]
def CodS (W : World) (xs : List CodR) : Prop := ∀ x ∈ xs, Vals W (.slice x.A x.vals.length x.c) x.vals
def Cods (W : World) (v : Value) (xs : List CodR) : Prop := Sl W 76 2 v (cdV xs) ∧ CodS W xs
def CodEl (W : World) (x : CodR) : Prop := Vals W (.slice x.A x.vals.length x.c) x.vals
theorem CodEl.pure {x : CodR} {w w' : World} (h : CodEl w x) (hm : Pure w w') : CodEl w' x := Vals.pure h hm
theorem CodS.pure {xs : List CodR} {w w' : World} (h : CodS w xs) (hm : Pure w w') : CodS w' xs := fun x hx => (h x hx).pure hm
theorem Cods.pure {xs : List CodR} {w w' : World} {v : Value} (h : Cods w v xs) (hm : Pure w w') : Cods w' v xs := ⟨h.1.pure hm, h.2.pure hm⟩
theorem Cods.el {w : World} {v : Value} {xs : List CodR} (h : Cods w v xs) {k : Nat} (hk : k < xs.length) : CodEl w xs[k] := h.2 _ (List.getElem_mem hk)
theorem Cods.len {w : World} {A : Option Addr} {n c : Nat} {xs : List CodR} (h : Cods w (.slice A n c) xs) : xs.length = n := by
 obtain ⟨⟨A', n', c', e, _, _, hl, _⟩, _⟩ := h
 injection e with _ e2 _
 rw [cdV_len] at hl
 omega
theorem Cods.cells {w : World} {A : Option Addr} {n c : Nat} {xs : List CodR} (h : Cods w (.slice A n c) xs) {k : Nat} (hk : k < xs.length) : ∃ g off, A = some ⟨g, off, none⟩ ∧ w.cell? ⟨g, off + k * 2, none⟩ = some (.string ⟨xs[k].item.toArray⟩) ∧
  w.cell? ⟨g, off + k * 2 + 1, none⟩ = some (.slice xs[k].A xs[k].vals.length xs[k].c) := by
 have hl := h.len;obtain ⟨⟨A', n', c', e, _, _, _, hr⟩, _⟩ := h
 injection e with e1 e2 e3
 subst e1 e2;obtain ⟨g, off, rfl, hrow⟩ := hr (by omega);obtain ⟨h0, h1⟩ := cdV_get xs k hk;refine ⟨g, off, rfl, hrow.cell h0, ?_⟩;have := hrow.cell h1; rwa [← Nat.add_assoc] at this
def codEq (x y : CodR) : Bool := decide (x.item = y.item) && eqL choEq x.vals y.vals
theorem codEq_key (x y : CodR) : codEq x y = true ↔ x.key = y.key := by
 unfold codEq CodR.key;simp only [Bool.and_eq_true, decide_eq_true_eq, likes_iff, Prod.mk.injEq]
 rfl
theorem likesC_iff {xs ys : List CodR} : eqL codEq xs ys = true ↔ likesC xs ys := eqL_map codEq_key

set_option maxRecDepth 100000 in
set_option maxHeartbeats 2000000 in
theorem sameCoding_calls (w : World) (x y : CodR) (hx : CodEl w x) (hy : CodEl w y) : Calls Tryz.prog 35 #[.agg #[.string ⟨x.item.toArray⟩, .slice x.A x.vals.length x.c], .agg #[.string ⟨y.item.toArray⟩, .slice y.A y.vals.length y.c]] w (BoolPost w (codEq x y)) := by
 obtain ⟨xi, xA, xc, xs⟩ := x;obtain ⟨yi, yA, yc, ys⟩ := y;simp only;have hp : Pure w ((w.alloc (.cells #[.string ⟨xi.toArray⟩, .slice xA xs.length xc] 76)).alloc (.cells #[.string ⟨yi.toArray⟩, .slice yA ys.length yc] 76)) := (pure_alloc _ _).trans (pure_alloc _ _);have HP := Lib.hid hp;have HE := Lib.hid (sameValues_calls _ _ _ xs ys (Vals.pure hx hp) (Vals.pure hy hp));have HQ : Hid (codEq ⟨xi, xA, xc, xs⟩ ⟨yi, yA, yc, ys⟩ = (decide (xi = yi) && eqL choEq xs ys)) := Lib.hid rfl;clear hp hx hy;generalize codEq ⟨xi, xA, xc, xs⟩ ⟨yi, yA, yc, ys⟩ = q at *;generalize eqL choEq xs ys = fc at *
 by_cases hf : xi = yi
 ·subst hf
  have t1 : (xi == xi) = true := by simp
  have HQ2 : Hid (q = fc) := Lib.hid (by rw [HQ.out]; simp);clear HQ
  go_enter Tryz.func35, Tryz.ntmps35
  go_wp2_with fail
  refine HE.out.mono ?_;rintro e w1 ⟨rfl, m1⟩
  go_wp2_with fail
  go_ret;exact BoolPost.of HQ2.out (HP.out.trans m1)
 ·have t1 : (xi == yi) = false := by simpa using hf
  have HQ2 : Hid (q = false) := Lib.hid (by rw [HQ.out]; simp [hf]);clear HQ hf HE
  go_enter Tryz.func35, Tryz.ntmps35
  go_wp2_with fail
  go_ret;exact BoolPost.of HQ2.out HP.out

set_option maxRecDepth 100000 in
set_option maxHeartbeats 2000000 in
theorem equalCod_calls (w : World) (v1 v2 : Value) (xs ys : List CodR) (h1 : Cods w v1 xs) (h2 : Cods w v2 ys) :
  Calls Tryz.prog 33 #[v1, v2, .func (.func 35) #[] #[]] w (BoolPost w (eqL codEq xs ys)) := by
 obtain ⟨A1, n1, c1, rfl⟩ := h1.1.form;obtain ⟨A2, n2, c2, rfl⟩ := h2.1.form
 have hb : n1 ≤ 9223372036854775807 := by have := Sl.capL h1.1; omega
 have hn1 := h1.len;have hn2 := h2.len;subst hn1 hn2;have H1 := Lib.hid h1;have H2 := Lib.hid h2;have hcf : ∀ (x y : Value) (W : World), Sem.run Tryz.prog (callFunc 35 #[x, y]) W = .ok (.enter 35 #[x, y]) W := fun _ _ _ => rfl;clear h1 h2
 by_cases hlen : xs.length = ys.length
 ·have HLN := Lib.hid hlen;have hlx := Nat.le_of_eq hlen;have hly := Nat.le_of_eq hlen.symm
  have hne : ((xs.length : Int) != (ys.length : Int)) = false := by rw [hlen]; simp
  clear hlen
  go_enter Tryz.func33, Tryz.ntmps33
  go_wp2_with fail
  go_loopg [17] xs.length (fun gk i wr => ∃ k : Nat, xs.length - k = gk ∧ k ≤ xs.length ∧ i = .int .i64 (k : Int) ∧ Hid (eqL codEq (xs.drop k) (ys.drop k) = eqL codEq xs ys) ∧ Pure w wr)
  case atStart => exact ⟨0, by omega, by omega, rfl, Lib.hid rfl, Mod.refl _ _⟩
  case round =>
   obtain ⟨k, rfl, hk, rfl, HT, hm⟩ := hrel
   by_cases hlt : k < xs.length
   ·have hky : k < ys.length := by omega
    obtain ⟨g1, o1, rfl, q0, q1⟩ := Cods.cells (H1.out.pure hm) hlt;obtain ⟨g2, o2, rfl, p0, p1⟩ := Cods.cells (H2.out.pure hm) hky;have s1 := Cods.el (H1.out.pure hm) hlt;have s2 := Cods.el (H2.out.pure hm) hky;have HS0 := Lib.hid (eqL_step codEq hlt hky);have HC := Lib.hid (fun W (h : Pure wr W) => sameCoding_calls W xs[k] ys[k] (CodEl.pure s1 h) (CodEl.pure s2 h));clear s1 s2;generalize xs[k] = x at *;generalize ys[k] = y at *;have r0 := cell_alloc p0 (.cells #[.string ⟨x.item.toArray⟩, .slice x.A x.vals.length x.c] 76);have r1 := cell_alloc p1 (.cells #[.string ⟨x.item.toArray⟩, .slice x.A x.vals.length x.c] 76);have HP : Hid (Pure wr ((wr.alloc (.cells #[.string ⟨x.item.toArray⟩, .slice x.A x.vals.length x.c] 76)).alloc (.cells #[.string ⟨y.item.toArray⟩, .slice y.A y.vals.length y.c] 76))) := Lib.hid ((pure_alloc _ _).trans (pure_alloc _ _));have HM := Lib.hid (hm.trans HP.out);have HC2 := Lib.hid (HC.out _ HP.out);have HNX := Lib.hid (HT.out.symm.trans HS0.out)
    have i1 : (0 : Int) ≤ (k : Int) := by omega
    have i2 : (k : Int) < (xs.length : Int) := by omega
    have i3 : (k : Int) < (ys.length : Int) := by omega
    clear hm HT HS0 HC p0 p1;generalize codEq x y = fb at *
    go_wp2_with fail
    refine HC2.out.mono ?_;rintro e w1 ⟨rfl, hm1⟩
    cases fb
    ·have HZ := HNX.out;rw [Bool.false_and] at HZ;have HZ2 := Lib.hid HZ;clear HNX HZ
     go_wp2_with fail
     go_ret;exact BoolPost.of HZ2.out (HM.out.trans hm1)
    ·have HZ := HNX.out;rw [Bool.true_and] at HZ;have HZ2 := Lib.hid HZ;clear HNX HZ
     go_wp2_with fail
     go_roundg (xs.length - (k + 1))
     case measure => omega
     case rel => exact ⟨k + 1, rfl, by omega, by simp, Lib.hid HZ2.out.symm, HM.out.trans hm1⟩
   ·have HZ : Hid (eqL codEq xs ys = true) := Lib.hid (by
     rw [← HT.out, List.drop_of_length_le (by omega), List.drop_of_length_le (by have := HLN.out; omega)]; rfl)
    have hke : k = xs.length := by omega
    subst hke;clear HT
    go_wp2_with fail
    go_ret;exact BoolPost.of HZ.out hm
 ·have HZ : Hid (eqL codEq xs ys = false) := Lib.hid (eqL_len codEq hlen)
  have hne : ((xs.length : Int) != (ys.length : Int)) = true := by rw [bne_iff_ne]; omega
  clear hlen
  go_enter Tryz.func33, Tryz.ntmps33
  go_wp2_with fail
  go_ret;exact BoolPost.of HZ.out (Mod.refl _ _)

theorem info_cod : (Tryz.prog.info? 76).map (fun i => (i.zero, i.size, i.bytes)) = some (some (.agg #[.string ⟨#[]⟩, .slice none 0 0]), 2, 40) := by kernel_rfl
theorem CodS.mod {w w' : World} {S : Nat → Prop} {xs : List CodR} (h : CodS w xs) (hm : Mod S w w') (h1 : ∀ g arr fr, w.heap[g]? = some (.cells arr 125 fr) → ¬ S g) (h2 : ∀ g arr fr, w.heap[g]? = some (.cells arr 9 fr) → ¬ S g) : CodS w' xs := fun x hx => (h x hx).mod hm h1 h2
theorem CodS.snoc {w : World} {xs : List CodR} {x : CodR} (h : CodS w xs) (hx : Vals w (.slice x.A x.vals.length x.c) x.vals) : CodS w (xs ++ [x]) := fun y hy => by
 rcases List.mem_append.1 hy with hy | hy
 ·exact h y hy
 ·rw [List.mem_singleton.1 hy]; exact hx
/-- Own codings. -/
def CdOk (w : World) (base : Nat) (A : Option Addr) (c : Nat) (xs ys : List CodR) : Prop := w.ownsRow base 76 2 (.slice A xs.length c) xs.length (cdV xs) ∧ CodS w xs ∧ likesC xs ys
theorem CdOk.pure {w w' : World} {base c : Nat} {A : Option Addr} {xs ys : List CodR} (h : CdOk w base A c xs ys) (hm : Pure w w') : CdOk w' base A c xs ys := ⟨own_pure h.1 hm, h.2.1.pure hm, h.2.2⟩
theorem CdOk.cods {w : World} {base c : Nat} {A : Option Addr} {xs ys : List CodR} (h : CdOk w base A c xs ys) : Cods w (.slice A xs.length c) xs := ⟨Sl.of_own h.1, h.2.1⟩
theorem CdOk.app {w w' : World} {base n' c c5 : Nat} {A A5 : Option Addr} {xs ys : List CodR} {x y : CodR} (h : CdOk w base A c xs ys) (hx : Vals w (.slice x.A x.vals.length x.c) x.vals) (hxy : x.key = y.key) (hm : Mod (fun j => (Value.slice A xs.length c).ownBlock = some j) w w') (hn : n' = xs.length + 1)
  (hown : w'.ownsRow base 76 2 (.slice A5 n' c5) n' (cdV xs ++ cdC x)) : CdOk w' base A5 c5 (xs ++ [x]) (ys ++ [y]) := by
 have hty1 : ∀ i arr fr, w.heap[i]? = some (.cells arr 125 fr) → ¬ (Value.slice A xs.length c).ownBlock = some i := fun i arr fr hi hv => absurd (own_ty h.1 hv hi) (by decide);have hty2 : ∀ i arr fr, w.heap[i]? = some (.cells arr 9 fr) → ¬ (Value.slice A xs.length c).ownBlock = some i := fun i arr fr hi hv => absurd (own_ty h.1 hv hi) (by decide);subst hn;exact ⟨by simpa [cdV_snoc] using hown, CodS.snoc (h.2.1.mod hm hty1 hty2) (hx.mod hm hty1 hty2), h.2.2.snoc hxy⟩

end Go.Proofs.YtpinlcapgoljfaaGreatDoor

/-
 DERIVED: THE SHELF's CONTRACTS AT THIS DUMP, IN PLAIN WORDS (tools/lay-plain.mjs out of 'YtpinlcapgoljfaaGreatDoorLayVal.lean', which tools/lay-shelf.mjs wrote): THE SAME DECLARATIONS UNDER THE SAME NAMES: 'import', 'namespace', 'open', 'def', 'theorem' AND NOTHING ELSE: no command of the shelf's: FOR A HAND-IN. Each laying: the table of numbers ('.._ren') and one theorem, a field a fact of the dump's own or the kernel's comparison; each contract: ONE APPLICATION.
-/
namespace Go.Proofs
open Go.Shelf
def Tryz.lays196_ren : Go.Shelf.Ren := ⟨fun | 196 => 142 | 259 => 175 | n => n, fun | 9 => 9 | 4 => 4 | 3 => 3 | 5 => 5 | 12 => 12 | 119 => 226 | 0 => 0 | 46 => 175 | 139 => 229 | 138 => 228 | 53 => 196 | n => n, fun | 3 => 0 | 4 => 1 | n => n⟩
theorem Tryz.lays196 : Go.Proofs.Lays.n196 Tryz.prog Tryz.lays196_ren := {
 mixed := by kernel_rfl
 f196 := Tryz.func142.trans (congrArg some (by kernel_rfl))
 f259 := Tryz.func175.trans (congrArg some (by kernel_rfl))
 t0 := Tryz.underlying0
 a0 := Tryz.isAgg0
 z0 := Tryz.sizeOf0
 v0 := Tryz.zeroValue0
 t3 := Tryz.underlying3
 a3 := Tryz.isAgg3
 z3 := Tryz.sizeOf3
 v3 := Tryz.zeroValue3
 t4 := Tryz.underlying4
 a4 := Tryz.isAgg4
 z4 := Tryz.sizeOf4
 v4 := Tryz.zeroValue4
 t5 := Tryz.underlying5
 a5 := Tryz.isAgg5
 z5 := Tryz.sizeOf5
 v5 := Tryz.zeroValue5
 t9 := Tryz.underlying9
 a9 := Tryz.isAgg9
 z9 := Tryz.sizeOf9
 v9 := Tryz.zeroValue9
 t12 := Tryz.underlying12
 a12 := Tryz.isAgg12
 z12 := Tryz.sizeOf12
 v12 := Tryz.zeroValue12
 t46 := Tryz.underlying175
 a46 := Tryz.isAgg175
 z46 := Tryz.sizeOf175
 v46 := Tryz.zeroValue175
 t53 := Tryz.underlying196
 a53 := Tryz.isAgg196
 z53 := Tryz.sizeOf196
 v53 := Tryz.zeroValue196
 t119 := Tryz.underlying226
 a119 := Tryz.isAgg226
 z119 := Tryz.sizeOf226
 t138 := Tryz.underlying228
 a138 := Tryz.isAgg228
 z138 := Tryz.sizeOf228
 v138 := Tryz.zeroValue228
 t139 := Tryz.underlying229
 a139 := Tryz.isAgg229
 z139 := Tryz.sizeOf229
 v139 := Tryz.zeroValue229
 g3 := by kernel_rfl
 g4 := by kernel_rfl }
end Go.Proofs

/-
 DERIVED: THE SHELF's CONTRACTS AT THIS DUMP, IN PLAIN WORDS (tools/lay-plain.mjs out of 'YtpinlcapgoljfaaGreatDoorLayCon.lean', which tools/lay-shelf.mjs wrote): THE SAME DECLARATIONS UNDER THE SAME NAMES: 'import', 'namespace', 'open', 'def', 'theorem' AND NOTHING ELSE: no command of the shelf's: FOR A HAND-IN. Each laying: the table of numbers ('.._ren') and one theorem, a field a fact of the dump's own or the kernel's comparison; each contract: ONE APPLICATION.
-/
namespace Go.Proofs
open Go.Shelf
def Tryz.lays144_ren : Go.Shelf.Ren := ⟨fun | 144 => 143 | 143 => 176 | 219 => 196 | 217 => 208 | 225 => 209 | 224 => 210 | 267 => 211 | 266 => 220 | 314 => 221 | n => n, fun | 9 => 9 | 4 => 4 | 3 => 3 | 5 => 5 | 46 => 175 | 146 => 199 | 51 => 198 | n => n, fun | 1 => 3 | n => n⟩
theorem Tryz.lays144 : Go.Proofs.Lays.n144 Tryz.prog Tryz.lays144_ren := {
 mixed := by kernel_rfl
 f143 := Tryz.func176.trans (congrArg some (by kernel_rfl))
 f144 := Tryz.func143.trans (congrArg some (by kernel_rfl))
 f217 := Tryz.func208.trans (congrArg some (by kernel_rfl))
 f219 := Tryz.func196.trans (congrArg some (by kernel_rfl))
 f224 := Tryz.func210.trans (congrArg some (by kernel_rfl))
 f225 := Tryz.func209.trans (congrArg some (by kernel_rfl))
 f266 := Tryz.func220.trans (congrArg some (by kernel_rfl))
 f267 := Tryz.func211.trans (congrArg some (by kernel_rfl))
 f314 := Tryz.func221.trans (congrArg some (by kernel_rfl))
 t3 := Tryz.underlying3
 a3 := Tryz.isAgg3
 z3 := Tryz.sizeOf3
 v3 := Tryz.zeroValue3
 t4 := Tryz.underlying4
 a4 := Tryz.isAgg4
 z4 := Tryz.sizeOf4
 v4 := Tryz.zeroValue4
 t5 := Tryz.underlying5
 a5 := Tryz.isAgg5
 z5 := Tryz.sizeOf5
 v5 := Tryz.zeroValue5
 t9 := Tryz.underlying9
 a9 := Tryz.isAgg9
 z9 := Tryz.sizeOf9
 v9 := Tryz.zeroValue9
 t46 := Tryz.underlying175
 a46 := Tryz.isAgg175
 z46 := Tryz.sizeOf175
 v46 := Tryz.zeroValue175
 t51 := Tryz.underlying198
 a51 := Tryz.isAgg198
 z51 := Tryz.sizeOf198
 v51 := Tryz.zeroValue198
 t146 := Tryz.underlying199
 a146 := Tryz.isAgg199
 z146 := Tryz.sizeOf199
 v146 := Tryz.zeroValue199
 g1 := by kernel_rfl }
def Tryz.lays100_ren : Go.Shelf.Ren := ⟨fun | 100 => 173 | 207 => 194 | n => n, fun | 9 => 9 | 4 => 4 | 3 => 3 | n => n, fun | n => n⟩
theorem Tryz.lays100 : Go.Proofs.Lays.n100 Tryz.prog Tryz.lays100_ren := {
 mixed := by kernel_rfl
 f100 := Tryz.func173.trans (congrArg some (by kernel_rfl))
 f207 := Tryz.func194.trans (congrArg some (by kernel_rfl))
 t3 := Tryz.underlying3
 a3 := Tryz.isAgg3
 z3 := Tryz.sizeOf3
 v3 := Tryz.zeroValue3
 t4 := Tryz.underlying4
 a4 := Tryz.isAgg4
 z4 := Tryz.sizeOf4
 v4 := Tryz.zeroValue4
 t9 := Tryz.underlying9
 a9 := Tryz.isAgg9
 z9 := Tryz.sizeOf9
 v9 := Tryz.zeroValue9 }
def Tryz.layc99_ren : Go.Shelf.Ren := ⟨fun | 99 => 124 | 206 => 147 | n => n, fun | 9 => 9 | 4 => 4 | 3 => 3 | n => n, fun | n => n⟩
theorem Tryz.layc99 : Go.Proofs.Lays.n99 Tryz.prog Tryz.layc99_ren := {
 mixed := by kernel_rfl
 f99 := Tryz.func124.trans (congrArg some (by kernel_rfl))
 f206 := Tryz.func147.trans (congrArg some (by kernel_rfl))
 t3 := Tryz.underlying3
 a3 := Tryz.isAgg3
 z3 := Tryz.sizeOf3
 v3 := Tryz.zeroValue3
 t4 := Tryz.underlying4
 a4 := Tryz.isAgg4
 z4 := Tryz.sizeOf4
 v4 := Tryz.zeroValue4
 t9 := Tryz.underlying9
 a9 := Tryz.isAgg9
 z9 := Tryz.sizeOf9
 v9 := Tryz.zeroValue9 }
end Go.Proofs

/- Strings of items: what the program and the reference say of them. -/
namespace Go.Proofs.YtpinlcapgoljfaaGreatDoor
open Go.RowKit

/-- The tables of UTF-8. -/
def Utf (w : World) : Prop := Lib.Utf8Tabs 0 1 w
/-- The library's variable MaxLen holds some number. -/
def Mln (w : World) : Prop := ∃ m : Int, w.cell? ⟨3, 0, none⟩ = some (.int .i64 m)
def Env (w : World) : Prop := Utf w ∧ Mln w
theorem Utf.pure {w w' : World} (h : Utf w) (hm : Pure w w') : Utf w' := Utf8Tabs_below h hm.below
theorem Mln.pure {w w' : World} (h : Mln w) (hm : Pure w w') : Mln w' := by
 obtain ⟨m, h⟩ := h;exact ⟨m, hm.keep h id⟩
theorem Env.pure {w w' : World} (h : Env w) (hm : Pure w w') : Env w' := ⟨h.1.pure hm, h.2.pure hm⟩
theorem Env.alloc {w : World} (h : Env w) (o : Obj) : Env (w.alloc o) := h.pure ((Mod.refl _ _).alloc o)
theorem Pure.same (w : World) : Pure w w := Mod.refl _ _

theorem valid_calls (w : World) (s : ByteArray) (hs : s.size ≤ 1000000) (hU : Utf w) : Calls Tryz.prog 142 #[.string s] w (BoolPost w (Lib.validD s.data.toList)) := by
 refine (Any.utf8_ValidString Tryz.lays196 s w (by omega) hU).mono ?_;rintro e w' ⟨rfl, h⟩;exact ⟨rfl, Mod.of_below h⟩
theorem contains_calls (w : World) (s t : ByteArray) (hs : s.size ≤ 1000000) (hM : Mln w) : Calls Tryz.prog 143 #[.string s, .string t] w (BoolSame w (Lib.contains s.data.toList t.data.toList)) := by
 obtain ⟨m, hm⟩ := hM;refine (Any.strings_Contains Tryz.lays144 s t m w (by omega) hm).mono ?_;rintro e w' ⟨rfl, h⟩;exact ⟨rfl, h.symm⟩
theorem suffix_calls (w : World) (s t : ByteArray) (hs : s.size ≤ 1000000) : Calls Tryz.prog 173 #[.string s, .string t] w (BoolSame w (Lib.hasSuffix s.data.toList t.data.toList)) := by
 refine (Any.strings_HasSuffix Tryz.lays100 s t w (by omega)).mono ?_;rintro e w' ⟨rfl, h⟩;exact ⟨rfl, h.symm⟩
theorem pfx_calls (w : World) (s t : ByteArray) : Calls Tryz.prog 124 #[.string s, .string t] w (BoolSame w (Lib.hasPrefix s.data.toList t.data.toList)) := by
 refine (Any.strings_HasPrefix Tryz.layc99 s t w).mono ?_;rintro e w' ⟨rfl, h⟩;exact ⟨rfl, h.symm⟩
theorem visB_false (f : Bool) (l : Str) (k : Nat) (h : k < l.length) (hk : visC f l[k].toNat = false) : visB f l = false := by
 unfold visB;rw [List.all_eq_false];exact ⟨l[k], List.getElem_mem h, by simp [hk]⟩

set_option maxRecDepth 100000 in
set_option maxHeartbeats 2000000 in
theorem visible_calls (w : World) (s : ByteArray) (f : Bool) (hs : s.size ≤ 1000000) (hU : Utf w) : Calls Tryz.prog 172 #[.string s, .bool f] w (BoolPost w (visB f s.data.toList && Lib.validD s.data.toList)) := by
 have hls : s.data.toList.length = s.size := by simp
 have HLS := Lib.hid hls;have HV := Lib.hid (valid_calls w s hs hU);clear hls hU
 go_enter Tryz.func172, Tryz.ntmps172
 go_wp2_with fail
 go_loopg [9] s.size (fun gk i wr => ∃ k : Nat, s.size - k = gk ∧ k ≤ s.size ∧ i = .int .i64 (k : Int) ∧ visB f (s.data.toList.take k) = true ∧ w = wr)
 case atStart => exact ⟨0, by omega, by omega, rfl, rfl, rfl⟩
 case round =>
  obtain ⟨k, rfl, hk, rfl, hall, rfl⟩ := hrel;have HA := Lib.hid hall;clear hall
  by_cases hlt : k < s.size
  ·have hl : k < s.data.toList.length := by rw [HLS.out]; exact hlt
   have hsn := visB_snoc f s.data.toList k hl;have hfa := visB_false f s.data.toList k hl
   have hidx : s.data.toList[k] = s[k] := by simp; rfl
   rw [hidx] at hsn hfa;have NO : Hid (visC f s[k].toNat = false → (visB f s.data.toList && Lib.validD s.data.toList) = false) := Lib.hid (fun h => by rw [hfa h]; rfl);have OK : Hid (visC f s[k].toNat = true → visB f (s.data.toList.take (k + 1)) = true) := Lib.hid (fun h => by rw [hsn, HA.out, h]; rfl);clear hsn hfa hidx HV;generalize (visB f s.data.toList && Lib.validD s.data.toList) = ans at *;generalize hc : s[k].toNat = c at *
   by_cases h1 : (c : Int) < 32
   ·have h3 : ((c : Int) == 127) = false := by simp; omega
    by_cases h2 : c = 10
    ·subst h2
     cases f
     ·go_wp2_with fail
      go_ret;exact BoolPost.of (NO.out (by decide)) (Mod.refl _ _)
     ·go_wp2_with fail
      go_roundg (s.size - (k + 1))
      case measure => omega
      case rel => exact ⟨k + 1, rfl, hlt, by simp, OK.out (by decide), rfl⟩
    ·have h2' : ((c : Int) == 10) = false := by simp; omega
     have hx : visC f c = false := by
      unfold visC;rw [decide_eq_true (by omega : c < 32), show (c == 10) = false by simpa using h2];simp
     cases f
     all_goals
      go_wp2_with fail
      go_ret;exact BoolPost.of (NO.out hx) (Mod.refl _ _)
   ·by_cases h2 : c = 127
    ·subst h2
     have hx : visC f 127 = false := by cases f <;> decide
     go_wp2_with fail
     go_ret;exact BoolPost.of (NO.out hx) (Mod.refl _ _)
    ·have h2' : ((c : Int) == 127) = false := by simp; omega
     have hx : visC f c = true := by
      unfold visC;rw [decide_eq_false (by omega : ¬ c < 32), show (c == 127) = false by simpa using h2];simp
     go_wp2_with fail
     go_roundg (s.size - (k + 1))
     case measure => omega
     case rel => exact ⟨k + 1, rfl, hlt, by simp, OK.out hx, rfl⟩
  ·have hke : k = s.size := by omega
   subst hke
   have hall : visB f s.data.toList = true := by
    have := HA.out
    rwa [List.take_of_length_le (by rw [HLS.out]; omega)] at this
   go_wp2_with fail
   refine HV.out.mono ?_;rintro e w1 ⟨rfl, hm⟩;have HX : Hid ((visB f s.data.toList && Lib.validD s.data.toList) = Lib.validD s.data.toList) := Lib.hid (by rw [hall]; rfl);clear hall HV HA;generalize Lib.validD s.data.toList = v at *
   go_wp2_with fail
   go_ret;exact BoolPost.of HX.out hm

set_option maxRecDepth 100000 in
set_option maxHeartbeats 2000000 in
theorem plain_calls (w : World) (s : ByteArray) (hs : s.size ≤ 1000000) (hE : Env w) : Calls Tryz.prog 139 #[.string s] w (BoolPost w (plainB s.data.toList)) := by
 have HV := Lib.hid (visible_calls w s false hs hE.1);have HP := Lib.hid (fun W => pfx_calls W s ⟨#[32]⟩);have HS := Lib.hid (fun W => suffix_calls W s ⟨#[32]⟩ hs);have HC := Lib.hid (fun W (h : Pure w W) => contains_calls W s ⟨#[32, 32]⟩ hs (hE.2.pure h));have HX : Hid (plainB s.data.toList = (((visB false s.data.toList && Lib.validD s.data.toList) && !Lib.hasPrefix s.data.toList [32]) && !Lib.hasSuffix s.data.toList [32] && !Lib.contains s.data.toList [32, 32])) := Lib.hid (by unfold plainB; simp only [Bool.and_assoc]);clear hE
 go_enter Tryz.func139, Tryz.ntmps139
 go_wp2_with fail
 refine HV.out.mono ?_;rintro e w1 ⟨rfl, hm⟩;generalize (visB false s.data.toList && Lib.validD s.data.toList) = v at *
 cases v
 ·go_wp2_with fail
  go_ret;exact BoolPost.of (by rw [HX.out]; rfl) hm
 ·go_wp2_with fail
  refine (HP.out _).mono ?_;rintro e w' ⟨rfl, rfl⟩;generalize Lib.hasPrefix s.data.toList [32] = p at *
  cases p
  ·go_wp2_with fail
   refine (HS.out _).mono ?_;rintro e w' ⟨rfl, rfl⟩;generalize Lib.hasSuffix s.data.toList [32] = q at *
   cases q
   ·go_wp2_with fail
    refine (HC.out _ hm).mono ?_;rintro e w' ⟨rfl, rfl⟩;generalize Lib.contains s.data.toList [32, 32] = r at *
    go_wp2_with fail
    go_ret;exact BoolPost.of (by rw [HX.out]; rfl) hm
   ·go_wp2_with fail
    go_ret;exact BoolPost.of (by rw [HX.out]; rfl) hm
  ·go_wp2_with fail
   go_ret;exact BoolPost.of (by rw [HX.out]; rfl) hm

set_option maxRecDepth 100000 in
set_option maxHeartbeats 2000000 in
theorem text_calls (w : World) (l : Str) (hs : l.length ≤ 1000000) (hE : Env w) : Calls Tryz.prog 140 #[.string ⟨l.toArray⟩] w (BoolPost w (textB l)) := by
 have hsz : (⟨l.toArray⟩ : ByteArray).size ≤ 1000000 := by simpa [ByteArray.size] using hs
 have HV := Lib.hid (visible_calls w ⟨l.toArray⟩ true hsz hE.1);have HS := Lib.hid (fun W => suffix_calls W ⟨l.toArray⟩ ⟨#[10]⟩ hsz);have HX : Hid (textB l = ((visB true l && Lib.validD l) && (l.isEmpty || Lib.hasSuffix l [10]))) := Lib.hid (by unfold textB; simp only [Bool.and_assoc]);clear hE hsz
 go_enter Tryz.func140, Tryz.ntmps140
 go_wp2_with fail
 refine HV.out.mono ?_;rintro e w1 ⟨rfl, hm⟩;generalize (visB true l && Lib.validD l) = v at *
 cases v
 ·go_wp2_with fail
  go_ret;exact BoolPost.of (by rw [HX.out]; rfl) hm
 ·cases he : l.isEmpty
  ·go_wp2_with fail
   refine (HS.out _).mono ?_;rintro e w' ⟨rfl, rfl⟩;generalize Lib.hasSuffix l [10] = r at *
   go_wp2_with fail
   go_ret;exact BoolPost.of (by rw [HX.out, he]; rfl) hm
  ·go_wp2_with fail
   go_ret;exact BoolPost.of (by rw [HX.out, he]; rfl) hm

end Go.Proofs.YtpinlcapgoljfaaGreatDoor

/- Strings of items: what the reference says of them. -/
namespace Go.Proofs.YtpinlcapgoljfaaGreatDoor
open Go.RowKit

theorem trim32_calls (w : World) (l : Str) (hs : l.length ≤ 1000000) : Calls Tryz.prog 135 #[.string ⟨l.toArray⟩, .string ⟨#[32]⟩] w (fun e w' => e = .returned (.string ⟨(Lib.trimS l [32]).toArray⟩) ∧ Pure w w') := by
 have hsz : (⟨l.toArray⟩ : ByteArray).size ≤ 1000000 := by simpa [ByteArray.size] using hs
 have hcon := Any.strings_Trim_laid Tryz.lays160 (by kernel_rfl) ⟨l.toArray⟩ ⟨#[32]⟩ w (by omega) (by simp [ByteArray.size]) (ascii_of_all (by decide));refine hcon.mono ?_;rintro e w' ⟨rfl, h⟩;exact ⟨rfl, Mod.of_below h⟩

set_option maxRecDepth 100000 in
set_option maxHeartbeats 2000000 in
theorem rplain_calls (w : World) (l : Str) (hs : l.length ≤ 1000000) (hE : Env w) : Calls Tryz.prog 116 #[.string ⟨l.toArray⟩] w (BoolPost w (plainB l)) := by
 have hsz : (⟨l.toArray⟩ : ByteArray).size ≤ 1000000 := by simpa [ByteArray.size] using hs
 have HLS : Hid (l.length = (⟨l.toArray⟩ : ByteArray).size) := Lib.hid (by simp [ByteArray.size]);have HV := Lib.hid (valid_calls w ⟨l.toArray⟩ hsz hE.1);have HT := Lib.hid (fun W => trim32_calls W l hs);have HC := Lib.hid (fun W (h : Pure w W) => contains_calls W ⟨l.toArray⟩ ⟨#[32, 32]⟩ hsz (hE.2.pure h));have HTS := Lib.hid (trim_self l);have HX : Hid (plainB l = (visB false l && (Lib.validD l && (!Lib.hasPrefix l [32] && (!Lib.hasSuffix l [32] && !Lib.contains l [32, 32]))))) := Lib.hid rfl;clear hE hs;generalize hp : plainB l = pl at *;clear hp;obtain ⟨s, hsd⟩ : ∃ s : ByteArray, s = ⟨l.toArray⟩ := ⟨_, rfl⟩;have HSD := Lib.hid hsd;rw [← hsd] at hsz HLS HV HT HC ⊢;have HIX : Hid (∀ k (h : k < l.length) (h2 : k < s.size), l[k] = s[k]) := Lib.hid (fun k h h2 => by subst hsd; rfl);clear hsd
 go_enter Tryz.func116, Tryz.ntmps116
 go_wp2_with fail
 go_loopg [6] s.size (fun gk i wr => ∃ k : Nat, s.size - k = gk ∧ k ≤ s.size ∧ i = .int .i64 (k : Int) ∧ visB false (l.take k) = true ∧ w = wr)
 case atStart => exact ⟨0, by omega, by omega, rfl, rfl, rfl⟩
 case round =>
  obtain ⟨k, rfl, hk, rfl, hall, rfl⟩ := hrel;have HA := Lib.hid hall;clear hall
  by_cases hlt : k < s.size
  ·have hl : k < l.length := by rw [HLS.out]; exact hlt
   have hsn := visB_snoc false l k hl;have hfa := visB_false false l k hl;rw [HIX.out k hl hlt] at hsn hfa;have NO : Hid (visC false s[k].toNat = false → pl = false) := Lib.hid (fun h => by rw [HX.out, hfa h]; rfl);have OK : Hid (visC false s[k].toNat = true → visB false (l.take (k + 1)) = true) := Lib.hid (fun h => by rw [hsn, HA.out, h]; rfl);clear hsn hfa HX HA HV HT HC HTS HIX HSD;generalize hc : s[k].toNat = c at *
   by_cases h1 : (c : Int) < 32
   ·have hx : visC false c = false := by
     unfold visC;rw [decide_eq_true (by omega : c < 32)];simp
    go_wp2_with fail
    go_ret;exact BoolPost.of (NO.out hx) (Mod.refl _ _)
   ·by_cases h2 : c = 127
    ·subst h2
     go_wp2_with fail
     go_ret;exact BoolPost.of (NO.out (by decide)) (Mod.refl _ _)
    ·have h2' : ((c : Int) == 127) = false := by simp; omega
     have hx : visC false c = true := by
      unfold visC;rw [decide_eq_false (by omega : ¬ c < 32), show (c == 127) = false by simpa using h2];simp
     go_wp2_with fail
     go_roundg (s.size - (k + 1))
     case measure => omega
     case rel => exact ⟨k + 1, rfl, hlt, by simp, OK.out hx, rfl⟩
  ·have hke : k = s.size := by omega
   subst hke
   have hall : visB false l = true := by
    have := HA.out
    rwa [List.take_of_length_le (by rw [HLS.out]; omega)] at this
   have HX2 : Hid (pl = (Lib.validD l && (!Lib.hasPrefix l [32] && (!Lib.hasSuffix l [32] && !Lib.contains l [32, 32])))) := Lib.hid (by rw [HX.out, hall]; rfl);have HSL : Hid (s.data.toList = l) := Lib.hid (by rw [HSD.out]);rw [HSL.out] at HV HC;clear hall HX HA HIX HLS
   go_wp2_with fail
   refine HV.out.mono ?_;rintro e w1 ⟨rfl, hm⟩;generalize Lib.validD l = v at *
   cases v
   ·clear HSD HV HT HC HTS
    go_wp2_with fail
    go_ret;exact BoolPost.of (by rw [HX2.out]; rfl) hm
   ·have hs0 := HSD.out;clear HSD HSL;subst hs0
    go_wp2_with fail
    refine (HT.out _).mono ?_;rintro e w2 ⟨rfl, hm2⟩;have m2 := hm.trans hm2;generalize Lib.trimS l [32] = r at *
    cases hq : (r == l)
    ·have hne : ¬ (Lib.hasPrefix l [32] = false ∧ Lib.hasSuffix l [32] = false) := fun h => by
      have := HTS.out.2 h;rw [this] at hq;simp at hq
     have hpl : pl = false := by
      rw [HX2.out]
      cases h1 : Lib.hasPrefix l [32]
      ·cases h2 : Lib.hasSuffix l [32]
       ·exact absurd ⟨h1, h2⟩ hne
       ·simp
      ·simp
     clear HX2 HTS HT HC hm hm2 hne
     go_wp2_with fail
     go_ret;exact BoolPost.of hpl m2
    ·obtain ⟨h1, h2⟩ := HTS.out.1 (eq_of_beq hq);have HP : Hid (pl = !Lib.contains l [32, 32]) := Lib.hid (by rw [HX2.out, h1, h2]; simp);clear HX2 HTS HT hm hm2 h1 h2
     go_wp2_with fail
     refine (HC.out _ m2).mono ?_;rintro e w3 ⟨rfl, rfl⟩;generalize Lib.contains l [32, 32] = cc at *
     go_wp2_with fail
     go_ret;exact BoolPost.of HP.out m2

theorem text_last {l : Str} (h : 0 < l.length) : Lib.hasSuffix l [10] = (l[l.length - 1].toNat == 10) := by
 obtain ⟨a, x, rfl⟩ : ∃ a x, l = a ++ [x] := ⟨l.dropLast, l.getLast (by intro e; simp [e] at h), (List.dropLast_concat_getLast _).symm⟩
 have e : (a ++ [x])[(a ++ [x]).length - 1] = x := by simp
 rw [e];unfold Lib.hasSuffix List.isSuffixOf;simp only [List.reverse_append, List.reverse_cons, List.reverse_nil, List.nil_append, List.cons_append, List.isPrefixOf, Bool.and_true]
 exact Bool.eq_iff_iff.2 ⟨fun h => by have := eq_of_beq h; subst this; rfl, fun h => by
  have h1 : x.toNat = 10 := eq_of_beq h;have h2 : x = 10 := UInt8.toNat_inj.1 (by rw [h1]; rfl);rw [h2]
  rfl⟩

set_option maxRecDepth 100000 in
set_option maxHeartbeats 2000000 in
theorem isText_calls (w : World) (l : Str) (hs : l.length ≤ 1000000) (hE : Env w) : Calls Tryz.prog 117 #[.string ⟨l.toArray⟩] w (BoolPost w (textB l)) := by
 have hsz : (⟨l.toArray⟩ : ByteArray).size ≤ 1000000 := by simpa [ByteArray.size] using hs
 have HLS : Hid (l.length = (⟨l.toArray⟩ : ByteArray).size) := Lib.hid (by simp [ByteArray.size]);have HV := Lib.hid (valid_calls w ⟨l.toArray⟩ hsz hE.1);have HTL := Lib.hid (fun h => text_last (l := l) h);have HX : Hid (textB l = (visB true l && (Lib.validD l && (l.isEmpty || Lib.hasSuffix l [10])))) := Lib.hid rfl;clear hE hs;generalize hp : textB l = pl at *;clear hp;obtain ⟨s, hsd⟩ : ∃ s : ByteArray, s = ⟨l.toArray⟩ := ⟨_, rfl⟩;have HSD := Lib.hid hsd;rw [← hsd] at hsz HLS HV ⊢;have HIX : Hid (∀ k (h : k < l.length) (h2 : k < s.size), l[k] = s[k]) := Lib.hid (fun k h h2 => by subst hsd; rfl);clear hsd
 go_enter Tryz.func117, Tryz.ntmps117
 go_wp2_with fail
 go_loopg [6] s.size (fun gk i wr => ∃ k : Nat, s.size - k = gk ∧ k ≤ s.size ∧ i = .int .i64 (k : Int) ∧ visB true (l.take k) = true ∧ w = wr)
 case atStart => exact ⟨0, by omega, by omega, rfl, rfl, rfl⟩
 case round =>
  obtain ⟨k, rfl, hk, rfl, hall, rfl⟩ := hrel;have HA := Lib.hid hall;clear hall
  by_cases hlt : k < s.size
  ·have hl : k < l.length := by rw [HLS.out]; exact hlt
   have hsn := visB_snoc true l k hl;have hfa := visB_false true l k hl;rw [HIX.out k hl hlt] at hsn hfa;have NO : Hid (visC true s[k].toNat = false → pl = false) := Lib.hid (fun h => by rw [HX.out, hfa h]; rfl);have OK : Hid (visC true s[k].toNat = true → visB true (l.take (k + 1)) = true) := Lib.hid (fun h => by rw [hsn, HA.out, h]; rfl);clear hsn hfa HX HA HV HTL HIX HSD;generalize hc : s[k].toNat = c at *
   by_cases h1 : (c : Int) < 32
   ·have h3 : ((c : Int) == 127) = false := by simp; omega
    by_cases h2 : c = 10
    ·subst h2
     go_wp2_with fail
     go_roundg (s.size - (k + 1))
     case measure => omega
     case rel => exact ⟨k + 1, rfl, hlt, by simp, OK.out (by decide), rfl⟩
    ·have h2' : ((c : Int) != 10) = true := by simp; omega
     have hx : visC true c = false := by
      unfold visC;rw [decide_eq_true (by omega : c < 32), show (c == 10) = false by simpa using h2];simp
     go_wp2_with fail
     go_ret;exact BoolPost.of (NO.out hx) (Mod.refl _ _)
   ·by_cases h2 : c = 127
    ·subst h2
     go_wp2_with fail
     go_ret;exact BoolPost.of (NO.out (by decide)) (Mod.refl _ _)
    ·have h2' : ((c : Int) == 127) = false := by simp; omega
     have hx : visC true c = true := by
      unfold visC;rw [decide_eq_false (by omega : ¬ c < 32), show (c == 127) = false by simpa using h2];simp
     go_wp2_with fail
     go_roundg (s.size - (k + 1))
     case measure => omega
     case rel => exact ⟨k + 1, rfl, hlt, by simp, OK.out hx, rfl⟩
  ·have hke : k = s.size := by omega
   subst hke
   have hall : visB true l = true := by
    have := HA.out
    rwa [List.take_of_length_le (by rw [HLS.out]; omega)] at this
   have HX2 : Hid (pl = (Lib.validD l && (l.isEmpty || Lib.hasSuffix l [10]))) := Lib.hid (by rw [HX.out, hall]; rfl);have HSL : Hid (s.data.toList = l) := Lib.hid (by rw [HSD.out]);rw [HSL.out] at HV;clear hall HX HA
   go_wp2_with fail
   refine HV.out.mono ?_;rintro e w1 ⟨rfl, hm⟩;generalize Lib.validD l = v at *
   cases v
   ·clear HSD HV HTL
    go_wp2_with fail
    go_ret;exact BoolPost.of (by rw [HX2.out]; rfl) hm
   ·have hse : s.toList.isEmpty = l.isEmpty := by rw [ByteArray.toList_eq, HSL.out]
    cases he : l.isEmpty
    ·rw [he] at hse
     have hl0 : 0 < l.length := by
      cases l with
      | nil => cases he
      | cons a t => simp
     have hs0 : 0 < s.size := by rw [← HLS.out]; exact hl0
     have htl := HTL.out hl0;have hix := HIX.out (l.length - 1) (by omega) (by rw [← HLS.out]; omega)
     have hidx : s[s.size - 1].toNat = l[l.length - 1].toNat := by
      rw [hix]
      congr 2
      rw [HLS.out]
     have HP : Hid (pl = (s[s.size - 1].toNat == 10)) := Lib.hid (by rw [HX2.out, he, htl, hidx]; simp)
     have i1 : (0 : Int) ≤ (s.size : Int) - 1 := by omega
     have i2 : (s.size : Int) - 1 < (s.size : Int) := by omega
     have hcast : ((s.size : Int) - 1) = ((s.size - 1 : Nat) : Int) := by omega
     clear HX2 HTL HIX htl hix hidx HSD HV HSL he
     go_wp2_with fail
     go_ret;exact BoolPost.of (by rw [HP.out]; exact Bool.eq_iff_iff.2 (by simp; omega)) hm
    ·rw [he] at hse;clear HSD HV HTL
     go_wp2_with fail
     go_ret;exact BoolPost.of (by rw [HX2.out, he]; rfl) hm

end Go.Proofs.YtpinlcapgoljfaaGreatDoor

/- The errors of one item: CheckItem of package intake, ItemFault of the reference. -/
namespace Go.Proofs.YtpinlcapgoljfaaGreatDoor
open Go.RowKit

theorem key_any (W : World) (l : Str) (h : l.length ≤ 1000000) : Calls Tryz.prog 52 #[.string ⟨l.toArray⟩] W (BoolPost W (keyB l)) := by
 refine (key_calls W ⟨l.toArray⟩ (by simpa [ByteArray.size] using h)).mono ?_;rintro e w' ⟨rfl, rfl⟩;exact ⟨rfl, Mod.refl _ _⟩
theorem rkey_any (W : World) (l : Str) (h : l.length ≤ 1000000) : Calls Tryz.prog 57 #[.string ⟨l.toArray⟩] W (BoolPost W (keyB l)) :=
 rkey_calls W ⟨l.toArray⟩ (by simpa [ByteArray.size] using h)
theorem plain_any (W : World) (l : Str) (h : l.length ≤ 1000000) (hE : Env W) : Calls Tryz.prog 139 #[.string ⟨l.toArray⟩] W (BoolPost W (plainB l)) :=
 plain_calls W ⟨l.toArray⟩ (by simpa [ByteArray.size] using h) hE
theorem rplain_any (W : World) (l : Str) (h : l.length ≤ 1000000) (hE : Env W) : Calls Tryz.prog 116 #[.string ⟨l.toArray⟩] W (BoolPost W (plainB l)) := rplain_calls W l h hE
theorem text_any (W : World) (l : Str) (h : l.length ≤ 1000000) (hE : Env W) : Calls Tryz.prog 140 #[.string ⟨l.toArray⟩] W (BoolPost W (textB l)) := text_calls W l h hE
theorem rtext_any (W : World) (l : Str) (h : l.length ≤ 1000000) (hE : Env W) : Calls Tryz.prog 117 #[.string ⟨l.toArray⟩] W (BoolPost W (textB l)) := isText_calls W l h hE
set_option maxHeartbeats 400000 in
theorem moment_calls (n : Int) (w : World) : Calls Tryz.prog 99 #[.int .i64 n] w (BoolSame w (inB n 0 5761439)) := by
 go_enter Tryz.func99, Tryz.ntmps99
 go_wp2_with fail
 refine (in_calls _ _ _ _).mono ?_;rintro e w' ⟨rfl, rfl⟩
 go_wp2_with fail
 go_ret;exact BoolSame.of rfl
theorem rmoment_calls (n : Int) (w : World) : Calls Tryz.prog 58 #[.int .i64 n, .int .i64 0, .int .i64 5761439] w (BoolSame w (inB n 0 5761439)) := rin_calls _ _ _ _

/-- The word of a kind. -/
def kwS (n : Int) : Str := if n = 1 then [109, 97, 105, 108] else if n = 2 then [102, 105, 108, 101] else if n = 3 then [98, 111, 120] else if n = 4 then [110, 111, 116, 101] else []
theorem kwS_empty (n : Int) : (kwS n).isEmpty = !inB n 1 4 := by
 unfold kwS inB
 by_cases h1 : n = 1
 ·subst h1; rfl
 by_cases h2 : n = 2
 ·subst h2; rfl
 by_cases h3 : n = 3
 ·subst h3; rfl
 by_cases h4 : n = 4
 ·subst h4; rfl
 rw [if_neg h1, if_neg h2, if_neg h3, if_neg h4, decide_eq_false (by omega)]
 rfl
theorem kwS_len (n : Int) : (kwS n).length ≤ 4 := by
 unfold kwS
 split
 ·decide
 split
 ·decide
 split
 ·decide
 split
 ·decide
 ·decide
set_option maxHeartbeats 400000 in
theorem kindWord_calls (n : Int) (w : World) : Calls Tryz.prog 138 #[.int .i64 n] w (fun e w' => e = .returned (.string ⟨(kwS n).toArray⟩) ∧ w = w') := by
 by_cases h1 : n = 1
 ·subst h1
  go_enter Tryz.func138, Tryz.ntmps138
  go_wp2_with fail
  go_ret;exact ⟨rfl, rfl⟩
 by_cases h2 : n = 2
 ·subst h2
  go_enter Tryz.func138, Tryz.ntmps138
  go_wp2_with fail
  go_ret;exact ⟨rfl, rfl⟩
 by_cases h3 : n = 3
 ·subst h3
  go_enter Tryz.func138, Tryz.ntmps138
  go_wp2_with fail
  go_ret;exact ⟨rfl, rfl⟩
 by_cases h4 : n = 4
 ·subst h4
  go_enter Tryz.func138, Tryz.ntmps138
  go_wp2_with fail
  go_ret;exact ⟨rfl, rfl⟩
 have g1 : (n == 1) = false := by simpa using h1
 have g2 : (n == 2) = false := by simpa using h2
 have g3 : (n == 3) = false := by simpa using h3
 have g4 : (n == 4) = false := by simpa using h4
 go_enter Tryz.func138, Tryz.ntmps138
 go_wp2_with fail
 go_ret;exact ⟨by unfold kwS; rw [if_neg h1, if_neg h2, if_neg h3, if_neg h4]; rfl, rfl⟩


set_option maxRecDepth 100000 in
set_option maxHeartbeats 8000000 in
theorem checkItem_calls (w : World) (x : Itm) (hz : ItB x) (hE : Env w) : Calls Tryz.prog 106 #[itA x] w (IntPost w (itemE x)) := by
 obtain ⟨id, cust, kind, name, tm, par, text⟩ := x;obtain ⟨z1, z2, z3, z4, z5⟩ := hz;simp only at z1 z2 z3 z4 z5;have HK1 := Lib.hid (fun W => key_any W id (by omega));have HK2 := Lib.hid (fun W => key_any W cust (by omega));have HK3 := Lib.hid (fun W => key_any W par (by omega));have HPL := Lib.hid (fun W (h : Pure w W) => plain_any W name (by omega) (hE.pure h));have HTX := Lib.hid (fun W (h : Pure w W) => text_any W text (by omega) (hE.pure h))
 have HIE : Hid (itemE ⟨id, cust, kind, name, tm, par, text⟩ = if !(keyB id && keyB cust) then 5 else if !inB kind 1 4 then 4 else if 120 < name.length then 2 else if !plainB name then 3 else if !inB tm 0 5761439 then 1 else
  if !par.isEmpty && !keyB par then 5 else if par = id then 14 else if 20000 < text.length then 2 else if !textB text then 3 else 0) := Lib.hid (by unfold itemE; rw [show decide (par ≠ []) = !par.isEmpty by cases par <;> simp])
 generalize hie : itemE ⟨id, cust, kind, name, tm, par, text⟩ = ie at *;have HKN : Hid (keyB id = true → id.isEmpty = false) := Lib.hid (fun h => by cases id <;> first | rfl | cases h);generalize keyB id = k1 at *;generalize keyB cust = k2 at *;generalize keyB par = k3 at *;generalize plainB name = pl at *;generalize textB text = tx at *;clear hie hE z1 z2 z3 z4 z5;have B0 := Blk.new w 83 (itQ ⟨id, cust, kind, name, tm, par, text⟩);have m0 : Pure w (w.alloc (.cells (itQ ⟨id, cust, kind, name, tm, par, text⟩) 83)) := pure_alloc _ _;unfold itQ at B0 m0;simp only at B0 m0;have HB0 := Lib.hid B0;have Hm0 := Lib.hid m0;clear B0 m0;unfold itA;simp only
 go_enter Tryz.func106, Tryz.ntmps106
 go_wp2_with fail
 refine (HK1.out _).mono ?_;rintro e w1 ⟨rfl, m1⟩;have B1 := HB0.out.mod m1 _root_.id;have m1 := Hm0.out.trans m1;clear HB0 Hm0;generalize w.heap.size = gx at *
 cases k1
 ·clear B1 HK1 HK2 HK3 HPL HTX
  go_wp2_with fail
  go_ret;exact IntPost.of (by rw [HIE.out]; rfl) m1
 have c0 := B1.cell 0; have c1 := B1.cell 1; have c2 := B1.cell 2; have c3 := B1.cell 3; have c4 := B1.cell 4; have c5 := B1.cell 5; have c6 := B1.cell 6; simp at c0 c1 c2 c3 c4 c5 c6
 go_wp2_with fail
 clear c0 c1 c2 c3 c4 c5 c6;refine (HK2.out _).mono ?_;rintro e w2 ⟨rfl, m2⟩;have B2 := B1.mod m2 _root_.id;have m2 := m1.trans m2;clear B1 m1
 cases k2
 ·clear B2 HK1 HK2 HK3 HPL HTX
  go_wp2_with fail
  go_ret;exact IntPost.of (by rw [HIE.out]; rfl) m2
 have c0 := B2.cell 0; have c1 := B2.cell 1; have c2 := B2.cell 2; have c3 := B2.cell 3; have c4 := B2.cell 4; have c5 := B2.cell 5; have c6 := B2.cell 6; simp at c0 c1 c2 c3 c4 c5 c6
 go_wp2_with fail
 refine (kindWord_calls _ _).mono ?_;rintro e w' ⟨rfl, rfl⟩;have hkw := kwS_empty kind
 cases hki : inB kind 1 4
 all_goals
  rw [hki] at hkw;simp only [Bool.not_true, Bool.not_false] at hkw;generalize kwS kind = kw at *
 ·clear B2 HK1 HK2 HK3 HPL HTX
  go_wp2_with fail
  go_ret;exact IntPost.of (by rw [HIE.out]; simp [hki]) m2
 by_cases hn : 120 < name.length
 ·have hn' : (120 : Int) < (name.length : Int) := by omega
  clear B2 HK1 HK2 HK3 HPL HTX
  go_wp2_with fail
  go_ret;exact IntPost.of (by rw [HIE.out]; simp [hki, hn]) m2
 have hn' : ¬ ((120 : Int) < (name.length : Int)) := by omega
 go_wp2_with fail
 clear c0 c1 c2 c3 c4 c5 c6;refine (HPL.out _ m2).mono ?_;rintro e w3 ⟨rfl, m3⟩;have B3 := B2.mod m3 _root_.id;have m3 := m2.trans m3;clear B2 m2
 cases pl
 ·clear B3 HK1 HK2 HK3 HPL HTX
  go_wp2_with fail
  go_ret;exact IntPost.of (by rw [HIE.out]; simp [hki, hn]) m3
 have c0 := B3.cell 0; have c1 := B3.cell 1; have c2 := B3.cell 2; have c3 := B3.cell 3; have c4 := B3.cell 4; have c5 := B3.cell 5; have c6 := B3.cell 6; simp at c0 c1 c2 c3 c4 c5 c6
 go_wp2_with fail
 refine (moment_calls _ _).mono ?_;rintro e w' ⟨rfl, rfl⟩
 cases htm : inB tm 0 5761439
 ·clear B3 HK1 HK2 HK3 HPL HTX
  go_wp2_with fail
  go_ret;exact IntPost.of (by rw [HIE.out]; simp [hki, hn, htm]) m3
 rw [hki, htm] at HIE
 cases hpe : par.isEmpty
 ·rw [hpe] at HIE
  go_wp2_with fail
  clear c0 c1 c2 c3 c4 c5 c6;refine (HK3.out _).mono ?_;rintro e w4 ⟨rfl, m4⟩;have B4 := B3.mod m4 _root_.id;have m4 := m3.trans m4;clear B3 m3
  cases k3
  ·clear B4 HK1 HK2 HK3 HPL HTX
   go_wp2_with fail
   go_ret;exact IntPost.of (by rw [HIE.out]; simp [hn]) m4
  have c0 := B4.cell 0; have c1 := B4.cell 1; have c2 := B4.cell 2; have c3 := B4.cell 3; have c4 := B4.cell 4; have c5 := B4.cell 5; have c6 := B4.cell 6; simp at c0 c1 c2 c3 c4 c5 c6
  cases hpi : (par == id)
  ·have hpi2 : ¬ par = id := by simpa using hpi
   by_cases hl2 : 20000 < text.length
   ·have hl2' : (20000 : Int) < (text.length : Int) := by omega
    clear HK1 HK2 HK3 HPL HTX
    go_wp2_with fail
    go_ret;exact IntPost.of (by rw [HIE.out]; simp [hn, hl2, hpi2]) m4
   ·have hl2' : ¬ ((20000 : Int) < (text.length : Int)) := by omega
    clear HK1 HK2 HK3 HPL
    go_wp2_with fail
    refine (HTX.out _ m4).mono ?_;rintro e w6 ⟨rfl, m6⟩;have m6 := m4.trans m6;clear HTX
    cases tx
    all_goals
     go_wp2_with fail
     go_ret;exact IntPost.of (by rw [HIE.out]; simp [hn, hl2, hpi2]) m6
  ·have hpi2 : par = id := by simpa using hpi
   clear HK1 HK2 HK3 HPL HTX
   go_wp2_with fail
   go_ret;exact IntPost.of (by rw [HIE.out]; simp [hn, hpi2]) m4

 ·rw [hpe] at HIE
  cases hpi : (par == id)
  ·have hpi2 : ¬ par = id := by simpa using hpi
   by_cases hl2 : 20000 < text.length
   ·have hl2' : (20000 : Int) < (text.length : Int) := by omega
    clear HK1 HK2 HK3 HPL HTX
    go_wp2_with fail
    go_ret;exact IntPost.of (by rw [HIE.out]; simp [hn, hl2, hpi2]) m3
   ·have hl2' : ¬ ((20000 : Int) < (text.length : Int)) := by omega
    clear HK1 HK2 HK3 HPL
    go_wp2_with fail
    refine (HTX.out _ m3).mono ?_;rintro e w6 ⟨rfl, m6⟩;have m6 := m3.trans m6;clear HTX
    cases tx
    all_goals
     go_wp2_with fail
     go_ret;exact IntPost.of (by rw [HIE.out]; simp [hn, hl2, hpi2]) m6
  ·have hpi2 : par = id := by simpa using hpi
   have hx : id.isEmpty = false := by have := HKN.out; simpa using this
   rw [← hpi2, hpe] at hx
   cases hx




set_option maxRecDepth 100000 in
set_option maxHeartbeats 8000000 in
theorem itemFault_calls (w : World) (x : Itm) (hz : ItB x) (hE : Env w) : Calls Tryz.prog 72 #[itA x] w (IntPost w (itemE x)) := by
 obtain ⟨id, cust, kind, name, tm, par, text⟩ := x;obtain ⟨z1, z2, z3, z4, z5⟩ := hz;simp only at z1 z2 z3 z4 z5;have HK1 := Lib.hid (fun W => rkey_any W id (by omega));have HK2 := Lib.hid (fun W => rkey_any W cust (by omega));have HK3 := Lib.hid (fun W => rkey_any W par (by omega));have HPL := Lib.hid (fun W (h : Pure w W) => rplain_any W name (by omega) (hE.pure h));have HTX := Lib.hid (fun W (h : Pure w W) => rtext_any W text (by omega) (hE.pure h))
 have HIE : Hid (itemE ⟨id, cust, kind, name, tm, par, text⟩ = if !(keyB id && keyB cust) then 5 else if !inB kind 1 4 then 4 else if 120 < name.length then 2 else if !plainB name then 3 else if !inB tm 0 5761439 then 1 else
  if !par.isEmpty && !keyB par then 5 else if par = id then 14 else if 20000 < text.length then 2 else if !textB text then 3 else 0) := Lib.hid (by unfold itemE; rw [show decide (par ≠ []) = !par.isEmpty by cases par <;> simp])
 generalize hie : itemE ⟨id, cust, kind, name, tm, par, text⟩ = ie at *;have HKN : Hid (keyB id = true → id.isEmpty = false) := Lib.hid (fun h => by cases id <;> first | rfl | cases h);generalize keyB id = k1 at *;generalize keyB cust = k2 at *;generalize keyB par = k3 at *;generalize plainB name = pl at *;generalize textB text = tx at *;clear hie hE z1 z2 z3 z4 z5;have B0 := Blk.new w 83 (itQ ⟨id, cust, kind, name, tm, par, text⟩);have m0 : Pure w (w.alloc (.cells (itQ ⟨id, cust, kind, name, tm, par, text⟩) 83)) := pure_alloc _ _;unfold itQ at B0 m0;simp only at B0 m0;have HB0 := Lib.hid B0;have Hm0 := Lib.hid m0;clear B0 m0;unfold itA;simp only
 go_enter Tryz.func72, Tryz.ntmps72
 go_wp2_with fail
 refine (HK1.out _).mono ?_;rintro e w1 ⟨rfl, m1⟩;have B1 := HB0.out.mod m1 _root_.id;have m1 := Hm0.out.trans m1;clear HB0 Hm0;generalize w.heap.size = gx at *
 cases k1
 ·clear B1 HK1 HK2 HK3 HPL HTX
  go_wp2_with fail
  go_ret;exact IntPost.of (by rw [HIE.out]; rfl) m1
 have c0 := B1.cell 0; have c1 := B1.cell 1; have c2 := B1.cell 2; have c3 := B1.cell 3; have c4 := B1.cell 4; have c5 := B1.cell 5; have c6 := B1.cell 6; simp at c0 c1 c2 c3 c4 c5 c6
 go_wp2_with fail
 clear c0 c1 c2 c3 c4 c5 c6;refine (HK2.out _).mono ?_;rintro e w2 ⟨rfl, m2⟩;have B2 := B1.mod m2 _root_.id;have m2 := m1.trans m2;clear B1 m1
 cases k2
 ·clear B2 HK1 HK2 HK3 HPL HTX
  go_wp2_with fail
  go_ret;exact IntPost.of (by rw [HIE.out]; rfl) m2
 have c0 := B2.cell 0; have c1 := B2.cell 1; have c2 := B2.cell 2; have c3 := B2.cell 3; have c4 := B2.cell 4; have c5 := B2.cell 5; have c6 := B2.cell 6; simp at c0 c1 c2 c3 c4 c5 c6
 go_wp2_with fail
 refine (rin_calls _ _ _ _).mono ?_;rintro e w' ⟨rfl, rfl⟩
 cases hki : inB kind 1 4
 ·clear B2 HK1 HK2 HK3 HPL HTX
  go_wp2_with fail
  go_ret;exact IntPost.of (by rw [HIE.out]; simp [hki]) m2
 by_cases hn : 120 < name.length
 ·have hn' : (120 : Int) < (name.length : Int) := by omega
  clear B2 HK1 HK2 HK3 HPL HTX
  go_wp2_with fail
  go_ret;exact IntPost.of (by rw [HIE.out]; simp [hki, hn]) m2
 have hn' : ¬ ((120 : Int) < (name.length : Int)) := by omega
 go_wp2_with fail
 clear c0 c1 c2 c3 c4 c5 c6;refine (HPL.out _ m2).mono ?_;rintro e w3 ⟨rfl, m3⟩;have B3 := B2.mod m3 _root_.id;have m3 := m2.trans m3;clear B2 m2
 cases pl
 ·clear B3 HK1 HK2 HK3 HPL HTX
  go_wp2_with fail
  go_ret;exact IntPost.of (by rw [HIE.out]; simp [hki, hn]) m3
 have c0 := B3.cell 0; have c1 := B3.cell 1; have c2 := B3.cell 2; have c3 := B3.cell 3; have c4 := B3.cell 4; have c5 := B3.cell 5; have c6 := B3.cell 6; simp at c0 c1 c2 c3 c4 c5 c6
 go_wp2_with fail
 refine (rmoment_calls _ _).mono ?_;rintro e w' ⟨rfl, rfl⟩
 cases htm : inB tm 0 5761439
 ·clear B3 HK1 HK2 HK3 HPL HTX
  go_wp2_with fail
  go_ret;exact IntPost.of (by rw [HIE.out]; simp [hki, hn, htm]) m3
 rw [hki, htm] at HIE
 cases hpe : par.isEmpty
 ·rw [hpe] at HIE
  go_wp2_with fail
  clear c0 c1 c2 c3 c4 c5 c6;refine (HK3.out _).mono ?_;rintro e w4 ⟨rfl, m4⟩;have B4 := B3.mod m4 _root_.id;have m4 := m3.trans m4;clear B3 m3
  cases k3
  ·clear B4 HK1 HK2 HK3 HPL HTX
   go_wp2_with fail
   go_ret;exact IntPost.of (by rw [HIE.out]; simp [hn]) m4
  have c0 := B4.cell 0; have c1 := B4.cell 1; have c2 := B4.cell 2; have c3 := B4.cell 3; have c4 := B4.cell 4; have c5 := B4.cell 5; have c6 := B4.cell 6; simp at c0 c1 c2 c3 c4 c5 c6
  cases hpi : (par == id)
  ·have hpi2 : ¬ par = id := by simpa using hpi
   by_cases hl2 : 20000 < text.length
   ·have hl2' : (20000 : Int) < (text.length : Int) := by omega
    clear HK1 HK2 HK3 HPL HTX
    go_wp2_with fail
    go_ret;exact IntPost.of (by rw [HIE.out]; simp [hn, hl2, hpi2]) m4
   ·have hl2' : ¬ ((20000 : Int) < (text.length : Int)) := by omega
    clear HK1 HK2 HK3 HPL
    go_wp2_with fail
    refine (HTX.out _ m4).mono ?_;rintro e w6 ⟨rfl, m6⟩;have m6 := m4.trans m6;clear HTX
    cases tx
    all_goals
     go_wp2_with fail
     go_ret;exact IntPost.of (by rw [HIE.out]; simp [hn, hl2, hpi2]) m6
  ·have hpi2 : par = id := by simpa using hpi
   clear HK1 HK2 HK3 HPL HTX
   go_wp2_with fail
   go_ret;exact IntPost.of (by rw [HIE.out]; simp [hn, hpi2]) m4

 ·rw [hpe] at HIE
  cases hpi : (par == id)
  ·have hpi2 : ¬ par = id := by simpa using hpi
   by_cases hl2 : 20000 < text.length
   ·have hl2' : (20000 : Int) < (text.length : Int) := by omega
    clear HK1 HK2 HK3 HPL HTX
    go_wp2_with fail
    go_ret;exact IntPost.of (by rw [HIE.out]; simp [hn, hl2, hpi2]) m3
   ·have hl2' : ¬ ((20000 : Int) < (text.length : Int)) := by omega
    clear HK1 HK2 HK3 HPL
    go_wp2_with fail
    refine (HTX.out _ m3).mono ?_;rintro e w6 ⟨rfl, m6⟩;have m6 := m3.trans m6;clear HTX
    cases tx
    all_goals
     go_wp2_with fail
     go_ret;exact IntPost.of (by rw [HIE.out]; simp [hn, hl2, hpi2]) m6
  ·have hpi2 : par = id := by simpa using hpi
   have hx : id.isEmpty = false := by have := HKN.out; simpa using this
   rw [← hpi2, hpe] at hx
   cases hx



end Go.Proofs.YtpinlcapgoljfaaGreatDoor

/-
 DERIVED: THE SHELF's CONTRACTS AT THIS DUMP, IN PLAIN WORDS (tools/lay-plain.mjs out of 'YtpinlcapgoljfaaGreatDoorLayBld.lean', which tools/lay-shelf.mjs wrote): THE SAME DECLARATIONS UNDER THE SAME NAMES: 'import', 'namespace', 'open', 'def', 'theorem' AND NOTHING ELSE: no command of the shelf's: FOR A HAND-IN. Each laying: the table of numbers ('.._ren') and one theorem, a field a fact of the dump's own or the kernel's comparison; each contract: ONE APPLICATION.
-/
namespace Go.Proofs
open Go.Shelf
def Tryz.lays105_ren : Go.Shelf.Ren := ⟨fun | 105 => 81 | 212 => 123 | 99 => 124 | 165 => 125 | 166 => 126 | 170 => 127 | 169 => 128 | 263 => 145 | 264 => 146 | 206 => 147 | 240 => 148 | 241 => 149 | 276 => 178 | 277 => 179 | n => n, fun | 9 => 9 | 3 => 3 | 4 => 4 | 20 => 20 | 0 => 0 | 46 => 175 | 109 => 176 | 5 => 5 | 72 => 181 | 76 => 185 | 51 => 198 | 146 => 199 | 53 => 196 | 148 => 201 | 70 => 178 | 37 => 179 | 75 => 184 | 127 => 203 | 164 => 231 | 80 => 134 | n => n, fun | n => n⟩
theorem Tryz.lays105 : Go.Proofs.Lays.n105 Tryz.prog Tryz.lays105_ren := {
 mixed := by kernel_rfl
 f99 := Tryz.func124.trans (congrArg some (by kernel_rfl))
 f105 := Tryz.func81.trans (congrArg some (by kernel_rfl))
 f165 := Tryz.func125.trans (congrArg some (by kernel_rfl))
 f166 := Tryz.func126.trans (congrArg some (by kernel_rfl))
 f169 := Tryz.func128.trans (congrArg some (by kernel_rfl))
 f170 := Tryz.func127.trans (congrArg some (by kernel_rfl))
 f206 := Tryz.func147.trans (congrArg some (by kernel_rfl))
 f212 := Tryz.func123.trans (congrArg some (by kernel_rfl))
 f240 := Tryz.func148.trans (congrArg some (by kernel_rfl))
 f241 := Tryz.func149.trans (congrArg some (by kernel_rfl))
 f263 := Tryz.func145.trans (congrArg some (by kernel_rfl))
 f264 := Tryz.func146.trans (congrArg some (by kernel_rfl))
 f276 := Tryz.func178.trans (congrArg some (by kernel_rfl))
 f277 := Tryz.func179.trans (congrArg some (by kernel_rfl))
 t0 := Tryz.underlying0
 a0 := Tryz.isAgg0
 z0 := Tryz.sizeOf0
 v0 := Tryz.zeroValue0
 t3 := Tryz.underlying3
 a3 := Tryz.isAgg3
 z3 := Tryz.sizeOf3
 v3 := Tryz.zeroValue3
 t4 := Tryz.underlying4
 a4 := Tryz.isAgg4
 z4 := Tryz.sizeOf4
 v4 := Tryz.zeroValue4
 t5 := Tryz.underlying5
 a5 := Tryz.isAgg5
 z5 := Tryz.sizeOf5
 v5 := Tryz.zeroValue5
 t9 := Tryz.underlying9
 a9 := Tryz.isAgg9
 z9 := Tryz.sizeOf9
 v9 := Tryz.zeroValue9
 t20 := Tryz.underlying20
 a20 := Tryz.isAgg20
 z20 := Tryz.sizeOf20
 v20 := Tryz.zeroValue20
 t37 := Tryz.underlying179
 a37 := Tryz.isAgg179
 z37 := Tryz.sizeOf179
 v37 := Tryz.zeroValue179
 t46 := Tryz.underlying175
 a46 := Tryz.isAgg175
 z46 := Tryz.sizeOf175
 v46 := Tryz.zeroValue175
 t51 := Tryz.underlying198
 a51 := Tryz.isAgg198
 z51 := Tryz.sizeOf198
 v51 := Tryz.zeroValue198
 t53 := Tryz.underlying196
 a53 := Tryz.isAgg196
 z53 := Tryz.sizeOf196
 v53 := Tryz.zeroValue196
 t70 := Tryz.underlying178
 a70 := Tryz.isAgg178
 z70 := Tryz.sizeOf178
 v70 := Tryz.zeroValue178
 t72 := Tryz.underlying181
 a72 := Tryz.isAgg181
 z72 := Tryz.sizeOf181
 v72 := Tryz.zeroValue181
 t75 := Tryz.underlying184
 a75 := Tryz.isAgg184
 z75 := Tryz.sizeOf184
 v75 := Tryz.zeroValue184
 t76 := Tryz.underlying185
 a76 := Tryz.isAgg185
 z76 := Tryz.sizeOf185
 v76 := Tryz.zeroValue185
 t109 := Tryz.underlying176
 a109 := Tryz.isAgg176
 z109 := Tryz.sizeOf176
 v109 := Tryz.zeroValue176
 t127 := Tryz.underlying203
 a127 := Tryz.isAgg203
 z127 := Tryz.sizeOf203
 v127 := Tryz.zeroValue203
 t146 := Tryz.underlying199
 a146 := Tryz.isAgg199
 z146 := Tryz.sizeOf199
 v146 := Tryz.zeroValue199
 t148 := Tryz.underlying201
 a148 := Tryz.isAgg201
 z148 := Tryz.sizeOf201
 v148 := Tryz.zeroValue201
 t164 := Tryz.underlying231
 a164 := Tryz.isAgg231
 z164 := Tryz.sizeOf231
 v164 := Tryz.zeroValue231 }
end Go.Proofs

/- The contracts of strings.Builder's writers, laid at this program. -/
namespace Go.Proofs.YtpinlcapgoljfaaGreatDoor
open Go.RowKit Go.Shelf

end Go.Proofs.YtpinlcapgoljfaaGreatDoor

/- Quoted strings: quoted and Quote of package intake. -/
namespace Go.Proofs.YtpinlcapgoljfaaGreatDoor
open Go.RowKit

theorem enc_ascii (c : Nat) (h : c < 128) : Utf8.encode (c : Int) = ⟨#[UInt8.ofNat c]⟩ := by
 have key : ∀ n : Fin 128, Utf8.encode (n.val : Int) = ⟨#[UInt8.ofNat n.val]⟩ := by decide +kernel
 exact key ⟨c, h⟩
def hexB : ByteArray := ⟨#[48, 49, 50, 51, 52, 53, 54, 55, 56, 57, 97, 98, 99, 100, 101, 102]⟩
theorem hexB_at (n : Nat) (h : n < 16) : hexB.extract n (n + 1) = ⟨#[hexD n]⟩ := by
 have key : ∀ n : Fin 16, hexB.extract n.val (n.val + 1) = ⟨#[hexD n.val]⟩ := by decide +kernel
 exact key ⟨n, h⟩
def StrPost1 (w : World) (l : Str) (e : Ending) (w' : World) : Prop := e = .returned (.string ⟨l.toArray⟩) ∧ Pure w w'

/-- A builder at block b that holds the bytes l. -/
def IsB (w : World) (b : Nat) (l : Str) : Prop := Lib.IsBuilderF 181 5 b b (Lib.byteCells l) w ∧ b ≤ w.heap.size
theorem ownF_pure {w w' : World} {base n size : Nat} {e : TypeId} {v : Value} {xs : List Value} (h : w.ownsRowF base e size v n xs) (hm : Pure w w') : w'.ownsRowF base e size v n xs := by
 obtain ⟨h1, h2⟩ := h;refine ⟨h1, ?_⟩
 rcases h2 with h2 | ⟨g, cap, cur, fz, hv, hg, hh, r⟩
 ·exact .inl h2
 ·exact .inr ⟨g, cap, cur, fz, hv, hg, (hm.block g (lt_of_heap hh) id).trans hh, r⟩
theorem IsB.pure {w w' : World} {b : Nat} {l : Str} (h : IsB w b l) (hm : Pure w w') : IsB w' b l := by
 obtain ⟨h1, h2⟩ := h
 have key : ∀ p, Lib.BuilderAtF 181 5 b b p (Lib.byteCells l) w → Lib.BuilderAtF 181 5 b b p (Lib.byteCells l) w' := by
  rintro p ⟨k1, v, k2, k3, k4⟩;exact ⟨k1, v, (hm.block b (lt_of_heap k2) id).trans k2, ownF_pure k3 hm, k4⟩
 exact ⟨h1.elim (fun x => .inl (key _ x)) (fun x => .inr (key _ x)), Nat.le_trans h2 hm.size⟩
end Go.Proofs.YtpinlcapgoljfaaGreatDoor

/- Quoted strings: Quoted of the reference. -/
namespace Go.Proofs.YtpinlcapgoljfaaGreatDoor
open Go.RowKit

end Go.Proofs.YtpinlcapgoljfaaGreatDoor

/- Digests: hex digits by strconv. -/
namespace Go.Proofs.YtpinlcapgoljfaaGreatDoor
open Go.RowKit

theorem D36_get (n : Nat) (hn : n < 16) : ∀ h, (⟨#[48, 49, 50, 51, 52, 53, 54, 55, 56, 57, 97, 98, 99, 100, 101, 102, 103, 104, 105, 106, 107, 108, 109, 110, 111, 112, 113, 114, 115, 116, 117, 118, 119, 120, 121, 122]⟩ : ByteArray)[n]'h = hexD n := by
 have key : ∀ n : Fin 16, ∀ h, (⟨#[48, 49, 50, 51, 52, 53, 54, 55, 56, 57, 97, 98, 99, 100, 101, 102, 103, 104, 105, 106, 107, 108, 109, 110, 111, 112, 113, 114, 115, 116, 117, 118, 119, 120, 121, 122]⟩ : ByteArray)[n.val]'h = hexD n.val := by decide +kernel
 exact key ⟨n, hn⟩
/-- The table's cell that the walk reads. -/
def Deb (w : World) : Prop := w.cell? ⟨7, 15, none⟩ = some (.int .u8 4)
theorem Deb.pure {w w' : World} (h : Deb w) (hm : Pure w w') : Deb w' := hm.keep h id

set_option maxRecDepth 100000 in
set_option maxHeartbeats 400000 in
theorem tz64_calls (w : World) (h : Deb w) : Calls Tryz.prog 223 #[.int .u64 16] w fun e w' => e = .returned (.int .i64 4) ∧ w = w' := by
 unfold Deb at h
 have e1 : bits BinOp.and IntKind.u64 16 (IntKind.u64.wrap (-16)) = 16 := by decide +kernel
 have e2 : IntKind.u64.wrap 4573923408821661840 = 4573923408821661840 := by decide +kernel
 have e3 : IntKind.u64.wrap (16 * 285870213051353865) = 4573923408821661840 := by decide +kernel
 go_enter Tryz.func223, Tryz.ntmps223
 go_wp2_with fail
 go_ret;exact ⟨rfl, rfl⟩
set_option maxRecDepth 100000 in
set_option maxHeartbeats 400000 in
theorem tz_calls (w : World) (h : Deb w) : Calls Tryz.prog 219 #[.int .u64 16] w fun e w' => e = .returned (.int .i64 4) ∧ w = w' := by
 go_enter Tryz.func219, Tryz.ntmps219
 go_wp2_with fail
 refine (tz64_calls _ h).mono ?_;rintro e w' ⟨rfl, rfl⟩
 go_wp2_with fail
 go_ret;exact ⟨rfl, rfl⟩
set_option maxRecDepth 100000 in
set_option maxHeartbeats 400000 in
theorem pow2_calls (w : World) : Calls Tryz.prog 218 #[.int .i64 16] w fun e w' => e = .returned (.bool true) ∧ w = w' := by
 go_enter Tryz.func218, Tryz.ntmps218
 go_wp2_with fail
 go_ret;exact ⟨rfl, rfl⟩
theorem hdiv_step (h k : Nat) : h / 16 ^ k / 16 = h / 16 ^ (k + 1) := by rw [Nat.div_div_eq_div_mul, Nat.pow_succ]
theorem hdiv_bound {h k : Nat} (hh : h < 16 ^ 16) (hk : 16 ≤ h / 16 ^ k) : k < 15 := by
 refine Decidable.byContradiction fun hn => ?_;have h1 : h / 16 ^ k ≤ h / 16 ^ 15 := Nat.div_le_div_left (Nat.pow_le_pow_right (by omega) (by omega)) (Nat.pow_pos (by omega));have h2 : h / 16 ^ 15 < 16 := Nat.div_lt_of_lt_mul (by rw [← Nat.pow_succ]; exact hh)
 omega
theorem hdiv_end {h k : Nat} (hk : h / 16 ^ k < 16) : h < 16 ^ (k + 1) := by
 have := (Nat.div_lt_iff_lt_mul (Nat.pow_pos (by omega))).1 hk;rw [Nat.pow_succ, Nat.mul_comm]
 omega
theorem and15 (u : Nat) (h : u < 18446744073709551616) : bits BinOp.and IntKind.u64 (u : Int) 15 = ((u % 16 : Nat) : Int) := by
 have h1 := u64_and_nat u 15 h (by omega);have h2 : u &&& 15 = u % 16 := Nat.and_two_pow_sub_one_eq_mod u 4;rw [h2] at h1;exact h1
/-- The digits that have been written. -/
def DigAt (arr : Array Value) (h k : Nat) : Prop := arr.size = 65 ∧ ∀ j, j < k → arr[64 - j]? = some (.int .u8 ((hexD (h / 16 ^ j % 16)).toNat : Int))
theorem DigAt.step {arr : Array Value} {h k : Nat} (hd : DigAt arr h k) (hk : k < 64) : DigAt (arr.setIfInBounds (64 - k) (.int .u8 ((hexD (h / 16 ^ k % 16)).toNat : Int))) h (k + 1) := by
 refine ⟨by simpa using hd.1, fun j hj => ?_⟩;have hs := hd.1
 by_cases e : j = k
 ·subst e;rw [Array.getElem?_setIfInBounds_self_of_lt (by omega)]
 ·rw [Array.getElem?_setIfInBounds_ne (by omega)];exact hd.2 j (by omega)
theorem slice65 (g k : Nat) (hk : k ≤ 15) (W : World) : (Instr.sliceAt 273 (.pointer (some ⟨g, 0, none⟩)) (some (.int .i64 ((64 - k : Nat) : Int))) none none).run Tryz.prog W = .ok (.slice (some ⟨g, 64 - k, none⟩) (k + 1) (k + 1)) W := by
 have hal : Tryz.prog.arrayLen 273 = 65 := by kernel_rfl
 have hse : (Go.sizeOf (Tryz.prog.elem 273)).run Tryz.prog W = .ok 1 W := by kernel_rfl
 rw [run_sliceAt_array_l W 273 ⟨g, 0, none⟩ (by kernel_rfl) .i64 _ (by omega) (by rw [hal]; omega), hse, hal, Int.toNat_natCast];simp only [Result.andThen, slicedAt, Nat.mul_one, Addr.add];rw [if_neg (by omega), if_neg (by omega), Nat.zero_add, show 65 - (64 - k) = k + 1 by omega]
def FbRel (w : World) (h g gk : Nat) (u i : Value) (wr : World) : Prop :=
 ∃ (k : Nat) (arr : Array Value), 15 - k = gk ∧ k ≤ 15 ∧ u = .int .u64 ((h / 16 ^ k : Nat) : Int) ∧ i = .int .i64 (65 - (k : Int)) ∧ DigAt arr h k ∧ Blk wr g 273 arr ∧ Pure w wr
theorem hexR_get (h : Nat) : ∀ (k i : Nat) (hi : i < k), (hexR h k)[i]'(by rw [hexR_len]; exact hi) = hexD (h / 16 ^ (k - 1 - i) % 16)
 | 0, i, hi => absurd hi (by omega)
 | k + 1, 0, hi => by simp [hexR]
 | k + 1, i + 1, hi => by
  have := hexR_get h k i (by omega);simp only [hexR, List.getElem_cons_succ];rw [this]
  congr 4
  omega
theorem DigAt.cells {w : World} {arr : Array Value} {h k g : Nat} (hd : DigAt arr h k) (hb : Blk w g 273 arr) (hk : k ≤ 65) : ∀ j (hj : j < (hexR h k).length), w.cell? ((⟨g, 65 - k, none⟩ : Addr).add j) = some (.int .u8 ((hexR h k)[j].toNat : Int)) := by
 intro j hj
 have hj' : j < k := by rw [hexR_len] at hj; exact hj
 rw [hexR_get h k j hj'];have h1 := hd.2 (k - 1 - j) (by omega)
 have h2 : w.cell? ⟨g, 65 - k + j, none⟩ = some (.int .u8 ((hexD (h / 16 ^ (k - 1 - j) % 16)).toNat : Int)) := by
  rw [hb.cell, show 65 - k + j = 64 - (k - 1 - j) by omega];exact h1
 unfold Addr.add
 split
 ·rename_i e; subst e; simpa using h2
 ·exact h2
/-- The hex digits without zeros ahead. -/
def FbPost (w : World) (h : Nat) (e : Ending) (w' : World) : Prop := ∃ k, 1 ≤ k ∧ k ≤ 16 ∧ h < 16 ^ k ∧ e = .returned (.tuple #[.slice none 0 0, .string ⟨(hexR h k).toArray⟩]) ∧ Pure w w'

set_option maxRecDepth 100000 in
set_option maxHeartbeats 2000000 in
theorem formatBits_calls (w : World) (h : Nat) (hh : h < 16 ^ 16) (hD : Deb w) : Calls Tryz.prog 207 #[.slice none 0 0, .int .u64 (h : Int), .int .i64 16, .bool false, .bool false] w (FbPost w h) := by
 have HH := Lib.hid hh;clear hh;have HD := Lib.hid (hD.pure ((Mod.refl (fun _ => False) w).alloc (.cells Tryz.zeroCells273 273)));have HB := Lib.hid (Blk.new w 273 Tryz.zeroCells273);have HM := Lib.hid ((Mod.refl (fun _ => False) w).alloc (.cells Tryz.zeroCells273 273));clear hD
 go_enter Tryz.func207, Tryz.ntmps207
 go_wp2_with fail
 generalize (w.alloc (.cells Tryz.zeroCells273 273)) = W at *;generalize hb : w.heap.size = g at *;have hb1 := Nat.le_of_eq hb;clear hb;refine (pow2_calls _).mono ?_;rintro e w' ⟨rfl, rfl⟩
 go_wp2_with fail
 refine (tz_calls _ HD.out).mono ?_;rintro e w' ⟨rfl, rfl⟩;have HZ : Hid (DigAt Tryz.zeroCells273 h 0) := Lib.hid ⟨by kernel_rfl, fun j hj => absurd hj (by omega)⟩;generalize Tryz.zeroCells273 = zc at *
 go_wp2_with fail
 go_loopg [1, 13] 15 (fun gk u i wr => FbRel w h g gk u i wr)
 case atStart => exact ⟨0, zc, rfl, by omega, by simp, rfl, HZ.out, HB.out, HM.out⟩
 case round =>
  clear HZ HB HM HD;obtain ⟨k, arr, rfl, hk, rfl, rfl, hd, hB, hm⟩ := hrel;have HDG := Lib.hid hd;have hsz := hd.1;have hul : h / 16 ^ k < 18446744073709551616 := Nat.lt_of_le_of_lt (Nat.div_le_self _ _) (by have := HH.out; rw [show (16 : Nat) ^ 16 = 18446744073709551616 by decide +kernel] at this; exact this)
  by_cases hge : 16 ≤ h / 16 ^ k
  ·have hk15 := hdiv_bound HH.out hge;have HS := Lib.hid (hdiv_step h k);have HN := Lib.hid (HDG.out.step (by omega));have hx := D36_get (h / 16 ^ k % 16) (by omega);generalize h / 16 ^ k = u at *;have q1 : ∃ v0, arr[64 - k]? = some v0 := ⟨arr[64 - k]'(by omega), Array.getElem?_eq_getElem _⟩;obtain ⟨v0, hv0⟩ := q1;have qc := (hB.cell (64 - k)).trans hv0;have qf := hB.frozen (64 - k);have hset := hB.set (64 - k) (.int .u8 ((hexD (u % 16)).toNat : Int));have HSET := Lib.hid hset
   have i1 : (65 : Int) - (k : Int) - 1 = ((64 - k : Nat) : Int) := by omega
   clear hset hd;have hand := and15 u hul;have j1 : u % 16 < 16 := Nat.mod_lt _ (by omega)
   have hge2 : (16 : Int) ≤ (u : Int) := by omega
   have M2 := Lib.hid (hm.setCell (p := ⟨g, 64 - k, none⟩) (.inr (by show _ ≤ g; omega)) (.int .u8 ((hexD (u % 16)).toNat : Int)))
   have hud : (u : Int) / 16 = ((u / 16 : Nat) : Int) := by omega
   rw [HS.out] at hud;clear HS hB HDG hv0
   go_wp2_with fail
   go_roundg (15 - (k + 1))
   case measure => omega
   case rel => exact ⟨k + 1, _, rfl, by omega, rfl, by congr 1; omega, HN.out, HSET.out, M2.out⟩
  ·have hlt : h / 16 ^ k < 16 := by omega
   have HE := Lib.hid (hdiv_end hlt);have HN := Lib.hid (HDG.out.step (by omega));have hx := D36_get (h / 16 ^ k) hlt;have hmod : h / 16 ^ k % 16 = h / 16 ^ k := Nat.mod_eq_of_lt hlt;rw [hmod] at HN;clear hmod;generalize h / 16 ^ k = u at *;have q1 : ∃ v0, arr[64 - k]? = some v0 := ⟨arr[64 - k]'(by omega), Array.getElem?_eq_getElem _⟩;obtain ⟨v0, hv0⟩ := q1;have qc := (hB.cell (64 - k)).trans hv0;have qf := hB.frozen (64 - k);have hset := hB.set (64 - k) (.int .u8 ((hexD u).toNat : Int))
   have i1 : (65 : Int) - (k : Int) - 1 = ((64 - k : Nat) : Int) := by omega
   have M2 := Lib.hid (hm.setCell (p := ⟨g, 64 - k, none⟩) (.inr (by show _ ≤ g; omega)) (.int .u8 ((hexD u).toNat : Int)))
   have hge2 : ¬ ((16 : Int) ≤ (u : Int)) := by omega
   have hcl := HN.out.cells hset (by omega);have hcv := fun cap => run_convert_bytes_back (P := Tryz.prog) _ 179 9 5 ⟨g, 65 - (k + 1), none⟩ cap (hexR h (k + 1)) Tryz.underlying179 Tryz.underlying5 Tryz.underlying9 hcl;rw [hexR_len, show 65 - (k + 1) = 64 - k by omega] at hcv;have hsl := slice65 g k hk;clear hset hd hcl HDG hB hv0
   go_wp2_with fail
   go_ret2
   exact ⟨k + 1, by omega, by omega, HE.out, rfl, M2.out⟩

end Go.Proofs.YtpinlcapgoljfaaGreatDoor

/- Digests: Digest of package intake, DigestOf of the reference. -/
namespace Go.Proofs.YtpinlcapgoljfaaGreatDoor
open Go.RowKit

def FuPost (w : World) (h : Nat) (e : Ending) (w' : World) : Prop := ∃ k, 1 ≤ k ∧ k ≤ 16 ∧ h < 16 ^ k ∧ e = .returned (.string ⟨(hexR h k).toArray⟩) ∧ Pure w w'
set_option maxRecDepth 100000 in
set_option maxHeartbeats 400000 in
theorem ifu_calls (w : World) (h : Nat) (hh : h < 16 ^ 16) (hD : Deb w) : Calls Tryz.prog 195 #[.int .u64 (h : Int), .int .i64 16] w (FuPost w h) := by
 have HC := Lib.hid (formatBits_calls w h hh hD);clear hh hD
 go_enter Tryz.func195, Tryz.ntmps195
 go_wp2_with fail
 refine HC.out.mono ?_;rintro e w1 ⟨k, h1, h2, h3, rfl, hm⟩;have H3 := Lib.hid h3;clear h3 HC;generalize hl : hexR h k = l at *;have HL := Lib.hid hl;clear hl
 go_wp2_with fail
 go_ret;exact ⟨k, h1, h2, H3.out, by rw [HL.out]; rfl, hm⟩
set_option maxRecDepth 100000 in
set_option maxHeartbeats 400000 in
theorem fu_calls (w : World) (h : Nat) (hh : h < 16 ^ 16) (hD : Deb w) : Calls Tryz.prog 174 #[.int .u64 (h : Int), .int .i64 16] w (FuPost w h) := by
 have HC := Lib.hid (ifu_calls w h hh hD);clear hh hD
 go_enter Tryz.func174, Tryz.ntmps174
 go_wp2_with fail
 refine HC.out.mono ?_;rintro e w1 ⟨k, h1, h2, h3, rfl, hm⟩;have H3 := Lib.hid h3;clear h3 HC;generalize hl : hexR h k = l at *;have HL := Lib.hid hl;clear hl
 go_wp2_with fail
 go_ret;exact ⟨k, h1, h2, H3.out, by rw [HL.out]; rfl, hm⟩
theorem bldExtra5 : Builder.Extra Tryz.prog Tryz.lays105_ren where
 sizeBuilder := by kernel_rfl
 liesBuilder := by kernel_rfl
 t5 := Tryz.underlying5
 a5 := Tryz.isAgg5
 z5 := Tryz.sizeOf5
 v5 := Tryz.zeroValue5
 infoByte := by kernel_rfl
 cellsByte := by kernel_rfl
 sizeByte := by kernel_rfl
 neB5 := by decide
theorem repeat0_list : ∀ n : Fin 17, Lib.repeatL [48] n.val = List.replicate n.val 48 := by decide +kernel
theorem repeat0_calls (w : World) (n : Nat) (hn : n ≤ 16) : Calls Tryz.prog 81 #[.string ⟨#[48]⟩, .int .i64 (n : Int)] w (StrPost1 w (List.replicate n 48)) := by
 rcases (show n = 0 ∨ n = 1 ∨ 2 ≤ n by omega) with rfl | rfl | h2
 ·refine (Any.strings_Repeat_zero Tryz.lays105 ⟨#[48]⟩ w).mono ?_;rintro e w' ⟨rfl, rfl⟩;exact ⟨rfl, Mod.refl _ _⟩
 ·refine (Any.strings_Repeat_one Tryz.lays105 ⟨#[48]⟩ w).mono ?_;rintro e w' ⟨rfl, rfl⟩;exact ⟨rfl, Mod.refl _ _⟩
 ·refine (Any.strings_Repeat_main Tryz.lays105 bldExtra5 ⟨#[48]⟩ n w h2 (by omega) (by simp [ByteArray.size]; omega) (by simp [ByteArray.size])).mono ?_;rintro e w' ⟨rfl, hb⟩;refine ⟨?_, Mod.of_below hb⟩;have := repeat0_list ⟨n, by omega⟩;simp only at this;rw [← this]

theorem bytes_app (a b : Str) : (⟨a.toArray⟩ : ByteArray) ++ ⟨b.toArray⟩ = ⟨(a ++ b).toArray⟩ := by
 apply ByteArray.ext
 rw [ByteArray.data_append];simp
theorem cast_mulmod2 (x a m : Nat) : ((x * a % m : Nat) : Int) = (x : Int) * (a : Int) % (m : Int) := by simp
theorem hex_pad {h k : Nat} (hk : k ≤ 16) (hh : h < 16 ^ k) : hexR h 16 = List.replicate (16 - k) 48 ++ hexR h k := by
 have := hexR_pad hh (16 - k);rw [show k + (16 - k) = 16 by omega] at this;exact this
theorem fnv_take (s : ByteArray) (k : Nat) (h : k < s.size) : fnv (s.data.toList.take (k + 1)) = fnvS (fnv (s.data.toList.take k)) s[k].toNat := by
 have h1 : k < s.data.toList.length := by simpa using h
 have e : s.data.toList[k] = s[k] := by simp; rfl
 rw [List.take_succ_eq_append_getElem h1, fnv_snoc, e]

set_option maxRecDepth 100000 in
set_option maxHeartbeats 1000000 in
theorem Digest_calls (w : World) (s : ByteArray) (hs : s.size ≤ 1000000) (hD : Deb w) : Calls Tryz.prog 141 #[.string s] w (StrPost1 w (digS s.data.toList)) := by
 have hls : s.data.toList.length = s.size := by simp
 have HLS := Lib.hid hls;have HD := Lib.hid hD;clear hls hD
 go_enter Tryz.func141, Tryz.ntmps141
 go_wp2_with fail
 go_loopg [3, 8] s.size (fun gk x i wr => ∃ k : Nat, s.size - k = gk ∧ k ≤ s.size ∧ i = .int .i64 (k : Int) ∧ x = .int .u64 ((fnv (s.data.toList.take k) : Nat) : Int) ∧ w = wr)
 case atStart => exact ⟨0, by omega, by omega, rfl, by simp [fnv, O64], rfl⟩
 case round =>
  obtain ⟨k, rfl, hk, rfl, rfl, rfl⟩ := hrel;have hb : fnv (s.data.toList.take k) < 18446744073709551616 := fnv_lt _
  by_cases hlt : k < s.size
  ·have HS := Lib.hid (fnv_take s k hlt);have hc := s[k].toNat_lt;generalize fnv (s.data.toList.take k) = h at *;generalize hcc : s[k].toNat = c at *;have hx := u64_xor_nat h c hb (by omega);have hxl : h ^^^ c < 18446744073709551616 := Nat.xor_lt_two_pow (n := 64) hb (by omega);have HS2 : Hid (fnv (s.data.toList.take (k + 1)) = ((h ^^^ c) * 1099511628211) % 18446744073709551616) := Lib.hid (by rw [HS.out]; rfl);clear HS;generalize h ^^^ c = x at *
   go_wp2_with fail
   go_roundg (s.size - (k + 1))
   case measure => omega
   case rel => exact ⟨k + 1, rfl, by omega, by simp, by rw [HS2.out, cast_mulmod2]; rfl, rfl⟩
  ·obtain rfl : k = s.size := by omega
   have e1 : s.data.toList.take s.size = s.data.toList := List.take_of_length_le (by rw [HLS.out]; omega);rw [e1] at hb ⊢;clear e1;have HG : Hid (digS s.data.toList = hexR (fnv s.data.toList) 16) := Lib.hid rfl;generalize fnv s.data.toList = h at *;have HC := Lib.hid (fu_calls w h (by rw [show (16 : Nat) ^ 16 = 18446744073709551616 by decide +kernel]; exact hb) HD.out)
   go_wp2_with fail
   refine HC.out.mono ?_;rintro e w1 ⟨n, h1, h2, h3, rfl, hm⟩;have HP := Lib.hid (hex_pad h2 h3)
   have hzl : (⟨(hexR h n).toArray⟩ : ByteArray).size = n := by simp [ByteArray.size, hexR_len]
   clear h3 HC
   have hn16 : (16 : Int) - (n : Int) = ((16 - n : Nat) : Int) := by omega
   generalize hexR h n = l at *
   go_wp2_with fail
   refine (repeat0_calls _ (16 - n) (by omega)).mono ?_;rintro e w2 ⟨rfl, hm2⟩
   go_wp2_with fail
   go_ret;refine ⟨?_, hm.trans hm2⟩;rw [HG.out, HP.out];exact congrArg (fun x => Ending.returned (.string x)) (bytes_app _ _)

theorem hexB_at' (n : Nat) (h : n < 16) : (⟨#[48, 49, 50, 51, 52, 53, 54, 55, 56, 57, 97, 98, 99, 100, 101, 102]⟩ : ByteArray).extract n (n + 1) = ⟨[hexD n].toArray⟩ := hexB_at n h

set_option maxRecDepth 100000 in
set_option maxHeartbeats 1000000 in
theorem DigestOf_calls (w : World) (s : ByteArray) (hs : s.size ≤ 1000000) : Calls Tryz.prog 119 #[.string s] w (StrPost1 w (digS s.data.toList)) := by
 have hls : s.data.toList.length = s.size := by simp
 have HLS := Lib.hid hls;clear hls
 go_enter Tryz.func119, Tryz.ntmps119
 go_wp2_with fail
 go_loopg [3, 8] s.size (fun gk x i wr => ∃ k : Nat, s.size - k = gk ∧ k ≤ s.size ∧ i = .int .i64 (k : Int) ∧ x = .int .u64 ((fnv (s.data.toList.take k) : Nat) : Int) ∧ w = wr)
 case atStart => exact ⟨0, by omega, by omega, rfl, by simp [fnv, O64], rfl⟩
 case round =>
  obtain ⟨k, rfl, hk, rfl, rfl, rfl⟩ := hrel;have hb : fnv (s.data.toList.take k) < 18446744073709551616 := fnv_lt _
  by_cases hlt : k < s.size
  ·have HS := Lib.hid (fnv_take s k hlt);have hc := s[k].toNat_lt;generalize fnv (s.data.toList.take k) = h at *;generalize hcc : s[k].toNat = c at *;have hx := u64_xor_nat h c hb (by omega);have hxl : h ^^^ c < 18446744073709551616 := Nat.xor_lt_two_pow (n := 64) hb (by omega);have HS2 : Hid (fnv (s.data.toList.take (k + 1)) = ((h ^^^ c) * 1099511628211) % 18446744073709551616) := Lib.hid (by rw [HS.out]; rfl);clear HS;generalize h ^^^ c = x at *
   go_wp2_with fail
   go_roundg (s.size - (k + 1))
   case measure => omega
   case rel =>
    refine ⟨k + 1, rfl, by omega, by simp, ?_, rfl⟩;rw [HS2.out, cast_mulmod2]
    congr 1
    show _ = (x : Int) * 1099511628211 % 18446744073709551616
    simp only [IntKind.wrap_u64]
    omega
  ·obtain rfl : k = s.size := by omega
   have e1 : s.data.toList.take s.size = s.data.toList := List.take_of_length_le (by rw [HLS.out]; omega);rw [e1] at hb ⊢;clear e1;have HG : Hid (digS s.data.toList = hexR (fnv s.data.toList) 16) := Lib.hid rfl;generalize fnv s.data.toList = h at *
   go_wp2_with fail
   go_loopg [3, 5, 37] 16 (fun gk x o i wr => ∃ k : Nat, 16 - k = gk ∧ k ≤ 16 ∧ i = .int .i64 (k : Int) ∧ x = .int .u64 ((h / 16 ^ k : Nat) : Int) ∧ o = .string ⟨(hexR h k).toArray⟩ ∧ w = wr)
   case atStart => exact ⟨0, by omega, by omega, rfl, by simp, rfl, rfl⟩
   case round =>
    obtain ⟨k, rfl, hk, rfl, rfl, rfl, rfl⟩ := hrel
    by_cases hlt : k < 16
    ·have HS := Lib.hid (hdiv_step h k);have HR : Hid (hexR h (k + 1) = [hexD (h / 16 ^ k % 16)] ++ hexR h k) := Lib.hid rfl;have hul : h / 16 ^ k < 18446744073709551616 := Nat.lt_of_le_of_lt (Nat.div_le_self _ _) hb;generalize h / 16 ^ k = u at *;have HX := Lib.hid (hexB_at' (u % 16) (by omega))
     have hll : (hexR h k).length ≤ 16 := by rw [hexR_len]; omega
     have hll2 : (⟨(hexR h k).toArray⟩ : ByteArray).size ≤ 16 := by simp [ByteArray.size]; omega
     generalize hexR h k = l at *
     go_wp2_with fail
     go_roundg (16 - (k + 1))
     case measure => omega
     case rel =>
      refine ⟨k + 1, rfl, by omega, by simp, by rw [← HS.out]; congr 1, ?_, rfl⟩;rw [HR.out, ← bytes_app, ← HX.out]
    ·obtain rfl : k = 16 := by omega
     generalize hexR h 16 = l at *
     go_wp2_with fail
     go_ret;exact ⟨by rw [HG.out]; rfl, Mod.refl _ _⟩

end Go.Proofs.YtpinlcapgoljfaaGreatDoor

/- Sums of items. -/
namespace Go.Proofs.YtpinlcapgoljfaaGreatDoor
open Go.RowKit

/-- The sum of an item. -/
def sumS (x : Itm) : Str := digS (kwS x.kind ++ [10] ++ x.text)
theorem StrPost1.of {w w' : World} {l m : Str} (h : l = m) (hm : Pure w w') : StrPost1 w l (.returned (.string ⟨m.toArray⟩)) w' := ⟨by rw [h], hm⟩

set_option maxRecDepth 100000 in
set_option maxHeartbeats 2000000 in
theorem sum_calls (w : World) (x : Itm) (hz : ItB x) (hD : Deb w) : Calls Tryz.prog 111 #[itA x] w (StrPost1 w (sumS x)) := by
 obtain ⟨id, cust, kind, name, tm, par, text⟩ := x;have hz5 : text.length ≤ 30000 := hz.2.2.2.2;have HT5 := Lib.hid hz5;have hkl := kwS_len kind;have HS : Hid (sumS ⟨id, cust, kind, name, tm, par, text⟩ = digS (kwS kind ++ [10] ++ text)) := Lib.hid rfl;have HKW := Lib.hid (fun W => kindWord_calls kind W);have a1 := bytes_app (kwS kind) [10];have a2 := bytes_app (kwS kind ++ [10]) text;generalize kwS kind = kw at *
 have hs1 : (⟨(kw ++ [10]).toArray⟩ : ByteArray).size ≤ 5 := by simp [ByteArray.size]; omega
 have hs0 : (⟨kw.toArray⟩ : ByteArray).size ≤ 4 := by simp [ByteArray.size]; omega
 have hs2 : (⟨(kw ++ [10] ++ text).toArray⟩ : ByteArray).size ≤ 40000 := by simp [ByteArray.size]; omega
 have ht : (⟨text.toArray⟩ : ByteArray).size ≤ 30000 := by simpa [ByteArray.size] using hz5
 have HDG := Lib.hid (fun W (h : Pure w W) => Digest_calls W ⟨(kw ++ [10] ++ text).toArray⟩ (by omega) (hD.pure h));have hdl : (⟨(kw ++ [10] ++ text).toArray⟩ : ByteArray).data.toList = kw ++ [10] ++ text := rfl;rw [hdl] at HDG;have HB0 := Lib.hid (Blk.new w 83 (itQ ⟨id, cust, kind, name, tm, par, text⟩));have Hm0 := Lib.hid (pure_alloc w (.cells (itQ ⟨id, cust, kind, name, tm, par, text⟩) 83));unfold itQ at HB0 Hm0;simp only at HB0 Hm0;clear hz hz5 hkl hD hdl;generalize digS (kw ++ [10] ++ text) = dg at *;rw [← a2, ← a1] at HDG
 have hs01 : ((⟨kw.toArray⟩ : ByteArray) ++ ⟨#[10]⟩).size ≤ 5 := by
  have := congrArg ByteArray.size a1;rw [show (⟨#[10]⟩ : ByteArray) = ⟨[10].toArray⟩ from rfl, this];exact hs1
 clear a1 a2 hs1 hs2;obtain ⟨z0, h_z0⟩ : ∃ z0 : ByteArray, ⟨kw.toArray⟩ = z0 := ⟨_, rfl⟩;rw [h_z0] at hs0 HKW hs01 HDG;clear h_z0;have HS01 := Lib.hid hs01;unfold itA;simp only
 go_enter Tryz.func111, Tryz.ntmps111
 go_wp2_with fail
 generalize (w.alloc (.cells #[.string ⟨id.toArray⟩, .string ⟨cust.toArray⟩, .int .i64 kind, .string ⟨name.toArray⟩, .int .i64 tm, .string ⟨par.toArray⟩, .string ⟨text.toArray⟩] 83)) = W at *;generalize w.heap.size = gs at *;have HGs := Lib.hid (show ∀ (D : Nat → Bool) (zzi : Nat) (zq zq' : World), (fun _ zq => (fun Z => Blk Z gs 83 #[.string ⟨id.toArray⟩, .string ⟨cust.toArray⟩, .int .i64 kind, .string ⟨name.toArray⟩, .int .i64 tm, .string ⟨par.toArray⟩, .string ⟨text.toArray⟩]) zq) D zq → Mod (fun _ => False) zq zq' → (fun _ zq => (fun Z => Blk Z gs 83 #[.string ⟨id.toArray⟩, .string ⟨cust.toArray⟩, .int .i64 kind, .string ⟨name.toArray⟩, .int .i64 tm, .string ⟨par.toArray⟩, .string ⟨text.toArray⟩]) zq) (upd D zzi true) zq' from by intro D zzi zq zq' h hm; (exact h.modp hm))
 refine wp_region_inv (by kernel_rfl) (by kernel_rfl) (InvF (R := Mod (fun _ => False)) [.is (.pointer (some ⟨gs, 2, none⟩)),
   .is (.int .i64 kind),
   .is (.string z0),
   .is (.string (z0 ++ (⟨#[10]⟩ : ByteArray))),
   .is (.pointer (some ⟨gs, 6, none⟩)),
   .is (.string ⟨text.toArray⟩),
   .is (.string (z0 ++ (⟨#[10]⟩ : ByteArray) ++ (⟨text.toArray⟩ : ByteArray))),
   .is (.string ⟨dg.toArray⟩),
   .is (.string ⟨dg.toArray⟩)]
   (PB w (fun _ => False) W.heap.size (fun _ zq => (fun Z => Blk Z gs 83 #[.string ⟨id.toArray⟩, .string ⟨cust.toArray⟩, .int .i64 kind, .string ⟨name.toArray⟩, .int .i64 tm, .string ⟨par.toArray⟩, .string ⟨text.toArray⟩]) zq))) (InvF.start (PB.start Hm0.out (Nat.le_refl _) (HB0.out.drew))) ?_ ?_
 ·refine .cons ?_ (.cons ?_ (.cons ?_ (.cons ?_ (.cons ?_ (.cons ?_ (.cons ?_ (.cons ?_ (.cons ?_ .nil))))))))
  ·intro D V zw1 a hR hI K hK;obtain ⟨hM1, hB1, hG1⟩ := hI.1;have ze1 := hR.frame.other (t := 1) (by kernel_rfl) rfl;rw [if_pos (by rfl)];go_simp;exact hK (.pointer (some ⟨gs, 2, none⟩)) _ (hI.next hR (by kernel_rfl) (Mod.refl _ _) (PB.quiet hI.1 (Mod.refl _ _) (HGs.out D 0 zw1 zw1 (hI.1).g (Mod.refl _ _))) (upd_same V 0 _))
  ·intro D V zw1 a hR hI K hK;obtain ⟨hM1, hB1, hG1⟩ := hI.1;have zd0 := hR.pred 0 (by kernel_rfl);have zf0 : V 0 = .pointer (some ⟨gs, 2, none⟩) := hI.2 0 zd0 rfl;have ze3 := hR.frame.done (t := 3) (j := 0) (by kernel_rfl) hR.ok zd0;have zx0 := hG1.cell 0; have zx1 := hG1.cell 1; have zx2 := hG1.cell 2; have zx3 := hG1.cell 3; have zx4 := hG1.cell 4; have zx5 := hG1.cell 5; have zx6 := hG1.cell 6;simp at zx0 zx1 zx2 zx3 zx4 zx5 zx6;rw [if_pos (by rfl)];go_simp;exact hK (.int .i64 kind) _ (hI.next hR (by kernel_rfl) (Mod.refl _ _) (PB.quiet hI.1 (Mod.refl _ _) (HGs.out D 1 zw1 zw1 (hI.1).g (Mod.refl _ _))) (upd_same V 1 _))
  ·intro D V zw1 a hR hI K hK;obtain ⟨hM1, hB1, hG1⟩ := hI.1;have zd1 := hR.pred 1 (by kernel_rfl);have zf1 : V 1 = .int .i64 kind := hI.2 1 zd1 rfl;have ze4 := hR.frame.done (t := 4) (j := 1) (by kernel_rfl) hR.ok zd1;rw [if_pos (by rfl)];go_simp;refine (HKW.out _).mono ?_;rintro e zw2 ⟨rfl, rfl⟩;have hm2 : Pure zw1 zw1 := Mod.refl _ _;exact hK (.string z0) _ (hI.next hR (by kernel_rfl) hm2 (PB.quiet hI.1 hm2 (HGs.out D 2 _ _ (hI.1).g hm2)) (upd_same V 2 _))
  ·intro D V zw1 a hR hI K hK;obtain ⟨hM1, hB1, hG1⟩ := hI.1;have zd2 := hR.pred 2 (by kernel_rfl);have zf2 : V 2 = .string z0 := hI.2 2 zd2 rfl;have ze5 := hR.frame.done (t := 5) (j := 2) (by kernel_rfl) hR.ok zd2
   have hb1 : ¬ (9223372036854775807 < z0.size + 1) := by omega
   rw [if_pos (by rfl)];go_simp;exact hK (.string (z0 ++ (⟨#[10]⟩ : ByteArray))) _ (hI.next hR (by kernel_rfl) (Mod.refl _ _) (PB.quiet hI.1 (Mod.refl _ _) (HGs.out D 3 zw1 zw1 (hI.1).g (Mod.refl _ _))) (upd_same V 3 _))
  ·intro D V zw1 a hR hI K hK;obtain ⟨hM1, hB1, hG1⟩ := hI.1;have ze1 := hR.frame.other (t := 1) (by kernel_rfl) rfl;rw [if_pos (by rfl)];go_simp;exact hK (.pointer (some ⟨gs, 6, none⟩)) _ (hI.next hR (by kernel_rfl) (Mod.refl _ _) (PB.quiet hI.1 (Mod.refl _ _) (HGs.out D 4 zw1 zw1 (hI.1).g (Mod.refl _ _))) (upd_same V 4 _))
  ·intro D V zw1 a hR hI K hK;obtain ⟨hM1, hB1, hG1⟩ := hI.1;have zd4 := hR.pred 4 (by kernel_rfl);have zf4 : V 4 = .pointer (some ⟨gs, 6, none⟩) := hI.2 4 zd4 rfl;have ze7 := hR.frame.done (t := 7) (j := 4) (by kernel_rfl) hR.ok zd4;have zx0 := hG1.cell 0; have zx1 := hG1.cell 1; have zx2 := hG1.cell 2; have zx3 := hG1.cell 3; have zx4 := hG1.cell 4; have zx5 := hG1.cell 5; have zx6 := hG1.cell 6;simp at zx0 zx1 zx2 zx3 zx4 zx5 zx6;rw [if_pos (by rfl)];go_simp;exact hK (.string ⟨text.toArray⟩) _ (hI.next hR (by kernel_rfl) (Mod.refl _ _) (PB.quiet hI.1 (Mod.refl _ _) (HGs.out D 5 zw1 zw1 (hI.1).g (Mod.refl _ _))) (upd_same V 5 _))
  ·intro D V zw1 a hR hI K hK;obtain ⟨hM1, hB1, hG1⟩ := hI.1;have zd3 := hR.pred 3 (by kernel_rfl);have zf3 : V 3 = .string (z0 ++ (⟨#[10]⟩ : ByteArray)) := hI.2 3 zd3 rfl;have zd5 := hR.pred 5 (by kernel_rfl);have zf5 : V 5 = .string ⟨text.toArray⟩ := hI.2 5 zd5 rfl;have ze6 := hR.frame.done (t := 6) (j := 3) (by kernel_rfl) hR.ok zd3;have ze8 := hR.frame.done (t := 8) (j := 5) (by kernel_rfl) hR.ok zd5
   have hb1 : ¬ (9223372036854775807 < z0.size + 1 + text.length) := by have := HT5.out; omega
   rw [if_pos (by rfl)];go_simp;exact hK (.string (z0 ++ (⟨#[10]⟩ : ByteArray) ++ (⟨text.toArray⟩ : ByteArray))) _ (hI.next hR (by kernel_rfl) (Mod.refl _ _) (PB.quiet hI.1 (Mod.refl _ _) (HGs.out D 6 zw1 zw1 (hI.1).g (Mod.refl _ _))) (upd_same V 6 _))
  ·intro D V zw1 a hR hI K hK;obtain ⟨hM1, hB1, hG1⟩ := hI.1;have zd6 := hR.pred 6 (by kernel_rfl);have zf6 : V 6 = .string (z0 ++ (⟨#[10]⟩ : ByteArray) ++ (⟨text.toArray⟩ : ByteArray)) := hI.2 6 zd6 rfl;have ze9 := hR.frame.done (t := 9) (j := 6) (by kernel_rfl) hR.ok zd6;rw [if_pos (by rfl)];go_simp;refine (HDG.out _ hM1).mono ?_;rintro e zw2 ⟨rfl, hm2⟩;exact hK (.string ⟨dg.toArray⟩) _ (hI.next hR (by kernel_rfl) hm2 (PB.quiet hI.1 hm2 (HGs.out D 7 _ _ (hI.1).g hm2)) (upd_same V 7 _))
  ·intro D V zw1 a hR hI K hK;obtain ⟨hM1, hB1, hG1⟩ := hI.1;have zd7 := hR.pred 7 (by kernel_rfl);have zf7 : V 7 = .string ⟨dg.toArray⟩ := hI.2 7 zd7 rfl;have ze10 := hR.frame.done (t := 10) (j := 7) (by kernel_rfl) hR.ok zd7;rw [if_pos (by rfl)];go_simp;exact hK (.string ⟨dg.toArray⟩) _ (hI.next hR (by kernel_rfl) (Mod.refl _ _) (PB.quiet hI.1 (Mod.refl _ _) (HGs.out D 8 zw1 zw1 (hI.1).g (Mod.refl _ _))) (upd_same V 8 _))
 ·intro D V w1 hD hI;obtain ⟨hM1, hB1, hG1⟩ := hI.1;have hMx := hM1;clear hM1;have hBx := hB1;clear hB1;have hGx := hG1;clear hG1;have zf0 : V 0 = .pointer (some ⟨gs, 2, none⟩) := hI.2 0 (hD 0 (by decide)) rfl;have zf1 : V 1 = .int .i64 kind := hI.2 1 (hD 1 (by decide)) rfl;have zf2 : V 2 = .string z0 := hI.2 2 (hD 2 (by decide)) rfl;have zf3 : V 3 = .string (z0 ++ (⟨#[10]⟩ : ByteArray)) := hI.2 3 (hD 3 (by decide)) rfl;have zf4 : V 4 = .pointer (some ⟨gs, 6, none⟩) := hI.2 4 (hD 4 (by decide)) rfl;have zf5 : V 5 = .string ⟨text.toArray⟩ := hI.2 5 (hD 5 (by decide)) rfl;have zf6 : V 6 = .string (z0 ++ (⟨#[10]⟩ : ByteArray) ++ (⟨text.toArray⟩ : ByteArray)) := hI.2 6 (hD 6 (by decide)) rfl;have zf7 : V 7 = .string ⟨dg.toArray⟩ := hI.2 7 (hD 7 (by decide)) rfl;have zf8 : V 8 = .string ⟨dg.toArray⟩ := hI.2 8 (hD 8 (by decide)) rfl;clear hI hD HGs;simp only [frAll, Act.put, List.setIfInBounds_toArray, List.set_cons_zero, List.set_cons_succ, Nat.zero_add, Nat.reduceAdd, zf0, zf1, zf2, zf3, zf4, zf5, zf6, zf7, zf8];clear zf0 zf1 zf2 zf3 zf4 zf5 zf6 zf7 zf8;clear V D
  go_wp2_with fail
  go_ret;exact StrPost1.of HS.out hMx

def SumPost (w : World) (x : Itm) (e : Ending) (w' : World) : Prop := ∃ s : Str, e = .returned (.tuple #[.string ⟨s.toArray⟩, .int .i64 (itemE x)]) ∧ s = (if itemE x = 0 then sumS x else []) ∧ Pure w w'
set_option maxRecDepth 100000 in
set_option maxHeartbeats 2000000 in
theorem Sum_calls (w : World) (x : Itm) (hz : ItB x) (hD : Deb w) (hE : Env w) : Calls Tryz.prog 67 #[itA x] w (SumPost w x) := by
 have HB0 := Lib.hid (Blk.new w 83 (itQ x));have Hm0 := Lib.hid (pure_alloc w (.cells (itQ x) 83));have HCI := Lib.hid (checkItem_calls (w.alloc (.cells (itQ x) 83)) x hz (hE.pure (pure_alloc _ _)));have HSU := Lib.hid (fun W (h : Pure w W) => sum_calls W x hz (hD.pure h));obtain ⟨e1, he1⟩ : ∃ e1, itemE x = e1 := ⟨_, rfl⟩;rw [he1] at HCI;have HE1 := Lib.hid he1;clear hz hD hE he1;unfold itQ at HB0 Hm0 HCI;unfold itA at HCI HSU ⊢
 go_enter Tryz.func67, Tryz.ntmps67
 go_wp2_with fail
 refine HCI.out.mono ?_;rintro e w1 ⟨rfl, m1⟩;have B1 := HB0.out.mod m1 id;have m2 := Hm0.out.trans m1;clear HCI HB0 Hm0 m1;generalize w.heap.size = gs at *
 by_cases h0 : e1 = 0
 ·subst h0;have HF : Hid (sumS x = if itemE x = 0 then sumS x else []) := Lib.hid (by rw [if_pos HE1.out]);have c0 := B1.cell 0; have c1 := B1.cell 1; have c2 := B1.cell 2; have c3 := B1.cell 3; have c4 := B1.cell 4; have c5 := B1.cell 5; have c6 := B1.cell 6; simp at c0 c1 c2 c3 c4 c5 c6;clear B1
  go_wp2_with fail
  refine (HSU.out _ m2).mono ?_;rintro e w2 ⟨rfl, m3⟩
  go_wp2_with fail
  refine bodyPost_ret (v := .tuple #[.string ⟨(sumS x).toArray⟩, .int .i64 0]) (by simp [results, Tryz.results67, go_sem]) rfl ?_;exact ⟨sumS x, by rw [HE1.out], HF.out, m2.trans m3⟩
 ·have h0' : (e1 != 0) = true := by simpa using h0
  have HF : Hid ([] = if itemE x = 0 then sumS x else []) := Lib.hid (by rw [if_neg (by rw [HE1.out]; exact h0)]);clear B1 HSU h0
  go_wp2_with fail
  refine bodyPost_ret (v := .tuple #[.string ⟨#[]⟩, .int .i64 e1]) (by simp [results, Tryz.results67, go_sem]) rfl ?_;exact ⟨[], by rw [HE1.out], HF.out, m2⟩

set_option maxRecDepth 100000 in
set_option maxHeartbeats 400000 in
theorem KindWord_calls (n : Int) (w : World) (h1 : 1 ≤ n) (h4 : n ≤ 4) : Calls Tryz.prog 120 #[.int .i64 n] w (fun e w' => e = .returned (.string ⟨(kwS n).toArray⟩) ∧ w = w') := by
 rcases (show n = 1 ∨ n = 2 ∨ n = 3 ∨ n = 4 by omega) with rfl | rfl | rfl | rfl
 ·have hrun : (Instr.index 197 (.agg #[.string ⟨#[]⟩, .string ⟨#[109, 97, 105, 108]⟩, .string ⟨#[102, 105, 108, 101]⟩, .string ⟨#[98, 111, 120]⟩, .string ⟨#[110, 111, 116, 101]⟩]) (.int .i64 1)).run Tryz.prog w = .ok (.string ⟨#[109, 97, 105, 108]⟩) w := by kernel_rfl
  go_enter Tryz.func120, Tryz.ntmps120
  go_wp2_with fail
  go_ret;exact ⟨rfl, rfl⟩
 ·have hrun : (Instr.index 197 (.agg #[.string ⟨#[]⟩, .string ⟨#[109, 97, 105, 108]⟩, .string ⟨#[102, 105, 108, 101]⟩, .string ⟨#[98, 111, 120]⟩, .string ⟨#[110, 111, 116, 101]⟩]) (.int .i64 2)).run Tryz.prog w = .ok (.string ⟨#[102, 105, 108, 101]⟩) w := by kernel_rfl
  go_enter Tryz.func120, Tryz.ntmps120
  go_wp2_with fail
  go_ret;exact ⟨rfl, rfl⟩
 ·have hrun : (Instr.index 197 (.agg #[.string ⟨#[]⟩, .string ⟨#[109, 97, 105, 108]⟩, .string ⟨#[102, 105, 108, 101]⟩, .string ⟨#[98, 111, 120]⟩, .string ⟨#[110, 111, 116, 101]⟩]) (.int .i64 3)).run Tryz.prog w = .ok (.string ⟨#[98, 111, 120]⟩) w := by kernel_rfl
  go_enter Tryz.func120, Tryz.ntmps120
  go_wp2_with fail
  go_ret;exact ⟨rfl, rfl⟩
 ·have hrun : (Instr.index 197 (.agg #[.string ⟨#[]⟩, .string ⟨#[109, 97, 105, 108]⟩, .string ⟨#[102, 105, 108, 101]⟩, .string ⟨#[98, 111, 120]⟩, .string ⟨#[110, 111, 116, 101]⟩]) (.int .i64 4)).run Tryz.prog w = .ok (.string ⟨#[110, 111, 116, 101]⟩) w := by kernel_rfl
  go_enter Tryz.func120, Tryz.ntmps120
  go_wp2_with fail
  go_ret;exact ⟨rfl, rfl⟩

set_option maxRecDepth 100000 in
set_option maxHeartbeats 2000000 in
theorem SumOf_calls (w : World) (x : Itm) (hz : ItB x) (h1 : 1 ≤ x.kind) (h4 : x.kind ≤ 4) : Calls Tryz.prog 77 #[itA x] w (StrPost1 w (sumS x)) := by
 obtain ⟨id, cust, kind, name, tm, par, text⟩ := x;have hz5 : text.length ≤ 30000 := hz.2.2.2.2;have HT5 := Lib.hid hz5;have hkl := kwS_len kind;have HS : Hid (sumS ⟨id, cust, kind, name, tm, par, text⟩ = digS (kwS kind ++ [10] ++ text)) := Lib.hid rfl;have HKW := Lib.hid (fun W => KindWord_calls kind W h1 h4);have a1 := bytes_app (kwS kind) [10];have a2 := bytes_app (kwS kind ++ [10]) text;generalize kwS kind = kw at *
 have hs1 : (⟨(kw ++ [10]).toArray⟩ : ByteArray).size ≤ 5 := by simp [ByteArray.size]; omega
 have hs0 : (⟨kw.toArray⟩ : ByteArray).size ≤ 4 := by simp [ByteArray.size]; omega
 have hs2 : (⟨(kw ++ [10] ++ text).toArray⟩ : ByteArray).size ≤ 40000 := by simp [ByteArray.size]; omega
 have ht : (⟨text.toArray⟩ : ByteArray).size ≤ 30000 := by simpa [ByteArray.size] using hz5
 have HDG := Lib.hid (fun W => DigestOf_calls W ⟨(kw ++ [10] ++ text).toArray⟩ (by omega));have hdl : (⟨(kw ++ [10] ++ text).toArray⟩ : ByteArray).data.toList = kw ++ [10] ++ text := rfl;rw [hdl] at HDG;have HB0 := Lib.hid (Blk.new w 83 (itQ ⟨id, cust, kind, name, tm, par, text⟩));have Hm0 := Lib.hid (pure_alloc w (.cells (itQ ⟨id, cust, kind, name, tm, par, text⟩) 83));unfold itQ at HB0 Hm0;simp only at HB0 Hm0;clear hz hz5 hkl hdl h1 h4;generalize digS (kw ++ [10] ++ text) = dg at *;rw [← a2, ← a1] at HDG
 have hs01 : ((⟨kw.toArray⟩ : ByteArray) ++ ⟨#[10]⟩).size ≤ 5 := by
  have := congrArg ByteArray.size a1;rw [show (⟨#[10]⟩ : ByteArray) = ⟨[10].toArray⟩ from rfl, this];exact hs1
 clear a1 a2 hs1 hs2;obtain ⟨z0, h_z0⟩ : ∃ z0 : ByteArray, ⟨kw.toArray⟩ = z0 := ⟨_, rfl⟩;rw [h_z0] at hs0 HKW hs01 HDG;clear h_z0;have HS01 := Lib.hid hs01;unfold itA;simp only
 go_enter Tryz.func77, Tryz.ntmps77
 go_wp2_with fail
 generalize (w.alloc (.cells #[.string ⟨id.toArray⟩, .string ⟨cust.toArray⟩, .int .i64 kind, .string ⟨name.toArray⟩, .int .i64 tm, .string ⟨par.toArray⟩, .string ⟨text.toArray⟩] 83)) = W at *;generalize w.heap.size = gs at *;have HGs := Lib.hid (show ∀ (D : Nat → Bool) (zzi : Nat) (zq zq' : World), (fun _ zq => (fun Z => Blk Z gs 83 #[.string ⟨id.toArray⟩, .string ⟨cust.toArray⟩, .int .i64 kind, .string ⟨name.toArray⟩, .int .i64 tm, .string ⟨par.toArray⟩, .string ⟨text.toArray⟩]) zq) D zq → Mod (fun _ => False) zq zq' → (fun _ zq => (fun Z => Blk Z gs 83 #[.string ⟨id.toArray⟩, .string ⟨cust.toArray⟩, .int .i64 kind, .string ⟨name.toArray⟩, .int .i64 tm, .string ⟨par.toArray⟩, .string ⟨text.toArray⟩]) zq) (upd D zzi true) zq' from by intro D zzi zq zq' h hm; (exact h.modp hm))
 refine wp_region_inv (by kernel_rfl) (by kernel_rfl) (InvF (R := Mod (fun _ => False)) [.is (.pointer (some ⟨gs, 2, none⟩)),
   .is (.int .i64 kind),
   .is (.string z0),
   .is (.string (z0 ++ (⟨#[10]⟩ : ByteArray))),
   .is (.pointer (some ⟨gs, 6, none⟩)),
   .is (.string ⟨text.toArray⟩),
   .is (.string (z0 ++ (⟨#[10]⟩ : ByteArray) ++ (⟨text.toArray⟩ : ByteArray))),
   .is (.string ⟨dg.toArray⟩),
   .is (.string ⟨dg.toArray⟩)]
   (PB w (fun _ => False) W.heap.size (fun _ zq => (fun Z => Blk Z gs 83 #[.string ⟨id.toArray⟩, .string ⟨cust.toArray⟩, .int .i64 kind, .string ⟨name.toArray⟩, .int .i64 tm, .string ⟨par.toArray⟩, .string ⟨text.toArray⟩]) zq))) (InvF.start (PB.start Hm0.out (Nat.le_refl _) (HB0.out.drew))) ?_ ?_
 ·refine .cons ?_ (.cons ?_ (.cons ?_ (.cons ?_ (.cons ?_ (.cons ?_ (.cons ?_ (.cons ?_ (.cons ?_ .nil))))))))
  ·intro D V zw1 a hR hI K hK;obtain ⟨hM1, hB1, hG1⟩ := hI.1;have ze1 := hR.frame.other (t := 1) (by kernel_rfl) rfl;rw [if_pos (by rfl)];go_simp;exact hK (.pointer (some ⟨gs, 2, none⟩)) _ (hI.next hR (by kernel_rfl) (Mod.refl _ _) (PB.quiet hI.1 (Mod.refl _ _) (HGs.out D 0 zw1 zw1 (hI.1).g (Mod.refl _ _))) (upd_same V 0 _))
  ·intro D V zw1 a hR hI K hK;obtain ⟨hM1, hB1, hG1⟩ := hI.1;have zd0 := hR.pred 0 (by kernel_rfl);have zf0 : V 0 = .pointer (some ⟨gs, 2, none⟩) := hI.2 0 zd0 rfl;have ze3 := hR.frame.done (t := 3) (j := 0) (by kernel_rfl) hR.ok zd0;have zx0 := hG1.cell 0; have zx1 := hG1.cell 1; have zx2 := hG1.cell 2; have zx3 := hG1.cell 3; have zx4 := hG1.cell 4; have zx5 := hG1.cell 5; have zx6 := hG1.cell 6;simp at zx0 zx1 zx2 zx3 zx4 zx5 zx6;rw [if_pos (by rfl)];go_simp;exact hK (.int .i64 kind) _ (hI.next hR (by kernel_rfl) (Mod.refl _ _) (PB.quiet hI.1 (Mod.refl _ _) (HGs.out D 1 zw1 zw1 (hI.1).g (Mod.refl _ _))) (upd_same V 1 _))
  ·intro D V zw1 a hR hI K hK;obtain ⟨hM1, hB1, hG1⟩ := hI.1;have zd1 := hR.pred 1 (by kernel_rfl);have zf1 : V 1 = .int .i64 kind := hI.2 1 zd1 rfl;have ze4 := hR.frame.done (t := 4) (j := 1) (by kernel_rfl) hR.ok zd1;rw [if_pos (by rfl)];go_simp;refine (HKW.out _).mono ?_;rintro e zw2 ⟨rfl, rfl⟩;have hm2 : Pure zw1 zw1 := Mod.refl _ _;exact hK (.string z0) _ (hI.next hR (by kernel_rfl) hm2 (PB.quiet hI.1 hm2 (HGs.out D 2 _ _ (hI.1).g hm2)) (upd_same V 2 _))
  ·intro D V zw1 a hR hI K hK;obtain ⟨hM1, hB1, hG1⟩ := hI.1;have zd2 := hR.pred 2 (by kernel_rfl);have zf2 : V 2 = .string z0 := hI.2 2 zd2 rfl;have ze5 := hR.frame.done (t := 5) (j := 2) (by kernel_rfl) hR.ok zd2
   have hb1 : ¬ (9223372036854775807 < z0.size + 1) := by omega
   rw [if_pos (by rfl)];go_simp;exact hK (.string (z0 ++ (⟨#[10]⟩ : ByteArray))) _ (hI.next hR (by kernel_rfl) (Mod.refl _ _) (PB.quiet hI.1 (Mod.refl _ _) (HGs.out D 3 zw1 zw1 (hI.1).g (Mod.refl _ _))) (upd_same V 3 _))
  ·intro D V zw1 a hR hI K hK;obtain ⟨hM1, hB1, hG1⟩ := hI.1;have ze1 := hR.frame.other (t := 1) (by kernel_rfl) rfl;rw [if_pos (by rfl)];go_simp;exact hK (.pointer (some ⟨gs, 6, none⟩)) _ (hI.next hR (by kernel_rfl) (Mod.refl _ _) (PB.quiet hI.1 (Mod.refl _ _) (HGs.out D 4 zw1 zw1 (hI.1).g (Mod.refl _ _))) (upd_same V 4 _))
  ·intro D V zw1 a hR hI K hK;obtain ⟨hM1, hB1, hG1⟩ := hI.1;have zd4 := hR.pred 4 (by kernel_rfl);have zf4 : V 4 = .pointer (some ⟨gs, 6, none⟩) := hI.2 4 zd4 rfl;have ze7 := hR.frame.done (t := 7) (j := 4) (by kernel_rfl) hR.ok zd4;have zx0 := hG1.cell 0; have zx1 := hG1.cell 1; have zx2 := hG1.cell 2; have zx3 := hG1.cell 3; have zx4 := hG1.cell 4; have zx5 := hG1.cell 5; have zx6 := hG1.cell 6;simp at zx0 zx1 zx2 zx3 zx4 zx5 zx6;rw [if_pos (by rfl)];go_simp;exact hK (.string ⟨text.toArray⟩) _ (hI.next hR (by kernel_rfl) (Mod.refl _ _) (PB.quiet hI.1 (Mod.refl _ _) (HGs.out D 5 zw1 zw1 (hI.1).g (Mod.refl _ _))) (upd_same V 5 _))
  ·intro D V zw1 a hR hI K hK;obtain ⟨hM1, hB1, hG1⟩ := hI.1;have zd3 := hR.pred 3 (by kernel_rfl);have zf3 : V 3 = .string (z0 ++ (⟨#[10]⟩ : ByteArray)) := hI.2 3 zd3 rfl;have zd5 := hR.pred 5 (by kernel_rfl);have zf5 : V 5 = .string ⟨text.toArray⟩ := hI.2 5 zd5 rfl;have ze6 := hR.frame.done (t := 6) (j := 3) (by kernel_rfl) hR.ok zd3;have ze8 := hR.frame.done (t := 8) (j := 5) (by kernel_rfl) hR.ok zd5
   have hb1 : ¬ (9223372036854775807 < z0.size + 1 + text.length) := by have := HT5.out; omega
   rw [if_pos (by rfl)];go_simp;exact hK (.string (z0 ++ (⟨#[10]⟩ : ByteArray) ++ (⟨text.toArray⟩ : ByteArray))) _ (hI.next hR (by kernel_rfl) (Mod.refl _ _) (PB.quiet hI.1 (Mod.refl _ _) (HGs.out D 6 zw1 zw1 (hI.1).g (Mod.refl _ _))) (upd_same V 6 _))
  ·intro D V zw1 a hR hI K hK;obtain ⟨hM1, hB1, hG1⟩ := hI.1;have zd6 := hR.pred 6 (by kernel_rfl);have zf6 : V 6 = .string (z0 ++ (⟨#[10]⟩ : ByteArray) ++ (⟨text.toArray⟩ : ByteArray)) := hI.2 6 zd6 rfl;have ze9 := hR.frame.done (t := 9) (j := 6) (by kernel_rfl) hR.ok zd6;rw [if_pos (by rfl)];go_simp;refine (HDG.out _).mono ?_;rintro e zw2 ⟨rfl, hm2⟩;exact hK (.string ⟨dg.toArray⟩) _ (hI.next hR (by kernel_rfl) hm2 (PB.quiet hI.1 hm2 (HGs.out D 7 _ _ (hI.1).g hm2)) (upd_same V 7 _))
  ·intro D V zw1 a hR hI K hK;obtain ⟨hM1, hB1, hG1⟩ := hI.1;have zd7 := hR.pred 7 (by kernel_rfl);have zf7 : V 7 = .string ⟨dg.toArray⟩ := hI.2 7 zd7 rfl;have ze10 := hR.frame.done (t := 10) (j := 7) (by kernel_rfl) hR.ok zd7;rw [if_pos (by rfl)];go_simp;exact hK (.string ⟨dg.toArray⟩) _ (hI.next hR (by kernel_rfl) (Mod.refl _ _) (PB.quiet hI.1 (Mod.refl _ _) (HGs.out D 8 zw1 zw1 (hI.1).g (Mod.refl _ _))) (upd_same V 8 _))
 ·intro D V w1 hD hI;obtain ⟨hM1, hB1, hG1⟩ := hI.1;have hMx := hM1;clear hM1;have hBx := hB1;clear hB1;have hGx := hG1;clear hG1;have zf0 : V 0 = .pointer (some ⟨gs, 2, none⟩) := hI.2 0 (hD 0 (by decide)) rfl;have zf1 : V 1 = .int .i64 kind := hI.2 1 (hD 1 (by decide)) rfl;have zf2 : V 2 = .string z0 := hI.2 2 (hD 2 (by decide)) rfl;have zf3 : V 3 = .string (z0 ++ (⟨#[10]⟩ : ByteArray)) := hI.2 3 (hD 3 (by decide)) rfl;have zf4 : V 4 = .pointer (some ⟨gs, 6, none⟩) := hI.2 4 (hD 4 (by decide)) rfl;have zf5 : V 5 = .string ⟨text.toArray⟩ := hI.2 5 (hD 5 (by decide)) rfl;have zf6 : V 6 = .string (z0 ++ (⟨#[10]⟩ : ByteArray) ++ (⟨text.toArray⟩ : ByteArray)) := hI.2 6 (hD 6 (by decide)) rfl;have zf7 : V 7 = .string ⟨dg.toArray⟩ := hI.2 7 (hD 7 (by decide)) rfl;have zf8 : V 8 = .string ⟨dg.toArray⟩ := hI.2 8 (hD 8 (by decide)) rfl;clear hI hD HGs;simp only [frAll, Act.put, List.setIfInBounds_toArray, List.set_cons_zero, List.set_cons_succ, Nat.zero_add, Nat.reduceAdd, zf0, zf1, zf2, zf3, zf4, zf5, zf6, zf7, zf8];clear zf0 zf1 zf2 zf3 zf4 zf5 zf6 zf7 zf8;clear V D
  go_wp2_with fail
  go_ret;exact StrPost1.of HS.out hMx

end Go.Proofs.YtpinlcapgoljfaaGreatDoor

/- placed, Check of package intake. -/
namespace Go.Proofs.YtpinlcapgoljfaaGreatDoor
open Go.RowKit

theorem when_any2 (b : Bool) (n : Int) (w : World) : Calls Tryz.prog 51 #[.bool b, .int .i64 n] w fun e w' => e = .returned (.int .i64 (if b then n else 0)) ∧ w = w' := by
 cases b
 ·exact (when_f _ _).mono fun e w' h => h
 ·exact (when_t _ _).mono fun e w' h => h
theorem ruleB_fnd (l : List Itm) (x : Itm) : ruleB l x = (decide (x.par ≠ []) && match fnd l x.par with
 | none => false
 | some p => decide (p.kind ≠ 1) && decide (p.kind ≠ 3)) := by
 unfold ruleB fnd
 cases h : plc l x.par with
 | none => rfl
 | some k =>
  obtain ⟨hk, _⟩ := plc_lt _ _ _ h;simp [hk]

set_option maxRecDepth 100000 in
set_option maxHeartbeats 4000000 in
theorem placed_calls (w : World) (b : Nat) (l : List Itm) (x : Itm) (i : Nat) (hx : l[i]? = some x) (hM : MapX w b l.length (byF l)) (hz : ∀ x ∈ l, ItB x) (hd : l.Pairwise fun x y => x.id ≠ y.id) (hl : l.length ≤ 100000) (hno : lpB l i = false) :
  Calls Tryz.prog 109 #[.map (some b), itA x] w (IntPost w (depE l i)) := by
 have hblt := hM.lt;have hzx : x.par.length ≤ 30000 := (hz x (List.mem_of_getElem? hx)).2.2.2.1;have HAB := Lib.hid (fun W (h : MapX W b l.length (byF l)) => iabove_calls W b l x i hx h hz hd hl);have HDE : Hid (depE l i = if ruleB l x then 16 else if 4 < (chn l l.length i).length then 2 else 0) := Lib.hid (by unfold depE; rw [hx]);have HRU := Lib.hid (ruleB_fnd l x);have HNO := Lib.hid hno;clear hx hz hd hno;have m0 : Pure w (w.alloc (.cells (itQ x) 83)) := pure_alloc _ _;have M0 := hM.pure m0;have B0 := Blk.new w 83 (itQ x);have hlook := M0.look_ok Tryz.underlying136 zero_item x.par (by omega);unfold byF at hlook;have HM0 := Lib.hid M0;have HB0 := Lib.hid B0;have Hm0 := Lib.hid m0;clear M0 B0 m0 hM
 cases hf : fnd l x.par with
 | none =>
  have hr : ruleB l x = false := by
   rw [HRU.out, hf];simp
  have HR := Lib.hid hr;rw [hf] at hlook;simp only [Option.map_none, Option.getD_none, Option.isSome_none] at hlook;have HM1 := Lib.hid (HM0.out.alloc (.cells itZc 83));have HB1 := Lib.hid (HB0.out.alloc (.cells itZc 83));have Hm1 := Lib.hid (Hm0.out.alloc (.cells itZc 83));unfold itZ at hlook;clear HM0 HB0 Hm0 HRU hf hr;unfold itQ at hlook HM1 HB1 Hm1;unfold itZc at HM1 HB1 Hm1;have hb1 := HB1.out;have c0 := hb1.cell 0; have c1 := hb1.cell 1; have c2 := hb1.cell 2; have c3 := hb1.cell 3; have c4 := hb1.cell 4; have c5 := hb1.cell 5; have c6 := hb1.cell 6; simp at c0 c1 c2 c3 c4 c5 c6;clear hb1;unfold itA at HAB ⊢
  cases he : x.par.isEmpty
  all_goals
   go_enter Tryz.func109, Tryz.ntmps109
   go_wp2_with fail
   refine (HAB.out _ HM1.out).mono ?_;rintro e w2 ⟨n, lp, rfl, hlp, hn0, m2⟩
   obtain rfl : lp = false := by rw [hlp]; exact HNO.out
   have hn := hn0 rfl;have m2 := Hm1.out.trans m2;have hd2 := HDE.out;rw [← hn, HR.out] at hd2;have HD2 := Lib.hid hd2;generalize depE l i = de at *;clear hlp hn hn0 hd2 HDE hlook c0 c1 c2 c3 c4 c5 c6 HM1 HB1 Hm1 HAB
   go_wp2_with fail
   refine (when_any2 _ _ _).mono ?_;rintro e w3 ⟨rfl, rfl⟩
   by_cases h4 : 4 < n
   ·have h4' : (4 : Int) < (n : Int) := by omega
    have hd4 : decide ((4 : Int) < (n : Int)) = true := decide_eq_true h4';rw [hd4]
    go_wp2_with fail
    go_ret;exact IntPost.of (by rw [HD2.out]; simp [h4]) m2
   ·have h4' : ¬ ((4 : Int) < (n : Int)) := by omega
    have hd4 : decide ((4 : Int) < (n : Int)) = false := decide_eq_false h4';rw [hd4]
    go_wp2_with fail
    go_ret;exact IntPost.of (by rw [HD2.out]; simp [h4]) m2
 | some p =>
  have hr : ruleB l x = (!x.par.isEmpty && (decide (p.kind ≠ 1) && decide (p.kind ≠ 3))) := by
   rw [HRU.out, hf];rw [show decide (x.par ≠ []) = !x.par.isEmpty by cases x.par <;> simp]
  have HR := Lib.hid hr;rw [hf] at hlook;simp only [Option.map_some, Option.getD_some, Option.isSome_some] at hlook;have HM1 := Lib.hid (HM0.out.alloc (.cells (itQ p) 83));have HB1 := Lib.hid (HB0.out.alloc (.cells (itQ p) 83));have Hm1 := Lib.hid (Hm0.out.alloc (.cells (itQ p) 83));clear HM0 HB0 Hm0 HRU hf hr;unfold itQ at hlook HM1 HB1 Hm1;unfold itA at hlook;have hb1 := HB1.out;have c0 := hb1.cell 0; have c1 := hb1.cell 1; have c2 := hb1.cell 2; have c3 := hb1.cell 3; have c4 := hb1.cell 4; have c5 := hb1.cell 5; have c6 := hb1.cell 6; simp at c0 c1 c2 c3 c4 c5 c6;clear hb1;unfold itA at HAB ⊢
  cases he : x.par.isEmpty
  ·rw [he] at HR
   by_cases hk1 : p.kind = 1
   ·have hk1' : (p.kind != 1) = false := by simpa using hk1
    have HR2 : Hid (ruleB l x = false) := Lib.hid (by rw [HR.out, hk1]; rfl);clear HR;clear hk1
    go_enter Tryz.func109, Tryz.ntmps109
    go_wp2_with fail
    refine (HAB.out _ HM1.out).mono ?_;rintro e w2 ⟨n, lp, rfl, hlp, hn0, m2⟩
    obtain rfl : lp = false := by rw [hlp]; exact HNO.out
    have hn := hn0 rfl;have m2 := Hm1.out.trans m2;have hd2 := HDE.out;rw [← hn, HR2.out] at hd2;have HD2 := Lib.hid hd2;generalize depE l i = de at *;clear hlp hn hn0 hd2 HDE hlook c0 c1 c2 c3 c4 c5 c6 HM1 HB1 Hm1 HAB
    go_wp2_with fail
    refine (when_any2 _ _ _).mono ?_;rintro e w3 ⟨rfl, rfl⟩
    by_cases h4 : 4 < n
    ·have h4' : (4 : Int) < (n : Int) := by omega
     have hd4 : decide ((4 : Int) < (n : Int)) = true := decide_eq_true h4';rw [hd4]
     go_wp2_with fail
     go_ret;exact IntPost.of (by rw [HD2.out]; simp [h4]) m2
    ·have h4' : ¬ ((4 : Int) < (n : Int)) := by omega
     have hd4 : decide ((4 : Int) < (n : Int)) = false := decide_eq_false h4';rw [hd4]
     go_wp2_with fail
     go_ret;exact IntPost.of (by rw [HD2.out]; simp [h4]) m2
   have hk1' : (p.kind != 1) = true := by simpa using hk1
   by_cases hk3 : p.kind = 3
   ·have hk3' : (p.kind != 3) = false := by simpa using hk3
    have HR2 : Hid (ruleB l x = false) := Lib.hid (by rw [HR.out, hk3]; rfl);clear HR;clear hk1 hk3
    go_enter Tryz.func109, Tryz.ntmps109
    go_wp2_with fail
    refine (HAB.out _ HM1.out).mono ?_;rintro e w2 ⟨n, lp, rfl, hlp, hn0, m2⟩
    obtain rfl : lp = false := by rw [hlp]; exact HNO.out
    have hn := hn0 rfl;have m2 := Hm1.out.trans m2;have hd2 := HDE.out;rw [← hn, HR2.out] at hd2;have HD2 := Lib.hid hd2;generalize depE l i = de at *;clear hlp hn hn0 hd2 HDE hlook c0 c1 c2 c3 c4 c5 c6 HM1 HB1 Hm1 HAB
    go_wp2_with fail
    refine (when_any2 _ _ _).mono ?_;rintro e w3 ⟨rfl, rfl⟩
    by_cases h4 : 4 < n
    ·have h4' : (4 : Int) < (n : Int) := by omega
     have hd4 : decide ((4 : Int) < (n : Int)) = true := decide_eq_true h4';rw [hd4]
     go_wp2_with fail
     go_ret;exact IntPost.of (by rw [HD2.out]; simp [h4]) m2
    ·have h4' : ¬ ((4 : Int) < (n : Int)) := by omega
     have hd4 : decide ((4 : Int) < (n : Int)) = false := decide_eq_false h4';rw [hd4]
     go_wp2_with fail
     go_ret;exact IntPost.of (by rw [HD2.out]; simp [h4]) m2
   have hk3' : (p.kind != 3) = true := by simpa using hk3
   have HR2 : Hid (ruleB l x = true) := Lib.hid (by rw [HR.out]; simp [hk1, hk3]);clear HAB HR hk1 hk3
   go_enter Tryz.func109, Tryz.ntmps109
   go_wp2_with fail
   go_ret;exact IntPost.of (by rw [HDE.out, HR2.out]; rfl) Hm1.out
  ·rw [he] at HR;have HR2 : Hid (ruleB l x = false) := Lib.hid (by rw [HR.out]; rfl)
   by_cases hdm : True
   ·have hk3 := hdm;have hk1 := hdm;clear HR;clear hk1
    go_enter Tryz.func109, Tryz.ntmps109
    go_wp2_with fail
    refine (HAB.out _ HM1.out).mono ?_;rintro e w2 ⟨n, lp, rfl, hlp, hn0, m2⟩
    obtain rfl : lp = false := by rw [hlp]; exact HNO.out
    have hn := hn0 rfl;have m2 := Hm1.out.trans m2;have hd2 := HDE.out;rw [← hn, HR2.out] at hd2;have HD2 := Lib.hid hd2;generalize depE l i = de at *;clear hlp hn hn0 hd2 HDE hlook c0 c1 c2 c3 c4 c5 c6 HM1 HB1 Hm1 HAB
    go_wp2_with fail
    refine (when_any2 _ _ _).mono ?_;rintro e w3 ⟨rfl, rfl⟩
    by_cases h4 : 4 < n
    ·have h4' : (4 : Int) < (n : Int) := by omega
     have hd4 : decide ((4 : Int) < (n : Int)) = true := decide_eq_true h4';rw [hd4]
     go_wp2_with fail
     go_ret;exact IntPost.of (by rw [HD2.out]; simp [h4]) m2
    ·have h4' : ¬ ((4 : Int) < (n : Int)) := by omega
     have hd4 : decide ((4 : Int) < (n : Int)) = false := decide_eq_false h4';rw [hd4]
     go_wp2_with fail
     go_ret;exact IntPost.of (by rw [HD2.out]; simp [h4]) m2
   ·exact absurd trivial hdm

end Go.Proofs.YtpinlcapgoljfaaGreatDoor

/- Check of package intake. -/
namespace Go.Proofs.YtpinlcapgoljfaaGreatDoor
open Go.RowKit

theorem leS_iff {a b : Str} : leS a b = true ↔ a ≤ b := by
 unfold leS;rw [bytesLess_eq];simp only [Bool.or_eq_true, decide_eq_true_eq]
 constructor
 ·rintro (h | h)
  ·exact List.le_of_lt h
  ·rw [eq_of_beq h]; exact List.le_refl _
 ·intro h
  by_cases hlt : a < b
  ·exact .inl hlt
  ·exact .inr (by rw [str_total hlt (List.not_lt.2 h)]; simp)
/-- The id ahead of place k. -/
def pid (xs : List Itm) : Nat → Str
 | 0 => []
 | k + 1 => match xs[k]? with | some x => x.id | none => []
theorem pid_succ {xs : List Itm} {k : Nat} (h : k < xs.length) : pid xs (k + 1) = xs[k].id := by
 simp [pid, h]
theorem firstErr2 {e1 e2 er : Int} (h : firstErr [e1, e2] = er) : er = if e1 ≠ 0 then e1 else e2 := by
 rw [← h];unfold firstErr
 by_cases h1 : e1 = 0
 ·simp only [h1, if_true];unfold firstErr
  by_cases h2 : e2 = 0
  ·simp [h2, firstErr]
  ·simp [h2]
 ·simp [h1]
theorem ids_of_ordE {l : List Itm} (h : ordE itemE [] l = 0) : l.Pairwise fun x y => x.id ≠ y.id := ordE_ne h
theorem any_take_snoc {α : Type} (p : α → Bool) (l : List α) (k : Nat) (h : k < l.length) : (l.take (k + 1)).any p = ((l.take k).any p || p l[k]) := by
 rw [List.take_succ_eq_append_getElem h, List.any_append];simp
theorem any_of_at {α : Type} {p : α → Bool} {l : List α} {k : Nat} (h : k < l.length) (hp : p l[k] = true) : l.any p = true := List.any_eq_true.2 ⟨_, List.getElem_mem h, hp⟩
theorem missB_fnd (l : List Itm) (x : Itm) : missB l x = (!x.par.isEmpty && !(fnd l x.par).isSome) := by
 unfold missB;rw [fnd_isSome, show decide (x.par ≠ []) = !x.par.isEmpty by cases x.par <;> simp]
 cases plc l x.par <;> rfl

def Ck1 (w : World) (xs : List Itm) (gk : Nat) (i : Value) (wr : World) : Prop := ∃ k : Nat, xs.length - k = gk ∧ k ≤ xs.length ∧ i = .int .i64 (k : Int) ∧ ordE itemE (pid xs k) (xs.drop k) = ordE itemE [] xs ∧ Pure w wr
def Ck2 (w : World) (b : Nat) (xs : List Itm) (gk : Nat) (i : Value) (wr : World) : Prop := ∃ k : Nat, xs.length - k = gk ∧ k ≤ xs.length ∧ i = .int .i64 (k : Int) ∧ (xs.take k).any (missB xs) = false ∧ MapX wr b xs.length (byF xs) ∧ Pure w wr
def Ck3 (w : World) (b : Nat) (xs : List Itm) (gk : Nat) (i : Value) (wr : World) : Prop := ∃ k : Nat, xs.length - k = gk ∧ k ≤ xs.length ∧ i = .int .i64 (k : Int) ∧ (∀ j, j < k → lpB xs j = false) ∧ MapX wr b xs.length (byF xs) ∧ Pure w wr
def Ck4 (w : World) (b : Nat) (xs : List Itm) (gk : Nat) (i : Value) (wr : World) : Prop := ∃ k : Nat, xs.length - k = gk ∧ k ≤ xs.length ∧ i = .int .i64 (k : Int) ∧ firstE (depE xs) k (xs.length - k) = firstE (depE xs) 0 xs.length ∧ MapX wr b xs.length (byF xs) ∧ Pure w wr

set_option maxRecDepth 100000 in
set_option maxHeartbeats 8000000 in
theorem check_calls (w : World) (v : Value) (xs : List Itm) (hv : Its w v xs) (hz : ∀ x ∈ xs, ItB x) (hl : xs.length ≤ 2000) (hE : Env w) : Calls Tryz.prog 65 #[v] w (IntPost w (itsE itemE xs)) := by
 obtain ⟨A, n, c, rfl, hc1, hc2, hl2, hr⟩ := hv
 have hln : xs.length = n := by rw [itV_len] at hl2; omega
 subst hln;have HBY := Lib.hid (fun W (h : Pure w W) hd => byId_calls W (.slice A xs.length c) xs (Its.pure ⟨A, xs.length, c, rfl, hc1, hc2, hl2, hr⟩ h) hz hd (by omega));have HR := Lib.hid hr;have HZ := Lib.hid hz;have HE := Lib.hid hE;have HIE : Hid (itsE itemE xs = if ordE itemE [] xs ≠ 0 then ordE itemE [] xs else if xs.any (missB xs) then 8 else treeE xs) := Lib.hid (by unfold itsE; rw [if_neg (by omega)])
 have n1 : ¬ ((2000 : Int) < (xs.length : Int)) := by omega
 have m0 : Pure w w := Mod.refl _ _;clear hl2 hr hz hE
 go_enter Tryz.func65, Tryz.ntmps65
 go_wp2_with fail
 go_loopg [23] xs.length (fun gk i wr => Ck1 w xs gk i wr)
 case atStart => exact ⟨0, by omega, by omega, rfl, rfl, m0⟩
 case round =>
  clear m0;obtain ⟨k, rfl, hk, rfl, hord, hm⟩ := hrel
  by_cases hlt : k < xs.length
  ·obtain ⟨g, off, rfl, hrow⟩ := HR.out (by omega);have hrow1 := hrow.mod hm id;obtain ⟨q0, q1, q2, q3, q4, q5, q6⟩ := item_cells hrow1 hlt;have HST := Lib.hid (ordE_step (E := itemE) hlt (pid xs k));rw [hord] at HST;have HPI := Lib.hid (pid_succ hlt);have hzx := HZ.out _ (List.getElem_mem hlt);have HCI := Lib.hid (fun W (h : Pure w W) => checkItem_calls W xs[k] hzx (HE.out.pure h));have HKN : Hid (itemE xs[k] = 0 → xs[k].id ≠ []) := Lib.hid (fun h e => by have := itemE_id h; rw [e] at this; cases this);have HXK : Hid (∃ x, x = xs[k]) := Lib.hid ⟨_, rfl⟩;clear hord;have HB0 := Lib.hid (Blk.new wr 83 (itQ xs[k]));have Hm0 := Lib.hid (pure_alloc wr (.cells (itQ xs[k]) 83))
   by_cases h0 : k = 0
   ·subst h0
    have HST0 : Hid (ordE itemE [] xs = if itemE xs[0] ≠ 0 then itemE xs[0] else ordE itemE xs[0].id (xs.drop (0 + 1))) := Lib.hid (by
     rw [HST.out]
     show (if itemE xs[0] ≠ 0 then itemE xs[0] else if xs[0].id ≤ [] then 7 else ordE itemE xs[0].id (xs.drop (0 + 1))) = _
     by_cases he : itemE xs[0] = 0
     ·have h3 : ¬ xs[0].id ≤ [] := by
       intro h;have h1 := HKN.out he
       cases hh : xs[0].id with
       | nil => exact h1 hh
       | cons a t =>
        rw [hh] at h;exact absurd (List.nil_lt_cons a t) (List.not_lt.2 h)
      rw [if_neg h3]
     ·rw [if_pos he, if_pos he])
    obtain ⟨e1, he1⟩ : ∃ e1, itemE xs[0] = e1 := ⟨_, rfl⟩;obtain ⟨er, her⟩ : ∃ er, firstErr [e1, 0] = er := ⟨_, rfl⟩;rw [he1] at HCI HST0;have HER := Lib.hid her;have HFE := Lib.hid (fun (W : World) (g c : Nat) (h : Blk W g 33 #[.int .i64 e1, .int .i64 0]) => firstE_calls W g c [e1, 0] h.row0 (by simp));rw [her] at HFE;have HWF := Lib.hid (fun W => when_f 7 W);clear hrow hrow1 HST HKN he1 her HXK;simp only [Nat.zero_mul, Nat.add_zero] at q0 q1 q2 q3 q4 q5 q6;generalize xs[0] = x at *;unfold itQ at HB0 Hm0;unfold itA at HCI
    go_wp2_with fail
    go_upto_region 6 with (fail)
    generalize (wr.alloc (.cells #[.string ⟨x.id.toArray⟩, .string ⟨x.cust.toArray⟩, .int .i64 x.kind, .string ⟨x.name.toArray⟩, .int .i64 x.tm, .string ⟨x.par.toArray⟩, .string ⟨x.text.toArray⟩] 83)) = WS at *;have hgsz := hm.size;generalize hgs : wr.heap.size = gs at *;have hgs1 := Nat.le_of_eq hgs;clear hgs q0 q1 q2 q3 q4 q5 q6
    go_cut [5] (fun p wx => p = .int .i64 er ∧ Pure wr wx)
    case first =>
     have HGs := Lib.hid (show ∀ (D : Nat → Bool) (zzi : Nat) (zq zq' : World), (fun _ zq => (fun Z => Blk Z gs 83 #[.string ⟨x.id.toArray⟩, .string ⟨x.cust.toArray⟩, .int .i64 x.kind, .string ⟨x.name.toArray⟩, .int .i64 x.tm, .string ⟨x.par.toArray⟩, .string ⟨x.text.toArray⟩]) zq) D zq → Mod (fun _ => False) zq zq' → (fun _ zq => (fun Z => Blk Z gs 83 #[.string ⟨x.id.toArray⟩, .string ⟨x.cust.toArray⟩, .int .i64 x.kind, .string ⟨x.name.toArray⟩, .int .i64 x.tm, .string ⟨x.par.toArray⟩, .string ⟨x.text.toArray⟩]) zq) (upd D zzi true) zq' from by intro D zzi zq zq' h hm; (exact h.modp hm))
     refine wp_region_inv (by kernel_rfl) (by kernel_rfl) (InvF (R := Mod (fun _ => False)) [.is (.agg #[.string ⟨x.id.toArray⟩, .string ⟨x.cust.toArray⟩, .int .i64 x.kind, .string ⟨x.name.toArray⟩, .int .i64 x.tm, .string ⟨x.par.toArray⟩, .string ⟨x.text.toArray⟩]),
       .is (.int .i64 e1),
       .is (.int .i64 0),
       .is (.bool false),
       .is (.bool false),
       .is (undef),
       .is (undef),
       .is (undef),
       .is (undef),
       .is (undef),
       .is (undef),
       .is (undef),
       .is (undef),
       .is (undef),
       .is (undef),
       .is (.bool false),
       .is (.int .i64 0),
       ⟨fun zv zw => ∃ (g_17 : Nat), zv = .slice (some ⟨g_17, 0, none⟩) 2 2 ∧ WS.heap.size ≤ g_17 ∧ Blk zw g_17 33 #[.int .i64 e1, .int .i64 0], (by rintro zv zw zx ⟨g_17, rfl, c0, q0⟩ hm; exact ⟨g_17, rfl, c0, (q0.modp hm)⟩), none, some 18⟩,
       .is (.int .i64 er),
       .is (.int .i64 er)]
       (PB wr (fun _ => False) WS.heap.size (fun _ zq => (fun Z => Blk Z gs 83 #[.string ⟨x.id.toArray⟩, .string ⟨x.cust.toArray⟩, .int .i64 x.kind, .string ⟨x.name.toArray⟩, .int .i64 x.tm, .string ⟨x.par.toArray⟩, .string ⟨x.text.toArray⟩]) zq))) (InvF.start (PB.start Hm0.out (Nat.le_refl _) (HB0.out.drew))) ?_ ?_
     ·refine .cons ?_ (.cons ?_ (.cons ?_ (.cons ?_ (.cons ?_ (.cons ?_ (.cons ?_ (.cons ?_ (.cons ?_ (.cons ?_ (.cons ?_ (.cons ?_ (.cons ?_ (.cons ?_ (.cons ?_ (.cons ?_ (.cons ?_ (.cons ?_ (.cons ?_ (.cons ?_ .nil)))))))))))))))))))
      ·intro D V zw1 a hR hI K hK;obtain ⟨hM1, hB1, hG1⟩ := hI.1;have ze4 := hR.frame.other (t := 4) (by kernel_rfl) rfl;have zx0 := hG1.cell 0; have zx1 := hG1.cell 1; have zx2 := hG1.cell 2; have zx3 := hG1.cell 3; have zx4 := hG1.cell 4; have zx5 := hG1.cell 5; have zx6 := hG1.cell 6;simp at zx0 zx1 zx2 zx3 zx4 zx5 zx6;rw [if_pos (by rfl)];go_simp;exact hK (.agg #[.string ⟨x.id.toArray⟩, .string ⟨x.cust.toArray⟩, .int .i64 x.kind, .string ⟨x.name.toArray⟩, .int .i64 x.tm, .string ⟨x.par.toArray⟩, .string ⟨x.text.toArray⟩]) _ (hI.next hR (by kernel_rfl) (Mod.refl _ _) (PB.quiet hI.1 (Mod.refl _ _) (HGs.out D 0 zw1 zw1 (hI.1).g (Mod.refl _ _))) (upd_same V 0 _))
      ·intro D V zw1 a hR hI K hK;obtain ⟨hM1, hB1, hG1⟩ := hI.1;have zd0 := hR.pred 0 (by kernel_rfl);have zf0 : V 0 = .agg #[.string ⟨x.id.toArray⟩, .string ⟨x.cust.toArray⟩, .int .i64 x.kind, .string ⟨x.name.toArray⟩, .int .i64 x.tm, .string ⟨x.par.toArray⟩, .string ⟨x.text.toArray⟩] := hI.2 0 zd0 rfl;have ze28 := hR.frame.done (t := 28) (j := 0) (by kernel_rfl) hR.ok zd0;rw [if_pos (by rfl)];go_simp;refine (HCI.out _ (hm.trans hM1)).mono ?_;rintro e zw2 ⟨rfl, hm2⟩;exact hK (.int .i64 e1) _ (hI.next hR (by kernel_rfl) hm2 (PB.quiet hI.1 hm2 (HGs.out D 1 _ _ (hI.1).g hm2)) (upd_same V 1 _))
      ·intro D V zw1 a hR hI K hK;obtain ⟨hM1, hB1, hG1⟩ := hI.1;have ze3 := hR.frame.other (t := 3) (by kernel_rfl) rfl;rw [if_pos (by rfl)];go_simp;exact hK (.int .i64 0) _ (hI.next hR (by kernel_rfl) (Mod.refl _ _) (PB.quiet hI.1 (Mod.refl _ _) (HGs.out D 2 zw1 zw1 (hI.1).g (Mod.refl _ _))) (upd_same V 2 _))
      ·intro D V zw1 a hR hI K hK;obtain ⟨hM1, hB1, hG1⟩ := hI.1;have zd2 := hR.pred 2 (by kernel_rfl);have zf2 : V 2 = .int .i64 0 := hI.2 2 zd2 rfl;have ze30 := hR.frame.done (t := 30) (j := 2) (by kernel_rfl) hR.ok zd2;rw [if_pos (by rfl)];go_simp;exact hK (.bool false) _ (hI.next hR (by kernel_rfl) (Mod.refl _ _) (PB.quiet hI.1 (Mod.refl _ _) (HGs.out D 3 zw1 zw1 (hI.1).g (Mod.refl _ _))) (upd_same V 3 _))
      ·intro D V zw1 a hR hI K hK;obtain ⟨hM1, hB1, hG1⟩ := hI.1;have zd3 := hR.pred 3 (by kernel_rfl);have zf3 : V 3 = .bool false := hI.2 3 zd3 rfl;have ze31 := hR.frame.done (t := 31) (j := 3) (by kernel_rfl) hR.ok zd3;rw [if_pos (by rfl)];go_simp;exact hK (.bool false) _ (hI.next hR (by kernel_rfl) (Mod.refl _ _) (PB.quiet hI.1 (Mod.refl _ _) (HGs.out D 4 zw1 zw1 (hI.1).g (Mod.refl _ _))) (upd_same V 4 _))
      ·intro D V zw1 a hR hI K hK;obtain ⟨hM1, hB1, hG1⟩ := hI.1;have zd4 := hR.pred 4 (by kernel_rfl);have zf4 : V 4 = .bool false := hI.2 4 zd4 rfl;have ze32 := hR.frame.done (t := 32) (j := 4) (by kernel_rfl) hR.ok zd4;rw [if_neg (by simp [Region.wanted, yielded, ze32, zf4])];exact hK undef _ (hI.next hR (by kernel_rfl) (Mod.refl _ _) (PB.quiet hI.1 (Mod.refl _ _) (HGs.out D 5 zw1 zw1 (hI.1).g (Mod.refl _ _))) (upd_same V 5 _))
      ·intro D V zw1 a hR hI K hK;obtain ⟨hM1, hB1, hG1⟩ := hI.1;have zd4 := hR.pred 4 (by kernel_rfl);have zf4 : V 4 = .bool false := hI.2 4 zd4 rfl;have ze32 := hR.frame.done (t := 32) (j := 4) (by kernel_rfl) hR.ok zd4;rw [if_neg (by simp [Region.wanted, yielded, ze32, zf4])];exact hK undef _ (hI.next hR (by kernel_rfl) (Mod.refl _ _) (PB.quiet hI.1 (Mod.refl _ _) (HGs.out D 6 zw1 zw1 (hI.1).g (Mod.refl _ _))) (upd_same V 6 _))
      ·intro D V zw1 a hR hI K hK;obtain ⟨hM1, hB1, hG1⟩ := hI.1;have zd4 := hR.pred 4 (by kernel_rfl);have zf4 : V 4 = .bool false := hI.2 4 zd4 rfl;have ze32 := hR.frame.done (t := 32) (j := 4) (by kernel_rfl) hR.ok zd4;rw [if_neg (by simp [Region.wanted, yielded, ze32, zf4])];exact hK undef _ (hI.next hR (by kernel_rfl) (Mod.refl _ _) (PB.quiet hI.1 (Mod.refl _ _) (HGs.out D 7 zw1 zw1 (hI.1).g (Mod.refl _ _))) (upd_same V 7 _))
      ·intro D V zw1 a hR hI K hK;obtain ⟨hM1, hB1, hG1⟩ := hI.1;have zd4 := hR.pred 4 (by kernel_rfl);have zf4 : V 4 = .bool false := hI.2 4 zd4 rfl;have ze32 := hR.frame.done (t := 32) (j := 4) (by kernel_rfl) hR.ok zd4;rw [if_neg (by simp [Region.wanted, yielded, ze32, zf4])];exact hK undef _ (hI.next hR (by kernel_rfl) (Mod.refl _ _) (PB.quiet hI.1 (Mod.refl _ _) (HGs.out D 8 zw1 zw1 (hI.1).g (Mod.refl _ _))) (upd_same V 8 _))
      ·intro D V zw1 a hR hI K hK;obtain ⟨hM1, hB1, hG1⟩ := hI.1;have zd4 := hR.pred 4 (by kernel_rfl);have zf4 : V 4 = .bool false := hI.2 4 zd4 rfl;have ze32 := hR.frame.done (t := 32) (j := 4) (by kernel_rfl) hR.ok zd4;rw [if_neg (by simp [Region.wanted, yielded, ze32, zf4])];exact hK undef _ (hI.next hR (by kernel_rfl) (Mod.refl _ _) (PB.quiet hI.1 (Mod.refl _ _) (HGs.out D 9 zw1 zw1 (hI.1).g (Mod.refl _ _))) (upd_same V 9 _))
      ·intro D V zw1 a hR hI K hK;obtain ⟨hM1, hB1, hG1⟩ := hI.1;have zd4 := hR.pred 4 (by kernel_rfl);have zf4 : V 4 = .bool false := hI.2 4 zd4 rfl;have ze32 := hR.frame.done (t := 32) (j := 4) (by kernel_rfl) hR.ok zd4;rw [if_neg (by simp [Region.wanted, yielded, ze32, zf4])];exact hK undef _ (hI.next hR (by kernel_rfl) (Mod.refl _ _) (PB.quiet hI.1 (Mod.refl _ _) (HGs.out D 10 zw1 zw1 (hI.1).g (Mod.refl _ _))) (upd_same V 10 _))
      ·intro D V zw1 a hR hI K hK;obtain ⟨hM1, hB1, hG1⟩ := hI.1;have zd4 := hR.pred 4 (by kernel_rfl);have zf4 : V 4 = .bool false := hI.2 4 zd4 rfl;have ze32 := hR.frame.done (t := 32) (j := 4) (by kernel_rfl) hR.ok zd4;rw [if_neg (by simp [Region.wanted, yielded, ze32, zf4])];exact hK undef _ (hI.next hR (by kernel_rfl) (Mod.refl _ _) (PB.quiet hI.1 (Mod.refl _ _) (HGs.out D 11 zw1 zw1 (hI.1).g (Mod.refl _ _))) (upd_same V 11 _))
      ·intro D V zw1 a hR hI K hK;obtain ⟨hM1, hB1, hG1⟩ := hI.1;have zd4 := hR.pred 4 (by kernel_rfl);have zf4 : V 4 = .bool false := hI.2 4 zd4 rfl;have ze32 := hR.frame.done (t := 32) (j := 4) (by kernel_rfl) hR.ok zd4;rw [if_neg (by simp [Region.wanted, yielded, ze32, zf4])];exact hK undef _ (hI.next hR (by kernel_rfl) (Mod.refl _ _) (PB.quiet hI.1 (Mod.refl _ _) (HGs.out D 12 zw1 zw1 (hI.1).g (Mod.refl _ _))) (upd_same V 12 _))
      ·intro D V zw1 a hR hI K hK;obtain ⟨hM1, hB1, hG1⟩ := hI.1;have zd4 := hR.pred 4 (by kernel_rfl);have zf4 : V 4 = .bool false := hI.2 4 zd4 rfl;have ze32 := hR.frame.done (t := 32) (j := 4) (by kernel_rfl) hR.ok zd4;rw [if_neg (by simp [Region.wanted, yielded, ze32, zf4])];exact hK undef _ (hI.next hR (by kernel_rfl) (Mod.refl _ _) (PB.quiet hI.1 (Mod.refl _ _) (HGs.out D 13 zw1 zw1 (hI.1).g (Mod.refl _ _))) (upd_same V 13 _))
      ·intro D V zw1 a hR hI K hK;obtain ⟨hM1, hB1, hG1⟩ := hI.1;have zd4 := hR.pred 4 (by kernel_rfl);have zf4 : V 4 = .bool false := hI.2 4 zd4 rfl;have ze32 := hR.frame.done (t := 32) (j := 4) (by kernel_rfl) hR.ok zd4;rw [if_neg (by simp [Region.wanted, yielded, ze32, zf4])];exact hK undef _ (hI.next hR (by kernel_rfl) (Mod.refl _ _) (PB.quiet hI.1 (Mod.refl _ _) (HGs.out D 14 zw1 zw1 (hI.1).g (Mod.refl _ _))) (upd_same V 14 _))
      ·intro D V zw1 a hR hI K hK;obtain ⟨hM1, hB1, hG1⟩ := hI.1;have zd4 := hR.pred 4 (by kernel_rfl);have zf4 : V 4 = .bool false := hI.2 4 zd4 rfl;have zd14 := hR.pred 14 (by kernel_rfl);have zf14 : V 14 = undef := hI.2 14 zd14 rfl;have ze32 := hR.frame.done (t := 32) (j := 4) (by kernel_rfl) hR.ok zd4;have ze42 := hR.frame.done (t := 42) (j := 14) (by kernel_rfl) hR.ok zd14;rw [if_pos (by rfl)];go_simp;exact hK (.bool false) _ (hI.next hR (by kernel_rfl) (Mod.refl _ _) (PB.quiet hI.1 (Mod.refl _ _) (HGs.out D 15 zw1 zw1 (hI.1).g (Mod.refl _ _))) (upd_same V 15 _))
      ·intro D V zw1 a hR hI K hK;obtain ⟨hM1, hB1, hG1⟩ := hI.1;have zd15 := hR.pred 15 (by kernel_rfl);have zf15 : V 15 = .bool false := hI.2 15 zd15 rfl;have ze43 := hR.frame.done (t := 43) (j := 15) (by kernel_rfl) hR.ok zd15;rw [if_pos (by rfl)];go_simp;refine (HWF.out _).mono ?_;rintro e zw2 ⟨rfl, rfl⟩;have hm2 : Pure zw1 zw1 := Mod.refl _ _;exact hK (.int .i64 0) _ (hI.next hR (by kernel_rfl) hm2 (PB.quiet hI.1 hm2 (HGs.out D 16 _ _ (hI.1).g hm2)) (upd_same V 16 _))
      ·intro D V zw1 a hR hI K hK;obtain ⟨hM1, hB1, hG1⟩ := hI.1;have zd1 := hR.pred 1 (by kernel_rfl);have zf1 : V 1 = .int .i64 e1 := hI.2 1 zd1 rfl;have zd16 := hR.pred 16 (by kernel_rfl);have zf16 : V 16 = .int .i64 0 := hI.2 16 zd16 rfl;have ze29 := hR.frame.done (t := 29) (j := 1) (by kernel_rfl) hR.ok zd1;have ze44 := hR.frame.done (t := 44) (j := 16) (by kernel_rfl) hR.ok zd16;rw [if_pos (by rfl)];go_simp;exact hK (_) _ (hI.next hR (by kernel_rfl) ((Mod.refl _ _).alloc _) (PB.quiet hI.1 (pure_alloc _ _) (HGs.out D 17 _ _ (hI.1).g ((Mod.refl _ _).alloc _))) (⟨_, upd_same V 17 _, (by omega), (Blk.new _ _ _)⟩))
      ·intro D V zw1 a hR hI K hK;obtain ⟨hM1, hB1, hG1⟩ := hI.1;have zd17 := hR.pred 17 (by kernel_rfl);have zF17 : ∃ (g_17 : Nat), V 17 = .slice (some ⟨g_17, 0, none⟩) 2 2 ∧ WS.heap.size ≤ g_17 ∧ Blk zw1 g_17 33 #[.int .i64 e1, .int .i64 0] := hI.2 17 zd17 (by show (!D 18) = true; rw [hR.not]; rfl);obtain ⟨g_17, zf17, c17_0, b17_0⟩ := zF17;have ze45 := hR.frame.done (t := 45) (j := 17) (by kernel_rfl) hR.ok zd17;rw [if_pos (by rfl)];go_simp;refine (HFE.out _ _ _ b17_0).mono ?_;rintro e zw2 ⟨rfl, hm2⟩;exact hK (.int .i64 er) _ (hI.next hR (by kernel_rfl) hm2 (PB.quiet hI.1 hm2 (HGs.out D 18 _ _ (hI.1).g hm2)) (upd_same V 18 _))
      ·intro D V zw1 a hR hI K hK;obtain ⟨hM1, hB1, hG1⟩ := hI.1;have zd18 := hR.pred 18 (by kernel_rfl);have zf18 : V 18 = .int .i64 er := hI.2 18 zd18 rfl;have ze46 := hR.frame.done (t := 46) (j := 18) (by kernel_rfl) hR.ok zd18;rw [if_pos (by rfl)];go_simp;exact hK (.int .i64 er) _ (hI.next hR (by kernel_rfl) (Mod.refl _ _) (PB.quiet hI.1 (Mod.refl _ _) (HGs.out D 19 zw1 zw1 (hI.1).g (Mod.refl _ _))) (upd_same V 19 _))
     ·intro D V w1 hD hI;obtain ⟨hM1, hB1, hG1⟩ := hI.1;have hMx := hM1;clear hM1;have hBx := hB1;clear hB1;have hGx := hG1;clear hG1;have zf0 : V 0 = .agg #[.string ⟨x.id.toArray⟩, .string ⟨x.cust.toArray⟩, .int .i64 x.kind, .string ⟨x.name.toArray⟩, .int .i64 x.tm, .string ⟨x.par.toArray⟩, .string ⟨x.text.toArray⟩] := hI.2 0 (hD 0 (by decide)) rfl;have zf1 : V 1 = .int .i64 e1 := hI.2 1 (hD 1 (by decide)) rfl;have zf2 : V 2 = .int .i64 0 := hI.2 2 (hD 2 (by decide)) rfl;have zf3 : V 3 = .bool false := hI.2 3 (hD 3 (by decide)) rfl;have zf4 : V 4 = .bool false := hI.2 4 (hD 4 (by decide)) rfl;have zf5 : V 5 = undef := hI.2 5 (hD 5 (by decide)) rfl;have zf6 : V 6 = undef := hI.2 6 (hD 6 (by decide)) rfl;have zf7 : V 7 = undef := hI.2 7 (hD 7 (by decide)) rfl;have zf8 : V 8 = undef := hI.2 8 (hD 8 (by decide)) rfl;have zf9 : V 9 = undef := hI.2 9 (hD 9 (by decide)) rfl;have zf10 : V 10 = undef := hI.2 10 (hD 10 (by decide)) rfl;have zf11 : V 11 = undef := hI.2 11 (hD 11 (by decide)) rfl;have zf12 : V 12 = undef := hI.2 12 (hD 12 (by decide)) rfl;have zf13 : V 13 = undef := hI.2 13 (hD 13 (by decide)) rfl;have zf14 : V 14 = undef := hI.2 14 (hD 14 (by decide)) rfl;have zf15 : V 15 = .bool false := hI.2 15 (hD 15 (by decide)) rfl;have zf16 : V 16 = .int .i64 0 := hI.2 16 (hD 16 (by decide)) rfl;have zf18 : V 18 = .int .i64 er := hI.2 18 (hD 18 (by decide)) rfl;have zf19 : V 19 = .int .i64 er := hI.2 19 (hD 19 (by decide)) rfl;clear hI hD HGs;simp only [frAll, Act.put, List.setIfInBounds_toArray, List.set_cons_zero, List.set_cons_succ, Nat.zero_add, Nat.reduceAdd, zf0, zf1, zf2, zf3, zf4, zf5, zf6, zf7, zf8, zf9, zf10, zf11, zf12, zf13, zf14, zf15, zf16, zf18, zf19];clear zf0 zf1 zf2 zf3 zf4 zf5 zf6 zf7 zf8 zf9 zf10 zf11 zf12 zf13 zf14 zf15 zf16 zf18 zf19;generalize V 17 = u17;clear V D
      go_wp2_with fail
      go_meet;exact ⟨rfl, hMx⟩
    case rest =>
     obtain ⟨rfl, m1⟩ := hcut;have m2 := hm.trans m1;have hr2 := firstErr2 HER.out;have HR2 := Lib.hid hr2;clear HCI HFE HWF HB0 Hm0 WS hr2
     by_cases he0 : er = 0
     ·have he1 : e1 = 0 := by
       have := HR2.out;rw [he0] at this
       by_cases h : e1 = 0
       ·exact h
       ·rw [if_pos h] at this; exact absurd this.symm h
      have HS1 : Hid (ordE itemE [] xs = ordE itemE x.id (xs.drop (0 + 1))) := Lib.hid (by rw [HST0.out, he1]; simp);clear HST0 HR2 HER;subst he0
      go_wp2_with fail
      go_roundg (xs.length - (0 + 1))
      case measure => omega
      case rel => exact ⟨0 + 1, rfl, by omega, by simp, by rw [HPI.out, HS1.out], m2⟩
     ·have he0' : (er != 0) = true := by simpa using he0
      have hx : e1 ≠ 0 ∧ er = e1 := by
       have := HR2.out
       by_cases h : e1 = 0
       ·rw [if_neg (by simpa using h)] at this; exact absurd this he0
       ·rw [if_pos h] at this; exact ⟨h, this⟩
      have HF : Hid (itsE itemE xs = er) := Lib.hid (by rw [HIE.out, HST0.out, if_pos hx.1, if_pos hx.1, hx.2]);clear HST0 HR2 HER hx HIE
      go_wp2_with fail
      go_ret;exact IntPost.of HF.out m2
   ·obtain ⟨j, rfl⟩ : ∃ j, k = j + 1 := ⟨k - 1, by omega⟩
    have hjl : j < xs.length := by omega
    have hy0 := (item_cells hrow1 hjl).1;have hpj := pid_succ hjl;have HPJ : Hid (pid xs (j + 1) = xs[j].id) := Lib.hid hpj;obtain ⟨e1, he1⟩ : ∃ e1, itemE xs[j + 1] = e1 := ⟨_, rfl⟩;obtain ⟨bo, hbo⟩ : ∃ bo, leS xs[j + 1].id xs[j].id = bo := ⟨_, rfl⟩;obtain ⟨e2, he2⟩ : ∃ e2 : Int, (if bo = true then 7 else 0) = e2 := ⟨_, rfl⟩;obtain ⟨er, her⟩ : ∃ er, firstErr [e1, e2] = er := ⟨_, rfl⟩
    have HST1 : Hid (ordE itemE [] xs = if e1 ≠ 0 then e1 else if bo = true then 7 else ordE itemE xs[j + 1].id (xs.drop (j + 1 + 1))) := Lib.hid (by
     rw [HST.out, he1, hpj]
     have h2 : xs[j + 1].id ≤ xs[j].id ↔ bo = true := by rw [← hbo]; exact leS_iff.symm
     by_cases hb : bo = true
     ·rw [if_pos (h2.2 hb), if_pos hb]
     ·rw [if_neg (fun h => hb (h2.1 h)), if_neg hb])
    have HBO : Hid ((Op.bytesLess xs[j + 1].id xs[j].id || xs[j + 1].id == xs[j].id) = bo) := Lib.hid hbo;have HE2 := Lib.hid he2;rw [he1] at HCI;have HER := Lib.hid her;have HFE := Lib.hid (fun (W : World) (g c : Nat) (h : Blk W g 33 #[.int .i64 e1, .int .i64 e2]) => firstE_calls W g c [e1, e2] h.row0 (by simp));rw [her] at HFE;have HWF := Lib.hid (fun W => when_any2 bo 7 W);rw [he2] at HWF;clear hrow hrow1 HST HKN he1 her HXK hpj hbo he2 h0;generalize xs[j + 1] = x at *;generalize xs[j] = y at *;have hy1 := cell_alloc hy0 (.cells (itQ x) 83);unfold itQ at HB0 Hm0 hy1;unfold itA at HCI
    go_wp2_with fail
    go_upto_region 6 with (fail)
    generalize (wr.alloc (.cells #[.string ⟨x.id.toArray⟩, .string ⟨x.cust.toArray⟩, .int .i64 x.kind, .string ⟨x.name.toArray⟩, .int .i64 x.tm, .string ⟨x.par.toArray⟩, .string ⟨x.text.toArray⟩] 83)) = WS at *;have hgsz := hm.size;generalize hgs : wr.heap.size = gs at *;have hgs1 := Nat.le_of_eq hgs;clear hgs q0 q1 q2 q3 q4 q5 q6 hy0
    go_cut [5] (fun p wx => p = .int .i64 er ∧ Pure wr wx)
    case first =>
     have HGs := Lib.hid (show ∀ (D : Nat → Bool) (zzi : Nat) (zq zq' : World), (fun _ zq => (fun Z => Blk Z gs 83 #[.string ⟨x.id.toArray⟩, .string ⟨x.cust.toArray⟩, .int .i64 x.kind, .string ⟨x.name.toArray⟩, .int .i64 x.tm, .string ⟨x.par.toArray⟩, .string ⟨x.text.toArray⟩] ∧ Z.cell? ⟨g, off + j * 7, none⟩ = some (.string ⟨y.id.toArray⟩)) zq) D zq → Mod (fun _ => False) zq zq' → (fun _ zq => (fun Z => Blk Z gs 83 #[.string ⟨x.id.toArray⟩, .string ⟨x.cust.toArray⟩, .int .i64 x.kind, .string ⟨x.name.toArray⟩, .int .i64 x.tm, .string ⟨x.par.toArray⟩, .string ⟨x.text.toArray⟩] ∧ Z.cell? ⟨g, off + j * 7, none⟩ = some (.string ⟨y.id.toArray⟩)) zq) (upd D zzi true) zq' from by intro D zzi zq zq' h hm; (exact ⟨h.1.modp hm, keepp h.2 hm⟩))
     refine wp_region_inv (by kernel_rfl) (by kernel_rfl) (InvF (R := Mod (fun _ => False)) [.is (.agg #[.string ⟨x.id.toArray⟩, .string ⟨x.cust.toArray⟩, .int .i64 x.kind, .string ⟨x.name.toArray⟩, .int .i64 x.tm, .string ⟨x.par.toArray⟩, .string ⟨x.text.toArray⟩]),
       .is (.int .i64 e1),
       .is (.int .i64 ((j : Int) + 1)),
       .is (.bool true),
       .is (.bool true),
       .is (.pointer (some ⟨gs, 0, none⟩)),
       .is (.string ⟨x.id.toArray⟩),
       .is (.slice (some ⟨g, off, none⟩) xs.length c),
       .is (.int .i64 ((j : Int) + 1)),
       .is (.int .i64 ((j : Int) + 1)),
       .is (.int .i64 (j : Int)),
       .is (.pointer (some ⟨g, off + j * 7, none⟩)),
       .is (.pointer (some ⟨g, off + j * 7, none⟩)),
       .is (.string ⟨y.id.toArray⟩),
       .is (.bool bo),
       .is (.bool bo),
       .is (.int .i64 e2),
       ⟨fun zv zw => ∃ (g_17 : Nat), zv = .slice (some ⟨g_17, 0, none⟩) 2 2 ∧ WS.heap.size ≤ g_17 ∧ Blk zw g_17 33 #[.int .i64 e1, .int .i64 e2], (by rintro zv zw zx ⟨g_17, rfl, c0, q0⟩ hm; exact ⟨g_17, rfl, c0, (q0.modp hm)⟩), none, some 18⟩,
       .is (.int .i64 er),
       .is (.int .i64 er)]
       (PB wr (fun _ => False) WS.heap.size (fun _ zq => (fun Z => Blk Z gs 83 #[.string ⟨x.id.toArray⟩, .string ⟨x.cust.toArray⟩, .int .i64 x.kind, .string ⟨x.name.toArray⟩, .int .i64 x.tm, .string ⟨x.par.toArray⟩, .string ⟨x.text.toArray⟩] ∧ Z.cell? ⟨g, off + j * 7, none⟩ = some (.string ⟨y.id.toArray⟩)) zq))) (InvF.start (PB.start Hm0.out (Nat.le_refl _) (⟨HB0.out.drew, cell_drew hy1⟩))) ?_ ?_
     ·refine .cons ?_ (.cons ?_ (.cons ?_ (.cons ?_ (.cons ?_ (.cons ?_ (.cons ?_ (.cons ?_ (.cons ?_ (.cons ?_ (.cons ?_ (.cons ?_ (.cons ?_ (.cons ?_ (.cons ?_ (.cons ?_ (.cons ?_ (.cons ?_ (.cons ?_ (.cons ?_ .nil)))))))))))))))))))
      ·intro D V zw1 a hR hI K hK;obtain ⟨hM1, hB1, hG1⟩ := hI.1;obtain ⟨hG1a, hG1b⟩ := hG1;have ze4 := hR.frame.other (t := 4) (by kernel_rfl) rfl;have zx0 := hG1a.cell 0; have zx1 := hG1a.cell 1; have zx2 := hG1a.cell 2; have zx3 := hG1a.cell 3; have zx4 := hG1a.cell 4; have zx5 := hG1a.cell 5; have zx6 := hG1a.cell 6;simp at zx0 zx1 zx2 zx3 zx4 zx5 zx6;rw [if_pos (by rfl)];go_simp;exact hK (.agg #[.string ⟨x.id.toArray⟩, .string ⟨x.cust.toArray⟩, .int .i64 x.kind, .string ⟨x.name.toArray⟩, .int .i64 x.tm, .string ⟨x.par.toArray⟩, .string ⟨x.text.toArray⟩]) _ (hI.next hR (by kernel_rfl) (Mod.refl _ _) (PB.quiet hI.1 (Mod.refl _ _) (HGs.out D 0 zw1 zw1 (hI.1).g (Mod.refl _ _))) (upd_same V 0 _))
      ·intro D V zw1 a hR hI K hK;obtain ⟨hM1, hB1, hG1⟩ := hI.1;obtain ⟨hG1a, hG1b⟩ := hG1;have zd0 := hR.pred 0 (by kernel_rfl);have zf0 : V 0 = .agg #[.string ⟨x.id.toArray⟩, .string ⟨x.cust.toArray⟩, .int .i64 x.kind, .string ⟨x.name.toArray⟩, .int .i64 x.tm, .string ⟨x.par.toArray⟩, .string ⟨x.text.toArray⟩] := hI.2 0 zd0 rfl;have ze28 := hR.frame.done (t := 28) (j := 0) (by kernel_rfl) hR.ok zd0;rw [if_pos (by rfl)];go_simp;refine (HCI.out _ (hm.trans hM1)).mono ?_;rintro e zw2 ⟨rfl, hm2⟩;exact hK (.int .i64 e1) _ (hI.next hR (by kernel_rfl) hm2 (PB.quiet hI.1 hm2 (HGs.out D 1 _ _ (hI.1).g hm2)) (upd_same V 1 _))
      ·intro D V zw1 a hR hI K hK;obtain ⟨hM1, hB1, hG1⟩ := hI.1;obtain ⟨hG1a, hG1b⟩ := hG1;have ze3 := hR.frame.other (t := 3) (by kernel_rfl) rfl;rw [if_pos (by rfl)];go_simp;exact hK (.int .i64 ((j : Int) + 1)) _ (hI.next hR (by kernel_rfl) (Mod.refl _ _) (PB.quiet hI.1 (Mod.refl _ _) (HGs.out D 2 zw1 zw1 (hI.1).g (Mod.refl _ _))) (upd_same V 2 _))
      ·intro D V zw1 a hR hI K hK;obtain ⟨hM1, hB1, hG1⟩ := hI.1;obtain ⟨hG1a, hG1b⟩ := hG1;have zd2 := hR.pred 2 (by kernel_rfl);have zf2 : V 2 = .int .i64 ((j : Int) + 1) := hI.2 2 zd2 rfl;have ze30 := hR.frame.done (t := 30) (j := 2) (by kernel_rfl) hR.ok zd2
       have i0 : (0 : Int) < (j : Int) + 1 := by omega
       rw [if_pos (by rfl)];go_simp;exact hK (.bool true) _ (hI.next hR (by kernel_rfl) (Mod.refl _ _) (PB.quiet hI.1 (Mod.refl _ _) (HGs.out D 3 zw1 zw1 (hI.1).g (Mod.refl _ _))) (upd_same V 3 _))
      ·intro D V zw1 a hR hI K hK;obtain ⟨hM1, hB1, hG1⟩ := hI.1;obtain ⟨hG1a, hG1b⟩ := hG1;have zd3 := hR.pred 3 (by kernel_rfl);have zf3 : V 3 = .bool true := hI.2 3 zd3 rfl;have ze31 := hR.frame.done (t := 31) (j := 3) (by kernel_rfl) hR.ok zd3;rw [if_pos (by rfl)];go_simp;exact hK (.bool true) _ (hI.next hR (by kernel_rfl) (Mod.refl _ _) (PB.quiet hI.1 (Mod.refl _ _) (HGs.out D 4 zw1 zw1 (hI.1).g (Mod.refl _ _))) (upd_same V 4 _))
      ·intro D V zw1 a hR hI K hK;obtain ⟨hM1, hB1, hG1⟩ := hI.1;obtain ⟨hG1a, hG1b⟩ := hG1;have zd4 := hR.pred 4 (by kernel_rfl);have zf4 : V 4 = .bool true := hI.2 4 zd4 rfl;have ze4 := hR.frame.other (t := 4) (by kernel_rfl) rfl;have ze32 := hR.frame.done (t := 32) (j := 4) (by kernel_rfl) hR.ok zd4;rw [if_pos (by simp [Region.wanted, yielded, ze32, zf4])];go_simp;exact hK (.pointer (some ⟨gs, 0, none⟩)) _ (hI.next hR (by kernel_rfl) (Mod.refl _ _) (PB.quiet hI.1 (Mod.refl _ _) (HGs.out D 5 zw1 zw1 (hI.1).g (Mod.refl _ _))) (upd_same V 5 _))
      ·intro D V zw1 a hR hI K hK;obtain ⟨hM1, hB1, hG1⟩ := hI.1;obtain ⟨hG1a, hG1b⟩ := hG1;have zd5 := hR.pred 5 (by kernel_rfl);have zf5 : V 5 = .pointer (some ⟨gs, 0, none⟩) := hI.2 5 zd5 rfl;have zd4 := hR.pred 4 (by kernel_rfl);have zf4 : V 4 = .bool true := hI.2 4 zd4 rfl;have ze33 := hR.frame.done (t := 33) (j := 5) (by kernel_rfl) hR.ok zd5;have zx0 := hG1a.cell 0; have zx1 := hG1a.cell 1; have zx2 := hG1a.cell 2; have zx3 := hG1a.cell 3; have zx4 := hG1a.cell 4; have zx5 := hG1a.cell 5; have zx6 := hG1a.cell 6;simp at zx0 zx1 zx2 zx3 zx4 zx5 zx6;have ze32 := hR.frame.done (t := 32) (j := 4) (by kernel_rfl) hR.ok zd4;rw [if_pos (by simp [Region.wanted, yielded, ze32, zf4])];go_simp;exact hK (.string ⟨x.id.toArray⟩) _ (hI.next hR (by kernel_rfl) (Mod.refl _ _) (PB.quiet hI.1 (Mod.refl _ _) (HGs.out D 6 zw1 zw1 (hI.1).g (Mod.refl _ _))) (upd_same V 6 _))
      ·intro D V zw1 a hR hI K hK;obtain ⟨hM1, hB1, hG1⟩ := hI.1;obtain ⟨hG1a, hG1b⟩ := hG1;have zd4 := hR.pred 4 (by kernel_rfl);have zf4 : V 4 = .bool true := hI.2 4 zd4 rfl;have ze0 := hR.frame.other (t := 0) (by kernel_rfl) rfl;have ze32 := hR.frame.done (t := 32) (j := 4) (by kernel_rfl) hR.ok zd4;rw [if_pos (by simp [Region.wanted, yielded, ze32, zf4])];go_simp;exact hK (.slice (some ⟨g, off, none⟩) xs.length c) _ (hI.next hR (by kernel_rfl) (Mod.refl _ _) (PB.quiet hI.1 (Mod.refl _ _) (HGs.out D 7 zw1 zw1 (hI.1).g (Mod.refl _ _))) (upd_same V 7 _))
      ·intro D V zw1 a hR hI K hK;obtain ⟨hM1, hB1, hG1⟩ := hI.1;obtain ⟨hG1a, hG1b⟩ := hG1;have zd4 := hR.pred 4 (by kernel_rfl);have zf4 : V 4 = .bool true := hI.2 4 zd4 rfl;have ze3 := hR.frame.other (t := 3) (by kernel_rfl) rfl;have ze32 := hR.frame.done (t := 32) (j := 4) (by kernel_rfl) hR.ok zd4;rw [if_pos (by simp [Region.wanted, yielded, ze32, zf4])];go_simp;exact hK (.int .i64 ((j : Int) + 1)) _ (hI.next hR (by kernel_rfl) (Mod.refl _ _) (PB.quiet hI.1 (Mod.refl _ _) (HGs.out D 8 zw1 zw1 (hI.1).g (Mod.refl _ _))) (upd_same V 8 _))
      ·intro D V zw1 a hR hI K hK;obtain ⟨hM1, hB1, hG1⟩ := hI.1;obtain ⟨hG1a, hG1b⟩ := hG1;have zd8 := hR.pred 8 (by kernel_rfl);have zf8 : V 8 = .int .i64 ((j : Int) + 1) := hI.2 8 zd8 rfl;have zd4 := hR.pred 4 (by kernel_rfl);have zf4 : V 4 = .bool true := hI.2 4 zd4 rfl;have ze36 := hR.frame.done (t := 36) (j := 8) (by kernel_rfl) hR.ok zd8;have hmx : (if ((j : Int) + 1) < 1 then (1 : Int) else (j : Int) + 1) = (j : Int) + 1 := if_neg (by omega)
       have hmx2 : max ((j : Int) + 1) 1 = (j : Int) + 1 := by omega
       have ze32 := hR.frame.done (t := 32) (j := 4) (by kernel_rfl) hR.ok zd4;rw [if_pos (by simp [Region.wanted, yielded, ze32, zf4])];go_simp;exact hK (.int .i64 ((j : Int) + 1)) _ (hI.next hR (by kernel_rfl) (Mod.refl _ _) (PB.quiet hI.1 (Mod.refl _ _) (HGs.out D 9 zw1 zw1 (hI.1).g (Mod.refl _ _))) (upd_same V 9 _))
      ·intro D V zw1 a hR hI K hK;obtain ⟨hM1, hB1, hG1⟩ := hI.1;obtain ⟨hG1a, hG1b⟩ := hG1;have zd9 := hR.pred 9 (by kernel_rfl);have zf9 : V 9 = .int .i64 ((j : Int) + 1) := hI.2 9 zd9 rfl;have zd4 := hR.pred 4 (by kernel_rfl);have zf4 : V 4 = .bool true := hI.2 4 zd4 rfl;have ze37 := hR.frame.done (t := 37) (j := 9) (by kernel_rfl) hR.ok zd9;have hw : IntKind.i64.wrap (j : Int) = (j : Int) := IntWalk.i64_in _ (by omega);have ze32 := hR.frame.done (t := 32) (j := 4) (by kernel_rfl) hR.ok zd4;rw [if_pos (by simp [Region.wanted, yielded, ze32, zf4])];go_simp;exact hK (.int .i64 (j : Int)) _ (hI.next hR (by kernel_rfl) (Mod.refl _ _) (PB.quiet hI.1 (Mod.refl _ _) (HGs.out D 10 zw1 zw1 (hI.1).g (Mod.refl _ _))) (upd_same V 10 _))
      ·intro D V zw1 a hR hI K hK;obtain ⟨hM1, hB1, hG1⟩ := hI.1;obtain ⟨hG1a, hG1b⟩ := hG1;have zd7 := hR.pred 7 (by kernel_rfl);have zf7 : V 7 = .slice (some ⟨g, off, none⟩) xs.length c := hI.2 7 zd7 rfl;have zd10 := hR.pred 10 (by kernel_rfl);have zf10 : V 10 = .int .i64 (j : Int) := hI.2 10 zd10 rfl;have zd4 := hR.pred 4 (by kernel_rfl);have zf4 : V 4 = .bool true := hI.2 4 zd4 rfl;have ze35 := hR.frame.done (t := 35) (j := 7) (by kernel_rfl) hR.ok zd7;have ze38 := hR.frame.done (t := 38) (j := 10) (by kernel_rfl) hR.ok zd10
       have i3 : (0 : Int) ≤ (j : Int) := by omega
       have i4 : (j : Int) < (xs.length : Int) := by omega
       have ze32 := hR.frame.done (t := 32) (j := 4) (by kernel_rfl) hR.ok zd4;rw [if_pos (by simp [Region.wanted, yielded, ze32, zf4])];go_simp;exact hK (.pointer (some ⟨g, off + j * 7, none⟩)) _ (hI.next hR (by kernel_rfl) (Mod.refl _ _) (PB.quiet hI.1 (Mod.refl _ _) (HGs.out D 11 zw1 zw1 (hI.1).g (Mod.refl _ _))) (upd_same V 11 _))
      ·intro D V zw1 a hR hI K hK;obtain ⟨hM1, hB1, hG1⟩ := hI.1;obtain ⟨hG1a, hG1b⟩ := hG1;have zd11 := hR.pred 11 (by kernel_rfl);have zf11 : V 11 = .pointer (some ⟨g, off + j * 7, none⟩) := hI.2 11 zd11 rfl;have zd4 := hR.pred 4 (by kernel_rfl);have zf4 : V 4 = .bool true := hI.2 4 zd4 rfl;have ze39 := hR.frame.done (t := 39) (j := 11) (by kernel_rfl) hR.ok zd11;have ze32 := hR.frame.done (t := 32) (j := 4) (by kernel_rfl) hR.ok zd4;rw [if_pos (by simp [Region.wanted, yielded, ze32, zf4])];go_simp;exact hK (.pointer (some ⟨g, off + j * 7, none⟩)) _ (hI.next hR (by kernel_rfl) (Mod.refl _ _) (PB.quiet hI.1 (Mod.refl _ _) (HGs.out D 12 zw1 zw1 (hI.1).g (Mod.refl _ _))) (upd_same V 12 _))
      ·intro D V zw1 a hR hI K hK;obtain ⟨hM1, hB1, hG1⟩ := hI.1;obtain ⟨hG1a, hG1b⟩ := hG1;have zd12 := hR.pred 12 (by kernel_rfl);have zf12 : V 12 = .pointer (some ⟨g, off + j * 7, none⟩) := hI.2 12 zd12 rfl;have zd4 := hR.pred 4 (by kernel_rfl);have zf4 : V 4 = .bool true := hI.2 4 zd4 rfl;have ze40 := hR.frame.done (t := 40) (j := 12) (by kernel_rfl) hR.ok zd12;have ze32 := hR.frame.done (t := 32) (j := 4) (by kernel_rfl) hR.ok zd4;rw [if_pos (by simp [Region.wanted, yielded, ze32, zf4])];go_simp;exact hK (.string ⟨y.id.toArray⟩) _ (hI.next hR (by kernel_rfl) (Mod.refl _ _) (PB.quiet hI.1 (Mod.refl _ _) (HGs.out D 13 zw1 zw1 (hI.1).g (Mod.refl _ _))) (upd_same V 13 _))
      ·intro D V zw1 a hR hI K hK;obtain ⟨hM1, hB1, hG1⟩ := hI.1;obtain ⟨hG1a, hG1b⟩ := hG1;have zd6 := hR.pred 6 (by kernel_rfl);have zf6 : V 6 = .string ⟨x.id.toArray⟩ := hI.2 6 zd6 rfl;have zd13 := hR.pred 13 (by kernel_rfl);have zf13 : V 13 = .string ⟨y.id.toArray⟩ := hI.2 13 zd13 rfl;have zd4 := hR.pred 4 (by kernel_rfl);have zf4 : V 4 = .bool true := hI.2 4 zd4 rfl;have ze34 := hR.frame.done (t := 34) (j := 6) (by kernel_rfl) hR.ok zd6;have ze41 := hR.frame.done (t := 41) (j := 13) (by kernel_rfl) hR.ok zd13;have hbo := HBO.out;have ze32 := hR.frame.done (t := 32) (j := 4) (by kernel_rfl) hR.ok zd4;rw [if_pos (by simp [Region.wanted, yielded, ze32, zf4])];go_simp;exact hK (.bool bo) _ (hI.next hR (by kernel_rfl) (Mod.refl _ _) (PB.quiet hI.1 (Mod.refl _ _) (HGs.out D 14 zw1 zw1 (hI.1).g (Mod.refl _ _))) (upd_same V 14 _))
      ·intro D V zw1 a hR hI K hK;obtain ⟨hM1, hB1, hG1⟩ := hI.1;obtain ⟨hG1a, hG1b⟩ := hG1;have zd4 := hR.pred 4 (by kernel_rfl);have zf4 : V 4 = .bool true := hI.2 4 zd4 rfl;have zd14 := hR.pred 14 (by kernel_rfl);have zf14 : V 14 = .bool bo := hI.2 14 zd14 rfl;have ze32 := hR.frame.done (t := 32) (j := 4) (by kernel_rfl) hR.ok zd4;have ze42 := hR.frame.done (t := 42) (j := 14) (by kernel_rfl) hR.ok zd14;rw [if_pos (by rfl)];go_simp;exact hK (.bool bo) _ (hI.next hR (by kernel_rfl) (Mod.refl _ _) (PB.quiet hI.1 (Mod.refl _ _) (HGs.out D 15 zw1 zw1 (hI.1).g (Mod.refl _ _))) (upd_same V 15 _))
      ·intro D V zw1 a hR hI K hK;obtain ⟨hM1, hB1, hG1⟩ := hI.1;obtain ⟨hG1a, hG1b⟩ := hG1;have zd15 := hR.pred 15 (by kernel_rfl);have zf15 : V 15 = .bool bo := hI.2 15 zd15 rfl;have ze43 := hR.frame.done (t := 43) (j := 15) (by kernel_rfl) hR.ok zd15;rw [if_pos (by rfl)];go_simp;refine (HWF.out _).mono ?_;rintro e zw2 ⟨rfl, rfl⟩;have hm2 : Pure zw1 zw1 := Mod.refl _ _;exact hK (.int .i64 e2) _ (hI.next hR (by kernel_rfl) hm2 (PB.quiet hI.1 hm2 (HGs.out D 16 _ _ (hI.1).g hm2)) (upd_same V 16 _))
      ·intro D V zw1 a hR hI K hK;obtain ⟨hM1, hB1, hG1⟩ := hI.1;obtain ⟨hG1a, hG1b⟩ := hG1;have zd1 := hR.pred 1 (by kernel_rfl);have zf1 : V 1 = .int .i64 e1 := hI.2 1 zd1 rfl;have zd16 := hR.pred 16 (by kernel_rfl);have zf16 : V 16 = .int .i64 e2 := hI.2 16 zd16 rfl;have ze29 := hR.frame.done (t := 29) (j := 1) (by kernel_rfl) hR.ok zd1;have ze44 := hR.frame.done (t := 44) (j := 16) (by kernel_rfl) hR.ok zd16;rw [if_pos (by rfl)];go_simp;exact hK (_) _ (hI.next hR (by kernel_rfl) ((Mod.refl _ _).alloc _) (PB.quiet hI.1 (pure_alloc _ _) (HGs.out D 17 _ _ (hI.1).g ((Mod.refl _ _).alloc _))) (⟨_, upd_same V 17 _, (by omega), (Blk.new _ _ _)⟩))
      ·intro D V zw1 a hR hI K hK;obtain ⟨hM1, hB1, hG1⟩ := hI.1;obtain ⟨hG1a, hG1b⟩ := hG1;have zd17 := hR.pred 17 (by kernel_rfl);have zF17 : ∃ (g_17 : Nat), V 17 = .slice (some ⟨g_17, 0, none⟩) 2 2 ∧ WS.heap.size ≤ g_17 ∧ Blk zw1 g_17 33 #[.int .i64 e1, .int .i64 e2] := hI.2 17 zd17 (by show (!D 18) = true; rw [hR.not]; rfl);obtain ⟨g_17, zf17, c17_0, b17_0⟩ := zF17;have ze45 := hR.frame.done (t := 45) (j := 17) (by kernel_rfl) hR.ok zd17;rw [if_pos (by rfl)];go_simp;refine (HFE.out _ _ _ b17_0).mono ?_;rintro e zw2 ⟨rfl, hm2⟩;exact hK (.int .i64 er) _ (hI.next hR (by kernel_rfl) hm2 (PB.quiet hI.1 hm2 (HGs.out D 18 _ _ (hI.1).g hm2)) (upd_same V 18 _))
      ·intro D V zw1 a hR hI K hK;obtain ⟨hM1, hB1, hG1⟩ := hI.1;obtain ⟨hG1a, hG1b⟩ := hG1;have zd18 := hR.pred 18 (by kernel_rfl);have zf18 : V 18 = .int .i64 er := hI.2 18 zd18 rfl;have ze46 := hR.frame.done (t := 46) (j := 18) (by kernel_rfl) hR.ok zd18;rw [if_pos (by rfl)];go_simp;exact hK (.int .i64 er) _ (hI.next hR (by kernel_rfl) (Mod.refl _ _) (PB.quiet hI.1 (Mod.refl _ _) (HGs.out D 19 zw1 zw1 (hI.1).g (Mod.refl _ _))) (upd_same V 19 _))
     ·intro D V w1 hD hI;obtain ⟨hM1, hB1, hG1⟩ := hI.1;have hMx := hM1;clear hM1;have hBx := hB1;clear hB1;have hGx := hG1;clear hG1;have zf0 : V 0 = .agg #[.string ⟨x.id.toArray⟩, .string ⟨x.cust.toArray⟩, .int .i64 x.kind, .string ⟨x.name.toArray⟩, .int .i64 x.tm, .string ⟨x.par.toArray⟩, .string ⟨x.text.toArray⟩] := hI.2 0 (hD 0 (by decide)) rfl;have zf1 : V 1 = .int .i64 e1 := hI.2 1 (hD 1 (by decide)) rfl;have zf2 : V 2 = .int .i64 ((j : Int) + 1) := hI.2 2 (hD 2 (by decide)) rfl;have zf3 : V 3 = .bool true := hI.2 3 (hD 3 (by decide)) rfl;have zf4 : V 4 = .bool true := hI.2 4 (hD 4 (by decide)) rfl;have zf5 : V 5 = .pointer (some ⟨gs, 0, none⟩) := hI.2 5 (hD 5 (by decide)) rfl;have zf6 : V 6 = .string ⟨x.id.toArray⟩ := hI.2 6 (hD 6 (by decide)) rfl;have zf7 : V 7 = .slice (some ⟨g, off, none⟩) xs.length c := hI.2 7 (hD 7 (by decide)) rfl;have zf8 : V 8 = .int .i64 ((j : Int) + 1) := hI.2 8 (hD 8 (by decide)) rfl;have zf9 : V 9 = .int .i64 ((j : Int) + 1) := hI.2 9 (hD 9 (by decide)) rfl;have zf10 : V 10 = .int .i64 (j : Int) := hI.2 10 (hD 10 (by decide)) rfl;have zf11 : V 11 = .pointer (some ⟨g, off + j * 7, none⟩) := hI.2 11 (hD 11 (by decide)) rfl;have zf12 : V 12 = .pointer (some ⟨g, off + j * 7, none⟩) := hI.2 12 (hD 12 (by decide)) rfl;have zf13 : V 13 = .string ⟨y.id.toArray⟩ := hI.2 13 (hD 13 (by decide)) rfl;have zf14 : V 14 = .bool bo := hI.2 14 (hD 14 (by decide)) rfl;have zf15 : V 15 = .bool bo := hI.2 15 (hD 15 (by decide)) rfl;have zf16 : V 16 = .int .i64 e2 := hI.2 16 (hD 16 (by decide)) rfl;have zf18 : V 18 = .int .i64 er := hI.2 18 (hD 18 (by decide)) rfl;have zf19 : V 19 = .int .i64 er := hI.2 19 (hD 19 (by decide)) rfl;clear hI hD HGs;simp only [frAll, Act.put, List.setIfInBounds_toArray, List.set_cons_zero, List.set_cons_succ, Nat.zero_add, Nat.reduceAdd, zf0, zf1, zf2, zf3, zf4, zf5, zf6, zf7, zf8, zf9, zf10, zf11, zf12, zf13, zf14, zf15, zf16, zf18, zf19];clear zf0 zf1 zf2 zf3 zf4 zf5 zf6 zf7 zf8 zf9 zf10 zf11 zf12 zf13 zf14 zf15 zf16 zf18 zf19;generalize V 17 = u17;clear V D
      go_wp2_with fail
      go_meet;exact ⟨rfl, hMx⟩
    case rest =>
     obtain ⟨rfl, m1⟩ := hcut;have m2 := hm.trans m1;have hr2 := firstErr2 HER.out;have HR2 := Lib.hid hr2;clear HCI HFE HWF HB0 Hm0 WS hr2 HBO hy1
     by_cases he0 : er = 0
     ·have he1 : e1 = 0 ∧ e2 = 0 := by
       have := HR2.out;rw [he0] at this
       by_cases h : e1 = 0
       ·rw [if_neg (by simpa using h)] at this; exact ⟨h, this.symm⟩
       ·rw [if_pos h] at this; exact absurd this.symm h
      have HS1 : Hid (ordE itemE [] xs = ordE itemE x.id (xs.drop (j + 1 + 1))) := Lib.hid (by
       rw [HST1.out, he1.1];have h2 := HE2.out;rw [he1.2] at h2
       cases bo
       ·simp
       ·simp at h2)
      clear HST1 HR2 HER HE2 he1;subst he0
      go_wp2_with fail
      go_roundg (xs.length - (j + 1 + 1))
      case measure => omega
      case rel => exact ⟨j + 1 + 1, rfl, by omega, by simp, by rw [HPI.out, HS1.out], m2⟩
     ·have he0' : (er != 0) = true := by simpa using he0
      have hx : ordE itemE [] xs = er := by
       have h1 := HR2.out;rw [HST1.out]
       by_cases h : e1 = 0
       ·rw [if_neg (by simpa using h)] at h1;rw [if_neg (by simpa using h)];have h2 := HE2.out
        cases bo
        ·simp at h2;rw [h1, ← h2] at he0;exact absurd rfl he0
        ·simp at h2;rw [h1, ← h2]
         rfl
       ·rw [if_pos h] at h1;rw [if_pos h, h1]
      have HF : Hid (itsE itemE xs = er) := Lib.hid (by rw [HIE.out, hx, if_pos he0]);clear HST1 HR2 HER HE2 hx HIE
      go_wp2_with fail
      go_ret;exact IntPost.of HF.out m2
  ·have hke : k = xs.length := by omega
   have ho : ordE itemE [] xs = 0 := by
    rw [← hord, hke, List.drop_of_length_le (Nat.le_refl _)]
    rfl
   have hd := ids_of_ordE ho;have HD := Lib.hid hd;have HIE2 : Hid (itsE itemE xs = if xs.any (missB xs) then 8 else treeE xs) := Lib.hid (by rw [HIE.out, ho]; rfl);clear hd ho HIE hord hke
   go_wp2_with fail
   refine (HBY.out _ hm HD.out).mono ?_;rintro e w1 ⟨b, rfl, hb, hM1, m1⟩;have m2 := hm.trans m1;clear HBY hm m1 hb hlt hk
   go_wp2_with fail
   go_loopg [55] xs.length (fun gk i wr => Ck2 w b xs gk i wr)
   case atStart => exact ⟨0, by omega, by omega, rfl, rfl, hM1, m2⟩
   case round =>
    clear m2 hM1;obtain ⟨k, rfl, hk, rfl, hno, hM, hm⟩ := hrel;have hblt := hM.lt
    by_cases hlt : k < xs.length
    ·obtain ⟨g, off, rfl, hrow⟩ := HR.out (by omega);obtain ⟨q0, q1, q2, q3, q4, q5, q6⟩ := item_cells (hrow.mod hm id) hlt;have hzx := (HZ.out _ (List.getElem_mem hlt)).2.2.2.1;have HTK := Lib.hid (any_take_snoc (missB xs) xs k hlt);rw [hno] at HTK;have HAT := Lib.hid (fun h => any_of_at (p := missB xs) hlt h);have HMF := Lib.hid (missB_fnd xs xs[k]);clear hrow hno;generalize xs[k] = x at *;have hlook := (hM.alloc (.cells (itQ x) 83)).look_ok Tryz.underlying136 zero_item x.par (by omega);unfold byF at hlook;have B0 := Blk.new wr 83 (itQ x)
     cases hf : fnd xs x.par with
     | none =>
      rw [hf] at hlook HMF;simp only [Option.map_none, Option.getD_none, Option.isSome_none] at hlook;have B1 := B0.alloc (.cells itZc 83);have HM1 := Lib.hid ((hM.alloc (.cells (itQ x) 83)).alloc (.cells itZc 83));have Hm1 := Lib.hid ((hm.alloc (.cells (itQ x) 83)).alloc (.cells itZc 83));unfold itZ at hlook;unfold itQ at hlook B1 HM1 Hm1;unfold itZc at B1 HM1 Hm1;have c0 := B1.cell 0; have c1 := B1.cell 1; have c2 := B1.cell 2; have c3 := B1.cell 3; have c4 := B1.cell 4; have c5 := B1.cell 5; have c6 := B1.cell 6; simp at c0 c1 c2 c3 c4 c5 c6;clear B0 B1 hf hM hm
      cases he : x.par.isEmpty
      ·have HF : Hid (itsE itemE xs = 8) := Lib.hid (by rw [HIE2.out, HAT.out (by rw [HMF.out, he]; rfl)]; rfl);clear HTK HAT HMF HM1
       go_wp2_with fail
       go_ret;exact IntPost.of HF.out Hm1.out
      ·have HN : Hid ((xs.take (k + 1)).any (missB xs) = false) := Lib.hid (by rw [HTK.out, HMF.out, he]; rfl);clear HTK HAT HMF
       go_wp2_with fail
       go_roundg (xs.length - (k + 1))
       case measure => omega
       case rel => exact ⟨k + 1, rfl, by omega, by simp, HN.out, HM1.out, Hm1.out⟩
     | some p =>
      rw [hf] at hlook HMF;simp only [Option.map_some, Option.getD_some, Option.isSome_some] at hlook;have B1 := B0.alloc (.cells (itQ p) 83);have HM1 := Lib.hid ((hM.alloc (.cells (itQ x) 83)).alloc (.cells (itQ p) 83));have Hm1 := Lib.hid ((hm.alloc (.cells (itQ x) 83)).alloc (.cells (itQ p) 83));unfold itA at hlook;unfold itQ at hlook B1 HM1 Hm1;have c0 := B1.cell 0; have c1 := B1.cell 1; have c2 := B1.cell 2; have c3 := B1.cell 3; have c4 := B1.cell 4; have c5 := B1.cell 5; have c6 := B1.cell 6; simp at c0 c1 c2 c3 c4 c5 c6;have HN : Hid ((xs.take (k + 1)).any (missB xs) = false) := Lib.hid (by rw [HTK.out, HMF.out]; simp);clear B0 B1 hf hM hm HTK HAT HMF
      cases he : x.par.isEmpty
      all_goals
       go_wp2_with fail
       go_roundg (xs.length - (k + 1))
       case measure => omega
       case rel => exact ⟨k + 1, rfl, by omega, by simp, HN.out, HM1.out, Hm1.out⟩
    ·obtain rfl : k = xs.length := by omega
     rw [List.take_length] at hno;have HIE3 : Hid (itsE itemE xs = treeE xs) := Lib.hid (by rw [HIE2.out, hno]; rfl);clear HIE2 hno hlt hk
     go_wp2_with fail
     go_loopg [76] xs.length (fun gk i wr => Ck3 w b xs gk i wr)
     case atStart => exact ⟨0, by omega, by omega, rfl, fun j h => absurd h (by omega), hM, hm⟩
     case round =>
      clear hM hm;obtain ⟨k, rfl, hk, rfl, hno, hM, hm⟩ := hrel
      by_cases hlt : k < xs.length
      ·obtain ⟨g, off, rfl, hrow⟩ := HR.out (by omega);obtain ⟨q0, q1, q2, q3, q4, q5, q6⟩ := item_cells (hrow.mod hm id) hlt;have HNO := Lib.hid hno
       have HAT : Hid (lpB xs k = true → itsE itemE xs = 14) := Lib.hid (fun h => by
        rw [HIE3.out];unfold treeE
        rw [if_pos (List.any_eq_true.2 ⟨k, List.mem_range.2 hlt, h⟩)])
       have HAB := Lib.hid (iabove_calls (wr.alloc (.cells (itQ xs[k]) 83)) b xs xs[k] k (List.getElem?_eq_getElem hlt) (hM.alloc _) HZ.out HD.out (by omega));have Hm0 := Lib.hid (hm.alloc (.cells (itQ xs[k]) 83));have HM0 := Lib.hid (hM.alloc (.cells (itQ xs[k]) 83));clear hrow hno hM hm;generalize xs[k] = x at *;unfold itA at HAB;unfold itQ at HAB Hm0 HM0
       go_wp2_with fail
       refine HAB.out.mono ?_;rintro e w1 ⟨n, lp, rfl, hlp, _, m1⟩;have m2 := Hm0.out.trans m1;have hM2 := HM0.out.pure m1;have HLP := Lib.hid hlp;clear HAB hlp m1 Hm0 HM0 q0 q1 q2 q3 q4 q5 q6
       cases lp
       ·have HN : Hid (∀ j, j < k + 1 → lpB xs j = false) := Lib.hid (fun j hj => by
         rcases Nat.lt_or_ge j k with h | h
         ·exact HNO.out j h
         ·obtain rfl : j = k := by omega
          exact HLP.out.symm)
        clear HAT HNO
        go_wp2_with fail
        go_roundg (xs.length - (k + 1))
        case measure => omega
        case rel => exact ⟨k + 1, rfl, by omega, by simp, HN.out, hM2, m2⟩
       ·have HF := Lib.hid (HAT.out HLP.out.symm);clear HAT HNO HLP
        go_wp2_with fail
        go_ret;exact IntPost.of HF.out m2
      ·obtain rfl : k = xs.length := by omega
       have HIE4 : Hid (itsE itemE xs = firstE (depE xs) 0 xs.length) := Lib.hid (by
        rw [HIE3.out];unfold treeE;rw [if_neg];intro h;rw [List.any_eq_true] at h;obtain ⟨j, hj, h⟩ := h;rw [hno j (List.mem_range.1 hj)] at h
        cases h)
       have HNO := Lib.hid hno;clear HIE3 hno hlt hk
       go_wp2_with fail
       go_loopg [90] xs.length (fun gk i wr => Ck4 w b xs gk i wr)
       case atStart => exact ⟨0, by omega, by omega, rfl, rfl, hM, hm⟩
       case round =>
        clear hM hm;obtain ⟨k, rfl, hk, rfl, hfe, hM, hm⟩ := hrel
        by_cases hlt : k < xs.length
        ·obtain ⟨g, off, rfl, hrow⟩ := HR.out (by omega);obtain ⟨q0, q1, q2, q3, q4, q5, q6⟩ := item_cells (hrow.mod hm id) hlt;rw [firstE_step _ hlt] at hfe;have HFE := Lib.hid hfe;have HPL := Lib.hid (placed_calls (wr.alloc (.cells (itQ xs[k]) 83)) b xs xs[k] k (List.getElem?_eq_getElem hlt) (hM.alloc _) HZ.out HD.out (by omega) (HNO.out k hlt));have Hm0 := Lib.hid (hm.alloc (.cells (itQ xs[k]) 83));have HM0 := Lib.hid (hM.alloc (.cells (itQ xs[k]) 83));clear hrow hfe hM hm;generalize xs[k] = x at *;generalize depE xs k = de at *;unfold itA at HPL;unfold itQ at HPL Hm0 HM0
         go_wp2_with fail
         refine HPL.out.mono ?_;rintro e w1 ⟨rfl, m1⟩;have m2 := Hm0.out.trans m1;have hM2 := HM0.out.pure m1;clear HPL m1 Hm0 HM0 q0 q1 q2 q3 q4 q5 q6
         by_cases he : de = 0
         ·have HN : Hid (firstE (depE xs) (k + 1) (xs.length - (k + 1)) = firstE (depE xs) 0 xs.length) := Lib.hid (by
           have := HFE.out
           rwa [if_neg (by simpa using he)] at this)
          clear HFE;subst he
          go_wp2_with fail
          go_roundg (xs.length - (k + 1))
          case measure => omega
          case rel => exact ⟨k + 1, rfl, by omega, by simp, HN.out, hM2, m2⟩
         ·have he' : (de != 0) = true := by simpa using he
          have HF : Hid (itsE itemE xs = de) := Lib.hid (by
           have := HFE.out;rw [if_pos he] at this
           rw [HIE4.out, ← this])
          clear HFE
          go_wp2_with fail
          go_ret;exact IntPost.of HF.out m2
        ·obtain rfl : k = xs.length := by omega
         have HF : Hid (itsE itemE xs = 0) := Lib.hid (by rw [HIE4.out, ← hfe, Nat.sub_self]; rfl);clear hfe
         go_wp2_with fail
         go_ret;exact IntPost.of HF.out hm

end Go.Proofs.YtpinlcapgoljfaaGreatDoor

/- Families of package intake. -/
namespace Go.Proofs.YtpinlcapgoljfaaGreatDoor
open Go.RowKit

/-- A family in memory: its top, the slice of its items, their ids. -/
abbrev Fm := Str × Value × List Str
def fmV (xs : List Fm) : List Value := xs.flatMap fun p => [.string ⟨p.1.toArray⟩, p.2.1]
theorem fmV_len : ∀ xs : List Fm, (fmV xs).length = xs.length * 2
 | [] => rfl
 | x :: xs => by
  have := fmV_len xs;simp only [fmV, List.flatMap_cons, List.length_append, List.length_cons, List.length_nil] at *
  omega
theorem fmV_get : ∀ (xs : List Fm) (i : Nat) (h : i < xs.length), (fmV xs)[i * 2]? = some (.string ⟨xs[i].1.toArray⟩) ∧ (fmV xs)[i * 2 + 1]? = some xs[i].2.1
 | [], i, h => absurd h (by simp)
 | x :: xs, 0, h => by simp [fmV]
 | x :: xs, i + 1, h => by
  have := fmV_get xs i (by simpa using h)
  have e : (i + 1) * 2 = i * 2 + 1 + 1 := by omega
  simp only [fmV, List.flatMap_cons, List.cons_append, List.nil_append, e, List.getElem?_cons_succ, List.getElem_cons_succ];exact this
theorem fmV_snoc (xs : List Fm) (p : Fm) : fmV (xs ++ [p]) = fmV xs ++ [.string ⟨p.1.toArray⟩, p.2.1] := by simp [fmV]
/-- What families say. -/
def fmS (xs : List Fm) : List (Str × List Str) := xs.map fun p => (p.1, p.2.2)
def FmR (w : World) (v : Value) (xs : List Fm) : Prop := Sl w 92 2 v (fmV xs) ∧ ∀ p ∈ xs, Sl w 9 1 p.2.1 (strsV p.2.2)
theorem FmR.pure {w w' : World} {v : Value} {xs : List Fm} (h : FmR w v xs) (hm : Pure w w') : FmR w' v xs := ⟨h.1.pure hm, fun p hp => (h.2 p hp).pure hm⟩
def famsS (l : List Itm) : List (Str × List Str) := (topsI l).map fun t => (idAt2 l t, belS l 4 t)
theorem info_fam : (Tryz.prog.info? 92).map (fun i => (i.zero, i.size, i.bytes)) = some (some (.agg #[.string ⟨#[]⟩, .slice none 0 0]), 2, 40) := by kernel_rfl
def FamPost (w : World) (l : List Itm) (e : Ending) (w' : World) : Prop :=
 ∃ v, e = .returned (.tuple #[v, .int .i64 (itsE itemE l)]) ∧ (itsE itemE l ≠ 0 → v = nilS) ∧ (itsE itemE l = 0 → ∃ fs, FmR w' v fs ∧ fmS fs = famsS l) ∧ Pure w w'
def FaRel (w : World) (base g0 bi bk : Nat) (At : Option Addr) (nt ct : Nat) (l : List Itm) (gk : Nat) (x i : Value) (wr : World) : Prop :=
 ∃ (k : Nat) (fs : List Fm) (Ao : Option Addr) (cap : Nat), (topsI l).length - k = gk ∧ k ≤ (topsI l).length ∧ x = .slice Ao k cap ∧ i = .int .i64 (k : Int) ∧ fs.length = k ∧ fmS fs = (famsS l).take k ∧
  wr.ownsRow base 92 2 (.slice Ao k cap) k (fmV fs) ∧ (∀ p ∈ fs, Sl wr 9 1 p.2.1 (strsV p.2.2)) ∧ Blk wr g0 138 #[.map (some bi), .map (some bk), .slice At nt ct] ∧ TreeIs wr bi bk (.slice At nt ct) l ∧ Pure w wr ∧ base ≤ wr.heap.size
theorem TreeIs.grown {w w' : World} {bi bk : Nat} {vt v : Value} {xs : List Itm} {base size n : Nat} {ys : List Value} (h : TreeIs w bi bk vt xs) (hb : bi < base) (hb2 : bk < base) (hown : w.ownsRow base 92 size v n ys) (hg : w.grownBy w' v.ownBlock) : TreeIs w' bi bk vt xs := by
 obtain ⟨n, V, h1, h2⟩ := h.kids;have hm := grown_mod hg;have hne : ∀ k, v.ownBlock = some k → base ≤ k := own_block hown;exact ⟨h.items.mod hm (fun hh => by have := hne _ hh; omega), ⟨n, V, h1.mod hm (fun hh => by have := hne _ hh; omega), fun p => (h2 p).grown hown hg (by decide)⟩, h.tops.grown hown hg (by decide)⟩
theorem itemE_ne {x : Itm} (h : itemE x = 0) : x.id ≠ [] := fun e => by have := itemE_id h; rw [e] at this; cases this

set_option maxRecDepth 100000 in
set_option maxHeartbeats 8000000 in
theorem families_calls (w : World) (v : Value) (l : List Itm) (hv : Its w v l) (hz : ∀ x ∈ l, ItB x) (hl : l.length ≤ 2000) (hE : Env w) : Calls Tryz.prog 42 #[v] w (FamPost w l) := by
 obtain ⟨i0, hi0, hz0, hz1, hz2⟩ := info_parts info_fam;have HCH := Lib.hid (check_calls w v l hv hz hl hE);have HNT := Lib.hid (fun W (h : Pure w W) hd => newTree_calls W v l (hv.pure h) hz hd hl);have HRT := Lib.hid (fun h => right_of (E := itemE) (fun x hx => itemE_ne hx) (l := l) h);have HBT := Lib.hid (fun hR bi bk At nt ct => belowT_calls l hR hz bi bk At nt ct 4);obtain ⟨A, n, c, rfl⟩ := Sl.form hv;have HE := Lib.hid (rfl : itsE itemE l = itsE itemE l);obtain ⟨e1, he1⟩ : ∃ e1, itsE itemE l = e1 := ⟨_, rfl⟩;rw [he1] at HCH;have HE1 := Lib.hid he1;clear hv hz hE HE he1
 go_enter Tryz.func42, Tryz.ntmps42
 go_wp2_with fail
 refine HCH.out.mono ?_;rintro e w1 ⟨rfl, m1⟩;clear HCH
 by_cases h0 : e1 = 0
 ·subst h0;have hR := HRT.out HE1.out;have HR := Lib.hid hR;have hds := hR.distinct;have HDS := Lib.hid hds;clear hR hds HRT
  go_wp2_with fail
  refine (HNT.out _ m1 HDS.out).mono ?_;rintro e w2 ⟨bi, bk, vt, rfl, hT, m2⟩;have m3 := m1.trans m2;obtain ⟨At, nt, ct, rfl⟩ := hT.tops.form;have hbil := hT.items.lt;have hws := m3.size
  have hbkl : bk < w2.heap.size := by
   obtain ⟨_, _, h1, _⟩ := hT.kids;exact h1.lt
  have hnt : (topsS l).length = nt := hT.tops.lenS;rw [HR.out.topsS_eq, List.length_map] at hnt;subst hnt;have hB0 := Blk.new w2 138 #[.map (some bi), .map (some bk), .slice At (topsI l).length ct];have hT0 := hT.pure (pure_alloc w2 (.cells #[.map (some bi), .map (some bk), .slice At (topsI l).length ct] 138));have hm0 := m3.alloc (.cells #[.map (some bi), .map (some bk), .slice At (topsI l).length ct] 138)
  have hsz : (w2.alloc (.cells #[.map (some bi), .map (some bk), .slice At (topsI l).length ct] 138)).heap.size = w2.heap.size + 1 := by simp
  have hsz1 := Nat.le_of_eq hsz;have hsz2 := Nat.le_of_eq hsz.symm;have HB0 := Lib.hid hB0;have HT0 := Lib.hid hT0;have Hm0 := Lib.hid hm0
  have htl : (topsI l).length ≤ 2000 := by
   unfold topsI;exact Nat.le_trans (List.length_filter_le _ _) (by simp; omega)
  clear HNT m1 m2 m3 hT hB0 hT0 hm0 hsz
  go_wp2_with fail
  obtain ⟨g0, hg0⟩ : ∃ g0, g0 = w2.heap.size := ⟨_, rfl⟩;obtain ⟨base, hba⟩ : ∃ base, base = w2.heap.size + 1 := ⟨_, rfl⟩;have hg1 := Nat.le_of_eq hg0;have hg2 := Nat.le_of_eq hg0.symm;have hb1 := Nat.le_of_eq hba;have hb2 := Nat.le_of_eq hba.symm;rw [← hg0] at HB0 ⊢;clear hg0 hba;generalize (w2.alloc (.cells #[.map (some bi), .map (some bk), .slice At (topsI l).length ct] 138)) = W at *;have hmz := Hm0.out.size
  go_loopg [6, 19] (topsI l).length (fun gk xv i wr => FaRel w base g0 bi bk At (topsI l).length ct l gk xv i wr)
  case atStart => exact ⟨0, [], none, 0, by omega, by omega, rfl, rfl, rfl, by simp [fmS], ⟨rfl, .inl ⟨rfl, rfl⟩⟩, fun p hp => absurd hp (by simp), HB0.out, HT0.out, Hm0.out, by omega⟩
  case round =>
   clear HB0 HT0 Hm0 hmz hsz1 hsz2;obtain ⟨k, fs, Ao, cap, rfl, hk, rfl, rfl, hfl, hfs, hown, hsl, hB, hT, hm, hsz⟩ := hrel
   by_cases hlt : k < (topsI l).length
   ·have hkl : k < (topsS l).length := by rw [HR.out.topsS_eq, List.length_map]; exact hlt
    obtain ⟨gr, off, rfl, hrow⟩ := hT.tops.rowS (by omega);have q1 := hrow.cell (strsV_get (topsS l) k hkl)
    have hte : (topsS l)[k] = idAt2 l (topsI l)[k] := by
     have := HR.out.topsS_eq;simp only [this, List.getElem_map]
    rw [hte] at q1;have htk : (topsI l)[k] < l.length := (mem_topsI.1 (List.getElem_mem hlt)).1;have hbt := HBT.out HR.out bi bk (some ⟨gr, off, none⟩) (topsI l).length ct _ htk (HR.out.short _) wr hT;rw [← idAt2_eq htk] at hbt;have HBC := Lib.hid hbt
    have hft : (famsS l).take (k + 1) = (famsS l).take k ++ [(idAt2 l (topsI l)[k], belS l 4 (topsI l)[k])] := by
     have hkf : k < (famsS l).length := by unfold famsS; rw [List.length_map]; exact hlt
     rw [List.take_succ_eq_append_getElem hkf]
     congr 2
     simp [famsS]
    have HFT := Lib.hid hft;have HFS := Lib.hid hfs;have HSL := Lib.hid hsl;have HTT := Lib.hid hT;clear hrow hte htk hbt hft hfs hsl hT hkl;generalize idAt2 l (topsI l)[k] = tid at *;generalize belS l 4 (topsI l)[k] = bs at *;have t0 := hB.cell 0; have t1 := hB.cell 1; have t2 := hB.cell 2; simp at t0 t1 t2
    go_wp2_with fail
    refine HBC.out.mono ?_;rintro e w3 ⟨v3, rfl, own3, m3⟩;have hS3 := Sl.of_own own3;obtain ⟨Ai, ni, ci, rfl⟩ := hS3.form;have hownA := own_pure hown m3;have hB3 := hB.mod m3 id;have hm3 := hm.trans m3;have hT3 := HTT.out.pure m3;have hob := own_block hownA;have HOB := Lib.hid hob;have hzz := m3.size;have HSL3 := Lib.hid (fun p hp => (HSL.out p hp).pure m3);have HS3 := Lib.hid hS3;have HB3 := Lib.hid hB3;have HT3 := Lib.hid hT3;have HM3 := Lib.hid hm3;clear t0 t1 t2 q1 hown hB hm HBC own3 m3 hob hB3 hT3 HTT HSL hS3
    go_wp2_with (at_builtin; refine wpList_append_lies _ rfl _ _ _ rfl base 92 i0 _ 2 40 Tryz.underlying85 hi0 hz0 hz1 hz2 rfl (by omega) (.slice Ao k cap) k (fmV fs) rfl (hownA.alloc _) ⟨w3.heap.size, 0, none⟩ 1 1 [.string ⟨tid.toArray⟩, .slice Ai ni ci] rfl rfl (World.news_of_block (cs := #[.string ⟨tid.toArray⟩, .slice Ai ni ci]) (t := 92) (fr := (0, 0)) (heap_alloc_new w3 _)) (by simp [Value.oneCell']) (by omega) (by simp [maxLen]; omega) (by omega) (by have := hm3.size; simp; omega) (w3.heap.size + 1) (by simp) ?_; intro g5 cap5 w5 hown5 hgrow hat hlt5)
    have hz5 := hgrow.size;simp at hz5;have hg3 := hownA.alloc (.cells #[.string ⟨tid.toArray⟩, .slice Ai ni ci] 92);have pA := pure_alloc w3 (.cells #[.string ⟨tid.toArray⟩, .slice Ai ni ci] 92)
    go_roundg ((topsI l).length - (k + 1))
    case measure => omega
    case rel =>
     refine ⟨k + 1, fs ++ [(tid, .slice Ai ni ci, bs)], some ⟨g5, 0, none⟩, cap5, rfl, by omega, rfl, by simp, by simp [hfl], ?_, ?_, ?_, ?_, ?_, (HM3.out.alloc _).grown hgrow (fun k hk => .inr (by have := HOB.out k hk; omega)), by omega⟩
     ·rw [HFT.out, ← HFS.out];simp [fmS]
     ·rw [fmV_snoc];exact hown5
     ·intro p hp
      rcases List.mem_append.1 hp with hp | hp
      ·exact ((HSL3.out p hp).pure pA).grown hg3 hgrow (by decide)
      ·rw [List.mem_singleton.1 hp];exact (HS3.out.pure pA).grown hg3 hgrow (by decide)
     ·exact (HB3.out.mod pA id).mod (grown_mod hgrow) (fun h => by have := HOB.out _ h; omega)
     ·exact (HT3.out.pure pA).grown (by omega) (by omega) hg3 hgrow
   ·obtain rfl : k = (topsI l).length := by omega
    have hft : fmS fs = famsS l := by
     rw [hfs, List.take_of_length_le];unfold famsS;rw [List.length_map];exact Nat.le_refl _
    have HFT := Lib.hid hft;have HSL := Lib.hid hsl;have HOW := Lib.hid (Sl.of_own hown);clear hft hsl hown hfs hB hT
    go_wp2_with fail
    refine bodyPost_ret (v := .tuple #[.slice Ao (topsI l).length cap, .int .i64 0]) (by simp [results, Tryz.results42, go_sem]) rfl ?_;exact ⟨_, by rw [HE1.out], fun h => absurd HE1.out h, fun _ => ⟨fs, ⟨HOW.out, HSL.out⟩, HFT.out⟩, hm⟩
 ·have h0' : (e1 != 0) = true := by simpa using h0
  have H0 := Lib.hid h0;clear HNT HRT HBT h0
  go_wp2_with fail
  refine bodyPost_ret (v := .tuple #[.slice none 0 0, .int .i64 e1]) (by simp [results, Tryz.results42, go_sem]) rfl ?_;exact ⟨_, by rw [HE1.out], fun _ => rfl, fun h => absurd (HE1.out.symm.trans h) H0.out, m1⟩

end Go.Proofs.YtpinlcapgoljfaaGreatDoor

/- Whole: the tops of items, the families that are hit. -/
namespace Go.Proofs.YtpinlcapgoljfaaGreatDoor
open Go.RowKit

/-- The top above item i. -/
def tpI (l : List Itm) (i : Nat) : Nat := (wayI l i).head?.getD i
theorem tpI_top {l : List Itm} {i : Nat} (h : upI l i = none) : tpI l i = i := by simp [tpI, wayI_top h]
theorem wayI_ne (l : List Itm) (i : Nat) : wayI l i ≠ [] := by simp [wayI]
theorem tpI_kid {l : List Itm} (hno : ∀ i, i < l.length → lpB l i = false) {i k : Nat} (hk : k < l.length) (h : upI l k = some i) : tpI l k = tpI l i := by
 unfold tpI;rw [wayI_kid hno hk h]
 cases hw : wayI l i with
 | nil => exact absurd hw (wayI_ne l i)
 | cons a t => rfl
theorem tpI_stp {l : List Itm} (hno : ∀ i, i < l.length → lpB l i = false) : ∀ (j i q : Nat), i < l.length → stp l j i = some q → upI l q = none → tpI l i = q
 | 0, i, q, _, h, hq => by
  simp [stp] at h;subst h;exact tpI_top hq
 | j + 1, i, q, hi, h, hq => by
  cases hu : upI l i with
  | none => simp [stp, hu] at h
  | some p =>
   rw [stp, hu] at h;rw [tpI_kid hno hi hu];exact tpI_stp hno j p q (upI_lt hu) h hq
theorem Right.top_at {l : List Itm} (h : Right l) {x : Nat} (hx : x < l.length) : ∃ m, m < 5 ∧ stp l m x = some (tpI l x) ∧ tpI l x < l.length ∧ upI l (tpI l x) = none := by
 obtain ⟨m, i, h1, h2, h3, h4⟩ := top_of 5 x hx (h.end5 x hx);rw [tpI_stp h.loop m x i hx h3 h4];exact ⟨m, h1, h3, h2, h4⟩
theorem Right.tpI_mem {l : List Itm} (h : Right l) {x : Nat} (hx : x < l.length) : tpI l x ∈ topsI l := by
 obtain ⟨m, _, _, h3, h4⟩ := h.top_at hx;exact mem_topsI.2 ⟨h3, h4⟩
theorem Right.bel_top {l : List Itm} (h : Right l) {t x : Nat} (ht : t ∈ topsI l) : x ∈ belI l 4 t ↔ x < l.length ∧ tpI l x = t := by
 obtain ⟨h1, h2⟩ := mem_topsI.1 ht
 constructor
 ·intro hx;refine ⟨bel_lt 4 t x h1 hx, ?_⟩;obtain ⟨r, hr⟩ := bel_way h.loop 4 t x hx;unfold tpI;rw [hr, wayI_top h2]
  rfl
 ·rintro ⟨hx, rfl⟩;obtain ⟨m, h3, h4, _, _⟩ := h.top_at hx;exact bel_has m 4 _ x (by omega) hx h4

theorem Right.id2_inj {l : List Itm} (h : Right l) {i k : Nat} (hi : i < l.length) (hk : k < l.length) (he : idAt2 l i = idAt2 l k) : i = k := by
 rw [idAt2_eq hi, idAt2_eq hk] at he;exact id_inj h.distinct hi hk he
theorem Right.all_len {l : List Itm} (h : Right l) : ((topsI l).flatMap fun t => belS l 4 t).length = l.length := by
 have h1 := (all_perm h.loop h.end5).length_eq;rw [List.length_range] at h1;rw [← h1, allI];clear h1
 induction topsI l with
 | nil => rfl
 | cons t ts ih =>
  simp only [List.flatMap_cons, List.length_append, ih];simp [belS]
end Go.Proofs.YtpinlcapgoljfaaGreatDoor

/- The top of an item: tree.top. -/
namespace Go.Proofs.YtpinlcapgoljfaaGreatDoor
open Go.RowKit

theorem TreeIs.par {w : World} {bi bk : Nat} {vt : Value} {l : List Itm} (h : TreeIs w bi bk vt l) (hR : Right l) {q : Nat} (hq : q < l.length) (hz : l[q].id.length ≤ 1000000) :
  (Instr.lookup 136 (.map (some bi)) (.string ⟨l[q].id.toArray⟩) false).run Tryz.prog w = .ok (itA l[q]) w := by
 have := h.items.lookup Tryz.underlying136 zero_item l[q].id hz;unfold byF at this;rw [fnd_plc (plc_self hR.distinct q hq) hq] at this;exact this
end Go.Proofs.YtpinlcapgoljfaaGreatDoor

/- found, FamilyOf, Children, Depth of package intake. -/
namespace Go.Proofs.YtpinlcapgoljfaaGreatDoor
open Go.RowKit

def FdNew (w : World) (g4 bi bk : Nat) (At : Option Addr) (nt ct : Nat) : Prop := Blk w g4 138 #[.map (some bi), .map (some bk), .slice At nt ct]
theorem FdNew.pure {w w' : World} {g4 bi bk : Nat} {At : Option Addr} {nt ct : Nat} (h : FdNew w g4 bi bk At nt ct) (hm : Pure w w') : FdNew w' g4 bi bk At nt ct := Blk.mod h hm id
theorem Mod.set3 (w : World) (g : Nat) (x y z : Value) : Mod (· = g) w (((w.setCell ⟨g, 0, none⟩ x).setCell ⟨g, 1, none⟩ y).setCell ⟨g, 2, none⟩ z) :=
 Mod.setCell (S := fun j => j = g) (p := ⟨g, 2, none⟩) (Mod.setCell (S := fun j => j = g) (p := ⟨g, 1, none⟩) (Mod.setCell (S := fun j => j = g) (p := ⟨g, 0, none⟩) (Mod.refl _ _) (.inl rfl) _) (.inl rfl) _) (.inl rfl) _

end Go.Proofs.YtpinlcapgoljfaaGreatDoor

/- FamilyOf, Children, Depth of package intake. -/
namespace Go.Proofs.YtpinlcapgoljfaaGreatDoor
open Go.RowKit

def idxId (l : List Itm) (id : Str) : Nat := (plc l id).getD 0
def fmB (l : List Itm) (id : Str) : List Str := belS l 4 (tpI l (idxId l id))
theorem right_items {l : List Itm} (h : itsE itemE l = 0) : Right l := right_of (E := itemE) (fun _ hx => itemE_ne hx) h

end Go.Proofs.YtpinlcapgoljfaaGreatDoor

/- What counts for items (plain): the reference's and the program's answer. -/
namespace Go.Proofs.YtpinlcapgoljfaaGreatDoor
open Go.RowKit

/-- The first coding of an item. -/
def ownC (cs : List CodR) (s : Str) : Option CodR := cs.find? fun x => decide (x.item = s)
def ownV (cs : List CodR) (s : Str) : List ChoR := match ownC cs s with | none => [] | some x => x.vals
/-- The last coding of an item. -/
def ownL : List CodR → Str → Option CodR
 | [], _ => none
 | x :: t, s => match ownL t s with | some y => some y | none => if x.item = s then some x else none
theorem ownL_app : ∀ (l : List CodR) (x : CodR) (s : Str), ownL (l ++ [x]) s = if s = x.item then some x else ownL l s
 | [], x, s => by
  show (match ownL [] s with | some y => some y | none => if x.item = s then some x else none) = _
  by_cases h : s = x.item
  ·simp [ownL, h]
  ·simp [ownL, h, Ne.symm h, fun e : x.item = s => h e.symm]
 | y :: t, x, s => by
  show (match ownL (t ++ [x]) s with | some z => some z | none => if y.item = s then some y else none) = _
  rw [ownL_app t x s]
  by_cases h : s = x.item
  ·simp [h]
  ·simp [h, ownL]
theorem ownL_none {l : List CodR} {s : Str} (h : ∀ x ∈ l, x.item ≠ s) : ownL l s = none := by
 induction l with
 | nil => rfl
 | cons x t ih =>
  show (match ownL t s with | some y => some y | none => if x.item = s then some x else none) = none
  rw [ih (fun y hy => h y (List.mem_cons_of_mem _ hy))];simp only;rw [if_neg (h x List.mem_cons_self)]
theorem spr_lt {a b : Str} (h : leS a b = false) : b < a := by
 have h1 : ¬ a ≤ b := fun e => by rw [leS_iff.2 e] at h; cases h
 exact List.not_le.1 h1
/-- Codings in order have different items. -/
theorem ceE_lt {L : LayR} : ∀ {xs : List CodR} {p : Str}, ceE L p xs = 0 → (∀ x ∈ xs, p < x.item) ∧ xs.Pairwise fun x y => x.item < y.item
 | [], p, _ => ⟨fun x hx => absurd hx (by simp), List.Pairwise.nil⟩
 | x :: t, p, h => by
  unfold ceE at h
  split at h
  ·omega
  split at h
  ·omega
  rename_i h1
  split at h
  ·rename_i h2; exact absurd h h2
  obtain ⟨i1, i2⟩ := ceE_lt h
  have hx : p < x.item := by
   have h3 : leS x.item p = false := by simpa using h1
   exact spr_lt h3
  refine ⟨fun y hy => ?_, List.Pairwise.cons i1 i2⟩
  rcases List.mem_cons.1 hy with e | e
  ·rw [e]; exact hx
  ·exact List.lt_trans hx (i1 y e)

theorem codsE_lt {L : LayR} {xs : List CodR} (h : codsE L xs = 0) : xs.Pairwise fun x y => x.item < y.item := by
 unfold codsE at h
 split at h
 ·omega
 ·exact (ceE_lt h).2
/-- With different items the first coding is the last one. -/
theorem ownL_C : ∀ {cs : List CodR} (s : Str), (cs.Pairwise fun x y => x.item < y.item) → ownL cs s = ownC cs s
 | [], _, _ => rfl
 | x :: t, s, h => by
  obtain ⟨h1, h2⟩ := List.pairwise_cons.1 h
  show (match ownL t s with | some y => some y | none => if x.item = s then some x else none) = (x :: t).find? fun z => decide (z.item = s)
  rw [List.find?_cons]
  by_cases e : x.item = s
  ·have : ownL t s = none := ownL_none (fun y hy he => by
    have := h1 y hy;rw [e, he] at this
    exact List.lt_irrefl _ this)
   rw [this];simp [e]
  ·rw [ownL_C s h2];simp only [e, decide_false, if_false]
   show (match ownC t s with | some y => some y | none => none) = ownC t s
   cases ownC t s <;> rfl
/-- The ids of the items with a sum. -/
def idsSum (its : List Itm) (h : Str) : List Str := (its.filter fun x => decide (sumS x = h)).map (·.id)
theorem idsSum_take {l : List Itm} {k : Nat} (h : k < l.length) (p : Str) : idsSum (l.take (k + 1)) p = if sumS l[k] = p then idsSum (l.take k) p ++ [l[k].id] else idsSum (l.take k) p := by
 unfold idsSum;rw [List.take_succ_eq_append_getElem h, List.filter_append, List.map_append]
 by_cases e : sumS l[k] = p
 ·simp [e]
 ·simp [e]
/-- What is chosen first for a field among items. -/
def firV (cs : List CodR) : List Str → Str → List Str
 | [], _ => []
 | i :: t, f => if chIn (ownV cs i) f = [] then firV cs t f else chIn (ownV cs i) f
/-- What counts for an item and a field. -/
def sprA (cs : List CodR) (its : List Itm) (x : Itm) (a : AskR) : List Str :=
 if chIn (ownV cs x.id) a.field = [] then (if a.spread = 1 then firV cs (idsSum its (sumS x)) a.field else if a.spread = 2 then firV cs (fmB its x.id) a.field else []) else chIn (ownV cs x.id) a.field
def sprV (cs : List CodR) (its : List Itm) (x : Itm) (al : List AskR) : List (Str × List Str) := (al.filter fun a => decide (sprA cs its x a ≠ [])).map fun a => (a.field, sprA cs its x a)
def sprX (cs : List CodR) (its : List Itm) (al : List AskR) (x : Itm) : Str × List (Str × List Str) := (x.id, sprV cs its x al)
def sprS (cs : List CodR) (its : List Itm) (al : List AskR) (xs : List Itm) : List (Str × List (Str × List Str)) := (xs.filter fun x => decide (sprV cs its x al ≠ [])).map (sprX cs its al)
theorem sprV_snoc {cs : List CodR} {its : List Itm} {x : Itm} {al : List AskR} {k : Nat} (h : k < al.length) : sprV cs its x (al.take (k + 1)) = if sprA cs its x al[k] = [] then sprV cs its x (al.take k) else sprV cs its x (al.take k) ++ [(al[k].field, sprA cs its x al[k])] := by
 unfold sprV;rw [List.take_succ_eq_append_getElem h, List.filter_append, List.map_append]
 by_cases e : sprA cs its x al[k] = []
 ·simp [e]
 ·simp [e]
theorem sprS_snoc {cs : List CodR} {its : List Itm} {al : List AskR} {k : Nat} {xs : List Itm} (h : k < xs.length) : sprS cs its al (xs.take (k + 1)) = if sprV cs its xs[k] al = [] then sprS cs its al (xs.take k) else sprS cs its al (xs.take k) ++ [sprX cs its al xs[k]] := by
 unfold sprS;rw [List.take_succ_eq_append_getElem h, List.filter_append, List.map_append]
 by_cases e : sprV cs its xs[k] al = []
 ·simp [e]
 ·simp [e]
theorem firV_len {cs : List CodR} {M : Nat} {f : Str} (h : ∀ i, (chIn (ownV cs i) f).length ≤ M) : ∀ l, (firV cs l f).length ≤ M
 | [] => by simp [firV]
 | i :: t => by
  unfold firV
  split
  ·exact firV_len h t
  ·exact h i
theorem firV_step {cs : List CodR} {l : List Str} {k : Nat} (h : k < l.length) (f : Str) : firV cs (l.drop k) f = if chIn (ownV cs l[k]) f = [] then firV cs (l.drop (k + 1)) f else chIn (ownV cs l[k]) f := by
 rw [List.drop_eq_getElem_cons h]
 rfl

end Go.Proofs.YtpinlcapgoljfaaGreatDoor

/- The closures of Spread: what an item has of its own; the first of some. -/
namespace Go.Proofs.YtpinlcapgoljfaaGreatDoor
open Go.RowKit

def CodR.sl (x : CodR) : Value := .slice x.A x.vals.length x.c
/-- A map from items to the values of their codings. -/
def OwnM (w : World) (bo : Nat) (cs : List CodR) : Prop := ∃ n V, MapS w bo n V ∧ n ≤ 100000 ∧ (∀ s, V s = (ownC cs s).map CodR.sl) ∧ CodS w cs
theorem OwnM.pure {w w' : World} {bo : Nat} {cs : List CodR} (h : OwnM w bo cs) (hm : Pure w w') : OwnM w' bo cs := by
 obtain ⟨n, V, h1, h2, h3, h4⟩ := h;exact ⟨n, V, h1.pure hm, h2, h3, h4.pure hm⟩
theorem zero_vals (W : World) : (zeroValue 74).run Tryz.prog W = .ok nilS W := by kernel_rfl
theorem ownC_mem {cs : List CodR} {s : Str} {x : CodR} (h : ownC cs s = some x) : x ∈ cs := List.mem_of_find?_eq_some h
/-- What a look into the map gives. -/
theorem OwnM.look {w : World} {bo : Nat} {cs : List CodR} (h : OwnM w bo cs) (s : Str) (hs : s.length ≤ 1000000) : ∃ (A : Option Addr) (n c : Nat), (Instr.lookup 117 (.map (some bo)) (.string ⟨s.toArray⟩) false).run Tryz.prog w = .ok (.slice A n c) w ∧ Vals w (.slice A n c) (ownV cs s) := by
 obtain ⟨n, V, h1, h2, h3, h4⟩ := h;have hl := h1.lookup (t := 117) (e := 74) Tryz.underlying117 zero_vals s hs;rw [h3] at hl;unfold ownV
 cases ho : ownC cs s with
 | none => rw [ho] at hl; exact ⟨none, 0, 0, hl, Sl.nil_, fun x hx => absurd hx (by simp)⟩
 | some x => rw [ho] at hl; exact ⟨x.A, x.vals.length, x.c, hl, h4 x (ownC_mem ho)⟩

set_option maxRecDepth 100000 in
set_option maxHeartbeats 4000000 in
theorem rown_calls (w : World) (gc : Nat) (A : Option Addr) (n c : Nat) (cs : List CodR) (item f : Str) (hB : Blk w gc 65 #[.slice A n c]) (hC : Cods w (.slice A n c) cs) (hz : ∀ x ∈ cs, x.vals.length ≤ 1000000) (hn : cs.length ≤ 100000) : Calls Tryz.prog 75 #[.string ⟨item.toArray⟩, .string ⟨f.toArray⟩, .pointer (some ⟨gc, 0, none⟩)] w (ChPost w (ownV cs item) f) := by
 have hl := hC.len;subst hl;have HC := Lib.hid hC;have HZ := Lib.hid hz;have HB := Lib.hid hB;have x0 := hB.cell 0; simp at x0;clear hC hz hB
 go_enter Tryz.func75, Tryz.ntmps75
 go_wp2_with fail
 go_loopg [10] cs.length (fun gk i wr => ∃ k : Nat, cs.length - k = gk ∧ k ≤ cs.length ∧ i = .int .i64 (k : Int) ∧ ownC cs item = ownC (cs.drop k) item ∧ Pure w wr)
 case atStart => exact ⟨0, by omega, by omega, rfl, rfl, Mod.refl _ _⟩
 case round =>
  obtain ⟨k, rfl, hk, rfl, hix, hm⟩ := hrel
  by_cases hlt : k < cs.length
  ·rw [List.drop_eq_getElem_cons hlt] at hix;obtain ⟨g, off, rfl, q0, q1⟩ := (HC.out.pure hm).cells hlt;have HS := Lib.hid ((HC.out.2 _ (List.getElem_mem hlt)).pure hm);have hvl := HZ.out _ (List.getElem_mem hlt);have HIX := Lib.hid hix;have HM := Lib.hid hm;clear hix hm;generalize cs[k] = x at *;obtain ⟨xi, xA, xc, xv⟩ := x;simp only [] at q0 q1 HIX HS hvl;have hx1 := Blk.new wr 76 #[.string ⟨xi.toArray⟩, .slice xA xv.length xc];have x0 := hx1.cell 0; have x1 := hx1.cell 1; simp at x0 x1;have hpa := pure_alloc wr (.cells #[.string ⟨xi.toArray⟩, .slice xA xv.length xc] 76);have HM2 := Lib.hid (HM.out.trans hpa);have HCI := Lib.hid (choicesIn_calls _ _ xv f (Vals.pure HS.out hpa) hvl);clear hx1 hpa HS HM;obtain ⟨bf, hbf⟩ : ∃ bf, (xi == item) = bf := ⟨_, rfl⟩;have HBF := Lib.hid hbf
   cases bf
   ·have HN : Hid (ownC cs item = ownC (cs.drop (k + 1)) item) := Lib.hid (by
     rw [HIX.out];unfold ownC;rw [List.find?_cons]
     have : ¬ xi = item := by simpa using HBF.out
     simp [this])
    clear HIX HBF HCI
    go_wp2_with fail
    go_roundg (cs.length - (k + 1))
    case measure => omega
    case rel => exact ⟨k + 1, rfl, hlt, by simp, HN.out, HM2.out⟩
   ·have HN : Hid (ownV cs item = xv) := Lib.hid (by
     unfold ownV;rw [HIX.out];unfold ownC;rw [List.find?_cons]
     have : xi = item := by simpa using HBF.out
     simp [this])
    clear HIX HBF
    go_wp2_with fail
    refine HCI.out.mono ?_;rintro e w2 ⟨A2, c2, rfl, hs2, hm2⟩
    go_wp2_with fail
    go_ret;exact ⟨A2, c2, by rw [HN.out]; rfl, by rw [HN.out]; exact hs2, HM2.out.trans hm2⟩
  ·obtain rfl : k = cs.length := by omega
   have HN : Hid (ownV cs item = []) := Lib.hid (by unfold ownV; rw [hix, List.drop_length]; rfl);have HM := Lib.hid hm;clear hix hlt hk hm
   go_wp2_with fail
   go_ret;exact ⟨none, 0, by rw [HN.out]; rfl, by rw [HN.out]; exact Sl.nil_, HM.out⟩
/-- The first choices of some items. -/
def FvPost (w : World) (cs : List CodR) (ids : List Str) (f : Str) (e : Ending) (w' : World) : Prop := ∃ (A : Option Addr) (c : Nat), e = .returned (.slice A (firV cs ids f).length c) ∧ Sl w' 9 1 (.slice A (firV cs ids f).length c) (strsV (firV cs ids f)) ∧ Pure w w'

set_option maxRecDepth 100000 in
set_option maxHeartbeats 4000000 in
theorem pfirst_calls (w : World) (go bo : Nat) (v : Value) (ids : List Str) (cs : List CodR) (f : Str) (hB : Blk w go 117 #[.map (some bo)]) (hO : OwnM w bo cs) (hv : Sl w 9 1 v (strsV ids)) (hid : ∀ s ∈ ids, s.length ≤ 100000) : Calls Tryz.prog 68 #[v, .string ⟨f.toArray⟩, .pointer (some ⟨go, 0, none⟩)] w (FvPost w cs ids f) := by
 obtain ⟨A, n, c, rfl, hc1, hc2, hl, hr⟩ := hv
 have hln : ids.length = n := by simpa [strsV] using hl
 subst hln;have HR := Lib.hid hr;have HB := Lib.hid hB;have HO := Lib.hid hO;have HI := Lib.hid hid;clear hr hB hO hid hl
 go_enter Tryz.func68, Tryz.ntmps68
 go_wp2_with fail
 go_loopg [11] ids.length (fun gk i wr => ∃ k : Nat, ids.length - k = gk ∧ k ≤ ids.length ∧ i = .int .i64 (k : Int) ∧ firV cs ids f = firV cs (ids.drop k) f ∧ Pure w wr)
 case atStart => exact ⟨0, by omega, by omega, rfl, rfl, Mod.refl _ _⟩
 case round =>
  obtain ⟨k, rfl, hk, rfl, hix, hm⟩ := hrel
  by_cases hlt : k < ids.length
  ·rw [firV_step hlt] at hix;obtain ⟨g, off, rfl, hrow⟩ := HR.out (by omega);have hq := (hrow.mod hm id).cell (strsV_get ids k hlt);have hil := HI.out _ (List.getElem_mem hlt);obtain ⟨VA, vn, vc, hlk, hvv⟩ := (HO.out.pure hm).look ids[k] (by omega);have HIX := Lib.hid hix;have HM := Lib.hid hm;have HVC := Lib.hid (fun (W : World) (h : Pure wr W) => value_calls W _ _ f (Vals.pure hvv h));have hBr := HB.out.modp hm;have x0 := hBr.cell 0; simp at x0;clear hix hrow hvv hm hBr;generalize ownV cs ids[k] = ov at *;generalize ids[k] = s at *
   go_wp2_with fail
   refine (HVC.out _ (Mod.refl _ _)).mono ?_;rintro e w2 ⟨A2, c2, rfl, hs2, hm2⟩;have HS2 := Lib.hid hs2;have HM2 := Lib.hid (HM.out.trans hm2);clear hs2 hm2 HVC HM hlk hq
   by_cases h0 : chIn ov f = []
   ·have HN := Lib.hid (show firV cs ids f = firV cs (ids.drop (k + 1)) f by rw [HIX.out, if_pos h0])
    have hl0 : (chIn ov f).length = 0 := by rw [h0]; rfl
    rw [hl0];clear HIX HS2 h0 hl0
    go_wp2_with fail
    go_roundg (ids.length - (k + 1))
    case measure => omega
    case rel => exact ⟨k + 1, rfl, hlt, by simp, HN.out, HM2.out⟩
   ·have HN := Lib.hid (show firV cs ids f = chIn ov f by rw [HIX.out, if_neg h0])
    have hl0 : (0 : Int) < ((chIn ov f).length : Int) := by have := List.length_pos_iff.2 h0; omega
    clear HIX h0;generalize chIn ov f = ch at *
    go_wp2_with fail
    go_ret;exact ⟨A2, c2, by rw [HN.out]; rfl, by rw [HN.out]; exact HS2.out, HM2.out⟩
  ·obtain rfl : k = ids.length := by omega
   have HN : Hid (firV cs ids f = []) := Lib.hid (by rw [hix, List.drop_length]; rfl);have HM := Lib.hid hm;clear hix hlt hk hm
   go_wp2_with fail
   go_ret;exact ⟨none, 0, by rw [HN.out]; rfl, by rw [HN.out]; exact Sl.nil_, HM.out⟩

end Go.Proofs.YtpinlcapgoljfaaGreatDoor

/- FamiliesOf: what its second loop keeps. -/
namespace Go.Proofs.YtpinlcapgoljfaaGreatDoor
open Go.RowKit

/-- Families in strings. -/
def famT (l : List Itm) (f : List (Nat × List Nat)) : List (Str × List Str) := f.map fun p => (idAt2 l p.1, p.2.map (idAt2 l))
theorem famT_all (l : List Itm) : famT l (famsI l) = famsS l := by simp [famT, famsI, famsS, belS]
def foldK (l : List Itm) (k : Nat) : List (Nat × List Nat) := ((allI l).take k).foldl (famStep l) []
theorem foldK_all (l : List Itm) : famT l (foldK l (allI l).length) = famsS l := by
 unfold foldK;rw [List.take_length, fam_fold, famT_all]
theorem foldK_succ {l : List Itm} {k : Nat} (h : k < (allI l).length) : foldK l (k + 1) = famStep l (foldK l k) (allI l)[k] := by
 unfold foldK;rw [List.take_succ_eq_append_getElem h, List.foldl_append]
 rfl
theorem all_first (l : List Itm) (h : 0 < (allI l).length) : upI l (allI l)[0] = none := by
 cases ht : topsI l with
 | nil => simp [allI, ht] at h
 | cons t ts =>
  have e : (allI l)[0]? = some t := by
   rw [allI, ht, List.flatMap_cons]
   rfl
  rw [List.getElem?_eq_getElem h] at e
  injection e with e
  rw [e];exact (mem_topsI.1 (by rw [ht]; simp)).2
theorem famStep_ne {l : List Itm} {f : List (Nat × List Nat)} {i : Nat} (h : f ≠ []) : famStep l f i ≠ [] := by
 unfold famStep
 split
 ·simp
 ·cases hf : f.getLast? with
  | none => exact h
  | some p => simp
theorem foldK_ne {l : List Itm} : ∀ {k : Nat}, 0 < k → k ≤ (allI l).length → foldK l k ≠ []
 | 1, _, h => by
  rw [foldK_succ (by omega)];unfold famStep;rw [if_pos (all_first l (by omega))];simp [foldK]
 | k + 2, _, h => by
  rw [foldK_succ (by omega)];exact famStep_ne (foldK_ne (by omega) (by omega))
/-- One more, in strings: a top. -/
theorem famT_top {l : List Itm} {f : List (Nat × List Nat)} {i : Nat} (h : upI l i = none) : famT l (famStep l f i) = famT l f ++ [(idAt2 l i, [idAt2 l i])] := by
 unfold famStep;rw [if_pos h];simp [famT]
/-- One more, in strings: below a top. -/
theorem famT_kid {l : List Itm} {f : List (Nat × List Nat)} {i : Nat} (h : upI l i ≠ none) {fs0 : List (Str × List Str)} {p : Str × List Str} (hf : famT l f = fs0 ++ [p]) : famT l (famStep l f i) = fs0 ++ [(p.1, p.2 ++ [idAt2 l i])] := by
 have hne : f ≠ [] := by rintro rfl; simp [famT] at hf
 obtain ⟨f0, q, rfl⟩ : ∃ f0 q, f = f0 ++ [q] := ⟨f.dropLast, f.getLast hne, (List.dropLast_concat_getLast hne).symm⟩;unfold famStep;rw [if_neg h];unfold famT at hf ⊢;rw [List.map_append, List.map_cons, List.map_nil] at hf;obtain ⟨h1, h2⟩ := List.append_inj' hf (by simp);simp at h2;subst h1;subst h2;simp

/-- The families in memory: the last one's items are the call's own row, those of the others lie below it. -/
def FoOwn (w : World) (base : Nat) (vo : Value) (fs : List Fm) : Prop :=
 w.ownsRow base 92 2 vo fs.length (fmV fs) ∧
 (fs = [] ∨ ∃ fs0 p bl, fs = fs0 ++ [p] ∧ base ≤ bl ∧ bl ≤ w.heap.size ∧ (∀ q ∈ fs0, SlU w bl q.2.1 q.2.2) ∧ w.ownsRow bl 9 1 p.2.1 p.2.2.length (strsV p.2.2))
theorem FoOwn.all {w : World} {base : Nat} {vo : Value} {fs : List Fm} (h : FoOwn w base vo fs) : ∀ q ∈ fs, SlU w w.heap.size q.2.1 q.2.2 := by
 rcases h.2 with rfl | ⟨fs0, p, bl, rfl, h1, h1', h2, h3⟩
 ·intro q hq; cases hq
 ·intro q hq
  rcases List.mem_append.1 hq with hq | hq
  ·exact (h2 q hq).up h1'
  ·rw [List.mem_singleton.1 hq];exact SlU.of_own h3
theorem FoOwn.fm {w : World} {base : Nat} {vo : Value} {fs : List Fm} (h : FoOwn w base vo fs) : FmR w vo fs := ⟨Sl.of_own h.1, fun p hp => (h.all p hp).1⟩
theorem FoOwn.pure {w w' : World} {base : Nat} {vo : Value} {fs : List Fm} (h : FoOwn w base vo fs) (hm : Pure w w') : FoOwn w' base vo fs := by
 refine ⟨own_pure h.1 hm, ?_⟩
 rcases h.2 with rfl | ⟨fs0, p, bl, rfl, h1, h1', h2, h3⟩
 ·exact .inl rfl
 ·exact .inr ⟨fs0, p, bl, rfl, h1, Nat.le_trans h1' hm.size, fun q hq => (h2 q hq).mod hm (fun _ _ _ => id), own_pure h3 hm⟩
/-- A new family. -/
theorem FoOwn.top {w w5 : World} {base n' : Nat} {vo v5 : Value} {fs : List Fm} {id : Str} (h : FoOwn w base vo fs) (hg : w.grownBy w5 vo.ownBlock) (hn : n' = fs.length + 1) (hown : w5.ownsRow base 92 2 v5 n' (fmV fs ++ [.string ⟨id.toArray⟩, nilS])) (hb : base ≤ w.heap.size) : FoOwn w5 base v5 (fs ++ [(id, nilS, [])]) := by
 subst hn;refine ⟨?_, .inr ⟨fs, _, w5.heap.size, rfl, Nat.le_trans hb hg.size, Nat.le_refl _, fun q hq => ?_, ?_⟩⟩
 ·rw [fmV_snoc]
  simpa using hown
 ·exact ((h.all q hq).grown h.1 (by decide) hg).up hg.size
 ·exact ⟨by simp [strsV], .inl ⟨rfl, rfl⟩⟩
theorem fmV_set (fs0 : List Fm) (p : Fm) (v : Value) (ids : List Str) : (fmV (fs0 ++ [p])).set (fs0.length * 2 + 1) v = fmV (fs0 ++ [(p.1, v, ids)]) := by
 rw [fmV_snoc, fmV_snoc, ← fmV_len, List.set_append_right _ _ (by omega)];simp
/-- The families, with the last one at hand: its items are the call's own row. -/
structure FoLast (w : World) (base g cap bl : Nat) (fs0 : List Fm) (t : Str) (v : Value) (ids : List Str) : Prop where
 out : w.ownsRow base 92 2 (.slice (some ⟨g, 0, none⟩) (fs0.length + 1) cap) (fs0.length + 1) (fmV (fs0 ++ [(t, v, ids)]))
 b1 : base ≤ bl
 b2 : bl ≤ w.heap.size
 old : ∀ q ∈ fs0, SlU w bl q.2.1 q.2.2
 own : w.ownsRow bl 9 1 v ids.length (strsV ids)
section
variable {w w' : World} {base g cap bl : Nat} {fs0 : List Fm} {t : Str} {v : Value} {ids : List Str}
theorem FoLast.pure (h : FoLast w base g cap bl fs0 t v ids) (hm : Pure w w') : FoLast w' base g cap bl fs0 t v ids :=
 ⟨own_pure h.out hm, h.b1, Nat.le_trans h.b2 hm.size, fun q hq => (h.old q hq).mod hm (fun _ _ _ => id), own_pure h.own hm⟩
theorem FoLast.cell (h : FoLast w base g cap bl fs0 t v ids) : w.cell? ⟨g, fs0.length * 2 + 1, none⟩ = some v := by
 rw [h.out.cellAt _ (by omega)];have := (fmV_get (fs0 ++ [(t, v, ids)]) fs0.length (by simp)).2
 simpa using this
theorem FoLast.lt (h : FoLast w base g cap bl fs0 t v ids) : base ≤ g ∧ g < w.heap.size := h.out.lt g rfl
theorem FoOwn.last {vo : Value} {fs : List Fm} (h : FoOwn w base vo fs) (hne : fs ≠ []) : ∃ fs0 t A ids c g cap bl, fs = fs0 ++ [(t, .slice A ids.length c, ids)] ∧ vo = .slice (some ⟨g, 0, none⟩) (fs0.length + 1) cap ∧ FoLast w base g cap bl fs0 t (.slice A ids.length c) ids := by
 rcases h.2 with rfl | ⟨fs0, ⟨t, v, ids⟩, bl, rfl, h1, h1', h2, h3⟩
 ·exact absurd rfl hne
 ·have ho := h.1
  rcases ho.2 with ⟨_, h0⟩ | ⟨g, cap, cur, hv, r⟩
  ·simp at h0
  ·simp only [List.length_append, List.length_cons, List.length_nil, Nat.zero_add] at hv ho;subst hv;obtain ⟨A, n, c, rfl⟩ := (Sl.of_own h3).form;have hn : ids.length = n := (Sl.of_own h3).lenS;subst hn;exact ⟨fs0, t, A, ids, c, g, cap, bl, rfl, rfl, ho, h1, h1', h2, h3⟩
/-- The last family's row has grown, and is not stored yet. -/
def FoPre (zw : World) (base g cap bl : Nat) (fs0 : List Fm) (t : Str) (v : Value) (ids : List Str) (id : Str) (v5 : Value) : Prop :=
 ∃ W n', FoLast W base g cap bl fs0 t v ids ∧ W.grownBy zw v.ownBlock ∧ n' = ids.length + 1 ∧ zw.ownsRow bl 9 1 v5 n' (strsV ids ++ [.string ⟨id.toArray⟩])
theorem grownBy_pure {W w w' : World} {row : Option Nat} (h : W.grownBy w row) (hm : Pure w w') : W.grownBy w' row :=
 ⟨hm.os.trans h.os, hm.tape.trans h.tape, hm.output.trans h.output, Nat.le_trans h.size hm.size, fun k hk hr => (hm.block k (Nat.lt_of_lt_of_le hk h.size) id).trans (h.block k hk hr)⟩
variable {id : Str} {v5 : Value}
theorem FoPre.pure (h : FoPre w base g cap bl fs0 t v ids id v5) (hm : Pure w w') : FoPre w' base g cap bl fs0 t v ids id v5 := by
 obtain ⟨W, n', h1, h2, h3, h4⟩ := h;exact ⟨W, n', h1, grownBy_pure h2 hm, h3, own_pure h4 hm⟩
theorem FoPre.outs (h : FoPre w base g cap bl fs0 t v ids id v5) : w.ownsRow base 92 2 (.slice (some ⟨g, 0, none⟩) (fs0.length + 1) cap) (fs0.length + 1) (fmV (fs0 ++ [(t, v, ids)])) := by
 obtain ⟨W, n', h1, h2, h3, h4⟩ := h;exact own_grown h1.out h1.own (by decide) h2
theorem FoPre.cell (h : FoPre w base g cap bl fs0 t v ids id v5) : w.cell? ⟨g, fs0.length * 2 + 1, none⟩ = some v := by
 rw [h.outs.cellAt _ (by omega)];have := (fmV_get (fs0 ++ [(t, v, ids)]) fs0.length (by simp)).2
 simpa using this
/-- The last family has one item more. -/
theorem FoPre.store (h : FoPre w base g cap bl fs0 t v ids id v5) : FoOwn (w.setCell ⟨g, fs0.length * 2 + 1, none⟩ v5) base (.slice (some ⟨g, 0, none⟩) (fs0.length + 1) cap) (fs0 ++ [(t, v5, ids ++ [id])]) := by
 have ho5 := h.outs;obtain ⟨W, n', hL, hg, hn, hown⟩ := h;subst hn;obtain ⟨hs, hgr⟩ := ho5.stored (fs0.length * 2 + 1) v5;rw [fmV_set _ _ _ (ids ++ [id])] at hs;refine ⟨by simpa using hs, .inr ⟨fs0, _, bl, rfl, hL.b1, Nat.le_trans hL.b2 (Nat.le_trans hg.size hgr.size), fun q hq => ?_, ?_⟩⟩
 ·have h4 : SlU w bl q.2.1 q.2.2 := (hL.old q hq).mod (grown_mod hg) (fun g' _ hl he => by have := (hL.own.lt g' he).1; omega);exact h4.grown ho5 (by decide) hgr
 ·have := own_grown hown ho5 (by decide) hgr
  simpa [strsV] using this
end
theorem foldK_len {l : List Itm} : ∀ {k : Nat}, k ≤ (allI l).length → (foldK l k).length ≤ k ∧ ∀ p ∈ foldK l k, p.2.length ≤ k
 | 0, _ => by simp [foldK]
 | k + 1, h => by
  obtain ⟨h1, h2⟩ := foldK_len (l := l) (k := k) (by omega);rw [foldK_succ (by omega)];generalize foldK l k = f at *;unfold famStep
  split
  ·refine ⟨by simp; omega, fun p hp => ?_⟩
   rcases List.mem_append.1 hp with hp | hp
   ·exact Nat.le_succ_of_le (h2 p hp)
   ·rw [List.mem_singleton.1 hp];simp
  ·cases hf : f.getLast? with
   | none => exact ⟨by show f.length ≤ _; omega, fun p hp => Nat.le_succ_of_le (h2 p hp)⟩
   | some q =>
    have hq := h2 q (List.mem_of_getLast? hf);refine ⟨by simp; omega, fun p hp => ?_⟩
    rcases List.mem_append.1 hp with hp | hp
    ·exact Nat.le_succ_of_le (h2 p (List.dropLast_subset f hp))
    ·rw [List.mem_singleton.1 hp];simp
     omega
theorem fo_len {l : List Itm} {fs : List Fm} {k : Nat} (hk : k ≤ (allI l).length) (h : fmS fs = famT l (foldK l k)) : fs.length ≤ k ∧ ∀ p ∈ fs, p.2.2.length ≤ k := by
 obtain ⟨h1, h2⟩ := foldK_len hk;have hl := congrArg List.length h;simp [fmS, famT] at hl;refine ⟨by omega, fun p hp => ?_⟩
 have : (p.1, p.2.2) ∈ famT l (foldK l k) := by
  rw [← h];exact List.mem_map.2 ⟨p, hp, rfl⟩
 unfold famT at this;obtain ⟨q, hq, he⟩ := List.mem_map.1 this
 injection he with _ he
 rw [← he, List.length_map];exact h2 q hq

end Go.Proofs.YtpinlcapgoljfaaGreatDoor

/- FamiliesOf of the reference. -/
namespace Go.Proofs.YtpinlcapgoljfaaGreatDoor
open Go.RowKit

def FamOPost (w : World) (l : List Itm) (e : Ending) (w' : World) : Prop := ∃ v fs, e = .returned v ∧ FmR w' v fs ∧ fmS fs = famsS l ∧ Pure w w'
def FiRel (W0 : World) (gm n gk : Nat) (k : Value) (wr : World) : Prop :=
 ∃ m : Nat, n - m = gk ∧ m ≤ n ∧ k = .int .i64 (m : Int) ∧ wr.ownsRow gm 3 1 (.slice (some ⟨gm, 0, none⟩) n n) n (natsV (List.range m ++ List.replicate (n - m) 0)) ∧ Mod (· = gm) W0 wr
theorem fill_set (n m : Nat) (h : m < n) : (List.range m ++ List.replicate (n - m) 0).set m m = List.range (m + 1) ++ List.replicate (n - (m + 1)) 0 := by
 rw [List.set_append_right _ _ (by simp), show n - m = (n - (m + 1)) + 1 by omega, List.replicate_succ];simp [List.range_succ]
theorem natsV_zeros (n : Nat) : natsV (List.replicate n 0) = List.replicate n (.int .i64 0) := by simp [natsV]
def FoRel (W0 : World) (base : Nat) (l : List Itm) (gk : Nat) (x i : Value) (wr : World) : Prop :=
 ∃ (k : Nat) (fs : List Fm) (Ao : Option Addr) (cap : Nat), (allI l).length - k = gk ∧ k ≤ (allI l).length ∧ x = .slice Ao fs.length cap ∧ i = .int .i64 (k : Int) ∧ fmS fs = famT l (foldK l k) ∧ FoOwn wr base (.slice Ao fs.length cap) fs ∧ Pure W0 wr ∧ base ≤ wr.heap.size
def FoCut (W0 : World) (base : Nat) (l : List Itm) (k i : Nat) (x : Value) (wx : World) : Prop :=
 ∃ (fs0 : List Fm) (t : Str) (A : Option Addr) (ids : List Str) (c g cap bl : Nat), x = .slice (some ⟨g, 0, none⟩) (fs0.length + 1) cap ∧ FoLast wx base g cap bl fs0 t (.slice A ids.length c) ids ∧
  fmS fs0 ++ [(t, ids ++ [idAt2 l i])] = famT l (foldK l (k + 1)) ∧ Pure W0 wx ∧ base ≤ wx.heap.size ∧ fs0.length ≤ k ∧ ids.length ≤ k
theorem all_perm' {l : List Itm} (hR : Right l) : (allI l).Perm (List.range l.length) := all_perm hR.loop hR.end5

def FoNew (w : World) (base gf cf : Nat) (fs0 : List Fm) (t : Str) (ids : List Str) (id : Str) : Prop := ∃ v5, FoOwn w base (.slice (some ⟨gf, 0, none⟩) (fs0.length + 1) cf) (fs0 ++ [(t, v5, ids ++ [id])])
theorem FoNew.pure {w w' : World} {base gf cf : Nat} {fs0 : List Fm} {t : Str} {ids : List Str} {id : Str} (h : FoNew w base gf cf fs0 t ids id) (hm : Pure w w') : FoNew w' base gf cf fs0 t ids id := by
 obtain ⟨v5, h⟩ := h;exact ⟨v5, h.pure hm⟩
theorem foCut_mk {W0 wx : World} {base k i : Nat} {l : List Itm} {vo : Value} {fs : List Fm} (h : FoOwn wx base vo fs) (hne : fs ≠ []) (hfs : ∀ fs0 p, fs = fs0 ++ [p] → fmS fs0 ++ [(p.1, p.2.2 ++ [idAt2 l i])] = famT l (foldK l (k + 1)))
  (h1 : fs.length ≤ k + 1) (h2 : ∀ p ∈ fs, p.2.2.length ≤ k) (hm : Pure W0 wx) (hs : base ≤ wx.heap.size) : FoCut W0 base l k i vo wx := by
 obtain ⟨fs0, t, A, ids, c, g, cap, bl, rfl, hv, hL⟩ := h.last hne;exact ⟨fs0, t, A, ids, c, g, cap, bl, hv, hL, hfs _ _ rfl, hm, hs, by simpa using h1, h2 (t, .slice A ids.length c, ids) (by simp)⟩
def SoPost (w : World) (gm : Nat) (l : List Itm) (e : Ending) (w' : World) : Prop :=
 e = .returned (.tuple #[]) ∧ (∀ k (hk : k < (allI l).length), w'.cell? ⟨gm, k, none⟩ = some (.int .i64 ((allI l)[k] : Int))) ∧ Mod (· = gm) w w'
set_option maxRecDepth 100000 in
theorem order_calls (w : World) (gm gw gc : Nat) (v : Value) (l : List Itm) (hR : Right l) (hl : l.length ≤ 12) (hown : w.ownsRow gm 3 1 (.slice (some ⟨gm, 0, none⟩) l.length l.length) l.length (natsV (List.range l.length)))
  (hv : ∀ W, Mod (· = gm) w W → Its W v l ∧ W.cell? ⟨gc, 0, none⟩ = some v ∧ W.cell? ⟨gw, 0, none⟩ = some (wayF gc)) :
  Calls Tryz.prog 93 #[.slice (some ⟨gm, 0, none⟩) l.length l.length, .func (.func 94) #[] #[.pointer (some ⟨gw, 0, none⟩)]] w (SoPost w gm l) := by
 have hp := all_perm' hR
 by_cases h0 : l.length = 0
 ·rw [h0];refine (sort0_calls _ _ _ _).mono ?_;rintro e w' ⟨rfl, hm⟩;refine ⟨rfl, fun k hk => ?_, Mod.of_pure hm⟩;have := hp.length_eq;simp at this
  omega
 ·refine (sortFunc_calls w gm gm l.length l.length (List.range l.length) 94 (.pointer (some ⟨gw, 0, none⟩)) (fun i j => lexL (wayI l i) (wayI l j)) hown (by omega) hl (fun a b c h1 h2 => lexL_trans h1 h2) ?_ List.nodup_range (fun a b W => by rfl) ?_).mono ?_
  ·intro a _ b _ hab;exact lexL_total (fun h => hab (wayI_inj h))
  ·intro a b W ha hb hm;obtain ⟨h1, h2, h3⟩ := hv W hm;exact ways_calls W gw gc v l hR a b (List.mem_range.1 ha) (List.mem_range.1 hb) h1 h2 h3
  ·rintro e w' ⟨ys, hperm, hsort, rfl, ho, hm⟩;have hys : ys = allI l := ways_unique hsort (all_sorted hR.loop) (hperm.trans hp.symm);subst hys
   have hle : (allI l).length = l.length := by have := hp.length_eq; simpa using this
   refine ⟨rfl, fun k hk => ?_, hm⟩;rw [ho.cellAt k (by omega), natsV_get _ k hk]

set_option maxRecDepth 100000 in
set_option maxHeartbeats 8000000 in
theorem familiesOf_calls (w : World) (v : Value) (l : List Itm) (hv : Its w v l) (hR : Right l) (hl : l.length ≤ 12) : Calls Tryz.prog 46 #[v] w (FamOPost w l) := by
 obtain ⟨i0, hi0, hz0, hz1, hz2⟩ := info_parts info_fam;have HR := Lib.hid hR;have HV := Lib.hid hv;have hmk := run_make_one (P := Tryz.prog) 22 3 (.int .i64 0) 8 Tryz.underlying22 info_int7 rfl .i64 .i64 l.length (l.length : Int) rfl (by omega) (by omega) (natsV (List.replicate l.length 0)).toArray (by rw [natsV_zeros]);obtain ⟨A, n, c, rfl, hc1, hc2, hl2, hr⟩ := hv
 have hln : l.length = n := by rw [itV_len] at hl2; omega
 subst hln;clear hl2 hr hR;have B0 := Blk.new (w.alloc (.cells #[.slice A l.length c] 26)) 152 #[.nilFunc];rw [World.size_alloc] at B0;have q0 : ((w.alloc (.cells #[.slice A l.length c] 26)).alloc (.cells #[.nilFunc] 152)).cell? ⟨w.heap.size + 1, 0, none⟩ = some .nilFunc := B0.cell 0;have q1 : ((w.alloc (.cells #[.slice A l.length c] 26)).alloc (.cells #[.nilFunc] 152)).frozen? ⟨w.heap.size + 1, 0, none⟩ = false := B0.frozen 0
 have hst : Sem.run Tryz.prog (store ⟨w.heap.size + 1, 0, none⟩ (.func (.func 91) #[] #[.pointer (some ⟨w.heap.size, 0, none⟩)])) ((w.alloc (.cells #[.slice A l.length c] 26)).alloc (.cells #[.nilFunc] 152)) = .ok () (((w.alloc (.cells #[.slice A l.length c] 26)).alloc (.cells #[.nilFunc] 152)).setCell ⟨w.heap.size + 1, 0, none⟩ (.func (.func 91) #[] #[.pointer (some ⟨w.heap.size, 0, none⟩)])) := by
  refine (run_store _ _ _ _ _ rfl).trans ?_;simp [stored, q0, q1]
 have K1 := ((Blk.new w 26 #[.slice A l.length c]).alloc (.cells #[wayF w.heap.size] 152));have K2 := Blk.snd w (.cells #[.slice A l.length c] 26) 152 #[wayF w.heap.size]
 have hsz : ((w.alloc (.cells #[.slice A l.length c] 26)).alloc (.cells #[wayF w.heap.size] 152)).heap.size = w.heap.size + 1 + 1 := by simp
 have M0 : Pure w ((w.alloc (.cells #[.slice A l.length c] 26)).alloc (.cells #[wayF w.heap.size] 152)) := (pure_alloc _ _).trans (pure_alloc _ _);have q3 : ((w.alloc (.cells #[.slice A l.length c] 26)).alloc (.cells #[wayF w.heap.size] 152)).cell? ⟨w.heap.size, 0, none⟩ = some (.slice A l.length c) := K1.cell 0;have HK1 := Lib.hid K1;have HK2 := Lib.hid K2;have HSZ := Lib.hid hsz;have HM0 := Lib.hid M0;have HST := Lib.hid (rfl : wayF w.heap.size = wayF w.heap.size);clear B0 K1 K2 hsz M0;unfold wayF at q3 HK1 HK2 HSZ HM0
 go_enter Tryz.func46, Tryz.ntmps46
 go_wp2_with fail
 have hgc1 : w.heap.size ≤ w.heap.size := Nat.le_refl _;generalize ((w.alloc (.cells #[.slice A l.length c] 26)).alloc (.cells #[.func (.func 91) #[] #[.pointer (some ⟨w.heap.size, 0, none⟩)]] 152)) = W1 at *;have HWF : Hid (∀ gc, (Value.func (.func 91) #[] #[.pointer (some ⟨gc, 0, none⟩)]) = wayF gc) := Lib.hid (fun _ => rfl);clear hst q0 q1 HST;have hgm := HSZ.out.symm;have O1 := World.ownsRow_lit (base := W1.heap.size) (e := 3) (size := 1) W1 (natsV (List.replicate l.length 0)).toArray l.length (by simp [natsV_len]) (by simp [maxLen]; omega) (by simp [natsV_len]);rw [hgm] at ⊢;have hs1 := Nat.le_of_eq HSZ.out;have hs2 := Nat.le_of_eq HSZ.out.symm;clear hgm HSZ hmk;obtain ⟨gc, hgc⟩ : ∃ gc, gc = w.heap.size := ⟨_, rfl⟩;rw [← hgc] at HK1 HK2 hs1 hs2 q3 ⊢;have hgc2 := Nat.le_of_eq hgc;have hgc3 := Nat.le_of_eq hgc.symm;clear hgc hgc1;have MW := pure_alloc W1 (.cells (natsV (List.replicate l.length 0)).toArray 3);have K1 := Lib.hid (HK1.out.alloc (.cells (natsV (List.replicate l.length 0)).toArray 3));have K2 := Lib.hid (HK2.out.alloc (.cells (natsV (List.replicate l.length 0)).toArray 3));have M2 := Lib.hid (HM0.out.trans MW);generalize (W1.alloc (.cells (natsV (List.replicate l.length 0)).toArray 3)) = W2 at *;generalize W1.heap.size = gm at *;have HO1 := Lib.hid O1
 have HVW : Hid (∀ W, Mod (· = gm) W2 W → Pure w W ∧ Its W (.slice A l.length c) l ∧ W.cell? ⟨gc, 0, none⟩ = some (.slice A l.length c) ∧ W.cell? ⟨gc + 1, 0, none⟩ = some (wayF gc)) := Lib.hid (fun W h => by
  have hp : Pure w W := M2.out.trans' h (fun i hi hlt => by omega)
  exact ⟨hp, HV.out.pure hp, (K1.out.mod h (by omega)).cell 0, (K2.out.mod h (by omega)).cell 0⟩)
 clear O1 MW HK1 HK2 HM0 K1 K2 M2 HV W1 q3 HWF
 go_loopg [16] l.length (fun gk k wr => FiRel W2 gm l.length gk k wr)
 case atStart => exact ⟨0, by omega, by omega, rfl, by simpa using HO1.out, Mod.refl _ _⟩
 case round =>
  clear HO1;obtain ⟨m, rfl, hm, rfl, hown, hM⟩ := hrel
  by_cases hlt : m < l.length
  ·have c0 := hown.cellAt m (by omega);have c1 := hown.frozenAt m
   have c2 : (natsV (List.range m ++ List.replicate (l.length - m) 0))[m]? = some (.int .i64 0) := by
    rw [natsV_append, List.getElem?_append_right (by simp [natsV_len]), natsV_len, List.length_range, Nat.sub_self];rw [natsV_get _ 0 (by simp; omega)];simp
   rw [c2] at c0;obtain ⟨hset, hgr⟩ := hown.stored m (.int .i64 (m : Int));rw [natsV_set, fill_set _ _ hlt] at hset;have hM2 := Lib.hid (hM.setCell (p := ⟨gm, m, none⟩) (.inl rfl) (.int .i64 (m : Int)));have HSET := Lib.hid hset
   have i1 : (0 : Int) ≤ (m : Int) := by omega
   have i2 : (m : Int) < (l.length : Int) := by omega
   clear hown hM hset hgr c2
   go_wp2_with fail
   go_roundg (l.length - (m + 1))
   case measure => omega
   case rel => exact ⟨m + 1, rfl, by omega, rfl, HSET.out, hM2.out⟩
  ·obtain rfl : m = l.length := by omega
   have hO : wr.ownsRow gm 3 1 (.slice (some ⟨gm, 0, none⟩) l.length l.length) l.length (natsV (List.range l.length)) := by simpa using hown
   have HSO := Lib.hid (order_calls wr gm (gc + 1) gc (.slice A l.length c) l HR.out hl hO (fun W h => (HVW.out W (hM.trans h)).2));have HM := Lib.hid hM;clear hown hO hM
   go_wp2_with fail
   refine HSO.out.mono ?_;rintro e w3 ⟨rfl, hord, hm3⟩;obtain ⟨P3, V3, C3, _⟩ := HVW.out w3 (HM.out.trans hm3)
   have hle : (allI l).length = l.length := by have := (all_perm' HR.out).length_eq; simpa using this
   have hle1 := Nat.le_of_eq hle;have hle2 := Nat.le_of_eq hle.symm;have HORD : Hid (∀ W, Pure w3 W → ∀ k (hk : k < (allI l).length), W.cell? ⟨gm, k, none⟩ = some (.int .i64 ((allI l)[k] : Int))) := Lib.hid (fun W h k hk => h.keep (hord k hk) id);have HC3 : Hid (∀ W, Pure w3 W → W.cell? ⟨gc, 0, none⟩ = some (.slice A l.length c)) := Lib.hid (fun W h => h.keep C3 id);have HV3 := Lib.hid V3;have HP3 := Lib.hid P3;have hgl : gc < w3.heap.size := lt_of_cell C3;clear hm3 hord P3 V3 C3 hle HSO HM HVW;obtain ⟨base, hba⟩ : ∃ base, base = w3.heap.size := ⟨_, rfl⟩;have hb1 := Nat.le_of_eq hba;have hb2 := Nat.le_of_eq hba.symm;clear hba
   go_wp2_with fail
   go_loopg [6, 29] (allI l).length (fun gk x i wr => FoRel w3 base l gk x i wr)
   case atStart => exact ⟨0, [], none, 0, by omega, by omega, rfl, rfl, by simp [fmS, famT, foldK], ⟨⟨rfl, .inl ⟨rfl, rfl⟩⟩, .inl rfl⟩, Mod.refl _ _, hb1⟩
   case round =>
    obtain ⟨k, fs, Ao, cap, rfl, hk, rfl, rfl, hfs, hown, hm, hsz⟩ := hrel
    by_cases hlt : k < (allI l).length
    ·obtain ⟨hfl, hfi⟩ := fo_len hk hfs;have hi : (allI l)[k] < l.length := (mem_all HR.out.end5 _).1 (List.getElem_mem hlt);have q1 := HORD.out wr hm k hlt;have HTOP := Lib.hid (HR.out.top_iff hi);have HF1 := Lib.hid (foldK_succ hlt)
     have HFN : Hid (upI l (allI l)[k] ≠ none → foldK l k ≠ []) := Lib.hid (fun h => by
      refine foldK_ne ?_ hk
      rcases Nat.eq_zero_or_pos k with rfl | h0
      ·exact absurd (all_first l hlt) h
      ·exact h0)
     generalize (allI l)[k] = i at *;have HII : Hid (l[i].id = idAt2 l i) := Lib.hid (idAt2_eq hi).symm;obtain ⟨A', n', c', he, _, _, hl2, hr⟩ := HV3.out
     injection he with he1 he2 he3
     subst he1 he2 he3;obtain ⟨g, off, rfl, hrow⟩ := hr (by omega);clear hl2 hr;have hgb : g < base := Nat.lt_of_lt_of_le hrow.lt (by omega);have HCI : Hid (∀ W, Pure w3 W → W.cell? ⟨g, off + i * 7, none⟩ = some (.string ⟨l[i].id.toArray⟩)) := Lib.hid (fun W h => (item_cells (hrow.mod h id) hi).1);have q2 := (item_cells (hrow.mod hm id) hi).2.2.2.2.2.1;have q3 := HC3.out wr hm;have q4 := HCI.out wr hm
     have i1 : (0 : Int) ≤ (i : Int) := by omega
     have i2 : (i : Int) < (l.length : Int) := by omega
     have HFS := Lib.hid hfs;have HOWN := Lib.hid hown;have HHM := Lib.hid hm;have hown1 := hown.1;clear hrow hfs hown hm
     go_upto_if 38 with (fail)
     go_cut [6] (fun x wx => FoCut w3 base l k i x wx)
     case first =>
      cases he : l[i].par.isEmpty
      ·have hne : upI l i ≠ none := fun h => by
        rw [HTOP.out.1 h] at he
        cases he
       have HNE := Lib.hid hne;clear hne
       go_wp2_with fail
       go_meet
       have hfn : fs ≠ [] := by
        rintro rfl;have h := HFS.out;simp only [fmS, List.map_nil] at h;refine HFN.out HNE.out ?_;unfold famT at h;exact List.map_eq_nil_iff.1 h.symm
       refine foCut_mk HOWN.out hfn ?_ (by omega) hfi HHM.out hsz;rintro fs0 p rfl;rw [HF1.out];refine (famT_kid HNE.out (fs0 := fmS fs0) (p := (p.1, p.2.2)) ?_).symm;rw [← HFS.out];simp [fmS]
      ·have htop : upI l i = none := HTOP.out.2 (by simpa using he);have HT := Lib.hid htop;clear htop
       go_wp2_with (at_builtin; refine wpList_append_lies _ rfl _ _ _ rfl base 92 i0 _ 2 40 Tryz.underlying85 hi0 hz0 hz1 hz2 rfl (by omega) (.slice Ao fs.length cap) fs.length (fmV fs) rfl (hown1.alloc _) ⟨wr.heap.size, 0, none⟩ 1 1 [.string ⟨l[i].id.toArray⟩, .slice none 0 0] rfl rfl (World.news_of_block (cs := #[.string ⟨l[i].id.toArray⟩, .slice none 0 0]) (t := 92) (fr := (0, 0)) (heap_alloc_new wr _)) (by simp [Value.oneCell']) (by omega) (by simp [maxLen]; omega) (by omega) (by have := HHM.out.size; simp; omega) (wr.heap.size + 1) (by simp) ?_; intro g5 cap5 w5 hown5 hgrow hat hlt5)
       go_meet;have hT := (HOWN.out.pure (pure_alloc wr _)).top hgrow rfl hown5 (by simp; omega);refine foCut_mk hT (by simp) ?_ (by simp; omega) ?_ ((HHM.out.alloc _).grown hgrow (fun k hk => .inr (by have := own_block hown1 k hk; omega))) (Nat.le_trans (by simp; omega) hgrow.size)
       ·rintro fs0 p hp;obtain ⟨h1, h2⟩ := List.append_inj' hp (by simp)
        injection h2 with h2 _
        subst h1 h2;rw [HF1.out, famT_top HT.out, ← HFS.out, HII.out]
        rfl
       ·intro p hp
        rcases List.mem_append.1 hp with hp | hp
        ·exact hfi p hp
        ·rw [List.mem_singleton.1 hp];simp
     case rest =>
      clear HFS HOWN HHM hown1 hfl hfi hsz HTOP HF1 HFN q1 q2 q3 q4;obtain ⟨fs0, t, Ai, ids, ci, gf, cf, bl, rfl, hL, hEQ, hm, hsz, hf0, hid⟩ := hcut;generalize l[i].id = idv at *;have HOL : Hid (∀ j, (Value.slice Ai ids.length ci).ownBlock = some j → j < wc.heap.size) := Lib.hid (fun j hj => (hL.own.lt j hj).2);have hgf := hL.lt;have hgf1 := hgf.1;have hgf2 := hgf.2;have hbl1 := hL.b1;have hbl2 := hL.b2;have HL := Lib.hid hL;have HEQ := Lib.hid hEQ;have HMC := Lib.hid hm;have q3 := HC3.out wc hm;have q4 := HCI.out wc hm;clear hL hEQ hm hgf hi0 hz0 hz1 hz2 i0;obtain ⟨i0, hi0, hz0, hz1, hz2⟩ := info_parts info_str7
      go_wp2_with fail
      have HGs := Lib.hid (show ∀ (D : Nat → Bool) (zzi : Nat) (zq zq' : World), zzi ≠ 11 → (fun D zq => (D 11 = false → (fun Z => FoLast Z base gf cf bl fs0 t (.slice Ai ids.length ci) ids) zq) ∧ (fun Z => Z.cell? ⟨gc, 0, none⟩ = some (.slice (some ⟨g, off, none⟩) l.length c) ∧ Z.cell? ⟨g, off + i * 7, none⟩ = some (.string ⟨idv.toArray⟩)) zq) D zq → Mod (fun _ => False) zq zq' → (fun D zq => (D 11 = false → (fun Z => FoLast Z base gf cf bl fs0 t (.slice Ai ids.length ci) ids) zq) ∧ (fun Z => Z.cell? ⟨gc, 0, none⟩ = some (.slice (some ⟨g, off, none⟩) l.length c) ∧ Z.cell? ⟨g, off + i * 7, none⟩ = some (.string ⟨idv.toArray⟩)) zq) (upd D zzi true) zq' from by intro D zzi zq zq' hi hh hm; refine ⟨fun hs => ?_, ?_⟩; (rw [upd_ne _ _ (Ne.symm hi)] at hs; have h := hh.1 hs; (exact h.pure hm)); (have h := hh.2; (exact ⟨hm.keep h.1 _root_.id, hm.keep h.2 _root_.id⟩)))
      refine wp_region_inv (by kernel_rfl) (by kernel_rfl) (InvF (R := Mod (fun _ => False)) [.is (.pointer (some ⟨gf, fs0.length * 2, none⟩)),
        .is (.pointer (some ⟨gf, fs0.length * 2, none⟩)),
        .is (.pointer (some ⟨gf, fs0.length * 2, none⟩)),
        .is (.pointer (some ⟨gf, fs0.length * 2 + 1, none⟩)),
        .is (.slice Ai ids.length ci),
        .is (.slice (some ⟨g, off, none⟩) l.length c),
        .is (.int .i64 (i : Int)),
        .is (.pointer (some ⟨g, off + i * 7, none⟩)),
        .is (.pointer (some ⟨g, off + i * 7, none⟩)),
        .is (.string ⟨idv.toArray⟩),
        ⟨fun zv zw => ∃ (g_10 : Nat), zv = .slice (some ⟨g_10, 0, none⟩) 1 1 ∧ wc.heap.size ≤ g_10 ∧ Blk zw g_10 9 #[.string ⟨idv.toArray⟩], (by rintro zv zw zx ⟨g_10, rfl, c0, q0⟩ hm; exact ⟨g_10, rfl, c0, (q0.modp hm)⟩), none, some 11⟩,
        ⟨fun zv zw => ∃ (g_11 : Nat) (c_11 : Nat), zv = .slice (some ⟨g_11, 0, none⟩) (ids.length + 1) c_11 ∧ FoPre zw base gf cf bl fs0 t (.slice Ai ids.length ci) ids idv (.slice (some ⟨g_11, 0, none⟩) (ids.length + 1) c_11), (by rintro zv zw zx ⟨g_11, c_11, rfl, q0⟩ hm; exact ⟨g_11, c_11, rfl, (q0.pure hm)⟩), none, some 14⟩,
        .is (.pointer (some ⟨gf, fs0.length * 2, none⟩)),
        .is (.pointer (some ⟨gf, fs0.length * 2 + 1, none⟩)),
        ⟨fun zv zw => zv = undef ∧ FoNew zw base gf cf fs0 t ids idv, (by rintro zv zw zx ⟨rfl, q0⟩ hm; exact ⟨rfl, (q0.pure hm)⟩), none, none⟩]
        (PB w3 (fun _ => False) wc.heap.size (fun D zq => (D 11 = false → (fun Z => FoLast Z base gf cf bl fs0 t (.slice Ai ids.length ci) ids) zq) ∧ (fun Z => Z.cell? ⟨gc, 0, none⟩ = some (.slice (some ⟨g, off, none⟩) l.length c) ∧ Z.cell? ⟨g, off + i * 7, none⟩ = some (.string ⟨idv.toArray⟩)) zq))) (InvF.start (PB.start HMC.out (Nat.le_refl _) (⟨fun _ => HL.out.pure ((Mod.refl _ _).drew), ⟨q3, q4⟩⟩))) ?_ ?_
      ·refine .cons ?_ (.cons ?_ (.cons ?_ (.cons ?_ (.cons ?_ (.cons ?_ (.cons ?_ (.cons ?_ (.cons ?_ (.cons ?_ (.cons ?_ (.cons ?_ (.cons ?_ (.cons ?_ (.cons ?_ .nil))))))))))))))
       ·intro D V zw1 a hR hI K hK;obtain ⟨hM1, hB1, hG1⟩ := hI.1;obtain ⟨hGK, hG1⟩ := hG1;obtain ⟨hG1a, hG1b⟩ := hG1;have ze9 := hR.frame.other (t := 9) (by kernel_rfl) rfl;rw [if_pos (by rfl)];go_simp;exact hK (.pointer (some ⟨gf, fs0.length * 2, none⟩)) _ (hI.next hR (by kernel_rfl) (Mod.refl _ _) (PB.quiet hI.1 (Mod.refl _ _) (HGs.out D 0 zw1 zw1 (by omega) (hI.1).g (Mod.refl _ _))) (upd_same V 0 _))
       ·intro D V zw1 a hR hI K hK;obtain ⟨hM1, hB1, hG1⟩ := hI.1;obtain ⟨hGK, hG1⟩ := hG1;obtain ⟨hG1a, hG1b⟩ := hG1;have ze9 := hR.frame.other (t := 9) (by kernel_rfl) rfl;rw [if_pos (by rfl)];go_simp;exact hK (.pointer (some ⟨gf, fs0.length * 2, none⟩)) _ (hI.next hR (by kernel_rfl) (Mod.refl _ _) (PB.quiet hI.1 (Mod.refl _ _) (HGs.out D 1 zw1 zw1 (by omega) (hI.1).g (Mod.refl _ _))) (upd_same V 1 _))
       ·intro D V zw1 a hR hI K hK;obtain ⟨hM1, hB1, hG1⟩ := hI.1;obtain ⟨hGK, hG1⟩ := hG1;obtain ⟨hG1a, hG1b⟩ := hG1;have zd1 := hR.pred 1 (by kernel_rfl);have zf1 : V 1 = .pointer (some ⟨gf, fs0.length * 2, none⟩) := hI.2 1 zd1 rfl;have ze54 := hR.frame.done (t := 54) (j := 1) (by kernel_rfl) hR.ok zd1;rw [if_pos (by rfl)];go_simp;exact hK (.pointer (some ⟨gf, fs0.length * 2, none⟩)) _ (hI.next hR (by kernel_rfl) (Mod.refl _ _) (PB.quiet hI.1 (Mod.refl _ _) (HGs.out D 2 zw1 zw1 (by omega) (hI.1).g (Mod.refl _ _))) (upd_same V 2 _))
       ·intro D V zw1 a hR hI K hK;obtain ⟨hM1, hB1, hG1⟩ := hI.1;obtain ⟨hGK, hG1⟩ := hG1;obtain ⟨hG1a, hG1b⟩ := hG1;have zd2 := hR.pred 2 (by kernel_rfl);have zf2 : V 2 = .pointer (some ⟨gf, fs0.length * 2, none⟩) := hI.2 2 zd2 rfl;have ze55 := hR.frame.done (t := 55) (j := 2) (by kernel_rfl) hR.ok zd2;rw [if_pos (by rfl)];go_simp;exact hK (.pointer (some ⟨gf, fs0.length * 2 + 1, none⟩)) _ (hI.next hR (by kernel_rfl) (Mod.refl _ _) (PB.quiet hI.1 (Mod.refl _ _) (HGs.out D 3 zw1 zw1 (by omega) (hI.1).g (Mod.refl _ _))) (upd_same V 3 _))
       ·intro D V zw1 a hR hI K hK;obtain ⟨hM1, hB1, hG1⟩ := hI.1;obtain ⟨hGK, hG1⟩ := hG1;obtain ⟨hG1a, hG1b⟩ := hG1;have zd3 := hR.pred 3 (by kernel_rfl);have zf3 : V 3 = .pointer (some ⟨gf, fs0.length * 2 + 1, none⟩) := hI.2 3 zd3 rfl;have ze56 := hR.frame.done (t := 56) (j := 3) (by kernel_rfl) hR.ok zd3;have zx0 := (hGK (hR.later 11 rfl (by kernel_rfl))).cell;rw [if_pos (by rfl)];go_simp;exact hK (.slice Ai ids.length ci) _ (hI.next hR (by kernel_rfl) (Mod.refl _ _) (PB.quiet hI.1 (Mod.refl _ _) (HGs.out D 4 zw1 zw1 (by omega) (hI.1).g (Mod.refl _ _))) (upd_same V 4 _))
       ·intro D V zw1 a hR hI K hK;obtain ⟨hM1, hB1, hG1⟩ := hI.1;obtain ⟨hGK, hG1⟩ := hG1;obtain ⟨hG1a, hG1b⟩ := hG1;have ze1 := hR.frame.other (t := 1) (by kernel_rfl) rfl;have zx0 := hG1a;rw [if_pos (by rfl)];go_simp;exact hK (.slice (some ⟨g, off, none⟩) l.length c) _ (hI.next hR (by kernel_rfl) (Mod.refl _ _) (PB.quiet hI.1 (Mod.refl _ _) (HGs.out D 5 zw1 zw1 (by omega) (hI.1).g (Mod.refl _ _))) (upd_same V 5 _))
       ·intro D V zw1 a hR hI K hK;obtain ⟨hM1, hB1, hG1⟩ := hI.1;obtain ⟨hGK, hG1⟩ := hG1;obtain ⟨hG1a, hG1b⟩ := hG1;have ze8 := hR.frame.other (t := 8) (by kernel_rfl) rfl;rw [if_pos (by rfl)];go_simp;exact hK (.int .i64 (i : Int)) _ (hI.next hR (by kernel_rfl) (Mod.refl _ _) (PB.quiet hI.1 (Mod.refl _ _) (HGs.out D 6 zw1 zw1 (by omega) (hI.1).g (Mod.refl _ _))) (upd_same V 6 _))
       ·intro D V zw1 a hR hI K hK;obtain ⟨hM1, hB1, hG1⟩ := hI.1;obtain ⟨hGK, hG1⟩ := hG1;obtain ⟨hG1a, hG1b⟩ := hG1;have zd5 := hR.pred 5 (by kernel_rfl);have zf5 : V 5 = .slice (some ⟨g, off, none⟩) l.length c := hI.2 5 zd5 rfl;have zd6 := hR.pred 6 (by kernel_rfl);have zf6 : V 6 = .int .i64 (i : Int) := hI.2 6 zd6 rfl;have ze58 := hR.frame.done (t := 58) (j := 5) (by kernel_rfl) hR.ok zd5;have ze59 := hR.frame.done (t := 59) (j := 6) (by kernel_rfl) hR.ok zd6;rw [if_pos (by rfl)];go_simp;exact hK (.pointer (some ⟨g, off + i * 7, none⟩)) _ (hI.next hR (by kernel_rfl) (Mod.refl _ _) (PB.quiet hI.1 (Mod.refl _ _) (HGs.out D 7 zw1 zw1 (by omega) (hI.1).g (Mod.refl _ _))) (upd_same V 7 _))
       ·intro D V zw1 a hR hI K hK;obtain ⟨hM1, hB1, hG1⟩ := hI.1;obtain ⟨hGK, hG1⟩ := hG1;obtain ⟨hG1a, hG1b⟩ := hG1;have zd7 := hR.pred 7 (by kernel_rfl);have zf7 : V 7 = .pointer (some ⟨g, off + i * 7, none⟩) := hI.2 7 zd7 rfl;have ze60 := hR.frame.done (t := 60) (j := 7) (by kernel_rfl) hR.ok zd7;rw [if_pos (by rfl)];go_simp;exact hK (.pointer (some ⟨g, off + i * 7, none⟩)) _ (hI.next hR (by kernel_rfl) (Mod.refl _ _) (PB.quiet hI.1 (Mod.refl _ _) (HGs.out D 8 zw1 zw1 (by omega) (hI.1).g (Mod.refl _ _))) (upd_same V 8 _))
       ·intro D V zw1 a hR hI K hK;obtain ⟨hM1, hB1, hG1⟩ := hI.1;obtain ⟨hGK, hG1⟩ := hG1;obtain ⟨hG1a, hG1b⟩ := hG1;have zd8 := hR.pred 8 (by kernel_rfl);have zf8 : V 8 = .pointer (some ⟨g, off + i * 7, none⟩) := hI.2 8 zd8 rfl;have ze61 := hR.frame.done (t := 61) (j := 8) (by kernel_rfl) hR.ok zd8;have zx0 := hG1b;rw [if_pos (by rfl)];go_simp;exact hK (.string ⟨idv.toArray⟩) _ (hI.next hR (by kernel_rfl) (Mod.refl _ _) (PB.quiet hI.1 (Mod.refl _ _) (HGs.out D 9 zw1 zw1 (by omega) (hI.1).g (Mod.refl _ _))) (upd_same V 9 _))
       ·intro D V zw1 a hR hI K hK;obtain ⟨hM1, hB1, hG1⟩ := hI.1;obtain ⟨hGK, hG1⟩ := hG1;obtain ⟨hG1a, hG1b⟩ := hG1;have zd9 := hR.pred 9 (by kernel_rfl);have zf9 : V 9 = .string ⟨idv.toArray⟩ := hI.2 9 zd9 rfl;have ze62 := hR.frame.done (t := 62) (j := 9) (by kernel_rfl) hR.ok zd9;rw [if_pos (by rfl)];go_simp;exact hK (_) _ (hI.next hR (by kernel_rfl) ((Mod.refl _ _).alloc _) (PB.quiet hI.1 (pure_alloc _ _) (HGs.out D 10 _ _ (by omega) (hI.1).g ((Mod.refl _ _).alloc _))) (⟨_, upd_same V 10 _, (by omega), (Blk.new _ _ _)⟩))
       ·intro D V zw1 a hR hI K hK;obtain ⟨hM1, hB1, hG1⟩ := hI.1;obtain ⟨hGK, hG1⟩ := hG1;obtain ⟨hG1a, hG1b⟩ := hG1;have zd4 := hR.pred 4 (by kernel_rfl);have zf4 : V 4 = .slice Ai ids.length ci := hI.2 4 zd4 rfl;have zd10 := hR.pred 10 (by kernel_rfl);have zF10 : ∃ (g_10 : Nat), V 10 = .slice (some ⟨g_10, 0, none⟩) 1 1 ∧ wc.heap.size ≤ g_10 ∧ Blk zw1 g_10 9 #[.string ⟨idv.toArray⟩] := hI.2 10 zd10 (by show (!D 11) = true; rw [hR.not]; rfl);obtain ⟨g_10, zf10, c10_0, b10_0⟩ := zF10;have ze57 := hR.frame.done (t := 57) (j := 4) (by kernel_rfl) hR.ok zd4;have ze63 := hR.frame.done (t := 63) (j := 10) (by kernel_rfl) hR.ok zd10;rw [if_pos (by rfl)];have hown := (hGK hR.not).own;refine wp_append_lies _ (.tmp 57) (.tmp 63) 29 (by rfl) bl 9 i0 _ 1 16 Tryz.underlying29 hi0 hz0 hz1 hz2 (by rfl) (by omega) (.slice Ai ids.length ci) (ids.length) (strsV ids) ?_ hown ⟨g_10, 0, none⟩ 1 1 [.string ⟨idv.toArray⟩] ?_ (by rfl) (World.news_of_block (cs := #[.string ⟨idv.toArray⟩]) (t := 9) (fr := (0, 0)) b10_0) (by simp [Value.oneCell']) (by omega) (by simp [maxLen]; omega) (by omega) (by omega) zw1.heap.size rfl ?_
        ·show a.tmps.getD 57 undef = _; simp [ze57, zf4]
        ·show a.tmps.getD 63 undef = _; simp [ze63, zf10]
        intro g5 cap5 zw2 hown5 hgrow hat hlt5;have hT := mod_grown hgrow;have hTb : ∀ j, (.slice Ai ids.length ci : Value).ownBlock = some j → bl ≤ j := own_block hown;have hTl : ∀ j, (.slice Ai ids.length ci : Value).ownBlock = some j → j < wc.heap.size := HOL.out;refine hK _ _ (InvF.last (PB.writes hI.1 (fun j hj hl => by have := hTb j hj; omega) hT ⟨fun hs => absurd hs (by rw [upd_same]; decide), ⟨hT.keep hG1a (fun h => by have h3 : bl ≤ gc := hTb _ h; omega), hT.keep hG1b (fun h => by have h3 : bl ≤ g := hTb _ h; omega)⟩⟩) ⟨_, _, upd_same V 11 _, ⟨_, _, hGK hR.not, hgrow, rfl, hown5⟩⟩ ?_);intro k hk hDk hlv;have hkl := hR.lt k hDk;have hv := hI.2 k hDk (liveB_of hlv)
        match k, hk, hDk, hlv, hkl, hv with
        | 0, _, _, _, _, hv => exact hv
        | 1, _, _, _, _, hv => exact hv
        | 2, _, _, _, _, hv => exact hv
        | 3, _, _, _, _, hv => exact hv
        | 4, _, _, _, _, hv => exact hv
        | 5, _, _, _, _, hv => exact hv
        | 6, _, _, _, _, hv => exact hv
        | 7, _, _, _, _, hv => exact hv
        | 8, _, _, _, _, hv => exact hv
        | 9, _, _, _, _, hv => exact hv
        | 10, _, _, hlv, _, _ => exact absurd hlv (by show ¬ (!upd D 11 true 11) = true; rw [upd_same]; decide)
        | 11, hk, _, _, _, _ => exact absurd rfl hk
        | 12, _, _, _, _, hv => exact hv
        | 13, _, _, _, _, hv => exact hv
        | 14, _, hDk, _, _, _ => exact absurd hDk (by rw [hR.later 14 rfl (by kernel_rfl)]; decide)
        | k + 15, _, _, _, hkl, _ => exact absurd hkl (by simp)
       ·intro D V zw1 a hR hI K hK;obtain ⟨hM1, hB1, hG1⟩ := hI.1;obtain ⟨hGK, hG1⟩ := hG1;obtain ⟨hG1a, hG1b⟩ := hG1;have zd0 := hR.pred 0 (by kernel_rfl);have zf0 : V 0 = .pointer (some ⟨gf, fs0.length * 2, none⟩) := hI.2 0 zd0 rfl;have ze53 := hR.frame.done (t := 53) (j := 0) (by kernel_rfl) hR.ok zd0;rw [if_pos (by rfl)];go_simp;exact hK (.pointer (some ⟨gf, fs0.length * 2, none⟩)) _ (hI.next hR (by kernel_rfl) (Mod.refl _ _) (PB.quiet hI.1 (Mod.refl _ _) (HGs.out D 12 zw1 zw1 (by omega) (hI.1).g (Mod.refl _ _))) (upd_same V 12 _))
       ·intro D V zw1 a hR hI K hK;obtain ⟨hM1, hB1, hG1⟩ := hI.1;obtain ⟨hGK, hG1⟩ := hG1;obtain ⟨hG1a, hG1b⟩ := hG1;have zd12 := hR.pred 12 (by kernel_rfl);have zf12 : V 12 = .pointer (some ⟨gf, fs0.length * 2, none⟩) := hI.2 12 zd12 rfl;have ze65 := hR.frame.done (t := 65) (j := 12) (by kernel_rfl) hR.ok zd12;rw [if_pos (by rfl)];go_simp;exact hK (.pointer (some ⟨gf, fs0.length * 2 + 1, none⟩)) _ (hI.next hR (by kernel_rfl) (Mod.refl _ _) (PB.quiet hI.1 (Mod.refl _ _) (HGs.out D 13 zw1 zw1 (by omega) (hI.1).g (Mod.refl _ _))) (upd_same V 13 _))
       ·intro D V zw1 a hR hI K hK;obtain ⟨hM1, hB1, hG1⟩ := hI.1;obtain ⟨hGK, hG1⟩ := hG1;obtain ⟨hG1a, hG1b⟩ := hG1;have zd13 := hR.pred 13 (by kernel_rfl);have zf13 : V 13 = .pointer (some ⟨gf, fs0.length * 2 + 1, none⟩) := hI.2 13 zd13 rfl;have zd11 := hR.pred 11 (by kernel_rfl);have zF11 : ∃ (g_11 : Nat) (c_11 : Nat), V 11 = .slice (some ⟨g_11, 0, none⟩) (ids.length + 1) c_11 ∧ FoPre zw1 base gf cf bl fs0 t (.slice Ai ids.length ci) ids idv (.slice (some ⟨g_11, 0, none⟩) (ids.length + 1) c_11) := hI.2 11 zd11 (by show (!D 14) = true; rw [hR.not]; rfl);obtain ⟨g_11, c_11, zf11, b11_0⟩ := zF11;have ze66 := hR.frame.done (t := 66) (j := 13) (by kernel_rfl) hR.ok zd13;have ze64 := hR.frame.done (t := 64) (j := 11) (by kernel_rfl) hR.ok zd11;rw [if_pos (by rfl)];have hP := b11_0;have zx0 := hP.cell;have zy0 : zw1.frozen? ⟨gf, fs0.length * 2 + 1, none⟩ = false := hP.outs.frozenAt _;have hSt := hP.store;go_simp;refine hK undef _ (InvF.last ⟨hM1.setCell (.inr (by show _ ≤ gf; omega)) _, (by simpa using hB1), ⟨fun hs => absurd hs (by rw [upd_ne _ _ (by omega), hR.pred 11 (by kernel_rfl)]; decide), ⟨cell_far hG1a (by show gf ≠ gc; omega), cell_far hG1b (by show gf ≠ g; omega)⟩⟩⟩ ⟨upd_same _ 14 _, _, hSt⟩ ?_);intro k hk hDk hlv;have hkl := hR.lt k hDk;have hv := hI.2 k hDk (liveB_of hlv)
        match k, hk, hDk, hlv, hkl, hv with
        | 0, _, _, _, _, hv => exact hv
        | 1, _, _, _, _, hv => exact hv
        | 2, _, _, _, _, hv => exact hv
        | 3, _, _, _, _, hv => exact hv
        | 4, _, _, _, _, hv => exact hv
        | 5, _, _, _, _, hv => exact hv
        | 6, _, _, _, _, hv => exact hv
        | 7, _, _, _, _, hv => exact hv
        | 8, _, _, _, _, hv => exact hv
        | 9, _, _, _, _, hv => exact hv
        | 10, _, _, hlv, _, _ => exact absurd hlv (by show ¬ (!upd D 14 true 11) = true; rw [upd_ne _ _ (by omega), hR.pred 11 (by kernel_rfl)]; decide)
        | 11, _, _, hlv, _, _ => exact absurd hlv (by show ¬ (!upd D 14 true 14) = true; rw [upd_same]; decide)
        | 12, _, _, _, _, hv => exact hv
        | 13, _, _, _, _, hv => exact hv
        | 14, hk, _, _, _, _ => exact absurd rfl hk
        | k + 15, _, _, _, hkl, _ => exact absurd hkl (by simp)
      ·intro D V w7 hD hI;obtain ⟨hM1, hB1, hG1⟩ := hI.1;have hMx := hM1;clear hM1;have hBx := hB1;clear hB1;have hGx := hG1.2;clear hG1;have zf0 : V 0 = .pointer (some ⟨gf, fs0.length * 2, none⟩) := hI.2 0 (hD 0 (by decide)) rfl;have zf1 : V 1 = .pointer (some ⟨gf, fs0.length * 2, none⟩) := hI.2 1 (hD 1 (by decide)) rfl;have zf2 : V 2 = .pointer (some ⟨gf, fs0.length * 2, none⟩) := hI.2 2 (hD 2 (by decide)) rfl;have zf3 : V 3 = .pointer (some ⟨gf, fs0.length * 2 + 1, none⟩) := hI.2 3 (hD 3 (by decide)) rfl;have zf4 : V 4 = .slice Ai ids.length ci := hI.2 4 (hD 4 (by decide)) rfl;have zf5 : V 5 = .slice (some ⟨g, off, none⟩) l.length c := hI.2 5 (hD 5 (by decide)) rfl;have zf6 : V 6 = .int .i64 (i : Int) := hI.2 6 (hD 6 (by decide)) rfl;have zf7 : V 7 = .pointer (some ⟨g, off + i * 7, none⟩) := hI.2 7 (hD 7 (by decide)) rfl;have zf8 : V 8 = .pointer (some ⟨g, off + i * 7, none⟩) := hI.2 8 (hD 8 (by decide)) rfl;have zf9 : V 9 = .string ⟨idv.toArray⟩ := hI.2 9 (hD 9 (by decide)) rfl;have zf12 : V 12 = .pointer (some ⟨gf, fs0.length * 2, none⟩) := hI.2 12 (hD 12 (by decide)) rfl;have zf13 : V 13 = .pointer (some ⟨gf, fs0.length * 2 + 1, none⟩) := hI.2 13 (hD 13 (by decide)) rfl;have zF14 : V 14 = undef ∧ FoNew w7 base gf cf fs0 t ids idv := hI.2 14 (hD 14 (by decide)) rfl;obtain ⟨zf14, b14_0⟩ := zF14;clear hI hD HGs;simp only [frAll, Act.put, List.setIfInBounds_toArray, List.set_cons_zero, List.set_cons_succ, Nat.zero_add, Nat.reduceAdd, zf0, zf1, zf2, zf3, zf4, zf5, zf6, zf7, zf8, zf9, zf12, zf13, zf14];clear zf0 zf1 zf2 zf3 zf4 zf5 zf6 zf7 zf8 zf9 zf12 zf13 zf14;generalize V 10 = u10;generalize V 11 = u11;clear V D;obtain ⟨v5, hFN⟩ := b14_0;have hsz7 := hMx.size;have HFO := Lib.hid hFN;have HMX := Lib.hid hMx;clear hFN hMx
       go_wp2_with fail
       go_roundg ((allI l).length - (k + 1))
       case measure => omega
       case rel =>
        refine ⟨k + 1, fs0 ++ [(t, v5, ids ++ [idv])], some ⟨gf, 0, none⟩, cf, rfl, by omega, by simp, by simp, ?_, by simpa using HFO.out, HMX.out, by omega⟩;rw [← HEQ.out, HII.out];simp [fmS]
    ·obtain rfl : k = (allI l).length := by omega
     have HFO := Lib.hid hown;have HHM := Lib.hid hm;have HFS : Hid (fmS fs = famsS l) := Lib.hid (by rw [hfs, foldK_all]);clear hown hm hfs
     go_wp2_with fail
     go_ret;exact ⟨_, fs, rfl, HFO.out.fm, HFS.out, HP3.out.trans HHM.out⟩

end Go.Proofs.YtpinlcapgoljfaaGreatDoor

/- slices.Equal over strings: the same lists. -/
namespace Go.Proofs.YtpinlcapgoljfaaGreatDoor
open Go.RowKit

end Go.Proofs.YtpinlcapgoljfaaGreatDoor

/- Equal families. -/
namespace Go.Proofs.YtpinlcapgoljfaaGreatDoor
open Go.RowKit

theorem FmR.at {w : World} {A : Option Addr} {n c : Nat} {xs : List Fm} (h : FmR w (.slice A n c) xs) {k : Nat} (hk : k < xs.length) :
  ∃ g off B m d, A = some ⟨g, off, none⟩ ∧ w.cell? ⟨g, off + k * 2, none⟩ = some (.string ⟨xs[k].1.toArray⟩) ∧ w.cell? ⟨g, off + k * 2 + 1, none⟩ = some (.slice B m d) ∧ xs[k].2.1 = .slice B m d ∧ Sl w 9 1 (.slice B m d) (strsV xs[k].2.2) := by
 have hs := h.2 _ (List.getElem_mem hk);obtain ⟨B, m, d, hu⟩ := hs.form;obtain ⟨A', n', c', hf, _, _, hl, hr⟩ := h.1
 injection hf with e1 e2 e3
 subst e1 e2 e3;rw [fmV_len] at hl;obtain ⟨g, off, rfl, hrow⟩ := hr (by omega);obtain ⟨g1, g2⟩ := fmV_get xs k hk;refine ⟨g, off, B, m, d, rfl, hrow.cell g1, ?_, hu, by rw [← hu]; exact hs⟩;have := hrow.cell g2;rw [hu] at this;exact this
theorem FmR.len {w : World} {A : Option Addr} {n c : Nat} {xs : List Fm} (h : FmR w (.slice A n c) xs) : xs.length = n ∧ n ≤ 9223372036854775807 := by
 obtain ⟨A', n', c', hf, h4, h5, hl, _⟩ := h.1
 injection hf with e1 e2 e3
 rw [fmV_len] at hl
 omega
end Go.Proofs.YtpinlcapgoljfaaGreatDoor

/- WholeOf of the reference. -/
namespace Go.Proofs.YtpinlcapgoljfaaGreatDoor
open Go.RowKit


set_option maxRecDepth 100000 in
set_option maxHeartbeats 1000000 in
theorem indexSq_calls (w : World) (v : Value) (xs : List Str) (y : Str) (hv : Sl w 9 1 v (strsV xs)) : Calls Tryz.prog 84 #[v, .string ⟨y.toArray⟩] w (IntPost w (idxQ (fun x => y == x) xs 0)) := by
 obtain ⟨A, n, c, rfl, hc1, hc2, hl, hr⟩ := hv
 have hln : xs.length = n := by rw [strsV_len] at hl; omega
 subst hln;have HR := Lib.hid hr;clear hl hr
 go_enter Tryz.func84, Tryz.ntmps84
 go_wp2_with fail
 go_loopg [8] xs.length (fun gk i wr => ∃ k : Nat, xs.length - k = gk ∧ k ≤ xs.length ∧ i = .int .i64 (k : Int) ∧ idxQ (fun x => y == x) xs 0 = idxQ (fun x => y == x) (xs.drop k) (k : Int) ∧ w = wr)
 case atStart => exact ⟨0, by omega, by omega, rfl, rfl, rfl⟩
 case round =>
  obtain ⟨k, rfl, hk, rfl, hix, rfl⟩ := hrel;have HIX := Lib.hid hix;clear hix
  by_cases hlt : k < xs.length
  ·obtain ⟨g, off, rfl, hrow⟩ := HR.out (by omega);have hq := hrow.cell (strsV_get xs k hlt);have hd : xs.drop k = xs[k] :: xs.drop (k + 1) := List.drop_eq_getElem_cons hlt
   have hi2 : idxQ (fun x => y == x) xs 0 = if (fun x => y == x) xs[k] then (k : Int) else idxQ (fun x => y == x) (xs.drop (k + 1)) ((k : Int) + 1) := by rw [HIX.out, hd]; rfl
   have HI2 := Lib.hid hi2;clear hd hi2 hrow HIX;generalize xs[k] = x at *
   have heq : (y == x) = (y == x) := by first | rfl | (exact Bool.eq_iff_iff.2 (by simp; try omega))
   cases hp : (y == x)
   ·have hp2 := heq.trans hp;have HP := Lib.hid hp;clear hp heq
    go_wp2_with fail
    go_roundg (xs.length - (k + 1))
    case measure => omega
    case rel => exact ⟨k + 1, rfl, hlt, by simp, by rw [HI2.out]; simp only [HP.out]; simp, rfl⟩
   ·have hp2 := heq.trans hp;have HP := Lib.hid hp;clear hp heq
    go_wp2_with fail
    go_ret;exact IntPost.of (by rw [HI2.out]; simp only [HP.out]; simp) (Mod.refl _ _)
  ·have hke : k = xs.length := by omega
   subst hke
   go_wp2_with fail
   go_ret;exact IntPost.of (by rw [HIX.out, List.drop_of_length_le (Nat.le_refl _)]; rfl) (Mod.refl _ _)


set_option maxRecDepth 100000 in
set_option maxHeartbeats 1000000 in
theorem containsSq_calls (w : World) (v : Value) (xs : List Str) (y : Str) (hv : Sl w 9 1 v (strsV xs)) : Calls Tryz.prog 43 #[v, .string ⟨y.toArray⟩] w (BoolPost w (xs.any (fun x => y == x))) := by
 have HC := Lib.hid (indexSq_calls w v xs y hv);have HI := Lib.hid (idxQ_any (fun x => y == x) xs 0 (by omega));obtain ⟨A, n, c, rfl⟩ := hv.form;clear hv
 go_enter Tryz.func43, Tryz.ntmps43
 go_wp2_with fail
 refine HC.out.mono ?_;rintro e w1 ⟨rfl, hm1⟩;generalize idxQ (fun x => y == x) xs 0 = r at *
 go_wp2_with fail
 go_ret;exact BoolPost.of HI.out.symm hm1

theorem any_eq_mem (s : Str) (ids : List Str) : (ids.any fun x => s == x) = decide (s ∈ ids) := by
 rw [Bool.eq_iff_iff, decide_eq_true_eq, List.any_eq_true]
 constructor
 ·rintro ⟨x, hx, h⟩;rw [beq_iff_eq] at h;subst h;exact hx
 ·intro h;exact ⟨s, h, by simp⟩
end Go.Proofs.YtpinlcapgoljfaaGreatDoor
