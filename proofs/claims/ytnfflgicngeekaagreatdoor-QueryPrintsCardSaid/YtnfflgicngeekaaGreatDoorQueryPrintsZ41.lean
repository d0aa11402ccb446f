/- Texts of the proof of QueryPrints, put together: LaySum, SrtA, PatC, JoinS, PrtB, PrtC, QrE, PatA, PatB, PrtD, QlnA, QlnB, QlnC, RunH, RunF, RunI, RunJ, RunK, RunL, QrV, QrX, LayAny, RunM, UnqB, QuoS, LaidI, LawQueryPrints, LaidP. -/
import Derived.Test.YtnfflgicngeekaaGreatDoorQueryPrintsZ6
import Derived.Test.YtnfflgicngeekaaGreatDoorQueryPrintsZ9
import Derived.Test.YtnfflgicngeekaaGreatDoorQueryPrintsZ13
import Derived.Test.YtnfflgicngeekaaGreatDoorQueryPrintsZ14
import Derived.Test.YtnfflgicngeekaaGreatDoorQueryPrintsZ15
import Derived.Test.YtnfflgicngeekaaGreatDoorQueryPrintsZ17
import Derived.Test.YtnfflgicngeekaaGreatDoorQueryPrintsZ19
import Derived.Test.YtnfflgicngeekaaGreatDoorQueryPrintsZ21
import Derived.Test.YtnfflgicngeekaaGreatDoorQueryPrintsZ28
import Derived.Test.YtnfflgicngeekaaGreatDoorQueryPrintsZ29
import Derived.Test.YtnfflgicngeekaaGreatDoorQueryPrintsZ37
import Derived.Test.YtnfflgicngeekaaGreatDoorQueryPrintsZ38
import Derived.Test.YtnfflgicngeekaaGreatDoorQueryPrintsZ39
import Derived.Test.YtnfflgicngeekaaGreatDoorQueryPrintsZ40
import Derived.Ground.NamesProg
import Derived.Shelf.Strings.OnBuilder
import Derived.Test.YtnfflgicngeekaaGreatDoorProg
import Derived.Sort.OwnSorted
import Derived.Shelf.Sort.Plain
import Derived.Shelf.Slices.In.SortNone
import Derived.Shelf.Slices.CompactS
import Derived.Lib.SlicesCompact
import Derived.Shelf.SlIter.Nil
import Derived.Shelf.SortM.Plain
import Derived.Shelf.SortM.SortNone
import Derived.Deep.DeepCutAuto
import Derived.Lib.ItoaLen
import Derived.Shelf.Strings.IndexAnyAll
import Derived.Test.YtnfflgicngeekaaGreatDoorRows
import Derived.Stop.LaidErr
import Derived.Lib.LaidTab
import Derived.Lib.LaidU8T
import Derived.ProofKit
import Derived.Lib.ItoaNum
/-
 DERIVED: THE SHELF's CONTRACTS AT THIS DUMP, IN PLAIN WORDS (tools/lay-plain.mjs out of 'YtnfflgicngeekaaGreatDoorLaySum.lean', which tools/lay-shelf.mjs wrote): THE SAME DECLARATIONS UNDER THE SAME NAMES: 'import', 'namespace', 'open', 'def', 'theorem' AND NOTHING ELSE: no command of the shelf's: FOR A HAND-IN. Each laying: the table of numbers ('.._ren') and one theorem, a field a fact of the dump's own or the kernel's comparison; each contract: ONE APPLICATION.
-/
namespace Go.Proofs
open Go.Shelf
def Tryz.lays156_ren : Go.Shelf.Ren := ⟨fun | 156 => 49 | 165 => 115 | 166 => 116 | 169 => 117 | 240 => 189 | 241 => 190 | 276 => 234 | 277 => 235 | n => n, fun | 31 => 26 | 9 => 9 | 3 => 3 | 4 => 4 | 0 => 0 | 20 => 20 | 72 => 143 | 76 => 147 | 70 => 140 | 37 => 141 | 75 => 146 | 127 => 213 | 164 => 256 | 5 => 5 | 80 => 65 | n => n, fun | n => n⟩
theorem Tryz.lays156 : Go.Proofs.Lays.n156 Tryz.prog Tryz.lays156_ren := {
 mixed := by kernel_rfl
 f156 := Tryz.func49.trans (congrArg some (by kernel_rfl))
 f165 := Tryz.func115.trans (congrArg some (by kernel_rfl))
 f166 := Tryz.func116.trans (congrArg some (by kernel_rfl))
 f169 := Tryz.func117.trans (congrArg some (by kernel_rfl))
 f240 := Tryz.func189.trans (congrArg some (by kernel_rfl))
 f241 := Tryz.func190.trans (congrArg some (by kernel_rfl))
 f276 := Tryz.func234.trans (congrArg some (by kernel_rfl))
 f277 := Tryz.func235.trans (congrArg some (by kernel_rfl))
 t0 := Tryz.underlying0
 a0 := Tryz.isAgg0
 z0 := Tryz.sizeOf0
 v0 := Tryz.zeroValue0
 t3 := Tryz.underlying3
 a3 := Tryz.isAgg3
 z3 := Tryz.sizeOf3
 v3 := Tryz.zeroValue3
 t4 := Tryz.underlying4
 a4 := Tryz.isAgg4
 z4 := Tryz.sizeOf4
 v4 := Tryz.zeroValue4
 t9 := Tryz.underlying9
 a9 := Tryz.isAgg9
 z9 := Tryz.sizeOf9
 v9 := Tryz.zeroValue9
 t20 := Tryz.underlying20
 a20 := Tryz.isAgg20
 z20 := Tryz.sizeOf20
 v20 := Tryz.zeroValue20
 t31 := Tryz.underlying26
 a31 := Tryz.isAgg26
 z31 := Tryz.sizeOf26
 v31 := Tryz.zeroValue26
 t37 := Tryz.underlying141
 a37 := Tryz.isAgg141
 z37 := Tryz.sizeOf141
 v37 := Tryz.zeroValue141
 t70 := Tryz.underlying140
 a70 := Tryz.isAgg140
 z70 := Tryz.sizeOf140
 v70 := Tryz.zeroValue140
 t72 := Tryz.underlying143
 a72 := Tryz.isAgg143
 z72 := Tryz.sizeOf143
 v72 := Tryz.zeroValue143
 t75 := Tryz.underlying146
 a75 := Tryz.isAgg146
 z75 := Tryz.sizeOf146
 v75 := Tryz.zeroValue146
 t76 := Tryz.underlying147
 a76 := Tryz.isAgg147
 z76 := Tryz.sizeOf147
 v76 := Tryz.zeroValue147
 t127 := Tryz.underlying213
 a127 := Tryz.isAgg213
 z127 := Tryz.sizeOf213
 v127 := Tryz.zeroValue213
 t164 := Tryz.underlying256
 a164 := Tryz.isAgg256
 z164 := Tryz.sizeOf256
 v164 := Tryz.zeroValue256 }
end Go.Proofs

/- Sorting, Compact, Join, the sorted keys of a map (the shelf's contracts in my words). -/
namespace Go.Proofs.YtnfflgicngeekaaGreatDoor
set_option linter.unusedVariables false
set_option linter.unusedSimpArgs false
open Go.RowKit Go.Sort

end Go.Proofs.YtnfflgicngeekaaGreatDoor

namespace Go.Proofs.YtnfflgicngeekaaGreatDoor
open Go.RowKit

end Go.Proofs.YtnfflgicngeekaaGreatDoor

namespace Go.Proofs.YtnfflgicngeekaaGreatDoor
open Go.RowKit

end Go.Proofs.YtnfflgicngeekaaGreatDoor

namespace Go.Proofs.YtnfflgicngeekaaGreatDoor
open Go.RowKit Go.Maps Go.Sort Go.Shelf

end Go.Proofs.YtnfflgicngeekaaGreatDoor

/- The patterns of a search: the reference. -/
namespace Go.Proofs.YtnfflgicngeekaaGreatDoor
set_option linter.unusedVariables false
set_option linter.unusedSimpArgs false
open Go.RowKit

/-- Searches by words have words. -/
inductive PtnR : Qry → Prop
 | mk {k n : Int} {ws : List Str} {xs : List Qry} (h : patK k = true → ws ≠ []) (hs : ∀ a ∈ xs, PtnR a) : PtnR (.mk k ws n xs)
theorem PtnR.hereH {k n : Int} {ws : List Str} {xs : List Qry} (h : PtnR (.mk k ws n xs)) : patK k = true → ws ≠ [] := by cases h; assumption
theorem PtnR.allH {k n : Int} {ws : List Str} {xs : List Qry} (h : PtnR (.mk k ws n xs)) : ∀ a ∈ xs, PtnR a := by cases h; assumption
/-- A list that is one's own. -/
def PtI (w1 : World) (base : Nat) (l : List Str) (p : Value) (wx : World) : Prop := ∃ A c, p = .slice A l.length c ∧ wx.ownsRow base 9 1 (.slice A l.length c) l.length (strsV l) ∧ Pure w1 wx
end Go.Proofs.YtnfflgicngeekaaGreatDoor

/- strings.Join. -/
namespace Go.Proofs.YtnfflgicngeekaaGreatDoor
set_option linter.unusedVariables false
set_option linter.unusedSimpArgs false
open Go.RowKit Go.Sort

theorem bldExtraJ : Builder.Extra Tryz.prog Tryz.lays156_ren where
 sizeBuilder := by kernel_rfl
 liesBuilder := by kernel_rfl
 t5 := Tryz.underlying5
 a5 := Tryz.isAgg5
 z5 := Tryz.sizeOf5
 v5 := Tryz.zeroValue5
 infoByte := by kernel_rfl
 cellsByte := by kernel_rfl
 sizeByte := by kernel_rfl
 neB5 := by decide
theorem map_strs (xs : List Str) : (xs.map fun s => (⟨s.toArray⟩ : ByteArray)).map (·.data.toList) = xs := by
 induction xs with
 | nil => rfl
 | cons x xs ih => simp only [List.map_cons, ih]
theorem join_calls (w : World) (v : Value) (xs : List Str) (sep : Str) (h : Sl w 9 1 v (strsV xs)) (hN : xs.length ≤ 1000000) (hlen : (Lib.join xs sep).length ≤ 100000000) : Calls Tryz.prog 49 #[v, .string ⟨sep.toArray⟩] w (StrPost1 w (Lib.join xs sep)) := by
 obtain ⟨A, n, c, rfl, h1, h2, h3, h4⟩ := h
 have hn : xs.length = n := by rw [strsV_len] at h3; omega
 subst hn
 by_cases h0 : xs.length = 0
 ·obtain rfl := List.eq_nil_of_length_eq_zero h0
  refine (Any.strings_Join_none Tryz.lays156 bldExtraJ A c ⟨sep.toArray⟩ w).mono ?_
  rintro e w' ⟨rfl, rfl⟩
  exact ⟨rfl, Mod.refl _ _⟩
 ·obtain ⟨g, off, rfl, hrow⟩ := h4 (by omega)
  have e := map_strs xs
  have hj := Any.strings_Join Tryz.lays156 bldExtraJ g off c (xs.map fun s => (⟨s.toArray⟩ : ByteArray)) ⟨sep.toArray⟩ w (fun j x hx => by
   rw [List.getElem?_map] at hx
   cases hxj : xs[j]? with
   | none => rw [hxj] at hx; cases hx
   | some s =>
    rw [hxj] at hx
    injection hx with hx
    subst hx
    refine hrow.cell ?_
    simp [strsV, hxj]) hrow.lt (by rw [List.length_map]; omega) (by rw [List.length_map]; exact h1) (by rw [e]; show (Lib.join xs sep).length ≤ _; omega)
  rw [e, List.length_map] at hj
  refine hj.mono ?_
  rintro e w' ⟨rfl, hb⟩
  exact ⟨rfl, Mod.of_below hb⟩

end Go.Proofs.YtnfflgicngeekaaGreatDoor

/- A search as text: the program. -/
namespace Go.Proofs.YtnfflgicngeekaaGreatDoor
set_option linter.unusedVariables false
set_option linter.unusedSimpArgs false
open Go.RowKit

/-- The form that a search's text wants: words and searches within that are there. -/
inductive PrR : Qry → Prop
 | mk {k n : Int} {ws : List Str} {xs : List Qry} (h1 : k = 2 ∨ k = 9 ∨ k = 11 → 1 ≤ ws.length) (h2 : k = 4 ∨ k = 5 → 2 ≤ xs.length) (h3 : k = 8 → 1 ≤ xs.length) (h4 : 1 ≤ k ∧ k ≤ 13) (h5 : -10000 ≤ n ∧ n ≤ 10000) (hs : ∀ a ∈ xs, PrR a) : PrR (.mk k ws n xs)
section
variable {k n : Int} {ws : List Str} {xs : List Qry}
theorem PrR.wH (h : PrR (.mk k ws n xs)) : k = 2 ∨ k = 9 ∨ k = 11 → 1 ≤ ws.length := by cases h; assumption
theorem PrR.aH (h : PrR (.mk k ws n xs)) : k = 4 ∨ k = 5 → 2 ≤ xs.length := by cases h; assumption
theorem PrR.nH (h : PrR (.mk k ws n xs)) : k = 8 → 1 ≤ xs.length := by cases h; assumption
theorem PrR.kH (h : PrR (.mk k ws n xs)) : 1 ≤ k ∧ k ≤ 13 := by cases h; assumption
theorem PrR.bH (h : PrR (.mk k ws n xs)) : -10000 ≤ n ∧ n ≤ 10000 := by cases h; assumption
theorem PrR.allH (h : PrR (.mk k ws n xs)) : ∀ a ∈ xs, PrR a := by cases h; assumption
end
theorem form_pr {M : Nat} {k n : Int} {nw na : Nat} (h : formB M k nw n na = true) : (k = 2 ∨ k = 9 ∨ k = 11 → 1 ≤ nw) ∧ (k = 4 ∨ k = 5 → 2 ≤ na) ∧ (k = 8 → 1 ≤ na) := by
 unfold formB at h
 simp only [Bool.and_eq_true, decide_eq_true_eq] at h
 refine ⟨?_, ?_, ?_⟩
 ·rintro (rfl | rfl | rfl) <;> simp [useQ] at h <;> omega
 ·rintro (rfl | rfl) <;> simp [useQ] at h <;> omega
 ·rintro rfl
  simp [useQ] at h
  omega
theorem num_pr {M : Nat} {k n : Int} {nw na : Nat} (h : formB M k nw n na = true) (hn : numE k n = 0) (hk : 1 ≤ k ∧ k ≤ 13) : -10000 ≤ n ∧ n ≤ 10000 := by
 unfold formB at h
 simp only [Bool.and_eq_true, Bool.or_eq_true, decide_eq_true_eq] at h
 unfold numE at hn
 by_cases c1 : (nearK k = true ∧ ¬ (0 ≤ n ∧ n ≤ 20)) ∨ ((k = 12 ∨ k = 13) ∧ ¬ (0 ≤ n ∧ n ≤ 4000))
 ·rw [if_pos c1] at hn; cases hn
 ·rw [if_neg c1] at hn
  by_cases c2 : k = 10 ∧ ¬ (1 ≤ n ∧ n ≤ 4)
  ·rw [if_pos c2] at hn; cases hn
  ·by_cases h4 : k = 4
   ·subst h4
    by_cases hh : 0 ≤ n ∧ n ≤ 20
    ·omega
    ·exact absurd (.inl ⟨rfl, hh⟩) c1
   ·by_cases h5 : k = 5
    ·subst h5
     by_cases hh : 0 ≤ n ∧ n ≤ 20
     ·omega
     ·exact absurd (.inl ⟨rfl, hh⟩) c1
    ·by_cases h12 : k = 12 ∨ k = 13
     ·by_cases hh : 0 ≤ n ∧ n ≤ 4000
      ·omega
      ·exact absurd (.inr ⟨h12, hh⟩) c1
     ·by_cases h10 : k = 10
      ·by_cases hh : 1 ≤ n ∧ n ≤ 4
       ·omega
       ·exact absurd ⟨h10, hh⟩ c2
      ·have hu : (useQ M k).nb = false := by
        unfold useQ
        rw [if_neg (show ¬ (k = 4 ∨ k = 5) by omega), if_neg (show ¬ (k = 10 ∨ k = 12 ∨ k = 13) by omega)]
        split
        ·rfl
        ·split
         ·rfl
         ·split
          ·rfl
          ·split <;> rfl
       rcases h.1 with h1 | h1
       ·rw [hu] at h1; cases h1
       ·omega
theorem prR_of : ∀ (q : Qry) (M : Nat) (must : Bool), fltQ M must q = 0 → PrR q := by
 refine Qry.ind (fun k ws n xs ih M must h => ?_)
 obtain ⟨h1, h2⟩ := flt_parts h
 unfold headE at h1
 by_cases c1 : ¬ (1 ≤ k ∧ k ≤ 13)
 ·rw [if_pos c1] at h1; cases h1
 ·rw [if_neg c1] at h1
  by_cases c2 : must = true ∧ byWK k = false
  ·rw [if_pos c2] at h1; cases h1
  ·rw [if_neg c2] at h1
   by_cases c3 : formB M k ws.length n xs.length = false
   ·rw [if_pos c3] at h1; cases h1
   ·obtain ⟨f1, f2, f3⟩ := form_pr (by simpa using c3)
    rw [if_neg c3] at h1
    by_cases c4 : ws.any (wordBad k) = true
    ·rw [if_pos c4] at h1; cases h1
    ·rw [if_neg c4] at h1
     exact .mk f1 f2 f3 (by omega) (num_pr (by simpa using c3) h1 (by omega)) (fun a ha => ih a ha M _ (h2 a ha))
theorem prR_check {q : Qry} (h : checkQ q = 0) : PrR q := by
 unfold checkQ at h
 by_cases hf : qFit q 0 0 0 = true
 ·rw [if_pos hf] at h
  exact prR_of q _ _ h
 ·rw [if_neg hf] at h
  cases h
/-- The searches within, as their kinds and texts. -/
def prA (ks : List Qry) : List (Int × Str) := ks.map fun a => (a.kind, prQ a)
theorem prL_snoc (k : Int) : ∀ (i : Nat) (l : List (Int × Str)) (a : Int) (s : Str), prL k i (l ++ [(a, s)]) = prL k i l ++ [parQ (encQ k (i + l.length) a) s]
 | i, [], a, s => rfl
 | i, (b, t) :: l, a, s => by
  show parQ (encQ k i b) t :: prL k (i + 1) (l ++ [(a, s)]) = parQ (encQ k i b) t :: (prL k (i + 1) l ++ [_])
  rw [prL_snoc k (i + 1) l a s, List.length_cons, show i + 1 + l.length = i + (l.length + 1) by omega]
theorem prL_step {k : Int} {ks : List Qry} {j : Nat} (h : j < ks.length) : prL k 0 (prA (ks.take (j + 1))) = prL k 0 (prA (ks.take j)) ++ [parQ (encQ k j ks[j].kind) (prQ ks[j])] := by
 unfold prA
 rw [List.take_succ_eq_append_getElem h, List.map_append, List.map_singleton, prL_snoc]
 congr 4
 simp
 omega
theorem itoa_21 (n : Int) (h0 : -4000000000000 ≤ n) (h1 : n ≤ 4000000000000) : (Lib.itoa n).length ≤ 21 := Lib.itoa_length_le n (by omega) (by omega)

end Go.Proofs.YtnfflgicngeekaaGreatDoor

/- A search as text: the program. -/
namespace Go.Proofs.YtnfflgicngeekaaGreatDoor
set_option linter.unusedVariables false
set_option linter.unusedSimpArgs false
open Go.RowKit

theorem prQ_len2 : ∀ q : Qry, QB 200 q → (prQ q).length ≤ 45000 * qSize q := by
 refine Qry.ind (fun k ws n xs ih hB => ?_)
 rw [prQ, qSize]
 have h1 := txtQ_len k n ws (prL k 0 (xs.map fun a => (a.kind, prQ a))) (itoa_21 n hB.knH.2.2.1 hB.knH.2.2.2)
 have h2 := prL_sum k 0 (xs.map fun a => (a.kind, prQ a))
 have h3 : ((xs.map fun a => (a.kind, prQ a)).map fun p => p.2.length + 2).sum ≤ 45000 * (xs.map qSize).sum + 2 * xs.length := by
  have h : ∀ a ∈ xs, (prQ a).length ≤ 45000 * qSize a := fun a ha => ih a ha (hB.allH a ha)
  clear h1 h2 ih hB
  induction xs with
  | nil => simp
  | cons x t iht =>
   have h1 := h x (by simp)
   have h2 := iht (fun a ha => h a (by simp [ha]))
   simp only [List.map_cons, List.sum_cons, List.length_cons]
   omega
 have h4 := sum_wd hB.wsH.2
 have h5 := hB.wsH.1
 have h6 := hB.xsH
 rw [prL_len, List.length_map] at h1
 omega
theorem size_str (s : Str) : (⟨s.toArray⟩ : ByteArray).size = s.length := by simp [ByteArray.size]
set_option maxRecDepth 100000 in
set_option maxHeartbeats 16000000 in
theorem printed_calls : ∀ (qr : QR) (w : World), Pow w → QS w qr → PrR qr.key → QB 200 qr.key → qSize qr.key ≤ 1000 → Calls Tryz.prog 44 #[qA qr] w (StrPost1 w (prQ qr.key)) := by
 refine QR.ind (fun k A c ws n B d xs ih => ?_)
 intro w hW hQ hR hB hz
 rw [QR.key_mk] at hR hB hz ⊢
 rw [qSize] at hz
 have HIH := Lib.hid ih
 have HQ := Lib.hid hQ
 have HR := Lib.hid hR
 have HBD := Lib.hid hB
 have HW := Lib.hid hW
 have hwl := hB.wsH.1
 have hxl : xs.length ≤ 200 := by simpa using hB.xsH
 have hB0 := Blk.new w 29 #[.int .i64 k, .slice A ws.length c, .int .i64 n, .slice B xs.length d]
 have HP1 := Lib.hid (pure_alloc w (.cells #[.int .i64 k, .slice A ws.length c, .int .i64 n, .slice B xs.length d] 29))
 rw [qA_mk]
 clear hQ hR hB ih hW
 go_enter Tryz.func44, Tryz.ntmps44
 go_upto_region 2 with (fail)
 generalize (w.alloc (.cells #[.int .i64 k, .slice A ws.length c, .int .i64 n, .slice B xs.length d] 29)) = w1 at *
 generalize hg0 : w.heap.size = g0 at *
 have hwg : w.heap.size ≤ g0 := Nat.le_of_eq hg0
 clear hg0
 have HB0 := Lib.hid hB0
 have hgl := hB0.lt
 obtain ⟨base, hbase⟩ : ∃ base, w1.heap.size = base := ⟨_, rfl⟩
 have hb1 : base ≤ w1.heap.size := by omega
 have hb2 : w1.heap.size ≤ base := by omega
 clear hbase
 have x0 := hB0.cell 0; have x1 := hB0.cell 1; have x2 := hB0.cell 2; have x3 := hB0.cell 3; simp at x0 x1 x2 x3
 clear hB0
 have HI3 : Hid (PtI w1 base (prL k 0 (prA ((xs.map QR.key).take 0))) (.slice none 0 0) w1) := Lib.hid ⟨none, 0, rfl, World.ownsRow_nil _ _ _ _, Mod.refl _ _⟩
 go_wp2_with fail
 go_loopg [3, 11] xs.length (fun gk p i wr => ∃ j : Nat, xs.length - j = gk ∧ j ≤ xs.length ∧ i = .int .i64 (j : Int) ∧ PtI w1 base (prL k 0 (prA ((xs.map QR.key).take j))) p wr)
 case atStart => exact ⟨0, rfl, by omega, rfl, HI3.out⟩
 case round =>
  clear HI3
  obtain ⟨j, rfl, hj, rfl, A4, c4, rfl, hown4, hm4⟩ := hrel
  have HM := Lib.hid hm4
  have HO := Lib.hid hown4
  have hsr := hm4.size
  have hll : (prL k 0 (prA ((xs.map QR.key).take j))).length ≤ 200 := by rw [prL_len]; simp [prA]; omega
  by_cases hlt : j < xs.length
  ·have hji : ((j : Nat) : Int) < (xs.length : Int) := by omega
   obtain ⟨k', A', c', ws', n2, B', d', xs', hq⟩ := QR.ex xs[j]
   have hX := (HQ.out.xsH.pure HP1.out).pure hm4
   obtain ⟨g, off, rfl, q0, q1, q2, q3⟩ := qcells hX hlt hq
   have hjk : j < (xs.map QR.key).length := by rw [List.length_map]; exact hlt
   have hkey : (xs.map QR.key)[j] = (QR.mk k' A' c' ws' n2 B' d' xs').key := by rw [List.getElem_map, hq]
   have hst := prL_step (k := k) hjk
   rw [hkey] at hst
   have hkk : (QR.mk k' A' c' ws' n2 B' d' xs').key.kind = k' := by rw [QR.key_mk]; rfl
   rw [hkk] at hst
   have HMEM : Hid (QR.mk k' A' c' ws' n2 B' d' xs' ∈ xs) := Lib.hid (by rw [← hq]; exact List.getElem_mem hlt)
   have HMK : Hid ((QR.mk k' A' c' ws' n2 B' d' xs').key ∈ xs.map QR.key) := Lib.hid (List.mem_map.2 ⟨_, HMEM.out, rfl⟩)
   have hQJ : QS wr (.mk k' A' c' ws' n2 B' d' xs') := by rw [← hq]; exact ((HQ.out.allH _ (List.getElem_mem hlt)).pure HP1.out).pure hm4
   have hms := mem_sum HMK.out
   have hpl := prQ_len2 _ (HBD.out.allH _ HMK.out)
   have hpl2 : (prQ (QR.mk k' A' c' ws' n2 B' d' xs').key).length ≤ 45000000 := by omega
   have hpa := pure_alloc wr (.cells #[.int .i64 k', .slice A' ws'.length c', .int .i64 n2, .slice B' xs'.length d'] 29)
   have hX5 := (HB0.out.modp hm4).alloc (.cells #[.int .i64 k', .slice A' ws'.length c', .int .i64 n2, .slice B' xs'.length d'] 29)
   have hE5 := Blk.new wr 29 #[.int .i64 k', .slice A' ws'.length c', .int .i64 n2, .slice B' xs'.length d']
   have HX5 := Lib.hid hX5
   have HE5 := Lib.hid hE5
   have HPA := Lib.hid hpa
   have HC := Lib.hid (HIH.out _ HMEM.out _ (HW.out.pure ((HP1.out.trans hm4).trans hpa)) (hQJ.pure hpa) (HR.out.allH _ HMK.out) (HBD.out.allH _ HMK.out) (by omega))
   have HEN := Lib.hid (fun W => enclosed_calls W k j k' n2 A' B' c' d' ws' xs')
   rw [qA_mk] at HC HEN
   have HST := Lib.hid hst
   clear hown4 hm4 hX hst hkey hkk hpa hq hQJ HMEM HMK hms hpl HIH HBD HR HQ hX5 hE5
   generalize prQ (QR.mk k' A' c' ws' n2 B' d' xs').key = tx at *
   generalize hL : prL k 0 (prA ((xs.map QR.key).take j)) = L at *
   have HLL := Lib.hid hL
   clear hL
   go_upto_region 5 with (fail)
   generalize hwa : wr.alloc (.cells #[.int .i64 k', .slice A' ws'.length c', .int .i64 n2, .slice B' xs'.length d'] 29) = wa at *
   generalize hga : wr.heap.size = ga at *
   have hgw : wr.heap.size ≤ ga ∧ ga ≤ wr.heap.size := by omega
   clear hwa hga
   have hE5 := HE5.out
   have y0 := hE5.cell 0; have y1 := hE5.cell 1; have y2 := hE5.cell 2; have y3 := hE5.cell 3; simp at y0 y1 y2 y3
   clear hE5 q0 q1 q2 q3
   go_wp2_with fail
   refine HC.out.mono ?_
   rintro e w5 ⟨rfl, hm5⟩
   have hE6 := HE5.out.modp hm5
   have hX6 := HX5.out.modp hm5
   have z0 := hE6.cell 0; have z1 := hE6.cell 1; have z2 := hE6.cell 2; have z3 := hE6.cell 3; simp at z0 z1 z2 z3
   have v0 := hX6.cell 0; have v1 := hX6.cell 1; have v2 := hX6.cell 2; have v3 := hX6.cell 3; simp at v0 v1 v2 v3
   have HP5 := Lib.hid (HPA.out.trans hm5)
   clear hm5 hE6 hX6 y0 y1 y2 y3 HC
   go_wp2_with fail
   refine (HEN.out w5).mono ?_
   rintro e w6 ⟨rfl, hm6⟩
   have HP6 := Lib.hid (HP5.out.trans hm6)
   obtain ⟨eb, heb⟩ : ∃ eb, encQ k j k' = eb := ⟨_, rfl⟩
   rw [heb] at HST ⊢
   clear heb hm6 HEN HP5 z0 z1 z2 z3 v0 v1 v2 v3 HE5 HX5
   go_upto_if 22 with (fail)
   go_cut [6] (fun p wx => p = .string ⟨(parQ eb tx).toArray⟩ ∧ w6 = wx)
   case first =>
    have h1 := size_str tx
    cases eb with
    | false =>
     go_wp2_with fail
     go_meet
     exact ⟨rfl, rfl⟩
    | true =>
     go_wp2_with fail
     go_meet
     exact ⟨by show _ = Value.string ⟨([40] ++ tx ++ [41]).toArray⟩; rw [← bytes_app, ← bytes_app], rfl⟩
   case rest =>
    obtain ⟨rfl, rfl⟩ := hcut
    have hpq := parQ_len eb tx
    generalize hpt : parQ eb tx = pt at *
    have HST2 := HST
    have hs6 := HP6.out.size
    obtain ⟨A6, c6, w7, hr7, hown7, hgrow7, hat7⟩ := run_appS (w6.alloc (.cells #[.string ⟨pt.toArray⟩] 9)) 26 base L.length w6.heap.size (.slice A4 L.length c4) L pt (own_pure HO.out (HP6.out.trans (pure_alloc _ _))) (Blk.new _ _ _) (by simp; omega) (by omega)
    have hol := (own_pure HO.out (HP6.out.trans (pure_alloc w6 (.cells #[.string ⟨pt.toArray⟩] 9)))).lt
    have HI7 : Hid (PtI w1 base (prL k 0 (prA ((xs.map QR.key).take (j + 1)))) (.slice A6 (L.length + 1) c6) w7) := Lib.hid ⟨A6, c6, by rw [HST2.out, List.length_append]; rfl, by rw [HST2.out, List.length_append]; exact hown7, ((HM.out.trans HP6.out).trans (pure_alloc _ _)).trans' (mod_grown hgrow7) (fun i hi hlt => by have := (hol i hi).1; omega)⟩
    clear hown7 hgrow7 hat7 hol HO HM HP6 HST HST2 HLL hpt
    go_wp2_with (at_builtin; refine wpList_append_runI rfl _ _ _ _ rfl _ _ _ _ rfl rfl hr7 ?_)
    go_roundg (xs.length - (j + 1))
    case measure => omega
    case rel => exact ⟨j + 1, rfl, by omega, by simp, HI7.out⟩
  ·obtain rfl : j = xs.length := by omega
   have hjj : ¬ ((xs.length : Nat) : Int) < (xs.length : Int) := by omega
   have hto : (xs.map QR.key).take xs.length = xs.map QR.key := List.take_of_length_le (by simp)
   rw [hto] at hown4 HO ⊢
   have hln : (prL k 0 (prA (xs.map QR.key))).length = xs.length := by rw [prL_len]; simp [prA]
   have HRES : Hid (prQ (.mk k ws n (xs.map QR.key)) = txtQ k n ws (prL k 0 (prA (xs.map QR.key)))) := Lib.hid (by rw [prQ]; rfl)
   have hwb := hown4
   have hvb := HB0.out.modp hm4
   have v0 := hvb.cell 0; have v1 := hvb.cell 1; have v2 := hvb.cell 2; have v3 := hvb.cell 3; simp at v0 v1 v2 v3
   have HPL : Hid ((prQ (.mk k ws n (xs.map QR.key))).length ≤ 45000000) := Lib.hid (by
    have h := prQ_len2 (.mk k ws n (xs.map QR.key)) HBD.out
    rw [qSize] at h
    omega)
   have hbn := HR.out.bH
   have HIT := Lib.hid (itoaW_calls wr n (by omega) (by omega) (HW.out.pure (HP1.out.trans hm4)))
   have HWS := Lib.hid ((HQ.out.wsH.pure HP1.out).pure hm4)
   have HOS := Lib.hid (Sl.of_own hown4)
   have HPW := Lib.hid (HP1.out.trans hm4)
   have hit21 := itoa_21 n (by omega) (by omega)
   clear hown4 hm4 hwb hvb HM HO HIH hto
   generalize prL k 0 (prA (xs.map QR.key)) = L at *
   generalize prQ (.mk k ws n (xs.map QR.key)) = RR at *
   have hln1 : L.length ≤ xs.length := by omega
   have hln2 : xs.length ≤ L.length := by omega
   clear hln
   go_wp2_with fail
   refine HIT.out.mono ?_
   rintro e w5 ⟨rfl, hm5⟩
   have HWS5 := Lib.hid (HWS.out.pure hm5)
   have HOS5 := Lib.hid (HOS.out.pure hm5)
   have HP5 := Lib.hid (HPW.out.trans hm5)
   have u0 := keepp v0 hm5
   have u1 := keepp v1 hm5
   have u2 := keepp v2 hm5
   clear hm5 HWS HOS HPW v0 v1 v2 v3
   by_cases k1 : k = 1
   ·subst k1
    have HTX : Hid (txtQ 1 n ws L = [97, 108, 108]) := Lib.hid rfl
    go_wp2_with fail
    go_ret
    exact ⟨by rw [HRES.out, HTX.out]; rfl, HP5.out⟩
   have k1i : (k == 1) = false := by simpa using k1
   by_cases k2 : k = 2
   ·subst k2
    have hw0 : 0 < ws.length := by have := HR.out.wH (by omega); omega
    obtain ⟨g, off, rfl, hr⟩ := (HWS5.out).rowS hw0
    have q0 := hr.cell (strsV_get ws 0 hw0)
    have hwi : (0 : Int) < (ws.length : Int) := by omega
    have HTX : Hid (txtQ 2 n ws L = ws[0]) := Lib.hid (by show ws.getD 0 [] = _; simp [List.getD, hw0])
    have hsl := size_str ws[0]
    have hsm := HBD.out.wsH.2 ws[0] (List.getElem_mem hw0)
    simp only [Nat.add_zero] at q0
    clear hr HIT HWS5 HOS5 HR HBD HQ
    generalize ws[0] = s0 at *
    go_wp2_with fail
    go_ret
    exact ⟨by rw [HRES.out, HTX.out]; rfl, HP5.out⟩
   have k2i : (k == 2) = false := by simpa using k2
   by_cases k3 : k = 3
   ·subst k3
    have HTX : Hid (txtQ 3 n ws L = [34] ++ Lib.join ws [32] ++ [34]) := Lib.hid rfl
    have hjl := join_le ws [32]
    have hsw := sum_wd HBD.out.wsH.2
    have hws2 := HBD.out.wsH.1
    have hj2 : (Lib.join ws [32]).length ≤ 100000000 := by simp only [List.length_cons, List.length_nil] at hjl; omega
    have HJ := Lib.hid (join_calls w5 _ ws [32] HWS5.out (by omega) hj2)
    clear hjl hsw HWS5 HOS5 HR HBD HQ
    generalize Lib.join ws [32] = jj at *
    have hsj := size_str jj
    go_wp2_with fail
    refine HJ.out.mono ?_
    rintro e w6 ⟨rfl, hm6⟩
    have HP6 := Lib.hid (HP5.out.trans hm6)
    clear hm6 HJ
    go_wp2_with fail
    go_ret
    exact ⟨by rw [HRES.out, HTX.out, ← bytes_app, ← bytes_app]; rfl, HP6.out⟩
   have k3i : (k == 3) = false := by simpa using k3
   by_cases k4 : k = 4
   ·subst k4
    have hx2 : 2 ≤ xs.length := by
     have h := HR.out.aH (by omega)
     rwa [List.length_map] at h
    have h0 : 0 < L.length := by omega
    have h1 : 1 < L.length := by omega
    obtain ⟨g, off, rfl, hr⟩ := (HOS5.out).rowS h0
    have q0 := hr.cell (strsV_get L 0 h0)
    have q1 := hr.cell (strsV_get L 1 h1)
    have hi0 : (0 : Int) < (L.length : Int) := by omega
    have hi1 : (1 : Int) < (L.length : Int) := by omega
    have HTX : Hid (txtQ 4 n ws L = L[0] ++ ([32, 119, 47] : Str) ++ Lib.itoa n ++ ([32] : Str) ++ L[1]) := Lib.hid (by show L.getD 0 [] ++ ([32, 119, 47] : Str) ++ Lib.itoa n ++ ([32] : Str) ++ L.getD 1 [] = _; simp [List.getD, h0, h1])
    have hpl3 := HPL.out
    rw [HRES.out, HTX.out] at hpl3
    simp only [List.length_append, List.length_cons, List.length_nil] at hpl3
    have hsl := size_str L[0]
    have hsm := size_str L[1]
    have hsi := size_str (Lib.itoa n)
    simp only [Nat.add_zero] at q0
    clear hr HIT HWS5 HOS5 HR HBD HQ
    generalize L[0] = s0 at *
    generalize L[1] = s1 at *
    generalize Lib.itoa n = sn at *
    go_upto_region 19 with (fail)
    go_quiet (fail)
    go_wp2_with fail
    go_ret
    exact ⟨by rw [HRES.out, HTX.out, ← bytes_app, ← bytes_app, ← bytes_app, ← bytes_app]; rfl, HP5.out.drewN _⟩
   have k4i : (k == 4) = false := by simpa using k4
   by_cases k5 : k = 5
   ·subst k5
    have hx2 : 2 ≤ xs.length := by
     have h := HR.out.aH (by omega)
     rwa [List.length_map] at h
    have h0 : 0 < L.length := by omega
    have h1 : 1 < L.length := by omega
    obtain ⟨g, off, rfl, hr⟩ := (HOS5.out).rowS h0
    have q0 := hr.cell (strsV_get L 0 h0)
    have q1 := hr.cell (strsV_get L 1 h1)
    have hi0 : (0 : Int) < (L.length : Int) := by omega
    have hi1 : (1 : Int) < (L.length : Int) := by omega
    have HTX : Hid (txtQ 5 n ws L = L[0] ++ ([32, 112, 114, 101, 47] : Str) ++ Lib.itoa n ++ ([32] : Str) ++ L[1]) := Lib.hid (by show L.getD 0 [] ++ ([32, 112, 114, 101, 47] : Str) ++ Lib.itoa n ++ ([32] : Str) ++ L.getD 1 [] = _; simp [List.getD, h0, h1])
    have hpl3 := HPL.out
    rw [HRES.out, HTX.out] at hpl3
    simp only [List.length_append, List.length_cons, List.length_nil] at hpl3
    have hsl := size_str L[0]
    have hsm := size_str L[1]
    have hsi := size_str (Lib.itoa n)
    simp only [Nat.add_zero] at q0
    clear hr HIT HWS5 HOS5 HR HBD HQ
    generalize L[0] = s0 at *
    generalize L[1] = s1 at *
    generalize Lib.itoa n = sn at *
    go_upto_region 21 with (fail)
    go_quiet (fail)
    go_wp2_with fail
    go_ret
    exact ⟨by rw [HRES.out, HTX.out, ← bytes_app, ← bytes_app, ← bytes_app, ← bytes_app]; rfl, HP5.out.drewN _⟩
   have k5i : (k == 5) = false := by simpa using k5
   by_cases k6 : k = 6
   ·subst k6
    have HTX : Hid (txtQ 6 n ws L = Lib.join L [32, 97, 110, 100, 32]) := Lib.hid rfl
    have hpl3 := HPL.out
    rw [HRES.out, HTX.out] at hpl3
    have HJ := Lib.hid (join_calls w5 _ L [32, 97, 110, 100, 32] HOS5.out (by omega) (by omega))
    clear HIT HWS5 HOS5 HR HBD HQ hpl3
    generalize Lib.join L [32, 97, 110, 100, 32] = jj at *
    go_wp2_with fail
    refine HJ.out.mono ?_
    rintro e w6 ⟨rfl, hm6⟩
    have HP6 := Lib.hid (HP5.out.trans hm6)
    clear hm6 HJ
    go_wp2_with fail
    go_ret
    exact ⟨by rw [HRES.out, HTX.out]; rfl, HP6.out⟩
   have k6i : (k == 6) = false := by simpa using k6
   by_cases k7 : k = 7
   ·subst k7
    have HTX : Hid (txtQ 7 n ws L = Lib.join L [32, 111, 114, 32]) := Lib.hid rfl
    have hpl3 := HPL.out
    rw [HRES.out, HTX.out] at hpl3
    have HJ := Lib.hid (join_calls w5 _ L [32, 111, 114, 32] HOS5.out (by omega) (by omega))
    clear HIT HWS5 HOS5 HR HBD HQ hpl3
    generalize Lib.join L [32, 111, 114, 32] = jj at *
    go_wp2_with fail
    refine HJ.out.mono ?_
    rintro e w6 ⟨rfl, hm6⟩
    have HP6 := Lib.hid (HP5.out.trans hm6)
    clear hm6 HJ
    go_wp2_with fail
    go_ret
    exact ⟨by rw [HRES.out, HTX.out]; rfl, HP6.out⟩
   have k7i : (k == 7) = false := by simpa using k7
   by_cases k8 : k = 8
   ·subst k8
    have h0 : 0 < L.length := by
     have h := HR.out.nH rfl
     rw [List.length_map] at h
     omega
    obtain ⟨g, off, rfl, hr⟩ := (HOS5.out).rowS h0
    have q0 := hr.cell (strsV_get L 0 h0)
    have hi0 : (0 : Int) < (L.length : Int) := by omega
    have HTX : Hid (txtQ 8 n ws L = ([110, 111, 116, 32] : Str) ++ L[0]) := Lib.hid (by show ([110, 111, 116, 32] : Str) ++ L.getD 0 [] = _; simp [List.getD, h0])
    have hpl3 := HPL.out
    rw [HRES.out, HTX.out] at hpl3
    simp only [List.length_append, List.length_cons, List.length_nil] at hpl3
    have hsl := size_str L[0]
    simp only [Nat.add_zero] at q0
    clear hr HIT HWS5 HOS5 HR HBD HQ
    generalize L[0] = s0 at *
    go_wp2_with fail
    go_ret
    exact ⟨by rw [HRES.out, HTX.out, ← bytes_app]; rfl, HP5.out⟩
   have k8i : (k == 8) = false := by simpa using k8
   by_cases k9 : k = 9
   ·subst k9
    have hw0 : 0 < ws.length := by have := HR.out.wH (by omega); omega
    obtain ⟨g, off, rfl, hr⟩ := (HWS5.out).rowS hw0
    have q0 := hr.cell (strsV_get ws 0 hw0)
    have hwi : (0 : Int) < (ws.length : Int) := by omega
    have HTX : Hid (txtQ 9 n ws L = ([111, 119, 110, 101, 114, 58] : Str) ++ ws[0]) := Lib.hid (by show ([111, 119, 110, 101, 114, 58] : Str) ++ ws.getD 0 [] = _; simp [List.getD, hw0])
    have hsl := size_str ws[0]
    have hsm := HBD.out.wsH.2 ws[0] (List.getElem_mem hw0)
    simp only [Nat.add_zero] at q0
    clear hr HIT HWS5 HOS5 HR HBD HQ
    generalize ws[0] = s0 at *
    go_wp2_with fail
    go_ret
    exact ⟨by rw [HRES.out, HTX.out, ← bytes_app]; rfl, HP5.out⟩
   have k9i : (k == 9) = false := by simpa using k9
   by_cases k10 : k = 10
   ·subst k10
    have HTX : Hid (txtQ 10 n ws L = ([107, 105, 110, 100, 58] : Str) ++ kwQ n) := Lib.hid rfl
    have HKW := Lib.hid (kindWordQ_calls w5 n)
    have hkl := kwQ_len n
    have hks := size_str (kwQ n)
    clear HIT HWS5 HOS5 HR HBD HQ
    generalize kwQ n = kn at *
    go_wp2_with fail
    refine HKW.out.mono ?_
    rintro e w6 ⟨rfl, hw6⟩
    have hw7 := hw6.symm
    subst hw7
    clear hw6 HKW
    go_wp2_with fail
    go_ret
    exact ⟨by rw [HRES.out, HTX.out, ← bytes_app]; rfl, HP5.out⟩
   have k10i : (k == 10) = false := by simpa using k10
   by_cases k11 : k = 11
   ·subst k11
    have hw0 : 0 < ws.length := by have := HR.out.wH (by omega); omega
    obtain ⟨g, off, rfl, hr⟩ := (HWS5.out).rowS hw0
    have q0 := hr.cell (strsV_get ws 0 hw0)
    have hwi : (0 : Int) < (ws.length : Int) := by omega
    have HTX : Hid (txtQ 11 n ws L = ([110, 97, 109, 101, 58] : Str) ++ ws[0]) := Lib.hid (by show ([110, 97, 109, 101, 58] : Str) ++ ws.getD 0 [] = _; simp [List.getD, hw0])
    have hsl := size_str ws[0]
    have hsm := HBD.out.wsH.2 ws[0] (List.getElem_mem hw0)
    simp only [Nat.add_zero] at q0
    clear hr HIT HWS5 HOS5 HR HBD HQ
    generalize ws[0] = s0 at *
    go_wp2_with fail
    go_ret
    exact ⟨by rw [HRES.out, HTX.out, ← bytes_app]; rfl, HP5.out⟩
   have k11i : (k == 11) = false := by simpa using k11
   by_cases k12 : k = 12
   ·subst k12
    have HTX : Hid (txtQ 12 n ws L = [102, 114, 111, 109, 58] ++ Lib.itoa n) := Lib.hid rfl
    have hsi := size_str (Lib.itoa n)
    clear HIT HWS5 HOS5 HR HBD HQ
    generalize Lib.itoa n = sn at *
    go_wp2_with fail
    go_ret
    exact ⟨by rw [HRES.out, HTX.out, ← bytes_app]; rfl, HP5.out⟩
   have k12i : (k == 12) = false := by simpa using k12
   obtain rfl : k = 13 := by have := HR.out.kH; omega
   have HTX : Hid (txtQ 13 n ws L = [117, 110, 116, 105, 108, 58] ++ Lib.itoa n) := Lib.hid rfl
   have hsi := size_str (Lib.itoa n)
   clear HIT HWS5 HOS5 HR HBD HQ
   generalize Lib.itoa n = sn at *
   go_wp2_with fail
   go_ret
   exact ⟨by rw [HRES.out, HTX.out, ← bytes_app]; rfl, HP5.out⟩

end Go.Proofs.YtnfflgicngeekaaGreatDoor

/- Check of searches: the program. -/
namespace Go.Proofs.YtnfflgicngeekaaGreatDoor
set_option linter.unusedVariables false
set_option linter.unusedSimpArgs false
open Go.RowKit

set_option maxRecDepth 100000 in
set_option maxHeartbeats 8000000 in
theorem qcheck_calls (w : World) (qr : QR) (hQ : QS w qr) (hB : QB 1000 qr.key) : Calls Tryz.prog 43 #[qA qr] w (IntPost w (checkQ qr.key)) := by
 have HSZ := Lib.hid (fun W (h : Pure w W) => qsize_calls W qr (hQ.pure h) hB)
 have HIN := Lib.hid (fun W (h : Pure w W) => inner_calls qr W false (hQ.pure h) hB)
 have HCK : Hid (checkQ qr.key = if qFit qr.key 0 0 0 = true then fltQ 100 false qr.key else 2) := Lib.hid rfl
 generalize checkQ qr.key = er at *
 generalize fltQ 100 false qr.key = fl at *
 generalize qFit qr.key 0 0 0 = fit at *
 obtain ⟨k, A, c, ws, n, B, dd, xs, rfl⟩ := qr.ex
 rw [show qA (QR.mk k A c ws n B dd xs) = .agg #[.int .i64 k, .slice A ws.length c, .int .i64 n, .slice B xs.length dd] from rfl] at HSZ HIN ⊢
 have hB0 := Blk.new w 29 #[.int .i64 k, .slice A ws.length c, .int .i64 n, .slice B xs.length dd]
 have HP0 := Lib.hid (pure_alloc w (.cells #[.int .i64 k, .slice A ws.length c, .int .i64 n, .slice B xs.length dd] 29))
 clear hQ hB
 go_enter Tryz.func43, Tryz.ntmps43
 go_upto_region 1 with (fail)
 generalize (w.alloc (.cells #[.int .i64 k, .slice A ws.length c, .int .i64 n, .slice B xs.length dd] 29)) = w1 at *
 generalize w.heap.size = g0 at *
 have HB0 := Lib.hid hB0
 have x0 := hB0.cell 0; have x1 := hB0.cell 1; have x2 := hB0.cell 2; have x3 := hB0.cell 3; simp at x0 x1 x2 x3
 clear hB0
 cases fit with
 | false =>
  obtain rfl : (2 : Int) = er := HCK.out.symm
  go_wp2_with fail
  refine (HSZ.out w1 HP0.out).mono ?_
  rintro e w2 ⟨rfl, hm⟩
  have HP2 : Hid (Pure w w2) := Lib.hid (HP0.out.trans hm)
  clear x0 x1 x2 x3 HSZ HIN HP0 HB0 hm
  go_wp2_with fail
  try simp only [Exit.inBlock, Exit.then]
  refine bodyPost_ret (v := .int .i64 2) (by simp [results, Tryz.results43, go_sem]) rfl ?_
  exact ⟨rfl, HP2.out⟩
 | true =>
  obtain rfl : fl = er := HCK.out.symm
  go_wp2_with fail
  refine (HSZ.out w1 HP0.out).mono ?_
  rintro e w2 ⟨rfl, hm⟩
  have HP2 : Hid (Pure w w2) := Lib.hid (HP0.out.trans hm)
  have hb2 := HB0.out.modp hm
  clear x0 x1 x2 x3 HSZ HP0 HB0 hm
  have x0 := hb2.cell 0; have x1 := hb2.cell 1; have x2 := hb2.cell 2; have x3 := hb2.cell 3; simp at x0 x1 x2 x3
  clear hb2
  go_wp2_with fail
  refine (HIN.out w2 HP2.out).mono ?_
  rintro e w3 ⟨rfl, hm⟩
  have HP3 : Hid (Pure w w3) := Lib.hid (HP2.out.trans hm)
  go_wp2_with fail
  go_ret
  exact ⟨rfl, HP3.out⟩

end Go.Proofs.YtnfflgicngeekaaGreatDoor

/- The patterns of a search, gathered in a set. -/
namespace Go.Proofs.YtnfflgicngeekaaGreatDoor
set_option linter.unusedVariables false
set_option linter.unusedSimpArgs false
open Go.RowKit

end Go.Proofs.YtnfflgicngeekaaGreatDoor

/- The patterns of a search: the program. -/
namespace Go.Proofs.YtnfflgicngeekaaGreatDoor
set_option linter.unusedVariables false
set_option linter.unusedSimpArgs false
open Go.RowKit

theorem size_check {q : Qry} (h : checkQ q = 0) : qSize q ≤ 100 := by
 unfold checkQ at h
 by_cases hf : qFit q 0 0 0 = true
 ·unfold qFit at hf
  simp only [Bool.and_eq_true, decide_eq_true_eq] at hf
  omega
 ·rw [if_neg hf] at h
  cases h
end Go.Proofs.YtnfflgicngeekaaGreatDoor

/- A right search's text is short; Print. -/
namespace Go.Proofs.YtnfflgicngeekaaGreatDoor
set_option linter.unusedVariables false
set_option linter.unusedSimpArgs false
open Go.RowKit

theorem patB_40 {s : Str} (h : patB s = true) : s.length ≤ 40 := by
 unfold patB at h
 simp only [Bool.and_eq_true, decide_eq_true_eq] at h
 exact h.1.2
theorem wordBad_40 {k : Int} {ws : List Str} (h : ¬ ws.any (wordBad k) = true) : ∀ x ∈ ws, x.length ≤ 40 := by
 intro x hx
 have h1 : wordBad k x = false := by
  cases hb : wordBad k x with
  | false => rfl
  | true => exact absurd (List.any_eq_true.2 ⟨x, hx, hb⟩) h
 unfold wordBad at h1
 by_cases hk : k = 9
 ·rw [if_pos hk] at h1
  have : keyB x = true := by simpa using h1
  unfold keyB at this
  simp only [Bool.and_eq_true, decide_eq_true_eq] at this
  exact this.1.1.2
 ·rw [if_neg hk] at h1
  simp only [Bool.or_eq_false_iff] at h1
  exact patB_40 (by simpa using h1.1)
theorem form_10 {M : Nat} {k n : Int} {nw na : Nat} (h : formB M k nw n na = true) : nw ≤ 10 := by
 unfold formB at h
 simp only [Bool.and_eq_true, decide_eq_true_eq] at h
 have h1 : (useQ M k).w1 ≤ 10 := by
  unfold useQ
  repeat' split
  all_goals simp
 omega
theorem prQ_small : ∀ (q : Qry) (M : Nat) (must : Bool), fltQ M must q = 0 → (prQ q).length + 7 ≤ 500 * qSize q := by
 refine Qry.ind (fun k ws n xs ih M must h => ?_)
 obtain ⟨h1, h2⟩ := flt_parts h
 unfold headE at h1
 by_cases c1 : ¬ (1 ≤ k ∧ k ≤ 13)
 ·rw [if_pos c1] at h1; cases h1
 rw [if_neg c1] at h1
 by_cases c2 : must = true ∧ byWK k = false
 ·rw [if_pos c2] at h1; cases h1
 rw [if_neg c2] at h1
 by_cases c3 : formB M k ws.length n xs.length = false
 ·rw [if_pos c3] at h1; cases h1
 have hf : formB M k ws.length n xs.length = true := by simpa using c3
 rw [if_neg c3] at h1
 by_cases c4 : ws.any (wordBad k) = true
 ·rw [if_pos c4] at h1; cases h1
 rw [if_neg c4] at h1
 have hn := num_pr hf h1 (by omega)
 have hw := form_10 hf
 have h4 := sum_wd (wordBad_40 c4)
 rw [prQ, qSize]
 have g1 := txtQ_len k n ws (prL k 0 (xs.map fun a => (a.kind, prQ a))) (itoa_21 n (by omega) (by omega))
 have g2 := prL_sum k 0 (xs.map fun a => (a.kind, prQ a))
 have g3 : ∀ l : List Qry, (∀ a ∈ l, (prQ a).length + 7 ≤ 500 * qSize a) → ((l.map fun a => (a.kind, prQ a)).map fun p => p.2.length + 2).sum + 5 * l.length ≤ 500 * (l.map qSize).sum := by
  intro l
  induction l with
  | nil => simp
  | cons x t iht =>
   intro h
   have h1 := h x (by simp)
   have h2 := iht (fun a ha => h a (by simp [ha]))
   simp only [List.map_cons, List.sum_cons, List.length_cons]
   omega
 have g4 := g3 xs (fun a ha => ih a ha M _ (h2 a ha))
 rw [prL_len, List.length_map] at g1
 omega
theorem prQ_check {q : Qry} (h : checkQ q = 0) : (prQ q).length ≤ 100000 := by
 have h1 := size_check h
 unfold checkQ at h
 by_cases hf : qFit q 0 0 0 = true
 ·rw [if_pos hf] at h
  have := prQ_small q _ _ h
  omega
 ·rw [if_neg hf] at h
  cases h
/-- The text of a right search; its error, and none, of a wrong one. -/
def PrnP (w : World) (q : Qry) (e : Ending) (w' : World) : Prop := e = .returned (.tuple #[.string ⟨(if checkQ q = 0 then prQ q else []).toArray⟩, .int .i64 (checkQ q)]) ∧ Pure w w'
set_option maxRecDepth 100000 in
set_option maxHeartbeats 8000000 in
theorem print_calls (w : World) (qr : QR) (hW : Pow w) (hQ : QS w qr) (hB : QB 200 qr.key) : Calls Tryz.prog 9 #[qA qr] w (PrnP w qr.key) := by
 obtain ⟨k, A, c, ws, n, B, d, xs, rfl⟩ := qr.ex
 have HB0 := Lib.hid (Blk.new w 29 #[.int .i64 k, .slice A ws.length c, .int .i64 n, .slice B xs.length d])
 have hpa := pure_alloc w (.cells #[.int .i64 k, .slice A ws.length c, .int .i64 n, .slice B xs.length d] 29)
 have HP0 := Lib.hid hpa
 have HQ := Lib.hid hQ
 have HW := Lib.hid hW
 have HBD := Lib.hid hB
 have HCK := Lib.hid (qcheck_calls (w.alloc (.cells #[.int .i64 k, .slice A ws.length c, .int .i64 n, .slice B xs.length d] 29)) _ (hQ.pure hpa) (hB.mono (by omega)))
 obtain ⟨ck, hck⟩ : ∃ ck, checkQ (QR.mk k A c ws n B d xs).key = ck := ⟨_, rfl⟩
 have HC0 := Lib.hid hck
 rw [hck] at HCK
 rw [qA_mk] at HCK ⊢
 clear hck hpa hQ hB hW
 go_enter Tryz.func9, Tryz.ntmps9
 go_upto_region 1 with (fail)
 generalize (w.alloc (.cells #[.int .i64 k, .slice A ws.length c, .int .i64 n, .slice B xs.length d] 29)) = w1 at *
 generalize hg0 : w.heap.size = g0 at *
 have hwg : w.heap.size ≤ g0 := Nat.le_of_eq hg0
 clear hg0
 have hb0 := HB0.out
 have x0 := hb0.cell 0; have x1 := hb0.cell 1; have x2 := hb0.cell 2; have x3 := hb0.cell 3; simp at x0 x1 x2 x3
 clear hb0
 go_wp2_with fail
 refine HCK.out.mono ?_
 rintro e w2 ⟨rfl, hm2⟩
 have hb2 := HB0.out.modp hm2
 have HP2 : Hid (Pure w w2) := Lib.hid (HP0.out.trans hm2)
 clear hm2 x0 x1 x2 x3 HCK
 have x0 := hb2.cell 0; have x1 := hb2.cell 1; have x2 := hb2.cell 2; have x3 := hb2.cell 3; simp at x0 x1 x2 x3
 clear hb2
 by_cases h0 : ck = 0
 ·subst h0
  have hsz := size_check HC0.out
  have HC := Lib.hid (printed_calls (.mk k A c ws n B d xs) w2 (HW.out.pure HP2.out) (HQ.out.pure HP2.out) (prR_check HC0.out) HBD.out (by omega))
  have hpl := prQ_check HC0.out
  rw [qA_mk] at HC
  have HRES : ∀ W, Hid (Pure w W → PrnP w (QR.mk k A c ws n B d xs).key (.returned (.tuple #[.string ⟨(prQ (QR.mk k A c ws n B d xs).key).toArray⟩, .int .i64 0])) W) := fun W => Lib.hid (fun h => ⟨by rw [HC0.out, if_pos rfl], h⟩)
  have hps := size_str (prQ (QR.mk k A c ws n B d xs).key)
  clear HC0 hsz
  generalize prQ (QR.mk k A c ws n B d xs).key = tx at *
  go_wp2_with fail
  refine HC.out.mono ?_
  rintro e w3 ⟨rfl, hm3⟩
  have HP3 := Lib.hid (HP2.out.trans hm3)
  clear hm3 HC
  go_wp2_with fail
  go_ret2
  exact (HRES _).out HP3.out
 ·have h0i : (ck == 0) = false := by simpa using h0
  have h0n : (ck != 0) = true := by simp [h0]
  have HR : Hid (PrnP w (QR.mk k A c ws n B d xs).key (.returned (.tuple #[.string ⟨#[]⟩, .int .i64 ck])) w2) := Lib.hid ⟨by rw [HC0.out, if_neg h0], HP2.out⟩
  clear HC0
  go_wp2_with fail
  go_ret2
  exact HR.out

end Go.Proofs.YtnfflgicngeekaaGreatDoor

/- The reference's text of a search: what stands in parentheses; the words of kinds. -/
namespace Go.Proofs.YtnfflgicngeekaaGreatDoor
set_option linter.unusedVariables false
set_option linter.unusedSimpArgs false
open Go.RowKit

theorem intsP_get (xs : List Int) (i : Nat) (h : i < xs.length) : (ints xs)[i]? = some (.int .i64 xs[i]) := by simp [ints, h]
theorem intsP_len (xs : List Int) : (ints xs).length = xs.length := by simp [ints]

set_option maxRecDepth 100000 in
set_option maxHeartbeats 1000000 in
theorem indexKp_calls (w : World) (v : Value) (xs : List Int) (y : Int) (hv : Sl w 3 1 v (ints xs)) : Calls Tryz.prog 113 #[v, .int .i64 y] w (IntPost w (idxQ (fun x => y == x) xs 0)) := by
 obtain ⟨A, n, c, rfl, hc1, hc2, hl, hr⟩ := hv
 have hln : xs.length = n := by rw [intsP_len] at hl; omega
 subst hln
 have HR := Lib.hid hr
 clear hl hr
 go_enter Tryz.func113, Tryz.ntmps113
 go_wp2_with fail
 go_loopg [8] xs.length (fun gk i wr => ∃ k : Nat, xs.length - k = gk ∧ k ≤ xs.length ∧ i = .int .i64 (k : Int) ∧ idxQ (fun x => y == x) xs 0 = idxQ (fun x => y == x) (xs.drop k) (k : Int) ∧ w = wr)
 case atStart => exact ⟨0, by omega, by omega, rfl, rfl, rfl⟩
 case round =>
  obtain ⟨k, rfl, hk, rfl, hix, rfl⟩ := hrel
  have HIX := Lib.hid hix
  clear hix
  by_cases hlt : k < xs.length
  ·obtain ⟨g, off, rfl, hrow⟩ := HR.out (by omega)
   have hq := hrow.cell (intsP_get xs k hlt)
   have hd : xs.drop k = xs[k] :: xs.drop (k + 1) := List.drop_eq_getElem_cons hlt
   have hi2 : idxQ (fun x => y == x) xs 0 = if (fun x => y == x) xs[k] then (k : Int) else idxQ (fun x => y == x) (xs.drop (k + 1)) ((k : Int) + 1) := by rw [HIX.out, hd]; rfl
   have HI2 := Lib.hid hi2
   clear hd hi2 hrow HIX
   generalize xs[k] = x at *
   have heq : (y == x) = (y == x) := by first | rfl | (exact Bool.eq_iff_iff.2 (by simp; try omega))
   cases hp : (y == x)
   ·have hp2 := heq.trans hp
    have HP := Lib.hid hp
    clear hp heq
    go_wp2_with fail
    go_roundg (xs.length - (k + 1))
    case measure => omega
    case rel => exact ⟨k + 1, rfl, hlt, by simp, by rw [HI2.out]; simp only [HP.out]; simp, rfl⟩
   ·have hp2 := heq.trans hp
    have HP := Lib.hid hp
    clear hp heq
    go_wp2_with fail
    go_ret
    exact IntPost.of (by rw [HI2.out]; simp only [HP.out]; simp) (Mod.refl _ _)
  ·have hke : k = xs.length := by omega
   subst hke
   go_wp2_with fail
   go_ret
   exact IntPost.of (by rw [HIX.out, List.drop_of_length_le (Nat.le_refl _)]; rfl) (Mod.refl _ _)


set_option maxRecDepth 100000 in
set_option maxHeartbeats 1000000 in
theorem containsKp_calls (w : World) (v : Value) (xs : List Int) (y : Int) (hv : Sl w 3 1 v (ints xs)) : Calls Tryz.prog 47 #[v, .int .i64 y] w (BoolPost w (xs.any (fun x => y == x))) := by
 have HC := Lib.hid (indexKp_calls w v xs y hv)
 have HI := Lib.hid (idxQ_any (fun x => y == x) xs 0 (by omega))
 obtain ⟨A, n, c, rfl⟩ := hv.form
 clear hv
 go_enter Tryz.func47, Tryz.ntmps47
 go_wp2_with fail
 refine HC.out.mono ?_
 rintro e w1 ⟨rfl, hm1⟩
 generalize idxQ (fun x => y == x) xs 0 = r at *
 go_wp2_with fail
 go_ret
 exact BoolPost.of HI.out.symm hm1

set_option maxRecDepth 100000 in
set_option maxHeartbeats 400000 in
theorem kindWordR_calls (n : Int) (w : World) (h1 : 1 ≤ n) (h4 : n ≤ 4) : Calls Tryz.prog 50 #[.int .i64 n] w (fun e w' => e = .returned (.string ⟨(kwQ n).toArray⟩) ∧ w = w') := by
 rcases (show n = 1 ∨ n = 2 ∨ n = 3 ∨ n = 4 by omega) with rfl | rfl | rfl | rfl
 ·have hrun : (Instr.index 149 (.agg #[.string ⟨#[]⟩, .string ⟨#[109, 97, 105, 108]⟩, .string ⟨#[102, 105, 108, 101]⟩, .string ⟨#[98, 111, 120]⟩, .string ⟨#[110, 111, 116, 101]⟩]) (.int .i64 1)).run Tryz.prog w = .ok (.string ⟨#[109, 97, 105, 108]⟩) w := by kernel_rfl
  go_enter Tryz.func50, Tryz.ntmps50
  go_wp2_with fail
  go_ret
  exact ⟨rfl, rfl⟩
 ·have hrun : (Instr.index 149 (.agg #[.string ⟨#[]⟩, .string ⟨#[109, 97, 105, 108]⟩, .string ⟨#[102, 105, 108, 101]⟩, .string ⟨#[98, 111, 120]⟩, .string ⟨#[110, 111, 116, 101]⟩]) (.int .i64 2)).run Tryz.prog w = .ok (.string ⟨#[102, 105, 108, 101]⟩) w := by kernel_rfl
  go_enter Tryz.func50, Tryz.ntmps50
  go_wp2_with fail
  go_ret
  exact ⟨rfl, rfl⟩
 ·have hrun : (Instr.index 149 (.agg #[.string ⟨#[]⟩, .string ⟨#[109, 97, 105, 108]⟩, .string ⟨#[102, 105, 108, 101]⟩, .string ⟨#[98, 111, 120]⟩, .string ⟨#[110, 111, 116, 101]⟩]) (.int .i64 3)).run Tryz.prog w = .ok (.string ⟨#[98, 111, 120]⟩) w := by kernel_rfl
  go_enter Tryz.func50, Tryz.ntmps50
  go_wp2_with fail
  go_ret
  exact ⟨rfl, rfl⟩
 ·have hrun : (Instr.index 149 (.agg #[.string ⟨#[]⟩, .string ⟨#[109, 97, 105, 108]⟩, .string ⟨#[102, 105, 108, 101]⟩, .string ⟨#[98, 111, 120]⟩, .string ⟨#[110, 111, 116, 101]⟩]) (.int .i64 4)).run Tryz.prog w = .ok (.string ⟨#[110, 111, 116, 101]⟩) w := by kernel_rfl
  go_enter Tryz.func50, Tryz.ntmps50
  go_wp2_with fail
  go_ret
  exact ⟨rfl, rfl⟩

end Go.Proofs.YtnfflgicngeekaaGreatDoor

/- The reference's text of a search: the one within. -/
namespace Go.Proofs.YtnfflgicngeekaaGreatDoor
set_option linter.unusedVariables false
set_option linter.unusedSimpArgs false
open Go.RowKit

set_option maxRecDepth 100000 in
set_option maxHeartbeats 8000000 in
/-- The text of a search within: in parentheses where its kind is one of some. -/
theorem innerQ_calls (w : World) (k n : Int) (A B : Option Addr) (c d : Nat) (ws : List Str) (xs : List QR) (v : Value) (ks : List Int) (tx : Str) (hv : Sl w 3 1 v (ints ks)) (ht : tx.length ≤ 45000000)
  (hC : ∀ w', Pure w w' → Calls Tryz.prog 11 #[qA (.mk k A c ws n B d xs)] w' (StrPost1 w' tx)) : Calls Tryz.prog 46 #[qA (.mk k A c ws n B d xs), v] w (StrPost1 w (parQ (ks.any fun x => k == x) tx)) := by
 have hb := Blk.new w 29 #[.int .i64 k, .slice A ws.length c, .int .i64 n, .slice B xs.length d]
 have HP := Lib.hid (pure_alloc w (.cells #[.int .i64 k, .slice A ws.length c, .int .i64 n, .slice B xs.length d] 29))
 have HC := Lib.hid hC
 have HV := Lib.hid hv
 rw [qA_mk] at HC ⊢
 obtain ⟨vA, vn, vc, rfl⟩ := hv.form
 clear hv hC
 go_enter Tryz.func46, Tryz.ntmps46
 go_upto_region 1 with (fail)
 generalize (w.alloc (.cells #[.int .i64 k, .slice A ws.length c, .int .i64 n, .slice B xs.length d] 29)) = w1 at *
 generalize w.heap.size = g0 at *
 have HB := Lib.hid hb
 have x0 := hb.cell 0; have x1 := hb.cell 1; have x2 := hb.cell 2; have x3 := hb.cell 3; simp at x0 x1 x2 x3
 clear hb
 go_wp2_with fail
 refine (containsKp_calls w1 _ ks k (HV.out.pure HP.out)).mono ?_
 rintro e w2 ⟨rfl, hm2⟩
 obtain ⟨eb, heb⟩ : ∃ eb, (ks.any fun x => k == x) = eb := ⟨_, rfl⟩
 have HEB := Lib.hid heb
 rw [heb]
 have hb2 := HB.out.modp hm2
 have HP2 := Lib.hid (HP.out.trans hm2)
 clear x0 x1 x2 x3 hm2 HB HV heb
 have x0 := hb2.cell 0; have x1 := hb2.cell 1; have x2 := hb2.cell 2; have x3 := hb2.cell 3; simp at x0 x1 x2 x3
 clear hb2
 have hts := size_str tx
 have HRES : ∀ W, Hid (Pure w W → StrPost1 w (parQ (ks.any fun x => k == x) tx) (.returned (.string ⟨(parQ eb tx).toArray⟩)) W) := fun W => Lib.hid (fun h => ⟨by rw [HEB.out], h⟩)
 have HCC := Lib.hid (HC.out w2 HP2.out)
 clear HC HEB
 cases eb with
 | false =>
  go_wp2_with fail
  refine HCC.out.mono ?_
  rintro e w3 ⟨rfl, hm3⟩
  have HP3 := Lib.hid (HP2.out.trans hm3)
  clear hm3 HCC
  go_wp2_with fail
  go_ret
  exact (HRES _).out HP3.out
 | true =>
  go_wp2_with fail
  refine HCC.out.mono ?_
  rintro e w3 ⟨rfl, hm3⟩
  have HP3 := Lib.hid (HP2.out.trans hm3)
  have hpt : parQ true tx = [40] ++ tx ++ [41] := rfl
  have HPT : ∀ W, Hid (Pure w W → StrPost1 w (parQ (ks.any fun x => k == x) tx) (.returned (.string ((⟨#[40]⟩ : ByteArray) ++ ⟨tx.toArray⟩ ++ ⟨#[41]⟩))) W) := fun W => Lib.hid (fun h => by
   have := (HRES W).out h
   rw [hpt, ← bytes_app, ← bytes_app] at this
   exact this)
  clear hm3 HCC HRES hpt
  go_wp2_with fail
  go_ret
  exact (HPT _).out HP3.out

end Go.Proofs.YtnfflgicngeekaaGreatDoor

/- The reference's text of a search: the program. -/
namespace Go.Proofs.YtnfflgicngeekaaGreatDoor
set_option linter.unusedVariables false
set_option linter.unusedSimpArgs false
open Go.RowKit

/-- The numbers of kinds are right. -/
inductive QlR : Qry → Prop
 | mk {k n : Int} {ws : List Str} {xs : List Qry} (h1 : k = 10 → 1 ≤ n ∧ n ≤ 4) (hs : ∀ a ∈ xs, QlR a) : QlR (.mk k ws n xs)
section
variable {k n : Int} {ws : List Str} {xs : List Qry}
theorem QlR.nH (h : QlR (.mk k ws n xs)) : k = 10 → 1 ≤ n ∧ n ≤ 4 := by cases h; assumption
theorem QlR.allH (h : QlR (.mk k ws n xs)) : ∀ a ∈ xs, QlR a := by cases h; assumption
end
theorem qlR_of : ∀ (q : Qry) (M : Nat) (must : Bool), fltQ M must q = 0 → QlR q := by
 refine Qry.ind (fun k ws n xs ih M must h => ?_)
 obtain ⟨h1, h2⟩ := flt_parts h
 refine .mk (fun hk => ?_) (fun a ha => ih a ha M _ (h2 a ha))
 unfold headE at h1
 by_cases c1 : ¬ (1 ≤ k ∧ k ≤ 13)
 ·rw [if_pos c1] at h1; cases h1
 rw [if_neg c1] at h1
 by_cases c2 : must = true ∧ byWK k = false
 ·rw [if_pos c2] at h1; cases h1
 rw [if_neg c2] at h1
 by_cases c3 : formB M k ws.length n xs.length = false
 ·rw [if_pos c3] at h1; cases h1
 rw [if_neg c3] at h1
 by_cases c4 : ws.any (wordBad k) = true
 ·rw [if_pos c4] at h1; cases h1
 rw [if_neg c4] at h1
 subst hk
 unfold numE at h1
 by_cases c5 : 1 ≤ n ∧ n ≤ 4
 ·exact c5
 ·rw [if_neg (by rintro (⟨h, _⟩ | ⟨h, _⟩); exact absurd h (by decide); omega), if_pos ⟨rfl, c5⟩] at h1
  cases h1
theorem blkInts {w : World} {g n : Nat} {t : TypeId} {xs : List Value} (h : Blk w g t xs.toArray) (hn : xs.length = n) (hl : n ≤ 9223372036854775807) : Sl w t 1 (.slice (some ⟨g, 0, none⟩) n n) xs :=
 ⟨_, _, _, rfl, Nat.le_refl _, hl, by omega, fun _ => ⟨g, 0, rfl, h.row0⟩⟩
/-- A new row of numbers. -/
theorem intsNew (w : World) (ks : List Int) (h : ks.length ≤ 100) : Sl (w.alloc (.cells (ints ks).toArray 3)) 3 1 (.slice (some ⟨w.heap.size, 0, none⟩) ks.length ks.length) (ints ks) :=
 blkInts (Blk.new _ _ _) (intsP_len ks) (by omega)
theorem prA_get {k : Int} {xs : List QR} {j : Nat} {c : QR} (h : j < xs.length) (hq : xs[j] = c) : (prL k 0 (prA (xs.map QR.key))).getD j [] = parQ (encQ k j c.key.kind) (prQ c.key) := by
 have hj : j < (prA (xs.map QR.key)).length := by simp [prA, h]
 have h1 := prL_get k 0 (prA (xs.map QR.key)) j hj
 have hl : j < (prL k 0 (prA (xs.map QR.key))).length := by rw [prL_len]; exact hj
 rw [List.getD_eq_getElem?_getD, List.getElem?_eq_getElem hl, Option.getD_some, h1]
 subst hq
 simp [prA]
theorem enc_8 (i : Nat) (k' : Int) : encQ 8 i k' = [6, 7].any fun x => k' == x := by
 unfold encQ
 rw [if_neg (show ¬ nearK 8 = true by decide), if_pos (.inr rfl)]
 simp only [List.any_cons, List.any_nil, Bool.or_false, Bool.decide_or]
 rfl
theorem enc_n0 {k : Int} (hk : nearK k = true) (k' : Int) : encQ k 0 k' = [7].any fun x => k' == x := by
 unfold encQ
 rw [if_pos hk]
 simp only [List.any_cons, List.any_nil, Bool.or_false]
 rw [show decide ((0 : Nat) = 1) = false from rfl, Bool.false_and, Bool.or_false]
 rfl
theorem enc_n1 {k : Int} (hk : nearK k = true) (k' : Int) : encQ k 1 k' = [7, 4, 5].any fun x => k' == x := by
 unfold encQ nearK
 rw [if_pos (by unfold nearK at hk; exact hk)]
 simp only [List.any_cons, List.any_nil, Bool.or_false]
 simp only [decide_true, Bool.true_and]
 rfl
theorem enc_6 (i : Nat) (k' : Int) : encQ 6 i k' = [6, 7].any fun x => k' == x := by
 unfold encQ
 rw [if_neg (show ¬ nearK 6 = true by decide), if_pos (.inl rfl)]
 simp only [List.any_cons, List.any_nil, Bool.or_false, Bool.decide_or]
 rfl
theorem enc_7 (i : Nat) (k' : Int) : encQ 7 i k' = [7].any fun x => k' == x := by
 unfold encQ
 rw [if_neg (show ¬ nearK 7 = true by decide), if_neg (by decide)]
 simp only [List.any_cons, List.any_nil, Bool.or_false]
 rfl
theorem qlR_check {q : Qry} (h : checkQ q = 0) : QlR q := by
 unfold checkQ at h
 by_cases hf : qFit q 0 0 0 = true
 ·rw [if_pos hf] at h
  exact qlR_of q _ _ h
 ·rw [if_neg hf] at h
  cases h
set_option maxRecDepth 100000 in
set_option maxHeartbeats 16000000 in
theorem line_calls : ∀ (qr : QR) (w : World), Pow w → QS w qr → PrR qr.key → QlR qr.key → QB 200 qr.key → qSize qr.key ≤ 1000 → Calls Tryz.prog 11 #[qA qr] w (StrPost1 w (prQ qr.key)) := by
 refine QR.ind (fun k A c ws n B d xs ih => ?_)
 intro w hW hQ hR hL hB hz
 rw [QR.key_mk] at hR hB hz hL ⊢
 rw [qSize] at hz
 have HIH := Lib.hid ih
 have HQ := Lib.hid hQ
 have HR := Lib.hid hR
 have HQL := Lib.hid hL
 have HBD := Lib.hid hB
 have HW := Lib.hid hW
 have hwl := hB.wsH.1
 have hxl : xs.length ≤ 200 := by simpa using hB.xsH
 have hB0 := Blk.new w 29 #[.int .i64 k, .slice A ws.length c, .int .i64 n, .slice B xs.length d]
 have HP1 := Lib.hid (pure_alloc w (.cells #[.int .i64 k, .slice A ws.length c, .int .i64 n, .slice B xs.length d] 29))
 have hbn := hR.bH
 have HPL : Hid ((prQ (.mk k ws n (xs.map QR.key))).length ≤ 45000000) := Lib.hid (by
  have h := prQ_len2 (.mk k ws n (xs.map QR.key)) hB
  rw [qSize] at h
  omega)
 have HRES : Hid (prQ (.mk k ws n (xs.map QR.key)) = txtQ k n ws (prL k 0 (prA (xs.map QR.key)))) := Lib.hid (by rw [prQ]; rfl)
 have HIT := Lib.hid (fun W h => itoaW_calls W n (by omega) (by omega) (hW.pure (w' := W) h))
 have hit21 := itoa_21 n (by omega) (by omega)
 rw [qA_mk]
 clear hQ hR hB ih hW hL
 go_enter Tryz.func11, Tryz.ntmps11
 go_upto_region 1 with (fail)
 generalize (w.alloc (.cells #[.int .i64 k, .slice A ws.length c, .int .i64 n, .slice B xs.length d] 29)) = w1 at *
 generalize hg0 : w.heap.size = g0 at *
 have hwg : w.heap.size ≤ g0 := Nat.le_of_eq hg0
 clear hg0
 have HB0 := Lib.hid hB0
 have hgl := hB0.lt
 have x0 := hB0.cell 0; have x1 := hB0.cell 1; have x2 := hB0.cell 2; have x3 := hB0.cell 3; simp at x0 x1 x2 x3
 clear hB0
 go_wp2_with fail
 refine (HIT.out _ HP1.out).mono ?_
 rintro e w5 ⟨rfl, hm5⟩
 have HP5 := Lib.hid (HP1.out.trans hm5)
 have HWS5 := Lib.hid (HQ.out.wsH.pure HP5.out)
 have HB5 := Lib.hid (HB0.out.modp hm5)
 have hb5 := HB5.out
 clear hm5 HIT HP1 HB0 x0 x1 x2 x3
 have u0 := hb5.cell 0; have u1 := hb5.cell 1; have u2 := hb5.cell 2; have u3 := hb5.cell 3; simp at u0 u1 u2 u3
 clear hb5
 obtain ⟨L, hL⟩ : ∃ L, prL k 0 (prA (xs.map QR.key)) = L := ⟨_, rfl⟩
 rw [hL] at HRES
 generalize prQ (.mk k ws n (xs.map QR.key)) = RR at *
 have HLL := Lib.hid hL
 clear hL
 by_cases k1 : k = 1
 ·subst k1
  have HTX : Hid (txtQ 1 n ws L = [97, 108, 108]) := Lib.hid rfl
  go_wp2_with fail
  go_ret
  exact ⟨by rw [HRES.out, HTX.out]; rfl, HP5.out⟩
 have k1i : (k == 1) = false := by simpa using k1
 by_cases k2 : k = 2
 ·subst k2
  have hw0 : 0 < ws.length := by have := HR.out.wH (by omega); omega
  obtain ⟨g, off, rfl, hr⟩ := (HWS5.out).rowS hw0
  have q0 := hr.cell (strsV_get ws 0 hw0)
  have hwi : (0 : Int) < (ws.length : Int) := by omega
  have HTX : Hid (txtQ 2 n ws L = ws[0]) := Lib.hid (by show ws.getD 0 [] = _; simp [List.getD, hw0])
  have hsl := size_str ws[0]
  have hsm := HBD.out.wsH.2 ws[0] (List.getElem_mem hw0)
  simp only [Nat.add_zero] at q0
  clear hr HWS5 HR HBD HQ HIH HQL
  generalize ws[0] = s0 at *
  go_wp2_with fail
  go_ret
  exact ⟨by rw [HRES.out, HTX.out]; rfl, HP5.out⟩
 have k2i : (k == 2) = false := by simpa using k2
 by_cases k3 : k = 3
 ·subst k3
  have HTX : Hid (txtQ 3 n ws L = [34] ++ Lib.join ws [32] ++ [34]) := Lib.hid rfl
  have hjl := join_le ws [32]
  have hsw := sum_wd HBD.out.wsH.2
  have hws2 := HBD.out.wsH.1
  have hj2 : (Lib.join ws [32]).length ≤ 100000000 := by simp only [List.length_cons, List.length_nil] at hjl; omega
  have HJ := Lib.hid (join_calls w5 _ ws [32] HWS5.out (by omega) hj2)
  clear hjl hsw HWS5 HR HBD HQ HIH HQL
  generalize Lib.join ws [32] = jj at *
  have hsj := size_str jj
  go_wp2_with fail
  refine HJ.out.mono ?_
  rintro e w6 ⟨rfl, hm6⟩
  have HP6 := Lib.hid (HP5.out.trans hm6)
  clear hm6 HJ
  go_wp2_with fail
  go_ret
  exact ⟨by rw [HRES.out, HTX.out, ← bytes_app, ← bytes_app]; rfl, HP6.out⟩
 have k3i : (k == 3) = false := by simpa using k3
 by_cases k4 : k = 4
 ·subst k4
  have hx2 : 2 ≤ xs.length := by
   have h := HR.out.aH (by omega)
   rwa [List.length_map] at h
  have h0 : 0 < xs.length := by omega
  have h1 : 1 < xs.length := by omega
  have hi0 : (0 : Int) < (xs.length : Int) := by omega
  have hi1 : (1 : Int) < (xs.length : Int) := by omega
  obtain ⟨k', A', c', ws', n2, B', d', xs', hq⟩ := QR.ex xs[0]
  obtain ⟨k2', A2, c2, ws2, n22, B2, d2, xs2, hq2⟩ := QR.ex xs[1]
  have hX := HQ.out.xsH.pure HP5.out
  obtain ⟨g, off, hBe, q0, q1, q2, q3⟩ := qcells hX h0 hq
  obtain ⟨g', off', hBe', p0, p1, p2, p3⟩ := qcells hX h1 hq2
  subst hBe
  cases hBe'
  simp only [Nat.zero_mul, Nat.add_zero, Nat.one_mul] at q0 q1 q2 q3 p0 p1 p2 p3
  have hmem1 : (QR.mk k' A' c' ws' n2 B' d' xs') ∈ xs := by rw [← hq]; exact List.getElem_mem h0
  have hmk1 : (QR.mk k' A' c' ws' n2 B' d' xs').key ∈ xs.map QR.key := List.mem_map.2 ⟨_, hmem1, rfl⟩
  have hpl1 := prQ_len2 _ (HBD.out.allH _ hmk1)
  have hms1 := mem_sum hmk1
  have hpb1 : (prQ (QR.mk k' A' c' ws' n2 B' d' xs').key).length ≤ 45000000 := by omega
  have HC1 := Lib.hid (fun W v (h : Pure w5 W) (hv : Sl W 3 1 v (ints [7])) => innerQ_calls W k' n2 A' B' c' d' ws' xs' v [7] (prQ (QR.mk k' A' c' ws' n2 B' d' xs').key) hv hpb1 (fun W' h' => HIH.out _ hmem1 W' (HW.out.pure ((HP5.out.trans h).trans h')) ((HQ.out.allH _ hmem1).pure ((HP5.out.trans h).trans h')) (HR.out.allH _ hmk1) (HQL.out.allH _ hmk1) (HBD.out.allH _ hmk1) (by omega)))
  rw [qA_mk] at HC1
  have hmem2 : (QR.mk k2' A2 c2 ws2 n22 B2 d2 xs2) ∈ xs := by rw [← hq2]; exact List.getElem_mem h1
  have hmk2 : (QR.mk k2' A2 c2 ws2 n22 B2 d2 xs2).key ∈ xs.map QR.key := List.mem_map.2 ⟨_, hmem2, rfl⟩
  have hpl2 := prQ_len2 _ (HBD.out.allH _ hmk2)
  have hms2 := mem_sum hmk2
  have hpb2 : (prQ (QR.mk k2' A2 c2 ws2 n22 B2 d2 xs2).key).length ≤ 45000000 := by omega
  have HC2 := Lib.hid (fun W v (h : Pure w5 W) (hv : Sl W 3 1 v (ints [7, 4, 5])) => innerQ_calls W k2' n22 A2 B2 c2 d2 ws2 xs2 v [7, 4, 5] (prQ (QR.mk k2' A2 c2 ws2 n22 B2 d2 xs2).key) hv hpb2 (fun W' h' => HIH.out _ hmem2 W' (HW.out.pure ((HP5.out.trans h).trans h')) ((HQ.out.allH _ hmem2).pure ((HP5.out.trans h).trans h')) (HR.out.allH _ hmk2) (HQL.out.allH _ hmk2) (HBD.out.allH _ hmk2) (by omega)))
  rw [qA_mk] at HC2
  have HTX : Hid (txtQ 4 n ws L = parQ ([7].any fun x => k' == x) (prQ (QR.mk k' A' c' ws' n2 B' d' xs').key) ++ ([32, 119, 47] : Str) ++ Lib.itoa n ++ ([32] : Str) ++ parQ ([7, 4, 5].any fun x => k2' == x) (prQ (QR.mk k2' A2 c2 ws2 n22 B2 d2 xs2).key)) := Lib.hid (by
   show L.getD 0 [] ++ ([32, 119, 47] : Str) ++ Lib.itoa n ++ ([32] : Str) ++ L.getD 1 [] = _
   rw [← HLL.out, prA_get h0 hq, prA_get h1 hq2, enc_n0 rfl, enc_n1 rfl, show (QR.mk k' A' c' ws' n2 B' d' xs').key.kind = k' by rw [QR.key_mk]; rfl, show (QR.mk k2' A2 c2 ws2 n22 B2 d2 xs2).key.kind = k2' by rw [QR.key_mk]; rfl])
  have hpl3 := HPL.out
  rw [HRES.out, HTX.out] at hpl3
  simp only [List.length_append, List.length_cons, List.length_nil] at hpl3
  clear hX hq hq2 HWS5 HR HBD HQ HIH HQL
  generalize parQ ([7].any fun x => k' == x) (prQ (QR.mk k' A' c' ws' n2 B' d' xs').key) = t1 at *
  generalize parQ ([7, 4, 5].any fun x => k2' == x) (prQ (QR.mk k2' A2 c2 ws2 n22 B2 d2 xs2).key) = t2 at *
  generalize Lib.itoa n = sn at *
  have hz1 := size_str t1
  have hz2 := size_str t2
  have hz3 := size_str sn
  have hn1 : ¬ 9223372036854775807 < t1.length + 3 := by omega
  have hn2 : ¬ 9223372036854775807 < t1.length + 3 + sn.length := by omega
  have hn3 : ¬ 9223372036854775807 < t1.length + 3 + sn.length + 1 := by omega
  have hn4 : ¬ 9223372036854775807 < t1.length + 3 + sn.length + 1 + t2.length := by omega
  go_upto_region 15 with (fail)
  have HGs := Lib.hid (show ∀ (D : Nat → Bool) (zzi : Nat) (zq zq' : World), (fun _ zq => (fun Z => Pure w5 Z) zq) D zq → Mod (fun _ => False) zq zq' → (fun _ zq => (fun Z => Pure w5 Z) zq) (upd D zzi true) zq' from by intro D zzi zq zq' h hm; (exact h.trans hm))
  refine wp_region_inv (by kernel_rfl) (by kernel_rfl) (InvF (R := Mod (fun _ => False)) [.is (.func (.func 46) #[] #[]),
    .is (.pointer (some ⟨g0, 3, none⟩)),
    .is (.slice (some ⟨g, off, none⟩) xs.length d),
    .is (.pointer (some ⟨g, off, none⟩)),
    .is (.agg #[.int .i64 k', .slice A' ws'.length c', .int .i64 n2, .slice B' xs'.length d']),
    ⟨fun zv zw => ∃ (g_5 : Nat), zv = .slice (some ⟨g_5, 0, none⟩) 1 1 ∧ w5.heap.size ≤ g_5 ∧ Blk zw g_5 3 #[(.int .i64 7)], (by rintro zv zw zx ⟨g_5, rfl, c0, q0⟩ hm; exact ⟨g_5, rfl, c0, (q0.modp hm)⟩), none, some 6⟩,
    .is (.string ⟨t1.toArray⟩),
    .is (.string ⟨#[32, 119, 47]⟩),
    .is (.string ((⟨t1.toArray⟩ : ByteArray) ++ (⟨#[32, 119, 47]⟩ : ByteArray))),
    .is (.string ⟨sn.toArray⟩),
    .is (.string ((⟨t1.toArray⟩ : ByteArray) ++ (⟨#[32, 119, 47]⟩ : ByteArray) ++ (⟨sn.toArray⟩ : ByteArray))),
    .is (.string ((⟨t1.toArray⟩ : ByteArray) ++ (⟨#[32, 119, 47]⟩ : ByteArray) ++ (⟨sn.toArray⟩ : ByteArray) ++ (⟨#[32]⟩ : ByteArray))),
    .is (.func (.func 46) #[] #[]),
    .is (.pointer (some ⟨g0, 3, none⟩)),
    .is (.slice (some ⟨g, off, none⟩) xs.length d),
    .is (.pointer (some ⟨g, off + 4, none⟩)),
    .is (.agg #[.int .i64 k2', .slice A2 ws2.length c2, .int .i64 n22, .slice B2 xs2.length d2]),
    ⟨fun zv zw => ∃ (g_17 : Nat), zv = .slice (some ⟨g_17, 0, none⟩) 3 3 ∧ w5.heap.size ≤ g_17 ∧ Blk zw g_17 3 #[(.int .i64 7), (.int .i64 4), (.int .i64 5)], (by rintro zv zw zx ⟨g_17, rfl, c0, q0⟩ hm; exact ⟨g_17, rfl, c0, (q0.modp hm)⟩), none, some 18⟩,
    .is (.string ⟨t2.toArray⟩),
    .is (.string ((⟨t1.toArray⟩ : ByteArray) ++ (⟨#[32, 119, 47]⟩ : ByteArray) ++ (⟨sn.toArray⟩ : ByteArray) ++ (⟨#[32]⟩ : ByteArray) ++ (⟨t2.toArray⟩ : ByteArray))),
    .is (.string ((⟨t1.toArray⟩ : ByteArray) ++ (⟨#[32, 119, 47]⟩ : ByteArray) ++ (⟨sn.toArray⟩ : ByteArray) ++ (⟨#[32]⟩ : ByteArray) ++ (⟨t2.toArray⟩ : ByteArray)))]
    (PB w5 (fun _ => False) w5.heap.size (fun _ zq => (fun Z => Pure w5 Z) zq))) (InvF.start (PB.start (Mod.refl _ _) (Nat.le_refl _) (((Mod.refl _ _).drewN 1)))) ?_ ?_
  ·refine .cons ?_ (.cons ?_ (.cons ?_ (.cons ?_ (.cons ?_ (.cons ?_ (.cons ?_ (.cons ?_ (.cons ?_ (.cons ?_ (.cons ?_ (.cons ?_ (.cons ?_ (.cons ?_ (.cons ?_ (.cons ?_ (.cons ?_ (.cons ?_ (.cons ?_ (.cons ?_ (.cons ?_ .nil))))))))))))))))))))
   ·intro D V zw1 a hR hI K hK
    obtain ⟨hM1, hB1, hG1⟩ := hI.1
    have ze3 := hR.frame.other (t := 3) (by kernel_rfl) rfl
    rw [if_pos (by rfl)]
    go_simp
    exact hK (.func (.func 46) #[] #[]) _ (hI.next hR (by kernel_rfl) (Mod.refl _ _) (PB.quiet hI.1 (Mod.refl _ _) (HGs.out D 0 zw1 zw1 (hI.1).g (Mod.refl _ _))) (upd_same V 0 _))
   ·intro D V zw1 a hR hI K hK
    obtain ⟨hM1, hB1, hG1⟩ := hI.1
    have ze1 := hR.frame.other (t := 1) (by kernel_rfl) rfl
    rw [if_pos (by rfl)]
    go_simp
    exact hK (.pointer (some ⟨g0, 3, none⟩)) _ (hI.next hR (by kernel_rfl) (Mod.refl _ _) (PB.quiet hI.1 (Mod.refl _ _) (HGs.out D 1 zw1 zw1 (hI.1).g (Mod.refl _ _))) (upd_same V 1 _))
   ·intro D V zw1 a hR hI K hK
    obtain ⟨hM1, hB1, hG1⟩ := hI.1
    have zd1 := hR.pred 1 (by kernel_rfl)
    have zF1 : V 1 = .pointer (some ⟨g0, 3, none⟩) := hI.2 1 zd1 rfl
    have zf1 := zF1; clear zF1
    have ze38 := hR.frame.done (t := 38) (j := 1) (by kernel_rfl) hR.ok zd1
    have zx := keepp u3 hG1
    rw [if_pos (by rfl)]
    go_simp
    exact hK (.slice (some ⟨g, off, none⟩) xs.length d) _ (hI.next hR (by kernel_rfl) (Mod.refl _ _) (PB.quiet hI.1 (Mod.refl _ _) (HGs.out D 2 zw1 zw1 (hI.1).g (Mod.refl _ _))) (upd_same V 2 _))
   ·intro D V zw1 a hR hI K hK
    obtain ⟨hM1, hB1, hG1⟩ := hI.1
    have zd2 := hR.pred 2 (by kernel_rfl)
    have zF2 : V 2 = .slice (some ⟨g, off, none⟩) xs.length d := hI.2 2 zd2 rfl
    have zf2 := zF2; clear zF2
    have ze39 := hR.frame.done (t := 39) (j := 2) (by kernel_rfl) hR.ok zd2
    rw [if_pos (by rfl)]
    go_simp
    exact hK (.pointer (some ⟨g, off, none⟩)) _ (hI.next hR (by kernel_rfl) (Mod.refl _ _) (PB.quiet hI.1 (Mod.refl _ _) (HGs.out D 3 zw1 zw1 (hI.1).g (Mod.refl _ _))) (upd_same V 3 _))
   ·intro D V zw1 a hR hI K hK
    obtain ⟨hM1, hB1, hG1⟩ := hI.1
    have zd3 := hR.pred 3 (by kernel_rfl)
    have zF3 : V 3 = .pointer (some ⟨g, off, none⟩) := hI.2 3 zd3 rfl
    have zf3 := zF3; clear zF3
    have ze40 := hR.frame.done (t := 40) (j := 3) (by kernel_rfl) hR.ok zd3
    have zx0 := keepp q0 hG1
    have zx1 := keepp q1 hG1
    have zx2 := keepp q2 hG1
    have zx3 := keepp q3 hG1
    rw [if_pos (by rfl)]
    go_simp
    exact hK (.agg #[.int .i64 k', .slice A' ws'.length c', .int .i64 n2, .slice B' xs'.length d']) _ (hI.next hR (by kernel_rfl) (Mod.refl _ _) (PB.quiet hI.1 (Mod.refl _ _) (HGs.out D 4 zw1 zw1 (hI.1).g (Mod.refl _ _))) (upd_same V 4 _))
   ·intro D V zw1 a hR hI K hK
    obtain ⟨hM1, hB1, hG1⟩ := hI.1
    rw [if_pos (by rfl)]
    go_simp
    exact hK (_) _ (hI.next hR (by kernel_rfl) ((Mod.refl _ _).alloc _) (PB.quiet hI.1 (pure_alloc _ _) (HGs.out D 5 _ _ (hI.1).g ((Mod.refl _ _).alloc _))) (⟨_, upd_same V 5 _, (by omega), (Blk.new _ _ _)⟩))
   ·intro D V zw1 a hR hI K hK
    obtain ⟨hM1, hB1, hG1⟩ := hI.1
    have zd0 := hR.pred 0 (by kernel_rfl)
    have zF0 : V 0 = .func (.func 46) #[] #[] := hI.2 0 zd0 rfl
    have zf0 := zF0; clear zF0
    have zd4 := hR.pred 4 (by kernel_rfl)
    have zF4 : V 4 = .agg #[.int .i64 k', .slice A' ws'.length c', .int .i64 n2, .slice B' xs'.length d'] := hI.2 4 zd4 rfl
    have zf4 := zF4; clear zF4
    have zd5 := hR.pred 5 (by kernel_rfl)
    have zF5 : ∃ (g_5 : Nat), V 5 = .slice (some ⟨g_5, 0, none⟩) 1 1 ∧ w5.heap.size ≤ g_5 ∧ Blk zw1 g_5 3 #[(.int .i64 7)] := hI.2 5 zd5 (by show (!D 6) = true; rw [hR.not]; rfl)
    obtain ⟨g_5, zf5, c5_0, b5_0⟩ := zF5
    have ze37 := hR.frame.done (t := 37) (j := 0) (by kernel_rfl) hR.ok zd0
    have ze41 := hR.frame.done (t := 41) (j := 4) (by kernel_rfl) hR.ok zd4
    have ze42 := hR.frame.done (t := 42) (j := 5) (by kernel_rfl) hR.ok zd5
    rw [if_pos (by rfl)]
    go_simp
    refine (HC1.out zw1 _ hG1 (blkInts (xs := ints [7]) b5_0 rfl (by decide))).mono ?_
    rintro e zw2 ⟨rfl, hm2⟩
    exact hK (.string ⟨t1.toArray⟩) _ (hI.next hR (by kernel_rfl) hm2 (PB.quiet hI.1 hm2 (HGs.out D 6 _ _ (hI.1).g hm2)) (upd_same V 6 _))
   ·intro D V zw1 a hR hI K hK
    obtain ⟨hM1, hB1, hG1⟩ := hI.1
    have ze5 := hR.frame.other (t := 5) (by kernel_rfl) rfl
    rw [if_pos (by rfl)]
    go_simp
    exact hK (.string ⟨#[32, 119, 47]⟩) _ (hI.next hR (by kernel_rfl) (Mod.refl _ _) (PB.quiet hI.1 (Mod.refl _ _) (HGs.out D 7 zw1 zw1 (hI.1).g (Mod.refl _ _))) (upd_same V 7 _))
   ·intro D V zw1 a hR hI K hK
    obtain ⟨hM1, hB1, hG1⟩ := hI.1
    have zd6 := hR.pred 6 (by kernel_rfl)
    have zF6 : V 6 = .string ⟨t1.toArray⟩ := hI.2 6 zd6 rfl
    have zf6 := zF6; clear zF6
    have zd7 := hR.pred 7 (by kernel_rfl)
    have zF7 : V 7 = .string ⟨#[32, 119, 47]⟩ := hI.2 7 zd7 rfl
    have zf7 := zF7; clear zF7
    have ze43 := hR.frame.done (t := 43) (j := 6) (by kernel_rfl) hR.ok zd6
    have ze44 := hR.frame.done (t := 44) (j := 7) (by kernel_rfl) hR.ok zd7
    rw [if_pos (by rfl)]
    go_simp
    exact hK (.string ((⟨t1.toArray⟩ : ByteArray) ++ (⟨#[32, 119, 47]⟩ : ByteArray))) _ (hI.next hR (by kernel_rfl) (Mod.refl _ _) (PB.quiet hI.1 (Mod.refl _ _) (HGs.out D 8 zw1 zw1 (hI.1).g (Mod.refl _ _))) (upd_same V 8 _))
   ·intro D V zw1 a hR hI K hK
    obtain ⟨hM1, hB1, hG1⟩ := hI.1
    have ze4 := hR.frame.other (t := 4) (by kernel_rfl) rfl
    rw [if_pos (by rfl)]
    go_simp
    exact hK (.string ⟨sn.toArray⟩) _ (hI.next hR (by kernel_rfl) (Mod.refl _ _) (PB.quiet hI.1 (Mod.refl _ _) (HGs.out D 9 zw1 zw1 (hI.1).g (Mod.refl _ _))) (upd_same V 9 _))
   ·intro D V zw1 a hR hI K hK
    obtain ⟨hM1, hB1, hG1⟩ := hI.1
    have zd8 := hR.pred 8 (by kernel_rfl)
    have zF8 : V 8 = .string ((⟨t1.toArray⟩ : ByteArray) ++ (⟨#[32, 119, 47]⟩ : ByteArray)) := hI.2 8 zd8 rfl
    have zf8 := zF8; clear zF8
    have zd9 := hR.pred 9 (by kernel_rfl)
    have zF9 : V 9 = .string ⟨sn.toArray⟩ := hI.2 9 zd9 rfl
    have zf9 := zF9; clear zF9
    have ze45 := hR.frame.done (t := 45) (j := 8) (by kernel_rfl) hR.ok zd8
    have ze46 := hR.frame.done (t := 46) (j := 9) (by kernel_rfl) hR.ok zd9
    rw [if_pos (by rfl)]
    go_simp
    exact hK (.string ((⟨t1.toArray⟩ : ByteArray) ++ (⟨#[32, 119, 47]⟩ : ByteArray) ++ (⟨sn.toArray⟩ : ByteArray))) _ (hI.next hR (by kernel_rfl) (Mod.refl _ _) (PB.quiet hI.1 (Mod.refl _ _) (HGs.out D 10 zw1 zw1 (hI.1).g (Mod.refl _ _))) (upd_same V 10 _))
   ·intro D V zw1 a hR hI K hK
    obtain ⟨hM1, hB1, hG1⟩ := hI.1
    have zd10 := hR.pred 10 (by kernel_rfl)
    have zF10 : V 10 = .string ((⟨t1.toArray⟩ : ByteArray) ++ (⟨#[32, 119, 47]⟩ : ByteArray) ++ (⟨sn.toArray⟩ : ByteArray)) := hI.2 10 zd10 rfl
    have zf10 := zF10; clear zF10
    have ze47 := hR.frame.done (t := 47) (j := 10) (by kernel_rfl) hR.ok zd10
    rw [if_pos (by rfl)]
    go_simp
    exact hK (.string ((⟨t1.toArray⟩ : ByteArray) ++ (⟨#[32, 119, 47]⟩ : ByteArray) ++ (⟨sn.toArray⟩ : ByteArray) ++ (⟨#[32]⟩ : ByteArray))) _ (hI.next hR (by kernel_rfl) (Mod.refl _ _) (PB.quiet hI.1 (Mod.refl _ _) (HGs.out D 11 zw1 zw1 (hI.1).g (Mod.refl _ _))) (upd_same V 11 _))
   ·intro D V zw1 a hR hI K hK
    obtain ⟨hM1, hB1, hG1⟩ := hI.1
    have ze3 := hR.frame.other (t := 3) (by kernel_rfl) rfl
    rw [if_pos (by rfl)]
    go_simp
    exact hK (.func (.func 46) #[] #[]) _ (hI.next hR (by kernel_rfl) (Mod.refl _ _) (PB.quiet hI.1 (Mod.refl _ _) (HGs.out D 12 zw1 zw1 (hI.1).g (Mod.refl _ _))) (upd_same V 12 _))
   ·intro D V zw1 a hR hI K hK
    obtain ⟨hM1, hB1, hG1⟩ := hI.1
    have ze1 := hR.frame.other (t := 1) (by kernel_rfl) rfl
    rw [if_pos (by rfl)]
    go_simp
    exact hK (.pointer (some ⟨g0, 3, none⟩)) _ (hI.next hR (by kernel_rfl) (Mod.refl _ _) (PB.quiet hI.1 (Mod.refl _ _) (HGs.out D 13 zw1 zw1 (hI.1).g (Mod.refl _ _))) (upd_same V 13 _))
   ·intro D V zw1 a hR hI K hK
    obtain ⟨hM1, hB1, hG1⟩ := hI.1
    have zd13 := hR.pred 13 (by kernel_rfl)
    have zF13 : V 13 = .pointer (some ⟨g0, 3, none⟩) := hI.2 13 zd13 rfl
    have zf13 := zF13; clear zF13
    have ze50 := hR.frame.done (t := 50) (j := 13) (by kernel_rfl) hR.ok zd13
    have zx := keepp u3 hG1
    rw [if_pos (by rfl)]
    go_simp
    exact hK (.slice (some ⟨g, off, none⟩) xs.length d) _ (hI.next hR (by kernel_rfl) (Mod.refl _ _) (PB.quiet hI.1 (Mod.refl _ _) (HGs.out D 14 zw1 zw1 (hI.1).g (Mod.refl _ _))) (upd_same V 14 _))
   ·intro D V zw1 a hR hI K hK
    obtain ⟨hM1, hB1, hG1⟩ := hI.1
    have zd14 := hR.pred 14 (by kernel_rfl)
    have zF14 : V 14 = .slice (some ⟨g, off, none⟩) xs.length d := hI.2 14 zd14 rfl
    have zf14 := zF14; clear zF14
    have ze51 := hR.frame.done (t := 51) (j := 14) (by kernel_rfl) hR.ok zd14
    rw [if_pos (by rfl)]
    go_simp
    exact hK (.pointer (some ⟨g, off + 4, none⟩)) _ (hI.next hR (by kernel_rfl) (Mod.refl _ _) (PB.quiet hI.1 (Mod.refl _ _) (HGs.out D 15 zw1 zw1 (hI.1).g (Mod.refl _ _))) (upd_same V 15 _))
   ·intro D V zw1 a hR hI K hK
    obtain ⟨hM1, hB1, hG1⟩ := hI.1
    have zd15 := hR.pred 15 (by kernel_rfl)
    have zF15 : V 15 = .pointer (some ⟨g, off + 4, none⟩) := hI.2 15 zd15 rfl
    have zf15 := zF15; clear zF15
    have ze52 := hR.frame.done (t := 52) (j := 15) (by kernel_rfl) hR.ok zd15
    have zx0 := keepp p0 hG1
    have zx1 := keepp p1 hG1
    have zx2 := keepp p2 hG1
    have zx3 := keepp p3 hG1
    rw [if_pos (by rfl)]
    go_simp
    exact hK (.agg #[.int .i64 k2', .slice A2 ws2.length c2, .int .i64 n22, .slice B2 xs2.length d2]) _ (hI.next hR (by kernel_rfl) (Mod.refl _ _) (PB.quiet hI.1 (Mod.refl _ _) (HGs.out D 16 zw1 zw1 (hI.1).g (Mod.refl _ _))) (upd_same V 16 _))
   ·intro D V zw1 a hR hI K hK
    obtain ⟨hM1, hB1, hG1⟩ := hI.1
    rw [if_pos (by rfl)]
    go_simp
    exact hK (_) _ (hI.next hR (by kernel_rfl) ((Mod.refl _ _).alloc _) (PB.quiet hI.1 (pure_alloc _ _) (HGs.out D 17 _ _ (hI.1).g ((Mod.refl _ _).alloc _))) (⟨_, upd_same V 17 _, (by omega), (Blk.new _ _ _)⟩))
   ·intro D V zw1 a hR hI K hK
    obtain ⟨hM1, hB1, hG1⟩ := hI.1
    have zd12 := hR.pred 12 (by kernel_rfl)
    have zF12 : V 12 = .func (.func 46) #[] #[] := hI.2 12 zd12 rfl
    have zf12 := zF12; clear zF12
    have zd16 := hR.pred 16 (by kernel_rfl)
    have zF16 : V 16 = .agg #[.int .i64 k2', .slice A2 ws2.length c2, .int .i64 n22, .slice B2 xs2.length d2] := hI.2 16 zd16 rfl
    have zf16 := zF16; clear zF16
    have zd17 := hR.pred 17 (by kernel_rfl)
    have zF17 : ∃ (g_17 : Nat), V 17 = .slice (some ⟨g_17, 0, none⟩) 3 3 ∧ w5.heap.size ≤ g_17 ∧ Blk zw1 g_17 3 #[(.int .i64 7), (.int .i64 4), (.int .i64 5)] := hI.2 17 zd17 (by show (!D 18) = true; rw [hR.not]; rfl)
    obtain ⟨g_17, zf17, c17_0, b17_0⟩ := zF17
    have ze49 := hR.frame.done (t := 49) (j := 12) (by kernel_rfl) hR.ok zd12
    have ze53 := hR.frame.done (t := 53) (j := 16) (by kernel_rfl) hR.ok zd16
    have ze54 := hR.frame.done (t := 54) (j := 17) (by kernel_rfl) hR.ok zd17
    rw [if_pos (by rfl)]
    go_simp
    refine (HC2.out zw1 _ hG1 (blkInts (xs := ints [7, 4, 5]) b17_0 rfl (by decide))).mono ?_
    rintro e zw2 ⟨rfl, hm2⟩
    exact hK (.string ⟨t2.toArray⟩) _ (hI.next hR (by kernel_rfl) hm2 (PB.quiet hI.1 hm2 (HGs.out D 18 _ _ (hI.1).g hm2)) (upd_same V 18 _))
   ·intro D V zw1 a hR hI K hK
    obtain ⟨hM1, hB1, hG1⟩ := hI.1
    have zd11 := hR.pred 11 (by kernel_rfl)
    have zF11 : V 11 = .string ((⟨t1.toArray⟩ : ByteArray) ++ (⟨#[32, 119, 47]⟩ : ByteArray) ++ (⟨sn.toArray⟩ : ByteArray) ++ (⟨#[32]⟩ : ByteArray)) := hI.2 11 zd11 rfl
    have zf11 := zF11; clear zF11
    have zd18 := hR.pred 18 (by kernel_rfl)
    have zF18 : V 18 = .string ⟨t2.toArray⟩ := hI.2 18 zd18 rfl
    have zf18 := zF18; clear zF18
    have ze48 := hR.frame.done (t := 48) (j := 11) (by kernel_rfl) hR.ok zd11
    have ze55 := hR.frame.done (t := 55) (j := 18) (by kernel_rfl) hR.ok zd18
    rw [if_pos (by rfl)]
    go_simp
    exact hK (.string ((⟨t1.toArray⟩ : ByteArray) ++ (⟨#[32, 119, 47]⟩ : ByteArray) ++ (⟨sn.toArray⟩ : ByteArray) ++ (⟨#[32]⟩ : ByteArray) ++ (⟨t2.toArray⟩ : ByteArray))) _ (hI.next hR (by kernel_rfl) (Mod.refl _ _) (PB.quiet hI.1 (Mod.refl _ _) (HGs.out D 19 zw1 zw1 (hI.1).g (Mod.refl _ _))) (upd_same V 19 _))
   ·intro D V zw1 a hR hI K hK
    obtain ⟨hM1, hB1, hG1⟩ := hI.1
    have zd19 := hR.pred 19 (by kernel_rfl)
    have zF19 : V 19 = .string ((⟨t1.toArray⟩ : ByteArray) ++ (⟨#[32, 119, 47]⟩ : ByteArray) ++ (⟨sn.toArray⟩ : ByteArray) ++ (⟨#[32]⟩ : ByteArray) ++ (⟨t2.toArray⟩ : ByteArray)) := hI.2 19 zd19 rfl
    have zf19 := zF19; clear zF19
    have ze56 := hR.frame.done (t := 56) (j := 19) (by kernel_rfl) hR.ok zd19
    rw [if_pos (by rfl)]
    go_simp
    exact hK (.string ((⟨t1.toArray⟩ : ByteArray) ++ (⟨#[32, 119, 47]⟩ : ByteArray) ++ (⟨sn.toArray⟩ : ByteArray) ++ (⟨#[32]⟩ : ByteArray) ++ (⟨t2.toArray⟩ : ByteArray))) _ (hI.next hR (by kernel_rfl) (Mod.refl _ _) (PB.quiet hI.1 (Mod.refl _ _) (HGs.out D 20 zw1 zw1 (hI.1).g (Mod.refl _ _))) (upd_same V 20 _))
  ·intro D V w6 hD hI
   obtain ⟨hM1, hB1, hG1⟩ := hI.1
   have hMx := hM1
   clear hM1
   have hBx := hB1
   clear hB1
   have hGx := hG1
   clear hG1
   have zF0 : V 0 = .func (.func 46) #[] #[] := hI.2 0 (hD 0 (by decide)) rfl
   have zf0 := zF0; clear zF0
   have zF1 : V 1 = .pointer (some ⟨g0, 3, none⟩) := hI.2 1 (hD 1 (by decide)) rfl
   have zf1 := zF1; clear zF1
   have zF2 : V 2 = .slice (some ⟨g, off, none⟩) xs.length d := hI.2 2 (hD 2 (by decide)) rfl
   have zf2 := zF2; clear zF2
   have zF3 : V 3 = .pointer (some ⟨g, off, none⟩) := hI.2 3 (hD 3 (by decide)) rfl
   have zf3 := zF3; clear zF3
   have zF4 : V 4 = .agg #[.int .i64 k', .slice A' ws'.length c', .int .i64 n2, .slice B' xs'.length d'] := hI.2 4 (hD 4 (by decide)) rfl
   have zf4 := zF4; clear zF4
   have zF6 : V 6 = .string ⟨t1.toArray⟩ := hI.2 6 (hD 6 (by decide)) rfl
   have zf6 := zF6; clear zF6
   have zF7 : V 7 = .string ⟨#[32, 119, 47]⟩ := hI.2 7 (hD 7 (by decide)) rfl
   have zf7 := zF7; clear zF7
   have zF8 : V 8 = .string ((⟨t1.toArray⟩ : ByteArray) ++ (⟨#[32, 119, 47]⟩ : ByteArray)) := hI.2 8 (hD 8 (by decide)) rfl
   have zf8 := zF8; clear zF8
   have zF9 : V 9 = .string ⟨sn.toArray⟩ := hI.2 9 (hD 9 (by decide)) rfl
   have zf9 := zF9; clear zF9
   have zF10 : V 10 = .string ((⟨t1.toArray⟩ : ByteArray) ++ (⟨#[32, 119, 47]⟩ : ByteArray) ++ (⟨sn.toArray⟩ : ByteArray)) := hI.2 10 (hD 10 (by decide)) rfl
   have zf10 := zF10; clear zF10
   have zF11 : V 11 = .string ((⟨t1.toArray⟩ : ByteArray) ++ (⟨#[32, 119, 47]⟩ : ByteArray) ++ (⟨sn.toArray⟩ : ByteArray) ++ (⟨#[32]⟩ : ByteArray)) := hI.2 11 (hD 11 (by decide)) rfl
   have zf11 := zF11; clear zF11
   have zF12 : V 12 = .func (.func 46) #[] #[] := hI.2 12 (hD 12 (by decide)) rfl
   have zf12 := zF12; clear zF12
   have zF13 : V 13 = .pointer (some ⟨g0, 3, none⟩) := hI.2 13 (hD 13 (by decide)) rfl
   have zf13 := zF13; clear zF13
   have zF14 : V 14 = .slice (some ⟨g, off, none⟩) xs.length d := hI.2 14 (hD 14 (by decide)) rfl
   have zf14 := zF14; clear zF14
   have zF15 : V 15 = .pointer (some ⟨g, off + 4, none⟩) := hI.2 15 (hD 15 (by decide)) rfl
   have zf15 := zF15; clear zF15
   have zF16 : V 16 = .agg #[.int .i64 k2', .slice A2 ws2.length c2, .int .i64 n22, .slice B2 xs2.length d2] := hI.2 16 (hD 16 (by decide)) rfl
   have zf16 := zF16; clear zF16
   have zF18 : V 18 = .string ⟨t2.toArray⟩ := hI.2 18 (hD 18 (by decide)) rfl
   have zf18 := zF18; clear zF18
   have zF19 : V 19 = .string ((⟨t1.toArray⟩ : ByteArray) ++ (⟨#[32, 119, 47]⟩ : ByteArray) ++ (⟨sn.toArray⟩ : ByteArray) ++ (⟨#[32]⟩ : ByteArray) ++ (⟨t2.toArray⟩ : ByteArray)) := hI.2 19 (hD 19 (by decide)) rfl
   have zf19 := zF19; clear zF19
   have zF20 : V 20 = .string ((⟨t1.toArray⟩ : ByteArray) ++ (⟨#[32, 119, 47]⟩ : ByteArray) ++ (⟨sn.toArray⟩ : ByteArray) ++ (⟨#[32]⟩ : ByteArray) ++ (⟨t2.toArray⟩ : ByteArray)) := hI.2 20 (hD 20 (by decide)) rfl
   have zf20 := zF20; clear zF20
   clear hI hD HGs
   simp only [frAll, Act.put, List.setIfInBounds_toArray, List.set_cons_zero, List.set_cons_succ, Nat.zero_add, Nat.reduceAdd, zf0, zf1, zf2, zf3, zf4, zf6, zf7, zf8, zf9, zf10, zf11, zf12, zf13, zf14, zf15, zf16, zf18, zf19, zf20]
   clear zf0 zf1 zf2 zf3 zf4 zf6 zf7 zf8 zf9 zf10 zf11 zf12 zf13 zf14 zf15 zf16 zf18 zf19 zf20
   generalize V 5 = u5
   generalize V 17 = u17
   clear V D
   have HP6 := Lib.hid (HP5.out.trans hGx)
   clear HC1 HC2
   go_wp2_with fail
   go_ret
   exact ⟨by rw [HRES.out, HTX.out, ← bytes_app, ← bytes_app, ← bytes_app, ← bytes_app]; rfl, HP6.out⟩
 have k4i : (k == 4) = false := by simpa using k4
 by_cases k5 : k = 5
 ·subst k5
  have hx2 : 2 ≤ xs.length := by
   have h := HR.out.aH (by omega)
   rwa [List.length_map] at h
  have h0 : 0 < xs.length := by omega
  have h1 : 1 < xs.length := by omega
  have hi0 : (0 : Int) < (xs.length : Int) := by omega
  have hi1 : (1 : Int) < (xs.length : Int) := by omega
  obtain ⟨k', A', c', ws', n2, B', d', xs', hq⟩ := QR.ex xs[0]
  obtain ⟨k2', A2, c2, ws2, n22, B2, d2, xs2, hq2⟩ := QR.ex xs[1]
  have hX := HQ.out.xsH.pure HP5.out
  obtain ⟨g, off, hBe, q0, q1, q2, q3⟩ := qcells hX h0 hq
  obtain ⟨g', off', hBe', p0, p1, p2, p3⟩ := qcells hX h1 hq2
  subst hBe
  cases hBe'
  simp only [Nat.zero_mul, Nat.add_zero, Nat.one_mul] at q0 q1 q2 q3 p0 p1 p2 p3
  have hmem1 : (QR.mk k' A' c' ws' n2 B' d' xs') ∈ xs := by rw [← hq]; exact List.getElem_mem h0
  have hmk1 : (QR.mk k' A' c' ws' n2 B' d' xs').key ∈ xs.map QR.key := List.mem_map.2 ⟨_, hmem1, rfl⟩
  have hpl1 := prQ_len2 _ (HBD.out.allH _ hmk1)
  have hms1 := mem_sum hmk1
  have hpb1 : (prQ (QR.mk k' A' c' ws' n2 B' d' xs').key).length ≤ 45000000 := by omega
  have HC1 := Lib.hid (fun W v (h : Pure w5 W) (hv : Sl W 3 1 v (ints [7])) => innerQ_calls W k' n2 A' B' c' d' ws' xs' v [7] (prQ (QR.mk k' A' c' ws' n2 B' d' xs').key) hv hpb1 (fun W' h' => HIH.out _ hmem1 W' (HW.out.pure ((HP5.out.trans h).trans h')) ((HQ.out.allH _ hmem1).pure ((HP5.out.trans h).trans h')) (HR.out.allH _ hmk1) (HQL.out.allH _ hmk1) (HBD.out.allH _ hmk1) (by omega)))
  rw [qA_mk] at HC1
  have hmem2 : (QR.mk k2' A2 c2 ws2 n22 B2 d2 xs2) ∈ xs := by rw [← hq2]; exact List.getElem_mem h1
  have hmk2 : (QR.mk k2' A2 c2 ws2 n22 B2 d2 xs2).key ∈ xs.map QR.key := List.mem_map.2 ⟨_, hmem2, rfl⟩
  have hpl2 := prQ_len2 _ (HBD.out.allH _ hmk2)
  have hms2 := mem_sum hmk2
  have hpb2 : (prQ (QR.mk k2' A2 c2 ws2 n22 B2 d2 xs2).key).length ≤ 45000000 := by omega
  have HC2 := Lib.hid (fun W v (h : Pure w5 W) (hv : Sl W 3 1 v (ints [7, 4, 5])) => innerQ_calls W k2' n22 A2 B2 c2 d2 ws2 xs2 v [7, 4, 5] (prQ (QR.mk k2' A2 c2 ws2 n22 B2 d2 xs2).key) hv hpb2 (fun W' h' => HIH.out _ hmem2 W' (HW.out.pure ((HP5.out.trans h).trans h')) ((HQ.out.allH _ hmem2).pure ((HP5.out.trans h).trans h')) (HR.out.allH _ hmk2) (HQL.out.allH _ hmk2) (HBD.out.allH _ hmk2) (by omega)))
  rw [qA_mk] at HC2
  have HTX : Hid (txtQ 5 n ws L = parQ ([7].any fun x => k' == x) (prQ (QR.mk k' A' c' ws' n2 B' d' xs').key) ++ ([32, 112, 114, 101, 47] : Str) ++ Lib.itoa n ++ ([32] : Str) ++ parQ ([7, 4, 5].any fun x => k2' == x) (prQ (QR.mk k2' A2 c2 ws2 n22 B2 d2 xs2).key)) := Lib.hid (by
   show L.getD 0 [] ++ ([32, 112, 114, 101, 47] : Str) ++ Lib.itoa n ++ ([32] : Str) ++ L.getD 1 [] = _
   rw [← HLL.out, prA_get h0 hq, prA_get h1 hq2, enc_n0 rfl, enc_n1 rfl, show (QR.mk k' A' c' ws' n2 B' d' xs').key.kind = k' by rw [QR.key_mk]; rfl, show (QR.mk k2' A2 c2 ws2 n22 B2 d2 xs2).key.kind = k2' by rw [QR.key_mk]; rfl])
  have hpl3 := HPL.out
  rw [HRES.out, HTX.out] at hpl3
  simp only [List.length_append, List.length_cons, List.length_nil] at hpl3
  clear hX hq hq2 HWS5 HR HBD HQ HIH HQL
  generalize parQ ([7].any fun x => k' == x) (prQ (QR.mk k' A' c' ws' n2 B' d' xs').key) = t1 at *
  generalize parQ ([7, 4, 5].any fun x => k2' == x) (prQ (QR.mk k2' A2 c2 ws2 n22 B2 d2 xs2).key) = t2 at *
  generalize Lib.itoa n = sn at *
  have hz1 := size_str t1
  have hz2 := size_str t2
  have hz3 := size_str sn
  have hn1 : ¬ 9223372036854775807 < t1.length + 5 := by omega
  have hn2 : ¬ 9223372036854775807 < t1.length + 5 + sn.length := by omega
  have hn3 : ¬ 9223372036854775807 < t1.length + 5 + sn.length + 1 := by omega
  have hn4 : ¬ 9223372036854775807 < t1.length + 5 + sn.length + 1 + t2.length := by omega
  go_upto_region 15 with (fail)
  have HGs := Lib.hid (show ∀ (D : Nat → Bool) (zzi : Nat) (zq zq' : World), (fun _ zq => (fun Z => Pure w5 Z) zq) D zq → Mod (fun _ => False) zq zq' → (fun _ zq => (fun Z => Pure w5 Z) zq) (upd D zzi true) zq' from by intro D zzi zq zq' h hm; (exact h.trans hm))
  refine wp_region_inv (by kernel_rfl) (by kernel_rfl) (InvF (R := Mod (fun _ => False)) [.is (.func (.func 46) #[] #[]),
    .is (.pointer (some ⟨g0, 3, none⟩)),
    .is (.slice (some ⟨g, off, none⟩) xs.length d),
    .is (.pointer (some ⟨g, off, none⟩)),
    .is (.agg #[.int .i64 k', .slice A' ws'.length c', .int .i64 n2, .slice B' xs'.length d']),
    ⟨fun zv zw => ∃ (g_5 : Nat), zv = .slice (some ⟨g_5, 0, none⟩) 1 1 ∧ w5.heap.size ≤ g_5 ∧ Blk zw g_5 3 #[(.int .i64 7)], (by rintro zv zw zx ⟨g_5, rfl, c0, q0⟩ hm; exact ⟨g_5, rfl, c0, (q0.modp hm)⟩), none, some 6⟩,
    .is (.string ⟨t1.toArray⟩),
    .is (.string ⟨#[32, 112, 114, 101, 47]⟩),
    .is (.string ((⟨t1.toArray⟩ : ByteArray) ++ (⟨#[32, 112, 114, 101, 47]⟩ : ByteArray))),
    .is (.string ⟨sn.toArray⟩),
    .is (.string ((⟨t1.toArray⟩ : ByteArray) ++ (⟨#[32, 112, 114, 101, 47]⟩ : ByteArray) ++ (⟨sn.toArray⟩ : ByteArray))),
    .is (.string ((⟨t1.toArray⟩ : ByteArray) ++ (⟨#[32, 112, 114, 101, 47]⟩ : ByteArray) ++ (⟨sn.toArray⟩ : ByteArray) ++ (⟨#[32]⟩ : ByteArray))),
    .is (.func (.func 46) #[] #[]),
    .is (.pointer (some ⟨g0, 3, none⟩)),
    .is (.slice (some ⟨g, off, none⟩) xs.length d),
    .is (.pointer (some ⟨g, off + 4, none⟩)),
    .is (.agg #[.int .i64 k2', .slice A2 ws2.length c2, .int .i64 n22, .slice B2 xs2.length d2]),
    ⟨fun zv zw => ∃ (g_17 : Nat), zv = .slice (some ⟨g_17, 0, none⟩) 3 3 ∧ w5.heap.size ≤ g_17 ∧ Blk zw g_17 3 #[(.int .i64 7), (.int .i64 4), (.int .i64 5)], (by rintro zv zw zx ⟨g_17, rfl, c0, q0⟩ hm; exact ⟨g_17, rfl, c0, (q0.modp hm)⟩), none, some 18⟩,
    .is (.string ⟨t2.toArray⟩),
    .is (.string ((⟨t1.toArray⟩ : ByteArray) ++ (⟨#[32, 112, 114, 101, 47]⟩ : ByteArray) ++ (⟨sn.toArray⟩ : ByteArray) ++ (⟨#[32]⟩ : ByteArray) ++ (⟨t2.toArray⟩ : ByteArray))),
    .is (.string ((⟨t1.toArray⟩ : ByteArray) ++ (⟨#[32, 112, 114, 101, 47]⟩ : ByteArray) ++ (⟨sn.toArray⟩ : ByteArray) ++ (⟨#[32]⟩ : ByteArray) ++ (⟨t2.toArray⟩ : ByteArray)))]
    (PB w5 (fun _ => False) w5.heap.size (fun _ zq => (fun Z => Pure w5 Z) zq))) (InvF.start (PB.start (Mod.refl _ _) (Nat.le_refl _) (((Mod.refl _ _).drewN 1)))) ?_ ?_
  ·refine .cons ?_ (.cons ?_ (.cons ?_ (.cons ?_ (.cons ?_ (.cons ?_ (.cons ?_ (.cons ?_ (.cons ?_ (.cons ?_ (.cons ?_ (.cons ?_ (.cons ?_ (.cons ?_ (.cons ?_ (.cons ?_ (.cons ?_ (.cons ?_ (.cons ?_ (.cons ?_ (.cons ?_ .nil))))))))))))))))))))
   ·intro D V zw1 a hR hI K hK
    obtain ⟨hM1, hB1, hG1⟩ := hI.1
    have ze3 := hR.frame.other (t := 3) (by kernel_rfl) rfl
    rw [if_pos (by rfl)]
    go_simp
    exact hK (.func (.func 46) #[] #[]) _ (hI.next hR (by kernel_rfl) (Mod.refl _ _) (PB.quiet hI.1 (Mod.refl _ _) (HGs.out D 0 zw1 zw1 (hI.1).g (Mod.refl _ _))) (upd_same V 0 _))
   ·intro D V zw1 a hR hI K hK
    obtain ⟨hM1, hB1, hG1⟩ := hI.1
    have ze1 := hR.frame.other (t := 1) (by kernel_rfl) rfl
    rw [if_pos (by rfl)]
    go_simp
    exact hK (.pointer (some ⟨g0, 3, none⟩)) _ (hI.next hR (by kernel_rfl) (Mod.refl _ _) (PB.quiet hI.1 (Mod.refl _ _) (HGs.out D 1 zw1 zw1 (hI.1).g (Mod.refl _ _))) (upd_same V 1 _))
   ·intro D V zw1 a hR hI K hK
    obtain ⟨hM1, hB1, hG1⟩ := hI.1
    have zd1 := hR.pred 1 (by kernel_rfl)
    have zF1 : V 1 = .pointer (some ⟨g0, 3, none⟩) := hI.2 1 zd1 rfl
    have zf1 := zF1; clear zF1
    have ze38 := hR.frame.done (t := 38) (j := 1) (by kernel_rfl) hR.ok zd1
    have zx := keepp u3 hG1
    rw [if_pos (by rfl)]
    go_simp
    exact hK (.slice (some ⟨g, off, none⟩) xs.length d) _ (hI.next hR (by kernel_rfl) (Mod.refl _ _) (PB.quiet hI.1 (Mod.refl _ _) (HGs.out D 2 zw1 zw1 (hI.1).g (Mod.refl _ _))) (upd_same V 2 _))
   ·intro D V zw1 a hR hI K hK
    obtain ⟨hM1, hB1, hG1⟩ := hI.1
    have zd2 := hR.pred 2 (by kernel_rfl)
    have zF2 : V 2 = .slice (some ⟨g, off, none⟩) xs.length d := hI.2 2 zd2 rfl
    have zf2 := zF2; clear zF2
    have ze39 := hR.frame.done (t := 39) (j := 2) (by kernel_rfl) hR.ok zd2
    rw [if_pos (by rfl)]
    go_simp
    exact hK (.pointer (some ⟨g, off, none⟩)) _ (hI.next hR (by kernel_rfl) (Mod.refl _ _) (PB.quiet hI.1 (Mod.refl _ _) (HGs.out D 3 zw1 zw1 (hI.1).g (Mod.refl _ _))) (upd_same V 3 _))
   ·intro D V zw1 a hR hI K hK
    obtain ⟨hM1, hB1, hG1⟩ := hI.1
    have zd3 := hR.pred 3 (by kernel_rfl)
    have zF3 : V 3 = .pointer (some ⟨g, off, none⟩) := hI.2 3 zd3 rfl
    have zf3 := zF3; clear zF3
    have ze40 := hR.frame.done (t := 40) (j := 3) (by kernel_rfl) hR.ok zd3
    have zx0 := keepp q0 hG1
    have zx1 := keepp q1 hG1
    have zx2 := keepp q2 hG1
    have zx3 := keepp q3 hG1
    rw [if_pos (by rfl)]
    go_simp
    exact hK (.agg #[.int .i64 k', .slice A' ws'.length c', .int .i64 n2, .slice B' xs'.length d']) _ (hI.next hR (by kernel_rfl) (Mod.refl _ _) (PB.quiet hI.1 (Mod.refl _ _) (HGs.out D 4 zw1 zw1 (hI.1).g (Mod.refl _ _))) (upd_same V 4 _))
   ·intro D V zw1 a hR hI K hK
    obtain ⟨hM1, hB1, hG1⟩ := hI.1
    rw [if_pos (by rfl)]
    go_simp
    exact hK (_) _ (hI.next hR (by kernel_rfl) ((Mod.refl _ _).alloc _) (PB.quiet hI.1 (pure_alloc _ _) (HGs.out D 5 _ _ (hI.1).g ((Mod.refl _ _).alloc _))) (⟨_, upd_same V 5 _, (by omega), (Blk.new _ _ _)⟩))
   ·intro D V zw1 a hR hI K hK
    obtain ⟨hM1, hB1, hG1⟩ := hI.1
    have zd0 := hR.pred 0 (by kernel_rfl)
    have zF0 : V 0 = .func (.func 46) #[] #[] := hI.2 0 zd0 rfl
    have zf0 := zF0; clear zF0
    have zd4 := hR.pred 4 (by kernel_rfl)
    have zF4 : V 4 = .agg #[.int .i64 k', .slice A' ws'.length c', .int .i64 n2, .slice B' xs'.length d'] := hI.2 4 zd4 rfl
    have zf4 := zF4; clear zF4
    have zd5 := hR.pred 5 (by kernel_rfl)
    have zF5 : ∃ (g_5 : Nat), V 5 = .slice (some ⟨g_5, 0, none⟩) 1 1 ∧ w5.heap.size ≤ g_5 ∧ Blk zw1 g_5 3 #[(.int .i64 7)] := hI.2 5 zd5 (by show (!D 6) = true; rw [hR.not]; rfl)
    obtain ⟨g_5, zf5, c5_0, b5_0⟩ := zF5
    have ze37 := hR.frame.done (t := 37) (j := 0) (by kernel_rfl) hR.ok zd0
    have ze41 := hR.frame.done (t := 41) (j := 4) (by kernel_rfl) hR.ok zd4
    have ze42 := hR.frame.done (t := 42) (j := 5) (by kernel_rfl) hR.ok zd5
    rw [if_pos (by rfl)]
    go_simp
    refine (HC1.out zw1 _ hG1 (blkInts (xs := ints [7]) b5_0 rfl (by decide))).mono ?_
    rintro e zw2 ⟨rfl, hm2⟩
    exact hK (.string ⟨t1.toArray⟩) _ (hI.next hR (by kernel_rfl) hm2 (PB.quiet hI.1 hm2 (HGs.out D 6 _ _ (hI.1).g hm2)) (upd_same V 6 _))
   ·intro D V zw1 a hR hI K hK
    obtain ⟨hM1, hB1, hG1⟩ := hI.1
    have ze5 := hR.frame.other (t := 5) (by kernel_rfl) rfl
    rw [if_pos (by rfl)]
    go_simp
    exact hK (.string ⟨#[32, 112, 114, 101, 47]⟩) _ (hI.next hR (by kernel_rfl) (Mod.refl _ _) (PB.quiet hI.1 (Mod.refl _ _) (HGs.out D 7 zw1 zw1 (hI.1).g (Mod.refl _ _))) (upd_same V 7 _))
   ·intro D V zw1 a hR hI K hK
    obtain ⟨hM1, hB1, hG1⟩ := hI.1
    have zd6 := hR.pred 6 (by kernel_rfl)
    have zF6 : V 6 = .string ⟨t1.toArray⟩ := hI.2 6 zd6 rfl
    have zf6 := zF6; clear zF6
    have zd7 := hR.pred 7 (by kernel_rfl)
    have zF7 : V 7 = .string ⟨#[32, 112, 114, 101, 47]⟩ := hI.2 7 zd7 rfl
    have zf7 := zF7; clear zF7
    have ze43 := hR.frame.done (t := 43) (j := 6) (by kernel_rfl) hR.ok zd6
    have ze44 := hR.frame.done (t := 44) (j := 7) (by kernel_rfl) hR.ok zd7
    rw [if_pos (by rfl)]
    go_simp
    exact hK (.string ((⟨t1.toArray⟩ : ByteArray) ++ (⟨#[32, 112, 114, 101, 47]⟩ : ByteArray))) _ (hI.next hR (by kernel_rfl) (Mod.refl _ _) (PB.quiet hI.1 (Mod.refl _ _) (HGs.out D 8 zw1 zw1 (hI.1).g (Mod.refl _ _))) (upd_same V 8 _))
   ·intro D V zw1 a hR hI K hK
    obtain ⟨hM1, hB1, hG1⟩ := hI.1
    have ze4 := hR.frame.other (t := 4) (by kernel_rfl) rfl
    rw [if_pos (by rfl)]
    go_simp
    exact hK (.string ⟨sn.toArray⟩) _ (hI.next hR (by kernel_rfl) (Mod.refl _ _) (PB.quiet hI.1 (Mod.refl _ _) (HGs.out D 9 zw1 zw1 (hI.1).g (Mod.refl _ _))) (upd_same V 9 _))
   ·intro D V zw1 a hR hI K hK
    obtain ⟨hM1, hB1, hG1⟩ := hI.1
    have zd8 := hR.pred 8 (by kernel_rfl)
    have zF8 : V 8 = .string ((⟨t1.toArray⟩ : ByteArray) ++ (⟨#[32, 112, 114, 101, 47]⟩ : ByteArray)) := hI.2 8 zd8 rfl
    have zf8 := zF8; clear zF8
    have zd9 := hR.pred 9 (by kernel_rfl)
    have zF9 : V 9 = .string ⟨sn.toArray⟩ := hI.2 9 zd9 rfl
    have zf9 := zF9; clear zF9
    have ze45 := hR.frame.done (t := 45) (j := 8) (by kernel_rfl) hR.ok zd8
    have ze46 := hR.frame.done (t := 46) (j := 9) (by kernel_rfl) hR.ok zd9
    rw [if_pos (by rfl)]
    go_simp
    exact hK (.string ((⟨t1.toArray⟩ : ByteArray) ++ (⟨#[32, 112, 114, 101, 47]⟩ : ByteArray) ++ (⟨sn.toArray⟩ : ByteArray))) _ (hI.next hR (by kernel_rfl) (Mod.refl _ _) (PB.quiet hI.1 (Mod.refl _ _) (HGs.out D 10 zw1 zw1 (hI.1).g (Mod.refl _ _))) (upd_same V 10 _))
   ·intro D V zw1 a hR hI K hK
    obtain ⟨hM1, hB1, hG1⟩ := hI.1
    have zd10 := hR.pred 10 (by kernel_rfl)
    have zF10 : V 10 = .string ((⟨t1.toArray⟩ : ByteArray) ++ (⟨#[32, 112, 114, 101, 47]⟩ : ByteArray) ++ (⟨sn.toArray⟩ : ByteArray)) := hI.2 10 zd10 rfl
    have zf10 := zF10; clear zF10
    have ze47 := hR.frame.done (t := 47) (j := 10) (by kernel_rfl) hR.ok zd10
    rw [if_pos (by rfl)]
    go_simp
    exact hK (.string ((⟨t1.toArray⟩ : ByteArray) ++ (⟨#[32, 112, 114, 101, 47]⟩ : ByteArray) ++ (⟨sn.toArray⟩ : ByteArray) ++ (⟨#[32]⟩ : ByteArray))) _ (hI.next hR (by kernel_rfl) (Mod.refl _ _) (PB.quiet hI.1 (Mod.refl _ _) (HGs.out D 11 zw1 zw1 (hI.1).g (Mod.refl _ _))) (upd_same V 11 _))
   ·intro D V zw1 a hR hI K hK
    obtain ⟨hM1, hB1, hG1⟩ := hI.1
    have ze3 := hR.frame.other (t := 3) (by kernel_rfl) rfl
    rw [if_pos (by rfl)]
    go_simp
    exact hK (.func (.func 46) #[] #[]) _ (hI.next hR (by kernel_rfl) (Mod.refl _ _) (PB.quiet hI.1 (Mod.refl _ _) (HGs.out D 12 zw1 zw1 (hI.1).g (Mod.refl _ _))) (upd_same V 12 _))
   ·intro D V zw1 a hR hI K hK
    obtain ⟨hM1, hB1, hG1⟩ := hI.1
    have ze1 := hR.frame.other (t := 1) (by kernel_rfl) rfl
    rw [if_pos (by rfl)]
    go_simp
    exact hK (.pointer (some ⟨g0, 3, none⟩)) _ (hI.next hR (by kernel_rfl) (Mod.refl _ _) (PB.quiet hI.1 (Mod.refl _ _) (HGs.out D 13 zw1 zw1 (hI.1).g (Mod.refl _ _))) (upd_same V 13 _))
   ·intro D V zw1 a hR hI K hK
    obtain ⟨hM1, hB1, hG1⟩ := hI.1
    have zd13 := hR.pred 13 (by kernel_rfl)
    have zF13 : V 13 = .pointer (some ⟨g0, 3, none⟩) := hI.2 13 zd13 rfl
    have zf13 := zF13; clear zF13
    have ze50 := hR.frame.done (t := 50) (j := 13) (by kernel_rfl) hR.ok zd13
    have zx := keepp u3 hG1
    rw [if_pos (by rfl)]
    go_simp
    exact hK (.slice (some ⟨g, off, none⟩) xs.length d) _ (hI.next hR (by kernel_rfl) (Mod.refl _ _) (PB.quiet hI.1 (Mod.refl _ _) (HGs.out D 14 zw1 zw1 (hI.1).g (Mod.refl _ _))) (upd_same V 14 _))
   ·intro D V zw1 a hR hI K hK
    obtain ⟨hM1, hB1, hG1⟩ := hI.1
    have zd14 := hR.pred 14 (by kernel_rfl)
    have zF14 : V 14 = .slice (some ⟨g, off, none⟩) xs.length d := hI.2 14 zd14 rfl
    have zf14 := zF14; clear zF14
    have ze51 := hR.frame.done (t := 51) (j := 14) (by kernel_rfl) hR.ok zd14
    rw [if_pos (by rfl)]
    go_simp
    exact hK (.pointer (some ⟨g, off + 4, none⟩)) _ (hI.next hR (by kernel_rfl) (Mod.refl _ _) (PB.quiet hI.1 (Mod.refl _ _) (HGs.out D 15 zw1 zw1 (hI.1).g (Mod.refl _ _))) (upd_same V 15 _))
   ·intro D V zw1 a hR hI K hK
    obtain ⟨hM1, hB1, hG1⟩ := hI.1
    have zd15 := hR.pred 15 (by kernel_rfl)
    have zF15 : V 15 = .pointer (some ⟨g, off + 4, none⟩) := hI.2 15 zd15 rfl
    have zf15 := zF15; clear zF15
    have ze52 := hR.frame.done (t := 52) (j := 15) (by kernel_rfl) hR.ok zd15
    have zx0 := keepp p0 hG1
    have zx1 := keepp p1 hG1
    have zx2 := keepp p2 hG1
    have zx3 := keepp p3 hG1
    rw [if_pos (by rfl)]
    go_simp
    exact hK (.agg #[.int .i64 k2', .slice A2 ws2.length c2, .int .i64 n22, .slice B2 xs2.length d2]) _ (hI.next hR (by kernel_rfl) (Mod.refl _ _) (PB.quiet hI.1 (Mod.refl _ _) (HGs.out D 16 zw1 zw1 (hI.1).g (Mod.refl _ _))) (upd_same V 16 _))
   ·intro D V zw1 a hR hI K hK
    obtain ⟨hM1, hB1, hG1⟩ := hI.1
    rw [if_pos (by rfl)]
    go_simp
    exact hK (_) _ (hI.next hR (by kernel_rfl) ((Mod.refl _ _).alloc _) (PB.quiet hI.1 (pure_alloc _ _) (HGs.out D 17 _ _ (hI.1).g ((Mod.refl _ _).alloc _))) (⟨_, upd_same V 17 _, (by omega), (Blk.new _ _ _)⟩))
   ·intro D V zw1 a hR hI K hK
    obtain ⟨hM1, hB1, hG1⟩ := hI.1
    have zd12 := hR.pred 12 (by kernel_rfl)
    have zF12 : V 12 = .func (.func 46) #[] #[] := hI.2 12 zd12 rfl
    have zf12 := zF12; clear zF12
    have zd16 := hR.pred 16 (by kernel_rfl)
    have zF16 : V 16 = .agg #[.int .i64 k2', .slice A2 ws2.length c2, .int .i64 n22, .slice B2 xs2.length d2] := hI.2 16 zd16 rfl
    have zf16 := zF16; clear zF16
    have zd17 := hR.pred 17 (by kernel_rfl)
    have zF17 : ∃ (g_17 : Nat), V 17 = .slice (some ⟨g_17, 0, none⟩) 3 3 ∧ w5.heap.size ≤ g_17 ∧ Blk zw1 g_17 3 #[(.int .i64 7), (.int .i64 4), (.int .i64 5)] := hI.2 17 zd17 (by show (!D 18) = true; rw [hR.not]; rfl)
    obtain ⟨g_17, zf17, c17_0, b17_0⟩ := zF17
    have ze49 := hR.frame.done (t := 49) (j := 12) (by kernel_rfl) hR.ok zd12
    have ze53 := hR.frame.done (t := 53) (j := 16) (by kernel_rfl) hR.ok zd16
    have ze54 := hR.frame.done (t := 54) (j := 17) (by kernel_rfl) hR.ok zd17
    rw [if_pos (by rfl)]
    go_simp
    refine (HC2.out zw1 _ hG1 (blkInts (xs := ints [7, 4, 5]) b17_0 rfl (by decide))).mono ?_
    rintro e zw2 ⟨rfl, hm2⟩
    exact hK (.string ⟨t2.toArray⟩) _ (hI.next hR (by kernel_rfl) hm2 (PB.quiet hI.1 hm2 (HGs.out D 18 _ _ (hI.1).g hm2)) (upd_same V 18 _))
   ·intro D V zw1 a hR hI K hK
    obtain ⟨hM1, hB1, hG1⟩ := hI.1
    have zd11 := hR.pred 11 (by kernel_rfl)
    have zF11 : V 11 = .string ((⟨t1.toArray⟩ : ByteArray) ++ (⟨#[32, 112, 114, 101, 47]⟩ : ByteArray) ++ (⟨sn.toArray⟩ : ByteArray) ++ (⟨#[32]⟩ : ByteArray)) := hI.2 11 zd11 rfl
    have zf11 := zF11; clear zF11
    have zd18 := hR.pred 18 (by kernel_rfl)
    have zF18 : V 18 = .string ⟨t2.toArray⟩ := hI.2 18 zd18 rfl
    have zf18 := zF18; clear zF18
    have ze48 := hR.frame.done (t := 48) (j := 11) (by kernel_rfl) hR.ok zd11
    have ze55 := hR.frame.done (t := 55) (j := 18) (by kernel_rfl) hR.ok zd18
    rw [if_pos (by rfl)]
    go_simp
    exact hK (.string ((⟨t1.toArray⟩ : ByteArray) ++ (⟨#[32, 112, 114, 101, 47]⟩ : ByteArray) ++ (⟨sn.toArray⟩ : ByteArray) ++ (⟨#[32]⟩ : ByteArray) ++ (⟨t2.toArray⟩ : ByteArray))) _ (hI.next hR (by kernel_rfl) (Mod.refl _ _) (PB.quiet hI.1 (Mod.refl _ _) (HGs.out D 19 zw1 zw1 (hI.1).g (Mod.refl _ _))) (upd_same V 19 _))
   ·intro D V zw1 a hR hI K hK
    obtain ⟨hM1, hB1, hG1⟩ := hI.1
    have zd19 := hR.pred 19 (by kernel_rfl)
    have zF19 : V 19 = .string ((⟨t1.toArray⟩ : ByteArray) ++ (⟨#[32, 112, 114, 101, 47]⟩ : ByteArray) ++ (⟨sn.toArray⟩ : ByteArray) ++ (⟨#[32]⟩ : ByteArray) ++ (⟨t2.toArray⟩ : ByteArray)) := hI.2 19 zd19 rfl
    have zf19 := zF19; clear zF19
    have ze56 := hR.frame.done (t := 56) (j := 19) (by kernel_rfl) hR.ok zd19
    rw [if_pos (by rfl)]
    go_simp
    exact hK (.string ((⟨t1.toArray⟩ : ByteArray) ++ (⟨#[32, 112, 114, 101, 47]⟩ : ByteArray) ++ (⟨sn.toArray⟩ : ByteArray) ++ (⟨#[32]⟩ : ByteArray) ++ (⟨t2.toArray⟩ : ByteArray))) _ (hI.next hR (by kernel_rfl) (Mod.refl _ _) (PB.quiet hI.1 (Mod.refl _ _) (HGs.out D 20 zw1 zw1 (hI.1).g (Mod.refl _ _))) (upd_same V 20 _))
  ·intro D V w6 hD hI
   obtain ⟨hM1, hB1, hG1⟩ := hI.1
   have hMx := hM1
   clear hM1
   have hBx := hB1
   clear hB1
   have hGx := hG1
   clear hG1
   have zF0 : V 0 = .func (.func 46) #[] #[] := hI.2 0 (hD 0 (by decide)) rfl
   have zf0 := zF0; clear zF0
   have zF1 : V 1 = .pointer (some ⟨g0, 3, none⟩) := hI.2 1 (hD 1 (by decide)) rfl
   have zf1 := zF1; clear zF1
   have zF2 : V 2 = .slice (some ⟨g, off, none⟩) xs.length d := hI.2 2 (hD 2 (by decide)) rfl
   have zf2 := zF2; clear zF2
   have zF3 : V 3 = .pointer (some ⟨g, off, none⟩) := hI.2 3 (hD 3 (by decide)) rfl
   have zf3 := zF3; clear zF3
   have zF4 : V 4 = .agg #[.int .i64 k', .slice A' ws'.length c', .int .i64 n2, .slice B' xs'.length d'] := hI.2 4 (hD 4 (by decide)) rfl
   have zf4 := zF4; clear zF4
   have zF6 : V 6 = .string ⟨t1.toArray⟩ := hI.2 6 (hD 6 (by decide)) rfl
   have zf6 := zF6; clear zF6
   have zF7 : V 7 = .string ⟨#[32, 112, 114, 101, 47]⟩ := hI.2 7 (hD 7 (by decide)) rfl
   have zf7 := zF7; clear zF7
   have zF8 : V 8 = .string ((⟨t1.toArray⟩ : ByteArray) ++ (⟨#[32, 112, 114, 101, 47]⟩ : ByteArray)) := hI.2 8 (hD 8 (by decide)) rfl
   have zf8 := zF8; clear zF8
   have zF9 : V 9 = .string ⟨sn.toArray⟩ := hI.2 9 (hD 9 (by decide)) rfl
   have zf9 := zF9; clear zF9
   have zF10 : V 10 = .string ((⟨t1.toArray⟩ : ByteArray) ++ (⟨#[32, 112, 114, 101, 47]⟩ : ByteArray) ++ (⟨sn.toArray⟩ : ByteArray)) := hI.2 10 (hD 10 (by decide)) rfl
   have zf10 := zF10; clear zF10
   have zF11 : V 11 = .string ((⟨t1.toArray⟩ : ByteArray) ++ (⟨#[32, 112, 114, 101, 47]⟩ : ByteArray) ++ (⟨sn.toArray⟩ : ByteArray) ++ (⟨#[32]⟩ : ByteArray)) := hI.2 11 (hD 11 (by decide)) rfl
   have zf11 := zF11; clear zF11
   have zF12 : V 12 = .func (.func 46) #[] #[] := hI.2 12 (hD 12 (by decide)) rfl
   have zf12 := zF12; clear zF12
   have zF13 : V 13 = .pointer (some ⟨g0, 3, none⟩) := hI.2 13 (hD 13 (by decide)) rfl
   have zf13 := zF13; clear zF13
   have zF14 : V 14 = .slice (some ⟨g, off, none⟩) xs.length d := hI.2 14 (hD 14 (by decide)) rfl
   have zf14 := zF14; clear zF14
   have zF15 : V 15 = .pointer (some ⟨g, off + 4, none⟩) := hI.2 15 (hD 15 (by decide)) rfl
   have zf15 := zF15; clear zF15
   have zF16 : V 16 = .agg #[.int .i64 k2', .slice A2 ws2.length c2, .int .i64 n22, .slice B2 xs2.length d2] := hI.2 16 (hD 16 (by decide)) rfl
   have zf16 := zF16; clear zF16
   have zF18 : V 18 = .string ⟨t2.toArray⟩ := hI.2 18 (hD 18 (by decide)) rfl
   have zf18 := zF18; clear zF18
   have zF19 : V 19 = .string ((⟨t1.toArray⟩ : ByteArray) ++ (⟨#[32, 112, 114, 101, 47]⟩ : ByteArray) ++ (⟨sn.toArray⟩ : ByteArray) ++ (⟨#[32]⟩ : ByteArray) ++ (⟨t2.toArray⟩ : ByteArray)) := hI.2 19 (hD 19 (by decide)) rfl
   have zf19 := zF19; clear zF19
   have zF20 : V 20 = .string ((⟨t1.toArray⟩ : ByteArray) ++ (⟨#[32, 112, 114, 101, 47]⟩ : ByteArray) ++ (⟨sn.toArray⟩ : ByteArray) ++ (⟨#[32]⟩ : ByteArray) ++ (⟨t2.toArray⟩ : ByteArray)) := hI.2 20 (hD 20 (by decide)) rfl
   have zf20 := zF20; clear zF20
   clear hI hD HGs
   simp only [frAll, Act.put, List.setIfInBounds_toArray, List.set_cons_zero, List.set_cons_succ, Nat.zero_add, Nat.reduceAdd, zf0, zf1, zf2, zf3, zf4, zf6, zf7, zf8, zf9, zf10, zf11, zf12, zf13, zf14, zf15, zf16, zf18, zf19, zf20]
   clear zf0 zf1 zf2 zf3 zf4 zf6 zf7 zf8 zf9 zf10 zf11 zf12 zf13 zf14 zf15 zf16 zf18 zf19 zf20
   generalize V 5 = u5
   generalize V 17 = u17
   clear V D
   have HP6 := Lib.hid (HP5.out.trans hGx)
   clear HC1 HC2
   go_wp2_with fail
   go_ret
   exact ⟨by rw [HRES.out, HTX.out, ← bytes_app, ← bytes_app, ← bytes_app, ← bytes_app]; rfl, HP6.out⟩
 have k5i : (k == 5) = false := by simpa using k5
 by_cases k6 : k = 6
 ·subst k6
  have hpa := pure_alloc w5 (.cells #[.int .i64 6, .int .i64 7] 3)
  have hk0 := HB5.out.alloc (.cells #[.int .i64 6, .int .i64 7] 3)
  have HKS0 : Hid (Sl (w5.alloc (.cells #[.int .i64 6, .int .i64 7] 3)) 3 1 (.slice (some ⟨w5.heap.size, 0, none⟩) 2 2) (ints [6, 7])) := Lib.hid (intsNew w5 [6, 7] (by decide))
  have HPK0 := Lib.hid (HP5.out.trans hpa)
  have HBK0 := Lib.hid hk0
  clear hpa HB5 HWS5
  go_upto_region 21 with (fail)
  generalize (w5.alloc (.cells #[.int .i64 6, .int .i64 7] 3)) = wk at *
  generalize w5.heap.size = g6 at *
  have t0 := hk0.cell 0; have t1 := hk0.cell 1; have t2 := hk0.cell 2; have t3 := hk0.cell 3; simp at t0 t1 t2 t3
  clear hk0
  have HPK := HPK0
  have HKS := HKS0
  have HBK := HBK0
  clear HPK0 HKS0 HBK0
  go_upto_region 24 with (fail)
  obtain ⟨base, hbase⟩ : ∃ base, wk.heap.size = base := ⟨_, rfl⟩
  have hb1 : base ≤ wk.heap.size := by omega
  have hb2 : wk.heap.size ≤ base := by omega
  clear hbase
  have HI3 : Hid (PtI wk base (prL 6 0 (prA ((xs.map QR.key).take 0))) (.slice none 0 0) wk) := Lib.hid ⟨none, 0, rfl, World.ownsRow_nil _ _ _ _, Mod.refl _ _⟩
  go_wp2_with fail
  go_loopg [8, 78] xs.length (fun gk p i wr => ∃ j : Nat, xs.length - j = gk ∧ j ≤ xs.length ∧ i = .int .i64 (j : Int) ∧ PtI wk base (prL 6 0 (prA ((xs.map QR.key).take j))) p wr)
  case atStart => exact ⟨0, rfl, by omega, rfl, HI3.out⟩
  case round =>
   clear HI3
   obtain ⟨j, rfl, hj, rfl, A4, c4, rfl, hown4, hm4⟩ := hrel
   have HM := Lib.hid hm4
   have HO := Lib.hid hown4
   have hsr := hm4.size
   have hll : (prL 6 0 (prA ((xs.map QR.key).take j))).length ≤ 200 := by rw [prL_len]; simp [prA]; omega
   by_cases hlt : j < xs.length
   ·have hji : ((j : Nat) : Int) < (xs.length : Int) := by omega
    obtain ⟨k', A', c', ws', n2, B', d', xs', hq⟩ := QR.ex xs[j]
    have hX := HQ.out.xsH.pure (HPK.out.trans hm4)
    obtain ⟨g, off, rfl, q0, q1, q2, q3⟩ := qcells hX hlt hq
    have hjk : j < (xs.map QR.key).length := by rw [List.length_map]; exact hlt
    have hkey : (xs.map QR.key)[j] = (QR.mk k' A' c' ws' n2 B' d' xs').key := by rw [List.getElem_map, hq]
    have hst := prL_step (k := 6) hjk
    rw [hkey] at hst
    have hkk : (QR.mk k' A' c' ws' n2 B' d' xs').key.kind = k' := by rw [QR.key_mk]; rfl
    rw [hkk, enc_6] at hst
    have hmem : QR.mk k' A' c' ws' n2 B' d' xs' ∈ xs := by rw [← hq]; exact List.getElem_mem hlt
    have hmk : (QR.mk k' A' c' ws' n2 B' d' xs').key ∈ xs.map QR.key := List.mem_map.2 ⟨_, hmem, rfl⟩
    have hms := mem_sum hmk
    have hpl := prQ_len2 _ (HBD.out.allH _ hmk)
    have hpl2 : (prQ (QR.mk k' A' c' ws' n2 B' d' xs').key).length ≤ 45000000 := by omega
    have hpa := pure_alloc wr (.cells #[.int .i64 k', .slice A' ws'.length c', .int .i64 n2, .slice B' xs'.length d'] 29)
    have hE5 := Blk.new wr 29 #[.int .i64 k', .slice A' ws'.length c', .int .i64 n2, .slice B' xs'.length d']
    have HC := Lib.hid (innerQ_calls (wr.alloc (.cells #[.int .i64 k', .slice A' ws'.length c', .int .i64 n2, .slice B' xs'.length d'] 29)) k' n2 A' B' c' d' ws' xs' _ [6, 7] (prQ (QR.mk k' A' c' ws' n2 B' d' xs').key) ((HKS.out.pure hm4).pure hpa) hpl2 (fun W h => HIH.out _ hmem W (HW.out.pure (((HPK.out.trans hm4).trans hpa).trans h)) ((HQ.out.allH _ hmem).pure (((HPK.out.trans hm4).trans hpa).trans h)) (HR.out.allH _ hmk) (HQL.out.allH _ hmk) (HBD.out.allH _ hmk) (by omega)))
    rw [qA_mk] at HC
    have HST := Lib.hid hst
    have hpq := parQ_len ([6, 7].any fun x => k' == x) (prQ (QR.mk k' A' c' ws' n2 B' d' xs').key)
    have HE5 := Lib.hid hE5
    have HPA := Lib.hid hpa
    clear hown4 hm4 hX hst hkey hkk hpa hq hmem hmk hms hpl HIH HBD HR HQ HQL hE5 HKS HLL
    generalize parQ ([6, 7].any fun x => k' == x) (prQ (QR.mk k' A' c' ws' n2 B' d' xs').key) = pt at *
    generalize hPL : prL 6 0 (prA ((xs.map QR.key).take j)) = PL at *
    have HPP := Lib.hid hPL
    clear hPL
    go_upto_region 27 with (fail)
    generalize hwa : wr.alloc (.cells #[.int .i64 k', .slice A' ws'.length c', .int .i64 n2, .slice B' xs'.length d'] 29) = wa at *
    generalize hga : wr.heap.size = ga at *
    have hgw : wr.heap.size ≤ ga ∧ ga ≤ wr.heap.size := by omega
    clear hwa hga
    have hE5 := HE5.out
    have y0 := hE5.cell 0; have y1 := hE5.cell 1; have y2 := hE5.cell 2; have y3 := hE5.cell 3; simp at y0 y1 y2 y3
    clear hE5 q0 q1 q2 q3
    go_wp2_with fail
    refine HC.out.mono ?_
    rintro e w6 ⟨rfl, hm6⟩
    have HP6 := Lib.hid (HPA.out.trans hm6)
    have hs6 := HP6.out.size
    obtain ⟨A6, c6, w7, hr7, hown7, hgrow7, hat7⟩ := run_appS (w6.alloc (.cells #[.string ⟨pt.toArray⟩] 9)) 26 base PL.length w6.heap.size (.slice A4 PL.length c4) PL pt (own_pure HO.out (HP6.out.trans (pure_alloc _ _))) (Blk.new _ _ _) (by simp; omega) (by omega)
    have hol := (own_pure HO.out (HP6.out.trans (pure_alloc w6 (.cells #[.string ⟨pt.toArray⟩] 9)))).lt
    have HI7 : Hid (PtI wk base (prL 6 0 (prA ((xs.map QR.key).take (j + 1)))) (.slice A6 (PL.length + 1) c6) w7) := Lib.hid ⟨A6, c6, by rw [HST.out, List.length_append]; rfl, by rw [HST.out, List.length_append]; exact hown7, ((HM.out.trans HP6.out).trans (pure_alloc _ _)).trans' (mod_grown hgrow7) (fun i hi hlt => by have := (hol i hi).1; omega)⟩
    clear hown7 hgrow7 hat7 hol HO HM HP6 HST HPP hm6 HC HPA HE5
    go_wp2_with (at_builtin; refine wpList_append_runI rfl _ _ _ _ rfl _ _ _ _ rfl rfl hr7 ?_)
    go_roundg (xs.length - (j + 1))
    case measure => omega
    case rel => exact ⟨j + 1, rfl, by omega, by simp, HI7.out⟩
   ·obtain rfl : j = xs.length := by omega
    have hjj : ¬ ((xs.length : Nat) : Int) < (xs.length : Int) := by omega
    have hto : (xs.map QR.key).take xs.length = xs.map QR.key := List.take_of_length_le (by simp)
    rw [hto, HLL.out] at hown4 HO ⊢
    have HTX : Hid (txtQ 6 n ws L = Lib.join L [32, 97, 110, 100, 32]) := Lib.hid rfl
    have hpl3 := HPL.out
    rw [HRES.out, HTX.out] at hpl3
    have hln : L.length = xs.length := by rw [← HLL.out, prL_len]; simp [prA]
    have HJ := Lib.hid (join_calls wr _ L [32, 97, 110, 100, 32] (Sl.of_own hown4) (by omega) (by omega))
    have HPW := Lib.hid (HPK.out.trans hm4)
    clear hown4 hm4 HM HO HIH hto HQ HQL HR HBD hpl3 hln HLL HKS
    generalize Lib.join L [32, 97, 110, 100, 32] = jj at *
    go_wp2_with fail
    refine HJ.out.mono ?_
    rintro e w6 ⟨rfl, hm6⟩
    have HP6 := Lib.hid (HPW.out.trans hm6)
    clear hm6 HJ
    go_wp2_with fail
    go_ret
    exact ⟨by rw [HRES.out, HTX.out]; rfl, HP6.out⟩
 have k6i : (k == 6) = false := by simpa using k6
 by_cases k7 : k = 7
 ·subst k7
  have hpa := pure_alloc w5 (.cells #[.int .i64 6, .int .i64 7] 3)
  have hk0 := HB5.out.alloc (.cells #[.int .i64 6, .int .i64 7] 3)
  have HKS0 : Hid (Sl (w5.alloc (.cells #[.int .i64 6, .int .i64 7] 3)) 3 1 (.slice (some ⟨w5.heap.size, 0, none⟩) 2 2) (ints [6, 7])) := Lib.hid (intsNew w5 [6, 7] (by decide))
  have HPK0 := Lib.hid (HP5.out.trans hpa)
  have HBK0 := Lib.hid hk0
  clear hpa HB5 HWS5
  go_upto_region 21 with (fail)
  generalize (w5.alloc (.cells #[.int .i64 6, .int .i64 7] 3)) = w6 at *
  generalize w5.heap.size = g6 at *
  have t0 := hk0.cell 0; have t1 := hk0.cell 1; have t2 := hk0.cell 2; have t3 := hk0.cell 3; simp at t0 t1 t2 t3
  clear hk0
  have hpa2 := pure_alloc w6 (.cells #[.int .i64 7] 3)
  have HKS : Hid (Sl (w6.alloc (.cells #[.int .i64 7] 3)) 3 1 (.slice (some ⟨w6.heap.size, 0, none⟩) 1 1) (ints [7])) := Lib.hid (intsNew w6 [7] (by decide))
  have HPK := Lib.hid (HPK0.out.trans hpa2)
  have hk1 := HBK0.out.alloc (.cells #[.int .i64 7] 3)
  have HBK := Lib.hid hk1
  clear hpa2 HKS0 HPK0 HBK0
  go_upto_region 23 with (fail)
  generalize (w6.alloc (.cells #[.int .i64 7] 3)) = wk at *
  generalize w6.heap.size = g7 at *
  clear t0 t1 t2 t3
  have s0 := hk1.cell 0; have s1 := hk1.cell 1; have s2 := hk1.cell 2; have s3 := hk1.cell 3; simp at s0 s1 s2 s3
  clear hk1
  go_upto_region 24 with (fail)
  obtain ⟨base, hbase⟩ : ∃ base, wk.heap.size = base := ⟨_, rfl⟩
  have hb1 : base ≤ wk.heap.size := by omega
  have hb2 : wk.heap.size ≤ base := by omega
  clear hbase
  have HI3 : Hid (PtI wk base (prL 7 0 (prA ((xs.map QR.key).take 0))) (.slice none 0 0) wk) := Lib.hid ⟨none, 0, rfl, World.ownsRow_nil _ _ _ _, Mod.refl _ _⟩
  go_wp2_with fail
  go_loopg [8, 78] xs.length (fun gk p i wr => ∃ j : Nat, xs.length - j = gk ∧ j ≤ xs.length ∧ i = .int .i64 (j : Int) ∧ PtI wk base (prL 7 0 (prA ((xs.map QR.key).take j))) p wr)
  case atStart => exact ⟨0, rfl, by omega, rfl, HI3.out⟩
  case round =>
   clear HI3
   obtain ⟨j, rfl, hj, rfl, A4, c4, rfl, hown4, hm4⟩ := hrel
   have HM := Lib.hid hm4
   have HO := Lib.hid hown4
   have hsr := hm4.size
   have hll : (prL 7 0 (prA ((xs.map QR.key).take j))).length ≤ 200 := by rw [prL_len]; simp [prA]; omega
   by_cases hlt : j < xs.length
   ·have hji : ((j : Nat) : Int) < (xs.length : Int) := by omega
    obtain ⟨k', A', c', ws', n2, B', d', xs', hq⟩ := QR.ex xs[j]
    have hX := HQ.out.xsH.pure (HPK.out.trans hm4)
    obtain ⟨g, off, rfl, q0, q1, q2, q3⟩ := qcells hX hlt hq
    have hjk : j < (xs.map QR.key).length := by rw [List.length_map]; exact hlt
    have hkey : (xs.map QR.key)[j] = (QR.mk k' A' c' ws' n2 B' d' xs').key := by rw [List.getElem_map, hq]
    have hst := prL_step (k := 7) hjk
    rw [hkey] at hst
    have hkk : (QR.mk k' A' c' ws' n2 B' d' xs').key.kind = k' := by rw [QR.key_mk]; rfl
    rw [hkk, enc_7] at hst
    have hmem : QR.mk k' A' c' ws' n2 B' d' xs' ∈ xs := by rw [← hq]; exact List.getElem_mem hlt
    have hmk : (QR.mk k' A' c' ws' n2 B' d' xs').key ∈ xs.map QR.key := List.mem_map.2 ⟨_, hmem, rfl⟩
    have hms := mem_sum hmk
    have hpl := prQ_len2 _ (HBD.out.allH _ hmk)
    have hpl2 : (prQ (QR.mk k' A' c' ws' n2 B' d' xs').key).length ≤ 45000000 := by omega
    have hpa := pure_alloc wr (.cells #[.int .i64 k', .slice A' ws'.length c', .int .i64 n2, .slice B' xs'.length d'] 29)
    have hE5 := Blk.new wr 29 #[.int .i64 k', .slice A' ws'.length c', .int .i64 n2, .slice B' xs'.length d']
    have HC := Lib.hid (innerQ_calls (wr.alloc (.cells #[.int .i64 k', .slice A' ws'.length c', .int .i64 n2, .slice B' xs'.length d'] 29)) k' n2 A' B' c' d' ws' xs' _ [7] (prQ (QR.mk k' A' c' ws' n2 B' d' xs').key) ((HKS.out.pure hm4).pure hpa) hpl2 (fun W h => HIH.out _ hmem W (HW.out.pure (((HPK.out.trans hm4).trans hpa).trans h)) ((HQ.out.allH _ hmem).pure (((HPK.out.trans hm4).trans hpa).trans h)) (HR.out.allH _ hmk) (HQL.out.allH _ hmk) (HBD.out.allH _ hmk) (by omega)))
    rw [qA_mk] at HC
    have HST := Lib.hid hst
    have hpq := parQ_len ([7].any fun x => k' == x) (prQ (QR.mk k' A' c' ws' n2 B' d' xs').key)
    have HE5 := Lib.hid hE5
    have HPA := Lib.hid hpa
    clear hown4 hm4 hX hst hkey hkk hpa hq hmem hmk hms hpl HIH HBD HR HQ HQL hE5 HKS HLL
    generalize parQ ([7].any fun x => k' == x) (prQ (QR.mk k' A' c' ws' n2 B' d' xs').key) = pt at *
    generalize hPL : prL 7 0 (prA ((xs.map QR.key).take j)) = PL at *
    have HPP := Lib.hid hPL
    clear hPL
    go_upto_region 27 with (fail)
    generalize hwa : wr.alloc (.cells #[.int .i64 k', .slice A' ws'.length c', .int .i64 n2, .slice B' xs'.length d'] 29) = wa at *
    generalize hga : wr.heap.size = ga at *
    have hgw : wr.heap.size ≤ ga ∧ ga ≤ wr.heap.size := by omega
    clear hwa hga
    have hE5 := HE5.out
    have y0 := hE5.cell 0; have y1 := hE5.cell 1; have y2 := hE5.cell 2; have y3 := hE5.cell 3; simp at y0 y1 y2 y3
    clear hE5 q0 q1 q2 q3
    go_wp2_with fail
    refine HC.out.mono ?_
    rintro e w6 ⟨rfl, hm6⟩
    have HP6 := Lib.hid (HPA.out.trans hm6)
    have hs6 := HP6.out.size
    obtain ⟨A6, c6, w7, hr7, hown7, hgrow7, hat7⟩ := run_appS (w6.alloc (.cells #[.string ⟨pt.toArray⟩] 9)) 26 base PL.length w6.heap.size (.slice A4 PL.length c4) PL pt (own_pure HO.out (HP6.out.trans (pure_alloc _ _))) (Blk.new _ _ _) (by simp; omega) (by omega)
    have hol := (own_pure HO.out (HP6.out.trans (pure_alloc w6 (.cells #[.string ⟨pt.toArray⟩] 9)))).lt
    have HI7 : Hid (PtI wk base (prL 7 0 (prA ((xs.map QR.key).take (j + 1)))) (.slice A6 (PL.length + 1) c6) w7) := Lib.hid ⟨A6, c6, by rw [HST.out, List.length_append]; rfl, by rw [HST.out, List.length_append]; exact hown7, ((HM.out.trans HP6.out).trans (pure_alloc _ _)).trans' (mod_grown hgrow7) (fun i hi hlt => by have := (hol i hi).1; omega)⟩
    clear hown7 hgrow7 hat7 hol HO HM HP6 HST HPP hm6 HC HPA HE5
    go_wp2_with (at_builtin; refine wpList_append_runI rfl _ _ _ _ rfl _ _ _ _ rfl rfl hr7 ?_)
    go_roundg (xs.length - (j + 1))
    case measure => omega
    case rel => exact ⟨j + 1, rfl, by omega, by simp, HI7.out⟩
   ·obtain rfl : j = xs.length := by omega
    have hjj : ¬ ((xs.length : Nat) : Int) < (xs.length : Int) := by omega
    have hto : (xs.map QR.key).take xs.length = xs.map QR.key := List.take_of_length_le (by simp)
    rw [hto, HLL.out] at hown4 HO ⊢
    have HTX : Hid (txtQ 7 n ws L = Lib.join L [32, 111, 114, 32]) := Lib.hid rfl
    have hpl3 := HPL.out
    rw [HRES.out, HTX.out] at hpl3
    have hln : L.length = xs.length := by rw [← HLL.out, prL_len]; simp [prA]
    have HJ := Lib.hid (join_calls wr _ L [32, 111, 114, 32] (Sl.of_own hown4) (by omega) (by omega))
    have HPW := Lib.hid (HPK.out.trans hm4)
    clear hown4 hm4 HM HO HIH hto HQ HQL HR HBD hpl3 hln HLL HKS
    generalize Lib.join L [32, 111, 114, 32] = jj at *
    go_wp2_with fail
    refine HJ.out.mono ?_
    rintro e w6 ⟨rfl, hm6⟩
    have HP6 := Lib.hid (HPW.out.trans hm6)
    clear hm6 HJ
    go_wp2_with fail
    go_ret
    exact ⟨by rw [HRES.out, HTX.out]; rfl, HP6.out⟩
 have k7i : (k == 7) = false := by simpa using k7
 by_cases k8 : k = 8
 ·subst k8
  have h0 : 0 < xs.length := by
   have h := HR.out.nH rfl
   rwa [List.length_map] at h
  have hi0 : (0 : Int) < (xs.length : Int) := by omega
  obtain ⟨k', A', c', ws', n2, B', d', xs', hq⟩ := QR.ex xs[0]
  have hX := HQ.out.xsH.pure HP5.out
  obtain ⟨g, off, rfl, q0, q1, q2, q3⟩ := qcells hX h0 hq
  simp only [Nat.zero_mul, Nat.add_zero] at q0 q1 q2 q3
  have hmem : QR.mk k' A' c' ws' n2 B' d' xs' ∈ xs := by rw [← hq]; exact List.getElem_mem h0
  have hmk : (QR.mk k' A' c' ws' n2 B' d' xs').key ∈ xs.map QR.key := List.mem_map.2 ⟨_, hmem, rfl⟩
  have hpl := prQ_len2 _ (HBD.out.allH _ hmk)
  have hms := mem_sum hmk
  have hpl2 : (prQ (QR.mk k' A' c' ws' n2 B' d' xs').key).length ≤ 45000000 := by omega
  have hpa := pure_alloc w5 (.cells #[.int .i64 6, .int .i64 7] 3)
  have HC := Lib.hid (innerQ_calls (w5.alloc (.cells #[.int .i64 6, .int .i64 7] 3)) k' n2 A' B' c' d' ws' xs' (.slice (some ⟨w5.heap.size, 0, none⟩) 2 2) [6, 7] (prQ (QR.mk k' A' c' ws' n2 B' d' xs').key) (intsNew w5 [6, 7] (by decide)) hpl2 (fun W h => HIH.out _ hmem W (HW.out.pure ((HP5.out.trans hpa).trans h)) ((HQ.out.allH _ hmem).pure ((HP5.out.trans hpa).trans h)) (HR.out.allH _ hmk) (HQL.out.allH _ hmk) (HBD.out.allH _ hmk) (by omega)))
  have HTX : Hid (txtQ 8 n ws L = ([110, 111, 116, 32] : Str) ++ parQ ([6, 7].any fun x => k' == x) (prQ (QR.mk k' A' c' ws' n2 B' d' xs').key)) := Lib.hid (by
   show ([110, 111, 116, 32] : Str) ++ L.getD 0 [] = _
   rw [← HLL.out, prA_get h0 hq, enc_8, show (QR.mk k' A' c' ws' n2 B' d' xs').key.kind = k' by rw [QR.key_mk]; rfl])
  have HPA := Lib.hid hpa
  rw [qA_mk] at HC
  have hpq := parQ_len ([6, 7].any fun x => k' == x) (prQ (QR.mk k' A' c' ws' n2 B' d' xs').key)
  clear hpa hmem hmk hpl hms hX hq HWS5 HR HBD HQ HIH HQL HLL HB5
  generalize parQ ([6, 7].any fun x => k' == x) (prQ (QR.mk k' A' c' ws' n2 B' d' xs').key) = tx at *
  have hts := size_str tx
  go_upto_region 17 with (fail)
  go_wp2_with fail
  refine HC.out.mono ?_
  rintro e w6 ⟨rfl, hm6⟩
  have HP6 := Lib.hid ((HP5.out.trans HPA.out).trans hm6)
  clear hm6 HC HPA
  go_wp2_with fail
  go_ret
  exact ⟨by rw [HRES.out, HTX.out, ← bytes_app]; rfl, HP6.out⟩
 have k8i : (k == 8) = false := by simpa using k8
 by_cases k9 : k = 9
 ·subst k9
  have hw0 : 0 < ws.length := by have := HR.out.wH (by omega); omega
  obtain ⟨g, off, rfl, hr⟩ := (HWS5.out).rowS hw0
  have q0 := hr.cell (strsV_get ws 0 hw0)
  have hwi : (0 : Int) < (ws.length : Int) := by omega
  have HTX : Hid (txtQ 9 n ws L = ([111, 119, 110, 101, 114, 58] : Str) ++ ws[0]) := Lib.hid (by show ([111, 119, 110, 101, 114, 58] : Str) ++ ws.getD 0 [] = _; simp [List.getD, hw0])
  have hsl := size_str ws[0]
  have hsm := HBD.out.wsH.2 ws[0] (List.getElem_mem hw0)
  simp only [Nat.add_zero] at q0
  clear hr HWS5 HR HBD HQ HIH HQL
  generalize ws[0] = s0 at *
  go_wp2_with fail
  go_ret
  exact ⟨by rw [HRES.out, HTX.out, ← bytes_app]; rfl, HP5.out⟩
 have k9i : (k == 9) = false := by simpa using k9
 by_cases k10 : k = 10
 ·subst k10
  have HTX : Hid (txtQ 10 n ws L = ([107, 105, 110, 100, 58] : Str) ++ kwQ n) := Lib.hid rfl
  have hn14 := HQL.out.nH rfl
  have HKW := Lib.hid (kindWordR_calls n w5 hn14.1 hn14.2)
  have hkl := kwQ_len n
  have hks := size_str (kwQ n)
  clear HWS5 HR HBD HQ HIH HQL
  generalize kwQ n = kn at *
  go_wp2_with fail
  refine HKW.out.mono ?_
  rintro e w6 ⟨rfl, hw6⟩
  subst hw6
  clear HKW
  go_wp2_with fail
  go_ret
  exact ⟨by rw [HRES.out, HTX.out, ← bytes_app]; rfl, HP5.out⟩
 have k10i : (k == 10) = false := by simpa using k10
 by_cases k11 : k = 11
 ·subst k11
  have hw0 : 0 < ws.length := by have := HR.out.wH (by omega); omega
  obtain ⟨g, off, rfl, hr⟩ := (HWS5.out).rowS hw0
  have q0 := hr.cell (strsV_get ws 0 hw0)
  have hwi : (0 : Int) < (ws.length : Int) := by omega
  have HTX : Hid (txtQ 11 n ws L = ([110, 97, 109, 101, 58] : Str) ++ ws[0]) := Lib.hid (by show ([110, 97, 109, 101, 58] : Str) ++ ws.getD 0 [] = _; simp [List.getD, hw0])
  have hsl := size_str ws[0]
  have hsm := HBD.out.wsH.2 ws[0] (List.getElem_mem hw0)
  simp only [Nat.add_zero] at q0
  clear hr HWS5 HR HBD HQ HIH HQL
  generalize ws[0] = s0 at *
  go_wp2_with fail
  go_ret
  exact ⟨by rw [HRES.out, HTX.out, ← bytes_app]; rfl, HP5.out⟩
 have k11i : (k == 11) = false := by simpa using k11
 by_cases k12 : k = 12
 ·subst k12
  have HTX : Hid (txtQ 12 n ws L = ([102, 114, 111, 109, 58] : Str) ++ Lib.itoa n) := Lib.hid rfl
  have hsi := size_str (Lib.itoa n)
  clear HWS5 HR HBD HQ HIH HQL
  generalize Lib.itoa n = sn at *
  go_wp2_with fail
  go_ret
  exact ⟨by rw [HRES.out, HTX.out, ← bytes_app]; rfl, HP5.out⟩
 have k12i : (k == 12) = false := by simpa using k12
 obtain rfl : k = 13 := by have := HR.out.kH; omega
 have HTX : Hid (txtQ 13 n ws L = ([117, 110, 116, 105, 108, 58] : Str) ++ Lib.itoa n) := Lib.hid rfl
 have hsi := size_str (Lib.itoa n)
 clear HWS5 HR HBD HQ HIH HQL
 generalize Lib.itoa n = sn at *
 go_wp2_with fail
 go_ret
 exact ⟨by rw [HRES.out, HTX.out, ← bytes_app]; rfl, HP5.out⟩

end Go.Proofs.YtnfflgicngeekaaGreatDoor

/- ahead: the places from one of a to one of b behind it (package query). -/
namespace Go.Proofs.YtnfflgicngeekaaGreatDoor
set_option linter.unusedVariables false
set_option linter.unusedSimpArgs false
open Go.RowKit
theorem info_boolQ : (Tryz.prog.info? 4).map (fun i => (i.zero, i.size, i.bytes)) = some (some (.bool false), 1, 1) := by kernel_rfl
theorem upd_self {α : Type} (f : Nat → α) (e : Nat) : upd f e (f e) = f := by
 funext i
 unfold upd
 split
 ·rename_i h; rw [h]
 ·rfl
theorem upd_upd {α : Type} (f : Nat → α) (e : Nat) (a b : α) : upd (upd f e a) e b = upd f e b := by
 funext i
 unfold upd
 split <;> rfl
theorem upd_bool (kf : Nat → Bool) (e : Nat) : upd (fun i => Value.bool (kf i)) e (.bool true) = fun i => Value.bool (upd kf e true i) := by
 funext i
 unfold upd
 split <;> rfl
/-- The tables of ahead: what is behind each word, and whether it is known. -/
def TabI (w : World) (gB gK W : Nat) (bv : Nat → Value) (kf : Nat → Bool) (R : Nat → List Nat) : Prop := RangeB w gB 22 (W + 1) bv ∧ RangeB w gK 4 (W + 1) (fun e => .bool (kf e)) ∧ KnwI w bv kf R W
def BK (gB gK : Nat) : Nat → Prop := fun j => j = gB ∨ j = gK
theorem blk_int {w : World} {g : Nat} {t : TypeId} {N : Nat} {f : Nat → Value} (h : RangeB w g t N f) (hne : t ≠ 3) : ∀ g' arr fr, w.heap[g']? = some (.cells arr 3 fr) → ¬ g' = g := by
 intro g' arr fr hg e
 subst e
 unfold RangeB Blk at h
 rw [h] at hg
 injection hg with hg
 injection hg with _ hg
 exact hne hg
theorem bk_int {w : World} {gB gK W : Nat} {bv : Nat → Value} {kf : Nat → Bool} {R : Nat → List Nat} (h : TabI w gB gK W bv kf R) : ∀ g' arr fr, w.heap[g']? = some (.cells arr 3 fr) → ¬ BK gB gK g' := by
 rintro g' arr fr hg (e | e)
 ·exact blk_int h.1 (by decide) g' arr fr hg e
 ·exact blk_int h.2.1 (by decide) g' arr fr hg e
theorem TabI.pure {w w' : World} {gB gK W : Nat} {bv : Nat → Value} {kf : Nat → Bool} {R : Nat → List Nat} (h : TabI w gB gK W bv kf R) (hm : Pure w w') : TabI w' gB gK W bv kf R := ⟨h.1.mod hm (fun h => h), h.2.1.mod hm (fun h => h), h.2.2.pure hm⟩
/-- The rows of the table lie in blocks that are there, and in another one than a slice. -/
def AvI (w : World) (W : Nat) (bv : Nat → Value) (v : Value) : Prop := ∀ e, e < W → ∀ g, (bv e).ownBlock = some g → g < w.heap.size ∧ v.ownBlock ≠ some g
theorem AvI.big {w w' : World} {W : Nat} {bv : Nat → Value} {v : Value} (h : AvI w W bv v) (hs : w.heap.size ≤ w'.heap.size) : AvI w' W bv v := fun e he g hg => ⟨Nat.lt_of_lt_of_le (h e he g hg).1 hs, (h e he g hg).2⟩
theorem AvI.to {w : World} {W : Nat} {bv : Nat → Value} {v v' : Value} (h : AvI w W bv v) (hv : v'.ownBlock = v.ownBlock ∨ ∃ k, v'.ownBlock = some k ∧ w.heap.size ≤ k) : AvI w W bv v' := by
 intro e he g hg
 obtain ⟨h1, h2⟩ := h e he g hg
 refine ⟨h1, ?_⟩
 rcases hv with hv | ⟨k, hv, hk⟩
 ·rw [hv]; exact h2
 ·rw [hv]
  intro hh
  injection hh with hh
  omega
theorem AvI.nil {w : World} {W : Nat} {bv : Nat → Value} {v : Value} (h : AvI w W bv v) : AvI w W bv (.slice none 0 0) := fun e he g hg => ⟨(h e he g hg).1, fun hh => by cases hh⟩
theorem mod_setK (w : World) (g i : Nat) (v : Value) : Mod (· = g) w (w.setCell ⟨g, i, none⟩ v) := Mod.setCell (S := fun k => k = g) (p := ⟨g, i, none⟩) (Mod.refl _ _) (.inl rfl) v
theorem TabI.own {w w' : World} {gB gK W : Nat} {bv : Nat → Value} {kf : Nat → Bool} {R : Nat → List Nat} {v : Value} (h : TabI w gB gK W bv kf R) (ha : AvI w W bv v) (hm : Mod (fun k => v.ownBlock = some k) w w') (hB : v.ownBlock ≠ some gB) (hK : v.ownBlock ≠ some gK) : TabI w' gB gK W bv kf R :=
 ⟨h.1.mod hm hB, h.2.1.mod hm hK, fun e he => ⟨(h.2.2 e he).1, fun hk => ⟨((h.2.2 e he).2 hk).1.mod_ob hm (fun g hg => (ha e he g hg).2), ((h.2.2 e he).2 hk).2⟩⟩⟩
set_option maxRecDepth 100000 in
set_option maxHeartbeats 8000000 in
theorem ahead_calls (w : World) (va vb : Value) (W : Nat) (F G : Nat → Nat → Bool) (n : Int) (ha : SlI w va (rowsQ W F)) (hb : SlI w vb (rowsQ W G)) (hW : W ≤ 1000) (hn0 : 0 ≤ n) (hn1 : n ≤ 20) : Calls Tryz.prog 210 #[va, vb, .int .i64 n] w (RnP w W (cutB F G n W)) := by
 obtain ⟨Aa, ca, rfl, hca, hca2⟩ := ha.form
 obtain ⟨Ab, cb, rfl, hcb, hcb2⟩ := hb.form
 have HA := Lib.hid ha
 have HB := Lib.hid hb
 have hmk1 := run_make_one (P := Tryz.prog) 94 22 (.slice none 0 0) 24 Tryz.underlying94 info_intsQ rfl .i64 .i64 (W + 1) ((W : Int) + 1) (by omega) (by omega) (by omega) (Array.replicate (W + 1) (Value.slice none 0 0)) (by simp)
 have hmk2 := run_make_one (P := Tryz.prog) 273 4 (.bool false) 1 Tryz.underlying273 info_boolQ rfl .i64 .i64 (W + 1) ((W : Int) + 1) (by omega) (by omega) (by omega) (Array.replicate (W + 1) (Value.bool false)) (by simp)
 have hmk3 := run_make_one (P := Tryz.prog) 185 22 (.slice none 0 0) 24 Tryz.underlying185 info_intsQ rfl .i64 .i64 W (W : Int) rfl (by omega) (by omega) (Array.replicate W (Value.slice none 0 0)) (by simp)
 simp only [rowsQ_len] at *
 clear ha hb
 have HBB := Lib.hid (((RangeB.new w 22 (W + 1) (.slice none 0 0)).alloc (.cells (Array.replicate (W + 1) (Value.bool false)) 4)).alloc (.cells (Array.replicate W (Value.slice none 0 0)) 22))
 have HKK := Lib.hid ((RangeB.new (w.alloc (.cells (Array.replicate (W + 1) (Value.slice none 0 0)) 22)) 4 (W + 1) (.bool false)).alloc (.cells (Array.replicate W (Value.slice none 0 0)) 22))
 have HO := Lib.hid (OutB.new ((w.alloc (.cells (Array.replicate (W + 1) (Value.slice none 0 0)) 22)).alloc (.cells (Array.replicate (W + 1) (Value.bool false)) 4)) W)
 rw [List.toArray_replicate] at HO
 have HM : Hid (Pure w (((w.alloc (.cells (Array.replicate (W + 1) (Value.slice none 0 0)) 22)).alloc (.cells (Array.replicate (W + 1) (Value.bool false)) 4)).alloc (.cells (Array.replicate W (Value.slice none 0 0)) 22))) := Lib.hid ((((Mod.refl _ _).alloc _).alloc _).alloc _)
 go_enter Tryz.func210, Tryz.ntmps210
 go_wp2_with fail
 clear hmk1 hmk2 hmk3
 obtain ⟨gB, hgB⟩ : ∃ g, w.heap.size = g := ⟨_, rfl⟩
 have HSZ : Hid ((w.alloc (.cells (Array.replicate (W + 1) (Value.slice none 0 0)) 22)).heap.size = gB + 1 ∧ ((w.alloc (.cells (Array.replicate (W + 1) (Value.slice none 0 0)) 22)).alloc (.cells (Array.replicate (W + 1) (Value.bool false)) 4)).heap.size = gB + 1 + 1) := Lib.hid (by constructor <;> simp <;> omega)
 rw [hgB] at HBB
 rw [HSZ.out.1] at HKK
 rw [HSZ.out.2] at HO
 generalize (((w.alloc (.cells (Array.replicate (W + 1) (Value.slice none 0 0)) 22)).alloc (.cells (Array.replicate (W + 1) (Value.bool false)) 4)).alloc (.cells (Array.replicate W (Value.slice none 0 0)) 22)) = w1 at *
 try simp only [hgB]
 obtain ⟨gK, hgK⟩ : ∃ g, gB + 1 = g := ⟨_, rfl⟩
 rw [hgK] at HKK HO
 try simp only [hgK]
 obtain ⟨gO, hgO⟩ : ∃ g, gK + 1 = g := ⟨_, rfl⟩
 rw [hgO] at HO
 try simp only [hgO]
 have hl1 : w.heap.size ≤ gB := by omega
 have hl2 : gB < gK := by omega
 have hl3 : gK < gO := by omega
 clear hgB hgK hgO HSZ
 have HT : Hid (TabI w1 gB gK W (fun _ => .slice none 0 0) (fun _ => false) (fun e => rowQ W (behB G n W e))) := Lib.hid ⟨HBB.out, HKK.out, fun e he => ⟨fun _ => rfl, fun h => by cases h⟩⟩
 clear HBB HKK
 go_loopg [28] W (fun gk i wr => ∃ (k : Nat) (us : List Value) (bv : Nat → Value) (kf : Nat → Bool), W - k = gk ∧ k ≤ W ∧ i = .int .i64 (k : Int) ∧ us.length = k ∧ OutB wr gO us W ∧ RowsU wr us ((rowsQ W (cutB F G n W)).take k) ∧ TabI wr gB gK W bv kf (fun e => rowQ W (behB G n W e)) ∧ AvI wr W bv (.slice none 0 0) ∧ Pure w wr)
 case atStart => exact ⟨0, [], _, _, by omega, by omega, rfl, rfl, HO.out, RowsU.nil, HT.out, (fun e he g hg => by cases hg), HM.out⟩
 case round =>
  clear HO HM HT
  obtain ⟨k, us, bv, kf, rfl, hk, rfl, hul, hO, hR, hT, hAV, hm⟩ := hrel
  have HAV := Lib.hid hAV
  have HO := Lib.hid hO
  have HR := Lib.hid hR
  have HT := Lib.hid hT
  have HM := Lib.hid hm
  have HU := Lib.hid hul
  clear hO hR hT hm hul hAV
  generalize wr = w2 at *
  by_cases hlt : k < W
  ·obtain ⟨ga, oa, A1, c1, rfl, qa, sa, na⟩ := (HA.out.pure HM.out).at (i := k) (by rw [rowsQ_len]; exact hlt)
   rw [rowsQ_at] at qa sa na
   have HSA := Lib.hid sa
   have hcl := sa.lenI.2
   clear sa na
   have hgO2 := HO.out.lt
   have hgB2 := HT.out.1.lt
   have hgK2 := HT.out.2.1.lt
   have hral := rowQ_len W (F k)
   have hszw := HM.out.size
   go_wp2_with fail
   go_loopg [11, 36] (rowQ W (F k)).length (fun gk l i wx => ∃ (t : Nat) (A : Option Addr) (c : Nat) (bv : Nat → Value) (kf : Nat → Bool), (rowQ W (F k)).length - t = gk ∧ t ≤ (rowQ W (F k)).length ∧ i = .int .i64 (t : Int) ∧ l = .slice A (gatB F G n W k t).length c ∧ wx.ownsRow w2.heap.size 3 1 (.slice A (gatB F G n W k t).length c) (gatB F G n W k t).length (nvQ (gatB F G n W k t)) ∧ TabI wx gB gK W bv kf (fun e => rowQ W (behB G n W e)) ∧ AvI wx W bv (.slice A (gatB F G n W k t).length c) ∧ Mod (BK gB gK) w2 wx)
   case atStart => exact ⟨0, none, 0, bv, kf, by omega, by omega, rfl, rfl, ⟨rfl, .inl ⟨rfl, rfl⟩⟩, HT.out, HAV.out.nil, Mod.refl _ _⟩
   case round =>
    obtain ⟨t, A, c, bv2, kf2, rfl, ht, rfl, rfl, hown, hT, hA2, hm⟩ := hrel
    have HAX := Lib.hid hA2
    have HOW := Lib.hid hown
    have HTX := Lib.hid hT
    have HMX := Lib.hid hm
    have hgl := Nat.le_trans (gatB_len F G n W k t ht) (Nat.mul_le_mul (show t ≤ 1000 by omega) hW)
    clear hown hT hm hA2
    by_cases htl : t < (rowQ W (F k)).length
    ·have heW : (rowQ W (F k))[t] < W := (rowQ_mem.1 (List.getElem_mem htl)).1
     obtain ⟨g1, o1, hA1, hr1⟩ := (HSA.out.mod HMX.out (bk_int HT.out)).rowS (by omega)
     subst hA1
     have q1 := hr1.cell (nvQ_get _ t htl)
     have HGS := Lib.hid (gatB_succ F G n W k htl)
     have hgl2 := Nat.le_trans (gatB_len F G n W k (t + 1) htl) (Nat.mul_le_mul (show t + 1 ≤ 1000 by omega) hW)
     rw [HGS.out, List.length_append] at hgl2
     clear hr1
     generalize (rowQ W (F k))[t] = e at *
     have k1 := HTX.out.2.1.cell (show e < W + 1 by omega)
     have k2 := HTX.out.2.1.frozen e
     go_upto_if 44 with (fail)
     go_cut [] (fun wy => ∃ (bv3 : Nat → Value) (kf3 : Nat → Bool), kf3 e = true ∧ TabI wy gB gK W bv3 kf3 (fun e => rowQ W (behB G n W e)) ∧ AvI wy W bv3 (.slice A (gatB F G n W k t).length c) ∧ wy.ownsRow w2.heap.size 3 1 (.slice A (gatB F G n W k t).length c) (gatB F G n W k t).length (nvQ (gatB F G n W k t)) ∧ Mod (BK gB gK) w2 wy)
     case first =>
      cases hke : kf2 e
      ·rw [hke] at k1
       have hbe := (HTX.out.2.2 e heW).1 hke
       obtain ⟨S, hS⟩ : ∃ S, S = min (e + 2 + n.toNat) W := ⟨_, rfl⟩
       have hS1 : e + 1 ≤ S := by omega
       have hS2 : S ≤ W := by omega
       have hS3 : (S : Int) ≤ (e : Int) + 2 + n := by omega
       have hS4 : S = W ∨ (e : Int) + 1 + n < S := by omega
       have hS5 : (if ((W : Int) - 1) < ((e : Int) + 1 + n) then (W : Int) - 1 else (e : Int) + 1 + n) = (S : Int) - 1 := by split <;> omega
       have HBR := Lib.hid (behRow (B := G) (n := n) (W := W) (e := e) (s := S) hS2 hS1 hn0 hS3 hS4)
       clear hS hS3 hS4
       have hstK : Mod (BK gB gK) wr (wr.setCell ⟨gK, e, none⟩ (.bool true)) := (mod_setK wr gK e (.bool true)).mono (fun i hi => .inr hi)
       have HB3 : Hid (RangeB (wr.setCell ⟨gK, e, none⟩ (.bool true)) gB 22 (W + 1) bv2) := Lib.hid (HTX.out.1.far (by show gB ≠ gK; omega) _)
       have HK3 : Hid (RangeB (wr.setCell ⟨gK, e, none⟩ (.bool true)) gK 4 (W + 1) (fun i => .bool (upd kf2 e true i))) := Lib.hid (by rw [← upd_bool]; exact HTX.out.2.1.set e _)
       have HN3 := Lib.hid (HTX.out.2.2.mod hstK (bk_int HTX.out))
       have HO3 := Lib.hid (own_mod HOW.out hstK (fun g hg hh => by have := own_block HOW.out g hg; rcases hh with h | h <;> omega))
       have HM3 := Lib.hid (HMX.out.trans hstK)
       have HA3 := Lib.hid (HAX.out.big hstK.size)
       clear hstK
       go_upto_region 13 with (fail)
       generalize (wr.setCell ⟨gK, e, none⟩ (.bool true)) = w3 at *
       clear k1 k2 q1
       have hg3 := HB3.out.lt
       have hw3 := HM3.out.size
       go_wp2_with fail
       go_loopg [14] (S - (e + 1)) (fun gk x wz => ∃ (s : Nat) (A3 : Option Addr) (c3 : Nat), S - s = gk ∧ e + 1 ≤ s ∧ s ≤ S ∧ x = .int .i64 (s : Int) ∧ RangeB wz gB 22 (W + 1) (upd bv2 e (.slice A3 (catB G W e s).length c3)) ∧ wz.ownsRow w3.heap.size 3 1 (.slice A3 (catB G W e s).length c3) (catB G W e s).length (nvQ (catB G W e s)) ∧ Mod (· = gB) w3 wz)
       case atStart => exact ⟨e + 1, none, 0, by omega, Nat.le_refl _, hS1, by simp, by rw [catB_zero]; show RangeB _ _ _ _ (upd bv2 e (.slice none 0 0)); rw [← hbe, upd_self]; exact HB3.out, by rw [catB_zero]; exact ⟨rfl, .inl ⟨rfl, rfl⟩⟩, Mod.refl _ _⟩
       case round =>
        obtain ⟨s, A3, c3, rfl, hs1, hs2, rfl, hRB, hown3, hm⟩ := hrel
        have HRB := Lib.hid hRB
        have HOWN := Lib.hid hown3
        have HMZ := Lib.hid hm
        have hgz := hRB.lt
        have hsz := hm.size
        have hc1 := hRB.cell (show e < W + 1 by omega)
        rw [upd_same] at hc1
        have hc2 := hRB.frozen e
        clear hRB hown3 hm
        generalize wr = w4 at *
        by_cases hlt3 : s < S
        ·have hle : (s : Int) ≤ (S : Int) - 1 := by omega
         have HP4 : Hid (Pure w w4) := Lib.hid ((HM.out.trans' HM3.out (fun i hi hlt => by rcases hi with h | h <;> omega)).trans' HMZ.out (fun i hi hlt => by omega))
         obtain ⟨gb, ob, A2, c2, hAb, qb, sb, nb⟩ := (HB.out.pure HP4.out).at (i := s) (by rw [rowsQ_len]; omega)
         subst hAb
         rw [rowsQ_at] at qb sb nb
         have hcs := catB_len G W e (s - (e + 1))
         rw [show e + 1 + (s - (e + 1)) = s by omega] at hcs
         have hcs2 := Nat.le_trans hcs (Nat.mul_le_mul (show s - (e + 1) ≤ 1000 by omega) hW)
         have hrw := rowQ_len W (G s)
         have HCS := Lib.hid (catB_succ G W e s hs1)
         have hd : Pure w4 w4.drew := (Mod.refl _ _).drew
         obtain ⟨A5, c5, w5, hr5, hown5, hgrow5, hb5⟩ := run_appI w4.drew 22 w3.heap.size _ _ _ _ (rowQ W (G s)) (own_pure HOWN.out hd) (sb.pure hd) nb (by have := hd.size; omega) (by omega)
         have hob := own_block HOWN.out
         have hm5 : Mod (· = gB) w3 w5 := (HMZ.out.drew).trans' (mod_grown hgrow5) (fun i hi hlt => by have := hob i hi; omega)
         have hRB5 := (HRB.out.mod hd (fun h => h)).mod (mod_grown hgrow5) (fun h => by have := hob _ h; omega)
         have hd1 := hRB5.cell (show e < W + 1 by omega)
         rw [upd_same] at hd1
         have hd2 := hRB5.frozen e
         have HRB5 := Lib.hid hRB5
         have HR5 := Lib.hid hr5
         have HM5 := Lib.hid hm5
         have HO5 := Lib.hid hown5
         clear hcs hcs2 hb5 hob hm5 hRB5 hr5 hown5 hgrow5 sb nb hd
         generalize rowQ W (G s) = rs at *
         rw [← List.length_append, ← nvQ_append] at HO5
         rw [← List.length_append] at HR5
         have hi1 : (e : Int) < (W : Int) + 1 := by omega
         have hi2 : e < W + 1 := by omega
         have hi3 : (s : Int) < (W : Int) := by omega
         have hi4 : s < W := by omega
         have hi5 : (0 : Int) ≤ (e : Int) := by omega
         have hi6 : (0 : Int) ≤ (s : Int) := by omega
         go_upto_region 16 with (fail)
         go_region_law (refine step_append_I rfl (.tmp 67) (.tmp 71) 22 rfl _ _ _ _ (by simp [Act.eval, Act.put]) (by simp [Act.eval, Act.put]) HR5.out ?_)
         all_goals
          go_wp2_with fail
          go_roundg (S - (s + 1))
          case measure => omega
          case rel => exact ⟨s + 1, A5, c5, rfl, by omega, by omega, by simp, by rw [HCS.out, List.length_append]; have h := HRB5.out.set e (.slice A5 ((catB G W e s).length + rs.length) c5); rw [upd_upd] at h; exact h, by rw [HCS.out]; exact own_mod HO5.out (mod_setK _ _ _ _) (fun g hg hh => by have := own_block HO5.out g hg; omega), HM5.out.trans (mod_setK _ _ _ _)⟩
        ·obtain rfl : s = S := by omega
         have hle : ¬ ((s : Int) ≤ (s : Int) - 1) := by omega
         have hcs := catB_len G W e (s - (e + 1))
         rw [show e + 1 + (s - (e + 1)) = s by omega] at hcs
         have hcs2 := Nat.le_trans hcs (Nat.mul_le_mul (show s - (e + 1) ≤ 1000 by omega) hW)
         have HOB := Lib.hid (own_block HOWN.out)
         have HSO := Lib.hid (sortI_calls w4 _ _ _ (castI (catB G W e s)) (by rw [ivQ_cast]; exact HOWN.out) (by rw [castI_len]; omega))
         have HCL : Hid ((castI (catB G W e s)).length ≤ 1000000) := Lib.hid (by rw [castI_len]; exact hcs2)
         clear hcs hcs2 hs1 hs2 hlt3
         generalize hcat : catB G W e s = cat at *
         clear hcat
         go_wp2_with fail
         refine HSO.out.mono ?_
         rintro e' w5 ⟨rfl, hq, hm5⟩
         have HCO := Lib.hid (compactI_calls w5 _ _ _ _ hq (by rw [List.length_mergeSort]; have := HCL.out; omega))
         have HM5 : Hid (Mod (· = gB) w3 w5) := Lib.hid (HMZ.out.trans' hm5 (fun i hi hlt => by have := HOB.out i hi; omega))
         have hRB5 := HRB.out.mod hm5 (fun h => by have := HOB.out _ h; omega)
         have hd1 := hRB5.cell (show e < W + 1 by omega)
         rw [upd_same] at hd1
         have HRB5 := Lib.hid hRB5
         clear hq hm5 hRB5 HSO hc1 hc2
         go_wp2_with fail
         refine HCO.out.mono ?_
         rintro e' w6 ⟨v4, rfl, hq, hbk, hm6⟩
         obtain ⟨A6, n6, c6, rfl⟩ := (Sl.of_own hq).form
         rw [HBR.out, castI_len, ivQ_cast] at hq
         have HM6 : Hid (Mod (· = gB) w3 w6) := Lib.hid (HM5.out.trans' hm6 (fun i hi hlt => by have := HOB.out i hi; omega))
         have hRB6 := HRB5.out.mod hm6 (fun h => by have := HOB.out _ h; omega)
         have he1 := hRB6.cell (show e < W + 1 by omega)
         rw [upd_same] at he1
         have he2 := hRB6.frozen e
         have HRB6 := Lib.hid hRB6
         have HQ6 := Lib.hid hq
         clear hq hm6 hRB6 HCO hd1 HRB5 hbk
         go_wp2_with fail
         go_meet
         have hst := mod_setK w6 gB e (.slice A6 n6 c6)
         have hmf : Mod (· = gB) w3 (w6.setCell ⟨gB, e, none⟩ (.slice A6 n6 c6)) := HM6.out.trans hst
         have hown6 := own_mod HQ6.out hst (fun g hg hh => by have := own_block HQ6.out g hg; omega)
         have hint := blk_int HB3.out (by decide)
         have hRBf := HRB6.out.set e (.slice A6 n6 c6)
         rw [upd_upd] at hRBf
         refine ⟨upd bv2 e (.slice A6 n6 c6), upd kf2 e true, upd_same _ _ _, ⟨hRBf, HK3.out.mod hmf (by omega), KnwI.add (HN3.out.mod hmf hint) (Sl.of_own hown6) (own_NilOk hown6)⟩, ?_, own_mod HO3.out hmf (fun g hg hh => by have := own_block HO3.out g hg; omega), HM3.out.trans (hmf.mono (fun i hi => .inl hi))⟩
         intro e2 he2 g2 hg2
         by_cases hee : e2 = e
         ·subst hee
          rw [upd_same] at hg2
          obtain ⟨arr, harr⟩ := own_heap hown6 hg2
          have h1 := own_block HQ6.out _ hg2
          refine ⟨lt_of_heap harr, fun hh => ?_⟩
          obtain ⟨arr2, harr2⟩ := own_heap HO3.out hh
          have := lt_of_heap harr2
          omega
         ·rw [upd_ne _ _ hee] at hg2
          exact (HA3.out.big hmf.size) e2 he2 g2 hg2
      ·rw [hke] at k1
       go_wp2_with fail
       go_meet
       exact ⟨bv2, kf2, hke, HTX.out, HAX.out, HOW.out, HMX.out⟩
     case rest =>
      obtain ⟨bv3, kf3, hk3, hT3, hA3, hO3, hM3⟩ := hcut
      have HK3 := hk3
      obtain ⟨hs3, hn3⟩ := (hT3.2.2 e heW).2 hk3
      have c3 := hT3.1.cell (show e < W + 1 by omega)
      obtain ⟨Ae, ne, ce, hbe⟩ := hs3.form
      rw [hbe] at c3 hs3 hn3
      have hob := own_block hO3
      have hM3s := hM3.size
      obtain ⟨A5, c5, w5, hr5, hown5, hgrow5, hb5⟩ := run_appI wc 22 w2.heap.size _ _ _ _ (rowQ W (behB G n W e)) hO3 hs3 hn3 (by omega) (by omega)
      have HR5 := Lib.hid hr5
      have HT3 := Lib.hid hT3
      have HA3 := Lib.hid hA3
      have HM3 := Lib.hid hM3
      have HO5 := Lib.hid hown5
      have HG5 := Lib.hid (mod_grown hgrow5)
      have HB5 := Lib.hid hb5
      have HOB := Lib.hid hob
      clear hs3 hn3 hT3 hA3 hO3 hM3 hr5 hown5 hgrow5 hb5 hob k1 k2 q1 HTX HAX HOW HMX
      generalize wc = w4 at *
      rw [← List.length_append] at hgl2 HR5 HO5 HB5
      go_wp2_with (at_builtin; refine wpList_append_runI rfl (.tmp 87) (.tmp 91) _ _ rfl _ _ _ _ rfl rfl HR5.out ?_)
      go_roundg ((rowQ W (F k)).length - (t + 1))
      case measure => omega
      case rel =>
       have hob : ∀ g, (Value.slice A (gatB F G n W k t).length c).ownBlock = some g → ¬ BK gB gK g := fun g hg hh => by have := HOB.out g hg; rcases hh with h | h <;> omega
       refine ⟨t + 1, A5, c5, bv3, kf3, rfl, htl, by simp, by rw [HGS.out, List.length_append], by rw [HGS.out]; simpa [nvQ_append] using HO5.out, HT3.out.own HA3.out HG5.out (fun h => hob _ h (.inl rfl)) (fun h => hob _ h (.inr rfl)), ?_, HM3.out.trans' HG5.out (fun i hi hlt => by have := HOB.out _ hi; omega)⟩
       rw [HGS.out]
       refine (HA3.out.to ?_).big HG5.out.size
       rcases HB5.out with h | h
       ·exact .inl h
       ·exact .inr ⟨_, h, Nat.le_refl _⟩
    ·obtain rfl : t = (rowQ W (F k)).length := by omega
     have HCR := Lib.hid (cutRow (A := F) (B := G) (n := n) (W := W) (i := k))
     have HTK : Hid ((rowsQ W (cutB F G n W)).take (k + 1) = (rowsQ W (cutB F G n W)).take k ++ [rowQ W (cutB F G n W k)]) := Lib.hid (by
      rw [List.take_succ_eq_append_getElem (by rw [rowsQ_len]; exact hlt), rowsQ_at])
     have hszx := HMX.out.size
     have hob := Lib.hid (own_block HOW.out)
     have HSO := Lib.hid (sortI_calls wr _ _ _ (castI (gatB F G n W k (rowQ W (F k)).length)) (by rw [ivQ_cast]; exact HOW.out) (by rw [castI_len]; omega))
     have HGL : Hid ((castI (gatB F G n W k (rowQ W (F k)).length)).length ≤ 1000000) := Lib.hid (by rw [castI_len]; exact hgl)
     clear hgl
     generalize gatB F G n W k (rowQ W (F k)).length = gl at *
     generalize hra : (rowQ W (F k)).length = nra at *
     clear hra
     go_wp2_with fail
     refine HSO.out.mono ?_
     rintro e w3 ⟨rfl, hq, hm3⟩
     have HM3 : Hid (Mod (fun k => (Value.slice A gl.length c).ownBlock = some k) wr w3) := Lib.hid hm3
     have HCO := Lib.hid (compactI_calls w3 _ _ _ _ hq (by rw [List.length_mergeSort]; have := HGL.out; omega))
     clear hq hm3 HSO
     go_wp2_with fail
     refine HCO.out.mono ?_
     rintro e w4 ⟨v4, rfl, hq, hbk, hm4⟩
     obtain ⟨A4, n4, c4, rfl⟩ := (Sl.of_own hq).form
     rw [HCR.out, castI_len, ivQ_cast] at hq
     have HQ := Lib.hid hq
     have HM4 : Hid (Mod (fun k => (Value.slice A gl.length c).ownBlock = some k) wr w4) := Lib.hid (HM3.out.trans hm4)
     have HMX4 : Hid (Mod (BK gB gK) w2 w4) := Lib.hid (HMX.out.trans' HM4.out (fun i hi hlt => by have := hob.out _ hi; omega))
     have HO4 := Lib.hid (HO.out.mod HMX4.out (by rintro (h | h) <;> omega))
     have HR4 := Lib.hid (HR.out.mod HMX4.out (bk_int HT.out))
     have HT4 := Lib.hid (HTX.out.own HAX.out HM4.out (fun h => by have := hob.out _ h; omega) (fun h => by have := hob.out _ h; omega))
     have HM5 : Hid (Pure w w4) := Lib.hid (HM.out.trans' HMX4.out (fun i hi hlt => by rcases hi with h | h <;> omega))
     have HA4 := Lib.hid ((HAX.out.big HM4.out.size).nil)
     obtain ⟨x0, xf0⟩ := HO4.out.cellk HU.out.symm (by rw [HU.out]; exact hlt)
     have hw4 := HMX4.out.size
     clear hq hm4 HCO HM3 HO HR HTX HAX HMX HM HAV HSA HOW HT
     go_wp2_with fail
     go_roundg (W - (k + 1))
     case measure => omega
     case rel =>
      have hne : ∀ i, i = gO → ¬ BK gB gK i := fun i hi hh => by rcases hh with h | h <;> omega
      refine ⟨k + 1, us ++ [.slice A4 n4 c4], bv2, kf2, rfl, hlt, by simp, by simp [HU.out], HO4.out.snoc HU.out.symm (by rw [HU.out]; exact hlt) _, ?_, ⟨HT4.out.1.far (by show gB ≠ gO; omega) _, HT4.out.2.1.far (by show gK ≠ gO; omega) _, fun e he => ⟨(HT4.out.2.2 e he).1, fun hk => ⟨((HT4.out.2.2 e he).2 hk).1.set_ne HO4.out (by decide) _, ((HT4.out.2.2 e he).2 hk).2⟩⟩⟩, HA4.out.big (by simp), HM5.out.setCell (.inr (by show w.heap.size ≤ gO; omega)) _⟩
      rw [HTK.out]
      exact (HR4.out.set HO4.out (by decide) _ _).snoc ((Sl.of_own HQ.out).set_ne HO4.out (by decide) _) (own_NilOk HQ.out)
  ·have hke : k = W := by omega
   subst hke
   go_wp2_with fail
   go_ret
   exact ⟨_, rfl, HO.out.sl (by have h := HR.out; rw [List.take_of_length_le (by rw [rowsQ_len]; omega)] at h; exact h) (rowsQ_len _ _) (by omega), HM.out⟩

end Go.Proofs.YtnfflgicngeekaaGreatDoor

/- phrase: the places where patterns fit words one after the other (package query). -/
namespace Go.Proofs.YtnfflgicngeekaaGreatDoor
set_option linter.unusedVariables false
set_option linter.unusedSimpArgs false
open Go.RowKit
def wsQ (l : List Wd) : List Str := l.map (·.2)
theorem wsQ_len (l : List Wd) : (wsQ l).length = l.length := by simp [wsQ]
theorem phr_getD {l : List Wd} {i : Nat} (h : i < l.length) : (wsQ l).getD i [] = l[i].2 := by simp [wsQ, List.getD, h]
theorem pat_getD {l : List Str} {i : Nat} (h : i < l.length) : l.getD i [] = l[i] := by simp [List.getD, h]
set_option maxRecDepth 100000 in
set_option maxHeartbeats 4000000 in
theorem phraseQ_calls (w : World) (vp vw : Value) (pats : List Str) (wl : List Wd) (hp : Sl w 9 1 vp (strsV pats)) (hw : Wds w vw wl) (hp0 : 1 ≤ pats.length) (hp1 : pats.length ≤ 1000) (hpl : ∀ x ∈ pats, x.length ≤ 1000000) (hW : wl.length ≤ 1000) (hwl : ∀ x ∈ wl, x.2.length ≤ 1000000) :
  Calls Tryz.prog 211 #[vp, vw] w (RnP w wl.length (phrB (wsQ wl) pats)) := by
 obtain ⟨Ap, np, cp, rfl⟩ := hp.form
 obtain rfl := hp.lenS
 obtain ⟨Aw, nw, cw, rfl⟩ := hw.form
 have hwn : nw = wl.length := by obtain ⟨_, _, _, e, _, _, h, _⟩ := hw; cases e; rw [wdV_len] at h; omega
 subst hwn
 have hcp := hp.lenI.2
 have hcw : wl.length ≤ cw ∧ cw ≤ 9223372036854775807 := by obtain ⟨_, _, _, e, h1, h2, _⟩ := hw; cases e; exact ⟨h1, h2⟩
 have HP := Lib.hid hp
 have HW := Lib.hid hw
 have HPL := Lib.hid hpl
 have HWL := Lib.hid hwl
 clear hp hw hpl hwl
 have hmk := run_make_one (P := Tryz.prog) 185 22 (.slice none 0 0) 24 Tryz.underlying185 info_intsQ rfl .i64 .i64 wl.length (wl.length : Int) rfl (by omega) (by omega) (Array.replicate wl.length (Value.slice none 0 0)) (by simp)
 have HO := Lib.hid (OutB.new w wl.length)
 have HM := Lib.hid (pure_alloc w (.cells (List.replicate wl.length (Value.slice none 0 0)).toArray 22))
 rw [List.toArray_replicate] at HO HM
 go_enter Tryz.func211, Tryz.ntmps211
 go_wp2_with fail
 clear hmk
 have hgw := Nat.le_refl w.heap.size
 generalize (w.alloc (.cells (Array.replicate wl.length (Value.slice none 0 0)) 22)) = w1 at *
 generalize hg : w.heap.size = g at *
 go_loopg [19] (wl.length + 1 - pats.length) (fun gk i wr => ∃ (k : Nat) (us : List Value), (wl.length + 1 - pats.length) - k = gk ∧ k ≤ wl.length ∧ (k = 0 ∨ k + pats.length ≤ wl.length + 1) ∧ i = .int .i64 (k : Int) ∧ us.length = k ∧ OutB wr g us wl.length ∧ RowsU wr us ((rowsQ wl.length (phrB (wsQ wl) pats)).take k) ∧ Pure w wr)
 case atStart => exact ⟨0, [], by omega, by omega, .inl rfl, rfl, rfl, HO.out, RowsU.nil, HM.out⟩
 case round =>
  clear HO HM
  obtain ⟨k, us, rfl, hk, hk2, rfl, hul, hO, hR, hm⟩ := hrel
  have HO := Lib.hid hO
  have HR := Lib.hid hR
  have HM := Lib.hid hm
  have HU := Lib.hid hul
  clear hO hR hm hul
  rcases Nat.lt_or_ge wl.length (k + pats.length) with hout | hin
  ·have hlt : ¬ ((k : Int) < (wl.length : Int) - (pats.length : Int) + 1) := by omega
   go_wp2_with fail
   go_ret
   have h1 := HR.out.nils (wl.length - k)
   rw [rowsQ_tail hk (fun i h2 h3 => by have h4 := phrRow_out (ws := wsQ wl) (pats := pats) (i := i) (by rw [wsQ_len]; omega); rw [wsQ_len] at h4; exact h4)] at h1
   have h2 := HO.out.all (by rw [HU.out]; exact hk)
   rw [HU.out] at h2
   exact ⟨_, rfl, h2.sl h1 (rowsQ_len _ _) (by omega), HM.out⟩
  ·have hlt : (k : Int) < (wl.length : Int) - (pats.length : Int) + 1 := by omega
   generalize wr = w2 at *
   go_wp2_with fail
   go_loopg [7, 24] pats.length (fun gk b i wx => ∃ t : Nat, pats.length - t = gk ∧ t ≤ pats.length ∧ b = .bool (phrN (wsQ wl) pats k t) ∧ i = .int .i64 (t : Int) ∧ Pure w2 wx)
   case atStart => exact ⟨0, by omega, by omega, rfl, rfl, Mod.refl _ _⟩
   case round =>
    obtain ⟨t, rfl, ht, rfl, rfl, hmx⟩ := hrel
    by_cases htl : t < pats.length
    ·have HN := Lib.hid (phrN_succ (wsQ wl) pats k t)
     rw [phr_getD (by omega), pat_getD htl] at HN
     obtain ⟨gp, op, rfl, hrp⟩ := (HP.out.pure (HM.out.trans hmx)).rowS (by omega)
     have qp := hrp.cell (strsV_get pats t htl)
     obtain ⟨_, _, _, e, _, _, _, hrw0⟩ := HW.out.pure (HM.out.trans hmx)
     cases e
     obtain ⟨gw, ow, rfl, hrw⟩ := hrw0 (by omega)
     have qw := hrw.cell (wdV_get wl (k + t) (by omega)).2.2
     rw [← Nat.add_assoc] at qw
     have h1 := HPL.out _ (List.getElem_mem htl)
     have h2 := HWL.out _ (List.getElem_mem (show k + t < wl.length by omega))
     have HF := Lib.hid (fun W0 => fits_calls W0 pats[t] wl[k + t].2 h1 h2)
     clear h1 h2 hrp hrw hrw0
     generalize phrN (wsQ wl) pats k t = b1 at *
     generalize fitsB pats[t] wl[k + t].2 = b3 at *
     generalize pats[t] = pt at *
     generalize wl[k + t].2 = wt at *
     cases b1
     ·go_wp2_with fail
      go_roundg (pats.length - (t + 1))
      case measure => omega
      case rel => exact ⟨t + 1, rfl, htl, by rw [HN.out]; rfl, by simp, hmx⟩
     ·go_wp2_with fail
      refine (HF.out _).mono ?_
      rintro e w3 ⟨rfl, hm2⟩
      go_wp2_with fail
      go_roundg (pats.length - (t + 1))
      case measure => omega
      case rel => exact ⟨t + 1, rfl, htl, by rw [HN.out]; rfl, by simp, hmx.trans hm2⟩
    ·obtain rfl : t = pats.length := by omega
     have HROW := Lib.hid (phrRow (ws := wsQ wl) (pats := pats) (i := k) (by intro h; rw [h] at hp0; exact absurd hp0 (by decide)) (by rw [wsQ_len]; exact hin))
     rw [wsQ_len] at HROW
     have hkW : k < wl.length := by omega
     have HTK : Hid ((rowsQ wl.length (phrB (wsQ wl) pats)).take (k + 1) = (rowsQ wl.length (phrB (wsQ wl) pats)).take k ++ [rowQ wl.length (phrB (wsQ wl) pats k)]) := Lib.hid (by
      rw [List.take_succ_eq_append_getElem (by rw [rowsQ_len]; exact hkW), rowsQ_at])
     have HX := Lib.hid hmx
     clear hmx
     have HO2 := Lib.hid (HO.out.mod HX.out (fun h => h))
     have HR2 := Lib.hid (HR.out.pure HX.out)
     have HM2 := Lib.hid (HM.out.trans HX.out)
     cases hb : phrN (wsQ wl) pats k pats.length
     ·have HRN : Hid (rowQ wl.length (phrB (wsQ wl) pats k) = []) := Lib.hid (by rw [HROW.out, hb]; rfl)
      go_wp2_with fail
      go_roundg (wl.length + 1 - pats.length - (k + 1))
      case measure => omega
      case rel =>
       refine ⟨k + 1, us ++ [Value.slice none 0 0], rfl, by omega, by omega, by simp, by simp [HU.out], HO2.out.skip (by rw [HU.out]; exact hkW), ?_, HM2.out⟩
       rw [HTK.out, HRN.out]
       exact HR2.out.snoc (nilI (w := wr)).1 (nilI (w := wr)).2
     ·have HRN : Hid (rowQ wl.length (phrB (wsQ wl) pats k) = [k + pats.length - 1]) := Lib.hid (by rw [HROW.out, hb]; rfl)
      have xa := fun o => ((HO2.out.mod (pure_alloc wr o) (fun h => h)).cellk HU.out.symm (by rw [HU.out]; exact hkW)).1
      have xb := fun o => ((HO2.out.mod (pure_alloc wr o) (fun h => h)).cellk HU.out.symm (by rw [HU.out]; exact hkW)).2
      go_wp2_with fail
      go_roundg (wl.length + 1 - pats.length - (k + 1))
      case measure => omega
      case rel =>
       have hA := HO2.out.mod (pure_alloc wr (.cells #[.int .i64 ((k : Int) + (pats.length : Int) - 1)] 3)) (fun h => h)
       have hone : Sl (wr.alloc (.cells #[.int .i64 ((k : Int) + (pats.length : Int) - 1)] 3)) 3 1 (.slice (some ⟨wr.heap.size, 0, none⟩) 1 1) (nvQ [k + pats.length - 1]) := by
        have hn := Blk.new wr 3 #[.int .i64 ((k : Int) + (pats.length : Int) - 1)]
        have e : nvQ [k + pats.length - 1] = [Value.int .i64 ((k : Int) + (pats.length : Int) - 1)] := by
         show [Value.int .i64 ((k + pats.length - 1 : Nat) : Int)] = _
         rw [show ((k + pats.length - 1 : Nat) : Int) = (k : Int) + (pats.length : Int) - 1 by omega]
        rw [e]
        exact ⟨_, _, _, rfl, Nat.le_refl _, by omega, rfl, fun _ => ⟨_, 0, rfl, hn.row0⟩⟩
       refine ⟨k + 1, us ++ [Value.slice (some ⟨wr.heap.size, 0, none⟩) 1 1], rfl, by omega, by omega, by simp, by simp [HU.out], hA.snoc HU.out.symm (by rw [HU.out]; exact hkW) _, ?_, (HM2.out.trans (pure_alloc _ _)).setCell (.inr (by show w.heap.size ≤ g; omega)) _⟩
       rw [HTK.out, HRN.out]
       exact ((HR2.out.pure (pure_alloc _ _)).set hA (by decide) _ _).snoc (hone.set_ne hA (by decide) _) (fun n c h => by cases h)

end Go.Proofs.YtnfflgicngeekaaGreatDoor

/- places of searches by words (package query): patterns, and two searches near to each other. -/
namespace Go.Proofs.YtnfflgicngeekaaGreatDoor
set_option linter.unusedVariables false
set_option linter.unusedSimpArgs false
open Go.RowKit
theorem RnP.up {w w1 : World} {W : Nat} {F : Nat → Nat → Bool} {e : Ending} {w' : World} (h : RnP w1 W F e w') (hm : Pure w w1) : RnP w W F e w' := by
 obtain ⟨v, h1, h2, h3⟩ := h
 exact ⟨v, h1, h2, hm.trans h3⟩
theorem plc_word {ws : List Str} {k n : Int} {pats : List Str} {xs : List Qry} (hk : k = 2 ∨ k = 3) : plcQ ws (.mk k pats n xs) = phrB ws pats := by
 rw [plcQ]
 funext i j
 unfold plcK
 rcases hk with rfl | rfl <;> rfl
theorem plc_near {ws : List Str} {n : Int} {pats : List Str} {a b : Qry} : plcQ ws (.mk 4 pats n [a, b]) = fun i j => cutB (plcQ ws a) (plcQ ws b) n ws.length i j || cutB (plcQ ws b) (plcQ ws a) n ws.length i j := by
 rw [plcQ]
 rfl
set_option maxRecDepth 100000 in
set_option maxHeartbeats 4000000 in
theorem placesW_calls (w : World) (vw : Value) (wl : List Wd) (k n : Int) (A B : Option Addr) (c d : Nat) (pats : List Str) (xs : List QR) (hk : k = 2 ∨ k = 3) (hQ : QS w (.mk k A c pats n B d xs)) (hw : Wds w vw wl) (hp0 : 1 ≤ pats.length) (hp1 : pats.length ≤ 1000) (hpl : ∀ x ∈ pats, x.length ≤ 1000000) (hW : wl.length ≤ 1000) (hwl : ∀ x ∈ wl, x.2.length ≤ 1000000) :
  Calls Tryz.prog 156 #[qA (.mk k A c pats n B d xs), vw] w (RnP w wl.length (plcQ (wsQ wl) (QR.mk k A c pats n B d xs).key)) := by
 rw [QR.key_mk, plc_word hk, qA_mk]
 have hm : Pure w (w.alloc (.cells #[.int .i64 k, .slice A pats.length c, .int .i64 n, .slice B xs.length d] 29)) := (Mod.refl _ _).alloc _
 have HP := Lib.hid (phraseQ_calls (w.alloc (.cells #[.int .i64 k, .slice A pats.length c, .int .i64 n, .slice B xs.length d] 29)) (.slice A pats.length c) vw pats wl (hQ.wsH.pure hm) (hw.pure hm) hp0 hp1 hpl hW hwl)
 have HM := Lib.hid hm
 have hb := Blk.new w 29 #[.int .i64 k, .slice A pats.length c, .int .i64 n, .slice B xs.length d]
 have x0 := hb.cell 0; have x1 := hb.cell 1; have x2 := hb.cell 2; have x3 := hb.cell 3; simp at x0 x1 x2 x3
 have h5 : (k == 5) = false := by rcases hk with rfl | rfl <;> rfl
 have h4 : (k == 4) = false := by rcases hk with rfl | rfl <;> rfl
 have h7 : (k == 7) = false := by rcases hk with rfl | rfl <;> rfl
 clear hQ hw hpl hwl hm hb hk
 go_enter Tryz.func156, Tryz.ntmps156
 go_wp2_with fail
 refine HP.out.mono ?_
 rintro e w2 ⟨v, rfl, hs, hm2⟩
 have HS := Lib.hid hs
 have HM2 := Lib.hid (HM.out.trans hm2)
 clear hs hm2 HP
 go_wp2_with fail
 go_ret
 exact ⟨v, rfl, HS.out, HM2.out⟩
set_option maxRecDepth 100000 in
set_option maxHeartbeats 4000000 in
theorem placesN_calls (w : World) (vw : Value) (wl : List Wd) (n : Int) (A B : Option Addr) (c d : Nat) (ws : List Str) (a1 a2 : QR) (hQ : QS w (.mk 4 A c ws n B d [a1, a2])) (hW : wl.length ≤ 1000) (hn0 : 0 ≤ n) (hn1 : n ≤ 20)
  (h1 : ∀ W, Pure w W → Calls Tryz.prog 156 #[qA a1, vw] W (RnP W wl.length (plcQ (wsQ wl) a1.key))) (h2 : ∀ W, Pure w W → Calls Tryz.prog 156 #[qA a2, vw] W (RnP W wl.length (plcQ (wsQ wl) a2.key))) :
  Calls Tryz.prog 156 #[qA (.mk 4 A c ws n B d [a1, a2]), vw] w (RnP w wl.length (plcQ (wsQ wl) (QR.mk 4 A c ws n B d [a1, a2]).key)) := by
 rw [QR.key_mk, show [a1, a2].map QR.key = [a1.key, a2.key] from rfl, plc_near, qA_mk, wsQ_len]
 generalize plcQ (wsQ wl) a1.key = F1 at *
 generalize plcQ (wsQ wl) a2.key = F2 at *
 obtain ⟨k1, A1, c1, ws1, n1, B1, d1, xs1⟩ := a1
 obtain ⟨k2, A2, c2, ws2, n2, B2, d2, xs2⟩ := a2
 obtain ⟨gB, oB, hBe, p0, p1, p2, p3⟩ := qcells hQ.xsH (show 0 < 2 by decide) rfl
 obtain ⟨gB', oB', hBe', r0, r1, r2, r3⟩ := qcells hQ.xsH (show 1 < 2 by decide) rfl
 rw [hBe] at hBe'
 injection hBe' with hBe'
 injection hBe' with e1 e2
 subst e1 e2 hBe
 have hle : ∃ m, m = ([QR.mk k1 A1 c1 ws1 n1 B1 d1 xs1, QR.mk k2 A2 c2 ws2 n2 B2 d2 xs2] : List QR).length := ⟨_, rfl⟩
 have hd2 : 2 ≤ d ∧ d ≤ 9223372036854775807 := by
  obtain ⟨_, _, _, e, h1, h2, _⟩ := hQ.xsH
  cases e
  exact ⟨h1, h2⟩
 simp only [Nat.zero_mul, Nat.one_mul, Nat.add_zero] at p0 p1 p2 p3 r0 r1 r2 r3
 have hm : Pure w (w.alloc (.cells #[.int .i64 4, .slice A ws.length c, .int .i64 n, .slice (some ⟨gB, oB, none⟩) 2 d] 29)) := (Mod.refl _ _).alloc _
 have HM := Lib.hid hm
 have hb := Blk.new w 29 #[.int .i64 4, .slice A ws.length c, .int .i64 n, .slice (some ⟨gB, oB, none⟩) 2 d]
 have HB := Lib.hid hb
 have HC : Hid (CellQ w gB oB (.int .i64 k1) ∧ CellQ w gB (oB + 1) (.slice A1 ws1.length c1) ∧ CellQ w gB (oB + 2) (.int .i64 n1) ∧ CellQ w gB (oB + 3) (.slice B1 xs1.length d1) ∧ CellQ w gB (oB + 4) (.int .i64 k2) ∧ CellQ w gB (oB + 4 + 1) (.slice A2 ws2.length c2) ∧ CellQ w gB (oB + 4 + 2) (.int .i64 n2) ∧ CellQ w gB (oB + 4 + 3) (.slice B2 xs2.length d2)) := Lib.hid ⟨p0, p1, p2, p3, r0, r1, r2, r3⟩
 have H1 := Lib.hid h1
 have H2 := Lib.hid h2
 simp only [qA_mk] at H1 H2
 have x0 := hb.cell 0; have x1 := hb.cell 1; have x2 := hb.cell 2; have x3 := hb.cell 3; simp at x0 x1 x2 x3
 clear hQ hm hb h1 h2 p0 p1 p2 p3 r0 r1 r2 r3 hle
 go_enter Tryz.func156, Tryz.ntmps156
 go_upto_region 5 with (fail)
 generalize (w.alloc (.cells #[.int .i64 4, .slice A ws.length c, .int .i64 n, .slice (some ⟨gB, oB, none⟩) 2 d] 29)) = w1 at *
 generalize w.heap.size = gb at *
 have HC1 := Lib.hid (show _ ∧ _ ∧ _ ∧ _ ∧ _ ∧ _ ∧ _ ∧ _ from ⟨HC.out.1.pure HM.out, HC.out.2.1.pure HM.out, HC.out.2.2.1.pure HM.out, HC.out.2.2.2.1.pure HM.out, HC.out.2.2.2.2.1.pure HM.out, HC.out.2.2.2.2.2.1.pure HM.out, HC.out.2.2.2.2.2.2.1.pure HM.out, HC.out.2.2.2.2.2.2.2.pure HM.out⟩)
 clear HC x0 x1 x2 x3
 have HGs := Lib.hid (show ∀ (D : Nat → Bool) (zzi : Nat) (zq zq' : World), (fun _ zq => (fun Z => Blk Z gb 29 #[.int .i64 4, .slice A ws.length c, .int .i64 n, .slice (some ⟨gB, oB, none⟩) 2 d] ∧ CellQ Z gB oB (.int .i64 k1) ∧ CellQ Z gB (oB + 1) (.slice A1 ws1.length c1) ∧ CellQ Z gB (oB + 2) (.int .i64 n1) ∧ CellQ Z gB (oB + 3) (.slice B1 xs1.length d1) ∧ CellQ Z gB (oB + 4) (.int .i64 k2) ∧ CellQ Z gB (oB + 4 + 1) (.slice A2 ws2.length c2) ∧ CellQ Z gB (oB + 4 + 2) (.int .i64 n2) ∧ CellQ Z gB (oB + 4 + 3) (.slice B2 xs2.length d2)) zq) D zq → Mod (fun _ => False) zq zq' → (fun _ zq => (fun Z => Blk Z gb 29 #[.int .i64 4, .slice A ws.length c, .int .i64 n, .slice (some ⟨gB, oB, none⟩) 2 d] ∧ CellQ Z gB oB (.int .i64 k1) ∧ CellQ Z gB (oB + 1) (.slice A1 ws1.length c1) ∧ CellQ Z gB (oB + 2) (.int .i64 n1) ∧ CellQ Z gB (oB + 3) (.slice B1 xs1.length d1) ∧ CellQ Z gB (oB + 4) (.int .i64 k2) ∧ CellQ Z gB (oB + 4 + 1) (.slice A2 ws2.length c2) ∧ CellQ Z gB (oB + 4 + 2) (.int .i64 n2) ∧ CellQ Z gB (oB + 4 + 3) (.slice B2 xs2.length d2)) zq) (upd D zzi true) zq' from by intro D zzi zq zq' h hm; (exact ⟨h.1.modp hm, h.2.1.pure hm, h.2.2.1.pure hm, h.2.2.2.1.pure hm, h.2.2.2.2.1.pure hm, h.2.2.2.2.2.1.pure hm, h.2.2.2.2.2.2.1.pure hm, h.2.2.2.2.2.2.2.1.pure hm, h.2.2.2.2.2.2.2.2.pure hm⟩))
 refine wp_region_inv (by kernel_rfl) (by kernel_rfl) (InvF (R := Mod (fun _ => False)) [.is (.pointer (some ⟨gb, 3, none⟩)),
   .is (.slice (some ⟨gB, oB, none⟩) 2 d),
   .is (.pointer (some ⟨gB, oB, none⟩)),
   .is (.agg #[.int .i64 k1, .slice A1 ws1.length c1, .int .i64 n1, .slice B1 xs1.length d1]),
   .is (vw),
   ⟨fun zv zw => ∃ (v_5 : Value), zv = v_5 ∧ SlI zw v_5 (rowsQ wl.length F1), (by rintro zv zw zx ⟨v_5, hze, q0⟩ hm; exact ⟨v_5, hze, (q0.pure hm)⟩), none, none⟩,
   .is (.pointer (some ⟨gb, 3, none⟩)),
   .is (.slice (some ⟨gB, oB, none⟩) 2 d),
   .is (.pointer (some ⟨gB, oB + 4, none⟩)),
   .is (.agg #[.int .i64 k2, .slice A2 ws2.length c2, .int .i64 n2, .slice B2 xs2.length d2]),
   .is (vw),
   ⟨fun zv zw => ∃ (v_11 : Value), zv = v_11 ∧ SlI zw v_11 (rowsQ wl.length F2), (by rintro zv zw zx ⟨v_11, hze, q0⟩ hm; exact ⟨v_11, hze, (q0.pure hm)⟩), none, none⟩,
   ⟨fun zv zw => ∃ (v_12 : Value), zv = v_12 ∧ SlI zw v_12 (rowsQ wl.length F1), (by rintro zv zw zx ⟨v_12, hze, q0⟩ hm; exact ⟨v_12, hze, (q0.pure hm)⟩), none, none⟩,
   ⟨fun zv zw => ∃ (v_13 : Value), zv = v_13 ∧ SlI zw v_13 (rowsQ wl.length F2), (by rintro zv zw zx ⟨v_13, hze, q0⟩ hm; exact ⟨v_13, hze, (q0.pure hm)⟩), none, none⟩]
   (PB w1 (fun _ => False) w1.heap.size (fun _ zq => (fun Z => Blk Z gb 29 #[.int .i64 4, .slice A ws.length c, .int .i64 n, .slice (some ⟨gB, oB, none⟩) 2 d] ∧ CellQ Z gB oB (.int .i64 k1) ∧ CellQ Z gB (oB + 1) (.slice A1 ws1.length c1) ∧ CellQ Z gB (oB + 2) (.int .i64 n1) ∧ CellQ Z gB (oB + 3) (.slice B1 xs1.length d1) ∧ CellQ Z gB (oB + 4) (.int .i64 k2) ∧ CellQ Z gB (oB + 4 + 1) (.slice A2 ws2.length c2) ∧ CellQ Z gB (oB + 4 + 2) (.int .i64 n2) ∧ CellQ Z gB (oB + 4 + 3) (.slice B2 xs2.length d2)) zq))) (InvF.start (PB.start (Mod.refl _ _) (Nat.le_refl _) (⟨HB.out.drew, HC1.out⟩))) ?_ ?_
 ·refine .cons ?_ (.cons ?_ (.cons ?_ (.cons ?_ (.cons ?_ (.cons ?_ (.cons ?_ (.cons ?_ (.cons ?_ (.cons ?_ (.cons ?_ (.cons ?_ (.cons ?_ (.cons ?_ .nil)))))))))))))
  ·intro D V zw1 a hR hI K hK
   obtain ⟨hM1, hB1, hG1⟩ := hI.1
   obtain ⟨hG1b, hG10, hG11, hG12, hG13, hG14, hG15, hG16, hG17⟩ := hG1
   have ze2 := hR.frame.other (t := 2) (by kernel_rfl) rfl
   rw [if_pos (by rfl)]
   go_simp
   exact hK (.pointer (some ⟨gb, 3, none⟩)) _ (hI.next hR (by kernel_rfl) (Mod.refl _ _) (PB.quiet hI.1 (Mod.refl _ _) (HGs.out D 0 zw1 zw1 (hI.1).g (Mod.refl _ _))) (upd_same V 0 _))
  ·intro D V zw1 a hR hI K hK
   obtain ⟨hM1, hB1, hG1⟩ := hI.1
   obtain ⟨hG1b, hG10, hG11, hG12, hG13, hG14, hG15, hG16, hG17⟩ := hG1
   have zd0 := hR.pred 0 (by kernel_rfl)
   have zF0 : V 0 = .pointer (some ⟨gb, 3, none⟩) := hI.2 0 zd0 rfl
   have zf0 := zF0; clear zF0
   have ze31 := hR.frame.done (t := 31) (j := 0) (by kernel_rfl) hR.ok zd0
   have zx3 := (hG1b).cell 3; have zy3 := (hG1b).frozen 3; simp at zx3
   rw [if_pos (by rfl)]
   go_simp
   exact hK (.slice (some ⟨gB, oB, none⟩) 2 d) _ (hI.next hR (by kernel_rfl) (Mod.refl _ _) (PB.quiet hI.1 (Mod.refl _ _) (HGs.out D 1 zw1 zw1 (hI.1).g (Mod.refl _ _))) (upd_same V 1 _))
  ·intro D V zw1 a hR hI K hK
   obtain ⟨hM1, hB1, hG1⟩ := hI.1
   obtain ⟨hG1b, hG10, hG11, hG12, hG13, hG14, hG15, hG16, hG17⟩ := hG1
   have zd1 := hR.pred 1 (by kernel_rfl)
   have zF1 : V 1 = .slice (some ⟨gB, oB, none⟩) 2 d := hI.2 1 zd1 rfl
   have zf1 := zF1; clear zF1
   have ze32 := hR.frame.done (t := 32) (j := 1) (by kernel_rfl) hR.ok zd1
   rw [if_pos (by rfl)]
   go_simp
   exact hK (.pointer (some ⟨gB, oB, none⟩)) _ (hI.next hR (by kernel_rfl) (Mod.refl _ _) (PB.quiet hI.1 (Mod.refl _ _) (HGs.out D 2 zw1 zw1 (hI.1).g (Mod.refl _ _))) (upd_same V 2 _))
  ·intro D V zw1 a hR hI K hK
   obtain ⟨hM1, hB1, hG1⟩ := hI.1
   obtain ⟨hG1b, hG10, hG11, hG12, hG13, hG14, hG15, hG16, hG17⟩ := hG1
   have zd2 := hR.pred 2 (by kernel_rfl)
   have zF2 : V 2 = .pointer (some ⟨gB, oB, none⟩) := hI.2 2 zd2 rfl
   have zf2 := zF2; clear zF2
   have ze33 := hR.frame.done (t := 33) (j := 2) (by kernel_rfl) hR.ok zd2
   unfold CellQ at hG10 hG11 hG12 hG13
   rw [if_pos (by rfl)]
   go_simp
   exact hK (.agg #[.int .i64 k1, .slice A1 ws1.length c1, .int .i64 n1, .slice B1 xs1.length d1]) _ (hI.next hR (by kernel_rfl) (Mod.refl _ _) (PB.quiet hI.1 (Mod.refl _ _) (HGs.out D 3 zw1 zw1 (hI.1).g (Mod.refl _ _))) (upd_same V 3 _))
  ·intro D V zw1 a hR hI K hK
   obtain ⟨hM1, hB1, hG1⟩ := hI.1
   obtain ⟨hG1b, hG10, hG11, hG12, hG13, hG14, hG15, hG16, hG17⟩ := hG1
   have ze1 := hR.frame.other (t := 1) (by kernel_rfl) rfl
   rw [if_pos (by rfl)]
   go_simp
   exact hK (vw) _ (hI.next hR (by kernel_rfl) (Mod.refl _ _) (PB.quiet hI.1 (Mod.refl _ _) (HGs.out D 4 zw1 zw1 (hI.1).g (Mod.refl _ _))) (upd_same V 4 _))
  ·intro D V zw1 a hR hI K hK
   obtain ⟨hM1, hB1, hG1⟩ := hI.1
   obtain ⟨hG1b, hG10, hG11, hG12, hG13, hG14, hG15, hG16, hG17⟩ := hG1
   have zd3 := hR.pred 3 (by kernel_rfl)
   have zF3 : V 3 = .agg #[.int .i64 k1, .slice A1 ws1.length c1, .int .i64 n1, .slice B1 xs1.length d1] := hI.2 3 zd3 rfl
   have zf3 := zF3; clear zF3
   have zd4 := hR.pred 4 (by kernel_rfl)
   have zF4 : V 4 = vw := hI.2 4 zd4 rfl
   have zf4 := zF4; clear zF4
   have ze34 := hR.frame.done (t := 34) (j := 3) (by kernel_rfl) hR.ok zd3
   have ze35 := hR.frame.done (t := 35) (j := 4) (by kernel_rfl) hR.ok zd4
   rw [if_pos (by rfl)]
   go_simp
   refine (H1.out zw1 (HM.out.trans hM1)).mono ?_
   rintro e zw2 ⟨v_0, rfl, hq, hm2⟩
   exact hK (v_0) _ (hI.next hR (by kernel_rfl) hm2 (PB.quiet hI.1 hm2 (HGs.out D 5 _ _ (hI.1).g hm2)) (⟨v_0, upd_same V 5 _, hq⟩))
  ·intro D V zw1 a hR hI K hK
   obtain ⟨hM1, hB1, hG1⟩ := hI.1
   obtain ⟨hG1b, hG10, hG11, hG12, hG13, hG14, hG15, hG16, hG17⟩ := hG1
   have ze2 := hR.frame.other (t := 2) (by kernel_rfl) rfl
   rw [if_pos (by rfl)]
   go_simp
   exact hK (.pointer (some ⟨gb, 3, none⟩)) _ (hI.next hR (by kernel_rfl) (Mod.refl _ _) (PB.quiet hI.1 (Mod.refl _ _) (HGs.out D 6 zw1 zw1 (hI.1).g (Mod.refl _ _))) (upd_same V 6 _))
  ·intro D V zw1 a hR hI K hK
   obtain ⟨hM1, hB1, hG1⟩ := hI.1
   obtain ⟨hG1b, hG10, hG11, hG12, hG13, hG14, hG15, hG16, hG17⟩ := hG1
   have zd6 := hR.pred 6 (by kernel_rfl)
   have zF6 : V 6 = .pointer (some ⟨gb, 3, none⟩) := hI.2 6 zd6 rfl
   have zf6 := zF6; clear zF6
   have ze37 := hR.frame.done (t := 37) (j := 6) (by kernel_rfl) hR.ok zd6
   have zx3 := (hG1b).cell 3; have zy3 := (hG1b).frozen 3; simp at zx3
   rw [if_pos (by rfl)]
   go_simp
   exact hK (.slice (some ⟨gB, oB, none⟩) 2 d) _ (hI.next hR (by kernel_rfl) (Mod.refl _ _) (PB.quiet hI.1 (Mod.refl _ _) (HGs.out D 7 zw1 zw1 (hI.1).g (Mod.refl _ _))) (upd_same V 7 _))
  ·intro D V zw1 a hR hI K hK
   obtain ⟨hM1, hB1, hG1⟩ := hI.1
   obtain ⟨hG1b, hG10, hG11, hG12, hG13, hG14, hG15, hG16, hG17⟩ := hG1
   have zd7 := hR.pred 7 (by kernel_rfl)
   have zF7 : V 7 = .slice (some ⟨gB, oB, none⟩) 2 d := hI.2 7 zd7 rfl
   have zf7 := zF7; clear zF7
   have ze38 := hR.frame.done (t := 38) (j := 7) (by kernel_rfl) hR.ok zd7
   rw [if_pos (by rfl)]
   go_simp
   exact hK (.pointer (some ⟨gB, oB + 4, none⟩)) _ (hI.next hR (by kernel_rfl) (Mod.refl _ _) (PB.quiet hI.1 (Mod.refl _ _) (HGs.out D 8 zw1 zw1 (hI.1).g (Mod.refl _ _))) (upd_same V 8 _))
  ·intro D V zw1 a hR hI K hK
   obtain ⟨hM1, hB1, hG1⟩ := hI.1
   obtain ⟨hG1b, hG10, hG11, hG12, hG13, hG14, hG15, hG16, hG17⟩ := hG1
   have zd8 := hR.pred 8 (by kernel_rfl)
   have zF8 : V 8 = .pointer (some ⟨gB, oB + 4, none⟩) := hI.2 8 zd8 rfl
   have zf8 := zF8; clear zF8
   have ze39 := hR.frame.done (t := 39) (j := 8) (by kernel_rfl) hR.ok zd8
   unfold CellQ at hG14 hG15 hG16 hG17
   rw [if_pos (by rfl)]
   go_simp
   exact hK (.agg #[.int .i64 k2, .slice A2 ws2.length c2, .int .i64 n2, .slice B2 xs2.length d2]) _ (hI.next hR (by kernel_rfl) (Mod.refl _ _) (PB.quiet hI.1 (Mod.refl _ _) (HGs.out D 9 zw1 zw1 (hI.1).g (Mod.refl _ _))) (upd_same V 9 _))
  ·intro D V zw1 a hR hI K hK
   obtain ⟨hM1, hB1, hG1⟩ := hI.1
   obtain ⟨hG1b, hG10, hG11, hG12, hG13, hG14, hG15, hG16, hG17⟩ := hG1
   have ze1 := hR.frame.other (t := 1) (by kernel_rfl) rfl
   rw [if_pos (by rfl)]
   go_simp
   exact hK (vw) _ (hI.next hR (by kernel_rfl) (Mod.refl _ _) (PB.quiet hI.1 (Mod.refl _ _) (HGs.out D 10 zw1 zw1 (hI.1).g (Mod.refl _ _))) (upd_same V 10 _))
  ·intro D V zw1 a hR hI K hK
   obtain ⟨hM1, hB1, hG1⟩ := hI.1
   obtain ⟨hG1b, hG10, hG11, hG12, hG13, hG14, hG15, hG16, hG17⟩ := hG1
   have zd9 := hR.pred 9 (by kernel_rfl)
   have zF9 : V 9 = .agg #[.int .i64 k2, .slice A2 ws2.length c2, .int .i64 n2, .slice B2 xs2.length d2] := hI.2 9 zd9 rfl
   have zf9 := zF9; clear zF9
   have zd10 := hR.pred 10 (by kernel_rfl)
   have zF10 : V 10 = vw := hI.2 10 zd10 rfl
   have zf10 := zF10; clear zF10
   have ze40 := hR.frame.done (t := 40) (j := 9) (by kernel_rfl) hR.ok zd9
   have ze41 := hR.frame.done (t := 41) (j := 10) (by kernel_rfl) hR.ok zd10
   rw [if_pos (by rfl)]
   go_simp
   refine (H2.out zw1 (HM.out.trans hM1)).mono ?_
   rintro e zw2 ⟨v_0, rfl, hq, hm2⟩
   exact hK (v_0) _ (hI.next hR (by kernel_rfl) hm2 (PB.quiet hI.1 hm2 (HGs.out D 11 _ _ (hI.1).g hm2)) (⟨v_0, upd_same V 11 _, hq⟩))
  ·intro D V zw1 a hR hI K hK
   obtain ⟨hM1, hB1, hG1⟩ := hI.1
   obtain ⟨hG1b, hG10, hG11, hG12, hG13, hG14, hG15, hG16, hG17⟩ := hG1
   have zd5 := hR.pred 5 (by kernel_rfl)
   have zF5 : ∃ (v_5 : Value), V 5 = v_5 ∧ SlI zw1 v_5 (rowsQ wl.length F1) := hI.2 5 zd5 rfl
   obtain ⟨v_5, zf5, b5_0⟩ := zF5
   have ze36 := hR.frame.done (t := 36) (j := 5) (by kernel_rfl) hR.ok zd5
   rw [if_pos (by rfl)]
   go_simp
   exact hK (v_5) _ (hI.next hR (by kernel_rfl) (Mod.refl _ _) (PB.quiet hI.1 (Mod.refl _ _) (HGs.out D 12 zw1 zw1 (hI.1).g (Mod.refl _ _))) (⟨v_5, upd_same V 12 _, b5_0⟩))
  ·intro D V zw1 a hR hI K hK
   obtain ⟨hM1, hB1, hG1⟩ := hI.1
   obtain ⟨hG1b, hG10, hG11, hG12, hG13, hG14, hG15, hG16, hG17⟩ := hG1
   have zd11 := hR.pred 11 (by kernel_rfl)
   have zF11 : ∃ (v_11 : Value), V 11 = v_11 ∧ SlI zw1 v_11 (rowsQ wl.length F2) := hI.2 11 zd11 rfl
   obtain ⟨v_11, zf11, b11_0⟩ := zF11
   have ze42 := hR.frame.done (t := 42) (j := 11) (by kernel_rfl) hR.ok zd11
   rw [if_pos (by rfl)]
   go_simp
   exact hK (v_11) _ (hI.next hR (by kernel_rfl) (Mod.refl _ _) (PB.quiet hI.1 (Mod.refl _ _) (HGs.out D 13 zw1 zw1 (hI.1).g (Mod.refl _ _))) (⟨v_11, upd_same V 13 _, b11_0⟩))
 ·intro D V w2 hD hI
  obtain ⟨hM1, hB1, hG1⟩ := hI.1
  have hMx := hM1
  clear hM1
  have hBx := hB1
  clear hB1
  have hGx := hG1
  clear hG1
  have zF0 : V 0 = .pointer (some ⟨gb, 3, none⟩) := hI.2 0 (hD 0 (by decide)) rfl
  have zf0 := zF0; clear zF0
  have zF1 : V 1 = .slice (some ⟨gB, oB, none⟩) 2 d := hI.2 1 (hD 1 (by decide)) rfl
  have zf1 := zF1; clear zF1
  have zF2 : V 2 = .pointer (some ⟨gB, oB, none⟩) := hI.2 2 (hD 2 (by decide)) rfl
  have zf2 := zF2; clear zF2
  have zF3 : V 3 = .agg #[.int .i64 k1, .slice A1 ws1.length c1, .int .i64 n1, .slice B1 xs1.length d1] := hI.2 3 (hD 3 (by decide)) rfl
  have zf3 := zF3; clear zF3
  have zF4 : V 4 = vw := hI.2 4 (hD 4 (by decide)) rfl
  have zf4 := zF4; clear zF4
  have zF5 : ∃ (v_5 : Value), V 5 = v_5 ∧ SlI w2 v_5 (rowsQ wl.length F1) := hI.2 5 (hD 5 (by decide)) rfl
  obtain ⟨v_5, zf5, b5_0⟩ := zF5
  have zF6 : V 6 = .pointer (some ⟨gb, 3, none⟩) := hI.2 6 (hD 6 (by decide)) rfl
  have zf6 := zF6; clear zF6
  have zF7 : V 7 = .slice (some ⟨gB, oB, none⟩) 2 d := hI.2 7 (hD 7 (by decide)) rfl
  have zf7 := zF7; clear zF7
  have zF8 : V 8 = .pointer (some ⟨gB, oB + 4, none⟩) := hI.2 8 (hD 8 (by decide)) rfl
  have zf8 := zF8; clear zF8
  have zF9 : V 9 = .agg #[.int .i64 k2, .slice A2 ws2.length c2, .int .i64 n2, .slice B2 xs2.length d2] := hI.2 9 (hD 9 (by decide)) rfl
  have zf9 := zF9; clear zF9
  have zF10 : V 10 = vw := hI.2 10 (hD 10 (by decide)) rfl
  have zf10 := zF10; clear zF10
  have zF11 : ∃ (v_11 : Value), V 11 = v_11 ∧ SlI w2 v_11 (rowsQ wl.length F2) := hI.2 11 (hD 11 (by decide)) rfl
  obtain ⟨v_11, zf11, b11_0⟩ := zF11
  have zF12 : ∃ (v_12 : Value), V 12 = v_12 ∧ SlI w2 v_12 (rowsQ wl.length F1) := hI.2 12 (hD 12 (by decide)) rfl
  obtain ⟨v_12, zf12, b12_0⟩ := zF12
  have zF13 : ∃ (v_13 : Value), V 13 = v_13 ∧ SlI w2 v_13 (rowsQ wl.length F2) := hI.2 13 (hD 13 (by decide)) rfl
  obtain ⟨v_13, zf13, b13_0⟩ := zF13
  clear hI hD HGs
  simp only [frAll, Act.put, List.setIfInBounds_toArray, List.set_cons_zero, List.set_cons_succ, Nat.zero_add, Nat.reduceAdd, zf0, zf1, zf2, zf3, zf4, zf5, zf6, zf7, zf8, zf9, zf10, zf11, zf12, zf13]
  clear zf0 zf1 zf2 zf3 zf4 zf5 zf6 zf7 zf8 zf9 zf10 zf11 zf12 zf13
  clear V D
  have HBX := Lib.hid hGx.1
  have HS1 := Lib.hid b12_0
  have HS2 := Lib.hid b13_0
  have HMX := Lib.hid (HM.out.trans hMx)
  clear hGx hMx b12_0 b13_0 b5_0 b11_0 H1 H2 HC1 HB
  generalize v_12 = p1 at *
  generalize v_13 = p2 at *
  go_upto_region 6 with (fail)
  have HGs := Lib.hid (show ∀ (D : Nat → Bool) (zzi : Nat) (zq zq' : World), (fun _ zq => (fun Z => Blk Z gb 29 #[.int .i64 4, .slice A ws.length c, .int .i64 n, .slice (some ⟨gB, oB, none⟩) 2 d] ∧ SlI Z p1 (rowsQ wl.length F1) ∧ SlI Z p2 (rowsQ wl.length F2)) zq) D zq → Mod (fun _ => False) zq zq' → (fun _ zq => (fun Z => Blk Z gb 29 #[.int .i64 4, .slice A ws.length c, .int .i64 n, .slice (some ⟨gB, oB, none⟩) 2 d] ∧ SlI Z p1 (rowsQ wl.length F1) ∧ SlI Z p2 (rowsQ wl.length F2)) zq) (upd D zzi true) zq' from by intro D zzi zq zq' h hm; (exact ⟨h.1.modp hm, h.2.1.pure hm, h.2.2.pure hm⟩))
  refine wp_region_inv (by kernel_rfl) (by kernel_rfl) (InvF (R := Mod (fun _ => False)) [.is (p1),
    .is (p2),
    .is (.pointer (some ⟨gb, 2, none⟩)),
    .is (.int .i64 n),
    ⟨fun zv zw => ∃ (v_4 : Value), zv = v_4 ∧ SlI zw v_4 (rowsQ wl.length (cutB F1 F2 n wl.length)), (by rintro zv zw zx ⟨v_4, hze, q0⟩ hm; exact ⟨v_4, hze, (q0.pure hm)⟩), none, none⟩,
    .is (p2),
    .is (p1),
    .is (.pointer (some ⟨gb, 2, none⟩)),
    .is (.int .i64 n),
    ⟨fun zv zw => ∃ (v_9 : Value), zv = v_9 ∧ SlI zw v_9 (rowsQ wl.length (cutB F2 F1 n wl.length)), (by rintro zv zw zx ⟨v_9, hze, q0⟩ hm; exact ⟨v_9, hze, (q0.pure hm)⟩), none, none⟩,
    ⟨fun zv zw => ∃ (v_10 : Value), zv = v_10 ∧ SlI zw v_10 (rowsQ wl.length (fun i j => cutB F1 F2 n wl.length i j || cutB F2 F1 n wl.length i j)), (by rintro zv zw zx ⟨v_10, hze, q0⟩ hm; exact ⟨v_10, hze, (q0.pure hm)⟩), none, none⟩,
    ⟨fun zv zw => ∃ (v_11 : Value), zv = v_11 ∧ SlI zw v_11 (rowsQ wl.length (fun i j => cutB F1 F2 n wl.length i j || cutB F2 F1 n wl.length i j)), (by rintro zv zw zx ⟨v_11, hze, q0⟩ hm; exact ⟨v_11, hze, (q0.pure hm)⟩), none, none⟩]
    (PB w2 (fun _ => False) w2.heap.size (fun _ zq => (fun Z => Blk Z gb 29 #[.int .i64 4, .slice A ws.length c, .int .i64 n, .slice (some ⟨gB, oB, none⟩) 2 d] ∧ SlI Z p1 (rowsQ wl.length F1) ∧ SlI Z p2 (rowsQ wl.length F2)) zq))) (InvF.start (PB.start (Mod.refl _ _) (Nat.le_refl _) (⟨HBX.out.drew, HS1.out.pure ((Mod.refl _ _).drew), HS2.out.pure ((Mod.refl _ _).drew)⟩))) ?_ ?_
  ·refine .cons ?_ (.cons ?_ (.cons ?_ (.cons ?_ (.cons ?_ (.cons ?_ (.cons ?_ (.cons ?_ (.cons ?_ (.cons ?_ (.cons ?_ (.cons ?_ .nil)))))))))))
   ·intro D V zw1 a hR hI K hK
    obtain ⟨hM1, hB1, hG1⟩ := hI.1
    obtain ⟨hG1b, hG1c, hG1d⟩ := hG1
    have ze5 := hR.frame.other (t := 5) (by kernel_rfl) rfl
    rw [if_pos (by rfl)]
    go_simp
    exact hK (p1) _ (hI.next hR (by kernel_rfl) (Mod.refl _ _) (PB.quiet hI.1 (Mod.refl _ _) (HGs.out D 0 zw1 zw1 (hI.1).g (Mod.refl _ _))) (upd_same V 0 _))
   ·intro D V zw1 a hR hI K hK
    obtain ⟨hM1, hB1, hG1⟩ := hI.1
    obtain ⟨hG1b, hG1c, hG1d⟩ := hG1
    have ze6 := hR.frame.other (t := 6) (by kernel_rfl) rfl
    rw [if_pos (by rfl)]
    go_simp
    exact hK (p2) _ (hI.next hR (by kernel_rfl) (Mod.refl _ _) (PB.quiet hI.1 (Mod.refl _ _) (HGs.out D 1 zw1 zw1 (hI.1).g (Mod.refl _ _))) (upd_same V 1 _))
   ·intro D V zw1 a hR hI K hK
    obtain ⟨hM1, hB1, hG1⟩ := hI.1
    obtain ⟨hG1b, hG1c, hG1d⟩ := hG1
    have ze2 := hR.frame.other (t := 2) (by kernel_rfl) rfl
    rw [if_pos (by rfl)]
    go_simp
    exact hK (.pointer (some ⟨gb, 2, none⟩)) _ (hI.next hR (by kernel_rfl) (Mod.refl _ _) (PB.quiet hI.1 (Mod.refl _ _) (HGs.out D 2 zw1 zw1 (hI.1).g (Mod.refl _ _))) (upd_same V 2 _))
   ·intro D V zw1 a hR hI K hK
    obtain ⟨hM1, hB1, hG1⟩ := hI.1
    obtain ⟨hG1b, hG1c, hG1d⟩ := hG1
    have zd2 := hR.pred 2 (by kernel_rfl)
    have zF2 : V 2 = .pointer (some ⟨gb, 2, none⟩) := hI.2 2 zd2 rfl
    have zf2 := zF2; clear zF2
    have ze45 := hR.frame.done (t := 45) (j := 2) (by kernel_rfl) hR.ok zd2
    have zx2 := (hG1b).cell 2; have zy2 := (hG1b).frozen 2; simp at zx2
    rw [if_pos (by rfl)]
    go_simp
    exact hK (.int .i64 n) _ (hI.next hR (by kernel_rfl) (Mod.refl _ _) (PB.quiet hI.1 (Mod.refl _ _) (HGs.out D 3 zw1 zw1 (hI.1).g (Mod.refl _ _))) (upd_same V 3 _))
   ·intro D V zw1 a hR hI K hK
    obtain ⟨hM1, hB1, hG1⟩ := hI.1
    obtain ⟨hG1b, hG1c, hG1d⟩ := hG1
    have zd0 := hR.pred 0 (by kernel_rfl)
    have zF0 : V 0 = p1 := hI.2 0 zd0 rfl
    have zf0 := zF0; clear zF0
    have zd1 := hR.pred 1 (by kernel_rfl)
    have zF1 : V 1 = p2 := hI.2 1 zd1 rfl
    have zf1 := zF1; clear zF1
    have zd3 := hR.pred 3 (by kernel_rfl)
    have zF3 : V 3 = .int .i64 n := hI.2 3 zd3 rfl
    have zf3 := zF3; clear zF3
    have ze43 := hR.frame.done (t := 43) (j := 0) (by kernel_rfl) hR.ok zd0
    have ze44 := hR.frame.done (t := 44) (j := 1) (by kernel_rfl) hR.ok zd1
    have ze46 := hR.frame.done (t := 46) (j := 3) (by kernel_rfl) hR.ok zd3
    rw [if_pos (by rfl)]
    go_simp
    refine (ahead_calls zw1 p1 p2 wl.length F1 F2 n hG1c hG1d hW hn0 hn1).mono ?_
    rintro e zw2 ⟨v_0, rfl, hq, hm2⟩
    exact hK (v_0) _ (hI.next hR (by kernel_rfl) hm2 (PB.quiet hI.1 hm2 (HGs.out D 4 _ _ (hI.1).g hm2)) (⟨v_0, upd_same V 4 _, hq⟩))
   ·intro D V zw1 a hR hI K hK
    obtain ⟨hM1, hB1, hG1⟩ := hI.1
    obtain ⟨hG1b, hG1c, hG1d⟩ := hG1
    have ze6 := hR.frame.other (t := 6) (by kernel_rfl) rfl
    rw [if_pos (by rfl)]
    go_simp
    exact hK (p2) _ (hI.next hR (by kernel_rfl) (Mod.refl _ _) (PB.quiet hI.1 (Mod.refl _ _) (HGs.out D 5 zw1 zw1 (hI.1).g (Mod.refl _ _))) (upd_same V 5 _))
   ·intro D V zw1 a hR hI K hK
    obtain ⟨hM1, hB1, hG1⟩ := hI.1
    obtain ⟨hG1b, hG1c, hG1d⟩ := hG1
    have ze5 := hR.frame.other (t := 5) (by kernel_rfl) rfl
    rw [if_pos (by rfl)]
    go_simp
    exact hK (p1) _ (hI.next hR (by kernel_rfl) (Mod.refl _ _) (PB.quiet hI.1 (Mod.refl _ _) (HGs.out D 6 zw1 zw1 (hI.1).g (Mod.refl _ _))) (upd_same V 6 _))
   ·intro D V zw1 a hR hI K hK
    obtain ⟨hM1, hB1, hG1⟩ := hI.1
    obtain ⟨hG1b, hG1c, hG1d⟩ := hG1
    have ze2 := hR.frame.other (t := 2) (by kernel_rfl) rfl
    rw [if_pos (by rfl)]
    go_simp
    exact hK (.pointer (some ⟨gb, 2, none⟩)) _ (hI.next hR (by kernel_rfl) (Mod.refl _ _) (PB.quiet hI.1 (Mod.refl _ _) (HGs.out D 7 zw1 zw1 (hI.1).g (Mod.refl _ _))) (upd_same V 7 _))
   ·intro D V zw1 a hR hI K hK
    obtain ⟨hM1, hB1, hG1⟩ := hI.1
    obtain ⟨hG1b, hG1c, hG1d⟩ := hG1
    have zd7 := hR.pred 7 (by kernel_rfl)
    have zF7 : V 7 = .pointer (some ⟨gb, 2, none⟩) := hI.2 7 zd7 rfl
    have zf7 := zF7; clear zF7
    have ze50 := hR.frame.done (t := 50) (j := 7) (by kernel_rfl) hR.ok zd7
    have zx2 := (hG1b).cell 2; have zy2 := (hG1b).frozen 2; simp at zx2
    rw [if_pos (by rfl)]
    go_simp
    exact hK (.int .i64 n) _ (hI.next hR (by kernel_rfl) (Mod.refl _ _) (PB.quiet hI.1 (Mod.refl _ _) (HGs.out D 8 zw1 zw1 (hI.1).g (Mod.refl _ _))) (upd_same V 8 _))
   ·intro D V zw1 a hR hI K hK
    obtain ⟨hM1, hB1, hG1⟩ := hI.1
    obtain ⟨hG1b, hG1c, hG1d⟩ := hG1
    have zd5 := hR.pred 5 (by kernel_rfl)
    have zF5 : V 5 = p2 := hI.2 5 zd5 rfl
    have zf5 := zF5; clear zF5
    have zd6 := hR.pred 6 (by kernel_rfl)
    have zF6 : V 6 = p1 := hI.2 6 zd6 rfl
    have zf6 := zF6; clear zF6
    have zd8 := hR.pred 8 (by kernel_rfl)
    have zF8 : V 8 = .int .i64 n := hI.2 8 zd8 rfl
    have zf8 := zF8; clear zF8
    have ze48 := hR.frame.done (t := 48) (j := 5) (by kernel_rfl) hR.ok zd5
    have ze49 := hR.frame.done (t := 49) (j := 6) (by kernel_rfl) hR.ok zd6
    have ze51 := hR.frame.done (t := 51) (j := 8) (by kernel_rfl) hR.ok zd8
    rw [if_pos (by rfl)]
    go_simp
    refine (ahead_calls zw1 p2 p1 wl.length F2 F1 n hG1d hG1c hW hn0 hn1).mono ?_
    rintro e zw2 ⟨v_0, rfl, hq, hm2⟩
    exact hK (v_0) _ (hI.next hR (by kernel_rfl) hm2 (PB.quiet hI.1 hm2 (HGs.out D 9 _ _ (hI.1).g hm2)) (⟨v_0, upd_same V 9 _, hq⟩))
   ·intro D V zw1 a hR hI K hK
    obtain ⟨hM1, hB1, hG1⟩ := hI.1
    obtain ⟨hG1b, hG1c, hG1d⟩ := hG1
    have zd4 := hR.pred 4 (by kernel_rfl)
    have zF4 : ∃ (v_4 : Value), V 4 = v_4 ∧ SlI zw1 v_4 (rowsQ wl.length (cutB F1 F2 n wl.length)) := hI.2 4 zd4 rfl
    obtain ⟨v_4, zf4, b4_0⟩ := zF4
    have zd9 := hR.pred 9 (by kernel_rfl)
    have zF9 : ∃ (v_9 : Value), V 9 = v_9 ∧ SlI zw1 v_9 (rowsQ wl.length (cutB F2 F1 n wl.length)) := hI.2 9 zd9 rfl
    obtain ⟨v_9, zf9, b9_0⟩ := zF9
    have ze47 := hR.frame.done (t := 47) (j := 4) (by kernel_rfl) hR.ok zd4
    have ze52 := hR.frame.done (t := 52) (j := 9) (by kernel_rfl) hR.ok zd9
    rw [if_pos (by rfl)]
    go_simp
    refine (both_calls zw1 v_4 v_9 wl.length (cutB F1 F2 n wl.length) (cutB F2 F1 n wl.length) b4_0 b9_0 hW).mono ?_
    rintro e zw2 ⟨v_0, rfl, hq, hm2⟩
    exact hK (v_0) _ (hI.next hR (by kernel_rfl) hm2 (PB.quiet hI.1 hm2 (HGs.out D 10 _ _ (hI.1).g hm2)) (⟨v_0, upd_same V 10 _, hq⟩))
   ·intro D V zw1 a hR hI K hK
    obtain ⟨hM1, hB1, hG1⟩ := hI.1
    obtain ⟨hG1b, hG1c, hG1d⟩ := hG1
    have zd10 := hR.pred 10 (by kernel_rfl)
    have zF10 : ∃ (v_10 : Value), V 10 = v_10 ∧ SlI zw1 v_10 (rowsQ wl.length (fun i j => cutB F1 F2 n wl.length i j || cutB F2 F1 n wl.length i j)) := hI.2 10 zd10 rfl
    obtain ⟨v_10, zf10, b10_0⟩ := zF10
    have ze53 := hR.frame.done (t := 53) (j := 10) (by kernel_rfl) hR.ok zd10
    rw [if_pos (by rfl)]
    go_simp
    exact hK (v_10) _ (hI.next hR (by kernel_rfl) (Mod.refl _ _) (PB.quiet hI.1 (Mod.refl _ _) (HGs.out D 11 zw1 zw1 (hI.1).g (Mod.refl _ _))) (⟨v_10, upd_same V 11 _, b10_0⟩))
  ·intro D V w3 hD hI
   obtain ⟨hM1, hB1, hG1⟩ := hI.1
   have hMx := hM1
   clear hM1
   have hBx := hB1
   clear hB1
   have hGx := hG1
   clear hG1
   have zF0 : V 0 = p1 := hI.2 0 (hD 0 (by decide)) rfl
   have zf0 := zF0; clear zF0
   have zF1 : V 1 = p2 := hI.2 1 (hD 1 (by decide)) rfl
   have zf1 := zF1; clear zF1
   have zF2 : V 2 = .pointer (some ⟨gb, 2, none⟩) := hI.2 2 (hD 2 (by decide)) rfl
   have zf2 := zF2; clear zF2
   have zF3 : V 3 = .int .i64 n := hI.2 3 (hD 3 (by decide)) rfl
   have zf3 := zF3; clear zF3
   have zF4 : ∃ (v_4 : Value), V 4 = v_4 ∧ SlI w3 v_4 (rowsQ wl.length (cutB F1 F2 n wl.length)) := hI.2 4 (hD 4 (by decide)) rfl
   obtain ⟨v_4, zf4, b4_0⟩ := zF4
   have zF5 : V 5 = p2 := hI.2 5 (hD 5 (by decide)) rfl
   have zf5 := zF5; clear zF5
   have zF6 : V 6 = p1 := hI.2 6 (hD 6 (by decide)) rfl
   have zf6 := zF6; clear zF6
   have zF7 : V 7 = .pointer (some ⟨gb, 2, none⟩) := hI.2 7 (hD 7 (by decide)) rfl
   have zf7 := zF7; clear zF7
   have zF8 : V 8 = .int .i64 n := hI.2 8 (hD 8 (by decide)) rfl
   have zf8 := zF8; clear zF8
   have zF9 : ∃ (v_9 : Value), V 9 = v_9 ∧ SlI w3 v_9 (rowsQ wl.length (cutB F2 F1 n wl.length)) := hI.2 9 (hD 9 (by decide)) rfl
   obtain ⟨v_9, zf9, b9_0⟩ := zF9
   have zF10 : ∃ (v_10 : Value), V 10 = v_10 ∧ SlI w3 v_10 (rowsQ wl.length (fun i j => cutB F1 F2 n wl.length i j || cutB F2 F1 n wl.length i j)) := hI.2 10 (hD 10 (by decide)) rfl
   obtain ⟨v_10, zf10, b10_0⟩ := zF10
   have zF11 : ∃ (v_11 : Value), V 11 = v_11 ∧ SlI w3 v_11 (rowsQ wl.length (fun i j => cutB F1 F2 n wl.length i j || cutB F2 F1 n wl.length i j)) := hI.2 11 (hD 11 (by decide)) rfl
   obtain ⟨v_11, zf11, b11_0⟩ := zF11
   clear hI hD HGs
   simp only [frAll, Act.put, List.setIfInBounds_toArray, List.set_cons_zero, List.set_cons_succ, Nat.zero_add, Nat.reduceAdd, zf0, zf1, zf2, zf3, zf4, zf5, zf6, zf7, zf8, zf9, zf10, zf11]
   clear zf0 zf1 zf2 zf3 zf4 zf5 zf6 zf7 zf8 zf9 zf10 zf11
   clear V D
   have HR := Lib.hid b11_0
   have HME := Lib.hid (HMX.out.trans hMx)
   clear hGx hMx b4_0 b9_0 b10_0 b11_0 HS1 HS2 HBX
   go_wp2_with fail
   go_ret
   exact ⟨_, rfl, HR.out, HME.out⟩

end Go.Proofs.YtnfflgicngeekaaGreatDoor

/- Matches of a search of two patterns near to each other (package query). -/
namespace Go.Proofs.YtnfflgicngeekaaGreatDoor
set_option linter.unusedVariables false
set_option linter.unusedSimpArgs false
open Go.RowKit
abbrev SlcT := Option Addr × Nat × Nat
def slcV (l : List SlcT) : List Value := l.map fun x => .slice x.1 x.2.1 x.2.2
theorem slcV_get (l : List SlcT) (i : Nat) (h : i < l.length) : (slcV l)[i]? = some (.slice l[i].1 l[i].2.1 l[i].2.2) := by simp [slcV, h]
def decS : Value → SlcT
 | .slice A n c => (A, n, c)
 | _ => (none, 0, 0)
theorem slc_of {w : World} {v : Value} {rs : List (List Nat)} (h : SlI w v rs) : ∃ xs : List SlcT, Sl w 22 1 v (slcV xs) ∧ xs.map (·.2.1) = rs.map List.length := by
 obtain ⟨us, h1, h2, h3⟩ := h
 refine ⟨us.map decS, ?_, ?_⟩
 ·have e : slcV (us.map decS) = us := by
   refine List.ext_getElem (by simp [slcV]) fun i a b => ?_
   obtain ⟨u, hu, hs, _⟩ := h3 i (by omega)
   obtain ⟨A, n, c, rfl⟩ := hs.form
   rw [List.getElem?_eq_getElem b] at hu
   injection hu with hu
   simp only [slcV, List.getElem_map, hu, decS]
  rw [e]
  exact h1
 ·refine List.ext_getElem (by simp [h2]) fun i a b => ?_
  have hi : i < rs.length := by simpa using b
  obtain ⟨u, hu, hs, _⟩ := h3 i hi
  obtain ⟨A, n, c, rfl⟩ := hs.form
  have hl := hs.lenI.1
  rw [nvQ_len] at hl
  rw [List.getElem?_eq_getElem (by omega)] at hu
  injection hu with hu
  simp only [List.getElem_map, hu, decS]
  exact hl

set_option maxRecDepth 100000 in
set_option maxHeartbeats 1000000 in
theorem indexRn_calls (w : World) (v : Value) (xs : List SlcT) (F : Nat) (P : SlcT → Bool) (hv : Sl w 22 1 v (slcV xs))
  (hcf : ∀ (x : SlcT) (W : World), Sem.run Tryz.prog (callFunc F #[.slice x.1 x.2.1 x.2.2]) W = .ok (.enter F #[.slice x.1 x.2.1 x.2.2]) W)
  (hF : ∀ (x : SlcT) (W : World), x ∈ xs → Pure w W → Calls Tryz.prog F #[.slice x.1 x.2.1 x.2.2] W (BoolPost W (P x))) :
  Calls Tryz.prog 247 #[v, .func (.func F) #[] #[]] w (IntPost w (idxQ P xs 0)) := by
 have HF := Lib.hid hF
 obtain ⟨A, n, c, rfl, hc1, hc2, hl, hr⟩ := hv
 have hln : xs.length = n := by simpa [slcV] using hl
 subst hln
 have HR := Lib.hid hr
 clear hF hl hr
 go_enter Tryz.func247, Tryz.ntmps247
 go_wp2_with fail
 go_loopg [8] xs.length (fun gk i wr => ∃ k : Nat, xs.length - k = gk ∧ k ≤ xs.length ∧ i = .int .i64 (k : Int) ∧ idxQ P xs 0 = idxQ P (xs.drop k) (k : Int) ∧ Pure w wr)
 case atStart => exact ⟨0, by omega, by omega, rfl, rfl, Mod.refl _ _⟩
 case round =>
  obtain ⟨k, rfl, hk, rfl, hix, hm⟩ := hrel
  have HIX := Lib.hid hix
  clear hix
  by_cases hlt : k < xs.length
  ·obtain ⟨g, off, rfl, hrow⟩ := HR.out (by omega)
   have hq := (hrow.mod hm id).cell (slcV_get xs k hlt)
   have hd : xs.drop k = xs[k] :: xs.drop (k + 1) := List.drop_eq_getElem_cons hlt
   have hcall := HF.out xs[k] wr (List.getElem_mem hlt) hm
   have hi2 : idxQ P xs 0 = if P xs[k] then (k : Int) else idxQ P (xs.drop (k + 1)) ((k : Int) + 1) := by rw [HIX.out, hd]; rfl
   have HI2 := Lib.hid hi2
   have HC := Lib.hid hcall
   clear hd hi2 hcall hrow HIX
   generalize xs[k] = x at *
   go_wp2_with fail
   refine HC.out.mono ?_
   rintro e w1 ⟨rfl, hm1⟩
   cases hp : P x
   ·go_wp2_with fail
    go_roundg (xs.length - (k + 1))
    case measure => omega
    case rel => exact ⟨k + 1, rfl, hlt, by simp, by rw [HI2.out, hp]; simp, hm.trans hm1⟩
   ·go_wp2_with fail
    go_ret
    exact IntPost.of (by rw [HI2.out, hp]; rfl) (hm.trans hm1)
  ·have hke : k = xs.length := by omega
   subst hke
   go_wp2_with fail
   go_ret
   exact IntPost.of (by rw [HIX.out, List.drop_of_length_le (Nat.le_refl _)]; rfl) hm


set_option maxRecDepth 100000 in
set_option maxHeartbeats 1000000 in
theorem containsRn_calls (w : World) (v : Value) (xs : List SlcT) (F : Nat) (P : SlcT → Bool) (hv : Sl w 22 1 v (slcV xs))
  (hcf : ∀ (x : SlcT) (W : World), Sem.run Tryz.prog (callFunc F #[.slice x.1 x.2.1 x.2.2]) W = .ok (.enter F #[.slice x.1 x.2.1 x.2.2]) W)
  (hF : ∀ (x : SlcT) (W : World), x ∈ xs → Pure w W → Calls Tryz.prog F #[.slice x.1 x.2.1 x.2.2] W (BoolPost W (P x))) :
  Calls Tryz.prog 205 #[v, .func (.func F) #[] #[]] w (BoolPost w (xs.any P)) := by
 have HC := Lib.hid (indexRn_calls w v xs F  P hv hcf hF)
 have HI := Lib.hid (idxQ_any P xs 0 (by omega))
 clear hcf hF
 obtain ⟨A, n, c, rfl⟩ := hv.form
 clear hv
 go_enter Tryz.func205, Tryz.ntmps205
 go_wp2_with fail
 refine HC.out.mono ?_
 rintro e w1 ⟨rfl, hm1⟩
 generalize idxQ P xs 0 = r at *
 go_wp2_with fail
 go_ret
 exact BoolPost.of HI.out.symm hm1


end Go.Proofs.YtnfflgicngeekaaGreatDoor

/- What is found (package query): for a search of two patterns near to each other. -/
namespace Go.Proofs.YtnfflgicngeekaaGreatDoor
set_option linter.unusedVariables false
set_option linter.unusedSimpArgs false
open Go.RowKit
set_option maxRecDepth 100000 in
set_option maxHeartbeats 1000000 in
theorem some1_calls (x : SlcT) (W : World) : Calls Tryz.prog 206 #[.slice x.1 x.2.1 x.2.2] W (BoolPost W (decide (0 < x.2.1))) := by
 obtain ⟨A, n, c⟩ := x
 go_enter Tryz.func206, Tryz.ntmps206
 go_wp2_with fail
 go_ret
 exact BoolPost.of (by simp) (Mod.refl _ _)
/-- A target: an item, and its words. -/
def tgL (x : Itm) (vw : Value) : List Value := [.string ⟨x.id.toArray⟩, .string ⟨x.cust.toArray⟩, .int .i64 x.kind, .string ⟨x.name.toArray⟩, .int .i64 x.tm, .string ⟨x.par.toArray⟩, .string ⟨x.text.toArray⟩, vw]
def tgA (x : Itm) (vw : Value) : Value := .agg (tgL x vw).toArray
set_option maxRecDepth 100000 in
set_option maxHeartbeats 4000000 in
theorem somewhere_calls (w : World) (x : Itm) (A : Option Addr) (n c : Nat) (qr : QR) (W : Nat) (F : Nat → Nat → Bool) (hW : W ≤ 1000000) (hP : ∀ W', Pure w W' → Calls Tryz.prog 156 #[qA qr, .slice A n c] W' (RnP W' W F)) :
  Calls Tryz.prog 154 #[tgA x (.slice A n c), qA qr] w (BoolPost w (somePl F W)) := by
 have HP := Lib.hid hP
 clear hP
 obtain ⟨k, Aq, cq, ws, nq, Bq, dq, xs⟩ := qr
 unfold tgA tgL
 simp only [qA_mk] at HP ⊢
 obtain ⟨w1, hw1⟩ : ∃ w1, w1 = w.alloc (.cells #[.string ⟨x.id.toArray⟩, .string ⟨x.cust.toArray⟩, .int .i64 x.kind, .string ⟨x.name.toArray⟩, .int .i64 x.tm, .string ⟨x.par.toArray⟩, .string ⟨x.text.toArray⟩, .slice A n c] 110) := ⟨_, rfl⟩
 have hb1 := (Blk.new w 110 #[.string ⟨x.id.toArray⟩, .string ⟨x.cust.toArray⟩, .int .i64 x.kind, .string ⟨x.name.toArray⟩, .int .i64 x.tm, .string ⟨x.par.toArray⟩, .string ⟨x.text.toArray⟩, .slice A n c]).alloc (.cells #[.int .i64 k, .slice Aq ws.length cq, .int .i64 nq, .slice Bq xs.length dq] 29)
 have hb2 := Blk.snd w (.cells #[.string ⟨x.id.toArray⟩, .string ⟨x.cust.toArray⟩, .int .i64 x.kind, .string ⟨x.name.toArray⟩, .int .i64 x.tm, .string ⟨x.par.toArray⟩, .string ⟨x.text.toArray⟩, .slice A n c] 110) 29 #[.int .i64 k, .slice Aq ws.length cq, .int .i64 nq, .slice Bq xs.length dq]
 have HM : Hid (Pure w ((w.alloc (.cells #[.string ⟨x.id.toArray⟩, .string ⟨x.cust.toArray⟩, .int .i64 x.kind, .string ⟨x.name.toArray⟩, .int .i64 x.tm, .string ⟨x.par.toArray⟩, .string ⟨x.text.toArray⟩, .slice A n c] 110)).alloc (.cells #[.int .i64 k, .slice Aq ws.length cq, .int .i64 nq, .slice Bq xs.length dq] 29))) := Lib.hid (((Mod.refl _ _).alloc _).alloc _)
 have HPX := Lib.hid (HP.out _ HM.out)
 have x0 := hb1.cell 0; have x1 := hb1.cell 1; have x2 := hb1.cell 2; have x3 := hb1.cell 3; have x4 := hb1.cell 4; have x5 := hb1.cell 5; have x6 := hb1.cell 6; have x7 := hb1.cell 7; simp at x0 x1 x2 x3 x4 x5 x6 x7
 have y0 := hb2.cell 0; have y1 := hb2.cell 1; have y2 := hb2.cell 2; have y3 := hb2.cell 3; simp at y0 y1 y2 y3
 clear hw1 w1 hb1 hb2
 go_enter Tryz.func154, Tryz.ntmps154
 go_wp2_with fail
 refine HPX.out.mono ?_
 rintro e w2 ⟨v, rfl, hs, hm⟩
 obtain ⟨zs, hz1, hz2⟩ := slc_of hs
 have hany : zs.any (fun x => decide (0 < x.2.1)) = somePl F W := by
  rw [somePl_rows]
  have h1 : zs.any (fun x => decide (0 < x.2.1)) = (zs.map (·.2.1)).any (fun n => decide (0 < n)) := by rw [List.any_map]; rfl
  have h2 : (rowsQ W F).any (fun l => decide (0 < l.length)) = ((rowsQ W F).map List.length).any (fun n => decide (0 < n)) := by rw [List.any_map]; rfl
  rw [h1, h2, hz2]
 have HC := Lib.hid (containsRn_calls w2 v zs 206 (fun x => decide (0 < x.2.1)) hz1 (fun x W => rfl) (fun x W _ _ => some1_calls x W))
 rw [hany] at HC
 have HM2 := Lib.hid (HM.out.trans hm)
 clear hs hm hz1 hz2 hany HPX
 go_wp2_with fail
 refine HC.out.mono ?_
 rintro e w3 ⟨rfl, hm3⟩
 go_wp2_with fail
 go_ret
 exact ⟨rfl, HM2.out.trans hm3⟩
set_option maxRecDepth 100000 in
set_option maxHeartbeats 4000000 in
theorem found4_calls (w : World) (x : Itm) (A : Option Addr) (n c : Nat) (Aq Bq : Option Addr) (cq dq : Nat) (nq : Int) (ws : List Str) (xs : List QR) (W : Nat) (F : Nat → Nat → Bool) (hW : W ≤ 1000000) (hP : ∀ W', Pure w W' → Calls Tryz.prog 156 #[qA (.mk 4 Aq cq ws nq Bq dq xs), .slice A n c] W' (RnP W' W F)) :
  Calls Tryz.prog 86 #[tgA x (.slice A n c), qA (.mk 4 Aq cq ws nq Bq dq xs)] w (BoolPost w (somePl F W)) := by
 have HP := Lib.hid hP
 clear hP
 have hb1 := (Blk.new w 110 #[.string ⟨x.id.toArray⟩, .string ⟨x.cust.toArray⟩, .int .i64 x.kind, .string ⟨x.name.toArray⟩, .int .i64 x.tm, .string ⟨x.par.toArray⟩, .string ⟨x.text.toArray⟩, .slice A n c]).alloc (.cells #[.int .i64 4, .slice Aq ws.length cq, .int .i64 nq, .slice Bq xs.length dq] 29)
 have hb2 := Blk.snd w (.cells #[.string ⟨x.id.toArray⟩, .string ⟨x.cust.toArray⟩, .int .i64 x.kind, .string ⟨x.name.toArray⟩, .int .i64 x.tm, .string ⟨x.par.toArray⟩, .string ⟨x.text.toArray⟩, .slice A n c] 110) 29 #[.int .i64 4, .slice Aq ws.length cq, .int .i64 nq, .slice Bq xs.length dq]
 have HM : Hid (Pure w ((w.alloc (.cells #[.string ⟨x.id.toArray⟩, .string ⟨x.cust.toArray⟩, .int .i64 x.kind, .string ⟨x.name.toArray⟩, .int .i64 x.tm, .string ⟨x.par.toArray⟩, .string ⟨x.text.toArray⟩, .slice A n c] 110)).alloc (.cells #[.int .i64 4, .slice Aq ws.length cq, .int .i64 nq, .slice Bq xs.length dq] 29))) := Lib.hid (((Mod.refl _ _).alloc _).alloc _)
 have HS := Lib.hid (somewhere_calls _ x A n c (.mk 4 Aq cq ws nq Bq dq xs) W F hW (fun W' h => HP.out W' (HM.out.trans h)))
 unfold tgA tgL at *
 rw [qA_mk] at HS ⊢
 have x0 := hb1.cell 0; have x1 := hb1.cell 1; have x2 := hb1.cell 2; have x3 := hb1.cell 3; have x4 := hb1.cell 4; have x5 := hb1.cell 5; have x6 := hb1.cell 6; have x7 := hb1.cell 7; simp at x0 x1 x2 x3 x4 x5 x6 x7
 have y0 := hb2.cell 0; have y1 := hb2.cell 1; have y2 := hb2.cell 2; have y3 := hb2.cell 3; simp at y0 y1 y2 y3
 clear hb1 hb2
 go_enter Tryz.func86, Tryz.ntmps86
 go_wp2_with fail
 refine HS.out.mono ?_
 rintro e w3 ⟨rfl, hm3⟩
 go_wp2_with fail
 go_ret
 exact ⟨rfl, HM.out.trans hm3⟩

end Go.Proofs.YtnfflgicngeekaaGreatDoor

/- Matches (package query), for a right search of two patterns near to each other and a right item. -/
namespace Go.Proofs.YtnfflgicngeekaaGreatDoor
set_option linter.unusedVariables false
set_option linter.unusedSimpArgs false
open Go.RowKit
def NtP (w : World) (x : Itm) (e : Ending) (w' : World) : Prop := ∃ A n c, e = .returned (tgA x (.slice A n c)) ∧ Wds w' (.slice A n c) (wordsQ x.text) ∧ Pure w w'
set_option maxRecDepth 100000 in
set_option maxHeartbeats 4000000 in
theorem newTarget_calls (w : World) (x : Itm) (ht : x.text.length ≤ 1000000) : Calls Tryz.prog 85 #[itA x] w (NtP w x) := by
 have hb1 := (Blk.new w 62 #[.string ⟨x.id.toArray⟩, .string ⟨x.cust.toArray⟩, .int .i64 x.kind, .string ⟨x.name.toArray⟩, .int .i64 x.tm, .string ⟨x.par.toArray⟩, .string ⟨x.text.toArray⟩]).alloc (.cells #[.string ⟨#[]⟩, .string ⟨#[]⟩, .int .i64 0, .string ⟨#[]⟩, .int .i64 0, .string ⟨#[]⟩, .string ⟨#[]⟩, .slice none 0 0] 110)
 have hb2 := Blk.snd w (.cells #[.string ⟨x.id.toArray⟩, .string ⟨x.cust.toArray⟩, .int .i64 x.kind, .string ⟨x.name.toArray⟩, .int .i64 x.tm, .string ⟨x.par.toArray⟩, .string ⟨x.text.toArray⟩] 62) 110 #[.string ⟨#[]⟩, .string ⟨#[]⟩, .int .i64 0, .string ⟨#[]⟩, .int .i64 0, .string ⟨#[]⟩, .string ⟨#[]⟩, .slice none 0 0]
 have HM : Hid (Pure w ((w.alloc (.cells #[.string ⟨x.id.toArray⟩, .string ⟨x.cust.toArray⟩, .int .i64 x.kind, .string ⟨x.name.toArray⟩, .int .i64 x.tm, .string ⟨x.par.toArray⟩, .string ⟨x.text.toArray⟩] 62)).alloc (.cells #[.string ⟨#[]⟩, .string ⟨#[]⟩, .int .i64 0, .string ⟨#[]⟩, .int .i64 0, .string ⟨#[]⟩, .string ⟨#[]⟩, .slice none 0 0] 110))) := Lib.hid (((Mod.refl _ _).alloc _).alloc _)
 have HB1 := Lib.hid hb1
 have HB2 := Lib.hid hb2
 have hbu : w.heap.size + 1 ≤ w.heap.size + 1 := Nat.le_refl _
 clear hb1 hb2
 unfold itA
 go_enter Tryz.func85, Tryz.ntmps85
 go_upto_region 1 with (fail)
 generalize ((w.alloc (.cells #[.string ⟨x.id.toArray⟩, .string ⟨x.cust.toArray⟩, .int .i64 x.kind, .string ⟨x.name.toArray⟩, .int .i64 x.tm, .string ⟨x.par.toArray⟩, .string ⟨x.text.toArray⟩] 62)).alloc (.cells #[.string ⟨#[]⟩, .string ⟨#[]⟩, .int .i64 0, .string ⟨#[]⟩, .int .i64 0, .string ⟨#[]⟩, .string ⟨#[]⟩, .slice none 0 0] 110)) = w1 at *
 obtain ⟨b1, hb1⟩ : ∃ b, w.heap.size = b := ⟨_, rfl⟩
 rw [hb1] at HB1 HB2
 simp only [hb1]
 obtain ⟨b2, hb2⟩ : ∃ b, b1 + 1 = b := ⟨_, rfl⟩
 rw [hb2] at HB2
 simp only [hb2]
 have hbl : w.heap.size ≤ b2 := by omega
 clear hb1 hb2 hbu
 have h1 := HB1.out
 have u0 := h1.cell 0; have u1 := h1.cell 1; have u2 := h1.cell 2; have u3 := h1.cell 3; have u4 := h1.cell 4; have u5 := h1.cell 5; have u6 := h1.cell 6; simp at u0 u1 u2 u3 u4 u5 u6
 clear h1
 have HWD := Lib.hid (fun W => words_calls W x.text ht)
 go_region_with (go_at_call 149; (refine (HWD.out _).mono ?_); rintro e w5 ⟨v, rfl, hq, hm5⟩; obtain ⟨A, n, c, rfl⟩ := (Sl.of_own hq).form; have hP5 := ((Mod.refl (fun _ => False) w1).drew).trans hm5; have hc2 := HB2.out.modp hP5; have hc1 := HB1.out.modp hP5; have q0 := hc2.cell 0; have qf0 := hc2.frozen 0; have q1 := hc2.cell 1; have qf1 := hc2.frozen 1; have q2 := hc2.cell 2; have qf2 := hc2.frozen 2; have q3 := hc2.cell 3; have qf3 := hc2.frozen 3; have q4 := hc2.cell 4; have qf4 := hc2.frozen 4; have q5 := hc2.cell 5; have qf5 := hc2.frozen 5; have q6 := hc2.cell 6; have qf6 := hc2.frozen 6; have q7 := hc2.cell 7; have qf7 := hc2.frozen 7; simp at q0 q1 q2 q3 q4 q5 q6 q7; have r0 := hc1.cell 0; have r1 := hc1.cell 1; have r2 := hc1.cell 2; have r3 := hc1.cell 3; have r4 := hc1.cell 4; have r5 := hc1.cell 5; have r6 := hc1.cell 6; simp at r0 r1 r2 r3 r4 r5 r6)
 all_goals
  have HS := Lib.hid (show Wds w5 (.slice A n c) (wordsQ x.text) from Sl.of_own hq)
  have HP5 := Lib.hid hP5
  have HC2 := Lib.hid hc2
  clear hq hm5 hP5 hc1 hc2
  try simp only [Exit.inBlock, Exit.then]
  have h9 := (((((((HC2.out.set 0 (.string ⟨x.id.toArray⟩)).set 1 (.string ⟨x.cust.toArray⟩)).set 2 (.int .i64 x.kind)).set 3 (.string ⟨x.name.toArray⟩)).set 4 (.int .i64 x.tm)).set 5 (.string ⟨x.par.toArray⟩)).set 6 (.string ⟨x.text.toArray⟩)).set 7 (.slice A n c)
  simp at h9
  have hm9 := mod_set (mod_set (mod_set (mod_set (mod_set (mod_set (mod_set (mod_set (Mod.refl (· = b2) w5) 0 (.string ⟨x.id.toArray⟩)) 1 (.string ⟨x.cust.toArray⟩)) 2 (.int .i64 x.kind)) 3 (.string ⟨x.name.toArray⟩)) 4 (.int .i64 x.tm)) 5 (.string ⟨x.par.toArray⟩)) 6 (.string ⟨x.text.toArray⟩)) 7 (.slice A n c)
  have HS9 := Lib.hid (Sl.mod HS.out hm9 (fun g arr fr hg he => by subst he; have h := HC2.out; unfold Blk at h; rw [h] at hg; injection hg with hg; injection hg with _ hg; exact absurd hg (by decide)))
  have HM9 := Lib.hid ((HM.out.trans HP5.out).trans' hm9 (fun i hi hlt => by omega))
  have z0 := h9.cell 0; have z1 := h9.cell 1; have z2 := h9.cell 2; have z3 := h9.cell 3; have z4 := h9.cell 4; have z5 := h9.cell 5; have z6 := h9.cell 6; have z7 := h9.cell 7; simp at z0 z1 z2 z3 z4 z5 z6 z7
  clear hm9 h9
  go_wp2_with fail
  try simp only [Exit.inBlock, Exit.then]
  refine bodyPost_ret (v := .agg #[.string ⟨x.id.toArray⟩, .string ⟨x.cust.toArray⟩, .int .i64 x.kind, .string ⟨x.name.toArray⟩, .int .i64 x.tm, .string ⟨x.par.toArray⟩, .string ⟨x.text.toArray⟩, .slice A n c]) (by simp [results, Tryz.results85, go_sem, z0, z1, z2, z3, z4, z5, z6, z7]) rfl ?_
  exact ⟨A, n, c, rfl, HS9.out, HM9.out⟩
set_option maxRecDepth 100000 in
set_option maxHeartbeats 4000000 in
theorem matches4_calls (w : World) (x : Itm) (Aq Bq : Option Addr) (cq dq : Nat) (nq : Int) (ws : List Str) (xs : List QR) (F : Nat → Nat → Bool) (hx : ItL x) (hE : Env w) (hie : itemE x = 0) (hQ : QS w (.mk 4 Aq cq ws nq Bq dq xs)) (hB : QB 1000 (QR.mk 4 Aq cq ws nq Bq dq xs).key) (hc : checkQ (QR.mk 4 Aq cq ws nq Bq dq xs).key = 0) (hW : (wordsQ x.text).length ≤ 1000000)
  (hP : ∀ W' A n c, Pure w W' → Wds W' (.slice A n c) (wordsQ x.text) → Calls Tryz.prog 156 #[qA (.mk 4 Aq cq ws nq Bq dq xs), .slice A n c] W' (RnP W' (wordsQ x.text).length F)) :
  Calls Tryz.prog 33 #[qA (.mk 4 Aq cq ws nq Bq dq xs), itA x] w (fun e w' => e = .returned (.tuple #[.bool (somePl F (wordsQ x.text).length), .int .i64 0]) ∧ Pure w w') := by
 have hxt : x.text.length ≤ 1000000 := by have := hx.2.2.2.2; omega
 have HCK := Lib.hid (fun W (h : QS W (QR.mk 4 Aq cq ws nq Bq dq xs)) => by have h2 := qcheck_calls W (.mk 4 Aq cq ws nq Bq dq xs) h hB; rw [hc] at h2; exact h2)
 have HIC := Lib.hid (fun W (h : Pure w W) => by have h2 := checkItemL_calls W x hx (hE.pure h); rw [hie] at h2; exact h2)
 have HNT := Lib.hid (fun W => newTarget_calls W x hxt)
 have HFD := Lib.hid (fun W A n c (h : Pure w W) (hw : Wds W (.slice A n c) (wordsQ x.text)) => found4_calls W x A n c Aq Bq cq dq nq ws xs (wordsQ x.text).length F hW (fun W' h' => hP W' A n c (h.trans h') (hw.pure h')))
 have HQ := Lib.hid hQ
 have hb1 := (Blk.new w 29 #[.int .i64 4, .slice Aq ws.length cq, .int .i64 nq, .slice Bq xs.length dq]).alloc (.cells #[.string ⟨x.id.toArray⟩, .string ⟨x.cust.toArray⟩, .int .i64 x.kind, .string ⟨x.name.toArray⟩, .int .i64 x.tm, .string ⟨x.par.toArray⟩, .string ⟨x.text.toArray⟩] 62)
 have hb2 := Blk.snd w (.cells #[.int .i64 4, .slice Aq ws.length cq, .int .i64 nq, .slice Bq xs.length dq] 29) 62 #[.string ⟨x.id.toArray⟩, .string ⟨x.cust.toArray⟩, .int .i64 x.kind, .string ⟨x.name.toArray⟩, .int .i64 x.tm, .string ⟨x.par.toArray⟩, .string ⟨x.text.toArray⟩]
 have HM : Hid (Pure w ((w.alloc (.cells #[.int .i64 4, .slice Aq ws.length cq, .int .i64 nq, .slice Bq xs.length dq] 29)).alloc (.cells #[.string ⟨x.id.toArray⟩, .string ⟨x.cust.toArray⟩, .int .i64 x.kind, .string ⟨x.name.toArray⟩, .int .i64 x.tm, .string ⟨x.par.toArray⟩, .string ⟨x.text.toArray⟩] 62))) := Lib.hid (((Mod.refl _ _).alloc _).alloc _)
 have HB1 := Lib.hid hb1
 have HB2 := Lib.hid hb2
 clear hb1 hb2 hx hE hie hQ hB hc hP hxt
 simp only [qA_mk] at HCK HFD ⊢
 unfold itA at HIC HNT ⊢
 generalize somePl F (wordsQ x.text).length = ans at *
 go_enter Tryz.func33, Tryz.ntmps33
 go_upto_region 1 with (fail)
 generalize ((w.alloc (.cells #[.int .i64 4, .slice Aq ws.length cq, .int .i64 nq, .slice Bq xs.length dq] 29)).alloc (.cells #[.string ⟨x.id.toArray⟩, .string ⟨x.cust.toArray⟩, .int .i64 x.kind, .string ⟨x.name.toArray⟩, .int .i64 x.tm, .string ⟨x.par.toArray⟩, .string ⟨x.text.toArray⟩] 62)) = w1 at *
 obtain ⟨b1, hb1⟩ : ∃ b, w.heap.size = b := ⟨_, rfl⟩
 rw [hb1] at HB1 HB2
 simp only [hb1]
 obtain ⟨b2, hb2⟩ : ∃ b, b1 + 1 = b := ⟨_, rfl⟩
 rw [hb2] at HB2
 simp only [hb2]
 clear hb1 hb2
 have HGs := Lib.hid (show ∀ (D : Nat → Bool) (zzi : Nat) (zq zq' : World), (fun _ zq => (fun Z => Blk Z b1 29 #[.int .i64 4, .slice Aq ws.length cq, .int .i64 nq, .slice Bq xs.length dq] ∧ Blk Z b2 62 #[.string ⟨x.id.toArray⟩, .string ⟨x.cust.toArray⟩, .int .i64 x.kind, .string ⟨x.name.toArray⟩, .int .i64 x.tm, .string ⟨x.par.toArray⟩, .string ⟨x.text.toArray⟩]) zq) D zq → Mod (fun _ => False) zq zq' → (fun _ zq => (fun Z => Blk Z b1 29 #[.int .i64 4, .slice Aq ws.length cq, .int .i64 nq, .slice Bq xs.length dq] ∧ Blk Z b2 62 #[.string ⟨x.id.toArray⟩, .string ⟨x.cust.toArray⟩, .int .i64 x.kind, .string ⟨x.name.toArray⟩, .int .i64 x.tm, .string ⟨x.par.toArray⟩, .string ⟨x.text.toArray⟩]) zq) (upd D zzi true) zq' from by intro D zzi zq zq' h hm; (exact ⟨h.1.modp hm, h.2.modp hm⟩))
 refine wp_region_inv (by kernel_rfl) (by kernel_rfl) (InvF (R := Mod (fun _ => False)) [.is (.agg #[.int .i64 4, .slice Aq ws.length cq, .int .i64 nq, .slice Bq xs.length dq]),
   .is (.int .i64 0),
   .is (.agg #[.string ⟨x.id.toArray⟩, .string ⟨x.cust.toArray⟩, .int .i64 x.kind, .string ⟨x.name.toArray⟩, .int .i64 x.tm, .string ⟨x.par.toArray⟩, .string ⟨x.text.toArray⟩]),
   .is (.int .i64 0),
   ⟨fun zv zw => ∃ (g_4 : Nat), zv = .slice (some ⟨g_4, 0, none⟩) 2 2 ∧ w1.heap.size ≤ g_4 ∧ Blk zw g_4 30 #[.int .i64 0, .int .i64 0], (by rintro zv zw zx ⟨g_4, rfl, c0, q0⟩ hm; exact ⟨g_4, rfl, c0, (q0.modp hm)⟩), none, some 5⟩,
   .is (.int .i64 0),
   .is (.int .i64 0)]
   (PB w1 (fun _ => False) w1.heap.size (fun _ zq => (fun Z => Blk Z b1 29 #[.int .i64 4, .slice Aq ws.length cq, .int .i64 nq, .slice Bq xs.length dq] ∧ Blk Z b2 62 #[.string ⟨x.id.toArray⟩, .string ⟨x.cust.toArray⟩, .int .i64 x.kind, .string ⟨x.name.toArray⟩, .int .i64 x.tm, .string ⟨x.par.toArray⟩, .string ⟨x.text.toArray⟩]) zq))) (InvF.start (PB.start (Mod.refl _ _) (Nat.le_refl _) (⟨HB1.out.drew, HB2.out.drew⟩))) ?_ ?_
 ·refine .cons ?_ (.cons ?_ (.cons ?_ (.cons ?_ (.cons ?_ (.cons ?_ (.cons ?_ .nil))))))
  ·intro D V zw1 a hR hI K hK
   obtain ⟨hM1, hB1, hG1⟩ := hI.1
   obtain ⟨hG1b, hG1c⟩ := hG1
   have ze2 := hR.frame.other (t := 2) (by kernel_rfl) rfl
   have zx0 := (hG1b).cell 0; have zy0 := (hG1b).frozen 0; simp at zx0
   have zx1 := (hG1b).cell 1; have zy1 := (hG1b).frozen 1; simp at zx1
   have zx2 := (hG1b).cell 2; have zy2 := (hG1b).frozen 2; simp at zx2
   have zx3 := (hG1b).cell 3; have zy3 := (hG1b).frozen 3; simp at zx3
   rw [if_pos (by rfl)]
   go_simp
   exact hK (.agg #[.int .i64 4, .slice Aq ws.length cq, .int .i64 nq, .slice Bq xs.length dq]) _ (hI.next hR (by kernel_rfl) (Mod.refl _ _) (PB.quiet hI.1 (Mod.refl _ _) (HGs.out D 0 zw1 zw1 (hI.1).g (Mod.refl _ _))) (upd_same V 0 _))
  ·intro D V zw1 a hR hI K hK
   obtain ⟨hM1, hB1, hG1⟩ := hI.1
   obtain ⟨hG1b, hG1c⟩ := hG1
   have zd0 := hR.pred 0 (by kernel_rfl)
   have zF0 : V 0 = .agg #[.int .i64 4, .slice Aq ws.length cq, .int .i64 nq, .slice Bq xs.length dq] := hI.2 0 zd0 rfl
   have zf0 := zF0; clear zF0
   have ze7 := hR.frame.done (t := 7) (j := 0) (by kernel_rfl) hR.ok zd0
   rw [if_pos (by rfl)]
   go_simp
   refine (HCK.out zw1 (HQ.out.pure (HM.out.trans hM1))).mono ?_
   rintro e zw2 ⟨rfl, hm2⟩
   exact hK (.int .i64 0) _ (hI.next hR (by kernel_rfl) hm2 (PB.quiet hI.1 hm2 (HGs.out D 1 _ _ (hI.1).g hm2)) (upd_same V 1 _))
  ·intro D V zw1 a hR hI K hK
   obtain ⟨hM1, hB1, hG1⟩ := hI.1
   obtain ⟨hG1b, hG1c⟩ := hG1
   have ze3 := hR.frame.other (t := 3) (by kernel_rfl) rfl
   have zx0 := (hG1c).cell 0; have zy0 := (hG1c).frozen 0; simp at zx0
   have zx1 := (hG1c).cell 1; have zy1 := (hG1c).frozen 1; simp at zx1
   have zx2 := (hG1c).cell 2; have zy2 := (hG1c).frozen 2; simp at zx2
   have zx3 := (hG1c).cell 3; have zy3 := (hG1c).frozen 3; simp at zx3
   have zx4 := (hG1c).cell 4; have zy4 := (hG1c).frozen 4; simp at zx4
   have zx5 := (hG1c).cell 5; have zy5 := (hG1c).frozen 5; simp at zx5
   have zx6 := (hG1c).cell 6; have zy6 := (hG1c).frozen 6; simp at zx6
   rw [if_pos (by rfl)]
   go_simp
   exact hK (.agg #[.string ⟨x.id.toArray⟩, .string ⟨x.cust.toArray⟩, .int .i64 x.kind, .string ⟨x.name.toArray⟩, .int .i64 x.tm, .string ⟨x.par.toArray⟩, .string ⟨x.text.toArray⟩]) _ (hI.next hR (by kernel_rfl) (Mod.refl _ _) (PB.quiet hI.1 (Mod.refl _ _) (HGs.out D 2 zw1 zw1 (hI.1).g (Mod.refl _ _))) (upd_same V 2 _))
  ·intro D V zw1 a hR hI K hK
   obtain ⟨hM1, hB1, hG1⟩ := hI.1
   obtain ⟨hG1b, hG1c⟩ := hG1
   have zd2 := hR.pred 2 (by kernel_rfl)
   have zF2 : V 2 = .agg #[.string ⟨x.id.toArray⟩, .string ⟨x.cust.toArray⟩, .int .i64 x.kind, .string ⟨x.name.toArray⟩, .int .i64 x.tm, .string ⟨x.par.toArray⟩, .string ⟨x.text.toArray⟩] := hI.2 2 zd2 rfl
   have zf2 := zF2; clear zF2
   have ze9 := hR.frame.done (t := 9) (j := 2) (by kernel_rfl) hR.ok zd2
   rw [if_pos (by rfl)]
   go_simp
   refine (HIC.out zw1 (HM.out.trans hM1)).mono ?_
   rintro e zw2 ⟨rfl, hm2⟩
   exact hK (.int .i64 0) _ (hI.next hR (by kernel_rfl) hm2 (PB.quiet hI.1 hm2 (HGs.out D 3 _ _ (hI.1).g hm2)) (upd_same V 3 _))
  ·intro D V zw1 a hR hI K hK
   obtain ⟨hM1, hB1, hG1⟩ := hI.1
   obtain ⟨hG1b, hG1c⟩ := hG1
   have zd1 := hR.pred 1 (by kernel_rfl)
   have zF1 : V 1 = .int .i64 0 := hI.2 1 zd1 rfl
   have zf1 := zF1; clear zF1
   have zd3 := hR.pred 3 (by kernel_rfl)
   have zF3 : V 3 = .int .i64 0 := hI.2 3 zd3 rfl
   have zf3 := zF3; clear zF3
   have ze8 := hR.frame.done (t := 8) (j := 1) (by kernel_rfl) hR.ok zd1
   have ze10 := hR.frame.done (t := 10) (j := 3) (by kernel_rfl) hR.ok zd3
   rw [if_pos (by rfl)]
   go_simp
   exact hK (_) _ (hI.next hR (by kernel_rfl) ((Mod.refl _ _).alloc _) (PB.quiet hI.1 (pure_alloc _ _) (HGs.out D 4 _ _ (hI.1).g ((Mod.refl _ _).alloc _))) (⟨_, upd_same V 4 _, (by omega), (Blk.new _ _ _)⟩))
  ·intro D V zw1 a hR hI K hK
   obtain ⟨hM1, hB1, hG1⟩ := hI.1
   obtain ⟨hG1b, hG1c⟩ := hG1
   have zd4 := hR.pred 4 (by kernel_rfl)
   have zF4 : ∃ (g_4 : Nat), V 4 = .slice (some ⟨g_4, 0, none⟩) 2 2 ∧ w1.heap.size ≤ g_4 ∧ Blk zw1 g_4 30 #[.int .i64 0, .int .i64 0] := hI.2 4 zd4 (by show (!D 5) = true; rw [hR.not]; rfl)
   obtain ⟨g_4, zf4, c4_0, b4_0⟩ := zF4
   have ze11 := hR.frame.done (t := 11) (j := 4) (by kernel_rfl) hR.ok zd4
   rw [if_pos (by rfl)]
   go_simp
   refine (firstE_calls zw1 g_4 2 [0, 0] b4_0.row0 (by simp)).mono ?_
   rintro e zw2 ⟨rfl, hm2⟩
   exact hK (.int .i64 0) _ (hI.next hR (by kernel_rfl) hm2 (PB.quiet hI.1 hm2 (HGs.out D 5 _ _ (hI.1).g hm2)) (upd_same V 5 _))
  ·intro D V zw1 a hR hI K hK
   obtain ⟨hM1, hB1, hG1⟩ := hI.1
   obtain ⟨hG1b, hG1c⟩ := hG1
   have zd5 := hR.pred 5 (by kernel_rfl)
   have zF5 : V 5 = .int .i64 0 := hI.2 5 zd5 rfl
   have zf5 := zF5; clear zF5
   have ze12 := hR.frame.done (t := 12) (j := 5) (by kernel_rfl) hR.ok zd5
   rw [if_pos (by rfl)]
   go_simp
   exact hK (.int .i64 0) _ (hI.next hR (by kernel_rfl) (Mod.refl _ _) (PB.quiet hI.1 (Mod.refl _ _) (HGs.out D 6 zw1 zw1 (hI.1).g (Mod.refl _ _))) (upd_same V 6 _))
 ·intro D V w2 hD hI
  obtain ⟨hM1, hB1, hG1⟩ := hI.1
  have hMx := hM1
  clear hM1
  have hBx := hB1
  clear hB1
  have hGx := hG1
  clear hG1
  have zF0 : V 0 = .agg #[.int .i64 4, .slice Aq ws.length cq, .int .i64 nq, .slice Bq xs.length dq] := hI.2 0 (hD 0 (by decide)) rfl
  have zf0 := zF0; clear zF0
  have zF1 : V 1 = .int .i64 0 := hI.2 1 (hD 1 (by decide)) rfl
  have zf1 := zF1; clear zF1
  have zF2 : V 2 = .agg #[.string ⟨x.id.toArray⟩, .string ⟨x.cust.toArray⟩, .int .i64 x.kind, .string ⟨x.name.toArray⟩, .int .i64 x.tm, .string ⟨x.par.toArray⟩, .string ⟨x.text.toArray⟩] := hI.2 2 (hD 2 (by decide)) rfl
  have zf2 := zF2; clear zF2
  have zF3 : V 3 = .int .i64 0 := hI.2 3 (hD 3 (by decide)) rfl
  have zf3 := zF3; clear zF3
  have zF5 : V 5 = .int .i64 0 := hI.2 5 (hD 5 (by decide)) rfl
  have zf5 := zF5; clear zF5
  have zF6 : V 6 = .int .i64 0 := hI.2 6 (hD 6 (by decide)) rfl
  have zf6 := zF6; clear zF6
  clear hI hD HGs
  simp only [frAll, Act.put, List.setIfInBounds_toArray, List.set_cons_zero, List.set_cons_succ, Nat.zero_add, Nat.reduceAdd, zf0, zf1, zf2, zf3, zf5, zf6]
  clear zf0 zf1 zf2 zf3 zf5 zf6
  generalize V 4 = u4
  clear V D
  have HB1' := Lib.hid hGx.1
  have HB2' := Lib.hid hGx.2
  have HM2 := Lib.hid (HM.out.trans hMx)
  clear hGx hMx HB1 HB2 HM
  go_upto_region 4 with (fail)
  have HGs := Lib.hid (show ∀ (D : Nat → Bool) (zzi : Nat) (zq zq' : World), (fun _ zq => (fun Z => Blk Z b1 29 #[.int .i64 4, .slice Aq ws.length cq, .int .i64 nq, .slice Bq xs.length dq] ∧ Blk Z b2 62 #[.string ⟨x.id.toArray⟩, .string ⟨x.cust.toArray⟩, .int .i64 x.kind, .string ⟨x.name.toArray⟩, .int .i64 x.tm, .string ⟨x.par.toArray⟩, .string ⟨x.text.toArray⟩]) zq) D zq → Mod (fun _ => False) zq zq' → (fun _ zq => (fun Z => Blk Z b1 29 #[.int .i64 4, .slice Aq ws.length cq, .int .i64 nq, .slice Bq xs.length dq] ∧ Blk Z b2 62 #[.string ⟨x.id.toArray⟩, .string ⟨x.cust.toArray⟩, .int .i64 x.kind, .string ⟨x.name.toArray⟩, .int .i64 x.tm, .string ⟨x.par.toArray⟩, .string ⟨x.text.toArray⟩]) zq) (upd D zzi true) zq' from by intro D zzi zq zq' h hm; (exact ⟨h.1.modp hm, h.2.modp hm⟩))
  refine wp_region_inv (by kernel_rfl) (by kernel_rfl) (InvF (R := Mod (fun _ => False)) [.is (.agg #[.string ⟨x.id.toArray⟩, .string ⟨x.cust.toArray⟩, .int .i64 x.kind, .string ⟨x.name.toArray⟩, .int .i64 x.tm, .string ⟨x.par.toArray⟩, .string ⟨x.text.toArray⟩]),
    ⟨fun zv zw => ∃ (A_1 : Option Addr) (n_1 : Nat) (c_1 : Nat), zv = tgA x (.slice A_1 n_1 c_1) ∧ Wds zw (.slice A_1 n_1 c_1) (wordsQ x.text), (by rintro zv zw zx ⟨A_1, n_1, c_1, rfl, q0⟩ hm; exact ⟨A_1, n_1, c_1, rfl, (q0.pure hm)⟩), none, none⟩,
    .is (.agg #[.int .i64 4, .slice Aq ws.length cq, .int .i64 nq, .slice Bq xs.length dq]),
    .is (.bool ans),
    .is (.bool ans),
    .is ((.int .i64 0))]
    (PB w2 (fun _ => False) w2.heap.size (fun _ zq => (fun Z => Blk Z b1 29 #[.int .i64 4, .slice Aq ws.length cq, .int .i64 nq, .slice Bq xs.length dq] ∧ Blk Z b2 62 #[.string ⟨x.id.toArray⟩, .string ⟨x.cust.toArray⟩, .int .i64 x.kind, .string ⟨x.name.toArray⟩, .int .i64 x.tm, .string ⟨x.par.toArray⟩, .string ⟨x.text.toArray⟩]) zq))) (InvF.start (PB.start (Mod.refl _ _) (Nat.le_refl _) (⟨HB1'.out.drew, HB2'.out.drew⟩))) ?_ ?_
  ·refine .cons ?_ (.cons ?_ (.cons ?_ (.cons ?_ (.cons ?_ (.cons ?_ .nil)))))
   ·intro D V zw1 a hR hI K hK
    obtain ⟨hM1, hB1, hG1⟩ := hI.1
    obtain ⟨hG1b, hG1c⟩ := hG1
    have ze3 := hR.frame.other (t := 3) (by kernel_rfl) rfl
    have zx0 := (hG1c).cell 0; have zy0 := (hG1c).frozen 0; simp at zx0
    have zx1 := (hG1c).cell 1; have zy1 := (hG1c).frozen 1; simp at zx1
    have zx2 := (hG1c).cell 2; have zy2 := (hG1c).frozen 2; simp at zx2
    have zx3 := (hG1c).cell 3; have zy3 := (hG1c).frozen 3; simp at zx3
    have zx4 := (hG1c).cell 4; have zy4 := (hG1c).frozen 4; simp at zx4
    have zx5 := (hG1c).cell 5; have zy5 := (hG1c).frozen 5; simp at zx5
    have zx6 := (hG1c).cell 6; have zy6 := (hG1c).frozen 6; simp at zx6
    rw [if_pos (by rfl)]
    go_simp
    exact hK (.agg #[.string ⟨x.id.toArray⟩, .string ⟨x.cust.toArray⟩, .int .i64 x.kind, .string ⟨x.name.toArray⟩, .int .i64 x.tm, .string ⟨x.par.toArray⟩, .string ⟨x.text.toArray⟩]) _ (hI.next hR (by kernel_rfl) (Mod.refl _ _) (PB.quiet hI.1 (Mod.refl _ _) (HGs.out D 0 zw1 zw1 (hI.1).g (Mod.refl _ _))) (upd_same V 0 _))
   ·intro D V zw1 a hR hI K hK
    obtain ⟨hM1, hB1, hG1⟩ := hI.1
    obtain ⟨hG1b, hG1c⟩ := hG1
    have zd0 := hR.pred 0 (by kernel_rfl)
    have zF0 : V 0 = .agg #[.string ⟨x.id.toArray⟩, .string ⟨x.cust.toArray⟩, .int .i64 x.kind, .string ⟨x.name.toArray⟩, .int .i64 x.tm, .string ⟨x.par.toArray⟩, .string ⟨x.text.toArray⟩] := hI.2 0 zd0 rfl
    have zf0 := zF0; clear zF0
    have ze16 := hR.frame.done (t := 16) (j := 0) (by kernel_rfl) hR.ok zd0
    rw [if_pos (by rfl)]
    go_simp
    refine (HNT.out zw1).mono ?_
    rintro e zw2 ⟨A_0, n_0, c_0, rfl, hq, hm2⟩
    exact hK (tgA x (.slice A_0 n_0 c_0)) _ (hI.next hR (by kernel_rfl) hm2 (PB.quiet hI.1 hm2 (HGs.out D 1 _ _ (hI.1).g hm2)) (⟨A_0, n_0, c_0, upd_same V 1 _, hq⟩))
   ·intro D V zw1 a hR hI K hK
    obtain ⟨hM1, hB1, hG1⟩ := hI.1
    obtain ⟨hG1b, hG1c⟩ := hG1
    have ze2 := hR.frame.other (t := 2) (by kernel_rfl) rfl
    have zx0 := (hG1b).cell 0; have zy0 := (hG1b).frozen 0; simp at zx0
    have zx1 := (hG1b).cell 1; have zy1 := (hG1b).frozen 1; simp at zx1
    have zx2 := (hG1b).cell 2; have zy2 := (hG1b).frozen 2; simp at zx2
    have zx3 := (hG1b).cell 3; have zy3 := (hG1b).frozen 3; simp at zx3
    rw [if_pos (by rfl)]
    go_simp
    exact hK (.agg #[.int .i64 4, .slice Aq ws.length cq, .int .i64 nq, .slice Bq xs.length dq]) _ (hI.next hR (by kernel_rfl) (Mod.refl _ _) (PB.quiet hI.1 (Mod.refl _ _) (HGs.out D 2 zw1 zw1 (hI.1).g (Mod.refl _ _))) (upd_same V 2 _))
   ·intro D V zw1 a hR hI K hK
    obtain ⟨hM1, hB1, hG1⟩ := hI.1
    obtain ⟨hG1b, hG1c⟩ := hG1
    have zd1 := hR.pred 1 (by kernel_rfl)
    have zF1 : ∃ (A_1 : Option Addr) (n_1 : Nat) (c_1 : Nat), V 1 = tgA x (.slice A_1 n_1 c_1) ∧ Wds zw1 (.slice A_1 n_1 c_1) (wordsQ x.text) := hI.2 1 zd1 rfl
    obtain ⟨A_1, n_1, c_1, zf1, b1_0⟩ := zF1
    have zd2 := hR.pred 2 (by kernel_rfl)
    have zF2 : V 2 = .agg #[.int .i64 4, .slice Aq ws.length cq, .int .i64 nq, .slice Bq xs.length dq] := hI.2 2 zd2 rfl
    have zf2 := zF2; clear zF2
    have ze17 := hR.frame.done (t := 17) (j := 1) (by kernel_rfl) hR.ok zd1
    have ze18 := hR.frame.done (t := 18) (j := 2) (by kernel_rfl) hR.ok zd2
    rw [if_pos (by rfl)]
    go_simp
    refine (HFD.out zw1 A_1 n_1 c_1 (HM2.out.trans hM1) b1_0).mono ?_
    rintro e zw2 ⟨rfl, hm2⟩
    exact hK (.bool ans) _ (hI.next hR (by kernel_rfl) hm2 (PB.quiet hI.1 hm2 (HGs.out D 3 _ _ (hI.1).g hm2)) (upd_same V 3 _))
   ·intro D V zw1 a hR hI K hK
    obtain ⟨hM1, hB1, hG1⟩ := hI.1
    obtain ⟨hG1b, hG1c⟩ := hG1
    have zd3 := hR.pred 3 (by kernel_rfl)
    have zF3 : V 3 = .bool ans := hI.2 3 zd3 rfl
    have zf3 := zF3; clear zF3
    have ze19 := hR.frame.done (t := 19) (j := 3) (by kernel_rfl) hR.ok zd3
    rw [if_pos (by rfl)]
    go_simp
    exact hK (.bool ans) _ (hI.next hR (by kernel_rfl) (Mod.refl _ _) (PB.quiet hI.1 (Mod.refl _ _) (HGs.out D 4 zw1 zw1 (hI.1).g (Mod.refl _ _))) (upd_same V 4 _))
   ·intro D V zw1 a hR hI K hK
    obtain ⟨hM1, hB1, hG1⟩ := hI.1
    obtain ⟨hG1b, hG1c⟩ := hG1
    rw [if_pos (by rfl)]
    go_simp
    exact hK ((.int .i64 0)) _ (hI.next hR (by kernel_rfl) (Mod.refl _ _) (PB.quiet hI.1 (Mod.refl _ _) (HGs.out D 5 zw1 zw1 (hI.1).g (Mod.refl _ _))) (upd_same V 5 _))
  ·intro D V w3 hD hI
   obtain ⟨hM1, hB1, hG1⟩ := hI.1
   have hMx := hM1
   clear hM1
   have hBx := hB1
   clear hB1
   have hGx := hG1
   clear hG1
   have zF0 : V 0 = .agg #[.string ⟨x.id.toArray⟩, .string ⟨x.cust.toArray⟩, .int .i64 x.kind, .string ⟨x.name.toArray⟩, .int .i64 x.tm, .string ⟨x.par.toArray⟩, .string ⟨x.text.toArray⟩] := hI.2 0 (hD 0 (by decide)) rfl
   have zf0 := zF0; clear zF0
   have zF1 : ∃ (A_1 : Option Addr) (n_1 : Nat) (c_1 : Nat), V 1 = tgA x (.slice A_1 n_1 c_1) ∧ Wds w3 (.slice A_1 n_1 c_1) (wordsQ x.text) := hI.2 1 (hD 1 (by decide)) rfl
   obtain ⟨A_1, n_1, c_1, zf1, b1_0⟩ := zF1
   have zF2 : V 2 = .agg #[.int .i64 4, .slice Aq ws.length cq, .int .i64 nq, .slice Bq xs.length dq] := hI.2 2 (hD 2 (by decide)) rfl
   have zf2 := zF2; clear zF2
   have zF3 : V 3 = .bool ans := hI.2 3 (hD 3 (by decide)) rfl
   have zf3 := zF3; clear zF3
   have zF4 : V 4 = .bool ans := hI.2 4 (hD 4 (by decide)) rfl
   have zf4 := zF4; clear zF4
   have zF5 : V 5 = (.int .i64 0) := hI.2 5 (hD 5 (by decide)) rfl
   have zf5 := zF5; clear zF5
   clear hI hD HGs
   simp only [frAll, Act.put, List.setIfInBounds_toArray, List.set_cons_zero, List.set_cons_succ, Nat.zero_add, Nat.reduceAdd, zf0, zf1, zf2, zf3, zf4, zf5]
   clear zf0 zf1 zf2 zf3 zf4 zf5
   clear V D
   have HM3 := Lib.hid (HM2.out.trans hMx)
   clear hGx hMx b1_0
   go_wp2_with fail
   try simp only [Exit.inBlock, Exit.then]
   refine bodyPost_ret (v := .tuple #[.bool ans, .int .i64 0]) (by simp [results, Tryz.results33, go_sem]) rfl ?_
   exact ⟨rfl, HM3.out⟩

end Go.Proofs.YtnfflgicngeekaaGreatDoor

/- A whole search: (*reader).or. -/
namespace Go.Proofs.YtnfflgicngeekaaGreatDoor
set_option linter.unusedVariables false
set_option linter.unusedSimpArgs false
open Go.RowKit
set_option maxRecDepth 100000 in
set_option maxHeartbeats 4000000 in
theorem or1_calls (w0 : World) (g bx : Nat) (s : Str) (f : Nat) (hf : f ≤ 1000000) (hN : NxC w0 g s) (hP : NrC w0 g s f) (hgx : bx ≠ g) (w : World) (L : List Tk) (hW : Mod (· = g) w0 w) (hX : Blk w bx 132 #[.pointer (some ⟨g, 0, none⟩)]) (hR : RdrS w g s L) (hL : L.length ≤ f) :
  Calls Tryz.prog 186 #[.pointer (some ⟨bx, 0, none⟩)] w (PrP w g s (pSev 6 4 (pNot (pOr f) f) f L)) := by
 have hg0 := hR.lt
 have hmz : Pure w (w.alloc (.cells #[.int .i64 0, .slice none 0 0, .int .i64 0, .slice none 0 0] 29)) := (Mod.refl _ _).alloc _
 have HB2 := Lib.hid (Blk.new w 29 #[.int .i64 0, .slice none 0 0, .int .i64 0, .slice none 0 0])
 have HX2 := Lib.hid (hX.alloc (.cells #[.int .i64 0, .slice none 0 0, .int .i64 0, .slice none 0 0] 29))
 have HM2 : Hid (Mod (· = g) w (w.alloc (.cells #[.int .i64 0, .slice none 0 0, .int .i64 0, .slice none 0 0] 29))) := Lib.hid (Mod.of_pure hmz)
 have HS := Lib.hid (sevNot_calls w0 g bx s f (pNot (pOr f) f) hf hN (pNot_len (pOr_len f) f) hgx (fun W L' hW' _ hR' hL' => not_calls w0 g s f hf hN hP W L' hW' hR' hL') (w.alloc (.cells #[.int .i64 0, .slice none 0 0, .int .i64 0, .slice none 0 0] 29)) L (hW.trans HM2.out) HX2.out (hR.pure hmz) hL)
 have hx2 := HX2.out.cell 0
 simp at hx2
 generalize pSev 6 4 (pNot (pOr f) f) f L = r at *
 clear hN hP hW hmz hR hX
 obtain ⟨b2, hb2e⟩ : ∃ b2, w.heap.size = b2 := ⟨_, rfl⟩
 have hb2l : w.heap.size ≤ b2 := by omega
 have hb2u : b2 ≤ w.heap.size := by omega
 go_enter Tryz.func186, Tryz.ntmps186
 go_wp2_with fail
 generalize (w.alloc (.cells #[.int .i64 0, .slice none 0 0, .int .i64 0, .slice none 0 0] 29)) = w2 at *
 rw [hb2e] at HB2
 try simp only [hb2e]
 clear hb2e hx2
 refine HS.out.mono ?_
 rintro e w3 ⟨qr2, bt, l2, rfl, hR3, hm3, h0, h1⟩
 obtain ⟨k2, A2, c2, ws2, n2, B2, d2, xs2⟩ := qr2
 simp only [qA_mk]
 have hb2r := HB2.out.lt
 have HB3 := Lib.hid (HB2.out.modb hm3 (by omega))
 have HM3 := Lib.hid (HM2.out.trans hm3)
 have HR3 := Lib.hid hR3
 have hs2 := HM2.out.size
 have H0 := Lib.hid h0
 have H1 := Lib.hid h1
 have h5 := HB3.out
 have x0 := h5.cell 0; have xf0 := h5.frozen 0; have x1 := h5.cell 1; have xf1 := h5.frozen 1; have x2 := h5.cell 2; have xf2 := h5.frozen 2; have x3 := h5.cell 3; have xf3 := h5.frozen 3; simp at x0 x1 x2 x3
 clear h5 hR3 hm3 h0 h1 HS
 go_wp2_with fail
 have h4F := st4_blk HB3.out (a := .int .i64 k2) (b := .slice A2 ws2.length c2) (c := .int .i64 n2) (d := .slice B2 xs2.length d2)
 have z0 := h4F.cell 0; have z1 := h4F.cell 1; have z2 := h4F.cell 2; have z3 := h4F.cell 3; simp at z0 z1 z2 z3
 try simp only [Exit.inBlock, Exit.then]
 refine bodyPost_ret (v := .tuple #[.agg #[.int .i64 k2, .slice A2 ws2.length c2, .int .i64 n2, .slice B2 xs2.length d2], .bool bt]) (by simp [results, Tryz.results186, go_sem, z0, z1, z2, z3]) rfl ?_
 exact pr_ret HM3.out HR3.out HB3.out (by omega) (by omega) H0.out (fun h => by
  obtain ⟨a1, a2, a3⟩ := H1.out h
  exact ⟨a1, a2, QN.old a3 (fun k hk => by omega), a3.up (by omega)⟩)
set_option maxRecDepth 100000 in
set_option maxHeartbeats 4000000 in
theorem orS_calls (w0 : World) (g : Nat) (s : Str) (f : Nat) (hf : f ≤ 1000000) (hN : NxC w0 g s) (hP : NrC w0 g s f) (hg00 : g < w0.heap.size) : OrC w0 g s (f + 1) := by
 intro w L hW hR hL0
 have hL : L.length ≤ f := by omega
 clear hL0
 have hg0 := hR.lt
 have hmz : Pure w ((w.alloc (.cells #[.pointer (some ⟨g, 0, none⟩)] 132)).alloc (.cells #[.int .i64 0, .slice none 0 0, .int .i64 0, .slice none 0 0] 29)) := ((Mod.refl _ _).alloc _).alloc _
 have HB2 := Lib.hid (Blk.snd w (.cells #[.pointer (some ⟨g, 0, none⟩)] 132) 29 #[.int .i64 0, .slice none 0 0, .int .i64 0, .slice none 0 0])
 have HX2 := Lib.hid ((Blk.new w 132 #[.pointer (some ⟨g, 0, none⟩)]).alloc (.cells #[.int .i64 0, .slice none 0 0, .int .i64 0, .slice none 0 0] 29))
 have HM2 : Hid (Mod (· = g) w ((w.alloc (.cells #[.pointer (some ⟨g, 0, none⟩)] 132)).alloc (.cells #[.int .i64 0, .slice none 0 0, .int .i64 0, .slice none 0 0] 29))) := Lib.hid (Mod.of_pure hmz)
 have HS := Lib.hid (sevOr_calls w0 g w.heap.size s f (pSev 6 4 (pNot (pOr f) f) f) hf hN (pSev_len (by decide) (pNot_len (pOr_len f) f) f) (by omega) (fun W L' hW' hX' hR' hL' => or1_calls w0 g w.heap.size s f hf hN hP (by omega) W L' hW' hX' hR' hL') ((w.alloc (.cells #[.pointer (some ⟨g, 0, none⟩)] 132)).alloc (.cells #[.int .i64 0, .slice none 0 0, .int .i64 0, .slice none 0 0] 29)) L (hW.trans HM2.out) HX2.out (hR.pure hmz) hL)
 have hx2 := HX2.out.cell 0
 simp at hx2
 change Hid (Calls Tryz.prog 185 _ _ (PrP _ g s (pOr (f + 1) L))) at HS
 generalize pOr (f + 1) L = r at *
 clear hN hP hW hmz hR
 go_enter Tryz.func112, Tryz.ntmps112
 go_wp2_with fail
 refine HS.out.mono ?_
 rintro e w3 ⟨qr2, bt, l2, rfl, hR3, hm3, h0, h1⟩
 have hs2 := HM2.out.size
 have hb2r := HB2.out.lt
 have HB3 := Lib.hid (HB2.out.modb hm3 (by omega))
 have HM3 := Lib.hid (HM2.out.trans hm3)
 clear hx2 HX2
 generalize ((w.alloc (.cells #[.pointer (some ⟨g, 0, none⟩)] 132)).alloc (.cells #[.int .i64 0, .slice none 0 0, .int .i64 0, .slice none 0 0] 29)) = w2 at *
 obtain ⟨b2, hb2e⟩ : ∃ b2, w.heap.size + 1 = b2 := ⟨_, rfl⟩
 rw [hb2e] at HB2 HB3
 try simp only [hb2e]
 have hb2l : w.heap.size ≤ b2 := by omega
 have hb2v := HB2.out.lt
 clear hb2e hb2r
 obtain ⟨k2, A2, c2, ws2, n2, B2, d2, xs2⟩ := qr2
 simp only [qA_mk]
 have HR3 := Lib.hid hR3
 have H0 := Lib.hid h0
 have H1 := Lib.hid h1
 have h5 := HB3.out
 have x0 := h5.cell 0; have xf0 := h5.frozen 0; have x1 := h5.cell 1; have xf1 := h5.frozen 1; have x2 := h5.cell 2; have xf2 := h5.frozen 2; have x3 := h5.cell 3; have xf3 := h5.frozen 3; simp at x0 x1 x2 x3
 clear h5 hR3 hm3 h0 h1 HS HB2 HM2
 go_wp2_with fail
 have h4F := st4_blk HB3.out (a := .int .i64 k2) (b := .slice A2 ws2.length c2) (c := .int .i64 n2) (d := .slice B2 xs2.length d2)
 have z0 := h4F.cell 0; have z1 := h4F.cell 1; have z2 := h4F.cell 2; have z3 := h4F.cell 3; simp at z0 z1 z2 z3
 try simp only [Exit.inBlock, Exit.then]
 refine bodyPost_ret (v := .tuple #[.agg #[.int .i64 k2, .slice A2 ws2.length c2, .int .i64 n2, .slice B2 xs2.length d2], .bool bt]) (by simp [results, Tryz.results112, go_sem, z0, z1, z2, z3]) rfl ?_
 exact pr_ret HM3.out HR3.out HB3.out (by omega) (by omega) H0.out (fun h => by
  obtain ⟨a1, a2, a3⟩ := H1.out h
  exact ⟨a1, a2, QN.old a3 (fun k hk => by omega), a3.up (by omega)⟩)
theorem or_calls (w0 : World) (g : Nat) (s : Str) (hN : NxC w0 g s) (hg : g < w0.heap.size) : ∀ f, f ≤ 1000000 → OrC w0 g s f
 | 0, _ => fun W L _ _ h => absurd h (by omega)
 | f + 1, hf => by
  have hO := or_calls w0 g s hN hg f (by omega)
  have hP : PtC w0 g s f := fun W L hW hR hL => part_calls w0 g s f hN hO W L hW hR hL
  have hR : NrC w0 g s f := fun W L hW hR hL => near_calls w0 g s f hN hP W L hW hR hL
  exact orS_calls w0 g s f (by omega) hN hR hg
end Go.Proofs.YtnfflgicngeekaaGreatDoor

/- Parse of a search's text that is right. -/
namespace Go.Proofs.YtnfflgicngeekaaGreatDoor
set_option linter.unusedVariables false
set_option linter.unusedSimpArgs false
open Go.RowKit
/-- strings.IndexAny of the rests of a text. -/
def IxP (s : Str) : Prop := ∀ (W : World) (a : Nat), a ≤ s.length → Calls Tryz.prog 182 #[.string ⟨(s.drop a).toArray⟩, .string ⟨#[32, 10, 40, 41, 34]⟩] W (fun e w' => e = .returned (.int .i64 (Lib.indexAny (s.drop a) [32, 10, 40, 41, 34])) ∧ Pure W w')
def ParP (w : World) (q : Qry) (e : Ending) (w' : World) : Prop := ∃ qr : QR, e = .returned (.tuple #[qA qr, .int .i64 0, .int .i64 0]) ∧ qr.key = q ∧ QS w' qr ∧ Pure w w'
set_option maxRecDepth 100000 in
set_option maxHeartbeats 8000000 in
theorem parseOk_calls (w : World) (s : Str) (q : Qry) (l : List Tk) (hs : s.length ≤ 200000) (hM : MlnS w) (hI : IxP s) (hp : pOr ((toksQ s 0).length + 1) (toksQ s 0) = .inr (q, l)) (hl : kdL l = 0) (hc : checkQ q = 0) (hq : QB 1000 q) : Calls Tryz.prog 45 #[.string ⟨s.toArray⟩] w (ParP w q) := by
 have hz : (⟨s.toArray⟩ : ByteArray).size = s.length := by simp [ByteArray.size]
 have HP := Lib.hid hp
 have HL := Lib.hid hl
 have HC := Lib.hid hc
 have HQB := Lib.hid hq
 have hmA : Pure w ((w.alloc (.cells #[.int .i64 0, .slice none 0 0, .int .i64 0, .slice none 0 0] 29)).alloc (.cells #[.string ⟨s.toArray⟩, .int .i64 0, .int .i64 0, .int .i64 0, .int .i64 0, .slice none 0 0, .int .i64 0, .slice none 0 0] 136)) := ((Mod.refl _ _).alloc _).alloc _
 have HB2 := Lib.hid ((Blk.new w 29 #[.int .i64 0, .slice none 0 0, .int .i64 0, .slice none 0 0]).alloc (.cells #[.string ⟨s.toArray⟩, .int .i64 0, .int .i64 0, .int .i64 0, .int .i64 0, .slice none 0 0, .int .i64 0, .slice none 0 0] 136))
 have HBR := Lib.hid (Blk.snd w (.cells #[.int .i64 0, .slice none 0 0, .int .i64 0, .slice none 0 0] 29) 136 #[.string ⟨s.toArray⟩, .int .i64 0, .int .i64 0, .int .i64 0, .int .i64 0, .slice none 0 0, .int .i64 0, .slice none 0 0])
 have HMA := Lib.hid hmA
 have HML : Hid (∀ W, Mod (· = w.heap.size + 1) ((w.alloc (.cells #[.int .i64 0, .slice none 0 0, .int .i64 0, .slice none 0 0] 29)).alloc (.cells #[.string ⟨s.toArray⟩, .int .i64 0, .int .i64 0, .int .i64 0, .int .i64 0, .slice none 0 0, .int .i64 0, .slice none 0 0] 136)) W → MlnS W) := Lib.hid (fun W hW => hM.pure (hmA.trans' hW (fun i hi hlt => by omega)))
 have HIX : Hid (IxA (w.heap.size + 1) ((w.alloc (.cells #[.int .i64 0, .slice none 0 0, .int .i64 0, .slice none 0 0] 29)).alloc (.cells #[.string ⟨s.toArray⟩, .int .i64 0, .int .i64 0, .int .i64 0, .int .i64 0, .slice none 0 0, .int .i64 0, .slice none 0 0] 136)) s) := Lib.hid (fun W a _ ha => hI W a ha)
 have htl := toks_len s 0
 clear hp hl hc hq hM hI hmA
 go_enter Tryz.func45, Tryz.ntmps45
 go_upto_region 4 with (fail)
 generalize ((w.alloc (.cells #[.int .i64 0, .slice none 0 0, .int .i64 0, .slice none 0 0] 29)).alloc (.cells #[.string ⟨s.toArray⟩, .int .i64 0, .int .i64 0, .int .i64 0, .int .i64 0, .slice none 0 0, .int .i64 0, .slice none 0 0] 136)) = w1 at *
 obtain ⟨b2, hb2e⟩ : ∃ b2, w.heap.size = b2 := ⟨_, rfl⟩
 rw [hb2e] at HB2 HBR HML HIX
 try simp only [hb2e]
 obtain ⟨g, hge⟩ : ∃ g, b2 + 1 = g := ⟨_, rfl⟩
 rw [hge] at HBR HML HIX
 try simp only [hge]
 have hb2l : w.heap.size ≤ b2 := by omega
 have hbg : b2 < g := by omega
 clear hb2e hge
 have hgr := HBR.out.lt
 have HN := Lib.hid (nxC_of (g := g) hs HML.out HIX.out)
 have HO := Lib.hid (or_calls w1 g s HN.out hgr ((toksQ s 0).length + 1) (by omega))
 have HNX := Lib.hid (nextR_calls w1 s 0 0 0 0 0 (.slice none 0 0) (.slice none 0 0) g hs (Nat.zero_le _) HML.out HIX.out HBR.out)
 go_wp2_with fail
 refine HNX.out.mono ?_
 intro e w3 h
 obtain ⟨rfl, hR3, hm3⟩ := h.rds (Nat.zero_le _)
 have HB3 := Lib.hid (HB2.out.modb hm3 (by omega))
 have HM3 := Lib.hid hm3
 have HOX := Lib.hid (HO.out w3 (toksQ s 0) hm3 hR3 (Nat.le_refl _))
 clear h hR3 hm3 HNX HO HB2
 go_wp2_with fail
 refine HOX.out.mono ?_
 rintro e w4 ⟨qr2, bt, l2, rfl, hR4, hm4, h0, h1⟩
 obtain ⟨k2, A2, c2, ws2, n2, B2, d2, xs2⟩ := qr2
 simp only [qA_mk]
 cases bt
 ·exact absurd (h0 rfl) (by rw [HP.out]; intro h; cases h)
 ·obtain ⟨a1, a2, a3⟩ := h1 rfl
  rw [HP.out] at a1
  injection a1 with a1
  injection a1 with a1 a4
  subst a4
  have HK := Lib.hid a1.symm
  have hb2r := HB3.out.lt
  have hs4 := hm4.size
  have hs3 := HM3.out.size
  have hmC : Pure w4 (w4.alloc (.cells #[.int .i64 k2, .slice A2 ws2.length c2, .int .i64 n2, .slice B2 xs2.length d2] 29)) := (Mod.refl _ _).alloc _
  have HB5 := Lib.hid ((HB3.out.modb hm4 (by omega)).alloc (.cells #[.int .i64 k2, .slice A2 ws2.length c2, .int .i64 n2, .slice B2 xs2.length d2] 29))
  have HB6 := Lib.hid (Blk.new w4 29 #[.int .i64 k2, .slice A2 ws2.length c2, .int .i64 n2, .slice B2 xs2.length d2])
  have HR5 := Lib.hid (RdrS.pure hR4 hmC)
  have HM5 : Hid (Pure w (w4.alloc (.cells #[.int .i64 k2, .slice A2 ws2.length c2, .int .i64 n2, .slice B2 xs2.length d2] 29))) := Lib.hid (((HMA.out.trans' HM3.out (fun i hi hlt => by omega)).trans' hm4 (fun i hi hlt => by omega)).trans hmC)
  have HQ5 := Lib.hid (a2.pure hmC)
  have HQN : Hid (QN (· = b2) (QR.mk k2 A2 c2 ws2 n2 B2 d2 xs2)) := Lib.hid (QN.old a3 (fun k hk => by omega))
  clear h0 h1 hR4 hm4 a1 a2 a3 hmC HB3 HM3 HMA HOX
  go_upto_region 6 with (fail)
  generalize (w4.alloc (.cells #[.int .i64 k2, .slice A2 ws2.length c2, .int .i64 n2, .slice B2 xs2.length d2] 29)) = w5 at *
  obtain ⟨b6, hb6⟩ : ∃ b6, w4.heap.size = b6 := ⟨_, rfl⟩
  rw [hb6] at HB6
  try simp only [hb6]
  have hb6l : w4.heap.size ≤ b6 := by omega
  clear hb6
  obtain ⟨p5, qr5, t5, l5, rfl, hB7, hp5, hQ5, hk5, ha5, _, _⟩ := HR5.out
  obtain ⟨k5, A5, c5, ws5, n5, B5, d5, xs5⟩ := qr5
  have hk0 : t5.kind = 0 := HL.out
  have hBr := hB7
  unfold rdC at hBr
  simp [qC] at hBr
  rw [hk0] at hBr
  have u0 := hBr.cell 0; have u1 := hBr.cell 1; have u2 := hBr.cell 2; have u3 := hBr.cell 3; have u4 := hBr.cell 4; have u5 := hBr.cell 5; have u6 := hBr.cell 6; have u7 := hBr.cell 7; simp at u0 u1 u2 u3 u4 u5 u6 u7
  have h6 := HB6.out
  have y0 := h6.cell 0; have y1 := h6.cell 1; have y2 := h6.cell 2; have y3 := h6.cell 3; simp at y0 y1 y2 y3
  clear hBr hQ5 hk5 ha5 hB7 h6 hk0 HL
  have HCK := Lib.hid (fun W (h : QS W (QR.mk k2 A2 c2 ws2 n2 B2 d2 xs2)) => qcheck_calls W (.mk k2 A2 c2 ws2 n2 B2 d2 xs2) h (by rw [HK.out]; exact HQB.out))
  rw [HK.out, HC.out] at HCK
  simp only [qA_mk] at HCK
  go_wp2_with fail
  refine (HCK.out _ HQ5.out).mono ?_
  rintro e w7 ⟨rfl, hm7⟩
  have HB8 := Lib.hid (HB5.out.modp hm7)
  have HQ8 := Lib.hid (HQ5.out.pure hm7)
  have HM8 := Lib.hid (HM5.out.trans hm7)
  have h6 := HB6.out.modp hm7
  have h5 := HB8.out
  clear u0 u1 u2 u3 u4 u5 u6 u7 y0 y1 y2 y3
  have y0 := h6.cell 0; have y1 := h6.cell 1; have y2 := h6.cell 2; have y3 := h6.cell 3; simp at y0 y1 y2 y3
  have x0 := h5.cell 0; have xf0 := h5.frozen 0; have x1 := h5.cell 1; have xf1 := h5.frozen 1; have x2 := h5.cell 2; have xf2 := h5.frozen 2; have x3 := h5.cell 3; have xf3 := h5.frozen 3; simp at x0 x1 x2 x3
  clear h5 h6 hm7 HCK HB5 HQ5 HM5
  go_wp2_with fail
  have h4F := st4_blk HB8.out (a := .int .i64 k2) (b := .slice A2 ws2.length c2) (c := .int .i64 n2) (d := .slice B2 xs2.length d2)
  have z0 := h4F.cell 0; have z1 := h4F.cell 1; have z2 := h4F.cell 2; have z3 := h4F.cell 3; simp at z0 z1 z2 z3
  try simp only [Exit.inBlock, Exit.then]
  refine bodyPost_ret (v := .tuple #[.agg #[.int .i64 k2, .slice A2 ws2.length c2, .int .i64 n2, .slice B2 xs2.length d2], .int .i64 0, .int .i64 0]) (by simp [results, Tryz.results45, go_sem, z0, z1, z2, z3]) rfl ?_
  have hst : Mod (· = b2) w7 ((((w7.setCell ⟨b2, 0, none⟩ (.int .i64 k2)).setCell ⟨b2, 1, none⟩ (.slice A2 ws2.length c2)).setCell ⟨b2, 2, none⟩ (.int .i64 n2)).setCell ⟨b2, 3, none⟩ (.slice B2 xs2.length d2)) := st4_mod
  exact ⟨.mk k2 A2 c2 ws2 n2 B2 d2 xs2, rfl, HK.out, HQ8.out.box HB8.out HQN.out hst, HM8.out.trans' hst (fun i hi hlt => by omega)⟩
end Go.Proofs.YtnfflgicngeekaaGreatDoor

/-
 DERIVED: THE SHELF's CONTRACTS AT THIS DUMP, IN PLAIN WORDS (tools/lay-plain.mjs out of 'YtnfflgicngeekaaGreatDoorLayAny.lean', which tools/lay-shelf.mjs wrote): THE SAME DECLARATIONS UNDER THE SAME NAMES: 'import', 'namespace', 'open', 'def', 'theorem' AND NOTHING ELSE: no command of the shelf's: FOR A HAND-IN. Each laying: the table of numbers ('.._ren') and one theorem, a field a fact of the dump's own or the kernel's comparison; each contract: ONE APPLICATION.
-/
namespace Go.Proofs
open Go.Shelf
def Tryz.lays153_ren : Go.Shelf.Ren := ⟨fun | 153 => 182 | 152 => 224 | 226 => 225 | 227 => 215 | 228 => 226 | 137 => 193 | 119 => 258 | 224 => 259 | 225 => 260 | 217 => 238 | 266 => 270 | n => n, fun | 9 => 9 | 3 => 3 | 4 => 4 | 5 => 5 | 21 => 21 | 117 => 242 | 116 => 241 | 0 => 0 | 46 => 180 | 124 => 245 | n => n, fun | n => n⟩
theorem Tryz.lays153 : Go.Proofs.Lays.n153 Tryz.prog Tryz.lays153_ren := {
 mixed := by kernel_rfl
 f119 := Tryz.func258.trans (congrArg some (by kernel_rfl))
 f137 := Tryz.func193.trans (congrArg some (by kernel_rfl))
 f152 := Tryz.func224.trans (congrArg some (by kernel_rfl))
 f153 := Tryz.func182.trans (congrArg some (by kernel_rfl))
 f217 := Tryz.func238.trans (congrArg some (by kernel_rfl))
 f224 := Tryz.func259.trans (congrArg some (by kernel_rfl))
 f225 := Tryz.func260.trans (congrArg some (by kernel_rfl))
 f226 := Tryz.func225.trans (congrArg some (by kernel_rfl))
 f227 := Tryz.func215.trans (congrArg some (by kernel_rfl))
 f228 := Tryz.func226.trans (congrArg some (by kernel_rfl))
 f266 := Tryz.func270.trans (congrArg some (by kernel_rfl))
 t0 := Tryz.underlying0
 a0 := Tryz.isAgg0
 z0 := Tryz.sizeOf0
 v0 := Tryz.zeroValue0
 t3 := Tryz.underlying3
 a3 := Tryz.isAgg3
 z3 := Tryz.sizeOf3
 v3 := Tryz.zeroValue3
 t4 := Tryz.underlying4
 a4 := Tryz.isAgg4
 z4 := Tryz.sizeOf4
 v4 := Tryz.zeroValue4
 t5 := Tryz.underlying5
 a5 := Tryz.isAgg5
 z5 := Tryz.sizeOf5
 v5 := Tryz.zeroValue5
 t9 := Tryz.underlying9
 a9 := Tryz.isAgg9
 z9 := Tryz.sizeOf9
 v9 := Tryz.zeroValue9
 t21 := Tryz.underlying21
 a21 := Tryz.isAgg21
 z21 := Tryz.sizeOf21
 v21 := Tryz.zeroValue21
 t46 := Tryz.underlying180
 a46 := Tryz.isAgg180
 z46 := Tryz.sizeOf180
 v46 := Tryz.zeroValue180
 t116 := Tryz.underlying241
 a116 := Tryz.isAgg241
 z116 := Tryz.sizeOf241
 t117 := Tryz.underlying242
 a117 := Tryz.isAgg242
 z117 := Tryz.sizeOf242
 v117 := Tryz.zeroValue242
 t124 := Tryz.underlying245
 a124 := Tryz.isAgg245
 z124 := Tryz.sizeOf245
 v124 := Tryz.zeroValue245 }
end Go.Proofs

/- asks (chaselaw2/queries.go): package query reads and finds. -/
namespace Go.Proofs.YtnfflgicngeekaaGreatDoor
set_option linter.unusedVariables false
set_option linter.unusedSimpArgs false
open Go.RowKit
def askTx : Str := [100, 101, 97, 108, 32, 119, 47, 49, 32, 102, 114, 105, 100, 97, 121]
def askD : Str := [100, 101, 97, 108]
def askF : Str := [102, 114, 105, 100, 97, 121]
def askQy : Qry := .mk 4 [] 1 [.mk 2 [askD] 0 [], .mk 2 [askF] 0 []]
def askIt : Itm := ⟨[97], [98], 1, [], 0, [], [102, 114, 105, 100, 97, 121, 44, 32, 100, 101, 97, 108, 10]⟩
theorem ask_toks : toksQ askTx 0 = [⟨3, 0, .mk 2 [askD] 0 []⟩, ⟨7, 5, .mk 4 [] 1 []⟩, ⟨3, 9, .mk 2 [askF] 0 []⟩, ⟨0, 15, q0⟩] := by kernel_rfl
theorem ask_or : pOr ((toksQ askTx 0).length + 1) (toksQ askTx 0) = .inr (askQy, [⟨0, 15, q0⟩]) := by
 rw [ask_toks]
 rfl
theorem ask_check : checkQ askQy = 0 := by
 have h1 : qFit askQy 0 0 0 = true := by
  unfold askQy qFit
  simp [qSize, qDeep, qNear, nearK]
 unfold checkQ
 rw [if_pos h1]
 unfold askQy
 rw [fltQ]
 have e1 : fltQ 100 (mustQ false 4) (.mk 2 [askD] 0 []) = 0 := by rw [fltQ]; rfl
 have e2 : fltQ 100 (mustQ false 4) (.mk 2 [askF] 0 []) = 0 := by rw [fltQ]; rfl
 rw [show ([Qry.mk 2 [askD] 0 [], .mk 2 [askF] 0 []] : List Qry).map (fltQ 100 (mustQ false 4)) = [fltQ 100 (mustQ false 4) (.mk 2 [askD] 0 []), fltQ 100 (mustQ false 4) (.mk 2 [askF] 0 [])] from rfl, e1, e2]
 rfl
theorem ask_qb : QB 1000 askQy := by
 refine .mk (by decide) (by decide) (by decide) (by decide) (by decide) (by simp) (by decide) (fun a ha => ?_)
 simp at ha
 rcases ha with rfl | rfl
 ·exact .mk (by decide) (by decide) (by decide) (by decide) (by decide) (by simp [askD]) (by decide) (fun a ha => by cases ha)
 ·exact .mk (by decide) (by decide) (by decide) (by decide) (by decide) (by simp [askF]) (by decide) (fun a ha => by cases ha)
theorem ask_words : wordsQ askIt.text = [((0, 6), askF), ((8, 12), askD)] := by kernel_rfl
theorem ask_item : itemE askIt = 0 := by kernel_rfl
theorem ask_some : somePl (plcQ (wsQ (wordsQ askIt.text)) askQy) (wordsQ askIt.text).length = true := by
 rw [ask_words]
 unfold askQy
 rw [plc_near, plc_word (.inl rfl), plc_word (.inl rfl)]
 rfl
theorem ask_ix : IxP askTx := by
 intro W a _
 have h116 : (Tryz.prog.info? (Tryz.lays153_ren.t 116)).map (fun i => (i.zero, i.size)) = some (some (.agg (Array.replicate 256 (.bool false))), 256) := by kernel_rfl
 refine (Any.strings_IndexAny_laid Tryz.lays153 h116 ⟨(askTx.drop a).toArray⟩ ⟨#[32, 10, 40, 41, 34]⟩ W ?_ (by decide) ?_ ?_).mono ?_
 ·have h : askTx.length = 15 := rfl
  simp [ByteArray.size]
  omega
 ·intro j b hb
  have hm : b ∈ askTx := List.mem_of_mem_drop (List.mem_of_getElem? hb)
  have hall : askTx.all (fun c => decide (c.toNat < 128)) = true := by decide
  simpa using List.all_eq_true.1 hall b hm
 ·intro j b hb
  have hm : b ∈ ([32, 10, 40, 41, 34] : Str) := List.mem_of_getElem? hb
  have hall : ([32, 10, 40, 41, 34] : Str).all (fun c => decide (c.toNat < 128)) = true := by decide
  simpa using List.all_eq_true.1 hall b hm
 ·rintro e w' ⟨rfl, h⟩
  exact ⟨rfl, Mod.of_below h⟩

theorem leaf_of {a : QR} {p : Str} (h : a.key = .mk 2 [p] 0 []) : ∃ A c B d, a = .mk 2 A c [p] 0 B d [] := by
 obtain ⟨k, A, c, ws, n, B, d, xs⟩ := a
 rw [QR.key_mk] at h
 injection h with h1 h2 h3 h4
 subst h1 h2 h3
 have h5 : xs = [] := List.map_eq_nil_iff.1 h4
 subst h5
 exact ⟨A, c, B, d, rfl⟩
set_option maxRecDepth 100000 in
set_option maxHeartbeats 4000000 in
theorem asks_calls (w : World) (hE : Env w) : Calls Tryz.prog 10 #[] w (BoolPost w true) := by
 have HP := Lib.hid (parseOk_calls w askTx askQy [⟨0, 15, q0⟩] (by decide) hE.2 ask_ix ask_or rfl ask_check ask_qb)
 have HE := Lib.hid hE
 clear hE
 go_enter Tryz.func10, Tryz.ntmps10
 go_wp2_with fail
 refine HP.out.mono ?_
 rintro e w1 ⟨qr, rfl, hk, hQ, hm⟩
 obtain ⟨k, A, c, ws, n, B, d, xs⟩ := qr
 have hk0 := hk
 rw [QR.key_mk] at hk
 injection hk with e1 e2 e3 e4
 subst e1 e2 e3
 obtain ⟨a1, r1, rfl, g1, g2⟩ := List.map_eq_cons_iff.1 e4
 obtain ⟨a2, r2, rfl, g3, g4⟩ := List.map_eq_cons_iff.1 g2
 have hr2 : r2 = [] := List.map_eq_nil_iff.1 g4
 subst hr2
 have hq1 := hQ.allH a1 (by simp)
 have hq2 := hQ.allH a2 (by simp)
 obtain ⟨A1, c1, B1, d1, rfl⟩ := leaf_of g1
 obtain ⟨A2, c2, B2, d2, rfl⟩ := leaf_of g3
 simp only [qA_mk]
 have hmA : Pure w1 (w1.alloc (.cells #[.int .i64 4, .slice A 0 c, .int .i64 1, .slice B 2 d] 29)) := (Mod.refl _ _).alloc _
 have HMX := Lib.hid (matches4_calls (w1.alloc (.cells #[.int .i64 4, .slice A 0 c, .int .i64 1, .slice B 2 d] 29)) askIt A B c d 1 [] [.mk 2 A1 c1 [askD] 0 B1 d1 [], .mk 2 A2 c2 [askF] 0 B2 d2 []] (plcQ (wsQ (wordsQ askIt.text)) askQy) (by unfold ItL askIt; simp) (HE.out.pure (hm.trans hmA)) ask_item (hQ.pure hmA) (by rw [hk0]; exact ask_qb) (by rw [hk0]; exact ask_check) (by rw [ask_words]; decide)
  (fun W' Aw nw cw hW hw => by
   have hwl : ∀ x ∈ wordsQ askIt.text, x.2.length ≤ 1000000 := by rw [ask_words]; simp [askF, askD]
   have hW2 : (wordsQ askIt.text).length ≤ 1000 := by rw [ask_words]; decide
   have h := placesN_calls W' (.slice Aw nw cw) (wordsQ askIt.text) 1 A B c d [] (.mk 2 A1 c1 [askD] 0 B1 d1 []) (.mk 2 A2 c2 [askF] 0 B2 d2 []) ((hQ.pure hmA).pure hW) hW2 (by decide) (by decide)
    (fun W2 h2 => placesW_calls W2 _ _ 2 0 A1 B1 c1 d1 [askD] [] (.inl rfl) (((hq1.pure hmA).pure hW).pure h2) (hw.pure h2) (by decide) (by decide) (by simp [askD]) hW2 hwl)
    (fun W2 h2 => placesW_calls W2 _ _ 2 0 A2 B2 c2 d2 [askF] [] (.inl rfl) (((hq2.pure hmA).pure hW).pure h2) (hw.pure h2) (by decide) (by decide) (by simp [askF]) hW2 hwl)
   rw [hk0] at h
   exact h))
 rw [ask_some] at HMX
 have HM := Lib.hid (hm.trans hmA)
 have hb := Blk.new w1 29 #[.int .i64 4, .slice A 0 c, .int .i64 1, .slice B 2 d]
 have x0 := hb.cell 0; have x1 := hb.cell 1; have x2 := hb.cell 2; have x3 := hb.cell 3; simp at x0 x1 x2 x3
 simp only [qA_mk] at HMX
 unfold itA askIt at HMX
 clear hk0 hQ hm e4 g1 g2 g3 g4 hq1 hq2 hmA hb HP
 go_wp2_with fail
 refine HMX.out.mono ?_
 rintro e w3 ⟨rfl, hm3⟩
 go_wp2_with fail
 go_ret
 exact ⟨rfl, HM.out.trans hm3⟩

end Go.Proofs.YtnfflgicngeekaaGreatDoor

/- Quoted strings: Unquoted of the reference. -/
namespace Go.Proofs.YtnfflgicngeekaaGreatDoor
set_option linter.unusedVariables false
set_option linter.unusedSimpArgs false
open Go.RowKit

end Go.Proofs.YtnfflgicngeekaaGreatDoor

/- Quoted strings: strange strings, taken. -/
namespace Go.Proofs.YtnfflgicngeekaaGreatDoor
set_option linter.unusedVariables false
set_option linter.unusedSimpArgs false
open Go.RowKit

end Go.Proofs.YtnfflgicngeekaaGreatDoor

/- What the listed variables of the item laws hold. -/
namespace Go.Proofs.YtnfflgicngeekaaGreatDoor
set_option linter.unusedVariables false
set_option linter.unusedSimpArgs false
open Go.RowKit

def litZ : DataW Unit → Int
 | .lit (.int _ n) => n
 | _ => 0
def litsZ : DataW Unit → List Int
 | .agg ps => ps.map litZ
 | _ => []
theorem cell_of_var {W : World} {g : Nat} {name : String} {cs : Array Value} (hg : Tryz.prog.globalNamed name = some g) (h : W.var? Tryz.prog name = some cs) (i : Nat) : W.cell? ⟨g, i, none⟩ = cs[i]? := by
 unfold World.var? at h
 rw [hg] at h
 simp only [Option.bind_some] at h
 split at h
 ·rename_i hh
  injection h with h
  subst h
  exact cell_of_row W g i _ _ _ hh
 ·cases h
theorem star : "*" ++ "errors.errorString" = "*errors.errorString" := by decide
theorem rowErr (u : TypeId) (h : Tryz.prog.typeName? 3 u = some "*errors.errorString") : u = 339 :=
 typeName_ptr_named (nm := "errors.errorString") (by rw [star]; kernel_rfl) (by kernel_rfl) (by decide) u (by rw [star]; exact h)
/-- The list that all rows of this seat have. -/
abbrev laidI : List (String × DataW Unit) := [("math/bits.deBruijn32tab", Rows.laid_math_bits_deBruijn32tab), ("math/bits.deBruijn64tab", Rows.laid_math_bits_deBruijn64tab), ("internal/strconv.uint64pow10", Rows.laid_internal_strconv_uint64pow10), ("unicode/utf8.acceptRanges", Rows.laid_unicode_utf8_acceptRanges), ("strconv.ErrRange", Rows.laid_strconv_ErrRange), ("strconv.ErrSyntax", Rows.laid_strconv_ErrSyntax), ("unicode/utf8.first", Rows.laid_unicode_utf8_first)]
theorem deb_of {W : World} (hL : laidMet Tryz.prog laidI W) : Deb W := by
 have h1 := Lib.tabIs_of_head (k := .u8) (zs := litsZ Rows.laid_math_bits_deBruijn64tab) (g := 6) (name := "math/bits.deBruijn64tab") (P := Tryz.prog) (W := W) (n := 64) (t := 300) (e := 5) (by kernel_rfl) (by kernel_rfl) (by kernel_rfl) (by kernel_rfl) (by kernel_rfl) (by kernel_rfl) hL.tail
 exact (cell_of_var (by kernel_rfl) h1 15).trans (by kernel_rfl)
theorem err_of {W : World} (hL : laidMet Tryz.prog laidI W) : ErrS W := by
 obtain ⟨a, s, hv, _⟩ := laid_sentinel (g := 8) hL.tail.tail.tail.tail.tail (by kernel_rfl) (by kernel_rfl) Tryz.underlying146 rowErr Tryz.underlying339 Tryz.underlying341 rfl rfl Tryz.underlying9 (by kernel_rfl) (by kernel_rfl)
 exact ⟨_, _, (cell_of_var (by kernel_rfl) hv 0).trans rfl⟩
theorem dFirst : Rows.laid_unicode_utf8_first = Lib.firstData := by kernel_rfl
theorem dAccept : (Rows.laid_unicode_utf8_acceptRanges : DataW Unit) = Lib.acceptData := by kernel_rfl
theorem utf_of {W : World} (hL : laidMet Tryz.prog laidI W) : Utf W :=
 utf8Tabs_of_readsT (ρ := Tryz.lays196_ren) (U8Types.of196 Tryz.lays196) ⟨by kernel_rfl, by kernel_rfl, by kernel_rfl, by kernel_rfl, by kernel_rfl, by kernel_rfl, by kernel_rfl⟩
  (dFirst ▸ Lib.laidMet.reads hL (by simp [laidI])) (dAccept ▸ Lib.laidMet.reads hL (by simp [laidI]))
theorem mln_of {W : World} (h : W.ShapedOpen Tryz.prog) : Mln W := Tryz.laysM144.s1_3 W h
theorem env_of {W : World} (hL : laidMet Tryz.prog laidI W) (h : W.ShapedOpen Tryz.prog) : Env W := ⟨utf_of hL, mln_of h⟩

end Go.Proofs.YtnfflgicngeekaaGreatDoor

/- The law QueryPrints. -/
namespace Go.Proofs.YtnfflgicngeekaaGreatDoor
set_option linter.unusedVariables false
set_option linter.unusedSimpArgs false
open Go.RowKit

set_option maxRecDepth 100000 in
set_option maxHeartbeats 8000000 in
theorem QueryPrints_calls (w : World) (A : Option Addr) (n c : Nat) (hA : ArgInts w A n) (hW : Pow w) (hE : ErrS w) (hD : Deb w) (hV : Env w) : Calls Tryz.prog 3 #[.slice A n c] w (BoolPost w true) := by
 have hS0 := strm_new (c := c) hA
 have HV : Hid (∀ w1, Pure w w1 → Env w1) := Lib.hid (fun _ h => hV.pure h)
 have HPW : Hid (∀ w1, Pure w w1 → Pow w1) := Lib.hid (fun _ h => hW.pure h)
 obtain ⟨b, hb⟩ : ∃ b, b = w.heap.size := ⟨_, rfl⟩
 have P0 := pure_alloc w (.cells #[.slice A n c, .int .i64 0] 25)
 rw [← hb] at hS0
 have hwb : w.heap.size ≤ b := by omega
 clear hE hD hV hA hW
 go_enter Tryz.func3, Tryz.ntmps3
 go_wp2_with fail
 rw [← hb]
 generalize (w.alloc (.cells #[.slice A n c, .int .i64 0] 25)) = w0 at *
 clear hb
 refine (someQuery_calls w0 b 0 hS0 (by omega)).mono ?_
 rintro e w1 ⟨⟨k1, A1, c1, ws1, n1, B1, d1, xs1⟩, rfl, hq1, hf1, hqz1, hb1, hsz1, hS1, hM1⟩
 rw [qA_mk]
 have hpa := pure_alloc w1 (.cells #[.int .i64 k1, .slice A1 ws1.length c1, .int .i64 n1, .slice B1 xs1.length d1] 29)
 have P1 : Pure w w1 := P0.trans' hM1 (fun i hi hlt => by omega)
 have hX := Blk.new w1 29 #[.int .i64 k1, .slice A1 ws1.length c1, .int .i64 n1, .slice B1 xs1.length d1]
 have HX := Lib.hid hX
 have HQ := Lib.hid (hq1.pure hpa)
 have HP := Lib.hid (P1.trans hpa)
 have HB := Lib.hid hb1
 have HSZ := Lib.hid hsz1
 have HPT := Lib.hid (print_calls (w1.alloc (.cells #[.int .i64 k1, .slice A1 ws1.length c1, .int .i64 n1, .slice B1 xs1.length d1] 29)) (QR.mk k1 A1 c1 ws1 n1 B1 d1 xs1) (HPW.out _ (P1.trans hpa)) (hq1.pure hpa) (hb1.mono (by omega)))
 rw [qA_mk] at HPT
 clear hpa hq1 hf1 hqz1 hb1 hsz1 hS1 hM1 P0 P1 hS0
 go_upto_region 3 with (fail)
 generalize (w1.alloc (.cells #[.int .i64 k1, .slice A1 ws1.length c1, .int .i64 n1, .slice B1 xs1.length d1] 29)) = w2 at *
 generalize w1.heap.size = g4 at *
 have x0 := hX.cell 0; have x1 := hX.cell 1; have x2 := hX.cell 2; have x3 := hX.cell 3; simp at x0 x1 x2 x3
 clear hX
 obtain ⟨ck, hck⟩ : ∃ ck, checkQ (QR.key (QR.mk k1 A1 c1 ws1 n1 B1 d1 xs1)) = ck := ⟨_, rfl⟩
 have HCK := Lib.hid hck
 try simp only [hck]
 clear hck
 go_wp2_with fail
 refine HPT.out.mono ?_
 rintro e w3 ⟨rfl, hm3⟩
 simp only [HCK.out]
 have hX3 := HX.out.modp hm3
 have HP3 := Lib.hid (HP.out.trans hm3)
 have HAS := Lib.hid (fun W (h : Pure w W) => asks_calls W (HV.out W h))
 have HQ3 := Lib.hid (HQ.out.pure hm3)
 clear HPT hm3 HX HP HQ x0 x1 x2 x3
 by_cases h0 : ck = 0
 ·subst h0
  rw [if_pos rfl]
  have HPO := Lib.hid (line_calls (QR.mk k1 A1 c1 ws1 n1 B1 d1 xs1) w3 (HPW.out _ HP3.out) HQ3.out (prR_check HCK.out) (qlR_check HCK.out) (HB.out.mono (by omega)) (by have := HSZ.out; omega))
  rw [qA_mk] at HPO
  generalize prQ (QR.key (QR.mk k1 A1 c1 ws1 n1 B1 d1 xs1)) = tx at *
  have x0 := hX3.cell 0; have x1 := hX3.cell 1; have x2 := hX3.cell 2; have x3 := hX3.cell 3; simp at x0 x1 x2 x3
  clear hX3
  go_wp2_with fail
  refine HPO.out.mono ?_
  rintro e w5 ⟨rfl, hm5⟩
  have HP5 := Lib.hid (HP3.out.trans hm5)
  clear hm5 HPO HP3 HQ3 HB
  go_wp2_with fail
  refine (HAS.out _ HP5.out).mono ?_
  rintro e w6 ⟨rfl, hm6⟩
  have HP6 := Lib.hid (HP5.out.trans hm6)
  clear hm6
  go_wp2_with fail
  go_ret
  exact ⟨rfl, HP6.out⟩
 ·have h0i : (ck == 0) = false := by simpa using h0
  have h0n : (ck != 0) = true := by simp [h0]
  rw [if_neg h0]
  clear hX3 HQ3 HB
  go_wp2_with fail
  refine (HAS.out _ HP3.out).mono ?_
  rintro e w6 ⟨rfl, hm6⟩
  have HP6 := Lib.hid (HP3.out.trans hm6)
  clear hm6
  go_wp2_with fail
  go_ret
  exact ⟨rfl, HP6.out⟩

end Go.Proofs.YtnfflgicngeekaaGreatDoor

/- What the listed variables of the item laws hold: the powers of ten. -/
namespace Go.Proofs.YtnfflgicngeekaaGreatDoor
set_option linter.unusedVariables false
set_option linter.unusedSimpArgs false
open Go.RowKit

theorem powIZ : litsZ Rows.laid_internal_strconv_uint64pow10 = Lib.pow10Tab := by kernel_rfl
set_option maxRecDepth 100000 in
theorem powI_of {W : World} (hL : laidMet Tryz.prog laidI W) : Pow W := by
 have h1 := Lib.tabIs_of_head (k := .u64) (zs := litsZ Rows.laid_internal_strconv_uint64pow10) (g := 2) (name := "internal/strconv.uint64pow10") (P := Tryz.prog) (W := W) (n := 20) (t := 279) (e := 224) (by kernel_rfl) (by kernel_rfl) (by kernel_rfl) (by kernel_rfl) (by kernel_rfl) (by kernel_rfl) hL.tail.tail
 rw [powIZ] at h1
 exact h1

end Go.Proofs.YtnfflgicngeekaaGreatDoor
