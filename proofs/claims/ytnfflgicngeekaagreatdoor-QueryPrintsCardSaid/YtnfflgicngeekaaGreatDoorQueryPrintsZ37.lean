/- Texts of the proof of QueryPrints, put together: LayQry, LayBld, LayB2, QuoA, QuoB, DigA, DigB, ItmK, QrJ, WrdB, WrdC, WrdD, LayWd, WrdR, WrdE, QrA. -/
import Derived.Test.YtnfflgicngeekaaGreatDoorQueryPrintsZ1
import Derived.Test.YtnfflgicngeekaaGreatDoorQueryPrintsZ2
import Derived.Test.YtnfflgicngeekaaGreatDoorQueryPrintsZ3
import Derived.Test.YtnfflgicngeekaaGreatDoorQueryPrintsZ9
import Derived.Test.YtnfflgicngeekaaGreatDoorQueryPrintsZ11
import Derived.Test.YtnfflgicngeekaaGreatDoorQueryPrintsZ12
import Derived.Test.YtnfflgicngeekaaGreatDoorQueryPrintsZ13
import Derived.Test.YtnfflgicngeekaaGreatDoorQueryPrintsZ16
import Derived.Test.YtnfflgicngeekaaGreatDoorQueryPrintsZ21
import Derived.Test.YtnfflgicngeekaaGreatDoorQueryPrintsZ24
import Derived.Test.YtnfflgicngeekaaGreatDoorQueryPrintsZ26
import Derived.Test.YtnfflgicngeekaaGreatDoorQueryPrintsZ30
import Derived.Ground.NamesProg
import Derived.Shelf.SlGeneric
import Derived.Ground.SlgnProg
import Derived.Shelf.SlicesE.Clone
import Derived.Test.YtnfflgicngeekaaGreatDoorProg
import Derived.Shelf.Strings.BuilderK
import Derived.Shelf.Strings.Repeat
import Derived.Shelf.Strings.Prefix
import Derived.Deep.DeepCutAuto
import Derived.Deep.AppendLies
import Derived.Lib.AppendStr
import Derived.Laws.IdiomStrings
import Derived.Deep.CutBlock
import Derived.Shelf.SlicesQ.Reverse
import Derived.Shelf.Small.Strs
/-
 DERIVED: THE SHELF's CONTRACTS AT THIS DUMP, IN PLAIN WORDS (tools/lay-plain.mjs out of 'YtnfflgicngeekaaGreatDoorLayQry.lean', which tools/lay-shelf.mjs wrote): THE SAME DECLARATIONS UNDER THE SAME NAMES: 'import', 'namespace', 'open', 'def', 'theorem' AND NOTHING ELSE: no command of the shelf's: FOR A HAND-IN. Each laying: the table of numbers ('.._ren') and one theorem, a field a fact of the dump's own or the kernel's comparison; each contract: ONE APPLICATION.
-/
namespace Go.Proofs
open Go.Shelf
def Tryz.clnQry_ren : Go.Shelf.Ren := ⟨fun | 41 => 171 | n => n, fun | 22 => 27 | 23 => 29 | 4 => 4 | n => n, fun | n => n⟩
theorem Tryz.clnQry : Go.Proofs.SlLaysE0.n41 Tryz.prog Tryz.clnQry_ren := {
 mixed := by kernel_rfl
 f41 := ⟨Tryz.f171.name, by decide, Tryz.func171.trans (congrArg some (by kernel_rfl))⟩
 t4 := Tryz.underlying4
 a4 := Tryz.isAgg4
 z4 := Tryz.sizeOf4
 v4 := Tryz.zeroValue4
 t22 := Tryz.underlying27
 a22 := Tryz.isAgg27
 z22 := Tryz.sizeOf27
 v22 := Tryz.zeroValue27 }
end Go.Proofs

/-
 DERIVED: THE SHELF's CONTRACTS AT THIS DUMP, IN PLAIN WORDS (tools/lay-plain.mjs out of 'YtnfflgicngeekaaGreatDoorLayBld.lean', which tools/lay-shelf.mjs wrote): THE SAME DECLARATIONS UNDER THE SAME NAMES: 'import', 'namespace', 'open', 'def', 'theorem' AND NOTHING ELSE: no command of the shelf's: FOR A HAND-IN. Each laying: the table of numbers ('.._ren') and one theorem, a field a fact of the dump's own or the kernel's comparison; each contract: ONE APPLICATION.
-/
namespace Go.Proofs
open Go.Shelf
end Go.Proofs

/- The contracts of strings.Builder's writers, laid at this program. -/
namespace Go.Proofs.YtnfflgicngeekaaGreatDoor
set_option linter.unusedVariables false
set_option linter.unusedSimpArgs false
open Go.RowKit Go.Shelf

end Go.Proofs.YtnfflgicngeekaaGreatDoor

/- Quoted strings: quoted and Quote of package intake. -/
namespace Go.Proofs.YtnfflgicngeekaaGreatDoor
set_option linter.unusedVariables false
set_option linter.unusedSimpArgs false
open Go.RowKit

def StrPost1 (w : World) (l : Str) (e : Ending) (w' : World) : Prop := e = .returned (.string ⟨l.toArray⟩) ∧ Pure w w'

/-- A builder at block b that holds the bytes l. -/
def IsB (w : World) (b : Nat) (l : Str) : Prop := Lib.IsBuilderF 143 5 b b (Lib.byteCells l) w ∧ b ≤ w.heap.size
theorem ownF_pure {w w' : World} {base n size : Nat} {e : TypeId} {v : Value} {xs : List Value} (h : w.ownsRowF base e size v n xs) (hm : Pure w w') : w'.ownsRowF base e size v n xs := by
 obtain ⟨h1, h2⟩ := h
 refine ⟨h1, ?_⟩
 rcases h2 with h2 | ⟨g, cap, cur, fz, hv, hg, hh, r⟩
 ·exact .inl h2
 ·exact .inr ⟨g, cap, cur, fz, hv, hg, (hm.block g (lt_of_heap hh) id).trans hh, r⟩
theorem IsB.pure {w w' : World} {b : Nat} {l : Str} (h : IsB w b l) (hm : Pure w w') : IsB w' b l := by
 obtain ⟨h1, h2⟩ := h
 have key : ∀ p, Lib.BuilderAtF 143 5 b b p (Lib.byteCells l) w → Lib.BuilderAtF 143 5 b b p (Lib.byteCells l) w' := by
  rintro p ⟨k1, v, k2, k3, k4⟩
  exact ⟨k1, v, (hm.block b (lt_of_heap k2) id).trans k2, ownF_pure k3 hm, k4⟩
 exact ⟨h1.elim (fun x => .inl (key _ x)) (fun x => .inr (key _ x)), Nat.le_trans h2 hm.size⟩
end Go.Proofs.YtnfflgicngeekaaGreatDoor

/- Quoted strings: Quoted of the reference. -/
namespace Go.Proofs.YtnfflgicngeekaaGreatDoor
set_option linter.unusedVariables false
set_option linter.unusedSimpArgs false
open Go.RowKit

end Go.Proofs.YtnfflgicngeekaaGreatDoor

/- Digests: hex digits by strconv. -/
namespace Go.Proofs.YtnfflgicngeekaaGreatDoor
set_option linter.unusedVariables false
set_option linter.unusedSimpArgs false
open Go.RowKit

/-- The table's cell that the walk reads. -/
def Deb (w : World) : Prop := w.cell? ⟨6, 15, none⟩ = some (.int .u8 4)
theorem Deb.pure {w w' : World} (h : Deb w) (hm : Pure w w') : Deb w' := hm.keep h id

/-- The digits that have been written. -/
def DigAt (arr : Array Value) (h k : Nat) : Prop := arr.size = 65 ∧ ∀ j, j < k → arr[64 - j]? = some (.int .u8 ((hexD (h / 16 ^ j % 16)).toNat : Int))
theorem DigAt.step {arr : Array Value} {h k : Nat} (hd : DigAt arr h k) (hk : k < 64) : DigAt (arr.setIfInBounds (64 - k) (.int .u8 ((hexD (h / 16 ^ k % 16)).toNat : Int))) h (k + 1) := by
 refine ⟨by simpa using hd.1, fun j hj => ?_⟩
 have hs := hd.1
 by_cases e : j = k
 ·subst e
  rw [Array.getElem?_setIfInBounds_self_of_lt (by omega)]
 ·rw [Array.getElem?_setIfInBounds_ne (by omega)]
  exact hd.2 j (by omega)
theorem hexR_get (h : Nat) : ∀ (k i : Nat) (hi : i < k), (hexR h k)[i]'(by rw [hexR_len]; exact hi) = hexD (h / 16 ^ (k - 1 - i) % 16)
 | 0, i, hi => absurd hi (by omega)
 | k + 1, 0, hi => by simp [hexR]
 | k + 1, i + 1, hi => by
  have := hexR_get h k i (by omega)
  simp only [hexR, List.getElem_cons_succ]
  rw [this]
  congr 4
  omega
theorem DigAt.cells {w : World} {arr : Array Value} {h k g : Nat} (hd : DigAt arr h k) (hb : Blk w g 280 arr) (hk : k ≤ 65) : ∀ j (hj : j < (hexR h k).length), w.cell? ((⟨g, 65 - k, none⟩ : Addr).add j) = some (.int .u8 ((hexR h k)[j].toNat : Int)) := by
 intro j hj
 have hj' : j < k := by rw [hexR_len] at hj; exact hj
 rw [hexR_get h k j hj']
 have h1 := hd.2 (k - 1 - j) (by omega)
 have h2 : w.cell? ⟨g, 65 - k + j, none⟩ = some (.int .u8 ((hexD (h / 16 ^ (k - 1 - j) % 16)).toNat : Int)) := by
  rw [hb.cell, show 65 - k + j = 64 - (k - 1 - j) by omega]
  exact h1
 unfold Addr.add
 split
 ·rename_i e; subst e; simpa using h2
 ·exact h2
end Go.Proofs.YtnfflgicngeekaaGreatDoor

/- Digests: Digest of package intake, DigestOf of the reference. -/
namespace Go.Proofs.YtnfflgicngeekaaGreatDoor
set_option linter.unusedVariables false
set_option linter.unusedSimpArgs false
open Go.RowKit

theorem bytes_app (a b : Str) : (⟨a.toArray⟩ : ByteArray) ++ ⟨b.toArray⟩ = ⟨(a ++ b).toArray⟩ := by
 apply ByteArray.ext
 rw [ByteArray.data_append]
 simp
end Go.Proofs.YtnfflgicngeekaaGreatDoor

/- The generators of items: itemId, ItemText, Item. -/
namespace Go.Proofs.YtnfflgicngeekaaGreatDoor
set_option linter.unusedVariables false
set_option linter.unusedSimpArgs false
open Go.RowKit

/-- The strings of an item are not too long: of what the generators make. -/
def ItG (x : Itm) : Prop := x.id.length ≤ 100 ∧ x.cust.length ≤ 30000 ∧ x.name.length ≤ 30000 ∧ x.par.length ≤ 30000 ∧ x.text.length ≤ 29000
theorem ItG.b {x : Itm} (h : ItG x) : ItB x := ⟨h.1, h.2.1, h.2.2.1, h.2.2.2.1, by have := h.2.2.2.2; omega⟩
def StrB (w : World) (b N M : Nat) (e : Ending) (w' : World) : Prop := ∃ s : Str, s.length ≤ M ∧ e = .returned (.string ⟨s.toArray⟩) ∧ Strm w' b N ∧ Mod (· = b) w w'
theorem someb_calls (w : World) (b N g c n : Nat) (ss : List Str) (M : Nat) (hn : n = ss.length) (hM : ∀ s ∈ ss, s.length ≤ M) (hS : Strm w b N) (hN : N ≤ 1000000000) (hx : Blk w g 9 (strsV ss).toArray) (hgb : g ≠ b) (h0 : 0 < ss.length) (hl : ss.length ≤ 1000) :
  Calls Tryz.prog 52 #[.pointer (some ⟨b, 0, none⟩), .slice (some ⟨g, 0, none⟩) n c] w (StrB w b (N + 1) M) := by
 subst hn
 refine (some_calls w b N g c ss hS hN hx hgb h0 hl).mono ?_
 rintro e w' ⟨s, hs, rfl, h1, h2⟩
 exact ⟨s, hM s hs, rfl, h1, h2⟩
end Go.Proofs.YtnfflgicngeekaaGreatDoor

/- Searches that are made: patterns, fresh searches. -/
namespace Go.Proofs.YtnfflgicngeekaaGreatDoor
set_option linter.unusedVariables false
set_option linter.unusedSimpArgs false
open Go.RowKit

def patA : List Str := [[], [42], [63, 97], [97, 42, 98], [65], [97, 110, 100], [97, 32, 98], [48, 49, 50, 51, 52, 53, 54, 55, 56, 57, 48, 49, 50, 51, 52, 53, 54, 55, 56, 57, 48, 49, 50, 51, 52, 53, 54, 55, 56, 57, 48, 49, 50, 51, 52, 53, 54, 55, 56, 57], [48, 49, 50, 51, 52, 53, 54, 55, 56, 57, 48, 49, 50, 51, 52, 53, 54, 55, 56, 57, 48, 49, 50, 51, 52, 53, 54, 55, 56, 57, 48, 49, 50, 51, 52, 53, 54, 55, 56, 57, 48]]
def patBs : List Str := [[100, 101, 97, 108], [115, 105, 103, 110], [115, 105, 103, 110, 42], [116, 104, 101], [102, 114, 105, 42], [102, 114, 105, 100, 97, 121], [100, 63, 97, 108], [99, 111, 110, 116, 114, 97, 99, 116], [120, 49], [99, 97, 102, 42], [110, 111, 116, 104, 105, 110, 103], [115, 63, 63, 63, 101, 100]]

set_option maxRecDepth 100000 in
set_option maxHeartbeats 8000000 in
theorem pattern_calls (w : World) (b N : Nat) (hS : Strm w b N) (hN : N ≤ 900000000) : Calls Tryz.prog 102 #[.pointer (some ⟨b, 0, none⟩)] w (StrB w b (N + 2) 41) := by
 have hF := flip_calls w b N 40 hS (by omega) (by omega) (by omega)
 have HA : Hid (∀ w, Strm w b (N + 1) → Calls Tryz.prog 52 #[.pointer (some ⟨b, 0, none⟩), .slice (some ⟨w.heap.size, 0, none⟩) 9 9] (w.alloc (.cells (strsV patA).toArray 9)) (StrB (w.alloc (.cells (strsV patA).toArray 9)) b (N + 1 + 1) 41)) := Lib.hid (fun w h => someb_calls _ b (N + 1) w.heap.size 9 9 patA 41 rfl (by decide) (h.alloc _) (by omega) (Blk.new _ _ _) (by have := h.lt; omega) (by decide) (by decide))
 have HB : Hid (∀ w, Strm w b (N + 1) → Calls Tryz.prog 52 #[.pointer (some ⟨b, 0, none⟩), .slice (some ⟨w.heap.size, 0, none⟩) 12 12] (w.alloc (.cells (strsV patBs).toArray 9)) (StrB (w.alloc (.cells (strsV patBs).toArray 9)) b (N + 1 + 1) 41)) := Lib.hid (fun w h => someb_calls _ b (N + 1) w.heap.size 12 12 patBs 41 rfl (by decide) (h.alloc _) (by omega) (Blk.new _ _ _) (by have := h.lt; omega) (by decide) (by decide))
 have HPS : Hid (∀ {w1 w' : World} {o : Obj}, Mod (· = b) w w1 → Mod (· = b) (w1.alloc o) w' → Mod (· = b) w w') := Lib.hid (fun h k => (h.trans (Mod.of_pure (pure_alloc _ _))).trans k)
 have hb := hS.lt
 clear hS
 go_enter Tryz.func102, Tryz.ntmps102
 go_wp2_with fail
 refine hF.mono ?_
 rintro e w1 ⟨f, rfl, hS1, hM1⟩
 have HM1 := Lib.hid hM1
 clear hF hM1
 cases f
 ·have HC := Lib.hid (HB.out w1 hS1)
  unfold patBs strsV at HC
  simp only [List.map_cons, List.map_nil] at HC
  clear HA HB
  go_wp2_with fail
  refine HC.out.mono ?_
  rintro e w2 ⟨s, hs, rfl, hS2, hM2⟩
  go_wp2_with fail
  go_ret
  exact ⟨s, hs, rfl, hS2, HPS.out HM1.out hM2⟩
 ·have HC := Lib.hid (HA.out w1 hS1)
  unfold patA strsV at HC
  simp only [List.map_cons, List.map_nil] at HC
  clear HA HB
  go_wp2_with fail
  refine HC.out.mono ?_
  rintro e w2 ⟨s, hs, rfl, hS2, hM2⟩
  go_wp2_with fail
  try simp only [Exit.inBlock, Exit.then]
  refine bodyPost_ret (v := .string ⟨s.toArray⟩) (by simp [results, Tryz.results102, go_sem]) rfl ?_
  exact ⟨s, hs, rfl, hS2, HPS.out HM1.out hM2⟩

/-- The rows of searches within a search lie in blocks from base on. -/
inductive QFr (base : Nat) : QR → Prop
 | mk {k : Int} {A : Option Addr} {c : Nat} {ws : List Str} {n : Int} {B : Option Addr} {d : Nat} {xs : List QR} (h : xs ≠ [] → ∃ g off, B = some ⟨g, off, none⟩ ∧ base ≤ g) (hs : ∀ a ∈ xs, QFr base a) : QFr base (.mk k A c ws n B d xs)
theorem QFr.up {b1 b2 : Nat} {q : QR} (h : QFr b2 q) (hb : b1 ≤ b2) : QFr b1 q := by
 induction h with
 | mk h hs ih => exact .mk (fun hx => by obtain ⟨g, off, e, hg⟩ := h hx; exact ⟨g, off, e, by omega⟩) ih
/-- No row begins at a spot within a cell. -/
inductive QZ : QR → Prop
 | mk {k : Int} {A : Option Addr} {c : Nat} {ws : List Str} {n : Int} {B : Option Addr} {d : Nat} {xs : List QR} (h : ∀ g off sp, B = some ⟨g, off, sp⟩ → sp = none) (hs : ∀ a ∈ xs, QZ a) : QZ (.mk k A c ws n B d xs)
/-- A store below the rows of a fresh search. -/
theorem QS.modF {w w' : World} {S : Nat → Prop} {base : Nat} {q : QR} (h : QS w q) (hf : QFr base q) (hm : Mod S w w') (h1 : ∀ g arr fr, w.heap[g]? = some (.cells arr 9 fr) → ¬ S g) (h2 : ∀ g, base ≤ g → ¬ S g) : QS w' q := by
 induction h with
 | mk hw ha hs ih =>
  cases hf with
  | mk hx hfs =>
   refine .mk (Sl.mod hw hm h1) ?_ (fun a haa => ih a haa (hfs a haa))
   obtain ⟨A', n', c', he, hle, hc, hl, hr⟩ := ha
   refine ⟨A', n', c', he, hle, hc, hl, fun hn => ?_⟩
   obtain ⟨g, off, hA, hrow⟩ := hr hn
   injection he with e1 e2 e3
   subst e1 e2 e3
   rename_i xs _
   obtain ⟨g', off', hB, hg⟩ := hx (by intro e; subst e; simp at hn)
   rw [hA] at hB
   injection hB with hB
   injection hB with hg'
   exact ⟨g, off, hA, hrow.mod hm (h2 g (by omega))⟩
theorem QS.strm {w w' : World} {b N : Nat} {q : QR} (h : QS w q) (hS : Strm w b N) (hm : Mod (· = b) w w') : QS w' q := by
 induction h with
 | mk hw ha hs ih => exact .mk (hw.strm hS hm (by decide)) (ha.strm hS hm (by decide)) ih
/-- A fresh search is returned. -/
def QgP (w : World) (b N M : Nat) (e : Ending) (w' : World) : Prop := ∃ qr : QR, e = .returned (qA qr) ∧ QS w' qr ∧ QFr w.heap.size qr ∧ QB 100 qr.key ∧ qSize qr.key ≤ M ∧ Strm w' b N ∧ Mod (· = b) w w' ∧ QZ qr

end Go.Proofs.YtnfflgicngeekaaGreatDoor

/- Lower, small; words and patterns of the program. -/
namespace Go.Proofs.YtnfflgicngeekaaGreatDoor
set_option linter.unusedVariables false
set_option linter.unusedSimpArgs false
open Go.RowKit

set_option maxRecDepth 100000 in
set_option maxHeartbeats 8000000 in
theorem lowerQ_calls (w : World) (s : Str) (hs : s.length ≤ 1000000) : Calls Tryz.prog 184 #[.string ⟨s.toArray⟩] w (StrPost1 w (lowS s)) := by
 have hcv := fun W s => Lib.run_convert_string_bytes (P := Tryz.prog) W 9 141 5 s Tryz.underlying9 Tryz.underlying141 Tryz.underlying5
 have hz : (⟨s.toArray⟩ : ByteArray).size = s.length := by simp [ByteArray.size]
 have hB := BufB.new w s
 have hP := bytes_pure w 5 ⟨s.toArray⟩
 obtain ⟨n, hn⟩ : ∃ n, n = s.length := ⟨_, rfl⟩
 rw [← hn] at hz hs
 have HN := Lib.hid hn
 clear hn
 go_enter Tryz.func184, Tryz.ntmps184
 go_wp2_with fail
 clear hcv
 generalize Lib.bytesWorld w 5 ⟨s.toArray⟩ = W0 at *
 generalize (Lib.bytesCells w 5 ⟨s.toArray⟩).size = cap at *
 generalize grownCap w n 0 5 = cp at *
 have HB := Lib.hid hB
 have HP := Lib.hid hP
 clear hB hP hz
 generalize hgg : w.heap.size = g at *
 have hge : w.heap.size ≤ g := Nat.le_of_eq hgg
 clear hgg
 go_loopg [10] n (fun gk i wr => ∃ k : Nat, n - k = gk ∧ k ≤ n ∧ i = .int .i64 (k : Int) ∧ BufB wr g cap (lowS (s.take k) ++ s.drop k) ∧ Mod (· = g) W0 wr)
 case atStart => exact ⟨0, by omega, by omega, rfl, by simpa [lowS] using HB.out, Mod.refl _ _⟩
 case round =>
  clear HB
  obtain ⟨k, rfl, hk, rfl, hb, hm⟩ := hrel
  by_cases hlt : k < n
  ·have hlt2 : k < s.length := by rw [← HN.out]; exact hlt
   have hkl : k < (lowS (s.take k) ++ s.drop k).length := by rw [lowS_len]; exact hlt2
   have hc := hb.cell hkl
   have hf := hb.frozen hkl
   have he : (lowS (s.take k) ++ s.drop k)[k] = s[k] := by
    have h := lowS_getD hlt2
    rw [List.getElem?_eq_getElem hkl] at h
    exact Option.some.inj h
   rw [he] at hc
   have HS := Lib.hid (lowS_step hlt2)
   have HM := Lib.hid hm
   have HSET := Lib.hid (fun c => hb.set hkl c)
   have hcb : s[k].toNat < 256 := s[k].toNat_lt
   have HLB := Lib.hid (lowB_nat s[k])
   have HSM := Lib.hid (fun (h : ¬ ((65 : Int) ≤ (s[k].toNat : Int) ∧ (s[k].toNat : Int) ≤ 90)) => lowB_same h)
   obtain ⟨c, hcc⟩ : ∃ c, s[k] = c := ⟨_, rfl⟩
   rw [hcc] at hc hcb HS HLB HSM he
   have hb2 : Hid (c = s[k]) := Lib.hid hcc.symm
   have HBB := Lib.hid hb
   clear hcc hb hm
   by_cases h1 : (65 : Int) ≤ (c.toNat : Int)
   ·by_cases h2 : (c.toNat : Int) ≤ 90
    ·have e := HLB.out
     rw [if_pos ⟨h1, h2⟩] at e
     have hw8 : IntKind.u8.wrap ((c.toNat : Int) + 32) = (c.toNat : Int) + 32 := by simp [IntKind.wrap, IntKind.bits, IntKind.signed]; omega
     have hnb := HSET.out (lowB c)
     rw [e, HS.out] at hnb
     have HNB := Lib.hid hnb
     have HM2 := Lib.hid (HM.out.setCell (p := ⟨g, k, none⟩) (.inl rfl) (.int .u8 ((c.toNat : Int) + 32)))
     clear hnb e HSET HLB HSM HS HBB he hkl
     generalize c.toNat = cn at *
     go_wp2_with fail
     go_roundg (n - (k + 1))
     case measure => omega
     case rel => exact ⟨k + 1, rfl, by omega, by simp, HNB.out, HM2.out⟩
    ·have e := HSM.out (fun h => h2 h.2)
     have HNB : Hid (BufB wr g cap (lowS (s.take (k + 1)) ++ s.drop (k + 1))) := Lib.hid (by
      rw [← HS.out, e]
      have h : (lowS (s.take k) ++ s.drop k).set k c = lowS (s.take k) ++ s.drop k := by
       rw [← he]
       exact List.set_getElem_self hkl
      rw [h]
      exact HBB.out)
     clear e HSET HLB HSM HS HBB he hkl
     generalize c.toNat = cn at *
     go_wp2_with fail
     go_roundg (n - (k + 1))
     case measure => omega
     case rel => exact ⟨k + 1, rfl, by omega, by simp, HNB.out, HM.out⟩
   ·have e := HSM.out (fun h => h1 h.1)
    have HNB : Hid (BufB wr g cap (lowS (s.take (k + 1)) ++ s.drop (k + 1))) := Lib.hid (by
     rw [← HS.out, e]
     have h : (lowS (s.take k) ++ s.drop k).set k c = lowS (s.take k) ++ s.drop k := by
      rw [← he]
      exact List.set_getElem_self hkl
     rw [h]
     exact HBB.out)
    clear e HSET HLB HSM HS HBB he hkl
    generalize c.toNat = cn at *
    go_wp2_with fail
    go_roundg (n - (k + 1))
    case measure => omega
    case rel => exact ⟨k + 1, rfl, by omega, by simp, HNB.out, HM.out⟩
  ·obtain rfl : k = n := by omega
   have e : lowS (s.take k) ++ s.drop k = lowS s := by
    rw [HN.out, List.take_length, List.drop_length, List.append_nil]
   rw [e] at hb
   have hl : (lowS s).length = k := by rw [HN.out]; simp [lowS]
   have HPW : Hid (Pure w wr) := Lib.hid (HP.out.trans' hm (fun i hi hlt => by omega))
   have hcv2 := run_convert_bytes_back (P := Tryz.prog) wr 141 9 5 ⟨g, 0, none⟩ cp (lowS s) Tryz.underlying141 Tryz.underlying5 Tryz.underlying9 (fun j hj => by
    have h := hb.cell hj
    by_cases h0 : j = 0
    ·subst h0; simpa [Addr.add] using h
    ·simpa [Addr.add, h0] using h)
   rw [hl] at hcv2
   clear hb hm e hl hlt
   go_wp2_with fail
   go_ret
   exact ⟨rfl, HPW.out⟩

set_option maxRecDepth 100000 in
set_option maxHeartbeats 8000000 in
theorem smallR_calls (w : World) (s : Str) (hs : s.length ≤ 1000000) : Calls Tryz.prog 162 #[.string ⟨s.toArray⟩] w (StrPost1 w (lowS s)) := by
 have hcv := fun W s => Lib.run_convert_string_bytes (P := Tryz.prog) W 9 141 5 s Tryz.underlying9 Tryz.underlying141 Tryz.underlying5
 have hz : (⟨s.toArray⟩ : ByteArray).size = s.length := by simp [ByteArray.size]
 have hB := BufB.new w s
 have hP := bytes_pure w 5 ⟨s.toArray⟩
 obtain ⟨n, hn⟩ : ∃ n, n = s.length := ⟨_, rfl⟩
 rw [← hn] at hz hs
 have HN := Lib.hid hn
 clear hn
 go_enter Tryz.func162, Tryz.ntmps162
 go_wp2_with fail
 clear hcv
 generalize Lib.bytesWorld w 5 ⟨s.toArray⟩ = W0 at *
 generalize (Lib.bytesCells w 5 ⟨s.toArray⟩).size = cap at *
 generalize grownCap w n 0 5 = cp at *
 have HB := Lib.hid hB
 have HP := Lib.hid hP
 clear hB hP hz
 generalize hgg : w.heap.size = g at *
 have hge : w.heap.size ≤ g := Nat.le_of_eq hgg
 clear hgg
 go_loopg [10] n (fun gk i wr => ∃ k : Nat, n - k = gk ∧ k ≤ n ∧ i = .int .i64 (k : Int) ∧ BufB wr g cap (lowS (s.take k) ++ s.drop k) ∧ Mod (· = g) W0 wr)
 case atStart => exact ⟨0, by omega, by omega, rfl, by simpa [lowS] using HB.out, Mod.refl _ _⟩
 case round =>
  clear HB
  obtain ⟨k, rfl, hk, rfl, hb, hm⟩ := hrel
  by_cases hlt : k < n
  ·have hlt2 : k < s.length := by rw [← HN.out]; exact hlt
   have hkl : k < (lowS (s.take k) ++ s.drop k).length := by rw [lowS_len]; exact hlt2
   have hc := hb.cell hkl
   have hf := hb.frozen hkl
   have he : (lowS (s.take k) ++ s.drop k)[k] = s[k] := by
    have h := lowS_getD hlt2
    rw [List.getElem?_eq_getElem hkl] at h
    exact Option.some.inj h
   rw [he] at hc
   have HS := Lib.hid (lowS_step hlt2)
   have HM := Lib.hid hm
   have HSET := Lib.hid (fun c => hb.set hkl c)
   have hcb : s[k].toNat < 256 := s[k].toNat_lt
   have HLB := Lib.hid (lowB_nat s[k])
   have HSM := Lib.hid (fun (h : ¬ ((65 : Int) ≤ (s[k].toNat : Int) ∧ (s[k].toNat : Int) ≤ 90)) => lowB_same h)
   obtain ⟨c, hcc⟩ : ∃ c, s[k] = c := ⟨_, rfl⟩
   rw [hcc] at hc hcb HS HLB HSM he
   have hb2 : Hid (c = s[k]) := Lib.hid hcc.symm
   have HBB := Lib.hid hb
   clear hcc hb hm
   by_cases h1 : (65 : Int) ≤ (c.toNat : Int)
   ·by_cases h2 : (c.toNat : Int) ≤ 90
    ·have e := HLB.out
     rw [if_pos ⟨h1, h2⟩] at e
     have hw8 : IntKind.u8.wrap ((c.toNat : Int) + 32) = (c.toNat : Int) + 32 := by simp [IntKind.wrap, IntKind.bits, IntKind.signed]; omega
     have hnb := HSET.out (lowB c)
     rw [e, HS.out] at hnb
     have HNB := Lib.hid hnb
     have HM2 := Lib.hid (HM.out.setCell (p := ⟨g, k, none⟩) (.inl rfl) (.int .u8 ((c.toNat : Int) + 32)))
     clear hnb e HSET HLB HSM HS HBB he hkl
     generalize c.toNat = cn at *
     go_wp2_with fail
     go_roundg (n - (k + 1))
     case measure => omega
     case rel => exact ⟨k + 1, rfl, by omega, by simp, HNB.out, HM2.out⟩
    ·have e := HSM.out (fun h => h2 h.2)
     have HNB : Hid (BufB wr g cap (lowS (s.take (k + 1)) ++ s.drop (k + 1))) := Lib.hid (by
      rw [← HS.out, e]
      have h : (lowS (s.take k) ++ s.drop k).set k c = lowS (s.take k) ++ s.drop k := by
       rw [← he]
       exact List.set_getElem_self hkl
      rw [h]
      exact HBB.out)
     clear e HSET HLB HSM HS HBB he hkl
     generalize c.toNat = cn at *
     go_wp2_with fail
     go_roundg (n - (k + 1))
     case measure => omega
     case rel => exact ⟨k + 1, rfl, by omega, by simp, HNB.out, HM.out⟩
   ·have e := HSM.out (fun h => h1 h.1)
    have HNB : Hid (BufB wr g cap (lowS (s.take (k + 1)) ++ s.drop (k + 1))) := Lib.hid (by
     rw [← HS.out, e]
     have h : (lowS (s.take k) ++ s.drop k).set k c = lowS (s.take k) ++ s.drop k := by
      rw [← he]
      exact List.set_getElem_self hkl
     rw [h]
     exact HBB.out)
    clear e HSET HLB HSM HS HBB he hkl
    generalize c.toNat = cn at *
    go_wp2_with fail
    go_roundg (n - (k + 1))
    case measure => omega
    case rel => exact ⟨k + 1, rfl, by omega, by simp, HNB.out, HM.out⟩
  ·obtain rfl : k = n := by omega
   have e : lowS (s.take k) ++ s.drop k = lowS s := by
    rw [HN.out, List.take_length, List.drop_length, List.append_nil]
   rw [e] at hb
   have hl : (lowS s).length = k := by rw [HN.out]; simp [lowS]
   have HPW : Hid (Pure w wr) := Lib.hid (HP.out.trans' hm (fun i hi hlt => by omega))
   have hcv2 := run_convert_bytes_back (P := Tryz.prog) wr 141 9 5 ⟨g, 0, none⟩ cp (lowS s) Tryz.underlying141 Tryz.underlying5 Tryz.underlying9 (fun j hj => by
    have h := hb.cell hj
    by_cases h0 : j = 0
    ·subst h0; simpa [Addr.add] using h
    ·simpa [Addr.add, h0] using h)
   rw [hl] at hcv2
   clear hb hm e hl hlt
   go_wp2_with fail
   go_ret
   exact ⟨rfl, HPW.out⟩

def wdC (x : Wd) : List Value := [.int .i64 (x.1.1 : Int), .int .i64 (x.1.2 : Int), .string ⟨x.2.toArray⟩]
def wdV (l : List Wd) : List Value := l.flatMap wdC
theorem wdV_len : ∀ l : List Wd, (wdV l).length = l.length * 3
 | [] => rfl
 | x :: t => by
  show (wdC x ++ wdV t).length = _
  rw [List.length_append, wdV_len t]
  simp [wdC]
  omega
theorem wdV_get : ∀ (l : List Wd) (i : Nat) (h : i < l.length), (wdV l)[i * 3]? = some (.int .i64 (l[i].1.1 : Int)) ∧ (wdV l)[i * 3 + 1]? = some (.int .i64 (l[i].1.2 : Int)) ∧ (wdV l)[i * 3 + 2]? = some (.string ⟨l[i].2.toArray⟩)
 | x :: t, 0, _ => ⟨rfl, rfl, rfl⟩
 | x :: t, i + 1, h => by
  have ih := wdV_get t i (by simpa using h)
  have e : wdV (x :: t) = wdC x ++ wdV t := rfl
  have hs : ∀ j, (wdV (x :: t))[(i + 1) * 3 + j]? = (wdV t)[i * 3 + j]? := fun j => by
   rw [e, List.getElem?_append_right (by simp [wdC]; omega)]
   congr 1
   simp [wdC]; omega
  exact ⟨(hs 0).trans ih.1, (hs 1).trans ih.2.1, (hs 2).trans ih.2.2⟩
theorem wdV_snoc (l : List Wd) (x : Wd) : wdV (l ++ [x]) = wdV l ++ wdC x := by simp [wdV]
theorem info_wd : (Tryz.prog.info? 120).map (fun i => (i.zero, i.size, i.bytes)) = some (some (.agg #[.int .i64 0, .int .i64 0, .string ⟨#[]⟩]), 3, 32) := by kernel_rfl
theorem ext_sub (l : Str) (a b : Nat) : (⟨l.toArray⟩ : ByteArray).extract a b = ⟨(subS l a b).toArray⟩ := by
 apply ByteArray.ext
 unfold subS
 simp only [ByteArray.data_extract, List.extract_toArray, List.extract_eq_take_drop]
 congr 1
 rw [List.drop_take]
def Wds (w : World) (v : Value) (l : List Wd) : Prop := Sl w 120 3 v (wdV l)
def WdsPost (w : World) (l : List Wd) (e : Ending) (w' : World) : Prop := ∃ v, e = .returned v ∧ w'.ownsRow w.heap.size 120 3 v l.length (wdV l) ∧ Pure w w'
def frI : Option Nat → Int
 | none => -1
 | some f => (f : Int)
def WlRel (w : World) (s : Str) (gk : Nat) (x f i : Value) (wr : World) : Prop :=
 ∃ (k : Nat) (l : List (Nat × Nat)) (fo : Option Nat) (A : Option Addr) (cap : Nat), s.length + 1 - k = gk ∧ k ≤ s.length + 1 ∧ i = .int .i64 (k : Int) ∧ f = .int .i64 (frI fo) ∧ x = .slice A l.length cap ∧ l.length ≤ k ∧ (k ≤ s.length → progW s k l fo) ∧ (k = s.length + 1 → l = spR s 0) ∧
  wr.ownsRow w.heap.size 120 3 (.slice A l.length cap) l.length (wdV (l.map (wdAt s))) ∧ Pure w wr
set_option maxRecDepth 100000 in
set_option maxHeartbeats 8000000 in
theorem words_calls (w : World) (s : Str) (hs : s.length ≤ 1000000) : Calls Tryz.prog 149 #[.string ⟨s.toArray⟩] w (WdsPost w (wordsQ s)) := by
 obtain ⟨i0, hi0, hz0, hz1, hz2⟩ := info_parts info_wd
 have hz : (⟨s.toArray⟩ : ByteArray).size = s.length := by simp [ByteArray.size]
 obtain ⟨n, hn⟩ : ∃ n, n = s.length := ⟨_, rfl⟩
 rw [← hn] at hz hs
 have HN := Lib.hid hn
 clear hn
 go_enter Tryz.func149, Tryz.ntmps149
 go_wp2_with fail
 go_loopg [3, 4, 5] (n + 1) (fun gk x f i wr => WlRel w s gk x f i wr)
 case atStart => exact ⟨0, [], none, none, 0, by rw [← HN.out]; omega, by omega, rfl, rfl, rfl, by simp, fun _ => progW_start s, fun h => by rw [← HN.out] at h; omega, ⟨rfl, .inl ⟨rfl, rfl⟩⟩, Mod.refl _ _⟩
 case round =>
  obtain ⟨k, l, fo, A, cap, hgk, hk, rfl, rfl, rfl, hlk, hpw, hend, hown, hm⟩ := hrel
  rw [← HN.out] at hgk hk
  subst hgk
  have HPW := Lib.hid hpw
  have HEND := Lib.hid hend
  have HO := Lib.hid hown
  have HM : Hid (Pure w wr) := Lib.hid hm
  clear hpw hend hown hm
  by_cases hkn : k ≤ n
  ·by_cases hlt : k < n
   ·have hlt2 : k < s.length := by rw [← HN.out]; exact hlt
    have hp := HPW.out (by omega)
    obtain ⟨bb, hbb⟩ : ∃ bb, letB s[k] = bb := ⟨_, rfl⟩
    have HC := Lib.hid (letter_calls s[k] wr)
    rw [hbb] at HC
    have HBB := Lib.hid hbb
    clear hbb
    have hi1 : -1 < (k : Int) := by omega
    go_wp2_with fail
    refine HC.out.mono ?_
    rintro e w2 ⟨rfl, rfl⟩
    clear HC
    cases bb with
    | true =>
     cases fo with
     | none =>
      have hf0 : frI none = -1 := rfl
      have HP2 := Lib.hid (progW_in hlt2 hp HBB.out)
      clear hp HPW HEND
      go_wp2_with fail
      go_roundg (n + 1 - (k + 1))
      case measure => omega
      case rel => exact ⟨k + 1, l, some k, A, cap, by rw [← HN.out], by omega, by simp, rfl, rfl, by omega, fun _ => HP2.out, fun h => by rw [← HN.out] at h; omega, HO.out, HM.out⟩
     | some f =>
      have hf0 : frI (some f) = (f : Int) := rfl
      have hf1 : ¬ (f : Int) < 0 := by omega
      have HP2 := Lib.hid (progW_on hlt2 hp HBB.out)
      clear hp HPW HEND
      go_wp2_with fail
      go_roundg (n + 1 - (k + 1))
      case measure => omega
      case rel => exact ⟨k + 1, l, some f, A, cap, by rw [← HN.out], by omega, by simp, rfl, rfl, by omega, fun _ => HP2.out, fun h => by rw [← HN.out] at h; omega, HO.out, HM.out⟩
    | false =>
     cases fo with
     | none =>
      have hf0 : frI none = -1 := rfl
      have HP2 := Lib.hid (progW_off hlt2 hp HBB.out)
      clear hp HPW HEND
      go_wp2_with fail
      go_roundg (n + 1 - (k + 1))
      case measure => omega
      case rel => exact ⟨k + 1, l, none, A, cap, by rw [← HN.out], by omega, by simp, rfl, rfl, by omega, fun _ => HP2.out, fun h => by rw [← HN.out] at h; omega, HO.out, HM.out⟩
     | some f =>
      have hf0 : frI (some f) = (f : Int) := rfl
      have hf1 : (0 : Int) ≤ (f : Int) := by omega
      have hfk : f < k := hp.1
      have HP2 := Lib.hid (progW_out hlt2 hp HBB.out)
      have HLW := Lib.hid (fun W => lowerQ_calls W (subS s f k) (by unfold subS; rw [List.length_drop, List.length_take]; omega))
      have HEX : Hid ((⟨s.toArray⟩ : ByteArray).extract f k = ⟨(subS s f k).toArray⟩) := Lib.hid (ext_sub s f k)
      have HWD : Hid (wdV ((l ++ [(f, k)]).map (wdAt s)) = wdV (l.map (wdAt s)) ++ [.int .i64 (f : Int), .int .i64 (k : Int), .string ⟨(lowS (subS s f k)).toArray⟩]) := Lib.hid (by rw [List.map_append, List.map_singleton, wdV_snoc]; rfl)
      clear hp HPW HEND
      go_wp2_with fail
      rw [HEX.out]
      refine (HLW.out _).mono ?_
      rintro e w3 ⟨rfl, hm3⟩
      have HO3 := Lib.hid (own_pure HO.out hm3)
      have HM3 : Hid (Pure w w3) := Lib.hid (HM.out.trans hm3)
      clear hm3 HLW HEX HO HM
      generalize lowS (subS s f k) = lw at *
      have hownS := HO3.out
      have hmS := HM3.out
      clear HO3
      generalize hln : l.length = ln at hownS hlk ⊢
      have HLN := Lib.hid hln
      clear hln
      go_wp2_with (at_builtin; refine wpList_append_lies _ rfl _ _ _ rfl w.heap.size 120 i0 _ 3 32 Tryz.underlying108 hi0 hz0 hz1 hz2 rfl (by omega) (.slice A ln cap) ln (wdV (l.map (wdAt s))) rfl (hownS.alloc _) ⟨w3.heap.size, 0, none⟩ 1 1 [.int .i64 (f : Int), .int .i64 (k : Int), .string ⟨lw.toArray⟩] rfl rfl (World.news_of_block (cs := #[.int .i64 (f : Int), .int .i64 (k : Int), .string ⟨lw.toArray⟩]) (t := 120) (fr := (0, 0)) (heap_alloc_new w3 _)) (by simp [Value.oneCell']) (by omega) (by simp [maxLen]; omega) (by omega) (by have := hmS.size; simp; omega) (w3.heap.size + 1) (by simp) ?_; intro g5 cap5 w5 hown5 hgrow hat hlt5)
      have HP5 : Hid (Pure w w5) := Lib.hid ((hmS.alloc (.cells #[.int .i64 (f : Int), .int .i64 (k : Int), .string ⟨lw.toArray⟩] 120)).trans' (mod_grown hgrow) (fun i hi hlt => by have := own_block (hownS.alloc (.cells #[.int .i64 (f : Int), .int .i64 (k : Int), .string ⟨lw.toArray⟩] 120)) i hi; omega))
      go_roundg (n + 1 - (k + 1))
      case measure => omega
      case rel =>
       refine ⟨k + 1, l ++ [(f, k)], none, some ⟨g5, 0, none⟩, cap5, by rw [← HN.out], by omega, by simp, rfl, by rw [List.length_append, HLN.out]; rfl, by rw [List.length_append, HLN.out]; simp; omega, fun _ => HP2.out, fun h => by rw [← HN.out] at h; omega, ?_, HP5.out⟩
       rw [HWD.out, List.length_append, HLN.out]
       exact hown5
   ·obtain rfl : k = n := by omega
    have hp := HPW.out (by rw [← HN.out]; omega)
    have hi1 : -1 < (k : Int) := by omega
    have hll : ¬ (k : Int) < (k : Int) := by omega
    cases fo with
    | none =>
     have hf0 : frI none = -1 := rfl
     have HE2 : Hid (l = spR s 0) := Lib.hid (progW_end (by rw [← HN.out]; exact hp))
     clear hp HPW HEND
     go_wp2_with fail
     go_roundg (k + 1 - (k + 1))
     case measure => omega
     case rel => exact ⟨k + 1, l, none, A, cap, by rw [← HN.out], by rw [← HN.out]; omega, by simp, rfl, rfl, by omega, fun h => by rw [← HN.out] at h; omega, fun _ => HE2.out, HO.out, HM.out⟩
    | some f =>
      have hf0 : frI (some f) = (f : Int) := rfl
      have hf1 : (0 : Int) ≤ (f : Int) := by omega
      have hfk : f < k := hp.1
      have HP2 : Hid (l ++ [(f, k)] = spR s 0) := Lib.hid (by
       have h := progW_endW (s := s) (l := l) (f := f) (by rw [← HN.out]; exact hp)
       rw [← HN.out] at h
       exact h)
      have HLW := Lib.hid (fun W => lowerQ_calls W (subS s f k) (by unfold subS; rw [List.length_drop, List.length_take]; omega))
      have HEX : Hid ((⟨s.toArray⟩ : ByteArray).extract f k = ⟨(subS s f k).toArray⟩) := Lib.hid (ext_sub s f k)
      have HWD : Hid (wdV ((l ++ [(f, k)]).map (wdAt s)) = wdV (l.map (wdAt s)) ++ [.int .i64 (f : Int), .int .i64 (k : Int), .string ⟨(lowS (subS s f k)).toArray⟩]) := Lib.hid (by rw [List.map_append, List.map_singleton, wdV_snoc]; rfl)
      clear hp HPW HEND
      go_wp2_with fail
      rw [HEX.out]
      refine (HLW.out _).mono ?_
      rintro e w3 ⟨rfl, hm3⟩
      have HO3 := Lib.hid (own_pure HO.out hm3)
      have HM3 : Hid (Pure w w3) := Lib.hid (HM.out.trans hm3)
      clear hm3 HLW HEX HO HM
      generalize lowS (subS s f k) = lw at *
      have hownS := HO3.out
      have hmS := HM3.out
      clear HO3
      generalize hln : l.length = ln at hownS hlk ⊢
      have HLN := Lib.hid hln
      clear hln
      go_wp2_with (at_builtin; refine wpList_append_lies _ rfl _ _ _ rfl w.heap.size 120 i0 _ 3 32 Tryz.underlying108 hi0 hz0 hz1 hz2 rfl (by omega) (.slice A ln cap) ln (wdV (l.map (wdAt s))) rfl (hownS.alloc _) ⟨w3.heap.size, 0, none⟩ 1 1 [.int .i64 (f : Int), .int .i64 (k : Int), .string ⟨lw.toArray⟩] rfl rfl (World.news_of_block (cs := #[.int .i64 (f : Int), .int .i64 (k : Int), .string ⟨lw.toArray⟩]) (t := 120) (fr := (0, 0)) (heap_alloc_new w3 _)) (by simp [Value.oneCell']) (by omega) (by simp [maxLen]; omega) (by omega) (by have := hmS.size; simp; omega) (w3.heap.size + 1) (by simp) ?_; intro g5 cap5 w5 hown5 hgrow hat hlt5)
      have HP5 : Hid (Pure w w5) := Lib.hid ((hmS.alloc (.cells #[.int .i64 (f : Int), .int .i64 (k : Int), .string ⟨lw.toArray⟩] 120)).trans' (mod_grown hgrow) (fun i hi hlt => by have := own_block (hownS.alloc (.cells #[.int .i64 (f : Int), .int .i64 (k : Int), .string ⟨lw.toArray⟩] 120)) i hi; omega))
      go_roundg (k + 1 - (k + 1))
      case measure => omega
      case rel =>
       refine ⟨k + 1, l ++ [(f, k)], none, some ⟨g5, 0, none⟩, cap5, by rw [← HN.out], by rw [← HN.out]; omega, by simp, rfl, by rw [List.length_append, HLN.out]; rfl, by rw [List.length_append, HLN.out]; simp; omega, fun h => by rw [← HN.out] at h; omega, fun _ => HP2.out, ?_, HP5.out⟩
       rw [HWD.out, List.length_append, HLN.out]
       exact hown5
  ·obtain rfl : k = n + 1 := by omega
   have e := HEND.out (by rw [← HN.out])
   have hll : ¬ ((n : Int) + 1) ≤ (n : Int) := by omega
   have hwq : Hid (wordsQ s = l.map (wdAt s)) := Lib.hid (by unfold wordsQ; rw [e])
   clear e HPW HEND
   go_wp2_with fail
   go_ret
   refine ⟨_, rfl, ?_, HM.out⟩
   rw [hwq.out, List.length_map]
   exact HO.out

end Go.Proofs.YtnfflgicngeekaaGreatDoor

/- Patterns of the program. -/
namespace Go.Proofs.YtnfflgicngeekaaGreatDoor
set_option linter.unusedVariables false
set_option linter.unusedSimpArgs false
open Go.RowKit

theorem smB_nat (c : UInt8) : smB c = (letB c && !decide (65 ≤ c.toNat ∧ c.toNat ≤ 90)) := by
 have key : ∀ c : Fin 256, smB (UInt8.ofNat c.val) = (letB (UInt8.ofNat c.val) && !decide (65 ≤ (UInt8.ofNat c.val).toNat ∧ (UInt8.ofNat c.val).toNat ≤ 90)) := by decide +kernel
 have h := key ⟨c.toNat, c.toNat_lt⟩
 simpa using h
/-- A byte of a pattern, by its number. -/
def patN (sm : Bool) (N i n : Nat) : Bool := sm || (decide (i ≠ 0) && (decide (n = 63) || (decide (n = 42) && decide (i + 1 = N))))
theorem u8_eqW (c : UInt8) (d : Nat) (hd : d < 256) : (c == UInt8.ofNat d) = decide (c.toNat = d) := by
 rw [Bool.eq_iff_iff, beq_iff_eq, decide_eq_true_iff]
 constructor
 ·intro h; rw [h]; simp; omega
 ·intro h; rw [← h]; simp
theorem patC_nat (N i : Nat) (c : UInt8) : patC N i c = patN (smB c) N i c.toNat := by
 have h1 := u8_eqW c 63 (by decide)
 have h2 := u8_eqW c 42 (by decide)
 unfold patC patN
 rw [show (c == 63) = decide (c.toNat = 63) from h1, show (c == 42) = decide (c.toNat = 42) from h2]
def patAll (s : Str) (k : Nat) : Bool := (List.range k).all fun i => patC s.length i (s.getD i 0)
theorem patAll_succ (s : Str) (k : Nat) (h : k < s.length) : patAll s (k + 1) = (patAll s k && patC s.length k s[k]) := by
 unfold patAll
 rw [List.range_succ, List.all_append]
 simp [List.getD, h]
theorem patAll_false {s : Str} {k : Nat} (h : k < s.length) (hc : patC s.length k s[k] = false) : patAll s s.length = false := by
 unfold patAll
 rw [List.all_eq_false]
 exact ⟨k, List.mem_range.2 h, by simp [List.getD, h, hc]⟩
theorem patB_all (s : Str) : patB s = (decide (1 ≤ s.length ∧ s.length ≤ 40) && patAll s s.length) := by
 unfold patB patAll
 rw [Bool.decide_and]

set_option maxRecDepth 100000 in
set_option maxHeartbeats 8000000 in
theorem isPattern_calls (w : World) (s : Str) (hs : s.length ≤ 1000000) : Calls Tryz.prog 179 #[.string ⟨s.toArray⟩] w (BoolSame w (patB s)) := by
 have hz : (⟨s.toArray⟩ : ByteArray).size = s.length := by simp [ByteArray.size]
 have HPB := Lib.hid (patB_all s)
 obtain ⟨n, hn⟩ : ∃ n, n = s.length := ⟨_, rfl⟩
 rw [← hn] at hz hs HPB
 have HN := Lib.hid hn
 clear hn
 go_enter Tryz.func179, Tryz.ntmps179
 go_wp2_with fail
 go_loopg [8] n (fun gk i wr => ∃ k : Nat, n - k = gk ∧ k ≤ n ∧ i = .int .i64 (k : Int) ∧ patAll s k = true ∧ w = wr)
 case atStart => exact ⟨0, by omega, by omega, rfl, rfl, rfl⟩
 case round =>
  obtain ⟨k, rfl, hk, rfl, hpa, rfl⟩ := hrel
  by_cases hlt : k < n
  ·have hlt2 : k < s.length := by rw [← HN.out]; exact hlt
   have HSU := Lib.hid (patAll_succ s k hlt2)
   have HFA := Lib.hid (patAll_false hlt2)
   have HC := Lib.hid (letter_calls s[k] w)
   have HSM := Lib.hid (smB_nat s[k])
   have HPC := Lib.hid (patC_nat s.length k s[k])
   rw [← HN.out] at HPC HFA HSU
   obtain ⟨bb, hbb⟩ : ∃ bb, letB s[k] = bb := ⟨_, rfl⟩
   obtain ⟨sm, hsm⟩ : ∃ sm, smB s[k] = sm := ⟨_, rfl⟩
   obtain ⟨pc, hpc⟩ : ∃ pc, patC n k s[k] = pc := ⟨_, rfl⟩
   rw [hbb, hsm] at HSM
   rw [hbb] at HC
   rw [hpc, hsm] at HPC
   rw [hpc] at HFA HSU
   have hix : (⟨s.toArray⟩ : ByteArray)[k]'(by rw [hz]; exact hlt) = s[k] := rfl
   clear hbb hsm hpc
   go_upto_region 5 with (fail)
   clear hix
   generalize s[k].toNat = c at *
   go_cut [5] from 14 to 24 (fun p wx => p = .bool sm ∧ w = wx)
   case first =>
    clear HPB HSU HFA HPC
    go_wp2_with fail
    refine HC.out.mono ?_
    rintro e w2 ⟨rfl, rfl⟩
    have h := HSM.out
    cases bb
    ·have e : sm = false := by rw [h]; rfl
     subst e
     clear h
     go_wp2_with fail
     go_meet
     exact ⟨rfl, rfl⟩
    ·by_cases h1 : (65 : Int) ≤ (c : Int)
     ·by_cases h2 : (c : Int) ≤ 90
      ·have e : sm = false := by rw [h]; simp; omega
       subst e
       clear h
       go_wp2_with fail
       go_meet
       exact ⟨by first | rfl | (simp; omega), rfl⟩
      ·have e : sm = true := by rw [h]; simp; omega
       subst e
       clear h
       go_wp2_with fail
       go_meet
       exact ⟨by first | rfl | (simp; omega), rfl⟩
     ·have e : sm = true := by rw [h]; simp; omega
      subst e
      clear h
      go_wp2_with fail
      go_meet
      exact ⟨by first | rfl | (simp; omega), rfl⟩
   case rest =>
    obtain ⟨rfl, rfl⟩ := hcut
    clear HC HSM
    go_upto_region 6 with (fail)
    go_cut [46] from 25 to 45 (fun p wx => p = .bool (!pc) ∧ w = wx)
    case first =>
     have h := HPC.out
     unfold patN at h
     clear HPB HSU HFA HPC
     cases sm with
     | true =>
      have e : pc = true := by rw [h]; rfl
      subst e
      clear h
      go_wp2_with fail
      go_meet
      exact ⟨by first | rfl | (simp; omega), rfl⟩
     | false =>
      by_cases h0 : k = 0
      ·subst h0
       have e : pc = false := by rw [h]; rfl
       subst e
       clear h
       go_wp2_with fail
       go_meet
       exact ⟨by first | rfl | (simp; omega), rfl⟩
      ·have h0i : ((k : Int) == 0) = false := by simp; omega
       have h0d : decide (k ≠ 0) = true := by simpa using h0
       by_cases h1 : c = 63
       ·subst h1
        have e : pc = true := by rw [h, h0d]; rfl
        subst e
        clear h h0d h0
        go_wp2_with fail
        go_meet
        exact ⟨rfl, rfl⟩
       ·have h1i : ((c : Int) == 63) = false := by simp; omega
        have h1n : ((c : Int) != 63) = true := by simp; omega
        by_cases h2 : c = 42
        ·subst h2
         by_cases h3 : k + 1 = n
         ·have e : pc = true := by rw [h, h0d]; simp [h3]
          have h3i : ((k : Int) == (n : Int) - 1) = true := by simp; omega
          subst e
          clear h h0d h0 h1 h3
          go_wp2_with fail
          go_meet
          exact ⟨rfl, rfl⟩
         ·have e : pc = false := by rw [h, h0d]; simp [h3]
          have h3i : ((k : Int) == (n : Int) - 1) = false := by simp; omega
          subst e
          clear h h0d h0 h1 h3
          go_wp2_with fail
          go_meet
          exact ⟨rfl, rfl⟩
        ·have h2i : ((c : Int) == 42) = false := by simp; omega
         have e : pc = false := by rw [h, h0d]; simp [h1, h2]
         subst e
         clear h h0d h0 h1 h2
         go_wp2_with fail
         go_meet
         exact ⟨rfl, rfl⟩
    case rest =>
     obtain ⟨rfl, rfl⟩ := hcut
     clear HPC
     cases pc with
     | true =>
      have HS2 : Hid (patAll s (k + 1) = true) := Lib.hid (by rw [HSU.out, hpa]; rfl)
      clear HPB HSU HFA hpa
      go_wp2_with fail
      go_roundg (n - (k + 1))
      case measure => omega
      case rel => exact ⟨k + 1, rfl, by omega, by simp, HS2.out, rfl⟩
     | false =>
      have HB : Hid (patB s = false) := Lib.hid (by rw [HPB.out, HFA.out rfl, Bool.and_false])
      clear HPB HSU HFA hpa
      go_wp2_with fail
      try simp only [Exit.inBlock, Exit.then]
      refine bodyPost_ret (v := .bool false) (by simp [results, Tryz.results179, go_sem]) rfl ?_
      exact BoolSame.of HB.out
  ·obtain rfl : k = n := by omega
   have e := HPB.out
   rw [hpa, Bool.and_true] at e
   have HB := Lib.hid e
   clear e HPB hpa
   go_wp2_with fail
   refine (in_calls _ _ _ _).mono ?_
   rintro e w' ⟨rfl, rfl⟩
   go_wp2_with fail
   go_ret
   refine BoolSame.of ?_
   rw [HB.out]
   cases hin : inB (k : Int) 1 40
   ·have := inB_false hin
    simp; omega
   ·have := inB_true hin
    simp; omega

end Go.Proofs.YtnfflgicngeekaaGreatDoor

/- Whether a pattern fits a word: the program, the reference. -/
namespace Go.Proofs.YtnfflgicngeekaaGreatDoor
set_option linter.unusedVariables false
set_option linter.unusedSimpArgs false
open Go.RowKit

theorem isPatternP_calls (w : World) (s : Str) (hs : s.length ≤ 1000000) : Calls Tryz.prog 179 #[.string ⟨s.toArray⟩] w (BoolPost w (patB s)) := (isPattern_calls w s hs).mono (fun e w' h => ⟨h.1, h.2 ▸ Mod.refl _ _⟩)
theorem fitN_succ {b x : Str} {k : Nat} (h : k < b.length) (hx : b.length ≤ x.length) : fitN b x (k + 1) = (fitN b x k && (b[k] == 63 || b[k] == x[k]'(by omega))) := by
 unfold fitN
 rw [List.range_succ, List.all_append]
 have hx2 : k < x.length := by omega
 simp [List.getD, h, hx2]
theorem fitN_false {b x : Str} {k : Nat} (h : k < b.length) (hx : b.length ≤ x.length) (hc : (b[k] == 63 || b[k] == x[k]'(by omega)) = false) : fitN b x b.length = false := by
 unfold fitN
 rw [List.all_eq_false]
 have hx2 : k < x.length := by omega
 refine ⟨k, List.mem_range.2 h, ?_⟩
 simpa [List.getD, h, hx2] using hc

set_option maxRecDepth 100000 in
set_option maxHeartbeats 8000000 in
theorem fits_calls (w : World) (p x : Str) (hp : p.length ≤ 1000000) (hx : x.length ≤ 1000000) : Calls Tryz.prog 153 #[.string ⟨p.toArray⟩, .string ⟨x.toArray⟩] w (BoolPost w (fitsB p x)) := by
 have HIP := Lib.hid (isPatternP_calls w p hp)
 have HCS := Lib.hid (fun W => cutSuffix_calls W p [42] (by omega))
 have HF : Hid (fitsB p x = (patB p && (decide ((patBody p).length ≤ x.length) && ((patOpen p || decide (x.length ≤ (patBody p).length)) && fitN (patBody p) x (patBody p).length)))) := Lib.hid rfl
 have hbl : (patBody p).length ≤ p.length := by
  unfold patBody Lib.trimSuffix
  split
  ·rw [List.length_take]; omega
  ·exact Nat.le_refl _
 have hzx : (⟨x.toArray⟩ : ByteArray).size = x.length := by simp [ByteArray.size]
 unfold patBody patOpen at HF
 unfold patBody at hbl
 generalize fitsB p x = r at *
 generalize patB p = pb at *
 generalize Lib.hasSuffix p [42] = op at *
 generalize Lib.trimSuffix p [42] = b at *
 have hzb : (⟨b.toArray⟩ : ByteArray).size = b.length := by simp [ByteArray.size]
 obtain ⟨n, hn⟩ : ∃ n, n = b.length := ⟨_, rfl⟩
 obtain ⟨m, hm⟩ : ∃ m, m = x.length := ⟨_, rfl⟩
 rw [← hn, ← hm] at HF
 rw [← hn] at hzb hbl
 rw [← hm] at hzx hx
 have HN := Lib.hid hn
 have HM := Lib.hid hm
 clear hn hm
 go_enter Tryz.func153, Tryz.ntmps153
 go_wp2_with fail
 refine HIP.out.mono ?_
 rintro e w1 ⟨rfl, hm0⟩
 have HM0 : Hid (Pure w w1) := Lib.hid hm0
 clear HIP hm0
 cases pb with
 | false =>
  have HR : Hid (r = false) := Lib.hid HF.out
  clear HF HCS
  go_wp2_with fail
  try simp only [Exit.inBlock, Exit.then]
  refine bodyPost_ret (v := .bool false) (by simp [results, Tryz.results153, go_sem]) rfl ?_
  rw [HR.out]
  exact ⟨rfl, HM0.out⟩
 | true =>
  go_wp2_with fail
  refine (HCS.out _).mono ?_
  rintro e w2 ⟨rfl, rfl⟩
  clear HCS
  obtain ⟨bad, hbad⟩ : ∃ bad, (decide (m < n) || (!op && decide (n < m))) = bad := ⟨_, rfl⟩
  have HF2 : Hid (r = (!bad && fitN b x n)) := Lib.hid (by
   rw [HF.out, ← hbad]
   rcases Nat.lt_trichotomy m n with h | h | h
   ·rw [decide_eq_false (show ¬ n ≤ m by omega), decide_eq_true h]
    rfl
   ·subst h
    simp
   ·rw [decide_eq_true (show n ≤ m by omega), decide_eq_false (show ¬ m < n by omega), decide_eq_true h, decide_eq_false (show ¬ m ≤ n by omega)]
    simp)
  have HBD := Lib.hid hbad
  clear HF hbad
  go_upto_region 4 with (fail)
  go_cut [31] from 16 to 30 (fun q wx => q = .bool bad ∧ w2 = wx)
  case first =>
   have h := HBD.out
   clear HF2
   rcases Nat.lt_trichotomy m n with h1 | h1 | h1
   ·have d1 : decide (m < n) = true := decide_eq_true h1
    have d1i : (m : Int) < (n : Int) := by omega
    rw [d1, Bool.true_or] at h
    subst h
    go_wp2_with fail
    go_meet
    exact ⟨by first | rfl | simp, rfl⟩
   ·subst h1
    rw [decide_eq_false (Nat.lt_irrefl m), Bool.and_false, Bool.or_false] at h
    subst h
    have d1 : decide (m < m) = false := decide_eq_false (Nat.lt_irrefl m)
    have d1i : ¬ (m : Int) < (m : Int) := by omega
    have d2 : ((m : Int) != (m : Int)) = false := by simp
    cases op
    ·go_wp2_with fail
     go_meet
     exact ⟨by first | rfl | simp, rfl⟩
    ·go_wp2_with fail
     go_meet
     exact ⟨by first | rfl | simp, rfl⟩
   ·have d1 : decide (m < n) = false := decide_eq_false (by omega)
    have d1i : ¬ (m : Int) < (n : Int) := by omega
    have d2 : decide (n < m) = true := decide_eq_true h1
    have d2i : (n : Int) < (m : Int) := by omega
    have d3 : ((m : Int) != (n : Int)) = true := by simp; omega
    rw [d1, d2, Bool.and_true, Bool.false_or] at h
    cases op
    ·obtain rfl : true = bad := h
     go_wp2_with fail
     go_meet
     exact ⟨by first | rfl | simp, rfl⟩
    ·obtain rfl : false = bad := h
     go_wp2_with fail
     go_meet
     exact ⟨by first | rfl | simp, rfl⟩
  case rest =>
   obtain ⟨rfl, rfl⟩ := hcut
   cases bad with
   | true =>
    have HR : Hid (r = false) := Lib.hid HF2.out
    clear HF2 HBD
    go_wp2_with fail
    try simp only [Exit.inBlock, Exit.then]
    refine bodyPost_ret (v := .bool false) (by simp [results, Tryz.results153, go_sem]) rfl ?_
    rw [HR.out]
    exact ⟨rfl, HM0.out⟩
   | false =>
    have hnm : n ≤ m := by
     have h := HBD.out
     rcases Nat.lt_or_ge m n with h1 | h1
     ·rw [decide_eq_true h1] at h; cases h
     ·exact h1
    have HF3 : Hid (r = fitN b x n) := Lib.hid HF2.out
    clear HF2 HBD
    go_wp2_with fail
    go_loopg [34] n (fun gk i wr => ∃ k : Nat, n - k = gk ∧ k ≤ n ∧ i = .int .i64 (k : Int) ∧ fitN b x k = true ∧ Pure w2 wr)
    case atStart => exact ⟨0, by omega, by omega, rfl, rfl, Mod.refl _ _⟩
    case round =>
     obtain ⟨k, rfl, hk, rfl, hpa, hm⟩ := hrel
     by_cases hlt : k < n
     ·have hltb : k < b.length := by rw [← HN.out]; exact hlt
      have hltx : k < x.length := by rw [← HM.out]; omega
      have HSU := Lib.hid (fitN_succ (x := x) hltb (by rw [← HN.out, ← HM.out]; exact hnm))
      have HFA := Lib.hid (fitN_false (x := x) hltb (by rw [← HN.out, ← HM.out]; exact hnm))
      have hix : (⟨b.toArray⟩ : ByteArray)[k]'(by rw [hzb]; exact hlt) = b[k] := rfl
      have hiy : (⟨x.toArray⟩ : ByteArray)[k]'(by rw [hzx]; omega) = x[k] := rfl
      have HP : Hid (Pure w2 wr) := Lib.hid hm
      have e1 : (b[k] == 63) = decide (b[k].toNat = 63) := u8_eqW _ 63 (by decide)
      have e2 : (b[k] == x[k]) = decide (b[k].toNat = x[k].toNat) := by
       rw [Bool.eq_iff_iff, beq_iff_eq, decide_eq_true_iff]
       exact UInt8.toNat_inj.symm
      rw [e1, e2] at HSU HFA
      rw [← HN.out] at HFA
      have hix2 : ((k : Nat) : Int) < (n : Int) := by omega
      have hbc := b[k].toNat_lt
      have hxc := x[k].toNat_lt
      clear hm e1 e2
      by_cases h63 : b[k].toNat = 63
      ·have h63i : ((b[k].toNat : Int) != 63) = false := by simp; omega
       have HS2 : Hid (fitN b x (k + 1) = true) := Lib.hid (by rw [HSU.out, hpa, decide_eq_true h63]; rfl)
       clear HF3 HSU HFA hpa h63
       go_upto_region 9 with (fail)
       go_quiet (fail)
       go_wp2_with fail
       go_roundg (n - (k + 1))
       case measure => omega
       case rel => exact ⟨k + 1, rfl, by omega, by simp, HS2.out, HP.out.drewN _⟩
      ·have h63i : ((b[k].toNat : Int) != 63) = true := by simp; omega
       by_cases hxe : b[k].toNat = x[k].toNat
       ·have hxi : ((b[k].toNat : Int) != (x[k].toNat : Int)) = false := by simp; omega
        have HS2 : Hid (fitN b x (k + 1) = true) := Lib.hid (by rw [HSU.out, hpa, decide_eq_true hxe, Bool.or_true]; rfl)
        clear HF3 HSU HFA hpa h63 hxe
        go_upto_region 9 with (fail)
        go_quiet (fail)
        go_wp2_with fail
        go_roundg (n - (k + 1))
        case measure => omega
        case rel => exact ⟨k + 1, rfl, by omega, by simp, HS2.out, HP.out.drewN _⟩
       ·have hxi : ((b[k].toNat : Int) != (x[k].toNat : Int)) = true := by simp; omega
        have HR : Hid (r = false) := Lib.hid (by rw [HF3.out]; exact HFA.out (by rw [decide_eq_false h63, decide_eq_false hxe]; rfl))
        clear HF3 HSU HFA hpa h63 hxe
        go_upto_region 9 with (fail)
        go_quiet (fail)
        go_wp2_with fail
        try simp only [Exit.inBlock, Exit.then]
        refine bodyPost_ret (v := .bool false) (by simp [results, Tryz.results153, go_sem]) rfl ?_
        rw [HR.out]
        exact ⟨rfl, HM0.out.trans (HP.out.drewN _)⟩
     ·obtain rfl : k = n := by omega
      have HR : Hid (r = true) := Lib.hid (HF3.out.trans hpa)
      have HP : Hid (Pure w2 wr) := Lib.hid hm
      clear HF3 hpa hm
      go_wp2_with fail
      go_ret
      rw [HR.out]
      exact ⟨rfl, HM0.out.trans HP.out⟩

end Go.Proofs.YtnfflgicngeekaaGreatDoor

/-
 DERIVED: THE SHELF's CONTRACTS AT THIS DUMP, IN PLAIN WORDS (tools/lay-plain.mjs out of 'YtnfflgicngeekaaGreatDoorLayWd.lean', which tools/lay-shelf.mjs wrote): THE SAME DECLARATIONS UNDER THE SAME NAMES: 'import', 'namespace', 'open', 'def', 'theorem' AND NOTHING ELSE: no command of the shelf's: FOR A HAND-IN. Each laying: the table of numbers ('.._ren') and one theorem, a field a fact of the dump's own or the kernel's comparison; each contract: ONE APPLICATION.
-/
namespace Go.Proofs
open Go.Shelf
end Go.Proofs

/- Words of the reference. -/
namespace Go.Proofs.YtnfflgicngeekaaGreatDoor
set_option linter.unusedVariables false
set_option linter.unusedSimpArgs false
open Go.RowKit Go.Shelf

def letS : Str := [97, 98, 99, 100, 101, 102, 103, 104, 105, 106, 107, 108, 109, 110, 111, 112, 113, 114, 115, 116, 117, 118, 119, 120, 121, 122, 48, 49, 50, 51, 52, 53, 54, 55, 56, 57, 65, 66, 67, 68, 69, 70, 71, 72, 73, 74, 75, 76, 77, 78, 79, 80, 81, 82, 83, 84, 85, 86, 87, 88, 89, 90]
theorem letB_idx (c : UInt8) : letB c = (decide (128 ≤ c.toNat) || decide (0 ≤ Lib.indexByte letS c)) := by
 have key : ∀ c : Fin 256, letB (UInt8.ofNat c.val) = (decide (128 ≤ (UInt8.ofNat c.val).toNat) || decide (0 ≤ Lib.indexByte letS (UInt8.ofNat c.val))) := by decide +kernel
 have h := key ⟨c.toNat, c.toNat_lt⟩
 simpa using h
set_option maxHeartbeats 4000000 in
theorem letterR_calls (c : UInt8) (w : World) : Calls Tryz.prog 161 #[.int .u8 (c.toNat : Int)] w (BoolSame w (letB c)) := by
 have HI := Lib.hid (Any.strings_IndexByte Tryz.lays137 ⟨letS.toArray⟩ (c.toNat : Int) w)
 have hc8 : ((c.toNat : Int).toNat).toUInt8 = c := by simp
 rw [hc8] at HI
 rw [letB_idx]
 rw [show (⟨letS.toArray⟩ : ByteArray).data.toList = letS from rfl] at HI
 have hcl : c.toNat < 256 := c.toNat_lt
 generalize Lib.indexByte letS c = z at *
 generalize c.toNat = n at *
 unfold letS at HI
 clear hc8
 by_cases h1 : (128 : Int) ≤ (n : Int)
 ·clear HI
  go_enter Tryz.func161, Tryz.ntmps161
  go_wp2_with fail
  go_ret
  exact BoolSame.of (by rw [decide_eq_true (show 128 ≤ n by omega)]; rfl)
 ·go_enter Tryz.func161, Tryz.ntmps161
  go_wp2_with fail
  refine HI.out.mono ?_
  rintro e w' ⟨rfl, rfl⟩
  go_wp2_with fail
  go_ret
  exact BoolSame.of (by rw [decide_eq_false (show ¬ 128 ≤ n by omega)]; rfl)
end Go.Proofs.YtnfflgicngeekaaGreatDoor

/- Patterns of the reference. -/
namespace Go.Proofs.YtnfflgicngeekaaGreatDoor
set_option linter.unusedVariables false
set_option linter.unusedSimpArgs false
open Go.RowKit

theorem smB_low (c : UInt8) : smB c = (letB c && lowB c == c) := by
 have key : ∀ c : Fin 256, smB (UInt8.ofNat c.val) = (letB (UInt8.ofNat c.val) && lowB (UInt8.ofNat c.val) == UInt8.ofNat c.val) := by decide +kernel
 have h := key ⟨c.toNat, c.toNat_lt⟩
 simpa using h
theorem smB_not (c : UInt8) (h : c.toNat = 63 ∨ c.toNat = 42) : smB c = false := by
 rw [smB_nat, letB_nat]
 rcases h with h | h <;> rw [h] <;> rfl
/-- A byte of a pattern, as the reference looks at it. -/
def patR (sm : Bool) (N i n : Nat) : Bool := (decide (n = 42) && decide (i + 1 = N)) || (decide (n = 63) || sm)
theorem patR_nat (N i : Nat) (c : UInt8) (h : i = 0 → c.toNat ≠ 63 ∧ c.toNat ≠ 42) : patC N i c = patR (smB c) N i c.toNat := by
 rw [patC_nat]
 unfold patN patR
 by_cases h0 : i = 0
 ·obtain ⟨h1, h2⟩ := h h0
  simp [h0, h1, h2]
 ·simp only [ne_eq, h0, not_false_eq_true, decide_true, Bool.true_and]
  cases smB c <;> cases decide (c.toNat = 63) <;> cases decide (c.toNat = 42) <;> cases decide (i + 1 = N) <;> rfl
theorem patAll_first {s : Str} (h : 0 < s.length) (hc : s[0].toNat = 63 ∨ s[0].toNat = 42) : patAll s s.length = false :=
 patAll_false h (by rw [patC_nat]; unfold patN; rw [smB_not _ hc]; rfl)

set_option maxRecDepth 100000 in
set_option maxHeartbeats 8000000 in
theorem patternIs_calls (w : World) (s : Str) (hs : s.length ≤ 1000000) : Calls Tryz.prog 166 #[.string ⟨s.toArray⟩] w (BoolPost w (patB s)) := by
 have hz : (⟨s.toArray⟩ : ByteArray).size = s.length := by simp [ByteArray.size]
 have HPB := Lib.hid (patB_all s)
 obtain ⟨n, hn⟩ : ∃ n, n = s.length := ⟨_, rfl⟩
 rw [← hn] at hz hs HPB
 have HN := Lib.hid hn
 clear hn
 obtain ⟨pb, hpb⟩ : ∃ pb, patB s = pb := ⟨_, rfl⟩
 rw [hpb] at HPB ⊢
 clear hpb
 go_enter Tryz.func166, Tryz.ntmps166
 go_wp2_with fail
 refine (rin_calls _ _ _ _).mono ?_
 rintro e w' ⟨rfl, rfl⟩
 by_cases hn1 : 1 ≤ n ∧ n ≤ 40
 rotate_left
 ·have hin : inB (n : Int) 1 40 = false := by
   cases h : inB (n : Int) 1 40
   ·rfl
   ·have := inB_true h
    omega
  rw [hin]
  have HR : Hid (pb = false) := Lib.hid (by rw [HPB.out, decide_eq_false hn1]; rfl)
  clear HPB hin
  go_wp2_with fail
  try simp only [Exit.inBlock, Exit.then]
  refine bodyPost_ret (v := .bool false) (by simp [results, Tryz.results166, go_sem]) rfl ?_
  rw [HR.out]
  exact ⟨rfl, Mod.refl _ _⟩
 have hin : inB (n : Int) 1 40 = true := by
  cases h : inB (n : Int) 1 40
  ·have := inB_false h
   omega
  ·rfl
 rw [hin]
 have hn0 : 0 < n := by omega
 have hlt0 : 0 < s.length := by rw [← HN.out]; exact hn0
 have hix0 : (⟨s.toArray⟩ : ByteArray)[0]'(by rw [hz]; exact hn0) = s[0] := rfl
 have HF0 := Lib.hid (fun h => patAll_first hlt0 h)
 have HPA : Hid (pb = patAll s n) := Lib.hid (by rw [HPB.out, decide_eq_true hn1]; rfl)
 obtain ⟨c0, hc0⟩ : ∃ c0, s[0].toNat = c0 := ⟨_, rfl⟩
 rw [hc0, ← HN.out] at HF0
 have HC0 := Lib.hid hc0
 clear HPB hin hc0
 by_cases h63 : c0 = 63
 ·have h63i : ((s[0].toNat : Int) == 63) = true := by have := HC0.out; simp; omega
  have HR : Hid (pb = false) := Lib.hid (by rw [HPA.out]; exact HF0.out (.inl h63))
  clear HPA HF0 h63
  go_wp2_with fail
  try simp only [Exit.inBlock, Exit.then]
  refine bodyPost_ret (v := .bool false) (by simp [results, Tryz.results166, go_sem]) rfl ?_
  rw [HR.out]
  exact ⟨rfl, Mod.refl _ _⟩
 have h63i : ((s[0].toNat : Int) == 63) = false := by have := HC0.out; simp; omega
 by_cases h42 : c0 = 42
 ·have h42i : ((s[0].toNat : Int) == 42) = true := by have := HC0.out; simp; omega
  have HR : Hid (pb = false) := Lib.hid (by rw [HPA.out]; exact HF0.out (.inr h42))
  clear HPA HF0 h42 h63
  go_wp2_with fail
  try simp only [Exit.inBlock, Exit.then]
  refine bodyPost_ret (v := .bool false) (by simp [results, Tryz.results166, go_sem]) rfl ?_
  rw [HR.out]
  exact ⟨rfl, Mod.refl _ _⟩
 have h42i : ((s[0].toNat : Int) == 42) = false := by have := HC0.out; simp; omega
 have HFST : Hid (∀ (k : Nat) (h : k < s.length), k = 0 → s[k].toNat ≠ 63 ∧ s[k].toNat ≠ 42) := Lib.hid (fun k h e => by subst e; have := HC0.out; omega)
 clear HF0 h63 h42 HC0
 go_wp2_with fail
 clear h63i h42i hix0
 go_loopg [21] n (fun gk i wr => ∃ k : Nat, n - k = gk ∧ k ≤ n ∧ i = .int .i64 (k : Int) ∧ patAll s k = true ∧ Pure w wr)
 case atStart => exact ⟨0, by omega, by omega, rfl, rfl, Mod.refl _ _⟩
 case round =>
  obtain ⟨k, rfl, hk, rfl, hpa, hm⟩ := hrel
  have HP : Hid (Pure w wr) := Lib.hid hm
  clear hm
  by_cases hlt : k < n
  ·have hlt2 : k < s.length := by rw [← HN.out]; exact hlt
   have HSU := Lib.hid (patAll_succ s k hlt2)
   have HFA := Lib.hid (patAll_false hlt2)
   have HPC := Lib.hid (patR_nat s.length k s[k] (HFST.out k hlt2))
   have hix : (⟨s.toArray⟩ : ByteArray)[k]'(by rw [hz]; exact hlt) = s[k] := rfl
   have hex : (⟨s.toArray⟩ : ByteArray).extract k (k + 1) = ⟨#[s[k]]⟩ := by
    rw [ext_sub]
    congr 1
    unfold subS
    rw [List.take_succ_eq_append_getElem hlt2, List.drop_append, List.drop_of_length_le (by rw [List.length_take]; omega), List.length_take, Nat.min_eq_left (by omega), Nat.sub_self]
    rfl
   rw [← HN.out] at HPC HFA HSU
   obtain ⟨cc, hcc⟩ : ∃ cc, s[k] = cc := ⟨_, rfl⟩
   rw [hcc] at HSU HFA HPC hix hex
   have HSM := Lib.hid (smB_low cc)
   have HLT : Hid (∀ W, Calls Tryz.prog 161 #[.int .u8 (cc.toNat : Int)] W (BoolPost W (letB cc))) := Lib.hid (fun W => (letterR_calls cc W).mono (fun e w' h => ⟨h.1, h.2 ▸ Mod.refl _ _⟩))
   have HSL : Hid (∀ W, Calls Tryz.prog 162 #[.string ⟨#[cc]⟩] W (fun e w' => e = .returned (.string ⟨#[lowB cc]⟩) ∧ Pure W w')) := Lib.hid (fun W => smallR_calls W [cc] (by simp))
   obtain ⟨pc, hpc⟩ : ∃ pc, patC n k cc = pc := ⟨_, rfl⟩
   obtain ⟨sm, hsm⟩ : ∃ sm, smB cc = sm := ⟨_, rfl⟩
   obtain ⟨lb, hlb⟩ : ∃ lb, letB cc = lb := ⟨_, rfl⟩
   obtain ⟨d, hd⟩ : ∃ d, lowB cc = d := ⟨_, rfl⟩
   obtain ⟨c, hc⟩ : ∃ c, cc.toNat = c := ⟨_, rfl⟩
   rw [hpc] at HSU HFA HPC
   rw [hsm] at HPC HSM
   rw [hlb] at HSM HLT
   rw [hd] at HSM HSL
   rw [hc] at HPC HLT
   have hcb : c < 256 := by rw [← hc]; exact cc.toNat_lt
   clear hcc hpc hsm hlb hd HFST
   have h := HPC.out
   unfold patR at h
   have YES : Hid (pc = true → patAll s (k + 1) = true) := Lib.hid (fun h => by rw [HSU.out, hpa, h]; rfl)
   have NO : Hid (pc = false → pb = false) := Lib.hid (fun h => by rw [HPA.out]; exact HFA.out h)
   clear HPC HSU HFA hpa HPA
   by_cases h63 : c = 63
   ·have h63i : ((c : Int) != 63) = false := by simp; omega
    have h42i : ((c : Int) == 42) = false := by simp; omega
    have e : pc = true := by rw [h, decide_eq_true h63, Bool.true_or, Bool.or_true]
    have HS2 := Lib.hid (YES.out e)
    clear YES NO h HSM h63
    go_upto_region 7 with (fail)
    have HGs := Lib.hid (show ∀ (D : Nat → Bool) (zzi : Nat) (zq zq' : World), (fun _ zq => (fun Z => ∃ hz : Nat, hz = Z.heap.size) zq) D zq → Mod (fun _ => False) zq zq' → (fun _ zq => (fun Z => ∃ hz : Nat, hz = Z.heap.size) zq) (upd D zzi true) zq' from by intro D zzi zq zq' h hm; (exact ⟨_, rfl⟩))
    refine wp_region_inv (by kernel_rfl) (by kernel_rfl) (InvF (R := Mod (fun _ => False)) [.is (.bool false),
      .is (.bool true),
      .is (.bool true),
      .is (.string ⟨s.toArray⟩),
      .is (.int .i64 (k : Int)),
      .is (.int .u8 (c : Int)),
      .is (.bool false),
      .is (.bool false),
      .is (.bool false),
      .is (undef),
      .is (undef),
      .is (undef),
      .is (undef),
      .is (undef),
      .is (undef),
      .is (undef),
      .is (undef),
      .is (undef),
      .is (undef),
      .is (undef),
      .is (undef),
      .is (undef),
      .is (undef),
      .is (undef),
      .is (undef),
      .is (undef),
      .is (undef),
      .is (undef),
      .is (.bool false)]
      (PB wr (fun _ => False) wr.heap.size (fun _ zq => (fun Z => ∃ hz : Nat, hz = Z.heap.size) zq))) (InvF.start (PB.start (Mod.refl _ _) (Nat.le_refl _) (⟨_, rfl⟩))) ?_ ?_
    ·refine .cons ?_ (.cons ?_ (.cons ?_ (.cons ?_ (.cons ?_ (.cons ?_ (.cons ?_ (.cons ?_ (.cons ?_ (.cons ?_ (.cons ?_ (.cons ?_ (.cons ?_ (.cons ?_ (.cons ?_ (.cons ?_ (.cons ?_ (.cons ?_ (.cons ?_ (.cons ?_ (.cons ?_ (.cons ?_ (.cons ?_ (.cons ?_ (.cons ?_ (.cons ?_ (.cons ?_ (.cons ?_ (.cons ?_ .nil))))))))))))))))))))))))))))
     ·intro D V zw1 a hR hI K hK
      obtain ⟨hM1, hB1, hG1⟩ := hI.1
      have ze4 := hR.frame.other (t := 4) (by kernel_rfl) rfl
      rw [if_pos (by rfl)]
      go_simp
      exact hK (.bool false) _ (hI.next hR (by kernel_rfl) (Mod.refl _ _) (PB.quiet hI.1 (Mod.refl _ _) (HGs.out D 0 zw1 zw1 (hI.1).g (Mod.refl _ _))) (upd_same V 0 _))
     ·intro D V zw1 a hR hI K hK
      obtain ⟨hM1, hB1, hG1⟩ := hI.1
      have zd0 := hR.pred 0 (by kernel_rfl)
      have zF0 : V 0 = .bool false := hI.2 0 zd0 rfl
      have zf0 := zF0; clear zF0
      have ze35 := hR.frame.done (t := 35) (j := 0) (by kernel_rfl) hR.ok zd0
      rw [if_pos (by rfl)]
      go_simp
      exact hK (.bool true) _ (hI.next hR (by kernel_rfl) (Mod.refl _ _) (PB.quiet hI.1 (Mod.refl _ _) (HGs.out D 1 zw1 zw1 (hI.1).g (Mod.refl _ _))) (upd_same V 1 _))
     ·intro D V zw1 a hR hI K hK
      obtain ⟨hM1, hB1, hG1⟩ := hI.1
      have zd1 := hR.pred 1 (by kernel_rfl)
      have zF1 : V 1 = .bool true := hI.2 1 zd1 rfl
      have zf1 := zF1; clear zF1
      have ze36 := hR.frame.done (t := 36) (j := 1) (by kernel_rfl) hR.ok zd1
      rw [if_pos (by rfl)]
      go_simp
      exact hK (.bool true) _ (hI.next hR (by kernel_rfl) (Mod.refl _ _) (PB.quiet hI.1 (Mod.refl _ _) (HGs.out D 2 zw1 zw1 (hI.1).g (Mod.refl _ _))) (upd_same V 2 _))
     ·intro D V zw1 a hR hI K hK
      obtain ⟨hM1, hB1, hG1⟩ := hI.1
      have zd2 := hR.pred 2 (by kernel_rfl)
      have zF2 : V 2 = .bool true := hI.2 2 zd2 rfl
      have zf2 := zF2; clear zF2
      have ze0 := hR.frame.other (t := 0) (by kernel_rfl) rfl
      have ze37 := hR.frame.done (t := 37) (j := 2) (by kernel_rfl) hR.ok zd2
      rw [if_pos (by simp [Region.wanted, yielded, ze37, zf2])]
      go_simp
      exact hK (.string ⟨s.toArray⟩) _ (hI.next hR (by kernel_rfl) (Mod.refl _ _) (PB.quiet hI.1 (Mod.refl _ _) (HGs.out D 3 zw1 zw1 (hI.1).g (Mod.refl _ _))) (upd_same V 3 _))
     ·intro D V zw1 a hR hI K hK
      obtain ⟨hM1, hB1, hG1⟩ := hI.1
      have zd2 := hR.pred 2 (by kernel_rfl)
      have zF2 : V 2 = .bool true := hI.2 2 zd2 rfl
      have zf2 := zF2; clear zF2
      have ze3 := hR.frame.other (t := 3) (by kernel_rfl) rfl
      have ze37 := hR.frame.done (t := 37) (j := 2) (by kernel_rfl) hR.ok zd2
      rw [if_pos (by simp [Region.wanted, yielded, ze37, zf2])]
      go_simp
      exact hK (.int .i64 (k : Int)) _ (hI.next hR (by kernel_rfl) (Mod.refl _ _) (PB.quiet hI.1 (Mod.refl _ _) (HGs.out D 4 zw1 zw1 (hI.1).g (Mod.refl _ _))) (upd_same V 4 _))
     ·intro D V zw1 a hR hI K hK
      obtain ⟨hM1, hB1, hG1⟩ := hI.1
      have zd3 := hR.pred 3 (by kernel_rfl)
      have zF3 : V 3 = .string ⟨s.toArray⟩ := hI.2 3 zd3 rfl
      have zf3 := zF3; clear zF3
      have zd4 := hR.pred 4 (by kernel_rfl)
      have zF4 : V 4 = .int .i64 (k : Int) := hI.2 4 zd4 rfl
      have zf4 := zF4; clear zF4
      have zd2 := hR.pred 2 (by kernel_rfl)
      have zF2 : V 2 = .bool true := hI.2 2 zd2 rfl
      have zf2 := zF2; clear zF2
      have ze38 := hR.frame.done (t := 38) (j := 3) (by kernel_rfl) hR.ok zd3
      have ze39 := hR.frame.done (t := 39) (j := 4) (by kernel_rfl) hR.ok zd4
      have ze37 := hR.frame.done (t := 37) (j := 2) (by kernel_rfl) hR.ok zd2
      rw [if_pos (by simp [Region.wanted, yielded, ze37, zf2])]
      go_simp
      exact hK (.int .u8 (c : Int)) _ (hI.next hR (by kernel_rfl) (Mod.refl _ _) (PB.quiet hI.1 (Mod.refl _ _) (HGs.out D 5 zw1 zw1 (hI.1).g (Mod.refl _ _))) (upd_same V 5 _))
     ·intro D V zw1 a hR hI K hK
      obtain ⟨hM1, hB1, hG1⟩ := hI.1
      have zd5 := hR.pred 5 (by kernel_rfl)
      have zF5 : V 5 = .int .u8 (c : Int) := hI.2 5 zd5 rfl
      have zf5 := zF5; clear zF5
      have zd2 := hR.pred 2 (by kernel_rfl)
      have zF2 : V 2 = .bool true := hI.2 2 zd2 rfl
      have zf2 := zF2; clear zF2
      have ze40 := hR.frame.done (t := 40) (j := 5) (by kernel_rfl) hR.ok zd5
      have ze37 := hR.frame.done (t := 37) (j := 2) (by kernel_rfl) hR.ok zd2
      rw [if_pos (by simp [Region.wanted, yielded, ze37, zf2])]
      go_simp
      exact hK (.bool false) _ (hI.next hR (by kernel_rfl) (Mod.refl _ _) (PB.quiet hI.1 (Mod.refl _ _) (HGs.out D 6 zw1 zw1 (hI.1).g (Mod.refl _ _))) (upd_same V 6 _))
     ·intro D V zw1 a hR hI K hK
      obtain ⟨hM1, hB1, hG1⟩ := hI.1
      have zd2 := hR.pred 2 (by kernel_rfl)
      have zF2 : V 2 = .bool true := hI.2 2 zd2 rfl
      have zf2 := zF2; clear zF2
      have zd6 := hR.pred 6 (by kernel_rfl)
      have zF6 : V 6 = .bool false := hI.2 6 zd6 rfl
      have zf6 := zF6; clear zF6
      have ze37 := hR.frame.done (t := 37) (j := 2) (by kernel_rfl) hR.ok zd2
      have ze41 := hR.frame.done (t := 41) (j := 6) (by kernel_rfl) hR.ok zd6
      rw [if_pos (by rfl)]
      go_simp
      exact hK (.bool false) _ (hI.next hR (by kernel_rfl) (Mod.refl _ _) (PB.quiet hI.1 (Mod.refl _ _) (HGs.out D 7 zw1 zw1 (hI.1).g (Mod.refl _ _))) (upd_same V 7 _))
     ·intro D V zw1 a hR hI K hK
      obtain ⟨hM1, hB1, hG1⟩ := hI.1
      have zd7 := hR.pred 7 (by kernel_rfl)
      have zF7 : V 7 = .bool false := hI.2 7 zd7 rfl
      have zf7 := zF7; clear zF7
      have ze42 := hR.frame.done (t := 42) (j := 7) (by kernel_rfl) hR.ok zd7
      rw [if_pos (by rfl)]
      go_simp
      exact hK (.bool false) _ (hI.next hR (by kernel_rfl) (Mod.refl _ _) (PB.quiet hI.1 (Mod.refl _ _) (HGs.out D 8 zw1 zw1 (hI.1).g (Mod.refl _ _))) (upd_same V 8 _))
     ·intro D V zw1 a hR hI K hK
      obtain ⟨hM1, hB1, hG1⟩ := hI.1
      have zd8 := hR.pred 8 (by kernel_rfl)
      have zF8 : V 8 = .bool false := hI.2 8 zd8 rfl
      have zf8 := zF8; clear zF8
      have ze43 := hR.frame.done (t := 43) (j := 8) (by kernel_rfl) hR.ok zd8
      rw [if_neg (by simp [Region.wanted, yielded, ze43, zf8])]
      exact hK undef _ (hI.next hR (by kernel_rfl) (Mod.refl _ _) (PB.quiet hI.1 (Mod.refl _ _) (HGs.out D 9 zw1 zw1 (hI.1).g (Mod.refl _ _))) (upd_same V 9 _))
     ·intro D V zw1 a hR hI K hK
      obtain ⟨hM1, hB1, hG1⟩ := hI.1
      have zd8 := hR.pred 8 (by kernel_rfl)
      have zF8 : V 8 = .bool false := hI.2 8 zd8 rfl
      have zf8 := zF8; clear zF8
      have ze43 := hR.frame.done (t := 43) (j := 8) (by kernel_rfl) hR.ok zd8
      rw [if_neg (by simp [Region.wanted, yielded, ze43, zf8])]
      exact hK undef _ (hI.next hR (by kernel_rfl) (Mod.refl _ _) (PB.quiet hI.1 (Mod.refl _ _) (HGs.out D 10 zw1 zw1 (hI.1).g (Mod.refl _ _))) (upd_same V 10 _))
     ·intro D V zw1 a hR hI K hK
      obtain ⟨hM1, hB1, hG1⟩ := hI.1
      have zd8 := hR.pred 8 (by kernel_rfl)
      have zF8 : V 8 = .bool false := hI.2 8 zd8 rfl
      have zf8 := zF8; clear zF8
      have ze43 := hR.frame.done (t := 43) (j := 8) (by kernel_rfl) hR.ok zd8
      rw [if_neg (by simp [Region.wanted, yielded, ze43, zf8])]
      exact hK undef _ (hI.next hR (by kernel_rfl) (Mod.refl _ _) (PB.quiet hI.1 (Mod.refl _ _) (HGs.out D 11 zw1 zw1 (hI.1).g (Mod.refl _ _))) (upd_same V 11 _))
     ·intro D V zw1 a hR hI K hK
      obtain ⟨hM1, hB1, hG1⟩ := hI.1
      have zd8 := hR.pred 8 (by kernel_rfl)
      have zF8 : V 8 = .bool false := hI.2 8 zd8 rfl
      have zf8 := zF8; clear zF8
      have ze43 := hR.frame.done (t := 43) (j := 8) (by kernel_rfl) hR.ok zd8
      rw [if_neg (by simp [Region.wanted, yielded, ze43, zf8])]
      exact hK undef _ (hI.next hR (by kernel_rfl) (Mod.refl _ _) (PB.quiet hI.1 (Mod.refl _ _) (HGs.out D 12 zw1 zw1 (hI.1).g (Mod.refl _ _))) (upd_same V 12 _))
     ·intro D V zw1 a hR hI K hK
      obtain ⟨hM1, hB1, hG1⟩ := hI.1
      have zd8 := hR.pred 8 (by kernel_rfl)
      have zF8 : V 8 = .bool false := hI.2 8 zd8 rfl
      have zf8 := zF8; clear zF8
      have ze43 := hR.frame.done (t := 43) (j := 8) (by kernel_rfl) hR.ok zd8
      rw [if_neg (by simp [Region.wanted, yielded, ze43, zf8])]
      exact hK undef _ (hI.next hR (by kernel_rfl) (Mod.refl _ _) (PB.quiet hI.1 (Mod.refl _ _) (HGs.out D 13 zw1 zw1 (hI.1).g (Mod.refl _ _))) (upd_same V 13 _))
     ·intro D V zw1 a hR hI K hK
      obtain ⟨hM1, hB1, hG1⟩ := hI.1
      have zd8 := hR.pred 8 (by kernel_rfl)
      have zF8 : V 8 = .bool false := hI.2 8 zd8 rfl
      have zf8 := zF8; clear zF8
      have ze43 := hR.frame.done (t := 43) (j := 8) (by kernel_rfl) hR.ok zd8
      rw [if_neg (by simp [Region.wanted, yielded, ze43, zf8])]
      exact hK undef _ (hI.next hR (by kernel_rfl) (Mod.refl _ _) (PB.quiet hI.1 (Mod.refl _ _) (HGs.out D 14 zw1 zw1 (hI.1).g (Mod.refl _ _))) (upd_same V 14 _))
     ·intro D V zw1 a hR hI K hK
      obtain ⟨hM1, hB1, hG1⟩ := hI.1
      have zd14 := hR.pred 14 (by kernel_rfl)
      have zF14 : V 14 = undef := hI.2 14 zd14 rfl
      have zf14 := zF14; clear zF14
      have ze49 := hR.frame.done (t := 49) (j := 14) (by kernel_rfl) hR.ok zd14
      rw [if_neg (by simp [Region.wanted, yielded, ze49, zf14, undef])]
      exact hK undef _ (hI.next hR (by kernel_rfl) (Mod.refl _ _) (PB.quiet hI.1 (Mod.refl _ _) (HGs.out D 15 zw1 zw1 (hI.1).g (Mod.refl _ _))) (upd_same V 15 _))
     ·intro D V zw1 a hR hI K hK
      obtain ⟨hM1, hB1, hG1⟩ := hI.1
      have zd14 := hR.pred 14 (by kernel_rfl)
      have zF14 : V 14 = undef := hI.2 14 zd14 rfl
      have zf14 := zF14; clear zF14
      have ze49 := hR.frame.done (t := 49) (j := 14) (by kernel_rfl) hR.ok zd14
      rw [if_neg (by simp [Region.wanted, yielded, ze49, zf14, undef])]
      exact hK undef _ (hI.next hR (by kernel_rfl) (Mod.refl _ _) (PB.quiet hI.1 (Mod.refl _ _) (HGs.out D 16 zw1 zw1 (hI.1).g (Mod.refl _ _))) (upd_same V 16 _))
     ·intro D V zw1 a hR hI K hK
      obtain ⟨hM1, hB1, hG1⟩ := hI.1
      have zd14 := hR.pred 14 (by kernel_rfl)
      have zF14 : V 14 = undef := hI.2 14 zd14 rfl
      have zf14 := zF14; clear zF14
      have ze49 := hR.frame.done (t := 49) (j := 14) (by kernel_rfl) hR.ok zd14
      rw [if_neg (by simp [Region.wanted, yielded, ze49, zf14, undef])]
      exact hK undef _ (hI.next hR (by kernel_rfl) (Mod.refl _ _) (PB.quiet hI.1 (Mod.refl _ _) (HGs.out D 17 zw1 zw1 (hI.1).g (Mod.refl _ _))) (upd_same V 17 _))
     ·intro D V zw1 a hR hI K hK
      obtain ⟨hM1, hB1, hG1⟩ := hI.1
      have zd14 := hR.pred 14 (by kernel_rfl)
      have zF14 : V 14 = undef := hI.2 14 zd14 rfl
      have zf14 := zF14; clear zF14
      have ze49 := hR.frame.done (t := 49) (j := 14) (by kernel_rfl) hR.ok zd14
      rw [if_neg (by simp [Region.wanted, yielded, ze49, zf14, undef])]
      exact hK undef _ (hI.next hR (by kernel_rfl) (Mod.refl _ _) (PB.quiet hI.1 (Mod.refl _ _) (HGs.out D 18 zw1 zw1 (hI.1).g (Mod.refl _ _))) (upd_same V 18 _))
     ·intro D V zw1 a hR hI K hK
      obtain ⟨hM1, hB1, hG1⟩ := hI.1
      have zd14 := hR.pred 14 (by kernel_rfl)
      have zF14 : V 14 = undef := hI.2 14 zd14 rfl
      have zf14 := zF14; clear zF14
      have ze49 := hR.frame.done (t := 49) (j := 14) (by kernel_rfl) hR.ok zd14
      rw [if_neg (by simp [Region.wanted, yielded, ze49, zf14, undef])]
      exact hK undef _ (hI.next hR (by kernel_rfl) (Mod.refl _ _) (PB.quiet hI.1 (Mod.refl _ _) (HGs.out D 19 zw1 zw1 (hI.1).g (Mod.refl _ _))) (upd_same V 19 _))
     ·intro D V zw1 a hR hI K hK
      obtain ⟨hM1, hB1, hG1⟩ := hI.1
      have zd14 := hR.pred 14 (by kernel_rfl)
      have zF14 : V 14 = undef := hI.2 14 zd14 rfl
      have zf14 := zF14; clear zF14
      have ze49 := hR.frame.done (t := 49) (j := 14) (by kernel_rfl) hR.ok zd14
      rw [if_neg (by simp [Region.wanted, yielded, ze49, zf14, undef])]
      exact hK undef _ (hI.next hR (by kernel_rfl) (Mod.refl _ _) (PB.quiet hI.1 (Mod.refl _ _) (HGs.out D 20 zw1 zw1 (hI.1).g (Mod.refl _ _))) (upd_same V 20 _))
     ·intro D V zw1 a hR hI K hK
      obtain ⟨hM1, hB1, hG1⟩ := hI.1
      have zd14 := hR.pred 14 (by kernel_rfl)
      have zF14 : V 14 = undef := hI.2 14 zd14 rfl
      have zf14 := zF14; clear zF14
      have ze49 := hR.frame.done (t := 49) (j := 14) (by kernel_rfl) hR.ok zd14
      rw [if_neg (by simp [Region.wanted, yielded, ze49, zf14, undef])]
      exact hK undef _ (hI.next hR (by kernel_rfl) (Mod.refl _ _) (PB.quiet hI.1 (Mod.refl _ _) (HGs.out D 21 zw1 zw1 (hI.1).g (Mod.refl _ _))) (upd_same V 21 _))
     ·intro D V zw1 a hR hI K hK
      obtain ⟨hM1, hB1, hG1⟩ := hI.1
      have zd14 := hR.pred 14 (by kernel_rfl)
      have zF14 : V 14 = undef := hI.2 14 zd14 rfl
      have zf14 := zF14; clear zF14
      have ze49 := hR.frame.done (t := 49) (j := 14) (by kernel_rfl) hR.ok zd14
      rw [if_neg (by simp [Region.wanted, yielded, ze49, zf14, undef])]
      exact hK undef _ (hI.next hR (by kernel_rfl) (Mod.refl _ _) (PB.quiet hI.1 (Mod.refl _ _) (HGs.out D 22 zw1 zw1 (hI.1).g (Mod.refl _ _))) (upd_same V 22 _))
     ·intro D V zw1 a hR hI K hK
      obtain ⟨hM1, hB1, hG1⟩ := hI.1
      have zd14 := hR.pred 14 (by kernel_rfl)
      have zF14 : V 14 = undef := hI.2 14 zd14 rfl
      have zf14 := zF14; clear zF14
      have ze49 := hR.frame.done (t := 49) (j := 14) (by kernel_rfl) hR.ok zd14
      rw [if_neg (by simp [Region.wanted, yielded, ze49, zf14, undef])]
      exact hK undef _ (hI.next hR (by kernel_rfl) (Mod.refl _ _) (PB.quiet hI.1 (Mod.refl _ _) (HGs.out D 23 zw1 zw1 (hI.1).g (Mod.refl _ _))) (upd_same V 23 _))
     ·intro D V zw1 a hR hI K hK
      obtain ⟨hM1, hB1, hG1⟩ := hI.1
      have zd14 := hR.pred 14 (by kernel_rfl)
      have zF14 : V 14 = undef := hI.2 14 zd14 rfl
      have zf14 := zF14; clear zF14
      have ze49 := hR.frame.done (t := 49) (j := 14) (by kernel_rfl) hR.ok zd14
      rw [if_neg (by simp [Region.wanted, yielded, ze49, zf14, undef])]
      exact hK undef _ (hI.next hR (by kernel_rfl) (Mod.refl _ _) (PB.quiet hI.1 (Mod.refl _ _) (HGs.out D 24 zw1 zw1 (hI.1).g (Mod.refl _ _))) (upd_same V 24 _))
     ·intro D V zw1 a hR hI K hK
      obtain ⟨hM1, hB1, hG1⟩ := hI.1
      have zd14 := hR.pred 14 (by kernel_rfl)
      have zF14 : V 14 = undef := hI.2 14 zd14 rfl
      have zf14 := zF14; clear zF14
      have ze49 := hR.frame.done (t := 49) (j := 14) (by kernel_rfl) hR.ok zd14
      rw [if_neg (by simp [Region.wanted, yielded, ze49, zf14, undef])]
      exact hK undef _ (hI.next hR (by kernel_rfl) (Mod.refl _ _) (PB.quiet hI.1 (Mod.refl _ _) (HGs.out D 25 zw1 zw1 (hI.1).g (Mod.refl _ _))) (upd_same V 25 _))
     ·intro D V zw1 a hR hI K hK
      obtain ⟨hM1, hB1, hG1⟩ := hI.1
      have zd14 := hR.pred 14 (by kernel_rfl)
      have zF14 : V 14 = undef := hI.2 14 zd14 rfl
      have zf14 := zF14; clear zF14
      have ze49 := hR.frame.done (t := 49) (j := 14) (by kernel_rfl) hR.ok zd14
      rw [if_neg (by simp [Region.wanted, yielded, ze49, zf14, undef])]
      exact hK undef _ (hI.next hR (by kernel_rfl) (Mod.refl _ _) (PB.quiet hI.1 (Mod.refl _ _) (HGs.out D 26 zw1 zw1 (hI.1).g (Mod.refl _ _))) (upd_same V 26 _))
     ·intro D V zw1 a hR hI K hK
      obtain ⟨hM1, hB1, hG1⟩ := hI.1
      have zd8 := hR.pred 8 (by kernel_rfl)
      have zF8 : V 8 = .bool false := hI.2 8 zd8 rfl
      have zf8 := zF8; clear zF8
      have ze43 := hR.frame.done (t := 43) (j := 8) (by kernel_rfl) hR.ok zd8
      rw [if_neg (by simp [Region.wanted, yielded, ze43, zf8])]
      exact hK undef _ (hI.next hR (by kernel_rfl) (Mod.refl _ _) (PB.quiet hI.1 (Mod.refl _ _) (HGs.out D 27 zw1 zw1 (hI.1).g (Mod.refl _ _))) (upd_same V 27 _))
     ·intro D V zw1 a hR hI K hK
      obtain ⟨hM1, hB1, hG1⟩ := hI.1
      have zd8 := hR.pred 8 (by kernel_rfl)
      have zF8 : V 8 = .bool false := hI.2 8 zd8 rfl
      have zf8 := zF8; clear zF8
      have zd27 := hR.pred 27 (by kernel_rfl)
      have zF27 : V 27 = undef := hI.2 27 zd27 rfl
      have zf27 := zF27; clear zF27
      have ze43 := hR.frame.done (t := 43) (j := 8) (by kernel_rfl) hR.ok zd8
      have ze62 := hR.frame.done (t := 62) (j := 27) (by kernel_rfl) hR.ok zd27
      rw [if_pos (by rfl)]
      go_simp
      exact hK (.bool false) _ (hI.next hR (by kernel_rfl) (Mod.refl _ _) (PB.quiet hI.1 (Mod.refl _ _) (HGs.out D 28 zw1 zw1 (hI.1).g (Mod.refl _ _))) (upd_same V 28 _))
    ·intro D V w9 hD hI
     obtain ⟨hM1, hB1, hG1⟩ := hI.1
     have hMx := hM1
     clear hM1
     have hBx := hB1
     clear hB1
     have hGx := hG1
     clear hG1
     have zF0 : V 0 = .bool false := hI.2 0 (hD 0 (by decide)) rfl
     have zf0 := zF0; clear zF0
     have zF1 : V 1 = .bool true := hI.2 1 (hD 1 (by decide)) rfl
     have zf1 := zF1; clear zF1
     have zF2 : V 2 = .bool true := hI.2 2 (hD 2 (by decide)) rfl
     have zf2 := zF2; clear zF2
     have zF3 : V 3 = .string ⟨s.toArray⟩ := hI.2 3 (hD 3 (by decide)) rfl
     have zf3 := zF3; clear zF3
     have zF4 : V 4 = .int .i64 (k : Int) := hI.2 4 (hD 4 (by decide)) rfl
     have zf4 := zF4; clear zF4
     have zF5 : V 5 = .int .u8 (c : Int) := hI.2 5 (hD 5 (by decide)) rfl
     have zf5 := zF5; clear zF5
     have zF6 : V 6 = .bool false := hI.2 6 (hD 6 (by decide)) rfl
     have zf6 := zF6; clear zF6
     have zF7 : V 7 = .bool false := hI.2 7 (hD 7 (by decide)) rfl
     have zf7 := zF7; clear zF7
     have zF8 : V 8 = .bool false := hI.2 8 (hD 8 (by decide)) rfl
     have zf8 := zF8; clear zF8
     have zF9 : V 9 = undef := hI.2 9 (hD 9 (by decide)) rfl
     have zf9 := zF9; clear zF9
     have zF10 : V 10 = undef := hI.2 10 (hD 10 (by decide)) rfl
     have zf10 := zF10; clear zF10
     have zF11 : V 11 = undef := hI.2 11 (hD 11 (by decide)) rfl
     have zf11 := zF11; clear zF11
     have zF12 : V 12 = undef := hI.2 12 (hD 12 (by decide)) rfl
     have zf12 := zF12; clear zF12
     have zF13 : V 13 = undef := hI.2 13 (hD 13 (by decide)) rfl
     have zf13 := zF13; clear zF13
     have zF14 : V 14 = undef := hI.2 14 (hD 14 (by decide)) rfl
     have zf14 := zF14; clear zF14
     have zF15 : V 15 = undef := hI.2 15 (hD 15 (by decide)) rfl
     have zf15 := zF15; clear zF15
     have zF16 : V 16 = undef := hI.2 16 (hD 16 (by decide)) rfl
     have zf16 := zF16; clear zF16
     have zF17 : V 17 = undef := hI.2 17 (hD 17 (by decide)) rfl
     have zf17 := zF17; clear zF17
     have zF18 : V 18 = undef := hI.2 18 (hD 18 (by decide)) rfl
     have zf18 := zF18; clear zF18
     have zF19 : V 19 = undef := hI.2 19 (hD 19 (by decide)) rfl
     have zf19 := zF19; clear zF19
     have zF20 : V 20 = undef := hI.2 20 (hD 20 (by decide)) rfl
     have zf20 := zF20; clear zF20
     have zF21 : V 21 = undef := hI.2 21 (hD 21 (by decide)) rfl
     have zf21 := zF21; clear zF21
     have zF22 : V 22 = undef := hI.2 22 (hD 22 (by decide)) rfl
     have zf22 := zF22; clear zF22
     have zF23 : V 23 = undef := hI.2 23 (hD 23 (by decide)) rfl
     have zf23 := zF23; clear zF23
     have zF24 : V 24 = undef := hI.2 24 (hD 24 (by decide)) rfl
     have zf24 := zF24; clear zF24
     have zF25 : V 25 = undef := hI.2 25 (hD 25 (by decide)) rfl
     have zf25 := zF25; clear zF25
     have zF26 : V 26 = undef := hI.2 26 (hD 26 (by decide)) rfl
     have zf26 := zF26; clear zF26
     have zF27 : V 27 = undef := hI.2 27 (hD 27 (by decide)) rfl
     have zf27 := zF27; clear zF27
     have zF28 : V 28 = .bool false := hI.2 28 (hD 28 (by decide)) rfl
     have zf28 := zF28; clear zF28
     clear hI hD HGs
     simp only [frAll, Act.put, List.setIfInBounds_toArray, List.set_cons_zero, List.set_cons_succ, Nat.zero_add, Nat.reduceAdd, zf0, zf1, zf2, zf3, zf4, zf5, zf6, zf7, zf8, zf9, zf10, zf11, zf12, zf13, zf14, zf15, zf16, zf17, zf18, zf19, zf20, zf21, zf22, zf23, zf24, zf25, zf26, zf27, zf28]
     clear zf0 zf1 zf2 zf3 zf4 zf5 zf6 zf7 zf8 zf9 zf10 zf11 zf12 zf13 zf14 zf15 zf16 zf17 zf18 zf19 zf20 zf21 zf22 zf23 zf24 zf25 zf26 zf27 zf28
     clear V D
     have HP2 : Hid (Pure w w9) := Lib.hid (HP.out.trans hMx)
     clear hGx hMx hBx
     go_wp2_with fail
     go_roundg (n - (k + 1))
     case measure => omega
     case rel => exact ⟨k + 1, rfl, by omega, by simp, HS2.out, HP2.out⟩
   have h63i : ((c : Int) != 63) = true := by simp; omega
   by_cases hst : c = 42 ∧ k + 1 = n
   ·have h42i : ((c : Int) == 42) = true := by simp; omega
    have hki : ((k : Int) == (n : Int) - 1) = true := by simp; omega
    have e : pc = true := by rw [h, decide_eq_true hst.1, decide_eq_true hst.2]; rfl
    have HS2 := Lib.hid (YES.out e)
    clear YES NO h HSM h63 hst
    go_upto_region 7 with (fail)
    have HGs := Lib.hid (show ∀ (D : Nat → Bool) (zzi : Nat) (zq zq' : World), (fun _ zq => (fun Z => ∃ hz : Nat, hz = Z.heap.size) zq) D zq → Mod (fun _ => False) zq zq' → (fun _ zq => (fun Z => ∃ hz : Nat, hz = Z.heap.size) zq) (upd D zzi true) zq' from by intro D zzi zq zq' h hm; (exact ⟨_, rfl⟩))
    refine wp_region_inv (by kernel_rfl) (by kernel_rfl) (InvF (R := Mod (fun _ => False)) [.is (.bool true),
      .is (.bool false),
      .is (.bool false),
      .is (undef),
      .is (undef),
      .is (undef),
      .is (undef),
      .is (.bool false),
      .is (.bool false),
      .is (undef),
      .is (undef),
      .is (undef),
      .is (undef),
      .is (undef),
      .is (undef),
      .is (undef),
      .is (undef),
      .is (undef),
      .is (undef),
      .is (undef),
      .is (undef),
      .is (undef),
      .is (undef),
      .is (undef),
      .is (undef),
      .is (undef),
      .is (undef),
      .is (undef),
      .is (.bool false)]
      (PB wr (fun _ => False) wr.heap.size (fun _ zq => (fun Z => ∃ hz : Nat, hz = Z.heap.size) zq))) (InvF.start (PB.start (Mod.refl _ _) (Nat.le_refl _) (⟨_, rfl⟩))) ?_ ?_
    ·refine .cons ?_ (.cons ?_ (.cons ?_ (.cons ?_ (.cons ?_ (.cons ?_ (.cons ?_ (.cons ?_ (.cons ?_ (.cons ?_ (.cons ?_ (.cons ?_ (.cons ?_ (.cons ?_ (.cons ?_ (.cons ?_ (.cons ?_ (.cons ?_ (.cons ?_ (.cons ?_ (.cons ?_ (.cons ?_ (.cons ?_ (.cons ?_ (.cons ?_ (.cons ?_ (.cons ?_ (.cons ?_ (.cons ?_ .nil))))))))))))))))))))))))))))
     ·intro D V zw1 a hR hI K hK
      obtain ⟨hM1, hB1, hG1⟩ := hI.1
      have ze4 := hR.frame.other (t := 4) (by kernel_rfl) rfl
      rw [if_pos (by rfl)]
      go_simp
      exact hK (.bool true) _ (hI.next hR (by kernel_rfl) (Mod.refl _ _) (PB.quiet hI.1 (Mod.refl _ _) (HGs.out D 0 zw1 zw1 (hI.1).g (Mod.refl _ _))) (upd_same V 0 _))
     ·intro D V zw1 a hR hI K hK
      obtain ⟨hM1, hB1, hG1⟩ := hI.1
      have zd0 := hR.pred 0 (by kernel_rfl)
      have zF0 : V 0 = .bool true := hI.2 0 zd0 rfl
      have zf0 := zF0; clear zF0
      have ze35 := hR.frame.done (t := 35) (j := 0) (by kernel_rfl) hR.ok zd0
      rw [if_pos (by rfl)]
      go_simp
      exact hK (.bool false) _ (hI.next hR (by kernel_rfl) (Mod.refl _ _) (PB.quiet hI.1 (Mod.refl _ _) (HGs.out D 1 zw1 zw1 (hI.1).g (Mod.refl _ _))) (upd_same V 1 _))
     ·intro D V zw1 a hR hI K hK
      obtain ⟨hM1, hB1, hG1⟩ := hI.1
      have zd1 := hR.pred 1 (by kernel_rfl)
      have zF1 : V 1 = .bool false := hI.2 1 zd1 rfl
      have zf1 := zF1; clear zF1
      have ze36 := hR.frame.done (t := 36) (j := 1) (by kernel_rfl) hR.ok zd1
      rw [if_pos (by rfl)]
      go_simp
      exact hK (.bool false) _ (hI.next hR (by kernel_rfl) (Mod.refl _ _) (PB.quiet hI.1 (Mod.refl _ _) (HGs.out D 2 zw1 zw1 (hI.1).g (Mod.refl _ _))) (upd_same V 2 _))
     ·intro D V zw1 a hR hI K hK
      obtain ⟨hM1, hB1, hG1⟩ := hI.1
      have zd2 := hR.pred 2 (by kernel_rfl)
      have zF2 : V 2 = .bool false := hI.2 2 zd2 rfl
      have zf2 := zF2; clear zF2
      have ze37 := hR.frame.done (t := 37) (j := 2) (by kernel_rfl) hR.ok zd2
      rw [if_neg (by simp [Region.wanted, yielded, ze37, zf2])]
      exact hK undef _ (hI.next hR (by kernel_rfl) (Mod.refl _ _) (PB.quiet hI.1 (Mod.refl _ _) (HGs.out D 3 zw1 zw1 (hI.1).g (Mod.refl _ _))) (upd_same V 3 _))
     ·intro D V zw1 a hR hI K hK
      obtain ⟨hM1, hB1, hG1⟩ := hI.1
      have zd2 := hR.pred 2 (by kernel_rfl)
      have zF2 : V 2 = .bool false := hI.2 2 zd2 rfl
      have zf2 := zF2; clear zF2
      have ze37 := hR.frame.done (t := 37) (j := 2) (by kernel_rfl) hR.ok zd2
      rw [if_neg (by simp [Region.wanted, yielded, ze37, zf2])]
      exact hK undef _ (hI.next hR (by kernel_rfl) (Mod.refl _ _) (PB.quiet hI.1 (Mod.refl _ _) (HGs.out D 4 zw1 zw1 (hI.1).g (Mod.refl _ _))) (upd_same V 4 _))
     ·intro D V zw1 a hR hI K hK
      obtain ⟨hM1, hB1, hG1⟩ := hI.1
      have zd2 := hR.pred 2 (by kernel_rfl)
      have zF2 : V 2 = .bool false := hI.2 2 zd2 rfl
      have zf2 := zF2; clear zF2
      have ze37 := hR.frame.done (t := 37) (j := 2) (by kernel_rfl) hR.ok zd2
      rw [if_neg (by simp [Region.wanted, yielded, ze37, zf2])]
      exact hK undef _ (hI.next hR (by kernel_rfl) (Mod.refl _ _) (PB.quiet hI.1 (Mod.refl _ _) (HGs.out D 5 zw1 zw1 (hI.1).g (Mod.refl _ _))) (upd_same V 5 _))
     ·intro D V zw1 a hR hI K hK
      obtain ⟨hM1, hB1, hG1⟩ := hI.1
      have zd2 := hR.pred 2 (by kernel_rfl)
      have zF2 : V 2 = .bool false := hI.2 2 zd2 rfl
      have zf2 := zF2; clear zF2
      have ze37 := hR.frame.done (t := 37) (j := 2) (by kernel_rfl) hR.ok zd2
      rw [if_neg (by simp [Region.wanted, yielded, ze37, zf2])]
      exact hK undef _ (hI.next hR (by kernel_rfl) (Mod.refl _ _) (PB.quiet hI.1 (Mod.refl _ _) (HGs.out D 6 zw1 zw1 (hI.1).g (Mod.refl _ _))) (upd_same V 6 _))
     ·intro D V zw1 a hR hI K hK
      obtain ⟨hM1, hB1, hG1⟩ := hI.1
      have zd2 := hR.pred 2 (by kernel_rfl)
      have zF2 : V 2 = .bool false := hI.2 2 zd2 rfl
      have zf2 := zF2; clear zF2
      have zd6 := hR.pred 6 (by kernel_rfl)
      have zF6 : V 6 = undef := hI.2 6 zd6 rfl
      have zf6 := zF6; clear zF6
      have ze37 := hR.frame.done (t := 37) (j := 2) (by kernel_rfl) hR.ok zd2
      have ze41 := hR.frame.done (t := 41) (j := 6) (by kernel_rfl) hR.ok zd6
      rw [if_pos (by rfl)]
      go_simp
      exact hK (.bool false) _ (hI.next hR (by kernel_rfl) (Mod.refl _ _) (PB.quiet hI.1 (Mod.refl _ _) (HGs.out D 7 zw1 zw1 (hI.1).g (Mod.refl _ _))) (upd_same V 7 _))
     ·intro D V zw1 a hR hI K hK
      obtain ⟨hM1, hB1, hG1⟩ := hI.1
      have zd7 := hR.pred 7 (by kernel_rfl)
      have zF7 : V 7 = .bool false := hI.2 7 zd7 rfl
      have zf7 := zF7; clear zF7
      have ze42 := hR.frame.done (t := 42) (j := 7) (by kernel_rfl) hR.ok zd7
      rw [if_pos (by rfl)]
      go_simp
      exact hK (.bool false) _ (hI.next hR (by kernel_rfl) (Mod.refl _ _) (PB.quiet hI.1 (Mod.refl _ _) (HGs.out D 8 zw1 zw1 (hI.1).g (Mod.refl _ _))) (upd_same V 8 _))
     ·intro D V zw1 a hR hI K hK
      obtain ⟨hM1, hB1, hG1⟩ := hI.1
      have zd8 := hR.pred 8 (by kernel_rfl)
      have zF8 : V 8 = .bool false := hI.2 8 zd8 rfl
      have zf8 := zF8; clear zF8
      have ze43 := hR.frame.done (t := 43) (j := 8) (by kernel_rfl) hR.ok zd8
      rw [if_neg (by simp [Region.wanted, yielded, ze43, zf8])]
      exact hK undef _ (hI.next hR (by kernel_rfl) (Mod.refl _ _) (PB.quiet hI.1 (Mod.refl _ _) (HGs.out D 9 zw1 zw1 (hI.1).g (Mod.refl _ _))) (upd_same V 9 _))
     ·intro D V zw1 a hR hI K hK
      obtain ⟨hM1, hB1, hG1⟩ := hI.1
      have zd8 := hR.pred 8 (by kernel_rfl)
      have zF8 : V 8 = .bool false := hI.2 8 zd8 rfl
      have zf8 := zF8; clear zF8
      have ze43 := hR.frame.done (t := 43) (j := 8) (by kernel_rfl) hR.ok zd8
      rw [if_neg (by simp [Region.wanted, yielded, ze43, zf8])]
      exact hK undef _ (hI.next hR (by kernel_rfl) (Mod.refl _ _) (PB.quiet hI.1 (Mod.refl _ _) (HGs.out D 10 zw1 zw1 (hI.1).g (Mod.refl _ _))) (upd_same V 10 _))
     ·intro D V zw1 a hR hI K hK
      obtain ⟨hM1, hB1, hG1⟩ := hI.1
      have zd8 := hR.pred 8 (by kernel_rfl)
      have zF8 : V 8 = .bool false := hI.2 8 zd8 rfl
      have zf8 := zF8; clear zF8
      have ze43 := hR.frame.done (t := 43) (j := 8) (by kernel_rfl) hR.ok zd8
      rw [if_neg (by simp [Region.wanted, yielded, ze43, zf8])]
      exact hK undef _ (hI.next hR (by kernel_rfl) (Mod.refl _ _) (PB.quiet hI.1 (Mod.refl _ _) (HGs.out D 11 zw1 zw1 (hI.1).g (Mod.refl _ _))) (upd_same V 11 _))
     ·intro D V zw1 a hR hI K hK
      obtain ⟨hM1, hB1, hG1⟩ := hI.1
      have zd8 := hR.pred 8 (by kernel_rfl)
      have zF8 : V 8 = .bool false := hI.2 8 zd8 rfl
      have zf8 := zF8; clear zF8
      have ze43 := hR.frame.done (t := 43) (j := 8) (by kernel_rfl) hR.ok zd8
      rw [if_neg (by simp [Region.wanted, yielded, ze43, zf8])]
      exact hK undef _ (hI.next hR (by kernel_rfl) (Mod.refl _ _) (PB.quiet hI.1 (Mod.refl _ _) (HGs.out D 12 zw1 zw1 (hI.1).g (Mod.refl _ _))) (upd_same V 12 _))
     ·intro D V zw1 a hR hI K hK
      obtain ⟨hM1, hB1, hG1⟩ := hI.1
      have zd8 := hR.pred 8 (by kernel_rfl)
      have zF8 : V 8 = .bool false := hI.2 8 zd8 rfl
      have zf8 := zF8; clear zF8
      have ze43 := hR.frame.done (t := 43) (j := 8) (by kernel_rfl) hR.ok zd8
      rw [if_neg (by simp [Region.wanted, yielded, ze43, zf8])]
      exact hK undef _ (hI.next hR (by kernel_rfl) (Mod.refl _ _) (PB.quiet hI.1 (Mod.refl _ _) (HGs.out D 13 zw1 zw1 (hI.1).g (Mod.refl _ _))) (upd_same V 13 _))
     ·intro D V zw1 a hR hI K hK
      obtain ⟨hM1, hB1, hG1⟩ := hI.1
      have zd8 := hR.pred 8 (by kernel_rfl)
      have zF8 : V 8 = .bool false := hI.2 8 zd8 rfl
      have zf8 := zF8; clear zF8
      have ze43 := hR.frame.done (t := 43) (j := 8) (by kernel_rfl) hR.ok zd8
      rw [if_neg (by simp [Region.wanted, yielded, ze43, zf8])]
      exact hK undef _ (hI.next hR (by kernel_rfl) (Mod.refl _ _) (PB.quiet hI.1 (Mod.refl _ _) (HGs.out D 14 zw1 zw1 (hI.1).g (Mod.refl _ _))) (upd_same V 14 _))
     ·intro D V zw1 a hR hI K hK
      obtain ⟨hM1, hB1, hG1⟩ := hI.1
      have zd14 := hR.pred 14 (by kernel_rfl)
      have zF14 : V 14 = undef := hI.2 14 zd14 rfl
      have zf14 := zF14; clear zF14
      have ze49 := hR.frame.done (t := 49) (j := 14) (by kernel_rfl) hR.ok zd14
      rw [if_neg (by simp [Region.wanted, yielded, ze49, zf14, undef])]
      exact hK undef _ (hI.next hR (by kernel_rfl) (Mod.refl _ _) (PB.quiet hI.1 (Mod.refl _ _) (HGs.out D 15 zw1 zw1 (hI.1).g (Mod.refl _ _))) (upd_same V 15 _))
     ·intro D V zw1 a hR hI K hK
      obtain ⟨hM1, hB1, hG1⟩ := hI.1
      have zd14 := hR.pred 14 (by kernel_rfl)
      have zF14 : V 14 = undef := hI.2 14 zd14 rfl
      have zf14 := zF14; clear zF14
      have ze49 := hR.frame.done (t := 49) (j := 14) (by kernel_rfl) hR.ok zd14
      rw [if_neg (by simp [Region.wanted, yielded, ze49, zf14, undef])]
      exact hK undef _ (hI.next hR (by kernel_rfl) (Mod.refl _ _) (PB.quiet hI.1 (Mod.refl _ _) (HGs.out D 16 zw1 zw1 (hI.1).g (Mod.refl _ _))) (upd_same V 16 _))
     ·intro D V zw1 a hR hI K hK
      obtain ⟨hM1, hB1, hG1⟩ := hI.1
      have zd14 := hR.pred 14 (by kernel_rfl)
      have zF14 : V 14 = undef := hI.2 14 zd14 rfl
      have zf14 := zF14; clear zF14
      have ze49 := hR.frame.done (t := 49) (j := 14) (by kernel_rfl) hR.ok zd14
      rw [if_neg (by simp [Region.wanted, yielded, ze49, zf14, undef])]
      exact hK undef _ (hI.next hR (by kernel_rfl) (Mod.refl _ _) (PB.quiet hI.1 (Mod.refl _ _) (HGs.out D 17 zw1 zw1 (hI.1).g (Mod.refl _ _))) (upd_same V 17 _))
     ·intro D V zw1 a hR hI K hK
      obtain ⟨hM1, hB1, hG1⟩ := hI.1
      have zd14 := hR.pred 14 (by kernel_rfl)
      have zF14 : V 14 = undef := hI.2 14 zd14 rfl
      have zf14 := zF14; clear zF14
      have ze49 := hR.frame.done (t := 49) (j := 14) (by kernel_rfl) hR.ok zd14
      rw [if_neg (by simp [Region.wanted, yielded, ze49, zf14, undef])]
      exact hK undef _ (hI.next hR (by kernel_rfl) (Mod.refl _ _) (PB.quiet hI.1 (Mod.refl _ _) (HGs.out D 18 zw1 zw1 (hI.1).g (Mod.refl _ _))) (upd_same V 18 _))
     ·intro D V zw1 a hR hI K hK
      obtain ⟨hM1, hB1, hG1⟩ := hI.1
      have zd14 := hR.pred 14 (by kernel_rfl)
      have zF14 : V 14 = undef := hI.2 14 zd14 rfl
      have zf14 := zF14; clear zF14
      have ze49 := hR.frame.done (t := 49) (j := 14) (by kernel_rfl) hR.ok zd14
      rw [if_neg (by simp [Region.wanted, yielded, ze49, zf14, undef])]
      exact hK undef _ (hI.next hR (by kernel_rfl) (Mod.refl _ _) (PB.quiet hI.1 (Mod.refl _ _) (HGs.out D 19 zw1 zw1 (hI.1).g (Mod.refl _ _))) (upd_same V 19 _))
     ·intro D V zw1 a hR hI K hK
      obtain ⟨hM1, hB1, hG1⟩ := hI.1
      have zd14 := hR.pred 14 (by kernel_rfl)
      have zF14 : V 14 = undef := hI.2 14 zd14 rfl
      have zf14 := zF14; clear zF14
      have ze49 := hR.frame.done (t := 49) (j := 14) (by kernel_rfl) hR.ok zd14
      rw [if_neg (by simp [Region.wanted, yielded, ze49, zf14, undef])]
      exact hK undef _ (hI.next hR (by kernel_rfl) (Mod.refl _ _) (PB.quiet hI.1 (Mod.refl _ _) (HGs.out D 20 zw1 zw1 (hI.1).g (Mod.refl _ _))) (upd_same V 20 _))
     ·intro D V zw1 a hR hI K hK
      obtain ⟨hM1, hB1, hG1⟩ := hI.1
      have zd14 := hR.pred 14 (by kernel_rfl)
      have zF14 : V 14 = undef := hI.2 14 zd14 rfl
      have zf14 := zF14; clear zF14
      have ze49 := hR.frame.done (t := 49) (j := 14) (by kernel_rfl) hR.ok zd14
      rw [if_neg (by simp [Region.wanted, yielded, ze49, zf14, undef])]
      exact hK undef _ (hI.next hR (by kernel_rfl) (Mod.refl _ _) (PB.quiet hI.1 (Mod.refl _ _) (HGs.out D 21 zw1 zw1 (hI.1).g (Mod.refl _ _))) (upd_same V 21 _))
     ·intro D V zw1 a hR hI K hK
      obtain ⟨hM1, hB1, hG1⟩ := hI.1
      have zd14 := hR.pred 14 (by kernel_rfl)
      have zF14 : V 14 = undef := hI.2 14 zd14 rfl
      have zf14 := zF14; clear zF14
      have ze49 := hR.frame.done (t := 49) (j := 14) (by kernel_rfl) hR.ok zd14
      rw [if_neg (by simp [Region.wanted, yielded, ze49, zf14, undef])]
      exact hK undef _ (hI.next hR (by kernel_rfl) (Mod.refl _ _) (PB.quiet hI.1 (Mod.refl _ _) (HGs.out D 22 zw1 zw1 (hI.1).g (Mod.refl _ _))) (upd_same V 22 _))
     ·intro D V zw1 a hR hI K hK
      obtain ⟨hM1, hB1, hG1⟩ := hI.1
      have zd14 := hR.pred 14 (by kernel_rfl)
      have zF14 : V 14 = undef := hI.2 14 zd14 rfl
      have zf14 := zF14; clear zF14
      have ze49 := hR.frame.done (t := 49) (j := 14) (by kernel_rfl) hR.ok zd14
      rw [if_neg (by simp [Region.wanted, yielded, ze49, zf14, undef])]
      exact hK undef _ (hI.next hR (by kernel_rfl) (Mod.refl _ _) (PB.quiet hI.1 (Mod.refl _ _) (HGs.out D 23 zw1 zw1 (hI.1).g (Mod.refl _ _))) (upd_same V 23 _))
     ·intro D V zw1 a hR hI K hK
      obtain ⟨hM1, hB1, hG1⟩ := hI.1
      have zd14 := hR.pred 14 (by kernel_rfl)
      have zF14 : V 14 = undef := hI.2 14 zd14 rfl
      have zf14 := zF14; clear zF14
      have ze49 := hR.frame.done (t := 49) (j := 14) (by kernel_rfl) hR.ok zd14
      rw [if_neg (by simp [Region.wanted, yielded, ze49, zf14, undef])]
      exact hK undef _ (hI.next hR (by kernel_rfl) (Mod.refl _ _) (PB.quiet hI.1 (Mod.refl _ _) (HGs.out D 24 zw1 zw1 (hI.1).g (Mod.refl _ _))) (upd_same V 24 _))
     ·intro D V zw1 a hR hI K hK
      obtain ⟨hM1, hB1, hG1⟩ := hI.1
      have zd14 := hR.pred 14 (by kernel_rfl)
      have zF14 : V 14 = undef := hI.2 14 zd14 rfl
      have zf14 := zF14; clear zF14
      have ze49 := hR.frame.done (t := 49) (j := 14) (by kernel_rfl) hR.ok zd14
      rw [if_neg (by simp [Region.wanted, yielded, ze49, zf14, undef])]
      exact hK undef _ (hI.next hR (by kernel_rfl) (Mod.refl _ _) (PB.quiet hI.1 (Mod.refl _ _) (HGs.out D 25 zw1 zw1 (hI.1).g (Mod.refl _ _))) (upd_same V 25 _))
     ·intro D V zw1 a hR hI K hK
      obtain ⟨hM1, hB1, hG1⟩ := hI.1
      have zd14 := hR.pred 14 (by kernel_rfl)
      have zF14 : V 14 = undef := hI.2 14 zd14 rfl
      have zf14 := zF14; clear zF14
      have ze49 := hR.frame.done (t := 49) (j := 14) (by kernel_rfl) hR.ok zd14
      rw [if_neg (by simp [Region.wanted, yielded, ze49, zf14, undef])]
      exact hK undef _ (hI.next hR (by kernel_rfl) (Mod.refl _ _) (PB.quiet hI.1 (Mod.refl _ _) (HGs.out D 26 zw1 zw1 (hI.1).g (Mod.refl _ _))) (upd_same V 26 _))
     ·intro D V zw1 a hR hI K hK
      obtain ⟨hM1, hB1, hG1⟩ := hI.1
      have zd8 := hR.pred 8 (by kernel_rfl)
      have zF8 : V 8 = .bool false := hI.2 8 zd8 rfl
      have zf8 := zF8; clear zF8
      have ze43 := hR.frame.done (t := 43) (j := 8) (by kernel_rfl) hR.ok zd8
      rw [if_neg (by simp [Region.wanted, yielded, ze43, zf8])]
      exact hK undef _ (hI.next hR (by kernel_rfl) (Mod.refl _ _) (PB.quiet hI.1 (Mod.refl _ _) (HGs.out D 27 zw1 zw1 (hI.1).g (Mod.refl _ _))) (upd_same V 27 _))
     ·intro D V zw1 a hR hI K hK
      obtain ⟨hM1, hB1, hG1⟩ := hI.1
      have zd8 := hR.pred 8 (by kernel_rfl)
      have zF8 : V 8 = .bool false := hI.2 8 zd8 rfl
      have zf8 := zF8; clear zF8
      have zd27 := hR.pred 27 (by kernel_rfl)
      have zF27 : V 27 = undef := hI.2 27 zd27 rfl
      have zf27 := zF27; clear zF27
      have ze43 := hR.frame.done (t := 43) (j := 8) (by kernel_rfl) hR.ok zd8
      have ze62 := hR.frame.done (t := 62) (j := 27) (by kernel_rfl) hR.ok zd27
      rw [if_pos (by rfl)]
      go_simp
      exact hK (.bool false) _ (hI.next hR (by kernel_rfl) (Mod.refl _ _) (PB.quiet hI.1 (Mod.refl _ _) (HGs.out D 28 zw1 zw1 (hI.1).g (Mod.refl _ _))) (upd_same V 28 _))
    ·intro D V w9 hD hI
     obtain ⟨hM1, hB1, hG1⟩ := hI.1
     have hMx := hM1
     clear hM1
     have hBx := hB1
     clear hB1
     have hGx := hG1
     clear hG1
     have zF0 : V 0 = .bool true := hI.2 0 (hD 0 (by decide)) rfl
     have zf0 := zF0; clear zF0
     have zF1 : V 1 = .bool false := hI.2 1 (hD 1 (by decide)) rfl
     have zf1 := zF1; clear zF1
     have zF2 : V 2 = .bool false := hI.2 2 (hD 2 (by decide)) rfl
     have zf2 := zF2; clear zF2
     have zF3 : V 3 = undef := hI.2 3 (hD 3 (by decide)) rfl
     have zf3 := zF3; clear zF3
     have zF4 : V 4 = undef := hI.2 4 (hD 4 (by decide)) rfl
     have zf4 := zF4; clear zF4
     have zF5 : V 5 = undef := hI.2 5 (hD 5 (by decide)) rfl
     have zf5 := zF5; clear zF5
     have zF6 : V 6 = undef := hI.2 6 (hD 6 (by decide)) rfl
     have zf6 := zF6; clear zF6
     have zF7 : V 7 = .bool false := hI.2 7 (hD 7 (by decide)) rfl
     have zf7 := zF7; clear zF7
     have zF8 : V 8 = .bool false := hI.2 8 (hD 8 (by decide)) rfl
     have zf8 := zF8; clear zF8
     have zF9 : V 9 = undef := hI.2 9 (hD 9 (by decide)) rfl
     have zf9 := zF9; clear zF9
     have zF10 : V 10 = undef := hI.2 10 (hD 10 (by decide)) rfl
     have zf10 := zF10; clear zF10
     have zF11 : V 11 = undef := hI.2 11 (hD 11 (by decide)) rfl
     have zf11 := zF11; clear zF11
     have zF12 : V 12 = undef := hI.2 12 (hD 12 (by decide)) rfl
     have zf12 := zF12; clear zF12
     have zF13 : V 13 = undef := hI.2 13 (hD 13 (by decide)) rfl
     have zf13 := zF13; clear zF13
     have zF14 : V 14 = undef := hI.2 14 (hD 14 (by decide)) rfl
     have zf14 := zF14; clear zF14
     have zF15 : V 15 = undef := hI.2 15 (hD 15 (by decide)) rfl
     have zf15 := zF15; clear zF15
     have zF16 : V 16 = undef := hI.2 16 (hD 16 (by decide)) rfl
     have zf16 := zF16; clear zF16
     have zF17 : V 17 = undef := hI.2 17 (hD 17 (by decide)) rfl
     have zf17 := zF17; clear zF17
     have zF18 : V 18 = undef := hI.2 18 (hD 18 (by decide)) rfl
     have zf18 := zF18; clear zF18
     have zF19 : V 19 = undef := hI.2 19 (hD 19 (by decide)) rfl
     have zf19 := zF19; clear zF19
     have zF20 : V 20 = undef := hI.2 20 (hD 20 (by decide)) rfl
     have zf20 := zF20; clear zF20
     have zF21 : V 21 = undef := hI.2 21 (hD 21 (by decide)) rfl
     have zf21 := zF21; clear zF21
     have zF22 : V 22 = undef := hI.2 22 (hD 22 (by decide)) rfl
     have zf22 := zF22; clear zF22
     have zF23 : V 23 = undef := hI.2 23 (hD 23 (by decide)) rfl
     have zf23 := zF23; clear zF23
     have zF24 : V 24 = undef := hI.2 24 (hD 24 (by decide)) rfl
     have zf24 := zF24; clear zF24
     have zF25 : V 25 = undef := hI.2 25 (hD 25 (by decide)) rfl
     have zf25 := zF25; clear zF25
     have zF26 : V 26 = undef := hI.2 26 (hD 26 (by decide)) rfl
     have zf26 := zF26; clear zF26
     have zF27 : V 27 = undef := hI.2 27 (hD 27 (by decide)) rfl
     have zf27 := zF27; clear zF27
     have zF28 : V 28 = .bool false := hI.2 28 (hD 28 (by decide)) rfl
     have zf28 := zF28; clear zF28
     clear hI hD HGs
     simp only [frAll, Act.put, List.setIfInBounds_toArray, List.set_cons_zero, List.set_cons_succ, Nat.zero_add, Nat.reduceAdd, zf0, zf1, zf2, zf3, zf4, zf5, zf6, zf7, zf8, zf9, zf10, zf11, zf12, zf13, zf14, zf15, zf16, zf17, zf18, zf19, zf20, zf21, zf22, zf23, zf24, zf25, zf26, zf27, zf28]
     clear zf0 zf1 zf2 zf3 zf4 zf5 zf6 zf7 zf8 zf9 zf10 zf11 zf12 zf13 zf14 zf15 zf16 zf17 zf18 zf19 zf20 zf21 zf22 zf23 zf24 zf25 zf26 zf27 zf28
     clear V D
     have HP2 : Hid (Pure w w9) := Lib.hid (HP.out.trans hMx)
     clear hGx hMx hBx
     go_wp2_with fail
     go_roundg (n - (k + 1))
     case measure => omega
     case rel => exact ⟨k + 1, rfl, by omega, by simp, HS2.out, HP2.out⟩
   have hpc : pc = sm := by
    rw [h, decide_eq_false h63, Bool.false_or]
    by_cases h1 : c = 42
    ·rw [decide_eq_false (show ¬ k + 1 = n from fun h2 => hst ⟨h1, h2⟩), Bool.and_false, Bool.false_or]
    ·rw [decide_eq_false h1, Bool.false_and, Bool.false_or]
   go_upto_region 6 with (fail)
   go_cut [4] from 24 to 34 (fun p wx => p = .bool false ∧ wr = wx)
   case first =>
    clear YES NO h HSM
    by_cases h1 : c = 42
    ·have h42i : ((c : Int) == 42) = true := by simp; omega
     have hki : ((k : Int) == (n : Int) - 1) = false := by simp; omega
     clear hst h1
     go_wp2_with fail
     go_meet
     exact ⟨rfl, rfl⟩
    ·have h42i : ((c : Int) == 42) = false := by simp; omega
     clear hst h1
     go_wp2_with fail
     go_meet
     exact ⟨rfl, rfl⟩
   case rest =>
    obtain ⟨rfl, rfl⟩ := hcut
    have hsm := HSM.out
    cases lb with
    | false =>
     have e : pc = false := by rw [hpc, hsm]; rfl
     have HR := Lib.hid (NO.out e)
     clear YES NO h HSM h63 hst hpc hsm e
     go_upto_region 7 with (fail)
     have HGs := Lib.hid (show ∀ (D : Nat → Bool) (zzi : Nat) (zq zq' : World), (fun _ zq => (fun Z => ∃ hz : Nat, hz = Z.heap.size) zq) D zq → Mod (fun _ => False) zq zq' → (fun _ zq => (fun Z => ∃ hz : Nat, hz = Z.heap.size) zq) (upd D zzi true) zq' from by intro D zzi zq zq' h hm; (exact ⟨_, rfl⟩))
     refine wp_region_inv (by kernel_rfl) (by kernel_rfl) (InvF (R := Mod (fun _ => False)) [.is (.bool false),
       .is (.bool true),
       .is (.bool true),
       .is (.string ⟨s.toArray⟩),
       .is (.int .i64 (k : Int)),
       .is (.int .u8 (c : Int)),
       .is (.bool true),
       .is (.bool true),
       .is (.bool true),
       .is (.string ⟨s.toArray⟩),
       .is (.int .i64 (k : Int)),
       .is (.int .u8 (c : Int)),
       .is (.bool false),
       .is (.bool true),
       .is (.bool true),
       .is (undef),
       .is (undef),
       .is (undef),
       .is (undef),
       .is (undef),
       .is (undef),
       .is (undef),
       .is (undef),
       .is (undef),
       .is (undef),
       .is (undef),
       .is (undef),
       .is (.bool true),
       .is (.bool true)]
       (PB wr (fun _ => False) wr.heap.size (fun _ zq => (fun Z => ∃ hz : Nat, hz = Z.heap.size) zq))) (InvF.start (PB.start (Mod.refl _ _) (Nat.le_refl _) (⟨_, rfl⟩))) ?_ ?_
     ·refine .cons ?_ (.cons ?_ (.cons ?_ (.cons ?_ (.cons ?_ (.cons ?_ (.cons ?_ (.cons ?_ (.cons ?_ (.cons ?_ (.cons ?_ (.cons ?_ (.cons ?_ (.cons ?_ (.cons ?_ (.cons ?_ (.cons ?_ (.cons ?_ (.cons ?_ (.cons ?_ (.cons ?_ (.cons ?_ (.cons ?_ (.cons ?_ (.cons ?_ (.cons ?_ (.cons ?_ (.cons ?_ (.cons ?_ .nil))))))))))))))))))))))))))))
      ·intro D V zw1 a hR hI K hK
       obtain ⟨hM1, hB1, hG1⟩ := hI.1
       have ze4 := hR.frame.other (t := 4) (by kernel_rfl) rfl
       rw [if_pos (by rfl)]
       go_simp
       exact hK (.bool false) _ (hI.next hR (by kernel_rfl) (Mod.refl _ _) (PB.quiet hI.1 (Mod.refl _ _) (HGs.out D 0 zw1 zw1 (hI.1).g (Mod.refl _ _))) (upd_same V 0 _))
      ·intro D V zw1 a hR hI K hK
       obtain ⟨hM1, hB1, hG1⟩ := hI.1
       have zd0 := hR.pred 0 (by kernel_rfl)
       have zF0 : V 0 = .bool false := hI.2 0 zd0 rfl
       have zf0 := zF0; clear zF0
       have ze35 := hR.frame.done (t := 35) (j := 0) (by kernel_rfl) hR.ok zd0
       rw [if_pos (by rfl)]
       go_simp
       exact hK (.bool true) _ (hI.next hR (by kernel_rfl) (Mod.refl _ _) (PB.quiet hI.1 (Mod.refl _ _) (HGs.out D 1 zw1 zw1 (hI.1).g (Mod.refl _ _))) (upd_same V 1 _))
      ·intro D V zw1 a hR hI K hK
       obtain ⟨hM1, hB1, hG1⟩ := hI.1
       have zd1 := hR.pred 1 (by kernel_rfl)
       have zF1 : V 1 = .bool true := hI.2 1 zd1 rfl
       have zf1 := zF1; clear zF1
       have ze36 := hR.frame.done (t := 36) (j := 1) (by kernel_rfl) hR.ok zd1
       rw [if_pos (by rfl)]
       go_simp
       exact hK (.bool true) _ (hI.next hR (by kernel_rfl) (Mod.refl _ _) (PB.quiet hI.1 (Mod.refl _ _) (HGs.out D 2 zw1 zw1 (hI.1).g (Mod.refl _ _))) (upd_same V 2 _))
      ·intro D V zw1 a hR hI K hK
       obtain ⟨hM1, hB1, hG1⟩ := hI.1
       have zd2 := hR.pred 2 (by kernel_rfl)
       have zF2 : V 2 = .bool true := hI.2 2 zd2 rfl
       have zf2 := zF2; clear zF2
       have ze0 := hR.frame.other (t := 0) (by kernel_rfl) rfl
       have ze37 := hR.frame.done (t := 37) (j := 2) (by kernel_rfl) hR.ok zd2
       rw [if_pos (by simp [Region.wanted, yielded, ze37, zf2])]
       go_simp
       exact hK (.string ⟨s.toArray⟩) _ (hI.next hR (by kernel_rfl) (Mod.refl _ _) (PB.quiet hI.1 (Mod.refl _ _) (HGs.out D 3 zw1 zw1 (hI.1).g (Mod.refl _ _))) (upd_same V 3 _))
      ·intro D V zw1 a hR hI K hK
       obtain ⟨hM1, hB1, hG1⟩ := hI.1
       have zd2 := hR.pred 2 (by kernel_rfl)
       have zF2 : V 2 = .bool true := hI.2 2 zd2 rfl
       have zf2 := zF2; clear zF2
       have ze3 := hR.frame.other (t := 3) (by kernel_rfl) rfl
       have ze37 := hR.frame.done (t := 37) (j := 2) (by kernel_rfl) hR.ok zd2
       rw [if_pos (by simp [Region.wanted, yielded, ze37, zf2])]
       go_simp
       exact hK (.int .i64 (k : Int)) _ (hI.next hR (by kernel_rfl) (Mod.refl _ _) (PB.quiet hI.1 (Mod.refl _ _) (HGs.out D 4 zw1 zw1 (hI.1).g (Mod.refl _ _))) (upd_same V 4 _))
      ·intro D V zw1 a hR hI K hK
       obtain ⟨hM1, hB1, hG1⟩ := hI.1
       have zd3 := hR.pred 3 (by kernel_rfl)
       have zF3 : V 3 = .string ⟨s.toArray⟩ := hI.2 3 zd3 rfl
       have zf3 := zF3; clear zF3
       have zd4 := hR.pred 4 (by kernel_rfl)
       have zF4 : V 4 = .int .i64 (k : Int) := hI.2 4 zd4 rfl
       have zf4 := zF4; clear zF4
       have zd2 := hR.pred 2 (by kernel_rfl)
       have zF2 : V 2 = .bool true := hI.2 2 zd2 rfl
       have zf2 := zF2; clear zF2
       have ze38 := hR.frame.done (t := 38) (j := 3) (by kernel_rfl) hR.ok zd3
       have ze39 := hR.frame.done (t := 39) (j := 4) (by kernel_rfl) hR.ok zd4
       have ze37 := hR.frame.done (t := 37) (j := 2) (by kernel_rfl) hR.ok zd2
       rw [if_pos (by simp [Region.wanted, yielded, ze37, zf2])]
       go_simp
       exact hK (.int .u8 (c : Int)) _ (hI.next hR (by kernel_rfl) (Mod.refl _ _) (PB.quiet hI.1 (Mod.refl _ _) (HGs.out D 5 zw1 zw1 (hI.1).g (Mod.refl _ _))) (upd_same V 5 _))
      ·intro D V zw1 a hR hI K hK
       obtain ⟨hM1, hB1, hG1⟩ := hI.1
       have zd5 := hR.pred 5 (by kernel_rfl)
       have zF5 : V 5 = .int .u8 (c : Int) := hI.2 5 zd5 rfl
       have zf5 := zF5; clear zF5
       have zd2 := hR.pred 2 (by kernel_rfl)
       have zF2 : V 2 = .bool true := hI.2 2 zd2 rfl
       have zf2 := zF2; clear zF2
       have ze40 := hR.frame.done (t := 40) (j := 5) (by kernel_rfl) hR.ok zd5
       have ze37 := hR.frame.done (t := 37) (j := 2) (by kernel_rfl) hR.ok zd2
       rw [if_pos (by simp [Region.wanted, yielded, ze37, zf2])]
       go_simp
       exact hK (.bool true) _ (hI.next hR (by kernel_rfl) (Mod.refl _ _) (PB.quiet hI.1 (Mod.refl _ _) (HGs.out D 6 zw1 zw1 (hI.1).g (Mod.refl _ _))) (upd_same V 6 _))
      ·intro D V zw1 a hR hI K hK
       obtain ⟨hM1, hB1, hG1⟩ := hI.1
       have zd2 := hR.pred 2 (by kernel_rfl)
       have zF2 : V 2 = .bool true := hI.2 2 zd2 rfl
       have zf2 := zF2; clear zF2
       have zd6 := hR.pred 6 (by kernel_rfl)
       have zF6 : V 6 = .bool true := hI.2 6 zd6 rfl
       have zf6 := zF6; clear zF6
       have ze37 := hR.frame.done (t := 37) (j := 2) (by kernel_rfl) hR.ok zd2
       have ze41 := hR.frame.done (t := 41) (j := 6) (by kernel_rfl) hR.ok zd6
       rw [if_pos (by rfl)]
       go_simp
       exact hK (.bool true) _ (hI.next hR (by kernel_rfl) (Mod.refl _ _) (PB.quiet hI.1 (Mod.refl _ _) (HGs.out D 7 zw1 zw1 (hI.1).g (Mod.refl _ _))) (upd_same V 7 _))
      ·intro D V zw1 a hR hI K hK
       obtain ⟨hM1, hB1, hG1⟩ := hI.1
       have zd7 := hR.pred 7 (by kernel_rfl)
       have zF7 : V 7 = .bool true := hI.2 7 zd7 rfl
       have zf7 := zF7; clear zF7
       have ze42 := hR.frame.done (t := 42) (j := 7) (by kernel_rfl) hR.ok zd7
       rw [if_pos (by rfl)]
       go_simp
       exact hK (.bool true) _ (hI.next hR (by kernel_rfl) (Mod.refl _ _) (PB.quiet hI.1 (Mod.refl _ _) (HGs.out D 8 zw1 zw1 (hI.1).g (Mod.refl _ _))) (upd_same V 8 _))
      ·intro D V zw1 a hR hI K hK
       obtain ⟨hM1, hB1, hG1⟩ := hI.1
       have zd8 := hR.pred 8 (by kernel_rfl)
       have zF8 : V 8 = .bool true := hI.2 8 zd8 rfl
       have zf8 := zF8; clear zF8
       have ze0 := hR.frame.other (t := 0) (by kernel_rfl) rfl
       have ze43 := hR.frame.done (t := 43) (j := 8) (by kernel_rfl) hR.ok zd8
       rw [if_pos (by simp [Region.wanted, yielded, ze43, zf8])]
       go_simp
       exact hK (.string ⟨s.toArray⟩) _ (hI.next hR (by kernel_rfl) (Mod.refl _ _) (PB.quiet hI.1 (Mod.refl _ _) (HGs.out D 9 zw1 zw1 (hI.1).g (Mod.refl _ _))) (upd_same V 9 _))
      ·intro D V zw1 a hR hI K hK
       obtain ⟨hM1, hB1, hG1⟩ := hI.1
       have zd8 := hR.pred 8 (by kernel_rfl)
       have zF8 : V 8 = .bool true := hI.2 8 zd8 rfl
       have zf8 := zF8; clear zF8
       have ze3 := hR.frame.other (t := 3) (by kernel_rfl) rfl
       have ze43 := hR.frame.done (t := 43) (j := 8) (by kernel_rfl) hR.ok zd8
       rw [if_pos (by simp [Region.wanted, yielded, ze43, zf8])]
       go_simp
       exact hK (.int .i64 (k : Int)) _ (hI.next hR (by kernel_rfl) (Mod.refl _ _) (PB.quiet hI.1 (Mod.refl _ _) (HGs.out D 10 zw1 zw1 (hI.1).g (Mod.refl _ _))) (upd_same V 10 _))
      ·intro D V zw1 a hR hI K hK
       obtain ⟨hM1, hB1, hG1⟩ := hI.1
       have zd9 := hR.pred 9 (by kernel_rfl)
       have zF9 : V 9 = .string ⟨s.toArray⟩ := hI.2 9 zd9 rfl
       have zf9 := zF9; clear zF9
       have zd10 := hR.pred 10 (by kernel_rfl)
       have zF10 : V 10 = .int .i64 (k : Int) := hI.2 10 zd10 rfl
       have zf10 := zF10; clear zF10
       have zd8 := hR.pred 8 (by kernel_rfl)
       have zF8 : V 8 = .bool true := hI.2 8 zd8 rfl
       have zf8 := zF8; clear zF8
       have ze44 := hR.frame.done (t := 44) (j := 9) (by kernel_rfl) hR.ok zd9
       have ze45 := hR.frame.done (t := 45) (j := 10) (by kernel_rfl) hR.ok zd10
       have ze43 := hR.frame.done (t := 43) (j := 8) (by kernel_rfl) hR.ok zd8
       rw [if_pos (by simp [Region.wanted, yielded, ze43, zf8])]
       go_simp
       exact hK (.int .u8 (c : Int)) _ (hI.next hR (by kernel_rfl) (Mod.refl _ _) (PB.quiet hI.1 (Mod.refl _ _) (HGs.out D 11 zw1 zw1 (hI.1).g (Mod.refl _ _))) (upd_same V 11 _))
      ·intro D V zw1 a hR hI K hK
       obtain ⟨hM1, hB1, hG1⟩ := hI.1
       have zd11 := hR.pred 11 (by kernel_rfl)
       have zF11 : V 11 = .int .u8 (c : Int) := hI.2 11 zd11 rfl
       have zf11 := zF11; clear zF11
       have zd8 := hR.pred 8 (by kernel_rfl)
       have zF8 : V 8 = .bool true := hI.2 8 zd8 rfl
       have zf8 := zF8; clear zF8
       have ze46 := hR.frame.done (t := 46) (j := 11) (by kernel_rfl) hR.ok zd11
       have ze43 := hR.frame.done (t := 43) (j := 8) (by kernel_rfl) hR.ok zd8
       rw [if_pos (by simp [Region.wanted, yielded, ze43, zf8])]
       go_simp
       refine (HLT.out zw1).mono ?_
       rintro e zw2 ⟨rfl, hm2⟩
       exact hK (.bool false) _ (hI.next hR (by kernel_rfl) hm2 (PB.quiet hI.1 hm2 (HGs.out D 12 _ _ (hI.1).g hm2)) (upd_same V 12 _))
      ·intro D V zw1 a hR hI K hK
       obtain ⟨hM1, hB1, hG1⟩ := hI.1
       have zd12 := hR.pred 12 (by kernel_rfl)
       have zF12 : V 12 = .bool false := hI.2 12 zd12 rfl
       have zf12 := zF12; clear zF12
       have zd8 := hR.pred 8 (by kernel_rfl)
       have zF8 : V 8 = .bool true := hI.2 8 zd8 rfl
       have zf8 := zF8; clear zF8
       have ze47 := hR.frame.done (t := 47) (j := 12) (by kernel_rfl) hR.ok zd12
       have ze43 := hR.frame.done (t := 43) (j := 8) (by kernel_rfl) hR.ok zd8
       rw [if_pos (by simp [Region.wanted, yielded, ze43, zf8])]
       go_simp
       exact hK (.bool true) _ (hI.next hR (by kernel_rfl) (Mod.refl _ _) (PB.quiet hI.1 (Mod.refl _ _) (HGs.out D 13 zw1 zw1 (hI.1).g (Mod.refl _ _))) (upd_same V 13 _))
      ·intro D V zw1 a hR hI K hK
       obtain ⟨hM1, hB1, hG1⟩ := hI.1
       have zd13 := hR.pred 13 (by kernel_rfl)
       have zF13 : V 13 = .bool true := hI.2 13 zd13 rfl
       have zf13 := zF13; clear zF13
       have zd8 := hR.pred 8 (by kernel_rfl)
       have zF8 : V 8 = .bool true := hI.2 8 zd8 rfl
       have zf8 := zF8; clear zF8
       have ze48 := hR.frame.done (t := 48) (j := 13) (by kernel_rfl) hR.ok zd13
       have ze43 := hR.frame.done (t := 43) (j := 8) (by kernel_rfl) hR.ok zd8
       rw [if_pos (by simp [Region.wanted, yielded, ze43, zf8])]
       go_simp
       exact hK (.bool true) _ (hI.next hR (by kernel_rfl) (Mod.refl _ _) (PB.quiet hI.1 (Mod.refl _ _) (HGs.out D 14 zw1 zw1 (hI.1).g (Mod.refl _ _))) (upd_same V 14 _))
      ·intro D V zw1 a hR hI K hK
       obtain ⟨hM1, hB1, hG1⟩ := hI.1
       have zd14 := hR.pred 14 (by kernel_rfl)
       have zF14 : V 14 = .bool true := hI.2 14 zd14 rfl
       have zf14 := zF14; clear zF14
       have ze49 := hR.frame.done (t := 49) (j := 14) (by kernel_rfl) hR.ok zd14
       rw [if_neg (by simp [Region.wanted, yielded, ze49, zf14])]
       exact hK undef _ (hI.next hR (by kernel_rfl) (Mod.refl _ _) (PB.quiet hI.1 (Mod.refl _ _) (HGs.out D 15 zw1 zw1 (hI.1).g (Mod.refl _ _))) (upd_same V 15 _))
      ·intro D V zw1 a hR hI K hK
       obtain ⟨hM1, hB1, hG1⟩ := hI.1
       have zd14 := hR.pred 14 (by kernel_rfl)
       have zF14 : V 14 = .bool true := hI.2 14 zd14 rfl
       have zf14 := zF14; clear zF14
       have ze49 := hR.frame.done (t := 49) (j := 14) (by kernel_rfl) hR.ok zd14
       rw [if_neg (by simp [Region.wanted, yielded, ze49, zf14])]
       exact hK undef _ (hI.next hR (by kernel_rfl) (Mod.refl _ _) (PB.quiet hI.1 (Mod.refl _ _) (HGs.out D 16 zw1 zw1 (hI.1).g (Mod.refl _ _))) (upd_same V 16 _))
      ·intro D V zw1 a hR hI K hK
       obtain ⟨hM1, hB1, hG1⟩ := hI.1
       have zd14 := hR.pred 14 (by kernel_rfl)
       have zF14 : V 14 = .bool true := hI.2 14 zd14 rfl
       have zf14 := zF14; clear zF14
       have ze49 := hR.frame.done (t := 49) (j := 14) (by kernel_rfl) hR.ok zd14
       rw [if_neg (by simp [Region.wanted, yielded, ze49, zf14])]
       exact hK undef _ (hI.next hR (by kernel_rfl) (Mod.refl _ _) (PB.quiet hI.1 (Mod.refl _ _) (HGs.out D 17 zw1 zw1 (hI.1).g (Mod.refl _ _))) (upd_same V 17 _))
      ·intro D V zw1 a hR hI K hK
       obtain ⟨hM1, hB1, hG1⟩ := hI.1
       have zd14 := hR.pred 14 (by kernel_rfl)
       have zF14 : V 14 = .bool true := hI.2 14 zd14 rfl
       have zf14 := zF14; clear zF14
       have ze49 := hR.frame.done (t := 49) (j := 14) (by kernel_rfl) hR.ok zd14
       rw [if_neg (by simp [Region.wanted, yielded, ze49, zf14])]
       exact hK undef _ (hI.next hR (by kernel_rfl) (Mod.refl _ _) (PB.quiet hI.1 (Mod.refl _ _) (HGs.out D 18 zw1 zw1 (hI.1).g (Mod.refl _ _))) (upd_same V 18 _))
      ·intro D V zw1 a hR hI K hK
       obtain ⟨hM1, hB1, hG1⟩ := hI.1
       have zd14 := hR.pred 14 (by kernel_rfl)
       have zF14 : V 14 = .bool true := hI.2 14 zd14 rfl
       have zf14 := zF14; clear zF14
       have ze49 := hR.frame.done (t := 49) (j := 14) (by kernel_rfl) hR.ok zd14
       rw [if_neg (by simp [Region.wanted, yielded, ze49, zf14])]
       exact hK undef _ (hI.next hR (by kernel_rfl) (Mod.refl _ _) (PB.quiet hI.1 (Mod.refl _ _) (HGs.out D 19 zw1 zw1 (hI.1).g (Mod.refl _ _))) (upd_same V 19 _))
      ·intro D V zw1 a hR hI K hK
       obtain ⟨hM1, hB1, hG1⟩ := hI.1
       have zd14 := hR.pred 14 (by kernel_rfl)
       have zF14 : V 14 = .bool true := hI.2 14 zd14 rfl
       have zf14 := zF14; clear zF14
       have ze49 := hR.frame.done (t := 49) (j := 14) (by kernel_rfl) hR.ok zd14
       rw [if_neg (by simp [Region.wanted, yielded, ze49, zf14])]
       exact hK undef _ (hI.next hR (by kernel_rfl) (Mod.refl _ _) (PB.quiet hI.1 (Mod.refl _ _) (HGs.out D 20 zw1 zw1 (hI.1).g (Mod.refl _ _))) (upd_same V 20 _))
      ·intro D V zw1 a hR hI K hK
       obtain ⟨hM1, hB1, hG1⟩ := hI.1
       have zd14 := hR.pred 14 (by kernel_rfl)
       have zF14 : V 14 = .bool true := hI.2 14 zd14 rfl
       have zf14 := zF14; clear zF14
       have ze49 := hR.frame.done (t := 49) (j := 14) (by kernel_rfl) hR.ok zd14
       rw [if_neg (by simp [Region.wanted, yielded, ze49, zf14])]
       exact hK undef _ (hI.next hR (by kernel_rfl) (Mod.refl _ _) (PB.quiet hI.1 (Mod.refl _ _) (HGs.out D 21 zw1 zw1 (hI.1).g (Mod.refl _ _))) (upd_same V 21 _))
      ·intro D V zw1 a hR hI K hK
       obtain ⟨hM1, hB1, hG1⟩ := hI.1
       have zd14 := hR.pred 14 (by kernel_rfl)
       have zF14 : V 14 = .bool true := hI.2 14 zd14 rfl
       have zf14 := zF14; clear zF14
       have ze49 := hR.frame.done (t := 49) (j := 14) (by kernel_rfl) hR.ok zd14
       rw [if_neg (by simp [Region.wanted, yielded, ze49, zf14])]
       exact hK undef _ (hI.next hR (by kernel_rfl) (Mod.refl _ _) (PB.quiet hI.1 (Mod.refl _ _) (HGs.out D 22 zw1 zw1 (hI.1).g (Mod.refl _ _))) (upd_same V 22 _))
      ·intro D V zw1 a hR hI K hK
       obtain ⟨hM1, hB1, hG1⟩ := hI.1
       have zd14 := hR.pred 14 (by kernel_rfl)
       have zF14 : V 14 = .bool true := hI.2 14 zd14 rfl
       have zf14 := zF14; clear zF14
       have ze49 := hR.frame.done (t := 49) (j := 14) (by kernel_rfl) hR.ok zd14
       rw [if_neg (by simp [Region.wanted, yielded, ze49, zf14])]
       exact hK undef _ (hI.next hR (by kernel_rfl) (Mod.refl _ _) (PB.quiet hI.1 (Mod.refl _ _) (HGs.out D 23 zw1 zw1 (hI.1).g (Mod.refl _ _))) (upd_same V 23 _))
      ·intro D V zw1 a hR hI K hK
       obtain ⟨hM1, hB1, hG1⟩ := hI.1
       have zd14 := hR.pred 14 (by kernel_rfl)
       have zF14 : V 14 = .bool true := hI.2 14 zd14 rfl
       have zf14 := zF14; clear zF14
       have ze49 := hR.frame.done (t := 49) (j := 14) (by kernel_rfl) hR.ok zd14
       rw [if_neg (by simp [Region.wanted, yielded, ze49, zf14])]
       exact hK undef _ (hI.next hR (by kernel_rfl) (Mod.refl _ _) (PB.quiet hI.1 (Mod.refl _ _) (HGs.out D 24 zw1 zw1 (hI.1).g (Mod.refl _ _))) (upd_same V 24 _))
      ·intro D V zw1 a hR hI K hK
       obtain ⟨hM1, hB1, hG1⟩ := hI.1
       have zd14 := hR.pred 14 (by kernel_rfl)
       have zF14 : V 14 = .bool true := hI.2 14 zd14 rfl
       have zf14 := zF14; clear zF14
       have ze49 := hR.frame.done (t := 49) (j := 14) (by kernel_rfl) hR.ok zd14
       rw [if_neg (by simp [Region.wanted, yielded, ze49, zf14])]
       exact hK undef _ (hI.next hR (by kernel_rfl) (Mod.refl _ _) (PB.quiet hI.1 (Mod.refl _ _) (HGs.out D 25 zw1 zw1 (hI.1).g (Mod.refl _ _))) (upd_same V 25 _))
      ·intro D V zw1 a hR hI K hK
       obtain ⟨hM1, hB1, hG1⟩ := hI.1
       have zd14 := hR.pred 14 (by kernel_rfl)
       have zF14 : V 14 = .bool true := hI.2 14 zd14 rfl
       have zf14 := zF14; clear zF14
       have ze49 := hR.frame.done (t := 49) (j := 14) (by kernel_rfl) hR.ok zd14
       rw [if_neg (by simp [Region.wanted, yielded, ze49, zf14])]
       exact hK undef _ (hI.next hR (by kernel_rfl) (Mod.refl _ _) (PB.quiet hI.1 (Mod.refl _ _) (HGs.out D 26 zw1 zw1 (hI.1).g (Mod.refl _ _))) (upd_same V 26 _))
      ·intro D V zw1 a hR hI K hK
       obtain ⟨hM1, hB1, hG1⟩ := hI.1
       have zd14 := hR.pred 14 (by kernel_rfl)
       have zF14 : V 14 = .bool true := hI.2 14 zd14 rfl
       have zf14 := zF14; clear zF14
       have zd26 := hR.pred 26 (by kernel_rfl)
       have zF26 : V 26 = undef := hI.2 26 zd26 rfl
       have zf26 := zF26; clear zF26
       have zd8 := hR.pred 8 (by kernel_rfl)
       have zF8 : V 8 = .bool true := hI.2 8 zd8 rfl
       have zf8 := zF8; clear zF8
       have ze49 := hR.frame.done (t := 49) (j := 14) (by kernel_rfl) hR.ok zd14
       have ze61 := hR.frame.done (t := 61) (j := 26) (by kernel_rfl) hR.ok zd26
       have ze43 := hR.frame.done (t := 43) (j := 8) (by kernel_rfl) hR.ok zd8
       rw [if_pos (by simp [Region.wanted, yielded, ze43, zf8])]
       go_simp
       exact hK (.bool true) _ (hI.next hR (by kernel_rfl) (Mod.refl _ _) (PB.quiet hI.1 (Mod.refl _ _) (HGs.out D 27 zw1 zw1 (hI.1).g (Mod.refl _ _))) (upd_same V 27 _))
      ·intro D V zw1 a hR hI K hK
       obtain ⟨hM1, hB1, hG1⟩ := hI.1
       have zd8 := hR.pred 8 (by kernel_rfl)
       have zF8 : V 8 = .bool true := hI.2 8 zd8 rfl
       have zf8 := zF8; clear zF8
       have zd27 := hR.pred 27 (by kernel_rfl)
       have zF27 : V 27 = .bool true := hI.2 27 zd27 rfl
       have zf27 := zF27; clear zF27
       have ze43 := hR.frame.done (t := 43) (j := 8) (by kernel_rfl) hR.ok zd8
       have ze62 := hR.frame.done (t := 62) (j := 27) (by kernel_rfl) hR.ok zd27
       rw [if_pos (by rfl)]
       go_simp
       exact hK (.bool true) _ (hI.next hR (by kernel_rfl) (Mod.refl _ _) (PB.quiet hI.1 (Mod.refl _ _) (HGs.out D 28 zw1 zw1 (hI.1).g (Mod.refl _ _))) (upd_same V 28 _))
     ·intro D V w9 hD hI
      obtain ⟨hM1, hB1, hG1⟩ := hI.1
      have hMx := hM1
      clear hM1
      have hBx := hB1
      clear hB1
      have hGx := hG1
      clear hG1
      have zF0 : V 0 = .bool false := hI.2 0 (hD 0 (by decide)) rfl
      have zf0 := zF0; clear zF0
      have zF1 : V 1 = .bool true := hI.2 1 (hD 1 (by decide)) rfl
      have zf1 := zF1; clear zF1
      have zF2 : V 2 = .bool true := hI.2 2 (hD 2 (by decide)) rfl
      have zf2 := zF2; clear zF2
      have zF3 : V 3 = .string ⟨s.toArray⟩ := hI.2 3 (hD 3 (by decide)) rfl
      have zf3 := zF3; clear zF3
      have zF4 : V 4 = .int .i64 (k : Int) := hI.2 4 (hD 4 (by decide)) rfl
      have zf4 := zF4; clear zF4
      have zF5 : V 5 = .int .u8 (c : Int) := hI.2 5 (hD 5 (by decide)) rfl
      have zf5 := zF5; clear zF5
      have zF6 : V 6 = .bool true := hI.2 6 (hD 6 (by decide)) rfl
      have zf6 := zF6; clear zF6
      have zF7 : V 7 = .bool true := hI.2 7 (hD 7 (by decide)) rfl
      have zf7 := zF7; clear zF7
      have zF8 : V 8 = .bool true := hI.2 8 (hD 8 (by decide)) rfl
      have zf8 := zF8; clear zF8
      have zF9 : V 9 = .string ⟨s.toArray⟩ := hI.2 9 (hD 9 (by decide)) rfl
      have zf9 := zF9; clear zF9
      have zF10 : V 10 = .int .i64 (k : Int) := hI.2 10 (hD 10 (by decide)) rfl
      have zf10 := zF10; clear zF10
      have zF11 : V 11 = .int .u8 (c : Int) := hI.2 11 (hD 11 (by decide)) rfl
      have zf11 := zF11; clear zF11
      have zF12 : V 12 = .bool false := hI.2 12 (hD 12 (by decide)) rfl
      have zf12 := zF12; clear zF12
      have zF13 : V 13 = .bool true := hI.2 13 (hD 13 (by decide)) rfl
      have zf13 := zF13; clear zF13
      have zF14 : V 14 = .bool true := hI.2 14 (hD 14 (by decide)) rfl
      have zf14 := zF14; clear zF14
      have zF15 : V 15 = undef := hI.2 15 (hD 15 (by decide)) rfl
      have zf15 := zF15; clear zF15
      have zF16 : V 16 = undef := hI.2 16 (hD 16 (by decide)) rfl
      have zf16 := zF16; clear zF16
      have zF17 : V 17 = undef := hI.2 17 (hD 17 (by decide)) rfl
      have zf17 := zF17; clear zF17
      have zF18 : V 18 = undef := hI.2 18 (hD 18 (by decide)) rfl
      have zf18 := zF18; clear zF18
      have zF19 : V 19 = undef := hI.2 19 (hD 19 (by decide)) rfl
      have zf19 := zF19; clear zF19
      have zF20 : V 20 = undef := hI.2 20 (hD 20 (by decide)) rfl
      have zf20 := zF20; clear zF20
      have zF21 : V 21 = undef := hI.2 21 (hD 21 (by decide)) rfl
      have zf21 := zF21; clear zF21
      have zF22 : V 22 = undef := hI.2 22 (hD 22 (by decide)) rfl
      have zf22 := zF22; clear zF22
      have zF23 : V 23 = undef := hI.2 23 (hD 23 (by decide)) rfl
      have zf23 := zF23; clear zF23
      have zF24 : V 24 = undef := hI.2 24 (hD 24 (by decide)) rfl
      have zf24 := zF24; clear zF24
      have zF25 : V 25 = undef := hI.2 25 (hD 25 (by decide)) rfl
      have zf25 := zF25; clear zF25
      have zF26 : V 26 = undef := hI.2 26 (hD 26 (by decide)) rfl
      have zf26 := zF26; clear zF26
      have zF27 : V 27 = .bool true := hI.2 27 (hD 27 (by decide)) rfl
      have zf27 := zF27; clear zF27
      have zF28 : V 28 = .bool true := hI.2 28 (hD 28 (by decide)) rfl
      have zf28 := zF28; clear zF28
      clear hI hD HGs
      simp only [frAll, Act.put, List.setIfInBounds_toArray, List.set_cons_zero, List.set_cons_succ, Nat.zero_add, Nat.reduceAdd, zf0, zf1, zf2, zf3, zf4, zf5, zf6, zf7, zf8, zf9, zf10, zf11, zf12, zf13, zf14, zf15, zf16, zf17, zf18, zf19, zf20, zf21, zf22, zf23, zf24, zf25, zf26, zf27, zf28]
      clear zf0 zf1 zf2 zf3 zf4 zf5 zf6 zf7 zf8 zf9 zf10 zf11 zf12 zf13 zf14 zf15 zf16 zf17 zf18 zf19 zf20 zf21 zf22 zf23 zf24 zf25 zf26 zf27 zf28
      clear V D
      have HP2 : Hid (Pure w w9) := Lib.hid (HP.out.trans hMx)
      clear hGx hMx hBx
      go_wp2_with fail
      try simp only [Exit.inBlock, Exit.then]
      refine bodyPost_ret (v := .bool false) (by simp [results, Tryz.results166, go_sem]) rfl ?_
      rw [HR.out]
      exact ⟨rfl, HP2.out⟩
    | true =>
     have hwk : IntKind.i64.wrap ((k : Int) + 1) = (k : Int) + 1 := by simp [IntKind.wrap, IntKind.bits, IntKind.signed]; omega
     have hb1 : (0 : Int) ≤ (k : Int) + 1 ∧ (k : Int) + 1 ≤ (n : Int) := by omega
     have hb2 : (k : Int) ≤ (k : Int) + 1 := by omega
     by_cases hdc : d = cc
     ·have e : pc = true := by rw [hpc, hsm, hdc]; simp
      have HS2 := Lib.hid (YES.out e)
      subst hdc
      have hdd : (d == d) = true := by simp
      have hdd2 : (d != d) = false := by simp
      clear YES NO h HSM h63 hst hpc hsm e
      go_upto_region 7 with (fail)
      have HGs := Lib.hid (show ∀ (D : Nat → Bool) (zzi : Nat) (zq zq' : World), (fun _ zq => (fun Z => ∃ hz : Nat, hz = Z.heap.size) zq) D zq → Mod (fun _ => False) zq zq' → (fun _ zq => (fun Z => ∃ hz : Nat, hz = Z.heap.size) zq) (upd D zzi true) zq' from by intro D zzi zq zq' h hm; (exact ⟨_, rfl⟩))
      refine wp_region_inv (by kernel_rfl) (by kernel_rfl) (InvF (R := Mod (fun _ => False)) [.is (.bool false),
        .is (.bool true),
        .is (.bool true),
        .is (.string ⟨s.toArray⟩),
        .is (.int .i64 (k : Int)),
        .is (.int .u8 (c : Int)),
        .is (.bool true),
        .is (.bool true),
        .is (.bool true),
        .is (.string ⟨s.toArray⟩),
        .is (.int .i64 (k : Int)),
        .is (.int .u8 (c : Int)),
        .is (.bool true),
        .is (.bool false),
        .is (.bool false),
        .is (.string ⟨s.toArray⟩),
        .is (.int .i64 (k : Int)),
        .is (.int .i64 (k : Int)),
        .is (.int .i64 ((k : Int) + 1)),
        .is (.string ⟨#[d]⟩),
        .is (.string ⟨#[d]⟩),
        .is (.string ⟨s.toArray⟩),
        .is (.int .i64 (k : Int)),
        .is (.int .i64 (k : Int)),
        .is (.int .i64 ((k : Int) + 1)),
        .is (.string ⟨#[d]⟩),
        .is (.bool false),
        .is (.bool false),
        .is (.bool false)]
        (PB wr (fun _ => False) wr.heap.size (fun _ zq => (fun Z => ∃ hz : Nat, hz = Z.heap.size) zq))) (InvF.start (PB.start (Mod.refl _ _) (Nat.le_refl _) (⟨_, rfl⟩))) ?_ ?_
      ·refine .cons ?_ (.cons ?_ (.cons ?_ (.cons ?_ (.cons ?_ (.cons ?_ (.cons ?_ (.cons ?_ (.cons ?_ (.cons ?_ (.cons ?_ (.cons ?_ (.cons ?_ (.cons ?_ (.cons ?_ (.cons ?_ (.cons ?_ (.cons ?_ (.cons ?_ (.cons ?_ (.cons ?_ (.cons ?_ (.cons ?_ (.cons ?_ (.cons ?_ (.cons ?_ (.cons ?_ (.cons ?_ (.cons ?_ .nil))))))))))))))))))))))))))))
       ·intro D V zw1 a hR hI K hK
        obtain ⟨hM1, hB1, hG1⟩ := hI.1
        have ze4 := hR.frame.other (t := 4) (by kernel_rfl) rfl
        rw [if_pos (by rfl)]
        go_simp
        exact hK (.bool false) _ (hI.next hR (by kernel_rfl) (Mod.refl _ _) (PB.quiet hI.1 (Mod.refl _ _) (HGs.out D 0 zw1 zw1 (hI.1).g (Mod.refl _ _))) (upd_same V 0 _))
       ·intro D V zw1 a hR hI K hK
        obtain ⟨hM1, hB1, hG1⟩ := hI.1
        have zd0 := hR.pred 0 (by kernel_rfl)
        have zF0 : V 0 = .bool false := hI.2 0 zd0 rfl
        have zf0 := zF0; clear zF0
        have ze35 := hR.frame.done (t := 35) (j := 0) (by kernel_rfl) hR.ok zd0
        rw [if_pos (by rfl)]
        go_simp
        exact hK (.bool true) _ (hI.next hR (by kernel_rfl) (Mod.refl _ _) (PB.quiet hI.1 (Mod.refl _ _) (HGs.out D 1 zw1 zw1 (hI.1).g (Mod.refl _ _))) (upd_same V 1 _))
       ·intro D V zw1 a hR hI K hK
        obtain ⟨hM1, hB1, hG1⟩ := hI.1
        have zd1 := hR.pred 1 (by kernel_rfl)
        have zF1 : V 1 = .bool true := hI.2 1 zd1 rfl
        have zf1 := zF1; clear zF1
        have ze36 := hR.frame.done (t := 36) (j := 1) (by kernel_rfl) hR.ok zd1
        rw [if_pos (by rfl)]
        go_simp
        exact hK (.bool true) _ (hI.next hR (by kernel_rfl) (Mod.refl _ _) (PB.quiet hI.1 (Mod.refl _ _) (HGs.out D 2 zw1 zw1 (hI.1).g (Mod.refl _ _))) (upd_same V 2 _))
       ·intro D V zw1 a hR hI K hK
        obtain ⟨hM1, hB1, hG1⟩ := hI.1
        have zd2 := hR.pred 2 (by kernel_rfl)
        have zF2 : V 2 = .bool true := hI.2 2 zd2 rfl
        have zf2 := zF2; clear zF2
        have ze0 := hR.frame.other (t := 0) (by kernel_rfl) rfl
        have ze37 := hR.frame.done (t := 37) (j := 2) (by kernel_rfl) hR.ok zd2
        rw [if_pos (by simp [Region.wanted, yielded, ze37, zf2])]
        go_simp
        exact hK (.string ⟨s.toArray⟩) _ (hI.next hR (by kernel_rfl) (Mod.refl _ _) (PB.quiet hI.1 (Mod.refl _ _) (HGs.out D 3 zw1 zw1 (hI.1).g (Mod.refl _ _))) (upd_same V 3 _))
       ·intro D V zw1 a hR hI K hK
        obtain ⟨hM1, hB1, hG1⟩ := hI.1
        have zd2 := hR.pred 2 (by kernel_rfl)
        have zF2 : V 2 = .bool true := hI.2 2 zd2 rfl
        have zf2 := zF2; clear zF2
        have ze3 := hR.frame.other (t := 3) (by kernel_rfl) rfl
        have ze37 := hR.frame.done (t := 37) (j := 2) (by kernel_rfl) hR.ok zd2
        rw [if_pos (by simp [Region.wanted, yielded, ze37, zf2])]
        go_simp
        exact hK (.int .i64 (k : Int)) _ (hI.next hR (by kernel_rfl) (Mod.refl _ _) (PB.quiet hI.1 (Mod.refl _ _) (HGs.out D 4 zw1 zw1 (hI.1).g (Mod.refl _ _))) (upd_same V 4 _))
       ·intro D V zw1 a hR hI K hK
        obtain ⟨hM1, hB1, hG1⟩ := hI.1
        have zd3 := hR.pred 3 (by kernel_rfl)
        have zF3 : V 3 = .string ⟨s.toArray⟩ := hI.2 3 zd3 rfl
        have zf3 := zF3; clear zF3
        have zd4 := hR.pred 4 (by kernel_rfl)
        have zF4 : V 4 = .int .i64 (k : Int) := hI.2 4 zd4 rfl
        have zf4 := zF4; clear zF4
        have zd2 := hR.pred 2 (by kernel_rfl)
        have zF2 : V 2 = .bool true := hI.2 2 zd2 rfl
        have zf2 := zF2; clear zF2
        have ze38 := hR.frame.done (t := 38) (j := 3) (by kernel_rfl) hR.ok zd3
        have ze39 := hR.frame.done (t := 39) (j := 4) (by kernel_rfl) hR.ok zd4
        have ze37 := hR.frame.done (t := 37) (j := 2) (by kernel_rfl) hR.ok zd2
        rw [if_pos (by simp [Region.wanted, yielded, ze37, zf2])]
        go_simp
        exact hK (.int .u8 (c : Int)) _ (hI.next hR (by kernel_rfl) (Mod.refl _ _) (PB.quiet hI.1 (Mod.refl _ _) (HGs.out D 5 zw1 zw1 (hI.1).g (Mod.refl _ _))) (upd_same V 5 _))
       ·intro D V zw1 a hR hI K hK
        obtain ⟨hM1, hB1, hG1⟩ := hI.1
        have zd5 := hR.pred 5 (by kernel_rfl)
        have zF5 : V 5 = .int .u8 (c : Int) := hI.2 5 zd5 rfl
        have zf5 := zF5; clear zF5
        have zd2 := hR.pred 2 (by kernel_rfl)
        have zF2 : V 2 = .bool true := hI.2 2 zd2 rfl
        have zf2 := zF2; clear zF2
        have ze40 := hR.frame.done (t := 40) (j := 5) (by kernel_rfl) hR.ok zd5
        have ze37 := hR.frame.done (t := 37) (j := 2) (by kernel_rfl) hR.ok zd2
        rw [if_pos (by simp [Region.wanted, yielded, ze37, zf2])]
        go_simp
        exact hK (.bool true) _ (hI.next hR (by kernel_rfl) (Mod.refl _ _) (PB.quiet hI.1 (Mod.refl _ _) (HGs.out D 6 zw1 zw1 (hI.1).g (Mod.refl _ _))) (upd_same V 6 _))
       ·intro D V zw1 a hR hI K hK
        obtain ⟨hM1, hB1, hG1⟩ := hI.1
        have zd2 := hR.pred 2 (by kernel_rfl)
        have zF2 : V 2 = .bool true := hI.2 2 zd2 rfl
        have zf2 := zF2; clear zF2
        have zd6 := hR.pred 6 (by kernel_rfl)
        have zF6 : V 6 = .bool true := hI.2 6 zd6 rfl
        have zf6 := zF6; clear zF6
        have ze37 := hR.frame.done (t := 37) (j := 2) (by kernel_rfl) hR.ok zd2
        have ze41 := hR.frame.done (t := 41) (j := 6) (by kernel_rfl) hR.ok zd6
        rw [if_pos (by rfl)]
        go_simp
        exact hK (.bool true) _ (hI.next hR (by kernel_rfl) (Mod.refl _ _) (PB.quiet hI.1 (Mod.refl _ _) (HGs.out D 7 zw1 zw1 (hI.1).g (Mod.refl _ _))) (upd_same V 7 _))
       ·intro D V zw1 a hR hI K hK
        obtain ⟨hM1, hB1, hG1⟩ := hI.1
        have zd7 := hR.pred 7 (by kernel_rfl)
        have zF7 : V 7 = .bool true := hI.2 7 zd7 rfl
        have zf7 := zF7; clear zF7
        have ze42 := hR.frame.done (t := 42) (j := 7) (by kernel_rfl) hR.ok zd7
        rw [if_pos (by rfl)]
        go_simp
        exact hK (.bool true) _ (hI.next hR (by kernel_rfl) (Mod.refl _ _) (PB.quiet hI.1 (Mod.refl _ _) (HGs.out D 8 zw1 zw1 (hI.1).g (Mod.refl _ _))) (upd_same V 8 _))
       ·intro D V zw1 a hR hI K hK
        obtain ⟨hM1, hB1, hG1⟩ := hI.1
        have zd8 := hR.pred 8 (by kernel_rfl)
        have zF8 : V 8 = .bool true := hI.2 8 zd8 rfl
        have zf8 := zF8; clear zF8
        have ze0 := hR.frame.other (t := 0) (by kernel_rfl) rfl
        have ze43 := hR.frame.done (t := 43) (j := 8) (by kernel_rfl) hR.ok zd8
        rw [if_pos (by simp [Region.wanted, yielded, ze43, zf8])]
        go_simp
        exact hK (.string ⟨s.toArray⟩) _ (hI.next hR (by kernel_rfl) (Mod.refl _ _) (PB.quiet hI.1 (Mod.refl _ _) (HGs.out D 9 zw1 zw1 (hI.1).g (Mod.refl _ _))) (upd_same V 9 _))
       ·intro D V zw1 a hR hI K hK
        obtain ⟨hM1, hB1, hG1⟩ := hI.1
        have zd8 := hR.pred 8 (by kernel_rfl)
        have zF8 : V 8 = .bool true := hI.2 8 zd8 rfl
        have zf8 := zF8; clear zF8
        have ze3 := hR.frame.other (t := 3) (by kernel_rfl) rfl
        have ze43 := hR.frame.done (t := 43) (j := 8) (by kernel_rfl) hR.ok zd8
        rw [if_pos (by simp [Region.wanted, yielded, ze43, zf8])]
        go_simp
        exact hK (.int .i64 (k : Int)) _ (hI.next hR (by kernel_rfl) (Mod.refl _ _) (PB.quiet hI.1 (Mod.refl _ _) (HGs.out D 10 zw1 zw1 (hI.1).g (Mod.refl _ _))) (upd_same V 10 _))
       ·intro D V zw1 a hR hI K hK
        obtain ⟨hM1, hB1, hG1⟩ := hI.1
        have zd9 := hR.pred 9 (by kernel_rfl)
        have zF9 : V 9 = .string ⟨s.toArray⟩ := hI.2 9 zd9 rfl
        have zf9 := zF9; clear zF9
        have zd10 := hR.pred 10 (by kernel_rfl)
        have zF10 : V 10 = .int .i64 (k : Int) := hI.2 10 zd10 rfl
        have zf10 := zF10; clear zF10
        have zd8 := hR.pred 8 (by kernel_rfl)
        have zF8 : V 8 = .bool true := hI.2 8 zd8 rfl
        have zf8 := zF8; clear zF8
        have ze44 := hR.frame.done (t := 44) (j := 9) (by kernel_rfl) hR.ok zd9
        have ze45 := hR.frame.done (t := 45) (j := 10) (by kernel_rfl) hR.ok zd10
        have ze43 := hR.frame.done (t := 43) (j := 8) (by kernel_rfl) hR.ok zd8
        rw [if_pos (by simp [Region.wanted, yielded, ze43, zf8])]
        go_simp
        exact hK (.int .u8 (c : Int)) _ (hI.next hR (by kernel_rfl) (Mod.refl _ _) (PB.quiet hI.1 (Mod.refl _ _) (HGs.out D 11 zw1 zw1 (hI.1).g (Mod.refl _ _))) (upd_same V 11 _))
       ·intro D V zw1 a hR hI K hK
        obtain ⟨hM1, hB1, hG1⟩ := hI.1
        have zd11 := hR.pred 11 (by kernel_rfl)
        have zF11 : V 11 = .int .u8 (c : Int) := hI.2 11 zd11 rfl
        have zf11 := zF11; clear zF11
        have zd8 := hR.pred 8 (by kernel_rfl)
        have zF8 : V 8 = .bool true := hI.2 8 zd8 rfl
        have zf8 := zF8; clear zF8
        have ze46 := hR.frame.done (t := 46) (j := 11) (by kernel_rfl) hR.ok zd11
        have ze43 := hR.frame.done (t := 43) (j := 8) (by kernel_rfl) hR.ok zd8
        rw [if_pos (by simp [Region.wanted, yielded, ze43, zf8])]
        go_simp
        refine (HLT.out zw1).mono ?_
        rintro e zw2 ⟨rfl, hm2⟩
        exact hK (.bool true) _ (hI.next hR (by kernel_rfl) hm2 (PB.quiet hI.1 hm2 (HGs.out D 12 _ _ (hI.1).g hm2)) (upd_same V 12 _))
       ·intro D V zw1 a hR hI K hK
        obtain ⟨hM1, hB1, hG1⟩ := hI.1
        have zd12 := hR.pred 12 (by kernel_rfl)
        have zF12 : V 12 = .bool true := hI.2 12 zd12 rfl
        have zf12 := zF12; clear zF12
        have zd8 := hR.pred 8 (by kernel_rfl)
        have zF8 : V 8 = .bool true := hI.2 8 zd8 rfl
        have zf8 := zF8; clear zF8
        have ze47 := hR.frame.done (t := 47) (j := 12) (by kernel_rfl) hR.ok zd12
        have ze43 := hR.frame.done (t := 43) (j := 8) (by kernel_rfl) hR.ok zd8
        rw [if_pos (by simp [Region.wanted, yielded, ze43, zf8])]
        go_simp
        exact hK (.bool false) _ (hI.next hR (by kernel_rfl) (Mod.refl _ _) (PB.quiet hI.1 (Mod.refl _ _) (HGs.out D 13 zw1 zw1 (hI.1).g (Mod.refl _ _))) (upd_same V 13 _))
       ·intro D V zw1 a hR hI K hK
        obtain ⟨hM1, hB1, hG1⟩ := hI.1
        have zd13 := hR.pred 13 (by kernel_rfl)
        have zF13 : V 13 = .bool false := hI.2 13 zd13 rfl
        have zf13 := zF13; clear zF13
        have zd8 := hR.pred 8 (by kernel_rfl)
        have zF8 : V 8 = .bool true := hI.2 8 zd8 rfl
        have zf8 := zF8; clear zF8
        have ze48 := hR.frame.done (t := 48) (j := 13) (by kernel_rfl) hR.ok zd13
        have ze43 := hR.frame.done (t := 43) (j := 8) (by kernel_rfl) hR.ok zd8
        rw [if_pos (by simp [Region.wanted, yielded, ze43, zf8])]
        go_simp
        exact hK (.bool false) _ (hI.next hR (by kernel_rfl) (Mod.refl _ _) (PB.quiet hI.1 (Mod.refl _ _) (HGs.out D 14 zw1 zw1 (hI.1).g (Mod.refl _ _))) (upd_same V 14 _))
       ·intro D V zw1 a hR hI K hK
        obtain ⟨hM1, hB1, hG1⟩ := hI.1
        have zd14 := hR.pred 14 (by kernel_rfl)
        have zF14 : V 14 = .bool false := hI.2 14 zd14 rfl
        have zf14 := zF14; clear zF14
        have ze0 := hR.frame.other (t := 0) (by kernel_rfl) rfl
        have ze49 := hR.frame.done (t := 49) (j := 14) (by kernel_rfl) hR.ok zd14
        rw [if_pos (by simp [Region.wanted, yielded, ze49, zf14])]
        go_simp
        exact hK (.string ⟨s.toArray⟩) _ (hI.next hR (by kernel_rfl) (Mod.refl _ _) (PB.quiet hI.1 (Mod.refl _ _) (HGs.out D 15 zw1 zw1 (hI.1).g (Mod.refl _ _))) (upd_same V 15 _))
       ·intro D V zw1 a hR hI K hK
        obtain ⟨hM1, hB1, hG1⟩ := hI.1
        have zd14 := hR.pred 14 (by kernel_rfl)
        have zF14 : V 14 = .bool false := hI.2 14 zd14 rfl
        have zf14 := zF14; clear zF14
        have ze3 := hR.frame.other (t := 3) (by kernel_rfl) rfl
        have ze49 := hR.frame.done (t := 49) (j := 14) (by kernel_rfl) hR.ok zd14
        rw [if_pos (by simp [Region.wanted, yielded, ze49, zf14])]
        go_simp
        exact hK (.int .i64 (k : Int)) _ (hI.next hR (by kernel_rfl) (Mod.refl _ _) (PB.quiet hI.1 (Mod.refl _ _) (HGs.out D 16 zw1 zw1 (hI.1).g (Mod.refl _ _))) (upd_same V 16 _))
       ·intro D V zw1 a hR hI K hK
        obtain ⟨hM1, hB1, hG1⟩ := hI.1
        have zd14 := hR.pred 14 (by kernel_rfl)
        have zF14 : V 14 = .bool false := hI.2 14 zd14 rfl
        have zf14 := zF14; clear zF14
        have ze3 := hR.frame.other (t := 3) (by kernel_rfl) rfl
        have ze49 := hR.frame.done (t := 49) (j := 14) (by kernel_rfl) hR.ok zd14
        rw [if_pos (by simp [Region.wanted, yielded, ze49, zf14])]
        go_simp
        exact hK (.int .i64 (k : Int)) _ (hI.next hR (by kernel_rfl) (Mod.refl _ _) (PB.quiet hI.1 (Mod.refl _ _) (HGs.out D 17 zw1 zw1 (hI.1).g (Mod.refl _ _))) (upd_same V 17 _))
       ·intro D V zw1 a hR hI K hK
        obtain ⟨hM1, hB1, hG1⟩ := hI.1
        have zd17 := hR.pred 17 (by kernel_rfl)
        have zF17 : V 17 = .int .i64 (k : Int) := hI.2 17 zd17 rfl
        have zf17 := zF17; clear zF17
        have zd14 := hR.pred 14 (by kernel_rfl)
        have zF14 : V 14 = .bool false := hI.2 14 zd14 rfl
        have zf14 := zF14; clear zF14
        have ze52 := hR.frame.done (t := 52) (j := 17) (by kernel_rfl) hR.ok zd17
        have ze49 := hR.frame.done (t := 49) (j := 14) (by kernel_rfl) hR.ok zd14
        rw [if_pos (by simp [Region.wanted, yielded, ze49, zf14])]
        go_simp
        exact hK (.int .i64 ((k : Int) + 1)) _ (hI.next hR (by kernel_rfl) (Mod.refl _ _) (PB.quiet hI.1 (Mod.refl _ _) (HGs.out D 18 zw1 zw1 (hI.1).g (Mod.refl _ _))) (upd_same V 18 _))
       ·intro D V zw1 a hR hI K hK
        obtain ⟨hM1, hB1, hG1⟩ := hI.1
        have zd15 := hR.pred 15 (by kernel_rfl)
        have zF15 : V 15 = .string ⟨s.toArray⟩ := hI.2 15 zd15 rfl
        have zf15 := zF15; clear zF15
        have zd16 := hR.pred 16 (by kernel_rfl)
        have zF16 : V 16 = .int .i64 (k : Int) := hI.2 16 zd16 rfl
        have zf16 := zF16; clear zF16
        have zd18 := hR.pred 18 (by kernel_rfl)
        have zF18 : V 18 = .int .i64 ((k : Int) + 1) := hI.2 18 zd18 rfl
        have zf18 := zF18; clear zF18
        have zd14 := hR.pred 14 (by kernel_rfl)
        have zF14 : V 14 = .bool false := hI.2 14 zd14 rfl
        have zf14 := zF14; clear zF14
        have ze50 := hR.frame.done (t := 50) (j := 15) (by kernel_rfl) hR.ok zd15
        have ze51 := hR.frame.done (t := 51) (j := 16) (by kernel_rfl) hR.ok zd16
        have ze53 := hR.frame.done (t := 53) (j := 18) (by kernel_rfl) hR.ok zd18
        have ze49 := hR.frame.done (t := 49) (j := 14) (by kernel_rfl) hR.ok zd14
        rw [if_pos (by simp [Region.wanted, yielded, ze49, zf14])]
        go_simp
        exact hK (.string ⟨#[d]⟩) _ (hI.next hR (by kernel_rfl) (Mod.refl _ _) (PB.quiet hI.1 (Mod.refl _ _) (HGs.out D 19 zw1 zw1 (hI.1).g (Mod.refl _ _))) (upd_same V 19 _))
       ·intro D V zw1 a hR hI K hK
        obtain ⟨hM1, hB1, hG1⟩ := hI.1
        have zd19 := hR.pred 19 (by kernel_rfl)
        have zF19 : V 19 = .string ⟨#[d]⟩ := hI.2 19 zd19 rfl
        have zf19 := zF19; clear zF19
        have zd14 := hR.pred 14 (by kernel_rfl)
        have zF14 : V 14 = .bool false := hI.2 14 zd14 rfl
        have zf14 := zF14; clear zF14
        have ze54 := hR.frame.done (t := 54) (j := 19) (by kernel_rfl) hR.ok zd19
        have ze49 := hR.frame.done (t := 49) (j := 14) (by kernel_rfl) hR.ok zd14
        rw [if_pos (by simp [Region.wanted, yielded, ze49, zf14])]
        go_simp
        refine (HSL.out zw1).mono ?_
        rintro e zw2 ⟨rfl, hm2⟩
        exact hK (.string ⟨#[d]⟩) _ (hI.next hR (by kernel_rfl) hm2 (PB.quiet hI.1 hm2 (HGs.out D 20 _ _ (hI.1).g hm2)) (upd_same V 20 _))
       ·intro D V zw1 a hR hI K hK
        obtain ⟨hM1, hB1, hG1⟩ := hI.1
        have zd14 := hR.pred 14 (by kernel_rfl)
        have zF14 : V 14 = .bool false := hI.2 14 zd14 rfl
        have zf14 := zF14; clear zF14
        have ze0 := hR.frame.other (t := 0) (by kernel_rfl) rfl
        have ze49 := hR.frame.done (t := 49) (j := 14) (by kernel_rfl) hR.ok zd14
        rw [if_pos (by simp [Region.wanted, yielded, ze49, zf14])]
        go_simp
        exact hK (.string ⟨s.toArray⟩) _ (hI.next hR (by kernel_rfl) (Mod.refl _ _) (PB.quiet hI.1 (Mod.refl _ _) (HGs.out D 21 zw1 zw1 (hI.1).g (Mod.refl _ _))) (upd_same V 21 _))
       ·intro D V zw1 a hR hI K hK
        obtain ⟨hM1, hB1, hG1⟩ := hI.1
        have zd14 := hR.pred 14 (by kernel_rfl)
        have zF14 : V 14 = .bool false := hI.2 14 zd14 rfl
        have zf14 := zF14; clear zF14
        have ze3 := hR.frame.other (t := 3) (by kernel_rfl) rfl
        have ze49 := hR.frame.done (t := 49) (j := 14) (by kernel_rfl) hR.ok zd14
        rw [if_pos (by simp [Region.wanted, yielded, ze49, zf14])]
        go_simp
        exact hK (.int .i64 (k : Int)) _ (hI.next hR (by kernel_rfl) (Mod.refl _ _) (PB.quiet hI.1 (Mod.refl _ _) (HGs.out D 22 zw1 zw1 (hI.1).g (Mod.refl _ _))) (upd_same V 22 _))
       ·intro D V zw1 a hR hI K hK
        obtain ⟨hM1, hB1, hG1⟩ := hI.1
        have zd14 := hR.pred 14 (by kernel_rfl)
        have zF14 : V 14 = .bool false := hI.2 14 zd14 rfl
        have zf14 := zF14; clear zF14
        have ze3 := hR.frame.other (t := 3) (by kernel_rfl) rfl
        have ze49 := hR.frame.done (t := 49) (j := 14) (by kernel_rfl) hR.ok zd14
        rw [if_pos (by simp [Region.wanted, yielded, ze49, zf14])]
        go_simp
        exact hK (.int .i64 (k : Int)) _ (hI.next hR (by kernel_rfl) (Mod.refl _ _) (PB.quiet hI.1 (Mod.refl _ _) (HGs.out D 23 zw1 zw1 (hI.1).g (Mod.refl _ _))) (upd_same V 23 _))
       ·intro D V zw1 a hR hI K hK
        obtain ⟨hM1, hB1, hG1⟩ := hI.1
        have zd23 := hR.pred 23 (by kernel_rfl)
        have zF23 : V 23 = .int .i64 (k : Int) := hI.2 23 zd23 rfl
        have zf23 := zF23; clear zF23
        have zd14 := hR.pred 14 (by kernel_rfl)
        have zF14 : V 14 = .bool false := hI.2 14 zd14 rfl
        have zf14 := zF14; clear zF14
        have ze58 := hR.frame.done (t := 58) (j := 23) (by kernel_rfl) hR.ok zd23
        have ze49 := hR.frame.done (t := 49) (j := 14) (by kernel_rfl) hR.ok zd14
        rw [if_pos (by simp [Region.wanted, yielded, ze49, zf14])]
        go_simp
        exact hK (.int .i64 ((k : Int) + 1)) _ (hI.next hR (by kernel_rfl) (Mod.refl _ _) (PB.quiet hI.1 (Mod.refl _ _) (HGs.out D 24 zw1 zw1 (hI.1).g (Mod.refl _ _))) (upd_same V 24 _))
       ·intro D V zw1 a hR hI K hK
        obtain ⟨hM1, hB1, hG1⟩ := hI.1
        have zd21 := hR.pred 21 (by kernel_rfl)
        have zF21 : V 21 = .string ⟨s.toArray⟩ := hI.2 21 zd21 rfl
        have zf21 := zF21; clear zF21
        have zd22 := hR.pred 22 (by kernel_rfl)
        have zF22 : V 22 = .int .i64 (k : Int) := hI.2 22 zd22 rfl
        have zf22 := zF22; clear zF22
        have zd24 := hR.pred 24 (by kernel_rfl)
        have zF24 : V 24 = .int .i64 ((k : Int) + 1) := hI.2 24 zd24 rfl
        have zf24 := zF24; clear zF24
        have zd14 := hR.pred 14 (by kernel_rfl)
        have zF14 : V 14 = .bool false := hI.2 14 zd14 rfl
        have zf14 := zF14; clear zF14
        have ze56 := hR.frame.done (t := 56) (j := 21) (by kernel_rfl) hR.ok zd21
        have ze57 := hR.frame.done (t := 57) (j := 22) (by kernel_rfl) hR.ok zd22
        have ze59 := hR.frame.done (t := 59) (j := 24) (by kernel_rfl) hR.ok zd24
        have ze49 := hR.frame.done (t := 49) (j := 14) (by kernel_rfl) hR.ok zd14
        rw [if_pos (by simp [Region.wanted, yielded, ze49, zf14])]
        go_simp
        exact hK (.string ⟨#[d]⟩) _ (hI.next hR (by kernel_rfl) (Mod.refl _ _) (PB.quiet hI.1 (Mod.refl _ _) (HGs.out D 25 zw1 zw1 (hI.1).g (Mod.refl _ _))) (upd_same V 25 _))
       ·intro D V zw1 a hR hI K hK
        obtain ⟨hM1, hB1, hG1⟩ := hI.1
        have zd20 := hR.pred 20 (by kernel_rfl)
        have zF20 : V 20 = .string ⟨#[d]⟩ := hI.2 20 zd20 rfl
        have zf20 := zF20; clear zF20
        have zd25 := hR.pred 25 (by kernel_rfl)
        have zF25 : V 25 = .string ⟨#[d]⟩ := hI.2 25 zd25 rfl
        have zf25 := zF25; clear zF25
        have zd14 := hR.pred 14 (by kernel_rfl)
        have zF14 : V 14 = .bool false := hI.2 14 zd14 rfl
        have zf14 := zF14; clear zF14
        have ze55 := hR.frame.done (t := 55) (j := 20) (by kernel_rfl) hR.ok zd20
        have ze60 := hR.frame.done (t := 60) (j := 25) (by kernel_rfl) hR.ok zd25
        have ze49 := hR.frame.done (t := 49) (j := 14) (by kernel_rfl) hR.ok zd14
        rw [if_pos (by simp [Region.wanted, yielded, ze49, zf14])]
        go_simp
        exact hK (.bool false) _ (hI.next hR (by kernel_rfl) (Mod.refl _ _) (PB.quiet hI.1 (Mod.refl _ _) (HGs.out D 26 zw1 zw1 (hI.1).g (Mod.refl _ _))) (upd_same V 26 _))
       ·intro D V zw1 a hR hI K hK
        obtain ⟨hM1, hB1, hG1⟩ := hI.1
        have zd14 := hR.pred 14 (by kernel_rfl)
        have zF14 : V 14 = .bool false := hI.2 14 zd14 rfl
        have zf14 := zF14; clear zF14
        have zd26 := hR.pred 26 (by kernel_rfl)
        have zF26 : V 26 = .bool false := hI.2 26 zd26 rfl
        have zf26 := zF26; clear zF26
        have zd8 := hR.pred 8 (by kernel_rfl)
        have zF8 : V 8 = .bool true := hI.2 8 zd8 rfl
        have zf8 := zF8; clear zF8
        have ze49 := hR.frame.done (t := 49) (j := 14) (by kernel_rfl) hR.ok zd14
        have ze61 := hR.frame.done (t := 61) (j := 26) (by kernel_rfl) hR.ok zd26
        have ze43 := hR.frame.done (t := 43) (j := 8) (by kernel_rfl) hR.ok zd8
        rw [if_pos (by simp [Region.wanted, yielded, ze43, zf8])]
        go_simp
        exact hK (.bool false) _ (hI.next hR (by kernel_rfl) (Mod.refl _ _) (PB.quiet hI.1 (Mod.refl _ _) (HGs.out D 27 zw1 zw1 (hI.1).g (Mod.refl _ _))) (upd_same V 27 _))
       ·intro D V zw1 a hR hI K hK
        obtain ⟨hM1, hB1, hG1⟩ := hI.1
        have zd8 := hR.pred 8 (by kernel_rfl)
        have zF8 : V 8 = .bool true := hI.2 8 zd8 rfl
        have zf8 := zF8; clear zF8
        have zd27 := hR.pred 27 (by kernel_rfl)
        have zF27 : V 27 = .bool false := hI.2 27 zd27 rfl
        have zf27 := zF27; clear zF27
        have ze43 := hR.frame.done (t := 43) (j := 8) (by kernel_rfl) hR.ok zd8
        have ze62 := hR.frame.done (t := 62) (j := 27) (by kernel_rfl) hR.ok zd27
        rw [if_pos (by rfl)]
        go_simp
        exact hK (.bool false) _ (hI.next hR (by kernel_rfl) (Mod.refl _ _) (PB.quiet hI.1 (Mod.refl _ _) (HGs.out D 28 zw1 zw1 (hI.1).g (Mod.refl _ _))) (upd_same V 28 _))
      ·intro D V w9 hD hI
       obtain ⟨hM1, hB1, hG1⟩ := hI.1
       have hMx := hM1
       clear hM1
       have hBx := hB1
       clear hB1
       have hGx := hG1
       clear hG1
       have zF0 : V 0 = .bool false := hI.2 0 (hD 0 (by decide)) rfl
       have zf0 := zF0; clear zF0
       have zF1 : V 1 = .bool true := hI.2 1 (hD 1 (by decide)) rfl
       have zf1 := zF1; clear zF1
       have zF2 : V 2 = .bool true := hI.2 2 (hD 2 (by decide)) rfl
       have zf2 := zF2; clear zF2
       have zF3 : V 3 = .string ⟨s.toArray⟩ := hI.2 3 (hD 3 (by decide)) rfl
       have zf3 := zF3; clear zF3
       have zF4 : V 4 = .int .i64 (k : Int) := hI.2 4 (hD 4 (by decide)) rfl
       have zf4 := zF4; clear zF4
       have zF5 : V 5 = .int .u8 (c : Int) := hI.2 5 (hD 5 (by decide)) rfl
       have zf5 := zF5; clear zF5
       have zF6 : V 6 = .bool true := hI.2 6 (hD 6 (by decide)) rfl
       have zf6 := zF6; clear zF6
       have zF7 : V 7 = .bool true := hI.2 7 (hD 7 (by decide)) rfl
       have zf7 := zF7; clear zF7
       have zF8 : V 8 = .bool true := hI.2 8 (hD 8 (by decide)) rfl
       have zf8 := zF8; clear zF8
       have zF9 : V 9 = .string ⟨s.toArray⟩ := hI.2 9 (hD 9 (by decide)) rfl
       have zf9 := zF9; clear zF9
       have zF10 : V 10 = .int .i64 (k : Int) := hI.2 10 (hD 10 (by decide)) rfl
       have zf10 := zF10; clear zF10
       have zF11 : V 11 = .int .u8 (c : Int) := hI.2 11 (hD 11 (by decide)) rfl
       have zf11 := zF11; clear zF11
       have zF12 : V 12 = .bool true := hI.2 12 (hD 12 (by decide)) rfl
       have zf12 := zF12; clear zF12
       have zF13 : V 13 = .bool false := hI.2 13 (hD 13 (by decide)) rfl
       have zf13 := zF13; clear zF13
       have zF14 : V 14 = .bool false := hI.2 14 (hD 14 (by decide)) rfl
       have zf14 := zF14; clear zF14
       have zF15 : V 15 = .string ⟨s.toArray⟩ := hI.2 15 (hD 15 (by decide)) rfl
       have zf15 := zF15; clear zF15
       have zF16 : V 16 = .int .i64 (k : Int) := hI.2 16 (hD 16 (by decide)) rfl
       have zf16 := zF16; clear zF16
       have zF17 : V 17 = .int .i64 (k : Int) := hI.2 17 (hD 17 (by decide)) rfl
       have zf17 := zF17; clear zF17
       have zF18 : V 18 = .int .i64 ((k : Int) + 1) := hI.2 18 (hD 18 (by decide)) rfl
       have zf18 := zF18; clear zF18
       have zF19 : V 19 = .string ⟨#[d]⟩ := hI.2 19 (hD 19 (by decide)) rfl
       have zf19 := zF19; clear zF19
       have zF20 : V 20 = .string ⟨#[d]⟩ := hI.2 20 (hD 20 (by decide)) rfl
       have zf20 := zF20; clear zF20
       have zF21 : V 21 = .string ⟨s.toArray⟩ := hI.2 21 (hD 21 (by decide)) rfl
       have zf21 := zF21; clear zF21
       have zF22 : V 22 = .int .i64 (k : Int) := hI.2 22 (hD 22 (by decide)) rfl
       have zf22 := zF22; clear zF22
       have zF23 : V 23 = .int .i64 (k : Int) := hI.2 23 (hD 23 (by decide)) rfl
       have zf23 := zF23; clear zF23
       have zF24 : V 24 = .int .i64 ((k : Int) + 1) := hI.2 24 (hD 24 (by decide)) rfl
       have zf24 := zF24; clear zF24
       have zF25 : V 25 = .string ⟨#[d]⟩ := hI.2 25 (hD 25 (by decide)) rfl
       have zf25 := zF25; clear zF25
       have zF26 : V 26 = .bool false := hI.2 26 (hD 26 (by decide)) rfl
       have zf26 := zF26; clear zF26
       have zF27 : V 27 = .bool false := hI.2 27 (hD 27 (by decide)) rfl
       have zf27 := zF27; clear zF27
       have zF28 : V 28 = .bool false := hI.2 28 (hD 28 (by decide)) rfl
       have zf28 := zF28; clear zF28
       clear hI hD HGs
       simp only [frAll, Act.put, List.setIfInBounds_toArray, List.set_cons_zero, List.set_cons_succ, Nat.zero_add, Nat.reduceAdd, zf0, zf1, zf2, zf3, zf4, zf5, zf6, zf7, zf8, zf9, zf10, zf11, zf12, zf13, zf14, zf15, zf16, zf17, zf18, zf19, zf20, zf21, zf22, zf23, zf24, zf25, zf26, zf27, zf28]
       clear zf0 zf1 zf2 zf3 zf4 zf5 zf6 zf7 zf8 zf9 zf10 zf11 zf12 zf13 zf14 zf15 zf16 zf17 zf18 zf19 zf20 zf21 zf22 zf23 zf24 zf25 zf26 zf27 zf28
       clear V D
       have HP2 : Hid (Pure w w9) := Lib.hid (HP.out.trans hMx)
       clear hGx hMx hBx
       go_wp2_with fail
       go_roundg (n - (k + 1))
       case measure => omega
       case rel => exact ⟨k + 1, rfl, by omega, by simp, HS2.out, HP2.out⟩
     ·have e : pc = false := by rw [hpc, hsm]; simpa using hdc
      have HR := Lib.hid (NO.out e)
      have hdd : (d == cc) = false := by simpa using hdc
      have hdd2 : (d != cc) = true := by simpa using hdc
      clear YES NO h HSM h63 hst hpc hsm e
      go_upto_region 7 with (fail)
      have HGs := Lib.hid (show ∀ (D : Nat → Bool) (zzi : Nat) (zq zq' : World), (fun _ zq => (fun Z => ∃ hz : Nat, hz = Z.heap.size) zq) D zq → Mod (fun _ => False) zq zq' → (fun _ zq => (fun Z => ∃ hz : Nat, hz = Z.heap.size) zq) (upd D zzi true) zq' from by intro D zzi zq zq' h hm; (exact ⟨_, rfl⟩))
      refine wp_region_inv (by kernel_rfl) (by kernel_rfl) (InvF (R := Mod (fun _ => False)) [.is (.bool false),
        .is (.bool true),
        .is (.bool true),
        .is (.string ⟨s.toArray⟩),
        .is (.int .i64 (k : Int)),
        .is (.int .u8 (c : Int)),
        .is (.bool true),
        .is (.bool true),
        .is (.bool true),
        .is (.string ⟨s.toArray⟩),
        .is (.int .i64 (k : Int)),
        .is (.int .u8 (c : Int)),
        .is (.bool true),
        .is (.bool false),
        .is (.bool false),
        .is (.string ⟨s.toArray⟩),
        .is (.int .i64 (k : Int)),
        .is (.int .i64 (k : Int)),
        .is (.int .i64 ((k : Int) + 1)),
        .is (.string ⟨#[cc]⟩),
        .is (.string ⟨#[d]⟩),
        .is (.string ⟨s.toArray⟩),
        .is (.int .i64 (k : Int)),
        .is (.int .i64 (k : Int)),
        .is (.int .i64 ((k : Int) + 1)),
        .is (.string ⟨#[cc]⟩),
        .is (.bool true),
        .is (.bool true),
        .is (.bool true)]
        (PB wr (fun _ => False) wr.heap.size (fun _ zq => (fun Z => ∃ hz : Nat, hz = Z.heap.size) zq))) (InvF.start (PB.start (Mod.refl _ _) (Nat.le_refl _) (⟨_, rfl⟩))) ?_ ?_
      ·refine .cons ?_ (.cons ?_ (.cons ?_ (.cons ?_ (.cons ?_ (.cons ?_ (.cons ?_ (.cons ?_ (.cons ?_ (.cons ?_ (.cons ?_ (.cons ?_ (.cons ?_ (.cons ?_ (.cons ?_ (.cons ?_ (.cons ?_ (.cons ?_ (.cons ?_ (.cons ?_ (.cons ?_ (.cons ?_ (.cons ?_ (.cons ?_ (.cons ?_ (.cons ?_ (.cons ?_ (.cons ?_ (.cons ?_ .nil))))))))))))))))))))))))))))
       ·intro D V zw1 a hR hI K hK
        obtain ⟨hM1, hB1, hG1⟩ := hI.1
        have ze4 := hR.frame.other (t := 4) (by kernel_rfl) rfl
        rw [if_pos (by rfl)]
        go_simp
        exact hK (.bool false) _ (hI.next hR (by kernel_rfl) (Mod.refl _ _) (PB.quiet hI.1 (Mod.refl _ _) (HGs.out D 0 zw1 zw1 (hI.1).g (Mod.refl _ _))) (upd_same V 0 _))
       ·intro D V zw1 a hR hI K hK
        obtain ⟨hM1, hB1, hG1⟩ := hI.1
        have zd0 := hR.pred 0 (by kernel_rfl)
        have zF0 : V 0 = .bool false := hI.2 0 zd0 rfl
        have zf0 := zF0; clear zF0
        have ze35 := hR.frame.done (t := 35) (j := 0) (by kernel_rfl) hR.ok zd0
        rw [if_pos (by rfl)]
        go_simp
        exact hK (.bool true) _ (hI.next hR (by kernel_rfl) (Mod.refl _ _) (PB.quiet hI.1 (Mod.refl _ _) (HGs.out D 1 zw1 zw1 (hI.1).g (Mod.refl _ _))) (upd_same V 1 _))
       ·intro D V zw1 a hR hI K hK
        obtain ⟨hM1, hB1, hG1⟩ := hI.1
        have zd1 := hR.pred 1 (by kernel_rfl)
        have zF1 : V 1 = .bool true := hI.2 1 zd1 rfl
        have zf1 := zF1; clear zF1
        have ze36 := hR.frame.done (t := 36) (j := 1) (by kernel_rfl) hR.ok zd1
        rw [if_pos (by rfl)]
        go_simp
        exact hK (.bool true) _ (hI.next hR (by kernel_rfl) (Mod.refl _ _) (PB.quiet hI.1 (Mod.refl _ _) (HGs.out D 2 zw1 zw1 (hI.1).g (Mod.refl _ _))) (upd_same V 2 _))
       ·intro D V zw1 a hR hI K hK
        obtain ⟨hM1, hB1, hG1⟩ := hI.1
        have zd2 := hR.pred 2 (by kernel_rfl)
        have zF2 : V 2 = .bool true := hI.2 2 zd2 rfl
        have zf2 := zF2; clear zF2
        have ze0 := hR.frame.other (t := 0) (by kernel_rfl) rfl
        have ze37 := hR.frame.done (t := 37) (j := 2) (by kernel_rfl) hR.ok zd2
        rw [if_pos (by simp [Region.wanted, yielded, ze37, zf2])]
        go_simp
        exact hK (.string ⟨s.toArray⟩) _ (hI.next hR (by kernel_rfl) (Mod.refl _ _) (PB.quiet hI.1 (Mod.refl _ _) (HGs.out D 3 zw1 zw1 (hI.1).g (Mod.refl _ _))) (upd_same V 3 _))
       ·intro D V zw1 a hR hI K hK
        obtain ⟨hM1, hB1, hG1⟩ := hI.1
        have zd2 := hR.pred 2 (by kernel_rfl)
        have zF2 : V 2 = .bool true := hI.2 2 zd2 rfl
        have zf2 := zF2; clear zF2
        have ze3 := hR.frame.other (t := 3) (by kernel_rfl) rfl
        have ze37 := hR.frame.done (t := 37) (j := 2) (by kernel_rfl) hR.ok zd2
        rw [if_pos (by simp [Region.wanted, yielded, ze37, zf2])]
        go_simp
        exact hK (.int .i64 (k : Int)) _ (hI.next hR (by kernel_rfl) (Mod.refl _ _) (PB.quiet hI.1 (Mod.refl _ _) (HGs.out D 4 zw1 zw1 (hI.1).g (Mod.refl _ _))) (upd_same V 4 _))
       ·intro D V zw1 a hR hI K hK
        obtain ⟨hM1, hB1, hG1⟩ := hI.1
        have zd3 := hR.pred 3 (by kernel_rfl)
        have zF3 : V 3 = .string ⟨s.toArray⟩ := hI.2 3 zd3 rfl
        have zf3 := zF3; clear zF3
        have zd4 := hR.pred 4 (by kernel_rfl)
        have zF4 : V 4 = .int .i64 (k : Int) := hI.2 4 zd4 rfl
        have zf4 := zF4; clear zF4
        have zd2 := hR.pred 2 (by kernel_rfl)
        have zF2 : V 2 = .bool true := hI.2 2 zd2 rfl
        have zf2 := zF2; clear zF2
        have ze38 := hR.frame.done (t := 38) (j := 3) (by kernel_rfl) hR.ok zd3
        have ze39 := hR.frame.done (t := 39) (j := 4) (by kernel_rfl) hR.ok zd4
        have ze37 := hR.frame.done (t := 37) (j := 2) (by kernel_rfl) hR.ok zd2
        rw [if_pos (by simp [Region.wanted, yielded, ze37, zf2])]
        go_simp
        exact hK (.int .u8 (c : Int)) _ (hI.next hR (by kernel_rfl) (Mod.refl _ _) (PB.quiet hI.1 (Mod.refl _ _) (HGs.out D 5 zw1 zw1 (hI.1).g (Mod.refl _ _))) (upd_same V 5 _))
       ·intro D V zw1 a hR hI K hK
        obtain ⟨hM1, hB1, hG1⟩ := hI.1
        have zd5 := hR.pred 5 (by kernel_rfl)
        have zF5 : V 5 = .int .u8 (c : Int) := hI.2 5 zd5 rfl
        have zf5 := zF5; clear zF5
        have zd2 := hR.pred 2 (by kernel_rfl)
        have zF2 : V 2 = .bool true := hI.2 2 zd2 rfl
        have zf2 := zF2; clear zF2
        have ze40 := hR.frame.done (t := 40) (j := 5) (by kernel_rfl) hR.ok zd5
        have ze37 := hR.frame.done (t := 37) (j := 2) (by kernel_rfl) hR.ok zd2
        rw [if_pos (by simp [Region.wanted, yielded, ze37, zf2])]
        go_simp
        exact hK (.bool true) _ (hI.next hR (by kernel_rfl) (Mod.refl _ _) (PB.quiet hI.1 (Mod.refl _ _) (HGs.out D 6 zw1 zw1 (hI.1).g (Mod.refl _ _))) (upd_same V 6 _))
       ·intro D V zw1 a hR hI K hK
        obtain ⟨hM1, hB1, hG1⟩ := hI.1
        have zd2 := hR.pred 2 (by kernel_rfl)
        have zF2 : V 2 = .bool true := hI.2 2 zd2 rfl
        have zf2 := zF2; clear zF2
        have zd6 := hR.pred 6 (by kernel_rfl)
        have zF6 : V 6 = .bool true := hI.2 6 zd6 rfl
        have zf6 := zF6; clear zF6
        have ze37 := hR.frame.done (t := 37) (j := 2) (by kernel_rfl) hR.ok zd2
        have ze41 := hR.frame.done (t := 41) (j := 6) (by kernel_rfl) hR.ok zd6
        rw [if_pos (by rfl)]
        go_simp
        exact hK (.bool true) _ (hI.next hR (by kernel_rfl) (Mod.refl _ _) (PB.quiet hI.1 (Mod.refl _ _) (HGs.out D 7 zw1 zw1 (hI.1).g (Mod.refl _ _))) (upd_same V 7 _))
       ·intro D V zw1 a hR hI K hK
        obtain ⟨hM1, hB1, hG1⟩ := hI.1
        have zd7 := hR.pred 7 (by kernel_rfl)
        have zF7 : V 7 = .bool true := hI.2 7 zd7 rfl
        have zf7 := zF7; clear zF7
        have ze42 := hR.frame.done (t := 42) (j := 7) (by kernel_rfl) hR.ok zd7
        rw [if_pos (by rfl)]
        go_simp
        exact hK (.bool true) _ (hI.next hR (by kernel_rfl) (Mod.refl _ _) (PB.quiet hI.1 (Mod.refl _ _) (HGs.out D 8 zw1 zw1 (hI.1).g (Mod.refl _ _))) (upd_same V 8 _))
       ·intro D V zw1 a hR hI K hK
        obtain ⟨hM1, hB1, hG1⟩ := hI.1
        have zd8 := hR.pred 8 (by kernel_rfl)
        have zF8 : V 8 = .bool true := hI.2 8 zd8 rfl
        have zf8 := zF8; clear zF8
        have ze0 := hR.frame.other (t := 0) (by kernel_rfl) rfl
        have ze43 := hR.frame.done (t := 43) (j := 8) (by kernel_rfl) hR.ok zd8
        rw [if_pos (by simp [Region.wanted, yielded, ze43, zf8])]
        go_simp
        exact hK (.string ⟨s.toArray⟩) _ (hI.next hR (by kernel_rfl) (Mod.refl _ _) (PB.quiet hI.1 (Mod.refl _ _) (HGs.out D 9 zw1 zw1 (hI.1).g (Mod.refl _ _))) (upd_same V 9 _))
       ·intro D V zw1 a hR hI K hK
        obtain ⟨hM1, hB1, hG1⟩ := hI.1
        have zd8 := hR.pred 8 (by kernel_rfl)
        have zF8 : V 8 = .bool true := hI.2 8 zd8 rfl
        have zf8 := zF8; clear zF8
        have ze3 := hR.frame.other (t := 3) (by kernel_rfl) rfl
        have ze43 := hR.frame.done (t := 43) (j := 8) (by kernel_rfl) hR.ok zd8
        rw [if_pos (by simp [Region.wanted, yielded, ze43, zf8])]
        go_simp
        exact hK (.int .i64 (k : Int)) _ (hI.next hR (by kernel_rfl) (Mod.refl _ _) (PB.quiet hI.1 (Mod.refl _ _) (HGs.out D 10 zw1 zw1 (hI.1).g (Mod.refl _ _))) (upd_same V 10 _))
       ·intro D V zw1 a hR hI K hK
        obtain ⟨hM1, hB1, hG1⟩ := hI.1
        have zd9 := hR.pred 9 (by kernel_rfl)
        have zF9 : V 9 = .string ⟨s.toArray⟩ := hI.2 9 zd9 rfl
        have zf9 := zF9; clear zF9
        have zd10 := hR.pred 10 (by kernel_rfl)
        have zF10 : V 10 = .int .i64 (k : Int) := hI.2 10 zd10 rfl
        have zf10 := zF10; clear zF10
        have zd8 := hR.pred 8 (by kernel_rfl)
        have zF8 : V 8 = .bool true := hI.2 8 zd8 rfl
        have zf8 := zF8; clear zF8
        have ze44 := hR.frame.done (t := 44) (j := 9) (by kernel_rfl) hR.ok zd9
        have ze45 := hR.frame.done (t := 45) (j := 10) (by kernel_rfl) hR.ok zd10
        have ze43 := hR.frame.done (t := 43) (j := 8) (by kernel_rfl) hR.ok zd8
        rw [if_pos (by simp [Region.wanted, yielded, ze43, zf8])]
        go_simp
        exact hK (.int .u8 (c : Int)) _ (hI.next hR (by kernel_rfl) (Mod.refl _ _) (PB.quiet hI.1 (Mod.refl _ _) (HGs.out D 11 zw1 zw1 (hI.1).g (Mod.refl _ _))) (upd_same V 11 _))
       ·intro D V zw1 a hR hI K hK
        obtain ⟨hM1, hB1, hG1⟩ := hI.1
        have zd11 := hR.pred 11 (by kernel_rfl)
        have zF11 : V 11 = .int .u8 (c : Int) := hI.2 11 zd11 rfl
        have zf11 := zF11; clear zF11
        have zd8 := hR.pred 8 (by kernel_rfl)
        have zF8 : V 8 = .bool true := hI.2 8 zd8 rfl
        have zf8 := zF8; clear zF8
        have ze46 := hR.frame.done (t := 46) (j := 11) (by kernel_rfl) hR.ok zd11
        have ze43 := hR.frame.done (t := 43) (j := 8) (by kernel_rfl) hR.ok zd8
        rw [if_pos (by simp [Region.wanted, yielded, ze43, zf8])]
        go_simp
        refine (HLT.out zw1).mono ?_
        rintro e zw2 ⟨rfl, hm2⟩
        exact hK (.bool true) _ (hI.next hR (by kernel_rfl) hm2 (PB.quiet hI.1 hm2 (HGs.out D 12 _ _ (hI.1).g hm2)) (upd_same V 12 _))
       ·intro D V zw1 a hR hI K hK
        obtain ⟨hM1, hB1, hG1⟩ := hI.1
        have zd12 := hR.pred 12 (by kernel_rfl)
        have zF12 : V 12 = .bool true := hI.2 12 zd12 rfl
        have zf12 := zF12; clear zF12
        have zd8 := hR.pred 8 (by kernel_rfl)
        have zF8 : V 8 = .bool true := hI.2 8 zd8 rfl
        have zf8 := zF8; clear zF8
        have ze47 := hR.frame.done (t := 47) (j := 12) (by kernel_rfl) hR.ok zd12
        have ze43 := hR.frame.done (t := 43) (j := 8) (by kernel_rfl) hR.ok zd8
        rw [if_pos (by simp [Region.wanted, yielded, ze43, zf8])]
        go_simp
        exact hK (.bool false) _ (hI.next hR (by kernel_rfl) (Mod.refl _ _) (PB.quiet hI.1 (Mod.refl _ _) (HGs.out D 13 zw1 zw1 (hI.1).g (Mod.refl _ _))) (upd_same V 13 _))
       ·intro D V zw1 a hR hI K hK
        obtain ⟨hM1, hB1, hG1⟩ := hI.1
        have zd13 := hR.pred 13 (by kernel_rfl)
        have zF13 : V 13 = .bool false := hI.2 13 zd13 rfl
        have zf13 := zF13; clear zF13
        have zd8 := hR.pred 8 (by kernel_rfl)
        have zF8 : V 8 = .bool true := hI.2 8 zd8 rfl
        have zf8 := zF8; clear zF8
        have ze48 := hR.frame.done (t := 48) (j := 13) (by kernel_rfl) hR.ok zd13
        have ze43 := hR.frame.done (t := 43) (j := 8) (by kernel_rfl) hR.ok zd8
        rw [if_pos (by simp [Region.wanted, yielded, ze43, zf8])]
        go_simp
        exact hK (.bool false) _ (hI.next hR (by kernel_rfl) (Mod.refl _ _) (PB.quiet hI.1 (Mod.refl _ _) (HGs.out D 14 zw1 zw1 (hI.1).g (Mod.refl _ _))) (upd_same V 14 _))
       ·intro D V zw1 a hR hI K hK
        obtain ⟨hM1, hB1, hG1⟩ := hI.1
        have zd14 := hR.pred 14 (by kernel_rfl)
        have zF14 : V 14 = .bool false := hI.2 14 zd14 rfl
        have zf14 := zF14; clear zF14
        have ze0 := hR.frame.other (t := 0) (by kernel_rfl) rfl
        have ze49 := hR.frame.done (t := 49) (j := 14) (by kernel_rfl) hR.ok zd14
        rw [if_pos (by simp [Region.wanted, yielded, ze49, zf14])]
        go_simp
        exact hK (.string ⟨s.toArray⟩) _ (hI.next hR (by kernel_rfl) (Mod.refl _ _) (PB.quiet hI.1 (Mod.refl _ _) (HGs.out D 15 zw1 zw1 (hI.1).g (Mod.refl _ _))) (upd_same V 15 _))
       ·intro D V zw1 a hR hI K hK
        obtain ⟨hM1, hB1, hG1⟩ := hI.1
        have zd14 := hR.pred 14 (by kernel_rfl)
        have zF14 : V 14 = .bool false := hI.2 14 zd14 rfl
        have zf14 := zF14; clear zF14
        have ze3 := hR.frame.other (t := 3) (by kernel_rfl) rfl
        have ze49 := hR.frame.done (t := 49) (j := 14) (by kernel_rfl) hR.ok zd14
        rw [if_pos (by simp [Region.wanted, yielded, ze49, zf14])]
        go_simp
        exact hK (.int .i64 (k : Int)) _ (hI.next hR (by kernel_rfl) (Mod.refl _ _) (PB.quiet hI.1 (Mod.refl _ _) (HGs.out D 16 zw1 zw1 (hI.1).g (Mod.refl _ _))) (upd_same V 16 _))
       ·intro D V zw1 a hR hI K hK
        obtain ⟨hM1, hB1, hG1⟩ := hI.1
        have zd14 := hR.pred 14 (by kernel_rfl)
        have zF14 : V 14 = .bool false := hI.2 14 zd14 rfl
        have zf14 := zF14; clear zF14
        have ze3 := hR.frame.other (t := 3) (by kernel_rfl) rfl
        have ze49 := hR.frame.done (t := 49) (j := 14) (by kernel_rfl) hR.ok zd14
        rw [if_pos (by simp [Region.wanted, yielded, ze49, zf14])]
        go_simp
        exact hK (.int .i64 (k : Int)) _ (hI.next hR (by kernel_rfl) (Mod.refl _ _) (PB.quiet hI.1 (Mod.refl _ _) (HGs.out D 17 zw1 zw1 (hI.1).g (Mod.refl _ _))) (upd_same V 17 _))
       ·intro D V zw1 a hR hI K hK
        obtain ⟨hM1, hB1, hG1⟩ := hI.1
        have zd17 := hR.pred 17 (by kernel_rfl)
        have zF17 : V 17 = .int .i64 (k : Int) := hI.2 17 zd17 rfl
        have zf17 := zF17; clear zF17
        have zd14 := hR.pred 14 (by kernel_rfl)
        have zF14 : V 14 = .bool false := hI.2 14 zd14 rfl
        have zf14 := zF14; clear zF14
        have ze52 := hR.frame.done (t := 52) (j := 17) (by kernel_rfl) hR.ok zd17
        have ze49 := hR.frame.done (t := 49) (j := 14) (by kernel_rfl) hR.ok zd14
        rw [if_pos (by simp [Region.wanted, yielded, ze49, zf14])]
        go_simp
        exact hK (.int .i64 ((k : Int) + 1)) _ (hI.next hR (by kernel_rfl) (Mod.refl _ _) (PB.quiet hI.1 (Mod.refl _ _) (HGs.out D 18 zw1 zw1 (hI.1).g (Mod.refl _ _))) (upd_same V 18 _))
       ·intro D V zw1 a hR hI K hK
        obtain ⟨hM1, hB1, hG1⟩ := hI.1
        have zd15 := hR.pred 15 (by kernel_rfl)
        have zF15 : V 15 = .string ⟨s.toArray⟩ := hI.2 15 zd15 rfl
        have zf15 := zF15; clear zF15
        have zd16 := hR.pred 16 (by kernel_rfl)
        have zF16 : V 16 = .int .i64 (k : Int) := hI.2 16 zd16 rfl
        have zf16 := zF16; clear zF16
        have zd18 := hR.pred 18 (by kernel_rfl)
        have zF18 : V 18 = .int .i64 ((k : Int) + 1) := hI.2 18 zd18 rfl
        have zf18 := zF18; clear zF18
        have zd14 := hR.pred 14 (by kernel_rfl)
        have zF14 : V 14 = .bool false := hI.2 14 zd14 rfl
        have zf14 := zF14; clear zF14
        have ze50 := hR.frame.done (t := 50) (j := 15) (by kernel_rfl) hR.ok zd15
        have ze51 := hR.frame.done (t := 51) (j := 16) (by kernel_rfl) hR.ok zd16
        have ze53 := hR.frame.done (t := 53) (j := 18) (by kernel_rfl) hR.ok zd18
        have ze49 := hR.frame.done (t := 49) (j := 14) (by kernel_rfl) hR.ok zd14
        rw [if_pos (by simp [Region.wanted, yielded, ze49, zf14])]
        go_simp
        exact hK (.string ⟨#[cc]⟩) _ (hI.next hR (by kernel_rfl) (Mod.refl _ _) (PB.quiet hI.1 (Mod.refl _ _) (HGs.out D 19 zw1 zw1 (hI.1).g (Mod.refl _ _))) (upd_same V 19 _))
       ·intro D V zw1 a hR hI K hK
        obtain ⟨hM1, hB1, hG1⟩ := hI.1
        have zd19 := hR.pred 19 (by kernel_rfl)
        have zF19 : V 19 = .string ⟨#[cc]⟩ := hI.2 19 zd19 rfl
        have zf19 := zF19; clear zF19
        have zd14 := hR.pred 14 (by kernel_rfl)
        have zF14 : V 14 = .bool false := hI.2 14 zd14 rfl
        have zf14 := zF14; clear zF14
        have ze54 := hR.frame.done (t := 54) (j := 19) (by kernel_rfl) hR.ok zd19
        have ze49 := hR.frame.done (t := 49) (j := 14) (by kernel_rfl) hR.ok zd14
        rw [if_pos (by simp [Region.wanted, yielded, ze49, zf14])]
        go_simp
        refine (HSL.out zw1).mono ?_
        rintro e zw2 ⟨rfl, hm2⟩
        exact hK (.string ⟨#[d]⟩) _ (hI.next hR (by kernel_rfl) hm2 (PB.quiet hI.1 hm2 (HGs.out D 20 _ _ (hI.1).g hm2)) (upd_same V 20 _))
       ·intro D V zw1 a hR hI K hK
        obtain ⟨hM1, hB1, hG1⟩ := hI.1
        have zd14 := hR.pred 14 (by kernel_rfl)
        have zF14 : V 14 = .bool false := hI.2 14 zd14 rfl
        have zf14 := zF14; clear zF14
        have ze0 := hR.frame.other (t := 0) (by kernel_rfl) rfl
        have ze49 := hR.frame.done (t := 49) (j := 14) (by kernel_rfl) hR.ok zd14
        rw [if_pos (by simp [Region.wanted, yielded, ze49, zf14])]
        go_simp
        exact hK (.string ⟨s.toArray⟩) _ (hI.next hR (by kernel_rfl) (Mod.refl _ _) (PB.quiet hI.1 (Mod.refl _ _) (HGs.out D 21 zw1 zw1 (hI.1).g (Mod.refl _ _))) (upd_same V 21 _))
       ·intro D V zw1 a hR hI K hK
        obtain ⟨hM1, hB1, hG1⟩ := hI.1
        have zd14 := hR.pred 14 (by kernel_rfl)
        have zF14 : V 14 = .bool false := hI.2 14 zd14 rfl
        have zf14 := zF14; clear zF14
        have ze3 := hR.frame.other (t := 3) (by kernel_rfl) rfl
        have ze49 := hR.frame.done (t := 49) (j := 14) (by kernel_rfl) hR.ok zd14
        rw [if_pos (by simp [Region.wanted, yielded, ze49, zf14])]
        go_simp
        exact hK (.int .i64 (k : Int)) _ (hI.next hR (by kernel_rfl) (Mod.refl _ _) (PB.quiet hI.1 (Mod.refl _ _) (HGs.out D 22 zw1 zw1 (hI.1).g (Mod.refl _ _))) (upd_same V 22 _))
       ·intro D V zw1 a hR hI K hK
        obtain ⟨hM1, hB1, hG1⟩ := hI.1
        have zd14 := hR.pred 14 (by kernel_rfl)
        have zF14 : V 14 = .bool false := hI.2 14 zd14 rfl
        have zf14 := zF14; clear zF14
        have ze3 := hR.frame.other (t := 3) (by kernel_rfl) rfl
        have ze49 := hR.frame.done (t := 49) (j := 14) (by kernel_rfl) hR.ok zd14
        rw [if_pos (by simp [Region.wanted, yielded, ze49, zf14])]
        go_simp
        exact hK (.int .i64 (k : Int)) _ (hI.next hR (by kernel_rfl) (Mod.refl _ _) (PB.quiet hI.1 (Mod.refl _ _) (HGs.out D 23 zw1 zw1 (hI.1).g (Mod.refl _ _))) (upd_same V 23 _))
       ·intro D V zw1 a hR hI K hK
        obtain ⟨hM1, hB1, hG1⟩ := hI.1
        have zd23 := hR.pred 23 (by kernel_rfl)
        have zF23 : V 23 = .int .i64 (k : Int) := hI.2 23 zd23 rfl
        have zf23 := zF23; clear zF23
        have zd14 := hR.pred 14 (by kernel_rfl)
        have zF14 : V 14 = .bool false := hI.2 14 zd14 rfl
        have zf14 := zF14; clear zF14
        have ze58 := hR.frame.done (t := 58) (j := 23) (by kernel_rfl) hR.ok zd23
        have ze49 := hR.frame.done (t := 49) (j := 14) (by kernel_rfl) hR.ok zd14
        rw [if_pos (by simp [Region.wanted, yielded, ze49, zf14])]
        go_simp
        exact hK (.int .i64 ((k : Int) + 1)) _ (hI.next hR (by kernel_rfl) (Mod.refl _ _) (PB.quiet hI.1 (Mod.refl _ _) (HGs.out D 24 zw1 zw1 (hI.1).g (Mod.refl _ _))) (upd_same V 24 _))
       ·intro D V zw1 a hR hI K hK
        obtain ⟨hM1, hB1, hG1⟩ := hI.1
        have zd21 := hR.pred 21 (by kernel_rfl)
        have zF21 : V 21 = .string ⟨s.toArray⟩ := hI.2 21 zd21 rfl
        have zf21 := zF21; clear zF21
        have zd22 := hR.pred 22 (by kernel_rfl)
        have zF22 : V 22 = .int .i64 (k : Int) := hI.2 22 zd22 rfl
        have zf22 := zF22; clear zF22
        have zd24 := hR.pred 24 (by kernel_rfl)
        have zF24 : V 24 = .int .i64 ((k : Int) + 1) := hI.2 24 zd24 rfl
        have zf24 := zF24; clear zF24
        have zd14 := hR.pred 14 (by kernel_rfl)
        have zF14 : V 14 = .bool false := hI.2 14 zd14 rfl
        have zf14 := zF14; clear zF14
        have ze56 := hR.frame.done (t := 56) (j := 21) (by kernel_rfl) hR.ok zd21
        have ze57 := hR.frame.done (t := 57) (j := 22) (by kernel_rfl) hR.ok zd22
        have ze59 := hR.frame.done (t := 59) (j := 24) (by kernel_rfl) hR.ok zd24
        have ze49 := hR.frame.done (t := 49) (j := 14) (by kernel_rfl) hR.ok zd14
        rw [if_pos (by simp [Region.wanted, yielded, ze49, zf14])]
        go_simp
        exact hK (.string ⟨#[cc]⟩) _ (hI.next hR (by kernel_rfl) (Mod.refl _ _) (PB.quiet hI.1 (Mod.refl _ _) (HGs.out D 25 zw1 zw1 (hI.1).g (Mod.refl _ _))) (upd_same V 25 _))
       ·intro D V zw1 a hR hI K hK
        obtain ⟨hM1, hB1, hG1⟩ := hI.1
        have zd20 := hR.pred 20 (by kernel_rfl)
        have zF20 : V 20 = .string ⟨#[d]⟩ := hI.2 20 zd20 rfl
        have zf20 := zF20; clear zF20
        have zd25 := hR.pred 25 (by kernel_rfl)
        have zF25 : V 25 = .string ⟨#[cc]⟩ := hI.2 25 zd25 rfl
        have zf25 := zF25; clear zF25
        have zd14 := hR.pred 14 (by kernel_rfl)
        have zF14 : V 14 = .bool false := hI.2 14 zd14 rfl
        have zf14 := zF14; clear zF14
        have ze55 := hR.frame.done (t := 55) (j := 20) (by kernel_rfl) hR.ok zd20
        have ze60 := hR.frame.done (t := 60) (j := 25) (by kernel_rfl) hR.ok zd25
        have ze49 := hR.frame.done (t := 49) (j := 14) (by kernel_rfl) hR.ok zd14
        rw [if_pos (by simp [Region.wanted, yielded, ze49, zf14])]
        go_simp
        exact hK (.bool true) _ (hI.next hR (by kernel_rfl) (Mod.refl _ _) (PB.quiet hI.1 (Mod.refl _ _) (HGs.out D 26 zw1 zw1 (hI.1).g (Mod.refl _ _))) (upd_same V 26 _))
       ·intro D V zw1 a hR hI K hK
        obtain ⟨hM1, hB1, hG1⟩ := hI.1
        have zd14 := hR.pred 14 (by kernel_rfl)
        have zF14 : V 14 = .bool false := hI.2 14 zd14 rfl
        have zf14 := zF14; clear zF14
        have zd26 := hR.pred 26 (by kernel_rfl)
        have zF26 : V 26 = .bool true := hI.2 26 zd26 rfl
        have zf26 := zF26; clear zF26
        have zd8 := hR.pred 8 (by kernel_rfl)
        have zF8 : V 8 = .bool true := hI.2 8 zd8 rfl
        have zf8 := zF8; clear zF8
        have ze49 := hR.frame.done (t := 49) (j := 14) (by kernel_rfl) hR.ok zd14
        have ze61 := hR.frame.done (t := 61) (j := 26) (by kernel_rfl) hR.ok zd26
        have ze43 := hR.frame.done (t := 43) (j := 8) (by kernel_rfl) hR.ok zd8
        rw [if_pos (by simp [Region.wanted, yielded, ze43, zf8])]
        go_simp
        exact hK (.bool true) _ (hI.next hR (by kernel_rfl) (Mod.refl _ _) (PB.quiet hI.1 (Mod.refl _ _) (HGs.out D 27 zw1 zw1 (hI.1).g (Mod.refl _ _))) (upd_same V 27 _))
       ·intro D V zw1 a hR hI K hK
        obtain ⟨hM1, hB1, hG1⟩ := hI.1
        have zd8 := hR.pred 8 (by kernel_rfl)
        have zF8 : V 8 = .bool true := hI.2 8 zd8 rfl
        have zf8 := zF8; clear zF8
        have zd27 := hR.pred 27 (by kernel_rfl)
        have zF27 : V 27 = .bool true := hI.2 27 zd27 rfl
        have zf27 := zF27; clear zF27
        have ze43 := hR.frame.done (t := 43) (j := 8) (by kernel_rfl) hR.ok zd8
        have ze62 := hR.frame.done (t := 62) (j := 27) (by kernel_rfl) hR.ok zd27
        rw [if_pos (by rfl)]
        go_simp
        exact hK (.bool true) _ (hI.next hR (by kernel_rfl) (Mod.refl _ _) (PB.quiet hI.1 (Mod.refl _ _) (HGs.out D 28 zw1 zw1 (hI.1).g (Mod.refl _ _))) (upd_same V 28 _))
      ·intro D V w9 hD hI
       obtain ⟨hM1, hB1, hG1⟩ := hI.1
       have hMx := hM1
       clear hM1
       have hBx := hB1
       clear hB1
       have hGx := hG1
       clear hG1
       have zF0 : V 0 = .bool false := hI.2 0 (hD 0 (by decide)) rfl
       have zf0 := zF0; clear zF0
       have zF1 : V 1 = .bool true := hI.2 1 (hD 1 (by decide)) rfl
       have zf1 := zF1; clear zF1
       have zF2 : V 2 = .bool true := hI.2 2 (hD 2 (by decide)) rfl
       have zf2 := zF2; clear zF2
       have zF3 : V 3 = .string ⟨s.toArray⟩ := hI.2 3 (hD 3 (by decide)) rfl
       have zf3 := zF3; clear zF3
       have zF4 : V 4 = .int .i64 (k : Int) := hI.2 4 (hD 4 (by decide)) rfl
       have zf4 := zF4; clear zF4
       have zF5 : V 5 = .int .u8 (c : Int) := hI.2 5 (hD 5 (by decide)) rfl
       have zf5 := zF5; clear zF5
       have zF6 : V 6 = .bool true := hI.2 6 (hD 6 (by decide)) rfl
       have zf6 := zF6; clear zF6
       have zF7 : V 7 = .bool true := hI.2 7 (hD 7 (by decide)) rfl
       have zf7 := zF7; clear zF7
       have zF8 : V 8 = .bool true := hI.2 8 (hD 8 (by decide)) rfl
       have zf8 := zF8; clear zF8
       have zF9 : V 9 = .string ⟨s.toArray⟩ := hI.2 9 (hD 9 (by decide)) rfl
       have zf9 := zF9; clear zF9
       have zF10 : V 10 = .int .i64 (k : Int) := hI.2 10 (hD 10 (by decide)) rfl
       have zf10 := zF10; clear zF10
       have zF11 : V 11 = .int .u8 (c : Int) := hI.2 11 (hD 11 (by decide)) rfl
       have zf11 := zF11; clear zF11
       have zF12 : V 12 = .bool true := hI.2 12 (hD 12 (by decide)) rfl
       have zf12 := zF12; clear zF12
       have zF13 : V 13 = .bool false := hI.2 13 (hD 13 (by decide)) rfl
       have zf13 := zF13; clear zF13
       have zF14 : V 14 = .bool false := hI.2 14 (hD 14 (by decide)) rfl
       have zf14 := zF14; clear zF14
       have zF15 : V 15 = .string ⟨s.toArray⟩ := hI.2 15 (hD 15 (by decide)) rfl
       have zf15 := zF15; clear zF15
       have zF16 : V 16 = .int .i64 (k : Int) := hI.2 16 (hD 16 (by decide)) rfl
       have zf16 := zF16; clear zF16
       have zF17 : V 17 = .int .i64 (k : Int) := hI.2 17 (hD 17 (by decide)) rfl
       have zf17 := zF17; clear zF17
       have zF18 : V 18 = .int .i64 ((k : Int) + 1) := hI.2 18 (hD 18 (by decide)) rfl
       have zf18 := zF18; clear zF18
       have zF19 : V 19 = .string ⟨#[cc]⟩ := hI.2 19 (hD 19 (by decide)) rfl
       have zf19 := zF19; clear zF19
       have zF20 : V 20 = .string ⟨#[d]⟩ := hI.2 20 (hD 20 (by decide)) rfl
       have zf20 := zF20; clear zF20
       have zF21 : V 21 = .string ⟨s.toArray⟩ := hI.2 21 (hD 21 (by decide)) rfl
       have zf21 := zF21; clear zF21
       have zF22 : V 22 = .int .i64 (k : Int) := hI.2 22 (hD 22 (by decide)) rfl
       have zf22 := zF22; clear zF22
       have zF23 : V 23 = .int .i64 (k : Int) := hI.2 23 (hD 23 (by decide)) rfl
       have zf23 := zF23; clear zF23
       have zF24 : V 24 = .int .i64 ((k : Int) + 1) := hI.2 24 (hD 24 (by decide)) rfl
       have zf24 := zF24; clear zF24
       have zF25 : V 25 = .string ⟨#[cc]⟩ := hI.2 25 (hD 25 (by decide)) rfl
       have zf25 := zF25; clear zF25
       have zF26 : V 26 = .bool true := hI.2 26 (hD 26 (by decide)) rfl
       have zf26 := zF26; clear zF26
       have zF27 : V 27 = .bool true := hI.2 27 (hD 27 (by decide)) rfl
       have zf27 := zF27; clear zF27
       have zF28 : V 28 = .bool true := hI.2 28 (hD 28 (by decide)) rfl
       have zf28 := zF28; clear zF28
       clear hI hD HGs
       simp only [frAll, Act.put, List.setIfInBounds_toArray, List.set_cons_zero, List.set_cons_succ, Nat.zero_add, Nat.reduceAdd, zf0, zf1, zf2, zf3, zf4, zf5, zf6, zf7, zf8, zf9, zf10, zf11, zf12, zf13, zf14, zf15, zf16, zf17, zf18, zf19, zf20, zf21, zf22, zf23, zf24, zf25, zf26, zf27, zf28]
       clear zf0 zf1 zf2 zf3 zf4 zf5 zf6 zf7 zf8 zf9 zf10 zf11 zf12 zf13 zf14 zf15 zf16 zf17 zf18 zf19 zf20 zf21 zf22 zf23 zf24 zf25 zf26 zf27 zf28
       clear V D
       have HP2 : Hid (Pure w w9) := Lib.hid (HP.out.trans hMx)
       clear hGx hMx hBx
       go_wp2_with fail
       try simp only [Exit.inBlock, Exit.then]
       refine bodyPost_ret (v := .bool false) (by simp [results, Tryz.results166, go_sem]) rfl ?_
       rw [HR.out]
       exact ⟨rfl, HP2.out⟩
  ·obtain rfl : k = n := by omega
   have hkk : ¬ (k : Int) < (k : Int) := by omega
   have HR : Hid (pb = true) := Lib.hid (HPA.out.trans hpa)
   clear HPA hpa HFST
   go_wp2_with fail
   go_ret
   rw [HR.out]
   exact ⟨rfl, HP.out⟩

end Go.Proofs.YtnfflgicngeekaaGreatDoor

/- Kinds of searches. -/
namespace Go.Proofs.YtnfflgicngeekaaGreatDoor
set_option linter.unusedVariables false
set_option linter.unusedSimpArgs false
open Go.RowKit

section
variable (w : World) (k n : Int) (A B : Option Addr) (a c b d : Nat)
set_option maxRecDepth 100000 in
set_option maxHeartbeats 4000000 in
theorem nears_calls : Calls Tryz.prog 176 #[.agg #[.int .i64 k, .slice A a c, .int .i64 n, .slice B b d]] w (BoolPost w (nearK k)) := by
 have hB := Blk.new w 29 #[.int .i64 k, .slice A a c, .int .i64 n, .slice B b d]
 have HP := Lib.hid (pure_alloc w (.cells #[.int .i64 k, .slice A a c, .int .i64 n, .slice B b d] 29))
 obtain ⟨r, hr⟩ : ∃ r, nearK k = r := ⟨_, rfl⟩
 rw [hr]
 have HR : Hid ((decide (k = 4) || decide (k = 5)) = r) := Lib.hid hr
 clear hr
 go_enter Tryz.func176, Tryz.ntmps176
 go_upto_region 1 with (fail)
 generalize (w.alloc (.cells #[.int .i64 k, .slice A a c, .int .i64 n, .slice B b d] 29)) = w1 at *
 generalize w.heap.size = g at *
 have x0 := hB.cell 0; have x1 := hB.cell 1; have x2 := hB.cell 2; have x3 := hB.cell 3; simp at x0 x1 x2 x3
 clear hB
 by_cases h4 : k = 4
 ·have e := HR.out
  rw [decide_eq_true h4] at e
  subst e h4
  go_wp2_with fail
  go_ret
  exact ⟨rfl, HP.out⟩
 ·have h4i : (k == 4) = false := by simpa using h4
  by_cases h5 : k = 5
  ·have e := HR.out
   rw [decide_eq_true h5, Bool.or_true] at e
   subst e h5
   go_wp2_with fail
   go_ret
   exact ⟨rfl, HP.out⟩
  ·have h5i : (k == 5) = false := by simpa using h5
   have e := HR.out
   rw [decide_eq_false h4, decide_eq_false h5] at e
   obtain rfl : false = r := e
   go_wp2_with fail
   go_ret
   exact ⟨rfl, HP.out⟩
set_option maxRecDepth 100000 in
set_option maxHeartbeats 4000000 in
theorem byWords_calls : Calls Tryz.prog 178 #[.agg #[.int .i64 k, .slice A a c, .int .i64 n, .slice B b d]] w (BoolPost w (byWK k)) := by
 have hB := Blk.new w 29 #[.int .i64 k, .slice A a c, .int .i64 n, .slice B b d]
 have HP := Lib.hid (pure_alloc w (.cells #[.int .i64 k, .slice A a c, .int .i64 n, .slice B b d] 29))
 have HNK := Lib.hid (fun W => nears_calls W k n A B a c b d)
 obtain ⟨nk, hnk⟩ : ∃ nk, nearK k = nk := ⟨_, rfl⟩
 obtain ⟨r, hr⟩ : ∃ r, byWK k = r := ⟨_, rfl⟩
 rw [hr]
 rw [hnk] at HNK
 have HR : Hid ((decide (k = 2) || (decide (k = 3) || (nk || decide (k = 7)))) = r) := Lib.hid (by rw [← hnk]; exact hr)
 have HNN : Hid (nearK k = nk) := Lib.hid hnk
 clear hr hnk
 go_enter Tryz.func178, Tryz.ntmps178
 go_upto_region 1 with (fail)
 generalize (w.alloc (.cells #[.int .i64 k, .slice A a c, .int .i64 n, .slice B b d] 29)) = w1 at *
 generalize w.heap.size = g at *
 have HB := Lib.hid hB
 have x0 := hB.cell 0; have x1 := hB.cell 1; have x2 := hB.cell 2; have x3 := hB.cell 3; simp at x0 x1 x2 x3
 clear hB
 by_cases h2 : k = 2
 ·have e := HR.out
  rw [decide_eq_true h2, Bool.true_or] at e
  subst e h2
  go_wp2_with fail
  go_ret
  exact ⟨rfl, HP.out⟩
 have h2i : (k == 2) = false := by simpa using h2
 by_cases h3 : k = 3
 ·have e := HR.out
  rw [decide_eq_true h3, Bool.true_or, Bool.or_true] at e
  subst e h3
  go_wp2_with fail
  go_ret
  exact ⟨rfl, HP.out⟩
 have h3i : (k == 3) = false := by simpa using h3
 have e := HR.out
 rw [decide_eq_false h2, decide_eq_false h3, Bool.false_or, Bool.false_or] at e
 clear h2 h3
 go_wp2_with fail
 refine (HNK.out w1).mono ?_
 rintro e2 w2 ⟨rfl, hm⟩
 have HP2 : Hid (Pure w w2) := Lib.hid (HP.out.trans hm)
 have hB2 := HB.out.modp hm
 clear x0 x1 x2 x3 HB HP hm
 have x0 := hB2.cell 0; have x1 := hB2.cell 1; have x2 := hB2.cell 2; have x3 := hB2.cell 3; simp at x0 x1 x2 x3
 clear hB2
 cases nk with
 | true =>
  rw [Bool.true_or] at e
  subst e
  go_wp2_with fail
  go_ret
  exact ⟨rfl, HP2.out⟩
 | false =>
  rw [Bool.false_or] at e
  by_cases h7 : k = 7
  ·rw [decide_eq_true h7] at e
   subst e h7
   go_wp2_with fail
   go_ret
   exact ⟨rfl, HP2.out⟩
  ·have h7i : (k == 7) = false := by simpa using h7
   rw [decide_eq_false h7] at e
   subst e
   go_wp2_with fail
   go_ret
   exact ⟨rfl, HP2.out⟩
end
set_option maxRecDepth 100000 in
set_option maxHeartbeats 4000000 in
theorem reserved_calls (w : World) (s : Str) : Calls Tryz.prog 180 #[.string ⟨s.toArray⟩] w (BoolSame w (resvB s)) := by
 have HR : Hid (resvB s = (s == [97, 108, 108] || (s == [97, 110, 100] || (s == [111, 114] || s == [110, 111, 116])))) := Lib.hid rfl
 generalize resvB s = r at *
 cases h1 : (s == [97, 108, 108]) <;> cases h2 : (s == [97, 110, 100]) <;> cases h3 : (s == [111, 114]) <;> cases h4 : (s == [110, 111, 116])
 all_goals
  have e := HR.out
  rw [h1, h2, h3, h4] at e
  simp only [Bool.true_or, Bool.or_true, Bool.or_false, Bool.false_or] at e
  subst e
  go_enter Tryz.func180, Tryz.ntmps180
  go_wp2_with fail
  go_ret
  exact ⟨rfl, rfl⟩
def kwQ (n : Int) : Str := if n = 1 then [109, 97, 105, 108] else if n = 2 then [102, 105, 108, 101] else if n = 3 then [98, 111, 120] else if n = 4 then [110, 111, 116, 101] else []
set_option maxRecDepth 100000 in
set_option maxHeartbeats 4000000 in
theorem kindWordQ_calls (w : World) (n : Int) : Calls Tryz.prog 110 #[.int .i64 n] w (fun e w' => e = .returned (.string ⟨(kwQ n).toArray⟩) ∧ w' = w) := by
 by_cases h1 : n = 1
 ·subst h1
  go_enter Tryz.func110, Tryz.ntmps110
  go_wp2_with fail
  try simp only [Exit.inBlock, Exit.then]
  refine bodyPost_ret (v := .string ⟨#[109, 97, 105, 108]⟩) (by simp [results, Tryz.results110, go_sem]) rfl ?_
  exact ⟨rfl, rfl⟩
 by_cases h2 : n = 2
 ·subst h2
  go_enter Tryz.func110, Tryz.ntmps110
  go_wp2_with fail
  try simp only [Exit.inBlock, Exit.then]
  refine bodyPost_ret (v := .string ⟨#[102, 105, 108, 101]⟩) (by simp [results, Tryz.results110, go_sem]) rfl ?_
  exact ⟨rfl, rfl⟩
 by_cases h3 : n = 3
 ·subst h3
  go_enter Tryz.func110, Tryz.ntmps110
  go_wp2_with fail
  try simp only [Exit.inBlock, Exit.then]
  refine bodyPost_ret (v := .string ⟨#[98, 111, 120]⟩) (by simp [results, Tryz.results110, go_sem]) rfl ?_
  exact ⟨rfl, rfl⟩
 by_cases h4 : n = 4
 ·subst h4
  go_enter Tryz.func110, Tryz.ntmps110
  go_wp2_with fail
  try simp only [Exit.inBlock, Exit.then]
  refine bodyPost_ret (v := .string ⟨#[110, 111, 116, 101]⟩) (by simp [results, Tryz.results110, go_sem]) rfl ?_
  exact ⟨rfl, rfl⟩
 have e : kwQ n = [] := by unfold kwQ; rw [if_neg h1, if_neg h2, if_neg h3, if_neg h4]
 rw [e]
 have i1 : (n == 1) = false := by simpa using h1
 have i2 : (n == 2) = false := by simpa using h2
 have i3 : (n == 3) = false := by simpa using h3
 have i4 : (n == 4) = false := by simpa using h4
 clear e
 go_enter Tryz.func110, Tryz.ntmps110
 go_wp2_with fail
 try simp only [Exit.inBlock, Exit.then]
 refine bodyPost_ret (v := .string ⟨#[]⟩) (by simp [results, Tryz.results110, go_sem]) rfl ?_
 exact ⟨rfl, rfl⟩

end Go.Proofs.YtnfflgicngeekaaGreatDoor
