/- Texts of the proof of DecisionTexts, put together: QuoA, Chg. -/
import Derived.Test.YtaidkmnbjbnciaaGreatDoorDecisionTextsZ9
import Derived.Test.YtaidkmnbjbnciaaGreatDoorDecisionTextsZ12
import Derived.Test.YtaidkmnbjbnciaaGreatDoorDecisionTextsZ13
import Derived.Deep.DeepCutAuto
/- Quoted strings: quoted and Quote of package intake. -/
namespace Go.Proofs.YtaidkmnbjbnciaaGreatDoor
set_option linter.unusedVariables false
set_option linter.unusedSimpArgs false
open Go.RowKit

theorem enc_ascii (c : Nat) (h : c < 128) : Utf8.encode (c : Int) = ⟨#[UInt8.ofNat c]⟩ := by
 have key : ∀ n : Fin 128, Utf8.encode (n.val : Int) = ⟨#[UInt8.ofNat n.val]⟩ := by decide +kernel
 exact key ⟨c, h⟩
theorem Mod.of_below' {b : Nat} {a w : World} (h : Below b a w) : Mod (fun k => b ≤ k) a w := ⟨h.os, h.tape, h.output, h.size, fun k _ hs => h.block k (by omega)⟩
/-- A builder at block b that holds the bytes l. -/
def IsB (w : World) (b : Nat) (l : Str) : Prop := Lib.IsBuilderF 132 5 b b (Lib.byteCells l) w ∧ b ≤ w.heap.size
theorem byteCells_app (l m : Str) : Lib.byteCells l ++ Lib.byteCells m = Lib.byteCells (l ++ m) := by simp [Lib.byteCells]
theorem byteCells_len (l : Str) : (Lib.byteCells l).length = l.length := by simp [Lib.byteCells]
def BldPost (w : World) (b : Nat) (l : Str) (v : Value) (e : Ending) (w' : World) : Prop := e = .returned v ∧ IsB w' b l ∧ Below b w w'
theorem bstring_calls (w : World) (b : Nat) (l : Str) (h : IsB w b l) :
  Calls Tryz.prog 86 #[.pointer (some ⟨b, 0, none⟩)] w fun e w' => e = .returned (.string ⟨l.toArray⟩) ∧ Below b w w' := by
 refine (Any.Builder_String_any_k Tryz.lays169 bldExtra9 b b l w h.1 h.2).mono ?_
 rintro e w' ⟨rfl, _, h2, _⟩
 exact ⟨rfl, h2⟩
theorem isB_new (w : World) : IsB (w.alloc (.cells #[.pointer none, .slice none 0 0] 132)) w.heap.size [] := by
 refine ⟨Lib.IsBuilderF.of (.inl ⟨Nat.le_refl _, .slice none 0 0, heap_alloc_new _ _, ⟨rfl, .inl ⟨rfl, rfl⟩⟩, by simp [Value.ownBlock]⟩), by simp⟩
theorem ownF_pure {w w' : World} {base n size : Nat} {e : TypeId} {v : Value} {xs : List Value} (h : w.ownsRowF base e size v n xs) (hm : Pure w w') : w'.ownsRowF base e size v n xs := by
 obtain ⟨h1, h2⟩ := h
 refine ⟨h1, ?_⟩
 rcases h2 with h2 | ⟨g, cap, cur, fz, hv, hg, hh, r⟩
 ·exact .inl h2
 ·exact .inr ⟨g, cap, cur, fz, hv, hg, (hm.block g (lt_of_heap hh) id).trans hh, r⟩
theorem IsB.pure {w w' : World} {b : Nat} {l : Str} (h : IsB w b l) (hm : Pure w w') : IsB w' b l := by
 obtain ⟨h1, h2⟩ := h
 have key : ∀ p, Lib.BuilderAtF 132 5 b b p (Lib.byteCells l) w → Lib.BuilderAtF 132 5 b b p (Lib.byteCells l) w' := by
  rintro p ⟨k1, v, k2, k3, k4⟩
  exact ⟨k1, v, (hm.block b (lt_of_heap k2) id).trans k2, ownF_pure k3 hm, k4⟩
 exact ⟨h1.elim (fun x => .inl (key _ x)) (fun x => .inr (key _ x)), Nat.le_trans h2 hm.size⟩
end Go.Proofs.YtaidkmnbjbnciaaGreatDoor

/- Changed strings of the stream. -/
namespace Go.Proofs.YtaidkmnbjbnciaaGreatDoor
set_option linter.unusedVariables false
set_option linter.unusedSimpArgs false
open Go.RowKit

def ChgPost (w : World) (b N n : Nat) (e : Ending) (w' : World) : Prop :=
 ∃ a : ByteArray, a.size ≤ n ∧ e = .returned (.string a) ∧ Strm w' b (N + 3) ∧ Mod (· = b) w w'

set_option maxRecDepth 100000 in
set_option maxHeartbeats 4000000 in
theorem changed_calls (w : World) (b N : Nat) (t wi : ByteArray) (hS : Strm w b N) (hN : N ≤ 100000000) (ht : t.size ≤ 100000) (h1 : 1 ≤ wi.size) (h2 : wi.size ≤ 1000) (h3 : ∀ i (h : i < wi.size), wi[i].toNat < 128) :
  Calls Tryz.prog 67 #[.pointer (some ⟨b, 0, none⟩), .string t, .string wi] w (ChgPost w b N (t.size + wi.size)) := by
 have hwe : wi.toList.isEmpty = false := by
  rw [ByteArray.toList_eq]
  have hh : wi.data.toList.length = wi.size := by simp
  match hl : wi.data.toList with
  | [] => rw [hl] at hh; simp at hh; omega
  | _ :: _ => rfl
 by_cases h0 : t.size = 0
 ·have hte : t = ⟨#[]⟩ := by
   apply ByteArray.ext
   exact Array.eq_empty_of_size_eq_zero h0
  subst hte
  go_enter Tryz.func67, Tryz.ntmps67
  go_wp2_with fail
  go_ret
  exact ⟨wi, by omega, rfl, hS.more (by omega), Mod.refl _ _⟩
 ·have hte : t.toList.isEmpty = false := by
   rw [ByteArray.toList_eq]
   have hh : t.data.toList.length = t.size := by simp
   match hl : t.data.toList with
   | [] => rw [hl] at hh; simp at hh; omega
   | _ :: _ => rfl
  have H3 := Lib.hid h3
  clear h3
  go_enter Tryz.func67, Tryz.ntmps67
  go_wp2_with fail
  refine (next_calls _ b N _ hS (by omega) (by omega) (by omega)).mono ?_
  rintro e w1 ⟨i, hi0, hi1, rfl, hS1, hM1⟩
  obtain ⟨i, rfl⟩ := Int.eq_ofNat_of_zero_le hi0
  have hi : i < t.size := by omega
  clear hi0 hi1 hS
  go_wp2_with fail
  refine (next_calls _ b (N + 1) _ hS1 (by omega) (by omega) (by omega)).mono ?_
  rintro e w2 ⟨j, hj0, hj1, rfl, hS2, hM2⟩
  obtain ⟨j, rfl⟩ := Int.eq_ofNat_of_zero_le hj0
  have hj : j < wi.size := by omega
  clear hj0 hj1 hS1
  have hc := H3.out j hj
  generalize hcc : wi[j].toNat = c at *
  go_wp2_with fail
  refine (next_calls _ b (N + 1 + 1) _ hS2 (by omega) (by omega) (by omega)).mono ?_
  rintro e w3 ⟨u, hu0, hu1, rfl, hS3, hM3⟩
  have HM := Lib.hid ((hM1.trans hM2).trans hM3)
  have henc := enc_ascii c hc
  have hzs : (⟨#[UInt8.ofNat c]⟩ : ByteArray).size = 1 := by simp [ByteArray.size]
  generalize (⟨#[UInt8.ofNat c]⟩ : ByteArray) = z at *
  have hx1 : (t.extract 0 i).size = i := by simp; omega
  have hx2 : (t.extract (i + 1) t.size).size = t.size - (i + 1) := by simp
  have hx3 : (t.extract i t.size).size = t.size - i := by simp
  have hwr : IntKind.i32.wrap (c : Int) = (c : Int) := by simp [IntKind.wrap, IntKind.bits, IntKind.signed]; omega
  clear H3 hS2 hM1 hM2 hM3
  by_cases hu : u = 0
  ·subst hu
   go_wp2_with fail
   go_quiet (fail)
   go_wp2_with fail
   go_ret
   exact ⟨_, by simp only [ByteArray.size_append, hx1, hx2, hzs]; omega, rfl, hS3, HM.out.drewN _⟩
  ·by_cases hu' : u = 1
   ·subst hu'
    go_wp2_with fail
    go_quiet (fail)
    go_wp2_with fail
    go_ret
    exact ⟨_, by simp only [ByteArray.size_append, hx1, hx2, hx3, hzs]; omega, rfl, hS3, HM.out.drewN _⟩
   ·obtain rfl : u = 2 := by omega
    go_wp2_with fail
    go_quiet (fail)
    go_wp2_with fail
    go_ret
    exact ⟨_, by simp only [ByteArray.size_append, hx1, hx2, hx3, hzs]; omega, rfl, hS3, HM.out.drewN _⟩

end Go.Proofs.YtaidkmnbjbnciaaGreatDoor
