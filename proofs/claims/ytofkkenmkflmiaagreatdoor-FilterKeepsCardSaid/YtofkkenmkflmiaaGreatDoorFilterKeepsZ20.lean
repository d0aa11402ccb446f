/- Texts of the proof of FilterKeeps, put together: QuoA. -/
import Derived.Test.YtofkkenmkflmiaaGreatDoorFilterKeepsZ8
import Derived.Test.YtofkkenmkflmiaaGreatDoorFilterKeepsZ12
import Derived.Test.YtofkkenmkflmiaaGreatDoorFilterKeepsZ14
import Derived.Deep.DeepCutAuto
/- Quoted strings: quoted and Quote of package intake. -/
namespace Go.Proofs.YtofkkenmkflmiaaGreatDoor
set_option linter.unusedVariables false
set_option linter.unusedSimpArgs false
open Go.RowKit

theorem enc_ascii (c : Nat) (h : c < 128) : Utf8.encode (c : Int) = ⟨#[UInt8.ofNat c]⟩ := by
  have key : ∀ n : Fin 128, Utf8.encode (n.val : Int) = ⟨#[UInt8.ofNat n.val]⟩ := by decide +kernel
  exact key ⟨c, h⟩
theorem quoB_vis (c : Nat) (h1 : 33 ≤ c) (h2 : c ≤ 126) (h3 : c ≠ 34) (h4 : c ≠ 92) : quoB (UInt8.ofNat c) = [UInt8.ofNat c] := by
  have key : ∀ n : Fin 256, 33 ≤ n.val → n.val ≤ 126 → n.val ≠ 34 → n.val ≠ 92 → quoB (UInt8.ofNat n.val) = [UInt8.ofNat n.val] := by decide +kernel
  exact key ⟨c, by omega⟩ h1 h2 h3 h4
theorem quoB_hid (c : Nat) (hc : c < 256) (h1 : c < 33 ∨ 126 < c) (h3 : c ≠ 10) : quoB (UInt8.ofNat c) = [92, 120, hexD (c / 16), hexD (c % 16)] := by
  have key : ∀ n : Fin 256, (n.val < 33 ∨ 126 < n.val) → n.val ≠ 10 → quoB (UInt8.ofNat n.val) = [92, 120, hexD (n.val / 16), hexD (n.val % 16)] := by decide +kernel
  exact key ⟨c, hc⟩ h1 h3
def hexB : ByteArray := ⟨#[48, 49, 50, 51, 52, 53, 54, 55, 56, 57, 97, 98, 99, 100, 101, 102]⟩
theorem hexB_at (n : Nat) (h : n < 16) : hexB.extract n (n + 1) = ⟨#[hexD n]⟩ := by
  have key : ∀ n : Fin 16, hexB.extract n.val (n.val + 1) = ⟨#[hexD n.val]⟩ := by decide +kernel
  exact key ⟨n, h⟩
def StrPost1 (w : World) (l : Str) (e : Ending) (w' : World) : Prop := e = .returned (.string ⟨l.toArray⟩) ∧ Pure w w'

set_option maxRecDepth 100000 in
set_option maxHeartbeats 1000000 in
theorem quoted_calls (w : World) (c : Nat) (hc : c < 256) : Calls Tryz.prog 121 #[.int .u8 (c : Int)] w (StrPost1 w (quoB (UInt8.ofNat c))) := by
  by_cases h34 : c = 34
  · subst h34
    go_enter Tryz.func121, Tryz.ntmps121
    go_wp2_with fail
    go_ret
    exact ⟨rfl, Mod.refl _ _⟩
  by_cases h92 : c = 92
  · subst h92
    go_enter Tryz.func121, Tryz.ntmps121
    go_wp2_with fail
    go_ret
    exact ⟨rfl, Mod.refl _ _⟩
  have b34 : ((c : Int) == 34) = false := by simp; omega
  have b92 : ((c : Int) == 92) = false := by simp; omega
  by_cases h10 : c = 10
  · subst h10
    go_enter Tryz.func121, Tryz.ntmps121
    go_wp2_with fail
    go_ret
    exact ⟨rfl, Mod.refl _ _⟩
  have b10 : ((c : Int) == 10) = false := by simp; omega
  by_cases hv : c < 33 ∨ 126 < c
  · have HQ := Lib.hid (quoB_hid c hc hv h10)
    clear h34 h92 h10
    have HEX : Hid ((⟨#[92, 120]⟩ : ByteArray) ++ hexB.extract (c / 16) (c / 16 + 1) ++ hexB.extract (c % 16) (c % 16 + 1) = ⟨[92, 120, hexD (c / 16), hexD (c % 16)].toArray⟩) := Lib.hid (by
      rw [hexB_at (c / 16) (by omega), hexB_at (c % 16) (by omega)]
      rfl)
    by_cases hv1 : c < 33
    · have v1 : (c : Int) < 33 := by omega
      have d1 : decide (c < 33) = true := by simpa using hv1
      clear hv
      go_enter Tryz.func121, Tryz.ntmps121
      go_wp2_with fail
      go_quiet (fail)
      go_wp2_with fail
      go_ret
      exact ⟨by rw [HQ.out]; exact congrArg (fun x => Ending.returned (.string x)) HEX.out, (Mod.refl _ _).drewN _⟩
    · have v1 : ¬ ((c : Int) < 33) := by omega
      have v2 : (126 : Int) < (c : Int) := by omega
      have d1 : decide (c < 33) = false := by simpa using hv1
      have d2 : decide (126 < c) = true := by simp; omega
      clear hv
      go_enter Tryz.func121, Tryz.ntmps121
      go_wp2_with fail
      go_quiet (fail)
      go_wp2_with fail
      go_ret
      exact ⟨by rw [HQ.out]; exact congrArg (fun x => Ending.returned (.string x)) HEX.out, (Mod.refl _ _).drewN _⟩
  · have v1 : ¬ ((c : Int) < 33) := by omega
    have v2 : ¬ ((126 : Int) < (c : Int)) := by omega
    have HQ := Lib.hid (quoB_vis c (by omega) (by omega) h34 h92)
    have HEN := Lib.hid (enc_ascii c (by omega))
    clear h34 h92 h10 hv
    go_enter Tryz.func121, Tryz.ntmps121
    go_wp2_with fail
    go_ret
    exact ⟨by rw [HQ.out]; exact congrArg (fun x => Ending.returned (.string x)) HEN.out, Mod.refl _ _⟩

/-- A builder at block b that holds the bytes l. -/
def IsB (w : World) (b : Nat) (l : Str) : Prop := Lib.IsBuilderF 123 5 b b (Lib.byteCells l) w ∧ b ≤ w.heap.size
theorem ownF_pure {w w' : World} {base n size : Nat} {e : TypeId} {v : Value} {xs : List Value} (h : w.ownsRowF base e size v n xs) (hm : Pure w w') : w'.ownsRowF base e size v n xs := by
  obtain ⟨h1, h2⟩ := h
  refine ⟨h1, ?_⟩
  rcases h2 with h2 | ⟨g, cap, cur, fz, hv, hg, hh, r⟩
  · exact .inl h2
  · exact .inr ⟨g, cap, cur, fz, hv, hg, (hm.block g (lt_of_heap hh) id).trans hh, r⟩
theorem IsB.pure {w w' : World} {b : Nat} {l : Str} (h : IsB w b l) (hm : Pure w w') : IsB w' b l := by
  obtain ⟨h1, h2⟩ := h
  have key : ∀ p, Lib.BuilderAtF 123 5 b b p (Lib.byteCells l) w → Lib.BuilderAtF 123 5 b b p (Lib.byteCells l) w' := by
    rintro p ⟨k1, v, k2, k3, k4⟩
    exact ⟨k1, v, (hm.block b (lt_of_heap k2) id).trans k2, ownF_pure k3 hm, k4⟩
  exact ⟨h1.elim (fun x => .inl (key _ x)) (fun x => .inr (key _ x)), Nat.le_trans h2 hm.size⟩
end Go.Proofs.YtofkkenmkflmiaaGreatDoor
