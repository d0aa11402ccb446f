/- Texts of the proof of FilterKeeps, put together: EscB. -/
import Derived.Test.YtofkkenmkflmiaaGreatDoorFilterKeepsZ7
import Derived.Test.YtofkkenmkflmiaaGreatDoorFilterKeepsZ30
import Derived.Shelf.Strconv.SyntaxError
import Derived.Shelf.Strings.Prefix
/- Quoted strings: escaped and Unquote of package intake. -/
namespace Go.Proofs.YtofkkenmkflmiaaGreatDoor
set_option linter.unusedVariables false
set_option linter.unusedSimpArgs false
open Go.RowKit

/-- The sentinel is an error that is there. -/
def ErrS (w : World) : Prop := ∃ te pe, w.cell? ⟨6, 0, none⟩ = some (.iface te pe)
theorem ErrS.pure {w w' : World} (h : ErrS w) (hm : Pure w w') : ErrS w' := by
  obtain ⟨te, pe, h⟩ := h
  exact ⟨te, pe, hm.keep h id⟩
def ErrPost (w : World) (e : Ending) (w' : World) : Prop := ∃ N, e = .returned (.iface 256 (.pointer (some ⟨N, 0, none⟩))) ∧ Pure w w'
set_option maxRecDepth 100000 in
set_option maxHeartbeats 1000000 in
theorem toError_calls (w : World) (fn s : ByteArray) (hs : s.size ≤ 1000000) (hE : ErrS w) : Calls Tryz.prog 194 #[.string fn, .string s, .int .i64 16, .int .i64 8, .iface 253 (.int .i64 2)] w (ErrPost w) := by
  obtain ⟨te, pe, hv⟩ := hE
  have HC := Lib.hid (Any.strconv_syntaxError Tryz.laysM279 fn s (.iface te pe) w (by omega) hv (.inr ⟨te, pe, rfl⟩))
  have heq : ∀ W, (binOp .eql 127 (.iface 253 (.int .i64 2)) (.iface 253 (.int .i64 2))).run Tryz.prog W = .ok (.bool true) W := fun W => by kernel_rfl
  clear hv
  go_enter Tryz.func194, Tryz.ntmps194
  go_wp2_with fail
  refine HC.out.mono ?_
  rintro e w1 ⟨N, rfl, hN, _, hb⟩
  go_wp2_with fail
  go_ret
  exact ⟨N, rfl, Mod.of_below hb⟩
def PsPost (w : World) (a b : Nat) (e : Ending) (w' : World) : Prop :=
  ((hv a < 16 ∧ hv b < 16 ∧ e = .returned (.tuple #[.int .u64 ((hv a * 16 + hv b : Nat) : Int), .nilIface])) ∨ (¬ (hv a < 16 ∧ hv b < 16) ∧ ∃ n N, e = .returned (.tuple #[.int .u64 n, .iface 256 (.pointer (some ⟨N, 0, none⟩))]))) ∧ Pure w w'
set_option maxRecDepth 100000 in
set_option maxHeartbeats 1000000 in
theorem parse_calls (w : World) (x y : UInt8) (hE : ErrS w) : Calls Tryz.prog 179 #[.string ⟨#[x, y]⟩, .int .i64 16, .int .i64 8] w (PsPost w x.toNat y.toNat) := by
  have HE := Lib.hid hE
  clear hE
  go_enter Tryz.func179, Tryz.ntmps179
  go_wp2_with fail
  refine (iparse_calls _ x y).mono ?_
  rintro e w1 ⟨h | h, hm⟩
  · obtain ⟨h1, h2, rfl⟩ := h
    have H1 := Lib.hid h1
    have H2 := Lib.hid h2
    clear h1 h2
    go_wp2_with fail
    go_ret2
    exact ⟨.inl ⟨H1.out, H2.out, rfl⟩, hm⟩
  · obtain ⟨h1, rfl⟩ := h
    have H1 := Lib.hid h1
    have HT := Lib.hid (fun fn => toError_calls w1 fn ⟨#[x, y]⟩ (by simp [ByteArray.size]) (HE.out.pure hm))
    clear h1
    go_wp2_with fail
    refine (HT.out _).mono ?_
    rintro e w2 ⟨N, rfl, hm2⟩
    go_wp2_with fail
    go_ret2
    exact ⟨.inr ⟨H1.out, _, N, rfl⟩, hm.trans hm2⟩
theorem prefix_calls (w : World) (s p : ByteArray) : Calls Tryz.prog 101 #[.string s, .string p] w fun e w' => e = .returned (.bool (p.data.toList.isPrefixOf s.data.toList)) ∧ w = w' := by
  refine (Any.strings_HasPrefix Tryz.lays99 s p w).mono ?_
  rintro e w' ⟨rfl, rfl⟩
  exact ⟨rfl, rfl⟩

def EscPost (w : World) (l : Str) (e : Ending) (w' : World) : Prop := e = .returned (.tuple #[.int .u8 ((escP l).1.toNat : Int), .int .i64 ((escP l).2 : Int)]) ∧ Pure w w'

theorem at0 (c : UInt8) (r : Str) : ∀ h, (⟨(c :: r).toArray⟩ : ByteArray)[0]'h = c := fun _ => rfl
theorem at1 (c d : UInt8) (r : Str) : ∀ h, (⟨(c :: d :: r).toArray⟩ : ByteArray)[1]'h = d := fun _ => rfl
theorem u8_eq {c d : UInt8} (h : c.toNat = d.toNat) : c = d := UInt8.toNat_inj.1 h
theorem ne_int {c : UInt8} {n : Nat} (hn : n < 256) (hc : c ≠ UInt8.ofNat n) : c.toNat ≠ n := by
  intro h
  apply hc
  apply u8_eq
  simp
  omega

set_option maxRecDepth 100000 in
set_option maxHeartbeats 2000000 in
theorem escaped1_calls (w : World) (c : UInt8) (r : Str) (hc : c ≠ 92) (hr : r.length ≤ 100000) : Calls Tryz.prog 120 #[.string ⟨(c :: r).toArray⟩] w (EscPost w (c :: r)) := by
  have HE : Hid (escP (c :: r) = (c, 1)) := Lib.hid (by simp [escP, hc])
  have h92 := ne_int (n := 92) (by omega) hc
  have hb : ((c.toNat : Int) != 92) = true := by simp; omega
  have hi := at0 c r
  clear hc h92
  go_enter Tryz.func120, Tryz.ntmps120
  go_wp2_with fail
  go_ret2
  exact ⟨by rw [HE.out]; rfl, Mod.refl _ _⟩
set_option maxRecDepth 100000 in
set_option maxHeartbeats 2000000 in
theorem escaped2_calls (w : World) : Calls Tryz.prog 120 #[.string ⟨#[92]⟩] w (EscPost w [92]) := by
  go_enter Tryz.func120, Tryz.ntmps120
  go_wp2_with fail
  refine (prefix_calls _ _ _).mono ?_
  rintro e w' ⟨rfl, rfl⟩
  rw [show List.isPrefixOf (⟨#[92, 110]⟩ : ByteArray).data.toList (⟨#[92]⟩ : ByteArray).data.toList = false from rfl]
  go_wp2_with fail
  refine (prefix_calls _ _ _).mono ?_
  rintro e w' ⟨rfl, rfl⟩
  rw [show List.isPrefixOf (⟨#[92, 34]⟩ : ByteArray).data.toList (⟨#[92]⟩ : ByteArray).data.toList = false from rfl]
  go_wp2_with fail
  refine (prefix_calls _ _ _).mono ?_
  rintro e w' ⟨rfl, rfl⟩
  rw [show List.isPrefixOf (⟨#[92, 92]⟩ : ByteArray).data.toList (⟨#[92]⟩ : ByteArray).data.toList = false from rfl]
  go_wp2_with fail
  go_ret2
  exact ⟨rfl, Mod.refl _ _⟩
theorem pre2 (c d : UInt8) (x : UInt8) (r : Str) : List.isPrefixOf [x, d] (x :: c :: r) = (d == c) := by simp [List.isPrefixOf]
set_option maxRecDepth 100000 in
set_option maxHeartbeats 4000000 in
theorem escaped3_calls (w : World) (d : UInt8) (r : Str) (hr : r.length ≤ 100000) (hE : ErrS w) : Calls Tryz.prog 120 #[.string ⟨(92 :: d :: r).toArray⟩] w (EscPost w (92 :: d :: r)) := by
  have HE := Lib.hid hE
  clear hE
  have hi0 := at0 92 (d :: r)
  have hi1 := at1 92 d r
  have hz : (⟨(92 :: d :: r).toArray⟩ : ByteArray).size = r.length + 2 := by simp [ByteArray.size]
  have p1 : List.isPrefixOf (⟨#[92, 110]⟩ : ByteArray).data.toList (⟨(92 :: d :: r).toArray⟩ : ByteArray).data.toList = (110 == d) := pre2 d 110 92 r
  have p2 : List.isPrefixOf (⟨#[92, 34]⟩ : ByteArray).data.toList (⟨(92 :: d :: r).toArray⟩ : ByteArray).data.toList = (34 == d) := pre2 d 34 92 r
  have p3 : List.isPrefixOf (⟨#[92, 92]⟩ : ByteArray).data.toList (⟨(92 :: d :: r).toArray⟩ : ByteArray).data.toList = (92 == d) := pre2 d 92 92 r
  have P1 := Lib.hid p1
  have P2 := Lib.hid p2
  have P3 := Lib.hid p3
  clear p1 p2 p3
  by_cases h1 : d = 110
  · subst h1
    go_enter Tryz.func120, Tryz.ntmps120
    go_wp2_with fail
    refine (prefix_calls _ _ _).mono ?_
    rintro e w' ⟨rfl, rfl⟩
    rw [P1.out]
    go_wp2_with fail
    go_ret2
    exact ⟨rfl, Mod.refl _ _⟩
  have q1 : ((110 : UInt8) == d) = false := by simpa using Ne.symm h1
  by_cases h2 : d = 34
  · subst h2
    go_enter Tryz.func120, Tryz.ntmps120
    go_wp2_with fail
    refine (prefix_calls _ _ _).mono ?_
    rintro e w' ⟨rfl, rfl⟩
    rw [P1.out, q1]
    go_wp2_with fail
    refine (prefix_calls _ _ _).mono ?_
    rintro e w' ⟨rfl, rfl⟩
    rw [P2.out]
    go_wp2_with fail
    go_ret2
    exact ⟨rfl, Mod.refl _ _⟩
  have q2 : ((34 : UInt8) == d) = false := by simpa using Ne.symm h2
  by_cases h3 : d = 92
  · subst h3
    go_enter Tryz.func120, Tryz.ntmps120
    go_wp2_with fail
    refine (prefix_calls _ _ _).mono ?_
    rintro e w' ⟨rfl, rfl⟩
    rw [P1.out, q1]
    go_wp2_with fail
    refine (prefix_calls _ _ _).mono ?_
    rintro e w' ⟨rfl, rfl⟩
    rw [P2.out, q2]
    go_wp2_with fail
    refine (prefix_calls _ _ _).mono ?_
    rintro e w' ⟨rfl, rfl⟩
    rw [P3.out]
    go_wp2_with fail
    go_ret2
    exact ⟨rfl, Mod.refl _ _⟩
  have q3 : ((92 : UInt8) == d) = false := by simpa using Ne.symm h3
  by_cases hl : r.length < 2
  · have HX : Hid (escP (92 :: d :: r) = (0, 0)) := Lib.hid (by
      match r, hl with
      | [], _ => simp [escP, h1, h2, h3]
      | [_], _ => simp [escP, h1, h2, h3])
    have g4 : ¬ ((4 : Int) ≤ ((r.length : Nat) : Int) + 2) := by omega
    have g5 : decide (4 ≤ r.length + 2) = false := by simp; omega
    have g6 : ¬ (4 ≤ r.length + 2) := by omega
    clear h1 h2 h3
    go_enter Tryz.func120, Tryz.ntmps120
    go_wp2_with fail
    refine (prefix_calls _ _ _).mono ?_
    rintro e w' ⟨rfl, rfl⟩
    rw [P1.out, q1]
    go_wp2_with fail
    refine (prefix_calls _ _ _).mono ?_
    rintro e w' ⟨rfl, rfl⟩
    rw [P2.out, q2]
    go_wp2_with fail
    refine (prefix_calls _ _ _).mono ?_
    rintro e w' ⟨rfl, rfl⟩
    rw [P3.out, q3]
    go_wp2_with fail
    go_ret2
    exact ⟨by rw [HX.out]; rfl, Mod.refl _ _⟩
  · by_cases h4 : d = 120
    · subst h4
      obtain ⟨x, y, r3, rfl⟩ : ∃ x y r3, r = x :: y :: r3 := by
        match r, hl with
        | [], hl => exact absurd (by simp) hl
        | [_], hl => exact absurd (by simp) hl
        | x :: y :: r3, _ => exact ⟨x, y, r3, rfl⟩
      have hex : (⟨(92 :: 120 :: x :: y :: r3).toArray⟩ : ByteArray).extract 2 4 = ⟨#[x, y]⟩ := by
        apply ByteArray.ext
        simp [ByteArray.data_extract]
      have g4 : (4 : Int) ≤ (((x :: y :: r3).length : Nat) : Int) + 2 := by simp; omega
      have g5 : decide (4 ≤ (x :: y :: r3).length + 2) = true := by simp
      clear h1 h2 h3 hl
      go_enter Tryz.func120, Tryz.ntmps120
      go_wp2_with fail
      refine (prefix_calls _ _ _).mono ?_
      rintro e w' ⟨rfl, rfl⟩
      rw [P1.out, q1]
      go_wp2_with fail
      refine (prefix_calls _ _ _).mono ?_
      rintro e w' ⟨rfl, rfl⟩
      rw [P2.out, q2]
      go_wp2_with fail
      refine (prefix_calls _ _ _).mono ?_
      rintro e w' ⟨rfl, rfl⟩
      rw [P3.out, q3]
      have HK := Lib.hid (hv_hexV x)
      have HL := Lib.hid (hv_hexV y)
      go_wp2_with fail
      refine (parse_calls _ x y HE.out).mono ?_
      rintro e w1 ⟨h | h, hm⟩
      · obtain ⟨k1, k2, rfl⟩ := h
        have e1 := HK.out.2 k1
        have e2 := HL.out.2 k2
        have HX : Hid (escP (92 :: 120 :: x :: y :: r3) = (UInt8.ofNat (hv x.toNat * 16 + hv y.toNat), 4)) := Lib.hid (by
          have a1 := HK.out.1.1 k1
          have a2 := HL.out.1.1 k2
          simp [escP, a1, a2, e1, e2])
        generalize hv x.toNat = p at *
        generalize hv y.toNat = q at *
        clear e1 e2 HK HL
        obtain ⟨m, hm2⟩ : ∃ m, m = p * 16 + q := ⟨_, rfl⟩
        rw [← hm2] at HX ⊢
        have hm256 : m < 256 := by omega
        have HM : Hid ((UInt8.ofNat m).toNat = m) := Lib.hid (by simp; omega)
        clear hm2
        go_wp2_with fail
        go_ret2
        exact ⟨by rw [HX.out]; show _ = Ending.returned (.tuple #[.int .u8 ((UInt8.ofNat m).toNat : Int), .int .i64 4]); rw [HM.out]; rfl, hm⟩
      · obtain ⟨k1, n, N, rfl⟩ := h
        have HX : Hid (escP (92 :: 120 :: x :: y :: r3) = (0, 0)) := Lib.hid (by
          have a : ¬ (hexV x < 16 ∧ hexV y < 16) := fun h => k1 ⟨HK.out.1.2 h.1, HL.out.1.2 h.2⟩
          simp only [escP]
          rw [if_neg (by simp), if_neg (by decide), if_neg (by decide), if_pos trivial, if_neg a])
        clear k1
        go_wp2_with fail
        go_ret2
        exact ⟨by rw [HX.out]; rfl, hm⟩
    · have HX : Hid (escP (92 :: d :: r) = (0, 0)) := Lib.hid (by simp [escP, h1, h2, h3, h4])
      have g4 : (4 : Int) ≤ ((r.length : Nat) : Int) + 2 := by omega
      have g5 : decide (4 ≤ r.length + 2) = true := by simp; omega
      have g6 : 4 ≤ r.length + 2 := by omega
      have h120 := ne_int (n := 120) (by omega) h4
      have g7 : ((d.toNat : Int) == 120) = false := by simp; omega
      clear h1 h2 h3 h4 h120
      go_enter Tryz.func120, Tryz.ntmps120
      go_wp2_with fail
      refine (prefix_calls _ _ _).mono ?_
      rintro e w' ⟨rfl, rfl⟩
      rw [P1.out, q1]
      go_wp2_with fail
      refine (prefix_calls _ _ _).mono ?_
      rintro e w' ⟨rfl, rfl⟩
      rw [P2.out, q2]
      go_wp2_with fail
      refine (prefix_calls _ _ _).mono ?_
      rintro e w' ⟨rfl, rfl⟩
      rw [P3.out, q3]
      go_wp2_with fail
      go_ret2
      exact ⟨by rw [HX.out]; rfl, Mod.refl _ _⟩

theorem escaped_calls (w : World) (l : Str) (h0 : l ≠ []) (hl : l.length ≤ 100000) (hE : ErrS w) : Calls Tryz.prog 120 #[.string ⟨l.toArray⟩] w (EscPost w l) := by
  match l, h0, hl with
  | c :: r, _, hl =>
    by_cases hc : c = 92
    · subst hc
      match r, hl with
      | [], _ => exact escaped2_calls w
      | d :: r2, hl => exact escaped3_calls w d r2 (by simp at hl; omega) hE
    · exact escaped1_calls w c r hc (by simp at hl; omega)

end Go.Proofs.YtofkkenmkflmiaaGreatDoor
