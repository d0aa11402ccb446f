/- Digests: Digest of package intake, DigestOf of the reference. -/
import Derived.Test.YtbpicgmblpejoaaDoorDigA
import Derived.Test.YtbpicgmblpejoaaDoorLayBld
import Derived.Shelf.Strings.Repeat
namespace Go.Proofs.YtbpicgmblpejoaaDoor
set_option linter.unusedVariables false
set_option linter.unusedSimpArgs false
open Go.RowKit

def FuPost (w : World) (h : Nat) (e : Ending) (w' : World) : Prop := ∃ k, 1 ≤ k ∧ k ≤ 16 ∧ h < 16 ^ k ∧ e = .returned (.string ⟨(hexR h k).toArray⟩) ∧ Pure w w'
set_option maxRecDepth 100000 in
set_option maxHeartbeats 400000 in
theorem ifu_calls (w : World) (h : Nat) (hh : h < 16 ^ 16) (hD : Deb w) : Calls Tryd.prog 26 #[.int .u64 (h : Int), .int .i64 16] w (FuPost w h) := by
  have HC := Lib.hid (formatBits_calls w h hh hD)
  clear hh hD
  go_enter Tryd.func26, Tryd.ntmps26
  go_wp2_with fail
  refine HC.out.mono ?_
  rintro e w1 ⟨k, h1, h2, h3, rfl, hm⟩
  have H3 := Lib.hid h3
  clear h3 HC
  generalize hl : hexR h k = l at *
  have HL := Lib.hid hl
  clear hl
  go_wp2_with fail
  go_ret
  exact ⟨k, h1, h2, H3.out, by rw [HL.out]; rfl, hm⟩
set_option maxRecDepth 100000 in
set_option maxHeartbeats 400000 in
theorem fu_calls (w : World) (h : Nat) (hh : h < 16 ^ 16) (hD : Deb w) : Calls Tryd.prog 20 #[.int .u64 (h : Int), .int .i64 16] w (FuPost w h) := by
  have HC := Lib.hid (ifu_calls w h hh hD)
  clear hh hD
  go_enter Tryd.func20, Tryd.ntmps20
  go_wp2_with fail
  refine HC.out.mono ?_
  rintro e w1 ⟨k, h1, h2, h3, rfl, hm⟩
  have H3 := Lib.hid h3
  clear h3 HC
  generalize hl : hexR h k = l at *
  have HL := Lib.hid hl
  clear hl
  go_wp2_with fail
  go_ret
  exact ⟨k, h1, h2, H3.out, by rw [HL.out]; rfl, hm⟩
theorem bldExtra5 : Builder.Extra Tryd.prog Tryd.lays105_ren where
  sizeBuilder := by kernel_rfl
  liesBuilder := by kernel_rfl
  t5 := Tryd.underlying5
  a5 := Tryd.isAgg5
  z5 := Tryd.sizeOf5
  v5 := Tryd.zeroValue5
  infoByte := by kernel_rfl
  cellsByte := by kernel_rfl
  sizeByte := by kernel_rfl
  neB5 := by decide
theorem repeat0_list : ∀ n : Fin 17, Lib.repeatL [48] n.val = List.replicate n.val 48 := by decide +kernel
theorem repeat0_calls (w : World) (n : Nat) (hn : n ≤ 16) : Calls Tryd.prog 21 #[.string ⟨#[48]⟩, .int .i64 (n : Int)] w (StrPost1 w (List.replicate n 48)) := by
  rcases (show n = 0 ∨ n = 1 ∨ 2 ≤ n by omega) with rfl | rfl | h2
  · refine (Any.strings_Repeat_zero Tryd.lays105 ⟨#[48]⟩ w).mono ?_
    rintro e w' ⟨rfl, rfl⟩
    exact ⟨rfl, Mod.refl _ _⟩
  · refine (Any.strings_Repeat_one Tryd.lays105 ⟨#[48]⟩ w).mono ?_
    rintro e w' ⟨rfl, rfl⟩
    exact ⟨rfl, Mod.refl _ _⟩
  · refine (Any.strings_Repeat_main Tryd.lays105 bldExtra5 ⟨#[48]⟩ n w h2 (by omega) (by simp [ByteArray.size]; omega) (by simp [ByteArray.size])).mono ?_
    rintro e w' ⟨rfl, hb⟩
    refine ⟨?_, Mod.of_below hb⟩
    have := repeat0_list ⟨n, by omega⟩
    simp only at this
    rw [← this]

theorem bytes_app (a b : Str) : (⟨a.toArray⟩ : ByteArray) ++ ⟨b.toArray⟩ = ⟨(a ++ b).toArray⟩ := by
  apply ByteArray.ext
  rw [ByteArray.data_append]
  simp
theorem cast_mulmod2 (x a m : Nat) : ((x * a % m : Nat) : Int) = (x : Int) * (a : Int) % (m : Int) := by simp
theorem hex_pad {h k : Nat} (hk : k ≤ 16) (hh : h < 16 ^ k) : hexR h 16 = List.replicate (16 - k) 48 ++ hexR h k := by
  have := hexR_pad hh (16 - k)
  rw [show k + (16 - k) = 16 by omega] at this
  exact this
theorem fnv_take (s : ByteArray) (k : Nat) (h : k < s.size) : fnv (s.data.toList.take (k + 1)) = fnvS (fnv (s.data.toList.take k)) s[k].toNat := by
  have h1 : k < s.data.toList.length := by simpa using h
  have e : s.data.toList[k] = s[k] := by simp; rfl
  rw [List.take_succ_eq_append_getElem h1, fnv_snoc, e]

set_option maxRecDepth 100000 in
set_option maxHeartbeats 1000000 in
theorem Digest_calls (w : World) (s : ByteArray) (hs : s.size ≤ 1000000) (hD : Deb w) : Calls Tryd.prog 7 #[.string s] w (StrPost1 w (digS s.data.toList)) := by
  have hls : s.data.toList.length = s.size := by simp
  have HLS := Lib.hid hls
  have HD := Lib.hid hD
  clear hls hD
  go_enter Tryd.func7, Tryd.ntmps7
  go_wp2_with fail
  go_loopg [3, 8] s.size (fun gk x i wr => ∃ k : Nat, s.size - k = gk ∧ k ≤ s.size ∧ i = .int .i64 (k : Int) ∧ x = .int .u64 ((fnv (s.data.toList.take k) : Nat) : Int) ∧ w = wr)
  case atStart => exact ⟨0, by omega, by omega, rfl, by simp [fnv, O64], rfl⟩
  case round =>
    obtain ⟨k, rfl, hk, rfl, rfl, rfl⟩ := hrel
    have hb : fnv (s.data.toList.take k) < 18446744073709551616 := fnv_lt _
    by_cases hlt : k < s.size
    · have HS := Lib.hid (fnv_take s k hlt)
      have hc := s[k].toNat_lt
      generalize fnv (s.data.toList.take k) = h at *
      generalize hcc : s[k].toNat = c at *
      have hx := u64_xor_nat h c hb (by omega)
      have hxl : h ^^^ c < 18446744073709551616 := Nat.xor_lt_two_pow (n := 64) hb (by omega)
      have HS2 : Hid (fnv (s.data.toList.take (k + 1)) = ((h ^^^ c) * 1099511628211) % 18446744073709551616) := Lib.hid (by rw [HS.out]; rfl)
      clear HS
      generalize h ^^^ c = x at *
      go_wp2_with fail
      go_roundg (s.size - (k + 1))
      case measure => omega
      case rel => exact ⟨k + 1, rfl, by omega, by simp, by rw [HS2.out, cast_mulmod2]; rfl, rfl⟩
    · obtain rfl : k = s.size := by omega
      have e1 : s.data.toList.take s.size = s.data.toList := List.take_of_length_le (by rw [HLS.out]; omega)
      rw [e1] at hb ⊢
      clear e1
      have HG : Hid (digS s.data.toList = hexR (fnv s.data.toList) 16) := Lib.hid rfl
      generalize fnv s.data.toList = h at *
      have HC := Lib.hid (fu_calls w h (by rw [show (16 : Nat) ^ 16 = 18446744073709551616 by decide +kernel]; exact hb) HD.out)
      go_wp2_with fail
      refine HC.out.mono ?_
      rintro e w1 ⟨n, h1, h2, h3, rfl, hm⟩
      have HP := Lib.hid (hex_pad h2 h3)
      have hzl : (⟨(hexR h n).toArray⟩ : ByteArray).size = n := by simp [ByteArray.size, hexR_len]
      clear h3 HC
      have hn16 : (16 : Int) - (n : Int) = ((16 - n : Nat) : Int) := by omega
      generalize hexR h n = l at *
      go_wp2_with fail
      refine (repeat0_calls _ (16 - n) (by omega)).mono ?_
      rintro e w2 ⟨rfl, hm2⟩
      go_wp2_with fail
      go_ret
      refine ⟨?_, hm.trans hm2⟩
      rw [HG.out, HP.out]
      exact congrArg (fun x => Ending.returned (.string x)) (bytes_app _ _)

theorem hexB_at' (n : Nat) (h : n < 16) : (⟨#[48, 49, 50, 51, 52, 53, 54, 55, 56, 57, 97, 98, 99, 100, 101, 102]⟩ : ByteArray).extract n (n + 1) = ⟨[hexD n].toArray⟩ := hexB_at n h

set_option maxRecDepth 100000 in
set_option maxHeartbeats 1000000 in
theorem DigestOf_calls (w : World) (s : ByteArray) (hs : s.size ≤ 1000000) : Calls Tryd.prog 8 #[.string s] w (StrPost1 w (digS s.data.toList)) := by
  have hls : s.data.toList.length = s.size := by simp
  have HLS := Lib.hid hls
  clear hls
  go_enter Tryd.func8, Tryd.ntmps8
  go_wp2_with fail
  go_loopg [3, 8] s.size (fun gk x i wr => ∃ k : Nat, s.size - k = gk ∧ k ≤ s.size ∧ i = .int .i64 (k : Int) ∧ x = .int .u64 ((fnv (s.data.toList.take k) : Nat) : Int) ∧ w = wr)
  case atStart => exact ⟨0, by omega, by omega, rfl, by simp [fnv, O64], rfl⟩
  case round =>
    obtain ⟨k, rfl, hk, rfl, rfl, rfl⟩ := hrel
    have hb : fnv (s.data.toList.take k) < 18446744073709551616 := fnv_lt _
    by_cases hlt : k < s.size
    · have HS := Lib.hid (fnv_take s k hlt)
      have hc := s[k].toNat_lt
      generalize fnv (s.data.toList.take k) = h at *
      generalize hcc : s[k].toNat = c at *
      have hx := u64_xor_nat h c hb (by omega)
      have hxl : h ^^^ c < 18446744073709551616 := Nat.xor_lt_two_pow (n := 64) hb (by omega)
      have HS2 : Hid (fnv (s.data.toList.take (k + 1)) = ((h ^^^ c) * 1099511628211) % 18446744073709551616) := Lib.hid (by rw [HS.out]; rfl)
      clear HS
      generalize h ^^^ c = x at *
      go_wp2_with fail
      go_roundg (s.size - (k + 1))
      case measure => omega
      case rel =>
        refine ⟨k + 1, rfl, by omega, by simp, ?_, rfl⟩
        rw [HS2.out, cast_mulmod2]
        congr 1
        show _ = (x : Int) * 1099511628211 % 18446744073709551616
        simp only [IntKind.wrap_u64]
        omega
    · obtain rfl : k = s.size := by omega
      have e1 : s.data.toList.take s.size = s.data.toList := List.take_of_length_le (by rw [HLS.out]; omega)
      rw [e1] at hb ⊢
      clear e1
      have HG : Hid (digS s.data.toList = hexR (fnv s.data.toList) 16) := Lib.hid rfl
      generalize fnv s.data.toList = h at *
      go_wp2_with fail
      go_loopg [3, 5, 37] 16 (fun gk x o i wr => ∃ k : Nat, 16 - k = gk ∧ k ≤ 16 ∧ i = .int .i64 (k : Int) ∧ x = .int .u64 ((h / 16 ^ k : Nat) : Int) ∧ o = .string ⟨(hexR h k).toArray⟩ ∧ w = wr)
      case atStart => exact ⟨0, by omega, by omega, rfl, by simp, rfl, rfl⟩
      case round =>
        obtain ⟨k, rfl, hk, rfl, rfl, rfl, rfl⟩ := hrel
        by_cases hlt : k < 16
        · have HS := Lib.hid (hdiv_step h k)
          have HR : Hid (hexR h (k + 1) = [hexD (h / 16 ^ k % 16)] ++ hexR h k) := Lib.hid rfl
          have hul : h / 16 ^ k < 18446744073709551616 := Nat.lt_of_le_of_lt (Nat.div_le_self _ _) hb
          generalize h / 16 ^ k = u at *
          have HX := Lib.hid (hexB_at' (u % 16) (by omega))
          have hll : (hexR h k).length ≤ 16 := by rw [hexR_len]; omega
          have hll2 : (⟨(hexR h k).toArray⟩ : ByteArray).size ≤ 16 := by simp [ByteArray.size]; omega
          generalize hexR h k = l at *
          go_wp2_with fail
          go_roundg (16 - (k + 1))
          case measure => omega
          case rel =>
            refine ⟨k + 1, rfl, by omega, by simp, by rw [← HS.out]; congr 1, ?_, rfl⟩
            rw [HR.out, ← bytes_app, ← HX.out]
        · obtain rfl : k = 16 := by omega
          generalize hexR h 16 = l at *
          go_wp2_with fail
          go_ret
          exact ⟨by rw [HG.out]; rfl, Mod.refl _ _⟩

end Go.Proofs.YtbpicgmblpejoaaDoor
