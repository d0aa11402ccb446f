/- Texts of the proof of FilterKeeps, put together: QuoB, DigA, DigB. -/
import Derived.Test.YtofkkenmkflmiaaGreatDoorFilterKeepsZ8
import Derived.Test.YtofkkenmkflmiaaGreatDoorFilterKeepsZ13
import Derived.Test.YtofkkenmkflmiaaGreatDoorFilterKeepsZ15
import Derived.Test.YtofkkenmkflmiaaGreatDoorFilterKeepsZ20
import Derived.Deep.AppendLies
import Derived.Lib.AppendStr
import Derived.Laws.IdiomStrings
import Derived.Shelf.Strings.Repeat
/- Quoted strings: Quoted of the reference. -/
namespace Go.Proofs.YtofkkenmkflmiaaGreatDoor
set_option linter.unusedVariables false
set_option linter.unusedSimpArgs false
open Go.RowKit

theorem info_u8 : (Tryz.prog.info? 5).map (fun i => (i.zero, i.size, i.bytes)) = some (some (.int .u8 0), 1, 1) := by kernel_rfl
theorem byteCells_get (l : Str) (j : Nat) (h : j < l.length) : (Lib.byteCells l)[j]? = some (.int .u8 (l[j].toNat : Int)) := by simp [Lib.byteCells, h]
theorem own_bytes {w : World} {base g n cap : Nat} {l : Str} (h : w.ownsRow base 5 1 (.slice (some ⟨g, 0, none⟩) n cap) n (Lib.byteCells l)) : ∀ j (hj : j < l.length), w.cell? ((⟨g, 0, none⟩ : Addr).add j) = some (.int .u8 (l[j].toNat : Int)) := by
  intro j hj
  have hn : l.length = n := by have := h.1; simp [Lib.byteCells] at this; omega
  have := (h.cellAt j (by omega)).trans (byteCells_get l j hj)
  unfold Addr.add
  split
  · rename_i e; subst e; exact this
  · simpa using this
end Go.Proofs.YtofkkenmkflmiaaGreatDoor

/- Digests: hex digits by strconv. -/
namespace Go.Proofs.YtofkkenmkflmiaaGreatDoor
set_option linter.unusedVariables false
set_option linter.unusedSimpArgs false
open Go.RowKit

theorem D36_get (n : Nat) (hn : n < 16) : ∀ h, (⟨#[48, 49, 50, 51, 52, 53, 54, 55, 56, 57, 97, 98, 99, 100, 101, 102, 103, 104, 105, 106, 107, 108, 109, 110, 111, 112, 113, 114, 115, 116, 117, 118, 119, 120, 121, 122]⟩ : ByteArray)[n]'h = hexD n := by
  have key : ∀ n : Fin 16, ∀ h, (⟨#[48, 49, 50, 51, 52, 53, 54, 55, 56, 57, 97, 98, 99, 100, 101, 102, 103, 104, 105, 106, 107, 108, 109, 110, 111, 112, 113, 114, 115, 116, 117, 118, 119, 120, 121, 122]⟩ : ByteArray)[n.val]'h = hexD n.val := by decide +kernel
  exact key ⟨n, hn⟩
/-- The table's cell that the walk reads. -/
def Deb (w : World) : Prop := w.cell? ⟨9, 15, none⟩ = some (.int .u8 4)
theorem Deb.pure {w w' : World} (h : Deb w) (hm : Pure w w') : Deb w' := hm.keep h id

set_option maxRecDepth 100000 in
set_option maxHeartbeats 400000 in
theorem tz64_calls (w : World) (h : Deb w) : Calls Tryz.prog 253 #[.int .u64 16] w fun e w' => e = .returned (.int .i64 4) ∧ w = w' := by
  unfold Deb at h
  have e1 : bits BinOp.and IntKind.u64 16 (IntKind.u64.wrap (-16)) = 16 := by decide +kernel
  have e2 : IntKind.u64.wrap 4573923408821661840 = 4573923408821661840 := by decide +kernel
  have e3 : IntKind.u64.wrap (16 * 285870213051353865) = 4573923408821661840 := by decide +kernel
  go_enter Tryz.func253, Tryz.ntmps253
  go_wp2_with fail
  go_ret
  exact ⟨rfl, rfl⟩
set_option maxRecDepth 100000 in
set_option maxHeartbeats 400000 in
theorem tz_calls (w : World) (h : Deb w) : Calls Tryz.prog 242 #[.int .u64 16] w fun e w' => e = .returned (.int .i64 4) ∧ w = w' := by
  go_enter Tryz.func242, Tryz.ntmps242
  go_wp2_with fail
  refine (tz64_calls _ h).mono ?_
  rintro e w' ⟨rfl, rfl⟩
  go_wp2_with fail
  go_ret
  exact ⟨rfl, rfl⟩
set_option maxRecDepth 100000 in
set_option maxHeartbeats 400000 in
theorem pow2_calls (w : World) : Calls Tryz.prog 241 #[.int .i64 16] w fun e w' => e = .returned (.bool true) ∧ w = w' := by
  go_enter Tryz.func241, Tryz.ntmps241
  go_wp2_with fail
  go_ret
  exact ⟨rfl, rfl⟩
theorem hdiv_step (h k : Nat) : h / 16 ^ k / 16 = h / 16 ^ (k + 1) := by rw [Nat.div_div_eq_div_mul, Nat.pow_succ]
theorem hdiv_bound {h k : Nat} (hh : h < 16 ^ 16) (hk : 16 ≤ h / 16 ^ k) : k < 15 := by
  refine Decidable.byContradiction fun hn => ?_
  have h1 : h / 16 ^ k ≤ h / 16 ^ 15 := Nat.div_le_div_left (Nat.pow_le_pow_right (by omega) (by omega)) (Nat.pow_pos (by omega))
  have h2 : h / 16 ^ 15 < 16 := Nat.div_lt_of_lt_mul (by rw [← Nat.pow_succ]; exact hh)
  omega
theorem hdiv_end {h k : Nat} (hk : h / 16 ^ k < 16) : h < 16 ^ (k + 1) := by
  have := (Nat.div_lt_iff_lt_mul (Nat.pow_pos (by omega))).1 hk
  rw [Nat.pow_succ, Nat.mul_comm]
  omega
theorem and15 (u : Nat) (h : u < 18446744073709551616) : bits BinOp.and IntKind.u64 (u : Int) 15 = ((u % 16 : Nat) : Int) := by
  have h1 := u64_and_nat u 15 h (by omega)
  have h2 : u &&& 15 = u % 16 := Nat.and_two_pow_sub_one_eq_mod u 4
  rw [h2] at h1
  exact h1
/-- The digits that have been written. -/
def DigAt (arr : Array Value) (h k : Nat) : Prop := arr.size = 65 ∧ ∀ j, j < k → arr[64 - j]? = some (.int .u8 ((hexD (h / 16 ^ j % 16)).toNat : Int))
theorem DigAt.step {arr : Array Value} {h k : Nat} (hd : DigAt arr h k) (hk : k < 64) : DigAt (arr.setIfInBounds (64 - k) (.int .u8 ((hexD (h / 16 ^ k % 16)).toNat : Int))) h (k + 1) := by
  refine ⟨by simpa using hd.1, fun j hj => ?_⟩
  have hs := hd.1
  by_cases e : j = k
  · subst e
    rw [Array.getElem?_setIfInBounds_self_of_lt (by omega)]
  · rw [Array.getElem?_setIfInBounds_ne (by omega)]
    exact hd.2 j (by omega)
theorem slice65 (g k : Nat) (hk : k ≤ 15) (W : World) : (Instr.sliceAt 266 (.pointer (some ⟨g, 0, none⟩)) (some (.int .i64 ((64 - k : Nat) : Int))) none none).run Tryz.prog W = .ok (.slice (some ⟨g, 64 - k, none⟩) (k + 1) (k + 1)) W := by
  have hal : Tryz.prog.arrayLen 266 = 65 := by kernel_rfl
  have hse : (Go.sizeOf (Tryz.prog.elem 266)).run Tryz.prog W = .ok 1 W := by kernel_rfl
  rw [run_sliceAt_array_l W 266 ⟨g, 0, none⟩ (by kernel_rfl) .i64 _ (by omega) (by rw [hal]; omega), hse, hal, Int.toNat_natCast]
  simp only [Result.andThen, slicedAt, Nat.mul_one, Addr.add]
  rw [if_neg (by omega), if_neg (by omega), Nat.zero_add, show 65 - (64 - k) = k + 1 by omega]
def FbRel (w : World) (h g gk : Nat) (u i : Value) (wr : World) : Prop :=
  ∃ (k : Nat) (arr : Array Value), 15 - k = gk ∧ k ≤ 15 ∧ u = .int .u64 ((h / 16 ^ k : Nat) : Int) ∧ i = .int .i64 (65 - (k : Int)) ∧ DigAt arr h k ∧ Blk wr g 266 arr ∧ Pure w wr
theorem hexR_get (h : Nat) : ∀ (k i : Nat) (hi : i < k), (hexR h k)[i]'(by rw [hexR_len]; exact hi) = hexD (h / 16 ^ (k - 1 - i) % 16)
  | 0, i, hi => absurd hi (by omega)
  | k + 1, 0, hi => by simp [hexR]
  | k + 1, i + 1, hi => by
    have := hexR_get h k i (by omega)
    simp only [hexR, List.getElem_cons_succ]
    rw [this]
    congr 4
    omega
theorem DigAt.cells {w : World} {arr : Array Value} {h k g : Nat} (hd : DigAt arr h k) (hb : Blk w g 266 arr) (hk : k ≤ 65) : ∀ j (hj : j < (hexR h k).length), w.cell? ((⟨g, 65 - k, none⟩ : Addr).add j) = some (.int .u8 ((hexR h k)[j].toNat : Int)) := by
  intro j hj
  have hj' : j < k := by rw [hexR_len] at hj; exact hj
  rw [hexR_get h k j hj']
  have h1 := hd.2 (k - 1 - j) (by omega)
  have h2 : w.cell? ⟨g, 65 - k + j, none⟩ = some (.int .u8 ((hexD (h / 16 ^ (k - 1 - j) % 16)).toNat : Int)) := by
    rw [hb.cell, show 65 - k + j = 64 - (k - 1 - j) by omega]
    exact h1
  unfold Addr.add
  split
  · rename_i e; subst e; simpa using h2
  · exact h2
/-- The hex digits without zeros ahead. -/
def FbPost (w : World) (h : Nat) (e : Ending) (w' : World) : Prop := ∃ k, 1 ≤ k ∧ k ≤ 16 ∧ h < 16 ^ k ∧ e = .returned (.tuple #[.slice none 0 0, .string ⟨(hexR h k).toArray⟩]) ∧ Pure w w'

set_option maxRecDepth 100000 in
set_option maxHeartbeats 2000000 in
theorem formatBits_calls (w : World) (h : Nat) (hh : h < 16 ^ 16) (hD : Deb w) : Calls Tryz.prog 213 #[.slice none 0 0, .int .u64 (h : Int), .int .i64 16, .bool false, .bool false] w (FbPost w h) := by
  have HH := Lib.hid hh
  clear hh
  have HD := Lib.hid (hD.pure ((Mod.refl (fun _ => False) w).alloc (.cells Tryz.zeroCells266 266)))
  have HB := Lib.hid (Blk.new w 266 Tryz.zeroCells266)
  have HM := Lib.hid ((Mod.refl (fun _ => False) w).alloc (.cells Tryz.zeroCells266 266))
  clear hD
  go_enter Tryz.func213, Tryz.ntmps213
  go_wp2_with fail
  generalize (w.alloc (.cells Tryz.zeroCells266 266)) = W at *
  generalize hb : w.heap.size = g at *
  have hb1 := Nat.le_of_eq hb
  clear hb
  refine (pow2_calls _).mono ?_
  rintro e w' ⟨rfl, rfl⟩
  go_wp2_with fail
  refine (tz_calls _ HD.out).mono ?_
  rintro e w' ⟨rfl, rfl⟩
  have HZ : Hid (DigAt Tryz.zeroCells266 h 0) := Lib.hid ⟨by kernel_rfl, fun j hj => absurd hj (by omega)⟩
  generalize Tryz.zeroCells266 = zc at *
  go_wp2_with fail
  go_loopg [1, 13] 15 (fun gk u i wr => FbRel w h g gk u i wr)
  case atStart => exact ⟨0, zc, rfl, by omega, by simp, rfl, HZ.out, HB.out, HM.out⟩
  case round =>
    clear HZ HB HM HD
    obtain ⟨k, arr, rfl, hk, rfl, rfl, hd, hB, hm⟩ := hrel
    have HDG := Lib.hid hd
    have hsz := hd.1
    have hul : h / 16 ^ k < 18446744073709551616 := Nat.lt_of_le_of_lt (Nat.div_le_self _ _) (by have := HH.out; rw [show (16 : Nat) ^ 16 = 18446744073709551616 by decide +kernel] at this; exact this)
    by_cases hge : 16 ≤ h / 16 ^ k
    · have hk15 := hdiv_bound HH.out hge
      have HS := Lib.hid (hdiv_step h k)
      have HN := Lib.hid (HDG.out.step (by omega))
      have hx := D36_get (h / 16 ^ k % 16) (by omega)
      generalize h / 16 ^ k = u at *
      have q1 : ∃ v0, arr[64 - k]? = some v0 := ⟨arr[64 - k]'(by omega), Array.getElem?_eq_getElem _⟩
      obtain ⟨v0, hv0⟩ := q1
      have qc := (hB.cell (64 - k)).trans hv0
      have qf := hB.frozen (64 - k)
      have hset := hB.set (64 - k) (.int .u8 ((hexD (u % 16)).toNat : Int))
      have HSET := Lib.hid hset
      have i1 : (65 : Int) - (k : Int) - 1 = ((64 - k : Nat) : Int) := by omega
      clear hset hd
      have hand := and15 u hul
      have j1 : u % 16 < 16 := Nat.mod_lt _ (by omega)
      have hge2 : (16 : Int) ≤ (u : Int) := by omega
      have M2 := Lib.hid (hm.setCell (p := ⟨g, 64 - k, none⟩) (.inr (by show _ ≤ g; omega)) (.int .u8 ((hexD (u % 16)).toNat : Int)))
      have hud : (u : Int) / 16 = ((u / 16 : Nat) : Int) := by omega
      rw [HS.out] at hud
      clear HS hB HDG hv0
      go_wp2_with fail
      go_roundg (15 - (k + 1))
      case measure => omega
      case rel => exact ⟨k + 1, _, rfl, by omega, rfl, by congr 1; omega, HN.out, HSET.out, M2.out⟩
    · have hlt : h / 16 ^ k < 16 := by omega
      have HE := Lib.hid (hdiv_end hlt)
      have HN := Lib.hid (HDG.out.step (by omega))
      have hx := D36_get (h / 16 ^ k) hlt
      have hmod : h / 16 ^ k % 16 = h / 16 ^ k := Nat.mod_eq_of_lt hlt
      rw [hmod] at HN
      clear hmod
      generalize h / 16 ^ k = u at *
      have q1 : ∃ v0, arr[64 - k]? = some v0 := ⟨arr[64 - k]'(by omega), Array.getElem?_eq_getElem _⟩
      obtain ⟨v0, hv0⟩ := q1
      have qc := (hB.cell (64 - k)).trans hv0
      have qf := hB.frozen (64 - k)
      have hset := hB.set (64 - k) (.int .u8 ((hexD u).toNat : Int))
      have i1 : (65 : Int) - (k : Int) - 1 = ((64 - k : Nat) : Int) := by omega
      have M2 := Lib.hid (hm.setCell (p := ⟨g, 64 - k, none⟩) (.inr (by show _ ≤ g; omega)) (.int .u8 ((hexD u).toNat : Int)))
      have hge2 : ¬ ((16 : Int) ≤ (u : Int)) := by omega
      have hcl := HN.out.cells hset (by omega)
      have hcv := fun cap => run_convert_bytes_back (P := Tryz.prog) _ 121 9 5 ⟨g, 65 - (k + 1), none⟩ cap (hexR h (k + 1)) Tryz.underlying121 Tryz.underlying5 Tryz.underlying9 hcl
      rw [hexR_len, show 65 - (k + 1) = 64 - k by omega] at hcv
      have hsl := slice65 g k hk
      clear hset hd hcl HDG hB hv0
      go_wp2_with fail
      go_ret2
      exact ⟨k + 1, by omega, by omega, HE.out, rfl, M2.out⟩

end Go.Proofs.YtofkkenmkflmiaaGreatDoor

/- Digests: Digest of package intake, DigestOf of the reference. -/
namespace Go.Proofs.YtofkkenmkflmiaaGreatDoor
set_option linter.unusedVariables false
set_option linter.unusedSimpArgs false
open Go.RowKit

def FuPost (w : World) (h : Nat) (e : Ending) (w' : World) : Prop := ∃ k, 1 ≤ k ∧ k ≤ 16 ∧ h < 16 ^ k ∧ e = .returned (.string ⟨(hexR h k).toArray⟩) ∧ Pure w w'
set_option maxRecDepth 100000 in
set_option maxHeartbeats 400000 in
theorem ifu_calls (w : World) (h : Nat) (hh : h < 16 ^ 16) (hD : Deb w) : Calls Tryz.prog 180 #[.int .u64 (h : Int), .int .i64 16] w (FuPost w h) := by
  have HC := Lib.hid (formatBits_calls w h hh hD)
  clear hh hD
  go_enter Tryz.func180, Tryz.ntmps180
  go_wp2_with fail
  refine HC.out.mono ?_
  rintro e w1 ⟨k, h1, h2, h3, rfl, hm⟩
  have H3 := Lib.hid h3
  clear h3 HC
  generalize hl : hexR h k = l at *
  have HL := Lib.hid hl
  clear hl
  go_wp2_with fail
  go_ret
  exact ⟨k, h1, h2, H3.out, by rw [HL.out]; rfl, hm⟩
set_option maxRecDepth 100000 in
set_option maxHeartbeats 400000 in
theorem fu_calls (w : World) (h : Nat) (hh : h < 16 ^ 16) (hD : Deb w) : Calls Tryz.prog 122 #[.int .u64 (h : Int), .int .i64 16] w (FuPost w h) := by
  have HC := Lib.hid (ifu_calls w h hh hD)
  clear hh hD
  go_enter Tryz.func122, Tryz.ntmps122
  go_wp2_with fail
  refine HC.out.mono ?_
  rintro e w1 ⟨k, h1, h2, h3, rfl, hm⟩
  have H3 := Lib.hid h3
  clear h3 HC
  generalize hl : hexR h k = l at *
  have HL := Lib.hid hl
  clear hl
  go_wp2_with fail
  go_ret
  exact ⟨k, h1, h2, H3.out, by rw [HL.out]; rfl, hm⟩
theorem bldExtra5 : Builder.Extra Tryz.prog Tryz.lays105_ren where
  sizeBuilder := by kernel_rfl
  liesBuilder := by kernel_rfl
  t5 := Tryz.underlying5
  a5 := Tryz.isAgg5
  z5 := Tryz.sizeOf5
  v5 := Tryz.zeroValue5
  infoByte := by kernel_rfl
  cellsByte := by kernel_rfl
  sizeByte := by kernel_rfl
  neB5 := by decide
theorem repeat0_list : ∀ n : Fin 17, Lib.repeatL [48] n.val = List.replicate n.val 48 := by decide +kernel
theorem repeat0_calls (w : World) (n : Nat) (hn : n ≤ 16) : Calls Tryz.prog 40 #[.string ⟨#[48]⟩, .int .i64 (n : Int)] w (StrPost1 w (List.replicate n 48)) := by
  rcases (show n = 0 ∨ n = 1 ∨ 2 ≤ n by omega) with rfl | rfl | h2
  · refine (Any.strings_Repeat_zero Tryz.lays105 ⟨#[48]⟩ w).mono ?_
    rintro e w' ⟨rfl, rfl⟩
    exact ⟨rfl, Mod.refl _ _⟩
  · refine (Any.strings_Repeat_one Tryz.lays105 ⟨#[48]⟩ w).mono ?_
    rintro e w' ⟨rfl, rfl⟩
    exact ⟨rfl, Mod.refl _ _⟩
  · refine (Any.strings_Repeat_main Tryz.lays105 bldExtra5 ⟨#[48]⟩ n w h2 (by omega) (by simp [ByteArray.size]; omega) (by simp [ByteArray.size])).mono ?_
    rintro e w' ⟨rfl, hb⟩
    refine ⟨?_, Mod.of_below hb⟩
    have := repeat0_list ⟨n, by omega⟩
    simp only at this
    rw [← this]

theorem bytes_app (a b : Str) : (⟨a.toArray⟩ : ByteArray) ++ ⟨b.toArray⟩ = ⟨(a ++ b).toArray⟩ := by
  apply ByteArray.ext
  rw [ByteArray.data_append]
  simp
theorem cast_mulmod2 (x a m : Nat) : ((x * a % m : Nat) : Int) = (x : Int) * (a : Int) % (m : Int) := by simp
theorem hex_pad {h k : Nat} (hk : k ≤ 16) (hh : h < 16 ^ k) : hexR h 16 = List.replicate (16 - k) 48 ++ hexR h k := by
  have := hexR_pad hh (16 - k)
  rw [show k + (16 - k) = 16 by omega] at this
  exact this
theorem fnv_take (s : ByteArray) (k : Nat) (h : k < s.size) : fnv (s.data.toList.take (k + 1)) = fnvS (fnv (s.data.toList.take k)) s[k].toNat := by
  have h1 : k < s.data.toList.length := by simpa using h
  have e : s.data.toList[k] = s[k] := by simp; rfl
  rw [List.take_succ_eq_append_getElem h1, fnv_snoc, e]

set_option maxRecDepth 100000 in
set_option maxHeartbeats 1000000 in
theorem Digest_calls (w : World) (s : ByteArray) (hs : s.size ≤ 1000000) (hD : Deb w) : Calls Tryz.prog 62 #[.string s] w (StrPost1 w (digS s.data.toList)) := by
  have hls : s.data.toList.length = s.size := by simp
  have HLS := Lib.hid hls
  have HD := Lib.hid hD
  clear hls hD
  go_enter Tryz.func62, Tryz.ntmps62
  go_wp2_with fail
  go_loopg [3, 8] s.size (fun gk x i wr => ∃ k : Nat, s.size - k = gk ∧ k ≤ s.size ∧ i = .int .i64 (k : Int) ∧ x = .int .u64 ((fnv (s.data.toList.take k) : Nat) : Int) ∧ w = wr)
  case atStart => exact ⟨0, by omega, by omega, rfl, by simp [fnv, O64], rfl⟩
  case round =>
    obtain ⟨k, rfl, hk, rfl, rfl, rfl⟩ := hrel
    have hb : fnv (s.data.toList.take k) < 18446744073709551616 := fnv_lt _
    by_cases hlt : k < s.size
    · have HS := Lib.hid (fnv_take s k hlt)
      have hc := s[k].toNat_lt
      generalize fnv (s.data.toList.take k) = h at *
      generalize hcc : s[k].toNat = c at *
      have hx := u64_xor_nat h c hb (by omega)
      have hxl : h ^^^ c < 18446744073709551616 := Nat.xor_lt_two_pow (n := 64) hb (by omega)
      have HS2 : Hid (fnv (s.data.toList.take (k + 1)) = ((h ^^^ c) * 1099511628211) % 18446744073709551616) := Lib.hid (by rw [HS.out]; rfl)
      clear HS
      generalize h ^^^ c = x at *
      go_wp2_with fail
      go_roundg (s.size - (k + 1))
      case measure => omega
      case rel => exact ⟨k + 1, rfl, by omega, by simp, by rw [HS2.out, cast_mulmod2]; rfl, rfl⟩
    · obtain rfl : k = s.size := by omega
      have e1 : s.data.toList.take s.size = s.data.toList := List.take_of_length_le (by rw [HLS.out]; omega)
      rw [e1] at hb ⊢
      clear e1
      have HG : Hid (digS s.data.toList = hexR (fnv s.data.toList) 16) := Lib.hid rfl
      generalize fnv s.data.toList = h at *
      have HC := Lib.hid (fu_calls w h (by rw [show (16 : Nat) ^ 16 = 18446744073709551616 by decide +kernel]; exact hb) HD.out)
      go_wp2_with fail
      refine HC.out.mono ?_
      rintro e w1 ⟨n, h1, h2, h3, rfl, hm⟩
      have HP := Lib.hid (hex_pad h2 h3)
      have hzl : (⟨(hexR h n).toArray⟩ : ByteArray).size = n := by simp [ByteArray.size, hexR_len]
      clear h3 HC
      have hn16 : (16 : Int) - (n : Int) = ((16 - n : Nat) : Int) := by omega
      generalize hexR h n = l at *
      go_wp2_with fail
      refine (repeat0_calls _ (16 - n) (by omega)).mono ?_
      rintro e w2 ⟨rfl, hm2⟩
      go_wp2_with fail
      go_ret
      refine ⟨?_, hm.trans hm2⟩
      rw [HG.out, HP.out]
      exact congrArg (fun x => Ending.returned (.string x)) (bytes_app _ _)

theorem hexB_at' (n : Nat) (h : n < 16) : (⟨#[48, 49, 50, 51, 52, 53, 54, 55, 56, 57, 97, 98, 99, 100, 101, 102]⟩ : ByteArray).extract n (n + 1) = ⟨[hexD n].toArray⟩ := hexB_at n h

set_option maxRecDepth 100000 in
set_option maxHeartbeats 1000000 in
theorem DigestOf_calls (w : World) (s : ByteArray) (hs : s.size ≤ 1000000) : Calls Tryz.prog 97 #[.string s] w (StrPost1 w (digS s.data.toList)) := by
  have hls : s.data.toList.length = s.size := by simp
  have HLS := Lib.hid hls
  clear hls
  go_enter Tryz.func97, Tryz.ntmps97
  go_wp2_with fail
  go_loopg [3, 8] s.size (fun gk x i wr => ∃ k : Nat, s.size - k = gk ∧ k ≤ s.size ∧ i = .int .i64 (k : Int) ∧ x = .int .u64 ((fnv (s.data.toList.take k) : Nat) : Int) ∧ w = wr)
  case atStart => exact ⟨0, by omega, by omega, rfl, by simp [fnv, O64], rfl⟩
  case round =>
    obtain ⟨k, rfl, hk, rfl, rfl, rfl⟩ := hrel
    have hb : fnv (s.data.toList.take k) < 18446744073709551616 := fnv_lt _
    by_cases hlt : k < s.size
    · have HS := Lib.hid (fnv_take s k hlt)
      have hc := s[k].toNat_lt
      generalize fnv (s.data.toList.take k) = h at *
      generalize hcc : s[k].toNat = c at *
      have hx := u64_xor_nat h c hb (by omega)
      have hxl : h ^^^ c < 18446744073709551616 := Nat.xor_lt_two_pow (n := 64) hb (by omega)
      have HS2 : Hid (fnv (s.data.toList.take (k + 1)) = ((h ^^^ c) * 1099511628211) % 18446744073709551616) := Lib.hid (by rw [HS.out]; rfl)
      clear HS
      generalize h ^^^ c = x at *
      go_wp2_with fail
      go_roundg (s.size - (k + 1))
      case measure => omega
      case rel =>
        refine ⟨k + 1, rfl, by omega, by simp, ?_, rfl⟩
        rw [HS2.out, cast_mulmod2]
        congr 1
        show _ = (x : Int) * 1099511628211 % 18446744073709551616
        simp only [IntKind.wrap_u64]
        omega
    · obtain rfl : k = s.size := by omega
      have e1 : s.data.toList.take s.size = s.data.toList := List.take_of_length_le (by rw [HLS.out]; omega)
      rw [e1] at hb ⊢
      clear e1
      have HG : Hid (digS s.data.toList = hexR (fnv s.data.toList) 16) := Lib.hid rfl
      generalize fnv s.data.toList = h at *
      go_wp2_with fail
      go_loopg [3, 5, 37] 16 (fun gk x o i wr => ∃ k : Nat, 16 - k = gk ∧ k ≤ 16 ∧ i = .int .i64 (k : Int) ∧ x = .int .u64 ((h / 16 ^ k : Nat) : Int) ∧ o = .string ⟨(hexR h k).toArray⟩ ∧ w = wr)
      case atStart => exact ⟨0, by omega, by omega, rfl, by simp, rfl, rfl⟩
      case round =>
        obtain ⟨k, rfl, hk, rfl, rfl, rfl, rfl⟩ := hrel
        by_cases hlt : k < 16
        · have HS := Lib.hid (hdiv_step h k)
          have HR : Hid (hexR h (k + 1) = [hexD (h / 16 ^ k % 16)] ++ hexR h k) := Lib.hid rfl
          have hul : h / 16 ^ k < 18446744073709551616 := Nat.lt_of_le_of_lt (Nat.div_le_self _ _) hb
          generalize h / 16 ^ k = u at *
          have HX := Lib.hid (hexB_at' (u % 16) (by omega))
          have hll : (hexR h k).length ≤ 16 := by rw [hexR_len]; omega
          have hll2 : (⟨(hexR h k).toArray⟩ : ByteArray).size ≤ 16 := by simp [ByteArray.size]; omega
          generalize hexR h k = l at *
          go_wp2_with fail
          go_roundg (16 - (k + 1))
          case measure => omega
          case rel =>
            refine ⟨k + 1, rfl, by omega, by simp, by rw [← HS.out]; congr 1, ?_, rfl⟩
            rw [HR.out, ← bytes_app, ← HX.out]
        · obtain rfl : k = 16 := by omega
          generalize hexR h 16 = l at *
          go_wp2_with fail
          go_ret
          exact ⟨by rw [HG.out]; rfl, Mod.refl _ _⟩

end Go.Proofs.YtofkkenmkflmiaaGreatDoor
