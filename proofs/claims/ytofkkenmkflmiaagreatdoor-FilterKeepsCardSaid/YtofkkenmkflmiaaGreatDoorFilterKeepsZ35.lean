/- Texts of the proof of FilterKeeps, put together: ItmK. -/
import Derived.Test.YtofkkenmkflmiaaGreatDoorFilterKeepsZ20
import Derived.Test.YtofkkenmkflmiaaGreatDoorFilterKeepsZ23
import Derived.Test.YtofkkenmkflmiaaGreatDoorFilterKeepsZ26
import Derived.Deep.DeepCutAuto
import Derived.Deep.CutBlock
/- The generators of items: itemId, ItemText, Item. -/
namespace Go.Proofs.YtofkkenmkflmiaaGreatDoor
set_option linter.unusedVariables false
set_option linter.unusedSimpArgs false
open Go.RowKit

/-- The strings of an item are not too long: of what the generators make. -/
def ItG (x : Itm) : Prop := x.id.length ≤ 100 ∧ x.cust.length ≤ 30000 ∧ x.name.length ≤ 30000 ∧ x.par.length ≤ 30000 ∧ x.text.length ≤ 29000
theorem ItG.b {x : Itm} (h : ItG x) : ItB x := ⟨h.1, h.2.1, h.2.2.1, h.2.2.2.1, by have := h.2.2.2.2; omega⟩
def StrB (w : World) (b N M : Nat) (e : Ending) (w' : World) : Prop := ∃ s : Str, s.length ≤ M ∧ e = .returned (.string ⟨s.toArray⟩) ∧ Strm w' b N ∧ Mod (· = b) w w'
theorem someb_calls (w : World) (b N g c n : Nat) (ss : List Str) (M : Nat) (hn : n = ss.length) (hM : ∀ s ∈ ss, s.length ≤ M) (hS : Strm w b N) (hN : N ≤ 1000000000) (hx : Blk w g 9 (strsV ss).toArray) (hgb : g ≠ b) (h0 : 0 < ss.length) (hl : ss.length ≤ 1000) :
    Calls Tryz.prog 33 #[.pointer (some ⟨b, 0, none⟩), .slice (some ⟨g, 0, none⟩) n c] w (StrB w b (N + 1) M) := by
  subst hn
  refine (some_calls w b N g c ss hS hN hx hgb h0 hl).mono ?_
  rintro e w' ⟨s, hs, rfl, h1, h2⟩
  exact ⟨s, hM s hs, rfl, h1, h2⟩
theorem le_cons {M : Nat} {s : Str} {ss : List Str} (h : s.length ≤ M) (hs : ∀ s ∈ ss, s.length ≤ M) : ∀ t ∈ s :: ss, t.length ≤ M := fun t ht => by
  rcases List.mem_cons.1 ht with rfl | ht
  · exact h
  · exact hs t ht
theorem le_nil {M : Nat} : ∀ t ∈ ([] : List Str), t.length ≤ M := fun t ht => absurd ht (by simp)

theorem repeatA_calls (w : World) (n : Nat) (h2 : 2 ≤ n) (hn : n ≤ 100000) : Calls Tryz.prog 40 #[.string ⟨#[97]⟩, .int .i64 (n : Int)] w (fun e w' => ∃ s : Str, s.length = n ∧ e = .returned (.string ⟨s.toArray⟩) ∧ Pure w w') := by
  refine (Any.strings_Repeat_main Tryz.lays105 bldExtra5 ⟨#[97]⟩ n w h2 (by omega) (by simp [ByteArray.size]; omega) (by simp [ByteArray.size])).mono ?_
  rintro e w' ⟨rfl, hb⟩
  refine ⟨Lib.repeatL [97] n, by rw [Lib.repeatL_length]; simp, rfl, Mod.of_below hb⟩

/-- The id of number i. -/
def itS (i : Nat) : Str := [105, 97, 97 + UInt8.ofNat i]
set_option maxRecDepth 100000 in
set_option maxHeartbeats 1000000 in
theorem itemId_calls (w : World) (i : Nat) (hi : i < 26) : Calls Tryz.prog 34 #[.int .i64 (i : Int)] w (fun e w' => e = .returned (.string ⟨(itS i).toArray⟩) ∧ Pure w w') := by
  have e1 : Utf8.encode 97 = ⟨#[97]⟩ := enc_ascii 97 (by omega)
  have e2 : Utf8.encode (97 + (i : Int)) = ⟨#[UInt8.ofNat (97 + i)]⟩ := by
    have := enc_ascii (97 + i) (by omega)
    rwa [Int.natCast_add] at this
  have h1 : (i : Int).tdiv 26 = 0 := by
    rw [Int.tdiv_eq_ediv_of_nonneg (by omega)]
    omega
  have h1' : (i : Int) / 26 = 0 := by omega
  have h2 : (i : Int).tmod 26 = (i : Int) := by
    rw [Int.tmod_eq_emod_of_nonneg (by omega)]
    omega
  have h2' : (i : Int) % 26 = (i : Int) := by omega
  have hw : IntKind.i32.wrap (97 + (i : Int)) = 97 + (i : Int) := by simp [IntKind.wrap, IntKind.bits, IntKind.signed]; omega
  have hw1 : IntKind.i32.wrap 97 = 97 := by decide
  go_enter Tryz.func34, Tryz.ntmps34
  go_wp2_with fail
  go_ret
  refine ⟨?_, Mod.refl _ _⟩
  have h0 := bytes_app [105] [97]
  have h := bytes_app ([105] ++ [97]) [97 + UInt8.ofNat i]
  rw [← h0] at h
  exact congrArg (fun x => Ending.returned (Value.string x)) h

def itWords : List Str := [[100, 101, 97, 108], [68, 101, 97, 108], [115, 105, 103, 110], [115, 105, 103, 110, 101, 100], [116, 104, 101], [102, 114, 105, 100, 97, 121], [99, 111, 110, 116, 114, 97, 99, 116], [120, 49], [99, 97, 102, 195, 169], [97, 110, 100]]
def itSeps : List Str := [[32], [32], [32], [44, 32], [45]]
def It1 (w : World) (b N m gk : Nat) (x i : Value) (wr : World) : Prop :=
  ∃ (j : Nat) (a : ByteArray), m - j = gk ∧ j ≤ m ∧ x = .string a ∧ i = .int .i64 (j : Int) ∧ a.size ≤ 100 * j ∧ Strm wr b (N + 1 + 20 * j) ∧ Mod (· = b) w wr
def It2 (w : World) (b N j m gk : Nat) (x i : Value) (wr : World) : Prop :=
  ∃ (k : Nat) (a : ByteArray), m - k = gk ∧ k ≤ m ∧ x = .string a ∧ i = .int .i64 (k : Int) ∧ a.size ≤ 100 * j + 10 * k ∧ Strm wr b (N + 1 + 20 * j + 1 + 2 * k) ∧ Mod (· = b) w wr

set_option maxRecDepth 100000 in
set_option maxHeartbeats 4000000 in
theorem itemText_calls (w : World) (b N : Nat) (hS : Strm w b N) (hN : N ≤ 900000000) : Calls Tryz.prog 96 #[.pointer (some ⟨b, 0, none⟩)] w (StrB w b (N + 61) 300) := by
  have hbl := hS.lt
  go_enter Tryz.func96, Tryz.ntmps96
  go_wp2_with fail
  refine (pickv_calls _ b _ w.heap.size _ _ #[.int .i64 0, .int .i64 1, .int .i64 1, .int .i64 2, .int .i64 3] (hS.alloc _) (Blk.new _ _ _) (by omega) (by omega) rfl (by decide) (by decide) rfl).mono ?_
  rintro e w1 ⟨m, hmem, rfl, hS1, hM1⟩
  have hm02 : 0 ≤ m ∧ m ≤ 3 := by
    have : m = 0 ∨ m = 1 ∨ m = 1 ∨ m = 2 ∨ m = 3 := by simpa [intsOf, intOf] using hmem
    omega
  obtain ⟨hm0, hm2⟩ := hm02
  obtain ⟨m, rfl⟩ := Int.eq_ofNat_of_zero_le hm0
  have hm2' : m ≤ 3 := by omega
  have m1 : Mod (· = b) w w1 := ((Mod.refl _ _).alloc _).trans hM1
  clear hmem hS hM1 hm0 hm2 hbl
  go_wp2_with fail
  go_loopg [3, 8] m (fun gk x i wr => It1 w b N m gk x i wr)
  case atStart => exact ⟨0, ⟨#[]⟩, rfl, by omega, rfl, rfl, by simp [ByteArray.size], hS1.more (by omega), m1⟩
  case round =>
    clear hS1 m1
    obtain ⟨j, a, rfl, hj, rfl, rfl, ha, hS1, hM1⟩ := hrel
    by_cases hlt : j < m
    · go_wp2_with fail
      refine (range_calls _ b _ _ _ hS1 (by omega) (by omega) (by omega) (by omega)).mono ?_
      rintro e w2 ⟨r, hr0, hr1, rfl, hS2, hM2⟩
      obtain ⟨r, rfl⟩ := Int.eq_ofNat_of_zero_le hr0
      have hr6 : r ≤ 6 := by omega
      have m2 := hM1.trans hM2
      clear hS1 hM1 hM2 hr0 hr1
      go_wp2_with fail
      go_loopg [3, 12] r (fun gk x i wr => It2 w b N j r gk x i wr)
      case atStart => exact ⟨0, a, rfl, by omega, rfl, rfl, by omega, hS2.more (by omega), m2⟩
      case round =>
        clear hS2 m2 ha
        obtain ⟨k, a, rfl, hk, rfl, rfl, ha, hS2, m2⟩ := hrel
        have hbl := hS2.lt
        by_cases hlk : k < r
        · by_cases hk0 : k = 0
          · subst hk0
            go_wp2_with fail
            refine (someb_calls _ b _ _ _ _ itWords 8 rfl (by decide) (hS2.alloc _) (by omega) (Blk.new _ _ _) (by omega) (by decide) (by decide)).mono ?_
            rintro e w3 ⟨s, hs, rfl, hS3, hM3⟩
            have m3 := (m2.alloc _).trans hM3
            have hz : (⟨s.toArray⟩ : ByteArray).size ≤ 8 := by simpa [ByteArray.size] using hs
            generalize (⟨s.toArray⟩ : ByteArray) = z at *
            clear hS2 hM3 m2 hs
            go_wp2_with fail
            go_roundg (r - (0 + 1))
            case measure => omega
            case rel => exact ⟨0 + 1, _, rfl, by omega, rfl, by simp, by rw [ByteArray.size_append]; omega, hS3.more (by omega), m3⟩
          · have hk1 : (0 : Int) < (k : Int) := by omega
            go_wp2_with fail
            refine (someb_calls _ b _ _ _ _ itSeps 2 rfl (by decide) (hS2.alloc _) (by omega) (Blk.new _ _ _) (by omega) (by decide) (by decide)).mono ?_
            rintro e w3 ⟨s, hs, rfl, hS3, hM3⟩
            have m3 := (m2.alloc _).trans hM3
            have hz : (⟨s.toArray⟩ : ByteArray).size ≤ 2 := by simpa [ByteArray.size] using hs
            generalize (⟨s.toArray⟩ : ByteArray) = z at *
            have hbl3 := hS3.lt
            have hza : (a ++ z).size ≤ 100 * j + 10 * k + 2 := by rw [ByteArray.size_append]; omega
            clear hS2 hM3 m2 hs hbl
            go_wp2_with fail
            refine (someb_calls _ b _ _ _ _ itWords 8 rfl (by decide) (hS3.alloc _) (by omega) (Blk.new _ _ _) (by omega) (by decide) (by decide)).mono ?_
            rintro e w4 ⟨s, hs, rfl, hS4, hM4⟩
            have m4 := (m3.alloc _).trans hM4
            have hz2 : (⟨s.toArray⟩ : ByteArray).size ≤ 8 := by simpa [ByteArray.size] using hs
            generalize (⟨s.toArray⟩ : ByteArray) = z2 at *
            generalize a ++ z = az at *
            clear hS3 hM4 m3 hs hz ha
            go_wp2_with fail
            go_roundg (r - (k + 1))
            case measure => omega
            case rel => exact ⟨k + 1, _, rfl, by omega, rfl, by simp, by rw [ByteArray.size_append]; omega, hS4.more (by omega), m4⟩
        · obtain rfl : k = r := by omega
          have hz1 : (⟨#[10]⟩ : ByteArray).size = 1 := rfl
          go_wp2_with fail
          go_roundg (m - (j + 1))
          case measure => omega
          case rel => exact ⟨j + 1, _, rfl, by omega, rfl, by simp, by rw [ByteArray.size_append]; omega, hS2.more (by omega), m2⟩
    · obtain rfl : j = m := by omega
      go_wp2_with fail
      go_ret
      exact ⟨a.data.toList, by simp; omega, by simp, hS1.more (by omega), hM1⟩

def someA : List Str := [[97, 110, 110], [98, 111, 98], [99, 105, 100]]
def someB : List Str := [[], [109, 101, 109, 111], [84, 104, 101, 32, 100, 101, 97, 108], [120, 45, 49, 46, 116, 120, 116]]
/-- An item with bounded strings is returned. -/
def ItemPostG (w : World) (b N : Nat) (e : Ending) (w' : World) : Prop := ∃ x : Itm, ItG x ∧ e = .returned (itA x) ∧ Strm w' b N ∧ Mod (· = b) w w'
def ItCut (w : World) (b N gr gx : Nat) (wx : World) : Prop :=
  ∃ x : Itm, ItG x ∧ Blk wx gx 71 (itQ x) ∧ Blk wx gr 71 itZc ∧ Strm wx b N ∧ Mod (· = b) w wx

set_option maxRecDepth 100000 in
set_option maxHeartbeats 8000000 in
theorem item_callsG (w : World) (b N : Nat) (id : Str) (hS : Strm w b N) (hN : N ≤ 800000000) (hid : id.length ≤ 100) : Calls Tryz.prog 35 #[.pointer (some ⟨b, 0, none⟩), .string ⟨id.toArray⟩] w (ItemPostG w b (N + 140)) := by
  have hbl := hS.lt
  have HR0 := Lib.hid (Blk.new w 71 itZc)
  unfold itZc at HR0
  go_enter Tryz.func35, Tryz.ntmps35
  go_wp2_with fail
  refine (someb_calls _ b _ _ _ _ someA 3 rfl (by decide) ((hS.alloc _).alloc _) (by omega) (Blk.snd _ _ _ _) (by omega) (by decide) (by decide)).mono ?_
  rintro e w1 ⟨s1, hs1, rfl, hS1, hM1⟩
  have R1 := (HR0.out.alloc _).mod hM1 (by omega)
  have m1 : Mod (· = b) w w1 := (((Mod.refl _ _).alloc _).alloc _).trans hM1
  obtain ⟨gr, hgr⟩ : ∃ gr, gr = w.heap.size := ⟨_, rfl⟩
  rw [← hgr] at R1 ⊢
  have hgr1 := Nat.le_of_eq hgr
  have hgr2 := Nat.le_of_eq hgr.symm
  have hbr : b < gr := by omega
  clear hgr HR0 hM1 hS
  have hl1 := hS1.lt
  go_wp2_with fail
  refine (pickv_calls _ b _ w1.heap.size _ _ #[.int .i64 1, .int .i64 1, .int .i64 1, .int .i64 2, .int .i64 3, .int .i64 3, .int .i64 4] (hS1.alloc _) (Blk.new _ _ _) (by omega) (by omega) rfl (by decide) (by decide) rfl).mono ?_
  rintro e w2 ⟨kd, _, rfl, hS2, hM2⟩
  have R2 := (R1.alloc _).mod hM2 (by omega)
  have m2 := (m1.alloc _).trans hM2
  clear R1 m1 hS1 hM2 hl1
  have hl2 := hS2.lt
  go_wp2_with fail
  refine (someb_calls _ b _ _ _ _ someB 8 rfl (by decide) (hS2.alloc _) (by omega) (Blk.new _ _ _) (by omega) (by decide) (by decide)).mono ?_
  rintro e w3 ⟨s3, hs3, rfl, hS3, hM3⟩
  have R3 := (R2.alloc _).mod hM3 (by omega)
  have m3 := (m2.alloc _).trans hM3
  clear R2 m2 hS2 hM3 hl2
  have hl3 := hS3.lt
  go_wp2_with fail
  refine (pickv_calls _ b _ w3.heap.size _ _ #[.int .i64 0, .int .i64 10, .int .i64 100, .int .i64 1439, .int .i64 1440, .int .i64 5000, .int .i64 20000] (hS3.alloc _) (Blk.new _ _ _) (by omega) (by omega) rfl (by decide) (by decide) rfl).mono ?_
  rintro e w4 ⟨tm, _, rfl, hS4, hM4⟩
  have R4 := (R3.alloc _).mod hM4 (by omega)
  have m4 := (m3.alloc _).trans hM4
  clear R3 m3 hS3 hM4 hl3
  go_wp2_with fail
  refine (itemText_calls _ b _ hS4 (by omega)).mono ?_
  rintro e w5 ⟨s5, hs5, rfl, hS5, hM5⟩
  have R5 := R4.mod hM5 (by omega)
  have m5 := m4.trans hM5
  clear R4 m4 hS4 hM5
  go_wp2_with fail
  refine (itemText_calls _ b _ hS5 (by omega)).mono ?_
  rintro e w6 ⟨s6, hs6, rfl, hS6, hM6⟩
  have R6 := R5.mod hM6 (by omega)
  have m6 := m5.trans hM6
  clear R5 m5 hS5 hM6
  have hl6 := hS6.lt
  go_wp2_with fail
  refine (someb_calls _ b _ _ _ _ [[], [111, 110, 101, 10], [111, 110, 101, 10, 116, 119, 111, 10], s5, s6] 300 rfl (le_cons (by decide) (le_cons (by decide) (le_cons (by decide) (le_cons hs5 (le_cons hs6 le_nil))))) (hS6.alloc _) (by omega) (Blk.new _ _ _) (by omega) (by simp) (by simp)).mono ?_
  rintro e w7 ⟨s7, hs7, rfl, hS7, hM7⟩
  have R7 := (R6.alloc _).mod hM7 (by omega)
  have m7 := (m6.alloc _).trans hM7
  clear R6 m6 hS6 hM7 hl6 hs5 hs6
  have HB := Lib.hid (Blk.new w7 71 (itQ ⟨id, s1, kd, s3, tm, [], s7⟩))
  have R8 := R7.alloc (.cells (itQ ⟨id, s1, kd, s3, tm, [], s7⟩) 71)
  have m8 := m7.alloc (.cells (itQ ⟨id, s1, kd, s3, tm, [], s7⟩) 71)
  have hS8 := hS7.alloc (.cells (itQ ⟨id, s1, kd, s3, tm, [], s7⟩) 71)
  have hrl := R7.lt
  have hl7 := hS7.lt
  unfold itQ at HB R8 m8 hS8
  simp only at HB R8 m8 hS8
  have HR8 := Lib.hid R8
  have Hm8 := Lib.hid m8
  have HS8 := Lib.hid hS8
  clear R7 m7 hS7 R8 m8 hS8
  go_wp2_with fail
  refine (flip_calls _ b _ _ HS8.out (by omega) (by omega) (by omega)).mono ?_
  rintro e w9 ⟨fl, rfl, hS9, hM9⟩
  have B9 := HB.out.mod hM9 (by omega)
  have R9 := HR8.out.mod hM9 (by omega)
  have m9 := Hm8.out.trans hM9
  generalize w7.heap.size = gx at *
  clear HB HR8 Hm8 HS8 hM9
  go_upto_if 28 with (fail)
  go_cut [] (fun wx => ItCut w b (N + 140) gr gx wx)
  case first =>
    cases fl
    · go_wp2_with fail
      go_meet
      exact ⟨⟨id, s1, kd, s3, tm, [], s7⟩, ⟨by show id.length ≤ _; omega, by show s1.length ≤ _; omega, by show s3.length ≤ _; omega, by simp, by show s7.length ≤ _; omega⟩, B9, R9, hS9.more (by omega), m9⟩
    go_wp2_with fail
    refine (next_calls _ b _ _ hS9 (by omega) (by omega) (by omega)).mono ?_
    rintro e w10 ⟨k, hk0, hk1, rfl, hS10, hM10⟩
    have B10 := B9.mod hM10 (by omega)
    have R10 := R9.mod hM10 (by omega)
    have m10 := m9.trans hM10
    have hl10 := hS10.lt
    clear B9 R9 m9 hS9 hM10
    have HST : Hid (∀ (W : World) (j : Nat) (u : Value), b < gx → Strm W b (N + 140) → Mod (· = b) w W → Blk W gr 71 itZc → Strm (W.setCell ⟨gx, j, none⟩ u) b (N + 140) ∧ Mod (· = b) w (W.setCell ⟨gx, j, none⟩ u) ∧ Blk (W.setCell ⟨gx, j, none⟩ u) gr 71 itZc) :=
      Lib.hid (fun W j u h1 h2 h3 h4 => ⟨h2.setCell h1 _, h3.setCell (p := ⟨gx, j, none⟩) (.inr (by show _ ≤ gx; omega)) _, h4.far (p := ⟨gx, j, none⟩) (by show gr ≠ gx; omega) _⟩)
    by_cases k0 : k = 0
    · subst k0
      go_wp2_with fail
      refine (someb_calls _ b _ _ _ _ [[], [65], id] 100 rfl (le_cons (by decide) (le_cons (by decide) (le_cons hid le_nil))) (hS10.alloc _) (by omega) (Blk.new _ _ _) (by omega) (by simp) (by simp)).mono ?_
      rintro e w11 ⟨t1, ht1, rfl, hS11, hM11⟩
      have B11 := (B10.alloc _).mod hM11 (by omega)
      have R11 := (R10.alloc _).mod hM11 (by omega)
      have m11 := (m10.alloc _).trans hM11
      have hl11 := hS11.lt
      clear B10 R10 m10 hS10 hM11
      go_wp2_with fail
      refine (someb_calls _ b _ _ _ _ [[], [65, 110, 110], [97, 110, 110]] 3 rfl (by decide) (hS11.alloc _) (by omega) (Blk.new _ _ _) (by omega) (by simp) (by simp)).mono ?_
      rintro e w12 ⟨t2, ht2, rfl, hS12, hM12⟩
      have B12 := (B11.alloc _).mod hM12 (by omega)
      have R12 := (R11.alloc _).mod hM12 (by omega)
      have m12 := (m11.alloc _).trans hM12
      clear B11 R11 m11 hS11 hM12
      have HB := Lib.hid B12
      have c0 := B12.cell 0; have cf0 := B12.frozen 0; have c1 := B12.cell 1; have cf1 := B12.frozen 1; have c2 := B12.cell 2; have cf2 := B12.frozen 2; have c3 := B12.cell 3; have cf3 := B12.frozen 3; have c4 := B12.cell 4; have cf4 := B12.frozen 4; have c5 := B12.cell 5; have cf5 := B12.frozen 5; have c6 := B12.cell 6; have cf6 := B12.frozen 6; simp at c0 c1 c2 c3 c4 c5 c6
      clear B12
      go_wp2_with fail
      go_meet
      obtain ⟨a1, a2, a3⟩ := HST.out _ 0 (.string ⟨t1.toArray⟩) (by omega) (hS12.more (by omega)) m12 R12
      obtain ⟨d1, d2, d3⟩ := HST.out _ 1 (.string ⟨t2.toArray⟩) (by omega) a1 a2 a3
      exact ⟨⟨t1, t2, kd, s3, tm, [], s7⟩, ⟨by show t1.length ≤ _; omega, by show t2.length ≤ _; omega, by show s3.length ≤ _; omega, by simp, by show s7.length ≤ _; omega⟩, by have := (HB.out.set 0 (.string ⟨t1.toArray⟩)).set 1 (.string ⟨t2.toArray⟩); simpa [itQ] using this, d3, d1, d2⟩
    have k0' : (k == 0) = false := by simpa using k0
    by_cases k1 : k = 1
    · subst k1
      go_wp2_with fail
      refine (odd_calls _ b _ _ _ hS10 (by omega) (by omega) (by omega) (by omega)).mono ?_
      rintro e w11 ⟨z, _, _, rfl, hS11, hM11⟩
      have B11 := B10.mod hM11 (by omega)
      have R11 := R10.mod hM11 (by omega)
      have m11 := m10.trans hM11
      clear B10 R10 m10 hS10 hM11
      have HB := Lib.hid B11
      have c0 := B11.cell 0; have cf0 := B11.frozen 0; have c1 := B11.cell 1; have cf1 := B11.frozen 1; have c2 := B11.cell 2; have cf2 := B11.frozen 2; have c3 := B11.cell 3; have cf3 := B11.frozen 3; have c4 := B11.cell 4; have cf4 := B11.frozen 4; have c5 := B11.cell 5; have cf5 := B11.frozen 5; have c6 := B11.cell 6; have cf6 := B11.frozen 6; simp at c0 c1 c2 c3 c4 c5 c6
      clear B11
      go_wp2_with fail
      go_meet
      obtain ⟨a1, a2, a3⟩ := HST.out _ 2 (.int .i64 z) (by omega) (hS11.more (by omega)) m11 R11
      exact ⟨⟨id, s1, z, s3, tm, [], s7⟩, ⟨by show id.length ≤ _; omega, by show s1.length ≤ _; omega, by show s3.length ≤ _; omega, by simp, by show s7.length ≤ _; omega⟩, by have := HB.out.set 2 (.int .i64 z); simpa [itQ] using this, a3, a1, a2⟩
    have k1' : (k == 1) = false := by simpa using k1
    by_cases k2 : k = 2
    · subst k2
      go_wp2_with fail
      refine (pickv_calls _ b _ w10.heap.size _ _ #[.int .i64 120, .int .i64 121] (hS10.alloc _) (Blk.new _ _ _) (by omega) (by omega) rfl (by decide) (by decide) rfl).mono ?_
      rintro e w11 ⟨z, hz, rfl, hS11, hM11⟩
      have hz2 : 2 ≤ z ∧ z ≤ 200 := by
        have : z = 120 ∨ z = 121 := by simpa [intsOf, intOf] using hz
        omega
      obtain ⟨z, rfl⟩ := Int.eq_ofNat_of_zero_le (by omega : 0 ≤ z)
      have B11 := (B10.alloc _).mod hM11 (by omega)
      have R11 := (R10.alloc _).mod hM11 (by omega)
      have m11 := (m10.alloc _).trans hM11
      clear B10 R10 m10 hS10 hM11 hz
      go_wp2_with fail
      refine (repeatA_calls _ z (by omega) (by omega)).mono ?_
      rintro e w12 ⟨t1, ht1, rfl, hM12⟩
      have B12 := B11.mod hM12 _root_.id
      have R12 := R11.mod hM12 _root_.id
      have m12 := m11.transp hM12
      have hS12 := hS11.pure hM12
      have hl12 := hS12.lt
      have ht1' : t1.length ≤ 200 := by omega
      clear B11 R11 m11 hS11 hM12 ht1 hz2
      go_wp2_with fail
      refine (someb_calls _ b _ _ _ _ [[32, 97], [97, 32, 32, 98], [97, 10], [255], t1] 200 rfl (le_cons (by decide) (le_cons (by decide) (le_cons (by decide) (le_cons (by decide) (le_cons ht1' le_nil))))) (hS12.alloc _) (by omega) (Blk.new _ _ _) (by omega) (by simp) (by simp)).mono ?_
      rintro e w13 ⟨t2, ht2, rfl, hS13, hM13⟩
      have B13 := (B12.alloc _).mod hM13 (by omega)
      have R13 := (R12.alloc _).mod hM13 (by omega)
      have m13 := (m12.alloc _).trans hM13
      clear B12 R12 m12 hS12 hM13
      have HB := Lib.hid B13
      have c0 := B13.cell 0; have cf0 := B13.frozen 0; have c1 := B13.cell 1; have cf1 := B13.frozen 1; have c2 := B13.cell 2; have cf2 := B13.frozen 2; have c3 := B13.cell 3; have cf3 := B13.frozen 3; have c4 := B13.cell 4; have cf4 := B13.frozen 4; have c5 := B13.cell 5; have cf5 := B13.frozen 5; have c6 := B13.cell 6; have cf6 := B13.frozen 6; simp at c0 c1 c2 c3 c4 c5 c6
      clear B13
      go_wp2_with fail
      go_meet
      obtain ⟨a1, a2, a3⟩ := HST.out _ 3 (.string ⟨t2.toArray⟩) (by omega) (hS13.more (by omega)) m13 R13
      exact ⟨⟨id, s1, kd, t2, tm, [], s7⟩, ⟨by show id.length ≤ _; omega, by show s1.length ≤ _; omega, by show t2.length ≤ _; omega, by simp, by show s7.length ≤ _; omega⟩, by have := HB.out.set 3 (.string ⟨t2.toArray⟩); simpa [itQ] using this, a3, a1, a2⟩
    have k2' : (k == 2) = false := by simpa using k2
    by_cases k3 : k = 3
    · subst k3
      go_wp2_with fail
      refine (odd_calls _ b _ _ _ hS10 (by omega) (by omega) (by omega) (by omega)).mono ?_
      rintro e w11 ⟨z, _, _, rfl, hS11, hM11⟩
      have B11 := B10.mod hM11 (by omega)
      have R11 := R10.mod hM11 (by omega)
      have m11 := m10.trans hM11
      clear B10 R10 m10 hS10 hM11
      have HB := Lib.hid B11
      have c0 := B11.cell 0; have cf0 := B11.frozen 0; have c1 := B11.cell 1; have cf1 := B11.frozen 1; have c2 := B11.cell 2; have cf2 := B11.frozen 2; have c3 := B11.cell 3; have cf3 := B11.frozen 3; have c4 := B11.cell 4; have cf4 := B11.frozen 4; have c5 := B11.cell 5; have cf5 := B11.frozen 5; have c6 := B11.cell 6; have cf6 := B11.frozen 6; simp at c0 c1 c2 c3 c4 c5 c6
      clear B11
      go_wp2_with fail
      go_meet
      obtain ⟨a1, a2, a3⟩ := HST.out _ 4 (.int .i64 z) (by omega) (hS11.more (by omega)) m11 R11
      exact ⟨⟨id, s1, kd, s3, z, [], s7⟩, ⟨by show id.length ≤ _; omega, by show s1.length ≤ _; omega, by show s3.length ≤ _; omega, by simp, by show s7.length ≤ _; omega⟩, by have := HB.out.set 4 (.int .i64 z); simpa [itQ] using this, a3, a1, a2⟩
    have k3' : (k == 3) = false := by simpa using k3
    by_cases k4 : k = 4
    · subst k4
      go_wp2_with fail
      refine (someb_calls _ b _ _ _ _ [[65], id, [57]] 100 rfl (le_cons (by decide) (le_cons hid (le_cons (by decide) le_nil))) (hS10.alloc _) (by omega) (Blk.new _ _ _) (by omega) (by simp) (by simp)).mono ?_
      rintro e w11 ⟨t1, ht1, rfl, hS11, hM11⟩
      have B11 := (B10.alloc _).mod hM11 (by omega)
      have R11 := (R10.alloc _).mod hM11 (by omega)
      have m11 := (m10.alloc _).trans hM11
      clear B10 R10 m10 hS10 hM11
      have HB := Lib.hid B11
      have c0 := B11.cell 0; have cf0 := B11.frozen 0; have c1 := B11.cell 1; have cf1 := B11.frozen 1; have c2 := B11.cell 2; have cf2 := B11.frozen 2; have c3 := B11.cell 3; have cf3 := B11.frozen 3; have c4 := B11.cell 4; have cf4 := B11.frozen 4; have c5 := B11.cell 5; have cf5 := B11.frozen 5; have c6 := B11.cell 6; have cf6 := B11.frozen 6; simp at c0 c1 c2 c3 c4 c5 c6
      clear B11
      go_wp2_with fail
      go_meet
      obtain ⟨a1, a2, a3⟩ := HST.out _ 5 (.string ⟨t1.toArray⟩) (by omega) (hS11.more (by omega)) m11 R11
      exact ⟨⟨id, s1, kd, s3, tm, t1, s7⟩, ⟨by show id.length ≤ _; omega, by show s1.length ≤ _; omega, by show s3.length ≤ _; omega, by show t1.length ≤ _; omega, by show s7.length ≤ _; omega⟩, by have := HB.out.set 5 (.string ⟨t1.toArray⟩); simpa [itQ] using this, a3, a1, a2⟩
    have k4' : (k == 4) = false := by simpa using k4
    go_wp2_with fail
    refine (pickv_calls _ b _ w10.heap.size _ _ #[.int .i64 19999, .int .i64 20000] (hS10.alloc _) (Blk.new _ _ _) (by omega) (by omega) rfl (by decide) (by decide) rfl).mono ?_
    rintro e w11 ⟨z, hz, rfl, hS11, hM11⟩
    have hz2 : 2 ≤ z ∧ z ≤ 20000 := by
      have : z = 19999 ∨ z = 20000 := by simpa [intsOf, intOf] using hz
      omega
    obtain ⟨z, rfl⟩ := Int.eq_ofNat_of_zero_le (by omega : 0 ≤ z)
    have B11 := (B10.alloc _).mod hM11 (by omega)
    have R11 := (R10.alloc _).mod hM11 (by omega)
    have m11 := (m10.alloc _).trans hM11
    clear B10 R10 m10 hS10 hM11 hz
    go_wp2_with fail
    refine (repeatA_calls _ z (by omega) (by omega)).mono ?_
    rintro e w12 ⟨t1, ht1, rfl, hM12⟩
    have B12 := B11.mod hM12 _root_.id
    have R12 := R11.mod hM12 _root_.id
    have m12 := m11.transp hM12
    have hS12 := hS11.pure hM12
    have hl12 := hS12.lt
    have ht1' : (t1 ++ [10]).length ≤ 20001 := by simp; omega
    have hap := bytes_app t1 [10]
    have hsz : (⟨t1.toArray⟩ : ByteArray).size ≤ 20000 := by simp [ByteArray.size]; omega
    have HAP : Hid ((⟨t1.toArray⟩ : ByteArray) ++ ⟨#[10]⟩ = ⟨(t1 ++ [10]).toArray⟩) := Lib.hid hap
    clear B11 R11 m11 hS11 hM12 ht1 hz2 hap
    generalize t1 ++ [10] = t3 at *
    generalize (⟨t1.toArray⟩ : ByteArray) = z1 at *
    go_wp2_with fail
    rw [HAP.out]
    refine (someb_calls _ b _ _ _ _ [[110, 111, 32, 101, 110, 100], [1, 10], [127, 10], [255, 10], t3] 20001 rfl (le_cons (by decide) (le_cons (by decide) (le_cons (by decide) (le_cons (by decide) (le_cons ht1' le_nil))))) (hS12.alloc _) (by omega) (Blk.new _ _ _) (by omega) (by simp) (by simp)).mono ?_
    rintro e w13 ⟨t2, ht2, rfl, hS13, hM13⟩
    have B13 := (B12.alloc _).mod hM13 (by omega)
    have R13 := (R12.alloc _).mod hM13 (by omega)
    have m13 := (m12.alloc _).trans hM13
    clear B12 R12 m12 hS12 hM13
    have HB := Lib.hid B13
    have c0 := B13.cell 0; have cf0 := B13.frozen 0; have c1 := B13.cell 1; have cf1 := B13.frozen 1; have c2 := B13.cell 2; have cf2 := B13.frozen 2; have c3 := B13.cell 3; have cf3 := B13.frozen 3; have c4 := B13.cell 4; have cf4 := B13.frozen 4; have c5 := B13.cell 5; have cf5 := B13.frozen 5; have c6 := B13.cell 6; have cf6 := B13.frozen 6; simp at c0 c1 c2 c3 c4 c5 c6
    clear B13
    go_wp2_with fail
    go_meet
    obtain ⟨a1, a2, a3⟩ := HST.out _ 6 (.string ⟨t2.toArray⟩) (by omega) (hS13.more (by omega)) m13 R13
    exact ⟨⟨id, s1, kd, s3, tm, [], t2⟩, ⟨by show id.length ≤ _; omega, by show s1.length ≤ _; omega, by show s3.length ≤ _; omega, by simp, by show t2.length ≤ _; omega⟩, by have := HB.out.set 6 (.string ⟨t2.toArray⟩); simpa [itQ] using this, a3, a1, a2⟩
  case rest =>
    clear B9 R9 m9 hS9
    obtain ⟨⟨y0, y1, y2, y3, y4, y5, y6⟩, hy, B, R, hS, hm⟩ := hcut
    unfold itQ at B
    unfold itZc at R
    simp only at B
    have HR := Lib.hid R
    have c0 := B.cell 0; have c1 := B.cell 1; have c2 := B.cell 2; have c3 := B.cell 3; have c4 := B.cell 4; have c5 := B.cell 5; have c6 := B.cell 6; simp at c0 c1 c2 c3 c4 c5 c6
    have d0 := R.cell 0; have df0 := R.frozen 0; have d1 := R.cell 1; have df1 := R.frozen 1; have d2 := R.cell 2; have df2 := R.frozen 2; have d3 := R.cell 3; have df3 := R.frozen 3; have d4 := R.cell 4; have df4 := R.frozen 4; have d5 := R.cell 5; have df5 := R.frozen 5; have d6 := R.cell 6; have df6 := R.frozen 6; simp at d0 d1 d2 d3 d4 d5 d6
    clear B R
    go_wp2_with fail
    have q := HR.out.set7 (x0 := .string ⟨y0.toArray⟩) (x1 := .string ⟨y1.toArray⟩) (x2 := .int .i64 y2) (x3 := .string ⟨y3.toArray⟩) (x4 := .int .i64 y4) (x5 := .string ⟨y5.toArray⟩) (x6 := .string ⟨y6.toArray⟩)
    have hm7 := Mod.set7 wc gr (.string ⟨y0.toArray⟩) (.string ⟨y1.toArray⟩) (.int .i64 y2) (.string ⟨y3.toArray⟩) (.int .i64 y4) (.string ⟨y5.toArray⟩) (.string ⟨y6.toArray⟩)
    have r0 := q.cell 0; have r1 := q.cell 1; have r2 := q.cell 2; have r3 := q.cell 3; have r4 := q.cell 4; have r5 := q.cell 5; have r6 := q.cell 6; simp at r0 r1 r2 r3 r4 r5 r6
    refine bodyPost_ret (v := itA ⟨y0, y1, y2, y3, y4, y5, y6⟩) (by simp [results, Tryz.results35, go_sem, itA, r0, r1, r2, r3, r4, r5, r6]) rfl ?_
    exact ⟨_, hy, rfl, hS.mod hm7 (fun i hi => by omega), hm.trans' hm7 (fun i hi hlt => by omega)⟩

end Go.Proofs.YtofkkenmkflmiaaGreatDoor
