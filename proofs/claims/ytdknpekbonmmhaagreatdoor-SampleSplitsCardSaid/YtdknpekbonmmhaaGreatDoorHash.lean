/- Hashes: package sample's and the reference's. -/
import Derived.Test.YtdknpekbonmmhaaGreatDoorCheck
import Derived.Lib.ConvBytes
namespace Go.Proofs.YtdknpekbonmmhaaGreatDoor
set_option linter.unusedVariables false
set_option linter.unusedSimpArgs false
open Go.RowKit

def hstep (h c : Nat) : Nat := ((h ^^^ c) * 16777619) % 4294967296
def hmix (h : Nat) : Nat := ((h ^^^ h / 32768) * 2246822519) % 4294967296
def hb (i : Nat) (l : List UInt8) : Nat := l.foldl (fun h c => hstep h c.toNat) i
def hbytes (l : List UInt8) : Nat := hb 2166136261 l
def hashN (l : List UInt8) : Nat := hmix (hmix (hbytes l)) ^^^ hmix (hmix (hbytes l)) / 8192

def hmixN : Nat → Nat → Nat
  | 0, h => h
  | k + 1, h => hmix (hmixN k h)
theorem hmix_lt (h : Nat) : hmix h < 4294967296 := by unfold hmix; omega
theorem hmixN_lt : ∀ (k h : Nat), h < 4294967296 → hmixN k h < 4294967296
  | 0, h, hh => hh
  | k + 1, h, _ => hmix_lt _
theorem cast_mulmod (x a m : Nat) : ((x * a % m : Nat) : Int) = (x : Int) * (a : Int) % (m : Int) := by simp
theorem xor_lt32 {a b : Nat} (ha : a < 4294967296) (hb : b < 4294967296) : a ^^^ b < 4294967296 := Nat.xor_lt_two_pow (n := 32) ha hb
def u8s (l : List UInt8) : List Value := l.map (fun b => Value.int .u8 (b.toNat : Int))
theorem u8s_get (l : List UInt8) (i : Nat) (h : i < l.length) : (u8s l)[i]? = some (.int .u8 (l[i].toNat : Int)) := by simp [u8s, h]
theorem bytes_pure (w : World) (e : TypeId) (s : ByteArray) : Pure w (Lib.bytesWorld w e s) := by
  refine ⟨?_, ?_, ?_, by rw [Lib.bytesWorld_size]; omega, fun k hk _ => Lib.bytesWorld_at_old w e s k hk⟩
  all_goals
    unfold Lib.bytesWorld World.freeze
    split <;> rfl
theorem bytes_row (w : World) (e : TypeId) (s : ByteArray) : RowAt (Lib.bytesWorld w e s) e w.heap.size 0 (u8s s.data.toList) := by
  refine ⟨_, _, Lib.bytesWorld_at_new w e s, fun i u hu => ?_⟩
  have hi : i < s.data.toList.length := by
    have := (List.getElem?_eq_some_iff.1 hu).1
    simpa [u8s] using this
  rw [u8s_get _ _ hi] at hu
  injection hu with hu
  subst hu
  have hi' : i < s.data.size := by simpa using hi
  have hi2 : i < s.size := hi'
  simp [Lib.bytesCells, Array.getElem?_append, hi', hi2]
theorem cat_list (seed id : ByteArray) : (seed ++ ({ data := #[32] } : ByteArray) ++ id).data.toList = seed.data.toList ++ 32 :: id.data.toList := by
  simp [ByteArray.data_append]
theorem hb_snoc (i : Nat) (l : List UInt8) (c : UInt8) : hb i (l ++ [c]) = hstep (hb i l) c.toNat := by unfold hb; rw [List.foldl_append, List.foldl_cons, List.foldl_nil]
theorem hbytes_snoc (l : List UInt8) (c : UInt8) : hbytes (l ++ [c]) = hstep (hbytes l) c.toNat := hb_snoc 2166136261 l c
theorem hbytes_nil : hbytes [] = 2166136261 := rfl
theorem hstep_lt (h c : Nat) : hstep h c < 4294967296 := by unfold hstep; omega
theorem hbytes_lt (l : List UInt8) : hbytes l < 4294967296 := by
  rcases List.eq_nil_or_concat l with rfl | ⟨l', c, rfl⟩
  · rw [hbytes_nil]; omega
  · rw [List.concat_eq_append, hbytes_snoc]; exact hstep_lt _ _

set_option maxRecDepth 100000 in
set_option maxHeartbeats 1000000 in
theorem hash_calls (w : World) (id seed : ByteArray) (h1 : id.size ≤ 1000) (h2 : seed.size ≤ 1000) :
    Calls Tryz.prog 122 #[.string id, .string seed] w (IntPost w (hashN (seed.data.toList ++ 32 :: id.data.toList) : Nat)) := by
  have hcv := fun W s => Lib.run_convert_string_bytes (P := Tryz.prog) W 9 215 5 s Tryz.underlying9 Tryz.underlying215 Tryz.underlying5
  have hsz : (seed ++ ({ data := #[32] } : ByteArray) ++ id).size = (seed.data.toList ++ 32 :: id.data.toList).length := by
    rw [← cat_list]; rfl
  have hrow := bytes_row w 5 (seed ++ ({ data := #[32] } : ByteArray) ++ id)
  rw [cat_list] at hrow
  have hpu := bytes_pure w 5 (seed ++ ({ data := #[32] } : ByteArray) ++ id)
  have hln : (seed.data.toList ++ 32 :: id.data.toList).length ≤ 2001 := by
    simp
    have e1 : seed.data.size = seed.size := rfl
    have e2 : id.data.size = id.size := rfl
    omega
  generalize (seed.data.toList ++ 32 :: id.data.toList) = l at *
  go_enter Tryz.func122, Tryz.ntmps122
  go_wp2_with fail
  clear hcv
  generalize (seed ++ ({ data := #[32] } : ByteArray) ++ id) = t at *
  generalize Lib.bytesWorld w 5 t = W at *
  generalize grownCap w l.length 0 5 = cap at *
  clear hsz
  go_loopg [5, 14] l.length (fun gk h i wr => ∃ k : Nat, l.length - k = gk ∧ k ≤ l.length ∧ i = .int .i64 (k : Int) ∧ h = .int .u32 ((hbytes (l.take k) : Nat) : Int) ∧ W = wr)
  case atStart => exact ⟨0, by omega, by omega, rfl, by simp [hbytes_nil], rfl⟩
  case round =>
    obtain ⟨k, rfl, hk, rfl, rfl, rfl⟩ := hrel
    have hb := hbytes_lt (l.take k)
    by_cases hlt : k < l.length
    · have hq := hrow.cell (u8s_get l k hlt)
      rw [Nat.zero_add] at hq
      have hsn : hbytes (l.take (k + 1)) = hstep (hbytes (l.take k)) l[k].toNat := by
        rw [List.take_succ_eq_append_getElem hlt, hbytes_snoc]
      have hcb : l[k].toNat < 256 := l[k].toNat_lt
      have HS := Lib.hid hsn
      clear hsn
      generalize l[k].toNat = c at *
      generalize hbytes (l.take k) = h at *
      have hx := u32_xor_nat h c hb (by omega)
      have hxl := xor_lt32 hb (show c < 4294967296 by omega)
      have HS2 : Hid (hbytes (l.take (k + 1)) = ((h ^^^ c) * 16777619) % 4294967296) := HS.out
      clear HS
      generalize h ^^^ c = x at *
      go_wp2_with fail
      go_roundg (l.length - (k + 1))
      case measure => omega
      case rel => exact ⟨k + 1, rfl, hlt, by simp, by rw [HS2.out, cast_mulmod]; rfl, rfl⟩
    · have hke : k = l.length := by omega
      subst hke
      rw [List.take_of_length_le (Nat.le_refl _)] at hb ⊢
      have hfin : hashN l = hmixN 2 (hbytes l) ^^^ hmixN 2 (hbytes l) / 8192 := rfl
      have HF := Lib.hid hfin
      clear hfin hrow
      generalize hbytes l = H at *
      go_wp2_with fail
      go_loopg [5, 24] 2 (fun gk h i wr => ∃ k : Nat, 2 - k = gk ∧ k ≤ 2 ∧ i = .int .i64 (k : Int) ∧ h = .int .u32 ((hmixN k H : Nat) : Int) ∧ W = wr)
      case atStart => exact ⟨0, by omega, by omega, rfl, rfl, rfl⟩
      case round =>
        obtain ⟨k, rfl, hk, rfl, rfl, rfl⟩ := hrel
        have hb2 := hmixN_lt k H hb
        by_cases hlt : k < 2
        · have hsn : hmixN (k + 1) H = hmix (hmixN k H) := rfl
          have HS := Lib.hid hsn
          clear hsn
          generalize hmixN k H = h at *
          have HS2 : Hid (hmixN (k + 1) H = ((h ^^^ h / 32768) * 2246822519) % 4294967296) := HS.out
          have hd : (h : Int) / 32768 = ((h / 32768 : Nat) : Int) := by omega
          have hyl : h / 32768 < 4294967296 := by omega
          generalize h / 32768 = y at *
          have hx := u32_xor_nat h y hb2 hyl
          have hxl := xor_lt32 hb2 hyl
          clear HS
          generalize h ^^^ y = x at *
          go_wp2_with fail
          go_roundg (2 - (k + 1))
          case measure => omega
          case rel => exact ⟨k + 1, rfl, hlt, by simp, by rw [HS2.out, cast_mulmod]; rfl, rfl⟩
        · have hke : k = 2 := by omega
          subst hke
          generalize hmixN 2 H = h at *
          have hd : (h : Int) / 8192 = ((h / 8192 : Nat) : Int) := by omega
          have hyl : h / 8192 < 4294967296 := by omega
          generalize h / 8192 = y at *
          have hx := u32_xor_nat h y hb2 hyl
          have hxl := xor_lt32 hb2 hyl
          generalize h ^^^ y = x at *
          go_wp2_with fail
          go_ret
          exact IntPost.of (by rw [HF.out]) hpu

set_option maxHeartbeats 400000 in
theorem low_calls (n : Int) (w : World) (h0 : 0 ≤ n) (h1 : n < 18446744073709551616) : Calls Tryz.prog 201 #[.int .u64 n] w fun r w' => r = .returned (.int .u64 (n % 4294967296)) ∧ w = w' := by
  go_enter Tryz.func201, Tryz.ntmps201
  go_wp2
  go_ret
  exact ⟨rfl, rfl⟩

set_option maxRecDepth 100000 in
set_option maxHeartbeats 1000000 in
theorem HashOf_calls (w : World) (id seed : ByteArray) (h1 : id.size ≤ 1000) (h2 : seed.size ≤ 1000) :
    Calls Tryz.prog 126 #[.string id, .string seed] w (IntPost w (hashN (seed.data.toList ++ 32 :: id.data.toList) : Nat)) := by
  have hcv := fun W s => Lib.run_convert_string_bytes (P := Tryz.prog) W 9 215 5 s Tryz.underlying9 Tryz.underlying215 Tryz.underlying5
  have hsz : (seed ++ ({ data := #[32] } : ByteArray) ++ id).size = (seed.data.toList ++ 32 :: id.data.toList).length := by
    rw [← cat_list]; rfl
  have hrow := bytes_row w 5 (seed ++ ({ data := #[32] } : ByteArray) ++ id)
  rw [cat_list] at hrow
  have hpu := bytes_pure w 5 (seed ++ ({ data := #[32] } : ByteArray) ++ id)
  have hln : (seed.data.toList ++ 32 :: id.data.toList).length ≤ 2001 := by
    simp
    have e1 : seed.data.size = seed.size := rfl
    have e2 : id.data.size = id.size := rfl
    omega
  generalize (seed.data.toList ++ 32 :: id.data.toList) = l at *
  go_enter Tryz.func126, Tryz.ntmps126
  go_wp2_with fail
  clear hcv
  generalize (seed ++ ({ data := #[32] } : ByteArray) ++ id) = t at *
  generalize Lib.bytesWorld w 5 t = W at *
  generalize grownCap w l.length 0 5 = cap at *
  clear hsz
  go_loopg [5, 15] l.length (fun gk h i wr => ∃ k : Nat, l.length - k = gk ∧ k ≤ l.length ∧ i = .int .i64 (k : Int) ∧ h = .int .u64 ((hbytes (l.take k) : Nat) : Int) ∧ W = wr)
  case atStart => exact ⟨0, by omega, by omega, rfl, by simp [hbytes_nil], rfl⟩
  case round =>
    obtain ⟨k, rfl, hk, rfl, rfl, rfl⟩ := hrel
    have hb := hbytes_lt (l.take k)
    by_cases hlt : k < l.length
    · have hq := hrow.cell (u8s_get l k hlt)
      rw [Nat.zero_add] at hq
      have hsn : hbytes (l.take (k + 1)) = hstep (hbytes (l.take k)) l[k].toNat := by
        rw [List.take_succ_eq_append_getElem hlt, hbytes_snoc]
      have hcb : l[k].toNat < 256 := l[k].toNat_lt
      have HS := Lib.hid hsn
      clear hsn
      generalize l[k].toNat = c at *
      generalize hbytes (l.take k) = h at *
      have hx := u64_xor_nat h c (by omega) (by omega)
      have hxl := xor_lt32 hb (show c < 4294967296 by omega)
      have HS2 : Hid (hbytes (l.take (k + 1)) = ((h ^^^ c) * 16777619) % 4294967296) := HS.out
      clear HS
      generalize h ^^^ c = x at *
      go_wp2_with fail
      refine (low_calls _ _ (by omega) (by omega)).mono ?_
      rintro e w' ⟨rfl, rfl⟩
      go_wp2_with fail
      go_roundg (l.length - (k + 1))
      case measure => omega
      case rel => exact ⟨k + 1, rfl, hlt, by simp, by rw [HS2.out, cast_mulmod]; rfl, rfl⟩
    · have hke : k = l.length := by omega
      subst hke
      rw [List.take_of_length_le (Nat.le_refl _)] at hb ⊢
      have hfin : hashN l = hmixN 2 (hbytes l) ^^^ hmixN 2 (hbytes l) / 8192 := rfl
      have HF := Lib.hid hfin
      clear hfin hrow
      generalize hbytes l = H at *
      go_wp2_with fail
      go_loopg [5, 27] 2 (fun gk h i wr => ∃ k : Nat, 2 - k = gk ∧ k ≤ 2 ∧ i = .int .i64 (k : Int) ∧ h = .int .u64 ((hmixN k H : Nat) : Int) ∧ W = wr)
      case atStart => exact ⟨0, by omega, by omega, rfl, rfl, rfl⟩
      case round =>
        obtain ⟨k, rfl, hk, rfl, rfl, rfl⟩ := hrel
        have hb2 := hmixN_lt k H hb
        by_cases hlt : k < 2
        · have hsn : hmixN (k + 1) H = hmix (hmixN k H) := rfl
          have HS := Lib.hid hsn
          clear hsn
          generalize hmixN k H = h at *
          have HS2 : Hid (hmixN (k + 1) H = ((h ^^^ h / 32768) * 2246822519) % 4294967296) := HS.out
          have hd : (h : Int) / 32768 = ((h / 32768 : Nat) : Int) := by omega
          have hyl : h / 32768 < 4294967296 := by omega
          generalize h / 32768 = y at *
          have hx := u64_xor_nat h y (by omega) (by omega)
          have hxl := xor_lt32 hb2 hyl
          clear HS
          generalize h ^^^ y = x at *
          go_wp2_with fail
          refine (low_calls _ _ (by omega) (by omega)).mono ?_
          rintro e w' ⟨rfl, rfl⟩
          go_wp2_with fail
          go_roundg (2 - (k + 1))
          case measure => omega
          case rel => exact ⟨k + 1, rfl, hlt, by simp, by rw [HS2.out, cast_mulmod]; rfl, rfl⟩
        · have hke : k = 2 := by omega
          subst hke
          generalize hmixN 2 H = h at *
          have hd : (h : Int) / 8192 = ((h / 8192 : Nat) : Int) := by omega
          have hyl : h / 8192 < 4294967296 := by omega
          generalize h / 8192 = y at *
          have hx := u64_xor_nat h y (by omega) (by omega)
          have hxl := xor_lt32 hb2 hyl
          generalize h ^^^ y = x at *
          go_wp2_with fail
          go_ret
          exact IntPost.of (by rw [HF.out]) hpu

end Go.Proofs.YtdknpekbonmmhaaGreatDoor
