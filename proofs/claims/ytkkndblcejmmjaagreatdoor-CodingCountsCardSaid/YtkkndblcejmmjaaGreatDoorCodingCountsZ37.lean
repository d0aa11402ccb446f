/- Texts of the proof of CodingCounts, put together: TxtA, TxtR. -/
import Derived.Test.YtkkndblcejmmjaaGreatDoorCodingCountsZ4
import Derived.Test.YtkkndblcejmmjaaGreatDoorCodingCountsZ8
import Derived.Test.YtkkndblcejmmjaaGreatDoorCodingCountsZ32
import Derived.Shelf.Unicode.ValidAny
import Derived.Shelf.Strings.Search3
import Derived.Shelf.Strings.Prefix
/- Strings of items: what the program and the reference say of them. -/
namespace Go.Proofs.YtkkndblcejmmjaaGreatDoor
set_option linter.unusedVariables false
set_option linter.unusedSimpArgs false
open Go.RowKit

/-- The tables of UTF-8. -/
def Utf (w : World) : Prop := Lib.Utf8Tabs 1 2 w
/-- The library's variable MaxLen holds some number. -/
def Mln (w : World) : Prop := ∃ m : Int, w.cell? ⟨0, 0, none⟩ = some (.int .i64 m)
def Env (w : World) : Prop := Utf w ∧ Mln w
theorem Utf.pure {w w' : World} (h : Utf w) (hm : Pure w w') : Utf w' := Utf8Tabs_below h hm.below
theorem Mln.pure {w w' : World} (h : Mln w) (hm : Pure w w') : Mln w' := by
 obtain ⟨m, h⟩ := h
 exact ⟨m, hm.keep h id⟩
theorem Env.pure {w w' : World} (h : Env w) (hm : Pure w w') : Env w' := ⟨h.1.pure hm, h.2.pure hm⟩
theorem Env.alloc {w : World} (h : Env w) (o : Obj) : Env (w.alloc o) := h.pure ((Mod.refl _ _).alloc o)
theorem Pure.same (w : World) : Pure w w := Mod.refl _ _

theorem valid_calls (w : World) (s : ByteArray) (hs : s.size ≤ 1000000) (hU : Utf w) : Calls Tryz.prog 168 #[.string s] w (BoolPost w (Lib.validD s.data.toList)) := by
 refine (Any.utf8_ValidString Tryz.lays196 s w (by omega) hU).mono ?_
 rintro e w' ⟨rfl, h⟩
 exact ⟨rfl, Mod.of_below h⟩
theorem contains_calls (w : World) (s t : ByteArray) (hs : s.size ≤ 1000000) (hM : Mln w) : Calls Tryz.prog 169 #[.string s, .string t] w (BoolSame w (Lib.contains s.data.toList t.data.toList)) := by
 obtain ⟨m, hm⟩ := hM
 refine (Any.strings_Contains Tryz.lays144 s t m w (by omega) hm).mono ?_
 rintro e w' ⟨rfl, h⟩
 exact ⟨rfl, h.symm⟩
theorem visB_false (f : Bool) (l : Str) (k : Nat) (h : k < l.length) (hk : visC f l[k].toNat = false) : visB f l = false := by
 unfold visB
 rw [List.all_eq_false]
 exact ⟨l[k], List.getElem_mem h, by simp [hk]⟩

end Go.Proofs.YtkkndblcejmmjaaGreatDoor

/- Strings of items: what the reference says of them. -/
namespace Go.Proofs.YtkkndblcejmmjaaGreatDoor
set_option linter.unusedVariables false
set_option linter.unusedSimpArgs false
open Go.RowKit

theorem trim32_calls (w : World) (l : Str) (hs : l.length ≤ 1000000) : Calls Tryz.prog 152 #[.string ⟨l.toArray⟩, .string ⟨#[32]⟩] w (fun e w' => e = .returned (.string ⟨(Lib.trimS l [32]).toArray⟩) ∧ Pure w w') := by
 have hsz : (⟨l.toArray⟩ : ByteArray).size ≤ 1000000 := by simpa [ByteArray.size] using hs
 have hcon := Any.strings_Trim_laid Tryz.lays160 (by kernel_rfl) ⟨l.toArray⟩ ⟨#[32]⟩ w (by omega) (by simp [ByteArray.size]) (ascii_of_all (by decide))
 refine hcon.mono ?_
 rintro e w' ⟨rfl, h⟩
 exact ⟨rfl, Mod.of_below h⟩

set_option maxRecDepth 100000 in
set_option maxHeartbeats 2000000 in
theorem rplain_calls (w : World) (l : Str) (hs : l.length ≤ 1000000) (hE : Env w) : Calls Tryz.prog 124 #[.string ⟨l.toArray⟩] w (BoolPost w (plainB l)) := by
 have hsz : (⟨l.toArray⟩ : ByteArray).size ≤ 1000000 := by simpa [ByteArray.size] using hs
 have HLS : Hid (l.length = (⟨l.toArray⟩ : ByteArray).size) := Lib.hid (by simp [ByteArray.size])
 have HV := Lib.hid (valid_calls w ⟨l.toArray⟩ hsz hE.1)
 have HT := Lib.hid (fun W => trim32_calls W l hs)
 have HC := Lib.hid (fun W (h : Pure w W) => contains_calls W ⟨l.toArray⟩ ⟨#[32, 32]⟩ hsz (hE.2.pure h))
 have HTS := Lib.hid (trim_self l)
 have HX : Hid (plainB l = (visB false l && (Lib.validD l && (!Lib.hasPrefix l [32] && (!Lib.hasSuffix l [32] && !Lib.contains l [32, 32]))))) := Lib.hid rfl
 clear hE hs
 generalize hp : plainB l = pl at *
 clear hp
 obtain ⟨s, hsd⟩ : ∃ s : ByteArray, s = ⟨l.toArray⟩ := ⟨_, rfl⟩
 have HSD := Lib.hid hsd
 rw [← hsd] at hsz HLS HV HT HC ⊢
 have HIX : Hid (∀ k (h : k < l.length) (h2 : k < s.size), l[k] = s[k]) := Lib.hid (fun k h h2 => by subst hsd; rfl)
 clear hsd
 go_enter Tryz.func124, Tryz.ntmps124
 go_wp2_with fail
 go_loopg [6] s.size (fun gk i wr => ∃ k : Nat, s.size - k = gk ∧ k ≤ s.size ∧ i = .int .i64 (k : Int) ∧ visB false (l.take k) = true ∧ w = wr)
 case atStart => exact ⟨0, by omega, by omega, rfl, rfl, rfl⟩
 case round =>
  obtain ⟨k, rfl, hk, rfl, hall, rfl⟩ := hrel
  have HA := Lib.hid hall
  clear hall
  by_cases hlt : k < s.size
  ·have hl : k < l.length := by rw [HLS.out]; exact hlt
   have hsn := visB_snoc false l k hl
   have hfa := visB_false false l k hl
   rw [HIX.out k hl hlt] at hsn hfa
   have NO : Hid (visC false s[k].toNat = false → pl = false) := Lib.hid (fun h => by rw [HX.out, hfa h]; rfl)
   have OK : Hid (visC false s[k].toNat = true → visB false (l.take (k + 1)) = true) := Lib.hid (fun h => by rw [hsn, HA.out, h]; rfl)
   clear hsn hfa HX HA HV HT HC HTS HIX HSD
   generalize hc : s[k].toNat = c at *
   by_cases h1 : (c : Int) < 32
   ·have hx : visC false c = false := by
     unfold visC
     rw [decide_eq_true (by omega : c < 32)]
     simp
    go_wp2_with fail
    go_ret
    exact BoolPost.of (NO.out hx) (Mod.refl _ _)
   ·by_cases h2 : c = 127
    ·subst h2
     go_wp2_with fail
     go_ret
     exact BoolPost.of (NO.out (by decide)) (Mod.refl _ _)
    ·have h2' : ((c : Int) == 127) = false := by simp; omega
     have hx : visC false c = true := by
      unfold visC
      rw [decide_eq_false (by omega : ¬ c < 32), show (c == 127) = false by simpa using h2]
      simp
     go_wp2_with fail
     go_roundg (s.size - (k + 1))
     case measure => omega
     case rel => exact ⟨k + 1, rfl, hlt, by simp, OK.out hx, rfl⟩
  ·have hke : k = s.size := by omega
   subst hke
   have hall : visB false l = true := by
    have := HA.out
    rwa [List.take_of_length_le (by rw [HLS.out]; omega)] at this
   have HX2 : Hid (pl = (Lib.validD l && (!Lib.hasPrefix l [32] && (!Lib.hasSuffix l [32] && !Lib.contains l [32, 32])))) := Lib.hid (by rw [HX.out, hall]; rfl)
   have HSL : Hid (s.data.toList = l) := Lib.hid (by rw [HSD.out])
   rw [HSL.out] at HV HC
   clear hall HX HA HIX HLS
   go_wp2_with fail
   refine HV.out.mono ?_
   rintro e w1 ⟨rfl, hm⟩
   generalize Lib.validD l = v at *
   cases v
   ·clear HSD HV HT HC HTS
    go_wp2_with fail
    go_ret
    exact BoolPost.of (by rw [HX2.out]; rfl) hm
   ·have hs0 := HSD.out
    clear HSD HSL
    subst hs0
    go_wp2_with fail
    refine (HT.out _).mono ?_
    rintro e w2 ⟨rfl, hm2⟩
    have m2 := hm.trans hm2
    generalize Lib.trimS l [32] = r at *
    cases hq : (r == l)
    ·have hne : ¬ (Lib.hasPrefix l [32] = false ∧ Lib.hasSuffix l [32] = false) := fun h => by
      have := HTS.out.2 h
      rw [this] at hq
      simp at hq
     have hpl : pl = false := by
      rw [HX2.out]
      cases h1 : Lib.hasPrefix l [32]
      ·cases h2 : Lib.hasSuffix l [32]
       ·exact absurd ⟨h1, h2⟩ hne
       ·simp
      ·simp
     clear HX2 HTS HT HC hm hm2 hne
     go_wp2_with fail
     go_ret
     exact BoolPost.of hpl m2
    ·obtain ⟨h1, h2⟩ := HTS.out.1 (eq_of_beq hq)
     have HP : Hid (pl = !Lib.contains l [32, 32]) := Lib.hid (by rw [HX2.out, h1, h2]; simp)
     clear HX2 HTS HT hm hm2 h1 h2
     go_wp2_with fail
     refine (HC.out _ m2).mono ?_
     rintro e w3 ⟨rfl, rfl⟩
     generalize Lib.contains l [32, 32] = cc at *
     go_wp2_with fail
     go_ret
     exact BoolPost.of HP.out m2

theorem text_last {l : Str} (h : 0 < l.length) : Lib.hasSuffix l [10] = (l[l.length - 1].toNat == 10) := by
 obtain ⟨a, x, rfl⟩ : ∃ a x, l = a ++ [x] := ⟨l.dropLast, l.getLast (by intro e; simp [e] at h), (List.dropLast_concat_getLast _).symm⟩
 have e : (a ++ [x])[(a ++ [x]).length - 1] = x := by simp
 rw [e]
 unfold Lib.hasSuffix List.isSuffixOf
 simp only [List.reverse_append, List.reverse_cons, List.reverse_nil, List.nil_append, List.cons_append, List.isPrefixOf, Bool.and_true]
 exact Bool.eq_iff_iff.2 ⟨fun h => by have := eq_of_beq h; subst this; rfl, fun h => by
  have h1 : x.toNat = 10 := eq_of_beq h
  have h2 : x = 10 := UInt8.toNat_inj.1 (by rw [h1]; rfl)
  rw [h2]
  rfl⟩

set_option maxRecDepth 100000 in
set_option maxHeartbeats 2000000 in
theorem isText_calls (w : World) (l : Str) (hs : l.length ≤ 1000000) (hE : Env w) : Calls Tryz.prog 125 #[.string ⟨l.toArray⟩] w (BoolPost w (textB l)) := by
 have hsz : (⟨l.toArray⟩ : ByteArray).size ≤ 1000000 := by simpa [ByteArray.size] using hs
 have HLS : Hid (l.length = (⟨l.toArray⟩ : ByteArray).size) := Lib.hid (by simp [ByteArray.size])
 have HV := Lib.hid (valid_calls w ⟨l.toArray⟩ hsz hE.1)
 have HTL := Lib.hid (fun h => text_last (l := l) h)
 have HX : Hid (textB l = (visB true l && (Lib.validD l && (l.isEmpty || Lib.hasSuffix l [10])))) := Lib.hid rfl
 clear hE hs
 generalize hp : textB l = pl at *
 clear hp
 obtain ⟨s, hsd⟩ : ∃ s : ByteArray, s = ⟨l.toArray⟩ := ⟨_, rfl⟩
 have HSD := Lib.hid hsd
 rw [← hsd] at hsz HLS HV ⊢
 have HIX : Hid (∀ k (h : k < l.length) (h2 : k < s.size), l[k] = s[k]) := Lib.hid (fun k h h2 => by subst hsd; rfl)
 clear hsd
 go_enter Tryz.func125, Tryz.ntmps125
 go_wp2_with fail
 go_loopg [6] s.size (fun gk i wr => ∃ k : Nat, s.size - k = gk ∧ k ≤ s.size ∧ i = .int .i64 (k : Int) ∧ visB true (l.take k) = true ∧ w = wr)
 case atStart => exact ⟨0, by omega, by omega, rfl, rfl, rfl⟩
 case round =>
  obtain ⟨k, rfl, hk, rfl, hall, rfl⟩ := hrel
  have HA := Lib.hid hall
  clear hall
  by_cases hlt : k < s.size
  ·have hl : k < l.length := by rw [HLS.out]; exact hlt
   have hsn := visB_snoc true l k hl
   have hfa := visB_false true l k hl
   rw [HIX.out k hl hlt] at hsn hfa
   have NO : Hid (visC true s[k].toNat = false → pl = false) := Lib.hid (fun h => by rw [HX.out, hfa h]; rfl)
   have OK : Hid (visC true s[k].toNat = true → visB true (l.take (k + 1)) = true) := Lib.hid (fun h => by rw [hsn, HA.out, h]; rfl)
   clear hsn hfa HX HA HV HTL HIX HSD
   generalize hc : s[k].toNat = c at *
   by_cases h1 : (c : Int) < 32
   ·have h3 : ((c : Int) == 127) = false := by simp; omega
    by_cases h2 : c = 10
    ·subst h2
     go_wp2_with fail
     go_roundg (s.size - (k + 1))
     case measure => omega
     case rel => exact ⟨k + 1, rfl, hlt, by simp, OK.out (by decide), rfl⟩
    ·have h2' : ((c : Int) != 10) = true := by simp; omega
     have hx : visC true c = false := by
      unfold visC
      rw [decide_eq_true (by omega : c < 32), show (c == 10) = false by simpa using h2]
      simp
     go_wp2_with fail
     go_ret
     exact BoolPost.of (NO.out hx) (Mod.refl _ _)
   ·by_cases h2 : c = 127
    ·subst h2
     go_wp2_with fail
     go_ret
     exact BoolPost.of (NO.out (by decide)) (Mod.refl _ _)
    ·have h2' : ((c : Int) == 127) = false := by simp; omega
     have hx : visC true c = true := by
      unfold visC
      rw [decide_eq_false (by omega : ¬ c < 32), show (c == 127) = false by simpa using h2]
      simp
     go_wp2_with fail
     go_roundg (s.size - (k + 1))
     case measure => omega
     case rel => exact ⟨k + 1, rfl, hlt, by simp, OK.out hx, rfl⟩
  ·have hke : k = s.size := by omega
   subst hke
   have hall : visB true l = true := by
    have := HA.out
    rwa [List.take_of_length_le (by rw [HLS.out]; omega)] at this
   have HX2 : Hid (pl = (Lib.validD l && (l.isEmpty || Lib.hasSuffix l [10]))) := Lib.hid (by rw [HX.out, hall]; rfl)
   have HSL : Hid (s.data.toList = l) := Lib.hid (by rw [HSD.out])
   rw [HSL.out] at HV
   clear hall HX HA
   go_wp2_with fail
   refine HV.out.mono ?_
   rintro e w1 ⟨rfl, hm⟩
   generalize Lib.validD l = v at *
   cases v
   ·clear HSD HV HTL
    go_wp2_with fail
    go_ret
    exact BoolPost.of (by rw [HX2.out]; rfl) hm
   ·have hse : s.toList.isEmpty = l.isEmpty := by rw [ByteArray.toList_eq, HSL.out]
    cases he : l.isEmpty
    ·rw [he] at hse
     have hl0 : 0 < l.length := by
      cases l with
      | nil => cases he
      | cons a t => simp
     have hs0 : 0 < s.size := by rw [← HLS.out]; exact hl0
     have htl := HTL.out hl0
     have hix := HIX.out (l.length - 1) (by omega) (by rw [← HLS.out]; omega)
     have hidx : s[s.size - 1].toNat = l[l.length - 1].toNat := by
      rw [hix]
      congr 2
      rw [HLS.out]
     have HP : Hid (pl = (s[s.size - 1].toNat == 10)) := Lib.hid (by rw [HX2.out, he, htl, hidx]; simp)
     have i1 : (0 : Int) ≤ (s.size : Int) - 1 := by omega
     have i2 : (s.size : Int) - 1 < (s.size : Int) := by omega
     have hcast : ((s.size : Int) - 1) = ((s.size - 1 : Nat) : Int) := by omega
     clear HX2 HTL HIX htl hix hidx HSD HV HSL he
     go_wp2_with fail
     go_ret
     exact BoolPost.of (by rw [HP.out]; exact Bool.eq_iff_iff.2 (by simp; omega)) hm
    ·rw [he] at hse
     clear HSD HV HTL
     go_wp2_with fail
     go_ret
     exact BoolPost.of (by rw [HX2.out, he]; rfl) hm

end Go.Proofs.YtkkndblcejmmjaaGreatDoor
