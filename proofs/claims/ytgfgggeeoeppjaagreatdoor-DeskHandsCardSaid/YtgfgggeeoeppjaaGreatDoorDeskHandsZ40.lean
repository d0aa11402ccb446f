/- Texts of the proof of DeskHands, put together: LawDeskHands, LayM6, LaidV, LayM1, LaidW. -/
import Derived.Test.YtgfgggeeoeppjaaGreatDoorDeskHandsZ18
import Derived.Test.YtgfgggeeoeppjaaGreatDoorDeskHandsZ36
import Derived.Test.YtgfgggeeoeppjaaGreatDoorDeskHandsZ39
import Derived.Ground.NamesProg
import Derived.Shelf.LaysM
import Derived.Test.YtgfgggeeoeppjaaGreatDoorProg
import Derived.Test.YtgfgggeeoeppjaaGreatDoorRows
import Derived.Lib.LaidTab
import Derived.Stop.LaidErr
import Derived.ProofKit
import Derived.Lib.LaidU8T
set_option linter.unusedVariables false
set_option linter.unusedSimpArgs false
set_option maxRecDepth 100000
/- The law DeskHands. -/
namespace Go.Proofs.YtgfgggeeoeppjaaGreatDoor
open Go.RowKit
def ItsB (W : World) (b : Nat) (v : Value) (xs : List Itm) : Prop := Its W v xs ∧ NbS b v
theorem ItsB.ask {w w' : World} {b : Nat} {v : Value} {xs : List Itm} (h : ItsB w b v xs) (hm : Mod (· = b) w w') : ItsB w' b v xs := ⟨h.1.modNb h.2 hm, h.2⟩
theorem ItsB.pure {w w' : World} {b : Nat} {v : Value} {xs : List Itm} (h : ItsB w b v xs) (hm : Pure w w') : ItsB w' b v xs := ⟨h.1.pure hm, h.2⟩
theorem own_formI {w : World} {base n : Nat} {e : TypeId} {size : Nat} {v : Value} {xs : List Value} (h : w.ownsRow base e size v n xs) : ∃ A c, v = .slice A n c := by
 rcases h.2 with ⟨h1, h0⟩ | ⟨g, cap, _, h1, _⟩
 ·exact ⟨none, 0, by rw [h1, h0]⟩
 ·exact ⟨_, cap, h1⟩
def OrdB (W : World) (b base : Nat) (A : Option Addr) (c : Nat) (os : List Str) : Prop := b < base ∧ W.ownsRow base 9 1 (.slice A os.length c) os.length (strsV os)
theorem OrdB.ask {w w' : World} {b base c : Nat} {A : Option Addr} {os : List Str} (h : OrdB w b base A c os) (hm : Mod (· = b) w w') : OrdB w' b base A c os := ⟨h.1, own_mod h.2 hm (fun g hg => by have := own_block h.2 g hg; have := h.1; omega)⟩
theorem OrdB.pure {w w' : World} {b base c : Nat} {A : Option Addr} {os : List Str} (h : OrdB w b base A c os) (hm : Pure w w') : OrdB w' b base A c os := ⟨h.1, own_pure h.2 hm⟩
theorem ofE_all {tops : List Str} : ∀ {l seen : List Str}, ofE tops l seen = 0 → ∀ s ∈ l, s ∈ tops
 | [], _, _ => by simp
 | a :: t, seen, h => by
  unfold ofE at h
  by_cases h1 : a ∈ seen
  ·rw [if_pos h1] at h; cases h
  rw [if_neg h1] at h
  by_cases h2 : a ∉ tops
  ·rw [if_pos h2] at h; cases h
  rw [if_neg h2] at h;intro s hs
  rcases List.mem_cons.1 hs with rfl | hs
  ·simpa using h2
  ·exact ofE_all h s hs
theorem nwE_zero {its : List Itm} {order : List Str} (h : nwE its order = 0) : itsE itemE its = 0 ∧ ∀ s ∈ order, s ∈ (famsS its).map (·.1) := by
 unfold nwE at h
 by_cases e : itsE itemE its = 0
 ·rw [if_neg (by simpa using e)] at h;exact ⟨e, ofE_all h⟩
 ·rw [if_pos e] at h; exact absurd h e
set_option maxHeartbeats 16000000 in
theorem DeskHands_calls (w : World) (A : Option Addr) (n c : Nat) (hA : ArgInts w A n) (hM : MlnS w) (hT : Asc w) (hE : Env w) : Calls Tryz.prog 3 #[.slice A n c] w (BoolPost w true) := by
 have hS0 := strm_new (c := c) hA;have HMT : Hid (∀ w1, Pure w w1 → (MlnS w1 ∧ Asc w1) ∧ Env w1) := Lib.hid (fun _ h => ⟨⟨hM.pure h, hT.pure h⟩, hE.pure h⟩);obtain ⟨b, hb⟩ : ∃ b, b = w.heap.size := ⟨_, rfl⟩;have P0 := pure_alloc w (.cells #[.slice A n c, .int .i64 0] 25);have HPS : Hid (∀ {w1 w' : World}, Pure w w1 → Mod (· = b) w1 w' → Pure w w') := Lib.hid (fun k h => k.trans' h (fun i hi hlt => by omega));rw [← hb] at hS0;have hbw := Nat.le_of_eq hb.symm;clear hM hT hA hE
 go_enter Tryz.func3, Tryz.ntmps3
 go_wp2_with fail
 rw [← hb];generalize (w.alloc (.cells #[.slice A n c, .int .i64 0] 25)) = w0 at *;clear hb;refine (range_calls _ b _ 0 9 hS0 (by omega) (by omega) (by omega) (by omega)).mono ?_;rintro e w1 ⟨k, hk1, hk2, rfl, hS1, hM1⟩;obtain ⟨q, rfl⟩ := Int.eq_ofNat_of_zero_le hk1;have P1 := HPS.out P0 hM1;have HIC := Lib.hid (items_callsG w1 b _ q _ rfl hS1 (by omega) (by omega) (fun W h => (HMT.out W (HPS.out P1 h)).2));clear hS0 P0 hM1 hS1
 go_wp2_with fail
 refine HIC.out.mono ?_;rintro e w2 ⟨v0, its, rfl, hil, hig, hio, hS2, hm2⟩;obtain ⟨Ai, ci, rfl⟩ := own_formI hio;have hIB : ItsB w2 b (.slice Ai its.length ci) its := ⟨Sl.of_own hio, (Sl.of_own hio).nb hS2 (by decide)⟩;have HIB := Lib.hid hIB;have HP2 := Lib.hid (HPS.out P1 hm2);have HZ : Hid (∀ x ∈ its, ItB x) := Lib.hid (fun x hx => (hig x hx).b)
 have hi9 : its.length ≤ 10 := by omega
 clear HIC hIB hio hig hm2 P1
 go_upto_region 4 with (fail)
 go_wp2_with fail
 refine (range_calls _ b _ 0 3 hS2 (by omega) (by omega) (by omega) (by omega)).mono ?_;rintro e w3 ⟨k3, hk31, hk32, rfl, hS3, hM3⟩;obtain ⟨m3, rfl⟩ := Int.eq_ofNat_of_zero_le hk31
 have hm3 : m3 ≤ 3 := by omega
 have HIB3 := Lib.hid (HIB.out.ask hM3);have HP3 := Lib.hid (HPS.out HP2.out hM3);obtain ⟨NN, hNN⟩ : ∃ NN, NN = 0 + 1 + 142 * q + 160 + 1 := ⟨_, rfl⟩;have hS3' : Strm w3 b NN := hS3.more (by omega)
 have hN5 : NN ≤ 5000 := by omega
 have hb3 := hS3.lt;clear hS2 hM3 HIB HP2 hS3 hNN hk31 hk32;obtain ⟨base, hbase⟩ : ∃ base, base = w3.heap.size := ⟨_, rfl⟩;have hb1 := Nat.le_of_eq hbase;have hb2 := Nat.le_of_eq hbase.symm;clear hbase;obtain ⟨i0, hi0, hz0, hz1, hz2⟩ := info_parts info_str7
 go_wp2_with fail
 go_loopg [5, 31] m3 (fun gk v i wr => ∃ (k cap : Nat) (Ao : Option Addr) (os : List Str), m3 - k = gk ∧ k ≤ m3 ∧ v = .slice Ao os.length cap ∧ i = .int .i64 (k : Int) ∧ os.length ≤ k ∧ (∀ s ∈ os, s.length ≤ 100) ∧ OrdB wr b base Ao cap os ∧ ItsB wr b (.slice Ai its.length ci) its ∧ Strm wr b (NN + 2 * k) ∧ Pure w wr ∧ base ≤ wr.heap.size)
 case atStart => exact ⟨0, 0, none, [], by omega, by omega, rfl, rfl, by simp, by simp, ⟨by omega, ⟨rfl, .inl ⟨rfl, rfl⟩⟩⟩, HIB3.out, hS3'.more (by omega), HP3.out, hb1⟩
 case round =>
  clear HIB3 HP3 hS3';obtain ⟨k, cap, Ao, os, rfl, hk, rfl, rfl, hok, hos, hob, hib, hS, hp, hsz⟩ := hrel;have HOS := Lib.hid hos;obtain ⟨w4, hw4⟩ : ∃ W, W = wr := ⟨wr, rfl⟩;subst hw4
  by_cases hlt : k < m3
  ·have HAN := Lib.hid (anyId_calls w4 b _ _ its hS (by omega) hib.1 HZ.out (by omega));have HOB := Lib.hid hob;have HIB := Lib.hid hib;have HP := Lib.hid hp;clear hob hib hS hp hos
   go_wp2_with fail
   refine HAN.out.mono ?_;rintro e wA ⟨s, hs, rfl, hS5, hM5⟩;have HOB5 := Lib.hid (HOB.out.ask hM5);have HIB5 := Lib.hid (HIB.out.ask hM5);have HP5 := Lib.hid (HPS.out HP.out hM5);have HSL := Lib.hid hs
   have hsz5 : base ≤ wA.heap.size := by have := hM5.size; omega
   have hown := HOB5.out.2;have hmS := HP5.out;have HOK := Lib.hid (own_block hown);clear HAN HOB HIB HP hM5
   go_wp2_with (at_builtin; refine wpList_append_lies _ rfl _ _ _ rfl base 9 i0 _ 1 16 Tryz.underlying29 hi0 hz0 hz1 hz2 rfl (by omega) (.slice Ao os.length cap) os.length (strsV os) rfl (hown.alloc _) ⟨wA.heap.size, 0, none⟩ 1 1 [.string ⟨s.toArray⟩] rfl rfl (World.news_of_block (cs := #[.string ⟨s.toArray⟩]) (t := 9) (fr := (0, 0)) (heap_alloc_new wA _)) (by simp [Value.oneCell']) (by omega) (by simp [maxLen]; omega) (by omega) (by have := hmS.size; simp; omega) (wA.heap.size + 1) (by simp) ?_; intro g5 cap5 w5 hown5 hgrow hat hlt5)
   have hm6 := grown_mod (v := .slice Ao os.length cap) hgrow
   go_roundg (m3 - (k + 1))
   case measure => omega
   case rel =>
    have hpa := pure_alloc wA (.cells #[.string ⟨s.toArray⟩] 9);have hgs := hgrow.size;simp at hgs;refine ⟨k + 1, cap5, some ⟨g5, 0, none⟩, os ++ [s], rfl, by omega, by simp, by simp, by simp; omega, fun x hx => ?_, ⟨HOB5.out.1, by have := hown5; simpa [strsV] using this⟩, ⟨(HIB5.out.1.pure hpa).mod hm6 (fun i arr fr hi e => ?_), HIB5.out.2⟩, ((hS5.more (by omega)).alloc _).mod hm6 (fun i hi e => ?_), (HP5.out.trans hpa).trans' hm6 (fun i hi hl => ?_), by omega⟩
    ·rcases List.mem_append.1 hx with hx | hx
     ·exact HOS.out x hx
     ·rw [List.mem_singleton.1 hx]; exact HSL.out
    ·exact absurd (own_ty (hown.alloc (.cells #[.string ⟨s.toArray⟩] 9)) e hi) (by decide)
    ·have := HOK.out i e; have := HOB5.out.1; omega
    ·have := HOK.out i hi; have := HOB5.out.1; omega
  ·obtain rfl : k = m3 := by omega
   have HOB := Lib.hid hob;have HIB := Lib.hid hib;have HP := Lib.hid hp;clear hob hib hp hos hlt
   go_wp2_with fail
   refine (flip_calls w4 b _ 2 hS (by omega) (by omega) (by omega)).mono ?_;rintro e w5 ⟨fl, rfl, hS5, hM5⟩;have HOB5 := Lib.hid (HOB.out.ask hM5);have HIB5 := Lib.hid (HIB.out.ask hM5);have HP5 := Lib.hid (HPS.out HP.out hM5);clear hS HOB HIB HP hM5;have HOS5 := Lib.hid HOS.out
   go_upto_if 41 with (fail)
   go_cut [5] (fun v wx => ∃ (A : Option Addr) (c : Nat) (or_ : List Str), v = .slice A or_.length c ∧ OrdB wx b base A c or_ ∧ or_.length ≤ 3 ∧ (∀ s ∈ or_, s.length ≤ 100) ∧ w5 = wx)
   case first =>
    cases fl
    ·go_wp2_with fail
     go_meet;exact ⟨Ao, cap, os, rfl, HOB5.out, by omega, HOS5.out, rfl⟩
    ·go_wp2_with fail
     go_meet;exact ⟨none, 0, [], rfl, ⟨HOB5.out.1, ⟨rfl, .inl ⟨rfl, rfl⟩⟩⟩, by simp, by simp, rfl⟩
   case rest =>
   obtain ⟨OA, oc, or_, rfl, hob6, hol6, hos6, rfl⟩ := hcut;have HNW := Lib.hid (pnew_calls w5 _ its HIB5.out.1 HZ.out (by omega) (HMT.out _ HP5.out).2 OA or_.length oc or_ (Sl.of_own hob6.2) (by omega) (fun s hs => by have := hos6 s hs; omega));have HDF := Lib.hid (fun W (h : Pure w5 W) => deskFault_calls W _ its (HIB5.out.1.pure h) HZ.out (by omega) (HMT.out _ (HP5.out.trans h)).2 OA or_.length oc or_ ((Sl.of_own hob6.2).pure h) (by omega));have HDO := Lib.hid (fun W (h : Pure w5 W) (h0 : nwE its or_ = 0) => deskOf_calls W _ its (HIB5.out.1.pure h) (right_items (nwE_zero h0).1) HZ.out (by omega) OA or_.length oc or_ ((Sl.of_own hob6.2).pure h) (by omega) (nwE_zero h0).2);have HOK := Lib.hid (fun (h0 : nwE its or_ = 0) => dNew_ok (right_items (nwE_zero h0).1) (by omega) HZ.out (order := or_) (by omega));have HDC := Lib.hid (fun W (h : Pure w W) => decides_calls W (HMT.out _ h).1.1 (HMT.out _ h).1.2);have hb5 := hS5.lt;unfold NwPost at HNW;unfold RnPost at HDO;clear HOB5 HOS HOS5 hob6 hos6;generalize nwE its or_ = qf at *;have HB0 : Hid ((dNew its or_).bats.length = 0) := Lib.hid rfl;generalize dNew its or_ = d0 at *;generalize hids : its.map (·.id) = ids at *;clear hids
   go_wp2_with fail
   refine HNW.out.mono ?_;rintro e w6 ⟨hm6, ⟨hq, rfl⟩ | ⟨hq, g, bm, rfl, hg, hbm, hK⟩⟩
   ·have HQ := Lib.hid hq;have HD6 := Lib.hid (HDF.out _ hm6)
    have hq' : (qf != 0) = true := by simpa using hq
    clear HNW HDO HOK HDF hq
    go_wp2_with fail
    refine HD6.out.mono ?_;rintro e w7 ⟨rfl, hm7⟩;have HP7 := Lib.hid (HP5.out.trans (hm6.trans hm7));clear HD6 hm7
    go_wp2_with fail
    refine (HDC.out _ HP7.out).mono ?_;rintro e w8 ⟨rfl, hm8⟩;have HPF := Lib.hid (HP7.out.trans hm8);clear hm8 HDC
    go_wp2_with fail
    go_ret;exact BoolPost.of rfl HPF.out
   subst hq;have HD6 := Lib.hid (HDF.out _ hm6);have HK := Lib.hid hK;have HM6 := Lib.hid hm6;have HO6 := Lib.hid (HOK.out (by first | rfl | trivial));clear HNW HDF HOK hK hm6
   go_wp2_with fail
   refine HD6.out.mono ?_;rintro e w7 ⟨rfl, hm7⟩;have HM7 := Lib.hid (HM6.out.trans hm7);have HK7 := Lib.hid (HK.out.pure hm7);have HRN := Lib.hid (HDO.out _ HM7.out (by first | rfl | trivial));clear HD6 HM6 HK hm7 HDO
   go_wp2_with fail
   refine HRN.out.mono ?_;rintro e w8 ⟨g', bm', rfl, hg', hbm', hR, hm8⟩;have hw7s := HM7.out.size
   have hbml : bm < w7.heap.size := by obtain ⟨_, es, c, h⟩ := HK7.out.blk; exact lt_of_heap h
   have hne : bm ≠ bm' := by omega
   have k1 : b < g := by omega
   have k2 : b < bm := by omega
   have k3 : b < g' := by omega
   have k4 : b < bm' := by omega
   have HTW : Hid (Two w8 b g bm g' bm' ids d0) := Lib.hid ⟨none, none, HK7.out.pure hm8, hR, fun j hj => (by cases hj), fun j hj => (by cases hj)⟩;have HM8 := Lib.hid (HM7.out.trans hm8);have HIB8 := Lib.hid (HIB5.out.pure HM8.out);have hS8 := hS5.pure HM8.out;have HP8 := Lib.hid (HP5.out.trans HM8.out);have hbt0 : d0.bats.length = 0 := HB0.out;clear HRN HK7 hR hm8 HM7 hg hbm hg' hbm' hbml hw7s HIB5 HP5 hS5 HM8
   go_wp2_with fail
   refine (range_calls w8 b _ 0 9 hS8 (by omega) (by omega) (by omega) (by omega)).mono ?_;rintro e w9 ⟨k9, hk91, hk92, rfl, hS9, hM9⟩;obtain ⟨m9, rfl⟩ := Int.eq_ofNat_of_zero_le hk91
   have hm9 : m9 ≤ 9 := by omega
   have HTW9 := Lib.hid (HTW.out.ask hS8 hM9 k1 k2 k3 k4);have HIB9 := Lib.hid (HIB8.out.ask hM9);have HP9 := Lib.hid (HPS.out HP8.out hM9);obtain ⟨N2, hN2⟩ : ∃ N2, N2 = NN + 10 := ⟨_, rfl⟩;have hS9' : Strm w9 b N2 := hS9.more (by omega)
   have hN25 : N2 ≤ 6000 := by omega
   have hok := HO6.out;clear HTW HIB8 HP8 hS8 hM9 hS9 hk91 hk92 hN2
   go_wp2_with fail
   go_loopg [10, 74] m9 (fun gk v i wr => ∃ (k : Nat) (at_ : Int) (d : DskR), m9 - k = gk ∧ k ≤ m9 ∧ v = .int .i64 at_ ∧ i = .int .i64 (k : Int) ∧ 0 ≤ at_ ∧ at_ ≤ 5 * (k : Int) ∧ d.bats.length ≤ k ∧ DkOk ids d ∧ Two wr b g bm g' bm' ids d ∧ ItsB wr b (.slice Ai its.length ci) its ∧ Strm wr b (N2 + 2000 * k) ∧ Pure w wr)
   case atStart => exact ⟨0, 0, d0, by omega, by omega, rfl, rfl, by omega, by omega, by omega, hok, HTW9.out, HIB9.out, hS9'.more (by omega), HP9.out⟩
   case round =>
    clear HTW9 HIB9 HP9 hS9' hok HO6 hbt0 HB0;obtain ⟨k, at0, d, rfl, hk, rfl, rfl, ha0, ha1, hbk, hok, htw, hib, hS, hp⟩ := hrel;obtain ⟨w6, hw6⟩ : ∃ W, W = wr := ⟨wr, rfl⟩;subst hw6
    by_cases hlt : k < m9
    ·have hpa := pure_alloc w6 (.cells #[.int .i64 0, .int .i64 1, .int .i64 5, .int .i64 5, .int .i64 (-1)] 3);have HPK := Lib.hid (pickv_calls _ b _ w6.heap.size 5 5 #[.int .i64 0, .int .i64 1, .int .i64 5, .int .i64 5, .int .i64 (-1)] (hS.pure hpa) (Blk.new w6 3 #[.int .i64 0, .int .i64 1, .int .i64 5, .int .i64 5, .int .i64 (-1)]) (by omega) (by have := hS.lt; omega) rfl (by omega) (by omega) rfl);have HTW := Lib.hid (htw.pure hpa);have HIB := Lib.hid (hib.pure hpa);have HP := Lib.hid (hp.trans hpa);have HS6 := Lib.hid (hS.pure hpa);have HOK := Lib.hid hok;clear htw hib hp hS hpa hok
     go_wp2_with fail
     refine HPK.out.mono ?_;rintro e w7 ⟨kv, hkv, rfl, hS7, hM7⟩
     have hkb : -1 ≤ kv ∧ kv ≤ 5 := by simp [intsOf, Go.RowKit.intOf] at hkv; omega
     have HTW7 := Lib.hid (HTW.out.ask HS6.out hM7 k1 k2 k3 k4);have HIB7 := Lib.hid (HIB.out.ask hM7);have HP7 := Lib.hid (HPS.out HP.out hM7);clear HPK HTW HIB HP HS6 hkv;obtain ⟨at1, hat1⟩ : ∃ at1 : Int, at1 = max 0 (at0 + kv) := ⟨_, rfl⟩
     have hat2 : 0 ≤ at1 ∧ at1 ≤ 5 * ((k : Int) + 1) := by omega
     have HAT := Lib.hid hat1;clear hat1
     go_upto_region 21 with (fail)
     rw [← HAT.out];clear HAT
     go_wp2_with fail
     refine (flip_calls w7 b _ 2 hS7 (by omega) (by omega) (by omega)).mono ?_;rintro e w8 ⟨fl, rfl, hS8, hM8⟩;have HTW8 := Lib.hid (HTW7.out.ask hS7 hM8 k1 k2 k3 k4);have HIB8 := Lib.hid (HIB7.out.ask hM8);have HP8 := Lib.hid (HPS.out HP7.out hM8);obtain ⟨N3, hN3⟩ : ∃ N3, N3 = N2 + 2000 * k + 10 := ⟨_, rfl⟩
     have hN35 : N3 ≤ 30000 := by omega
     have hN36 : N3 + 1500 ≤ N2 + 2000 * (k + 1) := by omega
     have hS8' : Strm w8 b N3 := hS8.more (by omega);clear hS7 hM8 HTW7 HIB7 HP7 hM7 hS8 hN3
     cases fl
     rotate_left
     ·have hbw8 := hS8'.lt;have HAR := Lib.hid (show (0 ≤ at1 ∧ at1 ≤ 5 * ((k : Int) + 1)) ∧ (N3 + 1500 ≤ N2 + 2000 * (k + 1)) ∧ k < m9 ∧ d.bats.length ≤ k ∧ N2 ≤ 6000 ∧ m9 ≤ 9 from ⟨hat2, hN36, hlt, hbk, hN25, hm9⟩);clear hat2 hN36 hlt hbk hN25 hkb ha0 ha1 hk hm9
      go_upto_region 22 with (fail)
      have HGs := Lib.hid (show ∀ (D : Nat → Bool) (zzi : Nat) (zq zq' : World), (fun _ zq => (fun Z => ∃ hz : Nat, hz = Z.heap.size) zq) D zq → Mod (· = b) zq zq' → (fun _ zq => (fun Z => ∃ hz : Nat, hz = Z.heap.size) zq) (upd D zzi true) zq' from by intro D zzi zq zq' h hm; (exact ⟨_, rfl⟩))
      refine wp_region_inv (by kernel_rfl) (by kernel_rfl) (InvF (R := Mod (· = b)) [⟨fun zv zw => ∃ (g_0 : Nat), zv = .slice (some ⟨g_0, 0, none⟩) 4 4 ∧ w8.heap.size ≤ g_0 ∧ Blk zw g_0 9 #[(.string { data := #[97, 110, 110] }), (.string { data := #[98, 111, 98] }), (.string { data := #[99, 105, 100] }), (.string { data := #[] })], (by rintro zv zw zx ⟨g_0, rfl, c0, q0⟩ hm; exact ⟨g_0, rfl, c0, (q0.modb hm (by omega))⟩), none, some 4⟩,
        .is (.pointer (some ⟨b, 0, none⟩)),
        ⟨fun zv zw => ∃ (g_2 : Nat), zv = .slice (some ⟨g_2, 0, none⟩) 6 6 ∧ w8.heap.size ≤ g_2 ∧ Blk zw g_2 3 #[(.int .i64 0), (.int .i64 0), (.int .i64 1), (.int .i64 1), (.int .i64 2), (.int .i64 3)], (by rintro zv zw zx ⟨g_2, rfl, c0, q0⟩ hm; exact ⟨g_2, rfl, c0, (q0.modb hm (by omega))⟩), none, some 3⟩,
        .val (fun zv => ∃ (k_3 : Int), zv = .int .i64 k_3 ∧ 0 ≤ k_3 ∧ k_3 ≤ 3),
        ⟨fun zv zw => ∃ (g_4 : Nat) (q_4 : Nat), zv = .pointer (some ⟨g_4, q_4, none⟩) ∧ q_4 < 4 ∧ w8.heap.size ≤ g_4 ∧ Blk zw g_4 9 #[.string ⟨#[97, 110, 110]⟩, .string ⟨#[98, 111, 98]⟩, .string ⟨#[99, 105, 100]⟩, .string ⟨#[]⟩], (by rintro zv zw zx ⟨g_4, q_4, rfl, c0, c1, q0⟩ hm; exact ⟨g_4, q_4, rfl, c0, c1, (q0.modb hm (by omega))⟩), none, some 5⟩,
        .val (fun zv => ∃ (s_5 : Str), zv = .string ⟨s_5.toArray⟩ ∧ s_5.length ≤ 100),
        .is (.pointer (some ⟨b, 0, none⟩)),
        ⟨fun zv zw => ∃ (g_7 : Nat), zv = .slice (some ⟨g_7, 0, none⟩) 7 7 ∧ w8.heap.size ≤ g_7 ∧ Blk zw g_7 3 #[(.int .i64 1), (.int .i64 1), (.int .i64 2), (.int .i64 3), (.int .i64 5), (.int .i64 0), (.int .i64 501)], (by rintro zv zw zx ⟨g_7, rfl, c0, q0⟩ hm; exact ⟨g_7, rfl, c0, (q0.modb hm (by omega))⟩), none, some 8⟩,
        .val (fun zv => ∃ (k_8 : Int), zv = .int .i64 k_8 ∧ 0 ≤ k_8 ∧ k_8 ≤ 501),
        .val (fun zv => ∃ (s_9 : Str), zv = .string ⟨s_9.toArray⟩ ∧ s_9.length ≤ 100),
        .val (fun zv => ∃ (k_10 : Int), zv = .int .i64 k_10 ∧ 0 ≤ k_10 ∧ k_10 ≤ 501)]
        (GB w8 (· = b) w8.heap.size b (N3) (fun D => (D 3).toNat + (D 8).toNat) (fun _ zq => (fun Z => ∃ hz : Nat, hz = Z.heap.size) zq))) (InvF.start (GB.start hS8' (Mod.refl _ _) (Nat.le_refl _) (⟨_, rfl⟩))) ?_ ?_
      ·refine .cons ?_ (.cons ?_ (.cons ?_ (.cons ?_ (.cons ?_ (.cons ?_ (.cons ?_ (.cons ?_ (.cons ?_ (.cons ?_ (.cons ?_ .nil))))))))))
       ·intro D V zw1 a hR hI K hK;obtain ⟨hS1, hM1, hB1, hG1⟩ := hI.1;rw [if_pos (by rfl)];go_simp;exact hK (_) _ (hI.next hR (by kernel_rfl) ((Mod.refl _ _).alloc _) (GB.quiet hI.1 (pure_alloc _ _) (by have hn := hR.not; simp [upd, hn] <;> omega) (HGs.out D 0 _ _ (hI.1).g ((Mod.refl _ _).alloc _))) (⟨_, upd_same V 0 _, (by omega), (Blk.new _ _ _)⟩))
       ·intro D V zw1 a hR hI K hK;obtain ⟨hS1, hM1, hB1, hG1⟩ := hI.1;have ze3 := hR.frame.other (t := 3) (by kernel_rfl) rfl;rw [if_pos (by rfl)];go_simp;exact hK (.pointer (some ⟨b, 0, none⟩)) _ (hI.next hR (by kernel_rfl) (Mod.refl _ _) (GB.quiet hI.1 (Mod.refl _ _) (by have hn := hR.not; simp [upd, hn] <;> omega) (HGs.out D 1 zw1 zw1 (hI.1).g (Mod.refl _ _))) (upd_same V 1 _))
       ·intro D V zw1 a hR hI K hK;obtain ⟨hS1, hM1, hB1, hG1⟩ := hI.1;rw [if_pos (by rfl)];go_simp;exact hK (_) _ (hI.next hR (by kernel_rfl) ((Mod.refl _ _).alloc _) (GB.quiet hI.1 (pure_alloc _ _) (by have hn := hR.not; simp [upd, hn] <;> omega) (HGs.out D 2 _ _ (hI.1).g ((Mod.refl _ _).alloc _))) (⟨_, upd_same V 2 _, (by omega), (Blk.new _ _ _)⟩))
       ·intro D V zw1 a hR hI K hK;obtain ⟨hS1, hM1, hB1, hG1⟩ := hI.1;have zd1 := hR.pred 1 (by kernel_rfl);have zf1 : V 1 = .pointer (some ⟨b, 0, none⟩) := hI.2 1 zd1 rfl;have zd2 := hR.pred 2 (by kernel_rfl);have zF2 : ∃ (g_2 : Nat), V 2 = .slice (some ⟨g_2, 0, none⟩) 6 6 ∧ w8.heap.size ≤ g_2 ∧ Blk zw1 g_2 3 #[(.int .i64 0), (.int .i64 0), (.int .i64 1), (.int .i64 1), (.int .i64 2), (.int .i64 3)] := hI.2 2 zd2 (by show (!D 3) = true; rw [hR.not]; rfl);obtain ⟨g_2, zf2, c2_0, b2_0⟩ := zF2;have ze85 := hR.frame.done (t := 85) (j := 1) (by kernel_rfl) hR.ok zd1;have ze86 := hR.frame.done (t := 86) (j := 2) (by kernel_rfl) hR.ok zd2;rw [if_pos (by rfl)];have := Bool.toNat_le (D 3);have := Bool.toNat_le (D 8)
        have hNB : N3 + ((D 3).toNat + (D 8).toNat) ≤ 1000000000 := by omega
        skip
        go_simp;refine (pickv_calls _ _ _ _ 6 6 #[(.int .i64 0), (.int .i64 0), (.int .i64 1), (.int .i64 1), (.int .i64 2), (.int .i64 3)] hS1 b2_0 hNB (by omega) rfl (by omega) (by omega) rfl).mono ?_;rintro e zw2 ⟨k_0, hk, rfl, hS2, hm2⟩
        have hk2 : 0 ≤ k_0 ∧ k_0 ≤ 3 := by simp [intsOf, Go.RowKit.intOf] at hk; omega
        exact hK (.int .i64 k_0) _ (hI.next hR (by kernel_rfl) hm2 (GB.asks hI.1 (fun _ h _ => h) hS2 hm2 (by have hn := hR.not; simp [upd, hn] <;> omega) (HGs.out D 3 _ _ (hI.1).g hm2)) (⟨k_0, upd_same V 3 _, hk2.1, hk2.2⟩))
       ·intro D V zw1 a hR hI K hK;obtain ⟨hS1, hM1, hB1, hG1⟩ := hI.1;have zd0 := hR.pred 0 (by kernel_rfl);have zF0 : ∃ (g_0 : Nat), V 0 = .slice (some ⟨g_0, 0, none⟩) 4 4 ∧ w8.heap.size ≤ g_0 ∧ Blk zw1 g_0 9 #[(.string { data := #[97, 110, 110] }), (.string { data := #[98, 111, 98] }), (.string { data := #[99, 105, 100] }), (.string { data := #[] })] := hI.2 0 zd0 (by show (!D 4) = true; rw [hR.not]; rfl);obtain ⟨g_0, zf0, c0_0, b0_0⟩ := zF0;have zd3 := hR.pred 3 (by kernel_rfl);have zF3 : ∃ (k_3 : Int), V 3 = .int .i64 k_3 ∧ 0 ≤ k_3 ∧ k_3 ≤ 3 := hI.2 3 zd3 rfl;obtain ⟨k_3, zf3, c3_0, c3_1⟩ := zF3;have ze84 := hR.frame.done (t := 84) (j := 0) (by kernel_rfl) hR.ok zd0;have ze87 := hR.frame.done (t := 87) (j := 3) (by kernel_rfl) hR.ok zd3;obtain ⟨zq, rfl⟩ := Int.eq_ofNat_of_zero_le c3_0
        have zb : zq < 4 := by omega
        have zb2 : (zq : Int) < 4 := by omega
        rw [if_pos (by rfl)];go_simp;exact hK (_) _ (hI.next hR (by kernel_rfl) (Mod.refl _ _) (GB.quiet hI.1 (Mod.refl _ _) (by have hn := hR.not; simp [upd, hn] <;> omega) (HGs.out D 4 zw1 zw1 (hI.1).g (Mod.refl _ _))) (⟨g_0, zq, upd_same V 4 _, zb, (by omega), b0_0⟩))
       ·intro D V zw1 a hR hI K hK;obtain ⟨hS1, hM1, hB1, hG1⟩ := hI.1;have zd4 := hR.pred 4 (by kernel_rfl);have zF4 : ∃ (g_4 : Nat) (q_4 : Nat), V 4 = .pointer (some ⟨g_4, q_4, none⟩) ∧ q_4 < 4 ∧ w8.heap.size ≤ g_4 ∧ Blk zw1 g_4 9 #[.string ⟨#[97, 110, 110]⟩, .string ⟨#[98, 111, 98]⟩, .string ⟨#[99, 105, 100]⟩, .string ⟨#[]⟩] := hI.2 4 zd4 (by show (!D 5) = true; rw [hR.not]; rfl);obtain ⟨g_4, q_4, zf4, c4_0, c4_1, b4_0⟩ := zF4;have ze88 := hR.frame.done (t := 88) (j := 4) (by kernel_rfl) hR.ok zd4;obtain ⟨zs, hsl, hcell⟩ := strs_cell (M := 100) [[97, 110, 110], [98, 111, 98], [99, 105, 100], []] b4_0 c4_0 (by decide);rw [if_pos (by rfl)];go_simp;exact hK (_) _ (hI.next hR (by kernel_rfl) (Mod.refl _ _) (GB.quiet hI.1 (Mod.refl _ _) (by have hn := hR.not; simp [upd, hn] <;> omega) (HGs.out D 5 zw1 zw1 (hI.1).g (Mod.refl _ _))) (⟨zs, upd_same V 5 _, hsl⟩))
       ·intro D V zw1 a hR hI K hK;obtain ⟨hS1, hM1, hB1, hG1⟩ := hI.1;have ze3 := hR.frame.other (t := 3) (by kernel_rfl) rfl;rw [if_pos (by rfl)];go_simp;exact hK (.pointer (some ⟨b, 0, none⟩)) _ (hI.next hR (by kernel_rfl) (Mod.refl _ _) (GB.quiet hI.1 (Mod.refl _ _) (by have hn := hR.not; simp [upd, hn] <;> omega) (HGs.out D 6 zw1 zw1 (hI.1).g (Mod.refl _ _))) (upd_same V 6 _))
       ·intro D V zw1 a hR hI K hK;obtain ⟨hS1, hM1, hB1, hG1⟩ := hI.1;rw [if_pos (by rfl)];go_simp;exact hK (_) _ (hI.next hR (by kernel_rfl) ((Mod.refl _ _).alloc _) (GB.quiet hI.1 (pure_alloc _ _) (by have hn := hR.not; simp [upd, hn] <;> omega) (HGs.out D 7 _ _ (hI.1).g ((Mod.refl _ _).alloc _))) (⟨_, upd_same V 7 _, (by omega), (Blk.new _ _ _)⟩))
       ·intro D V zw1 a hR hI K hK;obtain ⟨hS1, hM1, hB1, hG1⟩ := hI.1;have zd6 := hR.pred 6 (by kernel_rfl);have zf6 : V 6 = .pointer (some ⟨b, 0, none⟩) := hI.2 6 zd6 rfl;have zd7 := hR.pred 7 (by kernel_rfl);have zF7 : ∃ (g_7 : Nat), V 7 = .slice (some ⟨g_7, 0, none⟩) 7 7 ∧ w8.heap.size ≤ g_7 ∧ Blk zw1 g_7 3 #[(.int .i64 1), (.int .i64 1), (.int .i64 2), (.int .i64 3), (.int .i64 5), (.int .i64 0), (.int .i64 501)] := hI.2 7 zd7 (by show (!D 8) = true; rw [hR.not]; rfl);obtain ⟨g_7, zf7, c7_0, b7_0⟩ := zF7;have ze90 := hR.frame.done (t := 90) (j := 6) (by kernel_rfl) hR.ok zd6;have ze91 := hR.frame.done (t := 91) (j := 7) (by kernel_rfl) hR.ok zd7;rw [if_pos (by rfl)];have := Bool.toNat_le (D 3);have := Bool.toNat_le (D 8)
        have hNB : N3 + ((D 3).toNat + (D 8).toNat) ≤ 1000000000 := by omega
        skip
        go_simp;refine (pickv_calls _ _ _ _ 7 7 #[(.int .i64 1), (.int .i64 1), (.int .i64 2), (.int .i64 3), (.int .i64 5), (.int .i64 0), (.int .i64 501)] hS1 b7_0 hNB (by omega) rfl (by omega) (by omega) rfl).mono ?_;rintro e zw2 ⟨k_0, hk, rfl, hS2, hm2⟩
        have hk2 : 0 ≤ k_0 ∧ k_0 ≤ 501 := by simp [intsOf, Go.RowKit.intOf] at hk; omega
        exact hK (.int .i64 k_0) _ (hI.next hR (by kernel_rfl) hm2 (GB.asks hI.1 (fun _ h _ => h) hS2 hm2 (by have hn := hR.not; simp [upd, hn] <;> omega) (HGs.out D 8 _ _ (hI.1).g hm2)) (⟨k_0, upd_same V 8 _, hk2.1, hk2.2⟩))
       ·intro D V zw1 a hR hI K hK;obtain ⟨hS1, hM1, hB1, hG1⟩ := hI.1;have zd5 := hR.pred 5 (by kernel_rfl);have zF5 : ∃ (s_5 : Str), V 5 = .string ⟨s_5.toArray⟩ ∧ s_5.length ≤ 100 := hI.2 5 zd5 rfl;obtain ⟨s_5, zf5, c5_0⟩ := zF5;have ze89 := hR.frame.done (t := 89) (j := 5) (by kernel_rfl) hR.ok zd5;rw [if_pos (by rfl)];go_simp;exact hK (.string ⟨s_5.toArray⟩) _ (hI.next hR (by kernel_rfl) (Mod.refl _ _) (GB.quiet hI.1 (Mod.refl _ _) (by have hn := hR.not; simp [upd, hn] <;> omega) (HGs.out D 9 zw1 zw1 (hI.1).g (Mod.refl _ _))) (⟨s_5, upd_same V 9 _, (by first | assumption | omega)⟩))
       ·intro D V zw1 a hR hI K hK;obtain ⟨hS1, hM1, hB1, hG1⟩ := hI.1;have zd8 := hR.pred 8 (by kernel_rfl);have zF8 : ∃ (k_8 : Int), V 8 = .int .i64 k_8 ∧ 0 ≤ k_8 ∧ k_8 ≤ 501 := hI.2 8 zd8 rfl;obtain ⟨k_8, zf8, c8_0, c8_1⟩ := zF8;have ze92 := hR.frame.done (t := 92) (j := 8) (by kernel_rfl) hR.ok zd8;rw [if_pos (by rfl)];go_simp;exact hK (.int .i64 k_8) _ (hI.next hR (by kernel_rfl) (Mod.refl _ _) (GB.quiet hI.1 (Mod.refl _ _) (by have hn := hR.not; simp [upd, hn] <;> omega) (HGs.out D 10 zw1 zw1 (hI.1).g (Mod.refl _ _))) (⟨k_8, upd_same V 10 _, (by first | assumption | omega), (by first | assumption | omega)⟩))
      ·intro D V w9 hD hI;obtain ⟨hS1, hM1, hB1, hG1⟩ := hI.1;have hSx : Strm w9 b (N3 + 2) := hS1.more (by show _ ≤ _; have := Bool.toNat_le (D 3); have := Bool.toNat_le (D 8); omega);clear hS1;have hMx := hM1;clear hM1;have hBx := hB1;clear hB1;have hGx := hG1;clear hG1;have zf1 : V 1 = .pointer (some ⟨b, 0, none⟩) := hI.2 1 (hD 1 (by decide)) rfl;have zF3 : ∃ (k_3 : Int), V 3 = .int .i64 k_3 ∧ 0 ≤ k_3 ∧ k_3 ≤ 3 := hI.2 3 (hD 3 (by decide)) rfl;obtain ⟨k_3, zf3, c3_0, c3_1⟩ := zF3;have zF5 : ∃ (s_5 : Str), V 5 = .string ⟨s_5.toArray⟩ ∧ s_5.length ≤ 100 := hI.2 5 (hD 5 (by decide)) rfl;obtain ⟨s_5, zf5, c5_0⟩ := zF5;have zf6 : V 6 = .pointer (some ⟨b, 0, none⟩) := hI.2 6 (hD 6 (by decide)) rfl;have zF8 : ∃ (k_8 : Int), V 8 = .int .i64 k_8 ∧ 0 ≤ k_8 ∧ k_8 ≤ 501 := hI.2 8 (hD 8 (by decide)) rfl;obtain ⟨k_8, zf8, c8_0, c8_1⟩ := zF8;have zF9 : ∃ (s_9 : Str), V 9 = .string ⟨s_9.toArray⟩ ∧ s_9.length ≤ 100 := hI.2 9 (hD 9 (by decide)) rfl;obtain ⟨s_9, zf9, c9_0⟩ := zF9;have zF10 : ∃ (k_10 : Int), V 10 = .int .i64 k_10 ∧ 0 ≤ k_10 ∧ k_10 ≤ 501 := hI.2 10 (hD 10 (by decide)) rfl;obtain ⟨k_10, zf10, c10_0, c10_1⟩ := zF10;clear hI hD HGs;simp only [frAll, Act.put, List.setIfInBounds_toArray, List.set_cons_zero, List.set_cons_succ, Nat.zero_add, Nat.reduceAdd, zf1, zf3, zf5, zf6, zf8, zf9, zf10];clear zf1 zf3 zf5 zf6 zf8 zf9 zf10;generalize V 0 = u0;generalize V 2 = u2;generalize V 4 = u4;generalize V 7 = u7;clear V D;have hrl : s_9.length ≤ 100 := c9_0;obtain ⟨hat2, hN36, hlt, hbk, hN25, hm9⟩ := HAR.out;have HTW9 := Lib.hid (HTW8.out.ask hS8' hMx k1 k2 k3 k4);have HIB9 := Lib.hid (HIB8.out.ask hMx);have HP9 := Lib.hid (HPS.out HP8.out hMx);clear hMx hBx hGx HTW8 HIB8 HP8 hS8' c3_0 c3_1 c5_0 c8_0 c8_1 c9_0 c10_0 c10_1;generalize s_9 = rev at *;generalize k_10 = most at *;obtain ⟨bo, bo', hdP, hdR, hd3, hd4⟩ := HTW9.out;have HDP := Lib.hid hdP;have HDR := Lib.hid hdR;have HD3 := Lib.hid hd3;have HD4 := Lib.hid hd4;have HPT := Lib.hid (ptake_calls w9 g bm bo ids d hdP HOK.out rev (by omega) at1 most (by omega));have HRT := Lib.hid (fun W (h : DkR W g' bm' bo' ids d) => rtake_calls W g' bm' bo' ids d h HOK.out rev (by omega) at1 most (by omega));have HKO := Lib.hid (dTake_ok HOK.out (by omega) rev at1 most)
       have hbl : (dTake d rev at1 most).bats.length = d.bats.length + 1 := by unfold dTake; simp
       have hbl1 := Nat.le_of_eq hbl;have hb9 := hSx.lt;clear hdP hdR hd3 hd4 HTW9 hbl
       go_wp2_with fail
       refine HPT.out.mono ?_;rintro e w10 hpt
       rcases hpt with ⟨hq, rfl, hm10⟩ | ⟨hq, A1, c1, bo1, rfl, hs10, hk10, hbo1, hm10⟩
       ·-- an error
        have HQ := Lib.hid hq;have hpa := pure_alloc w10 (.cells #[.int .i64 0, .int .i64 0, .int .i64 0, .string ⟨#[]⟩, .slice none 0 0] 42);have HM11 := Lib.hid (hm10.trans hpa);have HB13 := Lib.hid (Blk.new w10 42 #[.int .i64 0, .int .i64 0, .int .i64 0, .string ⟨#[]⟩, .slice none 0 0]);have HR11 := Lib.hid (HRT.out _ (HDR.out.pure (hm10.trans hpa)));clear hm10 hpa HPT HRT hq HKO
        go_upto_region 24 with (fail)
        generalize (w10.alloc (.cells #[.int .i64 0, .int .i64 0, .int .i64 0, .string ⟨#[]⟩, .slice none 0 0] 42)) = w11 at *;generalize w10.heap.size = g13 at *
        go_wp2_with fail
        refine HR11.out.mono ?_;rintro e w12 hrt
        rcases hrt with ⟨_, rfl, hm12⟩ | ⟨hq2, _⟩
        rotate_left
        ·exact absurd hq2 HQ.out
        have hpb := pure_alloc w12 (.cells #[.int .i64 0, .int .i64 0, .int .i64 0, .string ⟨#[]⟩, .slice none 0 0] 42);have HM13 := Lib.hid (HM11.out.trans (hm12.trans hpb));have HB133 := Lib.hid (HB13.out.modp (hm12.trans hpb));have HB15 := Lib.hid (Blk.new w12 42 #[.int .i64 0, .int .i64 0, .int .i64 0, .string ⟨#[]⟩, .slice none 0 0]);have HSB := Lib.hid (sameBatch_calls (w12.alloc (.cells #[.int .i64 0, .int .i64 0, .int .i64 0, .string ⟨#[]⟩, .slice none 0 0] 42)) ⟨0, 0, 0, [], none, 0, []⟩ ⟨0, 0, 0, [], none, 0, []⟩ Sl.nil_ Sl.nil_);rw [show batEq ⟨0, 0, 0, [], none, 0, []⟩ ⟨0, 0, 0, [], none, 0, []⟩ = true from (batEq_key _ _).2 rfl] at HSB;clear hm12 hpb HR11 HM11 HB13
        go_upto_region 25 with (fail)
        generalize (w12.alloc (.cells #[.int .i64 0, .int .i64 0, .int .i64 0, .string ⟨#[]⟩, .slice none 0 0] 42)) = w13 at *;generalize w12.heap.size = g15 at *;have hx := HB133.out;have hy := HB15.out;have x0 := hx.cell 0; have x1 := hx.cell 1; have x2 := hx.cell 2; have x3 := hx.cell 3; have x4 := hx.cell 4; simp at x0 x1 x2 x3 x4;have y0 := hy.cell 0; have y1 := hy.cell 1; have y2 := hy.cell 2; have y3 := hy.cell 3; have y4 := hy.cell 4; simp at y0 y1 y2 y3 y4;clear hx hy
        go_wp2_with fail
        refine HSB.out.mono ?_;rintro e w14 ⟨rfl, hm14⟩;have HMM := Lib.hid (HM13.out.trans hm14);clear hm14 HSB
        go_wp2_with fail
        go_roundg (m9 - (k + 1))
        case measure => omega
        case rel => exact ⟨k + 1, at1, d, rfl, by omega, rfl, by simp, by omega, by have := hat2.2; simp; omega, by omega, HOK.out, ⟨bo, bo', HDP.out.pure HMM.out, HDR.out.pure HMM.out, HD3.out, HD4.out⟩, HIB9.out.pure HMM.out, (hSx.pure HMM.out).more (by omega), HP9.out.trans HMM.out⟩
       ·-- a batch
        have hmS : Mod (DkS g bm bo) w9 w10 := hm10;have hRp := HDR.out.past HDP.out hmS hne (fun j hj => (HD3.out j hj).2);have hIp : ItsB w10 b (.slice Ai its.length ci) its := ⟨HIB9.out.1.mod hmS (fun i arr fr hi => HDP.out.ty (by decide) (by decide) hi), HIB9.out.2⟩
        have hSp := hSx.mod hmS (fun i hi hs => by
         rcases hs with h | h | h
         ·omega
         ·omega
         ·have := (HD3.out i h).1; omega)
        have hPp := HP9.out.trans' hmS (fun i hi hlt => by
         rcases hi with h | h | h
         ·omega
         ·omega
         ·have := (HD3.out i h).1; omega)
        have hpa := pure_alloc w10 (.cells #[.int .i64 ((d.bats.length : Int) + 1), .int .i64 at1, .int .i64 (-1), .string ⟨rev.toArray⟩, .slice A1 (takL d.st most d.fams []).length c1] 42);have HB13 := Lib.hid (Blk.new w10 42 #[.int .i64 ((d.bats.length : Int) + 1), .int .i64 at1, .int .i64 (-1), .string ⟨rev.toArray⟩, .slice A1 (takL d.st most d.fams []).length c1]);have HR11 := Lib.hid (HRT.out _ (hRp.pure hpa));have HRW := Lib.hid (hRp.pure hpa);have HKP := Lib.hid (hk10.pure hpa);have HI11 := Lib.hid (hIp.pure hpa);have hS11 := hSp.pure hpa;have HP11 := Lib.hid (hPp.trans hpa);have HS11 := Lib.hid (hs10.pure hpa);have HMS := Lib.hid (hmS.trans (Mod.of_pure hpa));have HBO1 := Lib.hid hbo1;have HQ := Lib.hid hq;have h13l : w9.heap.size ≤ w10.heap.size := hmS.size;clear hm10 hmS hRp hIp hSp hPp hpa hk10 hs10 hbo1 hq HPT HRT HIB9 HP9
        go_upto_region 24 with (fail)
        generalize (w10.alloc (.cells #[.int .i64 ((d.bats.length : Int) + 1), .int .i64 at1, .int .i64 (-1), .string ⟨rev.toArray⟩, .slice A1 (takL d.st most d.fams []).length c1] 42)) = w11 at *;generalize w10.heap.size = g13 at *
        go_wp2_with fail
        refine HR11.out.mono ?_;rintro e w12 hrt
        rcases hrt with ⟨hq2, _⟩ | ⟨_, A2, c2, bo2, rfl, hs12, hk12, hbo2, hm12⟩
        ·exact absurd HQ.out hq2
        have hmS2 : Mod (DkS g' bm' bo') w11 w12 := hm12;have h2 := two_step HDP.out HDR.out HD3.out HD4.out hne hb9 HKP.out HBO1.out HMS.out hk12 hbo2 hmS2 HRW.out;have hI12 : ItsB w12 b (.slice Ai its.length ci) its := ⟨HI11.out.1.mod hmS2 (fun i arr fr hi => HRW.out.ty (by decide) (by decide) hi), HI11.out.2⟩
        have hS12 := hS11.mod hmS2 (fun i hi hs => by
         rcases hs with h | h | h
         ·omega
         ·omega
         ·have := HD4.out i h; omega)
        have hP12 := HP11.out.trans' hmS2 (fun i hi hlt => by
         rcases hi with h | h | h
         ·omega
         ·omega
         ·have := HD4.out i h; omega)
        have hx12 := HS11.out.mod hmS2 (fun i arr fr hi => HRW.out.ty (by decide) (by decide) hi)
        have hbl3 : ∀ j, bo' = some j → j ≠ g13 := fun j hj e => by
         obtain ⟨arr, h⟩ := HDR.out.own hj;have h1 := lt_of_heap h
         omega
        have hB12 := HB13.out.mod hmS2 (fun hs => by
         rcases hs with h | h | h
         ·obtain ⟨⟨ag, hg⟩, _⟩ := HRW.out.blk;exact blk_ty2 HB13.out hg (by decide) h.symm
         ·obtain ⟨_, es, cc, hg⟩ := HRW.out.blk;have hb := HB13.out;unfold Blk at hb;rw [h, hg] at hb
          cases hb
         ·exact hbl3 _ h rfl)
        have hpb := pure_alloc w12 (.cells #[.int .i64 ((d.bats.length : Int) + 1), .int .i64 at1, .int .i64 (-1), .string ⟨rev.toArray⟩, .slice A2 (takL d.st most d.fams []).length c2] 42);have HB133 := Lib.hid (hB12.modp hpb);have HB15 := Lib.hid (Blk.new w12 42 #[.int .i64 ((d.bats.length : Int) + 1), .int .i64 at1, .int .i64 (-1), .string ⟨rev.toArray⟩, .slice A2 (takL d.st most d.fams []).length c2]);have HSB := Lib.hid (sameBatch_calls (w12.alloc (.cells #[.int .i64 ((d.bats.length : Int) + 1), .int .i64 at1, .int .i64 (-1), .string ⟨rev.toArray⟩, .slice A2 (takL d.st most d.fams []).length c2] 42)) ⟨(d.bats.length : Int) + 1, at1, -1, rev, A1, c1, takL d.st most d.fams []⟩ ⟨(d.bats.length : Int) + 1, at1, -1, rev, A2, c2, takL d.st most d.fams []⟩ (hx12.pure hpb) (hs12.pure hpb));rw [show batEq ⟨(d.bats.length : Int) + 1, at1, -1, rev, A1, c1, takL d.st most d.fams []⟩ ⟨(d.bats.length : Int) + 1, at1, -1, rev, A2, c2, takL d.st most d.fams []⟩ = true from (batEq_key _ _).2 rfl] at HSB;have HT13 := Lib.hid (h2.pure hpb);have HI13 := Lib.hid (hI12.pure hpb);have hS13 := hS12.pure hpb;have HP13 := Lib.hid (hP12.trans hpb);clear hm12 hmS2 h2 hI12 hS12 hP12 hx12 hbl3 hB12 hpb hs12 hk12 hbo2 HR11 HRW HKP HI11 HP11 HS11 HMS HBO1 hS11 HB13 HDP HDR HD3 HD4
        go_upto_region 25 with (fail)
        generalize (w12.alloc (.cells #[.int .i64 ((d.bats.length : Int) + 1), .int .i64 at1, .int .i64 (-1), .string ⟨rev.toArray⟩, .slice A2 (takL d.st most d.fams []).length c2] 42)) = w13 at *;generalize w12.heap.size = g15 at *;have hx := HB133.out;have hy := HB15.out;have x0 := hx.cell 0; have x1 := hx.cell 1; have x2 := hx.cell 2; have x3 := hx.cell 3; have x4 := hx.cell 4; simp at x0 x1 x2 x3 x4;have y0 := hy.cell 0; have y1 := hy.cell 1; have y2 := hy.cell 2; have y3 := hy.cell 3; have y4 := hy.cell 4; simp at y0 y1 y2 y3 y4;clear hx hy;generalize takL d.st most d.fams [] = TL at *
        go_wp2_with fail
        refine HSB.out.mono ?_;rintro e w14 ⟨rfl, hm14⟩;have HM14 := Lib.hid hm14;clear hm14 HSB
        go_wp2_with fail
        go_roundg (m9 - (k + 1))
        case measure => omega
        case rel => exact ⟨k + 1, at1, dTake d rev at1 most, rfl, by omega, rfl, by simp, by omega, by have := hat2.2; simp; omega, by omega, HKO.out, HT13.out.pure HM14.out, HI13.out.pure HM14.out, (hS13.pure HM14.out).more (by omega), HP13.out.trans HM14.out⟩
     ·go_wp2_with fail
      refine (range_calls w8 b _ 1 4 hS8' (by omega) (by omega) (by omega) (by omega)).mono ?_;rintro e w9 ⟨no0, hn1, hn2, rfl, hS9, hM9⟩;have HTW9 := Lib.hid (HTW8.out.ask hS8' hM9 k1 k2 k3 k4);have HIB9 := Lib.hid (HIB8.out.ask hM9);have HP9 := Lib.hid (HPS.out HP8.out hM9);obtain ⟨N4, hN4⟩ : ∃ N4, N4 = N3 + 1 := ⟨_, rfl⟩;have hS9' : Strm w9 b N4 := hS9.more (by omega)
      have hN45 : N4 ≤ 30001 := by omega
      have HAR := Lib.hid (show (0 ≤ at1 ∧ at1 ≤ 5 * ((k : Int) + 1)) ∧ (N4 + 1400 ≤ N2 + 2000 * (k + 1)) ∧ k < m9 ∧ d.bats.length ≤ k ∧ N2 ≤ 6000 ∧ m9 ≤ 9 from ⟨hat2, by omega, hlt, hbk, hN25, hm9⟩);have hb9 := hS9'.lt;clear hS8' hM9 HTW8 HIB8 HP8 hS9 hN4 hN36 hN35 hat2 hlt hbk hN25 hm9 hkb ha0 ha1 hk;obtain ⟨bo, bo', hdP, hdR, hd3, hd4⟩ := HTW9.out;have HDP := Lib.hid hdP;have HDR := Lib.hid hdR;have HD3 := Lib.hid hd3;have HD4 := Lib.hid hd4;obtain ⟨FA, fc, os2, BA, bc, bts, hB', _, _, _, hBT', hbo'⟩ := hdR
      have hbt9 : bts.length ≤ 1000 := by rw [hBT'.kl]; exact HOK.out.bl
      have HBT := Lib.hid hBT';have HBJ := Lib.hid (fun j (hj : (Value.slice BA bts.length bc).ownBlock = some j) => HD4.out j (by rw [← hbo']; exact hj));have hx := hB';have x0 := hx.cell 0; have x1 := hx.cell 1; have x2 := hx.cell 2; have x3 := hx.cell 3; simp at x0 x1 x2 x3;clear hx hdP hB' hBT' hbo' hd3 hd4 HTW9
      go_upto_if 126 with (fail)
      go_cut [17, 18] (fun v u wx => ∃ (no : Int) (A : Option Addr) (c base2 : Nat) (dl : List Str), v = .int .i64 no ∧ u = .slice A dl.length c ∧ OrdB wx b base2 A c dl ∧ dl.length ≤ 1000 ∧ (∀ s ∈ dl, s.length ≤ 1000) ∧ Strm wx b (N4 + 1001) ∧ w9.heap.size ≤ base2 ∧ base2 ≤ wx.heap.size ∧ Mod (· = b) w9 wx)
      case first =>
       by_cases hb0 : bts.length = 0
       ·have hl0 : ¬ ((0 : Int) < (bts.length : Int)) := by omega
        clear hb0
        go_wp2_with fail
        go_meet;exact ⟨no0, none, 0, w9.heap.size, [], rfl, rfl, ⟨hb9, ⟨rfl, .inl ⟨rfl, rfl⟩⟩⟩, by simp, by simp, hS9'.more (by omega), Nat.le_refl _, Nat.le_refl _, Mod.refl _ _⟩
       ·have hl0 : (0 : Int) < (bts.length : Int) := by omega
        obtain ⟨L1, hL1⟩ : ∃ L1, L1 = bts.length - 1 := ⟨_, rfl⟩
        have hL2 : L1 < bts.length := by omega
        have hsub : IntKind.i64.wrap ((bts.length : Int) - 1) = (L1 : Int) := by rw [IntWalk.i64_in _ (by omega)]; omega
        obtain ⟨gB, rfl⟩ : ∃ gB, BA = some ⟨gB, 0, none⟩ := by
         obtain ⟨gB, h, _⟩ := HBT.out.cells hL2;exact ⟨gB, h⟩
        have hty : ∀ T, T ≠ 25 → ∀ i arr fr, w9.heap[i]? = some (.cells arr T fr) → ¬ i = b := fun T hT i arr fr hi => by
         obtain ⟨_, _, _, _, hb, _⟩ := hS9';exact blk_ty2 hb hi hT
        have HB1 := Lib.hid (fun W (h : Mod (· = b) w9 W) => HBT.out.mod h (fun j hj e => by have := HBJ.out j hj; omega) (hty _ (by decide)));have HFL := Lib.hid (fun W (h : Mod (· = b) w9 W) => (HB1.out W h).fld hL2);have HSX := Lib.hid (fun W (h : Mod (· = b) w9 W) => (HB1.out W h).2.1 _ (List.getElem_mem hL2))
        have hkm : bts[L1].key ∈ d.bats := by rw [← HBT.out.2.2]; exact List.mem_map_of_mem (List.getElem_mem hL2)
        have HBZ := Lib.hid (HOK.out.bz _ hkm);have HBI := Lib.hid (fun s hs => HOK.out.sl s (HOK.out.bi _ hkm s hs));clear hkm hL1 hty hb0;generalize bts[L1] = x at *;obtain ⟨xn, xo, xi, xr, xA, xc, xs⟩ := x;simp only at HFL HSX;have hxz : xs.length ≤ 1000 := HBZ.out;have HBI2 := Lib.hid (show ∀ s ∈ xs, s.length ≤ 1000 from HBI.out);obtain ⟨p2, p4, p0⟩ := HFL.out w9 (Mod.refl _ _);have HPK := Lib.hid (pickv_calls _ b _ w9.heap.size 2 2 #[.int .i64 no0, .int .i64 xn] (hS9'.alloc (.cells #[.int .i64 no0, .int .i64 xn] 3)) (Blk.new w9 3 #[.int .i64 no0, .int .i64 xn]) (by omega) (by omega) rfl (by omega) (by omega) rfl);clear HBZ HBI p2 p4
        go_wp2_with fail
        refine HPK.out.mono ?_;rintro e w10 ⟨kv, hkv, rfl, hS10, hM10⟩;have HM10 : Hid (Mod (· = b) w9 w10) := Lib.hid (((Mod.refl (· = b) w9).alloc _).trans hM10);obtain ⟨p2, p4, p0'⟩ := HFL.out w10 HM10.out;obtain ⟨_, _, _, e0, hxc1, hxc2, _, hxr⟩ := HSX.out w10 HM10.out
        cases e0
        have HXR := Lib.hid hxr;obtain ⟨base2, hbase2⟩ : ∃ base2, base2 = w10.heap.size := ⟨_, rfl⟩;have hb21 := Nat.le_of_eq hbase2;have hb22 := Nat.le_of_eq hbase2.symm;have hw10 := HM10.out.size;have hS10' : Strm w10 b (N4 + 1) := hS10.more (by omega);clear HPK hkv hM10 hxr hbase2 hS10 p2 p0'
        go_wp2_with fail
        go_loopg [146, 18] xs.length (fun gk i v wr => ∃ (k cap : Nat) (Ao : Option Addr) (dl : List Str), xs.length - k = gk ∧ k ≤ xs.length ∧ i = .int .i64 (k : Int) ∧ v = .slice Ao dl.length cap ∧ dl.length ≤ k ∧ (∀ s ∈ dl, s.length ≤ 1000) ∧ OrdB wr b base2 Ao cap dl ∧ Strm wr b (N4 + 1 + k) ∧ Mod (· = b) w10 wr)
        case atStart => exact ⟨0, 0, none, [], by omega, by omega, rfl, rfl, by simp, by simp, ⟨by omega, ⟨rfl, .inl ⟨rfl, rfl⟩⟩⟩, hS10'.more (by omega), Mod.refl _ _⟩
        case round =>
         clear hS10';obtain ⟨k2, cap2, Ao2, dl, rfl, hk2, rfl, rfl, hdk, hdz, hob, hS, hm⟩ := hrel;have HDZ := Lib.hid hdz;obtain ⟨w11, hw11⟩ : ∃ W, W = wr := ⟨wr, rfl⟩;subst hw11;have HM11 := Lib.hid (HM10.out.trans hm);clear hdz
         by_cases hlt2 : k2 < xs.length
         ·have HOB := Lib.hid hob;have HM1 := Lib.hid hm;obtain ⟨_, _, _, e1, _, _, _, hxr⟩ := HSX.out w11 HM11.out
          cases e1
          obtain ⟨gx, ox, rfl, hrow⟩ := hxr (by omega);have hq := hrow.cell (strsV_get xs k2 hlt2);have HSL := Lib.hid (HBI2.out _ (List.getElem_mem hlt2));clear hrow hob hm hxr;generalize xs[k2] = s at *
          go_wp2_with fail
          refine (flip_calls w11 b _ 2 hS (by omega) (by omega) (by omega)).mono ?_;rintro e w12 ⟨fl, rfl, hS12, hM12⟩;have HOB12 := Lib.hid (HOB.out.ask hM12);have HM12 := Lib.hid (HM1.out.trans hM12);clear hS hM12 HOB HM1 hq HM11
          cases fl
          ·go_wp2_with fail
           go_roundg (xs.length - (k2 + 1))
           case measure => omega
           case rel => exact ⟨k2 + 1, cap2, Ao2, dl, rfl, by omega, by simp, rfl, by omega, HDZ.out, HOB12.out, hS12.more (by omega), HM12.out⟩
          ·have hown := HOB12.out.2;have hmS := HM12.out;have hz12 := hmS.size;have HOWN := Lib.hid (own_block hown)
           go_wp2_with (at_builtin; refine wpList_append_lies _ rfl _ _ _ rfl base2 9 i0 _ 1 16 Tryz.underlying29 hi0 hz0 hz1 hz2 rfl (by omega) (.slice Ao2 dl.length cap2) dl.length (strsV dl) rfl (hown.alloc _) ⟨w12.heap.size, 0, none⟩ 1 1 [.string ⟨s.toArray⟩] rfl rfl (World.news_of_block (cs := #[.string ⟨s.toArray⟩]) (t := 9) (fr := (0, 0)) (heap_alloc_new w12 _)) (by simp [Value.oneCell']) (by omega) (by simp [maxLen]; omega) (by omega) (by have := hmS.size; simp; omega) (w12.heap.size + 1) (by simp) ?_; intro g5 cap5 w5 hown5 hgrow hat hlt5)
           have hm6 := grown_mod (v := .slice Ao2 dl.length cap2) hgrow
           go_roundg (xs.length - (k2 + 1))
           case measure => omega
           case rel =>
            have hpa := pure_alloc w12 (.cells #[.string ⟨s.toArray⟩] 9);refine ⟨k2 + 1, cap5, some ⟨g5, 0, none⟩, dl ++ [s], rfl, by omega, by simp, by simp, by simp; omega, fun x hx => ?_, ⟨HOB12.out.1, by have := hown5; simpa [strsV] using this⟩, ((hS12.more (by omega)).alloc _).mod hm6 (fun i hi e => ?_), (hmS.trans (Mod.of_pure hpa)).trans' hm6 (fun i hi hl => ?_)⟩
            ·rcases List.mem_append.1 hx with hx | hx
             ·exact HDZ.out x hx
             ·rw [List.mem_singleton.1 hx]; exact Nat.le_trans HSL.out (by decide)
            ·have := HOWN.out i e; have := HOB12.out.1; omega
            ·have := HOWN.out i hi; omega
         ·obtain rfl : k2 = xs.length := by omega
          have hzm := hm.size
          go_wp2_with fail
          go_meet;exact ⟨kv, Ao2, cap2, base2, dl, rfl, rfl, hob, by omega, HDZ.out, hS.more (by omega), by omega, by omega, HM11.out⟩
      case rest =>
      obtain ⟨no, DA, dc, base2, dl, rfl, rfl, hob, hdl, hdz, hSx, hbs2, hbs3, hmx⟩ := hcut;generalize wc = w10 at *;have HM10 := Lib.hid hmx;have HOB := Lib.hid hob;have HDZ := Lib.hid hdz;obtain ⟨N5, hN5⟩ : ∃ N5, N5 = N4 + 1001 := ⟨_, rfl⟩;have hSx' : Strm w10 b N5 := hSx.more (by omega);clear hob hdz HBT HBJ hmx hSx x0 x1 x2 x3
      go_wp2_with fail
      refine (flip_calls w10 b _ 15 hSx' (by omega) (by omega) (by omega)).mono ?_;rintro e w11 ⟨fl, rfl, hS11, hM11⟩;have HM11 := Lib.hid (HM10.out.trans hM11);have HOB11 := Lib.hid (HOB.out.ask hM11);have hz11 := hM11.size;clear hSx' hM11 HM10 HOB
      go_upto_if 158 with (fail)
      go_cut [18] (fun u wx => ∃ (A : Option Addr) (c base3 : Nat) (dl : List Str), u = .slice A dl.length c ∧ OrdB wx b base3 A c dl ∧ dl.length ≤ 1001 ∧ (∀ s ∈ dl, s.length ≤ 1000) ∧ Strm wx b (N5 + 100) ∧ Mod (· = b) w9 wx)
      case first =>
       cases fl
       ·go_wp2_with fail
        go_meet;exact ⟨DA, dc, base2, dl, rfl, HOB11.out, by omega, HDZ.out, hS11.more (by omega), HM11.out⟩
       ·have HAN := Lib.hid (anyId_calls w11 b _ _ its hS11 (by omega) (HIB9.out.ask HM11.out).1 HZ.out (by omega))
        go_wp2_with fail
        refine HAN.out.mono ?_;rintro e wA ⟨s, hs, rfl, hSA, hMA⟩;have HOBA := Lib.hid (HOB11.out.ask hMA);have HMA := Lib.hid (HM11.out.trans hMA);have HSL := Lib.hid hs;have hown := HOBA.out.2;have hmS := HMA.out;have hzM := hMA.size;have HOWN := Lib.hid (own_block hown);clear HAN HOB11 HM11 hMA hS11
        go_wp2_with (at_builtin; refine wpList_append_lies _ rfl _ _ _ rfl base2 9 i0 _ 1 16 Tryz.underlying29 hi0 hz0 hz1 hz2 rfl (by omega) (.slice DA dl.length dc) dl.length (strsV dl) rfl (hown.alloc _) ⟨wA.heap.size, 0, none⟩ 1 1 [.string ⟨s.toArray⟩] rfl rfl (World.news_of_block (cs := #[.string ⟨s.toArray⟩]) (t := 9) (fr := (0, 0)) (heap_alloc_new wA _)) (by simp [Value.oneCell']) (by omega) (by simp [maxLen]; omega) (by omega) (by have := hmS.size; simp; omega) (wA.heap.size + 1) (by simp) ?_; intro g5 cap5 w5 hown5 hgrow hat hlt5)
        have hm6 := grown_mod (v := .slice DA dl.length dc) hgrow;go_meet;have hpa := pure_alloc wA (.cells #[.string ⟨s.toArray⟩] 9);refine ⟨some ⟨g5, 0, none⟩, cap5, base2, dl ++ [s], by simp, ⟨HOBA.out.1, by have := hown5; simpa [strsV] using this⟩, by simp; omega, fun x hx => ?_, ((hSA.more (by omega)).alloc _).mod hm6 (fun i hi e => ?_), (hmS.trans (Mod.of_pure hpa)).trans' hm6 (fun i hi hl => ?_)⟩
        ·rcases List.mem_append.1 hx with hx | hx
         ·exact HDZ.out x hx
         ·rw [List.mem_singleton.1 hx]; exact Nat.le_trans HSL.out (by decide)
        ·have := HOWN.out i e; have := HOBA.out.1; omega
        ·have := HOWN.out i hi; omega
      case rest =>
      obtain ⟨DA2, dc2, base3, dl2, rfl, hob, hdl2, hdz2, hS12, hmx⟩ := hcut;generalize wc = w12 at *;have HTW12 : Hid (Two w12 b g bm g' bm' ids d) := Lib.hid (Two.ask ⟨bo, bo', HDP.out, HDR.out, HD3.out, HD4.out⟩ hS9' hmx k1 k2 k3 k4);have HIB12 := Lib.hid (HIB9.out.ask hmx);have HP12 := Lib.hid (HPS.out HP9.out hmx);have hb12 := hS12.lt;have HSL : Hid (Sl w12 9 1 (.slice DA2 dl2.length dc2) (strsV dl2)) := Lib.hid (Sl.of_own hob.2);have HDZ2 := Lib.hid hdz2;obtain ⟨hat2, hN36, hlt, hbk, hN25, hm9⟩ := HAR.out;clear HDP HDR HD3 HD4 HIB9 HP9 hmx hS9' hob hdz2 HDZ HOB11 HM11 hS11;obtain ⟨bo2, bo2', hdP, hdR, hd3, hd4⟩ := HTW12.out;have HDP := Lib.hid hdP;have HDR := Lib.hid hdR;have HD3 := Lib.hid hd3;have HD4 := Lib.hid hd4;have HPT := Lib.hid (preturn_calls w12 g bm bo2 ids d hdP HOK.out no at1 DA2 dl2.length dc2 dl2 HSL.out hdl2 HDZ2.out);have HRT := Lib.hid (fun W (h : DkR W g' bm' bo2' ids d) h2 => rreturn_calls W g' bm' bo2' ids d h HOK.out no at1 DA2 dl2.length dc2 dl2 h2 hdl2 HDZ2.out);have HKO := Lib.hid (fun h0 => dRet_ok HOK.out (no := no) (at_ := at1) (done := dl2) h0)
      have hbl2 : (dRet d (no - 1).toNat (d.bats.getD (no - 1).toNat batN) at1 dl2).bats.length = d.bats.length := by
       show (d.bats.set _ _).length = _
       rw [List.length_set]
      have HBL := Lib.hid hbl2;clear hdP hdR hd3 hd4 HTW12 hbl2;unfold RtPost at HPT HRT;generalize dRet d (no - 1).toNat (d.bats.getD (no - 1).toNat batN) at1 dl2 = d2 at *;generalize rtF d no at1 dl2 = rq at *
      go_wp2_with fail
      refine HPT.out.mono ?_;rintro e w13 hpt
      rcases hpt with ⟨hq, rfl, hm13⟩ | ⟨hq, rfl, hK, hm13⟩
      ·have HQ := Lib.hid hq;have HR13 := Lib.hid (HRT.out _ (HDR.out.pure hm13) (HSL.out.pure hm13));have HM13 := Lib.hid hm13;clear HPT HRT HKO hq hm13
       go_wp2_with fail
       refine HR13.out.mono ?_;rintro e w14 hrt
       rcases hrt with ⟨_, rfl, hm14⟩ | ⟨hq2, _⟩
       rotate_left
       ·exact absurd hq2 HQ.out
       have HMM := Lib.hid (HM13.out.trans hm14);clear hm14 HR13 HM13
       go_wp2_with fail
       go_roundg (m9 - (k + 1))
       case measure => omega
       case rel => exact ⟨k + 1, at1, d, rfl, by omega, rfl, by simp, by omega, by have := hat2.2; simp; omega, by omega, HOK.out, ⟨bo2, bo2', HDP.out.pure HMM.out, HDR.out.pure HMM.out, HD3.out, HD4.out⟩, HIB12.out.pure HMM.out, (hS12.pure HMM.out).more (by omega), HP12.out.trans HMM.out⟩
      ·have hmS : Mod (DkS g bm bo2) w12 w13 := hm13;have hRp := HDR.out.past HDP.out hmS hne (fun j hj => (HD3.out j hj).2);have hIp : ItsB w13 b (.slice Ai its.length ci) its := ⟨HIB12.out.1.mod hmS (fun i arr fr hi => HDP.out.ty (by decide) (by decide) hi), HIB12.out.2⟩
       have hSp := hS12.mod hmS (fun i hi hs => by
        rcases hs with h | h | h
        ·omega
        ·omega
        ·have := (HD3.out i h).1; omega)
       have hPp := HP12.out.trans' hmS (fun i hi hlt => by
        rcases hi with h | h | h
        ·omega
        ·omega
        ·have := (HD3.out i h).1; omega)
       have hSl := HSL.out.mod hmS (fun i arr fr hi => HDP.out.ty (by decide) (by decide) hi);have HR13 := Lib.hid (HRT.out _ hRp hSl);have HRW := Lib.hid hRp;have HKP := Lib.hid hK;have HI13 := Lib.hid hIp;have HP13 := Lib.hid hPp;have HMS := Lib.hid hmS;have HQ := Lib.hid hq;have hz13 := hmS.size;clear hm13 hmS hRp hIp hPp hSl hK hq HPT HRT HIB12 HP12 HSL hS12
       go_wp2_with fail
       refine HR13.out.mono ?_;rintro e w14 hrt
       rcases hrt with ⟨hq2, _⟩ | ⟨_, rfl, hK2, hm14⟩
       ·exact absurd HQ.out hq2
       have hmS2 : Mod (DkS g' bm' bo2') w13 w14 := hm14;have HT14 := Lib.hid (two_step HDP.out HDR.out HD3.out HD4.out hne hb12 HKP.out (fun j hj => .inl hj) HMS.out hK2 (fun j hj => .inl hj) hmS2 HRW.out);have hI14 : ItsB w14 b (.slice Ai its.length ci) its := ⟨HI13.out.1.mod hmS2 (fun i arr fr hi => HRW.out.ty (by decide) (by decide) hi), HI13.out.2⟩
       have hS14 := hSp.mod hmS2 (fun i hi hs => by
        rcases hs with h | h | h
        ·omega
        ·omega
        ·have := HD4.out i h; omega)
       have hP14 := HP13.out.trans' hmS2 (fun i hi hlt => by
        rcases hi with h | h | h
        ·omega
        ·omega
        ·have := HD4.out i h; omega)
       have HI14 := Lib.hid hI14;have HP14 := Lib.hid hP14;clear hm14 hmS2 hI14 hP14 hK2 HR13 HRW HKP HI13 HP13 HMS hSp HDP HDR HD3 HD4
       go_wp2_with fail
       go_roundg (m9 - (k + 1))
       case measure => omega
       case rel => exact ⟨k + 1, at1, d2, rfl, by omega, rfl, by simp, by omega, by have := hat2.2; simp; omega, by rw [HBL.out]; omega, HKO.out HQ.out, HT14.out, HI14.out, hS14.more (by omega), HP14.out⟩
    ·obtain rfl : k = m9 := by omega
     have HTW := Lib.hid htw;have HP := Lib.hid hp;have HOK := Lib.hid hok;clear htw hib hp hS hok hlt
     go_upto_region 43 with (fail)
     obtain ⟨bo, bo', hdP, hdR, _, _⟩ := HTW.out;have HDP := Lib.hid hdP;have HDR := Lib.hid hdR;obtain ⟨FA, fc, os2, BA, bc, bts, hB', _, _, _, hBT', _⟩ := hdR;have HBR := Lib.hid hB';have HBT := Lib.hid hBT';have HLL := Lib.hid (fun W (h : Pure w6 W) => left_calls W g bm bo ids d (HDP.out.pure h) HOK.out);have HLR := Lib.hid (fun W (h : Pure w6 W) => rleft_calls W g' bm' bo' ids d (HDR.out.pure h) HOK.out);have HPA := Lib.hid (fun W (h : Pure w6 W) => pprogress_calls W g bm bo ids d (HDP.out.pure h) HOK.out);have HPB := Lib.hid (fun W (h : Pure w6 W) => rprogress_calls W g' bm' bo' ids d (HDR.out.pure h) HOK.out);have HBA := Lib.hid (fun W (h : Pure w6 W) => batches_calls W g bm bo ids d (HDP.out.pure h) HOK.out);have HEQ := Lib.hid (fun W (h : Pure w6 W) (v : Value) (xs : List BatR) (hx : Bats W v xs) (hk : xs.map BatR.key = d.bats) => by have := equalBat_calls W v (.slice BA bts.length bc) xs bts hx (HBT.out.bats.pure h); rwa [eqBat_iff.2 (hk.trans HBT.out.2.2.symm)] at this);unfold prgV at HPA HPB;unfold OwnSPost at HLL HLR;generalize lftL d.st d.fams = LL at *;generalize (ids.filter fun s => decide (d.st s < 0)).length = n1 at *;generalize (ids.filter fun s => decide (0 < d.st s)).length = n2 at *;generalize (ids.filter fun s => decide (d.st s = 0)).length = n3 at *;generalize ids.length = n0 at *;have HLQ := Lib.hid (fun W v1 v2 (h1 : SlT W v1 LL) (h2 : SlT W v2 LL) => by have := equalG_calls W v1 v2 LL LL h1 h2; rwa [decide_eq_true rfl] at this);have HDE := Lib.hid (fun W (h : Pure w6 W) => HDC.out W (HP.out.trans h));clear hdP hB' hBT' HTW HDP HDR HMT HDC ha0 ha1 hbk hN25
     try clear HPS
     try clear HIB
     try clear HIB5
     try clear HIB8
     try clear hbw
     try clear hi9
     try clear hm3
     try clear hb3
     try clear hb1
     try clear hb2
     try clear hol6
     try clear hb5
     try clear k1
     try clear k2
     try clear k3
     try clear k4
     try clear hne
     try clear hm9
     try clear hk
     try clear hkb
     try clear hN5
     try clear HB0
     try clear hbt0
     try clear HZ
     try clear HOK
     try clear hi0
     try clear hz0
     try clear hz1
     try clear hz2
     try clear hok4
     try clear hNN
     try clear hbw6
     try clear k
     try clear hq
     have HGs := Lib.hid (show ∀ (D : Nat → Bool) (zzi : Nat) (zq zq' : World), (fun _ zq => (fun Z => ∃ hz : Nat, hz = Z.heap.size) zq) D zq → Mod (fun _ => False) zq zq' → (fun _ zq => (fun Z => ∃ hz : Nat, hz = Z.heap.size) zq) (upd D zzi true) zq' from by intro D zzi zq zq' h hm; (exact ⟨_, rfl⟩))
     refine wp_region_inv (by kernel_rfl) (by kernel_rfl) (InvF (R := Mod (fun _ => False)) [.is (.pointer (some ⟨g, 0, none⟩)),
       ⟨fun zv zw => ∃ (A_1 : Option Addr) (c_1 : Nat) (xs_1 : List BatR), zv = .slice A_1 xs_1.length c_1 ∧ xs_1.map BatR.key = d.bats ∧ Bats zw (.slice A_1 xs_1.length c_1) xs_1, (by rintro zv zw zx ⟨A_1, c_1, xs_1, rfl, c0, q0⟩ hm; exact ⟨A_1, c_1, xs_1, rfl, c0, (q0.pure hm)⟩), none, some 6⟩,
       .is (.pointer (some ⟨g', 0, none⟩)),
       .is (.pointer (some ⟨g', 0, none⟩)),
       .is (.pointer (some ⟨g', 2, none⟩)),
       .is (.slice BA bts.length bc),
       .is (.bool true),
       .is (.bool true),
       .is (.pointer (some ⟨g, 0, none⟩)),
       .is (.agg #[.int .i64 (n0 : Int), .int .i64 (n1 : Int), .int .i64 (n2 : Int), .int .i64 (n3 : Int)]),
       .is (.pointer (some ⟨g', 0, none⟩)),
       .is (.agg #[.int .i64 (n0 : Int), .int .i64 (n1 : Int), .int .i64 (n2 : Int), .int .i64 (n3 : Int)]),
       .is (.bool true),
       .is (.bool true),
       .is (.bool true),
       .is (.pointer (some ⟨g, 0, none⟩)),
       ⟨fun zv zw => ∃ (A_16 : Option Addr) (c_16 : Nat), zv = .slice A_16 LL.length c_16 ∧ SlT zw (.slice A_16 LL.length c_16) LL, (by rintro zv zw zx ⟨A_16, c_16, rfl, q0⟩ hm; exact ⟨A_16, c_16, rfl, (q0.pure hm)⟩), none, some 19⟩,
       .is (.pointer (some ⟨g', 0, none⟩)),
       ⟨fun zv zw => ∃ (A_18 : Option Addr) (c_18 : Nat), zv = .slice A_18 LL.length c_18 ∧ SlT zw (.slice A_18 LL.length c_18) LL, (by rintro zv zw zx ⟨A_18, c_18, rfl, q0⟩ hm; exact ⟨A_18, c_18, rfl, (q0.pure hm)⟩), none, some 19⟩,
       .is (.bool true),
       .is (.bool true),
       .is (.bool true),
       .is (.bool true),
       .is (.bool true),
       .is (.bool true)]
       (PB w6 (fun _ => False) w6.heap.size (fun _ zq => (fun Z => ∃ hz : Nat, hz = Z.heap.size) zq))) (InvF.start (PB.start (Mod.refl _ _) (Nat.le_refl _) (⟨_, rfl⟩))) ?_ ?_
     ·refine .cons ?_ (.cons ?_ (.cons ?_ (.cons ?_ (.cons ?_ (.cons ?_ (.cons ?_ (.cons ?_ (.cons ?_ (.cons ?_ (.cons ?_ (.cons ?_ (.cons ?_ (.cons ?_ (.cons ?_ (.cons ?_ (.cons ?_ (.cons ?_ (.cons ?_ (.cons ?_ (.cons ?_ (.cons ?_ (.cons ?_ (.cons ?_ (.cons ?_ .nil))))))))))))))))))))))))
      ·intro D V zw1 a hR hI K hK;obtain ⟨hM1, hB1, hG1⟩ := hI.1;have ze6 := hR.frame.other (t := 6) (by kernel_rfl) rfl;rw [if_pos (by rfl)];go_simp;exact hK (.pointer (some ⟨g, 0, none⟩)) _ (hI.next hR (by kernel_rfl) (Mod.refl _ _) (PB.quiet hI.1 (Mod.refl _ _) (HGs.out D 0 zw1 zw1 (hI.1).g (Mod.refl _ _))) (upd_same V 0 _))
      ·intro D V zw1 a hR hI K hK;obtain ⟨hM1, hB1, hG1⟩ := hI.1;have zd0 := hR.pred 0 (by kernel_rfl);have zf0 : V 0 = .pointer (some ⟨g, 0, none⟩) := hI.2 0 zd0 rfl;have ze177 := hR.frame.done (t := 177) (j := 0) (by kernel_rfl) hR.ok zd0;rw [if_pos (by rfl)];go_simp;refine (HBA.out zw1 hM1).mono ?_;rintro e zw2 ⟨A_0, c_0, xs_0, rfl, hbo, hm2⟩;exact hK (.slice A_0 xs_0.length c_0) _ (hI.next hR (by kernel_rfl) hm2 (PB.quiet hI.1 hm2 (HGs.out D 1 _ _ (hI.1).g hm2)) (⟨A_0, c_0, xs_0, upd_same V 1 _, hbo.2.2, hbo.bats⟩))
      ·intro D V zw1 a hR hI K hK;obtain ⟨hM1, hB1, hG1⟩ := hI.1;have ze9 := hR.frame.other (t := 9) (by kernel_rfl) rfl;rw [if_pos (by rfl)];go_simp;exact hK (.pointer (some ⟨g', 0, none⟩)) _ (hI.next hR (by kernel_rfl) (Mod.refl _ _) (PB.quiet hI.1 (Mod.refl _ _) (HGs.out D 2 zw1 zw1 (hI.1).g (Mod.refl _ _))) (upd_same V 2 _))
      ·intro D V zw1 a hR hI K hK;obtain ⟨hM1, hB1, hG1⟩ := hI.1;have zd2 := hR.pred 2 (by kernel_rfl);have zf2 : V 2 = .pointer (some ⟨g', 0, none⟩) := hI.2 2 zd2 rfl;have ze179 := hR.frame.done (t := 179) (j := 2) (by kernel_rfl) hR.ok zd2;rw [if_pos (by rfl)];go_simp;exact hK (.pointer (some ⟨g', 0, none⟩)) _ (hI.next hR (by kernel_rfl) (Mod.refl _ _) (PB.quiet hI.1 (Mod.refl _ _) (HGs.out D 3 zw1 zw1 (hI.1).g (Mod.refl _ _))) (upd_same V 3 _))
      ·intro D V zw1 a hR hI K hK;obtain ⟨hM1, hB1, hG1⟩ := hI.1;have zd3 := hR.pred 3 (by kernel_rfl);have zf3 : V 3 = .pointer (some ⟨g', 0, none⟩) := hI.2 3 zd3 rfl;have ze180 := hR.frame.done (t := 180) (j := 3) (by kernel_rfl) hR.ok zd3;rw [if_pos (by rfl)];go_simp;exact hK (.pointer (some ⟨g', 2, none⟩)) _ (hI.next hR (by kernel_rfl) (Mod.refl _ _) (PB.quiet hI.1 (Mod.refl _ _) (HGs.out D 4 zw1 zw1 (hI.1).g (Mod.refl _ _))) (upd_same V 4 _))
      ·intro D V zw1 a hR hI K hK;obtain ⟨hM1, hB1, hG1⟩ := hI.1;have zd4 := hR.pred 4 (by kernel_rfl);have zf4 : V 4 = .pointer (some ⟨g', 2, none⟩) := hI.2 4 zd4 rfl;have ze181 := hR.frame.done (t := 181) (j := 4) (by kernel_rfl) hR.ok zd4;have zx0 := (HBR.out.modp hM1).cell 2;simp at zx0;rw [if_pos (by rfl)];go_simp;exact hK (.slice BA bts.length bc) _ (hI.next hR (by kernel_rfl) (Mod.refl _ _) (PB.quiet hI.1 (Mod.refl _ _) (HGs.out D 5 zw1 zw1 (hI.1).g (Mod.refl _ _))) (upd_same V 5 _))
      ·intro D V zw1 a hR hI K hK;obtain ⟨hM1, hB1, hG1⟩ := hI.1;have zd1 := hR.pred 1 (by kernel_rfl);have zF1 : ∃ (A_1 : Option Addr) (c_1 : Nat) (xs_1 : List BatR), V 1 = .slice A_1 xs_1.length c_1 ∧ xs_1.map BatR.key = d.bats ∧ Bats zw1 (.slice A_1 xs_1.length c_1) xs_1 := hI.2 1 zd1 (by show (!D 6) = true; rw [hR.not]; rfl);obtain ⟨A_1, c_1, xs_1, zf1, c1_0, b1_0⟩ := zF1;have zd5 := hR.pred 5 (by kernel_rfl);have zf5 : V 5 = .slice BA bts.length bc := hI.2 5 zd5 rfl;have ze178 := hR.frame.done (t := 178) (j := 1) (by kernel_rfl) hR.ok zd1;have ze182 := hR.frame.done (t := 182) (j := 5) (by kernel_rfl) hR.ok zd5;rw [if_pos (by rfl)];go_simp;refine (HEQ.out zw1 hM1 _ xs_1 b1_0 c1_0).mono ?_;rintro e zw2 ⟨rfl, hm2⟩;exact hK (.bool true) _ (hI.next hR (by kernel_rfl) hm2 (PB.quiet hI.1 hm2 (HGs.out D 6 _ _ (hI.1).g hm2)) (upd_same V 6 _))
      ·intro D V zw1 a hR hI K hK;obtain ⟨hM1, hB1, hG1⟩ := hI.1;have zd6 := hR.pred 6 (by kernel_rfl);have zf6 : V 6 = .bool true := hI.2 6 zd6 rfl;have ze183 := hR.frame.done (t := 183) (j := 6) (by kernel_rfl) hR.ok zd6;rw [if_pos (by rfl)];go_simp;exact hK (.bool true) _ (hI.next hR (by kernel_rfl) (Mod.refl _ _) (PB.quiet hI.1 (Mod.refl _ _) (HGs.out D 7 zw1 zw1 (hI.1).g (Mod.refl _ _))) (upd_same V 7 _))
      ·intro D V zw1 a hR hI K hK;obtain ⟨hM1, hB1, hG1⟩ := hI.1;have zd7 := hR.pred 7 (by kernel_rfl);have zf7 : V 7 = .bool true := hI.2 7 zd7 rfl;have ze6 := hR.frame.other (t := 6) (by kernel_rfl) rfl;have ze184 := hR.frame.done (t := 184) (j := 7) (by kernel_rfl) hR.ok zd7;rw [if_pos (by simp [Region.wanted, yielded, ze184, zf7])];go_simp;exact hK (.pointer (some ⟨g, 0, none⟩)) _ (hI.next hR (by kernel_rfl) (Mod.refl _ _) (PB.quiet hI.1 (Mod.refl _ _) (HGs.out D 8 zw1 zw1 (hI.1).g (Mod.refl _ _))) (upd_same V 8 _))
      ·intro D V zw1 a hR hI K hK;obtain ⟨hM1, hB1, hG1⟩ := hI.1;have zd8 := hR.pred 8 (by kernel_rfl);have zf8 : V 8 = .pointer (some ⟨g, 0, none⟩) := hI.2 8 zd8 rfl;have zd7 := hR.pred 7 (by kernel_rfl);have zf7 : V 7 = .bool true := hI.2 7 zd7 rfl;have ze185 := hR.frame.done (t := 185) (j := 8) (by kernel_rfl) hR.ok zd8;have ze184 := hR.frame.done (t := 184) (j := 7) (by kernel_rfl) hR.ok zd7;rw [if_pos (by simp [Region.wanted, yielded, ze184, zf7])];go_simp;refine (HPA.out zw1 hM1).mono ?_;rintro e zw2 ⟨rfl, hm2⟩;exact hK (.agg #[.int .i64 (n0 : Int), .int .i64 (n1 : Int), .int .i64 (n2 : Int), .int .i64 (n3 : Int)]) _ (hI.next hR (by kernel_rfl) hm2 (PB.quiet hI.1 hm2 (HGs.out D 9 _ _ (hI.1).g hm2)) (upd_same V 9 _))
      ·intro D V zw1 a hR hI K hK;obtain ⟨hM1, hB1, hG1⟩ := hI.1;have zd7 := hR.pred 7 (by kernel_rfl);have zf7 : V 7 = .bool true := hI.2 7 zd7 rfl;have ze9 := hR.frame.other (t := 9) (by kernel_rfl) rfl;have ze184 := hR.frame.done (t := 184) (j := 7) (by kernel_rfl) hR.ok zd7;rw [if_pos (by simp [Region.wanted, yielded, ze184, zf7])];go_simp;exact hK (.pointer (some ⟨g', 0, none⟩)) _ (hI.next hR (by kernel_rfl) (Mod.refl _ _) (PB.quiet hI.1 (Mod.refl _ _) (HGs.out D 10 zw1 zw1 (hI.1).g (Mod.refl _ _))) (upd_same V 10 _))
      ·intro D V zw1 a hR hI K hK;obtain ⟨hM1, hB1, hG1⟩ := hI.1;have zd10 := hR.pred 10 (by kernel_rfl);have zf10 : V 10 = .pointer (some ⟨g', 0, none⟩) := hI.2 10 zd10 rfl;have zd7 := hR.pred 7 (by kernel_rfl);have zf7 : V 7 = .bool true := hI.2 7 zd7 rfl;have ze187 := hR.frame.done (t := 187) (j := 10) (by kernel_rfl) hR.ok zd10;have ze184 := hR.frame.done (t := 184) (j := 7) (by kernel_rfl) hR.ok zd7;rw [if_pos (by simp [Region.wanted, yielded, ze184, zf7])];go_simp;refine (HPB.out zw1 hM1).mono ?_;rintro e zw2 ⟨rfl, hm2⟩;exact hK (.agg #[.int .i64 (n0 : Int), .int .i64 (n1 : Int), .int .i64 (n2 : Int), .int .i64 (n3 : Int)]) _ (hI.next hR (by kernel_rfl) hm2 (PB.quiet hI.1 hm2 (HGs.out D 11 _ _ (hI.1).g hm2)) (upd_same V 11 _))
      ·intro D V zw1 a hR hI K hK;obtain ⟨hM1, hB1, hG1⟩ := hI.1;have zd9 := hR.pred 9 (by kernel_rfl);have zf9 : V 9 = .agg #[.int .i64 (n0 : Int), .int .i64 (n1 : Int), .int .i64 (n2 : Int), .int .i64 (n3 : Int)] := hI.2 9 zd9 rfl;have zd11 := hR.pred 11 (by kernel_rfl);have zf11 : V 11 = .agg #[.int .i64 (n0 : Int), .int .i64 (n1 : Int), .int .i64 (n2 : Int), .int .i64 (n3 : Int)] := hI.2 11 zd11 rfl;have zd7 := hR.pred 7 (by kernel_rfl);have zf7 : V 7 = .bool true := hI.2 7 zd7 rfl;have ze186 := hR.frame.done (t := 186) (j := 9) (by kernel_rfl) hR.ok zd9;have ze188 := hR.frame.done (t := 188) (j := 11) (by kernel_rfl) hR.ok zd11;have ze184 := hR.frame.done (t := 184) (j := 7) (by kernel_rfl) hR.ok zd7;rw [if_pos (by simp [Region.wanted, yielded, ze184, zf7])];go_simp;exact hK (.bool true) _ (hI.next hR (by kernel_rfl) (Mod.refl _ _) (PB.quiet hI.1 (Mod.refl _ _) (HGs.out D 12 zw1 zw1 (hI.1).g (Mod.refl _ _))) (upd_same V 12 _))
      ·intro D V zw1 a hR hI K hK;obtain ⟨hM1, hB1, hG1⟩ := hI.1;have zd7 := hR.pred 7 (by kernel_rfl);have zf7 : V 7 = .bool true := hI.2 7 zd7 rfl;have zd12 := hR.pred 12 (by kernel_rfl);have zf12 : V 12 = .bool true := hI.2 12 zd12 rfl;have ze184 := hR.frame.done (t := 184) (j := 7) (by kernel_rfl) hR.ok zd7;have ze189 := hR.frame.done (t := 189) (j := 12) (by kernel_rfl) hR.ok zd12;rw [if_pos (by rfl)];go_simp;exact hK (.bool true) _ (hI.next hR (by kernel_rfl) (Mod.refl _ _) (PB.quiet hI.1 (Mod.refl _ _) (HGs.out D 13 zw1 zw1 (hI.1).g (Mod.refl _ _))) (upd_same V 13 _))
      ·intro D V zw1 a hR hI K hK;obtain ⟨hM1, hB1, hG1⟩ := hI.1;have zd13 := hR.pred 13 (by kernel_rfl);have zf13 : V 13 = .bool true := hI.2 13 zd13 rfl;have ze190 := hR.frame.done (t := 190) (j := 13) (by kernel_rfl) hR.ok zd13;rw [if_pos (by rfl)];go_simp;exact hK (.bool true) _ (hI.next hR (by kernel_rfl) (Mod.refl _ _) (PB.quiet hI.1 (Mod.refl _ _) (HGs.out D 14 zw1 zw1 (hI.1).g (Mod.refl _ _))) (upd_same V 14 _))
      ·intro D V zw1 a hR hI K hK;obtain ⟨hM1, hB1, hG1⟩ := hI.1;have zd14 := hR.pred 14 (by kernel_rfl);have zf14 : V 14 = .bool true := hI.2 14 zd14 rfl;have ze6 := hR.frame.other (t := 6) (by kernel_rfl) rfl;have ze191 := hR.frame.done (t := 191) (j := 14) (by kernel_rfl) hR.ok zd14;rw [if_pos (by simp [Region.wanted, yielded, ze191, zf14])];go_simp;exact hK (.pointer (some ⟨g, 0, none⟩)) _ (hI.next hR (by kernel_rfl) (Mod.refl _ _) (PB.quiet hI.1 (Mod.refl _ _) (HGs.out D 15 zw1 zw1 (hI.1).g (Mod.refl _ _))) (upd_same V 15 _))
      ·intro D V zw1 a hR hI K hK;obtain ⟨hM1, hB1, hG1⟩ := hI.1;have zd15 := hR.pred 15 (by kernel_rfl);have zf15 : V 15 = .pointer (some ⟨g, 0, none⟩) := hI.2 15 zd15 rfl;have zd14 := hR.pred 14 (by kernel_rfl);have zf14 : V 14 = .bool true := hI.2 14 zd14 rfl;have ze192 := hR.frame.done (t := 192) (j := 15) (by kernel_rfl) hR.ok zd15;have ze191 := hR.frame.done (t := 191) (j := 14) (by kernel_rfl) hR.ok zd14;rw [if_pos (by simp [Region.wanted, yielded, ze191, zf14])];go_simp;refine (HLL.out zw1 hM1).mono ?_;rintro e zw2 ⟨A_0, c_0, rfl, hown2, hm2⟩;exact hK (.slice A_0 LL.length c_0) _ (hI.next hR (by kernel_rfl) hm2 (PB.quiet hI.1 hm2 (HGs.out D 16 _ _ (hI.1).g hm2)) (⟨A_0, c_0, upd_same V 16 _, (Sl.of_own hown2)⟩))
      ·intro D V zw1 a hR hI K hK;obtain ⟨hM1, hB1, hG1⟩ := hI.1;have zd14 := hR.pred 14 (by kernel_rfl);have zf14 : V 14 = .bool true := hI.2 14 zd14 rfl;have ze9 := hR.frame.other (t := 9) (by kernel_rfl) rfl;have ze191 := hR.frame.done (t := 191) (j := 14) (by kernel_rfl) hR.ok zd14;rw [if_pos (by simp [Region.wanted, yielded, ze191, zf14])];go_simp;exact hK (.pointer (some ⟨g', 0, none⟩)) _ (hI.next hR (by kernel_rfl) (Mod.refl _ _) (PB.quiet hI.1 (Mod.refl _ _) (HGs.out D 17 zw1 zw1 (hI.1).g (Mod.refl _ _))) (upd_same V 17 _))
      ·intro D V zw1 a hR hI K hK;obtain ⟨hM1, hB1, hG1⟩ := hI.1;have zd17 := hR.pred 17 (by kernel_rfl);have zf17 : V 17 = .pointer (some ⟨g', 0, none⟩) := hI.2 17 zd17 rfl;have zd14 := hR.pred 14 (by kernel_rfl);have zf14 : V 14 = .bool true := hI.2 14 zd14 rfl;have ze194 := hR.frame.done (t := 194) (j := 17) (by kernel_rfl) hR.ok zd17;have ze191 := hR.frame.done (t := 191) (j := 14) (by kernel_rfl) hR.ok zd14;rw [if_pos (by simp [Region.wanted, yielded, ze191, zf14])];go_simp;refine (HLR.out zw1 hM1).mono ?_;rintro e zw2 ⟨A_0, c_0, rfl, hown2, hm2⟩;exact hK (.slice A_0 LL.length c_0) _ (hI.next hR (by kernel_rfl) hm2 (PB.quiet hI.1 hm2 (HGs.out D 18 _ _ (hI.1).g hm2)) (⟨A_0, c_0, upd_same V 18 _, (Sl.of_own hown2)⟩))
      ·intro D V zw1 a hR hI K hK;obtain ⟨hM1, hB1, hG1⟩ := hI.1;have zd16 := hR.pred 16 (by kernel_rfl);have zF16 : ∃ (A_16 : Option Addr) (c_16 : Nat), V 16 = .slice A_16 LL.length c_16 ∧ SlT zw1 (.slice A_16 LL.length c_16) LL := hI.2 16 zd16 (by show (!D 19) = true; rw [hR.not]; rfl);obtain ⟨A_16, c_16, zf16, b16_0⟩ := zF16;have zd18 := hR.pred 18 (by kernel_rfl);have zF18 : ∃ (A_18 : Option Addr) (c_18 : Nat), V 18 = .slice A_18 LL.length c_18 ∧ SlT zw1 (.slice A_18 LL.length c_18) LL := hI.2 18 zd18 (by show (!D 19) = true; rw [hR.not]; rfl);obtain ⟨A_18, c_18, zf18, b18_0⟩ := zF18;have zd14 := hR.pred 14 (by kernel_rfl);have zf14 : V 14 = .bool true := hI.2 14 zd14 rfl;have ze193 := hR.frame.done (t := 193) (j := 16) (by kernel_rfl) hR.ok zd16;have ze195 := hR.frame.done (t := 195) (j := 18) (by kernel_rfl) hR.ok zd18;have ze191 := hR.frame.done (t := 191) (j := 14) (by kernel_rfl) hR.ok zd14;rw [if_pos (by simp [Region.wanted, yielded, ze191, zf14])];go_simp;refine (HLQ.out zw1 _ _ b16_0 b18_0).mono ?_;rintro e zw2 ⟨rfl, hm2⟩;exact hK (.bool true) _ (hI.next hR (by kernel_rfl) hm2 (PB.quiet hI.1 hm2 (HGs.out D 19 _ _ (hI.1).g hm2)) (upd_same V 19 _))
      ·intro D V zw1 a hR hI K hK;obtain ⟨hM1, hB1, hG1⟩ := hI.1;have zd14 := hR.pred 14 (by kernel_rfl);have zf14 : V 14 = .bool true := hI.2 14 zd14 rfl;have zd19 := hR.pred 19 (by kernel_rfl);have zf19 : V 19 = .bool true := hI.2 19 zd19 rfl;have ze191 := hR.frame.done (t := 191) (j := 14) (by kernel_rfl) hR.ok zd14;have ze196 := hR.frame.done (t := 196) (j := 19) (by kernel_rfl) hR.ok zd19;rw [if_pos (by rfl)];go_simp;exact hK (.bool true) _ (hI.next hR (by kernel_rfl) (Mod.refl _ _) (PB.quiet hI.1 (Mod.refl _ _) (HGs.out D 20 zw1 zw1 (hI.1).g (Mod.refl _ _))) (upd_same V 20 _))
      ·intro D V zw1 a hR hI K hK;obtain ⟨hM1, hB1, hG1⟩ := hI.1;have zd20 := hR.pred 20 (by kernel_rfl);have zf20 : V 20 = .bool true := hI.2 20 zd20 rfl;have ze197 := hR.frame.done (t := 197) (j := 20) (by kernel_rfl) hR.ok zd20;rw [if_pos (by rfl)];go_simp;exact hK (.bool true) _ (hI.next hR (by kernel_rfl) (Mod.refl _ _) (PB.quiet hI.1 (Mod.refl _ _) (HGs.out D 21 zw1 zw1 (hI.1).g (Mod.refl _ _))) (upd_same V 21 _))
      ·intro D V zw1 a hR hI K hK;obtain ⟨hM1, hB1, hG1⟩ := hI.1;have zd21 := hR.pred 21 (by kernel_rfl);have zf21 : V 21 = .bool true := hI.2 21 zd21 rfl;have ze198 := hR.frame.done (t := 198) (j := 21) (by kernel_rfl) hR.ok zd21;rw [if_pos (by simp [Region.wanted, yielded, ze198, zf21])];go_simp;refine (HDE.out zw1 hM1).mono ?_;rintro e zw2 ⟨rfl, hm2⟩;exact hK (.bool true) _ (hI.next hR (by kernel_rfl) hm2 (PB.quiet hI.1 hm2 (HGs.out D 22 _ _ (hI.1).g hm2)) (upd_same V 22 _))
      ·intro D V zw1 a hR hI K hK;obtain ⟨hM1, hB1, hG1⟩ := hI.1;have zd21 := hR.pred 21 (by kernel_rfl);have zf21 : V 21 = .bool true := hI.2 21 zd21 rfl;have zd22 := hR.pred 22 (by kernel_rfl);have zf22 : V 22 = .bool true := hI.2 22 zd22 rfl;have ze198 := hR.frame.done (t := 198) (j := 21) (by kernel_rfl) hR.ok zd21;have ze199 := hR.frame.done (t := 199) (j := 22) (by kernel_rfl) hR.ok zd22;rw [if_pos (by rfl)];go_simp;exact hK (.bool true) _ (hI.next hR (by kernel_rfl) (Mod.refl _ _) (PB.quiet hI.1 (Mod.refl _ _) (HGs.out D 23 zw1 zw1 (hI.1).g (Mod.refl _ _))) (upd_same V 23 _))
      ·intro D V zw1 a hR hI K hK;obtain ⟨hM1, hB1, hG1⟩ := hI.1;have zd23 := hR.pred 23 (by kernel_rfl);have zf23 : V 23 = .bool true := hI.2 23 zd23 rfl;have ze200 := hR.frame.done (t := 200) (j := 23) (by kernel_rfl) hR.ok zd23;rw [if_pos (by rfl)];go_simp;exact hK (.bool true) _ (hI.next hR (by kernel_rfl) (Mod.refl _ _) (PB.quiet hI.1 (Mod.refl _ _) (HGs.out D 24 zw1 zw1 (hI.1).g (Mod.refl _ _))) (upd_same V 24 _))
     ·intro D V w7 hD hI;obtain ⟨hM1, hB1, hG1⟩ := hI.1;have hMx := hM1;clear hM1;have hBx := hB1;clear hB1;have hGx := hG1;clear hG1;have zf0 : V 0 = .pointer (some ⟨g, 0, none⟩) := hI.2 0 (hD 0 (by decide)) rfl;have zf2 : V 2 = .pointer (some ⟨g', 0, none⟩) := hI.2 2 (hD 2 (by decide)) rfl;have zf3 : V 3 = .pointer (some ⟨g', 0, none⟩) := hI.2 3 (hD 3 (by decide)) rfl;have zf4 : V 4 = .pointer (some ⟨g', 2, none⟩) := hI.2 4 (hD 4 (by decide)) rfl;have zf5 : V 5 = .slice BA bts.length bc := hI.2 5 (hD 5 (by decide)) rfl;have zf6 : V 6 = .bool true := hI.2 6 (hD 6 (by decide)) rfl;have zf7 : V 7 = .bool true := hI.2 7 (hD 7 (by decide)) rfl;have zf8 : V 8 = .pointer (some ⟨g, 0, none⟩) := hI.2 8 (hD 8 (by decide)) rfl;have zf9 : V 9 = .agg #[.int .i64 (n0 : Int), .int .i64 (n1 : Int), .int .i64 (n2 : Int), .int .i64 (n3 : Int)] := hI.2 9 (hD 9 (by decide)) rfl;have zf10 : V 10 = .pointer (some ⟨g', 0, none⟩) := hI.2 10 (hD 10 (by decide)) rfl;have zf11 : V 11 = .agg #[.int .i64 (n0 : Int), .int .i64 (n1 : Int), .int .i64 (n2 : Int), .int .i64 (n3 : Int)] := hI.2 11 (hD 11 (by decide)) rfl;have zf12 : V 12 = .bool true := hI.2 12 (hD 12 (by decide)) rfl;have zf13 : V 13 = .bool true := hI.2 13 (hD 13 (by decide)) rfl;have zf14 : V 14 = .bool true := hI.2 14 (hD 14 (by decide)) rfl;have zf15 : V 15 = .pointer (some ⟨g, 0, none⟩) := hI.2 15 (hD 15 (by decide)) rfl;have zf17 : V 17 = .pointer (some ⟨g', 0, none⟩) := hI.2 17 (hD 17 (by decide)) rfl;have zf19 : V 19 = .bool true := hI.2 19 (hD 19 (by decide)) rfl;have zf20 : V 20 = .bool true := hI.2 20 (hD 20 (by decide)) rfl;have zf21 : V 21 = .bool true := hI.2 21 (hD 21 (by decide)) rfl;have zf22 : V 22 = .bool true := hI.2 22 (hD 22 (by decide)) rfl;have zf23 : V 23 = .bool true := hI.2 23 (hD 23 (by decide)) rfl;have zf24 : V 24 = .bool true := hI.2 24 (hD 24 (by decide)) rfl;clear hI hD HGs;simp only [frAll, Act.put, List.setIfInBounds_toArray, List.set_cons_zero, List.set_cons_succ, Nat.zero_add, Nat.reduceAdd, zf0, zf2, zf3, zf4, zf5, zf6, zf7, zf8, zf9, zf10, zf11, zf12, zf13, zf14, zf15, zf17, zf19, zf20, zf21, zf22, zf23, zf24];clear zf0 zf2 zf3 zf4 zf5 zf6 zf7 zf8 zf9 zf10 zf11 zf12 zf13 zf14 zf15 zf17 zf19 zf20 zf21 zf22 zf23 zf24;generalize V 1 = u1;generalize V 16 = u16;generalize V 18 = u18;clear V D;have HPF := Lib.hid (HP.out.trans hMx);clear hMx hGx hBx HLL HLR HPA HPB HBA HEQ HDE HBR HBT HLQ
      go_wp2_with fail
      go_ret;exact BoolPost.of rfl HPF.out
end Go.Proofs.YtgfgggeeoeppjaaGreatDoor
/-
 DERIVED: THE SHELF's CONTRACTS AT THIS DUMP, IN PLAIN WORDS (tools/lay-plain.mjs out of 'YtgfgggeeoeppjaaGreatDoorLayM6.lean', which tools/lay-shelf.mjs wrote): THE SAME DECLARATIONS UNDER THE SAME NAMES: 'import', 'namespace', 'open', 'def', 'theorem' AND NOTHING ELSE: no command of the shelf's: FOR A HAND-IN. Each laying: the table of numbers ('.._ren') and one theorem, a field a fact of the dump's own or the kernel's comparison; each contract: ONE APPLICATION.
-/
namespace Go.Proofs
open Go.Shelf
def Tryz.laysM146_ren : Go.Shelf.Ren := ⟨fun | 146 => 96 | 221 => 156 | 268 => 186 | 138 => 90 | 143 => 149 | 195 => 147 | 197 => 238 | 218 => 148 | 219 => 183 | 260 => 264 | 217 => 184 | 225 => 234 | 224 => 235 | 267 => 236 | 266 => 237 | 314 => 263 | n => n, fun | 9 => 9 | 31 => 29 | 3 => 3 | 4 => 4 | 0 => 0 | 105 => 270 | 21 => 21 | 5 => 5 | 46 => 210 | 119 => 227 | 139 => 263 | 138 => 262 | 146 => 232 | 51 => 231 | n => n, fun | 1 => 0 | 3 => 2 | 4 => 3 | n => n⟩
theorem Tryz.laysM146 : Go.Proofs.LaysM.n146 Tryz.prog Tryz.laysM146_ren := {
 mixed := by kernel_rfl
 f138 := Tryz.func90.trans (congrArg some (by kernel_rfl))
 f143 := Tryz.func149.trans (congrArg some (by kernel_rfl))
 f146 := Tryz.func96.trans (congrArg some (by kernel_rfl))
 f195 := Tryz.func147.trans (congrArg some (by kernel_rfl))
 f197 := Tryz.func238.trans (congrArg some (by kernel_rfl))
 f217 := Tryz.func184.trans (congrArg some (by kernel_rfl))
 f218 := Tryz.func148.trans (congrArg some (by kernel_rfl))
 f219 := Tryz.func183.trans (congrArg some (by kernel_rfl))
 f221 := Tryz.func156.trans (congrArg some (by kernel_rfl))
 f224 := Tryz.func235.trans (congrArg some (by kernel_rfl))
 f225 := Tryz.func234.trans (congrArg some (by kernel_rfl))
 f260 := Tryz.func264.trans (congrArg some (by kernel_rfl))
 f266 := Tryz.func237.trans (congrArg some (by kernel_rfl))
 f267 := Tryz.func236.trans (congrArg some (by kernel_rfl))
 f268 := Tryz.func186.trans (congrArg some (by kernel_rfl))
 f314 := Tryz.func263.trans (congrArg some (by kernel_rfl))
 t0 := Tryz.underlying0
 a0 := Tryz.isAgg0
 z0 := Tryz.sizeOf0
 v0 := Tryz.zeroValue0
 t3 := Tryz.underlying3
 a3 := Tryz.isAgg3
 z3 := Tryz.sizeOf3
 v3 := Tryz.zeroValue3
 t4 := Tryz.underlying4
 a4 := Tryz.isAgg4
 z4 := Tryz.sizeOf4
 v4 := Tryz.zeroValue4
 t5 := Tryz.underlying5
 a5 := Tryz.isAgg5
 z5 := Tryz.sizeOf5
 v5 := Tryz.zeroValue5
 t9 := Tryz.underlying9
 a9 := Tryz.isAgg9
 z9 := Tryz.sizeOf9
 v9 := Tryz.zeroValue9
 t21 := Tryz.underlying21
 a21 := Tryz.isAgg21
 z21 := Tryz.sizeOf21
 v21 := Tryz.zeroValue21
 t31 := Tryz.underlying29
 a31 := Tryz.isAgg29
 z31 := Tryz.sizeOf29
 v31 := Tryz.zeroValue29
 t46 := Tryz.underlying210
 a46 := Tryz.isAgg210
 z46 := Tryz.sizeOf210
 v46 := Tryz.zeroValue210
 t51 := Tryz.underlying231
 a51 := Tryz.isAgg231
 z51 := Tryz.sizeOf231
 v51 := Tryz.zeroValue231
 t105 := Tryz.underlying270
 a105 := Tryz.isAgg270
 z105 := Tryz.sizeOf270
 v105 := Tryz.zeroValue270
 t119 := Tryz.underlying227
 a119 := Tryz.isAgg227
 z119 := Tryz.sizeOf227
 t138 := Tryz.underlying262
 a138 := Tryz.isAgg262
 z138 := Tryz.sizeOf262
 v138 := Tryz.zeroValue262
 t139 := Tryz.underlying263
 a139 := Tryz.isAgg263
 z139 := Tryz.sizeOf263
 v139 := Tryz.zeroValue263
 t146 := Tryz.underlying232
 a146 := Tryz.isAgg232
 z146 := Tryz.sizeOf232
 v146 := Tryz.zeroValue232
 g1 := by kernel_rfl
 g3 := by kernel_rfl
 g4 := by kernel_rfl
 i0 := by kernel_rfl
 i3 := by kernel_rfl
 i4 := by kernel_rfl
 i5 := by kernel_rfl
 i9 := by kernel_rfl
 i21 := by kernel_rfl
 i31 := by kernel_rfl
 i46 := by kernel_rfl
 i51 := by kernel_rfl
 i105 := by kernel_rfl
 i138 := by kernel_rfl
 i139 := by kernel_rfl
 i146 := by kernel_rfl
 m1 := by kernel_rfl
 s1_3 := fun w h => Go.Proofs.cell_of_shapedOpen_int (zero := #[.int .i64 0]) (t := 3) h (of_decide_eq_true (by kernel_rfl)) (by kernel_rfl) rfl (by kernel_rfl) (by kernel_rfl) Tryz.underlying3
 m3 := by kernel_rfl
 m4 := by kernel_rfl }
end Go.Proofs
/- What the listed variables of the review laws hold. -/
namespace Go.Proofs.YtgfgggeeoeppjaaGreatDoor
open Go.RowKit
def litZv : DataW Unit → Int
 | .lit (.int _ n) => n
 | _ => 0
def litsZv : DataW Unit → List Int
 | .agg ps => ps.map litZv
 | _ => []
abbrev laidV : List (String × DataW Unit) := [("unicode/utf8.acceptRanges", Rows.laid_unicode_utf8_acceptRanges), ("unicode.White_Space", Rows.laid_unicode_White_Space), ("strings.asciiSpace", Rows.laid_strings_asciiSpace), ("unicode/utf8.first", Rows.laid_unicode_utf8_first)]
theorem ascZ : litsZv Rows.laid_strings_asciiSpace = Lib.asciiSpaceTab := by kernel_rfl
theorem asc_of {W : World} (hL : laidMet Tryz.prog laidV W) : Asc W := by
 have h1 := Lib.tabIs_of_head (k := .u8) (zs := litsZv Rows.laid_strings_asciiSpace) (g := 1) (name := "strings.asciiSpace") (P := Tryz.prog) (W := W) (n := 256) (t := 227) (e := 5) (by kernel_rfl) (by kernel_rfl) (by kernel_rfl) (by kernel_rfl) (by kernel_rfl) (by kernel_rfl) hL.tail.tail;rw [ascZ] at h1;exact h1
theorem mlns_of {W : World} (h : W.ShapedOpen Tryz.prog) : MlnS W := Tryz.laysM146.s1_3 W h
end Go.Proofs.YtgfgggeeoeppjaaGreatDoor
/-
 DERIVED: THE SHELF's CONTRACTS AT THIS DUMP, IN PLAIN WORDS (tools/lay-plain.mjs out of 'YtgfgggeeoeppjaaGreatDoorLayM1.lean', which tools/lay-shelf.mjs wrote): THE SAME DECLARATIONS UNDER THE SAME NAMES: 'import', 'namespace', 'open', 'def', 'theorem' AND NOTHING ELSE: no command of the shelf's: FOR A HAND-IN. Each laying: the table of numbers ('.._ren') and one theorem, a field a fact of the dump's own or the kernel's comparison; each contract: ONE APPLICATION.
-/
namespace Go.Proofs
open Go.Shelf
def Tryz.laysM144_ren : Go.Shelf.Ren := ⟨fun | 144 => 174 | 143 => 149 | 219 => 183 | 217 => 184 | 225 => 234 | 224 => 235 | 267 => 236 | 266 => 237 | 314 => 263 | n => n, fun | 9 => 9 | 4 => 4 | 3 => 3 | 5 => 5 | 46 => 210 | 146 => 232 | 51 => 231 | n => n, fun | 1 => 0 | n => n⟩
theorem Tryz.laysM144 : Go.Proofs.LaysM.n144 Tryz.prog Tryz.laysM144_ren := {
 mixed := by kernel_rfl
 f143 := Tryz.func149.trans (congrArg some (by kernel_rfl))
 f144 := Tryz.func174.trans (congrArg some (by kernel_rfl))
 f217 := Tryz.func184.trans (congrArg some (by kernel_rfl))
 f219 := Tryz.func183.trans (congrArg some (by kernel_rfl))
 f224 := Tryz.func235.trans (congrArg some (by kernel_rfl))
 f225 := Tryz.func234.trans (congrArg some (by kernel_rfl))
 f266 := Tryz.func237.trans (congrArg some (by kernel_rfl))
 f267 := Tryz.func236.trans (congrArg some (by kernel_rfl))
 f314 := Tryz.func263.trans (congrArg some (by kernel_rfl))
 t3 := Tryz.underlying3
 a3 := Tryz.isAgg3
 z3 := Tryz.sizeOf3
 v3 := Tryz.zeroValue3
 t4 := Tryz.underlying4
 a4 := Tryz.isAgg4
 z4 := Tryz.sizeOf4
 v4 := Tryz.zeroValue4
 t5 := Tryz.underlying5
 a5 := Tryz.isAgg5
 z5 := Tryz.sizeOf5
 v5 := Tryz.zeroValue5
 t9 := Tryz.underlying9
 a9 := Tryz.isAgg9
 z9 := Tryz.sizeOf9
 v9 := Tryz.zeroValue9
 t46 := Tryz.underlying210
 a46 := Tryz.isAgg210
 z46 := Tryz.sizeOf210
 v46 := Tryz.zeroValue210
 t51 := Tryz.underlying231
 a51 := Tryz.isAgg231
 z51 := Tryz.sizeOf231
 v51 := Tryz.zeroValue231
 t146 := Tryz.underlying232
 a146 := Tryz.isAgg232
 z146 := Tryz.sizeOf232
 v146 := Tryz.zeroValue232
 g1 := by kernel_rfl
 i3 := by kernel_rfl
 i4 := by kernel_rfl
 i5 := by kernel_rfl
 i9 := by kernel_rfl
 i46 := by kernel_rfl
 i51 := by kernel_rfl
 i146 := by kernel_rfl
 m1 := by kernel_rfl
 s1_3 := fun w h => Go.Proofs.cell_of_shapedOpen_int (zero := #[.int .i64 0]) (t := 3) h (of_decide_eq_true (by kernel_rfl)) (by kernel_rfl) rfl (by kernel_rfl) (by kernel_rfl) Tryz.underlying3 }
end Go.Proofs
/- The list of the review laws, where the items' checks are reached too. -/
namespace Go.Proofs.YtgfgggeeoeppjaaGreatDoor
open Go.RowKit
theorem dFirstV : Rows.laid_unicode_utf8_first = Lib.firstData := by kernel_rfl
theorem dAcceptV : (Rows.laid_unicode_utf8_acceptRanges : DataW Unit) = Lib.acceptData := by kernel_rfl
theorem utfV_of {W : World} (hL : laidMet Tryz.prog laidV W) : Utf W :=
 utf8Tabs_of_readsT (ρ := Tryz.lays196_ren) (U8Types.of196 Tryz.lays196) ⟨by kernel_rfl, by kernel_rfl, by kernel_rfl, by kernel_rfl, by kernel_rfl, by kernel_rfl, by kernel_rfl⟩
  (dFirstV ▸ Lib.laidMet.reads hL (by simp [laidV])) (dAcceptV ▸ Lib.laidMet.reads hL (by simp [laidV]))
theorem mlnV_of {W : World} (h : W.ShapedOpen Tryz.prog) : Mln W := Tryz.laysM144.s1_3 W h
theorem envV_of {W : World} (hL : laidMet Tryz.prog laidV W) (h : W.ShapedOpen Tryz.prog) : Env W := ⟨utfV_of hL, mlnV_of h⟩
end Go.Proofs.YtgfgggeeoeppjaaGreatDoor
