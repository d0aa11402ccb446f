/- Texts of the proof of LayoutTexts, put together: RdE. -/
import Derived.Test.YtaidkmnbjbnciaaGreatDoorLayoutTextsZ33
import Derived.Test.YtaidkmnbjbnciaaGreatDoorLayoutTextsZ35
/- The closure of ReadLayout, for any words. -/
namespace Go.Proofs.YtaidkmnbjbnciaaGreatDoor
set_option linter.unusedVariables false
set_option linter.unusedSimpArgs false
open Go.RowKit

theorem info_rule : (Tryz.prog.info? 103).map (fun i => (i.zero, i.size, i.bytes)) = some (some (.agg #[.int .i64 0, .string ⟨#[]⟩, .string ⟨#[]⟩, .string ⟨#[]⟩, .string ⟨#[]⟩]), 5, 72) := by kernel_rfl
/-- What lies in the layout block while lines are read. -/
def RdI (base gl : Nat) (k : Nat) (S : RdS) (W : World) : Prop := ∃ (A : Option Addr) (c : Nat) (A2 : Option Addr) (c2 : Nat) (al : List AskR),
 Blk W gl 29 #[.slice A al.length c, .slice A2 S.rules.length c2] ∧ W.ownsRow base 99 4 (.slice A al.length c) al.length (askV al) ∧ W.ownsRow base 103 5 (.slice A2 S.rules.length c2) S.rules.length (rulV S.rules) ∧ AskS W al ∧ al.map AskR.q = S.asks ∧ al.length + S.rules.length ≤ k ∧ base ≤ gl
theorem RdI.pure {base gl k : Nat} {S : RdS} {W W' : World} (h : RdI base gl k S W) (hm : Pure W W') : RdI base gl k S W' := by
 obtain ⟨A, c, A2, c2, al, h1, h2, h3, h4, h5, h6, h7⟩ := h
 exact ⟨A, c, A2, c2, al, h1.modp hm, own_pure h2 hm, own_pure h3 hm, h4.pure hm, h5, h6, h7⟩
theorem KeepS.of_one {base gl : Nat} {W W' : World} (h : Mod (· = gl) W W') (hb : base ≤ gl) {t : TypeId} {c : Array Value} (hB : Blk W gl t c) (hne : t ≠ 9) : KeepS base W W' :=
 h.mono (fun k hk => by subst hk; exact ⟨hb, fun ⟨arr, fr, hs⟩ => by unfold Blk at hB; rw [hB] at hs; cases hs; exact hne rfl⟩)
theorem KeepS.grown {base : Nat} {W W' : World} {t : TypeId} {size n : Nat} {v : Value} {xs : List Value} (h : W.ownsRow base t size v n xs) (hg : W.grownBy W' v.ownBlock) (hne : t ≠ 9) : KeepS base W W' :=
 (mod_grown hg).mono (fun k hk => ⟨own_block h k hk, fun ⟨arr, fr, hs⟩ => hne (own_ty h hk hs).symm⟩)
theorem rul_not_ask {ws : List Str} {q : AskQ} (h : askRd ws = some q) : rulRd ws = none := by
 unfold askRd at h
 split at h
 ·rename_i h1
  unfold rulRd
  rw [if_neg]
  rintro ⟨_, h2, _⟩
  rw [h1.2.1] at h2
  exact absurd h2 (by decide)
 ·cases h
/-- A row of asks behind the growth of another row. -/
theorem AskS.grown {W W' : World} {al : List AskR} {base size n : Nat} {t : TypeId} {v : Value} {xs : List Value} (h : AskS W al) (k : W.ownsRow base t size v n xs) (hne : t ≠ 9) (hg : W.grownBy W' v.ownBlock) : AskS W' al :=
 fun x hx => (h x hx).grown k hg (Ne.symm hne)

set_option maxRecDepth 100000 in
set_option maxHeartbeats 16000000 in
theorem rlG_calls (w : World) (base gl k : Nat) (S : RdS) (g : Nat) (ws : List Str) (hk : k ≤ 100000) (hA : Asc w) (hI : RdI base gl k S w) (hB : Blk w g 9 (strsV ws).toArray) (hn : ws.length ≤ 100001) :
  Calls Tryz.prog 70 #[.slice (some ⟨g, 0, none⟩) ws.length ws.length, .pointer (some ⟨gl, 0, none⟩)] w (TkPost base (RdI base gl (k + 1)) (tkL S ws) w) := by
 have HAL := Lib.hid (askLineG_calls w g ws.length ws rfl hB hn hA)
 obtain ⟨A0, c0, A2, c2, al, h1, h2, h3, h4, h5, h6, h7⟩ := hI
 obtain ⟨qs, rs⟩ := S
 simp only at h1 h2 h3 h5 h6
 obtain ⟨n2, hn2⟩ : ∃ n2, rs.length = n2 := ⟨_, rfl⟩
 rw [hn2] at h1 h3 h6
 obtain ⟨n0, hn0⟩ : ∃ n0, al.length = n0 := ⟨_, rfl⟩
 rw [hn0] at h1 h2 h6
 have HB := Lib.hid h1
 have HO := Lib.hid h2
 have HP := Lib.hid h3
 have HSA := Lib.hid h4
 have HQ := Lib.hid h5
 have HN2 := Lib.hid hn2
 have HN0 := Lib.hid hn0
 have HW := Lib.hid hB
 have hglw := h1.lt
 have hgw := hB.lt
 have HRU := Lib.hid (fun W (h : Pure w W) => ruleLineG_calls W g ws.length ws rfl (hB.modp h) hn)
 clear hA hB h1 h2 h3 h4 h5 hn2 hn0
 generalize ws.length = wn at *
 go_enter Tryz.func70, Tryz.ntmps70
 go_wp2_with fail
 refine HAL.out.mono ?_
 rintro e w1 ⟨x, ok, rfl, hok, hq, hs, hm⟩
 have hz := hm.size
 have HOK := Lib.hid hok
 have HXQ := Lib.hid hq
 have hpa : Pure w (w1.alloc (.cells #[.string ⟨x.field.toArray⟩, .slice x.A x.ch.length x.c, .bool x.many, .int .i64 x.spread] 99)) := hm.alloc _
 have HB2 := Lib.hid (HB.out.modp hpa)
 have HX2 := Lib.hid (Blk.new w1 99 #[.string ⟨x.field.toArray⟩, .slice x.A x.ch.length x.c, .bool x.many, .int .i64 x.spread])
 have HO2 := Lib.hid (own_pure HO.out hpa)
 have HP2 := Lib.hid (own_pure HP.out hpa)
 have HSA2 := Lib.hid (HSA.out.pure hpa)
 have HS2 := Lib.hid (hs.pure (pure_alloc w1 (.cells #[.string ⟨x.field.toArray⟩, .slice x.A x.ch.length x.c, .bool x.many, .int .i64 x.spread] 99)))
 have HM2 := Lib.hid hpa
 have hz2' : (w1.alloc (.cells #[.string ⟨x.field.toArray⟩, .slice x.A x.ch.length x.c, .bool x.many, .int .i64 x.spread] 99)).heap.size = w1.heap.size + 1 := by simp
 clear hs hm HAL HB HO HP HSA hok hq hpa HW
 go_upto_region 2 with (fail)
 generalize (w1.alloc (.cells #[.string ⟨x.field.toArray⟩, .slice x.A x.ch.length x.c, .bool x.many, .int .i64 x.spread] 99)) = W at *
 generalize w1.heap.size = g4 at *
 have hz2a := Nat.le_of_eq hz2'
 have hz2b := Nat.le_of_eq hz2'.symm
 clear hz2'
 have HRX := Lib.hid (HRU.out W HM2.out)
 clear HRU
 have hB2 := HB2.out
 have x0 := hB2.cell 0; have x1 := hB2.cell 1; simp at x0 x1
 clear hB2
 go_cut [19] (fun p wx => p = .bool (ok && decide (n2 = 0)) ∧ wx = W)
 case first =>
  cases ok
  ·clear HB2 HX2 HO2 HP2 HSA2 HS2 HRX HOK HXQ
   go_wp2_with fail
   go_meet
   exact ⟨rfl, rfl⟩
  ·clear HB2 HX2 HO2 HP2 HSA2 HS2 HRX HOK HXQ
   by_cases hz0 : n2 = 0
   ·subst hz0
    go_wp2_with fail
    go_meet
    exact ⟨rfl, rfl⟩
   ·have hz1 : ((n2 : Int) == 0) = false := by rw [← Bool.not_eq_true, beq_iff_eq]; omega
    go_wp2_with fail
    go_meet
    exact ⟨by simp [hz0], rfl⟩
 case rest =>
  obtain ⟨rfl, rfl⟩ := hcut
  have hX2 := HX2.out
  have y0 := hX2.cell 0; have y1 := hX2.cell 1; have y2 := hX2.cell 2; have y3 := hX2.cell 3; simp at y0 y1 y2 y3
  clear hX2
  cases hb : (ok && decide (n2 = 0))
  ·have HTK : Hid (tkL ⟨qs, rs⟩ ws = (rulRd ws).map fun r => ⟨qs, rs ++ [r]⟩) := Lib.hid (by
    unfold tkL
    cases ha : askRd ws with
    | none => cases rulRd ws <;> rfl
    | some q =>
     have h1 : ok = true := by rw [HOK.out, ha]; rfl
     have h2 : n2 ≠ 0 := by intro h; rw [h1, h] at hb; simp at hb
     have h3 : ¬ rs = [] := fun h => h2 (by rw [← HN2.out, h]; rfl)
     rw [rul_not_ask ha]
     simp only
     rw [if_neg h3]
     rfl)
   clear hb HOK HXQ HX2 HS2 y0 y1 y2 y3
   generalize tkL ⟨qs, rs⟩ ws = o at *
   go_wp2_with fail
   refine HRX.out.mono ?_
   rintro e w6 ⟨x6, ok6, rfl, hok, hq, hm⟩
   have hz6 := hm.size
   have hpa : Pure w (w6.alloc (.cells #[.int .i64 x6.kind, .string ⟨x6.field.toArray⟩, .string ⟨x6.ifs.toArray⟩, .string ⟨x6.other.toArray⟩, .string ⟨x6.thn.toArray⟩] 103)) := (HM2.out.trans hm).alloc _
   have hpb : Pure wc (w6.alloc (.cells #[.int .i64 x6.kind, .string ⟨x6.field.toArray⟩, .string ⟨x6.ifs.toArray⟩, .string ⟨x6.other.toArray⟩, .string ⟨x6.thn.toArray⟩] 103)) := hm.alloc _
   have HOK := Lib.hid hok
   have HXQ := Lib.hid hq
   have HB3 := Lib.hid (HB2.out.modp hpb)
   have HX3 := Lib.hid (Blk.new w6 103 #[.int .i64 x6.kind, .string ⟨x6.field.toArray⟩, .string ⟨x6.ifs.toArray⟩, .string ⟨x6.other.toArray⟩, .string ⟨x6.thn.toArray⟩])
   have HO3 := Lib.hid (own_pure HO2.out hpb)
   have HP3 := Lib.hid (own_pure HP2.out hpb)
   have HSA3 := Lib.hid (HSA2.out.pure hpb)
   have HM3 := Lib.hid hpa
   have hz3' : (w6.alloc (.cells #[.int .i64 x6.kind, .string ⟨x6.field.toArray⟩, .string ⟨x6.ifs.toArray⟩, .string ⟨x6.other.toArray⟩, .string ⟨x6.thn.toArray⟩] 103)).heap.size = w6.heap.size + 1 := by simp
   clear hok hq hm hpa hpb HRX HB2 HO2 HP2 HSA2 HM2 x0 x1
   cases ok6
   ·have HF1 : Hid (o = none) := Lib.hid (by
     rw [HTK.out]
     cases hr : rulRd ws with
     | none => rfl
     | some r => have := HOK.out; rw [hr] at this; cases this)
    clear HTK HOK HXQ HB3 HX3 HO3 HP3 HSA3
    go_wp2_with fail
    go_ret
    rw [HF1.out]
    exact ⟨rfl, KeepS.of_pure HM3.out, fun S' h => by cases h⟩
   ·have HF1 : Hid (o = some ⟨qs, rs ++ [x6]⟩) := Lib.hid (by
     rw [HTK.out]
     cases hr : rulRd ws with
     | none => have := HOK.out; rw [hr] at this; cases this
     | some r => rw [HXQ.out r hr]; rfl)
    clear HTK HOK HXQ
    go_upto_region 7 with (fail)
    generalize (w6.alloc (.cells #[.int .i64 x6.kind, .string ⟨x6.field.toArray⟩, .string ⟨x6.ifs.toArray⟩, .string ⟨x6.other.toArray⟩, .string ⟨x6.thn.toArray⟩] 103)) = W3 at *
    generalize w6.heap.size = g6 at *
    have hz3a := Nat.le_of_eq hz3'
    have hz3b := Nat.le_of_eq hz3'.symm
    clear hz3'
    have hB3 := HB3.out
    have hX3 := HX3.out
    have x0 := hB3.cell 0; have x1 := hB3.cell 1; simp at x0 x1
    have y0 := hX3.cell 0; have y1 := hX3.cell 1; have y2 := hX3.cell 2; have y3 := hX3.cell 3; have y4 := hX3.cell 4; simp at y0 y1 y2 y3 y4
    clear hB3 hX3
    obtain ⟨i0, hi0, hz0, hz1, hz2⟩ := info_parts info_rule
    have hownS := HP3.out
    have hmS := HM3.out
    go_wp2_with ((at_builtin; refine wpList_append_lies _ rfl _ _ _ rfl base 103 i0 _ 5 72 Tryz.underlying27 hi0 hz0 hz1 hz2 rfl (by omega) (.slice A2 n2 c2) n2 (rulV rs) rfl (hownS.alloc _) ⟨W3.heap.size, 0, none⟩ 1 1 [.int .i64 x6.kind, .string ⟨x6.field.toArray⟩, .string ⟨x6.ifs.toArray⟩, .string ⟨x6.other.toArray⟩, .string ⟨x6.thn.toArray⟩] rfl rfl (World.news_of_block (cs := #[.int .i64 x6.kind, .string ⟨x6.field.toArray⟩, .string ⟨x6.ifs.toArray⟩, .string ⟨x6.other.toArray⟩, .string ⟨x6.thn.toArray⟩]) (t := 103) (fr := (0, 0)) (heap_alloc_new W3 _)) (by simp [Value.oneCell']) (by omega) (by simp [maxLen]; omega) (by omega) (by have := hmS.size; simp; omega) (W3.heap.size + 1) (by simp) ?_; intro g5 cap5 w5 hown5 hgrow hat hlt5); have hB6 := (HB3.out.alloc (.cells #[.int .i64 x6.kind, .string ⟨x6.field.toArray⟩, .string ⟨x6.ifs.toArray⟩, .string ⟨x6.other.toArray⟩, .string ⟨x6.thn.toArray⟩] 103)).mod (mod_grown hgrow) (fun hv => by have h2 := HB3.out.alloc (.cells #[.int .i64 x6.kind, .string ⟨x6.field.toArray⟩, .string ⟨x6.ifs.toArray⟩, .string ⟨x6.other.toArray⟩, .string ⟨x6.thn.toArray⟩] 103); unfold Blk at h2; exact absurd (own_ty (HP3.out.alloc (.cells #[.int .i64 x6.kind, .string ⟨x6.field.toArray⟩, .string ⟨x6.ifs.toArray⟩, .string ⟨x6.other.toArray⟩, .string ⟨x6.thn.toArray⟩] 103)) hv h2) (by decide)); have q1 := hB6.cell 1; have q2 := hB6.frozen 1; simp at q1)
    go_ret
    have HOA := HP3.out.alloc (.cells #[.int .i64 x6.kind, .string ⟨x6.field.toArray⟩, .string ⟨x6.ifs.toArray⟩, .string ⟨x6.other.toArray⟩, .string ⟨x6.thn.toArray⟩] 103)
    have hpal := pure_alloc W3 (.cells #[.int .i64 x6.kind, .string ⟨x6.field.toArray⟩, .string ⟨x6.ifs.toArray⟩, .string ⟨x6.other.toArray⟩, .string ⟨x6.thn.toArray⟩] 103)
    have hm8 : Mod (· = gl) w5 (w5.setCell ⟨gl, 1, none⟩ (.slice (some ⟨g5, 0, none⟩) (n2 + 1) cap5)) := (Mod.refl (· = gl) w5).setCell (.inl rfl) _
    have K1 : KeepS base W3 w5 := (KeepS.of_pure hpal).trans (KeepS.grown HOA hgrow (by decide))
    have K2 : KeepS base w5 (w5.setCell ⟨gl, 1, none⟩ (.slice (some ⟨g5, 0, none⟩) (n2 + 1) cap5)) := KeepS.of_one hm8 h7 hB6 (by decide)
    have h8 : w5.ownsRow base 99 4 (.slice A0 n0 c0) n0 (askV al) := own_grown (own_pure HO3.out hpal) HOA (by decide) hgrow
    rw [HF1.out]
    refine ⟨rfl, (KeepS.of_pure HM3.out).trans (K1.trans K2), ?_⟩
    rintro S' hS
    injection hS with hS
    subst hS
    refine ⟨A0, c0, some ⟨g5, 0, none⟩, cap5, al, ?_, ?_, ?_, ?_, HQ.out, ?_, h7⟩
    ·have h9 := hB6.set 1 (.slice (some ⟨g5, 0, none⟩) (n2 + 1) cap5)
     simpa [HN0.out, HN2.out] using h9
    ·rw [HN0.out]
     exact own_mod h8 hm8 (fun i hi he => by subst he; exact absurd (own_ty h8 hi hB6) (by decide))
    ·show World.ownsRow _ base _ 5 (.slice _ (rs ++ [x6]).length _) (rs ++ [x6]).length (rulV (rs ++ [x6]))
     rw [List.length_append, HN2.out, rulV_snoc]
     exact own_mod hown5 hm8 (fun i hi he => by subst he; exact absurd (own_ty hown5 hi hB6) (by decide))
    ·exact fun y hy => (K1.trans K2).sl (HSA3.out y hy)
    ·simp only [List.length_append, HN0.out, HN2.out, List.length_singleton]
     omega
  ·have hn2 : n2 = 0 := by simp at hb; exact hb.2
   have HTK : Hid (tkL ⟨qs, rs⟩ ws = some ⟨qs ++ [x.q], rs⟩) := Lib.hid (by
    unfold tkL
    cases ha : askRd ws with
    | none => rw [HOK.out, ha] at hb; simp at hb
    | some q =>
     rw [← HXQ.out q ha]
     have h3 : rs = [] := by cases hr : rs with
      | nil => rfl
      | cons a t => have := HN2.out; rw [hr] at this; simp at this; omega
     simp only
     rw [if_pos h3])
   clear hb HOK HXQ HRX
   obtain ⟨i0, hi0, hz0, hz1, hz2⟩ := info_parts info_ask
   have hownS := HO2.out
   have hmS := HM2.out
   generalize tkL ⟨qs, rs⟩ ws = o at *
   go_wp2_with ((at_builtin; refine wpList_append_lies _ rfl _ _ _ rfl base 99 i0 _ 4 56 Tryz.underlying26 hi0 hz0 hz1 hz2 rfl (by omega) (.slice A0 n0 c0) n0 (askV al) rfl (hownS.alloc _) ⟨wc.heap.size, 0, none⟩ 1 1 [.string ⟨x.field.toArray⟩, .slice x.A x.ch.length x.c, .bool x.many, .int .i64 x.spread] rfl rfl (World.news_of_block (cs := #[.string ⟨x.field.toArray⟩, .slice x.A x.ch.length x.c, .bool x.many, .int .i64 x.spread]) (t := 99) (fr := (0, 0)) (heap_alloc_new wc _)) (by simp [Value.oneCell']) (by omega) (by simp [maxLen]; omega) (by omega) (by have := hmS.size; simp; omega) (wc.heap.size + 1) (by simp) ?_; intro g5 cap5 w5 hown5 hgrow hat hlt5); have hB6 := (HB2.out.alloc (.cells #[.string ⟨x.field.toArray⟩, .slice x.A x.ch.length x.c, .bool x.many, .int .i64 x.spread] 99)).mod (mod_grown hgrow) (fun hv => by have h2 := HB2.out.alloc (.cells #[.string ⟨x.field.toArray⟩, .slice x.A x.ch.length x.c, .bool x.many, .int .i64 x.spread] 99); unfold Blk at h2; exact absurd (own_ty (HO2.out.alloc (.cells #[.string ⟨x.field.toArray⟩, .slice x.A x.ch.length x.c, .bool x.many, .int .i64 x.spread] 99)) hv h2) (by decide)); have q1 := hB6.cell 0; have q2 := hB6.frozen 0; simp at q1)
   go_ret
   have HOA := HO2.out.alloc (.cells #[.string ⟨x.field.toArray⟩, .slice x.A x.ch.length x.c, .bool x.many, .int .i64 x.spread] 99)
   have hpal := pure_alloc wc (.cells #[.string ⟨x.field.toArray⟩, .slice x.A x.ch.length x.c, .bool x.many, .int .i64 x.spread] 99)
   have hm8 : Mod (· = gl) w5 (w5.setCell ⟨gl, 0, none⟩ (.slice (some ⟨g5, 0, none⟩) (n0 + 1) cap5)) := (Mod.refl (· = gl) w5).setCell (.inl rfl) _
   have K1 : KeepS base wc w5 := (KeepS.of_pure hpal).trans (KeepS.grown HOA hgrow (by decide))
   have K2 : KeepS base w5 (w5.setCell ⟨gl, 0, none⟩ (.slice (some ⟨g5, 0, none⟩) (n0 + 1) cap5)) := KeepS.of_one hm8 h7 hB6 (by decide)
   have h8 : w5.ownsRow base 103 5 (.slice A2 n2 c2) n2 (rulV rs) := own_grown (own_pure HP2.out hpal) HOA (by decide) hgrow
   rw [HTK.out]
   refine ⟨rfl, (KeepS.of_pure HM2.out).trans (K1.trans K2), ?_⟩
   rintro S' hS
   injection hS with hS
   subst hS
   refine ⟨some ⟨g5, 0, none⟩, cap5, A2, c2, al ++ [x], ?_, ?_, ?_, ?_, ?_, ?_, h7⟩
   ·have h9 := hB6.set 0 (.slice (some ⟨g5, 0, none⟩) (n0 + 1) cap5)
    simpa [HN0.out, HN2.out] using h9
   ·rw [List.length_append, HN0.out, askV_snoc]
    exact own_mod hown5 hm8 (fun i hi he => by subst he; exact absurd (own_ty hown5 hi hB6) (by decide))
   ·rw [HN2.out]
    exact own_mod h8 hm8 (fun i hi he => by subst he; exact absurd (own_ty h8 hi hB6) (by decide))
   ·intro y hy
    have h9 : Sl wc 9 1 (.slice y.A y.ch.length y.c) (strsV y.ch) := by
     rcases List.mem_append.1 hy with h | h
     ·exact HSA2.out y h
     ·rw [List.mem_singleton.1 h]; exact HS2.out
    exact (K1.trans K2).sl h9
   ·rw [List.map_append, HQ.out]; rfl
   ·simp only [List.length_append, HN0.out, HN2.out, List.length_singleton]
    omega

end Go.Proofs.YtaidkmnbjbnciaaGreatDoor
