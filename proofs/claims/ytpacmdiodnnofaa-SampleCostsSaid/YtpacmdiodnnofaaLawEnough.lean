/- The law SampleEnough. -/
import Derived.Test.YtpacmdiodnnofaaDrawnM
import Derived.Test.YtpacmdiodnnofaaEnough
import Derived.Test.YtpacmdiodnnofaaRCheck
import Derived.Test.YtpacmdiodnnofaaDrawn
namespace Go.Proofs.Ytpacmdiodnnofaa
set_option linter.unusedVariables false
set_option linter.unusedSimpArgs false
open Go.RowKit
attribute [local go_sem ↓] Go.wp_at_zero Go.wp_at_succ

theorem Blk.new2 (w : World) (o : Obj) (t : TypeId) (cs : Array Value) : Blk ((w.alloc o).alloc (.cells cs t)) (w.heap.size + 1) t cs := by
  have := Blk.new (w.alloc o) t cs
  rw [World.size_alloc] at this
  exact this

def faultB (p mo : Int) : Bool := !(decide ((1 ≤ p ∧ p ≤ 2000) ∧ 0 ≤ mo ∧ mo ≤ p))
theorem fault_t {p mo : Int} (h : ¬ ((1 ≤ p ∧ p ≤ 2000) ∧ 0 ≤ mo ∧ mo ≤ p)) : faultB p mo = true := by unfold faultB; rw [decide_eq_false h]; rfl
theorem fault_f {p mo : Int} (h : (1 ≤ p ∧ p ≤ 2000) ∧ 0 ≤ mo ∧ mo ≤ p) : faultB p mo = false := by unfold faultB; rw [decide_eq_true h]; rfl
theorem firstErr_en {p mo n d : Int} (h : firstErr [enErr p mo, levelErr n d] = 0) : ∃ p' n' d' : Nat, p = p' ∧ n = n' ∧ d = d' ∧ 1 ≤ p' ∧ p' ≤ 2000 ∧ (0 ≤ mo ∧ mo ≤ (p' : Int)) ∧ 1 ≤ n' ∧ n' < d' ∧ d' ≤ 1000 := by
  rw [firstErr_two] at h
  by_cases h1 : enErr p mo = 0
  · rw [if_pos h1] at h
    unfold enErr at h1
    unfold levelErr at h
    split at h1
    · split at h
      · exact ⟨p.toNat, n.toNat, d.toNat, by omega, by omega, by omega, by omega, by omega, by omega, by omega, by omega, by omega⟩
      · cases h
    · cases h1
  · rw [if_neg h1] at h
    exact absurd h h1

set_option maxRecDepth 100000 in
set_option maxHeartbeats 4000000 in
theorem SampleEnough_calls (w : World) (A : Option Addr) (n c : Nat) (hA : ArgInts w A n) :
    Calls Try.prog 4 #[.slice A n c] w (BoolPost w true) := by
  have hS0 := strm_new (c := c) hA
  have hlt0 : w.heap.size < (w.alloc (.cells #[.slice A n c, .int .i64 0] 25)).heap.size := by simp
  go_enter Try.func4, Try.ntmps4
  go_wp2_with fail
  refine (pick_calls _ _ _ _ _ [1, 2, 5, 10, 20, 40, 0, 2001] (hS0.alloc _) (by omega) (Blk.new2 _ _ _ _) (by simp) (by simp) (by simp)).mono ?_
  rintro e w1 ⟨p, hp, rfl, hS1, hM1⟩
  have hpb : 0 ≤ p ∧ p ≤ 2001 := by simp at hp; omega
  have hlt1 := hS1.lt
  clear hp
  go_wp2_with fail
  refine (pick_calls _ _ _ _ _ [0, 1, 2, 5, 10, p, -1, p + 1] (hS1.alloc _) (by omega) (Blk.new _ _ _) (by omega) (by simp) (by simp)).mono ?_
  rintro e w2 ⟨mo, hmo, rfl, hS2, hM2⟩
  have hmb : -1 ≤ mo ∧ mo ≤ 2002 := by simp at hmo; omega
  clear hmo
  go_wp2_with fail
  refine (level_calls _ _ _ hS2 (by omega)).mono ?_
  rintro e w3 ⟨nu, de, hl, rfl, hS3, hM3⟩
  have hm2 : Pure w w3 := (((Mod.refl _ w).alloc (.cells #[.slice A n c, .int .i64 0] 25)).trans' ((((Mod.refl _ _).alloc _).trans hM1).trans ((((Mod.refl _ _).alloc _).trans hM2).trans hM3)) (fun i hi hlt => by omega))
  clear hM1 hM2 hM3 hS1 hS2 hS0 hS3 hlt0 hlt1
  go_wp2_with fail
  have hlB := Blk.new w3 30 #[.int .i64 nu, .int .i64 de]
  have hm3 : Pure w (w3.alloc (.cells #[.int .i64 nu, .int .i64 de] 30)) := hm2.alloc _
  generalize (w3.alloc (.cells #[.int .i64 nu, .int .i64 de] 30)) = W at *
  generalize w3.heap.size = lB at *
  have q0 := hlB.cell 0
  have q1 := hlB.cell 1
  simp at q0 q1
  clear hlB hm2
  obtain ⟨er, her⟩ : ∃ er, firstErr [enErr p mo, levelErr nu de] = er := ⟨_, rfl⟩
  have HER := Lib.hid her
  have fault : ∀ (Q : Prop), ((p < 1 → Q) → (1 ≤ p → 2000 < p → Q) → (1 ≤ p → p ≤ 2000 → mo < 0 → Q) → (1 ≤ p → p ≤ 2000 → 0 ≤ mo → p < mo → Q) → ((1 ≤ p ∧ p ≤ 2000) ∧ 0 ≤ mo ∧ mo ≤ p → Q) → Q) := by
    intro Q a1 a2 a3 a4 a5
    by_cases b1 : p < 1
    · exact a1 b1
    · by_cases b2 : 2000 < p
      · exact a2 (by omega) b2
      · by_cases b3 : mo < 0
        · exact a3 (by omega) (by omega) b3
        · by_cases b4 : p < mo
          · exact a4 (by omega) (by omega) (by omega) b4
          · exact a5 (by omega)
  have FAULT := Lib.hid fault
  clear fault
  by_cases h0 : er = 0
  · subst h0
    obtain ⟨p, nu, de, rfl, rfl, rfl, a1, a2, a3, a4, a5, a6⟩ := firstErr_en her
    clear her
    refine (Enough_ok _ p nu de (min p 60) mo a1 a2 a3 rfl a4 a5 a6).mono ?_
    rintro e w4 ⟨r, hr, rfl, hm4⟩
    have HR := Lib.hid hr
    clear hr
    obtain ⟨kv, hkv⟩ : ∃ kv : Int, ((r.getD 0 : Nat) : Int) = kv := ⟨_, rfl⟩
    obtain ⟨ev, hev⟩ : ∃ ev : Int, enE r = ev := ⟨_, rfl⟩
    rw [hkv, hev]
    have HKV := Lib.hid hkv
    have HEV := Lib.hid hev
    clear hkv hev
    have k0 := hm4.keep q0 id
    have k1 := hm4.keep q1 id
    have hm5 := hm3.trans hm4
    have een : enErr (p : Int) mo = 0 := by unfold enErr; rw [if_pos (by omega)]
    have HEN := Lib.hid een
    clear q0 q1 hm3 hm4 een
    go_wp2_with fail
    refine (levelFault_calls _ _ _).mono ?_
    rintro e w5 ⟨rfl, hm6⟩
    have j0 := hm6.keep k0 id
    have j1 := hm6.keep k1 id
    go_wp2_with fail
    refine (wrongOr_calls _ _ _ [0, levelErr nu de] (Blk.new _ _ _).row0 (by simp)).mono ?_
    rintro e w6 ⟨rfl, hm7⟩
    have hf : firstErr [0, levelErr (nu : Int) (de : Int)] = 0 := by have := HER.out; rwa [HEN.out] at this
    rw [hf]
    have hM7 : Pure w5 w6 := ((Mod.refl _ _).alloc _).trans hm7
    have i0 := hM7.keep j0 id
    have i1 := hM7.keep j1 id
    have hm8 := (hm5.trans hm6).trans hM7
    clear j0 j1 k0 k1 hm5 hm6 hm7 hM7 hf
    go_wp2_with fail
    refine (EnoughOf_calls _ p nu de (min p 60) mo a1 a2 rfl a4 a5 a6).mono ?_
    rintro e w7 ⟨r', hr', rfl, hm9⟩
    have hrr := LeastN.unique HR.out hr'
    subst hrr
    clear hr'
    cases r with
    | none =>
      obtain rfl : kv = 0 := HKV.out.symm
      obtain rfl : ev = 16 := HEV.out.symm
      go_wp2_with fail
      refine (drawn_calls _).mono ?_
      rintro e w8 ⟨rfl, hm10⟩
      go_wp2_with fail
      go_ret
      exact BoolPost.of rfl ((hm8.trans hm9).trans hm10)
    | some k =>
      obtain rfl : kv = (k : Int) := HKV.out.symm
      obtain rfl : ev = 0 := HEV.out.symm
      have hbk : ((k : Int) == (k : Int)) = true := by simp
      go_wp2_with fail
      refine (drawn_calls _).mono ?_
      rintro e w8 ⟨rfl, hm10⟩
      go_wp2_with fail
      go_ret
      exact BoolPost.of rfl ((hm8.trans hm9).trans hm10)
  · have hb0 : (er != 0) = true := by simpa using h0
    have hbe : (er == er) = true := by simp
    refine (Enough_err _ p mo nu de er her h0).mono ?_
    rintro e w4 ⟨rfl, hm4⟩
    have k0 := hm4.keep q0 id
    have k1 := hm4.keep q1 id
    have hm5 := hm3.trans hm4
    clear q0 q1 hm3 hm4 her
    go_upto_region 6 with (fail)
    go_cut [47] (fun v wx => v = .bool (faultB p mo) ∧ w4 = wx)
    case first =>
      apply FAULT.out
      · intro b1
        go_wp2_with fail
        go_meet
        exact ⟨by rw [fault_t (by omega)], rfl⟩
      · intro b1 b2
        go_wp2_with fail
        go_meet
        exact ⟨by rw [fault_t (by omega)], rfl⟩
      · intro b1 b2 b3
        go_wp2_with fail
        go_meet
        exact ⟨by rw [fault_t (by omega)], rfl⟩
      · intro b1 b2 b3 b4
        go_wp2_with fail
        go_meet
        exact ⟨by rw [fault_t (by omega)], rfl⟩
      · rintro ⟨⟨b1, b2⟩, b3, b4⟩
        go_wp2_with fail
        go_meet
        exact ⟨by rw [fault_f (by omega)]; simp; omega, rfl⟩
    case rest =>
      obtain ⟨rfl, rfl⟩ := hcut
      by_cases hg : (1 ≤ p ∧ p ≤ 2000) ∧ 0 ≤ mo ∧ mo ≤ p
      · have HK : Hid (firstErr [0, levelErr nu de] = er) := by
          have ee : enErr p mo = 0 := by unfold enErr; rw [if_pos hg]
          have := HER.out
          rwa [ee] at this
        rw [fault_f hg]
        go_wp2_with fail
        refine (levelFault_calls _ _ _).mono ?_
        rintro e w5 ⟨rfl, hm6⟩
        go_wp2_with fail
        refine (wrongOr_calls _ _ _ [0, levelErr nu de] (Blk.new _ _ _).row0 (by simp)).mono ?_
        rintro e w6 ⟨rfl, hm7⟩
        rw [HK.out]
        go_wp2_with fail
        refine (drawn_calls _).mono ?_
        rintro e w7 ⟨rfl, hm8⟩
        go_wp2_with fail
        go_ret
        exact BoolPost.of rfl (((hm5.trans hm6).trans (((Mod.refl _ _).alloc _).trans hm7)).trans hm8)
      · have HK : Hid (firstErr [1, levelErr nu de] = er) := by
          have ee : enErr p mo = 1 := by unfold enErr; rw [if_neg hg]
          have := HER.out
          rwa [ee] at this
        rw [fault_t hg]
        go_wp2_with fail
        refine (levelFault_calls _ _ _).mono ?_
        rintro e w5 ⟨rfl, hm6⟩
        go_wp2_with fail
        refine (wrongOr_calls _ _ _ [1, levelErr nu de] (Blk.new _ _ _).row0 (by simp)).mono ?_
        rintro e w6 ⟨rfl, hm7⟩
        rw [HK.out]
        go_wp2_with fail
        refine (drawn_calls _).mono ?_
        rintro e w7 ⟨rfl, hm8⟩
        go_wp2_with fail
        go_ret
        exact BoolPost.of rfl (((hm5.trans hm6).trans (((Mod.refl _ _).alloc _).trans hm7)).trans hm8)

end Go.Proofs.Ytpacmdiodnnofaa
