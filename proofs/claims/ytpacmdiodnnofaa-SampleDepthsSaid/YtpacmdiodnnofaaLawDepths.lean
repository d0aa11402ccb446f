/- The law SampleDepths. -/
import Derived.Test.YtpacmdiodnnofaaDepth
import Derived.Test.YtpacmdiodnnofaaDrawn
namespace Go.Proofs.Ytpacmdiodnnofaa
set_option linter.unusedVariables false
set_option linter.unusedSimpArgs false
open Go.RowKit
attribute [local go_sem ↓] Go.wp_at_zero Go.wp_at_succ

set_option maxRecDepth 100000 in
set_option maxHeartbeats 4000000 in
theorem SampleDepths_calls (w : World) (A : Option Addr) (n c : Nat) (hA : ArgInts w A n) :
    Calls Try.prog 9 #[.slice A n c] w (BoolPost w true) := by
  have hS0 := strm_new (c := c) hA
  have hlt0 : w.heap.size < (w.alloc (.cells #[.slice A n c, .int .i64 0] 25)).heap.size := by simp
  go_enter Try.func9, Try.ntmps9
  go_wp2_with fail
  refine (relevant_calls _ _ _ hS0 (by omega)).mono ?_
  rintro e w1 ⟨v, bs, hl20, rfl, hown, hS1, hM1⟩
  have hv1 := Sl.of_own hown
  clear hown hS0
  go_wp2_with fail
  refine (share_calls _ _ _ hS1 (by omega)).mono ?_
  rintro e w2 ⟨nu, de, hP, rfl, hS2, hM2⟩
  have hv2 := hv1.strm hS1 hM2 (by decide)
  have m2 : Pure w w2 := (((Mod.refl _ w).alloc (.cells #[.slice A n c, .int .i64 0] 25)).trans' (hM1.trans hM2) (fun i hi hlt => by omega))
  clear hv1 hS1 hS2 hM1 hM2 hlt0
  have s3 := Blk.new w2 30 #[.int .i64 nu, .int .i64 de]
  have hv3 := hv2.pure (pure_alloc w2 (.cells #[.int .i64 nu, .int .i64 de] 30))
  have m3 : Pure w (w2.alloc (.cells #[.int .i64 nu, .int .i64 de] 30)) := m2.alloc _
  clear hv2 m2
  go_wp2_with fail
  refine (Depth_calls _ _ bs nu de hv3 (by omega)).mono ?_
  rintro e w4 ⟨x, er, hsp, rfl, hm4⟩
  have HSP := Lib.hid hsp
  have s4 := s3.modp hm4
  have hv4 := hv3.pure hm4
  have m4 : Pure w w4 := m3.trans hm4
  clear hsp s3 hv3 m3 hm4
  generalize w2.heap.size = g5 at *
  have q0 := s4.cell 0; have q1 := s4.cell 1; simp at q0 q1
  go_wp2_with fail
  refine (shareFault_calls _ nu de).mono ?_
  rintro e w5 ⟨rfl, hm5⟩
  have s5 := s4.modp hm5
  have hv5 := hv4.pure hm5
  have m5 : Pure w w5 := m4.trans hm5
  clear s4 hv4 m4 hm5 q0 q1
  obtain ⟨se, hse⟩ : ∃ se, shareErr nu de = se := ⟨_, rfl⟩
  have HSE := Lib.hid hse
  rw [hse]
  clear hse
  have hdE : Hid (depE bs.length nu de = se) := by
    have h1 : readErr (bs.length : Int) = 0 := if_pos (by omega)
    show depE bs.length nu de = se
    unfold depE
    rw [firstErr_two, h1, if_pos rfl]
    exact HSE.out
  by_cases h0 : se = 0
  · subst h0
    rcases HSP.out with ⟨h1, _, _⟩ | ⟨h1, h2, rfl⟩
    · exact absurd hdE.out h1
    · have hb : (1 ≤ de ∧ de ≤ 1000000) ∧ 0 ≤ nu ∧ nu ≤ de := (depE_ok h1).2
      have HX := Lib.hid h2
      have t1 : (x == x) = true := by simp
      clear h1 h2
      have q0 := s5.cell 0; have q1 := s5.cell 1; simp at q0 q1
      go_wp2_with fail
      refine (DepthOf2_calls _ _ bs nu de hv5 (by omega) (by omega) (by omega)).mono ?_
      rintro e w6 ⟨rfl, hm6⟩
      rw [← HX.out]
      go_wp2_with fail
      refine (drawn_calls _).mono ?_
      rintro e w7 ⟨rfl, hm7⟩
      go_wp2_with fail
      go_ret
      exact BoolPost.of rfl ((m5.trans hm6).trans hm7)
  · have hne : (se != 0) = true := by simpa using h0
    rcases HSP.out with ⟨h1, rfl, h2⟩ | ⟨h1, _, _⟩
    · obtain rfl : er = se := h2.trans hdE.out
      have t1 : (er == er) = true := by simp
      clear h0 h1 h2
      go_wp2_with fail
      refine (drawn_calls _).mono ?_
      rintro e w7 ⟨rfl, hm7⟩
      go_wp2_with fail
      go_ret
      exact BoolPost.of rfl (m5.trans hm7)
    · exact absurd (hdE.out.symm.trans h1) h0

end Go.Proofs.Ytpacmdiodnnofaa
