/- sample.Enough and the reference's EnoughOf. -/
import Derived.Test.YtpacmdiodnnofaaRMost
namespace Go.Proofs.Ytpacmdiodnnofaa
set_option linter.unusedVariables false
set_option linter.unusedSimpArgs false
open Go.RowKit
attribute [local go_sem ↓] Go.wp_at_zero Go.wp_at_succ

/-- The least number from 1 to m for which P holds, if there is one. -/
def LeastN (P : Nat → Prop) (m : Nat) : Option Nat → Prop
  | some k => 1 ≤ k ∧ k ≤ m ∧ P k ∧ ∀ j, 1 ≤ j → j < k → ¬ P j
  | none => ∀ j, 1 ≤ j → j ≤ m → ¬ P j
theorem LeastN.unique {P : Nat → Prop} {m : Nat} : ∀ {a b : Option Nat}, LeastN P m a → LeastN P m b → a = b
  | some a, some b, ⟨a1, a2, a3, a4⟩, ⟨b1, b2, b3, b4⟩ => by
    rcases Nat.lt_trichotomy a b with h | h | h
    · exact absurd a3 (b4 a a1 h)
    · rw [h]
    · exact absurd b3 (a4 b b1 h)
  | some a, none, ⟨a1, a2, a3, a4⟩, hb => absurd a3 (hb a a1 a2)
  | none, some b, ha, ⟨b1, b2, b3, b4⟩ => absurd b3 (ha b b1 b2)
  | none, none, _, _ => rfl
/-- With a sample of k of which none is relevant no more than so many may be missed. -/
def enoughP (p : Nat) (most : Int) (num den k : Nat) : Prop := ∃ x, IsMost p k 0 num den x ∧ x ≤ most
theorem enoughP_no {p : Nat} {most x : Int} {num den k : Nat} (hx : IsMost p k 0 num den x) (h : most < x) : ¬ enoughP p most num den k := by
  rintro ⟨y, hy, hle⟩
  have := hx.unique hy
  omega

def EnRel (X : World) (P : Nat → Prop) (m gk : Nat) (i : Value) (wr : World) : Prop :=
  ∃ k : Nat, m + 1 - k = gk ∧ 1 ≤ k ∧ k ≤ m + 1 ∧ i = .int .i64 (k : Int) ∧ (∀ j, 1 ≤ j → j < k → ¬ P j) ∧ Pure X wr

/-- The error that goes with it. -/
def enE : Option Nat → Int
  | some _ => 0
  | none => 16
def EnPost (w : World) (p : Nat) (most : Int) (num den m : Nat) (e : Ending) (w' : World) : Prop :=
  ∃ r : Option Nat, LeastN (enoughP p most num den) m r ∧ e = .returned (.tuple #[.int .i64 ((r.getD 0 : Nat) : Int), .int .i64 (enE r)]) ∧ Pure w w'
def EnOfPost (w : World) (p : Nat) (most : Int) (num den m : Nat) (e : Ending) (w' : World) : Prop :=
  ∃ r : Option Nat, LeastN (enoughP p most num den) m r ∧ e = .returned (.tuple #[.int .i64 ((r.getD 0 : Nat) : Int), .bool r.isSome]) ∧ Pure w w'

set_option maxRecDepth 100000 in
set_option maxHeartbeats 2000000 in
theorem EnoughOf_calls (w : World) (p num den m : Nat) (most : Int) (hp : 1 ≤ p) (hp2 : p ≤ 2000) (hm : m = min p 60) (h1 : 1 ≤ num) (h2 : num < den) (h3 : den ≤ 1000) :
    Calls Try.prog 27 #[.int .i64 (p : Int), .int .i64 most, agg2 num den] w (EnOfPost w p most num den m) := by
  have hmi : (if 60 < (p : Int) then 60 else (p : Int)) = (m : Int) := by rw [hm]; split <;> omega
  have hmb : 1 ≤ m ∧ m ≤ 60 ∧ m ≤ p := by omega
  have hok : ∀ k, 1 ≤ k → k ≤ m → DrawnOk p k 0 num den := fun k _ _ => by unfold DrawnOk; omega
  have HOK := Lib.hid hok
  clear hok hm
  go_enter Try.func27, Try.ntmps27
  go_wp2_with fail
  have hlB := Blk.new w 30 #[.int .i64 (num : Int), .int .i64 (den : Int)]
  have hm0 : Pure w (w.alloc (.cells #[.int .i64 (num : Int), .int .i64 (den : Int)] 30)) := (Mod.refl _ _).alloc _
  generalize (w.alloc (.cells #[.int .i64 (num : Int), .int .i64 (den : Int)] 30)) = X at *
  go_loopg [8] m (fun gk i wr => EnRel X (enoughP p most num den) m gk i wr)
  case atStart => exact ⟨1, by omega, by omega, by omega, rfl, fun j _ _ => by omega, Mod.refl _ _⟩
  case round =>
    obtain ⟨k, rfl, hk1, hk2, rfl, hno, hmm⟩ := hrel
    have HNO := Lib.hid hno
    clear hno
    have h4 := hlB.mod hmm id
    have l0 := h4.cell 0
    have l1 := h4.cell 1
    simp at l0 l1
    clear h4
    by_cases hlt : k ≤ m
    · go_wp2_with fail
      refine (MostOf_calls _ p k 0 num den (HOK.out k hk1 hlt)).mono ?_
      rintro e w1 ⟨x, hx, rfl, hm1⟩
      have HX := Lib.hid hx
      clear hx
      by_cases hle : x ≤ most
      · go_wp2_with fail
        go_ret2
        exact ⟨some k, ⟨hk1, hlt, ⟨x, HX.out, hle⟩, HNO.out⟩, rfl, (hm0.trans hmm).trans hm1⟩
      · go_wp2_with fail
        go_roundg (m + 1 - (k + 1))
        case measure => omega
        case rel =>
          refine ⟨k + 1, rfl, by omega, by omega, by simp, fun j hj1 hj2 => ?_, hmm.trans hm1⟩
          by_cases e : j = k
          · subst e; exact enoughP_no HX.out (by omega)
          · exact HNO.out j hj1 (by omega)
    · go_wp2_with fail
      go_ret2
      exact ⟨none, fun j hj1 hj2 => HNO.out j hj1 (by omega), rfl, hm0.trans hmm⟩

def enErr (p most : Int) : Int := if (1 ≤ p ∧ p ≤ 2000) ∧ 0 ≤ most ∧ most ≤ p then 0 else 1

set_option maxRecDepth 100000 in
set_option maxHeartbeats 2000000 in
theorem Enough_err (w : World) (p most nu de er : Int) (h : firstErr [enErr p most, levelErr nu de] = er) (hne : er ≠ 0) :
    Calls Try.prog 26 #[.int .i64 p, .int .i64 most, agg2 nu de] w (ErrPost w (.int .i64 0) er) := by
  have HE := Lib.hid h
  have hb : (er != 0) = true := by simpa using hne
  clear h
  go_enter Try.func26, Try.ntmps26
  go_wp2_with fail
  have hlB := Blk.new w 30 #[.int .i64 nu, .int .i64 de]
  have hm0 : Pure w (w.alloc (.cells #[.int .i64 nu, .int .i64 de] 30)) := (Mod.refl _ _).alloc _
  generalize (w.alloc (.cells #[.int .i64 nu, .int .i64 de] 30)) = X at *
  have l0 := hlB.cell 0
  have l1 := hlB.cell 1
  simp at l0 l1
  go_cut [8] (fun v wx => v = .int .i64 er ∧ Pure w wx ∧ wx.cell? ⟨w.heap.size, 0, none⟩ = some (.int .i64 nu) ∧ wx.cell? ⟨w.heap.size, 1, none⟩ = some (.int .i64 de))
  case first =>
    cases h1 : inB p 1 2000
    · have ee : enErr p most = 1 := by unfold enErr; have := inB_false h1; rw [if_neg (by omega)]
      have HK : Hid (firstErr [1, levelErr nu de] = er) := by rw [ee] at HE; exact HE
      clear ee
      first
        | go_region_with (first
            | (go_at_call 74; (refine (in_calls _ _ _ _).mono ?_); rintro e w' ⟨rfl, rfl⟩; rw [h1])
            | (go_at_call 73; (refine (when_t _ _).mono ?_); rintro e w' ⟨rfl, rfl⟩)
            | (go_at_call 17; (refine (checkLevel_calls _ _ _).mono ?_); rintro e w1 ⟨rfl, hm1⟩; have k0 := hm1.keep l0 id; have k1 := hm1.keep l1 id)
            | (go_at_call 79; (refine (firstE_calls _ _ _ [1, levelErr nu de] (Blk.new _ _ _).row0 (by simp)).mono ?_); rintro e w2 ⟨rfl, hm2⟩; have hM2 : Pure w1 w2 := ((Mod.refl _ _).alloc _).trans hm2; have j0 := hM2.keep k0 id; have j1 := hM2.keep k1 id))
        | fail
      all_goals
        rw [HK.out]
        go_wp2_with fail
        go_meet
        exact ⟨rfl, (hm0.drew.trans hm1).trans hM2, j0, j1⟩
    · cases h2 : inB most 0 p
      · have ee : enErr p most = 1 := by unfold enErr; have := inB_false h2; rw [if_neg (by omega)]
        have HK : Hid (firstErr [1, levelErr nu de] = er) := by rw [ee] at HE; exact HE
        clear ee
        first
          | go_region_with (first
              | (go_at_call 74; (refine (in_calls _ _ _ _).mono ?_); rintro e w' ⟨rfl, rfl⟩; (first | rw [h1] | rw [h2]))
              | (go_at_call 73; (refine (when_t _ _).mono ?_); rintro e w' ⟨rfl, rfl⟩)
              | (go_at_call 17; (refine (checkLevel_calls _ _ _).mono ?_); rintro e w1 ⟨rfl, hm1⟩; have k0 := hm1.keep l0 id; have k1 := hm1.keep l1 id)
              | (go_at_call 79; (refine (firstE_calls _ _ _ [1, levelErr nu de] (Blk.new _ _ _).row0 (by simp)).mono ?_); rintro e w2 ⟨rfl, hm2⟩; have hM2 : Pure w1 w2 := ((Mod.refl _ _).alloc _).trans hm2; have j0 := hM2.keep k0 id; have j1 := hM2.keep k1 id))
          | fail
        all_goals
          rw [HK.out]
          go_wp2_with fail
          go_meet
          exact ⟨rfl, (hm0.drew.trans hm1).trans hM2, j0, j1⟩
      · have ee : enErr p most = 0 := by unfold enErr; have := inB_true h1; have := inB_true h2; rw [if_pos (by omega)]
        have HK : Hid (firstErr [0, levelErr nu de] = er) := by rw [ee] at HE; exact HE
        clear ee
        first
          | go_region_with (first
              | (go_at_call 74; (refine (in_calls _ _ _ _).mono ?_); rintro e w' ⟨rfl, rfl⟩; (first | rw [h1] | rw [h2]))
              | (go_at_call 73; (refine (when_f _ _).mono ?_); rintro e w' ⟨rfl, rfl⟩)
              | (go_at_call 17; (refine (checkLevel_calls _ _ _).mono ?_); rintro e w1 ⟨rfl, hm1⟩; have k0 := hm1.keep l0 id; have k1 := hm1.keep l1 id)
              | (go_at_call 79; (refine (firstE_calls _ _ _ [0, levelErr nu de] (Blk.new _ _ _).row0 (by simp)).mono ?_); rintro e w2 ⟨rfl, hm2⟩; have hM2 : Pure w1 w2 := ((Mod.refl _ _).alloc _).trans hm2; have j0 := hM2.keep k0 id; have j1 := hM2.keep k1 id))
          | fail
        all_goals
          rw [HK.out]
          go_wp2_with fail
          go_meet
          exact ⟨rfl, (hm0.drew.trans hm1).trans hM2, j0, j1⟩
  case rest =>
    obtain ⟨rfl, hm3, j0, j1⟩ := hcut
    go_wp2_with fail
    go_ret2
    exact ⟨rfl, hm3⟩

set_option maxRecDepth 100000 in
set_option maxHeartbeats 2000000 in
theorem Enough_ok (w : World) (p num den m : Nat) (most : Int) (hp : 1 ≤ p) (hp2 : p ≤ 2000) (hmo : 0 ≤ most ∧ most ≤ p) (hm : m = min p 60) (g1 : 1 ≤ num) (g2 : num < den) (g3 : den ≤ 1000) :
    Calls Try.prog 26 #[.int .i64 (p : Int), .int .i64 most, agg2 num den] w (EnPost w p most num den m) := by
  have hmi : (if (p : Int) < 60 then (p : Int) else 60) = (m : Int) := by rw [hm]; split <;> omega
  have hmb : 1 ≤ m ∧ m ≤ 60 ∧ m ≤ p := by omega
  have hok : ∀ k, 1 ≤ k → k ≤ m → DrawnOk p k 0 num den := fun k _ _ => by unfold DrawnOk; omega
  have HOK := Lib.hid hok
  have h1 : inB (p : Int) 1 2000 = true := by unfold inB; simp; omega
  have h2 : inB most 0 (p : Int) = true := by unfold inB; simp; omega
  have hle : levelErr (num : Int) (den : Int) = 0 := by unfold levelErr; rw [if_pos (by omega)]
  have HLE := Lib.hid hle
  clear hok hm hle
  go_enter Try.func26, Try.ntmps26
  go_wp2_with fail
  have hlB := Blk.new w 30 #[.int .i64 (num : Int), .int .i64 (den : Int)]
  have hm0 : Pure w (w.alloc (.cells #[.int .i64 (num : Int), .int .i64 (den : Int)] 30)) := (Mod.refl _ _).alloc _
  generalize (w.alloc (.cells #[.int .i64 (num : Int), .int .i64 (den : Int)] 30)) = X at *
  have l0 := hlB.cell 0
  have l1 := hlB.cell 1
  simp at l0 l1
  go_cut [8] (fun v wx => v = .int .i64 0 ∧ Pure w wx ∧ wx.cell? ⟨w.heap.size, 0, none⟩ = some (.int .i64 (num : Int)) ∧ wx.cell? ⟨w.heap.size, 1, none⟩ = some (.int .i64 (den : Int)))
  case first =>
    have HE : Hid (firstErr [0, levelErr (num : Int) (den : Int)] = 0) := Lib.hid (by rw [HLE.out]; rfl)
    first
      | go_region_with (first
          | (go_at_call 74; (refine (in_calls _ _ _ _).mono ?_); rintro e w' ⟨rfl, rfl⟩; (first | rw [h1] | rw [h2]))
          | (go_at_call 73; (refine (when_f _ _).mono ?_); rintro e w' ⟨rfl, rfl⟩)
          | (go_at_call 17; (refine (checkLevel_calls _ _ _).mono ?_); rintro e w1 ⟨rfl, hm1⟩; have k0 := hm1.keep l0 id; have k1 := hm1.keep l1 id)
          | (go_at_call 79; (refine (firstE_calls _ _ _ [0, levelErr num den] (Blk.new _ _ _).row0 (by simp)).mono ?_); rintro e w2 ⟨rfl, hm2⟩; have hM2 : Pure w1 w2 := ((Mod.refl _ _).alloc _).trans hm2; have j0 := hM2.keep k0 id; have j1 := hM2.keep k1 id))
      | fail
    all_goals
      rw [HE.out]
      go_wp2_with fail
      go_meet
      exact ⟨rfl, (hm0.drew.trans hm1).trans hM2, j0, j1⟩
  case rest =>
  obtain ⟨rfl, hm3, j0, j1⟩ := hcut
  clear hm0 hlB l0 l1 h1 h2
  go_wp2_with fail
  go_loopg [9] m (fun gk i wr => EnRel wc (enoughP p most num den) m gk i wr)
  case atStart => exact ⟨1, by omega, by omega, by omega, rfl, fun j _ _ => by omega, Mod.refl _ _⟩
  case round =>
    obtain ⟨k, rfl, hk1, hk2, rfl, hno, hmm⟩ := hrel
    have HNO := Lib.hid hno
    clear hno
    have l0 := hmm.keep j0 id
    have l1 := hmm.keep j1 id
    by_cases hlt : k ≤ m
    · go_wp2_with fail
      refine (most_calls _ p k 0 num den (HOK.out k hk1 hlt)).mono ?_
      rintro e w4 ⟨x, hx, rfl, hm4⟩
      have HX := Lib.hid hx
      clear hx
      by_cases hle : x ≤ most
      · go_wp2_with fail
        go_ret2
        exact ⟨some k, ⟨hk1, hlt, ⟨x, HX.out, hle⟩, HNO.out⟩, rfl, (hm3.trans hmm).trans hm4⟩
      · go_wp2_with fail
        go_roundg (m + 1 - (k + 1))
        case measure => omega
        case rel =>
          refine ⟨k + 1, rfl, by omega, by omega, by simp, fun j hj1 hj2 => ?_, hmm.trans hm4⟩
          by_cases e : j = k
          · subst e; exact enoughP_no HX.out (by omega)
          · exact HNO.out j hj1 (by omega)
    · go_wp2_with fail
      go_ret2
      exact ⟨none, fun j hj1 hj2 => HNO.out j hj1 (by omega), rfl, hm3.trans hmm⟩

end Go.Proofs.Ytpacmdiodnnofaa
