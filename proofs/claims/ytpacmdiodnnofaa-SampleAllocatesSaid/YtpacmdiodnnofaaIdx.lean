/- slices.IndexFunc, slices.ContainsFunc over numbers, with a closure that captured nothing; sample.counts. -/
import Derived.Test.YtpacmdiodnnofaaCheck
namespace Go.Proofs.Ytpacmdiodnnofaa
set_option linter.unusedVariables false
set_option linter.unusedSimpArgs false
open Go.RowKit

/-- The place of the first number with P, from k on; -1 if there is none. -/
def idxP (P : Int → Bool) : List Int → Int → Int
  | [], _ => -1
  | x :: xs, k => if P x then k else idxP P xs (k + 1)
theorem idxP_any (P : Int → Bool) : ∀ (xs : List Int) (k : Int), 0 ≤ k → decide (0 ≤ idxP P xs k) = xs.any P
  | [], k, _ => by simp [idxP]
  | x :: xs, k, hk => by
    unfold idxP
    cases hp : P x with
    | true => simp [hp]; omega
    | false => simpa [hp] using idxP_any P xs (k + 1) (by omega)
def intsV (xs : List Int) : List Value := xs.map (Value.int .i64)
theorem intsV_get (xs : List Int) (i : Nat) (h : i < xs.length) : (intsV xs)[i]? = some (.int .i64 xs[i]) := by simp [intsV, h]

set_option maxRecDepth 100000 in
set_option maxHeartbeats 1000000 in
theorem indexFunc0_calls (w : World) (v : Value) (xs : List Int) (F : Nat) (P : Int → Bool) (hv : Sl w 3 1 v (intsV xs))
    (hcf : ∀ (n : Int) (W : World), Sem.run Try.prog (callFunc F #[.int .i64 n]) W = .ok (.enter F #[.int .i64 n]) W)
    (hF : ∀ (n : Int) (W : World), n ∈ xs → Pure w W → Calls Try.prog F #[.int .i64 n] W (BoolPost W (P n))) :
    Calls Try.prog 91 #[v, .func (.func F) #[] #[]] w (IntPost w (idxP P xs 0)) := by
  have HF := Lib.hid hF
  obtain ⟨A, n, c, rfl, hc1, hc2, hl, hr⟩ := hv
  have hln : xs.length = n := by simpa [intsV] using hl
  subst hln
  have HR := Lib.hid hr
  clear hF hl hr
  go_enter Try.func91, Try.ntmps91
  go_wp2_with fail
  go_loopg [8] xs.length (fun gk i wr => ∃ k : Nat, xs.length - k = gk ∧ k ≤ xs.length ∧ i = .int .i64 (k : Int) ∧ idxP P xs 0 = idxP P (xs.drop k) (k : Int) ∧ Pure w wr)
  case atStart => exact ⟨0, by omega, by omega, rfl, rfl, Mod.refl _ _⟩
  case round =>
    obtain ⟨k, rfl, hk, rfl, hix, hm⟩ := hrel
    have HIX := Lib.hid hix
    clear hix
    by_cases hlt : k < xs.length
    · obtain ⟨g, off, rfl, hrow⟩ := HR.out (by omega)
      have hq := (hrow.mod hm id).cell (intsV_get xs k hlt)
      have hd : xs.drop k = xs[k] :: xs.drop (k + 1) := List.drop_eq_getElem_cons hlt
      have hcall := HF.out xs[k] wr (List.getElem_mem hlt) hm
      have hi2 : idxP P xs 0 = if P xs[k] then (k : Int) else idxP P (xs.drop (k + 1)) ((k : Int) + 1) := by rw [HIX.out, hd]; rfl
      have HI2 := Lib.hid hi2
      have HC := Lib.hid hcall
      clear hd hi2 hcall hrow HIX
      generalize xs[k] = x at *
      go_wp2_with fail
      refine HC.out.mono ?_
      rintro e w1 ⟨rfl, hm1⟩
      cases hp : P x
      · go_wp2_with fail
        go_roundg (xs.length - (k + 1))
        case measure => omega
        case rel => exact ⟨k + 1, rfl, hlt, by simp, by rw [HI2.out, hp]; simp, hm.trans hm1⟩
      · go_wp2_with fail
        go_ret
        exact IntPost.of (by rw [HI2.out, hp]; rfl) (hm.trans hm1)
    · have hke : k = xs.length := by omega
      subst hke
      go_wp2_with fail
      go_ret
      exact IntPost.of (by rw [HIX.out, List.drop_of_length_le (Nat.le_refl _)]; rfl) hm

set_option maxRecDepth 100000 in
set_option maxHeartbeats 1000000 in
theorem containsFunc0_calls (w : World) (v : Value) (xs : List Int) (F : Nat) (P : Int → Bool) (hv : Sl w 3 1 v (intsV xs))
    (hcf : ∀ (n : Int) (W : World), Sem.run Try.prog (callFunc F #[.int .i64 n]) W = .ok (.enter F #[.int .i64 n]) W)
    (hF : ∀ (n : Int) (W : World), n ∈ xs → Pure w W → Calls Try.prog F #[.int .i64 n] W (BoolPost W (P n))) :
    Calls Try.prog 99 #[v, .func (.func F) #[] #[]] w (BoolPost w (xs.any P)) := by
  have H := Lib.hid (indexFunc0_calls w v xs F P hv hcf hF)
  have hb := idxP_any P xs 0 (by omega)
  have HB := Lib.hid hb
  clear hF hcf hb
  go_enter Try.func99, Try.ntmps99
  go_wp2_with fail
  refine H.out.mono ?_
  rintro e w1 ⟨rfl, hm1⟩
  go_wp2_with fail
  go_ret
  exact BoolPost.of (by rw [← HB.out]) hm1

def countB (n : Int) : Bool := !inB n 0 1000000
set_option maxRecDepth 100000 in
set_option maxHeartbeats 1000000 in
theorem counts1_calls (n : Int) (w : World) : Calls Try.prog 119 #[.int .i64 n] w (BoolPost w (countB n)) := by
  go_enter Try.func119, Try.ntmps119
  go_wp2_with fail
  refine (in_calls _ _ _ _).mono ?_
  rintro e w' ⟨rfl, rfl⟩
  go_wp2_with fail
  go_ret
  exact BoolPost.of rfl (Mod.refl _ _)

set_option maxRecDepth 100000 in
set_option maxHeartbeats 1000000 in
theorem counts_calls (w : World) (v : Value) (xs : List Int) (hv : Sl w 3 1 v (intsV xs)) :
    Calls Try.prog 82 #[v] w (BoolPost w (!xs.any countB)) := by
  have H := Lib.hid (containsFunc0_calls w v xs 119 countB hv (fun _ _ => rfl) (fun n W _ _ => counts1_calls n W))
  go_enter Try.func82, Try.ntmps82
  go_wp2_with fail
  refine H.out.mono ?_
  rintro e w1 ⟨rfl, hm1⟩
  go_wp2_with fail
  go_ret
  exact BoolPost.of rfl hm1

end Go.Proofs.Ytpacmdiodnnofaa
