/- Quoted strings and digests: the plain facts. -/
import Derived.Test.YtbpicgmblpejoaaDoorStrs
namespace Go.Proofs.YtbpicgmblpejoaaDoor
set_option linter.unusedVariables false
set_option linter.unusedSimpArgs false

/-- A hex digit. -/
def hexD (n : Nat) : UInt8 := if n < 10 then UInt8.ofNat (48 + n) else UInt8.ofNat (87 + n)
/-- A byte within quotes. -/
def quoB (c : UInt8) : Str := if c = 34 ∨ c = 92 then [92, c] else if c = 10 then [92, 110] else if c < 33 ∨ 126 < c then [92, 120, hexD (c.toNat / 16), hexD (c.toNat % 16)] else [c]
def quoS (s : Str) : Str := 34 :: (s.flatMap quoB ++ [34])
/-- The value of a hex digit as strconv reads it; 255: none. -/
def hexV (c : UInt8) : Nat := if 48 ≤ c ∧ c ≤ 57 then c.toNat - 48 else if 97 ≤ (c ||| 32) ∧ (c ||| 32) ≤ 102 then (c ||| 32).toNat - 87 else 255
/-- What stands at the beginning of a quoted string: a byte and how many it takes; 0: none. -/
def escP : Str → UInt8 × Nat
  | [] => (0, 0)
  | c :: r => if c ≠ 92 then (c, 1) else match r with
    | [] => (0, 0)
    | d :: r2 => if d = 110 then (10, 2) else if d = 34 ∨ d = 92 then (d, 2) else if d = 120 then (match r2 with
        | h :: l :: _ => if hexV h < 16 ∧ hexV l < 16 then (UInt8.ofNat (hexV h * 16 + hexV l), 4) else (0, 0)
        | _ => (0, 0)) else (0, 0)
/-- One byte of a quoted string. -/
def decP (s : Str) : Option (UInt8 × Nat) := if (escP s).2 ≠ 0 ∧ quoB (escP s).1 = s.take (escP s).2 then some (escP s) else none
theorem escP_quo : ∀ c : UInt8, c ≠ 34 ∨ True → ∀ t : Str, escP (quoB c ++ t) = (c, (quoB c).length) := by
  intro c _ t
  have key : ∀ n : Fin 256, (let c := UInt8.ofNat n.val; ((quoB c).length = 1 ∧ quoB c = [c] ∧ c ≠ 92) ∨ ((quoB c).length = 2 ∧ quoB c = [92, (quoB c).getD 1 0] ∧ ((quoB c).getD 1 0 = 110 ∧ c = 10 ∨ (quoB c).getD 1 0 = c ∧ (c = 34 ∨ c = 92))) ∨ ((quoB c).length = 4 ∧ quoB c = [92, 120, hexD (c.toNat / 16), hexD (c.toNat % 16)] ∧ hexV (hexD (c.toNat / 16)) < 16 ∧ hexV (hexD (c.toNat % 16)) < 16 ∧ UInt8.ofNat (hexV (hexD (c.toNat / 16)) * 16 + hexV (hexD (c.toNat % 16))) = c)) := by decide +kernel
  have hc := key ⟨c.toNat, c.toNat_lt⟩
  simp only [UInt8.ofNat_toNat] at hc
  rcases hc with ⟨h1, h2, h3⟩ | ⟨h1, h2, h3⟩ | ⟨h1, h2, h3, h4, h5⟩
  · rw [h1, h2]
    simp [escP, h3]
  · rw [h1, h2]
    rcases h3 with ⟨h3, h4⟩ | ⟨h3, h4⟩
    · rw [h3]
      simp [escP, h4]
    · rw [h3]
      rcases h4 with h4 | h4 <;> simp [escP, h4]
  · rw [h1, h2]
    simp [escP, h3, h4, h5]
theorem decP_quo (c : UInt8) (t : Str) : decP (quoB c ++ t) = some (c, (quoB c).length) := by
  unfold decP
  rw [escP_quo c (.inr trivial) t]
  have h0 : (quoB c).length ≠ 0 := by unfold quoB; split <;> (try split) <;> (try split) <;> simp
  simp [h0]
theorem decP_some {s : Str} {c : UInt8} {n : Nat} (h : decP s = some (c, n)) : n = (quoB c).length ∧ quoB c <+: s := by
  unfold decP at h
  split at h
  · rename_i hh
    injection h with h
    have h2 := hh.2
    rw [h] at h2
    simp only at h2
    have hp : quoB c <+: s := by rw [h2]; exact List.take_prefix _ _
    refine ⟨?_, hp⟩
    obtain ⟨t, ht⟩ := hp
    have h3 := escP_quo c (.inr trivial) t
    rw [ht, h] at h3
    injection h3
  · cases h
/-- What a quoted string at the beginning is, behind the bytes acc, at the place at. -/
def unqF : Nat → Str → Str → Nat → Option (Str × Nat)
  | 0, _, _, _ => none
  | _ + 1, [], _, _ => none
  | f + 1, c :: r, acc, at_ => if c = 34 then some (acc, at_ + 1) else match decP (c :: r) with
    | none => none
    | some (d, n) => unqF f ((c :: r).drop n) (acc ++ [d]) (at_ + n)
def unqS : Str → Option (Str × Nat)
  | 34 :: r => unqF (r.length + 1) r [] 1
  | _ => none

/-- The last k hex digits of h. -/
def hexR (h : Nat) : Nat → Str
  | 0 => []
  | k + 1 => hexD (h / 16 ^ k % 16) :: hexR h k
theorem hexR_len (h : Nat) : ∀ k, (hexR h k).length = k
  | 0 => rfl
  | k + 1 => by simp [hexR, hexR_len h k]
theorem hexR_pad {h m : Nat} (hm : h < 16 ^ m) : ∀ d, hexR h (m + d) = List.replicate d 48 ++ hexR h m
  | 0 => by simp
  | d + 1 => by
    have e : h / 16 ^ (m + d) = 0 := by
      apply Nat.div_eq_of_lt
      exact Nat.lt_of_lt_of_le hm (Nat.pow_le_pow_right (by omega) (by omega))
    rw [show m + (d + 1) = (m + d) + 1 by omega, hexR, e, hexR_pad hm d, List.replicate_succ]
    rfl
def P40 : Nat := 1099511628211
def B64 : Nat := 18446744073709551616
def O64 : Nat := 14695981039346656037
def fnvS (h c : Nat) : Nat := ((h ^^^ c) * P40) % B64
def fnv (l : Str) : Nat := l.foldl (fun h c => fnvS h c.toNat) O64
theorem fnv_snoc (l : Str) (c : UInt8) : fnv (l ++ [c]) = fnvS (fnv l) c.toNat := by unfold fnv; rw [List.foldl_append, List.foldl_cons, List.foldl_nil]
theorem fnvS_lt (h c : Nat) : fnvS h c < B64 := Nat.mod_lt _ (by unfold B64; omega)
theorem O64_lt : O64 < B64 := by unfold O64 B64; omega
theorem fnv_lt (l : Str) : fnv l < B64 := by
  rcases List.eq_nil_or_concat l with rfl | ⟨l', c, rfl⟩
  · exact O64_lt
  · rw [List.concat_eq_append, fnv_snoc]; exact fnvS_lt _ _
theorem B64_pow : B64 = 16 ^ 16 := by decide
def digS (l : Str) : Str := hexR (fnv l) 16

end Go.Proofs.YtbpicgmblpejoaaDoor
