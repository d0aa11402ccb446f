/- Texts of the proof of DecisionTexts, put together: NumD, DtpP, LayWra, LayAto, LayIto, NumW, LayCut, LnsB, RfA, TxtB, DtxA, LayB3, LayLen, DtxB, DlnP. -/
import Derived.Test.YtaidkmnbjbnciaaGreatDoorDecisionTextsZ9
import Derived.Test.YtaidkmnbjbnciaaGreatDoorDecisionTextsZ18
import Derived.Test.YtaidkmnbjbnciaaGreatDoorDecisionTextsZ19
import Derived.Test.YtaidkmnbjbnciaaGreatDoorDecisionTextsZ24
import Derived.Test.YtaidkmnbjbnciaaGreatDoorDecisionTextsZ25
import Derived.Test.YtaidkmnbjbnciaaGreatDoorDecisionTextsZ30
import Derived.Test.YtaidkmnbjbnciaaGreatDoorDecisionTextsZ31
import Derived.Test.YtaidkmnbjbnciaaGreatDoorDecisionTextsZ33
import Derived.Test.YtaidkmnbjbnciaaGreatDoorDecisionTextsZ34
import Derived.Test.YtaidkmnbjbnciaaGreatDoorDecisionTextsZ35
import Derived.Test.YtaidkmnbjbnciaaGreatDoorDecisionTextsZ36
import Derived.Test.YtaidkmnbjbnciaaGreatDoorDecisionTextsZ39
import Derived.Lib.Atoi
import Derived.Lib.ItoaMem
import Derived.Lib.ItoaLen
import Derived.Ground.NamesProg
import Derived.Shelf.Small.Wraps
import Derived.Shelf.Strings.Prefix
import Derived.Test.YtaidkmnbjbnciaaGreatDoorProg
import Derived.Shelf.Strconv.Atoi
import Derived.Shelf.Strconv.Itoa3
import Derived.Lib.SmallJoins
import Derived.Lib.QuietBelow
import Derived.Shelf.Strings.Cut
import Derived.Shelf.Strings.BuilderK
import Derived.Shelf.Strings.BuilderF
/- Numbers of at most nine digits, plain. -/
namespace Go.Proofs.YtaidkmnbjbnciaaGreatDoor
set_option linter.unusedVariables false
set_option linter.unusedSimpArgs false
theorem decFrom_digits : ∀ (t : Str) (acc n : Nat), 1 ≤ acc → Lib.decFrom acc t = some n → Lib.decDigits n = Lib.decDigits acc ++ t ∧ acc ≤ n
 | [], acc, n, _, h => by simp only [Lib.decFrom, Option.some.injEq] at h; subst h; simp
 | c :: t, acc, n, ha, h => by
  simp only [Lib.decFrom] at h
  cases hd : Lib.digitVal c with
  | none => simp [hd] at h
  | some e =>
   simp only [hd] at h
   obtain ⟨h1, h2, h3⟩ := Lib.digitVal_eq hd
   obtain ⟨k1, k2⟩ := decFrom_digits t (acc * 10 + e) n (by omega) h
   refine ⟨?_, by omega⟩
   rw [k1, Lib.decDigits, dif_neg (by omega)]
   have e1 : (acc * 10 + e) / 10 = acc := by omega
   have e2 : 48 + (acc * 10 + e) % 10 = c.toNat := by omega
   rw [e1, e2]
   simp
theorem decDigits_head : ∀ (k n : Nat), n ≤ k → 1 ≤ n → (Lib.decDigits n).headD 0 ≠ 48
 | 0, n, h, h1 => by omega
 | k + 1, n, h, h1 => by
  rw [Lib.decDigits]
  split
  ·rename_i hn
   show UInt8.ofNat (48 + n) ≠ 48
   intro he
   have := congrArg UInt8.toNat he
   simp at this
   omega
  ·rename_i hn
   have ih := decDigits_head k (n / 10) (by omega) (by omega)
   cases hd : Lib.decDigits (n / 10) with
   | nil => exact absurd hd (by rw [Lib.decDigits]; split <;> simp)
   | cons a b => rw [hd] at ih; simpa using ih
def digB (c : UInt8) : Bool := decide (48 ≤ c.toNat ∧ c.toNat ≤ 57)
theorem digB_some {c : UInt8} (h : digB c = true) : Lib.digitVal c = some (c.toNat - 48) := by
 unfold digB at h
 simp at h
 unfold Lib.digitVal
 rw [if_pos h]
theorem decFrom_all : ∀ (t : Str) (acc : Nat), (∀ c ∈ t, digB c = true) → ∃ n, Lib.decFrom acc t = some n
 | [], acc, _ => ⟨acc, rfl⟩
 | c :: t, acc, h => by
  obtain ⟨n, hn⟩ := decFrom_all t (acc * 10 + (c.toNat - 48)) (fun x hx => h x (List.mem_cons_of_mem _ hx))
  exact ⟨n, by simp only [Lib.decFrom, digB_some (h c (List.mem_cons_self ..))]; exact hn⟩
/-- Digits that are a number's own. -/
def canD (t : Str) : Prop := ¬ (1 < t.length ∧ t.headD 0 = 48)
theorem decDigits_canon {t : Str} {n : Nat} (h0 : t ≠ []) (hd : ∀ c ∈ t, digB c = true) (h : Lib.decFrom 0 t = some n) : (Lib.decDigits n = t ↔ canD t) ∧ (canD t → (n = 0 ↔ t = [48])) := by
 cases t with
 | nil => exact absurd rfl h0
 | cons c t =>
  have hc := digB_some (hd c (List.mem_cons_self ..))
  simp only [Lib.decFrom, hc] at h
  obtain ⟨h1, h2, _⟩ := Lib.digitVal_eq hc
  by_cases hz : c = 48
  ·subst hz
   have h' : Lib.decFrom 0 t = some n := by simpa using h
   constructor
   ·constructor
    ·intro he hcan
     obtain ⟨hl, _⟩ := hcan
     rcases Nat.lt_or_ge n 10 with hn | hn
     ·rw [Lib.decDigits, dif_pos hn] at he
      have := congrArg List.length he
      simp at this hl
      subst this
      simp at hl
     ·have := decDigits_head n n (Nat.le_refl _) (by omega)
      rw [he] at this
      exact this rfl
    ·intro hcan
     have : t = [] := by
      cases t with
      | nil => rfl
      | cons a b => exact absurd ⟨by simp, rfl⟩ hcan
     subst this
     simp only [Lib.decFrom, Option.some.injEq] at h'
     subst h'
     rw [Lib.decDigits, dif_pos (by omega)]
     rfl
   ·intro hcan
    have : t = [] := by
     cases t with
     | nil => rfl
     | cons a b => exact absurd ⟨by simp, rfl⟩ hcan
    subst this
    simp only [Lib.decFrom, Option.some.injEq] at h'
    simp [← h']
  ·have hc1 : 1 ≤ 0 * 10 + (c.toNat - 48) := by
    have : c.toNat ≠ 48 := fun he => hz (UInt8.toNat_inj.mp he)
    omega
   obtain ⟨k1, k2⟩ := decFrom_digits t _ n hc1 h
   have hcan : canD (c :: t) := fun hh => hz (by simpa using hh.2)
   have e : Lib.decDigits n = c :: t := by
    rw [k1, Lib.decDigits, dif_pos (by omega)]
    have : 48 + (0 * 10 + (c.toNat - 48)) = c.toNat := by omega
    rw [this]
    simp
   refine ⟨⟨fun _ => hcan, fun _ => e⟩, fun _ => ⟨fun h => by omega, fun h => ?_⟩⟩
   injection h with h1 h2
   exact absurd h1 hz
/-- A number of at most D digits, read. -/
def numT (s : Str) : Str := Lib.trimPrefix s [45]
def numMi (s : Str) : Bool := Lib.hasPrefix s [45]
def numD (D : Nat) (t : Str) : Prop := 1 ≤ t.length ∧ t.length ≤ D ∧ ∀ c ∈ t, digB c = true
def numC (s : Str) : Prop := canD (numT s) ∧ ¬ (numMi s = true ∧ numT s = [48])
instance (D : Nat) (s : Str) : Decidable (numD D s) := by unfold numD; infer_instance
instance (s : Str) : Decidable (numC s) := by unfold numC canD; infer_instance
def numQ (D : Nat) (s : Str) : Option Int := if numD D (numT s) ∧ numC s then Lib.atoi s else none
theorem num_cases (s : Str) : (numMi s = false ∧ numT s = s) ∨ (numMi s = true ∧ ∃ t, s = 45 :: t ∧ numT s = t) := by
 unfold numMi numT Lib.trimPrefix
 cases s with
 | nil => exact .inl ⟨by rfl, by rfl⟩
 | cons c t =>
  by_cases h : c = 45
  ·subst h
   exact .inr ⟨by simp [Lib.hasPrefix], t, rfl, by simp [Lib.hasPrefix]⟩
  ·have : Lib.hasPrefix (c :: t) [45] = false := by
    unfold Lib.hasPrefix
    simp [List.isPrefixOf]
    exact fun e => h e.symm
   exact .inl ⟨this, by rw [this]; rfl⟩
theorem num_atoi {D : Nat} {s : Str} (h : numD D (numT s)) (hD : D ≤ 9) : ∃ n, Lib.atoi s = some n ∧ -1000000000 < n ∧ n < 1000000000 ∧ (Lib.itoa n = s ↔ numC s) ∧ s.length ≤ 10 := by
 obtain ⟨h1, h2', h3⟩ := h
 have h2 : (numT s).length ≤ 9 := by omega
 clear h2'
 obtain ⟨m, hm⟩ := decFrom_all (numT s) 0 h3
 have hlt := Lib.decFrom_lt _ _ _ hm
 have hne : numT s ≠ [] := by intro e; rw [e] at h1; simp at h1
 have hb : m < 1000000000 := by
  have : 10 ^ (numT s).length ≤ 10 ^ 9 := Nat.pow_le_pow_right (by omega) h2
  omega
 obtain ⟨k1, k2⟩ := decDigits_canon hne h3 hm
 rcases num_cases s with ⟨e1, e2⟩ | ⟨e1, t, e2, e3⟩
 ·rw [e2] at h1 h2 h3 hm k1 k2 hne
  cases s with
  | nil => exact absurd rfl hne
  | cons c t =>
   have hc := h3 c (List.mem_cons_self ..)
   unfold digB at hc
   simp at hc
   have n1 : c ≠ 45 := by intro e; subst e; simp at hc
   have n2 : c ≠ 43 := by intro e; subst e; simp at hc
   refine ⟨(m : Int), ?_, by omega, by omega, ?_, by simp at h2 ⊢; omega⟩
   ·unfold Lib.atoi Lib.decNat
    simp [n1, n2, hm]
   ·rw [Lib.itoa_nonneg, k1]
    unfold numC
    rw [e2, e1]
    simp
 ·rw [e3] at h1 h2 h3 hm k1 k2 hne
  subst e2
  refine ⟨-(m : Int), ?_, by omega, by omega, ?_, by simp; omega⟩
  ·unfold Lib.atoi Lib.decNat
   cases t with
   | nil => exact absurd rfl hne
   | cons c r => simp [hm]
  ·unfold numC
   rw [e3, e1]
   rcases Nat.eq_zero_or_pos m with hz | hz
   ·subst hz
    rw [show (-((0 : Nat) : Int)) = ((0 : Nat) : Int) by rfl, Lib.itoa_nonneg]
    constructor
    ·intro he
     have := decDigits_head 0 0 (Nat.le_refl _)
     rw [Lib.decDigits, dif_pos (by omega)] at he
     injection he with he _
     exact absurd he (by decide)
    ·rintro ⟨c1, c2⟩
     exact absurd ⟨rfl, (k2 c1).mp rfl⟩ c2
   ·rw [Lib.itoa_neg m hz]
    simp only [List.cons.injEq, true_and]
    rw [k1]
    constructor
    ·intro c1
     exact ⟨c1, fun hh => by have := (k2 c1).mpr hh; omega⟩
    ·exact fun h => h.1
theorem numQ_some {D : Nat} {s : Str} {n : Int} (h : numQ D s = some n) (hD : D ≤ 9) : -1000000000 < n ∧ n < 1000000000 := by
 unfold numQ at h
 split at h
 ·rename_i hh
  obtain ⟨k, e, h1, h2, _⟩ := num_atoi hh.1 hD
  rw [e] at h
  injection h with h
  omega
 ·cases h

end Go.Proofs.YtaidkmnbjbnciaaGreatDoor

/- The texts of decisions (plain): how they are written, what both readers make of a line. -/
namespace Go.Proofs.YtaidkmnbjbnciaaGreatDoor
set_option linter.unusedVariables false
set_option linter.unusedSimpArgs false
open Go.RowKit

def wDecision : Str := [100, 101, 99, 105, 115, 105, 111, 110]
def wFirst : Str := [102, 105, 114, 115, 116]
def wSecond : Str := [115, 101, 99, 111, 110, 100]
def secW (b : Bool) : Str := if b then wSecond else wFirst
def choW (c : ChoR) : Str := (c.field ++ [61]) ++ Lib.join c.ch [44]
def decH (x : DecR) : List Str := [wDecision, Lib.itoa x.no, Lib.itoa x.at_, x.rev, x.item, secW x.sec]
def decW (x : DecR) : List Str := decH x ++ x.vals.map choW
def decsT (xs : List DecR) : Str := (xs.map fun x => lnW (decW x)).flatten
theorem decsT_snoc {xs : List DecR} {k : Nat} (h : k < xs.length) : decsT (xs.take (k + 1)) = decsT (xs.take k) ++ lnW (decW xs[k]) := by
 unfold decsT
 rw [List.take_succ_eq_append_getElem h, List.map_append, List.flatten_append]
 simp
theorem decsT_take (xs : List DecR) (k : Nat) : (decsT (xs.take k)).length ≤ (decsT xs).length := by
 have h : decsT xs = decsT (xs.take k) ++ decsT (xs.drop k) := by
  unfold decsT
  rw [← List.flatten_append, ← List.map_append, List.take_append_drop]
 rw [h, List.length_append]
 omega
theorem join44_len (ws : List Str) : (Lib.join ws [44]).length ≤ (ws.map fun w => w.length + 1).sum := by
 cases ws with
 | nil => simp [Lib.join_nil]
 | cons x r =>
  rw [Lib.join_cons, List.length_append, joinTail_len]
  simp
theorem choW_len {c : ChoR} (h : ChoM 4 3 c) : (choW c).length ≤ 20 := by
 obtain ⟨h1, h2, h3⟩ := h
 have a := join44_len c.ch
 have b := sum_le h3
 have e : (choW c).length = c.field.length + 1 + (Lib.join c.ch [44]).length := by unfold choW; simp; omega
 omega
theorem decW_len {x : DecR} (h : DecM 4 3 x) : (lnW (decW x)).length ≤ 155 := by
 obtain ⟨h1, h2, h3, h4, a1, a2, a3, a4⟩ := h
 have h := joinT_len (decW x)
 have n1 := Lib.itoa_length_le x.no (by omega) (by omega)
 have n2 := Lib.itoa_length_le x.at_ (by omega) (by omega)
 have s1 : (secW x.sec).length ≤ 6 := by unfold secW; split <;> decide
 have s2 : ((x.vals.map choW).map fun w => w.length + 1).sum ≤ (20 + 1) * (x.vals.map choW).length := sum_le (fun w hw => by
  obtain ⟨c, hc, rfl⟩ := List.mem_map.1 hw
  exact choW_len (a4 c hc))
 rw [List.length_map] at s2
 have s3 : wDecision.length = 8 := rfl
 have e : ((decW x).map fun w => w.length + 1).sum = (wDecision.length + 1) + (((Lib.itoa x.no).length + 1) + (((Lib.itoa x.at_).length + 1) + ((x.rev.length + 1) + ((x.item.length + 1) + (((secW x.sec).length + 1) + ((x.vals.map choW).map fun w => w.length + 1).sum))))) := by
  unfold decW decH
  simp only [List.cons_append, List.nil_append, List.map_cons, List.sum_cons]
 unfold lnW
 rw [List.length_append, List.length_singleton]
 omega
theorem decsT_len {xs : List DecR} (h : ∀ x ∈ xs, DecM 4 3 x) : (decsT xs).length ≤ 155 * xs.length :=
 flatT_len _ (fun x hx => decW_len (h x hx))
/-- A choice, a decision, read. -/
abbrev ValK := Str × List Str
abbrev DecK := Int × Int × Str × Str × Bool × List ValK
def valRd (s : Str) : Option ValK := match fstL 61 s with
 | none => none
 | some p => if p.1 = [] ∨ [] ∈ spl 44 p.2 then none else some (p.1, spl 44 p.2)
def valsRd : List Str → Option (List ValK)
 | [] => some []
 | s :: t => match valRd s with
  | none => none
  | some c => (valsRd t).map fun r => c :: r
theorem valsRd_app : ∀ (l : List Str) (s : Str), valsRd (l ++ [s]) = match valsRd l with
  | none => none
  | some r => (valRd s).map fun c => r ++ [c]
 | [], s => by
  show (match valRd s with | none => none | some c => (some []).map fun r => c :: r) = _
  cases valRd s <;> rfl
 | a :: t, s => by
  show (match valRd a with | none => none | some c => (valsRd (t ++ [s])).map fun r => c :: r) = match (match valRd a with | none => none | some c => (valsRd t).map fun r => c :: r) with | none => none | some r => (valRd s).map fun c => r ++ [c]
  cases valRd a with
  | none => rfl
  | some c =>
   simp only [valsRd_app t s]
   cases valsRd t with
   | none => rfl
   | some r => cases valRd s <;> rfl
theorem valsRd_step {l : List Str} {k : Nat} (h : k < l.length) {r : List ValK} {c : ValK} (hr : valsRd (l.take k) = some r) (hc : valRd l[k] = some c) : valsRd (l.take (k + 1)) = some (r ++ [c]) := by
 rw [List.take_succ_eq_append_getElem h, valsRd_app, hr, hc]
 rfl
theorem valsRd_fail : ∀ {l : List Str} {s : Str}, s ∈ l → valRd s = none → valsRd l = none
 | a :: t, s, h, hs => by
  show (match valRd a with | none => none | some c => (valsRd t).map fun r => c :: r) = none
  rcases List.mem_cons.1 h with e | e
  ·rw [← e, hs]
  ·rw [valsRd_fail e hs]
   cases valRd a <;> rfl
theorem valsRd_B {M : Nat} : ∀ {l : List Str} {r : List ValK}, valsRd l = some r → (∀ s ∈ l, s.length ≤ M) → r.length = l.length ∧ ∀ c ∈ r, c.1.length ≤ M ∧ c.2.length ≤ M ∧ ∀ s ∈ c.2, s.length ≤ M
 | [], r, h, _ => by cases h; exact ⟨rfl, fun c hc => absurd hc (by simp)⟩
 | a :: t, r, h, hM => by
  unfold valsRd at h
  cases ha : valRd a with
  | none => rw [ha] at h; cases h
  | some c =>
   rw [ha] at h
   cases ht : valsRd t with
   | none => rw [ht] at h; cases h
   | some r2 =>
    rw [ht] at h
    cases h
    obtain ⟨i1, i2⟩ := valsRd_B ht (fun s hs => hM s (List.mem_cons_of_mem _ hs))
    refine ⟨by simp [i1], fun x hx => ?_⟩
    rcases List.mem_cons.1 hx with e | e
    ·subst e
     have hl := hM a List.mem_cons_self
     unfold valRd at ha
     cases hf : fstL 61 a with
     | none => rw [hf] at ha; cases ha
     | some p =>
      rw [hf] at ha
      simp only at ha
      split at ha
      ·cases ha
      ·cases ha
       obtain ⟨e1, _⟩ := fstL_some hf
       have e2 := congrArg List.length e1
       rw [List.length_append, List.length_cons] at e2
       have e3 := spl_count 44 p.2
       exact ⟨by show p.1.length ≤ M; omega, by show (spl 44 p.2).length ≤ M; omega, fun s hs => by have := spl_len (show s ∈ spl 44 p.2 from hs); omega⟩
    ·exact i2 x e
def decRd (w : List Str) : Option DecK :=
 if 6 ≤ w.length ∧ w.getD 0 [] = wDecision ∧ (w.getD 5 [] = wFirst ∨ w.getD 5 [] = wSecond) then
  match numQ 9 (w.getD 1 []) with
  | none => none
  | some a => match numQ 9 (w.getD 2 []) with
   | none => none
   | some b => (valsRd (w.drop 6)).map fun v => (a, b, w.getD 3 [], w.getD 4 [], decide (w.getD 5 [] = wSecond), v)
 else none
def tkD (S : List DecK) (w : List Str) : Option (List DecK) := (decRd w).map fun q => S ++ [q]
def lnD : List DecK → Str → Option (List DecK) := wdF tkD
/-- What has been read is not too great. -/
def decKB (M : Nat) (q : DecK) : Prop := (-1000000000 < q.1 ∧ q.1 < 1000000000) ∧ (-1000000000 < q.2.1 ∧ q.2.1 < 1000000000) ∧ q.2.2.1.length ≤ M ∧ q.2.2.2.1.length ≤ M ∧ q.2.2.2.2.2.length ≤ M ∧ ∀ c ∈ q.2.2.2.2.2, c.1.length ≤ M ∧ c.2.length ≤ M ∧ ∀ s ∈ c.2, s.length ≤ M
theorem decRd_B {w : List Str} {q : DecK} {M : Nat} (h : decRd w = some q) (hM : ∀ s ∈ w, s.length ≤ M) (hl : w.length ≤ M) : decKB M q ∧ wDecision ∈ w := by
 unfold decRd at h
 split at h
 rotate_left
 ·cases h
 rename_i hc
 cases ha : numQ 9 (w.getD 1 []) with
 | none => rw [ha] at h; cases h
 | some a =>
  rw [ha] at h
  simp only at h
  cases hb : numQ 9 (w.getD 2 []) with
  | none => rw [hb] at h; cases h
  | some b =>
   rw [hb] at h
   simp only at h
   cases hv : valsRd (w.drop 6) with
   | none => rw [hv] at h; cases h
   | some v =>
    rw [hv] at h
    cases h
    obtain ⟨v1, v2⟩ := valsRd_B hv (fun s hs => hM s (List.mem_of_mem_drop hs))
    rw [List.length_drop] at v1
    refine ⟨⟨numQ_some ha (by omega), numQ_some hb (by omega), getD_mem hM, getD_mem hM, by show v.length ≤ M; omega, v2⟩, ?_⟩
    rw [← hc.2.1]
    unfold List.getD
    rw [List.getElem?_eq_getElem (show 0 < w.length by omega)]
    exact List.getElem_mem _
theorem lnD_B {S S2 : List DecK} {s : Str} {M : Nat} (h : lnD S s = some S2) (hM : s.length ≤ M) : 7 ≤ s.length ∧ S2.length = S.length + 1 ∧ ∀ q ∈ S2, q ∈ S ∨ decKB M q := by
 unfold lnD wdF at h
 split at h
 ·cases h
 rename_i h0
 have hw : ∀ w ∈ wordsL s, w.length ≤ s.length := fun w hw => by
  unfold wordsL at hw; rw [split_byte] at hw
  exact spl_len hw
 have hn : 2 * (wordsL s).length ≤ s.length + 1 := by
  unfold wordsL at h0 ⊢; rw [split_byte] at h0 ⊢
  exact spl_many h0
 have hwn : 0 < (wordsL s).length := by
  unfold wordsL; rw [split_byte]
  exact List.length_pos_iff.2 (spl_ne _ _)
 generalize wordsL s = w at *
 unfold tkD at h
 cases hq : decRd w with
 | none => rw [hq] at h; cases h
 | some q =>
  rw [hq] at h
  cases h
  obtain ⟨b1, b2⟩ := decRd_B hq (M := M) (fun x hx => by have := hw x hx; omega) (by omega)
  have h8 := hw _ b2
  have h9 : wDecision.length = 8 := rfl
  refine ⟨by omega, by simp, fun x hx => ?_⟩
  rcases List.mem_append.1 hx with e | e
  ·exact .inl e
  ·rw [List.mem_singleton.1 e]; exact .inr b1
theorem rdD_G {M : Nat} {wh : Bool} : ∀ {ls : List Str} {i : Nat} {S S2 : List DecK}, rdG lnD wh ls i S = .inr S2 → (∀ l ∈ ls, l.length ≤ M) → (∀ l ∈ ls, 7 ≤ l.length) ∧ S2.length = S.length + ls.length ∧ ∀ q ∈ S2, q ∈ S ∨ decKB M q
 | [], _, S, S2, h, _ => by cases h; exact ⟨fun l hl => absurd hl (by simp), by simp, fun a ha => .inl ha⟩
 | l :: t, i, S, S2, h, hM => by
  unfold rdG at h
  cases hf : lnD S l with
  | none => rw [hf] at h; cases h
  | some S1 =>
   rw [hf] at h
   simp only at h
   split at h
   ·cases h
   obtain ⟨a1, a2, a3⟩ := lnD_B hf (hM l List.mem_cons_self)
   obtain ⟨b1, b2, b3⟩ := rdD_G h (fun x hx => hM x (List.mem_cons_of_mem _ hx))
   refine ⟨fun x hx => ?_, by rw [List.length_cons]; omega, fun q hq => ?_⟩
   ·rcases List.mem_cons.1 hx with e | e
    ·rw [e]; exact a1
    ·exact b1 x e
   ·rcases b3 q hq with e | e
    ·exact a3 q e
    ·exact .inr e
/-- What is read from a text. -/
theorem rdD_B {s : Str} {S : List DecK} {M : Nat} (h : rdG lnD (wholeQ s) (linesQ s) 0 [] = .inr S) (hM : s.length ≤ M) : 8 * S.length ≤ M + 1 ∧ ∀ q ∈ S, decKB M q := by
 obtain ⟨h1, h2, h3⟩ := rdD_G h (M := M) (fun l hl => by have := linesQ_len hl; omega)
 refine ⟨?_, fun q hq => (h3 q hq).resolve_left (by simp)⟩
 have h5 : (7 + 1) * (linesQ s).length ≤ ((linesQ s).map fun w => w.length + 1).sum := sum_ge h1
 have h6 : ((linesQ s).map fun w => w.length + 1).sum ≤ s.length + 1 := by
  unfold linesQ
  split
  ·simp
  ·rw [spl_sum 10 _ _ (Nat.le_refl _)]
   have := trimSuffix_len s [10]
   omega
 rw [List.length_nil] at h2
 omega
/-- A decision with this key is not too great for the program's checks. -/
theorem decB_key {x : DecR} {M : Nat} (h : decKB M x.key) (hM : M ≤ 1000) : DecB x := by
 obtain ⟨⟨a1, a2⟩, ⟨a3, a4⟩, a5, a6, a7, a8⟩ := h
 simp only [DecR.key] at a1 a2 a3 a4 a5 a6 a7 a8
 rw [List.length_map] at a7
 refine ⟨by omega, by omega, by omega, by omega, by unfold StB; omega, by unfold StB; omega, by omega, fun c hc => ?_⟩
 obtain ⟨b1, b2, b3⟩ := a8 _ (List.mem_map.2 ⟨c, hc, rfl⟩)
 simp only at b1 b2 b3
 exact ⟨by unfold StB; omega, by omega, fun s hs => by have := b3 s hs; omega⟩

end Go.Proofs.YtaidkmnbjbnciaaGreatDoor

/-
 DERIVED: THE SHELF's CONTRACTS AT THIS DUMP, IN PLAIN WORDS (tools/lay-plain.mjs out of 'YtaidkmnbjbnciaaGreatDoorLayWra.lean', which tools/lay-shelf.mjs wrote): THE SAME DECLARATIONS UNDER THE SAME NAMES: 'import', 'namespace', 'open', 'def', 'theorem' AND NOTHING ELSE: no command of the shelf's: FOR A HAND-IN. Each laying: the table of numbers ('.._ren') and one theorem, a field a fact of the dump's own or the kernel's comparison; each contract: ONE APPLICATION.
-/
namespace Go.Proofs
open Go.Shelf
def Tryz.lays103_ren : Go.Shelf.Ren := ⟨fun | 103 => 185 | 210 => 220 | 206 => 226 | n => n, fun | 9 => 9 | 4 => 4 | 24 => 224 | 3 => 3 | n => n, fun | n => n⟩
theorem Tryz.lays103 : Go.Proofs.Lays.n103 Tryz.prog Tryz.lays103_ren := {
 mixed := by kernel_rfl
 f103 := Tryz.func185.trans (congrArg some (by kernel_rfl))
 f206 := Tryz.func226.trans (congrArg some (by kernel_rfl))
 f210 := Tryz.func220.trans (congrArg some (by kernel_rfl))
 t3 := Tryz.underlying3
 a3 := Tryz.isAgg3
 z3 := Tryz.sizeOf3
 v3 := Tryz.zeroValue3
 t4 := Tryz.underlying4
 a4 := Tryz.isAgg4
 z4 := Tryz.sizeOf4
 v4 := Tryz.zeroValue4
 t9 := Tryz.underlying9
 a9 := Tryz.isAgg9
 z9 := Tryz.sizeOf9
 v9 := Tryz.zeroValue9
 t24 := Tryz.underlying224
 a24 := Tryz.isAgg224
 z24 := Tryz.sizeOf224
 v24 := Tryz.zeroValue224 }
def Tryz.lays101_ren : Go.Shelf.Ren := ⟨fun | 101 => 187 | 208 => 223 | 206 => 226 | n => n, fun | 9 => 9 | 4 => 4 | 3 => 3 | n => n, fun | n => n⟩
theorem Tryz.lays101 : Go.Proofs.Lays.n101 Tryz.prog Tryz.lays101_ren := {
 mixed := by kernel_rfl
 f101 := Tryz.func187.trans (congrArg some (by kernel_rfl))
 f206 := Tryz.func226.trans (congrArg some (by kernel_rfl))
 f208 := Tryz.func223.trans (congrArg some (by kernel_rfl))
 t3 := Tryz.underlying3
 a3 := Tryz.isAgg3
 z3 := Tryz.sizeOf3
 v3 := Tryz.zeroValue3
 t4 := Tryz.underlying4
 a4 := Tryz.isAgg4
 z4 := Tryz.sizeOf4
 v4 := Tryz.zeroValue4
 t9 := Tryz.underlying9
 a9 := Tryz.isAgg9
 z9 := Tryz.sizeOf9
 v9 := Tryz.zeroValue9 }
end Go.Proofs

/-
 DERIVED: THE SHELF's CONTRACTS AT THIS DUMP, IN PLAIN WORDS (tools/lay-plain.mjs out of 'YtaidkmnbjbnciaaGreatDoorLayAto.lean', which tools/lay-shelf.mjs wrote): THE SAME DECLARATIONS UNDER THE SAME NAMES: 'import', 'namespace', 'open', 'def', 'theorem' AND NOTHING ELSE: no command of the shelf's: FOR A HAND-IN. Each laying: the table of numbers ('.._ren') and one theorem, a field a fact of the dump's own or the kernel's comparison; each contract: ONE APPLICATION.
-/
namespace Go.Proofs
open Go.Shelf
def Tryz.lays172_ren : Go.Shelf.Ren := ⟨fun | 172 => 186 | 244 => 221 | 245 => 222 | 247 => 258 | 279 => 259 | 280 => 260 | 281 => 261 | 282 => 262 | 287 => 275 | 316 => 130 | 171 => 83 | 205 => 276 | 321 => 280 | 322 => 281 | 243 => 135 | 246 => 183 | 283 => 216 | 284 => 217 | 285 => 218 | 286 => 219 | 129 => 236 | 317 => 254 | 318 => 255 | 319 => 256 | 320 => 257 | 337 => 273 | 338 => 274 | n => n, fun | 9 => 9 | 3 => 3 | 75 => 136 | 76 => 137 | 4 => 4 | 5 => 5 | 167 => 297 | 37 => 130 | 0 => 0 | 85 => 298 | 2 => 2 | 168 => 300 | 53 => 238 | 175 => 313 | 46 => 231 | 210 => 316 | 127 => 192 | 145 => 326 | 143 => 324 | 21 => 21 | 171 => 258 | 173 => 261 | 212 => 295 | 51 => 244 | 20 => 20 | 213 => 296 | 232 => 321 | 233 => 322 | 80 => 140 | n => n, fun | 15 => 6 | 16 => 7 | 17 => 5 | 18 => 8 | 19 => 9 | n => n⟩
theorem Tryz.lays172 : Go.Proofs.Lays.n172 Tryz.prog Tryz.lays172_ren := {
 mixed := by kernel_rfl
 f129 := Tryz.func236.trans (congrArg some (by kernel_rfl))
 f171 := Tryz.func83.trans (congrArg some (by kernel_rfl))
 f172 := Tryz.func186.trans (congrArg some (by kernel_rfl))
 f205 := Tryz.func276.trans (congrArg some (by kernel_rfl))
 f243 := Tryz.func135.trans (congrArg some (by kernel_rfl))
 f244 := Tryz.func221.trans (congrArg some (by kernel_rfl))
 f245 := Tryz.func222.trans (congrArg some (by kernel_rfl))
 f246 := Tryz.func183.trans (congrArg some (by kernel_rfl))
 f247 := Tryz.func258.trans (congrArg some (by kernel_rfl))
 f279 := Tryz.func259.trans (congrArg some (by kernel_rfl))
 f280 := Tryz.func260.trans (congrArg some (by kernel_rfl))
 f281 := Tryz.func261.trans (congrArg some (by kernel_rfl))
 f282 := Tryz.func262.trans (congrArg some (by kernel_rfl))
 f283 := Tryz.func216.trans (congrArg some (by kernel_rfl))
 f284 := Tryz.func217.trans (congrArg some (by kernel_rfl))
 f285 := Tryz.func218.trans (congrArg some (by kernel_rfl))
 f286 := Tryz.func219.trans (congrArg some (by kernel_rfl))
 f287 := Tryz.func275.trans (congrArg some (by kernel_rfl))
 f316 := Tryz.func130.trans (congrArg some (by kernel_rfl))
 f317 := Tryz.func254.trans (congrArg some (by kernel_rfl))
 f318 := Tryz.func255.trans (congrArg some (by kernel_rfl))
 f319 := Tryz.func256.trans (congrArg some (by kernel_rfl))
 f320 := Tryz.func257.trans (congrArg some (by kernel_rfl))
 f321 := Tryz.func280.trans (congrArg some (by kernel_rfl))
 f322 := Tryz.func281.trans (congrArg some (by kernel_rfl))
 f337 := Tryz.func273.trans (congrArg some (by kernel_rfl))
 f338 := Tryz.func274.trans (congrArg some (by kernel_rfl))
 t0 := Tryz.underlying0
 a0 := Tryz.isAgg0
 z0 := Tryz.sizeOf0
 v0 := Tryz.zeroValue0
 t2 := Tryz.underlying2
 a2 := Tryz.isAgg2
 z2 := Tryz.sizeOf2
 v2 := Tryz.zeroValue2
 t3 := Tryz.underlying3
 a3 := Tryz.isAgg3
 z3 := Tryz.sizeOf3
 v3 := Tryz.zeroValue3
 t4 := Tryz.underlying4
 a4 := Tryz.isAgg4
 z4 := Tryz.sizeOf4
 v4 := Tryz.zeroValue4
 t5 := Tryz.underlying5
 a5 := Tryz.isAgg5
 z5 := Tryz.sizeOf5
 v5 := Tryz.zeroValue5
 t9 := Tryz.underlying9
 a9 := Tryz.isAgg9
 z9 := Tryz.sizeOf9
 v9 := Tryz.zeroValue9
 t20 := Tryz.underlying20
 a20 := Tryz.isAgg20
 z20 := Tryz.sizeOf20
 v20 := Tryz.zeroValue20
 t21 := Tryz.underlying21
 a21 := Tryz.isAgg21
 z21 := Tryz.sizeOf21
 v21 := Tryz.zeroValue21
 t37 := Tryz.underlying130
 a37 := Tryz.isAgg130
 z37 := Tryz.sizeOf130
 v37 := Tryz.zeroValue130
 t46 := Tryz.underlying231
 a46 := Tryz.isAgg231
 z46 := Tryz.sizeOf231
 v46 := Tryz.zeroValue231
 t51 := Tryz.underlying244
 a51 := Tryz.isAgg244
 z51 := Tryz.sizeOf244
 v51 := Tryz.zeroValue244
 t53 := Tryz.underlying238
 a53 := Tryz.isAgg238
 z53 := Tryz.sizeOf238
 v53 := Tryz.zeroValue238
 t75 := Tryz.underlying136
 a75 := Tryz.isAgg136
 z75 := Tryz.sizeOf136
 v75 := Tryz.zeroValue136
 t76 := Tryz.underlying137
 a76 := Tryz.isAgg137
 z76 := Tryz.sizeOf137
 v76 := Tryz.zeroValue137
 t85 := Tryz.underlying298
 a85 := Tryz.isAgg298
 z85 := Tryz.sizeOf298
 v85 := Tryz.zeroValue298
 t127 := Tryz.underlying192
 a127 := Tryz.isAgg192
 z127 := Tryz.sizeOf192
 v127 := Tryz.zeroValue192
 t143 := Tryz.underlying324
 a143 := Tryz.isAgg324
 z143 := Tryz.sizeOf324
 v143 := Tryz.zeroValue324
 t145 := Tryz.underlying326
 a145 := Tryz.isAgg326
 z145 := Tryz.sizeOf326
 v145 := Tryz.zeroValue326
 t167 := Tryz.underlying297
 a167 := Tryz.isAgg297
 z167 := Tryz.sizeOf297
 v167 := Tryz.zeroValue297
 t168 := Tryz.underlying300
 a168 := Tryz.isAgg300
 z168 := Tryz.sizeOf300
 v168 := Tryz.zeroValue300
 t171 := Tryz.underlying258
 a171 := Tryz.isAgg258
 z171 := Tryz.sizeOf258
 v171 := Tryz.zeroValue258
 t173 := Tryz.underlying261
 a173 := Tryz.isAgg261
 z173 := Tryz.sizeOf261
 v173 := Tryz.zeroValue261
 t175 := Tryz.underlying313
 a175 := Tryz.isAgg313
 z175 := Tryz.sizeOf313
 v175 := Tryz.zeroValue313
 t210 := Tryz.underlying316
 a210 := Tryz.isAgg316
 z210 := Tryz.sizeOf316
 v210 := Tryz.zeroValue316
 t212 := Tryz.underlying295
 a212 := Tryz.isAgg295
 z212 := Tryz.sizeOf295
 v212 := Tryz.zeroValue295
 t213 := Tryz.underlying296
 a213 := Tryz.isAgg296
 z213 := Tryz.sizeOf296
 t232 := Tryz.underlying321
 a232 := Tryz.isAgg321
 z232 := Tryz.sizeOf321
 v232 := Tryz.zeroValue321
 t233 := Tryz.underlying322
 a233 := Tryz.isAgg322
 z233 := Tryz.sizeOf322
 v233 := Tryz.zeroValue322
 g15 := by kernel_rfl
 g16 := by kernel_rfl
 g17 := by kernel_rfl
 g18 := by kernel_rfl
 g19 := by kernel_rfl }
end Go.Proofs

/-
 DERIVED: THE SHELF's CONTRACTS AT THIS DUMP, IN PLAIN WORDS (tools/lay-plain.mjs out of 'YtaidkmnbjbnciaaGreatDoorLayIto.lean', which tools/lay-shelf.mjs wrote): THE SAME DECLARATIONS UNDER THE SAME NAMES: 'import', 'namespace', 'open', 'def', 'theorem' AND NOTHING ELSE: no command of the shelf's: FOR A HAND-IN. Each laying: the table of numbers ('.._ren') and one theorem, a field a fact of the dump's own or the kernel's comparison; each contract: ONE APPLICATION.
-/
namespace Go.Proofs
open Go.Shelf
def Tryz.laysM171_ren : Go.Shelf.Ren := ⟨fun | 171 => 83 | 243 => 135 | 246 => 183 | 283 => 216 | 284 => 217 | 285 => 218 | 286 => 219 | 129 => 236 | 317 => 254 | 318 => 255 | 319 => 256 | 320 => 257 | 337 => 273 | 338 => 274 | n => n, fun | 3 => 3 | 9 => 9 | 2 => 2 | 4 => 4 | 171 => 258 | 0 => 0 | 53 => 238 | 37 => 130 | 5 => 5 | 173 => 261 | 212 => 295 | 51 => 244 | 20 => 20 | 213 => 296 | 46 => 231 | 232 => 321 | 233 => 322 | n => n, fun | 17 => 5 | 18 => 8 | 19 => 9 | n => n⟩
theorem Tryz.laysM171 : Go.Proofs.LaysM.n171 Tryz.prog Tryz.laysM171_ren := {
 mixed := by kernel_rfl
 f129 := Tryz.func236.trans (congrArg some (by kernel_rfl))
 f171 := Tryz.func83.trans (congrArg some (by kernel_rfl))
 f243 := Tryz.func135.trans (congrArg some (by kernel_rfl))
 f246 := Tryz.func183.trans (congrArg some (by kernel_rfl))
 f283 := Tryz.func216.trans (congrArg some (by kernel_rfl))
 f284 := Tryz.func217.trans (congrArg some (by kernel_rfl))
 f285 := Tryz.func218.trans (congrArg some (by kernel_rfl))
 f286 := Tryz.func219.trans (congrArg some (by kernel_rfl))
 f317 := Tryz.func254.trans (congrArg some (by kernel_rfl))
 f318 := Tryz.func255.trans (congrArg some (by kernel_rfl))
 f319 := Tryz.func256.trans (congrArg some (by kernel_rfl))
 f320 := Tryz.func257.trans (congrArg some (by kernel_rfl))
 f337 := Tryz.func273.trans (congrArg some (by kernel_rfl))
 f338 := Tryz.func274.trans (congrArg some (by kernel_rfl))
 t0 := Tryz.underlying0
 a0 := Tryz.isAgg0
 z0 := Tryz.sizeOf0
 v0 := Tryz.zeroValue0
 t2 := Tryz.underlying2
 a2 := Tryz.isAgg2
 z2 := Tryz.sizeOf2
 v2 := Tryz.zeroValue2
 t3 := Tryz.underlying3
 a3 := Tryz.isAgg3
 z3 := Tryz.sizeOf3
 v3 := Tryz.zeroValue3
 t4 := Tryz.underlying4
 a4 := Tryz.isAgg4
 z4 := Tryz.sizeOf4
 v4 := Tryz.zeroValue4
 t5 := Tryz.underlying5
 a5 := Tryz.isAgg5
 z5 := Tryz.sizeOf5
 v5 := Tryz.zeroValue5
 t9 := Tryz.underlying9
 a9 := Tryz.isAgg9
 z9 := Tryz.sizeOf9
 v9 := Tryz.zeroValue9
 t20 := Tryz.underlying20
 a20 := Tryz.isAgg20
 z20 := Tryz.sizeOf20
 v20 := Tryz.zeroValue20
 t37 := Tryz.underlying130
 a37 := Tryz.isAgg130
 z37 := Tryz.sizeOf130
 v37 := Tryz.zeroValue130
 t46 := Tryz.underlying231
 a46 := Tryz.isAgg231
 z46 := Tryz.sizeOf231
 v46 := Tryz.zeroValue231
 t51 := Tryz.underlying244
 a51 := Tryz.isAgg244
 z51 := Tryz.sizeOf244
 v51 := Tryz.zeroValue244
 t53 := Tryz.underlying238
 a53 := Tryz.isAgg238
 z53 := Tryz.sizeOf238
 v53 := Tryz.zeroValue238
 t171 := Tryz.underlying258
 a171 := Tryz.isAgg258
 z171 := Tryz.sizeOf258
 v171 := Tryz.zeroValue258
 t173 := Tryz.underlying261
 a173 := Tryz.isAgg261
 z173 := Tryz.sizeOf261
 v173 := Tryz.zeroValue261
 t212 := Tryz.underlying295
 a212 := Tryz.isAgg295
 z212 := Tryz.sizeOf295
 v212 := Tryz.zeroValue295
 t213 := Tryz.underlying296
 a213 := Tryz.isAgg296
 z213 := Tryz.sizeOf296
 t232 := Tryz.underlying321
 a232 := Tryz.isAgg321
 z232 := Tryz.sizeOf321
 v232 := Tryz.zeroValue321
 t233 := Tryz.underlying322
 a233 := Tryz.isAgg322
 z233 := Tryz.sizeOf322
 v233 := Tryz.zeroValue322
 g17 := by kernel_rfl
 g18 := by kernel_rfl
 g19 := by kernel_rfl
 i0 := by kernel_rfl
 i2 := by kernel_rfl
 i3 := by kernel_rfl
 i4 := by kernel_rfl
 i5 := by kernel_rfl
 i9 := by kernel_rfl
 i20 := by kernel_rfl
 i37 := by kernel_rfl
 i46 := by kernel_rfl
 i51 := by kernel_rfl
 i53 := by kernel_rfl
 i171 := by kernel_rfl
 i173 := by kernel_rfl
 i212 := by kernel_rfl
 i232 := by kernel_rfl
 i233 := by kernel_rfl
 m17 := by kernel_rfl
 m18 := by kernel_rfl
 m19 := by kernel_rfl }
end Go.Proofs

/- Numbers of at most nine digits, as the program and as the reference read them. -/
namespace Go.Proofs.YtaidkmnbjbnciaaGreatDoor
set_option linter.unusedVariables false
set_option linter.unusedSimpArgs false
open Go.RowKit

/-- The table of powers of ten is as it is laid. -/
def Pow (w : World) : Prop := Lib.TabIs Tryz.prog w "internal/strconv.uint64pow10" .u64 Lib.pow10Tab
theorem pow_g : Tryz.prog.globalNamed "internal/strconv.uint64pow10" = some 5 := by kernel_rfl
theorem Pow.mod {w w' : World} {S : Nat → Prop} (h : Pow w) (hm : Mod S w w') (hs : ¬ S 5) : Pow w' := by
 unfold Pow Lib.TabIs World.var? at h ⊢
 rw [pow_g] at h ⊢
 simp only [Option.bind_some] at h ⊢
 cases hh : w.heap[5]? with
 | none => rw [hh] at h; cases h
 | some o =>
  rw [hm.block _ (lt_of_heap hh) hs]
  exact h
theorem Pow.pure {w w' : World} (h : Pow w) (hm : Pure w w') : Pow w' := h.mod hm id
theorem Pow.lt {w : World} (h : Pow w) : 5 < w.heap.size := by
 unfold Pow Lib.TabIs World.var? at h
 rw [pow_g] at h
 simp only [Option.bind_some] at h
 cases hh : w.heap[5]? with
 | none => rw [hh] at h; cases h
 | some o => exact lt_of_heap hh
theorem itoaW_calls (w : World) (n : Int) (h0 : -1099511627776 ≤ n) (h1 : n ≤ 1099511627776) (hP : Pow w) : Calls Tryz.prog 83 #[.int .i64 n] w (fun e w' => e = .returned (.string ⟨(Lib.itoa n).toArray⟩) ∧ Pure w w') := by
 refine (Any.strconv_Itoa Tryz.laysM171 n (by omega) (by omega) w hP).mono ?_
 rintro e w' ⟨rfl, k, os, rfl⟩
 exact ⟨rfl, Mod.of_below ⟨rfl, rfl, rfl, by simp [Sort.grow, World.drewN], fun i hi => by simp [Sort.grow, World.drewN, Array.getElem?_append_left hi]⟩⟩
theorem atoiW_calls (w : World) (s : Str) (n : Int) (hs : s.length ≤ 18) (h : Lib.atoi s = some n) : Calls Tryz.prog 186 #[.string ⟨s.toArray⟩] w (fun e w' => e = .returned (.tuple #[.int .i64 n, .nilIface]) ∧ Pure w w') := by
 refine (Any.strconv_Atoi Tryz.lays172 ⟨s.toArray⟩ n (by simpa [ByteArray.size] using hs) (by simpa using h) w).mono ?_
 rintro e w' ⟨rfl, t, rfl⟩
 exact ⟨rfl, Mod.of_below (Joins.below_bytesWorld _ _ _ _ (Nat.le_refl _))⟩
def digsL : List UInt8 := [48, 49, 50, 51, 52, 53, 54, 55, 56, 57]
theorem digs_has (c : UInt8) : digsL.contains c = digitB c.toNat := all_byte _ _ (by decide +kernel) c
theorem onlyDigs_calls (w : World) (l : Str) (hs : l.length ≤ 1000000) : Calls Tryz.prog 127 #[.string ⟨l.toArray⟩, .string ⟨#[48, 49, 50, 51, 52, 53, 54, 55, 56, 57]⟩] w (BoolPost w (l.all digB)) := by
 have h := only_calls w ⟨l.toArray⟩ ⟨#[48, 49, 50, 51, 52, 53, 54, 55, 56, 57]⟩ (by simpa [ByteArray.size] using hs) (by decide) (ascii_of_all (by decide))
 have e : onlyB l digsL = l.all digB := by
  unfold onlyB
  congr 1
  funext c
  exact digs_has c
 rw [← e]
 exact h
/-- What reading a number answers. -/
def NumPost (w : World) (o : Option Int) (e : Ending) (w' : World) : Prop := ∃ v : Int, e = .returned (.tuple #[.int .i64 v, .bool o.isSome]) ∧ (∀ n, o = some n → v = n) ∧ -1000000000 < v ∧ v < 1000000000 ∧ Pure w w'
theorem NumPost.no {w w' : World} {o : Option Int} (h : o = none) (hm : Pure w w') : NumPost w o (.returned (.tuple #[.int .i64 0, .bool false])) w' :=
 ⟨0, by rw [h]; rfl, fun n hn => (by rw [h] at hn; cases hn), by omega, by omega, hm⟩
theorem numQ_none1 {D : Nat} {s : Str} (h : ¬ numD D (numT s)) : numQ D s = none := by unfold numQ; rw [if_neg (fun hh => h hh.1)]
theorem numQ_none2 {D : Nat} {s : Str} (h : ¬ numC s) : numQ D s = none := by unfold numQ; rw [if_neg (fun hh => h hh.2)]
theorem allD_take {l : Str} {k : Nat} (h : k < l.length) : (l.take (k + 1)).all digB = ((l.take k).all digB && digB l[k]) := by
 rw [List.take_succ_eq_append_getElem h, List.all_append]; simp
theorem numD_fail {D : Nat} {l : Str} {k : Nat} (h : k < l.length) (hk : digB l[k] = false) : ¬ numD D l := fun hh => by
 have := hh.2.2 l[k] (List.getElem_mem h)
 rw [hk] at this
 cases this

set_option maxRecDepth 100000 in
set_option maxHeartbeats 4000000 in
theorem number_calls (w : World) (s : Str) (D : Nat) (hD : D ≤ 9) (hs : s.length ≤ 1000000) : Calls Tryz.prog 138 #[.string ⟨s.toArray⟩, .int .i64 (D : Int)] w (NumPost w (numQ D s)) := by
 have hcp := Any.strings_CutPrefix Tryz.lays103 ⟨s.toArray⟩ ⟨#[45]⟩ w
 change Calls Tryz.prog 185 _ _ (fun e w' => e = .returned (.tuple #[.string ⟨(numT s).toArray⟩, .bool (numMi s)]) ∧ w' = w) at hcp
 have HCP := Lib.hid hcp
 obtain ⟨d, hd⟩ : ∃ d, numT s = d := ⟨_, rfl⟩
 obtain ⟨mi, hmi⟩ : ∃ mi, numMi s = mi := ⟨_, rfl⟩
 have HQ1 : Hid (¬ numD D d → numQ D s = none) := Lib.hid (fun h => numQ_none1 (by rw [hd]; exact h))
 have HQ2 : Hid (¬ (canD d ∧ ¬ (mi = true ∧ d = [48])) → numQ D s = none) := Lib.hid (fun h => numQ_none2 (by unfold numC; rw [hd, hmi]; exact h))
 have HQ3 : Hid (numD D d → canD d ∧ ¬ (mi = true ∧ d = [48]) → ∃ n, numQ D s = some n ∧ Lib.atoi s = some n ∧ -1000000000 < n ∧ n < 1000000000 ∧ s.length ≤ 10) := Lib.hid (fun h1 h2 => by
  rw [← hd] at h1 h2
  rw [← hmi] at h2
  obtain ⟨n, e, b1, b2, _, b3⟩ := num_atoi h1 hD
  exact ⟨n, by unfold numQ; rw [if_pos ⟨h1, h2⟩]; exact e, e, b1, b2, b3⟩)
 rw [hd, hmi] at HCP
 have hdl : d.length ≤ s.length := by rw [← hd]; unfold numT Lib.trimPrefix; split <;> simp
 have hds : (⟨d.toArray⟩ : ByteArray).size = d.length := by simp [ByteArray.size]
 clear hcp hd hmi
 go_enter Tryz.func138, Tryz.ntmps138
 go_wp2_with fail
 refine HCP.out.mono ?_
 rintro e w1 ⟨rfl, rfl⟩
 have HIN := Lib.hid (inI_calls w1 (d.length : Int) 1 (D : Int))
 rw [← hds] at HIN
 obtain ⟨db, hdb⟩ : ∃ db : ByteArray, db = ⟨d.toArray⟩ := ⟨_, rfl⟩
 rw [← hdb] at HIN hds ⊢
 have HDB := Lib.hid hdb
 have HDL : Hid (db.size = d.length) := Lib.hid hds
 have HGET : Hid (∀ k (h : k < db.size) (h2 : k < d.length), db[k] = d[k]) := Lib.hid (by subst hdb; intro k h h2; rfl)
 clear hds hdb HCP
 go_upto_region 2 with (fail)
 go_cut [37] (fun p wy => ∃ fl : Bool, p = .bool fl ∧ Pure w1 wy ∧ (fl = true → numQ D s = none) ∧ (fl = false → 1 ≤ d.length ∧ d.length ≤ D ∧ canD d ∧ ¬ (mi = true ∧ d = [48])))
 case first =>
  go_wp2_with fail
  refine HIN.out.mono ?_
  rintro e w2 ⟨rfl, hm2⟩
  have HM2 := Lib.hid hm2
  clear hm2 HIN
  by_cases hin : 1 ≤ (db.size : Int) ∧ (db.size : Int) ≤ D
  rotate_left
  ·have hdec : (decide ((1 : Int) ≤ (db.size : Int)) && decide ((db.size : Int) ≤ (D : Int))) = false := by
    rw [Bool.and_eq_false_iff]; simp only [decide_eq_false_iff_not]
    omega
   rw [hdec]
   have HN := Lib.hid (HQ1.out (fun h => hin (by have h1 := h.1; have h2 := h.2.1; have h3 := HDL.out; omega)))
   clear hin hdec HQ1 HQ2 HQ3
   go_wp2_with fail
   go_meet
   exact ⟨true, rfl, HM2.out, fun _ => HN.out, fun h => by cases h⟩
  have hdec : (decide ((1 : Int) ≤ (db.size : Int)) && decide ((db.size : Int) ≤ (D : Int))) = true := by
   rw [Bool.and_eq_true_iff]; simp only [decide_eq_true_eq]
   omega
  rw [hdec]
  clear hdec
  have hpos : 0 < db.size := by omega
  by_cases hlz : 1 < d.length ∧ d.headD 0 = 48
  ·have HN := Lib.hid (HQ2.out (fun h => h.1 hlz))
   have h1 : (1 : Int) < (db.size : Int) := by have := HDL.out; omega
   have hx : ((db[0].toNat : Int) == 48) = true := by
    rw [HGET.out 0 hpos (by omega)]
    have h2 := hlz.2
    cases d with
    | nil => simp at hlz
    | cons c t => simp at h2; subst h2; rfl
   clear hlz HQ1 HQ2 HQ3
   go_wp2_with fail
   go_meet
   exact ⟨true, rfl, HM2.out, fun _ => HN.out, fun h => by cases h⟩
  have hlz2 : ¬ (1 : Int) < (db.size : Int) ∨ ((1 : Int) < (db.size : Int) ∧ ((db[0].toNat : Int) == 48) = false) := by
   by_cases h1 : (1 : Int) < (db.size : Int)
   ·refine .inr ⟨h1, ?_⟩
    rw [beq_eq_false_iff_ne]
    intro h2
    refine hlz ⟨by have := HDL.out; omega, ?_⟩
    rw [HGET.out 0 hpos (by have := HDL.out; omega)] at h2
    cases d with
    | nil => have := HDL.out; rw [List.length_nil] at this; omega
    | cons c t => exact UInt8.toNat_inj.mp (by have h3 : ((c.toNat : Int)) = 48 := h2; show c.toNat = 48; omega)
   ·exact .inl h1
  by_cases hmz : mi = true ∧ d = [48]
  ·have HN := Lib.hid (HQ2.out (fun h => h.2 hmz))
   obtain ⟨rfl, rfl⟩ := hmz
   obtain rfl := HDB.out
   clear HQ1 HQ2 HQ3 hlz hlz2 HGET
   go_wp2_with fail
   go_meet
   exact ⟨true, rfl, HM2.out, fun _ => HN.out, fun h => by cases h⟩
  have hmz2 : mi = false ∨ (mi = true ∧ (d == [48]) = false) := by
   cases mi with
   | false => exact .inl rfl
   | true =>
    refine .inr ⟨rfl, ?_⟩
    rw [beq_eq_false_iff_ne]
    exact fun h => hmz ⟨rfl, h⟩
  have HRES : Hid (1 ≤ d.length ∧ d.length ≤ D ∧ canD d ∧ ¬ (mi = true ∧ d = [48])) := Lib.hid ⟨by have := HDL.out; omega, by have := HDL.out; omega, hlz, hmz⟩
  clear hmz hlz HQ1 HQ2 HQ3
  obtain ⟨c0, hc0⟩ : ∃ c0 : UInt8, db[0] = c0 := ⟨_, rfl⟩
  rw [hc0] at hlz2
  have hlz3 : ¬ (1 : Int) < (d.length : Int) ∨ ((1 : Int) < (d.length : Int) ∧ ((c0.toNat : Int) == 48) = false ∧ ¬ (c0.toNat : Int) = 48 ∧ ¬ c0.toNat = 48) := hlz2.imp (fun h => by have := HDL.out; omega) (fun h => ⟨by have := HDL.out; have := h.1; omega, h.2, by simpa using h.2, by have := h.2; simp at this; omega⟩)
  clear hlz2
  have hdb := HDB.out
  subst hdb
  clear HDB HDL HGET
  rcases hlz3 with h1 | ⟨h1, h2, h2b, h2c⟩ <;> rcases hmz2 with rfl | ⟨rfl, h4⟩
  all_goals
   go_wp2_with fail
   go_meet
   exact ⟨false, rfl, HM2.out, fun h => (by cases h), fun _ => HRES.out⟩
 case rest =>
  obtain ⟨fl, rfl, hm2, hno, hyes⟩ := hcut
  have HM2 := Lib.hid hm2
  cases fl
  rotate_left
  ·have HN := Lib.hid (hno rfl)
   clear hno hyes HQ1 HQ2 HQ3 hm2
   go_wp2_with fail
   try simp only [Exit.inBlock, Exit.then]
   refine bodyPost_ret (v := .tuple #[.int .i64 0, .bool false]) (by simp [results, Tryz.results138, go_sem]) rfl ?_
   exact NumPost.no HN.out HM2.out
  obtain ⟨hl1, hl2, hcan, hnz⟩ := hyes rfl
  have HQ4 : Hid (numD D d → ∃ n, numQ D s = some n ∧ Lib.atoi s = some n ∧ -1000000000 < n ∧ n < 1000000000 ∧ s.length ≤ 10) := Lib.hid (fun h => HQ3.out h ⟨hcan, hnz⟩)
  clear hno hyes hm2 HQ2 HQ3 hcan hnz HIN
  go_wp2_with fail
  go_loopg [40] db.size (fun gk i wr => ∃ k : Nat, db.size - k = gk ∧ k ≤ db.size ∧ i = .int .i64 (k : Int) ∧ (d.take k).all digB = true ∧ wr = wc)
  case atStart => exact ⟨0, by omega, by omega, rfl, rfl, rfl⟩
  case round =>
   obtain ⟨k, rfl, hk, rfl, hall, rfl⟩ := hrel
   have HA := Lib.hid hall
   clear hall
   by_cases hlt : k < db.size
   ·have hkd : k < d.length := by have := HDL.out; omega
    have hk9 : k < 9 := by omega
    have hix := HGET.out k hlt hkd
    have HSN := Lib.hid (allD_take hkd)
    have HFA := Lib.hid (fun h => HQ1.out (numD_fail (D := D) hkd h))
    rw [← hix] at HSN HFA
    obtain ⟨c, hc⟩ : ∃ c, db[k] = c := ⟨_, rfl⟩
    rw [hc] at HSN HFA
    clear hix hkd
    go_wp2_with fail
    refine (digit_calls _ _).mono ?_
    rintro e w' ⟨rfl, rfl⟩
    cases hd : digitB c.toNat
    ·have HN := Lib.hid (HFA.out hd)
     clear hd HFA HSN HA
     go_wp2_with fail
     try simp only [Exit.inBlock, Exit.then]
     refine bodyPost_ret (v := .tuple #[.int .i64 0, .bool false]) (by simp [results, Tryz.results138, go_sem]) rfl ?_
     exact NumPost.no HN.out HM2.out
    ·have hd2 : digB c = true := hd
     go_wp2_with fail
     go_roundg (db.size - (k + 1))
     case measure => omega
     case rel => exact ⟨k + 1, rfl, hlt, by simp, by rw [HSN.out, HA.out, hd2]; rfl, rfl⟩
   ·obtain rfl : k = db.size := by omega
    have hall : d.all digB = true := by have := HA.out; rwa [HDL.out, List.take_of_length_le (Nat.le_refl _)] at this
    obtain ⟨n, hn1, hn2, hn3, hn4, hn5⟩ := HQ4.out ⟨hl1, hl2, fun c hc => List.all_eq_true.1 hall c hc⟩
    have HAT := Lib.hid (atoiW_calls wr s n (by omega) hn2)
    have HN := Lib.hid hn1
    clear hall hn1 hn2 HQ4 HA HQ1
    go_wp2_with fail
    refine HAT.out.mono ?_
    rintro e w5 ⟨rfl, hm5⟩
    clear HAT
    go_upto_region 11 with (fail)
    go_quiet (fail)
    go_wp2_with fail
    try simp only [Exit.inBlock, Exit.then]
    refine bodyPost_ret (v := .tuple #[.int .i64 n, .bool true]) (by simp [results, Tryz.results138, go_sem]) rfl ?_
    rw [HN.out]
    exact ⟨n, rfl, (fun m hm => (by cases hm; rfl)), hn3, hn4, (HM2.out.trans hm5).drewN _⟩

set_option maxRecDepth 100000 in
set_option maxHeartbeats 4000000 in
theorem numberR_calls (w : World) (s : Str) (hs : s.length ≤ 1000000) (hP : Pow w) : Calls Tryz.prog 139 #[.string ⟨s.toArray⟩] w (NumPost w (numQ 9 s)) := by
 have htp := Any.strings_TrimPrefix Tryz.lays101 ⟨s.toArray⟩ ⟨#[45]⟩ w
 change Calls Tryz.prog 187 _ _ (fun e w' => e = .returned (.string ⟨(numT s).toArray⟩) ∧ w' = w) at htp
 have HTP := Lib.hid htp
 obtain ⟨d, hd⟩ : ∃ d, numT s = d := ⟨_, rfl⟩
 have HQ1 : Hid (¬ numD 9 d → numQ 9 s = none) := Lib.hid (fun h => numQ_none1 (by rw [hd]; exact h))
 have HQ3 : Hid (numD 9 d → ∃ n, Lib.atoi s = some n ∧ -1000000000 < n ∧ n < 1000000000 ∧ s.length ≤ 10 ∧ (Lib.itoa n = s → numQ 9 s = some n) ∧ (Lib.itoa n ≠ s → numQ 9 s = none)) := Lib.hid (fun h1 => by
  rw [← hd] at h1
  obtain ⟨n, e, b1, b2, b4, b3⟩ := num_atoi h1 (by omega)
  exact ⟨n, e, b1, b2, b3, fun hh => by unfold numQ; rw [if_pos ⟨h1, b4.1 hh⟩]; exact e, fun hh => numQ_none2 (fun hc => hh (b4.2 hc))⟩)
 rw [hd] at HTP
 have hdl : d.length ≤ s.length := by rw [← hd]; unfold numT Lib.trimPrefix; split <;> simp
 have HPW := Lib.hid hP
 clear htp hd hP
 go_enter Tryz.func139, Tryz.ntmps139
 go_wp2_with fail
 refine HTP.out.mono ?_
 rintro e w1 ⟨rfl, rfl⟩
 have HON := Lib.hid (onlyDigs_calls w1 d (by omega))
 clear HTP
 by_cases hd0 : d = []
 ·subst hd0
  have HN := Lib.hid (HQ1.out (fun h => by have := h.1; simp at this))
  clear HQ1 HQ3 HON
  go_wp2_with fail
  try simp only [Exit.inBlock, Exit.then]
  refine bodyPost_ret (v := .tuple #[.int .i64 0, .bool false]) (by simp [results, Tryz.results139, go_sem]) rfl ?_
  exact NumPost.no HN.out (Mod.refl _ _)
 have hd1 : (d == []) = false := by simpa using hd0
 have hd2 : d.isEmpty = false := by cases d with | nil => exact absurd rfl hd0 | cons a t => rfl
 by_cases hd9 : 9 < d.length
 ·have HN := Lib.hid (HQ1.out (fun h => by have := h.2.1; omega))
  have hd9' : (9 : Int) < (d.length : Int) := by omega
  clear HQ1 HQ3 HON
  go_wp2_with fail
  try simp only [Exit.inBlock, Exit.then]
  refine bodyPost_ret (v := .tuple #[.int .i64 0, .bool false]) (by simp [results, Tryz.results139, go_sem]) rfl ?_
  exact NumPost.no HN.out (Mod.refl _ _)
 have hd9' : ¬ (9 : Int) < (d.length : Int) := by omega
 have HNE := Lib.hid hd0
 clear hd0
 go_wp2_with fail
 refine HON.out.mono ?_
 rintro e w2 ⟨rfl, hm2⟩
 have HM2 := Lib.hid hm2
 clear hm2 HON
 cases hall : d.all digB
 ·have HN := Lib.hid (HQ1.out (fun h => by rw [List.all_eq_true.2 h.2.2] at hall; cases hall))
  clear HQ1 HQ3
  go_wp2_with fail
  try simp only [Exit.inBlock, Exit.then]
  refine bodyPost_ret (v := .tuple #[.int .i64 0, .bool false]) (by simp [results, Tryz.results139, go_sem]) rfl ?_
  exact NumPost.no HN.out HM2.out
 obtain ⟨n, hn2, hn3, hn4, hn5, hy, hno⟩ := HQ3.out ⟨List.length_pos_iff.2 HNE.out, by omega, fun c hc => List.all_eq_true.1 hall c hc⟩
 have HAT := Lib.hid (atoiW_calls w2 s n (by omega) hn2)
 have HIT := Lib.hid (fun W (h : Pure w2 W) => itoaW_calls W n (by omega) (by omega) ((HPW.out.pure HM2.out).pure h))
 have HY := Lib.hid hy
 have HNO := Lib.hid hno
 clear hn2 hy hno HQ1 HQ3 hall HNE
 go_wp2_with fail
 refine HAT.out.mono ?_
 rintro e w5 ⟨rfl, hm5⟩
 have HI5 := Lib.hid (HIT.out _ hm5)
 clear HAT HIT
 go_wp2_with fail
 refine HI5.out.mono ?_
 rintro e w6 ⟨rfl, hm6⟩
 have HM6 := Lib.hid ((HM2.out.trans hm5).trans hm6)
 clear hm5 hm6 HI5
 obtain ⟨it, hit⟩ : ∃ it, Lib.itoa n = it := ⟨_, rfl⟩
 rw [hit] at HY HNO ⊢
 by_cases he : it = s
 ·subst he
  have HN := Lib.hid (HY.out rfl)
  have hbe : (it == it) = true := by simp
  clear HY HNO hit
  go_wp2_with fail
  try simp only [Exit.inBlock, Exit.then]
  refine bodyPost_ret (v := .tuple #[.int .i64 n, .bool true]) (by simp [results, Tryz.results139, go_sem]) rfl ?_
  rw [HN.out]
  exact ⟨n, rfl, (fun m hm => (by cases hm; rfl)), hn3, hn4, HM6.out⟩
 ·have HN := Lib.hid (HNO.out he)
  have hbe : (it == s) = false := by simpa using he
  clear HY HNO hit
  go_wp2_with fail
  try simp only [Exit.inBlock, Exit.then]
  refine bodyPost_ret (v := .tuple #[.int .i64 n, .bool false]) (by simp [results, Tryz.results139, go_sem]) rfl ?_
  rw [HN.out]
  exact ⟨n, rfl, (fun m hm => (by cases hm)), hn3, hn4, HM6.out⟩

end Go.Proofs.YtaidkmnbjbnciaaGreatDoor

/-
 DERIVED: THE SHELF's CONTRACTS AT THIS DUMP, IN PLAIN WORDS (tools/lay-plain.mjs out of 'YtaidkmnbjbnciaaGreatDoorLayCut.lean', which tools/lay-shelf.mjs wrote): THE SAME DECLARATIONS UNDER THE SAME NAMES: 'import', 'namespace', 'open', 'def', 'theorem' AND NOTHING ELSE: no command of the shelf's: FOR A HAND-IN. Each laying: the table of numbers ('.._ren') and one theorem, a field a fact of the dump's own or the kernel's comparison; each contract: ONE APPLICATION.
-/
namespace Go.Proofs
open Go.Shelf
def Tryz.lays145_ren : Go.Shelf.Ren := ⟨fun | 145 => 132 | 220 => 178 | 219 => 212 | 217 => 249 | 225 => 250 | 224 => 251 | 267 => 252 | 266 => 271 | 314 => 272 | n => n, fun | 9 => 9 | 4 => 4 | 59 => 188 | 3 => 3 | 5 => 5 | 46 => 231 | 146 => 264 | 51 => 244 | n => n, fun | 1 => 4 | n => n⟩
theorem Tryz.lays145 : Go.Proofs.Lays.n145 Tryz.prog Tryz.lays145_ren := {
 mixed := by kernel_rfl
 f145 := Tryz.func132.trans (congrArg some (by kernel_rfl))
 f217 := Tryz.func249.trans (congrArg some (by kernel_rfl))
 f219 := Tryz.func212.trans (congrArg some (by kernel_rfl))
 f220 := Tryz.func178.trans (congrArg some (by kernel_rfl))
 f224 := Tryz.func251.trans (congrArg some (by kernel_rfl))
 f225 := Tryz.func250.trans (congrArg some (by kernel_rfl))
 f266 := Tryz.func271.trans (congrArg some (by kernel_rfl))
 f267 := Tryz.func252.trans (congrArg some (by kernel_rfl))
 f314 := Tryz.func272.trans (congrArg some (by kernel_rfl))
 t3 := Tryz.underlying3
 a3 := Tryz.isAgg3
 z3 := Tryz.sizeOf3
 v3 := Tryz.zeroValue3
 t4 := Tryz.underlying4
 a4 := Tryz.isAgg4
 z4 := Tryz.sizeOf4
 v4 := Tryz.zeroValue4
 t5 := Tryz.underlying5
 a5 := Tryz.isAgg5
 z5 := Tryz.sizeOf5
 v5 := Tryz.zeroValue5
 t9 := Tryz.underlying9
 a9 := Tryz.isAgg9
 z9 := Tryz.sizeOf9
 v9 := Tryz.zeroValue9
 t46 := Tryz.underlying231
 a46 := Tryz.isAgg231
 z46 := Tryz.sizeOf231
 v46 := Tryz.zeroValue231
 t51 := Tryz.underlying244
 a51 := Tryz.isAgg244
 z51 := Tryz.sizeOf244
 v51 := Tryz.zeroValue244
 t59 := Tryz.underlying188
 a59 := Tryz.isAgg188
 z59 := Tryz.sizeOf188
 v59 := Tryz.zeroValue188
 t146 := Tryz.underlying264
 a146 := Tryz.isAgg264
 z146 := Tryz.sizeOf264
 v146 := Tryz.zeroValue264
 g1 := by kernel_rfl }
end Go.Proofs

/- lines of the reference, for any closure that takes a line. -/
namespace Go.Proofs.YtaidkmnbjbnciaaGreatDoor
set_option linter.unusedVariables false
set_option linter.unusedSimpArgs false
open Go.RowKit

def Cut10P (w : World) (s : Str) (e : Ending) (w' : World) : Prop := e = .returned (.tuple (match fstL 10 s with
 | none => #[.string ⟨s.toArray⟩, .string ⟨#[]⟩, .bool false]
 | some p => #[.string ⟨p.1.toArray⟩, .string ⟨p.2.toArray⟩, .bool true])) ∧ Pure w w'
theorem cutN_calls (w : World) (s : Str) (hM : MlnS w) (hs : s.length ≤ 100000) : Calls Tryz.prog 132 #[.string ⟨s.toArray⟩, .string ⟨#[10]⟩] w (Cut10P w s) := by
 obtain ⟨m, hm⟩ := hM
 refine (Any.strings_Cut Tryz.lays145 ⟨s.toArray⟩ ⟨#[10]⟩ m w (by simp [ByteArray.size]; omega) hm).mono ?_
 rintro e w' ⟨rfl, n, rfl⟩
 refine ⟨?_, (Mod.refl _ _).drewN n⟩
 have h := cut_byte 10 s
 show Ending.returned (.tuple #[.string ⟨(Lib.cut s [10]).1.toArray⟩, .string ⟨(Lib.cut s [10]).2.1.toArray⟩, .bool (Lib.cut s [10]).2.2]) = _
 rw [h]
 cases fstL 10 s <;> rfl
def LnPost2 {σ : Type} (base : Nat) (w : World) (R : Nat → σ → World → Prop) (r : Nat ⊕ σ) (e : Ending) (W' : World) : Prop :=
 KeepS base w W' ∧ (∀ i, r = .inl i → e = .returned (.tuple #[.int .i64 (i : Int), .bool false])) ∧ ∀ S, r = .inr S → e = .returned (.tuple #[.int .i64 0, .bool true]) ∧ ∃ k, R k S W'
def LnRel2 {σ : Type} (base : Nat) (w : World) (R : Nat → σ → World → Prop) (f : σ → Str → Option σ) (n : Nat) (r : Nat ⊕ σ) (gk : Nat) (i v : Value) (wr : World) : Prop :=
 ∃ (k : Nat) (S : σ) (t : Str), t.length = gk ∧ t.length + k ≤ n ∧ i = .string ⟨t.toArray⟩ ∧ v = .int .i64 (k : Int) ∧ rdG f (wholeQ t) (linesQ t) k S = r ∧ R k S wr ∧ KeepS base w wr

set_option maxRecDepth 100000 in
set_option maxHeartbeats 8000000 in
theorem rlines2_calls {σ : Type} (w : World) (s : Str) (base F : Nat) (cap : Value) (f : σ → Str → Option σ) (R : Nat → σ → World → Prop) (S0 : σ) (hM : ∀ W, KeepS base w W → MlnS W) (hs : s.length ≤ 100000) (hR0 : R 0 S0 w) (hRp : ∀ k S W W', R k S W → Pure W W' → R k S W')
  (hcf : ∀ (v : Value) (W : World), Sem.run Tryz.prog (callFunc F #[v, cap]) W = .ok (.enter F #[v, cap]) W)
  (hF : ∀ (k : Nat) (S : σ) (W : World) (l : Str), k + l.length < s.length → KeepS base w W → R k S W → Calls Tryz.prog F #[.string ⟨l.toArray⟩, cap] W (TkPost base (R (k + 1)) (f S l) W)) :
  Calls Tryz.prog 73 #[.string ⟨s.toArray⟩, .func (.func F) #[] #[cap]] w (LnPost2 base w R (rdG f (wholeQ s) (linesQ s) 0 S0)) := by
 have HCT := Lib.hid (fun W (h : KeepS base w W) (l : Str) (hl : l.length ≤ s.length) => cutN_calls W l (hM W h) (by omega))
 have HF := Lib.hid hF
 have HRp := Lib.hid hRp
 have HR0 := Lib.hid hR0
 clear hM hF hRp hR0
 obtain ⟨r, hr⟩ : ∃ r, rdG f (wholeQ s) (linesQ s) 0 S0 = r := ⟨_, rfl⟩
 rw [hr]
 have HRR := Lib.hid hr
 clear hr
 obtain ⟨n, hn⟩ : ∃ n, n = s.length := ⟨_, rfl⟩
 go_enter Tryz.func73, Tryz.ntmps73
 go_wp2_with fail
 go_loopg [0, 6] n (fun gk i v wr => LnRel2 base w R f n r gk i v wr)
 case atStart => exact ⟨0, S0, s, by omega, by omega, rfl, rfl, HRR.out, HR0.out, KeepS.of_pure (Mod.refl _ _)⟩
 case round =>
  clear HR0 HRR
  obtain ⟨k, S, t, rfl, hk, rfl, rfl, hrd, hR, hm⟩ := hrel
  have HM := Lib.hid hm
  have HR := Lib.hid hR
  have HRD := Lib.hid hrd
  clear hm hR hrd
  by_cases h0 : t = []
  ·subst h0
   have HF1 : Hid (r = .inr S) := Lib.hid HRD.out.symm
   clear HF HCT
   go_wp2_with fail
   try simp only [Exit.inBlock, Exit.then]
   refine bodyPost_ret (v := .tuple #[.int .i64 0, .bool true]) (by simp [results, Tryz.results73, go_sem]) rfl ?_
   exact ⟨HM.out, fun i hi => (by rw [HF1.out] at hi; cases hi), fun S2 h => (by rw [HF1.out] at h; cases h; exact ⟨rfl, k, HR.out⟩)⟩
  ·have f0 : (t == []) = false := by simpa using h0
   have f0' : (t != []) = true := by simpa using h0
   have HST := Lib.hid (rdG_step f h0 k S)
   rw [HRD.out] at HST
   have HC := Lib.hid (HCT.out wr HM.out t (by omega))
   clear h0 HRD
   go_wp2_with fail
   refine HC.out.mono ?_
   rintro e w2 ⟨rfl, hm⟩
   have HM2 : Hid (KeepS base w w2) := Lib.hid (HM.out.trans (KeepS.of_pure hm))
   have HR2 := Lib.hid (HRp.out k S wr w2 HR.out hm)
   clear hm HM HR HC
   cases hf : fstL 10 t with
   | none =>
    rw [hf] at HST
    have HF1 : Hid (r = .inl k) := HST
    clear hf HST HF
    go_wp2_with fail
    try simp only [Exit.inBlock, Exit.then]
    refine bodyPost_ret (v := .tuple #[.int .i64 (k : Int), .bool false]) (by simp [results, Tryz.results73, go_sem]) rfl ?_
    exact ⟨HM2.out, fun i hi => (by rw [HF1.out] at hi; cases hi; rfl), fun S h => (by rw [HF1.out] at h; cases h)⟩
   | some p =>
    obtain ⟨x, y⟩ := p
    have hl : t.length = x.length + (y.length + 1) := by rw [(fstL_some hf).1]; simp
    rw [hf] at HST
    have HST2 : Hid (r = match f S x with | none => .inl k | some S2 => rdG f (wholeQ y) (linesQ y) (k + 1) S2) := HST
    have HFX := Lib.hid (HF.out k S w2 x (by omega) HM2.out HR2.out)
    clear hf HST HF
    generalize f S x = o at *
    go_wp2_with fail
    refine HFX.out.mono ?_
    rintro e w3 ⟨rfl, hm, hRS⟩
    have HM3 := Lib.hid (HM2.out.trans hm)
    have HRS := Lib.hid hRS
    clear hm hRS HFX HM2 HR2
    cases o with
    | none =>
     have HF1 : Hid (r = .inl k) := HST2
     clear HST2 HRS
     go_wp2_with fail
     try simp only [Exit.inBlock, Exit.then]
     refine bodyPost_ret (v := .tuple #[.int .i64 (k : Int), .bool false]) (by simp [results, Tryz.results73, go_sem]) rfl ?_
     exact ⟨HM3.out, fun i hi => (by rw [HF1.out] at hi; cases hi; rfl), fun S h => (by rw [HF1.out] at h; cases h)⟩
    | some S2 =>
     have HF1 : Hid (r = rdG f (wholeQ y) (linesQ y) (k + 1) S2) := HST2
     have HRS2 := Lib.hid (HRS.out S2 rfl)
     clear HST2 HRS
     go_wp2_with fail
     go_roundg y.length
     case measure => omega
     case rel => exact ⟨k + 1, S2, y, rfl, by omega, rfl, by simp, HF1.out.symm, HRS2.out, HM3.out⟩

end Go.Proofs.YtaidkmnbjbnciaaGreatDoor

/- The closure of LayoutRead of the reference, for any line. -/
namespace Go.Proofs.YtaidkmnbjbnciaaGreatDoor
set_option linter.unusedVariables false
set_option linter.unusedSimpArgs false
open Go.RowKit

/-- A layout under way in block gl: u and v stand in its fields, va and vr are its rows. -/
def RdJ (W : World) (base gl : Nat) (u v va vr : Value) (al : List AskR) (rs : List RulR) : Prop :=
 Blk W gl 29 #[u, v] ∧ W.ownsRow base 99 4 va al.length (askV al) ∧ W.ownsRow base 103 5 vr rs.length (rulV rs) ∧ AskS W al
section
variable {W W' : World} {base gl n5 : Nat} {u v va vr v5 : Value} {al al5 : List AskR} {rs rs5 : List RulR}
theorem RdJ.pure (h : RdJ W base gl u v va vr al rs) (hm : Pure W W') : RdJ W' base gl u v va vr al rs := ⟨h.1.modp hm, own_pure h.2.1 hm, own_pure h.2.2.1 hm, h.2.2.2.pure hm⟩
theorem RdJ.rewR (h : RdJ W base gl u v va vr al rs) (hg : W.grownBy W' vr.ownBlock) (ho5 : W'.ownsRow base 103 5 v5 n5 (rulV rs5)) (hn : n5 = rs5.length) : RdJ W' base gl u v va v5 al rs5 := by
 subst hn
 exact ⟨h.1.mod (mod_grown hg) (fun hv => by have h2 := h.1; unfold Blk at h2; exact absurd (own_ty h.2.2.1 hv h2) (by decide)), own_grown h.2.1 h.2.2.1 (by decide) hg, ho5, h.2.2.2.grown h.2.2.1 (by decide) hg⟩
theorem RdJ.sto {i : Nat} {x : Value} (h : RdJ W base gl u v va vr al rs) : Mod (· = gl) W (W.setCell ⟨gl, i, none⟩ x) := (Mod.refl (· = gl) W).setCell (.inl rfl) _
theorem RdJ.other (h : RdJ W base gl u v va vr al rs) (hm : Mod (· = gl) W W') {c : Array Value} (hB : Blk W' gl 29 c) {u' v' : Value} (hc : c = #[u', v']) : RdJ W' base gl u' v' va vr al rs := by
 subst hc
 exact ⟨hB, own_mod h.2.1 hm (fun i hi he => by subst he; exact absurd (own_ty h.2.1 hi h.1) (by decide)), own_mod h.2.2.1 hm (fun i hi he => by subst he; exact absurd (own_ty h.2.2.1 hi h.1) (by decide)), fun x hx => (h.2.2.2 x hx).mod hm (fun k arr fr hk => blk_tyR h.1 hk (by decide))⟩
theorem RdJ.storeA (h : RdJ W base gl u v va vr al rs) : RdJ (W.setCell ⟨gl, 0, none⟩ va) base gl va v va vr al rs := h.other h.sto (h.1.set 0 va) (by simp)
theorem RdJ.storeR (h : RdJ W base gl u v va vr al rs) : RdJ (W.setCell ⟨gl, 1, none⟩ vr) base gl u vr va vr al rs := h.other h.sto (h.1.set 1 vr) (by simp)
end
/-- A field more. -/
def RdX (W : World) (base gl : Nat) (v vr : Value) (al : List AskR) (rs : List RulR) : Prop := ∃ (g5 c5 : Nat), RdJ W base gl (.slice (some ⟨g5, 0, none⟩) al.length c5) v (.slice (some ⟨g5, 0, none⟩) al.length c5) vr al rs
theorem RdX.pure {W W' : World} {base gl : Nat} {v vr : Value} {al : List AskR} {rs : List RulR} (h : RdX W base gl v vr al rs) (hm : Pure W W') : RdX W' base gl v vr al rs := by
 obtain ⟨g5, c5, h⟩ := h
 exact ⟨g5, c5, h.pure hm⟩
theorem RdX.of {W : World} {base gl g5 c5 n5 : Nat} {v vr : Value} {al : List AskR} {rs : List RulR} (h : RdJ W base gl (.slice (some ⟨g5, 0, none⟩) n5 c5) v (.slice (some ⟨g5, 0, none⟩) n5 c5) vr al rs) (hn : n5 = al.length) : RdX W base gl v vr al rs := by
 subst hn
 exact ⟨g5, c5, h⟩
end Go.Proofs.YtaidkmnbjbnciaaGreatDoor

/- LayoutLines of the reference. -/
namespace Go.Proofs.YtaidkmnbjbnciaaGreatDoor
set_option linter.unusedVariables false
set_option linter.unusedSimpArgs false
open Go.RowKit

theorem flagT_calls (w : World) (b : Bool) (k : Nat) (h : (if b then 1 else 0) = k) : Calls Tryz.prog 65 #[.bool b] w (IntPost w (k : Int)) := by
 subst h
 cases b
 ·go_enter Tryz.func65, Tryz.ntmps65
  go_wp2_with fail
  go_ret
  exact IntPost.of rfl (Mod.refl _ _)
 ·go_enter Tryz.func65, Tryz.ntmps65
  go_wp2_with fail
  go_ret
  exact IntPost.of rfl (Mod.refl _ _)
end Go.Proofs.YtaidkmnbjbnciaaGreatDoor

/- DecisionLines of the reference. -/

namespace Go.Proofs.YtaidkmnbjbnciaaGreatDoor
set_option linter.unusedVariables false
set_option linter.unusedSimpArgs false
open Go.RowKit

/-- A row of strings of the call's own. -/
def OwS (w : World) (bw : Nat) (v : Value) (n : Nat) (xs : List Str) : Prop := w.ownsRow bw 9 1 v n (strsV xs)
theorem OwS.pure {w w' : World} {bw n : Nat} {v : Value} {xs : List Str} (h : OwS w bw v n xs) (hm : Pure w w') : OwS w' bw v n xs := own_pure h hm
theorem OwS.app {w : World} {bw n : Nat} {v : Value} {xs : List Str} {s : Str} (h : w.ownsRow bw 9 1 v n (strsV xs ++ [.string ⟨s.toArray⟩])) : OwS w bw v n (xs ++ [s]) := by
 unfold OwS
 rw [show strsV (xs ++ [s]) = strsV xs ++ [.string ⟨s.toArray⟩] by simp [strsV]]
 exact h
theorem fs_cell {W : World} {g : Nat} {b : Bool} {k : Nat} {mw : Str} (h : Blk W g 9 #[.string ⟨#[102, 105, 114, 115, 116]⟩, .string ⟨#[115, 101, 99, 111, 110, 100]⟩]) (hk : (if b then 1 else 0) = k) (hm : secW b = mw) : W.cell? ⟨g, k, none⟩ = some (.string ⟨mw.toArray⟩) := by
 subst hk hm
 cases b
 ·exact h.cell 0
 ·exact h.cell 1
theorem vals_take {vs : List ChoR} {j : Nat} (h : j < vs.length) : (vs.take (j + 1)).map choW = (vs.take j).map choW ++ [choW vs[j]] := by
 rw [List.take_succ_eq_append_getElem h, List.map_append]; rfl
/-- The words of a decision, so far. -/
def DwRel (w4 : World) (bw gA : Nat) (cells : Array Value) (hd : List Str) (vs : List ChoR) (gk : Nat) (v i : Value) (wr : World) : Prop :=
 ∃ (j cap gw : Nat), vs.length - j = gk ∧ j ≤ vs.length ∧ v = .slice (some ⟨gw, 0, none⟩) (6 + j) cap ∧ i = .int .i64 (j : Int) ∧ OwS wr bw (.slice (some ⟨gw, 0, none⟩) (6 + j) cap) (6 + j) (hd ++ (vs.take j).map choW) ∧ Blk wr gA 53 cells ∧ Pure w4 wr
theorem decH_eq {no at_ : Int} {rev item : Str} {sec : Bool} {vA : Option Addr} {vc : Nat} {vs : List ChoR} {s1 s2 mw : Str} (h1 : Lib.itoa no = s1) (h2 : Lib.itoa at_ = s2) (h3 : secW sec = mw) : strsV (decH ⟨no, at_, rev, item, sec, vA, vc, vs⟩) = [.string ⟨#[100, 101, 99, 105, 115, 105, 111, 110]⟩, .string ⟨s1.toArray⟩, .string ⟨s2.toArray⟩, .string ⟨rev.toArray⟩, .string ⟨item.toArray⟩, .string ⟨mw.toArray⟩] := by
 unfold decH
 rw [h1, h2, h3]
 rfl

set_option maxRecDepth 100000 in
set_option maxHeartbeats 16000000 in
theorem decLines_calls (w : World) (A : Option Addr) (n c : Nat) (ds : List DecR) (hD : Decs w (.slice A n c) ds) (hz : ∀ x ∈ ds, DecM 4 3 x) (hn : ds.length ≤ 20) (hP : Pow w) : Calls Tryz.prog 21 #[.slice A n c] w (JnPost w (decsT ds)) := by
 have hl := hD.len
 subst hl
 have HD := Lib.hid hD
 have HZ := Lib.hid hz
 have HTL : Hid ((decsT ds).length ≤ 4000) := Lib.hid (by have := decsT_len hz; omega)
 have HPW : Hid (∀ W, Pure w W → Pow W) := Lib.hid (fun W h => hP.pure h)
 clear hD hz hP
 go_enter Tryz.func21, Tryz.ntmps21
 go_wp2_with fail
 go_loopg [3, 11] ds.length (fun gk s i wr => ∃ k : Nat, ds.length - k = gk ∧ k ≤ ds.length ∧ s = .string ⟨(decsT (ds.take k)).toArray⟩ ∧ i = .int .i64 (k : Int) ∧ Pure w wr)
 case atStart => exact ⟨0, by omega, by omega, rfl, rfl, Mod.refl _ _⟩
 case round =>
  obtain ⟨k, rfl, hk, rfl, rfl, hm⟩ := hrel
  by_cases hlt : k < ds.length
  ·obtain ⟨g1, o1, rfl, q0, q1, q2, q3, q4, q5⟩ := (HD.out.pure hm).cells hlt
   have hxz := HZ.out _ (List.getElem_mem hlt)
   have HV := Lib.hid ((HD.out.2 _ (List.getElem_mem hlt)).pure hm)
   have HSN := Lib.hid (decsT_snoc hlt)
   have hlw := decW_len hxz
   have HM := Lib.hid hm
   have hskl := decsT_take ds k
   have hskl2 := HTL.out
   obtain ⟨sk, hsk⟩ : ∃ sk, decsT (ds.take k) = sk := ⟨_, rfl⟩
   obtain ⟨sn, hsn⟩ : ∃ sn, decsT (ds.take (k + 1)) = sn := ⟨_, rfl⟩
   rw [hsk] at hskl HSN ⊢
   rw [hsn] at HSN
   have HSE := Lib.hid hsn
   have hskb : sk.length ≤ 100000 := by omega
   clear hm hskl hskl2 hsk hsn
   have HRD : Hid (decW ds[k] = decH ds[k] ++ ds[k].vals.map choW) := Lib.hid rfl
   generalize ds[k] = x at *
   obtain ⟨no, at_, rev, item, sec, vA, vc, vs⟩ := x
   simp only at q0 q1 q2 q3 q4 q5 HV HRD
   obtain ⟨b1, b2, b3, b4, b5, b6, b7, b8⟩ := hxz
   simp only at b1 b2 b3 b4 b5 b6 b7 b8
   have HVZ := Lib.hid b8
   obtain ⟨s1, hs1⟩ : ∃ s, Lib.itoa no = s := ⟨_, rfl⟩
   obtain ⟨s2, hs2⟩ : ∃ s, Lib.itoa at_ = s := ⟨_, rfl⟩
   obtain ⟨mw, hmw⟩ : ∃ s, secW sec = s := ⟨_, rfl⟩
   have HDH := Lib.hid (decH_eq (rev := rev) (item := item) (vA := vA) (vc := vc) (vs := vs) hs1 hs2 hmw)
   have HI1 : Hid (∀ W, Pure w W → Calls Tryz.prog 83 #[.int .i64 no] W (JnPost W s1)) := Lib.hid (fun W h => by have := itoaW_calls W no b1 b2 (HPW.out W h); rwa [hs1] at this)
   have HI2 : Hid (∀ W, Pure w W → Calls Tryz.prog 83 #[.int .i64 at_] W (JnPost W s2)) := Lib.hid (fun W h => by have := itoaW_calls W at_ b3 b4 (HPW.out W h); rwa [hs2] at this)
   obtain ⟨fl, hfl⟩ : ∃ fl : Nat, (if sec then 1 else 0) = fl := ⟨_, rfl⟩
   have HFL := Lib.hid hfl
   have HMW := Lib.hid hmw
   have hfl3 : fl < 2 := by rw [← hfl]; split <;> omega
   have hfl2 : (fl : Int) < 2 := by omega
   have HFC := Lib.hid (fun W => flagT_calls W sec fl hfl)
   clear hfl
   clear hs1 hs2 hmw b8
   go_upto_region 5 with (fail)
   have hpa := pure_alloc wr (.cells #[.int .i64 no, .int .i64 at_, .string ⟨rev.toArray⟩, .string ⟨item.toArray⟩, .bool sec, .slice vA vs.length vc] 53)
   have HB4 := Lib.hid (Blk.new wr 53 #[.int .i64 no, .int .i64 at_, .string ⟨rev.toArray⟩, .string ⟨item.toArray⟩, .bool sec, .slice vA vs.length vc])
   have HM4 := Lib.hid (HM.out.trans hpa)
   have HV4 := Lib.hid (HV.out.pure hpa)
   clear hpa HM HV q0 q1 q2 q3 q4 q5
   generalize (wr.alloc (.cells #[.int .i64 no, .int .i64 at_, .string ⟨rev.toArray⟩, .string ⟨item.toArray⟩, .bool sec, .slice vA vs.length vc] 53)) = w4 at *
   generalize wr.heap.size = gA at *
   have HGs := Lib.hid (show ∀ (D : Nat → Bool) (zzi : Nat) (zq zq' : World), (fun _ zq => (fun Z => Blk Z gA 53 #[.int .i64 no, .int .i64 at_, .string ⟨rev.toArray⟩, .string ⟨item.toArray⟩, .bool sec, .slice vA vs.length vc]) zq) D zq → Mod (fun _ => False) zq zq' → (fun _ zq => (fun Z => Blk Z gA 53 #[.int .i64 no, .int .i64 at_, .string ⟨rev.toArray⟩, .string ⟨item.toArray⟩, .bool sec, .slice vA vs.length vc]) zq) (upd D zzi true) zq' from by intro D zzi zq zq' h hm; (exact h.modp hm))
   refine wp_region_inv (by kernel_rfl) (by kernel_rfl) (InvF (R := Mod (fun _ => False)) [.is (.pointer (some ⟨gA, 0, none⟩)),
     .is (.int .i64 no),
     .is (.string ⟨s1.toArray⟩),
     .is (.pointer (some ⟨gA, 1, none⟩)),
     .is (.int .i64 at_),
     .is (.string ⟨s2.toArray⟩),
     .is (.pointer (some ⟨gA, 2, none⟩)),
     .is (.string ⟨rev.toArray⟩),
     .is (.pointer (some ⟨gA, 3, none⟩)),
     .is (.string ⟨item.toArray⟩),
     ⟨fun zv zw => ∃ (g_10 : Nat), zv = .slice (some ⟨g_10, 0, none⟩) 2 2 ∧ w4.heap.size ≤ g_10 ∧ Blk zw g_10 9 #[(.string { data := #[102, 105, 114, 115, 116] }), (.string { data := #[115, 101, 99, 111, 110, 100] })], (by rintro zv zw zx ⟨g_10, rfl, c0, q0⟩ hm; exact ⟨g_10, rfl, c0, (q0.modp hm)⟩), none, some 14⟩,
     .is (.pointer (some ⟨gA, 4, none⟩)),
     .is (.bool sec),
     .is (.int .i64 (fl : Int)),
     ⟨fun zv zw => ∃ (g_14 : Nat), zv = .pointer (some ⟨g_14, fl, none⟩) ∧ Blk zw g_14 9 #[.string ⟨#[102, 105, 114, 115, 116]⟩, .string ⟨#[115, 101, 99, 111, 110, 100]⟩], (by rintro zv zw zx ⟨g_14, rfl, q0⟩ hm; exact ⟨g_14, rfl, (q0.modp hm)⟩), none, some 15⟩,
     .is (.string ⟨mw.toArray⟩),
     ⟨fun zv zw => ∃ (g_16 : Nat), zv = .slice (some ⟨g_16, 0, none⟩) 6 6 ∧ w4.heap.size ≤ g_16 ∧ Blk zw g_16 9 #[(.string { data := #[100, 101, 99, 105, 115, 105, 111, 110] }), .string ⟨s1.toArray⟩, .string ⟨s2.toArray⟩, .string ⟨rev.toArray⟩, .string ⟨item.toArray⟩, .string ⟨mw.toArray⟩], (by rintro zv zw zx ⟨g_16, rfl, c0, q0⟩ hm; exact ⟨g_16, rfl, c0, (q0.modp hm)⟩), none, none⟩,
     ⟨fun zv zw => ∃ (g_17 : Nat), zv = .slice (some ⟨g_17, 0, none⟩) 6 6 ∧ w4.heap.size ≤ g_17 ∧ Blk zw g_17 9 #[(.string { data := #[100, 101, 99, 105, 115, 105, 111, 110] }), .string ⟨s1.toArray⟩, .string ⟨s2.toArray⟩, .string ⟨rev.toArray⟩, .string ⟨item.toArray⟩, .string ⟨mw.toArray⟩], (by rintro zv zw zx ⟨g_17, rfl, c0, q0⟩ hm; exact ⟨g_17, rfl, c0, (q0.modp hm)⟩), none, none⟩]
     (PB w4 (fun _ => False) w4.heap.size (fun _ zq => (fun Z => Blk Z gA 53 #[.int .i64 no, .int .i64 at_, .string ⟨rev.toArray⟩, .string ⟨item.toArray⟩, .bool sec, .slice vA vs.length vc]) zq))) (InvF.start (PB.start (Mod.refl _ _) (Nat.le_refl _) (HB4.out.drew))) ?_ ?_
   ·refine .cons ?_ (.cons ?_ (.cons ?_ (.cons ?_ (.cons ?_ (.cons ?_ (.cons ?_ (.cons ?_ (.cons ?_ (.cons ?_ (.cons ?_ (.cons ?_ (.cons ?_ (.cons ?_ (.cons ?_ (.cons ?_ (.cons ?_ (.cons ?_ .nil)))))))))))))))))
    ·intro D V zw1 a hR hI K hK
     obtain ⟨hM1, hB1, hG1⟩ := hI.1
     have ze5 := hR.frame.other (t := 5) (by kernel_rfl) rfl
     rw [if_pos (by rfl)]
     go_simp
     exact hK (.pointer (some ⟨gA, 0, none⟩)) _ (hI.next hR (by kernel_rfl) (Mod.refl _ _) (PB.quiet hI.1 (Mod.refl _ _) (HGs.out D 0 zw1 zw1 (hI.1).g (Mod.refl _ _))) (upd_same V 0 _))
    ·intro D V zw1 a hR hI K hK
     obtain ⟨hM1, hB1, hG1⟩ := hI.1
     have zd0 := hR.pred 0 (by kernel_rfl)
     have zF0 : V 0 = .pointer (some ⟨gA, 0, none⟩) := hI.2 0 zd0 rfl
     have zf0 := zF0; clear zF0
     have ze15 := hR.frame.done (t := 15) (j := 0) (by kernel_rfl) hR.ok zd0
     have zx0 := hG1.cell 0; simp at zx0
     rw [if_pos (by rfl)]
     go_simp
     exact hK (.int .i64 no) _ (hI.next hR (by kernel_rfl) (Mod.refl _ _) (PB.quiet hI.1 (Mod.refl _ _) (HGs.out D 1 zw1 zw1 (hI.1).g (Mod.refl _ _))) (upd_same V 1 _))
    ·intro D V zw1 a hR hI K hK
     obtain ⟨hM1, hB1, hG1⟩ := hI.1
     have zd1 := hR.pred 1 (by kernel_rfl)
     have zF1 : V 1 = .int .i64 no := hI.2 1 zd1 rfl
     have zf1 := zF1; clear zF1
     have ze16 := hR.frame.done (t := 16) (j := 1) (by kernel_rfl) hR.ok zd1
     rw [if_pos (by rfl)]
     go_simp
     refine (HI1.out _ (HM4.out.trans hM1)).mono ?_
     rintro e zw2 ⟨rfl, hm2⟩
     exact hK (.string ⟨s1.toArray⟩) _ (hI.next hR (by kernel_rfl) hm2 (PB.quiet hI.1 hm2 (HGs.out D 2 _ _ (hI.1).g hm2)) (upd_same V 2 _))
    ·intro D V zw1 a hR hI K hK
     obtain ⟨hM1, hB1, hG1⟩ := hI.1
     have ze5 := hR.frame.other (t := 5) (by kernel_rfl) rfl
     rw [if_pos (by rfl)]
     go_simp
     exact hK (.pointer (some ⟨gA, 1, none⟩)) _ (hI.next hR (by kernel_rfl) (Mod.refl _ _) (PB.quiet hI.1 (Mod.refl _ _) (HGs.out D 3 zw1 zw1 (hI.1).g (Mod.refl _ _))) (upd_same V 3 _))
    ·intro D V zw1 a hR hI K hK
     obtain ⟨hM1, hB1, hG1⟩ := hI.1
     have zd3 := hR.pred 3 (by kernel_rfl)
     have zF3 : V 3 = .pointer (some ⟨gA, 1, none⟩) := hI.2 3 zd3 rfl
     have zf3 := zF3; clear zF3
     have ze18 := hR.frame.done (t := 18) (j := 3) (by kernel_rfl) hR.ok zd3
     have zx0 := hG1.cell 1; simp at zx0
     rw [if_pos (by rfl)]
     go_simp
     exact hK (.int .i64 at_) _ (hI.next hR (by kernel_rfl) (Mod.refl _ _) (PB.quiet hI.1 (Mod.refl _ _) (HGs.out D 4 zw1 zw1 (hI.1).g (Mod.refl _ _))) (upd_same V 4 _))
    ·intro D V zw1 a hR hI K hK
     obtain ⟨hM1, hB1, hG1⟩ := hI.1
     have zd4 := hR.pred 4 (by kernel_rfl)
     have zF4 : V 4 = .int .i64 at_ := hI.2 4 zd4 rfl
     have zf4 := zF4; clear zF4
     have ze19 := hR.frame.done (t := 19) (j := 4) (by kernel_rfl) hR.ok zd4
     rw [if_pos (by rfl)]
     go_simp
     refine (HI2.out _ (HM4.out.trans hM1)).mono ?_
     rintro e zw2 ⟨rfl, hm2⟩
     exact hK (.string ⟨s2.toArray⟩) _ (hI.next hR (by kernel_rfl) hm2 (PB.quiet hI.1 hm2 (HGs.out D 5 _ _ (hI.1).g hm2)) (upd_same V 5 _))
    ·intro D V zw1 a hR hI K hK
     obtain ⟨hM1, hB1, hG1⟩ := hI.1
     have ze5 := hR.frame.other (t := 5) (by kernel_rfl) rfl
     rw [if_pos (by rfl)]
     go_simp
     exact hK (.pointer (some ⟨gA, 2, none⟩)) _ (hI.next hR (by kernel_rfl) (Mod.refl _ _) (PB.quiet hI.1 (Mod.refl _ _) (HGs.out D 6 zw1 zw1 (hI.1).g (Mod.refl _ _))) (upd_same V 6 _))
    ·intro D V zw1 a hR hI K hK
     obtain ⟨hM1, hB1, hG1⟩ := hI.1
     have zd6 := hR.pred 6 (by kernel_rfl)
     have zF6 : V 6 = .pointer (some ⟨gA, 2, none⟩) := hI.2 6 zd6 rfl
     have zf6 := zF6; clear zF6
     have ze21 := hR.frame.done (t := 21) (j := 6) (by kernel_rfl) hR.ok zd6
     have zx0 := hG1.cell 2; simp at zx0
     rw [if_pos (by rfl)]
     go_simp
     exact hK (.string ⟨rev.toArray⟩) _ (hI.next hR (by kernel_rfl) (Mod.refl _ _) (PB.quiet hI.1 (Mod.refl _ _) (HGs.out D 7 zw1 zw1 (hI.1).g (Mod.refl _ _))) (upd_same V 7 _))
    ·intro D V zw1 a hR hI K hK
     obtain ⟨hM1, hB1, hG1⟩ := hI.1
     have ze5 := hR.frame.other (t := 5) (by kernel_rfl) rfl
     rw [if_pos (by rfl)]
     go_simp
     exact hK (.pointer (some ⟨gA, 3, none⟩)) _ (hI.next hR (by kernel_rfl) (Mod.refl _ _) (PB.quiet hI.1 (Mod.refl _ _) (HGs.out D 8 zw1 zw1 (hI.1).g (Mod.refl _ _))) (upd_same V 8 _))
    ·intro D V zw1 a hR hI K hK
     obtain ⟨hM1, hB1, hG1⟩ := hI.1
     have zd8 := hR.pred 8 (by kernel_rfl)
     have zF8 : V 8 = .pointer (some ⟨gA, 3, none⟩) := hI.2 8 zd8 rfl
     have zf8 := zF8; clear zF8
     have ze23 := hR.frame.done (t := 23) (j := 8) (by kernel_rfl) hR.ok zd8
     have zx0 := hG1.cell 3; simp at zx0
     rw [if_pos (by rfl)]
     go_simp
     exact hK (.string ⟨item.toArray⟩) _ (hI.next hR (by kernel_rfl) (Mod.refl _ _) (PB.quiet hI.1 (Mod.refl _ _) (HGs.out D 9 zw1 zw1 (hI.1).g (Mod.refl _ _))) (upd_same V 9 _))
    ·intro D V zw1 a hR hI K hK
     obtain ⟨hM1, hB1, hG1⟩ := hI.1
     rw [if_pos (by rfl)]
     go_simp
     exact hK (_) _ (hI.next hR (by kernel_rfl) ((Mod.refl _ _).alloc _) (PB.quiet hI.1 (pure_alloc _ _) (HGs.out D 10 _ _ (hI.1).g ((Mod.refl _ _).alloc _))) (⟨_, upd_same V 10 _, (by omega), (Blk.new _ _ _)⟩))
    ·intro D V zw1 a hR hI K hK
     obtain ⟨hM1, hB1, hG1⟩ := hI.1
     have ze5 := hR.frame.other (t := 5) (by kernel_rfl) rfl
     rw [if_pos (by rfl)]
     go_simp
     exact hK (.pointer (some ⟨gA, 4, none⟩)) _ (hI.next hR (by kernel_rfl) (Mod.refl _ _) (PB.quiet hI.1 (Mod.refl _ _) (HGs.out D 11 zw1 zw1 (hI.1).g (Mod.refl _ _))) (upd_same V 11 _))
    ·intro D V zw1 a hR hI K hK
     obtain ⟨hM1, hB1, hG1⟩ := hI.1
     have zd11 := hR.pred 11 (by kernel_rfl)
     have zF11 : V 11 = .pointer (some ⟨gA, 4, none⟩) := hI.2 11 zd11 rfl
     have zf11 := zF11; clear zF11
     have ze26 := hR.frame.done (t := 26) (j := 11) (by kernel_rfl) hR.ok zd11
     have zx0 := hG1.cell 4; simp at zx0
     rw [if_pos (by rfl)]
     go_simp
     exact hK (.bool sec) _ (hI.next hR (by kernel_rfl) (Mod.refl _ _) (PB.quiet hI.1 (Mod.refl _ _) (HGs.out D 12 zw1 zw1 (hI.1).g (Mod.refl _ _))) (upd_same V 12 _))
    ·intro D V zw1 a hR hI K hK
     obtain ⟨hM1, hB1, hG1⟩ := hI.1
     have zd12 := hR.pred 12 (by kernel_rfl)
     have zF12 : V 12 = .bool sec := hI.2 12 zd12 rfl
     have zf12 := zF12; clear zF12
     have ze27 := hR.frame.done (t := 27) (j := 12) (by kernel_rfl) hR.ok zd12
     rw [if_pos (by rfl)]
     go_simp
     refine (HFC.out _).mono ?_
     rintro e zw2 ⟨rfl, hm2⟩
     exact hK (.int .i64 (fl : Int)) _ (hI.next hR (by kernel_rfl) hm2 (PB.quiet hI.1 hm2 (HGs.out D 13 _ _ (hI.1).g hm2)) (upd_same V 13 _))
    ·intro D V zw1 a hR hI K hK
     obtain ⟨hM1, hB1, hG1⟩ := hI.1
     have zd10 := hR.pred 10 (by kernel_rfl)
     have zF10 : ∃ (g_10 : Nat), V 10 = .slice (some ⟨g_10, 0, none⟩) 2 2 ∧ w4.heap.size ≤ g_10 ∧ Blk zw1 g_10 9 #[(.string { data := #[102, 105, 114, 115, 116] }), (.string { data := #[115, 101, 99, 111, 110, 100] })] := hI.2 10 zd10 (by show (!D 14) = true; rw [hR.not]; rfl)
     obtain ⟨g_10, zf10, c10_0, b10_0⟩ := zF10
     have zd13 := hR.pred 13 (by kernel_rfl)
     have zF13 : V 13 = .int .i64 (fl : Int) := hI.2 13 zd13 rfl
     have zf13 := zF13; clear zF13
     have ze25 := hR.frame.done (t := 25) (j := 10) (by kernel_rfl) hR.ok zd10
     have ze28 := hR.frame.done (t := 28) (j := 13) (by kernel_rfl) hR.ok zd13
     rw [if_pos (by rfl)]
     go_simp
     exact hK (_) _ (hI.next hR (by kernel_rfl) (Mod.refl _ _) (PB.quiet hI.1 (Mod.refl _ _) (HGs.out D 14 zw1 zw1 (hI.1).g (Mod.refl _ _))) (⟨g_10, upd_same V 14 _, b10_0⟩))
    ·intro D V zw1 a hR hI K hK
     obtain ⟨hM1, hB1, hG1⟩ := hI.1
     have zd14 := hR.pred 14 (by kernel_rfl)
     have zF14 : ∃ (g_14 : Nat), V 14 = .pointer (some ⟨g_14, fl, none⟩) ∧ Blk zw1 g_14 9 #[.string ⟨#[102, 105, 114, 115, 116]⟩, .string ⟨#[115, 101, 99, 111, 110, 100]⟩] := hI.2 14 zd14 (by show (!D 15) = true; rw [hR.not]; rfl)
     obtain ⟨g_14, zf14, b14_0⟩ := zF14
     have ze29 := hR.frame.done (t := 29) (j := 14) (by kernel_rfl) hR.ok zd14
     have zx0 := fs_cell b14_0 HFL.out HMW.out
     rw [if_pos (by rfl)]
     go_simp
     exact hK (.string ⟨mw.toArray⟩) _ (hI.next hR (by kernel_rfl) (Mod.refl _ _) (PB.quiet hI.1 (Mod.refl _ _) (HGs.out D 15 zw1 zw1 (hI.1).g (Mod.refl _ _))) (upd_same V 15 _))
    ·intro D V zw1 a hR hI K hK
     obtain ⟨hM1, hB1, hG1⟩ := hI.1
     have zd2 := hR.pred 2 (by kernel_rfl)
     have zF2 : V 2 = .string ⟨s1.toArray⟩ := hI.2 2 zd2 rfl
     have zf2 := zF2; clear zF2
     have zd5 := hR.pred 5 (by kernel_rfl)
     have zF5 : V 5 = .string ⟨s2.toArray⟩ := hI.2 5 zd5 rfl
     have zf5 := zF5; clear zF5
     have zd7 := hR.pred 7 (by kernel_rfl)
     have zF7 : V 7 = .string ⟨rev.toArray⟩ := hI.2 7 zd7 rfl
     have zf7 := zF7; clear zF7
     have zd9 := hR.pred 9 (by kernel_rfl)
     have zF9 : V 9 = .string ⟨item.toArray⟩ := hI.2 9 zd9 rfl
     have zf9 := zF9; clear zF9
     have zd15 := hR.pred 15 (by kernel_rfl)
     have zF15 : V 15 = .string ⟨mw.toArray⟩ := hI.2 15 zd15 rfl
     have zf15 := zF15; clear zF15
     have ze17 := hR.frame.done (t := 17) (j := 2) (by kernel_rfl) hR.ok zd2
     have ze20 := hR.frame.done (t := 20) (j := 5) (by kernel_rfl) hR.ok zd5
     have ze22 := hR.frame.done (t := 22) (j := 7) (by kernel_rfl) hR.ok zd7
     have ze24 := hR.frame.done (t := 24) (j := 9) (by kernel_rfl) hR.ok zd9
     have ze30 := hR.frame.done (t := 30) (j := 15) (by kernel_rfl) hR.ok zd15
     rw [if_pos (by rfl)]
     go_simp
     exact hK (_) _ (hI.next hR (by kernel_rfl) ((Mod.refl _ _).alloc _) (PB.quiet hI.1 (pure_alloc _ _) (HGs.out D 16 _ _ (hI.1).g ((Mod.refl _ _).alloc _))) (⟨_, upd_same V 16 _, (by omega), (Blk.new _ _ _)⟩))
    ·intro D V zw1 a hR hI K hK
     obtain ⟨hM1, hB1, hG1⟩ := hI.1
     have zd16 := hR.pred 16 (by kernel_rfl)
     have zF16 : ∃ (g_16 : Nat), V 16 = .slice (some ⟨g_16, 0, none⟩) 6 6 ∧ w4.heap.size ≤ g_16 ∧ Blk zw1 g_16 9 #[(.string { data := #[100, 101, 99, 105, 115, 105, 111, 110] }), .string ⟨s1.toArray⟩, .string ⟨s2.toArray⟩, .string ⟨rev.toArray⟩, .string ⟨item.toArray⟩, .string ⟨mw.toArray⟩] := hI.2 16 zd16 rfl
     obtain ⟨g_16, zf16, c16_0, b16_0⟩ := zF16
     have ze31 := hR.frame.done (t := 31) (j := 16) (by kernel_rfl) hR.ok zd16
     rw [if_pos (by rfl)]
     go_simp
     exact hK (.slice (some ⟨g_16, 0, none⟩) 6 6) _ (hI.next hR (by kernel_rfl) (Mod.refl _ _) (PB.quiet hI.1 (Mod.refl _ _) (HGs.out D 17 zw1 zw1 (hI.1).g (Mod.refl _ _))) (⟨g_16, upd_same V 17 _, (by first | assumption | omega), b16_0⟩))
   ·intro D V w5 hD hI
    obtain ⟨hM1, hB1, hG1⟩ := hI.1
    have hMx := hM1
    clear hM1
    have hBx := hB1
    clear hB1
    have hGx := hG1
    clear hG1
    have zF0 : V 0 = .pointer (some ⟨gA, 0, none⟩) := hI.2 0 (hD 0 (by decide)) rfl
    have zf0 := zF0; clear zF0
    have zF1 : V 1 = .int .i64 no := hI.2 1 (hD 1 (by decide)) rfl
    have zf1 := zF1; clear zF1
    have zF2 : V 2 = .string ⟨s1.toArray⟩ := hI.2 2 (hD 2 (by decide)) rfl
    have zf2 := zF2; clear zF2
    have zF3 : V 3 = .pointer (some ⟨gA, 1, none⟩) := hI.2 3 (hD 3 (by decide)) rfl
    have zf3 := zF3; clear zF3
    have zF4 : V 4 = .int .i64 at_ := hI.2 4 (hD 4 (by decide)) rfl
    have zf4 := zF4; clear zF4
    have zF5 : V 5 = .string ⟨s2.toArray⟩ := hI.2 5 (hD 5 (by decide)) rfl
    have zf5 := zF5; clear zF5
    have zF6 : V 6 = .pointer (some ⟨gA, 2, none⟩) := hI.2 6 (hD 6 (by decide)) rfl
    have zf6 := zF6; clear zF6
    have zF7 : V 7 = .string ⟨rev.toArray⟩ := hI.2 7 (hD 7 (by decide)) rfl
    have zf7 := zF7; clear zF7
    have zF8 : V 8 = .pointer (some ⟨gA, 3, none⟩) := hI.2 8 (hD 8 (by decide)) rfl
    have zf8 := zF8; clear zF8
    have zF9 : V 9 = .string ⟨item.toArray⟩ := hI.2 9 (hD 9 (by decide)) rfl
    have zf9 := zF9; clear zF9
    have zF11 : V 11 = .pointer (some ⟨gA, 4, none⟩) := hI.2 11 (hD 11 (by decide)) rfl
    have zf11 := zF11; clear zF11
    have zF12 : V 12 = .bool sec := hI.2 12 (hD 12 (by decide)) rfl
    have zf12 := zF12; clear zF12
    have zF13 : V 13 = .int .i64 (fl : Int) := hI.2 13 (hD 13 (by decide)) rfl
    have zf13 := zF13; clear zF13
    have zF15 : V 15 = .string ⟨mw.toArray⟩ := hI.2 15 (hD 15 (by decide)) rfl
    have zf15 := zF15; clear zF15
    have zF16 : ∃ (g_16 : Nat), V 16 = .slice (some ⟨g_16, 0, none⟩) 6 6 ∧ w4.heap.size ≤ g_16 ∧ Blk w5 g_16 9 #[(.string { data := #[100, 101, 99, 105, 115, 105, 111, 110] }), .string ⟨s1.toArray⟩, .string ⟨s2.toArray⟩, .string ⟨rev.toArray⟩, .string ⟨item.toArray⟩, .string ⟨mw.toArray⟩] := hI.2 16 (hD 16 (by decide)) rfl
    obtain ⟨g_16, zf16, c16_0, b16_0⟩ := zF16
    have zF17 : ∃ (g_17 : Nat), V 17 = .slice (some ⟨g_17, 0, none⟩) 6 6 ∧ w4.heap.size ≤ g_17 ∧ Blk w5 g_17 9 #[(.string { data := #[100, 101, 99, 105, 115, 105, 111, 110] }), .string ⟨s1.toArray⟩, .string ⟨s2.toArray⟩, .string ⟨rev.toArray⟩, .string ⟨item.toArray⟩, .string ⟨mw.toArray⟩] := hI.2 17 (hD 17 (by decide)) rfl
    obtain ⟨g_17, zf17, c17_0, b17_0⟩ := zF17
    clear hI hD HGs
    simp only [frAll, Act.put, List.setIfInBounds_toArray, List.set_cons_zero, List.set_cons_succ, Nat.zero_add, Nat.reduceAdd, zf0, zf1, zf2, zf3, zf4, zf5, zf6, zf7, zf8, zf9, zf11, zf12, zf13, zf15, zf16, zf17]
    clear zf0 zf1 zf2 zf3 zf4 zf5 zf6 zf7 zf8 zf9 zf11 zf12 zf13 zf15 zf16 zf17
    generalize V 10 = u10
    generalize V 14 = u14
    clear V D
    have HX := Lib.hid b17_0
    have hxg := c17_0
    have HR5 := Lib.hid hGx
    have HM5 := Lib.hid hMx
    have hgx := b17_0.lt
    clear b16_0 b17_0 c16_0 c17_0 hMx hBx hGx HB4 HI1 HI2 HFC
    generalize g_17 = gx at *
    obtain ⟨bw, hbw⟩ : ∃ bw, bw = w4.heap.size := ⟨_, rfl⟩
    have hbw1 := Nat.le_of_eq hbw
    have hbw2 := Nat.le_of_eq hbw.symm
    clear hbw
    have HOW : Hid (OwS w5 bw (.slice (some ⟨gx, 0, none⟩) 6 6) 6 (decH ⟨no, at_, rev, item, sec, vA, vc, vs⟩)) := Lib.hid (by
     unfold OwS
     rw [HDH.out]
     exact own_ofBlk (n := 6) (size := 1) (bw := bw) HX.out (by omega) (by rfl) (by omega))
    obtain ⟨hd, hhd⟩ : ∃ hd, decH ⟨no, at_, rev, item, sec, vA, vc, vs⟩ = hd := ⟨_, rfl⟩
    rw [hhd] at HRD HOW
    have hR5 := HR5.out
    have r5 := hR5.cell 5
    simp at r5
    have hvl := (HV4.out).len
    clear hR5 HX HDH hhd
    go_wp2_with fail
    go_loopg [6, 35] vs.length (fun gk v i wr => DwRel w4 bw gA #[.int .i64 no, .int .i64 at_, .string ⟨rev.toArray⟩, .string ⟨item.toArray⟩, .bool sec, .slice vA vs.length vc] hd vs gk v i wr)
    case atStart => exact ⟨0, 6, gx, by omega, by omega, rfl, rfl, by simpa using HOW.out, HR5.out, HM5.out⟩
    case round =>
     clear HOW HR5 HM5
     obtain ⟨j, cap, gw, rfl, hj, rfl, rfl, hO, hB, hm⟩ := hrel
     have HO := Lib.hid hO
     have HB := Lib.hid hB
     have HM := Lib.hid hm
     clear hO hB
     by_cases hlj : j < vs.length
     ·obtain ⟨g2, o2, rfl, p0, p1⟩ := (HV4.out.pure hm).cells hlj
      have HCS := Lib.hid (HV4.out.2 _ (List.getElem_mem hlj))
      have hcz := HVZ.out _ (List.getElem_mem hlj)
      have HVT := Lib.hid (vals_take hlj)
      have HCW : Hid (choW vs[j] = (vs[j].field ++ [61]) ++ Lib.join vs[j].ch [44]) := Lib.hid rfl
      generalize vs[j] = y at *
      obtain ⟨f, cA, cc, ch⟩ := y
      simp only at p0 p1 HCS HCW
      obtain ⟨z1, z2, z3⟩ := hcz
      simp only at z1 z2 z3
      obtain ⟨jc, hjc⟩ : ∃ jc, Lib.join ch [44] = jc := ⟨_, rfl⟩
      have hjl : jc.length ≤ 15 := by
       have a := join44_len ch
       have b := sum_le z3
       rw [hjc] at a
       omega
      have HJC : Hid (∀ W, Pure w4 W → Calls Tryz.prog 57 #[.slice cA ch.length cc, .string ⟨#[44]⟩] W (JnPost W jc)) := Lib.hid (fun W h => by
       have := joinT_calls W _ ch [44] (HCS.out.pure h) (by omega) (by rw [hjc]; omega)
       rwa [hjc] at this)
      obtain ⟨cw, hcw⟩ : ∃ cw, choW ⟨f, cA, cc, ch⟩ = cw := ⟨_, rfl⟩
      rw [hcw] at HCW HVT
      rw [hjc] at HCW
      have HE1 : Hid ((⟨f.toArray⟩ : ByteArray) ++ ⟨#[61]⟩ = ⟨(f ++ [61]).toArray⟩) := Lib.hid (bytes_appT f [61])
      have HE2 : Hid ((⟨(f ++ [61]).toArray⟩ : ByteArray) ++ ⟨jc.toArray⟩ = ⟨cw.toArray⟩) := Lib.hid (by rw [bytes_appT, HCW.out])
      obtain ⟨fe, hfe⟩ : ∃ fe, f ++ [61] = fe := ⟨_, rfl⟩
      have hfl : fe.length ≤ 5 := by rw [← hfe, List.length_append]; show f.length + 1 ≤ 5; omega
      rw [hfe] at HE1 HE2
      clear hjc hcw hfe z3 HCS HCW
      go_upto_region 9 with (fail)
      have hpb := pure_alloc wr (.cells #[.string ⟨f.toArray⟩, .slice cA ch.length cc] 134)
      have HC6 := Lib.hid (Blk.new wr 134 #[.string ⟨f.toArray⟩, .slice cA ch.length cc])
      have HB6 := Lib.hid (HB.out.modp hpb)
      have HO6 := Lib.hid (HO.out.pure hpb)
      have HM6 := Lib.hid (HM.out.trans hpb)
      have hz6 : w4.heap.size ≤ wr.heap.size := HM.out.size
      have HLT : Hid (∀ i, (Value.slice (some ⟨gw, 0, none⟩) (6 + j) cap).ownBlock = some i → i < (wr.alloc (.cells #[.string ⟨f.toArray⟩, .slice cA ch.length cc] 134)).heap.size) := Lib.hid (fun i hi => (HO6.out.lt i hi).2)
      clear hpb HB HO HM hm p0 p1
      generalize (wr.alloc (.cells #[.string ⟨f.toArray⟩, .slice cA ch.length cc] 134)) = w6 at *
      generalize wr.heap.size = gC at *
      obtain ⟨nj, hnj⟩ : ∃ nj, 6 + j = nj := ⟨_, rfl⟩
      have hnj1 := Nat.le_of_eq hnj
      have hnj2 := Nat.le_of_eq hnj.symm
      rw [hnj] at HO6 HLT ⊢
      have HNJ := Lib.hid hnj
      have hw46 : w4.heap.size ≤ w6.heap.size := HM6.out.size
      have hjb : j ≤ 4 := by omega
      clear hnj
      obtain ⟨i0, hi0, hz0, hz1, hz2⟩ := info_parts info_strT
      have HGs := Lib.hid (show ∀ (D : Nat → Bool) (zzi : Nat) (zq zq' : World), zzi ≠ 9 → (fun D zq => (D 9 = false → (fun Z => OwS Z bw (.slice (some ⟨gw, 0, none⟩) nj cap) nj (hd ++ (vs.take j).map choW)) zq) ∧ (fun Z => Blk Z gA 53 #[.int .i64 no, .int .i64 at_, .string ⟨rev.toArray⟩, .string ⟨item.toArray⟩, .bool sec, .slice (some ⟨g2, o2, none⟩) vs.length vc] ∧ Blk Z gC 134 #[.string ⟨f.toArray⟩, .slice cA ch.length cc]) zq) D zq → Mod (fun _ => False) zq zq' → (fun D zq => (D 9 = false → (fun Z => OwS Z bw (.slice (some ⟨gw, 0, none⟩) nj cap) nj (hd ++ (vs.take j).map choW)) zq) ∧ (fun Z => Blk Z gA 53 #[.int .i64 no, .int .i64 at_, .string ⟨rev.toArray⟩, .string ⟨item.toArray⟩, .bool sec, .slice (some ⟨g2, o2, none⟩) vs.length vc] ∧ Blk Z gC 134 #[.string ⟨f.toArray⟩, .slice cA ch.length cc]) zq) (upd D zzi true) zq' from by intro D zzi zq zq' hi hh hm; refine ⟨fun hs => ?_, ?_⟩; (rw [upd_ne _ _ (Ne.symm hi)] at hs; have h := hh.1 hs; (exact h.pure hm)); (have h := hh.2; (exact ⟨h.1.modp hm, h.2.modp hm⟩)))
      refine wp_region_inv (by kernel_rfl) (by kernel_rfl) (InvF (R := Mod (fun _ => False)) [.is (.slice (some ⟨gw, 0, none⟩) nj cap),
        .is (.pointer (some ⟨gC, 0, none⟩)),
        .is (.string ⟨f.toArray⟩),
        .is (.string ⟨fe.toArray⟩),
        .is (.pointer (some ⟨gC, 1, none⟩)),
        .is (.slice cA ch.length cc),
        .is (.string ⟨jc.toArray⟩),
        .is (.string ⟨cw.toArray⟩),
        ⟨fun zv zw => ∃ (g_8 : Nat), zv = .slice (some ⟨g_8, 0, none⟩) 1 1 ∧ w6.heap.size ≤ g_8 ∧ Blk zw g_8 9 #[.string ⟨cw.toArray⟩], (by rintro zv zw zx ⟨g_8, rfl, c0, q0⟩ hm; exact ⟨g_8, rfl, c0, (q0.modp hm)⟩), none, some 9⟩,
        ⟨fun zv zw => ∃ (g_9 : Nat) (c_9 : Nat), zv = .slice (some ⟨g_9, 0, none⟩) (nj + 1) c_9 ∧ OwS zw bw (.slice (some ⟨g_9, 0, none⟩) (nj + 1) c_9) (nj + 1) (hd ++ (vs.take j).map choW ++ [cw]), (by rintro zv zw zx ⟨g_9, c_9, rfl, q0⟩ hm; exact ⟨g_9, c_9, rfl, (q0.pure hm)⟩), none, none⟩,
        ⟨fun zv zw => ∃ (g_10 : Nat) (c_10 : Nat), zv = .slice (some ⟨g_10, 0, none⟩) (nj + 1) c_10 ∧ OwS zw bw (.slice (some ⟨g_10, 0, none⟩) (nj + 1) c_10) (nj + 1) (hd ++ (vs.take j).map choW ++ [cw]), (by rintro zv zw zx ⟨g_10, c_10, rfl, q0⟩ hm; exact ⟨g_10, c_10, rfl, (q0.pure hm)⟩), none, none⟩]
        (PB w4 (fun _ => False) w6.heap.size (fun D zq => (D 9 = false → (fun Z => OwS Z bw (.slice (some ⟨gw, 0, none⟩) nj cap) nj (hd ++ (vs.take j).map choW)) zq) ∧ (fun Z => Blk Z gA 53 #[.int .i64 no, .int .i64 at_, .string ⟨rev.toArray⟩, .string ⟨item.toArray⟩, .bool sec, .slice (some ⟨g2, o2, none⟩) vs.length vc] ∧ Blk Z gC 134 #[.string ⟨f.toArray⟩, .slice cA ch.length cc]) zq))) (InvF.start (PB.start HM6.out (Nat.le_refl _) (⟨fun _ => HO6.out.pure ((Mod.refl _ _).drew), ⟨HB6.out.drew, HC6.out.drew⟩⟩))) ?_ ?_
      ·refine .cons ?_ (.cons ?_ (.cons ?_ (.cons ?_ (.cons ?_ (.cons ?_ (.cons ?_ (.cons ?_ (.cons ?_ (.cons ?_ (.cons ?_ .nil))))))))))
       ·intro D V zw1 a hR hI K hK
        obtain ⟨hM1, hB1, hG1⟩ := hI.1
        obtain ⟨hGK, hG1⟩ := hG1
        have ze6 := hR.frame.undone (t := 6) (j := 10) (by kernel_rfl) (hR.later 10 rfl (by kernel_rfl)) rfl
        rw [if_pos (by rfl)]
        go_simp
        exact hK (.slice (some ⟨gw, 0, none⟩) nj cap) _ (hI.next hR (by kernel_rfl) (Mod.refl _ _) (PB.quiet hI.1 (Mod.refl _ _) (HGs.out D 0 zw1 zw1 (by omega) (hI.1).g (Mod.refl _ _))) (upd_same V 0 _))
       ·intro D V zw1 a hR hI K hK
        obtain ⟨hM1, hB1, hG1⟩ := hI.1
        obtain ⟨hGK, hG1⟩ := hG1
        have ze8 := hR.frame.other (t := 8) (by kernel_rfl) rfl
        rw [if_pos (by rfl)]
        go_simp
        exact hK (.pointer (some ⟨gC, 0, none⟩)) _ (hI.next hR (by kernel_rfl) (Mod.refl _ _) (PB.quiet hI.1 (Mod.refl _ _) (HGs.out D 1 zw1 zw1 (by omega) (hI.1).g (Mod.refl _ _))) (upd_same V 1 _))
       ·intro D V zw1 a hR hI K hK
        obtain ⟨hM1, hB1, hG1⟩ := hI.1
        obtain ⟨hGK, hG1⟩ := hG1
        have zd1 := hR.pred 1 (by kernel_rfl)
        have zF1 : V 1 = .pointer (some ⟨gC, 0, none⟩) := hI.2 1 zd1 rfl
        have zf1 := zF1; clear zF1
        have ze40 := hR.frame.done (t := 40) (j := 1) (by kernel_rfl) hR.ok zd1
        have zx0 := hG1.2.cell 0; simp at zx0
        rw [if_pos (by rfl)]
        go_simp
        exact hK (.string ⟨f.toArray⟩) _ (hI.next hR (by kernel_rfl) (Mod.refl _ _) (PB.quiet hI.1 (Mod.refl _ _) (HGs.out D 2 zw1 zw1 (by omega) (hI.1).g (Mod.refl _ _))) (upd_same V 2 _))
       ·intro D V zw1 a hR hI K hK
        obtain ⟨hM1, hB1, hG1⟩ := hI.1
        obtain ⟨hGK, hG1⟩ := hG1
        have zd2 := hR.pred 2 (by kernel_rfl)
        have zF2 : V 2 = .string ⟨f.toArray⟩ := hI.2 2 zd2 rfl
        have zf2 := zF2; clear zF2
        have ze41 := hR.frame.done (t := 41) (j := 2) (by kernel_rfl) hR.ok zd2
        rw [if_pos (by rfl)]
        go_simp
        rw [if_neg (by omega)]
        go_simp
        rw [HE1.out]
        exact hK (.string ⟨fe.toArray⟩) _ (hI.next hR (by kernel_rfl) (Mod.refl _ _) (PB.quiet hI.1 (Mod.refl _ _) (HGs.out D 3 zw1 zw1 (by omega) (hI.1).g (Mod.refl _ _))) (upd_same V 3 _))
       ·intro D V zw1 a hR hI K hK
        obtain ⟨hM1, hB1, hG1⟩ := hI.1
        obtain ⟨hGK, hG1⟩ := hG1
        have ze8 := hR.frame.other (t := 8) (by kernel_rfl) rfl
        rw [if_pos (by rfl)]
        go_simp
        exact hK (.pointer (some ⟨gC, 1, none⟩)) _ (hI.next hR (by kernel_rfl) (Mod.refl _ _) (PB.quiet hI.1 (Mod.refl _ _) (HGs.out D 4 zw1 zw1 (by omega) (hI.1).g (Mod.refl _ _))) (upd_same V 4 _))
       ·intro D V zw1 a hR hI K hK
        obtain ⟨hM1, hB1, hG1⟩ := hI.1
        obtain ⟨hGK, hG1⟩ := hG1
        have zd4 := hR.pred 4 (by kernel_rfl)
        have zF4 : V 4 = .pointer (some ⟨gC, 1, none⟩) := hI.2 4 zd4 rfl
        have zf4 := zF4; clear zF4
        have ze43 := hR.frame.done (t := 43) (j := 4) (by kernel_rfl) hR.ok zd4
        have zx0 := hG1.2.cell 1; simp at zx0
        rw [if_pos (by rfl)]
        go_simp
        exact hK (.slice cA ch.length cc) _ (hI.next hR (by kernel_rfl) (Mod.refl _ _) (PB.quiet hI.1 (Mod.refl _ _) (HGs.out D 5 zw1 zw1 (by omega) (hI.1).g (Mod.refl _ _))) (upd_same V 5 _))
       ·intro D V zw1 a hR hI K hK
        obtain ⟨hM1, hB1, hG1⟩ := hI.1
        obtain ⟨hGK, hG1⟩ := hG1
        have zd5 := hR.pred 5 (by kernel_rfl)
        have zF5 : V 5 = .slice cA ch.length cc := hI.2 5 zd5 rfl
        have zf5 := zF5; clear zF5
        have ze44 := hR.frame.done (t := 44) (j := 5) (by kernel_rfl) hR.ok zd5
        rw [if_pos (by rfl)]
        go_simp
        refine (HJC.out _ hM1).mono ?_
        rintro e zw2 ⟨rfl, hm2⟩
        exact hK (.string ⟨jc.toArray⟩) _ (hI.next hR (by kernel_rfl) hm2 (PB.quiet hI.1 hm2 (HGs.out D 6 _ _ (by omega) (hI.1).g hm2)) (upd_same V 6 _))
       ·intro D V zw1 a hR hI K hK
        obtain ⟨hM1, hB1, hG1⟩ := hI.1
        obtain ⟨hGK, hG1⟩ := hG1
        have zd3 := hR.pred 3 (by kernel_rfl)
        have zF3 : V 3 = .string ⟨fe.toArray⟩ := hI.2 3 zd3 rfl
        have zf3 := zF3; clear zF3
        have zd6 := hR.pred 6 (by kernel_rfl)
        have zF6 : V 6 = .string ⟨jc.toArray⟩ := hI.2 6 zd6 rfl
        have zf6 := zF6; clear zF6
        have ze42 := hR.frame.done (t := 42) (j := 3) (by kernel_rfl) hR.ok zd3
        have ze45 := hR.frame.done (t := 45) (j := 6) (by kernel_rfl) hR.ok zd6
        rw [if_pos (by rfl)]
        go_simp
        rw [if_neg (by omega)]
        go_simp
        rw [HE2.out]
        exact hK (.string ⟨cw.toArray⟩) _ (hI.next hR (by kernel_rfl) (Mod.refl _ _) (PB.quiet hI.1 (Mod.refl _ _) (HGs.out D 7 zw1 zw1 (by omega) (hI.1).g (Mod.refl _ _))) (upd_same V 7 _))
       ·intro D V zw1 a hR hI K hK
        obtain ⟨hM1, hB1, hG1⟩ := hI.1
        obtain ⟨hGK, hG1⟩ := hG1
        have zd7 := hR.pred 7 (by kernel_rfl)
        have zF7 : V 7 = .string ⟨cw.toArray⟩ := hI.2 7 zd7 rfl
        have zf7 := zF7; clear zF7
        have ze46 := hR.frame.done (t := 46) (j := 7) (by kernel_rfl) hR.ok zd7
        rw [if_pos (by rfl)]
        go_simp
        exact hK (_) _ (hI.next hR (by kernel_rfl) ((Mod.refl _ _).alloc _) (PB.quiet hI.1 (pure_alloc _ _) (HGs.out D 8 _ _ (by omega) (hI.1).g ((Mod.refl _ _).alloc _))) (⟨_, upd_same V 8 _, (by omega), (Blk.new _ _ _)⟩))
       ·intro D V zw1 a hR hI K hK
        obtain ⟨hM1, hB1, hG1⟩ := hI.1
        obtain ⟨hGK, hG1⟩ := hG1
        have zd0 := hR.pred 0 (by kernel_rfl)
        have zF0 : V 0 = .slice (some ⟨gw, 0, none⟩) nj cap := hI.2 0 zd0 rfl
        have zf0 := zF0; clear zF0
        have zd8 := hR.pred 8 (by kernel_rfl)
        have zF8 : ∃ (g_8 : Nat), V 8 = .slice (some ⟨g_8, 0, none⟩) 1 1 ∧ w6.heap.size ≤ g_8 ∧ Blk zw1 g_8 9 #[.string ⟨cw.toArray⟩] := hI.2 8 zd8 (by show (!D 9) = true; rw [hR.not]; rfl)
        obtain ⟨g_8, zf8, c8_0, b8_0⟩ := zF8
        have ze39 := hR.frame.done (t := 39) (j := 0) (by kernel_rfl) hR.ok zd0
        have ze47 := hR.frame.done (t := 47) (j := 8) (by kernel_rfl) hR.ok zd8
        rw [if_pos (by rfl)]
        have hown := (hGK hR.not)
        refine wp_append_lies _ (.tmp 39) (.tmp 47) 57 (by rfl) bw 9 i0 _ 1 16 Tryz.underlying57 hi0 hz0 hz1 hz2 (by rfl) (by omega) (.slice (some ⟨gw, 0, none⟩) nj cap) (nj) (strsV (hd ++ (vs.take j).map choW)) ?_ hown ⟨g_8, 0, none⟩ 1 1 [.string ⟨cw.toArray⟩] ?_ (by rfl) (World.news_of_block (cs := #[.string ⟨cw.toArray⟩]) (t := 9) (fr := (0, 0)) b8_0) (by simp [Value.oneCell']) (by omega) (by simp [maxLen]; omega) (by omega) (by omega) zw1.heap.size rfl ?_
        ·show a.tmps.getD 39 undef = _; simp [ze39, zf0]
        ·show a.tmps.getD 47 undef = _; simp [ze47, zf8]
        intro g5 cap5 zw2 hown5 hgrow hat hlt5
        have hT := mod_grown hgrow
        have hTb : ∀ j, (.slice (some ⟨gw, 0, none⟩) nj cap : Value).ownBlock = some j → bw ≤ j := own_block hown
        refine hK _ _ (InvF.last (PB.writes hI.1 (fun j hj hl => by have := hTb j hj; omega) hT ⟨fun hs => absurd hs (by rw [upd_same]; decide), ⟨hG1.1.mod hT (fun h => by have h2 := hG1.1; unfold Blk at h2; exact absurd (own_ty hown h h2) (by decide)), hG1.2.mod hT (fun h => by have h2 := hG1.2; unfold Blk at h2; exact absurd (own_ty hown h h2) (by decide))⟩⟩) ⟨_, _, upd_same V 9 _, (OwS.app hown5)⟩ ?_)
        intro k hk hDk hlv
        have hkl := hR.lt k hDk
        have hv := hI.2 k hDk (liveB_of hlv)
        match k, hk, hDk, hlv, hkl, hv with
        | 0, _, _, _, _, hv => exact hv
        | 1, _, _, _, _, hv => exact hv
        | 2, _, _, _, _, hv => exact hv
        | 3, _, _, _, _, hv => exact hv
        | 4, _, _, _, _, hv => exact hv
        | 5, _, _, _, _, hv => exact hv
        | 6, _, _, _, _, hv => exact hv
        | 7, _, _, _, _, hv => exact hv
        | 8, _, _, hlv, _, _ => exact absurd hlv (by show ¬ (!upd D 9 true 9) = true; rw [upd_same]; decide)
        | 9, hk, _, _, _, _ => exact absurd rfl hk
        | 10, _, hDk, _, _, _ => exact absurd hDk (by rw [hR.later 10 rfl (by kernel_rfl)]; decide)
        | k + 11, _, _, _, hkl, _ => exact absurd hkl (by simp)
       ·intro D V zw1 a hR hI K hK
        obtain ⟨hM1, hB1, hG1⟩ := hI.1
        obtain ⟨hGK, hG1⟩ := hG1
        have zd9 := hR.pred 9 (by kernel_rfl)
        have zF9 : ∃ (g_9 : Nat) (c_9 : Nat), V 9 = .slice (some ⟨g_9, 0, none⟩) (nj + 1) c_9 ∧ OwS zw1 bw (.slice (some ⟨g_9, 0, none⟩) (nj + 1) c_9) (nj + 1) (hd ++ (vs.take j).map choW ++ [cw]) := hI.2 9 zd9 rfl
        obtain ⟨g_9, c_9, zf9, b9_0⟩ := zF9
        have ze48 := hR.frame.done (t := 48) (j := 9) (by kernel_rfl) hR.ok zd9
        rw [if_pos (by rfl)]
        go_simp
        exact hK (.slice (some ⟨g_9, 0, none⟩) (nj + 1) c_9) _ (hI.next hR (by kernel_rfl) (Mod.refl _ _) (PB.quiet hI.1 (Mod.refl _ _) (HGs.out D 10 zw1 zw1 (by omega) (hI.1).g (Mod.refl _ _))) (⟨g_9, c_9, upd_same V 10 _, b9_0⟩))
      ·intro D V w7 hD hI
       obtain ⟨hM1, hB1, hG1⟩ := hI.1
       have hMx := hM1
       clear hM1
       have hBx := hB1
       clear hB1
       have hGx := hG1.2
       clear hG1
       have zF0 : V 0 = .slice (some ⟨gw, 0, none⟩) nj cap := hI.2 0 (hD 0 (by decide)) rfl
       have zf0 := zF0; clear zF0
       have zF1 : V 1 = .pointer (some ⟨gC, 0, none⟩) := hI.2 1 (hD 1 (by decide)) rfl
       have zf1 := zF1; clear zF1
       have zF2 : V 2 = .string ⟨f.toArray⟩ := hI.2 2 (hD 2 (by decide)) rfl
       have zf2 := zF2; clear zF2
       have zF3 : V 3 = .string ⟨fe.toArray⟩ := hI.2 3 (hD 3 (by decide)) rfl
       have zf3 := zF3; clear zF3
       have zF4 : V 4 = .pointer (some ⟨gC, 1, none⟩) := hI.2 4 (hD 4 (by decide)) rfl
       have zf4 := zF4; clear zF4
       have zF5 : V 5 = .slice cA ch.length cc := hI.2 5 (hD 5 (by decide)) rfl
       have zf5 := zF5; clear zF5
       have zF6 : V 6 = .string ⟨jc.toArray⟩ := hI.2 6 (hD 6 (by decide)) rfl
       have zf6 := zF6; clear zF6
       have zF7 : V 7 = .string ⟨cw.toArray⟩ := hI.2 7 (hD 7 (by decide)) rfl
       have zf7 := zF7; clear zF7
       have zF9 : ∃ (g_9 : Nat) (c_9 : Nat), V 9 = .slice (some ⟨g_9, 0, none⟩) (nj + 1) c_9 ∧ OwS w7 bw (.slice (some ⟨g_9, 0, none⟩) (nj + 1) c_9) (nj + 1) (hd ++ (vs.take j).map choW ++ [cw]) := hI.2 9 (hD 9 (by decide)) rfl
       obtain ⟨g_9, c_9, zf9, b9_0⟩ := zF9
       have zF10 : ∃ (g_10 : Nat) (c_10 : Nat), V 10 = .slice (some ⟨g_10, 0, none⟩) (nj + 1) c_10 ∧ OwS w7 bw (.slice (some ⟨g_10, 0, none⟩) (nj + 1) c_10) (nj + 1) (hd ++ (vs.take j).map choW ++ [cw]) := hI.2 10 (hD 10 (by decide)) rfl
       obtain ⟨g_10, c_10, zf10, b10_0⟩ := zF10
       clear hI hD HGs
       simp only [frAll, Act.put, List.setIfInBounds_toArray, List.set_cons_zero, List.set_cons_succ, Nat.zero_add, Nat.reduceAdd, zf0, zf1, zf2, zf3, zf4, zf5, zf6, zf7, zf9, zf10]
       clear zf0 zf1 zf2 zf3 zf4 zf5 zf6 zf7 zf9 zf10
       generalize V 8 = u8
       clear V D
       have HO8 := Lib.hid b10_0
       have HB8 := Lib.hid hGx.1
       have HM8 := Lib.hid hMx
       clear b9_0 b10_0 hGx hMx hBx HO6 HB6 HC6 HJC HLT HM6
       go_wp2_with fail
       go_roundg (vs.length - (j + 1))
       case measure => omega
       case rel =>
        refine ⟨j + 1, c_10, g_10, rfl, by omega, by rw [← HNJ.out]; rfl, by simp, ?_, HB8.out, HM8.out⟩
        have h := HO8.out
        rw [← HNJ.out] at h
        rw [HVT.out, ← List.append_assoc]
        exact h
     ·obtain rfl : j = vs.length := by omega
      have HWD : Hid (OwS wr bw (.slice (some ⟨gw, 0, none⟩) (6 + vs.length) cap) (6 + vs.length) (decW ⟨no, at_, rev, item, sec, vA, vc, vs⟩)) := Lib.hid (by
       have h := HO.out
       rw [List.take_of_length_le (Nat.le_refl _)] at h
       rw [HRD.out]
       exact h)
      clear HO HRD hlj hj hm
      obtain ⟨jn, hjn⟩ : ∃ jn, Lib.join (decW ⟨no, at_, rev, item, sec, vA, vc, vs⟩) [32] = jn := ⟨_, rfl⟩
      have hjnl : jn.length ≤ 1000 := by have := hlw; unfold lnW at this; rw [hjn, List.length_append] at this; omega
      have HJX : Hid (Calls Tryz.prog 57 #[.slice (some ⟨gw, 0, none⟩) (6 + vs.length) cap, .string ⟨#[32]⟩] wr (JnPost wr jn)) := Lib.hid (by
       have := joinT_calls wr _ (decW ⟨no, at_, rev, item, sec, vA, vc, vs⟩) [32] (Sl.of_own HWD.out) (by unfold decW decH; simp; omega) (by rw [hjn]; omega)
       rwa [hjn] at this)
      have HJ1 : Hid ((⟨jn.toArray⟩ : ByteArray) ++ ⟨#[10]⟩ = ⟨(jn ++ [10]).toArray⟩) := Lib.hid (bytes_appT jn [10])
      have HSN2 : Hid (sn = sk ++ (jn ++ [10])) := Lib.hid (by rw [HSN.out]; show sk ++ (Lib.join _ [32] ++ [10]) = _; rw [hjn])
      obtain ⟨jl, hjl⟩ : ∃ jl, jn ++ [10] = jl := ⟨_, rfl⟩
      have hjll : jl.length ≤ 1001 := by rw [← hjl, List.length_append]; show jn.length + 1 ≤ 1001; omega
      rw [hjl] at HJ1 HSN2
      clear hjl hjn hlw HWD HSN
      have hn1 : ¬ 9223372036854775807 < jn.length + 1 := by omega
      have hn2 : ¬ 9223372036854775807 < sk.length + jl.length := by omega
      have HJ2 : Hid ((⟨sk.toArray⟩ : ByteArray) ++ ⟨jl.toArray⟩ = ⟨sn.toArray⟩) := Lib.hid (by rw [bytes_appT, HSN2.out])
      go_wp2_with fail
      refine HJX.out.mono ?_
      rintro e wy ⟨rfl, hm⟩
      have HM7 := Lib.hid ((HM4.out.trans HM.out).trans hm)
      clear hm HJX HM
      go_wp2_with first | (rw [HJ1.out]) | (rw [HJ2.out])
      go_roundg (ds.length - (k + 1))
      case measure => omega
      case rel => exact ⟨k + 1, rfl, by omega, by rw [HSE.out], by simp, HM7.out⟩
  ·obtain rfl : k = ds.length := by omega
   rw [List.take_of_length_le (Nat.le_refl _)]
   have HM := Lib.hid hm
   clear hm
   go_wp2_with fail
   go_ret
   exact ⟨rfl, HM.out⟩

end Go.Proofs.YtaidkmnbjbnciaaGreatDoor

/- The contracts of strings.Builder's WriteString, laid at this program where WriteByte lacks. -/
namespace Go.Proofs.YtaidkmnbjbnciaaGreatDoor
set_option linter.unusedVariables false
set_option linter.unusedSimpArgs false
open Go.RowKit Go.Shelf

def bldRenS : Go.Shelf.Ren := ⟨fun
 | 166 => 84
 | 240 => 136
 | 276 => 184
 | n => n, fun
 | 0 => 0
 | 3 => 3
 | 4 => 4
 | 5 => 5
 | 9 => 9
 | 20 => 20
 | 37 => 130
 | 70 => 129
 | 72 => 132
 | 75 => 136
 | 80 => 140
 | 164 => 229
 | n => n, fun n => n⟩
theorem lays166S : Lays.n166 Tryz.prog bldRenS := {
 mixed := by kernel_rfl
 f166 := Tryz.func84.trans (congrArg some (by kernel_rfl))
 f240 := Tryz.func136.trans (congrArg some (by kernel_rfl))
 f276 := Tryz.func184.trans (congrArg some (by kernel_rfl))
 t0 := Tryz.underlying0
 a0 := Tryz.isAgg0
 z0 := Tryz.sizeOf0
 v0 := Tryz.zeroValue0
 t3 := Tryz.underlying3
 a3 := Tryz.isAgg3
 z3 := Tryz.sizeOf3
 v3 := Tryz.zeroValue3
 t4 := Tryz.underlying4
 a4 := Tryz.isAgg4
 z4 := Tryz.sizeOf4
 v4 := Tryz.zeroValue4
 t9 := Tryz.underlying9
 a9 := Tryz.isAgg9
 z9 := Tryz.sizeOf9
 v9 := Tryz.zeroValue9
 t20 := Tryz.underlying20
 a20 := Tryz.isAgg20
 z20 := Tryz.sizeOf20
 v20 := Tryz.zeroValue20
 t37 := Tryz.underlying130
 a37 := Tryz.isAgg130
 z37 := Tryz.sizeOf130
 v37 := Tryz.zeroValue130
 t70 := Tryz.underlying129
 a70 := Tryz.isAgg129
 z70 := Tryz.sizeOf129
 v70 := Tryz.zeroValue129
 t72 := Tryz.underlying132
 a72 := Tryz.isAgg132
 z72 := Tryz.sizeOf132
 v72 := Tryz.zeroValue132
 t75 := Tryz.underlying136
 a75 := Tryz.isAgg136
 z75 := Tryz.sizeOf136
 v75 := Tryz.zeroValue136
 t164 := Tryz.underlying229
 a164 := Tryz.isAgg229
 z164 := Tryz.sizeOf229
 v164 := Tryz.zeroValue229
}
theorem bldExtraS : Builder.Extra Tryz.prog bldRenS where
 sizeBuilder := by kernel_rfl
 liesBuilder := by kernel_rfl
 t5 := Tryz.underlying5
 a5 := Tryz.isAgg5
 z5 := Tryz.sizeOf5
 v5 := Tryz.zeroValue5
 infoByte := by kernel_rfl
 cellsByte := by kernel_rfl
 sizeByte := by kernel_rfl
 neB5 := by decide

end Go.Proofs.YtaidkmnbjbnciaaGreatDoor

/-
 DERIVED: THE SHELF's CONTRACTS AT THIS DUMP, IN PLAIN WORDS (tools/lay-plain.mjs out of 'YtaidkmnbjbnciaaGreatDoorLayLen.lean', which tools/lay-shelf.mjs wrote): THE SAME DECLARATIONS UNDER THE SAME NAMES: 'import', 'namespace', 'open', 'def', 'theorem' AND NOTHING ELSE: no command of the shelf's: FOR A HAND-IN. Each laying: the table of numbers ('.._ren') and one theorem, a field a fact of the dump's own or the kernel's comparison; each contract: ONE APPLICATION.
-/
namespace Go.Proofs
open Go.Shelf
def Tryz.lays170_ren : Go.Shelf.Ren := ⟨fun | 170 => 85 | n => n, fun | 70 => 129 | 3 => 3 | 0 => 0 | 72 => 132 | 37 => 130 | 5 => 5 | n => n, fun | n => n⟩
theorem Tryz.lays170 : Go.Proofs.Lays.n170 Tryz.prog Tryz.lays170_ren := {
 mixed := by kernel_rfl
 f170 := Tryz.func85.trans (congrArg some (by kernel_rfl))
 t0 := Tryz.underlying0
 a0 := Tryz.isAgg0
 z0 := Tryz.sizeOf0
 v0 := Tryz.zeroValue0
 t3 := Tryz.underlying3
 a3 := Tryz.isAgg3
 z3 := Tryz.sizeOf3
 v3 := Tryz.zeroValue3
 t37 := Tryz.underlying130
 a37 := Tryz.isAgg130
 z37 := Tryz.sizeOf130
 v37 := Tryz.zeroValue130
 t70 := Tryz.underlying129
 a70 := Tryz.isAgg129
 z70 := Tryz.sizeOf129
 v70 := Tryz.zeroValue129
 t72 := Tryz.underlying132
 a72 := Tryz.isAgg132
 z72 := Tryz.sizeOf132
 v72 := Tryz.zeroValue132 }
end Go.Proofs

/- Text of the program. -/
namespace Go.Proofs.YtaidkmnbjbnciaaGreatDoor
set_option linter.unusedVariables false
set_option linter.unusedSimpArgs false
open Go.RowKit

theorem wstringS_calls (w : World) (b : Nat) (l m : Str) (h : IsB w b l) (hl : l.length ≤ 1000000) (hm : m.length ≤ 1000000) :
  Calls Tryz.prog 84 #[.pointer (some ⟨b, 0, none⟩), .string ⟨m.toArray⟩] w (BldPost w b (l ++ m) (.tuple #[.int .i64 (m.length : Int), .nilIface])) := by
 have hz : (⟨m.toArray⟩ : ByteArray).size = m.length := by simp [ByteArray.size]
 refine (Any.Builder_WriteString_k lays166S bldExtraS b b (Lib.byteCells l) ⟨m.toArray⟩ w h.1 (by rw [byteCells_len, hz]; omega) h.2).mono ?_
 rintro e w' ⟨rfl, h1, h2, _⟩
 refine ⟨by rw [hz], ⟨.inr ?_, Nat.le_trans h.2 h2.size⟩, h2⟩
 rw [show Lib.strCells (⟨m.toArray⟩ : ByteArray) = Lib.byteCells m from rfl, byteCells_app] at h1
 exact h1
theorem blen_calls (w : World) (b : Nat) (l : Str) (h : IsB w b l) : Calls Tryz.prog 85 #[.pointer (some ⟨b, 0, none⟩)] w (fun e w' => e = .returned (.int .i64 (l.length : Int)) ∧ w' = w) := by
 refine (Any.Builder_Len_f Tryz.lays170 b b (Lib.byteCells l) w h.1).mono ?_
 rintro e w' ⟨rfl, rfl⟩
 exact ⟨by rw [byteCells_len], rfl⟩
def TexPost (w : World) (L : LayR) (ds : List DecR) (e : Ending) (w' : World) : Prop := Pure w w' ∧ ((decsE L ds ≠ 0 ∧ e = .returned (.tuple #[.string ⟨#[]⟩, .int .i64 (decsE L ds)])) ∨ (decsE L ds = 0 ∧ e = .returned (.tuple #[.string ⟨(decsT ds).toArray⟩, .int .i64 0])))

set_option maxRecDepth 100000 in
set_option maxHeartbeats 16000000 in
theorem text_calls (w : World) (vl : Value) (L : LayR) (A : Option Addr) (n c : Nat) (ds : List DecR) (hL : LayV w L vl) (hb : LayB L) (hD : Decs w (.slice A n c) ds) (hz : ∀ x ∈ ds, DecM 4 3 x) (hn : ds.length ≤ 20) (hP : Pow w) : Calls Tryz.prog 19 #[vl, .slice A n c] w (TexPost w L ds) := by
 have hl := hD.len
 subst hl
 have HDC := Lib.hid (fun W (h : Pure w W) => dcheck_calls W vl L A ds.length c ds (hL.pure h) hb (hD.pure h) (fun x hx => (hz x hx).b (by omega) (by omega)) (by omega))
 obtain ⟨LA, ln, lc, LA2, ln2, lc2, rfl, hA, hR⟩ := hL
 have HD := Lib.hid hD
 have HZ := Lib.hid hz
 have HTL : Hid ((decsT ds).length ≤ 4000) := Lib.hid (by have := decsT_len hz; omega)
 have HPW : Hid (∀ W, Pure w W → Pow W) := Lib.hid (fun W h => hP.pure h)
 have HB0 := Lib.hid (Blk.new w 29 #[.slice LA ln lc, .slice LA2 ln2 lc2])
 have HP0 := Lib.hid (pure_alloc w (.cells #[.slice LA ln lc, .slice LA2 ln2 lc2] 29))
 obtain ⟨q, hq⟩ : ∃ q, decsE L ds = q := ⟨_, rfl⟩
 unfold TexPost
 rw [hq] at HDC ⊢
 clear hA hR hb hD hz hP hq
 go_enter Tryz.func19, Tryz.ntmps19
 go_upto_region 1 with (fail)
 have HD1 := Lib.hid (HDC.out _ HP0.out)
 generalize (w.alloc (.cells #[.slice LA ln lc, .slice LA2 ln2 lc2] 29)) = w1 at *
 generalize w.heap.size = g1 at *
 have hB0 := HB0.out
 have c0 := hB0.cell 0; have c1 := hB0.cell 1; simp at c0 c1
 clear hB0 HDC
 go_wp2_with fail
 refine HD1.out.mono ?_
 rintro e w2 ⟨rfl, hm⟩
 have HP2 := Lib.hid (HP0.out.trans hm)
 clear hm HP0 HB0 c0 c1 HD1
 by_cases h0 : q = 0
 rotate_left
 ·have h1 : (q != 0) = true := by simpa using h0
  clear HPW HTL HZ HD
  go_wp2_with fail
  try simp only [Exit.inBlock, Exit.then]
  refine bodyPost_ret (v := .tuple #[.string ⟨#[]⟩, .int .i64 q]) (by simp [results, Tryz.results19, go_sem]) rfl ?_
  exact ⟨HP2.out, .inl ⟨h0, rfl⟩⟩
 subst h0
 have HIB2 := Lib.hid (isB_new w2)
 have HP3 := Lib.hid (HP2.out.alloc (.cells #[.pointer none, .slice none 0 0] 132))
 have hgb0 := HP2.out.size
 go_upto_region 5 with (fail)
 generalize (w2.alloc (.cells #[.pointer none, .slice none 0 0] 132)) = w3 at *
 generalize w2.heap.size = gb at *
 clear HP2
 go_wp2_with fail
 go_loopg [21] ds.length (fun gk i wr => ∃ k : Nat, ds.length - k = gk ∧ k ≤ ds.length ∧ i = .int .i64 (k : Int) ∧ IsB wr gb (decsT (ds.take k)) ∧ Pure w wr)
 case atStart => exact ⟨0, by omega, by omega, rfl, HIB2.out, HP3.out⟩
 case round =>
  clear HIB2 HP3
  obtain ⟨k, rfl, hk, rfl, hib, hm⟩ := hrel
  by_cases hlt : k < ds.length
  ·obtain ⟨ga, oa, rfl, q0, q1, q2, q3, q4, q5⟩ := (HD.out.pure hm).cells hlt
   have hxz := HZ.out _ (List.getElem_mem hlt)
   have HV := Lib.hid ((HD.out.2 _ (List.getElem_mem hlt)).pure hm)
   have HSN := Lib.hid (decsT_snoc hlt)
   have hlw := decW_len hxz
   have HM := Lib.hid hm
   have hskl := decsT_take ds k
   have hskl2 := HTL.out
   obtain ⟨sk, hsk⟩ : ∃ sk, decsT (ds.take k) = sk := ⟨_, rfl⟩
   obtain ⟨sn, hsn⟩ : ∃ sn, decsT (ds.take (k + 1)) = sn := ⟨_, rfl⟩
   rw [hsk] at hskl HSN hib
   rw [hsn] at HSN
   have HSE := Lib.hid hsn
   have hskb : sk.length ≤ 100000 := by omega
   have HIB := Lib.hid hib
   have hsnl : sn.length ≤ 4000 := by rw [← hsn]; have := decsT_take ds (k + 1); omega
   clear hib
   clear hm hskl hskl2 hsk hsn
   have HRD : Hid (decW ds[k] = decH ds[k] ++ ds[k].vals.map choW) := Lib.hid rfl
   generalize ds[k] = x at *
   obtain ⟨no, at_, rev, item, sec, vA, vc, vs⟩ := x
   simp only at q0 q1 q2 q3 q4 q5 HV HRD
   obtain ⟨b1, b2, b3, b4, b5, b6, b7, b8⟩ := hxz
   simp only at b1 b2 b3 b4 b5 b6 b7 b8
   have HVZ := Lib.hid b8
   obtain ⟨s1, hs1⟩ : ∃ s, Lib.itoa no = s := ⟨_, rfl⟩
   obtain ⟨s2, hs2⟩ : ∃ s, Lib.itoa at_ = s := ⟨_, rfl⟩
   obtain ⟨mw, hmw⟩ : ∃ s, secW sec = s := ⟨_, rfl⟩
   have HDH := Lib.hid (decH_eq (rev := rev) (item := item) (vA := vA) (vc := vc) (vs := vs) hs1 hs2 hmw)
   have HI1 : Hid (∀ W, Pure w W → Calls Tryz.prog 83 #[.int .i64 no] W (JnPost W s1)) := Lib.hid (fun W h => by have := itoaW_calls W no b1 b2 (HPW.out W h); rwa [hs1] at this)
   have HI2 : Hid (∀ W, Pure w W → Calls Tryz.prog 83 #[.int .i64 at_] W (JnPost W s2)) := Lib.hid (fun W h => by have := itoaW_calls W at_ b3 b4 (HPW.out W h); rwa [hs2] at this)
   have HCH : Hid (∀ W, Calls Tryz.prog 58 #[.bool sec, .string ⟨#[115, 101, 99, 111, 110, 100]⟩, .string ⟨#[102, 105, 114, 115, 116]⟩] W (JnPost W mw)) := Lib.hid (fun W => by have := chosen_calls W sec wSecond wFirst; rw [← hmw]; exact this)
   clear hs1 hs2 hmw b8
   go_upto_region 8 with (fail)
   have hpa := pure_alloc wr (.cells #[.int .i64 no, .int .i64 at_, .string ⟨rev.toArray⟩, .string ⟨item.toArray⟩, .bool sec, .slice vA vs.length vc] 53)
   have HB4 := Lib.hid (Blk.new wr 53 #[.int .i64 no, .int .i64 at_, .string ⟨rev.toArray⟩, .string ⟨item.toArray⟩, .bool sec, .slice vA vs.length vc])
   have HM4 := Lib.hid (HM.out.trans hpa)
   have HV4 := Lib.hid (HV.out.pure hpa)
   have HIB4 := Lib.hid (HIB.out.pure hpa)
   clear hpa HM HV q0 q1 q2 q3 q4 q5
   generalize (wr.alloc (.cells #[.int .i64 no, .int .i64 at_, .string ⟨rev.toArray⟩, .string ⟨item.toArray⟩, .bool sec, .slice vA vs.length vc] 53)) = w4 at *
   generalize wr.heap.size = gA at *
   have HGs := Lib.hid (show ∀ (D : Nat → Bool) (zzi : Nat) (zq zq' : World), (fun _ zq => (fun Z => Blk Z gA 53 #[.int .i64 no, .int .i64 at_, .string ⟨rev.toArray⟩, .string ⟨item.toArray⟩, .bool sec, .slice vA vs.length vc]) zq) D zq → Mod (fun _ => False) zq zq' → (fun _ zq => (fun Z => Blk Z gA 53 #[.int .i64 no, .int .i64 at_, .string ⟨rev.toArray⟩, .string ⟨item.toArray⟩, .bool sec, .slice vA vs.length vc]) zq) (upd D zzi true) zq' from by intro D zzi zq zq' h hm; (exact h.modp hm))
   refine wp_region_inv (by kernel_rfl) (by kernel_rfl) (InvF (R := Mod (fun _ => False)) [.is (.pointer (some ⟨gA, 0, none⟩)),
     .is (.int .i64 no),
     .is (.string ⟨s1.toArray⟩),
     .is (.pointer (some ⟨gA, 1, none⟩)),
     .is (.int .i64 at_),
     .is (.string ⟨s2.toArray⟩),
     .is (.pointer (some ⟨gA, 2, none⟩)),
     .is (.string ⟨rev.toArray⟩),
     .is (.pointer (some ⟨gA, 3, none⟩)),
     .is (.string ⟨item.toArray⟩),
     .is (.pointer (some ⟨gA, 4, none⟩)),
     .is (.bool sec),
     .is (.string ⟨mw.toArray⟩),
     ⟨fun zv zw => ∃ (g_13 : Nat), zv = .slice (some ⟨g_13, 0, none⟩) 6 6 ∧ w4.heap.size ≤ g_13 ∧ Blk zw g_13 9 #[(.string { data := #[100, 101, 99, 105, 115, 105, 111, 110] }), .string ⟨s1.toArray⟩, .string ⟨s2.toArray⟩, .string ⟨rev.toArray⟩, .string ⟨item.toArray⟩, .string ⟨mw.toArray⟩], (by rintro zv zw zx ⟨g_13, rfl, c0, q0⟩ hm; exact ⟨g_13, rfl, c0, (q0.modp hm)⟩), none, none⟩,
     ⟨fun zv zw => ∃ (g_14 : Nat), zv = .slice (some ⟨g_14, 0, none⟩) 6 6 ∧ w4.heap.size ≤ g_14 ∧ Blk zw g_14 9 #[(.string { data := #[100, 101, 99, 105, 115, 105, 111, 110] }), .string ⟨s1.toArray⟩, .string ⟨s2.toArray⟩, .string ⟨rev.toArray⟩, .string ⟨item.toArray⟩, .string ⟨mw.toArray⟩], (by rintro zv zw zx ⟨g_14, rfl, c0, q0⟩ hm; exact ⟨g_14, rfl, c0, (q0.modp hm)⟩), none, none⟩]
     (PB w4 (fun _ => False) w4.heap.size (fun _ zq => (fun Z => Blk Z gA 53 #[.int .i64 no, .int .i64 at_, .string ⟨rev.toArray⟩, .string ⟨item.toArray⟩, .bool sec, .slice vA vs.length vc]) zq))) (InvF.start (PB.start (Mod.refl _ _) (Nat.le_refl _) (HB4.out.drew))) ?_ ?_
   ·refine .cons ?_ (.cons ?_ (.cons ?_ (.cons ?_ (.cons ?_ (.cons ?_ (.cons ?_ (.cons ?_ (.cons ?_ (.cons ?_ (.cons ?_ (.cons ?_ (.cons ?_ (.cons ?_ (.cons ?_ .nil))))))))))))))
    ·intro D V zw1 a hR hI K hK
     obtain ⟨hM1, hB1, hG1⟩ := hI.1
     have ze9 := hR.frame.other (t := 9) (by kernel_rfl) rfl
     rw [if_pos (by rfl)]
     go_simp
     exact hK (.pointer (some ⟨gA, 0, none⟩)) _ (hI.next hR (by kernel_rfl) (Mod.refl _ _) (PB.quiet hI.1 (Mod.refl _ _) (HGs.out D 0 zw1 zw1 (hI.1).g (Mod.refl _ _))) (upd_same V 0 _))
    ·intro D V zw1 a hR hI K hK
     obtain ⟨hM1, hB1, hG1⟩ := hI.1
     have zd0 := hR.pred 0 (by kernel_rfl)
     have zF0 : V 0 = .pointer (some ⟨gA, 0, none⟩) := hI.2 0 zd0 rfl
     have zf0 := zF0; clear zF0
     have ze25 := hR.frame.done (t := 25) (j := 0) (by kernel_rfl) hR.ok zd0
     have zx0 := hG1.cell 0; simp at zx0
     rw [if_pos (by rfl)]
     go_simp
     exact hK (.int .i64 no) _ (hI.next hR (by kernel_rfl) (Mod.refl _ _) (PB.quiet hI.1 (Mod.refl _ _) (HGs.out D 1 zw1 zw1 (hI.1).g (Mod.refl _ _))) (upd_same V 1 _))
    ·intro D V zw1 a hR hI K hK
     obtain ⟨hM1, hB1, hG1⟩ := hI.1
     have zd1 := hR.pred 1 (by kernel_rfl)
     have zF1 : V 1 = .int .i64 no := hI.2 1 zd1 rfl
     have zf1 := zF1; clear zF1
     have ze26 := hR.frame.done (t := 26) (j := 1) (by kernel_rfl) hR.ok zd1
     rw [if_pos (by rfl)]
     go_simp
     refine (HI1.out _ (HM4.out.trans hM1)).mono ?_
     rintro e zw2 ⟨rfl, hm2⟩
     exact hK (.string ⟨s1.toArray⟩) _ (hI.next hR (by kernel_rfl) hm2 (PB.quiet hI.1 hm2 (HGs.out D 2 _ _ (hI.1).g hm2)) (upd_same V 2 _))
    ·intro D V zw1 a hR hI K hK
     obtain ⟨hM1, hB1, hG1⟩ := hI.1
     have ze9 := hR.frame.other (t := 9) (by kernel_rfl) rfl
     rw [if_pos (by rfl)]
     go_simp
     exact hK (.pointer (some ⟨gA, 1, none⟩)) _ (hI.next hR (by kernel_rfl) (Mod.refl _ _) (PB.quiet hI.1 (Mod.refl _ _) (HGs.out D 3 zw1 zw1 (hI.1).g (Mod.refl _ _))) (upd_same V 3 _))
    ·intro D V zw1 a hR hI K hK
     obtain ⟨hM1, hB1, hG1⟩ := hI.1
     have zd3 := hR.pred 3 (by kernel_rfl)
     have zF3 : V 3 = .pointer (some ⟨gA, 1, none⟩) := hI.2 3 zd3 rfl
     have zf3 := zF3; clear zF3
     have ze28 := hR.frame.done (t := 28) (j := 3) (by kernel_rfl) hR.ok zd3
     have zx0 := hG1.cell 1; simp at zx0
     rw [if_pos (by rfl)]
     go_simp
     exact hK (.int .i64 at_) _ (hI.next hR (by kernel_rfl) (Mod.refl _ _) (PB.quiet hI.1 (Mod.refl _ _) (HGs.out D 4 zw1 zw1 (hI.1).g (Mod.refl _ _))) (upd_same V 4 _))
    ·intro D V zw1 a hR hI K hK
     obtain ⟨hM1, hB1, hG1⟩ := hI.1
     have zd4 := hR.pred 4 (by kernel_rfl)
     have zF4 : V 4 = .int .i64 at_ := hI.2 4 zd4 rfl
     have zf4 := zF4; clear zF4
     have ze29 := hR.frame.done (t := 29) (j := 4) (by kernel_rfl) hR.ok zd4
     rw [if_pos (by rfl)]
     go_simp
     refine (HI2.out _ (HM4.out.trans hM1)).mono ?_
     rintro e zw2 ⟨rfl, hm2⟩
     exact hK (.string ⟨s2.toArray⟩) _ (hI.next hR (by kernel_rfl) hm2 (PB.quiet hI.1 hm2 (HGs.out D 5 _ _ (hI.1).g hm2)) (upd_same V 5 _))
    ·intro D V zw1 a hR hI K hK
     obtain ⟨hM1, hB1, hG1⟩ := hI.1
     have ze9 := hR.frame.other (t := 9) (by kernel_rfl) rfl
     rw [if_pos (by rfl)]
     go_simp
     exact hK (.pointer (some ⟨gA, 2, none⟩)) _ (hI.next hR (by kernel_rfl) (Mod.refl _ _) (PB.quiet hI.1 (Mod.refl _ _) (HGs.out D 6 zw1 zw1 (hI.1).g (Mod.refl _ _))) (upd_same V 6 _))
    ·intro D V zw1 a hR hI K hK
     obtain ⟨hM1, hB1, hG1⟩ := hI.1
     have zd6 := hR.pred 6 (by kernel_rfl)
     have zF6 : V 6 = .pointer (some ⟨gA, 2, none⟩) := hI.2 6 zd6 rfl
     have zf6 := zF6; clear zF6
     have ze31 := hR.frame.done (t := 31) (j := 6) (by kernel_rfl) hR.ok zd6
     have zx0 := hG1.cell 2; simp at zx0
     rw [if_pos (by rfl)]
     go_simp
     exact hK (.string ⟨rev.toArray⟩) _ (hI.next hR (by kernel_rfl) (Mod.refl _ _) (PB.quiet hI.1 (Mod.refl _ _) (HGs.out D 7 zw1 zw1 (hI.1).g (Mod.refl _ _))) (upd_same V 7 _))
    ·intro D V zw1 a hR hI K hK
     obtain ⟨hM1, hB1, hG1⟩ := hI.1
     have ze9 := hR.frame.other (t := 9) (by kernel_rfl) rfl
     rw [if_pos (by rfl)]
     go_simp
     exact hK (.pointer (some ⟨gA, 3, none⟩)) _ (hI.next hR (by kernel_rfl) (Mod.refl _ _) (PB.quiet hI.1 (Mod.refl _ _) (HGs.out D 8 zw1 zw1 (hI.1).g (Mod.refl _ _))) (upd_same V 8 _))
    ·intro D V zw1 a hR hI K hK
     obtain ⟨hM1, hB1, hG1⟩ := hI.1
     have zd8 := hR.pred 8 (by kernel_rfl)
     have zF8 : V 8 = .pointer (some ⟨gA, 3, none⟩) := hI.2 8 zd8 rfl
     have zf8 := zF8; clear zF8
     have ze33 := hR.frame.done (t := 33) (j := 8) (by kernel_rfl) hR.ok zd8
     have zx0 := hG1.cell 3; simp at zx0
     rw [if_pos (by rfl)]
     go_simp
     exact hK (.string ⟨item.toArray⟩) _ (hI.next hR (by kernel_rfl) (Mod.refl _ _) (PB.quiet hI.1 (Mod.refl _ _) (HGs.out D 9 zw1 zw1 (hI.1).g (Mod.refl _ _))) (upd_same V 9 _))
    ·intro D V zw1 a hR hI K hK
     obtain ⟨hM1, hB1, hG1⟩ := hI.1
     have ze9 := hR.frame.other (t := 9) (by kernel_rfl) rfl
     rw [if_pos (by rfl)]
     go_simp
     exact hK (.pointer (some ⟨gA, 4, none⟩)) _ (hI.next hR (by kernel_rfl) (Mod.refl _ _) (PB.quiet hI.1 (Mod.refl _ _) (HGs.out D 10 zw1 zw1 (hI.1).g (Mod.refl _ _))) (upd_same V 10 _))
    ·intro D V zw1 a hR hI K hK
     obtain ⟨hM1, hB1, hG1⟩ := hI.1
     have zd10 := hR.pred 10 (by kernel_rfl)
     have zF10 : V 10 = .pointer (some ⟨gA, 4, none⟩) := hI.2 10 zd10 rfl
     have zf10 := zF10; clear zF10
     have ze35 := hR.frame.done (t := 35) (j := 10) (by kernel_rfl) hR.ok zd10
     have zx0 := hG1.cell 4; simp at zx0
     rw [if_pos (by rfl)]
     go_simp
     exact hK (.bool sec) _ (hI.next hR (by kernel_rfl) (Mod.refl _ _) (PB.quiet hI.1 (Mod.refl _ _) (HGs.out D 11 zw1 zw1 (hI.1).g (Mod.refl _ _))) (upd_same V 11 _))
    ·intro D V zw1 a hR hI K hK
     obtain ⟨hM1, hB1, hG1⟩ := hI.1
     have zd11 := hR.pred 11 (by kernel_rfl)
     have zF11 : V 11 = .bool sec := hI.2 11 zd11 rfl
     have zf11 := zF11; clear zF11
     have ze36 := hR.frame.done (t := 36) (j := 11) (by kernel_rfl) hR.ok zd11
     rw [if_pos (by rfl)]
     go_simp
     refine (HCH.out _).mono ?_
     rintro e zw2 ⟨rfl, hm2⟩
     exact hK (.string ⟨mw.toArray⟩) _ (hI.next hR (by kernel_rfl) hm2 (PB.quiet hI.1 hm2 (HGs.out D 12 _ _ (hI.1).g hm2)) (upd_same V 12 _))
    ·intro D V zw1 a hR hI K hK
     obtain ⟨hM1, hB1, hG1⟩ := hI.1
     have zd2 := hR.pred 2 (by kernel_rfl)
     have zF2 : V 2 = .string ⟨s1.toArray⟩ := hI.2 2 zd2 rfl
     have zf2 := zF2; clear zF2
     have zd5 := hR.pred 5 (by kernel_rfl)
     have zF5 : V 5 = .string ⟨s2.toArray⟩ := hI.2 5 zd5 rfl
     have zf5 := zF5; clear zF5
     have zd7 := hR.pred 7 (by kernel_rfl)
     have zF7 : V 7 = .string ⟨rev.toArray⟩ := hI.2 7 zd7 rfl
     have zf7 := zF7; clear zF7
     have zd9 := hR.pred 9 (by kernel_rfl)
     have zF9 : V 9 = .string ⟨item.toArray⟩ := hI.2 9 zd9 rfl
     have zf9 := zF9; clear zF9
     have zd12 := hR.pred 12 (by kernel_rfl)
     have zF12 : V 12 = .string ⟨mw.toArray⟩ := hI.2 12 zd12 rfl
     have zf12 := zF12; clear zF12
     have ze27 := hR.frame.done (t := 27) (j := 2) (by kernel_rfl) hR.ok zd2
     have ze30 := hR.frame.done (t := 30) (j := 5) (by kernel_rfl) hR.ok zd5
     have ze32 := hR.frame.done (t := 32) (j := 7) (by kernel_rfl) hR.ok zd7
     have ze34 := hR.frame.done (t := 34) (j := 9) (by kernel_rfl) hR.ok zd9
     have ze37 := hR.frame.done (t := 37) (j := 12) (by kernel_rfl) hR.ok zd12
     rw [if_pos (by rfl)]
     go_simp
     exact hK (_) _ (hI.next hR (by kernel_rfl) ((Mod.refl _ _).alloc _) (PB.quiet hI.1 (pure_alloc _ _) (HGs.out D 13 _ _ (hI.1).g ((Mod.refl _ _).alloc _))) (⟨_, upd_same V 13 _, (by omega), (Blk.new _ _ _)⟩))
    ·intro D V zw1 a hR hI K hK
     obtain ⟨hM1, hB1, hG1⟩ := hI.1
     have zd13 := hR.pred 13 (by kernel_rfl)
     have zF13 : ∃ (g_13 : Nat), V 13 = .slice (some ⟨g_13, 0, none⟩) 6 6 ∧ w4.heap.size ≤ g_13 ∧ Blk zw1 g_13 9 #[(.string { data := #[100, 101, 99, 105, 115, 105, 111, 110] }), .string ⟨s1.toArray⟩, .string ⟨s2.toArray⟩, .string ⟨rev.toArray⟩, .string ⟨item.toArray⟩, .string ⟨mw.toArray⟩] := hI.2 13 zd13 rfl
     obtain ⟨g_13, zf13, c13_0, b13_0⟩ := zF13
     have ze38 := hR.frame.done (t := 38) (j := 13) (by kernel_rfl) hR.ok zd13
     rw [if_pos (by rfl)]
     go_simp
     exact hK (.slice (some ⟨g_13, 0, none⟩) 6 6) _ (hI.next hR (by kernel_rfl) (Mod.refl _ _) (PB.quiet hI.1 (Mod.refl _ _) (HGs.out D 14 zw1 zw1 (hI.1).g (Mod.refl _ _))) (⟨g_13, upd_same V 14 _, (by first | assumption | omega), b13_0⟩))
   ·intro D V w5 hD hI
    obtain ⟨hM1, hB1, hG1⟩ := hI.1
    have hMx := hM1
    clear hM1
    have hBx := hB1
    clear hB1
    have hGx := hG1
    clear hG1
    have zF0 : V 0 = .pointer (some ⟨gA, 0, none⟩) := hI.2 0 (hD 0 (by decide)) rfl
    have zf0 := zF0; clear zF0
    have zF1 : V 1 = .int .i64 no := hI.2 1 (hD 1 (by decide)) rfl
    have zf1 := zF1; clear zF1
    have zF2 : V 2 = .string ⟨s1.toArray⟩ := hI.2 2 (hD 2 (by decide)) rfl
    have zf2 := zF2; clear zF2
    have zF3 : V 3 = .pointer (some ⟨gA, 1, none⟩) := hI.2 3 (hD 3 (by decide)) rfl
    have zf3 := zF3; clear zF3
    have zF4 : V 4 = .int .i64 at_ := hI.2 4 (hD 4 (by decide)) rfl
    have zf4 := zF4; clear zF4
    have zF5 : V 5 = .string ⟨s2.toArray⟩ := hI.2 5 (hD 5 (by decide)) rfl
    have zf5 := zF5; clear zF5
    have zF6 : V 6 = .pointer (some ⟨gA, 2, none⟩) := hI.2 6 (hD 6 (by decide)) rfl
    have zf6 := zF6; clear zF6
    have zF7 : V 7 = .string ⟨rev.toArray⟩ := hI.2 7 (hD 7 (by decide)) rfl
    have zf7 := zF7; clear zF7
    have zF8 : V 8 = .pointer (some ⟨gA, 3, none⟩) := hI.2 8 (hD 8 (by decide)) rfl
    have zf8 := zF8; clear zF8
    have zF9 : V 9 = .string ⟨item.toArray⟩ := hI.2 9 (hD 9 (by decide)) rfl
    have zf9 := zF9; clear zF9
    have zF10 : V 10 = .pointer (some ⟨gA, 4, none⟩) := hI.2 10 (hD 10 (by decide)) rfl
    have zf10 := zF10; clear zF10
    have zF11 : V 11 = .bool sec := hI.2 11 (hD 11 (by decide)) rfl
    have zf11 := zF11; clear zF11
    have zF12 : V 12 = .string ⟨mw.toArray⟩ := hI.2 12 (hD 12 (by decide)) rfl
    have zf12 := zF12; clear zF12
    have zF13 : ∃ (g_13 : Nat), V 13 = .slice (some ⟨g_13, 0, none⟩) 6 6 ∧ w4.heap.size ≤ g_13 ∧ Blk w5 g_13 9 #[(.string { data := #[100, 101, 99, 105, 115, 105, 111, 110] }), .string ⟨s1.toArray⟩, .string ⟨s2.toArray⟩, .string ⟨rev.toArray⟩, .string ⟨item.toArray⟩, .string ⟨mw.toArray⟩] := hI.2 13 (hD 13 (by decide)) rfl
    obtain ⟨g_13, zf13, c13_0, b13_0⟩ := zF13
    have zF14 : ∃ (g_14 : Nat), V 14 = .slice (some ⟨g_14, 0, none⟩) 6 6 ∧ w4.heap.size ≤ g_14 ∧ Blk w5 g_14 9 #[(.string { data := #[100, 101, 99, 105, 115, 105, 111, 110] }), .string ⟨s1.toArray⟩, .string ⟨s2.toArray⟩, .string ⟨rev.toArray⟩, .string ⟨item.toArray⟩, .string ⟨mw.toArray⟩] := hI.2 14 (hD 14 (by decide)) rfl
    obtain ⟨g_14, zf14, c14_0, b14_0⟩ := zF14
    clear hI hD HGs
    simp only [frAll, Act.put, List.setIfInBounds_toArray, List.set_cons_zero, List.set_cons_succ, Nat.zero_add, Nat.reduceAdd, zf0, zf1, zf2, zf3, zf4, zf5, zf6, zf7, zf8, zf9, zf10, zf11, zf12, zf13, zf14]
    clear zf0 zf1 zf2 zf3 zf4 zf5 zf6 zf7 zf8 zf9 zf10 zf11 zf12 zf13 zf14
    clear V D
    have HX := Lib.hid b14_0
    have hxg := c14_0
    have HR5 := Lib.hid hGx
    have HM5 := Lib.hid hMx
    have hgx := b14_0.lt
    clear b13_0 b14_0 c13_0 c14_0 hMx hBx hGx HB4 HI1 HI2 HCH
    generalize g_14 = gx at *
    obtain ⟨bw, hbw⟩ : ∃ bw, bw = w4.heap.size := ⟨_, rfl⟩
    have hbw1 := Nat.le_of_eq hbw
    have hbw2 := Nat.le_of_eq hbw.symm
    clear hbw
    have HOW : Hid (OwS w5 bw (.slice (some ⟨gx, 0, none⟩) 6 6) 6 (decH ⟨no, at_, rev, item, sec, vA, vc, vs⟩)) := Lib.hid (by
     unfold OwS
     rw [HDH.out]
     exact own_ofBlk (n := 6) (size := 1) (bw := bw) HX.out (by omega) (by rfl) (by omega))
    obtain ⟨hd, hhd⟩ : ∃ hd, decH ⟨no, at_, rev, item, sec, vA, vc, vs⟩ = hd := ⟨_, rfl⟩
    rw [hhd] at HRD HOW
    have hR5 := HR5.out
    have r5 := hR5.cell 5
    simp at r5
    have hvl := (HV4.out).len
    clear hR5 HX HDH hhd
    go_wp2_with fail
    go_loopg [10, 42] vs.length (fun gk v i wr => DwRel w4 bw gA #[.int .i64 no, .int .i64 at_, .string ⟨rev.toArray⟩, .string ⟨item.toArray⟩, .bool sec, .slice vA vs.length vc] hd vs gk v i wr)
    case atStart => exact ⟨0, 6, gx, by omega, by omega, rfl, rfl, by simpa using HOW.out, HR5.out, HM5.out⟩
    case round =>
     clear HOW HR5 HM5
     obtain ⟨j, cap, gw, rfl, hj, rfl, rfl, hO, hB, hm⟩ := hrel
     have HO := Lib.hid hO
     have HB := Lib.hid hB
     have HM := Lib.hid hm
     clear hO hB
     by_cases hlj : j < vs.length
     ·obtain ⟨g2, o2, rfl, p0, p1⟩ := (HV4.out.pure hm).cells hlj
      have HCS := Lib.hid (HV4.out.2 _ (List.getElem_mem hlj))
      have hcz := HVZ.out _ (List.getElem_mem hlj)
      have HVT := Lib.hid (vals_take hlj)
      have HCW : Hid (choW vs[j] = (vs[j].field ++ [61]) ++ Lib.join vs[j].ch [44]) := Lib.hid rfl
      generalize vs[j] = y at *
      obtain ⟨f, cA, cc, ch⟩ := y
      simp only at p0 p1 HCS HCW
      obtain ⟨z1, z2, z3⟩ := hcz
      simp only at z1 z2 z3
      obtain ⟨jc, hjc⟩ : ∃ jc, Lib.join ch [44] = jc := ⟨_, rfl⟩
      have hjl : jc.length ≤ 15 := by
       have a := join44_len ch
       have b := sum_le z3
       rw [hjc] at a
       omega
      have HJC : Hid (∀ W, Pure w4 W → Calls Tryz.prog 57 #[.slice cA ch.length cc, .string ⟨#[44]⟩] W (JnPost W jc)) := Lib.hid (fun W h => by
       have := joinT_calls W _ ch [44] (HCS.out.pure h) (by omega) (by rw [hjc]; omega)
       rwa [hjc] at this)
      obtain ⟨cw, hcw⟩ : ∃ cw, choW ⟨f, cA, cc, ch⟩ = cw := ⟨_, rfl⟩
      rw [hcw] at HCW HVT
      rw [hjc] at HCW
      have HE1 : Hid ((⟨f.toArray⟩ : ByteArray) ++ ⟨#[61]⟩ = ⟨(f ++ [61]).toArray⟩) := Lib.hid (bytes_appT f [61])
      have HE2 : Hid ((⟨(f ++ [61]).toArray⟩ : ByteArray) ++ ⟨jc.toArray⟩ = ⟨cw.toArray⟩) := Lib.hid (by rw [bytes_appT, HCW.out])
      obtain ⟨fe, hfe⟩ : ∃ fe, f ++ [61] = fe := ⟨_, rfl⟩
      have hfl : fe.length ≤ 5 := by rw [← hfe, List.length_append]; show f.length + 1 ≤ 5; omega
      rw [hfe] at HE1 HE2
      clear hjc hcw hfe z3 HCS HCW
      go_upto_region 12 with (fail)
      have hpb := pure_alloc wr (.cells #[.string ⟨f.toArray⟩, .slice cA ch.length cc] 134)
      have HC6 := Lib.hid (Blk.new wr 134 #[.string ⟨f.toArray⟩, .slice cA ch.length cc])
      have HB6 := Lib.hid (HB.out.modp hpb)
      have HO6 := Lib.hid (HO.out.pure hpb)
      have HM6 := Lib.hid (HM.out.trans hpb)
      have hz6 : w4.heap.size ≤ wr.heap.size := HM.out.size
      have HLT : Hid (∀ i, (Value.slice (some ⟨gw, 0, none⟩) (6 + j) cap).ownBlock = some i → i < (wr.alloc (.cells #[.string ⟨f.toArray⟩, .slice cA ch.length cc] 134)).heap.size) := Lib.hid (fun i hi => (HO6.out.lt i hi).2)
      clear hpb HB HO HM hm p0 p1
      generalize (wr.alloc (.cells #[.string ⟨f.toArray⟩, .slice cA ch.length cc] 134)) = w6 at *
      generalize wr.heap.size = gC at *
      obtain ⟨nj, hnj⟩ : ∃ nj, 6 + j = nj := ⟨_, rfl⟩
      have hnj1 := Nat.le_of_eq hnj
      have hnj2 := Nat.le_of_eq hnj.symm
      rw [hnj] at HO6 HLT ⊢
      have HNJ := Lib.hid hnj
      have hw46 : w4.heap.size ≤ w6.heap.size := HM6.out.size
      have hjb : j ≤ 4 := by omega
      clear hnj
      obtain ⟨i0, hi0, hz0, hz1, hz2⟩ := info_parts info_strT
      have HGs := Lib.hid (show ∀ (D : Nat → Bool) (zzi : Nat) (zq zq' : World), zzi ≠ 9 → (fun D zq => (D 9 = false → (fun Z => OwS Z bw (.slice (some ⟨gw, 0, none⟩) nj cap) nj (hd ++ (vs.take j).map choW)) zq) ∧ (fun Z => Blk Z gA 53 #[.int .i64 no, .int .i64 at_, .string ⟨rev.toArray⟩, .string ⟨item.toArray⟩, .bool sec, .slice (some ⟨g2, o2, none⟩) vs.length vc] ∧ Blk Z gC 134 #[.string ⟨f.toArray⟩, .slice cA ch.length cc]) zq) D zq → Mod (fun _ => False) zq zq' → (fun D zq => (D 9 = false → (fun Z => OwS Z bw (.slice (some ⟨gw, 0, none⟩) nj cap) nj (hd ++ (vs.take j).map choW)) zq) ∧ (fun Z => Blk Z gA 53 #[.int .i64 no, .int .i64 at_, .string ⟨rev.toArray⟩, .string ⟨item.toArray⟩, .bool sec, .slice (some ⟨g2, o2, none⟩) vs.length vc] ∧ Blk Z gC 134 #[.string ⟨f.toArray⟩, .slice cA ch.length cc]) zq) (upd D zzi true) zq' from by intro D zzi zq zq' hi hh hm; refine ⟨fun hs => ?_, ?_⟩; (rw [upd_ne _ _ (Ne.symm hi)] at hs; have h := hh.1 hs; (exact h.pure hm)); (have h := hh.2; (exact ⟨h.1.modp hm, h.2.modp hm⟩)))
      refine wp_region_inv (by kernel_rfl) (by kernel_rfl) (InvF (R := Mod (fun _ => False)) [.is (.slice (some ⟨gw, 0, none⟩) nj cap),
        .is (.pointer (some ⟨gC, 0, none⟩)),
        .is (.string ⟨f.toArray⟩),
        .is (.string ⟨fe.toArray⟩),
        .is (.pointer (some ⟨gC, 1, none⟩)),
        .is (.slice cA ch.length cc),
        .is (.string ⟨jc.toArray⟩),
        .is (.string ⟨cw.toArray⟩),
        ⟨fun zv zw => ∃ (g_8 : Nat), zv = .slice (some ⟨g_8, 0, none⟩) 1 1 ∧ w6.heap.size ≤ g_8 ∧ Blk zw g_8 9 #[.string ⟨cw.toArray⟩], (by rintro zv zw zx ⟨g_8, rfl, c0, q0⟩ hm; exact ⟨g_8, rfl, c0, (q0.modp hm)⟩), none, some 9⟩,
        ⟨fun zv zw => ∃ (g_9 : Nat) (c_9 : Nat), zv = .slice (some ⟨g_9, 0, none⟩) (nj + 1) c_9 ∧ OwS zw bw (.slice (some ⟨g_9, 0, none⟩) (nj + 1) c_9) (nj + 1) (hd ++ (vs.take j).map choW ++ [cw]), (by rintro zv zw zx ⟨g_9, c_9, rfl, q0⟩ hm; exact ⟨g_9, c_9, rfl, (q0.pure hm)⟩), none, none⟩,
        ⟨fun zv zw => ∃ (g_10 : Nat) (c_10 : Nat), zv = .slice (some ⟨g_10, 0, none⟩) (nj + 1) c_10 ∧ OwS zw bw (.slice (some ⟨g_10, 0, none⟩) (nj + 1) c_10) (nj + 1) (hd ++ (vs.take j).map choW ++ [cw]), (by rintro zv zw zx ⟨g_10, c_10, rfl, q0⟩ hm; exact ⟨g_10, c_10, rfl, (q0.pure hm)⟩), none, none⟩]
        (PB w4 (fun _ => False) w6.heap.size (fun D zq => (D 9 = false → (fun Z => OwS Z bw (.slice (some ⟨gw, 0, none⟩) nj cap) nj (hd ++ (vs.take j).map choW)) zq) ∧ (fun Z => Blk Z gA 53 #[.int .i64 no, .int .i64 at_, .string ⟨rev.toArray⟩, .string ⟨item.toArray⟩, .bool sec, .slice (some ⟨g2, o2, none⟩) vs.length vc] ∧ Blk Z gC 134 #[.string ⟨f.toArray⟩, .slice cA ch.length cc]) zq))) (InvF.start (PB.start HM6.out (Nat.le_refl _) (⟨fun _ => HO6.out.pure ((Mod.refl _ _).drew), ⟨HB6.out.drew, HC6.out.drew⟩⟩))) ?_ ?_
      ·refine .cons ?_ (.cons ?_ (.cons ?_ (.cons ?_ (.cons ?_ (.cons ?_ (.cons ?_ (.cons ?_ (.cons ?_ (.cons ?_ (.cons ?_ .nil))))))))))
       ·intro D V zw1 a hR hI K hK
        obtain ⟨hM1, hB1, hG1⟩ := hI.1
        obtain ⟨hGK, hG1⟩ := hG1
        have ze10 := hR.frame.undone (t := 10) (j := 10) (by kernel_rfl) (hR.later 10 rfl (by kernel_rfl)) rfl
        rw [if_pos (by rfl)]
        go_simp
        exact hK (.slice (some ⟨gw, 0, none⟩) nj cap) _ (hI.next hR (by kernel_rfl) (Mod.refl _ _) (PB.quiet hI.1 (Mod.refl _ _) (HGs.out D 0 zw1 zw1 (by omega) (hI.1).g (Mod.refl _ _))) (upd_same V 0 _))
       ·intro D V zw1 a hR hI K hK
        obtain ⟨hM1, hB1, hG1⟩ := hI.1
        obtain ⟨hGK, hG1⟩ := hG1
        have ze12 := hR.frame.other (t := 12) (by kernel_rfl) rfl
        rw [if_pos (by rfl)]
        go_simp
        exact hK (.pointer (some ⟨gC, 0, none⟩)) _ (hI.next hR (by kernel_rfl) (Mod.refl _ _) (PB.quiet hI.1 (Mod.refl _ _) (HGs.out D 1 zw1 zw1 (by omega) (hI.1).g (Mod.refl _ _))) (upd_same V 1 _))
       ·intro D V zw1 a hR hI K hK
        obtain ⟨hM1, hB1, hG1⟩ := hI.1
        obtain ⟨hGK, hG1⟩ := hG1
        have zd1 := hR.pred 1 (by kernel_rfl)
        have zF1 : V 1 = .pointer (some ⟨gC, 0, none⟩) := hI.2 1 zd1 rfl
        have zf1 := zF1; clear zF1
        have ze47 := hR.frame.done (t := 47) (j := 1) (by kernel_rfl) hR.ok zd1
        have zx0 := hG1.2.cell 0; simp at zx0
        rw [if_pos (by rfl)]
        go_simp
        exact hK (.string ⟨f.toArray⟩) _ (hI.next hR (by kernel_rfl) (Mod.refl _ _) (PB.quiet hI.1 (Mod.refl _ _) (HGs.out D 2 zw1 zw1 (by omega) (hI.1).g (Mod.refl _ _))) (upd_same V 2 _))
       ·intro D V zw1 a hR hI K hK
        obtain ⟨hM1, hB1, hG1⟩ := hI.1
        obtain ⟨hGK, hG1⟩ := hG1
        have zd2 := hR.pred 2 (by kernel_rfl)
        have zF2 : V 2 = .string ⟨f.toArray⟩ := hI.2 2 zd2 rfl
        have zf2 := zF2; clear zF2
        have ze48 := hR.frame.done (t := 48) (j := 2) (by kernel_rfl) hR.ok zd2
        rw [if_pos (by rfl)]
        go_simp
        rw [if_neg (by omega)]
        go_simp
        rw [HE1.out]
        exact hK (.string ⟨fe.toArray⟩) _ (hI.next hR (by kernel_rfl) (Mod.refl _ _) (PB.quiet hI.1 (Mod.refl _ _) (HGs.out D 3 zw1 zw1 (by omega) (hI.1).g (Mod.refl _ _))) (upd_same V 3 _))
       ·intro D V zw1 a hR hI K hK
        obtain ⟨hM1, hB1, hG1⟩ := hI.1
        obtain ⟨hGK, hG1⟩ := hG1
        have ze12 := hR.frame.other (t := 12) (by kernel_rfl) rfl
        rw [if_pos (by rfl)]
        go_simp
        exact hK (.pointer (some ⟨gC, 1, none⟩)) _ (hI.next hR (by kernel_rfl) (Mod.refl _ _) (PB.quiet hI.1 (Mod.refl _ _) (HGs.out D 4 zw1 zw1 (by omega) (hI.1).g (Mod.refl _ _))) (upd_same V 4 _))
       ·intro D V zw1 a hR hI K hK
        obtain ⟨hM1, hB1, hG1⟩ := hI.1
        obtain ⟨hGK, hG1⟩ := hG1
        have zd4 := hR.pred 4 (by kernel_rfl)
        have zF4 : V 4 = .pointer (some ⟨gC, 1, none⟩) := hI.2 4 zd4 rfl
        have zf4 := zF4; clear zF4
        have ze50 := hR.frame.done (t := 50) (j := 4) (by kernel_rfl) hR.ok zd4
        have zx0 := hG1.2.cell 1; simp at zx0
        rw [if_pos (by rfl)]
        go_simp
        exact hK (.slice cA ch.length cc) _ (hI.next hR (by kernel_rfl) (Mod.refl _ _) (PB.quiet hI.1 (Mod.refl _ _) (HGs.out D 5 zw1 zw1 (by omega) (hI.1).g (Mod.refl _ _))) (upd_same V 5 _))
       ·intro D V zw1 a hR hI K hK
        obtain ⟨hM1, hB1, hG1⟩ := hI.1
        obtain ⟨hGK, hG1⟩ := hG1
        have zd5 := hR.pred 5 (by kernel_rfl)
        have zF5 : V 5 = .slice cA ch.length cc := hI.2 5 zd5 rfl
        have zf5 := zF5; clear zF5
        have ze51 := hR.frame.done (t := 51) (j := 5) (by kernel_rfl) hR.ok zd5
        rw [if_pos (by rfl)]
        go_simp
        refine (HJC.out _ hM1).mono ?_
        rintro e zw2 ⟨rfl, hm2⟩
        exact hK (.string ⟨jc.toArray⟩) _ (hI.next hR (by kernel_rfl) hm2 (PB.quiet hI.1 hm2 (HGs.out D 6 _ _ (by omega) (hI.1).g hm2)) (upd_same V 6 _))
       ·intro D V zw1 a hR hI K hK
        obtain ⟨hM1, hB1, hG1⟩ := hI.1
        obtain ⟨hGK, hG1⟩ := hG1
        have zd3 := hR.pred 3 (by kernel_rfl)
        have zF3 : V 3 = .string ⟨fe.toArray⟩ := hI.2 3 zd3 rfl
        have zf3 := zF3; clear zF3
        have zd6 := hR.pred 6 (by kernel_rfl)
        have zF6 : V 6 = .string ⟨jc.toArray⟩ := hI.2 6 zd6 rfl
        have zf6 := zF6; clear zF6
        have ze49 := hR.frame.done (t := 49) (j := 3) (by kernel_rfl) hR.ok zd3
        have ze52 := hR.frame.done (t := 52) (j := 6) (by kernel_rfl) hR.ok zd6
        rw [if_pos (by rfl)]
        go_simp
        rw [if_neg (by omega)]
        go_simp
        rw [HE2.out]
        exact hK (.string ⟨cw.toArray⟩) _ (hI.next hR (by kernel_rfl) (Mod.refl _ _) (PB.quiet hI.1 (Mod.refl _ _) (HGs.out D 7 zw1 zw1 (by omega) (hI.1).g (Mod.refl _ _))) (upd_same V 7 _))
       ·intro D V zw1 a hR hI K hK
        obtain ⟨hM1, hB1, hG1⟩ := hI.1
        obtain ⟨hGK, hG1⟩ := hG1
        have zd7 := hR.pred 7 (by kernel_rfl)
        have zF7 : V 7 = .string ⟨cw.toArray⟩ := hI.2 7 zd7 rfl
        have zf7 := zF7; clear zF7
        have ze53 := hR.frame.done (t := 53) (j := 7) (by kernel_rfl) hR.ok zd7
        rw [if_pos (by rfl)]
        go_simp
        exact hK (_) _ (hI.next hR (by kernel_rfl) ((Mod.refl _ _).alloc _) (PB.quiet hI.1 (pure_alloc _ _) (HGs.out D 8 _ _ (by omega) (hI.1).g ((Mod.refl _ _).alloc _))) (⟨_, upd_same V 8 _, (by omega), (Blk.new _ _ _)⟩))
       ·intro D V zw1 a hR hI K hK
        obtain ⟨hM1, hB1, hG1⟩ := hI.1
        obtain ⟨hGK, hG1⟩ := hG1
        have zd0 := hR.pred 0 (by kernel_rfl)
        have zF0 : V 0 = .slice (some ⟨gw, 0, none⟩) nj cap := hI.2 0 zd0 rfl
        have zf0 := zF0; clear zF0
        have zd8 := hR.pred 8 (by kernel_rfl)
        have zF8 : ∃ (g_8 : Nat), V 8 = .slice (some ⟨g_8, 0, none⟩) 1 1 ∧ w6.heap.size ≤ g_8 ∧ Blk zw1 g_8 9 #[.string ⟨cw.toArray⟩] := hI.2 8 zd8 (by show (!D 9) = true; rw [hR.not]; rfl)
        obtain ⟨g_8, zf8, c8_0, b8_0⟩ := zF8
        have ze46 := hR.frame.done (t := 46) (j := 0) (by kernel_rfl) hR.ok zd0
        have ze54 := hR.frame.done (t := 54) (j := 8) (by kernel_rfl) hR.ok zd8
        rw [if_pos (by rfl)]
        have hown := (hGK hR.not)
        refine wp_append_lies _ (.tmp 46) (.tmp 54) 57 (by rfl) bw 9 i0 _ 1 16 Tryz.underlying57 hi0 hz0 hz1 hz2 (by rfl) (by omega) (.slice (some ⟨gw, 0, none⟩) nj cap) (nj) (strsV (hd ++ (vs.take j).map choW)) ?_ hown ⟨g_8, 0, none⟩ 1 1 [.string ⟨cw.toArray⟩] ?_ (by rfl) (World.news_of_block (cs := #[.string ⟨cw.toArray⟩]) (t := 9) (fr := (0, 0)) b8_0) (by simp [Value.oneCell']) (by omega) (by simp [maxLen]; omega) (by omega) (by omega) zw1.heap.size rfl ?_
        ·show a.tmps.getD 46 undef = _; simp [ze46, zf0]
        ·show a.tmps.getD 54 undef = _; simp [ze54, zf8]
        intro g5 cap5 zw2 hown5 hgrow hat hlt5
        have hT := mod_grown hgrow
        have hTb : ∀ j, (.slice (some ⟨gw, 0, none⟩) nj cap : Value).ownBlock = some j → bw ≤ j := own_block hown
        refine hK _ _ (InvF.last (PB.writes hI.1 (fun j hj hl => by have := hTb j hj; omega) hT ⟨fun hs => absurd hs (by rw [upd_same]; decide), ⟨hG1.1.mod hT (fun h => by have h2 := hG1.1; unfold Blk at h2; exact absurd (own_ty hown h h2) (by decide)), hG1.2.mod hT (fun h => by have h2 := hG1.2; unfold Blk at h2; exact absurd (own_ty hown h h2) (by decide))⟩⟩) ⟨_, _, upd_same V 9 _, (OwS.app hown5)⟩ ?_)
        intro k hk hDk hlv
        have hkl := hR.lt k hDk
        have hv := hI.2 k hDk (liveB_of hlv)
        match k, hk, hDk, hlv, hkl, hv with
        | 0, _, _, _, _, hv => exact hv
        | 1, _, _, _, _, hv => exact hv
        | 2, _, _, _, _, hv => exact hv
        | 3, _, _, _, _, hv => exact hv
        | 4, _, _, _, _, hv => exact hv
        | 5, _, _, _, _, hv => exact hv
        | 6, _, _, _, _, hv => exact hv
        | 7, _, _, _, _, hv => exact hv
        | 8, _, _, hlv, _, _ => exact absurd hlv (by show ¬ (!upd D 9 true 9) = true; rw [upd_same]; decide)
        | 9, hk, _, _, _, _ => exact absurd rfl hk
        | 10, _, hDk, _, _, _ => exact absurd hDk (by rw [hR.later 10 rfl (by kernel_rfl)]; decide)
        | k + 11, _, _, _, hkl, _ => exact absurd hkl (by simp)
       ·intro D V zw1 a hR hI K hK
        obtain ⟨hM1, hB1, hG1⟩ := hI.1
        obtain ⟨hGK, hG1⟩ := hG1
        have zd9 := hR.pred 9 (by kernel_rfl)
        have zF9 : ∃ (g_9 : Nat) (c_9 : Nat), V 9 = .slice (some ⟨g_9, 0, none⟩) (nj + 1) c_9 ∧ OwS zw1 bw (.slice (some ⟨g_9, 0, none⟩) (nj + 1) c_9) (nj + 1) (hd ++ (vs.take j).map choW ++ [cw]) := hI.2 9 zd9 rfl
        obtain ⟨g_9, c_9, zf9, b9_0⟩ := zF9
        have ze55 := hR.frame.done (t := 55) (j := 9) (by kernel_rfl) hR.ok zd9
        rw [if_pos (by rfl)]
        go_simp
        exact hK (.slice (some ⟨g_9, 0, none⟩) (nj + 1) c_9) _ (hI.next hR (by kernel_rfl) (Mod.refl _ _) (PB.quiet hI.1 (Mod.refl _ _) (HGs.out D 10 zw1 zw1 (by omega) (hI.1).g (Mod.refl _ _))) (⟨g_9, c_9, upd_same V 10 _, b9_0⟩))
      ·intro D V w7 hD hI
       obtain ⟨hM1, hB1, hG1⟩ := hI.1
       have hMx := hM1
       clear hM1
       have hBx := hB1
       clear hB1
       have hGx := hG1.2
       clear hG1
       have zF0 : V 0 = .slice (some ⟨gw, 0, none⟩) nj cap := hI.2 0 (hD 0 (by decide)) rfl
       have zf0 := zF0; clear zF0
       have zF1 : V 1 = .pointer (some ⟨gC, 0, none⟩) := hI.2 1 (hD 1 (by decide)) rfl
       have zf1 := zF1; clear zF1
       have zF2 : V 2 = .string ⟨f.toArray⟩ := hI.2 2 (hD 2 (by decide)) rfl
       have zf2 := zF2; clear zF2
       have zF3 : V 3 = .string ⟨fe.toArray⟩ := hI.2 3 (hD 3 (by decide)) rfl
       have zf3 := zF3; clear zF3
       have zF4 : V 4 = .pointer (some ⟨gC, 1, none⟩) := hI.2 4 (hD 4 (by decide)) rfl
       have zf4 := zF4; clear zF4
       have zF5 : V 5 = .slice cA ch.length cc := hI.2 5 (hD 5 (by decide)) rfl
       have zf5 := zF5; clear zF5
       have zF6 : V 6 = .string ⟨jc.toArray⟩ := hI.2 6 (hD 6 (by decide)) rfl
       have zf6 := zF6; clear zF6
       have zF7 : V 7 = .string ⟨cw.toArray⟩ := hI.2 7 (hD 7 (by decide)) rfl
       have zf7 := zF7; clear zF7
       have zF9 : ∃ (g_9 : Nat) (c_9 : Nat), V 9 = .slice (some ⟨g_9, 0, none⟩) (nj + 1) c_9 ∧ OwS w7 bw (.slice (some ⟨g_9, 0, none⟩) (nj + 1) c_9) (nj + 1) (hd ++ (vs.take j).map choW ++ [cw]) := hI.2 9 (hD 9 (by decide)) rfl
       obtain ⟨g_9, c_9, zf9, b9_0⟩ := zF9
       have zF10 : ∃ (g_10 : Nat) (c_10 : Nat), V 10 = .slice (some ⟨g_10, 0, none⟩) (nj + 1) c_10 ∧ OwS w7 bw (.slice (some ⟨g_10, 0, none⟩) (nj + 1) c_10) (nj + 1) (hd ++ (vs.take j).map choW ++ [cw]) := hI.2 10 (hD 10 (by decide)) rfl
       obtain ⟨g_10, c_10, zf10, b10_0⟩ := zF10
       clear hI hD HGs
       simp only [frAll, Act.put, List.setIfInBounds_toArray, List.set_cons_zero, List.set_cons_succ, Nat.zero_add, Nat.reduceAdd, zf0, zf1, zf2, zf3, zf4, zf5, zf6, zf7, zf9, zf10]
       clear zf0 zf1 zf2 zf3 zf4 zf5 zf6 zf7 zf9 zf10
       generalize V 8 = u8
       clear V D
       have HO8 := Lib.hid b10_0
       have HB8 := Lib.hid hGx.1
       have HM8 := Lib.hid hMx
       clear b9_0 b10_0 hGx hMx hBx HO6 HB6 HC6 HJC HLT HM6
       go_wp2_with fail
       go_roundg (vs.length - (j + 1))
       case measure => omega
       case rel =>
        refine ⟨j + 1, c_10, g_10, rfl, by omega, by rw [← HNJ.out]; rfl, by simp, ?_, HB8.out, HM8.out⟩
        have h := HO8.out
        rw [← HNJ.out] at h
        rw [HVT.out, ← List.append_assoc]
        exact h
     ·obtain rfl : j = vs.length := by omega
      have HWD : Hid (OwS wr bw (.slice (some ⟨gw, 0, none⟩) (6 + vs.length) cap) (6 + vs.length) (decW ⟨no, at_, rev, item, sec, vA, vc, vs⟩)) := Lib.hid (by
       have h := HO.out
       rw [List.take_of_length_le (Nat.le_refl _)] at h
       rw [HRD.out]
       exact h)
      clear HO HRD hlj hj hm
      obtain ⟨jn, hjn⟩ : ∃ jn, Lib.join (decW ⟨no, at_, rev, item, sec, vA, vc, vs⟩) [32] = jn := ⟨_, rfl⟩
      have hjnl : jn.length ≤ 1000 := by have := hlw; unfold lnW at this; rw [hjn, List.length_append] at this; omega
      have HJX : Hid (Calls Tryz.prog 57 #[.slice (some ⟨gw, 0, none⟩) (6 + vs.length) cap, .string ⟨#[32]⟩] wr (JnPost wr jn)) := Lib.hid (by
       have := joinT_calls wr _ (decW ⟨no, at_, rev, item, sec, vA, vc, vs⟩) [32] (Sl.of_own HWD.out) (by unfold decW decH; simp; omega) (by rw [hjn]; omega)
       rwa [hjn] at this)
      have HJ1 : Hid ((⟨jn.toArray⟩ : ByteArray) ++ ⟨#[10]⟩ = ⟨(jn ++ [10]).toArray⟩) := Lib.hid (bytes_appT jn [10])
      have HSN2 : Hid (sn = sk ++ (jn ++ [10])) := Lib.hid (by rw [HSN.out]; show sk ++ (Lib.join _ [32] ++ [10]) = _; rw [hjn])
      obtain ⟨jl, hjl⟩ : ∃ jl, jn ++ [10] = jl := ⟨_, rfl⟩
      have hjll : jl.length ≤ 1001 := by rw [← hjl, List.length_append]; show jn.length + 1 ≤ 1001; omega
      rw [hjl] at HJ1 HSN2
      clear hjl hjn hlw HWD HSN
      have hn1 : ¬ 9223372036854775807 < jn.length + 1 := by omega
      have hn2 : ¬ 9223372036854775807 < sk.length + jl.length := by omega
      go_wp2_with fail
      refine HJX.out.mono ?_
      rintro e wy ⟨rfl, hm⟩
      have HM7 := Lib.hid ((HM4.out.trans HM.out).trans hm)
      have HWS := Lib.hid (wstringS_calls wy gb sk jl ((HIB4.out.pure HM.out).pure hm) (by omega) (by omega))
      rw [← HSN2.out] at HWS
      clear hm HJX HM HIB4
      go_wp2_with (rw [HJ1.out])
      refine HWS.out.mono ?_
      rintro e wz ⟨rfl, hib, hbel⟩
      have HIB9 := Lib.hid hib
      have HM9 : Hid (Pure w wz) := Lib.hid (HM7.out.trans' (Mod.of_below' hbel) (fun i hi hlt => by have h1 : gb ≤ i := hi; omega))
      have HLN := Lib.hid (blen_calls wz gb sn hib)
      have hgt : ¬ (200000 : Int) < (sn.length : Int) := by omega
      clear hib hbel HWS HM7
      go_wp2_with fail
      refine HLN.out.mono ?_
      rintro e wq ⟨rfl, rfl⟩
      clear HLN
      go_wp2_with fail
      go_roundg (ds.length - (k + 1))
      case measure => omega
      case rel => exact ⟨k + 1, rfl, by omega, by simp, by rw [HSE.out]; exact HIB9.out, HM9.out⟩
  ·obtain rfl : k = ds.length := by omega
   rw [List.take_of_length_le (Nat.le_refl _)] at hib
   have HSR := Lib.hid (bstring_calls wr gb _ hib)
   have HM := Lib.hid hm
   clear hm hib
   go_wp2_with fail
   refine HSR.out.mono ?_
   rintro e wq ⟨rfl, hbel⟩
   have HM9 : Hid (Pure w wq) := Lib.hid (HM.out.trans' (Mod.of_below' hbel) (fun i hi hlt => by have h1 : gb ≤ i := hi; omega))
   clear HM HSR hbel
   go_wp2_with fail
   try simp only [Exit.inBlock, Exit.then]
   refine bodyPost_ret (v := .tuple #[.string ⟨(decsT ds).toArray⟩, .int .i64 0]) (by simp [results, Tryz.results19, go_sem]) rfl ?_
   exact ⟨HM9.out, rfl⟩

end Go.Proofs.YtaidkmnbjbnciaaGreatDoor

/- Helpers for the lines of decisions. -/
namespace Go.Proofs.YtaidkmnbjbnciaaGreatDoor
set_option linter.unusedVariables false
set_option linter.unusedSimpArgs false
open Go.RowKit

/-- A cut at a byte. -/
def CutF (s : Str) : Str := match fstL 61 s with | none => s | some p => p.1
def CutR (s : Str) : Str := match fstL 61 s with | none => [] | some p => p.2
def CutI (s : Str) : Bool := match fstL 61 s with | none => false | some _ => true
theorem cutE_calls (w : World) (s : Str) (hM : MlnS w) (hs : s.length ≤ 100000) : Calls Tryz.prog 132 #[.string ⟨s.toArray⟩, .string ⟨#[61]⟩] w (fun e w' => e = .returned (.tuple #[.string ⟨(CutF s).toArray⟩, .string ⟨(CutR s).toArray⟩, .bool (CutI s)]) ∧ Pure w w') := by
 obtain ⟨m, hm⟩ := hM
 refine (Any.strings_Cut Tryz.lays145 ⟨s.toArray⟩ ⟨#[61]⟩ m w (by simp [ByteArray.size]; omega) hm).mono ?_
 rintro e w' ⟨rfl, n, rfl⟩
 refine ⟨?_, (Mod.refl _ _).drewN n⟩
 have h := cut_byte 61 s
 show Ending.returned (.tuple #[.string ⟨(Lib.cut s [61]).1.toArray⟩, .string ⟨(Lib.cut s [61]).2.1.toArray⟩, .bool (Lib.cut s [61]).2.2]) = _
 rw [h]
 unfold CutF CutR CutI
 cases fstL 61 s <;> rfl
theorem cutR_len (s : Str) : (CutR s).length ≤ s.length := by
 unfold CutR
 cases h : fstL 61 s with
 | none => simp
 | some p =>
  have e := congrArg List.length (fstL_some h).1
  rw [List.length_append, List.length_cons] at e
  show p.2.length ≤ _
  omega
theorem valRd_no {s : Str} (h : CutI s = false) : valRd s = none := by
 unfold CutI at h
 unfold valRd
 cases hh : fstL 61 s with
 | none => rfl
 | some p => rw [hh] at h; cases h
theorem valRd_yes {s : Str} (h : CutI s = true) : valRd s = if CutF s = [] ∨ [] ∈ spl 44 (CutR s) then none else some (CutF s, spl 44 (CutR s)) := by
 unfold CutI at h
 unfold valRd CutF CutR
 cases hh : fstL 61 s with
 | none => rw [hh] at h; cases h
 | some p => rfl
/-- Values that have been read so far. -/
def VkR (w : World) (base : Nat) (A : Option Addr) (c : Nat) (cs : List ChoR) (r : List ValK) : Prop := w.ownsRow base 134 2 (.slice A cs.length c) cs.length (choV cs) ∧ ChoS w cs ∧ cs.map (fun x => (x.field, x.ch)) = r
theorem VkR.pure {w w' : World} {base c : Nat} {A : Option Addr} {cs : List ChoR} {r : List ValK} (h : VkR w base A c cs r) (hm : Pure w w') : VkR w' base A c cs r := ⟨own_pure h.1 hm, h.2.1.pure hm, h.2.2⟩
theorem VkR.app {w w' : World} {base c c5 n' : Nat} {A A5 : Option Addr} {cs : List ChoR} {r : List ValK} {x : ChoR} (h : VkR w base A c cs r) (hm : Mod (fun j => (Value.slice A cs.length c).ownBlock = some j) w w') (hx : Sl w 9 1 (.slice x.A x.ch.length x.c) (strsV x.ch))
  (hn : n' = cs.length + 1) (hown : w'.ownsRow base 134 2 (.slice A5 n' c5) n' (choV cs ++ choC x)) : VkR w' base A5 c5 (cs ++ [x]) (r ++ [(x.field, x.ch)]) := by
 have hty : ∀ i arr fr, w.heap[i]? = some (.cells arr 9 fr) → ¬ (Value.slice A cs.length c).ownBlock = some i := fun i arr fr hi hv => absurd (own_ty h.1 hv hi) (by decide)
 subst hn
 exact ⟨by simpa [choV_snoc] using hown, ChoS.snoc (h.2.1.mod hm hty) (hx.mod hm hty), by rw [List.map_append, h.2.2]; rfl⟩
theorem VkR.far {w w' : World} {base c g : Nat} {A : Option Addr} {cs : List ChoR} {r : List ValK} {t : TypeId} {cl : Array Value} (h : VkR w base A c cs r) (hm : Mod (· = g) w w') (hB : Blk w g t cl) (h1 : t ≠ 134) (h2 : t ≠ 9) : VkR w' base A c cs r :=
 ⟨own_mod h.1 hm (fun i hi he => by subst he; exact absurd (own_ty h.1 hi hB) h1), h.2.1.mod hm (fun i arr fr hi => blk_tyR hB hi h2), h.2.2⟩
theorem VkR.vals {w : World} {base c : Nat} {A : Option Addr} {cs : List ChoR} {r : List ValK} (h : VkR w base A c cs r) : Vals w (.slice A cs.length c) cs := ⟨Sl.of_own h.1, h.2.1⟩
/-- A line that no decision is. -/
def badD (ws : List Str) : Bool := decide (ws.length < 6) || (decide (ws.getD 0 [] ≠ wDecision) || (decide (ws.getD 5 [] ≠ wFirst) && decide (ws.getD 5 [] ≠ wSecond)))
theorem badD_none {ws : List Str} (h : badD ws = true) : decRd ws = none := by
 unfold decRd
 rw [if_neg]
 rintro ⟨h1, h2, h3⟩
 unfold badD at h
 rw [Bool.or_eq_true, Bool.or_eq_true, Bool.and_eq_true] at h
 simp only [decide_eq_true_eq] at h
 rcases h with h | h | ⟨h4, h5⟩
 ·omega
 ·exact h h2
 ·rcases h3 with h3 | h3
  ·exact h4 h3
  ·exact h5 h3
theorem badD_some {ws : List Str} (h : badD ws = false) : 6 ≤ ws.length ∧ decRd ws = (match numQ 9 (ws.getD 1 []) with
  | none => none
  | some a => match numQ 9 (ws.getD 2 []) with
   | none => none
   | some b => (valsRd (ws.drop 6)).map fun v => (a, b, ws.getD 3 [], ws.getD 4 [], decide (ws.getD 5 [] = wSecond), v)) := by
 unfold badD at h
 rw [Bool.or_eq_false_iff, Bool.or_eq_false_iff, Bool.and_eq_false_iff] at h
 simp only [decide_eq_false_iff_not, Decidable.not_not] at h
 have h6 : 6 ≤ ws.length := by omega
 refine ⟨h6, ?_⟩
 unfold decRd
 exact if_pos ⟨h6, h.2.1, h.2.2⟩
/-- What a line's reading answers. -/
def DlPost (w : World) (o : Option DecK) (e : Ending) (w' : World) : Prop := ∃ x : DecR, e = .returned (.tuple #[.agg #[.int .i64 x.no, .int .i64 x.at_, .string ⟨x.rev.toArray⟩, .string ⟨x.item.toArray⟩, .bool x.sec, .slice x.A x.vals.length x.c], .bool o.isSome]) ∧ Vals w' (.slice x.A x.vals.length x.c) x.vals ∧ (∀ q, o = some q → x.key = q) ∧ Pure w w'
theorem vals_nil (w : World) : Vals w (.slice none 0 0) [] := ⟨Sl.nil_, fun x hx => absurd hx (by simp)⟩
/-- Two blocks. -/
def TwoE (w : World) (g gr : Nat) (t1 : TypeId) (c1 : Array Value) (t2 : TypeId) (c2 : Array Value) : Prop := Blk w g t1 c1 ∧ Blk w gr t2 c2
theorem TwoE.far {w : World} {g gr : Nat} {t1 t2 : TypeId} {c1 c2 : Array Value} (h : TwoE w g gr t1 c1 t2 c2) {p : Addr} (h1 : g ≠ p.block) (h2 : gr ≠ p.block) (u : Value) : TwoE (w.setCell p u) g gr t1 c1 t2 c2 := ⟨h.1.far h1 u, h.2.far h2 u⟩
theorem TwoE.modp {w w' : World} {g gr : Nat} {t1 t2 : TypeId} {c1 c2 : Array Value} (h : TwoE w g gr t1 c1 t2 c2) (hm : Pure w w') : TwoE w' g gr t1 c1 t2 c2 := ⟨h.1.modp hm, h.2.modp hm⟩
theorem six {ws : List Str} (h : 6 ≤ ws.length) : ∃ a0 a1 a2 a3 a4 a5 t, ws = a0 :: a1 :: a2 :: a3 :: a4 :: a5 :: t := by
 match ws, h with
 | a0 :: a1 :: a2 :: a3 :: a4 :: a5 :: t, _ => exact ⟨a0, a1, a2, a3, a4, a5, t, rfl⟩
theorem six_get {a0 a1 a2 a3 a4 a5 : Str} {t : List Str} {k : Nat} (h : k < t.length) : (strsV (a0 :: a1 :: a2 :: a3 :: a4 :: a5 :: t))[6 + k]? = some (.string ⟨t[k].toArray⟩) := by
 rw [Nat.add_comm]
 simp [strsV, h]
/-- What has been read of a line, put together. -/
theorem dl_sum {o1 o2 : Option Int} {l : List Str} {r : List ValK} {cs : List ChoR} {v1 v2 : Int} {a3 a4 : Str} {se : Bool} {A : Option Addr} {c : Nat} {o : Option DecK}
  (ho : o = (match o1 with | none => none | some a => match o2 with | none => none | some b => (valsRd l).map fun v => (a, b, a3, a4, se, v))) (h1 : ∀ n, o1 = some n → v1 = n) (h2 : ∀ n, o2 = some n → v2 = n) (hr : valsRd l = some r) (hc : cs.map (fun x => (x.field, x.ch)) = r) :
  o.isSome = (o1.isSome && o2.isSome) ∧ ∀ q, o = some q → (⟨v1, v2, a3, a4, se, A, c, cs⟩ : DecR).key = q := by
 subst ho
 cases o1 with
 | none => exact ⟨rfl, fun q hq => by cases hq⟩
 | some a =>
  cases o2 with
  | none => exact ⟨rfl, fun q hq => by cases hq⟩
  | some b =>
   simp only [hr]
   refine ⟨rfl, fun q hq => ?_⟩
   cases hq
   rw [h1 a rfl, h2 b rfl]
   simp [DecR.key, hc]
theorem dl_no {o1 o2 : Option Int} {l : List Str} {a3 a4 : Str} {se : Bool} {o : Option DecK}
  (ho : o = (match o1 with | none => none | some a => match o2 with | none => none | some b => (valsRd l).map fun v => (a, b, a3, a4, se, v))) (hr : valsRd l = none) : o = none := by
 subst ho
 cases o1 with
 | none => rfl
 | some a => cases o2 with
  | none => rfl
  | some b => simp only [hr]; rfl

end Go.Proofs.YtaidkmnbjbnciaaGreatDoor
