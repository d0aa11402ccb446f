/- Texts of the proof of LayoutTexts, put together: LtpP, TxtP, RdFP. -/
import Derived.Test.YtaidkmnbjbnciaaGreatDoorLayoutTextsZ20
import Derived.Test.YtaidkmnbjbnciaaGreatDoorLayoutTextsZ21
import Derived.Test.YtaidkmnbjbnciaaGreatDoorLayoutTextsZ28
import Derived.Lib.Join
/- The texts of layouts (plain): how they are written, what both readers make of a line. -/
namespace Go.Proofs.YtaidkmnbjbnciaaGreatDoor
set_option linter.unusedVariables false
set_option linter.unusedSimpArgs false
open Go.RowKit

/-- A line of words. -/
def lnW (ws : List Str) : Str := Lib.join ws [32] ++ [10]
def sprdW (i : Int) : Str := if i = 0 then wNone else if i = 1 then wSame else wFamily
def askW (x : AskR) : List Str := [wAsk, x.field, if x.many then wMany else wOne, sprdW x.spread] ++ x.ch
def rulW (x : RulR) : List Str := [wRule, if x.kind = 1 then wNeeds else wBars, x.field, x.ifs, x.other] ++ (if x.thn = [] then [] else [x.thn])
def asksT (xs : List AskR) : Str := (xs.map fun x => lnW (askW x)).flatten
def rulsT (xs : List RulR) : Str := (xs.map fun x => lnW (rulW x)).flatten
def layT (L : LayR) : Str := asksT L.asks ++ rulsT L.rules
theorem asksT_snoc {xs : List AskR} {k : Nat} (h : k < xs.length) : asksT (xs.take (k + 1)) = asksT (xs.take k) ++ lnW (askW xs[k]) := by
 unfold asksT
 rw [List.take_succ_eq_append_getElem h, List.map_append, List.flatten_append]
 simp
theorem rulsT_snoc {xs : List RulR} {k : Nat} (h : k < xs.length) : rulsT (xs.take (k + 1)) = rulsT (xs.take k) ++ lnW (rulW xs[k]) := by
 unfold rulsT
 rw [List.take_succ_eq_append_getElem h, List.map_append, List.flatten_append]
 simp
theorem joinTail_len (sep : Str) : ∀ r : List Str, (Lib.joinTail sep r).length = (r.map fun w => w.length + sep.length).sum
 | [] => rfl
 | x :: t => by
  have := joinTail_len sep t
  unfold Lib.joinTail at this ⊢
  simp only [List.map_cons, List.flatten_cons, List.length_append, List.sum_cons, this]
  omega
theorem joinT_len (ws : List Str) : (Lib.join ws [32]).length ≤ (ws.map fun w => w.length + 1).sum := by
 cases ws with
 | nil => simp [Lib.join_nil]
 | cons x r =>
  rw [Lib.join_cons, List.length_append, joinTail_len]
  simp
theorem sum_le {l : List Str} {M : Nat} (h : ∀ w ∈ l, w.length ≤ M) : (l.map fun w => w.length + 1).sum ≤ (M + 1) * l.length := by
 induction l with
 | nil => simp
 | cons a t ih =>
  have h1 := ih (fun w hw => h w (List.mem_cons_of_mem _ hw))
  have h2 := h a List.mem_cons_self
  simp only [List.length_cons, List.map_cons, List.sum_cons, Nat.mul_add, Nat.mul_one]
  omega
theorem sprdW_len (i : Int) : (sprdW i).length ≤ 6 := by
 unfold sprdW
 split
 ·decide
 ·split <;> decide
/-- How long lines are. -/
theorem askW_len {x : AskR} {M K : Nat} (h1 : x.field.length ≤ M) (h2 : x.ch.length ≤ K) (h3 : ∀ s ∈ x.ch, s.length ≤ M) : (lnW (askW x)).length ≤ 18 + M + (M + 1) * K := by
 have h := joinT_len (askW x)
 have h4 := sum_le h3
 have h5 := sprdW_len x.spread
 have h6 : (M + 1) * x.ch.length ≤ (M + 1) * K := Nat.mul_le_mul_left _ h2
 have h7 : (if x.many then wMany else wOne).length ≤ 4 := by cases x.many <;> decide
 have e : ((askW x).map fun w => w.length + 1).sum = (wAsk.length + 1) + ((x.field.length + 1) + (((if x.many then wMany else wOne).length + 1) + (((sprdW x.spread).length + 1) + (x.ch.map fun w => w.length + 1).sum))) := by
  unfold askW
  simp only [List.cons_append, List.nil_append, List.map_cons, List.sum_cons]
 have h8 : wAsk.length = 3 := rfl
 unfold lnW
 rw [List.length_append, List.length_singleton]
 omega
theorem rulW_len {x : RulR} {M : Nat} (h1 : x.field.length ≤ M) (h2 : x.ifs.length ≤ M) (h3 : x.other.length ≤ M) (h4 : x.thn.length ≤ M) : (lnW (rulW x)).length ≤ 16 + 4 * M := by
 have h := joinT_len (rulW x)
 have h7 : (if x.kind = 1 then wNeeds else wBars).length ≤ 5 := by split <;> decide
 have h9 : ((if x.thn = [] then [] else [x.thn]).map fun w => w.length + 1).sum ≤ M + 1 := by split <;> simp <;> omega
 have e : ((rulW x).map fun w => w.length + 1).sum = (wRule.length + 1) + (((if x.kind = 1 then wNeeds else wBars).length + 1) + ((x.field.length + 1) + ((x.ifs.length + 1) + ((x.other.length + 1) + ((if x.thn = [] then [] else [x.thn]).map fun w => w.length + 1).sum)))) := by
  unfold rulW
  simp only [List.cons_append, List.nil_append, List.map_cons, List.sum_cons]
 have h8 : wRule.length = 4 := rfl
 unfold lnW
 rw [List.length_append, List.length_singleton]
 omega
theorem flatT_len {α : Type} (g : α → Str) {M : Nat} : ∀ {xs : List α}, (∀ x ∈ xs, (g x).length ≤ M) → (xs.map g).flatten.length ≤ M * xs.length
 | [], _ => by simp
 | x :: t, h => by
  have h1 := flatT_len g (fun y hy => h y (List.mem_cons_of_mem _ hy))
  have h2 := h x List.mem_cons_self
  simp only [List.map_cons, List.flatten_cons, List.length_append, List.length_cons, Nat.mul_add, Nat.mul_one]
  omega
/-- What the reference makes of a line. -/
def refLn (S : RdS) (s : Str) : Option RdS :=
 let w := wordsL s
 if [] ∈ w then none
 else if w.getD 0 [] = wAsk ∧ 4 ≤ w.length ∧ S.rules = [] then
  (if (w.getD 2 [] = wOne ∨ w.getD 2 [] = wMany) ∧ 0 ≤ sprdIx (w.getD 3 []) then some ⟨S.asks ++ [(w.getD 1 [], w.drop 4, decide (w.getD 2 [] = wMany), sprdIx (w.getD 3 []))], S.rules⟩ else none)
 else if w.getD 0 [] = wRule ∧ (w.length = 5 ∨ w.length = 6) then
  (if w.getD 1 [] = wNeeds ∨ w.getD 1 [] = wBars then some ⟨S.asks, S.rules ++ [⟨if w.getD 1 [] = wBars then 2 else 1, w.getD 2 [], w.getD 3 [], w.getD 4 [], w.getD 5 []⟩]⟩ else none)
 else none
theorem refLn_eq (S : RdS) (s : Str) : refLn S s = lnL S s := by
 unfold refLn lnL
 generalize wordsL s = w
 simp only
 by_cases h0 : [] ∈ w
 ·rw [if_pos h0, if_pos h0]
 rw [if_neg h0, if_neg h0]
 unfold tkL
 by_cases hA : w.getD 0 [] = wAsk
 ·have hR : ¬ w.getD 0 [] = wRule := by rw [hA]; decide
  have hr : rulRd w = none := by unfold rulRd; rw [if_neg (fun h => hR h.2.1)]
  rw [if_neg (fun h => hR h.1 : ¬ (w.getD 0 [] = wRule ∧ (w.length = 5 ∨ w.length = 6)))]
  by_cases hc : (4 ≤ w.length ∧ w.getD 0 [] = wAsk ∧ (w.getD 2 [] = wOne ∨ w.getD 2 [] = wMany) ∧ 0 ≤ sprdIx (w.getD 3 []))
  ·have ha : askRd w = some (w.getD 1 [], w.drop 4, decide (w.getD 2 [] = wMany), sprdIx (w.getD 3 [])) := by unfold askRd; rw [if_pos hc]
   rw [ha]
   simp only
   by_cases hs : S.rules = []
   ·rw [if_pos ⟨hA, hc.1, hs⟩, if_pos ⟨hc.2.2.1, hc.2.2.2⟩, if_pos hs]
   ·rw [if_neg (fun h => hs h.2.2), if_neg hs]
  ·have ha : askRd w = none := by unfold askRd; rw [if_neg hc]
   rw [ha, hr]
   simp only
   by_cases hs : w.getD 0 [] = wAsk ∧ 4 ≤ w.length ∧ S.rules = []
   ·rw [if_pos hs, if_neg (fun h => hc ⟨hs.2.1, hA, h.1, h.2⟩)]
   ·rw [if_neg hs]
 ·have ha : askRd w = none := by unfold askRd; rw [if_neg (fun h => hA h.2.1)]
  rw [ha, if_neg (fun h => hA h.1)]
  simp only
  unfold rulRd
  by_cases hc : w.getD 0 [] = wRule ∧ (w.length = 5 ∨ w.length = 6)
  ·rw [if_pos hc]
   by_cases hk : w.getD 1 [] = wNeeds ∨ w.getD 1 [] = wBars
   ·have hq : (w.length = 5 ∨ w.length = 6) ∧ w.getD 0 [] = wRule ∧ (w.getD 1 [] = wNeeds ∨ w.getD 1 [] = wBars) := ⟨hc.2, hc.1, hk⟩
    rw [if_pos hk, if_pos hq]
   ·rw [if_neg hk, if_neg (fun h => hk h.2.2)]
  ·rw [if_neg hc, if_neg (fun h => hc ⟨h.2.1, h.1⟩)]
/-- What has been read is not too great. -/
def askQB (M : Nat) (a : AskQ) : Prop := a.1.length ≤ M ∧ 2 * a.2.1.length ≤ M ∧ (∀ s ∈ a.2.1, s.length ≤ M) ∧ 0 ≤ a.2.2.2 ∧ a.2.2.2 ≤ 2
def rulQB (M : Nat) (r : RulR) : Prop := r.field.length ≤ M ∧ r.ifs.length ≤ M ∧ r.other.length ≤ M ∧ r.thn.length ≤ M
theorem getD_mem {ws : List Str} {i : Nat} {M : Nat} (h : ∀ w ∈ ws, w.length ≤ M) : (ws.getD i []).length ≤ M := by
 unfold List.getD
 cases hg : ws[i]? with
 | none => simp
 | some x => exact h x (List.mem_of_getElem? hg)
theorem sprdIx_le (s : Str) : sprdIx s ≤ 2 := by unfold sprdIx; split <;> (try split) <;> (try split) <;> omega
theorem lnL_B {S S2 : RdS} {s : Str} {M : Nat} (h : lnL S s = some S2) (hM : s.length ≤ M) : 7 ≤ s.length ∧ S2.asks.length + S2.rules.length = S.asks.length + S.rules.length + 1 ∧ (∀ a ∈ S2.asks, a ∈ S.asks ∨ askQB M a) ∧ ∀ r ∈ S2.rules, r ∈ S.rules ∨ rulQB M r := by
 unfold lnL at h
 split at h
 ·cases h
 rename_i h0
 have hw : ∀ w ∈ wordsL s, w.length ≤ M := fun w hw => by
  unfold wordsL at hw; rw [split_byte] at hw
  have := spl_len hw; omega
 have hn : 2 * (wordsL s).length ≤ s.length + 1 := by
  unfold wordsL at h0 ⊢; rw [split_byte] at h0 ⊢
  exact spl_many h0
 generalize wordsL s = w at *
 unfold tkL at h
 cases ha : askRd w with
 | some a =>
  rw [ha] at h
  simp only at h
  split at h
  ·cases h
   unfold askRd at ha
   split at ha
   ·rename_i hc
    cases ha
    refine ⟨by omega, by simp; omega, fun a ha => ?_, fun r hr => .inl hr⟩
    rcases List.mem_append.1 ha with e | e
    ·exact .inl e
    ·rw [List.mem_singleton.1 e]
     exact .inr ⟨getD_mem hw, by show 2 * (w.drop 4).length ≤ M; rw [List.length_drop]; omega, fun s hs => hw s (List.mem_of_mem_drop hs), hc.2.2.2, sprdIx_le _⟩
   ·cases ha
  ·cases h
 | none =>
  rw [ha] at h
  simp only at h
  cases hr : rulRd w with
  | none => rw [hr] at h; cases h
  | some r =>
   rw [hr] at h
   cases h
   unfold rulRd at hr
   split at hr
   ·rename_i hc
    cases hr
    refine ⟨by omega, by simp; omega, fun a ha => .inl ha, fun r hr => ?_⟩
    rcases List.mem_append.1 hr with e | e
    ·exact .inl e
    ·rw [List.mem_singleton.1 e]
     exact .inr ⟨getD_mem hw, getD_mem hw, getD_mem hw, getD_mem hw⟩
   ·cases hr
theorem rdG_B {M : Nat} {wh : Bool} : ∀ {ls : List Str} {i : Nat} {S S2 : RdS}, rdG lnL wh ls i S = .inr S2 → (∀ l ∈ ls, l.length ≤ M) → (∀ l ∈ ls, 7 ≤ l.length) ∧ S2.asks.length + S2.rules.length = S.asks.length + S.rules.length + ls.length ∧ (∀ a ∈ S2.asks, a ∈ S.asks ∨ askQB M a) ∧ ∀ r ∈ S2.rules, r ∈ S.rules ∨ rulQB M r
 | [], _, S, S2, h, _ => by cases h; exact ⟨fun l hl => absurd hl (by simp), by simp, fun a ha => .inl ha, fun r hr => .inl hr⟩
 | l :: t, i, S, S2, h, hM => by
  unfold rdG at h
  cases hf : lnL S l with
  | none => rw [hf] at h; cases h
  | some S1 =>
   rw [hf] at h
   simp only at h
   split at h
   ·cases h
   obtain ⟨a1, a2, a3, a4⟩ := lnL_B hf (hM l List.mem_cons_self)
   obtain ⟨b1, b2, b3, b4⟩ := rdG_B h (fun x hx => hM x (List.mem_cons_of_mem _ hx))
   refine ⟨fun x hx => ?_, by rw [List.length_cons]; omega, fun a ha => ?_, fun r hr => ?_⟩
   ·rcases List.mem_cons.1 hx with e | e
    ·rw [e]; exact a1
    ·exact b1 x e
   ·rcases b3 a ha with e | e
    ·exact a3 a e
    ·exact .inr e
   ·rcases b4 r hr with e | e
    ·exact a4 r e
    ·exact .inr e
/-- What is read from a short text. -/
theorem rd_B {s : Str} {S : RdS} {M : Nat} (h : rdG lnL (wholeQ s) (linesQ s) 0 ⟨[], []⟩ = .inr S) (hM : s.length ≤ M) : 8 * (S.asks.length + S.rules.length) ≤ M + 1 ∧ (∀ a ∈ S.asks, askQB M a) ∧ ∀ r ∈ S.rules, rulQB M r := by
 have hln : ∀ l ∈ linesQ s, l.length ≤ M := fun l hl => by
  unfold linesQ at hl
  split at hl
  ·cases hl
  ·have h1 := spl_len hl
   have h2 : (Lib.trimSuffix s [10]).length ≤ s.length := by unfold Lib.trimSuffix; split <;> simp <;> omega
   omega
 obtain ⟨a1, a2, a3, a4⟩ := rdG_B h hln
 refine ⟨?_, fun a ha => (a3 a ha).elim (fun e => absurd e (by simp)) id, fun r hr => (a4 r hr).elim (fun e => absurd e (by simp)) id⟩
 have hs : ((linesQ s).map fun w => w.length + 1).sum ≤ M + 1 := by
  unfold linesQ
  split
  ·simp
  ·rw [spl_sum 10 _ _ (Nat.le_refl _)]
   have h2 : (Lib.trimSuffix s [10]).length ≤ s.length := by unfold Lib.trimSuffix; split <;> simp <;> omega
   omega
 have h8 := sum_ge a1
 simp at a2
 omega

end Go.Proofs.YtaidkmnbjbnciaaGreatDoor

/- Layouts that can be written (plain). -/
namespace Go.Proofs.YtaidkmnbjbnciaaGreatDoor
set_option linter.unusedVariables false
set_option linter.unusedSimpArgs false
open Go.RowKit

theorem errsFrom_zero {f : Nat → Int} {n : Nat} : ∀ (m k : Nat), n - k = m → errsFrom f n k = 0 → ∀ j, k ≤ j → j < n → f j = 0
 | 0, k, hm, _, j, h1, h2 => by omega
 | m + 1, k, hm, h, j, h1, h2 => by
  rw [errsFrom_step f (by omega : k < n)] at h
  by_cases h0 : f k = 0
  ·rw [if_pos h0] at h
   by_cases e : j = k
   ·rw [e]; exact h0
   ·exact errsFrom_zero m (k + 1) (by omega) h j (by omega) h2
  ·rw [if_neg h0] at h; exact absurd h h0
theorem errsOf_zero {f : Nat → Int} {n : Nat} (h : errsOf f n = 0) {j : Nat} (hj : j < n) : f j = 0 := errsFrom_zero n 0 rfl h j (Nat.zero_le _) hj
/-- A field, a rule that can be written. -/
def askOk (a : AskR) : Prop := 0 < a.ch.length ∧ 0 ≤ a.spread ∧ a.spread ≤ 2 ∧ (lnW (askW a)).length ≤ 60000
def rulOk (r : RulR) : Prop := (r.kind = 1 ∨ r.kind = 2) ∧ (lnW (rulW r)).length ≤ 60000
def LayOk (L : LayR) : Prop := (∀ a ∈ L.asks, askOk a) ∧ (∀ r ∈ L.rules, rulOk r) ∧ L.asks.length ≤ 100 ∧ L.rules.length ≤ 100
theorem layE_ok {L : LayR} (h : layE L = 0) (hb : (∀ a ∈ L.asks, AskB a) ∧ ∀ r ∈ L.rules, RulB r) (h1 : L.asks.length ≤ 3) (h2 : L.rules.length ≤ 3) : LayOk L ∧ (layT L).length ≤ 200000 := by
 obtain ⟨al, rs⟩ := L
 unfold layE at h
 simp only at h h1 h2 hb
 split at h
 ·cases h
 split at h
 ·cases h
 split at h
 ·rename_i h3; exact absurd h h3
 rename_i h3
 split at h
 ·cases h
 have h3' : errsOf (askE al) al.length = 0 := Decidable.not_not.1 h3
 have HA : ∀ a ∈ al, 0 < a.ch.length ∧ 0 ≤ a.spread ∧ a.spread ≤ 2 ∧ (lnW (askW a)).length ≤ 32000 := by
  intro a ha
  obtain ⟨j, hj, rfl⟩ := List.mem_iff_getElem.1 ha
  have e := errsOf_zero h3' hj
  have hB := hb.1 _ ha
  unfold askE at e
  rw [List.getD_eq_getElem?_getD, List.getElem?_eq_getElem hj] at e
  simp only [Option.getD_some] at e
  split at e
  ·cases e
  split at e
  ·cases e
  split at e
  ·cases e
  split at e
  ·cases e
  split at e
  ·rename_i hx; exact absurd e hx
  split at e
  ·rename_i q1 q2 q3 q4 q5 q6
   refine ⟨by omega, q6.1, q6.2, ?_⟩
   have := askW_len (x := al[j]) (M := 1000) (K := 30) hB.1 (by omega) hB.2.1.2
   omega
  ·cases e
 have HR : ∀ r ∈ rs, (r.kind = 1 ∨ r.kind = 2) ∧ (lnW (rulW r)).length ≤ 4100 := by
  intro r hr
  obtain ⟨j, hj, rfl⟩ := List.mem_iff_getElem.1 hr
  have e := errsOf_zero h hj
  have hB := hb.2 _ hr
  rw [List.getD_eq_getElem?_getD, List.getElem?_eq_getElem hj] at e
  simp only [Option.getD_some] at e
  unfold rulE at e
  split at e
  ·cases e
  ·rename_i q
   refine ⟨Decidable.not_not.1 q, ?_⟩
   have := rulW_len (x := rs[j]) (M := 1000) hB.1 hB.2.1 hB.2.2.1 hB.2.2.2
   omega
 refine ⟨⟨fun a ha => ⟨(HA a ha).1, (HA a ha).2.1, (HA a ha).2.2.1, by have := (HA a ha).2.2.2; omega⟩, fun r hr => ⟨(HR r hr).1, by have := (HR r hr).2; omega⟩, by simp only; omega, by simp only; omega⟩, ?_⟩
 unfold layT asksT rulsT
 rw [List.length_append]
 have f1 := flatT_len (fun x => lnW (askW x)) (M := 32000) (xs := al) (fun x hx => (HA x hx).2.2.2)
 have f2 := flatT_len (fun x => lnW (rulW x)) (M := 4100) (xs := rs) (fun x hx => (HR x hx).2)
 simp only
 omega
/-- What the generator of right layouts makes. -/
theorem layG_ok {L : LayR} (h1 : L.asks.length ≤ 3) (h2 : L.rules.length ≤ 2) (ha : ∀ a ∈ L.asks, AskG a) (hr : ∀ r ∈ L.rules, RulG r) : LayOk L ∧ (layT L).length ≤ 175 := by
 have HA : ∀ a ∈ L.asks, (lnW (askW a)).length ≤ 37 := fun a h => by
  have g := ha a h
  have := askW_len (x := a) (M := 4) (K := 3) g.1 g.2.1 g.2.2.1
  omega
 have HR : ∀ r ∈ L.rules, (lnW (rulW r)).length ≤ 32 := fun r h => by
  obtain ⟨_, a, b, c, d⟩ := hr r h
  have := rulW_len (x := r) (M := 4) a b c d
  omega
 refine ⟨⟨fun a h => ⟨(ha a h).2.2.2.2.2, (ha a h).2.2.2.1, (ha a h).2.2.2.2.1, by have := HA a h; omega⟩, fun r h => ⟨(hr r h).1, by have := HR r h; omega⟩, by omega, by omega⟩, ?_⟩
 unfold layT asksT rulsT
 rw [List.length_append]
 have f1 := flatT_len (fun x => lnW (askW x)) (M := 37) (xs := L.asks) HA
 have f2 := flatT_len (fun x => lnW (rulW x)) (M := 32) (xs := L.rules) HR
 omega

theorem asksT_take (al : List AskR) (k : Nat) : (asksT (al.take k)).length ≤ (asksT al).length := by
 have : asksT al = asksT (al.take k) ++ asksT (al.drop k) := by
  unfold asksT
  rw [← List.flatten_append, ← List.map_append, List.take_append_drop]
 rw [this, List.length_append]
 omega
theorem rulsT_take (al : List RulR) (k : Nat) : (rulsT (al.take k)).length ≤ (rulsT al).length := by
 have : rulsT al = rulsT (al.take k) ++ rulsT (al.drop k) := by
  unfold rulsT
  rw [← List.flatten_append, ← List.map_append, List.take_append_drop]
 rw [this, List.length_append]
 omega
theorem sum_cnt (r : List Str) : r.length ≤ (r.map fun w => w.length + ([32] : Str).length).sum := by
 induction r with
 | nil => exact Nat.le_refl _
 | cons a t ih =>
  rw [List.map_cons, List.sum_cons, List.length_cons]
  have : ([32] : Str).length = 1 := rfl
  omega
theorem join_many (ws : List Str) : ws.length ≤ (Lib.join ws [32]).length + 1 := by
 cases ws with
 | nil => simp
 | cons x r =>
  rw [Lib.join_cons, List.length_append, joinTail_len]
  have := sum_cnt r
  rw [List.length_cons]
  omega

end Go.Proofs.YtaidkmnbjbnciaaGreatDoor

/- What is wrong with a layout does not hang on where its choices lie (plain). -/
namespace Go.Proofs.YtaidkmnbjbnciaaGreatDoor
set_option linter.unusedVariables false
set_option linter.unusedSimpArgs false
open Go.RowKit

def AskQ.r (q : AskQ) : AskR := ⟨q.1, none, 0, q.2.1, q.2.2.1, q.2.2.2⟩
def AskR.strip (x : AskR) : AskR := ⟨x.field, none, 0, x.ch, x.many, x.spread⟩
def layS (S : RdS) : LayR := ⟨S.asks.map AskQ.r, S.rules⟩
theorem getD_strip (al : List AskR) (k : Nat) : (al.map AskR.strip).getD k askN = (al.getD k askN).strip := by
 rw [List.getD_eq_getElem?_getD, List.getD_eq_getElem?_getD, List.getElem?_map]
 cases al[k]? <;> rfl
theorem choOf_strip (al : List AskR) (s : Str) : choOf (al.map AskR.strip) s = choOf al s := by
 unfold choOf
 rw [List.find?_map]
 show Option.map _ (Option.map _ (al.find? fun a => decide (a.field = s))) = _
 cases al.find? fun a => decide (a.field = s) <;> rfl
theorem twB_strip (al : List AskR) (k : Nat) (s : Str) : twB (al.map AskR.strip) k s = twB al k s := by
 unfold twB
 rw [← List.map_take, List.any_map]
 rfl
theorem askE_strip (al : List AskR) (k : Nat) : askE (al.map AskR.strip) k = askE al k := by
 unfold askE
 simp only [getD_strip, twB_strip]
 rfl
theorem rulE_strip (al : List AskR) (r : RulR) : rulE (al.map AskR.strip) r = rulE al r := by
 unfold rulE offB
 simp only [choOf_strip]
theorem layE_strip (al : List AskR) (rs : List RulR) : layE ⟨al.map AskR.strip, rs⟩ = layE ⟨al, rs⟩ := by
 unfold layE
 simp only [List.length_map]
 rw [show askE (al.map AskR.strip) = askE al from funext (askE_strip al), show (fun k => rulE (al.map AskR.strip) (rs.getD k rulN)) = fun k => rulE al (rs.getD k rulN) from funext fun k => rulE_strip al _]
theorem layE_q {L : LayR} {S : RdS} (h1 : L.asks.map AskR.q = S.asks) (h2 : L.rules = S.rules) : layE L = layE (layS S) := by
 obtain ⟨al, rs⟩ := L
 simp only at h1 h2
 subst h2
 unfold layS
 rw [← h1, List.map_map]
 exact (layE_strip al _).symm
/-- What short texts give is not too great for the program. -/
theorem layB_of {S : RdS} {L : LayR} {s : Str} (h : rdG lnL (wholeQ s) (linesQ s) 0 ⟨[], []⟩ = .inr S) (hM : s.length ≤ 201) (h1 : L.asks.map AskR.q = S.asks) (h2 : L.rules = S.rules) : LayB L := by
 obtain ⟨b1, b2, b3⟩ := rd_B h hM
 have hl : L.asks.length = S.asks.length := by rw [← h1, List.length_map]
 refine ⟨by omega, by rw [h2]; omega, fun a ha => ?_, fun r hr => ?_⟩
 ·have hq := b2 a.q (by rw [← h1]; exact List.mem_map_of_mem ha)
  obtain ⟨c1, c2, c3, c4, c5⟩ := hq
  exact ⟨by unfold StB; show a.field.length ≤ _; have : a.field.length ≤ 201 := c1; omega, ⟨by have : 2 * a.ch.length ≤ 201 := c2; omega, fun t ht => by have : t.length ≤ 201 := c3 t ht; omega⟩, by have : 0 ≤ a.spread := c4; omega, by have : a.spread ≤ 2 := c5; omega⟩
 ·rw [h2] at hr
  obtain ⟨c1, c2, c3, c4⟩ := b3 r hr
  exact ⟨by unfold StB; omega, by unfold StB; omega, by unfold StB; omega, by unfold StB; omega⟩

end Go.Proofs.YtaidkmnbjbnciaaGreatDoor
