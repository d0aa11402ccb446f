/- Texts of the proof of GroupFamilies, put together: RegN. -/
import Derived.Test.YtgfgggeeoeppjaaGreatDoorGroupFamiliesZ2
import Derived.OrdersIn
import Derived.RangeFuncCalls
import Derived.TacticsIn
set_option linter.unusedVariables false
set_option linter.unusedSimpArgs false
/- Regions that draw their order, within a round of a loop over a function: the rule of the text Reg. -/
namespace Go.Proofs.YtgfgggeeoeppjaaGreatDoor
open Go.RowKit
def notDefer (o : Oper) : Bool := match o.op with | .defer _ => false | _ => true
theorem wp_opIn {P : Program} {o : Oper} {a : Act} {w : World} {K : Act → World → Prop} {Q : Exit → Act → World → Prop} (l n : Nat) (hd : notDefer o = true) (h : o.wp P a w K Q) : o.wpIn (Fence.wide.inRound l) n P a w K Q := by
 refine ⟨fun _ _ => trivial, ?_⟩;have he : o.semAt (Fence.wide.inRound l).round a.eval = execOp a.eval o := Oper.semAt_some l _ _ (fun c hc => by unfold notDefer at hd; rw [hc] at hd; cases hd);rw [he];unfold Oper.wp at h
 have hn : (Fence.wide.inRound l).depth.isSome = true → 1 ≤ n := fun h => by simp [Fence.wide] at h
 generalize (execOp a.eval o).run P w = r at *
 cases r with
 | ok x w' =>
  cases x with
  | value v => exact h
  | skip => exact h
  | defer d => exact h
  | enter f args => exact ⟨hn, CallsIn.inRound l (callsIn_wide.2 (h.mono fun e w'' he => by cases e <;> exact he))⟩
  | row row args => exact ⟨hn, fun c cs _ => by
    obtain ⟨v, w', r, s⟩ := h c cs
    exact ⟨v, w', r, stepsIn_wide.2 s⟩⟩
  | _ => exact h.elim
 | halt x w' => cases x <;> exact h
section
variable {P : Program} {ops : Array Oper} {Q : Exit → Act → World → Prop}
theorem wpOpIn_step (l n : Nat) {i : Nat} {o : Oper} {K : Act → World → Prop} {a : Act} {w : World} (ho : ops[i]? = some o) (hd : notDefer o = true)
  (h : ∀ K' : Act → World → Prop, (∀ a w, K a w → K' a w) → if Region.wanted o (yielded ops a.tmps) = true then Oper.wp P o a w K' Q else K' (a.put o.dst undef) w) : wpOpIn (Fence.wide.inRound l) n P ops Q i K a w := by
 have := h K (fun _ _ h => h);unfold wpOpIn;rw [ho]
 show if Region.wanted o (yielded ops a.tmps) = true then _ else _
 split
 ·rename_i hw; rw [if_pos hw] at this; exact wp_opIn l n hd this
 ·rename_i hw; rw [if_neg hw] at this; exact ⟨fun _ _ => trivial, this⟩
end
section
variable {P : Program} {ops : Array Oper} {Q : Exit → Act → World → Prop} {a0 : Act} {Inv : (Nat → Bool) → (Nat → Value) → World → Prop}
theorem wpAnyIn_inv (l n : Nat) (hnd : ∀ (i : Nat) (o : Oper), ops[i]? = some o → notDefer o = true) (hok : regOk a0.tmps.size ops = true) (hs : ∀ i o, ops[i]? = some o → StepOk P ops Q a0 Inv i o)
  (he : ∀ D V w a, (∀ k, k < ops.size → D k = true) → FrameIs a0 ops D V a → Inv D V w → Q .normal a w) :
  ∀ (fuel : Nat) (listed : Array Bool) (D : Nat → Bool) (V : Nat → Value) (a : Act) (w : World), listed.size = ops.size → (∀ k, k < ops.size → listed[k]? = some (D k)) →
   (∀ k o j, ops[k]? = some o → predB o j = true → D k = true → D j = true) → (∀ k, D k = true → k < ops.size) → ((List.range ops.size).filter fun i => !D i).length ≤ fuel → FrameIs a0 ops D V a → Inv D V w → wpAnyIn (Fence.wide.inRound l) n P .any ops Q fuel listed a w := by
 intro fuel
 induction fuel with
 | zero =>
  intro listed D V a w hz hl hc hlt hf hfr hI
  have hall : ∀ k, k < ops.size → D k = true := by
   intro k hk;have h0 : ((List.range ops.size).filter fun i => !D i) = [] := List.eq_nil_of_length_eq_zero (by omega);have := List.filter_eq_nil_iff.1 h0 k (List.mem_range.2 hk)
   simpa using this
  refine ⟨?_, he D V w a hall hfr hI⟩;unfold Region.ready;rw [List.filter_eq_nil_iff];intro k hk;have hk := List.mem_range.1 hk;have := hl k hk;rw [hall k hk] at this;simp [this]
 | succ fuel ih =>
  intro listed D V a w hz hl hc hlt hf hfr hI
  have hgetT : ∀ k, k < ops.size → listed.getD k true = D k := fun k hk => by simp [hl k hk]
  have hgetF : ∀ k, k < ops.size → listed.getD k false = D k := fun k hk => by simp [hl k hk]
  refine ⟨fun hr => ?_, fun i hi => ?_⟩
  ·have hall : ∀ k, k < ops.size → D k = true := by
    intro k
    induction k using Nat.strongRecOn with
    | _ k ihk =>
     intro hk
     cases hD : D k with
     | true => rfl
     | false =>
      exfalso
      have ho : ops[k]? = some ops[k] := Array.getElem?_eq_getElem hk
      have : k ∈ Region.ready .any ops listed := (mem_ready ho).2 ⟨by rw [hgetT k hk, hD], fun e hee hb => by
       have hlt : e.on < k := regOk_pred hok ho (by unfold predB; rw [Array.any_eq_true']; exact ⟨e, hee, by simp [hb]⟩);rw [hgetF _ (by omega)]
       exact ihk e.on hlt (by omega)⟩
      rw [hr] at this
      cases this
   exact he D V w a hall hfr hI
  ·have hi0 : i < ops.size := by
    unfold Region.ready at hi;exact List.mem_range.1 (List.mem_filter.1 hi).1
   have ho : ops[i]? = some ops[i] := Array.getElem?_eq_getElem hi0;obtain ⟨h1, h2⟩ := (mem_ready ho).1 hi;rw [hgetT i hi0] at h1
   have hp : ∀ j, predB ops[i] j = true → D j = true := by
    intro j hj;have hlt := regOk_pred hok ho hj;unfold predB at hj;rw [Array.any_eq_true'] at hj;obtain ⟨e, hee, hj⟩ := hj;rw [Bool.and_eq_true] at hj
    have hje : e.on = j := by simpa using hj.2
    have := h2 e hee hj.1;rw [hgetF _ (by omega), hje] at this;exact this
   refine wpOpIn_step l n ho (hnd i _ ho) fun K' hK' => ?_;refine hs i _ ho D V w a ⟨hok, hfr, h1, hp, hc, hlt⟩ hI K' fun v w' hI' => hK' _ _ ?_;refine ih _ (upd D i true) (upd V i v) _ w' (by simpa using hz) (fun k hk => ?_) (fun k o j hk hj hD => ?_) (fun k hD => ?_) ?_ (hfr.step hok ho v) hI'
   ·by_cases e : k = i
    ·subst e;rw [upd_same, Array.getElem?_setIfInBounds_self_of_lt (by omega)]
    ·rw [upd_ne _ _ e, Array.getElem?_setIfInBounds_ne (fun x => e x.symm), hl k hk]
   ·by_cases e : j = i
    ·subst e; exact upd_same _ _ _
    ·rw [upd_ne _ _ e]
     by_cases e2 : k = i
     ·subst e2;rw [ho] at hk
      injection hk with hk
      exact hp j (by rw [hk]; exact hj)
     ·rw [upd_ne _ _ e2] at hD;exact hc k o j hk hj hD
   ·by_cases e : k = i
    ·omega
    ·rw [upd_ne _ _ e] at hD;exact hlt k hD
   ·have := filter_lt (p := fun k => !D k) (q := fun k => !(upd D i true k)) (l := List.range ops.size) (fun x hx => by
     by_cases e : x = i
     ·subst e; rw [upd_same] at hx; simp at hx
     ·rw [upd_ne _ _ e] at hx; exact hx) (i := i) (by simp [h1]) (by simp [upd_same]) (List.mem_range.2 hi0)
    omega
end
theorem wpIn_region_inv {P : Program} (lp n : Nat) {id : Nat} {l : List Oper} {Q : Exit → Act → World → Prop} {a0 : Act} {w0 : World} (hnd : l.all notDefer = true) (hm : P.follows .mixedOrders = true) (hok : regOk a0.tmps.size l.toArray = true)
  (Inv : (Nat → Bool) → (Nat → Value) → World → Prop) (h0 : Inv (fun _ => false) (fun _ => undef) w0.drew) (hs : AllS (StepOk P l.toArray Q a0 Inv) 0 l)
  (he : ∀ D V w, (∀ k, k < l.length → D k = true) → Inv D V w → Q .normal (frAll a0 V l 0) w) : (Code.region id l.toArray true).wpIn (Fence.wide.inRound lp) n P Q a0 w0 := by
 refine wpIn_region_any hm ?_;refine wpAnyIn_inv lp n (Inv := Inv) (fun i o ho => List.all_eq_true.1 hnd o (List.mem_of_getElem? (by simpa using ho))) hok (fun i o ho => ?_) (fun D V w a hD hf hI => ?_) _ _ (fun _ => false) (fun _ => undef) a0 _ (by simp) (fun k hk => ?_) (fun k o j _ _ h => by cases h) (fun k h => by cases h) ?_ .start h0
 ·have := hs.get (i := i) (o := o) (by simpa using ho)
  rwa [Nat.zero_add] at this
 ·obtain ⟨D', h1, h2⟩ := frAll_is (V := V) hok l 0 (fun _ => false) a0 (fun i => by simp) .start (fun i hi => absurd hi (by omega));rw [hf.unique h1 hD (fun k hk => h2 k (by simpa using hk))];exact he D V w (by simpa using hD) hI
 ·simp at hk;rw [Array.getElem?_replicate, if_pos (by simpa using hk)]
 ·have := List.length_filter_le (fun i => !(fun _ : Nat => false) i) (List.range l.toArray.size)
  simpa using this
end Go.Proofs.YtgfgggeeoeppjaaGreatDoor
