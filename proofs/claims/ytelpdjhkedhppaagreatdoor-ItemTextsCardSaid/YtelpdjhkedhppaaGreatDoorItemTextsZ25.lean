/- Texts of the proof of ItemTexts, put together: Mrk, RngF, RngW. -/
import Derived.Test.YtelpdjhkedhppaaGreatDoorItemTextsZ11
import Derived.RangeFuncNested
import Derived.RangeFuncBound
import Derived.RangeFuncCalls
import Derived.RangeFuncLeaves
import Derived.ControlIn
import Derived.Deep.LoopGhost
set_option linter.unusedVariables false
set_option linter.unusedSimpArgs false
/- The marks that loops over functions leave in a frame; a call's contract where a body leaves many of them. -/
namespace Go.Proofs.YtelpdjhkedhppaaGreatDoor
open Go.RowKit
def isDef (w : World) (k : Nat) : Prop := ∃ x, w.heap[k]? = some (.deferred x)
def Marks (w : World) (base : Nat) : List Deferred → Prop
 | [] => True
 | d :: ds => (∃ D, d = { target := .collected D, args := #[] } ∧ base ≤ D ∧ w.heap[D]? = some (.deferred (some [])) ∧ ∀ d' ∈ ds, d'.target ≠ .collected D) ∧ Marks w base ds
abbrev MarkMod (base : Nat) (w w' : World) : Prop := Mod (fun k => base ≤ k ∧ isDef w k) w w'
theorem Marks.mod {S : Nat → Prop} {w w' : World} {base : Nat} : ∀ {ds : List Deferred}, Marks w base ds → Mod S w w' → (∀ k, S k → ¬ isDef w k) → Marks w' base ds
 | [], _, _, _ => trivial
 | d :: ds, ⟨⟨D, h1, h2, h3, h4⟩, h5⟩, hm, hs => by
  have hlt : D < w.heap.size := (Array.getElem?_eq_some_iff.1 h3).1;exact ⟨⟨D, h1, h2, (hm.block D hlt (fun x => hs D x ⟨_, h3⟩)).trans h3, h4⟩, Marks.mod h5 hm hs⟩
theorem Marks.pure {w w' : World} {base : Nat} {ds : List Deferred} (h : Marks w base ds) (hm : Pure w w') : Marks w' base ds := h.mod hm (fun _ x => x.elim)
theorem Marks.lt {w : World} {base : Nat} : ∀ {ds : List Deferred}, Marks w base ds → ∀ d ∈ ds, ∃ D, d.target = .collected D ∧ D < w.heap.size
 | [], _, d, hd => absurd hd (by simp)
 | e :: ds, ⟨⟨D, h1, h2, h3, h4⟩, h5⟩, d, hd => by
  rcases List.mem_cons.1 hd with rfl | hd
  ·exact ⟨D, by rw [h1], (Array.getElem?_eq_some_iff.1 h3).1⟩
  ·exact h5.lt d hd
theorem Marks.more {w w' : World} {base D : Nat} {ds : List Deferred} (h : Marks w base ds) (h' : Marks w' base ds) (hb : base ≤ D) (hD : w.heap.size ≤ D) (hd : w'.heap[D]? = some (.deferred (some []))) : Marks w' base ({ target := .collected D, args := #[] } :: ds) :=
 ⟨⟨D, rfl, hb, hd, fun d hd he => by
  obtain ⟨E, h1, h2⟩ := h.lt d hd;rw [h1] at he
  injection he with he
  omega⟩, h'⟩
theorem marks_put {w : World} {base D : Nat} {o : Obj} : ∀ {ds : List Deferred}, Marks w base ds → (∀ d ∈ ds, d.target ≠ .collected D) → Marks (w.putObj D o) base ds
 | [], _, _ => trivial
 | d :: ds, ⟨⟨E, h1, h2, h3, h4⟩, h5⟩, hn => by
  have hne : E ≠ D := fun e => hn d (by simp) (by rw [h1, e]);exact ⟨⟨E, h1, h2, (World.putObj_heap_other hne).trans h3, h4⟩, marks_put h5 (fun d hd => hn d (List.mem_cons_of_mem _ hd))⟩
theorem markMod_put {w w' : World} {base D : Nat} {o : Option (List Deferred)} (hb : base ≤ D) (hd : w.heap[D]? = some (.deferred o)) {o' : Option (List Deferred)} (h : MarkMod base (w.putObj D (.deferred o')) w') : MarkMod base w w' := by
 have hz : (w.putObj D (.deferred o')).heap.size = w.heap.size := by simp
 refine ⟨h.os, h.tape, h.output, by have := h.size; omega, fun k hk hs => ?_⟩;have hne : k ≠ D := fun e => hs ⟨by omega, by rw [e]; exact ⟨_, hd⟩⟩;refine (h.block k (by omega) (fun hx => hs ⟨hx.1, ?_⟩)).trans (World.putObj_heap_other hne);obtain ⟨x, hx⟩ := hx.2;rw [World.putObj_heap_other hne] at hx;exact ⟨x, hx⟩
theorem leaves_marks {F : Fence} {n : Nat} {P : Program} {fn : Func} {tmps : Array Value} {R : Ending → World → Prop} {base : Nat} : ∀ (ds : List Deferred) (w : World), Marks w base ds →
  (∀ w', MarkMod base w w' → ∃ v, (results fn tmps).run P w' = .ok v w' ∧ R (.returned v) w') → LeavesInM F n P fn tmps R ds .returning w
 | [], w, _, h => h w (Mod.refl _ _)
 | d :: ds, w, ⟨⟨D, h1, h2, h3, h4⟩, h5⟩, h => ⟨by simp, .inl ⟨D, _, by rw [h1], run_takeDeferred h3, leaves_marks ds _ (marks_put h5 h4) (fun w' hw => h w' (markMod_put h2 h3 hw))⟩⟩
def markPost (P : Program) (base : Nat) (fn : Func) (R : Ending → World → Prop) : Exit → Act → World → Prop
 | .normal, a, w | .ret, a, w => Marks w base a.defers ∧ ∀ w', MarkMod base w w' → ∃ v, (results fn a.tmps).run P w' = .ok v w' ∧ R (.returned v) w'
 | _, _, _ => False
theorem calls_of_wp_marks {P : Program} (base : Nat) {f : FuncId} {fn : Func} {c : Code} {args : Array Value} {w : World} {R : Ending → World → Prop} (hf : P.funcs[f]? = some fn) (hb : fn.body = some c)
  (h : c.wp P (markPost P base fn R) { tmps := args ++ Array.replicate (fn.ntmps - args.size) undef, defers := [] } w) : Calls P f args w R := by
 refine (callsIn_wide (n := 9)).1 (callsIn_of_wp_marks hf hb trivial ?_ rfl);refine wpIn_wide.2 (Code.wp_mono (fun e a w' hq => ?_) h)
 cases e with
 | normal => exact leaves_marks _ _ hq.1 hq.2
 | ret => exact leaves_marks _ _ hq.1 hq.2
 | panic chain => exact hq.elim
 | exit id => exact hq.elim
 | goto l => exact hq.elim
 | outgrown => exact hq.elim
section
variable {w w' : World} {base : Nat}
theorem Sl.mark {e : TypeId} {size : Nat} {v : Value} {xs : List Value} (h : Sl w e size v xs) (hm : MarkMod base w w') : Sl w' e size v xs :=
 h.mod hm (fun g arr fr hg hx => by
  obtain ⟨x, hx⟩ := hx.2;rw [hg] at hx
  cases hx)
theorem MarkMod.pure {w0 : World} (h : Pure w0 w) (hm : MarkMod base w w') (hb : w0.heap.size ≤ base) : Pure w0 w' := h.trans' hm (fun i hi hlt => by have := hi.1; omega)
end
end Go.Proofs.YtelpdjhkedhppaaGreatDoor
/- A loop over a function in a plain walk: a rule that leaves one mark more. -/
namespace Go.Proofs.YtelpdjhkedhppaaGreatDoor
open Go.RowKit
def Books (B : Nat) (X Y : World) : Prop := ∃ row, X.grownBy Y row ∧ ∀ r, row = some r → B ≤ r ∧ ∃ o : Obj, X.heap[r]? = some o ∧ o.isCells = false
theorem Books.mod {B : Nat} {X Y : World} (h : Books B X Y) : Mod (fun k => B ≤ k ∧ ∃ o : Obj, X.heap[k]? = some o ∧ o.isCells = false) X Y := by
 obtain ⟨row, hg, hr⟩ := h;exact ⟨hg.os, hg.tape, hg.output, hg.size, fun k hk hs => hg.block k hk (fun e => hs (hr k e.symm))⟩
theorem Books.blk {B g : Nat} {X Y : World} {t : TypeId} {cs : Array Value} (h : Books B X Y) (hb : Blk X g t cs) : Blk Y g t cs :=
 hb.mod h.mod (fun hx => by
  obtain ⟨_, o, ho, hc⟩ := hx;unfold Blk at hb;rw [hb] at ho
  injection ho with ho
  subst ho
  cases hc)
def RndPost {α : Type} (T : Nat → Prop) (B : Nat) (I : List α → World → Prop) (xs : List α) (W : World) (e : Exit) (_ : Act) (W' : World) : Prop := e = .normal ∧ Mod (fun k => T k ∧ k < B) W W' ∧ I xs W'
def nthV : List Value → Nat → Value
 | [], _ => undef
 | x :: _, 0 => x
 | _ :: t, n + 1 => nthV t n
theorem wp_loop_u {P : Program} {Q : Exit → Act → World → Prop} {c : Code} {l : List Value} {ds0 : List Deferred} {w : World} (fr : (Nat → Value) → Array Value) (rel : Nat → List Deferred → (Nat → Value) → World → Prop) (n0 : Nat)
  (hfr : l.toArray = fr (nthV l)) (h0 : rel n0 ds0 (nthV l) w)
  (round : ∀ gk ds u wr, rel gk ds u wr → ∀ (J : Nat → Act → World → Prop) (K : Act → World → Prop), (∀ k ds' (l' : List Value) w', l'.toArray = fr (nthV l') → rel k ds' (nthV l') w' → J k { tmps := l'.toArray, defers := ds' } w') → (∀ a' w', Handed J gk a' w' → K a' w') → c.wp P (Exit.then K Q) { tmps := fr u, defers := ds } wr) :
  (Code.loop c).wp P Q { tmps := l.toArray, defers := ds0 } w := by
 refine wp_loop_ghost_k (fun gk a wr => ∃ ds u, rel gk ds u wr ∧ a = { tmps := fr u, defers := ds }) n0 ⟨ds0, nthV l, h0, by rw [hfr]⟩ ?_;intro gk a wr hinv J K hJ hK;obtain ⟨ds, u, hrel, rfl⟩ := hinv;exact round gk ds u wr hrel J K (fun k ds' l' w' e h => hJ k _ _ ⟨ds', nthV l', h, by rw [e]⟩) hK
end Go.Proofs.YtelpdjhkedhppaaGreatDoor
/- A loop over a function that writes a box of its own (strings.Lines), in a plain walk. -/
namespace Go.Proofs.YtelpdjhkedhppaaGreatDoor
open Go.RowKit
def SeqW {α : Type} (P : Program) (gf : Nat) (lb : Array Value) (encs : α → Array Value) (T : Nat → Prop) (B : Nat) (S : List α → Prop) (N : Nat) (w : World) : Prop :=
 ∀ (l : Nat) (J : List α → World → Prop) (W : World), Below w.heap.size w W → (∀ pre X Y, J pre X → Mod (· = B) X Y → J pre Y) →
  (∀ pre x W1, J pre W1 → pre.length < N → YieldAt Fence.wide 7 P l (encs x) W1 fun e W' => e = .returned (.bool true) ∧ J (pre ++ [x]) W' ∧ Mod T W1 W') →
  J [] W → CallsIn Fence.wide 8 P gf (#[.func (.yield l) #[] #[]] ++ lb) W fun e W' => (∃ v, e = .returned v) ∧ ∃ xs, S xs ∧ J xs W'
theorem wp_rangeFuncW {α : Type} {P : Program} {g : Operand} {ps : Array Tmp} {assign body : Code} {Q : Exit → Act → World → Prop} {a : Act} {w : World} {gf : Nat} {lb : Array Value} (hg : a.eval g = .func (.func gf) #[] lb) (eg : ∀ args w, (callFunc gf args).run P w = .ok (.enter gf args) w)
  {encs : α → Array Value} {S : List α → Prop} {N : Nat} (T : Nat → Prop) (B : Nat) (hB : B < w.heap.size) (hseq : SeqW P gf lb encs (fun k => w.heap.size ≤ k ∨ T k) B S N w) (hps : ∀ x, (encs x).size = ps.size)
  (I : List α → World → Prop) (hI : ∀ xs X Y, I xs X → Books w.heap.size X Y → I xs Y) (hIB : ∀ xs X Y, I xs X → Mod (· = B) X Y → I xs Y) (h0 : I [] w)
  (hround : ∀ (l : Nat) (pre : List α) (x : α) (W : World) (K : Act → World → Prop), I pre W → (∀ a', (∀ (l' : Nat) (pre' : List α) (W' : World), I pre' W' → pre'.length < N → body.wpIn (Fence.wide.inRound l') 7 P (RndPost T w.heap.size I (pre' ++ [x]) W') a' W') → K a' W) →
   assign.wpIn (Fence.wide.inRound l) 7 P (Exit.then K (fun _ _ _ => False)) { tmps := (ps.zip (encs x)).foldl (fun t (p, v) => t.setIfInBounds p v) a.tmps, defers := [] } W)
  (hdone : ∀ (D : Nat) (xs : List α) (W : World), w.heap.size ≤ D → S xs → I xs W → W.heap[D]? = some (.deferred (some [])) → Q .normal { a with defers := { target := .collected D, args := #[] } :: a.defers } W) :
  (Code.rangeFunc g ps assign body).wp P Q a w := by
 refine (wpIn_wide (n := 9)).1 (wpIn_rangeFunc ?_);intro fn hfn;obtain ⟨rec, hrec⟩ : ∃ rec : LoopState → Option Code → Loop, rec = fun st pe => { state := st, pending := pe, fn, tmps := a.tmps, params := ps, assign, body, defers := w.heap.size } := ⟨_, rfl⟩;obtain ⟨W1, hW1⟩ : ∃ W1, (w.alloc (.deferred (some []))).alloc (.loop (rec .ready none)) = W1 := ⟨_, rfl⟩
 have hL1 : W1.heap[w.heap.size + 1]? = some (.loop (rec .ready none)) := by
  rw [← hW1];have := World.alloc_heap_new (w.alloc (.deferred (some []))) (.loop (rec .ready none))
  rwa [World.size_alloc] at this
 have hb1 : Below w.heap.size w W1 := by
  rw [← hW1];exact ((Below.refl _ w).alloc (Nat.le_refl _) _).alloc (by simp) _
 have hK1 : W1.heap[w.heap.size]? = some (.deferred (some [])) := by
  rw [← hW1];exact (Below.heap_alloc _ _ _ (by simp)).trans (World.alloc_heap_new w _)
 have hbk : ∀ (X : World) (o : Obj), Books w.heap.size X (X.alloc o) := fun X o => ⟨none, World.grownBy_alloc X o none, fun r e => by cases e⟩
 have hI1 : I [] W1 := by rw [← hW1]; exact hI _ _ _ (hI _ _ _ h0 (hbk _ _)) (hbk _ _)
 have hput : ∀ (X : World) (o : Obj) (xs : List α), X.heap[w.heap.size + 1]? = some o → o.isCells = false → ∀ o', I xs X → I xs (X.putObj (w.heap.size + 1) o') := fun X o xs ho hc o' hi =>
  hI _ _ _ hi ⟨some (w.heap.size + 1), grownBy_putObj' X _ o', fun r e => by injection e with e; subst e; exact ⟨by omega, o, ho, hc⟩⟩
 have hmp : ∀ (X : World) (o' : Obj), Mod (fun k => w.heap.size ≤ k ∨ T k) X (X.putObj (w.heap.size + 1) o') := fun X o' => by
  have hg := grownBy_putObj' X (w.heap.size + 1) o';exact ⟨hg.os, hg.tape, hg.output, hg.size, fun k hk hs => hg.block k hk (fun e => hs (by injection e with e; exact .inl (by omega)))⟩
 refine ⟨w.heap.size + 1, [{ target := .collected w.heap.size, args := #[] }], W1, { target := .fn (.func gf) lb, args := #[.func (.yield (w.heap.size + 1)) #[] #[]] }, W1, gf, #[.func (.yield (w.heap.size + 1)) #[] #[]] ++ lb, W1, ?_, ?_, ?_, ?_, fun _ => by omega, ?_⟩
 ·rw [← hW1, hrec];exact run_enterLoop_outer _ _ _ _ _
 ·simp only [resolve, hg];simp [go_sem]
 ·intro f' hf'
  trivial
 ·simp [invoke, go_sem, eg]
 refine (hseq (w.heap.size + 1) (fun pre W => I pre W ∧ W.heap[w.heap.size + 1]? = some (.loop (rec .ready none)) ∧ W.heap[w.heap.size]? = some (.deferred (some []))) W1 hb1 (fun pre X Y hx hm => ?_) ?_ ⟨hI1, hL1, hK1⟩).mono ?_
 ·have e1 : w.heap.size + 1 < X.heap.size := (Array.getElem?_eq_some_iff.1 hx.2.1).1;exact ⟨hIB _ _ _ hx.1 hm, (hm.block _ e1 (by omega)).trans hx.2.1, (hm.block _ (by omega) (by omega)).trans hx.2.2⟩
 ·rintro pre x W ⟨hi, hl, hk⟩ hlen;have hlt : w.heap.size + 1 < W.heap.size := (Array.getElem?_eq_some_iff.1 hl).1;have hy := run_yield (P := P) (args := encs x) hl (by rw [hrec]; exact hps x);rw [hrec] at hy;refine ⟨fn, _, assign, body, hy, roundIn_of_wpIn hfn (hround _ pre x W _ hi ?_)⟩;intro a' ha;refine ⟨_, run_beginRound hl (by rw [hrec]), ?_⟩;have hl2 : (W.putObj (w.heap.size + 1) (.loop { rec .ready none with state := .busy })).heap[w.heap.size + 1]? = some (.loop { rec .ready none with state := .busy }) := World.putObj_heap_same hlt;have hk2 : (W.putObj (w.heap.size + 1) (.loop { rec .ready none with state := .busy })).heap[w.heap.size]? = some (.deferred (some [])) := (World.putObj_heap_other (by omega)).trans hk;refine wpIn_mono (ha _ pre _ (hput _ _ _ hl rfl _ hi) hlen) ?_;rintro e a3 W3 ⟨rfl, hm3, hi3⟩
  have hz3 : w.heap.size + 1 < (W.putObj (w.heap.size + 1) (.loop { rec .ready none with state := .busy })).heap.size := by simpa using hlt
  have hl3 := (hm3.block _ hz3 (fun h => by have := h.2; omega)).trans hl2;have hk3 := (hm3.block w.heap.size (Nat.lt_trans (Nat.lt_succ_self _) hz3) (fun h => by have := h.2; omega)).trans hk2;have hr := run_endRound (P := P) none hl3;rw [hrec] at hr;refine ⟨_, _, hr, rfl, ⟨hput _ _ _ hl3 rfl _ hi3, ?_, ?_⟩, ?_⟩
  ·rw [hrec];exact World.putObj_heap_same (Array.getElem?_eq_some_iff.1 hl3).1
  ·exact (World.putObj_heap_other (by omega)).trans hk3
  ·exact ((hmp W _).trans (hm3.mono (fun k h => .inr h.1))).trans (hmp W3 _)
 ·rintro e W2 ⟨⟨v, rfl⟩, xs, hS, hi, hl, hk⟩;have hr := run_endLoop (P := P) hl (by rw [hrec]; simp);rw [hrec] at hr;exact ⟨none, _, hr, hdone _ xs _ (Nat.le_refl _) hS (hput _ _ _ hl rfl _ hi) ((World.putObj_heap_other (by omega)).trans hk)⟩
end Go.Proofs.YtelpdjhkedhppaaGreatDoor
