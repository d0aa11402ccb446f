/- Texts of the proof of DeskHands, put together: MapR. -/
import Derived.Test.YtgfgggeeoeppjaaGreatDoorDeskHandsZ15
import Derived.Maps.RangeWalk
import Derived.Sort.OwnSorted
import Derived.Sort.KeysCollected
set_option linter.unusedVariables false
set_option linter.unusedSimpArgs false
/- Ranging over a map keyed by strings, in whatever order. -/
namespace Go.Proofs.YtgfgggeeoeppjaaGreatDoor
open Go.RowKit Go.Maps
def MapRg (w : World) (b r : Nat) (f : Str → Option Value) (left : Str → Bool) (cnt : Nat) : Prop :=
 ∃ (n : Nat) (D : DataW Value) (lf : Lit → Bool), w.ranges Tryz.prog 9 rawE b r n D lf cnt ∧ (∀ s z, D.atKey (.string s) z = ((f s).map DataW.held).getD z) ∧ (∀ s, Maps.has D (.string s) = (f s).isSome) ∧ ∀ s, lf (.string s) = left s
section
variable {w w' : World} {b r n cnt : Nat} {f : Str → Option Value} {left : Str → Bool}
theorem MapRg.mod {S : Nat → Prop} (h : MapRg w b r f left cnt) (hm : Mod S w w') (hb : ¬ S b) (hr : ¬ S r) : MapRg w' b r f left cnt := by
 obtain ⟨n, D, lf, h1, h2⟩ := h;have hbl := h1.owns.lt;have hrl := h1.lt;obtain ⟨es, clock, since, seen, c0, e1, F, e2, e3, e4, rest⟩ := h1;exact ⟨n, D, lf, ⟨es, clock, since, seen, c0, (hm.block b hbl hb).trans e1, F, e2, e3, (hm.block r hrl hr).trans e4, rest⟩, h2⟩
theorem MapRg.pure (h : MapRg w b r f left cnt) (hm : Pure w w') : MapRg w' b r f left cnt := h.mod hm id id
theorem MapRg.lt (h : MapRg w b r f left cnt) : b < w.heap.size ∧ r < w.heap.size := by
 obtain ⟨n, D, lf, h1, _⟩ := h;exact ⟨h1.owns.lt, h1.lt⟩
theorem MapRg.ne (h : MapRg w b r f left cnt) : r ≠ b := by
 obtain ⟨n, D, lf, h1, _⟩ := h;exact h1.ne
theorem MapRg.s (h : MapRg w b r f left cnt) : ∃ n, MapS w b n f := by
 obtain ⟨n, D, lf, h1, h2, h3, _⟩ := h;exact ⟨n, D, h1.owns, h2, h3⟩
theorem MapRg.iter (h : MapRg w b r f left cnt) : (∀ cs t fr, w.heap[r]? ≠ some (.cells cs t fr)) ∧ (∀ es c, w.heap[r]? ≠ some (.map es c)) ∧ ∃ es c, w.heap[b]? = some (.map es c) := by
 obtain ⟨n, D, lf, h1, _⟩ := h;obtain ⟨es, clock, since, seen, c0, e1, F, e2, e3, e4, rest⟩ := h1;refine ⟨fun cs t fr e => ?_, fun es c e => ?_, es, clock, e1⟩
 ·rw [e4] at e; cases e
 ·rw [e4] at e; cases e
theorem MapS.range {t e : TypeId} (h : MapS w b n f) (ht : Tryz.prog.underlying t = some (.map 9 e)) :
  ∃ (w' : World) (m : Nat), (Instr.range t (.map (some b))).run Tryz.prog w = .ok (.pointer (some ⟨w.heap.size, 0, none⟩)) w' ∧ MapRg w' b w.heap.size f (fun s => (f s).isSome) m ∧ m ≤ n ∧ Pure w w' ∧ w'.heap.size = w.heap.size + 1 := by
 obtain ⟨D, h1, h2, h3⟩ := h;obtain ⟨w', hr, hrg, hg, hs⟩ := h1.range strKey ht;exact ⟨w', Maps.size D, hr, ⟨n, D, Maps.has D, hrg, h2, h3, fun s => h3 s⟩, h1.size_le, ⟨hg.os, hg.tape, hg.output, hg.size, fun k hk _ => hg.block k hk (by simp)⟩, hs⟩
theorem MapRg.next (h : MapRg w b r f left cnt) :
  (cnt = 0 ∧ (∀ s, left s = false) ∧ ∀ ty, (Instr.next (.pointer (some ⟨r, 0, none⟩)) false ty).run Tryz.prog w = .ok (.tuple #[.bool false]) w) ∨
  ∃ (s : Str) (v : Value) (w' : World) (cnt' : Nat), left s = true ∧ f s = some v ∧ (∀ ty, (Instr.next (.pointer (some ⟨r, 0, none⟩)) false ty).run Tryz.prog w = .ok (.tuple #[.bool true, .string ⟨s.toArray⟩, v]) w') ∧
   MapRg w' b r f (fun x => left x && !decide (x = s)) cnt' ∧ cnt' < cnt ∧ Mod (· = r) w w' ∧ w'.heap.size = w.heap.size ∧ (Instr.entry (.pointer (some ⟨r, 0, none⟩))).run Tryz.prog w' = .ok (.tuple #[.string ⟨s.toArray⟩, v]) w' := by
 obtain ⟨n, D, lf, h1, h2, h3, h4⟩ := h
 rcases h1.next strKey 0 with ⟨h0, hl, hrun⟩ | ⟨key, v, kl, y, w', cnt', hkey, hlk, hv, hat, hrun, hrg, hlt, hgr, hsz, hen⟩
 ·exact .inl ⟨h0, fun s => by rw [← h4 s]; exact hl _, fun ty => hrun⟩
 ·obtain ⟨x, rfl, rfl, _⟩ := Maps.keyOf_str Tryz.underlying9 hkey;refine .inr ⟨x, v, w', cnt', by rw [← h4]; exact hlk, ?_, fun ty => hrun, ⟨n, D, _, hrg, h2, h3, fun s => ?_⟩, hlt, ⟨hgr.os, hgr.tape, hgr.output, hgr.size, fun k hk hs => hgr.block k hk (fun e => hs (by injection e))⟩, hsz, hen⟩
  ·obtain rfl : y = (.held v, []) := by simpa [rawE] using hv.symm
   have h5 := hat (.map []);rw [h2] at h5
   cases hf : f x with
   | none => rw [hf] at h5; simp at h5
   | some u => rw [hf] at h5; simp at h5; rw [h5]
  ·show (lf (.string s) && !(Lit.string s).sameKey (.string x)) = _
   rw [h4 s]
   by_cases hx : s = x
   ·subst hx;rw [WideAt.sameKey_self (by trivial)];simp
   ·rw [Maps.sameKey_ne (by simpa using hx)];simp [hx]
end
theorem MapS.look_ok {w : World} {b n : Nat} {f : Str → Option Value} {t e : TypeId} (h : MapS w b n f) (ht : Tryz.prog.underlying t = some (.map 9 e)) {z : Value} (hz : ∀ W, (zeroValue e).run Tryz.prog W = .ok z W) (s : Str) (hs : s.length ≤ 1000000) :
  (Instr.lookup t (.map (some b)) (.string ⟨s.toArray⟩) true).run Tryz.prog w = .ok (.tuple #[(f s).getD z, .bool (f s).isSome]) w := by
 obtain ⟨D, h1, h2, h3⟩ := h;obtain ⟨es2, clock, hb, F, hs2, hD2⟩ := h1
 have hsz : es2.size ≤ Maps.size D := by
  have := congrArg Maps.size hD2;simp only [Maps.size, length_sorted, List.length_map, Array.length_toList] at this ⊢
  omega
 exact MapX.look_ok (n := Maps.size D) ⟨D, ⟨es2, clock, hb, F, hsz, hD2⟩, h2, h3, rfl⟩ ht hz s hs
theorem MapS.exact {w : World} {b n : Nat} {f : Str → Option Value} (h : MapS w b n f) {K : List Str} (hn : K.Nodup) (hK : ∀ x, x ∈ K ↔ (f x).isSome = true) : MapX w b K.length f := by
 obtain ⟨D, h1, h2, h3⟩ := h;obtain ⟨es, hD, hpw, _⟩ := h1.entries strKey;obtain ⟨es', hD', hko⟩ := h1.keysOf
 obtain rfl : es = es' := by rw [hD] at hD'; simpa using hD'
 subst hD;have hp : K.Perm (strKeys (.map es)) := perm_strKeys hpw (fun p hp => by obtain ⟨v, hv⟩ := hko p hp; obtain ⟨x, _, hx, _⟩ := Maps.keyOf_str Tryz.underlying9 hv; exact ⟨x, hx⟩) hn (fun x => by rw [hK x, h3 x])
 have hl : Maps.size (DataW.map es) = K.length := by rw [hp.length_eq]; simp [Maps.size, strKeys]
 obtain ⟨es2, clock, hb, F, hs, hD2⟩ := h1
 have hsz : es2.size ≤ K.length := by
  rw [← hl];have := congrArg Maps.size hD2;simp only [Maps.size, length_sorted, List.length_map, Array.length_toList] at this ⊢
  omega
 exact ⟨.map es, ⟨es2, clock, hb, F, hsz, hD2⟩, h2, h3, hl⟩
end Go.Proofs.YtgfgggeeoeppjaaGreatDoor
