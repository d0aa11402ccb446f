/- Texts of the proof of GroupFamilies, put together: GrqE. -/
import Derived.Test.YtgfgggeeoeppjaaGreatDoorGroupFamiliesZ23
import Derived.WideKeyEntry
set_option linter.unusedVariables false
set_option linter.unusedSimpArgs false
set_option maxRecDepth 100000
/- An entry of a map keyed by pairs that is looked up, and stored later. -/
namespace Go.Proofs.YtgfgggeeoeppjaaGreatDoor
open Go.RowKit
theorem pw_eq : ∀ {l : List MapEntry}, l.Pairwise (fun x y => x.key ≠ y.key) → ∀ {a b : MapEntry}, a ∈ l → b ∈ l → a.key = b.key → a = b
 | [], _, a, b, ha, _, _ => absurd ha (by simp)
 | x :: l, h, a, b, ha, hb, e => by
  obtain ⟨h1, h2⟩ := List.pairwise_cons.1 h
  rcases List.mem_cons.1 ha with rfl | ha
  ·rcases List.mem_cons.1 hb with rfl | hb
   ·rfl
   ·exact absurd e (h1 b hb)
  ·rcases List.mem_cons.1 hb with hb | hb
   ·rw [hb] at e;exact absurd e.symm (h1 a ha)
   ·exact pw_eq h2 ha hb e
theorem pkLaw : WideMaps.KeyLaw Tryz.prog 122 := deep_law_laid laidOutG (m := 2) (by omega) rowPk (by kernel_rfl) widePk
theorem mod_setBlock (w : World) (b : Nat) (o : Obj) : Mod (· = b) w (ChangeMaps.setBlock w b o) := by
 refine ⟨rfl, rfl, rfl, by simp [ChangeMaps.setBlock], fun k _ hk => ?_⟩;simp [ChangeMaps.setBlock, Array.getElem?_setIfInBounds_ne (fun e => hk e.symm)]
theorem MapP.of_block {w w' : World} {b n : Nat} {f : Pk → Option Value} (h : MapP w b n f) (hb : w'.heap[b]? = w.heap[b]?) : MapP w' b n f := by
 obtain ⟨D, ⟨es, clock, h1, F, hz, hD⟩, h2⟩ := h;exact ⟨D, ⟨es, clock, hb.trans h1, F, hz, hD⟩, h2⟩
def EntP (w : World) (b n : Nat) (t : TypeId) (st : Int) (p : Pk) (f : Pk → Option Value) : Prop :=
 ∀ (w2 : World) (val : Value), w2.heap[b]? = w.heap[b]? → ∃ w', (Instr.entryStore t (.map (some b)) (goInt st) val).run Tryz.prog w2 = .ok () w' ∧ MapP w' b (n + 1) (fun x => if x = p then some val else f x) ∧ Mod (· = b) w2 w'
theorem MapP.entry {w : World} {b n : Nat} {f : Pk → Option Value} {t e : TypeId} (h : MapP w b n f) (ht : Tryz.prog.underlying t = some (.map 122 e)) {z : Value} (hz : ∀ W, (zeroValue e).run Tryz.prog W = .ok z W) (hn : n ≤ 1000000000) (p : Pk) (hp : pkOk p) :
  ∃ (st : Int) (w1 : World), (Instr.mapEntry t (.map (some b)) (pkV p)).run Tryz.prog w = .ok (.tuple #[(f p).getD z, goInt st]) w1 ∧ Mod (· = b) w w1 ∧ EntP w1 b n t st p f := by
 have hl := h.lookup ht hz p hp;have hst := fun val => h.store ht hn p hp val;obtain ⟨D, ⟨es, clock, hb, F, hzz, hD⟩, h2⟩ := h;obtain ⟨v0, st, es1, clock1, r1, r2, r3⟩ := WideElems.entry_then_store pkLaw ht hz hb F (keyPk p hp)
 have hv : v0 = (f p).getD z := by
  have hpw : es.toList.Pairwise (fun x y => x.key ≠ y.key) := ((MapKept.stamped_iff es clock).1 F.stamped).2.2
  rcases Maps.fit_look false pkKey ht (hz w) hb F (keyPk p hp) with ⟨l1, l2, _⟩ | ⟨e0, y, l1, l2, l3, _⟩
  ·have l1 := hl.symm.trans l1;simp only [Bool.false_eq_true, if_false] at l1;have l1 := (Result.ok.inj l1).1
   rcases r2 with ⟨e1, m1, m2, _⟩ | ⟨_, m2⟩
   ·exact absurd m2 (l2 e1 m1)
   ·rw [m2, l1]
  ·have l3 := hl.symm.trans l3;simp only [Bool.false_eq_true, if_false] at l3;have l3 := (Result.ok.inj l3).1
   rcases r2 with ⟨e1, m1, m2, m3⟩ | ⟨m1, _⟩
   ·rw [m3, l3, pw_eq hpw m1 l1 (m2.trans l2.symm)]
   ·exact absurd l2 (m1 e0 l1)
 refine ⟨st, _, by rw [← hv]; exact r1, mod_setBlock _ _ _, fun w2 val hw2 => ?_⟩;have hbl : b < w.heap.size := (Array.getElem?_eq_some_iff.1 hb).1
 have hb1 : (ChangeMaps.setBlock w b (.map es1 clock1)).heap[b]? = some (.map es1 clock1) := by simp [ChangeMaps.setBlock, hbl]
 obtain ⟨es', clock', s1, s2⟩ := r3 w2 val (hw2.trans hb1);obtain ⟨w', q1, q2, q3⟩ := hst val;rw [s2] at q1
 injection q1 with _ q1
 have hb2 : b < w2.heap.size := (Array.getElem?_eq_some_iff.1 (hw2.trans hb1)).1;refine ⟨_, s1, q2.of_block ?_, mod_setBlock _ _ _⟩;rw [← q1];simp [ChangeMaps.setBlock, hbl, hb2]
section
variable {w w' : World} {base bk n m : Nat} {V : Pk → Option Value} {F : Pk → List Str} {vt : Value} {ks : List Pk}
theorem GrpM.putE {wE w5 w6 : World} {N n' : Nat} {v5 : Value} {p : Pk} {id : Str} (h : GrpM w base bk n m V F vt ks) (hE : Mod (· = bk) w wE) (hg : wE.grownBy w5 ((V p).getD nilS).ownBlock) (hown : w5.ownsRow base 9 1 v5 n' (strsV (F p) ++ [.string ⟨id.toArray⟩]))
  (hat : v5.ownBlock = ((V p).getD nilS).ownBlock ∨ v5.ownBlock = some N) (hN : wE.heap.size ≤ N) (hM : MapP w6 bk (n + 1) (fun x => if x = p then some v5 else V x)) (hm : Mod (· = bk) w5 w6) :
  GrpM w6 base bk (n + 1) (m + 1) (fun x => if x = p then some v5 else V x) (fun x => if x = p then F p ++ [id] else F x) vt ks := by
 have hlt := h.lt;have hgm := grown_mod hg;have hev : ∀ {e : TypeId} {z k : Nat} {u : Value} {ys : List Value}, w.ownsRow base e z u k ys → wE.ownsRow base e z u k ys := fun hh => own_mod hh hE (fun g hgg => by have := own_block hh g hgg; omega)
 have e1 : strsV (F p) ++ [.string ⟨id.toArray⟩] = strsV (F p ++ [id]) := by simp [strsV]
 rw [e1] at hown
 have hn' : n' = (F p ++ [id]).length := by have := hown.1; rw [strsV_len] at this; omega
 subst hn'
 have hone : ∀ q u g, q ≠ p → V q = some u → ((V p).getD nilS).ownBlock = some g → u.ownBlock ≠ some g := by
  intro q u g hq hu hgp hug
  cases hp : V p with
  | none => rw [hp] at hgp; simp [Value.ownBlock] at hgp
  | some v => rw [hp] at hgp; exact h.apart p q v u g (Ne.symm hq) hp hu hgp hug
 have hnew : ∀ q u g, q ≠ p → V q = some u → v5.ownBlock = some g → u.ownBlock ≠ some g := by
  intro q u g hq hu hgp hug
  rcases hat with hat | hat
  ·rw [hat] at hgp; exact hone q u g hq hu hgp hug
  ·rw [hat] at hgp
   injection hgp with hgp
   have := own_lt (hev (h.own q u hu)) hug
   omega
 have hnb : ∀ {u : Value} {k : Nat} {ys : List Value}, w5.ownsRow base 9 1 u k ys → w6.ownsRow base 9 1 u k ys := fun hh => own_mod hh hm (fun g hgg => by have := own_block hh g hgg; omega);refine ⟨hM, fun q u hq => ?_, fun q hq => ?_, fun q u hq => ?_, fun a b u v g hab ha hb hu => ?_, ?_, hlt, fun q => ?_⟩
 ·by_cases e : q = p
  ·rw [if_pos e] at hq ⊢
   injection hq with hq
   rw [← hq];exact hnb hown
  ·rw [if_neg e] at hq ⊢;exact hnb (own_mod (hev (h.own q u hq)) hgm (fun g hgu hgp => hone q u g e hq hgp hgu))
 ·by_cases e : q = p
  ·rw [if_pos e] at hq; cases hq
  ·rw [if_neg e] at hq ⊢;exact h.none q hq
 ·by_cases e : q = p
  ·rw [if_pos e]; simp
  ·rw [if_neg e] at hq ⊢;exact h.pos q u hq
 ·by_cases ea : a = p
  ·rw [if_pos ea] at ha
   injection ha with ha
   by_cases eb : b = p
   ·exact absurd (ea.trans eb.symm) hab
   ·rw [if_neg eb] at hb;rw [← ha] at hu;exact hnew b v g eb hb hu
  ·rw [if_neg ea] at ha
   by_cases eb : b = p
   ·rw [if_pos eb] at hb
    injection hb with hb
    rw [← hb];intro hv;exact hnew a u g ea ha hv hu
   ·rw [if_neg eb] at hb;exact h.apart a b u v g hab ha hb hu
 ·have h1 := own_grown (hev h.tops) (hev (h.at_ p)) (by decide) hg;exact own_mod h1 hm (fun g hgg => by have := own_block h1 g hgg; omega)
 ·by_cases e : q = p
  ·rw [if_pos e];have := h.few p;simp
   omega
  ·rw [if_neg e];have := h.few q
   omega
theorem GrpM.atE {wE : World} (h : GrpM w base bk n m V F vt ks) (hE : Mod (· = bk) w wE) (p : Pk) : wE.ownsRow base 9 1 ((V p).getD nilS) (F p).length (strsV (F p)) := by
 have hlt := h.lt;exact own_mod (h.at_ p) hE (fun g hgg => by have := own_block (h.at_ p) g hgg; omega)
end
theorem info_sam : (Tryz.prog.info? 122).map (fun i => (i.zero, i.size, i.bytes)) = some (some (.agg #[.string ⟨#[]⟩, .string ⟨#[]⟩]), 2, 32) := by kernel_rfl
end Go.Proofs.YtgfgggeeoeppjaaGreatDoor
