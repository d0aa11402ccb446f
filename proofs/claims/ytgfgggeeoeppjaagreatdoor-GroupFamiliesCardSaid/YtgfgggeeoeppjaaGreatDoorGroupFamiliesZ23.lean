/- Texts of the proof of GroupFamilies, put together: GrqM. -/
import Derived.Test.YtgfgggeeoeppjaaGreatDoorGroupFamiliesZ6
import Derived.Test.YtgfgggeeoeppjaaGreatDoorGroupFamiliesZ10
import Derived.Test.YtgfgggeeoeppjaaGreatDoorGroupFamiliesZ20
import Derived.DeepKeys4
import Derived.ChangeKeys
set_option linter.unusedVariables false
set_option linter.unusedSimpArgs false
set_option maxRecDepth 100000
/- Maps keyed by pairs of strings (package intake, sameness), and the rows they lead to. -/
namespace Go.Proofs.YtgfgggeeoeppjaaGreatDoor
open Go.RowKit
abbrev Pk := Str × Str
def pkV (p : Pk) : Value := .agg #[.string ⟨p.1.toArray⟩, .string ⟨p.2.toArray⟩]
def pkL (p : Pk) : Lit := .string (keyBytes [.string p.1, .string p.2])
def pkOk (p : Pk) : Prop := p.1.length ≤ 1000000 ∧ p.2.length ≤ 1000000
theorem pkL_inj {p q : Pk} (hp : pkOk p) (hq : pkOk q) (h : pkL p = pkL q) : p = q := by
 unfold pkL at h
 injection h with h
 have hw : ∀ x : Pk, pkOk x → ∀ a ∈ [Lit.string x.1, Lit.string x.2], a.keyWf := by
  intro x hx a ha;simp only [List.mem_cons, List.not_mem_nil, or_false] at ha
  rcases ha with rfl | rfl
  ·show x.1.length ≤ maxLen
   have := hx.1;simp [maxLen]
   omega
  ·show x.2.length ≤ maxLen
   have := hx.2;simp [maxLen]
   omega
 have := keyBytes_inj (l := [Lit.string p.1, Lit.string p.2]) (l' := [Lit.string q.1, Lit.string q.2]) ⟨trivial, trivial, trivial⟩ (hw p hp) (hw q hq) h;simp at this;exact Prod.ext this.1 this.2
theorem laidOutG : laidOutB Tryz.prog = true := by kernel_rfl
theorem rowPk : 122 < Tryz.prog.types.size := of_decide_eq_true (by kernel_rfl)
theorem widePk : (match Tryz.prog.underlying 122 with | some (.array _ _) | some (.struct _) => true | _ => false) = true := by kernel_rfl
theorem pkKey : Maps.Keyed Tryz.prog 122 := Maps.Keyed.of_law (deep_law_laid laidOutG (m := 2) (by omega) rowPk (by kernel_rfl) widePk)
theorem keyTypePk : Tryz.prog.keyType 122 = true := by kernel_rfl
theorem cellsPk : Tryz.prog.cellsOf 122 = 2 := by kernel_rfl
theorem cellsPk0 : Tryz.prog.cellsOf 9 = 1 := by kernel_rfl
theorem typesPk : ∃ m, Tryz.prog.types.size = m + 1 := ⟨Tryz.prog.types.size - 1, by have h : 0 < Tryz.prog.types.size := Nat.lt_of_le_of_lt (Nat.zero_le _) rowPk; omega⟩
theorem keyPk (p : Pk) (h : pkOk p) : keyOf Tryz.prog 122 (pkV p) = some (pkL p) := by
 obtain ⟨m, hm⟩ := typesPk
 have h1 : (⟨p.1.toArray⟩ : ByteArray).size ≤ maxLen := by have := h.1; simp [ByteArray.size, maxLen]; omega
 have h2 : (⟨p.2.toArray⟩ : ByteArray).size ≤ maxLen := by have := h.2; simp [ByteArray.size, maxLen]; omega
 unfold keyOf pkV pkL;simp only [Tryz.underlying122];rw [if_pos (by simp [keyTypePk, Value.formed, Tryz.underlying122, cellsPk]), hm];unfold Program.keyLits;simp only [Tryz.underlying122, Value.cells];simp [cellsPk, cellsPk0, Program.keyLits, Tryz.underlying9, h1, h2]
def MapP (w : World) (b n : Nat) (f : Pk → Option Value) : Prop :=
 ∃ D : DataW Value, w.ownsMap Tryz.prog 122 rawE b n D ∧ ∀ p z, pkOk p → D.atKey (pkL p) z = ((f p).map DataW.held).getD z
section
variable {w w' : World} {b n : Nat} {f : Pk → Option Value}
theorem MapP.lt (h : MapP w b n f) : b < w.heap.size := by
 obtain ⟨D, h1, _⟩ := h;exact h1.lt
theorem MapP.made (w : World) : MapP (w.alloc (.map #[] 0)) w.heap.size 0 (fun _ => none) := ⟨.map [], World.ownsMap_made _ _ _ _, fun p z _ => rfl⟩
theorem MapP.mod {S : Nat → Prop} (h : MapP w b n f) (hm : Mod S w w') (hs : ¬ S b) : MapP w' b n f := by
 obtain ⟨D, h1, h2⟩ := h;have hlt := h1.lt;obtain ⟨es, clock, hb, F, hz, hD⟩ := h1;exact ⟨D, ⟨es, clock, (hm.block b hlt hs).trans hb, F, hz, hD⟩, h2⟩
theorem MapP.pure (h : MapP w b n f) (hm : Pure w w') : MapP w' b n f := h.mod hm id
theorem MapP.lookup {t e : TypeId} (h : MapP w b n f) (ht : Tryz.prog.underlying t = some (.map 122 e)) {z : Value} (hz : ∀ W, (zeroValue e).run Tryz.prog W = .ok z W) (p : Pk) (hp : pkOk p) :
  (Instr.lookup t (.map (some b)) (pkV p) false).run Tryz.prog w = .ok ((f p).getD z) w := by
 obtain ⟨D, h1, h2⟩ := h;obtain ⟨v, ps, hr, hv⟩ := h1.lookup pkKey ht (hz w) (zd := .held z) (zp := []) rfl (keyPk p hp);rw [hr];unfold rawE at hv;rw [h2 p (.held z) hp] at hv;simp only [Option.some.injEq, Prod.mk.injEq] at hv;have h3 := hv.1
 cases hf : f p with
 | none =>
  rw [hf] at h3;simp at h3;rw [h3]
  rfl
 | some u =>
  rw [hf] at h3;simp at h3;rw [h3]
  rfl
theorem pkL_key (p : Pk) : WideAt.IsKeyLit (pkL p) := trivial
theorem MapP.store {t e : TypeId} (h : MapP w b n f) (ht : Tryz.prog.underlying t = some (.map 122 e)) (hn : n ≤ 1000000000) (p : Pk) (hp : pkOk p) (v : Value) :
  ∃ w', (Instr.mapUpdate t (.map (some b)) (pkV p) v).run Tryz.prog w = .ok () w' ∧ MapP w' b (n + 1) (fun x => if x = p then some v else f x) ∧ Mod (· = b) w w' := by
 obtain ⟨D, h1, h2⟩ := h;have him := h1.isMap;obtain ⟨w', hr, hm, hg⟩ := h1.update pkKey ht (by simp [maxLen]; omega) (keyPk p hp) (val := v) (d := .held v) (ps := []) rfl;refine ⟨w', hr, ⟨_, hm, fun x z hxo => ?_⟩, ⟨hg.os, hg.tape, hg.output, hg.size, fun k hk hs => hg.block k hk (fun x => hs (by injection x))⟩⟩
 by_cases hx : x = p
 ·subst hx;rw [Maps.atKey_put_same him (pkL_key _)];simp
 ·rw [Maps.atKey_put_other (by intro he; first | exact hx (pkL_inj hxo hp he) | exact hx (pkL_inj hxo hp he.symm)), h2 x z hxo];simp [hx]
end
def pksV (xs : List Pk) : List Value := xs.flatMap fun p => [.string ⟨p.1.toArray⟩, .string ⟨p.2.toArray⟩]
theorem pksV_get : ∀ (xs : List Pk) (i : Nat) (h : i < xs.length), (pksV xs)[i * 2]? = some (.string ⟨xs[i].1.toArray⟩) ∧ (pksV xs)[i * 2 + 1]? = some (.string ⟨xs[i].2.toArray⟩)
 | [], i, h => absurd h (by simp)
 | x :: xs, 0, h => by simp [pksV]
 | x :: xs, i + 1, h => by
  have := pksV_get xs i (by simpa using h)
  have e : (i + 1) * 2 = i * 2 + 1 + 1 := by omega
  simp only [pksV, List.flatMap_cons, List.cons_append, List.nil_append, e, List.getElem?_cons_succ, List.getElem_cons_succ];exact this
theorem pksV_snoc (xs : List Pk) (p : Pk) : pksV (xs ++ [p]) = pksV xs ++ [.string ⟨p.1.toArray⟩, .string ⟨p.2.toArray⟩] := by simp [pksV]
structure GrpM (w : World) (base bk n m : Nat) (V : Pk → Option Value) (F : Pk → List Str) (vt : Value) (ks : List Pk) : Prop where
 map : MapP w bk n V
 own : ∀ p u, V p = some u → w.ownsRow base 9 1 u (F p).length (strsV (F p))
 none : ∀ p, V p = none → F p = []
 pos : ∀ p u, V p = some u → F p ≠ []
 apart : ∀ p q u v g, p ≠ q → V p = some u → V q = some v → u.ownBlock = some g → v.ownBlock ≠ some g
 tops : w.ownsRow base 122 2 vt ks.length (pksV ks)
 lt : bk < base
 few : ∀ p, (F p).length ≤ m
section
variable {w w' : World} {base bk n m : Nat} {V : Pk → Option Value} {F : Pk → List Str} {vt : Value} {ks : List Pk}
theorem GrpM.pure (h : GrpM w base bk n m V F vt ks) (hm : Pure w w') : GrpM w' base bk n m V F vt ks :=
 ⟨h.map.pure hm, fun p u hp => own_pure (h.own p u hp) hm, h.none, h.pos, h.apart, own_pure h.tops hm, h.lt, h.few⟩
theorem GrpM.at_ (h : GrpM w base bk n m V F vt ks) (p : Pk) : w.ownsRow base 9 1 ((V p).getD nilS) (F p).length (strsV (F p)) := by
 cases hp : V p with
 | none => rw [h.none p hp]; exact ⟨rfl, .inl ⟨rfl, rfl⟩⟩
 | some u => exact h.own p u hp
theorem GrpM.form (h : GrpM w base bk n m V F vt ks) (p : Pk) : ∃ A c, (V p).getD nilS = .slice A (F p).length c ∧ (F p = [] → A = Option.none ∧ c = 0) ∧ (F p ≠ [] → ∃ g, A = some ⟨g, 0, Option.none⟩) := by
 cases hp : V p with
 | none => rw [h.none p hp]; exact ⟨Option.none, 0, rfl, fun _ => ⟨rfl, rfl⟩, fun hh => absurd rfl hh⟩
 | some u =>
  have hne := h.pos p u hp;have ho := h.own p u hp;obtain ⟨g, c, hv, _⟩ := own_form ho (by cases hF : F p with | nil => exact absurd hF hne | cons a t => simp);exact ⟨some ⟨g, 0, Option.none⟩, c, hv, fun hh => absurd hh hne, fun _ => ⟨g, rfl⟩⟩
theorem GrpM.put {w5 w6 : World} {N n' : Nat} {v5 : Value} {p : Pk} {id : Str} (h : GrpM w base bk n m V F vt ks) (hg : w.grownBy w5 ((V p).getD nilS).ownBlock) (hown : w5.ownsRow base 9 1 v5 n' (strsV (F p) ++ [.string ⟨id.toArray⟩]))
  (hat : v5.ownBlock = ((V p).getD nilS).ownBlock ∨ v5.ownBlock = some N) (hN : w.heap.size ≤ N) (hM : MapP w6 bk (n + 1) (fun x => if x = p then some v5 else V x)) (hm : Mod (· = bk) w5 w6) :
  GrpM w6 base bk (n + 1) (m + 1) (fun x => if x = p then some v5 else V x) (fun x => if x = p then F p ++ [id] else F x) vt ks := by
 have hlt := h.lt;have hgm := grown_mod hg
 have e1 : strsV (F p) ++ [.string ⟨id.toArray⟩] = strsV (F p ++ [id]) := by simp [strsV]
 rw [e1] at hown
 have hn' : n' = (F p ++ [id]).length := by have := hown.1; rw [strsV_len] at this; omega
 subst hn'
 have hone : ∀ q u g, q ≠ p → V q = some u → ((V p).getD nilS).ownBlock = some g → u.ownBlock ≠ some g := by
  intro q u g hq hu hgp hug
  cases hp : V p with
  | none => rw [hp] at hgp; simp [Value.ownBlock] at hgp
  | some v => rw [hp] at hgp; exact h.apart p q v u g (Ne.symm hq) hp hu hgp hug
 have hnew : ∀ q u g, q ≠ p → V q = some u → v5.ownBlock = some g → u.ownBlock ≠ some g := by
  intro q u g hq hu hgp hug
  rcases hat with hat | hat
  ·rw [hat] at hgp; exact hone q u g hq hu hgp hug
  ·rw [hat] at hgp
   injection hgp with hgp
   have := own_lt (h.own q u hu) hug
   omega
 have hnb : ∀ {u : Value} {k : Nat} {ys : List Value}, w5.ownsRow base 9 1 u k ys → w6.ownsRow base 9 1 u k ys := fun hh => own_mod hh hm (fun g hgg => by have := own_block hh g hgg; omega);refine ⟨hM, fun q u hq => ?_, fun q hq => ?_, fun q u hq => ?_, fun a b u v g hab ha hb hu => ?_, ?_, hlt, fun q => ?_⟩
 ·by_cases e : q = p
  ·rw [if_pos e] at hq ⊢
   injection hq with hq
   rw [← hq];exact hnb hown
  ·rw [if_neg e] at hq ⊢;exact hnb (own_mod (h.own q u hq) hgm (fun g hgu hgp => hone q u g e hq hgp hgu))
 ·by_cases e : q = p
  ·rw [if_pos e] at hq; cases hq
  ·rw [if_neg e] at hq ⊢;exact h.none q hq
 ·by_cases e : q = p
  ·rw [if_pos e]; simp
  ·rw [if_neg e] at hq ⊢;exact h.pos q u hq
 ·by_cases ea : a = p
  ·rw [if_pos ea] at ha
   injection ha with ha
   by_cases eb : b = p
   ·exact absurd (ea.trans eb.symm) hab
   ·rw [if_neg eb] at hb;rw [← ha] at hu;exact hnew b v g eb hb hu
  ·rw [if_neg ea] at ha
   by_cases eb : b = p
   ·rw [if_pos eb] at hb
    injection hb with hb
    rw [← hb];intro hv;exact hnew a u g ea ha hv hu
   ·rw [if_neg eb] at hb;exact h.apart a b u v g hab ha hb hu
 ·have h1 := own_grown h.tops (h.at_ p) (by decide) hg;exact own_mod h1 hm (fun g hgg => by have := own_block h1 g hgg; omega)
 ·by_cases e : q = p
  ·rw [if_pos e];have := h.few p;simp
   omega
  ·rw [if_neg e];have := h.few q
   omega
theorem GrpM.top {w5 : World} {n' : Nat} {v5 : Value} {p : Pk} (h : GrpM w base bk n m V F vt ks) (hg : w.grownBy w5 vt.ownBlock) (hown : w5.ownsRow base 122 2 v5 n' (pksV ks ++ [.string ⟨p.1.toArray⟩, .string ⟨p.2.toArray⟩])) (hn' : n' = (ks ++ [p]).length) : GrpM w5 base bk n m V F v5 (ks ++ [p]) := by
 have hlt := h.lt;have hgm := grown_mod hg;subst hn';rw [← pksV_snoc] at hown;exact ⟨h.map.mod hgm (fun hb => by have := own_block h.tops bk hb; omega), fun q u hq => own_grown (h.own q u hq) h.tops (by decide) hg, h.none, h.pos, h.apart, hown, hlt, h.few⟩
end
def GrpPre (zw : World) (base bk n m : Nat) (V : Pk → Option Value) (F : Pk → List Str) (vt : Value) (ks : List Pk) (p : Pk) (id : Str) (v : Value) : Prop :=
 ∃ (W : World) (N n' : Nat), GrpM W base bk n m V F vt ks ∧ W.grownBy zw ((V p).getD nilS).ownBlock ∧ zw.ownsRow base 9 1 v n' (strsV (F p) ++ [.string ⟨id.toArray⟩]) ∧ (v.ownBlock = ((V p).getD nilS).ownBlock ∨ v.ownBlock = some N) ∧ W.heap.size ≤ N
def GrpEnd (zw : World) (base bk n m : Nat) (F : Pk → List Str) (vt : Value) (ks : List Pk) (p : Pk) (id : Str) : Prop :=
 ∃ V', GrpM zw base bk (n + 1) (m + 1) V' (fun x => if x = p then F p ++ [id] else F x) vt ks
section
variable {W zw zw' : World} {base bk n m : Nat} {V : Pk → Option Value} {F : Pk → List Str} {vt : Value} {ks : List Pk} {p : Pk} {id : Str} {v : Value}
theorem GrpPre.pure (h : GrpPre zw base bk n m V F vt ks p id v) (hm : Pure zw zw') : GrpPre zw' base bk n m V F vt ks p id v := by
 obtain ⟨W, N, n', h1, h2, h3, h4, h5⟩ := h;refine ⟨W, N, n', h1, ⟨hm.os.trans h2.os, hm.tape.trans h2.tape, hm.output.trans h2.output, Nat.le_trans h2.size hm.size, fun k hk hs => (hm.block k (Nat.lt_of_lt_of_le hk h2.size) (fun x => x)).trans (h2.block k hk hs)⟩, own_pure h3 hm, h4, h5⟩
theorem GrpEnd.pure (h : GrpEnd zw base bk n m F vt ks p id) (hm : Pure zw zw') : GrpEnd zw' base bk n m F vt ks p id := by
 obtain ⟨V', h⟩ := h;exact ⟨V', h.pure hm⟩
theorem GrpPre.store (h : GrpPre zw base bk n m V F vt ks p id v) (hn : n ≤ 1000000000) (hp : pkOk p) :
  ∃ w6, (Instr.mapUpdate 118 (.map (some bk)) (pkV p) v).run Tryz.prog zw = .ok () w6 ∧ GrpEnd w6 base bk n m F vt ks p id ∧ Mod (· = bk) zw w6 := by
 obtain ⟨W, N, n', h1, h2, h3, h4, h5⟩ := h;have hlt := h1.lt;obtain ⟨w6, hr, hM, hm⟩ := (h1.map.mod (grown_mod h2) (fun hb => by have := own_block (h1.at_ p) bk hb; omega)).store Tryz.underlying118 hn p hp v;exact ⟨w6, hr, ⟨_, h1.put h2 h3 h4 h5 hM hm⟩, hm⟩
end
end Go.Proofs.YtgfgggeeoeppjaaGreatDoor
