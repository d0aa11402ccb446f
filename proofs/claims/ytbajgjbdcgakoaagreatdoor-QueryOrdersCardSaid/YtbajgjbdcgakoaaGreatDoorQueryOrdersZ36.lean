/- Texts of the proof of QueryOrders, put together: FamA, FamB. -/
import Derived.Test.YtbajgjbdcgakoaaGreatDoorQueryOrdersZ9
import Derived.Test.YtbajgjbdcgakoaaGreatDoorQueryOrdersZ13
import Derived.Test.YtbajgjbdcgakoaaGreatDoorQueryOrdersZ30
import Derived.Deep.DeepCutAuto
import Derived.Deep.AppendLies
/- The tree of items: newTree of package intake. -/
namespace Go.Proofs.YtbajgjbdcgakoaaGreatDoor
set_option linter.unusedVariables false
set_option linter.unusedSimpArgs false
open Go.RowKit

/-- The ids of the items in an item; of those in none. -/
def kidsS (l : List Itm) (p : Str) : List Str := if p = [] then [] else (l.filter fun x => decide (x.par = p)).map (·.id)
def topsS (l : List Itm) : List Str := (l.filter fun x => decide (x.par = [])).map (·.id)
/-- Block bk is a map from strings to slices of strings, each its own row; so is the slice vt. -/
structure KidsM (w : World) (base bk n m : Nat) (V : Str → Option Value) (F : Str → List Str) (vt : Value) (ts : List Str) : Prop where
 map : MapS w bk n V
 own : ∀ p u, V p = some u → w.ownsRow base 9 1 u (F p).length (strsV (F p))
 none : ∀ p, V p = none → F p = []
 apart : ∀ p q u v g, p ≠ q → V p = some u → V q = some v → u.ownBlock = some g → v.ownBlock ≠ some g
 tops : w.ownsRow base 9 1 vt ts.length (strsV ts)
 far : ∀ p u g, V p = some u → u.ownBlock = some g → vt.ownBlock ≠ some g
 lt : bk < base
 few : ∀ p, (F p).length ≤ m
section
variable {w w' : World} {base bk n m : Nat} {V : Str → Option Value} {F : Str → List Str} {vt : Value} {ts : List Str}
theorem KidsM.mod {S : Nat → Prop} (h : KidsM w base bk n m V F vt ts) (hm : Mod S w w') (hs : ∀ g, bk ≤ g → ¬ S g) : KidsM w' base bk n m V F vt ts := by
 have hlt := h.lt
 exact ⟨h.map.mod hm (hs _ (Nat.le_refl _)), fun p u hp => own_mod (h.own p u hp) hm (fun g hg => hs g (by have := own_block (h.own p u hp) g hg; omega)), h.none, h.apart,
  own_mod h.tops hm (fun g hg => hs g (by have := own_block h.tops g hg; omega)), h.far, h.lt, h.few⟩
theorem KidsM.up {m' : Nat} (h : KidsM w base bk n m V F vt ts) (hm : m ≤ m') : KidsM w base bk n m' V F vt ts := ⟨h.map, h.own, h.none, h.apart, h.tops, h.far, h.lt, fun p => Nat.le_trans (h.few p) hm⟩
theorem KidsM.pure (h : KidsM w base bk n m V F vt ts) (hm : Pure w w') : KidsM w' base bk n m V F vt ts := h.mod hm (fun _ _ x => x)
/-- The row of a key. -/
theorem KidsM.at_ (h : KidsM w base bk n m V F vt ts) (p : Str) : w.ownsRow base 9 1 ((V p).getD nilS) (F p).length (strsV (F p)) := by
 cases hp : V p with
 | none => rw [h.none p hp]; exact ⟨rfl, .inl ⟨rfl, rfl⟩⟩
 | some u => exact h.own p u hp
theorem grown_mod {v : Value} {w w' : World} (hg : w.grownBy w' v.ownBlock) : Mod (fun k => v.ownBlock = some k) w w' :=
 ⟨hg.os, hg.tape, hg.output, hg.size, fun k hk hs => hg.block k hk (fun x => hs x.symm)⟩
/-- A kid more: its row has grown, and is stored. -/
theorem KidsM.put {w5 w6 : World} {N n' : Nat} {v5 : Value} {p id : Str} (h : KidsM w base bk n m V F vt ts) (hg : w.grownBy w5 ((V p).getD nilS).ownBlock) (hown : w5.ownsRow base 9 1 v5 n' (strsV (F p) ++ [.string ⟨id.toArray⟩]))
  (hat : v5.ownBlock = ((V p).getD nilS).ownBlock ∨ v5.ownBlock = some N) (hN : w.heap.size ≤ N) (hM : MapS w6 bk (n + 1) (fun x => if x = p then some v5 else V x)) (hm : Mod (· = bk) w5 w6) :
  KidsM w6 base bk (n + 1) (m + 1) (fun x => if x = p then some v5 else V x) (fun x => if x = p then F p ++ [id] else F x) vt ts := by
 have hlt := h.lt
 have hgm := grown_mod hg
 have e1 : strsV (F p) ++ [.string ⟨id.toArray⟩] = strsV (F p ++ [id]) := by simp [strsV]
 rw [e1] at hown
 have hn' : n' = (F p ++ [id]).length := by have := hown.1; rw [strsV_len] at this; omega
 subst hn'
 have hnb : ∀ {u : Value} {k : Nat} {ys : List Value}, w5.ownsRow base 9 1 u k ys → w6.ownsRow base 9 1 u k ys := fun hh => own_mod hh hm (fun g hgg => by have := own_block hh g hgg; omega)
 have hone : ∀ q u g, q ≠ p → V q = some u → ((V p).getD nilS).ownBlock = some g → u.ownBlock ≠ some g := by
  intro q u g hq hu hgp hug
  cases hp : V p with
  | none => rw [hp] at hgp; simp [Value.ownBlock] at hgp
  | some v => rw [hp] at hgp; exact h.apart p q v u g (Ne.symm hq) hp hu hgp hug
 have hnew : ∀ q u g, q ≠ p → V q = some u → v5.ownBlock = some g → u.ownBlock ≠ some g := by
  intro q u g hq hu hgp hug
  rcases hat with hat | hat
  ·rw [hat] at hgp; exact hone q u g hq hu hgp hug
  ·rw [hat] at hgp
   injection hgp with hgp
   have := own_lt (h.own q u hu) hug
   omega
 have hfar : ∀ g, v5.ownBlock = some g → vt.ownBlock ≠ some g := by
  intro g hgp hvt
  rcases hat with hat | hat
  ·rw [hat] at hgp
   cases hp : V p with
   | none => rw [hp] at hgp; simp [Value.ownBlock] at hgp
   | some v => rw [hp] at hgp; exact h.far p v g hp hgp hvt
  ·rw [hat] at hgp
   injection hgp with hgp
   have := own_lt h.tops hvt
   omega
 refine ⟨hM, fun q u hq => ?_, fun q hq => ?_, fun a b u v g hab ha hb hu => ?_, ?_, fun q u g hq hu => ?_, hlt, fun q => ?_⟩
 ·by_cases e : q = p
  ·rw [if_pos e] at hq ⊢
   injection hq with hq
   rw [← hq]
   exact hnb hown
  ·rw [if_neg e] at hq ⊢
   exact hnb (own_mod (h.own q u hq) hgm (fun g hgu hgp => hone q u g e hq hgp hgu))
 ·by_cases e : q = p
  ·rw [if_pos e] at hq; cases hq
  ·rw [if_neg e] at hq ⊢
   exact h.none q hq
 ·by_cases ea : a = p
  ·rw [if_pos ea] at ha
   injection ha with ha
   by_cases eb : b = p
   ·exact absurd (ea.trans eb.symm) hab
   ·rw [if_neg eb] at hb
    rw [← ha] at hu
    exact hnew b v g eb hb hu
  ·rw [if_neg ea] at ha
   by_cases eb : b = p
   ·rw [if_pos eb] at hb
    injection hb with hb
    rw [← hb]
    intro hv
    exact hnew a u g ea ha hv hu
   ·rw [if_neg eb] at hb
    exact h.apart a b u v g hab ha hb hu
 ·exact hnb (own_mod h.tops hgm (fun g hgt hgp => by
   cases hp : V p with
   | none => rw [hp] at hgp; simp [Value.ownBlock] at hgp
   | some v => rw [hp] at hgp; exact h.far p v g hp hgp hgt))
 ·by_cases e : q = p
  ·rw [if_pos e] at hq
   injection hq with hq
   rw [← hq] at hu
   exact hfar g hu
  ·rw [if_neg e] at hq
   exact h.far q u g hq hu
 ·by_cases e : q = p
  ·rw [if_pos e]
   have := h.few p
   simp
   omega
  ·rw [if_neg e]
   have := h.few q
   omega
end

/-- The row of a key has grown, and is not stored yet. -/
def KidsPre (zw : World) (base bk n m : Nat) (V : Str → Option Value) (F : Str → List Str) (vt : Value) (ts : List Str) (p id : Str) (v : Value) : Prop :=
 ∃ (W : World) (N n' : Nat), KidsM W base bk n m V F vt ts ∧ W.grownBy zw ((V p).getD nilS).ownBlock ∧ zw.ownsRow base 9 1 v n' (strsV (F p) ++ [.string ⟨id.toArray⟩]) ∧ (v.ownBlock = ((V p).getD nilS).ownBlock ∨ v.ownBlock = some N) ∧ W.heap.size ≤ N
def KidsEnd (zw : World) (base bk n m : Nat) (F : Str → List Str) (vt : Value) (ts : List Str) (p id : Str) : Prop :=
 ∃ V', KidsM zw base bk (n + 1) (m + 1) V' (fun x => if x = p then F p ++ [id] else F x) vt ts
section
variable {W zw zw' : World} {base bk n m : Nat} {V : Str → Option Value} {F : Str → List Str} {vt : Value} {ts : List Str} {p id : Str} {v : Value}
theorem KidsPre.pure (h : KidsPre zw base bk n m V F vt ts p id v) (hm : Pure zw zw') : KidsPre zw' base bk n m V F vt ts p id v := by
 obtain ⟨W, N, n', h1, h2, h3, h4, h5⟩ := h
 refine ⟨W, N, n', h1, ⟨hm.os.trans h2.os, hm.tape.trans h2.tape, hm.output.trans h2.output, Nat.le_trans h2.size hm.size, fun k hk hs => (hm.block k (Nat.lt_of_lt_of_le hk h2.size) (fun x => x)).trans (h2.block k hk hs)⟩, own_pure h3 hm, h4, h5⟩
theorem KidsEnd.pure (h : KidsEnd zw base bk n m F vt ts p id) (hm : Pure zw zw') : KidsEnd zw' base bk n m F vt ts p id := by
 obtain ⟨V', h⟩ := h
 exact ⟨V', h.pure hm⟩
end

/-- A tree of the items xs, to be read. -/
structure TreeIs (w : World) (bi bk : Nat) (vt : Value) (xs : List Itm) : Prop where
 items : MapX w bi xs.length (byF xs)
 kids : ∃ n V, MapS w bk n V ∧ ∀ p, Sl w 9 1 ((V p).getD nilS) (strsV (kidsS xs p))
 tops : Sl w 9 1 vt (strsV (topsS xs))
theorem TreeIs.pure {w w' : World} {bi bk : Nat} {vt : Value} {xs : List Itm} (h : TreeIs w bi bk vt xs) (hm : Pure w w') : TreeIs w' bi bk vt xs := by
 obtain ⟨n, V, h1, h2⟩ := h.kids
 exact ⟨h.items.pure hm, ⟨n, V, h1.pure hm, fun p => (h2 p).pure hm⟩, h.tops.pure hm⟩
end Go.Proofs.YtbajgjbdcgakoaaGreatDoor

/- The items below an item: below of package intake. -/
namespace Go.Proofs.YtbajgjbdcgakoaaGreatDoor
set_option linter.unusedVariables false
set_option linter.unusedSimpArgs false
open Go.RowKit

end Go.Proofs.YtbajgjbdcgakoaaGreatDoor
