/- Texts of the proof of DecisionTexts, put together: RdE. -/
import Derived.Test.YtaidkmnbjbnciaaGreatDoorDecisionTextsZ33
import Derived.Test.YtaidkmnbjbnciaaGreatDoorDecisionTextsZ34
/- The closure of ReadLayout, for any words. -/
namespace Go.Proofs.YtaidkmnbjbnciaaGreatDoor
set_option linter.unusedVariables false
set_option linter.unusedSimpArgs false
open Go.RowKit

/-- What lies in the layout block while lines are read. -/
def RdI (base gl : Nat) (k : Nat) (S : RdS) (W : World) : Prop := ∃ (A : Option Addr) (c : Nat) (A2 : Option Addr) (c2 : Nat) (al : List AskR),
 Blk W gl 29 #[.slice A al.length c, .slice A2 S.rules.length c2] ∧ W.ownsRow base 99 4 (.slice A al.length c) al.length (askV al) ∧ W.ownsRow base 103 5 (.slice A2 S.rules.length c2) S.rules.length (rulV S.rules) ∧ AskS W al ∧ al.map AskR.q = S.asks ∧ al.length + S.rules.length ≤ k ∧ base ≤ gl
theorem RdI.pure {base gl k : Nat} {S : RdS} {W W' : World} (h : RdI base gl k S W) (hm : Pure W W') : RdI base gl k S W' := by
 obtain ⟨A, c, A2, c2, al, h1, h2, h3, h4, h5, h6, h7⟩ := h
 exact ⟨A, c, A2, c2, al, h1.modp hm, own_pure h2 hm, own_pure h3 hm, h4.pure hm, h5, h6, h7⟩
theorem KeepS.of_one {base gl : Nat} {W W' : World} (h : Mod (· = gl) W W') (hb : base ≤ gl) {t : TypeId} {c : Array Value} (hB : Blk W gl t c) (hne : t ≠ 9) : KeepS base W W' :=
 h.mono (fun k hk => by subst hk; exact ⟨hb, fun ⟨arr, fr, hs⟩ => by unfold Blk at hB; rw [hB] at hs; cases hs; exact hne rfl⟩)
theorem KeepS.grown {base : Nat} {W W' : World} {t : TypeId} {size n : Nat} {v : Value} {xs : List Value} (h : W.ownsRow base t size v n xs) (hg : W.grownBy W' v.ownBlock) (hne : t ≠ 9) : KeepS base W W' :=
 (mod_grown hg).mono (fun k hk => ⟨own_block h k hk, fun ⟨arr, fr, hs⟩ => hne (own_ty h hk hs).symm⟩)
/-- A row of asks behind the growth of another row. -/
theorem AskS.grown {W W' : World} {al : List AskR} {base size n : Nat} {t : TypeId} {v : Value} {xs : List Value} (h : AskS W al) (k : W.ownsRow base t size v n xs) (hne : t ≠ 9) (hg : W.grownBy W' v.ownBlock) : AskS W' al :=
 fun x hx => (h x hx).grown k hg (Ne.symm hne)

end Go.Proofs.YtaidkmnbjbnciaaGreatDoor
