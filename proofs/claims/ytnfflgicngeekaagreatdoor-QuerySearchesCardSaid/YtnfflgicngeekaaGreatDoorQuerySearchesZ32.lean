/- Texts of the proof of QuerySearches, put together: VisP. -/
import Derived.Test.YtnfflgicngeekaaGreatDoorQuerySearchesZ9
import Derived.Test.YtnfflgicngeekaaGreatDoorQuerySearchesZ26
import Derived.Lib.ValidU
import Derived.Lib.IndexMore
import Derived.Lib.Strings
set_option linter.unusedVariables false
set_option linter.unusedSimpArgs false
namespace Go.Proofs.YtnfflgicngeekaaGreatDoor
open Go.RowKit
theorem dw_self {p:UInt8→Bool}:∀ {l:List UInt8},l.dropWhile p=l↔(∀ a t,l=a :: t→p a=false)
 | []=>by simp
 | a :: t=>by
  cases h:p a with
  | true =>
   rw [List.dropWhile_cons,h];simp only [if_true]
   constructor
   ·intro e;have h1:=(List.dropWhile_sublist (l:=t) p).length_le;rw [e] at h1;simp at h1
    omega
   ·intro e;have:=e a t rfl;rw [h] at this
    cases this
  | false =>
   simp [List.dropWhile_cons,h]
theorem trim_self (s:List UInt8):(Lib.trimS s [32]=s)↔(Lib.hasPrefix s [32]=false∧Lib.hasSuffix s [32]=false):=by
 have hR:([32]:List UInt8).contains=fun c=>c == 32:=by
  funext c
  simp [List.contains,List.elem]
  cases c == 32 <;> rfl
 have hp:Lib.hasPrefix s [32]=false↔∀ a t,s=a :: t→(a == 32)=false:=by
  unfold Lib.hasPrefix
  cases s with
  | nil=>simp
  | cons a t =>
   have e:([32]:List UInt8).isPrefixOf (a :: t)=(a == 32):=by
    simp only [List.isPrefixOf,Bool.and_true];exact Bool.eq_iff_iff.2 ⟨fun h=>by simp at h ⊢; exact h.symm,fun h=>by simp at h ⊢; exact h.symm⟩
   rw [e]
   constructor
   ·intro h a' t' he
    injection he with h1 h2
    rw [← h1];exact h
   ·intro h;exact h a t rfl
 have hs:Lib.hasSuffix s [32]=false↔∀ a t,s.reverse=a :: t→(a == 32)=false:=by
  unfold Lib.hasSuffix List.isSuffixOf;rw [show ([32]:List UInt8).reverse=[32] from rfl]
  cases s.reverse with
  | nil=>simp
  | cons a t =>
   have e:([32]:List UInt8).isPrefixOf (a :: t)=(a == 32):=by
    simp only [List.isPrefixOf,Bool.and_true];exact Bool.eq_iff_iff.2 ⟨fun h=>by simp at h ⊢; exact h.symm,fun h=>by simp at h ⊢; exact h.symm⟩
   rw [e]
   constructor
   ·intro h a' t' he
    injection he with h1 h2
    rw [← h1];exact h
   ·intro h;exact h a t rfl
 unfold Lib.trimS Lib.trimLeftS Lib.trimRightS;simp only [hR]
 constructor
 ·intro h;have l1:=(List.dropWhile_sublist (l:=(s.reverse.dropWhile (fun c=>c == 32)).reverse) (fun c=>c == 32)).length_le;have l2:=(List.dropWhile_sublist (l:=s.reverse) (fun c=>c == 32)).length_le;rw [h] at l1;simp only [List.length_reverse] at l1 l2;have e:s.reverse.dropWhile (fun c=>c == 32)=s.reverse:=(List.dropWhile_sublist (l:=s.reverse) (fun c=>c == 32)).eq_of_length (by simp only [List.length_reverse]; omega);rw [e,List.reverse_reverse] at h;exact ⟨hp.2 (dw_self.1 h),hs.2 (dw_self.1 e)⟩
 ·rintro ⟨h1,h2⟩;rw [dw_self.2 (hs.1 h2),List.reverse_reverse,dw_self.2 (hp.1 h1)]
def visC (feeds:Bool) (c:Nat):Bool:=!((decide (c<32) && !(feeds && c == 10)) || c == 127)
def visB (feeds:Bool) (s:Str):Bool:=s.all (fun c=>visC feeds c.toNat)
def plainB (s:Str):Bool:=visB false s && (Lib.validD s && (!Lib.hasPrefix s [32] && (!Lib.hasSuffix s [32] && !Lib.contains s [32,32])))
def textB (s:Str):Bool:=visB true s && (Lib.validD s && (s.isEmpty || Lib.hasSuffix s [10]))
def itemE (x:Itm):Int :=
 if !(keyB x.id && keyB x.cust) then 5 else if !inB x.kind 1 4 then 4 else if 120<x.name.length then 2 else if !plainB x.name then 3 else if !inB x.tm 0 5761439 then 1 else
 if decide (x.par≠[]) && !keyB x.par then 5 else if x.par=x.id then 14 else if 20000<x.text.length then 2 else if !textB x.text then 3 else 0
theorem itemE_id {x:Itm} (h:itemE x=0):keyB x.id=true:=by
 unfold itemE at h
 split at h
 ·omega
 ·rename_i h1
  simp at h1;exact h1.1
theorem visB_snoc (f:Bool) (s:Str) (k:Nat) (h:k<s.length):visB f (s.take (k+1))=(visB f (s.take k) && visC f s[k].toNat):=by
 unfold visB;rw [List.take_succ_eq_append_getElem h,List.all_append];simp
end Go.Proofs.YtnfflgicngeekaaGreatDoor
