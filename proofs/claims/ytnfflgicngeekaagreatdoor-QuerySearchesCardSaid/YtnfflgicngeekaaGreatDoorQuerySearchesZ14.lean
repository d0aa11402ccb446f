/- Texts of the proof of QuerySearches, put together: OwnK. -/
import Derived.Test.YtnfflgicngeekaaGreatDoorQuerySearchesZ9
import Derived.Deep.AppendLies
set_option linter.unusedVariables false
set_option linter.unusedSimpArgs false
namespace Go.Proofs.YtnfflgicngeekaaGreatDoor
open Go.RowKit
theorem Sl.mod_ob {w w':World} {S:Nat→Prop} {e:TypeId} {size:Nat} {v:Value} {xs:List Value} (h:Sl w e size v xs) (hm:Mod S w w') (hs:∀ g,v.ownBlock=some g→¬ S g):Sl w' e size v xs:=by
 obtain ⟨A,n,c,rfl,h1,h2,h3,h4⟩:=h;refine ⟨A,n,c,rfl,h1,h2,h3,fun hn => ?_⟩;obtain ⟨g,off,rfl,hr⟩:=h4 hn;exact ⟨g,off,rfl,hr.mod hm (hs g rfl)⟩
theorem own_ty {w:World} {base n size:Nat} {e t:TypeId} {v:Value} {xs:List Value} {arr:Array Value} {fr:Nat × Nat} {g:Nat} (h:w.ownsRow base e size v n xs) (hv:v.ownBlock=some g) (hg:w.heap[g]? = some (.cells arr t fr)):t=e:=by
 rcases h.2 with ⟨rfl,_⟩ | ⟨g',cap,cur,rfl,_,hh,_⟩
 ·simp [Value.ownBlock] at hv
 ·simp [Value.ownBlock] at hv;subst hv;rw [hg] at hh
  injection hh with hh
  injection hh with _ ht
theorem own_heap {w:World} {base n size:Nat} {e:TypeId} {v:Value} {xs:List Value} {g:Nat} (h:w.ownsRow base e size v n xs) (hv:v.ownBlock=some g):∃ arr,w.heap[g]? = some (.cells arr e (0,0)):=by
 rcases h.2 with ⟨rfl,_⟩ | ⟨g',cap,cur,rfl,_,hh,_⟩
 ·simp [Value.ownBlock] at hv
 ·simp [Value.ownBlock] at hv;subst hv;exact ⟨cur,hh⟩
def SlU (w:World) (bl:Nat) (v:Value) (xs:List Str):Prop:=Sl w 9 1 v (strsV xs)∧∀ g,v.ownBlock=some g→g<bl∨xs=[]
theorem Sl.nilCut {w w':World} {e:TypeId} {size:Nat} {v:Value} (h:Sl w e size v []) (hs:0<size):Sl w' e size v []:=by
 obtain ⟨A,n,c,rfl,h1,h2,h3,h4⟩:=h
 have h0:n=0:=by
  have h3':n*size=0:=(by simpa using h3.symm)
  rcases Nat.mul_eq_zero.1 h3' with h | h <;> omega
 exact ⟨A,n,c,rfl,h1,h2,h3,fun hn=>absurd hn (by omega)⟩
theorem SlU.mod {w w':World} {S:Nat→Prop} {bl:Nat} {v:Value} {xs:List Str} (h:SlU w bl v xs) (hm:Mod S w w') (hs:∀ g,v.ownBlock=some g→g<bl→¬ S g):SlU w' bl v xs:=by
 refine ⟨?_,h.2⟩
 by_cases hx:xs=[]
 ·subst hx;exact Sl.nilCut h.1 (by omega)
 ·exact h.1.mod_ob hm (fun g hg=>by
   rcases h.2 g hg with hl | hl
   ·exact hs g hg hl
   ·exact absurd hl hx)
theorem SlU.up {w:World} {b1 b2:Nat} {v:Value} {xs:List Str} (h:SlU w b1 v xs) (hb:b1≤b2):SlU w b2 v xs :=
 ⟨h.1,fun g hg=>(h.2 g hg).imp (fun h=>by omega) id⟩
theorem SlU.of_own {w:World} {base n:Nat} {v:Value} {xs:List Str} (h:w.ownsRow base 9 1 v n (strsV xs)):SlU w w.heap.size v xs :=
 ⟨Sl.of_own h,fun g hg => .inl (h.lt g hg).2⟩
theorem SlU.grown {w w':World} {bl base n size:Nat} {t:TypeId} {v u:Value} {xs:List Str} {ys:List Value} (h:SlU w bl v xs) (k:w.ownsRow base t size u n ys) (hne:9≠t) (hg:w.grownBy w' u.ownBlock):SlU w' bl v xs :=
 ⟨h.1.grown k hg hne,h.2⟩
end Go.Proofs.YtnfflgicngeekaaGreatDoor
