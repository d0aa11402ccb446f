/- Texts of the proof of QuerySearches, put together: Tab. -/
import Derived.Test.YtnfflgicngeekaaGreatDoorQuerySearchesZ9
import Derived.Maps.AppendAt
set_option linter.unusedVariables false
set_option linter.unusedSimpArgs false
namespace Go.Proofs.YtnfflgicngeekaaGreatDoor
open Go.RowKit
theorem own_form {w:World} {base n size:Nat} {e:TypeId} {v:Value} {xs:List Value} (h:w.ownsRow base e size v n xs) (hn:0<n):∃ g cap,v = .slice (some ⟨g,0,none⟩) n cap∧base≤g∧g<w.heap.size∧n≤cap∧cap≤9223372036854775807:=by
 rcases h.2 with ⟨rfl,h0⟩ | ⟨g,cap,cur,rfl,hg,hh,hc,hcm,_⟩
 ·omega
 ·exact ⟨g,cap,rfl,hg,lt_of_heap hh,hc,by simpa [maxLen] using hcm⟩
abbrev nilS:Value:=.slice none 0 0
structure Tab (w:World) (base:Nat) (e:TypeId) (us:List Value) (xss:List (List Value)):Prop where
 len:us.length=xss.length
 own:∀ i,i<us.length→w.ownsRow base e 1 (us.getD i nilS) (xss.getD i []).length (xss.getD i [])
 apart:∀ i j g,i<us.length→j<us.length→i≠j→(us.getD i nilS).ownBlock=some g→(us.getD j nilS).ownBlock≠some g
section
variable {w w':World} {base:Nat} {e:TypeId} {us:List Value} {xss:List (List Value)}
theorem own_lt {v:Value} {n g:Nat} {xs:List Value} (h:w.ownsRow base e 1 v n xs) (hg:v.ownBlock=some g):g<w.heap.size:=by
 rcases h.2 with ⟨rfl,_⟩ | ⟨g',cap,cur,rfl,_,hh,_⟩
 ·simp [Value.ownBlock] at hg
 ·simp [Value.ownBlock] at hg;rw [← hg];exact lt_of_heap hh
theorem Tab.mod {S:Nat→Prop} (h:Tab w base e us xss) (hm:Mod S w w') (hs:∀ g,base≤g→¬ S g):Tab w' base e us xss :=
 ⟨h.len,fun i hi=>own_mod (h.own i hi) hm (fun g hg=>hs g (own_block (h.own i hi) g hg)),h.apart⟩
theorem getD_set {α:Type} (l:List α) (k i:Nat) (x d:α) (hk:k<l.length):(l.set k x).getD i d=if i=k then x else l.getD i d:=by
 simp only [List.getD]
 by_cases h:i=k
 ·subst h;simp [hk]
 ·rw [if_neg h,List.getElem?_set_ne (fun e=>h e.symm)]
theorem Tab.grow {k n' N:Nat} {v':Value} {ys:List Value} (h:Tab w base e us xss) (hk:k<us.length) (hg:w.grownBy w' (us.getD k nilS).ownBlock) (hown:w'.ownsRow base e 1 v' n' ys)
  (hat:v'.ownBlock=(us.getD k nilS).ownBlock∨v'.ownBlock=some N) (hN:w.heap.size≤N):Tab w' base e (us.set k v') (xss.set k ys):=by
 have hkx:k<xss.length:=by rw [← h.len]; exact hk
 refine ⟨by simpa using h.len,fun i hi => ?_,fun i j g hi hj hne hgi => ?_⟩
 ·rw [List.length_set] at hi;rw [getD_set _ _ _ _ _ hk,getD_set _ _ _ _ _ hkx]
  by_cases e1:i=k
  ·rw [if_pos e1,if_pos e1]
   have e2:n'=ys.length:=by have:=hown.1; omega
   rw [← e2];exact hown
  ·rw [if_neg e1,if_neg e1];refine own_mod (S:=fun b=>(us.getD k nilS).ownBlock=some b) (h.own i hi) ⟨hg.os,hg.tape,hg.output,hg.size,fun b hb hs=>hg.block b hb (fun x=>hs x.symm)⟩ (fun g hgi hgk => ?_);exact h.apart i k g hi hk e1 hgi hgk
 ·rw [List.length_set] at hi hj;rw [getD_set _ _ _ _ _ hk] at hgi ⊢
  by_cases e1:i=k
  ·rw [if_pos e1] at hgi;have e2:j≠k:=fun x=>hne (e1.trans x.symm);rw [if_neg e2];intro hgj
   rcases hat with hat | hat
   ·rw [hat] at hgi;exact h.apart j k g hj hk e2 hgj hgi
   ·rw [hat] at hgi
    injection hgi with hgi
    have:=own_lt (h.own j hj) hgj
    omega
  ·rw [if_neg e1] at hgi
   by_cases e2:j=k
   ·rw [if_pos e2];intro hgj
    rcases hat with hat | hat
    ·rw [hat] at hgj;exact h.apart i k g hi hk e1 hgi hgj
    ·rw [hat] at hgj
     injection hgj with hgj
     have:=own_lt (h.own i hi) hgi
     omega
   ·rw [if_neg e2];exact h.apart i j g hi hj hne hgi
end
end Go.Proofs.YtnfflgicngeekaaGreatDoor
