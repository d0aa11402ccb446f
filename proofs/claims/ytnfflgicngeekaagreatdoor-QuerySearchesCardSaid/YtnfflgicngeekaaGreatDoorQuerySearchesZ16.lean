/- Texts of the proof of QuerySearches, put together: RowQ. -/
import Derived.Test.YtnfflgicngeekaaGreatDoorQuerySearchesZ9
import Derived.Shelf.SlicesQ.Reverse
import Derived.Sort.OwnSorted
set_option linter.unusedVariables false
set_option linter.unusedSimpArgs false
namespace Go.Proofs.YtnfflgicngeekaaGreatDoor
open Go.RowKit Go.Sort Go.Shelf
section
variable {α:Type} {enc:α→List Value} {k:Nat}
theorem flatK_lenW (hk:∀ x,(enc x).length=k):∀ xs:List α,(xs.flatMap enc).length=xs.length*k
 | []=>by simp
 | x :: xs=>by
  rw [List.flatMap_cons,List.length_append,hk,flatK_lenW hk xs,List.length_cons,Nat.add_mul]
  omega
theorem own_lenKW {w:World} {base g n cap:Nat} {e:TypeId} {v:Value} {xs:List α} (hk:∀ x,(enc x).length=k) (h0:0<k) (h:w.ownsRow base e k v n (xs.flatMap enc)):n=xs.length:=by
 have h1:=h.1;rw [flatK_lenW hk] at h1;exact (Nat.eq_of_mul_eq_mul_right h0 h1).symm
variable [Inhabited α]
theorem flatK_atW (hk:∀ x,(enc x).length=k) (h0:0<k):∀ (xs:List α) (t:Nat),t<xs.length*k→(xs.flatMap enc)[t]? = some (enc xs[t / k]!)[t % k]!
 | [],t,h=>by simp at h
 | x :: xs,t,h=>by
  rw [List.flatMap_cons]
  by_cases ht:t<k
  ·rw [List.getElem?_append_left (by rw [hk]; exact ht),Nat.div_eq_of_lt ht,Nat.mod_eq_of_lt ht]
   have:t<(enc x).length:=by rw [hk]; exact ht
   simp [this]
  ·obtain ⟨s,rfl⟩:∃ s,t=s+k:=⟨t - k,by omega⟩;rw [List.getElem?_append_right (by rw [hk]; omega),hk,Nat.add_sub_cancel,Nat.add_div_right _ h0,Nat.add_mod_right]
   have hs:s<xs.length*k:=by rw [List.length_cons,Nat.add_mul] at h; omega
   rw [flatK_atW hk h0 xs s hs];simp
theorem holdsK_ownW {w:World} {base g n cap:Nat} {e:TypeId} {xs:List α} (hk:∀ x,(enc x).length=k) (h0:0<k) (h:w.ownsRow base e k (.slice (some ⟨g,0,none⟩) n cap) n (xs.flatMap enc)):HoldsK enc k w g 0 xs.toArray:=by
 have hn:=own_lenKW (g:=g) (cap:=cap) hk h0 h;subst hn;intro j hj;rw [size_flatK] at hj;have hj':j<xs.length*k:=(by simpa using hj);rw [Nat.zero_add];refine ⟨?_,h.frozenAt j⟩;rw [h.cellAt j hj',flatK_atW hk h0 xs j hj',get_flatK _ _ _ _ hj];simp
theorem flatK_listW (hk:∀ x,(enc x).length=k) (h0:0<k) (xs:List α):(flatK enc k xs.toArray).toList=xs.flatMap enc:=by
 apply List.ext_getElem?
 intro t
 by_cases ht:t<xs.length*k
 ·rw [flatK_atW hk h0 xs t ht]
  have h1:t<(flatK enc k xs.toArray).size:=by rw [size_flatK]; simpa using ht
  rw [Array.getElem?_toList,Array.getElem?_eq_getElem h1,← getElem!_pos _ t h1,get_flatK _ _ _ _ (by simpa using ht)];simp
 ·rw [List.getElem?_eq_none (by simp; omega),List.getElem?_eq_none (by rw [flatK_lenW hk]; omega)]
theorem takeKW (cur F:Array Value) (h:F.size≤cur.size):(putCells id 0 F cur).toList.take F.size=F.toList:=by
 apply List.ext_getElem?
 intro j
 by_cases hj:j<F.size
 ·rw [List.getElem?_take_of_lt hj,Array.getElem?_toList];simp [putCells,hj,show j<cur.size by omega]
 ·rw [List.getElem?_take_eq_none (by omega),List.getElem?_eq_none (by simp; omega)]
theorem own_putW {w:World} {base g n cap m:Nat} {e:TypeId} {xs ys:List α} (hk:∀ x,(enc x).length=k) (h0:0<k) (h:w.ownsRow base e k (.slice (some ⟨g,0,none⟩) n cap) n (xs.flatMap enc)) (hl:ys.length=xs.length) :
  (putRowK enc k (Sort.ahead w m) g 0 ys.toArray).ownsRow base e k (.slice (some ⟨g,0,none⟩) n cap) n (ys.flatMap enc)∧Mod (· = g) w (putRowK enc k (Sort.ahead w m) g 0 ys.toArray):=by
 have hn:=own_lenKW (g:=g) (cap:=cap) hk h0 h;subst hn
 rcases h.2 with ⟨h1,_⟩ | ⟨g',cap',cur,hv,hb,hg,h1,h2,h3,h4⟩
 ·cases h1
 cases hv
 have hgl:g<w.heap.size:=(Array.getElem?_eq_some_iff.1 hg).1
 have hF:(flatK enc k ys.toArray).size=xs.length*k:=by rw [size_flatK]; simp [hl]
 have hcap:xs.length*k≤cap*k:=Nat.mul_le_mul_right k h1;refine ⟨⟨by rw [flatK_lenW hk,hl],.inr ⟨g,cap,putCells id 0 (flatK enc k ys.toArray) cur,rfl,hb,?_,h1,h2,by simp [putCells,h3],?_⟩⟩,?_⟩
 ·unfold putRowK;simp [putRow,mapBlock,Sort.ahead,Array.getElem?_modify,hg,onCells]
 ·have:=takeKW cur (flatK enc k ys.toArray) (by rw [hF,h3]; exact hcap);rw [hF,flatK_listW hk h0] at this;exact this
 ·unfold putRowK;refine ⟨rfl,rfl,rfl,by simp [putRow,mapBlock,Sort.ahead],fun j hj hne => ?_⟩;have:g≠j:=fun e=>hne e.symm;simp [putRow,mapBlock,Sort.ahead,Array.getElem?_modify,this]
end
end Go.Proofs.YtnfflgicngeekaaGreatDoor
