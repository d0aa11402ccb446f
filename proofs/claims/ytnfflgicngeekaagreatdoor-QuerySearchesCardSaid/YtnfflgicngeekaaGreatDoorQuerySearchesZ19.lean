/- Texts of the proof of QuerySearches, put together: LinP. -/
import Derived.Test.YtnfflgicngeekaaGreatDoorQuerySearchesZ9
import Derived.Lib.Split
import Derived.Lib.CutLaws
import Derived.Lib.Strings
set_option linter.unusedVariables false
set_option linter.unusedSimpArgs false
namespace Go.Proofs.YtnfflgicngeekaaGreatDoor
open Go.RowKit
def fstL (c:UInt8):Str→Option (Str × Str)
 | []=>none
 | b :: l=>if b=c then some ([],l) else (fstL c l).map fun p=>(b :: p.1,p.2)
theorem fstL_some {c:UInt8}:∀ {s x y:Str},fstL c s=some (x,y)→s=x ++ c :: y∧c ∉ x
 | [],_,_,h=>by cases h
 | b :: l,x,y,h=>by
  unfold fstL at h
  split at h
  ·rename_i e
   cases h
   exact ⟨by rw [e]; rfl,by simp⟩
  ·rename_i hb
   cases hf:fstL c l with
   | none=>rw [hf] at h; cases h
   | some p =>
    rw [hf] at h;obtain ⟨x2,y2⟩:=p
    cases h
    obtain ⟨h1,h2⟩:=fstL_some hf;refine ⟨by rw [h1]; rfl,fun hm => ?_⟩
    rcases List.mem_cons.1 hm with e | e
    ·exact hb e.symm
    ·exact h2 e
theorem index_byte (c:UInt8):∀ s:Str,Lib.index s [c]=match fstL c s with | none => -1 | some p=>(p.1.length:Int)
 | []=>rfl
 | b :: l=>by
  unfold Lib.index fstL
  by_cases h:b=c
  ·subst h;rw [if_pos (by simp),if_pos rfl]
   rfl
  ·have h2:¬ (([c]:List UInt8).isPrefixOf (b :: l)=true):=by simp; exact fun e=>h e.symm
   rw [if_neg h2,if_neg h,index_byte c l]
   cases hf:fstL c l with
   | none=>simp
   | some p =>
    have h3:¬ (((p.1.length:Int) == -1)=true):=(by simp);simp only [Option.map_some];rw [if_neg h3];simp
def spl (c:UInt8):Str→List Str
 | []=>[[]]
 | b :: l=>if b=c then [] :: spl c l else match spl c l with
  | []=>[[b]]
  | x :: t=>(b :: x) :: t
theorem spl_cons (c b:UInt8) (l:Str):spl c (b :: l)=if b=c then [] :: spl c l else match spl c l with | []=>[[b]] | x :: t=>(b :: x) :: t:=rfl
theorem spl_fst (c:UInt8):∀ s:Str,spl c s=match fstL c s with | none=>[s] | some p=>p.1 :: spl c p.2
 | []=>rfl
 | b :: l=>by
  rw [spl_cons]
  by_cases h:b=c
  ·have e:fstL c (b :: l)=some ([],l):=by unfold fstL; rw [if_pos h]
   rw [if_pos h,e]
  ·have e:fstL c (b :: l)=(fstL c l).map fun p=>(b :: p.1,p.2):=by conv=>lhs; unfold fstL; rw [if_neg h]
   rw [if_neg h,e,spl_fst c l]
   cases fstL c l with
   | none=>rfl
   | some p=>rfl
theorem cut_byte (c:UInt8) (s:Str):Lib.cut s [c]=match fstL c s with | none=>(s,[],false) | some p=>(p.1,p.2,true):=by
 unfold Lib.cut;rw [index_byte]
 cases hf:fstL c s with
 | none=>rfl
 | some p =>
  obtain ⟨x,y⟩:=p;obtain ⟨h1,_⟩:=fstL_some hf;simp only;rw [if_pos (by omega),Int.toNat_natCast];subst h1;simp
theorem splitK_byte (c:UInt8):∀ (n:Nat) (s:Str) (fuel:Nat),s.length≤n→s.length<fuel→Lib.splitK [c] 0 (Lib.countFrom [c] fuel s) s=spl c s
 | n,s,0,_,h2=>by omega
 | n,s,fuel+1,h1,h2=>by
  have hi:=index_byte c s;rw [spl_fst]
  cases hf:fstL c s with
  | none =>
   rw [hf] at hi;simp only at hi;unfold Lib.countFrom;rw [if_pos (by rw [hi]; rfl)]
   rfl
  | some p =>
   obtain ⟨x,y⟩:=p;rw [hf] at hi;simp only at hi;obtain ⟨e,_⟩:=fstL_some hf
   have hl:s.length=x.length+(y.length+1):=by rw [e]; simp
   have hm:¬ ((Lib.index s [c] == -1)=true):=by rw [hi]; simp
   have hd:s.drop ((Lib.index s [c]).toNat+[c].length)=y:=by rw [hi,e]; simp
   have ht:s.take ((Lib.index s [c]).toNat+0)=x:=by rw [hi,e]; simp
   unfold Lib.countFrom;rw [if_neg hm,Nat.add_comm];unfold Lib.splitK;rw [if_neg hm,hd,ht]
   cases n with
   | zero=>omega
   | succ n=>rw [splitK_byte c n y fuel (by omega) (by omega)]
theorem split_byte (c:UInt8) (s:Str):Lib.split s [c]=spl c s:=splitK_byte c s.length s (s.length+1) (Nat.le_refl _) (by omega)
theorem spl_sum (c:UInt8):∀ (n:Nat) (s:Str),s.length≤n→((spl c s).map fun w=>w.length+1).sum=s.length+1
 | n,s,h=>by
  rw [spl_fst]
  cases hf:fstL c s with
  | none=>simp
  | some p =>
   obtain ⟨x,y⟩:=p;obtain ⟨e,_⟩:=fstL_some hf
   have hl:s.length=x.length+(y.length+1):=by rw [e]; simp
   simp only [List.map_cons,List.sum_cons]
   cases n with
   | zero=>omega
   | succ n=>rw [spl_sum c n y (by omega)]; omega
theorem sum_mem {l:List Nat} {x:Nat} (h:x∈l):x≤l.sum:=by
 induction l with
 | nil=>cases h
 | cons a t ih =>
  rcases List.mem_cons.1 h with e | e
  ·subst e; simp
  ·have:=ih e; simp; omega
theorem spl_len {c:UInt8} {s w:Str} (h:w∈spl c s):w.length≤s.length:=by
 have h1:=spl_sum c s.length s (Nat.le_refl _);have h2:=sum_mem (List.mem_map_of_mem (f:=fun w:Str=>w.length+1) h)
 omega
theorem sum_ge {l:List Str} {k:Nat} (h:∀ w∈l,k≤w.length):(k+1)*l.length≤(l.map fun w=>w.length+1).sum:=by
 induction l with
 | nil=>simp
 | cons a t ih =>
  have h1:=ih (fun w hw=>h w (List.mem_cons_of_mem _ hw));have h2:=h a List.mem_cons_self;simp only [List.length_cons,List.map_cons,List.sum_cons,Nat.mul_add,Nat.mul_one]
  omega
theorem spl_count (c:UInt8) (s:Str):(spl c s).length≤s.length+1:=by
 have h1:=spl_sum c s.length s (Nat.le_refl _);have h2:=sum_ge (l:=spl c s) (k:=0) (fun w _=>Nat.zero_le _)
 omega
end Go.Proofs.YtnfflgicngeekaaGreatDoor
