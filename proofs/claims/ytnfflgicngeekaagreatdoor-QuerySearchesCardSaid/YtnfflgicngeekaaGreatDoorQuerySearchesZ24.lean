/- Texts of the proof of QuerySearches, put together: NumD. -/
import Derived.Test.YtnfflgicngeekaaGreatDoorQuerySearchesZ19
import Derived.Lib.Atoi
import Derived.Lib.ItoaMem
set_option linter.unusedVariables false
set_option linter.unusedSimpArgs false
namespace Go.Proofs.YtnfflgicngeekaaGreatDoor
theorem decFrom_digits:∀ (t:Str) (acc n:Nat),1≤acc→Lib.decFrom acc t=some n→Lib.decDigits n=Lib.decDigits acc ++ t∧acc≤n
 | [],acc,n,_,h=>by simp only [Lib.decFrom,Option.some.injEq] at h; subst h; simp
 | c :: t,acc,n,ha,h=>by
  simp only [Lib.decFrom] at h
  cases hd:Lib.digitVal c with
  | none=>simp [hd] at h
  | some e =>
   simp only [hd] at h;obtain ⟨h1,h2,h3⟩:=Lib.digitVal_eq hd;obtain ⟨k1,k2⟩:=decFrom_digits t (acc*10+e) n (by omega) h;refine ⟨?_,by omega⟩;rw [k1,Lib.decDigits,dif_neg (by omega)];have e1:(acc*10+e) / 10=acc:=(by omega);have e2:48+(acc*10+e) % 10=c.toNat:=(by omega);rw [e1,e2];simp
theorem decDigits_head:∀ (k n:Nat),n≤k→1≤n→(Lib.decDigits n).headD 0≠48
 | 0,n,h,h1=>by omega
 | k+1,n,h,h1=>by
  rw [Lib.decDigits]
  split
  ·rename_i hn
   show UInt8.ofNat (48+n)≠48
   intro he;have:=congrArg UInt8.toNat he;simp at this
   omega
  ·rename_i hn
   have ih:=decDigits_head k (n / 10) (by omega) (by omega)
   cases hd:Lib.decDigits (n / 10) with
   | nil=>exact absurd hd (by rw [Lib.decDigits]; split <;> simp)
   | cons a b=>rw [hd] at ih; simpa using ih
def digB (c:UInt8):Bool:=decide (48≤c.toNat∧c.toNat≤57)
theorem digB_some {c:UInt8} (h:digB c=true):Lib.digitVal c=some (c.toNat - 48):=by
 unfold digB at h;simp at h;unfold Lib.digitVal;rw [if_pos h]
theorem decFrom_all:∀ (t:Str) (acc:Nat),(∀ c∈t,digB c=true)→∃ n,Lib.decFrom acc t=some n
 | [],acc,_=>⟨acc,rfl⟩
 | c :: t,acc,h=>by
  obtain ⟨n,hn⟩:=decFrom_all t (acc*10+(c.toNat - 48)) (fun x hx=>h x (List.mem_cons_of_mem _ hx));exact ⟨n,by simp only [Lib.decFrom,digB_some (h c (List.mem_cons_self ..))]; exact hn⟩
def canD (t:Str):Prop:=¬ (1<t.length∧t.headD 0=48)
theorem decDigits_canon {t:Str} {n:Nat} (h0:t≠[]) (hd:∀ c∈t,digB c=true) (h:Lib.decFrom 0 t=some n):(Lib.decDigits n=t↔canD t)∧(canD t→(n=0↔t=[48])):=by
 cases t with
 | nil=>exact absurd rfl h0
 | cons c t =>
  have hc:=digB_some (hd c (List.mem_cons_self ..));simp only [Lib.decFrom,hc] at h;obtain ⟨h1,h2,_⟩:=Lib.digitVal_eq hc
  by_cases hz:c=48
  ·subst hz;have h':Lib.decFrom 0 t=some n:=(by simpa using h)
   constructor
   ·constructor
    ·intro he hcan;obtain ⟨hl,_⟩:=hcan
     rcases Nat.lt_or_ge n 10 with hn | hn
     ·rw [Lib.decDigits,dif_pos hn] at he;have:=congrArg List.length he;simp at this hl;subst this;simp at hl
     ·have:=decDigits_head n n (Nat.le_refl _) (by omega);rw [he] at this;exact this rfl
    ·intro hcan
     have:t=[]:=by
      cases t with
      | nil=>rfl
      | cons a b=>exact absurd ⟨by simp,rfl⟩ hcan
     subst this;simp only [Lib.decFrom,Option.some.injEq] at h';subst h';rw [Lib.decDigits,dif_pos (by omega)]
     rfl
   ·intro hcan
    have:t=[]:=by
     cases t with
     | nil=>rfl
     | cons a b=>exact absurd ⟨by simp,rfl⟩ hcan
    subst this;simp only [Lib.decFrom,Option.some.injEq] at h';simp [← h']
  ·have hc1:1≤0*10+(c.toNat - 48):=by
    have:c.toNat≠48:=fun he=>hz (UInt8.toNat_inj.mp he)
    omega
   obtain ⟨k1,k2⟩:=decFrom_digits t _ n hc1 h;have hcan:canD (c :: t):=fun hh=>hz (by simpa using hh.2)
   have e:Lib.decDigits n=c :: t:=by
    rw [k1,Lib.decDigits,dif_pos (by omega)];have:48+(0*10+(c.toNat - 48))=c.toNat:=(by omega);rw [this];simp
   refine ⟨⟨fun _=>hcan,fun _=>e⟩,fun _=>⟨fun h=>by omega,fun h => ?_⟩⟩
   injection h with h1 h2
   exact absurd h1 hz
def numT (s:Str):Str:=Lib.trimPrefix s [45]
def numMi (s:Str):Bool:=Lib.hasPrefix s [45]
def numD (D:Nat) (t:Str):Prop:=1≤t.length∧t.length≤D∧∀ c∈t,digB c=true
def numC (s:Str):Prop:=canD (numT s)∧¬ (numMi s=true∧numT s=[48])
instance (D:Nat) (s:Str):Decidable (numD D s):=by unfold numD; infer_instance
instance (s:Str):Decidable (numC s):=by unfold numC canD; infer_instance
def numQ (D:Nat) (s:Str):Option Int:=if numD D (numT s)∧numC s then Lib.atoi s else none
theorem num_cases (s:Str):(numMi s=false∧numT s=s)∨(numMi s=true∧∃ t,s=45 :: t∧numT s=t):=by
 unfold numMi numT Lib.trimPrefix
 cases s with
 | nil=>exact .inl ⟨by rfl,by rfl⟩
 | cons c t =>
  by_cases h:c=45
  ·subst h;exact .inr ⟨by simp [Lib.hasPrefix],t,rfl,by simp [Lib.hasPrefix]⟩
  ·have:Lib.hasPrefix (c :: t) [45]=false:=by
    unfold Lib.hasPrefix;simp [List.isPrefixOf];exact fun e=>h e.symm
   exact .inl ⟨this,by rw [this]; rfl⟩
theorem num_atoi {D:Nat} {s:Str} (h:numD D (numT s)) (hD:D≤9):∃ n,Lib.atoi s=some n ∧ -1000000000<n∧n<1000000000∧(Lib.itoa n=s↔numC s)∧s.length≤10:=by
 obtain ⟨h1,h2',h3⟩:=h;have h2:(numT s).length≤9:=(by omega);clear h2';obtain ⟨m,hm⟩:=decFrom_all (numT s) 0 h3;have hlt:=Lib.decFrom_lt _ _ _ hm
 have hne:numT s≠[]:=by intro e; rw [e] at h1; simp at h1
 have hb:m<1000000000:=by
  have:10 ^ (numT s).length≤10 ^ 9:=Nat.pow_le_pow_right (by omega) h2
  omega
 obtain ⟨k1,k2⟩:=decDigits_canon hne h3 hm
 rcases num_cases s with ⟨e1,e2⟩ | ⟨e1,t,e2,e3⟩
 ·rw [e2] at h1 h2 h3 hm k1 k2 hne
  cases s with
  | nil=>exact absurd rfl hne
  | cons c t =>
   have hc:=h3 c (List.mem_cons_self ..);unfold digB at hc;simp at hc
   have n1:c≠45:=by intro e; subst e; simp at hc
   have n2:c≠43:=by intro e; subst e; simp at hc
   refine ⟨(m:Int),?_,by omega,by omega,?_,by simp at h2 ⊢; omega⟩
   ·unfold Lib.atoi Lib.decNat
    simp [n1,n2,hm]
   ·rw [Lib.itoa_nonneg,k1];unfold numC;rw [e2,e1];simp
 ·rw [e3] at h1 h2 h3 hm k1 k2 hne;subst e2;refine ⟨-(m:Int),?_,by omega,by omega,?_,by simp; omega⟩
  ·unfold Lib.atoi Lib.decNat
   cases t with
   | nil=>exact absurd rfl hne
   | cons c r=>simp [hm]
  ·unfold numC;rw [e3,e1]
   rcases Nat.eq_zero_or_pos m with hz | hz
   ·subst hz;rw [show (-((0:Nat):Int))=((0:Nat):Int) by rfl,Lib.itoa_nonneg]
    constructor
    ·intro he;have:=decDigits_head 0 0 (Nat.le_refl _);rw [Lib.decDigits,dif_pos (by omega)] at he
     injection he with he _
     exact absurd he (by decide)
    ·rintro ⟨c1,c2⟩;exact absurd ⟨rfl,(k2 c1).mp rfl⟩ c2
   ·rw [Lib.itoa_neg m hz];simp only [List.cons.injEq,true_and];rw [k1]
    constructor
    ·intro c1;exact ⟨c1,fun hh=>by have:=(k2 c1).mpr hh; omega⟩
    ·exact fun h=>h.1
end Go.Proofs.YtnfflgicngeekaaGreatDoor
