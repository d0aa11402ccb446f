/- Texts of the proof of QuerySearches, put together: WrdP. -/
import Derived.Test.YtnfflgicngeekaaGreatDoorQuerySearchesZ9
import Derived.Lib.Strings
set_option linter.unusedVariables false
set_option linter.unusedSimpArgs false
namespace Go.Proofs.YtnfflgicngeekaaGreatDoor
open Go.RowKit
def smB (c:UInt8):Bool:=(97≤c && c≤122) || (48≤c && c≤57) || 128≤c
def capB (c:UInt8):Bool:=65≤c && c≤90
def letB (c:UInt8):Bool:=smB c || capB c
def lowB (c:UInt8):UInt8:=if capB c then c+32 else c
def lowS (s:Str):Str:=s.map lowB
def spX (i:Nat):Str→List (Nat × Nat)→List (Nat × Nat)
 | [],L=>(i,i+1) :: L
 | d :: _,L=>if letB d=false then (i,i+1) :: L else match L with
  | []=>[]
  | x :: r=>(i,x.2) :: r
def spR:Str→Nat→List (Nat × Nat)
 | [],_=>[]
 | c :: t,i=>if letB c=false then spR t (i+1) else spX i t (spR t (i+1))
def spF:Nat→Str→Nat→List (Nat × Nat)
 | f,[],i=>[(f,i)]
 | f,c :: t,i=>if letB c=true then spF f t (i+1) else (f,i) :: spR t (i+1)
theorem spF_head (f g:Nat):∀ (t:Str) (i:Nat),∃ e r,spF f t i=(f,e) :: r∧spF g t i=(g,e) :: r
 | [],i=>⟨i,[],rfl,rfl⟩
 | c :: t,i=>by
  unfold spF
  by_cases h:letB c=true
  ·rw [if_pos h,if_pos h];exact spF_head f g t (i+1)
  ·rw [if_neg h,if_neg h];exact ⟨_,_,rfl,rfl⟩
theorem spR_letter:∀ (t:Str) (c:UInt8) (i:Nat),letB c=true→spR (c :: t) i=spF i t (i+1)
 | [],c,i,h=>by
  rw [spR,if_neg (by simp [h])]
  rfl
 | d :: t,c,i,h=>by
  rw [spR,if_neg (by simp [h])]
  by_cases hd:letB d=true
  ·obtain ⟨e,r,h2,h3⟩:=spF_head (i+1) i t (i+1+1);rw [spR_letter t d (i+1) hd,h2,spF,if_pos hd,h3]
   show (if letB d=false then _ else _)=_
   rw [if_neg (by simp [hd])]
  ·have hd':letB d=false:=(by simpa using hd);rw [spF,if_neg hd]
   show (if letB d=false then _ else _)=_
   rw [if_pos hd',spR,if_pos hd']
theorem spR_other (t:Str) (c:UInt8) (i:Nat) (h:letB c=false):spR (c :: t) i=spR t (i+1):=by
 rw [spR,if_pos h]
def subS (s:Str) (x y:Nat):Str:=(s.take y).drop x
abbrev Wd:=(Nat × Nat) × Str
def wdAt (s:Str) (p:Nat × Nat):Wd:=(p,lowS (subS s p.1 p.2))
def wordsQ (s:Str):List Wd:=(spR s 0).map (wdAt s)
def progW (s:Str) (k:Nat) (l:List (Nat × Nat)) (f:Option Nat):Prop :=
 match f with
 | none=>l ++ spR (s.drop k) k=spR s 0
 | some f=>f<k∧l ++ spF f (s.drop k) k=spR s 0
theorem progW_start (s:Str):progW s 0 [] none:=by simp [progW]
section
variable {s:Str} {k:Nat} {l:List (Nat × Nat)}
theorem progW_in (hk:k<s.length) (h:progW s k l none) (hc:letB s[k]=true):progW s (k+1) l (some k):=by
 unfold progW at *;simp only at *;rw [List.drop_eq_getElem_cons hk,spR_letter _ _ _ hc] at h;exact ⟨by omega,h⟩
theorem progW_on {f:Nat} (hk:k<s.length) (h:progW s k l (some f)) (hc:letB s[k]=true):progW s (k+1) l (some f):=by
 unfold progW at *;simp only at *;rw [List.drop_eq_getElem_cons hk,spF,if_pos hc] at h;exact ⟨by omega,h.2⟩
theorem progW_off (hk:k<s.length) (h:progW s k l none) (hc:letB s[k]=false):progW s (k+1) l none:=by
 unfold progW at *;simp only at *;rw [List.drop_eq_getElem_cons hk,spR_other _ _ _ hc] at h;exact h
theorem progW_out {f:Nat} (hk:k<s.length) (h:progW s k l (some f)) (hc:letB s[k]=false):progW s (k+1) (l ++ [(f,k)]) none:=by
 unfold progW at *;simp only at *;rw [List.drop_eq_getElem_cons hk,spF,if_neg (by simp [hc])] at h
 simpa using h.2
theorem progW_end (h:progW s s.length l none):l=spR s 0:=by
 unfold progW at h
 simpa [spR] using h
theorem progW_endW {f:Nat} (h:progW s s.length l (some f)):l ++ [(f,s.length)]=spR s 0:=by
 unfold progW at h
 simpa [spF] using h.2
end
theorem ref_other {s:Str} {k:Nat} (hk:k<s.length) (hc:letB s[k]=false):spR (s.drop k) k=spR (s.drop (k+1)) (k+1):=by
 rw [List.drop_eq_getElem_cons hk,spR_other _ _ _ hc]
theorem ref_new {s:Str} {k:Nat} (hk:k<s.length) (hc:letB s[k]=true) (hn:∀ h:k+1<s.length,letB s[k+1]=false):spR (s.drop k) k=(k,k+1) :: spR (s.drop (k+1)) (k+1):=by
 rw [List.drop_eq_getElem_cons hk,spR_letter _ _ _ hc]
 by_cases h:k+1<s.length
 ·rw [List.drop_eq_getElem_cons h,spF,if_neg (by simp [hn h]),spR_other _ _ _ (hn h)]
 ·rw [List.drop_of_length_le (by omega)]
  rfl
theorem ref_more {s:Str} {k:Nat} (hk:k+1<s.length) (hc:letB s[k]=true) (hn:letB s[k+1]=true):∃ e r,spR (s.drop (k+1)) (k+1)=(k+1,e) :: r∧spR (s.drop k) k=(k,e) :: r:=by
 have h1:spR (s.drop k) k=spF k (s.drop (k+1)) (k+1):=by rw [List.drop_eq_getElem_cons (by omega:k<s.length),spR_letter _ _ _ hc]
 have h2:spR (s.drop (k+1)) (k+1)=spF (k+1) (s.drop (k+2)) (k+2):=by rw [List.drop_eq_getElem_cons hk,spR_letter _ _ _ hn]
 have h3:spF k (s.drop (k+1)) (k+1)=spF k (s.drop (k+2)) (k+2):=by rw [List.drop_eq_getElem_cons hk,spF,if_pos hn]
 obtain ⟨e,r,h4,h5⟩:=spF_head (k+1) k (s.drop (k+2)) (k+2);exact ⟨e,r,h2.trans h4,(h1.trans h3).trans h5⟩
theorem sp_in:∀ (t:Str),(∀ f i,f<i→∀ p∈spF f t i,p.1<p.2∧p.2≤i+t.length∧f≤p.1)∧∀ i,∀ p∈spR t i,p.1<p.2∧p.2≤i+t.length∧i≤p.1
 | []=>⟨fun f i hf p hp=>by simp [spF] at hp; subst hp; simp; exact hf,fun i p hp=>by simp [spR] at hp⟩
 | c :: t=>by
  obtain ⟨h1,h2⟩:=sp_in t;refine ⟨fun f i hf p hp => ?_,fun i p hp => ?_⟩
  ·rw [spF] at hp
   split at hp
   ·have:=h1 f (i+1) (by omega) p hp;simp
    omega
   ·rcases List.mem_cons.1 hp with rfl | hp
    ·simp
     omega
    ·have:=h2 (i+1) p hp;simp
     omega
  ·by_cases hc:letB c=true
   ·rw [spR_letter t c i hc] at hp;have:=h1 i (i+1) (by omega) p hp;simp
    omega
   ·rw [spR_other t c i (by simpa using hc)] at hp;have:=h2 (i+1) p hp;simp
    omega
theorem spR_in (t:Str) (i:Nat):∀ p∈spR t i,p.1<p.2∧p.2≤i+t.length∧i≤p.1:=(sp_in t).2 i
def patC (n i:Nat) (c:UInt8):Bool:=smB c || (decide (i≠0) && (c == 63 || (c == 42 && decide (i+1=n))))
def patB (p:Str):Bool:=decide (1≤p.length) && decide (p.length≤40) && (List.range p.length).all fun i=>patC p.length i (p.getD i 0)
def patOpen (p:Str):Bool:=Lib.hasSuffix p [42]
def patBody (p:Str):Str:=Lib.trimSuffix p [42]
def fitN (b x:Str) (k:Nat):Bool:=(List.range k).all fun i=>b.getD i 0 == 63 || b.getD i 0 == x.getD i 0
def fitsB (p w:Str):Bool:=patB p && (decide ((patBody p).length≤w.length) && ((patOpen p || decide (w.length≤(patBody p).length)) && fitN (patBody p) w (patBody p).length))
end Go.Proofs.YtnfflgicngeekaaGreatDoor
