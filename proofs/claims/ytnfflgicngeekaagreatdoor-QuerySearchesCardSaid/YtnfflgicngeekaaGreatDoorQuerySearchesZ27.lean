/- Texts of the proof of QuerySearches, put together: SeqS, IdxT. -/
import Derived.Test.YtnfflgicngeekaaGreatDoorQuerySearchesZ9
import Derived.Test.YtnfflgicngeekaaGreatDoorQuerySearchesZ13
import Derived.Test.YtnfflgicngeekaaGreatDoorQuerySearchesZ17
import Derived.Lib.SliceRun
import Derived.Sort.Grow
set_option linter.unusedVariables false
set_option linter.unusedSimpArgs false
set_option maxRecDepth 100000
set_option maxHeartbeats 1000000
namespace Go.Proofs.YtnfflgicngeekaaGreatDoor
open Go.RowKit
def idxQ {α:Type} (P:α→Bool):List α→Int→Int
 | [],_ => -1
 | x :: xs,k=>if P x then k else idxQ P xs (k+1)
theorem idxQ_any {α:Type} (P:α→Bool):∀ (xs:List α) (k:Int),0≤k→decide (0≤idxQ P xs k)=xs.any P
 | [],k,_=>by simp [idxQ]
 | x :: xs,k,hk=>by
  unfold idxQ
  cases hp:P x with
  | true=>simp [hp]; omega
  | false=>simpa [hp] using idxQ_any P xs (k+1) (by omega)
theorem strsV_lenT (xs:List Str):(strsV xs).length=xs.length:=by simp [strsV]
theorem indexQs_calls (w:World) (v:Value) (xs:List Str) (y:Str) (hv:Sl w 9 1 v (strsV xs)):Calls Tryz.prog 223 #[v,.string ⟨y.toArray⟩] w (IntPost w (idxQ (fun x=>y == x) xs 0)):=by
 obtain ⟨A,n,c,rfl,hc1,hc2,hl,hr⟩:=hv
 have hln:xs.length=n:=by rw [strsV_lenT] at hl; omega
 subst hln;have HR:=hd_ hr;clear hl hr
 go_enter Tryz.func223,Tryz.ntmps223
 go_wp2_with fail
 go_loopg [8] xs.length (fun gk i wr=>∃ k:Nat,xs.length - k=gk∧k≤xs.length∧i = .int .i64 (k:Int)∧idxQ (fun x=>y == x) xs 0=idxQ (fun x=>y == x) (xs.drop k) (k:Int)∧w=wr)
 case atStart=>exact ⟨0,by omega,by omega,rfl,rfl,rfl⟩
 case round =>
  obtain ⟨k,rfl,hk,rfl,hix,rfl⟩:=hrel;have HIX:=hd_ hix;clear hix
  by_cases hlt:k<xs.length
  ·obtain ⟨g,off,rfl,hrow⟩:=HR.out (by omega);have hq:=hrow.cell (strsV_get xs k hlt);have hd:xs.drop k=xs[k] :: xs.drop (k+1):=List.drop_eq_getElem_cons hlt
   have hi2:idxQ (fun x=>y == x) xs 0=if (fun x=>y == x) xs[k] then (k:Int) else idxQ (fun x=>y == x) (xs.drop (k+1)) ((k:Int)+1):=by rw [HIX.out,hd]; rfl
   have HI2:=hd_ hi2;clear hd hi2 hrow HIX;generalize xs[k]=x at *
   have heq:(y == x)=(y == x):=by first | rfl | (exact Bool.eq_iff_iff.2 (by simp; try omega))
   cases hp:(y == x)
   ·have hp2:=heq.trans hp;have HP:=hd_ hp;clear hp heq;go_wp2_with fail
    go_roundg (xs.length - (k+1))
    case measure=>omega
    case rel=>exact ⟨k+1,rfl,hlt,by simp,by rw [HI2.out]; simp only [HP.out]; simp,rfl⟩
   ·have hp2:=heq.trans hp;have HP:=hd_ hp;clear hp heq;go_wp2_with fail;go_ret;exact IntPost.of (by rw [HI2.out]; simp only [HP.out]; simp) (Mod.refl _ _)
  ·have hke:k=xs.length:=(by omega);subst hke;go_wp2_with fail;go_ret;exact IntPost.of (by rw [HIX.out,List.drop_of_length_le (Nat.le_refl _)]; rfl) (Mod.refl _ _)
theorem containsQs_calls (w:World) (v:Value) (xs:List Str) (y:Str) (hv:Sl w 9 1 v (strsV xs)):Calls Tryz.prog 174 #[v,.string ⟨y.toArray⟩] w (BoolPost w (xs.any (fun x=>y == x))):=by
 have HC:=hd_ (indexQs_calls w v xs y hv);have HI:=hd_ (idxQ_any (fun x=>y == x) xs 0 (by omega));obtain ⟨A,n,c,rfl⟩:=hv.form;clear hv
 go_enter Tryz.func174,Tryz.ntmps174
 go_wp2_with fail;refine HC.out.mono ?_;rintro e w1 ⟨rfl,hm1⟩;generalize idxQ (fun x=>y == x) xs 0=r at *;go_wp2_with fail;go_ret;exact BoolPost.of HI.out.symm hm1
theorem any_memT (s:Str) (xs:List Str):(xs.any fun x=>s == x)=decide (s∈xs):=by
 rw [Bool.eq_iff_iff,List.any_eq_true,decide_eq_true_iff]
 constructor
 ·rintro ⟨x,hx,h⟩;rw [show s=x by simpa using h];exact hx
 ·intro h;exact ⟨s,h,by simp⟩
end Go.Proofs.YtnfflgicngeekaaGreatDoor
