/- Texts of the proof of QuerySearches, put together: Check, Idx, SplitP, RCheck. -/
import Derived.Test.YtnfflgicngeekaaGreatDoorQuerySearchesZ8
import Derived.Test.YtnfflgicngeekaaGreatDoorQuerySearchesZ9
import Derived.Test.YtnfflgicngeekaaGreatDoorQuerySearchesZ11
import Derived.Deep.RegionHeld3
import Derived.Deep.DeepCutAuto
import Derived.Deep.DrawnRows
set_option linter.unusedVariables false
set_option linter.unusedSimpArgs false
set_option maxRecDepth 100000
set_option maxHeartbeats 400000
namespace Go.Proofs.YtnfflgicngeekaaGreatDoor
open Go.RowKit
attribute [local go_sem ↓] Go.wp_at_zero Go.wp_at_succ
theorem when_t (e:Int) (w:World):Calls Tryz.prog 62 #[.bool true,.int .i64 e] w fun r w'=>r = .returned (.int .i64 e)∧w=w':=by
 go_enter Tryz.func62,Tryz.ntmps62
 go_wp2
 go_ret;exact ⟨rfl,rfl⟩
theorem when_f (e:Int) (w:World):Calls Tryz.prog 62 #[.bool false,.int .i64 e] w fun r w'=>r = .returned (.int .i64 0)∧w=w':=by
 go_enter Tryz.func62,Tryz.ntmps62
 go_wp2
 go_ret;exact ⟨rfl,rfl⟩
def firstErr:List Int→Int
 | []=>0
 | e :: l=>if e=0 then firstErr l else e
theorem firstE_calls (w:World) (g c:Nat) (es:List Int) (hb:RowAt w 30 g 0 (es.map (Value.int .i64))) (hl:es.length≤1000) :
  Calls Tryz.prog 55 #[.slice (some ⟨g,0,none⟩) es.length c] w (IntPost w (firstErr es)):=by
 go_enter Tryz.func55,Tryz.ntmps55
 go_wp2_with fail
 go_loopg [7] es.length (fun gk i wr=>∃ k:Nat,es.length - k=gk∧k≤es.length∧i = .int .i64 (k:Int)∧firstErr (es.drop k)=firstErr es∧w=wr)
 case atStart=>exact ⟨0,by omega,by omega,rfl,rfl,rfl⟩
 case round =>
  obtain ⟨k,rfl,hk,rfl,hf,rfl⟩:=hrel;have HF:=hd_ hf;clear hf
  by_cases hlt:k<es.length
  ·have hc:=hb.cell (i:=k) (u:=.int .i64 es[k]) (by simp [hlt]);rw [Nat.zero_add] at hc;have hd:es.drop k=es[k] :: es.drop (k+1):=List.drop_eq_getElem_cons hlt
   have hf2:firstErr es=if es[k]=0 then firstErr (es.drop (k+1)) else es[k]:=by rw [← HF.out,hd]; rfl
   have HF2:=hd_ hf2;clear hd hf2;generalize es[k]=x at *
   by_cases hx:x=0
   ·subst hx;go_wp2_with fail
    go_roundg (es.length - (k+1))
    case measure=>omega
    case rel=>exact ⟨k+1,rfl,hlt,by simp,by rw [HF2.out]; simp,rfl⟩
   ·have hx2:(x != 0)=true:=(by simpa using hx);go_wp2_with fail;go_ret;exact IntPost.of (by rw [HF2.out,if_neg hx]) (Mod.refl _ _)
  ·have hke:k=es.length:=(by omega);subst hke;go_wp2_with fail;go_ret;exact IntPost.of (by rw [← HF.out]; simp [firstErr]) (Mod.refl _ _)
theorem rin_calls (n a b:Int) (w:World) :
  Calls Tryz.prog 69 #[.int .i64 n,.int .i64 a,.int .i64 b] w fun e w'=>e = .returned (.bool (inB n a b))∧w=w':=by
 unfold inB
 by_cases h1:a≤n
 ·by_cases h2:n≤b
  all_goals
   go_enter Tryz.func69,Tryz.ntmps69
   go_wp2
   go_ret;exact ⟨by simp [h1,h2],rfl⟩
 ·go_enter Tryz.func69,Tryz.ntmps69
  go_wp2
  go_ret;exact ⟨by simp; omega,rfl⟩
end Go.Proofs.YtnfflgicngeekaaGreatDoor
namespace Go.Proofs.YtnfflgicngeekaaGreatDoor
open Go.RowKit
def countB (n:Int):Bool:=!inB n 0 1000000
def sumI:List Int→Int
 | []=>0
 | x :: l=>x+sumI l
theorem sumI_drop (ws:List Int) (k:Nat) (h:k<ws.length):sumI (ws.drop k)=ws[k]+sumI (ws.drop (k+1)):=by
 rw [List.drop_eq_getElem_cons h]
 rfl
def partL:List Int→Int→Nat
 | [],_=>0
 | x :: l,h=>if h<x then 0 else partL l (h - x)+1
def partAt (ws:List Int) (h:Int) (k:Nat) (r:Int):Prop:=partL ws h=k+partL (ws.drop k) r∧r<sumI (ws.drop k)∧0≤r
theorem partAt.lt {ws:List Int} {h r:Int} {k:Nat} (hp:partAt ws h k r):k<ws.length:=by
 rcases Nat.lt_or_ge k ws.length with h1 | h1
 ·exact h1
 ·have h2:=hp.2.1;rw [List.drop_of_length_le h1] at h2;have h3:=hp.2.2;simp [sumI] at h2
  omega
theorem partAt.done {ws:List Int} {h r:Int} {k:Nat} (hp:partAt ws h k r) (hk:k<ws.length) (hr:r<ws[k]):partL ws h=k:=by
 rw [hp.1,List.drop_eq_getElem_cons hk];simp [partL,hr]
theorem partAt.next {ws:List Int} {h r:Int} {k:Nat} (hp:partAt ws h k r) (hk:k<ws.length) (hr:ws[k]≤r):partAt ws h (k+1) (r - ws[k]):=by
 obtain ⟨h1,h2,h3⟩:=hp;rw [sumI_drop ws k hk] at h2;refine ⟨?_,by omega,by omega⟩;have e:partL (ws[k] :: ws.drop (k+1)) r=partL (ws.drop (k+1)) (r - ws[k])+1:=if_neg (by omega);rw [h1,List.drop_eq_getElem_cons hk,e]
 omega
def leS (a b:Str):Bool:=Op.bytesLess a b || a == b
theorem wrongOr_calls (w:World) (g c:Nat) (es:List Int) (hb:RowAt w 30 g 0 (es.map (Value.int .i64))) (hl:es.length≤1000) :
  Calls Tryz.prog 16 #[.slice (some ⟨g,0,none⟩) es.length c] w (IntPost w (firstErr es)):=by
 go_enter Tryz.func16,Tryz.ntmps16
 go_wp2_with fail
 go_loopg [7] es.length (fun gk i wr=>∃ k:Nat,es.length - k=gk∧k≤es.length∧i = .int .i64 (k:Int)∧firstErr (es.drop k)=firstErr es∧w=wr)
 case atStart=>exact ⟨0,by omega,by omega,rfl,rfl,rfl⟩
 case round =>
  obtain ⟨k,rfl,hk,rfl,hf,rfl⟩:=hrel;have HF:=hd_ hf;clear hf
  by_cases hlt:k<es.length
  ·have hc:=hb.cell (i:=k) (u:=.int .i64 es[k]) (by simp [hlt]);rw [Nat.zero_add] at hc;have hd:es.drop k=es[k] :: es.drop (k+1):=List.drop_eq_getElem_cons hlt
   have hf2:firstErr es=if es[k]=0 then firstErr (es.drop (k+1)) else es[k]:=by rw [← HF.out,hd]; rfl
   have HF2:=hd_ hf2;clear hd hf2;generalize es[k]=x at *
   by_cases hx:x=0
   ·subst hx;go_wp2_with fail
    go_roundg (es.length - (k+1))
    case measure=>omega
    case rel=>exact ⟨k+1,rfl,hlt,by simp,by rw [HF2.out]; simp,rfl⟩
   ·have hx2:(x != 0)=true:=(by simpa using hx);go_wp2_with fail;go_ret;exact IntPost.of (by rw [HF2.out,if_neg hx]) (Mod.refl _ _)
  ·have hke:k=es.length:=(by omega);subst hke;go_wp2_with fail;go_ret;exact IntPost.of (by rw [← HF.out]; simp [firstErr]) (Mod.refl _ _)
end Go.Proofs.YtnfflgicngeekaaGreatDoor
