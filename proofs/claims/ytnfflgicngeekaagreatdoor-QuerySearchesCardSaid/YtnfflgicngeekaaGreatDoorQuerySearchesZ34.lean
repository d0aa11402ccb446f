/- Texts of the proof of QuerySearches, put together: RunC. -/
import Derived.Test.YtnfflgicngeekaaGreatDoorQuerySearchesZ9
import Derived.Test.YtnfflgicngeekaaGreatDoorQuerySearchesZ28
import Derived.Laws.AppendOwnNone
import Derived.Maps.AppendAt
import Derived.Lib.AppendZerosOnto
set_option linter.unusedVariables false
set_option linter.unusedSimpArgs false
set_option maxRecDepth 100000
set_option maxHeartbeats 2000000
namespace Go.Proofs.YtnfflgicngeekaaGreatDoor
open Go.RowKit
attribute [local go_sem ↓] Go.wp_at_zero Go.wp_at_succ
theorem info_intQ:(Tryz.prog.info? 3).map (fun i=>(i.zero,i.size,i.bytes))=some (some (.int .i64 0),1,8):=by kernel_rfl
theorem info_intsQ:(Tryz.prog.info? 22).map (fun i=>(i.zero,i.size,i.bytes))=some (some (.slice none 0 0),1,24):=by kernel_rfl
theorem Sl.lenI {w:World} {e:TypeId} {A:Option Addr} {n c:Nat} {xs:List Value} (h:Sl w e 1 (.slice A n c) xs):n=xs.length∧n≤c∧c≤9223372036854775807:=by
 obtain ⟨_,_,_,e,h1,h2,h3,_⟩:=h
 cases e
 exact ⟨by omega,h1,h2⟩
def OwnPostI (w:World) (t:TypeId) (xs:List Value) (e:Ending) (w':World):Prop:=∃ v n,e = .returned v∧w'.ownsRow w.heap.size t 1 v n xs∧Pure w w'
def NilOkI (u:Value):Prop:=∀ n c,u = .slice none n c→n=0∧c=0
def SlI (w:World) (v:Value) (bss:List (List Nat)):Prop :=
 ∃ us:List Value,Sl w 22 1 v us∧us.length=bss.length∧∀ i,(h:i<bss.length)→∃ u,us[i]? = some u∧Sl w 3 1 u (nvQ bss[i])∧NilOkI u
theorem SlI.pure {w w':World} {v:Value} {bss:List (List Nat)} (h:SlI w v bss) (hm:Pure w w'):SlI w' v bss:=by
 obtain ⟨us,h1,h2,h3⟩:=h;refine ⟨us,h1.pure hm,h2,fun i hi => ?_⟩;obtain ⟨u,hu,hs,hn⟩:=h3 i hi;exact ⟨u,hu,hs.pure hm,hn⟩
theorem SlI.form {w:World} {v:Value} {bss:List (List Nat)} (h:SlI w v bss):∃ A c,v = .slice A bss.length c∧bss.length≤c∧c≤9223372036854775807:=by
 obtain ⟨us,h1,h2,h3⟩:=h;obtain ⟨A,n,c,rfl⟩:=h1.form;obtain ⟨a,b,d⟩:=h1.lenI;exact ⟨A,c,by rw [a,h2],by omega,d⟩
theorem SlI.at {w:World} {A:Option Addr} {n c i:Nat} {bss:List (List Nat)} (h:SlI w (.slice A n c) bss) (hi:i<bss.length) :
  ∃ g off A2 c2,A=some ⟨g,off,none⟩∧w.cell? ⟨g,off+i,none⟩=some (.slice A2 bss[i].length c2)∧Sl w 3 1 (.slice A2 bss[i].length c2) (nvQ bss[i])∧NilOkI (.slice A2 bss[i].length c2):=by
 obtain ⟨us,h1,h2,h3⟩:=h;have hl:=h1.lenI.1;obtain ⟨g,off,rfl,hr⟩:=h1.rowS (by omega);obtain ⟨u,hu,hs,hn⟩:=h3 i hi;obtain ⟨A2,n2,c2,rfl⟩:=hs.form;have hn2:=hs.lenI.1;rw [nvQ_len] at hn2;subst hn2;exact ⟨g,off,A2,c2,rfl,hr.cell hu,hs,hn⟩
theorem wpList_append_runI {P:Program} {ops:Array Oper} {rest:List Oper} {o:Oper} {a:Act} {Q:Exit→Act→World→Prop} {w:World} (hgd:o.guard=none) (s x:Operand) (t tn:TypeId)
  (ho:o.op = .call { callee:=.builtin .append,args:=#[s,x],argTypes:=#[t,tn] }) (v u r:Value) (w':World) (hs:a.eval s=v) (hx:a.eval x=u)
  (hr:(Builtin.append_ #[t,tn] o.type #[v,u]).run P w = .ok r w') (h:wpList P ops Q rest (a.put o.dst r) w'):wpList P ops Q (o :: rest) a w:=by
 refine wpList_plain hgd fun K hK => ?_;unfold Oper.wp execOp;simp only [ho,resolve,invoke,builtin,Sem.run_bind,Sem.run_pure,Result.andThen_ok,List.map_toArray,List.map_cons,List.map_nil,hs,hx,hr];exact hK _ _ h
theorem zero_sizeI (z:Array Value) (n:Nat):(Builtin.zeroCells z n).size=z.size*n:=by
 unfold Builtin.zeroCells;simp [Nat.mul_comm]
def GrowPostI (w:World) (e:Ending) (w':World):Prop:=∃ v,e = .returned v∧w'.ownsRow w.heap.size 3 1 v 0 []∧Pure w w'
theorem growI_calls (w:World) (n:Nat) (hn:n≤10000000):Calls Tryz.prog 277 #[.slice none 0 0,.int .i64 (n:Int)] w (GrowPostI w):=by
 by_cases h0:n=0
 ·subst h0
  go_enter Tryz.func277,Tryz.ntmps277
  go_wp2_with fail;go_ret;exact ⟨_,rfl,⟨rfl,.inl ⟨rfl,rfl⟩⟩,Mod.refl _ _⟩
 ·obtain ⟨i0,hi0,hz0,hz1,hz2⟩:=info_parts info_intQ;have hge:=grownCap_ge w n 0 3;have hle:=grownCap_le_maxLen w n 0 3 (by simp [maxLen]; omega);have hap:=Lib.run_append_grow_zeros (P:=Tryz.prog) w 22 3 22 3 i0 (.int .i64 0) .i64 .i64 Tryz.underlying22 Tryz.underlying3 hi0 hz0 none 0 0 [] (by simp [Builtin.firstCells]) n (by omega) (by omega) (by omega) (by omega) (by rw [hz2]; omega) (by rw [hz2]; have:=nextslicecap_le (need:=0+n) (old:=0) (by omega); omega);simp only [Nat.zero_add] at hap;generalize hcap:grownCap w n 0 3=cap at *;have HCAP:=hd_ hcap;unfold maxLen at hle;have HAP:=hd_ hap;clear hcap hap
  go_enter Tryz.func277,Tryz.ntmps277
  go_wp2_with (at_builtin; refine wpList_append_runI rfl (.tmp 20) (.tmp 21) _ _ rfl _ _ _ _ rfl rfl HAP.out ?_)
  go_ret;refine ⟨_,rfl,⟨rfl,.inr ⟨w.heap.size,cap,_,rfl,Nat.le_refl _,heap_alloc_new w.drew _,by omega,by simpa [maxLen] using hle,?_,by simp⟩⟩,((Mod.refl _ _).drew).alloc _⟩
  (first | (rw [Array.size_append,Array.size_append,zero_sizeI,zero_sizeI]; simp [Value.cells]; omega) | (rw [Array.size_append,zero_sizeI,zero_sizeI]; simp; omega))
def lensI (bss:List (List Nat)):Nat:=bss.flatten.length
theorem lensI_take (bss:List (List Nat)) (k:Nat) (h:k<bss.length):lensI (bss.take (k+1))=lensI (bss.take k)+bss[k].length:=by
 unfold lensI;rw [List.take_succ_eq_append_getElem h,List.flatten_append,List.length_append];simp
theorem flatI_take (bss:List (List Nat)) (k:Nat) (h:k<bss.length):(bss.take (k+1)).flatten=(bss.take k).flatten ++ bss[k]:=by
 rw [List.take_succ_eq_append_getElem h,List.flatten_append];simp
theorem lensI_le (bss:List (List Nat)):∀ k,lensI (bss.take k)≤lensI bss:=by
 intro k;unfold lensI
 conv=>rhs; rw [← List.take_append_drop k bss,List.flatten_append,List.length_append]
 omega
def CatRelI (w:World) (bss:List (List Nat)) (gk:Nat) (o i:Value) (wr:World):Prop :=
 ∃ (k:Nat) (v:Value),bss.length - k=gk∧k≤bss.length∧i = .int .i64 (k:Int)∧v=o∧wr.ownsRow w.heap.size 3 1 v (lensI (bss.take k)) (nvQ (bss.take k).flatten)∧Pure w wr
theorem concatI_calls (w:World) (v:Value) (bss:List (List Nat)) (hv:SlI w v bss) (hl:lensI bss≤10000000):Calls Tryz.prog 251 #[v] w (OwnPostI w 3 (nvQ bss.flatten)):=by
 obtain ⟨i0,hi0,hz0,hz1,hz2⟩:=info_parts info_intQ;obtain ⟨A,c,rfl,hc1,hc2⟩:=hv.form;have HV:=hd_ hv;clear hv
 go_enter Tryz.func251,Tryz.ntmps251
 go_wp2_with fail
 go_loopg [3,11] bss.length (fun gk t i wr=>∃ k:Nat,bss.length - k=gk∧k≤bss.length∧i = .int .i64 (k:Int)∧t = .int .i64 (lensI (bss.take k):Int)∧Pure w wr)
 case atStart=>exact ⟨0,by omega,by omega,rfl,rfl,Mod.refl _ _⟩
 case round =>
  obtain ⟨k,rfl,hk,rfl,rfl,hm⟩:=hrel;have hle:=lensI_le bss k
  by_cases hlt:k<bss.length
  ·obtain ⟨g,off,A2,c2,rfl,hq,hs,_⟩:=(HV.out.pure hm).at hlt;obtain ⟨-,hl2,hl3⟩:=hs.lenI;have hle2:=lensI_le bss (k+1);have HT:=hd_ (lensI_take bss k hlt);rw [HT.out] at hle2;clear hs;generalize bss[k].length=m at *;generalize lensI (bss.take k)=t0 at *;go_wp2_with fail
   go_roundg (bss.length - (k+1))
   case measure=>omega
   case rel=>exact ⟨k+1,rfl,hlt,by simp,by rw [HT.out]; simp,hm⟩
  ·have hke:k=bss.length:=(by omega);subst hke;rw [List.take_length] at hle ⊢;go_wp2_with fail;refine (growI_calls _ (lensI bss) hl).mono ?_;rintro e w1 ⟨v1,rfl,hown1,hm1⟩
   have hown1':w1.ownsRow w.heap.size 3 1 v1 0 []:=by
    obtain ⟨h1,h2⟩:=hown1;refine ⟨h1,?_⟩
    rcases h2 with h2 | ⟨g,cap,cur,hvv,hg,r⟩
    ·exact .inl h2
    ·exact .inr ⟨g,cap,cur,hvv,Nat.le_trans hm.size hg,r⟩
   have m1:Pure w w1:=hm.trans hm1;clear hm hm1 hown1;go_wp2_with fail
   go_loopg [6,27] bss.length (fun gk o i wr=>CatRelI w bss gk o i wr)
   case atStart=>exact ⟨0,v1,by omega,by omega,rfl,rfl,hown1',m1⟩
   case round =>
    clear hown1' m1;obtain ⟨k,v,rfl,hk,rfl,rfl,hown,hm⟩:=hrel;have hle:=lensI_le bss k
    by_cases hlt:k<bss.length
    ·obtain ⟨g,off,A2,c2,rfl,hq,hs,hnil⟩:=(HV.out.pure hm).at hlt;obtain ⟨-,hl2,hl3⟩:=hs.lenI;have hle2:=lensI_le bss (k+1);have HT:=hd_ (lensI_take bss k hlt);have HF:=hd_ (flatI_take bss k hlt);rw [HT.out] at hle2;have hsz:=hm.size
     cases A2 with
     | none =>
      obtain ⟨h1,h2⟩:=hnil _ _ rfl;subst h2;have hz:bss[k]=[]:=List.eq_nil_of_length_eq_zero h1;have HZ:=hd_ hz;rw [hz] at hq;clear hs hnil hz h1
      go_wp2_with (at_builtin; (refine wpList_append_own_none rfl _ _ _ rfl w.heap.size 3 i0 1 Tryz.underlying22 hi0 v _ _ rfl hown rfl ?_))
      go_roundg (bss.length - (k+1))
      case measure=>omega
      case rel=>exact ⟨k+1,v,rfl,hlt,by simp,rfl,by rw [HT.out,HF.out,HZ.out]; simpa using hown,hm⟩
     | some ad =>
      have hn:∀ j u,(nvQ bss[k])[j]? = some u→wr.cell? (ad.add j)=some u:=by
       intro j u hu
       have hjl:j<bss[k].length:=by
        rcases Nat.lt_or_ge j (nvQ bss[k]).length with h | h
        ·rwa [nvQ_len] at h
        ·rw [List.getElem?_eq_none h] at hu; cases hu
       obtain ⟨g3,o3,he3,hr3⟩:=hs.rowS (by omega)
       injection he3 with he3
       subst he3;have:=hr3.cell hu;unfold Addr.add
       split
       ·rename_i hj
        subst hj
        simpa using this
       ·exact this
      have HN:=hd_ hn
      have hone:∀ u∈nvQ bss[k],u.oneCell'=true:=by
       intro u hu;obtain ⟨x,_,rfl⟩:=List.mem_map.1 hu
       rfl
      have HO:=hd_ hone;have hbl:=nvQ_len bss[k];have HBL:=hd_ hbl;clear hs hnil hn hone hbl;generalize bss[k]=bk at *;generalize hm0:bk.length=m at *;have HM0:=hd_ hm0;clear hm0;generalize lensI (bss.take k)=t0 at *
      go_wp2_with (at_builtin; refine wpList_append_own_at _ rfl _ _ _ rfl w.heap.size 3 i0 _ 1 8 Tryz.underlying22 hi0 hz0 hz1 hz2 rfl (by omega) v t0 _ rfl hown ad m c2 (nvQ bk) rfl (by rw [HBL.out]; omega) HN.out HO.out (by simp [maxLen]; omega) (by omega) (by omega) ?_; intro v5 w5 hown5 hgrow hn5 hat)
      go_roundg (bss.length - (k+1))
      case measure=>omega
      case rel=>exact ⟨k+1,v5,rfl,hlt,by simp,rfl,by rw [HT.out,HF.out]; simpa [nvQ] using hown5,hm.grown hgrow (fun j hj => .inr (own_block hown j hj))⟩
    ·have hke:k=bss.length:=(by omega);subst hke;go_wp2_with fail;go_ret;exact ⟨_,_,rfl,by rw [List.take_length] at hown; exact hown,hm⟩
end Go.Proofs.YtnfflgicngeekaaGreatDoor
