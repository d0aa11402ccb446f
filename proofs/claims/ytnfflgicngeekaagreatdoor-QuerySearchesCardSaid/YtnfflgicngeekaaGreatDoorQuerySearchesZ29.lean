/- Texts of the proof of QuerySearches, put together: ItmC, ItmD. -/
import Derived.Test.YtnfflgicngeekaaGreatDoorQuerySearchesZ9
import Derived.Test.YtnfflgicngeekaaGreatDoorQuerySearchesZ12
import Derived.Test.YtnfflgicngeekaaGreatDoorQuerySearchesZ15
import Derived.Test.YtnfflgicngeekaaGreatDoorQuerySearchesZ18
import Derived.Deep.CutBlock
set_option linter.unusedVariables false
set_option linter.unusedSimpArgs false
set_option maxRecDepth 100000
set_option maxHeartbeats 4000000
namespace Go.Proofs.YtnfflgicngeekaaGreatDoor
open Go.RowKit
theorem item_cells {w:World} {g off k:Nat} {xs:List Itm} (h:RowAt w 62 g off (itV xs)) (hk:k<xs.length) :
  w.cell? ⟨g,off+k*7,none⟩=some (.string ⟨xs[k].id.toArray⟩)∧w.cell? ⟨g,off+k*7+1,none⟩=some (.string ⟨xs[k].cust.toArray⟩)∧w.cell? ⟨g,off+k*7+2,none⟩=some (.int .i64 xs[k].kind) ∧
  w.cell? ⟨g,off+k*7+3,none⟩=some (.string ⟨xs[k].name.toArray⟩)∧w.cell? ⟨g,off+k*7+4,none⟩=some (.int .i64 xs[k].tm)∧w.cell? ⟨g,off+k*7+5,none⟩=some (.string ⟨xs[k].par.toArray⟩)∧w.cell? ⟨g,off+k*7+6,none⟩=some (.string ⟨xs[k].text.toArray⟩):=by
 obtain ⟨h0,h1,h2,h3,h4,h5,h6⟩:=itV_get xs k hk;simp only [Nat.add_assoc];exact ⟨h.cell h0,h.cell h1,h.cell h2,h.cell h3,h.cell h4,h.cell h5,h.cell h6⟩
def itZ:Value:=.agg #[.string ⟨#[]⟩,.string ⟨#[]⟩,.int .i64 0,.string ⟨#[]⟩,.int .i64 0,.string ⟨#[]⟩,.string ⟨#[]⟩]
def itZc:Array Value:=#[.string ⟨#[]⟩,.string ⟨#[]⟩,.int .i64 0,.string ⟨#[]⟩,.int .i64 0,.string ⟨#[]⟩,.string ⟨#[]⟩]
theorem zero_item (W:World):(zeroValue 62).run Tryz.prog W = .ok itZ W:=by kernel_rfl
def itQ (x:Itm):Array Value:=#[.string ⟨x.id.toArray⟩,.string ⟨x.cust.toArray⟩,.int .i64 x.kind,.string ⟨x.name.toArray⟩,.int .i64 x.tm,.string ⟨x.par.toArray⟩,.string ⟨x.text.toArray⟩]
def Its (w:World) (v:Value) (xs:List Itm):Prop:=Sl w 62 7 v (itV xs)
theorem Its.pure {w w':World} {v:Value} {xs:List Itm} (h:Its w v xs) (hm:Pure w w'):Its w' v xs:=Sl.pure h hm
def ByPost (w:World) (xs:List Itm) (e:Ending) (w':World):Prop:=∃ b,e = .returned (.map (some b))∧w.heap.size≤b∧MapX w' b xs.length (byF xs)∧Pure w w'
def ByRel (w:World) (b:Nat) (xs:List Itm) (gk:Nat) (i:Value) (wr:World):Prop :=
 ∃ k:Nat,xs.length - k=gk∧k≤xs.length∧i = .int .i64 (k:Int)∧MapX wr b k (byF (xs.take k))∧Pure w wr
theorem byId_calls (w:World) (v:Value) (xs:List Itm) (hv:Its w v xs) (hz:∀ x∈xs,ItB x) (hd:xs.Pairwise fun x y=>x.id≠y.id) (hl:xs.length≤100000):Calls Tryz.prog 118 #[v] w (ByPost w xs):=by
 have hmm:=@run_makeMap Tryz.prog;obtain ⟨A,n,c,rfl,hc1,hc2,hl2,hr⟩:=hv
 have hln:xs.length=n:=by rw [itV_len] at hl2; omega
 subst hln;have HR:=hd_ hr;have HZ:=hd_ hz;have HD:=hd_ hd;have HM0:=hd_ (MapX.made w);clear hl2 hr hz hd
 go_enter Tryz.func118,Tryz.ntmps118
 go_wp2_with fail;clear hmm;have m0:Pure w (w.alloc (.map #[] 0)):=pure_alloc _ _;obtain ⟨b,hb⟩:∃ b,b=w.heap.size:=⟨_,rfl⟩;rw [← hb] at HM0 ⊢;have hb1:=Nat.le_of_eq hb.symm;clear hb;generalize w.alloc (.map #[] 0)=W at *
 go_loopg [9] xs.length (fun gk i wr=>ByRel w b xs gk i wr)
 case atStart=>exact ⟨0,by omega,by omega,rfl,HM0.out,m0⟩
 case round =>
  clear HM0 m0 W;obtain ⟨k,rfl,hk,rfl,hM,hm⟩:=hrel
  by_cases hlt:k<xs.length
  ·obtain ⟨g,off,rfl,hrow⟩:=HR.out (by omega);obtain ⟨q0,q1,q2,q3,q4,q5,q6⟩:=item_cells (hrow.mod hm id) hlt;have HT:=hd_ (byF_take k hlt HD.out);have HN:=hd_ (byF_new k hlt HD.out);obtain ⟨hz1,_⟩:=HZ.out _ (List.getElem_mem hlt);clear hrow;generalize xs[k]=x at *;obtain ⟨w2,hrun,hM2,hm2⟩:=(hM.alloc (.cells (itQ x) 62)).store Tryz.underlying150 (by omega) x.id (by omega) HN.out (itA x);rw [← HT.out] at hM2;have m2:Pure w w2:=(hm.alloc _).trans' hm2 (fun i hi hlt=>by omega);unfold itQ itA at hrun;clear HT HN hm2 hM hm;go_wp2_with fail
   go_roundg (xs.length - (k+1))
   case measure=>omega
   case rel=>exact ⟨k+1,rfl,by omega,by simp,hM2,m2⟩
  ·obtain rfl:k=xs.length:=by omega
   rw [List.take_length] at hM;go_wp2_with fail;go_ret;exact ⟨b,rfl,hb1,hM,hm⟩
section
variable {w:World} {g:Nat} {t:TypeId} {a0 a1 a2 a3 a4 a5 a6 x0 x1 x2 x3 x4 x5 x6:Value}
theorem Blk.set7 (h:Blk w g t #[a0,a1,a2,a3,a4,a5,a6]):Blk (((((((w.setCell ⟨g,0,none⟩ x0).setCell ⟨g,1,none⟩ x1).setCell ⟨g,2,none⟩ x2).setCell ⟨g,3,none⟩ x3).setCell ⟨g,4,none⟩ x4).setCell ⟨g,5,none⟩ x5).setCell ⟨g,6,none⟩ x6) g t #[x0,x1,x2,x3,x4,x5,x6]:=by
 have:=((((((h.set 0 x0).set 1 x1).set 2 x2).set 3 x3).set 4 x4).set 5 x5).set 6 x6
 simpa using this
theorem Mod.set7 (w:World) (g:Nat) (x0 x1 x2 x3 x4 x5 x6:Value):Mod (· = g) w (((((((w.setCell ⟨g,0,none⟩ x0).setCell ⟨g,1,none⟩ x1).setCell ⟨g,2,none⟩ x2).setCell ⟨g,3,none⟩ x3).setCell ⟨g,4,none⟩ x4).setCell ⟨g,5,none⟩ x5).setCell ⟨g,6,none⟩ x6) :=
 by
  have h:∀ (W:World) (i:Nat) (u:Value),Mod (· = g) w W→Mod (· = g) w (W.setCell ⟨g,i,none⟩ u):=fun W i u h=>Mod.setCell (p:=⟨g,i,none⟩) h (.inl rfl) u;exact h _ _ _ (h _ _ _ (h _ _ _ (h _ _ _ (h _ _ _ (h _ _ _ (h _ _ _ (Mod.refl _ w)))))))
end
def AbovePost (w:World) (l:List Itm) (i:Nat) (e:Ending) (w':World):Prop :=
 ∃ (n:Nat) (lp:Bool),e = .returned (.tuple #[.int .i64 (n:Int),.bool lp])∧lp=lpB l i∧(lp=false→n=(chn l l.length i).length)∧Pure w w'
def AboveRel (w:World) (b gx gy:Nat) (l:List Itm) (x:Itm) (i gk:Nat) (nv iv:Value) (wr:World):Prop :=
 ∃ (j q:Nat) (y:Itm),l.length - j=gk∧j≤l.length∧nv = .int .i64 (j:Int)∧iv = .int .i64 (j:Int)∧Upto l i j q∧l[q]? = some y∧Blk wr gy 62 (itQ y)∧Blk wr gx 62 (itQ x)∧MapX wr b l.length (byF l)∧Pure w wr
theorem iabove_calls (w:World) (b:Nat) (l:List Itm) (x:Itm) (i:Nat) (hx:l[i]? = some x) (hM:MapX w b l.length (byF l)) (hz:∀ x∈l,ItB x) (hd:l.Pairwise fun x y=>x.id≠y.id) (hl:l.length≤100000) :
  Calls Tryz.prog 119 #[.map (some b),itA x] w (AbovePost w l i):=by
 have hblt:=hM.lt;have B0:=(Blk.new w 62 (itQ x)).alloc (.cells (itQ x) 62);have B1:=Blk.snd w (.cells (itQ x) 62) 62 (itQ x);have m0:Pure w ((w.alloc (.cells (itQ x) 62)).alloc (.cells (itQ x) 62)):=(pure_alloc _ _).trans (pure_alloc _ _);have M0:=hM.pure m0;have HB0:=hd_ B0;have HB1:=hd_ B1;have HM0:=hd_ M0;have Hm0:=hd_ m0;have hlen:=M0.len Tryz.underlying150;have HZ:=hd_ hz;have HD:=hd_ hd
 have hi:i<l.length:=by
  rcases Nat.lt_or_ge i l.length with h | h
  ·exact h
  ·rw [List.getElem?_eq_none h] at hx; cases hx
 have HX:=hd_ hx;clear B0 B1 m0 M0 hz hd hM hx;unfold itA;unfold itQ at HB0 HB1 HM0 Hm0 hlen
 go_enter Tryz.func119,Tryz.ntmps119
 go_wp2_with fail;clear hlen;generalize hgx:w.heap.size=gx at *;have hgx1:=Nat.le_of_eq hgx;clear hgx;obtain ⟨gy,hgy⟩:∃ gy,gy=gx+1:=⟨_,rfl⟩;rw [← hgy] at HB1 ⊢;have hgy1:gx<gy:=(by omega);clear hgy
 go_loopg [4,12] l.length (fun gk nv iv wr=>AboveRel w b gx gy l x i gk nv iv wr)
 case atStart=>exact ⟨0,i,x,by omega,by omega,rfl,rfl,Upto.start hi,HX.out,HB1.out,HB0.out,HM0.out,Hm0.out⟩
 case round =>
  clear HB0 HB1 HM0 Hm0;obtain ⟨j,q,y,rfl,hj,rfl,rfl,hup,hqy,hBy,hBx,hM,hm⟩:=hrel;have hql:=hup.lt
  have hyq:l[q]=y:=by rw [List.getElem?_eq_getElem hql] at hqy; injection hqy
  have hU:=up_fnd hql;rw [hyq] at hU;obtain ⟨_,_,_,hzp,_⟩:=HZ.out y (by rw [← hyq]; exact List.getElem_mem hql);unfold itQ at hBy hBx;obtain ⟨c0,c1,c2,c3,c4,c5,c6⟩:=hBy.c7
  by_cases hlt:j<l.length
  ·have hlook:=hM.look_ok Tryz.underlying150 zero_item y.par (by omega);unfold byF at hlook;have HUP:=hd_ hup;have HU:=hd_ hU;have HYQ:=hd_ hyq;clear hup hU hyq hqy
   cases hf:fnd l y.par with
   | none =>
    have hu:upI l q=none:=by
     rcases HU.out with ⟨_,h⟩ | ⟨_,h,_⟩ | ⟨k,hk,_,_,h⟩
     ·exact h
     ·exact h
     ·rw [hf] at h; cases h
    obtain ⟨t1,t2⟩:=HUP.out.top hu hj;have T1:=hd_ t1;have T2:=hd_ t2;rw [hf] at hlook;simp only [Option.map_none,Option.getD_none,Option.isSome_none] at hlook;unfold itZ at hlook;clear hf hu t1 t2 HU HUP hM HX HD HZ hBx hBy HYQ;go_wp2_with fail;refine bodyPost_ret (v:=.tuple #[.int .i64 (j:Int),.bool false]) (by simp [results,Tryz.results119,go_sem]) rfl ?_;exact ⟨j,false,rfl,T1.out.symm,fun _=>T2.out.symm,hm.alloc _⟩
   | some p =>
    rw [hf] at hlook;simp only [Option.map_some,Option.getD_some,Option.isSome_some] at hlook;unfold itA at hlook;have hBy1:=hBy.alloc (.cells (itQ p) 62);have hBx1:=hBx.alloc (.cells (itQ p) 62);unfold itQ at hBy1 hBx1;obtain ⟨d0,d1,d2,d3,d4,d5,d6,df0,df1,df2,df3,df4,df5,df6⟩:=hBy1.c7f;obtain ⟨f0,f1,f2,f3,f4,f5,f6⟩:=hBx1.c7;have HBY:=hd_ hBy1;have HBX:=hd_ hBx1;have HMM:=hd_ hM;clear hBy1 hBx1 hBy hBx hM
    cases he:y.par.isEmpty
    ·obtain ⟨k,hk,hu,hfk⟩:∃ k,∃ hk:k<l.length,upI l q=some k∧l[k]=p:=by
      rcases HU.out with ⟨h,_⟩ | ⟨_,_,h⟩ | ⟨k,hk,_,h1,h2⟩
      ·rw [h] at he; cases he
      ·rw [hf] at h; cases h
      ·rw [hf] at h2
       injection h2 with h2
       exact ⟨k,hk,h1,h2.symm⟩
     have HUK:=hd_ hu;have HPK:=hd_ hfk;clear hf hu hfk HU
     cases hid:(p.id == x.id)
     ·have hki:k≠i:=by
       rintro rfl;have h1:=HX.out;rw [List.getElem?_eq_getElem hk,HPK.out] at h1
       injection h1 with h1
       rw [h1] at hid;simp at hid
      have HST:=hd_ (HUP.out.step HUK.out hki);clear HUP hki;go_wp2_with fail
      go_roundg (l.length - (j+1))
      case measure=>omega
      case rel =>
       have hmy:=Mod.set7 (wr.alloc (.cells (itQ p) 62)) gy (.string ⟨p.id.toArray⟩) (.string ⟨p.cust.toArray⟩) (.int .i64 p.kind) (.string ⟨p.name.toArray⟩) (.int .i64 p.tm) (.string ⟨p.par.toArray⟩) (.string ⟨p.text.toArray⟩);refine ⟨j+1,k,p,rfl,by omega,by simp,by simp,HST.out,by rw [List.getElem?_eq_getElem hk,HPK.out],HBY.out.set7,HBX.out.mod hmy (by omega),(HMM.out.alloc _).mod hmy (by omega),(hm.alloc _).trans' hmy (fun i hi hlt=>by omega)⟩
     ·have hki:k=i:=by
       have h1:=HX.out;rw [List.getElem?_eq_getElem hi] at h1
       injection h1 with h1
       refine id_inj HD.out hk hi ?_;rw [HPK.out,h1];exact eq_of_beq hid
      have hu:=HUK.out;rw [hki] at hu;have HT:=hd_ (HUP.out.back hu hlt);clear HUP hki hu;go_wp2_with fail;refine bodyPost_ret (v:=.tuple #[.int .i64 ((j:Int)+1),.bool true]) (by simp [results,Tryz.results119,go_sem]) rfl ?_;exact ⟨j+1,true,by simp,HT.out.symm,fun h=>absurd h (by decide),hm.alloc _⟩
    ·have hu:upI l q=none:=by
      rcases HU.out with ⟨_,h⟩ | ⟨_,h,_⟩ | ⟨k,hk,h,_⟩
      ·exact h
      ·exact h
      ·exact absurd (List.isEmpty_iff.1 he) h
     obtain ⟨t1,t2⟩:=HUP.out.top hu hj;have T1:=hd_ t1;have T2:=hd_ t2;clear hf hu t1 t2 HU HUP HX HD HZ HYQ;go_wp2_with fail;refine bodyPost_ret (v:=.tuple #[.int .i64 (j:Int),.bool false]) (by simp [results,Tryz.results119,go_sem]) rfl ?_;exact ⟨j,false,rfl,T1.out.symm,fun _=>T2.out.symm,hm.alloc _⟩
  ·obtain rfl:j=l.length:=by omega
   obtain ⟨t1,t2⟩:=hup.full;have T1:=hd_ t1;have T2:=hd_ t2;clear hup t1 t2 hU;go_wp2_with fail;refine bodyPost_ret (v:=.tuple #[.int .i64 (l.length:Int),.bool false]) (by simp [results,Tryz.results119,go_sem]) rfl ?_;exact ⟨l.length,false,rfl,T1.out.symm,fun _=>T2.out.symm,hm⟩
end Go.Proofs.YtnfflgicngeekaaGreatDoor
