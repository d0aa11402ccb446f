/- Texts of the proof of QuerySearches, put together: ItmH. -/
import Derived.Test.YtnfflgicngeekaaGreatDoorQuerySearchesZ27
import Derived.Test.YtnfflgicngeekaaGreatDoorQuerySearchesZ29
import Derived.Maps.AppendAt
import Derived.Deep.AppendLies
set_option linter.unusedVariables false
set_option linter.unusedSimpArgs false
set_option maxRecDepth 100000
set_option maxHeartbeats 4000000
namespace Go.Proofs.YtnfflgicngeekaaGreatDoor
open Go.RowKit
theorem indexI1_calls (w:World) (v:Value) (xs:List Itm) (F:Nat) (c1:Value) (P:Itm→Bool) (hv:Sl w 62 7 v (itV xs))
  (hcf:∀ (x:Itm) (W:World),Sem.run Tryz.prog (callFunc F #[.agg #[.string ⟨x.id.toArray⟩,.string ⟨x.cust.toArray⟩,.int .i64 x.kind,.string ⟨x.name.toArray⟩,.int .i64 x.tm,.string ⟨x.par.toArray⟩,.string ⟨x.text.toArray⟩],c1]) W = .ok (.enter F #[.agg #[.string ⟨x.id.toArray⟩,.string ⟨x.cust.toArray⟩,.int .i64 x.kind,.string ⟨x.name.toArray⟩,.int .i64 x.tm,.string ⟨x.par.toArray⟩,.string ⟨x.text.toArray⟩],c1]) W)
  (hF:∀ (x:Itm) (W:World),x∈xs→Pure w W→Calls Tryz.prog F #[.agg #[.string ⟨x.id.toArray⟩,.string ⟨x.cust.toArray⟩,.int .i64 x.kind,.string ⟨x.name.toArray⟩,.int .i64 x.tm,.string ⟨x.par.toArray⟩,.string ⟨x.text.toArray⟩],c1] W (BoolPost W (P x))) :
  Calls Tryz.prog 121 #[v,.func (.func F) #[] #[c1]] w (IntPost w (idxQ P xs 0)):=by
 have HF:=hd_ hF;obtain ⟨A,n,c,rfl,hc1,hc2,hl,hr⟩:=hv
 have hln:xs.length=n:=by rw [itV_len] at hl; omega
 subst hln;have HR:=hd_ hr;clear hF hl hr
 go_enter Tryz.func121,Tryz.ntmps121
 go_wp2_with fail
 go_loopg [8] xs.length (fun gk i wr=>∃ k:Nat,xs.length - k=gk∧k≤xs.length∧i = .int .i64 (k:Int)∧idxQ P xs 0=idxQ P (xs.drop k) (k:Int)∧Pure w wr)
 case atStart=>exact ⟨0,by omega,by omega,rfl,rfl,Mod.refl _ _⟩
 case round =>
  obtain ⟨k,rfl,hk,rfl,hix,hm⟩:=hrel;have HIX:=hd_ hix;clear hix
  by_cases hlt:k<xs.length
  ·obtain ⟨g,off,rfl,hrow⟩:=HR.out (by omega);have hget:=itV_get xs k hlt;have hq0:=(hrow.mod hm id).cell (hget.1);have hq1:=(hrow.mod hm id).cell (hget.2.1);rw [← Nat.add_assoc] at hq1;have hq2:=(hrow.mod hm id).cell (hget.2.2.1);rw [← Nat.add_assoc] at hq2;have hq3:=(hrow.mod hm id).cell (hget.2.2.2.1);rw [← Nat.add_assoc] at hq3;have hq4:=(hrow.mod hm id).cell (hget.2.2.2.2.1);rw [← Nat.add_assoc] at hq4;have hq5:=(hrow.mod hm id).cell (hget.2.2.2.2.2.1);rw [← Nat.add_assoc] at hq5;have hq6:=(hrow.mod hm id).cell (hget.2.2.2.2.2.2);rw [← Nat.add_assoc] at hq6;clear hget;have hd:xs.drop k=xs[k] :: xs.drop (k+1):=List.drop_eq_getElem_cons hlt;have hcall:=HF.out xs[k] wr (List.getElem_mem hlt) hm
   have hi2:idxQ P xs 0=if P xs[k] then (k:Int) else idxQ P (xs.drop (k+1)) ((k:Int)+1):=by rw [HIX.out,hd]; rfl
   have HI2:=hd_ hi2;have HC:=hd_ hcall;clear hd hi2 hcall hrow HIX;generalize xs[k]=x at *;go_wp2_with fail;refine HC.out.mono ?_;rintro e w1 ⟨rfl,hm1⟩
   cases hp:P x
   ·go_wp2_with fail
    go_roundg (xs.length - (k+1))
    case measure=>omega
    case rel=>exact ⟨k+1,rfl,hlt,by simp,by rw [HI2.out,hp]; simp,hm.trans hm1⟩
   ·go_wp2_with fail;go_ret;exact IntPost.of (by rw [HI2.out,hp]; rfl) (hm.trans hm1)
  ·have hke:k=xs.length:=(by omega);subst hke;go_wp2_with fail;go_ret;exact IntPost.of (by rw [HIX.out,List.drop_of_length_le (Nat.le_refl _)]; rfl) hm
theorem place1_calls (w:World) (g:Nat) (s:Str) (x:Itm) (hb:w.cell? ⟨g,0,none⟩=some (.string ⟨s.toArray⟩)) :
  Calls Tryz.prog 122 #[.agg #[.string ⟨x.id.toArray⟩,.string ⟨x.cust.toArray⟩,.int .i64 x.kind,.string ⟨x.name.toArray⟩,.int .i64 x.tm,.string ⟨x.par.toArray⟩,.string ⟨x.text.toArray⟩],.pointer (some ⟨g,0,none⟩)] w (BoolPost w (x.id == s)):=by
 have hb2:=cell_alloc hb (.cells (itQ x) 62);unfold itQ at hb2;clear hb
 go_enter Tryz.func122,Tryz.ntmps122
 go_wp2_with fail;go_ret;exact BoolPost.of rfl (pure_alloc _ _)
def plcZ (l:List Itm) (s:Str):Int:=match plc l s with
 | none => -1
 | some k=>(k:Int)
theorem plcZ_idx (s:Str):∀ (l:List Itm) (k:Int),idxQ (fun x=>x.id == s) l k=match plc l s with
  | none => -1
  | some j=>k+(j:Int)
 | [],k=>rfl
 | x :: l,k=>by
  unfold idxQ plc
  by_cases h:x.id=s
  ·have h2:(x.id == s)=true:=(by simpa using h);rw [if_pos h2,if_pos h];simp
  ·have h2:¬ (x.id == s)=true:=(by simpa using h);rw [if_neg h2,if_neg h,plcZ_idx s l (k+1)]
   cases plc l s with
   | none=>rfl
   | some j =>
    show k+1+(j:Int)=k+((j+1:Nat):Int)
    omega
theorem place_calls (w:World) (v:Value) (xs:List Itm) (s:Str) (hv:Its w v xs):Calls Tryz.prog 59 #[v,.string ⟨s.toArray⟩] w (IntPost w (plcZ xs s)):=by
 have B0:=Blk.new w 9 #[.string ⟨s.toArray⟩]
 have HIX:=hd_ (indexI1_calls (w.alloc (.cells #[.string ⟨s.toArray⟩] 9)) v xs 122 (.pointer (some ⟨w.heap.size,0,none⟩)) (fun x=>x.id == s) (hv.pure (pure_alloc _ _)) (fun _ _=>rfl)
  (fun x W _ hm=>place1_calls W w.heap.size s x (hm.keep (by simp [B0.cell 0]) id)))
 have HP:Hid (idxQ (fun x=>x.id == s) xs 0=plcZ xs s):=hd_ (by
  rw [plcZ_idx];unfold plcZ
  cases plc xs s with
  | none=>rfl
  | some j=>simp)
 obtain ⟨A,n,c,rfl⟩:=Sl.form hv;clear hv B0
 go_enter Tryz.func59,Tryz.ntmps59
 go_wp2_with fail;refine HIX.out.mono ?_;rintro e w1 ⟨rfl,hm⟩;clear HIX;generalize idxQ (fun x=>x.id == s) xs 0=r at *;go_wp2_with fail;go_ret;exact IntPost.of HP.out.symm ((pure_alloc _ _).trans hm)
structure Ups (l:List Itm) (i:Nat) (out:List Nat) (q:Nat):Prop where
 at_:stp l out.length i=some q
 get:∀ a,a<out.length→out[a]? = stp l (a+1) i
theorem Ups.start (l:List Itm) (i:Nat):Ups l i [] i:=⟨rfl,fun a h=>absurd h (by simp)⟩
theorem Ups.step {l:List Itm} {i q k:Nat} {out:List Nat} (h:Ups l i out q) (hu:upI l q=some k):Ups l i (out ++ [k]) k:=by
 have h1:=(stp_succ h.at_).trans hu;refine ⟨by simpa using h1,fun a ha => ?_⟩;rw [List.length_append,List.length_singleton] at ha
 rcases Nat.eq_or_lt_of_le (Nat.le_of_lt_succ ha) with rfl | hlt
 ·rw [h1]; simp
 ·rw [List.getElem?_append_left hlt];exact h.get a hlt
theorem Ups.top {l:List Itm} {i q m:Nat} {out:List Nat} (h:Ups l i out q) (hu:upI l q=none) (hm:out.length≤m):chn l m i=out:=by
 apply List.ext_getElem?
 intro a;rw [chn_get]
 rcases Nat.lt_or_ge a out.length with hlt | hge
 ·rw [if_pos (by omega),h.get a hlt]
 ·rw [List.getElem?_eq_none hge]
  split
  ·obtain ⟨d,rfl⟩:∃ d,a=out.length+d:=⟨a - out.length,by omega⟩;rw [show out.length+d+1=(out.length+1)+d by omega,stp_add,stp_succ h.at_,hu]
   rfl
  ·rfl
theorem Ups.full {l:List Itm} {i q m:Nat} {out:List Nat} (h:Ups l i out q) (hm:out.length=m):chn l m i=out:=by
 apply List.ext_getElem?
 intro a;rw [chn_get]
 rcases Nat.lt_or_ge a out.length with hlt | hge
 ·rw [if_pos (by omega),h.get a hlt]
 ·rw [List.getElem?_eq_none hge,if_neg (by omega)]
def natsV (l:List Nat):List Value:=l.map fun (n:Nat)=>Value.int .i64 (n:Int)
theorem natsV_len (l:List Nat):(natsV l).length=l.length:=by simp [natsV]
theorem natsV_get (l:List Nat) (i:Nat) (h:i<l.length):(natsV l)[i]? = some (.int .i64 (l[i]:Int)):=by simp [natsV,h]
def RAbPost (w:World) (l:List Itm) (i:Nat) (e:Ending) (w':World):Prop :=
 ∃ A cap bl,e = .returned (.tuple #[.slice A (chn l (l.length+1) i).length cap,.bool bl])∧w'.ownsRow w.heap.size 3 1 (.slice A (chn l (l.length+1) i).length cap) (chn l (l.length+1) i).length (natsV (chn l (l.length+1) i))∧Pure w w'
def RAbRel (w:World) (l:List Itm) (x:Itm) (i gk:Nat) (ov kv:Value) (wr:World):Prop :=
 ∃ (out:List Nat) (q:Nat) (y:Itm) (A:Option Addr) (cap:Nat),l.length+1 - out.length=gk∧out.length≤l.length∧ov = .slice A out.length cap∧l[q]? = some y∧kv = .int .i64 (plcZ l y.par)∧Ups l i out q∧(out≠[]→y.par≠[])∧(out≠[]→x.par≠[]) ∧
  wr.ownsRow w.heap.size 3 1 (.slice A out.length cap) out.length (natsV out)∧Pure w wr∧w.heap.size≤wr.heap.size
theorem info_int7:(Tryz.prog.info? 3).map (fun i=>(i.zero,i.size,i.bytes))=some (some (.int .i64 0),1,8):=by kernel_rfl
theorem rabove_calls (w:World) (v:Value) (l:List Itm) (x:Itm) (i:Nat) (hx:l[i]? = some x) (hv:Its w v l) (hl:l.length≤100000):Calls Tryz.prog 124 #[v,.int .i64 (i:Int)] w (RAbPost w l i):=by
 obtain ⟨i0,hi0,hz0,hz1,hz2⟩:=info_parts info_int7;have HPL:=hd_ (fun W (h:Pure w W) s=>place_calls W v l s (hv.pure h));obtain ⟨A,n,c,rfl,hc1,hc2,hl2,hr⟩:=hv
 have hln:l.length=n:=by rw [itV_len] at hl2; omega
 subst hln
 have hi:i<l.length:=by
  rcases Nat.lt_or_ge i l.length with h | h
  ·exact h
  ·rw [List.getElem?_eq_none h] at hx; cases hx
 obtain ⟨g,off,rfl,hrow⟩:=hr (by omega);have HROW:=hd_ hrow
 have hxi:l[i]=x:=by rw [List.getElem?_eq_getElem hi] at hx; injection hx
 have HX:=hd_ hx;have HXC:=hd_ (fun W (h:Pure w W)=>(item_cells (HROW.out.mod h id) hi).2.2.2.2.2.1);rw [hxi] at HXC;have q5:=HXC.out w (Mod.refl _ _);have i1:(0:Int)≤(i:Int):=(by omega);have i2:(i:Int)<(l.length:Int):=(by omega);clear hl2 hr hrow hxi hx
 go_enter Tryz.func124,Tryz.ntmps124
 go_wp2_with fail;refine (HPL.out _ (Mod.refl _ _) _).mono ?_;rintro e w1 ⟨rfl,m1⟩;have hs1:=m1.size;clear q5;go_wp2_with fail
 go_loopg [6,7] (l.length+1) (fun gk ov kv wr=>RAbRel w l x i gk ov kv wr)
 case atStart=>exact ⟨[],i,x,none,0,by simp,by simp,rfl,HX.out,rfl,Ups.start l i,fun h=>absurd rfl h,fun h=>absurd rfl h,⟨rfl,.inl ⟨rfl,rfl⟩⟩,m1,hs1⟩
 case round =>
  clear m1 hs1;obtain ⟨out,q,y,A,cap,rfl,hol,rfl,hqy,rfl,hup,hy1,hx1,hown,hm,hsz⟩:=hrel
  have hql:q<l.length:=by
   rcases Nat.lt_or_ge q l.length with h | h
   ·exact h
   ·rw [List.getElem?_eq_none h] at hqy; cases hqy
  have hup0:upI l q=if y.par=[] then none else plc l y.par:=by
   unfold upI;rw [hqy]
  have q5:=HXC.out wr hm;have HUP:=hd_ hup;have HU0:=hd_ hup0;have HY1:=hd_ hy1;have HX1:=hd_ hx1;have HQY:=hd_ hqy;clear hup hup0 hy1 hx1 hqy
  cases hp:plc l y.par with
  | none =>
   have hz:plcZ l y.par = -1:=by unfold plcZ; rw [hp]
   have hu:upI l q=none:=by rw [HU0.out,hp]; split <;> rfl
   have HF:=hd_ (HUP.out.top hu (m:=l.length+1) (by omega));rw [hz];clear hz hp hu HUP HU0 HY1 HX1 HQY
   cases he:x.par.isEmpty
   all_goals
    go_wp2_with fail;refine bodyPost_ret (v:=.tuple #[.slice A out.length cap,.bool true]) (by simp [results,Tryz.results124,go_sem]) rfl ?_;exact ⟨A,cap,true,by rw [HF.out],by rw [HF.out]; exact hown,hm⟩
  | some k =>
   have hz:plcZ l y.par=(k:Int):=by unfold plcZ; rw [hp]
   have hkl:=(plc_lt _ _ _ hp).1;rw [hz]
   cases he:x.par.isEmpty
   ·have hyp:y.par≠[]:=by
     cases out with
     | nil =>
      have h1:=HUP.out.at_;simp [stp] at h1;subst h1;have h2:=HQY.out;rw [HX.out] at h2
      injection h2 with h2
      subst h2;intro h;rw [h] at he
      cases he
     | cons a t=>exact HY1.out (by simp)
    have hu:upI l q=some k:=by rw [HU0.out,if_neg hyp,hp]
    have hxp:x.par≠[]:=by
     intro h;rw [h] at he
     cases he
    have HUN:=hd_ (HUP.out.step hu);have HXP:=hd_ hxp;have HPC:=hd_ (fun W (h:Pure w W)=>(item_cells (HROW.out.mod h id) hkl).2.2.2.2.2.1);have HPK:Hid (l[k]? = some l[k]):=hd_ (List.getElem?_eq_getElem hkl);have HPLK:=hd_ (fun W (h:Pure w W)=>HPL.out W h l[k].par);have j1:(0:Int)≤(k:Int):=(by omega);have j2:(k:Int)<(l.length:Int):=(by omega);have hgk:(k:Int) ≥ 0:=(by omega);clear hz hp hu HUP HU0 HY1 HX1 HQY hyp hxp;generalize l[k]=p at *
    have HFIN:Hid (∀ g5 cap5 w5,w5.ownsRow w.heap.size 3 1 (.slice (some ⟨g5,0,none⟩) (out.length+1) cap5) (out.length+1) (natsV out ++ [.int .i64 (k:Int)])→Pure w w5→∀ bl,(out.length=l.length∨p.par=[])→RAbPost w l i (.returned (.tuple #[.slice (some ⟨g5,0,none⟩) (out.length+1) cap5,.bool bl])) w5):=hd_ (by
     intro g5 cap5 w5 h1 h2 bl h3
     have hc:chn l (l.length+1) i=out ++ [k]:=by
      rcases h3 with h3 | h3
      ·exact HUN.out.full (by simp; omega)
      ·refine HUN.out.top ?_ (by simp; omega);unfold upI;rw [HPK.out];simp [h3]
     have hlen:(out ++ [k]).length=out.length+1:=(by simp);refine ⟨_,_,bl,by rw [hc,hlen],?_,h2⟩;rw [hc,hlen]
     simpa [natsV] using h1)
    by_cases hfull:out.length=l.length
    ·have hf1:(l.length:Int)<(out.length:Int)+1:=(by omega);have HFU:=hd_ hfull;clear HXC HPC HPLK HUN HXP hfull
     go_wp2_with ((at_builtin; refine wpList_append_lies _ rfl _ _ _ rfl w.heap.size 3 i0 _ 1 8 Tryz.underlying22 hi0 hz0 hz1 hz2 rfl (by omega) (.slice A out.length cap) out.length (natsV out) rfl (hown.alloc _) ⟨wr.heap.size,0,none⟩ 1 1 [.int .i64 (k:Int)] rfl rfl (World.news_of_block (cs:=#[.int .i64 (k:Int)]) (t:=3) (fr:=(0,0)) (heap_alloc_new wr _)) (by simp [Value.oneCell']) (by omega) (by simp [maxLen]; omega) (by omega) (by have:=hm.size; simp; omega) (wr.heap.size+1) (by simp) ?_; intro g5 cap5 w5 hown5 hgrow hat hlt5); have m5:Pure w w5:=(hm.alloc _).grown hgrow (fun k hk => .inr (by have:=own_block hown k hk; omega)))
     refine bodyPost_ret (v:=.tuple #[.slice (some ⟨g5,0,none⟩) (out.length+1) cap5,.bool false]) (by simp [results,Tryz.results124,go_sem]) rfl ?_;exact HFIN.out _ _ _ hown5 m5 _ (.inl HFU.out)
    ·have hf1:¬ ((l.length:Int)<(out.length:Int)+1):=(by omega)
     cases hpe:p.par.isEmpty
     ·have hpp:p.par≠[]:=by
       intro h;rw [h] at hpe
       cases hpe
      have HPP:=hd_ hpp;clear hpp HXC HFIN
      go_wp2_with ((at_builtin; refine wpList_append_lies _ rfl _ _ _ rfl w.heap.size 3 i0 _ 1 8 Tryz.underlying22 hi0 hz0 hz1 hz2 rfl (by omega) (.slice A out.length cap) out.length (natsV out) rfl (hown.alloc _) ⟨wr.heap.size,0,none⟩ 1 1 [.int .i64 (k:Int)] rfl rfl (World.news_of_block (cs:=#[.int .i64 (k:Int)]) (t:=3) (fr:=(0,0)) (heap_alloc_new wr _)) (by simp [Value.oneCell']) (by omega) (by simp [maxLen]; omega) (by omega) (by have:=hm.size; simp; omega) (wr.heap.size+1) (by simp) ?_; intro g5 cap5 w5 hown5 hgrow hat hlt5); have m5:Pure w w5:=(hm.alloc _).grown hgrow (fun k hk => .inr (by have:=own_block hown k hk; omega)); have p5:=HPC.out w5 m5)
      refine (HPLK.out _ m5).mono ?_;rintro e w6 ⟨rfl,m6⟩;have m7:=m5.trans m6;have s7:=m7.size;have hown6:=own_pure hown5 m6;clear hown5 m5 m6 hgrow hat hlt5;go_wp2_with fail
      go_roundg (l.length+1 - (out.length+1))
      case measure=>omega
      case rel=>exact ⟨out ++ [k],k,p,some ⟨g5,0,none⟩,cap5,by simp,by simp; omega,by simp,HPK.out,rfl,HUN.out,fun _=>HPP.out,fun _=>HXP.out,by simpa [natsV] using hown6,m7,s7⟩
     ·clear HXC HPLK HUN HXP;have hpl:p.par=[]:=List.isEmpty_iff.1 hpe;have HPL2:=hd_ hpl;clear hpl
      go_wp2_with ((at_builtin; refine wpList_append_lies _ rfl _ _ _ rfl w.heap.size 3 i0 _ 1 8 Tryz.underlying22 hi0 hz0 hz1 hz2 rfl (by omega) (.slice A out.length cap) out.length (natsV out) rfl (hown.alloc _) ⟨wr.heap.size,0,none⟩ 1 1 [.int .i64 (k:Int)] rfl rfl (World.news_of_block (cs:=#[.int .i64 (k:Int)]) (t:=3) (fr:=(0,0)) (heap_alloc_new wr _)) (by simp [Value.oneCell']) (by omega) (by simp [maxLen]; omega) (by omega) (by have:=hm.size; simp; omega) (wr.heap.size+1) (by simp) ?_; intro g5 cap5 w5 hown5 hgrow hat hlt5); have m5:Pure w w5:=(hm.alloc _).grown hgrow (fun k hk => .inr (by have:=own_block hown k hk; omega)); have p5:=HPC.out w5 m5)
      refine bodyPost_ret (v:=.tuple #[.slice (some ⟨g5,0,none⟩) (out.length+1) cap5,.bool true]) (by simp [results,Tryz.results124,go_sem]) rfl ?_;exact HFIN.out _ _ _ hown5 m5 _ (.inr HPL2.out)
   ·have hxe:x.par=[]:=List.isEmpty_iff.1 he
    have hon:out=[]:=by
     cases out with
     | nil=>rfl
     | cons a t=>exact absurd hxe (HX1.out (by simp))
    have hqi:q=i:=by
     have h1:=HUP.out.at_;rw [hon] at h1;simp [stp] at h1;exact h1.symm
    have hyx:y=x:=by
     have h2:=HQY.out;rw [hqi,HX.out] at h2
     injection h2 with h2
     exact h2.symm
    have hu:upI l q=none:=by rw [HU0.out,hyx,if_pos hxe]
    have HF:=hd_ (HUP.out.top hu (m:=l.length+1) (by omega));have hgk:(k:Int) ≥ 0:=(by omega);clear hz hp hu HUP HU0 HY1 HX1 HQY hxe hqi hyx hon;go_wp2_with fail;refine bodyPost_ret (v:=.tuple #[.slice A out.length cap,.bool true]) (by simp [results,Tryz.results124,go_sem]) rfl ?_;exact ⟨A,cap,true,by rw [HF.out],by rw [HF.out]; exact hown,hm⟩
end Go.Proofs.YtnfflgicngeekaaGreatDoor
