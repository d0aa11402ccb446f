/- Texts of the proof of QuerySearches, put together: SchB, SchC, UnqB, QuoS, RngI, EqS, QrV, QrX, LayAny, AskF, LaidI, LawQuerySearches. -/
import Derived.Test.YtnfflgicngeekaaGreatDoorQuerySearchesZ6
import Derived.Test.YtnfflgicngeekaaGreatDoorQuerySearchesZ15
import Derived.Test.YtnfflgicngeekaaGreatDoorQuerySearchesZ37
import Derived.Test.YtnfflgicngeekaaGreatDoorQuerySearchesZ38
import Derived.Test.YtnfflgicngeekaaGreatDoorQuerySearchesZ39
import Derived.Test.YtnfflgicngeekaaGreatDoorQuerySearchesZ40
import Derived.Test.YtnfflgicngeekaaGreatDoorQuerySearchesZ41
import Derived.Ground.NamesProg
import Derived.Shelf.Strings.IndexAnyAll
import Derived.Test.YtnfflgicngeekaaGreatDoorProg
import Derived.Test.YtnfflgicngeekaaGreatDoorRows
import Derived.Stop.LaidErr
import Derived.Lib.LaidTab
import Derived.Lib.LaidU8T
import Derived.ProofKit
set_option linter.unusedVariables false
set_option linter.unusedSimpArgs false
set_option maxRecDepth 100000
set_option maxHeartbeats 8000000
namespace Go.Proofs.YtnfflgicngeekaaGreatDoor
open Go.RowKit
def StrsP (w:World) (ids:List Str) (e:Ending) (w':World):Prop:=∃ v,e = .returned v∧w'.ownsRow w.heap.size 9 1 v ids.length (strsV ids)∧Pure w w'
theorem ItF.name {x:Itm} (h:ItF x):∀ y∈wordsQ x.name,y.2.length≤1000000:=fun y hy=>by have h1:=wordsQ_long _ y hy; have h2:=h.2.1; omega
theorem ItF.words {x:Itm} (h:ItF x):∀ y∈wordsQ x.text,y.2.length≤1000000:=fun y hy=>by have h1:=wordsQ_long _ y hy; have h2:=h.2.2; omega
theorem its_len {w:World} {A:Option Addr} {n c:Nat} {l:List Itm} (h:Its w (.slice A n c) l):n=l.length:=by
 obtain ⟨_,_,_,e,_,_,hh,_⟩:=h
 cases e
 rw [itV_len] at hh
 omega
theorem tgs_len {w:World} {A:Option Addr} {n c:Nat} {l:List TgR} (h:Sl w 110 8 (.slice A n c) (tgV l)):n=l.length:=by
 obtain ⟨_,_,_,e,_,_,hh,_⟩:=h
 cases e
 rw [tgV_len] at hh
 omega
theorem searched_calls (w:World) (v:Value) (l:List TgR) (k nq:Int) (Aq Bq:Option Addr) (cq dq:Nat) (ws:List Str) (xs:List QR) (hv:Sl w 110 8 v (tgV l)) (hw:TgW w l) (hx:∀ t∈l,ItF t.x) (hl:l.length≤1000000) (hf:FdR (QR.key (QR.mk k Aq cq ws nq Bq dq xs))) (hB:QB 1000 (QR.key (QR.mk k Aq cq ws nq Bq dq xs))) (hQ:QS w (QR.mk k Aq cq ws nq Bq dq xs)):Calls Tryz.prog 57 #[qA (QR.mk k Aq cq ws nq Bq dq xs),v] w (StrsP w (fndIds (QR.key (QR.mk k Aq cq ws nq Bq dq xs)) (l.map TgR.x))):=by
 have HV:=hd_ hv;have HX:=hd_ hx;have HFD:=hd_ hf;have HBD:=hd_ hB;have HQ:=hd_ hQ;have HWD:=hd_ hw;obtain ⟨A0,n0,c0,rfl⟩:=hv.form;obtain rfl:=tgs_len hv;have HPA:=hd_ (pure_alloc w (.cells #[.int .i64 k,.slice Aq ws.length cq,.int .i64 nq,.slice Bq xs.length dq] 29));have HB0:=hd_ (Blk.new w 29 #[.int .i64 k,.slice Aq ws.length cq,.int .i64 nq,.slice Bq xs.length dq]);generalize hqk:QR.key (QR.mk k Aq cq ws nq Bq dq xs)=qk at *;have HQK:=hd_ hqk;rw [qA_mk];clear hv hx hf hB hQ hqk hw
 go_enter Tryz.func57,Tryz.ntmps57
 go_upto_region 3 with (fail);generalize (w.alloc (.cells #[.int .i64 k,.slice Aq ws.length cq,.int .i64 nq,.slice Bq xs.length dq] 29))=w1 at *;generalize hg0:w.heap.size=g0 at *;have hsz1:=HPA.out.size
 go_loopg [5,10] l.length (fun gk o i wr=>∃ (j:Nat) (A:Option Addr) (c:Nat),l.length - j=gk∧j≤l.length∧i = .int .i64 (j:Int)∧o = .slice A (fndIds qk ((l.map TgR.x).take j)).length c∧wr.ownsRow w1.heap.size 9 1 (.slice A (fndIds qk ((l.map TgR.x).take j)).length c) (fndIds qk ((l.map TgR.x).take j)).length (strsV (fndIds qk ((l.map TgR.x).take j)))∧Pure w1 wr)
 case atStart=>exact ⟨0,none,0,rfl,by omega,rfl,rfl,World.ownsRow_nil _ _ _ _,Mod.refl _ _⟩
 case round =>
  obtain ⟨j,A,c,rfl,hj,rfl,rfl,hown,hm⟩:=hrel;have HO:=hd_ hown;have HM:=hd_ hm;have hsz:=hm.size;clear hown hm;generalize wr=w2 at *;have hfl:=fndIds_len qk ((l.map TgR.x).take j)
  have hfl2:(fndIds qk ((l.map TgR.x).take j)).length≤1000000:=by rw [List.length_take] at hfl; omega
  clear hfl
  by_cases hlt:j<l.length
  ·have hji:(j:Int)<(l.length:Int):=(by omega);obtain ⟨_,_,_,e,_,_,_,hr0⟩:=HV.out.pure (HPA.out.trans HM.out)
   cases e
   obtain ⟨gx,ox,rfl,hrx⟩:=hr0 (by omega);have q0:=hrx.cell ((tgV_get l j hlt 0 (by omega)).trans rfl);have q1:=hrx.cell ((tgV_get l j hlt 1 (by omega)).trans rfl);have q2:=hrx.cell ((tgV_get l j hlt 2 (by omega)).trans rfl);have q3:=hrx.cell ((tgV_get l j hlt 3 (by omega)).trans rfl);have q4:=hrx.cell ((tgV_get l j hlt 4 (by omega)).trans rfl);have q5:=hrx.cell ((tgV_get l j hlt 5 (by omega)).trans rfl);have q6:=hrx.cell ((tgV_get l j hlt 6 (by omega)).trans rfl);have q7:=hrx.cell ((tgV_get l j hlt 7 (by omega)).trans rfl);simp only [← Nat.add_assoc,Nat.add_zero] at q0 q1 q2 q3 q4 q5 q6 q7;have HXT:=hd_ (HX.out _ (List.getElem_mem hlt));have HWT:=hd_ (Sl.pure (HWD.out _ (List.getElem_mem hlt)) (HPA.out.trans HM.out))
   have hlm:j<(l.map TgR.x).length:=by rw [List.length_map]; exact hlt
   have HNX:=hd_ (fndIds_succ (q:=qk) hlm);rw [List.getElem_map] at HNX;clear hrx hr0;generalize l[j]=t at *;have HPB:Hid (Pure w2 (w2.alloc (.cells #[.string ⟨t.x.id.toArray⟩,.string ⟨t.x.cust.toArray⟩,.int .i64 t.x.kind,.string ⟨t.x.name.toArray⟩,.int .i64 t.x.tm,.string ⟨t.x.par.toArray⟩,.string ⟨t.x.text.toArray⟩,.slice t.A t.n t.c] 110))):=hd_ (pure_alloc _ _);have HB:=hd_ (Blk.new w2 110 #[.string ⟨t.x.id.toArray⟩,.string ⟨t.x.cust.toArray⟩,.int .i64 t.x.kind,.string ⟨t.x.name.toArray⟩,.int .i64 t.x.tm,.string ⟨t.x.par.toArray⟩,.string ⟨t.x.text.toArray⟩,.slice t.A t.n t.c]);have HFC:=hd_ (found_calls t.x t.A t.n t.c HXT.out.1.1 HXT.out.1.2 (by have:=HXT.out.2.1; omega) HXT.out.name (itF_half HXT.out) HXT.out.words (QR.mk k Aq cq ws nq Bq dq xs) (w2.alloc (.cells #[.string ⟨t.x.id.toArray⟩,.string ⟨t.x.cust.toArray⟩,.int .i64 t.x.kind,.string ⟨t.x.name.toArray⟩,.int .i64 t.x.tm,.string ⟨t.x.par.toArray⟩,.string ⟨t.x.text.toArray⟩,.slice t.A t.n t.c] 110)) (by rw [HQK.out]; exact HFD.out) (by rw [HQK.out]; exact HBD.out) (HQ.out.pure ((HPA.out.trans HM.out).trans HPB.out)) (Sl.pure HWT.out HPB.out));rw [HQK.out] at HFC;unfold tgA tgL at HFC;rw [qA_mk] at HFC;have HQB:=hd_ ((HB0.out.modp HM.out).modp HPB.out);generalize fndQ (toQ t.x) qk=fb at *;go_upto_region 5 with (fail);generalize hwa:w2.alloc (.cells #[.string ⟨t.x.id.toArray⟩,.string ⟨t.x.cust.toArray⟩,.int .i64 t.x.kind,.string ⟨t.x.name.toArray⟩,.int .i64 t.x.tm,.string ⟨t.x.par.toArray⟩,.string ⟨t.x.text.toArray⟩,.slice t.A t.n t.c] 110)=w3 at *;generalize hga:w2.heap.size=ga at *;clear hwa hga q0 q1 q2 q3 q4 q5 q6 q7;have hb:=HB.out;have hq:=HQB.out;obtain ⟨x0,x1,x2,x3,x4,x5,x6,x7⟩:=hb.c8;obtain ⟨y0,y1,y2,y3⟩:=hq.c4;clear hb hq;go_wp2_with fail;refine HFC.out.mono ?_;rintro e w6 ⟨rfl,hm6⟩;have HP6:=hd_ (HPB.out.trans hm6);have HO6:=hd_ (own_pure HO.out HP6.out);have hb:=HB.out.modp hm6;clear x0 x1 x2 x3 x4 x5 x6 x7 y0 y1 y2 y3 hm6 HFC;obtain ⟨x0,x1,x2,x3,x4,x5,x6,x7⟩:=hb.c8;clear hb
   cases fb with
   | false =>
    rw [if_neg (by decide),List.append_nil] at HNX;go_wp2_with fail
    go_roundg (l.length - (j+1))
    case measure=>omega
    case rel=>exact ⟨j+1,A,c,rfl,by omega,by simp,by rw [HNX.out],by rw [HNX.out]; exact HO6.out,HM.out.trans HP6.out⟩
   | true =>
    rw [if_pos rfl] at HNX;have hs6:=HP6.out.size;have hs16:=(HM.out.trans HP6.out).size;generalize fndIds qk ((l.map TgR.x).take j)=L at *;obtain ⟨A7,c7,w7,hr7,hown7,hgrow7,hat7⟩:=run_appS (w6.alloc (.cells #[.string ⟨t.x.id.toArray⟩] 9)) 26 w1.heap.size L.length w6.heap.size (.slice A L.length c) L t.x.id (own_pure HO6.out (pure_alloc _ _)) (Blk.new _ _ _) (by simp; omega) (by omega);have hol:=(own_pure HO6.out (pure_alloc w6 (.cells #[.string ⟨t.x.id.toArray⟩] 9))).lt;have HM7:Hid (Pure w1 w7):=hd_ (((HM.out.trans HP6.out).trans (pure_alloc _ _)).trans' (mod_grown hgrow7) (fun i hi hlt=>by have:=(hol i hi).1; omega));have HO7:=hd_ hown7;clear hown7 hgrow7 hat7 hol HO HO6 HP6 HM
    go_wp2_with (at_builtin; refine wpList_append_runI rfl _ _ _ _ rfl _ _ _ _ rfl rfl hr7 ?_)
    go_roundg (l.length - (j+1))
    case measure=>omega
    case rel=>exact ⟨j+1,A7,c7,rfl,by omega,by simp,by rw [HNX.out,List.length_append]; rfl,by rw [HNX.out,List.length_append]; exact HO7.out,HM7.out⟩
  ·obtain rfl:j=l.length:=by omega
   have HEND:Hid (fndIds qk ((l.map TgR.x).take l.length)=fndIds qk (l.map TgR.x)):=hd_ (by rw [show l.length=(l.map TgR.x).length by rw [List.length_map],List.take_length]);rw [HEND.out] at HO ⊢;go_wp2_with fail;go_ret;exact ⟨_,rfl,own_baseQ HO.out (by omega),HPA.out.trans HM.out⟩
theorem findIn_calls (w:World) (v:Value) (l:List Itm) (k nq:Int) (Aq Bq:Option Addr) (cq dq:Nat) (ws:List Str) (xs:List QR) (hv:Its w v l) (hx:∀ t∈l,ItF t) (hl:l.length≤1000000) (hf:FdR (QR.key (QR.mk k Aq cq ws nq Bq dq xs))) (hB:QB 1000 (QR.key (QR.mk k Aq cq ws nq Bq dq xs))) (hQ:QS w (QR.mk k Aq cq ws nq Bq dq xs)):Calls Tryz.prog 19 #[qA (QR.mk k Aq cq ws nq Bq dq xs),v] w (StrsP w (fndIds (QR.key (QR.mk k Aq cq ws nq Bq dq xs)) l)):=by
 have HV:=hd_ hv;have HX:=hd_ hx;have HFD:=hd_ hf;have HBD:=hd_ hB;have HQ:=hd_ hQ;obtain ⟨A0,n0,c0,rfl⟩:=hv.form;obtain rfl:=its_len hv;have HPA:=hd_ (pure_alloc w (.cells #[.int .i64 k,.slice Aq ws.length cq,.int .i64 nq,.slice Bq xs.length dq] 29));have HB0:=hd_ (Blk.new w 29 #[.int .i64 k,.slice Aq ws.length cq,.int .i64 nq,.slice Bq xs.length dq]);generalize hqk:QR.key (QR.mk k Aq cq ws nq Bq dq xs)=qk at *;have HQK:=hd_ hqk;rw [qA_mk];clear hv hx hf hB hQ hqk
 go_enter Tryz.func19,Tryz.ntmps19
 go_upto_region 3 with (fail);generalize (w.alloc (.cells #[.int .i64 k,.slice Aq ws.length cq,.int .i64 nq,.slice Bq xs.length dq] 29))=w1 at *;generalize hg0:w.heap.size=g0 at *;have hsz1:=HPA.out.size
 go_loopg [5,10] l.length (fun gk o i wr=>∃ (j:Nat) (A:Option Addr) (c:Nat),l.length - j=gk∧j≤l.length∧i = .int .i64 (j:Int)∧o = .slice A (fndIds qk (l.take j)).length c∧wr.ownsRow w1.heap.size 9 1 (.slice A (fndIds qk (l.take j)).length c) (fndIds qk (l.take j)).length (strsV (fndIds qk (l.take j)))∧Pure w1 wr)
 case atStart=>exact ⟨0,none,0,rfl,by omega,rfl,rfl,World.ownsRow_nil _ _ _ _,Mod.refl _ _⟩
 case round =>
  obtain ⟨j,A,c,rfl,hj,rfl,rfl,hown,hm⟩:=hrel;have HO:=hd_ hown;have HM:=hd_ hm;have hsz:=hm.size;clear hown hm;generalize wr=w2 at *;have hfl:=fndIds_len qk (l.take j)
  have hfl2:(fndIds qk (l.take j)).length≤1000000:=by rw [List.length_take] at hfl; omega
  clear hfl
  by_cases hlt:j<l.length
  ·have hji:(j:Int)<(l.length:Int):=(by omega);obtain ⟨_,_,_,e,_,_,_,hr0⟩:=HV.out.pure (HPA.out.trans HM.out)
   cases e
   obtain ⟨gx,ox,rfl,hrx⟩:=hr0 (by omega);obtain ⟨q0,q1,q2,q3,q4,q5,q6⟩:=itV_get l j hlt;have q0:=hrx.cell q0;have q1:=hrx.cell q1;have q2:=hrx.cell q2;have q3:=hrx.cell q3;have q4:=hrx.cell q4;have q5:=hrx.cell q5;have q6:=hrx.cell q6;simp only [← Nat.add_assoc,Nat.add_zero] at q0 q1 q2 q3 q4 q5 q6;have HXT:=hd_ (HX.out _ (List.getElem_mem hlt));have HNX:=hd_ (fndIds_succ (q:=qk) hlt);clear hrx hr0;generalize l[j]=t at *;have HPB:Hid (Pure w2 (w2.alloc (.cells #[.string ⟨t.id.toArray⟩,.string ⟨t.cust.toArray⟩,.int .i64 t.kind,.string ⟨t.name.toArray⟩,.int .i64 t.tm,.string ⟨t.par.toArray⟩,.string ⟨t.text.toArray⟩] 62))):=hd_ (pure_alloc _ _);have HB:=hd_ (Blk.new w2 62 #[.string ⟨t.id.toArray⟩,.string ⟨t.cust.toArray⟩,.int .i64 t.kind,.string ⟨t.name.toArray⟩,.int .i64 t.tm,.string ⟨t.par.toArray⟩,.string ⟨t.text.toArray⟩]);have HFC:=hd_ (foundR_calls t HXT.out.1.1 HXT.out.1.2 (by have:=HXT.out.2.1; omega) (by have:=HXT.out.2.2; omega) HXT.out.name (itF_half HXT.out) HXT.out.words (QR.mk k Aq cq ws nq Bq dq xs) (w2.alloc (.cells #[.string ⟨t.id.toArray⟩,.string ⟨t.cust.toArray⟩,.int .i64 t.kind,.string ⟨t.name.toArray⟩,.int .i64 t.tm,.string ⟨t.par.toArray⟩,.string ⟨t.text.toArray⟩] 62)) (by rw [HQK.out]; exact HFD.out) (by rw [HQK.out]; exact HBD.out) (HQ.out.pure ((HPA.out.trans HM.out).trans HPB.out)));rw [HQK.out] at HFC;unfold itA at HFC;rw [qA_mk] at HFC;have HQB:=hd_ ((HB0.out.modp HM.out).modp HPB.out);generalize fndQ (toQ t) qk=fb at *;go_upto_region 5 with (fail);generalize hwa:w2.alloc (.cells #[.string ⟨t.id.toArray⟩,.string ⟨t.cust.toArray⟩,.int .i64 t.kind,.string ⟨t.name.toArray⟩,.int .i64 t.tm,.string ⟨t.par.toArray⟩,.string ⟨t.text.toArray⟩] 62)=w3 at *;generalize hga:w2.heap.size=ga at *;clear hwa hga q0 q1 q2 q3 q4 q5 q6;have hb:=HB.out;have hq:=HQB.out;obtain ⟨x0,x1,x2,x3,x4,x5,x6⟩:=hb.c7;obtain ⟨y0,y1,y2,y3⟩:=hq.c4;clear hb hq;go_wp2_with fail;refine HFC.out.mono ?_;rintro e w6 ⟨rfl,hm6⟩;have HP6:=hd_ (HPB.out.trans hm6);have HO6:=hd_ (own_pure HO.out HP6.out);have hb:=HB.out.modp hm6;clear x0 x1 x2 x3 x4 x5 x6 y0 y1 y2 y3 hm6 HFC;obtain ⟨x0,x1,x2,x3,x4,x5,x6⟩:=hb.c7;clear hb
   cases fb with
   | false =>
    rw [if_neg (by decide),List.append_nil] at HNX;go_wp2_with fail
    go_roundg (l.length - (j+1))
    case measure=>omega
    case rel=>exact ⟨j+1,A,c,rfl,by omega,by simp,by rw [HNX.out],by rw [HNX.out]; exact HO6.out,HM.out.trans HP6.out⟩
   | true =>
    rw [if_pos rfl] at HNX;have hs6:=HP6.out.size;have hs16:=(HM.out.trans HP6.out).size;generalize fndIds qk (l.take j)=L at *;obtain ⟨A7,c7,w7,hr7,hown7,hgrow7,hat7⟩:=run_appS (w6.alloc (.cells #[.string ⟨t.id.toArray⟩] 9)) 26 w1.heap.size L.length w6.heap.size (.slice A L.length c) L t.id (own_pure HO6.out (pure_alloc _ _)) (Blk.new _ _ _) (by simp; omega) (by omega);have hol:=(own_pure HO6.out (pure_alloc w6 (.cells #[.string ⟨t.id.toArray⟩] 9))).lt;have HM7:Hid (Pure w1 w7):=hd_ (((HM.out.trans HP6.out).trans (pure_alloc _ _)).trans' (mod_grown hgrow7) (fun i hi hlt=>by have:=(hol i hi).1; omega));have HO7:=hd_ hown7;clear hown7 hgrow7 hat7 hol HO HO6 HP6 HM
    go_wp2_with (at_builtin; refine wpList_append_runI rfl _ _ _ _ rfl _ _ _ _ rfl rfl hr7 ?_)
    go_roundg (l.length - (j+1))
    case measure=>omega
    case rel=>exact ⟨j+1,A7,c7,rfl,by omega,by simp,by rw [HNX.out,List.length_append]; rfl,by rw [HNX.out,List.length_append]; exact HO7.out,HM7.out⟩
  ·obtain rfl:j=l.length:=by omega
   have HEND:Hid (fndIds qk (l.take l.length)=fndIds qk l):=hd_ (by rw [List.take_length]);rw [HEND.out] at HO ⊢;go_wp2_with fail;go_ret;exact ⟨_,rfl,own_baseQ HO.out (by omega),HPA.out.trans HM.out⟩
def ShP (w:World) (base:Nat) (v:Value) (xs:List Itm) (e:Ending) (w':World):Prop:=e = .returned v∧w'.ownsRow base 62 7 v xs.length (itV (xs.map shorT))∧Mod (fun j=>v.ownBlock=some j) w w'
theorem short_calls (w:World) (base:Nat) (v:Value) (xs:List Itm) (hown:w.ownsRow base 62 7 v xs.length (itV xs)) (hl:xs.length≤1000000) (ht:∀ x∈xs,x.text.length≤1000000):Calls Tryz.prog 12 #[v] w (ShP w base v xs):=by
 by_cases h0:xs.length=0
 ·have hx:xs=[]:=List.eq_nil_of_length_eq_zero h0;subst hx;obtain ⟨A,c,rfl⟩:=own_formS hown;have HO:=hd_ hown;simp only [List.length_nil] at *;clear hown ht hl h0
  go_enter Tryz.func12,Tryz.ntmps12
  go_wp2_with fail
  go_loopg [3,6] 0 (fun gk a i wr=>0=gk∧a=undef∧i = .int .i64 0∧wr=w)
  case atStart=>exact ⟨rfl,rfl,rfl,rfl⟩
  case round =>
   obtain ⟨rfl,rfl,rfl,rfl⟩:=hrel;go_wp2_with fail;go_ret;exact ⟨rfl,HO.out,Mod.refl _ _⟩
 ·obtain ⟨g,cap,hv,hg1,hg2,hc1,hc2⟩:=own_form hown (by omega);subst hv;have HO:Hid (OwnI w base g xs.length cap xs):=hd_ hown;have HT:=hd_ ht;clear hown ht h0;obtain ⟨n,hn⟩:∃ n,xs.length=n:=⟨_,rfl⟩;rw [hn] at HO
  try simp only [hn]
  have HNN:=hd_ hn;have hn1:n≤1000000:=(by omega);clear hn hl
  go_enter Tryz.func12,Tryz.ntmps12
  go_wp2_with fail
  go_loopg [3,6] n (fun gk a i wr=>∃ j:Nat,n - j=gk∧j≤n∧i = .int .i64 (j:Int)∧OwnI wr base g n cap (shorL xs j)∧Mod (· = g) w wr)
  case atStart=>exact ⟨0,rfl,by omega,rfl,by rw [shorL_zero]; exact HO.out,Mod.refl _ _⟩
  case round =>
   obtain ⟨j,rfl,hj,rfl,hown,hm⟩:=hrel;have HW:=hd_ hown;have HM:=hd_ hm;clear hown hm;generalize wr=w2 at *
   by_cases hlt:j<n
   ·have hjx:j<xs.length:=by rw [HNN.out]; exact hlt
    have hjs:j<(shorL xs j).length:=by rw [shorL_len]; exact hjx
    have HAT:=hd_ (shorL_at hjx);have HSU:=hd_ (shorL_succ hjx);have q6:=(HW.out.cells hjs).2.2.2.2.2.2;rw [HAT.out] at q6;have f6:=HW.out.frozen (j*7+6);have HTX:=hd_ (HT.out _ (List.getElem_mem hjx))
    have HST:Hid (2000<xs[j].text.length→OwnI (w2.setCell ⟨g,j*7+6,none⟩ (.string ⟨#[]⟩)) base g n cap (shorL xs (j+1))):=hd_ (fun h=>by
     rw [HSU.out];refine HW.out.setFld hjs 6 (by omega) _ _ ?_;rw [HAT.out];unfold shorT;rw [if_pos h]
     rfl)
    have HSN:Hid (¬ 2000<xs[j].text.length→shorL xs (j+1)=shorL xs j):=hd_ (fun h=>by
     rw [HSU.out]
     have e:shorT xs[j]=(shorL xs j)[j]:=by rw [HAT.out]; unfold shorT; rw [if_neg h]
     rw [e]
     exact List.set_getElem_self hjs)
    have hji:(j:Int)<(n:Int):=(by omega)
    have hsx:(⟨xs[j].text.toArray⟩:ByteArray).size=xs[j].text.length:=by simp [ByteArray.size]
    clear HAT HSU;generalize xs[j].text=tx at *
    by_cases hlong:2000<tx.length
    ·have hli:(2000:Int)<(tx.length:Int):=(by omega);have HO2:=hd_ (HST.out hlong);have HM2:=hd_ (mod_set HM.out (j*7+6) (.string ⟨#[]⟩));go_wp2_with fail
     go_roundg (n - (j+1))
     case measure=>omega
     case rel=>exact ⟨j+1,rfl,by omega,by simp,HO2.out,HM2.out⟩
    ·have hli:¬ (2000:Int)<(tx.length:Int):=(by omega);have HE:=hd_ (HSN.out hlong);go_wp2_with fail
     go_roundg (n - (j+1))
     case measure=>omega
     case rel=>exact ⟨j+1,rfl,by omega,by simp,by rw [HE.out]; exact HW.out,HM.out⟩
   ·obtain rfl:j=n:=by omega
    have HEND:Hid (shorL xs j=xs.map shorT):=hd_ (by rw [← HNN.out,shorL_all]);go_wp2_with fail;go_ret;exact ⟨rfl,by rw [HNN.out]; have h:=HW.out; rw [HEND.out] at h; exact h,HM.out.mono (fun k hk=>by subst hk; rfl)⟩
def TgI (w:World) (v:Value) (l:List TgR):Prop:=Sl w 110 8 v (tgV l)∧TgW w l
theorem TgI.pure {w w':World} {v:Value} {l:List TgR} (h:TgI w v l) (hm:Pure w w'):TgI w' v l:=⟨h.1.pure hm,h.2.pure hm⟩
def SrP (w:World) (q:Qry) (l:List Itm) (er:Int) (e:Ending) (w':World):Prop:=∃ v,e = .returned (.tuple #[v,.int .i64 er])∧(er=0→Sl w' 9 1 v (strsV (fndIds q l)))∧(er≠0→v = .slice none 0 0)∧Pure w w'
theorem search_calls (w:World) (v:Value) (l:List Itm) (k nq:Int) (Aq Bq:Option Addr) (cq dq:Nat) (ws:List Str) (xs:List QR) (hE:Env w) (hv:Its w v l) (hz:∀ x∈l,ItL x) (hl:l.length≤1000000) (hF:itsE itemE l=0→∀ x∈l,ItF x) (hQ:QS w (QR.mk k Aq cq ws nq Bq dq xs)) (hB:QB 1000 (QR.key (QR.mk k Aq cq ws nq Bq dq xs))) :
  Calls Tryz.prog 15 #[qA (QR.mk k Aq cq ws nq Bq dq xs),v] w (SrP w (QR.key (QR.mk k Aq cq ws nq Bq dq xs)) l (firstErr [checkQ (QR.key (QR.mk k Aq cq ws nq Bq dq xs)),itsE itemE l])):=by
 have HV:=hd_ hv;have HQ:=hd_ hQ;have HPA:=hd_ (pure_alloc w (.cells #[.int .i64 k,.slice Aq ws.length cq,.int .i64 nq,.slice Bq xs.length dq] 29));have HB0:=hd_ (Blk.new w 29 #[.int .i64 k,.slice Aq ws.length cq,.int .i64 nq,.slice Bq xs.length dq]);have HCK:=hd_ (qcheck_calls (w.alloc (.cells #[.int .i64 k,.slice Aq ws.length cq,.int .i64 nq,.slice Bq xs.length dq] 29)) (QR.mk k Aq cq ws nq Bq dq xs) (hQ.pure HPA.out) hB);have HIC:=hd_ (fun W (h:Pure (w.alloc (.cells #[.int .i64 k,.slice Aq ws.length cq,.int .i64 nq,.slice Bq xs.length dq] 29)) W)=>checkX_calls W v l (hv.pure (HPA.out.trans h)) hz hl (hE.pure (HPA.out.trans h)));have HTG:=hd_ (fun W (h:Pure (w.alloc (.cells #[.int .i64 k,.slice Aq ws.length cq,.int .i64 nq,.slice Bq xs.length dq] 29)) W)=>targets_calls W v l (hv.pure (HPA.out.trans h)) hl (fun x hx=>by have:=(hz x hx).2.2.2.2; omega))
 have HSE:Hid (checkQ (QR.key (QR.mk k Aq cq ws nq Bq dq xs))=0→itsE itemE l=0→∀ W vv ll,Pure (w.alloc (.cells #[.int .i64 k,.slice Aq ws.length cq,.int .i64 nq,.slice Bq xs.length dq] 29)) W→TgI W vv ll→ll.map TgR.x=l→Calls Tryz.prog 57 #[qA (QR.mk k Aq cq ws nq Bq dq xs),vv] W (StrsP W (fndIds (QR.key (QR.mk k Aq cq ws nq Bq dq xs)) l))):=hd_ (fun hc hi W vv ll h ht hm=>by
  have h2:=searched_calls W vv ll k nq Aq Bq cq dq ws xs ht.1 ht.2 (fun t htt=>hF hi _ (by rw [← hm]; exact List.mem_map.2 ⟨t,htt,rfl⟩)) (by rw [← hm,List.length_map] at hl; exact hl) (fdR_check hc) hB (hQ.pure (HPA.out.trans h));rw [hm] at h2
  exact h2)
 obtain ⟨Av,nv,cv,rfl⟩:=hv.form;generalize hqk:QR.key (QR.mk k Aq cq ws nq Bq dq xs)=qk at *;rw [qA_mk] at *;generalize hck:checkQ qk=ck at *;generalize hie:itsE itemE l=ie at *;clear hv hQ hE hz hl hF hB hqk hck hie;have HFE:=hd_ (rfl:firstErr [ck,ie]=firstErr [ck,ie])
 go_enter Tryz.func15,Tryz.ntmps15
 go_upto_region 1 with (fail);generalize (w.alloc (.cells #[.int .i64 k,.slice Aq ws.length cq,.int .i64 nq,.slice Bq xs.length dq] 29))=w1 at *;generalize w.heap.size=g0 at *;have hb:=HB0.out;obtain ⟨x0,x1,x2,x3⟩:=hb.c4;clear hb;go_wp2_with fail;refine HCK.out.mono ?_;rintro e w2 ⟨rfl,hm2⟩;have HP2:=hd_ hm2;clear x0 x1 x2 x3 hm2 HCK;go_wp2_with fail;refine (HIC.out _ HP2.out).mono ?_;rintro e w3 ⟨rfl,hm3⟩;have HP3:=hd_ (HP2.out.trans hm3);clear hm3 HIC HP2;have HF1:=hd_ (firstE_calls (w3.alloc (.cells #[.int .i64 ck,.int .i64 ie] 30)) w3.heap.size 2 [ck,ie] (Blk.new _ _ _).row0 (by simp));go_wp2_with fail;refine HF1.out.mono ?_;rintro e w4 ⟨rfl,hm4⟩;have HP4:=hd_ ((HP3.out.trans (pure_alloc w3 (.cells #[.int .i64 ck,.int .i64 ie] 30))).trans hm4);clear HF1 hm4 HP3
 by_cases h0:firstErr [ck,ie]=0
 ·have hck:ck=0:=by
   by_cases h:ck=0
   ·exact h
   ·simp only [firstErr,if_neg h] at h0;exact h0
  subst hck
  have hie:ie=0:=by
   by_cases h:ie=0
   ·exact h
   ·simp only [firstErr,if_true,if_neg h] at h0;exact absurd h0 (by simp [h])
  subst hie;have HSF:=hd_ (HSE.out rfl rfl);rw [h0];clear HFE h0 HSE;go_upto_region 4 with (fail);have HGs:=hd_ (show KeepG (fun Z=>Pure w1 Z) from fun D zzi zq zq' h hm=>by (exact h.trans hm))
  refine wp_region_inv (by kernel_rfl) (by kernel_rfl) (InvF (R:=Mod (fun _=>False)) [.is (.agg #[.int .i64 k,.slice Aq ws.length cq,.int .i64 nq,.slice Bq xs.length dq]),.is (.slice Av nv cv),⟨fun zv zw=>∃ (v_2:Value) (l_2:List TgR),zv=v_2∧Hid (l_2.map TgR.x=l)∧TgI zw v_2 l_2,(by rintro zv zw zx ⟨v_2,l_2,hze,c0,q0⟩ hm; exact ⟨v_2,l_2,hze,c0,(q0.pure hm)⟩),none,none⟩,⟨fun zv zw=>∃ (v_3:Value),zv=v_3∧Sl zw 9 1 v_3 (strsV (fndIds qk l)),(by rintro zv zw zx ⟨v_3,hze,q0⟩ hm; exact ⟨v_3,hze,(q0.pure hm)⟩),none,none⟩,⟨fun zv zw=>∃ (v_4:Value),zv=v_4∧Sl zw 9 1 v_4 (strsV (fndIds qk l)),(by rintro zv zw zx ⟨v_4,hze,q0⟩ hm; exact ⟨v_4,hze,(q0.pure hm)⟩),none,none⟩,.is ((.int .i64 0))]
    (PB w4 (fun _=>False) w4.heap.size (fun _=>(fun Z=>Pure w1 Z)))) (InvF.start (PB.start (Mod.refl _ _) (Nat.le_refl _) ((HP4.out.trans ((Mod.refl _ _).drewN 1))))) ?_ ?_
  ·iterate 6 (refine .cons ?_ ?_; rotate_left)
   exact .nil
   all_goals intro D V zw1 a hR hI K hK
   all_goals try rw [if_pos (by rfl)]
   ·have hG1:=hI.1.g;have ze2:=hR.ot 2;have zx0:=(HB0.out.modp hG1).cell 0;have zx1:=(HB0.out.modp hG1).cell 1;have zx2:=(HB0.out.modp hG1).cell 2;have zx3:=(HB0.out.modp hG1).cell 3;simp at zx0 zx1 zx2 zx3;go_simp;exact hK _ _ (hI.nq hR HGs.out rfl)
   have ze1:=hR.ot 1;rotate_left
   ·have hM1:=hI.1.mod;have hB1:=hI.1.big;have hG1:=hI.1.g;have ze17:=hI.tm hR 17 1;go_simp;refine (HTG.out zw1 hG1).mono ?_;rintro e zw2 ⟨v_0,l_0,rfl,hl_0,ho_0,hw_0,hm2⟩;exact hK (v_0) _ (hI.next hR (by kernel_rfl) hm2 (PB.quiet hI.1 hm2 (HGs.out D 2 _ _ (hI.1).g hm2)) (⟨v_0,l_0,upd_same V 2 _,hd_ hl_0,⟨Sl.of_own ho_0,hw_0⟩⟩))
   ·have hM1:=hI.1.mod;have hB1:=hI.1.big;have hG1:=hI.1.g;have zd2:=hR.pred 2 (by kernel_rfl);have zF2:∃ (v_2:Value) (l_2:List TgR),V 2=v_2∧Hid (l_2.map TgR.x=l)∧TgI zw1 v_2 l_2:=hI.2 2 zd2 rfl;obtain ⟨v_2,l_2,zf2,c2_0,b2_0⟩:=zF2;have ze16:=hI.tm hR 16 0;have ze18:=hR.frame.done (t:=18) (j:=2) (by kernel_rfl) hR.ok zd2;go_simp;refine (HSF.out zw1 v_2 l_2 hG1 b2_0 c2_0.out).mono ?_;rintro e zw2 ⟨v_0,rfl,ho_0,hm2⟩;exact hK (v_0) _ (hI.next hR (by kernel_rfl) hm2 (PB.quiet hI.1 hm2 (HGs.out D 3 _ _ (hI.1).g hm2)) (⟨v_0,upd_same V 3 _,Sl.of_own ho_0⟩))
   ·have hM1:=hI.1.mod;have hB1:=hI.1.big;have hG1:=hI.1.g;have zd3:=hR.pred 3 (by kernel_rfl);have zF3:∃ (v_3:Value),V 3=v_3∧Sl zw1 9 1 v_3 (strsV (fndIds qk l)):=hI.2 3 zd3 rfl;obtain ⟨v_3,zf3,b3_0⟩:=zF3;have ze19:=hR.frame.done (t:=19) (j:=3) (by kernel_rfl) hR.ok zd3;go_simp;exact hK (v_3) _ (hI.next hR (by kernel_rfl) (Mod.refl _ _) (PB.quiet hI.1 (Mod.refl _ _) (HGs.out D 4 zw1 zw1 (hI.1).g (Mod.refl _ _))) (⟨v_3,upd_same V 4 _,b3_0⟩))
   rotate_left
   all_goals (go_simp; exact hK _ _ (hI.nq hR HGs.out rfl))
  ·intro D V w5 hD hI;obtain ⟨hMx,hBx,hGx⟩:=hI.1;have zf0:=hI.eqA hD 0;have zf1:=hI.eqA hD 1;have zF2:∃ (v_2:Value) (l_2:List TgR),V 2=v_2∧Hid (l_2.map TgR.x=l)∧TgI w5 v_2 l_2:=hI.2 2 (hD 2 (by decide)) rfl;obtain ⟨v_2,l_2,zf2,c2_0,b2_0⟩:=zF2;have zF3:∃ (v_3:Value),V 3=v_3∧Sl w5 9 1 v_3 (strsV (fndIds qk l)):=hI.2 3 (hD 3 (by decide)) rfl;obtain ⟨v_3,zf3,b3_0⟩:=zF3;have zF4:∃ (v_4:Value),V 4=v_4∧Sl w5 9 1 v_4 (strsV (fndIds qk l)):=hI.2 4 (hD 4 (by decide)) rfl;obtain ⟨v_4,zf4,b4_0⟩:=zF4;have zf5:=hI.eqA hD 5;clear hI hD HGs;simp only [frAll,Act.put,List.setIfInBounds_toArray,List.set_cons_zero,List.set_cons_succ,Nat.zero_add,Nat.reduceAdd,zf0,zf1,zf2,zf3,zf4,zf5];clear zf0 zf1 zf2 zf3 zf4 zf5;clear V D;have HP5:=hd_ (HPA.out.trans hGx);have HSL:=hd_ b4_0;clear hGx hMx b2_0 b3_0 b4_0;go_wp2_with fail
   try simp only [Exit.inBlock,Exit.then]
   refine bodyPost_ret (v:=.tuple #[v_4,.int .i64 0]) (by simp [results,Tryz.results15,go_sem]) rfl ?_;exact ⟨_,rfl,fun _=>HSL.out,fun h=>absurd rfl h,HP5.out⟩
 ·obtain ⟨er,her⟩:∃ er,firstErr [ck,ie]=er:=⟨_,rfl⟩;rw [her] at h0 ⊢;have HER:=hd_ her;clear her;have h0i:(er == 0)=false:=(by simpa using h0)
  have h0n:(er != 0)=true:=by simp [h0]
  clear HFE HSE;go_wp2_with fail
  try simp only [Exit.inBlock,Exit.then]
  refine bodyPost_ret (v:=.tuple #[.slice none 0 0,.int .i64 er]) (by simp [results,Tryz.results15,go_sem]) rfl ?_;exact ⟨_,by rw [HER.out],fun h=>absurd (HER.out.symm.trans h) h0,fun _=>rfl,HPA.out.trans HP4.out⟩
theorem rangeI_calls (w:World) (b N:Nat) (hi:Int) (hS:Strm w b N) (hN:N≤1000000000) (h1:0≤hi) (h2:hi≤1000):Calls Tryz.prog 14 #[.pointer (some ⟨b,0,none⟩),.int .i64 0,.int .i64 hi] w (fun e w'=>∃ (m:Nat) (mI:Int),mI=(m:Int)∧mI≤hi∧e = .returned (.int .i64 mI)∧Strm w' b (N+1)∧Mod (· = b) w w'):=by
 refine (range_calls w b N 0 hi hS hN h1 (by omega) (by omega)).mono ?_;rintro e w' ⟨k,h0,h1,rfl,h3,h4⟩;exact ⟨k.toNat,k,by omega,h1,rfl,h3,h4⟩
theorem equalS_calls (w:World) (v1 v2:Value) (xs:List Str) (h1:Sl w 9 1 v1 (strsV xs)) (h2:Sl w 9 1 v2 (strsV xs)):Calls Tryz.prog 18 #[v1,v2] w (BoolPost w true):=by
 obtain ⟨A1,n1,c1,rfl,a1,a2,a3,a4⟩:=h1;obtain ⟨A2,n2,c2,rfl,b1,b2,b3,b4⟩:=h2
 have hn1:xs.length=n1:=by simpa [strsV] using a3
 have hn2:xs.length=n2:=by simpa [strsV] using b3
 subst hn1;subst hn2;have HA:=hd_ a4;have HB:=hd_ b4;have hne:((xs.length:Int) != (xs.length:Int))=false:=(by simp);clear a3 b3 a4 b4
 go_enter Tryz.func18,Tryz.ntmps18
 go_wp2_with fail
 go_loopg [13] xs.length (fun gk i wr=>∃ k:Nat,xs.length - k=gk∧k≤xs.length∧i = .int .i64 (k:Int)∧Pure w wr)
 case atStart=>exact ⟨0,by omega,by omega,rfl,Mod.refl _ _⟩
 case round =>
  obtain ⟨k,rfl,hk,rfl,hm⟩:=hrel
  by_cases hlt:k<xs.length
  ·obtain ⟨g1,o1,rfl,r1⟩:=HA.out (by omega);obtain ⟨g2,o2,rfl,r2⟩:=HB.out (by omega);have q1:=(r1.mod hm id).cell (strsV_get xs k hlt);have q2:=(r2.mod hm id).cell (strsV_get xs k hlt);have t1:(xs[k] != xs[k])=false:=(by simp);have i1:(0:Int)≤(k:Int):=(by omega);have i2:(k:Int)<(xs.length:Int):=(by omega);clear r1 r2;generalize xs[k]=x at *;go_wp2_with fail
   go_quiet (fail)
   go_wp2_with fail
   go_roundg (xs.length - (k+1))
   case measure=>omega
   case rel=>exact ⟨k+1,rfl,by omega,by simp,hm.drewN _⟩
  ·have hke:k=xs.length:=(by omega);subst hke;go_wp2_with fail;go_ret;exact BoolPost.of rfl hm
theorem or1_calls (w0:World) (g bx:Nat) (s:Str) (f:Nat) (hf:f≤1000000) (hN:NxC w0 g s) (hP:NrC w0 g s f) (hgx:bx≠g) (w:World) (L:List Tk) (hW:Mod (· = g) w0 w) (hX:Blk w bx 132 #[.pointer (some ⟨g,0,none⟩)]) (hR:RdrS w g s L) (hL:L.length≤f) :
  Calls Tryz.prog 186 #[.pointer (some ⟨bx,0,none⟩)] w (PrP w g s (pSev 6 4 (pNot (pOr f) f) f L)):=by
 have hg0:=hR.lt;have hmz:Pure w (w.alloc (.cells #[.int .i64 0,.slice none 0 0,.int .i64 0,.slice none 0 0] 29)):=(Mod.refl _ _).alloc _;have HB2:=hd_ (Blk.new w 29 #[.int .i64 0,.slice none 0 0,.int .i64 0,.slice none 0 0]);have HX2:=hd_ (hX.alloc (.cells #[.int .i64 0,.slice none 0 0,.int .i64 0,.slice none 0 0] 29));have HM2:Hid (Mod (· = g) w (w.alloc (.cells #[.int .i64 0,.slice none 0 0,.int .i64 0,.slice none 0 0] 29))):=hd_ (Mod.of_pure hmz);have HS:=hd_ (sevNot_calls w0 g bx s f (pNot (pOr f) f) hf hN (pNot_len (pOr_len f) f) hgx (fun W L' hW' _ hR' hL'=>not_calls w0 g s f hf hN hP W L' hW' hR' hL') (w.alloc (.cells #[.int .i64 0,.slice none 0 0,.int .i64 0,.slice none 0 0] 29)) L (hW.trans HM2.out) HX2.out (hR.pure hmz) hL);have hx2:=HX2.out.cell 0;simp at hx2;generalize pSev 6 4 (pNot (pOr f) f) f L=r at *;clear hN hP hW hmz hR hX;obtain ⟨b2,hb2e⟩:∃ b2,w.heap.size=b2:=⟨_,rfl⟩;have hb2l:w.heap.size≤b2:=(by omega);have hb2u:b2≤w.heap.size:=(by omega)
 go_enter Tryz.func186,Tryz.ntmps186
 go_wp2_with fail;generalize (w.alloc (.cells #[.int .i64 0,.slice none 0 0,.int .i64 0,.slice none 0 0] 29))=w2 at *;rw [hb2e] at HB2
 try simp only [hb2e]
 clear hb2e hx2;refine HS.out.mono ?_;rintro e w3 ⟨qr2,bt,l2,rfl,hR3,hm3,h0,h1⟩;obtain ⟨k2,A2,c2,ws2,n2,B2,d2,xs2⟩:=qr2;simp only [qA_mk];have hb2r:=HB2.out.lt;have HB3:=hd_ (HB2.out.modb hm3 (by omega));have HM3:=hd_ (HM2.out.trans hm3);have HR3:=hd_ hR3;have hs2:=HM2.out.size;have H0:=hd_ h0;have H1:=hd_ h1;have h5:=HB3.out;obtain ⟨x0,x1,x2,x3,xf0,xf1,xf2,xf3⟩:=h5.c4f;clear h5 hR3 hm3 h0 h1 HS;go_wp2_with fail;have h4F:=st4_blk HB3.out (a:=.int .i64 k2) (b:=.slice A2 ws2.length c2) (c:=.int .i64 n2) (d:=.slice B2 xs2.length d2);obtain ⟨z0,z1,z2,z3⟩:=h4F.c4
 try simp only [Exit.inBlock,Exit.then]
 refine bodyPost_ret (v:=.tuple #[.agg #[.int .i64 k2,.slice A2 ws2.length c2,.int .i64 n2,.slice B2 xs2.length d2],.bool bt]) (by simp [results,Tryz.results186,go_sem,z0,z1,z2,z3]) rfl ?_
 exact pr_ret HM3.out HR3.out HB3.out (by omega) (by omega) H0.out (fun h=>by
  obtain ⟨a1,a2,a3⟩:=H1.out h
  exact ⟨a1,a2,QN.old a3 (fun k hk=>by omega),a3.up (by omega)⟩)
theorem orS_calls (w0:World) (g:Nat) (s:Str) (f:Nat) (hf:f≤1000000) (hN:NxC w0 g s) (hP:NrC w0 g s f) (hg00:g<w0.heap.size):OrC w0 g s (f+1):=by
 intro w L hW hR hL0;have hL:L.length≤f:=(by omega);clear hL0;have hg0:=hR.lt;have hmz:Pure w ((w.alloc (.cells #[.pointer (some ⟨g,0,none⟩)] 132)).alloc (.cells #[.int .i64 0,.slice none 0 0,.int .i64 0,.slice none 0 0] 29)):=((Mod.refl _ _).alloc _).alloc _;have HB2:=hd_ (Blk.snd w (.cells #[.pointer (some ⟨g,0,none⟩)] 132) 29 #[.int .i64 0,.slice none 0 0,.int .i64 0,.slice none 0 0]);have HX2:=hd_ ((Blk.new w 132 #[.pointer (some ⟨g,0,none⟩)]).alloc (.cells #[.int .i64 0,.slice none 0 0,.int .i64 0,.slice none 0 0] 29));have HM2:Hid (Mod (· = g) w ((w.alloc (.cells #[.pointer (some ⟨g,0,none⟩)] 132)).alloc (.cells #[.int .i64 0,.slice none 0 0,.int .i64 0,.slice none 0 0] 29))):=hd_ (Mod.of_pure hmz);have HS:=hd_ (sevOr_calls w0 g w.heap.size s f (pSev 6 4 (pNot (pOr f) f) f) hf hN (pSev_len (by decide) (pNot_len (pOr_len f) f) f) (by omega) (fun W L' hW' hX' hR' hL'=>or1_calls w0 g w.heap.size s f hf hN hP (by omega) W L' hW' hX' hR' hL') ((w.alloc (.cells #[.pointer (some ⟨g,0,none⟩)] 132)).alloc (.cells #[.int .i64 0,.slice none 0 0,.int .i64 0,.slice none 0 0] 29)) L (hW.trans HM2.out) HX2.out (hR.pure hmz) hL);have hx2:=HX2.out.cell 0;simp at hx2
 change Hid (Calls Tryz.prog 185 _ _ (PrP _ g s (pOr (f+1) L))) at HS
 generalize pOr (f+1) L=r at *;clear hN hP hW hmz hR
 go_enter Tryz.func112,Tryz.ntmps112
 go_wp2_with fail;refine HS.out.mono ?_;rintro e w3 ⟨qr2,bt,l2,rfl,hR3,hm3,h0,h1⟩;have hs2:=HM2.out.size;have hb2r:=HB2.out.lt;have HB3:=hd_ (HB2.out.modb hm3 (by omega));have HM3:=hd_ (HM2.out.trans hm3);clear hx2 HX2;generalize ((w.alloc (.cells #[.pointer (some ⟨g,0,none⟩)] 132)).alloc (.cells #[.int .i64 0,.slice none 0 0,.int .i64 0,.slice none 0 0] 29))=w2 at *;obtain ⟨b2,hb2e⟩:∃ b2,w.heap.size+1=b2:=⟨_,rfl⟩;rw [hb2e] at HB2 HB3
 try simp only [hb2e]
 have hb2l:w.heap.size≤b2:=(by omega);have hb2v:=HB2.out.lt;clear hb2e hb2r;obtain ⟨k2,A2,c2,ws2,n2,B2,d2,xs2⟩:=qr2;simp only [qA_mk];have HR3:=hd_ hR3;have H0:=hd_ h0;have H1:=hd_ h1;have h5:=HB3.out;obtain ⟨x0,x1,x2,x3,xf0,xf1,xf2,xf3⟩:=h5.c4f;clear h5 hR3 hm3 h0 h1 HS HB2 HM2;go_wp2_with fail;have h4F:=st4_blk HB3.out (a:=.int .i64 k2) (b:=.slice A2 ws2.length c2) (c:=.int .i64 n2) (d:=.slice B2 xs2.length d2);obtain ⟨z0,z1,z2,z3⟩:=h4F.c4
 try simp only [Exit.inBlock,Exit.then]
 refine bodyPost_ret (v:=.tuple #[.agg #[.int .i64 k2,.slice A2 ws2.length c2,.int .i64 n2,.slice B2 xs2.length d2],.bool bt]) (by simp [results,Tryz.results112,go_sem,z0,z1,z2,z3]) rfl ?_
 exact pr_ret HM3.out HR3.out HB3.out (by omega) (by omega) H0.out (fun h=>by
  obtain ⟨a1,a2,a3⟩:=H1.out h
  exact ⟨a1,a2,QN.old a3 (fun k hk=>by omega),a3.up (by omega)⟩)
theorem or_calls (w0:World) (g:Nat) (s:Str) (hN:NxC w0 g s) (hg:g<w0.heap.size):∀ f,f≤1000000→OrC w0 g s f
 | 0,_=>fun W L _ _ h=>absurd h (by omega)
 | f+1,hf=>by
  have hO:=or_calls w0 g s hN hg f (by omega);have hP:PtC w0 g s f:=fun W L hW hR hL=>part_calls w0 g s f hN hO W L hW hR hL;have hR:NrC w0 g s f:=fun W L hW hR hL=>near_calls w0 g s f hN hP W L hW hR hL;exact orS_calls w0 g s f (by omega) hN hR hg
end Go.Proofs.YtnfflgicngeekaaGreatDoor
namespace Go.Proofs.YtnfflgicngeekaaGreatDoor
open Go.RowKit
def IxP (s:Str):Prop:=∀ (W:World) (a:Nat),a≤s.length→Calls Tryz.prog 182 #[.string ⟨(s.drop a).toArray⟩,.string ⟨#[32,10,40,41,34]⟩] W (fun e w'=>e = .returned (.int .i64 (Lib.indexAny (s.drop a) [32,10,40,41,34]))∧Pure W w')
def ParP (w:World) (q:Qry) (e:Ending) (w':World):Prop:=∃ qr:QR,e = .returned (.tuple #[qA qr,.int .i64 0,.int .i64 0])∧qr.key=q∧QS w' qr∧Pure w w'
theorem parseOk_calls (w:World) (s:Str) (q:Qry) (l:List Tk) (hs:s.length≤200000) (hM:MlnS w) (hI:IxP s) (hp:pOr ((toksQ s 0).length+1) (toksQ s 0) = .inr (q,l)) (hl:kdL l=0) (hc:checkQ q=0) (hq:QB 1000 q):Calls Tryz.prog 45 #[.string ⟨s.toArray⟩] w (ParP w q):=by
 have hz:(⟨s.toArray⟩:ByteArray).size=s.length:=by simp [ByteArray.size]
 have HP:=hd_ hp;have HL:=hd_ hl;have HC:=hd_ hc;have HQB:=hd_ hq;have hmA:Pure w ((w.alloc (.cells #[.int .i64 0,.slice none 0 0,.int .i64 0,.slice none 0 0] 29)).alloc (.cells #[.string ⟨s.toArray⟩,.int .i64 0,.int .i64 0,.int .i64 0,.int .i64 0,.slice none 0 0,.int .i64 0,.slice none 0 0] 136)):=((Mod.refl _ _).alloc _).alloc _;have HB2:=hd_ ((Blk.new w 29 #[.int .i64 0,.slice none 0 0,.int .i64 0,.slice none 0 0]).alloc (.cells #[.string ⟨s.toArray⟩,.int .i64 0,.int .i64 0,.int .i64 0,.int .i64 0,.slice none 0 0,.int .i64 0,.slice none 0 0] 136));have HBR:=hd_ (Blk.snd w (.cells #[.int .i64 0,.slice none 0 0,.int .i64 0,.slice none 0 0] 29) 136 #[.string ⟨s.toArray⟩,.int .i64 0,.int .i64 0,.int .i64 0,.int .i64 0,.slice none 0 0,.int .i64 0,.slice none 0 0]);have HMA:=hd_ hmA;have HML:Hid (∀ W,Mod (· = w.heap.size+1) ((w.alloc (.cells #[.int .i64 0,.slice none 0 0,.int .i64 0,.slice none 0 0] 29)).alloc (.cells #[.string ⟨s.toArray⟩,.int .i64 0,.int .i64 0,.int .i64 0,.int .i64 0,.slice none 0 0,.int .i64 0,.slice none 0 0] 136)) W→MlnS W):=hd_ (fun W hW=>hM.pure (hmA.trans' hW (fun i hi hlt=>by omega)));have HIX:Hid (IxA (w.heap.size+1) ((w.alloc (.cells #[.int .i64 0,.slice none 0 0,.int .i64 0,.slice none 0 0] 29)).alloc (.cells #[.string ⟨s.toArray⟩,.int .i64 0,.int .i64 0,.int .i64 0,.int .i64 0,.slice none 0 0,.int .i64 0,.slice none 0 0] 136)) s):=hd_ (fun W a _ ha=>hI W a ha);have htl:=toks_len s 0;clear hp hl hc hq hM hI hmA
 go_enter Tryz.func45,Tryz.ntmps45
 go_upto_region 4 with (fail);generalize ((w.alloc (.cells #[.int .i64 0,.slice none 0 0,.int .i64 0,.slice none 0 0] 29)).alloc (.cells #[.string ⟨s.toArray⟩,.int .i64 0,.int .i64 0,.int .i64 0,.int .i64 0,.slice none 0 0,.int .i64 0,.slice none 0 0] 136))=w1 at *;obtain ⟨b2,hb2e⟩:∃ b2,w.heap.size=b2:=⟨_,rfl⟩;rw [hb2e] at HB2 HBR HML HIX
 try simp only [hb2e]
 obtain ⟨g,hge⟩:∃ g,b2+1=g:=⟨_,rfl⟩;rw [hge] at HBR HML HIX
 try simp only [hge]
 have hb2l:w.heap.size≤b2:=(by omega);have hbg:b2<g:=(by omega);clear hb2e hge;have hgr:=HBR.out.lt;have HN:=hd_ (nxC_of (g:=g) hs HML.out HIX.out);have HO:=hd_ (or_calls w1 g s HN.out hgr ((toksQ s 0).length+1) (by omega));have HNX:=hd_ (nextR_calls w1 s 0 0 0 0 0 (.slice none 0 0) (.slice none 0 0) g hs (Nat.zero_le _) HML.out HIX.out HBR.out);go_wp2_with fail;refine HNX.out.mono ?_;intro e w3 h;obtain ⟨rfl,hR3,hm3⟩:=h.rds (Nat.zero_le _);have HB3:=hd_ (HB2.out.modb hm3 (by omega));have HM3:=hd_ hm3;have HOX:=hd_ (HO.out w3 (toksQ s 0) hm3 hR3 (Nat.le_refl _));clear h hR3 hm3 HNX HO HB2;go_wp2_with fail;refine HOX.out.mono ?_;rintro e w4 ⟨qr2,bt,l2,rfl,hR4,hm4,h0,h1⟩;obtain ⟨k2,A2,c2,ws2,n2,B2,d2,xs2⟩:=qr2;simp only [qA_mk]
 cases bt
 ·exact absurd (h0 rfl) (by rw [HP.out]; intro h; cases h)
 ·obtain ⟨a1,a2,a3⟩:=h1 rfl;rw [HP.out] at a1
  injection a1 with a1
  injection a1 with a1 a4
  subst a4;have HK:=hd_ a1.symm;have hb2r:=HB3.out.lt;have hs4:=hm4.size;have hs3:=HM3.out.size;have hmC:Pure w4 (w4.alloc (.cells #[.int .i64 k2,.slice A2 ws2.length c2,.int .i64 n2,.slice B2 xs2.length d2] 29)):=(Mod.refl _ _).alloc _;have HB5:=hd_ ((HB3.out.modb hm4 (by omega)).alloc (.cells #[.int .i64 k2,.slice A2 ws2.length c2,.int .i64 n2,.slice B2 xs2.length d2] 29));have HB6:=hd_ (Blk.new w4 29 #[.int .i64 k2,.slice A2 ws2.length c2,.int .i64 n2,.slice B2 xs2.length d2]);have HR5:=hd_ (RdrS.pure hR4 hmC);have HM5:Hid (Pure w (w4.alloc (.cells #[.int .i64 k2,.slice A2 ws2.length c2,.int .i64 n2,.slice B2 xs2.length d2] 29))):=hd_ (((HMA.out.trans' HM3.out (fun i hi hlt=>by omega)).trans' hm4 (fun i hi hlt=>by omega)).trans hmC);have HQ5:=hd_ (a2.pure hmC);have HQN:Hid (QN (· = b2) (QR.mk k2 A2 c2 ws2 n2 B2 d2 xs2)):=hd_ (QN.old a3 (fun k hk=>by omega));clear h0 h1 hR4 hm4 a1 a2 a3 hmC HB3 HM3 HMA HOX;go_upto_region 6 with (fail);generalize (w4.alloc (.cells #[.int .i64 k2,.slice A2 ws2.length c2,.int .i64 n2,.slice B2 xs2.length d2] 29))=w5 at *;obtain ⟨b6,hb6⟩:∃ b6,w4.heap.size=b6:=⟨_,rfl⟩;rw [hb6] at HB6
  try simp only [hb6]
  have hb6l:w4.heap.size≤b6:=(by omega);clear hb6;obtain ⟨p5,qr5,t5,l5,rfl,hB7,hp5,hQ5,hk5,ha5,_,_⟩:=HR5.out;obtain ⟨k5,A5,c5,ws5,n5,B5,d5,xs5⟩:=qr5;have hk0:t5.kind=0:=HL.out;have hBr:=hB7;unfold rdC at hBr;simp [qC] at hBr;rw [hk0] at hBr;obtain ⟨u0,u1,u2,u3,u4,u5,u6,u7⟩:=hBr.c8;have h6:=HB6.out;obtain ⟨y0,y1,y2,y3⟩:=h6.c4;clear hBr hQ5 hk5 ha5 hB7 h6 hk0 HL;have HCK:=hd_ (fun W (h:QS W (QR.mk k2 A2 c2 ws2 n2 B2 d2 xs2))=>qcheck_calls W (.mk k2 A2 c2 ws2 n2 B2 d2 xs2) h (by rw [HK.out]; exact HQB.out));rw [HK.out,HC.out] at HCK;simp only [qA_mk] at HCK;go_wp2_with fail;refine (HCK.out _ HQ5.out).mono ?_;rintro e w7 ⟨rfl,hm7⟩;have HB8:=hd_ (HB5.out.modp hm7);have HQ8:=hd_ (HQ5.out.pure hm7);have HM8:=hd_ (HM5.out.trans hm7);have h6:=HB6.out.modp hm7;have h5:=HB8.out;clear u0 u1 u2 u3 u4 u5 u6 u7 y0 y1 y2 y3;obtain ⟨y0,y1,y2,y3⟩:=h6.c4;obtain ⟨x0,x1,x2,x3,xf0,xf1,xf2,xf3⟩:=h5.c4f;clear h5 h6 hm7 HCK HB5 HQ5 HM5;go_wp2_with fail;have h4F:=st4_blk HB8.out (a:=.int .i64 k2) (b:=.slice A2 ws2.length c2) (c:=.int .i64 n2) (d:=.slice B2 xs2.length d2);obtain ⟨z0,z1,z2,z3⟩:=h4F.c4
  try simp only [Exit.inBlock,Exit.then]
  refine bodyPost_ret (v:=.tuple #[.agg #[.int .i64 k2,.slice A2 ws2.length c2,.int .i64 n2,.slice B2 xs2.length d2],.int .i64 0,.int .i64 0]) (by simp [results,Tryz.results45,go_sem,z0,z1,z2,z3]) rfl ?_;have hst:Mod (· = b2) w7 ((((w7.setCell ⟨b2,0,none⟩ (.int .i64 k2)).setCell ⟨b2,1,none⟩ (.slice A2 ws2.length c2)).setCell ⟨b2,2,none⟩ (.int .i64 n2)).setCell ⟨b2,3,none⟩ (.slice B2 xs2.length d2)):=st4_mod;exact ⟨.mk k2 A2 c2 ws2 n2 B2 d2 xs2,rfl,HK.out,HQ8.out.box HB8.out HQN.out hst,HM8.out.trans' hst (fun i hi hlt=>by omega)⟩
end Go.Proofs.YtnfflgicngeekaaGreatDoor
/-
 DERIVED: THE SHELF's CONTRACTS AT THIS DUMP,IN PLAIN WORDS (tools/lay-plain.mjs out of 'YtnfflgicngeekaaGreatDoorLayAny.lean',which tools/lay-shelf.mjs wrote): THE SAME DECLARATIONS UNDER THE SAME NAMES: 'import','namespace','open','def','theorem' AND NOTHING ELSE: no command of the shelf's: FOR A HAND-IN. Each laying: the table of numbers ('.._ren') and one theorem,a field a fact of the dump's own or the kernel's comparison; each contract: ONE APPLICATION.
-/
namespace Go.Proofs
open Go.Shelf
def Tryz.lays153_ren:Go.Shelf.Ren:=⟨fun | 153=>182 | 152=>224 | 226=>225 | 227=>215 | 228=>226 | 137=>193 | 119=>258 | 224=>259 | 225=>260 | 217=>238 | 266=>270 | n=>n,fun | 9=>9 | 3=>3 | 4=>4 | 5=>5 | 21=>21 | 117=>242 | 116=>241 | 0=>0 | 46=>180 | 124=>245 | n=>n,fun | n=>n⟩
theorem Tryz.lays153:Go.Proofs.Lays.n153 Tryz.prog Tryz.lays153_ren:={
 mixed:=by kernel_rfl
 f119:=Tryz.func258.trans (congrArg some (by kernel_rfl))
 f137:=Tryz.func193.trans (congrArg some (by kernel_rfl))
 f152:=Tryz.func224.trans (congrArg some (by kernel_rfl))
 f153:=Tryz.func182.trans (congrArg some (by kernel_rfl))
 f217:=Tryz.func238.trans (congrArg some (by kernel_rfl))
 f224:=Tryz.func259.trans (congrArg some (by kernel_rfl))
 f225:=Tryz.func260.trans (congrArg some (by kernel_rfl))
 f226:=Tryz.func225.trans (congrArg some (by kernel_rfl))
 f227:=Tryz.func215.trans (congrArg some (by kernel_rfl))
 f228:=Tryz.func226.trans (congrArg some (by kernel_rfl))
 f266:=Tryz.func270.trans (congrArg some (by kernel_rfl))
 t0:=Tryz.underlying0
 a0:=Tryz.isAgg0
 z0:=Tryz.sizeOf0
 v0:=Tryz.zeroValue0
 t3:=Tryz.underlying3
 a3:=Tryz.isAgg3
 z3:=Tryz.sizeOf3
 v3:=Tryz.zeroValue3
 t4:=Tryz.underlying4
 a4:=Tryz.isAgg4
 z4:=Tryz.sizeOf4
 v4:=Tryz.zeroValue4
 t5:=Tryz.underlying5
 a5:=Tryz.isAgg5
 z5:=Tryz.sizeOf5
 v5:=Tryz.zeroValue5
 t9:=Tryz.underlying9
 a9:=Tryz.isAgg9
 z9:=Tryz.sizeOf9
 v9:=Tryz.zeroValue9
 t21:=Tryz.underlying21
 a21:=Tryz.isAgg21
 z21:=Tryz.sizeOf21
 v21:=Tryz.zeroValue21
 t46:=Tryz.underlying180
 a46:=Tryz.isAgg180
 z46:=Tryz.sizeOf180
 v46:=Tryz.zeroValue180
 t116:=Tryz.underlying241
 a116:=Tryz.isAgg241
 z116:=Tryz.sizeOf241
 t117:=Tryz.underlying242
 a117:=Tryz.isAgg242
 z117:=Tryz.sizeOf242
 v117:=Tryz.zeroValue242
 t124:=Tryz.underlying245
 a124:=Tryz.isAgg245
 z124:=Tryz.sizeOf245
 v124:=Tryz.zeroValue245 }
end Go.Proofs
namespace Go.Proofs.YtnfflgicngeekaaGreatDoor
open Go.RowKit
def askTx:Str:=[100,101,97,108,32,119,47,49,32,102,114,105,100,97,121]
def askD:Str:=[100,101,97,108]
def askF:Str:=[102,114,105,100,97,121]
def askQy:Qry:=.mk 4 [] 1 [.mk 2 [askD] 0 [],.mk 2 [askF] 0 []]
def askIt:Itm:=⟨[97],[98],1,[],0,[],[102,114,105,100,97,121,44,32,100,101,97,108,10]⟩
theorem ask_toks:toksQ askTx 0=[⟨3,0,.mk 2 [askD] 0 []⟩,⟨7,5,.mk 4 [] 1 []⟩,⟨3,9,.mk 2 [askF] 0 []⟩,⟨0,15,q0⟩]:=by kernel_rfl
theorem ask_or:pOr ((toksQ askTx 0).length+1) (toksQ askTx 0) = .inr (askQy,[⟨0,15,q0⟩]):=by
 rw [ask_toks]
 rfl
theorem ask_check:checkQ askQy=0:=by
 have h1:qFit askQy 0 0 0=true:=by
  unfold askQy qFit;simp [qSize,qDeep,qNear,nearK]
 unfold checkQ;rw [if_pos h1];unfold askQy;rw [fltQ]
 have e1:fltQ 100 (mustQ false 4) (.mk 2 [askD] 0 [])=0:=by rw [fltQ]; rfl
 have e2:fltQ 100 (mustQ false 4) (.mk 2 [askF] 0 [])=0:=by rw [fltQ]; rfl
 rw [show ([Qry.mk 2 [askD] 0 [],.mk 2 [askF] 0 []]:List Qry).map (fltQ 100 (mustQ false 4))=[fltQ 100 (mustQ false 4) (.mk 2 [askD] 0 []),fltQ 100 (mustQ false 4) (.mk 2 [askF] 0 [])] from rfl,e1,e2]
 rfl
theorem ask_qb:QB 1000 askQy:=by
 refine .mk (by decide) (by decide) (by decide) (by decide) (by decide) (by simp) (by decide) (fun a ha => ?_);simp at ha
 rcases ha with rfl | rfl
 ·exact .mk (by decide) (by decide) (by decide) (by decide) (by decide) (by simp [askD]) (by decide) (fun a ha=>by cases ha)
 ·exact .mk (by decide) (by decide) (by decide) (by decide) (by decide) (by simp [askF]) (by decide) (fun a ha=>by cases ha)
theorem ask_words:wordsQ askIt.text=[((0,6),askF),((8,12),askD)]:=by kernel_rfl
theorem ask_item:itemE askIt=0:=by kernel_rfl
theorem ask_some:somePl (plcQ (wsQ (wordsQ askIt.text)) askQy) (wordsQ askIt.text).length=true:=by
 rw [ask_words];unfold askQy;rw [plc_near,plc_word (.inl rfl),plc_word (.inl rfl)]
 rfl
theorem ask_ix:IxP askTx:=by
 intro W a _
 have h116:(Tryz.prog.info? (Tryz.lays153_ren.t 116)).map (fun i=>(i.zero,i.size))=some (some (.agg (Array.replicate 256 (.bool false))),256):=by kernel_rfl
 refine (Any.strings_IndexAny_laid Tryz.lays153 h116 ⟨(askTx.drop a).toArray⟩ ⟨#[32,10,40,41,34]⟩ W ?_ (by decide) ?_ ?_).mono ?_
 ·have h:askTx.length=15:=rfl;simp [ByteArray.size]
  omega
 ·intro j b hb;have hm:b∈askTx:=List.mem_of_mem_drop (List.mem_of_getElem? hb)
  have hall:askTx.all (fun c=>decide (c.toNat<128))=true:=by decide
  simpa using List.all_eq_true.1 hall b hm
 ·intro j b hb;have hm:b∈([32,10,40,41,34]:Str):=List.mem_of_getElem? hb
  have hall:([32,10,40,41,34]:Str).all (fun c=>decide (c.toNat<128))=true:=by decide
  simpa using List.all_eq_true.1 hall b hm
 ·rintro e w' ⟨rfl,h⟩;exact ⟨rfl,Mod.of_below h⟩
theorem ask_fnd:fndQ (toQ askIt) askQy=true:=by
 unfold askQy;rw [fnd_4];have h:=ask_some;unfold askQy at h
 show somePl (plcQ (wsQ (wordsQ askIt.text)) _) (wsQ (wordsQ askIt.text)).length=true
 rw [wsQ_len];exact h
theorem asks_calls (w:World) (hE:Env w):Calls Tryz.prog 10 #[] w (BoolPost w true):=by
 have HP:=hd_ (parseOk_calls w askTx askQy [⟨0,15,q0⟩] (by decide) hE.2 ask_ix ask_or rfl ask_check ask_qb);have HE:=hd_ hE;clear hE
 go_enter Tryz.func10,Tryz.ntmps10
 go_wp2_with fail;refine HP.out.mono ?_;rintro e w1 ⟨qr,rfl,hk,hQ,hm⟩;obtain ⟨k,A,c,ws,n,B,d,xs⟩:=qr;have hmA:Pure w1 (w1.alloc (.cells #[.int .i64 k,.slice A ws.length c,.int .i64 n,.slice B xs.length d] 29)):=(Mod.refl _ _).alloc _;have HMX:=hd_ (matchesS_calls (w1.alloc (.cells #[.int .i64 k,.slice A ws.length c,.int .i64 n,.slice B xs.length d] 29)) askIt (.mk k A c ws n B d xs) (by unfold ItL askIt; simp) (HE.out.pure (hm.trans hmA)) ask_item (hQ.pure hmA) (by rw [hk]; exact ask_qb) (by rw [hk]; exact ask_check) (by decide) (by decide) (by decide));rw [hk,ask_fnd] at HMX;have HM:=hd_ (hm.trans hmA);have hb:=Blk.new w1 29 #[.int .i64 k,.slice A ws.length c,.int .i64 n,.slice B xs.length d];obtain ⟨x0,x1,x2,x3⟩:=hb.c4;simp only [qA_mk] at HMX ⊢;unfold itA askIt at HMX;clear hk hQ hm hmA hb HP;go_wp2_with fail;refine HMX.out.mono ?_;rintro e w3 ⟨rfl,hm3⟩;go_wp2_with fail;go_ret;exact ⟨rfl,HM.out.trans hm3⟩
def litZ:DataW Unit→Int
 | .lit (.int _ n)=>n
 | _=>0
def litsZ:DataW Unit→List Int
 | .agg ps=>ps.map litZ
 | _=>[]
theorem cell_of_var {W:World} {g:Nat} {name:String} {cs:Array Value} (hg:Tryz.prog.globalNamed name=some g) (h:W.var? Tryz.prog name=some cs) (i:Nat):W.cell? ⟨g,i,none⟩=cs[i]?:=by
 unfold World.var? at h;rw [hg] at h;simp only [Option.bind_some] at h
 split at h
 ·rename_i hh
  injection h with h
  subst h;exact cell_of_row W g i _ _ _ hh
 ·cases h
theorem star : "*" ++ "errors.errorString" = "*errors.errorString" := by decide
theorem rowErr (u:TypeId) (h:Tryz.prog.typeName? 3 u=some "*errors.errorString"):u=339 :=
 typeName_ptr_named (nm := "errors.errorString") (by rw [star]; kernel_rfl) (by kernel_rfl) (by decide) u (by rw [star]; exact h)
abbrev laidI:List (String × DataW Unit):=[("math/bits.deBruijn32tab", Rows.laid_math_bits_deBruijn32tab),("math/bits.deBruijn64tab", Rows.laid_math_bits_deBruijn64tab),("internal/strconv.uint64pow10", Rows.laid_internal_strconv_uint64pow10),("unicode/utf8.acceptRanges", Rows.laid_unicode_utf8_acceptRanges),("strconv.ErrRange", Rows.laid_strconv_ErrRange),("strconv.ErrSyntax", Rows.laid_strconv_ErrSyntax),("unicode/utf8.first", Rows.laid_unicode_utf8_first)]
theorem deb_of {W:World} (hL:laidMet Tryz.prog laidI W):Deb W:=by
 have h1:=Lib.tabIs_of_head (k:=.u8) (zs:=litsZ Rows.laid_math_bits_deBruijn64tab) (g:=6) (name := "math/bits.deBruijn64tab") (P:=Tryz.prog) (W:=W) (n:=64) (t:=300) (e:=5) (by kernel_rfl) (by kernel_rfl) (by kernel_rfl) (by kernel_rfl) (by kernel_rfl) (by kernel_rfl) hL.tail;exact (cell_of_var (by kernel_rfl) h1 15).trans (by kernel_rfl)
theorem err_of {W:World} (hL:laidMet Tryz.prog laidI W):ErrS W:=by
 obtain ⟨a,s,hv,_⟩:=laid_sentinel (g:=8) hL.tail.tail.tail.tail.tail (by kernel_rfl) (by kernel_rfl) Tryz.underlying146 rowErr Tryz.underlying339 Tryz.underlying341 rfl rfl Tryz.underlying9 (by kernel_rfl) (by kernel_rfl);exact ⟨_,_,(cell_of_var (by kernel_rfl) hv 0).trans rfl⟩
theorem dFirst:Rows.laid_unicode_utf8_first=Lib.firstData:=by kernel_rfl
theorem dAccept:(Rows.laid_unicode_utf8_acceptRanges:DataW Unit)=Lib.acceptData:=by kernel_rfl
theorem utf_of {W:World} (hL:laidMet Tryz.prog laidI W):Utf W :=
 utf8Tabs_of_readsT (ρ:=Tryz.lays196_ren) (U8Types.of196 Tryz.lays196) ⟨by kernel_rfl,by kernel_rfl,by kernel_rfl,by kernel_rfl,by kernel_rfl,by kernel_rfl,by kernel_rfl⟩
  (dFirst ▸ Lib.laidMet.reads hL (by simp [laidI])) (dAccept ▸ Lib.laidMet.reads hL (by simp [laidI]))
theorem mln_of {W:World} (h:W.ShapedOpen Tryz.prog):Mln W:=Tryz.laysM144.s1_3 W h
theorem env_of {W:World} (hL:laidMet Tryz.prog laidI W) (h:W.ShapedOpen Tryz.prog):Env W:=⟨utf_of hL,mln_of h⟩
theorem itL_g {x:Itm} (h:ItG x):ItL x:=by
 obtain ⟨a,b,c,d,e⟩:=h;exact ⟨by omega,by omega,by omega,by omega,by omega⟩
theorem QS.ownI {w w':World} {q:QR} {v:Value} {base n:Nat} {xs:List Value} (h:QS w q) (ho:w.ownsRow base 62 7 v n xs) (hm:Mod (fun k=>v.ownBlock=some k) w w'):QS w' q :=
 h.mod hm (fun g arr fr hg hv=>absurd (own_ty (g:=g) ho hv hg) (by decide)) (fun g arr fr hg hv=>absurd (own_ty (g:=g) ho hv hg) (by decide))
theorem QuerySearches_calls (w:World) (A:Option Addr) (n c:Nat) (hA:ArgInts w A n) (hE:ErrS w) (hD:Deb w) (hV:Env w):Calls Tryz.prog 4 #[.slice A n c] w (BoolPost w true):=by
 have hS0:=strm_new (c:=c) hA;have HV:Hid (∀ w1,Pure w w1→Env w1):=hd_ (fun _ h=>hV.pure h);obtain ⟨b,hb⟩:∃ b,b=w.heap.size:=⟨_,rfl⟩;have P0:=pure_alloc w (.cells #[.slice A n c,.int .i64 0] 25);rw [← hb] at hS0;have hwb:w.heap.size≤b:=(by omega);clear hE hD hV hA
 go_enter Tryz.func4,Tryz.ntmps4
 go_wp2_with fail;rw [← hb];generalize (w.alloc (.cells #[.slice A n c,.int .i64 0] 25))=w0 at *;clear hb;have hb0:=hS0.lt;refine (someQuery_calls w0 b 0 hS0 (by omega)).mono ?_;rintro e w1 ⟨⟨k1,A1,c1,ws1,n1,B1,d1,xs1⟩,rfl,hq1,hf1,hqz1,hb1,hsz1,hS1,hM1⟩;rw [qA_mk];have hpa:=pure_alloc w1 (.cells #[.int .i64 k1,.slice A1 ws1.length c1,.int .i64 n1,.slice B1 xs1.length d1] 29);have hs01:=hM1.size;have P1:Pure w w1:=P0.trans' hM1 (fun i hi hlt=>by omega);have hX:=Blk.new w1 29 #[.int .i64 k1,.slice A1 ws1.length c1,.int .i64 n1,.slice B1 xs1.length d1];have HX:=hd_ hX;have HQ:=hd_ (hq1.pure hpa);have HP:=hd_ (P1.trans hpa);have HB:=hd_ hb1;have HS2:=hd_ (hS1.pure hpa);have hgl:w1.heap.size<(w1.alloc (.cells #[.int .i64 k1,.slice A1 ws1.length c1,.int .i64 n1,.slice B1 xs1.length d1] 29)).heap.size:=hX.lt;have hbg:b<w1.heap.size:=(by omega);obtain ⟨ck,hck⟩:∃ ck,checkQ (QR.key (QR.mk k1 A1 c1 ws1 n1 B1 d1 xs1))=ck:=⟨_,rfl⟩;have HCK:=hd_ hck
 try simp only [hck]
 clear hck hpa hq1 hf1 hqz1 hb1 hsz1 hS1 hM1 P0 P1 hS0 hX;go_upto_region 3 with (fail);generalize (w1.alloc (.cells #[.int .i64 k1,.slice A1 ws1.length c1,.int .i64 n1,.slice B1 xs1.length d1] 29))=w2 at *;obtain ⟨g4,hg4⟩:∃ g4,w1.heap.size=g4:=⟨_,rfl⟩;rw [hg4] at HX hgl hbg
 try simp only [hg4]
 clear hg4;have HRG:=hd_ (rangeI_calls w2 b _ 8 HS2.out (by omega) (by omega) (by omega));go_wp2_with fail;refine HRG.out.mono ?_;rintro e w3 ⟨m,mI,hmI,hm8,rfl,hS3,hM3⟩;have hm20:m≤8:=(by omega);have HP3:=hd_ (HP.out.trans' hM3 (fun i hi hlt=>by omega));have HQ3:=hd_ (HQ.out.strm HS2.out hM3);have HX3:=hd_ (HX.out.modb hM3 (by omega));have HIT:=hd_ (items_callsG w3 b _ m mI hmI hS3 (by omega) (by omega) (fun W h=>HV.out W (HP3.out.trans' h (fun i hi hlt=>by omega))));have HS3:=hd_ hS3;have hs3:=hM3.size;clear hM3 hmI hm8 hS3 HRG HX HQ HP HS2;go_wp2_with fail;refine HIT.out.mono ?_;rintro e w4 ⟨v4,xs,rfl,hxl,hxz,hown4,hS4,hM4⟩;have HXZ:Hid (∀ x∈xs,ItL x):=hd_ (fun x hx=>itL_g (hxz x hx));have HP4:=hd_ (HP3.out.trans' hM4 (fun i hi hlt=>by omega));have HQ4:=hd_ (HQ3.out.strm HS3.out hM4);have HX4:=hd_ (HX3.out.modb hM4 (by omega));have HO4:=hd_ hown4;have HSH:=hd_ (short_calls w4 _ v4 xs hown4 (by omega) (fun x hx=>by have:=(HXZ.out x hx).2.2.2.2; omega));have hs4:=hM4.size;clear hxz hown4 hS4 hM4 HIT HS3 HP3 HQ3 HX3;go_wp2_with fail;refine HSH.out.mono ?_;rintro e w5 ⟨rfl,hown5,hM5⟩;have HP5:Hid (Pure w w5):=hd_ (HP4.out.trans' hM5 (fun i hi hlt=>by have:=(HO4.out).lt i hi; omega));have HQ5:=hd_ (HQ4.out.ownI HO4.out hM5);have HX5:=hd_ (HX4.out.mod hM5 (fun h=>by have:=(HO4.out).lt _ h; omega))
 have HIS:Hid (Its w5 v4 (xs.map shorT)):=hd_ (by
  have h:w5.ownsRow w3.heap.size 62 7 v4 (xs.map shorT).length (itV (xs.map shorT)):=by rw [List.length_map]; exact hown5
  exact Sl.of_own h)
 have HZS:Hid (∀ x∈xs.map shorT,ItL x):=hd_ (fun x hx=>by
  obtain ⟨y,hy,rfl⟩:=List.mem_map.1 hx
  exact shorT_L (HXZ.out y hy))
 have HIF:Hid (itsE itemE (xs.map shorT)=0→∀ x∈xs.map shorT,ItF x):=hd_ (itF_of HXZ.out)
 have hll:(xs.map shorT).length≤2000:=by rw [List.length_map]; omega
 clear hown5 hM5 HO4 HSH HP4 HQ4 HX4 HXZ hxl;generalize xs.map shorT=l at *;have HSR:=hd_ (search_calls w5 v4 l k1 n1 A1 B1 c1 d1 ws1 xs1 (HV.out _ HP5.out) HIS.out HZS.out (by omega) HIF.out HQ5.out (HB.out.mono (by omega)));have HFI:Hid (ck=0→itsE itemE l=0→∀ W,Pure w5 W→Calls Tryz.prog 19 #[qA (QR.mk k1 A1 c1 ws1 n1 B1 d1 xs1),v4] W (StrsP W (fndIds (QR.key (QR.mk k1 A1 c1 ws1 n1 B1 d1 xs1)) l))):=hd_ (fun h0 h1 W h=>findIn_calls W v4 l k1 n1 A1 B1 c1 d1 ws1 xs1 (HIS.out.pure h) (HIF.out h1) (by omega) (fdR_check (by rw [HCK.out]; exact h0)) (HB.out.mono (by omega)) (HQ5.out.pure h));have HIX:Hid (∀ W,Pure w5 W→Calls Tryz.prog 17 #[v4] W (IntPost W (itsE itemE l))):=hd_ (fun W h=>itemsFaultX_calls W v4 l (HIS.out.pure h) HZS.out (by omega) (HV.out _ (HP5.out.trans h)));rw [HCK.out] at HSR;rw [qA_mk] at HSR HFI;generalize QR.key (QR.mk k1 A1 c1 ws1 n1 B1 d1 xs1)=qk at *;generalize itsE itemE l=ie at *;obtain ⟨Av,nv,cv,rfl⟩:=HIS.out.form;have hX:=HX5.out;obtain ⟨x0,x1,x2,x3⟩:=hX.c4;clear hX HIS HZS HIF HCK HB;go_wp2_with fail;refine HSR.out.mono ?_;rintro e w6 ⟨v6,rfl,h60,h6n,hm6⟩;have H60:=hd_ h60;have H6N:=hd_ h6n;have HM6:=hd_ hm6;clear h60 h6n hm6 HSR x0 x1 x2 x3;go_wp2_with fail;refine (HIX.out _ HM6.out).mono ?_;rintro e w7 ⟨rfl,hm7⟩;have HM7:=hd_ (HM6.out.trans hm7);have HR7:=hd_ hm7;clear HIX hm7;have HWO:=hd_ (wrongOr_calls (w7.alloc (.cells #[.int .i64 ck,.int .i64 ie] 30)) w7.heap.size 2 [ck,ie] (Blk.new _ _ _).row0 (by simp));go_wp2_with fail;refine HWO.out.mono ?_;rintro e w8 ⟨rfl,hm8⟩;have HR8:=hd_ ((HR7.out.trans (pure_alloc w7 (.cells #[.int .i64 ck,.int .i64 ie] 30))).trans hm8);have HM8:=hd_ (HM6.out.trans HR8.out);have HP8:=hd_ (HP5.out.trans HM8.out);have HAS:=hd_ (fun W (h:Pure w W)=>asks_calls W (HV.out W h));clear HWO hm8 HM7 HR7
 by_cases h0:firstErr [ck,ie]=0
 ·have hck:ck=0:=by
   by_cases h:ck=0
   ·exact h
   ·simp only [firstErr,if_neg h] at h0;exact h0
  subst hck
  have hie:ie=0:=by
   by_cases h:ie=0
   ·exact h
   ·simp only [firstErr,if_true,if_neg h] at h0;exact absurd h0 (by simp [h])
  subst hie;have HS6:=hd_ ((H60.out rfl).pure HR8.out);have HFF:=hd_ (HFI.out rfl rfl w8 HM8.out);obtain ⟨A6,n6,c6,rfl⟩:=HS6.out.form;have h1:=HX5.out.modp HM8.out;obtain ⟨y0,y1,y2,y3⟩:=h1.c4;rw [h0];clear h0 h1 HFI H60 H6N;go_wp2_with fail;refine HFF.out.mono ?_;rintro e w9 ⟨v9,rfl,hown9,hm9⟩;have HEQ:=hd_ (equalS_calls w9 _ v9 _ (HS6.out.pure hm9) (Sl.of_own hown9));have HP9:=hd_ (HP8.out.trans hm9);clear hown9 hm9 HFF HS6 HP8 y0 y1 y2 y3;go_wp2_with fail;refine HEQ.out.mono ?_;rintro e wa ⟨rfl,hma⟩;have HPA:=hd_ (HP9.out.trans hma);clear hma HEQ HP9;go_wp2_with fail;refine (HAS.out _ HPA.out).mono ?_;rintro e wb ⟨rfl,hmb⟩;have HPB:=hd_ (HPA.out.trans hmb);clear hmb;go_wp2_with fail;go_ret;exact ⟨rfl,HPB.out⟩
 ·have h6:=H6N.out h0;subst h6;generalize firstErr [ck,ie]=er at *;have h0i:(er == 0)=false:=(by simpa using h0)
  have h0n:(er != 0)=true:=by simp [h0]
  clear HFI H60 H6N;go_wp2_with fail;refine (HAS.out _ HP8.out).mono ?_;rintro e wb ⟨rfl,hmb⟩;have HPB:=hd_ (HP8.out.trans hmb);clear hmb;go_wp2_with fail;go_ret;exact ⟨rfl,HPB.out⟩
end Go.Proofs.YtnfflgicngeekaaGreatDoor
