/- Texts of the proof of QuerySearches, put together: QrD, QrG, QrH, QrI, Smq, RunH, RunF, RunI, RunN, QrE, RunJ, RunK, RunO, RunQ, FndA, RunL, FndB, FndC. -/
import Derived.Test.YtnfflgicngeekaaGreatDoorQuerySearchesZ14
import Derived.Test.YtnfflgicngeekaaGreatDoorQuerySearchesZ15
import Derived.Test.YtnfflgicngeekaaGreatDoorQuerySearchesZ18
import Derived.Test.YtnfflgicngeekaaGreatDoorQuerySearchesZ20
import Derived.Test.YtnfflgicngeekaaGreatDoorQuerySearchesZ22
import Derived.Test.YtnfflgicngeekaaGreatDoorQuerySearchesZ26
import Derived.Test.YtnfflgicngeekaaGreatDoorQuerySearchesZ33
import Derived.Test.YtnfflgicngeekaaGreatDoorQuerySearchesZ37
import Derived.Test.YtnfflgicngeekaaGreatDoorQuerySearchesZ38
import Derived.Test.YtnfflgicngeekaaGreatDoorQuerySearchesZ39
set_option linter.unusedVariables false
set_option linter.unusedSimpArgs false
set_option maxRecDepth 100000
set_option maxHeartbeats 8000000
namespace Go.Proofs.YtnfflgicngeekaaGreatDoor
open Go.RowKit
section
variable {k n:Int} {must:Bool} {ws:List Str} {xs:List Qry} {M:Nat}
theorem headE_is (h:isK k=true):¬ ¬ (1≤k∧k≤13):=not_not_intro (of_decide_eq_true h)
theorem flt_4 (h:isK k=false):fltQ M must (.mk k ws n xs)=4:=by
 have e:headE M must k ws n xs.length=4:=by unfold headE; rw [if_pos (of_decide_eq_false h)]
 rw [fltQ,e,if_pos (by decide)]
theorem flt_10 (h:isK k=true) (h1:(must && !byWK k)=true):fltQ M must (.mk k ws n xs)=10:=by
 have e:headE M must k ws n xs.length=10:=by
  unfold headE;rw [if_neg (headE_is h),if_pos (by simpa using h1)]
 rw [fltQ,e,if_pos (by decide)]
theorem flt_3 (h:isK k=true) (h1:(must && !byWK k)=false) (h2:formB M k ws.length n xs.length=false):fltQ M must (.mk k ws n xs)=3:=by
 have e:headE M must k ws n xs.length=3:=by
  unfold headE;rw [if_neg (headE_is h),if_neg (by intro hh; rw [hh.1,hh.2] at h1; cases h1),if_pos h2]
 rw [fltQ,e,if_pos (by decide)]
theorem flt_5 (h:isK k=true) (h1:(must && !byWK k)=false) (h2:formB M k ws.length n xs.length=true) (h3:ws.any (wordBad k)=true):fltQ M must (.mk k ws n xs)=5:=by
 have e:headE M must k ws n xs.length=5:=by
  unfold headE;rw [if_neg (headE_is h),if_neg (by intro hh; rw [hh.1,hh.2] at h1; cases h1),if_neg (by rw [h2]; decide),if_pos h3]
 rw [fltQ,e,if_pos (by decide)]
theorem head_n (h:isK k=true) (h1:(must && !byWK k)=false) (h2:formB M k ws.length n xs.length=true) (h3:ws.any (wordBad k)=false):headE M must k ws n xs.length=numE k n:=by
 unfold headE;rw [if_neg (headE_is h),if_neg (by intro hh; rw [hh.1,hh.2] at h1; cases h1),if_neg (by rw [h2]; decide),if_neg (by rw [h3]; decide)]
theorem flt_n (h:isK k=true) (h1:(must && !byWK k)=false) (h2:formB M k ws.length n xs.length=true) (h3:ws.any (wordBad k)=false) (h4:numE k n≠0):fltQ M must (.mk k ws n xs)=numE k n:=by
 rw [fltQ,head_n h h1 h2 h3,if_pos h4]
theorem flt_0 (h:isK k=true) (h1:(must && !byWK k)=false) (h2:formB M k ws.length n xs.length=true) (h3:ws.any (wordBad k)=false) (h4:numE k n=0):fltQ M must (.mk k ws n xs)=fstE (xs.map (fltQ M (mustQ must k))):=by
 rw [fltQ,head_n h h1 h2 h3,if_neg (not_not_intro h4)]
end
theorem kwQ_nil (n:Int):(kwQ n == []) = !decide (1≤n∧n≤4):=by
 by_cases h:1≤n∧n≤4
 ·obtain rfl | rfl | rfl | rfl:n=1∨n=2∨n=3∨n=4:=by omega
  all_goals rfl
 ·rw [decide_eq_false h];unfold kwQ;rw [if_neg (by omega),if_neg (by omega),if_neg (by omega),if_neg (by omega)]
  rfl
theorem inB_eq (n a b:Int):inB n a b=decide (a≤n∧n≤b):=by
 cases h:inB n a b
 ·have:=inB_false h;exact (decide_eq_false (by omega)).symm
 ·have:=inB_true h;exact (decide_eq_true (by omega)).symm
theorem inner_calls:∀ (qr:QR) (w:World) (must:Bool),QS w qr→QB 1000 qr.key→Calls Tryz.prog 108 #[qA qr,.bool must] w (IntPost w (fltQ 100 must qr.key)):=by
 refine QR.ind (fun k A c ws n B dd xs ih => ?_);intro w must hQ hB;have HIH:=hd_ ih;rw [QR.key_mk] at hB ⊢;have HQ:=hd_ hQ;have hql:=hB.xsH;have hwl:=hB.wsH.1;have HWL:=hd_ hB.wsH.2;have HQB:=hd_ hB.allH;rw [List.length_map] at hql;have HQX:=hd_ hQ.xsH;have HQW:=hd_ hQ.wsH;have hB0:=Blk.new w 29 #[.int .i64 k,.slice A ws.length c,.int .i64 n,.slice B xs.length dd];have hP0:=pure_alloc w (.cells #[.int .i64 k,.slice A ws.length c,.int .i64 n,.slice B xs.length dd] 29);have HNK:=hd_ (fun W=>nears_calls W k n A B ws.length c xs.length dd);have HBW:=hd_ (fun W=>byWords_calls W k n A B ws.length c xs.length dd);obtain ⟨fl,hfl⟩:∃ fl,fltQ 100 must (.mk k ws n (xs.map QR.key))=fl:=⟨_,rfl⟩;rw [hfl];have F4:=hd_ (fun h=>(flt_4 (M:=100) (must:=must) (ws:=ws) (n:=n) (xs:=xs.map QR.key) (k:=k) h).symm.trans hfl);have F10:=hd_ (fun h h1=>(flt_10 (M:=100) (must:=must) (ws:=ws) (n:=n) (xs:=xs.map QR.key) (k:=k) h h1).symm.trans hfl);have F3:=hd_ (fun h h1 h2=>(flt_3 (M:=100) (must:=must) (ws:=ws) (n:=n) (xs:=xs.map QR.key) (k:=k) h h1 h2).symm.trans hfl);have F5:=hd_ (fun h h1 h2 h3=>(flt_5 (M:=100) (must:=must) (ws:=ws) (n:=n) (xs:=xs.map QR.key) (k:=k) h h1 h2 h3).symm.trans hfl);have FN:=hd_ (fun h h1 h2 h3 h4=>(flt_n (M:=100) (must:=must) (ws:=ws) (n:=n) (xs:=xs.map QR.key) (k:=k) h h1 h2 h3 h4).symm.trans hfl);have F0:=hd_ (fun h h1 h2 h3 h4=>(flt_0 (M:=100) (must:=must) (ws:=ws) (n:=n) (xs:=xs.map QR.key) (k:=k) h h1 h2 h3 h4).symm.trans hfl);rw [List.length_map] at F3 F5 FN F0;have HUS:=hd_ (fun W=>uses_calls W k)
 show Calls Tryz.prog 108 #[.agg #[.int .i64 k,.slice A ws.length c,.int .i64 n,.slice B xs.length dd],.bool must] w (IntPost w fl)
 clear hQ hB ih hfl
 go_enter Tryz.func108,Tryz.ntmps108
 go_upto_region 1 with (fail);generalize (w.alloc (.cells #[.int .i64 k,.slice A ws.length c,.int .i64 n,.slice B xs.length dd] 29))=w1 at *;generalize hg0:w.heap.size=g0 at *;have hwg:w.heap.size≤g0:=Nat.le_of_eq hg0;clear hg0;have HB1:=hd_ hB0;have HP1:Hid (Pure w w1):=hd_ hP0;obtain ⟨x0,x1,x2,x3⟩:=hB0.c4;clear hB0 hP0;go_wp2_with fail;refine (HUS.out w1).mono ?_;rintro e w2 ⟨rfl,hm⟩;have HFM:Hid (formB 100 k ws.length n xs.length=(((useQ 100 k).nb || decide (n=0)) && (decide ((useQ 100 k).w0≤ws.length∧ws.length≤(useQ 100 k).w1) && decide ((useQ 100 k).a0≤xs.length∧xs.length≤(useQ 100 k).a1)))):=hd_ rfl;have hB2:=HB1.out.modp hm;have hP2:=HP1.out.trans hm;obtain ⟨is,his⟩:∃ is,isK k=is:=⟨_,rfl⟩;rw [his];have HIS:=hd_ his;generalize useQ 100 k=U at *;obtain ⟨u0,u1,u2,u3,nb⟩:=U;simp only at HFM ⊢;have hb5:=(Blk.new w2 205 #[.int .i64 (u0:Int),.int .i64 (u1:Int)]).alloc (.cells #[.int .i64 (u2:Int),.int .i64 (u3:Int)] 205);have hb6:=Blk.snd w2 (.cells #[.int .i64 (u0:Int),.int .i64 (u1:Int)] 205) 205 #[.int .i64 (u2:Int),.int .i64 (u3:Int)];have hB3:=(hB2.alloc (.cells #[.int .i64 (u0:Int),.int .i64 (u1:Int)] 205)).alloc (.cells #[.int .i64 (u2:Int),.int .i64 (u3:Int)] 205);have hP3:=(hP2.alloc (.cells #[.int .i64 (u0:Int),.int .i64 (u1:Int)] 205)).alloc (.cells #[.int .i64 (u2:Int),.int .i64 (u3:Int)] 205);clear hm HUS his hB2 hP2 HB1 HP1 x0 x1 x2 x3;go_upto_region 2 with (fail);generalize ((w2.alloc (.cells #[.int .i64 (u0:Int),.int .i64 (u1:Int)] 205)).alloc (.cells #[.int .i64 (u2:Int),.int .i64 (u3:Int)] 205))=w3 at *;generalize w2.heap.size=g5 at *;have H5:=hd_ hb5;have H6:=hd_ hb6;have HB3:=hd_ hB3;have HP3:Hid (Pure w w3):=hd_ hP3;clear hb5 hb6 hB3 hP3
 cases is with
 | false =>
  have HR:=hd_ (F4.out HIS.out);clear F4 F10 F3 F5 FN F0 HIH HQ HQB HQX HQW HWL HFM;go_wp2_with fail
  try simp only [Exit.inBlock,Exit.then]
  refine bodyPost_ret (v:=.int .i64 4) (by simp [results,Tryz.results108,go_sem]) rfl ?_;rw [← HR.out];exact ⟨rfl,HP3.out⟩
 | true =>
  have his:=HIS.out;clear F4 HIS;obtain ⟨c1,hc1⟩:∃ c1,(must && !byWK k)=c1:=⟨_,rfl⟩;rw [hc1] at F10 F3 F5 FN F0;have hb3:=HB3.out;obtain ⟨x0,x1,x2,x3⟩:=hb3.c4;clear hb3;go_upto_region 4 with (fail)
  go_cut [29] from 24 to 28 (fun p wx=>p = .bool c1∧Pure w3 wx)
  case first =>
   clear F10 F3 F5 FN F0 HIH HQ HQB HQX HQW HWL HFM
   cases must with
   | false =>
    obtain rfl:false=c1:=hc1;go_wp2_with fail;go_meet;exact ⟨rfl,Mod.refl _ _⟩
   | true =>
    obtain ⟨bw,hbw⟩:∃ bw,byWK k=bw:=⟨_,rfl⟩;rw [hbw] at HBW hc1;obtain rfl:(!bw)=c1:=hc1;clear hbw;go_wp2_with fail;refine (HBW.out w3).mono ?_;rintro e w4 ⟨rfl,hm⟩;have HM:=hd_ hm;clear hm;go_wp2_with fail;go_meet;exact ⟨by first | rfl | simp,HM.out⟩
  case rest =>
   obtain ⟨rfl,hpc⟩:=hcut;have HB4:=hd_ (HB3.out.modp hpc);have K5:=hd_ (H5.out.modp hpc);have K6:=hd_ (H6.out.modp hpc);have HP4:Hid (Pure w wc):=hd_ (HP3.out.trans hpc);clear hpc x0 x1 x2 x3 HB3 H5 H6 HP3 HBW;generalize wc=w4 at *
   cases c1 with
   | true =>
    have HR:=hd_ (F10.out his rfl);clear F10 F3 F5 FN F0 HIH HQ HQB HQX HQW HWL HFM hc1;go_wp2_with fail
    try simp only [Exit.inBlock,Exit.then]
    refine bodyPost_ret (v:=.int .i64 10) (by simp [results,Tryz.results108,go_sem]) rfl ?_;rw [← HR.out];exact ⟨rfl,HP4.out⟩
   | false =>
    clear F10 hc1;obtain ⟨fm,hfm⟩:∃ fm,formB 100 k ws.length n xs.length=fm:=⟨_,rfl⟩;rw [hfm] at F3 F5 FN F0 HFM;clear hfm;have hb4:=HB4.out;have k5:=K5.out;have k6:=K6.out;obtain ⟨x0,x1,x2,x3⟩:=hb4.c4;obtain ⟨y0,y1⟩:=k5.c2;obtain ⟨z0,z1⟩:=k6.c2;clear hb4 k5 k6;go_upto_region 6 with (fail)
    go_cut [58] from 30 to 57 (fun p wx=>p = .bool (!fm)∧w4=wx)
    case first =>
     have e:=HFM.out;clear F3 F5 FN F0 HIH HQ HQB HQX HQW HWL HFM;have i1:∀ W,Calls Tryz.prog 65 #[.int .i64 (ws.length:Int),.int .i64 (u0:Int),.int .i64 (u1:Int)] W (BoolSame W (decide (u0≤ws.length∧ws.length≤u1))):=fun W=>(in_calls _ _ _ W).mono (fun e w' h=>⟨by rw [h.1,inB_eq]; congr 2; simp only [decide_eq_decide]; omega,h.2⟩);have i2:∀ W,Calls Tryz.prog 65 #[.int .i64 (xs.length:Int),.int .i64 (u2:Int),.int .i64 (u3:Int)] W (BoolSame W (decide (u2≤xs.length∧xs.length≤u3))):=fun W=>(in_calls _ _ _ W).mono (fun e w' h=>⟨by rw [h.1,inB_eq]; congr 2; simp only [decide_eq_decide]; omega,h.2⟩);have I1:=hd_ i1;have I2:=hd_ i2;clear i1 i2;generalize decide (u0≤ws.length∧ws.length≤u1)=b1 at *;generalize decide (u2≤xs.length∧xs.length≤u3)=b2 at *
     by_cases hnn:nb=false∧n≠0
     ·obtain ⟨rfl,hn0⟩:=hnn;rw [decide_eq_false hn0,Bool.or_false,Bool.false_and] at e;subst e;have hni:(n != 0)=true:=(by simpa using hn0);go_wp2_with fail;go_meet;exact ⟨rfl,rfl⟩
     ·have en:(nb || decide (n=0))=true:=by
       cases nb
       ·simp at hnn;rw [decide_eq_true hnn]; rfl
       ·rfl
      rw [en,Bool.true_and] at e
      have hnb:nb=true∨(nb=false∧n=0):=by
       cases nb
       ·exact .inr ⟨rfl,by simpa using hnn⟩
       ·exact .inl rfl
      clear en hnn
      rcases hnb with rfl | ⟨rfl,rfl⟩
      all_goals
       go_wp2_with fail;refine (I1.out w4).mono ?_;rintro e2 w5 ⟨rfl,rfl⟩
       cases b1
       ·rw [Bool.false_and] at e;subst e;go_wp2_with fail;go_meet;exact ⟨rfl,rfl⟩
       ·rw [Bool.true_and] at e;subst e;go_wp2_with fail;refine (I2.out w4).mono ?_;rintro e2 w5 ⟨rfl,rfl⟩;go_wp2_with fail;go_meet;exact ⟨by first | rfl | simp,rfl⟩
    case rest =>
     obtain ⟨rfl,rfl⟩:=hcut;clear HFM K5 K6 y0 y1 z0 z1
     cases fm with
     | false =>
      have HR:=hd_ (F3.out his rfl rfl);clear F3 F5 FN F0 HIH HQ HQB HQX HQW HWL;go_wp2_with fail
      try simp only [Exit.inBlock,Exit.then]
      refine bodyPost_ret (v:=.int .i64 3) (by simp [results,Tryz.results108,go_sem]) rfl ?_;rw [← HR.out];exact ⟨rfl,HP4.out⟩
     | true =>
      clear F3;go_wp2_with fail
      go_loopg [62] ws.length (fun gk i wr=>∃ j:Nat,ws.length - j=gk∧j≤ws.length∧i = .int .i64 (j:Int)∧(ws.take j).any (wordBad k)=false∧w4=wr)
      case atStart=>exact ⟨0,by omega,by omega,rfl,by simp,rfl⟩
      case round =>
       obtain ⟨j,rfl,hj,rfl,hany,rfl⟩:=hrel
       by_cases hlt:j<ws.length
       ·obtain ⟨gW,oW,rfl,hrow⟩:=(HQW.out.pure HP4.out).rowS (by omega);have hq:=hrow.cell (strsV_get ws j hlt);have hwl1:=HWL.out ws[j] (List.getElem_mem hlt);have HBAD:Hid (wordBad k ws[j]=true→ws.any (wordBad k)=true):=hd_ (fun h=>List.any_eq_true.2 ⟨_,List.getElem_mem hlt,h⟩)
        have HGOOD:Hid (wordBad k ws[j]=false→(ws.take (j+1)).any (wordBad k)=false):=hd_ (fun h=>by
         rw [List.take_succ_eq_append_getElem hlt,List.any_append,hany]
         simp [h])
        have HKY:=hd_ (fun W=>key_calls W ⟨ws[j].toArray⟩ (by have:(⟨ws[j].toArray⟩:ByteArray).size=ws[j].length:=rfl; omega));have HPT:=hd_ (fun W=>isPattern_calls W ws[j] (by omega));have HRV:=hd_ (fun W=>reserved_calls W ws[j]);have HWB:Hid (wordBad k ws[j]=if k=9 then !keyB ws[j] else !patB ws[j] || (decide (k=2) && resvB ws[j])):=hd_ rfl;rw [show keyB (⟨ws[j].toArray⟩:ByteArray).data.toList=keyB ws[j] from rfl] at HKY;generalize wordBad k ws[j]=wb at *;generalize keyB ws[j]=kb at *;generalize patB ws[j]=pb at *;generalize resvB ws[j]=rb at *;generalize ws[j]=sx at *;have hji:((j:Nat):Int)<(ws.length:Int):=(by omega);clear hrow hany;go_upto_region 11 with (fail)
        go_cut [92] from 66 to 91 (fun p wx=>p = .bool wb∧w4=wx)
        case first =>
         have e:=HWB.out;clear F5 FN F0 HIH HQ HQB HQX HQW HWL HBAD HGOOD
         by_cases h9:k=9
         ·rw [if_pos h9] at e;subst h9;go_wp2_with fail;refine (HKY.out w4).mono ?_;rintro e2 w5 ⟨rfl,rfl⟩
          cases kb
          ·obtain rfl:wb=true:=e;go_wp2_with fail;go_meet;exact ⟨rfl,rfl⟩
          ·obtain rfl:wb=false:=e;go_wp2_with fail;go_meet;exact ⟨rfl,rfl⟩
         ·rw [if_neg h9] at e;have h9i:(k == 9)=false:=(by simpa using h9);have h9n:(k != 9)=true:=(by simpa using h9);go_wp2_with fail;refine (HPT.out w4).mono ?_;rintro e2 w5 ⟨rfl,rfl⟩
          cases pb
          ·obtain rfl:wb=true:=e;go_wp2_with fail;go_meet;exact ⟨rfl,rfl⟩
          ·by_cases h2:k=2
           ·rw [decide_eq_true h2,Bool.true_and,Bool.not_true,Bool.false_or] at e;subst h2;subst e;go_wp2_with fail;refine (HRV.out w4).mono ?_;rintro e2 w5 ⟨rfl,rfl⟩;go_wp2_with fail;go_meet;exact ⟨by first | rfl | simp,rfl⟩
           ·rw [decide_eq_false h2,Bool.false_and,Bool.not_true,Bool.false_or] at e;have h2i:(k == 2)=false:=(by simpa using h2);subst e;go_wp2_with fail;go_meet;exact ⟨rfl,rfl⟩
        case rest =>
         obtain ⟨rfl,rfl⟩:=hcut;clear HKY HPT HRV HWB
         cases wb with
         | true =>
          have HR:=hd_ (F5.out his trivial trivial (HBAD.out rfl));clear F5 FN F0 HIH HQ HQB HQX HQW HWL HBAD HGOOD;go_wp2_with fail
          try simp only [Exit.inBlock,Exit.then]
          refine bodyPost_ret (v:=.int .i64 5) (by simp [results,Tryz.results108,go_sem]) rfl ?_;rw [← HR.out];exact ⟨rfl,HP4.out⟩
         | false =>
          have HG:=hd_ (HGOOD.out rfl);clear HBAD HGOOD;go_wp2_with fail
          go_roundg (ws.length - (j+1))
          case measure=>omega
          case rel=>exact ⟨j+1,rfl,by omega,by simp,HG.out,rfl⟩
       ·obtain rfl:j=ws.length:=by omega
        rw [List.take_length] at hany;have FN2:=hd_ (fun h4=>FN.out his trivial trivial hany h4);have F02:=hd_ (fun h4=>F0.out his trivial trivial hany h4);have hjj:¬ ((ws.length:Nat):Int)<(ws.length:Int):=(by omega);clear F5 FN F0 hany HQW HWL;obtain ⟨b1,hb1⟩:∃ b1,decide ((nearK k=true∧¬ (0≤n∧n≤20))∨((k=12∨k=13)∧¬ (0≤n∧n≤4000)))=b1:=⟨_,rfl⟩;obtain ⟨b2,hb2⟩:∃ b2,decide (k=10∧¬ (1≤n∧n≤4))=b2:=⟨_,rfl⟩
        have HNE:Hid (numE k n=if b1=true then 1 else if b2=true then 4 else 0):=hd_ (by
         unfold numE;rw [← hb1,← hb2]
         simp only [decide_eq_true_eq])
        have HB1:=hd_ hb1;have HB2:=hd_ hb2;obtain ⟨nk,hnk⟩:∃ nk,nearK k=nk:=⟨_,rfl⟩;rw [hnk] at HNK HB1;have HKN:=hd_ hnk;clear hb1 hb2 hnk;go_upto_region 14 with (fail)
        go_cut [94] from 95 to 118 (fun p wx=>p = .bool b1∧Pure w4 wx)
        case first =>
         have e:=HB1.out;have i1:∀ W,Calls Tryz.prog 65 #[.int .i64 n,.int .i64 0,.int .i64 20] W (BoolSame W (decide (0≤n∧n≤20))):=fun W=>(in_calls _ _ _ W).mono (fun e w' h=>⟨by rw [h.1,inB_eq],h.2⟩);have i2:∀ W,Calls Tryz.prog 65 #[.int .i64 n,.int .i64 0,.int .i64 4000] W (BoolSame W (decide (0≤n∧n≤4000))):=fun W=>(in_calls _ _ _ W).mono (fun e w' h=>⟨by rw [h.1,inB_eq],h.2⟩);have I1:=hd_ i1;have I2:=hd_ i2;clear i1 i2 FN2 F02 HIH HQ HQB HQX HNE HB2;go_wp2_with fail;refine (HNK.out w4).mono ?_;rintro e2 w5 ⟨rfl,hm⟩;have HM:Hid (Pure w4 w5):=hd_ hm;have hb5:=HB4.out.modp hm;clear x0 x1 x2 x3 hm HB4 HNK;obtain ⟨x0,x1,x2,x3⟩:=hb5.c4;clear hb5
         cases nk with
         | true =>
          have hk45:k=4∨k=5:=by simpa [nearK] using HKN.out
          have h12:¬ (k=12∨k=13):=(by omega);obtain ⟨q1,hq1⟩:∃ q1,decide (0≤n∧n≤20)=q1:=⟨_,rfl⟩;rw [hq1] at I1
          have e1:(!q1)=b1:=by
           rw [← e,← hq1]
           by_cases h:0≤n∧n≤20
           ·rw [decide_eq_true h,decide_eq_false (by intro hh; rcases hh with hh | hh; exact hh.2 h; exact h12 hh.1)]; rfl
           ·rw [decide_eq_false h,decide_eq_true (.inl ⟨rfl,h⟩)]; rfl
          clear e hq1 HKN;go_wp2_with fail;refine (I1.out w5).mono ?_;rintro e2 w6 ⟨rfl,rfl⟩
          cases q1
          ·obtain rfl:true=b1:=e1;go_wp2_with fail;go_meet;exact ⟨rfl,HM.out⟩
          ·obtain rfl:false=b1:=e1
           rcases hk45 with rfl | rfl
           all_goals
            go_wp2_with fail;go_meet;exact ⟨rfl,HM.out⟩
         | false =>
          by_cases h12:k=12∨k=13
          ·obtain ⟨q2,hq2⟩:∃ q2,decide (0≤n∧n≤4000)=q2:=⟨_,rfl⟩;rw [hq2] at I2
           have e1:(!q2)=b1:=by
            rw [← e,← hq2]
            by_cases h:0≤n∧n≤4000
            ·rw [decide_eq_true h,decide_eq_false (by intro hh; rcases hh with hh | hh; exact absurd hh.1 (by decide); exact hh.2 h)]; rfl
            ·rw [decide_eq_false h,decide_eq_true (.inr ⟨h12,h⟩)]; rfl
           clear e hq2 HKN
           rcases h12 with rfl | rfl
           all_goals
            go_wp2_with fail;refine (I2.out w5).mono ?_;rintro e2 w6 ⟨rfl,rfl⟩;go_wp2_with fail;go_meet;exact ⟨by rw [← e1],HM.out⟩
          ·have e1:false=b1:=by
            rw [← e,decide_eq_false (by intro hh; rcases hh with hh | hh; exact absurd hh.1 (by decide); exact h12 hh.1)]
           subst e1
           have n12:(k == 12)=false:=by simp; omega
           have n13:(k == 13)=false:=by simp; omega
           clear e HKN h12;go_wp2_with fail;go_meet;exact ⟨rfl,HM.out⟩
        case rest =>
         obtain ⟨rfl,hpc⟩:=hcut;have HB5:=hd_ (HB4.out.modp hpc);have HP5:Hid (Pure w wc):=hd_ (HP4.out.trans hpc);clear hpc x0 x1 x2 x3 HB4 HP4 HB1;generalize wc=w5 at *
         cases b1 with
         | true =>
          have hne:numE k n=1:=HNE.out.trans (if_pos rfl);have HR:=hd_ ((FN2.out (by rw [hne]; decide)).symm.trans hne);clear FN2 F02 HIH HQ HQB HQX HNE hne HB2;go_wp2_with fail
          try simp only [Exit.inBlock,Exit.then]
          refine bodyPost_ret (v:=.int .i64 1) (by simp [results,Tryz.results108,go_sem]) rfl ?_;rw [HR.out];exact ⟨rfl,HP5.out⟩
         | false =>
          have hne:numE k n=if b2=true then 4 else 0:=HNE.out.trans (if_neg (by decide))
          have hb5:=HB5.out;obtain ⟨x0,x1,x2,x3⟩:=hb5.c4;clear hb5;have HNE2:=hd_ hne;clear HNE hne;go_upto_region 16 with (fail)
          go_cut [119] from 120 to 128 (fun p wx=>p = .bool b2∧w5=wx)
          case first =>
           have e:=HB2.out;have HKW:=hd_ (kindWordQ_calls w5 n);have hkn:=kwQ_nil n;clear FN2 F02 HIH HQ HQB HQX HNE2 HNK
           by_cases h10:k=10
           ·have e1:(kwQ n == [])=b2:=by
             rw [hkn,← e]
             by_cases h:1≤n∧n≤4
             ·rw [decide_eq_true h,decide_eq_false (fun hh=>hh.2 h)]; rfl
             ·rw [decide_eq_false h,decide_eq_true ⟨h10,h⟩]; rfl
            subst h10;clear e hkn;generalize kwQ n=kw at *;go_wp2_with fail;refine HKW.out.mono ?_;rintro e2 w6 ⟨rfl,rfl⟩;go_wp2_with fail;go_meet;exact ⟨by first | rfl | (rw [← e1]; rfl) | (rw [← e1]; simp),rfl⟩
           ·have h10i:(k == 10)=false:=(by simpa using h10)
            obtain rfl:false=b2:=by rw [← e,decide_eq_false (fun hh=>h10 hh.1)]
            clear e h10 hkn HKW;go_wp2_with fail;go_meet;exact ⟨rfl,rfl⟩
          case rest =>
           obtain ⟨rfl,rfl⟩:=hcut
           cases b2 with
           | true =>
            have hne:numE k n=4:=HNE2.out.trans (if_pos rfl);have HR:=hd_ ((FN2.out (by rw [hne]; decide)).symm.trans hne);clear FN2 F02 HIH HQ HQB HQX HNE2 hne HB2;go_wp2_with fail
            try simp only [Exit.inBlock,Exit.then]
            refine bodyPost_ret (v:=.int .i64 4) (by simp [results,Tryz.results108,go_sem]) rfl ?_;rw [HR.out];exact ⟨rfl,HP5.out⟩
           | false =>
            have HFL:Hid (fl=fstE ((xs.map QR.key).map (fltQ 100 (mustQ must k)))):=hd_ (F02.out (HNE2.out.trans (if_neg (by decide)))).symm;clear FN2 F02 HNE2 HB2;have HMQ:Hid (mustQ must k=(nk || (must && decide (k=7)))):=hd_ (by unfold mustQ; rw [HKN.out]);obtain ⟨mq,hmq⟩:∃ mq,mustQ must k=mq:=⟨_,rfl⟩;rw [hmq] at HFL HMQ;clear hmq HKN;go_wp2_with fail
            go_loopg [132] xs.length (fun gk i wr=>∃ j:Nat,xs.length - j=gk∧j≤xs.length∧i = .int .i64 (j:Int)∧fstE (((xs.map QR.key).map (fltQ 100 mq)).take j)=0∧Pure w5 wr)
            case atStart=>exact ⟨0,by omega,by omega,rfl,by simp [fstE],Mod.refl _ _⟩
            case round =>
             obtain ⟨j,rfl,hj,rfl,hfs,hm⟩:=hrel;have HM:Hid (Pure w wr):=hd_ (HP5.out.trans hm);have HMR:Hid (Pure w5 wr):=hd_ hm;have HB6':=hd_ (HB5.out.modp hm);have HFS:=hd_ hfs;clear hm hfs
             by_cases hlt:j<xs.length
             ·obtain ⟨k',A',c',ws',n',B',dd',xs',hq⟩:=QR.ex xs[j];have hxs:=HQX.out.pure HM.out;obtain ⟨g,off,hA,q0,q1,q2,q3⟩:=qcells hxs hlt hq;obtain rfl:=hA;have hji:((j:Nat):Int)<(xs.length:Int):=(by omega);have HQJ:Hid (QS wr (.mk k' A' c' ws' n' B' dd' xs')):=hd_ (by rw [← hq]; exact (HQ.out.allH _ (List.getElem_mem hlt)).pure HM.out);have HQK:Hid (QB 1000 (QR.mk k' A' c' ws' n' B' dd' xs').key):=hd_ (by rw [← hq]; exact HQB.out _ (List.mem_map.2 ⟨_,List.getElem_mem hlt,rfl⟩));have HMEM:Hid (QR.mk k' A' c' ws' n' B' dd' xs'∈xs):=hd_ (by rw [← hq]; exact List.getElem_mem hlt);obtain ⟨er,her⟩:∃ er,fltQ 100 mq (QR.mk k' A' c' ws' n' B' dd' xs').key=er:=⟨_,rfl⟩;have hjl:j<((xs.map QR.key).map (fltQ 100 mq)).length:=(by simpa using hlt);have hat:=fstE_at hjl HFS.out
              have hge:((xs.map QR.key).map (fltQ 100 mq))[j]=er:=by rw [List.getElem_map,List.getElem_map,hq,her]
              rw [hge] at hat
              have HAT:=hd_ hat
              have HPA:=hd_ (pure_alloc wr (.cells #[.int .i64 k',.slice A' ws'.length c',.int .i64 n',.slice B' xs'.length dd'] 29));have hX6:=Blk.new wr 29 #[.int .i64 k',.slice A' ws'.length c',.int .i64 n',.slice B' xs'.length dd'];have hB6:=HB6'.out.alloc (.cells #[.int .i64 k',.slice A' ws'.length c',.int .i64 n',.slice B' xs'.length dd'] 29);clear hat hge hjl hxs hq HB6';go_upto_region 21 with (fail)
              have HI:Hid (∀ W,Pure (wr.alloc (.cells #[.int .i64 k',.slice A' ws'.length c',.int .i64 n',.slice B' xs'.length dd'] 29)) W→Calls Tryz.prog 108 #[.agg #[.int .i64 k',.slice A' ws'.length c',.int .i64 n',.slice B' xs'.length dd'],.bool mq] W (IntPost W er)):=hd_ (fun W h=>by
               have h2:=HIH.out _ HMEM.out W mq ((HQJ.out.pure HPA.out).pure h) HQK.out;rw [her] at h2
               exact h2)
              have HP6:Hid (Pure w (wr.alloc (.cells #[.int .i64 k',.slice A' ws'.length c',.int .i64 n',.slice B' xs'.length dd'] 29))):=hd_ (HM.out.trans HPA.out);have HM5:Hid (Pure w5 (wr.alloc (.cells #[.int .i64 k',.slice A' ws'.length c',.int .i64 n',.slice B' xs'.length dd'] 29))):=hd_ (HMR.out.trans HPA.out);generalize (wr.alloc (.cells #[.int .i64 k',.slice A' ws'.length c',.int .i64 n',.slice B' xs'.length dd'] 29))=w6 at *;generalize wr.heap.size=g12 at *;have HX6:=hd_ hX6;have HB6:=hd_ hB6;have emq:=HMQ.out;clear hX6 hB6 HQJ HQK HMEM HPA HIH her q0 q1 q2 q3 HM HMR
              cases nk with
              | true =>
               rw [Bool.true_or] at emq;subst emq;have HGs:=hd_ (show KeepG (fun Z=>Blk Z g0 29 #[.int .i64 k,.slice A ws.length c,.int .i64 n,.slice (some ⟨g,off,none⟩) xs.length dd]∧Blk Z g12 29 #[.int .i64 k',.slice A' ws'.length c',.int .i64 n',.slice B' xs'.length dd']) from fun D zzi zq zq' h hm=>by (exact ⟨h.1.modp hm,h.2.modp hm⟩))
               refine wp_region_inv (by kernel_rfl) (by kernel_rfl) (InvF (R:=Mod (fun _=>False)) [.is (.agg #[.int .i64 k',.slice A' ws'.length c',.int .i64 n',.slice B' xs'.length dd']),.is (.agg #[.int .i64 k,.slice A ws.length c,.int .i64 n,.slice (some ⟨g,off,none⟩) xs.length dd]),.is (.bool true),.is (.bool true),.is (undef),.is (undef),.is (undef),.is (undef),.is (undef),.is (undef),.is (.bool true),.is (.int .i64 er),.is (.int .i64 er)]
                 (PB w6 (fun _=>False) w6.heap.size (fun _=>(fun Z=>Blk Z g0 29 #[.int .i64 k,.slice A ws.length c,.int .i64 n,.slice (some ⟨g,off,none⟩) xs.length dd]∧Blk Z g12 29 #[.int .i64 k',.slice A' ws'.length c',.int .i64 n',.slice B' xs'.length dd'])))) (InvF.start (PB.start (Mod.refl _ _) (Nat.le_refl _) (⟨HB6.out,HX6.out⟩))) ?_ ?_
               ·iterate 13 (refine .cons ?_ ?_; rotate_left)
                exact .nil
                all_goals intro D V zw1 a hR hI K hK
                all_goals try rw [if_pos (by rfl)]
                ·have hG1:=hI.1.g;have ze12:=hR.ot 12;have zx0:=hG1.2.cell 0; have zx1:=hG1.2.cell 1; have zx2:=hG1.2.cell 2; have zx3:=hG1.2.cell 3;simp at zx0 zx1 zx2 zx3;go_simp;exact hK _ _ (hI.nq hR HGs.out rfl)
                ·have hG1:=hI.1.g;have ze2:=hR.ot 2;have zx0:=hG1.1.cell 0; have zx1:=hG1.1.cell 1; have zx2:=hG1.1.cell 2; have zx3:=hG1.1.cell 3;simp at zx0 zx1 zx2 zx3;go_simp;exact hK _ _ (hI.nq hR HGs.out rfl)
                ·have ze137:=hI.tm hR 137 1;go_simp;refine (HNK.out zw1).mono ?_;rintro e zw2 ⟨rfl,hm2⟩;exact hK _ _ (hI.nc hR HGs.out hm2 rfl)
                have ze138:=hI.tm hR 138 2;rotate_left;have ze139:=hI.tm hR 139 3;rw [if_neg (by simp [Region.wanted,yielded,ze139])];exact hK _ _ (hI.nq hR HGs.out rfl);have ze139:=hI.tm hR 139 3;rw [if_neg (by simp [Region.wanted,yielded,ze139])];exact hK _ _ (hI.nq hR HGs.out rfl);have ze141:=hI.tm hR 141 5;rw [if_neg (by simp [Region.wanted,yielded,ze141,undef])];exact hK _ _ (hI.nq hR HGs.out rfl);have ze141:=hI.tm hR 141 5;rw [if_neg (by simp [Region.wanted,yielded,ze141,undef])];exact hK _ _ (hI.nq hR HGs.out rfl);have ze141:=hI.tm hR 141 5;rw [if_neg (by simp [Region.wanted,yielded,ze141,undef])];exact hK _ _ (hI.nq hR HGs.out rfl);have ze139:=hI.tm hR 139 3;rw [if_neg (by simp [Region.wanted,yielded,ze139])];exact hK _ _ (hI.nq hR HGs.out rfl);have ze139:=hI.tm hR 139 3;have ze145:=hI.tm hR 145 9;rotate_left
                ·have hM1:=hI.1.mod;have ze136:=hI.tm hR 136 0;have ze146:=hI.tm hR 146 10;go_simp;refine (HI.out zw1 hM1).mono ?_;rintro e zw2 ⟨rfl,hm2⟩;exact hK _ _ (hI.nc hR HGs.out hm2 rfl)
                have ze147:=hI.tm hR 147 11;rotate_left
                all_goals (go_simp; exact hK _ _ (hI.nq hR HGs.out rfl))
               ·intro D V w9 hD hI;obtain ⟨hMx,hBx,hGx⟩:=hI.1;have zf0:=hI.eqA hD 0;have zf1:=hI.eqA hD 1;have zf2:=hI.eqA hD 2;have zf3:=hI.eqA hD 3;have zf4:=hI.eqA hD 4;have zf5:=hI.eqA hD 5;have zf6:=hI.eqA hD 6;have zf7:=hI.eqA hD 7;have zf8:=hI.eqA hD 8;have zf9:=hI.eqA hD 9;have zf10:=hI.eqA hD 10;have zf11:=hI.eqA hD 11;have zf12:=hI.eqA hD 12;clear hI hD HGs;simp only [frAll,Act.put,List.setIfInBounds_toArray,List.set_cons_zero,List.set_cons_succ,Nat.zero_add,Nat.reduceAdd,zf0,zf1,zf2,zf3,zf4,zf5,zf6,zf7,zf8,zf9,zf10,zf11,zf12];clear zf0 zf1 zf2 zf3 zf4 zf5 zf6 zf7 zf8 zf9 zf10 zf11 zf12;clear V D;have HP9:Hid (Pure w w9):=hd_ (HP6.out.trans hMx);have HM9:Hid (Pure w5 w9):=hd_ ((HM5.out).trans hMx);clear hGx hMx hBx HI HX6 HB6 HP6 HM5
                by_cases he0:er=0
                ·subst he0;have HS:=hd_ (HAT.out.2 rfl);clear HAT HFS;go_wp2_with fail
                 go_roundg (xs.length - (j+1))
                 case measure=>omega
                 case rel=>exact ⟨j+1,rfl,by omega,by simp,HS.out,HM9.out⟩
                ·have hen:(er != 0)=true:=(by simpa using he0);have HR:Hid (fl=er):=hd_ (HFL.out.trans (HAT.out.1 he0));clear HAT HFS HFL HQ HQB HQX he0;go_wp2_with fail
                 try simp only [Exit.inBlock,Exit.then]
                 refine bodyPost_ret (v:=.int .i64 er) (by simp [results,Tryz.results108,go_sem]) rfl ?_;rw [HR.out];exact ⟨rfl,HP9.out⟩
              | false =>
               rw [Bool.false_or] at emq
               cases must with
               | false =>
                rw [Bool.false_and] at emq;subst emq;have HGs:=hd_ (show KeepG (fun Z=>Blk Z g0 29 #[.int .i64 k,.slice A ws.length c,.int .i64 n,.slice (some ⟨g,off,none⟩) xs.length dd]∧Blk Z g12 29 #[.int .i64 k',.slice A' ws'.length c',.int .i64 n',.slice B' xs'.length dd']) from fun D zzi zq zq' h hm=>by (exact ⟨h.1.modp hm,h.2.modp hm⟩))
                refine wp_region_inv (by kernel_rfl) (by kernel_rfl) (InvF (R:=Mod (fun _=>False)) [.is (.agg #[.int .i64 k',.slice A' ws'.length c',.int .i64 n',.slice B' xs'.length dd']),.is (.agg #[.int .i64 k,.slice A ws.length c,.int .i64 n,.slice (some ⟨g,off,none⟩) xs.length dd]),.is (.bool false),.is (.bool false),.is (.bool false),.is (.bool false),.is (undef),.is (undef),.is (undef),.is (.bool false),.is (.bool false),.is (.int .i64 er),.is (.int .i64 er)]
                  (PB w6 (fun _=>False) w6.heap.size (fun _=>(fun Z=>Blk Z g0 29 #[.int .i64 k,.slice A ws.length c,.int .i64 n,.slice (some ⟨g,off,none⟩) xs.length dd]∧Blk Z g12 29 #[.int .i64 k',.slice A' ws'.length c',.int .i64 n',.slice B' xs'.length dd'])))) (InvF.start (PB.start (Mod.refl _ _) (Nat.le_refl _) (⟨HB6.out,HX6.out⟩))) ?_ ?_
                ·iterate 13 (refine .cons ?_ ?_; rotate_left)
                 exact .nil
                 all_goals intro D V zw1 a hR hI K hK
                 all_goals try rw [if_pos (by rfl)]
                 ·have hG1:=hI.1.g;have ze12:=hR.ot 12;have zx0:=hG1.2.cell 0; have zx1:=hG1.2.cell 1; have zx2:=hG1.2.cell 2; have zx3:=hG1.2.cell 3;simp at zx0 zx1 zx2 zx3;go_simp;exact hK _ _ (hI.nq hR HGs.out rfl)
                 ·have hG1:=hI.1.g;have ze2:=hR.ot 2;have zx0:=hG1.1.cell 0; have zx1:=hG1.1.cell 1; have zx2:=hG1.1.cell 2; have zx3:=hG1.1.cell 3;simp at zx0 zx1 zx2 zx3;go_simp;exact hK _ _ (hI.nq hR HGs.out rfl)
                 ·have ze137:=hI.tm hR 137 1;go_simp;refine (HNK.out zw1).mono ?_;rintro e zw2 ⟨rfl,hm2⟩;exact hK _ _ (hI.nc hR HGs.out hm2 rfl)
                 have ze138:=hI.tm hR 138 2;rotate_left;have ze1:=hR.ot 1;have ze139:=hI.tm hR 139 3;rw [if_pos (by simp [Region.wanted,yielded,ze139])];rotate_left;have ze140:=hI.tm hR 140 4;have ze139:=hI.tm hR 139 3;rw [if_pos (by simp [Region.wanted,yielded,ze139])];rotate_left;have ze141:=hI.tm hR 141 5;rw [if_neg (by simp [Region.wanted,yielded,ze141])];exact hK _ _ (hI.nq hR HGs.out rfl);have ze141:=hI.tm hR 141 5;rw [if_neg (by simp [Region.wanted,yielded,ze141])];exact hK _ _ (hI.nq hR HGs.out rfl);have ze141:=hI.tm hR 141 5;rw [if_neg (by simp [Region.wanted,yielded,ze141])];exact hK _ _ (hI.nq hR HGs.out rfl);have ze141:=hI.tm hR 141 5;have ze144:=hI.tm hR 144 8;have ze139:=hI.tm hR 139 3;rw [if_pos (by simp [Region.wanted,yielded,ze139])];rotate_left;have ze139:=hI.tm hR 139 3;have ze145:=hI.tm hR 145 9;rotate_left
                 ·have hM1:=hI.1.mod;have ze136:=hI.tm hR 136 0;have ze146:=hI.tm hR 146 10;go_simp;refine (HI.out zw1 hM1).mono ?_;rintro e zw2 ⟨rfl,hm2⟩;exact hK _ _ (hI.nc hR HGs.out hm2 rfl)
                 have ze147:=hI.tm hR 147 11;rotate_left
                 all_goals (go_simp; exact hK _ _ (hI.nq hR HGs.out rfl))
                ·intro D V w9 hD hI;obtain ⟨hMx,hBx,hGx⟩:=hI.1;have zf0:=hI.eqA hD 0;have zf1:=hI.eqA hD 1;have zf2:=hI.eqA hD 2;have zf3:=hI.eqA hD 3;have zf4:=hI.eqA hD 4;have zf5:=hI.eqA hD 5;have zf6:=hI.eqA hD 6;have zf7:=hI.eqA hD 7;have zf8:=hI.eqA hD 8;have zf9:=hI.eqA hD 9;have zf10:=hI.eqA hD 10;have zf11:=hI.eqA hD 11;have zf12:=hI.eqA hD 12;clear hI hD HGs;simp only [frAll,Act.put,List.setIfInBounds_toArray,List.set_cons_zero,List.set_cons_succ,Nat.zero_add,Nat.reduceAdd,zf0,zf1,zf2,zf3,zf4,zf5,zf6,zf7,zf8,zf9,zf10,zf11,zf12];clear zf0 zf1 zf2 zf3 zf4 zf5 zf6 zf7 zf8 zf9 zf10 zf11 zf12;clear V D;have HP9:Hid (Pure w w9):=hd_ (HP6.out.trans hMx);have HM9:Hid (Pure w5 w9):=hd_ ((HM5.out).trans hMx);clear hGx hMx hBx HI HX6 HB6 HP6 HM5
                 by_cases he0:er=0
                 ·subst he0;have HS:=hd_ (HAT.out.2 rfl);clear HAT HFS;go_wp2_with fail
                  go_roundg (xs.length - (j+1))
                  case measure=>omega
                  case rel=>exact ⟨j+1,rfl,by omega,by simp,HS.out,HM9.out⟩
                 ·have hen:(er != 0)=true:=(by simpa using he0);have HR:Hid (fl=er):=hd_ (HFL.out.trans (HAT.out.1 he0));clear HAT HFS HFL HQ HQB HQX he0;go_wp2_with fail
                  try simp only [Exit.inBlock,Exit.then]
                  refine bodyPost_ret (v:=.int .i64 er) (by simp [results,Tryz.results108,go_sem]) rfl ?_;rw [HR.out];exact ⟨rfl,HP9.out⟩
               | true =>
                rw [Bool.true_and] at emq
                have hk7:(k == 7)=mq:=by rw [emq]; exact Bool.beq_eq_decide_eq _ _
                clear emq HMQ;have HGs:=hd_ (show KeepG (fun Z=>Blk Z g0 29 #[.int .i64 k,.slice A ws.length c,.int .i64 n,.slice (some ⟨g,off,none⟩) xs.length dd]∧Blk Z g12 29 #[.int .i64 k',.slice A' ws'.length c',.int .i64 n',.slice B' xs'.length dd']) from fun D zzi zq zq' h hm=>by (exact ⟨h.1.modp hm,h.2.modp hm⟩))
                refine wp_region_inv (by kernel_rfl) (by kernel_rfl) (InvF (R:=Mod (fun _=>False)) [.is (.agg #[.int .i64 k',.slice A' ws'.length c',.int .i64 n',.slice B' xs'.length dd']),.is (.agg #[.int .i64 k,.slice A ws.length c,.int .i64 n,.slice (some ⟨g,off,none⟩) xs.length dd]),.is (.bool false),.is (.bool false),.is (.bool true),.is (.bool true),.is (.pointer (some ⟨g0,0,none⟩)),.is (.int .i64 k),.is (.bool mq),.is (.bool mq),.is (.bool mq),.is (.int .i64 er),.is (.int .i64 er)]
                  (PB w6 (fun _=>False) w6.heap.size (fun _=>(fun Z=>Blk Z g0 29 #[.int .i64 k,.slice A ws.length c,.int .i64 n,.slice (some ⟨g,off,none⟩) xs.length dd]∧Blk Z g12 29 #[.int .i64 k',.slice A' ws'.length c',.int .i64 n',.slice B' xs'.length dd'])))) (InvF.start (PB.start (Mod.refl _ _) (Nat.le_refl _) (⟨HB6.out,HX6.out⟩))) ?_ ?_
                ·iterate 13 (refine .cons ?_ ?_; rotate_left)
                 exact .nil
                 all_goals intro D V zw1 a hR hI K hK
                 all_goals try rw [if_pos (by rfl)]
                 ·have hG1:=hI.1.g;have ze12:=hR.ot 12;have zx0:=hG1.2.cell 0; have zx1:=hG1.2.cell 1; have zx2:=hG1.2.cell 2; have zx3:=hG1.2.cell 3;simp at zx0 zx1 zx2 zx3;go_simp;exact hK _ _ (hI.nq hR HGs.out rfl)
                 ·have hG1:=hI.1.g;have ze2:=hR.ot 2;have zx0:=hG1.1.cell 0; have zx1:=hG1.1.cell 1; have zx2:=hG1.1.cell 2; have zx3:=hG1.1.cell 3;simp at zx0 zx1 zx2 zx3;go_simp;exact hK _ _ (hI.nq hR HGs.out rfl)
                 ·have ze137:=hI.tm hR 137 1;go_simp;refine (HNK.out zw1).mono ?_;rintro e zw2 ⟨rfl,hm2⟩;exact hK _ _ (hI.nc hR HGs.out hm2 rfl)
                 have ze138:=hI.tm hR 138 2;rotate_left;have ze1:=hR.ot 1;have ze139:=hI.tm hR 139 3;rw [if_pos (by simp [Region.wanted,yielded,ze139])];rotate_left;have ze140:=hI.tm hR 140 4;have ze139:=hI.tm hR 139 3;rw [if_pos (by simp [Region.wanted,yielded,ze139])];rotate_left;have ze2:=hR.ot 2;have ze141:=hI.tm hR 141 5;rw [if_pos (by simp [Region.wanted,yielded,ze141])];rotate_left
                 ·have hG1:=hI.1.g;have ze142:=hI.tm hR 142 6;have zx0:=hG1.1.cell 0; have zx1:=hG1.1.cell 1; have zx2:=hG1.1.cell 2; have zx3:=hG1.1.cell 3;simp at zx0 zx1 zx2 zx3;have ze141:=hI.tm hR 141 5;rw [if_pos (by simp [Region.wanted,yielded,ze141])];go_simp;exact hK _ _ (hI.nq hR HGs.out rfl)
                 have ze143:=hI.tm hR 143 7;have ze141:=hI.tm hR 141 5;rw [if_pos (by simp [Region.wanted,yielded,ze141])];rotate_left;have ze141:=hI.tm hR 141 5;have ze144:=hI.tm hR 144 8;have ze139:=hI.tm hR 139 3;rw [if_pos (by simp [Region.wanted,yielded,ze139])];rotate_left;have ze139:=hI.tm hR 139 3;have ze145:=hI.tm hR 145 9;rotate_left
                 ·have hM1:=hI.1.mod;have ze136:=hI.tm hR 136 0;have ze146:=hI.tm hR 146 10;go_simp;refine (HI.out zw1 hM1).mono ?_;rintro e zw2 ⟨rfl,hm2⟩;exact hK _ _ (hI.nc hR HGs.out hm2 rfl)
                 have ze147:=hI.tm hR 147 11;rotate_left
                 all_goals (go_simp; exact hK _ _ (hI.nq hR HGs.out rfl))
                ·intro D V w9 hD hI;obtain ⟨hMx,hBx,hGx⟩:=hI.1;have zf0:=hI.eqA hD 0;have zf1:=hI.eqA hD 1;have zf2:=hI.eqA hD 2;have zf3:=hI.eqA hD 3;have zf4:=hI.eqA hD 4;have zf5:=hI.eqA hD 5;have zf6:=hI.eqA hD 6;have zf7:=hI.eqA hD 7;have zf8:=hI.eqA hD 8;have zf9:=hI.eqA hD 9;have zf10:=hI.eqA hD 10;have zf11:=hI.eqA hD 11;have zf12:=hI.eqA hD 12;clear hI hD HGs;simp only [frAll,Act.put,List.setIfInBounds_toArray,List.set_cons_zero,List.set_cons_succ,Nat.zero_add,Nat.reduceAdd,zf0,zf1,zf2,zf3,zf4,zf5,zf6,zf7,zf8,zf9,zf10,zf11,zf12];clear zf0 zf1 zf2 zf3 zf4 zf5 zf6 zf7 zf8 zf9 zf10 zf11 zf12;clear V D;have HP9:Hid (Pure w w9):=hd_ (HP6.out.trans hMx);have HM9:Hid (Pure w5 w9):=hd_ ((HM5.out).trans hMx);clear hGx hMx hBx HI HX6 HB6 HP6 HM5
                 by_cases he0:er=0
                 ·subst he0;have HS:=hd_ (HAT.out.2 rfl);clear HAT HFS;go_wp2_with fail
                  go_roundg (xs.length - (j+1))
                  case measure=>omega
                  case rel=>exact ⟨j+1,rfl,by omega,by simp,HS.out,HM9.out⟩
                 ·have hen:(er != 0)=true:=(by simpa using he0);have HR:Hid (fl=er):=hd_ (HFL.out.trans (HAT.out.1 he0));clear HAT HFS HFL HQ HQB HQX he0;go_wp2_with fail
                  try simp only [Exit.inBlock,Exit.then]
                  refine bodyPost_ret (v:=.int .i64 er) (by simp [results,Tryz.results108,go_sem]) rfl ?_;rw [HR.out];exact ⟨rfl,HP9.out⟩
             ·obtain rfl:j=xs.length:=by omega
              have e:=HFS.out;rw [List.take_of_length_le (by simp)] at e;have HR:Hid (fl=0):=hd_ (HFL.out.trans e);have hjj2:¬ ((xs.length:Nat):Int)<(xs.length:Int):=(by omega);clear e HFS HFL HQ HQB HQX HIH HNK HMQ;go_wp2_with fail
              try simp only [Exit.inBlock,Exit.then]
              refine bodyPost_ret (v:=.int .i64 0) (by simp [results,Tryz.results108,go_sem]) rfl ?_;rw [HR.out];exact ⟨rfl,HM.out⟩
def shQ (U:UseQ):Value:=.agg #[.int .i64 (U.w0:Int),.int .i64 (U.w1:Int),.int .i64 (U.a0:Int),.int .i64 (U.a1:Int),.bool U.nb]
theorem zero_shape (W:World):(zeroValue 201).run Tryz.prog W = .ok (.agg #[.int .i64 0,.int .i64 0,.int .i64 0,.int .i64 0,.bool false]) W:=by kernel_rfl
def shF (x:Int):Option Value:=if x=13 then some (.agg #[.int .i64 0,.int .i64 0,.int .i64 0,.int .i64 0,.bool true]) else if x=12 then some (.agg #[.int .i64 0,.int .i64 0,.int .i64 0,.int .i64 0,.bool true]) else if x=11 then some (.agg #[.int .i64 1,.int .i64 1,.int .i64 0,.int .i64 0,.bool false]) else if x=10 then some (.agg #[.int .i64 0,.int .i64 0,.int .i64 0,.int .i64 0,.bool true]) else if x=9 then some (.agg #[.int .i64 1,.int .i64 1,.int .i64 0,.int .i64 0,.bool false]) else if x=8 then some (.agg #[.int .i64 0,.int .i64 0,.int .i64 1,.int .i64 1,.bool false]) else if x=7 then some (.agg #[.int .i64 0,.int .i64 0,.int .i64 2,.int .i64 1073741824,.bool false]) else if x=6 then some (.agg #[.int .i64 0,.int .i64 0,.int .i64 2,.int .i64 1073741824,.bool false]) else if x=5 then some (.agg #[.int .i64 0,.int .i64 0,.int .i64 2,.int .i64 2,.bool true]) else if x=4 then some (.agg #[.int .i64 0,.int .i64 0,.int .i64 2,.int .i64 2,.bool true]) else if x=3 then some (.agg #[.int .i64 2,.int .i64 10,.int .i64 0,.int .i64 0,.bool false]) else if x=2 then some (.agg #[.int .i64 1,.int .i64 1,.int .i64 0,.int .i64 0,.bool false]) else if x=1 then some (.agg #[.int .i64 0,.int .i64 0,.int .i64 0,.int .i64 0,.bool false]) else none
theorem shF_get (k:Int):(shF k).getD (.agg #[.int .i64 0,.int .i64 0,.int .i64 0,.int .i64 0,.bool false])=shQ (useQ 1073741824 k):=by
 by_cases h:1≤k∧k≤13
 ·obtain rfl | rfl | rfl | rfl | rfl | rfl | rfl | rfl | rfl | rfl | rfl | rfl | rfl:k=1∨k=2∨k=3∨k=4∨k=5∨k=6∨k=7∨k=8∨k=9∨k=10∨k=11∨k=12∨k=13:=by omega
  all_goals rfl
 ·have e1:shF k=none:=by
   unfold shF;rw [if_neg (by omega),if_neg (by omega),if_neg (by omega),if_neg (by omega),if_neg (by omega),if_neg (by omega),if_neg (by omega),if_neg (by omega),if_neg (by omega),if_neg (by omega),if_neg (by omega),if_neg (by omega),if_neg (by omega)]
  have e2:useQ 1073741824 k=⟨0,0,0,0,false⟩:=by
   unfold useQ;rw [if_neg (by omega),if_neg (by omega),if_neg (by omega),if_neg (by omega),if_neg (by omega),if_neg (by omega)]
  rw [e1,e2]
  rfl
theorem shapeOf_calls (w:World) (k:Int) (hk:(Lit.int .i64 k).wf=true):Calls Tryz.prog 173 #[.int .i64 k] w (fun e w'=>e = .returned (shQ (useQ 1073741824 k))∧Pure w w'):=by
 have hmm:=@run_makeMap Tryz.prog;have h0:=MapI.made (w.alloc (.cells #[.int .i64 0,.int .i64 0,.int .i64 0,.int .i64 0,.bool false] 201));have hp0:=(pure_alloc w (.cells #[.int .i64 0,.int .i64 0,.int .i64 0,.int .i64 0,.bool false] 201)).alloc (.map #[] 0);have hB0:=(Blk.new w 201 #[.int .i64 0,.int .i64 0,.int .i64 0,.int .i64 0,.bool false]).alloc (.map #[] 0);rw [World.size_alloc] at h0;have hne:w.heap.size≠w.heap.size+1:=(by omega);obtain ⟨w1,r1,h1,m1⟩:=h0.store Tryz.underlying247 (by omega) 1 (by decide) (.agg #[.int .i64 0,.int .i64 0,.int .i64 0,.int .i64 0,.bool false]);obtain ⟨w2,r2,h2,m2⟩:=h1.store Tryz.underlying247 (by omega) 2 (by decide) (.agg #[.int .i64 1,.int .i64 1,.int .i64 0,.int .i64 0,.bool false]);obtain ⟨w3,r3,h3,m3⟩:=h2.store Tryz.underlying247 (by omega) 3 (by decide) (.agg #[.int .i64 2,.int .i64 10,.int .i64 0,.int .i64 0,.bool false]);obtain ⟨w4,r4,h4,m4⟩:=h3.store Tryz.underlying247 (by omega) 4 (by decide) (.agg #[.int .i64 0,.int .i64 0,.int .i64 2,.int .i64 2,.bool true]);obtain ⟨w5,r5,h5,m5⟩:=h4.store Tryz.underlying247 (by omega) 5 (by decide) (.agg #[.int .i64 0,.int .i64 0,.int .i64 2,.int .i64 2,.bool true]);obtain ⟨w6,r6,h6,m6⟩:=h5.store Tryz.underlying247 (by omega) 6 (by decide) (.agg #[.int .i64 0,.int .i64 0,.int .i64 2,.int .i64 1073741824,.bool false]);obtain ⟨w7,r7,h7,m7⟩:=h6.store Tryz.underlying247 (by omega) 7 (by decide) (.agg #[.int .i64 0,.int .i64 0,.int .i64 2,.int .i64 1073741824,.bool false]);obtain ⟨w8,r8,h8,m8⟩:=h7.store Tryz.underlying247 (by omega) 8 (by decide) (.agg #[.int .i64 0,.int .i64 0,.int .i64 1,.int .i64 1,.bool false]);obtain ⟨w9,r9,h9,m9⟩:=h8.store Tryz.underlying247 (by omega) 9 (by decide) (.agg #[.int .i64 1,.int .i64 1,.int .i64 0,.int .i64 0,.bool false]);obtain ⟨w10,r10,h10,m10⟩:=h9.store Tryz.underlying247 (by omega) 10 (by decide) (.agg #[.int .i64 0,.int .i64 0,.int .i64 0,.int .i64 0,.bool true]);obtain ⟨w11,r11,h11,m11⟩:=h10.store Tryz.underlying247 (by omega) 11 (by decide) (.agg #[.int .i64 1,.int .i64 1,.int .i64 0,.int .i64 0,.bool false]);obtain ⟨w12,r12,h12,m12⟩:=h11.store Tryz.underlying247 (by omega) 12 (by decide) (.agg #[.int .i64 0,.int .i64 0,.int .i64 0,.int .i64 0,.bool true]);obtain ⟨w13,r13,h13,m13⟩:=h12.store Tryz.underlying247 (by omega) 13 (by decide) (.agg #[.int .i64 0,.int .i64 0,.int .i64 0,.int .i64 0,.bool true]);have mm:=((((((((((((m1.trans m2).trans m3).trans m4).trans m5).trans m6).trans m7).trans m8).trans m9).trans m10).trans m11).trans m12).trans m13);have hf:MapI w13 (w.heap.size+1) (0+13) shF:=h13;have hl:=hf.lookup Tryz.underlying247 zero_shape k hk;rw [shF_get] at hl;unfold shQ at hl;have hB:=hB0.mod mm hne;have HP:Hid (Pure w w13):=hd_ (hp0.trans' mm (fun i hi hlt=>by omega));clear h0 h1 h2 h3 h4 h5 h6 h7 h8 h9 h10 h11 h12 h13 hf m1 m2 m3 m4 m5 m6 m7 m8 m9 m10 m11 m12 m13 mm hB0 hp0;generalize hU:useQ 1073741824 k=U at *;have HB:=hd_ hB;obtain ⟨x0,x1,x2,x3,x4,xf0,xf1,xf2,xf3,xf4⟩:=hB.c5f;clear hU hB
 go_enter Tryz.func173,Tryz.ntmps173
 go_wp2_with fail;have hs:=((((HB.out.set 0 (.int .i64 (U.w0:Int))).set 1 (.int .i64 (U.w1:Int))).set 2 (.int .i64 (U.a0:Int))).set 3 (.int .i64 (U.a1:Int))).set 4 (.bool U.nb);have HPF:Hid (Pure w (World.setCell (World.setCell (World.setCell (World.setCell (World.setCell w13 ⟨w.heap.size,0,none⟩ (.int .i64 (U.w0:Int))) ⟨w.heap.size,1,none⟩ (.int .i64 (U.w1:Int))) ⟨w.heap.size,2,none⟩ (.int .i64 (U.a0:Int))) ⟨w.heap.size,3,none⟩ (.int .i64 (U.a1:Int))) ⟨w.heap.size,4,none⟩ (.bool U.nb))):=hd_ (((((HP.out.setCell (.inr (Nat.le_refl _)) _).setCell (.inr (Nat.le_refl _)) _).setCell (.inr (Nat.le_refl _)) _).setCell (.inr (Nat.le_refl _)) _).setCell (.inr (Nat.le_refl _)) _);obtain ⟨u0,u1,u2,u3,u4⟩:=hs.c5;refine bodyPost_ret (v:=.agg #[.int .i64 (U.w0:Int),.int .i64 (U.w1:Int),.int .i64 (U.a0:Int),.int .i64 (U.a1:Int),.bool U.nb]) (by simp [results,Tryz.results173,go_sem,u0,u1,u2,u3,u4]) rfl ?_;exact ⟨rfl,HPF.out⟩
theorem rbyWords_calls (w:World) (k:Int):Calls Tryz.prog 172 #[.int .i64 k] w (BoolSame w (byWK k)):=by
 have e:byWK k=(decide (2≤k∧k≤5) || decide (k=7)):=by
  rw [Bool.eq_iff_iff];simp [byWK,nearK]
  omega
 rw [e];clear e;have HI:Hid (∀ W,Calls Tryz.prog 69 #[.int .i64 k,.int .i64 2,.int .i64 5] W (BoolSame W (decide (2≤k∧k≤5)))):=hd_ (fun W=>(rin_calls _ _ _ W).mono (fun e w' h=>⟨by rw [h.1,inB_eq],h.2⟩));generalize decide (2≤k∧k≤5)=b1 at *;obtain ⟨r,hr⟩:∃ r,(b1 || decide (k=7))=r:=⟨_,rfl⟩;rw [hr]
 go_enter Tryz.func172,Tryz.ntmps172
 go_wp2_with fail;refine (HI.out w).mono ?_;rintro e2 w' ⟨rfl,rfl⟩
 cases b1
 ·rw [Bool.false_or] at hr
  by_cases h7:k=7
  ·rw [decide_eq_true h7] at hr;subst hr h7;go_wp2_with fail;go_ret;exact ⟨rfl,rfl⟩
  ·have h7i:(k == 7)=false:=(by simpa using h7);rw [decide_eq_false h7] at hr;subst hr;go_wp2_with fail;go_ret;exact ⟨rfl,rfl⟩
 ·rw [Bool.true_or] at hr;subst hr;go_wp2_with fail;go_ret;exact ⟨rfl,rfl⟩
theorem wf_i64 {k:Int} (h1 : -4000000000000≤k) (h2:k≤4000000000000):(Lit.int .i64 k).wf=true:=by
 have a:IntKind.i64.min = -9223372036854775808:=rfl;have b:IntKind.i64.max=9223372036854775807:=rfl;simp [Lit.wf,a,b]
 omega
def resL:List Str:=[[97,108,108],[97,110,100],[111,114],[110,111,116]]
theorem resvB_mem (s:Str):decide (s∈resL)=resvB s:=by
 rw [Bool.eq_iff_iff];simp [resL,resvB]
theorem faultAt_calls:∀ (qr:QR) (w:World) (must:Bool),QS w qr→QB 1000 qr.key→Calls Tryz.prog 106 #[qA qr,.bool must] w (IntPost w (fltQ 1073741824 must qr.key)):=by
 refine QR.ind (fun k A c ws n B dd xs ih => ?_);intro w must hQ hB;have HIH:=hd_ ih;rw [QR.key_mk] at hB ⊢;have HQ:=hd_ hQ;have hql:=hB.xsH;have hkn:=hB.knH;have hwl:=hB.wsH.1;have HWL:=hd_ hB.wsH.2;have HQB:=hd_ hB.allH;rw [List.length_map] at hql;have HQX:=hd_ hQ.xsH;have HQW:=hd_ hQ.wsH;have hB0:=Blk.new w 29 #[.int .i64 k,.slice A ws.length c,.int .i64 n,.slice B xs.length dd];have hP0:=pure_alloc w (.cells #[.int .i64 k,.slice A ws.length c,.int .i64 n,.slice B xs.length dd] 29);have HBW:=hd_ (fun W=>rbyWords_calls W k);obtain ⟨fl,hfl⟩:∃ fl,fltQ 1073741824 must (.mk k ws n (xs.map QR.key))=fl:=⟨_,rfl⟩;rw [hfl];have F4:=hd_ (fun h=>(flt_4 (M:=1073741824) (must:=must) (ws:=ws) (n:=n) (xs:=xs.map QR.key) (k:=k) h).symm.trans hfl);have F10:=hd_ (fun h h1=>(flt_10 (M:=1073741824) (must:=must) (ws:=ws) (n:=n) (xs:=xs.map QR.key) (k:=k) h h1).symm.trans hfl);have F3:=hd_ (fun h h1 h2=>(flt_3 (M:=1073741824) (must:=must) (ws:=ws) (n:=n) (xs:=xs.map QR.key) (k:=k) h h1 h2).symm.trans hfl);have F5:=hd_ (fun h h1 h2 h3=>(flt_5 (M:=1073741824) (must:=must) (ws:=ws) (n:=n) (xs:=xs.map QR.key) (k:=k) h h1 h2 h3).symm.trans hfl);have FN:=hd_ (fun h h1 h2 h3 h4=>(flt_n (M:=1073741824) (must:=must) (ws:=ws) (n:=n) (xs:=xs.map QR.key) (k:=k) h h1 h2 h3 h4).symm.trans hfl);have F0:=hd_ (fun h h1 h2 h3 h4=>(flt_0 (M:=1073741824) (must:=must) (ws:=ws) (n:=n) (xs:=xs.map QR.key) (k:=k) h h1 h2 h3 h4).symm.trans hfl);rw [List.length_map] at F3 F5 FN F0;have HUS:=hd_ (fun W=>shapeOf_calls W k (wf_i64 hkn.1 hkn.2.1));have HFM:Hid (formB 1073741824 k ws.length n xs.length=(((useQ 1073741824 k).nb || decide (n=0)) && (decide ((useQ 1073741824 k).w0≤ws.length∧ws.length≤(useQ 1073741824 k).w1) && decide ((useQ 1073741824 k).a0≤xs.length∧xs.length≤(useQ 1073741824 k).a1)))):=hd_ rfl;obtain ⟨fm,hfm⟩:∃ fm,formB 1073741824 k ws.length n xs.length=fm:=⟨_,rfl⟩;rw [hfm] at F3 F5 FN F0 HFM;generalize useQ 1073741824 k=U at *;generalize fltQ 1073741824=FL at *;obtain ⟨u0,u1,u2,u3,nb⟩:=U;unfold shQ at HUS;simp only at HFM HUS;have HII:Hid (∀ (W:World) (x a b:Int),Calls Tryz.prog 69 #[.int .i64 x,.int .i64 a,.int .i64 b] W (BoolSame W (decide (a≤x∧x≤b)))):=hd_ (fun W x a b=>(rin_calls _ _ _ W).mono (fun e w' h=>⟨by rw [h.1,inB_eq],h.2⟩))
 show Calls Tryz.prog 106 #[.agg #[.int .i64 k,.slice A ws.length c,.int .i64 n,.slice B xs.length dd],.bool must] w (IntPost w fl)
 clear hQ hB ih hfl hfm
 go_enter Tryz.func106,Tryz.ntmps106
 go_upto_region 1 with (fail);generalize (w.alloc (.cells #[.int .i64 k,.slice A ws.length c,.int .i64 n,.slice B xs.length dd] 29))=w1 at *;generalize hg0:w.heap.size=g0 at *;have hwg:w.heap.size≤g0:=Nat.le_of_eq hg0;clear hg0;have HB1:=hd_ hB0;have HP1:Hid (Pure w w1):=hd_ hP0;obtain ⟨x0,x1,x2,x3⟩:=hB0.c4;clear hB0 hP0;obtain ⟨is,his⟩:∃ is,decide (1≤k∧k≤13)=is:=⟨_,rfl⟩;have HIS:Hid (isK k=is):=hd_ his;have HI0:=hd_ (HII.out w1 k 1 13);rw [his] at HI0;clear his;go_wp2_with fail;refine HI0.out.mono ?_;rintro e w2 ⟨rfl,rfl⟩;clear HI0
 cases is with
 | false =>
  have HR:=hd_ (F4.out HIS.out);clear F4 F10 F3 F5 FN F0 HIH HQ HQB HQX HQW HWL HFM;go_wp2_with fail
  try simp only [Exit.inBlock,Exit.then]
  refine bodyPost_ret (v:=.int .i64 4) (by simp [results,Tryz.results106,go_sem]) rfl ?_;rw [← HR.out];exact ⟨rfl,HP1.out⟩
 | true =>
  have his:=HIS.out;clear F4 HIS;obtain ⟨c1,hc1⟩:∃ c1,(must && !byWK k)=c1:=⟨_,rfl⟩;rw [hc1] at F10 F3 F5 FN F0;go_upto_region 3 with (fail)
  go_cut [22] from 16 to 21 (fun p wx=>p = .bool c1∧w1=wx)
  case first =>
   clear F10 F3 F5 FN F0 HIH HQ HQB HQX HQW HWL HFM
   cases must with
   | false =>
    obtain rfl:false=c1:=hc1;go_wp2_with fail;go_meet;exact ⟨rfl,rfl⟩
   | true =>
    obtain ⟨bw,hbw⟩:∃ bw,byWK k=bw:=⟨_,rfl⟩;rw [hbw] at HBW hc1;obtain rfl:(!bw)=c1:=hc1;clear hbw;go_wp2_with fail;refine (HBW.out w1).mono ?_;rintro e w4 ⟨rfl,rfl⟩;go_wp2_with fail;go_meet;exact ⟨by first | rfl | simp,rfl⟩
  case rest =>
   obtain ⟨rfl,rfl⟩:=hcut;clear HBW
   cases c1 with
   | true =>
    have HR:=hd_ (F10.out his (by first | rfl | trivial));clear F10 F3 F5 FN F0 HIH HQ HQB HQX HQW HWL HFM hc1;go_wp2_with fail
    try simp only [Exit.inBlock,Exit.then]
    refine bodyPost_ret (v:=.int .i64 10) (by simp [results,Tryz.results106,go_sem]) rfl ?_;rw [← HR.out];exact ⟨rfl,HP1.out⟩
   | false =>
    clear F10 hc1;go_wp2_with fail;refine (HUS.out w1).mono ?_;rintro e w2 ⟨rfl,hm⟩;have hb2:=(HB1.out.modp hm).alloc (.cells #[.int .i64 (u0:Int),.int .i64 (u1:Int),.int .i64 (u2:Int),.int .i64 (u3:Int),.bool nb] 201);have hs2:=Blk.new w2 201 #[.int .i64 (u0:Int),.int .i64 (u1:Int),.int .i64 (u2:Int),.int .i64 (u3:Int),.bool nb];have hp2:=(HP1.out.trans hm).alloc (.cells #[.int .i64 (u0:Int),.int .i64 (u1:Int),.int .i64 (u2:Int),.int .i64 (u3:Int),.bool nb] 201);clear x0 x1 x2 x3 hm HUS HB1 HP1;go_upto_region 6 with (fail);generalize (w2.alloc (.cells #[.int .i64 (u0:Int),.int .i64 (u1:Int),.int .i64 (u2:Int),.int .i64 (u3:Int),.bool nb] 201))=w4 at *;generalize w2.heap.size=g5 at *;have HB4:=hd_ hb2;have HP4:Hid (Pure w w4):=hd_ hp2;obtain ⟨x0,x1,x2,x3⟩:=hb2.c4;obtain ⟨y0,y1,y2,y3,y4⟩:=hs2.c5;clear hb2 hs2 hp2
    go_cut [55] from 26 to 54 (fun p wx=>p = .bool (!fm)∧w4=wx)
    case first =>
     have e:=HFM.out;clear F3 F5 FN F0 HIH HQ HQB HQX HQW HWL HFM;have I1:=hd_ (HII.out w4 (ws.length:Int) (u0:Int) (u1:Int));have I2:=hd_ (HII.out w4 (xs.length:Int) (u2:Int) (u3:Int));rw [show decide ((u0:Int)≤(ws.length:Int)∧(ws.length:Int)≤(u1:Int))=decide (u0≤ws.length∧ws.length≤u1) by simp only [decide_eq_decide]; omega] at I1;rw [show decide ((u2:Int)≤(xs.length:Int)∧(xs.length:Int)≤(u3:Int))=decide (u2≤xs.length∧xs.length≤u3) by simp only [decide_eq_decide]; omega] at I2;generalize decide (u0≤ws.length∧ws.length≤u1)=b1 at *;generalize decide (u2≤xs.length∧xs.length≤u3)=b2 at *;clear HII;go_wp2_with fail;refine I1.out.mono ?_;rintro e2 w5 ⟨rfl,rfl⟩
     cases b1
     ·rw [Bool.false_and,Bool.and_false] at e;subst e;go_wp2_with fail;go_meet;exact ⟨rfl,rfl⟩
     ·go_wp2_with fail;refine I2.out.mono ?_;rintro e2 w5 ⟨rfl,rfl⟩
      cases b2
      ·rw [Bool.and_false,Bool.and_false] at e;subst e;go_wp2_with fail;go_meet;exact ⟨rfl,rfl⟩
      ·rw [Bool.and_true,Bool.and_true] at e
       cases nb
       ·rw [Bool.false_or] at e
        by_cases hn0:n=0
        ·rw [decide_eq_true hn0] at e;subst e hn0;go_wp2_with fail;go_meet;exact ⟨rfl,rfl⟩
        ·rw [decide_eq_false hn0] at e;have hni:(n != 0)=true:=(by simpa using hn0);subst e;go_wp2_with fail;go_meet;exact ⟨rfl,rfl⟩
       ·rw [Bool.true_or] at e;subst e;go_wp2_with fail;go_meet;exact ⟨rfl,rfl⟩
    case rest =>
     obtain ⟨rfl,rfl⟩:=hcut;clear HFM y0 y1 y2 y3 y4
     cases fm with
     | false =>
      have HR:=hd_ (F3.out his (by first | rfl | trivial) (by first | rfl | trivial));clear F3 F5 FN F0 HIH HQ HQB HQX HQW HWL;go_wp2_with fail
      try simp only [Exit.inBlock,Exit.then]
      refine bodyPost_ret (v:=.int .i64 3) (by simp [results,Tryz.results106,go_sem]) rfl ?_;rw [← HR.out];exact ⟨rfl,HP4.out⟩
     | true =>
      clear F3;go_wp2_with fail
      go_loopg [59] ws.length (fun gk i wr=>∃ j:Nat,ws.length - j=gk∧j≤ws.length∧i = .int .i64 (j:Int)∧(ws.take j).any (wordBad k)=false∧Pure w4 wr)
      case atStart=>exact ⟨0,by omega,by omega,rfl,by simp,Mod.refl _ _⟩
      case round =>
       obtain ⟨j,rfl,hj,rfl,hany,hm⟩:=hrel;have HM:Hid (Pure w wr):=hd_ (HP4.out.trans hm);have HM4:Hid (Pure w4 wr):=hd_ hm;have HBR:=hd_ (HB4.out.modp hm);clear x0 x1 x2 x3 hm
       by_cases hlt:j<ws.length
       ·obtain ⟨gW,oW,hAA,hrow⟩:=(HQW.out.pure HM.out).rowS (by omega);obtain rfl:=hAA;have hq:=hrow.cell (strsV_get ws j hlt);have hwl1:=HWL.out ws[j] (List.getElem_mem hlt);have HBAD:Hid (wordBad k ws[j]=true→ws.any (wordBad k)=true):=hd_ (fun h=>List.any_eq_true.2 ⟨_,List.getElem_mem hlt,h⟩)
        have HGOOD:Hid (wordBad k ws[j]=false→(ws.take (j+1)).any (wordBad k)=false):=hd_ (fun h=>by
         rw [List.take_succ_eq_append_getElem hlt,List.any_append,hany]
         simp [h])
        have HKY:=hd_ (fun W=>rkey_calls W ⟨ws[j].toArray⟩ (by have:(⟨ws[j].toArray⟩:ByteArray).size=ws[j].length:=rfl; omega));have HPT:=hd_ (fun W=>patternIs_calls W ws[j] (by omega));have HRV:=hd_ (fun W g (h:Blk W g 9 (strsV resL).toArray)=>containsM_calls W (.slice (some ⟨g,0,none⟩) 4 4) resL ws[j] (resvB ws[j]) (resvB_mem _) ⟨_,_,_,rfl,Nat.le_refl _,by omega,by rfl,fun _=>⟨g,0,rfl,h.row0⟩⟩);have HWB:Hid (wordBad k ws[j]=if k=9 then !keyB ws[j] else !patB ws[j] || (decide (k=2) && resvB ws[j])):=hd_ rfl;rw [show keyB (⟨ws[j].toArray⟩:ByteArray).data.toList=keyB ws[j] from rfl] at HKY;generalize wordBad k ws[j]=wb at *;generalize keyB ws[j]=kb at *;generalize patB ws[j]=pb at *;generalize resvB ws[j]=rb at *;generalize ws[j]=sx at *;have hji:((j:Nat):Int)<(ws.length:Int):=(by omega);have hbr:=HBR.out;clear hrow hany;go_upto_region 11 with (fail);clear hq;go_wp2_with fail;refine (HPT.out wr).mono ?_;rintro e2 w5 ⟨rfl,hm5⟩;have hb5:=hbr.modp hm5;have HM5:Hid (Pure wr w5):=hd_ hm5;have HB5:=hd_ hb5;obtain ⟨x0,x1,x2,x3⟩:=hb5.c4;clear hb5 hbr hm5
        go_upto_block 2 with (fail)
        go_cut [8] (fun v wx=>v = .bool (!wb)∧Pure wr wx)
        case first =>
         have e:=HWB.out;clear F5 FN F0 HIH HQ HQB HQX HQW HWL HBAD HGOOD
         by_cases h9:k=9
         ·rw [if_pos h9] at e;subst h9;go_wp2_with fail;refine (HKY.out w5).mono ?_;rintro e2 w6 ⟨rfl,hm6⟩;have HM6:=hd_ (HM5.out.trans hm6);clear hm6;subst e;go_wp2_with fail;go_meet;exact ⟨by cases kb <;> rfl,HM6.out⟩
         ·rw [if_neg h9] at e;have h9i:(k == 9)=false:=(by simpa using h9)
          by_cases h2:k=2
          ·rw [decide_eq_true h2,Bool.true_and] at e;subst h2
           cases pb
           ·obtain rfl:wb=true:=e;go_wp2_with fail;go_meet;exact ⟨rfl,HM5.out⟩
           ·rw [Bool.not_true,Bool.false_or] at e;subst e;have HC:=hd_ (HRV.out (w5.alloc (.cells (strsV resL).toArray 9)) w5.heap.size (Blk.new _ _ _));have HPA:=hd_ (pure_alloc w5 (.cells (strsV resL).toArray 9));have hres:(strsV resL).toArray=#[.string ⟨#[97,108,108]⟩,.string ⟨#[97,110,100]⟩,.string ⟨#[111,114]⟩,.string ⟨#[110,111,116]⟩]:=rfl;rw [hres] at HC HPA;clear hres;go_wp2_with fail;refine HC.out.mono ?_;rintro e2 w6 ⟨rfl,hm6⟩;have HM6:=hd_ ((HM5.out.trans HPA.out).trans hm6);clear hm6 HC HPA;go_wp2_with fail;go_meet;exact ⟨rfl,HM6.out⟩
          ·rw [decide_eq_false h2,Bool.false_and,Bool.or_false] at e;have h2i:(k == 2)=false:=(by simpa using h2);subst e;go_wp2_with fail;go_meet;exact ⟨by cases pb <;> rfl,HM5.out⟩
        case rest =>
         obtain ⟨rfl,hmc⟩:=hcut;have HMC:Hid (Pure w wc):=hd_ (HM.out.trans hmc);have HMC4:Hid (Pure w4 wc):=hd_ (HM4.out.trans hmc);clear HKY HPT HRV HWB hmc x0 x1 x2 x3 HB5 HM5
         cases wb with
         | true =>
          have HR:=hd_ (F5.out his (by first | rfl | trivial) (by first | rfl | trivial) (HBAD.out rfl));clear F5 FN F0 HIH HQ HQB HQX HQW HWL HBAD HGOOD;go_wp2_with fail
          try simp only [Exit.inBlock,Exit.then]
          refine bodyPost_ret (v:=.int .i64 5) (by simp [results,Tryz.results106,go_sem]) rfl ?_;rw [← HR.out];exact ⟨rfl,HMC.out⟩
         | false =>
          have HG:=hd_ (HGOOD.out rfl);clear HBAD HGOOD;go_wp2_with fail
          go_roundg (ws.length - (j+1))
          case measure=>omega
          case rel=>exact ⟨j+1,rfl,by omega,by simp,HG.out,HMC4.out⟩
       ·obtain rfl:j=ws.length:=by omega
        rw [List.take_length] at hany;have FN2:=hd_ (fun h4=>FN.out his (by first | rfl | trivial) (by first | rfl | trivial) hany h4);have F02:=hd_ (fun h4=>F0.out his (by first | rfl | trivial) (by first | rfl | trivial) hany h4);have hjj:¬ ((ws.length:Nat):Int)<(ws.length:Int):=(by omega);have hbr:=HBR.out;obtain ⟨x0,x1,x2,x3⟩:=hbr.c4;clear F5 FN F0 hany HQW HWL hbr HB4
        go_upto_block 3 with (fail)
        go_cut [] (fun wx=>numE k n=0∧wr=wx)
        case first =>
         clear HIH HQ HQB HQX F02;have FNE:Hid (∀ z:Int,numE k n=z→z≠0→fl=z):=hd_ (fun z h h0=>by rw [← h]; exact (FN2.out (by rw [h]; exact h0)).symm);clear FN2
         by_cases h45:k=4∨k=5
         ·have hnk:nearK k=true:=by rcases h45 with rfl | rfl <;> rfl
          have HI:=hd_ (HII.out wr n 0 20)
          by_cases hq:0≤n∧n≤20
          ·have hne:numE k n=0:=by
            unfold numE;rw [if_neg (by intro h; rcases h with h | h; exact h.2 hq; omega),if_neg (by omega)]
           rw [decide_eq_true hq] at HI;have HNE:=hd_ hne;clear HII hne FNE
           rcases h45 with rfl | rfl
           all_goals
            go_wp2_with fail;refine HI.out.mono ?_;rintro e2 w6 ⟨rfl,rfl⟩;go_wp2_with fail;go_meet;exact ⟨HNE.out,rfl⟩
          ·have hne:numE k n=1:=by
            unfold numE;rw [if_pos (.inl ⟨hnk,hq⟩)]
           rw [decide_eq_false hq] at HI;have HR:=hd_ (FNE.out 1 hne (by decide));clear HII hne FNE
           rcases h45 with rfl | rfl
           all_goals
            go_wp2_with fail;refine HI.out.mono ?_;rintro e2 w6 ⟨rfl,rfl⟩;go_wp2_with fail
            try simp only [Exit.inBlock,Exit.then]
            refine bodyPost_ret (v:=.int .i64 1) (by simp [results,Tryz.results106,go_sem]) rfl ?_;rw [HR.out];exact ⟨rfl,HM.out⟩
         have hnk:¬ nearK k=true:=by simp [nearK]; omega
         have n4:(k == 4)=false:=by simp; omega
         have n5:(k == 5)=false:=by simp; omega
         by_cases h12:k=12∨k=13
         ·have HI:=hd_ (HII.out wr n 0 4000)
          by_cases hq:0≤n∧n≤4000
          ·have hne:numE k n=0:=by
            unfold numE;rw [if_neg (by intro h; rcases h with h | h; exact hnk h.1; exact h.2 hq),if_neg (by omega)]
           rw [decide_eq_true hq] at HI;have HNE:=hd_ hne;clear HII hne FNE hnk h45 n4 n5
           rcases h12 with rfl | rfl
           all_goals
            go_wp2_with fail;refine HI.out.mono ?_;rintro e2 w6 ⟨rfl,rfl⟩;go_wp2_with fail;go_meet;exact ⟨HNE.out,rfl⟩
          ·have hne:numE k n=1:=by
            unfold numE;rw [if_pos (.inr ⟨h12,hq⟩)]
           rw [decide_eq_false hq] at HI;have HR:=hd_ (FNE.out 1 hne (by decide));clear HII hne FNE hnk h45 n4 n5
           rcases h12 with rfl | rfl
           all_goals
            go_wp2_with fail;refine HI.out.mono ?_;rintro e2 w6 ⟨rfl,rfl⟩;go_wp2_with fail
            try simp only [Exit.inBlock,Exit.then]
            refine bodyPost_ret (v:=.int .i64 1) (by simp [results,Tryz.results106,go_sem]) rfl ?_;rw [HR.out];exact ⟨rfl,HM.out⟩
         have n12:(k == 12)=false:=by simp; omega
         have n13:(k == 13)=false:=by simp; omega
         by_cases h10:k=10
         ·have HI:=hd_ (HII.out wr n 1 4)
          by_cases hq:1≤n∧n≤4
          ·have hne:numE k n=0:=by
            unfold numE;rw [if_neg (by intro h; rcases h with h | h; exact hnk h.1; exact h12 h.1),if_neg (fun h=>h.2 hq)]
           rw [decide_eq_true hq] at HI;have HNE:=hd_ hne;clear HII hne FNE hnk h45 n4 n5 h12 n12 n13;subst h10;go_wp2_with fail;refine HI.out.mono ?_;rintro e2 w6 ⟨rfl,rfl⟩;go_wp2_with fail;go_meet;exact ⟨HNE.out,rfl⟩
          ·have hne:numE k n=4:=by
            unfold numE;rw [if_neg (by intro h; rcases h with h | h; exact hnk h.1; exact h12 h.1),if_pos ⟨h10,hq⟩]
           rw [decide_eq_false hq] at HI;have HR:=hd_ (FNE.out 4 hne (by decide));clear HII hne FNE hnk h45 n4 n5 h12 n12 n13;subst h10;go_wp2_with fail;refine HI.out.mono ?_;rintro e2 w6 ⟨rfl,rfl⟩;go_wp2_with fail
           try simp only [Exit.inBlock,Exit.then]
           refine bodyPost_ret (v:=.int .i64 4) (by simp [results,Tryz.results106,go_sem]) rfl ?_;rw [HR.out];exact ⟨rfl,HM.out⟩
         ·have n10:(k == 10)=false:=by simp; omega
          have hne:numE k n=0:=by
           unfold numE;rw [if_neg (by intro h; rcases h with h | h; exact hnk h.1; exact h12 h.1),if_neg (fun h=>h10 h.1)]
          have HNE:=hd_ hne;clear HII hne FNE hnk h45 h12 h10;go_wp2_with fail;go_meet;exact ⟨HNE.out,rfl⟩
        case rest =>
         obtain ⟨hne,rfl⟩:=hcut;have HFL:Hid (fl=fstE ((xs.map QR.key).map (FL (mustQ must k)))):=hd_ (F02.out hne).symm;obtain ⟨mq,hmq⟩:∃ mq,mustQ must k=mq:=⟨_,rfl⟩;rw [hmq] at HFL;have HMQ:Hid ((decide (k=4) || (decide (k=5) || (must && decide (k=7))))=mq):=hd_ (by rw [← hmq]; unfold mustQ nearK; rw [Bool.or_assoc]);clear FN2 F02 hne hmq HM4;generalize wr=w5 at *;go_wp2_with fail;clear x0 x1 x2 x3
         go_loopg [108] xs.length (fun gk i wr=>∃ j:Nat,xs.length - j=gk∧j≤xs.length∧i = .int .i64 (j:Int)∧fstE (((xs.map QR.key).map (FL mq)).take j)=0∧Pure w5 wr)
         case atStart=>exact ⟨0,by omega,by omega,rfl,by simp [fstE],Mod.refl _ _⟩
         case round =>
          obtain ⟨j,rfl,hj,rfl,hfs,hm⟩:=hrel;have HMR:Hid (Pure w wr):=hd_ (HM.out.trans hm);have HM5:Hid (Pure w5 wr):=hd_ hm;have HB6:=hd_ (HBR.out.modp hm);have HFS:=hd_ hfs;clear hm hfs
          by_cases hlt:j<xs.length
          ·obtain ⟨k',A',c',ws',n',B',dd',xs',hq⟩:=QR.ex xs[j];have hxs:=HQX.out.pure HMR.out;obtain ⟨g,off,hA,q0,q1,q2,q3⟩:=qcells hxs hlt hq;obtain rfl:=hA;have hji:((j:Nat):Int)<(xs.length:Int):=(by omega);have HQJ:Hid (QS wr (.mk k' A' c' ws' n' B' dd' xs')):=hd_ (by rw [← hq]; exact (HQ.out.allH _ (List.getElem_mem hlt)).pure HMR.out);have HQK:Hid (QB 1000 (QR.mk k' A' c' ws' n' B' dd' xs').key):=hd_ (by rw [← hq]; exact HQB.out _ (List.mem_map.2 ⟨_,List.getElem_mem hlt,rfl⟩));have HMEM:Hid (QR.mk k' A' c' ws' n' B' dd' xs'∈xs):=hd_ (by rw [← hq]; exact List.getElem_mem hlt);obtain ⟨er,her⟩:∃ er,FL mq (QR.mk k' A' c' ws' n' B' dd' xs').key=er:=⟨_,rfl⟩;have hjl:j<((xs.map QR.key).map (FL mq)).length:=(by simpa using hlt);have hat:=fstE_at hjl HFS.out
           have hge:((xs.map QR.key).map (FL mq))[j]=er:=by rw [List.getElem_map,List.getElem_map,hq,her]
           rw [hge] at hat
           have HAT:=hd_ hat
           have HPA:=hd_ (pure_alloc wr (.cells #[.int .i64 k',.slice A' ws'.length c',.int .i64 n',.slice B' xs'.length dd'] 29));have hX6:=Blk.new wr 29 #[.int .i64 k',.slice A' ws'.length c',.int .i64 n',.slice B' xs'.length dd'];have hB6:=HB6.out.alloc (.cells #[.int .i64 k',.slice A' ws'.length c',.int .i64 n',.slice B' xs'.length dd'] 29);clear hat hge hjl hxs hq HB6;go_upto_region 35 with (fail)
           have HI:Hid (Calls Tryz.prog 106 #[.agg #[.int .i64 k',.slice A' ws'.length c',.int .i64 n',.slice B' xs'.length dd'],.bool mq] (wr.alloc (.cells #[.int .i64 k',.slice A' ws'.length c',.int .i64 n',.slice B' xs'.length dd'] 29)) (IntPost (wr.alloc (.cells #[.int .i64 k',.slice A' ws'.length c',.int .i64 n',.slice B' xs'.length dd'] 29)) er)):=hd_ (by
            have h2:=HIH.out _ HMEM.out (wr.alloc (.cells #[.int .i64 k',.slice A' ws'.length c',.int .i64 n',.slice B' xs'.length dd'] 29)) mq (HQJ.out.pure HPA.out) HQK.out;rw [her] at h2
            exact h2)
           have HP6:Hid (Pure w (wr.alloc (.cells #[.int .i64 k',.slice A' ws'.length c',.int .i64 n',.slice B' xs'.length dd'] 29))):=hd_ (HMR.out.trans HPA.out);have HM6:Hid (Pure w5 (wr.alloc (.cells #[.int .i64 k',.slice A' ws'.length c',.int .i64 n',.slice B' xs'.length dd'] 29))):=hd_ (HM5.out.trans HPA.out);generalize (wr.alloc (.cells #[.int .i64 k',.slice A' ws'.length c',.int .i64 n',.slice B' xs'.length dd'] 29))=w6 at *;generalize wr.heap.size=g12 at *;obtain ⟨y0,y1,y2,y3⟩:=hX6.c4;obtain ⟨x0,x1,x2,x3⟩:=hB6.c4;have emq:=HMQ.out;clear hX6 hB6 HQJ HQK HMEM HPA HIH her q0 q1 q2 q3 HMR HM5
           go_cut [11] from 112 to 129 (fun v wx=>v = .int .i64 er∧Pure w6 wx)
           case first =>
            clear HFL HQ HQB HQX HAT HFS HMQ
            by_cases h4:k=4
            ·rw [decide_eq_true h4,Bool.true_or] at emq;subst emq h4;go_wp2_with fail;refine HI.out.mono ?_;rintro e2 w7 ⟨rfl,hm7⟩;have HM7:=hd_ hm7;clear hm7;go_wp2_with fail;go_meet;exact ⟨rfl,HM7.out⟩
            have n4:(k == 4)=false:=(by simpa using h4);rw [decide_eq_false h4,Bool.false_or] at emq
            by_cases h5:k=5
            ·rw [decide_eq_true h5,Bool.true_or] at emq;subst emq h5;go_wp2_with fail;refine HI.out.mono ?_;rintro e2 w7 ⟨rfl,hm7⟩;have HM7:=hd_ hm7;clear hm7;go_wp2_with fail;go_meet;exact ⟨rfl,HM7.out⟩
            have n5:(k == 5)=false:=(by simpa using h5);rw [decide_eq_false h5,Bool.false_or] at emq
            cases must with
            | false =>
             rw [Bool.false_and] at emq;subst emq;go_wp2_with fail;refine HI.out.mono ?_;rintro e2 w7 ⟨rfl,hm7⟩;have HM7:=hd_ hm7;clear hm7;go_wp2_with fail;go_meet;exact ⟨rfl,HM7.out⟩
            | true =>
             rw [Bool.true_and] at emq
             by_cases h7:k=7
             ·rw [decide_eq_true h7] at emq;subst emq h7;go_wp2_with fail;refine HI.out.mono ?_;rintro e2 w7 ⟨rfl,hm7⟩;have HM7:=hd_ hm7;clear hm7;go_wp2_with fail;go_meet;exact ⟨rfl,HM7.out⟩
             ·have n7:(k == 7)=false:=(by simpa using h7);rw [decide_eq_false h7] at emq;subst emq;go_wp2_with fail;refine HI.out.mono ?_;rintro e2 w7 ⟨rfl,hm7⟩;have HM7:=hd_ hm7;clear hm7;go_wp2_with fail;go_meet;exact ⟨rfl,HM7.out⟩
           case rest =>
            obtain ⟨rfl,hmc⟩:=hcut;have HP7:Hid (Pure w wc):=hd_ (HP6.out.trans hmc);have HM7:Hid (Pure w5 wc):=hd_ (HM6.out.trans hmc);clear hmc HI HP6 HM6 emq x0 x1 x2 x3 y0 y1 y2 y3
            by_cases he0:er=0
            ·subst he0;have HS:=hd_ (HAT.out.2 rfl);clear HAT HFS;go_wp2_with fail
             go_roundg (xs.length - (j+1))
             case measure=>omega
             case rel=>exact ⟨j+1,rfl,by omega,by simp,HS.out,HM7.out⟩
            ·have hen:(er != 0)=true:=(by simpa using he0);have HR:Hid (fl=er):=hd_ (HFL.out.trans (HAT.out.1 he0));clear HAT HFS HFL HQ HQB HQX he0;go_wp2_with fail
             try simp only [Exit.inBlock,Exit.then]
             refine bodyPost_ret (v:=.int .i64 er) (by simp [results,Tryz.results106,go_sem]) rfl ?_;rw [HR.out];exact ⟨rfl,HP7.out⟩
          ·obtain rfl:j=xs.length:=by omega
           have e:=HFS.out;rw [List.take_of_length_le (by simp)] at e;have HR:Hid (fl=0):=hd_ (HFL.out.trans e);have hjj2:¬ ((xs.length:Nat):Int)<(xs.length:Int):=(by omega);clear e HFS HFL HQ HQB HQX HIH HMQ;go_wp2_with fail
           try simp only [Exit.inBlock,Exit.then]
           refine bodyPost_ret (v:=.int .i64 0) (by simp [results,Tryz.results106,go_sem]) rfl ?_;rw [HR.out];exact ⟨rfl,HMR.out⟩
theorem queryFault_calls (w:World) (qr:QR) (hQ:QS w qr) (hB:QB 1000 qr.key) (hz:qSize qr.key≤1000000):Calls Tryz.prog 42 #[qA qr] w (IntPost w (checkQ qr.key)):=by
 rw [check_same];have HSZ:=hd_ (fun W (h:Pure w W)=>rsize_calls qr W (hQ.pure h) hz);have HNR:=hd_ (fun W (h:Pure w W)=>rnear_calls qr W (hQ.pure h) hz);have HFA:=hd_ (fun W (h:Pure w W)=>faultAt_calls qr W false (hQ.pure h) hB);have hd:=qDeep_le qr.key;have hn:=qNear_le qr.key;have HCK:Hid (checkR qr.key=if 100<qSize qr.key∨12<qDeep qr.key∨3<qNear qr.key then 2 else fltQ 1073741824 false qr.key):=hd_ rfl;unfold RszP at HSZ;generalize checkR qr.key=er at *;generalize fltQ 1073741824 false qr.key=fl at *;generalize qSize qr.key=sz at *;generalize qDeep qr.key=dp at *;generalize qNear qr.key=nr at *;obtain ⟨k,A,c,ws,n,B,dd,xs,rfl⟩:=qr.ex;rw [show qA (QR.mk k A c ws n B dd xs) = .agg #[.int .i64 k,.slice A ws.length c,.int .i64 n,.slice B xs.length dd] from rfl] at HSZ HNR HFA ⊢;have hB0:=Blk.new w 29 #[.int .i64 k,.slice A ws.length c,.int .i64 n,.slice B xs.length dd];have HP0:=hd_ (pure_alloc w (.cells #[.int .i64 k,.slice A ws.length c,.int .i64 n,.slice B xs.length dd] 29));clear hQ hB
 go_enter Tryz.func42,Tryz.ntmps42
 go_upto_region 1 with (fail);generalize (w.alloc (.cells #[.int .i64 k,.slice A ws.length c,.int .i64 n,.slice B xs.length dd] 29))=w1 at *;generalize w.heap.size=g0 at *;have HB0:=hd_ hB0;obtain ⟨x0,x1,x2,x3⟩:=hB0.c4;clear hB0;go_wp2_with fail;refine (HSZ.out w1 HP0.out).mono ?_;rintro e w2 ⟨rfl,hm⟩;have HP2:Hid (Pure w w2):=hd_ (HP0.out.trans hm);have hb2:=HB0.out.modp hm;have HB2:=hd_ hb2;clear x0 x1 x2 x3 HP0 HB0 hm HSZ;obtain ⟨x0,x1,x2,x3⟩:=hb2.c4;clear hb2;go_upto_region 2 with (fail);obtain ⟨bad,hbad⟩:∃ bad,decide (100<sz∨12<dp∨3<nr)=bad:=⟨_,rfl⟩;have HE:Hid (er=if bad=true then 2 else fl):=hd_ (by rw [HCK.out,← hbad]; simp only [decide_eq_true_eq])
 go_cut [20] from 10 to 19 (fun p wx=>p = .bool bad∧Pure w2 wx)
 case first =>
  clear HCK HFA HE
  by_cases h1:100<sz
  ·have h1i:(100:Int)<(sz:Int):=(by omega)
   obtain rfl:true=bad:=by rw [← hbad]; exact (decide_eq_true (.inl h1)).symm
   clear hbad;go_wp2_with fail;go_meet;exact ⟨by first | rfl | simp,Mod.refl _ _⟩
  have h1i:¬ (100:Int)<(sz:Int):=(by omega)
  by_cases h2:12<dp
  ·have h2i:(12:Int)<(dp:Int):=(by omega)
   obtain rfl:true=bad:=by rw [← hbad]; exact (decide_eq_true (.inr (.inl h2))).symm
   clear hbad;go_wp2_with fail;go_meet;exact ⟨by first | rfl | simp,Mod.refl _ _⟩
  have h2i:¬ (12:Int)<(dp:Int):=(by omega)
  have e:decide (3<nr)=bad:=by
   rw [← hbad];simp only [decide_eq_decide]
   omega
  have e2:decide ((3:Int)<(nr:Int))=bad:=by
   rw [← e];simp only [decide_eq_decide]
   omega
  clear hbad;go_wp2_with fail;refine (HNR.out w2 HP2.out).mono ?_;rintro e3 w3 ⟨rfl,hm⟩;have HM:=hd_ hm;clear hm HNR
  cases bad
  ·have h3i:¬ (3:Int)<(nr:Int):=of_decide_eq_false e2;clear e e2;go_wp2_with fail;go_meet;exact ⟨by first | rfl | (simp; omega),HM.out⟩
  ·have h3i:(3:Int)<(nr:Int):=of_decide_eq_true e2;clear e e2;go_wp2_with fail;go_meet;exact ⟨by first | rfl | (simp; omega),HM.out⟩
 case rest =>
  obtain ⟨rfl,hmc⟩:=hcut;have HPC:Hid (Pure w wc):=hd_ (HP2.out.trans hmc);have hbc:=HB2.out.modp hmc;clear x0 x1 x2 x3 hmc HB2 HP2 HCK hbad HNR;obtain ⟨x0,x1,x2,x3⟩:=hbc.c4;clear hbc
  cases bad with
  | true =>
   have HR:Hid (er=2):=hd_ (HE.out.trans (if_pos rfl));clear HE HFA;go_wp2_with fail
   try simp only [Exit.inBlock,Exit.then]
   refine bodyPost_ret (v:=.int .i64 2) (by simp [results,Tryz.results42,go_sem]) rfl ?_;rw [HR.out];exact ⟨rfl,HPC.out⟩
  | false =>
   have HR:Hid (er=fl):=hd_ (HE.out.trans (if_neg (by decide)));clear HE;go_wp2_with fail;refine (HFA.out wc HPC.out).mono ?_;rintro e w3 ⟨rfl,hm⟩;have HP3:Hid (Pure w w3):=hd_ (HPC.out.trans hm);clear hm HFA;go_wp2_with fail;go_ret;rw [HR.out];exact ⟨rfl,HP3.out⟩
def SqP (w:World) (b N:Nat) (e:Ending) (w':World):Prop:=∃ qr:QR,e = .returned (.tuple #[qA qr,.int .i64 (checkQ qr.key)])∧QS w' qr∧QFr w.heap.size qr∧QZ qr∧QB 101 qr.key∧qSize qr.key≤121∧Strm w' b N∧Mod (· = b) w w'
def SqI (w:World) (b g2 g4 N M Z:Nat) (wx:World):Prop:=∃ (k n:Int) (A B:Option Addr) (c d:Nat) (ws:List Str) (xs:List QR),Blk wx g4 29 #[.int .i64 k,.slice A ws.length c,.int .i64 n,.slice B xs.length d]∧QS wx (.mk k A c ws n B d xs)∧QFr (g2+1) (.mk k A c ws n B d xs)∧QZ (.mk k A c ws n B d xs)∧QB M (QR.mk k A c ws n B d xs).key∧qSize (QR.mk k A c ws n B d xs).key≤Z∧Blk wx g2 29 #[.int .i64 0,.slice none 0 0,.int .i64 0,.slice none 0 0]∧Strm wx b N∧Mod (· = b) w wx
theorem blk_nostr {w:World} {g:Nat} {cs:Array Value} (h:Blk w g 29 cs):∀ x arr fr,w.heap[x]? = some (.cells arr 9 fr)→¬ x=g:=fun x arr fr hg he=>by
 subst he;unfold Blk at h;rw [hg] at h
 injection h with h
 injection h with _ h
 exact absurd h (by decide)
theorem someQuery_calls (w:World) (b N:Nat) (hS:Strm w b N) (hN:N≤600000000):Calls Tryz.prog 8 #[.pointer (some ⟨b,0,none⟩)] w (SqP w b (N+1200)):=by
 have h40:=Blk.new w 29 #[.int .i64 0,.slice none 0 0,.int .i64 0,.slice none 0 0];have hP0:=pure_alloc w (.cells #[.int .i64 0,.slice none 0 0,.int .i64 0,.slice none 0 0] 29);have hS0:=hS.alloc (.cells #[.int .i64 0,.slice none 0 0,.int .i64 0,.slice none 0 0] 29);have hb4:=hS.lt;have hsz:w.heap.size+1≤(w.alloc (.cells #[.int .i64 0,.slice none 0 0,.int .i64 0,.slice none 0 0] 29)).heap.size:=(by simp);clear hS
 go_enter Tryz.func8,Tryz.ntmps8
 go_upto_region 1 with (fail);generalize (w.alloc (.cells #[.int .i64 0,.slice none 0 0,.int .i64 0,.slice none 0 0] 29))=w0 at *;generalize hg2:w.heap.size=g2 at *;have hg2w:w.heap.size≤g2:=Nat.le_of_eq hg2;have hg2v:g2≤w.heap.size:=Nat.le_of_eq hg2.symm;clear hg2;have hlt0:=hS0.lt;go_wp2_with fail;refine (pickv_calls _ b _ w0.heap.size _ _ #[.int .i64 0,.int .i64 1,.int .i64 2,.int .i64 3] (hS0.alloc _) (Blk.new _ _ _) (by omega) (by omega) rfl (by decide) (by decide) rfl).mono ?_;rintro e w1 ⟨dI,hmem,rfl,hS1,hM1⟩
 have hv1:dI=0∨dI=1∨dI=2∨dI=3:=by simpa [intsOf,Go.RowKit.intOf] using hmem
 obtain ⟨dn,rfl⟩:∃ dn:Nat,dI=(dn:Int):=⟨dI.toNat,by omega⟩;have hdn:dn≤3:=(by omega);have HM1:=hd_ (((Mod.of_pure hP0:Mod (· = b) w w0).trans (Mod.of_pure (pure_alloc w0 (.cells #[.int .i64 0,.int .i64 1,.int .i64 2,.int .i64 3] 3)))).trans hM1);have K1:=hd_ ((h40.alloc (.cells #[.int .i64 0,.int .i64 1,.int .i64 2,.int .i64 3] 3)).mod hM1 (by omega))
 have hz1:w0.heap.size≤w1.heap.size:=by have:=hM1.size; rw [World.size_alloc] at this; omega
 have HC:=hd_ (queryG_calls b dn w1 (N+1) (dn:Int) rfl hdn hS1 (by omega));have hcq:=(cQ_le hdn).2
 have hsq:sQ dn≤118:=by
  match dn,hdn with
  | 0,_=>decide
  | 1,_=>decide
  | 2,_=>decide
  | 3,_=>decide
 clear hmem hM1 h40 hP0 hS0 hS1 hv1;go_wp2_with fail;refine HC.out.mono ?_;rintro e w2 ⟨⟨k1,A1,c1,ws1,n1,B1,d1,xs1⟩,rfl,hq1,hf1,hb1,hsz1,hS2,hM2,hqz1⟩;rw [qA_mk];have hs12:=hM2.size;have h4b:=Blk.new w2 29 #[.int .i64 k1,.slice A1 ws1.length c1,.int .i64 n1,.slice B1 xs1.length d1];have hpa:=pure_alloc w2 (.cells #[.int .i64 k1,.slice A1 ws1.length c1,.int .i64 n1,.slice B1 xs1.length d1] 29);have hspa:=hpa.size;have HSQ:Hid (SqI w b g2 w2.heap.size (N+800) 100 118 (w2.alloc (.cells #[.int .i64 k1,.slice A1 ws1.length c1,.int .i64 n1,.slice B1 xs1.length d1] 29))):=hd_ ⟨k1,n1,A1,B1,c1,d1,ws1,xs1,h4b,hq1.pure hpa,hf1.up (by omega),hqz1,hb1,by omega,(K1.out.mod hM2 (by omega)).modp hpa,(hS2.pure hpa).more (by omega),(HM1.out.trans hM2).trans (Mod.of_pure hpa)⟩;have hg4l:w2.heap.size<(w2.alloc (.cells #[.int .i64 k1,.slice A1 ws1.length c1,.int .i64 n1,.slice B1 xs1.length d1] 29)).heap.size:=h4b.lt;have hg24:g2<w2.heap.size:=(by omega);clear HC hq1 hf1 hb1 hsz1 hS2 hM2 hqz1 h4b hpa HM1 K1;go_upto_region 2 with (fail);generalize (w2.alloc (.cells #[.int .i64 k1,.slice A1 ws1.length c1,.int .i64 n1,.slice B1 xs1.length d1] 29))=w3 at *;generalize w2.heap.size=g4 at *;obtain ⟨k1,n1,A1,B1,c1,d1,ws1,xs1,h4b,hq1,hf1,hqz1,hb1,hsz1,hK2,hS3,hM3⟩:=HSQ.out;have HF:=hd_ (flip_calls w3 b _ 6 hS3 (by omega) (by omega) (by omega));clear h4b hq1 hf1 hqz1 hb1 hsz1 hK2 hS3 hM3;go_wp2_with fail;refine HF.out.mono ?_;rintro e w4 ⟨fl,rfl,hS4,hM4⟩;clear HF;obtain ⟨k1,n1,A1,B1,c1,d1,ws1,xs1,h4b,hq1,hf1,hqz1,hb1,hsz1,hK2,hS3,hM3⟩:=HSQ.out;have HI4:Hid (SqI w b g2 g4 (N+801) 100 118 w4):=hd_ ⟨k1,n1,A1,B1,c1,d1,ws1,xs1,h4b.modb hM4 (by omega),hq1.strm hS3 hM4,hf1,hqz1,hb1,hsz1,hK2.modb hM4 (by omega),hS4,hM3.trans hM4⟩;clear h4b hq1 hf1 hqz1 hb1 hsz1 hK2 hS3 hM3 HSQ
 go_upto_if 11 with (fail)
 go_cut [] (fun wx=>SqI w b g2 g4 (N+1150) 101 121 wx)
 case first =>
  obtain ⟨k1,n1,A1,B1,c1,d1,ws1,xs1,h4b,hq1,hf1,hqz1,hb1,hsz1,hK2,hS5,hM5⟩:=HI4.out
  cases fl with
  | false =>
   clear hM4 hS4;go_wp2_with fail;go_meet;exact ⟨k1,n1,A1,B1,c1,d1,ws1,xs1,h4b,hq1,hf1,hqz1,hb1.mono (by omega),by omega,hK2,hS5.more (by omega),hM5⟩
  | true =>
   have HSP:=hd_ (spoil_calls w4 b _ 100 118 (QR.mk k1 A1 c1 ws1 n1 B1 d1 xs1) hS5 (by omega) hq1 hqz1 hb1 (by omega) (by omega) hsz1);rw [qA_mk] at HSP;have HB4:=hd_ h4b;have HK2:=hd_ hK2;have HM5:=hd_ hM5;have hg4r:=h4b.lt;have hbr4:=hS4.lt;obtain ⟨x0,x1,x2,x3,xf0,xf1,xf2,xf3⟩:=h4b.c4f;clear hq1 hf1 hqz1 hb1 hsz1 hK2 hS5 hM5 hM4 hS4 HI4 h4b;go_wp2_with fail;refine HSP.out.mono ?_;rintro e w5 ⟨⟨k2,A2,c2,ws2,n2,B2,d2,xs2⟩,rfl,hq2,hf2,hqz2,hb2,hsz2,hS6,hM6⟩;rw [qA_mk];have h4c:=HB4.out.modb hM6 (by omega);have hs45:=hM6.size;have h4F:=st4_blk (a:=.int .i64 k2) (b:=.slice A2 ws2.length c2) (c:=.int .i64 n2) (d:=.slice B2 xs2.length d2) h4c;have hmF:Mod (· = g4) w5 ((((w5.setCell ⟨g4,0,none⟩ (.int .i64 k2)).setCell ⟨g4,1,none⟩ (.slice A2 ws2.length c2)).setCell ⟨g4,2,none⟩ (.int .i64 n2)).setCell ⟨g4,3,none⟩ (.slice B2 xs2.length d2)):=st4_mod;have hqF:=hq2.modF hf2 hmF (blk_nostr h4c) (fun x hx=>by show ¬ x=g4; omega);have hKF:=(HK2.out.modb hM6 (by omega)).mod hmF (by omega);have hSF:=hS6.mod hmF (fun i hi e=>by omega);have hMF:=(HM5.out.trans hM6).trans' hmF (fun i hi hlt=>by omega);have HQF:Hid (SqI w b g2 g4 (N+1150) 101 121 ((((w5.setCell ⟨g4,0,none⟩ (.int .i64 k2)).setCell ⟨g4,1,none⟩ (.slice A2 ws2.length c2)).setCell ⟨g4,2,none⟩ (.int .i64 n2)).setCell ⟨g4,3,none⟩ (.slice B2 xs2.length d2))):=hd_ ⟨k2,n2,A2,B2,c2,d2,ws2,xs2,h4F,hqF,hf2.up (by omega),hqz2,hb2,by omega,hKF,hSF.more (by omega),hMF⟩;obtain ⟨y0,y1,y2,y3,yf0,yf1,yf2,yf3⟩:=h4c.c4f;clear h4c h4F hmF hqF hKF hSF hMF hq2 hf2 hqz2 hb2 hsz2 hS6 hM6 HSP x0 x1 x2 x3 xf0 xf1 xf2 xf3;go_wp2_with fail;go_meet;exact HQF.out
 case rest =>
  clear HI4 hM4 hS4;obtain ⟨k1,n1,A1,B1,c1,d1,ws1,xs1,h4b,hq1,hf1,hqz1,hb1,hsz1,hK2,hS5,hM5⟩:=hcut;have HQF:=hd_ (fun W (h:Pure wc W)=>queryFault_calls W (QR.mk k1 A1 c1 ws1 n1 B1 d1 xs1) (hq1.pure h) (hb1.mono (by omega)) (by omega));rw [qA_mk] at HQF;have HQ1:=hd_ hq1;have HFR:=hd_ hf1;have HZB:=hd_ (And.intro hqz1 (And.intro hb1 hsz1));have HB4:=hd_ h4b;have HK2:=hd_ hK2;have HS5:=hd_ hS5;have HM5:=hd_ hM5;have hbr:=hS5.lt;obtain ⟨ck,hck⟩:∃ ck,checkQ (QR.key (QR.mk k1 A1 c1 ws1 n1 B1 d1 xs1))=ck:=⟨_,rfl⟩;have HCK:=hd_ hck;rw [hck] at HQF;obtain ⟨x0,x1,x2,x3⟩:=h4b.c4;obtain ⟨y0,y1,y2,y3,yf0,yf1,yf2,yf3⟩:=hK2.c4f;clear h4b hq1 hf1 hqz1 hb1 hsz1 hK2 hS5 hM5 hck;go_upto_region 4 with (fail)
  go_region_with (go_at_call 42; (refine (HQF.out _ (by (repeat' (first | with_reducible assumption | with_reducible exact Mod.refl _ _ | with_reducible refine Mod.alloc ?_ _ | with_reducible refine Mod.drew ?_ | with_reducible refine Mod.drewN ?_ _ | ((with_reducible apply Mod.q_set); (dsimp only); omega) | ((with_reducible apply Mod.q_trans); (with_reducible assumption)) | ((with_reducible apply Mod.q_transp); (with_reducible assumption)))))).mono ?_); rintro e w5 ⟨rfl,hm5'⟩; have hm5:Pure wc w5:=Mod.trans (by (repeat' (first | with_reducible assumption | with_reducible exact Mod.refl _ _ | with_reducible refine Mod.alloc ?_ _ | with_reducible refine Mod.drew ?_ | with_reducible refine Mod.drewN ?_ _ | ((with_reducible apply Mod.q_set); (dsimp only); omega) | ((with_reducible apply Mod.q_trans); (with_reducible assumption)) | ((with_reducible apply Mod.q_transp); (with_reducible assumption))))) hm5'; have h4c:=HB4.out.modp hm5; have hK5:=HK2.out.modp hm5; obtain ⟨u0,u1,u2,u3⟩:=h4c.c4; obtain ⟨v0,v1,v2,v3,vf0,vf1,vf2,vf3⟩:=hK5.c4f)
  all_goals
   have hmF:Mod (· = g2) w5 ((((w5.setCell ⟨g2,0,none⟩ (.int .i64 k1)).setCell ⟨g2,1,none⟩ (.slice A1 ws1.length c1)).setCell ⟨g2,2,none⟩ (.int .i64 n1)).setCell ⟨g2,3,none⟩ (.slice B1 xs1.length d1)):=st4_mod;have h4F:=st4_blk (a:=.int .i64 k1) (b:=.slice A1 ws1.length c1) (c:=.int .i64 n1) (d:=.slice B1 xs1.length d1) hK5;have HFIN:Hid (SqP w b (N+1200) (.returned (.tuple #[.agg #[.int .i64 k1,.slice A1 ws1.length c1,.int .i64 n1,.slice B1 xs1.length d1],.int .i64 ck])) ((((w5.setCell ⟨g2,0,none⟩ (.int .i64 k1)).setCell ⟨g2,1,none⟩ (.slice A1 ws1.length c1)).setCell ⟨g2,2,none⟩ (.int .i64 n1)).setCell ⟨g2,3,none⟩ (.slice B1 xs1.length d1))):=hd_ ⟨(QR.mk k1 A1 c1 ws1 n1 B1 d1 xs1),by rw [qA_mk,HCK.out],(HQ1.out.pure hm5).modF HFR.out hmF (blk_nostr hK5) (fun x hx=>by show ¬ x=g2; omega),HFR.out.up (by omega),HZB.out.1,HZB.out.2.1,HZB.out.2.2,((HS5.out.pure hm5).mod hmF (fun i hi e=>by omega)).more (by omega),mod_up (HM5.out.transp hm5) hmF hg2w⟩;obtain ⟨z0,z1,z2,z3⟩:=h4F.c4;clear hmF h4F h4c hK5 hm5 hm5' HQF HQ1 HFR HZB HB4 HK2 HS5 HM5 HCK;go_wp2_with fail
   try simp only [Exit.inBlock,Exit.then]
   refine bodyPost_ret (v:=.tuple #[.agg #[.int .i64 k1,.slice A1 ws1.length c1,.int .i64 n1,.slice B1 xs1.length d1],.int .i64 ck]) (by simp [results,Tryz.results8,go_sem,z0,z1,z2,z3]) rfl ?_;exact HFIN.out
theorem info_boolQ:(Tryz.prog.info? 4).map (fun i=>(i.zero,i.size,i.bytes))=some (some (.bool false),1,1):=by kernel_rfl
theorem upd_self {α:Type} (f:Nat→α) (e:Nat):upd f e (f e)=f:=by
 funext i
 unfold upd
 split
 ·rename_i h; rw [h]
 ·rfl
theorem upd_upd {α:Type} (f:Nat→α) (e:Nat) (a b:α):upd (upd f e a) e b=upd f e b:=by
 funext i
 unfold upd
 split <;> rfl
theorem upd_bool (kf:Nat→Bool) (e:Nat):upd (fun i=>Value.bool (kf i)) e (.bool true)=fun i=>Value.bool (upd kf e true i):=by
 funext i
 unfold upd
 split <;> rfl
def TabI (w:World) (gB gK W:Nat) (bv:Nat→Value) (kf:Nat→Bool) (R:Nat→List Nat):Prop:=RangeB w gB 22 (W+1) bv∧RangeB w gK 4 (W+1) (fun e => .bool (kf e))∧KnwI w bv kf R W
def BK (gB gK:Nat):Nat→Prop:=fun j=>j=gB∨j=gK
theorem blk_int {w:World} {g:Nat} {t:TypeId} {N:Nat} {f:Nat→Value} (h:RangeB w g t N f) (hne:t≠3):∀ g' arr fr,w.heap[g']? = some (.cells arr 3 fr)→¬ g'=g:=by
 intro g' arr fr hg e;subst e;unfold RangeB Blk at h;rw [h] at hg
 injection hg with hg
 injection hg with _ hg
 exact hne hg
theorem bk_int {w:World} {gB gK W:Nat} {bv:Nat→Value} {kf:Nat→Bool} {R:Nat→List Nat} (h:TabI w gB gK W bv kf R):∀ g' arr fr,w.heap[g']? = some (.cells arr 3 fr)→¬ BK gB gK g':=by
 rintro g' arr fr hg (e | e)
 ·exact blk_int h.1 (by decide) g' arr fr hg e
 ·exact blk_int h.2.1 (by decide) g' arr fr hg e
theorem TabI.pure {w w':World} {gB gK W:Nat} {bv:Nat→Value} {kf:Nat→Bool} {R:Nat→List Nat} (h:TabI w gB gK W bv kf R) (hm:Pure w w'):TabI w' gB gK W bv kf R:=⟨h.1.mod hm (fun h=>h),h.2.1.mod hm (fun h=>h),h.2.2.pure hm⟩
def AvI (w:World) (W:Nat) (bv:Nat→Value) (v:Value):Prop:=∀ e,e<W→∀ g,(bv e).ownBlock=some g→g<w.heap.size∧v.ownBlock≠some g
theorem AvI.big {w w':World} {W:Nat} {bv:Nat→Value} {v:Value} (h:AvI w W bv v) (hs:w.heap.size≤w'.heap.size):AvI w' W bv v:=fun e he g hg=>⟨Nat.lt_of_lt_of_le (h e he g hg).1 hs,(h e he g hg).2⟩
theorem AvI.to {w:World} {W:Nat} {bv:Nat→Value} {v v':Value} (h:AvI w W bv v) (hv:v'.ownBlock=v.ownBlock∨∃ k,v'.ownBlock=some k∧w.heap.size≤k):AvI w W bv v':=by
 intro e he g hg;obtain ⟨h1,h2⟩:=h e he g hg;refine ⟨h1,?_⟩
 rcases hv with hv | ⟨k,hv,hk⟩
 ·rw [hv]; exact h2
 ·rw [hv];intro hh
  injection hh with hh
  omega
theorem AvI.nil {w:World} {W:Nat} {bv:Nat→Value} {v:Value} (h:AvI w W bv v):AvI w W bv (.slice none 0 0):=fun e he g hg=>⟨(h e he g hg).1,fun hh=>by cases hh⟩
theorem mod_setK (w:World) (g i:Nat) (v:Value):Mod (· = g) w (w.setCell ⟨g,i,none⟩ v):=Mod.setCell (S:=fun k=>k=g) (p:=⟨g,i,none⟩) (Mod.refl _ _) (.inl rfl) v
theorem TabI.own {w w':World} {gB gK W:Nat} {bv:Nat→Value} {kf:Nat→Bool} {R:Nat→List Nat} {v:Value} (h:TabI w gB gK W bv kf R) (ha:AvI w W bv v) (hm:Mod (fun k=>v.ownBlock=some k) w w') (hB:v.ownBlock≠some gB) (hK:v.ownBlock≠some gK):TabI w' gB gK W bv kf R :=
 ⟨h.1.mod hm hB,h.2.1.mod hm hK,fun e he=>⟨(h.2.2 e he).1,fun hk=>⟨((h.2.2 e he).2 hk).1.mod_ob hm (fun g hg=>(ha e he g hg).2),((h.2.2 e he).2 hk).2⟩⟩⟩
theorem ahead_calls (w:World) (va vb:Value) (W:Nat) (F G:Nat→Nat→Bool) (n:Int) (ha:SlI w va (rowsQ W F)) (hb:SlI w vb (rowsQ W G)) (hW:W≤1000) (hn0:0≤n) (hn1:n≤20):Calls Tryz.prog 210 #[va,vb,.int .i64 n] w (RnP w W (cutB F G n W)):=by
 obtain ⟨Aa,ca,rfl,hca,hca2⟩:=ha.form;obtain ⟨Ab,cb,rfl,hcb,hcb2⟩:=hb.form;have HA:=hd_ ha;have HB:=hd_ hb;have hmk1:=run_make_one (P:=Tryz.prog) 94 22 (.slice none 0 0) 24 Tryz.underlying94 info_intsQ rfl .i64 .i64 (W+1) ((W:Int)+1) (by omega) (by omega) (by omega) (Array.replicate (W+1) (Value.slice none 0 0)) (by simp);have hmk2:=run_make_one (P:=Tryz.prog) 273 4 (.bool false) 1 Tryz.underlying273 info_boolQ rfl .i64 .i64 (W+1) ((W:Int)+1) (by omega) (by omega) (by omega) (Array.replicate (W+1) (Value.bool false)) (by simp);have hmk3:=run_make_one (P:=Tryz.prog) 185 22 (.slice none 0 0) 24 Tryz.underlying185 info_intsQ rfl .i64 .i64 W (W:Int) rfl (by omega) (by omega) (Array.replicate W (Value.slice none 0 0)) (by simp);simp only [rowsQ_len] at *;clear ha hb;have HBB:=hd_ (((RangeB.new w 22 (W+1) (.slice none 0 0)).alloc (.cells (Array.replicate (W+1) (Value.bool false)) 4)).alloc (.cells (Array.replicate W (Value.slice none 0 0)) 22));have HKK:=hd_ ((RangeB.new (w.alloc (.cells (Array.replicate (W+1) (Value.slice none 0 0)) 22)) 4 (W+1) (.bool false)).alloc (.cells (Array.replicate W (Value.slice none 0 0)) 22));have HO:=hd_ (OutB.new ((w.alloc (.cells (Array.replicate (W+1) (Value.slice none 0 0)) 22)).alloc (.cells (Array.replicate (W+1) (Value.bool false)) 4)) W);rw [List.toArray_replicate] at HO;have HM:Hid (Pure w (((w.alloc (.cells (Array.replicate (W+1) (Value.slice none 0 0)) 22)).alloc (.cells (Array.replicate (W+1) (Value.bool false)) 4)).alloc (.cells (Array.replicate W (Value.slice none 0 0)) 22))):=hd_ ((((Mod.refl _ _).alloc _).alloc _).alloc _)
 go_enter Tryz.func210,Tryz.ntmps210
 go_wp2_with fail;clear hmk1 hmk2 hmk3;obtain ⟨gB,hgB⟩:∃ g,w.heap.size=g:=⟨_,rfl⟩;have HSZ:Hid ((w.alloc (.cells (Array.replicate (W+1) (Value.slice none 0 0)) 22)).heap.size=gB+1∧((w.alloc (.cells (Array.replicate (W+1) (Value.slice none 0 0)) 22)).alloc (.cells (Array.replicate (W+1) (Value.bool false)) 4)).heap.size=gB+1+1):=hd_ (by constructor <;> simp <;> omega);rw [hgB] at HBB;rw [HSZ.out.1] at HKK;rw [HSZ.out.2] at HO;generalize (((w.alloc (.cells (Array.replicate (W+1) (Value.slice none 0 0)) 22)).alloc (.cells (Array.replicate (W+1) (Value.bool false)) 4)).alloc (.cells (Array.replicate W (Value.slice none 0 0)) 22))=w1 at *
 try simp only [hgB]
 obtain ⟨gK,hgK⟩:∃ g,gB+1=g:=⟨_,rfl⟩;rw [hgK] at HKK HO
 try simp only [hgK]
 obtain ⟨gO,hgO⟩:∃ g,gK+1=g:=⟨_,rfl⟩;rw [hgO] at HO
 try simp only [hgO]
 have hl1:w.heap.size≤gB:=(by omega);have hl2:gB<gK:=(by omega);have hl3:gK<gO:=(by omega);clear hgB hgK hgO HSZ;have HT:Hid (TabI w1 gB gK W (fun _ => .slice none 0 0) (fun _=>false) (fun e=>rowQ W (behB G n W e))):=hd_ ⟨HBB.out,HKK.out,fun e he=>⟨fun _=>rfl,fun h=>by cases h⟩⟩;clear HBB HKK
 go_loopg [28] W (fun gk i wr=>∃ (k:Nat) (us:List Value) (bv:Nat→Value) (kf:Nat→Bool),W - k=gk∧k≤W∧i = .int .i64 (k:Int)∧us.length=k∧OutB wr gO us W∧RowsU wr us ((rowsQ W (cutB F G n W)).take k)∧TabI wr gB gK W bv kf (fun e=>rowQ W (behB G n W e))∧AvI wr W bv (.slice none 0 0)∧Pure w wr)
 case atStart=>exact ⟨0,[],_,_,by omega,by omega,rfl,rfl,HO.out,RowsU.nil,HT.out,(fun e he g hg=>by cases hg),HM.out⟩
 case round =>
  clear HO HM HT;obtain ⟨k,us,bv,kf,rfl,hk,rfl,hul,hO,hR,hT,hAV,hm⟩:=hrel;have HAV:=hd_ hAV;have HO:=hd_ hO;have HR:=hd_ hR;have HT:=hd_ hT;have HM:=hd_ hm;have HU:=hd_ hul;clear hO hR hT hm hul hAV;generalize wr=w2 at *
  by_cases hlt:k<W
  ·obtain ⟨ga,oa,A1,c1,rfl,qa,sa,na⟩:=(HA.out.pure HM.out).at (i:=k) (by rw [rowsQ_len]; exact hlt);rw [rowsQ_at] at qa sa na;have HSA:=hd_ sa;have hcl:=sa.lenI.2;clear sa na;have hgO2:=HO.out.lt;have hgB2:=HT.out.1.lt;have hgK2:=HT.out.2.1.lt;have hral:=rowQ_len W (F k);have hszw:=HM.out.size;go_wp2_with fail
   go_loopg [11,36] (rowQ W (F k)).length (fun gk l i wx=>∃ (t:Nat) (A:Option Addr) (c:Nat) (bv:Nat→Value) (kf:Nat→Bool),(rowQ W (F k)).length - t=gk∧t≤(rowQ W (F k)).length∧i = .int .i64 (t:Int)∧l = .slice A (gatB F G n W k t).length c∧wx.ownsRow w2.heap.size 3 1 (.slice A (gatB F G n W k t).length c) (gatB F G n W k t).length (nvQ (gatB F G n W k t))∧TabI wx gB gK W bv kf (fun e=>rowQ W (behB G n W e))∧AvI wx W bv (.slice A (gatB F G n W k t).length c)∧Mod (BK gB gK) w2 wx)
   case atStart=>exact ⟨0,none,0,bv,kf,by omega,by omega,rfl,rfl,⟨rfl,.inl ⟨rfl,rfl⟩⟩,HT.out,HAV.out.nil,Mod.refl _ _⟩
   case round =>
    obtain ⟨t,A,c,bv2,kf2,rfl,ht,rfl,rfl,hown,hT,hA2,hm⟩:=hrel;have HAX:=hd_ hA2;have HOW:=hd_ hown;have HTX:=hd_ hT;have HMX:=hd_ hm;have hgl:=Nat.le_trans (gatB_len F G n W k t ht) (Nat.mul_le_mul (show t≤1000 by omega) hW);clear hown hT hm hA2
    by_cases htl:t<(rowQ W (F k)).length
    ·have heW:(rowQ W (F k))[t]<W:=(rowQ_mem.1 (List.getElem_mem htl)).1;obtain ⟨g1,o1,hA1,hr1⟩:=(HSA.out.mod HMX.out (bk_int HT.out)).rowS (by omega);subst hA1;have q1:=hr1.cell (nvQ_get _ t htl);have HGS:=hd_ (gatB_succ F G n W k htl);have hgl2:=Nat.le_trans (gatB_len F G n W k (t+1) htl) (Nat.mul_le_mul (show t+1≤1000 by omega) hW);rw [HGS.out,List.length_append] at hgl2;clear hr1;generalize (rowQ W (F k))[t]=e at *;have k1:=HTX.out.2.1.cell (show e<W+1 by omega);have k2:=HTX.out.2.1.frozen e
     go_upto_if 44 with (fail)
     go_cut [] (fun wy=>∃ (bv3:Nat→Value) (kf3:Nat→Bool),kf3 e=true∧TabI wy gB gK W bv3 kf3 (fun e=>rowQ W (behB G n W e))∧AvI wy W bv3 (.slice A (gatB F G n W k t).length c)∧wy.ownsRow w2.heap.size 3 1 (.slice A (gatB F G n W k t).length c) (gatB F G n W k t).length (nvQ (gatB F G n W k t))∧Mod (BK gB gK) w2 wy)
     case first =>
      cases hke:kf2 e
      ·rw [hke] at k1;have hbe:=(HTX.out.2.2 e heW).1 hke;obtain ⟨S,hS⟩:∃ S,S=min (e+2+n.toNat) W:=⟨_,rfl⟩;have hS1:e+1≤S:=(by omega);have hS2:S≤W:=(by omega);have hS3:(S:Int)≤(e:Int)+2+n:=(by omega);have hS4:S=W∨(e:Int)+1+n<S:=(by omega)
       have hS5:(if ((W:Int) - 1)<((e:Int)+1+n) then (W:Int) - 1 else (e:Int)+1+n)=(S:Int) - 1:=by split <;> omega
       have HBR:=hd_ (behRow (B:=G) (n:=n) (W:=W) (e:=e) (s:=S) hS2 hS1 hn0 hS3 hS4);clear hS hS3 hS4;have hstK:Mod (BK gB gK) wr (wr.setCell ⟨gK,e,none⟩ (.bool true)):=(mod_setK wr gK e (.bool true)).mono (fun i hi => .inr hi);have HB3:Hid (RangeB (wr.setCell ⟨gK,e,none⟩ (.bool true)) gB 22 (W+1) bv2):=hd_ (HTX.out.1.far (by show gB≠gK; omega) _);have HK3:Hid (RangeB (wr.setCell ⟨gK,e,none⟩ (.bool true)) gK 4 (W+1) (fun i => .bool (upd kf2 e true i))):=hd_ (by rw [← upd_bool]; exact HTX.out.2.1.set e _);have HN3:=hd_ (HTX.out.2.2.mod hstK (bk_int HTX.out));have HO3:=hd_ (own_mod HOW.out hstK (fun g hg hh=>by have:=own_block HOW.out g hg; rcases hh with h | h <;> omega));have HM3:=hd_ (HMX.out.trans hstK);have HA3:=hd_ (HAX.out.big hstK.size);clear hstK;go_upto_region 13 with (fail);generalize (wr.setCell ⟨gK,e,none⟩ (.bool true))=w3 at *;clear k1 k2 q1;have hg3:=HB3.out.lt;have hw3:=HM3.out.size;go_wp2_with fail
       go_loopg [14] (S - (e+1)) (fun gk x wz=>∃ (s:Nat) (A3:Option Addr) (c3:Nat),S - s=gk∧e+1≤s∧s≤S∧x = .int .i64 (s:Int)∧RangeB wz gB 22 (W+1) (upd bv2 e (.slice A3 (catB G W e s).length c3))∧wz.ownsRow w3.heap.size 3 1 (.slice A3 (catB G W e s).length c3) (catB G W e s).length (nvQ (catB G W e s))∧Mod (· = gB) w3 wz)
       case atStart=>exact ⟨e+1,none,0,by omega,Nat.le_refl _,hS1,by simp,by rw [catB_zero]; show RangeB _ _ _ _ (upd bv2 e (.slice none 0 0)); rw [← hbe,upd_self]; exact HB3.out,by rw [catB_zero]; exact ⟨rfl,.inl ⟨rfl,rfl⟩⟩,Mod.refl _ _⟩
       case round =>
        obtain ⟨s,A3,c3,rfl,hs1,hs2,rfl,hRB,hown3,hm⟩:=hrel;have HRB:=hd_ hRB;have HOWN:=hd_ hown3;have HMZ:=hd_ hm;have hgz:=hRB.lt;have hsz:=hm.size;have hc1:=hRB.cell (show e<W+1 by omega);rw [upd_same] at hc1;have hc2:=hRB.frozen e;clear hRB hown3 hm;generalize wr=w4 at *
        by_cases hlt3:s<S
        ·have hle:(s:Int)≤(S:Int) - 1:=(by omega);have HP4:Hid (Pure w w4):=hd_ ((HM.out.trans' HM3.out (fun i hi hlt=>by rcases hi with h | h <;> omega)).trans' HMZ.out (fun i hi hlt=>by omega));obtain ⟨gb,ob,A2,c2,hAb,qb,sb,nb⟩:=(HB.out.pure HP4.out).at (i:=s) (by rw [rowsQ_len]; omega);subst hAb;rw [rowsQ_at] at qb sb nb;have hcs:=catB_len G W e (s - (e+1));rw [show e+1+(s - (e+1))=s by omega] at hcs;have hcs2:=Nat.le_trans hcs (Nat.mul_le_mul (show s - (e+1)≤1000 by omega) hW);have hrw:=rowQ_len W (G s);have HCS:=hd_ (catB_succ G W e s hs1);have hd:Pure w4 w4.drew:=(Mod.refl _ _).drew;obtain ⟨A5,c5,w5,hr5,hown5,hgrow5,hb5⟩:=run_appI w4.drew 22 w3.heap.size _ _ _ _ (rowQ W (G s)) (own_pure HOWN.out hd) (sb.pure hd) nb (by have:=hd.size; omega) (by omega);have hob:=own_block HOWN.out;have hm5:Mod (· = gB) w3 w5:=(HMZ.out.drew).trans' (mod_grown hgrow5) (fun i hi hlt=>by have:=hob i hi; omega);have hRB5:=(HRB.out.mod hd (fun h=>h)).mod (mod_grown hgrow5) (fun h=>by have:=hob _ h; omega);have hd1:=hRB5.cell (show e<W+1 by omega);rw [upd_same] at hd1;have hd2:=hRB5.frozen e;have HRB5:=hd_ hRB5;have HR5:=hd_ hr5;have HM5:=hd_ hm5;have HO5:=hd_ hown5;clear hcs hcs2 hb5 hob hm5 hRB5 hr5 hown5 hgrow5 sb nb hd;generalize rowQ W (G s)=rs at *;rw [← List.length_append,← nvQ_append] at HO5;rw [← List.length_append] at HR5;have hi1:(e:Int)<(W:Int)+1:=(by omega);have hi2:e<W+1:=(by omega);have hi3:(s:Int)<(W:Int):=(by omega);have hi4:s<W:=(by omega);have hi5:(0:Int)≤(e:Int):=(by omega);have hi6:(0:Int)≤(s:Int):=(by omega);go_upto_region 16 with (fail)
         go_region_law (refine step_append_I rfl (.tmp 67) (.tmp 71) 22 rfl _ _ _ _ (by simp [Act.eval,Act.put]) (by simp [Act.eval,Act.put]) HR5.out ?_)
         all_goals
          go_wp2_with fail
          go_roundg (S - (s+1))
          case measure=>omega
          case rel=>exact ⟨s+1,A5,c5,rfl,by omega,by omega,by simp,by rw [HCS.out,List.length_append]; have h:=HRB5.out.set e (.slice A5 ((catB G W e s).length+rs.length) c5); rw [upd_upd] at h; exact h,by rw [HCS.out]; exact own_mod HO5.out (mod_setK _ _ _ _) (fun g hg hh=>by have:=own_block HO5.out g hg; omega),HM5.out.trans (mod_setK _ _ _ _)⟩
        ·obtain rfl:s=S:=by omega
         have hle:¬ ((s:Int)≤(s:Int) - 1):=(by omega);have hcs:=catB_len G W e (s - (e+1));rw [show e+1+(s - (e+1))=s by omega] at hcs;have hcs2:=Nat.le_trans hcs (Nat.mul_le_mul (show s - (e+1)≤1000 by omega) hW);have HOB:=hd_ (own_block HOWN.out);have HSO:=hd_ (sortI_calls w4 _ _ _ (castI (catB G W e s)) (by rw [ivQ_cast]; exact HOWN.out) (by rw [castI_len]; omega));have HCL:Hid ((castI (catB G W e s)).length≤1000000):=hd_ (by rw [castI_len]; exact hcs2);clear hcs hcs2 hs1 hs2 hlt3;generalize hcat:catB G W e s=cat at *
         clear hcat
         go_wp2_with fail;refine HSO.out.mono ?_;rintro e' w5 ⟨rfl,hq,hm5⟩;have HCO:=hd_ (compactI_calls w5 _ _ _ _ hq (by rw [List.length_mergeSort]; have:=HCL.out; omega));have HM5:Hid (Mod (· = gB) w3 w5):=hd_ (HMZ.out.trans' hm5 (fun i hi hlt=>by have:=HOB.out i hi; omega));have hRB5:=HRB.out.mod hm5 (fun h=>by have:=HOB.out _ h; omega);have hd1:=hRB5.cell (show e<W+1 by omega);rw [upd_same] at hd1;have HRB5:=hd_ hRB5;clear hq hm5 hRB5 HSO hc1 hc2;go_wp2_with fail;refine HCO.out.mono ?_;rintro e' w6 ⟨v4,rfl,hq,hbk,hm6⟩;obtain ⟨A6,n6,c6,rfl⟩:=(Sl.of_own hq).form;rw [HBR.out,castI_len,ivQ_cast] at hq;have HM6:Hid (Mod (· = gB) w3 w6):=hd_ (HM5.out.trans' hm6 (fun i hi hlt=>by have:=HOB.out i hi; omega));have hRB6:=HRB5.out.mod hm6 (fun h=>by have:=HOB.out _ h; omega);have he1:=hRB6.cell (show e<W+1 by omega);rw [upd_same] at he1;have he2:=hRB6.frozen e;have HRB6:=hd_ hRB6;have HQ6:=hd_ hq;clear hq hm6 hRB6 HCO hd1 HRB5 hbk;go_wp2_with fail;go_meet;have hst:=mod_setK w6 gB e (.slice A6 n6 c6);have hmf:Mod (· = gB) w3 (w6.setCell ⟨gB,e,none⟩ (.slice A6 n6 c6)):=HM6.out.trans hst;have hown6:=own_mod HQ6.out hst (fun g hg hh=>by have:=own_block HQ6.out g hg; omega);have hint:=blk_int HB3.out (by decide);have hRBf:=HRB6.out.set e (.slice A6 n6 c6);rw [upd_upd] at hRBf;refine ⟨upd bv2 e (.slice A6 n6 c6),upd kf2 e true,upd_same _ _ _,⟨hRBf,HK3.out.mod hmf (by omega),KnwI.add (HN3.out.mod hmf hint) (Sl.of_own hown6) (own_NilOk hown6)⟩,?_,own_mod HO3.out hmf (fun g hg hh=>by have:=own_block HO3.out g hg; omega),HM3.out.trans (hmf.mono (fun i hi => .inl hi))⟩;intro e2 he2 g2 hg2
         by_cases hee:e2=e
         ·subst hee;rw [upd_same] at hg2;obtain ⟨arr,harr⟩:=own_heap hown6 hg2;have h1:=own_block HQ6.out _ hg2;refine ⟨lt_of_heap harr,fun hh => ?_⟩;obtain ⟨arr2,harr2⟩:=own_heap HO3.out hh;have:=lt_of_heap harr2
          omega
         ·rw [upd_ne _ _ hee] at hg2;exact (HA3.out.big hmf.size) e2 he2 g2 hg2
      ·rw [hke] at k1;go_wp2_with fail;go_meet;exact ⟨bv2,kf2,hke,HTX.out,HAX.out,HOW.out,HMX.out⟩
     case rest =>
      obtain ⟨bv3,kf3,hk3,hT3,hA3,hO3,hM3⟩:=hcut;have HK3:=hk3;obtain ⟨hs3,hn3⟩:=(hT3.2.2 e heW).2 hk3;have c3:=hT3.1.cell (show e<W+1 by omega);obtain ⟨Ae,ne,ce,hbe⟩:=hs3.form;rw [hbe] at c3 hs3 hn3;have hob:=own_block hO3;have hM3s:=hM3.size;obtain ⟨A5,c5,w5,hr5,hown5,hgrow5,hb5⟩:=run_appI wc 22 w2.heap.size _ _ _ _ (rowQ W (behB G n W e)) hO3 hs3 hn3 (by omega) (by omega);have HR5:=hd_ hr5;have HT3:=hd_ hT3;have HA3:=hd_ hA3;have HM3:=hd_ hM3;have HO5:=hd_ hown5;have HG5:=hd_ (mod_grown hgrow5);have HB5:=hd_ hb5;have HOB:=hd_ hob;clear hs3 hn3 hT3 hA3 hO3 hM3 hr5 hown5 hgrow5 hb5 hob k1 k2 q1 HTX HAX HOW HMX;generalize wc=w4 at *;rw [← List.length_append] at hgl2 HR5 HO5 HB5
      go_wp2_with (at_builtin; refine wpList_append_runI rfl (.tmp 87) (.tmp 91) _ _ rfl _ _ _ _ rfl rfl HR5.out ?_)
      go_roundg ((rowQ W (F k)).length - (t+1))
      case measure=>omega
      case rel =>
       have hob:∀ g,(Value.slice A (gatB F G n W k t).length c).ownBlock=some g→¬ BK gB gK g:=fun g hg hh=>by have:=HOB.out g hg; rcases hh with h | h <;> omega
       refine ⟨t+1,A5,c5,bv3,kf3,rfl,htl,by simp,by rw [HGS.out,List.length_append],by rw [HGS.out]; simpa [nvQ_append] using HO5.out,HT3.out.own HA3.out HG5.out (fun h=>hob _ h (.inl rfl)) (fun h=>hob _ h (.inr rfl)),?_,HM3.out.trans' HG5.out (fun i hi hlt=>by have:=HOB.out _ hi; omega)⟩;rw [HGS.out];refine (HA3.out.to ?_).big HG5.out.size
       rcases HB5.out with h | h
       ·exact .inl h
       ·exact .inr ⟨_,h,Nat.le_refl _⟩
    ·obtain rfl:t=(rowQ W (F k)).length:=by omega
     have HCR:=hd_ (cutRow (A:=F) (B:=G) (n:=n) (W:=W) (i:=k))
     have HTK:Hid ((rowsQ W (cutB F G n W)).take (k+1)=(rowsQ W (cutB F G n W)).take k ++ [rowQ W (cutB F G n W k)]):=hd_ (by
      rw [List.take_succ_eq_append_getElem (by rw [rowsQ_len]; exact hlt),rowsQ_at])
     have hszx:=HMX.out.size;have hob:=hd_ (own_block HOW.out);have HSO:=hd_ (sortI_calls wr _ _ _ (castI (gatB F G n W k (rowQ W (F k)).length)) (by rw [ivQ_cast]; exact HOW.out) (by rw [castI_len]; omega));have HGL:Hid ((castI (gatB F G n W k (rowQ W (F k)).length)).length≤1000000):=hd_ (by rw [castI_len]; exact hgl);clear hgl;generalize gatB F G n W k (rowQ W (F k)).length=gl at *;generalize hra:(rowQ W (F k)).length=nra at *;clear hra;go_wp2_with fail;refine HSO.out.mono ?_;rintro e w3 ⟨rfl,hq,hm3⟩;have HM3:Hid (Mod (fun k=>(Value.slice A gl.length c).ownBlock=some k) wr w3):=hd_ hm3;have HCO:=hd_ (compactI_calls w3 _ _ _ _ hq (by rw [List.length_mergeSort]; have:=HGL.out; omega));clear hq hm3 HSO;go_wp2_with fail;refine HCO.out.mono ?_;rintro e w4 ⟨v4,rfl,hq,hbk,hm4⟩;obtain ⟨A4,n4,c4,rfl⟩:=(Sl.of_own hq).form;rw [HCR.out,castI_len,ivQ_cast] at hq;have HQ:=hd_ hq;have HM4:Hid (Mod (fun k=>(Value.slice A gl.length c).ownBlock=some k) wr w4):=hd_ (HM3.out.trans hm4);have HMX4:Hid (Mod (BK gB gK) w2 w4):=hd_ (HMX.out.trans' HM4.out (fun i hi hlt=>by have:=hob.out _ hi; omega));have HO4:=hd_ (HO.out.mod HMX4.out (by rintro (h | h) <;> omega));have HR4:=hd_ (HR.out.mod HMX4.out (bk_int HT.out));have HT4:=hd_ (HTX.out.own HAX.out HM4.out (fun h=>by have:=hob.out _ h; omega) (fun h=>by have:=hob.out _ h; omega));have HM5:Hid (Pure w w4):=hd_ (HM.out.trans' HMX4.out (fun i hi hlt=>by rcases hi with h | h <;> omega));have HA4:=hd_ ((HAX.out.big HM4.out.size).nil);obtain ⟨x0,xf0⟩:=HO4.out.cellk HU.out.symm (by rw [HU.out]; exact hlt);have hw4:=HMX4.out.size;clear hq hm4 HCO HM3 HO HR HTX HAX HMX HM HAV HSA HOW HT;go_wp2_with fail
     go_roundg (W - (k+1))
     case measure=>omega
     case rel =>
      have hne:∀ i,i=gO→¬ BK gB gK i:=fun i hi hh=>by rcases hh with h | h <;> omega
      refine ⟨k+1,us ++ [.slice A4 n4 c4],bv2,kf2,rfl,hlt,by simp,by simp [HU.out],HO4.out.snoc HU.out.symm (by rw [HU.out]; exact hlt) _,?_,⟨HT4.out.1.far (by show gB≠gO; omega) _,HT4.out.2.1.far (by show gK≠gO; omega) _,fun e he=>⟨(HT4.out.2.2 e he).1,fun hk=>⟨((HT4.out.2.2 e he).2 hk).1.set_ne HO4.out (by decide) _,((HT4.out.2.2 e he).2 hk).2⟩⟩⟩,HA4.out.big (by simp),HM5.out.setCell (.inr (by show w.heap.size≤gO; omega)) _⟩;rw [HTK.out];exact (HR4.out.set HO4.out (by decide) _ _).snoc ((Sl.of_own HQ.out).set_ne HO4.out (by decide) _) (own_NilOk HQ.out)
  ·have hke:k=W:=(by omega);subst hke;go_wp2_with fail;go_ret;exact ⟨_,rfl,HO.out.sl (by have h:=HR.out; rw [List.take_of_length_le (by rw [rowsQ_len]; omega)] at h; exact h) (rowsQ_len _ _) (by omega),HM.out⟩
def wsQ (l:List Wd):List Str:=l.map (·.2)
theorem wsQ_len (l:List Wd):(wsQ l).length=l.length:=by simp [wsQ]
theorem phr_getD {l:List Wd} {i:Nat} (h:i<l.length):(wsQ l).getD i []=l[i].2:=by simp [wsQ,List.getD,h]
theorem pat_getD {l:List Str} {i:Nat} (h:i<l.length):l.getD i []=l[i]:=by simp [List.getD,h]
theorem phraseQ_calls (w:World) (vp vw:Value) (pats:List Str) (wl:List Wd) (hp:Sl w 9 1 vp (strsV pats)) (hw:Wds w vw wl) (hp0:1≤pats.length) (hp1:pats.length≤1000) (hpl:∀ x∈pats,x.length≤1000000) (hW:wl.length≤1000) (hwl:∀ x∈wl,x.2.length≤1000000) :
  Calls Tryz.prog 211 #[vp,vw] w (RnP w wl.length (phrB (wsQ wl) pats)):=by
 obtain ⟨Ap,np,cp,rfl⟩:=hp.form;obtain rfl:=hp.lenS;obtain ⟨Aw,nw,cw,rfl⟩:=hw.form
 have hwn:nw=wl.length:=by obtain ⟨_,_,_,e,_,_,h,_⟩:=hw; cases e; rw [wdV_len] at h; omega
 subst hwn;have hcp:=hp.lenI.2
 have hcw:wl.length≤cw∧cw≤9223372036854775807:=by obtain ⟨_,_,_,e,h1,h2,_⟩:=hw; cases e; exact ⟨h1,h2⟩
 have HP:=hd_ hp;have HW:=hd_ hw;have HPL:=hd_ hpl;have HWL:=hd_ hwl;clear hp hw hpl hwl;have hmk:=run_make_one (P:=Tryz.prog) 185 22 (.slice none 0 0) 24 Tryz.underlying185 info_intsQ rfl .i64 .i64 wl.length (wl.length:Int) rfl (by omega) (by omega) (Array.replicate wl.length (Value.slice none 0 0)) (by simp);have HO:=hd_ (OutB.new w wl.length);have HM:=hd_ (pure_alloc w (.cells (List.replicate wl.length (Value.slice none 0 0)).toArray 22));rw [List.toArray_replicate] at HO HM
 go_enter Tryz.func211,Tryz.ntmps211
 go_wp2_with fail;clear hmk;have hgw:=Nat.le_refl w.heap.size;generalize (w.alloc (.cells (Array.replicate wl.length (Value.slice none 0 0)) 22))=w1 at *;generalize hg:w.heap.size=g at *
 go_loopg [19] (wl.length+1 - pats.length) (fun gk i wr=>∃ (k:Nat) (us:List Value),(wl.length+1 - pats.length) - k=gk∧k≤wl.length∧(k=0∨k+pats.length≤wl.length+1)∧i = .int .i64 (k:Int)∧us.length=k∧OutB wr g us wl.length∧RowsU wr us ((rowsQ wl.length (phrB (wsQ wl) pats)).take k)∧Pure w wr)
 case atStart=>exact ⟨0,[],by omega,by omega,.inl rfl,rfl,rfl,HO.out,RowsU.nil,HM.out⟩
 case round =>
  clear HO HM;obtain ⟨k,us,rfl,hk,hk2,rfl,hul,hO,hR,hm⟩:=hrel;have HO:=hd_ hO;have HR:=hd_ hR;have HM:=hd_ hm;have HU:=hd_ hul;clear hO hR hm hul
  rcases Nat.lt_or_ge wl.length (k+pats.length) with hout | hin
  ·have hlt:¬ ((k:Int)<(wl.length:Int) - (pats.length:Int)+1):=(by omega);go_wp2_with fail;go_ret;have h1:=HR.out.nils (wl.length - k);rw [rowsQ_tail hk (fun i h2 h3=>by have h4:=phrRow_out (ws:=wsQ wl) (pats:=pats) (i:=i) (by rw [wsQ_len]; omega); rw [wsQ_len] at h4; exact h4)] at h1;have h2:=HO.out.all (by rw [HU.out]; exact hk);rw [HU.out] at h2;exact ⟨_,rfl,h2.sl h1 (rowsQ_len _ _) (by omega),HM.out⟩
  ·have hlt:(k:Int)<(wl.length:Int) - (pats.length:Int)+1:=(by omega);generalize wr=w2 at *;go_wp2_with fail
   go_loopg [7,24] pats.length (fun gk b i wx=>∃ t:Nat,pats.length - t=gk∧t≤pats.length∧b = .bool (phrN (wsQ wl) pats k t)∧i = .int .i64 (t:Int)∧Pure w2 wx)
   case atStart=>exact ⟨0,by omega,by omega,rfl,rfl,Mod.refl _ _⟩
   case round =>
    obtain ⟨t,rfl,ht,rfl,rfl,hmx⟩:=hrel
    by_cases htl:t<pats.length
    ·have HN:=hd_ (phrN_succ (wsQ wl) pats k t);rw [phr_getD (by omega),pat_getD htl] at HN;obtain ⟨gp,op,rfl,hrp⟩:=(HP.out.pure (HM.out.trans hmx)).rowS (by omega);have qp:=hrp.cell (strsV_get pats t htl);obtain ⟨_,_,_,e,_,_,_,hrw0⟩:=HW.out.pure (HM.out.trans hmx)
     cases e
     obtain ⟨gw,ow,rfl,hrw⟩:=hrw0 (by omega);have qw:=hrw.cell (wdV_get wl (k+t) (by omega)).2.2;rw [← Nat.add_assoc] at qw;have h1:=HPL.out _ (List.getElem_mem htl);have h2:=HWL.out _ (List.getElem_mem (show k+t<wl.length by omega));have HF:=hd_ (fun W0=>fits_calls W0 pats[t] wl[k+t].2 h1 h2);clear h1 h2 hrp hrw hrw0;generalize phrN (wsQ wl) pats k t=b1 at *;generalize fitsB pats[t] wl[k+t].2=b3 at *;generalize pats[t]=pt at *;generalize wl[k+t].2=wt at *
     cases b1
     ·go_wp2_with fail
      go_roundg (pats.length - (t+1))
      case measure=>omega
      case rel=>exact ⟨t+1,rfl,htl,by rw [HN.out]; rfl,by simp,hmx⟩
     ·go_wp2_with fail;refine (HF.out _).mono ?_;rintro e w3 ⟨rfl,hm2⟩;go_wp2_with fail
      go_roundg (pats.length - (t+1))
      case measure=>omega
      case rel=>exact ⟨t+1,rfl,htl,by rw [HN.out]; rfl,by simp,hmx.trans hm2⟩
    ·obtain rfl:t=pats.length:=by omega
     have HROW:=hd_ (phrRow (ws:=wsQ wl) (pats:=pats) (i:=k) (by intro h; rw [h] at hp0; exact absurd hp0 (by decide)) (by rw [wsQ_len]; exact hin));rw [wsQ_len] at HROW;have hkW:k<wl.length:=(by omega)
     have HTK:Hid ((rowsQ wl.length (phrB (wsQ wl) pats)).take (k+1)=(rowsQ wl.length (phrB (wsQ wl) pats)).take k ++ [rowQ wl.length (phrB (wsQ wl) pats k)]):=hd_ (by
      rw [List.take_succ_eq_append_getElem (by rw [rowsQ_len]; exact hkW),rowsQ_at])
     have HX:=hd_ hmx;clear hmx;have HO2:=hd_ (HO.out.mod HX.out (fun h=>h));have HR2:=hd_ (HR.out.pure HX.out);have HM2:=hd_ (HM.out.trans HX.out)
     cases hb:phrN (wsQ wl) pats k pats.length
     ·have HRN:Hid (rowQ wl.length (phrB (wsQ wl) pats k)=[]):=hd_ (by rw [HROW.out,hb]; rfl);go_wp2_with fail
      go_roundg (wl.length+1 - pats.length - (k+1))
      case measure=>omega
      case rel =>
       refine ⟨k+1,us ++ [Value.slice none 0 0],rfl,by omega,by omega,by simp,by simp [HU.out],HO2.out.skip (by rw [HU.out]; exact hkW),?_,HM2.out⟩;rw [HTK.out,HRN.out];exact HR2.out.snoc (nilI (w:=wr)).1 (nilI (w:=wr)).2
     ·have HRN:Hid (rowQ wl.length (phrB (wsQ wl) pats k)=[k+pats.length - 1]):=hd_ (by rw [HROW.out,hb]; rfl);have xa:=fun o=>((HO2.out.mod (pure_alloc wr o) (fun h=>h)).cellk HU.out.symm (by rw [HU.out]; exact hkW)).1;have xb:=fun o=>((HO2.out.mod (pure_alloc wr o) (fun h=>h)).cellk HU.out.symm (by rw [HU.out]; exact hkW)).2;go_wp2_with fail
      go_roundg (wl.length+1 - pats.length - (k+1))
      case measure=>omega
      case rel =>
       have hA:=HO2.out.mod (pure_alloc wr (.cells #[.int .i64 ((k:Int)+(pats.length:Int) - 1)] 3)) (fun h=>h)
       have hone:Sl (wr.alloc (.cells #[.int .i64 ((k:Int)+(pats.length:Int) - 1)] 3)) 3 1 (.slice (some ⟨wr.heap.size,0,none⟩) 1 1) (nvQ [k+pats.length - 1]):=by
        have hn:=Blk.new wr 3 #[.int .i64 ((k:Int)+(pats.length:Int) - 1)]
        have e:nvQ [k+pats.length - 1]=[Value.int .i64 ((k:Int)+(pats.length:Int) - 1)]:=by
         show [Value.int .i64 ((k+pats.length - 1:Nat):Int)]=_
         rw [show ((k+pats.length - 1:Nat):Int)=(k:Int)+(pats.length:Int) - 1 by omega]
        rw [e];exact ⟨_,_,_,rfl,Nat.le_refl _,by omega,rfl,fun _=>⟨_,0,rfl,hn.row0⟩⟩
       refine ⟨k+1,us ++ [Value.slice (some ⟨wr.heap.size,0,none⟩) 1 1],rfl,by omega,by omega,by simp,by simp [HU.out],hA.snoc HU.out.symm (by rw [HU.out]; exact hkW) _,?_,(HM2.out.trans (pure_alloc _ _)).setCell (.inr (by show w.heap.size≤g; omega)) _⟩;rw [HTK.out,HRN.out];exact ((HR2.out.pure (pure_alloc _ _)).set hA (by decide) _ _).snoc (hone.set_ne hA (by decide) _) (fun n c h=>by cases h)
theorem RnP.up {w w1:World} {W:Nat} {F:Nat→Nat→Bool} {e:Ending} {w':World} (h:RnP w1 W F e w') (hm:Pure w w1):RnP w W F e w':=by
 obtain ⟨v,h1,h2,h3⟩:=h;exact ⟨v,h1,h2,hm.trans h3⟩
theorem plc_word {ws:List Str} {k n:Int} {pats:List Str} {xs:List Qry} (hk:k=2∨k=3):plcQ ws (.mk k pats n xs)=phrB ws pats:=by
 rw [plcQ]
 funext i j
 unfold plcK
 rcases hk with rfl | rfl <;> rfl
theorem plc_near {ws:List Str} {n:Int} {pats:List Str} {a b:Qry}:plcQ ws (.mk 4 pats n [a,b])=fun i j=>cutB (plcQ ws a) (plcQ ws b) n ws.length i j || cutB (plcQ ws b) (plcQ ws a) n ws.length i j:=by
 rw [plcQ]
 rfl
theorem placesW_calls (w:World) (vw:Value) (wl:List Wd) (k n:Int) (A B:Option Addr) (c d:Nat) (pats:List Str) (xs:List QR) (hk:k=2∨k=3) (hQ:QS w (.mk k A c pats n B d xs)) (hw:Wds w vw wl) (hp0:1≤pats.length) (hp1:pats.length≤1000) (hpl:∀ x∈pats,x.length≤1000000) (hW:wl.length≤1000) (hwl:∀ x∈wl,x.2.length≤1000000) :
  Calls Tryz.prog 156 #[qA (.mk k A c pats n B d xs),vw] w (RnP w wl.length (plcQ (wsQ wl) (QR.mk k A c pats n B d xs).key)):=by
 rw [QR.key_mk,plc_word hk,qA_mk];have hm:Pure w (w.alloc (.cells #[.int .i64 k,.slice A pats.length c,.int .i64 n,.slice B xs.length d] 29)):=(Mod.refl _ _).alloc _;have HP:=hd_ (phraseQ_calls (w.alloc (.cells #[.int .i64 k,.slice A pats.length c,.int .i64 n,.slice B xs.length d] 29)) (.slice A pats.length c) vw pats wl (hQ.wsH.pure hm) (hw.pure hm) hp0 hp1 hpl hW hwl);have HM:=hd_ hm;have hb:=Blk.new w 29 #[.int .i64 k,.slice A pats.length c,.int .i64 n,.slice B xs.length d];obtain ⟨x0,x1,x2,x3⟩:=hb.c4
 have h5:(k == 5)=false:=by rcases hk with rfl | rfl <;> rfl
 have h4:(k == 4)=false:=by rcases hk with rfl | rfl <;> rfl
 have h7:(k == 7)=false:=by rcases hk with rfl | rfl <;> rfl
 clear hQ hw hpl hwl hm hb hk
 go_enter Tryz.func156,Tryz.ntmps156
 go_wp2_with fail;refine HP.out.mono ?_;rintro e w2 ⟨v,rfl,hs,hm2⟩;have HS:=hd_ hs;have HM2:=hd_ (HM.out.trans hm2);clear hs hm2 HP;go_wp2_with fail;go_ret;exact ⟨v,rfl,HS.out,HM2.out⟩
theorem placesN_calls (w:World) (vw:Value) (wl:List Wd) (n:Int) (A B:Option Addr) (c d:Nat) (ws:List Str) (a1 a2:QR) (hQ:QS w (.mk 4 A c ws n B d [a1,a2])) (hW:wl.length≤1000) (hn0:0≤n) (hn1:n≤20)
  (h1:∀ W,Pure w W→Calls Tryz.prog 156 #[qA a1,vw] W (RnP W wl.length (plcQ (wsQ wl) a1.key))) (h2:∀ W,Pure w W→Calls Tryz.prog 156 #[qA a2,vw] W (RnP W wl.length (plcQ (wsQ wl) a2.key))) :
  Calls Tryz.prog 156 #[qA (.mk 4 A c ws n B d [a1,a2]),vw] w (RnP w wl.length (plcQ (wsQ wl) (QR.mk 4 A c ws n B d [a1,a2]).key)):=by
 rw [QR.key_mk,show [a1,a2].map QR.key=[a1.key,a2.key] from rfl,plc_near,qA_mk,wsQ_len];generalize plcQ (wsQ wl) a1.key=F1 at *;generalize plcQ (wsQ wl) a2.key=F2 at *;obtain ⟨k1,A1,c1,ws1,n1,B1,d1,xs1⟩:=a1;obtain ⟨k2,A2,c2,ws2,n2,B2,d2,xs2⟩:=a2;obtain ⟨gB,oB,hBe,p0,p1,p2,p3⟩:=qcells hQ.xsH (show 0<2 by decide) rfl;obtain ⟨gB',oB',hBe',r0,r1,r2,r3⟩:=qcells hQ.xsH (show 1<2 by decide) rfl;rw [hBe] at hBe'
 injection hBe' with hBe'
 injection hBe' with e1 e2
 subst e1 e2 hBe;have hle:∃ m,m=([QR.mk k1 A1 c1 ws1 n1 B1 d1 xs1,QR.mk k2 A2 c2 ws2 n2 B2 d2 xs2]:List QR).length:=⟨_,rfl⟩
 have hd2:2≤d∧d≤9223372036854775807:=by
  obtain ⟨_,_,_,e,h1,h2,_⟩:=hQ.xsH
  cases e
  exact ⟨h1,h2⟩
 simp only [Nat.zero_mul,Nat.one_mul,Nat.add_zero] at p0 p1 p2 p3 r0 r1 r2 r3;have hm:Pure w (w.alloc (.cells #[.int .i64 4,.slice A ws.length c,.int .i64 n,.slice (some ⟨gB,oB,none⟩) 2 d] 29)):=(Mod.refl _ _).alloc _;have HM:=hd_ hm;have hb:=Blk.new w 29 #[.int .i64 4,.slice A ws.length c,.int .i64 n,.slice (some ⟨gB,oB,none⟩) 2 d];have HB:=hd_ hb;have HC:Hid (CellQ w gB oB (.int .i64 k1)∧CellQ w gB (oB+1) (.slice A1 ws1.length c1)∧CellQ w gB (oB+2) (.int .i64 n1)∧CellQ w gB (oB+3) (.slice B1 xs1.length d1)∧CellQ w gB (oB+4) (.int .i64 k2)∧CellQ w gB (oB+4+1) (.slice A2 ws2.length c2)∧CellQ w gB (oB+4+2) (.int .i64 n2)∧CellQ w gB (oB+4+3) (.slice B2 xs2.length d2)):=hd_ ⟨p0,p1,p2,p3,r0,r1,r2,r3⟩;have H1:=hd_ h1;have H2:=hd_ h2;simp only [qA_mk] at H1 H2;obtain ⟨x0,x1,x2,x3⟩:=hb.c4;clear hQ hm hb h1 h2 p0 p1 p2 p3 r0 r1 r2 r3 hle
 go_enter Tryz.func156,Tryz.ntmps156
 go_upto_region 5 with (fail);generalize (w.alloc (.cells #[.int .i64 4,.slice A ws.length c,.int .i64 n,.slice (some ⟨gB,oB,none⟩) 2 d] 29))=w1 at *;generalize w.heap.size=gb at *;have HC1:=hd_ (show _∧_∧_∧_∧_∧_∧_∧_ from ⟨HC.out.1.pure HM.out,HC.out.2.1.pure HM.out,HC.out.2.2.1.pure HM.out,HC.out.2.2.2.1.pure HM.out,HC.out.2.2.2.2.1.pure HM.out,HC.out.2.2.2.2.2.1.pure HM.out,HC.out.2.2.2.2.2.2.1.pure HM.out,HC.out.2.2.2.2.2.2.2.pure HM.out⟩);clear HC x0 x1 x2 x3;have HGs:=hd_ (show KeepG (fun Z=>Blk Z gb 29 #[.int .i64 4,.slice A ws.length c,.int .i64 n,.slice (some ⟨gB,oB,none⟩) 2 d]∧CellQ Z gB oB (.int .i64 k1)∧CellQ Z gB (oB+1) (.slice A1 ws1.length c1)∧CellQ Z gB (oB+2) (.int .i64 n1)∧CellQ Z gB (oB+3) (.slice B1 xs1.length d1)∧CellQ Z gB (oB+4) (.int .i64 k2)∧CellQ Z gB (oB+4+1) (.slice A2 ws2.length c2)∧CellQ Z gB (oB+4+2) (.int .i64 n2)∧CellQ Z gB (oB+4+3) (.slice B2 xs2.length d2)) from fun D zzi zq zq' h hm=>by (exact ⟨h.1.modp hm,h.2.1.pure hm,h.2.2.1.pure hm,h.2.2.2.1.pure hm,h.2.2.2.2.1.pure hm,h.2.2.2.2.2.1.pure hm,h.2.2.2.2.2.2.1.pure hm,h.2.2.2.2.2.2.2.1.pure hm,h.2.2.2.2.2.2.2.2.pure hm⟩))
 refine wp_region_inv (by kernel_rfl) (by kernel_rfl) (InvF (R:=Mod (fun _=>False)) [.is (.pointer (some ⟨gb,3,none⟩)),.is (.slice (some ⟨gB,oB,none⟩) 2 d),.is (.pointer (some ⟨gB,oB,none⟩)),.is (.agg #[.int .i64 k1,.slice A1 ws1.length c1,.int .i64 n1,.slice B1 xs1.length d1]),.is (vw),⟨fun zv zw=>∃ (v_5:Value),zv=v_5∧SlI zw v_5 (rowsQ wl.length F1),(by rintro zv zw zx ⟨v_5,hze,q0⟩ hm; exact ⟨v_5,hze,(q0.pure hm)⟩),none,none⟩,.is (.pointer (some ⟨gb,3,none⟩)),.is (.slice (some ⟨gB,oB,none⟩) 2 d),.is (.pointer (some ⟨gB,oB+4,none⟩)),.is (.agg #[.int .i64 k2,.slice A2 ws2.length c2,.int .i64 n2,.slice B2 xs2.length d2]),.is (vw),⟨fun zv zw=>∃ (v_11:Value),zv=v_11∧SlI zw v_11 (rowsQ wl.length F2),(by rintro zv zw zx ⟨v_11,hze,q0⟩ hm; exact ⟨v_11,hze,(q0.pure hm)⟩),none,none⟩,⟨fun zv zw=>∃ (v_12:Value),zv=v_12∧SlI zw v_12 (rowsQ wl.length F1),(by rintro zv zw zx ⟨v_12,hze,q0⟩ hm; exact ⟨v_12,hze,(q0.pure hm)⟩),none,none⟩,⟨fun zv zw=>∃ (v_13:Value),zv=v_13∧SlI zw v_13 (rowsQ wl.length F2),(by rintro zv zw zx ⟨v_13,hze,q0⟩ hm; exact ⟨v_13,hze,(q0.pure hm)⟩),none,none⟩]
   (PB w1 (fun _=>False) w1.heap.size (fun _=>(fun Z=>Blk Z gb 29 #[.int .i64 4,.slice A ws.length c,.int .i64 n,.slice (some ⟨gB,oB,none⟩) 2 d]∧CellQ Z gB oB (.int .i64 k1)∧CellQ Z gB (oB+1) (.slice A1 ws1.length c1)∧CellQ Z gB (oB+2) (.int .i64 n1)∧CellQ Z gB (oB+3) (.slice B1 xs1.length d1)∧CellQ Z gB (oB+4) (.int .i64 k2)∧CellQ Z gB (oB+4+1) (.slice A2 ws2.length c2)∧CellQ Z gB (oB+4+2) (.int .i64 n2)∧CellQ Z gB (oB+4+3) (.slice B2 xs2.length d2))))) (InvF.start (PB.start (Mod.refl _ _) (Nat.le_refl _) (⟨HB.out.drew,HC1.out⟩))) ?_ ?_
 ·iterate 14 (refine .cons ?_ ?_; rotate_left)
  exact .nil
  all_goals intro D V zw1 a hR hI K hK
  all_goals try rw [if_pos (by rfl)]
  have ze2:=hR.ot 2;rotate_left;have hG1:=hI.1.g;obtain ⟨hG1b,hG10,hG11,hG12,hG13,hG14,hG15,hG16,hG17⟩:=hG1;have ze31:=hI.tm hR 31 0;have zx3:=(hG1b).cell 3; have zy3:=(hG1b).frozen 3; simp at zx3;rotate_left;have ze32:=hI.tm hR 32 1;rotate_left;have hG1:=hI.1.g;obtain ⟨hG1b,hG10,hG11,hG12,hG13,hG14,hG15,hG16,hG17⟩:=hG1;have ze33:=hI.tm hR 33 2;unfold CellQ at hG10 hG11 hG12 hG13;rotate_left;have ze1:=hR.ot 1;rotate_left
  ·have hM1:=hI.1.mod;have hB1:=hI.1.big;have hG1:=hI.1.g;obtain ⟨hG1b,hG10,hG11,hG12,hG13,hG14,hG15,hG16,hG17⟩:=hG1;have ze34:=hI.tm hR 34 3;have ze35:=hI.tm hR 35 4;go_simp;refine (H1.out zw1 (HM.out.trans hM1)).mono ?_;rintro e zw2 ⟨v_0,rfl,hq,hm2⟩;exact hK (v_0) _ (hI.next hR (by kernel_rfl) hm2 (PB.quiet hI.1 hm2 (HGs.out D 5 _ _ (hI.1).g hm2)) (⟨v_0,upd_same V 5 _,hq⟩))
  have ze2:=hR.ot 2;rotate_left;have hG1:=hI.1.g;obtain ⟨hG1b,hG10,hG11,hG12,hG13,hG14,hG15,hG16,hG17⟩:=hG1;have ze37:=hI.tm hR 37 6;have zx3:=(hG1b).cell 3; have zy3:=(hG1b).frozen 3; simp at zx3;rotate_left;have ze38:=hI.tm hR 38 7;rotate_left;have hG1:=hI.1.g;obtain ⟨hG1b,hG10,hG11,hG12,hG13,hG14,hG15,hG16,hG17⟩:=hG1;have ze39:=hI.tm hR 39 8;unfold CellQ at hG14 hG15 hG16 hG17;rotate_left;have ze1:=hR.ot 1;rotate_left
  ·have hM1:=hI.1.mod;have hB1:=hI.1.big;have hG1:=hI.1.g;obtain ⟨hG1b,hG10,hG11,hG12,hG13,hG14,hG15,hG16,hG17⟩:=hG1;have ze40:=hI.tm hR 40 9;have ze41:=hI.tm hR 41 10;go_simp;refine (H2.out zw1 (HM.out.trans hM1)).mono ?_;rintro e zw2 ⟨v_0,rfl,hq,hm2⟩;exact hK (v_0) _ (hI.next hR (by kernel_rfl) hm2 (PB.quiet hI.1 hm2 (HGs.out D 11 _ _ (hI.1).g hm2)) (⟨v_0,upd_same V 11 _,hq⟩))
  ·have hM1:=hI.1.mod;have hB1:=hI.1.big;have hG1:=hI.1.g;obtain ⟨hG1b,hG10,hG11,hG12,hG13,hG14,hG15,hG16,hG17⟩:=hG1;have zd5:=hR.pred 5 (by kernel_rfl);have zF5:∃ (v_5:Value),V 5=v_5∧SlI zw1 v_5 (rowsQ wl.length F1):=hI.2 5 zd5 rfl;obtain ⟨v_5,zf5,b5_0⟩:=zF5;have ze36:=hR.frame.done (t:=36) (j:=5) (by kernel_rfl) hR.ok zd5;go_simp;exact hK (v_5) _ (hI.next hR (by kernel_rfl) (Mod.refl _ _) (PB.quiet hI.1 (Mod.refl _ _) (HGs.out D 12 zw1 zw1 (hI.1).g (Mod.refl _ _))) (⟨v_5,upd_same V 12 _,b5_0⟩))
  ·have hM1:=hI.1.mod;have hB1:=hI.1.big;have hG1:=hI.1.g;obtain ⟨hG1b,hG10,hG11,hG12,hG13,hG14,hG15,hG16,hG17⟩:=hG1;have zd11:=hR.pred 11 (by kernel_rfl);have zF11:∃ (v_11:Value),V 11=v_11∧SlI zw1 v_11 (rowsQ wl.length F2):=hI.2 11 zd11 rfl;obtain ⟨v_11,zf11,b11_0⟩:=zF11;have ze42:=hR.frame.done (t:=42) (j:=11) (by kernel_rfl) hR.ok zd11;go_simp;exact hK (v_11) _ (hI.next hR (by kernel_rfl) (Mod.refl _ _) (PB.quiet hI.1 (Mod.refl _ _) (HGs.out D 13 zw1 zw1 (hI.1).g (Mod.refl _ _))) (⟨v_11,upd_same V 13 _,b11_0⟩))
  all_goals (go_simp; exact hK _ _ (hI.nq hR HGs.out rfl))
 ·intro D V w2 hD hI;obtain ⟨hMx,hBx,hGx⟩:=hI.1;have zf0:=hI.eqA hD 0;have zf1:=hI.eqA hD 1;have zf2:=hI.eqA hD 2;have zf3:=hI.eqA hD 3;have zf4:=hI.eqA hD 4;have zF5:∃ (v_5:Value),V 5=v_5∧SlI w2 v_5 (rowsQ wl.length F1):=hI.2 5 (hD 5 (by decide)) rfl;obtain ⟨v_5,zf5,b5_0⟩:=zF5;have zf6:=hI.eqA hD 6;have zf7:=hI.eqA hD 7;have zf8:=hI.eqA hD 8;have zf9:=hI.eqA hD 9;have zf10:=hI.eqA hD 10;have zF11:∃ (v_11:Value),V 11=v_11∧SlI w2 v_11 (rowsQ wl.length F2):=hI.2 11 (hD 11 (by decide)) rfl;obtain ⟨v_11,zf11,b11_0⟩:=zF11;have zF12:∃ (v_12:Value),V 12=v_12∧SlI w2 v_12 (rowsQ wl.length F1):=hI.2 12 (hD 12 (by decide)) rfl;obtain ⟨v_12,zf12,b12_0⟩:=zF12;have zF13:∃ (v_13:Value),V 13=v_13∧SlI w2 v_13 (rowsQ wl.length F2):=hI.2 13 (hD 13 (by decide)) rfl;obtain ⟨v_13,zf13,b13_0⟩:=zF13;clear hI hD HGs;simp only [frAll,Act.put,List.setIfInBounds_toArray,List.set_cons_zero,List.set_cons_succ,Nat.zero_add,Nat.reduceAdd,zf0,zf1,zf2,zf3,zf4,zf5,zf6,zf7,zf8,zf9,zf10,zf11,zf12,zf13];clear zf0 zf1 zf2 zf3 zf4 zf5 zf6 zf7 zf8 zf9 zf10 zf11 zf12 zf13;clear V D;have HBX:=hd_ hGx.1;have HS1:=hd_ b12_0;have HS2:=hd_ b13_0;have HMX:=hd_ (HM.out.trans hMx);clear hGx hMx b12_0 b13_0 b5_0 b11_0 H1 H2 HC1 HB;generalize v_12=p1 at *;generalize v_13=p2 at *;go_upto_region 6 with (fail);have HGs:=hd_ (show KeepG (fun Z=>Blk Z gb 29 #[.int .i64 4,.slice A ws.length c,.int .i64 n,.slice (some ⟨gB,oB,none⟩) 2 d]∧SlI Z p1 (rowsQ wl.length F1)∧SlI Z p2 (rowsQ wl.length F2)) from fun D zzi zq zq' h hm=>by (exact ⟨h.1.modp hm,h.2.1.pure hm,h.2.2.pure hm⟩))
  refine wp_region_inv (by kernel_rfl) (by kernel_rfl) (InvF (R:=Mod (fun _=>False)) [.is (p1),.is (p2),.is (.pointer (some ⟨gb,2,none⟩)),.is (.int .i64 n),⟨fun zv zw=>∃ (v_4:Value),zv=v_4∧SlI zw v_4 (rowsQ wl.length (cutB F1 F2 n wl.length)),(by rintro zv zw zx ⟨v_4,hze,q0⟩ hm; exact ⟨v_4,hze,(q0.pure hm)⟩),none,none⟩,.is (p2),.is (p1),.is (.pointer (some ⟨gb,2,none⟩)),.is (.int .i64 n),⟨fun zv zw=>∃ (v_9:Value),zv=v_9∧SlI zw v_9 (rowsQ wl.length (cutB F2 F1 n wl.length)),(by rintro zv zw zx ⟨v_9,hze,q0⟩ hm; exact ⟨v_9,hze,(q0.pure hm)⟩),none,none⟩,⟨fun zv zw=>∃ (v_10:Value),zv=v_10∧SlI zw v_10 (rowsQ wl.length (fun i j=>cutB F1 F2 n wl.length i j || cutB F2 F1 n wl.length i j)),(by rintro zv zw zx ⟨v_10,hze,q0⟩ hm; exact ⟨v_10,hze,(q0.pure hm)⟩),none,none⟩,⟨fun zv zw=>∃ (v_11:Value),zv=v_11∧SlI zw v_11 (rowsQ wl.length (fun i j=>cutB F1 F2 n wl.length i j || cutB F2 F1 n wl.length i j)),(by rintro zv zw zx ⟨v_11,hze,q0⟩ hm; exact ⟨v_11,hze,(q0.pure hm)⟩),none,none⟩]
    (PB w2 (fun _=>False) w2.heap.size (fun _=>(fun Z=>Blk Z gb 29 #[.int .i64 4,.slice A ws.length c,.int .i64 n,.slice (some ⟨gB,oB,none⟩) 2 d]∧SlI Z p1 (rowsQ wl.length F1)∧SlI Z p2 (rowsQ wl.length F2))))) (InvF.start (PB.start (Mod.refl _ _) (Nat.le_refl _) (⟨HBX.out.drew,HS1.out.pure ((Mod.refl _ _).drew),HS2.out.pure ((Mod.refl _ _).drew)⟩))) ?_ ?_
  ·iterate 12 (refine .cons ?_ ?_; rotate_left)
   exact .nil
   all_goals intro D V zw1 a hR hI K hK
   all_goals try rw [if_pos (by rfl)]
   have ze5:=hR.ot 5;rotate_left;have ze6:=hR.ot 6;rotate_left;have ze2:=hR.ot 2;rotate_left;have hG1:=hI.1.g;obtain ⟨hG1b,hG1c,hG1d⟩:=hG1;have ze45:=hI.tm hR 45 2;have zx2:=(hG1b).cell 2; have zy2:=(hG1b).frozen 2; simp at zx2;rotate_left
   ·have hM1:=hI.1.mod;have hB1:=hI.1.big;have hG1:=hI.1.g;obtain ⟨hG1b,hG1c,hG1d⟩:=hG1;have ze43:=hI.tm hR 43 0;have ze44:=hI.tm hR 44 1;have ze46:=hI.tm hR 46 3;go_simp;refine (ahead_calls zw1 p1 p2 wl.length F1 F2 n hG1c hG1d hW hn0 hn1).mono ?_;rintro e zw2 ⟨v_0,rfl,hq,hm2⟩;exact hK (v_0) _ (hI.next hR (by kernel_rfl) hm2 (PB.quiet hI.1 hm2 (HGs.out D 4 _ _ (hI.1).g hm2)) (⟨v_0,upd_same V 4 _,hq⟩))
   have ze6:=hR.ot 6;rotate_left;have ze5:=hR.ot 5;rotate_left;have ze2:=hR.ot 2;rotate_left;have hG1:=hI.1.g;obtain ⟨hG1b,hG1c,hG1d⟩:=hG1;have ze50:=hI.tm hR 50 7;have zx2:=(hG1b).cell 2; have zy2:=(hG1b).frozen 2; simp at zx2;rotate_left
   ·have hM1:=hI.1.mod;have hB1:=hI.1.big;have hG1:=hI.1.g;obtain ⟨hG1b,hG1c,hG1d⟩:=hG1;have ze48:=hI.tm hR 48 5;have ze49:=hI.tm hR 49 6;have ze51:=hI.tm hR 51 8;go_simp;refine (ahead_calls zw1 p2 p1 wl.length F2 F1 n hG1d hG1c hW hn0 hn1).mono ?_;rintro e zw2 ⟨v_0,rfl,hq,hm2⟩;exact hK (v_0) _ (hI.next hR (by kernel_rfl) hm2 (PB.quiet hI.1 hm2 (HGs.out D 9 _ _ (hI.1).g hm2)) (⟨v_0,upd_same V 9 _,hq⟩))
   ·have hM1:=hI.1.mod;have hB1:=hI.1.big;have hG1:=hI.1.g;obtain ⟨hG1b,hG1c,hG1d⟩:=hG1;have zd4:=hR.pred 4 (by kernel_rfl);have zF4:∃ (v_4:Value),V 4=v_4∧SlI zw1 v_4 (rowsQ wl.length (cutB F1 F2 n wl.length)):=hI.2 4 zd4 rfl;obtain ⟨v_4,zf4,b4_0⟩:=zF4;have zd9:=hR.pred 9 (by kernel_rfl);have zF9:∃ (v_9:Value),V 9=v_9∧SlI zw1 v_9 (rowsQ wl.length (cutB F2 F1 n wl.length)):=hI.2 9 zd9 rfl;obtain ⟨v_9,zf9,b9_0⟩:=zF9;have ze47:=hR.frame.done (t:=47) (j:=4) (by kernel_rfl) hR.ok zd4;have ze52:=hR.frame.done (t:=52) (j:=9) (by kernel_rfl) hR.ok zd9;go_simp;refine (both_calls zw1 v_4 v_9 wl.length (cutB F1 F2 n wl.length) (cutB F2 F1 n wl.length) b4_0 b9_0 hW).mono ?_;rintro e zw2 ⟨v_0,rfl,hq,hm2⟩;exact hK (v_0) _ (hI.next hR (by kernel_rfl) hm2 (PB.quiet hI.1 hm2 (HGs.out D 10 _ _ (hI.1).g hm2)) (⟨v_0,upd_same V 10 _,hq⟩))
   ·have hM1:=hI.1.mod;have hB1:=hI.1.big;have hG1:=hI.1.g;obtain ⟨hG1b,hG1c,hG1d⟩:=hG1;have zd10:=hR.pred 10 (by kernel_rfl);have zF10:∃ (v_10:Value),V 10=v_10∧SlI zw1 v_10 (rowsQ wl.length (fun i j=>cutB F1 F2 n wl.length i j || cutB F2 F1 n wl.length i j)):=hI.2 10 zd10 rfl;obtain ⟨v_10,zf10,b10_0⟩:=zF10;have ze53:=hR.frame.done (t:=53) (j:=10) (by kernel_rfl) hR.ok zd10;go_simp;exact hK (v_10) _ (hI.next hR (by kernel_rfl) (Mod.refl _ _) (PB.quiet hI.1 (Mod.refl _ _) (HGs.out D 11 zw1 zw1 (hI.1).g (Mod.refl _ _))) (⟨v_10,upd_same V 11 _,b10_0⟩))
   all_goals (go_simp; exact hK _ _ (hI.nq hR HGs.out rfl))
  ·intro D V w3 hD hI;obtain ⟨hMx,hBx,hGx⟩:=hI.1;have zf0:=hI.eqA hD 0;have zf1:=hI.eqA hD 1;have zf2:=hI.eqA hD 2;have zf3:=hI.eqA hD 3;have zF4:∃ (v_4:Value),V 4=v_4∧SlI w3 v_4 (rowsQ wl.length (cutB F1 F2 n wl.length)):=hI.2 4 (hD 4 (by decide)) rfl;obtain ⟨v_4,zf4,b4_0⟩:=zF4;have zf5:=hI.eqA hD 5;have zf6:=hI.eqA hD 6;have zf7:=hI.eqA hD 7;have zf8:=hI.eqA hD 8;have zF9:∃ (v_9:Value),V 9=v_9∧SlI w3 v_9 (rowsQ wl.length (cutB F2 F1 n wl.length)):=hI.2 9 (hD 9 (by decide)) rfl;obtain ⟨v_9,zf9,b9_0⟩:=zF9;have zF10:∃ (v_10:Value),V 10=v_10∧SlI w3 v_10 (rowsQ wl.length (fun i j=>cutB F1 F2 n wl.length i j || cutB F2 F1 n wl.length i j)):=hI.2 10 (hD 10 (by decide)) rfl;obtain ⟨v_10,zf10,b10_0⟩:=zF10;have zF11:∃ (v_11:Value),V 11=v_11∧SlI w3 v_11 (rowsQ wl.length (fun i j=>cutB F1 F2 n wl.length i j || cutB F2 F1 n wl.length i j)):=hI.2 11 (hD 11 (by decide)) rfl;obtain ⟨v_11,zf11,b11_0⟩:=zF11;clear hI hD HGs;simp only [frAll,Act.put,List.setIfInBounds_toArray,List.set_cons_zero,List.set_cons_succ,Nat.zero_add,Nat.reduceAdd,zf0,zf1,zf2,zf3,zf4,zf5,zf6,zf7,zf8,zf9,zf10,zf11];clear zf0 zf1 zf2 zf3 zf4 zf5 zf6 zf7 zf8 zf9 zf10 zf11;clear V D;have HR:=hd_ b11_0;have HME:=hd_ (HMX.out.trans hMx);clear hGx hMx b4_0 b9_0 b10_0 b11_0 HS1 HS2 HBX;go_wp2_with fail;go_ret;exact ⟨_,rfl,HR.out,HME.out⟩
theorem plc_pre {ws:List Str} {n:Int} {pats:List Str} {a b:Qry}:plcQ ws (.mk 5 pats n [a,b])=fun i j=>cutB (plcQ ws a) (plcQ ws b) n ws.length i j:=by
 rw [plcQ]
 rfl
theorem plc_or {ws:List Str} {n:Int} {pats:List Str} {xs:List Qry}:plcQ ws (.mk 7 pats n xs)=fun i j=>(xs.map (plcQ ws)).any (fun f=>f i j):=by
 rw [plcQ]
 rfl
def orB (fs:List (Nat→Nat→Bool)) (t:Nat) (i j:Nat):Bool:=(fs.take t).any (fun f=>f i j)
theorem orB_succ {fs:List (Nat→Nat→Bool)} {t:Nat} (h:t<fs.length):orB fs (t+1)=fun i j=>orB fs t i j || fs[t] i j:=by
 funext i j
 unfold orB;rw [List.take_succ_eq_append_getElem h,List.any_append];simp
theorem orB_all (fs:List (Nat→Nat→Bool)):orB fs fs.length=fun i j=>fs.any (fun f=>f i j):=by
 funext i j
 unfold orB;rw [List.take_length]
theorem placesP_calls (w:World) (vw:Value) (wl:List Wd) (n:Int) (A B:Option Addr) (c d:Nat) (ws:List Str) (a1 a2:QR) (hQ:QS w (.mk 5 A c ws n B d [a1,a2])) (hW:wl.length≤1000) (hn0:0≤n) (hn1:n≤20)
  (h1:∀ W,Pure w W→Calls Tryz.prog 156 #[qA a1,vw] W (RnP W wl.length (plcQ (wsQ wl) a1.key))) (h2:∀ W,Pure w W→Calls Tryz.prog 156 #[qA a2,vw] W (RnP W wl.length (plcQ (wsQ wl) a2.key))) :
  Calls Tryz.prog 156 #[qA (.mk 5 A c ws n B d [a1,a2]),vw] w (RnP w wl.length (plcQ (wsQ wl) (QR.mk 5 A c ws n B d [a1,a2]).key)):=by
 rw [QR.key_mk,show [a1,a2].map QR.key=[a1.key,a2.key] from rfl,plc_pre,qA_mk,wsQ_len];generalize plcQ (wsQ wl) a1.key=F1 at *;generalize plcQ (wsQ wl) a2.key=F2 at *;obtain ⟨k1,A1,c1,ws1,n1,B1,d1,xs1⟩:=a1;obtain ⟨k2,A2,c2,ws2,n2,B2,d2,xs2⟩:=a2;obtain ⟨gB,oB,hBe,p0,p1,p2,p3⟩:=qcells hQ.xsH (show 0<2 by decide) rfl;obtain ⟨gB',oB',hBe',r0,r1,r2,r3⟩:=qcells hQ.xsH (show 1<2 by decide) rfl;rw [hBe] at hBe'
 injection hBe' with hBe'
 injection hBe' with e1 e2
 subst e1 e2 hBe;have hle:∃ m,m=([QR.mk k1 A1 c1 ws1 n1 B1 d1 xs1,QR.mk k2 A2 c2 ws2 n2 B2 d2 xs2]:List QR).length:=⟨_,rfl⟩
 have hd2:2≤d∧d≤9223372036854775807:=by
  obtain ⟨_,_,_,e,h1,h2,_⟩:=hQ.xsH
  cases e
  exact ⟨h1,h2⟩
 simp only [Nat.zero_mul,Nat.one_mul,Nat.add_zero] at p0 p1 p2 p3 r0 r1 r2 r3;have hm:Pure w (w.alloc (.cells #[.int .i64 5,.slice A ws.length c,.int .i64 n,.slice (some ⟨gB,oB,none⟩) 2 d] 29)):=(Mod.refl _ _).alloc _;have HM:=hd_ hm;have hb:=Blk.new w 29 #[.int .i64 5,.slice A ws.length c,.int .i64 n,.slice (some ⟨gB,oB,none⟩) 2 d];have HB:=hd_ hb;have HC:Hid (CellQ w gB oB (.int .i64 k1)∧CellQ w gB (oB+1) (.slice A1 ws1.length c1)∧CellQ w gB (oB+2) (.int .i64 n1)∧CellQ w gB (oB+3) (.slice B1 xs1.length d1)∧CellQ w gB (oB+4) (.int .i64 k2)∧CellQ w gB (oB+4+1) (.slice A2 ws2.length c2)∧CellQ w gB (oB+4+2) (.int .i64 n2)∧CellQ w gB (oB+4+3) (.slice B2 xs2.length d2)):=hd_ ⟨p0,p1,p2,p3,r0,r1,r2,r3⟩;have H1:=hd_ h1;have H2:=hd_ h2;simp only [qA_mk] at H1 H2;obtain ⟨x0,x1,x2,x3⟩:=hb.c4;clear hQ hm hb h1 h2 p0 p1 p2 p3 r0 r1 r2 r3 hle
 go_enter Tryz.func156,Tryz.ntmps156
 go_upto_region 3 with (fail);generalize (w.alloc (.cells #[.int .i64 5,.slice A ws.length c,.int .i64 n,.slice (some ⟨gB,oB,none⟩) 2 d] 29))=w1 at *;generalize w.heap.size=gb at *;have HC1:=hd_ (show _∧_∧_∧_∧_∧_∧_∧_ from ⟨HC.out.1.pure HM.out,HC.out.2.1.pure HM.out,HC.out.2.2.1.pure HM.out,HC.out.2.2.2.1.pure HM.out,HC.out.2.2.2.2.1.pure HM.out,HC.out.2.2.2.2.2.1.pure HM.out,HC.out.2.2.2.2.2.2.1.pure HM.out,HC.out.2.2.2.2.2.2.2.pure HM.out⟩);clear HC x0 x1 x2 x3;have HGs:=hd_ (show KeepG (fun Z=>Blk Z gb 29 #[.int .i64 5,.slice A ws.length c,.int .i64 n,.slice (some ⟨gB,oB,none⟩) 2 d]∧CellQ Z gB oB (.int .i64 k1)∧CellQ Z gB (oB+1) (.slice A1 ws1.length c1)∧CellQ Z gB (oB+2) (.int .i64 n1)∧CellQ Z gB (oB+3) (.slice B1 xs1.length d1)∧CellQ Z gB (oB+4) (.int .i64 k2)∧CellQ Z gB (oB+4+1) (.slice A2 ws2.length c2)∧CellQ Z gB (oB+4+2) (.int .i64 n2)∧CellQ Z gB (oB+4+3) (.slice B2 xs2.length d2)) from fun D zzi zq zq' h hm=>by (exact ⟨h.1.modp hm,h.2.1.pure hm,h.2.2.1.pure hm,h.2.2.2.1.pure hm,h.2.2.2.2.1.pure hm,h.2.2.2.2.2.1.pure hm,h.2.2.2.2.2.2.1.pure hm,h.2.2.2.2.2.2.2.1.pure hm,h.2.2.2.2.2.2.2.2.pure hm⟩))
 refine wp_region_inv (by kernel_rfl) (by kernel_rfl) (InvF (R:=Mod (fun _=>False)) [.is (.pointer (some ⟨gb,3,none⟩)),.is (.slice (some ⟨gB,oB,none⟩) 2 d),.is (.pointer (some ⟨gB,oB,none⟩)),.is (.agg #[.int .i64 k1,.slice A1 ws1.length c1,.int .i64 n1,.slice B1 xs1.length d1]),.is (vw),⟨fun zv zw=>∃ (v_5:Value),zv=v_5∧SlI zw v_5 (rowsQ wl.length F1),(by rintro zv zw zx ⟨v_5,hze,q0⟩ hm; exact ⟨v_5,hze,(q0.pure hm)⟩),none,none⟩,.is (.pointer (some ⟨gb,3,none⟩)),.is (.slice (some ⟨gB,oB,none⟩) 2 d),.is (.pointer (some ⟨gB,oB+4,none⟩)),.is (.agg #[.int .i64 k2,.slice A2 ws2.length c2,.int .i64 n2,.slice B2 xs2.length d2]),.is (vw),⟨fun zv zw=>∃ (v_11:Value),zv=v_11∧SlI zw v_11 (rowsQ wl.length F2),(by rintro zv zw zx ⟨v_11,hze,q0⟩ hm; exact ⟨v_11,hze,(q0.pure hm)⟩),none,none⟩,.is (.pointer (some ⟨gb,2,none⟩)),.is (.int .i64 n),⟨fun zv zw=>∃ (v_14:Value),zv=v_14∧SlI zw v_14 (rowsQ wl.length (cutB F1 F2 n wl.length)),(by rintro zv zw zx ⟨v_14,hze,q0⟩ hm; exact ⟨v_14,hze,(q0.pure hm)⟩),none,none⟩,⟨fun zv zw=>∃ (v_15:Value),zv=v_15∧SlI zw v_15 (rowsQ wl.length (cutB F1 F2 n wl.length)),(by rintro zv zw zx ⟨v_15,hze,q0⟩ hm; exact ⟨v_15,hze,(q0.pure hm)⟩),none,none⟩]
   (PB w1 (fun _=>False) w1.heap.size (fun _=>(fun Z=>Blk Z gb 29 #[.int .i64 5,.slice A ws.length c,.int .i64 n,.slice (some ⟨gB,oB,none⟩) 2 d]∧CellQ Z gB oB (.int .i64 k1)∧CellQ Z gB (oB+1) (.slice A1 ws1.length c1)∧CellQ Z gB (oB+2) (.int .i64 n1)∧CellQ Z gB (oB+3) (.slice B1 xs1.length d1)∧CellQ Z gB (oB+4) (.int .i64 k2)∧CellQ Z gB (oB+4+1) (.slice A2 ws2.length c2)∧CellQ Z gB (oB+4+2) (.int .i64 n2)∧CellQ Z gB (oB+4+3) (.slice B2 xs2.length d2))))) (InvF.start (PB.start (Mod.refl _ _) (Nat.le_refl _) (⟨HB.out.drew,HC1.out⟩))) ?_ ?_
 ·iterate 16 (refine .cons ?_ ?_; rotate_left)
  exact .nil
  all_goals intro D V zw1 a hR hI K hK
  all_goals try rw [if_pos (by rfl)]
  have ze2:=hR.ot 2;rotate_left;have hG1:=hI.1.g;obtain ⟨hG1b,hG10,hG11,hG12,hG13,hG14,hG15,hG16,hG17⟩:=hG1;have ze14:=hI.tm hR 14 0;have zx3:=(hG1b).cell 3; have zy3:=(hG1b).frozen 3; simp at zx3;rotate_left;have ze15:=hI.tm hR 15 1;rotate_left;have hG1:=hI.1.g;obtain ⟨hG1b,hG10,hG11,hG12,hG13,hG14,hG15,hG16,hG17⟩:=hG1;have ze16:=hI.tm hR 16 2;unfold CellQ at hG10 hG11 hG12 hG13;rotate_left;have ze1:=hR.ot 1;rotate_left
  ·have hM1:=hI.1.mod;have hB1:=hI.1.big;have hG1:=hI.1.g;obtain ⟨hG1b,hG10,hG11,hG12,hG13,hG14,hG15,hG16,hG17⟩:=hG1;have ze17:=hI.tm hR 17 3;have ze18:=hI.tm hR 18 4;go_simp;refine (H1.out zw1 (HM.out.trans hM1)).mono ?_;rintro e zw2 ⟨v_0,rfl,hq,hm2⟩;exact hK (v_0) _ (hI.next hR (by kernel_rfl) hm2 (PB.quiet hI.1 hm2 (HGs.out D 5 _ _ (hI.1).g hm2)) (⟨v_0,upd_same V 5 _,hq⟩))
  have ze2:=hR.ot 2;rotate_left;have hG1:=hI.1.g;obtain ⟨hG1b,hG10,hG11,hG12,hG13,hG14,hG15,hG16,hG17⟩:=hG1;have ze20:=hI.tm hR 20 6;have zx3:=(hG1b).cell 3; have zy3:=(hG1b).frozen 3; simp at zx3;rotate_left;have ze21:=hI.tm hR 21 7;rotate_left;have hG1:=hI.1.g;obtain ⟨hG1b,hG10,hG11,hG12,hG13,hG14,hG15,hG16,hG17⟩:=hG1;have ze22:=hI.tm hR 22 8;unfold CellQ at hG14 hG15 hG16 hG17;rotate_left;have ze1:=hR.ot 1;rotate_left
  ·have hM1:=hI.1.mod;have hB1:=hI.1.big;have hG1:=hI.1.g;obtain ⟨hG1b,hG10,hG11,hG12,hG13,hG14,hG15,hG16,hG17⟩:=hG1;have ze23:=hI.tm hR 23 9;have ze24:=hI.tm hR 24 10;go_simp;refine (H2.out zw1 (HM.out.trans hM1)).mono ?_;rintro e zw2 ⟨v_0,rfl,hq,hm2⟩;exact hK (v_0) _ (hI.next hR (by kernel_rfl) hm2 (PB.quiet hI.1 hm2 (HGs.out D 11 _ _ (hI.1).g hm2)) (⟨v_0,upd_same V 11 _,hq⟩))
  have ze2:=hR.ot 2;rotate_left;have hG1:=hI.1.g;obtain ⟨hG1b,hG10,hG11,hG12,hG13,hG14,hG15,hG16,hG17⟩:=hG1;have ze26:=hI.tm hR 26 12;have zx2:=(hG1b).cell 2; have zy2:=(hG1b).frozen 2; simp at zx2;rotate_left
  ·have hM1:=hI.1.mod;have hB1:=hI.1.big;have hG1:=hI.1.g;obtain ⟨hG1b,hG10,hG11,hG12,hG13,hG14,hG15,hG16,hG17⟩:=hG1;have zd5:=hR.pred 5 (by kernel_rfl);have zF5:∃ (v_5:Value),V 5=v_5∧SlI zw1 v_5 (rowsQ wl.length F1):=hI.2 5 zd5 rfl;obtain ⟨v_5,zf5,b5_0⟩:=zF5;have zd11:=hR.pred 11 (by kernel_rfl);have zF11:∃ (v_11:Value),V 11=v_11∧SlI zw1 v_11 (rowsQ wl.length F2):=hI.2 11 zd11 rfl;obtain ⟨v_11,zf11,b11_0⟩:=zF11;have ze19:=hR.frame.done (t:=19) (j:=5) (by kernel_rfl) hR.ok zd5;have ze25:=hR.frame.done (t:=25) (j:=11) (by kernel_rfl) hR.ok zd11;have ze27:=hI.tm hR 27 13;go_simp;refine (ahead_calls zw1 v_5 v_11 wl.length F1 F2 n b5_0 b11_0 hW hn0 hn1).mono ?_;rintro e zw2 ⟨v_0,rfl,hq,hm2⟩;exact hK (v_0) _ (hI.next hR (by kernel_rfl) hm2 (PB.quiet hI.1 hm2 (HGs.out D 14 _ _ (hI.1).g hm2)) (⟨v_0,upd_same V 14 _,hq⟩))
  ·have hM1:=hI.1.mod;have hB1:=hI.1.big;have hG1:=hI.1.g;obtain ⟨hG1b,hG10,hG11,hG12,hG13,hG14,hG15,hG16,hG17⟩:=hG1;have zd14:=hR.pred 14 (by kernel_rfl);have zF14:∃ (v_14:Value),V 14=v_14∧SlI zw1 v_14 (rowsQ wl.length (cutB F1 F2 n wl.length)):=hI.2 14 zd14 rfl;obtain ⟨v_14,zf14,b14_0⟩:=zF14;have ze28:=hR.frame.done (t:=28) (j:=14) (by kernel_rfl) hR.ok zd14;go_simp;exact hK (v_14) _ (hI.next hR (by kernel_rfl) (Mod.refl _ _) (PB.quiet hI.1 (Mod.refl _ _) (HGs.out D 15 zw1 zw1 (hI.1).g (Mod.refl _ _))) (⟨v_14,upd_same V 15 _,b14_0⟩))
  all_goals (go_simp; exact hK _ _ (hI.nq hR HGs.out rfl))
 ·intro D V w2 hD hI;obtain ⟨hMx,hBx,hGx⟩:=hI.1;have zf0:=hI.eqA hD 0;have zf1:=hI.eqA hD 1;have zf2:=hI.eqA hD 2;have zf3:=hI.eqA hD 3;have zf4:=hI.eqA hD 4;have zF5:∃ (v_5:Value),V 5=v_5∧SlI w2 v_5 (rowsQ wl.length F1):=hI.2 5 (hD 5 (by decide)) rfl;obtain ⟨v_5,zf5,b5_0⟩:=zF5;have zf6:=hI.eqA hD 6;have zf7:=hI.eqA hD 7;have zf8:=hI.eqA hD 8;have zf9:=hI.eqA hD 9;have zf10:=hI.eqA hD 10;have zF11:∃ (v_11:Value),V 11=v_11∧SlI w2 v_11 (rowsQ wl.length F2):=hI.2 11 (hD 11 (by decide)) rfl;obtain ⟨v_11,zf11,b11_0⟩:=zF11;have zf12:=hI.eqA hD 12;have zf13:=hI.eqA hD 13;have zF14:∃ (v_14:Value),V 14=v_14∧SlI w2 v_14 (rowsQ wl.length (cutB F1 F2 n wl.length)):=hI.2 14 (hD 14 (by decide)) rfl;obtain ⟨v_14,zf14,b14_0⟩:=zF14;have zF15:∃ (v_15:Value),V 15=v_15∧SlI w2 v_15 (rowsQ wl.length (cutB F1 F2 n wl.length)):=hI.2 15 (hD 15 (by decide)) rfl;obtain ⟨v_15,zf15,b15_0⟩:=zF15;clear hI hD HGs;simp only [frAll,Act.put,List.setIfInBounds_toArray,List.set_cons_zero,List.set_cons_succ,Nat.zero_add,Nat.reduceAdd,zf0,zf1,zf2,zf3,zf4,zf5,zf6,zf7,zf8,zf9,zf10,zf11,zf12,zf13,zf14,zf15];clear zf0 zf1 zf2 zf3 zf4 zf5 zf6 zf7 zf8 zf9 zf10 zf11 zf12 zf13 zf14 zf15;clear V D;have HR:=hd_ b15_0;have HME:=hd_ ((HM.out.trans hMx));clear hGx hMx b5_0 b11_0 b14_0 b15_0 H1 H2 HC1 HB;go_wp2_with fail;go_ret;exact ⟨_,rfl,HR.out,HME.out⟩
theorem placesO_calls (w:World) (vw:Value) (wl:List Wd) (n:Int) (A B:Option Addr) (c d:Nat) (ws:List Str) (xs:List QR) (hQ:QS w (.mk 7 A c ws n B d xs)) (hW:wl.length≤1000) (hx:xs.length≤1000000)
  (hP:∀ a∈xs,∀ W,Pure w W→Calls Tryz.prog 156 #[qA a,vw] W (RnP W wl.length (plcQ (wsQ wl) a.key))) (hvw:Wds w vw wl) :
  Calls Tryz.prog 156 #[qA (.mk 7 A c ws n B d xs),vw] w (RnP w wl.length (plcQ (wsQ wl) (QR.mk 7 A c ws n B d xs).key)):=by
 rw [QR.key_mk,plc_or,qA_mk];obtain ⟨Aw,nw,cw,rfl⟩:=hvw.form
 have hwn:nw=wl.length:=by obtain ⟨_,_,_,e,_,_,h,_⟩:=hvw; cases e; rw [wdV_len] at h; omega
 subst hwn;have HP:=hd_ hP;have HQ:=hd_ hQ.xsH;obtain ⟨fs,hfs⟩:∃ fs,fs=(xs.map QR.key).map (plcQ (wsQ wl)):=⟨_,rfl⟩;rw [← hfs]
 have hfl:fs.length=xs.length:=by rw [hfs]; simp
 have HF:Hid (∀ t (h:t<xs.length),plcQ (wsQ wl) xs[t].key=fs[t]):=hd_ (fun t h=>by subst hfs; simp);have HOA:=hd_ (orB_all fs);rw [← HOA.out]
 have hdd:xs.length≤d∧d≤9223372036854775807:=by
  obtain ⟨_,_,_,e,h1,h2,_⟩:=hQ.xsH
  cases e
  exact ⟨h1,h2⟩
 have hm:Pure w (w.alloc (.cells #[.int .i64 7,.slice A ws.length c,.int .i64 n,.slice B xs.length d] 29)):=(Mod.refl _ _).alloc _;have HM:=hd_ hm;have HB:=hd_ (Blk.new w 29 #[.int .i64 7,.slice A ws.length c,.int .i64 n,.slice B xs.length d]);have hb:=HB.out;obtain ⟨x0,x1,x2,x3⟩:=hb.c4;have hmk:=run_make_one (P:=Tryz.prog) 185 22 (.slice none 0 0) 24 Tryz.underlying185 info_intsQ rfl .i64 .i64 wl.length (wl.length:Int) rfl (by omega) (by omega) (Array.replicate wl.length (Value.slice none 0 0)) (by simp);clear hQ hP hfs hm hb
 go_enter Tryz.func156,Tryz.ntmps156
 go_upto_region 9 with (fail);generalize hw1:(w.alloc (.cells #[.int .i64 7,.slice A ws.length c,.int .i64 n,.slice B xs.length d] 29))=w1 at *;have HO:=hd_ (OutB.new w1 wl.length);rw [List.toArray_replicate] at HO;have hmo:Pure w1 (w1.alloc (.cells (Array.replicate wl.length (Value.slice none 0 0)) 22)):=(Mod.refl _ _).alloc _;have HB2:=hd_ (HB.out.modp hmo);have HM2:=hd_ (HM.out.trans hmo)
 have HS0:Hid (SlI (w1.alloc (.cells (Array.replicate wl.length (Value.slice none 0 0)) 22)) (.slice (some ⟨w1.heap.size,0,none⟩) wl.length wl.length) (rowsQ wl.length (orB fs 0))):=hd_ (by
  have h1:=HO.out.all (Nat.zero_le _);have h2:=(RowsU.nil (w:=w1.alloc (.cells (Array.replicate wl.length (Value.slice none 0 0)) 22))).nils wl.length
  have h3:([]:List (List Nat)) ++ List.replicate wl.length []=rowsQ wl.length (orB fs 0):=by
   have h4:=rowsQ_tail (W:=wl.length) (k:=0) (F:=orB fs 0) (Nat.zero_le _) (fun i _ _=>by unfold orB; exact rowQ_no _)
   simpa using h4
  rw [h3] at h2;have h5:([]:List Value).length=0:=rfl;rw [h5,Nat.sub_zero] at h1
  exact h1.sl h2 (rowsQ_len _ _) (by omega))
 clear hmo hmk x0 x1 x2 x3 HO HB
 have hsz:w1.heap.size=w.heap.size+1:=by
  rw [← hw1,World.size_alloc]
 rw [hsz] at HS0;clear hsz;generalize w.heap.size+1=go at *;generalize (w1.alloc (.cells (Array.replicate wl.length (Value.slice none 0 0)) 22))=w2 at *;generalize w.heap.size=gb at *;clear hw1;have hb:=HB2.out;obtain ⟨x0,x1,x2,x3⟩:=hb.c4;clear hb;go_wp2_with fail;clear x0 x1 x2 x3
 go_loopg [7,62] xs.length (fun gk v i wr=>∃ (t:Nat) (A7:Option Addr) (c7:Nat),xs.length - t=gk∧t≤xs.length∧i = .int .i64 (t:Int)∧v = .slice A7 wl.length c7∧SlI wr (.slice A7 wl.length c7) (rowsQ wl.length (orB fs t))∧Pure w wr)
 case atStart=>exact ⟨0,some ⟨go,0,none⟩,wl.length,by omega,by omega,rfl,rfl,HS0.out,HM2.out⟩
 case round =>
  clear HS0 HM2 HB2;obtain ⟨t,A7,c7,rfl,ht,rfl,rfl,hS,hm⟩:=hrel;have HS:=hd_ hS;have HMR:=hd_ hm;clear hS hm
  by_cases hlt:t<xs.length
  ·obtain ⟨k2,A2,c2,ws2,n2,B2,d2,xs2,hq⟩:=QR.ex xs[t];obtain ⟨gB,oB,hBe,p0,p1,p2,p3⟩:=qcells (HQ.out.pure HMR.out) hlt hq;subst hBe;have HPX:=hd_ (fun W (h:Pure w W)=>HP.out _ (List.getElem_mem hlt) W h);rw [HF.out t hlt,hq] at HPX;have HOS:=hd_ (orB_succ (fs:=fs) (t:=t) (by omega));clear hq;generalize fs[t]=F at *;simp only [qA_mk] at HPX;have hmA:Pure wr (wr.alloc (.cells #[.int .i64 k2,.slice A2 ws2.length c2,.int .i64 n2,.slice B2 xs2.length d2] 29)):=(Mod.refl _ _).alloc _;have HMA:=hd_ (HMR.out.trans hmA);have HSA:=hd_ (HS.out.pure hmA);have hb9:=Blk.new wr 29 #[.int .i64 k2,.slice A2 ws2.length c2,.int .i64 n2,.slice B2 xs2.length d2];obtain ⟨y0,y1,y2,y3⟩:=hb9.c4;clear hb9 hmA;have HC:=hd_ (HPX.out _ HMA.out);go_wp2_with fail;refine HC.out.mono ?_;rintro e w5 ⟨v5,rfl,hs5,hm5⟩;have HBO:=hd_ (both_calls w5 (.slice A7 wl.length c7) v5 wl.length (orB fs t) F (HSA.out.pure hm5) hs5 hW);have HM5:=hd_ (HMA.out.trans hm5);clear hs5 hm5 HC;go_wp2_with fail;refine HBO.out.mono ?_;rintro e w6 ⟨v6,rfl,hs6,hm6⟩;obtain ⟨A8,c8,rfl,_,_⟩:=hs6.form;rw [rowsQ_len] at hs6 ⊢;have HS6:=hd_ hs6;have HM6:=hd_ (HM5.out.trans hm6);clear hs6 hm6 HBO p0 p1 p2 p3 y0 y1 y2 y3;go_wp2_with fail
   go_roundg (xs.length - (t+1))
   case measure=>omega
   case rel=>exact ⟨t+1,A8,c8,rfl,by omega,by simp,rfl,by rw [HOS.out]; exact HS6.out,HM6.out⟩
  ·obtain rfl:t=xs.length:=by omega
   go_wp2_with fail;go_ret;exact ⟨_,rfl,by rw [hfl]; exact HS.out,HMR.out⟩
theorem places_calls (vw:Value) (wl:List Wd) (hW:wl.length≤1000) (hwl:∀ x∈wl,x.2.length≤1000000):∀ (qr:QR) (w:World),PlR qr.key→QB 1000 qr.key→QS w qr→Wds w vw wl→Calls Tryz.prog 156 #[qA qr,vw] w (RnP w wl.length (plcQ (wsQ wl) qr.key)):=by
 refine QR.ind fun k A c ws n B d xs ih => ?_;intro w hp hb hQ hw;have hp2:=hp;rw [QR.key_mk] at hp hb;generalize hks:xs.map QR.key=ks at hp hb
 cases hp with
 | word hk h0 h1 =>
  exact placesW_calls w vw wl k n A B c d ws xs hk hQ hw h0 (by omega) (fun x hx=>by have:=hb.wsH.2 x hx; omega) hW hwl
 | near hk h0 h1 ha hb2 =>
  obtain ⟨a,xs',rfl,rfl,h3⟩:=List.map_eq_cons_iff.1 hks;obtain ⟨b,xs'',rfl,rfl,h4⟩:=List.map_eq_cons_iff.1 h3;have h5:=List.map_eq_nil_iff.1 h4;subst h5;have iha:=fun W (hW2:Pure w W)=>ih a (by simp) W ha (hb.allH _ (by simp)) ((hQ.allH a (by simp)).pure hW2) (hw.pure hW2);have ihb:=fun W (hW2:Pure w W)=>ih b (by simp) W hb2 (hb.allH _ (by simp)) ((hQ.allH b (by simp)).pure hW2) (hw.pure hW2)
  rcases hk with rfl | rfl
  ·exact placesN_calls w vw wl n A B c d ws a b hQ hW h0 h1 iha ihb
  ·exact placesP_calls w vw wl n A B c d ws a b hQ hW h0 h1 iha ihb
 | any hs =>
  subst hks;exact placesO_calls w vw wl n A B c d ws xs hQ hW (by have:=hb.xsH; rw [List.length_map] at this; omega) (fun a ha W hW2=>ih a ha W (hs _ (List.mem_map.2 ⟨a,ha,rfl⟩)) (hb.allH _ (List.mem_map.2 ⟨a,ha,rfl⟩)) ((hQ.allH a ha).pure hW2) (hw.pure hW2)) hw
theorem qcheck_calls (w:World) (qr:QR) (hQ:QS w qr) (hB:QB 1000 qr.key):Calls Tryz.prog 43 #[qA qr] w (IntPost w (checkQ qr.key)):=by
 have HSZ:=hd_ (fun W (h:Pure w W)=>qsize_calls W qr (hQ.pure h) hB);have HIN:=hd_ (fun W (h:Pure w W)=>inner_calls qr W false (hQ.pure h) hB);have HCK:Hid (checkQ qr.key=if qFit qr.key 0 0 0=true then fltQ 100 false qr.key else 2):=hd_ rfl;generalize checkQ qr.key=er at *;generalize fltQ 100 false qr.key=fl at *;generalize qFit qr.key 0 0 0=fit at *;obtain ⟨k,A,c,ws,n,B,dd,xs,rfl⟩:=qr.ex;rw [show qA (QR.mk k A c ws n B dd xs) = .agg #[.int .i64 k,.slice A ws.length c,.int .i64 n,.slice B xs.length dd] from rfl] at HSZ HIN ⊢;have hB0:=Blk.new w 29 #[.int .i64 k,.slice A ws.length c,.int .i64 n,.slice B xs.length dd];have HP0:=hd_ (pure_alloc w (.cells #[.int .i64 k,.slice A ws.length c,.int .i64 n,.slice B xs.length dd] 29));clear hQ hB
 go_enter Tryz.func43,Tryz.ntmps43
 go_upto_region 1 with (fail);generalize (w.alloc (.cells #[.int .i64 k,.slice A ws.length c,.int .i64 n,.slice B xs.length dd] 29))=w1 at *;generalize w.heap.size=g0 at *;have HB0:=hd_ hB0;obtain ⟨x0,x1,x2,x3⟩:=hB0.c4;clear hB0
 cases fit with
 | false =>
  obtain rfl:(2:Int)=er:=HCK.out.symm;go_wp2_with fail;refine (HSZ.out w1 HP0.out).mono ?_;rintro e w2 ⟨rfl,hm⟩;have HP2:Hid (Pure w w2):=hd_ (HP0.out.trans hm);clear x0 x1 x2 x3 HSZ HIN HP0 HB0 hm;go_wp2_with fail
  try simp only [Exit.inBlock,Exit.then]
  refine bodyPost_ret (v:=.int .i64 2) (by simp [results,Tryz.results43,go_sem]) rfl ?_;exact ⟨rfl,HP2.out⟩
 | true =>
  obtain rfl:fl=er:=HCK.out.symm;go_wp2_with fail;refine (HSZ.out w1 HP0.out).mono ?_;rintro e w2 ⟨rfl,hm⟩;have HP2:Hid (Pure w w2):=hd_ (HP0.out.trans hm);have hb2:=HB0.out.modp hm;clear x0 x1 x2 x3 HSZ HP0 HB0 hm;obtain ⟨x0,x1,x2,x3⟩:=hb2.c4;clear hb2;go_wp2_with fail;refine (HIN.out w2 HP2.out).mono ?_;rintro e w3 ⟨rfl,hm⟩;have HP3:Hid (Pure w w3):=hd_ (HP2.out.trans hm);go_wp2_with fail;go_ret;exact ⟨rfl,HP3.out⟩
abbrev SlcT:=Option Addr × Nat × Nat
def slcV (l:List SlcT):List Value:=l.map fun x => .slice x.1 x.2.1 x.2.2
theorem slcV_get (l:List SlcT) (i:Nat) (h:i<l.length):(slcV l)[i]? = some (.slice l[i].1 l[i].2.1 l[i].2.2):=by simp [slcV,h]
def decS:Value→SlcT
 | .slice A n c=>(A,n,c)
 | _=>(none,0,0)
theorem slc_of {w:World} {v:Value} {rs:List (List Nat)} (h:SlI w v rs):∃ xs:List SlcT,Sl w 22 1 v (slcV xs)∧xs.map (·.2.1)=rs.map List.length:=by
 obtain ⟨us,h1,h2,h3⟩:=h;refine ⟨us.map decS,?_,?_⟩
 ·have e:slcV (us.map decS)=us:=by
   refine List.ext_getElem (by simp [slcV]) fun i a b => ?_;obtain ⟨u,hu,hs,_⟩:=h3 i (by omega);obtain ⟨A,n,c,rfl⟩:=hs.form;rw [List.getElem?_eq_getElem b] at hu
   injection hu with hu
   simp only [slcV,List.getElem_map,hu,decS]
  rw [e];exact h1
 ·refine List.ext_getElem (by simp [h2]) fun i a b => ?_;have hi:i<rs.length:=(by simpa using b);obtain ⟨u,hu,hs,_⟩:=h3 i hi;obtain ⟨A,n,c,rfl⟩:=hs.form;have hl:=hs.lenI.1;rw [nvQ_len] at hl;rw [List.getElem?_eq_getElem (by omega)] at hu
  injection hu with hu
  simp only [List.getElem_map,hu,decS];exact hl
theorem indexRn_calls (w:World) (v:Value) (xs:List SlcT) (F:Nat) (P:SlcT→Bool) (hv:Sl w 22 1 v (slcV xs))
  (hcf:∀ (x:SlcT) (W:World),Sem.run Tryz.prog (callFunc F #[.slice x.1 x.2.1 x.2.2]) W = .ok (.enter F #[.slice x.1 x.2.1 x.2.2]) W)
  (hF:∀ (x:SlcT) (W:World),x∈xs→Pure w W→Calls Tryz.prog F #[.slice x.1 x.2.1 x.2.2] W (BoolPost W (P x))) :
  Calls Tryz.prog 247 #[v,.func (.func F) #[] #[]] w (IntPost w (idxQ P xs 0)):=by
 have HF:=hd_ hF;obtain ⟨A,n,c,rfl,hc1,hc2,hl,hr⟩:=hv
 have hln:xs.length=n:=by simpa [slcV] using hl
 subst hln;have HR:=hd_ hr;clear hF hl hr
 go_enter Tryz.func247,Tryz.ntmps247
 go_wp2_with fail
 go_loopg [8] xs.length (fun gk i wr=>∃ k:Nat,xs.length - k=gk∧k≤xs.length∧i = .int .i64 (k:Int)∧idxQ P xs 0=idxQ P (xs.drop k) (k:Int)∧Pure w wr)
 case atStart=>exact ⟨0,by omega,by omega,rfl,rfl,Mod.refl _ _⟩
 case round =>
  obtain ⟨k,rfl,hk,rfl,hix,hm⟩:=hrel;have HIX:=hd_ hix;clear hix
  by_cases hlt:k<xs.length
  ·obtain ⟨g,off,rfl,hrow⟩:=HR.out (by omega);have hq:=(hrow.mod hm id).cell (slcV_get xs k hlt);have hd:xs.drop k=xs[k] :: xs.drop (k+1):=List.drop_eq_getElem_cons hlt;have hcall:=HF.out xs[k] wr (List.getElem_mem hlt) hm
   have hi2:idxQ P xs 0=if P xs[k] then (k:Int) else idxQ P (xs.drop (k+1)) ((k:Int)+1):=by rw [HIX.out,hd]; rfl
   have HI2:=hd_ hi2;have HC:=hd_ hcall;clear hd hi2 hcall hrow HIX;generalize xs[k]=x at *;go_wp2_with fail;refine HC.out.mono ?_;rintro e w1 ⟨rfl,hm1⟩
   cases hp:P x
   ·go_wp2_with fail
    go_roundg (xs.length - (k+1))
    case measure=>omega
    case rel=>exact ⟨k+1,rfl,hlt,by simp,by rw [HI2.out,hp]; simp,hm.trans hm1⟩
   ·go_wp2_with fail;go_ret;exact IntPost.of (by rw [HI2.out,hp]; rfl) (hm.trans hm1)
  ·have hke:k=xs.length:=(by omega);subst hke;go_wp2_with fail;go_ret;exact IntPost.of (by rw [HIX.out,List.drop_of_length_le (Nat.le_refl _)]; rfl) hm
theorem containsRn_calls (w:World) (v:Value) (xs:List SlcT) (F:Nat) (P:SlcT→Bool) (hv:Sl w 22 1 v (slcV xs))
  (hcf:∀ (x:SlcT) (W:World),Sem.run Tryz.prog (callFunc F #[.slice x.1 x.2.1 x.2.2]) W = .ok (.enter F #[.slice x.1 x.2.1 x.2.2]) W)
  (hF:∀ (x:SlcT) (W:World),x∈xs→Pure w W→Calls Tryz.prog F #[.slice x.1 x.2.1 x.2.2] W (BoolPost W (P x))) :
  Calls Tryz.prog 205 #[v,.func (.func F) #[] #[]] w (BoolPost w (xs.any P)):=by
 have HC:=hd_ (indexRn_calls w v xs F  P hv hcf hF);have HI:=hd_ (idxQ_any P xs 0 (by omega));clear hcf hF;obtain ⟨A,n,c,rfl⟩:=hv.form;clear hv
 go_enter Tryz.func205,Tryz.ntmps205
 go_wp2_with fail;refine HC.out.mono ?_;rintro e w1 ⟨rfl,hm1⟩;generalize idxQ P xs 0=r at *;go_wp2_with fail;go_ret;exact BoolPost.of HI.out.symm hm1
theorem some1_calls (x:SlcT) (W:World):Calls Tryz.prog 206 #[.slice x.1 x.2.1 x.2.2] W (BoolPost W (decide (0<x.2.1))):=by
 obtain ⟨A,n,c⟩:=x
 go_enter Tryz.func206,Tryz.ntmps206
 go_wp2_with fail;go_ret;exact BoolPost.of (by simp) (Mod.refl _ _)
def tgL (x:Itm) (vw:Value):List Value:=[.string ⟨x.id.toArray⟩,.string ⟨x.cust.toArray⟩,.int .i64 x.kind,.string ⟨x.name.toArray⟩,.int .i64 x.tm,.string ⟨x.par.toArray⟩,.string ⟨x.text.toArray⟩,vw]
def tgA (x:Itm) (vw:Value):Value:=.agg (tgL x vw).toArray
theorem somewhere_calls (w:World) (x:Itm) (A:Option Addr) (n c:Nat) (qr:QR) (W:Nat) (F:Nat→Nat→Bool) (hW:W≤1000000) (hP:∀ W',Pure w W'→Calls Tryz.prog 156 #[qA qr,.slice A n c] W' (RnP W' W F)) :
  Calls Tryz.prog 154 #[tgA x (.slice A n c),qA qr] w (BoolPost w (somePl F W)):=by
 have HP:=hd_ hP;clear hP;obtain ⟨k,Aq,cq,ws,nq,Bq,dq,xs⟩:=qr;unfold tgA tgL;simp only [qA_mk] at HP ⊢;obtain ⟨w1,hw1⟩:∃ w1,w1=w.alloc (.cells #[.string ⟨x.id.toArray⟩,.string ⟨x.cust.toArray⟩,.int .i64 x.kind,.string ⟨x.name.toArray⟩,.int .i64 x.tm,.string ⟨x.par.toArray⟩,.string ⟨x.text.toArray⟩,.slice A n c] 110):=⟨_,rfl⟩;have hb1:=(Blk.new w 110 #[.string ⟨x.id.toArray⟩,.string ⟨x.cust.toArray⟩,.int .i64 x.kind,.string ⟨x.name.toArray⟩,.int .i64 x.tm,.string ⟨x.par.toArray⟩,.string ⟨x.text.toArray⟩,.slice A n c]).alloc (.cells #[.int .i64 k,.slice Aq ws.length cq,.int .i64 nq,.slice Bq xs.length dq] 29);have hb2:=Blk.snd w (.cells #[.string ⟨x.id.toArray⟩,.string ⟨x.cust.toArray⟩,.int .i64 x.kind,.string ⟨x.name.toArray⟩,.int .i64 x.tm,.string ⟨x.par.toArray⟩,.string ⟨x.text.toArray⟩,.slice A n c] 110) 29 #[.int .i64 k,.slice Aq ws.length cq,.int .i64 nq,.slice Bq xs.length dq];have HM:Hid (Pure w ((w.alloc (.cells #[.string ⟨x.id.toArray⟩,.string ⟨x.cust.toArray⟩,.int .i64 x.kind,.string ⟨x.name.toArray⟩,.int .i64 x.tm,.string ⟨x.par.toArray⟩,.string ⟨x.text.toArray⟩,.slice A n c] 110)).alloc (.cells #[.int .i64 k,.slice Aq ws.length cq,.int .i64 nq,.slice Bq xs.length dq] 29))):=hd_ (((Mod.refl _ _).alloc _).alloc _);have HPX:=hd_ (HP.out _ HM.out);obtain ⟨x0,x1,x2,x3,x4,x5,x6,x7⟩:=hb1.c8;obtain ⟨y0,y1,y2,y3⟩:=hb2.c4;clear hw1 w1 hb1 hb2
 go_enter Tryz.func154,Tryz.ntmps154
 go_wp2_with fail;refine HPX.out.mono ?_;rintro e w2 ⟨v,rfl,hs,hm⟩;obtain ⟨zs,hz1,hz2⟩:=slc_of hs
 have hany:zs.any (fun x=>decide (0<x.2.1))=somePl F W:=by
  rw [somePl_rows]
  have h1:zs.any (fun x=>decide (0<x.2.1))=(zs.map (·.2.1)).any (fun n=>decide (0<n)):=by rw [List.any_map]; rfl
  have h2:(rowsQ W F).any (fun l=>decide (0<l.length))=((rowsQ W F).map List.length).any (fun n=>decide (0<n)):=by rw [List.any_map]; rfl
  rw [h1,h2,hz2]
 have HC:=hd_ (containsRn_calls w2 v zs 206 (fun x=>decide (0<x.2.1)) hz1 (fun x W=>rfl) (fun x W _ _=>some1_calls x W));rw [hany] at HC;have HM2:=hd_ (HM.out.trans hm);clear hs hm hz1 hz2 hany HPX;go_wp2_with fail;refine HC.out.mono ?_;rintro e w3 ⟨rfl,hm3⟩;go_wp2_with fail;go_ret;exact ⟨rfl,HM2.out.trans hm3⟩
theorem found4_calls (w:World) (x:Itm) (A:Option Addr) (n c:Nat) (Aq Bq:Option Addr) (cq dq:Nat) (nq:Int) (ws:List Str) (xs:List QR) (W:Nat) (F:Nat→Nat→Bool) (hW:W≤1000000) (hP:∀ W',Pure w W'→Calls Tryz.prog 156 #[qA (.mk 4 Aq cq ws nq Bq dq xs),.slice A n c] W' (RnP W' W F)) :
  Calls Tryz.prog 86 #[tgA x (.slice A n c),qA (.mk 4 Aq cq ws nq Bq dq xs)] w (BoolPost w (somePl F W)):=by
 have HP:=hd_ hP;clear hP;have hb1:=(Blk.new w 110 #[.string ⟨x.id.toArray⟩,.string ⟨x.cust.toArray⟩,.int .i64 x.kind,.string ⟨x.name.toArray⟩,.int .i64 x.tm,.string ⟨x.par.toArray⟩,.string ⟨x.text.toArray⟩,.slice A n c]).alloc (.cells #[.int .i64 4,.slice Aq ws.length cq,.int .i64 nq,.slice Bq xs.length dq] 29);have hb2:=Blk.snd w (.cells #[.string ⟨x.id.toArray⟩,.string ⟨x.cust.toArray⟩,.int .i64 x.kind,.string ⟨x.name.toArray⟩,.int .i64 x.tm,.string ⟨x.par.toArray⟩,.string ⟨x.text.toArray⟩,.slice A n c] 110) 29 #[.int .i64 4,.slice Aq ws.length cq,.int .i64 nq,.slice Bq xs.length dq];have HM:Hid (Pure w ((w.alloc (.cells #[.string ⟨x.id.toArray⟩,.string ⟨x.cust.toArray⟩,.int .i64 x.kind,.string ⟨x.name.toArray⟩,.int .i64 x.tm,.string ⟨x.par.toArray⟩,.string ⟨x.text.toArray⟩,.slice A n c] 110)).alloc (.cells #[.int .i64 4,.slice Aq ws.length cq,.int .i64 nq,.slice Bq xs.length dq] 29))):=hd_ (((Mod.refl _ _).alloc _).alloc _);have HS:=hd_ (somewhere_calls _ x A n c (.mk 4 Aq cq ws nq Bq dq xs) W F hW (fun W' h=>HP.out W' (HM.out.trans h)));unfold tgA tgL at *;rw [qA_mk] at HS ⊢;obtain ⟨x0,x1,x2,x3,x4,x5,x6,x7⟩:=hb1.c8;obtain ⟨y0,y1,y2,y3⟩:=hb2.c4;clear hb1 hb2
 go_enter Tryz.func86,Tryz.ntmps86
 go_wp2_with fail;refine HS.out.mono ?_;rintro e w3 ⟨rfl,hm3⟩;go_wp2_with fail;go_ret;exact ⟨rfl,HM.out.trans hm3⟩
def QR.kk:QR→Int | .mk k _ _ _ _ _ _ _=>k
def QR.va:QR→Value | .mk _ A c ws _ _ _ _ => .slice A ws.length c
def QR.nn:QR→Int | .mk _ _ _ _ n _ _ _=>n
def QR.vb:QR→Value | .mk _ _ _ _ _ B d xs => .slice B xs.length d
theorem qC_proj (q:QR):qC q=[.int .i64 q.kk,q.va,.int .i64 q.nn,q.vb]:=by cases q; rfl
theorem qA_proj (q:QR):qA q = .agg #[.int .i64 q.kk,q.va,.int .i64 q.nn,q.vb]:=by cases q; rfl
theorem qV_get4 (l:List QR) (i:Nat) (h:i<l.length):(qV l)[i*4]? = some (.int .i64 l[i].kk)∧(qV l)[i*4+1]? = some l[i].va∧(qV l)[i*4+2]? = some (.int .i64 l[i].nn)∧(qV l)[i*4+3]? = some l[i].vb:=by
 have h0:=qV_get l i h 0 (by omega);have h1:=qV_get l i h 1 (by omega);have h2:=qV_get l i h 2 (by omega);have h3:=qV_get l i h 3 (by omega);rw [qC_proj] at h0 h1 h2 h3;exact ⟨h0,h1,h2,h3⟩
theorem indexQ1_calls (w:World) (v:Value) (xs:List QR) (F:Nat) (c1:Value) (P:QR→Bool) (hv:Sl w 29 4 v (qV xs))
  (hcf:∀ (x:QR) (W:World),Sem.run Tryz.prog (callFunc F #[.agg #[.int .i64 x.kk,x.va,.int .i64 x.nn,x.vb],c1]) W = .ok (.enter F #[.agg #[.int .i64 x.kk,x.va,.int .i64 x.nn,x.vb],c1]) W)
  (hF:∀ (x:QR) (W:World),x∈xs→Pure w W→Calls Tryz.prog F #[.agg #[.int .i64 x.kk,x.va,.int .i64 x.nn,x.vb],c1] W (BoolPost W (P x))) :
  Calls Tryz.prog 164 #[v,.func (.func F) #[] #[c1]] w (IntPost w (idxQ P xs 0)):=by
 have HF:=hd_ hF;obtain ⟨A,n,c,rfl,hc1,hc2,hl,hr⟩:=hv
 have hln:xs.length=n:=by rw [qV_len] at hl; omega
 subst hln;have HR:=hd_ hr;clear hF hl hr
 go_enter Tryz.func164,Tryz.ntmps164
 go_wp2_with fail
 go_loopg [8] xs.length (fun gk i wr=>∃ k:Nat,xs.length - k=gk∧k≤xs.length∧i = .int .i64 (k:Int)∧idxQ P xs 0=idxQ P (xs.drop k) (k:Int)∧Pure w wr)
 case atStart=>exact ⟨0,by omega,by omega,rfl,rfl,Mod.refl _ _⟩
 case round =>
  obtain ⟨k,rfl,hk,rfl,hix,hm⟩:=hrel;have HIX:=hd_ hix;clear hix
  by_cases hlt:k<xs.length
  ·obtain ⟨g,off,rfl,hrow⟩:=HR.out (by omega);have hget:=qV_get4 xs k hlt;have hq0:=(hrow.mod hm id).cell (hget.1);have hq1:=(hrow.mod hm id).cell (hget.2.1);rw [← Nat.add_assoc] at hq1;have hq2:=(hrow.mod hm id).cell (hget.2.2.1);rw [← Nat.add_assoc] at hq2;have hq3:=(hrow.mod hm id).cell (hget.2.2.2);rw [← Nat.add_assoc] at hq3;clear hget;have hd:xs.drop k=xs[k] :: xs.drop (k+1):=List.drop_eq_getElem_cons hlt;have hcall:=HF.out xs[k] wr (List.getElem_mem hlt) hm
   have hi2:idxQ P xs 0=if P xs[k] then (k:Int) else idxQ P (xs.drop (k+1)) ((k:Int)+1):=by rw [HIX.out,hd]; rfl
   have HI2:=hd_ hi2;have HC:=hd_ hcall;clear hd hi2 hcall hrow HIX;generalize xs[k]=x at *;go_wp2_with fail;refine HC.out.mono ?_;rintro e w1 ⟨rfl,hm1⟩
   cases hp:P x
   ·go_wp2_with fail
    go_roundg (xs.length - (k+1))
    case measure=>omega
    case rel=>exact ⟨k+1,rfl,hlt,by simp,by rw [HI2.out,hp]; simp,hm.trans hm1⟩
   ·go_wp2_with fail;go_ret;exact IntPost.of (by rw [HI2.out,hp]; rfl) (hm.trans hm1)
  ·have hke:k=xs.length:=(by omega);subst hke;go_wp2_with fail;go_ret;exact IntPost.of (by rw [HIX.out,List.drop_of_length_le (Nat.le_refl _)]; rfl) hm
theorem containsQ1_calls (w:World) (v:Value) (xs:List QR) (F:Nat) (c1:Value) (P:QR→Bool) (hv:Sl w 29 4 v (qV xs))
  (hcf:∀ (x:QR) (W:World),Sem.run Tryz.prog (callFunc F #[.agg #[.int .i64 x.kk,x.va,.int .i64 x.nn,x.vb],c1]) W = .ok (.enter F #[.agg #[.int .i64 x.kk,x.va,.int .i64 x.nn,x.vb],c1]) W)
  (hF:∀ (x:QR) (W:World),x∈xs→Pure w W→Calls Tryz.prog F #[.agg #[.int .i64 x.kk,x.va,.int .i64 x.nn,x.vb],c1] W (BoolPost W (P x))) :
  Calls Tryz.prog 92 #[v,.func (.func F) #[] #[c1]] w (BoolPost w (xs.any P)):=by
 have HC:=hd_ (indexQ1_calls w v xs F c1 P hv hcf hF);have HI:=hd_ (idxQ_any P xs 0 (by omega));clear hcf hF;obtain ⟨A,n,c,rfl⟩:=hv.form;clear hv
 go_enter Tryz.func92,Tryz.ntmps92
 go_wp2_with fail;refine HC.out.mono ?_;rintro e w1 ⟨rfl,hm1⟩;generalize idxQ P xs 0=r at *;go_wp2_with fail;go_ret;exact BoolPost.of HI.out.symm hm1
theorem found1c_calls (w:World) (b1:Nat) (x:Itm) (A:Option Addr) (n c:Nat) (a:QR) (r:Bool) (hB:Blk w b1 110 #[.string ⟨x.id.toArray⟩,.string ⟨x.cust.toArray⟩,.int .i64 x.kind,.string ⟨x.name.toArray⟩,.int .i64 x.tm,.string ⟨x.par.toArray⟩,.string ⟨x.text.toArray⟩,.slice A n c]) (h:∀ V,Pure w V→Calls Tryz.prog 86 #[tgA x (.slice A n c),qA a] V (BoolPost V r)) :
  Calls Tryz.prog 150 #[qA a,.pointer (some ⟨b1,0,none⟩)] w (BoolPost w (r)):=by
 obtain ⟨k,Aq,cq,ws,nq,Bq,dq,xs⟩:=a;have hm:Pure w (w.alloc (.cells #[.int .i64 k,.slice Aq ws.length cq,.int .i64 nq,.slice Bq xs.length dq] 29)):=(Mod.refl _ _).alloc _;have HM:=hd_ hm;have HC:=hd_ (h _ hm);have hb1:=hB.alloc (.cells #[.int .i64 k,.slice Aq ws.length cq,.int .i64 nq,.slice Bq xs.length dq] 29);have hb2:=Blk.new w 29 #[.int .i64 k,.slice Aq ws.length cq,.int .i64 nq,.slice Bq xs.length dq];unfold tgA tgL at *;rw [qA_mk] at HC ⊢;obtain ⟨x0,x1,x2,x3,x4,x5,x6,x7⟩:=hb1.c8;obtain ⟨y0,y1,y2,y3⟩:=hb2.c4;clear hb1 hb2 hB h hm
 go_enter Tryz.func150,Tryz.ntmps150
 go_wp2_with fail;refine HC.out.mono ?_;rintro e w3 ⟨rfl,hm3⟩;go_wp2_with fail;go_ret;exact ⟨rfl,HM.out.trans hm3⟩
theorem found2c_calls (w:World) (b1:Nat) (x:Itm) (A:Option Addr) (n c:Nat) (a:QR) (r:Bool) (hB:Blk w b1 110 #[.string ⟨x.id.toArray⟩,.string ⟨x.cust.toArray⟩,.int .i64 x.kind,.string ⟨x.name.toArray⟩,.int .i64 x.tm,.string ⟨x.par.toArray⟩,.string ⟨x.text.toArray⟩,.slice A n c]) (h:∀ V,Pure w V→Calls Tryz.prog 86 #[tgA x (.slice A n c),qA a] V (BoolPost V r)) :
  Calls Tryz.prog 151 #[qA a,.pointer (some ⟨b1,0,none⟩)] w (BoolPost w (!r)):=by
 obtain ⟨k,Aq,cq,ws,nq,Bq,dq,xs⟩:=a;have hm:Pure w (w.alloc (.cells #[.int .i64 k,.slice Aq ws.length cq,.int .i64 nq,.slice Bq xs.length dq] 29)):=(Mod.refl _ _).alloc _;have HM:=hd_ hm;have HC:=hd_ (h _ hm);have hb1:=hB.alloc (.cells #[.int .i64 k,.slice Aq ws.length cq,.int .i64 nq,.slice Bq xs.length dq] 29);have hb2:=Blk.new w 29 #[.int .i64 k,.slice Aq ws.length cq,.int .i64 nq,.slice Bq xs.length dq];unfold tgA tgL at *;rw [qA_mk] at HC ⊢;obtain ⟨x0,x1,x2,x3,x4,x5,x6,x7⟩:=hb1.c8;obtain ⟨y0,y1,y2,y3⟩:=hb2.c4;clear hb1 hb2 hB h hm
 go_enter Tryz.func151,Tryz.ntmps151
 go_wp2_with fail;refine HC.out.mono ?_;rintro e w3 ⟨rfl,hm3⟩;go_wp2_with fail;go_ret;exact ⟨rfl,HM.out.trans hm3⟩
theorem found2_calls (w:World) (x:Itm) (A:Option Addr) (n c:Nat) (Aq Bq:Option Addr) (cq dq:Nat) (nq:Int) (ws:List Str) (xs:List QR) (W:Nat) (F:Nat→Nat→Bool) (hW:W≤1000000) (hP:∀ W',Pure w W'→Calls Tryz.prog 156 #[qA (.mk 2 Aq cq ws nq Bq dq xs),.slice A n c] W' (RnP W' W F)) :
  Calls Tryz.prog 86 #[tgA x (.slice A n c),qA (.mk 2 Aq cq ws nq Bq dq xs)] w (BoolPost w (somePl F W)):=by
 have HP:=hd_ hP;clear hP;have hb1:=(Blk.new w 110 #[.string ⟨x.id.toArray⟩,.string ⟨x.cust.toArray⟩,.int .i64 x.kind,.string ⟨x.name.toArray⟩,.int .i64 x.tm,.string ⟨x.par.toArray⟩,.string ⟨x.text.toArray⟩,.slice A n c]).alloc (.cells #[.int .i64 2,.slice Aq ws.length cq,.int .i64 nq,.slice Bq xs.length dq] 29);have hb2:=Blk.snd w (.cells #[.string ⟨x.id.toArray⟩,.string ⟨x.cust.toArray⟩,.int .i64 x.kind,.string ⟨x.name.toArray⟩,.int .i64 x.tm,.string ⟨x.par.toArray⟩,.string ⟨x.text.toArray⟩,.slice A n c] 110) 29 #[.int .i64 2,.slice Aq ws.length cq,.int .i64 nq,.slice Bq xs.length dq];have HM:Hid (Pure w ((w.alloc (.cells #[.string ⟨x.id.toArray⟩,.string ⟨x.cust.toArray⟩,.int .i64 x.kind,.string ⟨x.name.toArray⟩,.int .i64 x.tm,.string ⟨x.par.toArray⟩,.string ⟨x.text.toArray⟩,.slice A n c] 110)).alloc (.cells #[.int .i64 2,.slice Aq ws.length cq,.int .i64 nq,.slice Bq xs.length dq] 29))):=hd_ (((Mod.refl _ _).alloc _).alloc _);have HS:=hd_ (somewhere_calls _ x A n c (.mk 2 Aq cq ws nq Bq dq xs) W F hW (fun W' h=>HP.out W' (HM.out.trans h)));unfold tgA tgL at *;rw [qA_mk] at HS ⊢;obtain ⟨x0,x1,x2,x3,x4,x5,x6,x7⟩:=hb1.c8;obtain ⟨y0,y1,y2,y3⟩:=hb2.c4;clear hb1 hb2
 go_enter Tryz.func86,Tryz.ntmps86
 go_wp2_with fail;refine HS.out.mono ?_;rintro e w3 ⟨rfl,hm3⟩;go_wp2_with fail;go_ret;exact ⟨rfl,HM.out.trans hm3⟩
theorem found3_calls (w:World) (x:Itm) (A:Option Addr) (n c:Nat) (Aq Bq:Option Addr) (cq dq:Nat) (nq:Int) (ws:List Str) (xs:List QR) (W:Nat) (F:Nat→Nat→Bool) (hW:W≤1000000) (hP:∀ W',Pure w W'→Calls Tryz.prog 156 #[qA (.mk 3 Aq cq ws nq Bq dq xs),.slice A n c] W' (RnP W' W F)) :
  Calls Tryz.prog 86 #[tgA x (.slice A n c),qA (.mk 3 Aq cq ws nq Bq dq xs)] w (BoolPost w (somePl F W)):=by
 have HP:=hd_ hP;clear hP;have hb1:=(Blk.new w 110 #[.string ⟨x.id.toArray⟩,.string ⟨x.cust.toArray⟩,.int .i64 x.kind,.string ⟨x.name.toArray⟩,.int .i64 x.tm,.string ⟨x.par.toArray⟩,.string ⟨x.text.toArray⟩,.slice A n c]).alloc (.cells #[.int .i64 3,.slice Aq ws.length cq,.int .i64 nq,.slice Bq xs.length dq] 29);have hb2:=Blk.snd w (.cells #[.string ⟨x.id.toArray⟩,.string ⟨x.cust.toArray⟩,.int .i64 x.kind,.string ⟨x.name.toArray⟩,.int .i64 x.tm,.string ⟨x.par.toArray⟩,.string ⟨x.text.toArray⟩,.slice A n c] 110) 29 #[.int .i64 3,.slice Aq ws.length cq,.int .i64 nq,.slice Bq xs.length dq];have HM:Hid (Pure w ((w.alloc (.cells #[.string ⟨x.id.toArray⟩,.string ⟨x.cust.toArray⟩,.int .i64 x.kind,.string ⟨x.name.toArray⟩,.int .i64 x.tm,.string ⟨x.par.toArray⟩,.string ⟨x.text.toArray⟩,.slice A n c] 110)).alloc (.cells #[.int .i64 3,.slice Aq ws.length cq,.int .i64 nq,.slice Bq xs.length dq] 29))):=hd_ (((Mod.refl _ _).alloc _).alloc _);have HS:=hd_ (somewhere_calls _ x A n c (.mk 3 Aq cq ws nq Bq dq xs) W F hW (fun W' h=>HP.out W' (HM.out.trans h)));unfold tgA tgL at *;rw [qA_mk] at HS ⊢;obtain ⟨x0,x1,x2,x3,x4,x5,x6,x7⟩:=hb1.c8;obtain ⟨y0,y1,y2,y3⟩:=hb2.c4;clear hb1 hb2
 go_enter Tryz.func86,Tryz.ntmps86
 go_wp2_with fail;refine HS.out.mono ?_;rintro e w3 ⟨rfl,hm3⟩;go_wp2_with fail;go_ret;exact ⟨rfl,HM.out.trans hm3⟩
theorem found5_calls (w:World) (x:Itm) (A:Option Addr) (n c:Nat) (Aq Bq:Option Addr) (cq dq:Nat) (nq:Int) (ws:List Str) (xs:List QR) (W:Nat) (F:Nat→Nat→Bool) (hW:W≤1000000) (hP:∀ W',Pure w W'→Calls Tryz.prog 156 #[qA (.mk 5 Aq cq ws nq Bq dq xs),.slice A n c] W' (RnP W' W F)) :
  Calls Tryz.prog 86 #[tgA x (.slice A n c),qA (.mk 5 Aq cq ws nq Bq dq xs)] w (BoolPost w (somePl F W)):=by
 have HP:=hd_ hP;clear hP;have hb1:=(Blk.new w 110 #[.string ⟨x.id.toArray⟩,.string ⟨x.cust.toArray⟩,.int .i64 x.kind,.string ⟨x.name.toArray⟩,.int .i64 x.tm,.string ⟨x.par.toArray⟩,.string ⟨x.text.toArray⟩,.slice A n c]).alloc (.cells #[.int .i64 5,.slice Aq ws.length cq,.int .i64 nq,.slice Bq xs.length dq] 29);have hb2:=Blk.snd w (.cells #[.string ⟨x.id.toArray⟩,.string ⟨x.cust.toArray⟩,.int .i64 x.kind,.string ⟨x.name.toArray⟩,.int .i64 x.tm,.string ⟨x.par.toArray⟩,.string ⟨x.text.toArray⟩,.slice A n c] 110) 29 #[.int .i64 5,.slice Aq ws.length cq,.int .i64 nq,.slice Bq xs.length dq];have HM:Hid (Pure w ((w.alloc (.cells #[.string ⟨x.id.toArray⟩,.string ⟨x.cust.toArray⟩,.int .i64 x.kind,.string ⟨x.name.toArray⟩,.int .i64 x.tm,.string ⟨x.par.toArray⟩,.string ⟨x.text.toArray⟩,.slice A n c] 110)).alloc (.cells #[.int .i64 5,.slice Aq ws.length cq,.int .i64 nq,.slice Bq xs.length dq] 29))):=hd_ (((Mod.refl _ _).alloc _).alloc _);have HS:=hd_ (somewhere_calls _ x A n c (.mk 5 Aq cq ws nq Bq dq xs) W F hW (fun W' h=>HP.out W' (HM.out.trans h)));unfold tgA tgL at *;rw [qA_mk] at HS ⊢;obtain ⟨x0,x1,x2,x3,x4,x5,x6,x7⟩:=hb1.c8;obtain ⟨y0,y1,y2,y3⟩:=hb2.c4;clear hb1 hb2
 go_enter Tryz.func86,Tryz.ntmps86
 go_wp2_with fail;refine HS.out.mono ?_;rintro e w3 ⟨rfl,hm3⟩;go_wp2_with fail;go_ret;exact ⟨rfl,HM.out.trans hm3⟩
theorem found1_calls (w:World) (x:Itm) (A:Option Addr) (n c:Nat) (Aq Bq:Option Addr) (cq dq:Nat) (nq:Int) (ws:List Str) (xs:List QR) :
  Calls Tryz.prog 86 #[tgA x (.slice A n c),qA (.mk 1 Aq cq ws nq Bq dq xs)] w (BoolPost w (true)):=by
 have hb1:=(Blk.new w 110 #[.string ⟨x.id.toArray⟩,.string ⟨x.cust.toArray⟩,.int .i64 x.kind,.string ⟨x.name.toArray⟩,.int .i64 x.tm,.string ⟨x.par.toArray⟩,.string ⟨x.text.toArray⟩,.slice A n c]).alloc (.cells #[.int .i64 1,.slice Aq ws.length cq,.int .i64 nq,.slice Bq xs.length dq] 29);have hb2:=Blk.snd w (.cells #[.string ⟨x.id.toArray⟩,.string ⟨x.cust.toArray⟩,.int .i64 x.kind,.string ⟨x.name.toArray⟩,.int .i64 x.tm,.string ⟨x.par.toArray⟩,.string ⟨x.text.toArray⟩,.slice A n c] 110) 29 #[.int .i64 1,.slice Aq ws.length cq,.int .i64 nq,.slice Bq xs.length dq];have HM:Hid (Pure w ((w.alloc (.cells #[.string ⟨x.id.toArray⟩,.string ⟨x.cust.toArray⟩,.int .i64 x.kind,.string ⟨x.name.toArray⟩,.int .i64 x.tm,.string ⟨x.par.toArray⟩,.string ⟨x.text.toArray⟩,.slice A n c] 110)).alloc (.cells #[.int .i64 1,.slice Aq ws.length cq,.int .i64 nq,.slice Bq xs.length dq] 29))):=hd_ (((Mod.refl _ _).alloc _).alloc _);unfold tgA tgL;rw [qA_mk];obtain ⟨x0,x1,x2,x3,x4,x5,x6,x7⟩:=hb1.c8;obtain ⟨y0,y1,y2,y3⟩:=hb2.c4;clear hb1 hb2
 go_enter Tryz.func86,Tryz.ntmps86
 go_wp2_with fail;go_ret;exact BoolPost.of (by first | rfl | simp) HM.out
theorem found10_calls (w:World) (x:Itm) (A:Option Addr) (n c:Nat) (Aq Bq:Option Addr) (cq dq:Nat) (nq:Int) (ws:List Str) (xs:List QR) :
  Calls Tryz.prog 86 #[tgA x (.slice A n c),qA (.mk 10 Aq cq ws nq Bq dq xs)] w (BoolPost w (decide (x.kind=nq))):=by
 have hb1:=(Blk.new w 110 #[.string ⟨x.id.toArray⟩,.string ⟨x.cust.toArray⟩,.int .i64 x.kind,.string ⟨x.name.toArray⟩,.int .i64 x.tm,.string ⟨x.par.toArray⟩,.string ⟨x.text.toArray⟩,.slice A n c]).alloc (.cells #[.int .i64 10,.slice Aq ws.length cq,.int .i64 nq,.slice Bq xs.length dq] 29);have hb2:=Blk.snd w (.cells #[.string ⟨x.id.toArray⟩,.string ⟨x.cust.toArray⟩,.int .i64 x.kind,.string ⟨x.name.toArray⟩,.int .i64 x.tm,.string ⟨x.par.toArray⟩,.string ⟨x.text.toArray⟩,.slice A n c] 110) 29 #[.int .i64 10,.slice Aq ws.length cq,.int .i64 nq,.slice Bq xs.length dq];have HM:Hid (Pure w ((w.alloc (.cells #[.string ⟨x.id.toArray⟩,.string ⟨x.cust.toArray⟩,.int .i64 x.kind,.string ⟨x.name.toArray⟩,.int .i64 x.tm,.string ⟨x.par.toArray⟩,.string ⟨x.text.toArray⟩,.slice A n c] 110)).alloc (.cells #[.int .i64 10,.slice Aq ws.length cq,.int .i64 nq,.slice Bq xs.length dq] 29))):=hd_ (((Mod.refl _ _).alloc _).alloc _);unfold tgA tgL;rw [qA_mk];obtain ⟨x0,x1,x2,x3,x4,x5,x6,x7⟩:=hb1.c8;obtain ⟨y0,y1,y2,y3⟩:=hb2.c4;clear hb1 hb2
 go_enter Tryz.func86,Tryz.ntmps86
 go_wp2_with fail;go_ret;exact BoolPost.of (by first | rfl | simp) HM.out
theorem found12_calls (w:World) (x:Itm) (A:Option Addr) (n c:Nat) (Aq Bq:Option Addr) (cq dq:Nat) (nq:Int) (ws:List Str) (xs:List QR) (ht0 : -1000000000000≤x.tm) (ht1:x.tm≤1000000000000) :
  Calls Tryz.prog 86 #[tgA x (.slice A n c),qA (.mk 12 Aq cq ws nq Bq dq xs)] w (BoolPost w (decide (nq≤x.tm.tdiv 1440))):=by
 have hb1:=(Blk.new w 110 #[.string ⟨x.id.toArray⟩,.string ⟨x.cust.toArray⟩,.int .i64 x.kind,.string ⟨x.name.toArray⟩,.int .i64 x.tm,.string ⟨x.par.toArray⟩,.string ⟨x.text.toArray⟩,.slice A n c]).alloc (.cells #[.int .i64 12,.slice Aq ws.length cq,.int .i64 nq,.slice Bq xs.length dq] 29);have hb2:=Blk.snd w (.cells #[.string ⟨x.id.toArray⟩,.string ⟨x.cust.toArray⟩,.int .i64 x.kind,.string ⟨x.name.toArray⟩,.int .i64 x.tm,.string ⟨x.par.toArray⟩,.string ⟨x.text.toArray⟩,.slice A n c] 110) 29 #[.int .i64 12,.slice Aq ws.length cq,.int .i64 nq,.slice Bq xs.length dq];have HM:Hid (Pure w ((w.alloc (.cells #[.string ⟨x.id.toArray⟩,.string ⟨x.cust.toArray⟩,.int .i64 x.kind,.string ⟨x.name.toArray⟩,.int .i64 x.tm,.string ⟨x.par.toArray⟩,.string ⟨x.text.toArray⟩,.slice A n c] 110)).alloc (.cells #[.int .i64 12,.slice Aq ws.length cq,.int .i64 nq,.slice Bq xs.length dq] 29))):=hd_ (((Mod.refl _ _).alloc _).alloc _);unfold tgA tgL;rw [qA_mk];obtain ⟨x0,x1,x2,x3,x4,x5,x6,x7⟩:=hb1.c8;obtain ⟨y0,y1,y2,y3⟩:=hb2.c4;clear hb1 hb2
 go_enter Tryz.func86,Tryz.ntmps86
 go_wp2_with fail;go_ret;exact BoolPost.of (by first | rfl | simp) HM.out
theorem found13_calls (w:World) (x:Itm) (A:Option Addr) (n c:Nat) (Aq Bq:Option Addr) (cq dq:Nat) (nq:Int) (ws:List Str) (xs:List QR) (ht0 : -1000000000000≤x.tm) (ht1:x.tm≤1000000000000) :
  Calls Tryz.prog 86 #[tgA x (.slice A n c),qA (.mk 13 Aq cq ws nq Bq dq xs)] w (BoolPost w (decide (x.tm.tdiv 1440≤nq))):=by
 have hb1:=(Blk.new w 110 #[.string ⟨x.id.toArray⟩,.string ⟨x.cust.toArray⟩,.int .i64 x.kind,.string ⟨x.name.toArray⟩,.int .i64 x.tm,.string ⟨x.par.toArray⟩,.string ⟨x.text.toArray⟩,.slice A n c]).alloc (.cells #[.int .i64 13,.slice Aq ws.length cq,.int .i64 nq,.slice Bq xs.length dq] 29);have hb2:=Blk.snd w (.cells #[.string ⟨x.id.toArray⟩,.string ⟨x.cust.toArray⟩,.int .i64 x.kind,.string ⟨x.name.toArray⟩,.int .i64 x.tm,.string ⟨x.par.toArray⟩,.string ⟨x.text.toArray⟩,.slice A n c] 110) 29 #[.int .i64 13,.slice Aq ws.length cq,.int .i64 nq,.slice Bq xs.length dq];have HM:Hid (Pure w ((w.alloc (.cells #[.string ⟨x.id.toArray⟩,.string ⟨x.cust.toArray⟩,.int .i64 x.kind,.string ⟨x.name.toArray⟩,.int .i64 x.tm,.string ⟨x.par.toArray⟩,.string ⟨x.text.toArray⟩,.slice A n c] 110)).alloc (.cells #[.int .i64 13,.slice Aq ws.length cq,.int .i64 nq,.slice Bq xs.length dq] 29))):=hd_ (((Mod.refl _ _).alloc _).alloc _);unfold tgA tgL;rw [qA_mk];obtain ⟨x0,x1,x2,x3,x4,x5,x6,x7⟩:=hb1.c8;obtain ⟨y0,y1,y2,y3⟩:=hb2.c4;clear hb1 hb2
 go_enter Tryz.func86,Tryz.ntmps86
 go_wp2_with fail;go_ret;exact BoolPost.of (by first | rfl | simp) HM.out
theorem found6_calls (w:World) (x:Itm) (A:Option Addr) (n c:Nat) (Aq Bq:Option Addr) (cq dq:Nat) (nq:Int) (ws:List Str) (xs:List QR) (b:QR→Bool) (hQ:QS w (.mk 6 Aq cq ws nq Bq dq xs)) (hP:∀ a∈xs,∀ V,Pure w V→Calls Tryz.prog 86 #[tgA x (.slice A n c),qA a] V (BoolPost V (b a))) :
  Calls Tryz.prog 86 #[tgA x (.slice A n c),qA (.mk 6 Aq cq ws nq Bq dq xs)] w (BoolPost w (!xs.any (fun a => !b a))):=by
 have HP:=hd_ hP;clear hP;have hb1:=(Blk.new w 110 #[.string ⟨x.id.toArray⟩,.string ⟨x.cust.toArray⟩,.int .i64 x.kind,.string ⟨x.name.toArray⟩,.int .i64 x.tm,.string ⟨x.par.toArray⟩,.string ⟨x.text.toArray⟩,.slice A n c]).alloc (.cells #[.int .i64 6,.slice Aq ws.length cq,.int .i64 nq,.slice Bq xs.length dq] 29);have hb2:=Blk.snd w (.cells #[.string ⟨x.id.toArray⟩,.string ⟨x.cust.toArray⟩,.int .i64 x.kind,.string ⟨x.name.toArray⟩,.int .i64 x.tm,.string ⟨x.par.toArray⟩,.string ⟨x.text.toArray⟩,.slice A n c] 110) 29 #[.int .i64 6,.slice Aq ws.length cq,.int .i64 nq,.slice Bq xs.length dq];have HM:Hid (Pure w ((w.alloc (.cells #[.string ⟨x.id.toArray⟩,.string ⟨x.cust.toArray⟩,.int .i64 x.kind,.string ⟨x.name.toArray⟩,.int .i64 x.tm,.string ⟨x.par.toArray⟩,.string ⟨x.text.toArray⟩,.slice A n c] 110)).alloc (.cells #[.int .i64 6,.slice Aq ws.length cq,.int .i64 nq,.slice Bq xs.length dq] 29))):=hd_ (((Mod.refl _ _).alloc _).alloc _);have hx:=hQ.xsH.pure HM.out;have HB1:=hd_ hb1
 have hcl:∀ (a:QR) (V:World),a∈xs→Pure ((w.alloc (.cells #[.string ⟨x.id.toArray⟩,.string ⟨x.cust.toArray⟩,.int .i64 x.kind,.string ⟨x.name.toArray⟩,.int .i64 x.tm,.string ⟨x.par.toArray⟩,.string ⟨x.text.toArray⟩,.slice A n c] 110)).alloc (.cells #[.int .i64 6,.slice Aq ws.length cq,.int .i64 nq,.slice Bq xs.length dq] 29)) V→Calls Tryz.prog 151 #[qA a,.pointer (some ⟨w.heap.size,0,none⟩)] V (BoolPost V ((fun a => !b a) a)):=fun a V ha hV =>
  found2c_calls V w.heap.size x A n c a (b a) (HB1.out.modp hV) (fun V2 h2=>HP.out a ha V2 ((HM.out.trans hV).trans h2))
 simp only [qA_proj] at hcl;have HC:=hd_ (containsQ1_calls _ (.slice Bq xs.length dq) xs 151 (.pointer (some ⟨w.heap.size,0,none⟩)) (fun a => !b a) hx (fun a W=>rfl) hcl);clear hcl hx hQ;unfold tgA tgL;rw [qA_mk];obtain ⟨x0,x1,x2,x3,x4,x5,x6,x7⟩:=hb1.c8;obtain ⟨y0,y1,y2,y3⟩:=hb2.c4;clear hb1 hb2 HB1 HP
 go_enter Tryz.func86,Tryz.ntmps86
 go_wp2_with fail;refine HC.out.mono ?_;rintro e w3 ⟨rfl,hm3⟩;go_wp2_with fail;go_ret;exact ⟨rfl,HM.out.trans hm3⟩
theorem found7_calls (w:World) (x:Itm) (A:Option Addr) (n c:Nat) (Aq Bq:Option Addr) (cq dq:Nat) (nq:Int) (ws:List Str) (xs:List QR) (b:QR→Bool) (hQ:QS w (.mk 7 Aq cq ws nq Bq dq xs)) (hP:∀ a∈xs,∀ V,Pure w V→Calls Tryz.prog 86 #[tgA x (.slice A n c),qA a] V (BoolPost V (b a))) :
  Calls Tryz.prog 86 #[tgA x (.slice A n c),qA (.mk 7 Aq cq ws nq Bq dq xs)] w (BoolPost w (xs.any b)):=by
 have HP:=hd_ hP;clear hP;have hb1:=(Blk.new w 110 #[.string ⟨x.id.toArray⟩,.string ⟨x.cust.toArray⟩,.int .i64 x.kind,.string ⟨x.name.toArray⟩,.int .i64 x.tm,.string ⟨x.par.toArray⟩,.string ⟨x.text.toArray⟩,.slice A n c]).alloc (.cells #[.int .i64 7,.slice Aq ws.length cq,.int .i64 nq,.slice Bq xs.length dq] 29);have hb2:=Blk.snd w (.cells #[.string ⟨x.id.toArray⟩,.string ⟨x.cust.toArray⟩,.int .i64 x.kind,.string ⟨x.name.toArray⟩,.int .i64 x.tm,.string ⟨x.par.toArray⟩,.string ⟨x.text.toArray⟩,.slice A n c] 110) 29 #[.int .i64 7,.slice Aq ws.length cq,.int .i64 nq,.slice Bq xs.length dq];have HM:Hid (Pure w ((w.alloc (.cells #[.string ⟨x.id.toArray⟩,.string ⟨x.cust.toArray⟩,.int .i64 x.kind,.string ⟨x.name.toArray⟩,.int .i64 x.tm,.string ⟨x.par.toArray⟩,.string ⟨x.text.toArray⟩,.slice A n c] 110)).alloc (.cells #[.int .i64 7,.slice Aq ws.length cq,.int .i64 nq,.slice Bq xs.length dq] 29))):=hd_ (((Mod.refl _ _).alloc _).alloc _);have hx:=hQ.xsH.pure HM.out;have HB1:=hd_ hb1
 have hcl:∀ (a:QR) (V:World),a∈xs→Pure ((w.alloc (.cells #[.string ⟨x.id.toArray⟩,.string ⟨x.cust.toArray⟩,.int .i64 x.kind,.string ⟨x.name.toArray⟩,.int .i64 x.tm,.string ⟨x.par.toArray⟩,.string ⟨x.text.toArray⟩,.slice A n c] 110)).alloc (.cells #[.int .i64 7,.slice Aq ws.length cq,.int .i64 nq,.slice Bq xs.length dq] 29)) V→Calls Tryz.prog 150 #[qA a,.pointer (some ⟨w.heap.size,0,none⟩)] V (BoolPost V ((b) a)):=fun a V ha hV =>
  found1c_calls V w.heap.size x A n c a (b a) (HB1.out.modp hV) (fun V2 h2=>HP.out a ha V2 ((HM.out.trans hV).trans h2))
 simp only [qA_proj] at hcl;have HC:=hd_ (containsQ1_calls _ (.slice Bq xs.length dq) xs 150 (.pointer (some ⟨w.heap.size,0,none⟩)) (b) hx (fun a W=>rfl) hcl);clear hcl hx hQ;unfold tgA tgL;rw [qA_mk];obtain ⟨x0,x1,x2,x3,x4,x5,x6,x7⟩:=hb1.c8;obtain ⟨y0,y1,y2,y3⟩:=hb2.c4;clear hb1 hb2 HB1 HP
 go_enter Tryz.func86,Tryz.ntmps86
 go_wp2_with fail;refine HC.out.mono ?_;rintro e w3 ⟨rfl,hm3⟩;go_wp2_with fail;go_ret;exact ⟨rfl,HM.out.trans hm3⟩
theorem found8_calls (w:World) (x:Itm) (A:Option Addr) (n c:Nat) (Aq Bq:Option Addr) (cq dq:Nat) (nq:Int) (ws:List Str) (a1:QR) (r:Bool) (hQ:QS w (.mk 8 Aq cq ws nq Bq dq [a1])) (h1:∀ V,Pure w V→Calls Tryz.prog 86 #[tgA x (.slice A n c),qA a1] V (BoolPost V r)) :
  Calls Tryz.prog 86 #[tgA x (.slice A n c),qA (.mk 8 Aq cq ws nq Bq dq [a1])] w (BoolPost w (!r)):=by
 rw [qA_mk];obtain ⟨k1,A1,c1,ws1,n1,B1,d1,xs1⟩:=a1;obtain ⟨gB,oB,hBe,p0,p1,p2,p3⟩:=qcells hQ.xsH (show 0<1 by decide) rfl;subst hBe
 have hd2:1≤dq∧dq≤9223372036854775807:=by
  obtain ⟨_,_,_,e,h1,h2,_⟩:=hQ.xsH
  cases e
  exact ⟨h1,h2⟩
 simp only [Nat.zero_mul,Nat.add_zero] at p0 p1 p2 p3;simp only [List.length_singleton];have hb1:=(Blk.new w 110 #[.string ⟨x.id.toArray⟩,.string ⟨x.cust.toArray⟩,.int .i64 x.kind,.string ⟨x.name.toArray⟩,.int .i64 x.tm,.string ⟨x.par.toArray⟩,.string ⟨x.text.toArray⟩,.slice A n c]).alloc (.cells #[.int .i64 8,.slice Aq ws.length cq,.int .i64 nq,.slice (some ⟨gB,oB,none⟩) 1 dq] 29);have hb2:=Blk.snd w (.cells #[.string ⟨x.id.toArray⟩,.string ⟨x.cust.toArray⟩,.int .i64 x.kind,.string ⟨x.name.toArray⟩,.int .i64 x.tm,.string ⟨x.par.toArray⟩,.string ⟨x.text.toArray⟩,.slice A n c] 110) 29 #[.int .i64 8,.slice Aq ws.length cq,.int .i64 nq,.slice (some ⟨gB,oB,none⟩) 1 dq];have HM:Hid (Pure w ((w.alloc (.cells #[.string ⟨x.id.toArray⟩,.string ⟨x.cust.toArray⟩,.int .i64 x.kind,.string ⟨x.name.toArray⟩,.int .i64 x.tm,.string ⟨x.par.toArray⟩,.string ⟨x.text.toArray⟩,.slice A n c] 110)).alloc (.cells #[.int .i64 8,.slice Aq ws.length cq,.int .i64 nq,.slice (some ⟨gB,oB,none⟩) 1 dq] 29))):=hd_ (((Mod.refl _ _).alloc _).alloc _);have HB1:=hd_ hb1;have HB2:=hd_ hb2;have HC:Hid (CellQ ((w.alloc (.cells #[.string ⟨x.id.toArray⟩,.string ⟨x.cust.toArray⟩,.int .i64 x.kind,.string ⟨x.name.toArray⟩,.int .i64 x.tm,.string ⟨x.par.toArray⟩,.string ⟨x.text.toArray⟩,.slice A n c] 110)).alloc (.cells #[.int .i64 8,.slice Aq ws.length cq,.int .i64 nq,.slice (some ⟨gB,oB,none⟩) 1 dq] 29)) gB oB (.int .i64 k1)∧CellQ ((w.alloc (.cells #[.string ⟨x.id.toArray⟩,.string ⟨x.cust.toArray⟩,.int .i64 x.kind,.string ⟨x.name.toArray⟩,.int .i64 x.tm,.string ⟨x.par.toArray⟩,.string ⟨x.text.toArray⟩,.slice A n c] 110)).alloc (.cells #[.int .i64 8,.slice Aq ws.length cq,.int .i64 nq,.slice (some ⟨gB,oB,none⟩) 1 dq] 29)) gB (oB+1) (.slice A1 ws1.length c1)∧CellQ ((w.alloc (.cells #[.string ⟨x.id.toArray⟩,.string ⟨x.cust.toArray⟩,.int .i64 x.kind,.string ⟨x.name.toArray⟩,.int .i64 x.tm,.string ⟨x.par.toArray⟩,.string ⟨x.text.toArray⟩,.slice A n c] 110)).alloc (.cells #[.int .i64 8,.slice Aq ws.length cq,.int .i64 nq,.slice (some ⟨gB,oB,none⟩) 1 dq] 29)) gB (oB+2) (.int .i64 n1)∧CellQ ((w.alloc (.cells #[.string ⟨x.id.toArray⟩,.string ⟨x.cust.toArray⟩,.int .i64 x.kind,.string ⟨x.name.toArray⟩,.int .i64 x.tm,.string ⟨x.par.toArray⟩,.string ⟨x.text.toArray⟩,.slice A n c] 110)).alloc (.cells #[.int .i64 8,.slice Aq ws.length cq,.int .i64 nq,.slice (some ⟨gB,oB,none⟩) 1 dq] 29)) gB (oB+3) (.slice B1 xs1.length d1)):=hd_ ⟨CellQ.pure p0 HM.out,CellQ.pure p1 HM.out,CellQ.pure p2 HM.out,CellQ.pure p3 HM.out⟩;have H1:=hd_ h1;simp only [qA_mk] at H1;obtain ⟨x0,x1,x2,x3,x4,x5,x6,x7⟩:=hb1.c8;obtain ⟨y0,y1,y2,y3⟩:=hb2.c4;clear hQ hb1 hb2 h1 p0 p1 p2 p3;unfold tgA tgL at *
 go_enter Tryz.func86,Tryz.ntmps86
 go_upto_region 8 with (fail);generalize ((w.alloc (.cells #[.string ⟨x.id.toArray⟩,.string ⟨x.cust.toArray⟩,.int .i64 x.kind,.string ⟨x.name.toArray⟩,.int .i64 x.tm,.string ⟨x.par.toArray⟩,.string ⟨x.text.toArray⟩,.slice A n c] 110)).alloc (.cells #[.int .i64 8,.slice Aq ws.length cq,.int .i64 nq,.slice (some ⟨gB,oB,none⟩) 1 dq] 29))=w1 at *;obtain ⟨b1,hb1⟩:∃ b,w.heap.size=b:=⟨_,rfl⟩;rw [hb1] at HB1 HB2;simp only [hb1];obtain ⟨b2,hb2⟩:∃ b,b1+1=b:=⟨_,rfl⟩;rw [hb2] at HB2;simp only [hb2];clear hb1 hb2;clear x0 x1 x2 x3 x4 x5 x6 x7 y0 y1 y2 y3;have HGs:=hd_ (show KeepG (fun Z=>Blk Z b1 110 #[.string ⟨x.id.toArray⟩,.string ⟨x.cust.toArray⟩,.int .i64 x.kind,.string ⟨x.name.toArray⟩,.int .i64 x.tm,.string ⟨x.par.toArray⟩,.string ⟨x.text.toArray⟩,.slice A n c]∧Blk Z b2 29 #[.int .i64 8,.slice Aq ws.length cq,.int .i64 nq,.slice (some ⟨gB,oB,none⟩) 1 dq]∧CellQ Z gB oB (.int .i64 k1)∧CellQ Z gB (oB+1) (.slice A1 ws1.length c1)∧CellQ Z gB (oB+2) (.int .i64 n1)∧CellQ Z gB (oB+3) (.slice B1 xs1.length d1)) from fun D zzi zq zq' h hm=>by (exact ⟨h.1.modp hm,h.2.1.modp hm,h.2.2.1.pure hm,h.2.2.2.1.pure hm,h.2.2.2.2.1.pure hm,h.2.2.2.2.2.pure hm⟩))
 refine wp_region_inv (by kernel_rfl) (by kernel_rfl) (InvF (R:=Mod (fun _=>False)) [.is (.agg #[.string ⟨x.id.toArray⟩,.string ⟨x.cust.toArray⟩,.int .i64 x.kind,.string ⟨x.name.toArray⟩,.int .i64 x.tm,.string ⟨x.par.toArray⟩,.string ⟨x.text.toArray⟩,.slice A n c]),.is (.pointer (some ⟨b2,3,none⟩)),.is (.slice (some ⟨gB,oB,none⟩) 1 dq),.is (.pointer (some ⟨gB,oB,none⟩)),.is (.agg #[.int .i64 k1,.slice A1 ws1.length c1,.int .i64 n1,.slice B1 xs1.length d1]),.is (.bool r),.is (.bool (!r)),.is (.bool (!r))]
   (PB w1 (fun _=>False) w1.heap.size (fun _=>(fun Z=>Blk Z b1 110 #[.string ⟨x.id.toArray⟩,.string ⟨x.cust.toArray⟩,.int .i64 x.kind,.string ⟨x.name.toArray⟩,.int .i64 x.tm,.string ⟨x.par.toArray⟩,.string ⟨x.text.toArray⟩,.slice A n c]∧Blk Z b2 29 #[.int .i64 8,.slice Aq ws.length cq,.int .i64 nq,.slice (some ⟨gB,oB,none⟩) 1 dq]∧CellQ Z gB oB (.int .i64 k1)∧CellQ Z gB (oB+1) (.slice A1 ws1.length c1)∧CellQ Z gB (oB+2) (.int .i64 n1)∧CellQ Z gB (oB+3) (.slice B1 xs1.length d1))))) (InvF.start (PB.start (Mod.refl _ _) (Nat.le_refl _) (⟨HB1.out.drew,HB2.out.drew,HC.out⟩))) ?_ ?_
 ·iterate 8 (refine .cons ?_ ?_; rotate_left)
  exact .nil
  all_goals intro D V zw1 a hR hI K hK
  all_goals try rw [if_pos (by rfl)]
  ·have hG1:=hI.1.g;obtain ⟨hG1b,hG1c,hG10,hG11,hG12,hG13⟩:=hG1;have ze2:=hR.ot 2;have zx0:=(hG1b).cell 0; have zy0:=(hG1b).frozen 0; simp at zx0;have zx1:=(hG1b).cell 1; have zy1:=(hG1b).frozen 1; simp at zx1;have zx2:=(hG1b).cell 2; have zy2:=(hG1b).frozen 2; simp at zx2;have zx3:=(hG1b).cell 3; have zy3:=(hG1b).frozen 3; simp at zx3;have zx4:=(hG1b).cell 4; have zy4:=(hG1b).frozen 4; simp at zx4;have zx5:=(hG1b).cell 5; have zy5:=(hG1b).frozen 5; simp at zx5;have zx6:=(hG1b).cell 6; have zy6:=(hG1b).frozen 6; simp at zx6;have zx7:=(hG1b).cell 7; have zy7:=(hG1b).frozen 7; simp at zx7;go_simp;exact hK _ _ (hI.nq hR HGs.out rfl)
  have ze3:=hR.ot 3;rotate_left;have hG1:=hI.1.g;obtain ⟨hG1b,hG1c,hG10,hG11,hG12,hG13⟩:=hG1;have ze25:=hI.tm hR 25 1;have zx3:=(hG1c).cell 3; have zy3:=(hG1c).frozen 3; simp at zx3;rotate_left;have ze26:=hI.tm hR 26 2;rotate_left;have hG1:=hI.1.g;obtain ⟨hG1b,hG1c,hG10,hG11,hG12,hG13⟩:=hG1;have ze27:=hI.tm hR 27 3;unfold CellQ at hG10 hG11 hG12 hG13;rotate_left
  ·have hM1:=hI.1.mod;have hG1:=hI.1.g;obtain ⟨hG1b,hG1c,hG10,hG11,hG12,hG13⟩:=hG1;have ze24:=hI.tm hR 24 0;have ze28:=hI.tm hR 28 4;go_simp;refine (H1.out zw1 (HM.out.trans hM1)).mono ?_;rintro e zw2 ⟨rfl,hm2⟩;exact hK _ _ (hI.nc hR HGs.out hm2 rfl)
  have ze29:=hI.tm hR 29 5;rotate_left;have ze30:=hI.tm hR 30 6;rotate_left
  all_goals (go_simp; exact hK _ _ (hI.nq hR HGs.out rfl))
 ·intro D V w2 hD hI;obtain ⟨hMx,hBx,hGx⟩:=hI.1;have zf0:=hI.eqA hD 0;have zf1:=hI.eqA hD 1;have zf2:=hI.eqA hD 2;have zf3:=hI.eqA hD 3;have zf4:=hI.eqA hD 4;have zf5:=hI.eqA hD 5;have zf6:=hI.eqA hD 6;have zf7:=hI.eqA hD 7;clear hI hD HGs;simp only [frAll,Act.put,List.setIfInBounds_toArray,List.set_cons_zero,List.set_cons_succ,Nat.zero_add,Nat.reduceAdd,zf0,zf1,zf2,zf3,zf4,zf5,zf6,zf7];clear zf0 zf1 zf2 zf3 zf4 zf5 zf6 zf7;clear V D;have HMX:=hd_ (HM.out.trans hMx);clear hGx hMx H1 HC HB1 HB2;go_wp2_with fail;go_ret;exact ⟨rfl,HMX.out⟩
theorem found9_calls (w:World) (x:Itm) (A:Option Addr) (n c:Nat) (Aq Bq:Option Addr) (cq dq:Nat) (nq:Int) (ws:List Str) (xs:List QR) (p:Str) (hQ:QS w (.mk 9 Aq cq (p :: ws) nq Bq dq xs)) :
  Calls Tryz.prog 86 #[tgA x (.slice A n c),qA (.mk 9 Aq cq (p :: ws) nq Bq dq xs)] w (BoolPost w (x.cust == p)):=by
 rw [qA_mk,List.length_cons]
 obtain ⟨gA,oA,hAe,p0,hd2⟩:∃ g off,Aq=some ⟨g,off,none⟩∧w.cell? ⟨g,off,none⟩=some (.string ⟨p.toArray⟩)∧ws.length+1≤cq∧cq≤9223372036854775807:=by
  obtain ⟨_,_,_,e,h1,h2,hl,hr⟩:=hQ.wsH
  cases e
  obtain ⟨g,off,rfl,hrow⟩:=hr (by simp);exact ⟨g,off,rfl,by simpa using hrow.cell (i:=0) (u:=.string ⟨p.toArray⟩) rfl,by simpa using h1,h2⟩
 subst hAe;have hb1:=(Blk.new w 110 #[.string ⟨x.id.toArray⟩,.string ⟨x.cust.toArray⟩,.int .i64 x.kind,.string ⟨x.name.toArray⟩,.int .i64 x.tm,.string ⟨x.par.toArray⟩,.string ⟨x.text.toArray⟩,.slice A n c]).alloc (.cells #[.int .i64 9,.slice (some ⟨gA,oA,none⟩) (ws.length+1) cq,.int .i64 nq,.slice Bq xs.length dq] 29);have hb2:=Blk.snd w (.cells #[.string ⟨x.id.toArray⟩,.string ⟨x.cust.toArray⟩,.int .i64 x.kind,.string ⟨x.name.toArray⟩,.int .i64 x.tm,.string ⟨x.par.toArray⟩,.string ⟨x.text.toArray⟩,.slice A n c] 110) 29 #[.int .i64 9,.slice (some ⟨gA,oA,none⟩) (ws.length+1) cq,.int .i64 nq,.slice Bq xs.length dq];have HM:Hid (Pure w ((w.alloc (.cells #[.string ⟨x.id.toArray⟩,.string ⟨x.cust.toArray⟩,.int .i64 x.kind,.string ⟨x.name.toArray⟩,.int .i64 x.tm,.string ⟨x.par.toArray⟩,.string ⟨x.text.toArray⟩,.slice A n c] 110)).alloc (.cells #[.int .i64 9,.slice (some ⟨gA,oA,none⟩) (ws.length+1) cq,.int .i64 nq,.slice Bq xs.length dq] 29))):=hd_ (((Mod.refl _ _).alloc _).alloc _);have HB1:=hd_ hb1;have HB2:=hd_ hb2;have HC:Hid (CellQ ((w.alloc (.cells #[.string ⟨x.id.toArray⟩,.string ⟨x.cust.toArray⟩,.int .i64 x.kind,.string ⟨x.name.toArray⟩,.int .i64 x.tm,.string ⟨x.par.toArray⟩,.string ⟨x.text.toArray⟩,.slice A n c] 110)).alloc (.cells #[.int .i64 9,.slice (some ⟨gA,oA,none⟩) (ws.length+1) cq,.int .i64 nq,.slice Bq xs.length dq] 29)) gA oA (.string ⟨p.toArray⟩)):=hd_ (CellQ.pure p0 HM.out);obtain ⟨x0,x1,x2,x3,x4,x5,x6,x7⟩:=hb1.c8;obtain ⟨y0,y1,y2,y3⟩:=hb2.c4;clear hQ hb1 hb2 p0;unfold tgA tgL at *
 go_enter Tryz.func86,Tryz.ntmps86
 go_upto_region 10 with (fail);generalize ((w.alloc (.cells #[.string ⟨x.id.toArray⟩,.string ⟨x.cust.toArray⟩,.int .i64 x.kind,.string ⟨x.name.toArray⟩,.int .i64 x.tm,.string ⟨x.par.toArray⟩,.string ⟨x.text.toArray⟩,.slice A n c] 110)).alloc (.cells #[.int .i64 9,.slice (some ⟨gA,oA,none⟩) (ws.length+1) cq,.int .i64 nq,.slice Bq xs.length dq] 29))=w1 at *;obtain ⟨b1,hb1⟩:∃ b,w.heap.size=b:=⟨_,rfl⟩;rw [hb1] at HB1 HB2;simp only [hb1];obtain ⟨b2,hb2⟩:∃ b,b1+1=b:=⟨_,rfl⟩;rw [hb2] at HB2;simp only [hb2];clear hb1 hb2;clear x0 x1 x2 x3 x4 x5 x6 x7 y0 y1 y2 y3;have HGs:=hd_ (show KeepG (fun Z=>Blk Z b1 110 #[.string ⟨x.id.toArray⟩,.string ⟨x.cust.toArray⟩,.int .i64 x.kind,.string ⟨x.name.toArray⟩,.int .i64 x.tm,.string ⟨x.par.toArray⟩,.string ⟨x.text.toArray⟩,.slice A n c]∧Blk Z b2 29 #[.int .i64 9,.slice (some ⟨gA,oA,none⟩) (ws.length+1) cq,.int .i64 nq,.slice Bq xs.length dq]∧CellQ Z gA oA (.string ⟨p.toArray⟩)) from fun D zzi zq zq' h hm=>by (exact ⟨h.1.modp hm,h.2.1.modp hm,h.2.2.pure hm⟩))
 refine wp_region_inv (by kernel_rfl) (by kernel_rfl) (InvF (R:=Mod (fun _=>False)) [.is (.pointer (some ⟨b1,0,none⟩)),.is (.pointer (some ⟨b1,1,none⟩)),.is (.string ⟨x.cust.toArray⟩),.is (.pointer (some ⟨b2,1,none⟩)),.is (.slice (some ⟨gA,oA,none⟩) (ws.length+1) cq),.is (.pointer (some ⟨gA,oA,none⟩)),.is (.string ⟨p.toArray⟩),.is (.bool (x.cust == p)),.is (.bool (x.cust == p))]
   (PB w1 (fun _=>False) w1.heap.size (fun _=>(fun Z=>Blk Z b1 110 #[.string ⟨x.id.toArray⟩,.string ⟨x.cust.toArray⟩,.int .i64 x.kind,.string ⟨x.name.toArray⟩,.int .i64 x.tm,.string ⟨x.par.toArray⟩,.string ⟨x.text.toArray⟩,.slice A n c]∧Blk Z b2 29 #[.int .i64 9,.slice (some ⟨gA,oA,none⟩) (ws.length+1) cq,.int .i64 nq,.slice Bq xs.length dq]∧CellQ Z gA oA (.string ⟨p.toArray⟩))))) (InvF.start (PB.start (Mod.refl _ _) (Nat.le_refl _) (⟨HB1.out.drew,HB2.out.drew,HC.out⟩))) ?_ ?_
 ·iterate 9 (refine .cons ?_ ?_; rotate_left)
  exact .nil
  all_goals intro D V zw1 a hR hI K hK
  all_goals try rw [if_pos (by rfl)]
  have ze2:=hR.ot 2;rotate_left;have ze33:=hI.tm hR 33 0;rotate_left;have hG1:=hI.1.g;obtain ⟨hG1b,hG1c,hG10⟩:=hG1;have ze34:=hI.tm hR 34 1;have zx1:=(hG1b).cell 1; have zy1:=(hG1b).frozen 1; simp at zx1;rotate_left;have ze3:=hR.ot 3;rotate_left;have hG1:=hI.1.g;obtain ⟨hG1b,hG1c,hG10⟩:=hG1;have ze36:=hI.tm hR 36 3;have zx1:=(hG1c).cell 1; have zy1:=(hG1c).frozen 1; simp at zx1;rotate_left;have ze37:=hI.tm hR 37 4;rotate_left;have hG1:=hI.1.g;obtain ⟨hG1b,hG1c,hG10⟩:=hG1;have ze38:=hI.tm hR 38 5;unfold CellQ at hG10;rotate_left;have ze35:=hI.tm hR 35 2;have ze39:=hI.tm hR 39 6;rotate_left;have ze40:=hI.tm hR 40 7;rotate_left
  all_goals (go_simp; exact hK _ _ (hI.nq hR HGs.out rfl))
 ·intro D V w2 hD hI;obtain ⟨hMx,hBx,hGx⟩:=hI.1;have zf0:=hI.eqA hD 0;have zf1:=hI.eqA hD 1;have zf2:=hI.eqA hD 2;have zf3:=hI.eqA hD 3;have zf4:=hI.eqA hD 4;have zf5:=hI.eqA hD 5;have zf6:=hI.eqA hD 6;have zf7:=hI.eqA hD 7;have zf8:=hI.eqA hD 8;clear hI hD HGs;simp only [frAll,Act.put,List.setIfInBounds_toArray,List.set_cons_zero,List.set_cons_succ,Nat.zero_add,Nat.reduceAdd,zf0,zf1,zf2,zf3,zf4,zf5,zf6,zf7,zf8];clear zf0 zf1 zf2 zf3 zf4 zf5 zf6 zf7 zf8;clear V D;have HMX:=hd_ (HM.out.trans hMx);clear hGx hMx HC HB1 HB2;go_wp2_with fail;go_ret;exact BoolPost.of (by simp) HMX.out
theorem indexW1_calls (w:World) (v:Value) (xs:List Wd) (F:Nat) (c1:Value) (P:Wd→Bool) (hv:Sl w 120 3 v (wdV xs))
  (hcf:∀ (x:Wd) (W:World),Sem.run Tryz.prog (callFunc F #[.agg #[.int .i64 (x.1.1:Int),.int .i64 (x.1.2:Int),.string ⟨x.2.toArray⟩],c1]) W = .ok (.enter F #[.agg #[.int .i64 (x.1.1:Int),.int .i64 (x.1.2:Int),.string ⟨x.2.toArray⟩],c1]) W)
  (hF:∀ (x:Wd) (W:World),x∈xs→Pure w W→Calls Tryz.prog F #[.agg #[.int .i64 (x.1.1:Int),.int .i64 (x.1.2:Int),.string ⟨x.2.toArray⟩],c1] W (BoolPost W (P x))) :
  Calls Tryz.prog 165 #[v,.func (.func F) #[] #[c1]] w (IntPost w (idxQ P xs 0)):=by
 have HF:=hd_ hF;obtain ⟨A,n,c,rfl,hc1,hc2,hl,hr⟩:=hv
 have hln:xs.length=n:=by rw [wdV_len] at hl; omega
 subst hln;have HR:=hd_ hr;clear hF hl hr
 go_enter Tryz.func165,Tryz.ntmps165
 go_wp2_with fail
 go_loopg [8] xs.length (fun gk i wr=>∃ k:Nat,xs.length - k=gk∧k≤xs.length∧i = .int .i64 (k:Int)∧idxQ P xs 0=idxQ P (xs.drop k) (k:Int)∧Pure w wr)
 case atStart=>exact ⟨0,by omega,by omega,rfl,rfl,Mod.refl _ _⟩
 case round =>
  obtain ⟨k,rfl,hk,rfl,hix,hm⟩:=hrel;have HIX:=hd_ hix;clear hix
  by_cases hlt:k<xs.length
  ·obtain ⟨g,off,rfl,hrow⟩:=HR.out (by omega);have hget:=wdV_get xs k hlt;have hq0:=(hrow.mod hm id).cell (hget.1);have hq1:=(hrow.mod hm id).cell (hget.2.1);rw [← Nat.add_assoc] at hq1;have hq2:=(hrow.mod hm id).cell (hget.2.2);rw [← Nat.add_assoc] at hq2;clear hget;have hd:xs.drop k=xs[k] :: xs.drop (k+1):=List.drop_eq_getElem_cons hlt;have hcall:=HF.out xs[k] wr (List.getElem_mem hlt) hm
   have hi2:idxQ P xs 0=if P xs[k] then (k:Int) else idxQ P (xs.drop (k+1)) ((k:Int)+1):=by rw [HIX.out,hd]; rfl
   have HI2:=hd_ hi2;have HC:=hd_ hcall;clear hd hi2 hcall hrow HIX;generalize xs[k]=x at *;go_wp2_with fail;refine HC.out.mono ?_;rintro e w1 ⟨rfl,hm1⟩
   cases hp:P x
   ·go_wp2_with fail
    go_roundg (xs.length - (k+1))
    case measure=>omega
    case rel=>exact ⟨k+1,rfl,hlt,by simp,by rw [HI2.out,hp]; simp,hm.trans hm1⟩
   ·go_wp2_with fail;go_ret;exact IntPost.of (by rw [HI2.out,hp]; rfl) (hm.trans hm1)
  ·have hke:k=xs.length:=(by omega);subst hke;go_wp2_with fail;go_ret;exact IntPost.of (by rw [HIX.out,List.drop_of_length_le (Nat.le_refl _)]; rfl) hm
theorem containsW1_calls (w:World) (v:Value) (xs:List Wd) (F:Nat) (c1:Value) (P:Wd→Bool) (hv:Sl w 120 3 v (wdV xs))
  (hcf:∀ (x:Wd) (W:World),Sem.run Tryz.prog (callFunc F #[.agg #[.int .i64 (x.1.1:Int),.int .i64 (x.1.2:Int),.string ⟨x.2.toArray⟩],c1]) W = .ok (.enter F #[.agg #[.int .i64 (x.1.1:Int),.int .i64 (x.1.2:Int),.string ⟨x.2.toArray⟩],c1]) W)
  (hF:∀ (x:Wd) (W:World),x∈xs→Pure w W→Calls Tryz.prog F #[.agg #[.int .i64 (x.1.1:Int),.int .i64 (x.1.2:Int),.string ⟨x.2.toArray⟩],c1] W (BoolPost W (P x))) :
  Calls Tryz.prog 95 #[v,.func (.func F) #[] #[c1]] w (BoolPost w (xs.any P)):=by
 have HC:=hd_ (indexW1_calls w v xs F c1 P hv hcf hF);have HI:=hd_ (idxQ_any P xs 0 (by omega));clear hcf hF;obtain ⟨A,n,c,rfl⟩:=hv.form;clear hv
 go_enter Tryz.func95,Tryz.ntmps95
 go_wp2_with fail;refine HC.out.mono ?_;rintro e w1 ⟨rfl,hm1⟩;generalize idxQ P xs 0=r at *;go_wp2_with fail;go_ret;exact BoolPost.of HI.out.symm hm1
theorem found3c_calls (w:World) (b2 gA oA:Nat) (Bq:Option Addr) (cq dq:Nat) (nq:Int) (ws:List Str) (xs:List QR) (p:Str) (y:Wd) (hB:Blk w b2 29 #[.int .i64 11,.slice (some ⟨gA,oA,none⟩) (ws.length+1) cq,.int .i64 nq,.slice Bq xs.length dq]) (hC:CellQ w gA oA (.string ⟨p.toArray⟩)) (hcq:ws.length+1≤cq∧cq≤9223372036854775807) (hp:p.length≤1000000) (hy:y.2.length≤1000000) :
  Calls Tryz.prog 152 #[.agg #[.int .i64 (y.1.1:Int),.int .i64 (y.1.2:Int),.string ⟨y.2.toArray⟩],.pointer (some ⟨b2,0,none⟩)] w (BoolPost w (fitsB p y.2)):=by
 have hb1:=hB.alloc (.cells #[.int .i64 (y.1.1:Int),.int .i64 (y.1.2:Int),.string ⟨y.2.toArray⟩] 120);have hb2:=Blk.new w 120 #[.int .i64 (y.1.1:Int),.int .i64 (y.1.2:Int),.string ⟨y.2.toArray⟩];have HM:Hid (Pure w (w.alloc (.cells #[.int .i64 (y.1.1:Int),.int .i64 (y.1.2:Int),.string ⟨y.2.toArray⟩] 120))):=hd_ ((Mod.refl _ _).alloc _);have HB1:=hd_ hb1;have HB2:=hd_ hb2;have HC:=hd_ (hC.pure HM.out);have HF:=hd_ (fun W=>fits_calls W p y.2 hp hy);clear hB hC hb1 hb2;generalize fitsB p y.2=r at *
 go_enter Tryz.func152,Tryz.ntmps152
 go_upto_region 1 with (fail);generalize (w.alloc (.cells #[.int .i64 (y.1.1:Int),.int .i64 (y.1.2:Int),.string ⟨y.2.toArray⟩] 120))=w1 at *;generalize w.heap.size=b1 at *;have HGs:=hd_ (show KeepG (fun Z=>Blk Z b2 29 #[.int .i64 11,.slice (some ⟨gA,oA,none⟩) (ws.length+1) cq,.int .i64 nq,.slice Bq xs.length dq]∧Blk Z b1 120 #[.int .i64 (y.1.1:Int),.int .i64 (y.1.2:Int),.string ⟨y.2.toArray⟩]∧CellQ Z gA oA (.string ⟨p.toArray⟩)) from fun D zzi zq zq' h hm=>by (exact ⟨h.1.modp hm,h.2.1.modp hm,h.2.2.pure hm⟩))
 refine wp_region_inv (by kernel_rfl) (by kernel_rfl) (InvF (R:=Mod (fun _=>False)) [.is (.pointer (some ⟨b2,1,none⟩)),.is (.slice (some ⟨gA,oA,none⟩) (ws.length+1) cq),.is (.pointer (some ⟨gA,oA,none⟩)),.is (.string ⟨p.toArray⟩),.is (.pointer (some ⟨b1,2,none⟩)),.is (.string ⟨y.2.toArray⟩),.is (.bool r),.is (.bool r)]
   (PB w1 (fun _=>False) w1.heap.size (fun _=>(fun Z=>Blk Z b2 29 #[.int .i64 11,.slice (some ⟨gA,oA,none⟩) (ws.length+1) cq,.int .i64 nq,.slice Bq xs.length dq]∧Blk Z b1 120 #[.int .i64 (y.1.1:Int),.int .i64 (y.1.2:Int),.string ⟨y.2.toArray⟩]∧CellQ Z gA oA (.string ⟨p.toArray⟩))))) (InvF.start (PB.start (Mod.refl _ _) (Nat.le_refl _) (⟨HB1.out.drew,HB2.out.drew,HC.out⟩))) ?_ ?_
 ·iterate 8 (refine .cons ?_ ?_; rotate_left)
  exact .nil
  all_goals intro D V zw1 a hR hI K hK
  all_goals try rw [if_pos (by rfl)]
  have ze1:=hR.ot 1;rotate_left;have hG1:=hI.1.g;obtain ⟨hG1b,hG1c,hG10⟩:=hG1;have ze4:=hI.tm hR 4 0;have zx1:=(hG1b).cell 1; have zy1:=(hG1b).frozen 1; simp at zx1;rotate_left;have ze5:=hI.tm hR 5 1;rotate_left;have hG1:=hI.1.g;obtain ⟨hG1b,hG1c,hG10⟩:=hG1;have ze6:=hI.tm hR 6 2;unfold CellQ at hG10;rotate_left;have ze2:=hR.ot 2;rotate_left;have hG1:=hI.1.g;obtain ⟨hG1b,hG1c,hG10⟩:=hG1;have ze8:=hI.tm hR 8 4;have zx2:=(hG1c).cell 2; have zy2:=(hG1c).frozen 2; simp at zx2;rotate_left
  ·have hG1:=hI.1.g;obtain ⟨hG1b,hG1c,hG10⟩:=hG1;have ze7:=hI.tm hR 7 3;have ze9:=hI.tm hR 9 5;go_simp;refine (HF.out zw1).mono ?_;rintro e zw2 ⟨rfl,hm2⟩;exact hK _ _ (hI.nc hR HGs.out hm2 rfl)
  have ze10:=hI.tm hR 10 6;rotate_left
  all_goals (go_simp; exact hK _ _ (hI.nq hR HGs.out rfl))
 ·intro D V w2 hD hI;obtain ⟨hMx,hBx,hGx⟩:=hI.1;have zf0:=hI.eqA hD 0;have zf1:=hI.eqA hD 1;have zf2:=hI.eqA hD 2;have zf3:=hI.eqA hD 3;have zf4:=hI.eqA hD 4;have zf5:=hI.eqA hD 5;have zf6:=hI.eqA hD 6;have zf7:=hI.eqA hD 7;clear hI hD HGs;simp only [frAll,Act.put,List.setIfInBounds_toArray,List.set_cons_zero,List.set_cons_succ,Nat.zero_add,Nat.reduceAdd,zf0,zf1,zf2,zf3,zf4,zf5,zf6,zf7];clear zf0 zf1 zf2 zf3 zf4 zf5 zf6 zf7;clear V D;have HMX:=hd_ (HM.out.trans hMx);clear hGx hMx HC HB1 HB2;go_wp2_with fail;go_ret;exact ⟨rfl,HMX.out⟩
theorem found11_calls (w:World) (x:Itm) (A:Option Addr) (n c:Nat) (Aq Bq:Option Addr) (cq dq:Nat) (nq:Int) (ws:List Str) (xs:List QR) (p:Str) (hQ:QS w (.mk 11 Aq cq (p :: ws) nq Bq dq xs)) (hp:p.length≤1000000) (hn:x.name.length≤1000000) (hy:∀ y∈wordsQ x.name,y.2.length≤1000000) :
  Calls Tryz.prog 86 #[tgA x (.slice A n c),qA (.mk 11 Aq cq (p :: ws) nq Bq dq xs)] w (BoolPost w ((wordsQ x.name).any (fun y=>fitsB p y.2))):=by
 rw [qA_mk,List.length_cons]
 obtain ⟨gA,oA,hAe,p0,hd2⟩:∃ g off,Aq=some ⟨g,off,none⟩∧w.cell? ⟨g,off,none⟩=some (.string ⟨p.toArray⟩)∧ws.length+1≤cq∧cq≤9223372036854775807:=by
  obtain ⟨_,_,_,e,h1,h2,hl,hr⟩:=hQ.wsH
  cases e
  obtain ⟨g,off,rfl,hrow⟩:=hr (by simp);exact ⟨g,off,rfl,by simpa using hrow.cell (i:=0) (u:=.string ⟨p.toArray⟩) rfl,by simpa using h1,h2⟩
 subst hAe;have hb1:=(Blk.new w 110 #[.string ⟨x.id.toArray⟩,.string ⟨x.cust.toArray⟩,.int .i64 x.kind,.string ⟨x.name.toArray⟩,.int .i64 x.tm,.string ⟨x.par.toArray⟩,.string ⟨x.text.toArray⟩,.slice A n c]).alloc (.cells #[.int .i64 11,.slice (some ⟨gA,oA,none⟩) (ws.length+1) cq,.int .i64 nq,.slice Bq xs.length dq] 29);have hb2:=Blk.snd w (.cells #[.string ⟨x.id.toArray⟩,.string ⟨x.cust.toArray⟩,.int .i64 x.kind,.string ⟨x.name.toArray⟩,.int .i64 x.tm,.string ⟨x.par.toArray⟩,.string ⟨x.text.toArray⟩,.slice A n c] 110) 29 #[.int .i64 11,.slice (some ⟨gA,oA,none⟩) (ws.length+1) cq,.int .i64 nq,.slice Bq xs.length dq];have HM:Hid (Pure w ((w.alloc (.cells #[.string ⟨x.id.toArray⟩,.string ⟨x.cust.toArray⟩,.int .i64 x.kind,.string ⟨x.name.toArray⟩,.int .i64 x.tm,.string ⟨x.par.toArray⟩,.string ⟨x.text.toArray⟩,.slice A n c] 110)).alloc (.cells #[.int .i64 11,.slice (some ⟨gA,oA,none⟩) (ws.length+1) cq,.int .i64 nq,.slice Bq xs.length dq] 29))):=hd_ (((Mod.refl _ _).alloc _).alloc _);have HB1:=hd_ hb1;have HB2:=hd_ hb2;have HC:Hid (CellQ ((w.alloc (.cells #[.string ⟨x.id.toArray⟩,.string ⟨x.cust.toArray⟩,.int .i64 x.kind,.string ⟨x.name.toArray⟩,.int .i64 x.tm,.string ⟨x.par.toArray⟩,.string ⟨x.text.toArray⟩,.slice A n c] 110)).alloc (.cells #[.int .i64 11,.slice (some ⟨gA,oA,none⟩) (ws.length+1) cq,.int .i64 nq,.slice Bq xs.length dq] 29)) gA oA (.string ⟨p.toArray⟩)):=hd_ (CellQ.pure p0 HM.out);have HW:=hd_ (words_calls ((w.alloc (.cells #[.string ⟨x.id.toArray⟩,.string ⟨x.cust.toArray⟩,.int .i64 x.kind,.string ⟨x.name.toArray⟩,.int .i64 x.tm,.string ⟨x.par.toArray⟩,.string ⟨x.text.toArray⟩,.slice A n c] 110)).alloc (.cells #[.int .i64 11,.slice (some ⟨gA,oA,none⟩) (ws.length+1) cq,.int .i64 nq,.slice Bq xs.length dq] 29)) x.name hn)
 have HF:Hid (∀ W,Pure ((w.alloc (.cells #[.string ⟨x.id.toArray⟩,.string ⟨x.cust.toArray⟩,.int .i64 x.kind,.string ⟨x.name.toArray⟩,.int .i64 x.tm,.string ⟨x.par.toArray⟩,.string ⟨x.text.toArray⟩,.slice A n c] 110)).alloc (.cells #[.int .i64 11,.slice (some ⟨gA,oA,none⟩) (ws.length+1) cq,.int .i64 nq,.slice Bq xs.length dq] 29)) W→∀ v,Wds W v (wordsQ x.name)→Calls Tryz.prog 95 #[v,.func (.func 152) #[] #[.pointer (some ⟨w.heap.size+1,0,none⟩)]] W (BoolPost W ((wordsQ x.name).any (fun y=>fitsB p y.2)))):=hd_ (fun W hW v hv =>
  containsW1_calls W v (wordsQ x.name) 152 (.pointer (some ⟨w.heap.size+1,0,none⟩)) (fun y=>fitsB p y.2) hv (fun y V=>rfl) (fun y V hyy hV=>found3c_calls V (w.heap.size+1) gA oA Bq cq dq nq ws xs p y (HB2.out.modp (hW.trans hV)) (HC.out.pure (hW.trans hV)) hd2 hp (hy y hyy)))
 obtain ⟨x0,x1,x2,x3,x4,x5,x6,x7⟩:=hb1.c8;obtain ⟨y0,y1,y2,y3⟩:=hb2.c4;clear hQ hb1 hb2 p0 hp hy;unfold tgA tgL
 go_enter Tryz.func86,Tryz.ntmps86
 go_wp2_with fail;refine HW.out.mono ?_;rintro e w3 ⟨v,rfl,hq,hm3⟩;have HC2:=hd_ (HF.out _ hm3 v (Sl.of_own hq));go_wp2_with fail;refine HC2.out.mono ?_;rintro e w4 ⟨rfl,hm4⟩;go_wp2_with fail;go_ret;exact ⟨rfl,(HM.out.trans hm3).trans hm4⟩
def toQ (x:Itm):ItQ:=⟨x.cust,x.kind,wsQ (wordsQ x.name),x.tm.tdiv 1440,wsQ (wordsQ x.text)⟩
inductive FdR:Qry→Prop
 | pl {k:Int} {ws:List Str} {n:Int} {xs:List Qry} (hk:2≤k∧k≤5) (h:PlR (.mk k ws n xs)):FdR (.mk k ws n xs)
 | yes {ws:List Str} {n:Int} {xs:List Qry}:FdR (.mk 1 ws n xs)
 | all {ws:List Str} {n:Int} {xs:List Qry} (hs:∀ a∈xs,FdR a):FdR (.mk 6 ws n xs)
 | any {ws:List Str} {n:Int} {xs:List Qry} (hs:∀ a∈xs,FdR a):FdR (.mk 7 ws n xs)
 | no {ws:List Str} {n:Int} {a:Qry} (h:FdR a):FdR (.mk 8 ws n [a])
 | own {p:Str} {ws:List Str} {n:Int} {xs:List Qry}:FdR (.mk 9 (p :: ws) n xs)
 | kin {ws:List Str} {n:Int} {xs:List Qry}:FdR (.mk 10 ws n xs)
 | nam {p:Str} {ws:List Str} {n:Int} {xs:List Qry}:FdR (.mk 11 (p :: ws) n xs)
 | since {ws:List Str} {n:Int} {xs:List Qry}:FdR (.mk 12 ws n xs)
 | till {ws:List Str} {n:Int} {xs:List Qry}:FdR (.mk 13 ws n xs)
section
variable {x:ItQ} {ws:List Str} {n:Int} {xs:List Qry} {p:Str} {a:Qry}
theorem fnd_2:fndQ x (.mk 2 ws n xs)=somePl (plcQ x.ws (.mk 2 ws n xs)) x.ws.length:=by rw [fndQ]; rfl
theorem fnd_3:fndQ x (.mk 3 ws n xs)=somePl (plcQ x.ws (.mk 3 ws n xs)) x.ws.length:=by rw [fndQ]; rfl
theorem fnd_4:fndQ x (.mk 4 ws n xs)=somePl (plcQ x.ws (.mk 4 ws n xs)) x.ws.length:=by rw [fndQ]; rfl
theorem fnd_5:fndQ x (.mk 5 ws n xs)=somePl (plcQ x.ws (.mk 5 ws n xs)) x.ws.length:=by rw [fndQ]; rfl
theorem fnd_1:fndQ x (.mk 1 ws n xs)=true:=by rw [fndQ]; rfl
theorem fnd_6:fndQ x (.mk 6 ws n xs) = !(xs.map (fndQ x)).any (fun b => !b):=by rw [fndQ]; rfl
theorem fnd_7:fndQ x (.mk 7 ws n xs)=(xs.map (fndQ x)).any (fun b=>b):=by rw [fndQ]; rfl
theorem fnd_8:fndQ x (.mk 8 ws n [a]) = !(fndQ x a):=by rw [fndQ]; rfl
theorem fnd_9:fndQ x (.mk 9 (p :: ws) n xs)=(x.cust == p):=by rw [fndQ]; rfl
theorem fnd_10:fndQ x (.mk 10 ws n xs)=decide (x.kind=n):=by rw [fndQ]; rfl
theorem fnd_11:fndQ x (.mk 11 (p :: ws) n xs)=x.names.any (fun w=>fitsB p w):=by rw [fndQ]; rfl
theorem fnd_12:fndQ x (.mk 12 ws n xs)=decide (n≤x.day):=by rw [fndQ]; rfl
theorem fnd_13:fndQ x (.mk 13 ws n xs)=decide (x.day≤n):=by rw [fndQ]; rfl
end
theorem found_calls (x:Itm) (A:Option Addr) (n c:Nat) (ht0 : -1000000000000≤x.tm) (ht1:x.tm≤1000000000000) (hn:x.name.length≤1000000) (hy:∀ y∈wordsQ x.name,y.2.length≤1000000) (hW:(wordsQ x.text).length≤1000) (hwl:∀ y∈wordsQ x.text,y.2.length≤1000000) :
  ∀ (qr:QR) (w:World),FdR qr.key→QB 1000 qr.key→QS w qr→Wds w (.slice A n c) (wordsQ x.text)→Calls Tryz.prog 86 #[tgA x (.slice A n c),qA qr] w (BoolPost w (fndQ (toQ x) qr.key)):=by
 refine QR.ind fun k Aq cq ws nq Bq dq xs ih => ?_;intro w hp hb hQ hw
 have hP:PlR (QR.mk k Aq cq ws nq Bq dq xs).key→∀ W',Pure w W'→Calls Tryz.prog 156 #[qA (.mk k Aq cq ws nq Bq dq xs),.slice A n c] W' (RnP W' (wordsQ x.text).length (plcQ (wsQ (wordsQ x.text)) (QR.mk k Aq cq ws nq Bq dq xs).key)) :=
  fun h W' h'=>places_calls (.slice A n c) (wordsQ x.text) hW hwl (.mk k Aq cq ws nq Bq dq xs) W' h hb (hQ.pure h') (hw.pure h')
 rw [QR.key_mk] at hp hb hP ⊢;have hl:(toQ x).ws=wsQ (wordsQ x.text):=rfl;generalize hks:xs.map QR.key=ks at hp hb hP ⊢
 cases hp with
 | pl hk h =>
  obtain rfl | rfl | rfl | rfl:k=2∨k=3∨k=4∨k=5:=by omega
  ·rw [fnd_2,hl,wsQ_len];exact found2_calls w x A n c Aq Bq cq dq nq ws xs _ _ (by omega) (hP h)
  ·rw [fnd_3,hl,wsQ_len];exact found3_calls w x A n c Aq Bq cq dq nq ws xs _ _ (by omega) (hP h)
  ·rw [fnd_4,hl,wsQ_len];exact found4_calls w x A n c Aq Bq cq dq nq ws xs _ _ (by omega) (hP h)
  ·rw [fnd_5,hl,wsQ_len];exact found5_calls w x A n c Aq Bq cq dq nq ws xs _ _ (by omega) (hP h)
 | yes =>
  rw [fnd_1];exact found1_calls w x A n c Aq Bq cq dq nq ws xs
 | all hs =>
  subst hks
  have h1:(!((xs.map QR.key).map (fndQ (toQ x))).any (fun b => !b)) = !xs.any (fun a => !(fndQ (toQ x) a.key)):=by rw [List.any_map,List.any_map]; rfl
  rw [fnd_6,h1];exact found6_calls w x A n c Aq Bq cq dq nq ws xs (fun a=>fndQ (toQ x) a.key) hQ (fun a ha V hV=>ih a ha V (hs _ (List.mem_map.2 ⟨a,ha,rfl⟩)) (hb.allH _ (List.mem_map.2 ⟨a,ha,rfl⟩)) ((hQ.allH a ha).pure hV) (hw.pure hV))
 | any hs =>
  subst hks
  have h1:((xs.map QR.key).map (fndQ (toQ x))).any (fun b=>b)=xs.any (fun a=>fndQ (toQ x) a.key):=by rw [List.any_map,List.any_map]; rfl
  rw [fnd_7,h1];exact found7_calls w x A n c Aq Bq cq dq nq ws xs (fun a=>fndQ (toQ x) a.key) hQ (fun a ha V hV=>ih a ha V (hs _ (List.mem_map.2 ⟨a,ha,rfl⟩)) (hb.allH _ (List.mem_map.2 ⟨a,ha,rfl⟩)) ((hQ.allH a ha).pure hV) (hw.pure hV))
 | no h =>
  obtain ⟨a,xs',rfl,rfl,h3⟩:=List.map_eq_cons_iff.1 hks;have h5:=List.map_eq_nil_iff.1 h3;subst h5;rw [fnd_8];exact found8_calls w x A n c Aq Bq cq dq nq ws a (fndQ (toQ x) a.key) hQ (fun V hV=>ih a (by simp) V h (hb.allH _ (by simp)) ((hQ.allH a (by simp)).pure hV) (hw.pure hV))
 | own =>
  rename_i p ws'
  rw [fnd_9];exact found9_calls w x A n c Aq Bq cq dq nq ws' xs p hQ
 | kin =>
  rw [fnd_10];exact found10_calls w x A n c Aq Bq cq dq nq ws xs
 | nam =>
  rename_i p ws'
  have h1:(toQ x).names.any (fun w=>fitsB p w)=(wordsQ x.name).any (fun y=>fitsB p y.2):=by
   show (wsQ (wordsQ x.name)).any _=_
   unfold wsQ;rw [List.any_map]
   rfl
  rw [fnd_11,h1];exact found11_calls w x A n c Aq Bq cq dq nq ws' xs p hQ (by have:=hb.wsH.2 p (by simp); omega) hn hy
 | since =>
  rw [fnd_12];exact found12_calls w x A n c Aq Bq cq dq nq ws xs ht0 ht1
 | till =>
  rw [fnd_13];exact found13_calls w x A n c Aq Bq cq dq nq ws xs ht0 ht1
def NtP (w:World) (x:Itm) (e:Ending) (w':World):Prop:=∃ A n c,e = .returned (tgA x (.slice A n c))∧Wds w' (.slice A n c) (wordsQ x.text)∧Pure w w'
theorem newTarget_calls (w:World) (x:Itm) (ht:x.text.length≤1000000):Calls Tryz.prog 85 #[itA x] w (NtP w x):=by
 have hb1:=(Blk.new w 62 #[.string ⟨x.id.toArray⟩,.string ⟨x.cust.toArray⟩,.int .i64 x.kind,.string ⟨x.name.toArray⟩,.int .i64 x.tm,.string ⟨x.par.toArray⟩,.string ⟨x.text.toArray⟩]).alloc (.cells #[.string ⟨#[]⟩,.string ⟨#[]⟩,.int .i64 0,.string ⟨#[]⟩,.int .i64 0,.string ⟨#[]⟩,.string ⟨#[]⟩,.slice none 0 0] 110);have hb2:=Blk.snd w (.cells #[.string ⟨x.id.toArray⟩,.string ⟨x.cust.toArray⟩,.int .i64 x.kind,.string ⟨x.name.toArray⟩,.int .i64 x.tm,.string ⟨x.par.toArray⟩,.string ⟨x.text.toArray⟩] 62) 110 #[.string ⟨#[]⟩,.string ⟨#[]⟩,.int .i64 0,.string ⟨#[]⟩,.int .i64 0,.string ⟨#[]⟩,.string ⟨#[]⟩,.slice none 0 0];have HM:Hid (Pure w ((w.alloc (.cells #[.string ⟨x.id.toArray⟩,.string ⟨x.cust.toArray⟩,.int .i64 x.kind,.string ⟨x.name.toArray⟩,.int .i64 x.tm,.string ⟨x.par.toArray⟩,.string ⟨x.text.toArray⟩] 62)).alloc (.cells #[.string ⟨#[]⟩,.string ⟨#[]⟩,.int .i64 0,.string ⟨#[]⟩,.int .i64 0,.string ⟨#[]⟩,.string ⟨#[]⟩,.slice none 0 0] 110))):=hd_ (((Mod.refl _ _).alloc _).alloc _);have HB1:=hd_ hb1;have HB2:=hd_ hb2;have hbu:w.heap.size+1≤w.heap.size+1:=Nat.le_refl _;clear hb1 hb2;unfold itA
 go_enter Tryz.func85,Tryz.ntmps85
 go_upto_region 1 with (fail);generalize ((w.alloc (.cells #[.string ⟨x.id.toArray⟩,.string ⟨x.cust.toArray⟩,.int .i64 x.kind,.string ⟨x.name.toArray⟩,.int .i64 x.tm,.string ⟨x.par.toArray⟩,.string ⟨x.text.toArray⟩] 62)).alloc (.cells #[.string ⟨#[]⟩,.string ⟨#[]⟩,.int .i64 0,.string ⟨#[]⟩,.int .i64 0,.string ⟨#[]⟩,.string ⟨#[]⟩,.slice none 0 0] 110))=w1 at *;obtain ⟨b1,hb1⟩:∃ b,w.heap.size=b:=⟨_,rfl⟩;rw [hb1] at HB1 HB2;simp only [hb1];obtain ⟨b2,hb2⟩:∃ b,b1+1=b:=⟨_,rfl⟩;rw [hb2] at HB2;simp only [hb2];have hbl:w.heap.size≤b2:=(by omega);clear hb1 hb2 hbu;have h1:=HB1.out;obtain ⟨u0,u1,u2,u3,u4,u5,u6⟩:=h1.c7;clear h1;have HWD:=hd_ (fun W=>words_calls W x.text ht)
 go_region_with (go_at_call 149; (refine (HWD.out _).mono ?_); rintro e w5 ⟨v,rfl,hq,hm5⟩; obtain ⟨A,n,c,rfl⟩:=(Sl.of_own hq).form; have hP5:=((Mod.refl (fun _=>False) w1).drew).trans hm5; have hc2:=HB2.out.modp hP5; have hc1:=HB1.out.modp hP5; obtain ⟨q0,q1,q2,q3,q4,q5,q6,q7,qf0,qf1,qf2,qf3,qf4,qf5,qf6,qf7⟩:=hc2.c8f; obtain ⟨r0,r1,r2,r3,r4,r5,r6⟩:=hc1.c7)
 all_goals
  have HS:=hd_ (show Wds w5 (.slice A n c) (wordsQ x.text) from Sl.of_own hq);have HP5:=hd_ hP5;have HC2:=hd_ hc2;clear hq hm5 hP5 hc1 hc2
  try simp only [Exit.inBlock,Exit.then]
  have h9:=(((((((HC2.out.set 0 (.string ⟨x.id.toArray⟩)).set 1 (.string ⟨x.cust.toArray⟩)).set 2 (.int .i64 x.kind)).set 3 (.string ⟨x.name.toArray⟩)).set 4 (.int .i64 x.tm)).set 5 (.string ⟨x.par.toArray⟩)).set 6 (.string ⟨x.text.toArray⟩)).set 7 (.slice A n c);simp at h9;have hm9:=mod_set (mod_set (mod_set (mod_set (mod_set (mod_set (mod_set (mod_set (Mod.refl (· = b2) w5) 0 (.string ⟨x.id.toArray⟩)) 1 (.string ⟨x.cust.toArray⟩)) 2 (.int .i64 x.kind)) 3 (.string ⟨x.name.toArray⟩)) 4 (.int .i64 x.tm)) 5 (.string ⟨x.par.toArray⟩)) 6 (.string ⟨x.text.toArray⟩)) 7 (.slice A n c);have HS9:=hd_ (Sl.mod HS.out hm9 (fun g arr fr hg he=>by subst he; have h:=HC2.out; unfold Blk at h; rw [h] at hg; injection hg with hg; injection hg with _ hg; exact absurd hg (by decide)));have HM9:=hd_ ((HM.out.trans HP5.out).trans' hm9 (fun i hi hlt=>by omega));obtain ⟨z0,z1,z2,z3,z4,z5,z6,z7⟩:=h9.c8;clear hm9 h9;go_wp2_with fail
  try simp only [Exit.inBlock,Exit.then]
  refine bodyPost_ret (v:=.agg #[.string ⟨x.id.toArray⟩,.string ⟨x.cust.toArray⟩,.int .i64 x.kind,.string ⟨x.name.toArray⟩,.int .i64 x.tm,.string ⟨x.par.toArray⟩,.string ⟨x.text.toArray⟩,.slice A n c]) (by simp [results,Tryz.results85,go_sem,z0,z1,z2,z3,z4,z5,z6,z7]) rfl ?_;exact ⟨A,n,c,rfl,HS9.out,HM9.out⟩
theorem matchesK_calls (w:World) (x:Itm) (Aq Bq:Option Addr) (cq dq:Nat) (k nq:Int) (ws:List Str) (xs:List QR) (ans:Bool) (hx:ItL x) (hE:Env w) (hie:itemE x=0) (hQ:QS w (.mk k Aq cq ws nq Bq dq xs)) (hB:QB 1000 (QR.mk k Aq cq ws nq Bq dq xs).key) (hc:checkQ (QR.mk k Aq cq ws nq Bq dq xs).key=0)
  (hP:∀ W A n c,Pure w W→Wds W (.slice A n c) (wordsQ x.text)→Calls Tryz.prog 86 #[tgA x (.slice A n c),qA (.mk k Aq cq ws nq Bq dq xs)] W (BoolPost W ans)) :
  Calls Tryz.prog 33 #[qA (.mk k Aq cq ws nq Bq dq xs),itA x] w (fun e w'=>e = .returned (.tuple #[.bool ans,.int .i64 0])∧Pure w w'):=by
 have hxt:x.text.length≤1000000:=by have:=hx.2.2.2.2; omega
 have HCK:=hd_ (fun W (h:QS W (QR.mk k Aq cq ws nq Bq dq xs))=>by have h2:=qcheck_calls W (.mk k Aq cq ws nq Bq dq xs) h hB; rw [hc] at h2; exact h2);have HIC:=hd_ (fun W (h:Pure w W)=>by have h2:=checkItemL_calls W x hx (hE.pure h); rw [hie] at h2; exact h2);have HNT:=hd_ (fun W=>newTarget_calls W x hxt);have HFD:=hd_ hP;have HQ:=hd_ hQ;have hb1:=(Blk.new w 29 #[.int .i64 k,.slice Aq ws.length cq,.int .i64 nq,.slice Bq xs.length dq]).alloc (.cells #[.string ⟨x.id.toArray⟩,.string ⟨x.cust.toArray⟩,.int .i64 x.kind,.string ⟨x.name.toArray⟩,.int .i64 x.tm,.string ⟨x.par.toArray⟩,.string ⟨x.text.toArray⟩] 62);have hb2:=Blk.snd w (.cells #[.int .i64 k,.slice Aq ws.length cq,.int .i64 nq,.slice Bq xs.length dq] 29) 62 #[.string ⟨x.id.toArray⟩,.string ⟨x.cust.toArray⟩,.int .i64 x.kind,.string ⟨x.name.toArray⟩,.int .i64 x.tm,.string ⟨x.par.toArray⟩,.string ⟨x.text.toArray⟩];have HM:Hid (Pure w ((w.alloc (.cells #[.int .i64 k,.slice Aq ws.length cq,.int .i64 nq,.slice Bq xs.length dq] 29)).alloc (.cells #[.string ⟨x.id.toArray⟩,.string ⟨x.cust.toArray⟩,.int .i64 x.kind,.string ⟨x.name.toArray⟩,.int .i64 x.tm,.string ⟨x.par.toArray⟩,.string ⟨x.text.toArray⟩] 62))):=hd_ (((Mod.refl _ _).alloc _).alloc _);have HB1:=hd_ hb1;have HB2:=hd_ hb2;clear hb1 hb2 hx hE hie hQ hB hc hP hxt;simp only [qA_mk] at HCK HFD ⊢;unfold itA at HIC HNT ⊢
 go_enter Tryz.func33,Tryz.ntmps33
 go_upto_region 1 with (fail);generalize ((w.alloc (.cells #[.int .i64 k,.slice Aq ws.length cq,.int .i64 nq,.slice Bq xs.length dq] 29)).alloc (.cells #[.string ⟨x.id.toArray⟩,.string ⟨x.cust.toArray⟩,.int .i64 x.kind,.string ⟨x.name.toArray⟩,.int .i64 x.tm,.string ⟨x.par.toArray⟩,.string ⟨x.text.toArray⟩] 62))=w1 at *;obtain ⟨b1,hb1⟩:∃ b,w.heap.size=b:=⟨_,rfl⟩;rw [hb1] at HB1 HB2;simp only [hb1];obtain ⟨b2,hb2⟩:∃ b,b1+1=b:=⟨_,rfl⟩;rw [hb2] at HB2;simp only [hb2];clear hb1 hb2;have HGs:=hd_ (show KeepG (fun Z=>Blk Z b1 29 #[.int .i64 k,.slice Aq ws.length cq,.int .i64 nq,.slice Bq xs.length dq]∧Blk Z b2 62 #[.string ⟨x.id.toArray⟩,.string ⟨x.cust.toArray⟩,.int .i64 x.kind,.string ⟨x.name.toArray⟩,.int .i64 x.tm,.string ⟨x.par.toArray⟩,.string ⟨x.text.toArray⟩]) from fun D zzi zq zq' h hm=>by (exact ⟨h.1.modp hm,h.2.modp hm⟩))
 refine wp_region_inv (by kernel_rfl) (by kernel_rfl) (InvF (R:=Mod (fun _=>False)) [.is (.agg #[.int .i64 k,.slice Aq ws.length cq,.int .i64 nq,.slice Bq xs.length dq]),.is (.int .i64 0),.is (.agg #[.string ⟨x.id.toArray⟩,.string ⟨x.cust.toArray⟩,.int .i64 x.kind,.string ⟨x.name.toArray⟩,.int .i64 x.tm,.string ⟨x.par.toArray⟩,.string ⟨x.text.toArray⟩]),.is (.int .i64 0),⟨fun zv zw=>∃ (g_4:Nat),zv = .slice (some ⟨g_4,0,none⟩) 2 2∧w1.heap.size≤g_4∧Blk zw g_4 30 #[.int .i64 0,.int .i64 0],(by rintro zv zw zx ⟨g_4,rfl,c0,q0⟩ hm; exact ⟨g_4,rfl,c0,(q0.modp hm)⟩),none,some 5⟩,.is (.int .i64 0),.is (.int .i64 0)]
   (PB w1 (fun _=>False) w1.heap.size (fun _=>(fun Z=>Blk Z b1 29 #[.int .i64 k,.slice Aq ws.length cq,.int .i64 nq,.slice Bq xs.length dq]∧Blk Z b2 62 #[.string ⟨x.id.toArray⟩,.string ⟨x.cust.toArray⟩,.int .i64 x.kind,.string ⟨x.name.toArray⟩,.int .i64 x.tm,.string ⟨x.par.toArray⟩,.string ⟨x.text.toArray⟩])))) (InvF.start (PB.start (Mod.refl _ _) (Nat.le_refl _) (⟨HB1.out.drew,HB2.out.drew⟩))) ?_ ?_
 ·iterate 7 (refine .cons ?_ ?_; rotate_left)
  exact .nil
  all_goals intro D V zw1 a hR hI K hK
  all_goals try rw [if_pos (by rfl)]
  ·have hG1:=hI.1.g;obtain ⟨hG1b,hG1c⟩:=hG1;have ze2:=hR.ot 2;have zx0:=(hG1b).cell 0; have zy0:=(hG1b).frozen 0; simp at zx0;have zx1:=(hG1b).cell 1; have zy1:=(hG1b).frozen 1; simp at zx1;have zx2:=(hG1b).cell 2; have zy2:=(hG1b).frozen 2; simp at zx2;have zx3:=(hG1b).cell 3; have zy3:=(hG1b).frozen 3; simp at zx3;go_simp;exact hK _ _ (hI.nq hR HGs.out rfl)
  ·have hM1:=hI.1.mod;have hG1:=hI.1.g;obtain ⟨hG1b,hG1c⟩:=hG1;have ze7:=hI.tm hR 7 0;go_simp;refine (HCK.out zw1 (HQ.out.pure (HM.out.trans hM1))).mono ?_;rintro e zw2 ⟨rfl,hm2⟩;exact hK _ _ (hI.nc hR HGs.out hm2 rfl)
  ·have hG1:=hI.1.g;obtain ⟨hG1b,hG1c⟩:=hG1;have ze3:=hR.ot 3;have zx0:=(hG1c).cell 0; have zy0:=(hG1c).frozen 0; simp at zx0;have zx1:=(hG1c).cell 1; have zy1:=(hG1c).frozen 1; simp at zx1;have zx2:=(hG1c).cell 2; have zy2:=(hG1c).frozen 2; simp at zx2;have zx3:=(hG1c).cell 3; have zy3:=(hG1c).frozen 3; simp at zx3;have zx4:=(hG1c).cell 4; have zy4:=(hG1c).frozen 4; simp at zx4;have zx5:=(hG1c).cell 5; have zy5:=(hG1c).frozen 5; simp at zx5;have zx6:=(hG1c).cell 6; have zy6:=(hG1c).frozen 6; simp at zx6;go_simp;exact hK _ _ (hI.nq hR HGs.out rfl)
  ·have hM1:=hI.1.mod;have hG1:=hI.1.g;obtain ⟨hG1b,hG1c⟩:=hG1;have ze9:=hI.tm hR 9 2;go_simp;refine (HIC.out zw1 (HM.out.trans hM1)).mono ?_;rintro e zw2 ⟨rfl,hm2⟩;exact hK _ _ (hI.nc hR HGs.out hm2 rfl)
  ·have hM1:=hI.1.mod;have hB1:=hI.1.big;have hG1:=hI.1.g;obtain ⟨hG1b,hG1c⟩:=hG1;have ze8:=hI.tm hR 8 1;have ze10:=hI.tm hR 10 3;go_simp;exact hK (_) _ (hI.next hR (by kernel_rfl) ((Mod.refl _ _).alloc _) (PB.quiet hI.1 (pure_alloc _ _) (HGs.out D 4 _ _ (hI.1).g ((Mod.refl _ _).alloc _))) (⟨_,upd_same V 4 _,(by omega),(Blk.new _ _ _)⟩))
  ·have hG1:=hI.1.g;obtain ⟨hG1b,hG1c⟩:=hG1;have zd4:=hR.pred 4 (by kernel_rfl);have zF4:∃ (g_4:Nat),V 4 = .slice (some ⟨g_4,0,none⟩) 2 2∧w1.heap.size≤g_4∧Blk zw1 g_4 30 #[.int .i64 0,.int .i64 0]:=hI.2 4 zd4 (by show (!D 5)=true; rw [hR.not]; rfl);obtain ⟨g_4,zf4,c4_0,b4_0⟩:=zF4;have ze11:=hR.frame.done (t:=11) (j:=4) (by kernel_rfl) hR.ok zd4;go_simp;refine (firstE_calls zw1 g_4 2 [0,0] b4_0.row0 (by simp)).mono ?_;rintro e zw2 ⟨rfl,hm2⟩;exact hK _ _ (hI.nc hR HGs.out hm2 rfl)
  have ze12:=hI.tm hR 12 5;rotate_left
  all_goals (go_simp; exact hK _ _ (hI.nq hR HGs.out rfl))
 ·intro D V w2 hD hI;obtain ⟨hMx,hBx,hGx⟩:=hI.1;have zf0:=hI.eqA hD 0;have zf1:=hI.eqA hD 1;have zf2:=hI.eqA hD 2;have zf3:=hI.eqA hD 3;have zf5:=hI.eqA hD 5;have zf6:=hI.eqA hD 6;clear hI hD HGs;simp only [frAll,Act.put,List.setIfInBounds_toArray,List.set_cons_zero,List.set_cons_succ,Nat.zero_add,Nat.reduceAdd,zf0,zf1,zf2,zf3,zf5,zf6];clear zf0 zf1 zf2 zf3 zf5 zf6;generalize V 4=u4;clear V D;have HB1':=hd_ hGx.1;have HB2':=hd_ hGx.2;have HM2:=hd_ (HM.out.trans hMx);clear hGx hMx HB1 HB2 HM;go_upto_region 4 with (fail);have HGs:=hd_ (show KeepG (fun Z=>Blk Z b1 29 #[.int .i64 k,.slice Aq ws.length cq,.int .i64 nq,.slice Bq xs.length dq]∧Blk Z b2 62 #[.string ⟨x.id.toArray⟩,.string ⟨x.cust.toArray⟩,.int .i64 x.kind,.string ⟨x.name.toArray⟩,.int .i64 x.tm,.string ⟨x.par.toArray⟩,.string ⟨x.text.toArray⟩]) from fun D zzi zq zq' h hm=>by (exact ⟨h.1.modp hm,h.2.modp hm⟩))
  refine wp_region_inv (by kernel_rfl) (by kernel_rfl) (InvF (R:=Mod (fun _=>False)) [.is (.agg #[.string ⟨x.id.toArray⟩,.string ⟨x.cust.toArray⟩,.int .i64 x.kind,.string ⟨x.name.toArray⟩,.int .i64 x.tm,.string ⟨x.par.toArray⟩,.string ⟨x.text.toArray⟩]),⟨fun zv zw=>∃ (A_1:Option Addr) (n_1:Nat) (c_1:Nat),zv=tgA x (.slice A_1 n_1 c_1)∧Wds zw (.slice A_1 n_1 c_1) (wordsQ x.text),(by rintro zv zw zx ⟨A_1,n_1,c_1,rfl,q0⟩ hm; exact ⟨A_1,n_1,c_1,rfl,(q0.pure hm)⟩),none,none⟩,.is (.agg #[.int .i64 k,.slice Aq ws.length cq,.int .i64 nq,.slice Bq xs.length dq]),.is (.bool ans),.is (.bool ans),.is ((.int .i64 0))]
    (PB w2 (fun _=>False) w2.heap.size (fun _=>(fun Z=>Blk Z b1 29 #[.int .i64 k,.slice Aq ws.length cq,.int .i64 nq,.slice Bq xs.length dq]∧Blk Z b2 62 #[.string ⟨x.id.toArray⟩,.string ⟨x.cust.toArray⟩,.int .i64 x.kind,.string ⟨x.name.toArray⟩,.int .i64 x.tm,.string ⟨x.par.toArray⟩,.string ⟨x.text.toArray⟩])))) (InvF.start (PB.start (Mod.refl _ _) (Nat.le_refl _) (⟨HB1'.out.drew,HB2'.out.drew⟩))) ?_ ?_
  ·iterate 6 (refine .cons ?_ ?_; rotate_left)
   exact .nil
   all_goals intro D V zw1 a hR hI K hK
   all_goals try rw [if_pos (by rfl)]
   ·have hG1:=hI.1.g;obtain ⟨hG1b,hG1c⟩:=hG1;have ze3:=hR.ot 3;have zx0:=(hG1c).cell 0; have zy0:=(hG1c).frozen 0; simp at zx0;have zx1:=(hG1c).cell 1; have zy1:=(hG1c).frozen 1; simp at zx1;have zx2:=(hG1c).cell 2; have zy2:=(hG1c).frozen 2; simp at zx2;have zx3:=(hG1c).cell 3; have zy3:=(hG1c).frozen 3; simp at zx3;have zx4:=(hG1c).cell 4; have zy4:=(hG1c).frozen 4; simp at zx4;have zx5:=(hG1c).cell 5; have zy5:=(hG1c).frozen 5; simp at zx5;have zx6:=(hG1c).cell 6; have zy6:=(hG1c).frozen 6; simp at zx6;go_simp;exact hK _ _ (hI.nq hR HGs.out rfl)
   ·have hM1:=hI.1.mod;have hB1:=hI.1.big;have hG1:=hI.1.g;obtain ⟨hG1b,hG1c⟩:=hG1;have ze16:=hI.tm hR 16 0;go_simp;refine (HNT.out zw1).mono ?_;rintro e zw2 ⟨A_0,n_0,c_0,rfl,hq,hm2⟩;exact hK (tgA x (.slice A_0 n_0 c_0)) _ (hI.next hR (by kernel_rfl) hm2 (PB.quiet hI.1 hm2 (HGs.out D 1 _ _ (hI.1).g hm2)) (⟨A_0,n_0,c_0,upd_same V 1 _,hq⟩))
   ·have hG1:=hI.1.g;obtain ⟨hG1b,hG1c⟩:=hG1;have ze2:=hR.ot 2;have zx0:=(hG1b).cell 0; have zy0:=(hG1b).frozen 0; simp at zx0;have zx1:=(hG1b).cell 1; have zy1:=(hG1b).frozen 1; simp at zx1;have zx2:=(hG1b).cell 2; have zy2:=(hG1b).frozen 2; simp at zx2;have zx3:=(hG1b).cell 3; have zy3:=(hG1b).frozen 3; simp at zx3;go_simp;exact hK _ _ (hI.nq hR HGs.out rfl)
   ·have hM1:=hI.1.mod;have hG1:=hI.1.g;obtain ⟨hG1b,hG1c⟩:=hG1;have zd1:=hR.pred 1 (by kernel_rfl);have zF1:∃ (A_1:Option Addr) (n_1:Nat) (c_1:Nat),V 1=tgA x (.slice A_1 n_1 c_1)∧Wds zw1 (.slice A_1 n_1 c_1) (wordsQ x.text):=hI.2 1 zd1 rfl;obtain ⟨A_1,n_1,c_1,zf1,b1_0⟩:=zF1;have ze17:=hR.frame.done (t:=17) (j:=1) (by kernel_rfl) hR.ok zd1;have ze18:=hI.tm hR 18 2;go_simp;refine (HFD.out zw1 A_1 n_1 c_1 (HM2.out.trans hM1) b1_0).mono ?_;rintro e zw2 ⟨rfl,hm2⟩;exact hK _ _ (hI.nc hR HGs.out hm2 rfl)
   have ze19:=hI.tm hR 19 3;rotate_left;rotate_left
   all_goals (go_simp; exact hK _ _ (hI.nq hR HGs.out rfl))
  ·intro D V w3 hD hI;obtain ⟨hMx,hBx,hGx⟩:=hI.1;have zf0:=hI.eqA hD 0;have zF1:∃ (A_1:Option Addr) (n_1:Nat) (c_1:Nat),V 1=tgA x (.slice A_1 n_1 c_1)∧Wds w3 (.slice A_1 n_1 c_1) (wordsQ x.text):=hI.2 1 (hD 1 (by decide)) rfl;obtain ⟨A_1,n_1,c_1,zf1,b1_0⟩:=zF1;have zf2:=hI.eqA hD 2;have zf3:=hI.eqA hD 3;have zf4:=hI.eqA hD 4;have zf5:=hI.eqA hD 5;clear hI hD HGs;simp only [frAll,Act.put,List.setIfInBounds_toArray,List.set_cons_zero,List.set_cons_succ,Nat.zero_add,Nat.reduceAdd,zf0,zf1,zf2,zf3,zf4,zf5];clear zf0 zf1 zf2 zf3 zf4 zf5;clear V D;have HM3:=hd_ (HM2.out.trans hMx);clear hGx hMx b1_0;go_wp2_with fail
   try simp only [Exit.inBlock,Exit.then]
   refine bodyPost_ret (v:=.tuple #[.bool ans,.int .i64 0]) (by simp [results,Tryz.results33,go_sem]) rfl ?_;exact ⟨rfl,HM3.out⟩
theorem matches_calls (w:World) (x:Itm) (qr:QR) (hx:ItL x) (hE:Env w) (hie:itemE x=0) (hQ:QS w qr) (hB:QB 1000 qr.key) (hc:checkQ qr.key=0) (hf:FdR qr.key)
  (ht0 : -1000000000000≤x.tm) (ht1:x.tm≤1000000000000) (hn:x.name.length≤1000000) (hy:∀ y∈wordsQ x.name,y.2.length≤1000000) (hW:(wordsQ x.text).length≤1000) (hwl:∀ y∈wordsQ x.text,y.2.length≤1000000) :
  Calls Tryz.prog 33 #[qA qr,itA x] w (fun e w'=>e = .returned (.tuple #[.bool (fndQ (toQ x) qr.key),.int .i64 0])∧Pure w w'):=by
 obtain ⟨k,Aq,cq,ws,nq,Bq,dq,xs⟩:=qr;exact matchesK_calls w x Aq Bq cq dq k nq ws xs _ hx hE hie hQ hB hc (fun W A n c hm hw=>found_calls x A n c ht0 ht1 hn hy hW hwl _ W hf hB (hQ.pure hm) hw)
theorem form_own {M:Nat} {k n:Int} {nw na:Nat} (h:formB M k nw n na=true) (hk:k=9∨k=11):nw=1:=by
 unfold formB at h;simp only [Bool.and_eq_true,decide_eq_true_eq] at h
 rcases hk with rfl | rfl <;> simp [useQ] at h <;> omega
theorem form_no {M:Nat} {n:Int} {nw na:Nat} (h:formB M 8 nw n na=true):na=1:=by
 unfold formB at h;simp only [Bool.and_eq_true,decide_eq_true_eq] at h;simp [useQ] at h
 omega
theorem fdR_of:∀ (q:Qry) (M:Nat) (must:Bool),fltQ M must q=0→FdR q:=by
 refine Qry.ind fun k ws n xs ih => ?_;intro M must h;obtain ⟨h0,h1⟩:=flt_parts h;obtain ⟨h2,h3,h4,h5,h6⟩:=head_parts h0;have hrec:∀ a∈xs,FdR a:=fun a ha=>ih a ha M (mustQ must k) (h1 a ha);have hk:k=1∨k=2∨k=3∨k=4∨k=5∨k=6∨k=7∨k=8∨k=9∨k=10∨k=11∨k=12∨k=13:=(by omega)
 rcases hk with rfl | rfl | rfl | rfl | rfl | rfl | rfl | rfl | rfl | rfl | rfl | rfl | rfl
 ·exact .yes
 ·exact .pl (by omega) (plR_of _ M must h rfl (.inr (by show (2:Int)≠7; decide)))
 ·exact .pl (by omega) (plR_of _ M must h rfl (.inr (by show (3:Int)≠7; decide)))
 ·exact .pl (by omega) (plR_of _ M must h rfl (.inr (by show (4:Int)≠7; decide)))
 ·exact .pl (by omega) (plR_of _ M must h rfl (.inr (by show (5:Int)≠7; decide)))
 ·exact .all hrec
 ·exact .any hrec
 ·have hl:=form_no h4
  match xs,hl,hrec with
  | [x],_,hrec=>exact .no (hrec x (by simp))
 ·have hl:=form_own h4 (.inl rfl)
  match ws,hl with
  | [p],_=>exact .own
 ·exact .kin
 ·have hl:=form_own h4 (.inr rfl)
  match ws,hl with
  | [p],_=>exact .nam
 ·exact .since
 ·exact .till
theorem fdR_check {q:Qry} (h:checkQ q=0):FdR q:=fdR_of q 100 false (fltQ_0 h)
theorem matchesR_calls (w:World) (x:Itm) (qr:QR) (hx:ItL x) (hE:Env w) (hie:itemE x=0) (hQ:QS w qr) (hB:QB 1000 qr.key) (hc:checkQ qr.key=0)
  (ht0 : -1000000000000≤x.tm) (ht1:x.tm≤1000000000000) (hn:x.name.length≤1000000) (hy:∀ y∈wordsQ x.name,y.2.length≤1000000) (hW:(wordsQ x.text).length≤1000) (hwl:∀ y∈wordsQ x.text,y.2.length≤1000000) :
  Calls Tryz.prog 33 #[qA qr,itA x] w (fun e w'=>e = .returned (.tuple #[.bool (fndQ (toQ x) qr.key),.int .i64 0])∧Pure w w') :=
 matches_calls w x qr hx hE hie hQ hB hc (fdR_check hc) ht0 ht1 hn hy hW hwl
end Go.Proofs.YtnfflgicngeekaaGreatDoor
