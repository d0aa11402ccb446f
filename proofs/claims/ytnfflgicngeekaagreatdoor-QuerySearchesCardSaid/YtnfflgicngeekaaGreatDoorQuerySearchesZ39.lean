/- Texts of the proof of QuerySearches, put together: QrT, QcpM, CpyA, QrF, CpyB, QspM, StpC, Qgn, Qsp, QrC. -/
import Derived.Test.YtnfflgicngeekaaGreatDoorQuerySearchesZ2
import Derived.Test.YtnfflgicngeekaaGreatDoorQuerySearchesZ12
import Derived.Test.YtnfflgicngeekaaGreatDoorQuerySearchesZ37
import Derived.Test.YtnfflgicngeekaaGreatDoorQuerySearchesZ38
import Derived.Shelf.SlicesE.Clone
import Derived.Deep.DeepCutAuto
import Derived.Deep.RegionLaw
set_option linter.unusedVariables false
set_option linter.unusedSimpArgs false
set_option maxRecDepth 100000
set_option maxHeartbeats 16000000
namespace Go.Proofs.YtnfflgicngeekaaGreatDoor
open Go.RowKit
theorem info_qry:(Tryz.prog.info? 29).map (fun i=>(i.zero,i.size,i.bytes))=some (some (.agg #[.int .i64 0,.slice none 0 0,.int .i64 0,.slice none 0 0]),4,64):=by kernel_rfl
def GatQ (wr:World) (base b8 b12 sz:Nat) (A:Option Addr) (c:Nat) (qs:List QR):Prop :=
 wr.ownsRow base 29 4 (.slice A qs.length c) qs.length (qV qs)∧(∀ k,(Value.slice A qs.length c).ownBlock=some k→k≠b8∧k≠b12)∧∀ q∈qs,QS wr q∧QN (· = b8) q∧QN (· = b12) q∧QN (fun k=>(Value.slice A qs.length c).ownBlock=some k) q∧QFr sz q
theorem own_str {w:World} {base n:Nat} {v:Value} {xs:List Value} (h:w.ownsRow base 29 4 v n xs):∀ g arr fr,w.heap[g]? = some (.cells arr 9 fr)→¬ v.ownBlock=some g:=fun g arr fr hg hv=>absurd (own_ty h hv hg) (by decide)
theorem GatQ.rd {w w':World} {base b8 b12 sz c g:Nat} {A:Option Addr} {qs:List QR} {cs:Array Value} (h:GatQ w base b8 b12 sz A c qs) (hB:Blk w g 136 cs) (hm:Mod (· = g) w w'):GatQ w' base b8 b12 sz A c qs:=by
 obtain ⟨h1,h2,h3⟩:=h;refine ⟨own_mod h1 hm (fun k hk e => ?_),h2,fun q hq => ?_⟩
 ·subst e;exact absurd (own_ty h1 hk hB) (by decide)
 ·obtain ⟨a,b,c,d,e⟩:=h3 q hq;exact ⟨a.rd hB hm,b,c,d,e⟩
theorem GatQ.pure {w w':World} {base b8 b12 sz c:Nat} {A:Option Addr} {qs:List QR} (h:GatQ w base b8 b12 sz A c qs) (hm:Pure w w'):GatQ w' base b8 b12 sz A c qs:=by
 obtain ⟨h1,h2,h3⟩:=h;refine ⟨own_pure h1 hm,h2,fun q hq => ?_⟩;obtain ⟨a,b,c,d,e⟩:=h3 q hq;exact ⟨a.pure hm,b,c,d,e⟩
theorem GatQ.snoc {w w5 w6:World} {base b8 b12 sz c g5 cap5:Nat} {A:Option Addr} {qs:List QR} {q:QR} {cs:Array Value} (h:GatQ w base b8 b12 sz A c qs) (hq:QS w q) (hqf:QFr sz q) (hq8:QN (· = b8) q) (hq12:QN (· = b12) q) (hqo:QN (fun k=>(Value.slice A qs.length c).ownBlock=some k) q)
  (hw5:w5.ownsRow base 29 4 (.slice (some ⟨g5,0,none⟩) (qs.length+1) cap5) (qs.length+1) (qV qs ++ qC q)) (hm5:Mod (fun k=>(Value.slice A qs.length c).ownBlock=some k) w w5) (hat:(Value.slice A qs.length c).ownBlock=some g5∨w.heap.size≤g5) (hb8:b8<w.heap.size) (hb12:b12<w.heap.size)
  (hB:Blk w5 b12 29 cs) (hm6:Mod (· = b12) w5 w6):GatQ w6 base b8 b12 sz (some ⟨g5,0,none⟩) cap5 (qs ++ [q]):=by
 obtain ⟨h1,h2,h3⟩:=h;have hl:(qs ++ [q]).length=qs.length+1:=(by simp)
 have hg5:g5≠b8∧g5≠b12:=by
  rcases hat with h | h
  ·exact h2 _ h
  ·constructor <;> omega
 have hob:∀ k,(Value.slice (some ⟨g5,0,none⟩) (qs.length+1) cap5).ownBlock=some k→k=g5:=by
  intro k hk
  injection hk with hk
  exact hk.symm
 have hnew:∀ x,QS w x→QN (fun k=>(Value.slice A qs.length c).ownBlock=some k) x→QN (fun k=>(Value.slice (some ⟨g5,0,none⟩) (qs.length+1) cap5).ownBlock=some k) x:=by
  intro x hx hn
  rcases hat with h | h
  ·exact hn.mono (fun k hk=>by rw [hob k hk]; exact h)
  ·exact QN.new hx (fun k hk=>by rw [hob k hk]; exact h)
 have hfin:∀ x,QS w x→QN (fun k=>(Value.slice A qs.length c).ownBlock=some k) x→QN (· = b12) x→QS w6 x:=fun x hx ho hb=>(hx.modN ho hm5 (own_str h1)).box hB hb hm6;unfold GatQ;rw [hl,qV_snoc];refine ⟨own_mod hw5 hm6 (fun k hk e=>hg5.2 ((hob k hk).symm.trans e)),fun k hk=>by rw [hob k hk]; exact hg5,fun x hx => ?_⟩
 rcases List.mem_append.1 hx with hx | hx
 ·obtain ⟨a,b,c,d,e⟩:=h3 x hx;exact ⟨hfin x a d c,b,c,hnew x a d,e⟩
 ·rw [List.mem_singleton.1 hx];exact ⟨hfin q hq hqo hq12,hq8,hq12,hnew q hq hqo,hqf⟩
def SevR (w:World) (g:Nat) (s:Str) (kind between:Int) (el:List Tk→PR) (f base b8 b12 bx:Nat) (r:PR) (gk:Nat) (wr:World):Prop :=
 ∃ (A:Option Addr) (c f':Nat) (qs:List QR) (l:List Tk),l.length=gk∧l.length+1≤f'∧f'≤f∧pSevL kind between el f' (qs.map QR.key) l=r∧qs≠[]∧qs.length+l.length≤2*f∧GatQ wr base b8 b12 w.heap.size A c qs∧RdrS wr g s l∧Blk wr b8 29 #[.int .i64 0,.slice none 0 0,.int .i64 0,.slice none 0 0]∧Blk wr b12 29 #[.int .i64 kind,.slice none 0 0,.int .i64 0,.slice A qs.length c]∧Blk wr bx 132 #[.pointer (some ⟨g,0,none⟩)]∧Mod (· = g) w wr
theorem sevNot_calls (w0:World) (g bx:Nat) (s:Str) (f:Nat) (el:List Tk→PR) (hf:f≤1000000) (hN:NxC w0 g s) (hLE:LenP el) (hgx:bx≠g)
  (hE:∀ W L,Mod (· = g) w0 W→Blk W bx 132 #[.pointer (some ⟨g,0,none⟩)]→RdrS W g s L→L.length≤f→Calls Tryz.prog 187 #[.pointer (some ⟨g,0,none⟩)] W (PrP W g s (el L))) (w:World) (L:List Tk) (hW:Mod (· = g) w0 w) (hX:Blk w bx 132 #[.pointer (some ⟨g,0,none⟩)]) (hR:RdrS w g s L) (hL:L.length≤f) :
  Calls Tryz.prog 185 #[.pointer (some ⟨g,0,none⟩),.int .i64 6,.int .i64 4,.func (.func 187) #[.pointer (some ⟨g,0,none⟩)] #[]] w (PrP w g s (pSev 6 4 el f L)):=by
 obtain ⟨i0,hi0,hz0,hz1,hz2⟩:=info_parts info_qry;have HN:=hd_ hN;have HE:=hd_ hE;have HW:=hd_ hW;have HLE:=hd_ hLE;have hg0:=hR.lt;have hx0:=hX.lt;have hmz:Pure w (w.alloc (.cells #[.int .i64 0,.slice none 0 0,.int .i64 0,.slice none 0 0] 29)):=(Mod.refl _ _).alloc _;have HB2:=hd_ (Blk.new w 29 #[.int .i64 0,.slice none 0 0,.int .i64 0,.slice none 0 0]);have HX2:=hd_ (hX.alloc (.cells #[.int .i64 0,.slice none 0 0,.int .i64 0,.slice none 0 0] 29));have HM2:Hid (Mod (· = g) w (w.alloc (.cells #[.int .i64 0,.slice none 0 0,.int .i64 0,.slice none 0 0] 29))):=hd_ (Mod.of_pure hmz);have HPX:=hd_ (hE (w.alloc (.cells #[.int .i64 0,.slice none 0 0,.int .i64 0,.slice none 0 0] 29)) L (hW.trans HM2.out) HX2.out (hR.pure hmz) hL);have HS1:Hid (∀ q l,el L = .inr (q,l)→pSev 6 4 el f L=if kdL l=4 then pSevL 6 4 el f [q] l else .inr (q,l)):=hd_ (fun q l h=>by unfold pSev; rw [h]);have HS2:Hid (∀ l,el L = .inl l→pSev 6 4 el f L = .inl l):=hd_ (fun l h=>by unfold pSev; rw [h]);clear hN hE hW hmz hR hX hLE;generalize pSev 6 4 el f L=r at *;obtain ⟨b2,hb2e⟩:∃ b2,w.heap.size=b2:=⟨_,rfl⟩;have hb2l:w.heap.size≤b2:=(by omega);have hb2u:b2≤w.heap.size:=(by omega)
 go_enter Tryz.func185,Tryz.ntmps185
 go_wp2_with fail;generalize (w.alloc (.cells #[.int .i64 0,.slice none 0 0,.int .i64 0,.slice none 0 0] 29))=w2 at *;rw [hb2e] at HB2
 try simp only [hb2e]
 clear hb2e;refine HPX.out.mono ?_;rintro e w3 ⟨qr2,bt,l2,rfl,hR3,hm3,h0,h1⟩;obtain ⟨k2,A2,c2,ws2,n2,B2,d2,xs2⟩:=qr2;simp only [qA_mk];have H0:=hd_ h0;have H1:=hd_ h1;have hb2r:=HB2.out.lt;have hs2:=HM2.out.size;have hs3:=hm3.size;have hmA:Pure w3 (w3.alloc (.cells #[.int .i64 k2,.slice A2 ws2.length c2,.int .i64 n2,.slice B2 xs2.length d2] 29)):=(Mod.refl _ _).alloc _;have HB5:=hd_ ((HB2.out.modb hm3 (by omega)).alloc (.cells #[.int .i64 k2,.slice A2 ws2.length c2,.int .i64 n2,.slice B2 xs2.length d2] 29));have HX5:=hd_ ((HX2.out.modb hm3 hgx).alloc (.cells #[.int .i64 k2,.slice A2 ws2.length c2,.int .i64 n2,.slice B2 xs2.length d2] 29));have HB6:=hd_ (Blk.new w3 29 #[.int .i64 k2,.slice A2 ws2.length c2,.int .i64 n2,.slice B2 xs2.length d2]);have HR5:=hd_ (RdrS.pure hR3 hmA);have HM5:=hd_ ((HM2.out.trans hm3).transp hmA);have HQA:=hd_ hmA;clear hmA h0 h1 hm3 hR3 HB2 HX2 HM2 HPX;go_upto_region 2 with (fail);generalize (w3.alloc (.cells #[.int .i64 k2,.slice A2 ws2.length c2,.int .i64 n2,.slice B2 xs2.length d2] 29))=w5 at *;obtain ⟨b10,hb10⟩:∃ b10,w3.heap.size=b10:=⟨_,rfl⟩;rw [hb10] at HB6
 try simp only [hb10]
 have hb10l:w3.heap.size≤b10:=(by omega);have hb10u:b10≤w3.heap.size:=(by omega);clear hb10;have hb10r:=HB6.out.lt;have hb2r5:=HB5.out.lt;have hgr5:=HR5.out.lt;have hxr5:=HX5.out.lt;have h5:=HB5.out;have h6:=HB6.out;obtain ⟨x0,x1,x2,x3,xf0,xf1,xf2,xf3⟩:=h5.c4f;obtain ⟨y0,y1,y2,y3⟩:=h6.c4;clear h5 h6
 cases bt
 ·have HI:Hid (r = .inl l2):=hd_ (HS2.out _ (H0.out rfl));clear H0 H1 HS1 HS2;go_wp2_with fail;have h4F:=st4_blk HB5.out (a:=.int .i64 k2) (b:=.slice A2 ws2.length c2) (c:=.int .i64 n2) (d:=.slice B2 xs2.length d2);obtain ⟨z0,z1,z2,z3⟩:=h4F.c4
  try simp only [Exit.inBlock,Exit.then]
  refine bodyPost_ret (v:=.tuple #[.agg #[.int .i64 k2,.slice A2 ws2.length c2,.int .i64 n2,.slice B2 xs2.length d2],.bool false]) (by simp [results,Tryz.results185,go_sem,z0,z1,z2,z3]) rfl ?_;exact pr_ret HM5.out HR5.out HB5.out (by omega) (by omega) (fun _=>HI.out) (fun h=>by cases h)
 ·obtain ⟨hq1,hq2,hq3⟩:=H1.out rfl;have HQ1:=hd_ (HS1.out _ _ hq1);have hll:=HLE.out _ _ _ hq1;have HQ2:=hd_ (hq2.pure HQA.out);have HQ3:=hd_ hq3;have HQ10:Hid (QN (· = b10) (QR.mk k2 A2 c2 ws2 n2 B2 d2 xs2)):=hd_ (QN.new hq2 (fun k hk=>by omega));have HQ8:Hid (QN (· = b2) (QR.mk k2 A2 c2 ws2 n2 B2 d2 xs2)):=hd_ (QN.old hq3 (fun k hk=>by omega));clear hq1 hq2 hq3 H0 H1 HQA HS1 HS2;obtain ⟨p5,qr5,t5,l5,rfl,hB7,hp5,hQ5,hk5,ha5,_,_⟩:=HR5.out;obtain ⟨k5,A5,c5,ws5,n5,B5,d5,xs5⟩:=qr5;have hBr:=hB7;unfold rdC at hBr;simp [qC] at hBr;obtain ⟨u0,u1,u2,u3,u4,u5,u6,u7⟩:=hBr.c8;clear hBr hQ5 hk5 ha5 hB7
  by_cases hkb:t5.kind=4
  ·have HI:Hid (pSevL 6 4 el f [(QR.mk k2 A2 c2 ws2 n2 B2 d2 xs2).key] (t5 :: l5)=r):=hd_ (by
    rw [HQ1.out]
    exact (if_pos (show kdL (t5 :: l5)=4 from hkb)).symm)
   rw [hkb] at u2;clear HQ1 hkb;have hmC:Pure w5 ((w5.alloc (.cells #[.int .i64 k2,.slice A2 ws2.length c2,.int .i64 n2,.slice B2 xs2.length d2] 29)).alloc (.cells #[.int .i64 6,.slice none 0 0,.int .i64 0,.slice (some ⟨w5.heap.size,0,none⟩) 1 1] 29)):=((Mod.refl _ _).alloc _).alloc _;have HB7:=hd_ ((HB5.out.alloc (.cells #[.int .i64 k2,.slice A2 ws2.length c2,.int .i64 n2,.slice B2 xs2.length d2] 29)).alloc (.cells #[.int .i64 6,.slice none 0 0,.int .i64 0,.slice (some ⟨w5.heap.size,0,none⟩) 1 1] 29));have HX7:=hd_ ((HX5.out.alloc (.cells #[.int .i64 k2,.slice A2 ws2.length c2,.int .i64 n2,.slice B2 xs2.length d2] 29)).alloc (.cells #[.int .i64 6,.slice none 0 0,.int .i64 0,.slice (some ⟨w5.heap.size,0,none⟩) 1 1] 29));have HBS:=hd_ ((Blk.new w5 29 #[.int .i64 k2,.slice A2 ws2.length c2,.int .i64 n2,.slice B2 xs2.length d2]).alloc (.cells #[.int .i64 6,.slice none 0 0,.int .i64 0,.slice (some ⟨w5.heap.size,0,none⟩) 1 1] 29));have HB12:=hd_ (Blk.snd w5 (.cells #[.int .i64 k2,.slice A2 ws2.length c2,.int .i64 n2,.slice B2 xs2.length d2] 29) 29 #[.int .i64 6,.slice none 0 0,.int .i64 0,.slice (some ⟨w5.heap.size,0,none⟩) 1 1]);have HR7:=hd_ (HR5.out.pure hmC);have HM7:=hd_ (HM5.out.transp hmC);have HQ7:=hd_ (HQ2.out.pure hmC);have HQS:Hid (QN (· = w5.heap.size) (QR.mk k2 A2 c2 ws2 n2 B2 d2 xs2)):=hd_ (QN.new HQ2.out (fun k hk=>by omega));have HQ12:Hid (QN (· = w5.heap.size+1) (QR.mk k2 A2 c2 ws2 n2 B2 d2 xs2)):=hd_ (QN.new HQ2.out (fun k hk=>by omega));clear hmC
   go_upto_block 0 with (fail)
   generalize ((w5.alloc (.cells #[.int .i64 k2,.slice A2 ws2.length c2,.int .i64 n2,.slice B2 xs2.length d2] 29)).alloc (.cells #[.int .i64 6,.slice none 0 0,.int .i64 0,.slice (some ⟨w5.heap.size,0,none⟩) 1 1] 29))=w7 at *;obtain ⟨gS,hgS⟩:∃ gS,w5.heap.size=gS:=⟨_,rfl⟩;rw [hgS] at HBS HB12 HQS HQ12
   try simp only [hgS]
   obtain ⟨b12,hb12⟩:∃ b12,gS+1=b12:=⟨_,rfl⟩;rw [hb12] at HB12 HQ12
   try simp only [hb12]
   have hgSl:w5.heap.size≤gS:=(by omega);have hbS:gS<b12:=(by omega);clear hgS hb12 x0 x1 x2 x3 xf0 xf1 xf2 xf3 y0 y1 y2 y3 u0 u1 u2 u3 u4 u5 u6 u7;have hl5:(t5 :: l5).length=l5.length+1:=rfl;have hgrS:=HBS.out.lt
   have HG0:Hid (GatQ w7 w.heap.size b2 b12 w.heap.size (some ⟨gS,0,none⟩) 1 [.mk k2 A2 c2 ws2 n2 B2 d2 xs2]):=hd_ (by
    refine ⟨⟨rfl,.inr ⟨gS,1,_,rfl,by omega,HBS.out,Nat.le_refl _,by decide,rfl,rfl⟩⟩,fun k hk => ?_,fun q hq => ?_⟩
    ·have hk2:gS=k:=Option.some.inj hk
     constructor <;> omega
    ·rw [List.mem_singleton.1 hq]
     exact ⟨HQ7.out,HQ8.out,HQ12.out,HQS.out.mono (fun k hk=>by injection hk with hk; exact hk.symm),HQ3.out.up (by omega)⟩)
   clear HQ7 HQ8 HQ12 HQS HQ3 HQ2 HQ10 HBS HB5 HX5 HR5 HM5 HB6;go_wp2_with fail
   go_loopg [] (t5 :: l5).length (fun gk wr=>SevR w g s 6 4 el f w.heap.size b2 b12 bx r gk wr)
   case atStart=>exact ⟨some ⟨gS,0,none⟩,1,f,[.mk k2 A2 c2 ws2 n2 B2 d2 xs2],t5 :: l5,rfl,by omega,Nat.le_refl _,HI.out,by simp,by show 1+(t5 :: l5).length≤2*f; omega,HG0.out,HR7.out,HB7.out,HB12.out,HX7.out,HM7.out⟩
   case round =>
    clear HG0 HB7 HB12 HX7 HR7 HM7 HI;obtain ⟨A,c,f2,qs,l,rfl,hlf,hff,hps,hne,hqn,hG,hR,hB8,hB12,hX,hM⟩:=hrel;have HPS:=hd_ hps;have HG:=hd_ hG;have HR:=hd_ hR;have HB8:=hd_ hB8;have HB12:=hd_ hB12;have HX:=hd_ hX;have HM:=hd_ hM;have hb8r:=hB8.lt;have hb12r:=hB12.lt;have hxr:=hX.lt;have hgr:=hR.lt;have hszr:=hM.size;have h5:=HB8.out;have h6:=HB12.out;obtain ⟨x0,x1,x2,x3,xf0,xf1,xf2,xf3⟩:=h5.c4f;obtain ⟨y0,y1,y2,y3,yf0,yf1,yf2,yf3⟩:=h6.c4f;clear hps hG hR hB8 hB12 hX hM h5 h6;obtain ⟨p9,qr9,t9,l9,rfl,hB9,hp9,hQ9,hk9,ha9,_,_⟩:=HR.out;obtain ⟨k9,A9,c9,ws9,n9,B9,d9,xs9⟩:=qr9;have hBr:=hB9;unfold rdC at hBr;simp [qC] at hBr;obtain ⟨u0,u1,u2,u3,u4,u5,u6,u7⟩:=hBr.c8;clear hBr hQ9 hk9 ha9 hB9;have hl9:(t9 :: l9).length=l9.length+1:=rfl
    cases f2 with
    | zero=>omega
    | succ f2 =>
     by_cases hkb:t9.kind=4
     ·have HPQ:Hid ((match el l9 with | .inl l => .inl l | .inr (q,l)=>pSevL 6 4 el f2 (qs.map QR.key ++ [q]) l)=r):=hd_ (by
       have h:=HPS.out;unfold pSevL at h;rw [if_pos (show kdL (t9 :: l9)=4 from hkb)] at h
       exact h)
      rw [hkb] at u2;have HNX:=hd_ (HN.out wr (t9 :: l9) (HW.out.trans HM.out) HR.out (show t9.kind≠0 by omega) (show t9.kind≠8 by omega));clear HPS hkb;go_wp2_with fail;refine HNX.out.mono ?_;rintro e w8 ⟨rfl,hR4,hm4⟩;obtain ⟨cs,hcs⟩:=HR.out.blk;have HG4:=hd_ (HG.out.rd hcs hm4);have HB84:=hd_ (HB8.out.modb hm4 (by omega));have HB124:=hd_ (HB12.out.modb hm4 (by omega));have HX4:=hd_ (HX.out.modb hm4 hgx);have HM4:=hd_ (HM.out.trans hm4);have hsz4:=hm4.size;have HEX:=hd_ (HE.out w8 l9 (HW.out.trans HM4.out) HX4.out hR4 (by omega));have hcs4:=RdrS.blk hR4;clear hcs hm4 hR4 HNX HG HB8 HB12 HX HM HR x0 x1 x2 x3 xf0 xf1 xf2 xf3 y0 y1 y2 y3 yf0 yf1 yf2 yf3 u0 u1 u2 u3 u4 u5 u6 u7;go_wp2_with fail;refine HEX.out.mono ?_;rintro e w9 ⟨qr6,bt,l6,rfl,hR6,hm6,h0,h1⟩;obtain ⟨k6,A6,c6,ws6,n6,B6,d6,xs6⟩:=qr6;simp only [qA_mk];obtain ⟨cs,hcs⟩:=hcs4;have H0:=hd_ h0;have H1:=hd_ h1;have hsz6:=hm6.size;have hA:Pure w9 (w9.alloc (.cells #[.int .i64 k6,.slice A6 ws6.length c6,.int .i64 n6,.slice B6 xs6.length d6] 29)):=(Mod.refl _ _).alloc _;have HG6:=hd_ ((HG4.out.rd hcs hm6).pure hA);have HB86:=hd_ ((HB84.out.modb hm6 (by omega)).alloc (.cells #[.int .i64 k6,.slice A6 ws6.length c6,.int .i64 n6,.slice B6 xs6.length d6] 29));have HB126:=hd_ ((HB124.out.modb hm6 (by omega)).alloc (.cells #[.int .i64 k6,.slice A6 ws6.length c6,.int .i64 n6,.slice B6 xs6.length d6] 29));have HX6:=hd_ ((HX4.out.modb hm6 hgx).alloc (.cells #[.int .i64 k6,.slice A6 ws6.length c6,.int .i64 n6,.slice B6 xs6.length d6] 29));have HB13:=hd_ (Blk.new w9 29 #[.int .i64 k6,.slice A6 ws6.length c6,.int .i64 n6,.slice B6 xs6.length d6]);have HR6:=hd_ (RdrS.pure hR6 hA);have HM6:=hd_ ((HM4.out.trans hm6).transp hA);have HQ6:Hid (bt=true→QS (w9.alloc (.cells #[.int .i64 k6,.slice A6 ws6.length c6,.int .i64 n6,.slice B6 xs6.length d6] 29)) (.mk k6 A6 c6 ws6 n6 B6 d6 xs6)∧QFr w8.heap.size (.mk k6 A6 c6 ws6 n6 B6 d6 xs6)):=hd_ (fun h=>⟨(h1 h).2.1.pure hA,(h1 h).2.2⟩)
      have hob:∀ k,(Value.slice A qs.length c).ownBlock=some k→k<w8.heap.size:=by
       intro k hk;obtain ⟨arr,ha⟩:=own_heap HG4.out.1 hk;exact lt_of_heap ha
      have HOB:=hd_ hob;clear hA hm6 hR6 h0 h1 hcs HG4 HB84 HB124 HX4 HM4 HEX hob;go_upto_region 8 with (fail);generalize (w9.alloc (.cells #[.int .i64 k6,.slice A6 ws6.length c6,.int .i64 n6,.slice B6 xs6.length d6] 29))=wA at *;obtain ⟨b13,hb13⟩:∃ b13,w9.heap.size=b13:=⟨_,rfl⟩;rw [hb13] at HB13
      try simp only [hb13]
      have hb13l:w9.heap.size≤b13:=(by omega);clear hb13;have h5:=HB86.out;have h6:=HB126.out;have h7:=HB13.out;obtain ⟨x0,x1,x2,x3,xf0,xf1,xf2,xf3⟩:=h5.c4f;obtain ⟨y0,y1,y2,y3,yf0,yf1,yf2,yf3⟩:=h6.c4f;obtain ⟨v0,v1,v2,v3⟩:=h7.c4;clear h5 h6 h7
      cases bt
      ·have HI:Hid (r = .inl l6):=hd_ (by
        have h9:=HPQ.out;rw [H0.out rfl] at h9
        exact h9.symm)
       clear HPQ H0 H1 HQ6;go_wp2_with fail;have h4F:=st4_blk HB86.out (a:=.int .i64 k6) (b:=.slice A6 ws6.length c6) (c:=.int .i64 n6) (d:=.slice B6 xs6.length d6);obtain ⟨z0,z1,z2,z3⟩:=h4F.c4
       try simp only [Exit.inBlock,Exit.then]
       refine bodyPost_ret (v:=.tuple #[.agg #[.int .i64 k6,.slice A6 ws6.length c6,.int .i64 n6,.slice B6 xs6.length d6],.bool false]) (by simp [results,Tryz.results185,go_sem,z0,z1,z2,z3]) rfl ?_;exact pr_ret HM6.out HR6.out HB86.out (by omega) (by omega) (fun _=>HI.out) (fun h=>by cases h)
      ·obtain ⟨hq1,hq2⟩:=HQ6.out rfl;have h9:=H1.out rfl;have hl6:=HLE.out _ _ _ h9.1
       have HPR:Hid (pSevL 6 4 el f2 (qs.map QR.key ++ [(QR.mk k6 A6 c6 ws6 n6 B6 d6 xs6).key]) l6=r):=hd_ (by
        have h:=HPQ.out;rw [h9.1] at h
        exact h)
       have HQA:=hd_ hq1;have HQF:=hd_ hq2;clear hq1 hq2 h9 H0 H1 HQ6 HPQ;have hown:=HG6.out.1;have hqc:qs.length≤2*f:=(by omega);have hwA:=HB13.out.lt
       go_wp2_with ((at_builtin; refine wpList_append_lies _ rfl _ _ _ rfl w.heap.size 29 i0 _ 4 64 Tryz.underlying27 hi0 hz0 hz1 hz2 rfl (by omega) (.slice A qs.length c) qs.length (qV qs) rfl (hown.alloc _) ⟨wA.heap.size,0,none⟩ 1 1 [.int .i64 k6,.slice A6 ws6.length c6,.int .i64 n6,.slice B6 xs6.length d6] rfl rfl (World.news_of_block (cs:=#[.int .i64 k6,.slice A6 ws6.length c6,.int .i64 n6,.slice B6 xs6.length d6]) (t:=29) (fr:=(0,0)) (heap_alloc_new wA _)) (by simp [Value.oneCell']) (by omega) (by simp [maxLen]; omega) (by omega) (by have:=HM6.out.size; simp; omega) (wA.heap.size+1) (by simp) ?_; intro g5 cap5 w5 hown5 hgrow hat hlt5); have hX:=(HB126.out.alloc (.cells #[.int .i64 k6,.slice A6 ws6.length c6,.int .i64 n6,.slice B6 xs6.length d6] 29)).mod (mod_grown hgrow) (fun hv=>(HG6.out.2.1 _ hv).2 rfl); obtain ⟨q0,q1,q2,q3,qf0,qf1,qf2,qf3⟩:=hX.c4f)
       go_roundg l6.length
       case measure=>omega
       case rel =>
        have hA:Pure wA (wA.alloc (.cells #[.int .i64 k6,.slice A6 ws6.length c6,.int .i64 n6,.slice B6 xs6.length d6] 29)):=(Mod.refl _ _).alloc _;have hgm:=mod_grown hgrow;have hst:Mod (· = b12) w5 (w5.setCell ⟨b12,3,none⟩ (.slice (some ⟨g5,0,none⟩) (qs.length+1) cap5)):=mod_set (Mod.refl _ _) 3 _;have hGA:=HG6.out.pure hA;have hRg:=(HR6.out.pure hA).mod hgm (fun hv=>by have:=HOB.out _ hv; obtain ⟨cs,hc⟩:=HR6.out.blk; obtain ⟨arr,ha⟩:=own_heap HG6.out.1 hv; unfold Blk at hc; rw [hc] at ha; injection ha with ha; injection ha with _ ha; exact absurd ha (by decide)) (own_str hGA.1);have hno:∀ k,(Value.slice A qs.length c).ownBlock=some k→k≠b2∧k≠b12:=HG6.out.2.1;have hsA:(wA.alloc (.cells #[.int .i64 k6,.slice A6 ws6.length c6,.int .i64 n6,.slice B6 xs6.length d6] 29)).heap.size=wA.heap.size+1:=(by simp);refine ⟨some ⟨g5,0,none⟩,cap5,f2,qs ++ [.mk k6 A6 c6 ws6 n6 B6 d6 xs6],l6,rfl,by omega,by omega,by rw [List.map_append]; exact HPR.out,by simp,by simp; omega,?_,RdrS.box hRg hX hst (by omega),?_,?_,?_,?_⟩
        ·exact hGA.snoc (HQA.out.pure hA) (HQF.out.up (by omega)) (QN.old HQF.out (fun k hk=>by omega)) (QN.old HQF.out (fun k hk=>by omega)) (QN.old HQF.out (fun k hk=>HOB.out k hk)) hown5 hgm (by rcases hat with h | h; exact .inl h; exact .inr (by omega)) (by omega) (by omega) hX hst
        ·exact ((HB86.out.alloc _).mod hgm (fun hv=>(hno _ hv).1 rfl)).mod hst (by omega)
        ·have h:=hX.set 3 (.slice (some ⟨g5,0,none⟩) (qs.length+1) cap5)
         simpa using h
        ·refine ((HX6.out.alloc _).mod hgm (fun hv => ?_)).mod hst (by omega);obtain ⟨arr,ha⟩:=own_heap HG6.out.1 hv;have hc:=HX6.out;unfold Blk at hc;rw [hc] at ha
         injection ha with ha
         injection ha with _ ha
         exact absurd ha (by decide)
        ·exact ((HM6.out.transp hA).trans' hgm (fun i hi hlt=>by have:=own_block HG6.out.1 i hi; omega)).trans' hst (fun i hi hlt=>by omega)
     ·have HI:Hid (r = .inr (.mk 6 [] 0 (qs.map QR.key),t9 :: l9)):=hd_ (by
       have h:=HPS.out;unfold pSevL at h;rw [if_neg (show ¬ kdL (t9 :: l9)=4 from hkb)] at h
       exact h.symm)
      have hkbi:(t9.kind == 4)=false:=by rw [← Bool.not_eq_true,beq_iff_eq]; exact hkb
      obtain ⟨hG1,hG2,hG3⟩:=HG.out;have HG1:=hd_ hG1;have HG2:=hd_ hG2;have HG3:=hd_ hG3;clear hkb HPS hG1 hG2 hG3;go_wp2_with fail;have h4F:=st4_blk HB8.out (a:=.int .i64 6) (b:=.slice none 0 0) (c:=.int .i64 0) (d:=.slice A qs.length c);obtain ⟨z0,z1,z2,z3⟩:=h4F.c4
      try simp only [Exit.inBlock,Exit.then]
      refine bodyPost_ret (v:=.tuple #[.agg #[.int .i64 6,.slice none 0 0,.int .i64 0,.slice A qs.length c],.bool true]) (by simp [results,Tryz.results185,go_sem,z0,z1,z2,z3]) rfl ?_;refine pr_ret (ws:=[]) (A:=none) HM.out HR.out HB8.out (by omega) (by omega) (fun h=>by cases h) (fun _=>⟨by rw [QR.key_mk]; exact HI.out,.mk Sl.nil_ (Sl.of_own HG1.out) (fun a ha=>(HG3.out a ha).1),.mk ?_ (fun a ha=>(HG3.out a ha).2.1),.mk ?_ (fun a ha=>(HG3.out a ha).2.2.2.2)⟩)
      ·intro _ g3 off he hb;rw [he] at HG2;exact (HG2.out g3 rfl).1 hb
      ·intro _
       rcases HG1.out.2 with ⟨h1,h2⟩ | ⟨g3,cap,cur,h1,h2,_⟩
       ·exact absurd (List.eq_nil_of_length_eq_zero h2) hne
       ·injection h1 with h1 _ _
        exact ⟨g3,0,h1,h2⟩
  ·have HI:Hid (r = .inr ((QR.mk k2 A2 c2 ws2 n2 B2 d2 xs2).key,t5 :: l5)):=hd_ (by
    rw [HQ1.out]
    exact if_neg (show ¬ kdL (t5 :: l5)=4 from hkb))
   have hkbi:(t5.kind == 4)=false:=by rw [← Bool.not_eq_true,beq_iff_eq]; exact hkb
   clear hkb;go_wp2_with fail;have h4F:=st4_blk HB5.out (a:=.int .i64 k2) (b:=.slice A2 ws2.length c2) (c:=.int .i64 n2) (d:=.slice B2 xs2.length d2);obtain ⟨z0,z1,z2,z3⟩:=h4F.c4
   try simp only [Exit.inBlock,Exit.then]
   refine bodyPost_ret (v:=.tuple #[.agg #[.int .i64 k2,.slice A2 ws2.length c2,.int .i64 n2,.slice B2 xs2.length d2],.bool true]) (by simp [results,Tryz.results185,go_sem,z0,z1,z2,z3]) rfl ?_;exact pr_ret HM5.out HR5.out HB5.out (by omega) (by omega) (fun h=>by cases h) (fun _=>⟨HI.out,HQ2.out,HQ8.out,HQ3.out.up (by omega)⟩)
theorem sevOr_calls (w0:World) (g bx:Nat) (s:Str) (f:Nat) (el:List Tk→PR) (hf:f≤1000000) (hN:NxC w0 g s) (hLE:LenP el) (hgx:bx≠g)
  (hE:∀ W L,Mod (· = g) w0 W→Blk W bx 132 #[.pointer (some ⟨g,0,none⟩)]→RdrS W g s L→L.length≤f→Calls Tryz.prog 186 #[.pointer (some ⟨bx,0,none⟩)] W (PrP W g s (el L))) (w:World) (L:List Tk) (hW:Mod (· = g) w0 w) (hX:Blk w bx 132 #[.pointer (some ⟨g,0,none⟩)]) (hR:RdrS w g s L) (hL:L.length≤f) :
  Calls Tryz.prog 185 #[.pointer (some ⟨g,0,none⟩),.int .i64 7,.int .i64 5,.func (.func 186) #[] #[.pointer (some ⟨bx,0,none⟩)]] w (PrP w g s (pSev 7 5 el f L)):=by
 obtain ⟨i0,hi0,hz0,hz1,hz2⟩:=info_parts info_qry;have HN:=hd_ hN;have HE:=hd_ hE;have HW:=hd_ hW;have HLE:=hd_ hLE;have hg0:=hR.lt;have hx0:=hX.lt;have hmz:Pure w (w.alloc (.cells #[.int .i64 0,.slice none 0 0,.int .i64 0,.slice none 0 0] 29)):=(Mod.refl _ _).alloc _;have HB2:=hd_ (Blk.new w 29 #[.int .i64 0,.slice none 0 0,.int .i64 0,.slice none 0 0]);have HX2:=hd_ (hX.alloc (.cells #[.int .i64 0,.slice none 0 0,.int .i64 0,.slice none 0 0] 29));have HM2:Hid (Mod (· = g) w (w.alloc (.cells #[.int .i64 0,.slice none 0 0,.int .i64 0,.slice none 0 0] 29))):=hd_ (Mod.of_pure hmz);have HPX:=hd_ (hE (w.alloc (.cells #[.int .i64 0,.slice none 0 0,.int .i64 0,.slice none 0 0] 29)) L (hW.trans HM2.out) HX2.out (hR.pure hmz) hL);have HS1:Hid (∀ q l,el L = .inr (q,l)→pSev 7 5 el f L=if kdL l=5 then pSevL 7 5 el f [q] l else .inr (q,l)):=hd_ (fun q l h=>by unfold pSev; rw [h]);have HS2:Hid (∀ l,el L = .inl l→pSev 7 5 el f L = .inl l):=hd_ (fun l h=>by unfold pSev; rw [h]);clear hN hE hW hmz hR hX hLE;generalize pSev 7 5 el f L=r at *;obtain ⟨b2,hb2e⟩:∃ b2,w.heap.size=b2:=⟨_,rfl⟩;have hb2l:w.heap.size≤b2:=(by omega);have hb2u:b2≤w.heap.size:=(by omega)
 go_enter Tryz.func185,Tryz.ntmps185
 go_wp2_with fail;generalize (w.alloc (.cells #[.int .i64 0,.slice none 0 0,.int .i64 0,.slice none 0 0] 29))=w2 at *;rw [hb2e] at HB2
 try simp only [hb2e]
 clear hb2e;refine HPX.out.mono ?_;rintro e w3 ⟨qr2,bt,l2,rfl,hR3,hm3,h0,h1⟩;obtain ⟨k2,A2,c2,ws2,n2,B2,d2,xs2⟩:=qr2;simp only [qA_mk];have H0:=hd_ h0;have H1:=hd_ h1;have hb2r:=HB2.out.lt;have hs2:=HM2.out.size;have hs3:=hm3.size;have hmA:Pure w3 (w3.alloc (.cells #[.int .i64 k2,.slice A2 ws2.length c2,.int .i64 n2,.slice B2 xs2.length d2] 29)):=(Mod.refl _ _).alloc _;have HB5:=hd_ ((HB2.out.modb hm3 (by omega)).alloc (.cells #[.int .i64 k2,.slice A2 ws2.length c2,.int .i64 n2,.slice B2 xs2.length d2] 29));have HX5:=hd_ ((HX2.out.modb hm3 hgx).alloc (.cells #[.int .i64 k2,.slice A2 ws2.length c2,.int .i64 n2,.slice B2 xs2.length d2] 29));have HB6:=hd_ (Blk.new w3 29 #[.int .i64 k2,.slice A2 ws2.length c2,.int .i64 n2,.slice B2 xs2.length d2]);have HR5:=hd_ (RdrS.pure hR3 hmA);have HM5:=hd_ ((HM2.out.trans hm3).transp hmA);have HQA:=hd_ hmA;clear hmA h0 h1 hm3 hR3 HB2 HX2 HM2 HPX;go_upto_region 2 with (fail);generalize (w3.alloc (.cells #[.int .i64 k2,.slice A2 ws2.length c2,.int .i64 n2,.slice B2 xs2.length d2] 29))=w5 at *;obtain ⟨b10,hb10⟩:∃ b10,w3.heap.size=b10:=⟨_,rfl⟩;rw [hb10] at HB6
 try simp only [hb10]
 have hb10l:w3.heap.size≤b10:=(by omega);have hb10u:b10≤w3.heap.size:=(by omega);clear hb10;have hb10r:=HB6.out.lt;have hb2r5:=HB5.out.lt;have hgr5:=HR5.out.lt;have hxr5:=HX5.out.lt;have h5:=HB5.out;have h6:=HB6.out;obtain ⟨x0,x1,x2,x3,xf0,xf1,xf2,xf3⟩:=h5.c4f;obtain ⟨y0,y1,y2,y3⟩:=h6.c4;clear h5 h6
 cases bt
 ·have HI:Hid (r = .inl l2):=hd_ (HS2.out _ (H0.out rfl));clear H0 H1 HS1 HS2;go_wp2_with fail;have h4F:=st4_blk HB5.out (a:=.int .i64 k2) (b:=.slice A2 ws2.length c2) (c:=.int .i64 n2) (d:=.slice B2 xs2.length d2);obtain ⟨z0,z1,z2,z3⟩:=h4F.c4
  try simp only [Exit.inBlock,Exit.then]
  refine bodyPost_ret (v:=.tuple #[.agg #[.int .i64 k2,.slice A2 ws2.length c2,.int .i64 n2,.slice B2 xs2.length d2],.bool false]) (by simp [results,Tryz.results185,go_sem,z0,z1,z2,z3]) rfl ?_;exact pr_ret HM5.out HR5.out HB5.out (by omega) (by omega) (fun _=>HI.out) (fun h=>by cases h)
 ·obtain ⟨hq1,hq2,hq3⟩:=H1.out rfl;have HQ1:=hd_ (HS1.out _ _ hq1);have hll:=HLE.out _ _ _ hq1;have HQ2:=hd_ (hq2.pure HQA.out);have HQ3:=hd_ hq3;have HQ10:Hid (QN (· = b10) (QR.mk k2 A2 c2 ws2 n2 B2 d2 xs2)):=hd_ (QN.new hq2 (fun k hk=>by omega));have HQ8:Hid (QN (· = b2) (QR.mk k2 A2 c2 ws2 n2 B2 d2 xs2)):=hd_ (QN.old hq3 (fun k hk=>by omega));clear hq1 hq2 hq3 H0 H1 HQA HS1 HS2;obtain ⟨p5,qr5,t5,l5,rfl,hB7,hp5,hQ5,hk5,ha5,_,_⟩:=HR5.out;obtain ⟨k5,A5,c5,ws5,n5,B5,d5,xs5⟩:=qr5;have hBr:=hB7;unfold rdC at hBr;simp [qC] at hBr;obtain ⟨u0,u1,u2,u3,u4,u5,u6,u7⟩:=hBr.c8;clear hBr hQ5 hk5 ha5 hB7
  by_cases hkb:t5.kind=5
  ·have HI:Hid (pSevL 7 5 el f [(QR.mk k2 A2 c2 ws2 n2 B2 d2 xs2).key] (t5 :: l5)=r):=hd_ (by
    rw [HQ1.out]
    exact (if_pos (show kdL (t5 :: l5)=5 from hkb)).symm)
   rw [hkb] at u2;clear HQ1 hkb;have hmC:Pure w5 ((w5.alloc (.cells #[.int .i64 k2,.slice A2 ws2.length c2,.int .i64 n2,.slice B2 xs2.length d2] 29)).alloc (.cells #[.int .i64 7,.slice none 0 0,.int .i64 0,.slice (some ⟨w5.heap.size,0,none⟩) 1 1] 29)):=((Mod.refl _ _).alloc _).alloc _;have HB7:=hd_ ((HB5.out.alloc (.cells #[.int .i64 k2,.slice A2 ws2.length c2,.int .i64 n2,.slice B2 xs2.length d2] 29)).alloc (.cells #[.int .i64 7,.slice none 0 0,.int .i64 0,.slice (some ⟨w5.heap.size,0,none⟩) 1 1] 29));have HX7:=hd_ ((HX5.out.alloc (.cells #[.int .i64 k2,.slice A2 ws2.length c2,.int .i64 n2,.slice B2 xs2.length d2] 29)).alloc (.cells #[.int .i64 7,.slice none 0 0,.int .i64 0,.slice (some ⟨w5.heap.size,0,none⟩) 1 1] 29));have HBS:=hd_ ((Blk.new w5 29 #[.int .i64 k2,.slice A2 ws2.length c2,.int .i64 n2,.slice B2 xs2.length d2]).alloc (.cells #[.int .i64 7,.slice none 0 0,.int .i64 0,.slice (some ⟨w5.heap.size,0,none⟩) 1 1] 29));have HB12:=hd_ (Blk.snd w5 (.cells #[.int .i64 k2,.slice A2 ws2.length c2,.int .i64 n2,.slice B2 xs2.length d2] 29) 29 #[.int .i64 7,.slice none 0 0,.int .i64 0,.slice (some ⟨w5.heap.size,0,none⟩) 1 1]);have HR7:=hd_ (HR5.out.pure hmC);have HM7:=hd_ (HM5.out.transp hmC);have HQ7:=hd_ (HQ2.out.pure hmC);have HQS:Hid (QN (· = w5.heap.size) (QR.mk k2 A2 c2 ws2 n2 B2 d2 xs2)):=hd_ (QN.new HQ2.out (fun k hk=>by omega));have HQ12:Hid (QN (· = w5.heap.size+1) (QR.mk k2 A2 c2 ws2 n2 B2 d2 xs2)):=hd_ (QN.new HQ2.out (fun k hk=>by omega));clear hmC
   go_upto_block 0 with (fail)
   generalize ((w5.alloc (.cells #[.int .i64 k2,.slice A2 ws2.length c2,.int .i64 n2,.slice B2 xs2.length d2] 29)).alloc (.cells #[.int .i64 7,.slice none 0 0,.int .i64 0,.slice (some ⟨w5.heap.size,0,none⟩) 1 1] 29))=w7 at *;obtain ⟨gS,hgS⟩:∃ gS,w5.heap.size=gS:=⟨_,rfl⟩;rw [hgS] at HBS HB12 HQS HQ12
   try simp only [hgS]
   obtain ⟨b12,hb12⟩:∃ b12,gS+1=b12:=⟨_,rfl⟩;rw [hb12] at HB12 HQ12
   try simp only [hb12]
   have hgSl:w5.heap.size≤gS:=(by omega);have hbS:gS<b12:=(by omega);clear hgS hb12 x0 x1 x2 x3 xf0 xf1 xf2 xf3 y0 y1 y2 y3 u0 u1 u2 u3 u4 u5 u6 u7;have hl5:(t5 :: l5).length=l5.length+1:=rfl;have hgrS:=HBS.out.lt
   have HG0:Hid (GatQ w7 w.heap.size b2 b12 w.heap.size (some ⟨gS,0,none⟩) 1 [.mk k2 A2 c2 ws2 n2 B2 d2 xs2]):=hd_ (by
    refine ⟨⟨rfl,.inr ⟨gS,1,_,rfl,by omega,HBS.out,Nat.le_refl _,by decide,rfl,rfl⟩⟩,fun k hk => ?_,fun q hq => ?_⟩
    ·have hk2:gS=k:=Option.some.inj hk
     constructor <;> omega
    ·rw [List.mem_singleton.1 hq]
     exact ⟨HQ7.out,HQ8.out,HQ12.out,HQS.out.mono (fun k hk=>by injection hk with hk; exact hk.symm),HQ3.out.up (by omega)⟩)
   clear HQ7 HQ8 HQ12 HQS HQ3 HQ2 HQ10 HBS HB5 HX5 HR5 HM5 HB6;go_wp2_with fail
   go_loopg [] (t5 :: l5).length (fun gk wr=>SevR w g s 7 5 el f w.heap.size b2 b12 bx r gk wr)
   case atStart=>exact ⟨some ⟨gS,0,none⟩,1,f,[.mk k2 A2 c2 ws2 n2 B2 d2 xs2],t5 :: l5,rfl,by omega,Nat.le_refl _,HI.out,by simp,by show 1+(t5 :: l5).length≤2*f; omega,HG0.out,HR7.out,HB7.out,HB12.out,HX7.out,HM7.out⟩
   case round =>
    clear HG0 HB7 HB12 HX7 HR7 HM7 HI;obtain ⟨A,c,f2,qs,l,rfl,hlf,hff,hps,hne,hqn,hG,hR,hB8,hB12,hX,hM⟩:=hrel;have HPS:=hd_ hps;have HG:=hd_ hG;have HR:=hd_ hR;have HB8:=hd_ hB8;have HB12:=hd_ hB12;have HX:=hd_ hX;have HM:=hd_ hM;have hb8r:=hB8.lt;have hb12r:=hB12.lt;have hxr:=hX.lt;have hgr:=hR.lt;have hszr:=hM.size;have h5:=HB8.out;have h6:=HB12.out;obtain ⟨x0,x1,x2,x3,xf0,xf1,xf2,xf3⟩:=h5.c4f;obtain ⟨y0,y1,y2,y3,yf0,yf1,yf2,yf3⟩:=h6.c4f;clear hps hG hR hB8 hB12 hX hM h5 h6;obtain ⟨p9,qr9,t9,l9,rfl,hB9,hp9,hQ9,hk9,ha9,_,_⟩:=HR.out;obtain ⟨k9,A9,c9,ws9,n9,B9,d9,xs9⟩:=qr9;have hBr:=hB9;unfold rdC at hBr;simp [qC] at hBr;obtain ⟨u0,u1,u2,u3,u4,u5,u6,u7⟩:=hBr.c8;clear hBr hQ9 hk9 ha9 hB9;have hl9:(t9 :: l9).length=l9.length+1:=rfl
    cases f2 with
    | zero=>omega
    | succ f2 =>
     by_cases hkb:t9.kind=5
     ·have HPQ:Hid ((match el l9 with | .inl l => .inl l | .inr (q,l)=>pSevL 7 5 el f2 (qs.map QR.key ++ [q]) l)=r):=hd_ (by
       have h:=HPS.out;unfold pSevL at h;rw [if_pos (show kdL (t9 :: l9)=5 from hkb)] at h
       exact h)
      rw [hkb] at u2;have HNX:=hd_ (HN.out wr (t9 :: l9) (HW.out.trans HM.out) HR.out (show t9.kind≠0 by omega) (show t9.kind≠8 by omega));clear HPS hkb;go_wp2_with fail;refine HNX.out.mono ?_;rintro e w8 ⟨rfl,hR4,hm4⟩;obtain ⟨cs,hcs⟩:=HR.out.blk;have HG4:=hd_ (HG.out.rd hcs hm4);have HB84:=hd_ (HB8.out.modb hm4 (by omega));have HB124:=hd_ (HB12.out.modb hm4 (by omega));have HX4:=hd_ (HX.out.modb hm4 hgx);have HM4:=hd_ (HM.out.trans hm4);have hsz4:=hm4.size;have HEX:=hd_ (HE.out w8 l9 (HW.out.trans HM4.out) HX4.out hR4 (by omega));have hcs4:=RdrS.blk hR4;clear hcs hm4 hR4 HNX HG HB8 HB12 HX HM HR x0 x1 x2 x3 xf0 xf1 xf2 xf3 y0 y1 y2 y3 yf0 yf1 yf2 yf3 u0 u1 u2 u3 u4 u5 u6 u7;go_wp2_with fail;refine HEX.out.mono ?_;rintro e w9 ⟨qr6,bt,l6,rfl,hR6,hm6,h0,h1⟩;obtain ⟨k6,A6,c6,ws6,n6,B6,d6,xs6⟩:=qr6;simp only [qA_mk];obtain ⟨cs,hcs⟩:=hcs4;have H0:=hd_ h0;have H1:=hd_ h1;have hsz6:=hm6.size;have hA:Pure w9 (w9.alloc (.cells #[.int .i64 k6,.slice A6 ws6.length c6,.int .i64 n6,.slice B6 xs6.length d6] 29)):=(Mod.refl _ _).alloc _;have HG6:=hd_ ((HG4.out.rd hcs hm6).pure hA);have HB86:=hd_ ((HB84.out.modb hm6 (by omega)).alloc (.cells #[.int .i64 k6,.slice A6 ws6.length c6,.int .i64 n6,.slice B6 xs6.length d6] 29));have HB126:=hd_ ((HB124.out.modb hm6 (by omega)).alloc (.cells #[.int .i64 k6,.slice A6 ws6.length c6,.int .i64 n6,.slice B6 xs6.length d6] 29));have HX6:=hd_ ((HX4.out.modb hm6 hgx).alloc (.cells #[.int .i64 k6,.slice A6 ws6.length c6,.int .i64 n6,.slice B6 xs6.length d6] 29));have HB13:=hd_ (Blk.new w9 29 #[.int .i64 k6,.slice A6 ws6.length c6,.int .i64 n6,.slice B6 xs6.length d6]);have HR6:=hd_ (RdrS.pure hR6 hA);have HM6:=hd_ ((HM4.out.trans hm6).transp hA);have HQ6:Hid (bt=true→QS (w9.alloc (.cells #[.int .i64 k6,.slice A6 ws6.length c6,.int .i64 n6,.slice B6 xs6.length d6] 29)) (.mk k6 A6 c6 ws6 n6 B6 d6 xs6)∧QFr w8.heap.size (.mk k6 A6 c6 ws6 n6 B6 d6 xs6)):=hd_ (fun h=>⟨(h1 h).2.1.pure hA,(h1 h).2.2⟩)
      have hob:∀ k,(Value.slice A qs.length c).ownBlock=some k→k<w8.heap.size:=by
       intro k hk;obtain ⟨arr,ha⟩:=own_heap HG4.out.1 hk;exact lt_of_heap ha
      have HOB:=hd_ hob;clear hA hm6 hR6 h0 h1 hcs HG4 HB84 HB124 HX4 HM4 HEX hob;go_upto_region 8 with (fail);generalize (w9.alloc (.cells #[.int .i64 k6,.slice A6 ws6.length c6,.int .i64 n6,.slice B6 xs6.length d6] 29))=wA at *;obtain ⟨b13,hb13⟩:∃ b13,w9.heap.size=b13:=⟨_,rfl⟩;rw [hb13] at HB13
      try simp only [hb13]
      have hb13l:w9.heap.size≤b13:=(by omega);clear hb13;have h5:=HB86.out;have h6:=HB126.out;have h7:=HB13.out;obtain ⟨x0,x1,x2,x3,xf0,xf1,xf2,xf3⟩:=h5.c4f;obtain ⟨y0,y1,y2,y3,yf0,yf1,yf2,yf3⟩:=h6.c4f;obtain ⟨v0,v1,v2,v3⟩:=h7.c4;clear h5 h6 h7
      cases bt
      ·have HI:Hid (r = .inl l6):=hd_ (by
        have h9:=HPQ.out;rw [H0.out rfl] at h9
        exact h9.symm)
       clear HPQ H0 H1 HQ6;go_wp2_with fail;have h4F:=st4_blk HB86.out (a:=.int .i64 k6) (b:=.slice A6 ws6.length c6) (c:=.int .i64 n6) (d:=.slice B6 xs6.length d6);obtain ⟨z0,z1,z2,z3⟩:=h4F.c4
       try simp only [Exit.inBlock,Exit.then]
       refine bodyPost_ret (v:=.tuple #[.agg #[.int .i64 k6,.slice A6 ws6.length c6,.int .i64 n6,.slice B6 xs6.length d6],.bool false]) (by simp [results,Tryz.results185,go_sem,z0,z1,z2,z3]) rfl ?_;exact pr_ret HM6.out HR6.out HB86.out (by omega) (by omega) (fun _=>HI.out) (fun h=>by cases h)
      ·obtain ⟨hq1,hq2⟩:=HQ6.out rfl;have h9:=H1.out rfl;have hl6:=HLE.out _ _ _ h9.1
       have HPR:Hid (pSevL 7 5 el f2 (qs.map QR.key ++ [(QR.mk k6 A6 c6 ws6 n6 B6 d6 xs6).key]) l6=r):=hd_ (by
        have h:=HPQ.out;rw [h9.1] at h
        exact h)
       have HQA:=hd_ hq1;have HQF:=hd_ hq2;clear hq1 hq2 h9 H0 H1 HQ6 HPQ;have hown:=HG6.out.1;have hqc:qs.length≤2*f:=(by omega);have hwA:=HB13.out.lt
       go_wp2_with ((at_builtin; refine wpList_append_lies _ rfl _ _ _ rfl w.heap.size 29 i0 _ 4 64 Tryz.underlying27 hi0 hz0 hz1 hz2 rfl (by omega) (.slice A qs.length c) qs.length (qV qs) rfl (hown.alloc _) ⟨wA.heap.size,0,none⟩ 1 1 [.int .i64 k6,.slice A6 ws6.length c6,.int .i64 n6,.slice B6 xs6.length d6] rfl rfl (World.news_of_block (cs:=#[.int .i64 k6,.slice A6 ws6.length c6,.int .i64 n6,.slice B6 xs6.length d6]) (t:=29) (fr:=(0,0)) (heap_alloc_new wA _)) (by simp [Value.oneCell']) (by omega) (by simp [maxLen]; omega) (by omega) (by have:=HM6.out.size; simp; omega) (wA.heap.size+1) (by simp) ?_; intro g5 cap5 w5 hown5 hgrow hat hlt5); have hX:=(HB126.out.alloc (.cells #[.int .i64 k6,.slice A6 ws6.length c6,.int .i64 n6,.slice B6 xs6.length d6] 29)).mod (mod_grown hgrow) (fun hv=>(HG6.out.2.1 _ hv).2 rfl); obtain ⟨q0,q1,q2,q3,qf0,qf1,qf2,qf3⟩:=hX.c4f)
       go_roundg l6.length
       case measure=>omega
       case rel =>
        have hA:Pure wA (wA.alloc (.cells #[.int .i64 k6,.slice A6 ws6.length c6,.int .i64 n6,.slice B6 xs6.length d6] 29)):=(Mod.refl _ _).alloc _;have hgm:=mod_grown hgrow;have hst:Mod (· = b12) w5 (w5.setCell ⟨b12,3,none⟩ (.slice (some ⟨g5,0,none⟩) (qs.length+1) cap5)):=mod_set (Mod.refl _ _) 3 _;have hGA:=HG6.out.pure hA;have hRg:=(HR6.out.pure hA).mod hgm (fun hv=>by have:=HOB.out _ hv; obtain ⟨cs,hc⟩:=HR6.out.blk; obtain ⟨arr,ha⟩:=own_heap HG6.out.1 hv; unfold Blk at hc; rw [hc] at ha; injection ha with ha; injection ha with _ ha; exact absurd ha (by decide)) (own_str hGA.1);have hno:∀ k,(Value.slice A qs.length c).ownBlock=some k→k≠b2∧k≠b12:=HG6.out.2.1;have hsA:(wA.alloc (.cells #[.int .i64 k6,.slice A6 ws6.length c6,.int .i64 n6,.slice B6 xs6.length d6] 29)).heap.size=wA.heap.size+1:=(by simp);refine ⟨some ⟨g5,0,none⟩,cap5,f2,qs ++ [.mk k6 A6 c6 ws6 n6 B6 d6 xs6],l6,rfl,by omega,by omega,by rw [List.map_append]; exact HPR.out,by simp,by simp; omega,?_,RdrS.box hRg hX hst (by omega),?_,?_,?_,?_⟩
        ·exact hGA.snoc (HQA.out.pure hA) (HQF.out.up (by omega)) (QN.old HQF.out (fun k hk=>by omega)) (QN.old HQF.out (fun k hk=>by omega)) (QN.old HQF.out (fun k hk=>HOB.out k hk)) hown5 hgm (by rcases hat with h | h; exact .inl h; exact .inr (by omega)) (by omega) (by omega) hX hst
        ·exact ((HB86.out.alloc _).mod hgm (fun hv=>(hno _ hv).1 rfl)).mod hst (by omega)
        ·have h:=hX.set 3 (.slice (some ⟨g5,0,none⟩) (qs.length+1) cap5)
         simpa using h
        ·refine ((HX6.out.alloc _).mod hgm (fun hv => ?_)).mod hst (by omega);obtain ⟨arr,ha⟩:=own_heap HG6.out.1 hv;have hc:=HX6.out;unfold Blk at hc;rw [hc] at ha
         injection ha with ha
         injection ha with _ ha
         exact absurd ha (by decide)
        ·exact ((HM6.out.transp hA).trans' hgm (fun i hi hlt=>by have:=own_block HG6.out.1 i hi; omega)).trans' hst (fun i hi hlt=>by omega)
     ·have HI:Hid (r = .inr (.mk 7 [] 0 (qs.map QR.key),t9 :: l9)):=hd_ (by
       have h:=HPS.out;unfold pSevL at h;rw [if_neg (show ¬ kdL (t9 :: l9)=5 from hkb)] at h
       exact h.symm)
      have hkbi:(t9.kind == 5)=false:=by rw [← Bool.not_eq_true,beq_iff_eq]; exact hkb
      obtain ⟨hG1,hG2,hG3⟩:=HG.out;have HG1:=hd_ hG1;have HG2:=hd_ hG2;have HG3:=hd_ hG3;clear hkb HPS hG1 hG2 hG3;go_wp2_with fail;have h4F:=st4_blk HB8.out (a:=.int .i64 7) (b:=.slice none 0 0) (c:=.int .i64 0) (d:=.slice A qs.length c);obtain ⟨z0,z1,z2,z3⟩:=h4F.c4
      try simp only [Exit.inBlock,Exit.then]
      refine bodyPost_ret (v:=.tuple #[.agg #[.int .i64 7,.slice none 0 0,.int .i64 0,.slice A qs.length c],.bool true]) (by simp [results,Tryz.results185,go_sem,z0,z1,z2,z3]) rfl ?_;refine pr_ret (ws:=[]) (A:=none) HM.out HR.out HB8.out (by omega) (by omega) (fun h=>by cases h) (fun _=>⟨by rw [QR.key_mk]; exact HI.out,.mk Sl.nil_ (Sl.of_own HG1.out) (fun a ha=>(HG3.out a ha).1),.mk ?_ (fun a ha=>(HG3.out a ha).2.1),.mk ?_ (fun a ha=>(HG3.out a ha).2.2.2.2)⟩)
      ·intro _ g3 off he hb;rw [he] at HG2;exact (HG2.out g3 rfl).1 hb
      ·intro _
       rcases HG1.out.2 with ⟨h1,h2⟩ | ⟨g3,cap,cur,h1,h2,_⟩
       ·exact absurd (List.eq_nil_of_length_eq_zero h2) hne
       ·injection h1 with h1 _ _
        exact ⟨g3,0,h1,h2⟩
  ·have HI:Hid (r = .inr ((QR.mk k2 A2 c2 ws2 n2 B2 d2 xs2).key,t5 :: l5)):=hd_ (by
    rw [HQ1.out]
    exact if_neg (show ¬ kdL (t5 :: l5)=5 from hkb))
   have hkbi:(t5.kind == 5)=false:=by rw [← Bool.not_eq_true,beq_iff_eq]; exact hkb
   clear hkb;go_wp2_with fail;have h4F:=st4_blk HB5.out (a:=.int .i64 k2) (b:=.slice A2 ws2.length c2) (c:=.int .i64 n2) (d:=.slice B2 xs2.length d2);obtain ⟨z0,z1,z2,z3⟩:=h4F.c4
   try simp only [Exit.inBlock,Exit.then]
   refine bodyPost_ret (v:=.tuple #[.agg #[.int .i64 k2,.slice A2 ws2.length c2,.int .i64 n2,.slice B2 xs2.length d2],.bool true]) (by simp [results,Tryz.results185,go_sem,z0,z1,z2,z3]) rfl ?_;exact pr_ret HM5.out HR5.out HB5.out (by omega) (by omega) (fun h=>by cases h) (fun _=>⟨HI.out,HQ2.out,HQ8.out,HQ3.out.up (by omega)⟩)
def aB:Option Addr→List Nat
 | none=>[]
 | some a=>[a.block]
def qBl:QR→List Nat
 | .mk _ A _ _ _ B _ xs=>aB A ++ aB B ++ (xs.map qBl).flatten
theorem qBl_mk {k n:Int} {A B:Option Addr} {c d:Nat} {ws:List Str} {xs:List QR} {i:Nat}:i∈qBl (.mk k A c ws n B d xs)↔i∈aB A∨i∈aB B∨∃ a∈xs,i∈qBl a:=by
 rw [qBl];simp only [List.mem_append,List.mem_flatten,List.mem_map,or_assoc]
 constructor
 ·rintro (h | h | ⟨l,⟨a,ha,rfl⟩,h⟩)
  ·exact .inl h
  ·exact .inr (.inl h)
  ·exact .inr (.inr ⟨a,ha,h⟩)
 ·rintro (h | h | ⟨a,ha,h⟩)
  ·exact .inl h
  ·exact .inr (.inl h)
  ·exact .inr (.inr ⟨_,⟨a,ha,rfl⟩,h⟩)
inductive QD:QR→Prop
 | mk {k n:Int} {A B:Option Addr} {c d:Nat} {ws:List Str} {xs:List QR} (hAB:∀ i∈aB A,i ∉ aB B) (hAx:∀ i∈aB A,∀ a∈xs,i ∉ qBl a) (hBx:∀ i∈aB B,∀ a∈xs,i ∉ qBl a) (hxx:∀ (i j:Nat) (hi:i<xs.length) (hj:j<xs.length),i≠j→∀ m∈qBl xs[i],m ∉ qBl xs[j]) (hs:∀ a∈xs,QD a):QD (.mk k A c ws n B d xs)
inductive QC (base:Nat) (w:World):QR→Prop
 | mk {k n:Int} {A B:Option Addr} {c d:Nat} {ws:List Str} {xs:List QR} (hA:w.ownsRow base 9 1 (.slice A ws.length c) ws.length (strsV ws)) (hB:w.ownsRow base 29 4 (.slice B xs.length d) xs.length (qV xs)) (hs:∀ a∈xs,QC base w a):QC base w (.mk k A c ws n B d xs)
theorem own_up {w:World} {b1 b2:Nat} {e:TypeId} {size n:Nat} {v:Value} {xs:List Value} (h:w.ownsRow b2 e size v n xs) (hb:b1≤b2):w.ownsRow b1 e size v n xs :=
 ⟨h.1,h.2.imp id (fun ⟨g,cap,cur,e1,e2,e3⟩=>⟨g,cap,cur,e1,Nat.le_trans hb e2,e3⟩)⟩
theorem own_aB {w:World} {base:Nat} {e:TypeId} {size n m c:Nat} {A:Option Addr} {xs:List Value} (h:w.ownsRow base e size (.slice A m c) n xs) {i:Nat} (hi:i∈aB A):base≤i∧i<w.heap.size∧∃ cur,w.heap[i]? = some (.cells cur e (0,0)):=by
 rcases h.2 with ⟨h1,_⟩ | ⟨g,cap,cur,h1,h2,h3,_⟩
 ·injection h1 with h1 _ _
  subst h1
  cases hi
 ·injection h1 with h1 _ _
  subst h1
  have:i=g:=by simpa [aB] using hi
  subst this;exact ⟨h2,lt_of_heap h3,cur,h3⟩
theorem own_modB {w w':World} {S:Nat→Prop} {base:Nat} {e:TypeId} {size n m c:Nat} {A:Option Addr} {xs:List Value} (h:w.ownsRow base e size (.slice A m c) n xs) (hm:Mod S w w') (hs:∀ i∈aB A,¬ S i):w'.ownsRow base e size (.slice A m c) n xs :=
 own_mod h hm (fun g hg=>by
  cases A with
  | none=>cases hg
  | some a=>exact hs g (by
    have:some a.block=some g:=hg
    injection this with this
    subst this
    exact List.mem_singleton.2 rfl))
theorem QC.up {b1 b2:Nat} {w:World} {q:QR} (h:QC b2 w q) (hb:b1≤b2):QC b1 w q:=by
 induction h with
 | mk hA hB hs ih=>exact .mk (own_up hA hb) (own_up hB hb) ih
theorem QC.qs {base:Nat} {w:World} {q:QR} (h:QC base w q):QS w q:=by
 induction h with
 | mk hA hB hs ih=>exact .mk (Sl.of_own hA) (Sl.of_own hB) ih
theorem QC.fr {base:Nat} {w:World} {q:QR} (h:QC base w q):QFr base q:=by
 induction h with
 | mk hA hB hs ih =>
  rename_i xs
  refine .mk (fun hx => ?_) ih
  rcases hB.2 with ⟨_,h2⟩ | ⟨g,cap,cur,h1,h2,_⟩
  ·exact absurd (List.eq_nil_of_length_eq_zero h2) hx
  ·injection h1 with h1 _ _
   exact ⟨g,0,h1,h2⟩
theorem QC.z {base:Nat} {w:World} {q:QR} (h:QC base w q):QZ q:=by
 induction h with
 | mk hA hB hs ih =>
  rename_i xs
  refine .mk (fun g off sp hx => ?_) ih
  rcases hB.2 with ⟨h1,_⟩ | ⟨g,cap,cur,h1,h2,_⟩
  ·injection h1 with h1 _ _
   rw [h1] at hx
   cases hx
  ·injection h1 with h1 _ _
   rw [h1] at hx
   injection hx with hx
   injection hx with _ _ hx
   exact hx.symm
theorem QC.ge {base:Nat} {w:World} {q:QR} (h:QC base w q):∀ i∈qBl q,base≤i∧i<w.heap.size:=by
 induction h with
 | mk hA hB hs ih =>
  intro i hi
  rcases qBl_mk.1 hi with h | h | ⟨a,ha,h⟩
  ·exact ⟨(own_aB hA h).1,(own_aB hA h).2.1⟩
  ·exact ⟨(own_aB hB h).1,(own_aB hB h).2.1⟩
  ·exact ih a ha i h
theorem QC.mod {base:Nat} {w w':World} {S:Nat→Prop} {q:QR} (h:QC base w q) (hm:Mod S w w') (hs:∀ i∈qBl q,¬ S i):QC base w' q:=by
 induction h with
 | mk hA hB hs' ih =>
  exact .mk (own_modB hA hm (fun i hi=>hs i (qBl_mk.2 (.inl hi)))) (own_modB hB hm (fun i hi=>hs i (qBl_mk.2 (.inr (.inl hi))))) (fun a ha=>ih a ha (fun i hi=>hs i (qBl_mk.2 (.inr (.inr ⟨a,ha,hi⟩)))))
theorem Sl.modB {w w':World} {S:Nat→Prop} {e:TypeId} {size n c:Nat} {A:Option Addr} {xs:List Value} (h:Sl w e size (.slice A n c) xs) (hm:Mod S w w') (hs:∀ i∈aB A,¬ S i):Sl w' e size (.slice A n c) xs:=by
 obtain ⟨A',n',c',he,h1,h2,h3,h4⟩:=h
 injection he with e1 e2 e3
 subst e1 e2 e3;refine ⟨_,_,_,rfl,h1,h2,h3,fun hn => ?_⟩;obtain ⟨g,off,hA,hr⟩:=h4 hn;subst hA;exact ⟨g,off,rfl,hr.mod hm (hs g (List.mem_singleton.2 rfl))⟩
theorem QS.modBl {w w':World} {S:Nat→Prop} {q:QR} (h:QS w q) (hm:Mod S w w') (hs:∀ i∈qBl q,¬ S i):QS w' q:=by
 induction h with
 | mk hA hB hs' ih =>
  exact .mk (hA.modB hm (fun i hi=>hs i (qBl_mk.2 (.inl hi)))) (hB.modB hm (fun i hi=>hs i (qBl_mk.2 (.inr (.inl hi))))) (fun a ha=>ih a ha (fun i hi=>hs i (qBl_mk.2 (.inr (.inr ⟨a,ha,hi⟩)))))
theorem QB.mono {M M':Nat} {q:Qry} (h:QB M q) (hM:M≤M'):QB M' q:=by
 induction h with
 | mk h1 h2 h3 h4 h5 h6 h7 _ ih=>exact .mk h1 h2 h3 h4 (by omega) (fun x hx=>Nat.le_trans (h6 x hx) hM) (by omega) ih
def CellsAt (arr:Array Value) (o:Nat) (q:QR):Prop:=∀ j u,(qC q)[j]? = some u→arr[o+j]? = some u
structure QOk (w:World) (base M:Nat) (q:QR):Prop where
 qs:QS w q
 fr:QFr base q
 z:QZ q
 b:QB M q.key
def Hole (r base M T:Nat) (w:World) (g o:Nat) (arr:Array Value) (R:Nat→Prop):Prop :=
 ∀ (w':World) (arr':Array Value) (q':QR),Mod (fun k=>¬ R k) w w'→Blk w' g 29 arr'→arr'.size=arr.size→CellsAt arr' o q'→(∀ i u,(i<o∨o+4≤i)→arr[i]? = some u→arr'[i]? = some u)→QOk w' base M q' →
  ∃ q2,QOk w' base M q2∧qSize q2.key≤T+qSize q'.key∧Blk w' r 29 (qC q2).toArray
theorem cellsAt_all {arr:Array Value} {q:QR} (h:CellsAt arr 0 q) (hs:arr.size=4):arr=(qC q).toArray:=by
 have hl:=qC_len q
 apply Array.ext
 ·simp [hs,hl]
 ·intro i h1 h2;have h3:i<(qC q).length:=(by simpa using h2);have:=h i ((qC q)[i]) (List.getElem?_eq_getElem h3);rw [Nat.zero_add,Array.getElem?_eq_getElem h1] at this;exact (Option.some.inj this).trans (by simp)
theorem hole_root {r base M:Nat} {w:World} {q:QR}:Hole r base M 0 w r 0 (qC q).toArray (fun _=>False):=by
 intro w' arr' q' hm hB hs hc _ hq
 have hs4:arr'.size=4:=by rw [hs]; simp [qC_len]
 rw [cellsAt_all hc hs4] at hB;exact ⟨q',hq,by omega,hB⟩
theorem Hole.mod {r base M T:Nat} {w w1:World} {g o:Nat} {arr:Array Value} {R:Nat→Prop} {S:Nat→Prop} (h:Hole r base M T w g o arr R) (hm:Mod S w w1) (hS:∀ k,S k→¬ R k):Hole r base M T w1 g o arr R:=by
 intro w' arr' q' hm' hB hs hc ho hq;exact h w' arr' q' ((hm.mono hS).trans hm') hB hs hc ho hq
def SpI (r lo base M Z:Nat) (w:World) (g o:Nat) (q:QR):Prop :=
 ∃ (arr:Array Value) (R:Nat→Prop) (T:Nat),Blk w g 29 arr∧o+4≤arr.size∧CellsAt arr o q∧Hole r base (M+1) T w g o arr R∧¬ R g∧(∀ k∈qBl q,¬ R k∧k≠g)∧(∀ k,R k→lo≤k)∧(∀ k,R k→k<w.heap.size)∧(lo≤g∧lo≤base)∧QC base w q∧QD q∧QB M q.key∧T+qSize q.key≤Z
theorem spI_root {r lo base M Z:Nat} {w:World} {q:QR} (hB:Blk w r 29 (qC q).toArray) (hr:lo≤r) (hlb:lo≤base) (hq:QC base w q) (hrq:r ∉ qBl q) (hd:QD q) (hM:QB M q.key) (hZ:qSize q.key≤Z):SpI r lo base M Z w r 0 q :=
 ⟨_,fun _=>False,0,hB,by simp [qC_len],fun j u h=>by simpa using h,hole_root,id,fun k hk=>⟨id,fun e=>hrq (e ▸ hk)⟩,fun _ h=>h.elim,fun _ h=>h.elim,⟨hr,hlb⟩,hq,hd,hM,by omega⟩
theorem SpI.mod {r lo base M Z:Nat} {w w1:World} {g o:Nat} {q:QR} {S:Nat→Prop} (h:SpI r lo base M Z w g o q) (hm:Mod S w w1) (hS:∀ k,S k→k<lo):SpI r lo base M Z w1 g o q:=by
 obtain ⟨arr,R,T,h1,h2,h3,h4,h5,h6,h7,h7',h8,h9,h10,h11,h12⟩:=h;exact ⟨arr,R,T,h1.mod hm (fun h=>by have:=hS _ h; have:=h8.1; omega),h2,h3,h4.mod hm (fun k hk hr=>by have:=hS _ hk; have:=h7 _ hr; omega),h5,h6,h7,fun k hk=>Nat.lt_of_lt_of_le (h7' k hk) hm.size,h8,h9.mod hm (fun k hk hs=>by have:=hS _ hs; have:=(h9.ge k hk).1; have:=h8.2; omega),h10,h11,h12⟩
theorem qsize_mem {xs:List Qry} {i:Nat} (hi:i<xs.length) (y:Qry):((xs.set i y).map qSize).sum+qSize xs[i]=(xs.map qSize).sum+qSize y:=by
 induction xs generalizing i with
 | nil=>simp at hi
 | cons x t ih =>
  cases i with
  | zero=>simp; omega
  | succ i =>
   have:=ih (i:=i) (by simpa using hi);simp only [List.set_cons_succ,List.map_cons,List.sum_cons,List.getElem_cons_succ]
   omega
theorem cells_row {cur:Array Value} {xs:List QR} (h:cur.toList.take (xs.length*4)=qV xs) {i:Nat} (hi:i<xs.length):CellsAt cur (i*4) xs[i]:=by
 intro j u hu
 have hj:j<4:=by
  have:=(List.getElem?_eq_some_iff.1 hu).1;rw [qC_len] at this;exact this
 have e:=qV_get xs i hi j hj;rw [hu,← h,List.getElem?_take_of_lt (by omega)] at e
 simpa using e
theorem qV_set {xs:List QR} {i:Nat} (hi:i<xs.length) (q:QR) {m:Nat} {u:Value} (h:(qV (xs.set i q))[m]? = some u):(i*4≤m∧m<i*4+4∧(qC q)[m - i*4]? = some u)∨((m<i*4∨i*4+4≤m)∧(qV xs)[m]? = some u):=by
 have hm:m<xs.length*4:=by
  have:=(List.getElem?_eq_some_iff.1 h).1
  rwa [qV_len,List.length_set] at this
 have hj:m / 4<xs.length:=(by omega);have hmm:m / 4*4+m % 4=m:=(by omega);have hj':m / 4<(xs.set i q).length:=(by simpa using hj);have e:=qV_get (xs.set i q) (m / 4) hj' (m % 4) (by omega);rw [hmm,h] at e;have e2:=qV_get xs (m / 4) hj (m % 4) (by omega);rw [hmm] at e2
 by_cases hij:i=m / 4
 ·left
  refine ⟨by omega,by omega,?_⟩
  have e3:(xs.set i q)[m / 4]=q:=by
   rw [List.getElem_set];simp [hij]
  rw [e3] at e;rw [e]
  congr 1
  omega
 ·right
  refine ⟨by omega,?_⟩
  have e3:(xs.set i q)[m / 4]=xs[m / 4]:=by
   rw [List.getElem_set];simp [hij]
  rw [e3] at e;rw [e2,← e]
theorem map_set_key (xs:List QR) (i:Nat) (q:QR):(xs.set i q).map QR.key=(xs.map QR.key).set i q.key:=by
 rw [List.map_set]
theorem mem_set {xs:List QR} {i:Nat} {q a:QR} (h:a∈xs.set i q):a=q∨∃ (j:Nat) (hj:j<xs.length),j≠i∧xs[j]=a:=by
 obtain ⟨j,hj,rfl⟩:=List.mem_iff_getElem.1 h;have hj':j<xs.length:=(by simpa using hj);rw [List.getElem_set]
 split
 ·exact .inl rfl
 ·exact .inr ⟨j,hj',by omega,rfl⟩
theorem SpI.down {r lo base M Z:Nat} {w:World} {g o:Nat} {k n:Int} {A B:Option Addr} {c d:Nat} {ws:List Str} {xs:List QR} (h:SpI r lo base M Z w g o (.mk k A c ws n B d xs)) (i:Nat) (hi:i<xs.length):∃ gB,B=some ⟨gB,0,none⟩∧SpI r lo base M Z w gB (i*4) xs[i]:=by
 obtain ⟨arr,R,T,hB,ho,hc,hH,hgR,hq,hRb,hRl,hgb,hQC,hQD,hM,hZ⟩:=h;have hge:=hQC.ge
 cases hQC with
 | mk hA hBo hs =>
 cases hQD with
 | mk hAB hAx hBx hxx hds =>
 have hBo':=hBo
 rcases hBo.2 with ⟨_,h0⟩ | ⟨gB,cap,cur,e1,e2,e3,e4,e5,e6,e7⟩
 ·omega
 injection e1 with e1 _ e1c
 subst e1 e1c
 have hgB:gB∈aB (some ⟨gB,0,none⟩):=by simp [aB]
 have hmi:xs[i]∈xs:=List.getElem_mem hi;have hgBq:gB∈qBl (.mk k A c ws n (some ⟨gB,0,none⟩) d xs):=qBl_mk.2 (.inr (.inl hgB));rw [QR.key_mk] at hM;have hlk:i<(xs.map QR.key).length:=(by simpa using hi)
 have hsz:∀ y:QR,qSize (QR.mk k A c ws n (some ⟨gB,0,none⟩) d (xs.set i y)).key+qSize xs[i].key=qSize (QR.mk k A c ws n (some ⟨gB,0,none⟩) d xs).key+qSize y.key:=fun y=>by
  have e:=qsize_mem hlk y.key;rw [QR.key_mk,QR.key_mk,qSize,qSize,map_set_key];simp only [List.getElem_map] at e
  omega
 have hle:qSize xs[i].key≤qSize (QR.mk k A c ws n (some ⟨gB,0,none⟩) d xs).key:=by
  have e:=hsz (.mk 0 none 0 [] 0 none 0 []);rw [QR.key_mk] at e;rw [QR.key_mk,QR.key_mk] at e
  have:qSize (Qry.mk 0 [] 0 (([]:List QR).map QR.key))=1:=by simp [qSize]
  rw [this] at e
  have h1:1≤qSize (Qry.mk k ws n ((xs.set i (.mk 0 none 0 [] 0 none 0 [])).map QR.key)):=by rw [qSize]; omega
  rw [QR.key_mk]
  omega
 obtain ⟨hgb,hlb⟩:=hgb;refine ⟨gB,rfl,cur,fun m=>m=g∨R m∨(m∈qBl (.mk k A c ws n (some ⟨gB,0,none⟩) d xs)∧m≠gB∧m ∉ qBl xs[i]),T+(qSize (QR.mk k A c ws n (some ⟨gB,0,none⟩) d xs).key - qSize xs[i].key),e3,by omega,cells_row e7 hi,?_,?_,?_,?_,?_,⟨by omega,hlb⟩,hs _ hmi,hds _ hmi,QB.allH hM _ (List.mem_map.2 ⟨_,hmi,rfl⟩),by omega⟩
 ·intro w' arr' q' hm hB' hs' hc' ho' hq';have hBg:Blk w' g 29 arr:=hB.mod hm (fun h=>h (.inl rfl))
  have hok':QOk w' base (M+1) (.mk k A c ws n (some ⟨gB,0,none⟩) d (xs.set i q')):=by
   refine ⟨?_,?_,?_,?_⟩
   ·refine .mk ((Sl.of_own hA).modB hm (fun m hm' h=>h (.inr (.inr ⟨qBl_mk.2 (.inl hm'),fun e=>hAB m hm' (e ▸ hgB),hAx m hm' _ hmi⟩)))) ?_ (fun a ha => ?_)
    ·refine ⟨_,_,_,rfl,by simpa using e4,by unfold maxLen at e5; omega,by rw [qV_len],fun _=>⟨gB,0,rfl,arr',(0,0),hB',fun m u hu => ?_⟩⟩;rw [Nat.zero_add]
     rcases qV_set hi q' hu with ⟨h1,h2,h3⟩ | ⟨h1,h2⟩
     ·have:=hc' _ _ h3
      rwa [show i*4+(m - i*4)=m by omega] at this
     ·refine ho' m u h1 ?_;rw [← e7] at h2;have hml:=(List.getElem?_eq_some_iff.1 h2).1;rw [List.length_take] at hml;rw [List.getElem?_take_of_lt (by omega)] at h2
      simpa using h2
    ·rcases mem_set ha with rfl | ⟨j,hj,hji,rfl⟩
     ·exact hq'.qs
     ·exact (hs _ (List.getElem_mem hj)).qs.modBl hm (fun m hm' h=>h (.inr (.inr ⟨qBl_mk.2 (.inr (.inr ⟨_,List.getElem_mem hj,hm'⟩)),fun e=>hBx gB hgB _ (List.getElem_mem hj) (e ▸ hm'),hxx j i hj hi hji m hm'⟩)))
   ·refine .mk (fun _=>⟨gB,0,rfl,e2⟩) (fun a ha => ?_)
    rcases mem_set ha with rfl | ⟨j,hj,hji,rfl⟩
    ·exact hq'.fr
    ·exact (hs _ (List.getElem_mem hj)).fr
   ·refine .mk (fun g' off sp hx => ?_) (fun a ha => ?_)
    ·injection hx with hx
     injection hx with _ _ hx
     exact hx.symm
    ·rcases mem_set ha with rfl | ⟨j,hj,hji,rfl⟩
     ·exact hq'.z
     ·exact (hs _ (List.getElem_mem hj)).z
   ·rw [QR.key_mk];refine .mk hM.knH.1 hM.knH.2.1 hM.knH.2.2.1 hM.knH.2.2.2 (by have:=hM.wsH.1; omega) (fun x hx=>by have:=hM.wsH.2 x hx; omega) (by have:=hM.xsH; simpa using Nat.le_succ_of_le this) (fun a ha => ?_);obtain ⟨y,hy,rfl⟩:=List.mem_map.1 ha
    rcases mem_set hy with rfl | ⟨j,hj,hji,rfl⟩
    ·exact hq'.b
    ·exact (hM.allH _ (List.mem_map.2 ⟨_,List.getElem_mem hj,rfl⟩)).mono (by omega)
  obtain ⟨q3,hok,hsz3,hblk⟩:=hH w' arr (.mk k A c ws n (some ⟨gB,0,none⟩) d (xs.set i q')) (hm.mono (fun k hk hr=>hk (.inr (.inl hr)))) hBg rfl (fun j u hu=>hc j u (by simpa [qC] using hu)) (fun i u _ h=>h) hok';exact ⟨q3,hok,by have:=hsz q'; omega,hblk⟩
 ·rintro (h | h | ⟨_,h,_⟩)
  ·exact (hq gB hgBq).2 h
  ·exact (hq gB hgBq).1 h
  ·exact h rfl
 ·intro m hm;have hmq:m∈qBl (.mk k A c ws n (some ⟨gB,0,none⟩) d xs):=qBl_mk.2 (.inr (.inr ⟨_,hmi,hm⟩));refine ⟨?_,fun e=>hBx gB hgB _ hmi (e ▸ hm)⟩;rintro (h | h | ⟨_,_,h⟩)
  ·exact (hq m hmq).2 h
  ·exact (hq m hmq).1 h
  ·exact h hm
 ·rintro m (h | h | ⟨h,_⟩)
  ·omega
  ·exact hRb m h
  ·exact Nat.le_trans hlb (hge m h).1
 ·rintro m (h | h | ⟨h,_⟩)
  ·rw [h]; exact hB.lt
  ·exact hRl m h
  ·exact (hge m h).2
theorem SpI.cells {r lo base M Z:Nat} {w:World} {g o:Nat} {q:QR} (h:SpI r lo base M Z w g o q) {j:Nat} {u:Value} (hj:(qC q)[j]? = some u):w.cell? ⟨g,o+j,none⟩=some u∧w.frozen? ⟨g,o+j,none⟩=false:=by
 obtain ⟨arr,R,T,hB,ho,hc,_⟩:=h;exact ⟨by rw [hB.cell]; exact hc j u hj,hB.frozen _⟩
theorem SpI.fin {r lo base M Z e:Nat} {w w':World} {g o:Nat} {q q':QR} {S:Nat→Prop} {arr':Array Value} (h:SpI r lo base M Z w g o q) (hm:Mod S w w') (hS:∀ k,S k→k=g∨k∈qBl q∨k<lo)
  (hB':∀ arr,Blk w g 29 arr→arr'.size=arr.size∧(∀ i u,(i<o∨o+4≤i)→arr[i]? = some u→arr'[i]? = some u)) (hB2:Blk w' g 29 arr') (hc:CellsAt arr' o q') (hok:QOk w' base (M+1) q') (hz:qSize q'.key≤qSize q.key+e):∃ q2,QOk w' base (M+1) q2∧qSize q2.key≤Z+e∧Blk w' r 29 (qC q2).toArray:=by
 obtain ⟨arr,R,T,hB,ho,hc0,hH,hgR,hq,hRb,hRl,hgb,hQC,hQD,hM,hZ⟩:=h;obtain ⟨h1,h2⟩:=hB' arr hB
 obtain ⟨q2,h3,h4,h5⟩:=hH w' arr' q' (hm.mono (fun k hk hr=>by
  rcases hS k hk with rfl | h | h
  ·exact hgR hr
  ·exact (hq k h).1 hr
  ·have:=hRb k hr; omega)) hB2 h1 hc h2 hok
 exact ⟨q2,h3,by omega,h5⟩
theorem SpI.blk {r lo base M Z:Nat} {w:World} {g o:Nat} {q:QR} (h:SpI r lo base M Z w g o q):∃ arr,Blk w g 29 arr∧o+4≤arr.size∧CellsAt arr o q∧lo≤g∧g ∉ qBl q∧QC base w q∧QD q∧QB M q.key:=by
 obtain ⟨arr,R,T,hB,ho,hc0,hH,hgR,hq,hRb,hRl,hgb,hQC,hQD,hM,hZ⟩:=h;exact ⟨arr,hB,ho,hc0,hgb.1,fun h=>(hq g h).2 rfl,hQC,hQD,hM⟩
end Go.Proofs.YtnfflgicngeekaaGreatDoor
namespace Go.Proofs.YtnfflgicngeekaaGreatDoor
open Go.RowKit Go.Sort Go.Shelf
def ClnQq (w:World) (l:List QR) (e:Ending) (w':World):Prop:=∃ v,e = .returned v∧w'.ownsRow w.heap.size 29 4 v l.length (qV l)∧Pure w w'
theorem qV_oneQ (l:List QR):∀ u∈qV l,u.oneCell'=true:=by
 intro u hu;obtain ⟨x,_,hx⟩:=List.mem_flatMap.1 hu;obtain ⟨k,A,c,ws,n,B,d,xs⟩:=x;simp only [qC,List.mem_cons,List.not_mem_nil,or_false] at hx
 rcases hx with rfl | rfl | rfl | rfl <;> rfl
theorem own_formQ {w:World} {base size n:Nat} {e:TypeId} {v:Value} {xs:List Value} (h:w.ownsRow base e size v n xs):∃ A c,v = .slice A n c:=by
 rcases h.2 with ⟨h1,h2⟩ | ⟨g,cap,cur,h1,_⟩
 ·exact ⟨none,0,by rw [h1,h2]⟩
 ·exact ⟨_,_,h1⟩
theorem clnQ_calls (w:World) (A:Option Addr) (d:Nat) (l:List QR) (hv:Sl w 29 4 (.slice A l.length d) (qV l)) (hz:∀ g off sp,A=some ⟨g,off,sp⟩→sp=none) (hl:l.length≤100000):Calls Tryz.prog 171 #[.slice A l.length d] w (ClnQq w l):=by
 obtain ⟨i0,hi0,hz0,hz1,hz2⟩:=info_parts info_qry;obtain ⟨_,_,_,hf,hc1,hc2,hl2,hr⟩:=hv
 cases hf
 cases A with
 | none =>
  have e:l=[]:=by
   rcases Nat.eq_zero_or_pos l.length with h | h
   ·exact List.eq_nil_of_length_eq_zero h
   ·obtain ⟨_,_,h,_⟩:=hr h
    cases h
  subst e;refine (AnyE.slices_Clone_nil Tryz.clnQry 0 d w).mono ?_;rintro e w' ⟨rfl,rfl⟩;exact ⟨_,rfl,World.ownsRow_nil _ _ _ _,Mod.refl _ _⟩
 | some a =>
  obtain ⟨g,off,sp⟩:=a;obtain rfl:=hz _ _ _ rfl;refine (AnyE.slices_Clone Tryz.clnQry i0 (.agg #[.int .i64 0,.slice none 0 0,.int .i64 0,.slice none 0 0]) 4 64 hi0 hz0 hz1 hz2 rfl (by omega) Tryz.sizeOf29 g off l.length d (qV l) w (qV_len l) (by unfold maxLen; omega) (by omega) (fun j u hj => ?_) (qV_oneQ l)).mono ?_
  ·have:0<l.length:=by
    rcases Nat.eq_zero_or_pos l.length with h | h
    ·rw [List.eq_nil_of_length_eq_zero h] at hj; simp [qV] at hj
    ·exact h
   obtain ⟨g2,o2,h2,hrow⟩:=hr this
   obtain ⟨rfl,rfl⟩:g=g2∧off=o2:=by
    have:=Option.some.inj h2;exact ⟨congrArg Addr.block this,congrArg Addr.off this⟩
   exact hrow.cell hj
  ·rintro e w' ⟨v',rfl,hown,_,hb⟩;exact ⟨v',rfl,hown,Mod.of_below hb⟩
end Go.Proofs.YtnfflgicngeekaaGreatDoor
namespace Go.Proofs.YtnfflgicngeekaaGreatDoor
open Go.RowKit
theorem foldr_max_snoc (l:List Nat) (x:Nat):(l ++ [x]).foldr max 0=max (l.foldr max 0) x:=by
 induction l with
 | nil=>simp
 | cons a l ih =>
  show max a ((l ++ [x]).foldr max 0)=max (max a (l.foldr max 0)) x
  rw [ih,Nat.max_assoc]
def qTop (f:Qry→Nat) (ks:List Qry) (j:Nat):Nat:=((ks.take j).map f).foldr max 0
theorem qTop_zero (f:Qry→Nat) (ks:List Qry):qTop f ks 0=0:=by simp [qTop]
theorem qTop_succ (f:Qry→Nat) {ks:List Qry} {j:Nat} (h:j<ks.length):qTop f ks (j+1)=max (qTop f ks j) (f ks[j]):=by
 unfold qTop;rw [List.take_succ_eq_append_getElem h,List.map_append,List.map_singleton,foldr_max_snoc]
theorem qTop_all (f:Qry→Nat) (ks:List Qry):qTop f ks ks.length=(ks.map f).foldr max 0:=by simp [qTop]
theorem foldr_le_sum (l:List Nat):l.foldr max 0≤l.sum:=by
 induction l with
 | nil=>simp
 | cons a l ih=>simp only [List.foldr_cons,List.sum_cons]; omega
theorem sum_le_map {l:List Qry} {f g:Qry→Nat} (h:∀ q∈l,f q≤g q):(l.map f).sum≤(l.map g).sum:=by
 induction l with
 | nil=>simp
 | cons a l ih =>
  have h1:=h a (by simp);have h2:=ih (fun q hq=>h q (by simp [hq]));simp only [List.map_cons,List.sum_cons]
  omega
theorem qDeep_le:∀ q:Qry,qDeep q≤qSize q:=by
 refine Qry.ind (fun k ws n xs ih => ?_);rw [qDeep,qSize];have h1:=foldr_le_sum (xs.map qDeep);have h2:=sum_le_map ih
 omega
theorem qNear_le:∀ q:Qry,qNear q≤qSize q:=by
 refine Qry.ind (fun k ws n xs ih => ?_);rw [qNear,qSize];have h1:=foldr_le_sum (xs.map qNear);have h2:=sum_le_map ih
 split <;> omega
theorem qTop_le {f:Qry→Nat} (hf:∀ q,f q≤qSize q) (ks:List Qry) (j:Nat):qTop f ks j≤(ks.map qSize).sum:=by
 have h1:=foldr_le_sum ((ks.take j).map f);have h2:((ks.take j).map f).sum≤((ks.take j).map qSize).sum:=sum_le_map (fun q _=>hf q);have h3:=qSum_le ks j;unfold qSum at h3;unfold qTop
 omega
def RszP (w:World) (q:Qry) (e:Ending) (w':World):Prop:=e = .returned (.tuple #[.int .i64 (qSize q:Int),.int .i64 (qDeep q:Int)])∧Pure w w'
theorem rsize_calls:∀ (qr:QR) (w:World),QS w qr→qSize qr.key≤1000000→Calls Tryz.prog 104 #[qA qr] w (RszP w qr.key):=by
 refine QR.ind (fun k A c ws n B dd xs ih => ?_);intro w hQ hz;have HIH:=hd_ ih;rw [QR.key_mk] at hz ⊢;rw [qSize] at hz;have HQ:=hd_ hQ;have HQX:=hd_ hQ.xsH;have hxl:=sum_ge_length (l:=xs.map QR.key);rw [List.length_map] at hxl
 have HFIN:Hid (1+qSum (xs.map QR.key) xs.length=qSize (.mk k ws n (xs.map QR.key))∧qTop qDeep (xs.map QR.key) xs.length+1=qDeep (.mk k ws n (xs.map QR.key))):=hd_ (by
  have h1:=qSum_all (xs.map QR.key);have h2:=qTop_all qDeep (xs.map QR.key);rw [List.length_map] at h1 h2;rw [qSize,qDeep,h1,h2]
  exact ⟨rfl,by omega⟩)
 have hB0:=Blk.new w 29 #[.int .i64 k,.slice A ws.length c,.int .i64 n,.slice B xs.length dd];have HP0:=hd_ (pure_alloc w (.cells #[.int .i64 k,.slice A ws.length c,.int .i64 n,.slice B xs.length dd] 29))
 show Calls Tryz.prog 104 #[.agg #[.int .i64 k,.slice A ws.length c,.int .i64 n,.slice B xs.length dd]] w (RszP w _)
 obtain ⟨q0,hq0⟩:∃ q0,Qry.mk k ws n (xs.map QR.key)=q0:=⟨_,rfl⟩;rw [hq0] at HFIN ⊢;clear hQ ih hq0
 go_enter Tryz.func104,Tryz.ntmps104
 go_upto_region 1 with (fail);generalize (w.alloc (.cells #[.int .i64 k,.slice A ws.length c,.int .i64 n,.slice B xs.length dd] 29))=w1 at *;generalize w.heap.size=g0 at *;obtain ⟨x0,x1,x2,x3⟩:=hB0.c4;clear hB0;go_wp2_with fail
 go_loopg [4,5,13] xs.length (fun gk m d i wr=>∃ j:Nat,xs.length - j=gk∧j≤xs.length∧i = .int .i64 (j:Int)∧m = .int .i64 ((1+qSum (xs.map QR.key) j:Nat):Int)∧d = .int .i64 (qTop qDeep (xs.map QR.key) j:Int)∧Pure w wr)
 case atStart=>exact ⟨0,by omega,by omega,rfl,by rw [qSum_zero]; rfl,by rw [qTop_zero]; rfl,HP0.out⟩
 case round =>
  obtain ⟨j,rfl,hj,rfl,rfl,rfl,hm⟩:=hrel;have HM:Hid (Pure w wr):=hd_ hm;clear hm;have hs0:=qSum_le (xs.map QR.key) j;have ht0:=qTop_le qDeep_le (xs.map QR.key) j
  by_cases hlt:j<xs.length
  ·obtain ⟨k',A',c',ws',n',B',dd',xs',hq⟩:=QR.ex xs[j];have hxs:=HQX.out.pure HM.out;obtain ⟨g,off,hA,q0,q1,q2,q3⟩:=qcells hxs hlt hq;obtain rfl:=hA;have hji:((j:Nat):Int)<(xs.length:Int):=(by omega);have HQJ:Hid (QS wr (.mk k' A' c' ws' n' B' dd' xs')):=hd_ (by rw [← hq]; exact (HQ.out.allH _ (List.getElem_mem hlt)).pure HM.out);have HMEM:Hid (QR.mk k' A' c' ws' n' B' dd' xs'∈xs):=hd_ (by rw [← hq]; exact List.getElem_mem hlt)
   have hjk:j<(xs.map QR.key).length:=by rw [List.length_map]; exact hlt
   have hkey:(xs.map QR.key)[j]=(QR.mk k' A' c' ws' n' B' dd' xs').key:=by rw [List.getElem_map,hq]
   have hsum:=qSum_succ hjk;have htop:=qTop_succ qDeep hjk;have hs1:=qSum_le (xs.map QR.key) (j+1);rw [hkey] at hsum htop;have HPA:=hd_ (pure_alloc wr (.cells #[.int .i64 k',.slice A' ws'.length c',.int .i64 n',.slice B' xs'.length dd'] 29));have HC:=hd_ (HIH.out _ HMEM.out _ (HQJ.out.pure HPA.out) (by omega));rw [show qA (QR.mk k' A' c' ws' n' B' dd' xs') = .agg #[.int .i64 k',.slice A' ws'.length c',.int .i64 n',.slice B' xs'.length dd'] from rfl] at HC;have hdl:=qDeep_le (QR.mk k' A' c' ws' n' B' dd' xs').key;have HSUM:=hd_ hsum;have HTOP:=hd_ htop;unfold RszP at HC;generalize qSize (QR.mk k' A' c' ws' n' B' dd' xs').key=sz at *;generalize qDeep (QR.mk k' A' c' ws' n' B' dd' xs').key=dp at *;generalize hS:qSum (xs.map QR.key) j=S at *;generalize hT:qTop qDeep (xs.map QR.key) j=T at *;have hszb:S+sz≤999999:=(by omega);clear hsum htop hS hT hkey hxs hq HQJ HMEM HIH HFIN;go_wp2_with fail;refine HC.out.mono ?_;rintro e w3 ⟨rfl,hm3⟩;have HM3:Hid (Pure w w3):=hd_ ((HM.out.trans HPA.out).trans hm3);clear hm3 HC HPA HM q0 q1 q2 q3;go_wp2_with fail
   go_roundg (xs.length - (j+1))
   case measure=>omega
   case rel =>
    refine ⟨j+1,rfl,by omega,by simp,?_,?_,HM3.out⟩
    ·rw [HSUM.out]; simp; omega
    ·rw [HTOP.out]; congr 1; omega
  ·obtain rfl:j=xs.length:=by omega
   have hjj:¬ ((xs.length:Nat):Int)<(xs.length:Int):=(by omega);obtain ⟨e1,e2⟩:=HFIN.out;have HR:Hid (∀ W,Pure w W→RszP w q0 (.returned (.tuple #[.int .i64 ((1+qSum (xs.map QR.key) xs.length:Nat):Int),.int .i64 ((qTop qDeep (xs.map QR.key) xs.length:Nat)+1:Int)])) W):=hd_ (fun W h=>⟨by rw [← e1,← e2]; rfl,h⟩);clear HFIN HQ HQX HIH e1 e2;generalize qSum (xs.map QR.key) xs.length=S at *;generalize qTop qDeep (xs.map QR.key) xs.length=T at *;go_wp2_with fail
   try simp only [Exit.inBlock,Exit.then]
   refine bodyPost_ret (v:=.tuple #[.int .i64 ((1+S:Nat):Int),.int .i64 ((T:Int)+1)]) (by simp [results,Tryz.results104,go_sem]) rfl ?_;exact HR.out _ HM.out
theorem rnear_calls:∀ (qr:QR) (w:World),QS w qr→qSize qr.key≤1000000→Calls Tryz.prog 105 #[qA qr] w (IntPost w (qNear qr.key:Int)):=by
 refine QR.ind (fun k A c ws n B dd xs ih => ?_);intro w hQ hz;have HIH:=hd_ ih;rw [QR.key_mk] at hz ⊢;rw [qSize] at hz;have HQ:=hd_ hQ;have HQX:=hd_ hQ.xsH;have hxl:=sum_ge_length (l:=xs.map QR.key);rw [List.length_map] at hxl;obtain ⟨nk,hnk⟩:∃ nk,nearK k=nk:=⟨_,rfl⟩;have HKN:Hid ((decide (k=4) || decide (k=5))=nk):=hd_ hnk
 have HFIN:Hid (qTop qNear (xs.map QR.key) xs.length+(if nk=true then 1 else 0)=qNear (.mk k ws n (xs.map QR.key))):=hd_ (by
  have h2:=qTop_all qNear (xs.map QR.key);rw [List.length_map] at h2
  rw [qNear,h2,hnk])
 have hB0:=Blk.new w 29 #[.int .i64 k,.slice A ws.length c,.int .i64 n,.slice B xs.length dd];have HP0:=hd_ (pure_alloc w (.cells #[.int .i64 k,.slice A ws.length c,.int .i64 n,.slice B xs.length dd] 29))
 show Calls Tryz.prog 105 #[.agg #[.int .i64 k,.slice A ws.length c,.int .i64 n,.slice B xs.length dd]] w (IntPost w _)
 obtain ⟨q0,hq0⟩:∃ q0,Qry.mk k ws n (xs.map QR.key)=q0:=⟨_,rfl⟩;rw [hq0] at HFIN ⊢;clear hQ ih hq0 hnk
 go_enter Tryz.func105,Tryz.ntmps105
 go_upto_region 1 with (fail);generalize (w.alloc (.cells #[.int .i64 k,.slice A ws.length c,.int .i64 n,.slice B xs.length dd] 29))=w1 at *;generalize w.heap.size=g0 at *;have HB:=hd_ hB0;obtain ⟨x0,x1,x2,x3⟩:=hB0.c4;clear hB0;go_wp2_with fail
 go_loopg [3,9] xs.length (fun gk d i wr=>∃ j:Nat,xs.length - j=gk∧j≤xs.length∧i = .int .i64 (j:Int)∧d = .int .i64 (qTop qNear (xs.map QR.key) j:Int)∧Pure w1 wr)
 case atStart=>exact ⟨0,by omega,by omega,rfl,by rw [qTop_zero]; rfl,Mod.refl _ _⟩
 case round =>
  obtain ⟨j,rfl,hj,rfl,rfl,hm⟩:=hrel;have HM:Hid (Pure w wr):=hd_ (HP0.out.trans hm);have HMR:Hid (Pure w1 wr):=hd_ hm;clear hm;have ht0:=qTop_le qNear_le (xs.map QR.key) j
  by_cases hlt:j<xs.length
  ·obtain ⟨k',A',c',ws',n',B',dd',xs',hq⟩:=QR.ex xs[j];have hxs:=HQX.out.pure HM.out;obtain ⟨g,off,hA,q0,q1,q2,q3⟩:=qcells hxs hlt hq;obtain rfl:=hA;have hji:((j:Nat):Int)<(xs.length:Int):=(by omega);have HQJ:Hid (QS wr (.mk k' A' c' ws' n' B' dd' xs')):=hd_ (by rw [← hq]; exact (HQ.out.allH _ (List.getElem_mem hlt)).pure HM.out);have HMEM:Hid (QR.mk k' A' c' ws' n' B' dd' xs'∈xs):=hd_ (by rw [← hq]; exact List.getElem_mem hlt)
   have hjk:j<(xs.map QR.key).length:=by rw [List.length_map]; exact hlt
   have hkey:(xs.map QR.key)[j]=(QR.mk k' A' c' ws' n' B' dd' xs').key:=by rw [List.getElem_map,hq]
   have hsum:=qSum_succ hjk;have htop:=qTop_succ qNear hjk;have hs1:=qSum_le (xs.map QR.key) (j+1);rw [hkey] at hsum htop;have HPA:=hd_ (pure_alloc wr (.cells #[.int .i64 k',.slice A' ws'.length c',.int .i64 n',.slice B' xs'.length dd'] 29));have HC:=hd_ (HIH.out _ HMEM.out _ (HQJ.out.pure HPA.out) (by omega));rw [show qA (QR.mk k' A' c' ws' n' B' dd' xs') = .agg #[.int .i64 k',.slice A' ws'.length c',.int .i64 n',.slice B' xs'.length dd'] from rfl] at HC;have hdl:=qNear_le (QR.mk k' A' c' ws' n' B' dd' xs').key;have HTOP:=hd_ htop;generalize qNear (QR.mk k' A' c' ws' n' B' dd' xs').key=dp at *;generalize hT:qTop qNear (xs.map QR.key) j=T at *;clear hsum htop hT hkey hxs hq HQJ HMEM HIH HFIN hs1;go_wp2_with fail;refine HC.out.mono ?_;rintro e w3 ⟨rfl,hm3⟩;have HM3:Hid (Pure w1 w3):=hd_ ((HMR.out.trans HPA.out).trans hm3);clear hm3 HC HPA HM HMR q0 q1 q2 q3;go_wp2_with fail
   go_roundg (xs.length - (j+1))
   case measure=>omega
   case rel=>exact ⟨j+1,rfl,by omega,by simp,by rw [HTOP.out]; congr 1; omega,HM3.out⟩
  ·obtain rfl:j=xs.length:=by omega
   have hjj:¬ ((xs.length:Nat):Int)<(xs.length:Int):=(by omega);have e1:=HFIN.out;have hbr:=HB.out.modp HMR.out;clear x0 x1 x2 x3 HFIN HQ HQX HIH HB HMR;obtain ⟨x0,x1,x2,x3⟩:=hbr.c4;clear hbr;generalize qTop qNear (xs.map QR.key) xs.length=T at *;generalize qNear q0=rr at *;have ek:=HKN.out
   by_cases h4:k=4
   ·rw [decide_eq_true h4,Bool.true_or] at ek;subst ek h4
    obtain rfl:T+1=rr:=by simpa using e1
    clear e1 HKN;go_wp2_with fail;go_ret;exact ⟨by simp,HM.out⟩
   ·have h4i:(k == 4)=false:=(by simpa using h4)
    by_cases h5:k=5
    ·rw [decide_eq_true h5,Bool.or_true] at ek;subst ek h5
     obtain rfl:T+1=rr:=by simpa using e1
     clear e1 HKN;go_wp2_with fail;go_ret;exact ⟨by simp,HM.out⟩
    ·have h5i:(k == 5)=false:=(by simpa using h5);rw [decide_eq_false h4,decide_eq_false h5] at ek;obtain rfl:false=nk:=ek
     obtain rfl:T=rr:=by simpa using e1
     clear e1 HKN;go_wp2_with fail;go_ret;exact ⟨rfl,HM.out⟩
def CpP (w:World) (qr:QR) (e:Ending) (w':World):Prop:=∃ q',e = .returned (qA q')∧q'.key=qr.key∧QC w.heap.size w' q'∧QD q'∧Pure w w'
section
variable {k:Int} {A:Option Addr} {c:Nat} {ws:List Str} {n:Int} {B:Option Addr} {d:Nat} {xs:List QR}
theorem QZ.hereH (h:QZ (.mk k A c ws n B d xs)):∀ g off sp,B=some ⟨g,off,sp⟩→sp=none:=by cases h; assumption
theorem QZ.allH (h:QZ (.mk k A c ws n B d xs)):∀ a∈xs,QZ a:=by cases h; assumption
end
def CpI (w:World) (base b1:Nat) (k n:Int) (A3:Option Addr) (c3:Nat) (ws:List Str) (B4:Option Addr) (d4:Nat) (xs:List QR) (j:Nat) (wr:World):Prop :=
 ∃ ys:List QR,ys.length=j∧ys.map QR.key=(xs.take j).map QR.key∧wr.ownsRow base 29 4 (.slice B4 xs.length d4) xs.length (qV (ys ++ xs.drop j))∧wr.ownsRow base 9 1 (.slice A3 ws.length c3) ws.length (strsV ws)∧Blk wr b1 29 #[.int .i64 k,.slice A3 ws.length c3,.int .i64 n,.slice B4 xs.length d4] ∧
  (∀ y∈ys,QC base wr y∧QD y∧(∀ i∈aB A3,i ∉ qBl y)∧(∀ i∈aB B4,i ∉ qBl y))∧(∀ (i j:Nat) (hi:i<ys.length) (hj:j<ys.length),i≠j→∀ m∈qBl ys[i],m ∉ qBl ys[j])∧Pure w wr∧base≤wr.heap.size
theorem flatK_setQ {α:Type} {enc:α→List Value} {k:Nat} (hk:∀ x,(enc x).length=k):∀ (xs:List α) (i j:Nat) (u:Value) (x':α),j<k→(h:i<xs.length)→enc x'=(enc xs[i]).set j u→(xs.flatMap enc).set (i*k+j) u=(xs.set i x').flatMap enc
 | [],i,j,u,x',hj,h,e=>absurd h (by simp)
 | x :: t,0,j,u,x',hj,h,e=>by
  show (enc x ++ t.flatMap enc).set (0*k+j) u=enc x' ++ t.flatMap enc
  rw [Nat.zero_mul,Nat.zero_add,List.set_append_left _ _ (by rw [hk]; exact hj),e]; rfl
 | x :: t,i+1,j,u,x',hj,h,e=>by
  show (enc x ++ t.flatMap enc).set ((i+1)*k+j) u=enc x ++ (t.set i x').flatMap enc
  have e1:(i+1)*k+j - (enc x).length=i*k+j:=by rw [hk,Nat.add_mul]; omega
  rw [List.set_append_right _ _ (by rw [hk,Nat.add_mul]; omega),e1,flatK_setQ hk t i j u x' hj (by simpa using h) (by simpa using e)]
theorem qV_sets (l:List QR) (i:Nat) (h:i<l.length) (k n:Int) (A B:Option Addr) (c d:Nat) (ws:List Str) (xs:List QR):((((qV l).set (i*4) (.int .i64 k)).set (i*4+1) (.slice A ws.length c)).set (i*4+2) (.int .i64 n)).set (i*4+3) (.slice B xs.length d)=qV (l.set i (.mk k A c ws n B d xs)):=by
 have hl:∀ y:QR,i<(l.set i y).length:=fun y=>by simpa using h
 obtain ⟨k0,A0,c0,ws0,n0,B0,d0,xs0,e0⟩:=QR.ex l[i];have s1:=flatK_setQ qC_len l i 0 (.int .i64 k) (.mk k A0 c0 ws0 n0 B0 d0 xs0) (by omega) h (by rw [e0]; rfl);have s2:=flatK_setQ qC_len (l.set i (.mk k A0 c0 ws0 n0 B0 d0 xs0)) i 1 (.slice A ws.length c) (.mk k A c ws n0 B0 d0 xs0) (by omega) (hl _) (by simp [qC]);have s3:=flatK_setQ qC_len (l.set i (.mk k A c ws n0 B0 d0 xs0)) i 2 (.int .i64 n) (.mk k A c ws n B0 d0 xs0) (by omega) (hl _) (by simp [qC]);have s4:=flatK_setQ qC_len (l.set i (.mk k A c ws n B0 d0 xs0)) i 3 (.slice B xs.length d) (.mk k A c ws n B d xs) (by omega) (hl _) (by simp [qC]);simp only [List.set_set] at s2 s3 s4
 show ((((l.flatMap qC).set (i*4+0) _).set (i*4+1) _).set (i*4+2) _).set (i*4+3) _=_
 rw [s1,s2,s3,s4]
 rfl
theorem own_st4 {w:World} {base g n cap:Nat} {l:List QR} (h:w.ownsRow base 29 4 (.slice (some ⟨g,0,none⟩) n cap) n (qV l)) (i:Nat) (hi:i<l.length) (k m:Int) (A B:Option Addr) (c d:Nat) (ws:List Str) (xs:List QR) :
  ((((w.setCell ⟨g,i*4,none⟩ (.int .i64 k)).setCell ⟨g,i*4+1,none⟩ (.slice A ws.length c)).setCell ⟨g,i*4+2,none⟩ (.int .i64 m)).setCell ⟨g,i*4+3,none⟩ (.slice B xs.length d)).ownsRow base 29 4 (.slice (some ⟨g,0,none⟩) n cap) n (qV (l.set i (.mk k A c ws m B d xs))):=by
 obtain ⟨h1,_⟩:=h.stored (i*4) (.int .i64 k);obtain ⟨h2,_⟩:=h1.stored (i*4+1) (.slice A ws.length c);obtain ⟨h3,_⟩:=h2.stored (i*4+2) (.int .i64 m);obtain ⟨h4,_⟩:=h3.stored (i*4+3) (.slice B xs.length d)
 rwa [qV_sets l i hi] at h4
theorem st4_modo {w:World} {g o:Nat} {a b c d:Value}:Mod (· = g) w ((((w.setCell ⟨g,o,none⟩ a).setCell ⟨g,o+1,none⟩ b).setCell ⟨g,o+2,none⟩ c).setCell ⟨g,o+3,none⟩ d) :=
 ((((Mod.refl (· = g) w).setCell (p:=⟨g,o,none⟩) (.inl rfl) a).setCell (p:=⟨g,o+1,none⟩) (.inl rfl) b).setCell (p:=⟨g,o+2,none⟩) (.inl rfl) c).setCell (p:=⟨g,o+3,none⟩) (.inl rfl) d
theorem own_tyB {w:World} {base n m size c g:Nat} {e t:TypeId} {A:Option Addr} {xs:List Value} {arr:Array Value} {fr:Nat × Nat} (h:w.ownsRow base e size (.slice A m c) n xs) (hv:g∈aB A) (hg:w.heap[g]? = some (.cells arr t fr)):t=e:=by
 obtain ⟨_,_,cur,hc⟩:=own_aB h hv;rw [hg] at hc
 injection hc with hc
 injection hc with _ hc
theorem CpI.step {w wr w5:World} {base b1 j:Nat} {k n:Int} {A3:Option Addr} {c3:Nat} {ws:List Str} {gB d4:Nat} {xs:List QR} {k' n':Int} {A' B':Option Addr} {c' d':Nat} {ws':List Str} {xs':List QR} (h:CpI w base b1 k n A3 c3 ws (some ⟨gB,0,none⟩) d4 xs j wr) (hj:j<xs.length) (hm:Pure wr w5) {W:Nat} (hW:wr.heap.size≤W) (hq:QC W w5 (.mk k' A' c' ws' n' B' d' xs')) (hd:QD (.mk k' A' c' ws' n' B' d' xs')) (hk:(QR.mk k' A' c' ws' n' B' d' xs').key=xs[j].key) (hb1:b1<base) (hwb:w.heap.size≤base) :
  CpI w base b1 k n A3 c3 ws (some ⟨gB,0,none⟩) d4 xs (j+1) ((((w5.setCell ⟨gB,j*4,none⟩ (.int .i64 k')).setCell ⟨gB,j*4+1,none⟩ (.slice A' ws'.length c')).setCell ⟨gB,j*4+2,none⟩ (.int .i64 n')).setCell ⟨gB,j*4+3,none⟩ (.slice B' xs'.length d')):=by
 obtain ⟨ys,h1,h2,h3,h4,h5,h6,h7,h8,h9⟩:=h;have hgl:=(own_aB h3 (i:=gB) (by simp [aB])).2.1;have hgw:=(own_aB h3 (i:=gB) (by simp [aB])).1;obtain ⟨_,_,curB,hcB⟩:=own_aB h3 (i:=gB) (by simp [aB]);have hmS:=st4_modo (w:=w5) (g:=gB) (o:=j*4) (a:=.int .i64 k') (b:=.slice A' ws'.length c') (c:=.int .i64 n') (d:=.slice B' xs'.length d');have hbl:=h5.lt;have hws:=hm.size;have hge:=hq.ge
 have hlen:j<(ys ++ xs.drop j).length:=by simp; omega
 have hset:(ys ++ xs.drop j).set j (QR.mk k' A' c' ws' n' B' d' xs')=(ys ++ [QR.mk k' A' c' ws' n' B' d' xs']) ++ xs.drop (j+1):=by
  rw [List.set_append_right _ _ (by omega),h1,Nat.sub_self,List.drop_eq_getElem_cons hj,List.set_cons_zero];simp
 have hA3:∀ i∈aB A3,i≠gB:=fun i hi e=>by
  subst e;exact absurd (own_tyB h4 hi hcB) (by decide)
 have hnew:∀ i∈qBl (QR.mk k' A' c' ws' n' B' d' xs'),wr.heap.size≤i:=fun i hi=>Nat.le_trans hW (hge i hi).1;refine ⟨ys ++ [.mk k' A' c' ws' n' B' d' xs'],by simp [h1],?_,?_,?_,?_,?_,?_,?_,?_⟩
 ·rw [List.take_succ_eq_append_getElem hj,List.map_append,List.map_append,h2,List.map_singleton,List.map_singleton,hk]
 ·have h:=own_st4 (own_pure h3 hm) j hlen k' n' A' B' c' d' ws' xs'
  rwa [hset] at h
 ·exact own_modB (own_pure h4 hm) hmS (fun i hi e=>hA3 i hi e)
 ·exact (h5.mod hm id).mod hmS (fun e=>by omega)
 ·intro y hy
  rcases List.mem_append.1 hy with hy | hy
  ·obtain ⟨a1,a2,a4,a5⟩:=h6 y hy;exact ⟨(a1.mod hm (fun _ _ h=>h)).mod hmS (fun i hi e=>a5 gB (by simp [aB]) (e ▸ hi)),a2,a4,a5⟩
  ·rw [List.mem_singleton.1 hy];refine ⟨(hq.up (by omega)).mod hmS (fun i hi e=>by have:=hnew i hi; omega),hd,fun i hi h=>by have:=hnew _ h; have:=(own_aB h4 hi).2.1; omega,fun i hi h=>(have e:i=gB:=(by simpa [aB] using hi); by have:=hnew _ h; omega)⟩
 ·intro i i' hi hi' hne m hm1 hm2;have hy:∀ (a:Nat) (ha:a<ys.length),∀ m∈qBl ys[a],m<wr.heap.size:=fun a ha m hm=>((h6 _ (List.getElem_mem ha)).1.ge m hm).2;rw [List.length_append,List.length_singleton] at hi hi'
  by_cases e1:i<ys.length
  ·rw [List.getElem_append_left e1] at hm1
   by_cases e2:i'<ys.length
   ·rw [List.getElem_append_left e2] at hm2;exact h7 i i' e1 e2 hne m hm1 hm2
   ·rw [List.getElem_append_right (by omega)] at hm2;simp only [List.getElem_singleton] at hm2;have:=hnew m hm2;have:=hy i e1 m hm1
    omega
  ·rw [List.getElem_append_right (by omega)] at hm1;simp only [List.getElem_singleton] at hm1;have:=hnew m hm1
   by_cases e2:i'<ys.length
   ·rw [List.getElem_append_left e2] at hm2;have:=hy i' e2 m hm2
    omega
   ·omega
 ·exact (h8.trans hm).trans' hmS (fun i hi hlt=>by omega)
 ·have:=hmS.size; omega
theorem CpI.fin {w wr:World} {base b1:Nat} {k n:Int} {A3 B4:Option Addr} {c3 d4:Nat} {ws:List Str} {xs:List QR} (h:CpI w base b1 k n A3 c3 ws B4 d4 xs xs.length wr):∃ ys:List QR,ys.length=xs.length∧(QR.mk k A3 c3 ws n B4 d4 ys).key = .mk k ws n (xs.map QR.key)∧QC base wr (.mk k A3 c3 ws n B4 d4 ys)∧QD (.mk k A3 c3 ws n B4 d4 ys)∧Blk wr b1 29 #[.int .i64 k,.slice A3 ws.length c3,.int .i64 n,.slice B4 xs.length d4]∧Pure w wr:=by
 obtain ⟨ys,h1,h2,h3,h4,h5,h6,h7,h8,h9⟩:=h;rw [List.drop_length,List.append_nil] at h3;rw [List.take_length] at h2;refine ⟨ys,h1,by rw [QR.key_mk,h2],.mk h4 (by rw [h1]; exact h3) (fun a ha=>(h6 a ha).1),.mk ?_ (fun i hi a ha=>(h6 a ha).2.2.1 i hi) (fun i hi a ha=>(h6 a ha).2.2.2 i hi) h7 (fun a ha=>(h6 a ha).2.1),h5,h8⟩;intro i hi hi2;obtain ⟨_,_,cur,hc⟩:=own_aB h3 hi2;exact absurd (own_tyB h4 hi hc) (by decide)
theorem copyQ_calls:∀ (qr:QR) (w:World),QS w qr→QZ qr→QB 1000 qr.key→Calls Tryz.prog 103 #[qA qr] w (CpP w qr):=by
 refine QR.ind (fun k A c ws n B d xs ih => ?_);intro w hQ hZ hB;rw [QR.key_mk] at hB;have HIH:=hd_ ih;have HQ:=hd_ hQ;have HZ:=hd_ hZ;have HKB:=hd_ hB;have hwl:=hB.wsH.1;have hxl:xs.length≤1000:=(by simpa using hB.xsH);have hb1:=(Blk.new w 29 #[.int .i64 k,.slice A ws.length c,.int .i64 n,.slice B xs.length d]).alloc (.cells #[.int .i64 0,.slice none 0 0,.int .i64 0,.slice none 0 0] 29);have hb2:=Blk.snd w (.cells #[.int .i64 k,.slice A ws.length c,.int .i64 n,.slice B xs.length d] 29) 29 #[.int .i64 0,.slice none 0 0,.int .i64 0,.slice none 0 0];have HM:Hid (Pure w ((w.alloc (.cells #[.int .i64 k,.slice A ws.length c,.int .i64 n,.slice B xs.length d] 29)).alloc (.cells #[.int .i64 0,.slice none 0 0,.int .i64 0,.slice none 0 0] 29))):=hd_ (((Mod.refl _ _).alloc _).alloc _);have HB1:=hd_ hb1;have HB2:=hd_ hb2;have hbu:w.heap.size+1≤w.heap.size+1:=Nat.le_refl _;clear hb1 hb2 hQ hZ hB ih;rw [qA_mk]
 go_enter Tryz.func103,Tryz.ntmps103
 go_upto_region 1 with (fail);generalize ((w.alloc (.cells #[.int .i64 k,.slice A ws.length c,.int .i64 n,.slice B xs.length d] 29)).alloc (.cells #[.int .i64 0,.slice none 0 0,.int .i64 0,.slice none 0 0] 29))=w2 at *;obtain ⟨b1,hb1⟩:∃ b,w.heap.size=b:=⟨_,rfl⟩;rw [hb1] at HB1 HB2;simp only [hb1];have hbl1:w.heap.size≤b1:=(by omega);obtain ⟨b2,hb2⟩:∃ b,b1+1=b:=⟨_,rfl⟩;rw [hb2] at HB2;simp only [hb2];have hbl:w.heap.size≤b2:=(by omega);have hb12:b1<b2:=(by omega);clear hb1 hb2 hbu;have h1:=HB1.out;have hlt2:=HB2.out.lt;obtain ⟨u0,u1,u2,u3,uf0,uf1,uf2,uf3⟩:=h1.c4f;clear h1;have HCW:=hd_ (fun W (h:Pure w W)=>cloneC_calls W _ ws (HQ.out.wsH.pure h) (by omega));have HCQ:=hd_ (fun W (h:Pure w W)=>clnQ_calls W B d xs (HQ.out.xsH.pure h) HZ.out.hereH (by omega))
 go_region_with (first
  | (go_at_call 140; (refine (HCW.out _ (HM.out.trans (by (repeat' (first | with_reducible assumption | with_reducible exact Mod.refl _ _ | with_reducible refine Mod.alloc ?_ _ | with_reducible refine Mod.drew ?_ | with_reducible refine Mod.drewN ?_ _ | ((with_reducible apply Mod.q_set); (dsimp only); omega) | ((with_reducible apply Mod.q_trans); (with_reducible assumption)) | ((with_reducible apply Mod.q_transp); (with_reducible assumption))))))).mono ?_); rintro e w3 ⟨v3,rfl,hown3,hm3⟩; obtain ⟨A3,c3,rfl⟩:=own_formQ hown3; have hm3':Pure w2 w3:=Mod.trans (by (repeat' (first | with_reducible assumption | with_reducible exact Mod.refl _ _ | with_reducible refine Mod.alloc ?_ _ | with_reducible refine Mod.drew ?_ | with_reducible refine Mod.drewN ?_ _ | ((with_reducible apply Mod.q_set); (dsimp only); omega) | ((with_reducible apply Mod.q_trans); (with_reducible assumption)) | ((with_reducible apply Mod.q_transp); (with_reducible assumption))))) hm3; have hc3:=HB1.out.modp hm3'; obtain ⟨y0,y1,y2,y3,yf0,yf1,yf2,yf3⟩:=hc3.c4f)
  | (go_at_call 171; (refine (HCQ.out _ ((HM.out.trans hm3').trans (by (repeat' (first | with_reducible assumption | with_reducible exact Mod.refl _ _ | with_reducible refine Mod.alloc ?_ _ | with_reducible refine Mod.drew ?_ | with_reducible refine Mod.drewN ?_ _ | ((with_reducible apply Mod.q_set); (dsimp only); omega) | ((with_reducible apply Mod.q_trans); (with_reducible assumption)) | ((with_reducible apply Mod.q_transp); (with_reducible assumption))))))).mono ?_); rintro e w4 ⟨v4,rfl,hown4,hm4⟩; obtain ⟨B4,d4,rfl⟩:=own_formQ hown4; have hm34:Pure w3 w4:=Mod.trans (by (repeat' (first | with_reducible assumption | with_reducible exact Mod.refl _ _ | with_reducible refine Mod.alloc ?_ _ | with_reducible refine Mod.drew ?_ | with_reducible refine Mod.drewN ?_ _ | ((with_reducible apply Mod.q_set); (dsimp only); omega) | ((with_reducible apply Mod.q_trans); (with_reducible assumption)) | ((with_reducible apply Mod.q_transp); (with_reducible assumption))))) hm4; have hc4:=HB1.out.modp (hm3'.trans hm34); obtain ⟨z0,z1,z2,z3,zf0,zf1,zf2,zf3⟩:=hc4.c4f))
 all_goals
  have hm24:=hm3'.trans hm34;have hs23:=hm3'.size;have hs34:=hm34.size;have h9:=(hc4.set 1 (.slice A3 ws.length c3)).set 3 (.slice B4 xs.length d4);simp at h9;have hm9:=mod_set (mod_set (Mod.refl (· = b1) w4) 1 (.slice A3 ws.length c3)) 3 (.slice B4 xs.length d4);have hs9:=hm9.size;have hb13:=hc3.lt
  have hA9:=own_modB (own_pure hown3 hm34) hm9 (fun i hi e=>by
   subst e
   exact absurd (own_tyB hown3 hi hc3) (by decide))
  have hB9:=own_modB hown4 hm9 (fun i hi e=>by have:=(own_aB hown4 hi).1; omega);have HB9:=hd_ ((HB2.out.modp hm24).mod hm9 (by omega));have HCI:Hid (CpI w w2.heap.size b1 k n A3 c3 ws B4 d4 xs 0 ((w4.setCell ⟨b1,1,none⟩ (.slice A3 ws.length c3)).setCell ⟨b1,3,none⟩ (.slice B4 xs.length d4))):=hd_ ⟨[],rfl,rfl,own_up hB9 (by omega),own_up hA9 (Nat.le_refl _),h9,fun y hy=>(by cases hy),fun i j hi=>absurd hi (by simp),(HM.out.trans hm24).trans' hm9 (fun i hi hlt=>by omega),by omega⟩;have hxb:xs.length≤xs.length:=Nat.le_refl _;generalize ((w4.setCell ⟨b1,1,none⟩ (.slice A3 ws.length c3)).setCell ⟨b1,3,none⟩ (.slice B4 xs.length d4))=w9 at *;obtain ⟨base,hbase⟩:∃ base,w2.heap.size=base:=⟨_,rfl⟩;rw [hbase] at HCI hlt2;have hwb:w.heap.size≤base:=(by omega);clear hbase hA9 hB9 hm9 hs9 hc4 hc3 hown3 hown4 hm3 hm4 hm3' hm34 hm24 hs23 hs34 hb13 HCW HCQ HB1 HB2 HM u0 u1 u2 u3 uf0 uf1 uf2 uf3 y0 y1 y2 y3 yf0 yf1 yf2 yf3 z0 z1 z2 z3 zf0 zf1 zf2 zf3;obtain ⟨z0,z1,z2,z3⟩:=h9.c4;clear h9;go_wp2_with fail
  go_loopg [16] xs.length (fun gk i wr=>∃ j:Nat,xs.length - j=gk∧j≤xs.length∧i = .int .i64 (j:Int)∧CpI w base b1 k n A3 c3 ws B4 d4 xs j wr∧Blk wr b2 29 #[.int .i64 0,.slice none 0 0,.int .i64 0,.slice none 0 0])
  case atStart=>exact ⟨0,by omega,by omega,rfl,HCI.out,HB9.out⟩
  case round =>
   clear HCI HB9 z0 z1 z2 z3;obtain ⟨j,rfl,hj,rfl,hC,hB2⟩:=hrel;have HC:=hd_ hC;have HB2:=hd_ hB2;obtain ⟨ys,hy1,hy2,hy3,hy4,hy5,hy6,hy7,hy8,hy9⟩:=hC;have hb1r:=hy5.lt;have hb2r:=hB2.lt
   by_cases hlt:j<xs.length
   ·obtain ⟨k',A',c',ws',n',B',d',xs',hq⟩:=QR.ex xs[j]
    have hlj:j<(ys ++ xs.drop j).length:=by simp; omega
    have hqj:(ys ++ xs.drop j)[j] = .mk k' A' c' ws' n' B' d' xs':=by
     rw [List.getElem_append_right (by omega)];simp only [hy1,Nat.sub_self,List.getElem_drop,Nat.add_zero];exact hq
    obtain ⟨g,off,hA,q0,q1,q2,q3⟩:=qcells (Sl.of_own hy3) hlj hqj;subst hA
    obtain rfl:off=0:=by
     rcases hy3.2 with ⟨h1,_⟩ | ⟨g',cap,cur,h1,_⟩
     ·cases h1
     ·injection h1 with h1 _ _
      injection h1 with h1
      exact congrArg Addr.off h1
    simp only [Nat.zero_add] at q0 q1 q2 q3;have f0:=hy3.frozenAt (j*4);have f1:=hy3.frozenAt (j*4+1);have f2:=hy3.frozenAt (j*4+2);have f3:=hy3.frozenAt (j*4+3);have hgr:=(own_aB hy3 (i:=g) (by simp [aB])).2.1;have hgb:=(own_aB hy3 (i:=g) (by simp [aB])).1;have hji:((j:Nat):Int)<(xs.length:Int):=(by omega);have hQ4:Blk (wr.alloc (.cells #[.int .i64 k',.slice A' ws'.length c',.int .i64 n',.slice B' xs'.length d'] 29)) wr.heap.size 29 #[.int .i64 k',.slice A' ws'.length c',.int .i64 n',.slice B' xs'.length d']:=Blk.new _ _ _;have hpa:=pure_alloc wr (.cells #[.int .i64 k',.slice A' ws'.length c',.int .i64 n',.slice B' xs'.length d'] 29);have HPA:=hd_ hpa;have hX5:=hy5.modp hpa;have hm8:=hy8
    have HQJ:Hid (QS wr (.mk k' A' c' ws' n' B' d' xs')∧QZ (.mk k' A' c' ws' n' B' d' xs')∧QB 1000 (QR.mk k' A' c' ws' n' B' d' xs').key∧QR.mk k' A' c' ws' n' B' d' xs'∈xs):=hd_ (by
     rw [← hq]
     exact ⟨(HQ.out.allH _ (List.getElem_mem hlt)).pure hm8,HZ.out.allH _ (List.getElem_mem hlt),HKB.out.allH _ (List.mem_map.2 ⟨_,List.getElem_mem hlt,rfl⟩),List.getElem_mem hlt⟩)
    have HKJ:Hid ((QR.mk k' A' c' ws' n' B' d' xs').key=xs[j].key):=hd_ (by rw [hq]);have HCC:=hd_ (fun W (h:Pure wr W)=>HIH.out _ HQJ.out.2.2.2 W (HQJ.out.1.pure h) HQJ.out.2.1 HQJ.out.2.2.1);rw [qA_mk] at HCC;have r0:=keepp q0 hpa;have r1:=keepp q1 hpa;have r2:=keepp q2 hpa;have r3:=keepp q3 hpa;have e0:=hpa.keepf q0 f0 id;have e1:=hpa.keepf q1 f1 id;have e2:=hpa.keepf q2 f2 id;have e3:=hpa.keepf q3 f3 id;obtain ⟨x0,x1,x2,x3⟩:=hX5.c4;obtain ⟨y0,y1,y2,y3⟩:=hy5.c4;clear hy1 hy2 hy3 hy4 hy6 hy7 hy8 hqj hq hlj hX5 hy5 hm8;go_upto_region 5 with (fail)
    go_region_with (go_at_call 103; (refine (HCC.out _ (by (repeat' (first | with_reducible assumption | with_reducible exact Mod.refl _ _ | with_reducible refine Mod.alloc ?_ _ | with_reducible refine Mod.drew ?_ | with_reducible refine Mod.drewN ?_ _ | ((with_reducible apply Mod.q_set); (dsimp only); omega) | ((with_reducible apply Mod.q_trans); (with_reducible assumption)) | ((with_reducible apply Mod.q_transp); (with_reducible assumption)))))).mono ?_); rintro e w5 ⟨q5,rfl,hk5,hc5,hd5,hm5⟩; obtain ⟨k5,A5,c5,ws5,n5,B5,d5,xs5⟩:=q5; simp only [qA_mk]; have hm5':Pure wr w5:=Mod.trans (by (repeat' (first | with_reducible assumption | with_reducible exact Mod.refl _ _ | with_reducible refine Mod.alloc ?_ _ | with_reducible refine Mod.drew ?_ | with_reducible refine Mod.drewN ?_ _ | ((with_reducible apply Mod.q_set); (dsimp only); omega) | ((with_reducible apply Mod.q_trans); (with_reducible assumption)) | ((with_reducible apply Mod.q_transp); (with_reducible assumption))))) hm5; have v0:=keepp q0 hm5'; have v1:=keepp q1 hm5'; have v2:=keepp q2 hm5'; have v3:=keepp q3 hm5'; have g0:=hm5'.keepf q0 f0 id; have g1:=hm5'.keepf q1 f1 id; have g2:=hm5'.keepf q2 f2 id; have g3:=hm5'.keepf q3 f3 id; have t3:=keepp y3 hm5')
    all_goals
     have HCS:=hd_ (HC.out.step hlt hm5' (by simp) hc5 hd5 (hk5.trans HKJ.out) (by omega) hwb);have HBS:=hd_ ((HB2.out.modp hm5').mod (st4_modo (g:=g) (o:=j*4) (a:=.int .i64 k5) (b:=.slice A5 ws5.length c5) (c:=.int .i64 n5) (d:=.slice B5 xs5.length d5)) (by omega));generalize ((((w5.setCell ⟨g,j*4,none⟩ (.int .i64 k5)).setCell ⟨g,j*4+1,none⟩ (.slice A5 ws5.length c5)).setCell ⟨g,j*4+2,none⟩ (.int .i64 n5)).setCell ⟨g,j*4+3,none⟩ (.slice B5 xs5.length d5))=w6 at *;clear v0 v1 v2 v3 g0 g1 g2 g3 t3 hm5 hm5' hc5 hd5 hk5;go_wp2_with fail
     go_roundg (xs.length - (j+1))
     case measure=>omega
     case rel=>exact ⟨j+1,rfl,by omega,by simp,HCS.out,HBS.out⟩
   ·obtain rfl:j=xs.length:=by omega
    have hjj:¬ ((xs.length:Nat):Int)<(xs.length:Int):=(by omega);obtain ⟨ys',e1,e2,hQC,hQD,hblk,hpure⟩:=HC.out.fin;have hb2b:=HB2.out;obtain ⟨x0,x1,x2,x3⟩:=hblk.c4;obtain ⟨v0,v1,v2,v3,vf0,vf1,vf2,vf3⟩:=hb2b.c4f;have h4F:=st4_blk (a:=.int .i64 k) (b:=.slice A3 ws.length c3) (c:=.int .i64 n) (d:=.slice B4 xs.length d4) hb2b;have hMF:Mod (· = b2) wr ((((wr.setCell ⟨b2,0,none⟩ (.int .i64 k)).setCell ⟨b2,1,none⟩ (.slice A3 ws.length c3)).setCell ⟨b2,2,none⟩ (.int .i64 n)).setCell ⟨b2,3,none⟩ (.slice B4 xs.length d4)):=st4_mod;have HF:Hid (CpP w (.mk k A c ws n B d xs) (.returned (.agg #[.int .i64 k,.slice A3 ws.length c3,.int .i64 n,.slice B4 xs.length d4])) ((((wr.setCell ⟨b2,0,none⟩ (.int .i64 k)).setCell ⟨b2,1,none⟩ (.slice A3 ws.length c3)).setCell ⟨b2,2,none⟩ (.int .i64 n)).setCell ⟨b2,3,none⟩ (.slice B4 xs.length d4))):=hd_ ⟨.mk k A3 c3 ws n B4 d4 ys',by rw [qA_mk,e1],by rw [e2,QR.key_mk],(hQC.up hwb).mod hMF (fun i hi e=>by have:=(hQC.ge i hi).1; omega),hQD,hpure.trans' hMF (fun i hi hlt=>by omega)⟩;clear hy1 hy2 hy3 hy4 hy5 hy6 hy7 hy8 hQC hQD hblk hpure hb2b hMF e1 e2 HC HB2 HKB HIH HQ HZ;go_wp2_with fail;obtain ⟨z0,z1,z2,z3⟩:=h4F.c4
    try simp only [Exit.inBlock,Exit.then]
    refine bodyPost_ret (v:=.agg #[.int .i64 k,.slice A3 ws.length c3,.int .i64 n,.slice B4 xs.length d4]) (by simp [results,Tryz.results103,go_sem,z0,z1,z2,z3]) rfl ?_;exact HF.out
theorem QN.or {S:Nat→Prop} {q:QR} {g g':Nat} (h:QN S q) (hg:QN (· = g) q) (hS:S g'):QN (fun i=>i=g'∨i=g) q:=by
 induction h with
 | mk h hs ih =>
  cases hg with
  | mk h2 hs2=>exact .mk (fun hx gg off e hh=>hh.elim (fun e1=>h hx gg off e (e1 ▸ hS)) (fun e1=>h2 hx gg off e e1)) (fun a ha=>ih a ha (hs2 a ha))
theorem QN.or2 {q:QR} {g g':Nat} (h:QN (· = g') q) (hg:QN (· = g) q):QN (fun i=>i=g'∨i=g) q:=h.or hg rfl
section
variable {r lo base M Z e:Nat} {w w1 w2:World} {g o:Nat} {q q':QR} {S:Nat→Prop}
theorem SpI.at (h:SpI r lo base M Z w g o q) (hm:Mod S w w1) (hS:∀ k,S k→k∈qBl q∨k<lo):∃ arr,Blk w g 29 arr∧Blk w1 g 29 arr∧o+4≤arr.size∧CellsAt arr o q:=by
 obtain ⟨arr,h1,h2,h3,h4,h5,_⟩:=h.blk;exact ⟨arr,h1,h1.mod hm (fun hg=>by rcases hS g hg with h | h; exact h5 h; omega),h2,h3⟩
theorem SpI.cells1 (h:SpI r lo base M Z w g o q) (hm:Mod S w w1) (hS:∀ k,S k→k∈qBl q∨k<lo) {j:Nat} {u:Value} (hj:(qC q)[j]? = some u):w1.cell? ⟨g,o+j,none⟩=some u∧w1.frozen? ⟨g,o+j,none⟩=false:=by
 obtain ⟨arr,_,hB,ho,hc⟩:=h.at hm hS;exact ⟨by rw [hB.cell]; exact hc j u hj,hB.frozen _⟩
theorem SpI.put1 (h:SpI r lo base M Z w g o q) (hm:Mod S w w1) (hS:∀ k,S k→k∈qBl q∨k<lo) (j:Nat) (hj:j<4) (u:Value) (hq':qC q'=(qC q).set j u) (hok:QOk (w1.setCell ⟨g,o+j,none⟩ u) base (M+1) q') (hz:qSize q'.key≤qSize q.key+e):∃ q2,QOk (w1.setCell ⟨g,o+j,none⟩ u) base (M+1) q2∧qSize q2.key≤Z+e∧Blk (w1.setCell ⟨g,o+j,none⟩ u) r 29 (qC q2).toArray:=by
 obtain ⟨arr,hB0,hB,ho,hc⟩:=h.at hm hS;have hB2:=hB.set (o+j) u;refine h.fin (S:=fun k=>k=g∨S k) ((hm.mono (fun k hk => .inr hk)).trans ((Mod.refl (fun k=>k=g∨S k) w1).setCell (p:=⟨g,o+j,none⟩) (.inl (.inl rfl)) u)) (fun k hk=>hk.elim .inl (fun h => .inr (hS k h))) (fun arr2 hA2 => ?_) hB2 (fun i v hv => ?_) hok hz
 ·have e2:arr2=arr:=by
   unfold Blk at hA2 hB0;rw [hA2] at hB0
   injection hB0 with hB0
   injection hB0
  subst e2;refine ⟨by simp,fun i v hi hv => ?_⟩;rw [Array.getElem?_setIfInBounds_ne (by omega)];exact hv
 ·have hi:i<4:=by
   have:=(List.getElem?_eq_some_iff.1 hv).1
   rwa [qC_len] at this
  rw [hq',List.getElem?_set] at hv
  by_cases hij:j=i
  ·subst hij;rw [if_pos rfl,if_pos (by rw [qC_len]; exact hj)] at hv;rw [Array.getElem?_setIfInBounds_self_of_lt (by omega)];exact hv
  ·rw [if_neg hij] at hv;rw [Array.getElem?_setIfInBounds_ne (by omega)];exact hc i v hv
theorem SpI.put4 (h:SpI r lo base M Z w g o q) (hm:Mod S w w1) (hS:∀ k,S k→k∈qBl q∨k<lo) {a b c d:Value} (hq':qC q'=[a,b,c,d]) (hok:QOk ((((w1.setCell ⟨g,o,none⟩ a).setCell ⟨g,o+1,none⟩ b).setCell ⟨g,o+2,none⟩ c).setCell ⟨g,o+3,none⟩ d) base (M+1) q') (hz:qSize q'.key≤qSize q.key+e):∃ q2,QOk ((((w1.setCell ⟨g,o,none⟩ a).setCell ⟨g,o+1,none⟩ b).setCell ⟨g,o+2,none⟩ c).setCell ⟨g,o+3,none⟩ d) base (M+1) q2∧qSize q2.key≤Z+e∧Blk ((((w1.setCell ⟨g,o,none⟩ a).setCell ⟨g,o+1,none⟩ b).setCell ⟨g,o+2,none⟩ c).setCell ⟨g,o+3,none⟩ d) r 29 (qC q2).toArray:=by
 obtain ⟨arr,hB0,hB,ho,hc⟩:=h.at hm hS;have hB2:=(((hB.set o a).set (o+1) b).set (o+2) c).set (o+3) d;have hm4:Mod (fun k=>k=g∨S k) w1 _:=(st4_modo (w:=w1) (g:=g) (o:=o) (a:=a) (b:=b) (c:=c) (d:=d)).mono (fun k hk => .inl hk);refine h.fin (S:=fun k=>k=g∨S k) ((hm.mono (fun k hk => .inr hk)).trans hm4) (fun k hk=>hk.elim .inl (fun h => .inr (hS k h))) (fun arr2 hA2 => ?_) hB2 (fun i v hv => ?_) hok hz
 ·have e2:arr2=arr:=by
   unfold Blk at hA2 hB0;rw [hA2] at hB0
   injection hB0 with hB0
   injection hB0
  subst e2;refine ⟨by simp,fun i v hi hv => ?_⟩;rw [Array.getElem?_setIfInBounds_ne (by omega),Array.getElem?_setIfInBounds_ne (by omega),Array.getElem?_setIfInBounds_ne (by omega),Array.getElem?_setIfInBounds_ne (by omega)];exact hv
 ·have hi:i<4:=by
   have:=(List.getElem?_eq_some_iff.1 hv).1
   rwa [qC_len] at this
  rw [hq'] at hv
  match i,hi with
  | 0,_ =>
   rw [Array.getElem?_setIfInBounds_ne (by omega),Array.getElem?_setIfInBounds_ne (by omega),Array.getElem?_setIfInBounds_ne (by omega)];have h0:(arr.setIfInBounds o a)[o]? = some a:=Array.getElem?_setIfInBounds_self_of_lt (by omega);have hv2:a=v:=(by simpa using hv);subst hv2;exact h0
  | 1,_ =>
   rw [Array.getElem?_setIfInBounds_ne (by omega),Array.getElem?_setIfInBounds_ne (by omega),Array.getElem?_setIfInBounds_self_of_lt (by simp; omega)]
   simpa using hv
  | 2,_ =>
   rw [Array.getElem?_setIfInBounds_ne (by omega),Array.getElem?_setIfInBounds_self_of_lt (by simp; omega)]
   simpa using hv
  | 3,_ =>
   rw [Array.getElem?_setIfInBounds_self_of_lt (by simp; omega)]
   simpa using hv
end
section
variable {base M:Nat} {w w1 w2:World} {g:Nat} {k n:Int} {A B:Option Addr} {c d:Nat} {ws:List Str} {xs:List QR} {S:Nat→Prop}
theorem qB_up (hM:QB M (QR.mk k A c ws n B d xs).key) {k' n':Int} (hk : -4000000000000≤k'∧k'≤4000000000000) (hn : -4000000000000≤n'∧n'≤4000000000000) {ws':List Str} {ks:List Qry} (hw:ws'.length≤M+1) (hw2:∀ x∈ws',x∈ws∨x.length≤100) (h100:100≤M) (hl:ks.length≤M+1) (hks:∀ x∈ks,x∈xs.map QR.key∨QB 100 x):QB (M+1) (.mk k' ws' n' ks):=by
 rw [QR.key_mk] at hM
 exact .mk hk.1 hk.2 hn.1 hn.2 hw (fun x hx=>by
  rcases hw2 x hx with h | h
  ·have:=hM.wsH.2 x h; omega
  ·omega) hl (fun a ha=>by
  rcases hks a ha with h | h
  ·exact (hM.allH a h).mono (by omega)
  ·exact h.mono (by omega))
theorem QC.num (h:QC base w (.mk k A c ws n B d xs)) (hM:QB M (QR.mk k A c ws n B d xs).key) (h100:100≤M) (hm:Mod S w w1) (hS:∀ i∈qBl (.mk k A c ws n B d xs),¬ S i) {k' n':Int} (hk : -4000000000000≤k'∧k'≤4000000000000) (hn : -4000000000000≤n'∧n'≤4000000000000):QOk w1 base (M+1) (.mk k' A c ws n' B d xs):=by
 have h1:=h.mod hm hS
 have h2:QC base w1 (.mk k' A c ws n' B d xs):=by
  cases h1 with
  | mk hA hB hs=>exact .mk hA hB hs
 have hl:=hM;rw [QR.key_mk] at hl;refine ⟨h2.qs,h2.fr,h2.z,?_⟩;rw [QR.key_mk];exact qB_up hM hk hn (by have:=hl.wsH.1; omega) (fun x hx => .inl hx) h100 (by have:=hl.xsH; omega) (fun x hx => .inl hx)
theorem QC.word (h:QC base w (.mk k A c ws n B d xs)) (hd:QD (.mk k A c ws n B d xs)) (hM:QB M (QR.mk k A c ws n B d xs).key) (h100:100≤M) {A':Option Addr} {c':Nat} {s:Str} (hs:s.length≤100) (hm1:Mod (fun i=>(Value.slice A ws.length c).ownBlock=some i) w w1) (ho:w1.ownsRow base 9 1 (.slice A' (ws.length+1) c') (ws.length+1) (strsV (ws ++ [s]))) (hm2:Mod (· = g) w1 w2) (hg:g ∉ qBl (.mk k A c ws n B d xs)) (hgA:g ∉ aB A'):QOk w2 base (M+1) (.mk k A' c' (ws ++ [s]) n B d xs):=by
 have hob:∀ i,(Value.slice A ws.length c).ownBlock=some i→i∈aB A:=fun i hi=>by
  cases A with
  | none=>cases hi
  | some a =>
   have:some a.block=some i:=hi
   injection this with this
   simp [aB,this]
 have hl:=hM;rw [QR.key_mk] at hl
 cases h with
 | mk hA hB hsx =>
 cases hd with
 | mk hAB hAx hBx hxx hds =>
  have h2:QC base w2 (.mk k A' c' (ws ++ [s]) n B d xs):=by
   refine .mk ?_ (own_modB (own_modB hB hm1 (fun i hi hv=>hAB i (hob i hv) hi)) hm2 (fun i hi e=>hg (qBl_mk.2 (.inr (.inl (e ▸ hi)))))) (fun a ha=>((hsx a ha).mod hm1 (fun i hi hv=>hAx i (hob i hv) a ha hi)).mod hm2 (fun i hi e=>hg (qBl_mk.2 (.inr (.inr ⟨a,ha,e ▸ hi⟩)))));rw [List.length_append,List.length_singleton];exact own_modB ho hm2 (fun i hi e=>hgA (e ▸ hi))
  refine ⟨h2.qs,h2.fr,h2.z,?_⟩;rw [QR.key_mk]
  exact qB_up hM ⟨hl.knH.1,hl.knH.2.1⟩ ⟨hl.knH.2.2.1,hl.knH.2.2.2⟩ (by have:=hl.wsH.1; simp; omega) (fun x hx=>by
   rcases List.mem_append.1 hx with h | h
   ·exact .inl h
   ·rw [List.mem_singleton.1 h]; exact .inr hs) h100 (by have:=hl.xsH; omega) (fun x hx => .inl hx)
theorem QC.arg (h:QC base w (.mk k A c ws n B d xs)) (hd:QD (.mk k A c ws n B d xs)) (hM:QB M (QR.mk k A c ws n B d xs).key) (h100:100≤M) {g' c':Nat} {x:QR} (hx:QS w x) (hxf:QFr base x) (hxz:QZ x) (hxb:QB 100 x.key) (hxB:QN (fun i=>(Value.slice B xs.length d).ownBlock=some i) x) (hxg:QN (· = g) x) (hm1:Mod (fun i=>(Value.slice B xs.length d).ownBlock=some i) w w1) (hat:(Value.slice B xs.length d).ownBlock=some g'∨w.heap.size≤g') (hm2:Mod (fun i=>i=g'∨i=g) w1 w2) (ho:w2.ownsRow base 29 4 (.slice (some ⟨g',0,none⟩) (xs.length+1) c') (xs.length+1) (qV (xs ++ [x]))) (hg:g ∉ qBl (.mk k A c ws n B d xs))
  (hgs:∀ arr fr,w1.heap[g]? ≠ some (.cells arr 9 fr)) (hgs':∀ arr fr,w1.heap[g']? ≠ some (.cells arr 9 fr)):QOk w2 base (M+1) (.mk k A c ws n (some ⟨g',0,none⟩) c' (xs ++ [x])):=by
 have hob:∀ i,(Value.slice B xs.length d).ownBlock=some i→i∈aB B:=fun i hi=>by
  cases B with
  | none=>cases hi
  | some a =>
   have:some a.block=some i:=hi
   injection this with this
   simp [aB,this]
 have hl:=hM;rw [QR.key_mk] at hl;have hge:=h.ge
 cases h with
 | mk hA hB hsx =>
 cases hd with
 | mk hAB hAx hBx hxx hds =>
  have hne:∀ i,(i∈aB A∨∃ a∈xs,i∈qBl a)→¬ (i=g'∨i=g):=fun i hi e=>by
   have hiq:i∈qBl (.mk k A c ws n B d xs):=qBl_mk.2 (hi.elim .inl (fun h => .inr (.inr h)))
   rcases e with rfl | rfl
   ·rcases hat with h | h
    ·rcases hi with hi | ⟨a,ha,hi⟩
     ·exact hAB _ hi (hob _ h)
     ·exact hBx _ (hob _ h) a ha hi
    ·have:=(hge _ hiq).2; omega
   ·exact hg hiq
  have hx1:QS w1 x:=hx.modN hxB hm1 (fun i arr fr hi hv=>by
   have:=own_ty hB hv hi
   exact absurd this (by decide))
  have hxN:QN (fun i=>i=g'∨i=g) x:=by
   rcases hat with h | h
   ·exact hxB.or hxg h
   ·exact (QN.new hx (S:=fun i=>i=g') (fun i hi=>by omega)).or2 hxg
  have hx2:QS w2 x:=hx1.modN hxN hm2 (fun i arr fr hi e=>by
   rcases e with rfl | rfl
   ·exact hgs' arr fr hi
   ·exact hgs arr fr hi)
  refine ⟨.mk (Sl.of_own (own_modB (own_modB hA hm1 (fun i hi hv=>hAB i hi (hob i hv))) hm2 (fun i hi=>hne i (.inl hi)))) ?_ (fun a ha => ?_),.mk (fun _=>⟨g',0,rfl,(own_aB ho (i:=g') (by simp [aB])).1⟩) (fun a ha => ?_),.mk (fun _ _ _ e => ?_) (fun a ha => ?_),?_⟩
  ·rw [List.length_append,List.length_singleton];exact Sl.of_own ho
  ·rcases List.mem_append.1 ha with h | h
   ·exact (((hsx a h).mod hm1 (fun i hi hv=>hBx i (hob i hv) a h hi)).mod hm2 (fun i hi=>hne i (.inr ⟨a,h,hi⟩))).qs
   ·rw [List.mem_singleton.1 h]; exact hx2
  ·rcases List.mem_append.1 ha with h | h
   ·exact (hsx a h).fr
   ·rw [List.mem_singleton.1 h]; exact hxf
  ·injection e with e
   injection e with _ _ e
   exact e.symm
  ·rcases List.mem_append.1 ha with h | h
   ·exact (hsx a h).z
   ·rw [List.mem_singleton.1 h]; exact hxz
  ·rw [QR.key_mk]
   exact qB_up hM ⟨hl.knH.1,hl.knH.2.1⟩ ⟨hl.knH.2.2.1,hl.knH.2.2.2⟩ (by have:=hl.wsH.1; omega) (fun x hx => .inl hx) h100 (by have:=hl.xsH; simp at this ⊢; omega) (fun y hy=>by
    rw [List.map_append] at hy
    rcases List.mem_append.1 hy with h | h
    ·exact .inl h
    ·rw [List.map_singleton,List.mem_singleton] at h
     rw [h]; exact .inr hxb)
end
def SpP (w:World) (b N M Z:Nat) (e:Ending) (w':World):Prop:=∃ qr:QR,e = .returned (qA qr)∧QS w' qr∧QFr w.heap.size qr∧QZ qr∧QB M qr.key∧qSize qr.key≤Z∧Strm w' b N∧Mod (· = b) w w'
theorem SpP.fin {w wz:World} {b N N' M Z b4 base:Nat} {k n:Int} {A B:Option Addr} {c d:Nat} {ws:List Str} {xs:List QR} (hok:QOk wz base M (.mk k A c ws n B d xs)) {x0 x1 x2 x3:Value} (hb4:Blk wz b4 29 #[x0,x1,x2,x3]) (hlt:b4<base) (hwb:w.heap.size≤b4) (hbb:b<b4) (hS:Strm wz b N') (hN:N'≤N) (hM:Mod (· = b) w wz) (hz:qSize (QR.mk k A c ws n B d xs).key≤Z) :
  SpP w b N M Z (.returned (.agg #[.int .i64 k,.slice A ws.length c,.int .i64 n,.slice B xs.length d])) ((((wz.setCell ⟨b4,0,none⟩ (.int .i64 k)).setCell ⟨b4,1,none⟩ (.slice A ws.length c)).setCell ⟨b4,2,none⟩ (.int .i64 n)).setCell ⟨b4,3,none⟩ (.slice B xs.length d)):=by
 have hst:∀ g arr fr,wz.heap[g]? = some (.cells arr 9 fr)→¬ g=b4:=fun g arr fr hg he=>by
  subst he;unfold Blk at hb4;rw [hg] at hb4
  injection hb4 with h
  injection h with _ h
  exact absurd h (by decide)
 exact ⟨_,rfl,hok.qs.modF hok.fr st4_mod hst (fun g hg=>by show ¬ g=b4; omega),hok.fr.up (by omega),hok.z,hok.b,hz,((((hS.setCell (p:=⟨b4,0,none⟩) (by show b<b4; omega) _).setCell (p:=⟨b4,1,none⟩) (by show b<b4; omega) _).setCell (p:=⟨b4,2,none⟩) (by show b<b4; omega) _).setCell (p:=⟨b4,3,none⟩) (by show b<b4; omega) _).more hN,mod_up hM st4_mod hwb⟩
theorem qsize_child {k n:Int} {A B:Option Addr} {c d:Nat} {ws:List Str} {xs:List QR} {i:Nat} (hi:i<xs.length):qSize xs[i].key<qSize (QR.mk k A c ws n B d xs).key:=by
 rw [QR.key_mk,qSize];have:=mem_sum (l:=xs.map QR.key) (a:=xs[i].key) (List.mem_map.2 ⟨_,List.getElem_mem hi,rfl⟩)
 omega
def SpC (r base M Z:Nat) (w:World) (b b4 N:Nat) (g o:Nat) (q:QR) (xs:List QR) (p:Value) (wx:World):Prop :=
 ∃ f:Bool,p = .bool f∧(f=true→xs≠[])∧SpI r r base M Z wx g o q∧Blk wx b4 29 #[.int .i64 0,.slice none 0 0,.int .i64 0,.slice none 0 0]∧Strm wx b N∧Mod (· = b) w wx∧base≤wx.heap.size
theorem step_callQ {P:Program} {ops:Array Oper} {o:Oper} {a:Act} {w:World} {K:Act→World→Prop} {Q:Exit→Act→World→Prop} {E:Prop} (hg:o.guard=none) (f:FuncId) (args:Array Operand) (tys:Array TypeId)
  (hop:o.op=Op.call { callee:=Callee.value (Operand.func f),args:=args,argTypes:=tys }) (hf:(P.funcs[f]?).map (fun fn=>(fn.name == "runtime.NumGoroutine", fn.body.isNone))=some (false,false)) (vs:Array Value) (hvs:args.map a.eval=vs) {R:Ending→World→Prop} (hC:Calls P f vs w R) (hR:∀ e w',R e w'→∃ v,e = .returned v∧K (a.put o.dst v) w'):if Region.wanted o (yielded ops a.tmps)=true then Oper.wp P o a w K Q else E:=by
 rw [if_pos (by simp [Region.wanted,hg])];unfold Oper.wp
 have h:(execOp a.eval o).run P w = .ok (.enter f vs) w:=by
  unfold execOp
  cases hfn:P.funcs[f]? with
  | none=>rw [hfn] at hf; cases hf
  | some fn =>
   rw [hfn] at hf;have h2:(fn.name == "runtime.NumGoroutine", fn.body.isNone)=(false,false):=Option.some.inj hf
   injection h2 with h3 h4
   simp only [hop,resolve,invoke,Sem.run_bind,Sem.run_pure,Result.andThen_ok,hvs,Act.eval,Deferred.ofValue,callFunc];have h5:¬ fn.name = "runtime.NumGoroutine" := (by simpa using h3)
   have h6:¬ fn.body=none:=fun e=>by rw [e] at h4; cases h4
   simp [hfn,h5,h6]
 rw [h]
 show Calls P f vs w _
 refine hC.mono (fun e w' h => ?_);obtain ⟨v,rfl,hk⟩:=hR e w' h;exact hk
theorem qV_oneS (l:List QR):∀ u∈qV l,u.oneCell'=true:=by
 intro u hu;obtain ⟨x,_,hx⟩:=List.mem_flatMap.1 hu;obtain ⟨k,A,c,ws,n,B,d,xs⟩:=x;simp only [qC,List.mem_cons,List.not_mem_nil,or_false] at hx
 rcases hx with rfl | rfl | rfl | rfl <;> rfl
theorem own_formS {w:World} {base size n:Nat} {e:TypeId} {v:Value} {xs:List Value} (h:w.ownsRow base e size v n xs):∃ A c,v = .slice A n c:=by
 rcases h.2 with ⟨h1,h2⟩ | ⟨g,cap,cur,h1,_⟩
 ·exact ⟨none,0,by rw [h1,h2]⟩
 ·exact ⟨_,_,h1⟩
theorem add_cell {w:World} {g:Nat} {t:TypeId} {cs:List Value} (hB:Blk w g t cs.toArray):∀ j u,cs[j]? = some u→w.cell? ((⟨g,0,none⟩:Addr).add j)=some u:=by
 intro j u hj
 have h:w.cell? ⟨g,j,none⟩=some u:=by rw [hB.cell]; simpa using hj
 unfold Addr.add
 split
 ·rename_i h0; subst h0; exact h
 ·simpa using h
theorem run_app4 (w:World) (ty:TypeId) (base n g:Nat) (v:Value) (l:List QR) (q:QR) (hown:w.ownsRow base 29 4 v n (qV l)) (hB:Blk w g 29 (qC q).toArray) (hb:base≤w.heap.size) (hn:n≤1000000) :
  ∃ A c w',(Builtin.append_ #[27,27] ty #[v,.slice (some ⟨g,0,none⟩) 1 1]).run Tryz.prog w = .ok (.slice A (n+1) c) w'∧w'.ownsRow base 29 4 (.slice A (n+1) c) (n+1) (qV (l ++ [q]))∧w.grownBy w' v.ownBlock∧((Value.slice A (n+1) c).ownBlock=v.ownBlock∨(Value.slice A (n+1) c).ownBlock=some w.heap.size):=by
 obtain ⟨i0,hi0,hz0,hz1,hz2⟩:=info_parts info_qry;obtain ⟨v',w',hr,h2,h3,h4,h5⟩:=run_append_own_at (P:=Tryz.prog) w base 27 ty 29 i0 _ 4 64 Tryz.underlying27 hi0 hz0 hz1 hz2 rfl (by omega) v n (qV l) hown ⟨g,0,none⟩ 1 1 (qC q) (by rw [qC_len]) (add_cell hB) (fun u hu=>qV_oneS [q] u (by simpa [qV] using hu)) (by simp [maxLen]; omega) (by omega) hb;obtain ⟨A,c,rfl⟩:=own_formS h2;rw [← qV_snoc] at h2;exact ⟨A,c,w',hr,h2,h3,h5⟩
theorem run_appS (w:World) (ty:TypeId) (base n g:Nat) (v:Value) (l:List Str) (s:Str) (hown:w.ownsRow base 9 1 v n (strsV l)) (hB:Blk w g 9 #[.string ⟨s.toArray⟩]) (hb:base≤w.heap.size) (hn:n≤1000000) :
  ∃ A c w',(Builtin.append_ #[26,26] ty #[v,.slice (some ⟨g,0,none⟩) 1 1]).run Tryz.prog w = .ok (.slice A (n+1) c) w'∧w'.ownsRow base 9 1 (.slice A (n+1) c) (n+1) (strsV (l ++ [s]))∧w.grownBy w' v.ownBlock∧((Value.slice A (n+1) c).ownBlock=v.ownBlock∨(Value.slice A (n+1) c).ownBlock=some w.heap.size):=by
 obtain ⟨i0,hi0,hz0,hz1,hz2⟩:=info_parts info_strS;obtain ⟨v',w',hr,h2,h3,h4,h5⟩:=run_append_own_at (P:=Tryz.prog) w base 26 ty 9 i0 _ 1 16 Tryz.underlying26 hi0 hz0 hz1 hz2 rfl (by omega) v n (strsV l) hown ⟨g,0,none⟩ 1 1 [.string ⟨s.toArray⟩] rfl (add_cell (cs:=[.string ⟨s.toArray⟩]) hB) (by simp [Value.oneCell']) (by simp [maxLen]; omega) (by omega) hb;obtain ⟨A,c,rfl⟩:=own_formS h2;exact ⟨A,c,w',hr,by simpa [strsV] using h2,h3,h5⟩
def cQ:Nat→Nat
 | 0=>6
 | d+1=>45+3*cQ d
def sQ:Nat→Nat
 | 0=>1
 | d+1=>7+3*sQ d
theorem cQ_le {d:Nat} (h:d≤3):6≤cQ d∧cQ d≤747:=by
 match d,h with
 | 0,_=>decide
 | 1,_=>decide
 | 2,_=>decide
 | 3,_=>decide
theorem cQ_le2 {d:Nat} (h:d≤2):cQ d≤234:=by
 match d,h with
 | 0,_=>decide
 | 1,_=>decide
 | 2,_=>decide
theorem GatQ.strm {w w':World} {base b8 b12 sz c b N:Nat} {A:Option Addr} {qs:List QR} (h:GatQ w base b8 b12 sz A c qs) (hS:Strm w b N) (hm:Mod (· = b) w w'):GatQ w' base b8 b12 sz A c qs:=by
 obtain ⟨h1,h2,h3⟩:=h;refine ⟨own_mod h1 hm (fun k hk e => ?_),h2,fun q hq => ?_⟩
 ·subst e;obtain ⟨_,_,_,_,hB,_⟩:=hS;exact absurd (own_ty h1 hk hB) (by decide)
 ·obtain ⟨a,b,c,d,e⟩:=h3 q hq;exact ⟨a.strm hS hm,b,c,d,e⟩
theorem byw_min {d:Nat} {dI:Int} (h0:(d:Int)≤dI) (h1:dI≤(d:Int)):∃ dm:Nat,min dI 2=(dm:Int)∧dm≤2∧cB dm+1≤cQ d∧sB dm≤sQ d:=by
 match d with
 | 0=>exact ⟨0,by omega,by omega,by decide,by decide⟩
 | 1=>exact ⟨1,by omega,by omega,by decide,by decide⟩
 | d+2 =>
  refine ⟨2,by omega,by omega,?_,?_⟩
  ·have:cB 2=41:=(by decide);rw [this,cQ]
   omega
  ·have:sB 2=7:=(by decide);rw [this,sQ]
   omega
theorem qb_one {k n:Int} {q1:Qry} (hk : -1000000≤k∧k≤1000000) (hn : -1000000≤n∧n≤1000000) (h1:QB 100 q1):QB 100 (.mk k [] n [q1]):=.mk (by omega) (by omega) (by omega) (by omega) (by simp) (fun x hx=>by cases hx) (by simp) (fun a ha=>by rw [List.mem_singleton.1 ha]; exact h1)
def Pk2P (w:World) (b N:Nat) (l:List QR) (e:Ending) (w':World):Prop:=∃ q∈l,e = .returned (qA q)∧Strm w' b (N+1)∧Mod (· = b) w w'
theorem pick2_calls (w:World) (b N g:Nat) (l:List QR) (hS:Strm w b N) (hB:Blk w g 29 (qV l).toArray) (hN:N≤900000000) (h0:0<l.length) (hl:l.length≤1000):Calls Tryz.prog 101 #[.pointer (some ⟨b,0,none⟩),.slice (some ⟨g,0,none⟩) l.length l.length] w (Pk2P w b N l):=by
 have h40:=Blk.new w 29 #[.int .i64 0,.slice none 0 0,.int .i64 0,.slice none 0 0];have hP0:=pure_alloc w (.cells #[.int .i64 0,.slice none 0 0,.int .i64 0,.slice none 0 0] 29);have hS0:=hS.alloc (.cells #[.int .i64 0,.slice none 0 0,.int .i64 0,.slice none 0 0] 29);have hb4:=hS.lt;have hg0:=hB.lt
 have hgb:g≠b:=fun e=>by
  subst e;obtain ⟨_,_,_,_,h,_⟩:=hS;unfold Blk at h hB;rw [h] at hB
  injection hB with hB
  injection hB with _ hB
  exact absurd hB (by decide)
 have hB0:=hB.alloc (.cells #[.int .i64 0,.slice none 0 0,.int .i64 0,.slice none 0 0] 29);clear hS hB
 go_enter Tryz.func101,Tryz.ntmps101
 go_upto_region 1 with (fail);generalize (w.alloc (.cells #[.int .i64 0,.slice none 0 0,.int .i64 0,.slice none 0 0] 29))=w0 at *;generalize hg4:w.heap.size=g4 at *;have hg4w:w.heap.size≤g4:=Nat.le_of_eq hg4;have hg4v:g4≤w.heap.size:=Nat.le_of_eq hg4.symm;clear hg4;go_wp2_with fail;refine (next_calls w0 b N (l.length:Int) hS0 (by omega) (by omega) (by omega)).mono ?_;rintro e w1 ⟨k,hk0,hk1,rfl,hS1,hM1⟩;obtain ⟨i,rfl⟩:∃ i:Nat,k=(i:Int):=⟨k.toNat,by omega⟩;have hi:i<l.length:=(by omega);have K1:=hd_ (h40.mod hM1 (by omega));have HM1:Hid (Mod (· = b) w w1):=hd_ ((Mod.of_pure hP0:Mod (· = b) w w0).trans hM1);have hBr:=(hB0.modb hM1 hgb).row0;obtain ⟨k1,A1,c1,ws1,n1,B1,d1,xs1,hq⟩:=QR.ex l[i];have HMEM:Hid (QR.mk k1 A1 c1 ws1 n1 B1 d1 xs1∈l):=hd_ (by rw [← hq]; exact List.getElem_mem hi);have hg:∀ j,j<4→(qV l)[i*4+j]? = (qC l[i])[j]?:=fun j hj=>qV_get l i hi j hj;rw [hq] at hg;have q0:=hBr.cell (hg 0 (by omega));have q1:=hBr.cell (hg 1 (by omega));have q2:=hBr.cell (hg 2 (by omega));have q3:=hBr.cell (hg 3 (by omega));simp only [Nat.zero_add,Nat.add_zero] at q0 q1 q2 q3;clear hg hBr hB0 h40 hP0 hS0 hM1 hq;have h4F:=st4_blk (a:=.int .i64 k1) (b:=.slice A1 ws1.length c1) (c:=.int .i64 n1) (d:=.slice B1 xs1.length d1) K1.out;have HMF:Hid (Mod (· = g4) (w1) (((((w1).setCell ⟨g4,0,none⟩ (.int .i64 k1)).setCell ⟨g4,1,none⟩ (.slice A1 ws1.length c1)).setCell ⟨g4,2,none⟩ (.int .i64 n1)).setCell ⟨g4,3,none⟩ (.slice B1 xs1.length d1))):=hd_ st4_mod;have HSF:=hd_ ((((hS1.setCell (p:=⟨g4,0,none⟩) (by show b<g4; omega) (.int .i64 k1)).setCell (p:=⟨g4,1,none⟩) (by show b<g4; omega) (.slice A1 ws1.length c1)).setCell (p:=⟨g4,2,none⟩) (by show b<g4; omega) (.int .i64 n1)).setCell (p:=⟨g4,3,none⟩) (by show b<g4; omega) (.slice B1 xs1.length d1));have HMM:=hd_ (mod_up HM1.out HMF.out hg4w);have hh4:=K1.out;obtain ⟨y0,y1,y2,y3,yf0,yf1,yf2,yf3⟩:=hh4.c4f;clear hh4;go_wp2_with fail;obtain ⟨x0,x1,x2,x3⟩:=h4F.c4
 try simp only [Exit.inBlock,Exit.then]
 refine bodyPost_ret (v:=.agg #[.int .i64 k1,.slice A1 ws1.length c1,.int .i64 n1,.slice B1 xs1.length d1]) (by simp [results,Tryz.results101,go_sem,x0,x1,x2,x3]) rfl ?_;exact ⟨_,HMEM.out,rfl,HSF.out,HMM.out⟩
theorem queryG_calls (b:Nat):∀ (d:Nat) (w:World) (N:Nat) (dI:Int),dI=(d:Int)→d≤3→Strm w b N→N+1000*d≤700000000→Calls Tryz.prog 39 #[.pointer (some ⟨b,0,none⟩),.int .i64 dI] w (QgP w b (N+cQ d) (sQ d)):=by
 intro d
 induction d with
 | zero =>
  intro w N dI hdI _ hS hN;have HIH:Hid True:=hd_ trivial;have hcd:6≤cQ 0:=(by decide)
  replace hN:N≤700000000:=by omega
  have hd1:dI≤0:=(by omega);have hd2:0≤dI:=(by omega);clear hdI;have h40:=Blk.new w 29 #[.int .i64 0,.slice none 0 0,.int .i64 0,.slice none 0 0];have hP0:=pure_alloc w (.cells #[.int .i64 0,.slice none 0 0,.int .i64 0,.slice none 0 0] 29);have hS0:=hS.alloc (.cells #[.int .i64 0,.slice none 0 0,.int .i64 0,.slice none 0 0] 29);have hb4:=hS.lt;have hsz:w.heap.size+1≤(w.alloc (.cells #[.int .i64 0,.slice none 0 0,.int .i64 0,.slice none 0 0] 29)).heap.size:=(by simp);clear hS
  go_enter Tryz.func39,Tryz.ntmps39
  go_upto_region 1 with (fail);generalize (w.alloc (.cells #[.int .i64 0,.slice none 0 0,.int .i64 0,.slice none 0 0] 29))=w0 at *;generalize hg4:w.heap.size=g4 at *;have hg4w:w.heap.size≤g4:=Nat.le_of_eq hg4;have hg4v:g4≤w.heap.size:=Nat.le_of_eq hg4.symm;clear hg4;go_wp2_with fail;refine (next_calls w0 b N 12 hS0 (by omega) (by omega) (by omega)).mono ?_;rintro e w1 ⟨k,hk0,hk6,rfl,hS1,hM1⟩;have H4:=hd_ (h40.mod hM1 (by omega));have HM:Hid (Mod (· = b) w w1):=hd_ ((Mod.of_pure hP0:Mod (· = b) w w0).trans hM1);have hsz1:=hM1.size;clear h40 hP0 hS0 hM1;have HM1:=HM;have K1:=H4;obtain ⟨ca,hca⟩:∃ ca,decide (k<3∨dI=0)=ca:=⟨_,rfl⟩;go_upto_region 2 with (fail)
  go_cut [9] from 10 to 15 (fun p wx=>p = .bool ca∧w1=wx)
  case first =>
   clear HIH
   by_cases h2:k<3
   ·obtain rfl:true=ca:=by rw [← hca]; exact (decide_eq_true (.inl h2)).symm
    clear hca;go_wp2_with fail;go_meet;exact ⟨by first | rfl | simp,rfl⟩
   ·by_cases h0:dI=0
    ·obtain rfl:true=ca:=by rw [← hca]; exact (decide_eq_true (.inr h0)).symm
     clear hca;subst h0;go_wp2_with fail;go_meet;exact ⟨by first | rfl | simp,rfl⟩
    ·obtain rfl:false=ca:=by rw [← hca]; exact (decide_eq_false (by omega)).symm
     have h0i:(dI == 0)=false:=(by simpa using h0);clear hca h0;go_wp2_with fail;go_meet;exact ⟨by first | rfl | simp,rfl⟩
  case rest =>
   obtain ⟨rfl,rfl⟩:=hcut
   cases ca with
   | true =>
    clear hca HIH;obtain ⟨dm,hdm,hdm2⟩:∃ dm:Nat,min dI 2=(dm:Int)∧dm≤2∧cB dm+1≤cQ (0)∧sB dm≤sQ (0):=byw_min (d:=0) (by omega) (by omega);have HC:=hd_ (byWordsG_calls b dm w1 (N+1) (min dI 2) hdm hdm2.1 hS1 (by omega));have HDM:=hd_ hdm2;clear hdm hdm2;go_wp2_with fail;refine HC.out.mono ?_;rintro e w2 ⟨q1,rfl,hq1,hf1,hb1,hsz1,hS2,hM2,hz1⟩;obtain ⟨hd2,hd3,hd4⟩:=HDM.out;have HM2:=hd_ (HM1.out.trans hM2);have K2:=hd_ (K1.out.mod hM2 (by omega));have HQ1:=hd_ hq1;have hsz12:=hM2.size;have HF1:=hd_ (hf1.up (b1:=g4+1) (by omega));have HBq1:=hd_ hb1;have HZ1:=hd_ hz1;obtain ⟨k1,A1,c1,ws1,n1,B1,d1,xs1,rfl⟩:=q1.ex;rw [qA_mk];clear HC hM2 hf1 hb1 hz1 hq1
    have hst:∀ g arr fr,(w2).heap[g]? = some (.cells arr 9 fr)→¬ g=g4:=fun g arr fr hg he=>by
     subst he;have h:=K2.out;unfold Blk at h;rw [hg] at h
     injection h with h
     injection h with _ h
     exact absurd h (by decide)
    have h4F:=st4_blk (a:=.int .i64 k1) (b:=.slice A1 ws1.length c1) (c:=.int .i64 n1) (d:=.slice B1 xs1.length d1) K2.out;have HMF:Hid (Mod (· = g4) (w2) (((((w2).setCell ⟨g4,0,none⟩ (.int .i64 k1)).setCell ⟨g4,1,none⟩ (.slice A1 ws1.length c1)).setCell ⟨g4,2,none⟩ (.int .i64 n1)).setCell ⟨g4,3,none⟩ (.slice B1 xs1.length d1))):=hd_ st4_mod;have HSF:=hd_ ((((hS2.setCell (p:=⟨g4,0,none⟩) (by show b<g4; omega) (.int .i64 k1)).setCell (p:=⟨g4,1,none⟩) (by show b<g4; omega) (.slice A1 ws1.length c1)).setCell (p:=⟨g4,2,none⟩) (by show b<g4; omega) (.int .i64 n1)).setCell (p:=⟨g4,3,none⟩) (by show b<g4; omega) (.slice B1 xs1.length d1));have HMM:=hd_ (mod_up HM2.out HMF.out hg4w);have HQS:Hid (QS (((((w2).setCell ⟨g4,0,none⟩ (.int .i64 k1)).setCell ⟨g4,1,none⟩ (.slice A1 ws1.length c1)).setCell ⟨g4,2,none⟩ (.int .i64 n1)).setCell ⟨g4,3,none⟩ (.slice B1 xs1.length d1)) (.mk k1 A1 c1 ws1 n1 B1 d1 xs1)):=hd_ (HQ1.out.modF HF1.out st4_mod hst (fun g hg=>by show ¬ g=g4; omega));have hh4:=K2.out;obtain ⟨y0,y1,y2,y3,yf0,yf1,yf2,yf3⟩:=hh4.c4f;clear hh4;go_wp2_with fail;obtain ⟨x0,x1,x2,x3⟩:=h4F.c4
    try simp only [Exit.inBlock,Exit.then]
    refine bodyPost_ret (v:=.agg #[.int .i64 k1,.slice A1 ws1.length c1,.int .i64 n1,.slice B1 xs1.length d1]) (by simp [results,Tryz.results39,go_sem,x0,x1,x2,x3]) rfl ?_;exact ⟨.mk k1 A1 c1 ws1 n1 B1 d1 xs1,rfl,HQS.out,HF1.out.up (by omega),HBq1.out,(by omega),HSF.out.more (by first | omega | (have:=HCM.out; omega)),HMM.out,HZ1.out⟩
   | false =>
    have hkd:¬ (k<3∨dI=0):=of_decide_eq_false hca;clear hca;exact absurd (.inr (by omega)) hkd
 | succ d ih =>
  intro w N dI hdI hd hS hN;have HIH:=hd_ (fun (w:World) (N:Nat) (dI:Int) (h:dI=(d:Int)) (hS:Strm w b N) (hN:N+1000*d≤700000000)=>ih w N dI h (by omega) hS hN);have hcb:=cQ_le (show d≤3 by omega);have hcb2:=cQ_le (show d+1≤3 by omega);have hcb3:=cQ_le2 (show d≤2 by omega);have hcd:45+3*cQ d≤cQ (d+1):=Nat.le_refl _;have hsd:7+3*sQ d≤sQ (d+1):=Nat.le_refl _;have HNN:=hd_ hN
  replace hN:N≤700000000:=by omega
  have hd1:dI≤(d:Int)+1:=(by omega);have hd2:(d:Int)+1≤dI:=(by omega);clear hdI;clear ih;have h40:=Blk.new w 29 #[.int .i64 0,.slice none 0 0,.int .i64 0,.slice none 0 0];have hP0:=pure_alloc w (.cells #[.int .i64 0,.slice none 0 0,.int .i64 0,.slice none 0 0] 29);have hS0:=hS.alloc (.cells #[.int .i64 0,.slice none 0 0,.int .i64 0,.slice none 0 0] 29);have hb4:=hS.lt;have hsz:w.heap.size+1≤(w.alloc (.cells #[.int .i64 0,.slice none 0 0,.int .i64 0,.slice none 0 0] 29)).heap.size:=(by simp);clear hS
  go_enter Tryz.func39,Tryz.ntmps39
  go_upto_region 1 with (fail);generalize (w.alloc (.cells #[.int .i64 0,.slice none 0 0,.int .i64 0,.slice none 0 0] 29))=w0 at *;generalize hg4:w.heap.size=g4 at *;have hg4w:w.heap.size≤g4:=Nat.le_of_eq hg4;have hg4v:g4≤w.heap.size:=Nat.le_of_eq hg4.symm;clear hg4;go_wp2_with fail;refine (next_calls w0 b N 12 hS0 (by omega) (by omega) (by omega)).mono ?_;rintro e w1 ⟨k,hk0,hk6,rfl,hS1,hM1⟩;have H4:=hd_ (h40.mod hM1 (by omega));have HM:Hid (Mod (· = b) w w1):=hd_ ((Mod.of_pure hP0:Mod (· = b) w w0).trans hM1);have hsz1:=hM1.size;clear h40 hP0 hS0 hM1;have HM1:=HM;have K1:=H4;obtain ⟨ca,hca⟩:∃ ca,decide (k<3∨dI=0)=ca:=⟨_,rfl⟩;go_upto_region 2 with (fail)
  go_cut [9] from 10 to 15 (fun p wx=>p = .bool ca∧w1=wx)
  case first =>
   clear HIH
   by_cases h2:k<3
   ·obtain rfl:true=ca:=by rw [← hca]; exact (decide_eq_true (.inl h2)).symm
    clear hca;go_wp2_with fail;go_meet;exact ⟨by first | rfl | simp,rfl⟩
   ·by_cases h0:dI=0
    ·obtain rfl:true=ca:=by rw [← hca]; exact (decide_eq_true (.inr h0)).symm
     clear hca;subst h0;go_wp2_with fail;go_meet;exact ⟨by first | rfl | simp,rfl⟩
    ·obtain rfl:false=ca:=by rw [← hca]; exact (decide_eq_false (by omega)).symm
     have h0i:(dI == 0)=false:=(by simpa using h0);clear hca h0;go_wp2_with fail;go_meet;exact ⟨by first | rfl | simp,rfl⟩
  case rest =>
   obtain ⟨rfl,rfl⟩:=hcut
   cases ca with
   | true =>
    clear hca HIH;obtain ⟨dm,hdm,hdm2⟩:∃ dm:Nat,min dI 2=(dm:Int)∧dm≤2∧cB dm+1≤cQ (d+1)∧sB dm≤sQ (d+1):=byw_min (d:=d+1) (by omega) (by omega);have HC:=hd_ (byWordsG_calls b dm w1 (N+1) (min dI 2) hdm hdm2.1 hS1 (by omega));have HDM:=hd_ hdm2;clear hdm hdm2;go_wp2_with fail;refine HC.out.mono ?_;rintro e w2 ⟨q1,rfl,hq1,hf1,hb1,hsz1,hS2,hM2,hz1⟩;obtain ⟨hd2,hd3,hd4⟩:=HDM.out;have HM2:=hd_ (HM1.out.trans hM2);have K2:=hd_ (K1.out.mod hM2 (by omega));have HQ1:=hd_ hq1;have hsz12:=hM2.size;have HF1:=hd_ (hf1.up (b1:=g4+1) (by omega));have HBq1:=hd_ hb1;have HZ1:=hd_ hz1;obtain ⟨k1,A1,c1,ws1,n1,B1,d1,xs1,rfl⟩:=q1.ex;rw [qA_mk];clear HC hM2 hf1 hb1 hz1 hq1
    have hst:∀ g arr fr,(w2).heap[g]? = some (.cells arr 9 fr)→¬ g=g4:=fun g arr fr hg he=>by
     subst he;have h:=K2.out;unfold Blk at h;rw [hg] at h
     injection h with h
     injection h with _ h
     exact absurd h (by decide)
    have h4F:=st4_blk (a:=.int .i64 k1) (b:=.slice A1 ws1.length c1) (c:=.int .i64 n1) (d:=.slice B1 xs1.length d1) K2.out;have HMF:Hid (Mod (· = g4) (w2) (((((w2).setCell ⟨g4,0,none⟩ (.int .i64 k1)).setCell ⟨g4,1,none⟩ (.slice A1 ws1.length c1)).setCell ⟨g4,2,none⟩ (.int .i64 n1)).setCell ⟨g4,3,none⟩ (.slice B1 xs1.length d1))):=hd_ st4_mod;have HSF:=hd_ ((((hS2.setCell (p:=⟨g4,0,none⟩) (by show b<g4; omega) (.int .i64 k1)).setCell (p:=⟨g4,1,none⟩) (by show b<g4; omega) (.slice A1 ws1.length c1)).setCell (p:=⟨g4,2,none⟩) (by show b<g4; omega) (.int .i64 n1)).setCell (p:=⟨g4,3,none⟩) (by show b<g4; omega) (.slice B1 xs1.length d1));have HMM:=hd_ (mod_up HM2.out HMF.out hg4w);have HQS:Hid (QS (((((w2).setCell ⟨g4,0,none⟩ (.int .i64 k1)).setCell ⟨g4,1,none⟩ (.slice A1 ws1.length c1)).setCell ⟨g4,2,none⟩ (.int .i64 n1)).setCell ⟨g4,3,none⟩ (.slice B1 xs1.length d1)) (.mk k1 A1 c1 ws1 n1 B1 d1 xs1)):=hd_ (HQ1.out.modF HF1.out st4_mod hst (fun g hg=>by show ¬ g=g4; omega));have hh4:=K2.out;obtain ⟨y0,y1,y2,y3,yf0,yf1,yf2,yf3⟩:=hh4.c4f;clear hh4;go_wp2_with fail;obtain ⟨x0,x1,x2,x3⟩:=h4F.c4
    try simp only [Exit.inBlock,Exit.then]
    refine bodyPost_ret (v:=.agg #[.int .i64 k1,.slice A1 ws1.length c1,.int .i64 n1,.slice B1 xs1.length d1]) (by simp [results,Tryz.results39,go_sem,x0,x1,x2,x3]) rfl ?_;exact ⟨.mk k1 A1 c1 ws1 n1 B1 d1 xs1,rfl,HQS.out,HF1.out.up (by omega),HBq1.out,(by omega),HSF.out.more (by first | omega | (have:=HCM.out; omega)),HMM.out,HZ1.out⟩
   | false =>
    have hkd:¬ (k<3∨dI=0):=of_decide_eq_false hca;clear hca
    by_cases k6:k<6
    ·clear hkd;go_wp2_with fail;have hlt1:=hS1.lt;refine (pickv_calls _ b _ w1.heap.size _ _ #[.int .i64 6,.int .i64 7] (hS1.alloc _) (Blk.new _ _ _) (by omega) (by omega) rfl (by decide) (by decide) rfl).mono ?_;rintro e w2 ⟨kd,hmem1,rfl,hS2,hM2⟩
     have hv1:kd=6∨kd=7:=by simpa [intsOf,Go.RowKit.intOf] using hmem1
     have HM2:=hd_ ((HM1.out.trans (Mod.of_pure (pure_alloc w1 (.cells #[.int .i64 6,.int .i64 7] 3)))).trans hM2);have K2:=hd_ ((K1.out.alloc (.cells #[.int .i64 6,.int .i64 7] 3)).mod hM2 (by omega))
     have hz2:w1.heap.size≤w2.heap.size:=by have:=hM2.size; rw [World.size_alloc] at this; omega
     clear hmem1 hM2;have h6b:=Blk.new w2 29 #[.int .i64 kd,.slice none 0 0,.int .i64 0,.slice none 0 0];have h46:=K2.out.alloc (.cells #[.int .i64 kd,.slice none 0 0,.int .i64 0,.slice none 0 0] 29);have hS26:=hS2.alloc (.cells #[.int .i64 kd,.slice none 0 0,.int .i64 0,.slice none 0 0] 29);have hM26:=HM2.out.trans (Mod.of_pure (pure_alloc w2 (.cells #[.int .i64 kd,.slice none 0 0,.int .i64 0,.slice none 0 0] 29)));have h4lt:=K2.out.lt;have hblt:=hS2.lt;go_upto_region 6 with (fail);generalize (w2.alloc (.cells #[.int .i64 kd,.slice none 0 0,.int .i64 0,.slice none 0 0] 29))=w3 at *;generalize hg6:w2.heap.size=g6 at *;have hg6w:w2.heap.size≤g6:=(by omega);have hg6v:g6≤w2.heap.size:=(by omega);clear hg6;have HM3:=hd_ hM26;have K3:=hd_ h46;have J3:=hd_ h6b;have hS3:=hS26;have hz23:=h6b.lt;clear hM26 h46 h6b hS26 hS2;go_wp2_with fail;have hlt3:=hS3.lt;refine (pickv_calls _ b _ w3.heap.size _ _ #[.int .i64 2,.int .i64 2,.int .i64 3] (hS3.alloc _) (Blk.new _ _ _) (by omega) (by omega) rfl (by decide) (by decide) rfl).mono ?_;rintro e w4 ⟨pm,hmem3,rfl,hS4,hM4⟩
     have hv3:pm=2∨pm=2∨pm=3:=by simpa [intsOf,Go.RowKit.intOf] using hmem3
     have HM4:=hd_ ((HM3.out.trans (Mod.of_pure (pure_alloc w3 (.cells #[.int .i64 2,.int .i64 2,.int .i64 3] 3)))).trans hM4);have K4:=hd_ ((K3.out.alloc (.cells #[.int .i64 2,.int .i64 2,.int .i64 3] 3)).mod hM4 (by omega))
     have hz4:w3.heap.size≤w4.heap.size:=by have:=hM4.size; rw [World.size_alloc] at this; omega
     have J4:=hd_ ((J3.out.alloc (.cells #[.int .i64 2,.int .i64 2,.int .i64 3] 3)).mod hM4 (by omega));clear hmem3 hM4;obtain ⟨pn,rfl⟩:∃ pn:Nat,pm=(pn:Int):=⟨pm.toNat,by omega⟩;have hpn:pn≤3:=(by omega);clear hv3;have HG0:Hid (GatQ w4 g4 g4 g6 g4 none 0 []):=hd_ ⟨World.ownsRow_nil _ _ _ _,fun k hk=>(by cases hk),fun q hq=>(by cases hq)⟩;clear K2 K3 J3;go_wp2_with fail
     go_loopg [30] pn (fun gk i wr=>∃ (j:Nat) (A:Option Addr) (c:Nat) (qs:List QR),pn - j=gk∧j≤pn∧qs.length=j∧i = .int .i64 (j:Int)∧GatQ wr g4 g4 g6 g4 A c qs∧(∀ q∈qs,QZ q∧QB 100 q.key)∧(qs.map fun q=>qSize q.key).sum≤j*sQ d∧Blk wr g6 29 #[.int .i64 kd,.slice none 0 0,.int .i64 0,.slice A qs.length c]∧Blk wr g4 29 #[.int .i64 0,.slice none 0 0,.int .i64 0,.slice none 0 0]∧Strm wr b (N+3+j*cQ d)∧Mod (· = b) w wr)
     case atStart=>exact ⟨0,none,0,[],by omega,by omega,rfl,rfl,HG0.out,fun q hq=>(by cases hq),by simp,J4.out,K4.out,hS4.more (by omega),HM4.out⟩
     case round =>
      clear HG0 J4 K4 hS4 HM4;obtain ⟨_,A,c,qs,rfl,hj,rfl,rfl,hG,hZB,hsum,hJ,hK,hS,hM⟩:=hrel;have HG:=hd_ hG;have HZB:=hd_ hZB;have HSUM:=hd_ hsum;have HJ:=hd_ hJ;have HK:=hd_ hK;have HMr:=hd_ hM;have hg6r:=hJ.lt;have hg4r:=hK.lt;have hbr:=hS.lt;clear hG hZB hsum hM
      by_cases hlt:qs.length<pn
      ·have hji:((qs.length:Nat):Int)<(pn:Int):=(by omega);have hjc:qs.length*cQ d≤2*cQ d:=Nat.mul_le_mul_right _ (by omega);have HC1:=hd_ (fun W (hp:Pure wr W)=>HIH.out W _ (dI - 1) (by omega) (hS.pure hp) (by have:=HNN.out; omega));have HS:=hd_ hS;have hwr:IntKind.i64.wrap (dI - 1)=dI - 1:=IntWalk.i64_in _ (by omega);obtain ⟨u0,u1,u2,u3,uf0,uf1,uf2,uf3⟩:=hJ.c4f;clear hJ hK hS;go_upto_region 8 with (fail)
       go_region_law (first
        | (refine step_callQ rfl 39 _ _ rfl (by kernel_rfl) _ (by simp [Act.eval,Act.put,hwr]; done) (HC1.out _ (by (repeat' (first | with_reducible assumption | with_reducible exact Mod.refl _ _ | with_reducible refine Mod.alloc ?_ _ | with_reducible refine Mod.drew ?_ | with_reducible refine Mod.drewN ?_ _ | ((with_reducible apply Mod.q_set); (dsimp only); omega) | ((with_reducible apply Mod.q_trans); (with_reducible assumption)) | ((with_reducible apply Mod.q_transp); (with_reducible assumption)))))) ?_; rintro e w5 ⟨q1,rfl,hq1,hf1,hb1,hsz1,hS2,hM2,hqz1⟩; obtain ⟨k1,A1,c1,ws1,n1,B1,d1,xs1⟩:=q1; rw [qA_mk]; refine ⟨_,rfl,?_⟩; have hM5:Mod (· = b) wr w5:=Mod.trans (by (repeat' (first | with_reducible assumption | with_reducible exact Mod.refl _ _ | with_reducible refine Mod.alloc ?_ _ | with_reducible refine Mod.drew ?_ | with_reducible refine Mod.drewN ?_ _ | ((with_reducible apply Mod.q_set); (dsimp only); omega) | ((with_reducible apply Mod.q_trans); (with_reducible assumption)) | ((with_reducible apply Mod.q_transp); (with_reducible assumption))))) hM2; have hJ5:=HJ.out.modb hM5 (by omega); have hJ6:=hJ5.alloc (.cells #[.int .i64 k1,.slice A1 ws1.length c1,.int .i64 n1,.slice B1 xs1.length d1] 29); obtain ⟨v0,v1,v2,v3,vf0,vf1,vf2,vf3⟩:=hJ5.c4f; obtain ⟨z0,z1,z2,z3,zf0,zf1,zf2,zf3⟩:=hJ6.c4f; have hr5:=hM5.size; obtain ⟨A5,c5,w7,hr7,hown7,hgrow7,hat7⟩:=run_app4 (w5.alloc (.cells #[.int .i64 k1,.slice A1 ws1.length c1,.int .i64 n1,.slice B1 xs1.length d1] 29)) 27 g4 qs.length w5.heap.size (.slice A qs.length c) qs (.mk k1 A1 c1 ws1 n1 B1 d1 xs1) (own_pure (HG.out.strm HS.out hM5).1 (pure_alloc _ _)) (Blk.new _ _ _) (by simp; omega) (by omega); have hX7:=(hJ5.alloc (.cells #[.int .i64 k1,.slice A1 ws1.length c1,.int .i64 n1,.slice B1 xs1.length d1] 29)).mod (mod_grown hgrow7) (fun hv=>(HG.out.2.1 _ hv).2 rfl))
        | (refine step_append_I rfl (.tmp 33) (.tmp 38) 27 rfl _ _ _ _ (by simp [Act.eval,Act.put]; done) (by simp [Act.eval,Act.put]; done) hr7 ?_; obtain ⟨y0,y1,y2,y3,yf0,yf1,yf2,yf3⟩:=hX7.c4f))
       all_goals
        have hm67:=mod_grown hgrow7;have hpa6:=pure_alloc w5 (.cells #[.int .i64 k1,.slice A1 ws1.length c1,.int .i64 n1,.slice B1 xs1.length d1] 29);have hs56:=hpa6.size;have hs67:=hm67.size
        obtain ⟨g5,rfl⟩:∃ g5,A5=some ⟨g5,0,none⟩:=by
         rcases hown7.2 with ⟨h1,_⟩ | ⟨g',cap,cur,h1,_⟩
         ·cases h1
         ·injection h1 with h1 _ _
          exact ⟨g',h1⟩
        have hol:=HG.out.1.lt;have hf2:=hf1.up (b1:=wr.heap.size) (by first | exact Nat.le_refl _ | simp)
        have hG8:=GatQ.snoc (w6:=w7.setCell ⟨g6,3,none⟩ (.slice (some ⟨g5,0,none⟩) (qs.length+1) c5)) ((HG.out.strm HS.out hM5).pure hpa6) (hq1.pure hpa6) (hf2.up (by omega)) (QN.old hf2 (fun k hk=>by omega)) (QN.old hf2 (fun k hk=>by omega)) (QN.old hf2 (fun k hk=>by have:=hol k hk; omega)) (by rw [← qV_snoc]; exact hown7) hm67 (by
         rcases hat7 with h | h
         ·exact .inl h.symm
         ·right
          have h2:g5=_:=Option.some.inj h
          omega) (by omega) (by omega) hX7 (mod_set (Mod.refl _ _) 3 _)
        have hJ8:=hX7.set 3 (.slice (some ⟨g5,0,none⟩) (qs.length+1) c5);simp at hJ8;have hK8:=((((HK.out.modb hM5 (by omega)).alloc (.cells #[.int .i64 k1,.slice A1 ws1.length c1,.int .i64 n1,.slice B1 xs1.length d1] 29)).mod hm67 (fun hv=>(HG.out.2.1 _ hv).1 rfl)).mod (mod_set (Mod.refl (· = g6) w7) 3 (.slice (some ⟨g5,0,none⟩) (qs.length+1) c5)) (by omega));have hS8:=(((hS2.alloc (.cells #[.int .i64 k1,.slice A1 ws1.length c1,.int .i64 n1,.slice B1 xs1.length d1] 29)).mod hm67 (fun i hi hv=>by have:=hol i hv; omega)).setCell (p:=⟨g6,3,none⟩) (by show b<g6; omega) (.slice (some ⟨g5,0,none⟩) (qs.length+1) c5));have hM8:=(((HMr.out.trans hM5).trans (Mod.of_pure hpa6)).trans' hm67 (fun i hi hlt=>by have:=hol i hi; omega)).setCell (p:=⟨g6,3,none⟩) (.inr (by show w.heap.size≤g6; omega)) (.slice (some ⟨g5,0,none⟩) (qs.length+1) c5);have HG8:=hd_ hG8;have HJ8:=hd_ hJ8;have HK8:=hd_ hK8;have HS8:=hd_ hS8;have HM8:=hd_ hM8
        have HZ8:Hid (∀ q∈qs ++ [QR.mk k1 A1 c1 ws1 n1 B1 d1 xs1],QZ q∧QB 100 q.key):=hd_ (fun q hq=>by
         rcases List.mem_append.1 hq with h | h
         ·exact HZB.out q h
         ·rw [List.mem_singleton.1 h]
          exact ⟨hqz1,hb1⟩)
        have HU8:Hid (((qs ++ [QR.mk k1 A1 c1 ws1 n1 B1 d1 xs1]).map fun q=>qSize q.key).sum≤(qs.length+1)*sQ d):=hd_ (by
         have:=HSUM.out;rw [List.map_append,List.sum_append,Nat.succ_mul];simp only [List.map_cons,List.map_nil,List.sum_cons,List.sum_nil]
         omega)
        generalize w7.setCell ⟨g6,3,none⟩ (.slice (some ⟨g5,0,none⟩) (qs.length+1) c5)=w8 at *;clear hG8 hJ8 hK8 hS8 hM8 hJ5 hJ6 hX7 hr7 hown7 hgrow7 hat7 hm67 hpa6 hM5 hM2 hS2 hq1 hf1 hf2 hb1 hsz1 hqz1 hol;go_wp2_with fail
        go_roundg (pn - (qs.length+1))
        case measure=>omega
        case rel=>exact ⟨qs.length+1,some ⟨g5,0,none⟩,c5,qs ++ [QR.mk k1 A1 c1 ws1 n1 B1 d1 xs1],rfl,by omega,by simp,by simp,HG8.out,HZ8.out,HU8.out,by rw [List.length_append]; exact HJ8.out,HK8.out,HS8.out.more (by rw [Nat.succ_mul]; omega),HM8.out⟩
      ·have hpq:qs.length=pn:=(by omega);subst hpq;have hjj:¬ ((qs.length:Nat):Int)<(qs.length:Int):=(by omega);have hcm:qs.length*cQ d≤3*cQ d:=Nat.mul_le_mul_right _ (by omega);have hsm:qs.length*sQ d≤3*sQ d:=Nat.mul_le_mul_right _ (by omega);have HCM:=hd_ hcm;have HSMM:=hd_ (Nat.le_trans HSUM.out hsm);have HS:=hd_ hS;have HQ0:Hid (QS wr (.mk kd none 0 [] 0 A c qs)):=hd_ (.mk Sl.nil_ (Sl.of_own HG.out.1) (fun a ha=>(HG.out.2.2 a ha).1))
       have HN0:Hid (QN (· = g4) (.mk kd none 0 [] 0 A c qs)):=hd_ (.mk (fun _ g off hA e=>by
        subst hA
        exact (HG.out.2.1 g rfl).1 e) (fun a ha=>(HG.out.2.2 a ha).2.1))
       have HF0:Hid (QFr g4 (.mk kd none 0 [] 0 A c qs)):=hd_ (.mk (fun hx=>by
        rcases HG.out.1.2 with ⟨_,h1⟩ | ⟨g',cap,cur,h1,h2,_⟩
        ·exact absurd (List.eq_nil_of_length_eq_zero h1) hx
        ·injection h1 with h1 _ _
         exact ⟨g',0,h1,h2⟩) (fun a ha=>(HG.out.2.2 a ha).2.2.2.2))
       have HZ0:Hid (QZ (.mk kd none 0 [] 0 A c qs)):=hd_ (.mk (fun g off sp hA=>by
        rcases HG.out.1.2 with ⟨h1,_⟩ | ⟨g',cap,cur,h1,h2,_⟩
        ·injection h1 with h1 _ _
         rw [hA] at h1
         cases h1
        ·injection h1 with h1 _ _
         rw [hA] at h1
         injection h1 with h1
         injection h1 with _ _ h1) (fun a ha=>(HZB.out a ha).1))
       have HB0:Hid (QB 100 (QR.mk kd none 0 [] 0 A c qs).key∧qSize (QR.mk kd none 0 [] 0 A c qs).key≤sQ (d+1)):=hd_ ⟨by
        rw [QR.key_mk]
        exact .mk (by omega) (by omega) (by omega) (by omega) (by simp) (fun x hx=>by cases hx) (by simp; omega) (fun a ha=>by
         obtain ⟨y,hy,rfl⟩:=List.mem_map.1 ha
         exact (HZB.out y hy).2),by
        rw [QR.key_mk,qSize,List.map_map];have:=HSMM.out;have e:(qs.map fun q=>qSize q.key)=qs.map (qSize ∘ QR.key):=rfl;rw [← e]
        omega⟩
       have hJu:=HJ.out;obtain ⟨u0,u1,u2,u3,uf0,uf1,uf2,uf3⟩:=hJu.c4f;clear hJ hK hS hJu HIH
       have hst:∀ g arr fr,(wr).heap[g]? = some (.cells arr 9 fr)→¬ g=g4:=fun g arr fr hg he=>by
        subst he;have h:=HK.out;unfold Blk at h;rw [hg] at h
        injection h with h
        injection h with _ h
        exact absurd h (by decide)
       have h4F:=st4_blk (a:=.int .i64 kd) (b:=.slice none 0 0) (c:=.int .i64 0) (d:=.slice A qs.length c) HK.out;have HMF:Hid (Mod (· = g4) (wr) (((((wr).setCell ⟨g4,0,none⟩ (.int .i64 kd)).setCell ⟨g4,1,none⟩ (.slice none 0 0)).setCell ⟨g4,2,none⟩ (.int .i64 0)).setCell ⟨g4,3,none⟩ (.slice A qs.length c))):=hd_ st4_mod;have HSF:=hd_ ((((HS.out.setCell (p:=⟨g4,0,none⟩) (by show b<g4; omega) (.int .i64 kd)).setCell (p:=⟨g4,1,none⟩) (by show b<g4; omega) (.slice none 0 0)).setCell (p:=⟨g4,2,none⟩) (by show b<g4; omega) (.int .i64 0)).setCell (p:=⟨g4,3,none⟩) (by show b<g4; omega) (.slice A qs.length c));have HMM:=hd_ (mod_up HMr.out HMF.out hg4w);have HQS:Hid (QS (((((wr).setCell ⟨g4,0,none⟩ (.int .i64 kd)).setCell ⟨g4,1,none⟩ (.slice none 0 0)).setCell ⟨g4,2,none⟩ (.int .i64 0)).setCell ⟨g4,3,none⟩ (.slice A qs.length c)) (.mk kd none 0 [] 0 A c qs)):=hd_ (HQ0.out.modN HN0.out st4_mod hst);have hh4:=HK.out;obtain ⟨y0,y1,y2,y3,yf0,yf1,yf2,yf3⟩:=hh4.c4f;clear hh4;go_wp2_with fail;obtain ⟨x0,x1,x2,x3⟩:=h4F.c4
       try simp only [Exit.inBlock,Exit.then]
       refine bodyPost_ret (v:=.agg #[.int .i64 kd,.slice none 0 0,.int .i64 0,.slice A qs.length c]) (by simp [results,Tryz.results39,go_sem,x0,x1,x2,x3]) rfl ?_;exact ⟨.mk kd none 0 [] 0 A c qs,rfl,HQS.out,HF0.out.up (by omega),HB0.out.1,HB0.out.2,HSF.out.more (by first | omega | (have:=HCM.out; omega)),HMM.out,HZ0.out⟩
    by_cases k8:k<8
    ·clear hkd;have HC1:=hd_ (HIH.out w1 _ (dI - 1) (by omega) hS1 (by have:=HNN.out; omega));go_wp2_with fail;refine HC1.out.mono ?_;rintro e w2 ⟨q1,rfl,hq1,hf1,hb1,hsz1,hS2,hM2,hz1⟩;have HM2:=hd_ (HM1.out.trans hM2);have K2:=hd_ (K1.out.mod hM2 (by omega));have hsz12:=hM2.size;have HQ1:=hd_ hq1;have HF1:=hd_ (hf1.up (b1:=g4+1) (by omega));have HBq1:=hd_ hb1;have HZ1:=hd_ hz1;obtain ⟨k1,A1,c1,ws1,n1,B1,d1,xs1,rfl⟩:=q1.ex;rw [qA_mk];clear HC1 hM2 hf1 hb1 hz1 hq1;have h4b:=K2.out.alloc (.cells #[.int .i64 k1,.slice A1 ws1.length c1,.int .i64 n1,.slice B1 xs1.length d1] 29);have hsb:Blk (w2.alloc (.cells #[.int .i64 k1,.slice A1 ws1.length c1,.int .i64 n1,.slice B1 xs1.length d1] 29)) w2.heap.size 29 (qC (.mk k1 A1 c1 ws1 n1 B1 d1 xs1)).toArray:=Blk.new w2 29 #[.int .i64 k1,.slice A1 ws1.length c1,.int .i64 n1,.slice B1 xs1.length d1];have hSb:=hS2.alloc (.cells #[.int .i64 k1,.slice A1 ws1.length c1,.int .i64 n1,.slice B1 xs1.length d1] 29);have hpal:=pure_alloc w2 (.cells #[.int .i64 k1,.slice A1 ws1.length c1,.int .i64 n1,.slice B1 xs1.length d1] 29);have hMb:=HM2.out.trans (Mod.of_pure hpal)
     have hst:∀ g arr fr,(w2.alloc (.cells #[.int .i64 k1,.slice A1 ws1.length c1,.int .i64 n1,.slice B1 xs1.length d1] 29)).heap[g]? = some (.cells arr 9 fr)→¬ g=g4:=fun g arr fr hg he=>by
      subst he;have h:=h4b;unfold Blk at h;rw [hg] at h
      injection h with h
      injection h with _ h
      exact absurd h (by decide)
     have h4F:=st4_blk (a:=.int .i64 8) (b:=.slice none 0 0) (c:=.int .i64 0) (d:=.slice (some ⟨w2.heap.size,0,none⟩) 1 1) h4b;have HMF:Hid (Mod (· = g4) (w2.alloc (.cells #[.int .i64 k1,.slice A1 ws1.length c1,.int .i64 n1,.slice B1 xs1.length d1] 29)) (((((w2.alloc (.cells #[.int .i64 k1,.slice A1 ws1.length c1,.int .i64 n1,.slice B1 xs1.length d1] 29)).setCell ⟨g4,0,none⟩ (.int .i64 8)).setCell ⟨g4,1,none⟩ (.slice none 0 0)).setCell ⟨g4,2,none⟩ (.int .i64 0)).setCell ⟨g4,3,none⟩ (.slice (some ⟨w2.heap.size,0,none⟩) 1 1))):=hd_ st4_mod;have HSF:=hd_ ((((hSb.setCell (p:=⟨g4,0,none⟩) (by show b<g4; omega) (.int .i64 8)).setCell (p:=⟨g4,1,none⟩) (by show b<g4; omega) (.slice none 0 0)).setCell (p:=⟨g4,2,none⟩) (by show b<g4; omega) (.int .i64 0)).setCell (p:=⟨g4,3,none⟩) (by show b<g4; omega) (.slice (some ⟨w2.heap.size,0,none⟩) 1 1));have HMM:=hd_ (mod_up hMb HMF.out hg4w);have HQS:Hid (QS (((((w2.alloc (.cells #[.int .i64 k1,.slice A1 ws1.length c1,.int .i64 n1,.slice B1 xs1.length d1] 29)).setCell ⟨g4,0,none⟩ (.int .i64 8)).setCell ⟨g4,1,none⟩ (.slice none 0 0)).setCell ⟨g4,2,none⟩ (.int .i64 0)).setCell ⟨g4,3,none⟩ (.slice (some ⟨w2.heap.size,0,none⟩) 1 1)) (.mk 8 none 0 [] 0 (some ⟨w2.heap.size,0,none⟩) 1 [.mk k1 A1 c1 ws1 n1 B1 d1 xs1])):=hd_ (qs_one (hsb.mod st4_mod (by show ¬ w2.heap.size=g4; omega)) ((HQ1.out.pure hpal).modF HF1.out st4_mod hst (fun g hg=>by show ¬ g=g4; omega)));have hh4:=h4b;obtain ⟨y0,y1,y2,y3,yf0,yf1,yf2,yf3⟩:=hh4.c4f;clear hh4;go_wp2_with fail;obtain ⟨x0,x1,x2,x3⟩:=h4F.c4
     try simp only [Exit.inBlock,Exit.then]
     refine bodyPost_ret (v:=.agg #[.int .i64 8,.slice none 0 0,.int .i64 0,.slice (some ⟨w2.heap.size,0,none⟩) 1 1]) (by simp [results,Tryz.results39,go_sem,x0,x1,x2,x3]) rfl ?_
     exact ⟨.mk 8 none 0 [] 0 (some ⟨w2.heap.size,0,none⟩) 1 [.mk k1 A1 c1 ws1 n1 B1 d1 xs1],rfl,HQS.out,.mk (fun _=>⟨w2.heap.size,0,rfl,by omega⟩) (fun a ha=>by
      rw [List.mem_singleton.1 ha]
      exact HF1.out.up (by omega)),(by rw [QR.key_mk]; exact qb_one (by omega) (by omega) HBq1.out),(by rw [QR.key_mk,qSize]; simp only [List.map_cons,List.map_nil,List.sum_cons,List.sum_nil]; omega),HSF.out.more (by first | omega | (have:=HCM.out; omega)),HMM.out,.mk (fun _ _ _ h=>by
      injection h with h
      injection h with _ _ h
      exact h.symm) (fun a ha=>by
      rw [List.mem_singleton.1 ha]
      exact HZ1.out)⟩
    clear HIH hkd
    by_cases k9:k=8
    ·subst k9;clear k6 k8;go_wp2_with fail;have hlt1:=hS1.lt;refine (someb_calls _ b _ w1.heap.size _ _ [[97,110,110],[98,111,98],[122,111,101]] 41 rfl (by decide) (hS1.alloc _) (by omega) (Blk.new _ _ _) (by omega) (by decide) (by decide)).mono ?_;rintro e w2 ⟨s1,hs1,rfl,hS2,hM2⟩;have HM2:=hd_ ((HM1.out.trans (Mod.of_pure (pure_alloc w1 (.cells #[.string ⟨#[97,110,110]⟩,.string ⟨#[98,111,98]⟩,.string ⟨#[122,111,101]⟩] 9)))).trans hM2);have K2:=hd_ ((K1.out.alloc (.cells #[.string ⟨#[97,110,110]⟩,.string ⟨#[98,111,98]⟩,.string ⟨#[122,111,101]⟩] 9)).mod hM2 (by omega))
     have hz2:w1.heap.size≤w2.heap.size:=by have:=hM2.size; rw [World.size_alloc] at this; omega
     clear hM2;have h4b:=K2.out.alloc (.cells #[.string ⟨s1.toArray⟩] 9);have hsb:Blk (w2.alloc (.cells #[.string ⟨s1.toArray⟩] 9)) w2.heap.size 9 (strsV [s1]).toArray:=Blk.new w2 9 #[.string ⟨s1.toArray⟩];have hSb:=hS2.alloc (.cells #[.string ⟨s1.toArray⟩] 9);have hMb:=HM2.out.trans (Mod.of_pure (pure_alloc w2 (.cells #[.string ⟨s1.toArray⟩] 9)));have h4F:=st4_blk (a:=.int .i64 9) (b:=.slice (some ⟨w2.heap.size,0,none⟩) 1 1) (c:=.int .i64 0) (d:=.slice none 0 0) h4b;have HMF:Hid (Mod (· = g4) (w2.alloc (.cells #[.string ⟨s1.toArray⟩] 9)) (((((w2.alloc (.cells #[.string ⟨s1.toArray⟩] 9)).setCell ⟨g4,0,none⟩ (.int .i64 9)).setCell ⟨g4,1,none⟩ (.slice (some ⟨w2.heap.size,0,none⟩) 1 1)).setCell ⟨g4,2,none⟩ (.int .i64 0)).setCell ⟨g4,3,none⟩ (.slice none 0 0))):=hd_ st4_mod;have HSF:=hd_ ((((hSb.setCell (p:=⟨g4,0,none⟩) (by show b<g4; omega) (.int .i64 9)).setCell (p:=⟨g4,1,none⟩) (by show b<g4; omega) (.slice (some ⟨w2.heap.size,0,none⟩) 1 1)).setCell (p:=⟨g4,2,none⟩) (by show b<g4; omega) (.int .i64 0)).setCell (p:=⟨g4,3,none⟩) (by show b<g4; omega) (.slice none 0 0));have HMM:=hd_ (mod_up hMb HMF.out hg4w);have HQS:Hid (QS (((((w2.alloc (.cells #[.string ⟨s1.toArray⟩] 9)).setCell ⟨g4,0,none⟩ (.int .i64 9)).setCell ⟨g4,1,none⟩ (.slice (some ⟨w2.heap.size,0,none⟩) 1 1)).setCell ⟨g4,2,none⟩ (.int .i64 0)).setCell ⟨g4,3,none⟩ (.slice none 0 0)) (.mk 9 (some ⟨w2.heap.size,0,none⟩) 1 [s1] 0 none 0 [])):=hd_ (qs_words (hsb.mod st4_mod (by show ¬ w2.heap.size=g4; omega)) (by simp));have hh4:=h4b;obtain ⟨y0,y1,y2,y3,yf0,yf1,yf2,yf3⟩:=hh4.c4f;clear hh4;go_wp2_with fail;obtain ⟨x0,x1,x2,x3⟩:=h4F.c4
     try simp only [Exit.inBlock,Exit.then]
     refine bodyPost_ret (v:=.agg #[.int .i64 9,.slice (some ⟨w2.heap.size,0,none⟩) 1 1,.int .i64 0,.slice none 0 0]) (by simp [results,Tryz.results39,go_sem,x0,x1,x2,x3]) rfl ?_;exact ⟨.mk 9 (some ⟨w2.heap.size,0,none⟩) 1 [s1] 0 none 0 [],rfl,HQS.out,.mk (fun h=>absurd rfl h) (fun a ha=>by cases ha),(by rw [QR.key_mk]; exact qb_words (by omega) (by omega) (by simp) (fun x hx=>by simp at hx; subst hx; omega)),(by rw [QR.key_mk,qSize]; simp; omega),HSF.out.more (by first | omega | (have:=HCM.out; omega)),HMM.out,.mk (fun _ _ _ h=>by cases h) (fun a ha=>by cases ha)⟩
    have k9i:(k == 8)=false:=(by simpa using k9)
    by_cases k10:k=9
    ·subst k10;clear k6 k8 k9;go_wp2_with fail;refine (range_calls w1 b _ 1 4 hS1 (by omega) (by omega) (by omega) (by omega)).mono ?_;rintro e w2 ⟨nb,hn0,hn1,rfl,hS2,hM2⟩;have HM2:=hd_ (HM1.out.trans hM2);have K2:=hd_ (K1.out.mod hM2 (by omega));clear hM2;have h4F:=st4_blk (a:=.int .i64 10) (b:=.slice none 0 0) (c:=.int .i64 nb) (d:=.slice none 0 0) K2.out;have HMF:Hid (Mod (· = g4) (w2) (((((w2).setCell ⟨g4,0,none⟩ (.int .i64 10)).setCell ⟨g4,1,none⟩ (.slice none 0 0)).setCell ⟨g4,2,none⟩ (.int .i64 nb)).setCell ⟨g4,3,none⟩ (.slice none 0 0))):=hd_ st4_mod;have HSF:=hd_ ((((hS2.setCell (p:=⟨g4,0,none⟩) (by show b<g4; omega) (.int .i64 10)).setCell (p:=⟨g4,1,none⟩) (by show b<g4; omega) (.slice none 0 0)).setCell (p:=⟨g4,2,none⟩) (by show b<g4; omega) (.int .i64 nb)).setCell (p:=⟨g4,3,none⟩) (by show b<g4; omega) (.slice none 0 0));have HMM:=hd_ (mod_up HM2.out HMF.out hg4w);have HQS:Hid (QS (((((w2).setCell ⟨g4,0,none⟩ (.int .i64 10)).setCell ⟨g4,1,none⟩ (.slice none 0 0)).setCell ⟨g4,2,none⟩ (.int .i64 nb)).setCell ⟨g4,3,none⟩ (.slice none 0 0)) (.mk 10 none 0 [] nb none 0 [])):=hd_ (.mk Sl.nil_ Sl.nil_ (fun a ha=>by cases ha));have hh4:=K2.out;obtain ⟨y0,y1,y2,y3,yf0,yf1,yf2,yf3⟩:=hh4.c4f;clear hh4;go_wp2_with fail;obtain ⟨x0,x1,x2,x3⟩:=h4F.c4
     try simp only [Exit.inBlock,Exit.then]
     refine bodyPost_ret (v:=.agg #[.int .i64 10,.slice none 0 0,.int .i64 nb,.slice none 0 0]) (by simp [results,Tryz.results39,go_sem,x0,x1,x2,x3]) rfl ?_;exact ⟨.mk 10 none 0 [] nb none 0 [],rfl,HQS.out,.mk (fun h=>absurd rfl h) (fun a ha=>by cases ha),(by rw [QR.key_mk]; exact qb_words (by omega) (by omega) (by simp) (fun x hx=>by cases hx)),(by rw [QR.key_mk,qSize]; simp; omega),HSF.out.more (by first | omega | (have:=HCM.out; omega)),HMM.out,.mk (fun _ _ _ h=>by cases h) (fun a ha=>by cases ha)⟩
    have k10i:(k == 9)=false:=(by simpa using k10)
    by_cases k11:k=10
    ·subst k11;clear k6 k8 k9 k10;go_wp2_with fail;have hlt1:=hS1.lt;refine (pickv_calls _ b _ w1.heap.size _ _ #[.int .i64 12,.int .i64 13] (hS1.alloc _) (Blk.new _ _ _) (by omega) (by omega) rfl (by decide) (by decide) rfl).mono ?_;rintro e w2 ⟨kd,hmem1,rfl,hS2,hM2⟩
     have hv1:kd=12∨kd=13:=by simpa [intsOf,Go.RowKit.intOf] using hmem1
     have HM2:=hd_ ((HM1.out.trans (Mod.of_pure (pure_alloc w1 (.cells #[.int .i64 12,.int .i64 13] 3)))).trans hM2);have K2:=hd_ ((K1.out.alloc (.cells #[.int .i64 12,.int .i64 13] 3)).mod hM2 (by omega))
     have hz2:w1.heap.size≤w2.heap.size:=by have:=hM2.size; rw [World.size_alloc] at this; omega
     clear hmem1 hM2;go_wp2_with fail;have hlt2:=hS2.lt;refine (pickv_calls _ b _ w2.heap.size _ _ #[.int .i64 0,.int .i64 1,.int .i64 3,.int .i64 13,.int .i64 4000] (hS2.alloc _) (Blk.new _ _ _) (by omega) (by omega) rfl (by decide) (by decide) rfl).mono ?_;rintro e w3 ⟨nb,hmem2,rfl,hS3,hM3⟩
     have hv2:nb=0∨nb=1∨nb=3∨nb=13∨nb=4000:=by simpa [intsOf,Go.RowKit.intOf] using hmem2
     have HM3:=hd_ ((HM2.out.trans (Mod.of_pure (pure_alloc w2 (.cells #[.int .i64 0,.int .i64 1,.int .i64 3,.int .i64 13,.int .i64 4000] 3)))).trans hM3);have K3:=hd_ ((K2.out.alloc (.cells #[.int .i64 0,.int .i64 1,.int .i64 3,.int .i64 13,.int .i64 4000] 3)).mod hM3 (by omega))
     have hz3:w2.heap.size≤w3.heap.size:=by have:=hM3.size; rw [World.size_alloc] at this; omega
     clear hmem2 hM3;have h4F:=st4_blk (a:=.int .i64 kd) (b:=.slice none 0 0) (c:=.int .i64 nb) (d:=.slice none 0 0) K3.out;have HMF:Hid (Mod (· = g4) (w3) (((((w3).setCell ⟨g4,0,none⟩ (.int .i64 kd)).setCell ⟨g4,1,none⟩ (.slice none 0 0)).setCell ⟨g4,2,none⟩ (.int .i64 nb)).setCell ⟨g4,3,none⟩ (.slice none 0 0))):=hd_ st4_mod;have HSF:=hd_ ((((hS3.setCell (p:=⟨g4,0,none⟩) (by show b<g4; omega) (.int .i64 kd)).setCell (p:=⟨g4,1,none⟩) (by show b<g4; omega) (.slice none 0 0)).setCell (p:=⟨g4,2,none⟩) (by show b<g4; omega) (.int .i64 nb)).setCell (p:=⟨g4,3,none⟩) (by show b<g4; omega) (.slice none 0 0));have HMM:=hd_ (mod_up HM3.out HMF.out hg4w);have HQS:Hid (QS (((((w3).setCell ⟨g4,0,none⟩ (.int .i64 kd)).setCell ⟨g4,1,none⟩ (.slice none 0 0)).setCell ⟨g4,2,none⟩ (.int .i64 nb)).setCell ⟨g4,3,none⟩ (.slice none 0 0)) (.mk kd none 0 [] nb none 0 [])):=hd_ (.mk Sl.nil_ Sl.nil_ (fun a ha=>by cases ha));have hh4:=K3.out;obtain ⟨y0,y1,y2,y3,yf0,yf1,yf2,yf3⟩:=hh4.c4f;clear hh4;go_wp2_with fail;obtain ⟨x0,x1,x2,x3⟩:=h4F.c4
     try simp only [Exit.inBlock,Exit.then]
     refine bodyPost_ret (v:=.agg #[.int .i64 kd,.slice none 0 0,.int .i64 nb,.slice none 0 0]) (by simp [results,Tryz.results39,go_sem,x0,x1,x2,x3]) rfl ?_;exact ⟨.mk kd none 0 [] nb none 0 [],rfl,HQS.out,.mk (fun h=>absurd rfl h) (fun a ha=>by cases ha),(by rw [QR.key_mk]; exact qb_words (by omega) (by omega) (by simp) (fun x hx=>by cases hx)),(by rw [QR.key_mk,qSize]; simp; omega),HSF.out.more (by first | omega | (have:=HCM.out; omega)),HMM.out,.mk (fun _ _ _ h=>by cases h) (fun a ha=>by cases ha)⟩
    have k11i:(k == 10)=false:=(by simpa using k11);clear k9 k10 k11;have HP1:=hd_ (pattern_calls w1 b _ hS1 (by omega));go_wp2_with fail;refine HP1.out.mono ?_;rintro e w2 ⟨s1,hs1,rfl,hS2,hM2⟩;have HM2:=hd_ (HM1.out.trans hM2);have K2:=hd_ (K1.out.mod hM2 (by omega));have hz2:=hM2.size;have hlt2:=hS2.lt;clear HP1 hM2;have HSB:=hd_ ((Blk.new w2 9 (strsV [s1]).toArray).alloc (.cells #[.int .i64 1,.slice none 0 0,.int .i64 0,.slice none 0 0,.int .i64 11,.slice (some ⟨w2.heap.size,0,none⟩) 1 1,.int .i64 0,.slice none 0 0] 29));have HQB:Hid (Blk ((w2.alloc (.cells #[.string ⟨s1.toArray⟩] 9)).alloc (.cells #[.int .i64 1,.slice none 0 0,.int .i64 0,.slice none 0 0,.int .i64 11,.slice (some ⟨w2.heap.size,0,none⟩) 1 1,.int .i64 0,.slice none 0 0] 29)) (w2.heap.size+1) 29 (qV [.mk 1 none 0 [] 0 none 0 [],.mk 11 (some ⟨w2.heap.size,0,none⟩) 1 [s1] 0 none 0 []]).toArray):=hd_ (Blk.snd w2 (.cells #[.string ⟨s1.toArray⟩] 9) 29 _);have HP2:=hd_ (((Mod.refl (fun _=>False) w2).alloc (.cells #[.string ⟨s1.toArray⟩] 9)).alloc (.cells #[.int .i64 1,.slice none 0 0,.int .i64 0,.slice none 0 0,.int .i64 11,.slice (some ⟨w2.heap.size,0,none⟩) 1 1,.int .i64 0,.slice none 0 0] 29));have HC:=hd_ (pick2_calls ((w2.alloc (.cells #[.string ⟨s1.toArray⟩] 9)).alloc (.cells #[.int .i64 1,.slice none 0 0,.int .i64 0,.slice none 0 0,.int .i64 11,.slice (some ⟨w2.heap.size,0,none⟩) 1 1,.int .i64 0,.slice none 0 0] 29)) b _ (w2.heap.size+1) [.mk 1 none 0 [] 0 none 0 [],.mk 11 (some ⟨w2.heap.size,0,none⟩) 1 [s1] 0 none 0 []] ((hS2.alloc (.cells #[.string ⟨s1.toArray⟩] 9)).alloc (.cells #[.int .i64 1,.slice none 0 0,.int .i64 0,.slice none 0 0,.int .i64 11,.slice (some ⟨w2.heap.size,0,none⟩) 1 1,.int .i64 0,.slice none 0 0] 29)) HQB.out (by omega) (by simp) (by simp));go_wp2_with fail;refine HC.out.mono ?_;rintro e w3 ⟨q1,hq1,rfl,hS3,hM3⟩;have HM3:=hd_ ((HM2.out.trans (Mod.of_pure HP2.out)).trans hM3);have K3:=hd_ (((K2.out.alloc (.cells #[.string ⟨s1.toArray⟩] 9)).alloc (.cells #[.int .i64 1,.slice none 0 0,.int .i64 0,.slice none 0 0,.int .i64 11,.slice (some ⟨w2.heap.size,0,none⟩) 1 1,.int .i64 0,.slice none 0 0] 29)).mod hM3 (by omega));have HS3:Hid (Blk w3 w2.heap.size 9 (strsV [s1]).toArray):=hd_ (HSB.out.mod hM3 (by omega))
    have HQ1:Hid (QS w3 q1∧QFr (g4+1) q1∧QB 100 q1.key∧qSize q1.key=1∧QZ q1):=hd_ (by
     rcases List.mem_cons.1 hq1 with rfl | hq1
     ·exact ⟨.mk Sl.nil_ Sl.nil_ (fun a ha=>by cases ha),.mk (fun h=>absurd rfl h) (fun a ha=>by cases ha),by rw [QR.key_mk]; exact qb_words (by omega) (by omega) (by simp) (fun x hx=>by cases hx),by rw [QR.key_mk,qSize]; simp,.mk (fun _ _ _ h=>by cases h) (fun a ha=>by cases ha)⟩
     ·rw [List.mem_singleton.1 hq1]
      exact ⟨qs_words HS3.out (by simp),.mk (fun h=>absurd rfl h) (fun a ha=>by cases ha),by rw [QR.key_mk]; exact qb_words (by omega) (by omega) (by simp) (fun x hx=>by simp at hx; subst hx; omega),by rw [QR.key_mk,qSize]; simp,.mk (fun _ _ _ h=>by cases h) (fun a ha=>by cases ha)⟩)
    obtain ⟨k1,A1,c1,ws1,n1,B1,d1,xs1,rfl⟩:=q1.ex;rw [qA_mk];clear HC hM3 hq1 HSB HQB HP2 HS3
    have hst:∀ g arr fr,(w3).heap[g]? = some (.cells arr 9 fr)→¬ g=g4:=fun g arr fr hg he=>by
     subst he;have h:=K3.out;unfold Blk at h;rw [hg] at h
     injection h with h
     injection h with _ h
     exact absurd h (by decide)
    have h4F:=st4_blk (a:=.int .i64 k1) (b:=.slice A1 ws1.length c1) (c:=.int .i64 n1) (d:=.slice B1 xs1.length d1) K3.out;have HMF:Hid (Mod (· = g4) (w3) (((((w3).setCell ⟨g4,0,none⟩ (.int .i64 k1)).setCell ⟨g4,1,none⟩ (.slice A1 ws1.length c1)).setCell ⟨g4,2,none⟩ (.int .i64 n1)).setCell ⟨g4,3,none⟩ (.slice B1 xs1.length d1))):=hd_ st4_mod;have HSF:=hd_ ((((hS3.setCell (p:=⟨g4,0,none⟩) (by show b<g4; omega) (.int .i64 k1)).setCell (p:=⟨g4,1,none⟩) (by show b<g4; omega) (.slice A1 ws1.length c1)).setCell (p:=⟨g4,2,none⟩) (by show b<g4; omega) (.int .i64 n1)).setCell (p:=⟨g4,3,none⟩) (by show b<g4; omega) (.slice B1 xs1.length d1));have HMM:=hd_ (mod_up HM3.out HMF.out hg4w);have HQS:Hid (QS (((((w3).setCell ⟨g4,0,none⟩ (.int .i64 k1)).setCell ⟨g4,1,none⟩ (.slice A1 ws1.length c1)).setCell ⟨g4,2,none⟩ (.int .i64 n1)).setCell ⟨g4,3,none⟩ (.slice B1 xs1.length d1)) (.mk k1 A1 c1 ws1 n1 B1 d1 xs1)):=hd_ (HQ1.out.1.modF HQ1.out.2.1 st4_mod hst (fun g hg=>by show ¬ g=g4; omega));have hh4:=K3.out;obtain ⟨y0,y1,y2,y3,yf0,yf1,yf2,yf3⟩:=hh4.c4f;clear hh4;go_wp2_with fail;obtain ⟨x0,x1,x2,x3⟩:=h4F.c4
    try simp only [Exit.inBlock,Exit.then]
    refine bodyPost_ret (v:=.agg #[.int .i64 k1,.slice A1 ws1.length c1,.int .i64 n1,.slice B1 xs1.length d1]) (by simp [results,Tryz.results39,go_sem,x0,x1,x2,x3]) rfl ?_;exact ⟨.mk k1 A1 c1 ws1 n1 B1 d1 xs1,rfl,HQS.out,HQ1.out.2.1.up (by omega),HQ1.out.2.2.1,(by have:=HQ1.out.2.2.2.1; omega),HSF.out.more (by first | omega | (have:=HCM.out; omega)),HMM.out,HQ1.out.2.2.2.2⟩
theorem own_inA {A:Option Addr} {n c:Nat}:∀ i,(Value.slice A n c).ownBlock=some i→i∈aB A:=fun i hi=>by
 cases A with
 | none=>cases hi
 | some a =>
  have:some a.block=some i:=hi
  injection this with this
  simp [aB,this]
theorem modify_comm {α:Type} (h:Array α) {a b:Nat} (hab:a≠b) (f g:α→α):(h.modify a f).modify b g=(h.modify b g).modify a f:=by
 apply Array.ext_getElem?
 intro i;simp only [Array.getElem?_modify]
 by_cases h1:b=i
 ·subst h1;rw [if_pos rfl,if_neg hab,if_neg hab,if_pos rfl]
 ·rw [if_neg h1,if_neg h1]
theorem setCell_commQ (w:World) {p q:Addr} (h:p.block≠q.block) (u v:Value):(w.setCell p u).setCell q v=(w.setCell q v).setCell p u:=by
 unfold World.setCell;simp only [modify_comm w.heap h]
theorem st4_comm (w:World) {g g' o o':Nat} (h:g'≠g) (a b c d v:Value):((((w.setCell ⟨g,o,none⟩ a).setCell ⟨g,o+1,none⟩ b).setCell ⟨g,o+2,none⟩ c).setCell ⟨g,o+3,none⟩ d).setCell ⟨g',o',none⟩ v=((((w.setCell ⟨g',o',none⟩ v).setCell ⟨g,o,none⟩ a).setCell ⟨g,o+1,none⟩ b).setCell ⟨g,o+2,none⟩ c).setCell ⟨g,o+3,none⟩ d:=by
 have hc:∀ (w:World) (i:Nat) (x:Value),(w.setCell ⟨g,i,none⟩ x).setCell ⟨g',o',none⟩ v=(w.setCell ⟨g',o',none⟩ v).setCell ⟨g,i,none⟩ x:=fun w i x=>setCell_commQ w (fun e=>h e.symm) x v;rw [hc,hc,hc,hc]
def SpE (w:World) (b b3 b4 base N M Z:Nat) (wx:World):Prop:=∃ q2,QOk wx base (M+1) q2∧qSize q2.key≤Z+3∧Blk wx b3 29 (qC q2).toArray∧Blk wx b4 29 #[.int .i64 0,.slice none 0 0,.int .i64 0,.slice none 0 0]∧Strm wx b (N+2*Z+60)∧Mod (· = b) w wx
theorem spE_of {w wz:World} {b b3 b4 base N N' M Z e:Nat} (h:∃ q2,QOk wz base (M+1) q2∧qSize q2.key≤Z+e∧Blk wz b3 29 (qC q2).toArray) (he:e≤3) (h4:Blk wz b4 29 #[.int .i64 0,.slice none 0 0,.int .i64 0,.slice none 0 0]) (hS:Strm wz b N') (hN:N'≤N+2*Z+60) (hM:Mod (· = b) w wz):SpE w b b3 b4 base N M Z wz:=by
 obtain ⟨q2,h1,h2,h3⟩:=h;exact ⟨q2,h1,by omega,h3,h4,hS.more hN,hM⟩
theorem own_someS {w:World} {base size n m c:Nat} {e:TypeId} {A:Option Addr} {xs:List Value} (h:w.ownsRow base e size (.slice A m c) n xs) (hn:0<n):∃ g,A=some ⟨g,0,none⟩:=by
 rcases h.2 with ⟨_,h1⟩ | ⟨g',cap,cur,h1,_⟩
 ·omega
 ·injection h1 with h1 _ _
  exact ⟨g',h1⟩
theorem own_at {v:Value} {g n c m:Nat} (h:(Value.slice (some ⟨g,0,none⟩) n c).ownBlock=v.ownBlock∨(Value.slice (some ⟨g,0,none⟩) n c).ownBlock=some m):v.ownBlock=some g∨m≤g:=by
 rcases h with h | h
 ·exact .inl h.symm
 ·have h2:g=m:=Option.some.inj h;exact .inr (by omega)
theorem own_neB {v:Value} {gN g m:Nat} (h:v.ownBlock=some gN∨m≤gN) (h1:∀ i,v.ownBlock=some i→i≠g) (h2:g<m):gN≠g:=by
 rcases h with h | h
 ·exact h1 _ h
 ·omega
theorem own_lastC {w:World} {base n c g:Nat} {xs:List QR} {k m:Int} {A C:Option Addr} {a e:Nat} {ws:List Str} {bs:List QR} (h:w.ownsRow base 29 4 (.slice (some ⟨g,0,none⟩) n c) n (qV (xs ++ [.mk k A a ws m C e bs]))):w.cell? ⟨g,xs.length*4,none⟩=some (.int .i64 k)∧w.cell? ⟨g,xs.length*4+1,none⟩=some (.slice A ws.length a)∧w.cell? ⟨g,xs.length*4+2,none⟩=some (.int .i64 m)∧w.cell? ⟨g,xs.length*4+3,none⟩=some (.slice C bs.length e):=by
 obtain ⟨g',off,hA,q0,q1,q2,q3⟩:=qcells (Sl.of_own h) (i:=xs.length) (by simp) (show (xs ++ [QR.mk k A a ws m C e bs])[xs.length] = .mk k A a ws m C e bs by simp)
 injection hA with hA
 injection hA with h1 h2
 subst h1 h2;simp only [Nat.zero_add] at q0 q1 q2 q3;exact ⟨q0,q1,q2,q3⟩
theorem spoil_calls (w:World) (b N M Z:Nat) (qr:QR) (hS:Strm w b N) (hN:N+2*Z≤700000000) (hQ:QS w qr) (hZq:QZ qr) (hB:QB M qr.key) (hM0:100≤M) (hM1:M≤900) (hz:qSize qr.key≤Z):Calls Tryz.prog 41 #[.pointer (some ⟨b,0,none⟩),qA qr] w (SpP w b (N+2*Z+60) (M+1) (Z+3)):=by
 obtain ⟨k0,A0,c0,ws0,n0,B0,d0,xs0⟩:=qr;have hb1:=(Blk.new w 29 #[.int .i64 k0,.slice A0 ws0.length c0,.int .i64 n0,.slice B0 xs0.length d0]).alloc (.cells #[.int .i64 0,.slice none 0 0,.int .i64 0,.slice none 0 0] 29);have hb2:=Blk.snd w (.cells #[.int .i64 k0,.slice A0 ws0.length c0,.int .i64 n0,.slice B0 xs0.length d0] 29) 29 #[.int .i64 0,.slice none 0 0,.int .i64 0,.slice none 0 0];have HM:Hid (Pure w ((w.alloc (.cells #[.int .i64 k0,.slice A0 ws0.length c0,.int .i64 n0,.slice B0 xs0.length d0] 29)).alloc (.cells #[.int .i64 0,.slice none 0 0,.int .i64 0,.slice none 0 0] 29))):=hd_ (((Mod.refl _ _).alloc _).alloc _);have HB3:=hd_ hb1;have HB4:=hd_ hb2;have hbu:w.heap.size+1≤w.heap.size+1:=Nat.le_refl _;have HCP:=hd_ (fun W (h:Pure w W)=>copyQ_calls (.mk k0 A0 c0 ws0 n0 B0 d0 xs0) W (hQ.pure h) hZq (hB.mono (by omega)));have HKB:=hd_ hB;have hbw:=hS.lt;have HS:=hd_ hS;rw [qA_mk] at HCP;clear hb1 hb2 hQ hZq hB hS;rw [qA_mk]
 go_enter Tryz.func41,Tryz.ntmps41
 go_upto_region 1 with (fail);generalize ((w.alloc (.cells #[.int .i64 k0,.slice A0 ws0.length c0,.int .i64 n0,.slice B0 xs0.length d0] 29)).alloc (.cells #[.int .i64 0,.slice none 0 0,.int .i64 0,.slice none 0 0] 29))=w2 at *;obtain ⟨b3,hb1⟩:∃ b,w.heap.size=b:=⟨_,rfl⟩;rw [hb1] at HB3 HB4;simp only [hb1];have hbl3:w.heap.size≤b3:=(by omega);have hbr3:b3≤w.heap.size:=(by omega);obtain ⟨b4,hb2⟩:∃ b,b3+1=b:=⟨_,rfl⟩;rw [hb2] at HB4;simp only [hb2];have hbl4:w.heap.size≤b4:=(by omega);have hb34:b3<b4:=(by omega);clear hb1 hb2 hbu;have h1:=HB3.out;have hlt2:=HB4.out.lt;obtain ⟨u0,u1,u2,u3,uf0,uf1,uf2,uf3⟩:=h1.c4f;clear h1;go_wp2_with fail;refine (HCP.out _ HM.out).mono ?_;rintro e w3 ⟨⟨k3,A3,c3,ws3,n3,B3,d3,xs3⟩,rfl,hk3,hC3,hD3,hm3⟩;simp only [qA_mk];have hb33:=HB3.out.modp hm3;have hs23:=hm3.size;have hge3:=hC3.ge;have h4F:=st4_blk (a:=.int .i64 k3) (b:=.slice A3 ws3.length c3) (c:=.int .i64 n3) (d:=.slice B3 xs3.length d3) hb33;have hmF:Mod (· = b3) w3 ((((w3.setCell ⟨b3,0,none⟩ (.int .i64 k3)).setCell ⟨b3,1,none⟩ (.slice A3 ws3.length c3)).setCell ⟨b3,2,none⟩ (.int .i64 n3)).setCell ⟨b3,3,none⟩ (.slice B3 xs3.length d3)):=st4_mod;have HI4:Hid (SpI b3 b3 w2.heap.size M Z ((((w3.setCell ⟨b3,0,none⟩ (.int .i64 k3)).setCell ⟨b3,1,none⟩ (.slice A3 ws3.length c3)).setCell ⟨b3,2,none⟩ (.int .i64 n3)).setCell ⟨b3,3,none⟩ (.slice B3 xs3.length d3)) b3 0 (QR.mk k3 A3 c3 ws3 n3 B3 d3 xs3)):=hd_ (spI_root h4F (Nat.le_refl _) (by omega) (hC3.mod hmF (fun i hi e=>by have:=(hge3 i hi).1; omega)) (fun hi=>by have:=(hge3 _ hi).1; omega) hD3 (by rw [hk3]; exact HKB.out) (by rw [hk3]; exact hz));have HB44:=hd_ ((HB4.out.modp hm3).mod hmF (by omega));have HS4:=hd_ ((HS.out.pure (HM.out.trans hm3)).mod hmF (fun i hi e=>by omega));have HM4:Hid (Mod (· = b) w ((((w3.setCell ⟨b3,0,none⟩ (.int .i64 k3)).setCell ⟨b3,1,none⟩ (.slice A3 ws3.length c3)).setCell ⟨b3,2,none⟩ (.int .i64 n3)).setCell ⟨b3,3,none⟩ (.slice B3 xs3.length d3))):=hd_ ((Mod.of_pure (HM.out.trans hm3)).trans' hmF (fun i hi hlt=>by omega));have HSZ4:Hid (w2.heap.size≤((((w3.setCell ⟨b3,0,none⟩ (.int .i64 k3)).setCell ⟨b3,1,none⟩ (.slice A3 ws3.length c3)).setCell ⟨b3,2,none⟩ (.int .i64 n3)).setCell ⟨b3,3,none⟩ (.slice B3 xs3.length d3)).heap.size∧qSize (QR.mk k3 A3 c3 ws3 n3 B3 d3 xs3).key≤Z):=hd_ ⟨by have:=hmF.size; omega,by rw [hk3]; exact hz⟩;obtain ⟨v0,v1,v2,v3,vf0,vf1,vf2,vf3⟩:=hb33.c4f;go_upto_region 2 with (fail);generalize ((((w3.setCell ⟨b3,0,none⟩ (.int .i64 k3)).setCell ⟨b3,1,none⟩ (.slice A3 ws3.length c3)).setCell ⟨b3,2,none⟩ (.int .i64 n3)).setCell ⟨b3,3,none⟩ (.slice B3 xs3.length d3))=w4 at *;obtain ⟨base,hbase⟩:∃ base,w2.heap.size=base:=⟨_,rfl⟩;rw [hbase] at HI4 HSZ4 hlt2;obtain ⟨hbs4,hsz4⟩:=HSZ4.out;clear hbase h4F hmF hb33 hC3 hD3 hm3 hk3 hs23 hge3 HCP HM HB3 HB4 HS HKB HSZ4 u0 u1 u2 u3 uf0 uf1 uf2 uf3 v0 v1 v2 v3 vf0 vf1 vf2 vf3;have hlt4:b4<base:=hlt2;go_wp2_with fail
 go_loopg [5] (qSize (QR.mk k3 A3 c3 ws3 n3 B3 d3 xs3).key) (fun gk p wr=>∃ (g o:Nat) (q:QR),qSize q.key=gk∧gk≤Z∧p = .pointer (some ⟨g,o,none⟩)∧SpI b3 b3 base M Z wr g o q∧Blk wr b4 29 #[.int .i64 0,.slice none 0 0,.int .i64 0,.slice none 0 0]∧Strm wr b (N+2*(Z - gk))∧Mod (· = b) w wr∧(g=b3∨base≤g)∧base≤wr.heap.size)
 case atStart=>exact ⟨b3,0,QR.mk k3 A3 c3 ws3 n3 B3 d3 xs3,rfl,hsz4,rfl,HI4.out,HB44.out,HS4.out.more (by omega),HM4.out,.inl rfl,hbs4⟩
 case round =>
  clear HI4 HB44 HS4 HM4;obtain ⟨g,o,⟨k,A,c,ws,n,B,d,xs⟩,rfl,hgk,rfl,hI,hB4,hS,hM,hgd,hbsr⟩:=hrel;obtain ⟨gs,hgs⟩:∃ gs,qSize (QR.mk k A c ws n B d xs).key=gs:=⟨_,rfl⟩;have HGS:=hd_ hgs;rw [hgs] at hgk hS
  try simp only [hgs]
  clear hgs;obtain ⟨q3,_⟩:=hI.cells (j:=3) rfl;have HI:=hd_ hI;have HB4:=hd_ hB4;have HS:=hd_ hS;have HM:=hd_ hM
  have hgb:b<g:=by obtain ⟨_,_,_,_,h,_⟩:=hI.blk; omega
  have hbr:=hS.lt;have HF:=hd_ (flip_calls wr b _ 3 hS (by omega) (by omega) (by omega));clear hI hB4 hS hM;go_upto_region 3 with (fail)
  go_cut [18] from 8 to 17 (fun p wx=>SpC b3 base M Z w b b4 (N+2*(Z - gs)+1) g o (.mk k A c ws n B d xs) xs p wx)
  case first =>
   by_cases hx:xs=[]
   ·subst hx;go_wp2_with fail;go_meet;exact ⟨false,by first | rfl | simp,fun h=>(by cases h),HI.out,HB4.out,HS.out.more (by omega),HM.out,hbsr⟩
   ·have hl1:(0:Int)<(xs.length:Int):=by have:=List.length_pos_iff.2 hx; omega
    go_wp2_with fail;refine HF.out.mono ?_;rintro e w5 ⟨f,rfl,hS5,hM5⟩;have HI5:=hd_ (HI.out.mod hM5 (fun i hi=>by omega));have HB5:=hd_ (HB4.out.modb hM5 (by omega));have HM5:=hd_ (HM.out.trans hM5);have HS5:=hd_ hS5;have HX:=hd_ hx;have hbs5:=Nat.le_trans hbsr hM5.size;clear hM5 HI HB4 HM HF HS hx;go_wp2_with fail;go_meet;exact ⟨!f,by first | rfl | simp,fun _=>HX.out,HI5.out,HB5.out,HS5.out,HM5.out,hbs5⟩
  case rest =>
   clear HI HB4 HS HM HF q3;obtain ⟨f,rfl,hfx,hI,hB4,hS,hM,hbsc⟩:=hcut;have HI:=hd_ hI;have HB4:=hd_ hB4;have HM:=hd_ hM
   cases f with
   | true =>
    have hl1:0<xs.length:=List.length_pos_iff.2 (hfx rfl);have hl2:(0:Int)<(xs.length:Int):=(by omega);obtain ⟨gB,rfl,_⟩:=hI.down 0 hl1
    have hgB:base≤gB:=by
     obtain ⟨_,_,_,_,_,_,h,_⟩:=hI.blk
     cases h with
     | mk hA hB hs=>exact (own_aB hB (i:=gB) (by simp [aB])).1
    obtain ⟨q3,_⟩:=hI.cells (j:=3) rfl
    have hxl:xs.length≤1000:=by
     obtain ⟨_,_,_,_,_,_,_,_,h⟩:=hI.blk;rw [QR.key_mk] at h;have:=h.xsH;simp at this
     omega
    have HNX:=hd_ (fun W (hp:Pure wc W)=>next_calls W b _ (xs.length:Int) (hS.pure hp) (by omega) (by omega) (by omega));have HS:=hd_ hS;clear hI hB4 hS hM hfx;go_upto_region 4 with (fail)
    go_region_with (go_at_call 24; (refine (HNX.out _ (by (repeat' (first | with_reducible assumption | with_reducible exact Mod.refl _ _ | with_reducible refine Mod.alloc ?_ _ | with_reducible refine Mod.drew ?_ | with_reducible refine Mod.drewN ?_ _ | ((with_reducible apply Mod.q_set); (dsimp only); omega) | ((with_reducible apply Mod.q_trans); (with_reducible assumption)) | ((with_reducible apply Mod.q_transp); (with_reducible assumption)))))).mono ?_); rintro e w5 ⟨kk,hk0,hk1,rfl,hS5,hM5'⟩; have hM5:Mod (· = b) wc w5:=Mod.trans (by (repeat' (first | with_reducible assumption | with_reducible exact Mod.refl _ _ | with_reducible refine Mod.alloc ?_ _ | with_reducible refine Mod.drew ?_ | with_reducible refine Mod.drewN ?_ _ | ((with_reducible apply Mod.q_set); (dsimp only); omega) | ((with_reducible apply Mod.q_trans); (with_reducible assumption)) | ((with_reducible apply Mod.q_transp); (with_reducible assumption))))) hM5'; have hI5:=HI.out.mod hM5 (fun i hi=>by omega); obtain ⟨c3,_⟩:=hI5.cells (j:=3) rfl; obtain ⟨i,rfl⟩:∃ i:Nat,kk=(i:Int):=⟨kk.toNat,by omega⟩; have hi:i<xs.length:=by omega)
    all_goals
     obtain ⟨gB',e,hI6⟩:=hI5.down i hi;obtain rfl:gB=gB':=congrArg Addr.block (Option.some.inj e);have HI6:=hd_ hI6;have HB6:=hd_ (HB4.out.modb hM5 (by omega));have HM6:=hd_ (HM.out.trans hM5);have hch:=qsize_child (k:=k) (n:=n) (A:=A) (B:=some ⟨gB,0,none⟩) (c:=c) (d:=d) (ws:=ws) hi;rw [HGS.out] at hch;have hbs6:=Nat.le_trans hbsc hM5.size;have HS6:=hd_ (hS5.more (M:=N+2*(Z - qSize xs[i].key)) (by omega));clear hI5 hI6 hM5 hM5' hS5 HNX HS HI HB4 HM q3 c3;go_wp2_with fail
     go_roundg (qSize xs[i].key)
     case measure=>have:=HGS.out; omega
     case rel=>exact ⟨gB,i*4,xs[i],rfl,by omega,by simp,HI6.out,HB6.out,HS6.out,HM6.out,.inr hgB,hbs6⟩
   | false =>
    clear hfx hI hB4 hM;have hS0:Strm wc b (N+2*Z+1):=hS.more (by omega);clear hS;go_wp2_with fail;refine (next_calls wc b _ 5 hS0 (by omega) (by omega) (by omega)).mono ?_;rintro e w5 ⟨kz,hkz0,hkz1,rfl,hS5,hM5⟩;have HI5:=hd_ (HI.out.mod hM5 (fun i hi=>by omega));have HB45:=hd_ (HB4.out.modb hM5 (by omega));have HM5:=hd_ (HM.out.trans hM5);have hbs5:=Nat.le_trans hbsc hM5.size;clear hM5 HI HB4 HM hS0
    go_upto_block 2 with (fail)
    go_cut [] (fun wx=>SpE w b b3 b4 base N M Z wx)
    case rest =>
     obtain ⟨⟨k2,A2,c2,ws2,n2,B2,d2,xs2⟩,hok,hsz2,hblk,hb4z,hSz,hMz⟩:=hcut;have hb3z:Blk wc b3 29 #[.int .i64 k2,.slice A2 ws2.length c2,.int .i64 n2,.slice B2 xs2.length d2]:=hblk;have HFIN:=hd_ (SpP.fin hok hb4z hlt4 hbl4 (by omega) hSz (N:=N+2*Z+60) (Nat.le_refl _) hMz (Z:=Z+3) hsz2);have h4F:=st4_blk (a:=.int .i64 k2) (b:=.slice A2 ws2.length c2) (c:=.int .i64 n2) (d:=.slice B2 xs2.length d2) hb4z;obtain ⟨x0,x1,x2,x3⟩:=hb3z.c4;obtain ⟨y0,y1,y2,y3,yf0,yf1,yf2,yf3⟩:=hb4z.c4f;clear hb3z hb4z hblk hok hSz hMz;go_wp2_with fail;obtain ⟨z0,z1,z2,z3⟩:=h4F.c4
     try simp only [Exit.inBlock,Exit.then]
     refine bodyPost_ret (v:=.agg #[.int .i64 k2,.slice A2 ws2.length c2,.int .i64 n2,.slice B2 xs2.length d2]) (by simp [results,Tryz.results41,go_sem,z0,z1,z2,z3]) rfl ?_;exact HFIN.out
    by_cases kzz:kz=0
    ·subst kzz;go_wp2_with fail;refine (odd_calls w5 b _ 1 13 hS5 (by omega) (by omega) (by omega) (by omega)).mono ?_;rintro e w6 ⟨kd,hkd0,hkd1,rfl,hS6,hM6⟩;have hI6:=HI5.out.mod hM6 (fun i hi=>by omega);have hm6:=HM5.out.trans hM6;have hb46:=HB45.out.modb hM6 (by omega);obtain ⟨c0,f0⟩:=hI6.cells (j:=0) rfl;simp only [Nat.add_zero] at c0 f0;obtain ⟨_,_,_,_,hlg,hgq,hQC,hQD,hMq⟩:=hI6.blk;have hn:=hMq;rw [QR.key_mk] at hn;have HE:Hid (SpE w b b3 b4 base N M Z (w6.setCell ⟨g,o,none⟩ (.int .i64 kd))):=hd_ (spE_of (hI6.put1 (e:=0) (Mod.refl (fun _=>False) w6) (fun k hk=>False.elim hk) 0 (by omega) (.int .i64 kd) (q':=.mk kd A c ws n B d xs) rfl (hQC.num hMq hM0 (mod_set (Mod.refl (· = g) w6) o (.int .i64 kd)) (fun i hi e=>hgq (e ▸ hi)) (by omega) ⟨hn.knH.2.2.1,hn.knH.2.2.2⟩) (by rw [QR.key_mk,QR.key_mk,qSize,qSize]; exact Nat.le_refl _)) (by omega) (hb46.mod (mod_set (Mod.refl (· = g) w6) o (.int .i64 kd)) (by omega)) (hS6.setCell (p:=⟨g,o,none⟩) (by show b<g; omega) (.int .i64 kd)) (by omega) (hm6.setCell (p:=⟨g,o,none⟩) (.inr (by show w.heap.size≤g; omega)) (.int .i64 kd)));go_wp2_with fail;go_meet
     first
      | exact HE.out
      | (rw [← st4_comm _ hne2]; exact HE.out)
    have kz0:(kz == 0)=false:=(by simpa using kzz)
    by_cases kz1:kz=1
    ·subst kz1;go_wp2_with fail;refine (pickv_calls _ b _ w5.heap.size _ _ #[.int .i64 0,.int .i64 1,.int .i64 5,.int .i64 20,.int .i64 21,.int .i64 (-1),.int .i64 4000,.int .i64 4001] (hS5.alloc _) (Blk.new _ _ _) (by omega) (by omega) rfl (by decide) (by decide) rfl).mono ?_;rintro e w6 ⟨nd,hmem,rfl,hS6,hM6⟩
     have hnd : -1≤nd∧nd≤4001:=by
      have h:nd=0∨nd=1∨nd=5∨nd=20∨nd=21∨nd = -1∨nd=4000∨nd=4001:=by simpa [intsOf,Go.RowKit.intOf] using hmem
      omega
     clear hmem;have hpa5:=pure_alloc w5 (.cells #[.int .i64 0,.int .i64 1,.int .i64 5,.int .i64 20,.int .i64 21,.int .i64 (-1),.int .i64 4000,.int .i64 4001] 3);have hs5a:=hpa5.size;have hI6:=(HI5.out.mod hpa5 (fun i hi=>False.elim hi)).mod hM6 (fun i hi=>by omega);have hm6:=(HM5.out.trans (Mod.of_pure hpa5)).trans hM6;have hb46:=(HB45.out.modp hpa5).modb hM6 (by omega);obtain ⟨c0,f0⟩:=hI6.cells (j:=2) rfl;obtain ⟨_,_,_,_,hlg,hgq,hQC,hQD,hMq⟩:=hI6.blk;have hn:=hMq;rw [QR.key_mk] at hn;have HE:Hid (SpE w b b3 b4 base N M Z (w6.setCell ⟨g,o+2,none⟩ (.int .i64 nd))):=hd_ (spE_of (hI6.put1 (e:=0) (Mod.refl (fun _=>False) w6) (fun k hk=>False.elim hk) 2 (by omega) (.int .i64 nd) (q':=.mk k A c ws nd B d xs) rfl (hQC.num hMq hM0 (mod_set (Mod.refl (· = g) w6) (o+2) (.int .i64 nd)) (fun i hi e=>hgq (e ▸ hi)) ⟨hn.knH.1,hn.knH.2.1⟩ (by omega)) (by rw [QR.key_mk,QR.key_mk,qSize,qSize]; exact Nat.le_refl _)) (by omega) (hb46.mod (mod_set (Mod.refl (· = g) w6) (o+2) (.int .i64 nd)) (by omega)) (hS6.setCell (p:=⟨g,o+2,none⟩) (by show b<g; omega) (.int .i64 nd)) (by omega) (hm6.setCell (p:=⟨g,o+2,none⟩) (.inr (by show w.heap.size≤g; omega)) (.int .i64 nd)));go_wp2_with fail;go_meet
     first
      | exact HE.out
      | (rw [← st4_comm _ hne2]; exact HE.out)
    have kz1i:(kz == 1)=false:=(by simpa using kz1)
    by_cases kz2:kz=2
    ·subst kz2;have HPT:=hd_ (fun W (hp:Pure w5 W)=>pattern_calls W b _ (hS5.pure hp) (by omega));obtain ⟨c0,f0⟩:=HI5.out.cells (j:=1) rfl;obtain ⟨_,_,_,_,hlg0,hgq0,hQC0,hQD0,hMq0⟩:=HI5.out.blk
     have hwl:ws.length≤1000:=by
      have h:=hMq0;rw [QR.key_mk] at h;have:=h.wsH.1
      omega
     go_upto_region 12 with (fail)
     go_region_law (first
      | (refine step_callQ rfl 102 _ _ rfl (by kernel_rfl) _ (by simp [Act.eval,Act.put]; done) (HPT.out _ (by (repeat' (first | with_reducible assumption | with_reducible exact Mod.refl _ _ | with_reducible refine Mod.alloc ?_ _ | with_reducible refine Mod.drew ?_ | with_reducible refine Mod.drewN ?_ _ | ((with_reducible apply Mod.q_set); (dsimp only); omega) | ((with_reducible apply Mod.q_trans); (with_reducible assumption)) | ((with_reducible apply Mod.q_transp); (with_reducible assumption)))))) ?_; rintro e w6 ⟨s6,hs6,rfl,hS6,hM6'⟩; refine ⟨_,rfl,?_⟩; have hM6:Mod (· = b) w5 w6:=Mod.trans (by (repeat' (first | with_reducible assumption | with_reducible exact Mod.refl _ _ | with_reducible refine Mod.alloc ?_ _ | with_reducible refine Mod.drew ?_ | with_reducible refine Mod.drewN ?_ _ | ((with_reducible apply Mod.q_set); (dsimp only); omega) | ((with_reducible apply Mod.q_trans); (with_reducible assumption)) | ((with_reducible apply Mod.q_transp); (with_reducible assumption))))) hM6'; have hI6:=HI5.out.mod hM6 (fun i hi=>by omega); have hpa6:=pure_alloc w6 (.cells #[.string ⟨s6.toArray⟩] 9); have hI6a:=hI6.mod hpa6 (fun i hi=>False.elim hi); obtain ⟨_,_,_,_,hlg,hgq,hQC,hQD,hMq⟩:=hI6a.blk; obtain ⟨c1,f1⟩:=hI6.cells (j:=1) rfl; obtain ⟨c2,f2⟩:=hI6a.cells (j:=1) rfl; have hwo:(w6.alloc (.cells #[.string ⟨s6.toArray⟩] 9)).ownsRow base 9 1 (.slice A ws.length c) ws.length (strsV ws):=(by cases hQC; assumption); have hbs:base≤(w6.alloc (.cells #[.string ⟨s6.toArray⟩] 9)).heap.size:=Nat.le_trans hbs5 (Nat.le_trans hM6.size hpa6.size); obtain ⟨A7,c7,w7,hr7,hown7,hgrow7,hat7⟩:=run_appS (w6.alloc (.cells #[.string ⟨s6.toArray⟩] 9)) 26 base ws.length w6.heap.size (.slice A ws.length c) ws s6 hwo (Blk.new _ _ _) hbs (by omega); have hm7:=mod_grown hgrow7; have hown:=own_inA (A:=A) (n:=ws.length) (c:=c); obtain ⟨c3,f3⟩:=hI6a.cells1 hm7 (fun i hi => .inl (qBl_mk.2 (.inl (hown i hi)))) (j:=1) rfl)
      | (refine step_append_I rfl (.tmp 66) (.tmp 69) 26 rfl _ _ _ _ (by simp [Act.eval,Act.put]; done) (by simp [Act.eval,Act.put]; done) hr7 ?_))
     all_goals
      have hs6':s6.length≤100:=(by omega);obtain ⟨_,_,hBg7,_,_⟩:=hI6a.at hm7 (fun i hi => .inl (qBl_mk.2 (.inl (hown i hi))));have hgA7:g ∉ aB A7:=fun hi=>absurd (own_tyB hown7 hi hBg7) (by decide);have hol:=hwo.lt;have hb46:=((HB45.out.modb hM6 (by omega)).modp hpa6).mod hm7 (fun hv=>by have:=hol _ hv; omega);have hS7:=(hS6.pure hpa6).mod hm7 (fun i hi hv=>by have:=hol _ hv; omega);have hM7:=(((HM5.out.trans hM6).trans (Mod.of_pure hpa6)).trans' hm7 (fun i hi hlt=>by have:=hol i hi; omega));have HE:Hid (SpE w b b3 b4 base N M Z (w7.setCell ⟨g,o+1,none⟩ (.slice A7 (ws.length+1) c7))):=hd_ (spE_of (hI6a.put1 (e:=0) hm7 (fun i hi => .inl (qBl_mk.2 (.inl (hown i hi)))) 1 (by omega) (.slice A7 (ws.length+1) c7) (q':=.mk k A7 c7 (ws ++ [s6]) n B d xs) (by simp [qC]) (hQC.word hQD hMq hM0 hs6' hm7 hown7 (mod_set (Mod.refl (· = g) w7) (o+1) (.slice A7 (ws.length+1) c7)) hgq hgA7) (by rw [QR.key_mk,QR.key_mk,qSize,qSize]; exact Nat.le_refl _)) (by omega) (hb46.mod (mod_set (Mod.refl (· = g) w7) (o+1) (.slice A7 (ws.length+1) c7)) (by omega)) (hS7.setCell (p:=⟨g,o+1,none⟩) (by show b<g; omega) (.slice A7 (ws.length+1) c7)) (by omega) (hM7.setCell (p:=⟨g,o+1,none⟩) (.inr (by show w.heap.size≤g; omega)) (.slice A7 (ws.length+1) c7)));go_wp2_with fail;go_meet
      first
       | exact HE.out
       | (rw [← st4_comm _ hne2]; exact HE.out)
    have kz2i:(kz == 2)=false:=(by simpa using kz2)
    by_cases kz3:kz=3
    ·subst kz3;have HBW:=hd_ (fun W (hp:Pure w5 W)=>byWordsG_calls b 0 W _ 0 rfl (by omega) (hS5.pure hp) (by omega));obtain ⟨c0,f0⟩:=HI5.out.cells (j:=3) rfl;obtain ⟨_,hBg5,_,_,hlg0,hgq0,hQC0,hQD0,hMq0⟩:=HI5.out.blk;have hgl5:=hBg5.lt
     have hwo5:w5.ownsRow base 29 4 (.slice B xs.length d) xs.length (qV xs):=by cases hQC0; assumption
     have hol5:=hwo5.lt
     have hwl:xs.length≤1000:=by
      have h:=hMq0;rw [QR.key_mk] at h;have:=h.xsH;simp at this
      omega
     have hx1:(xs.length:Int)<((xs.length+1:Nat):Int):=(by omega);have hx2:(xs.length:Int)<(xs.length:Int)+1:=(by omega);have hx3:xs.length<xs.length+1:=(by omega);have hx4:(0:Int)≤(xs.length:Int):=(by omega);have hcB:cB 0=5:=rfl;have hsB:sB 0=1:=rfl;go_upto_region 14 with (fail);have c0a:=cell_alloc c0 (.cells #[.int .i64 0,.slice none 0 0,.int .i64 0,.slice none 0 0] 29);have hCA:=hd_ (HBW.out ((w5.alloc (.cells #[.int .i64 0,.slice none 0 0,.int .i64 0,.slice none 0 0] 29)).drew) (by (repeat' (first | with_reducible assumption | with_reducible exact Mod.refl _ _ | with_reducible refine Mod.alloc ?_ _ | with_reducible refine Mod.drew ?_ | with_reducible refine Mod.drewN ?_ _ | ((with_reducible apply Mod.q_set); (dsimp only); omega) | ((with_reducible apply Mod.q_trans); (with_reducible assumption)) | ((with_reducible apply Mod.q_transp); (with_reducible assumption))))));have hCB:=hd_ (HBW.out w5.drew (by (repeat' (first | with_reducible assumption | with_reducible exact Mod.refl _ _ | with_reducible refine Mod.alloc ?_ _ | with_reducible refine Mod.drew ?_ | with_reducible refine Mod.drewN ?_ _ | ((with_reducible apply Mod.q_set); (dsimp only); omega) | ((with_reducible apply Mod.q_trans); (with_reducible assumption)) | ((with_reducible apply Mod.q_transp); (with_reducible assumption))))))
     go_region_law (first
      | (refine step_callQ rfl 100 _ _ rfl (by kernel_rfl) #[.pointer (some ⟨b,0,none⟩),.int .i64 0] (by simp [Act.eval,Act.put]; done) (by with_reducible exact hCA.out) ?_; rintro e w6 ⟨⟨k6,A6,c6,ws6,n6,B6,d6,xs6⟩,rfl,hq6,hf6,hb6,hsz6,hS6,hM6',hz6⟩; rw [qA_mk]; refine ⟨_,rfl,?_⟩; have hM6:Mod (· = b) w5 w6:=Mod.trans (by (repeat' (first | with_reducible assumption | with_reducible exact Mod.refl _ _ | with_reducible refine Mod.alloc ?_ _ | with_reducible refine Mod.drew ?_ | with_reducible refine Mod.drewN ?_ _ | ((with_reducible apply Mod.q_set); (dsimp only); omega) | ((with_reducible apply Mod.q_trans); (with_reducible assumption)) | ((with_reducible apply Mod.q_transp); (with_reducible assumption))))) hM6'; have hI6:=HI5.out.mod hM6 (fun i hi=>by omega); have hpa6:Pure w6 (w6):=Mod.refl _ _; have hI6a:=hI6.mod hpa6 (fun i hi=>False.elim hi); obtain ⟨_,_,_,_,hlg,hgq,hQC,hQD,hMq⟩:=hI6a.blk; obtain ⟨c1,f1⟩:=hI6.cells (j:=3) rfl; obtain ⟨c2,f2⟩:=hI6a.cells (j:=3) rfl; have hwo:(w6).ownsRow base 29 4 (.slice B xs.length d) xs.length (qV xs):=(by cases hQC; assumption); have hs56:=hM6.size; have hs6a:=hpa6.size; have hbs:base≤(w6).heap.size:=Nat.le_trans hbs5 (Nat.le_trans hs56 hs6a); obtain ⟨A7,c7,w7,hr7,hown7,hgrow7,hat7⟩:=run_app4 (w6) 27 base xs.length (w5.heap.size) (.slice B xs.length d) xs (.mk 0 none 0 [] 0 none 0 []) hwo ((show Blk ((w5.alloc (.cells #[.int .i64 0,.slice none 0 0,.int .i64 0,.slice none 0 0] 29)).drew) w5.heap.size 29 #[.int .i64 0,.slice none 0 0,.int .i64 0,.slice none 0 0] from Blk.new w5 29 #[.int .i64 0,.slice none 0 0,.int .i64 0,.slice none 0 0]).modb hM6' (by omega)) hbs (by omega); obtain ⟨gN,rfl⟩:=own_someS hown7 (by omega); have hm7:=mod_grown hgrow7; have hown:=own_inA (A:=B) (n:=xs.length) (c:=d); obtain ⟨c3,f3⟩:=hI6a.cells1 hm7 (fun i hi => .inl (qBl_mk.2 (.inr (.inl (hown i hi))))) (j:=3) rfl; have hat:(Value.slice B xs.length d).ownBlock=some gN∨(w6).heap.size≤gN:=own_at hat7; have hne:gN≠g:=own_neB hat (fun i hi e=>hgq (qBl_mk.2 (.inr (.inl (e ▸ hown i hi))))) (by omega); have hne2:g≠gN:=(fun e=>hne e.symm); obtain ⟨r0,r1,r2,r3⟩:=own_lastC hown7; have fr0:=hown7.frozenAt (xs.length*4); have fr1:=hown7.frozenAt (xs.length*4+1); have fr2:=hown7.frozenAt (xs.length*4+2); have fr3:=hown7.frozenAt (xs.length*4+3); have hmS:=st4_modo (w:=w7) (g:=gN) (o:=xs.length*4) (a:=.int .i64 k6) (b:=.slice A6 ws6.length c6) (c:=.int .i64 n6) (d:=.slice B6 xs6.length d6); have c4:=hmS.keep c3 hne2; have f4:=hmS.keepf c3 f3 hne2)
      | (refine step_callQ rfl 100 _ _ rfl (by kernel_rfl) #[.pointer (some ⟨b,0,none⟩),.int .i64 0] (by simp [Act.eval,Act.put]; done) (by with_reducible exact hCB.out) ?_; rintro e w6 ⟨⟨k6,A6,c6,ws6,n6,B6,d6,xs6⟩,rfl,hq6,hf6,hb6,hsz6,hS6,hM6',hz6⟩; rw [qA_mk]; refine ⟨_,rfl,?_⟩; have hM6:Mod (· = b) w5 w6:=Mod.trans (by (repeat' (first | with_reducible assumption | with_reducible exact Mod.refl _ _ | with_reducible refine Mod.alloc ?_ _ | with_reducible refine Mod.drew ?_ | with_reducible refine Mod.drewN ?_ _ | ((with_reducible apply Mod.q_set); (dsimp only); omega) | ((with_reducible apply Mod.q_trans); (with_reducible assumption)) | ((with_reducible apply Mod.q_transp); (with_reducible assumption))))) hM6'; have hI6:=HI5.out.mod hM6 (fun i hi=>by omega); have hpa6:Pure w6 (w6.alloc (.cells #[.int .i64 0,.slice none 0 0,.int .i64 0,.slice none 0 0] 29)):=pure_alloc _ _; have hI6a:=hI6.mod hpa6 (fun i hi=>False.elim hi); obtain ⟨_,_,_,_,hlg,hgq,hQC,hQD,hMq⟩:=hI6a.blk; obtain ⟨c1,f1⟩:=hI6.cells (j:=3) rfl; obtain ⟨c2,f2⟩:=hI6a.cells (j:=3) rfl; have hwo:(w6.alloc (.cells #[.int .i64 0,.slice none 0 0,.int .i64 0,.slice none 0 0] 29)).ownsRow base 29 4 (.slice B xs.length d) xs.length (qV xs):=(by cases hQC; assumption); have hs56:=hM6.size; have hs6a:=hpa6.size; have hbs:base≤(w6.alloc (.cells #[.int .i64 0,.slice none 0 0,.int .i64 0,.slice none 0 0] 29)).heap.size:=Nat.le_trans hbs5 (Nat.le_trans hs56 hs6a); obtain ⟨A7,c7,w7,hr7,hown7,hgrow7,hat7⟩:=run_app4 (w6.alloc (.cells #[.int .i64 0,.slice none 0 0,.int .i64 0,.slice none 0 0] 29)) 27 base xs.length (w6.heap.size) (.slice B xs.length d) xs (.mk 0 none 0 [] 0 none 0 []) hwo (Blk.new _ _ _) hbs (by omega); obtain ⟨gN,rfl⟩:=own_someS hown7 (by omega); have hm7:=mod_grown hgrow7; have hown:=own_inA (A:=B) (n:=xs.length) (c:=d); obtain ⟨c3,f3⟩:=hI6a.cells1 hm7 (fun i hi => .inl (qBl_mk.2 (.inr (.inl (hown i hi))))) (j:=3) rfl; have hat:(Value.slice B xs.length d).ownBlock=some gN∨(w6.alloc (.cells #[.int .i64 0,.slice none 0 0,.int .i64 0,.slice none 0 0] 29)).heap.size≤gN:=own_at hat7; have hne:gN≠g:=own_neB hat (fun i hi e=>hgq (qBl_mk.2 (.inr (.inl (e ▸ hown i hi))))) (by omega); have hne2:g≠gN:=(fun e=>hne e.symm); obtain ⟨r0,r1,r2,r3⟩:=own_lastC hown7; have fr0:=hown7.frozenAt (xs.length*4); have fr1:=hown7.frozenAt (xs.length*4+1); have fr2:=hown7.frozenAt (xs.length*4+2); have fr3:=hown7.frozenAt (xs.length*4+3); have hmS:=st4_modo (w:=w7) (g:=gN) (o:=xs.length*4) (a:=.int .i64 k6) (b:=.slice A6 ws6.length c6) (c:=.int .i64 n6) (d:=.slice B6 xs6.length d6); have c4:=hmS.keep c3 hne2; have f4:=hmS.keepf c3 f3 hne2)
      | (refine step_append_I rfl (.tmp 78) (.tmp 82) 27 rfl _ _ _ _ (by simp [Act.eval,Act.put]; done) (by simp [Act.eval,Act.put]; done) hr7 ?_))
     all_goals
      first
       | (have hpt:Pure w6 (w6.alloc (.cells #[.int .i64 0,.slice none 0 0,.int .i64 0,.slice none 0 0] 29)):=(by with_reducible exact hpa6); clear hpt; generalize (w6.alloc (.cells #[.int .i64 0,.slice none 0 0,.int .i64 0,.slice none 0 0] 29))=wA at *)
       | obtain ⟨wA,rfl⟩:∃ wA,wA=w6:=⟨_,rfl⟩
      obtain ⟨_,_,hBg7,_,_⟩:=hI6a.at hm7 (fun i hi => .inl (qBl_mk.2 (.inr (.inl (hown i hi)))));have hol:=hwo.lt;have hf6':=hf6.up (b1:=w5.heap.size) (by first | exact Nat.le_refl _ | simp);have hmF:=(mod_set (Mod.refl (· = g) ((((w7.setCell ⟨gN,xs.length*4,none⟩ (.int .i64 k6)).setCell ⟨gN,xs.length*4+1,none⟩ (.slice A6 ws6.length c6)).setCell ⟨gN,xs.length*4+2,none⟩ (.int .i64 n6)).setCell ⟨gN,xs.length*4+3,none⟩ (.slice B6 xs6.length d6))) (o+3) (.slice (some ⟨gN,0,none⟩) (xs.length+1) c7));have hb46:=(((HB45.out.modb hM6 (by omega)).modp hpa6).mod hm7 (fun hv=>by have:=hol _ hv; omega)).mod hmS (fun e=>by rcases hat with h | h; (have:=hol _ h; omega); (have:=HB45.out.lt; omega));have hS7:=(((hS6.pure hpa6).mod hm7 (fun i hi hv=>by have:=hol _ hv; omega)).mod hmS (fun i hi e=>by rcases hat with h | h; (have:=hol _ h; omega); omega));have hM7:=((((HM5.out.trans hM6).trans (Mod.of_pure hpa6)).trans' hm7 (fun i hi hlt=>by have:=hol i hi; omega))).trans' hmS (fun i hi hlt=>by rcases hat with h | h; (have:=hol _ h; omega); (have:=HM5.out.size; omega));have hm68:Mod (fun i=>(Value.slice B xs.length d).ownBlock=some i) wA ((((w7.setCell ⟨gN,xs.length*4,none⟩ (.int .i64 k6)).setCell ⟨gN,xs.length*4+1,none⟩ (.slice A6 ws6.length c6)).setCell ⟨gN,xs.length*4+2,none⟩ (.int .i64 n6)).setCell ⟨gN,xs.length*4+3,none⟩ (.slice B6 xs6.length d6)):=hm7.trans' hmS (fun i hi hlt=>by rcases hat with h | h; (rw [hi]; exact h); omega);have ho8:=own_st4 hown7 xs.length (by simp) k6 n6 A6 B6 c6 d6 ws6 xs6;have eset:(xs ++ [QR.mk 0 none 0 [] 0 none 0 []]).set xs.length (QR.mk k6 A6 c6 ws6 n6 B6 d6 xs6)=xs ++ [QR.mk k6 A6 c6 ws6 n6 B6 d6 xs6]:=(by simp);rw [eset] at ho8;have ho9:=own_modB ho8 hmF (fun i hi e=>hne (by have h2:i=gN:=(by simpa [aB] using hi); omega));have hgN:∀ arr fr,w7.heap[gN]? ≠ some (.cells arr 9 fr):=fun arr fr h=>absurd (own_tyB hown7 (g:=gN) (by simp [aB]) h) (by decide)
      have hgG:∀ arr fr,w7.heap[g]? ≠ some (.cells arr 9 fr):=fun arr fr h=>by
       unfold Blk at hBg7;rw [h] at hBg7
       injection hBg7 with h2
       injection h2 with _ h2
       exact absurd h2 (by decide)
      have HE:Hid (SpE w b b3 b4 base N M Z (((((w7.setCell ⟨gN,xs.length*4,none⟩ (.int .i64 k6)).setCell ⟨gN,xs.length*4+1,none⟩ (.slice A6 ws6.length c6)).setCell ⟨gN,xs.length*4+2,none⟩ (.int .i64 n6)).setCell ⟨gN,xs.length*4+3,none⟩ (.slice B6 xs6.length d6)).setCell ⟨g,o+3,none⟩ (.slice (some ⟨gN,0,none⟩) (xs.length+1) c7))):=hd_ (spE_of (hI6a.put1 (e:=3) hm68 (fun i hi => .inl (qBl_mk.2 (.inr (.inl (hown i hi))))) 3 (by omega) (.slice (some ⟨gN,0,none⟩) (xs.length+1) c7) (q':=.mk k A c ws n (some ⟨gN,0,none⟩) c7 (xs ++ [QR.mk k6 A6 c6 ws6 n6 B6 d6 xs6])) (by simp [qC]) (hQC.arg hQD hMq hM0 (hq6.pure hpa6) (hf6.up (by first | exact hbs5 | (simp; omega))) hz6 hb6 (QN.old hf6' (fun i hi=>(hol5 i hi).2)) (QN.old hf6' (fun i hi=>by omega)) hm7 hat ((hmS.mono (fun i hi => .inl hi)).trans (hmF.mono (fun i hi => .inr hi))) ho9 hgq hgG hgN) (by rw [QR.key_mk,QR.key_mk (xs:=xs),qSize,qSize,List.map_append,List.map_append,List.sum_append]; simp only [List.map_cons,List.map_nil,List.sum_cons,List.sum_nil]; omega)) (by omega) (hb46.mod hmF (by omega)) (hS7.setCell (p:=⟨g,o+3,none⟩) (by show b<g; omega) (.slice (some ⟨gN,0,none⟩) (xs.length+1) c7)) (by omega) (hM7.setCell (p:=⟨g,o+3,none⟩) (.inr (by show w.heap.size≤g; omega)) (.slice (some ⟨gN,0,none⟩) (xs.length+1) c7)));go_wp2_with fail;go_meet
      first
       | exact HE.out
       | (rw [← st4_comm _ hne2]; exact HE.out)
    have kz3i:(kz == 3)=false:=(by simpa using kz3);clear kzz kz1 kz2 kz3;obtain ⟨c0,f0⟩:=HI5.out.cells (j:=0) rfl;obtain ⟨c1,f1⟩:=HI5.out.cells (j:=1) rfl;obtain ⟨c2,f2⟩:=HI5.out.cells (j:=2) rfl;obtain ⟨c3,f3⟩:=HI5.out.cells (j:=3) rfl;simp only [Nat.add_zero] at c0 f0;obtain ⟨_,hBg5,_,_,hlg0,hgq0,hQC0,hQD0,hMq0⟩:=HI5.out.blk;have hgl5:=hBg5.lt;have HCP:=hd_ (copyQ_calls (.mk k A c ws n B d xs) w5 hQC0.qs hQC0.z (hMq0.mono (by omega)));rw [qA_mk] at HCP;have HMQ:=hd_ hMq0;have hcB:cB 0=5:=rfl;have hsB:sB 0=1:=rfl;clear hQC0 hQD0 hMq0 hgq0 hBg5;go_wp2_with fail;refine HCP.out.mono ?_;rintro e w6 ⟨⟨k6,A6,c6,ws6,n6,B6,d6,xs6⟩,rfl,hk6,hC6,hD6,hm6⟩;simp only [qA_mk];have HBW:=hd_ (byWordsG_calls b 0 w6 _ 0 rfl (by omega) (hS5.pure hm6) (by omega));clear HCP;go_wp2_with fail;refine HBW.out.mono ?_;rintro e w7 ⟨⟨k7,A7,c7,ws7,n7,B7,d7,xs7⟩,rfl,hq7,hf7,hb7,hsz7,hS7,hM7,hz7⟩;simp only [qA_mk];have hs56:=hm6.size;have hs67:=hM7.size;have hp8:Pure w7 ((w7.alloc (.cells #[.int .i64 k7,.slice A7 ws7.length c7,.int .i64 n7,.slice B7 xs7.length d7] 29)).alloc (.cells #[.int .i64 k6,.slice A6 ws6.length c6,.int .i64 n6,.slice B6 xs6.length d6,.int .i64 8,.slice none 0 0,.int .i64 0,.slice (some ⟨w7.heap.size,0,none⟩) 1 1] 29)):=((Mod.refl _ _).alloc _).alloc _;have hI8:=((HI5.out.mod hm6 (fun i hi=>False.elim hi)).mod hM7 (fun i hi=>by omega)).mod hp8 (fun i hi=>False.elim hi);obtain ⟨d0,e0⟩:=hI8.cells (j:=0) rfl;obtain ⟨d1,e1⟩:=hI8.cells (j:=1) rfl;obtain ⟨d2,e2⟩:=hI8.cells (j:=2) rfl;obtain ⟨d3,e3⟩:=hI8.cells (j:=3) rfl;simp only [Nat.add_zero] at d0 e0;obtain ⟨_,hBg8,_,_,_,hgq8,_,_,_⟩:=hI8.blk;have hmF:Mod (· = g) ((w7.alloc (.cells #[.int .i64 k7,.slice A7 ws7.length c7,.int .i64 n7,.slice B7 xs7.length d7] 29)).alloc (.cells #[.int .i64 k6,.slice A6 ws6.length c6,.int .i64 n6,.slice B6 xs6.length d6,.int .i64 8,.slice none 0 0,.int .i64 0,.slice (some ⟨w7.heap.size,0,none⟩) 1 1] 29)) (((((((w7.alloc (.cells #[.int .i64 k7,.slice A7 ws7.length c7,.int .i64 n7,.slice B7 xs7.length d7] 29)).alloc (.cells #[.int .i64 k6,.slice A6 ws6.length c6,.int .i64 n6,.slice B6 xs6.length d6,.int .i64 8,.slice none 0 0,.int .i64 0,.slice (some ⟨w7.heap.size,0,none⟩) 1 1] 29)).setCell ⟨g,o,none⟩ (.int .i64 4)).setCell ⟨g,o+1,none⟩ (.slice none 0 0)).setCell ⟨g,o+2,none⟩ (.int .i64 0)).setCell ⟨g,o+3,none⟩ (.slice (some ⟨w7.heap.size+1,0,none⟩) 2 2))):=st4_modo;have hge6:=hC6.ge;have hC8:=(((hC6.mod hM7 (fun i hi e=>by have:=(hge6 i hi).1; omega)).mod hp8 (fun i hi h=>h)).mod hmF (fun i hi e=>by have:=(hge6 i hi).1; omega))
    have hst:∀ x arr fr,(((w7.alloc (.cells #[.int .i64 k7,.slice A7 ws7.length c7,.int .i64 n7,.slice B7 xs7.length d7] 29)).alloc (.cells #[.int .i64 k6,.slice A6 ws6.length c6,.int .i64 n6,.slice B6 xs6.length d6,.int .i64 8,.slice none 0 0,.int .i64 0,.slice (some ⟨w7.heap.size,0,none⟩) 1 1] 29))).heap[x]? = some (.cells arr 9 fr)→¬ x=g:=fun x arr fr hg he=>by
     subst he;unfold Blk at hBg8;rw [hg] at hBg8
     injection hBg8 with h
     injection h with _ h
     exact absurd h (by decide)
    have hq8:=(hq7.pure hp8).modF hf7 hmF hst (fun x hx=>by show ¬ x=g; omega);have hB1:Blk ((w7.alloc (.cells #[.int .i64 k7,.slice A7 ws7.length c7,.int .i64 n7,.slice B7 xs7.length d7] 29)).alloc (.cells #[.int .i64 k6,.slice A6 ws6.length c6,.int .i64 n6,.slice B6 xs6.length d6,.int .i64 8,.slice none 0 0,.int .i64 0,.slice (some ⟨w7.heap.size,0,none⟩) 1 1] 29)) w7.heap.size 29 (qC (.mk k7 A7 c7 ws7 n7 B7 d7 xs7)).toArray:=(Blk.new w7 29 #[.int .i64 k7,.slice A7 ws7.length c7,.int .i64 n7,.slice B7 xs7.length d7]).alloc _;have hB2:Blk ((w7.alloc (.cells #[.int .i64 k7,.slice A7 ws7.length c7,.int .i64 n7,.slice B7 xs7.length d7] 29)).alloc (.cells #[.int .i64 k6,.slice A6 ws6.length c6,.int .i64 n6,.slice B6 xs6.length d6,.int .i64 8,.slice none 0 0,.int .i64 0,.slice (some ⟨w7.heap.size,0,none⟩) 1 1] 29)) (w7.heap.size+1) 29 (qV [.mk k6 A6 c6 ws6 n6 B6 d6 xs6,QR.mk 8 none 0 [] 0 (some ⟨w7.heap.size,0,none⟩) 1 [.mk k7 A7 c7 ws7 n7 B7 d7 xs7]]).toArray:=Blk.snd w7 (.cells #[.int .i64 k7,.slice A7 ws7.length c7,.int .i64 n7,.slice B7 xs7.length d7] 29) 29 _;have hN8:QS (((((((w7.alloc (.cells #[.int .i64 k7,.slice A7 ws7.length c7,.int .i64 n7,.slice B7 xs7.length d7] 29)).alloc (.cells #[.int .i64 k6,.slice A6 ws6.length c6,.int .i64 n6,.slice B6 xs6.length d6,.int .i64 8,.slice none 0 0,.int .i64 0,.slice (some ⟨w7.heap.size,0,none⟩) 1 1] 29)).setCell ⟨g,o,none⟩ (.int .i64 4)).setCell ⟨g,o+1,none⟩ (.slice none 0 0)).setCell ⟨g,o+2,none⟩ (.int .i64 0)).setCell ⟨g,o+3,none⟩ (.slice (some ⟨w7.heap.size+1,0,none⟩) 2 2))) (QR.mk 8 none 0 [] 0 (some ⟨w7.heap.size,0,none⟩) 1 [.mk k7 A7 c7 ws7 n7 B7 d7 xs7]):=qs_one (hB1.mod hmF (by omega)) hq8;have hQ8:QS (((((((w7.alloc (.cells #[.int .i64 k7,.slice A7 ws7.length c7,.int .i64 n7,.slice B7 xs7.length d7] 29)).alloc (.cells #[.int .i64 k6,.slice A6 ws6.length c6,.int .i64 n6,.slice B6 xs6.length d6,.int .i64 8,.slice none 0 0,.int .i64 0,.slice (some ⟨w7.heap.size,0,none⟩) 1 1] 29)).setCell ⟨g,o,none⟩ (.int .i64 4)).setCell ⟨g,o+1,none⟩ (.slice none 0 0)).setCell ⟨g,o+2,none⟩ (.int .i64 0)).setCell ⟨g,o+3,none⟩ (.slice (some ⟨w7.heap.size+1,0,none⟩) 2 2))) (QR.mk 4 none 0 [] 0 (some ⟨w7.heap.size+1,0,none⟩) 2 [.mk k6 A6 c6 ws6 n6 B6 d6 xs6,.mk 8 none 0 [] 0 (some ⟨w7.heap.size,0,none⟩) 1 [.mk k7 A7 c7 ws7 n7 B7 d7 xs7]]):=qs_two (hB2.mod hmF (by omega)) hC8.qs hN8
    have hOK:QOk (((((((w7.alloc (.cells #[.int .i64 k7,.slice A7 ws7.length c7,.int .i64 n7,.slice B7 xs7.length d7] 29)).alloc (.cells #[.int .i64 k6,.slice A6 ws6.length c6,.int .i64 n6,.slice B6 xs6.length d6,.int .i64 8,.slice none 0 0,.int .i64 0,.slice (some ⟨w7.heap.size,0,none⟩) 1 1] 29)).setCell ⟨g,o,none⟩ (.int .i64 4)).setCell ⟨g,o+1,none⟩ (.slice none 0 0)).setCell ⟨g,o+2,none⟩ (.int .i64 0)).setCell ⟨g,o+3,none⟩ (.slice (some ⟨w7.heap.size+1,0,none⟩) 2 2))) base (M+1) (QR.mk 4 none 0 [] 0 (some ⟨w7.heap.size+1,0,none⟩) 2 [.mk k6 A6 c6 ws6 n6 B6 d6 xs6,.mk 8 none 0 [] 0 (some ⟨w7.heap.size,0,none⟩) 1 [.mk k7 A7 c7 ws7 n7 B7 d7 xs7]]):=by
     refine ⟨hQ8,.mk (fun _=>⟨w7.heap.size+1,0,rfl,by omega⟩) (fun a ha => ?_),.mk (fun _ _ _ h => ?_) (fun a ha => ?_),?_⟩
     ·rcases List.mem_cons.1 ha with rfl | ha
      ·exact hC6.fr.up (by omega)
      ·rw [List.mem_singleton.1 ha];exact .mk (fun _=>⟨w7.heap.size,0,rfl,by omega⟩) (fun a ha=>by rw [List.mem_singleton.1 ha]; exact hf7.up (by omega))
     ·injection h with h
      injection h with _ _ h
      exact h.symm
     ·rcases List.mem_cons.1 ha with rfl | ha
      ·exact hC6.z
      ·rw [List.mem_singleton.1 ha]
       exact .mk (fun _ _ _ h=>by
        injection h with h
        injection h with _ _ h
        exact h.symm) (fun a ha=>by rw [List.mem_singleton.1 ha]; exact hz7)
     ·rw [QR.key_mk];refine .mk (by omega) (by omega) (by omega) (by omega) (by simp) (fun x hx=>by cases hx) (by simp; omega) (fun a ha => ?_);simp only [List.map_cons,List.map_nil] at ha
      rcases List.mem_cons.1 ha with rfl | ha
      ·rw [hk6]; exact HMQ.out.mono (by omega)
      ·rw [List.mem_singleton.1 ha,QR.key_mk];refine .mk (by omega) (by omega) (by omega) (by omega) (by simp) (fun x hx=>by cases hx) (by simp) (fun a ha => ?_);simp only [List.map_cons,List.map_nil] at ha;rw [List.mem_singleton.1 ha];exact hb7.mono (by omega)
    have hSZ:qSize (QR.mk 4 none 0 [] 0 (some ⟨w7.heap.size+1,0,none⟩) 2 [.mk k6 A6 c6 ws6 n6 B6 d6 xs6,.mk 8 none 0 [] 0 (some ⟨w7.heap.size,0,none⟩) 1 [.mk k7 A7 c7 ws7 n7 B7 d7 xs7]]).key≤qSize (QR.mk k A c ws n B d xs).key+3:=by
     rw [QR.key_mk,qSize];simp only [List.map_cons,List.map_nil,List.sum_cons,List.sum_nil];rw [hk6,QR.key_mk (k:=8),qSize];simp only [List.map_cons,List.map_nil,List.sum_cons,List.sum_nil]
     omega
    have hb48:=((HB45.out.modp hm6).modb hM7 (by omega)).modp hp8;have hS8:=hS7.pure hp8;have hM8:=((HM5.out.trans (Mod.of_pure hm6)).trans hM7).trans (Mod.of_pure hp8);have HE:Hid (SpE w b b3 b4 base N M Z (((((((w7.alloc (.cells #[.int .i64 k7,.slice A7 ws7.length c7,.int .i64 n7,.slice B7 xs7.length d7] 29)).alloc (.cells #[.int .i64 k6,.slice A6 ws6.length c6,.int .i64 n6,.slice B6 xs6.length d6,.int .i64 8,.slice none 0 0,.int .i64 0,.slice (some ⟨w7.heap.size,0,none⟩) 1 1] 29)).setCell ⟨g,o,none⟩ (.int .i64 4)).setCell ⟨g,o+1,none⟩ (.slice none 0 0)).setCell ⟨g,o+2,none⟩ (.int .i64 0)).setCell ⟨g,o+3,none⟩ (.slice (some ⟨w7.heap.size+1,0,none⟩) 2 2)))):=hd_ (spE_of (hI8.put4 (e:=3) (Mod.refl (fun _=>False) _) (fun k hk=>False.elim hk) (q':=QR.mk 4 none 0 [] 0 (some ⟨w7.heap.size+1,0,none⟩) 2 [.mk k6 A6 c6 ws6 n6 B6 d6 xs6,.mk 8 none 0 [] 0 (some ⟨w7.heap.size,0,none⟩) 1 [.mk k7 A7 c7 ws7 n7 B7 d7 xs7]]) rfl hOK hSZ) (by omega) (hb48.mod hmF (by omega)) (hS8.mod hmF (fun i hi e=>by omega)) (by omega) (hM8.trans' hmF (fun i hi hlt=>by omega)));go_wp2_with fail;go_meet
    first
     | exact HE.out
     | (rw [← st4_comm _ hne2]; exact HE.out)
theorem arr_sameQ {α:Type} {a:Array α} {i:Nat} {v:α} (h:a[i]? = some v):a.setIfInBounds i v=a:=by
 apply Array.ext_getElem?
 intro j;rw [Array.getElem?_setIfInBounds]
 split
 ·rename_i e; subst e
  split
  ·exact h.symm
  ·rename_i hlt
   rw [Array.getElem?_eq_none (by omega)] at h
   cases h
 ·rfl
theorem setCell_sameQ {w:World} {g i:Nat} {t:TypeId} {cs:Array Value} {v:Value} (h:Blk w g t cs) (hv:cs[i]? = some v):w.setCell ⟨g,i,none⟩ v=w:=by
 have h2:=h.set i v;rw [arr_sameQ hv] at h2;unfold World.setCell;unfold Blk at h
 congr 1
 apply Array.ext_getElem?
 intro j;rw [Array.getElem?_modify]
 split
 ·rename_i e
  have e:g=j:=e;subst e;rw [h]
  show some (Obj.cells (cs.setIfInBounds i v) t (0,0))=_
  rw [arr_sameQ hv]
 ·rfl
theorem setCell_same2 {w:World} {g:Nat} {t:TypeId} {a b:Value} (h:Blk w g t #[a,b]):World.setCell (World.setCell w ⟨g,0,none⟩ a) ⟨g,1,none⟩ b=w:=by
 rw [setCell_sameQ h rfl,setCell_sameQ h rfl]
def isK (k:Int):Bool:=decide (1≤k∧k≤13)
def UsP (w:World) (U:UseQ) (is:Bool) (e:Ending) (w':World):Prop:=e = .returned (.tuple #[.agg #[.int .i64 (U.w0:Int),.int .i64 (U.w1:Int)],.agg #[.int .i64 (U.a0:Int),.int .i64 (U.a1:Int)],.bool U.nb,.bool is])∧Pure w w'
def UsC (w:World) (g2 g3:Nat) (U:UseQ) (v:Value) (wx:World):Prop:=v = .bool U.nb∧Blk wx g2 205 #[.int .i64 (U.w0:Int),.int .i64 (U.w1:Int)]∧Blk wx g3 205 #[.int .i64 (U.a0:Int),.int .i64 (U.a1:Int)]∧Pure w wx
theorem uses_calls (w:World) (k:Int):Calls Tryz.prog 177 #[.int .i64 k] w (UsP w (useQ 100 k) (isK k)):=by
 have h2:=((Blk.new w 205 #[.int .i64 0,.int .i64 0]).alloc (.cells #[.int .i64 0,.int .i64 0] 205)).alloc (.cells #[.int .i64 2,.int .i64 100] 205);have h3:=(Blk.snd w (.cells #[.int .i64 0,.int .i64 0] 205) 205 #[.int .i64 0,.int .i64 0]).alloc (.cells #[.int .i64 2,.int .i64 100] 205);have h6:=Blk.snd (w.alloc (.cells #[.int .i64 0,.int .i64 0] 205)) (.cells #[.int .i64 0,.int .i64 0] 205) 205 #[.int .i64 2,.int .i64 100];rw [World.size_alloc] at h6;have hp:=((pure_alloc w (.cells #[.int .i64 0,.int .i64 0] 205)).alloc (.cells #[.int .i64 0,.int .i64 0] 205)).alloc (.cells #[.int .i64 2,.int .i64 100] 205);obtain ⟨U,hU⟩:∃ U,useQ 100 k=U:=⟨_,rfl⟩;obtain ⟨is,his⟩:∃ is,isK k=is:=⟨_,rfl⟩;rw [hU,his];have HU:=hd_ hU;have HIS:=hd_ his;clear hU his
 go_enter Tryz.func177,Tryz.ntmps177
 go_upto_region 2 with (fail);generalize (((w.alloc (.cells #[.int .i64 0,.int .i64 0] 205)).alloc (.cells #[.int .i64 0,.int .i64 0] 205)).alloc (.cells #[.int .i64 2,.int .i64 100] 205))=w1 at *;generalize hg2:w.heap.size=g2 at *;have hgw:w.heap.size≤g2:=Nat.le_of_eq hg2;clear hg2;have H2:=hd_ h2;have H3:=hd_ h3;have HP:Hid (Pure w w1):=hd_ hp;clear hp
 by_cases hk:1≤k∧k≤13
 rotate_left
 ·obtain rfl:false=is:=(decide_eq_false hk).symm.trans HIS.out
  have e:U=⟨0,0,0,0,false⟩:=by
   rw [← HU.out];unfold useQ;rw [if_neg (by omega),if_neg (by omega),if_neg (by omega),if_neg (by omega),if_neg (by omega),if_neg (by omega)]
  subst e
  have n1:(k == 1)=false:=by simp; omega
  have n2:(k == 2)=false:=by simp; omega
  have n3:(k == 3)=false:=by simp; omega
  have n4:(k == 4)=false:=by simp; omega
  have n5:(k == 5)=false:=by simp; omega
  have n6:(k == 6)=false:=by simp; omega
  have n7:(k == 7)=false:=by simp; omega
  have n8:(k == 8)=false:=by simp; omega
  have n9:(k == 9)=false:=by simp; omega
  have n10:(k == 10)=false:=by simp; omega
  have n11:(k == 11)=false:=by simp; omega
  have n12:(k == 12)=false:=by simp; omega
  have n13:(k == 13)=false:=by simp; omega
  clear HU hk HIS h2 h3 h6;go_upto_region 3 with (fail);have HGs:=hd_ (show KeepG (fun Z=>Blk Z g2 205 #[.int .i64 0,.int .i64 0]∧Blk Z (g2+1) 205 #[.int .i64 0,.int .i64 0]) from fun D zzi zq zq' h hm=>by (exact ⟨h.1.modp hm,h.2.modp hm⟩))
  refine wp_region_inv (by kernel_rfl) (by kernel_rfl) (InvF (R:=Mod (fun _=>False)) [.is (.agg #[.int .i64 0,.int .i64 0]),.is (.agg #[.int .i64 0,.int .i64 0]),.any,.any,.is ((.bool false)),.is ((.bool false))]
    (PB w1 (fun _=>False) w1.heap.size (fun _=>(fun Z=>Blk Z g2 205 #[.int .i64 0,.int .i64 0]∧Blk Z (g2+1) 205 #[.int .i64 0,.int .i64 0])))) (InvF.start (PB.start (Mod.refl _ _) (Nat.le_refl _) (⟨H2.out,H3.out⟩))) ?_ ?_
  ·iterate 6 (refine .cons ?_ ?_; rotate_left)
   exact .nil
   all_goals intro D V zw1 a hR hI K hK
   all_goals try rw [if_pos (by rfl)]
   ·have hG1:=hI.1.g;have ze2:=hR.ot 2;have zx0:=hG1.1.cell 0; have zx1:=hG1.1.cell 1;simp at zx0 zx1;go_simp;exact hK _ _ (hI.nq hR HGs.out rfl)
   ·have hG1:=hI.1.g;have ze3:=hR.ot 3;have zx0:=hG1.2.cell 0; have zx1:=hG1.2.cell 1;simp at zx0 zx1;go_simp;exact hK _ _ (hI.nq hR HGs.out rfl)
   ·have hM1:=hI.1.mod;have hB1:=hI.1.big;have hG1:=hI.1.g;have zd0:=hR.pred 0 (by kernel_rfl);have zf0:V 0 = .agg #[.int .i64 0,.int .i64 0]:=hI.2 0 zd0 rfl;have ze2:=hR.ot 2;have ze9:=hR.frame.done (t:=9) (j:=0) (by kernel_rfl) hR.ok zd0;have zx0:=hG1.1.cell 0; have zy0:=hG1.1.frozen 0;have zx1:=hG1.1.cell 1; have zy1:=hG1.1.frozen 1;simp at zx0 zx1;go_simp;rw [setCell_same2 hG1.1];exact hK undef _ (hI.next hR (by kernel_rfl) (Mod.refl _ _) (PB.quiet hI.1 (Mod.refl _ _) (HGs.out D 2 zw1 zw1 (hI.1).g (Mod.refl _ _))) trivial)
   ·have hM1:=hI.1.mod;have hB1:=hI.1.big;have hG1:=hI.1.g;have zd1:=hR.pred 1 (by kernel_rfl);have zf1:V 1 = .agg #[.int .i64 0,.int .i64 0]:=hI.2 1 zd1 rfl;have ze3:=hR.ot 3;have ze10:=hR.frame.done (t:=10) (j:=1) (by kernel_rfl) hR.ok zd1;have zx0:=hG1.2.cell 0; have zy0:=hG1.2.frozen 0;have zx1:=hG1.2.cell 1; have zy1:=hG1.2.frozen 1;simp at zx0 zx1;go_simp;rw [setCell_same2 hG1.2];exact hK undef _ (hI.next hR (by kernel_rfl) (Mod.refl _ _) (PB.quiet hI.1 (Mod.refl _ _) (HGs.out D 3 zw1 zw1 (hI.1).g (Mod.refl _ _))) trivial)
   rotate_left;rotate_left
   all_goals (go_simp; exact hK _ _ (hI.nq hR HGs.out rfl))
  ·intro D V w9 hD hI;obtain ⟨hMx,hBx,hGx⟩:=hI.1;have zf0:=hI.eqA hD 0;have zf1:=hI.eqA hD 1;have zf4:=hI.eqA hD 4;have zf5:=hI.eqA hD 5;clear hI hD HGs;simp only [frAll,Act.put,List.setIfInBounds_toArray,List.set_cons_zero,List.set_cons_succ,Nat.zero_add,Nat.reduceAdd,zf0,zf1,zf4,zf5];clear zf0 zf1 zf4 zf5;clear V D;have hG2:=hGx.1;have hG3:=hGx.2;have HP9:Hid (Pure w w9):=hd_ (HP.out.trans hMx);clear hGx hMx hBx H2 H3 HP;go_wp2_with fail;obtain ⟨u0,u1⟩:=hG2.c2;obtain ⟨v0,v1⟩:=hG3.c2
   try simp only [Exit.inBlock,Exit.then]
   refine bodyPost_ret (v:=.tuple #[.agg #[.int .i64 0,.int .i64 0],.agg #[.int .i64 0,.int .i64 0],.bool false,.bool false]) (by simp [results,Tryz.results177,go_sem,u0,u1,v0,v1]) rfl ?_;exact ⟨rfl,HP9.out⟩
 ·obtain rfl:true=is:=(decide_eq_true hk).symm.trans HIS.out
  go_upto_block 0 with (fail)
  go_cut [4] (fun v wx=>UsC w g2 (g2+1) U v wx)
  case first =>
   obtain ⟨x0,x1,xf0,xf1⟩:=h2.c2f;obtain ⟨y0,y1,yf0,yf1⟩:=h3.c2f;obtain ⟨z0,z1⟩:=h6.c2
   obtain rfl | rfl | rfl | rfl | rfl | rfl | rfl | rfl | rfl | rfl | rfl | rfl | rfl:k=1∨k=2∨k=3∨k=4∨k=5∨k=6∨k=7∨k=8∨k=9∨k=10∨k=11∨k=12∨k=13:=by omega
   ·obtain rfl:(⟨0,0,0,0,false⟩:UseQ)=U:=HU.out;clear HU hk HIS h2 h3 h6;go_wp2_with fail;go_meet;exact ⟨rfl,H2.out,H3.out,HP.out⟩
   ·obtain rfl:(⟨1,1,0,0,false⟩:UseQ)=U:=HU.out;clear HU hk HIS h2 h3 h6;go_wp2_with fail;go_meet;exact ⟨rfl,by simpa using (H2.out.set 0 (.int .i64 1)).set 1 (.int .i64 1),(H3.out.far (by show g2+1≠g2; omega) _).far (by show g2+1≠g2; omega) _,(HP.out.setCell (.inr (by show w.heap.size≤g2; omega)) _).setCell (.inr (by show w.heap.size≤g2; omega)) _⟩
   ·obtain rfl:(⟨2,10,0,0,false⟩:UseQ)=U:=HU.out;clear HU hk HIS h2 h3 h6;go_wp2_with fail;go_meet;exact ⟨rfl,by simpa using (H2.out.set 0 (.int .i64 2)).set 1 (.int .i64 10),(H3.out.far (by show g2+1≠g2; omega) _).far (by show g2+1≠g2; omega) _,(HP.out.setCell (.inr (by show w.heap.size≤g2; omega)) _).setCell (.inr (by show w.heap.size≤g2; omega)) _⟩
   ·obtain rfl:(⟨0,0,2,2,true⟩:UseQ)=U:=HU.out;clear HU hk HIS h2 h3 h6;go_wp2_with fail;go_meet;exact ⟨rfl,(H2.out.far (by show g2≠g2+1; omega) _).far (by show g2≠g2+1; omega) _,by simpa using (H3.out.set 0 (.int .i64 2)).set 1 (.int .i64 2),(HP.out.setCell (.inr (by show w.heap.size≤g2+1; omega)) _).setCell (.inr (by show w.heap.size≤g2+1; omega)) _⟩
   ·obtain rfl:(⟨0,0,2,2,true⟩:UseQ)=U:=HU.out;clear HU hk HIS h2 h3 h6;go_wp2_with fail;go_meet;exact ⟨rfl,(H2.out.far (by show g2≠g2+1; omega) _).far (by show g2≠g2+1; omega) _,by simpa using (H3.out.set 0 (.int .i64 2)).set 1 (.int .i64 2),(HP.out.setCell (.inr (by show w.heap.size≤g2+1; omega)) _).setCell (.inr (by show w.heap.size≤g2+1; omega)) _⟩
   ·obtain rfl:(⟨0,0,2,100,false⟩:UseQ)=U:=HU.out;clear HU hk HIS h2 h3 h6;go_wp2_with fail;go_meet;exact ⟨rfl,(H2.out.far (by show g2≠g2+1; omega) _).far (by show g2≠g2+1; omega) _,by simpa using (H3.out.set 0 (.int .i64 2)).set 1 (.int .i64 100),(HP.out.setCell (.inr (by show w.heap.size≤g2+1; omega)) _).setCell (.inr (by show w.heap.size≤g2+1; omega)) _⟩
   ·obtain rfl:(⟨0,0,2,100,false⟩:UseQ)=U:=HU.out;clear HU hk HIS h2 h3 h6;go_wp2_with fail;go_meet;exact ⟨rfl,(H2.out.far (by show g2≠g2+1; omega) _).far (by show g2≠g2+1; omega) _,by simpa using (H3.out.set 0 (.int .i64 2)).set 1 (.int .i64 100),(HP.out.setCell (.inr (by show w.heap.size≤g2+1; omega)) _).setCell (.inr (by show w.heap.size≤g2+1; omega)) _⟩
   ·obtain rfl:(⟨0,0,1,1,false⟩:UseQ)=U:=HU.out;clear HU hk HIS h2 h3 h6;go_wp2_with fail;go_meet;exact ⟨rfl,(H2.out.far (by show g2≠g2+1; omega) _).far (by show g2≠g2+1; omega) _,by simpa using (H3.out.set 0 (.int .i64 1)).set 1 (.int .i64 1),(HP.out.setCell (.inr (by show w.heap.size≤g2+1; omega)) _).setCell (.inr (by show w.heap.size≤g2+1; omega)) _⟩
   ·obtain rfl:(⟨1,1,0,0,false⟩:UseQ)=U:=HU.out;clear HU hk HIS h2 h3 h6;go_wp2_with fail;go_meet;exact ⟨rfl,by simpa using (H2.out.set 0 (.int .i64 1)).set 1 (.int .i64 1),(H3.out.far (by show g2+1≠g2; omega) _).far (by show g2+1≠g2; omega) _,(HP.out.setCell (.inr (by show w.heap.size≤g2; omega)) _).setCell (.inr (by show w.heap.size≤g2; omega)) _⟩
   ·obtain rfl:(⟨0,0,0,0,true⟩:UseQ)=U:=HU.out;clear HU hk HIS h2 h3 h6;go_wp2_with fail;go_meet;exact ⟨rfl,H2.out,H3.out,HP.out⟩
   ·obtain rfl:(⟨1,1,0,0,false⟩:UseQ)=U:=HU.out;clear HU hk HIS h2 h3 h6;go_wp2_with fail;go_meet;exact ⟨rfl,by simpa using (H2.out.set 0 (.int .i64 1)).set 1 (.int .i64 1),(H3.out.far (by show g2+1≠g2; omega) _).far (by show g2+1≠g2; omega) _,(HP.out.setCell (.inr (by show w.heap.size≤g2; omega)) _).setCell (.inr (by show w.heap.size≤g2; omega)) _⟩
   ·obtain rfl:(⟨0,0,0,0,true⟩:UseQ)=U:=HU.out;clear HU hk HIS h2 h3 h6;go_wp2_with fail;go_meet;exact ⟨rfl,H2.out,H3.out,HP.out⟩
   ·obtain rfl:(⟨0,0,0,0,true⟩:UseQ)=U:=HU.out;clear HU hk HIS h2 h3 h6;go_wp2_with fail;go_meet;exact ⟨rfl,H2.out,H3.out,HP.out⟩
  case rest =>
   obtain ⟨rfl,hb2,hb3,hpc⟩:=hcut;have HPC:Hid (Pure w wc):=hd_ hpc;have HC2:=hd_ hb2;have HC3:=hd_ hb3;clear HU hk HIS h2 h3 h6 H2 H3 HP hb2 hb3 hpc;obtain ⟨u0,u1,u2,u3,u4⟩:=U;have POST:Hid (∀ W,Pure w W→UsP w ⟨u0,u1,u2,u3,u4⟩ true (.returned (.tuple #[.agg #[.int .i64 (u0:Int),.int .i64 (u1:Int)],.agg #[.int .i64 (u2:Int),.int .i64 (u3:Int)],.bool u4,.bool true])) W):=hd_ (fun W h=>⟨rfl,h⟩);generalize (u0:Int)=x0 at *;generalize (u1:Int)=x1 at *;generalize (u2:Int)=y0 at *;generalize (u3:Int)=y1 at *;go_upto_region 23 with (fail);have HGs:=hd_ (show KeepG (fun Z=>Blk Z g2 205 #[.int .i64 x0,.int .i64 x1]∧Blk Z (g2+1) 205 #[.int .i64 y0,.int .i64 y1]) from fun D zzi zq zq' h hm=>by (exact ⟨h.1.modp hm,h.2.modp hm⟩))
   refine wp_region_inv (by kernel_rfl) (by kernel_rfl) (InvF (R:=Mod (fun _=>False)) [.is (.agg #[.int .i64 x0,.int .i64 x1]),.is (.agg #[.int .i64 y0,.int .i64 y1]),.is (.bool u4),.any,.any,.is (.bool u4),.is ((.bool true))]
     (PB wc (fun _=>False) wc.heap.size (fun _=>(fun Z=>Blk Z g2 205 #[.int .i64 x0,.int .i64 x1]∧Blk Z (g2+1) 205 #[.int .i64 y0,.int .i64 y1])))) (InvF.start (PB.start (Mod.refl _ _) (Nat.le_refl _) (⟨HC2.out,HC3.out⟩))) ?_ ?_
   ·iterate 7 (refine .cons ?_ ?_; rotate_left)
    exact .nil
    all_goals intro D V zw1 a hR hI K hK
    all_goals try rw [if_pos (by rfl)]
    ·have hG1:=hI.1.g;have ze2:=hR.ot 2;have zx0:=hG1.1.cell 0; have zx1:=hG1.1.cell 1;simp at zx0 zx1;go_simp;exact hK _ _ (hI.nq hR HGs.out rfl)
    ·have hG1:=hI.1.g;have ze3:=hR.ot 3;have zx0:=hG1.2.cell 0; have zx1:=hG1.2.cell 1;simp at zx0 zx1;go_simp;exact hK _ _ (hI.nq hR HGs.out rfl)
    have ze4:=hR.frame.undone (t:=4) (j:=5) (by kernel_rfl) (hR.later 5 rfl (by kernel_rfl)) rfl;rotate_left
    ·have hM1:=hI.1.mod;have hB1:=hI.1.big;have hG1:=hI.1.g;have zd0:=hR.pred 0 (by kernel_rfl);have zf0:V 0 = .agg #[.int .i64 x0,.int .i64 x1]:=hI.2 0 zd0 rfl;have ze2:=hR.ot 2;have ze36:=hR.frame.done (t:=36) (j:=0) (by kernel_rfl) hR.ok zd0;have zx0:=hG1.1.cell 0; have zy0:=hG1.1.frozen 0;have zx1:=hG1.1.cell 1; have zy1:=hG1.1.frozen 1;simp at zx0 zx1;go_simp;rw [setCell_same2 hG1.1];exact hK undef _ (hI.next hR (by kernel_rfl) (Mod.refl _ _) (PB.quiet hI.1 (Mod.refl _ _) (HGs.out D 3 zw1 zw1 (hI.1).g (Mod.refl _ _))) trivial)
    ·have hM1:=hI.1.mod;have hB1:=hI.1.big;have hG1:=hI.1.g;have zd1:=hR.pred 1 (by kernel_rfl);have zf1:V 1 = .agg #[.int .i64 y0,.int .i64 y1]:=hI.2 1 zd1 rfl;have ze3:=hR.ot 3;have ze37:=hR.frame.done (t:=37) (j:=1) (by kernel_rfl) hR.ok zd1;have zx0:=hG1.2.cell 0; have zy0:=hG1.2.frozen 0;have zx1:=hG1.2.cell 1; have zy1:=hG1.2.frozen 1;simp at zx0 zx1;go_simp;rw [setCell_same2 hG1.2];exact hK undef _ (hI.next hR (by kernel_rfl) (Mod.refl _ _) (PB.quiet hI.1 (Mod.refl _ _) (HGs.out D 4 zw1 zw1 (hI.1).g (Mod.refl _ _))) trivial)
    have ze38:=hI.tm hR 38 2;rotate_left;rotate_left
    all_goals (go_simp; exact hK _ _ (hI.nq hR HGs.out rfl))
   ·intro D V w9 hD hI;obtain ⟨hMx,hBx,hGx⟩:=hI.1;have zf0:=hI.eqA hD 0;have zf1:=hI.eqA hD 1;have zf2:=hI.eqA hD 2;have zf5:=hI.eqA hD 5;have zf6:=hI.eqA hD 6;clear hI hD HGs;simp only [frAll,Act.put,List.setIfInBounds_toArray,List.set_cons_zero,List.set_cons_succ,Nat.zero_add,Nat.reduceAdd,zf0,zf1,zf2,zf5,zf6];clear zf0 zf1 zf2 zf5 zf6;clear V D;have hG2:=hGx.1;have hG3:=hGx.2;have HP9:Hid (Pure w w9):=hd_ (HPC.out.trans hMx);clear hGx hMx hBx HC2 HC3 HPC;go_wp2_with fail;obtain ⟨p0,p1⟩:=hG2.c2;obtain ⟨q0,q1⟩:=hG3.c2
    try simp only [Exit.inBlock,Exit.then]
    refine bodyPost_ret (v:=.tuple #[.agg #[.int .i64 x0,.int .i64 x1],.agg #[.int .i64 y0,.int .i64 y1],.bool u4,.bool true]) (by simp [results,Tryz.results177,go_sem,p0,p1,q0,q1]) rfl ?_;exact POST.out _ HP9.out
end Go.Proofs.YtnfflgicngeekaaGreatDoor
