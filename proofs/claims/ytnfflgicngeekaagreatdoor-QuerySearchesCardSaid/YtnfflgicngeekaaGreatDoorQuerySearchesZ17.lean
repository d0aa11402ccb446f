/- Texts of the proof of QuerySearches, put together: Hash, Key, WhnQ, LayP, LayW. -/
import Derived.Test.YtnfflgicngeekaaGreatDoorQuerySearchesZ9
import Derived.Test.YtnfflgicngeekaaGreatDoorQuerySearchesZ15
import Derived.Lib.ConvBytes
set_option linter.unusedVariables false
set_option linter.unusedSimpArgs false
set_option maxRecDepth 100000
set_option maxHeartbeats 1000000
namespace Go.Proofs.YtnfflgicngeekaaGreatDoor
open Go.RowKit
def hstep (h c:Nat):Nat:=((h ^^^ c)*16777619) % 4294967296
def hb (i:Nat) (l:List UInt8):Nat:=l.foldl (fun h c=>hstep h c.toNat) i
def u8s (l:List UInt8):List Value:=l.map (fun b=>Value.int .u8 (b.toNat:Int))
theorem bytes_pure (w:World) (e:TypeId) (s:ByteArray):Pure w (Lib.bytesWorld w e s):=by
 refine ⟨?_,?_,?_,by rw [Lib.bytesWorld_size]; omega,fun k hk _=>Lib.bytesWorld_at_old w e s k hk⟩
 all_goals
  unfold Lib.bytesWorld World.freeze
  split <;> rfl
def smallB (c:Nat):Bool:=decide (97≤c∧c≤122)
def digitB (c:Nat):Bool:=decide (48≤c∧c≤57)
def keyC (c:Nat):Bool:=smallB c || digitB c || c == 45 || c == 95
def keyB (l:List UInt8):Bool:=decide (1≤l.length∧l.length≤40) && smallB (l.getD 0 0).toNat && l.all (fun c=>keyC c.toNat)
def BoolSame (w:World) (b:Bool) (e:Ending) (w':World):Prop:=e = .returned (.bool b)∧w=w'
theorem BoolSame.of {w:World} {n m:Bool} (h:n=m):BoolSame w n (.returned (.bool m)) w:=⟨by rw [h],rfl⟩
theorem small_calls (c:Nat) (w:World):Calls Tryz.prog 125 #[.int .u8 (c:Int)] w (BoolSame w (smallB c)):=by
 by_cases h1:(97:Int)≤(c:Int)
 ·by_cases h2:(c:Int)≤122
  all_goals
   go_enter Tryz.func125,Tryz.ntmps125
   go_wp2
   go_ret;exact BoolSame.of (by unfold smallB; simp; omega)
 ·go_enter Tryz.func125,Tryz.ntmps125
  go_wp2
  go_ret;exact BoolSame.of (by unfold smallB; simp; omega)
theorem digit_calls (c:Nat) (w:World):Calls Tryz.prog 126 #[.int .u8 (c:Int)] w (BoolSame w (digitB c)):=by
 by_cases h1:(48:Int)≤(c:Int)
 ·by_cases h2:(c:Int)≤57
  all_goals
   go_enter Tryz.func126,Tryz.ntmps126
   go_wp2
   go_ret;exact BoolSame.of (by unfold digitB; simp; omega)
 ·go_enter Tryz.func126,Tryz.ntmps126
  go_wp2
  go_ret;exact BoolSame.of (by unfold digitB; simp; omega)
theorem all_take_snoc (l:List UInt8) (k:Nat) (h:k<l.length):(l.take (k+1)).all (fun c=>keyC c.toNat)=((l.take k).all (fun c=>keyC c.toNat) && keyC l[k].toNat):=by
 rw [List.take_succ_eq_append_getElem h,List.all_append]; simp
theorem all_false_of (l:List UInt8) (k:Nat) (h:k<l.length) (hk:keyC l[k].toNat=false):l.all (fun c=>keyC c.toNat)=false:=by
 rw [List.all_eq_false];exact ⟨l[k],List.getElem_mem h,by simp [hk]⟩
theorem key_calls (w:World) (s:ByteArray) (hs:s.size≤1000000):Calls Tryz.prog 63 #[.string s] w (BoolSame w (keyB s.data.toList)):=by
 have hls:s.data.toList.length=s.size:=(by simp);have HLS:=hd_ hls;clear hls
 go_enter Tryz.func63,Tryz.ntmps63
 go_wp2_with fail;refine (in_calls _ _ _ _).mono ?_;rintro e w' ⟨rfl,rfl⟩
 cases hin:inB (s.size:Int) 1 40
 ·have h1:=inB_false hin;go_wp2_with fail;go_ret;refine BoolSame.of ?_;unfold keyB;rw [decide_eq_false (by rw [HLS.out]; omega)]
  rfl
 ·obtain ⟨h1,h2⟩:=inB_true hin;clear hin;have hpos:0<s.size:=(by omega)
  have hlen:(decide (1≤s.data.toList.length∧s.data.toList.length≤40))=true:=by rw [HLS.out]; simp; omega
  have hz:(s.data.toList.getD 0 0)=s[0]:=by simp [List.getD,hpos]; rfl
  have hkey:keyB s.data.toList=(smallB s[0].toNat && s.data.toList.all (fun c=>keyC c.toNat)):=by unfold keyB; rw [hlen,hz]; rfl
  have HK:=hd_ hkey;clear hkey hlen hz;go_wp2_with fail;refine (small_calls _ _).mono ?_;rintro e w' ⟨rfl,rfl⟩
  cases hs0:smallB s[0].toNat
  ·go_wp2_with fail;go_ret;exact BoolSame.of (by rw [HK.out,hs0]; rfl)
  ·go_wp2_with fail
   go_loopg [17] s.size (fun gk i wr=>∃ k:Nat,s.size - k=gk∧k≤s.size∧i = .int .i64 (k:Int)∧(s.data.toList.take k).all (fun c=>keyC c.toNat)=true∧w=wr)
   case atStart=>exact ⟨0,by omega,by omega,rfl,rfl,rfl⟩
   case round =>
    obtain ⟨k,rfl,hk,rfl,hall,rfl⟩:=hrel;have HA:=hd_ hall;clear hall
    by_cases hlt:k<s.size
    ·have hl:k<s.data.toList.length:=by rw [HLS.out]; exact hlt
     have hsn:=all_take_snoc s.data.toList k hl;have hfa:=all_false_of s.data.toList k hl
     have hidx:s.data.toList[k]=s[k]:=by simp; rfl
     rw [hidx] at hsn hfa;have HSN:=hd_ hsn;have HFA:=hd_ hfa;clear hsn hfa hidx
     have nokey:keyC s[k].toNat=false→keyB s.data.toList=false:=fun h=>by rw [HK.out,HFA.out h]; simp
     have okkey:keyC s[k].toNat=true→(s.data.toList.take (k+1)).all (fun c=>keyC c.toNat)=true:=fun h=>by rw [HSN.out,HA.out,h]; rfl
     have NO:=hd_ nokey;have OK:=hd_ okkey;clear nokey okkey;go_wp2_with fail;refine (small_calls _ _).mono ?_;rintro e w' ⟨rfl,rfl⟩;generalize s[k].toNat=c at *
     cases h1:smallB c
     ·go_wp2_with fail;refine (digit_calls _ _).mono ?_;rintro e w' ⟨rfl,rfl⟩
      cases h2:digitB c
      ·by_cases h3:c=45
       ·subst h3;go_wp2_with fail
        go_roundg (s.size - (k+1))
        case measure=>omega
        case rel=>exact ⟨k+1,rfl,hlt,by simp,OK.out (by rfl),rfl⟩
       ·have h3':((c:Int) != 45)=true:=by simp; omega
        by_cases h4:c=95
        ·subst h4;go_wp2_with fail
         go_roundg (s.size - (k+1))
         case measure=>omega
         case rel=>exact ⟨k+1,rfl,hlt,by simp,OK.out (by rfl),rfl⟩
        ·have h4':((c:Int) != 95)=true:=by simp; omega
         go_wp2_with fail;go_ret;exact BoolSame.of (NO.out (by unfold keyC; rw [h1,h2]; simp; omega))
      ·go_wp2_with fail
       go_roundg (s.size - (k+1))
       case measure=>omega
       case rel=>exact ⟨k+1,rfl,hlt,by simp,OK.out (by unfold keyC; rw [h1,h2]; rfl),rfl⟩
     ·go_wp2_with fail
      go_roundg (s.size - (k+1))
      case measure=>omega
      case rel=>exact ⟨k+1,rfl,hlt,by simp,OK.out (by unfold keyC; rw [h1]; rfl),rfl⟩
    ·have hke:k=s.size:=(by omega);subst hke;go_wp2_with fail;go_ret;refine BoolSame.of ?_;have:=HA.out;rw [List.take_of_length_le (by rw [HLS.out]; omega)] at this;rw [HK.out,hs0,this]
     rfl
theorem whenQ_calls (w:World) (b:Bool) (n e:Int) (h:(if b=true then n else 0)=e):Calls Tryz.prog 62 #[.bool b,.int .i64 n] w (IntPost w e):=by
 subst h
 cases b
 ·exact (when_f _ _).mono fun e w' h=>⟨h.1,by rw [h.2]; exact Mod.refl _ _⟩
 ·exact (when_t _ _).mono fun e w' h=>⟨h.1,by rw [h.2]; exact Mod.refl _ _⟩
structure AskR where
 field:Str
 A:Option Addr
 c:Nat
 ch:List Str
 many:Bool
 spread:Int
structure RulR where
 kind:Int
 field:Str
 ifs:Str
 other:Str
 thn:Str
structure LayR where
 asks:List AskR
 rules:List RulR
structure ChoR where
 field:Str
 A:Option Addr
 c:Nat
 ch:List Str
def AskS (W:World) (xs:List AskR):Prop:=∀ x∈xs,Sl W 9 1 (.slice x.A x.ch.length x.c) (strsV x.ch)
def ChoS (W:World) (xs:List ChoR):Prop:=∀ x∈xs,Sl W 9 1 (.slice x.A x.ch.length x.c) (strsV x.ch)
section
variable {w w':World} {v:Value} {al:List AskR} {cs:List ChoR} {rs:List RulR} {L:LayR}
theorem AskS.pure (h:AskS w al) (hm:Pure w w'):AskS w' al:=fun x hx=>(h x hx).pure hm
theorem ChoS.pure (h:ChoS w cs) (hm:Pure w w'):ChoS w' cs:=fun x hx=>(h x hx).pure hm
end
def StB (s:Str):Prop:=s.length≤1000
def StsA (ss:List Str):Prop:=ss.length≤100∧∀ s∈ss,s.length≤1000
def StsB (ss:List Str):Prop:=ss.length≤1000∧∀ s∈ss,s.length≤1000
def AskB (x:AskR):Prop:=StB x.field∧StsA x.ch ∧ -1099511627776≤x.spread∧x.spread≤1099511627776
def ChoB (x:ChoR):Prop:=StB x.field∧StsB x.ch
def RulB (x:RulR):Prop:=StB x.field∧StB x.ifs∧StB x.other∧StB x.thn
def AskM (M K:Nat) (x:AskR):Prop:=x.field.length≤M∧(x.ch.length≤K∧∀ s∈x.ch,s.length≤M) ∧ -1099511627776≤x.spread∧x.spread≤1099511627776
def ChoM (M K:Nat) (x:ChoR):Prop:=x.field.length≤M∧x.ch.length≤K∧∀ s∈x.ch,s.length≤M
theorem AskM.b {M K:Nat} {x:AskR} (h:AskM M K x) (h1:M≤1000) (h2:K≤100):AskB x:=⟨by unfold StB; have:=h.1; omega,⟨by have:=h.2.1.1; omega,fun s hs=>by have:=h.2.1.2 s hs; omega⟩,h.2.2⟩
theorem AskB.m {x:AskR} (h:AskB x):AskM 1000 100 x:=h
theorem ChoM.b {M K:Nat} {x:ChoR} (h:ChoM M K x) (h1:M≤1000) (h2:K≤100):ChoB x:=⟨by unfold StB; have:=h.1; omega,⟨by have:=h.2.1; omega,fun s hs=>by have:=h.2.2 s hs; omega⟩⟩
def AskG (x:AskR):Prop:=x.field.length≤4∧x.ch.length≤3∧(∀ s∈x.ch,s.length≤4)∧0≤x.spread∧x.spread≤2∧0<x.ch.length
def RulG (x:RulR):Prop:=(x.kind=1∨x.kind=2)∧x.field.length≤4∧x.ifs.length≤4∧x.other.length≤4∧x.thn.length≤4
theorem AskG.b {x:AskR} (h:AskG x):AskB x:=⟨by unfold StB; have:=h.1; omega,⟨by have:=h.2.1; omega,fun s hs=>by have:=h.2.2.1 s hs; omega⟩,by have:=h.2.2.2.1; omega,by have:=h.2.2.2.2.1; omega⟩
theorem AskG.m {x:AskR} (h:AskG x):AskM 4 3 x:=⟨h.1,⟨h.2.1,h.2.2.1⟩,by have:=h.2.2.2.1; omega,by have:=h.2.2.2.2.1; omega⟩
theorem RulG.b {x:RulR} (h:RulG x):RulB x:=by
 obtain ⟨_,a,b,c,d⟩:=h;exact ⟨by unfold StB; omega,by unfold StB; omega,by unfold StB; omega,by unfold StB; omega⟩
end Go.Proofs.YtnfflgicngeekaaGreatDoor
