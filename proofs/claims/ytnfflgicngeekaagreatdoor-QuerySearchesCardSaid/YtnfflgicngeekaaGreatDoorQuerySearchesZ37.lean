/- Texts of the proof of QuerySearches, put together: LayQry, LayBld, LayB2, QuoA, QuoB, DigA, DigB, ItmK, QrJ, WrdB, WrdC, WrdD, LayWd, WrdR, WrdE, QrA, QrB, QrK, LayVal, LayCon, VisA, TxtR, ItmE, ItlP, ItxP, IhdP. -/
import Derived.Test.YtnfflgicngeekaaGreatDoorQuerySearchesZ1
import Derived.Test.YtnfflgicngeekaaGreatDoorQuerySearchesZ2
import Derived.Test.YtnfflgicngeekaaGreatDoorQuerySearchesZ3
import Derived.Test.YtnfflgicngeekaaGreatDoorQuerySearchesZ9
import Derived.Test.YtnfflgicngeekaaGreatDoorQuerySearchesZ11
import Derived.Test.YtnfflgicngeekaaGreatDoorQuerySearchesZ12
import Derived.Test.YtnfflgicngeekaaGreatDoorQuerySearchesZ13
import Derived.Test.YtnfflgicngeekaaGreatDoorQuerySearchesZ16
import Derived.Test.YtnfflgicngeekaaGreatDoorQuerySearchesZ17
import Derived.Test.YtnfflgicngeekaaGreatDoorQuerySearchesZ20
import Derived.Test.YtnfflgicngeekaaGreatDoorQuerySearchesZ21
import Derived.Test.YtnfflgicngeekaaGreatDoorQuerySearchesZ23
import Derived.Test.YtnfflgicngeekaaGreatDoorQuerySearchesZ24
import Derived.Test.YtnfflgicngeekaaGreatDoorQuerySearchesZ25
import Derived.Test.YtnfflgicngeekaaGreatDoorQuerySearchesZ29
import Derived.Test.YtnfflgicngeekaaGreatDoorQuerySearchesZ32
import Derived.Ground.NamesProg
import Derived.Shelf.SlGeneric
import Derived.Ground.SlgnProg
import Derived.Shelf.SlicesE.Clone
import Derived.Test.YtnfflgicngeekaaGreatDoorProg
import Derived.Shelf.Strings.BuilderK
import Derived.Shelf.Strings.Repeat
import Derived.Shelf.Strings.Prefix
import Derived.Deep.DeepCutAuto
import Derived.Deep.AppendLies
import Derived.Lib.AppendStr
import Derived.Laws.IdiomStrings
import Derived.Deep.CutBlock
import Derived.Shelf.SlicesQ.Reverse
import Derived.Shelf.Small.Strs
import Derived.Shelf.Unicode.ValidAny
import Derived.Shelf.Strings.Search3
import Derived.Lib.Join
import Derived.Lib.ItoaLen
set_option linter.unusedVariables false
set_option linter.unusedSimpArgs false
set_option maxRecDepth 100000
set_option maxHeartbeats 8000000
/-
 DERIVED: THE SHELF's CONTRACTS AT THIS DUMP,IN PLAIN WORDS (tools/lay-plain.mjs out of 'YtnfflgicngeekaaGreatDoorLayQry.lean',which tools/lay-shelf.mjs wrote): THE SAME DECLARATIONS UNDER THE SAME NAMES: 'import','namespace','open','def','theorem' AND NOTHING ELSE: no command of the shelf's: FOR A HAND-IN. Each laying: the table of numbers ('.._ren') and one theorem,a field a fact of the dump's own or the kernel's comparison; each contract: ONE APPLICATION.
-/
namespace Go.Proofs
open Go.Shelf
def Tryz.clnQry_ren:Go.Shelf.Ren:=⟨fun | 41=>171 | n=>n,fun | 22=>27 | 23=>29 | 4=>4 | n=>n,fun | n=>n⟩
theorem Tryz.clnQry:Go.Proofs.SlLaysE0.n41 Tryz.prog Tryz.clnQry_ren:={
 mixed:=by kernel_rfl
 f41:=⟨Tryz.f171.name,by decide,Tryz.func171.trans (congrArg some (by kernel_rfl))⟩
 t4:=Tryz.underlying4
 a4:=Tryz.isAgg4
 z4:=Tryz.sizeOf4
 v4:=Tryz.zeroValue4
 t22:=Tryz.underlying27
 a22:=Tryz.isAgg27
 z22:=Tryz.sizeOf27
 v22:=Tryz.zeroValue27 }
end Go.Proofs
/-
 DERIVED: THE SHELF's CONTRACTS AT THIS DUMP,IN PLAIN WORDS (tools/lay-plain.mjs out of 'YtnfflgicngeekaaGreatDoorLayBld.lean',which tools/lay-shelf.mjs wrote): THE SAME DECLARATIONS UNDER THE SAME NAMES: 'import','namespace','open','def','theorem' AND NOTHING ELSE: no command of the shelf's: FOR A HAND-IN. Each laying: the table of numbers ('.._ren') and one theorem,a field a fact of the dump's own or the kernel's comparison; each contract: ONE APPLICATION.
-/
namespace Go.Proofs
open Go.Shelf
def Tryz.lays105_ren:Go.Shelf.Ren:=⟨fun | 105=>83 | 212=>143 | 99=>144 | 165=>115 | 166=>116 | 170=>145 | 169=>117 | 263=>199 | 264=>200 | 206=>201 | 240=>189 | 241=>190 | 276=>234 | 277=>235 | n=>n,fun | 9=>9 | 3=>3 | 4=>4 | 20=>20 | 0=>0 | 46=>180 | 109=>181 | 5=>5 | 72=>143 | 76=>147 | 51=>221 | 146=>222 | 53=>224 | 148=>225 | 70=>140 | 37=>141 | 75=>146 | 127=>213 | 164=>256 | 80=>65 | n=>n,fun | n=>n⟩
theorem Tryz.lays105:Go.Proofs.Lays.n105 Tryz.prog Tryz.lays105_ren:={
 mixed:=by kernel_rfl
 f99:=Tryz.func144.trans (congrArg some (by kernel_rfl))
 f105:=Tryz.func83.trans (congrArg some (by kernel_rfl))
 f165:=Tryz.func115.trans (congrArg some (by kernel_rfl))
 f166:=Tryz.func116.trans (congrArg some (by kernel_rfl))
 f169:=Tryz.func117.trans (congrArg some (by kernel_rfl))
 f170:=Tryz.func145.trans (congrArg some (by kernel_rfl))
 f206:=Tryz.func201.trans (congrArg some (by kernel_rfl))
 f212:=Tryz.func143.trans (congrArg some (by kernel_rfl))
 f240:=Tryz.func189.trans (congrArg some (by kernel_rfl))
 f241:=Tryz.func190.trans (congrArg some (by kernel_rfl))
 f263:=Tryz.func199.trans (congrArg some (by kernel_rfl))
 f264:=Tryz.func200.trans (congrArg some (by kernel_rfl))
 f276:=Tryz.func234.trans (congrArg some (by kernel_rfl))
 f277:=Tryz.func235.trans (congrArg some (by kernel_rfl))
 t0:=Tryz.underlying0
 a0:=Tryz.isAgg0
 z0:=Tryz.sizeOf0
 v0:=Tryz.zeroValue0
 t3:=Tryz.underlying3
 a3:=Tryz.isAgg3
 z3:=Tryz.sizeOf3
 v3:=Tryz.zeroValue3
 t4:=Tryz.underlying4
 a4:=Tryz.isAgg4
 z4:=Tryz.sizeOf4
 v4:=Tryz.zeroValue4
 t5:=Tryz.underlying5
 a5:=Tryz.isAgg5
 z5:=Tryz.sizeOf5
 v5:=Tryz.zeroValue5
 t9:=Tryz.underlying9
 a9:=Tryz.isAgg9
 z9:=Tryz.sizeOf9
 v9:=Tryz.zeroValue9
 t20:=Tryz.underlying20
 a20:=Tryz.isAgg20
 z20:=Tryz.sizeOf20
 v20:=Tryz.zeroValue20
 t37:=Tryz.underlying141
 a37:=Tryz.isAgg141
 z37:=Tryz.sizeOf141
 v37:=Tryz.zeroValue141
 t46:=Tryz.underlying180
 a46:=Tryz.isAgg180
 z46:=Tryz.sizeOf180
 v46:=Tryz.zeroValue180
 t51:=Tryz.underlying221
 a51:=Tryz.isAgg221
 z51:=Tryz.sizeOf221
 v51:=Tryz.zeroValue221
 t53:=Tryz.underlying224
 a53:=Tryz.isAgg224
 z53:=Tryz.sizeOf224
 v53:=Tryz.zeroValue224
 t70:=Tryz.underlying140
 a70:=Tryz.isAgg140
 z70:=Tryz.sizeOf140
 v70:=Tryz.zeroValue140
 t72:=Tryz.underlying143
 a72:=Tryz.isAgg143
 z72:=Tryz.sizeOf143
 v72:=Tryz.zeroValue143
 t75:=Tryz.underlying146
 a75:=Tryz.isAgg146
 z75:=Tryz.sizeOf146
 v75:=Tryz.zeroValue146
 t76:=Tryz.underlying147
 a76:=Tryz.isAgg147
 z76:=Tryz.sizeOf147
 v76:=Tryz.zeroValue147
 t109:=Tryz.underlying181
 a109:=Tryz.isAgg181
 z109:=Tryz.sizeOf181
 v109:=Tryz.zeroValue181
 t127:=Tryz.underlying213
 a127:=Tryz.isAgg213
 z127:=Tryz.sizeOf213
 v127:=Tryz.zeroValue213
 t146:=Tryz.underlying222
 a146:=Tryz.isAgg222
 z146:=Tryz.sizeOf222
 v146:=Tryz.zeroValue222
 t148:=Tryz.underlying225
 a148:=Tryz.isAgg225
 z148:=Tryz.sizeOf225
 v148:=Tryz.zeroValue225
 t164:=Tryz.underlying256
 a164:=Tryz.isAgg256
 z164:=Tryz.sizeOf256
 v164:=Tryz.zeroValue256 }
end Go.Proofs
namespace Go.Proofs.YtnfflgicngeekaaGreatDoor
open Go.RowKit Go.Shelf
end Go.Proofs.YtnfflgicngeekaaGreatDoor
namespace Go.Proofs.YtnfflgicngeekaaGreatDoor
open Go.RowKit
theorem enc_ascii (c:Nat) (h:c<128):Utf8.encode (c:Int)=⟨#[UInt8.ofNat c]⟩:=by
 have key:∀ n:Fin 128,Utf8.encode (n.val:Int)=⟨#[UInt8.ofNat n.val]⟩:=by decide +kernel
 exact key ⟨c,h⟩
def StrPost1 (w:World) (l:Str) (e:Ending) (w':World):Prop:=e = .returned (.string ⟨l.toArray⟩)∧Pure w w'
def IsB (w:World) (b:Nat) (l:Str):Prop:=Lib.IsBuilderF 143 5 b b (Lib.byteCells l) w∧b≤w.heap.size
theorem ownF_pure {w w':World} {base n size:Nat} {e:TypeId} {v:Value} {xs:List Value} (h:w.ownsRowF base e size v n xs) (hm:Pure w w'):w'.ownsRowF base e size v n xs:=by
 obtain ⟨h1,h2⟩:=h;refine ⟨h1,?_⟩
 rcases h2 with h2 | ⟨g,cap,cur,fz,hv,hg,hh,r⟩
 ·exact .inl h2
 ·exact .inr ⟨g,cap,cur,fz,hv,hg,(hm.block g (lt_of_heap hh) id).trans hh,r⟩
theorem IsB.pure {w w':World} {b:Nat} {l:Str} (h:IsB w b l) (hm:Pure w w'):IsB w' b l:=by
 obtain ⟨h1,h2⟩:=h
 have key:∀ p,Lib.BuilderAtF 143 5 b b p (Lib.byteCells l) w→Lib.BuilderAtF 143 5 b b p (Lib.byteCells l) w':=by
  rintro p ⟨k1,v,k2,k3,k4⟩;exact ⟨k1,v,(hm.block b (lt_of_heap k2) id).trans k2,ownF_pure k3 hm,k4⟩
 exact ⟨h1.elim (fun x => .inl (key _ x)) (fun x => .inr (key _ x)),Nat.le_trans h2 hm.size⟩
def Deb (w:World):Prop:=w.cell? ⟨6,15,none⟩=some (.int .u8 4)
theorem Deb.pure {w w':World} (h:Deb w) (hm:Pure w w'):Deb w':=hm.keep h id
def DigAt (arr:Array Value) (h k:Nat):Prop:=arr.size=65∧∀ j,j<k→arr[64 - j]? = some (.int .u8 ((hexD (h / 16 ^ j % 16)).toNat:Int))
theorem DigAt.step {arr:Array Value} {h k:Nat} (hd:DigAt arr h k) (hk:k<64):DigAt (arr.setIfInBounds (64 - k) (.int .u8 ((hexD (h / 16 ^ k % 16)).toNat:Int))) h (k+1):=by
 refine ⟨by simpa using hd.1,fun j hj => ?_⟩;have hs:=hd.1
 by_cases e:j=k
 ·subst e;rw [Array.getElem?_setIfInBounds_self_of_lt (by omega)]
 ·rw [Array.getElem?_setIfInBounds_ne (by omega)];exact hd.2 j (by omega)
theorem hexR_get (h:Nat):∀ (k i:Nat) (hi:i<k),(hexR h k)[i]'(by rw [hexR_len]; exact hi)=hexD (h / 16 ^ (k - 1 - i) % 16)
 | 0,i,hi=>absurd hi (by omega)
 | k+1,0,hi=>by simp [hexR]
 | k+1,i+1,hi=>by
  have:=hexR_get h k i (by omega);simp only [hexR,List.getElem_cons_succ];rw [this]
  congr 4
  omega
theorem DigAt.cells {w:World} {arr:Array Value} {h k g:Nat} (hd:DigAt arr h k) (hb:Blk w g 280 arr) (hk:k≤65):∀ j (hj:j<(hexR h k).length),w.cell? ((⟨g,65 - k,none⟩:Addr).add j)=some (.int .u8 ((hexR h k)[j].toNat:Int)):=by
 intro j hj
 have hj':j<k:=by rw [hexR_len] at hj; exact hj
 rw [hexR_get h k j hj'];have h1:=hd.2 (k - 1 - j) (by omega)
 have h2:w.cell? ⟨g,65 - k+j,none⟩=some (.int .u8 ((hexD (h / 16 ^ (k - 1 - j) % 16)).toNat:Int)):=by
  rw [hb.cell,show 65 - k+j=64 - (k - 1 - j) by omega];exact h1
 unfold Addr.add
 split
 ·rename_i e; subst e; simpa using h2
 ·exact h2
theorem bldExtra5 : Builder.Extra Tryz.prog Tryz.lays105_ren where -- 83
 sizeBuilder:=by kernel_rfl
 liesBuilder:=by kernel_rfl
 t5:=Tryz.underlying5
 a5:=Tryz.isAgg5
 z5:=Tryz.sizeOf5
 v5:=Tryz.zeroValue5
 infoByte:=by kernel_rfl
 cellsByte:=by kernel_rfl
 sizeByte:=by kernel_rfl
 neB5:=by decide
theorem bytes_app (a b:Str):(⟨a.toArray⟩:ByteArray) ++ ⟨b.toArray⟩=⟨(a ++ b).toArray⟩:=by
 apply ByteArray.ext
 rw [ByteArray.data_append];simp
def ItG (x:Itm):Prop:=x.id.length≤100∧x.cust.length≤30000∧x.name.length≤30000∧x.par.length≤30000∧x.text.length≤29000
theorem ItG.b {x:Itm} (h:ItG x):ItB x:=⟨h.1,h.2.1,h.2.2.1,h.2.2.2.1,by have:=h.2.2.2.2; omega⟩
def StrB (w:World) (b N M:Nat) (e:Ending) (w':World):Prop:=∃ s:Str,s.length≤M∧e = .returned (.string ⟨s.toArray⟩)∧Strm w' b N∧Mod (· = b) w w'
theorem someb_calls (w:World) (b N g c n:Nat) (ss:List Str) (M:Nat) (hn:n=ss.length) (hM:∀ s∈ss,s.length≤M) (hS:Strm w b N) (hN:N≤1000000000) (hx:Blk w g 9 (strsV ss).toArray) (hgb:g≠b) (h0:0<ss.length) (hl:ss.length≤1000) :
  Calls Tryz.prog 52 #[.pointer (some ⟨b,0,none⟩),.slice (some ⟨g,0,none⟩) n c] w (StrB w b (N+1) M):=by
 subst hn;refine (some_calls w b N g c ss hS hN hx hgb h0 hl).mono ?_;rintro e w' ⟨s,hs,rfl,h1,h2⟩;exact ⟨s,hM s hs,rfl,h1,h2⟩
theorem le_cons {M:Nat} {s:Str} {ss:List Str} (h:s.length≤M) (hs:∀ s∈ss,s.length≤M):∀ t∈s :: ss,t.length≤M:=fun t ht=>by
 rcases List.mem_cons.1 ht with rfl | ht
 ·exact h
 ·exact hs t ht
theorem le_nil {M:Nat}:∀ t∈([]:List Str),t.length≤M:=fun t ht=>absurd ht (by simp)
theorem repeatA_calls (w:World) (n:Nat) (h2:2≤n) (hn:n≤100000):Calls Tryz.prog 83 #[.string ⟨#[97]⟩,.int .i64 (n:Int)] w (fun e w'=>∃ s:Str,s.length=n∧e = .returned (.string ⟨s.toArray⟩)∧Pure w w'):=by
 refine (Any.strings_Repeat_main Tryz.lays105 bldExtra5 ⟨#[97]⟩ n w h2 (by omega) (by simp [ByteArray.size]; omega) (by simp [ByteArray.size])).mono ?_;rintro e w' ⟨rfl,hb⟩;refine ⟨Lib.repeatL [97] n,by rw [Lib.repeatL_length]; simp,rfl,Mod.of_below hb⟩
def itS (i:Nat):Str:=[105,97,97+UInt8.ofNat i]
theorem itemId_calls (w:World) (i:Nat) (hi:i<26):Calls Tryz.prog 53 #[.int .i64 (i:Int)] w (fun e w'=>e = .returned (.string ⟨(itS i).toArray⟩)∧Pure w w'):=by
 have e1:Utf8.encode 97=⟨#[97]⟩:=enc_ascii 97 (by omega)
 have e2:Utf8.encode (97+(i:Int))=⟨#[UInt8.ofNat (97+i)]⟩:=by
  have:=enc_ascii (97+i) (by omega)
  rwa [Int.natCast_add] at this
 have h1:(i:Int).tdiv 26=0:=by
  rw [Int.tdiv_eq_ediv_of_nonneg (by omega)]
  omega
 have h1':(i:Int) / 26=0:=(by omega)
 have h2:(i:Int).tmod 26=(i:Int):=by
  rw [Int.tmod_eq_emod_of_nonneg (by omega)]
  omega
 have h2':(i:Int) % 26=(i:Int):=(by omega)
 have hw:IntKind.i32.wrap (97+(i:Int))=97+(i:Int):=by simp [IntKind.wrap,IntKind.bits,IntKind.signed]; omega
 have hw1:IntKind.i32.wrap 97=97:=(by decide)
 go_enter Tryz.func53,Tryz.ntmps53
 go_wp2_with fail;go_ret;refine ⟨?_,Mod.refl _ _⟩;have h0:=bytes_app [105] [97];have h:=bytes_app ([105] ++ [97]) [97+UInt8.ofNat i];rw [← h0] at h;exact congrArg (fun x=>Ending.returned (Value.string x)) h
def itWords:List Str:=[[100,101,97,108],[68,101,97,108],[115,105,103,110],[115,105,103,110,101,100],[116,104,101],[102,114,105,100,97,121],[99,111,110,116,114,97,99,116],[120,49],[99,97,102,195,169],[97,110,100]]
def itSeps:List Str:=[[32],[32],[32],[44,32],[45]]
def It1 (w:World) (b N m gk:Nat) (x i:Value) (wr:World):Prop :=
 ∃ (j:Nat) (a:ByteArray),m - j=gk∧j≤m∧x = .string a∧i = .int .i64 (j:Int)∧a.size≤100*j∧Strm wr b (N+1+20*j)∧Mod (· = b) w wr
def It2 (w:World) (b N j m gk:Nat) (x i:Value) (wr:World):Prop :=
 ∃ (k:Nat) (a:ByteArray),m - k=gk∧k≤m∧x = .string a∧i = .int .i64 (k:Int)∧a.size≤100*j+10*k∧Strm wr b (N+1+20*j+1+2*k)∧Mod (· = b) w wr
theorem itemText_calls (w:World) (b N:Nat) (hS:Strm w b N) (hN:N≤900000000):Calls Tryz.prog 32 #[.pointer (some ⟨b,0,none⟩)] w (StrB w b (N+61) 300):=by
 have hbl:=hS.lt
 go_enter Tryz.func32,Tryz.ntmps32
 go_wp2_with fail;refine (pickv_calls _ b _ w.heap.size _ _ #[.int .i64 0,.int .i64 1,.int .i64 1,.int .i64 2,.int .i64 3] (hS.alloc _) (Blk.new _ _ _) (by omega) (by omega) rfl (by decide) (by decide) rfl).mono ?_;rintro e w1 ⟨m,hmem,rfl,hS1,hM1⟩
 have hm02:0≤m∧m≤3:=by
  have:m=0∨m=1∨m=1∨m=2∨m=3:=by simpa [intsOf,Go.RowKit.intOf] using hmem
  omega
 obtain ⟨hm0,hm2⟩:=hm02;obtain ⟨m,rfl⟩:=Int.eq_ofNat_of_zero_le hm0;have hm2':m≤3:=(by omega);have m1:Mod (· = b) w w1:=((Mod.refl _ _).alloc _).trans hM1;clear hmem hS hM1 hm0 hm2 hbl;go_wp2_with fail
 go_loopg [3,8] m (fun gk x i wr=>It1 w b N m gk x i wr)
 case atStart=>exact ⟨0,⟨#[]⟩,rfl,by omega,rfl,rfl,by simp [ByteArray.size],hS1.more (by omega),m1⟩
 case round =>
  clear hS1 m1;obtain ⟨j,a,rfl,hj,rfl,rfl,ha,hS1,hM1⟩:=hrel
  by_cases hlt:j<m
  ·go_wp2_with fail;refine (range_calls _ b _ _ _ hS1 (by omega) (by omega) (by omega) (by omega)).mono ?_;rintro e w2 ⟨r,hr0,hr1,rfl,hS2,hM2⟩;obtain ⟨r,rfl⟩:=Int.eq_ofNat_of_zero_le hr0;have hr6:r≤6:=(by omega);have m2:=hM1.trans hM2;clear hS1 hM1 hM2 hr0 hr1;go_wp2_with fail
   go_loopg [3,12] r (fun gk x i wr=>It2 w b N j r gk x i wr)
   case atStart=>exact ⟨0,a,rfl,by omega,rfl,rfl,by omega,hS2.more (by omega),m2⟩
   case round =>
    clear hS2 m2 ha;obtain ⟨k,a,rfl,hk,rfl,rfl,ha,hS2,m2⟩:=hrel;have hbl:=hS2.lt
    by_cases hlk:k<r
    ·by_cases hk0:k=0
     ·subst hk0;go_wp2_with fail;refine (someb_calls _ b _ _ _ _ itWords 8 rfl (by decide) (hS2.alloc _) (by omega) (Blk.new _ _ _) (by omega) (by decide) (by decide)).mono ?_;rintro e w3 ⟨s,hs,rfl,hS3,hM3⟩;have m3:=(m2.alloc _).trans hM3
      have hz:(⟨s.toArray⟩:ByteArray).size≤8:=by simpa [ByteArray.size] using hs
      generalize (⟨s.toArray⟩:ByteArray)=z at *;clear hS2 hM3 m2 hs;go_wp2_with fail
      go_roundg (r - (0+1))
      case measure=>omega
      case rel=>exact ⟨0+1,_,rfl,by omega,rfl,by simp,by rw [ByteArray.size_append]; omega,hS3.more (by omega),m3⟩
     ·have hk1:(0:Int)<(k:Int):=(by omega);go_wp2_with fail;refine (someb_calls _ b _ _ _ _ itSeps 2 rfl (by decide) (hS2.alloc _) (by omega) (Blk.new _ _ _) (by omega) (by decide) (by decide)).mono ?_;rintro e w3 ⟨s,hs,rfl,hS3,hM3⟩;have m3:=(m2.alloc _).trans hM3
      have hz:(⟨s.toArray⟩:ByteArray).size≤2:=by simpa [ByteArray.size] using hs
      generalize (⟨s.toArray⟩:ByteArray)=z at *;have hbl3:=hS3.lt
      have hza:(a ++ z).size≤100*j+10*k+2:=by rw [ByteArray.size_append]; omega
      clear hS2 hM3 m2 hs hbl;go_wp2_with fail;refine (someb_calls _ b _ _ _ _ itWords 8 rfl (by decide) (hS3.alloc _) (by omega) (Blk.new _ _ _) (by omega) (by decide) (by decide)).mono ?_;rintro e w4 ⟨s,hs,rfl,hS4,hM4⟩;have m4:=(m3.alloc _).trans hM4
      have hz2:(⟨s.toArray⟩:ByteArray).size≤8:=by simpa [ByteArray.size] using hs
      generalize (⟨s.toArray⟩:ByteArray)=z2 at *;generalize a ++ z=az at *;clear hS3 hM4 m3 hs hz ha;go_wp2_with fail
      go_roundg (r - (k+1))
      case measure=>omega
      case rel=>exact ⟨k+1,_,rfl,by omega,rfl,by simp,by rw [ByteArray.size_append]; omega,hS4.more (by omega),m4⟩
    ·obtain rfl:k=r:=by omega
     have hz1:(⟨#[10]⟩:ByteArray).size=1:=rfl;go_wp2_with fail
     go_roundg (m - (j+1))
     case measure=>omega
     case rel=>exact ⟨j+1,_,rfl,by omega,rfl,by simp,by rw [ByteArray.size_append]; omega,hS2.more (by omega),m2⟩
  ·obtain rfl:j=m:=by omega
   go_wp2_with fail;go_ret;exact ⟨a.data.toList,by simp; omega,by simp,hS1.more (by omega),hM1⟩
def someA:List Str:=[[97,110,110],[98,111,98],[99,105,100]]
def someB:List Str:=[[],[109,101,109,111],[84,104,101,32,100,101,97,108],[120,45,49,46,116,120,116]]
def ItemPostG (w:World) (b N:Nat) (e:Ending) (w':World):Prop:=∃ x:Itm,ItG x∧e = .returned (itA x)∧Strm w' b N∧Mod (· = b) w w'
def ItCut (w:World) (b N gr gx:Nat) (wx:World):Prop :=
 ∃ x:Itm,ItG x∧Blk wx gx 62 (itQ x)∧Blk wx gr 62 itZc∧Strm wx b N∧Mod (· = b) w wx
theorem item_callsG (w:World) (b N:Nat) (id:Str) (hS:Strm w b N) (hN:N≤800000000) (hid:id.length≤100):Calls Tryz.prog 30 #[.pointer (some ⟨b,0,none⟩),.string ⟨id.toArray⟩] w (ItemPostG w b (N+140)):=by
 have hbl:=hS.lt;have HR0:=hd_ (Blk.new w 62 itZc);unfold itZc at HR0
 go_enter Tryz.func30,Tryz.ntmps30
 go_wp2_with fail;refine (someb_calls _ b _ _ _ _ someA 3 rfl (by decide) ((hS.alloc _).alloc _) (by omega) (Blk.snd _ _ _ _) (by omega) (by decide) (by decide)).mono ?_;rintro e w1 ⟨s1,hs1,rfl,hS1,hM1⟩;have R1:=(HR0.out.alloc _).mod hM1 (by omega);have m1:Mod (· = b) w w1:=(((Mod.refl _ _).alloc _).alloc _).trans hM1;obtain ⟨gr,hgr⟩:∃ gr,gr=w.heap.size:=⟨_,rfl⟩;rw [← hgr] at R1 ⊢;have hgr1:=Nat.le_of_eq hgr;have hgr2:=Nat.le_of_eq hgr.symm;have hbr:b<gr:=(by omega);clear hgr HR0 hM1 hS;have hl1:=hS1.lt;go_wp2_with fail;refine (pickv_calls _ b _ w1.heap.size _ _ #[.int .i64 1,.int .i64 1,.int .i64 1,.int .i64 2,.int .i64 3,.int .i64 3,.int .i64 4] (hS1.alloc _) (Blk.new _ _ _) (by omega) (by omega) rfl (by decide) (by decide) rfl).mono ?_;rintro e w2 ⟨kd,_,rfl,hS2,hM2⟩;have R2:=(R1.alloc _).mod hM2 (by omega);have m2:=(m1.alloc _).trans hM2;clear R1 m1 hS1 hM2 hl1;have hl2:=hS2.lt;go_wp2_with fail;refine (someb_calls _ b _ _ _ _ someB 8 rfl (by decide) (hS2.alloc _) (by omega) (Blk.new _ _ _) (by omega) (by decide) (by decide)).mono ?_;rintro e w3 ⟨s3,hs3,rfl,hS3,hM3⟩;have R3:=(R2.alloc _).mod hM3 (by omega);have m3:=(m2.alloc _).trans hM3;clear R2 m2 hS2 hM3 hl2;have hl3:=hS3.lt;go_wp2_with fail;refine (pickv_calls _ b _ w3.heap.size _ _ #[.int .i64 0,.int .i64 10,.int .i64 100,.int .i64 1439,.int .i64 1440,.int .i64 5000,.int .i64 20000] (hS3.alloc _) (Blk.new _ _ _) (by omega) (by omega) rfl (by decide) (by decide) rfl).mono ?_;rintro e w4 ⟨tm,_,rfl,hS4,hM4⟩;have R4:=(R3.alloc _).mod hM4 (by omega);have m4:=(m3.alloc _).trans hM4;clear R3 m3 hS3 hM4 hl3;go_wp2_with fail;refine (itemText_calls _ b _ hS4 (by omega)).mono ?_;rintro e w5 ⟨s5,hs5,rfl,hS5,hM5⟩;have R5:=R4.mod hM5 (by omega);have m5:=m4.trans hM5;clear R4 m4 hS4 hM5;go_wp2_with fail;refine (itemText_calls _ b _ hS5 (by omega)).mono ?_;rintro e w6 ⟨s6,hs6,rfl,hS6,hM6⟩;have R6:=R5.mod hM6 (by omega);have m6:=m5.trans hM6;clear R5 m5 hS5 hM6;have hl6:=hS6.lt;go_wp2_with fail;refine (someb_calls _ b _ _ _ _ [[],[111,110,101,10],[111,110,101,10,116,119,111,10],s5,s6] 300 rfl (le_cons (by decide) (le_cons (by decide) (le_cons (by decide) (le_cons hs5 (le_cons hs6 le_nil))))) (hS6.alloc _) (by omega) (Blk.new _ _ _) (by omega) (by simp) (by simp)).mono ?_;rintro e w7 ⟨s7,hs7,rfl,hS7,hM7⟩;have R7:=(R6.alloc _).mod hM7 (by omega);have m7:=(m6.alloc _).trans hM7;clear R6 m6 hS6 hM7 hl6 hs5 hs6;have HB:=hd_ (Blk.new w7 62 (itQ ⟨id,s1,kd,s3,tm,[],s7⟩));have R8:=R7.alloc (.cells (itQ ⟨id,s1,kd,s3,tm,[],s7⟩) 62);have m8:=m7.alloc (.cells (itQ ⟨id,s1,kd,s3,tm,[],s7⟩) 62);have hS8:=hS7.alloc (.cells (itQ ⟨id,s1,kd,s3,tm,[],s7⟩) 62);have hrl:=R7.lt;have hl7:=hS7.lt;unfold itQ at HB R8 m8 hS8;simp only at HB R8 m8 hS8;have HR8:=hd_ R8;have Hm8:=hd_ m8;have HS8:=hd_ hS8;clear R7 m7 hS7 R8 m8 hS8;go_wp2_with fail;refine (flip_calls _ b _ _ HS8.out (by omega) (by omega) (by omega)).mono ?_;rintro e w9 ⟨fl,rfl,hS9,hM9⟩;have B9:=HB.out.mod hM9 (by omega);have R9:=HR8.out.mod hM9 (by omega);have m9:=Hm8.out.trans hM9;generalize w7.heap.size=gx at *;clear HB HR8 Hm8 HS8 hM9
 go_upto_if 28 with (fail)
 go_cut [] (fun wx=>ItCut w b (N+140) gr gx wx)
 case first =>
  cases fl
  ·go_wp2_with fail;go_meet;exact ⟨⟨id,s1,kd,s3,tm,[],s7⟩,⟨by show id.length≤_; omega,by show s1.length≤_; omega,by show s3.length≤_; omega,by simp,by show s7.length≤_; omega⟩,B9,R9,hS9.more (by omega),m9⟩
  go_wp2_with fail;refine (next_calls _ b _ _ hS9 (by omega) (by omega) (by omega)).mono ?_;rintro e w10 ⟨k,hk0,hk1,rfl,hS10,hM10⟩;have B10:=B9.mod hM10 (by omega);have R10:=R9.mod hM10 (by omega);have m10:=m9.trans hM10;have hl10:=hS10.lt;clear B9 R9 m9 hS9 hM10
  have HST:Hid (∀ (W:World) (j:Nat) (u:Value),b<gx→Strm W b (N+140)→Mod (· = b) w W→Blk W gr 62 itZc→Strm (W.setCell ⟨gx,j,none⟩ u) b (N+140)∧Mod (· = b) w (W.setCell ⟨gx,j,none⟩ u)∧Blk (W.setCell ⟨gx,j,none⟩ u) gr 62 itZc) :=
   hd_ (fun W j u h1 h2 h3 h4=>⟨h2.setCell h1 _,h3.setCell (p:=⟨gx,j,none⟩) (.inr (by show _≤gx; omega)) _,h4.far (p:=⟨gx,j,none⟩) (by show gr≠gx; omega) _⟩)
  by_cases k0:k=0
  ·subst k0;go_wp2_with fail;refine (someb_calls _ b _ _ _ _ [[],[65],id] 100 rfl (le_cons (by decide) (le_cons (by decide) (le_cons hid le_nil))) (hS10.alloc _) (by omega) (Blk.new _ _ _) (by omega) (by simp) (by simp)).mono ?_;rintro e w11 ⟨t1,ht1,rfl,hS11,hM11⟩;have B11:=(B10.alloc _).mod hM11 (by omega);have R11:=(R10.alloc _).mod hM11 (by omega);have m11:=(m10.alloc _).trans hM11;have hl11:=hS11.lt;clear B10 R10 m10 hS10 hM11;go_wp2_with fail;refine (someb_calls _ b _ _ _ _ [[],[65,110,110],[97,110,110]] 3 rfl (by decide) (hS11.alloc _) (by omega) (Blk.new _ _ _) (by omega) (by simp) (by simp)).mono ?_;rintro e w12 ⟨t2,ht2,rfl,hS12,hM12⟩;have B12:=(B11.alloc _).mod hM12 (by omega);have R12:=(R11.alloc _).mod hM12 (by omega);have m12:=(m11.alloc _).trans hM12;clear B11 R11 m11 hS11 hM12;have HB:=hd_ B12;obtain ⟨c0,c1,c2,c3,c4,c5,c6,cf0,cf1,cf2,cf3,cf4,cf5,cf6⟩:=B12.c7f;clear B12;go_wp2_with fail;go_meet;obtain ⟨a1,a2,a3⟩:=HST.out _ 0 (.string ⟨t1.toArray⟩) (by omega) (hS12.more (by omega)) m12 R12;obtain ⟨d1,d2,d3⟩:=HST.out _ 1 (.string ⟨t2.toArray⟩) (by omega) a1 a2 a3;exact ⟨⟨t1,t2,kd,s3,tm,[],s7⟩,⟨by show t1.length≤_; omega,by show t2.length≤_; omega,by show s3.length≤_; omega,by simp,by show s7.length≤_; omega⟩,by have:=(HB.out.set 0 (.string ⟨t1.toArray⟩)).set 1 (.string ⟨t2.toArray⟩); simpa [itQ] using this,d3,d1,d2⟩
  have k0':(k == 0)=false:=(by simpa using k0)
  by_cases k1:k=1
  ·subst k1;go_wp2_with fail;refine (odd_calls _ b _ _ _ hS10 (by omega) (by omega) (by omega) (by omega)).mono ?_;rintro e w11 ⟨z,_,_,rfl,hS11,hM11⟩;have B11:=B10.mod hM11 (by omega);have R11:=R10.mod hM11 (by omega);have m11:=m10.trans hM11;clear B10 R10 m10 hS10 hM11;have HB:=hd_ B11;obtain ⟨c0,c1,c2,c3,c4,c5,c6,cf0,cf1,cf2,cf3,cf4,cf5,cf6⟩:=B11.c7f;clear B11;go_wp2_with fail;go_meet;obtain ⟨a1,a2,a3⟩:=HST.out _ 2 (.int .i64 z) (by omega) (hS11.more (by omega)) m11 R11;exact ⟨⟨id,s1,z,s3,tm,[],s7⟩,⟨by show id.length≤_; omega,by show s1.length≤_; omega,by show s3.length≤_; omega,by simp,by show s7.length≤_; omega⟩,by have:=HB.out.set 2 (.int .i64 z); simpa [itQ] using this,a3,a1,a2⟩
  have k1':(k == 1)=false:=(by simpa using k1)
  by_cases k2:k=2
  ·subst k2;go_wp2_with fail;refine (pickv_calls _ b _ w10.heap.size _ _ #[.int .i64 120,.int .i64 121] (hS10.alloc _) (Blk.new _ _ _) (by omega) (by omega) rfl (by decide) (by decide) rfl).mono ?_;rintro e w11 ⟨z,hz,rfl,hS11,hM11⟩
   have hz2:2≤z∧z≤200:=by
    have:z=120∨z=121:=by simpa [intsOf,Go.RowKit.intOf] using hz
    omega
   obtain ⟨z,rfl⟩:=Int.eq_ofNat_of_zero_le (by omega:0≤z);have B11:=(B10.alloc _).mod hM11 (by omega);have R11:=(R10.alloc _).mod hM11 (by omega);have m11:=(m10.alloc _).trans hM11;clear B10 R10 m10 hS10 hM11 hz;go_wp2_with fail;refine (repeatA_calls _ z (by omega) (by omega)).mono ?_;rintro e w12 ⟨t1,ht1,rfl,hM12⟩;have B12:=B11.mod hM12 _root_.id;have R12:=R11.mod hM12 _root_.id;have m12:=m11.transp hM12;have hS12:=hS11.pure hM12;have hl12:=hS12.lt;have ht1':t1.length≤200:=(by omega);clear B11 R11 m11 hS11 hM12 ht1 hz2;go_wp2_with fail;refine (someb_calls _ b _ _ _ _ [[32,97],[97,32,32,98],[97,10],[255],t1] 200 rfl (le_cons (by decide) (le_cons (by decide) (le_cons (by decide) (le_cons (by decide) (le_cons ht1' le_nil))))) (hS12.alloc _) (by omega) (Blk.new _ _ _) (by omega) (by simp) (by simp)).mono ?_;rintro e w13 ⟨t2,ht2,rfl,hS13,hM13⟩;have B13:=(B12.alloc _).mod hM13 (by omega);have R13:=(R12.alloc _).mod hM13 (by omega);have m13:=(m12.alloc _).trans hM13;clear B12 R12 m12 hS12 hM13;have HB:=hd_ B13;obtain ⟨c0,c1,c2,c3,c4,c5,c6,cf0,cf1,cf2,cf3,cf4,cf5,cf6⟩:=B13.c7f;clear B13;go_wp2_with fail;go_meet;obtain ⟨a1,a2,a3⟩:=HST.out _ 3 (.string ⟨t2.toArray⟩) (by omega) (hS13.more (by omega)) m13 R13;exact ⟨⟨id,s1,kd,t2,tm,[],s7⟩,⟨by show id.length≤_; omega,by show s1.length≤_; omega,by show t2.length≤_; omega,by simp,by show s7.length≤_; omega⟩,by have:=HB.out.set 3 (.string ⟨t2.toArray⟩); simpa [itQ] using this,a3,a1,a2⟩
  have k2':(k == 2)=false:=(by simpa using k2)
  by_cases k3:k=3
  ·subst k3;go_wp2_with fail;refine (odd_calls _ b _ _ _ hS10 (by omega) (by omega) (by omega) (by omega)).mono ?_;rintro e w11 ⟨z,_,_,rfl,hS11,hM11⟩;have B11:=B10.mod hM11 (by omega);have R11:=R10.mod hM11 (by omega);have m11:=m10.trans hM11;clear B10 R10 m10 hS10 hM11;have HB:=hd_ B11;obtain ⟨c0,c1,c2,c3,c4,c5,c6,cf0,cf1,cf2,cf3,cf4,cf5,cf6⟩:=B11.c7f;clear B11;go_wp2_with fail;go_meet;obtain ⟨a1,a2,a3⟩:=HST.out _ 4 (.int .i64 z) (by omega) (hS11.more (by omega)) m11 R11;exact ⟨⟨id,s1,kd,s3,z,[],s7⟩,⟨by show id.length≤_; omega,by show s1.length≤_; omega,by show s3.length≤_; omega,by simp,by show s7.length≤_; omega⟩,by have:=HB.out.set 4 (.int .i64 z); simpa [itQ] using this,a3,a1,a2⟩
  have k3':(k == 3)=false:=(by simpa using k3)
  by_cases k4:k=4
  ·subst k4;go_wp2_with fail;refine (someb_calls _ b _ _ _ _ [[65],id,[57]] 100 rfl (le_cons (by decide) (le_cons hid (le_cons (by decide) le_nil))) (hS10.alloc _) (by omega) (Blk.new _ _ _) (by omega) (by simp) (by simp)).mono ?_;rintro e w11 ⟨t1,ht1,rfl,hS11,hM11⟩;have B11:=(B10.alloc _).mod hM11 (by omega);have R11:=(R10.alloc _).mod hM11 (by omega);have m11:=(m10.alloc _).trans hM11;clear B10 R10 m10 hS10 hM11;have HB:=hd_ B11;obtain ⟨c0,c1,c2,c3,c4,c5,c6,cf0,cf1,cf2,cf3,cf4,cf5,cf6⟩:=B11.c7f;clear B11;go_wp2_with fail;go_meet;obtain ⟨a1,a2,a3⟩:=HST.out _ 5 (.string ⟨t1.toArray⟩) (by omega) (hS11.more (by omega)) m11 R11;exact ⟨⟨id,s1,kd,s3,tm,t1,s7⟩,⟨by show id.length≤_; omega,by show s1.length≤_; omega,by show s3.length≤_; omega,by show t1.length≤_; omega,by show s7.length≤_; omega⟩,by have:=HB.out.set 5 (.string ⟨t1.toArray⟩); simpa [itQ] using this,a3,a1,a2⟩
  have k4':(k == 4)=false:=(by simpa using k4);go_wp2_with fail;refine (pickv_calls _ b _ w10.heap.size _ _ #[.int .i64 19999,.int .i64 20000] (hS10.alloc _) (Blk.new _ _ _) (by omega) (by omega) rfl (by decide) (by decide) rfl).mono ?_;rintro e w11 ⟨z,hz,rfl,hS11,hM11⟩
  have hz2:2≤z∧z≤20000:=by
   have:z=19999∨z=20000:=by simpa [intsOf,Go.RowKit.intOf] using hz
   omega
  obtain ⟨z,rfl⟩:=Int.eq_ofNat_of_zero_le (by omega:0≤z);have B11:=(B10.alloc _).mod hM11 (by omega);have R11:=(R10.alloc _).mod hM11 (by omega);have m11:=(m10.alloc _).trans hM11;clear B10 R10 m10 hS10 hM11 hz;go_wp2_with fail;refine (repeatA_calls _ z (by omega) (by omega)).mono ?_;rintro e w12 ⟨t1,ht1,rfl,hM12⟩;have B12:=B11.mod hM12 _root_.id;have R12:=R11.mod hM12 _root_.id;have m12:=m11.transp hM12;have hS12:=hS11.pure hM12;have hl12:=hS12.lt
  have ht1':(t1 ++ [10]).length≤20001:=by simp; omega
  have hap:=bytes_app t1 [10]
  have hsz:(⟨t1.toArray⟩:ByteArray).size≤20000:=by simp [ByteArray.size]; omega
  have HAP:Hid ((⟨t1.toArray⟩:ByteArray) ++ ⟨#[10]⟩=⟨(t1 ++ [10]).toArray⟩):=hd_ hap;clear B11 R11 m11 hS11 hM12 ht1 hz2 hap;generalize t1 ++ [10]=t3 at *;generalize (⟨t1.toArray⟩:ByteArray)=z1 at *;go_wp2_with fail;rw [HAP.out];refine (someb_calls _ b _ _ _ _ [[110,111,32,101,110,100],[1,10],[127,10],[255,10],t3] 20001 rfl (le_cons (by decide) (le_cons (by decide) (le_cons (by decide) (le_cons (by decide) (le_cons ht1' le_nil))))) (hS12.alloc _) (by omega) (Blk.new _ _ _) (by omega) (by simp) (by simp)).mono ?_;rintro e w13 ⟨t2,ht2,rfl,hS13,hM13⟩;have B13:=(B12.alloc _).mod hM13 (by omega);have R13:=(R12.alloc _).mod hM13 (by omega);have m13:=(m12.alloc _).trans hM13;clear B12 R12 m12 hS12 hM13;have HB:=hd_ B13;obtain ⟨c0,c1,c2,c3,c4,c5,c6,cf0,cf1,cf2,cf3,cf4,cf5,cf6⟩:=B13.c7f;clear B13;go_wp2_with fail;go_meet;obtain ⟨a1,a2,a3⟩:=HST.out _ 6 (.string ⟨t2.toArray⟩) (by omega) (hS13.more (by omega)) m13 R13;exact ⟨⟨id,s1,kd,s3,tm,[],t2⟩,⟨by show id.length≤_; omega,by show s1.length≤_; omega,by show s3.length≤_; omega,by simp,by show t2.length≤_; omega⟩,by have:=HB.out.set 6 (.string ⟨t2.toArray⟩); simpa [itQ] using this,a3,a1,a2⟩
 case rest =>
  clear B9 R9 m9 hS9;obtain ⟨⟨y0,y1,y2,y3,y4,y5,y6⟩,hy,B,R,hS,hm⟩:=hcut;unfold itQ at B;unfold itZc at R;simp only at B;have HR:=hd_ R;obtain ⟨c0,c1,c2,c3,c4,c5,c6⟩:=B.c7;obtain ⟨d0,d1,d2,d3,d4,d5,d6,df0,df1,df2,df3,df4,df5,df6⟩:=R.c7f;clear B R;go_wp2_with fail;have q:=HR.out.set7 (x0:=.string ⟨y0.toArray⟩) (x1:=.string ⟨y1.toArray⟩) (x2:=.int .i64 y2) (x3:=.string ⟨y3.toArray⟩) (x4:=.int .i64 y4) (x5:=.string ⟨y5.toArray⟩) (x6:=.string ⟨y6.toArray⟩);have hm7:=Mod.set7 wc gr (.string ⟨y0.toArray⟩) (.string ⟨y1.toArray⟩) (.int .i64 y2) (.string ⟨y3.toArray⟩) (.int .i64 y4) (.string ⟨y5.toArray⟩) (.string ⟨y6.toArray⟩);obtain ⟨r0,r1,r2,r3,r4,r5,r6⟩:=q.c7;refine bodyPost_ret (v:=itA ⟨y0,y1,y2,y3,y4,y5,y6⟩) (by simp [results,Tryz.results30,go_sem,itA,r0,r1,r2,r3,r4,r5,r6]) rfl ?_;exact ⟨_,hy,rfl,hS.mod hm7 (fun i hi=>by omega),hm.trans' hm7 (fun i hi hlt=>by omega)⟩
def patA:List Str:=[[],[42],[63,97],[97,42,98],[65],[97,110,100],[97,32,98],[48,49,50,51,52,53,54,55,56,57,48,49,50,51,52,53,54,55,56,57,48,49,50,51,52,53,54,55,56,57,48,49,50,51,52,53,54,55,56,57],[48,49,50,51,52,53,54,55,56,57,48,49,50,51,52,53,54,55,56,57,48,49,50,51,52,53,54,55,56,57,48,49,50,51,52,53,54,55,56,57,48]]
def patBs:List Str:=[[100,101,97,108],[115,105,103,110],[115,105,103,110,42],[116,104,101],[102,114,105,42],[102,114,105,100,97,121],[100,63,97,108],[99,111,110,116,114,97,99,116],[120,49],[99,97,102,42],[110,111,116,104,105,110,103],[115,63,63,63,101,100]]
theorem pattern_calls (w:World) (b N:Nat) (hS:Strm w b N) (hN:N≤900000000):Calls Tryz.prog 102 #[.pointer (some ⟨b,0,none⟩)] w (StrB w b (N+2) 41):=by
 have hF:=flip_calls w b N 40 hS (by omega) (by omega) (by omega);have HA:Hid (∀ w,Strm w b (N+1)→Calls Tryz.prog 52 #[.pointer (some ⟨b,0,none⟩),.slice (some ⟨w.heap.size,0,none⟩) 9 9] (w.alloc (.cells (strsV patA).toArray 9)) (StrB (w.alloc (.cells (strsV patA).toArray 9)) b (N+1+1) 41)):=hd_ (fun w h=>someb_calls _ b (N+1) w.heap.size 9 9 patA 41 rfl (by decide) (h.alloc _) (by omega) (Blk.new _ _ _) (by have:=h.lt; omega) (by decide) (by decide));have HB:Hid (∀ w,Strm w b (N+1)→Calls Tryz.prog 52 #[.pointer (some ⟨b,0,none⟩),.slice (some ⟨w.heap.size,0,none⟩) 12 12] (w.alloc (.cells (strsV patBs).toArray 9)) (StrB (w.alloc (.cells (strsV patBs).toArray 9)) b (N+1+1) 41)):=hd_ (fun w h=>someb_calls _ b (N+1) w.heap.size 12 12 patBs 41 rfl (by decide) (h.alloc _) (by omega) (Blk.new _ _ _) (by have:=h.lt; omega) (by decide) (by decide));have HPS:Hid (∀ {w1 w':World} {o:Obj},Mod (· = b) w w1→Mod (· = b) (w1.alloc o) w'→Mod (· = b) w w'):=hd_ (fun h k=>(h.trans (Mod.of_pure (pure_alloc _ _))).trans k);have hb:=hS.lt;clear hS
 go_enter Tryz.func102,Tryz.ntmps102
 go_wp2_with fail;refine hF.mono ?_;rintro e w1 ⟨f,rfl,hS1,hM1⟩;have HM1:=hd_ hM1;clear hF hM1
 cases f
 ·have HC:=hd_ (HB.out w1 hS1);unfold patBs strsV at HC;simp only [List.map_cons,List.map_nil] at HC;clear HA HB;go_wp2_with fail;refine HC.out.mono ?_;rintro e w2 ⟨s,hs,rfl,hS2,hM2⟩;go_wp2_with fail;go_ret;exact ⟨s,hs,rfl,hS2,HPS.out HM1.out hM2⟩
 ·have HC:=hd_ (HA.out w1 hS1);unfold patA strsV at HC;simp only [List.map_cons,List.map_nil] at HC;clear HA HB;go_wp2_with fail;refine HC.out.mono ?_;rintro e w2 ⟨s,hs,rfl,hS2,hM2⟩;go_wp2_with fail
  try simp only [Exit.inBlock,Exit.then]
  refine bodyPost_ret (v:=.string ⟨s.toArray⟩) (by simp [results,Tryz.results102,go_sem]) rfl ?_;exact ⟨s,hs,rfl,hS2,HPS.out HM1.out hM2⟩
inductive QFr (base:Nat):QR→Prop
 | mk {k:Int} {A:Option Addr} {c:Nat} {ws:List Str} {n:Int} {B:Option Addr} {d:Nat} {xs:List QR} (h:xs≠[]→∃ g off,B=some ⟨g,off,none⟩∧base≤g) (hs:∀ a∈xs,QFr base a):QFr base (.mk k A c ws n B d xs)
theorem QFr.up {b1 b2:Nat} {q:QR} (h:QFr b2 q) (hb:b1≤b2):QFr b1 q:=by
 induction h with
 | mk h hs ih=>exact .mk (fun hx=>by obtain ⟨g,off,e,hg⟩:=h hx; exact ⟨g,off,e,by omega⟩) ih
inductive QZ:QR→Prop
 | mk {k:Int} {A:Option Addr} {c:Nat} {ws:List Str} {n:Int} {B:Option Addr} {d:Nat} {xs:List QR} (h:∀ g off sp,B=some ⟨g,off,sp⟩→sp=none) (hs:∀ a∈xs,QZ a):QZ (.mk k A c ws n B d xs)
theorem QS.modF {w w':World} {S:Nat→Prop} {base:Nat} {q:QR} (h:QS w q) (hf:QFr base q) (hm:Mod S w w') (h1:∀ g arr fr,w.heap[g]? = some (.cells arr 9 fr)→¬ S g) (h2:∀ g,base≤g→¬ S g):QS w' q:=by
 induction h with
 | mk hw ha hs ih =>
  cases hf with
  | mk hx hfs =>
   refine .mk (Sl.mod hw hm h1) ?_ (fun a haa=>ih a haa (hfs a haa));obtain ⟨A',n',c',he,hle,hc,hl,hr⟩:=ha;refine ⟨A',n',c',he,hle,hc,hl,fun hn => ?_⟩;obtain ⟨g,off,hA,hrow⟩:=hr hn
   injection he with e1 e2 e3
   subst e1 e2 e3
   rename_i xs _
   obtain ⟨g',off',hB,hg⟩:=hx (by intro e; subst e; simp at hn);rw [hA] at hB
   injection hB with hB
   injection hB with hg'
   exact ⟨g,off,hA,hrow.mod hm (h2 g (by omega))⟩
theorem QS.strm {w w':World} {b N:Nat} {q:QR} (h:QS w q) (hS:Strm w b N) (hm:Mod (· = b) w w'):QS w' q:=by
 induction h with
 | mk hw ha hs ih=>exact .mk (hw.strm hS hm (by decide)) (ha.strm hS hm (by decide)) ih
def QgP (w:World) (b N M:Nat) (e:Ending) (w':World):Prop:=∃ qr:QR,e = .returned (qA qr)∧QS w' qr∧QFr w.heap.size qr∧QB 100 qr.key∧qSize qr.key≤M∧Strm w' b N∧Mod (· = b) w w'∧QZ qr
theorem lowerQ_calls (w:World) (s:Str) (hs:s.length≤1000000):Calls Tryz.prog 184 #[.string ⟨s.toArray⟩] w (StrPost1 w (lowS s)):=by
 have hcv:=fun W s=>Lib.run_convert_string_bytes (P:=Tryz.prog) W 9 141 5 s Tryz.underlying9 Tryz.underlying141 Tryz.underlying5
 have hz:(⟨s.toArray⟩:ByteArray).size=s.length:=by simp [ByteArray.size]
 have hB:=BufB.new w s;have hP:=bytes_pure w 5 ⟨s.toArray⟩;obtain ⟨n,hn⟩:∃ n,n=s.length:=⟨_,rfl⟩;rw [← hn] at hz hs;have HN:=hd_ hn;clear hn
 go_enter Tryz.func184,Tryz.ntmps184
 go_wp2_with fail;clear hcv;generalize Lib.bytesWorld w 5 ⟨s.toArray⟩=W0 at *;generalize (Lib.bytesCells w 5 ⟨s.toArray⟩).size=cap at *;generalize grownCap w n 0 5=cp at *;have HB:=hd_ hB;have HP:=hd_ hP;clear hB hP hz;generalize hgg:w.heap.size=g at *;have hge:w.heap.size≤g:=Nat.le_of_eq hgg;clear hgg
 go_loopg [10] n (fun gk i wr=>∃ k:Nat,n - k=gk∧k≤n∧i = .int .i64 (k:Int)∧BufB wr g cap (lowS (s.take k) ++ s.drop k)∧Mod (· = g) W0 wr)
 case atStart=>exact ⟨0,by omega,by omega,rfl,by simpa [lowS] using HB.out,Mod.refl _ _⟩
 case round =>
  clear HB;obtain ⟨k,rfl,hk,rfl,hb,hm⟩:=hrel
  by_cases hlt:k<n
  ·have hlt2:k<s.length:=by rw [← HN.out]; exact hlt
   have hkl:k<(lowS (s.take k) ++ s.drop k).length:=by rw [lowS_len]; exact hlt2
   have hc:=hb.cell hkl;have hf:=hb.frozen hkl
   have he:(lowS (s.take k) ++ s.drop k)[k]=s[k]:=by
    have h:=lowS_getD hlt2;rw [List.getElem?_eq_getElem hkl] at h;exact Option.some.inj h
   rw [he] at hc;have HS:=hd_ (lowS_step hlt2);have HM:=hd_ hm;have HSET:=hd_ (fun c=>hb.set hkl c);have hcb:s[k].toNat<256:=s[k].toNat_lt;have HLB:=hd_ (lowB_nat s[k]);have HSM:=hd_ (fun (h:¬ ((65:Int)≤(s[k].toNat:Int)∧(s[k].toNat:Int)≤90))=>lowB_same h);obtain ⟨c,hcc⟩:∃ c,s[k]=c:=⟨_,rfl⟩;rw [hcc] at hc hcb HS HLB HSM he;have hb2:Hid (c=s[k]):=hd_ hcc.symm;have HBB:=hd_ hb;clear hcc hb hm
   by_cases h1:(65:Int)≤(c.toNat:Int)
   ·by_cases h2:(c.toNat:Int)≤90
    ·have e:=HLB.out;rw [if_pos ⟨h1,h2⟩] at e
     have hw8:IntKind.u8.wrap ((c.toNat:Int)+32)=(c.toNat:Int)+32:=by simp [IntKind.wrap,IntKind.bits,IntKind.signed]; omega
     have hnb:=HSET.out (lowB c);rw [e,HS.out] at hnb;have HNB:=hd_ hnb;have HM2:=hd_ (HM.out.setCell (p:=⟨g,k,none⟩) (.inl rfl) (.int .u8 ((c.toNat:Int)+32)));clear hnb e HSET HLB HSM HS HBB he hkl;generalize c.toNat=cn at *;go_wp2_with fail
     go_roundg (n - (k+1))
     case measure=>omega
     case rel=>exact ⟨k+1,rfl,by omega,by simp,HNB.out,HM2.out⟩
    ·have e:=HSM.out (fun h=>h2 h.2)
     have HNB:Hid (BufB wr g cap (lowS (s.take (k+1)) ++ s.drop (k+1))):=hd_ (by
      rw [← HS.out,e]
      have h:(lowS (s.take k) ++ s.drop k).set k c=lowS (s.take k) ++ s.drop k:=by
       rw [← he];exact List.set_getElem_self hkl
      rw [h]
      exact HBB.out)
     clear e HSET HLB HSM HS HBB he hkl;generalize c.toNat=cn at *;go_wp2_with fail
     go_roundg (n - (k+1))
     case measure=>omega
     case rel=>exact ⟨k+1,rfl,by omega,by simp,HNB.out,HM.out⟩
   ·have e:=HSM.out (fun h=>h1 h.1)
    have HNB:Hid (BufB wr g cap (lowS (s.take (k+1)) ++ s.drop (k+1))):=hd_ (by
     rw [← HS.out,e]
     have h:(lowS (s.take k) ++ s.drop k).set k c=lowS (s.take k) ++ s.drop k:=by
      rw [← he];exact List.set_getElem_self hkl
     rw [h]
     exact HBB.out)
    clear e HSET HLB HSM HS HBB he hkl;generalize c.toNat=cn at *;go_wp2_with fail
    go_roundg (n - (k+1))
    case measure=>omega
    case rel=>exact ⟨k+1,rfl,by omega,by simp,HNB.out,HM.out⟩
  ·obtain rfl:k=n:=by omega
   have e:lowS (s.take k) ++ s.drop k=lowS s:=by
    rw [HN.out,List.take_length,List.drop_length,List.append_nil]
   rw [e] at hb
   have hl:(lowS s).length=k:=by rw [HN.out]; simp [lowS]
   have HPW:Hid (Pure w wr):=hd_ (HP.out.trans' hm (fun i hi hlt=>by omega))
   have hcv2:=run_convert_bytes_back (P:=Tryz.prog) wr 141 9 5 ⟨g,0,none⟩ cp (lowS s) Tryz.underlying141 Tryz.underlying5 Tryz.underlying9 (fun j hj=>by
    have h:=hb.cell hj
    by_cases h0:j=0
    ·subst h0; simpa [Addr.add] using h
    ·simpa [Addr.add,h0] using h)
   rw [hl] at hcv2;clear hb hm e hl hlt;go_wp2_with fail;go_ret;exact ⟨rfl,HPW.out⟩
theorem smallR_calls (w:World) (s:Str) (hs:s.length≤1000000):Calls Tryz.prog 162 #[.string ⟨s.toArray⟩] w (StrPost1 w (lowS s)):=by
 have hcv:=fun W s=>Lib.run_convert_string_bytes (P:=Tryz.prog) W 9 141 5 s Tryz.underlying9 Tryz.underlying141 Tryz.underlying5
 have hz:(⟨s.toArray⟩:ByteArray).size=s.length:=by simp [ByteArray.size]
 have hB:=BufB.new w s;have hP:=bytes_pure w 5 ⟨s.toArray⟩;obtain ⟨n,hn⟩:∃ n,n=s.length:=⟨_,rfl⟩;rw [← hn] at hz hs;have HN:=hd_ hn;clear hn
 go_enter Tryz.func162,Tryz.ntmps162
 go_wp2_with fail;clear hcv;generalize Lib.bytesWorld w 5 ⟨s.toArray⟩=W0 at *;generalize (Lib.bytesCells w 5 ⟨s.toArray⟩).size=cap at *;generalize grownCap w n 0 5=cp at *;have HB:=hd_ hB;have HP:=hd_ hP;clear hB hP hz;generalize hgg:w.heap.size=g at *;have hge:w.heap.size≤g:=Nat.le_of_eq hgg;clear hgg
 go_loopg [10] n (fun gk i wr=>∃ k:Nat,n - k=gk∧k≤n∧i = .int .i64 (k:Int)∧BufB wr g cap (lowS (s.take k) ++ s.drop k)∧Mod (· = g) W0 wr)
 case atStart=>exact ⟨0,by omega,by omega,rfl,by simpa [lowS] using HB.out,Mod.refl _ _⟩
 case round =>
  clear HB;obtain ⟨k,rfl,hk,rfl,hb,hm⟩:=hrel
  by_cases hlt:k<n
  ·have hlt2:k<s.length:=by rw [← HN.out]; exact hlt
   have hkl:k<(lowS (s.take k) ++ s.drop k).length:=by rw [lowS_len]; exact hlt2
   have hc:=hb.cell hkl;have hf:=hb.frozen hkl
   have he:(lowS (s.take k) ++ s.drop k)[k]=s[k]:=by
    have h:=lowS_getD hlt2;rw [List.getElem?_eq_getElem hkl] at h;exact Option.some.inj h
   rw [he] at hc;have HS:=hd_ (lowS_step hlt2);have HM:=hd_ hm;have HSET:=hd_ (fun c=>hb.set hkl c);have hcb:s[k].toNat<256:=s[k].toNat_lt;have HLB:=hd_ (lowB_nat s[k]);have HSM:=hd_ (fun (h:¬ ((65:Int)≤(s[k].toNat:Int)∧(s[k].toNat:Int)≤90))=>lowB_same h);obtain ⟨c,hcc⟩:∃ c,s[k]=c:=⟨_,rfl⟩;rw [hcc] at hc hcb HS HLB HSM he;have hb2:Hid (c=s[k]):=hd_ hcc.symm;have HBB:=hd_ hb;clear hcc hb hm
   by_cases h1:(65:Int)≤(c.toNat:Int)
   ·by_cases h2:(c.toNat:Int)≤90
    ·have e:=HLB.out;rw [if_pos ⟨h1,h2⟩] at e
     have hw8:IntKind.u8.wrap ((c.toNat:Int)+32)=(c.toNat:Int)+32:=by simp [IntKind.wrap,IntKind.bits,IntKind.signed]; omega
     have hnb:=HSET.out (lowB c);rw [e,HS.out] at hnb;have HNB:=hd_ hnb;have HM2:=hd_ (HM.out.setCell (p:=⟨g,k,none⟩) (.inl rfl) (.int .u8 ((c.toNat:Int)+32)));clear hnb e HSET HLB HSM HS HBB he hkl;generalize c.toNat=cn at *;go_wp2_with fail
     go_roundg (n - (k+1))
     case measure=>omega
     case rel=>exact ⟨k+1,rfl,by omega,by simp,HNB.out,HM2.out⟩
    ·have e:=HSM.out (fun h=>h2 h.2)
     have HNB:Hid (BufB wr g cap (lowS (s.take (k+1)) ++ s.drop (k+1))):=hd_ (by
      rw [← HS.out,e]
      have h:(lowS (s.take k) ++ s.drop k).set k c=lowS (s.take k) ++ s.drop k:=by
       rw [← he];exact List.set_getElem_self hkl
      rw [h]
      exact HBB.out)
     clear e HSET HLB HSM HS HBB he hkl;generalize c.toNat=cn at *;go_wp2_with fail
     go_roundg (n - (k+1))
     case measure=>omega
     case rel=>exact ⟨k+1,rfl,by omega,by simp,HNB.out,HM.out⟩
   ·have e:=HSM.out (fun h=>h1 h.1)
    have HNB:Hid (BufB wr g cap (lowS (s.take (k+1)) ++ s.drop (k+1))):=hd_ (by
     rw [← HS.out,e]
     have h:(lowS (s.take k) ++ s.drop k).set k c=lowS (s.take k) ++ s.drop k:=by
      rw [← he];exact List.set_getElem_self hkl
     rw [h]
     exact HBB.out)
    clear e HSET HLB HSM HS HBB he hkl;generalize c.toNat=cn at *;go_wp2_with fail
    go_roundg (n - (k+1))
    case measure=>omega
    case rel=>exact ⟨k+1,rfl,by omega,by simp,HNB.out,HM.out⟩
  ·obtain rfl:k=n:=by omega
   have e:lowS (s.take k) ++ s.drop k=lowS s:=by
    rw [HN.out,List.take_length,List.drop_length,List.append_nil]
   rw [e] at hb
   have hl:(lowS s).length=k:=by rw [HN.out]; simp [lowS]
   have HPW:Hid (Pure w wr):=hd_ (HP.out.trans' hm (fun i hi hlt=>by omega))
   have hcv2:=run_convert_bytes_back (P:=Tryz.prog) wr 141 9 5 ⟨g,0,none⟩ cp (lowS s) Tryz.underlying141 Tryz.underlying5 Tryz.underlying9 (fun j hj=>by
    have h:=hb.cell hj
    by_cases h0:j=0
    ·subst h0; simpa [Addr.add] using h
    ·simpa [Addr.add,h0] using h)
   rw [hl] at hcv2;clear hb hm e hl hlt;go_wp2_with fail;go_ret;exact ⟨rfl,HPW.out⟩
def wdC (x:Wd):List Value:=[.int .i64 (x.1.1:Int),.int .i64 (x.1.2:Int),.string ⟨x.2.toArray⟩]
def wdV (l:List Wd):List Value:=l.flatMap wdC
theorem wdV_len:∀ l:List Wd,(wdV l).length=l.length*3
 | []=>rfl
 | x :: t=>by
  show (wdC x ++ wdV t).length=_
  rw [List.length_append,wdV_len t];simp [wdC]
  omega
theorem wdV_get:∀ (l:List Wd) (i:Nat) (h:i<l.length),(wdV l)[i*3]? = some (.int .i64 (l[i].1.1:Int))∧(wdV l)[i*3+1]? = some (.int .i64 (l[i].1.2:Int))∧(wdV l)[i*3+2]? = some (.string ⟨l[i].2.toArray⟩)
 | x :: t,0,_=>⟨rfl,rfl,rfl⟩
 | x :: t,i+1,h=>by
  have ih:=wdV_get t i (by simpa using h);have e:wdV (x :: t)=wdC x ++ wdV t:=rfl
  have hs:∀ j,(wdV (x :: t))[(i+1)*3+j]? = (wdV t)[i*3+j]?:=fun j=>by
   rw [e,List.getElem?_append_right (by simp [wdC]; omega)]
   congr 1
   simp [wdC]; omega
  exact ⟨(hs 0).trans ih.1,(hs 1).trans ih.2.1,(hs 2).trans ih.2.2⟩
theorem wdV_snoc (l:List Wd) (x:Wd):wdV (l ++ [x])=wdV l ++ wdC x:=by simp [wdV]
theorem info_wd:(Tryz.prog.info? 120).map (fun i=>(i.zero,i.size,i.bytes))=some (some (.agg #[.int .i64 0,.int .i64 0,.string ⟨#[]⟩]),3,32):=by kernel_rfl
theorem ext_sub (l:Str) (a b:Nat):(⟨l.toArray⟩:ByteArray).extract a b=⟨(subS l a b).toArray⟩:=by
 apply ByteArray.ext
 unfold subS;simp only [ByteArray.data_extract,List.extract_toArray,List.extract_eq_take_drop]
 congr 1
 rw [List.drop_take]
def Wds (w:World) (v:Value) (l:List Wd):Prop:=Sl w 120 3 v (wdV l)
def WdsPost (w:World) (l:List Wd) (e:Ending) (w':World):Prop:=∃ v,e = .returned v∧w'.ownsRow w.heap.size 120 3 v l.length (wdV l)∧Pure w w'
def frI:Option Nat→Int
 | none => -1
 | some f=>(f:Int)
def WlRel (w:World) (s:Str) (gk:Nat) (x f i:Value) (wr:World):Prop :=
 ∃ (k:Nat) (l:List (Nat × Nat)) (fo:Option Nat) (A:Option Addr) (cap:Nat),s.length+1 - k=gk∧k≤s.length+1∧i = .int .i64 (k:Int)∧f = .int .i64 (frI fo)∧x = .slice A l.length cap∧l.length≤k∧(k≤s.length→progW s k l fo)∧(k=s.length+1→l=spR s 0) ∧
  wr.ownsRow w.heap.size 120 3 (.slice A l.length cap) l.length (wdV (l.map (wdAt s)))∧Pure w wr
theorem words_calls (w:World) (s:Str) (hs:s.length≤1000000):Calls Tryz.prog 149 #[.string ⟨s.toArray⟩] w (WdsPost w (wordsQ s)):=by
 obtain ⟨i0,hi0,hz0,hz1,hz2⟩:=info_parts info_wd
 have hz:(⟨s.toArray⟩:ByteArray).size=s.length:=by simp [ByteArray.size]
 obtain ⟨n,hn⟩:∃ n,n=s.length:=⟨_,rfl⟩;rw [← hn] at hz hs;have HN:=hd_ hn;clear hn
 go_enter Tryz.func149,Tryz.ntmps149
 go_wp2_with fail
 go_loopg [3,4,5] (n+1) (fun gk x f i wr=>WlRel w s gk x f i wr)
 case atStart=>exact ⟨0,[],none,none,0,by rw [← HN.out]; omega,by omega,rfl,rfl,rfl,by simp,fun _=>progW_start s,fun h=>by rw [← HN.out] at h; omega,⟨rfl,.inl ⟨rfl,rfl⟩⟩,Mod.refl _ _⟩
 case round =>
  obtain ⟨k,l,fo,A,cap,hgk,hk,rfl,rfl,rfl,hlk,hpw,hend,hown,hm⟩:=hrel;rw [← HN.out] at hgk hk;subst hgk;have HPW:=hd_ hpw;have HEND:=hd_ hend;have HO:=hd_ hown;have HM:Hid (Pure w wr):=hd_ hm;clear hpw hend hown hm
  by_cases hkn:k≤n
  ·by_cases hlt:k<n
   ·have hlt2:k<s.length:=by rw [← HN.out]; exact hlt
    have hp:=HPW.out (by omega);obtain ⟨bb,hbb⟩:∃ bb,letB s[k]=bb:=⟨_,rfl⟩;have HC:=hd_ (letter_calls s[k] wr);rw [hbb] at HC;have HBB:=hd_ hbb;clear hbb;have hi1 : -1<(k:Int):=(by omega);go_wp2_with fail;refine HC.out.mono ?_;rintro e w2 ⟨rfl,rfl⟩;clear HC
    cases bb with
    | true =>
     cases fo with
     | none =>
      have hf0:frI none = -1:=rfl;have HP2:=hd_ (progW_in hlt2 hp HBB.out);clear hp HPW HEND;go_wp2_with fail
      go_roundg (n+1 - (k+1))
      case measure=>omega
      case rel=>exact ⟨k+1,l,some k,A,cap,by rw [← HN.out],by omega,by simp,rfl,rfl,by omega,fun _=>HP2.out,fun h=>by rw [← HN.out] at h; omega,HO.out,HM.out⟩
     | some f =>
      have hf0:frI (some f)=(f:Int):=rfl;have hf1:¬ (f:Int)<0:=(by omega);have HP2:=hd_ (progW_on hlt2 hp HBB.out);clear hp HPW HEND;go_wp2_with fail
      go_roundg (n+1 - (k+1))
      case measure=>omega
      case rel=>exact ⟨k+1,l,some f,A,cap,by rw [← HN.out],by omega,by simp,rfl,rfl,by omega,fun _=>HP2.out,fun h=>by rw [← HN.out] at h; omega,HO.out,HM.out⟩
    | false =>
     cases fo with
     | none =>
      have hf0:frI none = -1:=rfl;have HP2:=hd_ (progW_off hlt2 hp HBB.out);clear hp HPW HEND;go_wp2_with fail
      go_roundg (n+1 - (k+1))
      case measure=>omega
      case rel=>exact ⟨k+1,l,none,A,cap,by rw [← HN.out],by omega,by simp,rfl,rfl,by omega,fun _=>HP2.out,fun h=>by rw [← HN.out] at h; omega,HO.out,HM.out⟩
     | some f =>
      have hf0:frI (some f)=(f:Int):=rfl;have hf1:(0:Int)≤(f:Int):=(by omega);have hfk:f<k:=hp.1;have HP2:=hd_ (progW_out hlt2 hp HBB.out);have HLW:=hd_ (fun W=>lowerQ_calls W (subS s f k) (by unfold subS; rw [List.length_drop,List.length_take]; omega));have HEX:Hid ((⟨s.toArray⟩:ByteArray).extract f k=⟨(subS s f k).toArray⟩):=hd_ (ext_sub s f k);have HWD:Hid (wdV ((l ++ [(f,k)]).map (wdAt s))=wdV (l.map (wdAt s)) ++ [.int .i64 (f:Int),.int .i64 (k:Int),.string ⟨(lowS (subS s f k)).toArray⟩]):=hd_ (by rw [List.map_append,List.map_singleton,wdV_snoc]; rfl);clear hp HPW HEND;go_wp2_with fail;rw [HEX.out];refine (HLW.out _).mono ?_;rintro e w3 ⟨rfl,hm3⟩;have HO3:=hd_ (own_pure HO.out hm3);have HM3:Hid (Pure w w3):=hd_ (HM.out.trans hm3);clear hm3 HLW HEX HO HM;generalize lowS (subS s f k)=lw at *;have hownS:=HO3.out;have hmS:=HM3.out;clear HO3;generalize hln:l.length=ln at hownS hlk ⊢;have HLN:=hd_ hln;clear hln
      go_wp2_with (at_builtin; refine wpList_append_lies _ rfl _ _ _ rfl w.heap.size 120 i0 _ 3 32 Tryz.underlying108 hi0 hz0 hz1 hz2 rfl (by omega) (.slice A ln cap) ln (wdV (l.map (wdAt s))) rfl (hownS.alloc _) ⟨w3.heap.size,0,none⟩ 1 1 [.int .i64 (f:Int),.int .i64 (k:Int),.string ⟨lw.toArray⟩] rfl rfl (World.news_of_block (cs:=#[.int .i64 (f:Int),.int .i64 (k:Int),.string ⟨lw.toArray⟩]) (t:=120) (fr:=(0,0)) (heap_alloc_new w3 _)) (by simp [Value.oneCell']) (by omega) (by simp [maxLen]; omega) (by omega) (by have:=hmS.size; simp; omega) (w3.heap.size+1) (by simp) ?_; intro g5 cap5 w5 hown5 hgrow hat hlt5)
      have HP5:Hid (Pure w w5):=hd_ ((hmS.alloc (.cells #[.int .i64 (f:Int),.int .i64 (k:Int),.string ⟨lw.toArray⟩] 120)).trans' (mod_grown hgrow) (fun i hi hlt=>by have:=own_block (hownS.alloc (.cells #[.int .i64 (f:Int),.int .i64 (k:Int),.string ⟨lw.toArray⟩] 120)) i hi; omega))
      go_roundg (n+1 - (k+1))
      case measure=>omega
      case rel =>
       refine ⟨k+1,l ++ [(f,k)],none,some ⟨g5,0,none⟩,cap5,by rw [← HN.out],by omega,by simp,rfl,by rw [List.length_append,HLN.out]; rfl,by rw [List.length_append,HLN.out]; simp; omega,fun _=>HP2.out,fun h=>by rw [← HN.out] at h; omega,?_,HP5.out⟩;rw [HWD.out,List.length_append,HLN.out];exact hown5
   ·obtain rfl:k=n:=by omega
    have hp:=HPW.out (by rw [← HN.out]; omega);have hi1 : -1<(k:Int):=(by omega);have hll:¬ (k:Int)<(k:Int):=(by omega)
    cases fo with
    | none =>
     have hf0:frI none = -1:=rfl;have HE2:Hid (l=spR s 0):=hd_ (progW_end (by rw [← HN.out]; exact hp));clear hp HPW HEND;go_wp2_with fail
     go_roundg (k+1 - (k+1))
     case measure=>omega
     case rel=>exact ⟨k+1,l,none,A,cap,by rw [← HN.out],by rw [← HN.out]; omega,by simp,rfl,rfl,by omega,fun h=>by rw [← HN.out] at h; omega,fun _=>HE2.out,HO.out,HM.out⟩
    | some f =>
      have hf0:frI (some f)=(f:Int):=rfl;have hf1:(0:Int)≤(f:Int):=(by omega);have hfk:f<k:=hp.1
      have HP2:Hid (l ++ [(f,k)]=spR s 0):=hd_ (by
       have h:=progW_endW (s:=s) (l:=l) (f:=f) (by rw [← HN.out]; exact hp);rw [← HN.out] at h
       exact h)
      have HLW:=hd_ (fun W=>lowerQ_calls W (subS s f k) (by unfold subS; rw [List.length_drop,List.length_take]; omega));have HEX:Hid ((⟨s.toArray⟩:ByteArray).extract f k=⟨(subS s f k).toArray⟩):=hd_ (ext_sub s f k);have HWD:Hid (wdV ((l ++ [(f,k)]).map (wdAt s))=wdV (l.map (wdAt s)) ++ [.int .i64 (f:Int),.int .i64 (k:Int),.string ⟨(lowS (subS s f k)).toArray⟩]):=hd_ (by rw [List.map_append,List.map_singleton,wdV_snoc]; rfl);clear hp HPW HEND;go_wp2_with fail;rw [HEX.out];refine (HLW.out _).mono ?_;rintro e w3 ⟨rfl,hm3⟩;have HO3:=hd_ (own_pure HO.out hm3);have HM3:Hid (Pure w w3):=hd_ (HM.out.trans hm3);clear hm3 HLW HEX HO HM;generalize lowS (subS s f k)=lw at *;have hownS:=HO3.out;have hmS:=HM3.out;clear HO3;generalize hln:l.length=ln at hownS hlk ⊢;have HLN:=hd_ hln;clear hln
      go_wp2_with (at_builtin; refine wpList_append_lies _ rfl _ _ _ rfl w.heap.size 120 i0 _ 3 32 Tryz.underlying108 hi0 hz0 hz1 hz2 rfl (by omega) (.slice A ln cap) ln (wdV (l.map (wdAt s))) rfl (hownS.alloc _) ⟨w3.heap.size,0,none⟩ 1 1 [.int .i64 (f:Int),.int .i64 (k:Int),.string ⟨lw.toArray⟩] rfl rfl (World.news_of_block (cs:=#[.int .i64 (f:Int),.int .i64 (k:Int),.string ⟨lw.toArray⟩]) (t:=120) (fr:=(0,0)) (heap_alloc_new w3 _)) (by simp [Value.oneCell']) (by omega) (by simp [maxLen]; omega) (by omega) (by have:=hmS.size; simp; omega) (w3.heap.size+1) (by simp) ?_; intro g5 cap5 w5 hown5 hgrow hat hlt5)
      have HP5:Hid (Pure w w5):=hd_ ((hmS.alloc (.cells #[.int .i64 (f:Int),.int .i64 (k:Int),.string ⟨lw.toArray⟩] 120)).trans' (mod_grown hgrow) (fun i hi hlt=>by have:=own_block (hownS.alloc (.cells #[.int .i64 (f:Int),.int .i64 (k:Int),.string ⟨lw.toArray⟩] 120)) i hi; omega))
      go_roundg (k+1 - (k+1))
      case measure=>omega
      case rel =>
       refine ⟨k+1,l ++ [(f,k)],none,some ⟨g5,0,none⟩,cap5,by rw [← HN.out],by rw [← HN.out]; omega,by simp,rfl,by rw [List.length_append,HLN.out]; rfl,by rw [List.length_append,HLN.out]; simp; omega,fun h=>by rw [← HN.out] at h; omega,fun _=>HP2.out,?_,HP5.out⟩;rw [HWD.out,List.length_append,HLN.out];exact hown5
  ·obtain rfl:k=n+1:=by omega
   have e:=HEND.out (by rw [← HN.out]);have hll:¬ ((n:Int)+1)≤(n:Int):=(by omega);have hwq:Hid (wordsQ s=l.map (wdAt s)):=hd_ (by unfold wordsQ; rw [e]);clear e HPW HEND;go_wp2_with fail;go_ret;refine ⟨_,rfl,?_,HM.out⟩;rw [hwq.out,List.length_map];exact HO.out
theorem smB_nat (c:UInt8):smB c=(letB c && !decide (65≤c.toNat∧c.toNat≤90)):=by
 have key:∀ c:Fin 256,smB (UInt8.ofNat c.val)=(letB (UInt8.ofNat c.val) && !decide (65≤(UInt8.ofNat c.val).toNat∧(UInt8.ofNat c.val).toNat≤90)):=by decide +kernel
 have h:=key ⟨c.toNat,c.toNat_lt⟩
 simpa using h
def patN (sm:Bool) (N i n:Nat):Bool:=sm || (decide (i≠0) && (decide (n=63) || (decide (n=42) && decide (i+1=N))))
theorem u8_eqW (c:UInt8) (d:Nat) (hd:d<256):(c == UInt8.ofNat d)=decide (c.toNat=d):=by
 rw [Bool.eq_iff_iff,beq_iff_eq,decide_eq_true_iff]
 constructor
 ·intro h; rw [h]; simp; omega
 ·intro h; rw [← h]; simp
theorem patC_nat (N i:Nat) (c:UInt8):patC N i c=patN (smB c) N i c.toNat:=by
 have h1:=u8_eqW c 63 (by decide);have h2:=u8_eqW c 42 (by decide);unfold patC patN;rw [show (c == 63)=decide (c.toNat=63) from h1,show (c == 42)=decide (c.toNat=42) from h2]
def patAll (s:Str) (k:Nat):Bool:=(List.range k).all fun i=>patC s.length i (s.getD i 0)
theorem patAll_succ (s:Str) (k:Nat) (h:k<s.length):patAll s (k+1)=(patAll s k && patC s.length k s[k]):=by
 unfold patAll;rw [List.range_succ,List.all_append];simp [List.getD,h]
theorem patAll_false {s:Str} {k:Nat} (h:k<s.length) (hc:patC s.length k s[k]=false):patAll s s.length=false:=by
 unfold patAll;rw [List.all_eq_false];exact ⟨k,List.mem_range.2 h,by simp [List.getD,h,hc]⟩
theorem patB_all (s:Str):patB s=(decide (1≤s.length∧s.length≤40) && patAll s s.length):=by
 unfold patB patAll;rw [Bool.decide_and]
theorem isPattern_calls (w:World) (s:Str) (hs:s.length≤1000000):Calls Tryz.prog 179 #[.string ⟨s.toArray⟩] w (BoolSame w (patB s)):=by
 have hz:(⟨s.toArray⟩:ByteArray).size=s.length:=by simp [ByteArray.size]
 have HPB:=hd_ (patB_all s);obtain ⟨n,hn⟩:∃ n,n=s.length:=⟨_,rfl⟩;rw [← hn] at hz hs HPB;have HN:=hd_ hn;clear hn
 go_enter Tryz.func179,Tryz.ntmps179
 go_wp2_with fail
 go_loopg [8] n (fun gk i wr=>∃ k:Nat,n - k=gk∧k≤n∧i = .int .i64 (k:Int)∧patAll s k=true∧w=wr)
 case atStart=>exact ⟨0,by omega,by omega,rfl,rfl,rfl⟩
 case round =>
  obtain ⟨k,rfl,hk,rfl,hpa,rfl⟩:=hrel
  by_cases hlt:k<n
  ·have hlt2:k<s.length:=by rw [← HN.out]; exact hlt
   have HSU:=hd_ (patAll_succ s k hlt2);have HFA:=hd_ (patAll_false hlt2);have HC:=hd_ (letter_calls s[k] w);have HSM:=hd_ (smB_nat s[k]);have HPC:=hd_ (patC_nat s.length k s[k]);rw [← HN.out] at HPC HFA HSU;obtain ⟨bb,hbb⟩:∃ bb,letB s[k]=bb:=⟨_,rfl⟩;obtain ⟨sm,hsm⟩:∃ sm,smB s[k]=sm:=⟨_,rfl⟩;obtain ⟨pc,hpc⟩:∃ pc,patC n k s[k]=pc:=⟨_,rfl⟩;rw [hbb,hsm] at HSM;rw [hbb] at HC;rw [hpc,hsm] at HPC;rw [hpc] at HFA HSU;have hix:(⟨s.toArray⟩:ByteArray)[k]'(by rw [hz]; exact hlt)=s[k]:=rfl;clear hbb hsm hpc;go_upto_region 5 with (fail);clear hix;generalize s[k].toNat=c at *
   go_cut [5] from 14 to 24 (fun p wx=>p = .bool sm∧w=wx)
   case first =>
    clear HPB HSU HFA HPC;go_wp2_with fail;refine HC.out.mono ?_;rintro e w2 ⟨rfl,rfl⟩;have h:=HSM.out
    cases bb
    ·have e:sm=false:=by rw [h]; rfl
     subst e;clear h;go_wp2_with fail;go_meet;exact ⟨rfl,rfl⟩
    ·by_cases h1:(65:Int)≤(c:Int)
     ·by_cases h2:(c:Int)≤90
      ·have e:sm=false:=by rw [h]; simp; omega
       subst e;clear h;go_wp2_with fail;go_meet;exact ⟨by first | rfl | (simp; omega),rfl⟩
      ·have e:sm=true:=by rw [h]; simp; omega
       subst e;clear h;go_wp2_with fail;go_meet;exact ⟨by first | rfl | (simp; omega),rfl⟩
     ·have e:sm=true:=by rw [h]; simp; omega
      subst e;clear h;go_wp2_with fail;go_meet;exact ⟨by first | rfl | (simp; omega),rfl⟩
   case rest =>
    obtain ⟨rfl,rfl⟩:=hcut;clear HC HSM;go_upto_region 6 with (fail)
    go_cut [46] from 25 to 45 (fun p wx=>p = .bool (!pc)∧w=wx)
    case first =>
     have h:=HPC.out;unfold patN at h;clear HPB HSU HFA HPC
     cases sm with
     | true =>
      have e:pc=true:=by rw [h]; rfl
      subst e;clear h;go_wp2_with fail;go_meet;exact ⟨by first | rfl | (simp; omega),rfl⟩
     | false =>
      by_cases h0:k=0
      ·subst h0
       have e:pc=false:=by rw [h]; rfl
       subst e;clear h;go_wp2_with fail;go_meet;exact ⟨by first | rfl | (simp; omega),rfl⟩
      ·have h0i:((k:Int) == 0)=false:=by simp; omega
       have h0d:decide (k≠0)=true:=(by simpa using h0)
       by_cases h1:c=63
       ·subst h1
        have e:pc=true:=by rw [h,h0d]; rfl
        subst e;clear h h0d h0;go_wp2_with fail;go_meet;exact ⟨rfl,rfl⟩
       ·have h1i:((c:Int) == 63)=false:=by simp; omega
        have h1n:((c:Int) != 63)=true:=by simp; omega
        by_cases h2:c=42
        ·subst h2
         by_cases h3:k+1=n
         ·have e:pc=true:=by rw [h,h0d]; simp [h3]
          have h3i:((k:Int) == (n:Int) - 1)=true:=by simp; omega
          subst e;clear h h0d h0 h1 h3;go_wp2_with fail;go_meet;exact ⟨rfl,rfl⟩
         ·have e:pc=false:=by rw [h,h0d]; simp [h3]
          have h3i:((k:Int) == (n:Int) - 1)=false:=by simp; omega
          subst e;clear h h0d h0 h1 h3;go_wp2_with fail;go_meet;exact ⟨rfl,rfl⟩
        ·have h2i:((c:Int) == 42)=false:=by simp; omega
         have e:pc=false:=by rw [h,h0d]; simp [h1,h2]
         subst e;clear h h0d h0 h1 h2;go_wp2_with fail;go_meet;exact ⟨rfl,rfl⟩
    case rest =>
     obtain ⟨rfl,rfl⟩:=hcut;clear HPC
     cases pc with
     | true =>
      have HS2:Hid (patAll s (k+1)=true):=hd_ (by rw [HSU.out,hpa]; rfl);clear HPB HSU HFA hpa;go_wp2_with fail
      go_roundg (n - (k+1))
      case measure=>omega
      case rel=>exact ⟨k+1,rfl,by omega,by simp,HS2.out,rfl⟩
     | false =>
      have HB:Hid (patB s=false):=hd_ (by rw [HPB.out,HFA.out rfl,Bool.and_false]);clear HPB HSU HFA hpa;go_wp2_with fail
      try simp only [Exit.inBlock,Exit.then]
      refine bodyPost_ret (v:=.bool false) (by simp [results,Tryz.results179,go_sem]) rfl ?_;exact BoolSame.of HB.out
  ·obtain rfl:k=n:=by omega
   have e:=HPB.out;rw [hpa,Bool.and_true] at e;have HB:=hd_ e;clear e HPB hpa;go_wp2_with fail;refine (in_calls _ _ _ _).mono ?_;rintro e w' ⟨rfl,rfl⟩;go_wp2_with fail;go_ret;refine BoolSame.of ?_;rw [HB.out]
   cases hin:inB (k:Int) 1 40
   ·have:=inB_false hin;simp; omega
   ·have:=inB_true hin;simp; omega
end Go.Proofs.YtnfflgicngeekaaGreatDoor
namespace Go.Proofs.YtnfflgicngeekaaGreatDoor
open Go.RowKit
theorem isPatternP_calls (w:World) (s:Str) (hs:s.length≤1000000):Calls Tryz.prog 179 #[.string ⟨s.toArray⟩] w (BoolPost w (patB s)):=(isPattern_calls w s hs).mono (fun e w' h=>⟨h.1,h.2 ▸ Mod.refl _ _⟩)
theorem fitN_succ {b x:Str} {k:Nat} (h:k<b.length) (hx:b.length≤x.length):fitN b x (k+1)=(fitN b x k && (b[k] == 63 || b[k] == x[k]'(by omega))):=by
 unfold fitN;rw [List.range_succ,List.all_append];have hx2:k<x.length:=(by omega);simp [List.getD,h,hx2]
theorem fitN_false {b x:Str} {k:Nat} (h:k<b.length) (hx:b.length≤x.length) (hc:(b[k] == 63 || b[k] == x[k]'(by omega))=false):fitN b x b.length=false:=by
 unfold fitN;rw [List.all_eq_false];have hx2:k<x.length:=(by omega);refine ⟨k,List.mem_range.2 h,?_⟩
 simpa [List.getD,h,hx2] using hc
theorem fits_calls (w:World) (p x:Str) (hp:p.length≤1000000) (hx:x.length≤1000000):Calls Tryz.prog 153 #[.string ⟨p.toArray⟩,.string ⟨x.toArray⟩] w (BoolPost w (fitsB p x)):=by
 have HIP:=hd_ (isPatternP_calls w p hp);have HCS:=hd_ (fun W=>cutSuffix_calls W p [42] (by omega));have HF:Hid (fitsB p x=(patB p && (decide ((patBody p).length≤x.length) && ((patOpen p || decide (x.length≤(patBody p).length)) && fitN (patBody p) x (patBody p).length)))):=hd_ rfl
 have hbl:(patBody p).length≤p.length:=by
  unfold patBody Lib.trimSuffix
  split
  ·rw [List.length_take]; omega
  ·exact Nat.le_refl _
 have hzx:(⟨x.toArray⟩:ByteArray).size=x.length:=by simp [ByteArray.size]
 unfold patBody patOpen at HF;unfold patBody at hbl;generalize fitsB p x=r at *;generalize patB p=pb at *;generalize Lib.hasSuffix p [42]=op at *;generalize Lib.trimSuffix p [42]=b at *
 have hzb:(⟨b.toArray⟩:ByteArray).size=b.length:=by simp [ByteArray.size]
 obtain ⟨n,hn⟩:∃ n,n=b.length:=⟨_,rfl⟩;obtain ⟨m,hm⟩:∃ m,m=x.length:=⟨_,rfl⟩;rw [← hn,← hm] at HF;rw [← hn] at hzb hbl;rw [← hm] at hzx hx;have HN:=hd_ hn;have HM:=hd_ hm;clear hn hm
 go_enter Tryz.func153,Tryz.ntmps153
 go_wp2_with fail;refine HIP.out.mono ?_;rintro e w1 ⟨rfl,hm0⟩;have HM0:Hid (Pure w w1):=hd_ hm0;clear HIP hm0
 cases pb with
 | false =>
  have HR:Hid (r=false):=hd_ HF.out;clear HF HCS;go_wp2_with fail
  try simp only [Exit.inBlock,Exit.then]
  refine bodyPost_ret (v:=.bool false) (by simp [results,Tryz.results153,go_sem]) rfl ?_;rw [HR.out];exact ⟨rfl,HM0.out⟩
 | true =>
  go_wp2_with fail;refine (HCS.out _).mono ?_;rintro e w2 ⟨rfl,rfl⟩;clear HCS;obtain ⟨bad,hbad⟩:∃ bad,(decide (m<n) || (!op && decide (n<m)))=bad:=⟨_,rfl⟩
  have HF2:Hid (r=(!bad && fitN b x n)):=hd_ (by
   rw [HF.out,← hbad]
   rcases Nat.lt_trichotomy m n with h | h | h
   ·rw [decide_eq_false (show ¬ n≤m by omega),decide_eq_true h]
    rfl
   ·subst h;simp
   ·rw [decide_eq_true (show n≤m by omega),decide_eq_false (show ¬ m<n by omega),decide_eq_true h,decide_eq_false (show ¬ m≤n by omega)]
    simp)
  have HBD:=hd_ hbad;clear HF hbad;go_upto_region 4 with (fail)
  go_cut [31] from 16 to 30 (fun q wx=>q = .bool bad∧w2=wx)
  case first =>
   have h:=HBD.out;clear HF2
   rcases Nat.lt_trichotomy m n with h1 | h1 | h1
   ·have d1:decide (m<n)=true:=decide_eq_true h1;have d1i:(m:Int)<(n:Int):=(by omega);rw [d1,Bool.true_or] at h;subst h;go_wp2_with fail;go_meet;exact ⟨by first | rfl | simp,rfl⟩
   ·subst h1;rw [decide_eq_false (Nat.lt_irrefl m),Bool.and_false,Bool.or_false] at h;subst h;have d1:decide (m<m)=false:=decide_eq_false (Nat.lt_irrefl m);have d1i:¬ (m:Int)<(m:Int):=(by omega);have d2:((m:Int) != (m:Int))=false:=(by simp)
    cases op
    ·go_wp2_with fail;go_meet;exact ⟨by first | rfl | simp,rfl⟩
    ·go_wp2_with fail;go_meet;exact ⟨by first | rfl | simp,rfl⟩
   ·have d1:decide (m<n)=false:=decide_eq_false (by omega);have d1i:¬ (m:Int)<(n:Int):=(by omega);have d2:decide (n<m)=true:=decide_eq_true h1;have d2i:(n:Int)<(m:Int):=(by omega)
    have d3:((m:Int) != (n:Int))=true:=by simp; omega
    rw [d1,d2,Bool.and_true,Bool.false_or] at h
    cases op
    ·obtain rfl:true=bad:=h;go_wp2_with fail;go_meet;exact ⟨by first | rfl | simp,rfl⟩
    ·obtain rfl:false=bad:=h;go_wp2_with fail;go_meet;exact ⟨by first | rfl | simp,rfl⟩
  case rest =>
   obtain ⟨rfl,rfl⟩:=hcut
   cases bad with
   | true =>
    have HR:Hid (r=false):=hd_ HF2.out;clear HF2 HBD;go_wp2_with fail
    try simp only [Exit.inBlock,Exit.then]
    refine bodyPost_ret (v:=.bool false) (by simp [results,Tryz.results153,go_sem]) rfl ?_;rw [HR.out];exact ⟨rfl,HM0.out⟩
   | false =>
    have hnm:n≤m:=by
     have h:=HBD.out
     rcases Nat.lt_or_ge m n with h1 | h1
     ·rw [decide_eq_true h1] at h; cases h
     ·exact h1
    have HF3:Hid (r=fitN b x n):=hd_ HF2.out;clear HF2 HBD;go_wp2_with fail
    go_loopg [34] n (fun gk i wr=>∃ k:Nat,n - k=gk∧k≤n∧i = .int .i64 (k:Int)∧fitN b x k=true∧Pure w2 wr)
    case atStart=>exact ⟨0,by omega,by omega,rfl,rfl,Mod.refl _ _⟩
    case round =>
     obtain ⟨k,rfl,hk,rfl,hpa,hm⟩:=hrel
     by_cases hlt:k<n
     ·have hltb:k<b.length:=by rw [← HN.out]; exact hlt
      have hltx:k<x.length:=by rw [← HM.out]; omega
      have HSU:=hd_ (fitN_succ (x:=x) hltb (by rw [← HN.out,← HM.out]; exact hnm));have HFA:=hd_ (fitN_false (x:=x) hltb (by rw [← HN.out,← HM.out]; exact hnm));have hix:(⟨b.toArray⟩:ByteArray)[k]'(by rw [hzb]; exact hlt)=b[k]:=rfl;have hiy:(⟨x.toArray⟩:ByteArray)[k]'(by rw [hzx]; omega)=x[k]:=rfl;have HP:Hid (Pure w2 wr):=hd_ hm;have e1:(b[k] == 63)=decide (b[k].toNat=63):=u8_eqW _ 63 (by decide)
      have e2:(b[k] == x[k])=decide (b[k].toNat=x[k].toNat):=by
       rw [Bool.eq_iff_iff,beq_iff_eq,decide_eq_true_iff];exact UInt8.toNat_inj.symm
      rw [e1,e2] at HSU HFA;rw [← HN.out] at HFA;have hix2:((k:Nat):Int)<(n:Int):=(by omega);have hbc:=b[k].toNat_lt;have hxc:=x[k].toNat_lt;clear hm e1 e2
      by_cases h63:b[k].toNat=63
      ·have h63i:((b[k].toNat:Int) != 63)=false:=by simp; omega
       have HS2:Hid (fitN b x (k+1)=true):=hd_ (by rw [HSU.out,hpa,decide_eq_true h63]; rfl);clear HF3 HSU HFA hpa h63;go_upto_region 9 with (fail)
       go_quiet (fail)
       go_wp2_with fail
       go_roundg (n - (k+1))
       case measure=>omega
       case rel=>exact ⟨k+1,rfl,by omega,by simp,HS2.out,HP.out.drewN _⟩
      ·have h63i:((b[k].toNat:Int) != 63)=true:=by simp; omega
       by_cases hxe:b[k].toNat=x[k].toNat
       ·have hxi:((b[k].toNat:Int) != (x[k].toNat:Int))=false:=by simp; omega
        have HS2:Hid (fitN b x (k+1)=true):=hd_ (by rw [HSU.out,hpa,decide_eq_true hxe,Bool.or_true]; rfl);clear HF3 HSU HFA hpa h63 hxe;go_upto_region 9 with (fail)
        go_quiet (fail)
        go_wp2_with fail
        go_roundg (n - (k+1))
        case measure=>omega
        case rel=>exact ⟨k+1,rfl,by omega,by simp,HS2.out,HP.out.drewN _⟩
       ·have hxi:((b[k].toNat:Int) != (x[k].toNat:Int))=true:=by simp; omega
        have HR:Hid (r=false):=hd_ (by rw [HF3.out]; exact HFA.out (by rw [decide_eq_false h63,decide_eq_false hxe]; rfl));clear HF3 HSU HFA hpa h63 hxe;go_upto_region 9 with (fail)
        go_quiet (fail)
        go_wp2_with fail
        try simp only [Exit.inBlock,Exit.then]
        refine bodyPost_ret (v:=.bool false) (by simp [results,Tryz.results153,go_sem]) rfl ?_;rw [HR.out];exact ⟨rfl,HM0.out.trans (HP.out.drewN _)⟩
     ·obtain rfl:k=n:=by omega
      have HR:Hid (r=true):=hd_ (HF3.out.trans hpa);have HP:Hid (Pure w2 wr):=hd_ hm;clear HF3 hpa hm;go_wp2_with fail;go_ret;rw [HR.out];exact ⟨rfl,HM0.out.trans HP.out⟩
end Go.Proofs.YtnfflgicngeekaaGreatDoor
/-
 DERIVED: THE SHELF's CONTRACTS AT THIS DUMP,IN PLAIN WORDS (tools/lay-plain.mjs out of 'YtnfflgicngeekaaGreatDoorLayWd.lean',which tools/lay-shelf.mjs wrote): THE SAME DECLARATIONS UNDER THE SAME NAMES: 'import','namespace','open','def','theorem' AND NOTHING ELSE: no command of the shelf's: FOR A HAND-IN. Each laying: the table of numbers ('.._ren') and one theorem,a field a fact of the dump's own or the kernel's comparison; each contract: ONE APPLICATION.
-/
namespace Go.Proofs
open Go.Shelf
def Tryz.revWrd_ren:Go.Shelf.Ren:=⟨fun | 35=>163 | n=>n,fun | 22=>108 | 23=>120 | 3=>3 | 4=>4 | 0=>0 | n=>n,fun | n=>n⟩
theorem Tryz.revWrd:Go.Proofs.SlLaysE0.n35 Tryz.prog Tryz.revWrd_ren:={
 mixed:=by kernel_rfl
 f35:=⟨Tryz.f163.name,by decide,Tryz.func163.trans (congrArg some (by kernel_rfl))⟩
 t0:=Tryz.underlying0
 a0:=Tryz.isAgg0
 z0:=Tryz.sizeOf0
 v0:=Tryz.zeroValue0
 t3:=Tryz.underlying3
 a3:=Tryz.isAgg3
 z3:=Tryz.sizeOf3
 v3:=Tryz.zeroValue3
 t4:=Tryz.underlying4
 a4:=Tryz.isAgg4
 z4:=Tryz.sizeOf4
 v4:=Tryz.zeroValue4
 t22:=Tryz.underlying108
 a22:=Tryz.isAgg108
 z22:=Tryz.sizeOf108
 v22:=Tryz.zeroValue108 }
end Go.Proofs
namespace Go.Proofs.YtnfflgicngeekaaGreatDoor
open Go.RowKit Go.Shelf
def letS:Str:=[97,98,99,100,101,102,103,104,105,106,107,108,109,110,111,112,113,114,115,116,117,118,119,120,121,122,48,49,50,51,52,53,54,55,56,57,65,66,67,68,69,70,71,72,73,74,75,76,77,78,79,80,81,82,83,84,85,86,87,88,89,90]
theorem letB_idx (c:UInt8):letB c=(decide (128≤c.toNat) || decide (0≤Lib.indexByte letS c)):=by
 have key:∀ c:Fin 256,letB (UInt8.ofNat c.val)=(decide (128≤(UInt8.ofNat c.val).toNat) || decide (0≤Lib.indexByte letS (UInt8.ofNat c.val))):=by decide +kernel
 have h:=key ⟨c.toNat,c.toNat_lt⟩
 simpa using h
theorem letterR_calls (c:UInt8) (w:World):Calls Tryz.prog 161 #[.int .u8 (c.toNat:Int)] w (BoolSame w (letB c)):=by
 have HI:=hd_ (Any.strings_IndexByte Tryz.lays137 ⟨letS.toArray⟩ (c.toNat:Int) w);have hc8:((c.toNat:Int).toNat).toUInt8=c:=(by simp);rw [hc8] at HI;rw [letB_idx];rw [show (⟨letS.toArray⟩:ByteArray).data.toList=letS from rfl] at HI;have hcl:c.toNat<256:=c.toNat_lt;generalize Lib.indexByte letS c=z at *;generalize c.toNat=n at *;unfold letS at HI;clear hc8
 by_cases h1:(128:Int)≤(n:Int)
 ·clear HI
  go_enter Tryz.func161,Tryz.ntmps161
  go_wp2_with fail;go_ret;exact BoolSame.of (by rw [decide_eq_true (show 128≤n by omega)]; rfl)
 ·go_enter Tryz.func161,Tryz.ntmps161
  go_wp2_with fail;refine HI.out.mono ?_;rintro e w' ⟨rfl,rfl⟩;go_wp2_with fail;go_ret;exact BoolSame.of (by rw [decide_eq_false (show ¬ 128≤n by omega)]; rfl)
theorem own_formW {w:World} {base n size:Nat} {e:TypeId} {v:Value} {xs:List Value} (h:w.ownsRow base e size v n xs) (hn:0<n):∃ g cap,v = .slice (some ⟨g,0,none⟩) n cap∧base≤g∧g<w.heap.size∧n≤cap∧cap≤9223372036854775807:=by
 rcases h.2 with ⟨rfl,h0⟩ | ⟨g,cap,cur,rfl,hg,hh,hc,hcm,_⟩
 ·omega
 ·exact ⟨g,cap,rfl,hg,lt_of_heap hh,hc,by simpa [maxLen] using hcm⟩
theorem wdV_setLast (L:List Wd) (x:Wd) (a:Nat) (y:Str):((wdV (L ++ [x])).set (L.length*3) (.int .i64 (a:Int))).set (L.length*3+2) (.string ⟨y.toArray⟩)=wdV (L ++ [((a,x.1.2),y)]):=by
 have hl:=wdV_len L;rw [wdV_snoc,wdV_snoc,List.set_append_right _ _ (by omega),List.set_append_right _ _ (by omega),hl,Nat.sub_self,Nat.add_sub_cancel_left]
 rfl
theorem revW_calls (w:World) (base:Nat) (A:Option Addr) (c:Nat) (l:List Wd) (hown:w.ownsRow base 120 3 (.slice A l.length c) l.length (wdV l)) (hl:l.length≤2000000):Calls Tryz.prog 163 #[.slice A l.length c] w (fun e w'=>e = .returned (.tuple #[])∧w'.ownsRow base 120 3 (.slice A l.length c) l.length (wdV l.reverse)∧Mod (fun g=>(Value.slice A l.length c).ownBlock=some g) w w'):=by
 by_cases h0:l.length=0
 ·have hl0:l=[]:=by cases l; rfl; cases h0
  subst hl0;refine (AnyQ.slices_Reverse_empty Tryz.revWrd A c w).mono ?_;rintro e w' ⟨rfl,rfl⟩;exact ⟨rfl,hown,Mod.refl _ _⟩
 ·obtain ⟨g,cap,hf,_,_,hc1,hc2⟩:=own_formW hown (by omega)
  injection hf with hA _ hC
  subst hA hC;refine (AnyQ.slices_Reverse Tryz.revWrd 3 Tryz.isAgg120 Tryz.sizeOf120 wdC (fun _=>rfl) (by intro x v hv; simp [wdC] at hv; rcases hv with rfl | rfl | rfl <;> rfl) g 0 c l.toArray w (holdsK_ownW (fun _=>rfl) (by omega) hown) (by simpa using (by omega:l.length≤9223372036854775807))).mono ?_;rintro e w' ⟨rfl,m,rfl⟩;have h:=own_putW (m:=m) (ys:=l.reverse) (enc:=wdC) (fun _=>rfl) (by omega) hown (by simp);rw [List.reverse_toArray];exact ⟨rfl,h.1,h.2.mono (fun q hq=>by rw [hq]; rfl)⟩
def WrRel (w:World) (s:Str) (gk:Nat) (x i:Value) (wr:World):Prop :=
 ∃ (k:Nat) (z:Int) (L:List Wd) (A:Option Addr) (cap:Nat),k=gk∧k≤s.length∧i = .int .i64 z∧z=(k:Int) - 1∧x = .slice A L.length cap∧L.length+k≤s.length∧((spR (s.drop k) k).map (wdAt s)).reverse=L ∧
  wr.ownsRow w.heap.size 120 3 (.slice A L.length cap) L.length (wdV L)∧Pure w wr
def WrCut (w:World) (s:Str) (n j:Nat) (v:Value) (wx:World):Prop :=
 ∃ (L0:List Wd) (f0 e:Nat) (y:Str) (A:Option Addr) (cap:Nat),v = .slice A (L0.length+1) cap∧L0.length+1+j≤n∧j<e∧e≤n∧((spR (s.drop j) j).map (wdAt s)).reverse=L0 ++ [((j,e),lowS (subS s j e))] ∧
  wx.ownsRow w.heap.size 120 3 (.slice A (L0.length+1) cap) (L0.length+1) (wdV (L0 ++ [((f0,e),y)]))∧Pure w wx
theorem wordsOf_calls (w:World) (s:Str) (hs:s.length≤1000000):Calls Tryz.prog 91 #[.string ⟨s.toArray⟩] w (WdsPost w (wordsQ s)):=by
 obtain ⟨i0,hi0,hz0,hz1,hz2⟩:=info_parts info_wd
 have hz:(⟨s.toArray⟩:ByteArray).size=s.length:=by simp [ByteArray.size]
 obtain ⟨n,hn⟩:∃ n,n=s.length:=⟨_,rfl⟩;rw [← hn] at hz hs;have HN:=hd_ hn;clear hn
 go_enter Tryz.func91,Tryz.ntmps91
 go_wp2_with fail
 go_loopg [3,4] n (fun gk x i wr=>WrRel w s gk x i wr)
 case atStart=>exact ⟨n,_,[],none,0,rfl,by rw [← HN.out]; omega,rfl,rfl,rfl,by rw [← HN.out]; simp,by rw [HN.out,List.drop_length]; rfl,⟨rfl,.inl ⟨rfl,rfl⟩⟩,Mod.refl _ _⟩
 case round =>
  obtain ⟨k,z,L,A,cap,rfl,hk,rfl,hzk,rfl,hlk,hL,hown,hm⟩:=hrel;rw [← HN.out] at hlk hk;have HL:=hd_ hL;have HO:=hd_ hown;have HM:Hid (Pure w wr):=hd_ hm;clear hL hown hm
  cases k with
  | zero =>
   obtain rfl:z = -1:=by simpa using hzk
   have hL0:=HL.out;rw [List.drop_zero] at hL0;have HW:Hid (wordsQ s=L.reverse):=hd_ (by rw [← hL0,List.reverse_reverse]; rfl);have HRV:=hd_ (revW_calls wr _ A cap L HO.out (by omega));have hle:L.length≤n:=(by omega);clear hL0 HL HO hzk hk;go_wp2_with fail;refine HRV.out.mono ?_;rintro e w3 ⟨rfl,ho3,hm3⟩;have hmf:Pure w w3:=HM.out.trans' hm3 (fun i hi hlt=>by have:=own_block ho3 i hi; omega);have HO3:=hd_ ho3;have HMF:Hid (Pure w w3):=hd_ hmf;clear ho3 hm3 hmf HRV HM;go_wp2_with fail;go_ret;refine ⟨_,rfl,?_,HMF.out⟩;rw [HW.out,List.length_reverse];exact HO3.out
  | succ j =>
   obtain rfl:z=(j:Int):=by rw [hzk]; simp
   clear hzk
   have hlt2:j<s.length:=by rw [← HN.out]; omega
   have HC:=hd_ (letterR_calls s[j] wr);have HOTH:=hd_ (fun (h:letB s[j]=false)=>ref_other hlt2 h);have HNEW:=hd_ (fun (h:letB s[j]=true)=>ref_new hlt2 h);have hjn:j<n:=(by omega);obtain ⟨bb,hbb⟩:∃ bb,letB s[j]=bb:=⟨_,rfl⟩;rw [hbb] at HC;have HBB:=hd_ hbb;clear hbb;go_wp2_with fail;refine HC.out.mono ?_;rintro e w2 ⟨rfl,rfl⟩;clear HC
   cases bb with
   | false =>
    have HL2:Hid (((spR (s.drop j) j).map (wdAt s)).reverse=L):=hd_ (by rw [HOTH.out HBB.out]; exact HL.out);clear HOTH HNEW HL HBB;go_wp2_with fail
    go_roundg j
    case measure=>omega
    case rel=>exact ⟨j,_,L,A,cap,rfl,by rw [← HN.out]; omega,rfl,by simp,rfl,by rw [← HN.out]; omega,HL2.out,HO.out,HM.out⟩
   | true =>
    go_upto_region 6 with (fail)
    go_cut [30] from 18 to 29 (fun p wx=>(∃ nw:Bool,p = .bool nw∧(nw=true→∀ h:j+1<s.length,letB s[j+1]=false)∧(nw=false→∃ h:j+1<s.length,letB s[j+1]=true))∧wr=wx)
    case first =>
     clear HOTH HNEW HL HO HM
     by_cases hj1:j+1=n
     ·have hji:((j:Int) == (n:Int) - 1)=true:=by simp; omega
      go_wp2_with fail;go_meet;exact ⟨⟨true,rfl,fun _ h=>by rw [← HN.out] at h; omega,fun h=>by cases h⟩,rfl⟩
     ·have hji:((j:Int) == (n:Int) - 1)=false:=by simp; omega
      have hlt3:j+1<s.length:=by rw [← HN.out]; omega
      have HC:=hd_ (letterR_calls s[j+1] wr);obtain ⟨b2,hb2⟩:∃ b2,letB s[j+1]=b2:=⟨_,rfl⟩;rw [hb2] at HC;have HB2:=hd_ hb2;clear hb2;go_wp2_with fail;refine HC.out.mono ?_;rintro e w3 ⟨rfl,rfl⟩;go_wp2_with fail;go_meet;refine ⟨⟨!b2,rfl,fun h _ => ?_,fun h=>⟨hlt3,?_⟩⟩,rfl⟩
      ·rw [HB2.out]; simpa using h
      ·rw [HB2.out]; simpa using h
    case rest =>
     obtain ⟨⟨nw,rfl,hn1,hn2⟩,rfl⟩:=hcut;have HN1:=hd_ hn1;have HN2:=hd_ hn2;clear hn1 hn2 HOTH
     go_upto_if 30 with (fail)
     go_cut [3] from 18 to 37 (fun v wx=>WrCut w s n j v wx)
     case first =>
      cases nw with
      | true =>
       have hsp:=HNEW.out HBB.out (HN1.out rfl)
       have hspr:((spR (s.drop j) j).map (wdAt s)).reverse=L ++ [((j,j+1),lowS (subS s j (j+1)))]:=by
        rw [hsp,List.map_cons,List.reverse_cons,HL.out]; rfl
       have HSP:=hd_ hspr;have hownS:=HO.out;have hmS:=HM.out;have HWD:Hid (wdV (L ++ [((0,j+1),[])])=wdV L ++ [.int .i64 0,.int .i64 ((j:Int)+1),.string ⟨#[]⟩]):=hd_ (by rw [wdV_snoc]; rfl);generalize hln:L.length=ln at hownS hlk ⊢;have HLN:=hd_ hln;clear hln hsp hspr HN1 HN2 HNEW HL HO HM HBB
       go_wp2_with (at_builtin; refine wpList_append_lies _ rfl _ _ _ rfl w.heap.size 120 i0 _ 3 32 Tryz.underlying108 hi0 hz0 hz1 hz2 rfl (by omega) (.slice A ln cap) ln (wdV L) rfl (hownS.alloc _) ⟨wr.heap.size,0,none⟩ 1 1 [.int .i64 0,.int .i64 ((j:Int)+1),.string ⟨#[]⟩] rfl rfl (World.news_of_block (cs:=#[.int .i64 0,.int .i64 ((j:Int)+1),.string ⟨#[]⟩]) (t:=120) (fr:=(0,0)) (heap_alloc_new wr _)) (by simp [Value.oneCell']) (by omega) (by simp [maxLen]; omega) (by omega) (by have:=hmS.size; simp; omega) (wr.heap.size+1) (by simp) ?_; intro g5 cap5 w5 hown5 hgrow hat hlt5)
       have HP5:Hid (Pure w w5):=hd_ ((hmS.alloc (.cells #[.int .i64 0,.int .i64 ((j:Int)+1),.string ⟨#[]⟩] 120)).trans' (mod_grown hgrow) (fun i hi hlt=>by have:=own_block (hownS.alloc (.cells #[.int .i64 0,.int .i64 ((j:Int)+1),.string ⟨#[]⟩] 120)) i hi; omega));go_meet;refine ⟨L,0,j+1,[],some ⟨g5,0,none⟩,cap5,by rw [HLN.out],by rw [HLN.out]; omega,by omega,by omega,HSP.out,?_,HP5.out⟩;rw [HWD.out,HLN.out];exact hown5
      | false =>
       obtain ⟨hlt3,hb3⟩:=HN2.out rfl;obtain ⟨e,r,h1,h2⟩:=ref_more hlt3 HBB.out hb3;have hein:=spR_in (s.drop j) j (j,e) (by rw [h2]; simp);have hll:(s.drop j).length=s.length - j:=List.length_drop
       have hL2:L=(r.map (wdAt s)).reverse ++ [((j+1,e),lowS (subS s (j+1) e))]:=by
        rw [← HL.out,h1,List.map_cons,List.reverse_cons]; rfl
       have hspr:((spR (s.drop j) j).map (wdAt s)).reverse=(r.map (wdAt s)).reverse ++ [((j,e),lowS (subS s j e))]:=by
        rw [h2,List.map_cons,List.reverse_cons]; rfl
       have hen:e≤n:=by have:=hein.2.1; rw [HN.out]; omega
       have hje:j<e:=hein.1;have HSP:=hd_ hspr
       have hlen:L.length=(r.map (wdAt s)).reverse.length+1:=by rw [hL2]; simp
       have HFIN:Hid (WrCut w s n j (.slice A L.length cap) wr):=hd_ (by
        refine ⟨(r.map (wdAt s)).reverse,j+1,e,lowS (subS s (j+1) e),A,cap,by rw [hlen],by omega,hje,hen,HSP.out,?_,HM.out⟩;have h:=HO.out;rw [hlen,hL2] at h
        exact h)
       clear HN1 HN2 HNEW HL HO HM HBB hlt3 hb3 h1 h2 hein hll hL2 hspr hlen HSP;go_wp2_with fail;go_meet;exact HFIN.out
     case rest =>
      obtain ⟨L0,f0,e,y,A2,cap2,rfl,hlj,hje,hen,hsp,hown,hm⟩:=hcut;obtain ⟨g,cap',hform,hg1,hg2,hcap,hcap2⟩:=own_formW hown (by omega)
      injection hform with hA _ hC
      subst hA hC;have HSP:=hd_ hsp;obtain ⟨v0,v1,v2⟩:=wdV_get (L0 ++ [((f0,e),y)]) L0.length (by simp);simp only [List.getElem_concat_length] at v0 v1 v2;have hl3:L0.length*3+3≤(L0.length+1)*3:=(by omega);have c0:=(World.ownsRow.cellAt hown (L0.length*3) (by omega)).trans v0;have c1:=(World.ownsRow.cellAt hown (L0.length*3+1) (by omega)).trans v1;have c2:=(World.ownsRow.cellAt hown (L0.length*3+2) (by omega)).trans v2;have HLW:=hd_ (smallR_calls wc (subS s j e) (by unfold subS; rw [List.length_drop,List.length_take,← HN.out]; omega));have HEX:Hid ((⟨s.toArray⟩:ByteArray).extract j e=⟨(subS s j e).toArray⟩):=hd_ (ext_sub s j e);have HSET:=hd_ (wdV_setLast L0 ((f0,e),y) j (lowS (subS s j e)));have HOC:=hd_ hown;have HMC:Hid (Pure w wc):=hd_ hm;clear v0 v1 v2 hown hm hsp HN1 HN2 HNEW HL HO HM HBB;generalize hmm:L0.length=m at *;have HMM:=hd_ hmm;clear hmm;go_wp2_with fail;rw [HEX.out];refine HLW.out.mono ?_;rintro e2 w3 ⟨rfl,hm3⟩;have hown3:=own_pure HOC.out hm3;have c0':=hm3.keep c0 (by simp);have c2':=hm3.keep c2 (by simp);have f0':=World.ownsRow.frozenAt hown3 (m*3);have f2':=World.ownsRow.frozenAt hown3 (m*3+2);have ho1:=(World.ownsRow.stored hown3 (m*3) (.int .i64 (j:Int))).1;have ho2:=(World.ownsRow.stored ho1 (m*3+2) (.string ⟨(lowS (subS s j e)).toArray⟩)).1;rw [HSET.out] at ho2;have HOF:=hd_ ho2;have hmf:=((HMC.out.trans hm3).setCell (p:=⟨g,m*3,none⟩) (.inr hg1) (.int .i64 (j:Int))).setCell (p:=⟨g,m*3+2,none⟩) (.inr hg1) (.string ⟨(lowS (subS s j e)).toArray⟩);have HMF:=hd_ hmf;clear hm3 hown3 ho1 ho2 hmf c0 c1 c2 HLW HEX HSET HOC HMC;generalize lowS (subS s j e)=lw at *;go_wp2_with fail
      go_roundg j
      case measure=>omega
      case rel =>
       refine ⟨j,_,L0 ++ [((j,e),lw)],some ⟨g,0,none⟩,cap2,rfl,by rw [← HN.out]; omega,rfl,by simp,?_,by rw [List.length_append,HMM.out,← HN.out]; simp; omega,HSP.out,?_,HMF.out⟩
       ·rw [List.length_append,HMM.out]; rfl
       ·rw [List.length_append,HMM.out]; exact HOF.out
end Go.Proofs.YtnfflgicngeekaaGreatDoor
namespace Go.Proofs.YtnfflgicngeekaaGreatDoor
open Go.RowKit
theorem smB_low (c:UInt8):smB c=(letB c && lowB c == c):=by
 have key:∀ c:Fin 256,smB (UInt8.ofNat c.val)=(letB (UInt8.ofNat c.val) && lowB (UInt8.ofNat c.val) == UInt8.ofNat c.val):=by decide +kernel
 have h:=key ⟨c.toNat,c.toNat_lt⟩
 simpa using h
theorem smB_not (c:UInt8) (h:c.toNat=63∨c.toNat=42):smB c=false:=by
 rw [smB_nat,letB_nat]
 rcases h with h | h <;> rw [h] <;> rfl
def patR (sm:Bool) (N i n:Nat):Bool:=(decide (n=42) && decide (i+1=N)) || (decide (n=63) || sm)
theorem patR_nat (N i:Nat) (c:UInt8) (h:i=0→c.toNat≠63∧c.toNat≠42):patC N i c=patR (smB c) N i c.toNat:=by
 rw [patC_nat];unfold patN patR
 by_cases h0:i=0
 ·obtain ⟨h1,h2⟩:=h h0;simp [h0,h1,h2]
 ·simp only [ne_eq,h0,not_false_eq_true,decide_true,Bool.true_and]
  cases smB c <;> cases decide (c.toNat=63) <;> cases decide (c.toNat=42) <;> cases decide (i+1=N) <;> rfl
theorem patAll_first {s:Str} (h:0<s.length) (hc:s[0].toNat=63∨s[0].toNat=42):patAll s s.length=false :=
 patAll_false h (by rw [patC_nat]; unfold patN; rw [smB_not _ hc]; rfl)
theorem patternIs_calls (w:World) (s:Str) (hs:s.length≤1000000):Calls Tryz.prog 166 #[.string ⟨s.toArray⟩] w (BoolPost w (patB s)):=by
 have hz:(⟨s.toArray⟩:ByteArray).size=s.length:=by simp [ByteArray.size]
 have HPB:=hd_ (patB_all s);obtain ⟨n,hn⟩:∃ n,n=s.length:=⟨_,rfl⟩;rw [← hn] at hz hs HPB;have HN:=hd_ hn;clear hn;obtain ⟨pb,hpb⟩:∃ pb,patB s=pb:=⟨_,rfl⟩;rw [hpb] at HPB ⊢;clear hpb
 go_enter Tryz.func166,Tryz.ntmps166
 go_wp2_with fail;refine (rin_calls _ _ _ _).mono ?_;rintro e w' ⟨rfl,rfl⟩
 by_cases hn1:1≤n∧n≤40
 rotate_left
 ·have hin:inB (n:Int) 1 40=false:=by
   cases h:inB (n:Int) 1 40
   ·rfl
   ·have:=inB_true h
    omega
  rw [hin];have HR:Hid (pb=false):=hd_ (by rw [HPB.out,decide_eq_false hn1]; rfl);clear HPB hin;go_wp2_with fail
  try simp only [Exit.inBlock,Exit.then]
  refine bodyPost_ret (v:=.bool false) (by simp [results,Tryz.results166,go_sem]) rfl ?_;rw [HR.out];exact ⟨rfl,Mod.refl _ _⟩
 have hin:inB (n:Int) 1 40=true:=by
  cases h:inB (n:Int) 1 40
  ·have:=inB_false h
   omega
  ·rfl
 rw [hin];have hn0:0<n:=(by omega)
 have hlt0:0<s.length:=by rw [← HN.out]; exact hn0
 have hix0:(⟨s.toArray⟩:ByteArray)[0]'(by rw [hz]; exact hn0)=s[0]:=rfl;have HF0:=hd_ (fun h=>patAll_first hlt0 h);have HPA:Hid (pb=patAll s n):=hd_ (by rw [HPB.out,decide_eq_true hn1]; rfl);obtain ⟨c0,hc0⟩:∃ c0,s[0].toNat=c0:=⟨_,rfl⟩;rw [hc0,← HN.out] at HF0;have HC0:=hd_ hc0;clear HPB hin hc0
 by_cases h63:c0=63
 ·have h63i:((s[0].toNat:Int) == 63)=true:=by have:=HC0.out; simp; omega
  have HR:Hid (pb=false):=hd_ (by rw [HPA.out]; exact HF0.out (.inl h63));clear HPA HF0 h63;go_wp2_with fail
  try simp only [Exit.inBlock,Exit.then]
  refine bodyPost_ret (v:=.bool false) (by simp [results,Tryz.results166,go_sem]) rfl ?_;rw [HR.out];exact ⟨rfl,Mod.refl _ _⟩
 have h63i:((s[0].toNat:Int) == 63)=false:=by have:=HC0.out; simp; omega
 by_cases h42:c0=42
 ·have h42i:((s[0].toNat:Int) == 42)=true:=by have:=HC0.out; simp; omega
  have HR:Hid (pb=false):=hd_ (by rw [HPA.out]; exact HF0.out (.inr h42));clear HPA HF0 h42 h63;go_wp2_with fail
  try simp only [Exit.inBlock,Exit.then]
  refine bodyPost_ret (v:=.bool false) (by simp [results,Tryz.results166,go_sem]) rfl ?_;rw [HR.out];exact ⟨rfl,Mod.refl _ _⟩
 have h42i:((s[0].toNat:Int) == 42)=false:=by have:=HC0.out; simp; omega
 have HFST:Hid (∀ (k:Nat) (h:k<s.length),k=0→s[k].toNat≠63∧s[k].toNat≠42):=hd_ (fun k h e=>by subst e; have:=HC0.out; omega);clear HF0 h63 h42 HC0;go_wp2_with fail;clear h63i h42i hix0
 go_loopg [21] n (fun gk i wr=>∃ k:Nat,n - k=gk∧k≤n∧i = .int .i64 (k:Int)∧patAll s k=true∧Pure w wr)
 case atStart=>exact ⟨0,by omega,by omega,rfl,rfl,Mod.refl _ _⟩
 case round =>
  obtain ⟨k,rfl,hk,rfl,hpa,hm⟩:=hrel;have HP:Hid (Pure w wr):=hd_ hm;clear hm
  by_cases hlt:k<n
  ·have hlt2:k<s.length:=by rw [← HN.out]; exact hlt
   have HSU:=hd_ (patAll_succ s k hlt2);have HFA:=hd_ (patAll_false hlt2);have HPC:=hd_ (patR_nat s.length k s[k] (HFST.out k hlt2));have hix:(⟨s.toArray⟩:ByteArray)[k]'(by rw [hz]; exact hlt)=s[k]:=rfl
   have hex:(⟨s.toArray⟩:ByteArray).extract k (k+1)=⟨#[s[k]]⟩:=by
    rw [ext_sub]
    congr 1
    unfold subS;rw [List.take_succ_eq_append_getElem hlt2,List.drop_append,List.drop_of_length_le (by rw [List.length_take]; omega),List.length_take,Nat.min_eq_left (by omega),Nat.sub_self]
    rfl
   rw [← HN.out] at HPC HFA HSU;obtain ⟨cc,hcc⟩:∃ cc,s[k]=cc:=⟨_,rfl⟩;rw [hcc] at HSU HFA HPC hix hex;have HSM:=hd_ (smB_low cc);have HLT:Hid (∀ W,Calls Tryz.prog 161 #[.int .u8 (cc.toNat:Int)] W (BoolPost W (letB cc))):=hd_ (fun W=>(letterR_calls cc W).mono (fun e w' h=>⟨h.1,h.2 ▸ Mod.refl _ _⟩));have HSL:Hid (∀ W,Calls Tryz.prog 162 #[.string ⟨#[cc]⟩] W (fun e w'=>e = .returned (.string ⟨#[lowB cc]⟩)∧Pure W w')):=hd_ (fun W=>smallR_calls W [cc] (by simp));obtain ⟨pc,hpc⟩:∃ pc,patC n k cc=pc:=⟨_,rfl⟩;obtain ⟨sm,hsm⟩:∃ sm,smB cc=sm:=⟨_,rfl⟩;obtain ⟨lb,hlb⟩:∃ lb,letB cc=lb:=⟨_,rfl⟩;obtain ⟨d,hd⟩:∃ d,lowB cc=d:=⟨_,rfl⟩;obtain ⟨c,hc⟩:∃ c,cc.toNat=c:=⟨_,rfl⟩;rw [hpc] at HSU HFA HPC;rw [hsm] at HPC HSM;rw [hlb] at HSM HLT;rw [hd] at HSM HSL;rw [hc] at HPC HLT
   have hcb:c<256:=by rw [← hc]; exact cc.toNat_lt
   clear hcc hpc hsm hlb hd HFST;have h:=HPC.out;unfold patR at h;have YES:Hid (pc=true→patAll s (k+1)=true):=hd_ (fun h=>by rw [HSU.out,hpa,h]; rfl);have NO:Hid (pc=false→pb=false):=hd_ (fun h=>by rw [HPA.out]; exact HFA.out h);clear HPC HSU HFA hpa HPA
   by_cases h63:c=63
   ·have h63i:((c:Int) != 63)=false:=by simp; omega
    have h42i:((c:Int) == 42)=false:=by simp; omega
    have e:pc=true:=by rw [h,decide_eq_true h63,Bool.true_or,Bool.or_true]
    have HS2:=hd_ (YES.out e);clear YES NO h HSM h63;go_upto_region 7 with (fail);have HGs:=hd_ (show KeepG (fun Z=>∃ hz:Nat,hz=Z.heap.size) from fun D zzi zq zq' h hm=>by (exact ⟨_,rfl⟩))
    refine wp_region_inv (by kernel_rfl) (by kernel_rfl) (InvF (R:=Mod (fun _=>False)) [.is (.bool false),.is (.bool true),.is (.bool true),.is (.string ⟨s.toArray⟩),.is (.int .i64 (k:Int)),.is (.int .u8 (c:Int)),.is (.bool false),.is (.bool false),.is (.bool false),.is (undef),.is (undef),.is (undef),.is (undef),.is (undef),.is (undef),.is (undef),.is (undef),.is (undef),.is (undef),.is (undef),.is (undef),.is (undef),.is (undef),.is (undef),.is (undef),.is (undef),.is (undef),.is (undef),.is (.bool false)]
      (PB wr (fun _=>False) wr.heap.size (fun _=>(fun Z=>∃ hz:Nat,hz=Z.heap.size)))) (InvF.start (PB.start (Mod.refl _ _) (Nat.le_refl _) (⟨_,rfl⟩))) ?_ ?_
    ·iterate 29 (refine .cons ?_ ?_; rotate_left)
     exact .nil
     all_goals intro D V zw1 a hR hI K hK
     all_goals try rw [if_pos (by rfl)]
     have ze4:=hR.ot 4;rotate_left;have ze35:=hI.tm hR 35 0;rotate_left;have ze36:=hI.tm hR 36 1;rotate_left;have ze0:=hR.ot 0;have ze37:=hI.tm hR 37 2;rw [if_pos (by simp [Region.wanted,yielded,ze37])];rotate_left;have ze3:=hR.ot 3;have ze37:=hI.tm hR 37 2;rw [if_pos (by simp [Region.wanted,yielded,ze37])];rotate_left;have ze38:=hI.tm hR 38 3;have ze39:=hI.tm hR 39 4;have ze37:=hI.tm hR 37 2;rw [if_pos (by simp [Region.wanted,yielded,ze37])];rotate_left;have ze40:=hI.tm hR 40 5;have ze37:=hI.tm hR 37 2;rw [if_pos (by simp [Region.wanted,yielded,ze37])];rotate_left;have ze37:=hI.tm hR 37 2;have ze41:=hI.tm hR 41 6;rotate_left;have ze42:=hI.tm hR 42 7;rotate_left;have ze43:=hI.tm hR 43 8;rw [if_neg (by simp [Region.wanted,yielded,ze43])];exact hK _ _ (hI.nq hR HGs.out rfl);have ze43:=hI.tm hR 43 8;rw [if_neg (by simp [Region.wanted,yielded,ze43])];exact hK _ _ (hI.nq hR HGs.out rfl);have ze43:=hI.tm hR 43 8;rw [if_neg (by simp [Region.wanted,yielded,ze43])];exact hK _ _ (hI.nq hR HGs.out rfl);have ze43:=hI.tm hR 43 8;rw [if_neg (by simp [Region.wanted,yielded,ze43])];exact hK _ _ (hI.nq hR HGs.out rfl);have ze43:=hI.tm hR 43 8;rw [if_neg (by simp [Region.wanted,yielded,ze43])];exact hK _ _ (hI.nq hR HGs.out rfl);have ze43:=hI.tm hR 43 8;rw [if_neg (by simp [Region.wanted,yielded,ze43])];exact hK _ _ (hI.nq hR HGs.out rfl);have ze49:=hI.tm hR 49 14;rw [if_neg (by simp [Region.wanted,yielded,ze49,undef])];exact hK _ _ (hI.nq hR HGs.out rfl);have ze49:=hI.tm hR 49 14;rw [if_neg (by simp [Region.wanted,yielded,ze49,undef])];exact hK _ _ (hI.nq hR HGs.out rfl);have ze49:=hI.tm hR 49 14;rw [if_neg (by simp [Region.wanted,yielded,ze49,undef])];exact hK _ _ (hI.nq hR HGs.out rfl);have ze49:=hI.tm hR 49 14;rw [if_neg (by simp [Region.wanted,yielded,ze49,undef])];exact hK _ _ (hI.nq hR HGs.out rfl);have ze49:=hI.tm hR 49 14;rw [if_neg (by simp [Region.wanted,yielded,ze49,undef])];exact hK _ _ (hI.nq hR HGs.out rfl);have ze49:=hI.tm hR 49 14;rw [if_neg (by simp [Region.wanted,yielded,ze49,undef])];exact hK _ _ (hI.nq hR HGs.out rfl);have ze49:=hI.tm hR 49 14;rw [if_neg (by simp [Region.wanted,yielded,ze49,undef])];exact hK _ _ (hI.nq hR HGs.out rfl);have ze49:=hI.tm hR 49 14;rw [if_neg (by simp [Region.wanted,yielded,ze49,undef])];exact hK _ _ (hI.nq hR HGs.out rfl);have ze49:=hI.tm hR 49 14;rw [if_neg (by simp [Region.wanted,yielded,ze49,undef])];exact hK _ _ (hI.nq hR HGs.out rfl);have ze49:=hI.tm hR 49 14;rw [if_neg (by simp [Region.wanted,yielded,ze49,undef])];exact hK _ _ (hI.nq hR HGs.out rfl);have ze49:=hI.tm hR 49 14;rw [if_neg (by simp [Region.wanted,yielded,ze49,undef])];exact hK _ _ (hI.nq hR HGs.out rfl);have ze49:=hI.tm hR 49 14;rw [if_neg (by simp [Region.wanted,yielded,ze49,undef])];exact hK _ _ (hI.nq hR HGs.out rfl);have ze43:=hI.tm hR 43 8;rw [if_neg (by simp [Region.wanted,yielded,ze43])];exact hK _ _ (hI.nq hR HGs.out rfl);have ze43:=hI.tm hR 43 8;have ze62:=hI.tm hR 62 27;rotate_left
     all_goals (go_simp; exact hK _ _ (hI.nq hR HGs.out rfl))
    ·intro D V w9 hD hI;obtain ⟨hMx,hBx,hGx⟩:=hI.1;have zf0:=hI.eqA hD 0;have zf1:=hI.eqA hD 1;have zf2:=hI.eqA hD 2;have zf3:=hI.eqA hD 3;have zf4:=hI.eqA hD 4;have zf5:=hI.eqA hD 5;have zf6:=hI.eqA hD 6;have zf7:=hI.eqA hD 7;have zf8:=hI.eqA hD 8;have zf9:=hI.eqA hD 9;have zf10:=hI.eqA hD 10;have zf11:=hI.eqA hD 11;have zf12:=hI.eqA hD 12;have zf13:=hI.eqA hD 13;have zf14:=hI.eqA hD 14;have zf15:=hI.eqA hD 15;have zf16:=hI.eqA hD 16;have zf17:=hI.eqA hD 17;have zf18:=hI.eqA hD 18;have zf19:=hI.eqA hD 19;have zf20:=hI.eqA hD 20;have zf21:=hI.eqA hD 21;have zf22:=hI.eqA hD 22;have zf23:=hI.eqA hD 23;have zf24:=hI.eqA hD 24;have zf25:=hI.eqA hD 25;have zf26:=hI.eqA hD 26;have zf27:=hI.eqA hD 27;have zf28:=hI.eqA hD 28;clear hI hD HGs;simp only [frAll,Act.put,List.setIfInBounds_toArray,List.set_cons_zero,List.set_cons_succ,Nat.zero_add,Nat.reduceAdd,zf0,zf1,zf2,zf3,zf4,zf5,zf6,zf7,zf8,zf9,zf10,zf11,zf12,zf13,zf14,zf15,zf16,zf17,zf18,zf19,zf20,zf21,zf22,zf23,zf24,zf25,zf26,zf27,zf28];clear zf0 zf1 zf2 zf3 zf4 zf5 zf6 zf7 zf8 zf9 zf10 zf11 zf12 zf13 zf14 zf15 zf16 zf17 zf18 zf19 zf20 zf21 zf22 zf23 zf24 zf25 zf26 zf27 zf28;clear V D;have HP2:Hid (Pure w w9):=hd_ (HP.out.trans hMx);clear hGx hMx hBx;go_wp2_with fail
     go_roundg (n - (k+1))
     case measure=>omega
     case rel=>exact ⟨k+1,rfl,by omega,by simp,HS2.out,HP2.out⟩
   have h63i:((c:Int) != 63)=true:=by simp; omega
   by_cases hst:c=42∧k+1=n
   ·have h42i:((c:Int) == 42)=true:=by simp; omega
    have hki:((k:Int) == (n:Int) - 1)=true:=by simp; omega
    have e:pc=true:=by rw [h,decide_eq_true hst.1,decide_eq_true hst.2]; rfl
    have HS2:=hd_ (YES.out e);clear YES NO h HSM h63 hst;go_upto_region 7 with (fail);have HGs:=hd_ (show KeepG (fun Z=>∃ hz:Nat,hz=Z.heap.size) from fun D zzi zq zq' h hm=>by (exact ⟨_,rfl⟩))
    refine wp_region_inv (by kernel_rfl) (by kernel_rfl) (InvF (R:=Mod (fun _=>False)) [.is (.bool true),.is (.bool false),.is (.bool false),.is (undef),.is (undef),.is (undef),.is (undef),.is (.bool false),.is (.bool false),.is (undef),.is (undef),.is (undef),.is (undef),.is (undef),.is (undef),.is (undef),.is (undef),.is (undef),.is (undef),.is (undef),.is (undef),.is (undef),.is (undef),.is (undef),.is (undef),.is (undef),.is (undef),.is (undef),.is (.bool false)]
      (PB wr (fun _=>False) wr.heap.size (fun _=>(fun Z=>∃ hz:Nat,hz=Z.heap.size)))) (InvF.start (PB.start (Mod.refl _ _) (Nat.le_refl _) (⟨_,rfl⟩))) ?_ ?_
    ·iterate 29 (refine .cons ?_ ?_; rotate_left)
     exact .nil
     all_goals intro D V zw1 a hR hI K hK
     all_goals try rw [if_pos (by rfl)]
     have ze4:=hR.ot 4;rotate_left;have ze35:=hI.tm hR 35 0;rotate_left;have ze36:=hI.tm hR 36 1;rotate_left;have ze37:=hI.tm hR 37 2;rw [if_neg (by simp [Region.wanted,yielded,ze37])];exact hK _ _ (hI.nq hR HGs.out rfl);have ze37:=hI.tm hR 37 2;rw [if_neg (by simp [Region.wanted,yielded,ze37])];exact hK _ _ (hI.nq hR HGs.out rfl);have ze37:=hI.tm hR 37 2;rw [if_neg (by simp [Region.wanted,yielded,ze37])];exact hK _ _ (hI.nq hR HGs.out rfl);have ze37:=hI.tm hR 37 2;rw [if_neg (by simp [Region.wanted,yielded,ze37])];exact hK _ _ (hI.nq hR HGs.out rfl);have ze37:=hI.tm hR 37 2;have ze41:=hI.tm hR 41 6;rotate_left;have ze42:=hI.tm hR 42 7;rotate_left;have ze43:=hI.tm hR 43 8;rw [if_neg (by simp [Region.wanted,yielded,ze43])];exact hK _ _ (hI.nq hR HGs.out rfl);have ze43:=hI.tm hR 43 8;rw [if_neg (by simp [Region.wanted,yielded,ze43])];exact hK _ _ (hI.nq hR HGs.out rfl);have ze43:=hI.tm hR 43 8;rw [if_neg (by simp [Region.wanted,yielded,ze43])];exact hK _ _ (hI.nq hR HGs.out rfl);have ze43:=hI.tm hR 43 8;rw [if_neg (by simp [Region.wanted,yielded,ze43])];exact hK _ _ (hI.nq hR HGs.out rfl);have ze43:=hI.tm hR 43 8;rw [if_neg (by simp [Region.wanted,yielded,ze43])];exact hK _ _ (hI.nq hR HGs.out rfl);have ze43:=hI.tm hR 43 8;rw [if_neg (by simp [Region.wanted,yielded,ze43])];exact hK _ _ (hI.nq hR HGs.out rfl);have ze49:=hI.tm hR 49 14;rw [if_neg (by simp [Region.wanted,yielded,ze49,undef])];exact hK _ _ (hI.nq hR HGs.out rfl);have ze49:=hI.tm hR 49 14;rw [if_neg (by simp [Region.wanted,yielded,ze49,undef])];exact hK _ _ (hI.nq hR HGs.out rfl);have ze49:=hI.tm hR 49 14;rw [if_neg (by simp [Region.wanted,yielded,ze49,undef])];exact hK _ _ (hI.nq hR HGs.out rfl);have ze49:=hI.tm hR 49 14;rw [if_neg (by simp [Region.wanted,yielded,ze49,undef])];exact hK _ _ (hI.nq hR HGs.out rfl);have ze49:=hI.tm hR 49 14;rw [if_neg (by simp [Region.wanted,yielded,ze49,undef])];exact hK _ _ (hI.nq hR HGs.out rfl);have ze49:=hI.tm hR 49 14;rw [if_neg (by simp [Region.wanted,yielded,ze49,undef])];exact hK _ _ (hI.nq hR HGs.out rfl);have ze49:=hI.tm hR 49 14;rw [if_neg (by simp [Region.wanted,yielded,ze49,undef])];exact hK _ _ (hI.nq hR HGs.out rfl);have ze49:=hI.tm hR 49 14;rw [if_neg (by simp [Region.wanted,yielded,ze49,undef])];exact hK _ _ (hI.nq hR HGs.out rfl);have ze49:=hI.tm hR 49 14;rw [if_neg (by simp [Region.wanted,yielded,ze49,undef])];exact hK _ _ (hI.nq hR HGs.out rfl);have ze49:=hI.tm hR 49 14;rw [if_neg (by simp [Region.wanted,yielded,ze49,undef])];exact hK _ _ (hI.nq hR HGs.out rfl);have ze49:=hI.tm hR 49 14;rw [if_neg (by simp [Region.wanted,yielded,ze49,undef])];exact hK _ _ (hI.nq hR HGs.out rfl);have ze49:=hI.tm hR 49 14;rw [if_neg (by simp [Region.wanted,yielded,ze49,undef])];exact hK _ _ (hI.nq hR HGs.out rfl);have ze43:=hI.tm hR 43 8;rw [if_neg (by simp [Region.wanted,yielded,ze43])];exact hK _ _ (hI.nq hR HGs.out rfl);have ze43:=hI.tm hR 43 8;have ze62:=hI.tm hR 62 27;rotate_left
     all_goals (go_simp; exact hK _ _ (hI.nq hR HGs.out rfl))
    ·intro D V w9 hD hI;obtain ⟨hMx,hBx,hGx⟩:=hI.1;have zf0:=hI.eqA hD 0;have zf1:=hI.eqA hD 1;have zf2:=hI.eqA hD 2;have zf3:=hI.eqA hD 3;have zf4:=hI.eqA hD 4;have zf5:=hI.eqA hD 5;have zf6:=hI.eqA hD 6;have zf7:=hI.eqA hD 7;have zf8:=hI.eqA hD 8;have zf9:=hI.eqA hD 9;have zf10:=hI.eqA hD 10;have zf11:=hI.eqA hD 11;have zf12:=hI.eqA hD 12;have zf13:=hI.eqA hD 13;have zf14:=hI.eqA hD 14;have zf15:=hI.eqA hD 15;have zf16:=hI.eqA hD 16;have zf17:=hI.eqA hD 17;have zf18:=hI.eqA hD 18;have zf19:=hI.eqA hD 19;have zf20:=hI.eqA hD 20;have zf21:=hI.eqA hD 21;have zf22:=hI.eqA hD 22;have zf23:=hI.eqA hD 23;have zf24:=hI.eqA hD 24;have zf25:=hI.eqA hD 25;have zf26:=hI.eqA hD 26;have zf27:=hI.eqA hD 27;have zf28:=hI.eqA hD 28;clear hI hD HGs;simp only [frAll,Act.put,List.setIfInBounds_toArray,List.set_cons_zero,List.set_cons_succ,Nat.zero_add,Nat.reduceAdd,zf0,zf1,zf2,zf3,zf4,zf5,zf6,zf7,zf8,zf9,zf10,zf11,zf12,zf13,zf14,zf15,zf16,zf17,zf18,zf19,zf20,zf21,zf22,zf23,zf24,zf25,zf26,zf27,zf28];clear zf0 zf1 zf2 zf3 zf4 zf5 zf6 zf7 zf8 zf9 zf10 zf11 zf12 zf13 zf14 zf15 zf16 zf17 zf18 zf19 zf20 zf21 zf22 zf23 zf24 zf25 zf26 zf27 zf28;clear V D;have HP2:Hid (Pure w w9):=hd_ (HP.out.trans hMx);clear hGx hMx hBx;go_wp2_with fail
     go_roundg (n - (k+1))
     case measure=>omega
     case rel=>exact ⟨k+1,rfl,by omega,by simp,HS2.out,HP2.out⟩
   have hpc:pc=sm:=by
    rw [h,decide_eq_false h63,Bool.false_or]
    by_cases h1:c=42
    ·rw [decide_eq_false (show ¬ k+1=n from fun h2=>hst ⟨h1,h2⟩),Bool.and_false,Bool.false_or]
    ·rw [decide_eq_false h1,Bool.false_and,Bool.false_or]
   go_upto_region 6 with (fail)
   go_cut [4] from 24 to 34 (fun p wx=>p = .bool false∧wr=wx)
   case first =>
    clear YES NO h HSM
    by_cases h1:c=42
    ·have h42i:((c:Int) == 42)=true:=by simp; omega
     have hki:((k:Int) == (n:Int) - 1)=false:=by simp; omega
     clear hst h1;go_wp2_with fail;go_meet;exact ⟨rfl,rfl⟩
    ·have h42i:((c:Int) == 42)=false:=by simp; omega
     clear hst h1;go_wp2_with fail;go_meet;exact ⟨rfl,rfl⟩
   case rest =>
    obtain ⟨rfl,rfl⟩:=hcut;have hsm:=HSM.out
    cases lb with
    | false =>
     have e:pc=false:=by rw [hpc,hsm]; rfl
     have HR:=hd_ (NO.out e);clear YES NO h HSM h63 hst hpc hsm e;go_upto_region 7 with (fail);have HGs:=hd_ (show KeepG (fun Z=>∃ hz:Nat,hz=Z.heap.size) from fun D zzi zq zq' h hm=>by (exact ⟨_,rfl⟩))
     refine wp_region_inv (by kernel_rfl) (by kernel_rfl) (InvF (R:=Mod (fun _=>False)) [.is (.bool false),.is (.bool true),.is (.bool true),.is (.string ⟨s.toArray⟩),.is (.int .i64 (k:Int)),.is (.int .u8 (c:Int)),.is (.bool true),.is (.bool true),.is (.bool true),.is (.string ⟨s.toArray⟩),.is (.int .i64 (k:Int)),.is (.int .u8 (c:Int)),.is (.bool false),.is (.bool true),.is (.bool true),.is (undef),.is (undef),.is (undef),.is (undef),.is (undef),.is (undef),.is (undef),.is (undef),.is (undef),.is (undef),.is (undef),.is (undef),.is (.bool true),.is (.bool true)]
       (PB wr (fun _=>False) wr.heap.size (fun _=>(fun Z=>∃ hz:Nat,hz=Z.heap.size)))) (InvF.start (PB.start (Mod.refl _ _) (Nat.le_refl _) (⟨_,rfl⟩))) ?_ ?_
     ·iterate 29 (refine .cons ?_ ?_; rotate_left)
      exact .nil
      all_goals intro D V zw1 a hR hI K hK
      all_goals try rw [if_pos (by rfl)]
      have ze4:=hR.ot 4;rotate_left;have ze35:=hI.tm hR 35 0;rotate_left;have ze36:=hI.tm hR 36 1;rotate_left;have ze0:=hR.ot 0;have ze37:=hI.tm hR 37 2;rw [if_pos (by simp [Region.wanted,yielded,ze37])];rotate_left;have ze3:=hR.ot 3;have ze37:=hI.tm hR 37 2;rw [if_pos (by simp [Region.wanted,yielded,ze37])];rotate_left;have ze38:=hI.tm hR 38 3;have ze39:=hI.tm hR 39 4;have ze37:=hI.tm hR 37 2;rw [if_pos (by simp [Region.wanted,yielded,ze37])];rotate_left;have ze40:=hI.tm hR 40 5;have ze37:=hI.tm hR 37 2;rw [if_pos (by simp [Region.wanted,yielded,ze37])];rotate_left;have ze37:=hI.tm hR 37 2;have ze41:=hI.tm hR 41 6;rotate_left;have ze42:=hI.tm hR 42 7;rotate_left;have ze0:=hR.ot 0;have ze43:=hI.tm hR 43 8;rw [if_pos (by simp [Region.wanted,yielded,ze43])];rotate_left;have ze3:=hR.ot 3;have ze43:=hI.tm hR 43 8;rw [if_pos (by simp [Region.wanted,yielded,ze43])];rotate_left;have ze44:=hI.tm hR 44 9;have ze45:=hI.tm hR 45 10;have ze43:=hI.tm hR 43 8;rw [if_pos (by simp [Region.wanted,yielded,ze43])];rotate_left
      ·have ze46:=hI.tm hR 46 11;have ze43:=hI.tm hR 43 8;rw [if_pos (by simp [Region.wanted,yielded,ze43])];go_simp;refine (HLT.out zw1).mono ?_;rintro e zw2 ⟨rfl,hm2⟩;exact hK _ _ (hI.nc hR HGs.out hm2 rfl)
      have ze47:=hI.tm hR 47 12;have ze43:=hI.tm hR 43 8;rw [if_pos (by simp [Region.wanted,yielded,ze43])];rotate_left;have ze48:=hI.tm hR 48 13;have ze43:=hI.tm hR 43 8;rw [if_pos (by simp [Region.wanted,yielded,ze43])];rotate_left;have ze49:=hI.tm hR 49 14;rw [if_neg (by simp [Region.wanted,yielded,ze49])];exact hK _ _ (hI.nq hR HGs.out rfl);have ze49:=hI.tm hR 49 14;rw [if_neg (by simp [Region.wanted,yielded,ze49])];exact hK _ _ (hI.nq hR HGs.out rfl);have ze49:=hI.tm hR 49 14;rw [if_neg (by simp [Region.wanted,yielded,ze49])];exact hK _ _ (hI.nq hR HGs.out rfl);have ze49:=hI.tm hR 49 14;rw [if_neg (by simp [Region.wanted,yielded,ze49])];exact hK _ _ (hI.nq hR HGs.out rfl);have ze49:=hI.tm hR 49 14;rw [if_neg (by simp [Region.wanted,yielded,ze49])];exact hK _ _ (hI.nq hR HGs.out rfl);have ze49:=hI.tm hR 49 14;rw [if_neg (by simp [Region.wanted,yielded,ze49])];exact hK _ _ (hI.nq hR HGs.out rfl);have ze49:=hI.tm hR 49 14;rw [if_neg (by simp [Region.wanted,yielded,ze49])];exact hK _ _ (hI.nq hR HGs.out rfl);have ze49:=hI.tm hR 49 14;rw [if_neg (by simp [Region.wanted,yielded,ze49])];exact hK _ _ (hI.nq hR HGs.out rfl);have ze49:=hI.tm hR 49 14;rw [if_neg (by simp [Region.wanted,yielded,ze49])];exact hK _ _ (hI.nq hR HGs.out rfl);have ze49:=hI.tm hR 49 14;rw [if_neg (by simp [Region.wanted,yielded,ze49])];exact hK _ _ (hI.nq hR HGs.out rfl);have ze49:=hI.tm hR 49 14;rw [if_neg (by simp [Region.wanted,yielded,ze49])];exact hK _ _ (hI.nq hR HGs.out rfl);have ze49:=hI.tm hR 49 14;rw [if_neg (by simp [Region.wanted,yielded,ze49])];exact hK _ _ (hI.nq hR HGs.out rfl);have ze49:=hI.tm hR 49 14;have ze61:=hI.tm hR 61 26;have ze43:=hI.tm hR 43 8;rw [if_pos (by simp [Region.wanted,yielded,ze43])];rotate_left;have ze43:=hI.tm hR 43 8;have ze62:=hI.tm hR 62 27;rotate_left
      all_goals (go_simp; exact hK _ _ (hI.nq hR HGs.out rfl))
     ·intro D V w9 hD hI;obtain ⟨hMx,hBx,hGx⟩:=hI.1;have zf0:=hI.eqA hD 0;have zf1:=hI.eqA hD 1;have zf2:=hI.eqA hD 2;have zf3:=hI.eqA hD 3;have zf4:=hI.eqA hD 4;have zf5:=hI.eqA hD 5;have zf6:=hI.eqA hD 6;have zf7:=hI.eqA hD 7;have zf8:=hI.eqA hD 8;have zf9:=hI.eqA hD 9;have zf10:=hI.eqA hD 10;have zf11:=hI.eqA hD 11;have zf12:=hI.eqA hD 12;have zf13:=hI.eqA hD 13;have zf14:=hI.eqA hD 14;have zf15:=hI.eqA hD 15;have zf16:=hI.eqA hD 16;have zf17:=hI.eqA hD 17;have zf18:=hI.eqA hD 18;have zf19:=hI.eqA hD 19;have zf20:=hI.eqA hD 20;have zf21:=hI.eqA hD 21;have zf22:=hI.eqA hD 22;have zf23:=hI.eqA hD 23;have zf24:=hI.eqA hD 24;have zf25:=hI.eqA hD 25;have zf26:=hI.eqA hD 26;have zf27:=hI.eqA hD 27;have zf28:=hI.eqA hD 28;clear hI hD HGs;simp only [frAll,Act.put,List.setIfInBounds_toArray,List.set_cons_zero,List.set_cons_succ,Nat.zero_add,Nat.reduceAdd,zf0,zf1,zf2,zf3,zf4,zf5,zf6,zf7,zf8,zf9,zf10,zf11,zf12,zf13,zf14,zf15,zf16,zf17,zf18,zf19,zf20,zf21,zf22,zf23,zf24,zf25,zf26,zf27,zf28];clear zf0 zf1 zf2 zf3 zf4 zf5 zf6 zf7 zf8 zf9 zf10 zf11 zf12 zf13 zf14 zf15 zf16 zf17 zf18 zf19 zf20 zf21 zf22 zf23 zf24 zf25 zf26 zf27 zf28;clear V D;have HP2:Hid (Pure w w9):=hd_ (HP.out.trans hMx);clear hGx hMx hBx;go_wp2_with fail
      try simp only [Exit.inBlock,Exit.then]
      refine bodyPost_ret (v:=.bool false) (by simp [results,Tryz.results166,go_sem]) rfl ?_;rw [HR.out];exact ⟨rfl,HP2.out⟩
    | true =>
     have hwk:IntKind.i64.wrap ((k:Int)+1)=(k:Int)+1:=by simp [IntKind.wrap,IntKind.bits,IntKind.signed]; omega
     have hb1:(0:Int)≤(k:Int)+1∧(k:Int)+1≤(n:Int):=(by omega);have hb2:(k:Int)≤(k:Int)+1:=(by omega)
     by_cases hdc:d=cc
     ·have e:pc=true:=by rw [hpc,hsm,hdc]; simp
      have HS2:=hd_ (YES.out e);subst hdc;have hdd:(d == d)=true:=(by simp);have hdd2:(d != d)=false:=(by simp);clear YES NO h HSM h63 hst hpc hsm e;go_upto_region 7 with (fail);have HGs:=hd_ (show KeepG (fun Z=>∃ hz:Nat,hz=Z.heap.size) from fun D zzi zq zq' h hm=>by (exact ⟨_,rfl⟩))
      refine wp_region_inv (by kernel_rfl) (by kernel_rfl) (InvF (R:=Mod (fun _=>False)) [.is (.bool false),.is (.bool true),.is (.bool true),.is (.string ⟨s.toArray⟩),.is (.int .i64 (k:Int)),.is (.int .u8 (c:Int)),.is (.bool true),.is (.bool true),.is (.bool true),.is (.string ⟨s.toArray⟩),.is (.int .i64 (k:Int)),.is (.int .u8 (c:Int)),.is (.bool true),.is (.bool false),.is (.bool false),.is (.string ⟨s.toArray⟩),.is (.int .i64 (k:Int)),.is (.int .i64 (k:Int)),.is (.int .i64 ((k:Int)+1)),.is (.string ⟨#[d]⟩),.is (.string ⟨#[d]⟩),.is (.string ⟨s.toArray⟩),.is (.int .i64 (k:Int)),.is (.int .i64 (k:Int)),.is (.int .i64 ((k:Int)+1)),.is (.string ⟨#[d]⟩),.is (.bool false),.is (.bool false),.is (.bool false)]
        (PB wr (fun _=>False) wr.heap.size (fun _=>(fun Z=>∃ hz:Nat,hz=Z.heap.size)))) (InvF.start (PB.start (Mod.refl _ _) (Nat.le_refl _) (⟨_,rfl⟩))) ?_ ?_
      ·iterate 29 (refine .cons ?_ ?_; rotate_left)
       exact .nil
       all_goals intro D V zw1 a hR hI K hK
       all_goals try rw [if_pos (by rfl)]
       have ze4:=hR.ot 4;rotate_left;have ze35:=hI.tm hR 35 0;rotate_left;have ze36:=hI.tm hR 36 1;rotate_left;have ze0:=hR.ot 0;have ze37:=hI.tm hR 37 2;rw [if_pos (by simp [Region.wanted,yielded,ze37])];rotate_left;have ze3:=hR.ot 3;have ze37:=hI.tm hR 37 2;rw [if_pos (by simp [Region.wanted,yielded,ze37])];rotate_left;have ze38:=hI.tm hR 38 3;have ze39:=hI.tm hR 39 4;have ze37:=hI.tm hR 37 2;rw [if_pos (by simp [Region.wanted,yielded,ze37])];rotate_left;have ze40:=hI.tm hR 40 5;have ze37:=hI.tm hR 37 2;rw [if_pos (by simp [Region.wanted,yielded,ze37])];rotate_left;have ze37:=hI.tm hR 37 2;have ze41:=hI.tm hR 41 6;rotate_left;have ze42:=hI.tm hR 42 7;rotate_left;have ze0:=hR.ot 0;have ze43:=hI.tm hR 43 8;rw [if_pos (by simp [Region.wanted,yielded,ze43])];rotate_left;have ze3:=hR.ot 3;have ze43:=hI.tm hR 43 8;rw [if_pos (by simp [Region.wanted,yielded,ze43])];rotate_left;have ze44:=hI.tm hR 44 9;have ze45:=hI.tm hR 45 10;have ze43:=hI.tm hR 43 8;rw [if_pos (by simp [Region.wanted,yielded,ze43])];rotate_left
       ·have ze46:=hI.tm hR 46 11;have ze43:=hI.tm hR 43 8;rw [if_pos (by simp [Region.wanted,yielded,ze43])];go_simp;refine (HLT.out zw1).mono ?_;rintro e zw2 ⟨rfl,hm2⟩;exact hK _ _ (hI.nc hR HGs.out hm2 rfl)
       have ze47:=hI.tm hR 47 12;have ze43:=hI.tm hR 43 8;rw [if_pos (by simp [Region.wanted,yielded,ze43])];rotate_left;have ze48:=hI.tm hR 48 13;have ze43:=hI.tm hR 43 8;rw [if_pos (by simp [Region.wanted,yielded,ze43])];rotate_left;have ze0:=hR.ot 0;have ze49:=hI.tm hR 49 14;rw [if_pos (by simp [Region.wanted,yielded,ze49])];rotate_left;have ze3:=hR.ot 3;have ze49:=hI.tm hR 49 14;rw [if_pos (by simp [Region.wanted,yielded,ze49])];rotate_left;have ze3:=hR.ot 3;have ze49:=hI.tm hR 49 14;rw [if_pos (by simp [Region.wanted,yielded,ze49])];rotate_left;have ze52:=hI.tm hR 52 17;have ze49:=hI.tm hR 49 14;rw [if_pos (by simp [Region.wanted,yielded,ze49])];rotate_left;have ze50:=hI.tm hR 50 15;have ze51:=hI.tm hR 51 16;have ze53:=hI.tm hR 53 18;have ze49:=hI.tm hR 49 14;rw [if_pos (by simp [Region.wanted,yielded,ze49])];rotate_left
       ·have ze54:=hI.tm hR 54 19;have ze49:=hI.tm hR 49 14;rw [if_pos (by simp [Region.wanted,yielded,ze49])];go_simp;refine (HSL.out zw1).mono ?_;rintro e zw2 ⟨rfl,hm2⟩;exact hK _ _ (hI.nc hR HGs.out hm2 rfl)
       have ze0:=hR.ot 0;have ze49:=hI.tm hR 49 14;rw [if_pos (by simp [Region.wanted,yielded,ze49])];rotate_left;have ze3:=hR.ot 3;have ze49:=hI.tm hR 49 14;rw [if_pos (by simp [Region.wanted,yielded,ze49])];rotate_left;have ze3:=hR.ot 3;have ze49:=hI.tm hR 49 14;rw [if_pos (by simp [Region.wanted,yielded,ze49])];rotate_left;have ze58:=hI.tm hR 58 23;have ze49:=hI.tm hR 49 14;rw [if_pos (by simp [Region.wanted,yielded,ze49])];rotate_left;have ze56:=hI.tm hR 56 21;have ze57:=hI.tm hR 57 22;have ze59:=hI.tm hR 59 24;have ze49:=hI.tm hR 49 14;rw [if_pos (by simp [Region.wanted,yielded,ze49])];rotate_left;have ze55:=hI.tm hR 55 20;have ze60:=hI.tm hR 60 25;have ze49:=hI.tm hR 49 14;rw [if_pos (by simp [Region.wanted,yielded,ze49])];rotate_left;have ze49:=hI.tm hR 49 14;have ze61:=hI.tm hR 61 26;have ze43:=hI.tm hR 43 8;rw [if_pos (by simp [Region.wanted,yielded,ze43])];rotate_left;have ze43:=hI.tm hR 43 8;have ze62:=hI.tm hR 62 27;rotate_left
       all_goals (go_simp; exact hK _ _ (hI.nq hR HGs.out rfl))
      ·intro D V w9 hD hI;obtain ⟨hMx,hBx,hGx⟩:=hI.1;have zf0:=hI.eqA hD 0;have zf1:=hI.eqA hD 1;have zf2:=hI.eqA hD 2;have zf3:=hI.eqA hD 3;have zf4:=hI.eqA hD 4;have zf5:=hI.eqA hD 5;have zf6:=hI.eqA hD 6;have zf7:=hI.eqA hD 7;have zf8:=hI.eqA hD 8;have zf9:=hI.eqA hD 9;have zf10:=hI.eqA hD 10;have zf11:=hI.eqA hD 11;have zf12:=hI.eqA hD 12;have zf13:=hI.eqA hD 13;have zf14:=hI.eqA hD 14;have zf15:=hI.eqA hD 15;have zf16:=hI.eqA hD 16;have zf17:=hI.eqA hD 17;have zf18:=hI.eqA hD 18;have zf19:=hI.eqA hD 19;have zf20:=hI.eqA hD 20;have zf21:=hI.eqA hD 21;have zf22:=hI.eqA hD 22;have zf23:=hI.eqA hD 23;have zf24:=hI.eqA hD 24;have zf25:=hI.eqA hD 25;have zf26:=hI.eqA hD 26;have zf27:=hI.eqA hD 27;have zf28:=hI.eqA hD 28;clear hI hD HGs;simp only [frAll,Act.put,List.setIfInBounds_toArray,List.set_cons_zero,List.set_cons_succ,Nat.zero_add,Nat.reduceAdd,zf0,zf1,zf2,zf3,zf4,zf5,zf6,zf7,zf8,zf9,zf10,zf11,zf12,zf13,zf14,zf15,zf16,zf17,zf18,zf19,zf20,zf21,zf22,zf23,zf24,zf25,zf26,zf27,zf28];clear zf0 zf1 zf2 zf3 zf4 zf5 zf6 zf7 zf8 zf9 zf10 zf11 zf12 zf13 zf14 zf15 zf16 zf17 zf18 zf19 zf20 zf21 zf22 zf23 zf24 zf25 zf26 zf27 zf28;clear V D;have HP2:Hid (Pure w w9):=hd_ (HP.out.trans hMx);clear hGx hMx hBx;go_wp2_with fail
       go_roundg (n - (k+1))
       case measure=>omega
       case rel=>exact ⟨k+1,rfl,by omega,by simp,HS2.out,HP2.out⟩
     ·have e:pc=false:=by rw [hpc,hsm]; simpa using hdc
      have HR:=hd_ (NO.out e);have hdd:(d == cc)=false:=(by simpa using hdc);have hdd2:(d != cc)=true:=(by simpa using hdc);clear YES NO h HSM h63 hst hpc hsm e;go_upto_region 7 with (fail);have HGs:=hd_ (show KeepG (fun Z=>∃ hz:Nat,hz=Z.heap.size) from fun D zzi zq zq' h hm=>by (exact ⟨_,rfl⟩))
      refine wp_region_inv (by kernel_rfl) (by kernel_rfl) (InvF (R:=Mod (fun _=>False)) [.is (.bool false),.is (.bool true),.is (.bool true),.is (.string ⟨s.toArray⟩),.is (.int .i64 (k:Int)),.is (.int .u8 (c:Int)),.is (.bool true),.is (.bool true),.is (.bool true),.is (.string ⟨s.toArray⟩),.is (.int .i64 (k:Int)),.is (.int .u8 (c:Int)),.is (.bool true),.is (.bool false),.is (.bool false),.is (.string ⟨s.toArray⟩),.is (.int .i64 (k:Int)),.is (.int .i64 (k:Int)),.is (.int .i64 ((k:Int)+1)),.is (.string ⟨#[cc]⟩),.is (.string ⟨#[d]⟩),.is (.string ⟨s.toArray⟩),.is (.int .i64 (k:Int)),.is (.int .i64 (k:Int)),.is (.int .i64 ((k:Int)+1)),.is (.string ⟨#[cc]⟩),.is (.bool true),.is (.bool true),.is (.bool true)]
        (PB wr (fun _=>False) wr.heap.size (fun _=>(fun Z=>∃ hz:Nat,hz=Z.heap.size)))) (InvF.start (PB.start (Mod.refl _ _) (Nat.le_refl _) (⟨_,rfl⟩))) ?_ ?_
      ·iterate 29 (refine .cons ?_ ?_; rotate_left)
       exact .nil
       all_goals intro D V zw1 a hR hI K hK
       all_goals try rw [if_pos (by rfl)]
       have ze4:=hR.ot 4;rotate_left;have ze35:=hI.tm hR 35 0;rotate_left;have ze36:=hI.tm hR 36 1;rotate_left;have ze0:=hR.ot 0;have ze37:=hI.tm hR 37 2;rw [if_pos (by simp [Region.wanted,yielded,ze37])];rotate_left;have ze3:=hR.ot 3;have ze37:=hI.tm hR 37 2;rw [if_pos (by simp [Region.wanted,yielded,ze37])];rotate_left;have ze38:=hI.tm hR 38 3;have ze39:=hI.tm hR 39 4;have ze37:=hI.tm hR 37 2;rw [if_pos (by simp [Region.wanted,yielded,ze37])];rotate_left;have ze40:=hI.tm hR 40 5;have ze37:=hI.tm hR 37 2;rw [if_pos (by simp [Region.wanted,yielded,ze37])];rotate_left;have ze37:=hI.tm hR 37 2;have ze41:=hI.tm hR 41 6;rotate_left;have ze42:=hI.tm hR 42 7;rotate_left;have ze0:=hR.ot 0;have ze43:=hI.tm hR 43 8;rw [if_pos (by simp [Region.wanted,yielded,ze43])];rotate_left;have ze3:=hR.ot 3;have ze43:=hI.tm hR 43 8;rw [if_pos (by simp [Region.wanted,yielded,ze43])];rotate_left;have ze44:=hI.tm hR 44 9;have ze45:=hI.tm hR 45 10;have ze43:=hI.tm hR 43 8;rw [if_pos (by simp [Region.wanted,yielded,ze43])];rotate_left
       ·have ze46:=hI.tm hR 46 11;have ze43:=hI.tm hR 43 8;rw [if_pos (by simp [Region.wanted,yielded,ze43])];go_simp;refine (HLT.out zw1).mono ?_;rintro e zw2 ⟨rfl,hm2⟩;exact hK _ _ (hI.nc hR HGs.out hm2 rfl)
       have ze47:=hI.tm hR 47 12;have ze43:=hI.tm hR 43 8;rw [if_pos (by simp [Region.wanted,yielded,ze43])];rotate_left;have ze48:=hI.tm hR 48 13;have ze43:=hI.tm hR 43 8;rw [if_pos (by simp [Region.wanted,yielded,ze43])];rotate_left;have ze0:=hR.ot 0;have ze49:=hI.tm hR 49 14;rw [if_pos (by simp [Region.wanted,yielded,ze49])];rotate_left;have ze3:=hR.ot 3;have ze49:=hI.tm hR 49 14;rw [if_pos (by simp [Region.wanted,yielded,ze49])];rotate_left;have ze3:=hR.ot 3;have ze49:=hI.tm hR 49 14;rw [if_pos (by simp [Region.wanted,yielded,ze49])];rotate_left;have ze52:=hI.tm hR 52 17;have ze49:=hI.tm hR 49 14;rw [if_pos (by simp [Region.wanted,yielded,ze49])];rotate_left;have ze50:=hI.tm hR 50 15;have ze51:=hI.tm hR 51 16;have ze53:=hI.tm hR 53 18;have ze49:=hI.tm hR 49 14;rw [if_pos (by simp [Region.wanted,yielded,ze49])];rotate_left
       ·have ze54:=hI.tm hR 54 19;have ze49:=hI.tm hR 49 14;rw [if_pos (by simp [Region.wanted,yielded,ze49])];go_simp;refine (HSL.out zw1).mono ?_;rintro e zw2 ⟨rfl,hm2⟩;exact hK _ _ (hI.nc hR HGs.out hm2 rfl)
       have ze0:=hR.ot 0;have ze49:=hI.tm hR 49 14;rw [if_pos (by simp [Region.wanted,yielded,ze49])];rotate_left;have ze3:=hR.ot 3;have ze49:=hI.tm hR 49 14;rw [if_pos (by simp [Region.wanted,yielded,ze49])];rotate_left;have ze3:=hR.ot 3;have ze49:=hI.tm hR 49 14;rw [if_pos (by simp [Region.wanted,yielded,ze49])];rotate_left;have ze58:=hI.tm hR 58 23;have ze49:=hI.tm hR 49 14;rw [if_pos (by simp [Region.wanted,yielded,ze49])];rotate_left;have ze56:=hI.tm hR 56 21;have ze57:=hI.tm hR 57 22;have ze59:=hI.tm hR 59 24;have ze49:=hI.tm hR 49 14;rw [if_pos (by simp [Region.wanted,yielded,ze49])];rotate_left;have ze55:=hI.tm hR 55 20;have ze60:=hI.tm hR 60 25;have ze49:=hI.tm hR 49 14;rw [if_pos (by simp [Region.wanted,yielded,ze49])];rotate_left;have ze49:=hI.tm hR 49 14;have ze61:=hI.tm hR 61 26;have ze43:=hI.tm hR 43 8;rw [if_pos (by simp [Region.wanted,yielded,ze43])];rotate_left;have ze43:=hI.tm hR 43 8;have ze62:=hI.tm hR 62 27;rotate_left
       all_goals (go_simp; exact hK _ _ (hI.nq hR HGs.out rfl))
      ·intro D V w9 hD hI;obtain ⟨hMx,hBx,hGx⟩:=hI.1;have zf0:=hI.eqA hD 0;have zf1:=hI.eqA hD 1;have zf2:=hI.eqA hD 2;have zf3:=hI.eqA hD 3;have zf4:=hI.eqA hD 4;have zf5:=hI.eqA hD 5;have zf6:=hI.eqA hD 6;have zf7:=hI.eqA hD 7;have zf8:=hI.eqA hD 8;have zf9:=hI.eqA hD 9;have zf10:=hI.eqA hD 10;have zf11:=hI.eqA hD 11;have zf12:=hI.eqA hD 12;have zf13:=hI.eqA hD 13;have zf14:=hI.eqA hD 14;have zf15:=hI.eqA hD 15;have zf16:=hI.eqA hD 16;have zf17:=hI.eqA hD 17;have zf18:=hI.eqA hD 18;have zf19:=hI.eqA hD 19;have zf20:=hI.eqA hD 20;have zf21:=hI.eqA hD 21;have zf22:=hI.eqA hD 22;have zf23:=hI.eqA hD 23;have zf24:=hI.eqA hD 24;have zf25:=hI.eqA hD 25;have zf26:=hI.eqA hD 26;have zf27:=hI.eqA hD 27;have zf28:=hI.eqA hD 28;clear hI hD HGs;simp only [frAll,Act.put,List.setIfInBounds_toArray,List.set_cons_zero,List.set_cons_succ,Nat.zero_add,Nat.reduceAdd,zf0,zf1,zf2,zf3,zf4,zf5,zf6,zf7,zf8,zf9,zf10,zf11,zf12,zf13,zf14,zf15,zf16,zf17,zf18,zf19,zf20,zf21,zf22,zf23,zf24,zf25,zf26,zf27,zf28];clear zf0 zf1 zf2 zf3 zf4 zf5 zf6 zf7 zf8 zf9 zf10 zf11 zf12 zf13 zf14 zf15 zf16 zf17 zf18 zf19 zf20 zf21 zf22 zf23 zf24 zf25 zf26 zf27 zf28;clear V D;have HP2:Hid (Pure w w9):=hd_ (HP.out.trans hMx);clear hGx hMx hBx;go_wp2_with fail
       try simp only [Exit.inBlock,Exit.then]
       refine bodyPost_ret (v:=.bool false) (by simp [results,Tryz.results166,go_sem]) rfl ?_;rw [HR.out];exact ⟨rfl,HP2.out⟩
  ·obtain rfl:k=n:=by omega
   have hkk:¬ (k:Int)<(k:Int):=(by omega);have HR:Hid (pb=true):=hd_ (HPA.out.trans hpa);clear HPA hpa HFST;go_wp2_with fail;go_ret;rw [HR.out];exact ⟨rfl,HP.out⟩
theorem fitsOf_calls (w:World) (p x:Str) (hp:p.length≤1000000) (hx:x.length≤1000000):Calls Tryz.prog 97 #[.string ⟨p.toArray⟩,.string ⟨x.toArray⟩] w (BoolPost w (fitsB p x)):=by
 have HIP:=hd_ (patternIs_calls w p hp);have HCS:=hd_ (fun W=>cutSuffix_calls W p [42] (by omega));have HF:Hid (fitsB p x=(patB p && (decide ((patBody p).length≤x.length) && ((patOpen p || decide (x.length≤(patBody p).length)) && fitN (patBody p) x (patBody p).length)))):=hd_ rfl
 have hbl:(patBody p).length≤p.length:=by
  unfold patBody Lib.trimSuffix
  split
  ·rw [List.length_take]; omega
  ·exact Nat.le_refl _
 have hzx:(⟨x.toArray⟩:ByteArray).size=x.length:=by simp [ByteArray.size]
 unfold patBody patOpen at HF;unfold patBody at hbl;generalize fitsB p x=r at *;generalize patB p=pb at *;generalize Lib.hasSuffix p [42]=op at *;generalize Lib.trimSuffix p [42]=b at *
 have hzb:(⟨b.toArray⟩:ByteArray).size=b.length:=by simp [ByteArray.size]
 obtain ⟨n,hn⟩:∃ n,n=b.length:=⟨_,rfl⟩;obtain ⟨m,hm⟩:∃ m,m=x.length:=⟨_,rfl⟩;rw [← hn,← hm] at HF;rw [← hn] at hzb hbl;rw [← hm] at hzx hx;have HN:=hd_ hn;have HM:=hd_ hm;clear hn hm
 go_enter Tryz.func97,Tryz.ntmps97
 go_wp2_with fail;refine HIP.out.mono ?_;rintro e w1 ⟨rfl,hm0⟩;have HM0:Hid (Pure w w1):=hd_ hm0;clear HIP hm0
 cases pb with
 | false =>
  have HR:Hid (r=false):=hd_ HF.out;clear HF HCS;go_wp2_with fail
  try simp only [Exit.inBlock,Exit.then]
  refine bodyPost_ret (v:=.bool false) (by simp [results,Tryz.results97,go_sem]) rfl ?_;rw [HR.out];exact ⟨rfl,HM0.out⟩
 | true =>
  go_wp2_with fail;refine (HCS.out _).mono ?_;rintro e w2 ⟨rfl,rfl⟩;clear HCS;obtain ⟨bad,hbad⟩:∃ bad,(decide (m<n) || (!op && decide (n<m)))=bad:=⟨_,rfl⟩
  have HF2:Hid (r=(!bad && fitN b x n)):=hd_ (by
   rw [HF.out,← hbad]
   rcases Nat.lt_trichotomy m n with h | h | h
   ·rw [decide_eq_false (show ¬ n≤m by omega),decide_eq_true h]
    rfl
   ·subst h;simp
   ·rw [decide_eq_true (show n≤m by omega),decide_eq_false (show ¬ m<n by omega),decide_eq_true h,decide_eq_false (show ¬ m≤n by omega)]
    simp)
  have HBD:=hd_ hbad;clear HF hbad;go_upto_region 4 with (fail)
  go_cut [31] from 16 to 30 (fun q wx=>q = .bool bad∧w2=wx)
  case first =>
   have h:=HBD.out;clear HF2
   rcases Nat.lt_trichotomy m n with h1 | h1 | h1
   ·have d1:decide (m<n)=true:=decide_eq_true h1;have d1i:(m:Int)<(n:Int):=(by omega);rw [d1,Bool.true_or] at h;subst h;go_wp2_with fail;go_meet;exact ⟨by first | rfl | simp,rfl⟩
   ·subst h1;rw [decide_eq_false (Nat.lt_irrefl m),Bool.and_false,Bool.or_false] at h;subst h;have d1:decide (m<m)=false:=decide_eq_false (Nat.lt_irrefl m);have d1i:¬ (m:Int)<(m:Int):=(by omega);have d2:((m:Int) != (m:Int))=false:=(by simp)
    cases op
    ·go_wp2_with fail;go_meet;exact ⟨by first | rfl | simp,rfl⟩
    ·go_wp2_with fail;go_meet;exact ⟨by first | rfl | simp,rfl⟩
   ·have d1:decide (m<n)=false:=decide_eq_false (by omega);have d1i:¬ (m:Int)<(n:Int):=(by omega);have d2:decide (n<m)=true:=decide_eq_true h1;have d2i:(n:Int)<(m:Int):=(by omega)
    have d3:((m:Int) != (n:Int))=true:=by simp; omega
    rw [d1,d2,Bool.and_true,Bool.false_or] at h
    cases op
    ·obtain rfl:true=bad:=h;go_wp2_with fail;go_meet;exact ⟨by first | rfl | simp,rfl⟩
    ·obtain rfl:false=bad:=h;go_wp2_with fail;go_meet;exact ⟨by first | rfl | simp,rfl⟩
  case rest =>
   obtain ⟨rfl,rfl⟩:=hcut
   cases bad with
   | true =>
    have HR:Hid (r=false):=hd_ HF2.out;clear HF2 HBD;go_wp2_with fail
    try simp only [Exit.inBlock,Exit.then]
    refine bodyPost_ret (v:=.bool false) (by simp [results,Tryz.results97,go_sem]) rfl ?_;rw [HR.out];exact ⟨rfl,HM0.out⟩
   | false =>
    have hnm:n≤m:=by
     have h:=HBD.out
     rcases Nat.lt_or_ge m n with h1 | h1
     ·rw [decide_eq_true h1] at h; cases h
     ·exact h1
    have HF3:Hid (r=fitN b x n):=hd_ HF2.out;clear HF2 HBD;go_wp2_with fail
    go_loopg [34] n (fun gk i wr=>∃ k:Nat,n - k=gk∧k≤n∧i = .int .i64 (k:Int)∧fitN b x k=true∧Pure w2 wr)
    case atStart=>exact ⟨0,by omega,by omega,rfl,rfl,Mod.refl _ _⟩
    case round =>
     obtain ⟨k,rfl,hk,rfl,hpa,hm⟩:=hrel
     by_cases hlt:k<n
     ·have hltb:k<b.length:=by rw [← HN.out]; exact hlt
      have hltx:k<x.length:=by rw [← HM.out]; omega
      have HSU:=hd_ (fitN_succ (x:=x) hltb (by rw [← HN.out,← HM.out]; exact hnm));have HFA:=hd_ (fitN_false (x:=x) hltb (by rw [← HN.out,← HM.out]; exact hnm));have hix:(⟨b.toArray⟩:ByteArray)[k]'(by rw [hzb]; exact hlt)=b[k]:=rfl;have hiy:(⟨x.toArray⟩:ByteArray)[k]'(by rw [hzx]; omega)=x[k]:=rfl;have HP:Hid (Pure w2 wr):=hd_ hm;have e1:(b[k] == 63)=decide (b[k].toNat=63):=u8_eqW _ 63 (by decide)
      have e2:(b[k] == x[k])=decide (b[k].toNat=x[k].toNat):=by
       rw [Bool.eq_iff_iff,beq_iff_eq,decide_eq_true_iff];exact UInt8.toNat_inj.symm
      rw [e1,e2] at HSU HFA;rw [← HN.out] at HFA;have hix2:((k:Nat):Int)<(n:Int):=(by omega);have hbc:=b[k].toNat_lt;have hxc:=x[k].toNat_lt;clear hm e1 e2
      by_cases h63:b[k].toNat=63
      ·have h63i:((b[k].toNat:Int) != 63)=false:=by simp; omega
       have HS2:Hid (fitN b x (k+1)=true):=hd_ (by rw [HSU.out,hpa,decide_eq_true h63]; rfl);clear HF3 HSU HFA hpa h63;go_upto_region 9 with (fail)
       go_quiet (fail)
       go_wp2_with fail
       go_roundg (n - (k+1))
       case measure=>omega
       case rel=>exact ⟨k+1,rfl,by omega,by simp,HS2.out,HP.out.drewN _⟩
      ·have h63i:((b[k].toNat:Int) != 63)=true:=by simp; omega
       by_cases hxe:b[k].toNat=x[k].toNat
       ·have hxi:((b[k].toNat:Int) != (x[k].toNat:Int))=false:=by simp; omega
        have HS2:Hid (fitN b x (k+1)=true):=hd_ (by rw [HSU.out,hpa,decide_eq_true hxe,Bool.or_true]; rfl);clear HF3 HSU HFA hpa h63 hxe;go_upto_region 9 with (fail)
        go_quiet (fail)
        go_wp2_with fail
        go_roundg (n - (k+1))
        case measure=>omega
        case rel=>exact ⟨k+1,rfl,by omega,by simp,HS2.out,HP.out.drewN _⟩
       ·have hxi:((b[k].toNat:Int) != (x[k].toNat:Int))=true:=by simp; omega
        have HR:Hid (r=false):=hd_ (by rw [HF3.out]; exact HFA.out (by rw [decide_eq_false h63,decide_eq_false hxe]; rfl));clear HF3 HSU HFA hpa h63 hxe;go_upto_region 9 with (fail)
        go_quiet (fail)
        go_wp2_with fail
        try simp only [Exit.inBlock,Exit.then]
        refine bodyPost_ret (v:=.bool false) (by simp [results,Tryz.results97,go_sem]) rfl ?_;rw [HR.out];exact ⟨rfl,HM0.out.trans (HP.out.drewN _)⟩
     ·obtain rfl:k=n:=by omega
      have HR:Hid (r=true):=hd_ (HF3.out.trans hpa);have HP:Hid (Pure w2 wr):=hd_ hm;clear HF3 hpa hm;go_wp2_with fail;go_ret;rw [HR.out];exact ⟨rfl,HM0.out.trans HP.out⟩
section
variable (w:World) (k n:Int) (A B:Option Addr) (a c b d:Nat)
theorem nears_calls:Calls Tryz.prog 176 #[.agg #[.int .i64 k,.slice A a c,.int .i64 n,.slice B b d]] w (BoolPost w (nearK k)):=by
 have hB:=Blk.new w 29 #[.int .i64 k,.slice A a c,.int .i64 n,.slice B b d];have HP:=hd_ (pure_alloc w (.cells #[.int .i64 k,.slice A a c,.int .i64 n,.slice B b d] 29));obtain ⟨r,hr⟩:∃ r,nearK k=r:=⟨_,rfl⟩;rw [hr];have HR:Hid ((decide (k=4) || decide (k=5))=r):=hd_ hr;clear hr
 go_enter Tryz.func176,Tryz.ntmps176
 go_upto_region 1 with (fail);generalize (w.alloc (.cells #[.int .i64 k,.slice A a c,.int .i64 n,.slice B b d] 29))=w1 at *;generalize w.heap.size=g at *;obtain ⟨x0,x1,x2,x3⟩:=hB.c4;clear hB
 by_cases h4:k=4
 ·have e:=HR.out;rw [decide_eq_true h4] at e;subst e h4;go_wp2_with fail;go_ret;exact ⟨rfl,HP.out⟩
 ·have h4i:(k == 4)=false:=(by simpa using h4)
  by_cases h5:k=5
  ·have e:=HR.out;rw [decide_eq_true h5,Bool.or_true] at e;subst e h5;go_wp2_with fail;go_ret;exact ⟨rfl,HP.out⟩
  ·have h5i:(k == 5)=false:=(by simpa using h5);have e:=HR.out;rw [decide_eq_false h4,decide_eq_false h5] at e;obtain rfl:false=r:=e;go_wp2_with fail;go_ret;exact ⟨rfl,HP.out⟩
theorem byWords_calls:Calls Tryz.prog 178 #[.agg #[.int .i64 k,.slice A a c,.int .i64 n,.slice B b d]] w (BoolPost w (byWK k)):=by
 have hB:=Blk.new w 29 #[.int .i64 k,.slice A a c,.int .i64 n,.slice B b d];have HP:=hd_ (pure_alloc w (.cells #[.int .i64 k,.slice A a c,.int .i64 n,.slice B b d] 29));have HNK:=hd_ (fun W=>nears_calls W k n A B a c b d);obtain ⟨nk,hnk⟩:∃ nk,nearK k=nk:=⟨_,rfl⟩;obtain ⟨r,hr⟩:∃ r,byWK k=r:=⟨_,rfl⟩;rw [hr];rw [hnk] at HNK;have HR:Hid ((decide (k=2) || (decide (k=3) || (nk || decide (k=7))))=r):=hd_ (by rw [← hnk]; exact hr);have HNN:Hid (nearK k=nk):=hd_ hnk;clear hr hnk
 go_enter Tryz.func178,Tryz.ntmps178
 go_upto_region 1 with (fail);generalize (w.alloc (.cells #[.int .i64 k,.slice A a c,.int .i64 n,.slice B b d] 29))=w1 at *;generalize w.heap.size=g at *;have HB:=hd_ hB;obtain ⟨x0,x1,x2,x3⟩:=hB.c4;clear hB
 by_cases h2:k=2
 ·have e:=HR.out;rw [decide_eq_true h2,Bool.true_or] at e;subst e h2;go_wp2_with fail;go_ret;exact ⟨rfl,HP.out⟩
 have h2i:(k == 2)=false:=(by simpa using h2)
 by_cases h3:k=3
 ·have e:=HR.out;rw [decide_eq_true h3,Bool.true_or,Bool.or_true] at e;subst e h3;go_wp2_with fail;go_ret;exact ⟨rfl,HP.out⟩
 have h3i:(k == 3)=false:=(by simpa using h3);have e:=HR.out;rw [decide_eq_false h2,decide_eq_false h3,Bool.false_or,Bool.false_or] at e;clear h2 h3;go_wp2_with fail;refine (HNK.out w1).mono ?_;rintro e2 w2 ⟨rfl,hm⟩;have HP2:Hid (Pure w w2):=hd_ (HP.out.trans hm);have hB2:=HB.out.modp hm;clear x0 x1 x2 x3 HB HP hm;obtain ⟨x0,x1,x2,x3⟩:=hB2.c4;clear hB2
 cases nk with
 | true =>
  rw [Bool.true_or] at e;subst e;go_wp2_with fail;go_ret;exact ⟨rfl,HP2.out⟩
 | false =>
  rw [Bool.false_or] at e
  by_cases h7:k=7
  ·rw [decide_eq_true h7] at e;subst e h7;go_wp2_with fail;go_ret;exact ⟨rfl,HP2.out⟩
  ·have h7i:(k == 7)=false:=(by simpa using h7);rw [decide_eq_false h7] at e;subst e;go_wp2_with fail;go_ret;exact ⟨rfl,HP2.out⟩
end
theorem reserved_calls (w:World) (s:Str):Calls Tryz.prog 180 #[.string ⟨s.toArray⟩] w (BoolSame w (resvB s)):=by
 have HR:Hid (resvB s=(s == [97,108,108] || (s == [97,110,100] || (s == [111,114] || s == [110,111,116])))):=hd_ rfl;generalize resvB s=r at *
 cases h1:(s == [97,108,108]) <;> cases h2:(s == [97,110,100]) <;> cases h3:(s == [111,114]) <;> cases h4:(s == [110,111,116])
 all_goals
  have e:=HR.out;rw [h1,h2,h3,h4] at e;simp only [Bool.true_or,Bool.or_true,Bool.or_false,Bool.false_or] at e;subst e
  go_enter Tryz.func180,Tryz.ntmps180
  go_wp2_with fail;go_ret;exact ⟨rfl,rfl⟩
def kwQ (n:Int):Str:=if n=1 then [109,97,105,108] else if n=2 then [102,105,108,101] else if n=3 then [98,111,120] else if n=4 then [110,111,116,101] else []
theorem kindWordQ_calls (w:World) (n:Int):Calls Tryz.prog 110 #[.int .i64 n] w (fun e w'=>e = .returned (.string ⟨(kwQ n).toArray⟩)∧w'=w):=by
 by_cases h1:n=1
 ·subst h1
  go_enter Tryz.func110,Tryz.ntmps110
  go_wp2_with fail
  try simp only [Exit.inBlock,Exit.then]
  refine bodyPost_ret (v:=.string ⟨#[109,97,105,108]⟩) (by simp [results,Tryz.results110,go_sem]) rfl ?_;exact ⟨rfl,rfl⟩
 by_cases h2:n=2
 ·subst h2
  go_enter Tryz.func110,Tryz.ntmps110
  go_wp2_with fail
  try simp only [Exit.inBlock,Exit.then]
  refine bodyPost_ret (v:=.string ⟨#[102,105,108,101]⟩) (by simp [results,Tryz.results110,go_sem]) rfl ?_;exact ⟨rfl,rfl⟩
 by_cases h3:n=3
 ·subst h3
  go_enter Tryz.func110,Tryz.ntmps110
  go_wp2_with fail
  try simp only [Exit.inBlock,Exit.then]
  refine bodyPost_ret (v:=.string ⟨#[98,111,120]⟩) (by simp [results,Tryz.results110,go_sem]) rfl ?_;exact ⟨rfl,rfl⟩
 by_cases h4:n=4
 ·subst h4
  go_enter Tryz.func110,Tryz.ntmps110
  go_wp2_with fail
  try simp only [Exit.inBlock,Exit.then]
  refine bodyPost_ret (v:=.string ⟨#[110,111,116,101]⟩) (by simp [results,Tryz.results110,go_sem]) rfl ?_;exact ⟨rfl,rfl⟩
 have e:kwQ n=[]:=by unfold kwQ; rw [if_neg h1,if_neg h2,if_neg h3,if_neg h4]
 rw [e];have i1:(n == 1)=false:=(by simpa using h1);have i2:(n == 2)=false:=(by simpa using h2);have i3:(n == 3)=false:=(by simpa using h3);have i4:(n == 4)=false:=(by simpa using h4);clear e
 go_enter Tryz.func110,Tryz.ntmps110
 go_wp2_with fail
 try simp only [Exit.inBlock,Exit.then]
 refine bodyPost_ret (v:=.string ⟨#[]⟩) (by simp [results,Tryz.results110,go_sem]) rfl ?_;exact ⟨rfl,rfl⟩
def Go2P (w:World) (gm:Nat) (q:Qry) (m d r:Nat) (e:Ending) (w':World):Prop:=∃ m':Nat,e = .returned (.bool (qFit q m d r))∧(qFit q m d r=true→m'=m+qSize q)∧m'≤101∧Blk w' gm 3 #[.int .i64 (m':Int)]∧Mod (· = gm) w w'
def Go2R (w:World) (gm m d r:Nat) (ks:List Qry) (gk:Nat) (i:Value) (wr:World):Prop :=
 ∃ j:Nat,ks.length - j=gk∧j≤ks.length∧i = .int .i64 (j:Int)∧m+qSum ks j≤100∧(∀ t (ht:t<ks.length),t<j→qFit ks[t] (m+qSum ks t) d r=true)∧Blk wr gm 3 #[.int .i64 ((m+qSum ks j:Nat):Int)]∧Mod (· = gm) w wr
theorem QR.ex (q:QR):∃ k A c ws n B d xs,q = .mk k A c ws n B d xs:=by cases q; exact ⟨_,_,_,_,_,_,_,_,rfl⟩
theorem Sl.ofGm {w w':World} {gm:Nat} {cs:Array Value} {v:Value} {e:TypeId} {size:Nat} {xs:List Value} (h:Sl w e size v xs) (hm:Mod (· = gm) w w') (hB:Blk w gm 3 cs) (hne:e≠3):Sl w' e size v xs :=
 Sl.mod h hm (fun g arr fr hg he=>by
  subst he;unfold Blk at hB;rw [hB] at hg
  injection hg with hg
  injection hg with _ hg
  exact hne hg.symm)
theorem QS.ofGm {w w':World} {gm:Nat} {cs:Array Value} {q:QR} (h:QS w q) (hm:Mod (· = gm) w w') (hB:Blk w gm 3 cs):QS w' q:=by
 induction h with
 | mk hw ha hs ih=>exact .mk (hw.ofGm hm hB (by decide)) (ha.ofGm hm hB (by decide)) ih
theorem blk_other {w:World} {g h:Nat} {t u:TypeId} {a b:Array Value} (h1:Blk w g t a) (h2:Blk w h u b) (hne:t≠u):g≠h:=fun e=>by
 subst e;unfold Blk at h1 h2;rw [h1] at h2
 injection h2 with h2
 injection h2 with _ h2
 exact hne h2
theorem go2_calls:∀ (qr:QR) (w:World) (m d r gm gf:Nat),QS w qr→QB 1000 qr.key→Blk w gm 3 #[.int .i64 (m:Int)]→Blk w gf 204 #[.func (.func 175) #[] #[.pointer (some ⟨gm,0,none⟩),.pointer (some ⟨gf,0,none⟩)]]→m≤100→d≤12→r≤3 →
  Calls Tryz.prog 175 #[qA qr,.int .i64 ((d:Int)+1),.int .i64 (r:Int),.pointer (some ⟨gm,0,none⟩),.pointer (some ⟨gf,0,none⟩)] w (Go2P w gm qr.key m d r):=by
 refine QR.ind (fun k A c ws n B dd xs ih => ?_);intro w m d r gm gf hQ hB hM hF hm hd hr;have HIH:=hd_ ih;rw [QR.key_mk] at hB ⊢;have HQ:=hd_ hQ;have hql:=hB.xsH;have HQB:=hd_ hB.allH;rw [List.length_map] at hql;have hgg:=blk_other hM hF (by decide);have hgm:=hM.lt;have hgf:=hF.lt;have HQX:=hd_ hQ.xsH;have hB0:=Blk.new w 29 #[.int .i64 k,.slice A ws.length c,.int .i64 n,.slice B xs.length dd];have hP0:=pure_alloc w (.cells #[.int .i64 k,.slice A ws.length c,.int .i64 n,.slice B xs.length dd] 29);have hM1:=hM.alloc (.cells #[.int .i64 k,.slice A ws.length c,.int .i64 n,.slice B xs.length dd] 29);have hF1:=hF.alloc (.cells #[.int .i64 k,.slice A ws.length c,.int .i64 n,.slice B xs.length dd] 29);have HNK:=hd_ (fun W=>nears_calls W k n A B ws.length c xs.length dd);obtain ⟨nk,hnk⟩:∃ nk,nearK k=nk:=⟨_,rfl⟩;rw [hnk] at HNK;have HKN:=hd_ hnk
 show Calls Tryz.prog 175 #[.agg #[.int .i64 k,.slice A ws.length c,.int .i64 n,.slice B xs.length dd],.int .i64 ((d:Int)+1),.int .i64 (r:Int),.pointer (some ⟨gm,0,none⟩),.pointer (some ⟨gf,0,none⟩)] w (Go2P w gm _ m d r)
 have hBM:=hM;clear hQ hB hM hF ih hnk
 go_enter Tryz.func175,Tryz.ntmps175
 go_upto_region 1 with (fail);generalize (w.alloc (.cells #[.int .i64 k,.slice A ws.length c,.int .i64 n,.slice B xs.length dd] 29))=w1 at *;have hgw:=Nat.le_refl w.heap.size;generalize hg0:w.heap.size=g0 at *;have hwg:w.heap.size≤g0:=Nat.le_of_eq hg0;clear hg0 hgw;have hB1:=hB0.far (p:=⟨gm,0,none⟩) (by show g0≠gm; omega) (.int .i64 ((m:Int)+1));have hF2:=hF1.far (p:=⟨gm,0,none⟩) (by show gf≠gm; omega) (.int .i64 ((m:Int)+1));have hM2:=hM1.set 0 (.int .i64 ((m:Int)+1));have hm2:Mod (· = gm) w (w1.setCell ⟨gm,0,none⟩ (.int .i64 ((m:Int)+1))):=((Mod.of_pure hP0:Mod (· = gm) w w1)).setCell (.inl rfl) _;have HB1:=hd_ hB1;have HF2:=hd_ hF2;have HM2:Hid (Blk (w1.setCell ⟨gm,0,none⟩ (.int .i64 ((m:Int)+1))) gm 3 #[.int .i64 ((m+1:Nat):Int)]):=hd_ (by simpa using hM2);have HMM:=hd_ hm2;obtain ⟨x0,xf0⟩:=hM1.c1f;clear hB0 hF1 hM1 hB1 hF2 hM2 hm2 hP0;go_upto_region 2 with (fail);generalize (w1.setCell ⟨gm,0,none⟩ (.int .i64 ((m:Int)+1)))=w2 at *;clear x0;have hb2:=HB1.out;obtain ⟨x0,x1,x2,x3⟩:=hb2.c4;clear hb2;go_wp2_with fail;refine (HNK.out w2).mono ?_;rintro e w3 ⟨rfl,hm3⟩;have HB3:=hd_ (HB1.out.modp hm3);have HF3:=hd_ (HF2.out.modp hm3);have HM3:=hd_ (HM2.out.modp hm3);have HMD:Hid (Mod (· = gm) w w3):=hd_ (HMM.out.trans (Mod.of_pure hm3));have HBM:=hd_ hBM;clear x1 x2 x3 hm3 HNK HB1 HF2 HM2 HMM hBM;obtain ⟨rn,hrn⟩:∃ rn:Nat,r+(if nk=true then 1 else 0)=rn:=⟨_,rfl⟩;have HRN:Hid (r+(if nearK k=true then 1 else 0)=rn):=hd_ (by rw [HKN.out]; exact hrn)
 have hrn4:rn≤4:=by rw [← hrn]; split <;> omega
 go_upto_if 14 with (fail)
 go_cut [2] from 15 to 16 (fun v wx=>v = .int .i64 (rn:Int)∧w3=wx)
 case first =>
  cases nk
  ·obtain rfl:r=rn:=by simpa using hrn
   clear hrn;go_wp2_with fail;go_meet;exact ⟨rfl,rfl⟩
  ·have e:rn=r+1:=by rw [← hrn]; rfl
   subst e;clear hrn;go_wp2_with fail;go_meet;exact ⟨by simp,rfl⟩
 case rest =>
  obtain ⟨rfl,rfl⟩:=hcut;clear hrn HKN;obtain ⟨bad,hbad⟩:∃ bad,decide (100<m+1∨12<d+1∨3<rn)=bad:=⟨_,rfl⟩;have HBD:=hd_ hbad;clear hbad;have hm3:=HM3.out;have z0:=hm3.c1;clear hm3;go_upto_region 4 with (fail)
  go_cut [26] from 17 to 25 (fun p wx=>p = .bool bad∧w3=wx)
  case first =>
   have e:=HBD.out;clear HQ HQB HQX HIH
   by_cases h1:100<m+1
   ·have h1i:(100:Int)<((m:Int)+1):=(by omega)
    have hb:bad=true:=by rw [← e]; exact decide_eq_true (.inl h1)
    subst hb;clear e;go_wp2_with fail;go_meet;exact ⟨by first | rfl | simp,rfl⟩
   ·have h1i:¬ (100:Int)<((m:Int)+1):=(by omega)
    by_cases h2:12<d+1
    ·have h2i:(12:Int)<((d:Int)+1):=(by omega)
     have hb:bad=true:=by rw [← e]; exact decide_eq_true (.inr (.inl h2))
     subst hb;clear e;go_wp2_with fail;go_meet;exact ⟨by first | rfl | simp,rfl⟩
    ·have h2i:¬ (12:Int)<((d:Int)+1):=(by omega)
     by_cases h3:3<rn
     ·have h3i:(3:Int)<(rn:Int):=(by omega)
      have hb:bad=true:=by rw [← e]; exact decide_eq_true (.inr (.inr h3))
      subst hb;clear e;go_wp2_with fail;go_meet;exact ⟨by first | rfl | simp,rfl⟩
     ·have h3i:¬ (3:Int)<(rn:Int):=(by omega)
      have hb:bad=false:=by rw [← e]; exact decide_eq_false (by omega)
      subst hb;clear e;go_wp2_with fail;go_meet;exact ⟨by first | rfl | simp,rfl⟩
  case rest =>
   obtain ⟨rfl,rfl⟩:=hcut
   cases bad with
   | true =>
    have hh:100<m+1∨12<d+1∨3<rn:=(by simpa using HBD.out)
    have HN:Hid (qFit (.mk k ws n (xs.map QR.key)) m d r=false):=hd_ (by
     rw [Bool.eq_false_iff];intro hf;obtain ⟨h1,h2,h3,_,_⟩:=qFit_iff.1 hf;rw [HRN.out] at h3
     omega)
    clear HBD HQ HQB HQX HIH;go_wp2_with fail
    try simp only [Exit.inBlock,Exit.then]
    refine bodyPost_ret (v:=.bool false) (by simp [results,Tryz.results175,go_sem]) rfl ?_;exact ⟨m+1,by rw [HN.out],fun h=>(by rw [HN.out] at h; cases h),by omega,HM3.out,HMD.out⟩
   | false =>
    have hh:¬ (100<m+1∨12<d+1∨3<rn):=(by simpa using HBD.out);have h1:m+1≤100:=(by omega);have h2:d+1≤12:=(by omega);have h3:rn≤3:=(by omega);clear hh HBD;have hb3:=HB3.out;have b3:=hb3.cell 3;simp at b3;clear hb3 z0;go_wp2_with fail
    go_loopg [30] xs.length (fun gk i wr=>Go2R w3 gm (m+1) (d+1) rn (xs.map QR.key) gk i wr)
    case atStart=>exact ⟨0,by simp,by omega,rfl,by rw [qSum_zero]; omega,fun t _ h=>by omega,by rw [qSum_zero]; exact HM3.out,Mod.refl _ _⟩
    case round =>
     obtain ⟨j,hgk,hj,rfl,hmj,hok,hbj,hmd⟩:=hrel;rw [List.length_map] at hgk hj;subst hgk;have HOK:=hd_ hok;have HBJ:=hd_ hbj;have HMJ:=hd_ hmd;clear hok hbj hmd
     by_cases hlt:j<xs.length
     ·obtain ⟨k',A',c',ws',n',B',dd',xs',hq⟩:=QR.ex xs[j];have hxs:=HQX.out.ofGm (HMD.out.trans HMJ.out) HBM.out (by decide);obtain ⟨g,off,hA,q0,q1,q2,q3⟩:=qcells hxs hlt hq;obtain rfl:=hA;have HQJ:Hid (QS wr (.mk k' A' c' ws' n' B' dd' xs')):=hd_ (by rw [← hq]; exact (HQ.out.allH _ (List.getElem_mem hlt)).ofGm (HMD.out.trans HMJ.out) HBM.out);have HQK:Hid (QB 1000 (QR.mk k' A' c' ws' n' B' dd' xs').key):=hd_ (by rw [← hq]; exact HQB.out _ (List.mem_map.2 ⟨_,List.getElem_mem hlt,rfl⟩));have HMEM:Hid (QR.mk k' A' c' ws' n' B' dd' xs'∈xs):=hd_ (by rw [← hq]; exact List.getElem_mem hlt)
      have hjk:j<(xs.map QR.key).length:=by rw [List.length_map]; exact hlt
      have HKEY:Hid ((xs.map QR.key)[j]=(QR.mk k' A' c' ws' n' B' dd' xs').key):=hd_ (by rw [List.getElem_map,hq]);have HSUM:=hd_ (qSum_succ hjk);have HARG:=hd_ (fun h=>qFit_arg (k:=k) (ws:=ws) (n:=n) (xs:=xs.map QR.key) (m:=m) (d:=d) (r:=r) hjk h);have HFJ:=hd_ (HF3.out.mod HMJ.out (fun e=>by omega));have hbj:=HBJ.out;have hfj:=HFJ.out;have hgjw:=hbj.lt;have hgfw:=hfj.lt;have f0:=hfj.c1;have hpal:=pure_alloc wr (.cells #[.int .i64 k',.slice A' ws'.length c',.int .i64 n',.slice B' xs'.length dd'] 29);have HC:=hd_ (HIH.out _ HMEM.out (wr.alloc (.cells #[.int .i64 k',.slice A' ws'.length c',.int .i64 n',.slice B' xs'.length dd'] 29)) (m+1+qSum (xs.map QR.key) j) (d+1) rn gm gf (HQJ.out.pure hpal) HQK.out (hbj.alloc _) (hfj.alloc _) hmj h2 h3);rw [← HKEY.out] at HC;have HMA:Hid (Mod (· = gm) w3 (wr.alloc (.cells #[.int .i64 k',.slice A' ws'.length c',.int .i64 n',.slice B' xs'.length dd'] 29))):=hd_ (HMJ.out.trans (Mod.of_pure hpal));rw [HRN.out] at HARG;clear hbj hfj hpal HIH HQ HQB HQX HQJ HQK HMEM HKEY hxs hq HBJ HMJ;have hji:((j:Nat):Int)<(xs.length:Int):=(by omega);go_wp2_with fail;rw [show ((d:Int)+1+1)=(((d+1:Nat):Int)+1) by simp];refine HC.out.mono ?_;rintro e w5 ⟨m',rfl,hfit,hm',hb5,hmd5⟩;have HMF:Hid (Mod (· = gm) w3 w5):=hd_ (HMA.out.trans hmd5);have HB5:=hd_ hb5;have HFT:=hd_ hfit;clear hb5 hmd5 HC HMA hfit q0 q1 q2 q3 f0
      cases hf:qFit (xs.map QR.key)[j] (m+1+qSum (xs.map QR.key) j) (d+1) rn with
      | false =>
       have HN:=hd_ (HARG.out hf);clear HFT HARG HOK HSUM hf;go_wp2_with fail
       try simp only [Exit.inBlock,Exit.then]
       refine bodyPost_ret (v:=.bool false) (by simp [results,Tryz.results175,go_sem]) rfl ?_;exact ⟨m',by rw [HN.out],fun h=>(by rw [HN.out] at h; cases h),hm',HB5.out,HMD.out.trans HMF.out⟩
      | true =>
       have hme:=HFT.out hf
       have hsz:m+1+qSum (xs.map QR.key) j+qSize (xs.map QR.key)[j]≤100:=by
        unfold qFit at hf;simp only [Bool.and_eq_true,decide_eq_true_eq] at hf;exact hf.1
       have HOK2:Hid (∀ t (ht:t<(xs.map QR.key).length),t<j+1→qFit (xs.map QR.key)[t] (m+1+qSum (xs.map QR.key) t) (d+1) rn=true):=hd_ (fun t ht h=>by
        by_cases e:t=j
        ·subst e; exact hf
        ·exact HOK.out t ht (by omega))
       have hs:=HSUM.out
       have HBF:Hid (Blk w5 gm 3 #[.int .i64 ((m+1+qSum (xs.map QR.key) (j+1):Nat):Int)]):=hd_ (by
        have h:=HB5.out;rw [hme,Nat.add_assoc,← hs] at h
        exact h)
       have HLE:Hid (m+1+qSum (xs.map QR.key) (j+1)≤100):=hd_ (by omega);clear HFT HARG HOK HSUM hf hs hsz hme HB5;go_wp2_with fail
       go_roundg (xs.length - (j+1))
       case measure=>omega
       case rel=>exact ⟨j+1,by rw [List.length_map],by rw [List.length_map]; omega,by simp,HLE.out,HOK2.out,HBF.out,HMF.out⟩
     ·obtain rfl:j=xs.length:=by omega
      have HY:Hid (qFit (.mk k ws n (xs.map QR.key)) m d r=true):=hd_ (qFit_all (by omega) h1 (by rw [HRN.out]; exact h3) (fun t ht=>by rw [HRN.out]; exact HOK.out t ht (by simpa using ht)))
      have hsum:qSum (xs.map QR.key) xs.length=((xs.map QR.key).map qSize).sum:=by
       have h:=qSum_all (xs.map QR.key);rw [List.length_map] at h;exact h
      have hjj:¬ ((xs.length:Nat):Int)<(xs.length:Int):=(by omega);have HSZ:Hid (m+1+qSum (xs.map QR.key) xs.length=m+qSize (.mk k ws n (xs.map QR.key))):=hd_ (by rw [qSize,hsum]; omega);clear hsum HOK HIH HQ HQB HQX;go_wp2_with fail
      try simp only [Exit.inBlock,Exit.then]
      refine bodyPost_ret (v:=.bool true) (by simp [results,Tryz.results175,go_sem]) rfl ?_;exact ⟨m+1+qSum (xs.map QR.key) xs.length,by rw [HY.out],fun _=>HSZ.out,by omega,HBJ.out,HMD.out.trans HMJ.out⟩
theorem qsize_calls (w:World) (qr:QR) (hQ:QS w qr) (hB:QB 1000 qr.key):Calls Tryz.prog 107 #[qA qr] w (IntPost w (if qFit qr.key 0 0 0=true then 0 else 2)):=by
 obtain ⟨k,A,c,ws,n,B,dd,xs,rfl⟩:=qr.ex;have hO:=((Blk.new w 29 #[.int .i64 k,.slice A ws.length c,.int .i64 n,.slice B xs.length dd]).alloc (.cells #[.int .i64 0] 3)).alloc (.cells #[.nilFunc] 204);have hM:=(Blk.snd w (.cells #[.int .i64 k,.slice A ws.length c,.int .i64 n,.slice B xs.length dd] 29) 3 #[.int .i64 0]).alloc (.cells #[.nilFunc] 204);have hF:=Blk.snd (w.alloc (.cells #[.int .i64 k,.slice A ws.length c,.int .i64 n,.slice B xs.length dd] 29)) (.cells #[.int .i64 0] 3) 204 #[.nilFunc];rw [World.size_alloc] at hF;have hP0:=((pure_alloc w (.cells #[.int .i64 k,.slice A ws.length c,.int .i64 n,.slice B xs.length dd] 29)).alloc (.cells #[.int .i64 0] 3)).alloc (.cells #[.nilFunc] 204);obtain ⟨er,her⟩:∃ er:Int,(if qFit (QR.mk k A c ws n B dd xs).key 0 0 0=true then 0 else 2)=er:=⟨_,rfl⟩;rw [her];have HER:=hd_ her;clear her
 show Calls Tryz.prog 107 #[.agg #[.int .i64 k,.slice A ws.length c,.int .i64 n,.slice B xs.length dd]] w (IntPost w er)
 go_enter Tryz.func107,Tryz.ntmps107
 go_upto_region 3 with (fail);generalize (((w.alloc (.cells #[.int .i64 k,.slice A ws.length c,.int .i64 n,.slice B xs.length dd] 29)).alloc (.cells #[.int .i64 0] 3)).alloc (.cells #[.nilFunc] 204))=w3 at *;generalize hg0:w.heap.size=g0 at *;have hwg:w.heap.size≤g0:=Nat.le_of_eq hg0;clear hg0;have q0:=hF.cell 0;have q1:=hF.frozen 0;simp at q0
 have hst:Sem.run Tryz.prog (store ⟨g0+1+1,0,none⟩ (.func (.func 175) #[] #[.pointer (some ⟨g0+1,0,none⟩),.pointer (some ⟨g0+1+1,0,none⟩)])) w3 = .ok () (w3.setCell ⟨g0+1+1,0,none⟩ (.func (.func 175) #[] #[.pointer (some ⟨g0+1,0,none⟩),.pointer (some ⟨g0+1+1,0,none⟩)])):=by
  refine (run_store _ _ _ _ _ rfl).trans ?_;simp [stored,q0,q1]
 have hO2:=hO.far (p:=⟨g0+1+1,0,none⟩) (by show g0≠g0+1+1; omega) (.func (.func 175) #[] #[.pointer (some ⟨g0+1,0,none⟩),.pointer (some ⟨g0+1+1,0,none⟩)]);have hM2:=hM.far (p:=⟨g0+1+1,0,none⟩) (by show g0+1≠g0+1+1; omega) (.func (.func 175) #[] #[.pointer (some ⟨g0+1,0,none⟩),.pointer (some ⟨g0+1+1,0,none⟩)]);have hF2:=hF.set 0 (.func (.func 175) #[] #[.pointer (some ⟨g0+1,0,none⟩),.pointer (some ⟨g0+1+1,0,none⟩)]);have HP2:Hid (Pure w (w3.setCell ⟨g0+1+1,0,none⟩ (.func (.func 175) #[] #[.pointer (some ⟨g0+1,0,none⟩),.pointer (some ⟨g0+1+1,0,none⟩)]))):=hd_ (hP0.setCell (.inr (by show w.heap.size≤g0+1+1; omega)) _);have HC:=hd_ (go2_calls (.mk k A c ws n B dd xs) _ 0 0 0 (g0+1) (g0+1+1) (hQ.pure HP2.out) hB (by simpa using hM2) (by simpa using hF2) (by omega) (by omega) (by omega));rw [show qA (QR.mk k A c ws n B dd xs) = .agg #[.int .i64 k,.slice A ws.length c,.int .i64 n,.slice B xs.length dd] from rfl] at HC;clear hQ hB hO hM hF hP0;go_upto_region 4 with (fail);generalize (w3.setCell ⟨g0+1+1,0,none⟩ (.func (.func 175) #[] #[.pointer (some ⟨g0+1,0,none⟩),.pointer (some ⟨g0+1+1,0,none⟩)]))=w4 at *;clear q0 q1 hst hM2
 have hF3:Blk w4 (g0+1+1) 204 #[.func (.func 175) #[] #[.pointer (some ⟨g0+1,0,none⟩),.pointer (some ⟨g0+1+1,0,none⟩)]]:=by simpa using hF2
 obtain ⟨x0,x1,x2,x3⟩:=hO2.c4;have f0:=hF3.c1;clear hO2 hF2 hF3;go_wp2_with fail;refine HC.out.mono ?_;rintro e w5 ⟨m',rfl,_,_,hb,hm⟩;have HP5:Hid (Pure w w5):=hd_ (HP2.out.trans' hm (fun i hi hlt=>by omega));have e:=HER.out;clear hb hm HC HP2 x0 x1 x2 x3 f0;generalize qFit (QR.mk k A c ws n B dd xs).key 0 0 0=fit at *
 cases fit
 ·obtain rfl:(2:Int)=er:=by simpa using e
  go_wp2_with fail;refine (whenQ_calls _ _ _ 2 (by simp)).mono ?_;rintro e2 w6 ⟨rfl,hm6⟩;go_wp2_with fail;go_ret;exact ⟨rfl,HP5.out.trans hm6⟩
 ·obtain rfl:(0:Int)=er:=by simpa using e
  go_wp2_with fail;refine (whenQ_calls _ _ _ 0 (by simp)).mono ?_;rintro e2 w6 ⟨rfl,hm6⟩;go_wp2_with fail;go_ret;exact ⟨rfl,HP5.out.trans hm6⟩
end Go.Proofs.YtnfflgicngeekaaGreatDoor
namespace Go.Proofs.YtnfflgicngeekaaGreatDoor
open Go.RowKit
theorem qA_mk {k n:Int} {A B:Option Addr} {c d:Nat} {ws:List Str} {xs:List QR}:qA (.mk k A c ws n B d xs) = .agg #[.int .i64 k,.slice A ws.length c,.int .i64 n,.slice B xs.length d]:=rfl
def cB:Nat→Nat
 | 0=>5
 | d+1=>7+2*cB d
def sB:Nat→Nat
 | 0=>1
 | d+1=>1+2*sB d
theorem cB_le {d:Nat} (h:d≤2):cB d≤41:=by
 match d,h with
 | 0,_=>decide
 | 1,_=>decide
 | 2,_=>decide
theorem sB_pos (d:Nat):1≤sB d:=by cases d <;> simp [sB] <;> omega
theorem st4_blk {w:World} {g:Nat} {t:TypeId} {x0 x1 x2 x3 a b c d:Value} (h:Blk w g t #[x0,x1,x2,x3]):Blk ((((w.setCell ⟨g,0,none⟩ a).setCell ⟨g,1,none⟩ b).setCell ⟨g,2,none⟩ c).setCell ⟨g,3,none⟩ d) g t #[a,b,c,d]:=by
 have h2:=(((h.set 0 a).set 1 b).set 2 c).set 3 d
 simpa using h2
theorem st4_mod {w:World} {g:Nat} {a b c d:Value}:Mod (· = g) w ((((w.setCell ⟨g,0,none⟩ a).setCell ⟨g,1,none⟩ b).setCell ⟨g,2,none⟩ c).setCell ⟨g,3,none⟩ d) :=
 ((((Mod.refl (· = g) w).setCell (p:=⟨g,0,none⟩) (.inl rfl) a).setCell (p:=⟨g,1,none⟩) (.inl rfl) b).setCell (p:=⟨g,2,none⟩) (.inl rfl) c).setCell (p:=⟨g,3,none⟩) (.inl rfl) d
theorem mod_up {w w1 w':World} {b g:Nat} (h:Mod (· = b) w w1) (hm:Mod (· = g) w1 w') (hg:w.heap.size≤g):Mod (· = b) w w':=h.trans' hm (fun i hi hlt=>by omega)
theorem slOne {w:World} {g:Nat} {cs:List Str} (h:Blk w g 9 (strsV cs).toArray) (hn:cs.length≤1000):Sl w 9 1 (.slice (some ⟨g,0,none⟩) cs.length cs.length) (strsV cs) :=
 ⟨_,_,_,rfl,Nat.le_refl _,by omega,by simp [strsV],fun _=>⟨g,0,rfl,h.row0⟩⟩
theorem qs_words {w:World} {g:Nat} {k n:Int} {ws:List Str} (h:Blk w g 9 (strsV ws).toArray) (hn:ws.length≤1000):QS w (.mk k (some ⟨g,0,none⟩) ws.length ws n none 0 []):=.mk (slOne h hn) Sl.nil_ (fun a ha=>by cases ha)
theorem qs_two {w:World} {g:Nat} {k n:Int} {q1 q2:QR} (h:Blk w g 29 (qV [q1,q2]).toArray) (h1:QS w q1) (h2:QS w q2):QS w (.mk k none 0 [] n (some ⟨g,0,none⟩) 2 [q1,q2]) :=
 .mk Sl.nil_ ⟨_,_,_,rfl,Nat.le_refl _,by omega,by rw [qV_len],fun _=>⟨g,0,rfl,h.row0⟩⟩ (fun a ha=>by
  rcases List.mem_cons.1 ha with rfl | ha
  ·exact h1
  ·rcases List.mem_cons.1 ha with rfl | ha
   ·exact h2
   ·cases ha)
theorem qb_words {k n:Int} {ws:List Str} (hk : -1000000≤k∧k≤1000000) (hn : -1000000≤n∧n≤1000000) (hw:ws.length≤100) (hl:∀ x∈ws,x.length≤100):QB 100 (.mk k ws n []):=.mk (by omega) (by omega) (by omega) (by omega) hw hl (by simp) (fun a ha=>by cases ha)
theorem qb_two {k n:Int} {q1 q2:Qry} (hk : -1000000≤k∧k≤1000000) (hn : -1000000≤n∧n≤1000000) (h1:QB 100 q1) (h2:QB 100 q2):QB 100 (.mk k [] n [q1,q2]):=.mk (by omega) (by omega) (by omega) (by omega) (by simp) (fun x hx=>by cases hx) (by simp) (fun a ha=>by
  rcases List.mem_cons.1 ha with rfl | ha
  ·exact h1
  ·rcases List.mem_cons.1 ha with rfl | ha
   ·exact h2
   ·cases ha)
theorem byWordsG_calls (b:Nat):∀ (d:Nat) (w:World) (N:Nat) (dI:Int),dI=(d:Int)→d≤2→Strm w b N→N+50*d≤800000000→Calls Tryz.prog 100 #[.pointer (some ⟨b,0,none⟩),.int .i64 dI] w (QgP w b (N+cB d) (sB d)):=by
 intro d
 induction d with
 | zero =>
  intro w N dI hdI _ hS hN;have HIH:Hid True:=hd_ trivial;have hcd:5≤cB 0:=(by decide)
  replace hN:N≤800000000:=by omega
  have hd1:dI≤0:=(by omega);have hd2:0≤dI:=(by omega);clear hdI;have h40:=Blk.new w 29 #[.int .i64 0,.slice none 0 0,.int .i64 0,.slice none 0 0];have hP0:=pure_alloc w (.cells #[.int .i64 0,.slice none 0 0,.int .i64 0,.slice none 0 0] 29);have hS0:=hS.alloc (.cells #[.int .i64 0,.slice none 0 0,.int .i64 0,.slice none 0 0] 29);have hb4:=hS.lt;have hsz:w.heap.size+1≤(w.alloc (.cells #[.int .i64 0,.slice none 0 0,.int .i64 0,.slice none 0 0] 29)).heap.size:=(by simp);clear hS
  go_enter Tryz.func100,Tryz.ntmps100
  go_upto_region 1 with (fail);generalize (w.alloc (.cells #[.int .i64 0,.slice none 0 0,.int .i64 0,.slice none 0 0] 29))=w0 at *;generalize hg4:w.heap.size=g4 at *;have hg4w:w.heap.size≤g4:=Nat.le_of_eq hg4;have hg4v:g4≤w.heap.size:=Nat.le_of_eq hg4.symm;clear hg4;go_wp2_with fail;refine (next_calls w0 b N 6 hS0 (by omega) (by omega) (by omega)).mono ?_;rintro e w1 ⟨k,hk0,hk6,rfl,hS1,hM1⟩;have H4:=hd_ (h40.mod hM1 (by omega));have HM:Hid (Mod (· = b) w w1):=hd_ ((Mod.of_pure hP0:Mod (· = b) w w0).trans hM1);have hsz1:=hM1.size;clear h40 hP0 hS0 hM1;have HM1:=HM;have K1:=H4;obtain ⟨ca,hca⟩:∃ ca,decide (k<2∨dI=0)=ca:=⟨_,rfl⟩;go_upto_region 3 with (fail)
  go_cut [24] from 25 to 30 (fun p wx=>p = .bool ca∧w1=wx)
  case first =>
   clear HIH
   by_cases h2:k<2
   ·obtain rfl:true=ca:=by rw [← hca]; exact (decide_eq_true (.inl h2)).symm
    clear hca;go_wp2_with fail;go_meet;exact ⟨by first | rfl | simp,rfl⟩
   ·by_cases h0:dI=0
    ·obtain rfl:true=ca:=by rw [← hca]; exact (decide_eq_true (.inr h0)).symm
     clear hca;subst h0;go_wp2_with fail;go_meet;exact ⟨by first | rfl | simp,rfl⟩
    ·obtain rfl:false=ca:=by rw [← hca]; exact (decide_eq_false (by omega)).symm
     have h0i:(dI == 0)=false:=(by simpa using h0);clear hca h0;go_wp2_with fail;go_meet;exact ⟨by first | rfl | simp,rfl⟩
  case rest =>
   obtain ⟨rfl,rfl⟩:=hcut
   cases ca with
   | true =>
    clear hca HIH;have HP1:=hd_ (pattern_calls w1 b _ hS1 (by omega));go_wp2_with fail;refine HP1.out.mono ?_;rintro e w2 ⟨s1,hs1,rfl,hS2,hM2⟩;have HM2:=hd_ (HM1.out.trans hM2);have K2:=hd_ (K1.out.mod hM2 (by omega));have hz2:=hM2.size;clear HP1 hM2;have h4b:=K2.out.alloc (.cells #[.string ⟨s1.toArray⟩] 9);have hsb:Blk (w2.alloc (.cells #[.string ⟨s1.toArray⟩] 9)) w2.heap.size 9 (strsV [s1]).toArray:=Blk.new w2 9 #[.string ⟨s1.toArray⟩];have hSb:=hS2.alloc (.cells #[.string ⟨s1.toArray⟩] 9);have hMb:=HM2.out.trans (Mod.of_pure (pure_alloc w2 (.cells #[.string ⟨s1.toArray⟩] 9)));have h4F:=st4_blk (a:=.int .i64 2) (b:=.slice (some ⟨w2.heap.size,0,none⟩) 1 1) (c:=.int .i64 0) (d:=.slice none 0 0) h4b;have HMF:Hid (Mod (· = g4) (w2.alloc (.cells #[.string ⟨s1.toArray⟩] 9)) (((((w2.alloc (.cells #[.string ⟨s1.toArray⟩] 9)).setCell ⟨g4,0,none⟩ (.int .i64 2)).setCell ⟨g4,1,none⟩ (.slice (some ⟨w2.heap.size,0,none⟩) 1 1)).setCell ⟨g4,2,none⟩ (.int .i64 0)).setCell ⟨g4,3,none⟩ (.slice none 0 0))):=hd_ st4_mod;have HSF:=hd_ ((((hSb.setCell (p:=⟨g4,0,none⟩) (by show b<g4; omega) (.int .i64 2)).setCell (p:=⟨g4,1,none⟩) (by show b<g4; omega) (.slice (some ⟨w2.heap.size,0,none⟩) 1 1)).setCell (p:=⟨g4,2,none⟩) (by show b<g4; omega) (.int .i64 0)).setCell (p:=⟨g4,3,none⟩) (by show b<g4; omega) (.slice none 0 0));have HMM:=hd_ (mod_up hMb HMF.out hg4w);have HQS:Hid (QS (((((w2.alloc (.cells #[.string ⟨s1.toArray⟩] 9)).setCell ⟨g4,0,none⟩ (.int .i64 2)).setCell ⟨g4,1,none⟩ (.slice (some ⟨w2.heap.size,0,none⟩) 1 1)).setCell ⟨g4,2,none⟩ (.int .i64 0)).setCell ⟨g4,3,none⟩ (.slice none 0 0)) (.mk 2 (some ⟨w2.heap.size,0,none⟩) 1 [s1] 0 none 0 [])):=hd_ (qs_words (hsb.mod st4_mod (by show ¬ w2.heap.size=g4; omega)) (by simp));have hh4:=h4b;obtain ⟨y0,y1,y2,y3,yf0,yf1,yf2,yf3⟩:=hh4.c4f;clear hh4;go_wp2_with fail;obtain ⟨x0,x1,x2,x3⟩:=h4F.c4
    try simp only [Exit.inBlock,Exit.then]
    refine bodyPost_ret (v:=.agg #[.int .i64 2,.slice (some ⟨w2.heap.size,0,none⟩) 1 1,.int .i64 0,.slice none 0 0]) (by simp [results,Tryz.results100,go_sem,x0,x1,x2,x3]) rfl ?_;exact ⟨.mk 2 (some ⟨w2.heap.size,0,none⟩) 1 [s1] 0 none 0 [],rfl,HQS.out,.mk (fun h=>absurd rfl h) (fun a ha=>by cases ha),(by rw [QR.key_mk]; exact qb_words (by omega) (by omega) (by simp) (fun x hx=>by simp at hx; subst hx; omega)),(by rw [QR.key_mk,qSize]; have:=sB_pos 0; simp; omega),HSF.out.more (by omega),HMM.out,.mk (fun _ _ _ h=>by cases h) (fun a ha=>by cases ha)⟩
   | false =>
    have hkd:¬ (k<2∨dI=0):=of_decide_eq_false hca;clear hca;exact absurd (.inr (by omega)) hkd
 | succ d ih =>
  intro w N dI hdI hd hS hN;have HIH:=hd_ (fun (w:World) (N:Nat) (dI:Int) (h:dI=(d:Int)) (hS:Strm w b N) (hN:N+50*d≤800000000)=>ih w N dI h (by omega) hS hN);have hcb:=cB_le (show d≤2 by omega);have hcd:7+2*cB d≤cB (d+1):=Nat.le_refl _;have hsd:1+2*sB d≤sB (d+1):=Nat.le_refl _;have HNN:=hd_ hN
  replace hN:N≤800000000:=by omega
  have hd1:dI≤(d:Int)+1:=(by omega);have hd2:(d:Int)+1≤dI:=(by omega);clear hdI;clear ih;have h40:=Blk.new w 29 #[.int .i64 0,.slice none 0 0,.int .i64 0,.slice none 0 0];have hP0:=pure_alloc w (.cells #[.int .i64 0,.slice none 0 0,.int .i64 0,.slice none 0 0] 29);have hS0:=hS.alloc (.cells #[.int .i64 0,.slice none 0 0,.int .i64 0,.slice none 0 0] 29);have hb4:=hS.lt;have hsz:w.heap.size+1≤(w.alloc (.cells #[.int .i64 0,.slice none 0 0,.int .i64 0,.slice none 0 0] 29)).heap.size:=(by simp);clear hS
  go_enter Tryz.func100,Tryz.ntmps100
  go_upto_region 1 with (fail);generalize (w.alloc (.cells #[.int .i64 0,.slice none 0 0,.int .i64 0,.slice none 0 0] 29))=w0 at *;generalize hg4:w.heap.size=g4 at *;have hg4w:w.heap.size≤g4:=Nat.le_of_eq hg4;have hg4v:g4≤w.heap.size:=Nat.le_of_eq hg4.symm;clear hg4;go_wp2_with fail;refine (next_calls w0 b N 6 hS0 (by omega) (by omega) (by omega)).mono ?_;rintro e w1 ⟨k,hk0,hk6,rfl,hS1,hM1⟩;have H4:=hd_ (h40.mod hM1 (by omega));have HM:Hid (Mod (· = b) w w1):=hd_ ((Mod.of_pure hP0:Mod (· = b) w w0).trans hM1);have hsz1:=hM1.size;clear h40 hP0 hS0 hM1;have HM1:=HM;have K1:=H4;obtain ⟨ca,hca⟩:∃ ca,decide (k<2∨dI=0)=ca:=⟨_,rfl⟩;go_upto_region 3 with (fail)
  go_cut [24] from 25 to 30 (fun p wx=>p = .bool ca∧w1=wx)
  case first =>
   clear HIH
   by_cases h2:k<2
   ·obtain rfl:true=ca:=by rw [← hca]; exact (decide_eq_true (.inl h2)).symm
    clear hca;go_wp2_with fail;go_meet;exact ⟨by first | rfl | simp,rfl⟩
   ·by_cases h0:dI=0
    ·obtain rfl:true=ca:=by rw [← hca]; exact (decide_eq_true (.inr h0)).symm
     clear hca;subst h0;go_wp2_with fail;go_meet;exact ⟨by first | rfl | simp,rfl⟩
    ·obtain rfl:false=ca:=by rw [← hca]; exact (decide_eq_false (by omega)).symm
     have h0i:(dI == 0)=false:=(by simpa using h0);clear hca h0;go_wp2_with fail;go_meet;exact ⟨by first | rfl | simp,rfl⟩
  case rest =>
   obtain ⟨rfl,rfl⟩:=hcut
   cases ca with
   | true =>
    clear hca HIH;have HP1:=hd_ (pattern_calls w1 b _ hS1 (by omega));go_wp2_with fail;refine HP1.out.mono ?_;rintro e w2 ⟨s1,hs1,rfl,hS2,hM2⟩;have HM2:=hd_ (HM1.out.trans hM2);have K2:=hd_ (K1.out.mod hM2 (by omega));have hz2:=hM2.size;clear HP1 hM2;have h4b:=K2.out.alloc (.cells #[.string ⟨s1.toArray⟩] 9);have hsb:Blk (w2.alloc (.cells #[.string ⟨s1.toArray⟩] 9)) w2.heap.size 9 (strsV [s1]).toArray:=Blk.new w2 9 #[.string ⟨s1.toArray⟩];have hSb:=hS2.alloc (.cells #[.string ⟨s1.toArray⟩] 9);have hMb:=HM2.out.trans (Mod.of_pure (pure_alloc w2 (.cells #[.string ⟨s1.toArray⟩] 9)));have h4F:=st4_blk (a:=.int .i64 2) (b:=.slice (some ⟨w2.heap.size,0,none⟩) 1 1) (c:=.int .i64 0) (d:=.slice none 0 0) h4b;have HMF:Hid (Mod (· = g4) (w2.alloc (.cells #[.string ⟨s1.toArray⟩] 9)) (((((w2.alloc (.cells #[.string ⟨s1.toArray⟩] 9)).setCell ⟨g4,0,none⟩ (.int .i64 2)).setCell ⟨g4,1,none⟩ (.slice (some ⟨w2.heap.size,0,none⟩) 1 1)).setCell ⟨g4,2,none⟩ (.int .i64 0)).setCell ⟨g4,3,none⟩ (.slice none 0 0))):=hd_ st4_mod;have HSF:=hd_ ((((hSb.setCell (p:=⟨g4,0,none⟩) (by show b<g4; omega) (.int .i64 2)).setCell (p:=⟨g4,1,none⟩) (by show b<g4; omega) (.slice (some ⟨w2.heap.size,0,none⟩) 1 1)).setCell (p:=⟨g4,2,none⟩) (by show b<g4; omega) (.int .i64 0)).setCell (p:=⟨g4,3,none⟩) (by show b<g4; omega) (.slice none 0 0));have HMM:=hd_ (mod_up hMb HMF.out hg4w);have HQS:Hid (QS (((((w2.alloc (.cells #[.string ⟨s1.toArray⟩] 9)).setCell ⟨g4,0,none⟩ (.int .i64 2)).setCell ⟨g4,1,none⟩ (.slice (some ⟨w2.heap.size,0,none⟩) 1 1)).setCell ⟨g4,2,none⟩ (.int .i64 0)).setCell ⟨g4,3,none⟩ (.slice none 0 0)) (.mk 2 (some ⟨w2.heap.size,0,none⟩) 1 [s1] 0 none 0 [])):=hd_ (qs_words (hsb.mod st4_mod (by show ¬ w2.heap.size=g4; omega)) (by simp));have hh4:=h4b;obtain ⟨y0,y1,y2,y3,yf0,yf1,yf2,yf3⟩:=hh4.c4f;clear hh4;go_wp2_with fail;obtain ⟨x0,x1,x2,x3⟩:=h4F.c4
    try simp only [Exit.inBlock,Exit.then]
    refine bodyPost_ret (v:=.agg #[.int .i64 2,.slice (some ⟨w2.heap.size,0,none⟩) 1 1,.int .i64 0,.slice none 0 0]) (by simp [results,Tryz.results100,go_sem,x0,x1,x2,x3]) rfl ?_;exact ⟨.mk 2 (some ⟨w2.heap.size,0,none⟩) 1 [s1] 0 none 0 [],rfl,HQS.out,.mk (fun h=>absurd rfl h) (fun a ha=>by cases ha),(by rw [QR.key_mk]; exact qb_words (by omega) (by omega) (by simp) (fun x hx=>by simp at hx; subst hx; omega)),(by rw [QR.key_mk,qSize]; have:=sB_pos (d+1); simp; omega),HSF.out.more (by omega),HMM.out,.mk (fun _ _ _ h=>by cases h) (fun a ha=>by cases ha)⟩
   | false =>
    have hkd:¬ (k<2∨dI=0):=of_decide_eq_false hca;clear hca
    by_cases k2:k=2
    ·subst k2;clear HIH hkd;have HP1:=hd_ (pattern_calls w1 b _ hS1 (by omega));go_wp2_with fail;refine HP1.out.mono ?_;rintro e w2 ⟨s1,hs1,rfl,hS2,hM2⟩;have HM2:=hd_ (HM1.out.trans hM2);have K2:=hd_ (K1.out.mod hM2 (by omega));have hz2:=hM2.size;clear HP1 hM2;have HP2:=hd_ (pattern_calls w2 b _ hS2 (by omega));go_wp2_with fail;refine HP2.out.mono ?_;rintro e w3 ⟨s2,hs2,rfl,hS3,hM3⟩;have HM3:=hd_ (HM2.out.trans hM3);have K3:=hd_ (K2.out.mod hM3 (by omega));have hz3:=hM3.size;clear HP2 hM3;have h4b:=K3.out.alloc (.cells #[.string ⟨s1.toArray⟩,.string ⟨s2.toArray⟩] 9);have hsb:Blk (w3.alloc (.cells #[.string ⟨s1.toArray⟩,.string ⟨s2.toArray⟩] 9)) w3.heap.size 9 (strsV [s1,s2]).toArray:=Blk.new w3 9 #[.string ⟨s1.toArray⟩,.string ⟨s2.toArray⟩];have hSb:=hS3.alloc (.cells #[.string ⟨s1.toArray⟩,.string ⟨s2.toArray⟩] 9);have hMb:=HM3.out.trans (Mod.of_pure (pure_alloc w3 (.cells #[.string ⟨s1.toArray⟩,.string ⟨s2.toArray⟩] 9)));have h4F:=st4_blk (a:=.int .i64 3) (b:=.slice (some ⟨w3.heap.size,0,none⟩) 2 2) (c:=.int .i64 0) (d:=.slice none 0 0) h4b;have HMF:Hid (Mod (· = g4) (w3.alloc (.cells #[.string ⟨s1.toArray⟩,.string ⟨s2.toArray⟩] 9)) (((((w3.alloc (.cells #[.string ⟨s1.toArray⟩,.string ⟨s2.toArray⟩] 9)).setCell ⟨g4,0,none⟩ (.int .i64 3)).setCell ⟨g4,1,none⟩ (.slice (some ⟨w3.heap.size,0,none⟩) 2 2)).setCell ⟨g4,2,none⟩ (.int .i64 0)).setCell ⟨g4,3,none⟩ (.slice none 0 0))):=hd_ st4_mod;have HSF:=hd_ ((((hSb.setCell (p:=⟨g4,0,none⟩) (by show b<g4; omega) (.int .i64 3)).setCell (p:=⟨g4,1,none⟩) (by show b<g4; omega) (.slice (some ⟨w3.heap.size,0,none⟩) 2 2)).setCell (p:=⟨g4,2,none⟩) (by show b<g4; omega) (.int .i64 0)).setCell (p:=⟨g4,3,none⟩) (by show b<g4; omega) (.slice none 0 0));have HMM:=hd_ (mod_up hMb HMF.out hg4w);have HQS:Hid (QS (((((w3.alloc (.cells #[.string ⟨s1.toArray⟩,.string ⟨s2.toArray⟩] 9)).setCell ⟨g4,0,none⟩ (.int .i64 3)).setCell ⟨g4,1,none⟩ (.slice (some ⟨w3.heap.size,0,none⟩) 2 2)).setCell ⟨g4,2,none⟩ (.int .i64 0)).setCell ⟨g4,3,none⟩ (.slice none 0 0)) (.mk 3 (some ⟨w3.heap.size,0,none⟩) 2 [s1,s2] 0 none 0 [])):=hd_ (qs_words (hsb.mod st4_mod (by show ¬ w3.heap.size=g4; omega)) (by simp));have hh4:=h4b;obtain ⟨y0,y1,y2,y3,yf0,yf1,yf2,yf3⟩:=hh4.c4f;clear hh4;go_wp2_with fail;obtain ⟨x0,x1,x2,x3⟩:=h4F.c4
     try simp only [Exit.inBlock,Exit.then]
     refine bodyPost_ret (v:=.agg #[.int .i64 3,.slice (some ⟨w3.heap.size,0,none⟩) 2 2,.int .i64 0,.slice none 0 0]) (by simp [results,Tryz.results100,go_sem,x0,x1,x2,x3]) rfl ?_;exact ⟨.mk 3 (some ⟨w3.heap.size,0,none⟩) 2 [s1,s2] 0 none 0 [],rfl,HQS.out,.mk (fun h=>absurd rfl h) (fun a ha=>by cases ha),(by rw [QR.key_mk]; exact qb_words (by omega) (by omega) (by simp) (fun x hx=>by simp at hx; rcases hx with rfl | rfl <;> omega)),(by rw [QR.key_mk,qSize]; have:=sB_pos (d+1); simp; omega),HSF.out.more (by omega),HMM.out,.mk (fun _ _ _ h=>by cases h) (fun a ha=>by cases ha)⟩
    have k2i:(k == 2)=false:=(by simpa using k2)
    by_cases k3:k=3
    ·subst k3;clear hkd k2 k2i;have HC1:=hd_ (HIH.out w1 _ (dI - 1) (by omega) hS1 (by have:=HNN.out; omega));go_wp2_with fail;refine HC1.out.mono ?_;rintro e w2 ⟨q1,rfl,hq1,hf1,hb1,hsz1,hS2,hM2,hz_1⟩;have HZ1:=hd_ hz_1;clear hz_1;have HM2:=hd_ (HM1.out.trans hM2);have K2:=hd_ (K1.out.mod hM2 (by omega));have hz2:=hM2.size;have HQ1:=hd_ hq1;have HF1:=hd_ (hf1.up (b1:=g4+1) (by omega));have HBq1:=hd_ hb1;obtain ⟨k1,A1,c1,ws1,n1,B1,d1,xs1,rfl⟩:=q1.ex;rw [qA_mk];clear HC1 hM2 hf1 hb1;have HC2:=hd_ (HIH.out w2 _ (dI - 1) (by omega) hS2 (by have:=HNN.out; omega));go_wp2_with fail;refine HC2.out.mono ?_;rintro e w3 ⟨q2,rfl,hq2,hf2,hb2,hsz2,hS3,hM3,hz_2⟩;have HZ2:=hd_ hz_2;clear hz_2;have HM3:=hd_ (HM2.out.trans hM3);have K3:=hd_ (K2.out.mod hM3 (by omega));have hz3:=hM3.size;have hq1:=hq1.strm hS2 hM3;have HQ2:=hd_ hq2;have HF2:=hd_ (hf2.up (b1:=g4+1) (by omega));have HBq2:=hd_ hb2;have HQ1:=hd_ hq1;obtain ⟨k2,A2,c2,ws2,n2,B2,d2,xs2,rfl⟩:=q2.ex;rw [qA_mk];clear HC2 hM3 hf2 hb2 hq2;have h4b:=K3.out.alloc (.cells #[.int .i64 k1,.slice A1 ws1.length c1,.int .i64 n1,.slice B1 xs1.length d1,.int .i64 k2,.slice A2 ws2.length c2,.int .i64 n2,.slice B2 xs2.length d2] 29);have hsb:Blk (w3.alloc (.cells #[.int .i64 k1,.slice A1 ws1.length c1,.int .i64 n1,.slice B1 xs1.length d1,.int .i64 k2,.slice A2 ws2.length c2,.int .i64 n2,.slice B2 xs2.length d2] 29)) w3.heap.size 29 (qV [.mk k1 A1 c1 ws1 n1 B1 d1 xs1,.mk k2 A2 c2 ws2 n2 B2 d2 xs2]).toArray:=Blk.new w3 29 #[.int .i64 k1,.slice A1 ws1.length c1,.int .i64 n1,.slice B1 xs1.length d1,.int .i64 k2,.slice A2 ws2.length c2,.int .i64 n2,.slice B2 xs2.length d2];have hSb:=hS3.alloc (.cells #[.int .i64 k1,.slice A1 ws1.length c1,.int .i64 n1,.slice B1 xs1.length d1,.int .i64 k2,.slice A2 ws2.length c2,.int .i64 n2,.slice B2 xs2.length d2] 29);have hpal:=pure_alloc w3 (.cells #[.int .i64 k1,.slice A1 ws1.length c1,.int .i64 n1,.slice B1 xs1.length d1,.int .i64 k2,.slice A2 ws2.length c2,.int .i64 n2,.slice B2 xs2.length d2] 29);have hMb:=HM3.out.trans (Mod.of_pure hpal);have h4F:=st4_blk (a:=.int .i64 7) (b:=.slice none 0 0) (c:=.int .i64 0) (d:=.slice (some ⟨w3.heap.size,0,none⟩) 2 2) h4b;have HMF:Hid (Mod (· = g4) (w3.alloc (.cells #[.int .i64 k1,.slice A1 ws1.length c1,.int .i64 n1,.slice B1 xs1.length d1,.int .i64 k2,.slice A2 ws2.length c2,.int .i64 n2,.slice B2 xs2.length d2] 29)) (((((w3.alloc (.cells #[.int .i64 k1,.slice A1 ws1.length c1,.int .i64 n1,.slice B1 xs1.length d1,.int .i64 k2,.slice A2 ws2.length c2,.int .i64 n2,.slice B2 xs2.length d2] 29)).setCell ⟨g4,0,none⟩ (.int .i64 7)).setCell ⟨g4,1,none⟩ (.slice none 0 0)).setCell ⟨g4,2,none⟩ (.int .i64 0)).setCell ⟨g4,3,none⟩ (.slice (some ⟨w3.heap.size,0,none⟩) 2 2))):=hd_ st4_mod;have HSF:=hd_ ((((hSb.setCell (p:=⟨g4,0,none⟩) (by show b<g4; omega) (.int .i64 7)).setCell (p:=⟨g4,1,none⟩) (by show b<g4; omega) (.slice none 0 0)).setCell (p:=⟨g4,2,none⟩) (by show b<g4; omega) (.int .i64 0)).setCell (p:=⟨g4,3,none⟩) (by show b<g4; omega) (.slice (some ⟨w3.heap.size,0,none⟩) 2 2));have HMM:=hd_ (mod_up hMb HMF.out hg4w)
     have hst:∀ g arr fr,(w3.alloc (.cells #[.int .i64 k1,.slice A1 ws1.length c1,.int .i64 n1,.slice B1 xs1.length d1,.int .i64 k2,.slice A2 ws2.length c2,.int .i64 n2,.slice B2 xs2.length d2] 29)).heap[g]? = some (.cells arr 9 fr)→¬ g=g4:=fun g arr fr hg he=>by
      subst he;have h:=h4b;unfold Blk at h;rw [hg] at h
      injection h with h
      injection h with _ h
      exact absurd h (by decide)
     have HQS:Hid (QS (((((w3.alloc (.cells #[.int .i64 k1,.slice A1 ws1.length c1,.int .i64 n1,.slice B1 xs1.length d1,.int .i64 k2,.slice A2 ws2.length c2,.int .i64 n2,.slice B2 xs2.length d2] 29)).setCell ⟨g4,0,none⟩ (.int .i64 7)).setCell ⟨g4,1,none⟩ (.slice none 0 0)).setCell ⟨g4,2,none⟩ (.int .i64 0)).setCell ⟨g4,3,none⟩ (.slice (some ⟨w3.heap.size,0,none⟩) 2 2)) (.mk 7 none 0 [] 0 (some ⟨w3.heap.size,0,none⟩) 2 [.mk k1 A1 c1 ws1 n1 B1 d1 xs1,.mk k2 A2 c2 ws2 n2 B2 d2 xs2])):=hd_ (qs_two (hsb.mod st4_mod (by show ¬ w3.heap.size=g4; omega)) ((HQ1.out.pure hpal).modF HF1.out st4_mod hst (fun g hg=>by show ¬ g=g4; omega)) ((HQ2.out.pure hpal).modF HF2.out st4_mod hst (fun g hg=>by show ¬ g=g4; omega)));have hh4:=h4b;obtain ⟨y0,y1,y2,y3,yf0,yf1,yf2,yf3⟩:=hh4.c4f;clear hh4;go_wp2_with fail;obtain ⟨x0,x1,x2,x3⟩:=h4F.c4
     try simp only [Exit.inBlock,Exit.then]
     refine bodyPost_ret (v:=.agg #[.int .i64 7,.slice none 0 0,.int .i64 0,.slice (some ⟨w3.heap.size,0,none⟩) 2 2]) (by simp [results,Tryz.results100,go_sem,x0,x1,x2,x3]) rfl ?_
     exact ⟨.mk 7 none 0 [] 0 (some ⟨w3.heap.size,0,none⟩) 2 [.mk k1 A1 c1 ws1 n1 B1 d1 xs1,.mk k2 A2 c2 ws2 n2 B2 d2 xs2],rfl,HQS.out,.mk (fun _=>⟨w3.heap.size,0,rfl,by omega⟩) (fun a ha=>by
      rcases List.mem_cons.1 ha with rfl | ha
      ·exact HF1.out.up (by omega)
      ·rcases List.mem_cons.1 ha with rfl | ha
       ·exact HF2.out.up (by omega)
       ·cases ha),(by rw [QR.key_mk]; exact qb_two (by omega) (by omega) HBq1.out HBq2.out),(by rw [QR.key_mk,qSize]; simp only [List.map_cons,List.map_nil,List.sum_cons,List.sum_nil]; omega),HSF.out.more (by omega),HMM.out,.mk (fun _ _ _ h=>by
      injection h with h
      injection h with _ _ h
      exact h.symm) (fun a ha=>by
      rcases List.mem_cons.1 ha with rfl | ha
      ·exact HZ1.out
      ·rcases List.mem_cons.1 ha with rfl | ha
       ·exact HZ2.out
       ·cases ha)⟩
    have k3i:(k == 3)=false:=(by simpa using k3);clear k2 k3 hkd;go_wp2_with fail;have hlt1:=hS1.lt;refine (pickv_calls _ b _ w1.heap.size _ _ #[.int .i64 4,.int .i64 5] (hS1.alloc _) (Blk.new _ _ _) (by omega) (by omega) rfl (by decide) (by decide) rfl).mono ?_;rintro e w2 ⟨kd,hmem1,rfl,hS2,hM2⟩
    have hv1:kd=4∨kd=5:=by simpa [intsOf,Go.RowKit.intOf] using hmem1
    have HM2:=hd_ ((HM1.out.trans (Mod.of_pure (pure_alloc w1 (.cells #[.int .i64 4,.int .i64 5] 3)))).trans hM2);have K2:=hd_ ((K1.out.alloc (.cells #[.int .i64 4,.int .i64 5] 3)).mod hM2 (by omega))
    have hz2:w1.heap.size≤w2.heap.size:=by have:=hM2.size; rw [World.size_alloc] at this; omega
    clear hmem1 hM2;go_wp2_with fail;have hlt2:=hS2.lt;refine (pickv_calls _ b _ w2.heap.size _ _ #[.int .i64 0,.int .i64 1,.int .i64 2,.int .i64 3,.int .i64 5,.int .i64 20] (hS2.alloc _) (Blk.new _ _ _) (by omega) (by omega) rfl (by decide) (by decide) rfl).mono ?_;rintro e w3 ⟨nb,hmem2,rfl,hS3,hM3⟩
    have hv2:nb=0∨nb=1∨nb=2∨nb=3∨nb=5∨nb=20:=by simpa [intsOf,Go.RowKit.intOf] using hmem2
    have HM3:=hd_ ((HM2.out.trans (Mod.of_pure (pure_alloc w2 (.cells #[.int .i64 0,.int .i64 1,.int .i64 2,.int .i64 3,.int .i64 5,.int .i64 20] 3)))).trans hM3);have K3:=hd_ ((K2.out.alloc (.cells #[.int .i64 0,.int .i64 1,.int .i64 2,.int .i64 3,.int .i64 5,.int .i64 20] 3)).mod hM3 (by omega))
    have hz3:w2.heap.size≤w3.heap.size:=by have:=hM3.size; rw [World.size_alloc] at this; omega
    clear hmem2 hM3;have HC1:=hd_ (HIH.out w3 _ (dI - 1) (by omega) hS3 (by have:=HNN.out; omega));go_wp2_with fail;refine HC1.out.mono ?_;rintro e w4 ⟨q1,rfl,hq1,hf1,hb1,hsz1,hS4,hM4,hz_1⟩;have HZ1:=hd_ hz_1;clear hz_1;have HM4:=hd_ (HM3.out.trans hM4);have K4:=hd_ (K3.out.mod hM4 (by omega));have hz4:=hM4.size;have HQ1:=hd_ hq1;have HF1:=hd_ (hf1.up (b1:=g4+1) (by omega));have HBq1:=hd_ hb1;obtain ⟨k1,A1,c1,ws1,n1,B1,d1,xs1,rfl⟩:=q1.ex;rw [qA_mk];clear HC1 hM4 hf1 hb1;have HC2:=hd_ (HIH.out w4 _ (dI - 1) (by omega) hS4 (by have:=HNN.out; omega));go_wp2_with fail;refine HC2.out.mono ?_;rintro e w5 ⟨q2,rfl,hq2,hf2,hb2,hsz2,hS5,hM5,hz_2⟩;have HZ2:=hd_ hz_2;clear hz_2;have HM5:=hd_ (HM4.out.trans hM5);have K5:=hd_ (K4.out.mod hM5 (by omega));have hz5:=hM5.size;have hq1:=hq1.strm hS4 hM5;have HQ2:=hd_ hq2;have HF2:=hd_ (hf2.up (b1:=g4+1) (by omega));have HBq2:=hd_ hb2;have HQ1:=hd_ hq1;obtain ⟨k2,A2,c2,ws2,n2,B2,d2,xs2,rfl⟩:=q2.ex;rw [qA_mk];clear HC2 hM5 hf2 hb2 hq2;have h4b:=K5.out.alloc (.cells #[.int .i64 k1,.slice A1 ws1.length c1,.int .i64 n1,.slice B1 xs1.length d1,.int .i64 k2,.slice A2 ws2.length c2,.int .i64 n2,.slice B2 xs2.length d2] 29);have hsb:Blk (w5.alloc (.cells #[.int .i64 k1,.slice A1 ws1.length c1,.int .i64 n1,.slice B1 xs1.length d1,.int .i64 k2,.slice A2 ws2.length c2,.int .i64 n2,.slice B2 xs2.length d2] 29)) w5.heap.size 29 (qV [.mk k1 A1 c1 ws1 n1 B1 d1 xs1,.mk k2 A2 c2 ws2 n2 B2 d2 xs2]).toArray:=Blk.new w5 29 #[.int .i64 k1,.slice A1 ws1.length c1,.int .i64 n1,.slice B1 xs1.length d1,.int .i64 k2,.slice A2 ws2.length c2,.int .i64 n2,.slice B2 xs2.length d2];have hSb:=hS5.alloc (.cells #[.int .i64 k1,.slice A1 ws1.length c1,.int .i64 n1,.slice B1 xs1.length d1,.int .i64 k2,.slice A2 ws2.length c2,.int .i64 n2,.slice B2 xs2.length d2] 29);have hpal:=pure_alloc w5 (.cells #[.int .i64 k1,.slice A1 ws1.length c1,.int .i64 n1,.slice B1 xs1.length d1,.int .i64 k2,.slice A2 ws2.length c2,.int .i64 n2,.slice B2 xs2.length d2] 29);have hMb:=HM5.out.trans (Mod.of_pure hpal);have h4F:=st4_blk (a:=.int .i64 kd) (b:=.slice none 0 0) (c:=.int .i64 nb) (d:=.slice (some ⟨w5.heap.size,0,none⟩) 2 2) h4b;have HMF:Hid (Mod (· = g4) (w5.alloc (.cells #[.int .i64 k1,.slice A1 ws1.length c1,.int .i64 n1,.slice B1 xs1.length d1,.int .i64 k2,.slice A2 ws2.length c2,.int .i64 n2,.slice B2 xs2.length d2] 29)) (((((w5.alloc (.cells #[.int .i64 k1,.slice A1 ws1.length c1,.int .i64 n1,.slice B1 xs1.length d1,.int .i64 k2,.slice A2 ws2.length c2,.int .i64 n2,.slice B2 xs2.length d2] 29)).setCell ⟨g4,0,none⟩ (.int .i64 kd)).setCell ⟨g4,1,none⟩ (.slice none 0 0)).setCell ⟨g4,2,none⟩ (.int .i64 nb)).setCell ⟨g4,3,none⟩ (.slice (some ⟨w5.heap.size,0,none⟩) 2 2))):=hd_ st4_mod;have HSF:=hd_ ((((hSb.setCell (p:=⟨g4,0,none⟩) (by show b<g4; omega) (.int .i64 kd)).setCell (p:=⟨g4,1,none⟩) (by show b<g4; omega) (.slice none 0 0)).setCell (p:=⟨g4,2,none⟩) (by show b<g4; omega) (.int .i64 nb)).setCell (p:=⟨g4,3,none⟩) (by show b<g4; omega) (.slice (some ⟨w5.heap.size,0,none⟩) 2 2));have HMM:=hd_ (mod_up hMb HMF.out hg4w)
    have hst:∀ g arr fr,(w5.alloc (.cells #[.int .i64 k1,.slice A1 ws1.length c1,.int .i64 n1,.slice B1 xs1.length d1,.int .i64 k2,.slice A2 ws2.length c2,.int .i64 n2,.slice B2 xs2.length d2] 29)).heap[g]? = some (.cells arr 9 fr)→¬ g=g4:=fun g arr fr hg he=>by
     subst he;have h:=h4b;unfold Blk at h;rw [hg] at h
     injection h with h
     injection h with _ h
     exact absurd h (by decide)
    have HQS:Hid (QS (((((w5.alloc (.cells #[.int .i64 k1,.slice A1 ws1.length c1,.int .i64 n1,.slice B1 xs1.length d1,.int .i64 k2,.slice A2 ws2.length c2,.int .i64 n2,.slice B2 xs2.length d2] 29)).setCell ⟨g4,0,none⟩ (.int .i64 kd)).setCell ⟨g4,1,none⟩ (.slice none 0 0)).setCell ⟨g4,2,none⟩ (.int .i64 nb)).setCell ⟨g4,3,none⟩ (.slice (some ⟨w5.heap.size,0,none⟩) 2 2)) (.mk kd none 0 [] nb (some ⟨w5.heap.size,0,none⟩) 2 [.mk k1 A1 c1 ws1 n1 B1 d1 xs1,.mk k2 A2 c2 ws2 n2 B2 d2 xs2])):=hd_ (qs_two (hsb.mod st4_mod (by show ¬ w5.heap.size=g4; omega)) ((HQ1.out.pure hpal).modF HF1.out st4_mod hst (fun g hg=>by show ¬ g=g4; omega)) ((HQ2.out.pure hpal).modF HF2.out st4_mod hst (fun g hg=>by show ¬ g=g4; omega)));have hh4:=h4b;obtain ⟨y0,y1,y2,y3,yf0,yf1,yf2,yf3⟩:=hh4.c4f;clear hh4;go_wp2_with fail;obtain ⟨x0,x1,x2,x3⟩:=h4F.c4
    try simp only [Exit.inBlock,Exit.then]
    refine bodyPost_ret (v:=.agg #[.int .i64 kd,.slice none 0 0,.int .i64 nb,.slice (some ⟨w5.heap.size,0,none⟩) 2 2]) (by simp [results,Tryz.results100,go_sem,x0,x1,x2,x3]) rfl ?_
    exact ⟨.mk kd none 0 [] nb (some ⟨w5.heap.size,0,none⟩) 2 [.mk k1 A1 c1 ws1 n1 B1 d1 xs1,.mk k2 A2 c2 ws2 n2 B2 d2 xs2],rfl,HQS.out,.mk (fun _=>⟨w5.heap.size,0,rfl,by omega⟩) (fun a ha=>by
     rcases List.mem_cons.1 ha with rfl | ha
     ·exact HF1.out.up (by omega)
     ·rcases List.mem_cons.1 ha with rfl | ha
      ·exact HF2.out.up (by omega)
      ·cases ha),(by rw [QR.key_mk]; exact qb_two (by omega) (by omega) HBq1.out HBq2.out),(by rw [QR.key_mk,qSize]; simp only [List.map_cons,List.map_nil,List.sum_cons,List.sum_nil]; omega),HSF.out.more (by omega),HMM.out,.mk (fun _ _ _ h=>by
     injection h with h
     injection h with _ _ h
     exact h.symm) (fun a ha=>by
     rcases List.mem_cons.1 ha with rfl | ha
     ·exact HZ1.out
     ·rcases List.mem_cons.1 ha with rfl | ha
      ·exact HZ2.out
      ·cases ha)⟩
end Go.Proofs.YtnfflgicngeekaaGreatDoor
/-
 DERIVED: THE SHELF's CONTRACTS AT THIS DUMP,IN PLAIN WORDS (tools/lay-plain.mjs out of 'YtnfflgicngeekaaGreatDoorLayVal.lean',which tools/lay-shelf.mjs wrote): THE SAME DECLARATIONS UNDER THE SAME NAMES: 'import','namespace','open','def','theorem' AND NOTHING ELSE: no command of the shelf's: FOR A HAND-IN. Each laying: the table of numbers ('.._ren') and one theorem,a field a fact of the dump's own or the kernel's comparison; each contract: ONE APPLICATION.
-/
namespace Go.Proofs
open Go.Shelf
def Tryz.lays196_ren:Go.Shelf.Ren:=⟨fun | 196=>158 | 259=>212 | n=>n,fun | 9=>9 | 4=>4 | 3=>3 | 5=>5 | 12=>12 | 119=>235 | 0=>0 | 46=>180 | 139=>238 | 138=>237 | 53=>224 | n=>n,fun | 3=>0 | 4=>1 | n=>n⟩
theorem Tryz.lays196:Go.Proofs.Lays.n196 Tryz.prog Tryz.lays196_ren:={
 mixed:=by kernel_rfl
 f196:=Tryz.func158.trans (congrArg some (by kernel_rfl))
 f259:=Tryz.func212.trans (congrArg some (by kernel_rfl))
 t0:=Tryz.underlying0
 a0:=Tryz.isAgg0
 z0:=Tryz.sizeOf0
 v0:=Tryz.zeroValue0
 t3:=Tryz.underlying3
 a3:=Tryz.isAgg3
 z3:=Tryz.sizeOf3
 v3:=Tryz.zeroValue3
 t4:=Tryz.underlying4
 a4:=Tryz.isAgg4
 z4:=Tryz.sizeOf4
 v4:=Tryz.zeroValue4
 t5:=Tryz.underlying5
 a5:=Tryz.isAgg5
 z5:=Tryz.sizeOf5
 v5:=Tryz.zeroValue5
 t9:=Tryz.underlying9
 a9:=Tryz.isAgg9
 z9:=Tryz.sizeOf9
 v9:=Tryz.zeroValue9
 t12:=Tryz.underlying12
 a12:=Tryz.isAgg12
 z12:=Tryz.sizeOf12
 v12:=Tryz.zeroValue12
 t46:=Tryz.underlying180
 a46:=Tryz.isAgg180
 z46:=Tryz.sizeOf180
 v46:=Tryz.zeroValue180
 t53:=Tryz.underlying224
 a53:=Tryz.isAgg224
 z53:=Tryz.sizeOf224
 v53:=Tryz.zeroValue224
 t119:=Tryz.underlying235
 a119:=Tryz.isAgg235
 z119:=Tryz.sizeOf235
 t138:=Tryz.underlying237
 a138:=Tryz.isAgg237
 z138:=Tryz.sizeOf237
 v138:=Tryz.zeroValue237
 t139:=Tryz.underlying238
 a139:=Tryz.isAgg238
 z139:=Tryz.sizeOf238
 v139:=Tryz.zeroValue238
 g3:=by kernel_rfl
 g4:=by kernel_rfl }
end Go.Proofs
/-
 DERIVED: THE SHELF's CONTRACTS AT THIS DUMP,IN PLAIN WORDS (tools/lay-plain.mjs out of 'YtnfflgicngeekaaGreatDoorLayCon.lean',which tools/lay-shelf.mjs wrote): THE SAME DECLARATIONS UNDER THE SAME NAMES: 'import','namespace','open','def','theorem' AND NOTHING ELSE: no command of the shelf's: FOR A HAND-IN. Each laying: the table of numbers ('.._ren') and one theorem,a field a fact of the dump's own or the kernel's comparison; each contract: ONE APPLICATION.
-/
namespace Go.Proofs
open Go.Shelf
def Tryz.lays144_ren:Go.Shelf.Ren:=⟨fun | 144=>160 | 143=>220 | 219=>257 | 217=>238 | 225=>260 | 224=>259 | 267=>282 | 266=>270 | 314=>303 | n=>n,fun | 9=>9 | 4=>4 | 3=>3 | 5=>5 | 46=>180 | 146=>222 | 51=>221 | n=>n,fun | 1=>3 | n=>n⟩
theorem Tryz.lays144:Go.Proofs.Lays.n144 Tryz.prog Tryz.lays144_ren:={
 mixed:=by kernel_rfl
 f143:=Tryz.func220.trans (congrArg some (by kernel_rfl))
 f144:=Tryz.func160.trans (congrArg some (by kernel_rfl))
 f217:=Tryz.func238.trans (congrArg some (by kernel_rfl))
 f219:=Tryz.func257.trans (congrArg some (by kernel_rfl))
 f224:=Tryz.func259.trans (congrArg some (by kernel_rfl))
 f225:=Tryz.func260.trans (congrArg some (by kernel_rfl))
 f266:=Tryz.func270.trans (congrArg some (by kernel_rfl))
 f267:=Tryz.func282.trans (congrArg some (by kernel_rfl))
 f314:=Tryz.func303.trans (congrArg some (by kernel_rfl))
 t3:=Tryz.underlying3
 a3:=Tryz.isAgg3
 z3:=Tryz.sizeOf3
 v3:=Tryz.zeroValue3
 t4:=Tryz.underlying4
 a4:=Tryz.isAgg4
 z4:=Tryz.sizeOf4
 v4:=Tryz.zeroValue4
 t5:=Tryz.underlying5
 a5:=Tryz.isAgg5
 z5:=Tryz.sizeOf5
 v5:=Tryz.zeroValue5
 t9:=Tryz.underlying9
 a9:=Tryz.isAgg9
 z9:=Tryz.sizeOf9
 v9:=Tryz.zeroValue9
 t46:=Tryz.underlying180
 a46:=Tryz.isAgg180
 z46:=Tryz.sizeOf180
 v46:=Tryz.zeroValue180
 t51:=Tryz.underlying221
 a51:=Tryz.isAgg221
 z51:=Tryz.sizeOf221
 v51:=Tryz.zeroValue221
 t146:=Tryz.underlying222
 a146:=Tryz.isAgg222
 z146:=Tryz.sizeOf222
 v146:=Tryz.zeroValue222
 g1:=by kernel_rfl }
def Tryz.lays100_ren:Go.Shelf.Ren:=⟨fun | 100=>203 | 207=>246 | n=>n,fun | 9=>9 | 4=>4 | 3=>3 | n=>n,fun | n=>n⟩
theorem Tryz.lays100:Go.Proofs.Lays.n100 Tryz.prog Tryz.lays100_ren:={
 mixed:=by kernel_rfl
 f100:=Tryz.func203.trans (congrArg some (by kernel_rfl))
 f207:=Tryz.func246.trans (congrArg some (by kernel_rfl))
 t3:=Tryz.underlying3
 a3:=Tryz.isAgg3
 z3:=Tryz.sizeOf3
 v3:=Tryz.zeroValue3
 t4:=Tryz.underlying4
 a4:=Tryz.isAgg4
 z4:=Tryz.sizeOf4
 v4:=Tryz.zeroValue4
 t9:=Tryz.underlying9
 a9:=Tryz.isAgg9
 z9:=Tryz.sizeOf9
 v9:=Tryz.zeroValue9 }
def Tryz.layc99_ren:Go.Shelf.Ren:=⟨fun | 99=>144 | 206=>201 | n=>n,fun | 9=>9 | 4=>4 | 3=>3 | n=>n,fun | n=>n⟩
theorem Tryz.layc99:Go.Proofs.Lays.n99 Tryz.prog Tryz.layc99_ren:={
 mixed:=by kernel_rfl
 f99:=Tryz.func144.trans (congrArg some (by kernel_rfl))
 f206:=Tryz.func201.trans (congrArg some (by kernel_rfl))
 t3:=Tryz.underlying3
 a3:=Tryz.isAgg3
 z3:=Tryz.sizeOf3
 v3:=Tryz.zeroValue3
 t4:=Tryz.underlying4
 a4:=Tryz.isAgg4
 z4:=Tryz.sizeOf4
 v4:=Tryz.zeroValue4
 t9:=Tryz.underlying9
 a9:=Tryz.isAgg9
 z9:=Tryz.sizeOf9
 v9:=Tryz.zeroValue9 }
end Go.Proofs
namespace Go.Proofs.YtnfflgicngeekaaGreatDoor
open Go.RowKit
def Utf (w:World):Prop:=Lib.Utf8Tabs 0 1 w
def Mln (w:World):Prop:=∃ m:Int,w.cell? ⟨3,0,none⟩=some (.int .i64 m)
def Env (w:World):Prop:=Utf w∧Mln w
theorem Utf.pure {w w':World} (h:Utf w) (hm:Pure w w'):Utf w':=Utf8Tabs_below h hm.below
theorem Mln.pure {w w':World} (h:Mln w) (hm:Pure w w'):Mln w':=by
 obtain ⟨m,h⟩:=h;exact ⟨m,hm.keep h id⟩
theorem Env.pure {w w':World} (h:Env w) (hm:Pure w w'):Env w':=⟨h.1.pure hm,h.2.pure hm⟩
theorem Env.alloc {w:World} (h:Env w) (o:Obj):Env (w.alloc o):=h.pure ((Mod.refl _ _).alloc o)
theorem Pure.same (w:World):Pure w w:=Mod.refl _ _
theorem valid_calls (w:World) (s:ByteArray) (hs:s.size≤1000000) (hU:Utf w):Calls Tryz.prog 158 #[.string s] w (BoolPost w (Lib.validD s.data.toList)):=by
 refine (Any.utf8_ValidString Tryz.lays196 s w (by omega) hU).mono ?_;rintro e w' ⟨rfl,h⟩;exact ⟨rfl,Mod.of_below h⟩
theorem contains_calls (w:World) (s t:ByteArray) (hs:s.size≤1000000) (hM:Mln w):Calls Tryz.prog 160 #[.string s,.string t] w (BoolSame w (Lib.contains s.data.toList t.data.toList)):=by
 obtain ⟨m,hm⟩:=hM;refine (Any.strings_Contains Tryz.lays144 s t m w (by omega) hm).mono ?_;rintro e w' ⟨rfl,h⟩;exact ⟨rfl,h.symm⟩
theorem suffix_calls (w:World) (s t:ByteArray) (hs:s.size≤1000000):Calls Tryz.prog 203 #[.string s,.string t] w (BoolSame w (Lib.hasSuffix s.data.toList t.data.toList)):=by
 refine (Any.strings_HasSuffix Tryz.lays100 s t w (by omega)).mono ?_;rintro e w' ⟨rfl,h⟩;exact ⟨rfl,h.symm⟩
theorem pfx_calls (w:World) (s t:ByteArray):Calls Tryz.prog 144 #[.string s,.string t] w (BoolSame w (Lib.hasPrefix s.data.toList t.data.toList)):=by
 refine (Any.strings_HasPrefix Tryz.layc99 s t w).mono ?_;rintro e w' ⟨rfl,h⟩;exact ⟨rfl,h.symm⟩
theorem visB_false (f:Bool) (l:Str) (k:Nat) (h:k<l.length) (hk:visC f l[k].toNat=false):visB f l=false:=by
 unfold visB;rw [List.all_eq_false];exact ⟨l[k],List.getElem_mem h,by simp [hk]⟩
theorem visible_calls (w:World) (s:ByteArray) (f:Bool) (hs:s.size≤1000000) (hU:Utf w):Calls Tryz.prog 202 #[.string s,.bool f] w (BoolPost w (visB f s.data.toList && Lib.validD s.data.toList)):=by
 have hls:s.data.toList.length=s.size:=(by simp);have HLS:=hd_ hls;have HV:=hd_ (valid_calls w s hs hU);clear hls hU
 go_enter Tryz.func202,Tryz.ntmps202
 go_wp2_with fail
 go_loopg [9] s.size (fun gk i wr=>∃ k:Nat,s.size - k=gk∧k≤s.size∧i = .int .i64 (k:Int)∧visB f (s.data.toList.take k)=true∧w=wr)
 case atStart=>exact ⟨0,by omega,by omega,rfl,rfl,rfl⟩
 case round =>
  obtain ⟨k,rfl,hk,rfl,hall,rfl⟩:=hrel;have HA:=hd_ hall;clear hall
  by_cases hlt:k<s.size
  ·have hl:k<s.data.toList.length:=by rw [HLS.out]; exact hlt
   have hsn:=visB_snoc f s.data.toList k hl;have hfa:=visB_false f s.data.toList k hl
   have hidx:s.data.toList[k]=s[k]:=by simp; rfl
   rw [hidx] at hsn hfa;have NO:Hid (visC f s[k].toNat=false→(visB f s.data.toList && Lib.validD s.data.toList)=false):=hd_ (fun h=>by rw [hfa h]; rfl);have OK:Hid (visC f s[k].toNat=true→visB f (s.data.toList.take (k+1))=true):=hd_ (fun h=>by rw [hsn,HA.out,h]; rfl);clear hsn hfa hidx HV;generalize (visB f s.data.toList && Lib.validD s.data.toList)=ans at *;generalize hc:s[k].toNat=c at *
   by_cases h1:(c:Int)<32
   ·have h3:((c:Int) == 127)=false:=by simp; omega
    by_cases h2:c=10
    ·subst h2
     cases f
     ·go_wp2_with fail;go_ret;exact BoolPost.of (NO.out (by decide)) (Mod.refl _ _)
     ·go_wp2_with fail
      go_roundg (s.size - (k+1))
      case measure=>omega
      case rel=>exact ⟨k+1,rfl,hlt,by simp,OK.out (by decide),rfl⟩
    ·have h2':((c:Int) == 10)=false:=by simp; omega
     have hx:visC f c=false:=by
      unfold visC;rw [decide_eq_true (by omega:c<32),show (c == 10)=false by simpa using h2];simp
     cases f
     all_goals
      go_wp2_with fail;go_ret;exact BoolPost.of (NO.out hx) (Mod.refl _ _)
   ·by_cases h2:c=127
    ·subst h2
     have hx:visC f 127=false:=by cases f <;> decide
     go_wp2_with fail;go_ret;exact BoolPost.of (NO.out hx) (Mod.refl _ _)
    ·have h2':((c:Int) == 127)=false:=by simp; omega
     have hx:visC f c=true:=by
      unfold visC;rw [decide_eq_false (by omega:¬ c<32),show (c == 127)=false by simpa using h2];simp
     go_wp2_with fail
     go_roundg (s.size - (k+1))
     case measure=>omega
     case rel=>exact ⟨k+1,rfl,hlt,by simp,OK.out hx,rfl⟩
  ·have hke:k=s.size:=(by omega);subst hke
   have hall:visB f s.data.toList=true:=by
    have:=HA.out
    rwa [List.take_of_length_le (by rw [HLS.out]; omega)] at this
   go_wp2_with fail;refine HV.out.mono ?_;rintro e w1 ⟨rfl,hm⟩;have HX:Hid ((visB f s.data.toList && Lib.validD s.data.toList)=Lib.validD s.data.toList):=hd_ (by rw [hall]; rfl);clear hall HV HA;generalize Lib.validD s.data.toList=v at *;go_wp2_with fail;go_ret;exact BoolPost.of HX.out hm
theorem plain_calls (w:World) (s:ByteArray) (hs:s.size≤1000000) (hE:Env w):Calls Tryz.prog 147 #[.string s] w (BoolPost w (plainB s.data.toList)):=by
 have HV:=hd_ (visible_calls w s false hs hE.1);have HP:=hd_ (fun W=>pfx_calls W s ⟨#[32]⟩);have HS:=hd_ (fun W=>suffix_calls W s ⟨#[32]⟩ hs);have HC:=hd_ (fun W (h:Pure w W)=>contains_calls W s ⟨#[32,32]⟩ hs (hE.2.pure h));have HX:Hid (plainB s.data.toList=(((visB false s.data.toList && Lib.validD s.data.toList) && !Lib.hasPrefix s.data.toList [32]) && !Lib.hasSuffix s.data.toList [32] && !Lib.contains s.data.toList [32,32])):=hd_ (by unfold plainB; simp only [Bool.and_assoc]);clear hE
 go_enter Tryz.func147,Tryz.ntmps147
 go_wp2_with fail;refine HV.out.mono ?_;rintro e w1 ⟨rfl,hm⟩;generalize (visB false s.data.toList && Lib.validD s.data.toList)=v at *
 cases v
 ·go_wp2_with fail;go_ret;exact BoolPost.of (by rw [HX.out]; rfl) hm
 ·go_wp2_with fail;refine (HP.out _).mono ?_;rintro e w' ⟨rfl,rfl⟩;generalize Lib.hasPrefix s.data.toList [32]=p at *
  cases p
  ·go_wp2_with fail;refine (HS.out _).mono ?_;rintro e w' ⟨rfl,rfl⟩;generalize Lib.hasSuffix s.data.toList [32]=q at *
   cases q
   ·go_wp2_with fail;refine (HC.out _ hm).mono ?_;rintro e w' ⟨rfl,rfl⟩;generalize Lib.contains s.data.toList [32,32]=r at *;go_wp2_with fail;go_ret;exact BoolPost.of (by rw [HX.out]; rfl) hm
   ·go_wp2_with fail;go_ret;exact BoolPost.of (by rw [HX.out]; rfl) hm
  ·go_wp2_with fail;go_ret;exact BoolPost.of (by rw [HX.out]; rfl) hm
theorem text_calls (w:World) (l:Str) (hs:l.length≤1000000) (hE:Env w):Calls Tryz.prog 148 #[.string ⟨l.toArray⟩] w (BoolPost w (textB l)):=by
 have hsz:(⟨l.toArray⟩:ByteArray).size≤1000000:=by simpa [ByteArray.size] using hs
 have HV:=hd_ (visible_calls w ⟨l.toArray⟩ true hsz hE.1);have HS:=hd_ (fun W=>suffix_calls W ⟨l.toArray⟩ ⟨#[10]⟩ hsz);have HX:Hid (textB l=((visB true l && Lib.validD l) && (l.isEmpty || Lib.hasSuffix l [10]))):=hd_ (by unfold textB; simp only [Bool.and_assoc]);clear hE hsz
 go_enter Tryz.func148,Tryz.ntmps148
 go_wp2_with fail;refine HV.out.mono ?_;rintro e w1 ⟨rfl,hm⟩;generalize (visB true l && Lib.validD l)=v at *
 cases v
 ·go_wp2_with fail;go_ret;exact BoolPost.of (by rw [HX.out]; rfl) hm
 ·cases he:l.isEmpty
  ·go_wp2_with fail;refine (HS.out _).mono ?_;rintro e w' ⟨rfl,rfl⟩;generalize Lib.hasSuffix l [10]=r at *;go_wp2_with fail;go_ret;exact BoolPost.of (by rw [HX.out,he]; rfl) hm
  ·go_wp2_with fail;go_ret;exact BoolPost.of (by rw [HX.out,he]; rfl) hm
theorem trim32_calls (w:World) (l:Str) (hs:l.length≤1000000):Calls Tryz.prog 159 #[.string ⟨l.toArray⟩,.string ⟨#[32]⟩] w (fun e w'=>e = .returned (.string ⟨(Lib.trimS l [32]).toArray⟩)∧Pure w w'):=by
 have hsz:(⟨l.toArray⟩:ByteArray).size≤1000000:=by simpa [ByteArray.size] using hs
 have hcon:=Any.strings_Trim_laid Tryz.lays160 (by kernel_rfl) ⟨l.toArray⟩ ⟨#[32]⟩ w (by omega) (by simp [ByteArray.size]) (ascii_of_all (by decide));refine hcon.mono ?_;rintro e w' ⟨rfl,h⟩;exact ⟨rfl,Mod.of_below h⟩
theorem rplain_calls (w:World) (l:Str) (hs:l.length≤1000000) (hE:Env w):Calls Tryz.prog 89 #[.string ⟨l.toArray⟩] w (BoolPost w (plainB l)):=by
 have hsz:(⟨l.toArray⟩:ByteArray).size≤1000000:=by simpa [ByteArray.size] using hs
 have HLS:Hid (l.length=(⟨l.toArray⟩:ByteArray).size):=hd_ (by simp [ByteArray.size]);have HV:=hd_ (valid_calls w ⟨l.toArray⟩ hsz hE.1);have HT:=hd_ (fun W=>trim32_calls W l hs);have HC:=hd_ (fun W (h:Pure w W)=>contains_calls W ⟨l.toArray⟩ ⟨#[32,32]⟩ hsz (hE.2.pure h));have HTS:=hd_ (trim_self l);have HX:Hid (plainB l=(visB false l && (Lib.validD l && (!Lib.hasPrefix l [32] && (!Lib.hasSuffix l [32] && !Lib.contains l [32,32]))))):=hd_ rfl;clear hE hs;generalize hp:plainB l=pl at *;clear hp;obtain ⟨s,hsd⟩:∃ s:ByteArray,s=⟨l.toArray⟩:=⟨_,rfl⟩;have HSD:=hd_ hsd;rw [← hsd] at hsz HLS HV HT HC ⊢;have HIX:Hid (∀ k (h:k<l.length) (h2:k<s.size),l[k]=s[k]):=hd_ (fun k h h2=>by subst hsd; rfl);clear hsd
 go_enter Tryz.func89,Tryz.ntmps89
 go_wp2_with fail
 go_loopg [6] s.size (fun gk i wr=>∃ k:Nat,s.size - k=gk∧k≤s.size∧i = .int .i64 (k:Int)∧visB false (l.take k)=true∧w=wr)
 case atStart=>exact ⟨0,by omega,by omega,rfl,rfl,rfl⟩
 case round =>
  obtain ⟨k,rfl,hk,rfl,hall,rfl⟩:=hrel;have HA:=hd_ hall;clear hall
  by_cases hlt:k<s.size
  ·have hl:k<l.length:=by rw [HLS.out]; exact hlt
   have hsn:=visB_snoc false l k hl;have hfa:=visB_false false l k hl;rw [HIX.out k hl hlt] at hsn hfa;have NO:Hid (visC false s[k].toNat=false→pl=false):=hd_ (fun h=>by rw [HX.out,hfa h]; rfl);have OK:Hid (visC false s[k].toNat=true→visB false (l.take (k+1))=true):=hd_ (fun h=>by rw [hsn,HA.out,h]; rfl);clear hsn hfa HX HA HV HT HC HTS HIX HSD;generalize hc:s[k].toNat=c at *
   by_cases h1:(c:Int)<32
   ·have hx:visC false c=false:=by
     unfold visC;rw [decide_eq_true (by omega:c<32)];simp
    go_wp2_with fail;go_ret;exact BoolPost.of (NO.out hx) (Mod.refl _ _)
   ·by_cases h2:c=127
    ·subst h2;go_wp2_with fail;go_ret;exact BoolPost.of (NO.out (by decide)) (Mod.refl _ _)
    ·have h2':((c:Int) == 127)=false:=by simp; omega
     have hx:visC false c=true:=by
      unfold visC;rw [decide_eq_false (by omega:¬ c<32),show (c == 127)=false by simpa using h2];simp
     go_wp2_with fail
     go_roundg (s.size - (k+1))
     case measure=>omega
     case rel=>exact ⟨k+1,rfl,hlt,by simp,OK.out hx,rfl⟩
  ·have hke:k=s.size:=(by omega);subst hke
   have hall:visB false l=true:=by
    have:=HA.out
    rwa [List.take_of_length_le (by rw [HLS.out]; omega)] at this
   have HX2:Hid (pl=(Lib.validD l && (!Lib.hasPrefix l [32] && (!Lib.hasSuffix l [32] && !Lib.contains l [32,32])))):=hd_ (by rw [HX.out,hall]; rfl);have HSL:Hid (s.data.toList=l):=hd_ (by rw [HSD.out]);rw [HSL.out] at HV HC;clear hall HX HA HIX HLS;go_wp2_with fail;refine HV.out.mono ?_;rintro e w1 ⟨rfl,hm⟩;generalize Lib.validD l=v at *
   cases v
   ·clear HSD HV HT HC HTS;go_wp2_with fail;go_ret;exact BoolPost.of (by rw [HX2.out]; rfl) hm
   ·have hs0:=HSD.out;clear HSD HSL;subst hs0;go_wp2_with fail;refine (HT.out _).mono ?_;rintro e w2 ⟨rfl,hm2⟩;have m2:=hm.trans hm2;generalize Lib.trimS l [32]=r at *
    cases hq:(r == l)
    ·have hne:¬ (Lib.hasPrefix l [32]=false∧Lib.hasSuffix l [32]=false):=fun h=>by
      have:=HTS.out.2 h;rw [this] at hq;simp at hq
     have hpl:pl=false:=by
      rw [HX2.out]
      cases h1:Lib.hasPrefix l [32]
      ·cases h2:Lib.hasSuffix l [32]
       ·exact absurd ⟨h1,h2⟩ hne
       ·simp
      ·simp
     clear HX2 HTS HT HC hm hm2 hne;go_wp2_with fail;go_ret;exact BoolPost.of hpl m2
    ·obtain ⟨h1,h2⟩:=HTS.out.1 (eq_of_beq hq);have HP:Hid (pl = !Lib.contains l [32,32]):=hd_ (by rw [HX2.out,h1,h2]; simp);clear HX2 HTS HT hm hm2 h1 h2;go_wp2_with fail;refine (HC.out _ m2).mono ?_;rintro e w3 ⟨rfl,rfl⟩;generalize Lib.contains l [32,32]=cc at *;go_wp2_with fail;go_ret;exact BoolPost.of HP.out m2
theorem text_last {l:Str} (h:0<l.length):Lib.hasSuffix l [10]=(l[l.length - 1].toNat == 10):=by
 obtain ⟨a,x,rfl⟩:∃ a x,l=a ++ [x]:=⟨l.dropLast,l.getLast (by intro e; simp [e] at h),(List.dropLast_concat_getLast _).symm⟩;have e:(a ++ [x])[(a ++ [x]).length - 1]=x:=(by simp);rw [e];unfold Lib.hasSuffix List.isSuffixOf;simp only [List.reverse_append,List.reverse_cons,List.reverse_nil,List.nil_append,List.cons_append,List.isPrefixOf,Bool.and_true]
 exact Bool.eq_iff_iff.2 ⟨fun h=>by have:=eq_of_beq h; subst this; rfl,fun h=>by
  have h1:x.toNat=10:=eq_of_beq h;have h2:x=10:=UInt8.toNat_inj.1 (by rw [h1]; rfl);rw [h2]
  rfl⟩
theorem isText_calls (w:World) (l:Str) (hs:l.length≤1000000) (hE:Env w):Calls Tryz.prog 90 #[.string ⟨l.toArray⟩] w (BoolPost w (textB l)):=by
 have hsz:(⟨l.toArray⟩:ByteArray).size≤1000000:=by simpa [ByteArray.size] using hs
 have HLS:Hid (l.length=(⟨l.toArray⟩:ByteArray).size):=hd_ (by simp [ByteArray.size]);have HV:=hd_ (valid_calls w ⟨l.toArray⟩ hsz hE.1);have HTL:=hd_ (fun h=>text_last (l:=l) h);have HX:Hid (textB l=(visB true l && (Lib.validD l && (l.isEmpty || Lib.hasSuffix l [10])))):=hd_ rfl;clear hE hs;generalize hp:textB l=pl at *;clear hp;obtain ⟨s,hsd⟩:∃ s:ByteArray,s=⟨l.toArray⟩:=⟨_,rfl⟩;have HSD:=hd_ hsd;rw [← hsd] at hsz HLS HV ⊢;have HIX:Hid (∀ k (h:k<l.length) (h2:k<s.size),l[k]=s[k]):=hd_ (fun k h h2=>by subst hsd; rfl);clear hsd
 go_enter Tryz.func90,Tryz.ntmps90
 go_wp2_with fail
 go_loopg [6] s.size (fun gk i wr=>∃ k:Nat,s.size - k=gk∧k≤s.size∧i = .int .i64 (k:Int)∧visB true (l.take k)=true∧w=wr)
 case atStart=>exact ⟨0,by omega,by omega,rfl,rfl,rfl⟩
 case round =>
  obtain ⟨k,rfl,hk,rfl,hall,rfl⟩:=hrel;have HA:=hd_ hall;clear hall
  by_cases hlt:k<s.size
  ·have hl:k<l.length:=by rw [HLS.out]; exact hlt
   have hsn:=visB_snoc true l k hl;have hfa:=visB_false true l k hl;rw [HIX.out k hl hlt] at hsn hfa;have NO:Hid (visC true s[k].toNat=false→pl=false):=hd_ (fun h=>by rw [HX.out,hfa h]; rfl);have OK:Hid (visC true s[k].toNat=true→visB true (l.take (k+1))=true):=hd_ (fun h=>by rw [hsn,HA.out,h]; rfl);clear hsn hfa HX HA HV HTL HIX HSD;generalize hc:s[k].toNat=c at *
   by_cases h1:(c:Int)<32
   ·have h3:((c:Int) == 127)=false:=by simp; omega
    by_cases h2:c=10
    ·subst h2;go_wp2_with fail
     go_roundg (s.size - (k+1))
     case measure=>omega
     case rel=>exact ⟨k+1,rfl,hlt,by simp,OK.out (by decide),rfl⟩
    ·have h2':((c:Int) != 10)=true:=by simp; omega
     have hx:visC true c=false:=by
      unfold visC;rw [decide_eq_true (by omega:c<32),show (c == 10)=false by simpa using h2];simp
     go_wp2_with fail;go_ret;exact BoolPost.of (NO.out hx) (Mod.refl _ _)
   ·by_cases h2:c=127
    ·subst h2;go_wp2_with fail;go_ret;exact BoolPost.of (NO.out (by decide)) (Mod.refl _ _)
    ·have h2':((c:Int) == 127)=false:=by simp; omega
     have hx:visC true c=true:=by
      unfold visC;rw [decide_eq_false (by omega:¬ c<32),show (c == 127)=false by simpa using h2];simp
     go_wp2_with fail
     go_roundg (s.size - (k+1))
     case measure=>omega
     case rel=>exact ⟨k+1,rfl,hlt,by simp,OK.out hx,rfl⟩
  ·have hke:k=s.size:=(by omega);subst hke
   have hall:visB true l=true:=by
    have:=HA.out
    rwa [List.take_of_length_le (by rw [HLS.out]; omega)] at this
   have HX2:Hid (pl=(Lib.validD l && (l.isEmpty || Lib.hasSuffix l [10]))):=hd_ (by rw [HX.out,hall]; rfl);have HSL:Hid (s.data.toList=l):=hd_ (by rw [HSD.out]);rw [HSL.out] at HV;clear hall HX HA;go_wp2_with fail;refine HV.out.mono ?_;rintro e w1 ⟨rfl,hm⟩;generalize Lib.validD l=v at *
   cases v
   ·clear HSD HV HTL;go_wp2_with fail;go_ret;exact BoolPost.of (by rw [HX2.out]; rfl) hm
   ·have hse:s.toList.isEmpty=l.isEmpty:=by rw [ByteArray.toList_eq,HSL.out]
    cases he:l.isEmpty
    ·rw [he] at hse
     have hl0:0<l.length:=by
      cases l with
      | nil=>cases he
      | cons a t=>simp
     have hs0:0<s.size:=by rw [← HLS.out]; exact hl0
     have htl:=HTL.out hl0;have hix:=HIX.out (l.length - 1) (by omega) (by rw [← HLS.out]; omega)
     have hidx:s[s.size - 1].toNat=l[l.length - 1].toNat:=by
      rw [hix]
      congr 2
      rw [HLS.out]
     have HP:Hid (pl=(s[s.size - 1].toNat == 10)):=hd_ (by rw [HX2.out,he,htl,hidx]; simp);have i1:(0:Int)≤(s.size:Int) - 1:=(by omega);have i2:(s.size:Int) - 1<(s.size:Int):=(by omega);have hcast:((s.size:Int) - 1)=((s.size - 1:Nat):Int):=(by omega);clear HX2 HTL HIX htl hix hidx HSD HV HSL he;go_wp2_with fail;go_ret;exact BoolPost.of (by rw [HP.out]; exact Bool.eq_iff_iff.2 (by simp; omega)) hm
    ·rw [he] at hse;clear HSD HV HTL;go_wp2_with fail;go_ret;exact BoolPost.of (by rw [HX2.out,he]; rfl) hm
def ItL (x:Itm):Prop:=x.id.length≤300000∧x.cust.length≤300000∧x.name.length≤300000∧x.par.length≤300000∧x.text.length≤300000
theorem ItB.l {x:Itm} (h:ItB x):ItL x:=by
 obtain ⟨a,b,c,d,e⟩:=h;exact ⟨by omega,by omega,by omega,by omega,by omega⟩
theorem keyB_le {l:Str} (h:keyB l=true):l.length≤40:=by
 unfold keyB at h;simp only [Bool.and_eq_true,decide_eq_true_eq] at h;exact h.1.1.2
theorem itemE_B {x:Itm} (h:itemE x=0):ItB x:=by
 unfold itemE at h
 split at h
 ·omega
 rename_i h1
 split at h
 ·omega
 split at h
 ·omega
 rename_i h3
 split at h
 ·omega
 split at h
 ·omega
 split at h
 ·omega
 rename_i h6
 split at h
 ·omega
 split at h
 ·omega
 rename_i h8
 simp only [Bool.not_eq_true',Bool.not_eq_false,Bool.and_eq_true,Bool.not_eq_true,Bool.not_eq_false'] at h1;have k1:=keyB_le h1.1;have k2:=keyB_le h1.2;refine ⟨by omega,by omega,by omega,?_,by omega⟩
 by_cases hp:x.par=[]
 ·rw [hp]; simp
 ·have:keyB x.par=true:=by simpa [hp] using h6
  have:=keyB_le this
  omega
theorem key_any (W:World) (l:Str) (h:l.length≤1000000):Calls Tryz.prog 63 #[.string ⟨l.toArray⟩] W (BoolPost W (keyB l)):=by
 refine (key_calls W ⟨l.toArray⟩ (by simpa [ByteArray.size] using h)).mono ?_;rintro e w' ⟨rfl,rfl⟩;exact ⟨rfl,Mod.refl _ _⟩
theorem rkey_any (W:World) (l:Str) (h:l.length≤1000000):Calls Tryz.prog 68 #[.string ⟨l.toArray⟩] W (BoolPost W (keyB l)) :=
 rkey_calls W ⟨l.toArray⟩ (by simpa [ByteArray.size] using h)
theorem plain_any (W:World) (l:Str) (h:l.length≤1000000) (hE:Env W):Calls Tryz.prog 147 #[.string ⟨l.toArray⟩] W (BoolPost W (plainB l)) :=
 plain_calls W ⟨l.toArray⟩ (by simpa [ByteArray.size] using h) hE
theorem rplain_any (W:World) (l:Str) (h:l.length≤1000000) (hE:Env W):Calls Tryz.prog 89 #[.string ⟨l.toArray⟩] W (BoolPost W (plainB l)):=rplain_calls W l h hE
theorem text_any (W:World) (l:Str) (h:l.length≤1000000) (hE:Env W):Calls Tryz.prog 148 #[.string ⟨l.toArray⟩] W (BoolPost W (textB l)):=text_calls W l h hE
theorem rtext_any (W:World) (l:Str) (h:l.length≤1000000) (hE:Env W):Calls Tryz.prog 90 #[.string ⟨l.toArray⟩] W (BoolPost W (textB l)):=isText_calls W l h hE
theorem moment_calls (n:Int) (w:World):Calls Tryz.prog 64 #[.int .i64 n] w (BoolSame w (inB n 0 5761439)):=by
 go_enter Tryz.func64,Tryz.ntmps64
 go_wp2_with fail;refine (in_calls _ _ _ _).mono ?_;rintro e w' ⟨rfl,rfl⟩;go_wp2_with fail;go_ret;exact BoolSame.of rfl
theorem rmoment_calls (n:Int) (w:World):Calls Tryz.prog 69 #[.int .i64 n,.int .i64 0,.int .i64 5761439] w (BoolSame w (inB n 0 5761439)):=rin_calls _ _ _ _
def kwS (n:Int):Str:=if n=1 then [109,97,105,108] else if n=2 then [102,105,108,101] else if n=3 then [98,111,120] else if n=4 then [110,111,116,101] else []
theorem kwS_empty (n:Int):(kwS n).isEmpty = !inB n 1 4:=by
 unfold kwS inB
 by_cases h1:n=1
 ·subst h1; rfl
 by_cases h2:n=2
 ·subst h2; rfl
 by_cases h3:n=3
 ·subst h3; rfl
 by_cases h4:n=4
 ·subst h4; rfl
 rw [if_neg h1,if_neg h2,if_neg h3,if_neg h4,decide_eq_false (by omega)]
 rfl
theorem kindWord_calls (n:Int) (w:World):Calls Tryz.prog 146 #[.int .i64 n] w (fun e w'=>e = .returned (.string ⟨(kwS n).toArray⟩)∧w=w'):=by
 by_cases h1:n=1
 ·subst h1
  go_enter Tryz.func146,Tryz.ntmps146
  go_wp2_with fail;go_ret;exact ⟨rfl,rfl⟩
 by_cases h2:n=2
 ·subst h2
  go_enter Tryz.func146,Tryz.ntmps146
  go_wp2_with fail;go_ret;exact ⟨rfl,rfl⟩
 by_cases h3:n=3
 ·subst h3
  go_enter Tryz.func146,Tryz.ntmps146
  go_wp2_with fail;go_ret;exact ⟨rfl,rfl⟩
 by_cases h4:n=4
 ·subst h4
  go_enter Tryz.func146,Tryz.ntmps146
  go_wp2_with fail;go_ret;exact ⟨rfl,rfl⟩
 have g1:(n == 1)=false:=(by simpa using h1);have g2:(n == 2)=false:=(by simpa using h2);have g3:(n == 3)=false:=(by simpa using h3);have g4:(n == 4)=false:=(by simpa using h4)
 go_enter Tryz.func146,Tryz.ntmps146
 go_wp2_with fail;go_ret;exact ⟨by unfold kwS; rw [if_neg h1,if_neg h2,if_neg h3,if_neg h4]; rfl,rfl⟩
theorem checkItemL_calls (w:World) (x:Itm) (hz:ItL x) (hE:Env w):Calls Tryz.prog 84 #[itA x] w (IntPost w (itemE x)):=by
 obtain ⟨id,cust,kind,name,tm,par,text⟩:=x;obtain ⟨z1,z2,z3,z4,z5⟩:=hz;simp only at z1 z2 z3 z4 z5;have HK1:=hd_ (fun W=>key_any W id (by omega));have HK2:=hd_ (fun W=>key_any W cust (by omega));have HK3:=hd_ (fun W=>key_any W par (by omega));have HPL:=hd_ (fun W (h:Pure w W)=>plain_any W name (by omega) (hE.pure h));have HTX:=hd_ (fun W (h:Pure w W)=>text_any W text (by omega) (hE.pure h))
 have HIE:Hid (itemE ⟨id,cust,kind,name,tm,par,text⟩=if !(keyB id && keyB cust) then 5 else if !inB kind 1 4 then 4 else if 120<name.length then 2 else if !plainB name then 3 else if !inB tm 0 5761439 then 1 else
  if !par.isEmpty && !keyB par then 5 else if par=id then 14 else if 20000<text.length then 2 else if !textB text then 3 else 0):=hd_ (by unfold itemE; rw [show decide (par≠[]) = !par.isEmpty by cases par <;> simp])
 generalize hie:itemE ⟨id,cust,kind,name,tm,par,text⟩=ie at *;have HKN:Hid (keyB id=true→id.isEmpty=false):=hd_ (fun h=>by cases id <;> first | rfl | cases h);generalize keyB id=k1 at *;generalize keyB cust=k2 at *;generalize keyB par=k3 at *;generalize plainB name=pl at *;generalize textB text=tx at *;clear hie hE z1 z2 z3 z4 z5;have B0:=Blk.new w 62 (itQ ⟨id,cust,kind,name,tm,par,text⟩);have m0:Pure w (w.alloc (.cells (itQ ⟨id,cust,kind,name,tm,par,text⟩) 62)):=pure_alloc _ _;unfold itQ at B0 m0;simp only at B0 m0;have HB0:=hd_ B0;have Hm0:=hd_ m0;clear B0 m0;unfold itA;simp only
 go_enter Tryz.func84,Tryz.ntmps84
 go_wp2_with fail;refine (HK1.out _).mono ?_;rintro e w1 ⟨rfl,m1⟩;have B1:=HB0.out.mod m1 _root_.id;have m1:=Hm0.out.trans m1;clear HB0 Hm0;generalize w.heap.size=gx at *
 cases k1
 ·clear B1 HK1 HK2 HK3 HPL HTX;go_wp2_with fail;go_ret;exact IntPost.of (by rw [HIE.out]; rfl) m1
 obtain ⟨c0,c1,c2,c3,c4,c5,c6⟩:=B1.c7;go_wp2_with fail;clear c0 c1 c2 c3 c4 c5 c6;refine (HK2.out _).mono ?_;rintro e w2 ⟨rfl,m2⟩;have B2:=B1.mod m2 _root_.id;have m2:=m1.trans m2;clear B1 m1
 cases k2
 ·clear B2 HK1 HK2 HK3 HPL HTX;go_wp2_with fail;go_ret;exact IntPost.of (by rw [HIE.out]; rfl) m2
 obtain ⟨c0,c1,c2,c3,c4,c5,c6⟩:=B2.c7;go_wp2_with fail;refine (kindWord_calls _ _).mono ?_;rintro e w' ⟨rfl,rfl⟩;have hkw:=kwS_empty kind
 cases hki:inB kind 1 4
 all_goals
  rw [hki] at hkw;simp only [Bool.not_true,Bool.not_false] at hkw;generalize kwS kind=kw at *
 ·clear B2 HK1 HK2 HK3 HPL HTX;go_wp2_with fail;go_ret;exact IntPost.of (by rw [HIE.out]; simp [hki]) m2
 by_cases hn:120<name.length
 ·have hn':(120:Int)<(name.length:Int):=(by omega);clear B2 HK1 HK2 HK3 HPL HTX;go_wp2_with fail;go_ret;exact IntPost.of (by rw [HIE.out]; simp [hki,hn]) m2
 have hn':¬ ((120:Int)<(name.length:Int)):=(by omega);go_wp2_with fail;clear c0 c1 c2 c3 c4 c5 c6;refine (HPL.out _ m2).mono ?_;rintro e w3 ⟨rfl,m3⟩;have B3:=B2.mod m3 _root_.id;have m3:=m2.trans m3;clear B2 m2
 cases pl
 ·clear B3 HK1 HK2 HK3 HPL HTX;go_wp2_with fail;go_ret;exact IntPost.of (by rw [HIE.out]; simp [hki,hn]) m3
 obtain ⟨c0,c1,c2,c3,c4,c5,c6⟩:=B3.c7;go_wp2_with fail;refine (moment_calls _ _).mono ?_;rintro e w' ⟨rfl,rfl⟩
 cases htm:inB tm 0 5761439
 ·clear B3 HK1 HK2 HK3 HPL HTX;go_wp2_with fail;go_ret;exact IntPost.of (by rw [HIE.out]; simp [hki,hn,htm]) m3
 rw [hki,htm] at HIE
 cases hpe:par.isEmpty
 ·rw [hpe] at HIE;go_wp2_with fail;clear c0 c1 c2 c3 c4 c5 c6;refine (HK3.out _).mono ?_;rintro e w4 ⟨rfl,m4⟩;have B4:=B3.mod m4 _root_.id;have m4:=m3.trans m4;clear B3 m3
  cases k3
  ·clear B4 HK1 HK2 HK3 HPL HTX;go_wp2_with fail;go_ret;exact IntPost.of (by rw [HIE.out]; simp [hn]) m4
  obtain ⟨c0,c1,c2,c3,c4,c5,c6⟩:=B4.c7
  cases hpi:(par == id)
  ·have hpi2:¬ par=id:=(by simpa using hpi)
   by_cases hl2:20000<text.length
   ·have hl2':(20000:Int)<(text.length:Int):=(by omega);clear HK1 HK2 HK3 HPL HTX;go_wp2_with fail;go_ret;exact IntPost.of (by rw [HIE.out]; simp [hn,hl2,hpi2]) m4
   ·have hl2':¬ ((20000:Int)<(text.length:Int)):=(by omega);clear HK1 HK2 HK3 HPL;go_wp2_with fail;refine (HTX.out _ m4).mono ?_;rintro e w6 ⟨rfl,m6⟩;have m6:=m4.trans m6;clear HTX
    cases tx
    all_goals
     go_wp2_with fail;go_ret;exact IntPost.of (by rw [HIE.out]; simp [hn,hl2,hpi2]) m6
  ·have hpi2:par=id:=(by simpa using hpi);clear HK1 HK2 HK3 HPL HTX;go_wp2_with fail;go_ret;exact IntPost.of (by rw [HIE.out]; simp [hn,hpi2]) m4
 ·rw [hpe] at HIE
  cases hpi:(par == id)
  ·have hpi2:¬ par=id:=(by simpa using hpi)
   by_cases hl2:20000<text.length
   ·have hl2':(20000:Int)<(text.length:Int):=(by omega);clear HK1 HK2 HK3 HPL HTX;go_wp2_with fail;go_ret;exact IntPost.of (by rw [HIE.out]; simp [hn,hl2,hpi2]) m3
   ·have hl2':¬ ((20000:Int)<(text.length:Int)):=(by omega);clear HK1 HK2 HK3 HPL;go_wp2_with fail;refine (HTX.out _ m3).mono ?_;rintro e w6 ⟨rfl,m6⟩;have m6:=m3.trans m6;clear HTX
    cases tx
    all_goals
     go_wp2_with fail;go_ret;exact IntPost.of (by rw [HIE.out]; simp [hn,hl2,hpi2]) m6
  ·have hpi2:par=id:=(by simpa using hpi)
   have hx:id.isEmpty=false:=by have:=HKN.out; simpa using this
   rw [← hpi2,hpe] at hx
   cases hx
theorem itemFaultL_calls (w:World) (x:Itm) (hz:ItL x) (hE:Env w):Calls Tryz.prog 35 #[itA x] w (IntPost w (itemE x)):=by
 obtain ⟨id,cust,kind,name,tm,par,text⟩:=x;obtain ⟨z1,z2,z3,z4,z5⟩:=hz;simp only at z1 z2 z3 z4 z5;have HK1:=hd_ (fun W=>rkey_any W id (by omega));have HK2:=hd_ (fun W=>rkey_any W cust (by omega));have HK3:=hd_ (fun W=>rkey_any W par (by omega));have HPL:=hd_ (fun W (h:Pure w W)=>rplain_any W name (by omega) (hE.pure h));have HTX:=hd_ (fun W (h:Pure w W)=>rtext_any W text (by omega) (hE.pure h))
 have HIE:Hid (itemE ⟨id,cust,kind,name,tm,par,text⟩=if !(keyB id && keyB cust) then 5 else if !inB kind 1 4 then 4 else if 120<name.length then 2 else if !plainB name then 3 else if !inB tm 0 5761439 then 1 else
  if !par.isEmpty && !keyB par then 5 else if par=id then 14 else if 20000<text.length then 2 else if !textB text then 3 else 0):=hd_ (by unfold itemE; rw [show decide (par≠[]) = !par.isEmpty by cases par <;> simp])
 generalize hie:itemE ⟨id,cust,kind,name,tm,par,text⟩=ie at *;have HKN:Hid (keyB id=true→id.isEmpty=false):=hd_ (fun h=>by cases id <;> first | rfl | cases h);generalize keyB id=k1 at *;generalize keyB cust=k2 at *;generalize keyB par=k3 at *;generalize plainB name=pl at *;generalize textB text=tx at *;clear hie hE z1 z2 z3 z4 z5;have B0:=Blk.new w 62 (itQ ⟨id,cust,kind,name,tm,par,text⟩);have m0:Pure w (w.alloc (.cells (itQ ⟨id,cust,kind,name,tm,par,text⟩) 62)):=pure_alloc _ _;unfold itQ at B0 m0;simp only at B0 m0;have HB0:=hd_ B0;have Hm0:=hd_ m0;clear B0 m0;unfold itA;simp only
 go_enter Tryz.func35,Tryz.ntmps35
 go_wp2_with fail;refine (HK1.out _).mono ?_;rintro e w1 ⟨rfl,m1⟩;have B1:=HB0.out.mod m1 _root_.id;have m1:=Hm0.out.trans m1;clear HB0 Hm0;generalize w.heap.size=gx at *
 cases k1
 ·clear B1 HK1 HK2 HK3 HPL HTX;go_wp2_with fail;go_ret;exact IntPost.of (by rw [HIE.out]; rfl) m1
 obtain ⟨c0,c1,c2,c3,c4,c5,c6⟩:=B1.c7;go_wp2_with fail;clear c0 c1 c2 c3 c4 c5 c6;refine (HK2.out _).mono ?_;rintro e w2 ⟨rfl,m2⟩;have B2:=B1.mod m2 _root_.id;have m2:=m1.trans m2;clear B1 m1
 cases k2
 ·clear B2 HK1 HK2 HK3 HPL HTX;go_wp2_with fail;go_ret;exact IntPost.of (by rw [HIE.out]; rfl) m2
 obtain ⟨c0,c1,c2,c3,c4,c5,c6⟩:=B2.c7;go_wp2_with fail;refine (rin_calls _ _ _ _).mono ?_;rintro e w' ⟨rfl,rfl⟩
 cases hki:inB kind 1 4
 ·clear B2 HK1 HK2 HK3 HPL HTX;go_wp2_with fail;go_ret;exact IntPost.of (by rw [HIE.out]; simp [hki]) m2
 by_cases hn:120<name.length
 ·have hn':(120:Int)<(name.length:Int):=(by omega);clear B2 HK1 HK2 HK3 HPL HTX;go_wp2_with fail;go_ret;exact IntPost.of (by rw [HIE.out]; simp [hki,hn]) m2
 have hn':¬ ((120:Int)<(name.length:Int)):=(by omega);go_wp2_with fail;clear c0 c1 c2 c3 c4 c5 c6;refine (HPL.out _ m2).mono ?_;rintro e w3 ⟨rfl,m3⟩;have B3:=B2.mod m3 _root_.id;have m3:=m2.trans m3;clear B2 m2
 cases pl
 ·clear B3 HK1 HK2 HK3 HPL HTX;go_wp2_with fail;go_ret;exact IntPost.of (by rw [HIE.out]; simp [hki,hn]) m3
 obtain ⟨c0,c1,c2,c3,c4,c5,c6⟩:=B3.c7;go_wp2_with fail;refine (rmoment_calls _ _).mono ?_;rintro e w' ⟨rfl,rfl⟩
 cases htm:inB tm 0 5761439
 ·clear B3 HK1 HK2 HK3 HPL HTX;go_wp2_with fail;go_ret;exact IntPost.of (by rw [HIE.out]; simp [hki,hn,htm]) m3
 rw [hki,htm] at HIE
 cases hpe:par.isEmpty
 ·rw [hpe] at HIE;go_wp2_with fail;clear c0 c1 c2 c3 c4 c5 c6;refine (HK3.out _).mono ?_;rintro e w4 ⟨rfl,m4⟩;have B4:=B3.mod m4 _root_.id;have m4:=m3.trans m4;clear B3 m3
  cases k3
  ·clear B4 HK1 HK2 HK3 HPL HTX;go_wp2_with fail;go_ret;exact IntPost.of (by rw [HIE.out]; simp [hn]) m4
  obtain ⟨c0,c1,c2,c3,c4,c5,c6⟩:=B4.c7
  cases hpi:(par == id)
  ·have hpi2:¬ par=id:=(by simpa using hpi)
   by_cases hl2:20000<text.length
   ·have hl2':(20000:Int)<(text.length:Int):=(by omega);clear HK1 HK2 HK3 HPL HTX;go_wp2_with fail;go_ret;exact IntPost.of (by rw [HIE.out]; simp [hn,hl2,hpi2]) m4
   ·have hl2':¬ ((20000:Int)<(text.length:Int)):=(by omega);clear HK1 HK2 HK3 HPL;go_wp2_with fail;refine (HTX.out _ m4).mono ?_;rintro e w6 ⟨rfl,m6⟩;have m6:=m4.trans m6;clear HTX
    cases tx
    all_goals
     go_wp2_with fail;go_ret;exact IntPost.of (by rw [HIE.out]; simp [hn,hl2,hpi2]) m6
  ·have hpi2:par=id:=(by simpa using hpi);clear HK1 HK2 HK3 HPL HTX;go_wp2_with fail;go_ret;exact IntPost.of (by rw [HIE.out]; simp [hn,hpi2]) m4
 ·rw [hpe] at HIE
  cases hpi:(par == id)
  ·have hpi2:¬ par=id:=(by simpa using hpi)
   by_cases hl2:20000<text.length
   ·have hl2':(20000:Int)<(text.length:Int):=(by omega);clear HK1 HK2 HK3 HPL HTX;go_wp2_with fail;go_ret;exact IntPost.of (by rw [HIE.out]; simp [hn,hl2,hpi2]) m3
   ·have hl2':¬ ((20000:Int)<(text.length:Int)):=(by omega);clear HK1 HK2 HK3 HPL;go_wp2_with fail;refine (HTX.out _ m3).mono ?_;rintro e w6 ⟨rfl,m6⟩;have m6:=m3.trans m6;clear HTX
    cases tx
    all_goals
     go_wp2_with fail;go_ret;exact IntPost.of (by rw [HIE.out]; simp [hn,hl2,hpi2]) m6
  ·have hpi2:par=id:=(by simpa using hpi)
   have hx:id.isEmpty=false:=by have:=HKN.out; simpa using this
   rw [← hpi2,hpe] at hx
   cases hx
theorem itemFault_calls (w:World) (x:Itm) (hz:ItB x) (hE:Env w):Calls Tryz.prog 35 #[itA x] w (IntPost w (itemE x)):=itemFaultL_calls w x hz.l hE
def kndI (s:Str):Int:=if s=[109,97,105,108] then 1 else if s=[102,105,108,101] then 2 else if s=[98,111,120] then 3 else if s=[110,111,116,101] then 4 else 0
end Go.Proofs.YtnfflgicngeekaaGreatDoor
