/- Texts of the proof of QuerySearches, put together: WrdA. -/
import Derived.Test.YtnfflgicngeekaaGreatDoorQuerySearchesZ9
import Derived.Test.YtnfflgicngeekaaGreatDoorQuerySearchesZ10
import Derived.Test.YtnfflgicngeekaaGreatDoorQuerySearchesZ14
import Derived.Test.YtnfflgicngeekaaGreatDoorQuerySearchesZ17
import Derived.Lib.ConvBytes
import Derived.Laws.IdiomStrings
set_option linter.unusedVariables false
set_option linter.unusedSimpArgs false
set_option maxHeartbeats 4000000
namespace Go.Proofs.YtnfflgicngeekaaGreatDoor
open Go.RowKit
theorem letB_nat (c:UInt8):letB c=(decide (97≤c.toNat∧c.toNat≤122) || (decide (65≤c.toNat∧c.toNat≤90) || (decide (48≤c.toNat∧c.toNat≤57) || decide (128≤c.toNat)))):=by
 have key:∀ c:Fin 256,letB (UInt8.ofNat c.val)=(decide (97≤(UInt8.ofNat c.val).toNat∧(UInt8.ofNat c.val).toNat≤122) || (decide (65≤(UInt8.ofNat c.val).toNat∧(UInt8.ofNat c.val).toNat≤90) || (decide (48≤(UInt8.ofNat c.val).toNat∧(UInt8.ofNat c.val).toNat≤57) || decide (128≤(UInt8.ofNat c.val).toNat)))):=by decide +kernel
 have h:=key ⟨c.toNat,c.toNat_lt⟩
 simpa using h
theorem lowB_nat (c:UInt8):((lowB c).toNat:Int)=if (65:Int)≤(c.toNat:Int)∧(c.toNat:Int)≤90 then (c.toNat:Int)+32 else (c.toNat:Int):=by
 have key:∀ c:Fin 256,((lowB (UInt8.ofNat c.val)).toNat:Int)=if (65:Int)≤((UInt8.ofNat c.val).toNat:Int)∧((UInt8.ofNat c.val).toNat:Int)≤90 then ((UInt8.ofNat c.val).toNat:Int)+32 else ((UInt8.ofNat c.val).toNat:Int):=by decide +kernel
 have h:=key ⟨c.toNat,c.toNat_lt⟩
 simpa using h
theorem letter_calls (c:UInt8) (w:World):Calls Tryz.prog 204 #[.int .u8 (c.toNat:Int)] w (BoolSame w (letB c)):=by
 rw [letB_nat];generalize c.toNat=n;have HD:=hd_ (digit_calls n w);unfold digitB at HD
 by_cases h1:(97:Int)≤(n:Int)∧(n:Int)≤122
 ·obtain ⟨h1,h2⟩:=h1;clear HD
  go_enter Tryz.func204,Tryz.ntmps204
  go_wp2
  go_ret;exact BoolSame.of (by first | (simp; omega) | (rw [Bool.eq_iff_iff]; simp; omega))
 ·by_cases h2:(65:Int)≤(n:Int)∧(n:Int)≤90
  ·obtain ⟨h2,h3⟩:=h2;have h4:¬ (97:Int)≤(n:Int):=(by omega);clear HD
   go_enter Tryz.func204,Tryz.ntmps204
   go_wp2
   go_ret;exact BoolSame.of (by first | (simp; omega) | (rw [Bool.eq_iff_iff]; simp; omega))
  ·by_cases h3:(48:Int)≤(n:Int)∧(n:Int)≤57
   ·have h4:¬ (97:Int)≤(n:Int):=(by omega);have h5:¬ (65:Int)≤(n:Int):=(by omega)
    have e:decide (48≤n∧n≤57)=true:=by simp; omega
    rw [e] at HD;obtain ⟨h3,h6⟩:=h3;clear h1 h2
    go_enter Tryz.func204,Tryz.ntmps204
    go_wp2_with fail;refine HD.out.mono ?_;rintro e w' ⟨rfl,rfl⟩;go_wp2_with fail;go_ret;exact BoolSame.of (by first | (simp; omega) | (rw [Bool.eq_iff_iff]; simp; omega))
   ·have e:decide (48≤n∧n≤57)=false:=by simp; omega
    rw [e] at HD
    by_cases h4:(128:Int)≤(n:Int)
    ·have h5:(97:Int)≤(n:Int):=(by omega);have h6:(65:Int)≤(n:Int):=(by omega);have h7:¬ (n:Int)≤122:=(by omega);have h8:¬ (n:Int)≤90:=(by omega);have h9:128≤n:=(by omega);clear h1 h2 h3
     go_enter Tryz.func204,Tryz.ntmps204
     go_wp2_with fail;refine HD.out.mono ?_;rintro e w' ⟨rfl,rfl⟩;go_wp2_with fail;go_ret;exact BoolSame.of (by first | (simp; omega) | (rw [Bool.eq_iff_iff]; simp; omega))
    ·by_cases h5:(97:Int)≤(n:Int)
     ·have h6:¬ (n:Int)≤122:=(by omega);have h7:(65:Int)≤(n:Int):=(by omega);have h8:¬ (n:Int)≤90:=(by omega);have h9:122<n∧n<128:=(by omega);clear h1 h2 h3
      go_enter Tryz.func204,Tryz.ntmps204
      go_wp2_with fail;refine HD.out.mono ?_;rintro e w' ⟨rfl,rfl⟩;go_wp2_with fail;go_ret;exact BoolSame.of (by first | (simp; omega) | (rw [Bool.eq_iff_iff]; simp; omega))
     ·by_cases h6:(65:Int)≤(n:Int)
      ·have h8:¬ (n:Int)≤90:=(by omega);have h9:90<n∧n<97:=(by omega);clear h1 h2 h3
       go_enter Tryz.func204,Tryz.ntmps204
       go_wp2_with fail;refine HD.out.mono ?_;rintro e w' ⟨rfl,rfl⟩;go_wp2_with fail;go_ret;exact BoolSame.of (by first | (simp; omega) | (rw [Bool.eq_iff_iff]; simp; omega))
      ·have h9:¬ (48≤n∧n≤57)∧n<65:=(by omega);clear h1 h2 h3
       go_enter Tryz.func204,Tryz.ntmps204
       go_wp2_with fail;refine HD.out.mono ?_;rintro e w' ⟨rfl,rfl⟩;go_wp2_with fail;go_ret;exact BoolSame.of (by first | (simp; omega) | (rw [Bool.eq_iff_iff]; simp; omega))
def BufB (W:World) (g cap:Nat) (l:Str):Prop:=∃ pad:List Value,W.heap[g]? = some (.cells (u8s l ++ pad).toArray 5 (cap,cap+1))∧l.length≤cap
section
variable {w:World} {g cap:Nat} {l:Str}
theorem BufB.lt (h:BufB w g cap l):g<w.heap.size:=by obtain ⟨p,h,_⟩:=h; exact lt_of_heap h
theorem BufB.cell (h:BufB w g cap l) {k:Nat} (hk:k<l.length):w.cell? ⟨g,k,none⟩=some (.int .u8 (l[k].toNat:Int)):=by
 obtain ⟨p,h,_⟩:=h;simp [World.cell?,h,u8s,List.getElem?_append,hk]
theorem BufB.frozen (h:BufB w g cap l) {k:Nat} (hk:k<l.length):w.frozen? ⟨g,k,none⟩=false:=by
 obtain ⟨p,h,hl⟩:=h;simp [World.frozen?,h]
 omega
theorem BufB.set (h:BufB w g cap l) {k:Nat} (hk:k<l.length) (c:UInt8):BufB (w.setCell ⟨g,k,none⟩ (.int .u8 (c.toNat:Int))) g cap (l.set k c):=by
 obtain ⟨p,h,hl⟩:=h;refine ⟨p,?_,by simpa using hl⟩;simp only [World.setCell,Array.getElem?_modify,h];simp [u8s,List.set_append,hk,List.map_set]
theorem BufB.new (w:World) (s:Str):BufB (Lib.bytesWorld w 5 ⟨s.toArray⟩) w.heap.size (Lib.bytesCells w 5 ⟨s.toArray⟩).size s:=by
 refine ⟨List.replicate (grownCap w (⟨s.toArray⟩:ByteArray).size 0 5 - (⟨s.toArray⟩:ByteArray).size) (.int .u8 0),?_,?_⟩
 ·rw [Lib.bytesWorld_at_new]
  congr 2
  unfold Lib.bytesCells u8s
  apply Array.ext'
  simp
 ·unfold Lib.bytesCells;simp
end
theorem lowS_step {s:Str} {k:Nat} (hk:k<s.length):(lowS (s.take k) ++ s.drop k).set k (lowB s[k])=lowS (s.take (k+1)) ++ s.drop (k+1):=by
 have h1:(List.map lowB (s.take k)).length=k:=by simp; omega
 have h2:∀ (a b:List UInt8) (x:UInt8) (t:List UInt8),a.length=k→b=x :: t→(a ++ b).set k (lowB x)=a ++ lowB x :: t:=fun a b x t ha hb=>by
  subst hb;rw [List.set_append_right _ _ (by omega),ha,Nat.sub_self,List.set_cons_zero]
 have h3:=h2 (List.map lowB (s.take k)) (s.drop k) s[k] (s.drop (k+1)) h1 (List.drop_eq_getElem_cons hk);refine h3.trans ?_
 show _=List.map lowB (s.take (k+1)) ++ s.drop (k+1)
 rw [List.take_succ_eq_append_getElem hk,List.map_append,List.map_singleton,List.append_assoc]
 rfl
theorem lowS_getD {s:Str} {k:Nat} (hk:k<s.length):(lowS (s.take k) ++ s.drop k)[k]? = some s[k]:=by
 have h1:(List.map lowB (s.take k)).length=k:=by simp; omega
 have h2:∀ (a b:List UInt8) (x:UInt8) (t:List UInt8),a.length=k→b=x :: t→(a ++ b)[k]? = some x:=fun a b x t ha hb=>by
  subst hb;rw [List.getElem?_append_right (by omega),ha,Nat.sub_self]
  rfl
 exact h2 (List.map lowB (s.take k)) (s.drop k) s[k] (s.drop (k+1)) h1 (List.drop_eq_getElem_cons hk)
theorem lowS_len (s:Str) (k:Nat):(lowS (s.take k) ++ s.drop k).length=s.length:=by simp [lowS]; omega
theorem lowB_same {c:UInt8} (h:¬ ((65:Int)≤(c.toNat:Int)∧(c.toNat:Int)≤90)):lowB c=c:=by
 have h1:=lowB_nat c;rw [if_neg h] at h1;exact UInt8.toNat_inj.1 (Int.ofNat.inj h1)
end Go.Proofs.YtnfflgicngeekaaGreatDoor
