/- Texts of the proof of QuerySearches, put together: RKey. -/
import Derived.Test.YtnfflgicngeekaaGreatDoorQuerySearchesZ4
import Derived.Test.YtnfflgicngeekaaGreatDoorQuerySearchesZ9
import Derived.Test.YtnfflgicngeekaaGreatDoorQuerySearchesZ15
import Derived.Test.YtnfflgicngeekaaGreatDoorQuerySearchesZ17
import Derived.Shelf.Strings.SlTrimAscii
set_option linter.unusedVariables false
set_option linter.unusedSimpArgs false
set_option maxRecDepth 100000
set_option maxHeartbeats 1000000
namespace Go.Proofs.YtnfflgicngeekaaGreatDoor
open Go.RowKit
theorem dropWhile_nil {α:Type} (p:α→Bool):∀ l:List α,l.dropWhile p=[]↔l.all p=true
 | []=>by simp
 | x :: l=>by
  cases h:p x with
  | true=>simp [List.dropWhile_cons,h,dropWhile_nil p l]
  | false=>simp [List.dropWhile_cons,h]
theorem dropWhile_head {α:Type} (p:α→Bool):∀ (l:List α) (a:α) (t:List α),l.dropWhile p=a :: t→p a=false
 | [],a,t,h=>by simp at h
 | x :: l,a,t,h=>by
  cases hx:p x with
  | true=>rw [List.dropWhile_cons,hx] at h; exact dropWhile_head p l a t h
  | false =>
   rw [List.dropWhile_cons,hx] at h
   injection h with h1 h2
   rw [← h1];exact hx
theorem trimS_nil (l cs:List UInt8):Lib.trimS l cs=[]↔l.all (cs.contains ·)=true:=by
 unfold Lib.trimS Lib.trimLeftS Lib.trimRightS;rw [dropWhile_nil]
 cases hd:l.reverse.dropWhile (cs.contains ·) with
 | nil =>
  rw [dropWhile_nil] at hd;simp at hd ⊢;exact hd
 | cons a t =>
  have h1:=dropWhile_head _ _ _ _ hd
  constructor
  ·intro h;have h2:=List.all_eq_true.1 h a (by simp);rw [h1] at h2
   cases h2
  ·intro h
   have hx:a∈l.reverse.dropWhile (cs.contains ·):=by rw [hd]; simp
   have h2:=List.all_eq_true.1 h a (by
    have:=(List.dropWhile_sublist (cs.contains ·)).subset hx
    simpa using this)
   rw [h1] at h2
   cases h2
def onlyB (l cs:List UInt8):Bool:=l.all (cs.contains ·)
theorem all_byte (P:Nat→Bool) (Q:UInt8→Bool) (h:∀ n,n<256→Q (UInt8.ofNat n)=P n) (c:UInt8):Q c=P c.toNat:=by
 have:=h c.toNat c.toNat_lt
 rwa [UInt8.ofNat_toNat] at this
def smallsL:List UInt8:=[97,98,99,100,101,102,103,104,105,106,107,108,109,110,111,112,113,114,115,116,117,118,119,120,121,122]
def keysL:List UInt8:=smallsL ++ [48,49,50,51,52,53,54,55,56,57,45,95]
theorem smalls_has (c:UInt8):smallsL.contains c=smallB c.toNat:=all_byte _ _ (by decide +kernel) c
theorem keys_has (c:UInt8):keysL.contains c=keyC c.toNat:=all_byte _ _ (by decide +kernel) c
theorem onlyB_keys (l:List UInt8):onlyB l keysL=l.all (fun c=>keyC c.toNat):=by
 unfold onlyB
 congr 1
 funext c
 exact keys_has c
theorem onlyB_smalls (l:List UInt8):onlyB l smallsL=l.all (fun c=>smallB c.toNat):=by
 unfold onlyB
 congr 1
 funext c
 exact smalls_has c
theorem only_calls (w:World) (s cs:ByteArray) (hs:s.size≤1000000) (hcs:cs.size≤1000) (hascii:∀ (j:Nat) b,cs.data.toList[j]? = some b→b.toNat<128) :
  Calls Tryz.prog 128 #[.string s,.string cs] w (BoolPost w (onlyB s.data.toList cs.data.toList)):=by
 have hcon:=Any.strings_Trim_laid Tryz.lays160 (by kernel_rfl) s cs w (by omega) (by omega) hascii
 change Calls Tryz.prog 159 _ _ (fun e w'=>e = .returned (.string ⟨(Lib.trimS s.data.toList cs.data.toList).toArray⟩)∧Below w.heap.size w w') at hcon
 have HT:=hd_ (trimS_nil s.data.toList cs.data.toList);generalize Lib.trimS s.data.toList cs.data.toList=r at hcon HT;have HC:=hd_ hcon;clear hcon
 go_enter Tryz.func128,Tryz.ntmps128
 go_wp2_with fail;refine HC.out.mono ?_;rintro e w1 ⟨rfl,hm⟩;go_wp2_with fail;go_ret;refine BoolPost.of ?_ (Mod.of_below hm);have h:=HT.out
 show s.data.toList.all _=r.isEmpty
 cases r with
 | nil=>exact h.1 rfl
 | cons a t =>
  cases hb:(s.data.toList.all fun x=>cs.data.toList.contains x) with
  | true=>exact absurd (h.2 hb) (by simp)
  | false=>rfl
def smallsB:ByteArray:=⟨#[97,98,99,100,101,102,103,104,105,106,107,108,109,110,111,112,113,114,115,116,117,118,119,120,121,122]⟩
def keysB:ByteArray:=⟨#[97,98,99,100,101,102,103,104,105,106,107,108,109,110,111,112,113,114,115,116,117,118,119,120,121,122,48,49,50,51,52,53,54,55,56,57,45,95]⟩
theorem onlySmalls_calls (w:World) (s:ByteArray) (hs:s.size≤1000000):Calls Tryz.prog 128 #[.string s,.string smallsB] w (BoolPost w (s.data.toList.all (fun c=>smallB c.toNat))):=by
 have h:=only_calls w s smallsB hs (by decide) (ascii_of_all (by decide));rw [show smallsB.data.toList=smallsL from rfl,onlyB_smalls] at h;exact h
theorem onlyKeys_calls (w:World) (s:ByteArray) (hs:s.size≤1000000):Calls Tryz.prog 128 #[.string s,.string keysB] w (BoolPost w (s.data.toList.all (fun c=>keyC c.toNat))):=by
 have h:=only_calls w s keysB hs (by decide) (ascii_of_all (by decide));rw [show keysB.data.toList=keysL from rfl,onlyB_keys] at h;exact h
theorem first_all (s:ByteArray) (hp:0<s.size) (P:Nat→Bool):(s.extract 0 1).data.toList.all (fun c=>P c.toNat)=P s[0].toNat:=by
 have h0:0<s.data.size:=hp
 have e:(s.extract 0 1).data.toList=[s[0]]:=by
  have h1:(s.extract 0 1).data=s.data.extract 0 1:=(by simp);rw [h1]
  apply List.ext_getElem?
  intro i
  cases i with
  | zero =>
   simp;rw [Array.getElem?_eq_getElem h0]
   rfl
  | succ i=>simp; omega
 rw [e];simp
theorem rkey_calls (w:World) (s:ByteArray) (hs:s.size≤1000000):Calls Tryz.prog 68 #[.string s] w (BoolPost w (keyB s.data.toList)):=by
 have hls:s.data.toList.length=s.size:=(by simp);have HLS:=hd_ hls;clear hls
 go_enter Tryz.func68,Tryz.ntmps68
 go_wp2_with fail;refine (rin_calls _ _ _ _).mono ?_;rintro e w' ⟨rfl,rfl⟩
 cases hin:inB (s.size:Int) 1 40
 ·have h1:=inB_false hin;go_wp2_with fail;go_ret;refine BoolPost.of ?_ (Mod.refl _ _);unfold keyB;rw [decide_eq_false (by rw [HLS.out]; omega)]
  rfl
 ·obtain ⟨h1,h2⟩:=inB_true hin;clear hin;have hpos:0<s.size:=(by omega)
  have hlen:(decide (1≤s.data.toList.length∧s.data.toList.length≤40))=true:=by rw [HLS.out]; simp; omega
  have hz:(s.data.toList.getD 0 0)=s[0]:=by simp [List.getD,hpos]; rfl
  have hkey:keyB s.data.toList=(smallB s[0].toNat && s.data.toList.all (fun c=>keyC c.toNat)):=by unfold keyB; rw [hlen,hz]; rfl
  have HK:=hd_ hkey;clear hkey hlen hz;have i1:(1:Int)≤(s.size:Int):=(by omega);have i2:1≤s.size:=(by omega);go_wp2_with fail;refine (onlySmalls_calls _ _ ?_).mono ?_
  ·simp
   omega
  rintro e w1 ⟨rfl,hm1⟩;rw [first_all s hpos]
  cases hs0:smallB s[0].toNat
  ·go_wp2_with fail;go_ret;exact BoolPost.of (by rw [HK.out,hs0]; rfl) hm1
  ·go_wp2_with fail;refine (onlyKeys_calls _ _ (by omega)).mono ?_;rintro e w2 ⟨rfl,hm2⟩;generalize s.data.toList.all (fun c=>keyC c.toNat)=al at *;go_wp2_with fail;go_ret;exact BoolPost.of (by rw [HK.out,hs0]; rfl) (hm1.trans hm2)
end Go.Proofs.YtnfflgicngeekaaGreatDoor
