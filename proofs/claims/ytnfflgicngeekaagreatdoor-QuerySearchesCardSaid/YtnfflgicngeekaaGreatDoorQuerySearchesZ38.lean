/- Texts of the proof of QuerySearches, put together: QryT, LayCln, ClnC, RdA, RdC, RdD, LayWra, LayAto, LayIto, NumW, EscA, LaySyn, EscB, UnqA, IhdW, LayCut, LnsB, QrL, QrM, QryU, QrO, LayInt, SorI, RunD, RunE, RunG, QrP, QrN, QrQ, QrR, QrS. -/
import Derived.Test.YtnfflgicngeekaaGreatDoorQuerySearchesZ2
import Derived.Test.YtnfflgicngeekaaGreatDoorQuerySearchesZ5
import Derived.Test.YtnfflgicngeekaaGreatDoorQuerySearchesZ9
import Derived.Test.YtnfflgicngeekaaGreatDoorQuerySearchesZ12
import Derived.Test.YtnfflgicngeekaaGreatDoorQuerySearchesZ17
import Derived.Test.YtnfflgicngeekaaGreatDoorQuerySearchesZ19
import Derived.Test.YtnfflgicngeekaaGreatDoorQuerySearchesZ20
import Derived.Test.YtnfflgicngeekaaGreatDoorQuerySearchesZ23
import Derived.Test.YtnfflgicngeekaaGreatDoorQuerySearchesZ24
import Derived.Test.YtnfflgicngeekaaGreatDoorQuerySearchesZ26
import Derived.Test.YtnfflgicngeekaaGreatDoorQuerySearchesZ30
import Derived.Test.YtnfflgicngeekaaGreatDoorQuerySearchesZ31
import Derived.Test.YtnfflgicngeekaaGreatDoorQuerySearchesZ33
import Derived.Test.YtnfflgicngeekaaGreatDoorQuerySearchesZ34
import Derived.Test.YtnfflgicngeekaaGreatDoorQuerySearchesZ36
import Derived.Test.YtnfflgicngeekaaGreatDoorQuerySearchesZ37
import Derived.Ground.NamesProg
import Derived.Ground.Names2Prog
import Derived.Shelf.Slices.Clone
import Derived.Test.YtnfflgicngeekaaGreatDoorProg
import Derived.Deep.AppendLies
import Derived.Shelf.Strings.Fields
import Derived.Lib.LaidTab
import Derived.Deep.DeepCutAuto
import Derived.Deep.CutBlock
import Derived.Shelf.Small.Wraps
import Derived.Shelf.Strings.Prefix
import Derived.Shelf.Strconv.Atoi
import Derived.Shelf.Strconv.Itoa3
import Derived.Lib.SmallJoins
import Derived.Lib.QuietBelow
import Derived.Lib.ConvBytes
import Derived.Shelf.Strconv.SyntaxError
import Derived.Shelf.LaysM
import Derived.Laws.BytesArg
import Derived.Shelf.Strings.Cut
import Derived.Lib.IndexAny
import Derived.Shelf.Sort.Plain
import Derived.Shelf.Slices.In.SortNone
import Derived.Shelf.Slices.CompactI
import Derived.Sort.OwnSorted
import Derived.Deep.RegionLaw
import Derived.Deep.QuietTactic
import Derived.BigQuiet
import Derived.StillTailTactics
set_option linter.unusedVariables false
set_option linter.unusedSimpArgs false
set_option maxRecDepth 100000
set_option maxHeartbeats 8000000
namespace Go.Proofs.YtnfflgicngeekaaGreatDoor
open Go.RowKit
structure Tk where
 kind:Int
 pos:Nat
 q:Qry
def q0:Qry:=.mk 0 [] 0 []
def blkC (c:UInt8):Bool:=c == 32 || c == 10
def stpC (c:UInt8):Bool:=c == 32 || (c == 10 || (c == 40 || (c == 41 || c == 34)))
def natQ (s:Str):Option Int:=match numQ 6 s with | none=>none | some n=>if 0≤n then some n else none
def headS (c:UInt8) (s:Str):Str:=match fstL c s with | none=>s | some p=>p.1
def restS (c:UInt8) (s:Str):Str:=match fstL c s with | none=>[] | some p=>p.2
def slashQ (w rest:Str):Int × Qry:=match natQ rest with
 | none=>(8,q0)
 | some n=>if w=[119] then (7,.mk 4 [] n []) else if w=[112,114,101] then (7,.mk 5 [] n []) else (8,q0)
def colonQ (w rest:Str):Int × Qry :=
 if w=[111,119,110,101,114]∧keyB rest=true then (3,.mk 9 [rest] 0 [])
 else if w=[110,97,109,101]∧patB rest=true then (3,.mk 11 [rest] 0 [])
 else if w=[102,114,111,109]∧(natQ rest).isSome=true then (3,.mk 12 [] ((natQ rest).getD 0) [])
 else if w=[117,110,116,105,108]∧(natQ rest).isSome=true then (3,.mk 13 [] ((natQ rest).getD 0) [])
 else if w=[107,105,110,100]∧kndI rest≠0 then (3,.mk 10 [] (kndI rest) []) else (8,q0)
def pieceQ (s:Str):Int × Qry :=
 if s=[97,108,108] then (3,.mk 1 [] 0 []) else if s=[97,110,100] then (4,q0) else if s=[111,114] then (5,q0) else if s=[110,111,116] then (6,q0)
 else if patB s=true then (3,.mk 2 [s] 0 []) else match fstL 47 s with
  | some p=>slashQ p.1 p.2
  | none=>colonQ (headS 58 s) (restS 58 s)
def phrW (body:Str):List Str:=(spl 32 (lowS body)).filter fun w => !w.isEmpty
def phraseQ (body:Str):Int × Qry :=
 if (phrW body).all patB=false∨phrW body=[] then (8,q0) else (3,.mk (if (phrW body).length=1 then 2 else 3) (phrW body) 0 [])
def wordQ (s:Str):Str:=s.takeWhile fun d => !stpC d
def tokC (c:UInt8) (t:Str):Int × Qry × Nat :=
 if c=40 then (1,q0,1) else if c=41 then (2,q0,1) else if c=34 then (match fstL 34 t with
   | none=>(8,q0,0)
   | some p=>((phraseQ p.1).1,(phraseQ p.1).2,p.1.length+2))
  else ((pieceQ (lowS (wordQ (c :: t)))).1,(pieceQ (lowS (wordQ (c :: t)))).2,(wordQ (c :: t)).length)
def tokQ:Str→Int × Qry × Nat
 | []=>(0,q0,0)
 | c :: t=>tokC c t
def skpQ (s:Str) (a:Nat):Nat:=a+((s.drop a).takeWhile blkC).length
def nextQ (s:Str) (a:Nat):Tk × Nat:=(⟨(tokQ (s.drop (skpQ s a))).1,skpQ s a,(tokQ (s.drop (skpQ s a))).2.1⟩,skpQ s a+(tokQ (s.drop (skpQ s a))).2.2)
def toksF (s:Str):Nat→Nat→List Tk
 | 0,_=>[]
 | f+1,a=>if (nextQ s a).1.kind=0∨(nextQ s a).1.kind=8 then [(nextQ s a).1] else (nextQ s a).1 :: toksF s f (nextQ s a).2
def toksQ (s:Str) (a:Nat):List Tk:=toksF s (s.length+1 - a) a
theorem piece_kind (s:Str):(pieceQ s).1≠0:=by
 unfold pieceQ slashQ colonQ
 repeat' split
 all_goals first | decide | (simp; done)
theorem phrase_kind (s:Str):(phraseQ s).1=8∨(phraseQ s).1=3:=by
 unfold phraseQ
 split
 ·exact .inl rfl
 ·exact .inr rfl
theorem skp_le (s:Str) {a:Nat} (h:a≤s.length):a≤skpQ s a∧skpQ s a≤s.length:=by
 unfold skpQ;have:=(List.takeWhile_prefix (l:=s.drop a) blkC).length_le;rw [List.length_drop] at this
 omega
theorem fstL_le {c:UInt8}:∀ {s:Str} {p:Str × Str},fstL c s=some p→p.1.length+1≤s.length
 | [],p,h=>by cases h
 | d :: t,p,h=>by
  unfold fstL at h
  split at h
  ·cases h; simp
  ·obtain ⟨r,hr,rfl⟩:=Option.map_eq_some_iff.1 h;have:=fstL_le hr;simp
   omega
theorem word_pos {c:UInt8} {t:Str} (h:stpC c=false):1≤(wordQ (c :: t)).length:=by
 unfold wordQ;rw [List.takeWhile_cons,show (!stpC c)=true by simpa using h];simp
theorem word_le (s:Str):(wordQ s).length≤s.length:=(List.takeWhile_prefix _).length_le
theorem tokC_len (c:UInt8) (t:Str) (hb:blkC c=false):(tokC c t).2.2≤t.length+1∧(tokC c t).1≠0∧((tokC c t).1≠8→1≤(tokC c t).2.2):=by
 unfold tokC
 by_cases h1:c=40
 ·rw [if_pos h1]; exact ⟨by simp,by decide,fun _=>Nat.le_refl _⟩
 rw [if_neg h1]
 by_cases h2:c=41
 ·rw [if_pos h2]; exact ⟨by simp,by decide,fun _=>Nat.le_refl _⟩
 rw [if_neg h2]
 by_cases h3:c=34
 ·rw [if_pos h3]
  cases hf:fstL 34 t with
  | none=>exact ⟨by simp,by decide,fun h=>absurd rfl h⟩
  | some p =>
   have:=fstL_le hf;refine ⟨by simp; omega,fun h => ?_,fun _=>by simp⟩
   rcases phrase_kind p.1 with h2 | h2 <;> simp only at h <;> rw [h2] at h <;> cases h
 rw [if_neg h3];refine ⟨by have:=word_le (c :: t); simpa using this,piece_kind _,fun _=>word_pos ?_⟩;simp [blkC] at hb;simp [stpC,hb,h1,h2,h3]
theorem skp_head (s:Str) {a:Nat} {c:UInt8} {t:Str} (h:s.drop (skpQ s a)=c :: t):blkC c=false:=by
 unfold skpQ at h;rw [← List.drop_drop] at h
 have h2:∀ l:Str,l.drop (l.takeWhile blkC).length=c :: t→blkC c=false:=by
  intro l
  induction l with
  | nil=>intro h; simp at h
  | cons d l ih =>
   intro h;rw [List.takeWhile_cons] at h
   by_cases hd:blkC d=true
   ·rw [if_pos hd] at h;simp only [List.length_cons,List.drop_succ_cons] at h;exact ih h
   ·rw [if_neg hd] at h;simp at h;rw [← h.1]; simpa using hd
 exact h2 _ h
theorem next_len (s:Str) {a:Nat} (h:a≤s.length):(nextQ s a).2≤s.length∧((nextQ s a).1.kind=0→(nextQ s a).1.pos=s.length)∧((nextQ s a).1.kind≠0→(nextQ s a).1.kind≠8→a+1≤(nextQ s a).2):=by
 obtain ⟨h1,h2⟩:=skp_le s h
 show skpQ s a+(tokQ (s.drop (skpQ s a))).2.2≤s.length∧((tokQ (s.drop (skpQ s a))).1=0→skpQ s a=s.length)∧((tokQ (s.drop (skpQ s a))).1≠0→(tokQ (s.drop (skpQ s a))).1≠8→a+1≤skpQ s a+(tokQ (s.drop (skpQ s a))).2.2)
 have hl:(s.drop (skpQ s a)).length=s.length - skpQ s a:=List.length_drop;have hh:∀ c t,s.drop (skpQ s a)=c :: t→blkC c=false:=fun c t=>skp_head s
 cases hd:s.drop (skpQ s a) with
 | nil =>
  rw [hd] at hl;simp only [List.length_nil] at hl;exact ⟨by show skpQ s a+0≤_; omega,fun _=>by omega,fun h=>absurd rfl h⟩
 | cons c t =>
  rw [hd] at hl;obtain ⟨h3,h4,h5⟩:=tokC_len c t (hh c t hd);simp only [List.length_cons] at hl;exact ⟨by show skpQ s a+(tokC c t).2.2≤_; omega,fun h=>absurd h h4,fun _ h8=>by have:=h5 h8; show a+1≤skpQ s a+(tokC c t).2.2; omega⟩
theorem toksF_fuel (s:Str):∀ (f g a:Nat),a≤s.length→s.length+1≤f+a→s.length+1≤g+a→toksF s f a=toksF s g a
 | 0,g,a,h,h1,h2=>by omega
 | f+1,0,a,h,h1,h2=>by omega
 | f+1,g+1,a,h,h1,h2=>by
  unfold toksF;obtain ⟨h3,h4,h5⟩:=next_len s h
  split
  ·rfl
  ·rename_i hk
   have:=h5 (fun e=>hk (.inl e)) (fun e=>hk (.inr e));rw [toksF_fuel s f g _ h3 (by omega) (by omega)]
theorem toks_eq (s:Str) {a:Nat} (h:a≤s.length):toksQ s a=if (nextQ s a).1.kind=0∨(nextQ s a).1.kind=8 then [(nextQ s a).1] else (nextQ s a).1 :: toksQ s (nextQ s a).2:=by
 unfold toksQ;rw [show s.length+1 - a=(s.length - a)+1 by omega,toksF];obtain ⟨h3,h4,h5⟩:=next_len s h
 split
 ·rfl
 ·rename_i hk
  have:=h5 (fun e=>hk (.inl e)) (fun e=>hk (.inr e));rw [toksF_fuel s _ (s.length+1 - (nextQ s a).2) _ h3 (by omega) (by omega)]
theorem toksF_le (s:Str):∀ (f a:Nat),(toksF s f a).length≤f
 | 0,_=>Nat.le_refl _
 | f+1,a=>by
  unfold toksF
  split
  ·simp
  ·have:=toksF_le s f (nextQ s a).2;simp
   omega
theorem toks_len (s:Str) (a:Nat):(toksQ s a).length≤s.length+1 - a:=toksF_le s _ a
abbrev PR:=List Tk ⊕ (Qry × List Tk)
def kdL:List Tk→Int | []=>0 | t :: _=>t.kind
def qL:List Tk→Qry | []=>q0 | t :: _=>t.q
def closeP:PR→PR
 | .inl l => .inl l
 | .inr (q,l)=>if kdL l=2 then .inr (q,l.tail) else .inl l
def pPart (rec:List Tk→PR) (L:List Tk):PR :=
 if kdL L=3 then .inr (qL L,L.tail) else if kdL L=1 then closeP (rec L.tail) else .inl L
def pNearL (rec:List Tk→PR):Nat→Qry→List Tk→PR
 | 0,_,L => .inl L
 | f+1,q,L=>if kdL L=7 then (match pPart rec L.tail with
   | .inl l => .inl l
   | .inr (b,l)=>pNearL rec f (.mk (qL L).kind [] (qL L).num [q,b]) l) else .inr (q,L)
def pNear (rec:List Tk→PR) (f:Nat) (L:List Tk):PR:=match pPart rec L with
 | .inl l => .inl l
 | .inr (q,l)=>pNearL rec f q l
def notN:Nat→Qry→Qry
 | 0,q=>q
 | n+1,q=>notN n (.mk 8 [] 0 [q])
def notP (n:Nat):PR→PR
 | .inl l => .inl l
 | .inr (q,l) => .inr (notN n q,l)
def notL (L:List Tk):Nat:=(L.takeWhile fun t=>t.kind == 6).length
def pNot (rec:List Tk→PR) (f:Nat) (L:List Tk):PR:=notP (notL L) (pNear rec f (L.drop (notL L)))
def pSevL (kind between:Int) (el:List Tk→PR):Nat→List Qry→List Tk→PR
 | 0,_,L => .inl L
 | f+1,qs,L=>if kdL L=between then (match el L.tail with
   | .inl l => .inl l
   | .inr (q,l)=>pSevL kind between el f (qs ++ [q]) l) else .inr (.mk kind [] 0 qs,L)
def pSev (kind between:Int) (el:List Tk→PR) (f:Nat) (L:List Tk):PR:=match el L with
 | .inl l => .inl l
 | .inr (q,l)=>if kdL l=between then pSevL kind between el f [q] l else .inr (q,l)
def pOr:Nat→List Tk→PR
 | 0,L => .inl L
 | f+1,L=>pSev 7 5 (pSev 6 4 (pNot (pOr f) f) f) f L
end Go.Proofs.YtnfflgicngeekaaGreatDoor
/-
 DERIVED: THE SHELF's CONTRACTS AT THIS DUMP,IN PLAIN WORDS (tools/lay-plain.mjs out of 'YtnfflgicngeekaaGreatDoorLayCln.lean',which tools/lay-shelf.mjs wrote): THE SAME DECLARATIONS UNDER THE SAME NAMES: 'import','namespace','open','def','theorem' AND NOTHING ELSE: no command of the shelf's: FOR A HAND-IN. Each laying: the table of numbers ('.._ren') and one theorem,a field a fact of the dump's own or the kernel's comparison; each contract: ONE APPLICATION.
-/
namespace Go.Proofs
open Go.Shelf
def Tryz.laysNm216_ren:Go.Shelf.Ren:=⟨fun | 16=>140 | n=>n,fun | 24=>26 | 9=>9 | 4=>4 | n=>n,fun | n=>n⟩
theorem Tryz.laysNm216:Go.Proofs.Lays2.n16 Tryz.prog Tryz.laysNm216_ren:={
 mixed:=by kernel_rfl
 f16:=Tryz.func140.trans (congrArg some (by kernel_rfl))
 t4:=Tryz.underlying4
 a4:=Tryz.isAgg4
 z4:=Tryz.sizeOf4
 v4:=Tryz.zeroValue4
 t9:=Tryz.underlying9
 a9:=Tryz.isAgg9
 z9:=Tryz.sizeOf9
 v9:=Tryz.zeroValue9
 t24:=Tryz.underlying26
 a24:=Tryz.isAgg26
 z24:=Tryz.sizeOf26
 v24:=Tryz.zeroValue26
 i9:=by kernel_rfl }
end Go.Proofs
namespace Go.Proofs.YtnfflgicngeekaaGreatDoor
open Go.RowKit
def OwnCPost (w:World) (xs:List Str) (e:Ending) (w':World):Prop:=∃ v,e = .returned v∧w'.ownsRow w.heap.size 9 1 v xs.length (strsV xs)∧Pure w w'
theorem cloneC_calls (w:World) (v:Value) (xs:List Str) (hv:Sl w 9 1 v (strsV xs)) (hl:xs.length≤1000000):Calls Tryz.prog 140 #[v] w (OwnCPost w xs):=by
 obtain ⟨A,n,c,rfl,h1,h2,h3,h4⟩:=hv
 have hn:xs.length=n:=by simpa [strsV] using h3
 subst hn
 cases A with
 | none =>
  have h0:xs.length=0:=by
   rcases Nat.eq_zero_or_pos xs.length with h | h
   ·exact h
   ·obtain ⟨g,off,h,_⟩:=h4 h
    cases h
  have e:xs=[]:=List.eq_nil_of_length_eq_zero h0;subst e;refine (Any.slices_Clone_string_nil Tryz.laysNm216 _ c w).mono ?_;rintro e w' ⟨rfl,rfl⟩;exact ⟨_,rfl,⟨rfl,.inl ⟨rfl,rfl⟩⟩,Mod.refl _ _⟩
 | some a =>
  rcases Nat.eq_zero_or_pos xs.length with h0 | h0
  ·have e:xs=[]:=List.eq_nil_of_length_eq_zero h0;subst e;refine (Any.slices_Clone_string_zero Tryz.laysNm216 a c w).mono ?_;rintro e w' ⟨v',rfl,hown,_,hb⟩;exact ⟨_,rfl,hown,Mod.of_below hb⟩
  ·obtain ⟨g,off,ha,hr⟩:=h4 h0
   injection ha with ha
   subst ha;refine (Any.slices_Clone_string Tryz.laysNm216 g off xs.length c (xs.map fun l=>⟨l.toArray⟩) w (by simp) (by omega) (fun j hj => ?_)).mono ?_
   ·have hj':j<xs.length:=(by simpa using hj);rw [hr.cell (strsV_get xs j hj')];simp [List.getD,hj']
   ·rintro e w' ⟨v',rfl,hown,_,hb⟩;refine ⟨_,rfl,?_,Mod.of_below hb⟩;rw [List.take_of_length_le (by simp),List.map_map] at hown;exact hown
def Asc (w:World):Prop:=Lib.TabIs Tryz.prog w "strings.asciiSpace" .u8 Lib.asciiSpaceTab
theorem asc_g:Tryz.prog.globalNamed "strings.asciiSpace" = some 4:=by kernel_rfl
theorem Asc.mod {w w':World} {S:Nat→Prop} (h:Asc w) (hm:Mod S w w') (hs:¬ S 4):Asc w':=by
 unfold Asc Lib.TabIs World.var? at h ⊢;rw [asc_g] at h ⊢;simp only [Option.bind_some] at h ⊢
 cases hh:w.heap[4]? with
 | none=>rw [hh] at h; cases h
 | some o =>
  rw [hm.block _ (lt_of_heap hh) hs];exact h
theorem Asc.pure {w w' : World} (h : Asc w) (hm : Pure w w') : Asc w' := h.mod hm id -- 4
def ws5:List Str:=[[97,115,107],[97],[111,110,101],[110,111,110,101],[98]]
end Go.Proofs.YtnfflgicngeekaaGreatDoor
namespace Go.Proofs.YtnfflgicngeekaaGreatDoor
open Go.RowKit
def TwoB (Z:World) (g gr:Nat) (t1 t2:TypeId) (c1 c2:Array Value):Prop:=Blk Z g t1 c1∧Blk Z gr t2 c2
theorem TwoB.far {Z:World} {g gr q:Nat} {t1 t2:TypeId} {c1 c2:Array Value} (h:TwoB Z g gr t1 t2 c1 c2) (h1:g≠q) (h2:gr≠q) (j:Nat) (u:Value):TwoB (Z.setCell ⟨q,j,none⟩ u) g gr t1 t2 c1 c2:=⟨h.1.far h1 u,h.2.far h2 u⟩
theorem inI_calls (w:World) (n lo hi:Int):Calls Tryz.prog 65 #[.int .i64 n,.int .i64 lo,.int .i64 hi] w (BoolPost w (decide (lo≤n) && decide (n≤hi))):=by
 go_enter Tryz.func65,Tryz.ntmps65
 by_cases h:lo≤n
 ·go_wp2_with fail;go_ret;exact BoolPost.of (by simp [h]) (Mod.refl _ _)
 ·go_wp2_with fail;go_ret;exact BoolPost.of (by rw [decide_eq_false (show ¬ lo≤n by omega)]; rfl) (Mod.refl _ _)
end Go.Proofs.YtnfflgicngeekaaGreatDoor
/-
 DERIVED: THE SHELF's CONTRACTS AT THIS DUMP,IN PLAIN WORDS (tools/lay-plain.mjs out of 'YtnfflgicngeekaaGreatDoorLayWra.lean',which tools/lay-shelf.mjs wrote): THE SAME DECLARATIONS UNDER THE SAME NAMES: 'import','namespace','open','def','theorem' AND NOTHING ELSE: no command of the shelf's: FOR A HAND-IN. Each laying: the table of numbers ('.._ren') and one theorem,a field a fact of the dump's own or the kernel's comparison; each contract: ONE APPLICATION.
-/
namespace Go.Proofs
open Go.Shelf
def Tryz.lays103_ren:Go.Shelf.Ren:=⟨fun | 103=>240 | 210=>271 | 206=>201 | n=>n,fun | 9=>9 | 4=>4 | 24=>194 | 3=>3 | n=>n,fun | n=>n⟩
theorem Tryz.lays103:Go.Proofs.Lays.n103 Tryz.prog Tryz.lays103_ren:={
 mixed:=by kernel_rfl
 f103:=Tryz.func240.trans (congrArg some (by kernel_rfl))
 f206:=Tryz.func201.trans (congrArg some (by kernel_rfl))
 f210:=Tryz.func271.trans (congrArg some (by kernel_rfl))
 t3:=Tryz.underlying3
 a3:=Tryz.isAgg3
 z3:=Tryz.sizeOf3
 v3:=Tryz.zeroValue3
 t4:=Tryz.underlying4
 a4:=Tryz.isAgg4
 z4:=Tryz.sizeOf4
 v4:=Tryz.zeroValue4
 t9:=Tryz.underlying9
 a9:=Tryz.isAgg9
 z9:=Tryz.sizeOf9
 v9:=Tryz.zeroValue9
 t24:=Tryz.underlying194
 a24:=Tryz.isAgg194
 z24:=Tryz.sizeOf194
 v24:=Tryz.zeroValue194 }
end Go.Proofs
/-
 DERIVED: THE SHELF's CONTRACTS AT THIS DUMP,IN PLAIN WORDS (tools/lay-plain.mjs out of 'YtnfflgicngeekaaGreatDoorLayAto.lean',which tools/lay-shelf.mjs wrote): THE SAME DECLARATIONS UNDER THE SAME NAMES: 'import','namespace','open','def','theorem' AND NOTHING ELSE: no command of the shelf's: FOR A HAND-IN. Each laying: the table of numbers ('.._ren') and one theorem,a field a fact of the dump's own or the kernel's comparison; each contract: ONE APPLICATION.
-/
namespace Go.Proofs
open Go.Shelf
def Tryz.lays172_ren:Go.Shelf.Ren:=⟨fun | 172=>283 | 244=>304 | 245=>305 | 247=>314 | 279=>315 | 280=>316 | 281=>317 | 282=>318 | 287=>322 | 316=>323 | 171=>48 | 205=>324 | 321=>325 | 322=>326 | 243=>114 | 246=>188 | 283=>230 | 284=>231 | 285=>232 | 286=>233 | 129=>264 | 317=>263 | 318=>265 | 319=>266 | 320=>267 | 337=>284 | 338=>285 | n=>n,fun | 9=>9 | 3=>3 | 75=>146 | 76=>147 | 4=>4 | 5=>5 | 167=>312 | 37=>141 | 0=>0 | 85=>313 | 2=>2 | 168=>315 | 53=>224 | 175=>331 | 46=>180 | 210=>334 | 127=>213 | 145=>341 | 143=>339 | 21=>21 | 171=>251 | 173=>254 | 212=>279 | 51=>221 | 20=>20 | 213=>280 | 232=>299 | 233=>300 | 80=>65 | n=>n,fun | 15=>8 | 16=>9 | 17=>2 | 18=>5 | 19=>6 | n=>n⟩
theorem Tryz.lays172:Go.Proofs.Lays.n172 Tryz.prog Tryz.lays172_ren:={
 mixed:=by kernel_rfl
 f129:=Tryz.func264.trans (congrArg some (by kernel_rfl))
 f171:=Tryz.func48.trans (congrArg some (by kernel_rfl))
 f172:=Tryz.func283.trans (congrArg some (by kernel_rfl))
 f205:=Tryz.func324.trans (congrArg some (by kernel_rfl))
 f243:=Tryz.func114.trans (congrArg some (by kernel_rfl))
 f244:=Tryz.func304.trans (congrArg some (by kernel_rfl))
 f245:=Tryz.func305.trans (congrArg some (by kernel_rfl))
 f246:=Tryz.func188.trans (congrArg some (by kernel_rfl))
 f247:=Tryz.func314.trans (congrArg some (by kernel_rfl))
 f279:=Tryz.func315.trans (congrArg some (by kernel_rfl))
 f280:=Tryz.func316.trans (congrArg some (by kernel_rfl))
 f281:=Tryz.func317.trans (congrArg some (by kernel_rfl))
 f282:=Tryz.func318.trans (congrArg some (by kernel_rfl))
 f283:=Tryz.func230.trans (congrArg some (by kernel_rfl))
 f284:=Tryz.func231.trans (congrArg some (by kernel_rfl))
 f285:=Tryz.func232.trans (congrArg some (by kernel_rfl))
 f286:=Tryz.func233.trans (congrArg some (by kernel_rfl))
 f287:=Tryz.func322.trans (congrArg some (by kernel_rfl))
 f316:=Tryz.func323.trans (congrArg some (by kernel_rfl))
 f317:=Tryz.func263.trans (congrArg some (by kernel_rfl))
 f318:=Tryz.func265.trans (congrArg some (by kernel_rfl))
 f319:=Tryz.func266.trans (congrArg some (by kernel_rfl))
 f320:=Tryz.func267.trans (congrArg some (by kernel_rfl))
 f321:=Tryz.func325.trans (congrArg some (by kernel_rfl))
 f322:=Tryz.func326.trans (congrArg some (by kernel_rfl))
 f337:=Tryz.func284.trans (congrArg some (by kernel_rfl))
 f338:=Tryz.func285.trans (congrArg some (by kernel_rfl))
 t0:=Tryz.underlying0
 a0:=Tryz.isAgg0
 z0:=Tryz.sizeOf0
 v0:=Tryz.zeroValue0
 t2:=Tryz.underlying2
 a2:=Tryz.isAgg2
 z2:=Tryz.sizeOf2
 v2:=Tryz.zeroValue2
 t3:=Tryz.underlying3
 a3:=Tryz.isAgg3
 z3:=Tryz.sizeOf3
 v3:=Tryz.zeroValue3
 t4:=Tryz.underlying4
 a4:=Tryz.isAgg4
 z4:=Tryz.sizeOf4
 v4:=Tryz.zeroValue4
 t5:=Tryz.underlying5
 a5:=Tryz.isAgg5
 z5:=Tryz.sizeOf5
 v5:=Tryz.zeroValue5
 t9:=Tryz.underlying9
 a9:=Tryz.isAgg9
 z9:=Tryz.sizeOf9
 v9:=Tryz.zeroValue9
 t20:=Tryz.underlying20
 a20:=Tryz.isAgg20
 z20:=Tryz.sizeOf20
 v20:=Tryz.zeroValue20
 t21:=Tryz.underlying21
 a21:=Tryz.isAgg21
 z21:=Tryz.sizeOf21
 v21:=Tryz.zeroValue21
 t37:=Tryz.underlying141
 a37:=Tryz.isAgg141
 z37:=Tryz.sizeOf141
 v37:=Tryz.zeroValue141
 t46:=Tryz.underlying180
 a46:=Tryz.isAgg180
 z46:=Tryz.sizeOf180
 v46:=Tryz.zeroValue180
 t51:=Tryz.underlying221
 a51:=Tryz.isAgg221
 z51:=Tryz.sizeOf221
 v51:=Tryz.zeroValue221
 t53:=Tryz.underlying224
 a53:=Tryz.isAgg224
 z53:=Tryz.sizeOf224
 v53:=Tryz.zeroValue224
 t75:=Tryz.underlying146
 a75:=Tryz.isAgg146
 z75:=Tryz.sizeOf146
 v75:=Tryz.zeroValue146
 t76:=Tryz.underlying147
 a76:=Tryz.isAgg147
 z76:=Tryz.sizeOf147
 v76:=Tryz.zeroValue147
 t85:=Tryz.underlying313
 a85:=Tryz.isAgg313
 z85:=Tryz.sizeOf313
 v85:=Tryz.zeroValue313
 t127:=Tryz.underlying213
 a127:=Tryz.isAgg213
 z127:=Tryz.sizeOf213
 v127:=Tryz.zeroValue213
 t143:=Tryz.underlying339
 a143:=Tryz.isAgg339
 z143:=Tryz.sizeOf339
 v143:=Tryz.zeroValue339
 t145:=Tryz.underlying341
 a145:=Tryz.isAgg341
 z145:=Tryz.sizeOf341
 v145:=Tryz.zeroValue341
 t167:=Tryz.underlying312
 a167:=Tryz.isAgg312
 z167:=Tryz.sizeOf312
 v167:=Tryz.zeroValue312
 t168:=Tryz.underlying315
 a168:=Tryz.isAgg315
 z168:=Tryz.sizeOf315
 v168:=Tryz.zeroValue315
 t171:=Tryz.underlying251
 a171:=Tryz.isAgg251
 z171:=Tryz.sizeOf251
 v171:=Tryz.zeroValue251
 t173:=Tryz.underlying254
 a173:=Tryz.isAgg254
 z173:=Tryz.sizeOf254
 v173:=Tryz.zeroValue254
 t175:=Tryz.underlying331
 a175:=Tryz.isAgg331
 z175:=Tryz.sizeOf331
 v175:=Tryz.zeroValue331
 t210:=Tryz.underlying334
 a210:=Tryz.isAgg334
 z210:=Tryz.sizeOf334
 v210:=Tryz.zeroValue334
 t212:=Tryz.underlying279
 a212:=Tryz.isAgg279
 z212:=Tryz.sizeOf279
 v212:=Tryz.zeroValue279
 t213:=Tryz.underlying280
 a213:=Tryz.isAgg280
 z213:=Tryz.sizeOf280
 t232:=Tryz.underlying299
 a232:=Tryz.isAgg299
 z232:=Tryz.sizeOf299
 v232:=Tryz.zeroValue299
 t233:=Tryz.underlying300
 a233:=Tryz.isAgg300
 z233:=Tryz.sizeOf300
 v233:=Tryz.zeroValue300
 g15:=by kernel_rfl
 g16:=by kernel_rfl
 g17:=by kernel_rfl
 g18:=by kernel_rfl
 g19:=by kernel_rfl }
end Go.Proofs
/-
 DERIVED: THE SHELF's CONTRACTS AT THIS DUMP,IN PLAIN WORDS (tools/lay-plain.mjs out of 'YtnfflgicngeekaaGreatDoorLayIto.lean',which tools/lay-shelf.mjs wrote): THE SAME DECLARATIONS UNDER THE SAME NAMES: 'import','namespace','open','def','theorem' AND NOTHING ELSE: no command of the shelf's: FOR A HAND-IN. Each laying: the table of numbers ('.._ren') and one theorem,a field a fact of the dump's own or the kernel's comparison; each contract: ONE APPLICATION.
-/
namespace Go.Proofs
open Go.Shelf
end Go.Proofs
namespace Go.Proofs.YtnfflgicngeekaaGreatDoor
open Go.RowKit
def Pow (w:World):Prop:=Lib.TabIs Tryz.prog w "internal/strconv.uint64pow10" .u64 Lib.pow10Tab
theorem pow_g:Tryz.prog.globalNamed "internal/strconv.uint64pow10" = some 2:=by kernel_rfl
theorem Pow.mod {w w':World} {S:Nat→Prop} (h:Pow w) (hm:Mod S w w') (hs:¬ S 2):Pow w':=by
 unfold Pow Lib.TabIs World.var? at h ⊢;rw [pow_g] at h ⊢;simp only [Option.bind_some] at h ⊢
 cases hh:w.heap[2]? with
 | none=>rw [hh] at h; cases h
 | some o =>
  rw [hm.block _ (lt_of_heap hh) hs];exact h
theorem Pow.pure {w w':World} (h:Pow w) (hm:Pure w w'):Pow w':=h.mod hm id
theorem Pow.lt {w:World} (h:Pow w):2<w.heap.size:=by
 unfold Pow Lib.TabIs World.var? at h;rw [pow_g] at h;simp only [Option.bind_some] at h
 cases hh:w.heap[2]? with
 | none=>rw [hh] at h; cases h
 | some o=>exact lt_of_heap hh
theorem atoiW_calls (w:World) (s:Str) (n:Int) (hs:s.length≤18) (h:Lib.atoi s=some n):Calls Tryz.prog 283 #[.string ⟨s.toArray⟩] w (fun e w'=>e = .returned (.tuple #[.int .i64 n,.nilIface])∧Pure w w'):=by
 refine (Any.strconv_Atoi Tryz.lays172 ⟨s.toArray⟩ n (by simpa [ByteArray.size] using hs) (by simpa using h) w).mono ?_;rintro e w' ⟨rfl,t,rfl⟩;exact ⟨rfl,Mod.of_below (Joins.below_bytesWorld _ _ _ _ (Nat.le_refl _))⟩
def NumPost (w:World) (o:Option Int) (e:Ending) (w':World):Prop:=∃ v:Int,e = .returned (.tuple #[.int .i64 v,.bool o.isSome])∧(∀ n,o=some n→v=n) ∧ -1000000000<v∧v<1000000000∧Pure w w'
theorem NumPost.no {w w':World} {o:Option Int} (h:o=none) (hm:Pure w w'):NumPost w o (.returned (.tuple #[.int .i64 0,.bool false])) w' :=
 ⟨0,by rw [h]; rfl,fun n hn=>(by rw [h] at hn; cases hn),by omega,by omega,hm⟩
theorem numQ_none1 {D:Nat} {s:Str} (h:¬ numD D (numT s)):numQ D s=none:=by unfold numQ; rw [if_neg (fun hh=>h hh.1)]
theorem numQ_none2 {D:Nat} {s:Str} (h:¬ numC s):numQ D s=none:=by unfold numQ; rw [if_neg (fun hh=>h hh.2)]
theorem allD_take {l:Str} {k:Nat} (h:k<l.length):(l.take (k+1)).all digB=((l.take k).all digB && digB l[k]):=by
 rw [List.take_succ_eq_append_getElem h,List.all_append]; simp
theorem numD_fail {D:Nat} {l:Str} {k:Nat} (h:k<l.length) (hk:digB l[k]=false):¬ numD D l:=fun hh=>by
 have:=hh.2.2 l[k] (List.getElem_mem h);rw [hk] at this
 cases this
theorem number_calls (w:World) (s:Str) (D:Nat) (hD:D≤9) (hs:s.length≤1000000):Calls Tryz.prog 261 #[.string ⟨s.toArray⟩,.int .i64 (D:Int)] w (NumPost w (numQ D s)):=by
 have hcp:=Any.strings_CutPrefix Tryz.lays103 ⟨s.toArray⟩ ⟨#[45]⟩ w
 change Calls Tryz.prog 240 _ _ (fun e w'=>e = .returned (.tuple #[.string ⟨(numT s).toArray⟩,.bool (numMi s)])∧w'=w) at hcp
 have HCP:=hd_ hcp;obtain ⟨d,hd⟩:∃ d,numT s=d:=⟨_,rfl⟩;obtain ⟨mi,hmi⟩:∃ mi,numMi s=mi:=⟨_,rfl⟩;have HQ1:Hid (¬ numD D d→numQ D s=none):=hd_ (fun h=>numQ_none1 (by rw [hd]; exact h));have HQ2:Hid (¬ (canD d∧¬ (mi=true∧d=[48]))→numQ D s=none):=hd_ (fun h=>numQ_none2 (by unfold numC; rw [hd,hmi]; exact h))
 have HQ3:Hid (numD D d→canD d∧¬ (mi=true∧d=[48])→∃ n,numQ D s=some n∧Lib.atoi s=some n ∧ -1000000000<n∧n<1000000000∧s.length≤10):=hd_ (fun h1 h2=>by
  rw [← hd] at h1 h2;rw [← hmi] at h2;obtain ⟨n,e,b1,b2,_,b3⟩:=num_atoi h1 hD
  exact ⟨n,by unfold numQ; rw [if_pos ⟨h1,h2⟩]; exact e,e,b1,b2,b3⟩)
 rw [hd,hmi] at HCP
 have hdl:d.length≤s.length:=by rw [← hd]; unfold numT Lib.trimPrefix; split <;> simp
 have hds:(⟨d.toArray⟩:ByteArray).size=d.length:=by simp [ByteArray.size]
 clear hcp hd hmi
 go_enter Tryz.func261,Tryz.ntmps261
 go_wp2_with fail;refine HCP.out.mono ?_;rintro e w1 ⟨rfl,rfl⟩;have HIN:=hd_ (inI_calls w1 (d.length:Int) 1 (D:Int));rw [← hds] at HIN;obtain ⟨db,hdb⟩:∃ db:ByteArray,db=⟨d.toArray⟩:=⟨_,rfl⟩;rw [← hdb] at HIN hds ⊢;have HDB:=hd_ hdb;have HDL:Hid (db.size=d.length):=hd_ hds;have HGET:Hid (∀ k (h:k<db.size) (h2:k<d.length),db[k]=d[k]):=hd_ (by subst hdb; intro k h h2; rfl);clear hds hdb HCP;go_upto_region 2 with (fail)
 go_cut [37] (fun p wy=>∃ fl:Bool,p = .bool fl∧Pure w1 wy∧(fl=true→numQ D s=none)∧(fl=false→1≤d.length∧d.length≤D∧canD d∧¬ (mi=true∧d=[48])))
 case first =>
  go_wp2_with fail;refine HIN.out.mono ?_;rintro e w2 ⟨rfl,hm2⟩;have HM2:=hd_ hm2;clear hm2 HIN
  by_cases hin:1≤(db.size:Int)∧(db.size:Int)≤D
  rotate_left
  ·have hdec:(decide ((1:Int)≤(db.size:Int)) && decide ((db.size:Int)≤(D:Int)))=false:=by
    rw [Bool.and_eq_false_iff]; simp only [decide_eq_false_iff_not]
    omega
   rw [hdec];have HN:=hd_ (HQ1.out (fun h=>hin (by have h1:=h.1; have h2:=h.2.1; have h3:=HDL.out; omega)));clear hin hdec HQ1 HQ2 HQ3;go_wp2_with fail;go_meet;exact ⟨true,rfl,HM2.out,fun _=>HN.out,fun h=>by cases h⟩
  have hdec:(decide ((1:Int)≤(db.size:Int)) && decide ((db.size:Int)≤(D:Int)))=true:=by
   rw [Bool.and_eq_true_iff]; simp only [decide_eq_true_eq]
   omega
  rw [hdec];clear hdec;have hpos:0<db.size:=(by omega)
  by_cases hlz:1<d.length∧d.headD 0=48
  ·have HN:=hd_ (HQ2.out (fun h=>h.1 hlz))
   have h1:(1:Int)<(db.size:Int):=by have:=HDL.out; omega
   have hx:((db[0].toNat:Int) == 48)=true:=by
    rw [HGET.out 0 hpos (by omega)];have h2:=hlz.2
    cases d with
    | nil=>simp at hlz
    | cons c t=>simp at h2; subst h2; rfl
   clear hlz HQ1 HQ2 HQ3;go_wp2_with fail;go_meet;exact ⟨true,rfl,HM2.out,fun _=>HN.out,fun h=>by cases h⟩
  have hlz2:¬ (1:Int)<(db.size:Int)∨((1:Int)<(db.size:Int)∧((db[0].toNat:Int) == 48)=false):=by
   by_cases h1:(1:Int)<(db.size:Int)
   ·refine .inr ⟨h1,?_⟩;rw [beq_eq_false_iff_ne];intro h2;refine hlz ⟨by have:=HDL.out; omega,?_⟩;rw [HGET.out 0 hpos (by have:=HDL.out; omega)] at h2
    cases d with
    | nil=>have:=HDL.out; rw [List.length_nil] at this; omega
    | cons c t=>exact UInt8.toNat_inj.mp (by have h3:((c.toNat:Int))=48:=h2; show c.toNat=48; omega)
   ·exact .inl h1
  by_cases hmz:mi=true∧d=[48]
  ·have HN:=hd_ (HQ2.out (fun h=>h.2 hmz));obtain ⟨rfl,rfl⟩:=hmz;obtain rfl:=HDB.out;clear HQ1 HQ2 HQ3 hlz hlz2 HGET;go_wp2_with fail;go_meet;exact ⟨true,rfl,HM2.out,fun _=>HN.out,fun h=>by cases h⟩
  have hmz2:mi=false∨(mi=true∧(d == [48])=false):=by
   cases mi with
   | false=>exact .inl rfl
   | true =>
    refine .inr ⟨rfl,?_⟩;rw [beq_eq_false_iff_ne];exact fun h=>hmz ⟨rfl,h⟩
  have HRES:Hid (1≤d.length∧d.length≤D∧canD d∧¬ (mi=true∧d=[48])):=hd_ ⟨by have:=HDL.out; omega,by have:=HDL.out; omega,hlz,hmz⟩;clear hmz hlz HQ1 HQ2 HQ3;obtain ⟨c0,hc0⟩:∃ c0:UInt8,db[0]=c0:=⟨_,rfl⟩;rw [hc0] at hlz2;have hlz3:¬ (1:Int)<(d.length:Int)∨((1:Int)<(d.length:Int)∧((c0.toNat:Int) == 48)=false∧¬ (c0.toNat:Int)=48∧¬ c0.toNat=48):=hlz2.imp (fun h=>by have:=HDL.out; omega) (fun h=>⟨by have:=HDL.out; have:=h.1; omega,h.2,by simpa using h.2,by have:=h.2; simp at this; omega⟩);clear hlz2;have hdb:=HDB.out;subst hdb;clear HDB HDL HGET
  rcases hlz3 with h1 | ⟨h1,h2,h2b,h2c⟩ <;> rcases hmz2 with rfl | ⟨rfl,h4⟩
  all_goals
   go_wp2_with fail;go_meet;exact ⟨false,rfl,HM2.out,fun h=>(by cases h),fun _=>HRES.out⟩
 case rest =>
  obtain ⟨fl,rfl,hm2,hno,hyes⟩:=hcut;have HM2:=hd_ hm2
  cases fl
  rotate_left
  ·have HN:=hd_ (hno rfl);clear hno hyes HQ1 HQ2 HQ3 hm2;go_wp2_with fail
   try simp only [Exit.inBlock,Exit.then]
   refine bodyPost_ret (v:=.tuple #[.int .i64 0,.bool false]) (by simp [results,Tryz.results261,go_sem]) rfl ?_;exact NumPost.no HN.out HM2.out
  obtain ⟨hl1,hl2,hcan,hnz⟩:=hyes rfl;have HQ4:Hid (numD D d→∃ n,numQ D s=some n∧Lib.atoi s=some n ∧ -1000000000<n∧n<1000000000∧s.length≤10):=hd_ (fun h=>HQ3.out h ⟨hcan,hnz⟩);clear hno hyes hm2 HQ2 HQ3 hcan hnz HIN;go_wp2_with fail
  go_loopg [40] db.size (fun gk i wr=>∃ k:Nat,db.size - k=gk∧k≤db.size∧i = .int .i64 (k:Int)∧(d.take k).all digB=true∧wr=wc)
  case atStart=>exact ⟨0,by omega,by omega,rfl,rfl,rfl⟩
  case round =>
   obtain ⟨k,rfl,hk,rfl,hall,rfl⟩:=hrel;have HA:=hd_ hall;clear hall
   by_cases hlt:k<db.size
   ·have hkd:k<d.length:=by have:=HDL.out; omega
    have hk9:k<9:=(by omega);have hix:=HGET.out k hlt hkd;have HSN:=hd_ (allD_take hkd);have HFA:=hd_ (fun h=>HQ1.out (numD_fail (D:=D) hkd h));rw [← hix] at HSN HFA;obtain ⟨c,hc⟩:∃ c,db[k]=c:=⟨_,rfl⟩;rw [hc] at HSN HFA;clear hix hkd;go_wp2_with fail;refine (digit_calls _ _).mono ?_;rintro e w' ⟨rfl,rfl⟩
    cases hd:digitB c.toNat
    ·have HN:=hd_ (HFA.out hd);clear hd HFA HSN HA;go_wp2_with fail
     try simp only [Exit.inBlock,Exit.then]
     refine bodyPost_ret (v:=.tuple #[.int .i64 0,.bool false]) (by simp [results,Tryz.results261,go_sem]) rfl ?_;exact NumPost.no HN.out HM2.out
    ·have hd2:digB c=true:=hd;go_wp2_with fail
     go_roundg (db.size - (k+1))
     case measure=>omega
     case rel=>exact ⟨k+1,rfl,hlt,by simp,by rw [HSN.out,HA.out,hd2]; rfl,rfl⟩
   ·obtain rfl:k=db.size:=by omega
    have hall:d.all digB=true:=by have:=HA.out; rwa [HDL.out,List.take_of_length_le (Nat.le_refl _)] at this
    obtain ⟨n,hn1,hn2,hn3,hn4,hn5⟩:=HQ4.out ⟨hl1,hl2,fun c hc=>List.all_eq_true.1 hall c hc⟩;have HAT:=hd_ (atoiW_calls wr s n (by omega) hn2);have HN:=hd_ hn1;clear hall hn1 hn2 HQ4 HA HQ1;go_wp2_with fail;refine HAT.out.mono ?_;rintro e w5 ⟨rfl,hm5⟩;clear HAT;go_upto_region 11 with (fail)
    go_quiet (fail)
    go_wp2_with fail
    try simp only [Exit.inBlock,Exit.then]
    refine bodyPost_ret (v:=.tuple #[.int .i64 n,.bool true]) (by simp [results,Tryz.results261,go_sem]) rfl ?_;rw [HN.out];exact ⟨n,rfl,(fun m hm=>(by cases hm; rfl)),hn3,hn4,(HM2.out.trans hm5).drewN _⟩
end Go.Proofs.YtnfflgicngeekaaGreatDoor
namespace Go.Proofs.YtnfflgicngeekaaGreatDoor
open Go.RowKit
def hv (x:Nat):Nat:=if 48≤x∧x≤57 then x - 48 else if 97≤(x ||| 32)∧(x ||| 32)≤122 then (x ||| 32) - 87 else 255
end Go.Proofs.YtnfflgicngeekaaGreatDoor
/-
 DERIVED: THE SHELF's CONTRACTS AT THIS DUMP,IN PLAIN WORDS (tools/lay-plain.mjs out of 'YtnfflgicngeekaaGreatDoorLaySyn.lean',which tools/lay-shelf.mjs wrote): THE SAME DECLARATIONS UNDER THE SAME NAMES: 'import','namespace','open','def','theorem' AND NOTHING ELSE: no command of the shelf's: FOR A HAND-IN. Each laying: the table of numbers ('.._ren') and one theorem,a field a fact of the dump's own or the kernel's comparison; each contract: ONE APPLICATION.
-/
namespace Go.Proofs
open Go.Shelf
end Go.Proofs
namespace Go.Proofs.YtnfflgicngeekaaGreatDoor
open Go.RowKit
def ErrS (w:World):Prop:=∃ te pe,w.cell? ⟨8,0,none⟩=some (.iface te pe)
theorem ErrS.pure {w w':World} (h:ErrS w) (hm:Pure w w'):ErrS w':=by
 obtain ⟨te,pe,h⟩:=h;exact ⟨te,pe,hm.keep h id⟩
def UnqAt (l:Str) (k:Nat) (acc:Str):Prop:=k≤l.length∧∃ f,(l.drop k).length<f∧unqF f (l.drop k) acc k=unqS l
theorem UnqAt.start (r:Str):UnqAt (34 :: r) 1 []:=⟨by simp,r.length+1,by simp,rfl⟩
theorem UnqAt.bad {l:Str} {k:Nat} {acc r:Str} {c:UInt8} (h:UnqAt l k acc) (hr:l.drop k=c :: r) (hc:c≠34) (hd:decP (c :: r)=none):unqS l=none:=by
 obtain ⟨_,f,h1,h2⟩:=h;rw [hr] at h1 h2;rw [← h2]
 match f,h1 with
 | f+1,_=>simp [unqF,hc,hd]
theorem UnqAt.next {l:Str} {k:Nat} {acc r:Str} {c d:UInt8} {n:Nat} (h:UnqAt l k acc) (hr:l.drop k=c :: r) (hc:c≠34) (hd:decP (c :: r)=some (d,n)):UnqAt l (k+n) (acc ++ [d])∧1≤n∧k+n≤l.length:=by
 obtain ⟨hk,f,h1,h2⟩:=h;obtain ⟨hn,hp⟩:=decP_some hd;have hle:=hp.length_le
 have h0:1≤n:=by
  rw [hn];unfold quoB
  split <;> (try split) <;> (try split) <;> simp
 have hlen:(l.drop k).length=l.length - k:=List.length_drop ..;rw [← hr,← hn,hlen] at hle;refine ⟨⟨by omega,?_⟩,h0,by omega⟩;rw [hr] at h1 h2
 match f,h1,h2 with
 | f+1,h1,h2 =>
  refine ⟨f,?_,?_⟩
  ·rw [List.length_drop];rw [← hr,hlen] at h1
   omega
  ·rw [← h2];simp only [unqF,hc,if_false,hd];rw [← hr,List.drop_drop]
end Go.Proofs.YtnfflgicngeekaaGreatDoor
namespace Go.Proofs.YtnfflgicngeekaaGreatDoor
open Go.RowKit
def NatlPost (w:World) (o:Option Int) (e:Ending) (w':World):Prop:=∃ v:Int,e = .returned (.tuple #[.int .i64 v,.bool (o.isSome && decide (0≤v))])∧(∀ n,o=some n→v=n) ∧ -1000000000<v∧v<1000000000∧Pure w w'
theorem natural_calls (w:World) (s:Str) (D:Nat) (hD:D≤9) (hs:s.length≤1000000):Calls Tryz.prog 227 #[.string ⟨s.toArray⟩,.int .i64 (D:Int)] w (NatlPost w (numQ D s)):=by
 have HN:=hd_ (number_calls w s D hD hs);generalize numQ D s=o at *
 go_enter Tryz.func227,Tryz.ntmps227
 go_wp2_with fail;refine HN.out.mono ?_;rintro e w1 ⟨v,rfl,h1,h2,h3,hm⟩;have H1:=hd_ h1;clear HN h1
 cases hb:o.isSome
 ·go_wp2_with fail;refine bodyPost_ret (v:=.tuple #[.int .i64 v,.bool false]) (by simp [results,Tryz.results227,go_sem]) rfl ?_;exact ⟨v,by rw [hb]; rfl,H1.out,h2,h3,hm⟩
 ·go_wp2_with fail;refine bodyPost_ret (v:=.tuple #[.int .i64 v,.bool (decide (0≤v))]) (by simp [results,Tryz.results227,go_sem]) rfl ?_;exact ⟨v,by rw [hb]; simp,H1.out,h2,h3,hm⟩
end Go.Proofs.YtnfflgicngeekaaGreatDoor
/-
 DERIVED: THE SHELF's CONTRACTS AT THIS DUMP,IN PLAIN WORDS (tools/lay-plain.mjs out of 'YtnfflgicngeekaaGreatDoorLayCut.lean',which tools/lay-shelf.mjs wrote): THE SAME DECLARATIONS UNDER THE SAME NAMES: 'import','namespace','open','def','theorem' AND NOTHING ELSE: no command of the shelf's: FOR A HAND-IN. Each laying: the table of numbers ('.._ren') and one theorem,a field a fact of the dump's own or the kernel's comparison; each contract: ONE APPLICATION.
-/
namespace Go.Proofs
open Go.Shelf
def Tryz.lays145_ren:Go.Shelf.Ren:=⟨fun | 145=>191 | 220=>236 | 219=>257 | 217=>238 | 225=>260 | 224=>259 | 267=>282 | 266=>270 | 314=>303 | n=>n,fun | 9=>9 | 4=>4 | 59=>214 | 3=>3 | 5=>5 | 46=>180 | 146=>222 | 51=>221 | n=>n,fun | 1=>3 | n=>n⟩
theorem Tryz.lays145:Go.Proofs.Lays.n145 Tryz.prog Tryz.lays145_ren:={
 mixed:=by kernel_rfl
 f145:=Tryz.func191.trans (congrArg some (by kernel_rfl))
 f217:=Tryz.func238.trans (congrArg some (by kernel_rfl))
 f219:=Tryz.func257.trans (congrArg some (by kernel_rfl))
 f220:=Tryz.func236.trans (congrArg some (by kernel_rfl))
 f224:=Tryz.func259.trans (congrArg some (by kernel_rfl))
 f225:=Tryz.func260.trans (congrArg some (by kernel_rfl))
 f266:=Tryz.func270.trans (congrArg some (by kernel_rfl))
 f267:=Tryz.func282.trans (congrArg some (by kernel_rfl))
 f314:=Tryz.func303.trans (congrArg some (by kernel_rfl))
 t3:=Tryz.underlying3
 a3:=Tryz.isAgg3
 z3:=Tryz.sizeOf3
 v3:=Tryz.zeroValue3
 t4:=Tryz.underlying4
 a4:=Tryz.isAgg4
 z4:=Tryz.sizeOf4
 v4:=Tryz.zeroValue4
 t5:=Tryz.underlying5
 a5:=Tryz.isAgg5
 z5:=Tryz.sizeOf5
 v5:=Tryz.zeroValue5
 t9:=Tryz.underlying9
 a9:=Tryz.isAgg9
 z9:=Tryz.sizeOf9
 v9:=Tryz.zeroValue9
 t46:=Tryz.underlying180
 a46:=Tryz.isAgg180
 z46:=Tryz.sizeOf180
 v46:=Tryz.zeroValue180
 t51:=Tryz.underlying221
 a51:=Tryz.isAgg221
 z51:=Tryz.sizeOf221
 v51:=Tryz.zeroValue221
 t59:=Tryz.underlying214
 a59:=Tryz.isAgg214
 z59:=Tryz.sizeOf214
 v59:=Tryz.zeroValue214
 t146:=Tryz.underlying222
 a146:=Tryz.isAgg222
 z146:=Tryz.sizeOf222
 v146:=Tryz.zeroValue222
 g1:=by kernel_rfl }
end Go.Proofs
namespace Go.Proofs.YtnfflgicngeekaaGreatDoor
open Go.RowKit
def CutP (w:World) (s:Str) (c:UInt8) (e:Ending) (w':World):Prop:=e = .returned (.tuple #[.string ⟨(headS c s).toArray⟩,.string ⟨(restS c s).toArray⟩,.bool (fstL c s).isSome])∧Pure w w'
theorem cutB_calls (w:World) (s:Str) (c:UInt8) (hM:MlnS w) (hs:s.length≤1000000):Calls Tryz.prog 191 #[.string ⟨s.toArray⟩,.string ⟨#[c]⟩] w (CutP w s c):=by
 obtain ⟨m,hm⟩:=hM;refine (Any.strings_Cut Tryz.lays145 ⟨s.toArray⟩ ⟨#[c]⟩ m w (by simp [ByteArray.size]; omega) hm).mono ?_;rintro e w' ⟨rfl,n,rfl⟩;refine ⟨?_,(Mod.refl _ _).drewN n⟩;have h:=cut_byte c s
 show Ending.returned (.tuple #[.string ⟨(Lib.cut s [c]).1.toArray⟩,.string ⟨(Lib.cut s [c]).2.1.toArray⟩,.bool (Lib.cut s [c]).2.2])=_
 rw [h];unfold headS restS
 cases fstL c s <;> rfl
def PcP (w:World) (s:Str) (e:Ending) (w':World):Prop:=∃ qr:QR,e = .returned (.tuple #[.int .i64 (pieceQ s).1,qA qr])∧QS w' qr∧qr.key=(pieceQ s).2∧QFr w.heap.size qr∧Pure w w'
theorem st4_cells {w:World} {g:Nat} {t:TypeId} {x0 x1 x2 x3:Value} (h:Blk w g t #[x0,x1,x2,x3]) (a b c d:Value) :
  ((((w.setCell ⟨g,0,none⟩ a).setCell ⟨g,1,none⟩ b).setCell ⟨g,2,none⟩ c).setCell ⟨g,3,none⟩ d).cell? ⟨g,0,none⟩=some a∧((((w.setCell ⟨g,0,none⟩ a).setCell ⟨g,1,none⟩ b).setCell ⟨g,2,none⟩ c).setCell ⟨g,3,none⟩ d).cell? ⟨g,1,none⟩=some b∧((((w.setCell ⟨g,0,none⟩ a).setCell ⟨g,1,none⟩ b).setCell ⟨g,2,none⟩ c).setCell ⟨g,3,none⟩ d).cell? ⟨g,2,none⟩=some c∧((((w.setCell ⟨g,0,none⟩ a).setCell ⟨g,1,none⟩ b).setCell ⟨g,2,none⟩ c).setCell ⟨g,3,none⟩ d).cell? ⟨g,3,none⟩=some d :=
 (st4_blk h (a:=a) (b:=b) (c:=c) (d:=d)).c4
theorem st4_cellsA {w:World} {g:Nat} {t:TypeId} {x0 x1 x2 x3:Value} (h:Blk w g t #[x0,x1,x2,x3]) (a b c d:Value) (o:Obj) :
  (((((w.setCell ⟨g,0,none⟩ a).setCell ⟨g,1,none⟩ b).setCell ⟨g,2,none⟩ c).setCell ⟨g,3,none⟩ d).alloc o).cell? ⟨g,0,none⟩=some a∧(((((w.setCell ⟨g,0,none⟩ a).setCell ⟨g,1,none⟩ b).setCell ⟨g,2,none⟩ c).setCell ⟨g,3,none⟩ d).alloc o).cell? ⟨g,1,none⟩=some b∧(((((w.setCell ⟨g,0,none⟩ a).setCell ⟨g,1,none⟩ b).setCell ⟨g,2,none⟩ c).setCell ⟨g,3,none⟩ d).alloc o).cell? ⟨g,2,none⟩=some c∧(((((w.setCell ⟨g,0,none⟩ a).setCell ⟨g,1,none⟩ b).setCell ⟨g,2,none⟩ c).setCell ⟨g,3,none⟩ d).alloc o).cell? ⟨g,3,none⟩=some d :=
 ((st4_blk h (a:=a) (b:=b) (c:=c) (d:=d)).alloc o).c4
theorem pc_end0 {w w0:World} {g:Nat} {s:Str} {kd k n:Int} {x0 x1 x2 x3:Value} (h:Blk w0 g 29 #[x0,x1,x2,x3]) (hp:Pure w w0) (hg:w.heap.size≤g) (hf:pieceQ s=(kd,.mk k [] n [])) :
  PcP w s (.returned (.tuple #[.int .i64 kd,.agg #[.int .i64 k,.slice none 0 0,.int .i64 n,.slice none 0 0]])) ((((w0.setCell ⟨g,0,none⟩ (.int .i64 k)).setCell ⟨g,1,none⟩ (.slice none 0 0)).setCell ⟨g,2,none⟩ (.int .i64 n)).setCell ⟨g,3,none⟩ (.slice none 0 0)) :=
 ⟨.mk k none 0 [] n none 0 [],by rw [hf]; rfl,.mk Sl.nil_ Sl.nil_ (fun a ha=>by cases ha),by rw [hf,QR.key_mk]; rfl,.mk (fun h=>absurd rfl h) (fun a ha=>by cases ha),Mod.trans' hp (st4_mod (g:=g)) (fun i hi hlt=>by omega)⟩
theorem pc_end1 {w w0:World} {g:Nat} {s x:Str} {kd k n:Int} {x0 x1 x2 x3:Value} (h:Blk w0 g 29 #[x0,x1,x2,x3]) (hp:Pure w w0) (hg:w.heap.size≤g) (hf:pieceQ s=(kd,.mk k [x] n [])) :
  PcP w s (.returned (.tuple #[.int .i64 kd,.agg #[.int .i64 k,.slice (some ⟨w0.heap.size,0,none⟩) 1 1,.int .i64 n,.slice none 0 0]])) (((((w0.setCell ⟨g,0,none⟩ (.int .i64 k)).setCell ⟨g,1,none⟩ (.slice (some ⟨w0.heap.size,0,none⟩) 1 1)).setCell ⟨g,2,none⟩ (.int .i64 n)).setCell ⟨g,3,none⟩ (.slice none 0 0)).alloc (.cells #[.string ⟨x.toArray⟩] 9)):=by
 have hsb:Blk (((((w0.setCell ⟨g,0,none⟩ (.int .i64 k)).setCell ⟨g,1,none⟩ (.slice (some ⟨w0.heap.size,0,none⟩) 1 1)).setCell ⟨g,2,none⟩ (.int .i64 n)).setCell ⟨g,3,none⟩ (.slice none 0 0)).alloc (.cells #[.string ⟨x.toArray⟩] 9)) w0.heap.size 9 (strsV [x]).toArray:=by
  have h:=Blk.new ((((w0.setCell ⟨g,0,none⟩ (.int .i64 k)).setCell ⟨g,1,none⟩ (.slice (some ⟨w0.heap.size,0,none⟩) 1 1)).setCell ⟨g,2,none⟩ (.int .i64 n)).setCell ⟨g,3,none⟩ (.slice none 0 0)) 9 #[.string ⟨x.toArray⟩];simp only [World.size_setCell] at h;exact h
 exact ⟨.mk k (some ⟨w0.heap.size,0,none⟩) 1 [x] n none 0 [],by rw [hf]; rfl,qs_words hsb (by simp),by rw [hf,QR.key_mk]; rfl,.mk (fun h=>absurd rfl h) (fun a ha=>by cases ha),(Mod.trans' hp (st4_mod (g:=g)) (fun i hi hlt=>by omega)).alloc _⟩
theorem natQ_of {s:Str} {v:Int} (h:∀ n,numQ 6 s=some n→v=n):natQ s=if ((numQ 6 s).isSome && decide (0≤v))=true then some v else none:=by
 unfold natQ
 cases hn:numQ 6 s with
 | none=>rfl
 | some n =>
  have e:=h n hn;subst e
  by_cases h0:0≤v
  ·simp [h0]
  ·simp [h0]
theorem restS_len (c:UInt8) (s:Str):(restS c s).length≤s.length:=by
 unfold restS
 cases hf:fstL c s with
 | none=>simp
 | some p=>have:=fstL_len hf; simp only; omega
theorem keyS_calls (w:World) (s:Str) (hs:s.length≤1000000):Calls Tryz.prog 63 #[.string ⟨s.toArray⟩] w (BoolSame w (keyB s)):=by
 have h:=key_calls w ⟨s.toArray⟩ (by show s.toArray.size≤_; rw [List.size_toArray]; omega)
 simpa using h
theorem colon_owner (rs:Str):colonQ [111,119,110,101,114] rs=if keyB rs=true then (3,.mk 9 [rs] 0 []) else (8,q0):=by unfold colonQ; simp
theorem colon_name (rs:Str):colonQ [110,97,109,101] rs=if patB rs=true then (3,.mk 11 [rs] 0 []) else (8,q0):=by unfold colonQ; simp
theorem colon_from (rs:Str):colonQ [102,114,111,109] rs=if (natQ rs).isSome=true then (3,.mk 12 [] ((natQ rs).getD 0) []) else (8,q0):=by unfold colonQ; simp
theorem colon_until (rs:Str):colonQ [117,110,116,105,108] rs=if (natQ rs).isSome=true then (3,.mk 13 [] ((natQ rs).getD 0) []) else (8,q0):=by unfold colonQ; simp
theorem colon_kind (rs:Str):colonQ [107,105,110,100] rs=if kndI rs≠0 then (3,.mk 10 [] (kndI rs) []) else (8,q0):=by unfold colonQ; simp
theorem colon_else {hd:Str} (rs:Str) (h1:¬ hd=[111,119,110,101,114]) (h2:¬ hd=[110,97,109,101]) (h3:¬ hd=[102,114,111,109]) (h4:¬ hd=[117,110,116,105,108]) (h5:¬ hd=[107,105,110,100]):colonQ hd rs=(8,q0):=by
 unfold colonQ;rw [if_neg (fun h=>h1 h.1),if_neg (fun h=>h2 h.1),if_neg (fun h=>h3 h.1),if_neg (fun h=>h4 h.1),if_neg (fun h=>h5 h.1)]
theorem knd_at {rs:Str} {j:Nat} (h1:1≤j) (h4:j≤4) (h:kwQ j=rs):kndI rs=j:=by
 subst h
 obtain rfl | rfl | rfl | rfl:j=1∨j=2∨j=3∨j=4:=by omega
 all_goals rfl
theorem knd_none {rs:Str} (h:∀ t:Nat,1≤t→t<5→kwQ t≠rs):kndI rs=0:=by
 have a1:¬ rs=[109,97,105,108]:=fun e=>h 1 (by omega) (by omega) e.symm;have a2:¬ rs=[102,105,108,101]:=fun e=>h 2 (by omega) (by omega) e.symm;have a3:¬ rs=[98,111,120]:=fun e=>h 3 (by omega) (by omega) e.symm;have a4:¬ rs=[110,111,116,101]:=fun e=>h 4 (by omega) (by omega) e.symm;unfold kndI;rw [if_neg a1,if_neg a2,if_neg a3,if_neg a4]
theorem piece_calls (w:World) (s:Str) (hs:s.length≤300000) (hM:MlnS w):Calls Tryz.prog 183 #[.string ⟨s.toArray⟩] w (PcP w s):=by
 have h30:=Blk.new w 29 #[.int .i64 0,.slice none 0 0,.int .i64 0,.slice none 0 0];have hP0:=pure_alloc w (.cells #[.int .i64 0,.slice none 0 0,.int .i64 0,.slice none 0 0] 29)
 have HPQ:Hid (pieceQ s=if s=[97,108,108] then (3,.mk 1 [] 0 []) else if s=[97,110,100] then (4,q0) else if s=[111,114] then (5,q0) else if s=[110,111,116] then (6,q0)
  else if patB s=true then (3,.mk 2 [s] 0 []) else match fstL 47 s with
  | some p=>slashQ p.1 p.2
  | none=>colonQ (headS 58 s) (restS 58 s)):=hd_ rfl
 have HML:=hd_ (fun W (h:Pure w W)=>hM.pure h);clear hM
 go_enter Tryz.func183,Tryz.ntmps183
 go_upto_region 1 with (fail);generalize (w.alloc (.cells #[.int .i64 0,.slice none 0 0,.int .i64 0,.slice none 0 0] 29))=w0 at *;generalize hg3:w.heap.size=g3 at *;have hgw:w.heap.size≤g3:=Nat.le_of_eq hg3;clear hg3;have H3:=hd_ h30;have HP0:Hid (Pure w w0):=hd_ hP0;clear h30 hP0
 by_cases eall:s=[97,108,108]
 ·subst eall;have h3x:=H3.out;obtain ⟨y0,y1,y2,y3,yf0,yf1,yf2,yf3⟩:=h3x.c4f;clear h3x;go_wp2_with fail;clear y0 y1 y2 y3 yf0 yf1 yf2 yf3;obtain ⟨x0,x1,x2,x3⟩:=st4_cells (H3.out) (.int .i64 1) (.slice none 0 0) (.int .i64 0) (.slice none 0 0)
  try simp only [Exit.inBlock,Exit.then]
  refine bodyPost_ret (v:=.tuple #[.int .i64 3,.agg #[.int .i64 1,.slice none 0 0,.int .i64 0,.slice none 0 0]]) (by simp [results,Tryz.results183,go_sem,x0,x1,x2,x3]) rfl ?_;exact pc_end0 (H3.out) (HP0.out) (by omega) ((show pieceQ [97,108,108]=(3,.mk 1 [] 0 []) from rfl))
 have nall:(s == [97,108,108])=false:=(by simpa using eall)
 by_cases eand:s=[97,110,100]
 ·subst eand;have h3x:=H3.out;obtain ⟨y0,y1,y2,y3,yf0,yf1,yf2,yf3⟩:=h3x.c4f;clear h3x;go_wp2_with fail;clear y0 y1 y2 y3 yf0 yf1 yf2 yf3;obtain ⟨x0,x1,x2,x3⟩:=st4_cells (H3.out) (.int .i64 0) (.slice none 0 0) (.int .i64 0) (.slice none 0 0)
  try simp only [Exit.inBlock,Exit.then]
  refine bodyPost_ret (v:=.tuple #[.int .i64 4,.agg #[.int .i64 0,.slice none 0 0,.int .i64 0,.slice none 0 0]]) (by simp [results,Tryz.results183,go_sem,x0,x1,x2,x3]) rfl ?_;exact pc_end0 (H3.out) (HP0.out) (by omega) ((show pieceQ [97,110,100]=(4,.mk 0 [] 0 []) from rfl))
 have nand:(s == [97,110,100])=false:=(by simpa using eand)
 by_cases eor:s=[111,114]
 ·subst eor;have h3x:=H3.out;obtain ⟨y0,y1,y2,y3,yf0,yf1,yf2,yf3⟩:=h3x.c4f;clear h3x;go_wp2_with fail;clear y0 y1 y2 y3 yf0 yf1 yf2 yf3;obtain ⟨x0,x1,x2,x3⟩:=st4_cells (H3.out) (.int .i64 0) (.slice none 0 0) (.int .i64 0) (.slice none 0 0)
  try simp only [Exit.inBlock,Exit.then]
  refine bodyPost_ret (v:=.tuple #[.int .i64 5,.agg #[.int .i64 0,.slice none 0 0,.int .i64 0,.slice none 0 0]]) (by simp [results,Tryz.results183,go_sem,x0,x1,x2,x3]) rfl ?_;exact pc_end0 (H3.out) (HP0.out) (by omega) ((show pieceQ [111,114]=(5,.mk 0 [] 0 []) from rfl))
 have nor:(s == [111,114])=false:=(by simpa using eor)
 by_cases enot:s=[110,111,116]
 ·subst enot;have h3x:=H3.out;obtain ⟨y0,y1,y2,y3,yf0,yf1,yf2,yf3⟩:=h3x.c4f;clear h3x;go_wp2_with fail;clear y0 y1 y2 y3 yf0 yf1 yf2 yf3;obtain ⟨x0,x1,x2,x3⟩:=st4_cells (H3.out) (.int .i64 0) (.slice none 0 0) (.int .i64 0) (.slice none 0 0)
  try simp only [Exit.inBlock,Exit.then]
  refine bodyPost_ret (v:=.tuple #[.int .i64 6,.agg #[.int .i64 0,.slice none 0 0,.int .i64 0,.slice none 0 0]]) (by simp [results,Tryz.results183,go_sem,x0,x1,x2,x3]) rfl ?_;exact pc_end0 (H3.out) (HP0.out) (by omega) ((show pieceQ [110,111,116]=(6,.mk 0 [] 0 []) from rfl))
 have nnot:(s == [110,111,116])=false:=(by simpa using enot)
 have HPR:Hid (pieceQ s=if patB s=true then (3,.mk 2 [s] 0 []) else match fstL 47 s with
  | some p=>slashQ p.1 p.2
  | none=>colonQ (headS 58 s) (restS 58 s)):=hd_ (by rw [HPQ.out,if_neg eall,if_neg eand,if_neg eor,if_neg enot])
 have HIP:=hd_ (isPattern_calls w0 s (by omega));clear HPQ eall eand eor enot;obtain ⟨pb,hpb⟩:∃ pb,patB s=pb:=⟨_,rfl⟩;rw [hpb] at HPR HIP;clear hpb;go_wp2_with fail;refine HIP.out.mono ?_;rintro e w1 ⟨rfl,rfl⟩;clear HIP nall nand nor nnot
 cases pb with
 | true =>
  have h3x:=H3.out;have h3z:=h3x.alloc (.cells #[.string ⟨s.toArray⟩] 9);have hgw2:=h3x.lt;obtain ⟨z0,z1,z2,z3,zf0,zf1,zf2,zf3⟩:=h3z.c4f;clear h3z;obtain ⟨y0,y1,y2,y3,yf0,yf1,yf2,yf3⟩:=h3x.c4f;clear h3x;go_wp2_with fail;clear y0 y1 y2 y3 yf0 yf1 yf2 yf3;clear z0 z1 z2 z3 zf0 zf1 zf2 zf3;obtain ⟨x0,x1,x2,x3⟩:=st4_cellsA (H3.out) (.int .i64 2) (.slice (some ⟨w0.heap.size,0,none⟩) 1 1) (.int .i64 0) (.slice none 0 0) (.cells #[.string ⟨s.toArray⟩] 9)
  try simp only [Exit.inBlock,Exit.then]
  refine bodyPost_ret (v:=.tuple #[.int .i64 3,.agg #[.int .i64 2,.slice (some ⟨w0.heap.size,0,none⟩) 1 1,.int .i64 0,.slice none 0 0]]) (by simp [results,Tryz.results183,go_sem,x0,x1,x2,x3]) rfl ?_;exact pc_end1 (H3.out) (HP0.out) (by omega) (HPR.out.trans (if_pos (by first | rfl | trivial)))
 | false =>
  have HP1:Hid (pieceQ s=match fstL 47 s with
   | some p=>slashQ p.1 p.2
   | none=>colonQ (headS 58 s) (restS 58 s)):=hd_ (HPR.out.trans (if_neg (by first | decide | simp)))
  have HC:=hd_ (cutB_calls w0 s 47 (HML.out _ HP0.out) (by omega));clear HPR;go_wp2_with fail;refine HC.out.mono ?_;rintro e w1 ⟨rfl,hm1⟩;have H31:=hd_ (H3.out.modp hm1);have HPW:Hid (Pure w w1):=hd_ (HP0.out.trans hm1);clear HC hm1 H3 HP0
  cases hf:fstL 47 s with
  | some p =>
   have eh:headS 47 s=p.1:=by unfold headS; rw [hf]
   have er:restS 47 s=p.2:=by unfold restS; rw [hf]
   have hpl:p.2.length≤s.length:=by have:=fstL_len hf; omega
   have HP2:Hid (pieceQ s=slashQ p.1 p.2):=hd_ (by rw [HP1.out,hf]);rw [eh,er];have HNT:=hd_ (natural_calls w1 p.2 6 (by omega) (by omega));clear HP1 hf eh er;obtain ⟨hd,rs⟩:=p;simp only at HP2 HNT hpl ⊢;go_wp2_with fail;refine HNT.out.mono ?_;rintro e w2 ⟨v,rfl,hv,hv1,hv2,hm2⟩;have H32:=hd_ (H31.out.modp hm2);have HPX:Hid (Pure w w2):=hd_ (HPW.out.trans hm2);have hnq:=natQ_of hv;obtain ⟨rt,hrt⟩:∃ rt,((numQ 6 rs).isSome && decide (0≤v))=rt:=⟨_,rfl⟩;rw [hrt] at hnq ⊢;have HNQ:=hd_ hnq;clear hm2 H31 HPW HNT hv hnq hrt
   cases rt with
   | false =>
    have HBAD:Hid (pieceQ s=(8,.mk 0 [] 0 [])):=hd_ (by rw [HP2.out]; unfold slashQ; rw [HNQ.out]; rfl);have h3x:=H32.out;obtain ⟨y0,y1,y2,y3,yf0,yf1,yf2,yf3⟩:=h3x.c4f;clear h3x;go_wp2_with fail;clear y0 y1 y2 y3 yf0 yf1 yf2 yf3;obtain ⟨x0,x1,x2,x3⟩:=st4_cells (H32.out) (.int .i64 0) (.slice none 0 0) (.int .i64 0) (.slice none 0 0)
    try simp only [Exit.inBlock,Exit.then]
    refine bodyPost_ret (v:=.tuple #[.int .i64 8,.agg #[.int .i64 0,.slice none 0 0,.int .i64 0,.slice none 0 0]]) (by simp [results,Tryz.results183,go_sem,x0,x1,x2,x3]) rfl ?_;exact pc_end0 (H32.out) (HPX.out) (by omega) (HBAD.out)
   | true =>
    have hsl:pieceQ s=if hd=[119] then (7,.mk 4 [] v []) else if hd=[112,114,101] then (7,.mk 5 [] v []) else (8,q0):=by
     rw [HP2.out]; unfold slashQ; rw [HNQ.out]; rfl
    by_cases hw:hd=[119]
    ·have HBAD:=hd_ (hsl.trans (if_pos hw));subst hw;clear hsl HP2 HNQ;have h3x:=H32.out;obtain ⟨y0,y1,y2,y3,yf0,yf1,yf2,yf3⟩:=h3x.c4f;clear h3x;go_wp2_with fail;clear y0 y1 y2 y3 yf0 yf1 yf2 yf3;obtain ⟨x0,x1,x2,x3⟩:=st4_cells (H32.out) (.int .i64 4) (.slice none 0 0) (.int .i64 v) (.slice none 0 0)
     try simp only [Exit.inBlock,Exit.then]
     refine bodyPost_ret (v:=.tuple #[.int .i64 7,.agg #[.int .i64 4,.slice none 0 0,.int .i64 v,.slice none 0 0]]) (by simp [results,Tryz.results183,go_sem,x0,x1,x2,x3]) rfl ?_;exact pc_end0 (H32.out) (HPX.out) (by omega) (HBAD.out)
    ·have hwn:(hd == [119])=false:=(by simpa using hw);have hsl2:=hsl.trans (if_neg hw)
     by_cases hp:hd=[112,114,101]
     ·have HBAD:=hd_ (hsl2.trans (if_pos hp));subst hp;clear hsl hsl2 HP2 HNQ hw;have h3x:=H32.out;obtain ⟨y0,y1,y2,y3,yf0,yf1,yf2,yf3⟩:=h3x.c4f;clear h3x;go_wp2_with fail;clear y0 y1 y2 y3 yf0 yf1 yf2 yf3;obtain ⟨x0,x1,x2,x3⟩:=st4_cells (H32.out) (.int .i64 5) (.slice none 0 0) (.int .i64 v) (.slice none 0 0)
      try simp only [Exit.inBlock,Exit.then]
      refine bodyPost_ret (v:=.tuple #[.int .i64 7,.agg #[.int .i64 5,.slice none 0 0,.int .i64 v,.slice none 0 0]]) (by simp [results,Tryz.results183,go_sem,x0,x1,x2,x3]) rfl ?_;exact pc_end0 (H32.out) (HPX.out) (by omega) (HBAD.out)
     ·have hpn:(hd == [112,114,101])=false:=(by simpa using hp);have HBAD:=hd_ (hsl2.trans (if_neg hp));clear hsl hsl2 HP2 HNQ hw hp;have h3x:=H32.out;obtain ⟨y0,y1,y2,y3,yf0,yf1,yf2,yf3⟩:=h3x.c4f;clear h3x;go_wp2_with fail;clear y0 y1 y2 y3 yf0 yf1 yf2 yf3;obtain ⟨x0,x1,x2,x3⟩:=st4_cells (H32.out) (.int .i64 0) (.slice none 0 0) (.int .i64 0) (.slice none 0 0)
      try simp only [Exit.inBlock,Exit.then]
      refine bodyPost_ret (v:=.tuple #[.int .i64 8,.agg #[.int .i64 0,.slice none 0 0,.int .i64 0,.slice none 0 0]]) (by simp [results,Tryz.results183,go_sem,x0,x1,x2,x3]) rfl ?_;exact pc_end0 (H32.out) (HPX.out) (by omega) (HBAD.out)
  | none =>
   have HP2:Hid (pieceQ s=colonQ (headS 58 s) (restS 58 s)):=hd_ (by rw [HP1.out,hf]);have HC2:=hd_ (cutB_calls w1 s 58 (HML.out _ HPW.out) (by omega));have hrl:=restS_len 58 s;clear HP1 hf;go_wp2_with fail;refine HC2.out.mono ?_;rintro e w2 ⟨rfl,hm2⟩;have H32:=hd_ (H31.out.modp hm2);have HPX:Hid (Pure w w2):=hd_ (HPW.out.trans hm2);clear HC2 hm2 H31 HPW;generalize headS 58 s=hd at *;generalize restS 58 s=rs at *;generalize (fstL 58 s).isSome=fb at *;have HNT:=hd_ (natural_calls w2 rs 6 (by omega) (by omega));go_wp2_with fail;refine HNT.out.mono ?_;rintro e w3 ⟨v,rfl,hv,hv1,hv2,hm3⟩;have H33:=hd_ (H32.out.modp hm3);have HPV:Hid (Pure w w3):=hd_ (HPX.out.trans hm3);have hnq:=natQ_of hv;obtain ⟨rt,hrt⟩:∃ rt,((numQ 6 rs).isSome && decide (0≤v))=rt:=⟨_,rfl⟩;rw [hrt] at hnq ⊢;have HNQ:=hd_ hnq;clear hm3 H32 HPX HNT hv hnq hrt
   by_cases cowner:hd=[111,119,110,101,114]
   ·subst cowner;have HK:=hd_ (keyS_calls w3 rs (by omega));have HCO:=hd_ (HP2.out.trans (colon_owner rs));obtain ⟨kb,hkb⟩:∃ kb,keyB rs=kb:=⟨_,rfl⟩;rw [hkb] at HK HCO;clear hkb HP2 HNQ;go_wp2_with fail;refine HK.out.mono ?_;rintro e w4 ⟨rfl,rfl⟩;clear HK
    cases kb with
    | true =>
     have h3x:=H33.out;have h3z:=h3x.alloc (.cells #[.string ⟨rs.toArray⟩] 9);have hgw2:=h3x.lt;obtain ⟨z0,z1,z2,z3,zf0,zf1,zf2,zf3⟩:=h3z.c4f;clear h3z;obtain ⟨y0,y1,y2,y3,yf0,yf1,yf2,yf3⟩:=h3x.c4f;clear h3x;go_wp2_with fail;clear y0 y1 y2 y3 yf0 yf1 yf2 yf3;clear z0 z1 z2 z3 zf0 zf1 zf2 zf3;obtain ⟨x0,x1,x2,x3⟩:=st4_cellsA (H33.out) (.int .i64 9) (.slice (some ⟨w3.heap.size,0,none⟩) 1 1) (.int .i64 0) (.slice none 0 0) (.cells #[.string ⟨rs.toArray⟩] 9)
     try simp only [Exit.inBlock,Exit.then]
     refine bodyPost_ret (v:=.tuple #[.int .i64 3,.agg #[.int .i64 9,.slice (some ⟨w3.heap.size,0,none⟩) 1 1,.int .i64 0,.slice none 0 0]]) (by simp [results,Tryz.results183,go_sem,x0,x1,x2,x3]) rfl ?_;exact pc_end1 (H33.out) (HPV.out) (by omega) (HCO.out.trans (if_pos (by first | rfl | trivial | simp)))
    | false =>
     have h3x:=H33.out;obtain ⟨y0,y1,y2,y3,yf0,yf1,yf2,yf3⟩:=h3x.c4f;clear h3x;go_wp2_with fail;clear y0 y1 y2 y3 yf0 yf1 yf2 yf3;obtain ⟨x0,x1,x2,x3⟩:=st4_cells (H33.out) (.int .i64 0) (.slice none 0 0) (.int .i64 0) (.slice none 0 0)
     try simp only [Exit.inBlock,Exit.then]
     refine bodyPost_ret (v:=.tuple #[.int .i64 8,.agg #[.int .i64 0,.slice none 0 0,.int .i64 0,.slice none 0 0]]) (by simp [results,Tryz.results183,go_sem,x0,x1,x2,x3]) rfl ?_;exact pc_end0 (H33.out) (HPV.out) (by omega) (HCO.out.trans (if_neg (by first | decide | simp)))
   have downer:(hd == [111,119,110,101,114])=false:=(by simpa using cowner)
   by_cases cname:hd=[110,97,109,101]
   ·subst cname;have HK:=hd_ (isPattern_calls w3 rs (by omega));have HCO:=hd_ (HP2.out.trans (colon_name rs));obtain ⟨kb,hkb⟩:∃ kb,patB rs=kb:=⟨_,rfl⟩;rw [hkb] at HK HCO;clear hkb HP2 HNQ;go_wp2_with fail;refine HK.out.mono ?_;rintro e w4 ⟨rfl,rfl⟩;clear HK
    cases kb with
    | true =>
     have h3x:=H33.out;have h3z:=h3x.alloc (.cells #[.string ⟨rs.toArray⟩] 9);have hgw2:=h3x.lt;obtain ⟨z0,z1,z2,z3,zf0,zf1,zf2,zf3⟩:=h3z.c4f;clear h3z;obtain ⟨y0,y1,y2,y3,yf0,yf1,yf2,yf3⟩:=h3x.c4f;clear h3x;go_wp2_with fail;clear y0 y1 y2 y3 yf0 yf1 yf2 yf3;clear z0 z1 z2 z3 zf0 zf1 zf2 zf3;obtain ⟨x0,x1,x2,x3⟩:=st4_cellsA (H33.out) (.int .i64 11) (.slice (some ⟨w3.heap.size,0,none⟩) 1 1) (.int .i64 0) (.slice none 0 0) (.cells #[.string ⟨rs.toArray⟩] 9)
     try simp only [Exit.inBlock,Exit.then]
     refine bodyPost_ret (v:=.tuple #[.int .i64 3,.agg #[.int .i64 11,.slice (some ⟨w3.heap.size,0,none⟩) 1 1,.int .i64 0,.slice none 0 0]]) (by simp [results,Tryz.results183,go_sem,x0,x1,x2,x3]) rfl ?_;exact pc_end1 (H33.out) (HPV.out) (by omega) (HCO.out.trans (if_pos (by first | rfl | trivial | simp)))
    | false =>
     have h3x:=H33.out;obtain ⟨y0,y1,y2,y3,yf0,yf1,yf2,yf3⟩:=h3x.c4f;clear h3x;go_wp2_with fail;clear y0 y1 y2 y3 yf0 yf1 yf2 yf3;obtain ⟨x0,x1,x2,x3⟩:=st4_cells (H33.out) (.int .i64 0) (.slice none 0 0) (.int .i64 0) (.slice none 0 0)
     try simp only [Exit.inBlock,Exit.then]
     refine bodyPost_ret (v:=.tuple #[.int .i64 8,.agg #[.int .i64 0,.slice none 0 0,.int .i64 0,.slice none 0 0]]) (by simp [results,Tryz.results183,go_sem,x0,x1,x2,x3]) rfl ?_;exact pc_end0 (H33.out) (HPV.out) (by omega) (HCO.out.trans (if_neg (by first | decide | simp)))
   have dname:(hd == [110,97,109,101])=false:=(by simpa using cname)
   by_cases cfrom:hd=[102,114,111,109]
   ·subst cfrom
    have hco:=HP2.out.trans (colon_from rs);rw [HNQ.out] at hco;have HCO:=hd_ hco;clear hco HP2 HNQ
    cases rt with
    | true =>
     have h3x:=H33.out;obtain ⟨y0,y1,y2,y3,yf0,yf1,yf2,yf3⟩:=h3x.c4f;clear h3x;go_wp2_with fail;clear y0 y1 y2 y3 yf0 yf1 yf2 yf3;obtain ⟨x0,x1,x2,x3⟩:=st4_cells (H33.out) (.int .i64 12) (.slice none 0 0) (.int .i64 v) (.slice none 0 0)
     try simp only [Exit.inBlock,Exit.then]
     refine bodyPost_ret (v:=.tuple #[.int .i64 3,.agg #[.int .i64 12,.slice none 0 0,.int .i64 v,.slice none 0 0]]) (by simp [results,Tryz.results183,go_sem,x0,x1,x2,x3]) rfl ?_;exact pc_end0 (H33.out) (HPV.out) (by omega) ((show pieceQ s=(3,.mk 12 [] v []) from by have h:=HCO.out; simpa using h))
    | false =>
     have h3x:=H33.out;obtain ⟨y0,y1,y2,y3,yf0,yf1,yf2,yf3⟩:=h3x.c4f;clear h3x;go_wp2_with fail;clear y0 y1 y2 y3 yf0 yf1 yf2 yf3;obtain ⟨x0,x1,x2,x3⟩:=st4_cells (H33.out) (.int .i64 0) (.slice none 0 0) (.int .i64 0) (.slice none 0 0)
     try simp only [Exit.inBlock,Exit.then]
     refine bodyPost_ret (v:=.tuple #[.int .i64 8,.agg #[.int .i64 0,.slice none 0 0,.int .i64 0,.slice none 0 0]]) (by simp [results,Tryz.results183,go_sem,x0,x1,x2,x3]) rfl ?_;exact pc_end0 (H33.out) (HPV.out) (by omega) ((show pieceQ s=(8,q0) from by have h:=HCO.out; simpa using h))
   have dfrom:(hd == [102,114,111,109])=false:=(by simpa using cfrom)
   by_cases cuntil:hd=[117,110,116,105,108]
   ·subst cuntil;have hco:=HP2.out.trans (colon_until rs);rw [HNQ.out] at hco;have HCO:=hd_ hco;clear hco HP2 HNQ
    cases rt with
    | true =>
     have h3x:=H33.out;obtain ⟨y0,y1,y2,y3,yf0,yf1,yf2,yf3⟩:=h3x.c4f;clear h3x;go_wp2_with fail;clear y0 y1 y2 y3 yf0 yf1 yf2 yf3;obtain ⟨x0,x1,x2,x3⟩:=st4_cells (H33.out) (.int .i64 13) (.slice none 0 0) (.int .i64 v) (.slice none 0 0)
     try simp only [Exit.inBlock,Exit.then]
     refine bodyPost_ret (v:=.tuple #[.int .i64 3,.agg #[.int .i64 13,.slice none 0 0,.int .i64 v,.slice none 0 0]]) (by simp [results,Tryz.results183,go_sem,x0,x1,x2,x3]) rfl ?_;exact pc_end0 (H33.out) (HPV.out) (by omega) ((show pieceQ s=(3,.mk 13 [] v []) from by have h:=HCO.out; simpa using h))
    | false =>
     have h3x:=H33.out;obtain ⟨y0,y1,y2,y3,yf0,yf1,yf2,yf3⟩:=h3x.c4f;clear h3x;go_wp2_with fail;clear y0 y1 y2 y3 yf0 yf1 yf2 yf3;obtain ⟨x0,x1,x2,x3⟩:=st4_cells (H33.out) (.int .i64 0) (.slice none 0 0) (.int .i64 0) (.slice none 0 0)
     try simp only [Exit.inBlock,Exit.then]
     refine bodyPost_ret (v:=.tuple #[.int .i64 8,.agg #[.int .i64 0,.slice none 0 0,.int .i64 0,.slice none 0 0]]) (by simp [results,Tryz.results183,go_sem,x0,x1,x2,x3]) rfl ?_;exact pc_end0 (H33.out) (HPV.out) (by omega) ((show pieceQ s=(8,q0) from by have h:=HCO.out; simpa using h))
   have duntil:(hd == [117,110,116,105,108])=false:=(by simpa using cuntil)
   by_cases ckind:hd=[107,105,110,100]
   ·subst ckind;have HCO:=hd_ (HP2.out.trans (colon_kind rs));clear HP2 HNQ;go_wp2_with fail
    go_loopg [14] 4 (fun gk i wr=>∃ j:Nat,5 - j=gk∧1≤j∧j≤5∧i = .int .i64 (j:Int)∧(∀ t:Nat,1≤t→t<j→kwQ t≠rs)∧w3=wr)
    case atStart=>exact ⟨1,by omega,by omega,by omega,rfl,fun t h1 h2=>by omega,rfl⟩
    case round =>
     obtain ⟨j,rfl,hj1,hj5,rfl,hno,rfl⟩:=hrel;have HNO:=hd_ hno;clear hno
     by_cases hlt:j<5
     ·have HKW:=hd_ (kindWordQ_calls w3 (j:Int));go_wp2_with fail;refine HKW.out.mono ?_;rintro e w3 ⟨rfl,rfl⟩;clear HKW
      by_cases heq:kwQ (j:Int)=rs
      ·have hki:=knd_at hj1 (by omega) heq;have hkb:(kwQ (j:Int) == rs)=true:=(by simpa using heq);have HFK:=hd_ (HCO.out.trans (by rw [if_pos (by rw [hki]; omega),hki]));clear heq hki;have h3x:=H33.out;obtain ⟨y0,y1,y2,y3,yf0,yf1,yf2,yf3⟩:=h3x.c4f;clear h3x;go_wp2_with fail;clear y0 y1 y2 y3 yf0 yf1 yf2 yf3;obtain ⟨x0,x1,x2,x3⟩:=st4_cells (H33.out) (.int .i64 10) (.slice none 0 0) (.int .i64 (j:Int)) (.slice none 0 0)
       try simp only [Exit.inBlock,Exit.then]
       refine bodyPost_ret (v:=.tuple #[.int .i64 3,.agg #[.int .i64 10,.slice none 0 0,.int .i64 (j:Int),.slice none 0 0]]) (by simp [results,Tryz.results183,go_sem,x0,x1,x2,x3]) rfl ?_;exact pc_end0 (H33.out) (HPV.out) (by omega) (HFK.out)
      ·have hkb:(kwQ (j:Int) == rs)=false:=(by simpa using heq)
       have HN2:Hid (∀ t:Nat,1≤t→t<j+1→kwQ t≠rs):=hd_ (by
        intro t h1 h2
        by_cases h:t<j
        ·exact HNO.out t h1 h
        ·have e:t=j:=(by omega);rw [e]
         exact heq)
       clear heq;go_wp2_with fail
       go_roundg (5 - (j+1))
       case measure=>omega
       case rel=>exact ⟨j+1,rfl,by omega,by omega,by simp,HN2.out,rfl⟩
     ·have e5:j=5:=(by omega);subst e5;have HFK:=hd_ (HCO.out.trans (if_neg (by rw [knd_none HNO.out]; simp)));clear HCO;have h3x:=H33.out;obtain ⟨y0,y1,y2,y3,yf0,yf1,yf2,yf3⟩:=h3x.c4f;clear h3x;go_wp2_with fail;clear y0 y1 y2 y3 yf0 yf1 yf2 yf3;obtain ⟨x0,x1,x2,x3⟩:=st4_cells (H33.out) (.int .i64 0) (.slice none 0 0) (.int .i64 0) (.slice none 0 0)
      try simp only [Exit.inBlock,Exit.then]
      refine bodyPost_ret (v:=.tuple #[.int .i64 8,.agg #[.int .i64 0,.slice none 0 0,.int .i64 0,.slice none 0 0]]) (by simp [results,Tryz.results183,go_sem,x0,x1,x2,x3]) rfl ?_;exact pc_end0 (H33.out) (HPV.out) (by omega) (HFK.out)
   have dkind:(hd == [107,105,110,100])=false:=(by simpa using ckind);have HBAD:=hd_ (HP2.out.trans (colon_else rs cowner cname cfrom cuntil ckind));clear HP2 HNQ cowner cname cfrom cuntil ckind;have h3x:=H33.out;obtain ⟨y0,y1,y2,y3,yf0,yf1,yf2,yf3⟩:=h3x.c4f;clear h3x;go_wp2_with fail;clear y0 y1 y2 y3 yf0 yf1 yf2 yf3;obtain ⟨x0,x1,x2,x3⟩:=st4_cells (H33.out) (.int .i64 0) (.slice none 0 0) (.int .i64 0) (.slice none 0 0)
   try simp only [Exit.inBlock,Exit.then]
   refine bodyPost_ret (v:=.tuple #[.int .i64 8,.agg #[.int .i64 0,.slice none 0 0,.int .i64 0,.slice none 0 0]]) (by simp [results,Tryz.results183,go_sem,x0,x1,x2,x3]) rfl ?_;exact pc_end0 (H33.out) (HPV.out) (by omega) (HBAD.out)
def rdC (s:Str) (p:Nat) (kd:Int) (tp:Nat) (q:QR):Array Value :=
 #[.string ⟨s.toArray⟩,.int .i64 (p:Int),.int .i64 kd,.int .i64 (tp:Int)] ++ (qC q).toArray
theorem skp_blank {s:Str} {a:Nat} (h:a<s.length) (hb:blkC s[a]=true):skpQ s a=skpQ s (a+1):=by
 unfold skpQ;rw [List.drop_eq_getElem_cons h,List.takeWhile_cons_of_pos hb,List.length_cons]
 omega
theorem skp_stop {s:Str} {a:Nat} (h:a<s.length) (hb:blkC s[a]=false):skpQ s a=a:=by
 unfold skpQ;rw [List.drop_eq_getElem_cons h,List.takeWhile_cons_of_neg (by rw [hb]; simp)]
 rfl
theorem skp_end {s:Str} {a:Nat} (h:s.length≤a):skpQ s a=a:=by
 unfold skpQ;rw [List.drop_eq_nil_of_le h]
 rfl
theorem kdL_ne {L:List Tk} (h:kdL L≠0):L.length=L.tail.length+1:=by
 cases L with
 | nil=>exact absurd rfl h
 | cons t l=>simp
def LenP (f:List Tk→PR):Prop:=∀ L q l,f L = .inr (q,l)→l.length+1≤L.length
theorem closeP_inr {r:PR} {q:Qry} {l:List Tk} (h:closeP r = .inr (q,l)):∃ m,r = .inr (q,m)∧kdL m=2∧l=m.tail:=by
 cases r with
 | inl m=>cases h
 | inr p =>
  obtain ⟨a,m⟩:=p;unfold closeP at h
  by_cases h2:kdL m=2
  ·simp only [h2] at h
   injection h with h
   injection h with h3 h4
   subst h3 h4;exact ⟨m,rfl,h2,rfl⟩
  ·simp only [h2] at h
   cases h
theorem pPart_len {rec:List Tk→PR} (hr:LenP rec):LenP (pPart rec):=by
 intro L q l h;unfold pPart at h
 by_cases h3:kdL L=3
 ·rw [if_pos h3] at h
  injection h with h
  injection h with _ h5
  subst h5;have:=kdL_ne (L:=L) (by omega)
  omega
 ·rw [if_neg h3] at h
  by_cases h1:kdL L=1
  ·rw [if_pos h1] at h;obtain ⟨m,hm,h2,rfl⟩:=closeP_inr h;have:=hr _ _ _ hm;have h6:=kdL_ne (L:=L) (by omega);have h7:=kdL_ne (L:=m) (by omega)
   omega
  ·rw [if_neg h1] at h
   cases h
theorem pNearL_len {rec:List Tk→PR} (hr:LenP rec):∀ (f:Nat) (a:Qry) (L:List Tk) (q:Qry) (l:List Tk),pNearL rec f a L = .inr (q,l)→l.length≤L.length
 | 0,_,_,_,_,h=>by cases h
 | f+1,a,L,q,l,h=>by
  unfold pNearL at h
  by_cases h7:kdL L=7
  ·rw [if_pos h7] at h
   cases hp:pPart rec L.tail with
   | inl m=>rw [hp] at h; cases h
   | inr p =>
    obtain ⟨b,m⟩:=p;rw [hp] at h;have h1:=pPart_len hr _ _ _ hp;have h2:=pNearL_len hr f _ _ _ _ h;have h6:=kdL_ne (L:=L) (by omega)
    omega
  ·rw [if_neg h7] at h
   injection h with h
   injection h with _ h5
   subst h5;exact Nat.le_refl _
theorem pNear_len {rec:List Tk→PR} (hr:LenP rec) (f:Nat):LenP (pNear rec f):=by
 intro L q l h;unfold pNear at h
 cases hp:pPart rec L with
 | inl m=>rw [hp] at h; cases h
 | inr p =>
  obtain ⟨b,m⟩:=p;rw [hp] at h;have h1:=pPart_len hr _ _ _ hp;have h2:=pNearL_len hr f _ _ _ _ h
  omega
theorem pNot_len {rec:List Tk→PR} (hr:LenP rec) (f:Nat):LenP (pNot rec f):=by
 intro L q l h;unfold pNot at h
 cases hp:pNear rec f (L.drop (notL L)) with
 | inl m=>rw [hp] at h; cases h
 | inr p =>
  obtain ⟨b,m⟩:=p;rw [hp] at h
  injection h with h
  injection h with _ h5
  subst h5;have h1:=pNear_len hr f _ _ _ hp;rw [List.length_drop] at h1
  omega
theorem pSevL_len {kind between:Int} {el:List Tk→PR} (h0:between≠0) (he:LenP el):∀ (f:Nat) (a:List Qry) (L:List Tk) (q:Qry) (l:List Tk),pSevL kind between el f a L = .inr (q,l)→l.length≤L.length
 | 0,_,_,_,_,h=>by cases h
 | f+1,a,L,q,l,h=>by
  unfold pSevL at h
  by_cases h7:kdL L=between
  ·rw [if_pos h7] at h
   cases hp:el L.tail with
   | inl m=>rw [hp] at h; cases h
   | inr p =>
    obtain ⟨b,m⟩:=p;rw [hp] at h;have h1:=he _ _ _ hp;have h2:=pSevL_len h0 he f _ _ _ _ h;have h6:=kdL_ne (L:=L) (by omega)
    omega
  ·rw [if_neg h7] at h
   injection h with h
   injection h with _ h5
   subst h5;exact Nat.le_refl _
theorem pSev_len {kind between:Int} {el:List Tk→PR} (h0:between≠0) (he:LenP el) (f:Nat):LenP (pSev kind between el f):=by
 intro L q l h;unfold pSev at h
 cases hp:el L with
 | inl m=>rw [hp] at h; cases h
 | inr p =>
  obtain ⟨b,m⟩:=p;rw [hp] at h;have h1:=he _ _ _ hp
  by_cases h7:kdL m=between
  ·simp only [h7,if_true] at h;have h2:=pSevL_len h0 he f _ _ _ _ h
   omega
  ·simp only [h7,if_false] at h
   injection h with h
   injection h with _ h5
   subst h5;exact h1
theorem pOr_len:∀ f:Nat,LenP (pOr f)
 | 0=>by intro L q l h; cases h
 | f+1=>by
  show LenP (pSev 7 5 (pSev 6 4 (pNot (pOr f) f) f) f)
  exact pSev_len (by decide) (pSev_len (by decide) (pNot_len (pOr_len f) f) f) f
end Go.Proofs.YtnfflgicngeekaaGreatDoor
namespace Go.Proofs.YtnfflgicngeekaaGreatDoor
open Go.RowKit
theorem stpC_set (c:UInt8):([32,10,40,41,34]:Str).contains c=stpC c:=by
 unfold stpC;rw [Bool.eq_iff_iff];simp
theorem wordQ_idx:∀ t:Str,-1≤Lib.indexAny t [32,10,40,41,34]∧((wordQ t).length:Int)=if Lib.indexAny t [32,10,40,41,34]<0 then (t.length:Int) else Lib.indexAny t [32,10,40,41,34]
 | []=>⟨by decide,rfl⟩
 | c :: t=>by
  obtain ⟨h0,h⟩:=wordQ_idx t;unfold Lib.indexAny;rw [stpC_set];unfold wordQ;rw [List.takeWhile_cons]
  cases hc:stpC c
  ·simp only [Bool.not_false,if_true,List.length_cons,Bool.false_eq_true,if_false]
   change ((wordQ t).length:Int)=_ at h
   rw [show (List.takeWhile (fun d => !stpC d) t)=wordQ t from rfl];generalize Lib.indexAny t [32,10,40,41,34]=n at *
   by_cases hn:n = -1
   ·subst hn;simp at h ⊢
    omega
   ·have hb:(n == -1)=false:=(by simpa using hn);rw [hb];simp only [Bool.false_eq_true,if_false];rw [if_neg (by omega)] at h ⊢
    omega
  ·simp
theorem wordQ_sub (t:Str):wordQ t=t.take (wordQ t).length:=List.prefix_iff_eq_take.1 (List.takeWhile_prefix _)
theorem piece_args (s:Str):(pieceQ s).2.args=[]∧((pieceQ s).1=7→(pieceQ s).2.words=[]):=by
 unfold pieceQ slashQ colonQ
 repeat' split
 all_goals first | exact ⟨rfl,fun _=>rfl⟩ | exact ⟨rfl,fun h=>absurd h (by decide)⟩ | exact ⟨rfl,fun h=>by simp at h⟩
theorem phrase_args (s:Str):(phraseQ s).2.args=[]∧(phraseQ s).1≠7:=by
 unfold phraseQ
 split
 ·exact ⟨rfl,by decide⟩
 ·exact ⟨rfl,show (3:Int)≠7 by decide⟩
theorem tok_args (s:Str):(tokQ s).2.1.args=[]∧((tokQ s).1=7→(tokQ s).2.1.words=[]):=by
 cases s with
 | nil=>exact ⟨rfl,fun h=>absurd h (by decide)⟩
 | cons c t =>
  show (tokC c t).2.1.args=[]∧((tokC c t).1=7→(tokC c t).2.1.words=[])
  unfold tokC
  split
  ·exact ⟨rfl,fun h=>absurd h (by decide)⟩
  ·split
   ·exact ⟨rfl,fun h=>absurd h (by decide)⟩
   ·split
    ·split
     ·exact ⟨rfl,fun h=>absurd h (by decide)⟩
     ·rename_i p _
      exact ⟨(phrase_args p.1).1,fun h=>absurd h (phrase_args p.1).2⟩
    ·exact piece_args _
def NxP (w:World) (g:Nat) (s:Str) (p:Nat) (e:Ending) (w':World):Prop:=∃ qr:QR,e = .returned (.tuple #[])∧Blk w' g 136 (rdC s (nextQ s p).2 (nextQ s p).1.kind (nextQ s p).1.pos qr)∧qr.key=(nextQ s p).1.q∧QS w' qr∧Mod (· = g) w w'
def RdrS (w:World) (g:Nat) (s:Str) (L:List Tk):Prop :=
 ∃ (p:Nat) (qr:QR) (t:Tk) (l:List Tk),L=t :: l∧Blk w g 136 (rdC s p t.kind t.pos qr)∧p≤s.length∧QS w qr∧qr.key=t.q∧t.q.args=[]∧(t.kind=7→t.q.words=[])∧(t.kind≠0→t.kind≠8→l=toksQ s p)
def NrP (w:World) (g:Nat) (s:Str) (L:List Tk) (e:Ending) (w':World):Prop:=e = .returned (.tuple #[])∧RdrS w' g s L∧Mod (· = g) w w'
theorem NxP.rds {w:World} {g:Nat} {s:Str} {p:Nat} {e:Ending} {w':World} (h:NxP w g s p e w') (hp:p≤s.length):NrP w g s (toksQ s p) e w':=by
 obtain ⟨qr,he,hB,hk,hQ,hm⟩:=h;exact ⟨he,⟨(nextQ s p).2,qr,(nextQ s p).1,if (nextQ s p).1.kind=0∨(nextQ s p).1.kind=8 then [] else toksQ s (nextQ s p).2,by rw [toks_eq s hp]; split <;> rfl,hB,(next_len s hp).1,hQ,hk,(tok_args _).1,(tok_args _).2,fun h1 h2=>if_neg (by simp [h1,h2])⟩,hm⟩
inductive QN (S:Nat→Prop):QR→Prop
 | mk {k:Int} {A:Option Addr} {c:Nat} {ws:List Str} {n:Int} {B:Option Addr} {d:Nat} {xs:List QR} (h:xs≠[]→∀ g off,B=some ⟨g,off,none⟩→¬ S g) (hs:∀ a∈xs,QN S a):QN S (.mk k A c ws n B d xs)
theorem QN.leaf {S:Nat→Prop} {q:QR} (h:q.key.args=[]):QN S q:=by
 obtain ⟨k,A,c,ws,n,B,d,xs⟩:=q
 have hx:xs=[]:=by
  rw [QR.key_mk] at h;exact List.map_eq_nil_iff.1 h
 subst hx;exact .mk (fun h=>absurd rfl h) (fun a ha=>by cases ha)
theorem QFr.leaf {base:Nat} {q:QR} (h:q.key.args=[]):QFr base q:=by
 obtain ⟨k,A,c,ws,n,B,d,xs⟩:=q
 have hx:xs=[]:=by
  rw [QR.key_mk] at h;exact List.map_eq_nil_iff.1 h
 subst hx;exact .mk (fun h=>absurd rfl h) (fun a ha=>by cases ha)
theorem QN.old {S:Nat→Prop} {base:Nat} {q:QR} (h:QFr base q) (hS:∀ k,S k→k<base):QN S q:=by
 induction h with
 | mk hb hs ih =>
  refine .mk (fun hx g off he hg => ?_) ih;obtain ⟨g',off',he',hle⟩:=hb hx;rw [he] at he'
  injection he' with he'
  injection he' with he'
  subst he';have:=hS _ hg
  omega
theorem QN.new {S:Nat→Prop} {w:World} {q:QR} (h:QS w q) (hS:∀ k,S k→w.heap.size≤k):QN S q:=by
 induction h with
 | mk hw ha hs ih =>
  rename_i k A c ws n B d xs
  refine .mk (fun hx g off he hg => ?_) ih
  have hl:0<xs.length:=by cases xs with | nil=>exact absurd rfl hx | cons a t=>simp
  obtain ⟨B',n',d',e2,hle,hc,hl2,hr⟩:=ha
  injection e2 with e3 e4 e5
  subst e3 e4 e5;obtain ⟨g',off',he',hr⟩:=hr hl;rw [he] at he'
  injection he' with he'
  injection he' with he'
  subst he';have h1:=hr.lt;have h2:=hS _ hg
  omega
theorem QS.modN {w w':World} {S:Nat→Prop} {q:QR} (h:QS w q) (hn:QN S q) (hm:Mod S w w') (h1:∀ g arr fr,w.heap[g]? = some (.cells arr 9 fr)→¬ S g):QS w' q:=by
 induction h with
 | mk hw ha hs ih =>
  rename_i k A c ws n B d xs
  cases hn with
  | mk hb hx =>
   refine .mk (hw.mod hm h1) ?_ (fun a hm=>ih a hm (hx a hm))
   cases xs with
   | nil=>exact ⟨B,0,d,rfl,Nat.zero_le _,by obtain ⟨_,_,_,e2,_,hc,_⟩:=ha; injection e2 with _ _ e5; omega,rfl,fun h=>absurd h (by decide)⟩
   | cons x t =>
    obtain ⟨B',n',d',he,hle,hc,hl,hr⟩:=ha
    injection he with e1 e2 e3
    subst e1 e2 e3;refine ⟨B,_,d,rfl,hle,hc,hl,fun h0 => ?_⟩;obtain ⟨g,off,hB,hrow⟩:=hr h0;exact ⟨g,off,hB,hrow.mod hm (hb (by simp) g off hB)⟩
theorem Sl.rd {w w':World} {g:Nat} {cs:Array Value} {size:Nat} {v:Value} {xs:List Value} {e:TypeId} (h:Sl w e size v xs) (hB:Blk w g 136 cs) (hm:Mod (· = g) w w') (hne:e≠136):Sl w' e size v xs :=
 Sl.mod h hm (fun g' arr fr hg he=>by
  subst he;unfold Blk at hB;rw [hB] at hg
  injection hg with hg
  injection hg with _ hg
  exact hne hg.symm)
theorem QS.rd {w w':World} {g:Nat} {cs:Array Value} {q:QR} (h:QS w q) (hB:Blk w g 136 cs) (hm:Mod (· = g) w w'):QS w' q:=by
 induction h with
 | mk hw ha hs ih=>exact .mk (Sl.rd hw hB hm (by decide)) (Sl.rd ha hB hm (by decide)) ih
theorem RdrS.blk {w:World} {g:Nat} {s:Str} {L:List Tk} (h:RdrS w g s L):∃ cs,Blk w g 136 cs:=by
 obtain ⟨p,qr,t,l,_,h,_⟩:=h;exact ⟨_,h⟩
theorem RdrS.lt {w:World} {g:Nat} {s:Str} {L:List Tk} (h:RdrS w g s L):g<w.heap.size:=by
 obtain ⟨cs,h⟩:=h.blk;exact h.lt
theorem RdrS.mod {w w':World} {g:Nat} {s:Str} {L:List Tk} {S:Nat→Prop} (h:RdrS w g s L) (hm:Mod S w w') (hg:¬ S g) (h1:∀ g arr fr,w.heap[g]? = some (.cells arr 9 fr)→¬ S g):RdrS w' g s L:=by
 obtain ⟨p,qr,t,l,a1,a2,a3,a4,a5,a6,a7,a8⟩:=h;exact ⟨p,qr,t,l,a1,a2.mod hm hg,a3,a4.modN (QN.leaf (by rw [a5]; exact a6)) hm h1,a5,a6,a7,a8⟩
theorem RdrS.pure {w w':World} {g:Nat} {s:Str} {L:List Tk} (h:RdrS w g s L) (hm:Pure w w'):RdrS w' g s L:=h.mod hm (fun h=>h) (fun _ _ _ _ h=>h)
def PrP (w:World) (g:Nat) (s:Str) (r:PR) (e:Ending) (w':World):Prop:=∃ (qr:QR) (b:Bool) (l:List Tk),e = .returned (.tuple #[qA qr,.bool b])∧RdrS w' g s l∧Mod (· = g) w w'∧(b=false→r = .inl l)∧(b=true→r = .inr (qr.key,l)∧QS w' qr∧QFr w.heap.size qr)
end Go.Proofs.YtnfflgicngeekaaGreatDoor
/-
 DERIVED: THE SHELF's CONTRACTS AT THIS DUMP,IN PLAIN WORDS (tools/lay-plain.mjs out of 'YtnfflgicngeekaaGreatDoorLayInt.lean',which tools/lay-shelf.mjs wrote): THE SAME DECLARATIONS UNDER THE SAME NAMES: 'import','namespace','open','def','theorem' AND NOTHING ELSE: no command of the shelf's: FOR A HAND-IN. Each laying: the table of numbers ('.._ren') and one theorem,a field a fact of the dump's own or the kernel's comparison; each contract: ONE APPLICATION.
-/
namespace Go.Proofs
open Go.Shelf
def Tryz.lays189_ren:Go.Shelf.Ren:=⟨fun | 189=>252 | 125=>279 | 257=>278 | 128=>302 | 129=>264 | 294=>294 | 295=>295 | 296=>296 | 297=>297 | 298=>298 | 299=>299 | 216=>291 | 300=>300 | 301=>301 | 328=>309 | 329=>310 | 330=>311 | 331=>312 | 332=>313 | 215=>308 | 343=>321 | n=>n,fun | 28=>22 | 3=>3 | 46=>180 | 0=>0 | 51=>221 | 53=>224 | 4=>4 | 183=>292 | 182=>291 | 131=>153 | 5=>5 | 9=>9 | 218=>306 | 222=>310 | 228=>329 | 229=>127 | n=>n,fun | n=>n⟩
theorem Tryz.lays189:Go.Proofs.Lays.n189 Tryz.prog Tryz.lays189_ren:={
 mixed:=by kernel_rfl
 f125:=Tryz.func279.trans (congrArg some (by kernel_rfl))
 f128:=Tryz.func302.trans (congrArg some (by kernel_rfl))
 f129:=Tryz.func264.trans (congrArg some (by kernel_rfl))
 f189:=Tryz.func252.trans (congrArg some (by kernel_rfl))
 f215:=Tryz.func308.trans (congrArg some (by kernel_rfl))
 f216:=Tryz.func291.trans (congrArg some (by kernel_rfl))
 f257:=Tryz.func278.trans (congrArg some (by kernel_rfl))
 f294:=Tryz.func294.trans (congrArg some (by kernel_rfl))
 f295:=Tryz.func295.trans (congrArg some (by kernel_rfl))
 f296:=Tryz.func296.trans (congrArg some (by kernel_rfl))
 f297:=Tryz.func297.trans (congrArg some (by kernel_rfl))
 f298:=Tryz.func298.trans (congrArg some (by kernel_rfl))
 f299:=Tryz.func299.trans (congrArg some (by kernel_rfl))
 f300:=Tryz.func300.trans (congrArg some (by kernel_rfl))
 f301:=Tryz.func301.trans (congrArg some (by kernel_rfl))
 f328:=Tryz.func309.trans (congrArg some (by kernel_rfl))
 f329:=Tryz.func310.trans (congrArg some (by kernel_rfl))
 f330:=Tryz.func311.trans (congrArg some (by kernel_rfl))
 f331:=Tryz.func312.trans (congrArg some (by kernel_rfl))
 f332:=Tryz.func313.trans (congrArg some (by kernel_rfl))
 f343:=Tryz.func321.trans (congrArg some (by kernel_rfl))
 t0:=Tryz.underlying0
 a0:=Tryz.isAgg0
 z0:=Tryz.sizeOf0
 v0:=Tryz.zeroValue0
 t3:=Tryz.underlying3
 a3:=Tryz.isAgg3
 z3:=Tryz.sizeOf3
 v3:=Tryz.zeroValue3
 t4:=Tryz.underlying4
 a4:=Tryz.isAgg4
 z4:=Tryz.sizeOf4
 v4:=Tryz.zeroValue4
 t5:=Tryz.underlying5
 a5:=Tryz.isAgg5
 z5:=Tryz.sizeOf5
 v5:=Tryz.zeroValue5
 t9:=Tryz.underlying9
 a9:=Tryz.isAgg9
 z9:=Tryz.sizeOf9
 v9:=Tryz.zeroValue9
 t28:=Tryz.underlying22
 a28:=Tryz.isAgg22
 z28:=Tryz.sizeOf22
 v28:=Tryz.zeroValue22
 t46:=Tryz.underlying180
 a46:=Tryz.isAgg180
 z46:=Tryz.sizeOf180
 v46:=Tryz.zeroValue180
 t51:=Tryz.underlying221
 a51:=Tryz.isAgg221
 z51:=Tryz.sizeOf221
 v51:=Tryz.zeroValue221
 t53:=Tryz.underlying224
 a53:=Tryz.isAgg224
 z53:=Tryz.sizeOf224
 v53:=Tryz.zeroValue224
 t131:=Tryz.underlying153
 a131:=Tryz.isAgg153
 z131:=Tryz.sizeOf153
 v131:=Tryz.zeroValue153
 t182:=Tryz.underlying291
 a182:=Tryz.isAgg291
 z182:=Tryz.sizeOf291
 v182:=Tryz.zeroValue291
 t183:=Tryz.underlying292
 a183:=Tryz.isAgg292
 z183:=Tryz.sizeOf292
 v183:=Tryz.zeroValue292
 t218:=Tryz.underlying306
 a218:=Tryz.isAgg306
 z218:=Tryz.sizeOf306
 v218:=Tryz.zeroValue306
 t222:=Tryz.underlying310
 a222:=Tryz.isAgg310
 z222:=Tryz.sizeOf310
 v222:=Tryz.zeroValue310
 t228:=Tryz.underlying329
 a228:=Tryz.isAgg329
 z228:=Tryz.sizeOf329
 v228:=Tryz.zeroValue329
 t229:=Tryz.underlying127
 a229:=Tryz.isAgg127
 z229:=Tryz.sizeOf127
 v229:=Tryz.zeroValue127 }
def Tryz.laysNm220_ren:Go.Shelf.Ren:=⟨fun | 20=>253 | n=>n,fun | 22=>22 | 3=>3 | 4=>4 | 0=>0 | n=>n,fun | n=>n⟩
theorem Tryz.laysNm220:Go.Proofs.Lays2.n20 Tryz.prog Tryz.laysNm220_ren:={
 mixed:=by kernel_rfl
 f20:=Tryz.func253.trans (congrArg some (by kernel_rfl))
 t0:=Tryz.underlying0
 a0:=Tryz.isAgg0
 z0:=Tryz.sizeOf0
 v0:=Tryz.zeroValue0
 t3:=Tryz.underlying3
 a3:=Tryz.isAgg3
 z3:=Tryz.sizeOf3
 v3:=Tryz.zeroValue3
 t4:=Tryz.underlying4
 a4:=Tryz.isAgg4
 z4:=Tryz.sizeOf4
 v4:=Tryz.zeroValue4
 t22:=Tryz.underlying22
 a22:=Tryz.isAgg22
 z22:=Tryz.sizeOf22
 v22:=Tryz.zeroValue22
 i3:=by kernel_rfl }
end Go.Proofs
namespace Go.Proofs.YtnfflgicngeekaaGreatDoor
open Go.RowKit
open Go.Sort
section
variable {α:Type} [Inhabited α] {enc:α→Value} {w:World} {base g cap n:Nat} {e:TypeId} {os:Array Obj} {cur:Array Value} {ss ts:List α}
theorem holdsE (hb:w.heap[g]? = some (.cells cur e (0,0))) (ht:cur.toList.take ss.length=ss.map enc):Holds enc w g 0 ss.toArray:=by
 intro j hj;rw [List.size_toArray] at hj
 constructor
 ·have h:cur[j]? = some (enc ss[j]):=by
   rw [← Array.getElem?_toList,← List.getElem?_take_of_lt hj,ht];simp [hj]
  simp [World.cell?,hb,h,hj]
 ·simp [World.frozen?,hb]
theorem putE_mod (d:Array α):Mod (fun k=>k=g) w (grow (putRow enc (Sort.ahead w n) g 0 d) os):=by
 refine ⟨rfl,rfl,rfl,by simp,fun k hk hne => ?_⟩;rw [heap_grow_old _ _ (by simpa using hk)];have hgk:g≠k:=fun h=>hne h.symm;simp [putRow,mapBlock,Sort.ahead,Array.getElem?_modify,hgk]
theorem putE_own (hl:ts.length=ss.length) (hbase:base≤g) (hb:w.heap[g]? = some (.cells cur e (0,0))) (h1:ss.length≤cap) (h2:cap≤maxLen) (h3:cur.size=cap*1) :
  (grow (putRow enc (Sort.ahead w n) g 0 ts.toArray) os).ownsRow base e 1 (.slice (some ⟨g,0,none⟩) ss.length cap) ss.length (ts.map enc):=by
 have hnew:(grow (putRow enc (Sort.ahead w n) g 0 ts.toArray) os).heap[g]? = some (.cells (putCells enc 0 ts.toArray cur) e (0,0)):=by
  rw [heap_grow_old _ _ (by simpa using (Array.getElem?_eq_some_iff.1 hb).1)];simp [putRow,mapBlock,Sort.ahead,Array.getElem?_modify,hb,onCells]
 refine ⟨by simp [hl],.inr ⟨g,cap,_,rfl,hbase,hnew,h1,h2,by simp [putCells,h3],?_⟩⟩;rw [Nat.mul_one,← hl];refine List.ext_getElem? fun j => ?_
 rcases Nat.lt_or_ge j ts.length with hj | hj
 ·rw [List.getElem?_take_of_lt hj,Array.getElem?_toList];simp [putCells,hj,show j<cur.size by omega]
 ·rw [List.getElem?_take_eq_none hj,List.getElem?_eq_none (by simpa using hj)]
end
def ivQ (l:List Int):List Value:=l.map (.int .i64)
theorem ivQ_cast (l:List Nat):ivQ (castI l)=nvQ l:=castI_V l
def SameRowI (w:World) (base:Nat) (v:Value) (ss:List Int) (e:Ending) (w':World):Prop :=
 e = .returned (.tuple #[])∧w'.ownsRow base 3 1 v ss.length (ivQ ss)∧Mod (fun k=>v.ownBlock=some k) w w'
theorem sortI_calls (w:World) (v:Value) (n base:Nat) (ss:List Int) (hown:w.ownsRow base 3 1 v n (ivQ ss)) (hl:ss.length≤100000000) :
  Calls Tryz.prog 252 #[v] w (SameRowI w base v (ss.mergeSort fun x y=>decide (x≤y))):=by
 have hn:n=ss.length:=by have:=hown.1; simp [ivQ] at this; omega
 subst hn
 rcases hown.2 with ⟨rfl,h0⟩ | ⟨g,cap,cur,rfl,hbase,hb,h1,h2,h3,h4⟩
 ·have e:ss=[]:=List.eq_nil_of_length_eq_zero h0;subst e;refine (Any.slices_Sort_int_none Tryz.lays189 none 0 w).mono ?_;rintro e w' ⟨rfl,rfl⟩;exact ⟨rfl,by simpa using hown,Mod.refl _ _⟩
 ·refine (Any.slices_Sort_int Tryz.lays189 g 0 cap ss w (holdsE hb (by simpa [ivQ] using h4)) (lt_of_heap hb) (by omega)).mono ?_;rintro e w' ⟨rfl,nn,os,rfl⟩;refine ⟨rfl,?_,(putE_mod _).mono (fun k hk=>by rw [hk]; rfl)⟩;have:=putE_own (enc:=Value.int .i64) (n:=nn) (os:=os) (ts:=ss.mergeSort fun x y=>decide (x≤y)) (ss:=ss) (by simp) hbase hb h1 h2 h3
  simpa [ivQ] using this
def CompactPostI (w:World) (base:Nat) (v:Value) (ss:List Int) (e:Ending) (w':World):Prop :=
 ∃ v',e = .returned v'∧w'.ownsRow base 3 1 v' (Lib.compact ss).length (ivQ (Lib.compact ss))∧v'.ownBlock=v.ownBlock∧Mod (fun k=>v.ownBlock=some k) w w'
theorem own_shrinkI {w:World} {base g cap n m:Nat} {e:TypeId} {xs:List Value} (h:w.ownsRow base e 1 (.slice (some ⟨g,0,none⟩) n cap) n xs) (hm:m≤n):w.ownsRow base e 1 (.slice (some ⟨g,0,none⟩) m cap) m (xs.take m):=by
 rcases h.2 with ⟨h0,_⟩ | ⟨g',cap',cur,hv,hbase,hb,h1,h2,h3,h4⟩
 ·cases h0
 ·cases hv
  have:=h.1;refine ⟨by simp; omega,.inr ⟨g,cap,cur,rfl,hbase,hb,by omega,h2,h3,?_⟩⟩;rw [← h4,List.take_take]
  congr 1
  omega
theorem compactI_le (ss:List Int):(Lib.compact ss).length≤ss.length:=by
 unfold Lib.compact Lib.compactUpTo;rw [List.length_map];have:=List.length_filter_le (Lib.keeps ss.toArray) (List.range ss.length)
 simpa using this
theorem compactI_calls (w:World) (v:Value) (n base:Nat) (ss:List Int) (hown:w.ownsRow base 3 1 v n (ivQ ss)) (hl:ss.length≤100000000) :
  Calls Tryz.prog 253 #[v] w (CompactPostI w base v ss):=by
 have hn:n=ss.length:=by have:=hown.1; simp [ivQ] at this; omega
 subst hn
 rcases hown.2 with ⟨rfl,h0⟩ | ⟨g,cap,cur,rfl,hbase,hb,h1,h2,h3,h4⟩
 ·have e:ss=[]:=List.eq_nil_of_length_eq_zero h0;subst e;refine (Any.slices_Compact_int_empty Tryz.laysNm220 none 0 w).mono ?_;rintro e w' ⟨rfl,rfl⟩;exact ⟨_,rfl,hown,rfl,Mod.refl _ _⟩
 ·refine (Any.slices_Compact_int Tryz.laysNm220 g 0 cap ss w (holdsE hb (by simpa [ivQ] using h4)) (by omega) h1).mono ?_;rintro e w' ⟨rfl,nn,rfl⟩
  have e0:∀ W:World,W=grow W #[]:=fun W=>by simp [grow]
  rw [e0 (putRow _ _ _ _ _)];have hcl:=compactI_le ss;refine ⟨_,rfl,?_,rfl,(putE_mod _).mono (fun k hk=>by rw [hk]; rfl)⟩;have h:=putE_own (enc:=Value.int .i64) (n:=nn) (os:=#[]) (ts:=Lib.compact ss ++ List.replicate (ss.length - (Lib.compact ss).length) 0) (ss:=ss) (by simp; omega) hbase hb h1 h2 h3;have h2:=own_shrinkI h hcl;rw [List.map_append,List.take_left' (by simp)] at h2;exact h2
end Go.Proofs.YtnfflgicngeekaaGreatDoor
namespace Go.Proofs.YtnfflgicngeekaaGreatDoor
open Go.RowKit
def RowsU (w:World) (us:List Value) (rs:List (List Nat)):Prop:=us.length=rs.length∧∀ i,(h:i<rs.length)→∃ u,us[i]? = some u∧Sl w 3 1 u (nvQ rs[i])∧NilOkI u
def OutB (w:World) (g:Nat) (us:List Value) (W:Nat):Prop:=Blk w g 22 (us ++ List.replicate (W - us.length) (Value.slice none 0 0)).toArray
def RnP (w:World) (W:Nat) (F:Nat→Nat→Bool) (e:Ending) (w':World):Prop:=∃ v,e = .returned v∧SlI w' v (rowsQ W F)∧Pure w w'
variable {w w':World} {us:List Value} {rs:List (List Nat)} {u:Value} {r:List Nat} {W g:Nat}
theorem nilI:Sl w 3 1 (Value.slice none 0 0) (nvQ [])∧NilOkI (Value.slice none 0 0):=⟨Sl.nil_,fun n c h=>by cases h; exact ⟨rfl,rfl⟩⟩
theorem rowsQ_tail {W k:Nat} {F:Nat→Nat→Bool} (hk:k≤W) (h:∀ i,k≤i→i<W→rowQ W (F i)=[]):(rowsQ W F).take k ++ List.replicate (W - k) []=rowsQ W F:=by
 refine List.ext_getElem (by simp [rowsQ_len]; omega) fun i h1 h2 => ?_;rw [rowsQ_at]
 have hi:i<W:=by rw [rowsQ_len] at h2; exact h2
 by_cases hlt:i<k
 ·rw [List.getElem_append_left (by simp [rowsQ_len]; omega),List.getElem_take,rowsQ_at]
 ·rw [List.getElem_append_right (by simp [rowsQ_len]; omega),List.getElem_replicate,h i (by omega) hi]
theorem OutB.all (h:OutB w g us W) (hl:us.length≤W):OutB w g (us ++ List.replicate (W - us.length) (Value.slice none 0 0)) W:=by
 unfold OutB at *;rw [show W - (us ++ List.replicate (W - us.length) (Value.slice none 0 0)).length=0 by simp; omega,List.replicate_zero,List.append_nil];exact h
theorem RowsU.nil:RowsU w [] []:=⟨rfl,fun i h=>absurd h (Nat.not_lt_zero _)⟩
theorem RowsU.snoc (h:RowsU w us rs) (hs:Sl w 3 1 u (nvQ r)) (hn:NilOkI u):RowsU w (us ++ [u]) (rs ++ [r]):=by
 obtain ⟨h1,h2⟩:=h;refine ⟨by simp [h1],fun i hi => ?_⟩
 by_cases hlt:i<rs.length
 ·obtain ⟨x,hx,a,b⟩:=h2 i hlt;refine ⟨x,by rw [List.getElem?_append_left (by omega)]; exact hx,?_,b⟩;rw [List.getElem_append_left hlt];exact a
 ·have hi':i=rs.length:=by simp at hi; omega
  subst hi';refine ⟨u,by rw [← h1]; simp,?_,hn⟩
  simpa using hs
theorem RowsU.nils (h:RowsU w us rs):∀ n,RowsU w (us ++ List.replicate n (Value.slice none 0 0)) (rs ++ List.replicate n [])
 | 0=>by simpa using h
 | n+1=>by
  rw [List.replicate_succ',← List.append_assoc,List.replicate_succ',← List.append_assoc];exact (RowsU.nils h n).snoc (nilI (w:=w)).1 (nilI (w:=w)).2
theorem RowsU.mod {S:Nat→Prop} (h:RowsU w us rs) (hm:Mod S w w') (hs:∀ g arr fr,w.heap[g]? = some (.cells arr 3 fr)→¬ S g):RowsU w' us rs :=
 ⟨h.1,fun i hi=>by obtain ⟨x,hx,a,b⟩:=h.2 i hi; exact ⟨x,hx,a.mod hm hs,b⟩⟩
theorem RowsU.pure (h:RowsU w us rs) (hm:Pure w w'):RowsU w' us rs:=h.mod hm (fun _ _ _ _ h=>h)
theorem RowsU.set {t:TypeId} {cs:Array Value} (h:RowsU w us rs) (hB:Blk w g t cs) (hne:3≠t) (j:Nat) (v:Value):RowsU (w.setCell ⟨g,j,none⟩ v) us rs :=
 ⟨h.1,fun i hi=>by obtain ⟨x,hx,a,b⟩:=h.2 i hi; exact ⟨x,hx,a.set_ne hB hne v,b⟩⟩
theorem OutB.lt (h:OutB w g us W):g<w.heap.size:=Blk.lt h
theorem OutB.mod {S:Nat→Prop} (h:OutB w g us W) (hm:Mod S w w') (hg:¬ S g):OutB w' g us W:=Blk.mod h hm hg
theorem OutB.snoc {k:Nat} (h:OutB w g us W) (hk:k=us.length) (hl:us.length<W) (v:Value):OutB (w.setCell ⟨g,k,none⟩ v) g (us ++ [v]) W:=by
 subst hk;have h1:=Blk.set h us.length v;unfold OutB;rw [show W - us.length=(W - (us ++ [v]).length)+1 by simp; omega,List.replicate_succ] at h1
 have e:(us ++ Value.slice none 0 0 :: List.replicate (W - (us ++ [v]).length) (Value.slice none 0 0)).toArray.setIfInBounds us.length v=(us ++ [v] ++ List.replicate (W - (us ++ [v]).length) (Value.slice none 0 0)).toArray:=by
  rw [List.setIfInBounds_toArray,List.set_append_right _ _ (Nat.le_refl _),Nat.sub_self,List.set_cons_zero,List.append_assoc]
  rfl
 rw [e] at h1;exact h1
theorem OutB.cellk {k:Nat} (h:OutB w g us W) (hk:k=us.length) (hl:us.length<W):w.cell? ⟨g,k,none⟩=some (.slice none 0 0)∧w.frozen? ⟨g,k,none⟩=false:=by
 subst hk;refine ⟨?_,Blk.frozen h _⟩;rw [Blk.cell h,List.getElem?_toArray,List.getElem?_append_right (Nat.le_refl _),Nat.sub_self,List.getElem?_replicate,if_pos (by omega)]
theorem OutB.skip (h:OutB w g us W) (hl:us.length<W):OutB w g (us ++ [Value.slice none 0 0]) W:=by
 unfold OutB at *;rw [show W - us.length=(W - (us ++ [Value.slice none 0 0]).length)+1 by simp; omega,List.replicate_succ] at h;rw [List.append_assoc];exact h
theorem OutB.new (w:World) (W:Nat):OutB (w.alloc (.cells (List.replicate W (Value.slice none 0 0)).toArray 22)) w.heap.size [] W:=by
 unfold OutB
 simpa using Blk.new w 22 (List.replicate W (Value.slice none 0 0)).toArray
theorem OutB.sl (h:OutB w g us W) (hr:RowsU w us rs) (hW:rs.length=W) (hb:W≤1000000):SlI w (.slice (some ⟨g,0,none⟩) W W) rs:=by
 have hl:=hr.1;unfold OutB at h;rw [show W - us.length=0 by omega,List.replicate_zero,List.append_nil] at h;exact ⟨us,⟨_,_,_,rfl,Nat.le_refl _,by omega,by omega,fun _=>⟨g,0,rfl,h.row0⟩⟩,hl,hr.2⟩
theorem SlI.two {g:Nat} {u v:Value} {a b:List Nat} (h:Blk w g 22 #[u,v]) (hu:Sl w 3 1 u (nvQ a)∧NilOkI u) (hv:Sl w 3 1 v (nvQ b)∧NilOkI v):SlI w (.slice (some ⟨g,0,none⟩) 2 2) [a,b]:=by
 refine ⟨[u,v],⟨_,_,_,rfl,Nat.le_refl _,by omega,rfl,fun _=>⟨g,0,rfl,Blk.row0 h⟩⟩,rfl,fun i hi => ?_⟩
 match i,hi with
 | 0,_=>exact ⟨u,rfl,hu.1,hu.2⟩
 | 1,_=>exact ⟨v,rfl,hv.1,hv.2⟩
theorem own_NilOk {base n:Nat} {v:Value} {xs:List Value} (h:w.ownsRow base 3 1 v n xs):NilOkI v:=by
 intro m c hv
 rcases h.2 with ⟨h1,h2⟩ | ⟨g,cap,cur,h1,_⟩
 ·rw [h1] at hv; cases hv; exact ⟨rfl,rfl⟩
 ·rw [h1] at hv; cases hv
end Go.Proofs.YtnfflgicngeekaaGreatDoor
namespace Go.Proofs.YtnfflgicngeekaaGreatDoor
open Go.RowKit
theorem own_baseI {w:World} {b1 b2 n s:Nat} {e:TypeId} {v:Value} {xs:List Value} (h:w.ownsRow b1 e s v n xs) (hb:b2≤b1):w.ownsRow b2 e s v n xs:=by
 refine ⟨h.1,?_⟩
 rcases h.2 with h | ⟨g,cap,cur,a,b,c⟩
 ·exact .inl h
 ·exact .inr ⟨g,cap,cur,a,by omega,c⟩
theorem both_calls (w:World) (va vb:Value) (W:Nat) (F G:Nat→Nat→Bool) (ha:SlI w va (rowsQ W F)) (hb:SlI w vb (rowsQ W G)) (hW:W≤1000):Calls Tryz.prog 209 #[va,vb] w (RnP w W (fun i j=>F i j || G i j)):=by
 obtain ⟨Aa,ca,rfl,hca,hca2⟩:=ha.form;obtain ⟨Ab,cb,rfl,hcb,hcb2⟩:=hb.form;have HA:=hd_ ha;have HB:=hd_ hb;have hmk:=run_make_one (P:=Tryz.prog) 185 22 (.slice none 0 0) 24 Tryz.underlying185 info_intsQ rfl .i64 .i64 W (W:Int) rfl (by omega) (by omega) (Array.replicate W (Value.slice none 0 0)) (by simp);simp only [rowsQ_len] at *;clear ha hb;have HO:=hd_ (OutB.new w W);have HM:=hd_ (pure_alloc w (.cells (List.replicate W (Value.slice none 0 0)).toArray 22));rw [List.toArray_replicate] at HO HM
 go_enter Tryz.func209,Tryz.ntmps209
 go_wp2_with fail;clear hmk;have hgw:=Nat.le_refl w.heap.size;generalize (w.alloc (.cells (Array.replicate W (Value.slice none 0 0)) 22))=w1 at *;generalize hg:w.heap.size=g at *
 go_loopg [13] W (fun gk i wr=>∃ (k:Nat) (us:List Value),W - k=gk∧k≤W∧i = .int .i64 (k:Int)∧us.length=k∧OutB wr g us W∧RowsU wr us ((rowsQ W fun i j=>F i j || G i j).take k)∧Pure w wr)
 case atStart=>exact ⟨0,[],by omega,by omega,rfl,rfl,HO.out,RowsU.nil,HM.out⟩
 case round =>
  clear HO HM;obtain ⟨k,us,rfl,hk,rfl,hul,hO,hR,hm⟩:=hrel
  by_cases hlt:k<W
  ·obtain ⟨ga,oa,A1,c1,rfl,qa,sa,na⟩:=(HA.out.pure hm).at (i:=k) (by rw [rowsQ_len]; exact hlt);obtain ⟨gb,ob,A2,c2,rfl,qb,sb,nb⟩:=(HB.out.pure hm).at (i:=k) (by rw [rowsQ_len]; exact hlt);rw [rowsQ_at] at qa qb sa sb na nb;have HROW:=hd_ (bothRow (W:=W) (f:=F k) (g:=G k));have HLA:=rowQ_len W (F k);have HLB:=rowQ_len W (G k)
   have HTK:Hid ((rowsQ W fun i j=>F i j || G i j).take (k+1)=(rowsQ W fun i j=>F i j || G i j).take k ++ [rowQ W fun j=>F k j || G k j]):=hd_ (by
    rw [List.take_succ_eq_append_getElem (by rw [rowsQ_len]; exact hlt),rowsQ_at])
   have HSA:=hd_ (And.intro sa na);have HSB:=hd_ (And.intro sb nb);have HO:=hd_ hO;have HR:=hd_ hR;have HM:=hd_ hm;have HU:=hd_ hul;clear sa na sb nb hO hR hm hul;generalize rowQ W (F k)=la at *;generalize rowQ W (G k)=lb at *;go_wp2_with fail;have HGs:=hd_ (show KeepG (fun Z=>Z.cell? ⟨ga,oa+k,none⟩=some (.slice A1 la.length c1)∧Z.cell? ⟨gb,ob+k,none⟩=some (.slice A2 lb.length c2)∧(Sl Z 3 1 (.slice A1 la.length c1) (nvQ la)∧NilOkI (.slice A1 la.length c1))∧(Sl Z 3 1 (.slice A2 lb.length c2) (nvQ lb)∧NilOkI (.slice A2 lb.length c2))) from fun D zzi zq zq' h hm=>by (exact ⟨keepp h.1 hm,keepp h.2.1 hm,⟨h.2.2.1.1.pure hm,h.2.2.1.2⟩,⟨h.2.2.2.1.pure hm,h.2.2.2.2⟩⟩))
   refine wp_region_inv (by kernel_rfl) (by kernel_rfl) (InvF (R:=Mod (fun _=>False)) [.is (.slice (some ⟨ga,oa,none⟩) W ca),.is (.int .i64 (k:Int)),.is (.pointer (some ⟨ga,oa+k,none⟩)),.is (.slice A1 la.length c1),.is (.slice (some ⟨gb,ob,none⟩) W cb),.is (.int .i64 (k:Int)),.is (.pointer (some ⟨gb,ob+k,none⟩)),.is (.slice A2 lb.length c2),⟨fun zv zw=>∃ (g_8:Nat),zv = .slice (some ⟨g_8,0,none⟩) 2 2∧wr.heap.size≤g_8∧Blk zw g_8 22 #[.slice A1 la.length c1,.slice A2 lb.length c2],(by rintro zv zw zx ⟨g_8,rfl,c0,q0⟩ hm; exact ⟨g_8,rfl,c0,(q0.modp hm)⟩),none,some 9⟩,⟨fun zv zw=>∃ (v_9:Value) (n_9:Nat),zv=v_9∧zw.ownsRow wr.heap.size 3 1 v_9 n_9 (nvQ [la,lb].flatten),(by rintro zv zw zx ⟨v_9,n_9,hze,q0⟩ hm; exact ⟨v_9,n_9,hze,(own_pure q0 hm)⟩),none,none⟩,⟨fun zv zw=>∃ (v_10:Value) (n_10:Nat),zv=v_10∧zw.ownsRow wr.heap.size 3 1 v_10 n_10 (nvQ [la,lb].flatten),(by rintro zv zw zx ⟨v_10,n_10,hze,q0⟩ hm; exact ⟨v_10,n_10,hze,(own_pure q0 hm)⟩),none,none⟩]
     (PB wr (fun _=>False) wr.heap.size (fun _=>(fun Z=>Z.cell? ⟨ga,oa+k,none⟩=some (.slice A1 la.length c1)∧Z.cell? ⟨gb,ob+k,none⟩=some (.slice A2 lb.length c2)∧(Sl Z 3 1 (.slice A1 la.length c1) (nvQ la)∧NilOkI (.slice A1 la.length c1))∧(Sl Z 3 1 (.slice A2 lb.length c2) (nvQ lb)∧NilOkI (.slice A2 lb.length c2)))))) (InvF.start (PB.start (Mod.refl _ _) (Nat.le_refl _) (⟨qa,qb,HSA.out,HSB.out⟩))) ?_ ?_
   ·iterate 11 (refine .cons ?_ ?_; rotate_left)
    exact .nil
    all_goals intro D V zw1 a hR hI K hK
    all_goals try rw [if_pos (by rfl)]
    have ze0:=hR.ot 0;rotate_left;have ze6:=hR.ot 6;rotate_left;have ze16:=hI.tm hR 16 0;have ze17:=hI.tm hR 17 1;rotate_left;have hG1:=hI.1.g;obtain ⟨hG1a,hG1b,hG1c,hG1d⟩:=hG1;have ze18:=hI.tm hR 18 2;rotate_left;have ze1:=hR.ot 1;rotate_left;have ze6:=hR.ot 6;rotate_left;have ze20:=hI.tm hR 20 4;have ze21:=hI.tm hR 21 5;rotate_left;have hG1:=hI.1.g;obtain ⟨hG1a,hG1b,hG1c,hG1d⟩:=hG1;have ze22:=hI.tm hR 22 6;rotate_left
    ·have hM1:=hI.1.mod;have hB1:=hI.1.big;have hG1:=hI.1.g;obtain ⟨hG1a,hG1b,hG1c,hG1d⟩:=hG1;have ze19:=hI.tm hR 19 3;have ze23:=hI.tm hR 23 7;go_simp;exact hK (_) _ (hI.next hR (by kernel_rfl) ((Mod.refl _ _).alloc _) (PB.quiet hI.1 (pure_alloc _ _) (HGs.out D 8 _ _ (hI.1).g ((Mod.refl _ _).alloc _))) (⟨_,upd_same V 8 _,(by omega),(Blk.new _ _ _)⟩))
    ·have hM1:=hI.1.mod;have hB1:=hI.1.big;have hG1:=hI.1.g;obtain ⟨hG1a,hG1b,hG1c,hG1d⟩:=hG1;have zd8:=hR.pred 8 (by kernel_rfl);have zF8:∃ (g_8:Nat),V 8 = .slice (some ⟨g_8,0,none⟩) 2 2∧wr.heap.size≤g_8∧Blk zw1 g_8 22 #[.slice A1 la.length c1,.slice A2 lb.length c2]:=hI.2 8 zd8 (by show (!D 9)=true; rw [hR.not]; rfl);obtain ⟨g_8,zf8,c8_0,b8_0⟩:=zF8;have ze24:=hR.frame.done (t:=24) (j:=8) (by kernel_rfl) hR.ok zd8;go_simp;refine (concatI_calls zw1 _ [la,lb] (SlI.two b8_0 hG1c hG1d) (by simp [lensI]; omega)).mono ?_;rintro e zw2 ⟨v_0,n_0,rfl,hq,hm2⟩;exact hK (v_0) _ (hI.next hR (by kernel_rfl) hm2 (PB.quiet hI.1 hm2 (HGs.out D 9 _ _ (hI.1).g hm2)) (⟨v_0,n_0,upd_same V 9 _,(own_baseI hq (by omega))⟩))
    ·have hM1:=hI.1.mod;have hB1:=hI.1.big;have hG1:=hI.1.g;obtain ⟨hG1a,hG1b,hG1c,hG1d⟩:=hG1;have zd9:=hR.pred 9 (by kernel_rfl);have zF9:∃ (v_9:Value) (n_9:Nat),V 9=v_9∧zw1.ownsRow wr.heap.size 3 1 v_9 n_9 (nvQ [la,lb].flatten):=hI.2 9 zd9 rfl;obtain ⟨v_9,n_9,zf9,b9_0⟩:=zF9;have ze25:=hR.frame.done (t:=25) (j:=9) (by kernel_rfl) hR.ok zd9;go_simp;exact hK (v_9) _ (hI.next hR (by kernel_rfl) (Mod.refl _ _) (PB.quiet hI.1 (Mod.refl _ _) (HGs.out D 10 zw1 zw1 (hI.1).g (Mod.refl _ _))) (⟨v_9,n_9,upd_same V 10 _,b9_0⟩))
    all_goals (go_simp; exact hK _ _ (hI.nq hR HGs.out rfl))
   ·intro D V w2 hD hI;obtain ⟨hMx,hBx,hGx⟩:=hI.1;have zf0:=hI.eqA hD 0;have zf1:=hI.eqA hD 1;have zf2:=hI.eqA hD 2;have zf3:=hI.eqA hD 3;have zf4:=hI.eqA hD 4;have zf5:=hI.eqA hD 5;have zf6:=hI.eqA hD 6;have zf7:=hI.eqA hD 7;have zF9:∃ (v_9:Value) (n_9:Nat),V 9=v_9∧w2.ownsRow wr.heap.size 3 1 v_9 n_9 (nvQ [la,lb].flatten):=hI.2 9 (hD 9 (by decide)) rfl;obtain ⟨v_9,n_9,zf9,b9_0⟩:=zF9;have zF10:∃ (v_10:Value) (n_10:Nat),V 10=v_10∧w2.ownsRow wr.heap.size 3 1 v_10 n_10 (nvQ [la,lb].flatten):=hI.2 10 (hD 10 (by decide)) rfl;obtain ⟨v_10,n_10,zf10,b10_0⟩:=zF10;clear hI hD HGs;simp only [frAll,Act.put,List.setIfInBounds_toArray,List.set_cons_zero,List.set_cons_succ,Nat.zero_add,Nat.reduceAdd,zf0,zf1,zf2,zf3,zf4,zf5,zf6,zf7,zf9,zf10];clear zf0 zf1 zf2 zf3 zf4 zf5 zf6 zf7 zf9 zf10;generalize V 8=u8;clear V D;have HOW:=hd_ b10_0;have hm2:=hMx;have hg2:=HO.out.lt
    have hlen:(la ++ lb).length≤2000:=by simp; omega
    rw [show ([la,lb].flatten:List Nat)=la ++ lb by simp] at HOW
    have hn:n_10=(la ++ lb).length:=by have:=HOW.out.1; simp [nvQ] at this; simp; omega
    subst hn;have HSO:=hd_ (fun W0 (h:W0.ownsRow wr.heap.size 3 1 v_10 (la ++ lb).length (nvQ (la ++ lb)))=>sortI_calls W0 v_10 _ _ (castI (la ++ lb)) (by rw [ivQ_cast]; exact h) (by rw [castI_len]; omega));have hob:=hd_ (own_block HOW.out);have HM2:=hd_ hm2;clear hMx hGx b10_0 qa qb HSA HSB hm2;go_wp2_with fail;refine (HSO.out _ HOW.out).mono ?_;rintro e w3 ⟨rfl,hq,hm3⟩;have HM3:Hid (Pure wr w3):=hd_ (HM2.out.trans' hm3 (fun i hi hlt=>by have:=hob.out i hi; omega));have HCO:=hd_ (compactI_calls w3 v_10 _ _ _ hq (by rw [List.length_mergeSort,castI_len]; omega));rw [show ((castI (la ++ lb)).mergeSort fun x y=>decide (x≤y))=(castI (la ++ lb)).mergeSort fun x y=>decide (x≤y) from rfl] at HCO;clear hq hm3 HSO HM2;go_wp2_with fail;refine HCO.out.mono ?_;rintro e w4 ⟨v4,rfl,hq,hbk,hm4⟩;obtain ⟨A4,n4,c4,rfl⟩:=(Sl.of_own hq).form;rw [HROW.out,castI_len,ivQ_cast] at hq;have HQ:=hd_ hq;have HM4:Hid (Pure wr w4):=hd_ (HM3.out.trans' hm4 (fun i hi hlt=>by have:=hob.out i hi; omega));have HO4:=hd_ (HO.out.mod HM4.out (fun h=>h));obtain ⟨x0,xf0⟩:=HO4.out.cellk HU.out.symm (by rw [HU.out]; exact hlt);clear hq hm4 HCO HM3 HO;go_wp2_with fail
    go_roundg (W - (k+1))
    case measure=>omega
    case rel =>
     refine ⟨k+1,us ++ [.slice A4 n4 c4],rfl,hlt,by simp,by simp [HU.out],HO4.out.snoc HU.out.symm (by rw [HU.out]; exact hlt) _,?_,(HM.out.trans HM4.out).setCell (.inr (by show w.heap.size≤g; omega)) _⟩;rw [HTK.out];exact ((HR.out.pure HM4.out).set HO4.out (by decide) _ _).snoc ((Sl.of_own HQ.out).set_ne HO4.out (by decide) _) (own_NilOk HQ.out)
  ·have hke:k=W:=(by omega);subst hke;go_wp2_with fail;go_ret;exact ⟨_,rfl,hO.sl (by rw [List.take_of_length_le (by rw [rowsQ_len]; omega)] at hR; exact hR) (rowsQ_len _ _) (by omega),hm⟩
end Go.Proofs.YtnfflgicngeekaaGreatDoor
namespace Go.Proofs.YtnfflgicngeekaaGreatDoor
open Go.RowKit
theorem nvQ_one (l:List Nat):∀ u∈nvQ l,u.oneCell'=true:=by
 intro u hu;obtain ⟨x,_,rfl⟩:=List.mem_map.1 hu
 rfl
theorem run_appI (w:World) (ty:TypeId) (base n:Nat) (v u:Value) (xs:List Value) (l:List Nat) (hown:w.ownsRow base 3 1 v n xs) (hu:Sl w 3 1 u (nvQ l)) (hn:NilOkI u) (hb:base≤w.heap.size) (hs:n+l.length≤100000000) :
  ∃ A c w',(Builtin.append_ #[22,22] ty #[v,u]).run Tryz.prog w = .ok (.slice A (n+l.length) c) w'∧w'.ownsRow base 3 1 (.slice A (n+l.length) c) (n+l.length) (xs ++ nvQ l)∧w.grownBy w' v.ownBlock∧((Value.slice A (n+l.length) c).ownBlock=v.ownBlock∨(Value.slice A (n+l.length) c).ownBlock=some w.heap.size):=by
 obtain ⟨i0,hi0,hz0,hz1,hz2⟩:=info_parts info_intQ;obtain ⟨A,m,c,rfl⟩:=hu.form;obtain ⟨hm,hmc,_⟩:=hu.lenI;rw [nvQ_len] at hm;subst hm
 cases A with
 | none =>
  obtain ⟨h0,rfl⟩:=hn _ _ rfl;have hl:l=[]:=List.eq_nil_of_length_eq_zero h0;subst hl;have hr:=run_append_owned_none (P:=Tryz.prog) (w:=w) base 22 ty 3 i0 1 Tryz.underlying22 hi0 v n xs hown;obtain ⟨A,k,c,rfl⟩:=(Sl.of_own hown).form;have hk:=(Sl.of_own hown).lenI;have h1:=hown.1
  obtain rfl:k=n:=by omega
  exact ⟨A,c,w,by simpa using hr,by simpa [nvQ] using hown,⟨rfl,rfl,rfl,Nat.le_refl _,fun _ _ _=>rfl⟩,.inl rfl⟩
 | some ad =>
  obtain ⟨_,_,_,e,_,_,_,hrow⟩:=hu
  cases e
  have hc:∀ j u,(nvQ l)[j]? = some u→w.cell? (ad.add j)=some u:=by
   intro j u hj
   have hjl:j<l.length:=by
    rcases Nat.lt_or_ge j (nvQ l).length with h | h
    ·rwa [nvQ_len] at h
    ·rw [List.getElem?_eq_none h] at hj; cases hj
   obtain ⟨g3,o3,he3,hr3⟩:=hrow (by omega)
   injection he3 with he3
   subst he3;have:=hr3.cell hj;unfold Addr.add
   split
   ·rename_i h0; subst h0; simpa using this
   ·exact this
  obtain ⟨v',w',hr,h2,h3,h4,h5⟩:=run_append_own_at (P:=Tryz.prog) w base 22 ty 3 i0 _ 1 8 Tryz.underlying22 hi0 hz0 hz1 hz2 rfl (by omega) v n xs hown ad l.length c (nvQ l) (by rw [nvQ_len]; omega) hc (nvQ_one l) (by simp [maxLen]; omega) (by omega) hb;obtain ⟨A,k,c',rfl⟩:=(Sl.of_own h2).form;have hk:=(Sl.of_own h2).lenI;have h1:=h2.1
  obtain rfl:k=n+l.length:=by omega
  exact ⟨A, c', w', hr, h2, h3, h5⟩ -- hb5
theorem step_append_I {P:Program} {ops:Array Oper} {o:Oper} {a:Act} {w:World} {K:Act→World→Prop} {Q:Exit→Act→World→Prop} {E:Prop} (hg:o.guard=none) (s x:Operand) (t:TypeId)
  (hop:o.op=Op.call { callee:=Callee.builtin Builtin.append,args:=#[s,x],argTypes:=#[t,t] }) (v u r:Value) (w':World) (hs:a.eval s=v) (hx:a.eval x=u)
  (hr:(Builtin.append_ #[t,t] o.type #[v,u]).run P w = .ok r w') (hK:K (a.put o.dst r) w'):if Region.wanted o (yielded ops a.tmps)=true then Oper.wp P o a w K Q else E:=by
 rw [if_pos (by simp [Region.wanted,hg])];unfold Oper.wp execOp;simp only [hop,resolve,invoke,builtin,Sem.run_bind,Sem.run_pure,Result.andThen_ok,List.map_toArray,List.map_cons,List.map_nil,hs,hx,hr];exact hK
def RangeB (w:World) (g:Nat) (t:TypeId) (N:Nat) (f:Nat→Value):Prop:=Blk w g t ((List.range N).map f).toArray
variable {w w':World} {g N:Nat} {t:TypeId} {f:Nat→Value}
theorem RangeB.cell (h:RangeB w g t N f) {i:Nat} (hi:i<N):w.cell? ⟨g,i,none⟩=some (f i):=by
 rw [Blk.cell h,List.getElem?_toArray,List.getElem?_map,List.getElem?_range hi]
 rfl
theorem RangeB.frozen (h:RangeB w g t N f) (i:Nat):w.frozen? ⟨g,i,none⟩=false:=Blk.frozen h i
theorem RangeB.lt (h:RangeB w g t N f):g<w.heap.size:=Blk.lt h
theorem RangeB.mod {S:Nat→Prop} (h:RangeB w g t N f) (hm:Mod S w w') (hg:¬ S g):RangeB w' g t N f:=Blk.mod h hm hg
theorem RangeB.set (h:RangeB w g t N f) (i:Nat) (v:Value):RangeB (w.setCell ⟨g,i,none⟩ v) g t N (upd f i v):=by
 have h1:=Blk.set h i v;unfold RangeB
 have e:((List.range N).map f).toArray.setIfInBounds i v=((List.range N).map (upd f i v)).toArray:=by
  rw [List.setIfInBounds_toArray]
  congr 1
  refine List.ext_getElem (by simp) fun j h1 h2 => ?_;rw [List.getElem_set,List.getElem_map,List.getElem_map,List.getElem_range];unfold upd
  by_cases hj:i=j
  ·rw [if_pos hj,if_pos hj.symm]
  ·rw [if_neg hj,if_neg (fun h=>hj h.symm)]
 rw [e] at h1;exact h1
theorem RangeB.far (h:RangeB w g t N f) {p:Addr} (hp:g≠p.block) (v:Value):RangeB (w.setCell p v) g t N f:=Blk.far h hp v
theorem RangeB.new (w:World) (t:TypeId) (N:Nat) (z:Value):RangeB (w.alloc (.cells (Array.replicate N z) t)) w.heap.size t N (fun _=>z):=by
 unfold RangeB
 have e:((List.range N).map (fun _:Nat=>z)).toArray=Array.replicate N z:=by
  rw [← List.toArray_replicate]
  congr 1
  refine List.ext_getElem (by simp) fun j h1 h2=>by simp
 rw [e];exact Blk.new w t _
theorem RangeB.alloc (h:RangeB w g t N f) (o:Obj):RangeB (w.alloc o) g t N f:=Blk.alloc h o
def KnwI (w:World) (bv:Nat→Value) (kf:Nat→Bool) (R:Nat→List Nat) (N:Nat):Prop:=∀ e,e<N→(kf e=false→bv e = .slice none 0 0)∧(kf e=true→Sl w 3 1 (bv e) (nvQ (R e))∧NilOkI (bv e))
theorem KnwI.mod {bv:Nat→Value} {kf:Nat→Bool} {R:Nat→List Nat} {S:Nat→Prop} (h:KnwI w bv kf R N) (hm:Mod S w w') (hs:∀ g arr fr,w.heap[g]? = some (.cells arr 3 fr)→¬ S g):KnwI w' bv kf R N :=
 fun e he=>⟨(h e he).1,fun hk=>⟨((h e he).2 hk).1.mod hm hs,((h e he).2 hk).2⟩⟩
theorem KnwI.pure {bv:Nat→Value} {kf:Nat→Bool} {R:Nat→List Nat} (h:KnwI w bv kf R N) (hm:Pure w w'):KnwI w' bv kf R N:=h.mod hm (fun _ _ _ _ h=>h)
theorem KnwI.add {bv:Nat→Value} {kf:Nat→Bool} {R:Nat→List Nat} {e:Nat} {v:Value} (h:KnwI w bv kf R N) (hs:Sl w 3 1 v (nvQ (R e))) (hn:NilOkI v):KnwI w (upd bv e v) (upd kf e true) R N:=by
 intro i hi
 by_cases h1:i=e
 ·subst h1;rw [upd_same,upd_same];exact ⟨fun h=>(by cases h),fun _=>⟨hs,hn⟩⟩
 ·rw [upd_ne _ _ h1,upd_ne _ _ h1];exact h i hi
end Go.Proofs.YtnfflgicngeekaaGreatDoor
namespace Go.Proofs.YtnfflgicngeekaaGreatDoor
open Go.RowKit
def rdK (s:Str) (p kd tp k:Int) (a:Value) (n:Int) (b:Value):Array Value:=#[.string ⟨s.toArray⟩,.int .i64 p,.int .i64 kd,.int .i64 tp,.int .i64 k,a,.int .i64 n,b]
theorem mod_set {a w:World} {g:Nat} (h:Mod (· = g) a w) (i:Nat) (v:Value):Mod (· = g) a (w.setCell ⟨g,i,none⟩ v):=Mod.setCell (S:=fun k=>k=g) (p:=⟨g,i,none⟩) h (.inl rfl) v
theorem cutB_quiet (w:World) (s:Str) (c:UInt8) (hM:MlnS w) (hs:s.length≤1000000):Calls Tryz.prog 191 #[.string ⟨s.toArray⟩,.string ⟨#[c]⟩] w (fun e w'=>e = .returned (.tuple #[.string ⟨(headS c s).toArray⟩,.string ⟨(restS c s).toArray⟩,.bool (fstL c s).isSome])∧∃ n,w'=w.drewN n):=by
 obtain ⟨m,hm⟩:=hM;refine (Any.strings_Cut Tryz.lays145 ⟨s.toArray⟩ ⟨#[c]⟩ m w (by simp [ByteArray.size]; omega) hm).mono ?_;rintro e w' ⟨rfl,n,rfl⟩;refine ⟨?_,n,rfl⟩;have h:=cut_byte c s
 show Ending.returned (.tuple #[.string ⟨(Lib.cut s [c]).1.toArray⟩,.string ⟨(Lib.cut s [c]).2.1.toArray⟩,.bool (Lib.cut s [c]).2.2])=_
 rw [h];unfold headS restS
 cases fstL c s <;> rfl
def TkP (w:World) (g:Nat) (s:Str) (j:Nat) (r:Int × Qry × Nat) (e:Ending) (w':World):Prop:=∃ qr:QR,e = .returned (.tuple #[])∧Blk w' g 136 (rdC s (j+r.2.2) r.1 j qr)∧qr.key=r.2.1∧QS w' qr∧Mod (· = g) w w'
theorem QS.zero {w:World} {k n:Int}:QS w (.mk k none 0 [] n none 0 []):=.mk Sl.nil_ Sl.nil_ (fun a ha=>by cases ha)
def neQ (ls:List Str) (k:Nat):List Str:=(ls.take k).filter fun w => !w.isEmpty
theorem neQ_succ {ls:List Str} {k:Nat} (h:k<ls.length):neQ ls (k+1)=neQ ls k ++ (if ls[k]=[] then [] else [ls[k]]):=by
 unfold neQ;rw [List.take_succ_eq_append_getElem h,List.filter_append]
 congr 1
 cases hx:ls[k] with
 | nil=>simp
 | cons c t=>simp
theorem neQ_len (ls:List Str) (k:Nat):(neQ ls k).length≤k:=by
 unfold neQ;have:=List.length_filter_le (fun w:Str => !w.isEmpty) (ls.take k);rw [List.length_take] at this
 omega
theorem neQ_mem {ls:List Str} {k:Nat} (h:k<ls.length) (hx:ls[k]≠[]):ls[k]∈neQ ls ls.length:=by
 unfold neQ;rw [List.take_length];refine List.mem_filter.2 ⟨List.getElem_mem h,?_⟩
 cases he:ls[k] with
 | nil=>exact absurd he hx
 | cons c t=>rfl
theorem neQ_all (ls:List Str):neQ ls ls.length=ls.filter fun w => !w.isEmpty:=by
 unfold neQ;rw [List.take_length]
theorem phrase_bad {body x:Str} (hx:x∈phrW body) (hp:patB x=false):phraseQ body=(8,q0):=by
 unfold phraseQ;rw [if_pos (.inl (List.all_eq_false.2 ⟨x,hx,by rw [hp]; simp⟩))]
theorem phrase_none {body:Str} (hx:phrW body=[]):phraseQ body=(8,q0):=by
 unfold phraseQ;rw [if_pos (.inr hx)]
theorem phrase_some {body:Str} (hx:phrW body≠[]) (hp:(phrW body).all patB=true):phraseQ body=(3,.mk (if (phrW body).length=1 then 2 else 3) (phrW body) 0 []):=by
 unfold phraseQ;rw [if_neg];rintro (h | h)
 ·rw [hp] at h; cases h
 ·exact hx h
theorem ext_end (s:Str) (a n:Nat) (h:n=s.length):(⟨s.toArray⟩:ByteArray).extract a n=⟨(s.drop a).toArray⟩:=by
 subst h;rw [ext_sub];unfold subS;rw [List.take_length]
theorem phraseR_calls (w:World) (g:Nat) (s t:Str) (j:Nat) (hs:s.length≤200000) (hj:j<s.length) (ht:s.drop (j+1)=t) (hM:∀ W,Mod (· = g) w W→MlnS W) (hB:Blk w g 136 (rdK s j 0 j 0 (.slice none 0 0) 0 (.slice none 0 0))) :
  Calls Tryz.prog 181 #[.pointer (some ⟨g,0,none⟩)] w (TkP w g s j (tokC 34 t)):=by
 have hz:(⟨s.toArray⟩:ByteArray).size=s.length:=by simp [ByteArray.size]
 have hB1:=hB.set 2 (.int .i64 8);have hm1:Mod (· = g) w (w.setCell ⟨g,2,none⟩ (.int .i64 8)):=mod_set (Mod.refl _ _) 2 _;unfold rdK at hB hB1;simp at hB1;obtain ⟨x0,x1,x2,x3,x4,x5,x6,x7,xf0,xf1,xf2,xf3,xf4,xf5,xf6,xf7⟩:=hB.c8f;have HM:=hd_ hM;have HB1:=hd_ hB1;have HM1:=hd_ hm1;clear hM hB hB1 hm1;obtain ⟨i0,hi0,hz0,hz1,hz2⟩:=info_parts info_strS
 go_enter Tryz.func181,Tryz.ntmps181
 go_upto_region 1 with (fail);generalize (w.setCell ⟨g,2,none⟩ (.int .i64 8))=w1 at *;clear x0 x1 x2 x3 x4 x5 x6 x7 xf0 xf1 xf2 xf3 xf4 xf5 xf6 xf7;have hB1:=HB1.out;obtain ⟨x0,x1,x2,x3,x4,x5,x6,x7,xf0,xf1,xf2,xf3,xf4,xf5,xf6,xf7⟩:=hB1.c8f;clear hB1;have hw1:IntKind.i64.wrap ((j:Int)+1)=(j:Int)+1:=IntWalk.i64_in _ (by omega)
 have hext:(⟨s.toArray⟩:ByteArray).extract (j+1) s.length=⟨t.toArray⟩:=by rw [ext_end s (j+1) _ rfl,ht]
 have htl:t.length+(j+1)=s.length:=by rw [← ht,List.length_drop]; omega
 have HC:=hd_ (fun n=>cutB_quiet (w1.drewN n) t 34 (HM.out _ (HM1.out.drewN n)) (by omega))
 go_quiet (exact Calls.quiet_of (HC.out _))
 have HB2:=hd_ (HB1.out.drewN nq);have HM2:=hd_ (HM1.out.drewN nq);clear x0 x1 x2 x3 x4 x5 x6 x7 xf0 xf1 xf2 xf3 xf4 xf5 xf6 xf7 HB1 HM1 HC;generalize w1.drewN nq=w2 at *
 cases hf:fstL 34 t with
 | none =>
  have HT:Hid (tokC 34 t=(8,q0,0)):=hd_ (by unfold tokC; rw [hf]; rfl);clear hf;go_wp2_with fail
  go_end0
  exact ⟨.mk 0 none 0 [] 0 none 0 [],rfl,by rw [HT.out]; exact HB2.out,by rw [HT.out,QR.key_mk]; rfl,QS.zero,HM2.out⟩
 | some p =>
  have hpl:=fstL_le hf
  have hh:headS 34 t=p.1:=by unfold headS; rw [hf]
  have HT:Hid (tokC 34 t=((phraseQ p.1).1,(phraseQ p.1).2,p.1.length+2)):=hd_ (by unfold tokC; rw [hf]; rfl);rw [hh];clear hf hh;generalize restS 34 t=t2
  have hzp:(⟨p.1.toArray⟩:ByteArray).size=p.1.length:=by simp [ByteArray.size]
  have hB2:=HB2.out;obtain ⟨x0,x1,x2,x3,x4,x5,x6,x7,xf0,xf1,xf2,xf3,xf4,xf5,xf6,xf7⟩:=hB2.c8f;have HB3:=hd_ (hB2.set 1 (.int .i64 ((j:Int)+((p.1.length:Int)+2))));have HM3:=hd_ (mod_set HM2.out 1 (.int .i64 ((j:Int)+((p.1.length:Int)+2))));clear hB2;go_upto_region 4 with (fail);generalize (w2.setCell ⟨g,1,none⟩ (.int .i64 ((j:Int)+((p.1.length:Int)+2))))=w3 at *;clear x0 x1 x2 x3 x4 x5 x6 x7 xf0 xf1 xf2 xf3 xf4 xf5 xf6 xf7 HB2 HM2;have HL:=hd_ (lowerQ_calls w3 p.1 (by omega));generalize hb:p.1=body at *;go_wp2_with fail;refine HL.out.mono ?_;rintro e w4 ⟨rfl,hm4⟩;have HB4:=hd_ (HB3.out.modp hm4);have HM4:=hd_ (HM3.out.trans (Mod.of_pure hm4))
  have hll:(lowS body).length=body.length:=by simp [lowS]
  have HS:=hd_ (split_calls w4 (lowS body) [32] (HM.out _ HM4.out) (by omega) (by decide));rw [split_byte] at HS;have HLN:Hid (∀ x∈spl 32 (lowS body),x.length≤200000):=hd_ (fun x hx=>by have:=spl_len hx; omega);have hct:=spl_count 32 (lowS body);have HPH:Hid (phrW body=(spl 32 (lowS body)).filter fun w => !w.isEmpty):=hd_ rfl;clear hm4 HB3 HM3 HL;generalize spl 32 (lowS body)=ls at *;go_wp2_with fail;refine HS.out.mono ?_;rintro e wB ⟨rfl,rfl⟩;have HSB:=hd_ (Blk.new w4 9 (strsV ls).toArray);have HB5:=hd_ (HB4.out.alloc (.cells (strsV ls).toArray 9));have HM5:=hd_ (HM4.out.alloc (.cells (strsV ls).toArray 9));have hg5:g<w4.heap.size:=HB4.out.lt;clear HB4 HM4 HS;generalize (w4.alloc (.cells (strsV ls).toArray 9))=wB at *;generalize hgs:w4.heap.size=gs at *;clear hgs;have hsz5:=Nat.le_refl wB.heap.size;go_wp2_with fail
  go_loopg [5,43] ls.length (fun gk l i wr=>∃ (k:Nat) (A:Option Addr) (c:Nat),ls.length - k=gk∧k≤ls.length∧i = .int .i64 (k:Int)∧l = .slice A (neQ ls k).length c∧wr.ownsRow wB.heap.size 9 1 (.slice A (neQ ls k).length c) (neQ ls k).length (strsV (neQ ls k))∧(neQ ls k).all patB=true∧Pure wB wr)
  case atStart=>exact ⟨0,none,0,by omega,by omega,rfl,rfl,⟨by simp [strsV,neQ],.inl ⟨rfl,rfl⟩⟩,rfl,Mod.refl _ _⟩
  case round =>
   obtain ⟨k,A,c,rfl,hk,rfl,rfl,hown,hall,hm⟩:=hrel;have HOW:=hd_ hown;have HAL:=hd_ hall;have HMR:=hd_ hm;have hnl:=neQ_len ls k;clear hown hall hm
   by_cases hlt:k<ls.length
   ·have q0:=(HSB.out.modp HMR.out).row0.cell (strsV_get ls k hlt);rw [Nat.zero_add] at q0;have HNS:=hd_ (neQ_succ hlt);have hxl:=HLN.out _ (List.getElem_mem hlt);have HNM:=hd_ (fun h=>neQ_mem hlt h)
    by_cases he:ls[k]=[]
    ·have HN2:Hid (neQ ls (k+1)=neQ ls k):=hd_ (by rw [HNS.out,if_pos he,List.append_nil]);rw [he] at q0;go_wp2_with fail
     go_roundg (ls.length - (k+1))
     case measure=>omega
     case rel=>exact ⟨k+1,A,c,rfl,hlt,by simp,by rw [HN2.out],by rw [HN2.out]; exact HOW.out,by rw [HN2.out]; exact HAL.out,HMR.out⟩
    ·have hxe:(ls[k] == ([]:Str))=false:=(by simpa using he);have HN2:Hid (neQ ls (k+1)=neQ ls k ++ [ls[k]]):=hd_ (by rw [HNS.out,if_neg he]);have HNM2:=hd_ (HNM.out he);have HIP:=hd_ (isPattern_calls wr ls[k] (by omega));clear HNS HNM he;generalize ls[k]=x at *;go_wp2_with fail;refine HIP.out.mono ?_;rintro e w6 ⟨rfl,rfl⟩
     cases hpx:patB x
     ·go_wp2_with fail
      go_end0
      have HPQ:=phrase_bad (by rw [HPH.out,← neQ_all]; exact HNM2.out) hpx;have hB9:=HB5.out.modp HMR.out;refine ⟨.mk 0 none 0 [] 0 none 0 [],rfl,?_,by rw [HT.out,HPQ,QR.key_mk]; rfl,QS.zero,HM5.out.trans (Mod.of_pure HMR.out)⟩;rw [HT.out,HPQ];have e:((j+(body.length+2):Nat):Int)=(j:Int)+((body.length:Int)+2):=(by omega)
      show Blk wr g _ (rdC s (j+(body.length+2)) 8 j _)
      unfold rdC;rw [e];exact hB9
     ·have hmr:=HMR.out;have hown:=HOW.out;have hown0:=HOW.out;have hbs:=hmr.size
      go_wp2_with ((at_builtin; refine wpList_append_lies _ rfl _ _ _ rfl wB.heap.size 9 i0 _ 1 16 Tryz.underlying26 hi0 hz0 hz1 hz2 rfl (by omega) (.slice A (neQ ls k).length c) (neQ ls k).length (strsV (neQ ls k)) rfl (hown.alloc _) ⟨wr.heap.size,0,none⟩ 1 1 [.string ⟨x.toArray⟩] rfl rfl (World.news_of_block (cs:=#[.string ⟨x.toArray⟩]) (t:=9) (fr:=(0,0)) (heap_alloc_new wr _)) (by simp [Value.oneCell']) (by omega) (by simp [maxLen]; omega) (by omega) (by have:=hmr.size; simp; omega) (wr.heap.size+1) (by simp) ?_; intro g5 cap5 w5 hown5 hgrow hat hlt5))
      go_roundg (ls.length - (k+1))
      case measure=>omega
      case rel =>
       refine ⟨k+1,some ⟨g5,0,none⟩,cap5,rfl,hlt,by simp,by rw [HN2.out]; simp,?_,by rw [HN2.out,List.all_append,HAL.out]; simp [hpx],((HMR.out.alloc _).grown hgrow (fun j hj => .inr (own_block hown0 j hj)))⟩;rw [HN2.out]
       simpa [strsV] using hown5
   ·obtain rfl:k=ls.length:=by omega
    rw [neQ_all] at HOW HAL hnl ⊢;rw [← HPH.out] at HOW HAL hnl ⊢;have HPQ:Hid (phrW body=[]→phraseQ body=(8,q0)):=hd_ phrase_none;have HPS:Hid (phrW body≠[]→phraseQ body=(3,.mk (if (phrW body).length=1 then 2 else 3) (phrW body) 0 [])):=hd_ (fun h=>phrase_some h HAL.out);have HM9:=hd_ (HM5.out.trans (Mod.of_pure HMR.out));have HB9:=hd_ (HB5.out.modp HMR.out);clear HPH HAL HM5 HB5 HSB HMR;generalize phrW body=L at *
    by_cases hL:L=[]
    ·have HQ:=hd_ (HPQ.out hL);subst hL;go_wp2_with fail
     go_end0
     have e:((j+(body.length+2):Nat):Int)=(j:Int)+((body.length:Int)+2):=(by omega);refine ⟨.mk 0 none 0 [] 0 none 0 [],rfl,?_,by rw [HT.out,HQ.out,QR.key_mk]; rfl,QS.zero,HM9.out⟩;rw [HT.out,HQ.out]
     show Blk wr g _ (rdC s (j+(body.length+2)) 8 j _)
     unfold rdC;rw [e];exact HB9.out
    ·have HQ:=hd_ (HPS.out hL);have hl0:0<L.length:=List.length_pos_iff.2 hL
     have hl1:((L.length:Int) == 0)=false:=by rw [← Bool.not_eq_true,beq_iff_eq]; omega
     have hB9:=HB9.out;obtain ⟨x0,x1,x2,x3,x4,x5,x6,x7,xf0,xf1,xf2,xf3,xf4,xf5,xf6,xf7⟩:=hB9.c8f;have HBW:=hd_ (((((hB9.set 2 (.int .i64 3)).set 4 (.int .i64 3)).set 5 (.slice A L.length c)).set 6 (.int .i64 0)).set 7 (.slice none 0 0));have HMW0:=hd_ (mod_set (mod_set (mod_set (mod_set (mod_set (Mod.refl (· = g) wr) 2 (.int .i64 3)) 4 (.int .i64 3)) 5 (.slice A L.length c)) 6 (.int .i64 0)) 7 (.slice none 0 0));clear HPQ HPS hL hB9;go_upto_region 15 with (fail);generalize (((((wr.setCell ⟨g,2,none⟩ (.int .i64 3)).setCell ⟨g,4,none⟩ (.int .i64 3)).setCell ⟨g,5,none⟩ (.slice A L.length c)).setCell ⟨g,6,none⟩ (.int .i64 0)).setCell ⟨g,7,none⟩ (.slice none 0 0))=w7 at *;clear x0 x1 x2 x3 x4 x5 x6 x7 xf0 xf1 xf2 xf3 xf4 xf5 xf6 xf7;have HSL:=hd_ ((Sl.of_own HOW.out).rd HB9.out HMW0.out (by decide));have HMW:=hd_ (HM9.out.trans HMW0.out);have e:((j+(body.length+2):Nat):Int)=(j:Int)+((body.length:Int)+2):=(by omega);have hBW:=HBW.out;simp at hBW;have HB8:=hd_ hBW;obtain ⟨x0,x1,x2,x3,x4,x5,x6,x7,xf0,xf1,xf2,xf3,xf4,xf5,xf6,xf7⟩:=hBW.c8f;clear hBW HBW HB9 HM9 HMW0 HOW
     by_cases h1:L.length=1
     ·have h1i:((L.length:Int) == 1)=true:=by rw [beq_iff_eq]; omega
      have HK:Hid ((if L.length=1 then 2 else 3:Int)=2):=hd_ (if_pos h1);clear h1;go_wp2_with fail
      go_end0
      refine ⟨.mk 2 A c L 0 none 0 [],rfl,?_,by rw [HT.out,HQ.out,QR.key_mk,HK.out]; rfl,.mk (HSL.out.rd HB8.out (mod_set (Mod.refl _ _) 4 _) (by decide)) Sl.nil_ (fun a ha=>by cases ha),mod_set HMW.out 4 _⟩;rw [HT.out,HQ.out]
      show Blk _ g _ (rdC s (j+(body.length+2)) 3 j _)
      have h9:=HB8.out.set 4 (.int .i64 2);unfold rdC;rw [e]
      simpa [qC] using h9
     ·have h1i:((L.length:Int) == 1)=false:=by rw [← Bool.not_eq_true,beq_iff_eq]; omega
      have HK:Hid ((if L.length=1 then 2 else 3:Int)=3):=hd_ (if_neg h1);clear h1;go_wp2_with fail
      go_end0
      refine ⟨.mk 3 A c L 0 none 0 [],rfl,?_,by rw [HT.out,HQ.out,QR.key_mk,HK.out]; rfl,.mk HSL.out Sl.nil_ (fun a ha=>by cases ha),HMW.out⟩;rw [HT.out,HQ.out]
      show Blk _ g _ (rdC s (j+(body.length+2)) 3 j _)
      unfold rdC;rw [e]
      simpa [qC] using HB8.out
def IxA (g:Nat) (w:World) (s:Str):Prop:=∀ (W:World) (a:Nat),Mod (· = g) w W→a≤s.length→Calls Tryz.prog 182 #[.string ⟨(s.drop a).toArray⟩,.string ⟨#[32,10,40,41,34]⟩] W (fun e w'=>e = .returned (.int .i64 (Lib.indexAny (s.drop a) [32,10,40,41,34]))∧Pure W w')
def CellQ (Z:World) (g i:Nat) (v:Value):Prop:=Z.cell? ⟨g,i,none⟩=some v
theorem CellQ.pure {Z Z':World} {g i:Nat} {v:Value} (h:CellQ Z g i v) (hm:Pure Z Z'):CellQ Z' g i v:=keepp h hm
theorem CellQ.set {Z:World} {g i j:Nat} {v u:Value} {t:TypeId} {cs:Array Value} (h:CellQ Z g i v) (hB:Blk Z g t cs) (hij:j≠i):CellQ (Z.setCell ⟨g,j,none⟩ u) g i v:=by
 unfold CellQ at *;rw [Blk.cell hB] at h;rw [Blk.cell (Blk.set hB j u),Array.getElem?_setIfInBounds_ne hij];exact h
def C4 (Z:World) (g:Nat) (q:QR):Prop:=∀ i,i<4→Z.cell? ⟨g,4+i,none⟩=(qC q)[i]?
theorem C4.pure {Z Z':World} {g:Nat} {q:QR} (h:C4 Z g q) (hm:Pure Z Z'):C4 Z' g q:=by
 intro i hi;have h1:=h i hi
 have hl:i<(qC q).length:=by rw [qC_len]; exact hi
 rw [List.getElem?_eq_getElem hl] at h1 ⊢;exact keepp h1 hm
theorem C4.set {Z:World} {g j:Nat} {q:QR} {u:Value} {t:TypeId} {cs:Array Value} (h:C4 Z g q) (hB:Blk Z g t cs) (hij:j<4):C4 (Z.setCell ⟨g,j,none⟩ u) g q:=by
 intro i hi;rw [← h i hi,Blk.cell hB,Blk.cell (Blk.set hB j u),Array.getElem?_setIfInBounds_ne (by omega)]
theorem c4_new {Z:World} {g:Nat} {t:TypeId} {s0 s1 s2 s3 c4 c5 c6 c7:Value} {q:QR} {a b c d:Value} (hB:Blk Z g t #[s0,s1,s2,s3,c4,c5,c6,c7]) (hq:qC q=[a,b,c,d]):C4 ((((Z.setCell ⟨g,4,none⟩ a).setCell ⟨g,5,none⟩ b).setCell ⟨g,6,none⟩ c).setCell ⟨g,7,none⟩ d) g q:=by
 have h:=(((hB.set 4 a).set 5 b).set 6 c).set 7 d;intro i hi;rw [Blk.cell h,hq]
 match i,hi with
 | 0,_=>rfl
 | 1,_=>rfl
 | 2,_=>rfl
 | 3,_=>rfl
theorem cq_st4 {Z:World} {g:Nat} {t:TypeId} {s0 s1 s2 s3 c4 c5 c6 c7:Value} {a b c d v:Value} (hB:Blk Z g t #[s0,s1,s2,s3,c4,c5,c6,c7]) (h:CellQ Z g 2 v):CellQ ((((Z.setCell ⟨g,4,none⟩ a).setCell ⟨g,5,none⟩ b).setCell ⟨g,6,none⟩ c).setCell ⟨g,7,none⟩ d) g 2 v :=
 (((h.set hB (by decide)).set (hB.set 4 a) (by decide)).set ((hB.set 4 a).set 5 b) (by decide)).set (((hB.set 4 a).set 5 b).set 6 c) (by decide)
theorem rd_cells {Z:World} {g:Nat} {s:Str} {j:Nat} {kd:Int} {c2 c4 c5 c6 c7:Value} {q:QR} (hB:Blk Z g 136 #[.string ⟨s.toArray⟩,.int .i64 (j:Int),c2,.int .i64 (j:Int),c4,c5,c6,c7]) (h2:CellQ Z g 2 (.int .i64 kd)) (h4:C4 Z g q):Blk Z g 136 (rdC s j kd j q):=by
 have e2:c2 = .int .i64 kd:=by unfold CellQ at h2; rw [Blk.cell hB] at h2; simpa using h2
 have q4:=h4 0 (by decide);have q5:=h4 1 (by decide);have q6:=h4 2 (by decide);have q7:=h4 3 (by decide);rw [Blk.cell hB] at q4 q5 q6 q7;obtain ⟨k,A,c,ws,n,B,d,xs⟩:=q;simp [qC] at q4 q5 q6 q7;subst e2 q4 q5 q6 q7;exact hB
theorem rd_zero {w:World} {g:Nat} {s:Str} {p kd tp k n:Int} {a b:Value} {j:Int} (h:Blk w g 136 (rdK s p kd tp k a n b)):Blk ((((((w.setCell ⟨g,2,none⟩ (.int .i64 0)).setCell ⟨g,3,none⟩ (.int .i64 j)).setCell ⟨g,4,none⟩ (.int .i64 0)).setCell ⟨g,5,none⟩ (.slice none 0 0)).setCell ⟨g,6,none⟩ (.int .i64 0)).setCell ⟨g,7,none⟩ (.slice none 0 0)) g 136 (rdK s p 0 j 0 (.slice none 0 0) 0 (.slice none 0 0)):=by
 have h1:=(((((h.set 2 (.int .i64 0)).set 3 (.int .i64 j)).set 4 (.int .i64 0)).set 5 (.slice none 0 0)).set 6 (.int .i64 0)).set 7 (.slice none 0 0)
 simpa [rdK] using h1
theorem rd_zmod {a w:World} {g:Nat} {j:Int} (h:Mod (· = g) a w):Mod (· = g) a ((((((w.setCell ⟨g,2,none⟩ (.int .i64 0)).setCell ⟨g,3,none⟩ (.int .i64 j)).setCell ⟨g,4,none⟩ (.int .i64 0)).setCell ⟨g,5,none⟩ (.slice none 0 0)).setCell ⟨g,6,none⟩ (.int .i64 0)).setCell ⟨g,7,none⟩ (.slice none 0 0)) :=
 mod_set (mod_set (mod_set (mod_set (mod_set (mod_set h 2 _) 3 _) 4 _) 5 _) 6 _) 7 _
theorem TkP.nx {w W w':World} {g:Nat} {s:Str} {p j:Nat} {e:Ending} (h:TkP W g s j (tokQ (s.drop j)) e w') (hm:Mod (· = g) w W) (hj:skpQ s p=j):NxP w g s p e w':=by
 obtain ⟨qr,h1,h2,h3,h4,h5⟩:=h;subst hj;exact ⟨qr,h1,h2,h3,h4,hm.trans h5⟩
theorem nextR_calls (w:World) (s:Str) (p:Nat) (kd tp k n:Int) (a b:Value) (g:Nat) (hs:s.length≤200000) (hp:p≤s.length) (hM:∀ W,Mod (· = g) w W→MlnS W) (hI:IxA g w s) (hB:Blk w g 136 (rdK s p kd tp k a n b)):Calls Tryz.prog 111 #[.pointer (some ⟨g,0,none⟩)] w (NxP w g s p):=by
 have hz:(⟨s.toArray⟩:ByteArray).size=s.length:=by simp [ByteArray.size]
 have HB:=hd_ hB;have HML:=hd_ hM;have HI:=hd_ hI;clear hB hM hI
 go_enter Tryz.func111,Tryz.ntmps111
 go_wp2_with fail
 go_loopg [] (s.length - p) (fun gk wr=>∃ j:Nat,s.length - j=gk∧j≤s.length∧skpQ s j=skpQ s p∧Blk wr g 136 (rdK s j kd tp k a n b)∧Mod (· = g) w wr)
 case atStart=>exact ⟨p,by omega,hp,rfl,HB.out,Mod.refl _ _⟩
 case round =>
  obtain ⟨j,rfl,hj,hsk,hbj,hm⟩:=hrel;have HSK:=hd_ hsk;have HM:=hd_ hm;have HBJ:=hd_ hbj;unfold rdK at hbj;obtain ⟨x0,x1,x2,x3,x4,x5,x6,x7,xf0,xf1,xf2,xf3,xf4,xf5,xf6,xf7⟩:=hbj.c8f;clear hsk hm hbj
  by_cases hlt:j<s.length
  ·have hix:(⟨s.toArray⟩:ByteArray)[j]'(by rw [hz]; exact hlt)=s[j]:=rfl
   by_cases h32:s[j].toNat=32
   ·have h32i:((s[j].toNat:Int) == 32)=true:=by simp; omega
    have e32:s[j]=32:=UInt8.toNat_inj.mp (by rw [h32]; rfl);have HS:Hid (skpQ s (j+1)=skpQ s p):=hd_ ((skp_blank hlt (by unfold blkC; rw [e32]; rfl)).symm.trans HSK.out);go_upto_region 0 with (fail)
    go_quiet (fail)
    go_wp2_with fail
    go_roundg (s.length - (j+1))
    case measure=>omega
    case rel=>exact ⟨j+1,rfl,by omega,HS.out,by have h:=(show Blk (wr.drewN nq) g 136 (rdK s j kd tp k a n b) from HBJ.out).set 1 (.int .i64 ((j:Int)+1)); simpa [rdK] using h,(HM.out.drewN nq).setCell (p:=⟨g,1,none⟩) (.inl rfl) _⟩
   ·have h32i:((s[j].toNat:Int) == 32)=false:=by simp; omega
    by_cases h10:s[j].toNat=10
    ·have h10i:((s[j].toNat:Int) == 10)=true:=by simp; omega
     have e10:s[j]=10:=UInt8.toNat_inj.mp (by rw [h10]; rfl);have HS:Hid (skpQ s (j+1)=skpQ s p):=hd_ ((skp_blank hlt (by unfold blkC; rw [e10]; rfl)).symm.trans HSK.out);go_upto_region 0 with (fail)
     go_quiet (fail)
     go_wp2_with fail
     go_roundg (s.length - (j+1))
     case measure=>omega
     case rel=>exact ⟨j+1,rfl,by omega,HS.out,by have h:=(show Blk (wr.drewN nq) g 136 (rdK s j kd tp k a n b) from HBJ.out).set 1 (.int .i64 ((j:Int)+1)); simpa [rdK] using h,(HM.out.drewN nq).setCell (p:=⟨g,1,none⟩) (.inl rfl) _⟩
    ·have h10i:((s[j].toNat:Int) == 10)=false:=by simp; omega
     have hdr:s.drop j=s[j] :: s.drop (j+1):=List.drop_eq_getElem_cons hlt;have HJ:Hid (skpQ s p=j):=hd_ (by rw [← HSK.out]; exact skp_stop hlt (by unfold blkC; simp; exact ⟨fun h=>h32 (by rw [h]; rfl),fun h=>h10 (by rw [h]; rfl)⟩));go_upto_region 0 with (fail)
     go_quiet (fail)
     go_upto_region 3 with (fail);have HBZ:=hd_ (rd_zero (j:=(j:Int)) (HBJ.out.drewN nq));have HMZ:=hd_ (rd_zmod (j:=(j:Int)) (HM.out.drewN nq));clear x0 x1 x2 x3 x4 x5 x6 x7 xf0 xf1 xf2 xf3 xf4 xf5 xf6 xf7 HBJ HM HSK;generalize ((((((( wr.drewN nq).setCell ⟨g,2,none⟩ (.int .i64 0)).setCell ⟨g,3,none⟩ (.int .i64 (j:Int))).setCell ⟨g,4,none⟩ (.int .i64 0)).setCell ⟨g,5,none⟩ (.slice none 0 0)).setCell ⟨g,6,none⟩ (.int .i64 0)).setCell ⟨g,7,none⟩ (.slice none 0 0))=w1 at *;have hB1:=HBZ.out;unfold rdK at hB1;obtain ⟨x0,x1,x2,x3,x4,x5,x6,x7,xf0,xf1,xf2,xf3,xf4,xf5,xf6,xf7⟩:=hB1.c8f;clear hB1
     go_quiet (fail)
     have HBB:=hd_ (HBZ.out.drewN nq);have HMB:=hd_ (HMZ.out.drewN nq);clear x0 x1 x2 x3 x4 x5 x6 x7 xf0 xf1 xf2 xf3 xf4 xf5 xf6 xf7 HBZ HMZ;generalize w1.drewN nq=w2 at *;have hB2:=HBB.out;unfold rdK at hB2;obtain ⟨x0,x1,x2,x3,x4,x5,x6,x7,xf0,xf1,xf2,xf3,xf4,xf5,xf6,xf7⟩:=hB2.c8f;clear hB2;go_upto_region 4 with (fail)
     go_quiet (fail)
     have HBC:=hd_ (HBB.out.drewN nq);have HMC:=hd_ (HMB.out.drewN nq);clear x0 x1 x2 x3 x4 x5 x6 x7 xf0 xf1 xf2 xf3 xf4 xf5 xf6 xf7 HBB HMB;generalize w2.drewN nq=w3 at *;have hB3:=HBC.out;unfold rdK at hB3;obtain ⟨x0,x1,x2,x3,x4,x5,x6,x7,xf0,xf1,xf2,xf3,xf4,xf5,xf6,xf7⟩:=hB3.c8f;clear hB3
     by_cases h40:s[j].toNat=40
     ·have h40i:((s[j].toNat:Int) == 40)=true:=by simp; omega
      have e40:s[j]=40:=UInt8.toNat_inj.mp (by rw [h40]; rfl);have HT:Hid (tokQ (s.drop j)=(1,q0,1)):=hd_ (by rw [hdr,e40]; rfl);have HBF:=hd_ ((HBC.out.set 2 (.int .i64 1)).set 1 (.int .i64 ((j:Int)+1)));have HMF:=hd_ (mod_set (mod_set (Mod.refl (· = g) w3) 2 (.int .i64 1)) 1 (.int .i64 ((j:Int)+1)));clear h32i h10i hdr;go_wp2_with fail
      go_end0
      exact TkP.nx (W:=w3) (j:=j) ⟨.mk 0 none 0 [] 0 none 0 [],rfl,by rw [HT.out]; exact HBF.out,by rw [HT.out,QR.key_mk]; rfl,QS.zero,HMF.out⟩ HMC.out HJ.out
     have h40i:((s[j].toNat:Int) == 40)=false:=by simp; omega
     by_cases h41:s[j].toNat=41
     ·have h41i:((s[j].toNat:Int) == 41)=true:=by simp; omega
      have e41:s[j]=41:=UInt8.toNat_inj.mp (by rw [h41]; rfl);have HT:Hid (tokQ (s.drop j)=(2,q0,1)):=hd_ (by rw [hdr,e41]; rfl);have HBF:=hd_ ((HBC.out.set 2 (.int .i64 2)).set 1 (.int .i64 ((j:Int)+1)));have HMF:=hd_ (mod_set (mod_set (Mod.refl (· = g) w3) 2 (.int .i64 2)) 1 (.int .i64 ((j:Int)+1)));clear h32i h10i hdr;go_wp2_with fail
      go_end0
      exact TkP.nx (W:=w3) (j:=j) ⟨.mk 0 none 0 [] 0 none 0 [],rfl,by rw [HT.out]; exact HBF.out,by rw [HT.out,QR.key_mk]; rfl,QS.zero,HMF.out⟩ HMC.out HJ.out
     have h41i:((s[j].toNat:Int) == 41)=false:=by simp; omega
     by_cases h34:s[j].toNat=34
     ·have h34i:((s[j].toNat:Int) == 34)=true:=by simp; omega
      have e34:s[j]=34:=UInt8.toNat_inj.mp (by rw [h34]; rfl);have HPH:=hd_ (phraseR_calls w3 g s (s.drop (j+1)) j hs hlt rfl (fun W hW=>HML.out W (HMC.out.trans hW)) HBC.out);have HT:Hid (tokQ (s.drop j)=tokC 34 (s.drop (j+1))):=hd_ (by rw [hdr,e34]; rfl);clear h32i h10i hdr;go_wp2_with fail;refine HPH.out.mono ?_;intro e w4 h;have hx:=TkP.nx (by rw [HT.out]; exact h) HMC.out HJ.out;obtain ⟨qr,rfl,hrest⟩:=h;go_wp2_with fail
      go_end0
      exact hx
     have h34i:((s[j].toNat:Int) == 34)=false:=by simp; omega
     go_upto_region 5 with (fail)
     have HTW:Hid (tokQ (s.drop j)=((pieceQ (lowS (wordQ (s.drop j)))).1,(pieceQ (lowS (wordQ (s.drop j)))).2,(wordQ (s.drop j)).length)):=hd_ (by
      rw [hdr]
      show tokC s[j] (s.drop (j+1))=_
      unfold tokC
      rw [if_neg (fun e=>h40 (by rw [e]; rfl)),if_neg (fun e=>h41 (by rw [e]; rfl)),if_neg (fun e=>h34 (by rw [e]; rfl))])
     have HWL:Hid (wordQ (s.drop j)=(s.drop j).take (wordQ (s.drop j)).length):=hd_ (wordQ_sub _);clear hdr hix h32 h10 h40 h41 h34 h32i h10i h40i h41i h34i x0 x1 x2 x3 x4 x5 x6 x7 xf0 xf1 xf2 xf3 xf4 xf5 xf6 xf7;have hext:(⟨s.toArray⟩:ByteArray).extract j s.length=⟨(s.drop j).toArray⟩:=ext_end s j _ rfl;have HIX:=hd_ (fun W (hW:Mod (· = g) w3 W)=>HI.out W j (HMC.out.trans hW) hj)
     have HWI:Hid (-1≤Lib.indexAny (s.drop j) [32,10,40,41,34]∧((wordQ (s.drop j)).length:Int)=if Lib.indexAny (s.drop j) [32,10,40,41,34]<0 then (s.length:Int) - (j:Int) else Lib.indexAny (s.drop j) [32,10,40,41,34]):=hd_ (by
      obtain ⟨h1,h2⟩:=wordQ_idx (s.drop j);refine ⟨h1,?_⟩;rw [h2,List.length_drop]
      split <;> omega)
     generalize Lib.indexAny (s.drop j) [32,10,40,41,34]=z at *;have HGs:=hd_ (show KeepG (fun Z=>Blk Z g 136 #[.string ⟨s.toArray⟩,.int .i64 (j:Int),.int .i64 0,.int .i64 (j:Int),.int .i64 0,.slice none 0 0,.int .i64 0,.slice none 0 0]) from fun D zzi zq zq' h hm=>by (exact h.modp hm))
     refine wp_region_inv (by kernel_rfl) (by kernel_rfl) (InvF (R:=Mod (fun _=>False)) [.is (.pointer (some ⟨g,0,none⟩)),.is (.pointer (some ⟨g,0,none⟩)),.is (.pointer (some ⟨g,0,none⟩)),.is (.string ⟨s.toArray⟩),.is (.pointer (some ⟨g,0,none⟩)),.is (.pointer (some ⟨g,0,none⟩)),.is (.pointer (some ⟨g,1,none⟩)),.is (.int .i64 (j:Int)),.is (.string ⟨(s.drop j).toArray⟩),.is (.int .i64 z),.is (.int .i64 z)]
       (PB w3 (fun _=>False) w3.heap.size (fun _=>(fun Z=>Blk Z g 136 #[.string ⟨s.toArray⟩,.int .i64 (j:Int),.int .i64 0,.int .i64 (j:Int),.int .i64 0,.slice none 0 0,.int .i64 0,.slice none 0 0])))) (InvF.start (PB.start (Mod.refl _ _) (Nat.le_refl _) (HBC.out))) ?_ ?_
     ·iterate 11 (refine .cons ?_ ?_; rotate_left)
      exact .nil
      all_goals intro D V zw1 a hR hI K hK
      all_goals try rw [if_pos (by rfl)]
      have ze0:=hR.ot 0;rotate_left;have ze71:=hI.tm hR 71 0;rotate_left;have ze72:=hI.tm hR 72 1;rotate_left;have hG1:=hI.1.g;have ze73:=hI.tm hR 73 2;have zx0:=(hG1).cell 0; have zy0:=(hG1).frozen 0; simp at zx0;rotate_left;have ze0:=hR.ot 0;rotate_left;have ze75:=hI.tm hR 75 4;rotate_left;have ze76:=hI.tm hR 76 5;rotate_left;have hG1:=hI.1.g;have ze77:=hI.tm hR 77 6;have zx1:=(hG1).cell 1; have zy1:=(hG1).frozen 1; simp at zx1;rotate_left;have ze74:=hI.tm hR 74 3;have ze78:=hI.tm hR 78 7;rotate_left
      ·have hM1:=hI.1.mod;have ze79:=hI.tm hR 79 8;go_simp;refine (HIX.out zw1 (Mod.of_pure hM1)).mono ?_;rintro e zw2 ⟨rfl,hm2⟩;exact hK _ _ (hI.nc hR HGs.out hm2 rfl)
      have ze80:=hI.tm hR 80 9;rotate_left
      all_goals (go_simp; exact hK _ _ (hI.nq hR HGs.out rfl))
     ·intro D V w4 hD hI;obtain ⟨hMx,hBx,hGx⟩:=hI.1;have zf0:=hI.eqA hD 0;have zf1:=hI.eqA hD 1;have zf2:=hI.eqA hD 2;have zf3:=hI.eqA hD 3;have zf4:=hI.eqA hD 4;have zf5:=hI.eqA hD 5;have zf6:=hI.eqA hD 6;have zf7:=hI.eqA hD 7;have zf8:=hI.eqA hD 8;have zf9:=hI.eqA hD 9;have zf10:=hI.eqA hD 10;clear hI hD HGs;simp only [frAll,Act.put,List.setIfInBounds_toArray,List.set_cons_zero,List.set_cons_succ,Nat.zero_add,Nat.reduceAdd,zf0,zf1,zf2,zf3,zf4,zf5,zf6,zf7,zf8,zf9,zf10];clear zf0 zf1 zf2 zf3 zf4 zf5 zf6 zf7 zf8 zf9 zf10;clear V D;have HBD:=hd_ hGx;have HMD:=hd_ (HMC.out.trans (Mod.of_pure hMx));clear hGx hMx HBC HMC HIX hext;obtain ⟨N,hN⟩:∃ N,(wordQ (s.drop j)).length=N:=⟨_,rfl⟩;rw [hN] at HWI HTW HWL
      have hNl:j+N≤s.length:=by
       have h:=word_le (s.drop j);rw [hN,List.length_drop] at h
       omega
      clear hN;have hB4:=HBD.out;obtain ⟨x0,x1,x2,x3,x4,x5,x6,x7,xf0,xf1,xf2,xf3,xf4,xf5,xf6,xf7⟩:=hB4.c8f;clear hB4
      go_upto_if 82 with (fail)
      go_cut [2] (fun q wx=>q = .int .i64 (N:Int)∧Pure w4 wx)
      case first =>
       by_cases hz0:z<0
       ·have HN2:Hid ((N:Int)=(s.length:Int) - (j:Int)):=hd_ (by have:=HWI.out.2; rw [if_pos hz0] at this; exact this);have hsz:0≤(s.length:Int) - (j:Int):=(by omega);go_upto_region 7 with (fail);have hw1:IntKind.i64.wrap ((s.length:Int) - (j:Int))=(s.length:Int) - (j:Int):=IntWalk.i64_in _ (by omega)
        go_quiet (fail)
        go_wp2_with fail;go_meet;exact ⟨by rw [HN2.out],(Mod.refl _ _).drewN _⟩
       ·have HN2:Hid ((N:Int)=z):=hd_ (by have:=HWI.out.2; rw [if_neg hz0] at this; exact this);go_wp2_with fail;go_meet;exact ⟨by rw [HN2.out],Mod.refl _ _⟩
      case rest =>
       obtain ⟨rfl,hm5⟩:=hcut;have HB5:=hd_ (HBD.out.modp hm5);have HM5:=hd_ (HMD.out.trans (Mod.of_pure hm5));clear hm5 HBD HMD HWI x0 x1 x2 x3 x4 x5 x6 x7 xf0 xf1 xf2 xf3 xf4 xf5 xf6 xf7;generalize wc=w5 at *;have hadd:IntKind.i64.wrap ((j:Int)+(N:Int))=(j:Int)+(N:Int):=IntWalk.i64_in _ (by omega)
       have hsub:(⟨s.toArray⟩:ByteArray).extract j (j+N)=⟨(wordQ (s.drop j)).toArray⟩:=by
        rw [ext_sub];unfold subS;rw [HWL.out,List.drop_take]
        congr 3
        omega
       have htl:(wordQ (s.drop j)).length≤200000:=by
        have h:=word_le (s.drop j);rw [List.length_drop] at h
        omega
       have hpl:(lowS (wordQ (s.drop j))).length≤200000:=by simpa [lowS] using htl
       have HTX:Hid (tokQ (s.drop j)=((pieceQ (lowS (wordQ (s.drop j)))).1,(pieceQ (lowS (wordQ (s.drop j)))).2,N)):=HTW;have HLO:=hd_ (fun W=>lowerQ_calls W (wordQ (s.drop j)) (by omega));clear HTW HWL;generalize wordQ (s.drop j)=tx at *;generalize lowS tx=ps at *;have HPC:=hd_ (fun W hW=>piece_calls W ps (by omega) hW);go_upto_region 8 with (fail);have HGs:=hd_ (show KeepG (fun Z=>∃ (c2 c4 c5 c6 c7:Value),Blk Z g 136 #[.string ⟨s.toArray⟩,.int .i64 (j:Int),c2,.int .i64 (j:Int),c4,c5,c6,c7]) from fun D zzi zq zq' h hm=>by (obtain ⟨c2,c4,c5,c6,c7,h⟩:=h; exact ⟨c2,c4,c5,c6,c7,h.modp hm⟩))
       refine wp_region_inv (by kernel_rfl) (by kernel_rfl) (InvF (R:=Mod (fun _=>False)) [.is (.pointer (some ⟨g,0,none⟩)),.is (.pointer (some ⟨g,0,none⟩)),.is (.pointer (some ⟨g,0,none⟩)),.is (.pointer (some ⟨g,0,none⟩)),.is (.pointer (some ⟨g,0,none⟩)),.is (.string ⟨s.toArray⟩),.is (.pointer (some ⟨g,0,none⟩)),.is (.pointer (some ⟨g,0,none⟩)),.is (.pointer (some ⟨g,1,none⟩)),.is (.int .i64 (j:Int)),.is (.pointer (some ⟨g,0,none⟩)),.is (.pointer (some ⟨g,0,none⟩)),.is (.pointer (some ⟨g,1,none⟩)),.is (.int .i64 (j:Int)),.is (.int .i64 (N:Int)),.is (.int .i64 ((j:Int)+(N:Int))),.is (.string ⟨tx.toArray⟩),.is (.string ⟨ps.toArray⟩),⟨fun zv zw=>∃ (q_18:QR),zv = .tuple #[.int .i64 (pieceQ ps).1,qA q_18]∧q_18.key=(pieceQ ps).2∧QS zw q_18,(by rintro zv zw zx ⟨q_18,rfl,c0,q0⟩ hm; exact ⟨q_18,rfl,c0,(q0.pure hm)⟩),none,none⟩,⟨fun zv zw=>∃ (q_19:QR),zv = .tuple #[.int .i64 (pieceQ ps).1,qA q_19]∧q_19.key=(pieceQ ps).2∧QS zw q_19,(by rintro zv zw zx ⟨q_19,rfl,c0,q0⟩ hm; exact ⟨q_19,rfl,c0,(q0.pure hm)⟩),none,none⟩,.is (.int .i64 (pieceQ ps).1),⟨fun zv zw=>∃ (q_21:QR),zv=qA q_21∧q_21.key=(pieceQ ps).2∧QS zw q_21,(by rintro zv zw zx ⟨q_21,rfl,c0,q0⟩ hm; exact ⟨q_21,rfl,c0,(q0.pure hm)⟩),none,none⟩,.is (.pointer (some ⟨g,0,none⟩)),.is (.pointer (some ⟨g,2,none⟩)),.is (.pointer (some ⟨g,2,none⟩)),⟨fun zv zw=>zv=undef∧CellQ zw g 2 (.int .i64 (pieceQ ps).1),(by rintro zv zw zx ⟨rfl,q0⟩ hm; exact ⟨rfl,(q0.pure hm)⟩),none,none⟩,.is (.pointer (some ⟨g,0,none⟩)),.is (.pointer (some ⟨g,2,none⟩)),.is (.pointer (some ⟨g,4,none⟩)),⟨fun zv zw=>∃ (q_29:QR),zv=undef∧q_29.key=(pieceQ ps).2∧QS zw q_29∧C4 zw g q_29,(by rintro zv zw zx ⟨q_29,rfl,c0,q0,q1⟩ hm; exact ⟨q_29,rfl,c0,(q0.pure hm),(q1.pure hm)⟩),none,none⟩]
         (PB w5 (· = g) w5.heap.size (fun _=>(fun Z=>∃ (c2 c4 c5 c6 c7:Value),Blk Z g 136 #[.string ⟨s.toArray⟩,.int .i64 (j:Int),c2,.int .i64 (j:Int),c4,c5,c6,c7])))) (InvF.start (PB.start (Mod.refl _ _) (Nat.le_refl _) (⟨_,_,_,_,_,HB5.out⟩))) ?_ ?_
       ·iterate 30 (refine .cons ?_ ?_; rotate_left)
        exact .nil
        all_goals intro D V zw1 a hR hI K hK
        all_goals try rw [if_pos (by rfl)]
        have ze0:=hR.ot 0;rotate_left;have ze0:=hR.ot 0;rotate_left;have ze0:=hR.ot 0;rotate_left;have ze96:=hI.tm hR 96 2;rotate_left;have ze97:=hI.tm hR 97 3;rotate_left;have hG1:=hI.1.g;obtain ⟨c2,c4,c5,c6,c7,hG1d⟩:=hG1;have ze98:=hI.tm hR 98 4;have zx0:=(hG1d).cell 0; have zy0:=(hG1d).frozen 0; simp at zx0;rotate_left;have ze0:=hR.ot 0;rotate_left;have ze100:=hI.tm hR 100 6;rotate_left;have ze101:=hI.tm hR 101 7;rotate_left;have hG1:=hI.1.g;obtain ⟨c2,c4,c5,c6,c7,hG1d⟩:=hG1;have ze102:=hI.tm hR 102 8;have zx1:=(hG1d).cell 1; have zy1:=(hG1d).frozen 1; simp at zx1;rotate_left;have ze0:=hR.ot 0;rotate_left;have ze104:=hI.tm hR 104 10;rotate_left;have ze105:=hI.tm hR 105 11;rotate_left;have hG1:=hI.1.g;obtain ⟨c2,c4,c5,c6,c7,hG1d⟩:=hG1;have ze106:=hI.tm hR 106 12;have zx1:=(hG1d).cell 1; have zy1:=(hG1d).frozen 1; simp at zx1;rotate_left;have ze2:=hR.ot 2;rotate_left;have ze107:=hI.tm hR 107 13;have ze108:=hI.tm hR 108 14;rotate_left
        ·have hG1:=hI.1.g;obtain ⟨c2,c4,c5,c6,c7,hG1d⟩:=hG1;have ze99:=hI.tm hR 99 5;have ze103:=hI.tm hR 103 9;have ze109:=hI.tm hR 109 15;have hq1:(j:Int)+(N:Int)≤(s.length:Int):=(by omega);have hq2:((j:Int)+(N:Int)).toNat=j+N:=(by omega);have hq3:¬ ((j:Int)+(N:Int)<0):=(by omega);have hq4:(0:Int)≤(j:Int)+(N:Int):=(by omega);have hq5:(j:Int)≤(j:Int)+(N:Int):=(by omega);go_simp;exact hK _ _ (hI.nq hR HGs.out rfl)
        ·have hG1:=hI.1.g;obtain ⟨c2,c4,c5,c6,c7,hG1d⟩:=hG1;have ze110:=hI.tm hR 110 16;go_simp;refine (HLO.out zw1).mono ?_;rintro e zw2 ⟨rfl,hm2⟩;exact hK _ _ (hI.nc hR HGs.out hm2 rfl)
        ·have hM1:=hI.1.mod;have hB1:=hI.1.big;have hG1:=hI.1.g;obtain ⟨c2,c4,c5,c6,c7,hG1d⟩:=hG1;have ze111:=hI.tm hR 111 17;go_simp;refine (HPC.out zw1 (HML.out zw1 (HM5.out.trans hM1))).mono ?_;rintro e zw2 ⟨q_0,rfl,hq1,hq2,_,hm2⟩;exact hK (.tuple #[.int .i64 (pieceQ ps).1,qA q_0]) _ (hI.next hR (by kernel_rfl) hm2 (PB.quiet hI.1 hm2 (HGs.out D 18 _ _ (hI.1).g hm2)) (⟨q_0,upd_same V 18 _,hq2,hq1⟩))
        ·have hM1:=hI.1.mod;have hB1:=hI.1.big;have hG1:=hI.1.g;obtain ⟨c2,c4,c5,c6,c7,hG1d⟩:=hG1;have zd18:=hR.pred 18 (by kernel_rfl);have zF18:∃ (q_18:QR),V 18 = .tuple #[.int .i64 (pieceQ ps).1,qA q_18]∧q_18.key=(pieceQ ps).2∧QS zw1 q_18:=hI.2 18 zd18 rfl;obtain ⟨q_18,zf18,c18_0,b18_0⟩:=zF18;have ze112:=hR.frame.done (t:=112) (j:=18) (by kernel_rfl) hR.ok zd18;go_simp;exact hK (.tuple #[.int .i64 (pieceQ ps).1,qA q_18]) _ (hI.next hR (by kernel_rfl) (Mod.refl _ _) (PB.quiet hI.1 (Mod.refl _ _) (HGs.out D 19 zw1 zw1 (hI.1).g (Mod.refl _ _))) (⟨q_18,upd_same V 19 _,(by first | assumption | omega),b18_0⟩))
        have hG1:=hI.1.g;obtain ⟨c2,c4,c5,c6,c7,hG1d⟩:=hG1;have zd19:=hR.pred 19 (by kernel_rfl);have zF19:∃ (q_19:QR),V 19 = .tuple #[.int .i64 (pieceQ ps).1,qA q_19]∧q_19.key=(pieceQ ps).2∧QS zw1 q_19:=hI.2 19 zd19 rfl;obtain ⟨q_19,zf19,c19_0,b19_0⟩:=zF19;have ze93:=hR.frame.done (t:=93) (j:=19) (by kernel_rfl) hR.ok zd19;rotate_left
        ·have hM1:=hI.1.mod;have hB1:=hI.1.big;have hG1:=hI.1.g;obtain ⟨c2,c4,c5,c6,c7,hG1d⟩:=hG1;have zd19:=hR.pred 19 (by kernel_rfl);have zF19:∃ (q_19:QR),V 19 = .tuple #[.int .i64 (pieceQ ps).1,qA q_19]∧q_19.key=(pieceQ ps).2∧QS zw1 q_19:=hI.2 19 zd19 rfl;obtain ⟨q_19,zf19,c19_0,b19_0⟩:=zF19;have ze93:=hR.frame.done (t:=93) (j:=19) (by kernel_rfl) hR.ok zd19;go_simp;exact hK (_) _ (hI.next hR (by kernel_rfl) (Mod.refl _ _) (PB.quiet hI.1 (Mod.refl _ _) (HGs.out D 21 zw1 zw1 (hI.1).g (Mod.refl _ _))) (⟨q_19,upd_same V 21 _,c19_0,b19_0⟩))
        have ze94:=hI.tm hR 94 0;rotate_left;have ze115:=hI.tm hR 115 22;rotate_left;have ze116:=hI.tm hR 116 23;rotate_left
        ·have hM1:=hI.1.mod;have hB1:=hI.1.big;have hG1:=hI.1.g;obtain ⟨c2,c4,c5,c6,c7,hG1d⟩:=hG1;have zd24:=hR.pred 24 (by kernel_rfl);have zf24:V 24 = .pointer (some ⟨g,2,none⟩):=hI.2 24 zd24 rfl;have zd20:=hR.pred 20 (by kernel_rfl);have zf20:V 20 = .int .i64 (pieceQ ps).1:=hI.2 20 zd20 rfl;have ze117:=hR.frame.done (t:=117) (j:=24) (by kernel_rfl) hR.ok zd24;have ze113:=hR.frame.done (t:=113) (j:=20) (by kernel_rfl) hR.ok zd20;have zx2:=(hG1d).cell 2; have zy2:=(hG1d).frozen 2; simp at zx2;go_simp;refine hK undef _ (InvF.last ⟨mod_set hM1 2 _,(by simpa using hB1),⟨_,_,_,_,_,(by have h:=hG1d.set 2 (.int .i64 (pieceQ ps).1); simpa using h)⟩⟩ ⟨upd_same _ 25 _,(by have h:=(hG1d.set 2 (.int .i64 (pieceQ ps).1)).cell 2; simpa [CellQ] using h)⟩ ?_);intro k hk hDk hlv;have hkl:=hR.lt k hDk;have hv:=hI.2 k hDk (liveB_of hlv)
         match k,hk,hDk,hlv,hkl,hv with
         | 0,_,_,_,_,hv=>exact hv
         | 1,_,_,_,_,hv=>exact hv
         | 2,_,_,_,_,hv=>exact hv
         | 3,_,_,_,_,hv=>exact hv
         | 4,_,_,_,_,hv=>exact hv
         | 5,_,_,_,_,hv=>exact hv
         | 6,_,_,_,_,hv=>exact hv
         | 7,_,_,_,_,hv=>exact hv
         | 8,_,_,_,_,hv=>exact hv
         | 9,_,_,_,_,hv=>exact hv
         | 10,_,_,_,_,hv=>exact hv
         | 11,_,_,_,_,hv=>exact hv
         | 12,_,_,_,_,hv=>exact hv
         | 13,_,_,_,_,hv=>exact hv
         | 14,_,_,_,_,hv=>exact hv
         | 15,_,_,_,_,hv=>exact hv
         | 16,_,_,_,_,hv=>exact hv
         | 17,_,_,_,_,hv=>exact hv
         | 18,hk,hDk,hlv,hkl,hv=>(have hv2:∃ q:QR,V 18 = .tuple #[.int .i64 (pieceQ ps).1,qA q]∧q.key=(pieceQ ps).2∧QS zw1 q:=hv; obtain ⟨q,h1,h2,h3⟩:=hv2; exact ⟨q,h1,h2,h3.rd hG1d (mod_set (Mod.refl _ _) 2 _)⟩)
         | 19,hk,hDk,hlv,hkl,hv=>(have hv2:∃ q:QR,V 19 = .tuple #[.int .i64 (pieceQ ps).1,qA q]∧q.key=(pieceQ ps).2∧QS zw1 q:=hv; obtain ⟨q,h1,h2,h3⟩:=hv2; exact ⟨q,h1,h2,h3.rd hG1d (mod_set (Mod.refl _ _) 2 _)⟩)
         | 20,_,_,_,_,hv=>exact hv
         | 21,hk,hDk,hlv,hkl,hv=>(have hv2:∃ q:QR,V 21=qA q∧q.key=(pieceQ ps).2∧QS zw1 q:=hv; obtain ⟨q,h1,h2,h3⟩:=hv2; exact ⟨q,h1,h2,h3.rd hG1d (mod_set (Mod.refl _ _) 2 _)⟩)
         | 22,_,_,_,_,hv=>exact hv
         | 23,_,_,_,_,hv=>exact hv
         | 24,_,_,_,_,hv=>exact hv
         | 25,hk,_,_,_,_=>exact absurd rfl hk
         | 26,_,_,_,_,hv=>exact hv
         | 27,_,_,_,_,hv=>exact hv
         | 28,_,_,_,_,hv=>exact hv
         | 29,hk,hDk,hlv,hkl,hv=>(have hv2:∃ q:QR,V 29=undef∧q.key=(pieceQ ps).2∧QS zw1 q∧C4 zw1 g q:=hv; obtain ⟨q,h1,h2,h3,h4⟩:=hv2; exact ⟨q,h1,h2,h3.rd hG1d (mod_set (Mod.refl _ _) 2 _),h4.set hG1d (by decide)⟩)
         | k+30,_,_,_,hkl,_=>exact absurd hkl (by simp)
        have ze95:=hI.tm hR 95 1;rotate_left;have ze118:=hI.tm hR 118 26;rotate_left;have ze119:=hI.tm hR 119 27;rotate_left
        ·have hM1:=hI.1.mod;have hB1:=hI.1.big;have hG1:=hI.1.g;obtain ⟨c2,c4,c5,c6,c7,hG1d⟩:=hG1;have zd28:=hR.pred 28 (by kernel_rfl);have zf28:V 28 = .pointer (some ⟨g,4,none⟩):=hI.2 28 zd28 rfl;have zd21:=hR.pred 21 (by kernel_rfl);have zF21:∃ (q_21:QR),V 21=qA q_21∧q_21.key=(pieceQ ps).2∧QS zw1 q_21:=hI.2 21 zd21 rfl;obtain ⟨q_21,zf21,c21_0,b21_0⟩:=zF21;have ze120:=hR.frame.done (t:=120) (j:=28) (by kernel_rfl) hR.ok zd28;have ze114:=hR.frame.done (t:=114) (j:=21) (by kernel_rfl) hR.ok zd21;have zx4:=(hG1d).cell 4; have zy4:=(hG1d).frozen 4; simp at zx4;have zx5:=(hG1d).cell 5; have zy5:=(hG1d).frozen 5; simp at zx5;have zx6:=(hG1d).cell 6; have zy6:=(hG1d).frozen 6; simp at zx6;have zx7:=(hG1d).cell 7; have zy7:=(hG1d).frozen 7; simp at zx7;obtain ⟨k0,A0,e0,ws0,n0,B0,d0,xs0⟩:=q_21;rw [qA_mk] at zf21;go_simp;refine hK undef _ (InvF.last ⟨mod_set (mod_set (mod_set (mod_set hM1 4 _) 5 _) 6 _) 7 _,(by simpa using hB1),⟨_,_,_,_,_,(by have h:=(((hG1d.set 4 (.int .i64 k0)).set 5 (.slice A0 ws0.length e0)).set 6 (.int .i64 n0)).set 7 (.slice B0 xs0.length d0); simpa using h)⟩⟩ ⟨.mk k0 A0 e0 ws0 n0 B0 d0 xs0,upd_same _ 29 _,c21_0,b21_0.rd hG1d (mod_set (mod_set (mod_set (mod_set (Mod.refl _ _) 4 _) 5 _) 6 _) 7 _),c4_new hG1d rfl⟩ ?_);intro k hk hDk hlv;have hkl:=hR.lt k hDk;have hv:=hI.2 k hDk (liveB_of hlv)
         match k,hk,hDk,hlv,hkl,hv with
         | 0,_,_,_,_,hv=>exact hv
         | 1,_,_,_,_,hv=>exact hv
         | 2,_,_,_,_,hv=>exact hv
         | 3,_,_,_,_,hv=>exact hv
         | 4,_,_,_,_,hv=>exact hv
         | 5,_,_,_,_,hv=>exact hv
         | 6,_,_,_,_,hv=>exact hv
         | 7,_,_,_,_,hv=>exact hv
         | 8,_,_,_,_,hv=>exact hv
         | 9,_,_,_,_,hv=>exact hv
         | 10,_,_,_,_,hv=>exact hv
         | 11,_,_,_,_,hv=>exact hv
         | 12,_,_,_,_,hv=>exact hv
         | 13,_,_,_,_,hv=>exact hv
         | 14,_,_,_,_,hv=>exact hv
         | 15,_,_,_,_,hv=>exact hv
         | 16,_,_,_,_,hv=>exact hv
         | 17,_,_,_,_,hv=>exact hv
         | 18,hk,hDk,hlv,hkl,hv=>(have hv2:∃ q:QR,V 18 = .tuple #[.int .i64 (pieceQ ps).1,qA q]∧q.key=(pieceQ ps).2∧QS zw1 q:=hv; obtain ⟨q,h1,h2,h3⟩:=hv2; exact ⟨q,h1,h2,h3.rd hG1d (mod_set (mod_set (mod_set (mod_set (Mod.refl _ _) 4 _) 5 _) 6 _) 7 _)⟩)
         | 19,hk,hDk,hlv,hkl,hv=>(have hv2:∃ q:QR,V 19 = .tuple #[.int .i64 (pieceQ ps).1,qA q]∧q.key=(pieceQ ps).2∧QS zw1 q:=hv; obtain ⟨q,h1,h2,h3⟩:=hv2; exact ⟨q,h1,h2,h3.rd hG1d (mod_set (mod_set (mod_set (mod_set (Mod.refl _ _) 4 _) 5 _) 6 _) 7 _)⟩)
         | 20,_,_,_,_,hv=>exact hv
         | 21,hk,hDk,hlv,hkl,hv=>(have hv2:∃ q:QR,V 21=qA q∧q.key=(pieceQ ps).2∧QS zw1 q:=hv; obtain ⟨q,h1,h2,h3⟩:=hv2; exact ⟨q,h1,h2,h3.rd hG1d (mod_set (mod_set (mod_set (mod_set (Mod.refl _ _) 4 _) 5 _) 6 _) 7 _)⟩)
         | 22,_,_,_,_,hv=>exact hv
         | 23,_,_,_,_,hv=>exact hv
         | 24,_,_,_,_,hv=>exact hv
         | 25,hk,hDk,hlv,hkl,hv=>(have hv2:V 25=undef∧CellQ zw1 g 2 (.int .i64 (pieceQ ps).1):=hv; exact ⟨hv2.1,cq_st4 hG1d hv2.2⟩)
         | 26,_,_,_,_,hv=>exact hv
         | 27,_,_,_,_,hv=>exact hv
         | 28,_,_,_,_,hv=>exact hv
         | 29,hk,_,_,_,_=>exact absurd rfl hk
         | k+30,_,_,_,hkl,_=>exact absurd hkl (by simp)
        all_goals (go_simp; exact hK _ _ (hI.nq hR HGs.out rfl))
       ·intro D V w6 hD hI;obtain ⟨hMx,hBx,hGx⟩:=hI.1;have zf0:=hI.eqA hD 0;have zf1:=hI.eqA hD 1;have zf2:=hI.eqA hD 2;have zf3:=hI.eqA hD 3;have zf4:=hI.eqA hD 4;have zf5:=hI.eqA hD 5;have zf6:=hI.eqA hD 6;have zf7:=hI.eqA hD 7;have zf8:=hI.eqA hD 8;have zf9:=hI.eqA hD 9;have zf10:=hI.eqA hD 10;have zf11:=hI.eqA hD 11;have zf12:=hI.eqA hD 12;have zf13:=hI.eqA hD 13;have zf14:=hI.eqA hD 14;have zf15:=hI.eqA hD 15;have zf16:=hI.eqA hD 16;have zf17:=hI.eqA hD 17;have zF18:∃ (q_18:QR),V 18 = .tuple #[.int .i64 (pieceQ ps).1,qA q_18]∧q_18.key=(pieceQ ps).2∧QS w6 q_18:=hI.2 18 (hD 18 (by decide)) rfl;obtain ⟨q_18,zf18,c18_0,b18_0⟩:=zF18;have zF19:∃ (q_19:QR),V 19 = .tuple #[.int .i64 (pieceQ ps).1,qA q_19]∧q_19.key=(pieceQ ps).2∧QS w6 q_19:=hI.2 19 (hD 19 (by decide)) rfl;obtain ⟨q_19,zf19,c19_0,b19_0⟩:=zF19;have zf20:=hI.eqA hD 20;have zF21:∃ (q_21:QR),V 21=qA q_21∧q_21.key=(pieceQ ps).2∧QS w6 q_21:=hI.2 21 (hD 21 (by decide)) rfl;obtain ⟨q_21,zf21,c21_0,b21_0⟩:=zF21;have zf22:=hI.eqA hD 22;have zf23:=hI.eqA hD 23;have zf24:=hI.eqA hD 24;have zF25:V 25=undef∧CellQ w6 g 2 (.int .i64 (pieceQ ps).1):=hI.2 25 (hD 25 (by decide)) rfl;obtain ⟨zf25,b25_0⟩:=zF25;have zf26:=hI.eqA hD 26;have zf27:=hI.eqA hD 27;have zf28:=hI.eqA hD 28;have zF29:∃ (q_29:QR),V 29=undef∧q_29.key=(pieceQ ps).2∧QS w6 q_29∧C4 w6 g q_29:=hI.2 29 (hD 29 (by decide)) rfl;obtain ⟨q_29,zf29,c29_0,b29_0,b29_1⟩:=zF29;clear hI hD HGs;simp only [frAll,Act.put,List.setIfInBounds_toArray,List.set_cons_zero,List.set_cons_succ,Nat.zero_add,Nat.reduceAdd,zf0,zf1,zf2,zf3,zf4,zf5,zf6,zf7,zf8,zf9,zf10,zf11,zf12,zf13,zf14,zf15,zf16,zf17,zf18,zf19,zf20,zf21,zf22,zf23,zf24,zf25,zf26,zf27,zf28,zf29];clear zf0 zf1 zf2 zf3 zf4 zf5 zf6 zf7 zf8 zf9 zf10 zf11 zf12 zf13 zf14 zf15 zf16 zf17 zf18 zf19 zf20 zf21 zf22 zf23 zf24 zf25 zf26 zf27 zf28 zf29;clear V D;obtain ⟨c2,c4,c5,c6,c7,hB6⟩:=hGx;have hB7:=rd_cells hB6 b25_0 b29_1;have HB6:=hd_ hB7;have HM6:=hd_ (HM5.out.trans hMx);have HQ6:=hd_ b29_0;obtain ⟨k0,A0,e0,ws0,n0,B0,d0,xs0⟩:=q_29;have HBF:=hd_ (HB6.out.set 1 (.int .i64 ((j:Int)+(N:Int))));have hx1:=hB7.cell 1;have hy1:=hB7.frozen 1;simp [rdC] at hx1;clear hB6 hB7 b18_0 b19_0 b21_0 b25_0 b29_0 b29_1 c18_0 c19_0 c21_0 hMx HB5 HM5 HLO HPC hsub hadd;go_wp2_with fail
        go_end0
        exact TkP.nx (W:=w6) (j:=j) ⟨_,rfl,by rw [HTX.out]; have h:=HBF.out; simpa [rdC] using h,by rw [HTX.out]; exact c29_0,HQ6.out.rd HB6.out (mod_set (Mod.refl _ _) 1 _),mod_set (Mod.refl _ _) 1 _⟩ HM6.out HJ.out
  ·have ej:j=s.length:=(by omega);subst ej;have HJ:Hid (skpQ s p=s.length):=hd_ (by rw [← HSK.out]; exact skp_end (Nat.le_refl _));go_upto_region 0 with (fail)
   go_quiet (fail)
   go_upto_region 3 with (fail)
   go_quiet (fail)
   go_wp2_with fail
   go_end0
   exact TkP.nx (W:=w) (j:=s.length) ⟨.mk 0 none 0 [] 0 none 0 [],rfl,by rw [List.drop_length]; exact (rd_zero (j:=(s.length:Int)) (HBJ.out.drewN _)).drewN _,by rw [List.drop_length,QR.key_mk]; rfl,QS.zero,(rd_zmod (j:=(s.length:Int)) (HM.out.drewN _)).drewN _⟩ (Mod.refl _ _) HJ.out
def NxC (w0:World) (g:Nat) (s:Str):Prop:=∀ W L,Mod (· = g) w0 W→RdrS W g s L→kdL L≠0→kdL L≠8→Calls Tryz.prog 111 #[.pointer (some ⟨g,0,none⟩)] W (NrP W g s L.tail)
def OrC (w0:World) (g:Nat) (s:Str) (f:Nat):Prop:=∀ W L,Mod (· = g) w0 W→RdrS W g s L→L.length+1≤f→Calls Tryz.prog 112 #[.pointer (some ⟨g,0,none⟩)] W (PrP W g s (pOr f L))
theorem nxC_of {w0:World} {g:Nat} {s:Str} (hs:s.length≤200000) (hM:∀ W,Mod (· = g) w0 W→MlnS W) (hI:IxA g w0 s):NxC w0 g s:=by
 intro W L hW hR h0 h8;obtain ⟨p,qr,t,l,rfl,hB,hp,hQ,hk,ha,h7,hl⟩:=hR;obtain rfl:=hl h0 h8;obtain ⟨k,A,c,ws,n,B,d,xs⟩:=qr;exact (nextR_calls W s p t.kind t.pos k n (.slice A ws.length c) (.slice B xs.length d) g hs hp (fun W' h=>hM W' (hW.trans h)) (fun W' a h=>hI W' a (hW.trans h)) hB).mono fun e w' h=>h.rds hp
theorem pr_ret {w X:World} {g b2:Nat} {s:Str} {l:List Tk} {r:PR} {bt:Bool} {k n:Int} {A B:Option Addr} {c d:Nat} {ws:List Str} {xs:List QR} {x0 x1 x2 x3:Value} (hm:Mod (· = g) w X) (hR:RdrS X g s l) (hB:Blk X b2 29 #[x0,x1,x2,x3]) (hb:w.heap.size≤b2) (hg:g<w.heap.size)
  (h0:bt=false→r = .inl l) (h1:bt=true→r = .inr ((QR.mk k A c ws n B d xs).key,l)∧QS X (.mk k A c ws n B d xs)∧QN (· = b2) (.mk k A c ws n B d xs)∧QFr w.heap.size (.mk k A c ws n B d xs)) :
  PrP w g s r (.returned (.tuple #[.agg #[.int .i64 k,.slice A ws.length c,.int .i64 n,.slice B xs.length d],.bool bt])) ((((X.setCell ⟨b2,0,none⟩ (.int .i64 k)).setCell ⟨b2,1,none⟩ (.slice A ws.length c)).setCell ⟨b2,2,none⟩ (.int .i64 n)).setCell ⟨b2,3,none⟩ (.slice B xs.length d)):=by
 have hst:Mod (· = b2) X ((((X.setCell ⟨b2,0,none⟩ (.int .i64 k)).setCell ⟨b2,1,none⟩ (.slice A ws.length c)).setCell ⟨b2,2,none⟩ (.int .i64 n)).setCell ⟨b2,3,none⟩ (.slice B xs.length d)):=st4_mod
 have hty:∀ k' arr fr,X.heap[k']? = some (.cells arr 9 fr)→¬ k'=b2:=by
  intro k' arr fr hk e;subst e;unfold Blk at hB;rw [hB] at hk
  injection hk with hk
  injection hk with _ hk
  exact absurd hk (by decide)
 refine ⟨.mk k A c ws n B d xs,bt,l,rfl,hR.mod hst (by omega) hty,hm.trans' hst (fun i hi hlt=>by omega),h0,fun h => ?_⟩;obtain ⟨a1,a2,a3,a4⟩:=h1 h;exact ⟨a1,a2.modN a3 hst hty,a4⟩
theorem part_calls (w0:World) (g:Nat) (s:Str) (f:Nat) (hN:NxC w0 g s) (hO:OrC w0 g s f) (w:World) (L:List Tk) (hW:Mod (· = g) w0 w) (hR:RdrS w g s L) (hL:L.length≤f):Calls Tryz.prog 262 #[.pointer (some ⟨g,0,none⟩)] w (PrP w g s (pPart (pOr f) L)):=by
 have HN:=hd_ hN;have HO:=hd_ hO;have HW:=hd_ hW;have HR:=hd_ hR;clear hN hO hW;obtain ⟨p,qr,t,l,rfl,hB,hp,hQ,hk,ha,h7,hl⟩:=hR;obtain ⟨k,A,c,ws,n,B,d,xs⟩:=qr;have HQ:=hd_ hQ;have HKY:=hd_ hk;have HAR:=hd_ ha;clear hl h7 ha hQ hk;obtain ⟨kd,pos,q⟩:=t;simp only at *;have HPP:Hid (pPart (pOr f) (⟨kd,pos,q⟩ :: l)=if kd=3 then .inr (q,l) else if kd=1 then closeP (pOr f l) else .inl (⟨kd,pos,q⟩ :: l)):=hd_ rfl;generalize pPart (pOr f) (⟨kd,pos,q⟩ :: l)=r at *;have hBa:=hB.alloc (.cells #[.int .i64 0,.slice none 0 0,.int .i64 0,.slice none 0 0] 29);unfold rdC at hBa;simp [qC] at hBa;obtain ⟨x0,x1,x2,x3,x4,x5,x6,x7,xf0,xf1,xf2,xf3,xf4,xf5,xf6,xf7⟩:=hBa.c8f
 go_enter Tryz.func262,Tryz.ntmps262
 by_cases h3:kd=3
 ·subst h3;have HP:Hid (r = .inr (q,l)):=HPP.out;have HB2:=hd_ ((Blk.new w 29 #[.int .i64 0,.slice none 0 0,.int .i64 0,.slice none 0 0]).alloc (.cells #[.int .i64 k,.slice A ws.length c,.int .i64 n,.slice B xs.length d] 29));have HB4:=hd_ (Blk.snd w (.cells #[.int .i64 0,.slice none 0 0,.int .i64 0,.slice none 0 0] 29) 29 #[.int .i64 k,.slice A ws.length c,.int .i64 n,.slice B xs.length d]);have hm2:Pure w ((w.alloc (.cells #[.int .i64 0,.slice none 0 0,.int .i64 0,.slice none 0 0] 29)).alloc (.cells #[.int .i64 k,.slice A ws.length c,.int .i64 n,.slice B xs.length d] 29)):=((Mod.refl _ _).alloc _).alloc _;have HR2:=hd_ (HR.out.pure hm2);have HQ2:=hd_ (HQ.out.pure hm2);have HM2:Hid (Mod (· = g) w _):=hd_ (Mod.of_pure hm2);go_upto_region 4 with (fail);generalize ((w.alloc (.cells #[.int .i64 0,.slice none 0 0,.int .i64 0,.slice none 0 0] 29)).alloc (.cells #[.int .i64 k,.slice A ws.length c,.int .i64 n,.slice B xs.length d] 29))=w2 at *;have hg0:=HR.out.lt;have hb2:w.heap.size≤w.heap.size:=Nat.le_refl _;obtain ⟨b2,hb2e⟩:∃ b2,w.heap.size=b2:=⟨_,rfl⟩;rw [hb2e] at HB2 HB4;simp only [hb2e];clear x0 x1 x2 x3 x4 x5 x6 x7 xf0 xf1 xf2 xf3 xf4 xf5 xf6 xf7 hm2;have HNX:=hd_ (HN.out w2 (⟨3,pos,q⟩ :: l) (HW.out.trans HM2.out) HR2.out (show (3:Int)≠0 by decide) (show (3:Int)≠8 by decide));go_wp2_with fail;refine HNX.out.mono ?_;rintro e w3 ⟨rfl,hR3,hm3⟩;obtain ⟨cs,hcs⟩:=HR2.out.blk;have HQ3:=hd_ (HQ2.out.rd hcs hm3);have hB2:=HB2.out.modb hm3 (by omega);have hB4:=HB4.out.modb hm3 (by omega);have HB3:=hd_ hB2;have HR3:=hd_ hR3;have HM3:=hd_ (HM2.out.trans hm3);obtain ⟨x0,x1,x2,x3,xf0,xf1,xf2,xf3⟩:=hB2.c4f;obtain ⟨y0,y1,y2,y3⟩:=hB4.c4;clear hB2 hB4 hR3 hm3 hcs;go_wp2_with fail;have h4F:=st4_blk HB3.out (a:=.int .i64 k) (b:=.slice A ws.length c) (c:=.int .i64 n) (d:=.slice B xs.length d);obtain ⟨z0,z1,z2,z3⟩:=h4F.c4
  try simp only [Exit.inBlock,Exit.then]
  refine bodyPost_ret (v:=.tuple #[.agg #[.int .i64 k,.slice A ws.length c,.int .i64 n,.slice B xs.length d],.bool true]) (by simp [results,Tryz.results262,go_sem,z0,z1,z2,z3]) rfl ?_;refine pr_ret HM3.out HR3.out HB3.out (by omega) (by omega) (fun h=>by cases h) (fun _=>⟨?_,HQ3.out,QN.leaf (by rw [HKY.out]; exact HAR.out),QFr.leaf (by rw [HKY.out]; exact HAR.out)⟩);rw [HP.out,HKY.out]
  rfl
 ·have HPP2:Hid (r=if kd=1 then closeP (pOr f l) else .inl (⟨kd,pos,q⟩ :: l)):=hd_ (HPP.out.trans (if_neg h3))
  have h3i:(kd == 3)=false:=by rw [← Bool.not_eq_true,beq_iff_eq]; exact h3
  have HB2:=hd_ (Blk.new w 29 #[.int .i64 0,.slice none 0 0,.int .i64 0,.slice none 0 0]);have hm2:Pure w (w.alloc (.cells #[.int .i64 0,.slice none 0 0,.int .i64 0,.slice none 0 0] 29)):=(Mod.refl _ _).alloc _;have HR2:=hd_ (HR.out.pure hm2);have HM2:Hid (Mod (· = g) w (w.alloc (.cells #[.int .i64 0,.slice none 0 0,.int .i64 0,.slice none 0 0] 29))):=hd_ (Mod.of_pure hm2);have hg0:=HR.out.lt;obtain ⟨b2,hb2e⟩:∃ b2,w.heap.size=b2:=⟨_,rfl⟩
  by_cases h1:kd=1
  ·subst h1;have HP:Hid (r=closeP (pOr f l)):=hd_ (HPP2.out.trans (if_pos rfl));clear HPP HPP2 hm2;go_upto_region 7 with (fail);generalize (w.alloc (.cells #[.int .i64 0,.slice none 0 0,.int .i64 0,.slice none 0 0] 29))=w2 at *;rw [hb2e] at HB2
   try simp only [hb2e]
   have hb2l:w.heap.size≤b2:=(by omega);have hb2u:b2≤w.heap.size:=(by omega);clear hb2e;clear x0 x1 x2 x3 x4 x5 x6 x7 xf0 xf1 xf2 xf3 xf4 xf5 xf6 xf7;have HNX:=hd_ (HN.out w2 (⟨1,pos,q⟩ :: l) (HW.out.trans HM2.out) HR2.out (show (1:Int)≠0 by decide) (show (1:Int)≠8 by decide));go_wp2_with fail;refine HNX.out.mono ?_;rintro e w3 ⟨rfl,hR3,hm3⟩;have HB3:=hd_ (HB2.out.modb hm3 (by omega));have HM3:=hd_ (HM2.out.trans hm3);have HOX:=hd_ (HO.out w3 l (HW.out.trans HM3.out) hR3 (by simp at hL; omega));clear hR3 hm3 HNX HB2 HM2;go_wp2_with fail;refine HOX.out.mono ?_;rintro e w4 ⟨qr2,bt,l2,rfl,hR4,hm4,h0,h1⟩;obtain ⟨k2,A2,c2,ws2,n2,B2,d2,xs2⟩:=qr2;simp only [qA_mk];have H0:=hd_ h0;have H1:=hd_ h1;have HB4:=hd_ (HB3.out.modb hm4 (by omega));have HM4:=hd_ (HM3.out.trans hm4);have HR4:=hd_ hR4;have hsz4:=HM4.out.size;have hsz3:=HM3.out.size;have hb23:=HB3.out.lt;clear h0 h1 hm4 hR4 HB3 HOX;have hmA:Pure w4 (w4.alloc (.cells #[.int .i64 k2,.slice A2 ws2.length c2,.int .i64 n2,.slice B2 xs2.length d2] 29)):=(Mod.refl _ _).alloc _;have HB5:=hd_ (HB4.out.alloc (.cells #[.int .i64 k2,.slice A2 ws2.length c2,.int .i64 n2,.slice B2 xs2.length d2] 29));have HB6:=hd_ (Blk.new w4 29 #[.int .i64 k2,.slice A2 ws2.length c2,.int .i64 n2,.slice B2 xs2.length d2]);have HR5:=hd_ (HR4.out.pure hmA);have HM5:=hd_ (HM4.out.transp hmA);have HQA:=hd_ hmA;clear hmA;go_upto_region 9 with (fail);generalize (w4.alloc (.cells #[.int .i64 k2,.slice A2 ws2.length c2,.int .i64 n2,.slice B2 xs2.length d2] 29))=w5 at *;obtain ⟨b5,hb5⟩:∃ b5,w4.heap.size=b5:=⟨_,rfl⟩;rw [hb5] at HB6
   try simp only [hb5]
   have hb5l:w4.heap.size≤b5:=(by omega);clear hb5
   cases bt
   ·have HI:Hid (r = .inl l2):=hd_ (by rw [HP.out,H0.out rfl]; rfl);have h5:=HB5.out;have h6:=HB6.out;obtain ⟨x0,x1,x2,x3,xf0,xf1,xf2,xf3⟩:=h5.c4f;obtain ⟨y0,y1,y2,y3⟩:=h6.c4;clear h5 h6 H0 H1;go_wp2_with fail;have h4F:=st4_blk HB5.out (a:=.int .i64 k2) (b:=.slice A2 ws2.length c2) (c:=.int .i64 n2) (d:=.slice B2 xs2.length d2);obtain ⟨z0,z1,z2,z3⟩:=h4F.c4
    try simp only [Exit.inBlock,Exit.then]
    refine bodyPost_ret (v:=.tuple #[.agg #[.int .i64 k2,.slice A2 ws2.length c2,.int .i64 n2,.slice B2 xs2.length d2],.bool false]) (by simp [results,Tryz.results262,go_sem,z0,z1,z2,z3]) rfl ?_;exact pr_ret HM5.out HR5.out HB5.out (by omega) (by omega) (fun _=>HI.out) (fun h=>by cases h)
   ·obtain ⟨hq1,hq2,hq3⟩:=H1.out rfl;have HQ1:=hd_ hq1;have HQ2:=hd_ (hq2.pure HQA.out);have HQ3:=hd_ hq3;clear hq1 hq2 hq3 H0 H1;obtain ⟨p5,qr5,t5,l5,rfl,hB7,hp5,hQ5,hk5,ha5,_,_⟩:=HR5.out;obtain ⟨k5,A5,c5,ws5,n5,B5,d5,xs5⟩:=qr5;have hBr:=hB7;unfold rdC at hBr;simp [qC] at hBr;obtain ⟨u0,u1,u2,u3,u4,u5,u6,u7⟩:=hBr.c8;have h5:=HB5.out;have h6:=HB6.out;obtain ⟨x0,x1,x2,x3,xf0,xf1,xf2,xf3⟩:=h5.c4f;obtain ⟨y0,y1,y2,y3⟩:=h6.c4;clear hBr hQ5 hk5 ha5 h5 h6 hB7
    by_cases hk2:t5.kind=2
    ·have HI:Hid (r = .inr ((QR.mk k2 A2 c2 ws2 n2 B2 d2 xs2).key,l5)):=hd_ (by
      rw [HP.out,HQ1.out]
      show (if t5.kind=2 then (Sum.inr (_,l5):PR) else Sum.inl (t5 :: l5))=_
      exact if_pos hk2)
     have HNY:=hd_ (HN.out w5 (t5 :: l5) (HW.out.trans HM5.out) HR5.out (show t5.kind≠0 by omega) (show t5.kind≠8 by omega));clear HQ1;rw [hk2] at u2;clear hk2;go_wp2_with fail;refine HNY.out.mono ?_;rintro e w6 ⟨rfl,hR6,hm6⟩;obtain ⟨cs,hcs⟩:=HR5.out.blk;have HQ6:=hd_ (HQ2.out.rd hcs hm6);have HB7:=hd_ (HB5.out.modb hm6 (by omega));have h8:=HB6.out.modb hm6 (by omega);have HR6:=hd_ hR6;have HM6:=hd_ (HM5.out.trans hm6);have h7:=HB7.out;clear x0 x1 x2 x3 xf0 xf1 xf2 xf3 y0 y1 y2 y3 u0 u1 u2 u3 u4 u5 u6 u7;obtain ⟨x0,x1,x2,x3,xf0,xf1,xf2,xf3⟩:=h7.c4f;obtain ⟨y0,y1,y2,y3⟩:=h8.c4;clear h7 h8 hR6 hm6 hcs HNY;go_wp2_with fail;have h4F:=st4_blk HB7.out (a:=.int .i64 k2) (b:=.slice A2 ws2.length c2) (c:=.int .i64 n2) (d:=.slice B2 xs2.length d2);obtain ⟨z0,z1,z2,z3⟩:=h4F.c4
     try simp only [Exit.inBlock,Exit.then]
     refine bodyPost_ret (v:=.tuple #[.agg #[.int .i64 k2,.slice A2 ws2.length c2,.int .i64 n2,.slice B2 xs2.length d2],.bool true]) (by simp [results,Tryz.results262,go_sem,z0,z1,z2,z3]) rfl ?_;exact pr_ret HM6.out HR6.out HB7.out (by omega) (by omega) (fun h=>by cases h) (fun _=>⟨HI.out,HQ6.out,QN.old HQ3.out (fun k hk=>by omega),by have h:=HQ3.out; exact h.up (by omega)⟩)
    ·have HI:Hid (r = .inl (t5 :: l5)):=hd_ (by
      rw [HP.out,HQ1.out]
      show (if t5.kind=2 then (Sum.inr (_,l5):PR) else Sum.inl (t5 :: l5))=_
      exact if_neg hk2)
     have hk2i:(t5.kind == 2)=false:=by rw [← Bool.not_eq_true,beq_iff_eq]; exact hk2
     clear hk2;go_wp2_with fail;have h4F:=st4_blk HB5.out (a:=.int .i64 k2) (b:=.slice A2 ws2.length c2) (c:=.int .i64 n2) (d:=.slice B2 xs2.length d2);obtain ⟨z0,z1,z2,z3⟩:=h4F.c4
     try simp only [Exit.inBlock,Exit.then]
     refine bodyPost_ret (v:=.tuple #[.agg #[.int .i64 k2,.slice A2 ws2.length c2,.int .i64 n2,.slice B2 xs2.length d2],.bool false]) (by simp [results,Tryz.results262,go_sem,z0,z1,z2,z3]) rfl ?_;exact pr_ret HM5.out HR5.out HB5.out (by omega) (by omega) (fun _=>HI.out) (fun h=>by cases h)
  ·have HI:Hid (r = .inl (⟨kd,pos,q⟩ :: l)):=hd_ (HPP2.out.trans (if_neg h1))
   have h1i:(kd == 1)=false:=by rw [← Bool.not_eq_true,beq_iff_eq]; exact h1
   subst hb2e;have h5:=HB2.out;obtain ⟨z0,z1,z2,z3⟩:=h5.c4;clear h5 h1 h3 HPP HPP2 hm2;go_wp2_with fail
   try simp only [Exit.inBlock,Exit.then]
   refine bodyPost_ret (v:=.tuple #[.agg #[.int .i64 0,.slice none 0 0,.int .i64 0,.slice none 0 0],.bool false]) (by simp [results,Tryz.results262,go_sem,z0,z1,z2,z3]) rfl ?_;exact ⟨.mk 0 none 0 [] 0 none 0 [],false,_,rfl,HR2.out,HM2.out,fun _=>HI.out,fun h=>by cases h⟩
theorem box_str {X:World} {b:Nat} {cs:Array Value} (hB:Blk X b 29 cs):∀ k' arr fr,X.heap[k']? = some (.cells arr 9 fr)→¬ k'=b:=by
 intro k' arr fr hk e;subst e;unfold Blk at hB;rw [hB] at hk
 injection hk with hk
 injection hk with _ hk
 exact absurd hk (by decide)
theorem QN.mono {S T:Nat→Prop} {q:QR} (h:QN T q) (hST:∀ k,S k→T k):QN S q:=by
 induction h with
 | mk hb hs ih=>exact .mk (fun hx g off he hg=>hb hx g off he (hST _ hg)) ih
theorem QS.box {X X':World} {b:Nat} {cs:Array Value} {q:QR} (h:QS X q) (hB:Blk X b 29 cs) (hn:QN (· = b) q) (hm:Mod (· = b) X X'):QS X' q:=h.modN hn hm (box_str hB)
theorem RdrS.box {X X':World} {g b:Nat} {s:Str} {L:List Tk} {cs:Array Value} (h:RdrS X g s L) (hB:Blk X b 29 cs) (hm:Mod (· = b) X X') (hg:g≠b):RdrS X' g s L:=h.mod hm hg (box_str hB)
def PtC (w0:World) (g:Nat) (s:Str) (f:Nat):Prop:=∀ W L,Mod (· = g) w0 W→RdrS W g s L→L.length≤f→Calls Tryz.prog 262 #[.pointer (some ⟨g,0,none⟩)] W (PrP W g s (pPart (pOr f) L))
def NearR (w:World) (g:Nat) (s:Str) (f b2 b4:Nat) (r:PR) (gk:Nat) (t:Value) (wr:World):Prop :=
 ∃ (qr:QR) (bt:Bool) (l:List Tk),(if bt=true then l.length+1 else 0)=gk∧t = .bool bt∧RdrS wr g s l∧Blk wr b2 29 #[.int .i64 0,.slice none 0 0,.int .i64 0,.slice none 0 0]∧Blk wr b4 29 (qC qr).toArray∧Mod (· = g) w wr∧(bt=false→r = .inl l) ∧
  (bt=true→∃ f',l.length+1≤f'∧f'≤f∧pNearL (pOr f) f' qr.key l=r∧QS wr qr∧QN (· = b2) qr∧QN (· = b4) qr∧QFr w.heap.size qr)
theorem near_start {f:Nat} {L l:List Tk} {q:Qry} (h:pPart (pOr f) L = .inr (q,l)):pNear (pOr f) f L=pNearL (pOr f) f q l:=by unfold pNear; rw [h]
theorem near_fail {f:Nat} {L l:List Tk} (h:pPart (pOr f) L = .inl l):pNear (pOr f) f L = .inl l:=by unfold pNear; rw [h]
theorem near_calls (w0:World) (g:Nat) (s:Str) (f:Nat) (hN:NxC w0 g s) (hP:PtC w0 g s f) (w:World) (L:List Tk) (hW:Mod (· = g) w0 w) (hR:RdrS w g s L) (hL:L.length≤f):Calls Tryz.prog 228 #[.pointer (some ⟨g,0,none⟩)] w (PrP w g s (pNear (pOr f) f L)):=by
 have HN:=hd_ hN;have HP:=hd_ hP;have HW:=hd_ hW;have hg0:=hR.lt;have hmz:Pure w (w.alloc (.cells #[.int .i64 0,.slice none 0 0,.int .i64 0,.slice none 0 0] 29)):=(Mod.refl _ _).alloc _;have HB2:=hd_ (Blk.new w 29 #[.int .i64 0,.slice none 0 0,.int .i64 0,.slice none 0 0]);have HM2:Hid (Mod (· = g) w (w.alloc (.cells #[.int .i64 0,.slice none 0 0,.int .i64 0,.slice none 0 0] 29))):=hd_ (Mod.of_pure hmz);have HPX:=hd_ (hP (w.alloc (.cells #[.int .i64 0,.slice none 0 0,.int .i64 0,.slice none 0 0] 29)) L (hW.trans HM2.out) (hR.pure hmz) hL);have HLE:=hd_ (pPart_len (pOr_len f));have HS1:Hid (∀ q l,pPart (pOr f) L = .inr (q,l)→pNear (pOr f) f L=pNearL (pOr f) f q l):=hd_ (fun q l h=>near_start h);have HS2:Hid (∀ l,pPart (pOr f) L = .inl l→pNear (pOr f) f L = .inl l):=hd_ (fun l h=>near_fail h);clear hN hP hW hmz hR;generalize pNear (pOr f) f L=r at *;obtain ⟨b2,hb2e⟩:∃ b2,w.heap.size=b2:=⟨_,rfl⟩;have hb2l:w.heap.size≤b2:=(by omega)
 go_enter Tryz.func228,Tryz.ntmps228
 go_wp2_with fail;generalize (w.alloc (.cells #[.int .i64 0,.slice none 0 0,.int .i64 0,.slice none 0 0] 29))=w2 at *;rw [hb2e] at HB2
 try simp only [hb2e]
 clear hb2e;refine HPX.out.mono ?_;rintro e w3 ⟨qr2,bt,l2,rfl,hR3,hm3,h0,h1⟩;obtain ⟨k2,A2,c2,ws2,n2,B2,d2,xs2⟩:=qr2;simp only [qA_mk];have H0:=hd_ h0;have H1:=hd_ h1;have HB3:=hd_ (HB2.out.modb hm3 (by omega));have HM3:=hd_ (HM2.out.trans hm3);have HR3:=hd_ hR3;have hsz3:=HM2.out.size;have hsz4:=hm3.size;have hb2lt:=HB2.out.lt;clear h0 h1 hm3 hR3 HB2 HM2 HPX;have hmA:Pure w3 (w3.alloc (.cells #[.int .i64 k2,.slice A2 ws2.length c2,.int .i64 n2,.slice B2 xs2.length d2] 29)):=(Mod.refl _ _).alloc _;have HB5:=hd_ (HB3.out.alloc (.cells #[.int .i64 k2,.slice A2 ws2.length c2,.int .i64 n2,.slice B2 xs2.length d2] 29));have HB6:=hd_ (Blk.new w3 29 #[.int .i64 k2,.slice A2 ws2.length c2,.int .i64 n2,.slice B2 xs2.length d2]);have HR5:=hd_ (HR3.out.pure hmA);have HM5:=hd_ (HM3.out.transp hmA);have HQA:=hd_ hmA;clear hmA;go_wp2_with fail;generalize (w3.alloc (.cells #[.int .i64 k2,.slice A2 ws2.length c2,.int .i64 n2,.slice B2 xs2.length d2] 29))=w5 at *;obtain ⟨b4,hb4⟩:∃ b4,w3.heap.size=b4:=⟨_,rfl⟩;rw [hb4] at HB6
 try simp only [hb4]
 have hb4l:w3.heap.size≤b4:=(by omega);have hb4u:b4≤w3.heap.size:=(by omega);clear hb4
 go_loopg [5] (if bt=true then l2.length+1 else 0) (fun gk t wr=>NearR w g s f b2 b4 r gk t wr)
 case atStart =>
  refine ⟨.mk k2 A2 c2 ws2 n2 B2 d2 xs2,bt,l2,rfl,rfl,HR5.out,HB5.out,HB6.out,HM5.out,fun h=>HS2.out _ (H0.out h),fun h => ?_⟩;obtain ⟨a1,a2,a3⟩:=H1.out h;have a4:=HLE.out _ _ _ a1;exact ⟨f,by omega,Nat.le_refl _,(HS1.out _ _ a1).symm,a2.pure HQA.out,QN.old a3 (fun k hk=>by omega),QN.new a2 (fun k hk=>by omega),a3.up (by omega)⟩
 case round =>
  clear HB3 HM3 HB5 HB6 HR3 HR5 HM5 HQA H0 H1 HS1 HS2;obtain ⟨qr,bt2,l,rfl,rfl,hR,hB2,hB4,hM,h0,h1⟩:=hrel;obtain ⟨k,A,c,ws,n,B,d,xs⟩:=qr;have HR:=hd_ hR;have HB2:=hd_ hB2;have HB4:=hd_ hB4;have HM:=hd_ hM;have H0:=hd_ h0;have H1:=hd_ h1;have hszr:=hM.size;clear hR hB2 hB4 hM h0 h1;have h2:=HB2.out;have h4:=HB4.out;simp only [qC] at h4;obtain ⟨x0,x1,x2,x3,xf0,xf1,xf2,xf3⟩:=h2.c4f;obtain ⟨y0,y1,y2,y3,yf0,yf1,yf2,yf3⟩:=h4.c4f;clear h2 h4
  cases bt2
  ·have HI:=hd_ (H0.out rfl);clear H0 H1;go_wp2_with fail;have h4F:=st4_blk HB2.out (a:=.int .i64 k) (b:=.slice A ws.length c) (c:=.int .i64 n) (d:=.slice B xs.length d);obtain ⟨z0,z1,z2,z3⟩:=h4F.c4
   try simp only [Exit.inBlock,Exit.then]
   refine bodyPost_ret (v:=.tuple #[.agg #[.int .i64 k,.slice A ws.length c,.int .i64 n,.slice B xs.length d],.bool false]) (by simp [results,Tryz.results228,go_sem,z0,z1,z2,z3]) rfl ?_;exact pr_ret HM.out HR.out HB2.out (by omega) (by omega) (fun _=>HI.out) (fun h=>by cases h)
  ·obtain ⟨f2,hf2,hff,hpn,hQ,hQ2,hQ4,hQF⟩:=H1.out rfl;have HPN:=hd_ hpn;have HQ:=hd_ hQ;have HQ2:=hd_ hQ2;have HQ4:=hd_ hQ4;have HQF:=hd_ hQF;clear hpn hQ hQ2 hQ4 hQF H0 H1;obtain ⟨p5,qr5,t5,l5,rfl,hB5,hp5,hQ5,hk5,ha5,h75,_⟩:=HR.out;obtain ⟨k5,A5,c5,ws5,n5,B5,d5,xs5⟩:=qr5;have hBr:=hB5;unfold rdC at hBr;simp [qC] at hBr;obtain ⟨u0,u1,u2,u3,u4,u5,u6,u7⟩:=hBr.c8;have HQ5:=hd_ hQ5;have HK5:=hd_ hk5;have HA5:=hd_ ha5;have H75:=hd_ h75;clear hBr hQ5 hk5 ha5 h75 hB5
   cases f2 with
   | zero=>exact absurd hf2 (by simp)
   | succ f2 =>
    by_cases hk7:t5.kind=7
    ·have HPQ:Hid ((match pPart (pOr f) l5 with | .inl l => .inl l | .inr (b,l)=>pNearL (pOr f) f2 (.mk t5.q.kind [] t5.q.num [(QR.mk k A c ws n B d xs).key,b]) l)=r):=hd_ (by
      have h:=HPN.out;unfold pNearL at h;rw [if_pos (show kdL (t5 :: l5)=7 from hk7)] at h
      exact h)
     have HWE:=hd_ (H75.out hk7);rw [hk7] at u2;have hgw:=HR.out.lt;have hb4r:=HB4.out.lt;have hb2r:=HB2.out.lt;have hmA:Pure wr (wr.alloc (.cells #[.int .i64 k5,.slice A5 ws5.length c5,.int .i64 n5,.slice B5 xs5.length d5] 29)):=(Mod.refl _ _).alloc _;have HBA2:=hd_ (HB2.out.alloc (.cells #[.int .i64 k5,.slice A5 ws5.length c5,.int .i64 n5,.slice B5 xs5.length d5] 29));have HBA4:=hd_ (HB4.out.alloc (.cells #[.int .i64 k5,.slice A5 ws5.length c5,.int .i64 n5,.slice B5 xs5.length d5] 29));have HBA6:=hd_ (Blk.new wr 29 #[.int .i64 k5,.slice A5 ws5.length c5,.int .i64 n5,.slice B5 xs5.length d5]);have HRA:=hd_ (HR.out.pure hmA);have HMA:=hd_ (HM.out.transp hmA);have HQA:=hd_ (HQ.out.pure hmA);have HQA5:=hd_ (HQ5.out.pure hmA);have HQ6n:Hid (QN (· = wr.heap.size) (QR.mk k A c ws n B d xs)):=hd_ (QN.new HQ.out (fun k hk=>by omega));have hk0:kdL (t5 :: l5)≠0:=(show t5.kind≠0 by omega);have hk8:kdL (t5 :: l5)≠8:=(show t5.kind≠8 by omega);have HK0:=hd_ hk0;have HK8:=hd_ hk8;clear hmA hk7 HPN H75 hk0 hk8;go_upto_region 4 with (fail);generalize (wr.alloc (.cells #[.int .i64 k5,.slice A5 ws5.length c5,.int .i64 n5,.slice B5 xs5.length d5] 29))=w3 at *;obtain ⟨b6,hb6⟩:∃ b6,wr.heap.size=b6:=⟨_,rfl⟩;rw [hb6] at HBA6 HQ6n
     try simp only [hb6]
     have hb6l:wr.heap.size≤b6:=(by omega);clear hb6 x0 x1 x2 x3 xf0 xf1 xf2 xf3 y0 y1 y2 y3 yf0 yf1 yf2 yf3 u0 u1 u2 u3 u4 u5 u6 u7;have HNX:=hd_ (HN.out w3 (t5 :: l5) (HW.out.trans HMA.out) HRA.out HK0.out HK8.out);go_wp2_with fail;refine HNX.out.mono ?_;rintro e w4 ⟨rfl,hR4,hm4⟩;obtain ⟨cs,hcs⟩:=HRA.out.blk;have hb6r:=HBA6.out.lt;have hsz4:=hm4.size;have hZ:Pure w4 (w4.alloc (.cells #[.int .i64 0,.slice none 0 0,.int .i64 0,.slice none 0 0] 29)):=(Mod.refl _ _).alloc _;have HQB:=hd_ ((HQA.out.rd hcs hm4).pure hZ);have HQB5:=hd_ ((HQA5.out.rd hcs hm4).pure hZ);have HBB2:=hd_ ((HBA2.out.modb hm4 (by omega)).alloc (.cells #[.int .i64 0,.slice none 0 0,.int .i64 0,.slice none 0 0] 29));have HBB4:=hd_ ((HBA4.out.modb hm4 (by omega)).alloc (.cells #[.int .i64 0,.slice none 0 0,.int .i64 0,.slice none 0 0] 29));have HBB6:=hd_ ((HBA6.out.modb hm4 (by omega)).alloc (.cells #[.int .i64 0,.slice none 0 0,.int .i64 0,.slice none 0 0] 29));have HBB7:=hd_ (Blk.new w4 29 #[.int .i64 0,.slice none 0 0,.int .i64 0,.slice none 0 0]);have HRB:=hd_ (RdrS.pure hR4 hZ);have HMB:=hd_ ((HMA.out.trans hm4).transp hZ);have HQ7n:Hid (QN (· = w4.heap.size) (QR.mk k A c ws n B d xs)):=hd_ (QN.new (HQA.out.rd hcs hm4) (fun k hk=>by omega));clear hcs hm4 hR4 hZ HNX HQA HQA5 HBA2 HBA4 HBA6 HRA HMA;go_upto_region 6 with (fail);generalize (w4.alloc (.cells #[.int .i64 0,.slice none 0 0,.int .i64 0,.slice none 0 0] 29))=w5 at *;obtain ⟨b7,hb7⟩:∃ b7,w4.heap.size=b7:=⟨_,rfl⟩;rw [hb7] at HBB7 HQ7n
     try simp only [hb7]
     have hb7l:w4.heap.size≤b7:=(by omega);clear hb7;have hb7r:=HBB7.out.lt;have hgB:=HRB.out.lt;have HPX:=hd_ (HP.out w5 l5 (HW.out.trans HMB.out) HRB.out (by simp at hf2; omega));go_wp2_with fail;refine HPX.out.mono ?_;rintro e w6 ⟨qr6,bt,l6,rfl,hR6,hm6,h0,h1⟩;obtain ⟨k6,A6,c6,ws6,n6,B6,d6,xs6⟩:=qr6;simp only [qA_mk];obtain ⟨cs,hcs⟩:=HRB.out.blk;have H0:=hd_ h0;have H1:=hd_ h1;have HQC:=hd_ (HQB.out.rd hcs hm6);have HQC5:=hd_ (HQB5.out.rd hcs hm6);have hC2:=HBB2.out.modb hm6 (by omega);have hC4:=HBB4.out.modb hm6 (by omega);have hC6:=HBB6.out.modb hm6 (by omega);have hC7:=HBB7.out.modb hm6 (by omega);have HMC:=hd_ (HMB.out.trans hm6);have hst:Mod (· = b7) w6 ((((w6.setCell ⟨b7,0,none⟩ (.int .i64 k6)).setCell ⟨b7,1,none⟩ (.slice A6 ws6.length c6)).setCell ⟨b7,2,none⟩ (.int .i64 n6)).setCell ⟨b7,3,none⟩ (.slice B6 xs6.length d6)):=st4_mod;have HD2:=hd_ (hC2.mod hst (by omega));have HD4:=hd_ (hC4.mod hst (by omega));have HD6:=hd_ (hC6.mod hst (by omega));have HD7:=hd_ (st4_blk (a:=.int .i64 k6) (b:=.slice A6 ws6.length c6) (c:=.int .i64 n6) (d:=.slice B6 xs6.length d6) hC7);have HRD:=hd_ (RdrS.box hR6 hC7 hst (by omega));have HMD:Hid (Mod (· = g) w ((((w6.setCell ⟨b7,0,none⟩ (.int .i64 k6)).setCell ⟨b7,1,none⟩ (.slice A6 ws6.length c6)).setCell ⟨b7,2,none⟩ (.int .i64 n6)).setCell ⟨b7,3,none⟩ (.slice B6 xs6.length d6))):=hd_ (HMC.out.trans' hst (fun i hi hlt=>by omega));have HQD:=hd_ (HQC.out.box hC7 HQ7n.out hst);have HQD5:=hd_ (HQC5.out.box hC7 (QN.leaf (by rw [HK5.out]; exact HA5.out)) hst)
     have HQD6:Hid (bt=true→QS ((((w6.setCell ⟨b7,0,none⟩ (.int .i64 k6)).setCell ⟨b7,1,none⟩ (.slice A6 ws6.length c6)).setCell ⟨b7,2,none⟩ (.int .i64 n6)).setCell ⟨b7,3,none⟩ (.slice B6 xs6.length d6)) (.mk k6 A6 c6 ws6 n6 B6 d6 xs6)):=hd_ (fun h=>by
      obtain ⟨a1,a2,a3⟩:=h1 h
      exact a2.box hC7 (QN.old a3 (fun k hk=>by omega)) hst)
     have HSTW:=hd_ hst;have hsz6:=hm6.size;have hs76:=hst.size;obtain ⟨z0,z1,z2,z3,zf0,zf1,zf2,zf3⟩:=hC7.c4f;clear hcs hm6 hR6 h0 h1 hst hC2 hC4 hC6 hC7 HQB HQB5 HBB2 HBB4 HBB6 HBB7 HRB HMB HPX HQ7n HQC HQC5;go_upto_region 7 with (fail);generalize ((((w6.setCell ⟨b7,0,none⟩ (.int .i64 k6)).setCell ⟨b7,1,none⟩ (.slice A6 ws6.length c6)).setCell ⟨b7,2,none⟩ (.int .i64 n6)).setCell ⟨b7,3,none⟩ (.slice B6 xs6.length d6))=w7 at *;clear z0 z1 z2 z3 zf0 zf1 zf2 zf3;have h4:=HD4.out;have h6:=HD6.out;have h7:=HD7.out;simp only [qC] at h4;obtain ⟨y0,y1,y2,y3⟩:=h4.c4;obtain ⟨u0,u1,u2,u3,uf0,uf1,uf2,uf3⟩:=h6.c4f;obtain ⟨v0,v1,v2,v3⟩:=h7.c4;clear h4 h6 h7;have xa:=fun o=>(HD6.out.alloc o).cell 3;have xb:=fun o=>(HD6.out.alloc o).frozen 3;simp at xa;have hg7:=HRD.out.lt;have h6r:=HD6.out.lt;have h4r:=HD4.out.lt;have h2r:=HD2.out.lt;have hst:Mod (· = b6) w7 (w7.setCell ⟨b6,3,none⟩ (.slice (some ⟨w7.heap.size,0,none⟩) 2 2)):=mod_set (Mod.refl _ _) 3 _;have hA:Pure (w7.setCell ⟨b6,3,none⟩ (.slice (some ⟨w7.heap.size,0,none⟩) 2 2)) ((w7.setCell ⟨b6,3,none⟩ (.slice (some ⟨w7.heap.size,0,none⟩) 2 2)).alloc (.cells #[.int .i64 k,.slice A ws.length c,.int .i64 n,.slice B xs.length d,.int .i64 k6,.slice A6 ws6.length c6,.int .i64 n6,.slice B6 xs6.length d6] 29)):=(Mod.refl _ _).alloc _;have hQ6:QN (· = b6) (QR.mk k A c ws n B d xs):=HQ6n.out;have HE2:=hd_ ((HD2.out.mod hst (by omega)).modp hA);have HE4:=hd_ ((HD4.out.mod hst (by omega)).modp hA);have HE6:=hd_ ((HD6.out.set 3 (.slice (some ⟨w7.heap.size,0,none⟩) 2 2)).modp hA);have HES:Hid (Blk ((w7.setCell ⟨b6,3,none⟩ (.slice (some ⟨w7.heap.size,0,none⟩) 2 2)).alloc (.cells #[.int .i64 k,.slice A ws.length c,.int .i64 n,.slice B xs.length d,.int .i64 k6,.slice A6 ws6.length c6,.int .i64 n6,.slice B6 xs6.length d6] 29)) w7.heap.size 29 #[.int .i64 k,.slice A ws.length c,.int .i64 n,.slice B xs.length d,.int .i64 k6,.slice A6 ws6.length c6,.int .i64 n6,.slice B6 xs6.length d6]):=hd_ (Blk.new' (by simp));have HRE:=hd_ ((HRD.out.box HD6.out hst (by omega)).pure hA);have HME:Hid (Mod (· = g) w ((w7.setCell ⟨b6,3,none⟩ (.slice (some ⟨w7.heap.size,0,none⟩) 2 2)).alloc (.cells #[.int .i64 k,.slice A ws.length c,.int .i64 n,.slice B xs.length d,.int .i64 k6,.slice A6 ws6.length c6,.int .i64 n6,.slice B6 xs6.length d6] 29))):=hd_ ((HMD.out.trans' hst (fun i hi hlt=>by omega)).transp hA);have HQE:=hd_ ((HQD.out.box HD6.out hQ6 hst).pure hA);have HQE5:=hd_ ((HQD5.out.box HD6.out (QN.leaf (by rw [HK5.out]; exact HA5.out)) hst).pure hA)
     have HQE6:Hid (bt=true→QS ((w7.setCell ⟨b6,3,none⟩ (.slice (some ⟨w7.heap.size,0,none⟩) 2 2)).alloc (.cells #[.int .i64 k,.slice A ws.length c,.int .i64 n,.slice B xs.length d,.int .i64 k6,.slice A6 ws6.length c6,.int .i64 n6,.slice B6 xs6.length d6] 29)) (.mk k6 A6 c6 ws6 n6 B6 d6 xs6)):=hd_ (fun h=>by
      obtain ⟨a1,a2,a3⟩:=H1.out h
      exact ((HQD6.out h).box HD6.out (QN.old a3 (fun k hk=>by omega)) hst).pure hA)
     have hgS:w7.heap.size≤w7.heap.size:=Nat.le_refl _;clear hA hst hQ6 HD2 HD4 HD6 HD7 HRD HMD HQD HQD5 HQD6 HSTW;go_upto_region 8 with (fail);obtain ⟨gS,hgSe⟩:∃ gS,w7.heap.size=gS:=⟨_,rfl⟩;rw [hgSe] at HE2 HE4 HE6 HES HRE HME HQE HQE5 HQE6
     try simp only [hgSe]
     have hgSl:w7.heap.size≤gS:=(by omega);clear hgSe hgS xa xb y0 y1 y2 y3 u0 u1 u2 u3 uf0 uf1 uf2 uf3 v0 v1 v2 v3;generalize ((w7.setCell ⟨b6,3,none⟩ (.slice (some ⟨gS,0,none⟩) 2 2)).alloc (.cells #[.int .i64 k,.slice A ws.length c,.int .i64 n,.slice B xs.length d,.int .i64 k6,.slice A6 ws6.length c6,.int .i64 n6,.slice B6 xs6.length d6] 29))=w8 at *;have h4:=HE4.out;have h6:=HE6.out;simp at h6;simp only [qC] at h4;obtain ⟨y0,y1,y2,y3,yf0,yf1,yf2,yf3⟩:=h4.c4f;obtain ⟨u0,u1,u2,u3⟩:=h6.c4;clear h4 h6;go_wp2_with fail
     go_roundg (if bt=true then l6.length+1 else 0)
     case measure =>
      show (if bt=true then l6.length+1 else 0)<(t5 :: l5).length+1
      cases bt
      ·exact Nat.succ_pos _
      ·have h:=HLE.out _ _ _ (H1.out rfl).1;simp
       omega
     case rel =>
      have hws:ws5=[]:=by
       have h:=HWE.out;rw [← HK5.out,QR.key_mk] at h;exact h
      subst hws
      have hke:∀ q6:QR,(QR.mk k5 A5 c5 [] n5 (some ⟨gS,0,none⟩) 2 [.mk k A c ws n B d xs,q6]).key = .mk t5.q.kind [] t5.q.num [(QR.mk k A c ws n B d xs).key,q6.key]:=by
       intro q6;rw [← HK5.out,QR.key_mk,QR.key_mk (ws:=[])]
       rfl
      have hst:Mod (· = b4) w8 ((((w8.setCell ⟨b4,0,none⟩ (.int .i64 k5)).setCell ⟨b4,1,none⟩ (.slice A5 0 c5)).setCell ⟨b4,2,none⟩ (.int .i64 n5)).setCell ⟨b4,3,none⟩ (.slice (some ⟨gS,0,none⟩) 2 2)):=st4_mod;have hw8:=HE4.out.lt;have hg8:=HRE.out.lt;refine ⟨.mk k5 A5 c5 [] n5 (some ⟨gS,0,none⟩) 2 [.mk k A c ws n B d xs,.mk k6 A6 c6 ws6 n6 B6 d6 xs6],bt,l6,rfl,rfl,HRE.out.box HE4.out hst (by omega),HE2.out.mod hst (by omega),?_,HME.out.trans' hst (fun i hi hlt=>by omega),fun h => ?_,fun h => ?_⟩
      ·have h4:=HE4.out;simp only [qC] at h4;exact st4_blk (a:=.int .i64 k5) (b:=.slice A5 0 c5) (c:=.int .i64 n5) (d:=.slice (some ⟨gS,0,none⟩) 2 2) h4
      ·have h9:=HPQ.out;rw [H0.out h] at h9;exact h9.symm
      ·obtain ⟨a1,a2,a3⟩:=H1.out h;have h9:=HPQ.out;rw [a1] at h9;have hl6:=HLE.out _ _ _ a1;have hb4n:QN (· = b4) (QR.mk k6 A6 c6 ws6 n6 B6 d6 xs6):=QN.old a3 (fun k hk=>by omega);have hb2n:QN (· = b2) (QR.mk k6 A6 c6 ws6 n6 B6 d6 xs6):=QN.old a3 (fun k hk=>by omega);have hqr:=HQE.out.box HE4.out HQ4.out hst;have hqr6:=(HQE6.out h).box HE4.out hb4n hst;refine ⟨f2,by simp at hf2; omega,by omega,?_,.mk ?_ ?_ ?_,.mk ?_ ?_,.mk ?_ ?_,.mk ?_ ?_⟩
       ·rw [hke]; exact h9
       ·exact Sl.mod HQE5.out.wsH hst (box_str HE4.out)
       ·have hE:=HES.out.mod hst (by omega);exact ⟨_,_,_,rfl,Nat.le_refl _,by omega,rfl,fun _=>⟨gS,0,rfl,hE.row fun i u hi=>by simpa [qV,qC] using hi⟩⟩
       ·intro a ha;simp at ha
        rcases ha with rfl | rfl
        ·exact hqr
        ·exact hqr6
       ·intro _ g9 off he hb
        injection he with he
        injection he with he
        omega
       ·intro a ha;simp at ha
        rcases ha with rfl | rfl
        ·exact HQ2.out
        ·exact hb2n
       ·intro _ g9 off he hb
        injection he with he
        injection he with he
        omega
       ·intro a ha;simp at ha
        rcases ha with rfl | rfl
        ·exact HQ4.out
        ·exact hb4n
       ·exact fun _=>⟨gS,0,rfl,by omega⟩
       ·intro a ha;simp at ha
        rcases ha with rfl | rfl
        ·exact HQF.out
        ·exact a3.up (by omega)
    ·have HI:Hid (r = .inr ((QR.mk k A c ws n B d xs).key,t5 :: l5)):=hd_ (by
      have h:=HPN.out;unfold pNearL at h;rw [if_neg (show ¬ kdL (t5 :: l5)=7 from hk7)] at h
      exact h.symm)
     have hk7i:(t5.kind == 7)=false:=by rw [← Bool.not_eq_true,beq_iff_eq]; exact hk7
     clear hk7 HPN;go_wp2_with fail;have h4F:=st4_blk HB2.out (a:=.int .i64 k) (b:=.slice A ws.length c) (c:=.int .i64 n) (d:=.slice B xs.length d);obtain ⟨z0,z1,z2,z3⟩:=h4F.c4
     try simp only [Exit.inBlock,Exit.then]
     refine bodyPost_ret (v:=.tuple #[.agg #[.int .i64 k,.slice A ws.length c,.int .i64 n,.slice B xs.length d],.bool true]) (by simp [results,Tryz.results228,go_sem,z0,z1,z2,z3]) rfl ?_;exact pr_ret HM.out HR.out HB2.out (by omega) (by omega) (fun h=>by cases h) (fun _=>⟨HI.out,HQ.out,HQ2.out,HQF.out⟩)
def NotP (w:World) (qr:QR) (e:Ending) (w':World):Prop:=∃ gS:Nat,w.heap.size≤gS∧e = .returned (qA (.mk 8 none 0 [] 0 (some ⟨gS,0,none⟩) 1 [qr]))∧QS w' (.mk 8 none 0 [] 0 (some ⟨gS,0,none⟩) 1 [qr])∧Pure w w'
theorem qs_one {w:World} {g:Nat} {k n:Int} {q1:QR} (h:Blk w g 29 (qC q1).toArray) (h1:QS w q1):QS w (.mk k none 0 [] n (some ⟨g,0,none⟩) 1 [q1]):=by
 refine .mk Sl.nil_ ⟨_,_,_,rfl,Nat.le_refl _,by omega,?_,fun _=>⟨g,0,rfl,?_⟩⟩ ?_
 ·simp [qV,qC_len]
 ·have e:qV [q1]=qC q1:=by simp [qV]
  rw [e];exact h.row0
 ·intro a ha;rw [List.mem_singleton.1 ha];exact h1
theorem notQ_calls (w:World) (qr:QR) (hQ:QS w qr):Calls Tryz.prog 229 #[qA qr] w (NotP w qr):=by
 obtain ⟨k,A,c,ws,n,B,d,xs⟩:=qr;have HQ:=hd_ hQ;clear hQ;rw [qA_mk];have hR2:=(Blk.snd w (.cells #[.int .i64 k,.slice A ws.length c,.int .i64 n,.slice B xs.length d] 29) 29 #[.int .i64 8,.slice none 0 0,.int .i64 0,.slice (some ⟨w.heap.size+1+1,0,none⟩) 1 1]).alloc (.cells #[.int .i64 k,.slice A ws.length c,.int .i64 n,.slice B xs.length d] 29);have hR3:=Blk.thd w (.cells #[.int .i64 k,.slice A ws.length c,.int .i64 n,.slice B xs.length d] 29) (.cells #[.int .i64 8,.slice none 0 0,.int .i64 0,.slice (some ⟨w.heap.size+1+1,0,none⟩) 1 1] 29) 29 #[.int .i64 k,.slice A ws.length c,.int .i64 n,.slice B xs.length d];have HR3:=hd_ hR3;have hm:Pure w (((w.alloc (.cells #[.int .i64 k,.slice A ws.length c,.int .i64 n,.slice B xs.length d] 29)).alloc (.cells #[.int .i64 8,.slice none 0 0,.int .i64 0,.slice (some ⟨w.heap.size+1+1,0,none⟩) 1 1] 29)).alloc (.cells #[.int .i64 k,.slice A ws.length c,.int .i64 n,.slice B xs.length d] 29)):=(((Mod.refl _ _).alloc _).alloc _).alloc _;have HM:=hd_ hm;clear hm hR3;obtain ⟨z0,z1,z2,z3⟩:=hR2.c4;clear hR2
 go_enter Tryz.func229,Tryz.ntmps229
 go_wp2_with fail
 try simp only [Exit.inBlock,Exit.then]
 refine bodyPost_ret (v:=.agg #[.int .i64 8,.slice none 0 0,.int .i64 0,.slice (some ⟨w.heap.size+1+1,0,none⟩) 1 1]) (by simp [results,Tryz.results229,go_sem,z0,z1,z2,z3]) rfl ?_;exact ⟨w.heap.size+1+1,by omega,rfl,qs_one HR3.out (HQ.out.pure HM.out),HM.out⟩
theorem notL_cons (t:Tk) (l:List Tk):notL (t :: l)=if t.kind=6 then notL l+1 else 0:=by
 unfold notL;rw [List.takeWhile_cons]
 by_cases h:t.kind=6
 ·rw [if_pos h,if_pos (by simpa using h)]; simp
 ·rw [if_neg h,if_neg (by simpa using h)]; rfl
theorem notN_out:∀ (m:Nat) (q:Qry),notN (m+1) q = .mk 8 [] 0 [notN m q]
 | 0,_=>rfl
 | m+1,q=>by
  show notN (m+1) (.mk 8 [] 0 [q])=_
  rw [notN_out m]
  rfl
def NrC (w0:World) (g:Nat) (s:Str) (f:Nat):Prop:=∀ W L,Mod (· = g) w0 W→RdrS W g s L→L.length≤f→Calls Tryz.prog 228 #[.pointer (some ⟨g,0,none⟩)] W (PrP W g s (pNear (pOr f) f L))
theorem not_calls (w0:World) (g:Nat) (s:Str) (f:Nat) (hf:f≤1000000) (hN:NxC w0 g s) (hP:NrC w0 g s f) (w:World) (L:List Tk) (hW:Mod (· = g) w0 w) (hR:RdrS w g s L) (hL:L.length≤f):Calls Tryz.prog 187 #[.pointer (some ⟨g,0,none⟩)] w (PrP w g s (pNot (pOr f) f L)):=by
 have HN:=hd_ hN;have HP:=hd_ hP;have HW:=hd_ hW;have hg0:=hR.lt;have hmz:Pure w (w.alloc (.cells #[.int .i64 0,.slice none 0 0,.int .i64 0,.slice none 0 0] 29)):=(Mod.refl _ _).alloc _;have HB2:=hd_ (Blk.new w 29 #[.int .i64 0,.slice none 0 0,.int .i64 0,.slice none 0 0]);have HM2:Hid (Mod (· = g) w (w.alloc (.cells #[.int .i64 0,.slice none 0 0,.int .i64 0,.slice none 0 0] 29))):=hd_ (Mod.of_pure hmz);have HR2:=hd_ (hR.pure hmz);clear hN hP hW hmz hR;obtain ⟨b2,hb2e⟩:∃ b2,w.heap.size=b2:=⟨_,rfl⟩;have hb2l:w.heap.size≤b2:=(by omega)
 go_enter Tryz.func187,Tryz.ntmps187
 go_wp2_with fail;generalize (w.alloc (.cells #[.int .i64 0,.slice none 0 0,.int .i64 0,.slice none 0 0] 29))=w2 at *;rw [hb2e] at HB2
 try simp only [hb2e]
 clear hb2e
 go_loopg [4] L.length (fun gk t wr=>∃ (m:Nat) (l:List Tk),l.length=gk∧t = .int .i64 (m:Int)∧L.drop m=l∧notL L=m+notL l∧m+l.length=L.length∧RdrS wr g s l∧Blk wr b2 29 #[.int .i64 0,.slice none 0 0,.int .i64 0,.slice none 0 0]∧Mod (· = g) w wr)
 case atStart=>exact ⟨0,L,rfl,rfl,rfl,by omega,by omega,HR2.out,HB2.out,HM2.out⟩
 case round =>
  clear HR2 HB2 HM2;obtain ⟨m,l,rfl,rfl,hdr,hnl,hml,hR,hB2,hM⟩:=hrel;have HDR:=hd_ hdr;have HNL:=hd_ hnl;have HR:=hd_ hR;have HB2:=hd_ hB2;have HM:=hd_ hM;have hb2r:=hB2.lt;have hgr:=hR.lt;clear hdr hnl hR hB2 hM;obtain ⟨p5,qr5,t5,l5,rfl,hB5,hp5,hQ5,hk5,ha5,h75,_⟩:=HR.out;obtain ⟨k5,A5,c5,ws5,n5,B5,d5,xs5⟩:=qr5;have hBr:=hB5;unfold rdC at hBr;simp [qC] at hBr;obtain ⟨u0,u1,u2,u3,u4,u5,u6,u7⟩:=hBr.c8;clear hBr hQ5 hk5 ha5 h75 hB5
  by_cases hk6:t5.kind=6
  ·have hn2:notL L=m+1+notL l5:=by rw [HNL.out,notL_cons,if_pos hk6]; omega
   have HN2:=hd_ hn2;have HD2:Hid (L.drop (m+1)=l5):=hd_ (by rw [← List.drop_drop,HDR.out]; rfl);have HNX:=hd_ (HN.out wr (t5 :: l5) (HW.out.trans HM.out) HR.out (show t5.kind≠0 by omega) (show t5.kind≠8 by omega));rw [hk6] at u2;clear hk6 hn2 HNL;go_wp2_with fail;refine HNX.out.mono ?_;rintro e w4 ⟨rfl,hR4,hm4⟩;have HR4:=hd_ hR4;have HM4:=hd_ (HM.out.trans hm4);have HB4:=hd_ (HB2.out.modb hm4 (by omega));clear hR4 hm4 HNX u0 u1 u2 u3 u4 u5 u6 u7;simp only [List.length_cons] at hml;go_wp2_with fail
   go_roundg l5.length
   case measure=>show l5.length<l5.length+1; omega
   case rel=>exact ⟨m+1,l5,rfl,by simp,HD2.out,HN2.out,by omega,HR4.out,HB4.out,HM4.out⟩
  ·have HPN:Hid (pNot (pOr f) f L=notP m (pNear (pOr f) f (t5 :: l5))):=hd_ (by
    have h:=HNL.out;rw [notL_cons,if_neg hk6] at h;unfold pNot
    rw [h,Nat.add_zero,HDR.out])
   have hk6i:(t5.kind == 6)=false:=by rw [← Bool.not_eq_true,beq_iff_eq]; exact hk6
   have HPX:=hd_ (HP.out wr (t5 :: l5) (HW.out.trans HM.out) HR.out (by omega));clear hk6 HNL HDR;generalize pNot (pOr f) f L=r at *;generalize pNear (pOr f) f (t5 :: l5)=r0 at *;generalize wr=w3 at *;go_wp2_with fail;refine HPX.out.mono ?_;rintro e w4 ⟨qr2,bt,l2,rfl,hR4,hm4,h0,h1⟩;obtain ⟨k2,A2,c2,ws2,n2,B2,d2,xs2⟩:=qr2;simp only [qA_mk];have H0:=hd_ h0;have H1:=hd_ h1;have hsz3:=HM.out.size;have hsz4:=hm4.size;have hmA:Pure w4 (w4.alloc (.cells #[.int .i64 k2,.slice A2 ws2.length c2,.int .i64 n2,.slice B2 xs2.length d2] 29)):=(Mod.refl _ _).alloc _;have HB5:=hd_ ((HB2.out.modb hm4 (by omega)).alloc (.cells #[.int .i64 k2,.slice A2 ws2.length c2,.int .i64 n2,.slice B2 xs2.length d2] 29));have HB6:=hd_ (Blk.new w4 29 #[.int .i64 k2,.slice A2 ws2.length c2,.int .i64 n2,.slice B2 xs2.length d2]);have HR5:=hd_ (RdrS.pure hR4 hmA);have HM5:=hd_ ((HM.out.trans hm4).transp hmA);have HQA:=hd_ hmA;clear hmA h0 h1 hm4 hR4 HPX HB2 HM HR u0 u1 u2 u3 u4 u5 u6 u7;go_upto_region 6 with (fail);generalize (w4.alloc (.cells #[.int .i64 k2,.slice A2 ws2.length c2,.int .i64 n2,.slice B2 xs2.length d2] 29))=w5 at *;obtain ⟨b5,hb5⟩:∃ b5,w4.heap.size=b5:=⟨_,rfl⟩;rw [hb5] at HB6
   try simp only [hb5]
   have hb5l:w4.heap.size≤b5:=(by omega);have hb5u:b5≤w4.heap.size:=(by omega);clear hb5;have hb5r:=HB6.out.lt;have hb2r5:=HB5.out.lt
   cases bt
   ·have HI:Hid (r = .inl l2):=hd_ (by rw [HPN.out,H0.out rfl]; rfl);have h5:=HB5.out;have h6:=HB6.out;obtain ⟨x0,x1,x2,x3,xf0,xf1,xf2,xf3⟩:=h5.c4f;obtain ⟨y0,y1,y2,y3⟩:=h6.c4;clear h5 h6 H0 H1 HPN;go_wp2_with fail;have h4F:=st4_blk HB5.out (a:=.int .i64 k2) (b:=.slice A2 ws2.length c2) (c:=.int .i64 n2) (d:=.slice B2 xs2.length d2);obtain ⟨z0,z1,z2,z3⟩:=h4F.c4
    try simp only [Exit.inBlock,Exit.then]
    refine bodyPost_ret (v:=.tuple #[.agg #[.int .i64 k2,.slice A2 ws2.length c2,.int .i64 n2,.slice B2 xs2.length d2],.bool false]) (by simp [results,Tryz.results187,go_sem,z0,z1,z2,z3]) rfl ?_;exact pr_ret HM5.out HR5.out HB5.out (by omega) (by omega) (fun _=>HI.out) (fun h=>by cases h)
   ·obtain ⟨hq1,hq2,hq3⟩:=H1.out rfl;have HQ1:Hid (r = .inr (notN m (QR.mk k2 A2 c2 ws2 n2 B2 d2 xs2).key,l2)):=hd_ (by rw [HPN.out,hq1]; rfl);have HQ2:=hd_ (hq2.pure HQA.out);have HQ3:Hid (QFr w.heap.size (QR.mk k2 A2 c2 ws2 n2 B2 d2 xs2)):=hd_ (hq3.up (by omega));have HQ4:Hid (QN (· = b2) (QR.mk k2 A2 c2 ws2 n2 B2 d2 xs2)):=hd_ (QN.old hq3 (fun k hk=>by omega));have HQ5:Hid (QN (· = b5) (QR.mk k2 A2 c2 ws2 n2 B2 d2 xs2)):=hd_ (QN.new hq2 (fun k hk=>by omega));have hmb:(m:Int)≤1000000:=(by omega);clear hq1 hq2 hq3 H0 H1 HPN HQA;go_wp2_with fail
    go_loopg [26] m (fun gk i wr=>∃ (j:Nat) (qr:QR),m - j=gk∧j≤m∧i = .int .i64 (j:Int)∧qr.key=notN j (QR.mk k2 A2 c2 ws2 n2 B2 d2 xs2).key∧QS wr qr∧QN (· = b2) qr∧QN (· = b5) qr∧QFr w.heap.size qr∧Blk wr b5 29 (qC qr).toArray∧Blk wr b2 29 #[.int .i64 0,.slice none 0 0,.int .i64 0,.slice none 0 0]∧RdrS wr g s l2∧Mod (· = g) w wr)
    case atStart=>exact ⟨0,.mk k2 A2 c2 ws2 n2 B2 d2 xs2,by omega,by omega,rfl,rfl,HQ2.out,HQ4.out,HQ5.out,HQ3.out,HB6.out,HB5.out,HR5.out,HM5.out⟩
    case round =>
     clear HQ2 HQ4 HQ5 HQ3 HB6 HB5 HR5 HM5;obtain ⟨j,qr,rfl,hj,rfl,hk,hQ,hQ2,hQ5,hQF,hB5,hB2,hR,hM⟩:=hrel;obtain ⟨k,A,c,ws,n,B,d,xs⟩:=qr;have HK:=hd_ hk;have HQ:=hd_ hQ;have HQ2:=hd_ hQ2;have HQ5:=hd_ hQ5;have HQF:=hd_ hQF;have HB5:=hd_ hB5;have HB2:=hd_ hB2;have HR:=hd_ hR;have HM:=hd_ hM;have hb5w:=hB5.lt;have hb2w:=hB2.lt;have hgw:=hR.lt;have h5:=hB5;simp only [qC] at h5;obtain ⟨y0,y1,y2,y3⟩:=h5.c4;clear hk hQ hQ2 hQ5 hQF hB5 hB2 hR hM h5
     by_cases hlt:j<m
     ·have HNQ:=hd_ (notQ_calls wr _ HQ.out);rw [qA_mk] at HNQ;go_wp2_with fail;refine HNQ.out.mono ?_;rintro e w6 ⟨gS,hgS,rfl,hQS,hm6⟩;simp only [qA_mk];have HQS:=hd_ hQS;have HB6:=hd_ (HB5.out.modp hm6);have HB7:=hd_ (HB2.out.modp hm6);have HR6:=hd_ (HR.out.pure hm6);have HM6:=hd_ (HM.out.transp hm6);have hszw:=HM.out.size;have h5:=HB6.out;simp only [qC] at h5;clear y0 y1 y2 y3;obtain ⟨y0,y1,y2,y3,yf0,yf1,yf2,yf3⟩:=h5.c4f;clear h5 hQS hm6 HNQ HB5 HB2 HR HM;go_wp2_with fail
      go_roundg (m - (j+1))
      case measure=>omega
      case rel =>
       have hst:Mod (· = b5) w6 ((((w6.setCell ⟨b5,0,none⟩ (.int .i64 8)).setCell ⟨b5,1,none⟩ (.slice none 0 0)).setCell ⟨b5,2,none⟩ (.int .i64 0)).setCell ⟨b5,3,none⟩ (.slice (some ⟨gS,0,none⟩) 1 1)):=st4_mod;have h6:=HB6.out;simp only [qC] at h6;refine ⟨j+1,.mk 8 none 0 [] 0 (some ⟨gS,0,none⟩) 1 [.mk k A c ws n B d xs],rfl,hlt,by simp,?_,?_,?_,?_,?_,?_,HB7.out.mod hst (by omega),HR6.out.box HB6.out hst (by omega),HM6.out.trans' hst (fun i hi hlt=>by omega)⟩
       ·rw [QR.key_mk,notN_out,← HK.out]
        rfl
       ·refine HQS.out.box HB6.out (.mk ?_ ?_) hst
        ·intro _ g9 off he hb
         injection he with he
         injection he with he
         omega
        ·intro a ha;rw [List.mem_singleton.1 ha];exact HQ5.out
       ·refine .mk ?_ ?_
        ·intro _ g9 off he hb
         injection he with he
         injection he with he
         omega
        ·intro a ha;rw [List.mem_singleton.1 ha];exact HQ2.out
       ·refine .mk ?_ ?_
        ·intro _ g9 off he hb
         injection he with he
         injection he with he
         omega
        ·intro a ha;rw [List.mem_singleton.1 ha];exact HQ5.out
       ·refine .mk (fun _=>⟨gS,0,rfl,by omega⟩) ?_;intro a ha;rw [List.mem_singleton.1 ha];exact HQF.out
       ·exact st4_blk (a:=.int .i64 8) (b:=.slice none 0 0) (c:=.int .i64 0) (d:=.slice (some ⟨gS,0,none⟩) 1 1) h6
     ·obtain rfl:j=m:=by omega
      have h2:=HB2.out;obtain ⟨x0,x1,x2,x3,xf0,xf1,xf2,xf3⟩:=h2.c4f;clear h2 hlt;go_wp2_with fail;have h4F:=st4_blk HB2.out (a:=.int .i64 k) (b:=.slice A ws.length c) (c:=.int .i64 n) (d:=.slice B xs.length d);obtain ⟨z0,z1,z2,z3⟩:=h4F.c4
      try simp only [Exit.inBlock,Exit.then]
      refine bodyPost_ret (v:=.tuple #[.agg #[.int .i64 k,.slice A ws.length c,.int .i64 n,.slice B xs.length d],.bool true]) (by simp [results,Tryz.results187,go_sem,z0,z1,z2,z3]) rfl ?_;exact pr_ret HM.out HR.out HB2.out (by omega) (by omega) (fun h=>by cases h) (fun _=>⟨by rw [HK.out]; exact HQ1.out,HQ.out,HQ2.out,HQF.out⟩)
end Go.Proofs.YtnfflgicngeekaaGreatDoor
