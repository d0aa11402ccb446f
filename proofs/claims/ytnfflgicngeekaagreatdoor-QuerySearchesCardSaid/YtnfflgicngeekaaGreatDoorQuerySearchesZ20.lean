/- Texts of the proof of QuerySearches, put together: QryF, QryM, QryW, QryR, IsqP. -/
import Derived.Test.YtnfflgicngeekaaGreatDoorQuerySearchesZ9
import Derived.Test.YtnfflgicngeekaaGreatDoorQuerySearchesZ10
import Derived.Test.YtnfflgicngeekaaGreatDoorQuerySearchesZ17
set_option linter.unusedVariables false
set_option linter.unusedSimpArgs false
namespace Go.Proofs.YtnfflgicngeekaaGreatDoor
open Go.RowKit
def resvB (s:Str):Bool:=s == [97,108,108] || (s == [97,110,100] || (s == [111,114] || s == [110,111,116]))
structure UseQ where
 w0:Nat
 w1:Nat
 a0:Nat
 a1:Nat
 nb:Bool
def useQ (M:Nat) (k:Int):UseQ :=
 if k=2∨k=9∨k=11 then ⟨1,1,0,0,false⟩ else if k=3 then ⟨2,10,0,0,false⟩ else if k=4∨k=5 then ⟨0,0,2,2,true⟩
 else if k=6∨k=7 then ⟨0,0,2,M,false⟩ else if k=8 then ⟨0,0,1,1,false⟩ else if k=10∨k=12∨k=13 then ⟨0,0,0,0,true⟩ else ⟨0,0,0,0,false⟩
def byWK (k:Int):Bool:=decide (k=2) || (decide (k=3) || (nearK k || decide (k=7)))
def formB (M:Nat) (k:Int) (nw:Nat) (n:Int) (na:Nat):Bool :=
 ((useQ M k).nb || decide (n=0)) && (decide ((useQ M k).w0≤nw∧nw≤(useQ M k).w1) && decide ((useQ M k).a0≤na∧na≤(useQ M k).a1))
def wordBad (k:Int) (s:Str):Bool:=if k=9 then !keyB s else !patB s || (decide (k=2) && resvB s)
def numE (k n:Int):Int:=if (nearK k=true∧¬ (0≤n∧n≤20))∨((k=12∨k=13)∧¬ (0≤n∧n≤4000)) then 1 else if k=10∧¬ (1≤n∧n≤4) then 4 else 0
def headE (M:Nat) (must:Bool) (k:Int) (ws:List Str) (n:Int) (na:Nat):Int :=
 if ¬ (1≤k∧k≤13) then 4 else if must=true∧byWK k=false then 10 else if formB M k ws.length n na=false then 3
 else if ws.any (wordBad k)=true then 5 else numE k n
def fstE:List Int→Int | []=>0 | e :: l=>if e≠0 then e else fstE l
def mustQ (must:Bool) (k:Int):Bool:=nearK k || (must && decide (k=7))
def fltQ (M:Nat):Bool→Qry→Int
 | must,.mk k ws n xs=>if headE M must k ws n xs.length≠0 then headE M must k ws n xs.length else fstE (xs.map (fltQ M (mustQ must k)))
def checkQ (q:Qry):Int:=if qFit q 0 0 0=true then fltQ 100 false q else 2
def checkR (q:Qry):Int:=if 100<qSize q∨12<qDeep q∨3<qNear q then 2 else fltQ 1073741824 false q
theorem sum_ge_length {l:List Qry}:l.length≤(l.map qSize).sum:=by
 induction l with
 | nil=>simp
 | cons q l ih =>
  have:=qSize_pos q;simp only [List.length_cons,List.map_cons,List.sum_cons]
  omega
theorem mem_sum {l:List Qry} {a:Qry} (h:a∈l):qSize a≤(l.map qSize).sum:=by
 induction l with
 | nil=>cases h
 | cons q l ih =>
  simp only [List.map_cons,List.sum_cons]
  rcases List.mem_cons.1 h with rfl | h
  ·omega
  ·have:=ih h
   omega
theorem headE_M {M N:Nat} {must:Bool} {k:Int} {ws:List Str} {n:Int} {na:Nat} (h1:na≤M) (h2:na≤N):headE M must k ws n na=headE N must k ws n na:=by
 have h:formB M k ws.length n na=formB N k ws.length n na:=by
  unfold formB useQ;have e1:(2≤na∧na≤M)↔2≤na:=⟨fun h=>h.1,fun h=>⟨h,h1⟩⟩;have e2:(2≤na∧na≤N)↔2≤na:=⟨fun h=>h.1,fun h=>⟨h,h2⟩⟩
  split
  ·rfl
  ·split
   ·rfl
   ·split
    ·rfl
    ·split
     ·simp only [e1,e2]
     ·rfl
 unfold headE;rw [h]
theorem fltQ_M (N:Nat):∀ q:Qry,qSize q≤100→100≤N→∀ must,fltQ 100 must q=fltQ N must q:=by
 refine Qry.ind (fun k ws n xs ih => ?_);intro h hN must;rw [qSize] at h;have hl:=sum_ge_length (l:=xs);rw [fltQ,fltQ,headE_M (N:=N) (by omega:xs.length≤100) (by omega)];have e:xs.map (fltQ 100 (mustQ must k))=xs.map (fltQ N (mustQ must k)):=List.map_congr_left (fun a ha=>ih a ha (by have:=mem_sum ha; omega) hN _);rw [e]
theorem check_same (q:Qry):checkQ q=checkR q:=by
 unfold checkQ checkR
 by_cases h:100<qSize q∨12<qDeep q∨3<qNear q
 ·rw [if_pos h,if_neg (by unfold qFit; simp; omega)]
 ·rw [if_neg h,if_pos (by unfold qFit; simp; omega),fltQ_M 1073741824 q (by omega) (by omega)]
theorem fstE_at {l:List Int} {j:Nat} (hj:j<l.length) (h0:fstE (l.take j)=0):(l[j]≠0→fstE l=l[j])∧(l[j]=0→fstE (l.take (j+1))=0):=by
 induction l generalizing j with
 | nil=>cases hj
 | cons e l ih =>
  cases j with
  | zero =>
   simp only [List.getElem_cons_zero]
   constructor
   ·intro h; simp [fstE,h]
   ·intro h; simp [fstE,h]
  | succ j =>
   rw [List.take_succ_cons] at h0
   have he:e=0:=by
    unfold fstE at h0
    split at h0
    ·assumption
    ·rename_i h; simpa using h
   subst he
   have h0':fstE (l.take j)=0:=by unfold fstE at h0; simpa using h0
   have:=ih (by simpa using hj) h0';simp only [List.getElem_cons_succ]
   constructor
   ·intro h; unfold fstE; simp; exact this.1 h
   ·intro h; rw [List.take_succ_cons]; unfold fstE; simp; exact this.2 h
inductive QR where
 | mk (kind:Int) (A:Option Addr) (c:Nat) (words:List Str) (num:Int) (B:Option Addr) (d:Nat) (args:List QR)
instance:Inhabited QR:=⟨.mk 0 none 0 [] 0 none 0 []⟩
theorem QR.sz {k:Int} {A:Option Addr} {c:Nat} {ws:List Str} {n:Int} {B:Option Addr} {d:Nat} {xs:List QR} {a:QR} (h:a∈xs):SizeOf.sizeOf a<SizeOf.sizeOf (QR.mk k A c ws n B d xs):=by
 have:=List.sizeOf_lt_of_mem h;simp
 omega
theorem QR.ind {P:QR→Prop} (h:∀ k A c ws n B d xs,(∀ a∈xs,P a)→P (.mk k A c ws n B d xs)):∀ q,P q
 | .mk k A c ws n B d xs=>h k A c ws n B d xs (fun a _ha=>QR.ind h a)
termination_by q=>SizeOf.sizeOf q
decreasing_by exact QR.sz _ha
def QR.key:QR→Qry | .mk k _ _ ws n _ _ xs => .mk k ws n (xs.map QR.key)
def qC:QR→List Value | .mk k A c ws n B d xs=>[.int .i64 k,.slice A ws.length c,.int .i64 n,.slice B xs.length d]
def qV (l:List QR):List Value:=l.flatMap qC
def qA (q:QR):Value:=.agg (qC q).toArray
theorem qC_len (q:QR):(qC q).length=4:=by cases q; rfl
theorem qV_len:∀ l:List QR,(qV l).length=l.length*4
 | []=>rfl
 | q :: t=>by
  show (qC q ++ qV t).length=_
  rw [List.length_append,qV_len t,qC_len];simp
  omega
theorem qV_get:∀ (l:List QR) (i:Nat) (h:i<l.length) (j:Nat),j<4→(qV l)[i*4+j]? = (qC l[i])[j]?
 | q :: t,0,_,j,hj=>by
  show (qC q ++ qV t)[0*4+j]? = _
  rw [List.getElem?_append_left (by rw [qC_len]; omega)];simp
 | q :: t,i+1,h,j,hj=>by
  show (qC q ++ qV t)[(i+1)*4+j]? = _
  rw [List.getElem?_append_right (by rw [qC_len]; omega),qC_len,show (i+1)*4+j - 4=i*4+j by omega];exact qV_get t i (by simpa using h) j hj
theorem qV_snoc (l:List QR) (q:QR):qV (l ++ [q])=qV l ++ qC q:=by simp [qV]
inductive QS (w:World):QR→Prop
 | mk {k:Int} {A:Option Addr} {c:Nat} {ws:List Str} {n:Int} {B:Option Addr} {d:Nat} {xs:List QR} (hw:Sl w 9 1 (.slice A ws.length c) (strsV ws)) (ha:Sl w 29 4 (.slice B xs.length d) (qV xs)) (hs:∀ a∈xs,QS w a):QS w (.mk k A c ws n B d xs)
theorem QS.mod {w w':World} {S:Nat→Prop} {q:QR} (h:QS w q) (hm:Mod S w w') (h1:∀ g arr fr,w.heap[g]? = some (.cells arr 9 fr)→¬ S g) (h2:∀ g arr fr,w.heap[g]? = some (.cells arr 29 fr)→¬ S g):QS w' q:=by
 induction h with
 | mk hw ha hs ih=>exact .mk (Sl.mod hw hm h1) (Sl.mod ha hm h2) ih
theorem QS.pure {w w':World} {q:QR} (h:QS w q) (hm:Pure w w'):QS w' q:=by
 induction h with
 | mk hw ha hs ih=>exact .mk (hw.pure hm) (ha.pure hm) ih
inductive QB (M:Nat):Qry→Prop
 | mk {k:Int} {ws:List Str} {n:Int} {xs:List Qry} (hk0 : -4000000000000≤k) (hk1:k≤4000000000000) (hn0 : -4000000000000≤n) (hn1:n≤4000000000000) (hw:ws.length≤M) (hl:∀ x∈ws,x.length≤M) (ha:xs.length≤M) (hs:∀ a∈xs,QB M a):QB M (.mk k ws n xs)
section
variable {w:World} {k n:Int} {A B:Option Addr} {c d M:Nat} {ws:List Str} {xs:List QR} {bs:List Qry}
theorem QS.wsH (h:QS w (.mk k A c ws n B d xs)):Sl w 9 1 (.slice A ws.length c) (strsV ws):=by cases h; assumption
theorem QS.xsH (h:QS w (.mk k A c ws n B d xs)):Sl w 29 4 (.slice B xs.length d) (qV xs):=by cases h; assumption
theorem QS.allH (h:QS w (.mk k A c ws n B d xs)):∀ a∈xs,QS w a:=by cases h; assumption
theorem QB.allH (h:QB M (.mk k ws n bs)):∀ a∈bs,QB M a:=by cases h; assumption
theorem QB.knH (h:QB M (.mk k ws n bs)) : -4000000000000≤k∧k≤4000000000000 ∧ -4000000000000≤n∧n≤4000000000000:=by cases h; exact ⟨by assumption,by assumption,by assumption,by assumption⟩
theorem QB.wsH (h:QB M (.mk k ws n bs)):ws.length≤M∧∀ x∈ws,x.length≤M:=by cases h; exact ⟨by assumption,by assumption⟩
theorem QB.xsH (h:QB M (.mk k ws n bs)):bs.length≤M:=by cases h; assumption
end
theorem QR.key_mk {k n:Int} {A B:Option Addr} {c d:Nat} {ws:List Str} {xs:List QR}:(QR.mk k A c ws n B d xs).key = .mk k ws n (xs.map QR.key):=by rw [QR.key]
theorem qcells {w:World} {B:Option Addr} {n d i:Nat} {xs:List QR} {k m:Int} {A C:Option Addr} {c e:Nat} {ws:List Str} {bs:List QR} (h:Sl w 29 4 (.slice B n d) (qV xs)) (hi:i<xs.length) (hq:xs[i] = .mk k A c ws m C e bs) :
  ∃ g off,B=some ⟨g,off,none⟩∧w.cell? ⟨g,off+i*4,none⟩=some (.int .i64 k)∧w.cell? ⟨g,off+i*4+1,none⟩=some (.slice A ws.length c)∧w.cell? ⟨g,off+i*4+2,none⟩=some (.int .i64 m)∧w.cell? ⟨g,off+i*4+3,none⟩=some (.slice C bs.length e):=by
 obtain ⟨B',n',d',he,hle,hc,hl,hr⟩:=h
 injection he with h1 h2 h3
 subst h1 h2 h3;rw [qV_len] at hl;obtain ⟨g,off,rfl,hrow⟩:=hr (by omega);have hg:∀ j,j<4→(qV xs)[i*4+j]? = (qC xs[i])[j]?:=fun j hj=>qV_get xs i hi j hj;rw [hq] at hg;exact ⟨g,off,rfl,hrow.cell (hg 0 (by omega)),by have:=hrow.cell (hg 1 (by omega)); simpa [Nat.add_assoc] using this,by have:=hrow.cell (hg 2 (by omega)); simpa [Nat.add_assoc] using this,by have:=hrow.cell (hg 3 (by omega)); simpa [Nat.add_assoc] using this⟩
def phrB (ws pats:List Str) (i j:Nat):Bool:=decide (j+1=i+pats.length) && (decide (j<ws.length) && (List.range pats.length).all fun t=>fitsB (pats.getD t []) (ws.getD (i+t) []))
def cutB (A B:Nat→Nat→Bool) (n:Int) (W i j:Nat):Bool:=(List.range W).any fun m=>A i m && (List.range W).any fun k=>decide (m+1≤k) && (decide ((k:Int)≤(m:Int)+1+n) && B k j)
def noB:Nat→Nat→Bool:=fun _ _=>false
def plcK (ws:List Str) (k:Int) (pats:List Str) (n:Int) (fs:List (Nat→Nat→Bool)):Nat→Nat→Bool:=fun i j =>
 if k=5 then cutB (fs.getD 0 noB) (fs.getD 1 noB) n ws.length i j
 else if k=4 then cutB (fs.getD 0 noB) (fs.getD 1 noB) n ws.length i j || cutB (fs.getD 1 noB) (fs.getD 0 noB) n ws.length i j
 else if k=7 then fs.any (fun f=>f i j) else phrB ws pats i j
def plcQ (ws:List Str):Qry→Nat→Nat→Bool
 | .mk k pats n xs=>plcK ws k pats n (xs.map (plcQ ws))
structure ItQ where
 cust:Str
 kind:Int
 names:List Str
 day:Int
 ws:List Str
def somePl (f:Nat→Nat→Bool) (W:Nat):Bool:=(List.range W).any fun i=>(List.range W).any fun j=>f i j
def fndK (x:ItQ) (k:Int) (pats:List Str) (n:Int) (fs:List Bool) (q:Qry):Bool :=
 if k=6 then !fs.any (fun b => !b) else if k=7 then fs.any (fun b=>b) else if k=8 then !(fs.getD 0 false) else if k=9 then x.cust == pats.getD 0 []
 else if k=10 then decide (x.kind=n) else if k=11 then x.names.any (fun w=>fitsB (pats.getD 0 []) w) else if k=12 then decide (n≤x.day) else if k=13 then decide (x.day≤n)
 else if k=1 then true else somePl (plcQ x.ws q) x.ws.length
def fndQ (x:ItQ):Qry→Bool
 | .mk k pats n xs=>fndK x k pats n (xs.map (fndQ x)) (.mk k pats n xs)
def rowQ (W:Nat) (f:Nat→Bool):List Nat:=(List.range W).filter f
theorem rowQ_mem {W:Nat} {f:Nat→Bool} {j:Nat}:j∈rowQ W f↔j<W∧f j=true:=by simp [rowQ]
theorem rowQ_sorted (W:Nat) (f:Nat→Bool):(rowQ W f).Pairwise (· < ·):=List.Pairwise.filter _ List.pairwise_lt_range
theorem sorted_unique:∀ {a b:List Nat},a.Pairwise (· < ·)→b.Pairwise (· < ·)→(∀ x,x∈a↔x∈b)→a=b
 | [],[],_,_,_=>rfl
 | [],y :: b,_,_,h=>absurd ((h y).2 (by simp)) (by simp)
 | x :: a,[],_,_,h=>absurd ((h x).1 (by simp)) (by simp)
 | x :: a,y :: b,ha,hb,h=>by
  rw [List.pairwise_cons] at ha hb
  have e:x=y:=by
   have h1:=(h x).1 (by simp);have h2:=(h y).2 (by simp)
   rcases List.mem_cons.1 h1 with h1 | h1
   ·exact h1
   ·rcases List.mem_cons.1 h2 with h2 | h2
    ·exact h2.symm
    ·have:=hb.1 x h1;have:=ha.1 y h2
     omega
  subst e
  congr 1
  refine sorted_unique ha.2 hb.2 fun z => ?_;have hz:=h z;simp only [List.mem_cons] at hz
  constructor
  ·intro hm
   rcases hz.1 (.inr hm) with e | e
   ·subst e; have:=ha.1 z hm; omega
   ·exact e
  ·intro hm
   rcases hz.2 (.inr hm) with e | e
   ·subst e; have:=hb.1 z hm; omega
   ·exact e
theorem rowQ_eq {W:Nat} {f:Nat→Bool} {l:List Nat} (hs:l.Pairwise (· < ·)) (h:∀ x,x∈l↔x<W∧f x=true):l=rowQ W f :=
 sorted_unique hs (rowQ_sorted W f) (fun x=>(h x).trans rowQ_mem.symm)
inductive PlR:Qry→Prop
 | word {k:Int} {ws:List Str} {n:Int} {xs:List Qry} (hk:k=2∨k=3) (h0:1≤ws.length) (h1:ws.length≤10):PlR (.mk k ws n xs)
 | near {k:Int} {ws:List Str} {n:Int} {a b:Qry} (hk:k=4∨k=5) (h0:0≤n) (h1:n≤20) (ha:PlR a) (hb:PlR b):PlR (.mk k ws n [a,b])
 | any {ws:List Str} {n:Int} {xs:List Qry} (hs:∀ a∈xs,PlR a):PlR (.mk 7 ws n xs)
theorem fstE_all {l:List Int} (h:fstE l=0):∀ x∈l,x=0:=by
 induction l with
 | nil=>intro x hx; cases hx
 | cons e l ih =>
  unfold fstE at h
  by_cases he:e=0
  ·rw [if_neg (not_not_intro he)] at h;intro x hx
   rcases List.mem_cons.1 hx with rfl | hx
   ·exact he
   ·exact ih h x hx
  ·rw [if_pos he] at h;exact absurd h he
theorem flt_parts {M:Nat} {must:Bool} {k n:Int} {ws:List Str} {xs:List Qry} (h:fltQ M must (.mk k ws n xs)=0):headE M must k ws n xs.length=0∧∀ a∈xs,fltQ M (mustQ must k) a=0:=by
 rw [fltQ] at h
 by_cases h0:headE M must k ws n xs.length=0
 ·rw [if_neg (not_not_intro h0)] at h;exact ⟨h0,fun a ha=>fstE_all h _ (List.mem_map.2 ⟨a,ha,rfl⟩)⟩
 ·rw [if_pos h0] at h;exact absurd h h0
theorem head_parts {M:Nat} {must:Bool} {k n:Int} {ws:List Str} {na:Nat} (h:headE M must k ws n na=0):(1≤k∧k≤13)∧(must=true→byWK k=true)∧formB M k ws.length n na=true∧ws.any (wordBad k)=false∧numE k n=0:=by
 unfold headE at h
 by_cases h1:1≤k∧k≤13
 ·rw [if_neg (not_not_intro h1)] at h
  by_cases h2:must=true∧byWK k=false
  ·rw [if_pos h2] at h; cases h
  ·rw [if_neg h2] at h
   cases h3:formB M k ws.length n na with
   | false=>rw [if_pos h3] at h; cases h
   | true =>
    rw [if_neg (by rw [h3]; simp)] at h
    cases h4:ws.any (wordBad k) with
    | true=>rw [if_pos h4] at h; cases h
    | false =>
     rw [if_neg (by rw [h4]; simp)] at h;refine ⟨h1,fun hm => ?_,rfl,rfl,h⟩
     cases hb:byWK k with
     | true=>rfl
     | false=>exact absurd ⟨hm,hb⟩ h2
 ·rw [if_pos h1] at h; cases h
theorem form_word {M:Nat} {k n:Int} {nw na:Nat} (h:formB M k nw n na=true) (hk:k=2∨k=3):1≤nw∧nw≤10:=by
 unfold formB at h;simp only [Bool.and_eq_true,decide_eq_true_eq] at h
 rcases hk with rfl | rfl <;> simp [useQ] at h <;> omega
theorem form_near {M:Nat} {k n:Int} {nw na:Nat} (h:formB M k nw n na=true) (hk:k=4∨k=5):na=2:=by
 unfold formB at h;simp only [Bool.and_eq_true,decide_eq_true_eq] at h
 rcases hk with rfl | rfl <;> simp [useQ] at h <;> omega
theorem num_near {k n:Int} (h:numE k n=0) (hk:k=4∨k=5):0≤n∧n≤20:=by
 unfold numE at h
 have hn:nearK k=true:=by rcases hk with rfl | rfl <;> rfl
 by_cases h1:0≤n∧n≤20
 ·exact h1
 ·rw [if_pos (.inl ⟨hn,h1⟩)] at h; cases h
theorem plR_of:∀ (q:Qry) (M:Nat) (must:Bool),fltQ M must q=0→byWK q.kind=true→(must=true∨q.kind≠7)→PlR q:=by
 refine Qry.ind fun k ws n xs ih => ?_;intro M must h hb hm;obtain ⟨h0,h1⟩:=flt_parts h;obtain ⟨h2,h3,h4,h5,h6⟩:=head_parts h0;have hb':byWK k=true:=hb
 have hk:k=2∨k=3∨(k=4∨k=5)∨k=7:=by
  unfold byWK nearK at hb';simp only [Bool.or_eq_true,decide_eq_true_eq] at hb';exact hb'
 have hrec:∀ a∈xs,mustQ must k=true→PlR a:=by
  intro a ha hmk;have h7:=h1 a ha;rw [hmk] at h7;refine ih a ha M true h7 ?_ (.inl rfl);obtain ⟨k',ws',n',xs'⟩:=a;exact (head_parts (flt_parts h7).1).2.1 rfl
 rcases hk with hk | hk | hk | hk
 ·obtain ⟨a,b⟩:=form_word h4 (.inl hk);exact .word (.inl hk) a b
 ·obtain ⟨a,b⟩:=form_word h4 (.inr hk);exact .word (.inr hk) a b
 ·have hl:=form_near h4 hk;obtain ⟨a,b⟩:=num_near h6 hk
  have hmk:mustQ must k=true:=by rcases hk with rfl | rfl <;> rfl
  match xs,hl,hrec with
  | [x,y],_,hrec=>exact .near hk a b (hrec x (by simp) hmk) (hrec y (by simp) hmk)
 ·subst hk
  have hmt:must=true:=by
   rcases hm with hm | hm
   ·exact hm
   ·exact absurd rfl hm
  subst hmt;exact .any fun a ha=>hrec a ha rfl
theorem fltQ_0 {q:Qry} {f:Bool} (h:(if f=true then fltQ 100 false q else 2)=0):fltQ 100 false q=0:=by
 cases f
 ·cases h
 ·exact h
theorem plc_le {ws:List Str}:∀ (q:Qry),PlR q→∀ i j,plcQ ws q i j=true→i≤j∧j<ws.length:=by
 refine Qry.ind (fun k pats n xs ih h i j hp => ?_);rw [plcQ] at hp
 have hcut:∀ (A B:Nat→Nat→Bool),(∀ i j,A i j=true→i≤j∧j<ws.length)→(∀ i j,B i j=true→i≤j∧j<ws.length)→cutB A B n ws.length i j=true→i≤j∧j<ws.length:=by
  intro A B hA hB hc;simp only [cutB,List.any_eq_true,List.mem_range,Bool.and_eq_true,decide_eq_true_eq] at hc;obtain ⟨m,-,hm,k,-,h1,-,hk⟩:=hc;have:=hA _ _ hm;have:=hB _ _ hk
  omega
 cases h with
 | word hk h0 h1 =>
  unfold plcK at hp;rw [if_neg (by rcases hk with rfl | rfl <;> decide),if_neg (by rcases hk with rfl | rfl <;> decide),if_neg (by rcases hk with rfl | rfl <;> decide)] at hp;simp only [phrB,Bool.and_eq_true,decide_eq_true_eq] at hp
  omega
 | near hk h0 h1 ha hb =>
  have hA:=ih _ (by simp) ha;have hB:=ih _ (by simp) hb
  rcases hk with rfl | rfl
  ·unfold plcK at hp;rw [if_neg (by decide),if_pos rfl] at hp
   rcases (Bool.or_eq_true _ _).mp hp with hp | hp
   ·exact hcut _ _ hA hB hp
   ·exact hcut _ _ hB hA hp
  ·unfold plcK at hp;rw [if_pos rfl] at hp;exact hcut _ _ hA hB hp
 | any hs =>
  unfold plcK at hp;rw [if_neg (by decide),if_neg (by decide),if_pos rfl] at hp;simp only [List.any_map,List.any_eq_true,Function.comp] at hp;obtain ⟨a,ha,hp⟩:=hp;exact ih a ha (hs a ha) i j hp
def kNum (n:Int) (j m:Nat):Nat:=min j (m+1+n.toNat) - m
def cutK (B:Nat→Nat→Bool) (j m t:Nat):List (Nat × Nat):=((List.range t).filter fun s=>B (m+1+s) j).map fun s=>(m,m+1+s)
def cutM (A B:Nat→Nat→Bool) (n:Int) (i j t:Nat):List (Nat × Nat):=(List.range t).flatMap fun s=>if A i (i+s)=true then cutK B j (i+s) (kNum n j (i+s)) else []
def cutL (A B:Nat→Nat→Bool) (n:Int) (i j:Nat):List (Nat × Nat):=cutM A B n i j (j - i)
theorem cutK_zero (B:Nat→Nat→Bool) (j m:Nat):cutK B j m 0=[]:=rfl
theorem cutK_succ (B:Nat→Nat→Bool) (j m t:Nat):cutK B j m (t+1)=cutK B j m t ++ (if B (m+1+t) j=true then [(m,m+1+t)] else []):=by
 unfold cutK;rw [List.range_succ,List.filter_append,List.map_append]
 by_cases h:B (m+1+t) j=true
 ·rw [if_pos h,List.filter_cons_of_pos (by simpa using h)]; rfl
 ·rw [if_neg h,List.filter_cons_of_neg (by simpa using h)]; rfl
theorem cutM_succ (A B:Nat→Nat→Bool) (n:Int) (i j t:Nat):cutM A B n i j (t+1)=cutM A B n i j t ++ (if A i (i+t)=true then cutK B j (i+t) (kNum n j (i+t)) else []):=by
 unfold cutM;rw [List.range_succ,List.flatMap_append,List.flatMap_singleton]
theorem cutK_len (B:Nat→Nat→Bool) (j m t:Nat):(cutK B j m t).length≤t:=by
 unfold cutK;rw [List.length_map];exact Nat.le_trans (List.length_filter_le _ _) (by simp)
theorem cutM_len (A B:Nat→Nat→Bool) (n:Int) (i j:Nat):∀ t,(cutM A B n i j t).length≤t*(n.toNat+1)
 | 0=>Nat.zero_le _
 | t+1=>by
  rw [cutM_succ,List.length_append,Nat.succ_mul];have h1:=cutM_len A B n i j t
  have h2:(if A i (i+t)=true then cutK B j (i+t) (kNum n j (i+t)) else []).length≤n.toNat+1:=by
   split
   ·refine Nat.le_trans (cutK_len _ _ _ _) ?_;unfold kNum
    omega
   ·exact Nat.zero_le _
  omega
theorem mem_cutL {A B:Nat→Nat→Bool} {n:Int} {i j m k:Nat} (hn:0≤n):(m,k)∈cutL A B n i j↔i≤m∧m<j∧A i m=true∧m+1≤k∧k≤j∧(k:Int)≤(m:Int)+1+n∧B k j=true:=by
 unfold cutL cutM;rw [List.mem_flatMap]
 constructor
 ·rintro ⟨s,hs,hm⟩;rw [List.mem_range] at hs
  split at hm
  ·rename_i ha
   unfold cutK at hm;rw [List.mem_map] at hm;obtain ⟨t,ht,he⟩:=hm;rw [List.mem_filter,List.mem_range] at ht
   cases he
   unfold kNum at ht;exact ⟨by omega,by omega,ha,by omega,by omega,by omega,ht.2⟩
  ·cases hm
 ·rintro ⟨h1,h2,ha,h3,h4,h5,hb⟩;refine ⟨m - i,List.mem_range.2 (by omega),?_⟩;rw [show i+(m - i)=m by omega,if_pos ha];unfold cutK;refine List.mem_map.2 ⟨k - (m+1),List.mem_filter.2 ⟨List.mem_range.2 ?_,?_⟩,?_⟩
  ·unfold kNum; omega
  ·rw [show m+1+(k - (m+1))=k by omega]; exact hb
  ·rw [show m+1+(k - (m+1))=k by omega]
theorem cutB_cuts {A B:Nat→Nat→Bool} {n:Int} {W i j:Nat} (hn:0≤n) (hj:j<W) (hA:∀ i j,A i j=true→i≤j∧j<W) (hB:∀ i j,B i j=true→i≤j∧j<W):cutB A B n W i j=decide (0<(cutL A B n i j).length):=by
 rw [Bool.eq_iff_iff,decide_eq_true_eq,List.length_pos_iff_exists_mem];simp only [cutB,List.any_eq_true,List.mem_range,Bool.and_eq_true,decide_eq_true_eq]
 constructor
 ·rintro ⟨m,hm,ha,k,hk,h1,h2,hb⟩;have:=hA _ _ ha;have:=hB _ _ hb;exact ⟨(m,k),(mem_cutL hn).2 ⟨by omega,by omega,ha,h1,by omega,h2,hb⟩⟩
 ·rintro ⟨⟨m,k⟩,h⟩;obtain ⟨h1,h2,ha,h3,h4,h5,hb⟩:=(mem_cutL hn).1 h;exact ⟨m,by omega,ha,k,by omega,h3,h5,hb⟩
def phrT (ws pats:List Str) (i t:Nat):Bool:=(List.range t).all fun t=>fitsB (pats.getD t []) (ws.getD (i+t) [])
theorem phrT_succ (ws pats:List Str) (i t:Nat):phrT ws pats i (t+1)=(phrT ws pats i t && fitsB (pats.getD t []) (ws.getD (i+t) [])):=by
 unfold phrT;rw [List.range_succ,List.all_append];simp
theorem phrT_all {ws pats:List Str} {i j:Nat} (hj:j<ws.length):phrB ws pats i j=(decide (j+1=i+pats.length) && phrT ws pats i pats.length):=by
 unfold phrB phrT;rw [decide_eq_true hj,Bool.true_and]
theorem phrT_false {ws pats:List Str} {i t:Nat} (ht:t<pats.length) (h:fitsB (pats.getD t []) (ws.getD (i+t) [])=false):phrT ws pats i pats.length=false:=by
 unfold phrT;rw [List.all_eq_false];exact ⟨t,List.mem_range.2 ht,by simpa using h⟩
end Go.Proofs.YtnfflgicngeekaaGreatDoor
