/- Texts of the proof of QuerySearches, put together: Reg. -/
import Derived.Test.YtnfflgicngeekaaGreatDoorRows
import Derived.WalkKit
import Derived.RegionTactic
set_option linter.unusedVariables false
set_option linter.unusedSimpArgs false
namespace Go.Proofs.YtnfflgicngeekaaGreatDoor
open Go.RowKit
def upd {α:Type} (f:Nat→α) (i:Nat) (x:α):Nat→α:=fun k=>if k=i then x else f k
theorem upd_same {α:Type} (f:Nat→α) (i:Nat) (x:α):upd f i x i=x:=if_pos rfl
theorem upd_ne {α:Type} (f:Nat→α) {i k:Nat} (x:α) (h:k≠i):upd f i x k=f k:=if_neg h
def srcOf (ops:Array Oper) (t:Nat):Option Nat:=(List.range ops.size).find? fun i=>((ops[i]?).bind (·.dst)) == some t
def predB (o:Oper) (j:Nat):Bool:=o.after.any fun e=>Region.binds .any e && e.on == j
def regOkAt (n:Nat) (ops:Array Oper) (i:Nat) (o:Oper):Bool :=
 (o.after.all fun e => !Region.binds .any e || decide (e.on<i)) && (match o.dst with | none=>true | some d=>decide (d<n) && srcOf ops d == some i)
def regOk (n:Nat) (ops:Array Oper):Bool:=(List.range ops.size).all fun i=>match ops[i]? with
 | none=>true
 | some o=>regOkAt n ops i o
structure FrameIs (a0:Act) (ops:Array Oper) (D:Nat→Bool) (V:Nat→Value) (a:Act):Prop where
 defers:a.defers=a0.defers
 size:a.tmps.size=a0.tmps.size
 at_:∀ t,t<a0.tmps.size→a.tmps[t]? = match srcOf ops t with | some j=>if D j=true then some (V j) else a0.tmps[t]? | none=>a0.tmps[t]?
section
variable {a0 a:Act} {ops:Array Oper} {D:Nat→Bool} {V:Nat→Value} {n:Nat}
theorem regOk_at (h:regOk n ops=true) {i:Nat} {o:Oper} (ho:ops[i]? = some o):regOkAt n ops i o=true:=by
 have hi:i<ops.size:=by
  rcases Nat.lt_or_ge i ops.size with hlt | hge
  ·exact hlt
  ·rw [Array.getElem?_eq_none hge] at ho; cases ho
 have:=List.all_eq_true.1 h i (List.mem_range.2 hi);rw [ho] at this;exact this
theorem regOk_pred (h:regOk n ops=true) {i j:Nat} {o:Oper} (ho:ops[i]? = some o) (hp:predB o j=true):j<i:=by
 have h1:=regOk_at h ho;unfold regOkAt at h1;rw [Bool.and_eq_true] at h1;unfold predB at hp;rw [Array.any_eq_true'] at hp;obtain ⟨e,he,hp⟩:=hp;rw [Bool.and_eq_true] at hp;have h2:=(Array.all_eq_true'.1 h1.1) e he;rw [hp.1] at h2;simp at h2;have h3:e.on=j:=(by simpa using hp.2)
 omega
theorem regOk_dst (h:regOk n ops=true) {i d:Nat} {o:Oper} (ho:ops[i]? = some o) (hd:o.dst=some d):d<n∧srcOf ops d=some i:=by
 have h1:=regOk_at h ho;unfold regOkAt at h1;rw [Bool.and_eq_true,hd] at h1
 simpa using h1.2
theorem srcOf_some {t j:Nat} (h:srcOf ops t=some j):∃ o,ops[j]? = some o∧o.dst=some t:=by
 unfold srcOf at h;have:=List.find?_some h
 cases ho:ops[j]? with
 | none=>rw [ho] at this; simp at this
 | some o=>rw [ho] at this; exact ⟨o,rfl,by simpa using this⟩
theorem FrameIs.start:FrameIs a0 ops (fun _=>false) V a0:=⟨rfl,rfl,fun t _=>by cases srcOf ops t <;> rfl⟩
theorem FrameIs.step (hok:regOk a0.tmps.size ops=true) (h:FrameIs a0 ops D V a) {i:Nat} {o:Oper} (ho:ops[i]? = some o) (v:Value) :
  FrameIs a0 ops (upd D i true) (upd V i v) (a.put o.dst v):=by
 cases hd:o.dst with
 | none =>
  refine ⟨h.defers,h.size,fun t ht => ?_⟩
  show a.tmps[t]? = _
  rw [h.at_ t ht]
  cases hs:srcOf ops t with
  | none=>rfl
  | some j =>
   obtain ⟨o',ho',hd'⟩:=srcOf_some hs
   have hne:j≠i:=by
    rintro rfl;rw [ho] at ho'
    injection ho' with ho'
    subst ho';rw [hd] at hd'
    cases hd'
   show (if D j=true then _ else _)=(if upd D i true j=true then _ else _)
   rw [upd_ne _ _ hne,upd_ne _ _ hne]
 | some d =>
  obtain ⟨hlt,hsrc⟩:=regOk_dst hok ho hd;refine ⟨h.defers,?_,fun t ht => ?_⟩
  ·show (a.tmps.setIfInBounds d v).size=_
   rw [Array.size_setIfInBounds,h.size]
  ·show (a.tmps.setIfInBounds d v)[t]? = _
   by_cases e:t=d
   ·subst e;rw [hsrc]
    show _=(if upd D i true i=true then some (upd V i v i) else _)
    rw [upd_same,upd_same,if_pos rfl,Array.getElem?_setIfInBounds_self_of_lt (by rw [h.size]; exact hlt)]
   ·rw [Array.getElem?_setIfInBounds_ne (fun x=>e x.symm),h.at_ t ht]
    cases hs:srcOf ops t with
    | none=>rfl
    | some j =>
     obtain ⟨o',ho',hd'⟩:=srcOf_some hs
     have hne:j≠i:=by
      rintro rfl;rw [ho] at ho'
      injection ho' with ho'
      subst ho';rw [hd] at hd'
      injection hd' with hd'
      exact e hd'.symm
     show (if D j=true then _ else _)=(if upd D i true j=true then _ else _)
     rw [upd_ne _ _ hne,upd_ne _ _ hne]
theorem FrameIs.done (h:FrameIs a0 ops D V a) {t j:Nat} (hs:srcOf ops t=some j) (hok:regOk a0.tmps.size ops=true) (hD:D j=true):a.tmps[t]? = some (V j):=by
 obtain ⟨o,ho,hd⟩:=srcOf_some hs;rw [h.at_ t (regOk_dst hok ho hd).1,hs]
 show (if D j=true then _ else _)=_
 rw [if_pos hD]
theorem FrameIs.other (h:FrameIs a0 ops D V a) {t:Nat} {v:Value} (hs:srcOf ops t=none) (hv:a0.tmps[t]? = some v):a.tmps[t]? = some v:=by
 have ht:t<a0.tmps.size:=by
  rcases Nat.lt_or_ge t a0.tmps.size with hlt | hge
  ·exact hlt
  ·rw [Array.getElem?_eq_none hge] at hv; cases hv
 rw [h.at_ t ht,hs];exact hv
theorem FrameIs.undone (h:FrameIs a0 ops D V a) {t j:Nat} {v:Value} (hs:srcOf ops t=some j) (hD:D j=false) (hv:a0.tmps[t]? = some v):a.tmps[t]? = some v:=by
 have ht:t<a0.tmps.size:=by
  rcases Nat.lt_or_ge t a0.tmps.size with hlt | hge
  ·exact hlt
  ·rw [Array.getElem?_eq_none hge] at hv; cases hv
 rw [h.at_ t ht,hs]
 show (if D j=true then _ else _)=_
 rw [hD,if_neg (by decide)];exact hv
theorem FrameIs.unique {D':Nat→Bool} {a':Act} (h:FrameIs a0 ops D V a) (h':FrameIs a0 ops D' V a') (hD:∀ k,k<ops.size→D k=true) (hD':∀ k,k<ops.size→D' k=true):a=a':=by
 obtain ⟨ts,ds⟩:=a;obtain ⟨ts',ds'⟩:=a';have h1:ds=ds':=h.defers.trans h'.defers.symm
 have h2:ts=ts':=by
  apply Array.ext_getElem?
  intro t
  by_cases ht:t<a0.tmps.size
  ·have e1:=h.at_ t ht;have e2:=h'.at_ t ht;simp only at e1 e2;rw [e1,e2]
   cases hs:srcOf ops t with
   | none=>rfl
   | some j =>
    obtain ⟨o,ho,_⟩:=srcOf_some hs
    have hj:j<ops.size:=by
     rcases Nat.lt_or_ge j ops.size with hlt | hge
     ·exact hlt
     ·rw [Array.getElem?_eq_none hge] at ho; cases ho
    show (if D j=true then _ else _)=(if D' j=true then _ else _)
    rw [if_pos (hD j hj),if_pos (hD' j hj)]
  ·rw [Array.getElem?_eq_none (by have:=h.size; simp only at this; omega),Array.getElem?_eq_none (by have:=h'.size; simp only at this; omega)]
 rw [h1,h2]
end
def frAll (a:Act) (V:Nat→Value):List Oper→Nat→Act
 | [],_=>a
 | o :: l,i=>frAll (a.put o.dst (V i)) V l (i+1)
theorem upd_eta (V:Nat→Value) (i:Nat):upd V i (V i)=V:=funext fun k=>by
 unfold upd
 split
 ·rename_i h; rw [h]
 ·rfl
theorem frAll_is {a0:Act} {ops:Array Oper} {V:Nat→Value} (hok:regOk a0.tmps.size ops=true):∀ (l:List Oper) (k:Nat) (D:Nat→Bool) (a:Act),(∀ i,l[i]? = ops[k+i]?)→FrameIs a0 ops D V a→(∀ i,i<k→D i=true) →
  ∃ D',FrameIs a0 ops D' V (frAll a V l k)∧∀ i,i<k+l.length→D' i=true
 | [],k,D,a,_,h,hD=>⟨D,h,fun i hi=>hD i (by simpa using hi)⟩
 | o :: l,k,D,a,hl,h,hD=>by
  have ho:ops[k]? = some o:=by simpa using (hl 0).symm
  have h1:=h.step hok ho (V k);rw [upd_eta] at h1
  obtain ⟨D',h2,h3⟩:=frAll_is hok l (k+1) (upd D k true) (a.put o.dst (V k)) (fun i=>by
   have:=hl (i+1)
   simpa [Nat.add_assoc,Nat.add_comm 1 i] using this) h1 (fun i hi=>by
   by_cases e:i=k
   ·subst e; exact upd_same _ _ _
   ·rw [upd_ne _ _ e]; exact hD i (by omega))
  exact ⟨D',h2,fun i hi=>h3 i (by simp at hi; omega)⟩
structure RegAt (a0:Act) (ops:Array Oper) (D:Nat→Bool) (V:Nat→Value) (a:Act) (i:Nat) (o:Oper):Prop where
 ok:regOk a0.tmps.size ops=true
 frame:FrameIs a0 ops D V a
 not:D i=false
 pred:∀ j,predB o j=true→D j=true
 closed:∀ k o' j,ops[k]? = some o'→predB o' j=true→D k=true→D j=true
 lt:∀ k,D k=true→k<ops.size
theorem RegAt.later {a0:Act} {ops:Array Oper} {D:Nat→Bool} {V:Nat→Value} {a:Act} {i:Nat} {o:Oper} (h:RegAt a0 ops D V a i o) (k:Nat) {o':Oper} (ho:ops[k]? = some o') (hp:predB o' i=true):D k=false:=by
 cases hs:D k with
 | false=>rfl
 | true =>
  have:=h.closed k o' i ho hp hs;rw [h.not] at this
  cases this
def StepOk (P:Program) (ops:Array Oper) (Q:Exit→Act→World→Prop) (a0:Act) (Inv:(Nat→Bool)→(Nat→Value)→World→Prop) (i:Nat) (o:Oper):Prop :=
 ∀ (D:Nat→Bool) (V:Nat→Value) (w:World) (a:Act),RegAt a0 ops D V a i o→Inv D V w→∀ K:Act→World→Prop,(∀ v w',Inv (upd D i true) (upd V i v) w'→K (a.put o.dst v) w') →
  if Region.wanted o (yielded ops a.tmps)=true then o.wp P a w K Q else K (a.put o.dst undef) w
inductive AllS (S:Nat→Oper→Prop):Nat→List Oper→Prop where
 | nil {k:Nat}:AllS S k []
 | cons {k:Nat} {o:Oper} {l:List Oper}:S k o→AllS S (k+1) l→AllS S k (o :: l)
theorem AllS.get {S:Nat→Oper→Prop} {l:List Oper} {k:Nat} (h:AllS S k l):∀ {i:Nat} {o:Oper},l[i]? = some o→S (k+i) o:=by
 induction h with
 | nil=>intro i o hi; simp at hi
 | cons h1 _ ih =>
  intro i o hi
  cases i with
  | zero=>simp at hi; subst hi; exact h1
  | succ i =>
   have:=ih (i:=i) (by simpa using hi)
   rwa [Nat.add_assoc,Nat.add_comm 1 i] at this
theorem filter_le {p q:Nat→Bool} (h:∀ x,q x=true→p x=true):∀ l:List Nat,(l.filter q).length≤(l.filter p).length
 | []=>by simp
 | y :: l=>by
  have ih:=filter_le h l
  by_cases e:q y=true
  ·rw [List.filter_cons_of_pos e,List.filter_cons_of_pos (h y e)]; simpa using ih
  ·rw [List.filter_cons_of_neg e]
   by_cases e2:p y=true
   ·rw [List.filter_cons_of_pos e2,List.length_cons]; omega
   ·rw [List.filter_cons_of_neg e2]; exact ih
theorem filter_lt {p q:Nat→Bool} (h:∀ x,q x=true→p x=true) {i:Nat} (hp:p i=true) (hq:q i=false):∀ {l:List Nat},i∈l→(l.filter q).length<(l.filter p).length
 | x :: l,hi=>by
  by_cases e:x=i
  ·subst e;have:=filter_le h l;rw [List.filter_cons_of_pos hp,List.filter_cons_of_neg (by simp [hq]),List.length_cons]
   omega
  ·have hi':i∈l:=by
    rcases List.mem_cons.1 hi with h1 | h1
    ·exact absurd h1.symm e
    ·exact h1
   have ih:=filter_lt h hp hq hi'
   by_cases e1:q x=true
   ·rw [List.filter_cons_of_pos e1,List.filter_cons_of_pos (h x e1)]; simpa using ih
   ·rw [List.filter_cons_of_neg e1]
    by_cases e2:p x=true
    ·rw [List.filter_cons_of_pos e2,List.length_cons]; omega
    ·rw [List.filter_cons_of_neg e2]; exact ih
section
variable {P:Program} {ops:Array Oper} {Q:Exit→Act→World→Prop} {a0:Act} {Inv:(Nat→Bool)→(Nat→Value)→World→Prop}
theorem mem_ready {listed:Array Bool} {i:Nat} {o:Oper} (ho:ops[i]? = some o):i∈Region.ready .any ops listed↔listed.getD i true=false∧∀ e∈o.after,Region.binds .any e=true→listed.getD e.on false=true:=by
 have hi:i<ops.size:=by
  rcases Nat.lt_or_ge i ops.size with hlt | hge
  ·exact hlt
  ·rw [Array.getElem?_eq_none hge] at ho; cases ho
 unfold Region.ready;rw [List.mem_filter,ho];simp only [List.mem_range,hi,true_and,Option.map_some,Option.getD_some,Bool.and_eq_true,Bool.not_eq_true'];refine and_congr Iff.rfl ?_;rw [Array.all_eq_true']
 constructor
 ·intro h e he hb;have:=h e he;rw [hb] at this
  simpa using this
 ·intro h e he
  by_cases hb:Region.binds .any e=true
  ·simp [hb,h e he hb]
  ·simp [hb]
theorem wpAny_inv (hok:regOk a0.tmps.size ops=true) (hs:∀ i o,ops[i]? = some o→StepOk P ops Q a0 Inv i o)
  (he:∀ D V w a,(∀ k,k<ops.size→D k=true)→FrameIs a0 ops D V a→Inv D V w→Q .normal a w) :
  ∀ (fuel:Nat) (listed:Array Bool) (D:Nat→Bool) (V:Nat→Value) (a:Act) (w:World),listed.size=ops.size→(∀ k,k<ops.size→listed[k]? = some (D k)) →
   (∀ k o j,ops[k]? = some o→predB o j=true→D k=true→D j=true)→(∀ k,D k=true→k<ops.size)→((List.range ops.size).filter fun i => !D i).length≤fuel→FrameIs a0 ops D V a→Inv D V w→wpAny P .any ops Q fuel listed a w:=by
 intro fuel
 induction fuel with
 | zero =>
  intro listed D V a w hz hl hc hlt hf hfr hI
  have hall:∀ k,k<ops.size→D k=true:=by
   intro k hk;have h0:((List.range ops.size).filter fun i => !D i)=[]:=List.eq_nil_of_length_eq_zero (by omega);have:=List.filter_eq_nil_iff.1 h0 k (List.mem_range.2 hk)
   simpa using this
  refine ⟨?_,he D V w a hall hfr hI⟩;unfold Region.ready;rw [List.filter_eq_nil_iff];intro k hk;have hk:=List.mem_range.1 hk;have:=hl k hk;rw [hall k hk] at this;simp [this]
 | succ fuel ih =>
  intro listed D V a w hz hl hc hlt hf hfr hI
  have hgetT:∀ k,k<ops.size→listed.getD k true=D k:=fun k hk=>by simp [hl k hk]
  have hgetF:∀ k,k<ops.size→listed.getD k false=D k:=fun k hk=>by simp [hl k hk]
  refine ⟨fun hr => ?_,fun i hi => ?_⟩
  ·have hall:∀ k,k<ops.size→D k=true:=by
    intro k
    induction k using Nat.strongRecOn with
    | _ k ihk =>
     intro hk
     cases hD:D k with
     | true=>rfl
     | false =>
      exfalso
      have ho:ops[k]? = some ops[k]:=Array.getElem?_eq_getElem hk
      have:k∈Region.ready .any ops listed:=(mem_ready ho).2 ⟨by rw [hgetT k hk,hD],fun e hee hb=>by
       have hlt:e.on<k:=regOk_pred hok ho (by unfold predB; rw [Array.any_eq_true']; exact ⟨e,hee,by simp [hb]⟩);rw [hgetF _ (by omega)]
       exact ihk e.on hlt (by omega)⟩
      rw [hr] at this
      cases this
   exact he D V w a hall hfr hI
  ·have hi0:i<ops.size:=by
    unfold Region.ready at hi;exact List.mem_range.1 (List.mem_filter.1 hi).1
   have ho:ops[i]? = some ops[i]:=Array.getElem?_eq_getElem hi0;obtain ⟨h1,h2⟩:=(mem_ready ho).1 hi;rw [hgetT i hi0] at h1
   have hp:∀ j,predB ops[i] j=true→D j=true:=by
    intro j hj;have hlt:=regOk_pred hok ho hj;unfold predB at hj;rw [Array.any_eq_true'] at hj;obtain ⟨e,hee,hj⟩:=hj;rw [Bool.and_eq_true] at hj;have hje:e.on=j:=(by simpa using hj.2);have:=h2 e hee hj.1;rw [hgetF _ (by omega),hje] at this;exact this
   refine wpOp_step ho fun K' hK' => ?_;refine hs i _ ho D V w a ⟨hok,hfr,h1,hp,hc,hlt⟩ hI K' fun v w' hI'=>hK' _ _ ?_;refine ih _ (upd D i true) (upd V i v) _ w' (by simpa using hz) (fun k hk => ?_) (fun k o j hk hj hD => ?_) (fun k hD => ?_) ?_ (hfr.step hok ho v) hI'
   ·by_cases e:k=i
    ·subst e;rw [upd_same,Array.getElem?_setIfInBounds_self_of_lt (by omega)]
    ·rw [upd_ne _ _ e,Array.getElem?_setIfInBounds_ne (fun x=>e x.symm),hl k hk]
   ·by_cases e:j=i
    ·subst e; exact upd_same _ _ _
    ·rw [upd_ne _ _ e]
     by_cases e2:k=i
     ·subst e2;rw [ho] at hk
      injection hk with hk
      exact hp j (by rw [hk]; exact hj)
     ·rw [upd_ne _ _ e2] at hD;exact hc k o j hk hj hD
   ·by_cases e:k=i
    ·omega
    ·rw [upd_ne _ _ e] at hD;exact hlt k hD
   ·have:=filter_lt (p:=fun k => !D k) (q:=fun k => !(upd D i true k)) (l:=List.range ops.size) (fun x hx=>by
     by_cases e:x=i
     ·subst e; rw [upd_same] at hx; simp at hx
     ·rw [upd_ne _ _ e] at hx; exact hx) (i:=i) (by simp [h1]) (by simp [upd_same]) (List.mem_range.2 hi0)
    omega
end
theorem wp_region_inv {P:Program} {id:Nat} {l:List Oper} {Q:Exit→Act→World→Prop} {a0:Act} {w0:World} (hm:P.follows .mixedOrders=true) (hok:regOk a0.tmps.size l.toArray=true)
  (Inv:(Nat→Bool)→(Nat→Value)→World→Prop) (h0:Inv (fun _=>false) (fun _=>undef) w0.drew) (hs:AllS (StepOk P l.toArray Q a0 Inv) 0 l)
  (he:∀ D V w,(∀ k,k<l.length→D k=true)→Inv D V w→Q .normal (frAll a0 V l 0) w):(Code.region id l.toArray true).wp P Q a0 w0:=by
 refine wp_region_any hm ?_;refine wpAny_inv (Inv:=Inv) hok (fun i o ho => ?_) (fun D V w a hD hf hI => ?_) _ _ (fun _=>false) (fun _=>undef) a0 _ (by simp) (fun k hk => ?_) (fun k o j _ _ h=>by cases h) (fun k h=>by cases h) ?_ .start h0
 ·have:=hs.get (i:=i) (o:=o) (by simpa using ho)
  rwa [Nat.zero_add] at this
 ·obtain ⟨D',h1,h2⟩:=frAll_is (V:=V) hok l 0 (fun _=>false) a0 (fun i=>by simp) .start (fun i hi=>absurd hi (by omega));rw [hf.unique h1 hD (fun k hk=>h2 k (by simpa using hk))];exact he D V w (by simpa using hD) hI
 ·simp at hk;rw [Array.getElem?_replicate,if_pos (by simpa using hk)]
 ·have:=List.length_filter_le (fun i => !(fun _:Nat=>false) i) (List.range l.toArray.size)
  simpa using this
structure Fact (R:World→World→Prop) where
 p:Value→World→Prop
 stab:∀ v w w',p v w→R w w'→p v w'
 ref:Option Nat
 kill:Option Nat
section
variable {R:World→World→Prop}
def Fact.any:Fact R:=⟨fun _ _=>True,fun _ _ _ _ _=>trivial,none,none⟩
def Fact.val (q:Value→Prop):Fact R:=⟨fun v _=>q v,fun _ _ _ h _=>h,none,none⟩
def Fact.is (u:Value):Fact R:=.val (· = u)
def Fact.int:Fact R:=.val (fun v=>∃ k:Int,v = .int .i64 k)
def Fact.bool:Fact R:=.val (fun v=>∃ k:Bool,v = .bool k)
def Fact.till (f:Fact R) (s:Nat):Fact R:={ f with kill:=some s }
def Fact.of (f:Fact R) (s:Nat):Fact R:={ f with ref:=some s }
def liveB (x:Option Nat) (D:Nat→Bool):Bool:=match x with | none=>true | some s => !D s
def factAt (Fs:List (Fact R)) (k:Nat):Fact R:=(Fs[k]?).getD .any
def InvF (Fs:List (Fact R)) (B:(Nat→Bool)→World→Prop):(Nat→Bool)→(Nat→Value)→World→Prop :=
 fun D V w=>B D w∧∀ k,D k=true→liveB (factAt Fs k).kill D=true→(factAt Fs k).p (V ((factAt Fs k).ref.getD k)) w
def refsOk (Fs:List (Fact R)) (ops:Array Oper):Bool:=(List.range ops.size).all fun k=>match (factAt Fs k).ref with
 | none=>true
 | some j=>((ops[k]?).map (predB · j)).getD false
theorem liveB_of {x:Option Nat} {D:Nat→Bool} {i:Nat} (h:liveB x (upd D i true)=true):liveB x D=true:=by
 cases x with
 | none=>rfl
 | some s =>
  unfold liveB at h ⊢
  by_cases e:s=i
  ·subst e; simp [upd_same] at h
  ·simpa [upd_ne _ _ e] using h
theorem InvF.start {Fs:List (Fact R)} {B:(Nat→Bool)→World→Prop} {w:World} {V:Nat→Value} (h:B (fun _=>false) w):InvF Fs B (fun _=>false) V w:=⟨h,fun _ hk=>by cases hk⟩
theorem InvF.next {Fs:List (Fact R)} {B:(Nat→Bool)→World→Prop} {a0 a:Act} {ops:Array Oper} {D:Nat→Bool} {V:Nat→Value} {w w':World} {i:Nat} {o:Oper} {v:Value}
  (hI:InvF Fs B D V w) (hR:RegAt a0 ops D V a i o) (hrefs:refsOk Fs ops=true) (hw:R w w') (hB:B (upd D i true) w') (hT:(factAt Fs i).p (upd V i v ((factAt Fs i).ref.getD i)) w'):InvF Fs B (upd D i true) (upd V i v) w':=by
 refine ⟨hB,fun k hk hl => ?_⟩
 by_cases e:k=i
 ·subst e; exact hT
 ·rw [upd_ne _ _ e] at hk
  have hne:(factAt Fs k).ref.getD k≠i:=by
   have hlt:=hR.lt k hk;have h1:=List.all_eq_true.1 hrefs k (List.mem_range.2 hlt);intro h2
   cases hr:(factAt Fs k).ref with
   | none=>rw [hr] at h2; exact e h2
   | some j =>
    rw [hr] at h2;simp only [Option.getD_some] at h2;subst h2;simp only [hr,Array.getElem?_eq_getElem hlt,Option.map_some,Option.getD_some] at h1;have:=hR.closed k _ j (Array.getElem?_eq_getElem hlt) h1 hk;rw [hR.not] at this
    cases this
  rw [upd_ne _ _ hne];exact (factAt Fs k).stab _ _ _ (hI.2 k hk (liveB_of hl)) hw
theorem InvF.last {Fs:List (Fact R)} {B:(Nat→Bool)→World→Prop} {D:Nat→Bool} {V:Nat→Value} {w':World} {i:Nat} {v:Value}
  (hB:B (upd D i true) w') (hT:(factAt Fs i).p (upd V i v ((factAt Fs i).ref.getD i)) w') (ho:∀ k,k≠i→D k=true→liveB (factAt Fs k).kill (upd D i true)=true→(factAt Fs k).p (upd V i v ((factAt Fs k).ref.getD k)) w'):InvF Fs B (upd D i true) (upd V i v) w':=by
 refine ⟨hB,fun k hk hl => ?_⟩
 by_cases e:k=i
 ·subst e; exact hT
 ·rw [upd_ne _ _ e] at hk;exact ho k e hk hl
end
end Go.Proofs.YtnfflgicngeekaaGreatDoor
