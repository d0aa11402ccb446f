/- Texts of the proof of QuerySearches, put together: Picks, Gen, Strs, QryP, SlS, ItmP, ItmB, QuoP, LeastP. -/
import Derived.Test.YtnfflgicngeekaaGreatDoorQuerySearchesZ8
import Derived.Deep.RegionHeld3
set_option linter.unusedVariables false
set_option linter.unusedSimpArgs false
set_option maxRecDepth 100000
set_option maxHeartbeats 400000
namespace Go.Proofs.YtnfflgicngeekaaGreatDoor
open Go.RowKit
def RangePost (w:World) (b N:Nat) (lo hi:Int) (e:Ending) (w':World):Prop :=
 ∃ k:Int,lo≤k∧k≤hi∧e = .returned (.int .i64 k)∧Strm w' b (N+1)∧Mod (· = b) w w'
theorem range_calls (w:World) (b N:Nat) (lo hi:Int) (hS:Strm w b N) (hN:N≤1000000000) (h1:lo≤hi) (h2 : -4611686018427387904≤lo) (h3:hi≤4611686018427387900) :
  Calls Tryz.prog 14 #[.pointer (some ⟨b,0,none⟩),.int .i64 lo,.int .i64 hi] w (RangePost w b N lo hi):=by
 go_enter Tryz.func14,Tryz.ntmps14
 go_wp2_with fail;refine (next_calls _ b N _ hS hN (by omega) (by omega)).mono ?_;rintro e w' ⟨k,hk0,hk1,rfl,hS',hM⟩;go_wp2_with fail;go_ret;exact ⟨_,by omega,by omega,rfl,hS',hM⟩
def FlipPost (w:World) (b N:Nat) (e:Ending) (w':World):Prop :=
 ∃ k:Bool,e = .returned (.bool k)∧Strm w' b (N+1)∧Mod (· = b) w w'
theorem flip_calls (w:World) (b N:Nat) (n:Int) (hS:Strm w b N) (hN:N≤1000000000) (hn:1≤n) (hn2:n≤9223372036854775807) :
  Calls Tryz.prog 31 #[.pointer (some ⟨b,0,none⟩),.int .i64 n] w (FlipPost w b N):=by
 go_enter Tryz.func31,Tryz.ntmps31
 go_wp2_with fail;refine (next_calls _ b N _ hS hN hn hn2).mono ?_;rintro e w' ⟨k,hk0,hk1,rfl,hS',hM⟩;go_wp2_with fail;go_ret;exact ⟨_,rfl,hS',hM⟩
def PickPost (w:World) (b N:Nat) (xs:List Int) (e:Ending) (w':World):Prop :=
 ∃ k:Int,k∈xs∧e = .returned (.int .i64 k)∧Strm w' b (N+1)∧Mod (· = b) w w'
def ints (xs:List Int):List Value:=xs.map (Value.int .i64)
theorem pick_calls (w:World) (b N g c:Nat) (xs:List Int) (hS:Strm w b N) (hN:N≤1000000000) (hx:Blk w g 3 (ints xs).toArray) (hgb:g≠b) (h0:0<xs.length) (hl:xs.length≤1000) :
  Calls Tryz.prog 40 #[.pointer (some ⟨b,0,none⟩),.slice (some ⟨g,0,none⟩) xs.length c] w (PickPost w b N xs):=by
 go_enter Tryz.func40,Tryz.ntmps40
 go_wp2_with fail;refine (next_calls _ b N _ hS hN (by omega) (by omega)).mono ?_;rintro e w' ⟨k,hk0,hk1,rfl,hS',hM⟩;obtain ⟨i,rfl⟩:=Int.eq_ofNat_of_zero_le hk0;have hi:i<xs.length:=(by omega);have hc:=(hx.mod hM hgb).cell i
 have hc2:(ints xs).toArray[i]? = some (.int .i64 xs[i]):=by simp [ints,hi]
 rw [hc2] at hc;have hm:xs[i]∈xs:=List.getElem_mem hi;generalize xs[i]=z at hc hm;clear hc2;go_wp2_with fail;go_ret;exact ⟨_,hm,rfl,hS',hM⟩
def OddPost (w:World) (b N:Nat) (e:Ending) (w':World):Prop :=
 ∃ k:Int,-1099511627776≤k∧k≤1099511627776∧e = .returned (.int .i64 k)∧Strm w' b (N+2)∧Mod (· = b) w w'
theorem odd_calls (w:World) (b N:Nat) (lo hi:Int) (hS:Strm w b N) (hN:N≤900000000) (h1:lo≤hi) (h2 : -1099511627775≤lo) (h3:hi≤1099511627775) :
  Calls Tryz.prog 54 #[.pointer (some ⟨b,0,none⟩),.int .i64 lo,.int .i64 hi] w (OddPost w b N):=by
 go_enter Tryz.func54,Tryz.ntmps54
 go_wp2_with fail;refine (flip_calls _ b N _ hS (by omega) (by omega) (by omega)).mono ?_;rintro e w1 ⟨k,rfl,hS1,hM1⟩;have hlt:=hS1.lt
 cases k
 ·go_wp2_with fail;refine (range_calls _ b _ _ _ hS1 (by omega) h1 (by omega) (by omega)).mono ?_;rintro e w2 ⟨k,hk0,hk1,rfl,hS2,hM2⟩;go_wp2_with fail;go_ret;exact ⟨_,by omega,by omega,rfl,hS2,hM1.trans hM2⟩
 ·go_wp2_with fail;refine (pick_calls _ b _ _ _ [lo - 1,hi+1,lo,hi,-1099511627776,1099511627776] (hS1.pure ((Mod.refl _ _).alloc _)) (by omega) (Blk.new _ _ _) (by omega) (by simp) (by simp)).mono ?_;rintro e w2 ⟨k,hk,rfl,hS2,hM2⟩;go_wp2_with fail;go_ret;refine ⟨_,?_,?_,rfl,hS2,hM1.trans (((Mod.refl _ _).alloc _).trans hM2)⟩
  all_goals (simp at hk; omega)
section
variable {w w':World} {g b i N:Nat} {t:TypeId} {cs:Array Value} {v:Value} {p:Addr} {S:Nat→Prop} {P:Prop}
theorem Blk.new' {k:Nat} (h:k=w.heap.size):Blk (w.alloc (.cells cs t)) k t cs:=by subst h; exact Blk.new _ _ _
theorem Blk.snd (w:World) (o:Obj) (t:TypeId) (cs:Array Value):Blk ((w.alloc o).alloc (.cells cs t)) (w.heap.size+1) t cs:=by
 have:=Blk.new (w.alloc o) t cs;rw [World.size_alloc] at this;exact this
theorem Blk.thd (w:World) (o o':Obj) (t:TypeId) (cs:Array Value):Blk (((w.alloc o).alloc o').alloc (.cells cs t)) (w.heap.size+1+1) t cs:=by
 have:=Blk.new ((w.alloc o).alloc o') t cs;rw [World.size_alloc,World.size_alloc] at this;exact this
theorem Blk.modb (h:Blk w g t cs) (hb:Mod (· = b) w w') (hg:g≠b):Blk w' g t cs:=h.mod hb hg
theorem Blk.modp (h:Blk w g t cs) (hb:Pure w w'):Blk w' g t cs:=h.mod hb id
theorem cell_alloc (h:w.cell? p=some v) (o:Obj):(w.alloc o).cell? p=some v:=(World.cell?_alloc_lt w _ _ (lt_of_cell h)).trans h
theorem cell_drew (h:w.cell? p=some v):w.drew.cell? p=some v:=h
theorem keepp (h:w.cell? p=some v) (hm:Pure w w'):w'.cell? p=some v:=hm.keep h id
theorem Mod.transp {a c d:World} (h:Mod S a c) (k:Pure c d):Mod S a d:=h.trans (Mod.of_pure k)
theorem Strm.modb (h:Strm w b N) (hm:Pure w w'):Strm w' b N:=h.pure hm
end
section
variable {w w':World} {g b i N:Nat} {t:TypeId} {cs:Array Value} {v:Value} {p:Addr} {S:Nat→Prop} {P:Prop}
theorem Mod.q_trans {a c d:World} (k:Mod S c d) (h:Mod S a c):Mod S a d:=h.trans k
theorem Mod.q_transp {a c d:World} (k:Pure c d) (h:Mod S a c):Mod S a d:=h.trans (Mod.of_pure k)
theorem Mod.q_set {a w:World} {p:Addr} (hp:a.heap.size≤p.block) (h:Mod S a w) (u:Value):Mod S a (w.setCell p u):=h.setCell (.inr hp) u
theorem Strm.q_set (hp:b<p.block) (h:Strm w b N) (u:Value):Strm (w.setCell p u) b N:=h.setCell hp u
end
theorem Sl.set_ne {w:World} {e t:TypeId} {size g j:Nat} {v:Value} {xs:List Value} {cs:Array Value} (h:Sl w e size v xs) (hb:Blk w g t cs) (hne:e≠t) (u:Value):Sl (w.setCell ⟨g,j,none⟩ u) e size v xs:=by
 refine h.mod (S:=fun i=>i=g) (Mod.setCell (S:=fun i=>i=g) (p:=⟨g,j,none⟩) (Mod.refl _ _) (.inl rfl) u) (fun g' arr fr hh hg => ?_);subst hg;unfold Blk at hb;rw [hh] at hb
 injection hb with hb
 injection hb with _ ht
 exact hne ht
def intsOf (cs:Array Value):List Int:=cs.toList.map intOf
def PickV (w:World) (b N:Nat) (cs:Array Value) (e:Ending) (w':World):Prop :=
 ∃ k:Int,k∈intsOf cs∧e = .returned (.int .i64 k)∧Strm w' b (N+1)∧Mod (· = b) w w'
theorem pickv_calls (w:World) (b N g c n:Nat) (cs:Array Value) (hS:Strm w b N) (hx:Blk w g 3 cs) (hN:N≤1000000000) (hgb:g≠b) (hn:n=(intsOf cs).length) (h0:0<n) (hl:n≤1000) (hi:cs=(ints (intsOf cs)).toArray) :
  Calls Tryz.prog 40 #[.pointer (some ⟨b,0,none⟩),.slice (some ⟨g,0,none⟩) n c] w (PickV w b N cs):=by
 subst hn;rw [hi] at hx;exact pick_calls w b N g c (intsOf cs) hS hN hx hgb h0 hl
abbrev Str:=List UInt8
def strsV (ss:List Str):List Value:=ss.map fun l=>Value.string ⟨l.toArray⟩
theorem strsV_get (ss:List Str) (i:Nat) (h:i<ss.length):(strsV ss)[i]? = some (.string ⟨ss[i].toArray⟩):=by simp [strsV,h]
def SomePost (w:World) (b N:Nat) (ss:List Str) (e:Ending) (w':World):Prop :=
 ∃ s,s∈ss∧e = .returned (.string ⟨s.toArray⟩)∧Strm w' b (N+1)∧Mod (· = b) w w'
theorem some_calls (w:World) (b N g c:Nat) (ss:List Str) (hS:Strm w b N) (hN:N≤1000000000) (hx:Blk w g 9 (strsV ss).toArray) (hgb:g≠b) (h0:0<ss.length) (hl:ss.length≤1000) :
  Calls Tryz.prog 52 #[.pointer (some ⟨b,0,none⟩),.slice (some ⟨g,0,none⟩) ss.length c] w (SomePost w b N ss):=by
 go_enter Tryz.func52,Tryz.ntmps52
 go_wp2_with fail;refine (next_calls _ b N _ hS hN (by omega) (by omega)).mono ?_;rintro e w' ⟨k,hk0,hk1,rfl,hS',hM⟩;obtain ⟨i,rfl⟩:=Int.eq_ofNat_of_zero_le hk0;have hi:i<ss.length:=(by omega);have hc:=(hx.mod hM hgb).cell i
 have hc2:(strsV ss).toArray[i]? = some (.string ⟨ss[i].toArray⟩):=by simp [strsV,hi]
 rw [hc2] at hc;have hm:ss[i]∈ss:=List.getElem_mem hi;generalize ss[i]=z at hc hm;clear hc2;go_wp2_with fail;go_ret;exact ⟨_,hm,rfl,hS',hM⟩
inductive Qry where
 | mk (kind:Int) (words:List Str) (num:Int) (args:List Qry)
instance:Inhabited Qry:=⟨.mk 0 [] 0 []⟩
def Qry.kind:Qry→Int | .mk k _ _ _=>k
def Qry.words:Qry→List Str | .mk _ w _ _=>w
def Qry.num:Qry→Int | .mk _ _ n _=>n
def Qry.args:Qry→List Qry | .mk _ _ _ a=>a
theorem Qry.sz {k:Int} {ws:List Str} {n:Int} {xs:List Qry} {a:Qry} (h:a∈xs):SizeOf.sizeOf a<SizeOf.sizeOf (Qry.mk k ws n xs):=by
 have:=List.sizeOf_lt_of_mem h;simp
 omega
theorem Qry.ind {P:Qry→Prop} (h:∀ k ws n xs,(∀ a∈xs,P a)→P (.mk k ws n xs)):∀ q,P q
 | .mk k ws n xs=>h k ws n xs (fun a _ha=>Qry.ind h a)
termination_by q=>SizeOf.sizeOf q
decreasing_by exact Qry.sz _ha
def nearK (k:Int):Bool:=decide (k=4) || decide (k=5)
def qSize:Qry→Nat | .mk _ _ _ xs=>1+(xs.map qSize).sum
def qDeep:Qry→Nat | .mk _ _ _ xs=>1+(xs.map qDeep).foldr max 0
def qNear:Qry→Nat | .mk k _ _ xs=>(xs.map qNear).foldr max 0+(if nearK k then 1 else 0)
def qFit (q:Qry) (m d r:Nat):Bool:=decide (m+qSize q≤100) && (decide (d+qDeep q≤12) && decide (r+qNear q≤3))
theorem foldr_max_le {l:List Nat} {m:Nat}:l.foldr max 0≤m↔∀ x∈l,x≤m:=by
 induction l with
 | nil=>simp
 | cons x xs ih=>simp [Nat.max_le,ih]
theorem qFit_iff {k:Int} {ws:List Str} {n:Int} {xs:List Qry} {m d r:Nat}:qFit (.mk k ws n xs) m d r=true↔m+1+(xs.map qSize).sum≤100∧d+1≤12∧r+(if nearK k then 1 else 0)≤3∧(∀ a∈xs,d+1+qDeep a≤12)∧∀ a∈xs,r+(if nearK k then 1 else 0)+qNear a≤3:=by
 unfold qFit;rw [qSize,qDeep,qNear];generalize (if nearK k=true then 1 else 0)=t;simp only [Bool.and_eq_true,decide_eq_true_eq]
 have h1:d+(1+(xs.map qDeep).foldr max 0)≤12↔d+1≤12∧∀ a∈xs,d+1+qDeep a≤12:=by
  constructor
  ·intro h;refine ⟨by omega,fun a ha => ?_⟩;have:=(foldr_max_le.1 (Nat.le_refl ((xs.map qDeep).foldr max 0))) _ (List.mem_map.2 ⟨a,ha,rfl⟩)
   omega
  ·rintro ⟨h,h2⟩
   have:(xs.map qDeep).foldr max 0≤12 - (d+1):=foldr_max_le.2 (fun x hx=>by
    obtain ⟨a,ha,rfl⟩:=List.mem_map.1 hx;have:=h2 a ha
    omega)
   omega
 have h2:r+((xs.map qNear).foldr max 0+t)≤3↔r+t≤3∧∀ a∈xs,r+t+qNear a≤3:=by
  constructor
  ·intro h;refine ⟨by omega,fun a ha => ?_⟩;have:=(foldr_max_le.1 (Nat.le_refl ((xs.map qNear).foldr max 0))) _ (List.mem_map.2 ⟨a,ha,rfl⟩)
   omega
  ·rintro ⟨h,h2⟩
   have:(xs.map qNear).foldr max 0≤3 - (r+t):=foldr_max_le.2 (fun x hx=>by
    obtain ⟨a,ha,rfl⟩:=List.mem_map.1 hx;have:=h2 a ha
    omega)
   omega
 rw [h1,h2]
 constructor
 ·rintro ⟨a,b,c⟩; exact ⟨by omega,b.1,c.1,b.2,c.2⟩
 ·rintro ⟨a,b,c,d,e⟩; exact ⟨by omega,⟨b,d⟩,c,e⟩
def qSum (xs:List Qry) (j:Nat):Nat:=((xs.take j).map qSize).sum
theorem qSum_zero (xs:List Qry):qSum xs 0=0:=by simp [qSum]
theorem qSum_succ {xs:List Qry} {j:Nat} (h:j<xs.length):qSum xs (j+1)=qSum xs j+qSize xs[j]:=by
 unfold qSum;rw [List.take_succ_eq_append_getElem h,List.map_append,List.sum_append];simp only [List.map_cons,List.map_nil,List.sum_cons,List.sum_nil,Nat.add_zero]
theorem qSum_le (xs:List Qry) (j:Nat):qSum xs j≤(xs.map qSize).sum:=by
 unfold qSum
 have h:(xs.map qSize).sum=((xs.take j).map qSize).sum+((xs.drop j).map qSize).sum:=by
  rw [← List.sum_append,← List.map_append,List.take_append_drop]
 omega
theorem qSum_all (xs:List Qry):qSum xs xs.length=(xs.map qSize).sum:=by simp [qSum]
theorem qSize_pos (q:Qry):1≤qSize q:=by cases q; rw [qSize]; omega
theorem qFit_arg {k:Int} {ws:List Str} {n:Int} {xs:List Qry} {m d r j:Nat} (hj:j<xs.length) (h:qFit xs[j] (m+1+qSum xs j) (d+1) (r+(if nearK k then 1 else 0))=false):qFit (.mk k ws n xs) m d r=false:=by
 rw [Bool.eq_false_iff];intro hf;obtain ⟨h1,h2,h3,h4,h5⟩:=qFit_iff.1 hf;have h6:=qSum_succ hj;have h7:=qSum_le xs (j+1);have h8:=h4 _ (List.getElem_mem hj);have h9:=h5 _ (List.getElem_mem hj);rw [Bool.eq_false_iff] at h
 apply h
 unfold qFit;simp only [Bool.and_eq_true,decide_eq_true_eq]
 omega
theorem qFit_all {k:Int} {ws:List Str} {n:Int} {xs:List Qry} {m d r:Nat} (hd:d+1≤12) (hm:m+1≤100) (hr:r+(if nearK k then 1 else 0)≤3) (h:∀ j (hj:j<xs.length),qFit xs[j] (m+1+qSum xs j) (d+1) (r+(if nearK k then 1 else 0))=true):qFit (.mk k ws n xs) m d r=true:=by
 refine qFit_iff.2 ⟨?_,hd,hr,fun a ha => ?_,fun a ha => ?_⟩
 ·by_cases h0:xs.length=0
  ·have:xs=[]:=by cases xs; rfl; cases h0
   subst this;simp only [List.map_nil,List.sum_nil]
   omega
  ·have h1:=h (xs.length - 1) (by omega);unfold qFit at h1;simp only [Bool.and_eq_true,decide_eq_true_eq] at h1;have h2:=qSum_succ (xs:=xs) (j:=xs.length - 1) (by omega);rw [show xs.length - 1+1=xs.length by omega,qSum_all] at h2
   omega
 ·obtain ⟨j,hj,rfl⟩:=List.getElem_of_mem ha;have h1:=h j hj;unfold qFit at h1;simp only [Bool.and_eq_true,decide_eq_true_eq] at h1
  omega
 ·obtain ⟨j,hj,rfl⟩:=List.getElem_of_mem ha;have h1:=h j hj;unfold qFit at h1;simp only [Bool.and_eq_true,decide_eq_true_eq] at h1
  omega
theorem Sl.lenS {w:World} {A:Option Addr} {n c:Nat} {xs:List Str} (h:Sl w 9 1 (.slice A n c) (strsV xs)):xs.length=n:=by
 obtain ⟨A',n',c',hf,_,_,hl,_⟩:=h
 injection hf with _ h2 _
 simp [strsV] at hl
 omega
theorem Sl.rowS {w:World} {A:Option Addr} {n c:Nat} {e:TypeId} {xs:List Value} (h:Sl w e 1 (.slice A n c) xs) (hn:0<n):∃ g off,A=some ⟨g,off,none⟩∧RowAt w e g off xs:=by
 obtain ⟨A',n',c',hf,_,_,hl,hr⟩:=h
 injection hf with h1 h2 _
 subst h1 h2;exact hr hn
structure Itm where
 id:Str
 cust:Str
 kind:Int
 name:Str
 tm:Int
 par:Str
 text:Str
def plc:List Itm→Str→Option Nat
 | [],_=>none
 | x :: l,s=>if x.id=s then some 0 else (plc l s).map (· + 1)
theorem plc_lt:∀ (l:List Itm) (s:Str) (k:Nat),plc l s=some k→∃ h:k<l.length,l[k].id=s
 | [],s,k,h=>by simp [plc] at h
 | x :: l,s,k,h=>by
  unfold plc at h
  split at h
  ·rename_i hx
   injection h with h
   subst h;exact ⟨by simp,by simpa using hx⟩
  ·cases hp:plc l s with
   | none=>rw [hp] at h; simp at h
   | some j =>
    rw [hp] at h;simp at h;subst h;obtain ⟨h1,h2⟩:=plc_lt l s j hp;exact ⟨by simpa using h1,by simpa using h2⟩
def upI (l:List Itm) (i:Nat):Option Nat :=
 match l[i]? with
 | none=>none
 | some x=>if x.par=[] then none else plc l x.par
theorem upI_lt {l:List Itm} {i k:Nat} (h:upI l i=some k):k<l.length:=by
 unfold upI at h
 split at h
 ·cases h
 ·split at h
  ·cases h
  ·exact (plc_lt _ _ _ h).1
def chn (l:List Itm):Nat→Nat→List Nat
 | 0,_=>[]
 | n+1,i=>match upI l i with
  | none=>[]
  | some k=>k :: chn l n k
theorem chn_len (l:List Itm):∀ n i,(chn l n i).length≤n
 | 0,i=>by simp [chn]
 | n+1,i=>by
  unfold chn
  split
  ·simp
  ·have:=chn_len l n ‹_›;simp; omega
theorem nodup_le:∀ (n:Nat) (l:List Nat),l.Nodup→(∀ x∈l,x<n)→l.length≤n
 | 0,l,_,h=>by
  cases l with
  | nil=>simp
  | cons a t=>exact absurd (h a (by simp)) (by omega)
 | n+1,l,hd,h=>by
  have h1:(l.filter (· ≠ n)).length≤n:=nodup_le n _ (hd.filter _) (fun x hx=>by
   have:=h x (List.mem_filter.1 hx).1
   have h2:x≠n:=by simpa using (List.mem_filter.1 hx).2
   omega)
  have h2:∀ l:List Nat,l.Nodup→l.length≤(l.filter (· ≠ n)).length+1:=by
   intro l
   induction l with
   | nil=>simp
   | cons a t ih =>
    intro hd;have hd':=List.nodup_cons.1 hd
    by_cases e:a=n
    ·subst e
     have:t.filter (· ≠ a)=t:=List.filter_eq_self.2 (fun x hx=>by
      have:x≠a:=fun e=>hd'.1 (e ▸ hx)
      simpa using this)
     have e2:(a :: t).filter (· ≠ a)=t.filter (· ≠ a):=(by simp);rw [e2,this];simp
    ·have:=ih hd'.2
     have e2:(a :: t).filter (· ≠ n)=a :: t.filter (· ≠ n):=by simp [e]
     rw [e2,List.length_cons,List.length_cons]
     omega
  have:=h2 l hd
  omega
def stp (l:List Itm):Nat→Nat→Option Nat
 | 0,i=>some i
 | n+1,i=>(upI l i).bind (stp l n)
theorem stp_add (l:List Itm):∀ a b i,stp l (a+b) i=(stp l a i).bind (stp l b)
 | 0,b,i=>by simp [stp]
 | a+1,b,i=>by
  rw [show a+1+b=(a+b)+1 by omega];simp only [stp]
  cases upI l i with
  | none=>rfl
  | some k=>simp [stp_add l a b k]
theorem stp_some (l:List Itm) {a b i k:Nat} (h:stp l (a+b) i=some k):∃ j,stp l a i=some j∧stp l b j=some k:=by
 rw [stp_add] at h
 cases hj:stp l a i with
 | none=>rw [hj] at h; cases h
 | some j=>rw [hj] at h; exact ⟨j,rfl,h⟩
theorem stp_lt (l:List Itm):∀ {n i k:Nat},stp l (n+1) i=some k→k<l.length
 | 0,i,k,h=>by
  simp only [stp] at h
  cases hu:upI l i with
  | none=>rw [hu] at h; cases h
  | some j=>rw [hu] at h; simp [stp] at h; subst h; exact upI_lt hu
 | n+1,i,k,h=>by
  rw [stp] at h
  cases hu:upI l i with
  | none=>rw [hu] at h; cases h
  | some j=>rw [hu] at h; exact stp_lt l (n:=n) h
theorem chn_get (l:List Itm):∀ n i j,(chn l n i)[j]? = if j<n then stp l (j+1) i else none
 | 0,i,j=>by simp [chn]
 | n+1,i,j=>by
  cases hu:upI l i with
  | none =>
   have e:stp l (j+1) i=none:=by simp [stp,hu]
   simp [chn,hu,e]
  | some k =>
   have e:chn l (n+1) i=k :: chn l n k:=by simp [chn,hu]
   rw [e]
   cases j with
   | zero=>simp [stp,hu]
   | succ j =>
    rw [List.getElem?_cons_succ,chn_get l n k j]
    have e2:stp l (j+1+1) i=stp l (j+1) k:=by
     rw [stp,hu]
     rfl
    rw [e2]
    by_cases h:j<n
    ·rw [if_pos h,if_pos (by omega)]
    ·rw [if_neg h,if_neg (by omega)]
theorem mem_chn (l:List Itm) (n i x:Nat):x∈chn l n i↔∃ j,j<n∧stp l (j+1) i=some x:=by
 rw [List.mem_iff_getElem?]
 constructor
 ·rintro ⟨j,h⟩;rw [chn_get] at h
  split at h
  ·exact ⟨j,‹_›,h⟩
  ·cases h
 ·rintro ⟨j,h1,h2⟩;exact ⟨j,by rw [chn_get,if_pos h1]; exact h2⟩
theorem inj_le (n m:Nat) (f:Nat→Nat) (hf:∀ i,i<m→f i<n) (hi:∀ i j,i<j→j<m→f i≠f j):m≤n:=by
 have h:=nodup_le n ((List.range m).map f) (by
  rw [List.nodup_iff_pairwise_ne,List.pairwise_iff_getElem];intro i j h1 h2 hij;simp at h1 h2;simp
  exact hi i j hij h2) (by
  intro x hx;simp at hx;obtain ⟨a,ha,rfl⟩:=hx
  exact hf a ha)
 simpa using h
def onLoop (l:List Itm) (i:Nat):Prop:=∃ n,stp l (n+1) i=some i
theorem loop_short (l:List Itm) (i:Nat) (h:onLoop l i):∃ n,n<l.length∧stp l (n+1) i=some i∧∀ j,j<n→stp l (j+1) i≠some i:=by
 obtain ⟨n,hn,hmin⟩:∃ n,stp l (n+1) i=some i∧∀ j,j<n→stp l (j+1) i≠some i:=by
  obtain ⟨n,hn⟩:=h
  induction n using Nat.strongRecOn with
  | _ n ih =>
   by_cases h:∃ j,j<n∧stp l (j+1) i=some i
   ·obtain ⟨j,h1,h2⟩:=h;exact ih j h1 h2
   ·exact ⟨n,hn,fun j h1 h2=>h ⟨j,h1,h2⟩⟩
 refine ⟨n,?_,hn,hmin⟩
 have hall:∀ j,j≤n→∃ x,stp l (j+1) i=some x∧stp l (n - j) x=some i:=by
  intro j hj;have:=stp_some l (a:=j+1) (b:=n - j) (i:=i) (k:=i) (by rw [show j+1+(n - j)=n+1 by omega]; exact hn);exact this
 have key:=inj_le l.length (n+1) (fun j=>(stp l (j+1) i).getD 0) (by
  intro j hj;obtain ⟨x,hx,_⟩:=hall j (by omega);simp [hx]
  exact stp_lt l hx) (by
  intro a b hab hb he;obtain ⟨x,hx,hx2⟩:=hall a (by omega);obtain ⟨y,hy,hy2⟩:=hall b (by omega);simp [hx,hy] at he;subst he
  -- from place a, the rest of the way behind b
  have h1:stp l (a+1+(n - b)) i=some i:=by rw [stp_add,hx]; exact hy2
  exact hmin (a+(n - b)) (by omega) (by rw [show a+(n - b)+1=a+1+(n - b) by omega]; exact h1))
 omega
theorem noloop_end (l:List Itm) (hno:∀ i,i<l.length→¬ onLoop l i) (i:Nat) (hi:i<l.length):stp l l.length i=none:=by
 cases hs:stp l l.length i with
 | none=>rfl
 | some z =>
  exfalso
  have hall:∀ j,j≤l.length→∃ x,stp l j i=some x:=by
   intro j hj;obtain ⟨x,hx,_⟩:=stp_some l (a:=j) (b:=l.length - j) (i:=i) (k:=z) (by rw [show j+(l.length - j)=l.length by omega]; exact hs);exact ⟨x,hx⟩
  have hlt:∀ j,j≤l.length→∀ x,stp l j i=some x→x<l.length:=by
   intro j hj x hx
   cases j with
   | zero=>simp [stp] at hx; omega
   | succ j=>exact stp_lt l hx
  have key:=inj_le l.length (l.length+1) (fun j=>(stp l j i).getD 0) (by
   intro j hj;obtain ⟨x,hx⟩:=hall j (by omega);simp [hx]
   exact hlt j (by omega) x hx) (by
   intro a b hab hb he;obtain ⟨x,hx⟩:=hall a (by omega);obtain ⟨y,hy⟩:=hall b (by omega);simp [hx,hy] at he;subst he;obtain ⟨q,hq,hq2⟩:=stp_some l (a:=a) (b:=b - a) (i:=i) (k:=x) (by rw [show a+(b - a)=b by omega]; exact hy);rw [hx] at hq
   injection hq with hq
   subst hq
   exact hno x (hlt a (by omega) x hx) ⟨b - a - 1,by rw [show b - a - 1+1=b - a by omega]; exact hq2⟩)
  omega
def lpB (l:List Itm) (i:Nat):Bool:=(chn l l.length i).contains i
theorem lpB_iff (l:List Itm) (i:Nat):lpB l i=true↔onLoop l i:=by
 unfold lpB;rw [List.contains_iff_mem,mem_chn]
 constructor
 ·rintro ⟨j,_,h⟩;exact ⟨j,h⟩
 ·intro h;obtain ⟨n,h1,h2,_⟩:=loop_short l i h;exact ⟨n,h1,h2⟩
theorem lpB_more (l:List Itm) (i:Nat):(chn l (l.length+1) i).contains i=lpB l i:=by
 have h:(chn l (l.length+1) i).contains i=true↔onLoop l i:=by
  rw [List.contains_iff_mem,mem_chn]
  constructor
  ·rintro ⟨j,_,h⟩;exact ⟨j,h⟩
  ·intro h;obtain ⟨n,h1,h2,_⟩:=loop_short l i h;exact ⟨n,by omega,h2⟩
 have h2:=lpB_iff l i;exact Bool.eq_iff_iff.2 (h.trans h2.symm)
theorem chn_eq_of_none (l:List Itm):∀ n i,stp l n i=none→∀ m,n≤m+1→chn l m i=chn l (m+1) i
 | 0,i,h,m,_=>by simp [stp] at h
 | n+1,i,h,m,hm=>by
  rw [stp] at h
  cases hu:upI l i with
  | none =>
   cases m with
   | zero=>simp [chn,hu]
   | succ m=>simp [chn,hu]
  | some k =>
   rw [hu] at h
   cases n with
   | zero=>simp [stp] at h
   | succ n =>
    cases m with
    | zero=>omega
    | succ m =>
     have ih:=chn_eq_of_none l (n+1) k h m (by omega)
     have e1:chn l (m+1) i=k :: chn l m k:=by simp [chn,hu]
     have e2:chn l (m+1+1) i=k :: chn l (m+1) k:=by
      rw [chn,hu]
     rw [e1,e2,ih]
theorem chn_noloop (l:List Itm) (hno:∀ i,i<l.length→lpB l i=false) (i:Nat) (hi:i<l.length):chn l (l.length+1) i=chn l l.length i:=by
 refine (chn_eq_of_none l l.length i (noloop_end l (fun j hj h => ?_) i hi) l.length (by omega)).symm;have:=(lpB_iff l j).2 h;rw [hno j hj] at this
 cases this
def ordE (E:Itm→Int):Str→List Itm→Int
 | _,[]=>0
 | p,x :: r=>if E x≠0 then E x else if x.id≤p then 7 else ordE E x.id r
def missB (l:List Itm) (x:Itm):Bool:=decide (x.par≠[]) && (plc l x.par).isNone
def ruleB (l:List Itm) (x:Itm):Bool:=decide (x.par≠[]) && match plc l x.par with
 | none=>false
 | some k=>match l[k]? with
  | none=>false
  | some p=>decide (p.kind≠1) && decide (p.kind≠3)
def depE (l:List Itm) (i:Nat):Int:=match l[i]? with
 | none=>0
 | some x=>if ruleB l x then 16 else if 4<(chn l l.length i).length then 2 else 0
def firstE (f:Nat→Int):Nat→Nat→Int
 | _,0=>0
 | i,n+1=>if f i≠0 then f i else firstE f (i+1) n
def treeE (l:List Itm):Int:=if (List.range l.length).any (lpB l) then 14 else firstE (depE l) 0 l.length
def itsE (E:Itm→Int) (l:List Itm):Int:=if 2000<l.length then 2 else if ordE E [] l≠0 then ordE E [] l else if l.any (missB l) then 8 else treeE l
theorem ordE_gt {E:Itm→Int}:∀ {l:List Itm} {p:Str},ordE E p l=0→∀ x∈l,E x=0∧¬ x.id≤p
 | [],p,_,x,hx=>absurd hx (by simp)
 | y :: r,p,h,x,hx=>by
  unfold ordE at h
  split at h
  ·rename_i h1; exact absurd h h1
  ·split at h
   ·omega
   ·rename_i h1 h2
    rcases List.mem_cons.1 hx with rfl | hx
    ·exact ⟨by simpa using h1,h2⟩
    ·obtain ⟨h3,h4⟩:=ordE_gt h x hx;refine ⟨h3,fun h5=>h4 ?_⟩
     have h6:p≤y.id:=by
      rcases List.le_total p y.id with h | h
      ·exact h
      ·exact absurd h h2
     exact List.le_trans h5 h6
theorem ordE_ne {E:Itm→Int}:∀ {l:List Itm} {p:Str},ordE E p l=0→l.Pairwise (fun x y=>x.id≠y.id)
 | [],p,_=>List.Pairwise.nil
 | y :: r,p,h=>by
  unfold ordE at h
  split at h
  ·rename_i h1; exact absurd h h1
  ·split at h
   ·omega
   ·refine List.pairwise_cons.2 ⟨fun x hx e => ?_,ordE_ne h⟩;exact (ordE_gt h x hx).2 (by rw [e]; exact List.le_refl _)
def itC (x:Itm):List Value:=[.string ⟨x.id.toArray⟩,.string ⟨x.cust.toArray⟩,.int .i64 x.kind,.string ⟨x.name.toArray⟩,.int .i64 x.tm,.string ⟨x.par.toArray⟩,.string ⟨x.text.toArray⟩]
def itV (xs:List Itm):List Value:=xs.flatMap itC
theorem itV_len:∀ xs:List Itm,(itV xs).length=xs.length*7
 | []=>rfl
 | x :: xs=>by
  have:=itV_len xs;simp only [itV,itC,List.flatMap_cons,List.length_append,List.length_cons,List.length_nil] at *
  omega
theorem itV_get:∀ (xs:List Itm) (i:Nat) (h:i<xs.length),(itV xs)[i*7]? = some (.string ⟨xs[i].id.toArray⟩)∧(itV xs)[i*7+1]? = some (.string ⟨xs[i].cust.toArray⟩)∧(itV xs)[i*7+2]? = some (.int .i64 xs[i].kind) ∧
  (itV xs)[i*7+3]? = some (.string ⟨xs[i].name.toArray⟩)∧(itV xs)[i*7+4]? = some (.int .i64 xs[i].tm)∧(itV xs)[i*7+5]? = some (.string ⟨xs[i].par.toArray⟩)∧(itV xs)[i*7+6]? = some (.string ⟨xs[i].text.toArray⟩)
 | [],i,h=>absurd h (by simp)
 | x :: xs,0,h=>by simp [itV,itC]
 | x :: xs,i+1,h=>by
  have:=itV_get xs i (by simpa using h);have e:(i+1)*7=i*7+1+1+1+1+1+1+1:=(by omega);simp only [itV,itC,List.flatMap_cons,List.cons_append,List.nil_append,e,List.getElem?_cons_succ,List.getElem_cons_succ];exact this
theorem itV_snoc (xs:List Itm) (p:Itm):itV (xs ++ [p])=itV xs ++ itC p:=by simp [itV]
def ItB (x:Itm):Prop:=x.id.length≤100∧x.cust.length≤30000∧x.name.length≤30000∧x.par.length≤30000∧x.text.length≤30000
theorem plc_self:∀ {l:List Itm},l.Pairwise (fun x y=>x.id≠y.id)→∀ k (h:k<l.length),plc l l[k].id=some k
 | [],_,k,h=>absurd h (by simp)
 | x :: l,hp,0,h=>by simp [plc]
 | x :: l,hp,k+1,h=>by
  obtain ⟨h1,h2⟩:=List.pairwise_cons.1 hp;have hk:k<l.length:=(by simpa using h);have hne:x.id≠l[k].id:=h1 _ (List.getElem_mem hk);have:=plc_self h2 k hk;simp only [List.getElem_cons_succ,plc,if_neg hne,this]
  rfl
theorem id_inj {l:List Itm} (hp:l.Pairwise (fun x y=>x.id≠y.id)) {i k:Nat} (hi:i<l.length) (hk:k<l.length) (h:l[i].id=l[k].id):i=k:=by
 have h1:=plc_self hp i hi;have h2:=plc_self hp k hk;rw [h,h2] at h1
 injection h1 with h1
 exact h1.symm
theorem ordE_step {E:Itm→Int} {xs:List Itm} {k:Nat} (h:k<xs.length) (p:Str):ordE E p (xs.drop k)=if E xs[k]≠0 then E xs[k] else if xs[k].id≤p then 7 else ordE E xs[k].id (xs.drop (k+1)):=by
 rw [List.drop_eq_getElem_cons h]
 rfl
theorem firstE_step (f:Nat→Int) {i n:Nat} (h:i<n):firstE f i (n - i)=if f i≠0 then f i else firstE f (i+1) (n - (i+1)):=by
 obtain ⟨d,hd⟩:∃ d,n - i=d+1:=⟨n - i - 1,by omega⟩;rw [hd,firstE,show n - (i+1)=d by omega]
def fnd (l:List Itm) (s:Str):Option Itm:=(plc l s).bind (fun k=>l[k]?)
theorem fnd_nil (s:Str):fnd [] s=none:=rfl
theorem fnd_cons (x:Itm) (l:List Itm) (s:Str):fnd (x :: l) s=if x.id=s then some x else fnd l s:=by
 unfold fnd;rw [plc]
 split
 ·rfl
 ·cases plc l s <;> simp
theorem fnd_plc {l:List Itm} {s:Str} {k:Nat} (h:plc l s=some k) (hk:k<l.length):fnd l s=some l[k]:=by
 unfold fnd;rw [h];simp [hk]
theorem fnd_none {l:List Itm} {s:Str} (h:plc l s=none):fnd l s=none:=by
 unfold fnd;rw [h]
 rfl
theorem fnd_isSome (l:List Itm) (s:Str):(fnd l s).isSome=(plc l s).isSome:=by
 cases h:plc l s with
 | none=>rw [fnd_none h]; rfl
 | some k =>
  obtain ⟨hk,_⟩:=plc_lt l s k h;rw [fnd_plc h hk]
  rfl
theorem fnd_not {s:Str}:∀ {l:List Itm},(∀ x∈l,x.id≠s)→fnd l s=none
 | [],_=>rfl
 | x :: l,h=>by
  rw [fnd_cons,if_neg (h x (by simp)),fnd_not (fun y hy=>h y (by simp [hy]))]
theorem fnd_take {s:Str}:∀ {l:List Itm} (k:Nat) (h:k<l.length),l.Pairwise (fun x y=>x.id≠y.id)→fnd (l.take (k+1)) s=if s=l[k].id then some l[k] else fnd (l.take k) s
 | [],k,h,_=>absurd h (by simp)
 | x :: l,0,h,_=>by
  simp only [List.take_succ_cons,List.take_zero,List.getElem_cons_zero];rw [fnd_cons,fnd_nil]
  by_cases e:x.id=s
  ·rw [if_pos e,if_pos e.symm]
  ·rw [if_neg e,if_neg (fun e2=>e e2.symm)]
 | x :: l,k+1,h,hp=>by
  obtain ⟨h1,h2⟩:=List.pairwise_cons.1 hp;have hk:k<l.length:=(by simpa using h);have hne:=h1 _ (List.getElem_mem hk);rw [List.take_succ_cons,List.take_succ_cons,fnd_cons,fnd_cons,fnd_take k hk h2];simp only [List.getElem_cons_succ]
  by_cases e:x.id=s
  ·rw [if_pos e,if_pos e,if_neg (fun e2=>hne (e.trans e2))]
  ·rw [if_neg e,if_neg e]
def itA (x:Itm):Value:=.agg #[.string ⟨x.id.toArray⟩,.string ⟨x.cust.toArray⟩,.int .i64 x.kind,.string ⟨x.name.toArray⟩,.int .i64 x.tm,.string ⟨x.par.toArray⟩,.string ⟨x.text.toArray⟩]
def byF (l:List Itm) (s:Str):Option Value:=(fnd l s).map itA
theorem byF_take {l:List Itm} (k:Nat) (h:k<l.length) (hp:l.Pairwise (fun x y=>x.id≠y.id)):byF (l.take (k+1))=fun x=>if x=l[k].id then some (itA l[k]) else byF (l.take k) x:=by
 funext s
 unfold byF;rw [fnd_take k h hp]
 split <;> rfl
theorem byF_new {l:List Itm} (k:Nat) (h:k<l.length) (hp:l.Pairwise (fun x y=>x.id≠y.id)):byF (l.take k) l[k].id=none:=by
 unfold byF;rw [fnd_not (fun x hx => ?_)]
 ·rfl
 ·rw [List.mem_take_iff_getElem] at hx;obtain ⟨i,hi,rfl⟩:=hx;exact (List.pairwise_iff_getElem.1 hp) i k (by omega) h (by omega)
structure Upto (l:List Itm) (i j q:Nat):Prop where
 at_:stp l j i=some q
 lt:q<l.length
 not:∀ a,a<j→stp l (a+1) i≠some i
theorem Upto.start {l:List Itm} {i:Nat} (h:i<l.length):Upto l i 0 i:=⟨rfl,h,fun a ha=>by omega⟩
theorem stp_succ {l:List Itm} {i j q:Nat} (h:stp l j i=some q):stp l (j+1) i=upI l q:=by
 rw [stp_add,h]
 show (upI l q).bind (stp l 0)=_
 cases upI l q <;> rfl
theorem Upto.step {l:List Itm} {i j q k:Nat} (h:Upto l i j q) (hu:upI l q=some k) (hk:k≠i):Upto l i (j+1) k:=by
 have h1:=stp_succ h.at_;refine ⟨h1.trans hu,upI_lt hu,fun a ha => ?_⟩
 rcases Nat.eq_or_lt_of_le (Nat.le_of_lt_succ ha) with rfl | hlt
 ·rw [h1,hu];intro e
  injection e with e
  exact hk e
 ·exact h.not a hlt
theorem Upto.top {l:List Itm} {i j q:Nat} (h:Upto l i j q) (hu:upI l q=none) (hj:j≤l.length):lpB l i=false∧(chn l l.length i).length=j:=by
 have h1:=stp_succ h.at_;rw [hu] at h1
 have hend:∀ a,j≤a→stp l (a+1) i=none:=by
  intro a ha;obtain ⟨d,rfl⟩:∃ d,a=j+d:=⟨a - j,by omega⟩;rw [show j+d+1=(j+1)+d by omega,stp_add,h1]
  rfl
 constructor
 ·cases hb:lpB l i with
  | false=>rfl
  | true =>
   exfalso
   unfold lpB at hb;rw [List.contains_iff_mem,mem_chn] at hb;obtain ⟨a,ha,hs⟩:=hb
   rcases Nat.lt_or_ge a j with hlt | hge
   ·exact h.not a hlt hs
   ·rw [hend a hge] at hs
    cases hs
 ·have g1:=chn_get l l.length i j
  have g2:(chn l l.length i)[j]? = none:=by
   rw [g1]
   split
   ·exact h1
   ·rfl
  have g3:(chn l l.length i).length≤j:=(by simpa using g2)
  cases j with
  | zero=>omega
  | succ a =>
   have g4:=chn_get l l.length i a;rw [if_pos (by omega),h.at_] at g4;have:=(List.getElem?_eq_some_iff.1 g4).1
   omega
theorem Upto.back {l:List Itm} {i j q:Nat} (h:Upto l i j q) (hu:upI l q=some i) (hj:j<l.length):lpB l i=true:=by
 unfold lpB;rw [List.contains_iff_mem,mem_chn];exact ⟨j,hj,(stp_succ h.at_).trans hu⟩
theorem Upto.full {l:List Itm} {i q:Nat} (h:Upto l i l.length q):lpB l i=false∧(chn l l.length i).length=l.length:=by
 constructor
 ·cases hb:lpB l i with
  | false=>rfl
  | true =>
   exfalso
   unfold lpB at hb;rw [List.contains_iff_mem,mem_chn] at hb;obtain ⟨a,ha,hs⟩:=hb;exact h.not a ha hs
 ·have hle:=chn_len l l.length i
  cases hn:l.length with
  | zero=>rw [hn] at hle; omega
  | succ n =>
   have g4:=chn_get l l.length i n;rw [if_pos (by omega),show n+1=l.length by omega,h.at_] at g4;have:=(List.getElem?_eq_some_iff.1 g4).1;rw [hn] at hle this
   omega
theorem up_fnd {l:List Itm} {q:Nat} (hq:q<l.length):(l[q].par=[]∧upI l q=none)∨(l[q].par≠[]∧upI l q=none∧fnd l l[q].par=none)∨∃ k,∃ hk:k<l.length,l[q].par≠[]∧upI l q=some k∧fnd l l[q].par=some l[k]:=by
 unfold upI;rw [List.getElem?_eq_getElem hq];simp only
 by_cases hp:l[q].par=[]
 ·exact .inl ⟨hp,by rw [if_pos hp]⟩
 ·rw [if_neg hp]
  cases h:plc l l[q].par with
  | none=>exact .inr (.inl ⟨hp,rfl,fnd_none h⟩)
  | some k =>
   obtain ⟨hk,_⟩:=plc_lt _ _ _ h;exact .inr (.inr ⟨k,hk,hp,rfl,fnd_plc h hk⟩)
def hexD (n:Nat):UInt8:=if n<10 then UInt8.ofNat (48+n) else UInt8.ofNat (87+n)
def quoB (c:UInt8):Str:=if c=34∨c=92 then [92,c] else if c=10 then [92,110] else if c<33∨126<c then [92,120,hexD (c.toNat / 16),hexD (c.toNat % 16)] else [c]
def hexV (c:UInt8):Nat:=if 48≤c∧c≤57 then c.toNat - 48 else if 97≤(c ||| 32)∧(c ||| 32)≤102 then (c ||| 32).toNat - 87 else 255
def escP:Str→UInt8 × Nat
 | []=>(0,0)
 | c :: r=>if c≠92 then (c,1) else match r with
  | []=>(0,0)
  | d :: r2=>if d=110 then (10,2) else if d=34∨d=92 then (d,2) else if d=120 then (match r2 with
    | h :: l :: _=>if hexV h<16∧hexV l<16 then (UInt8.ofNat (hexV h*16+hexV l),4) else (0,0)
    | _=>(0,0)) else (0,0)
def decP (s:Str):Option (UInt8 × Nat):=if (escP s).2≠0∧quoB (escP s).1=s.take (escP s).2 then some (escP s) else none
theorem escP_quo:∀ c:UInt8,c≠34∨True→∀ t:Str,escP (quoB c ++ t)=(c,(quoB c).length):=by
 intro c _ t
 have key:∀ n:Fin 256,(let c:=UInt8.ofNat n.val; ((quoB c).length=1∧quoB c=[c]∧c≠92)∨((quoB c).length=2∧quoB c=[92,(quoB c).getD 1 0]∧((quoB c).getD 1 0=110∧c=10∨(quoB c).getD 1 0=c∧(c=34∨c=92)))∨((quoB c).length=4∧quoB c=[92,120,hexD (c.toNat / 16),hexD (c.toNat % 16)]∧hexV (hexD (c.toNat / 16))<16∧hexV (hexD (c.toNat % 16))<16∧UInt8.ofNat (hexV (hexD (c.toNat / 16))*16+hexV (hexD (c.toNat % 16)))=c)):=by decide +kernel
 have hc:=key ⟨c.toNat,c.toNat_lt⟩;simp only [UInt8.ofNat_toNat] at hc
 rcases hc with ⟨h1,h2,h3⟩ | ⟨h1,h2,h3⟩ | ⟨h1,h2,h3,h4,h5⟩
 ·rw [h1,h2];simp [escP,h3]
 ·rw [h1,h2]
  rcases h3 with ⟨h3,h4⟩ | ⟨h3,h4⟩
  ·rw [h3];simp [escP,h4]
  ·rw [h3]
   rcases h4 with h4 | h4 <;> simp [escP,h4]
 ·rw [h1,h2];simp [escP,h3,h4,h5]
theorem decP_some {s:Str} {c:UInt8} {n:Nat} (h:decP s=some (c,n)):n=(quoB c).length∧quoB c <+: s:=by
 unfold decP at h
 split at h
 ·rename_i hh
  injection h with h
  have h2:=hh.2;rw [h] at h2;simp only at h2
  have hp:quoB c <+: s:=by rw [h2]; exact List.take_prefix _ _
  refine ⟨?_,hp⟩;obtain ⟨t,ht⟩:=hp;have h3:=escP_quo c (.inr trivial) t;rw [ht,h] at h3
  injection h3
 ·cases h
def unqF:Nat→Str→Str→Nat→Option (Str × Nat)
 | 0,_,_,_=>none
 | _+1,[],_,_=>none
 | f+1,c :: r,acc,at_=>if c=34 then some (acc,at_+1) else match decP (c :: r) with
  | none=>none
  | some (d,n)=>unqF f ((c :: r).drop n) (acc ++ [d]) (at_+n)
def unqS:Str→Option (Str × Nat)
 | 34 :: r=>unqF (r.length+1) r [] 1
 | _=>none
def hexR (h:Nat):Nat→Str
 | 0=>[]
 | k+1=>hexD (h / 16 ^ k % 16) :: hexR h k
theorem hexR_len (h:Nat):∀ k,(hexR h k).length=k
 | 0=>rfl
 | k+1=>by simp [hexR,hexR_len h k]
section
variable {α:Type} [DecidableEq α]
theorem subset_len:∀ (A B:List α),A.Nodup→(∀ x∈A,x∈B)→A.length≤B.length
 | [],B,_,_=>by simp
 | x :: A,B,hn,hs=>by
  have hx:=hs x (by simp);rw [List.nodup_cons] at hn;have h1:=subset_len A (B.erase x) hn.2 (fun y hy=>(List.mem_erase_of_ne (by rintro rfl; exact hn.1 hy)).2 (hs y (by simp [hy])));rw [List.length_erase_of_mem hx] at h1;have:0<B.length:=List.length_pos_of_mem hx;simp only [List.length_cons]
  omega
theorem subset_back {A B:List α} (hn:A.Nodup) (hs:∀ x∈A,x∈B) (hl:B.length≤A.length):∀ x∈B,x∈A:=by
 intro b hb;refine Decidable.byContradiction fun hna => ?_;have h1:=subset_len A (B.erase b) hn (fun y hy=>(List.mem_erase_of_ne (by rintro rfl; exact hna hy)).2 (hs y hy));rw [List.length_erase_of_mem hb] at h1;have:0<B.length:=List.length_pos_of_mem hb
 omega
def Down (lt:α→α→Prop) (l A:List α):Prop:=∀ a∈A,∀ z∈l,z ∉ A→lt a z
theorem down_unique {lt:α→α→Prop} {l A B:List α} (has:∀ x y,lt x y→¬ lt y x) (hA:A.Nodup) (hB:B.Nodup) (sA:∀ x∈A,x∈l) (sB:∀ x∈B,x∈l) (hl:A.length=B.length) (dA:Down lt l A) (dB:Down lt l B) :
  ∀ x∈A,x∈B:=by
 intro x hx;refine Decidable.byContradiction fun hxB => ?_;have h1:¬ ∀ y∈B,y∈A:=fun h=>hxB (subset_back hB h (by omega) x hx)
 apply h1
 intro y hy;refine Decidable.byContradiction fun hyA => ?_;exact has x y (dA x hx y (sB y hy) hyA) (dB y hy x (sA x hx) hxB)
theorem sorted_uniqueP {lt:α→α→Prop} (has:∀ x y,lt x y→¬ lt y x):∀ (A B:List α),A.Pairwise lt→B.Pairwise lt→(∀ x∈A,x∈B)→(∀ x∈B,x∈A)→A=B
 | [],[],_,_,_,_=>rfl
 | [],b :: B,_,_,_,h=>absurd (h b (by simp)) (by simp)
 | a :: A,[],_,_,h,_=>absurd (h a (by simp)) (by simp)
 | a :: A,b :: B,pA,pB,h1,h2=>by
  rw [List.pairwise_cons] at pA pB
  have e:a=b:=by
   refine Decidable.byContradiction fun hne => ?_
   have ha:a∈B:=by
    rcases List.mem_cons.1 (h1 a (by simp)) with h | h
    ·exact absurd h hne
    ·exact h
   have hb:b∈A:=by
    rcases List.mem_cons.1 (h2 b (by simp)) with h | h
    ·exact absurd h.symm hne
    ·exact h
   exact has a b (pA.1 b hb) (pB.1 a ha)
  subst e;have irr:∀ x,¬ lt x x:=fun x h=>has x x h h
  rw [sorted_uniqueP has A B pA.2 pB.2 (fun x hx=>by
    rcases List.mem_cons.1 (h1 x (by simp [hx])) with h | h
    ·subst h;exact absurd (pA.1 _ hx) (irr _)
    ·exact h) (fun x hx=>by
    rcases List.mem_cons.1 (h2 x (by simp [hx])) with h | h
    ·subst h;exact absurd (pB.1 _ hx) (irr _)
    ·exact h)]
end
def ltH (h:Str→Nat) (a b:Str):Prop:=h a<h b∨(h a=h b∧a<b)
theorem str_irrefl (a:Str):¬ a<a:=List.lt_irrefl a
theorem str_asymm {a b:Str} (h:a<b):¬ b<a:=List.lt_asymm h
theorem str_total {a b:Str} (h:¬ a<b) (h2:¬ b<a):a=b:=List.le_antisymm (by simpa using h2) (by simpa using h)
theorem ltH_asymm (h:Str→Nat) (a b:Str):ltH h a b→¬ ltH h b a:=by
 rintro (h1 | ⟨h1,h2⟩) (h3 | ⟨h3,h4⟩)
 ·omega
 ·omega
 ·omega
 ·exact str_asymm h2 h4
def LeastSpec (h:Str→Nat) (ids:List Str) (many:Nat) (out:List Str):Prop :=
 out.Pairwise (· < ·)∧(∀ x∈out,x∈ids)∧Down (ltH h) ids out∧out.length=min many ids.length
theorem nodup_of_lt {l:List Str} (h:l.Pairwise (· < ·)):l.Nodup:=by
 refine List.Pairwise.imp ?_ h;intro a b hab e;subst e;exact str_irrefl _ hab
theorem LeastSpec.unique {h:Str→Nat} {ids:List Str} {many:Nat} {a b:List Str} (ha:LeastSpec h ids many a) (hb:LeastSpec h ids many b):a=b:=by
 obtain ⟨a1,a2,a3,a4⟩:=ha;obtain ⟨b1,b2,b3,b4⟩:=hb;have hab:=down_unique (ltH_asymm h) (nodup_of_lt a1) (nodup_of_lt b1) a2 b2 (a4.trans b4.symm) a3 b3;have hba:=down_unique (ltH_asymm h) (nodup_of_lt b1) (nodup_of_lt a1) b2 a2 (b4.trans a4.symm) b3 a3;exact sorted_uniqueP (fun _ _=>str_asymm) a b a1 b1 hab hba
def LeastInv (h:Str→Nat) (ids:List Str) (many:Nat) (out:List Str):Prop :=
 out.Pairwise (· < ·)∧(∀ x∈out,x∈ids)∧Down (ltH h) ids out∧min many ids.length≤out.length∧out.length≤ids.length
theorem LeastInv.start {h:Str→Nat} {ids:List Str} {many:Nat} (hs:ids.Pairwise (· < ·)):LeastInv h ids many ids :=
 ⟨hs,fun _ h=>h,fun _ _ z hz hn=>absurd hz hn,by omega,by omega⟩
theorem LeastInv.done {h:Str→Nat} {ids:List Str} {many:Nat} {out:List Str} (hi:LeastInv h ids many out) (hl:out.length≤many):LeastSpec h ids many out:=by
 obtain ⟨a,b,c,d,e⟩:=hi;exact ⟨a,b,c,by omega⟩
def WorstAt (h:Str→Nat) (l:List Str) (k i:Nat):Prop :=
 i<l.length∧∀ j,j<k→(hj:j<l.length)→h l[j]≤h (l.getD i [])∧(i<j→h l[j]<h (l.getD i []))
theorem WorstAt.start {h:Str→Nat} {l:List Str} (hl:0<l.length):WorstAt h l 0 0:=⟨hl,fun j hj=>absurd hj (by omega)⟩
theorem WorstAt.take {h:Str→Nat} {l:List Str} {k i:Nat} (hw:WorstAt h l k i) (hk:k<l.length) (hle:h (l.getD i [])≤h l[k]):WorstAt h l (k+1) k:=by
 have e:l.getD k []=l[k]:=by simp [List.getD,hk]
 refine ⟨hk,fun j hj hjl => ?_⟩;rw [e]
 by_cases hjk:j=k
 ·subst hjk;exact ⟨Nat.le_refl _,fun h=>absurd h (by omega)⟩
 ·have:=(hw.2 j (by omega) hjl).1;exact ⟨by omega,fun h=>absurd h (by omega)⟩
theorem WorstAt.keep {h:Str→Nat} {l:List Str} {k i:Nat} (hw:WorstAt h l k i) (hk:k<l.length) (hle:h l[k]<h (l.getD i [])):WorstAt h l (k+1) i:=by
 refine ⟨hw.1,fun j hj hjl => ?_⟩
 by_cases hjk:j=k
 ·subst hjk;exact ⟨by omega,fun _=>hle⟩
 ·exact hw.2 j (by omega) hjl
theorem LeastInv.step {h:Str→Nat} {ids:List Str} {many:Nat} {out:List Str} {i:Nat} (hi:LeastInv h ids many out) (hl:many<out.length) (hw:WorstAt h out out.length i):LeastInv h ids many (out.eraseIdx i):=by
 obtain ⟨a,b,c,d,e⟩:=hi;obtain ⟨hil,hw⟩:=hw;have hsub:=List.eraseIdx_sublist out i;have hlen:(out.eraseIdx i).length=out.length - 1:=List.length_eraseIdx_of_lt hil;refine ⟨a.sublist hsub,fun x hx=>b x (hsub.subset hx),?_,by omega,by omega⟩;intro x hx z hz hzn
 by_cases hzo:z∈out
 ·-- z is the worst
  obtain ⟨j,hj,rfl⟩:=List.getElem_of_mem hzo
  have hji:j=i:=by
   refine Decidable.byContradiction fun hne=>hzn ?_;rw [List.mem_eraseIdx_iff_getElem?];exact ⟨j,hne,by simp [hj]⟩
  subst hji;rw [List.mem_eraseIdx_iff_getElem?] at hx;obtain ⟨m,hmi,hm⟩:=hx;obtain ⟨hml,rfl⟩:=List.getElem?_eq_some_iff.1 hm
  have eg:out.getD j []=out[j]:=by simp [List.getD,hj]
  have h1:=hw m hml hml;rw [eg] at h1;rw [List.pairwise_iff_getElem] at a
  by_cases hlt:m<j
  ·by_cases heq:h out[m]=h out[j]
   ·exact .inr ⟨heq,a m j hml hj hlt⟩
   ·exact .inl (by omega)
  ·exact .inl (h1.2 (by omega))
 ·exact c x (hsub.subset hx) z hz hzo
end Go.Proofs.YtnfflgicngeekaaGreatDoor
