/- Texts of the proof of QuerySearches, put together: RegG. -/
import Derived.Test.YtnfflgicngeekaaGreatDoorQuerySearchesZ2
import Derived.Test.YtnfflgicngeekaaGreatDoorQuerySearchesZ9
set_option linter.unusedVariables false
set_option linter.unusedSimpArgs false
namespace Go.Proofs.YtnfflgicngeekaaGreatDoor
open Go.RowKit
def IsSl (B:Nat) (t:TypeId) (cs:Array Value) (v:Value) (w:World):Prop:=∃ g,v = .slice (some ⟨g,0,none⟩) cs.size cs.size∧B≤g∧Blk w g t cs
def IsPtr (B:Nat) (t:TypeId) (q:Array Value→Prop) (v:Value) (w:World):Prop:=∃ g cs,v = .pointer (some ⟨g,0,none⟩)∧B≤g∧q cs∧Blk w g t cs
theorem IsSl.mod {B b:Nat} {t:TypeId} {cs:Array Value} (hb:b<B) (v:Value) (w w':World) (h:IsSl B t cs v w) (hm:Mod (· = b) w w'):IsSl B t cs v w':=by
 obtain ⟨g,rfl,hg,h⟩:=h;exact ⟨g,rfl,hg,h.modb hm (by omega)⟩
theorem IsPtr.mod {B b:Nat} {t:TypeId} {q:Array Value→Prop} (hb:b<B) (v:Value) (w w':World) (h:IsPtr B t q v w) (hm:Mod (· = b) w w'):IsPtr B t q v w':=by
 obtain ⟨g,cs,rfl,hg,hq,h⟩:=h;exact ⟨g,cs,rfl,hg,hq,h.modb hm (by omega)⟩
def Fact.sl {B b:Nat} (hb:b<B) (t:TypeId) (cs:Array Value):Fact (Mod (· = b)):=⟨IsSl B t cs,IsSl.mod hb,none,none⟩
def Fact.ptr {B b:Nat} (hb:b<B) (t:TypeId) (q:Array Value→Prop):Fact (Mod (· = b)):=⟨IsPtr B t q,IsPtr.mod hb,none,none⟩
theorem IsSl.new {B:Nat} (w:World) (t:TypeId) (cs:Array Value) (n:Nat) (hn:n=cs.size) (hB:B≤w.heap.size):IsSl B t cs (.slice (some ⟨w.heap.size,0,none⟩) n n) (w.alloc (.cells cs t)):=by
 subst hn;exact ⟨_,rfl,hB,Blk.new _ _ _⟩
theorem IsPtr.new {B:Nat} (w:World) (t:TypeId) (cs:Array Value) (q:Array Value→Prop) (hq:q cs) (hB:B≤w.heap.size):IsPtr B t q (.pointer (some ⟨w.heap.size,0,none⟩)) (w.alloc (.cells cs t)):=⟨_,cs,rfl,hB,hq,Blk.new _ _ _⟩
structure GB (W0:World) (S:Nat→Prop) (B b N:Nat) (c:(Nat→Bool)→Nat) (G:(Nat→Bool)→World→Prop) (D:Nat→Bool) (w:World):Prop where
 strm:Strm w b (N+c D)
 mod:Mod S W0 w
 big:B≤w.heap.size
 g:G D w
section
variable {W0:World} {S:Nat→Prop} {B b N:Nat} {c:(Nat→Bool)→Nat} {G:(Nat→Bool)→World→Prop} {D:Nat→Bool} {w w':World} {i k:Nat}
theorem GB.start (h:Strm w b N) (hM:Mod S W0 w) (hB:B≤w.heap.size) (hG:G (fun _=>false) w.drew):GB W0 S B b N c G (fun _=>false) w.drew :=
 ⟨h.drew.more (Nat.le_add_right _ _),hM.drew,hB,hG⟩
theorem GB.quiet (h:GB W0 S B b N c G D w) (hm:Pure w w') (hc:c D≤c (upd D i true)) (hG:G (upd D i true) w'):GB W0 S B b N c G (upd D i true) w' :=
 ⟨(h.strm.pure hm).more (by omega),h.mod.transp hm,Nat.le_trans h.big hm.size,hG⟩
theorem GB.asks (h:GB W0 S B b N c G D w) (hSb:∀ j,j=b→j<W0.heap.size→S j) (hS:Strm w' b (N+c D+k)) (hm:Mod (· = b) w w') (hc:c D+k≤c (upd D i true)) (hG:G (upd D i true) w'):GB W0 S B b N c G (upd D i true) w' :=
 ⟨hS.more (by omega),h.mod.trans' hm hSb,Nat.le_trans h.big hm.size,hG⟩
theorem GB.writes {T:Nat→Prop} (h:GB W0 S B b N c G D w) (hT:∀ j,T j→b<j) (hTS:∀ j,T j→j<W0.heap.size→S j) (hm:Mod T w w') (hc:c D≤c (upd D i true)) (hG:G (upd D i true) w'):GB W0 S B b N c G (upd D i true) w' :=
 ⟨(h.strm.mod hm (fun j hj ht=>by have:=hT j ht; omega)).more (by omega),h.mod.trans' hm hTS,Nat.le_trans h.big hm.size,hG⟩
end
structure PB (W0:World) (S:Nat→Prop) (B:Nat) (G:(Nat→Bool)→World→Prop) (D:Nat→Bool) (w:World):Prop where
 mod:Mod S W0 w
 big:B≤w.heap.size
 g:G D w
section
variable {W0:World} {S:Nat→Prop} {B:Nat} {G:(Nat→Bool)→World→Prop} {D:Nat→Bool} {w w':World} {i:Nat}
theorem PB.start (hM:Mod S W0 w) (hB:B≤w.heap.size) (hG:G (fun _=>false) w.drew):PB W0 S B G (fun _=>false) w.drew:=⟨hM.drew,hB,hG⟩
theorem PB.quiet (h:PB W0 S B G D w) (hm:Pure w w') (hG:G (upd D i true) w'):PB W0 S B G (upd D i true) w':=⟨h.mod.transp hm,Nat.le_trans h.big hm.size,hG⟩
theorem PB.writes {T:Nat→Prop} (h:PB W0 S B G D w) (hTS:∀ j,T j→j<W0.heap.size→S j) (hm:Mod T w w') (hG:G (upd D i true) w'):PB W0 S B G (upd D i true) w':=⟨h.mod.trans' hm hTS,Nat.le_trans h.big hm.size,hG⟩
end
section
variable {R:World→World→Prop} {Fs:List (Fact R)} {B:(Nat→Bool)→World→Prop} {a0 a:Act} {ops:Array Oper} {D:Nat→Bool} {V:Nat→Value} {w w':World} {i:Nat} {o:Oper} {v:Value}
theorem InvF.eqI (hI:InvF Fs B D V w) {k:Nat} {u:Value} (hd:D k=true) (hf:factAt Fs k = .is u):V k=u:=by
 have h:=hI.2 k hd (by rw [hf]; rfl);rw [hf] at h;exact h
theorem RegAt.ot (hR:RegAt a0 ops D V a i o) (t:Nat) {u:Value} (hs:srcOf ops t=none:=by kernel_rfl) (hv:a0.tmps[t]? = some u:=by rfl):a.tmps[t]? = some u:=hR.frame.other hs hv
theorem InvF.tm (hI:InvF Fs B D V w) (hR:RegAt a0 ops D V a i o) (t k:Nat) {u:Value} (h:(predB o k && srcOf ops t == some k)=true:=by kernel_rfl) (hf:factAt Fs k = .is u:=by rfl):a.tmps[t]? = some u:=by
 rw [Bool.and_eq_true] at h;have hs:srcOf ops t=some k:=(by simpa using h.2);rw [hR.frame.done hs hR.ok (hR.pred k h.1),hI.eqI (hR.pred k h.1) hf]
end
def KeepG (G:World→Prop):Prop:=∀ (D:Nat→Bool) (i:Nat) (z z':World),G z→Mod (fun _=>False) z z'→G z'
section
variable {Fs:List (Fact (Mod fun _=>False))} {W0:World} {S:Nat→Prop} {b:Nat} {G:World→Prop} {a0 a:Act} {ops:Array Oper} {D:Nat→Bool} {V:Nat→Value} {w w':World} {i:Nat} {o:Oper} {v:Value}
theorem InvF.nq (hI:InvF Fs (PB W0 S b fun _=>G) D V w) (hR:RegAt a0 ops D V a i o) (hG:KeepG G) (hf:factAt Fs i = .is v) (hr:refsOk Fs ops=true:=by kernel_rfl):InvF Fs (PB W0 S b fun _=>G) (upd D i true) (upd V i v) w :=
 hI.next hR hr (Mod.refl _ _) (PB.quiet hI.1 (Mod.refl _ _) (hG D i w w hI.1.g (Mod.refl _ _))) (by rw [hf]; exact upd_same V i v)
theorem InvF.nc (hI:InvF Fs (PB W0 S b fun _=>G) D V w) (hR:RegAt a0 ops D V a i o) (hG:KeepG G) (hm:Pure w w') (hf:factAt Fs i = .is v) (hr:refsOk Fs ops=true:=by kernel_rfl):InvF Fs (PB W0 S b fun _=>G) (upd D i true) (upd V i v) w' :=
 hI.next hR hr hm (PB.quiet hI.1 hm (hG D i w w' hI.1.g hm)) (by rw [hf]; exact upd_same V i v)
end
section
variable {R:World→World→Prop} {Fs:List (Fact R)} {B:(Nat→Bool)→World→Prop} {D:Nat→Bool} {V:Nat→Value} {w:World} {n:Nat}
theorem InvF.eqA (hI:InvF Fs B D V w) (hD:∀ k,k<n→D k=true) (k:Nat) {u:Value} (hk:k<n:=by decide) (hf:factAt Fs k = .is u:=by rfl):V k=u:=hI.eqI (hD k hk) hf
end
def ModD (w w':World):Prop:=Pure w w'∧w.drawn≤w'.drawn
theorem ModD.refl (w:World):ModD w w:=⟨Mod.refl _ _,Nat.le_refl _⟩
theorem ModD.alloc (w:World) (o:Obj):ModD w (w.alloc o):=⟨(Mod.refl _ _).alloc o,Nat.le_refl _⟩
theorem ModD.trans {a b c:World} (h:ModD a b) (k:ModD b c):ModD a c:=⟨h.1.trans k.1,Nat.le_trans h.2 k.2⟩
theorem pure_alloc (w:World) (o:Obj):Pure w (w.alloc o):=(Mod.refl _ _).alloc o
theorem mod_grown {w w':World} {row:Option Nat} (h:w.grownBy w' row):Mod (fun k=>row=some k) w w':=(Mod.refl _ _).grown h (fun k hk => .inl hk)
end Go.Proofs.YtnfflgicngeekaaGreatDoor
