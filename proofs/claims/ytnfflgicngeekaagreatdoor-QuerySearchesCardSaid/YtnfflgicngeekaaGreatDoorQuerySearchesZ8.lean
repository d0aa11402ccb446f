/- Texts of the proof of QuerySearches, put together: Base, Stream. -/
import Derived.Test.YtnfflgicngeekaaGreatDoorRows
import Derived.WalkKit
import Derived.WalkSpells
import Derived.WalkLawsBesides
import Derived.Lib.Hide
import Derived.BigQuiet
import Derived.Deep.QuietTactic
import Derived.Deep.LoopGhost
set_option linter.unusedVariables false
set_option linter.unusedSimpArgs false
set_option maxHeartbeats 400000
namespace Go.Proofs.YtnfflgicngeekaaGreatDoor
open Go.RowKit
structure Mod (S:Nat→Prop) (w w':World):Prop where
 os:w'.os=w.os
 tape:w'.tape=w.tape
 output:w'.output=w.output
 size:w.heap.size≤w'.heap.size
 block:∀ k,k<w.heap.size→¬ S k→w'.heap[k]? = w.heap[k]?
abbrev Pure (w w':World):Prop:=Mod (fun _=>False) w w'
theorem Mod.refl (S:Nat→Prop) (w:World):Mod S w w:=⟨rfl,rfl,rfl,Nat.le_refl _,fun _ _ _=>rfl⟩
theorem Mod.trans {S:Nat→Prop} {a b c:World} (h:Mod S a b) (k:Mod S b c):Mod S a c :=
 ⟨k.os.trans h.os,k.tape.trans h.tape,k.output.trans h.output,Nat.le_trans h.size k.size,
  fun i hi hs=>(k.block i (Nat.lt_of_lt_of_le hi h.size) hs).trans (h.block i hi hs)⟩
theorem Mod.trans' {S T:Nat→Prop} {a b c:World} (h:Mod S a b) (k:Mod T b c) (hT:∀ i,T i→i<a.heap.size→S i):Mod S a c :=
 ⟨k.os.trans h.os,k.tape.trans h.tape,k.output.trans h.output,Nat.le_trans h.size k.size,
  fun i hi hs=>(k.block i (Nat.lt_of_lt_of_le hi h.size) (fun ht=>hs (hT i ht hi))).trans (h.block i hi hs)⟩
theorem Mod.mono {S T:Nat→Prop} {a b:World} (h:Mod S a b) (hST:∀ i,S i→T i):Mod T a b :=
 ⟨h.os,h.tape,h.output,h.size,fun i hi hs=>h.block i hi (fun x=>hs (hST i x))⟩
theorem Mod.of_pure {S:Nat→Prop} {a b:World} (h:Pure a b):Mod S a b:=h.mono (fun _ x=>x.elim)
theorem Mod.drew {S:Nat→Prop} {a w:World} (h:Mod S a w):Mod S a w.drew:=⟨h.os,h.tape,h.output,h.size,h.block⟩
theorem Mod.drewN {S:Nat→Prop} {a w:World} (h:Mod S a w) (n:Nat):Mod S a (w.drewN n):=⟨h.os,h.tape,h.output,h.size,h.block⟩
theorem Mod.alloc {S:Nat→Prop} {a w:World} (h:Mod S a w) (o:Obj):Mod S a (w.alloc o) :=
 ⟨h.os,h.tape,h.output,Nat.le_trans h.size (by simp),fun k hk hs=>(Below.heap_alloc w o k (Nat.lt_of_lt_of_le hk h.size)).trans (h.block k hk hs)⟩
theorem Mod.setCell {S:Nat→Prop} {a w:World} (h:Mod S a w) {p:Addr} (hp:S p.block∨a.heap.size≤p.block) (u:Value):Mod S a (w.setCell p u) :=
 ⟨h.os,h.tape,h.output,by simpa [World.setCell] using h.size,fun k hk hs=>(Below.heap_setCell w p u k (by
  rintro rfl
  rcases hp with hp | hp
  ·exact hs hp
  ·omega)).trans (h.block k hk hs)⟩
theorem Mod.below {a w:World} (h:Pure a w):Below a.heap.size a w:=⟨h.os,h.tape,h.output,h.size,fun k hk=>h.block k hk id⟩
theorem Mod.of_below {a w:World} (h:Below a.heap.size a w):Pure a w:=⟨h.os,h.tape,h.output,h.size,fun k hk _=>h.block k hk⟩
theorem Mod.grown {S:Nat→Prop} {a w w':World} {row:Option Nat} (h:Mod S a w) (hg:w.grownBy w' row) (hr:∀ k,row=some k→S k∨a.heap.size≤k):Mod S a w' :=
 ⟨hg.os.trans h.os,hg.tape.trans h.tape,hg.output.trans h.output,Nat.le_trans h.size hg.size,fun k hk hs =>
  (hg.block k (Nat.lt_of_lt_of_le hk h.size) (fun e=>by
   rcases hr k e.symm with x | x
   ·exact hs x
   ·omega)).trans (h.block k hk hs)⟩
theorem Mod.cell {S:Nat→Prop} {w w':World} (h:Mod S w w') {p:Addr} (hp:p.block<w.heap.size) (hs:¬ S p.block):w'.cell? p=w.cell? p :=
 World.cell?_of_block (w:=w) (h.block p.block hp hs)
theorem Mod.frozen {S:Nat→Prop} {w w':World} (h:Mod S w w') {p:Addr} (hp:p.block<w.heap.size) (hs:¬ S p.block):w'.frozen? p=w.frozen? p :=
 World.frozen?_of_block (w:=w) (h.block p.block hp hs)
theorem lt_of_heap {w:World} {g:Nat} {o:Obj} (h:w.heap[g]? = some o):g<w.heap.size:=by
 rcases Nat.lt_or_ge g w.heap.size with hlt | hge
 ·exact hlt
 ·rw [Array.getElem?_eq_none hge] at h; cases h
theorem lt_of_cell {w:World} {p:Addr} {u:Value} (h:w.cell? p=some u):p.block<w.heap.size:=by
 unfold World.cell? at h
 split at h
 ·rename_i hh; exact lt_of_heap hh
 ·cases h
theorem Mod.keep {S:Nat→Prop} {X Y:World} {a:Addr} {v:Value} (hm:Mod S X Y) (h:X.cell? a=some v) (hs:¬ S a.block):Y.cell? a=some v :=
 (hm.cell (lt_of_cell h) hs).trans h
theorem Mod.keepf {S:Nat→Prop} {X Y:World} {a:Addr} {v:Value} (hm:Mod S X Y) (h:X.cell? a=some v) (hf:X.frozen? a=false) (hs:¬ S a.block):Y.frozen? a=false :=
 (hm.frozen (lt_of_cell h) hs).trans hf
def Blk (w:World) (g:Nat) (t:TypeId) (cs:Array Value):Prop:=w.heap[g]? = some (.cells cs t (0,0))
section
variable {w w':World} {g:Nat} {t:TypeId} {cs:Array Value}
theorem Blk.lt (h:Blk w g t cs):g<w.heap.size:=lt_of_heap h
theorem Blk.cell (h:Blk w g t cs) (i:Nat):w.cell? ⟨g,i,none⟩=cs[i]?:=cell_of_row w g i cs t (0,0) h
theorem Blk.frozen (h:Blk w g t cs) (i:Nat):w.frozen? ⟨g,i,none⟩=false:=by
 unfold Blk at h;simp [World.frozen?,h]
theorem hd_ {p:Prop} (h:p):Hid p:=Lib.hid h
theorem Blk.c1 (h:Blk w g t cs) {v0:Value} (e0:cs[0]? = some v0:=by rfl):w.cell? ⟨g,0,none⟩=some v0:=(h.cell 0).trans e0
theorem Blk.c2 (h:Blk w g t cs) {v0 v1:Value} (e0:cs[0]? = some v0:=by rfl) (e1:cs[1]? = some v1:=by rfl):w.cell? ⟨g,0,none⟩=some v0∧w.cell? ⟨g,1,none⟩=some v1:=⟨(h.cell 0).trans e0,(h.cell 1).trans e1⟩
theorem Blk.c3 (h:Blk w g t cs) {v0 v1 v2:Value} (e0:cs[0]? = some v0:=by rfl) (e1:cs[1]? = some v1:=by rfl) (e2:cs[2]? = some v2:=by rfl):w.cell? ⟨g,0,none⟩=some v0∧w.cell? ⟨g,1,none⟩=some v1∧w.cell? ⟨g,2,none⟩=some v2:=⟨(h.cell 0).trans e0,(h.cell 1).trans e1,(h.cell 2).trans e2⟩
theorem Blk.c4 (h:Blk w g t cs) {v0 v1 v2 v3:Value} (e0:cs[0]? = some v0:=by rfl) (e1:cs[1]? = some v1:=by rfl) (e2:cs[2]? = some v2:=by rfl) (e3:cs[3]? = some v3:=by rfl):w.cell? ⟨g,0,none⟩=some v0∧w.cell? ⟨g,1,none⟩=some v1∧w.cell? ⟨g,2,none⟩=some v2∧w.cell? ⟨g,3,none⟩=some v3:=⟨(h.cell 0).trans e0,(h.cell 1).trans e1,(h.cell 2).trans e2,(h.cell 3).trans e3⟩
theorem Blk.c5 (h:Blk w g t cs) {v0 v1 v2 v3 v4:Value} (e0:cs[0]? = some v0:=by rfl) (e1:cs[1]? = some v1:=by rfl) (e2:cs[2]? = some v2:=by rfl) (e3:cs[3]? = some v3:=by rfl) (e4:cs[4]? = some v4:=by rfl):w.cell? ⟨g,0,none⟩=some v0∧w.cell? ⟨g,1,none⟩=some v1∧w.cell? ⟨g,2,none⟩=some v2∧w.cell? ⟨g,3,none⟩=some v3∧w.cell? ⟨g,4,none⟩=some v4:=⟨(h.cell 0).trans e0,(h.cell 1).trans e1,(h.cell 2).trans e2,(h.cell 3).trans e3,(h.cell 4).trans e4⟩
theorem Blk.c6 (h:Blk w g t cs) {v0 v1 v2 v3 v4 v5:Value} (e0:cs[0]? = some v0:=by rfl) (e1:cs[1]? = some v1:=by rfl) (e2:cs[2]? = some v2:=by rfl) (e3:cs[3]? = some v3:=by rfl) (e4:cs[4]? = some v4:=by rfl) (e5:cs[5]? = some v5:=by rfl):w.cell? ⟨g,0,none⟩=some v0∧w.cell? ⟨g,1,none⟩=some v1∧w.cell? ⟨g,2,none⟩=some v2∧w.cell? ⟨g,3,none⟩=some v3∧w.cell? ⟨g,4,none⟩=some v4∧w.cell? ⟨g,5,none⟩=some v5:=⟨(h.cell 0).trans e0,(h.cell 1).trans e1,(h.cell 2).trans e2,(h.cell 3).trans e3,(h.cell 4).trans e4,(h.cell 5).trans e5⟩
theorem Blk.c7 (h:Blk w g t cs) {v0 v1 v2 v3 v4 v5 v6:Value} (e0:cs[0]? = some v0:=by rfl) (e1:cs[1]? = some v1:=by rfl) (e2:cs[2]? = some v2:=by rfl) (e3:cs[3]? = some v3:=by rfl) (e4:cs[4]? = some v4:=by rfl) (e5:cs[5]? = some v5:=by rfl) (e6:cs[6]? = some v6:=by rfl):w.cell? ⟨g,0,none⟩=some v0∧w.cell? ⟨g,1,none⟩=some v1∧w.cell? ⟨g,2,none⟩=some v2∧w.cell? ⟨g,3,none⟩=some v3∧w.cell? ⟨g,4,none⟩=some v4∧w.cell? ⟨g,5,none⟩=some v5∧w.cell? ⟨g,6,none⟩=some v6:=⟨(h.cell 0).trans e0,(h.cell 1).trans e1,(h.cell 2).trans e2,(h.cell 3).trans e3,(h.cell 4).trans e4,(h.cell 5).trans e5,(h.cell 6).trans e6⟩
theorem Blk.c8 (h:Blk w g t cs) {v0 v1 v2 v3 v4 v5 v6 v7:Value} (e0:cs[0]? = some v0:=by rfl) (e1:cs[1]? = some v1:=by rfl) (e2:cs[2]? = some v2:=by rfl) (e3:cs[3]? = some v3:=by rfl) (e4:cs[4]? = some v4:=by rfl) (e5:cs[5]? = some v5:=by rfl) (e6:cs[6]? = some v6:=by rfl) (e7:cs[7]? = some v7:=by rfl):w.cell? ⟨g,0,none⟩=some v0∧w.cell? ⟨g,1,none⟩=some v1∧w.cell? ⟨g,2,none⟩=some v2∧w.cell? ⟨g,3,none⟩=some v3∧w.cell? ⟨g,4,none⟩=some v4∧w.cell? ⟨g,5,none⟩=some v5∧w.cell? ⟨g,6,none⟩=some v6∧w.cell? ⟨g,7,none⟩=some v7:=⟨(h.cell 0).trans e0,(h.cell 1).trans e1,(h.cell 2).trans e2,(h.cell 3).trans e3,(h.cell 4).trans e4,(h.cell 5).trans e5,(h.cell 6).trans e6,(h.cell 7).trans e7⟩
theorem Blk.c1f (h:Blk w g t cs) {v0:Value} (e0:cs[0]? = some v0:=by rfl):w.cell? ⟨g,0,none⟩=some v0∧w.frozen? ⟨g,0,none⟩=false:=⟨(h.cell 0).trans e0,h.frozen 0⟩
theorem Blk.c2f (h:Blk w g t cs) {v0 v1:Value} (e0:cs[0]? = some v0:=by rfl) (e1:cs[1]? = some v1:=by rfl):w.cell? ⟨g,0,none⟩=some v0∧w.cell? ⟨g,1,none⟩=some v1∧w.frozen? ⟨g,0,none⟩=false∧w.frozen? ⟨g,1,none⟩=false:=⟨(h.cell 0).trans e0,(h.cell 1).trans e1,h.frozen 0,h.frozen 1⟩
theorem Blk.c4f (h:Blk w g t cs) {v0 v1 v2 v3:Value} (e0:cs[0]? = some v0:=by rfl) (e1:cs[1]? = some v1:=by rfl) (e2:cs[2]? = some v2:=by rfl) (e3:cs[3]? = some v3:=by rfl):w.cell? ⟨g,0,none⟩=some v0∧w.cell? ⟨g,1,none⟩=some v1∧w.cell? ⟨g,2,none⟩=some v2∧w.cell? ⟨g,3,none⟩=some v3∧w.frozen? ⟨g,0,none⟩=false∧w.frozen? ⟨g,1,none⟩=false∧w.frozen? ⟨g,2,none⟩=false∧w.frozen? ⟨g,3,none⟩=false:=⟨(h.cell 0).trans e0,(h.cell 1).trans e1,(h.cell 2).trans e2,(h.cell 3).trans e3,h.frozen 0,h.frozen 1,h.frozen 2,h.frozen 3⟩
theorem Blk.c5f (h:Blk w g t cs) {v0 v1 v2 v3 v4:Value} (e0:cs[0]? = some v0:=by rfl) (e1:cs[1]? = some v1:=by rfl) (e2:cs[2]? = some v2:=by rfl) (e3:cs[3]? = some v3:=by rfl) (e4:cs[4]? = some v4:=by rfl):w.cell? ⟨g,0,none⟩=some v0∧w.cell? ⟨g,1,none⟩=some v1∧w.cell? ⟨g,2,none⟩=some v2∧w.cell? ⟨g,3,none⟩=some v3∧w.cell? ⟨g,4,none⟩=some v4∧w.frozen? ⟨g,0,none⟩=false∧w.frozen? ⟨g,1,none⟩=false∧w.frozen? ⟨g,2,none⟩=false∧w.frozen? ⟨g,3,none⟩=false∧w.frozen? ⟨g,4,none⟩=false:=⟨(h.cell 0).trans e0,(h.cell 1).trans e1,(h.cell 2).trans e2,(h.cell 3).trans e3,(h.cell 4).trans e4,h.frozen 0,h.frozen 1,h.frozen 2,h.frozen 3,h.frozen 4⟩
theorem Blk.c7f (h:Blk w g t cs) {v0 v1 v2 v3 v4 v5 v6:Value} (e0:cs[0]? = some v0:=by rfl) (e1:cs[1]? = some v1:=by rfl) (e2:cs[2]? = some v2:=by rfl) (e3:cs[3]? = some v3:=by rfl) (e4:cs[4]? = some v4:=by rfl) (e5:cs[5]? = some v5:=by rfl) (e6:cs[6]? = some v6:=by rfl):w.cell? ⟨g,0,none⟩=some v0∧w.cell? ⟨g,1,none⟩=some v1∧w.cell? ⟨g,2,none⟩=some v2∧w.cell? ⟨g,3,none⟩=some v3∧w.cell? ⟨g,4,none⟩=some v4∧w.cell? ⟨g,5,none⟩=some v5∧w.cell? ⟨g,6,none⟩=some v6∧w.frozen? ⟨g,0,none⟩=false∧w.frozen? ⟨g,1,none⟩=false∧w.frozen? ⟨g,2,none⟩=false∧w.frozen? ⟨g,3,none⟩=false∧w.frozen? ⟨g,4,none⟩=false∧w.frozen? ⟨g,5,none⟩=false∧w.frozen? ⟨g,6,none⟩=false:=⟨(h.cell 0).trans e0,(h.cell 1).trans e1,(h.cell 2).trans e2,(h.cell 3).trans e3,(h.cell 4).trans e4,(h.cell 5).trans e5,(h.cell 6).trans e6,h.frozen 0,h.frozen 1,h.frozen 2,h.frozen 3,h.frozen 4,h.frozen 5,h.frozen 6⟩
theorem Blk.c8f (h:Blk w g t cs) {v0 v1 v2 v3 v4 v5 v6 v7:Value} (e0:cs[0]? = some v0:=by rfl) (e1:cs[1]? = some v1:=by rfl) (e2:cs[2]? = some v2:=by rfl) (e3:cs[3]? = some v3:=by rfl) (e4:cs[4]? = some v4:=by rfl) (e5:cs[5]? = some v5:=by rfl) (e6:cs[6]? = some v6:=by rfl) (e7:cs[7]? = some v7:=by rfl):w.cell? ⟨g,0,none⟩=some v0∧w.cell? ⟨g,1,none⟩=some v1∧w.cell? ⟨g,2,none⟩=some v2∧w.cell? ⟨g,3,none⟩=some v3∧w.cell? ⟨g,4,none⟩=some v4∧w.cell? ⟨g,5,none⟩=some v5∧w.cell? ⟨g,6,none⟩=some v6∧w.cell? ⟨g,7,none⟩=some v7∧w.frozen? ⟨g,0,none⟩=false∧w.frozen? ⟨g,1,none⟩=false∧w.frozen? ⟨g,2,none⟩=false∧w.frozen? ⟨g,3,none⟩=false∧w.frozen? ⟨g,4,none⟩=false∧w.frozen? ⟨g,5,none⟩=false∧w.frozen? ⟨g,6,none⟩=false∧w.frozen? ⟨g,7,none⟩=false:=⟨(h.cell 0).trans e0,(h.cell 1).trans e1,(h.cell 2).trans e2,(h.cell 3).trans e3,(h.cell 4).trans e4,(h.cell 5).trans e5,(h.cell 6).trans e6,(h.cell 7).trans e7,h.frozen 0,h.frozen 1,h.frozen 2,h.frozen 3,h.frozen 4,h.frozen 5,h.frozen 6,h.frozen 7⟩
theorem Blk.new (w:World) (t:TypeId) (cs:Array Value):Blk (w.alloc (.cells cs t)) w.heap.size t cs:=heap_alloc_new w _
theorem Blk.drew (h:Blk w g t cs):Blk w.drew g t cs:=h
theorem Blk.drewN (h:Blk w g t cs) (n:Nat):Blk (w.drewN n) g t cs:=h
theorem Blk.alloc (h:Blk w g t cs) (o:Obj):Blk (w.alloc o) g t cs:=(Below.heap_alloc w o g h.lt).trans h
theorem Blk.set (h:Blk w g t cs) (i:Nat) (u:Value):Blk (w.setCell ⟨g,i,none⟩ u) g t (cs.setIfInBounds i u):=by
 unfold Blk at h ⊢;simp [World.setCell,Array.getElem?_modify,h]
theorem Blk.far (h:Blk w g t cs) {p:Addr} (hp:g≠p.block) (u:Value):Blk (w.setCell p u) g t cs:=(Below.heap_setCell w p u g hp).trans h
theorem Blk.mod {S:Nat→Prop} (h:Blk w g t cs) (hb:Mod S w w') (hg:¬ S g):Blk w' g t cs:=(hb.block g h.lt hg).trans h
end
def Strm (w:World) (b N:Nat):Prop:=∃ (A:Option Addr) (n c:Nat) (k:Nat),Blk w b 25 #[.slice A n c,.int .i64 k]∧k≤N∧n≤9223372036854775807 ∧
 (0<n→∃ g off,A=some ⟨g,off,none⟩∧g<b∧∀ i,i<n→∃ z:Int,w.cell? ⟨g,off+i,none⟩=some (.int .i64 z))
theorem Strm.more {w:World} {b N M:Nat} (h:Strm w b N) (hM:N≤M):Strm w b M:=by
 obtain ⟨A,n,c,k,h1,h2,h3⟩:=h;exact ⟨A,n,c,k,h1,by omega,h3⟩
theorem Strm.lt {w:World} {b N:Nat} (h:Strm w b N):b<w.heap.size:=by
 obtain ⟨A,n,c,k,h1,h2,h3⟩:=h;exact h1.lt
theorem Strm.mod {w w':World} {b N:Nat} {S:Nat→Prop} (h:Strm w b N) (hm:Mod S w w') (hs:∀ i,i≤b→¬ S i):Strm w' b N:=by
 have hlt:=h.lt;obtain ⟨A,n,c,k,h1,h2,h3,h4⟩:=h;refine ⟨A,n,c,k,h1.mod hm (hs b (Nat.le_refl _)),h2,h3,fun hn => ?_⟩;obtain ⟨g,off,rfl,hg,hc⟩:=h4 hn;refine ⟨g,off,rfl,hg,fun i hi => ?_⟩;obtain ⟨z,hz⟩:=hc i hi;exact ⟨z,by rw [hm.cell (p:=⟨g,off+i,none⟩) (Nat.lt_trans hg hlt) (hs g (by omega))]; exact hz⟩
theorem Strm.pure {w w':World} {b N:Nat} (h:Strm w b N) (hm:Pure w w'):Strm w' b N:=h.mod hm (fun _ _ x=>x)
theorem Strm.alloc {w:World} {b N:Nat} (h:Strm w b N) (o:Obj):Strm (w.alloc o) b N:=h.pure ((Mod.refl _ _).alloc o)
theorem Strm.setCell {w:World} {b N:Nat} (h:Strm w b N) {p:Addr} (hp:b<p.block) (u:Value):Strm (w.setCell p u) b N :=
 h.mod (S:=fun i=>i=p.block) (Mod.setCell (S:=fun i=>i=p.block) (p:=p) (Mod.refl _ _) (.inl rfl) u) (fun i hi e=>by omega)
theorem Strm.drewN {w:World} {b N:Nat} (h:Strm w b N) (n:Nat):Strm (w.drewN n) b N:=h
theorem Strm.drew {w:World} {b N:Nat} (h:Strm w b N):Strm w.drew b N:=h
def RowAt (w:World) (e:TypeId) (g off:Nat) (xs:List Value):Prop:=∃ arr fr,w.heap[g]? = some (.cells arr e fr)∧∀ i u,xs[i]? = some u→arr[off+i]? = some u
def Sl (w:World) (e:TypeId) (size:Nat) (v:Value) (xs:List Value):Prop :=
 ∃ A n c,v = .slice A n c∧n≤c∧c≤9223372036854775807∧xs.length=n*size∧(0<n→∃ g off,A=some ⟨g,off,none⟩∧RowAt w e g off xs)
section
variable {w w':World} {e:TypeId} {g off size:Nat} {xs:List Value} {v:Value}
theorem RowAt.lt (h:RowAt w e g off xs):g<w.heap.size:=by
 obtain ⟨arr,fr,h1,h2⟩:=h;exact lt_of_heap h1
theorem RowAt.cell (h:RowAt w e g off xs) {i:Nat} {u:Value} (hi:xs[i]? = some u):w.cell? ⟨g,off+i,none⟩=some u:=by
 obtain ⟨arr,fr,h1,h2⟩:=h;simp [World.cell?,h1,h2 i u hi]
theorem RowAt.mod {S:Nat→Prop} (h:RowAt w e g off xs) (hm:Mod S w w') (hs:¬ S g):RowAt w' e g off xs:=by
 have hlt:=h.lt;obtain ⟨arr,fr,h1,h2⟩:=h;exact ⟨arr,fr,(hm.block g hlt hs).trans h1,h2⟩
theorem Blk.row {cs:Array Value} (h:Blk w g e cs) (hx:∀ i u,xs[i]? = some u→cs[off+i]? = some u):RowAt w e g off xs:=⟨cs,(0,0),h,hx⟩
theorem Blk.row0 (h:Blk w g e xs.toArray):RowAt w e g 0 xs:=h.row (fun i u hu=>by simpa using hu)
theorem RowAt.ne {g':Nat} {t':TypeId} {cs':Array Value} (h:RowAt w e g off xs) (h':Blk w g' t' cs') (hne:e≠t'):g≠g':=by
 rintro rfl;obtain ⟨arr,fr,h1,h2⟩:=h;unfold Blk at h';rw [h1] at h'
 injection h' with h'
 injection h' with _ ht
 exact hne ht
theorem Sl.pure (h:Sl w e size v xs) (hm:Pure w w'):Sl w' e size v xs:=by
 obtain ⟨A,n,c,rfl,h1,h2,h3,h4⟩:=h;refine ⟨A,n,c,rfl,h1,h2,h3,fun hn => ?_⟩;obtain ⟨g,off,rfl,hr⟩:=h4 hn;exact ⟨g,off,rfl,hr.mod hm id⟩
theorem Sl.mod {S:Nat→Prop} (h:Sl w e size v xs) (hm:Mod S w w') (hs:∀ g arr fr,w.heap[g]? = some (.cells arr e fr)→¬ S g):Sl w' e size v xs:=by
 obtain ⟨A,n,c,rfl,h1,h2,h3,h4⟩:=h;refine ⟨A,n,c,rfl,h1,h2,h3,fun hn => ?_⟩;obtain ⟨g,off,rfl,arr,fr,hh,hr⟩:=h4 hn;exact ⟨g,off,rfl,RowAt.mod ⟨arr,fr,hh,hr⟩ hm (hs g arr fr hh)⟩
theorem Sl.strm {b N:Nat} (h:Sl w e size v xs) (hS:Strm w b N) (hm:Mod (· = b) w w') (he:e≠25):Sl w' e size v xs:=by
 obtain ⟨A,n,c,k,hB,_⟩:=hS;refine h.mod hm (fun g arr fr hh hg => ?_);subst hg;unfold Blk at hB;rw [hh] at hB
 injection hB with hB
 injection hB with _ ht
 exact he ht
theorem Sl.nil_:Sl w e size (.slice none 0 0) []:=⟨none,0,0,rfl,by omega,by omega,by simp,fun h=>absurd h (by omega)⟩
end
section
variable {w w':World} {e e':TypeId} {size size' base n:Nat} {xs ys:List Value} {v u:Value}
theorem own_pure (h:w.ownsRow base e size v n xs) (hm:Pure w w'):w'.ownsRow base e size v n xs:=by
 obtain ⟨h1,h2⟩:=h;refine ⟨h1,?_⟩
 rcases h2 with h2 | ⟨g,cap,cur,hv,hg,hh,r⟩
 ·exact .inl h2
 ·exact .inr ⟨g,cap,cur,hv,hg,(hm.block g (lt_of_heap hh) id).trans hh,r⟩
theorem own_mod {S:Nat→Prop} (h:w.ownsRow base e size v n xs) (hm:Mod S w w') (hs:∀ g,v.ownBlock=some g→¬ S g):w'.ownsRow base e size v n xs:=by
 obtain ⟨h1,h2⟩:=h;refine ⟨h1,?_⟩
 rcases h2 with h2 | ⟨g,cap,cur,rfl,hg,hh,r⟩
 ·exact .inl h2
 ·exact .inr ⟨g,cap,cur,rfl,hg,(hm.block g (lt_of_heap hh) (hs g rfl)).trans hh,r⟩
theorem own_block (h:w.ownsRow base e size v n xs):∀ k,v.ownBlock=some k→base≤k:=by
 intro k hk
 rcases h.2 with ⟨rfl,_⟩ | ⟨g,cap,cur,rfl,hg,_⟩
 ·simp [Value.ownBlock] at hk
 ·simp [Value.ownBlock] at hk; omega
theorem Sl.of_own (h:w.ownsRow base e size v n xs):Sl w e size v xs:=by
 rcases h.2 with ⟨rfl,rfl⟩ | ⟨g,cap,cur,rfl,hg,hh,hn,hc,hs,ht⟩
 ·exact ⟨none,0,0,rfl,by omega,by omega,h.1,fun h=>absurd h (by omega)⟩
 ·refine ⟨_,n,cap,rfl,hn,by simpa [maxLen] using hc,h.1,fun _=>⟨g,0,rfl,cur,(0,0),hh,fun i u hu => ?_⟩⟩;subst ht;rw [List.getElem?_take] at hu
  split at hu
  ·simpa using hu
  ·cases hu
theorem Sl.grown (h:Sl w e size v xs) (hown:w.ownsRow base e' size' u n ys) (hg:w.grownBy w' u.ownBlock) (hne:e≠e'):Sl w' e size v xs:=by
 obtain ⟨A,m,c,rfl,h1,h2,h3,h4⟩:=h;refine ⟨A,m,c,rfl,h1,h2,h3,fun hn => ?_⟩;obtain ⟨g,off,rfl,arr,fr,hh,hr⟩:=h4 hn;refine ⟨g,off,rfl,arr,fr,(hg.block g (lt_of_heap hh) ?_).trans hh,hr⟩;intro heq
 rcases hown.2 with ⟨rfl,_⟩ | ⟨g',cap,cur,rfl,_,hh',_⟩
 ·simp [Value.ownBlock] at heq
 ·simp [Value.ownBlock] at heq;subst heq;rw [hh] at hh'
  injection hh' with hh'
  injection hh' with _ ht
  exact hne ht
theorem Sl.form (h:Sl w e size v xs):∃ A n c,v = .slice A n c:=by
 obtain ⟨A,n,c,rfl,_⟩:=h;exact ⟨A,n,c,rfl⟩
end
theorem madeCells_one (z:Value) (n:Nat):madeCells #[z] n=(List.replicate n z).toArray:=by
 apply Array.ext
 ·simp [madeCells]
 ·intro i h1 h2;simp [madeCells,Nat.mod_one]
theorem run_make_one {P:Program} (t e:TypeId) (z:Value) (by_:Nat) (ht:P.underlying t=some (.slice e)) (hi:(P.info? e).map (fun i=>(i.zero,i.size,i.bytes))=some (some z,1,by_)) (hz:z.cells=#[z])
  (kl kc:IntKind) (n:Nat) (k:Int) (hk:k=(n:Int)) (hb:by_*n≤281474976710656) (hn:n≤9223372036854775807) (arr:Array Value) (harr:(List.replicate n z).toArray=arr) (W:World) :
  (Instr.makeSlice t (.int kl k) (.int kc k)).run P W = .ok (.slice (some ⟨W.heap.size,0,none⟩) n n) (W.alloc (.cells arr e)):=by
 subst harr;obtain ⟨i0,hi0,h0,h1,h2⟩:=info_parts hi;subst hk
 have hbb:(i0.bytes:Int)*(n:Int)≤281474976710656:=by
  rw [h2];have:((by_*n:Nat):Int)≤281474976710656:=(by omega)
  rwa [Int.natCast_mul] at this
 have hr:=run_make (P:=P) W t e i0 z ht hi0 h0 kl kc n n (by omega) (by omega) hbb (by omega);rw [hr,h1,hz,Int.toNat_natCast,Nat.mul_one,madeCells_one]
def ArgInts (w:World) (A:Option Addr) (n:Nat):Prop :=
 n≤9223372036854775807∧(0<n→∃ g off,A=some ⟨g,off,none⟩∧∀ i,i<n→∃ z:Int,w.cell? ⟨g,off+i,none⟩=some (.int .i64 z))
theorem strm_new {w:World} {A:Option Addr} {n c:Nat} (h:ArgInts w A n):Strm (w.alloc (.cells #[.slice A n c,.int .i64 0] 25)) w.heap.size 0:=by
 refine ⟨A,n,c,0,Blk.new _ _ _,Nat.le_refl _,h.1,fun hn => ?_⟩;obtain ⟨g,off,hA,hc⟩:=h.2 hn;obtain ⟨z0,hz0⟩:=hc 0 hn;have hg:g<w.heap.size:=lt_of_cell hz0;refine ⟨g,off,hA,hg,fun i hi => ?_⟩;obtain ⟨z,hz⟩:=hc i hi;exact ⟨z,by rw [World.cell?_alloc_lt w _ _ hg]; exact hz⟩
theorem argInts_of {w:World} {x:Addr} {len cap:Nat} {zs:List Int} (hl:len≤cap) (hm:cap≤maxLen) (hz:zs.length=cap) (hcell:∀ i,i<zs.length→w.cell? (x.add i)=some (.int .i64 (zs.getD i 0))):ArgInts w (some x) len:=by
 refine ⟨by unfold maxLen at hm; omega,fun hn => ?_⟩;obtain ⟨g,off,sp⟩:=x;have h0:=hcell 0 (by omega)
 have hsp:sp=none:=by
  cases sp with
  | none=>rfl
  | some k =>
   simp only [Addr.add,if_true] at h0;unfold World.cell? at h0
   split at h0
   ·simp at h0
   ·cases h0
 subst hsp;refine ⟨g,off,rfl,fun i hi=>⟨zs.getD i 0,?_⟩⟩;have h:=hcell i (by omega);unfold Addr.add at h
 split at h
 ·rename_i e
  subst e
  simpa using h
 ·exact h
def inB (n a b:Int):Bool:=decide (a≤n∧n≤b)
theorem inB_true {n a b:Int} (h:inB n a b=true):a≤n∧n≤b:=by simpa [inB] using h
theorem inB_false {n a b:Int} (h:inB n a b=false):¬ (a≤n∧n≤b):=by
 intro h2;unfold inB at h;rw [decide_eq_true h2] at h
 cases h
theorem in_calls (n a b:Int) (w:World) :
  Calls Tryz.prog 65 #[.int .i64 n,.int .i64 a,.int .i64 b] w fun e w'=>e = .returned (.bool (inB n a b))∧w=w':=by
 unfold inB
 by_cases h1:a≤n
 ·by_cases h2:n≤b
  all_goals
   go_enter Tryz.func65,Tryz.ntmps65
   go_wp2
   go_ret;exact ⟨by simp [h1,h2],rfl⟩
 ·go_enter Tryz.func65,Tryz.ntmps65
  go_wp2
  go_ret;exact ⟨by simp; omega,rfl⟩
theorem below_calls (x n:Int) (hn:1≤n) (hn2:n≤9223372036854775807) (w:World) :
  Calls Tryz.prog 77 #[.int .i64 x,.int .i64 n] w fun e w'=>∃ k:Int,0≤k∧k<n∧e = .returned (.int .i64 k)∧w=w':=by
 have h1:x.tmod n<n:=Int.tmod_lt_of_pos x (by omega);have h2 : -n<x.tmod n:=Int.lt_tmod_of_pos x (by omega);generalize hy:x.tmod n=y at h1 h2
 go_enter Tryz.func77,Tryz.ntmps77
 go_wp2
 all_goals go_ret
 all_goals exact ⟨_,by omega,by omega,rfl,rfl⟩
def NextPost (w:World) (b N:Nat) (n:Int) (e:Ending) (w':World):Prop :=
 ∃ k:Int,0≤k∧k<n∧e = .returned (.int .i64 k)∧Strm w' b (N+1)∧Mod (· = b) w w'
theorem next_calls (w:World) (b N:Nat) (n:Int) (hS:Strm w b N) (hN:N≤1000000000) (hn:1≤n) (hn2:n≤9223372036854775807) :
  Calls Tryz.prog 24 #[.pointer (some ⟨b,0,none⟩),.int .i64 n] w (NextPost w b N n):=by
 obtain ⟨A,m,c,k,hB,hk,hm,hL⟩:=hS;have hc0:=hB.cell 0;have hc1:=hB.cell 1;have hf0:=hB.frozen 0;have hf1:=hB.frozen 1;simp at hc0 hc1
 have fin:∀ (x:Int) (W:World),0≤x→x<n→Mod (fun _=>False) (w.setCell ⟨b,1,none⟩ (.int .i64 (k+1))) W→NextPost w b N n (.returned (.int .i64 x)) W:=by
  intro x W h1 h2 h3;refine ⟨x,h1,h2,rfl,?_,?_⟩
  ·have hB2:Blk (w.setCell ⟨b,1,none⟩ (.int .i64 (k+1))) b 25 #[.slice A m c,.int .i64 ((k+1:Nat):Int)]:=by
    have:=hB.set 1 (.int .i64 (k+1))
    simpa using this
   have hS2:Strm (w.setCell ⟨b,1,none⟩ (.int .i64 (k+1))) b (N+1):=by
    refine ⟨A,m,c,k+1,hB2,by omega,hm,fun hp => ?_⟩;obtain ⟨g,off,rfl,hg,hc⟩:=hL hp;refine ⟨g,off,rfl,hg,fun i hi => ?_⟩;obtain ⟨z,hz⟩:=hc i hi;exact ⟨z,by rw [World.cell?_setCell_other _ _ _ _ (by intro e; injection e; omega)]; exact hz⟩
   exact hS2.pure h3
  ·exact ((Mod.refl (· = b) w).setCell (p:=⟨b,1,none⟩) (.inl rfl) _).trans' h3 (fun _ x=>x.elim)
 have FIN:=hd_ fin;clear fin
 by_cases hz:m=0
 ·subst hz;clear hL
  go_enter Tryz.func24,Tryz.ntmps24
  go_wp2_with fail;refine (below_calls _ n hn hn2 _).mono ?_;rintro e w' ⟨x,hx0,hx1,rfl,rfl⟩;go_wp2_with fail;go_ret;exact FIN.out _ _ hx0 hx1 (Mod.refl _ _)
 ·obtain ⟨g,off,rfl,hg,hc⟩:=hL (by omega)
  have hm0:((m:Int) == 0)=false:=by simp; omega
  have hm1:decide (m=0)=false:=by simp; omega
  obtain ⟨i,hi,hmod⟩:∃ i:Nat,i<m∧(k:Int) % (m:Int)=(i:Int):=⟨k % m,Nat.mod_lt _ (by omega),by omega⟩
  have hne:¬ ((⟨g,off+i,none⟩:Addr)=⟨b,1,none⟩):=by intro e; injection e; omega
  obtain ⟨z,hz⟩:=hc i hi;clear hc hL
  go_enter Tryz.func24,Tryz.ntmps24
  go_wp2_with fail
  go_quiet (fail)
  go_wp2_with fail
  go_quiet (fail)
  go_wp2_with fail;refine (below_calls _ _ (by omega) (by omega) _).mono ?_;rintro e w' ⟨x,hx0,hx1,rfl,rfl⟩;go_wp2_with fail;refine (below_calls _ n hn hn2 _).mono ?_;rintro e w' ⟨y,hy0,hy1,rfl,rfl⟩;go_wp2_with fail;go_ret;exact FIN.out _ _ hy0 hy1 ((Mod.refl _ _).drewN _)
end Go.Proofs.YtnfflgicngeekaaGreatDoor
