/- Texts of the proof of QuerySearches, put together: MapS, MapX, MapI. -/
import Derived.Test.YtnfflgicngeekaaGreatDoorQuerySearchesZ9
import Derived.Maps.OwnSet
import Derived.Maps.OwnOps
import Derived.Maps.Views
set_option linter.unusedVariables false
set_option linter.unusedSimpArgs false
namespace Go.Proofs.YtnfflgicngeekaaGreatDoor
open Go.RowKit
def rawE (v:Value):Option (DataW Value × List MemPlace):=some (.held v,[])
def MapS (w:World) (b n:Nat) (f:Str→Option Value):Prop :=
 ∃ D:DataW Value,w.ownsMap Tryz.prog 9 rawE b n D∧(∀ s z,D.atKey (.string s) z=((f s).map DataW.held).getD z)∧∀ s,Maps.has D (.string s)=(f s).isSome
theorem strKey:Maps.Keyed Tryz.prog 9:=Maps.string_keyed Tryz.underlying9
theorem keyS (s:Str) (hs:s.length≤1000000):keyOf Tryz.prog 9 (.string ⟨s.toArray⟩)=some (.string s):=by
 have h:=WideMaps.keyOf_string_mk (P:=Tryz.prog) Tryz.underlying9 (s:=⟨s.toArray⟩) (by simp [ByteArray.size,maxLen]; omega)
 simpa using h
section
variable {w w':World} {b n:Nat} {f:Str→Option Value}
theorem MapS.lt (h:MapS w b n f):b<w.heap.size:=by
 obtain ⟨D,h1,_⟩:=h;exact h1.lt
theorem MapS.made (w:World):MapS (w.alloc (.map #[] 0)) w.heap.size 0 (fun _=>none):=⟨.map [],World.ownsMap_made _ _ _ _,fun s z=>rfl,fun s=>rfl⟩
theorem MapS.mod {S:Nat→Prop} (h:MapS w b n f) (hm:Mod S w w') (hs:¬ S b):MapS w' b n f:=by
 obtain ⟨D,h1,h2⟩:=h;have hlt:=h1.lt;obtain ⟨es,clock,hb,F,hz,hD⟩:=h1;exact ⟨D,⟨es,clock,(hm.block b hlt hs).trans hb,F,hz,hD⟩,h2⟩
theorem MapS.pure (h:MapS w b n f) (hm:Pure w w'):MapS w' b n f:=h.mod hm id
theorem MapS.drew (h:MapS w b n f):MapS w.drew b n f:=h
theorem MapS.lookup {t e:TypeId} (h:MapS w b n f) (ht:Tryz.prog.underlying t=some (.map 9 e)) {z:Value} (hz:∀ W,(zeroValue e).run Tryz.prog W = .ok z W) (s:Str) (hs:s.length≤1000000) :
  (Instr.lookup t (.map (some b)) (.string ⟨s.toArray⟩) false).run Tryz.prog w = .ok ((f s).getD z) w:=by
 obtain ⟨D,h1,h2,_⟩:=h;obtain ⟨v,ps,hr,hv⟩:=h1.lookup strKey ht (hz w) (zd:=.held z) (zp:=[]) rfl (keyS s hs);rw [hr];unfold rawE at hv;rw [h2 s (.held z)] at hv;simp only [Option.some.injEq,Prod.mk.injEq] at hv;have h3:=hv.1
 cases hf:f s with
 | none =>
  rw [hf] at h3;simp at h3;rw [h3]
  rfl
 | some u =>
  rw [hf] at h3;simp at h3;rw [h3]
  rfl
theorem MapS.store {t e:TypeId} (h:MapS w b n f) (ht:Tryz.prog.underlying t=some (.map 9 e)) (hn:n≤1000000000) (s:Str) (hs:s.length≤1000000) (v:Value) :
  ∃ w',(Instr.mapUpdate t (.map (some b)) (.string ⟨s.toArray⟩) v).run Tryz.prog w = .ok () w'∧MapS w' b (n+1) (fun x=>if x=s then some v else f x)∧Mod (· = b) w w':=by
 obtain ⟨D,h1,h2,h3⟩:=h;have him:=h1.isMap;obtain ⟨w',hr,hm,hg⟩:=h1.update strKey ht (by simp [maxLen]; omega) (keyS s hs) (val:=v) (d:=.held v) (ps:=[]) rfl;refine ⟨w',hr,⟨_,hm,fun x z => ?_,fun x => ?_⟩,⟨hg.os,hg.tape,hg.output,hg.size,fun k hk hs=>hg.block k hk (fun x=>hs (by injection x))⟩⟩
 ·by_cases hx:x=s
  ·subst hx;rw [Maps.atKey_put_same him (by trivial)];simp
  ·rw [Maps.atKey_put_other (by simpa using hx),h2];simp [hx]
 ·by_cases hx:x=s
  ·subst hx;rw [Maps.has_put_same him (by trivial)];simp
  ·rw [Maps.has_put_other (by simpa using hx),h3];simp [hx]
end
def setF (S:List Str) (x:Str):Option Value:=if x∈S then some (.bool true) else none
theorem setF_getD (S:List Str) (x:Str):(setF S x).getD (.bool false) = .bool (decide (x∈S)):=by
 unfold setF
 by_cases h:x∈S <;> simp [h]
theorem setF_add (S:List Str) (s:Str):(fun x=>if x=s then some (Value.bool true) else setF S x)=setF (S ++ [s]):=by
 funext x
 unfold setF
 by_cases h:x=s
 ·simp [h]
 ·simp [h]
def SetS (w:World) (b n:Nat) (S:List Str):Prop:=MapS w b n (setF S)
section
variable {w w':World} {b n:Nat} {S:List Str}
theorem SetS.made (w:World):SetS (w.alloc (.map #[] 0)) w.heap.size 0 []:=by
 have:=MapS.made w;unfold SetS;rw [show setF []=fun _=>none from by funext x; simp [setF]];exact this
theorem SetS.mod {T:Nat→Prop} (h:SetS w b n S) (hm:Mod T w w') (hs:¬ T b):SetS w' b n S:=MapS.mod h hm hs
theorem SetS.pure (h:SetS w b n S) (hm:Pure w w'):SetS w' b n S:=MapS.mod h hm id
theorem SetS.lt (h:SetS w b n S):b<w.heap.size:=MapS.lt h
theorem SetS.has {t e:TypeId} (h:SetS w b n S) (ht:Tryz.prog.underlying t=some (.map 9 e)) (hz:∀ W,(zeroValue e).run Tryz.prog W = .ok (.bool false) W) (s:Str) (hs:s.length≤1000000) :
  (Instr.lookup t (.map (some b)) (.string ⟨s.toArray⟩) false).run Tryz.prog w = .ok (.bool (decide (s∈S))) w:=by
 rw [MapS.lookup h ht hz s hs,setF_getD]
theorem SetS.add {t e:TypeId} (h:SetS w b n S) (ht:Tryz.prog.underlying t=some (.map 9 e)) (hn:n≤1000000000) (s:Str) (hs:s.length≤1000000) :
  ∃ w',(Instr.mapUpdate t (.map (some b)) (.string ⟨s.toArray⟩) (.bool true)).run Tryz.prog w = .ok () w'∧SetS w' b (n+1) (S ++ [s])∧Mod (· = b) w w':=by
 obtain ⟨w',h1,h2,h3⟩:=MapS.store h ht hn s hs (.bool true);rw [setF_add] at h2;exact ⟨w',h1,h2,h3⟩
end
def MapX (w:World) (b n:Nat) (f:Str→Option Value):Prop :=
 ∃ D:DataW Value,w.ownsMap Tryz.prog 9 rawE b n D∧(∀ s z,D.atKey (.string s) z=((f s).map DataW.held).getD z)∧(∀ s,Maps.has D (.string s)=(f s).isSome)∧Maps.size D=n
section
variable {w w':World} {b n:Nat} {f:Str→Option Value}
theorem MapX.s (h:MapX w b n f):MapS w b n f:=by
 obtain ⟨D,h1,h2,h3,_⟩:=h;exact ⟨D,h1,h2,h3⟩
theorem MapX.lt (h:MapX w b n f):b<w.heap.size:=h.s.lt
theorem MapX.made (w:World):MapX (w.alloc (.map #[] 0)) w.heap.size 0 (fun _=>none):=⟨.map [],World.ownsMap_made _ _ _ _,fun s z=>rfl,fun s=>rfl,rfl⟩
theorem MapX.mod {S:Nat→Prop} (h:MapX w b n f) (hm:Mod S w w') (hs:¬ S b):MapX w' b n f:=by
 obtain ⟨D,h1,h2⟩:=h;have hlt:=h1.lt;obtain ⟨es,clock,hb,F,hz,hD⟩:=h1;exact ⟨D,⟨es,clock,(hm.block b hlt hs).trans hb,F,hz,hD⟩,h2⟩
theorem MapX.pure (h:MapX w b n f) (hm:Pure w w'):MapX w' b n f:=h.mod hm id
theorem MapX.drew (h:MapX w b n f):MapX w.drew b n f:=h
theorem MapX.alloc (h:MapX w b n f) (o:Obj):MapX (w.alloc o) b n f:=h.pure ((Mod.refl _ _).alloc o)
theorem MapX.lookup {t e:TypeId} (h:MapX w b n f) (ht:Tryz.prog.underlying t=some (.map 9 e)) {z:Value} (hz:∀ W,(zeroValue e).run Tryz.prog W = .ok z W) (s:Str) (hs:s.length≤1000000) :
  (Instr.lookup t (.map (some b)) (.string ⟨s.toArray⟩) false).run Tryz.prog w = .ok ((f s).getD z) w:=h.s.lookup ht hz s hs
theorem MapX.look_ok {t e:TypeId} (h:MapX w b n f) (ht:Tryz.prog.underlying t=some (.map 9 e)) {z:Value} (hz:∀ W,(zeroValue e).run Tryz.prog W = .ok z W) (s:Str) (hs:s.length≤1000000) :
  (Instr.lookup t (.map (some b)) (.string ⟨s.toArray⟩) true).run Tryz.prog w = .ok (.tuple #[(f s).getD z,.bool (f s).isSome]) w:=by
 obtain ⟨D,h1,h2,h3,_⟩:=h;obtain ⟨v,ps,hr,hv⟩:=h1.look_ok strKey ht (hz w) (zd:=.held z) (zp:=[]) rfl (keyS s hs);rw [hr,h3 s];unfold rawE at hv;rw [h2 s (.held z)] at hv;simp only [Option.some.injEq,Prod.mk.injEq] at hv;have h4:=hv.1
 cases hf:f s with
 | none =>
  rw [hf] at h4;simp at h4;rw [h4]
  rfl
 | some u =>
  rw [hf] at h4;simp at h4;rw [h4]
  rfl
theorem MapX.len {t e:TypeId} (h:MapX w b n f) (ht:Tryz.prog.underlying t=some (.map 9 e)) (ty:TypeId):(Builtin.len_ #[t] ty #[.map (some b)]).run Tryz.prog w = .ok (.int .i64 (n:Int)) w:=by
 obtain ⟨D,h1,h2,h3,h4⟩:=h;rw [h1.len ht ty,h4]
theorem MapX.store {t e:TypeId} (h:MapX w b n f) (ht:Tryz.prog.underlying t=some (.map 9 e)) (hn:n≤1000000000) (s:Str) (hs:s.length≤1000000) (hnew:f s=none) (v:Value) :
  ∃ w',(Instr.mapUpdate t (.map (some b)) (.string ⟨s.toArray⟩) v).run Tryz.prog w = .ok () w'∧MapX w' b (n+1) (fun x=>if x=s then some v else f x)∧Mod (· = b) w w':=by
 obtain ⟨D,h1,h2,h3,h4⟩:=h;have him:=h1.isMap;have htd:=h1.tidy strKey;obtain ⟨w',hr,hm,hg⟩:=h1.update strKey ht (by simp [maxLen]; omega) (keyS s hs) (val:=v) (d:=.held v) (ps:=[]) rfl;refine ⟨w',hr,⟨_,hm,fun x z => ?_,fun x => ?_,?_⟩,⟨hg.os,hg.tape,hg.output,hg.size,fun k hk hs=>hg.block k hk (fun x=>hs (by injection x))⟩⟩
 ·by_cases hx:x=s
  ·subst hx;rw [Maps.atKey_put_same him (by trivial)];simp
  ·rw [Maps.atKey_put_other (by simpa using hx),h2];simp [hx]
 ·by_cases hx:x=s
  ·subst hx;rw [Maps.has_put_same him (by trivial)];simp
  ·rw [Maps.has_put_other (by simpa using hx),h3];simp [hx]
 ·rw [Maps.size_put htd,h3 s,hnew,h4]
  rfl
end
def MapI (w:World) (b n:Nat) (f:Int→Option Value):Prop :=
 ∃ D:DataW Value,w.ownsMap Tryz.prog 3 rawE b n D∧(∀ (s:Int) z,D.atKey (.int .i64 s) z=((f s).map DataW.held).getD z)∧∀ s:Int,Maps.has D (.int .i64 s)=(f s).isSome
theorem intKey:Maps.Keyed Tryz.prog 3:=Maps.int_keyed Tryz.underlying3
theorem keyI (s:Int) (hs:(Lit.int .i64 s).wf=true):keyOf Tryz.prog 3 (.int .i64 s)=some (.int .i64 s):=Maps.keyOf_int_mk Tryz.underlying3 hs
section
variable {w w':World} {b n:Nat} {f:Int→Option Value}
theorem MapI.lt (h:MapI w b n f):b<w.heap.size:=by
 obtain ⟨D,h1,_⟩:=h;exact h1.lt
theorem MapI.made (w:World):MapI (w.alloc (.map #[] 0)) w.heap.size 0 (fun _=>none):=⟨.map [],World.ownsMap_made _ _ _ _,fun s z=>rfl,fun s=>rfl⟩
theorem MapI.mod {S:Nat→Prop} (h:MapI w b n f) (hm:Mod S w w') (hs:¬ S b):MapI w' b n f:=by
 obtain ⟨D,h1,h2⟩:=h;have hlt:=h1.lt;obtain ⟨es,clock,hb,F,hz,hD⟩:=h1;exact ⟨D,⟨es,clock,(hm.block b hlt hs).trans hb,F,hz,hD⟩,h2⟩
theorem MapI.pure (h:MapI w b n f) (hm:Pure w w'):MapI w' b n f:=h.mod hm id
theorem MapI.drew (h:MapI w b n f):MapI w.drew b n f:=h
theorem MapI.lookup {t e:TypeId} (h:MapI w b n f) (ht:Tryz.prog.underlying t=some (.map 3 e)) {z:Value} (hz:∀ W,(zeroValue e).run Tryz.prog W = .ok z W) (s:Int) (hs:(Lit.int .i64 s).wf=true) :
  (Instr.lookup t (.map (some b)) (.int .i64 s) false).run Tryz.prog w = .ok ((f s).getD z) w:=by
 obtain ⟨D,h1,h2,_⟩:=h;obtain ⟨v,ps,hr,hv⟩:=h1.lookup intKey ht (hz w) (zd:=.held z) (zp:=[]) rfl (keyI s hs);rw [hr];unfold rawE at hv;rw [h2 s (.held z)] at hv;simp only [Option.some.injEq,Prod.mk.injEq] at hv;have h3:=hv.1
 cases hf:f s with
 | none =>
  rw [hf] at h3;simp at h3;rw [h3]
  rfl
 | some u =>
  rw [hf] at h3;simp at h3;rw [h3]
  rfl
theorem MapI.store {t e:TypeId} (h:MapI w b n f) (ht:Tryz.prog.underlying t=some (.map 3 e)) (hn:n≤1000000000) (s:Int) (hs:(Lit.int .i64 s).wf=true) (v:Value) :
  ∃ w',(Instr.mapUpdate t (.map (some b)) (.int .i64 s) v).run Tryz.prog w = .ok () w'∧MapI w' b (n+1) (fun x=>if x=s then some v else f x)∧Mod (· = b) w w':=by
 obtain ⟨D,h1,h2,h3⟩:=h;have him:=h1.isMap;obtain ⟨w',hr,hm,hg⟩:=h1.update intKey ht (by simp [maxLen]; omega) (keyI s hs) (val:=v) (d:=.held v) (ps:=[]) rfl;refine ⟨w',hr,⟨_,hm,fun x z => ?_,fun x => ?_⟩,⟨hg.os,hg.tape,hg.output,hg.size,fun k hk hs=>hg.block k hk (fun x=>hs (by injection x))⟩⟩
 ·by_cases hx:x=s
  ·subst hx;rw [Maps.atKey_put_same him (by trivial)];simp
  ·rw [Maps.atKey_put_other (by simpa using hx),h2];simp [hx]
 ·by_cases hx:x=s
  ·subst hx;rw [Maps.has_put_same him (by trivial)];simp
  ·rw [Maps.has_put_other (by simpa using hx),h3];simp [hx]
end
end Go.Proofs.YtnfflgicngeekaaGreatDoor
