/- Texts of the proof of GroupFamilies, put together: FamA, FamB, FamC. -/
import Derived.Test.YtgfgggeeoeppjaaGreatDoorGroupFamiliesZ6
import Derived.Test.YtgfgggeeoeppjaaGreatDoorGroupFamiliesZ9
import Derived.Test.YtgfgggeeoeppjaaGreatDoorGroupFamiliesZ18
import Derived.Deep.DeepCutAuto
import Derived.Deep.AppendLies
import Derived.Maps.AppendAt
set_option linter.unusedVariables false
set_option linter.unusedSimpArgs false
set_option maxRecDepth 100000
/- The tree of items: newTree of package intake. -/
namespace Go.Proofs.YtgfgggeeoeppjaaGreatDoor
open Go.RowKit
def kidsS (l : List Itm) (p : Str) : List Str := if p = [] then [] else (l.filter fun x => decide (x.par = p)).map (·.id)
def topsS (l : List Itm) : List Str := (l.filter fun x => decide (x.par = [])).map (·.id)
theorem kidsS_take {l : List Itm} {k : Nat} (h : k < l.length) (p : Str) : kidsS (l.take (k + 1)) p = if p = [] then [] else if l[k].par = p then kidsS (l.take k) p ++ [l[k].id] else kidsS (l.take k) p := by
 unfold kidsS;rw [List.take_succ_eq_append_getElem h, List.filter_append, List.map_append]
 by_cases hp : p = []
 ·simp [hp]
 ·simp only [if_neg hp]
  by_cases e : l[k].par = p
  ·simp [e]
  ·simp [e]
theorem topsS_take {l : List Itm} {k : Nat} (h : k < l.length) : topsS (l.take (k + 1)) = if l[k].par = [] then topsS (l.take k) ++ [l[k].id] else topsS (l.take k) := by
 unfold topsS;rw [List.take_succ_eq_append_getElem h, List.filter_append, List.map_append]
 by_cases e : l[k].par = []
 ·simp [e]
 ·simp [e]
structure KidsM (w : World) (base bk n m : Nat) (V : Str → Option Value) (F : Str → List Str) (vt : Value) (ts : List Str) : Prop where
 map : MapS w bk n V
 own : ∀ p u, V p = some u → w.ownsRow base 9 1 u (F p).length (strsV (F p))
 none : ∀ p, V p = none → F p = []
 apart : ∀ p q u v g, p ≠ q → V p = some u → V q = some v → u.ownBlock = some g → v.ownBlock ≠ some g
 tops : w.ownsRow base 9 1 vt ts.length (strsV ts)
 far : ∀ p u g, V p = some u → u.ownBlock = some g → vt.ownBlock ≠ some g
 lt : bk < base
 few : ∀ p, (F p).length ≤ m
section
variable {w w' : World} {base bk n m : Nat} {V : Str → Option Value} {F : Str → List Str} {vt : Value} {ts : List Str}
theorem KidsM.mod {S : Nat → Prop} (h : KidsM w base bk n m V F vt ts) (hm : Mod S w w') (hs : ∀ g, bk ≤ g → ¬ S g) : KidsM w' base bk n m V F vt ts := by
 have hlt := h.lt
 exact ⟨h.map.mod hm (hs _ (Nat.le_refl _)), fun p u hp => own_mod (h.own p u hp) hm (fun g hg => hs g (by have := own_block (h.own p u hp) g hg; omega)), h.none, h.apart,
  own_mod h.tops hm (fun g hg => hs g (by have := own_block h.tops g hg; omega)), h.far, h.lt, h.few⟩
theorem KidsM.mod2 {S : Nat → Prop} (h : KidsM w base bk n m V F vt ts) (hm : Mod S w w') (h1 : ¬ S bk) (hs : ∀ g, base ≤ g → ¬ S g) : KidsM w' base bk n m V F vt ts :=
 ⟨h.map.mod hm h1, fun p u hp => own_mod (h.own p u hp) hm (fun g hg => hs g (own_block (h.own p u hp) g hg)), h.none, h.apart,
  own_mod h.tops hm (fun g hg => hs g (own_block h.tops g hg)), h.far, h.lt, h.few⟩
theorem KidsM.up {m' : Nat} (h : KidsM w base bk n m V F vt ts) (hm : m ≤ m') : KidsM w base bk n m' V F vt ts := ⟨h.map, h.own, h.none, h.apart, h.tops, h.far, h.lt, fun p => Nat.le_trans (h.few p) hm⟩
theorem KidsM.pure (h : KidsM w base bk n m V F vt ts) (hm : Pure w w') : KidsM w' base bk n m V F vt ts := h.mod hm (fun _ _ x => x)
theorem KidsM.at_ (h : KidsM w base bk n m V F vt ts) (p : Str) : w.ownsRow base 9 1 ((V p).getD nilS) (F p).length (strsV (F p)) := by
 cases hp : V p with
 | none => rw [h.none p hp]; exact ⟨rfl, .inl ⟨rfl, rfl⟩⟩
 | some u => exact h.own p u hp
theorem grown_mod {v : Value} {w w' : World} (hg : w.grownBy w' v.ownBlock) : Mod (fun k => v.ownBlock = some k) w w' :=
 ⟨hg.os, hg.tape, hg.output, hg.size, fun k hk hs => hg.block k hk (fun x => hs x.symm)⟩
theorem KidsM.put {w5 w6 : World} {N n' : Nat} {v5 : Value} {p id : Str} (h : KidsM w base bk n m V F vt ts) (hg : w.grownBy w5 ((V p).getD nilS).ownBlock) (hown : w5.ownsRow base 9 1 v5 n' (strsV (F p) ++ [.string ⟨id.toArray⟩]))
  (hat : v5.ownBlock = ((V p).getD nilS).ownBlock ∨ v5.ownBlock = some N) (hN : w.heap.size ≤ N) (hM : MapS w6 bk (n + 1) (fun x => if x = p then some v5 else V x)) (hm : Mod (· = bk) w5 w6) :
  KidsM w6 base bk (n + 1) (m + 1) (fun x => if x = p then some v5 else V x) (fun x => if x = p then F p ++ [id] else F x) vt ts := by
 have hlt := h.lt;have hgm := grown_mod hg
 have e1 : strsV (F p) ++ [.string ⟨id.toArray⟩] = strsV (F p ++ [id]) := by simp [strsV]
 rw [e1] at hown
 have hn' : n' = (F p ++ [id]).length := by have := hown.1; rw [strsV_len] at this; omega
 subst hn';have hnb : ∀ {u : Value} {k : Nat} {ys : List Value}, w5.ownsRow base 9 1 u k ys → w6.ownsRow base 9 1 u k ys := fun hh => own_mod hh hm (fun g hgg => by have := own_block hh g hgg; omega)
 have hone : ∀ q u g, q ≠ p → V q = some u → ((V p).getD nilS).ownBlock = some g → u.ownBlock ≠ some g := by
  intro q u g hq hu hgp hug
  cases hp : V p with
  | none => rw [hp] at hgp; simp [Value.ownBlock] at hgp
  | some v => rw [hp] at hgp; exact h.apart p q v u g (Ne.symm hq) hp hu hgp hug
 have hnew : ∀ q u g, q ≠ p → V q = some u → v5.ownBlock = some g → u.ownBlock ≠ some g := by
  intro q u g hq hu hgp hug
  rcases hat with hat | hat
  ·rw [hat] at hgp; exact hone q u g hq hu hgp hug
  ·rw [hat] at hgp
   injection hgp with hgp
   have := own_lt (h.own q u hu) hug
   omega
 have hfar : ∀ g, v5.ownBlock = some g → vt.ownBlock ≠ some g := by
  intro g hgp hvt
  rcases hat with hat | hat
  ·rw [hat] at hgp
   cases hp : V p with
   | none => rw [hp] at hgp; simp [Value.ownBlock] at hgp
   | some v => rw [hp] at hgp; exact h.far p v g hp hgp hvt
  ·rw [hat] at hgp
   injection hgp with hgp
   have := own_lt h.tops hvt
   omega
 refine ⟨hM, fun q u hq => ?_, fun q hq => ?_, fun a b u v g hab ha hb hu => ?_, ?_, fun q u g hq hu => ?_, hlt, fun q => ?_⟩
 ·by_cases e : q = p
  ·rw [if_pos e] at hq ⊢
   injection hq with hq
   rw [← hq];exact hnb hown
  ·rw [if_neg e] at hq ⊢;exact hnb (own_mod (h.own q u hq) hgm (fun g hgu hgp => hone q u g e hq hgp hgu))
 ·by_cases e : q = p
  ·rw [if_pos e] at hq; cases hq
  ·rw [if_neg e] at hq ⊢;exact h.none q hq
 ·by_cases ea : a = p
  ·rw [if_pos ea] at ha
   injection ha with ha
   by_cases eb : b = p
   ·exact absurd (ea.trans eb.symm) hab
   ·rw [if_neg eb] at hb;rw [← ha] at hu;exact hnew b v g eb hb hu
  ·rw [if_neg ea] at ha
   by_cases eb : b = p
   ·rw [if_pos eb] at hb
    injection hb with hb
    rw [← hb];intro hv;exact hnew a u g ea ha hv hu
   ·rw [if_neg eb] at hb;exact h.apart a b u v g hab ha hb hu
 ·exact hnb (own_mod h.tops hgm (fun g hgt hgp => by
   cases hp : V p with
   | none => rw [hp] at hgp; simp [Value.ownBlock] at hgp
   | some v => rw [hp] at hgp; exact h.far p v g hp hgp hgt))
 ·by_cases e : q = p
  ·rw [if_pos e] at hq
   injection hq with hq
   rw [← hq] at hu;exact hfar g hu
  ·rw [if_neg e] at hq;exact h.far q u g hq hu
 ·by_cases e : q = p
  ·rw [if_pos e];have := h.few p;simp
   omega
  ·rw [if_neg e];have := h.few q
   omega
theorem KidsM.top {w5 : World} {N n' : Nat} {v5 : Value} {id : Str} (h : KidsM w base bk n m V F vt ts) (hg : w.grownBy w5 vt.ownBlock) (hown : w5.ownsRow base 9 1 v5 n' (strsV ts ++ [.string ⟨id.toArray⟩]))
  (hat : v5.ownBlock = vt.ownBlock ∨ v5.ownBlock = some N) (hN : w.heap.size ≤ N) : KidsM w5 base bk n m V F v5 (ts ++ [id]) := by
 have hlt := h.lt;have hgm := grown_mod hg
 have e1 : strsV ts ++ [.string ⟨id.toArray⟩] = strsV (ts ++ [id]) := by simp [strsV]
 rw [e1] at hown
 have hn' : n' = (ts ++ [id]).length := by have := hown.1; rw [strsV_len] at this; omega
 subst hn';refine ⟨h.map.mod hgm (fun hb => by have := own_block h.tops bk hb; omega), fun p u hp => own_mod (h.own p u hp) hgm (fun g hgu hgt => h.far p u g hp hgu hgt), h.none, h.apart, hown, fun p u g hp hu hv => ?_, hlt, h.few⟩
 rcases hat with hat | hat
 ·rw [hat] at hv; exact h.far p u g hp hu hv
 ·rw [hat] at hv
  injection hv with hv
  have := own_lt (h.own p u hp) hu
  omega
end
def KidsPre (zw : World) (base bk n m : Nat) (V : Str → Option Value) (F : Str → List Str) (vt : Value) (ts : List Str) (p id : Str) (v : Value) : Prop :=
 ∃ (W : World) (N n' : Nat), KidsM W base bk n m V F vt ts ∧ W.grownBy zw ((V p).getD nilS).ownBlock ∧ zw.ownsRow base 9 1 v n' (strsV (F p) ++ [.string ⟨id.toArray⟩]) ∧ (v.ownBlock = ((V p).getD nilS).ownBlock ∨ v.ownBlock = some N) ∧ W.heap.size ≤ N
def KidsEnd (zw : World) (base bk n m : Nat) (F : Str → List Str) (vt : Value) (ts : List Str) (p id : Str) : Prop :=
 ∃ V', KidsM zw base bk (n + 1) (m + 1) V' (fun x => if x = p then F p ++ [id] else F x) vt ts
section
variable {W zw zw' : World} {base bk n m : Nat} {V : Str → Option Value} {F : Str → List Str} {vt : Value} {ts : List Str} {p id : Str} {v : Value}
theorem KidsPre.pure (h : KidsPre zw base bk n m V F vt ts p id v) (hm : Pure zw zw') : KidsPre zw' base bk n m V F vt ts p id v := by
 obtain ⟨W, N, n', h1, h2, h3, h4, h5⟩ := h;refine ⟨W, N, n', h1, ⟨hm.os.trans h2.os, hm.tape.trans h2.tape, hm.output.trans h2.output, Nat.le_trans h2.size hm.size, fun k hk hs => (hm.block k (Nat.lt_of_lt_of_le hk h2.size) (fun x => x)).trans (h2.block k hk hs)⟩, own_pure h3 hm, h4, h5⟩
theorem KidsEnd.pure (h : KidsEnd zw base bk n m F vt ts p id) (hm : Pure zw zw') : KidsEnd zw' base bk n m F vt ts p id := by
 obtain ⟨V', h⟩ := h;exact ⟨V', h.pure hm⟩
theorem kidsPre_mk {Au : Option Addr} {lf cu g5 c5 : Nat} {Fp : List Str} (h : KidsM W base bk n m V F vt ts) (hu : (V p).getD nilS = .slice Au lf cu) (hF : F p = Fp) (hg : W.grownBy zw (Value.slice Au lf cu).ownBlock)
  (hown : zw.ownsRow base 9 1 (.slice (some ⟨g5, 0, none⟩) (lf + 1) c5) (lf + 1) (strsV Fp ++ [.string ⟨id.toArray⟩])) (hat : (Value.slice Au lf cu).ownBlock = some g5 ∨ g5 = W.heap.size) : KidsPre zw base bk n m V F vt ts p id (.slice (some ⟨g5, 0, none⟩) (lf + 1) c5) := by
 refine ⟨W, W.heap.size, lf + 1, h, by rw [hu]; exact hg, by rw [hF]; exact hown, ?_, Nat.le_refl _⟩;rw [hu]
 rcases hat with hat | hat
 ·exact .inl hat.symm
 ·exact .inr (by rw [hat]; rfl)
theorem KidsPre.store (h : KidsPre zw base bk n m V F vt ts p id v) (hn : n ≤ 1000000000) (hp : p.length ≤ 1000000) :
  ∃ w6, (Instr.mapUpdate 114 (.map (some bk)) (.string ⟨p.toArray⟩) v).run Tryz.prog zw = .ok () w6 ∧ KidsEnd w6 base bk n m F vt ts p id ∧ Mod (· = bk) zw w6 := by
 obtain ⟨W, N, n', h1, h2, h3, h4, h5⟩ := h;have hlt := h1.lt;obtain ⟨w6, hr, hM, hm⟩ := (h1.map.mod (grown_mod h2) (fun hb => by have := own_block (h1.at_ p) bk hb; omega)).store Tryz.underlying114 hn p hp v;exact ⟨w6, hr, ⟨_, h1.put h2 h3 h4 h5 hM hm⟩, hm⟩
end
structure TreeIs (w : World) (bi bk : Nat) (vt : Value) (xs : List Itm) : Prop where
 items : MapX w bi xs.length (byF xs)
 kids : ∃ n V, MapS w bk n V ∧ ∀ p, Sl w 9 1 ((V p).getD nilS) (strsV (kidsS xs p))
 tops : Sl w 9 1 vt (strsV (topsS xs))
theorem TreeIs.pure {w w' : World} {bi bk : Nat} {vt : Value} {xs : List Itm} (h : TreeIs w bi bk vt xs) (hm : Pure w w') : TreeIs w' bi bk vt xs := by
 obtain ⟨n, V, h1, h2⟩ := h.kids;exact ⟨h.items.pure hm, ⟨n, V, h1.pure hm, fun p => (h2 p).pure hm⟩, h.tops.pure hm⟩
theorem info_str7 : (Tryz.prog.info? 9).map (fun i => (i.zero, i.size, i.bytes)) = some (some (.string ⟨#[]⟩), 1, 16) := by kernel_rfl
theorem zero_strs (W : World) : (zeroValue 29).run Tryz.prog W = .ok nilS W := by kernel_rfl
def TreePost (w : World) (xs : List Itm) (e : Ending) (w' : World) : Prop := ∃ bi bk vt, e = .returned (.agg #[.map (some bi), .map (some bk), vt]) ∧ TreeIs w' bi bk vt xs ∧ Pure w w'
def NtRel (w : World) (base bi bk gr gt : Nat) (xs : List Itm) (gk : Nat) (i : Value) (wr : World) : Prop :=
 ∃ (k n : Nat) (V : Str → Option Value) (vt : Value), xs.length - k = gk ∧ k ≤ xs.length ∧ i = .int .i64 (k : Int) ∧ n ≤ k ∧ KidsM wr base bk n k V (kidsS (xs.take k)) vt (topsS (xs.take k)) ∧ (topsS (xs.take k)).length ≤ k ∧ MapX wr bi xs.length (byF xs) ∧
  Blk wr gt 116 #[.map (some bi), .map (some bk), vt] ∧ Blk wr gr 116 #[.map none, .map none, nilS] ∧ Pure w wr ∧ base ≤ wr.heap.size
set_option maxHeartbeats 8000000 in
theorem newTree_calls (w : World) (v : Value) (xs : List Itm) (hv : Its w v xs) (hz : ∀ x ∈ xs, ItB x) (hd : xs.Pairwise fun x y => x.id ≠ y.id) (hl : xs.length ≤ 2000) : Calls Tryz.prog 69 #[v] w (TreePost w xs) := by
 obtain ⟨i0, hi0, hz0, hz1, hz2⟩ := info_parts info_str7;have hmm := @run_makeMap Tryz.prog;have HBY := Lib.hid (fun W (h : Pure w W) => byId_calls W v xs (hv.pure h) hz hd (by omega));have HR0 := Lib.hid (Blk.new w 116 #[.map none, .map none, nilS]);obtain ⟨A, n, c, rfl, hc1, hc2, hl2, hr⟩ := hv
 have hln : xs.length = n := by rw [itV_len] at hl2; omega
 subst hln;have HR := Lib.hid hr;have HZ := Lib.hid hz;clear hl2 hr hz hd;obtain ⟨gr, hgr⟩ : ∃ gr, gr = w.heap.size := ⟨_, rfl⟩;have hgr1 := Nat.le_of_eq hgr;have hgr2 := Nat.le_of_eq hgr.symm
 go_enter Tryz.func69, Tryz.ntmps69
 go_wp2_with fail
 rw [← hgr];rw [← hgr] at HR0;clear hgr;refine (HBY.out _ (pure_alloc _ _)).mono ?_;rintro e w1 ⟨bi, rfl, hbi, hM1, m1⟩;have R1 := HR0.out.mod m1 id;have p1 : Pure w w1 := (pure_alloc _ _).trans m1;have hbl := hM1.lt;have hrl := R1.lt;have hpsz := p1.size
 have hbi2 : w.heap.size + 1 ≤ bi := by simpa using hbi
 clear HBY HR0 m1 hbi;obtain ⟨bk, hbk⟩ : ∃ bk, bk = w1.heap.size := ⟨_, rfl⟩;have hbk1 := Nat.le_of_eq hbk;have hbk2 := Nat.le_of_eq hbk.symm;have K0 := MapS.made w1;have T0 := Blk.snd w1 (.map #[] 0) 116 #[.map (some bi), .map (some bk), nilS];have R2 := (R1.alloc (.map #[] 0)).alloc (.cells #[.map (some bi), .map (some bk), nilS] 116);have M2 := (hM1.alloc (.map #[] 0)).alloc (.cells #[.map (some bi), .map (some bk), nilS] 116);have K1 := K0.pure (pure_alloc _ (.cells #[.map (some bi), .map (some bk), nilS] 116));have p2 : Pure w ((w1.alloc (.map #[] 0)).alloc (.cells #[.map (some bi), .map (some bk), nilS] 116)) := (p1.alloc _).alloc _
 have hsz2 : ((w1.alloc (.map #[] 0)).alloc (.cells #[.map (some bi), .map (some bk), nilS] 116)).heap.size = w1.heap.size + 1 + 1 := by simp
 go_wp2_with fail
 clear hmm;rw [← hbk] at K1 T0 hsz2 ⊢;obtain ⟨gt, hgt⟩ : ∃ gt, gt = bk + 1 := ⟨_, rfl⟩;rw [← hgt] at T0 ⊢;have hgt1 := Nat.le_of_eq hgt;have hgt2 := Nat.le_of_eq hgt.symm;obtain ⟨base, hbase⟩ : ∃ base, base = bk + 1 + 1 := ⟨_, rfl⟩;have hba1 := Nat.le_of_eq hbase;have hba2 := Nat.le_of_eq hbase.symm;have hsz3 := Nat.le_of_eq hsz2.symm
 have KM : KidsM ((w1.alloc (.map #[] 0)).alloc (.cells #[.map (some bi), .map (some bk), nilS] 116)) base bk 0 0 (fun _ => none) (kidsS (xs.take 0)) nilS (topsS (xs.take 0)) :=
  ⟨K1, fun p u h => (by cases h), fun p _ => by simp [kidsS], fun p q u v g _ h => by (cases h), ⟨rfl, .inl ⟨rfl, rfl⟩⟩, fun p u g h => by (cases h), by omega, fun p => by simp [kidsS]⟩
 have HKM := Lib.hid KM;have HT0 := Lib.hid T0;have HR2 := Lib.hid R2;have HM2 := Lib.hid M2;have Hp2 := Lib.hid p2;clear K0 K1 T0 R2 M2 p2 KM hbk hgt hbase hsz2 R1 hM1 p1;generalize ((w1.alloc (.map #[] 0)).alloc (.cells #[.map (some bi), .map (some bk), nilS] 116)) = W at *
 go_loopg [12] xs.length (fun gk i wr => NtRel w base bi bk gr gt xs gk i wr)
 case atStart => exact ⟨0, 0, _, nilS, by omega, by omega, rfl, by omega, HKM.out, by simp [topsS], HM2.out, HT0.out, HR2.out, Hp2.out, by omega⟩
 case round =>
  clear HKM HT0 HR2 HM2 Hp2 hsz3 W;obtain ⟨k, n, VK, vt, rfl, hk, rfl, hnk, hKM, htl, hMX, hT, hRR, hm, hsz⟩ := hrel
  by_cases hlt : k < xs.length
  ·obtain ⟨g, off, rfl, hrow⟩ := HR.out (by omega);obtain ⟨q0, q1, q2, q3, q4, q5, q6⟩ := item_cells (hrow.mod hm id) hlt;have HKT := Lib.hid (fun p => kidsS_take hlt p);have HTT := Lib.hid (topsS_take hlt);obtain ⟨hx1, _, _, hx4, _⟩ := HZ.out _ (List.getElem_mem hlt);clear hrow;generalize xs[k] = x at *;have hXA := hMX.alloc (.cells (itQ x) 79);have hTA := hT.alloc (.cells (itQ x) 79);have hRA := hRR.alloc (.cells (itQ x) 79);have hKA := hKM.pure (pure_alloc wr (.cells (itQ x) 79));have hmA := hm.alloc (.cells (itQ x) 79);have hBA := Blk.new wr 79 (itQ x);have hgl := hT.lt;have hgrl := hRR.lt;have hbil := hMX.lt
   have hsA : base ≤ (wr.alloc (.cells (itQ x) 79)).heap.size := by simp; omega
   have HZX := Lib.hid (And.intro hx1 hx4);have hxr := hXA.lt;have HOW := Lib.hid (fun p j (hj : ((VK p).getD nilS).ownBlock = some j) => own_lt (hKM.at_ p) hj);have HOT := Lib.hid (fun j (hj : vt.ownBlock = some j) => own_lt hKM.tops hj);clear hMX hT hRR hKM hm;unfold itQ at hXA hTA hRA hKA hmA hBA hsA
   go_upto_region 5 with (fail)
   generalize (wr.alloc (.cells #[.string ⟨x.id.toArray⟩, .string ⟨x.cust.toArray⟩, .int .i64 x.kind, .string ⟨x.name.toArray⟩, .int .i64 x.tm, .string ⟨x.par.toArray⟩, .string ⟨x.text.toArray⟩] 79)) = WA at *;generalize hgx : wr.heap.size = gx at *;have hgx1 := Nat.le_of_eq hgx;have hgx2 := Nat.le_of_eq hgx.symm;clear hgx q0 q1 q2 q3 q4 q5 q6;have HXA := Lib.hid hXA;have HTA := Lib.hid hTA;have HRA := Lib.hid hRA;have HKA := Lib.hid hKA;have HMA := Lib.hid hmA;have HBA := Lib.hid hBA;have hgtl : gt < WA.heap.size := hTA.lt;have hgxl : gx < WA.heap.size := hBA.lt;have hgrl2 : gr < WA.heap.size := hRA.lt;have hbil2 : bi < WA.heap.size := hXA.lt;have hpD : Pure WA WA.drew := (Mod.refl _ _).drew;have hpA : Pure WA (WA.drew.alloc (.cells #[.string ⟨x.id.toArray⟩] 9)) := hpD.trans (pure_alloc _ _)
   cases he : x.par.isEmpty
   ·have hpn : x.par ≠ [] := by
     intro h;rw [h] at he
     cases he
    have hownU := (hKA.pure hpA).at_ x.par;have hfew := hKA.few x.par;generalize hF : kidsS (xs.take k) x.par = Fp at *;obtain ⟨Au, nu, cu, hu⟩ := (Sl.of_own hownU).form
    have hnu : nu = Fp.length := by
     rw [hu] at hownU
     rcases hownU.2 with ⟨h, h0⟩ | ⟨g, cap', cur, h, _⟩
     ·injection h with _ h1 _
      omega
     ·injection h with _ h1 _
    rw [hu] at hownU;subst hnu;have HU := Lib.hid hu;have HPN := Lib.hid hpn;have HF := Lib.hid hF
    have HOL : Hid (∀ j, (Value.slice Au Fp.length cu).ownBlock = some j → j < WA.heap.size) := Lib.hid (fun j hj => by
     have h1 := (hKA.at_ x.par);rw [hu] at h1
     exact own_lt h1 hj)
    have HOG : Hid (∀ j, (Value.slice Au Fp.length cu).ownBlock = some j → j < gx) := Lib.hid (fun j hj => HOW.out x.par j (by rw [hu]; exact hj));clear hu hownU hXA hTA hRA hKA hmA hBA hpn hF;generalize hlf0 : Fp.length = lf at *;have HLF := Lib.hid hlf0
    have hlf : lf ≤ 2000 := by omega
    clear hlf0;generalize hts : topsS (xs.take k) = ts at *;clear hts;have hBW := HBA.out;have c0 := hBW.cell 0; have c1 := hBW.cell 1; have c2 := hBW.cell 2; have c3 := hBW.cell 3; have c4 := hBW.cell 4; have c5 := hBW.cell 5; have c6 := hBW.cell 6; simp at c0 c1 c2 c3 c4 c5 c6;clear hBW
    go_wp2_with fail
    clear c0 c1 c2 c3 c4 c5 c6;have HGs := Lib.hid (show ∀ (D : Nat → Bool) (zzi : Nat) (zq zq' : World), zzi ≠ 12 → (fun D zq => (D 12 = false → (fun Z => KidsM Z base bk n k VK (kidsS (xs.take k)) vt ts) zq) ∧ (fun Z => Blk Z gt 116 #[.map (some bi), .map (some bk), vt] ∧ Blk Z gx 79 #[.string ⟨x.id.toArray⟩, .string ⟨x.cust.toArray⟩, .int .i64 x.kind, .string ⟨x.name.toArray⟩, .int .i64 x.tm, .string ⟨x.par.toArray⟩, .string ⟨x.text.toArray⟩] ∧ Blk Z gr 116 #[.map none, .map none, nilS] ∧ MapX Z bi xs.length (byF xs)) zq) D zq → Mod (fun _ => False) zq zq' → (fun D zq => (D 12 = false → (fun Z => KidsM Z base bk n k VK (kidsS (xs.take k)) vt ts) zq) ∧ (fun Z => Blk Z gt 116 #[.map (some bi), .map (some bk), vt] ∧ Blk Z gx 79 #[.string ⟨x.id.toArray⟩, .string ⟨x.cust.toArray⟩, .int .i64 x.kind, .string ⟨x.name.toArray⟩, .int .i64 x.tm, .string ⟨x.par.toArray⟩, .string ⟨x.text.toArray⟩] ∧ Blk Z gr 116 #[.map none, .map none, nilS] ∧ MapX Z bi xs.length (byF xs)) zq) (upd D zzi true) zq' from by intro D zzi zq zq' hi hh hm; refine ⟨fun hs => ?_, ?_⟩; (rw [upd_ne _ _ (Ne.symm hi)] at hs; have h := hh.1 hs; (exact h.pure hm)); (have h := hh.2; (exact ⟨h.1.modp hm, h.2.1.modp hm, h.2.2.1.modp hm, h.2.2.2.pure hm⟩)))
    refine wp_region_inv (by kernel_rfl) (by kernel_rfl) (InvF (R := Mod (fun _ => False)) [.is (.pointer (some ⟨gt, 1, none⟩)),
      .is (.map (some bk)),
      .is (.pointer (some ⟨gx, 5, none⟩)),
      .is (.string ⟨x.par.toArray⟩),
      .is (.pointer (some ⟨gt, 1, none⟩)),
      .is (.map (some bk)),
      .is (.pointer (some ⟨gx, 5, none⟩)),
      .is (.string ⟨x.par.toArray⟩),
      .is (.slice Au lf cu),
      .is (.pointer (some ⟨gx, 0, none⟩)),
      .is (.string ⟨x.id.toArray⟩),
      ⟨fun zv zw => ∃ (g_11 : Nat), zv = .slice (some ⟨g_11, 0, none⟩) 1 1 ∧ WA.heap.size ≤ g_11 ∧ Blk zw g_11 9 #[.string ⟨x.id.toArray⟩], (by rintro zv zw zx ⟨g_11, rfl, c0, q0⟩ hm; exact ⟨g_11, rfl, c0, (q0.modp hm)⟩), none, some 12⟩,
      ⟨fun zv zw => ∃ (g_12 : Nat) (c_12 : Nat), zv = .slice (some ⟨g_12, 0, none⟩) (lf + 1) c_12 ∧ KidsPre zw base bk n k VK (kidsS (xs.take k)) vt ts x.par x.id (.slice (some ⟨g_12, 0, none⟩) (lf + 1) c_12), (by rintro zv zw zx ⟨g_12, c_12, rfl, q0⟩ hm; exact ⟨g_12, c_12, rfl, (q0.pure hm)⟩), none, some 13⟩,
      ⟨fun zv zw => zv = undef ∧ KidsEnd zw base bk n k (kidsS (xs.take k)) vt ts x.par x.id, (by rintro zv zw zx ⟨rfl, q0⟩ hm; exact ⟨rfl, (q0.pure hm)⟩), none, none⟩]
      (PB w (fun _ => False) WA.heap.size (fun D zq => (D 12 = false → (fun Z => KidsM Z base bk n k VK (kidsS (xs.take k)) vt ts) zq) ∧ (fun Z => Blk Z gt 116 #[.map (some bi), .map (some bk), vt] ∧ Blk Z gx 79 #[.string ⟨x.id.toArray⟩, .string ⟨x.cust.toArray⟩, .int .i64 x.kind, .string ⟨x.name.toArray⟩, .int .i64 x.tm, .string ⟨x.par.toArray⟩, .string ⟨x.text.toArray⟩] ∧ Blk Z gr 116 #[.map none, .map none, nilS] ∧ MapX Z bi xs.length (byF xs)) zq))) (InvF.start (PB.start HMA.out (Nat.le_refl _) (⟨fun _ => HKA.out.pure hpD, ⟨HTA.out.drew, HBA.out.drew, HRA.out.drew, HXA.out.drew⟩⟩))) ?_ ?_
    ·refine .cons ?_ (.cons ?_ (.cons ?_ (.cons ?_ (.cons ?_ (.cons ?_ (.cons ?_ (.cons ?_ (.cons ?_ (.cons ?_ (.cons ?_ (.cons ?_ (.cons ?_ (.cons ?_ .nil)))))))))))))
     ·intro D V zw1 a hR hI K hK;obtain ⟨hM1, hB1, hG1⟩ := hI.1;obtain ⟨hGK, hG1⟩ := hG1;obtain ⟨hG1a, hG1b, hG1c, hG1d⟩ := hG1;have ze3 := hR.frame.other (t := 3) (by kernel_rfl) rfl;rw [if_pos (by rfl)];go_simp;exact hK (.pointer (some ⟨gt, 1, none⟩)) _ (hI.next hR (by kernel_rfl) (Mod.refl _ _) (PB.quiet hI.1 (Mod.refl _ _) (HGs.out D 0 zw1 zw1 (by omega) (hI.1).g (Mod.refl _ _))) (upd_same V 0 _))
     ·intro D V zw1 a hR hI K hK;obtain ⟨hM1, hB1, hG1⟩ := hI.1;obtain ⟨hGK, hG1⟩ := hG1;obtain ⟨hG1a, hG1b, hG1c, hG1d⟩ := hG1;have zd0 := hR.pred 0 (by kernel_rfl);have zf0 : V 0 = .pointer (some ⟨gt, 1, none⟩) := hI.2 0 zd0 rfl;have ze26 := hR.frame.done (t := 26) (j := 0) (by kernel_rfl) hR.ok zd0;have zx0 := hG1a.cell 0; have zx1 := hG1a.cell 1; have zx2 := hG1a.cell 2;simp at zx0 zx1 zx2;rw [if_pos (by rfl)];go_simp;exact hK (.map (some bk)) _ (hI.next hR (by kernel_rfl) (Mod.refl _ _) (PB.quiet hI.1 (Mod.refl _ _) (HGs.out D 1 zw1 zw1 (by omega) (hI.1).g (Mod.refl _ _))) (upd_same V 1 _))
     ·intro D V zw1 a hR hI K hK;obtain ⟨hM1, hB1, hG1⟩ := hI.1;obtain ⟨hGK, hG1⟩ := hG1;obtain ⟨hG1a, hG1b, hG1c, hG1d⟩ := hG1;have ze5 := hR.frame.other (t := 5) (by kernel_rfl) rfl;rw [if_pos (by rfl)];go_simp;exact hK (.pointer (some ⟨gx, 5, none⟩)) _ (hI.next hR (by kernel_rfl) (Mod.refl _ _) (PB.quiet hI.1 (Mod.refl _ _) (HGs.out D 2 zw1 zw1 (by omega) (hI.1).g (Mod.refl _ _))) (upd_same V 2 _))
     ·intro D V zw1 a hR hI K hK;obtain ⟨hM1, hB1, hG1⟩ := hI.1;obtain ⟨hGK, hG1⟩ := hG1;obtain ⟨hG1a, hG1b, hG1c, hG1d⟩ := hG1;have zd2 := hR.pred 2 (by kernel_rfl);have zf2 : V 2 = .pointer (some ⟨gx, 5, none⟩) := hI.2 2 zd2 rfl;have ze28 := hR.frame.done (t := 28) (j := 2) (by kernel_rfl) hR.ok zd2;have zx0 := hG1b.cell 0; have zx1 := hG1b.cell 1; have zx2 := hG1b.cell 2; have zx3 := hG1b.cell 3; have zx4 := hG1b.cell 4; have zx5 := hG1b.cell 5; have zx6 := hG1b.cell 6;simp at zx0 zx1 zx2 zx3 zx4 zx5 zx6;rw [if_pos (by rfl)];go_simp;exact hK (.string ⟨x.par.toArray⟩) _ (hI.next hR (by kernel_rfl) (Mod.refl _ _) (PB.quiet hI.1 (Mod.refl _ _) (HGs.out D 3 zw1 zw1 (by omega) (hI.1).g (Mod.refl _ _))) (upd_same V 3 _))
     ·intro D V zw1 a hR hI K hK;obtain ⟨hM1, hB1, hG1⟩ := hI.1;obtain ⟨hGK, hG1⟩ := hG1;obtain ⟨hG1a, hG1b, hG1c, hG1d⟩ := hG1;have ze3 := hR.frame.other (t := 3) (by kernel_rfl) rfl;rw [if_pos (by rfl)];go_simp;exact hK (.pointer (some ⟨gt, 1, none⟩)) _ (hI.next hR (by kernel_rfl) (Mod.refl _ _) (PB.quiet hI.1 (Mod.refl _ _) (HGs.out D 4 zw1 zw1 (by omega) (hI.1).g (Mod.refl _ _))) (upd_same V 4 _))
     ·intro D V zw1 a hR hI K hK;obtain ⟨hM1, hB1, hG1⟩ := hI.1;obtain ⟨hGK, hG1⟩ := hG1;obtain ⟨hG1a, hG1b, hG1c, hG1d⟩ := hG1;have zd4 := hR.pred 4 (by kernel_rfl);have zf4 : V 4 = .pointer (some ⟨gt, 1, none⟩) := hI.2 4 zd4 rfl;have ze30 := hR.frame.done (t := 30) (j := 4) (by kernel_rfl) hR.ok zd4;have zx0 := hG1a.cell 0; have zx1 := hG1a.cell 1; have zx2 := hG1a.cell 2;simp at zx0 zx1 zx2;rw [if_pos (by rfl)];go_simp;exact hK (.map (some bk)) _ (hI.next hR (by kernel_rfl) (Mod.refl _ _) (PB.quiet hI.1 (Mod.refl _ _) (HGs.out D 5 zw1 zw1 (by omega) (hI.1).g (Mod.refl _ _))) (upd_same V 5 _))
     ·intro D V zw1 a hR hI K hK;obtain ⟨hM1, hB1, hG1⟩ := hI.1;obtain ⟨hGK, hG1⟩ := hG1;obtain ⟨hG1a, hG1b, hG1c, hG1d⟩ := hG1;have ze5 := hR.frame.other (t := 5) (by kernel_rfl) rfl;rw [if_pos (by rfl)];go_simp;exact hK (.pointer (some ⟨gx, 5, none⟩)) _ (hI.next hR (by kernel_rfl) (Mod.refl _ _) (PB.quiet hI.1 (Mod.refl _ _) (HGs.out D 6 zw1 zw1 (by omega) (hI.1).g (Mod.refl _ _))) (upd_same V 6 _))
     ·intro D V zw1 a hR hI K hK;obtain ⟨hM1, hB1, hG1⟩ := hI.1;obtain ⟨hGK, hG1⟩ := hG1;obtain ⟨hG1a, hG1b, hG1c, hG1d⟩ := hG1;have zd6 := hR.pred 6 (by kernel_rfl);have zf6 : V 6 = .pointer (some ⟨gx, 5, none⟩) := hI.2 6 zd6 rfl;have ze32 := hR.frame.done (t := 32) (j := 6) (by kernel_rfl) hR.ok zd6;have zx0 := hG1b.cell 0; have zx1 := hG1b.cell 1; have zx2 := hG1b.cell 2; have zx3 := hG1b.cell 3; have zx4 := hG1b.cell 4; have zx5 := hG1b.cell 5; have zx6 := hG1b.cell 6;simp at zx0 zx1 zx2 zx3 zx4 zx5 zx6;rw [if_pos (by rfl)];go_simp;exact hK (.string ⟨x.par.toArray⟩) _ (hI.next hR (by kernel_rfl) (Mod.refl _ _) (PB.quiet hI.1 (Mod.refl _ _) (HGs.out D 7 zw1 zw1 (by omega) (hI.1).g (Mod.refl _ _))) (upd_same V 7 _))
     ·intro D V zw1 a hR hI K hK;obtain ⟨hM1, hB1, hG1⟩ := hI.1;obtain ⟨hGK, hG1⟩ := hG1;obtain ⟨hG1a, hG1b, hG1c, hG1d⟩ := hG1;have zd5 := hR.pred 5 (by kernel_rfl);have zf5 : V 5 = .map (some bk) := hI.2 5 zd5 rfl;have zd7 := hR.pred 7 (by kernel_rfl);have zf7 : V 7 = .string ⟨x.par.toArray⟩ := hI.2 7 zd7 rfl;have ze31 := hR.frame.done (t := 31) (j := 5) (by kernel_rfl) hR.ok zd5;have ze33 := hR.frame.done (t := 33) (j := 7) (by kernel_rfl) hR.ok zd7;have hK8 := hGK (hR.later 12 rfl (by kernel_rfl));have hrun := hK8.map.lookup (e := 29) Tryz.underlying114 zero_strs x.par (by omega);rw [HU.out] at hrun;rw [if_pos (by rfl)];go_simp;exact hK (.slice Au lf cu) _ (hI.next hR (by kernel_rfl) (Mod.refl _ _) (PB.quiet hI.1 (Mod.refl _ _) (HGs.out D 8 zw1 zw1 (by omega) (hI.1).g (Mod.refl _ _))) (upd_same V 8 _))
     ·intro D V zw1 a hR hI K hK;obtain ⟨hM1, hB1, hG1⟩ := hI.1;obtain ⟨hGK, hG1⟩ := hG1;obtain ⟨hG1a, hG1b, hG1c, hG1d⟩ := hG1;have ze5 := hR.frame.other (t := 5) (by kernel_rfl) rfl;rw [if_pos (by rfl)];go_simp;exact hK (.pointer (some ⟨gx, 0, none⟩)) _ (hI.next hR (by kernel_rfl) (Mod.refl _ _) (PB.quiet hI.1 (Mod.refl _ _) (HGs.out D 9 zw1 zw1 (by omega) (hI.1).g (Mod.refl _ _))) (upd_same V 9 _))
     ·intro D V zw1 a hR hI K hK;obtain ⟨hM1, hB1, hG1⟩ := hI.1;obtain ⟨hGK, hG1⟩ := hG1;obtain ⟨hG1a, hG1b, hG1c, hG1d⟩ := hG1;have zd9 := hR.pred 9 (by kernel_rfl);have zf9 : V 9 = .pointer (some ⟨gx, 0, none⟩) := hI.2 9 zd9 rfl;have ze35 := hR.frame.done (t := 35) (j := 9) (by kernel_rfl) hR.ok zd9;have zx0 := hG1b.cell 0; have zx1 := hG1b.cell 1; have zx2 := hG1b.cell 2; have zx3 := hG1b.cell 3; have zx4 := hG1b.cell 4; have zx5 := hG1b.cell 5; have zx6 := hG1b.cell 6;simp at zx0 zx1 zx2 zx3 zx4 zx5 zx6;rw [if_pos (by rfl)];go_simp;exact hK (.string ⟨x.id.toArray⟩) _ (hI.next hR (by kernel_rfl) (Mod.refl _ _) (PB.quiet hI.1 (Mod.refl _ _) (HGs.out D 10 zw1 zw1 (by omega) (hI.1).g (Mod.refl _ _))) (upd_same V 10 _))
     ·intro D V zw1 a hR hI K hK;obtain ⟨hM1, hB1, hG1⟩ := hI.1;obtain ⟨hGK, hG1⟩ := hG1;obtain ⟨hG1a, hG1b, hG1c, hG1d⟩ := hG1;have zd10 := hR.pred 10 (by kernel_rfl);have zf10 : V 10 = .string ⟨x.id.toArray⟩ := hI.2 10 zd10 rfl;have ze36 := hR.frame.done (t := 36) (j := 10) (by kernel_rfl) hR.ok zd10;rw [if_pos (by rfl)];go_simp;exact hK (_) _ (hI.next hR (by kernel_rfl) ((Mod.refl _ _).alloc _) (PB.quiet hI.1 (pure_alloc _ _) (HGs.out D 11 _ _ (by omega) (hI.1).g ((Mod.refl _ _).alloc _))) (⟨_, upd_same V 11 _, (by omega), (Blk.new _ _ _)⟩))
     ·intro D V zw1 a hR hI K hK;obtain ⟨hM1, hB1, hG1⟩ := hI.1;obtain ⟨hGK, hG1⟩ := hG1;obtain ⟨hG1a, hG1b, hG1c, hG1d⟩ := hG1;have zd8 := hR.pred 8 (by kernel_rfl);have zf8 : V 8 = .slice Au lf cu := hI.2 8 zd8 rfl;have zd11 := hR.pred 11 (by kernel_rfl);have zF11 : ∃ (g_11 : Nat), V 11 = .slice (some ⟨g_11, 0, none⟩) 1 1 ∧ WA.heap.size ≤ g_11 ∧ Blk zw1 g_11 9 #[.string ⟨x.id.toArray⟩] := hI.2 11 zd11 (by show (!D 12) = true; rw [hR.not]; rfl);obtain ⟨g_11, zf11, c11_0, b11_0⟩ := zF11;have ze34 := hR.frame.done (t := 34) (j := 8) (by kernel_rfl) hR.ok zd8;have ze37 := hR.frame.done (t := 37) (j := 11) (by kernel_rfl) hR.ok zd11;rw [if_pos (by rfl)];have hown := (by have h := (hGK hR.not).at_ x.par; rw [HU.out, HF.out, HLF.out] at h; exact h);refine wp_append_lies _ (.tmp 34) (.tmp 37) 29 (by rfl) base 9 i0 _ 1 16 Tryz.underlying29 hi0 hz0 hz1 hz2 (by rfl) (by omega) (.slice Au lf cu) (lf) (strsV Fp) ?_ hown ⟨g_11, 0, none⟩ 1 1 [.string ⟨x.id.toArray⟩] ?_ (by rfl) (World.news_of_block (cs := #[.string ⟨x.id.toArray⟩]) (t := 9) (fr := (0, 0)) b11_0) (by simp [Value.oneCell']) (by omega) (by simp [maxLen]; omega) (by omega) (by omega) zw1.heap.size rfl ?_
      ·show a.tmps.getD 34 undef = _; simp [ze34, zf8]
      ·show a.tmps.getD 37 undef = _; simp [ze37, zf11]
      intro g5 cap5 zw2 hown5 hgrow hat hlt5;have hT := mod_grown hgrow;have hTb : ∀ j, (.slice Au lf cu : Value).ownBlock = some j → base ≤ j := own_block hown;have hTl : ∀ j, (.slice Au lf cu : Value).ownBlock = some j → j < WA.heap.size := HOL.out;refine hK _ _ (InvF.last (PB.writes hI.1 (fun j hj hl => by have := hTb j hj; omega) hT ⟨fun hs => absurd hs (by rw [upd_same]; decide), ⟨hG1a.mod hT (fun h => by have := hTb _ h; omega), hG1b.mod hT (fun h => by have := HOG.out _ h; omega), hG1c.mod hT (fun h => by have := hTb _ h; omega), hG1d.mod hT (fun h => by have := hTb _ h; omega)⟩⟩) ⟨_, _, upd_same V 12 _, kidsPre_mk (hGK hR.not) HU.out HF.out hgrow hown5 hat⟩ ?_);intro k hk hDk hlv;have hkl := hR.lt k hDk;have hv := hI.2 k hDk (liveB_of hlv)
      match k, hk, hDk, hlv, hkl, hv with
      | 0, _, _, _, _, hv => exact hv
      | 1, _, _, _, _, hv => exact hv
      | 2, _, _, _, _, hv => exact hv
      | 3, _, _, _, _, hv => exact hv
      | 4, _, _, _, _, hv => exact hv
      | 5, _, _, _, _, hv => exact hv
      | 6, _, _, _, _, hv => exact hv
      | 7, _, _, _, _, hv => exact hv
      | 8, _, _, _, _, hv => exact hv
      | 9, _, _, _, _, hv => exact hv
      | 10, _, _, _, _, hv => exact hv
      | 11, _, _, hlv, _, _ => exact absurd hlv (by show ¬ (!upd D 12 true 12) = true; rw [upd_same]; decide)
      | 12, hk, _, _, _, _ => exact absurd rfl hk
      | 13, _, hDk, _, _, _ => exact absurd hDk (by rw [hR.later 13 rfl (by kernel_rfl)]; decide)
      | k + 14, _, _, _, hkl, _ => exact absurd hkl (by simp)
     ·intro D V zw1 a hR hI K hK;obtain ⟨hM1, hB1, hG1⟩ := hI.1;obtain ⟨hGK, hG1⟩ := hG1;obtain ⟨hG1a, hG1b, hG1c, hG1d⟩ := hG1;have zd1 := hR.pred 1 (by kernel_rfl);have zf1 : V 1 = .map (some bk) := hI.2 1 zd1 rfl;have zd3 := hR.pred 3 (by kernel_rfl);have zf3 : V 3 = .string ⟨x.par.toArray⟩ := hI.2 3 zd3 rfl;have zd12 := hR.pred 12 (by kernel_rfl);have zF12 : ∃ (g_12 : Nat) (c_12 : Nat), V 12 = .slice (some ⟨g_12, 0, none⟩) (lf + 1) c_12 ∧ KidsPre zw1 base bk n k VK (kidsS (xs.take k)) vt ts x.par x.id (.slice (some ⟨g_12, 0, none⟩) (lf + 1) c_12) := hI.2 12 zd12 (by show (!D 13) = true; rw [hR.not]; rfl);obtain ⟨g_12, c_12, zf12, b12_0⟩ := zF12;have ze27 := hR.frame.done (t := 27) (j := 1) (by kernel_rfl) hR.ok zd1;have ze29 := hR.frame.done (t := 29) (j := 3) (by kernel_rfl) hR.ok zd3;have ze38 := hR.frame.done (t := 38) (j := 12) (by kernel_rfl) hR.ok zd12;rw [if_pos (by rfl)];obtain ⟨w6, hrun6, hE6, hm6⟩ := b12_0.store (by omega) (by have := HZX.out.2; omega);go_simp;refine hK undef _ (InvF.last ⟨hM1.trans' hm6 (fun i hi hlt => by omega), (by have := hm6.size; omega), ⟨fun hs => absurd hs (by rw [upd_ne _ _ (by omega), hR.pred 12 (by kernel_rfl)]; decide), ⟨hG1a.mod hm6 (by omega), hG1b.mod hm6 (by omega), hG1c.mod hm6 (by omega), hG1d.mod hm6 (by omega)⟩⟩⟩ ⟨upd_same _ 13 _, hE6⟩ ?_);intro k hk hDk hlv;have hkl := hR.lt k hDk;have hv := hI.2 k hDk (liveB_of hlv)
      match k, hk, hDk, hlv, hkl, hv with
      | 0, _, _, _, _, hv => exact hv
      | 1, _, _, _, _, hv => exact hv
      | 2, _, _, _, _, hv => exact hv
      | 3, _, _, _, _, hv => exact hv
      | 4, _, _, _, _, hv => exact hv
      | 5, _, _, _, _, hv => exact hv
      | 6, _, _, _, _, hv => exact hv
      | 7, _, _, _, _, hv => exact hv
      | 8, _, _, _, _, hv => exact hv
      | 9, _, _, _, _, hv => exact hv
      | 10, _, _, _, _, hv => exact hv
      | 11, _, _, hlv, _, _ => exact absurd hlv (by show ¬ (!upd D 13 true 12) = true; rw [upd_ne _ _ (by omega), hR.pred 12 (by kernel_rfl)]; decide)
      | 12, _, _, hlv, _, _ => exact absurd hlv (by show ¬ (!upd D 13 true 13) = true; rw [upd_same]; decide)
      | 13, hk, _, _, _, _ => exact absurd rfl hk
      | k + 14, _, _, _, hkl, _ => exact absurd hkl (by simp)
    ·intro D V w7 hD hI;obtain ⟨hM1, hB1, hG1⟩ := hI.1;have hMx := hM1;clear hM1;have hBx := hB1;clear hB1;have hGx := hG1.2;clear hG1;have zf0 : V 0 = .pointer (some ⟨gt, 1, none⟩) := hI.2 0 (hD 0 (by decide)) rfl;have zf1 : V 1 = .map (some bk) := hI.2 1 (hD 1 (by decide)) rfl;have zf2 : V 2 = .pointer (some ⟨gx, 5, none⟩) := hI.2 2 (hD 2 (by decide)) rfl;have zf3 : V 3 = .string ⟨x.par.toArray⟩ := hI.2 3 (hD 3 (by decide)) rfl;have zf4 : V 4 = .pointer (some ⟨gt, 1, none⟩) := hI.2 4 (hD 4 (by decide)) rfl;have zf5 : V 5 = .map (some bk) := hI.2 5 (hD 5 (by decide)) rfl;have zf6 : V 6 = .pointer (some ⟨gx, 5, none⟩) := hI.2 6 (hD 6 (by decide)) rfl;have zf7 : V 7 = .string ⟨x.par.toArray⟩ := hI.2 7 (hD 7 (by decide)) rfl;have zf8 : V 8 = .slice Au lf cu := hI.2 8 (hD 8 (by decide)) rfl;have zf9 : V 9 = .pointer (some ⟨gx, 0, none⟩) := hI.2 9 (hD 9 (by decide)) rfl;have zf10 : V 10 = .string ⟨x.id.toArray⟩ := hI.2 10 (hD 10 (by decide)) rfl;have zF13 : V 13 = undef ∧ KidsEnd w7 base bk n k (kidsS (xs.take k)) vt ts x.par x.id := hI.2 13 (hD 13 (by decide)) rfl;obtain ⟨zf13, b13_0⟩ := zF13;clear hI hD HGs;simp only [frAll, Act.put, List.setIfInBounds_toArray, List.set_cons_zero, List.set_cons_succ, Nat.zero_add, Nat.reduceAdd, zf0, zf1, zf2, zf3, zf4, zf5, zf6, zf7, zf8, zf9, zf10, zf13];clear zf0 zf1 zf2 zf3 zf4 zf5 zf6 zf7 zf8 zf9 zf10 zf13;generalize V 11 = u11;generalize V 12 = u12;clear V D;obtain ⟨V', hKE⟩ := b13_0;have hsz7 := hMx.size
     go_wp2_with fail
     go_roundg (xs.length - (k + 1))
     case measure => omega
     case rel =>
      have e1 : kidsS (xs.take (k + 1)) = fun q => if q = x.par then kidsS (xs.take k) x.par ++ [x.id] else kidsS (xs.take k) q := by
       funext q
       rw [HKT.out q]
       by_cases hq : q = x.par
       ·subst hq;simp [HPN.out]
       ·rw [if_neg hq]
        by_cases hq0 : q = []
        ·subst hq0;simp [kidsS]
        ·rw [if_neg hq0, if_neg (fun h => hq h.symm)]
      have e2 : topsS (xs.take (k + 1)) = ts := by rw [HTT.out, if_neg HPN.out]
      refine ⟨k + 1, n + 1, V', vt, rfl, by omega, by simp, by omega, by rw [e1, e2]; exact hKE, by rw [e2]; omega, hGx.2.2.2, hGx.1, hGx.2.2.1, hMx, by omega⟩
   ·have hpn : x.par = [] := List.isEmpty_iff.1 he;have hownT := (hKA.tops);obtain ⟨At, nt, ct, ht⟩ := (Sl.of_own hownT).form
    have hnt : nt = (topsS (xs.take k)).length := by
     rw [ht] at hownT
     rcases hownT.2 with ⟨h, h0⟩ | ⟨g, cap', cur, h, _⟩
     ·injection h with _ h1 _
      omega
     ·injection h with _ h1 _
    subst ht;subst hnt;have hownA := hownT.alloc (.cells #[.string ⟨x.id.toArray⟩] 9);have HPN := Lib.hid hpn;have hob := own_block hownA;have HOB := Lib.hid hob;have hTA2 := hTA;have hBA2 := hBA;have hTA3 := hTA.alloc (.cells #[.string ⟨x.id.toArray⟩] 9);have HKA2 := Lib.hid (hKA.pure (pure_alloc WA (.cells #[.string ⟨x.id.toArray⟩] 9)));have hpA2 : Pure WA (WA.alloc (.cells #[.string ⟨x.id.toArray⟩] 9)) := pure_alloc _ _;generalize hts : topsS (xs.take k) = ts at *;have HTS := Lib.hid hts;generalize hlt0 : ts.length = lt at *;have HLT0 := Lib.hid hlt0;have t0 := hTA2.cell 0; have t1 := hTA2.cell 1; have t2 := hTA2.cell 2; simp at t0 t1 t2;have c0 := hBA2.cell 0; have c1 := hBA2.cell 1; have c2 := hBA2.cell 2; have c3 := hBA2.cell 3; have c4 := hBA2.cell 4; have c5 := hBA2.cell 5; have c6 := hBA2.cell 6; simp at c0 c1 c2 c3 c4 c5 c6;clear hXA hTA hRA hKA hmA hBA hTA2 hBA2 hTA3 hpn hob hts hlt0 hownT
    go_wp2_with (at_builtin; (refine wpList_append_own_at _ rfl _ _ _ rfl base 9 i0 _ 1 16 Tryz.underlying29 hi0 hz0 hz1 hz2 rfl (by omega) (.slice At lt ct) lt _ rfl hownA ⟨WA.heap.size, 0, none⟩ 1 1 [.string ⟨x.id.toArray⟩] rfl rfl (cell_one_new _ _ _) (by simp [Value.oneCell']) (by simp [maxLen]; omega) (by omega) (by simp; omega) ?_); intro v5 w5 hown5 hgrow hnil hat; obtain ⟨A5, n5, c5, rfl⟩ := (Sl.of_own hown5).form; have hm5 := grown_mod (v := .slice At lt ct) hgrow; have hT5 := (HTA.out.mod hpA2 id).mod hm5 (fun h => by have := HOB.out _ h; omega); have q52 := hT5.cell 2; have f52 := hT5.frozen 2; simp at q52; clear hnil)
    have hmW : Mod (fun j => j = gt) w5 (w5.setCell ⟨gt, 2, none⟩ (.slice A5 n5 c5)) := Mod.setCell (S := fun j => j = gt) (p := ⟨gt, 2, none⟩) (Mod.refl _ _) (.inl rfl) _;have hlk := HKA.out.lt
    go_roundg (xs.length - (k + 1))
    case measure => omega
    case rel =>
     have e1 : kidsS (xs.take (k + 1)) = kidsS (xs.take k) := by
      funext q
      rw [HKT.out q]
      by_cases hq0 : q = []
      ·subst hq0; simp [kidsS]
      ·rw [if_neg hq0, if_neg (by rw [HPN.out]; exact fun h => hq0 h.symm)]
     have e2 : topsS (xs.take (k + 1)) = ts ++ [x.id] := by rw [HTT.out, if_pos HPN.out]
     have hK5 := HKA2.out.top hgrow hown5 hat (Nat.le_refl _);have hK6 := hK5.few;refine ⟨k + 1, n, VK, .slice A5 n5 c5, rfl, by omega, by simp, by omega, ?_, by rw [e2, List.length_append, List.length_singleton, HLT0.out]; omega, ?_, ?_, ?_, ?_, ?_⟩
     ·rw [e1, e2];exact (hK5.mod2 hmW (by omega) (fun g h1 h2 => by omega)).up (by omega)
     ·exact ((HXA.out.alloc _).mod hm5 (fun h => by have := HOB.out _ h; omega)).mod hmW (by omega)
     ·have := hT5.set 2 (.slice A5 n5 c5); simpa using this
     ·exact ((HRA.out.alloc _).mod hm5 (fun h => by have := HOB.out _ h; omega)).mod hmW (by omega)
     ·exact ((HMA.out.alloc _).trans' hm5 (fun i hi hl => by have := HOB.out _ hi; omega)).trans' hmW (fun i hi hl => by omega)
     ·have := hgrow.size;simp at this;have h2 := hmW.size
      omega
  ·obtain rfl : k = xs.length := by omega
   rw [List.take_length] at hKM
   have hcells : vt.oneCell' = true := by
    rcases hKM.tops.2 with ⟨h, _⟩ | ⟨g, cap, cur, h, _⟩
    ·rw [h]; rfl
    ·rw [h]; rfl
   obtain ⟨At, nt, ct, rfl⟩ := (Sl.of_own hKM.tops).form;have HK := Lib.hid hKM;have HT := Lib.hid hT;have HR3 := Lib.hid hRR;have HX := Lib.hid hMX;have hlk := hKM.lt;have t0 := hT.cell 0; have t1 := hT.cell 1; have t2 := hT.cell 2; simp at t0 t1 t2;have r0 := hRR.cell 0; have rf0 := hRR.frozen 0; have r1 := hRR.cell 1; have rf1 := hRR.frozen 1; have r2 := hRR.cell 2; have rf2 := hRR.frozen 2; simp at r0 r1 r2;clear hKM hT hRR hMX hcells
   go_wp2_with fail
   have hB := HR3.out.set3 (x := .map (some bi)) (y := .map (some bk)) (z := .slice At nt ct)
   have hmW : Mod (fun j => j = gr) wr (((wr.setCell ⟨gr, 0, none⟩ (.map (some bi))).setCell ⟨gr, 1, none⟩ (.map (some bk))).setCell ⟨gr, 2, none⟩ (.slice At nt ct)) :=
    Mod.setCell (S := fun j => j = gr) (p := ⟨gr, 2, none⟩) (Mod.setCell (S := fun j => j = gr) (p := ⟨gr, 1, none⟩) (Mod.setCell (S := fun j => j = gr) (p := ⟨gr, 0, none⟩) (Mod.refl _ _) (.inl rfl) _) (.inl rfl) _) (.inl rfl) _
   have hbg : ¬ bk = gr := by omega
   have hbg2 : ∀ g, base ≤ g → ¬ g = gr := fun g h1 h2 => by omega
   have hbg3 : ¬ bi = gr := by omega
   have hK6 := HK.out.mod2 hmW hbg hbg2;have hX6 := HX.out.mod hmW hbg3;have m6 : Pure w (((wr.setCell ⟨gr, 0, none⟩ (.map (some bi))).setCell ⟨gr, 1, none⟩ (.map (some bk))).setCell ⟨gr, 2, none⟩ (.slice At nt ct)) := hm.trans' hmW (fun i hi hl => by omega);have s0 := hB.cell 0; have s1 := hB.cell 1; have s2 := hB.cell 2; simp at s0 s1 s2;refine bodyPost_ret (v := .agg #[.map (some bi), .map (some bk), .slice At nt ct]) (by simp [results, Tryz.results69, go_sem, s0, s1, s2]) rfl ?_;exact ⟨bi, bk, _, rfl, ⟨hX6, ⟨n, VK, hK6.map, fun p => Sl.of_own (hK6.at_ p)⟩, Sl.of_own hK6.tops⟩, m6⟩
end Go.Proofs.YtgfgggeeoeppjaaGreatDoor
/- The items below an item: below of package intake. -/
namespace Go.Proofs.YtgfgggeeoeppjaaGreatDoor
open Go.RowKit
def idAt2 (l : List Itm) (k : Nat) : Str := match l[k]? with
 | some x => x.id
 | none => []
theorem idAt2_eq {l : List Itm} {k : Nat} (h : k < l.length) : idAt2 l k = l[k].id := by simp [idAt2, h]
def belS (l : List Itm) (n i : Nat) : List Str := (belI l n i).map (idAt2 l)
theorem filter_range_go {α : Type} (p : Nat → Bool) (q : α → Bool) (f : α → Str) (g : Nat → Str) : ∀ (l : List α) (s : Nat), (∀ k (hk : k < l.length), p (s + k) = q l[k] ∧ g (s + k) = f l[k]) → (l.filter q).map f = ((List.range' s l.length).filter p).map g
 | [], s, _ => rfl
 | a :: l, s, h => by
  have h0 := h 0 (by simp);simp only [Nat.add_zero, List.getElem_cons_zero] at h0
  have ih := filter_range_go p q f g l (s + 1) (fun k hk => by
   have := h (k + 1) (by simpa using hk);simp only [List.getElem_cons_succ] at this
   rwa [show s + 1 + k = s + (k + 1) by omega])
  rw [List.length_cons, List.range'_succ, List.filter_cons, List.filter_cons, h0.1]
  cases q a
  ·simpa using ih
  ·simp only [if_true, List.map_cons, h0.2, ih]
theorem filter_range {α : Type} (l : List α) (p : Nat → Bool) (q : α → Bool) (f : α → Str) (g : Nat → Str) (h : ∀ k (hk : k < l.length), p k = q l[k] ∧ g k = f l[k]) : (l.filter q).map f = ((List.range l.length).filter p).map g := by
 rw [List.range_eq_range'];exact filter_range_go p q f g l 0 (fun k hk => by simpa using h k hk)
theorem Right.kidsS_eq {l : List Itm} (h : Right l) {i : Nat} (hi : i < l.length) : kidsS l l[i].id = (kidsI l i).map (idAt2 l) := by
 unfold kidsS kidsI;rw [if_neg (h.key _ (List.getElem_mem hi))];refine filter_range l _ _ _ _ (fun k hk => ⟨?_, idAt2_eq hk⟩);exact decide_eq_decide.2 (h.kid_iff hi hk)
theorem Right.topsS_eq {l : List Itm} (h : Right l) : topsS l = (topsI l).map (idAt2 l) := by
 unfold topsS topsI;refine filter_range l _ _ _ _ (fun k hk => ⟨?_, idAt2_eq hk⟩);exact decide_eq_decide.2 (h.top_iff hk)
end Go.Proofs.YtgfgggeeoeppjaaGreatDoor
/- The items below an item: below of package intake. -/
namespace Go.Proofs.YtgfgggeeoeppjaaGreatDoor
open Go.RowKit
def BelPost (w : World) (ys : List Str) (e : Ending) (w' : World) : Prop := ∃ v, e = .returned v ∧ w'.ownsRow w.heap.size 9 1 v ys.length (strsV ys) ∧ Pure w w'
end Go.Proofs.YtgfgggeeoeppjaaGreatDoor
