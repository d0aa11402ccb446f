/- Texts of the proof of CodingSpreads, put together: PlcR, SprB, SprF, CntA, SprC, CntB, GenE. -/
import Derived.Test.YtpinlcapgoljfaaGreatDoorCodingSpreadsZ14
import Derived.Test.YtpinlcapgoljfaaGreatDoorCodingSpreadsZ20
import Derived.Test.YtpinlcapgoljfaaGreatDoorCodingSpreadsZ23
import Derived.Test.YtpinlcapgoljfaaGreatDoorCodingSpreadsZ24
import Derived.Test.YtpinlcapgoljfaaGreatDoorCodingSpreadsZ26
import Derived.Test.YtpinlcapgoljfaaGreatDoorCodingSpreadsZ29
import Derived.Test.YtpinlcapgoljfaaGreatDoorCodingSpreadsZ36
import Derived.Deep.DeepCutAuto
import Derived.Deep.CutBlock
set_option linter.unusedVariables false
set_option linter.unusedSimpArgs false
/- FamilyOf, ChildrenOf, DepthOf of the reference. -/
namespace Go.Proofs.YtpinlcapgoljfaaGreatDoor
open Go.RowKit

def RFmPost (w : World) (l : List Itm) (id : Str) (e : Ending) (w' : World) : Prop :=
 ∃ (A : Option Addr) (n c : Nat), e = .returned (.agg #[.string ⟨(idAt2 l (tpI l (idxId l id))).toArray⟩, .slice A n c]) ∧ Sl w' 9 1 (.slice A n c) (strsV (fmB l id)) ∧ Pure w w'
theorem Right.fam_has {l : List Itm} (h : Right l) {id : Str} (hi : idxId l id < l.length) (hie : l[idxId l id].id = id) {k : Nat} (hk : k < (famsS l).length) (hk2 : k < (topsI l).length) :
  id ∈ (famsS l)[k].2 ↔ (topsI l)[k] = tpI l (idxId l id) := by
 have e : (famsS l)[k].2 = belS l 4 (topsI l)[k] := by simp [famsS]
 rw [e];have ht : (topsI l)[k] ∈ topsI l := List.getElem_mem hk2;unfold belS;rw [List.mem_map]
 constructor
 ·rintro ⟨x, hx, he⟩;obtain ⟨hxl, hxt⟩ := (h.bel_top ht).1 hx;have : x = idxId l id := h.id2_inj hxl hi (by rw [he, idAt2_eq hi, hie]);rw [← hxt, this]
 ·intro he;exact ⟨idxId l id, (h.bel_top ht).2 ⟨hi, he.symm⟩, by rw [idAt2_eq hi, hie]⟩
def RfRel (w : World) (g4 : Nat) (l : List Itm) (id : Str) (gk : Nat) (i : Value) (wr : World) : Prop :=
 ∃ k : Nat, (famsS l).length - k = gk ∧ k ≤ (famsS l).length ∧ i = .int .i64 (k : Int) ∧ (∀ j (hj : j < (famsS l).length), j < k → id ∉ (famsS l)[j].2) ∧ Blk wr g4 92 #[.string ⟨#[]⟩, .slice none 0 0] ∧ Pure w wr

set_option maxRecDepth 100000 in
set_option maxHeartbeats 8000000 in
theorem rfamilyOf_calls (w : World) (v : Value) (l : List Itm) (id : Str) (hv : Its w v l) (hR : Right l) (hl : l.length ≤ 12) (hi : idxId l id < l.length) (hie : l[idxId l id].id = id) : Calls Tryz.prog 47 #[v, .string ⟨id.toArray⟩] w (RFmPost w l id) := by
 have hp := pure_alloc w (.cells #[.string ⟨#[]⟩, .slice none 0 0] 92);have HFO := Lib.hid (familiesOf_calls _ v l (hv.pure hp) hR hl);have HB := Lib.hid (Blk.new w 92 #[.string ⟨#[]⟩, .slice none 0 0]);have HP := Lib.hid hp
 have hfl : (famsS l).length = (topsI l).length := by simp [famsS]
 have HH : Hid (∀ k (hk : k < (famsS l).length) (hk2 : k < (topsI l).length), id ∈ (famsS l)[k].2 ↔ (topsI l)[k] = tpI l (idxId l id)) := Lib.hid (fun k hk hk2 => hR.fam_has hi hie hk hk2);have HTM := Lib.hid (hR.tpI_mem hi);obtain ⟨A, n, c, rfl⟩ := Sl.form hv;clear hv hR hi hie hp
 go_enter Tryz.func47, Tryz.ntmps47
 go_wp2_with fail
 obtain ⟨g4, hg4⟩ : ∃ g4, g4 = w.heap.size := ⟨_, rfl⟩;have hg1 := Nat.le_of_eq hg4;have hg2 := Nat.le_of_eq hg4.symm;rw [← hg4] at HB ⊢;clear hg4;generalize (w.alloc (.cells #[.string ⟨#[]⟩, .slice none 0 0] 92)) = W at *;refine HFO.out.mono ?_;rintro e w1 ⟨v1, fs, rfl, hfm, hfs, m1⟩;obtain ⟨Af, nf, cf, rfl⟩ := hfm.1.form;have hnf := hfm.len.1;subst hnf;have HF1 : Hid (∀ W, Pure w1 W → FmR W (.slice Af fs.length cf) fs) := Lib.hid (fun W h => hfm.pure h)
 have hfl2 : (famsS l).length = fs.length := by rw [← hfs]; simp [fmS]
 have HFS := Lib.hid hfs;have hfl3 := Nat.le_of_eq hfl2;have hfl4 := Nat.le_of_eq hfl2.symm;have hfl5 := Nat.le_of_eq hfl;have hfl6 := Nat.le_of_eq hfl.symm
 have hfb : (topsI l).length ≤ 12 := by
  unfold topsI;exact Nat.le_trans (List.length_filter_le _ _) (by simp; omega)
 have HB1 := Lib.hid (HB.out.mod m1 _root_.id);have HM1 := Lib.hid (HP.out.trans m1);clear HFO HB HP hfm hfs m1 hfl2 hfl
 go_wp2_with fail
 go_loopg [10] (famsS l).length (fun gk i wr => RfRel w1 g4 l id gk i wr)
 case atStart => exact ⟨0, by omega, by omega, rfl, fun j _ hj => absurd hj (by omega), HB1.out, Mod.refl _ _⟩
 case round =>
  clear HB1;obtain ⟨k, rfl, hk, rfl, hno, hB, hm⟩ := hrel;have HNO := Lib.hid hno;clear hno
  by_cases hlt : k < (famsS l).length
  ·have hkf : k < fs.length := by omega
   have hkt : k < (topsI l).length := by omega
   obtain ⟨g, off, B, m, d, rfl, q1, q2, _, s1⟩ := (HF1.out wr hm).at hkf
   have hfe : (famsS l)[k] = (fs[k].1, fs[k].2.2) := by
    have := congrArg (fun x => x[k]?) HFS.out
    simpa [fmS, hkf, hlt] using this.symm
   have hfe2 : (famsS l)[k] = (idAt2 l (topsI l)[k], belS l 4 (topsI l)[k]) := by simp [famsS]
   have HHK := HH.out k hlt hkt;rw [hfe] at HHK;have HHK := Lib.hid HHK
   have HNK : Hid (id ∉ fs[k].2.2 → ∀ j (hj : j < (famsS l).length), j < k + 1 → id ∉ (famsS l)[j].2) := Lib.hid (fun h j hj hjk => by
    rcases Nat.lt_or_ge j k with h2 | h2
    ·exact HNO.out j hj h2
    ·have : j = k := by omega
     subst this;rw [hfe]
     exact h)
   have HF1K : Hid (fs[k].1 = idAt2 l (topsI l)[k] ∧ fs[k].2.2 = belS l 4 (topsI l)[k]) := Lib.hid (by
    rw [hfe] at hfe2
    injection hfe2 with h1 h2
    exact ⟨h1, h2⟩)
   have hp2 := pure_alloc wr (.cells #[.string ⟨fs[k].1.toArray⟩, .slice B m d] 92);have HCC := Lib.hid (containsSq_calls _ (.slice B m d) fs[k].2.2 id (s1.pure hp2));rw [any_eq_mem] at HCC;have HS2 := Lib.hid (s1.pure hp2);have HB2 := Lib.hid (Blk.new wr 92 #[.string ⟨fs[k].1.toArray⟩, .slice B m d]);have HB4 := Lib.hid (hB.alloc (.cells #[.string ⟨fs[k].1.toArray⟩, .slice B m d] 92));have HM2 := Lib.hid (hm.trans hp2);have hg4l : g4 < wr.heap.size := hB.lt;clear hfe hfe2 HNO hp2 s1 hB hm;generalize fs[k].1 = fa at *;generalize fs[k].2.2 = fb at *;obtain ⟨bd, hbd⟩ : ∃ bd, decide (id ∈ fb) = bd := ⟨_, rfl⟩;rw [hbd] at HCC;have HBD := Lib.hid hbd;clear hbd
   go_wp2_with fail
   refine HCC.out.mono ?_;rintro e w3 ⟨rfl, m3⟩;have hB3 := HB2.out.mod m3 _root_.id;have hB4 := HB4.out.mod m3 _root_.id;have HM3 := Lib.hid (HM2.out.trans m3);have hS3 := HS2.out.pure m3;have HB43 := Lib.hid hB4;generalize wr.heap.size = gx at *
   cases bd
   ·have HN := Lib.hid (HNK.out (of_decide_eq_false HBD.out));clear HCC HB2 HB4 HM2 m3 hB3 hB4 HS2 HNK HF1K HHK HBD hS3
    go_wp2_with fail
    go_roundg ((famsS l).length - (k + 1))
    case measure => omega
    case rel => exact ⟨k + 1, rfl, by omega, by simp, HN.out, HB43.out, HM3.out⟩
   ·have HT : Hid ((topsI l)[k] = tpI l (idxId l id)) := Lib.hid (HHK.out.1 (of_decide_eq_true HBD.out));obtain ⟨he1, he2⟩ := HF1K.out;have HE1 : Hid (fa = idAt2 l (tpI l (idxId l id)) ∧ fb = fmB l id) := Lib.hid ⟨by rw [he1, HT.out], by rw [he2, HT.out]; rfl⟩;have HS3 := Lib.hid (Sl.set_ne (Sl.set_ne hS3 hB4 (by decide) (j := 0) (.string ⟨fa.toArray⟩)) (hB4.set 0 (.string ⟨fa.toArray⟩)) (by decide) (j := 1) (.slice B m d));have s0 := hB3.cell 0; have s1 := hB3.cell 1; simp at s0 s1;have t0 := hB4.cell 0; have tf0 := hB4.frozen 0; have t1 := hB4.cell 1; have tf1 := hB4.frozen 1; simp at t0 t1;clear HCC HB2 HB4 HM2 m3 hB3 hB4 HS2 HNK HF1K HHK HBD hS3 he1 he2 HT HTM
    go_wp2_with fail
    have hB9 := HB43.out.set2 (x := .string ⟨fa.toArray⟩) (y := .slice B m d);have u0 := hB9.cell 0; have u1 := hB9.cell 1; simp at u0 u1;refine bodyPost_ret (v := .agg #[.string ⟨fa.toArray⟩, .slice B m d]) (by simp [results, Tryz.results47, go_sem, u0, u1]) rfl ?_;refine ⟨B, m, d, by rw [HE1.out.1], by rw [← HE1.out.2]; exact HS3.out, ((HM1.out.trans HM3.out).setCell (.inr (by show _ ≤ g4; omega)) _).setCell (.inr (by show _ ≤ g4; omega)) _⟩
  ·exfalso
   obtain ⟨j, hj, he⟩ := List.getElem_of_mem HTM.out;exact HNO.out j (by omega) (by omega) ((HH.out j (by omega) hj).2 he)

end Go.Proofs.YtpinlcapgoljfaaGreatDoor

/- SpreadOf of the reference. -/
namespace Go.Proofs.YtpinlcapgoljfaaGreatDoor
open Go.RowKit

/-- Values that have been put together. -/
def VkS (w : World) (base : Nat) (A : Option Addr) (c : Nat) (cs : List ChoR) (r : List (Str × List Str)) : Prop := w.ownsRow base 125 2 (.slice A cs.length c) cs.length (choV cs) ∧ ChoS w cs ∧ cs.map (fun x => (x.field, x.ch)) = r
theorem VkS.pure {w w' : World} {base c : Nat} {A : Option Addr} {cs : List ChoR} {r : List (Str × List Str)} (h : VkS w base A c cs r) (hm : Pure w w') : VkS w' base A c cs r := ⟨own_pure h.1 hm, h.2.1.pure hm, h.2.2⟩
theorem choS_mod {w w' : World} {S : Nat → Prop} {cs : List ChoR} (h : ChoS w cs) (hm : Mod S w w') (hs : ∀ g arr fr, w.heap[g]? = some (.cells arr 9 fr) → ¬ S g) : ChoS w' cs := fun x hx => (h x hx).mod hm hs
theorem VkS.app {w w' : World} {base c c5 n' : Nat} {A A5 : Option Addr} {cs : List ChoR} {r : List (Str × List Str)} {x : ChoR} (h : VkS w base A c cs r) (hm : Mod (fun j => (Value.slice A cs.length c).ownBlock = some j) w w') (hx : Sl w 9 1 (.slice x.A x.ch.length x.c) (strsV x.ch))
  (hn : n' = cs.length + 1) (hown : w'.ownsRow base 125 2 (.slice A5 n' c5) n' (choV cs ++ choC x)) : VkS w' base A5 c5 (cs ++ [x]) (r ++ [(x.field, x.ch)]) := by
 have hty : ∀ i arr fr, w.heap[i]? = some (.cells arr 9 fr) → ¬ (Value.slice A cs.length c).ownBlock = some i := fun i arr fr hi hv => absurd (own_ty h.1 hv hi) (by decide);subst hn;refine ⟨by simpa [choV_snoc] using hown, fun y hy => ?_, by rw [List.map_append, h.2.2]; rfl⟩
 rcases List.mem_append.1 hy with e | e
 ·exact (h.2.1 y e).mod hm hty
 ·rw [List.mem_singleton.1 e]; exact hx.mod hm hty
theorem VkS.far {w w' : World} {base c g : Nat} {A : Option Addr} {cs : List ChoR} {r : List (Str × List Str)} {t : TypeId} {cl : Array Value} (h : VkS w base A c cs r) (hm : Mod (· = g) w w') (hB : Blk w g t cl) (h1 : t ≠ 125) (h2 : t ≠ 9) : VkS w' base A c cs r :=
 ⟨own_mod h.1 hm (fun i hi he => by subst he; exact absurd (own_ty h.1 hi hB) h1), choS_mod h.2.1 hm (fun i arr fr hi => blk_ty hB hi h2), h.2.2⟩
theorem VkS.vals {w : World} {base c : Nat} {A : Option Addr} {cs : List ChoR} {r : List (Str × List Str)} (h : VkS w base A c cs r) : Vals w (.slice A cs.length c) cs := ⟨Sl.of_own h.1, h.2.1⟩
/-- Codings that have been put together. -/
def CdR (w : World) (base : Nat) (A : Option Addr) (c : Nat) (xs : List CodR) (K : List (Str × List (Str × List Str))) : Prop := w.ownsRow base 76 2 (.slice A xs.length c) xs.length (cdV xs) ∧ CodS w xs ∧ xs.map CodR.key = K
theorem CdR.pure {w w' : World} {base c : Nat} {A : Option Addr} {xs : List CodR} {K : List (Str × List (Str × List Str))} (h : CdR w base A c xs K) (hm : Pure w w') : CdR w' base A c xs K := ⟨own_pure h.1 hm, h.2.1.pure hm, h.2.2⟩
theorem CdR.app {w w' : World} {base n' c c5 : Nat} {A A5 : Option Addr} {xs : List CodR} {K : List (Str × List (Str × List Str))} {x : CodR} (h : CdR w base A c xs K) (hx : Vals w (.slice x.A x.vals.length x.c) x.vals) (hm : Mod (fun j => (Value.slice A xs.length c).ownBlock = some j) w w') (hn : n' = xs.length + 1)
  (hown : w'.ownsRow base 76 2 (.slice A5 n' c5) n' (cdV xs ++ cdC x)) : CdR w' base A5 c5 (xs ++ [x]) (K ++ [x.key]) := by
 have t1 : ∀ i arr fr, w.heap[i]? = some (.cells arr 125 fr) → ¬ (Value.slice A xs.length c).ownBlock = some i := fun i arr fr hi hv => absurd (own_ty h.1 hv hi) (by decide);have t2 : ∀ i arr fr, w.heap[i]? = some (.cells arr 9 fr) → ¬ (Value.slice A xs.length c).ownBlock = some i := fun i arr fr hi hv => absurd (own_ty h.1 hv hi) (by decide);subst hn;exact ⟨by simpa [cdV_snoc] using hown, CodS.mod (CodS.snoc h.2.1 hx) hm t1 t2, by rw [List.map_append, h.2.2]; rfl⟩
theorem CdR.cods {w : World} {base c : Nat} {A : Option Addr} {xs : List CodR} {K : List (Str × List (Str × List Str))} (h : CdR w base A c xs K) : Cods w (.slice A xs.length c) xs := ⟨Sl.of_own h.1, h.2.1⟩
/-- Where ids come from. -/
def frmS (its : List Itm) (x : Itm) (sp : Int) : List Str := if sp = 1 then idsSum its (sumS x) else if sp = 2 then fmB its x.id else []
theorem sprA_frm (cs : List CodR) (its : List Itm) (x : Itm) (a : AskR) : sprA cs its x a = if chIn (ownV cs x.id) a.field = [] then firV cs (frmS its x a.spread) a.field else chIn (ownV cs x.id) a.field := by
 unfold sprA frmS
 by_cases h : chIn (ownV cs x.id) a.field = []
 ·rw [if_pos h, if_pos h]
  split
  ·rfl
  ·split
   ·rfl
   ·rfl
 ·rw [if_neg h, if_neg h]
/-- A row of strings of one's own. -/
def OwT (w : World) (bw : Nat) (v : Value) (n : Nat) (xs : List Str) : Prop := w.ownsRow bw 9 1 v n (strsV xs)
theorem OwT.pure {w w' : World} {bw n : Nat} {v : Value} {xs : List Str} (h : OwT w bw v n xs) (hm : Pure w w') : OwT w' bw v n xs := own_pure h hm
theorem info_chS : (Tryz.prog.info? 125).map (fun i => (i.zero, i.size, i.bytes)) = some (some (.agg #[.string ⟨#[]⟩, .slice none 0 0]), 2, 40) := by kernel_rfl
set_option maxRecDepth 100000 in
set_option maxHeartbeats 16000000 in
theorem spreadOf_calls (w : World) (vl : Value) (L : LayR) (vi : Value) (its : List Itm) (CA : Option Addr) (cn cc : Nat) (cs : List CodR) (hL : LayV w L vl) (hla : L.asks.length ≤ 100) (hI : Its w vi its) (hR : Right its) (hn : its.length ≤ 12) (hz : ∀ x ∈ its, ItB x) (hkd : ∀ x ∈ its, 1 ≤ x.kind ∧ x.kind ≤ 4) (hC : Cods w (.slice CA cn cc) cs) (hcz : ∀ x ∈ cs, x.vals.length ≤ 1000000) (hcn : cs.length ≤ 100000) :
  Calls Tryz.prog 34 #[vl, vi, .slice CA cn cc] w (fun e w' => ∃ (A : Option Addr) (c : Nat) (xs : List CodR), e = .returned (.slice A xs.length c) ∧ Cods w' (.slice A xs.length c) xs ∧ xs.map CodR.key = sprS cs its L.asks its ∧ Pure w w') := by
 have hcl := hC.len;subst hcl;obtain ⟨LA, ln, lc, LA2, ln2, lc2, rfl, hLA, hLR⟩ := hL;obtain ⟨IA, inn, ic, rfl⟩ := Sl.form hI
 have hil : its.length = inn := by
  obtain ⟨_, _, _, e, _, _, h, _⟩ := hI
  cases e
  rw [itV_len] at h
  omega
 subst hil;have hal := hLA.len;have HLA := Lib.hid hLA;have HI := Lib.hid hI
 have HRW : Hid (0 < its.length → ∃ g off, IA = some ⟨g, off, none⟩ ∧ RowAt w 83 g off (itV its)) := Lib.hid (by
  obtain ⟨_, _, _, e, _, _, _, h⟩ := hI
  cases e
  exact h)
 have HC := Lib.hid hC;have HR := Lib.hid hR;have HZ := Lib.hid hz;have HKD := Lib.hid hkd;have hp0 := pure_alloc w (.cells #[.slice LA ln lc, .slice LA2 ln2 lc2] 63);have hp1 := hp0.trans (pure_alloc (w.alloc (.cells #[.slice LA ln lc, .slice LA2 ln2 lc2] 63)) (.cells #[.slice CA cs.length cc] 65));have HB3 := Lib.hid ((Blk.new w 63 #[.slice LA ln lc, .slice LA2 ln2 lc2]).alloc (.cells #[.slice CA cs.length cc] 65));have HB5 := Lib.hid (Blk.snd w (.cells #[.slice LA ln lc, .slice LA2 ln2 lc2] 63) 65 #[.slice CA cs.length cc]);have HP1 := Lib.hid hp1
 have hz1 : ((w.alloc (.cells #[.slice LA ln lc, .slice LA2 ln2 lc2] 63)).alloc (.cells #[.slice CA cs.length cc] 65)).heap.size = w.heap.size + 2 := by simp
 clear hLA hLR hI hC hR hz hkd hp0 hp1
 go_enter Tryz.func34, Tryz.ntmps34
 go_upto_region 1 with (fail)
 generalize ((w.alloc (.cells #[.slice LA ln lc, .slice LA2 ln2 lc2] 63)).alloc (.cells #[.slice CA cs.length cc] 65)) = w1 at *;generalize hg5 : w.heap.size + 1 = g5 at *;generalize hg3 : w.heap.size = g3 at *;obtain ⟨base, hbase⟩ : ∃ base, base = w1.heap.size := ⟨_, rfl⟩;have hb1 := Nat.le_of_eq hbase;have hb2 := Nat.le_of_eq hbase.symm
 have hwb : w.heap.size ≤ base := by omega
 have hg3b : g3 < base := by omega
 have hg5b : g5 < base := by omega
 clear hbase hg5 hg3 hz1
 -- the closure: what an item has of its own
 have HOW := Lib.hid (fun (W : World) (item f : Str) (hm : Pure w W) (hB : Blk W g5 65 #[.slice CA cs.length cc]) => rown_calls W g5 CA cs.length cc cs item f hB (HC.out.pure hm) hcz hcn)
 go_wp2_with fail
 go_loopg [23, 8] its.length (fun gk i v wr => ∃ (k cap : Nat) (A : Option Addr) (xs : List CodR), its.length - k = gk ∧ k ≤ its.length ∧ i = .int .i64 (k : Int) ∧ v = .slice A xs.length cap ∧ xs.length ≤ k ∧ CdR wr base A cap xs (sprS cs its L.asks (its.take k)) ∧ Blk wr g3 63 #[.slice LA ln lc, .slice LA2 ln2 lc2] ∧ Blk wr g5 65 #[.slice CA cs.length cc] ∧ Pure w wr ∧ base ≤ wr.heap.size)
 case atStart => exact ⟨0, 0, none, [], by omega, by omega, rfl, rfl, by simp, ⟨World.ownsRow_nil _ _ _ _, fun x h => absurd h (by simp), rfl⟩, HB3.out, HB5.out, HP1.out, by omega⟩
 case round =>
  clear HB3 HB5 HP1 hb1 hb2;obtain ⟨k, cap, A, xs, rfl, hk, rfl, rfl, hxk, hCd, hB3, hB5, hm, hbw⟩ := hrel
  by_cases hlt : k < its.length
  ·obtain ⟨gi, oi, rfl, hrow⟩ := HRW.out (by omega);obtain ⟨q0, q1, q2, q3, q4, q5, q6⟩ := item_cells (hrow.mod hm id) hlt;have HTK := Lib.hid (sprS_snoc (cs := cs) (its := its) (al := L.asks) hlt);have hxz := HZ.out _ (List.getElem_mem hlt);have hkx := HKD.out _ (List.getElem_mem hlt)
   have hix : idxId its its[k].id = k := by unfold idxId; rw [plc_self HR.out.distinct k hlt]; rfl
   have HFM := Lib.hid (fun (W : World) (h : Pure w W) => rfamilyOf_calls W _ its its[k].id (HI.out.pure h) HR.out hn (by rw [hix]; exact hlt) (by simp only [hix]));unfold RFmPost at HFM;have HXM := Lib.hid (List.getElem_mem hlt);clear hrow hix;generalize its[k] = x at *;obtain ⟨xid, xcust, xkind, xname, xtm, xpar, xtext⟩ := x;simp only at q0 q1 q2 q3 q4 q5 q6 HFM hkx;obtain ⟨w0, hw0⟩ : ∃ W, W = wr := ⟨wr, rfl⟩;subst hw0;have HM0 := Lib.hid hm;have HCD := Lib.hid hCd;have hpa := pure_alloc w0 (.cells #[.string ⟨xid.toArray⟩, .string ⟨xcust.toArray⟩, .int .i64 xkind, .string ⟨xname.toArray⟩, .int .i64 xtm, .string ⟨xpar.toArray⟩, .string ⟨xtext.toArray⟩] 83);have hpb := pure_alloc (w0.alloc (.cells #[.string ⟨xid.toArray⟩, .string ⟨xcust.toArray⟩, .int .i64 xkind, .string ⟨xname.toArray⟩, .int .i64 xtm, .string ⟨xpar.toArray⟩, .string ⟨xtext.toArray⟩] 83)) (.cells #[.string ⟨xid.toArray⟩, .slice none 0 0] 76);have HB10 := Lib.hid ((Blk.new w0 83 #[.string ⟨xid.toArray⟩, .string ⟨xcust.toArray⟩, .int .i64 xkind, .string ⟨xname.toArray⟩, .int .i64 xtm, .string ⟨xpar.toArray⟩, .string ⟨xtext.toArray⟩]).modp hpb);have HB11 := Lib.hid (Blk.snd w0 (.cells #[.string ⟨xid.toArray⟩, .string ⟨xcust.toArray⟩, .int .i64 xkind, .string ⟨xname.toArray⟩, .int .i64 xtm, .string ⟨xpar.toArray⟩, .string ⟨xtext.toArray⟩] 83) 76 #[.string ⟨xid.toArray⟩, .slice none 0 0]);have HB3 := Lib.hid ((hB3.modp hpa).modp hpb);have HB5 := Lib.hid ((hB5.modp hpa).modp hpb);have HMA := Lib.hid (hpa.trans hpb)
   have hzA : ((w0.alloc (.cells #[.string ⟨xid.toArray⟩, .string ⟨xcust.toArray⟩, .int .i64 xkind, .string ⟨xname.toArray⟩, .int .i64 xtm, .string ⟨xpar.toArray⟩, .string ⟨xtext.toArray⟩] 83)).alloc (.cells #[.string ⟨xid.toArray⟩, .slice none 0 0] 76)).heap.size = w0.heap.size + 2 := by simp
   have hxA := HB3.out;have x0 := hxA.cell 0; have x1 := hxA.cell 1; simp at x0 x1;have hg3w := hB3.lt;have hg5w := hB5.lt;clear hCd hm hpa hpb hB3 hB5 hxA
   go_upto_region 7 with (fail)
   generalize ((w0.alloc (.cells #[.string ⟨xid.toArray⟩, .string ⟨xcust.toArray⟩, .int .i64 xkind, .string ⟨xname.toArray⟩, .int .i64 xtm, .string ⟨xpar.toArray⟩, .string ⟨xtext.toArray⟩] 83)).alloc (.cells #[.string ⟨xid.toArray⟩, .slice none 0 0] 76)) = wA at *;generalize hg11 : w0.heap.size + 1 = g11 at *;generalize hg10 : w0.heap.size = g10 at *;have hg11a := Nat.le_of_eq hg11;have hg11b := Nat.le_of_eq hg11.symm;have hg10a := Nat.le_of_eq hg10;have hg10b := Nat.le_of_eq hg10.symm;clear hg11 hg10 q0 q1 q2 q3 q4 q5 q6;obtain ⟨bv, hbv⟩ : ∃ bv, bv = wA.heap.size := ⟨_, rfl⟩;have hbv1 := Nat.le_of_eq hbv;have hbv2 := Nat.le_of_eq hbv.symm
   have hbv0 : w0.heap.size ≤ bv := by omega
   clear hbv hzA
   go_wp2_with fail
   go_loopg [33] ln (fun gk i wr => ∃ (j capv : Nat) (Av : Option Addr) (vs : List ChoR), ln - j = gk ∧ j ≤ ln ∧ i = .int .i64 (j : Int) ∧ vs.length ≤ j ∧ VkS wr bv Av capv vs (sprV cs its ⟨xid, xcust, xkind, xname, xtm, xpar, xtext⟩ (L.asks.take j)) ∧ Blk wr g11 76 #[.string ⟨xid.toArray⟩, .slice Av vs.length capv] ∧ Blk wr g10 83 #[.string ⟨xid.toArray⟩, .string ⟨xcust.toArray⟩, .int .i64 xkind, .string ⟨xname.toArray⟩, .int .i64 xtm, .string ⟨xpar.toArray⟩, .string ⟨xtext.toArray⟩] ∧ Blk wr g3 63 #[.slice LA ln lc, .slice LA2 ln2 lc2] ∧ Blk wr g5 65 #[.slice CA cs.length cc] ∧ Pure w0 wr ∧ bv ≤ wr.heap.size)
   case atStart => exact ⟨0, 0, none, [], by omega, by omega, rfl, by simp, ⟨World.ownsRow_nil _ _ _ _, fun x h => absurd h (by simp), rfl⟩, HB11.out, HB10.out, HB3.out, HB5.out, HMA.out, by omega⟩
   case round =>
    clear HB11 HB10 HB3 HB5 HMA x0 x1;obtain ⟨j, capv, Av, vs, rfl, hj, rfl, hvj, hVk, hB11, hB10, hB3, hB5, hmj, hbvw⟩ := hrel;have HM1 := Lib.hid (HM0.out.trans hmj)
    by_cases hlj : j < ln
    ·obtain ⟨ga, oa, rfl, p0, p1, p2, p3⟩ := Asks.cells (HLA.out.pure HM1.out) (show j < L.asks.length by omega);have HVT := Lib.hid (sprV_snoc (cs := cs) (its := its) (x := ⟨xid, xcust, xkind, xname, xtm, xpar, xtext⟩) (al := L.asks) (k := j) (by omega));have HSA := Lib.hid (sprA_frm cs its ⟨xid, xcust, xkind, xname, xtm, xpar, xtext⟩ L.asks[j]);generalize L.asks[j] = y at *;obtain ⟨f, yA, yc, ych, ymb, ysp⟩ := y;simp only at p0 p1 p2 p3 HVT HSA;have hpa := pure_alloc wr (.cells #[.string ⟨f.toArray⟩, .slice yA ych.length yc, .bool ymb, .int .i64 ysp] 113);have HB13 := Lib.hid (Blk.new wr 113 #[.string ⟨f.toArray⟩, .slice yA ych.length yc, .bool ymb, .int .i64 ysp]);have HVK := Lib.hid (hVk.pure hpa);have HB11 := Lib.hid (hB11.modp hpa);have HB10 := Lib.hid (hB10.modp hpa);have HB3 := Lib.hid (hB3.modp hpa);have HB5 := Lib.hid (hB5.modp hpa);have HMJ := Lib.hid (hmj.trans hpa)
     have hbw2 : bv ≤ (wr.alloc (.cells #[.string ⟨f.toArray⟩, .slice yA ych.length yc, .bool ymb, .int .i64 ysp] 113)).heap.size := by simp; omega
     clear hVk hB11 hB10 hB3 hB5 hmj hpa HM1
     go_upto_region 10 with (fail)
     generalize (wr.alloc (.cells #[.string ⟨f.toArray⟩, .slice yA ych.length yc, .bool ymb, .int .i64 ysp] 113)) = w4 at *;generalize wr.heap.size = g13 at *;clear p0 p1 p2 p3;have hx10 := HB10.out;have hx13 := HB13.out;have x0 := hx10.cell 0; have x1 := hx10.cell 1; have x2 := hx10.cell 2; have x3 := hx10.cell 3; have x4 := hx10.cell 4; have x5 := hx10.cell 5; have x6 := hx10.cell 6; simp at x0 x1 x2 x3 x4 x5 x6;have y0 := hx13.cell 0; have y1 := hx13.cell 1; have y2 := hx13.cell 2; have y3 := hx13.cell 3; simp at y0 y1 y2 y3;have HOW4 := Lib.hid (HOW.out w4 xid f (HM0.out.trans HMJ.out) HB5.out);clear hx10 hx13
     go_wp2_with fail
     refine HOW4.out.mono ?_;rintro e w5 ⟨A5, c5, rfl, hs5, hm5⟩;have HS5 := Lib.hid hs5;have HVK5 := Lib.hid (HVK.out.pure hm5);have HB115 := Lib.hid (HB11.out.modp hm5);have HB105 := Lib.hid (HB10.out.modp hm5);have HB35 := Lib.hid (HB3.out.modp hm5);have HB55 := Lib.hid (HB5.out.modp hm5);have HB135 := Lib.hid (HB13.out.modp hm5);have HMJ5 := Lib.hid (HMJ.out.trans hm5);have hx13 := HB135.out;have y0 := hx13.cell 0; have y1 := hx13.cell 1; have y2 := hx13.cell 2; have y3 := hx13.cell 3; simp at y0 y1 y2 y3
     have hbw5 : bv ≤ w5.heap.size := by have := hm5.size; omega
     clear hs5 hm5 HVK HB11 HB10 HB3 HB5 HB13 HMJ HOW4 x0 x1 x2 x3 x4 x5 x6 hx13;have hp5 := HM0.out.trans HMJ5.out;have HX5 := Lib.hid (HI.out.pure hp5)
     go_upto_block 4 with (fail)
     go_cut [15] (fun p wy => ∃ (A' : Option Addr) (n' c' : Nat), p = .slice A' n' c' ∧ Sl wy 9 1 (.slice A' n' c') (strsV (frmS its ⟨xid, xcust, xkind, xname, xtm, xpar, xtext⟩ ysp)) ∧ Pure w5 wy)
     case first =>
      clear HVT HSA HS5 HVK5 HB35 HB55 HTK HCD HOW
      by_cases h1 : ysp = 1
      ·subst h1;obtain ⟨bf, hbf⟩ : ∃ bf, bf = w5.heap.size := ⟨_, rfl⟩;have hbf1 := Nat.le_of_eq hbf;have hbf2 := Nat.le_of_eq hbf.symm;clear hbf;obtain ⟨sx, hsx⟩ : ∃ sx, sumS ⟨xid, xcust, xkind, xname, xtm, xpar, xtext⟩ = sx := ⟨_, rfl⟩;have HFR : Hid (frmS its ⟨xid, xcust, xkind, xname, xtm, xpar, xtext⟩ 1 = idsSum its sx) := Lib.hid (by unfold frmS; rw [if_pos rfl, hsx]);have HSX : Hid (∀ W, Calls Tryz.prog 77 #[.agg #[.string ⟨xid.toArray⟩, .string ⟨xcust.toArray⟩, .int .i64 xkind, .string ⟨xname.toArray⟩, .int .i64 xtm, .string ⟨xpar.toArray⟩, .string ⟨xtext.toArray⟩]] W (StrPost1 W sx)) := Lib.hid (fun W => by have := SumOf_calls W ⟨xid, xcust, xkind, xname, xtm, xpar, xtext⟩ hxz hkx.1 hkx.2; rw [hsx] at this; exact this);clear hsx
       go_wp2_with fail
       go_loopg [49, 15] its.length (fun gk i v wr => ∃ (m capf : Nat) (Af : Option Addr) (fs : List Str), its.length - m = gk ∧ m ≤ its.length ∧ i = .int .i64 (m : Int) ∧ v = .slice Af fs.length capf ∧ fs = idsSum (its.take m) sx ∧ fs.length ≤ m ∧ OwT wr bf (.slice Af fs.length capf) fs.length fs ∧ Blk wr g10 83 #[.string ⟨xid.toArray⟩, .string ⟨xcust.toArray⟩, .int .i64 xkind, .string ⟨xname.toArray⟩, .int .i64 xtm, .string ⟨xpar.toArray⟩, .string ⟨xtext.toArray⟩] ∧ Pure w5 wr)
       case atStart => exact ⟨0, 0, none, [], by omega, by omega, rfl, rfl, by simp [idsSum], by simp, World.ownsRow_nil _ _ _ _, HB105.out, Mod.refl _ _⟩
       case round =>
        obtain ⟨m, capf, Af, fs, rfl, hmm, rfl, rfl, hfs, hfl, hOf, hB10, hmf⟩ := hrel;have HFS := Lib.hid hfs;have HOF := Lib.hid hOf;have HBX := Lib.hid hB10;have HMF := Lib.hid hmf
        by_cases hlm : m < its.length
        ·obtain ⟨gi2, oi2, ei, hrow⟩ := HRW.out (by omega)
         cases ei
         obtain ⟨q0, q1, q2, q3, q4, q5, q6⟩ := item_cells (hrow.mod (hp5.trans hmf) id) hlm;have HIT := Lib.hid (idsSum_take hlm sx);have hoz := HZ.out _ (List.getElem_mem hlm);have hok := HKD.out _ (List.getElem_mem hlm);clear hrow hfs hOf hB10;generalize its[m] = o at *;obtain ⟨so, hso⟩ : ∃ so, sumS o = so := ⟨_, rfl⟩;have HSO0 : Hid (∀ W, Calls Tryz.prog 77 #[itA o] W (StrPost1 W so)) := Lib.hid (fun W => by have := SumOf_calls W o hoz hok.1 hok.2; rw [hso] at this; exact this);rw [hso] at HIT;obtain ⟨oid, ocust, okind, oname, otm, opar, otext⟩ := o;have HSO : Hid (∀ W, Calls Tryz.prog 77 #[.agg #[.string ⟨oid.toArray⟩, .string ⟨ocust.toArray⟩, .int .i64 okind, .string ⟨oname.toArray⟩, .int .i64 otm, .string ⟨opar.toArray⟩, .string ⟨otext.toArray⟩]] W (StrPost1 W so)) := Lib.hid HSO0.out;simp only at q0 q1 q2 q3 q4 q5 q6 HIT;clear hoz hok hso HSO0;obtain ⟨be, hbe⟩ : ∃ be, (so == sx) = be := ⟨_, rfl⟩;have HBE := Lib.hid hbe;clear hbe;obtain ⟨wm, hwm⟩ : ∃ W, W = wr := ⟨wr, rfl⟩;subst hwm;have hpo := pure_alloc wm (.cells #[.string ⟨oid.toArray⟩, .string ⟨ocust.toArray⟩, .int .i64 okind, .string ⟨oname.toArray⟩, .int .i64 otm, .string ⟨opar.toArray⟩, .string ⟨otext.toArray⟩] 83);have HBO := Lib.hid (Blk.new wm 83 #[.string ⟨oid.toArray⟩, .string ⟨ocust.toArray⟩, .int .i64 okind, .string ⟨oname.toArray⟩, .int .i64 otm, .string ⟨opar.toArray⟩, .string ⟨otext.toArray⟩]);have HBX2 := Lib.hid (HBX.out.modp hpo);have HOF2 := Lib.hid (HOF.out.pure hpo);have HMF2 := Lib.hid (HMF.out.trans hpo);clear hpo HBX HOF HMF hmf
         go_upto_region 17 with (fail)
         generalize (wm.alloc (.cells #[.string ⟨oid.toArray⟩, .string ⟨ocust.toArray⟩, .int .i64 okind, .string ⟨oname.toArray⟩, .int .i64 otm, .string ⟨opar.toArray⟩, .string ⟨otext.toArray⟩] 83)) = w7 at *;generalize wm.heap.size = g17 at *;clear q0 q1 q2 q3 q4 q5 q6;have HGs := Lib.hid (show ∀ (D : Nat → Bool) (zzi : Nat) (zq zq' : World), (fun _ zq => (fun Z => Blk Z g17 83 #[.string ⟨oid.toArray⟩, .string ⟨ocust.toArray⟩, .int .i64 okind, .string ⟨oname.toArray⟩, .int .i64 otm, .string ⟨opar.toArray⟩, .string ⟨otext.toArray⟩] ∧ Blk Z g10 83 #[.string ⟨xid.toArray⟩, .string ⟨xcust.toArray⟩, .int .i64 xkind, .string ⟨xname.toArray⟩, .int .i64 xtm, .string ⟨xpar.toArray⟩, .string ⟨xtext.toArray⟩]) zq) D zq → Mod (fun _ => False) zq zq' → (fun _ zq => (fun Z => Blk Z g17 83 #[.string ⟨oid.toArray⟩, .string ⟨ocust.toArray⟩, .int .i64 okind, .string ⟨oname.toArray⟩, .int .i64 otm, .string ⟨opar.toArray⟩, .string ⟨otext.toArray⟩] ∧ Blk Z g10 83 #[.string ⟨xid.toArray⟩, .string ⟨xcust.toArray⟩, .int .i64 xkind, .string ⟨xname.toArray⟩, .int .i64 xtm, .string ⟨xpar.toArray⟩, .string ⟨xtext.toArray⟩]) zq) (upd D zzi true) zq' from by intro D zzi zq zq' h hm; (exact ⟨h.1.modp hm, h.2.modp hm⟩))
         refine wp_region_inv (by kernel_rfl) (by kernel_rfl) (InvF (R := Mod (fun _ => False)) [.is (.agg #[.string ⟨oid.toArray⟩, .string ⟨ocust.toArray⟩, .int .i64 okind, .string ⟨oname.toArray⟩, .int .i64 otm, .string ⟨opar.toArray⟩, .string ⟨otext.toArray⟩]),
           .is (.string ⟨so.toArray⟩),
           .is (.agg #[.string ⟨xid.toArray⟩, .string ⟨xcust.toArray⟩, .int .i64 xkind, .string ⟨xname.toArray⟩, .int .i64 xtm, .string ⟨xpar.toArray⟩, .string ⟨xtext.toArray⟩]),
           .is (.string ⟨sx.toArray⟩),
           .is (.bool be)]
           (PB w7 (fun _ => False) w7.heap.size (fun _ zq => (fun Z => Blk Z g17 83 #[.string ⟨oid.toArray⟩, .string ⟨ocust.toArray⟩, .int .i64 okind, .string ⟨oname.toArray⟩, .int .i64 otm, .string ⟨opar.toArray⟩, .string ⟨otext.toArray⟩] ∧ Blk Z g10 83 #[.string ⟨xid.toArray⟩, .string ⟨xcust.toArray⟩, .int .i64 xkind, .string ⟨xname.toArray⟩, .int .i64 xtm, .string ⟨xpar.toArray⟩, .string ⟨xtext.toArray⟩]) zq))) (InvF.start (PB.start (Mod.refl _ _) (Nat.le_refl _) (⟨HBO.out.drew, HBX2.out.drew⟩))) ?_ ?_
         ·refine .cons ?_ (.cons ?_ (.cons ?_ (.cons ?_ (.cons ?_ .nil))))
          ·intro D V zw1 a hR hI K hK;obtain ⟨hM1, hB1, hG1⟩ := hI.1;have ze17 := hR.frame.other (t := 17) (by kernel_rfl) rfl;have zx0 := hG1.1.cell 0; have zx1 := hG1.1.cell 1; have zx2 := hG1.1.cell 2; have zx3 := hG1.1.cell 3; have zx4 := hG1.1.cell 4; have zx5 := hG1.1.cell 5; have zx6 := hG1.1.cell 6;simp at zx0 zx1 zx2 zx3 zx4 zx5 zx6;rw [if_pos (by rfl)];go_simp;exact hK (.agg #[.string ⟨oid.toArray⟩, .string ⟨ocust.toArray⟩, .int .i64 okind, .string ⟨oname.toArray⟩, .int .i64 otm, .string ⟨opar.toArray⟩, .string ⟨otext.toArray⟩]) _ (hI.next hR (by kernel_rfl) (Mod.refl _ _) (PB.quiet hI.1 (Mod.refl _ _) (HGs.out D 0 zw1 zw1 (hI.1).g (Mod.refl _ _))) (upd_same V 0 _))
          ·intro D V zw1 a hR hI K hK;obtain ⟨hM1, hB1, hG1⟩ := hI.1;have zd0 := hR.pred 0 (by kernel_rfl);have zf0 : V 0 = .agg #[.string ⟨oid.toArray⟩, .string ⟨ocust.toArray⟩, .int .i64 okind, .string ⟨oname.toArray⟩, .int .i64 otm, .string ⟨opar.toArray⟩, .string ⟨otext.toArray⟩] := hI.2 0 zd0 rfl;have ze53 := hR.frame.done (t := 53) (j := 0) (by kernel_rfl) hR.ok zd0;rw [if_pos (by rfl)];go_simp;refine (HSO.out _).mono ?_;rintro e zw2 ⟨rfl, hm2⟩;exact hK (.string ⟨so.toArray⟩) _ (hI.next hR (by kernel_rfl) hm2 (PB.quiet hI.1 hm2 (HGs.out D 1 _ _ (hI.1).g hm2)) (upd_same V 1 _))
          ·intro D V zw1 a hR hI K hK;obtain ⟨hM1, hB1, hG1⟩ := hI.1;have ze10 := hR.frame.other (t := 10) (by kernel_rfl) rfl;have zx0 := hG1.2.cell 0; have zx1 := hG1.2.cell 1; have zx2 := hG1.2.cell 2; have zx3 := hG1.2.cell 3; have zx4 := hG1.2.cell 4; have zx5 := hG1.2.cell 5; have zx6 := hG1.2.cell 6;simp at zx0 zx1 zx2 zx3 zx4 zx5 zx6;rw [if_pos (by rfl)];go_simp;exact hK (.agg #[.string ⟨xid.toArray⟩, .string ⟨xcust.toArray⟩, .int .i64 xkind, .string ⟨xname.toArray⟩, .int .i64 xtm, .string ⟨xpar.toArray⟩, .string ⟨xtext.toArray⟩]) _ (hI.next hR (by kernel_rfl) (Mod.refl _ _) (PB.quiet hI.1 (Mod.refl _ _) (HGs.out D 2 zw1 zw1 (hI.1).g (Mod.refl _ _))) (upd_same V 2 _))
          ·intro D V zw1 a hR hI K hK;obtain ⟨hM1, hB1, hG1⟩ := hI.1;have zd2 := hR.pred 2 (by kernel_rfl);have zf2 : V 2 = .agg #[.string ⟨xid.toArray⟩, .string ⟨xcust.toArray⟩, .int .i64 xkind, .string ⟨xname.toArray⟩, .int .i64 xtm, .string ⟨xpar.toArray⟩, .string ⟨xtext.toArray⟩] := hI.2 2 zd2 rfl;have ze55 := hR.frame.done (t := 55) (j := 2) (by kernel_rfl) hR.ok zd2;rw [if_pos (by rfl)];go_simp;refine (HSX.out _).mono ?_;rintro e zw2 ⟨rfl, hm2⟩;exact hK (.string ⟨sx.toArray⟩) _ (hI.next hR (by kernel_rfl) hm2 (PB.quiet hI.1 hm2 (HGs.out D 3 _ _ (hI.1).g hm2)) (upd_same V 3 _))
          ·intro D V zw1 a hR hI K hK;obtain ⟨hM1, hB1, hG1⟩ := hI.1;have zd1 := hR.pred 1 (by kernel_rfl);have zf1 : V 1 = .string ⟨so.toArray⟩ := hI.2 1 zd1 rfl;have zd3 := hR.pred 3 (by kernel_rfl);have zf3 : V 3 = .string ⟨sx.toArray⟩ := hI.2 3 zd3 rfl;have ze54 := hR.frame.done (t := 54) (j := 1) (by kernel_rfl) hR.ok zd1;have ze56 := hR.frame.done (t := 56) (j := 3) (by kernel_rfl) hR.ok zd3;have zbe := HBE.out;rw [if_pos (by rfl)];go_simp;exact hK (.bool be) _ (hI.next hR (by kernel_rfl) (Mod.refl _ _) (PB.quiet hI.1 (Mod.refl _ _) (HGs.out D 4 zw1 zw1 (hI.1).g (Mod.refl _ _))) (upd_same V 4 _))
         ·intro D V w8 hD hI;obtain ⟨hM1, hB1, hG1⟩ := hI.1;have hMx := hM1;clear hM1;have hBx := hB1;clear hB1;have hGx := hG1;clear hG1;have zf0 : V 0 = .agg #[.string ⟨oid.toArray⟩, .string ⟨ocust.toArray⟩, .int .i64 okind, .string ⟨oname.toArray⟩, .int .i64 otm, .string ⟨opar.toArray⟩, .string ⟨otext.toArray⟩] := hI.2 0 (hD 0 (by decide)) rfl;have zf1 : V 1 = .string ⟨so.toArray⟩ := hI.2 1 (hD 1 (by decide)) rfl;have zf2 : V 2 = .agg #[.string ⟨xid.toArray⟩, .string ⟨xcust.toArray⟩, .int .i64 xkind, .string ⟨xname.toArray⟩, .int .i64 xtm, .string ⟨xpar.toArray⟩, .string ⟨xtext.toArray⟩] := hI.2 2 (hD 2 (by decide)) rfl;have zf3 : V 3 = .string ⟨sx.toArray⟩ := hI.2 3 (hD 3 (by decide)) rfl;have zf4 : V 4 = .bool be := hI.2 4 (hD 4 (by decide)) rfl;clear hI hD HGs;simp only [frAll, Act.put, List.setIfInBounds_toArray, List.set_cons_zero, List.set_cons_succ, Nat.zero_add, Nat.reduceAdd, zf0, zf1, zf2, zf3, zf4];clear zf0 zf1 zf2 zf3 zf4;clear V D;have HBO8 := Lib.hid hGx.1;have HBX8 := Lib.hid hGx.2;have HM8 := Lib.hid (HMF2.out.trans hMx);have HOF8 := Lib.hid (HOF2.out.pure hMx);have hbo := HBO8.out;have y0 := hbo.cell 0; have y1 := hbo.cell 1; have y2 := hbo.cell 2; have y3 := hbo.cell 3; have y4 := hbo.cell 4; have y5 := hbo.cell 5; have y6 := hbo.cell 6; simp at y0 y1 y2 y3 y4 y5 y6;clear hbo hGx hMx hBx HBO HBX2 HOF2 HMF2
          cases be
          ·have HIT2 : Hid (fs = idsSum (its.take (m + 1)) sx) := Lib.hid (by rw [HIT.out, if_neg (by simpa using HBE.out)]; exact HFS.out);clear HIT HBE HFS
           go_wp2_with fail
           go_roundg (its.length - (m + 1))
           case measure => omega
           case rel => exact ⟨m + 1, capf, Af, fs, rfl, by omega, by simp, rfl, HIT2.out, by omega, HOF8.out, HBX8.out, HM8.out⟩
          ·have HIT2 : Hid (fs ++ [oid] = idsSum (its.take (m + 1)) sx) := Lib.hid (by rw [HIT.out, if_pos (by simpa using HBE.out), ← HFS.out]);clear HIT HBE HFS;obtain ⟨nf, hnf⟩ : ∃ nf, fs.length = nf := ⟨_, rfl⟩;have HNF := Lib.hid hnf;rw [hnf] at hfl;have hownS := HOF8.out;unfold OwT at hownS;rw [hnf] at hownS ⊢;have hmS := HM8.out;clear hnf;obtain ⟨i0, hi0, hz0, hz1, hz2⟩ := info_parts info_str7
           go_wp2_with ((at_builtin; refine wpList_append_lies _ rfl _ _ _ rfl bf 9 i0 _ 1 16 Tryz.underlying29 hi0 hz0 hz1 hz2 rfl (by omega) (.slice Af nf capf) nf (strsV fs) rfl (hownS.alloc _) ⟨w8.heap.size, 0, none⟩ 1 1 [.string ⟨oid.toArray⟩] rfl rfl (World.news_of_block (cs := #[.string ⟨oid.toArray⟩]) (t := 9) (fr := (0, 0)) (heap_alloc_new w8 _)) (by simp [Value.oneCell']) (by omega) (by simp [maxLen]; omega) (by omega) (by have := hmS.size; simp; omega) (w8.heap.size + 1) (by simp) ?_; intro g5 cap5 w5 hown5 hgrow hat hlt5))
           go_roundg (its.length - (m + 1))
           case measure => omega
           case rel =>
            have hpal := pure_alloc w8 (.cells #[.string ⟨oid.toArray⟩] 9);have HOA := hownS.alloc (.cells #[.string ⟨oid.toArray⟩] 9);have hob := own_block HOA;refine ⟨m + 1, cap5, some ⟨g5, 0, none⟩, fs ++ [oid], rfl, by omega, by simp, by rw [List.length_append, HNF.out]; rfl, HIT2.out, by rw [List.length_append, HNF.out]; simp; omega, ?_, ?_, ?_⟩
            ·unfold OwT;rw [List.length_append, HNF.out, List.length_singleton, show strsV (fs ++ [oid]) = strsV fs ++ [.string ⟨oid.toArray⟩] by simp [strsV]];exact hown5
            ·exact (HBX8.out.modp hpal).mod (mod_grown hgrow) (fun hv => by have h2 := HBX8.out.modp hpal; unfold Blk at h2; exact absurd (own_ty HOA hv h2) (by decide))
            ·exact (HM8.out.trans hpal).trans' (mod_grown hgrow) (fun i hi hlt => by have := hob i hi; omega)
        ·obtain rfl : m = its.length := by omega
         rw [List.take_of_length_le (Nat.le_refl _)] at hfs;have HFS2 := Lib.hid hfs;clear hfs hOf hB10 hmf HFS HBX
         go_wp2_with fail
         go_meet;exact ⟨Af, fs.length, capf, rfl, by rw [HFR.out, ← HFS2.out]; exact Sl.of_own HOF.out, HMF.out⟩
      ·have h1' : (ysp == 1) = false := by simpa using h1
       by_cases h2 : ysp = 2
       ·subst h2;have HFR : Hid (frmS its ⟨xid, xcust, xkind, xname, xtm, xpar, xtext⟩ 2 = fmB its xid) := Lib.hid (by unfold frmS; rw [if_neg (by decide), if_pos rfl]);have hfld : ∀ (a0 a1 : Value) (W : World), Sem.run Tryz.prog (Instr.field 92 (.agg #[a0, a1]) 1) W = .ok a1 W := fun _ _ _ => rfl;have HF5 := Lib.hid (HFM.out w5 hp5);have hx10 := HB105.out;have x0 := hx10.cell 0; have x1 := hx10.cell 1; have x2 := hx10.cell 2; have x3 := hx10.cell 3; have x4 := hx10.cell 4; have x5 := hx10.cell 5; have x6 := hx10.cell 6; simp at x0 x1 x2 x3 x4 x5 x6;clear hx10
        go_wp2_with fail
        refine HF5.out.mono ?_;rintro e w6 ⟨A6, n6, c6, rfl, hs6, hm6⟩;have HS6 := Lib.hid hs6;clear hs6 HF5
        go_wp2_with fail
        go_meet;exact ⟨A6, n6, c6, rfl, by rw [HFR.out]; exact HS6.out, hm6⟩
       ·have h2' : (ysp == 2) = false := by simpa using h2
        have HFR : Hid (frmS its ⟨xid, xcust, xkind, xname, xtm, xpar, xtext⟩ ysp = []) := Lib.hid (by unfold frmS; rw [if_neg h1, if_neg h2]);clear h1 h2
        go_wp2_with fail
        go_meet;exact ⟨none, 0, 0, rfl, by rw [HFR.out]; exact Sl.nil_, Mod.refl _ _⟩
     case rest =>
      obtain ⟨A6, n6, c6, rfl, hs6, hm6⟩ := hcut;have hm06 := HM0.out.trans (HMJ5.out.trans hm6);have HMP := Lib.hid (HMJ5.out.trans hm6);have HVK6 := Lib.hid (HVK5.out.pure hm6);have HB116 := Lib.hid (HB115.out.modp hm6);have HB106 := Lib.hid (HB105.out.modp hm6);have HB36 := Lib.hid (HB35.out.modp hm6);have HB56 := Lib.hid (HB55.out.modp hm6);have HB136 := Lib.hid (HB135.out.modp hm6);have HOW6 := Lib.hid (fun (W : World) (item : Str) (h : Pure wc W) => HOW.out W item f (hm06.trans h) (HB56.out.modp h));obtain ⟨fl, hfl⟩ : ∃ fl, frmS its ⟨xid, xcust, xkind, xname, xtm, xpar, xtext⟩ ysp = fl := ⟨_, rfl⟩;rw [hfl] at hs6 HSA;obtain ⟨T, hT⟩ : ∃ T, sprA cs its ⟨xid, xcust, xkind, xname, xtm, xpar, xtext⟩ ⟨f, yA, yc, ych, ymb, ysp⟩ = T := ⟨_, rfl⟩;rw [hT] at HSA HVT;have hfl6 : fl.length = n6 := Sl.lenS hs6;subst hfl6;have HS6 := Lib.hid hs6;have hs5b := HS5.out.pure hm6;obtain ⟨v0, hv0⟩ : ∃ v0, chIn (ownV cs xid) f = v0 := ⟨_, rfl⟩;rw [hv0] at HSA hs5b ⊢;have HS5B := Lib.hid hs5b
      have hbc : bv ≤ wc.heap.size := by have := hm6.size; omega
      have hfl9 : fl.length ≤ 9223372036854775807 := by
       obtain ⟨_, _, _, e, h1, h2, _⟩ := HS6.out
       cases e
       omega
      clear hs6 hs5b hm6 hfl hT hv0 HS5 HVK5 HB115 HB105 HB35 HB55 HB135 HMJ5 hp5 HX5 y0 y1 y2 y3 HFM
      go_wp2_with fail
      go_loopg [73, 14] fl.length (fun gk i v wr => ∃ (m c7 : Nat) (A7 : Option Addr) (vm : List Str), fl.length - m = gk ∧ m ≤ fl.length ∧ i = .int .i64 (m : Int) ∧ v = .slice A7 vm.length c7 ∧ Sl wr 9 1 (.slice A7 vm.length c7) (strsV vm) ∧ T = (if vm = [] then firV cs (fl.drop m) f else vm) ∧ Pure wc wr)
      case atStart => exact ⟨0, c5, A5, v0, by omega, by omega, rfl, rfl, HS5B.out, by simpa using HSA.out, Mod.refl _ _⟩
      case round =>
       obtain ⟨m, c7, A7, vm, rfl, hmm, rfl, rfl, hsv, hTm, hmr⟩ := hrel;have HSV := Lib.hid hsv;have HTM := Lib.hid hTm;have HMR := Lib.hid hmr;clear hsv hTm
       by_cases hlm : m < fl.length
       ·obtain ⟨A', n', c', e', h1', h2', hl', hr'⟩ := HS6.out
        injection e' with e1 e2 e3
        subst e1 e2 e3;obtain ⟨gf, of, rfl, hrow⟩ := hr' (by omega);have hq := (hrow.mod hmr id).cell (strsV_get fl m hlm);have HST := Lib.hid (firV_step (cs := cs) hlm f);have HOWM := Lib.hid (HOW6.out wr fl[m] hmr);have hx13 := HB136.out.modp hmr;have y0 := hx13.cell 0; have y1 := hx13.cell 1; have y2 := hx13.cell 2; have y3 := hx13.cell 3; simp at y0 y1 y2 y3;clear hrow hr' hl' hx13 hmr;generalize fl[m] = s at *
        by_cases hv : vm = []
        ·subst hv;have HTM2 := Lib.hid (show T = firV cs (fl.drop m) f by have := HTM.out; rw [if_pos rfl] at this; exact this);clear HTM HSV
         go_wp2_with fail
         refine HOWM.out.mono ?_;rintro e w8 ⟨A8, c8, rfl, hs8, hm8⟩;have HS8 := Lib.hid hs8;have HM8 := Lib.hid (HMR.out.trans hm8);clear hs8 hm8 HMR HOWM
         go_wp2_with fail
         go_roundg (fl.length - (m + 1))
         case measure => omega
         case rel =>
          refine ⟨m + 1, c8, A8, chIn (ownV cs s) f, rfl, by omega, by simp, rfl, HS8.out, ?_, HM8.out⟩;rw [HTM2.out, HST.out]
        ·have hv2 : ((vm.length : Int) == 0) = false := by
          rw [beq_eq_false_iff_ne];have := List.length_pos_iff.2 hv
          omega
         have HV := Lib.hid hv;clear hv HOWM
         go_wp2_with fail
         go_roundg (fl.length - (m + 1))
         case measure => omega
         case rel => exact ⟨m + 1, c7, A7, vm, rfl, by omega, by simp, rfl, HSV.out, by rw [if_neg HV.out]; have := HTM.out; rw [if_neg HV.out] at this; exact this, HMR.out⟩
       ·obtain rfl : m = fl.length := by omega
        have HTV : Hid (T = vm) := Lib.hid (by
         have h := HTM.out;rw [List.drop_of_length_le (Nat.le_refl _)] at h
         by_cases hv : vm = []
         ·rw [if_pos hv] at h; rw [h, hv]; rfl
         ·rw [if_neg hv] at h; exact h)
        have HVK8 := Lib.hid (HVK6.out.pure hmr);have HB118 := Lib.hid (HB116.out.modp hmr);have HB108 := Lib.hid (HB106.out.modp hmr);have HB38 := Lib.hid (HB36.out.modp hmr);have HB58 := Lib.hid (HB56.out.modp hmr);have hx13 := HB136.out.modp hmr;have HM8 := Lib.hid (HMP.out.trans hmr)
        have hbr8 : bv ≤ wr.heap.size := by have := hmr.size; omega
        have hx11 := HB118.out;have y0 := hx13.cell 0; have y1 := hx13.cell 1; have y2 := hx13.cell 2; have y3 := hx13.cell 3; simp at y0 y1 y2 y3;have z0 := hx11.cell 0; have z1 := hx11.cell 1; simp at z0 z1;clear hx13 hx11 hmr HTM HMR HVK6 HB116 HB106 HB36 HB56 HB136 HMP HOW6 HS6 HS5B hlm;obtain ⟨w9, hw9⟩ : ∃ W, W = wr := ⟨wr, rfl⟩;subst hw9
        by_cases hv : vm = []
        ·subst hv;have HV9 := Lib.hid (show sprV cs its ⟨xid, xcust, xkind, xname, xtm, xpar, xtext⟩ (L.asks.take (j + 1)) = sprV cs its ⟨xid, xcust, xkind, xname, xtm, xpar, xtext⟩ (L.asks.take j) by rw [HVT.out, if_pos HTV.out]);clear HVT HTV HSV
         go_wp2_with fail
         go_roundg (ln - (j + 1))
         case measure => omega
         case rel => exact ⟨j + 1, capv, Av, vs, rfl, by omega, by simp, by omega, by rw [HV9.out]; exact HVK8.out, HB118.out, HB108.out, HB38.out, HB58.out, HM8.out, hbr8⟩
        ·have HV9 := Lib.hid (show sprV cs its ⟨xid, xcust, xkind, xname, xtm, xpar, xtext⟩ (L.asks.take (j + 1)) = sprV cs its ⟨xid, xcust, xkind, xname, xtm, xpar, xtext⟩ (L.asks.take j) ++ [(f, vm)] by rw [HVT.out, if_neg (by rw [HTV.out]; exact hv), HTV.out])
         have hv2 : (0 : Int) < (vm.length : Int) := by have := List.length_pos_iff.2 hv; omega
         clear HVT HTV hv;obtain ⟨nv, hnv⟩ : ∃ nv, vs.length = nv := ⟨_, rfl⟩;have HNV := Lib.hid hnv;rw [hnv] at hvj z1;have hownS := HVK8.out.1;rw [hnv] at hownS;have hmS := HM8.out;clear hnv;obtain ⟨i0, hi0, hz0, hz1, hz2⟩ := info_parts info_chS
         go_wp2_with ((at_builtin; refine wpList_append_lies _ rfl _ _ _ rfl bv 125 i0 _ 2 40 Tryz.underlying74 hi0 hz0 hz1 hz2 rfl (by omega) (.slice Av nv capv) nv (choV vs) rfl (hownS.alloc _) ⟨w9.heap.size, 0, none⟩ 1 1 [.string ⟨f.toArray⟩, .slice A7 vm.length c7] rfl rfl (World.news_of_block (cs := #[.string ⟨f.toArray⟩, .slice A7 vm.length c7]) (t := 125) (fr := (0, 0)) (heap_alloc_new w9 _)) (by simp [Value.oneCell']) (by omega) (by simp [maxLen]; omega) (by omega) (by have := hmS.size; simp; omega) (w9.heap.size + 1) (by simp) ?_; intro g5 cap5 w5 hown5 hgrow hat hlt5); have hB6 := (HB118.out.alloc (.cells #[.string ⟨f.toArray⟩, .slice A7 vm.length c7] 125)).mod (mod_grown hgrow) (fun hv => by have h2 := HB118.out.alloc (.cells #[.string ⟨f.toArray⟩, .slice A7 vm.length c7] 125); unfold Blk at h2; exact absurd (own_ty (hownS.alloc (.cells #[.string ⟨f.toArray⟩, .slice A7 vm.length c7] 125)) hv h2) (by decide)); have u1 := hB6.cell 1; have uf1 := hB6.frozen 1; simp at u1)
         go_roundg (ln - (j + 1))
         case measure => omega
         case rel =>
          have hpal := pure_alloc w9 (.cells #[.string ⟨f.toArray⟩, .slice A7 vm.length c7] 125);have HOA := hownS.alloc (.cells #[.string ⟨f.toArray⟩, .slice A7 vm.length c7] 125);have hob := own_block HOA;have hm9 : Mod (· = g11) w5 (w5.setCell ⟨g11, 1, none⟩ (.slice (some ⟨g5, 0, none⟩) (nv + 1) cap5)) := (Mod.refl (· = g11) w5).setCell (.inl rfl) _;have hV6 := VkS.app (x := ⟨f, A7, c7, vm⟩) (HVK8.out.pure hpal) (by rw [HNV.out]; exact mod_grown hgrow) (HSV.out.pure hpal) (show nv + 1 = vs.length + 1 by rw [HNV.out]) hown5;have hG : ∀ (g : Nat) (t : TypeId) (cl : Array Value), t ≠ 125 → g ≠ g11 → Blk w9 g t cl → Blk (w5.setCell ⟨g11, 1, none⟩ (.slice (some ⟨g5, 0, none⟩) (nv + 1) cap5)) g t cl := fun g t cl ht hg h => ((h.modp hpal).mod (mod_grown hgrow) (fun hv => by have h2 := h.modp hpal; unfold Blk at h2; exact absurd (own_ty HOA hv h2) ht)).mod hm9 hg
          have hl1 : (vs ++ [(⟨f, A7, c7, vm⟩ : ChoR)]).length = nv + 1 := by simp [HNV.out]
          refine ⟨j + 1, cap5, some ⟨g5, 0, none⟩, vs ++ [⟨f, A7, c7, vm⟩], rfl, by omega, by simp, by rw [hl1]; omega, ?_, ?_, hG _ _ _ (by decide) (by omega) HB108.out, hG _ _ _ (by decide) (by omega) HB38.out, hG _ _ _ (by decide) (by omega) HB58.out, ?_, ?_⟩
          ·have h := hV6.far hm9 hB6 (by decide) (by decide);rw [HV9.out];unfold VkS at h ⊢;rw [hl1] at h ⊢;exact h
          ·have h := hB6.set 1 (.slice (some ⟨g5, 0, none⟩) (nv + 1) cap5);rw [hl1]
           simpa using h
          ·exact ((HM8.out.trans hpal).trans' (mod_grown hgrow) (fun i hi hlt => by have := hob i hi; omega)).trans' hm9 (fun i hi hlt => by omega)
          ·have h1 := hgrow.size;have h2 := hm9.size
           have h3 : w9.heap.size ≤ (w9.alloc (.cells #[.string ⟨f.toArray⟩, .slice A7 vm.length c7] 125)).heap.size := by simp
           omega
    ·obtain rfl : j = ln := by omega
     rw [List.take_of_length_le (by omega)] at hVk;have HVK := Lib.hid hVk;have HB118 := Lib.hid hB11;have HB38 := Lib.hid hB3;have HB58 := Lib.hid hB5;have HM8 := Lib.hid (HM0.out.trans hmj);have HCD8 := Lib.hid (HCD.out.pure hmj)
     have hbw8 : base ≤ wr.heap.size := by have := hmj.size; omega
     have hx11 := HB118.out;have z0 := hx11.cell 0; have z1 := hx11.cell 1; simp at z0 z1;clear hVk hB11 hB10 hB3 hB5 hmj hx11 hlj HM1 HCD HOW HFM;obtain ⟨w9, hw9⟩ : ∃ W, W = wr := ⟨wr, rfl⟩;subst hw9
     have hkl : (sprV cs its ⟨xid, xcust, xkind, xname, xtm, xpar, xtext⟩ L.asks).length = vs.length := by rw [← HVK.out.2.2]; simp
     by_cases hv : vs = []
     ·subst hv;have HT2 := Lib.hid (show sprS cs its L.asks (its.take (k + 1)) = sprS cs its L.asks (its.take k) by rw [HTK.out, if_pos (List.eq_nil_of_length_eq_zero (by rw [hkl]; rfl))]);clear HTK hkl
      go_wp2_with fail
      go_roundg (its.length - (k + 1))
      case measure => omega
      case rel => exact ⟨k + 1, cap, A, xs, rfl, by omega, by simp, rfl, by omega, by rw [HT2.out]; exact HCD8.out, HB38.out, HB58.out, HM8.out, hbw8⟩
     ·have HT2 := Lib.hid (show sprS cs its L.asks (its.take (k + 1)) = sprS cs its L.asks (its.take k) ++ [(xid, sprV cs its ⟨xid, xcust, xkind, xname, xtm, xpar, xtext⟩ L.asks)] by rw [HTK.out, if_neg (fun h => hv (List.eq_nil_of_length_eq_zero (by rw [← hkl, h]; rfl)))]; rfl)
      have hv2 : (0 : Int) < (vs.length : Int) := by have := List.length_pos_iff.2 hv; omega
      clear HTK hkl hv;obtain ⟨nx, hnx⟩ : ∃ nx, xs.length = nx := ⟨_, rfl⟩;have HNX := Lib.hid hnx;rw [hnx] at hxk ⊢;have hownS := HCD8.out.1;rw [hnx] at hownS;have hmS := HM8.out;clear hnx;obtain ⟨i0, hi0, hz0, hz1, hz2⟩ := info_parts info_cod
      go_wp2_with ((at_builtin; refine wpList_append_lies _ rfl _ _ _ rfl base 76 i0 _ 2 40 Tryz.underlying65 hi0 hz0 hz1 hz2 rfl (by omega) (.slice A nx cap) nx (cdV xs) rfl (hownS.alloc _) ⟨w9.heap.size, 0, none⟩ 1 1 [.string ⟨xid.toArray⟩, .slice Av vs.length capv] rfl rfl (World.news_of_block (cs := #[.string ⟨xid.toArray⟩, .slice Av vs.length capv]) (t := 76) (fr := (0, 0)) (heap_alloc_new w9 _)) (by simp [Value.oneCell']) (by omega) (by simp [maxLen]; omega) (by omega) (by have := hmS.size; simp; omega) (w9.heap.size + 1) (by simp) ?_; intro g5 cap5 w5 hown5 hgrow hat hlt5))
      go_roundg (its.length - (k + 1))
      case measure => omega
      case rel =>
       have hpal := pure_alloc w9 (.cells #[.string ⟨xid.toArray⟩, .slice Av vs.length capv] 76);have HOA := hownS.alloc (.cells #[.string ⟨xid.toArray⟩, .slice Av vs.length capv] 76);have hob := own_block HOA;have hV6 := CdR.app (x := ⟨xid, Av, capv, vs⟩) (HCD8.out.pure hpal) (Vals.pure HVK.out.vals hpal) (by rw [HNX.out]; exact mod_grown hgrow) (show nx + 1 = xs.length + 1 by rw [HNX.out]) hown5;have hG : ∀ (g : Nat) (t : TypeId) (cl : Array Value), t ≠ 76 → Blk w9 g t cl → Blk w5 g t cl := fun g t cl ht h => (h.modp hpal).mod (mod_grown hgrow) (fun hv => by have h2 := h.modp hpal; unfold Blk at h2; exact absurd (own_ty HOA hv h2) ht)
       have hl1 : (xs ++ [(⟨xid, Av, capv, vs⟩ : CodR)]).length = nx + 1 := by simp [HNX.out]
       refine ⟨k + 1, cap5, some ⟨g5, 0, none⟩, xs ++ [⟨xid, Av, capv, vs⟩], rfl, by omega, by simp, by rw [hl1], by rw [hl1]; omega, ?_, hG _ _ _ (by decide) HB38.out, hG _ _ _ (by decide) HB58.out, ?_, ?_⟩
       ·rw [HT2.out];have h := hV6;unfold CdR at h ⊢;rw [hl1] at h ⊢;rw [show CodR.key ⟨xid, Av, capv, vs⟩ = (xid, sprV cs its ⟨xid, xcust, xkind, xname, xtm, xpar, xtext⟩ L.asks) by unfold CodR.key; rw [← HVK.out.2.2]] at h;exact h
       ·exact (HM8.out.trans hpal).trans' (mod_grown hgrow) (fun i hi hlt => by have := hob i hi; omega)
       ·have h1 := hgrow.size
        have h3 : w9.heap.size ≤ (w9.alloc (.cells #[.string ⟨xid.toArray⟩, .slice Av vs.length capv] 76)).heap.size := by simp
        omega
  ·obtain rfl : k = its.length := by omega
   rw [List.take_of_length_le (Nat.le_refl _)] at hCd;have HCD := Lib.hid hCd;have HM := Lib.hid hm;clear hCd hm
   go_wp2_with fail
   go_ret;exact ⟨A, cap, xs, rfl, HCD.out.cods, HCD.out.2.2, HM.out⟩

end Go.Proofs.YtpinlcapgoljfaaGreatDoor

/- The map from an item to its family's items. -/
namespace Go.Proofs.YtpinlcapgoljfaaGreatDoor
open Go.RowKit

def BfM (w : World) (bf : Nat) (fs : List Fm) (D : List Str) : Prop :=
 ∃ n V, MapS w bf n V ∧ n ≤ D.length ∧ (∀ s v, V s = some v → ∃ p ∈ fs, v = p.2.1 ∧ s ∈ p.2.2) ∧ ∀ s ∈ D, V s ≠ none
theorem BfM.pure {w w' : World} {bf : Nat} {fs : List Fm} {D : List Str} (h : BfM w bf fs D) (hm : Pure w w') : BfM w' bf fs D := by
 obtain ⟨n, V, h1, h2, h3, h4⟩ := h;exact ⟨n, V, h1.pure hm, h2, h3, h4⟩
theorem BfM.start {w : World} {bf : Nat} {fs : List Fm} (h : MapS w bf 0 fun _ => none) : BfM w bf fs [] := ⟨0, _, h, by simp, fun s v e => (by cases e), fun s hs => absurd hs (by simp)⟩
theorem BfM.store {w : World} {bf : Nat} {fs : List Fm} {D : List Str} (h : BfM w bf fs D) (hD : D.length ≤ 1000000) {p : Fm} (hp : p ∈ fs) {s : Str} (hs : s ∈ p.2.2) (hl : s.length ≤ 1000000) :
  ∃ w', (Instr.mapUpdate 118 (.map (some bf)) (.string ⟨s.toArray⟩) p.2.1).run Tryz.prog w = .ok () w' ∧ BfM w' bf fs (D ++ [s]) ∧ Mod (· = bf) w w' := by
 obtain ⟨n, V, h1, h2, h3, h4⟩ := h;obtain ⟨w', hr, hM, hm⟩ := h1.store (t := 118) (e := 29) Tryz.underlying118 (by omega) s hl p.2.1;refine ⟨w', hr, ⟨n + 1, _, hM, by simp; omega, fun t v hv => ?_, fun t ht => ?_⟩, hm⟩
 ·replace hv : (if t = s then some p.2.1 else V t) = some v := hv
  by_cases e : t = s
  ·rw [if_pos e] at hv
   injection hv with hv
   exact ⟨p, hp, hv.symm, by rw [e]; exact hs⟩
  ·rw [if_neg e] at hv;exact h3 t v hv
 ·show (if t = s then some p.2.1 else V t) ≠ none
  by_cases e : t = s
  ·rw [if_pos e]; exact fun h => by cases h
  ·rw [if_neg e]
   rcases List.mem_append.1 ht with h | h
   ·exact h4 t h
   ·exact absurd (List.mem_singleton.1 h) e
def fmD (fs : List Fm) : List Str := fs.flatMap fun p => p.2.2
theorem fmD_take {fs : List Fm} {k : Nat} (h : k < fs.length) : fmD (fs.take (k + 1)) = fmD (fs.take k) ++ fs[k].2.2 := by
 unfold fmD;rw [List.take_succ_eq_append_getElem h, List.flatMap_append];simp
theorem fmD_le {fs : List Fm} {k : Nat} : (fmD (fs.take k)).length ≤ (fmD fs).length := by
 have h : fmD fs = fmD (fs.take k) ++ fmD (fs.drop k) := by
  unfold fmD;rw [← List.flatMap_append, List.take_append_drop]
 rw [h, List.length_append]
 omega
theorem fmD_pre {fs : List Fm} {k m : Nat} (h : k < fs.length) : (fmD (fs.take k) ++ fs[k].2.2.take m).length ≤ (fmD fs).length := by
 have h1 := fmD_le (fs := fs) (k := k + 1);rw [fmD_take h] at h1;simp only [List.length_append, List.length_take] at h1 ⊢
 omega
theorem fmD_fams {fs : List Fm} {its : List Itm} (hf : fmS fs = famsS its) : fmD fs = (topsI its).flatMap fun t => belS its 4 t := by
 have h1 : fmD fs = (fmS fs).flatMap fun p => p.2 := by
  unfold fmD fmS;rw [List.flatMap_map]
 rw [h1, hf];unfold famsS;rw [List.flatMap_map]
theorem fmD_len {fs : List Fm} {its : List Itm} (hf : fmS fs = famsS its) (hR : Right its) : (fmD fs).length = its.length := by rw [fmD_fams hf, hR.all_len]
theorem fmD_mem {fs : List Fm} {its : List Itm} (hf : fmS fs = famsS its) {s : Str} (hs : s ∈ fmD fs) : ∃ x ∈ its, x.id = s := by
 rw [fmD_fams hf] at hs;obtain ⟨t, ht, hs⟩ := List.mem_flatMap.1 hs;obtain ⟨i, hi, rfl⟩ := List.mem_map.1 hs;have hl := bel_lt 4 t i (mem_topsI.1 ht).1 hi;exact ⟨its[i], List.getElem_mem hl, (idAt2_eq hl).symm⟩
theorem fmD_of {fs : List Fm} {its : List Itm} (hf : fmS fs = famsS its) (hR : Right its) {x : Itm} (hx : x ∈ its) : x.id ∈ fmD fs ∧ ∀ p ∈ fs, x.id ∈ p.2.2 → p.2.2 = fmB its x.id := by
 obtain ⟨i, hi, rfl⟩ := List.getElem_of_mem hx
 have hix : idxId its its[i].id = i := by unfold idxId; rw [plc_self hR.distinct i hi]; rfl
 have hie : its[idxId its its[i].id].id = its[i].id := by simp only [hix]
 have hil : idxId its its[i].id < its.length := by rw [hix]; exact hi
 have hT := hR.tpI_mem hil;refine ⟨?_, fun p hp hs => ?_⟩
 ·rw [fmD_fams hf];refine List.mem_flatMap.2 ⟨_, hT, ?_⟩;unfold belS;rw [List.mem_map];exact ⟨i, (hR.bel_top hT).2 ⟨hi, by rw [hix]⟩, idAt2_eq hi⟩
 ·obtain ⟨k, hk, rfl⟩ := List.getElem_of_mem hp
  have hl : (famsS its).length = fs.length := by rw [← hf]; simp [fmS]
  have hl2 : (famsS its).length = (topsI its).length := by simp [famsS]
  have e : (famsS its)[k]'(by omega) = (fs[k].1, fs[k].2.2) := by
   have := congrArg (fun l => l[k]?) hf
   simpa [fmS, hk, hl] using this.symm
  have h1 := (hR.fam_has hil hie (k := k) (by omega) (by omega)).1 (by rw [e]; exact hs)
  have e2 : (famsS its)[k]'(by omega) = (idAt2 its ((topsI its)[k]'(by omega)), belS its 4 ((topsI its)[k]'(by omega))) := by simp [famsS]
  rw [e] at e2
  injection e2 with _ e3
  rw [e3, h1]
  rfl
theorem BfM.look {w : World} {bf : Nat} {fs : List Fm} {its : List Itm} (h : BfM w bf fs (fmD fs)) (hf : fmS fs = famsS its) (hR : Right its) (hF : ∀ p ∈ fs, Sl w 9 1 p.2.1 (strsV p.2.2)) {x : Itm} (hx : x ∈ its) (hl : x.id.length ≤ 1000000) :
  ∃ (A : Option Addr) (n c : Nat), (Instr.lookup 118 (.map (some bf)) (.string ⟨x.id.toArray⟩) false).run Tryz.prog w = .ok (.slice A n c) w ∧ Sl w 9 1 (.slice A n c) (strsV (fmB its x.id)) := by
 obtain ⟨n, V, h1, h2, h3, h4⟩ := h;obtain ⟨hm, hu⟩ := fmD_of hf hR hx;have hr := h1.lookup (t := 118) (e := 29) Tryz.underlying118 zero_strs x.id hl
 cases hV : V x.id with
 | none => exact absurd hV (h4 _ hm)
 | some v =>
  obtain ⟨p, hp, rfl, hs⟩ := h3 _ _ hV;rw [hV] at hr;have hS := hF p hp;rw [hu p hp hs] at hS;obtain ⟨A, m, c, e⟩ := hS.form;rw [e] at hS;refine ⟨A, m, c, ?_, hS⟩;rw [hr, e]
  rfl

theorem FmR.mod {w w' : World} {S : Nat → Prop} {v : Value} {xs : List Fm} (h : FmR w v xs) (hm : Mod S w w') (hs : ∀ g arr t fr, w.heap[g]? = some (.cells arr t fr) → ¬ S g) : FmR w' v xs :=
 ⟨h.1.mod hm (fun g arr fr hg => hs g arr _ fr hg), fun p hp => (h.2 p hp).mod hm (fun g arr fr hg => hs g arr _ fr hg)⟩
/-- What Spread keeps when its maps are filled. -/
structure SpD (w wr : World) (base bs bf bm bo g10 g3 nK nM m : Nat) (VK VM : Str → Option Value) (its : List Itm) (cs : List CodR) (fs : List Fm) (vf : Value) (c3 : Array Value) (D : List Str) : Prop where
 kids : KidsM wr base bs nK m VK (idsSum its) nilS []
 sum : MapS wr bm nM VM
 fam : FmR wr vf fs
 bel : BfM wr bf fs D
 own : OwnM wr bo cs
 b10 : Blk wr g10 117 #[.map (some bo)]
 b3 : Blk wr g3 63 c3
 pure : Pure w wr
 size : base ≤ wr.heap.size
section
variable {w wr w' : World} {base bs bf bm bo g10 g3 nK nM m : Nat} {VK VM : Str → Option Value} {its : List Itm} {cs : List CodR} {fs : List Fm} {vf : Value} {c3 : Array Value} {D : List Str}
theorem SpD.pure' (h : SpD w wr base bs bf bm bo g10 g3 nK nM m VK VM its cs fs vf c3 D) (hm : Pure wr w') : SpD w w' base bs bf bm bo g10 g3 nK nM m VK VM its cs fs vf c3 D :=
 ⟨h.kids.pure hm, h.sum.pure hm, h.fam.pure hm, h.bel.pure hm, h.own.pure hm, h.b10.modp hm, h.b3.modp hm, h.pure.trans hm, by have := hm.size; have := h.size; omega⟩
theorem SpD.store (h : SpD w wr base bs bf bm bo g10 g3 nK nM m VK VM its cs fs vf c3 D) (hD : D.length ≤ 1000000) {p : Fm} (hp : p ∈ fs) {s : Str} (hs : s ∈ p.2.2) (hl : s.length ≤ 1000000)
  (h0 : w.heap.size ≤ bf) (h1 : bf < base) (h2 : bf ≠ bs) (h3 : bf ≠ bm) (h4 : bf ≠ bo) (h5 : bf ≠ g10) (h6 : bf ≠ g3) :
  ∃ w', (Instr.mapUpdate 118 (.map (some bf)) (.string ⟨s.toArray⟩) p.2.1).run Tryz.prog wr = .ok () w' ∧ SpD w w' base bs bf bm bo g10 g3 nK nM m VK VM its cs fs vf c3 (D ++ [s]) ∧ Mod (· = bf) wr w' := by
 obtain ⟨w', hr, hB, hm⟩ := h.bel.store hD hp hs hl
 have hty : ∀ g arr t fr, wr.heap[g]? = some (.cells arr t fr) → ¬ g = bf := fun g arr t fr hg e => by
  obtain ⟨n, V, ⟨D, ⟨es, clock, hb, _⟩, _⟩, _⟩ := h.bel;rw [e, hb] at hg
  cases hg
 obtain ⟨no, Vo, o1, o2, o3, o4⟩ := h.own
 exact ⟨w', hr, ⟨h.kids.mod2 hm (fun e => h2 e.symm) (fun g hg => by omega), h.sum.mod hm (fun e => h3 e.symm), h.fam.mod hm hty, hB, ⟨no, Vo, o1.mod hm (fun e => h4 e.symm), o2, o3, CodS.mod o4 hm (fun g arr fr hg => hty g arr _ fr hg) (fun g arr fr hg => hty g arr _ fr hg)⟩,
  h.b10.mod hm (fun e => h5 e.symm), h.b3.mod hm (fun e => h6 e.symm), h.pure.trans' hm (fun i hi hlt => by omega), by have := hm.size; have := h.size; omega⟩, hm⟩
theorem SpD.lsum (h : SpD w wr base bs bf bm bo g10 g3 nK nM m VK VM its cs fs vf c3 D) {x : Itm} (hv : VM x.id = some (.string ⟨(sumS x).toArray⟩)) (hl : x.id.length ≤ 1000000) :
  (Instr.lookup 119 (.map (some bm)) (.string ⟨x.id.toArray⟩) false).run Tryz.prog wr = .ok (.string ⟨(sumS x).toArray⟩) wr := by
 have h1 := h.sum.lookup (t := 119) (e := 9) Tryz.underlying119 (fun W => (by kernel_rfl : (zeroValue 9).run Tryz.prog W = .ok (.string ⟨#[]⟩) W)) x.id hl;rw [hv] at h1;exact h1
theorem SpD.lkids (h : SpD w wr base bs bf bm bo g10 g3 nK nM m VK VM its cs fs vf c3 D) (x : Itm) :
  ∃ (A : Option Addr) (n c : Nat), (Instr.lookup 118 (.map (some bs)) (.string ⟨(sumS x).toArray⟩) false).run Tryz.prog wr = .ok (.slice A n c) wr ∧ Sl wr 9 1 (.slice A n c) (strsV (idsSum its (sumS x))) := by
 have hsl : (sumS x).length = 16 := by simp [sumS, digS, hexR_len]
 have h1 := h.kids.map.lookup (t := 118) (e := 29) Tryz.underlying118 zero_strs (sumS x) (by omega);have hS := Sl.of_own (h.kids.at_ (sumS x));obtain ⟨A, n, c, e⟩ := hS.form;rw [e] at h1 hS;exact ⟨A, n, c, h1, hS⟩
end

end Go.Proofs.YtpinlcapgoljfaaGreatDoor

/- codingsError, givenError of the program. -/
namespace Go.Proofs.YtpinlcapgoljfaaGreatDoor
open Go.RowKit

def CeRel (w : World) (gl : Nat) (lay : Array Value) (L : LayR) (xs : List CodR) (q : Int) (gk : Nat) (i : Value) (wr : World) : Prop :=
 ∃ k : Nat, xs.length - k = gk ∧ k ≤ xs.length ∧ i = .int .i64 (k : Int) ∧ ceE L (prvC xs k) (xs.drop k) = q ∧ Blk wr gl 63 lay ∧ Pure w wr

set_option maxRecDepth 100000 in
set_option maxHeartbeats 8000000 in
theorem codingsError_calls (w : World) (vl : Value) (L : LayR) (A1 : Option Addr) (c1 : Nat) (xs : List CodR) (hL : LayV w L vl) (hLB : LayB L) (hX : Cods w (.slice A1 xs.length c1) xs) (hz : ∀ x ∈ xs, CodB x) (hn : xs.length ≤ 2000) :
  Calls Tryz.prog 66 #[vl, .slice A1 xs.length c1] w (IntPost w (codsE L xs)) := by
 have HX := Lib.hid hX;have HVE := Lib.hid (fun W (h : Pure w W) (x : CodR) (hx : x ∈ xs) => valuesError_calls W vl (.slice x.A x.vals.length x.c) L x.vals (hL.pure h) hLB ((hX.2 x hx).pure h) (by have := (hz x hx).2.1; omega) (hz x hx).2.2);have HZ := Lib.hid hz;have HQ : Hid (codsE L xs = ceE L [] xs) := Lib.hid (by unfold codsE; rw [if_neg (by omega)]);obtain ⟨A, n, c, A3, n3, c3, rfl, _, _⟩ := hL;have HB0 := Lib.hid (Blk.new w 63 #[.slice A n c, .slice A3 n3 c3]);have HM0 := Lib.hid (pure_alloc w (.cells #[.slice A n c, .slice A3 n3 c3] 63));clear hX hz hLB;generalize codsE L xs = q at *
 go_enter Tryz.func66, Tryz.ntmps66
 go_upto_region 1 with (fail)
 generalize (w.alloc (.cells #[.slice A n c, .slice A3 n3 c3] 63)) = w1 at *;generalize hgl : w.heap.size = gl at *;clear hgl
 have hn2 : ¬ (2000 : Int) < (xs.length : Int) := by omega
 go_wp2_with fail
 go_loopg [13] xs.length (fun gk i wr => CeRel w gl #[.slice A n c, .slice A3 n3 c3] L xs q gk i wr)
 case atStart => exact ⟨0, by omega, by omega, rfl, HQ.out.symm, HB0.out, HM0.out⟩
 case round =>
  clear HB0 HM0 hn2 HQ;obtain ⟨k, rfl, hk, rfl, hce, hbl, hm⟩ := hrel
  by_cases hlt : k < xs.length
  ·have HPV := Lib.hid (prvC_s hlt);obtain ⟨g, off, rfl, p0, p1⟩ := (HX.out.pure hm).cells hlt;have hst := ceE_step (L := L) hlt (prvC xs k);rw [ce_first, hce] at hst;have HST := Lib.hid hst;have HVX := Lib.hid (fun W (h : Pure w W) => HVE.out W h xs[k] (List.getElem_mem hlt));have hxz := HZ.out xs[k] (List.getElem_mem hlt);have HXI : Hid (xs[k].item.length ≤ 1000) := Lib.hid hxz.1;clear hst hce hxz
   have HNX : Hid (∀ (j : Nat), k = j + 1 → (wr.cell? ⟨g, off + j * 2, none⟩ = some (.string ⟨(prvC xs k).toArray⟩))) := Lib.hid (fun j hj => by
    subst hj
    have hj2 : j < xs.length := by omega
    obtain ⟨g', off', he, p0', _⟩ := (HX.out.pure hm).cells hj2
    cases he
    rw [prvC_s hj2]
    exact p0')
   have HK0 : Hid (k = 0 → keyB xs[k].item = true → leS xs[k].item (prvC xs k) = false) := Lib.hid (fun h0 hk => by
    rw [show prvC xs k = [] by unfold prvC; rw [if_pos h0]]
    exact leS_key0 hk)
   generalize xs[k] = x at *;generalize prvC xs k = pv at *;have HB1 := Lib.hid (hbl.alloc (.cells #[.string ⟨x.item.toArray⟩, .slice x.A x.vals.length x.c] 76));have HC1 := Lib.hid (Blk.new wr 76 #[.string ⟨x.item.toArray⟩, .slice x.A x.vals.length x.c]);have HP1 := Lib.hid (hm.trans (pure_alloc wr (.cells #[.string ⟨x.item.toArray⟩, .slice x.A x.vals.length x.c] 76)));have HA1 := Lib.hid (pure_alloc wr (.cells #[.string ⟨x.item.toArray⟩, .slice x.A x.vals.length x.c] 76))
   go_upto_region 6 with (fail)
   have hgx := Nat.le_refl wr.heap.size;have hglr := hbl.lt;have hws := hm.size;generalize hw2 : (wr.alloc (.cells #[.string ⟨x.item.toArray⟩, .slice x.A x.vals.length x.c] 76)) = w2 at *;generalize hgg : wr.heap.size = gx at *;clear hw2 hgg;clear p0 p1 hbl hm;obtain ⟨kb, hkb⟩ : ∃ kb, keyB x.item = kb := ⟨_, rfl⟩;obtain ⟨lb, hlb⟩ : ∃ lb, leS x.item pv = lb := ⟨_, rfl⟩;obtain ⟨ve, hve⟩ : ∃ ve, valsE L x.vals = ve := ⟨_, rfl⟩;rw [hkb, hlb, hve] at HST;rw [hve] at HVX;rw [hkb, hlb] at HK0;obtain ⟨e5, he5⟩ : ∃ e, (if (!kb) = true then (5 : Int) else 0) = e := ⟨_, rfl⟩;have HE5 := Lib.hid he5;have HKY := Lib.hid (fun W => keyP_calls W x.item kb hkb HXI.out);rw [he5] at HST
   by_cases hk0 : k = 0
   ·subst hk0;have HE7 : Hid ((if false = true then (7 : Int) else 0) = 0) := Lib.hid (by simp);obtain ⟨q1, hq1⟩ : ∃ q, firstErr [e5, 0, ve] = q := ⟨_, rfl⟩
    have HST2 : Hid (q = if q1 ≠ 0 then q1 else ceE L x.item (xs.drop (0 + 1))) := Lib.hid (by
     have h := HST.out;rw [← hq1]
     cases kb
     ·rw [show e5 = 5 from he5.symm] at h ⊢;rw [first3] at h ⊢
      simpa using h
     ·have hl : lb = false := HK0.out rfl rfl;rw [hl] at h
      simpa using h)
    replace HST := HST2;clear HST2
    have HF : Hid (∀ (W : World) (g : Nat), Blk W g 33 #[.int .i64 e5, .int .i64 0, .int .i64 ve] → Calls Tryz.prog 50 #[.slice (some ⟨g, 0, none⟩) 3 3] W (IntPost W q1)) := Lib.hid (fun W g h => by
     have := firstE_calls W g 3 [e5, 0, ve] h.row0 (by simp)
     rwa [hq1] at this)
    clear he5 hlb hve hkb HK0 HNX HXI hq1;have HGs := Lib.hid (show ∀ (D : Nat → Bool) (zzi : Nat) (zq zq' : World), (fun _ zq => (fun Z => Blk Z gl 63 #[.slice A n c, .slice A3 n3 c3] ∧ Blk Z gx 76 #[.string ⟨x.item.toArray⟩, .slice x.A x.vals.length x.c] ∧ True) zq) D zq → Mod (fun _ => False) zq zq' → (fun _ zq => (fun Z => Blk Z gl 63 #[.slice A n c, .slice A3 n3 c3] ∧ Blk Z gx 76 #[.string ⟨x.item.toArray⟩, .slice x.A x.vals.length x.c] ∧ True) zq) (upd D zzi true) zq' from by intro D zzi zq zq' h hm; (exact ⟨h.1.modp hm, h.2.1.modp hm, trivial⟩))
    refine wp_region_inv (by kernel_rfl) (by kernel_rfl) (InvF (R := Mod (fun _ => False)) [.is (.pointer (some ⟨gx, 0, none⟩)),
      .is (.string ⟨x.item.toArray⟩),
      .is (.bool kb),
      .is (.bool (!kb)),
      .is (.int .i64 e5),
      .is (.int .i64 0),
      .is (.bool false),
      .is (.bool false),
      .is (undef),
      .is (undef),
      .is (undef),
      .is (undef),
      .is (undef),
      .is (undef),
      .is (undef),
      .is (undef),
      .is (undef),
      .is (undef),
      .is (.bool false),
      .is (.int .i64 0),
      .is (.agg #[.slice A n c, .slice A3 n3 c3]),
      .is (.pointer (some ⟨gx, 1, none⟩)),
      .is (.slice x.A x.vals.length x.c),
      .is (.int .i64 ve),
      ⟨fun zv zw => ∃ (g_24 : Nat), zv = .slice (some ⟨g_24, 0, none⟩) 3 3 ∧ w2.heap.size ≤ g_24 ∧ Blk zw g_24 33 #[.int .i64 e5, .int .i64 0, .int .i64 ve], (by rintro zv zw zx ⟨g_24, rfl, c0, q0⟩ hm; exact ⟨g_24, rfl, c0, (q0.modp hm)⟩), none, some 25⟩,
      .is (.int .i64 q1),
      .is (.int .i64 q1)]
      (PB w (fun _ => False) w2.heap.size (fun _ zq => (fun Z => Blk Z gl 63 #[.slice A n c, .slice A3 n3 c3] ∧ Blk Z gx 76 #[.string ⟨x.item.toArray⟩, .slice x.A x.vals.length x.c] ∧ True) zq))) (InvF.start (PB.start HP1.out (Nat.le_refl _) (⟨HB1.out.drew, HC1.out.drew, trivial⟩))) ?_ ?_
    ·refine .cons ?_ (.cons ?_ (.cons ?_ (.cons ?_ (.cons ?_ (.cons ?_ (.cons ?_ (.cons ?_ (.cons ?_ (.cons ?_ (.cons ?_ (.cons ?_ (.cons ?_ (.cons ?_ (.cons ?_ (.cons ?_ (.cons ?_ (.cons ?_ (.cons ?_ (.cons ?_ (.cons ?_ (.cons ?_ (.cons ?_ (.cons ?_ (.cons ?_ (.cons ?_ (.cons ?_ .nil))))))))))))))))))))))))))
     ·intro D V zw1 a hR hI K hK;obtain ⟨hM1, hB1, hG1⟩ := hI.1;have ze6 := hR.frame.other (t := 6) (by kernel_rfl) rfl;rw [if_pos (by rfl)];go_simp;exact hK (.pointer (some ⟨gx, 0, none⟩)) _ (hI.next hR (by kernel_rfl) (Mod.refl _ _) (PB.quiet hI.1 (Mod.refl _ _) (HGs.out D 0 zw1 zw1 (hI.1).g (Mod.refl _ _))) (upd_same V 0 _))
     ·intro D V zw1 a hR hI K hK;obtain ⟨hM1, hB1, hG1⟩ := hI.1;have zd0 := hR.pred 0 (by kernel_rfl);have zf0 : V 0 = .pointer (some ⟨gx, 0, none⟩) := hI.2 0 zd0 rfl;have ze18 := hR.frame.done (t := 18) (j := 0) (by kernel_rfl) hR.ok zd0;have zx0 := hG1.2.1.cell 0; have zx1 := hG1.2.1.cell 1;simp at zx0 zx1;rw [if_pos (by rfl)];go_simp;exact hK (.string ⟨x.item.toArray⟩) _ (hI.next hR (by kernel_rfl) (Mod.refl _ _) (PB.quiet hI.1 (Mod.refl _ _) (HGs.out D 1 zw1 zw1 (hI.1).g (Mod.refl _ _))) (upd_same V 1 _))
     ·intro D V zw1 a hR hI K hK;obtain ⟨hM1, hB1, hG1⟩ := hI.1;have zd1 := hR.pred 1 (by kernel_rfl);have zf1 : V 1 = .string ⟨x.item.toArray⟩ := hI.2 1 zd1 rfl;have ze19 := hR.frame.done (t := 19) (j := 1) (by kernel_rfl) hR.ok zd1;rw [if_pos (by rfl)];go_simp;refine (HKY.out zw1).mono ?_;rintro e zw2 ⟨rfl, hm2⟩;exact hK (.bool kb) _ (hI.next hR (by kernel_rfl) hm2 (PB.quiet hI.1 hm2 (HGs.out D 2 _ _ (hI.1).g hm2)) (upd_same V 2 _))
     ·intro D V zw1 a hR hI K hK;obtain ⟨hM1, hB1, hG1⟩ := hI.1;have zd2 := hR.pred 2 (by kernel_rfl);have zf2 : V 2 = .bool kb := hI.2 2 zd2 rfl;have ze20 := hR.frame.done (t := 20) (j := 2) (by kernel_rfl) hR.ok zd2;rw [if_pos (by rfl)];go_simp;exact hK (.bool (!kb)) _ (hI.next hR (by kernel_rfl) (Mod.refl _ _) (PB.quiet hI.1 (Mod.refl _ _) (HGs.out D 3 zw1 zw1 (hI.1).g (Mod.refl _ _))) (upd_same V 3 _))
     ·intro D V zw1 a hR hI K hK;obtain ⟨hM1, hB1, hG1⟩ := hI.1;have zd3 := hR.pred 3 (by kernel_rfl);have zf3 : V 3 = .bool (!kb) := hI.2 3 zd3 rfl;have ze21 := hR.frame.done (t := 21) (j := 3) (by kernel_rfl) hR.ok zd3;rw [if_pos (by rfl)];go_simp;refine (whenQ_calls _ _ _ e5 HE5.out).mono ?_;rintro e zw2 ⟨rfl, hm2⟩;exact hK (.int .i64 e5) _ (hI.next hR (by kernel_rfl) hm2 (PB.quiet hI.1 hm2 (HGs.out D 4 _ _ (hI.1).g hm2)) (upd_same V 4 _))
     ·intro D V zw1 a hR hI K hK;obtain ⟨hM1, hB1, hG1⟩ := hI.1;have ze5 := hR.frame.other (t := 5) (by kernel_rfl) rfl;rw [if_pos (by rfl)];go_simp;exact hK (.int .i64 0) _ (hI.next hR (by kernel_rfl) (Mod.refl _ _) (PB.quiet hI.1 (Mod.refl _ _) (HGs.out D 5 zw1 zw1 (hI.1).g (Mod.refl _ _))) (upd_same V 5 _))
     ·intro D V zw1 a hR hI K hK;obtain ⟨hM1, hB1, hG1⟩ := hI.1;have zd5 := hR.pred 5 (by kernel_rfl);have zf5 : V 5 = .int .i64 0 := hI.2 5 zd5 rfl;have ze23 := hR.frame.done (t := 23) (j := 5) (by kernel_rfl) hR.ok zd5;rw [if_pos (by rfl)];go_simp;exact hK (.bool false) _ (hI.next hR (by kernel_rfl) (Mod.refl _ _) (PB.quiet hI.1 (Mod.refl _ _) (HGs.out D 6 zw1 zw1 (hI.1).g (Mod.refl _ _))) (upd_same V 6 _))
     ·intro D V zw1 a hR hI K hK;obtain ⟨hM1, hB1, hG1⟩ := hI.1;have zd6 := hR.pred 6 (by kernel_rfl);have zf6 : V 6 = .bool false := hI.2 6 zd6 rfl;have ze24 := hR.frame.done (t := 24) (j := 6) (by kernel_rfl) hR.ok zd6;rw [if_pos (by rfl)];go_simp;exact hK (.bool false) _ (hI.next hR (by kernel_rfl) (Mod.refl _ _) (PB.quiet hI.1 (Mod.refl _ _) (HGs.out D 7 zw1 zw1 (hI.1).g (Mod.refl _ _))) (upd_same V 7 _))
     ·intro D V zw1 a hR hI K hK;obtain ⟨hM1, hB1, hG1⟩ := hI.1;have zd7 := hR.pred 7 (by kernel_rfl);have zf7 : V 7 = .bool false := hI.2 7 zd7 rfl;have ze25 := hR.frame.done (t := 25) (j := 7) (by kernel_rfl) hR.ok zd7;rw [if_neg (by simp [Region.wanted, yielded, ze25, zf7])];exact hK undef _ (hI.next hR (by kernel_rfl) (Mod.refl _ _) (PB.quiet hI.1 (Mod.refl _ _) (HGs.out D 8 zw1 zw1 (hI.1).g (Mod.refl _ _))) (upd_same V 8 _))
     ·intro D V zw1 a hR hI K hK;obtain ⟨hM1, hB1, hG1⟩ := hI.1;have zd7 := hR.pred 7 (by kernel_rfl);have zf7 : V 7 = .bool false := hI.2 7 zd7 rfl;have ze25 := hR.frame.done (t := 25) (j := 7) (by kernel_rfl) hR.ok zd7;rw [if_neg (by simp [Region.wanted, yielded, ze25, zf7])];exact hK undef _ (hI.next hR (by kernel_rfl) (Mod.refl _ _) (PB.quiet hI.1 (Mod.refl _ _) (HGs.out D 9 zw1 zw1 (hI.1).g (Mod.refl _ _))) (upd_same V 9 _))
     ·intro D V zw1 a hR hI K hK;obtain ⟨hM1, hB1, hG1⟩ := hI.1;have zd7 := hR.pred 7 (by kernel_rfl);have zf7 : V 7 = .bool false := hI.2 7 zd7 rfl;have ze25 := hR.frame.done (t := 25) (j := 7) (by kernel_rfl) hR.ok zd7;rw [if_neg (by simp [Region.wanted, yielded, ze25, zf7])];exact hK undef _ (hI.next hR (by kernel_rfl) (Mod.refl _ _) (PB.quiet hI.1 (Mod.refl _ _) (HGs.out D 10 zw1 zw1 (hI.1).g (Mod.refl _ _))) (upd_same V 10 _))
     ·intro D V zw1 a hR hI K hK;obtain ⟨hM1, hB1, hG1⟩ := hI.1;have zd7 := hR.pred 7 (by kernel_rfl);have zf7 : V 7 = .bool false := hI.2 7 zd7 rfl;have ze25 := hR.frame.done (t := 25) (j := 7) (by kernel_rfl) hR.ok zd7;rw [if_neg (by simp [Region.wanted, yielded, ze25, zf7])];exact hK undef _ (hI.next hR (by kernel_rfl) (Mod.refl _ _) (PB.quiet hI.1 (Mod.refl _ _) (HGs.out D 11 zw1 zw1 (hI.1).g (Mod.refl _ _))) (upd_same V 11 _))
     ·intro D V zw1 a hR hI K hK;obtain ⟨hM1, hB1, hG1⟩ := hI.1;have zd7 := hR.pred 7 (by kernel_rfl);have zf7 : V 7 = .bool false := hI.2 7 zd7 rfl;have ze25 := hR.frame.done (t := 25) (j := 7) (by kernel_rfl) hR.ok zd7;rw [if_neg (by simp [Region.wanted, yielded, ze25, zf7])];exact hK undef _ (hI.next hR (by kernel_rfl) (Mod.refl _ _) (PB.quiet hI.1 (Mod.refl _ _) (HGs.out D 12 zw1 zw1 (hI.1).g (Mod.refl _ _))) (upd_same V 12 _))
     ·intro D V zw1 a hR hI K hK;obtain ⟨hM1, hB1, hG1⟩ := hI.1;have zd7 := hR.pred 7 (by kernel_rfl);have zf7 : V 7 = .bool false := hI.2 7 zd7 rfl;have ze25 := hR.frame.done (t := 25) (j := 7) (by kernel_rfl) hR.ok zd7;rw [if_neg (by simp [Region.wanted, yielded, ze25, zf7])];exact hK undef _ (hI.next hR (by kernel_rfl) (Mod.refl _ _) (PB.quiet hI.1 (Mod.refl _ _) (HGs.out D 13 zw1 zw1 (hI.1).g (Mod.refl _ _))) (upd_same V 13 _))
     ·intro D V zw1 a hR hI K hK;obtain ⟨hM1, hB1, hG1⟩ := hI.1;have zd7 := hR.pred 7 (by kernel_rfl);have zf7 : V 7 = .bool false := hI.2 7 zd7 rfl;have ze25 := hR.frame.done (t := 25) (j := 7) (by kernel_rfl) hR.ok zd7;rw [if_neg (by simp [Region.wanted, yielded, ze25, zf7])];exact hK undef _ (hI.next hR (by kernel_rfl) (Mod.refl _ _) (PB.quiet hI.1 (Mod.refl _ _) (HGs.out D 14 zw1 zw1 (hI.1).g (Mod.refl _ _))) (upd_same V 14 _))
     ·intro D V zw1 a hR hI K hK;obtain ⟨hM1, hB1, hG1⟩ := hI.1;have zd7 := hR.pred 7 (by kernel_rfl);have zf7 : V 7 = .bool false := hI.2 7 zd7 rfl;have ze25 := hR.frame.done (t := 25) (j := 7) (by kernel_rfl) hR.ok zd7;rw [if_neg (by simp [Region.wanted, yielded, ze25, zf7])];exact hK undef _ (hI.next hR (by kernel_rfl) (Mod.refl _ _) (PB.quiet hI.1 (Mod.refl _ _) (HGs.out D 15 zw1 zw1 (hI.1).g (Mod.refl _ _))) (upd_same V 15 _))
     ·intro D V zw1 a hR hI K hK;obtain ⟨hM1, hB1, hG1⟩ := hI.1;have zd7 := hR.pred 7 (by kernel_rfl);have zf7 : V 7 = .bool false := hI.2 7 zd7 rfl;have ze25 := hR.frame.done (t := 25) (j := 7) (by kernel_rfl) hR.ok zd7;rw [if_neg (by simp [Region.wanted, yielded, ze25, zf7])];exact hK undef _ (hI.next hR (by kernel_rfl) (Mod.refl _ _) (PB.quiet hI.1 (Mod.refl _ _) (HGs.out D 16 zw1 zw1 (hI.1).g (Mod.refl _ _))) (upd_same V 16 _))
     ·intro D V zw1 a hR hI K hK;obtain ⟨hM1, hB1, hG1⟩ := hI.1;have zd7 := hR.pred 7 (by kernel_rfl);have zf7 : V 7 = .bool false := hI.2 7 zd7 rfl;have ze25 := hR.frame.done (t := 25) (j := 7) (by kernel_rfl) hR.ok zd7;rw [if_neg (by simp [Region.wanted, yielded, ze25, zf7])];exact hK undef _ (hI.next hR (by kernel_rfl) (Mod.refl _ _) (PB.quiet hI.1 (Mod.refl _ _) (HGs.out D 17 zw1 zw1 (hI.1).g (Mod.refl _ _))) (upd_same V 17 _))
     ·intro D V zw1 a hR hI K hK;obtain ⟨hM1, hB1, hG1⟩ := hI.1;have zd7 := hR.pred 7 (by kernel_rfl);have zf7 : V 7 = .bool false := hI.2 7 zd7 rfl;have zd17 := hR.pred 17 (by kernel_rfl);have zf17 : V 17 = undef := hI.2 17 zd17 rfl;have ze25 := hR.frame.done (t := 25) (j := 7) (by kernel_rfl) hR.ok zd7;have ze35 := hR.frame.done (t := 35) (j := 17) (by kernel_rfl) hR.ok zd17;rw [if_pos (by rfl)];go_simp;exact hK (.bool false) _ (hI.next hR (by kernel_rfl) (Mod.refl _ _) (PB.quiet hI.1 (Mod.refl _ _) (HGs.out D 18 zw1 zw1 (hI.1).g (Mod.refl _ _))) (upd_same V 18 _))
     ·intro D V zw1 a hR hI K hK;obtain ⟨hM1, hB1, hG1⟩ := hI.1;have zd18 := hR.pred 18 (by kernel_rfl);have zf18 : V 18 = .bool false := hI.2 18 zd18 rfl;have ze36 := hR.frame.done (t := 36) (j := 18) (by kernel_rfl) hR.ok zd18;rw [if_pos (by rfl)];go_simp;refine (whenQ_calls _ _ _ 0 HE7.out).mono ?_;rintro e zw2 ⟨rfl, hm2⟩;exact hK (.int .i64 0) _ (hI.next hR (by kernel_rfl) hm2 (PB.quiet hI.1 hm2 (HGs.out D 19 _ _ (hI.1).g hm2)) (upd_same V 19 _))
     ·intro D V zw1 a hR hI K hK;obtain ⟨hM1, hB1, hG1⟩ := hI.1;have ze2 := hR.frame.other (t := 2) (by kernel_rfl) rfl;have zx0 := hG1.1.cell 0; have zx1 := hG1.1.cell 1;simp at zx0 zx1;rw [if_pos (by rfl)];go_simp;exact hK (.agg #[.slice A n c, .slice A3 n3 c3]) _ (hI.next hR (by kernel_rfl) (Mod.refl _ _) (PB.quiet hI.1 (Mod.refl _ _) (HGs.out D 20 zw1 zw1 (hI.1).g (Mod.refl _ _))) (upd_same V 20 _))
     ·intro D V zw1 a hR hI K hK;obtain ⟨hM1, hB1, hG1⟩ := hI.1;have ze6 := hR.frame.other (t := 6) (by kernel_rfl) rfl;rw [if_pos (by rfl)];go_simp;exact hK (.pointer (some ⟨gx, 1, none⟩)) _ (hI.next hR (by kernel_rfl) (Mod.refl _ _) (PB.quiet hI.1 (Mod.refl _ _) (HGs.out D 21 zw1 zw1 (hI.1).g (Mod.refl _ _))) (upd_same V 21 _))
     ·intro D V zw1 a hR hI K hK;obtain ⟨hM1, hB1, hG1⟩ := hI.1;have zd21 := hR.pred 21 (by kernel_rfl);have zf21 : V 21 = .pointer (some ⟨gx, 1, none⟩) := hI.2 21 zd21 rfl;have ze39 := hR.frame.done (t := 39) (j := 21) (by kernel_rfl) hR.ok zd21;have zx0 := hG1.2.1.cell 0; have zx1 := hG1.2.1.cell 1;simp at zx0 zx1;rw [if_pos (by rfl)];go_simp;exact hK (.slice x.A x.vals.length x.c) _ (hI.next hR (by kernel_rfl) (Mod.refl _ _) (PB.quiet hI.1 (Mod.refl _ _) (HGs.out D 22 zw1 zw1 (hI.1).g (Mod.refl _ _))) (upd_same V 22 _))
     ·intro D V zw1 a hR hI K hK;obtain ⟨hM1, hB1, hG1⟩ := hI.1;have zd20 := hR.pred 20 (by kernel_rfl);have zf20 : V 20 = .agg #[.slice A n c, .slice A3 n3 c3] := hI.2 20 zd20 rfl;have zd22 := hR.pred 22 (by kernel_rfl);have zf22 : V 22 = .slice x.A x.vals.length x.c := hI.2 22 zd22 rfl;have ze38 := hR.frame.done (t := 38) (j := 20) (by kernel_rfl) hR.ok zd20;have ze40 := hR.frame.done (t := 40) (j := 22) (by kernel_rfl) hR.ok zd22;rw [if_pos (by rfl)];go_simp;refine (HVX.out zw1 hM1).mono ?_;rintro e zw2 ⟨rfl, hm2⟩;exact hK (.int .i64 ve) _ (hI.next hR (by kernel_rfl) hm2 (PB.quiet hI.1 hm2 (HGs.out D 23 _ _ (hI.1).g hm2)) (upd_same V 23 _))
     ·intro D V zw1 a hR hI K hK;obtain ⟨hM1, hB1, hG1⟩ := hI.1;have zd4 := hR.pred 4 (by kernel_rfl);have zf4 : V 4 = .int .i64 e5 := hI.2 4 zd4 rfl;have zd19 := hR.pred 19 (by kernel_rfl);have zf19 : V 19 = .int .i64 0 := hI.2 19 zd19 rfl;have zd23 := hR.pred 23 (by kernel_rfl);have zf23 : V 23 = .int .i64 ve := hI.2 23 zd23 rfl;have ze22 := hR.frame.done (t := 22) (j := 4) (by kernel_rfl) hR.ok zd4;have ze37 := hR.frame.done (t := 37) (j := 19) (by kernel_rfl) hR.ok zd19;have ze41 := hR.frame.done (t := 41) (j := 23) (by kernel_rfl) hR.ok zd23;rw [if_pos (by rfl)];go_simp;exact hK (_) _ (hI.next hR (by kernel_rfl) ((Mod.refl _ _).alloc _) (PB.quiet hI.1 (pure_alloc _ _) (HGs.out D 24 _ _ (hI.1).g ((Mod.refl _ _).alloc _))) (⟨_, upd_same V 24 _, (by omega), (Blk.new _ _ _)⟩))
     ·intro D V zw1 a hR hI K hK;obtain ⟨hM1, hB1, hG1⟩ := hI.1;have zd24 := hR.pred 24 (by kernel_rfl);have zF24 : ∃ (g_24 : Nat), V 24 = .slice (some ⟨g_24, 0, none⟩) 3 3 ∧ w2.heap.size ≤ g_24 ∧ Blk zw1 g_24 33 #[.int .i64 e5, .int .i64 0, .int .i64 ve] := hI.2 24 zd24 (by show (!D 25) = true; rw [hR.not]; rfl);obtain ⟨g_24, zf24, c24_0, b24_0⟩ := zF24;have ze42 := hR.frame.done (t := 42) (j := 24) (by kernel_rfl) hR.ok zd24;rw [if_pos (by rfl)];go_simp;refine (HF.out zw1 _ b24_0).mono ?_;rintro e zw2 ⟨rfl, hm2⟩;exact hK (.int .i64 q1) _ (hI.next hR (by kernel_rfl) hm2 (PB.quiet hI.1 hm2 (HGs.out D 25 _ _ (hI.1).g hm2)) (upd_same V 25 _))
     ·intro D V zw1 a hR hI K hK;obtain ⟨hM1, hB1, hG1⟩ := hI.1;have zd25 := hR.pred 25 (by kernel_rfl);have zf25 : V 25 = .int .i64 q1 := hI.2 25 zd25 rfl;have ze43 := hR.frame.done (t := 43) (j := 25) (by kernel_rfl) hR.ok zd25;rw [if_pos (by rfl)];go_simp;exact hK (.int .i64 q1) _ (hI.next hR (by kernel_rfl) (Mod.refl _ _) (PB.quiet hI.1 (Mod.refl _ _) (HGs.out D 26 zw1 zw1 (hI.1).g (Mod.refl _ _))) (upd_same V 26 _))
    ·intro D V w3 hD hI;obtain ⟨hM1, hB1, hG1⟩ := hI.1;have hMx := hM1;clear hM1;have hBx := hB1;clear hB1;have hGx := hG1;clear hG1;have zf0 : V 0 = .pointer (some ⟨gx, 0, none⟩) := hI.2 0 (hD 0 (by decide)) rfl;have zf1 : V 1 = .string ⟨x.item.toArray⟩ := hI.2 1 (hD 1 (by decide)) rfl;have zf2 : V 2 = .bool kb := hI.2 2 (hD 2 (by decide)) rfl;have zf3 : V 3 = .bool (!kb) := hI.2 3 (hD 3 (by decide)) rfl;have zf4 : V 4 = .int .i64 e5 := hI.2 4 (hD 4 (by decide)) rfl;have zf5 : V 5 = .int .i64 0 := hI.2 5 (hD 5 (by decide)) rfl;have zf6 : V 6 = .bool false := hI.2 6 (hD 6 (by decide)) rfl;have zf7 : V 7 = .bool false := hI.2 7 (hD 7 (by decide)) rfl;have zf8 : V 8 = undef := hI.2 8 (hD 8 (by decide)) rfl;have zf9 : V 9 = undef := hI.2 9 (hD 9 (by decide)) rfl;have zf10 : V 10 = undef := hI.2 10 (hD 10 (by decide)) rfl;have zf11 : V 11 = undef := hI.2 11 (hD 11 (by decide)) rfl;have zf12 : V 12 = undef := hI.2 12 (hD 12 (by decide)) rfl;have zf13 : V 13 = undef := hI.2 13 (hD 13 (by decide)) rfl;have zf14 : V 14 = undef := hI.2 14 (hD 14 (by decide)) rfl;have zf15 : V 15 = undef := hI.2 15 (hD 15 (by decide)) rfl;have zf16 : V 16 = undef := hI.2 16 (hD 16 (by decide)) rfl;have zf17 : V 17 = undef := hI.2 17 (hD 17 (by decide)) rfl;have zf18 : V 18 = .bool false := hI.2 18 (hD 18 (by decide)) rfl;have zf19 : V 19 = .int .i64 0 := hI.2 19 (hD 19 (by decide)) rfl;have zf20 : V 20 = .agg #[.slice A n c, .slice A3 n3 c3] := hI.2 20 (hD 20 (by decide)) rfl;have zf21 : V 21 = .pointer (some ⟨gx, 1, none⟩) := hI.2 21 (hD 21 (by decide)) rfl;have zf22 : V 22 = .slice x.A x.vals.length x.c := hI.2 22 (hD 22 (by decide)) rfl;have zf23 : V 23 = .int .i64 ve := hI.2 23 (hD 23 (by decide)) rfl;have zf25 : V 25 = .int .i64 q1 := hI.2 25 (hD 25 (by decide)) rfl;have zf26 : V 26 = .int .i64 q1 := hI.2 26 (hD 26 (by decide)) rfl;clear hI hD HGs;simp only [frAll, Act.put, List.setIfInBounds_toArray, List.set_cons_zero, List.set_cons_succ, Nat.zero_add, Nat.reduceAdd, zf0, zf1, zf2, zf3, zf4, zf5, zf6, zf7, zf8, zf9, zf10, zf11, zf12, zf13, zf14, zf15, zf16, zf17, zf18, zf19, zf20, zf21, zf22, zf23, zf25, zf26];clear zf0 zf1 zf2 zf3 zf4 zf5 zf6 zf7 zf8 zf9 zf10 zf11 zf12 zf13 zf14 zf15 zf16 zf17 zf18 zf19 zf20 zf21 zf22 zf23 zf25 zf26;generalize V 24 = u24;clear V D;have HM3 := Lib.hid hMx;have HB3 := Lib.hid hGx.1;clear hMx hGx hBx HKY HVX HF HB1 HC1 HP1 HA1
     by_cases h0 : q1 = 0
     ·subst h0;have HS2 : Hid (ceE L (prvC xs (0 + 1)) (xs.drop (0 + 1)) = q) := Lib.hid (by rw [HPV.out]; have h := HST.out; rw [if_neg (by simp)] at h; exact h.symm);clear HST HPV
      go_wp2_with fail
      go_roundg (xs.length - (0 + 1))
      case measure => omega
      case rel => exact ⟨0 + 1, rfl, by omega, by simp, HS2.out, HB3.out, HM3.out⟩
     ·have h0' : (q1 != 0) = true := by simpa using h0
      have HS2 : Hid (q = q1) := Lib.hid (by have h := HST.out; rw [if_pos h0] at h; exact h);clear HST HPV h0
      go_wp2_with fail
      go_ret;exact IntPost.of HS2.out HM3.out
   ·obtain ⟨j, rfl⟩ : ∃ j, k = j + 1 := ⟨k - 1, by omega⟩;clear HK0;have HXJ := Lib.hid (HNX.out j rfl);obtain ⟨e7, he7⟩ : ∃ e, (if lb = true then (7 : Int) else 0) = e := ⟨_, rfl⟩;have HE7 := Lib.hid he7;rw [he7] at HST;obtain ⟨q1, hq1⟩ : ∃ q, firstErr [e5, e7, ve] = q := ⟨_, rfl⟩;rw [hq1] at HST
    have HF : Hid (∀ (W : World) (g : Nat), Blk W g 33 #[.int .i64 e5, .int .i64 e7, .int .i64 ve] → Calls Tryz.prog 50 #[.slice (some ⟨g, 0, none⟩) 3 3] W (IntPost W q1)) := Lib.hid (fun W g h => by
     have := firstE_calls W g 3 [e5, e7, ve] h.row0 (by simp)
     rwa [hq1] at this)
    have HLB := Lib.hid hlb;clear he5 he7 hlb hve hkb HXI hq1 HNX
    have i1 : (0 : Int) ≤ (j : Int) := by omega
    have i2 : (j : Int) + 1 < (xs.length : Int) := by omega
    have i3 : j < xs.length := by omega
    have HGs := Lib.hid (show ∀ (D : Nat → Bool) (zzi : Nat) (zq zq' : World), (fun _ zq => (fun Z => Blk Z gl 63 #[.slice A n c, .slice A3 n3 c3] ∧ Blk Z gx 76 #[.string ⟨x.item.toArray⟩, .slice x.A x.vals.length x.c] ∧ Z.cell? ⟨g, off + j * 2, none⟩ = some (.string ⟨pv.toArray⟩)) zq) D zq → Mod (fun _ => False) zq zq' → (fun _ zq => (fun Z => Blk Z gl 63 #[.slice A n c, .slice A3 n3 c3] ∧ Blk Z gx 76 #[.string ⟨x.item.toArray⟩, .slice x.A x.vals.length x.c] ∧ Z.cell? ⟨g, off + j * 2, none⟩ = some (.string ⟨pv.toArray⟩)) zq) (upd D zzi true) zq' from by intro D zzi zq zq' h hm; (exact ⟨h.1.modp hm, h.2.1.modp hm, keepp h.2.2 hm⟩))
    refine wp_region_inv (by kernel_rfl) (by kernel_rfl) (InvF (R := Mod (fun _ => False)) [.is (.pointer (some ⟨gx, 0, none⟩)),
      .is (.string ⟨x.item.toArray⟩),
      .is (.bool kb),
      .is (.bool (!kb)),
      .is (.int .i64 e5),
      .is (.int .i64 ((j : Int) + 1)),
      .is (.bool true),
      .is (.bool true),
      .is (.pointer (some ⟨gx, 0, none⟩)),
      .is (.string ⟨x.item.toArray⟩),
      .is (.slice (some ⟨g, off, none⟩) xs.length c1),
      .is (.int .i64 ((j : Int) + 1)),
      .is (.int .i64 ((j : Int) + 1)),
      .is (.int .i64 (j : Int)),
      .is (.pointer (some ⟨g, off + j * 2, none⟩)),
      .is (.pointer (some ⟨g, off + j * 2, none⟩)),
      .is (.string ⟨pv.toArray⟩),
      .is (.bool lb),
      .is (.bool lb),
      .is (.int .i64 e7),
      .is (.agg #[.slice A n c, .slice A3 n3 c3]),
      .is (.pointer (some ⟨gx, 1, none⟩)),
      .is (.slice x.A x.vals.length x.c),
      .is (.int .i64 ve),
      ⟨fun zv zw => ∃ (g_24 : Nat), zv = .slice (some ⟨g_24, 0, none⟩) 3 3 ∧ w2.heap.size ≤ g_24 ∧ Blk zw g_24 33 #[.int .i64 e5, .int .i64 e7, .int .i64 ve], (by rintro zv zw zx ⟨g_24, rfl, c0, q0⟩ hm; exact ⟨g_24, rfl, c0, (q0.modp hm)⟩), none, some 25⟩,
      .is (.int .i64 q1),
      .is (.int .i64 q1)]
      (PB w (fun _ => False) w2.heap.size (fun _ zq => (fun Z => Blk Z gl 63 #[.slice A n c, .slice A3 n3 c3] ∧ Blk Z gx 76 #[.string ⟨x.item.toArray⟩, .slice x.A x.vals.length x.c] ∧ Z.cell? ⟨g, off + j * 2, none⟩ = some (.string ⟨pv.toArray⟩)) zq))) (InvF.start (PB.start HP1.out (Nat.le_refl _) (⟨HB1.out.drew, HC1.out.drew, (keepp HXJ.out HA1.out.drew)⟩))) ?_ ?_
    ·refine .cons ?_ (.cons ?_ (.cons ?_ (.cons ?_ (.cons ?_ (.cons ?_ (.cons ?_ (.cons ?_ (.cons ?_ (.cons ?_ (.cons ?_ (.cons ?_ (.cons ?_ (.cons ?_ (.cons ?_ (.cons ?_ (.cons ?_ (.cons ?_ (.cons ?_ (.cons ?_ (.cons ?_ (.cons ?_ (.cons ?_ (.cons ?_ (.cons ?_ (.cons ?_ (.cons ?_ .nil))))))))))))))))))))))))))
     ·intro D V zw1 a hR hI K hK;obtain ⟨hM1, hB1, hG1⟩ := hI.1;have ze6 := hR.frame.other (t := 6) (by kernel_rfl) rfl;rw [if_pos (by rfl)];go_simp;exact hK (.pointer (some ⟨gx, 0, none⟩)) _ (hI.next hR (by kernel_rfl) (Mod.refl _ _) (PB.quiet hI.1 (Mod.refl _ _) (HGs.out D 0 zw1 zw1 (hI.1).g (Mod.refl _ _))) (upd_same V 0 _))
     ·intro D V zw1 a hR hI K hK;obtain ⟨hM1, hB1, hG1⟩ := hI.1;have zd0 := hR.pred 0 (by kernel_rfl);have zf0 : V 0 = .pointer (some ⟨gx, 0, none⟩) := hI.2 0 zd0 rfl;have ze18 := hR.frame.done (t := 18) (j := 0) (by kernel_rfl) hR.ok zd0;have zx0 := hG1.2.1.cell 0; have zx1 := hG1.2.1.cell 1;simp at zx0 zx1;rw [if_pos (by rfl)];go_simp;exact hK (.string ⟨x.item.toArray⟩) _ (hI.next hR (by kernel_rfl) (Mod.refl _ _) (PB.quiet hI.1 (Mod.refl _ _) (HGs.out D 1 zw1 zw1 (hI.1).g (Mod.refl _ _))) (upd_same V 1 _))
     ·intro D V zw1 a hR hI K hK;obtain ⟨hM1, hB1, hG1⟩ := hI.1;have zd1 := hR.pred 1 (by kernel_rfl);have zf1 : V 1 = .string ⟨x.item.toArray⟩ := hI.2 1 zd1 rfl;have ze19 := hR.frame.done (t := 19) (j := 1) (by kernel_rfl) hR.ok zd1;rw [if_pos (by rfl)];go_simp;refine (HKY.out zw1).mono ?_;rintro e zw2 ⟨rfl, hm2⟩;exact hK (.bool kb) _ (hI.next hR (by kernel_rfl) hm2 (PB.quiet hI.1 hm2 (HGs.out D 2 _ _ (hI.1).g hm2)) (upd_same V 2 _))
     ·intro D V zw1 a hR hI K hK;obtain ⟨hM1, hB1, hG1⟩ := hI.1;have zd2 := hR.pred 2 (by kernel_rfl);have zf2 : V 2 = .bool kb := hI.2 2 zd2 rfl;have ze20 := hR.frame.done (t := 20) (j := 2) (by kernel_rfl) hR.ok zd2;rw [if_pos (by rfl)];go_simp;exact hK (.bool (!kb)) _ (hI.next hR (by kernel_rfl) (Mod.refl _ _) (PB.quiet hI.1 (Mod.refl _ _) (HGs.out D 3 zw1 zw1 (hI.1).g (Mod.refl _ _))) (upd_same V 3 _))
     ·intro D V zw1 a hR hI K hK;obtain ⟨hM1, hB1, hG1⟩ := hI.1;have zd3 := hR.pred 3 (by kernel_rfl);have zf3 : V 3 = .bool (!kb) := hI.2 3 zd3 rfl;have ze21 := hR.frame.done (t := 21) (j := 3) (by kernel_rfl) hR.ok zd3;rw [if_pos (by rfl)];go_simp;refine (whenQ_calls _ _ _ e5 HE5.out).mono ?_;rintro e zw2 ⟨rfl, hm2⟩;exact hK (.int .i64 e5) _ (hI.next hR (by kernel_rfl) hm2 (PB.quiet hI.1 hm2 (HGs.out D 4 _ _ (hI.1).g hm2)) (upd_same V 4 _))
     ·intro D V zw1 a hR hI K hK;obtain ⟨hM1, hB1, hG1⟩ := hI.1;have ze5 := hR.frame.other (t := 5) (by kernel_rfl) rfl;rw [if_pos (by rfl)];go_simp;exact hK (.int .i64 ((j : Int) + 1)) _ (hI.next hR (by kernel_rfl) (Mod.refl _ _) (PB.quiet hI.1 (Mod.refl _ _) (HGs.out D 5 zw1 zw1 (hI.1).g (Mod.refl _ _))) (upd_same V 5 _))
     ·intro D V zw1 a hR hI K hK;obtain ⟨hM1, hB1, hG1⟩ := hI.1;have zd5 := hR.pred 5 (by kernel_rfl);have zf5 : V 5 = .int .i64 ((j : Int) + 1) := hI.2 5 zd5 rfl;have ze23 := hR.frame.done (t := 23) (j := 5) (by kernel_rfl) hR.ok zd5;rw [if_pos (by rfl)];go_simp;exact hK (.bool true) _ (hI.next hR (by kernel_rfl) (Mod.refl _ _) (PB.quiet hI.1 (Mod.refl _ _) (HGs.out D 6 zw1 zw1 (hI.1).g (Mod.refl _ _))) (upd_same V 6 _))
     ·intro D V zw1 a hR hI K hK;obtain ⟨hM1, hB1, hG1⟩ := hI.1;have zd6 := hR.pred 6 (by kernel_rfl);have zf6 : V 6 = .bool true := hI.2 6 zd6 rfl;have ze24 := hR.frame.done (t := 24) (j := 6) (by kernel_rfl) hR.ok zd6;rw [if_pos (by rfl)];go_simp;exact hK (.bool true) _ (hI.next hR (by kernel_rfl) (Mod.refl _ _) (PB.quiet hI.1 (Mod.refl _ _) (HGs.out D 7 zw1 zw1 (hI.1).g (Mod.refl _ _))) (upd_same V 7 _))
     ·intro D V zw1 a hR hI K hK;obtain ⟨hM1, hB1, hG1⟩ := hI.1;have zd7 := hR.pred 7 (by kernel_rfl);have zf7 : V 7 = .bool true := hI.2 7 zd7 rfl;have ze6 := hR.frame.other (t := 6) (by kernel_rfl) rfl;have ze25 := hR.frame.done (t := 25) (j := 7) (by kernel_rfl) hR.ok zd7;rw [if_pos (by simp [Region.wanted, yielded, ze25, zf7])];go_simp;exact hK (.pointer (some ⟨gx, 0, none⟩)) _ (hI.next hR (by kernel_rfl) (Mod.refl _ _) (PB.quiet hI.1 (Mod.refl _ _) (HGs.out D 8 zw1 zw1 (hI.1).g (Mod.refl _ _))) (upd_same V 8 _))
     ·intro D V zw1 a hR hI K hK;obtain ⟨hM1, hB1, hG1⟩ := hI.1;have zd8 := hR.pred 8 (by kernel_rfl);have zf8 : V 8 = .pointer (some ⟨gx, 0, none⟩) := hI.2 8 zd8 rfl;have zd7 := hR.pred 7 (by kernel_rfl);have zf7 : V 7 = .bool true := hI.2 7 zd7 rfl;have ze26 := hR.frame.done (t := 26) (j := 8) (by kernel_rfl) hR.ok zd8;have zx0 := hG1.2.1.cell 0; have zx1 := hG1.2.1.cell 1;simp at zx0 zx1;have ze25 := hR.frame.done (t := 25) (j := 7) (by kernel_rfl) hR.ok zd7;rw [if_pos (by simp [Region.wanted, yielded, ze25, zf7])];go_simp;exact hK (.string ⟨x.item.toArray⟩) _ (hI.next hR (by kernel_rfl) (Mod.refl _ _) (PB.quiet hI.1 (Mod.refl _ _) (HGs.out D 9 zw1 zw1 (hI.1).g (Mod.refl _ _))) (upd_same V 9 _))
     ·intro D V zw1 a hR hI K hK;obtain ⟨hM1, hB1, hG1⟩ := hI.1;have zd7 := hR.pred 7 (by kernel_rfl);have zf7 : V 7 = .bool true := hI.2 7 zd7 rfl;have ze1 := hR.frame.other (t := 1) (by kernel_rfl) rfl;have ze25 := hR.frame.done (t := 25) (j := 7) (by kernel_rfl) hR.ok zd7;rw [if_pos (by simp [Region.wanted, yielded, ze25, zf7])];go_simp;exact hK (.slice (some ⟨g, off, none⟩) xs.length c1) _ (hI.next hR (by kernel_rfl) (Mod.refl _ _) (PB.quiet hI.1 (Mod.refl _ _) (HGs.out D 10 zw1 zw1 (hI.1).g (Mod.refl _ _))) (upd_same V 10 _))
     ·intro D V zw1 a hR hI K hK;obtain ⟨hM1, hB1, hG1⟩ := hI.1;have zd7 := hR.pred 7 (by kernel_rfl);have zf7 : V 7 = .bool true := hI.2 7 zd7 rfl;have ze5 := hR.frame.other (t := 5) (by kernel_rfl) rfl;have ze25 := hR.frame.done (t := 25) (j := 7) (by kernel_rfl) hR.ok zd7;rw [if_pos (by simp [Region.wanted, yielded, ze25, zf7])];go_simp;exact hK (.int .i64 ((j : Int) + 1)) _ (hI.next hR (by kernel_rfl) (Mod.refl _ _) (PB.quiet hI.1 (Mod.refl _ _) (HGs.out D 11 zw1 zw1 (hI.1).g (Mod.refl _ _))) (upd_same V 11 _))
     ·intro D V zw1 a hR hI K hK;obtain ⟨hM1, hB1, hG1⟩ := hI.1;have zd11 := hR.pred 11 (by kernel_rfl);have zf11 : V 11 = .int .i64 ((j : Int) + 1) := hI.2 11 zd11 rfl;have zd7 := hR.pred 7 (by kernel_rfl);have zf7 : V 7 = .bool true := hI.2 7 zd7 rfl;have ze29 := hR.frame.done (t := 29) (j := 11) (by kernel_rfl) hR.ok zd11
      have hmx : max ((j : Int) + 1) 1 = (j : Int) + 1 := by omega
      have ze25 := hR.frame.done (t := 25) (j := 7) (by kernel_rfl) hR.ok zd7;rw [if_pos (by simp [Region.wanted, yielded, ze25, zf7])];go_simp;exact hK (.int .i64 ((j : Int) + 1)) _ (hI.next hR (by kernel_rfl) (Mod.refl _ _) (PB.quiet hI.1 (Mod.refl _ _) (HGs.out D 12 zw1 zw1 (hI.1).g (Mod.refl _ _))) (upd_same V 12 _))
     ·intro D V zw1 a hR hI K hK;obtain ⟨hM1, hB1, hG1⟩ := hI.1;have zd12 := hR.pred 12 (by kernel_rfl);have zf12 : V 12 = .int .i64 ((j : Int) + 1) := hI.2 12 zd12 rfl;have zd7 := hR.pred 7 (by kernel_rfl);have zf7 : V 7 = .bool true := hI.2 7 zd7 rfl;have ze30 := hR.frame.done (t := 30) (j := 12) (by kernel_rfl) hR.ok zd12;have hw : IntKind.i64.wrap (j : Int) = (j : Int) := IntWalk.i64_in _ (by omega);have ze25 := hR.frame.done (t := 25) (j := 7) (by kernel_rfl) hR.ok zd7;rw [if_pos (by simp [Region.wanted, yielded, ze25, zf7])];go_simp;exact hK (.int .i64 (j : Int)) _ (hI.next hR (by kernel_rfl) (Mod.refl _ _) (PB.quiet hI.1 (Mod.refl _ _) (HGs.out D 13 zw1 zw1 (hI.1).g (Mod.refl _ _))) (upd_same V 13 _))
     ·intro D V zw1 a hR hI K hK;obtain ⟨hM1, hB1, hG1⟩ := hI.1;have zd10 := hR.pred 10 (by kernel_rfl);have zf10 : V 10 = .slice (some ⟨g, off, none⟩) xs.length c1 := hI.2 10 zd10 rfl;have zd13 := hR.pred 13 (by kernel_rfl);have zf13 : V 13 = .int .i64 (j : Int) := hI.2 13 zd13 rfl;have zd7 := hR.pred 7 (by kernel_rfl);have zf7 : V 7 = .bool true := hI.2 7 zd7 rfl;have ze28 := hR.frame.done (t := 28) (j := 10) (by kernel_rfl) hR.ok zd10;have ze31 := hR.frame.done (t := 31) (j := 13) (by kernel_rfl) hR.ok zd13;have ze25 := hR.frame.done (t := 25) (j := 7) (by kernel_rfl) hR.ok zd7;rw [if_pos (by simp [Region.wanted, yielded, ze25, zf7])];go_simp;exact hK (.pointer (some ⟨g, off + j * 2, none⟩)) _ (hI.next hR (by kernel_rfl) (Mod.refl _ _) (PB.quiet hI.1 (Mod.refl _ _) (HGs.out D 14 zw1 zw1 (hI.1).g (Mod.refl _ _))) (upd_same V 14 _))
     ·intro D V zw1 a hR hI K hK;obtain ⟨hM1, hB1, hG1⟩ := hI.1;have zd14 := hR.pred 14 (by kernel_rfl);have zf14 : V 14 = .pointer (some ⟨g, off + j * 2, none⟩) := hI.2 14 zd14 rfl;have zd7 := hR.pred 7 (by kernel_rfl);have zf7 : V 7 = .bool true := hI.2 7 zd7 rfl;have ze32 := hR.frame.done (t := 32) (j := 14) (by kernel_rfl) hR.ok zd14;have ze25 := hR.frame.done (t := 25) (j := 7) (by kernel_rfl) hR.ok zd7;rw [if_pos (by simp [Region.wanted, yielded, ze25, zf7])];go_simp;exact hK (.pointer (some ⟨g, off + j * 2, none⟩)) _ (hI.next hR (by kernel_rfl) (Mod.refl _ _) (PB.quiet hI.1 (Mod.refl _ _) (HGs.out D 15 zw1 zw1 (hI.1).g (Mod.refl _ _))) (upd_same V 15 _))
     ·intro D V zw1 a hR hI K hK;obtain ⟨hM1, hB1, hG1⟩ := hI.1;have zd15 := hR.pred 15 (by kernel_rfl);have zf15 : V 15 = .pointer (some ⟨g, off + j * 2, none⟩) := hI.2 15 zd15 rfl;have zd7 := hR.pred 7 (by kernel_rfl);have zf7 : V 7 = .bool true := hI.2 7 zd7 rfl;have ze33 := hR.frame.done (t := 33) (j := 15) (by kernel_rfl) hR.ok zd15;have zx0 := hG1.2.2;have ze25 := hR.frame.done (t := 25) (j := 7) (by kernel_rfl) hR.ok zd7;rw [if_pos (by simp [Region.wanted, yielded, ze25, zf7])];go_simp;exact hK (.string ⟨pv.toArray⟩) _ (hI.next hR (by kernel_rfl) (Mod.refl _ _) (PB.quiet hI.1 (Mod.refl _ _) (HGs.out D 16 zw1 zw1 (hI.1).g (Mod.refl _ _))) (upd_same V 16 _))
     ·intro D V zw1 a hR hI K hK;obtain ⟨hM1, hB1, hG1⟩ := hI.1;have zd9 := hR.pred 9 (by kernel_rfl);have zf9 : V 9 = .string ⟨x.item.toArray⟩ := hI.2 9 zd9 rfl;have zd16 := hR.pred 16 (by kernel_rfl);have zf16 : V 16 = .string ⟨pv.toArray⟩ := hI.2 16 zd16 rfl;have zd7 := hR.pred 7 (by kernel_rfl);have zf7 : V 7 = .bool true := hI.2 7 zd7 rfl;have ze27 := hR.frame.done (t := 27) (j := 9) (by kernel_rfl) hR.ok zd9;have ze34 := hR.frame.done (t := 34) (j := 16) (by kernel_rfl) hR.ok zd16;have zlb : (Op.bytesLess x.item pv || x.item == pv) = lb := HLB.out;have ze25 := hR.frame.done (t := 25) (j := 7) (by kernel_rfl) hR.ok zd7;rw [if_pos (by simp [Region.wanted, yielded, ze25, zf7])];go_simp;exact hK (.bool lb) _ (hI.next hR (by kernel_rfl) (Mod.refl _ _) (PB.quiet hI.1 (Mod.refl _ _) (HGs.out D 17 zw1 zw1 (hI.1).g (Mod.refl _ _))) (upd_same V 17 _))
     ·intro D V zw1 a hR hI K hK;obtain ⟨hM1, hB1, hG1⟩ := hI.1;have zd7 := hR.pred 7 (by kernel_rfl);have zf7 : V 7 = .bool true := hI.2 7 zd7 rfl;have zd17 := hR.pred 17 (by kernel_rfl);have zf17 : V 17 = .bool lb := hI.2 17 zd17 rfl;have ze25 := hR.frame.done (t := 25) (j := 7) (by kernel_rfl) hR.ok zd7;have ze35 := hR.frame.done (t := 35) (j := 17) (by kernel_rfl) hR.ok zd17;rw [if_pos (by rfl)];go_simp;exact hK (.bool lb) _ (hI.next hR (by kernel_rfl) (Mod.refl _ _) (PB.quiet hI.1 (Mod.refl _ _) (HGs.out D 18 zw1 zw1 (hI.1).g (Mod.refl _ _))) (upd_same V 18 _))
     ·intro D V zw1 a hR hI K hK;obtain ⟨hM1, hB1, hG1⟩ := hI.1;have zd18 := hR.pred 18 (by kernel_rfl);have zf18 : V 18 = .bool lb := hI.2 18 zd18 rfl;have ze36 := hR.frame.done (t := 36) (j := 18) (by kernel_rfl) hR.ok zd18;rw [if_pos (by rfl)];go_simp;refine (whenQ_calls _ _ _ e7 HE7.out).mono ?_;rintro e zw2 ⟨rfl, hm2⟩;exact hK (.int .i64 e7) _ (hI.next hR (by kernel_rfl) hm2 (PB.quiet hI.1 hm2 (HGs.out D 19 _ _ (hI.1).g hm2)) (upd_same V 19 _))
     ·intro D V zw1 a hR hI K hK;obtain ⟨hM1, hB1, hG1⟩ := hI.1;have ze2 := hR.frame.other (t := 2) (by kernel_rfl) rfl;have zx0 := hG1.1.cell 0; have zx1 := hG1.1.cell 1;simp at zx0 zx1;rw [if_pos (by rfl)];go_simp;exact hK (.agg #[.slice A n c, .slice A3 n3 c3]) _ (hI.next hR (by kernel_rfl) (Mod.refl _ _) (PB.quiet hI.1 (Mod.refl _ _) (HGs.out D 20 zw1 zw1 (hI.1).g (Mod.refl _ _))) (upd_same V 20 _))
     ·intro D V zw1 a hR hI K hK;obtain ⟨hM1, hB1, hG1⟩ := hI.1;have ze6 := hR.frame.other (t := 6) (by kernel_rfl) rfl;rw [if_pos (by rfl)];go_simp;exact hK (.pointer (some ⟨gx, 1, none⟩)) _ (hI.next hR (by kernel_rfl) (Mod.refl _ _) (PB.quiet hI.1 (Mod.refl _ _) (HGs.out D 21 zw1 zw1 (hI.1).g (Mod.refl _ _))) (upd_same V 21 _))
     ·intro D V zw1 a hR hI K hK;obtain ⟨hM1, hB1, hG1⟩ := hI.1;have zd21 := hR.pred 21 (by kernel_rfl);have zf21 : V 21 = .pointer (some ⟨gx, 1, none⟩) := hI.2 21 zd21 rfl;have ze39 := hR.frame.done (t := 39) (j := 21) (by kernel_rfl) hR.ok zd21;have zx0 := hG1.2.1.cell 0; have zx1 := hG1.2.1.cell 1;simp at zx0 zx1;rw [if_pos (by rfl)];go_simp;exact hK (.slice x.A x.vals.length x.c) _ (hI.next hR (by kernel_rfl) (Mod.refl _ _) (PB.quiet hI.1 (Mod.refl _ _) (HGs.out D 22 zw1 zw1 (hI.1).g (Mod.refl _ _))) (upd_same V 22 _))
     ·intro D V zw1 a hR hI K hK;obtain ⟨hM1, hB1, hG1⟩ := hI.1;have zd20 := hR.pred 20 (by kernel_rfl);have zf20 : V 20 = .agg #[.slice A n c, .slice A3 n3 c3] := hI.2 20 zd20 rfl;have zd22 := hR.pred 22 (by kernel_rfl);have zf22 : V 22 = .slice x.A x.vals.length x.c := hI.2 22 zd22 rfl;have ze38 := hR.frame.done (t := 38) (j := 20) (by kernel_rfl) hR.ok zd20;have ze40 := hR.frame.done (t := 40) (j := 22) (by kernel_rfl) hR.ok zd22;rw [if_pos (by rfl)];go_simp;refine (HVX.out zw1 hM1).mono ?_;rintro e zw2 ⟨rfl, hm2⟩;exact hK (.int .i64 ve) _ (hI.next hR (by kernel_rfl) hm2 (PB.quiet hI.1 hm2 (HGs.out D 23 _ _ (hI.1).g hm2)) (upd_same V 23 _))
     ·intro D V zw1 a hR hI K hK;obtain ⟨hM1, hB1, hG1⟩ := hI.1;have zd4 := hR.pred 4 (by kernel_rfl);have zf4 : V 4 = .int .i64 e5 := hI.2 4 zd4 rfl;have zd19 := hR.pred 19 (by kernel_rfl);have zf19 : V 19 = .int .i64 e7 := hI.2 19 zd19 rfl;have zd23 := hR.pred 23 (by kernel_rfl);have zf23 : V 23 = .int .i64 ve := hI.2 23 zd23 rfl;have ze22 := hR.frame.done (t := 22) (j := 4) (by kernel_rfl) hR.ok zd4;have ze37 := hR.frame.done (t := 37) (j := 19) (by kernel_rfl) hR.ok zd19;have ze41 := hR.frame.done (t := 41) (j := 23) (by kernel_rfl) hR.ok zd23;rw [if_pos (by rfl)];go_simp;exact hK (_) _ (hI.next hR (by kernel_rfl) ((Mod.refl _ _).alloc _) (PB.quiet hI.1 (pure_alloc _ _) (HGs.out D 24 _ _ (hI.1).g ((Mod.refl _ _).alloc _))) (⟨_, upd_same V 24 _, (by omega), (Blk.new _ _ _)⟩))
     ·intro D V zw1 a hR hI K hK;obtain ⟨hM1, hB1, hG1⟩ := hI.1;have zd24 := hR.pred 24 (by kernel_rfl);have zF24 : ∃ (g_24 : Nat), V 24 = .slice (some ⟨g_24, 0, none⟩) 3 3 ∧ w2.heap.size ≤ g_24 ∧ Blk zw1 g_24 33 #[.int .i64 e5, .int .i64 e7, .int .i64 ve] := hI.2 24 zd24 (by show (!D 25) = true; rw [hR.not]; rfl);obtain ⟨g_24, zf24, c24_0, b24_0⟩ := zF24;have ze42 := hR.frame.done (t := 42) (j := 24) (by kernel_rfl) hR.ok zd24;rw [if_pos (by rfl)];go_simp;refine (HF.out zw1 _ b24_0).mono ?_;rintro e zw2 ⟨rfl, hm2⟩;exact hK (.int .i64 q1) _ (hI.next hR (by kernel_rfl) hm2 (PB.quiet hI.1 hm2 (HGs.out D 25 _ _ (hI.1).g hm2)) (upd_same V 25 _))
     ·intro D V zw1 a hR hI K hK;obtain ⟨hM1, hB1, hG1⟩ := hI.1;have zd25 := hR.pred 25 (by kernel_rfl);have zf25 : V 25 = .int .i64 q1 := hI.2 25 zd25 rfl;have ze43 := hR.frame.done (t := 43) (j := 25) (by kernel_rfl) hR.ok zd25;rw [if_pos (by rfl)];go_simp;exact hK (.int .i64 q1) _ (hI.next hR (by kernel_rfl) (Mod.refl _ _) (PB.quiet hI.1 (Mod.refl _ _) (HGs.out D 26 zw1 zw1 (hI.1).g (Mod.refl _ _))) (upd_same V 26 _))
    ·intro D V w3 hD hI;obtain ⟨hM1, hB1, hG1⟩ := hI.1;have hMx := hM1;clear hM1;have hBx := hB1;clear hB1;have hGx := hG1;clear hG1;have zf0 : V 0 = .pointer (some ⟨gx, 0, none⟩) := hI.2 0 (hD 0 (by decide)) rfl;have zf1 : V 1 = .string ⟨x.item.toArray⟩ := hI.2 1 (hD 1 (by decide)) rfl;have zf2 : V 2 = .bool kb := hI.2 2 (hD 2 (by decide)) rfl;have zf3 : V 3 = .bool (!kb) := hI.2 3 (hD 3 (by decide)) rfl;have zf4 : V 4 = .int .i64 e5 := hI.2 4 (hD 4 (by decide)) rfl;have zf5 : V 5 = .int .i64 ((j : Int) + 1) := hI.2 5 (hD 5 (by decide)) rfl;have zf6 : V 6 = .bool true := hI.2 6 (hD 6 (by decide)) rfl;have zf7 : V 7 = .bool true := hI.2 7 (hD 7 (by decide)) rfl;have zf8 : V 8 = .pointer (some ⟨gx, 0, none⟩) := hI.2 8 (hD 8 (by decide)) rfl;have zf9 : V 9 = .string ⟨x.item.toArray⟩ := hI.2 9 (hD 9 (by decide)) rfl;have zf10 : V 10 = .slice (some ⟨g, off, none⟩) xs.length c1 := hI.2 10 (hD 10 (by decide)) rfl;have zf11 : V 11 = .int .i64 ((j : Int) + 1) := hI.2 11 (hD 11 (by decide)) rfl;have zf12 : V 12 = .int .i64 ((j : Int) + 1) := hI.2 12 (hD 12 (by decide)) rfl;have zf13 : V 13 = .int .i64 (j : Int) := hI.2 13 (hD 13 (by decide)) rfl;have zf14 : V 14 = .pointer (some ⟨g, off + j * 2, none⟩) := hI.2 14 (hD 14 (by decide)) rfl;have zf15 : V 15 = .pointer (some ⟨g, off + j * 2, none⟩) := hI.2 15 (hD 15 (by decide)) rfl;have zf16 : V 16 = .string ⟨pv.toArray⟩ := hI.2 16 (hD 16 (by decide)) rfl;have zf17 : V 17 = .bool lb := hI.2 17 (hD 17 (by decide)) rfl;have zf18 : V 18 = .bool lb := hI.2 18 (hD 18 (by decide)) rfl;have zf19 : V 19 = .int .i64 e7 := hI.2 19 (hD 19 (by decide)) rfl;have zf20 : V 20 = .agg #[.slice A n c, .slice A3 n3 c3] := hI.2 20 (hD 20 (by decide)) rfl;have zf21 : V 21 = .pointer (some ⟨gx, 1, none⟩) := hI.2 21 (hD 21 (by decide)) rfl;have zf22 : V 22 = .slice x.A x.vals.length x.c := hI.2 22 (hD 22 (by decide)) rfl;have zf23 : V 23 = .int .i64 ve := hI.2 23 (hD 23 (by decide)) rfl;have zf25 : V 25 = .int .i64 q1 := hI.2 25 (hD 25 (by decide)) rfl;have zf26 : V 26 = .int .i64 q1 := hI.2 26 (hD 26 (by decide)) rfl;clear hI hD HGs;simp only [frAll, Act.put, List.setIfInBounds_toArray, List.set_cons_zero, List.set_cons_succ, Nat.zero_add, Nat.reduceAdd, zf0, zf1, zf2, zf3, zf4, zf5, zf6, zf7, zf8, zf9, zf10, zf11, zf12, zf13, zf14, zf15, zf16, zf17, zf18, zf19, zf20, zf21, zf22, zf23, zf25, zf26];clear zf0 zf1 zf2 zf3 zf4 zf5 zf6 zf7 zf8 zf9 zf10 zf11 zf12 zf13 zf14 zf15 zf16 zf17 zf18 zf19 zf20 zf21 zf22 zf23 zf25 zf26;generalize V 24 = u24;clear V D;have HM3 := Lib.hid hMx;have HB3 := Lib.hid hGx.1;clear hMx hGx hBx HKY HVX HF HB1 HC1 HP1 HA1
     by_cases h0 : q1 = 0
     ·subst h0;have HS2 : Hid (ceE L (prvC xs (j + 1 + 1)) (xs.drop (j + 1 + 1)) = q) := Lib.hid (by rw [HPV.out]; have h := HST.out; rw [if_neg (by simp)] at h; exact h.symm);clear HST HPV
      go_wp2_with fail
      go_roundg (xs.length - (j + 1 + 1))
      case measure => omega
      case rel => exact ⟨j + 1 + 1, rfl, by omega, by simp, HS2.out, HB3.out, HM3.out⟩
     ·have h0' : (q1 != 0) = true := by simpa using h0
      have HS2 : Hid (q = q1) := Lib.hid (by have h := HST.out; rw [if_pos h0] at h; exact h);clear HST HPV h0
      go_wp2_with fail
      go_ret;exact IntPost.of HS2.out HM3.out
  ·obtain rfl : k = xs.length := by omega
   have HS2 : Hid (q = 0) := Lib.hid (by rw [← hce, List.drop_of_length_le (Nat.le_refl _)]; rfl);clear hce hk hlt
   go_wp2_with fail
   go_ret;exact IntPost.of HS2.out hm

end Go.Proofs.YtpinlcapgoljfaaGreatDoor

/- Spread of the program. -/
namespace Go.Proofs.YtpinlcapgoljfaaGreatDoor
open Go.RowKit

/-- What is wrong with what Spread is given. -/
def sprE (L : LayR) (its : List Itm) (cs : List CodR) : Int := if layE L ≠ 0 then layE L else if itsE itemE its ≠ 0 then itsE itemE its else codsE L cs
def SpPost (w : World) (L : LayR) (its : List Itm) (cs : List CodR) (e : Ending) (w' : World) : Prop := Pure w w' ∧ ((sprE L its cs ≠ 0 ∧ e = .returned (.tuple #[.slice none 0 0, .int .i64 (sprE L its cs)])) ∨ (sprE L its cs = 0 ∧ ∃ (A : Option Addr) (c : Nat) (xs : List CodR), e = .returned (.tuple #[.slice A xs.length c, .int .i64 0]) ∧ Cods w' (.slice A xs.length c) xs ∧ xs.map CodR.key = sprS cs its L.asks its))
theorem zero_strg (W : World) : (zeroValue 9).run Tryz.prog W = .ok (.string ⟨#[]⟩) W := by kernel_rfl
theorem ownL_take {cs : List CodR} {k : Nat} (h : k < cs.length) (s : Str) : ownL (cs.take (k + 1)) s = if s = cs[k].item then some cs[k] else ownL (cs.take k) s := by
 rw [List.take_succ_eq_append_getElem h, ownL_app]
theorem kids_own {w : World} {base bk n m l : Nat} {V : Str → Option Value} {F : Str → List Str} {vt u : Value} {ts xs : List Str} {p : Str} (h : KidsM w base bk n m V F vt ts) (hu : (V p).getD nilS = u) (hf : F p = xs) (hl : xs.length = l) : w.ownsRow base 9 1 u l (strsV xs) := by
 have h1 := h.at_ p
 rwa [hu, hf, hl] at h1

theorem idsSum_mem {its : List Itm} {h s : Str} (hs : s ∈ idsSum its h) : ∃ x ∈ its, x.id = s := by
 unfold idsSum at hs;obtain ⟨x, hx, rfl⟩ := List.mem_map.1 hs;exact ⟨x, (List.mem_filter.1 hx).1, rfl⟩
theorem fmB_mem {its : List Itm} (hR : Right its) {x : Itm} (hx : x ∈ its) {s : Str} (hs : s ∈ fmB its x.id) : ∃ y ∈ its, y.id = s := by
 obtain ⟨i, hi, rfl⟩ := List.getElem_of_mem hx
 have hix : idxId its its[i].id = i := by unfold idxId; rw [plc_self hR.distinct i hi]; rfl
 have hil : idxId its its[i].id < its.length := by rw [hix]; exact hi
 have hT := hR.tpI_mem hil;unfold fmB belS at hs;obtain ⟨j, hj, rfl⟩ := List.mem_map.1 hs;have hl := bel_lt 4 _ j (mem_topsI.1 hT).1 hj;exact ⟨its[j], List.getElem_mem hl, (idAt2_eq hl).symm⟩
/-- The two steps by which a value is found. -/
theorem spr_two {cs : List CodR} {its : List Itm} {x : Itm} {f : Str} {sp : Int} {v0 v1 T : List Str} (hT : T = if v0 = [] then firV cs (frmS its x sp) f else v0)
  (h1 : v1 = if v0 = [] ∧ sp = 1 then firV cs (idsSum its (sumS x)) f else v0) : T = if v1 = [] ∧ sp = 2 then firV cs (fmB its x.id) f else v1 := by
 by_cases a : v0 = []
 ·rw [if_pos a] at hT
  by_cases b : sp = 1
  ·rw [if_pos ⟨a, b⟩] at h1;subst b;rw [if_neg (fun h => absurd h.2 (by decide)), hT, h1];unfold frmS;rw [if_pos rfl]
  ·rw [if_neg (fun h => b h.2)] at h1;rw [h1, hT];unfold frmS;rw [if_neg b]
   by_cases c : sp = 2
   ·rw [if_pos c, if_pos ⟨a, c⟩]
   ·rw [if_neg c, if_neg (fun h => c h.2), a]
    rfl
 ·rw [if_neg a] at hT;rw [if_neg (fun h => a h.1)] at h1;rw [if_neg (fun h => a (by rw [← h1]; exact h.1)), hT, h1]
theorem blk_ne {w : World} {g g' : Nat} {t t' : TypeId} {c c' : Array Value} (h : Blk w g t c) (h' : Blk w g' t' c') (ht : t ≠ t') : g ≠ g' := by
 rintro rfl;unfold Blk at h h';rw [h] at h'
 injection h' with h'
 injection h' with _ h2 _
 exact ht h2
theorem own_len {cs : List CodR} (h : ∀ c ∈ cs, CodB c) (i f : Str) : (chIn (ownV cs i) f).length ≤ 1000 := by
 unfold ownV
 cases e : ownC cs i with
 | none => simp [chIn]
 | some x => exact chIn_len f (fun c hc => ((h x (List.mem_of_find?_eq_some e)).2.2 c hc).2.1)
theorem sprA_len {cs : List CodR} (h : ∀ c ∈ cs, CodB c) (its : List Itm) (x : Itm) (a : AskR) : (sprA cs its x a).length ≤ 1000 := by
 rw [sprA_frm]
 split
 ·exact firV_len (fun i => own_len h i _) _
 ·exact own_len h _ _
/-- Choices of some strings, in slot v. -/
def CvPost (w : World) (ch : List Str) (v : Value) (wx : World) : Prop := ∃ (A : Option Addr) (c : Nat), v = .slice A ch.length c ∧ Sl wx 9 1 (.slice A ch.length c) (strsV ch) ∧ Pure w wx
def SlT (w : World) (v : Value) (xs : List Str) : Prop := Sl w 9 1 v (strsV xs)
theorem SlT.pure {w w' : World} {v : Value} {xs : List Str} (h : SlT w v xs) (hm : Pure w w') : SlT w' v xs := Sl.pure h hm
/-- Values, and the block of the coding that they are of. -/
def VkB (w : World) (base : Nat) (A : Option Addr) (c : Nat) (cs : List ChoR) (r : List (Str × List Str)) (g : Nat) (cl : Array Value) : Prop := VkS w base A c cs r ∧ Blk w g 76 cl
theorem VkB.pure {w w' : World} {base c g : Nat} {A : Option Addr} {cs : List ChoR} {r : List (Str × List Str)} {cl : Array Value} (h : VkB w base A c cs r g cl) (hm : Pure w w') : VkB w' base A c cs r g cl := ⟨h.1.pure hm, h.2.modp hm⟩
theorem VkB.app {w w' : World} {base c c5 n' g : Nat} {A A5 : Option Addr} {cs : List ChoR} {r : List (Str × List Str)} {cl : Array Value} {x : ChoR} (h : VkB w base A c cs r g cl) (hm : Mod (fun j => (Value.slice A cs.length c).ownBlock = some j) w w')
  (hx : Sl w 9 1 (.slice x.A x.ch.length x.c) (strsV x.ch)) (hn : n' = cs.length + 1) (hown : w'.ownsRow base 125 2 (.slice A5 n' c5) n' (choV cs ++ choC x)) : VkB w' base A5 c5 (cs ++ [x]) (r ++ [(x.field, x.ch)]) g cl :=
 ⟨h.1.app hm hx hn hown, h.2.mod hm (fun hv => by have h2 := h.2; unfold Blk at h2; exact absurd (own_ty h.1.1 hv h2) (by decide))⟩
theorem VkB.store {w : World} {base c g : Nat} {A : Option Addr} {cs : List ChoR} {r : List (Str × List Str)} {a b u : Value} (h : VkB w base A c cs r g #[a, b]) : VkB (w.setCell ⟨g, 1, none⟩ u) base A c cs r g #[a, u] :=
 ⟨h.1.far ((Mod.refl (· = g) w).setCell (.inl rfl) _) h.2 (by decide) (by decide), by have := h.2.set 1 u; simpa using this⟩

set_option maxRecDepth 100000 in
set_option maxHeartbeats 16000000 in
theorem spread_calls (w : World) (vl : Value) (L : LayR) (vi : Value) (its : List Itm) (CA : Option Addr) (cn cc : Nat) (cs : List CodR) (hL : LayV w L vl) (hb : LayB L) (hI : Its w vi its) (hn : its.length ≤ 12) (hz : ∀ x ∈ its, ItB x) (hC : Cods w (.slice CA cn cc) cs) (hcz : ∀ x ∈ cs, CodB x) (hcn : cs.length ≤ 1000) (hE : Env w) (hD : Deb w) :
  Calls Tryz.prog 28 #[vl, vi, .slice CA cn cc] w (SpPost w L its cs) := by
 have hcl := hC.len;subst hcl;have HLC := Lib.hid (fun W (h : Pure w W) => checkLayout_calls W vl L (hL.pure h) hb);have HIC := Lib.hid (fun W (h : Pure w W) => check_calls W vi its (hI.pure h) hz (by omega) (hE.pure h));have HCE := Lib.hid (fun W (h : Pure w W) => codingsError_calls W vl L CA cc cs (hL.pure h) hb (hC.pure h) hcz (by omega));have HFA := Lib.hid (fun W (h : Pure w W) => families_calls W vi its (hI.pure h) hz (by omega) (hE.pure h));have HSU := Lib.hid (fun W (h : Pure w W) x (hx : x ∈ its) => Sum_calls W x (hz x hx) (hD.pure h) (hE.pure h));obtain ⟨LA, ln, lc, LA2, ln2, lc2, rfl, hLA, hLR⟩ := hL;obtain ⟨IA, inn, ic, rfl⟩ := Sl.form hI
 have hil : its.length = inn := by
  obtain ⟨_, _, _, e, _, _, h, _⟩ := hI
  cases e
  rw [itV_len] at h
  omega
 subst hil;have hal := hLA.len;have hla : L.asks.length ≤ 100 := hb.1;have HLA := Lib.hid hLA
 have HRW : Hid (0 < its.length → ∃ g off, IA = some ⟨g, off, none⟩ ∧ RowAt w 83 g off (itV its)) := Lib.hid (by
  obtain ⟨_, _, _, e, _, _, _, h⟩ := hI
  cases e
  exact h)
 have HC := Lib.hid hC;have HZ := Lib.hid hz;have HCZ := Lib.hid hcz;have HB3 := Lib.hid (Blk.new w 63 #[.slice LA ln lc, .slice LA2 ln2 lc2]);have HP0 := Lib.hid (pure_alloc w (.cells #[.slice LA ln lc, .slice LA2 ln2 lc2] 63));have HQ : Hid (sprE L its cs = if layE L ≠ 0 then layE L else if itsE itemE its ≠ 0 then itsE itemE its else codsE L cs) := Lib.hid rfl;have HLT : Hid (codsE L cs = 0 → cs.Pairwise fun x y => x.item < y.item) := Lib.hid (fun h => codsE_lt h)
 have HRI : Hid (itsE itemE its = 0 → Right its ∧ ∀ x ∈ its, itemE x = 0) := Lib.hid (fun h => ⟨right_items h, fun x hx => by
  unfold itsE at h
  split at h
  ·omega
  split at h
  ·rename_i h1; exact absurd h h1
  ·rename_i h1; exact (ordE_gt (by simpa using h1) x hx).1⟩)
 unfold SpPost;generalize sprE L its cs = q at *;obtain ⟨le, hle⟩ : ∃ le, layE L = le := ⟨_, rfl⟩;obtain ⟨ie, hie⟩ : ∃ ie, itsE itemE its = ie := ⟨_, rfl⟩;obtain ⟨ce, hce⟩ : ∃ ce, codsE L cs = ce := ⟨_, rfl⟩;rw [hle] at HLC HQ;rw [hie] at HIC HQ HRI;rw [hce] at HCE HQ HLT;have HIE := Lib.hid hie;have HTL := Lib.hid (fun x a => sprA_len hcz its x a);clear hLA hLR hI hC hz hcz hb hE hD hle hie hce
 go_enter Tryz.func28, Tryz.ntmps28
 go_upto_region 1 with (fail)
 generalize (w.alloc (.cells #[.slice LA ln lc, .slice LA2 ln2 lc2] 63)) = w1 at *;generalize hg3 : w.heap.size = g3 at *;have hg3a := Nat.le_of_eq hg3;clear hg3;have hB3 := HB3.out;have c0 := hB3.cell 0; have c1 := hB3.cell 1; simp at c0 c1;clear hB3
 go_wp2_with fail
 refine (HLC.out _ HP0.out).mono ?_;rintro e w2 ⟨rfl, hm⟩;have HP1 := Lib.hid (HP0.out.trans hm);have HB1 := Lib.hid (HB3.out.modp hm);clear HLC c0 c1 hm HB3 HP0
 have HF1 : Hid (∀ (W : World) (g : Nat), Blk W g 33 #[.int .i64 le, .int .i64 ie] → Calls Tryz.prog 50 #[.slice (some ⟨g, 0, none⟩) 2 2] W (IntPost W (if le ≠ 0 then le else ie))) := Lib.hid (fun W g h => by
  have := firstE_calls W g 2 [le, ie] h.row0 (by simp)
  rwa [show firstErr [le, ie] = if le ≠ 0 then le else ie from (firstErr2 rfl)] at this)
 go_wp2_with fail
 refine (HIC.out _ HP1.out).mono ?_;rintro e w3 ⟨rfl, hm⟩;have HP2 := Lib.hid (HP1.out.trans hm);have HB2 := Lib.hid (HB1.out.modp hm);clear hm HP1 HB1 HIC;obtain ⟨fe, hfe⟩ : ∃ fe, (if le ≠ 0 then le else ie) = fe := ⟨_, rfl⟩;rw [hfe] at HF1;have HFE := Lib.hid hfe;clear hfe
 go_wp2_with fail
 refine (HF1.out _ _ (Blk.new' rfl)).mono ?_;rintro e w4 ⟨rfl, hm⟩;have HP3 := Lib.hid (HP2.out.trans ((pure_alloc _ _).trans hm));have HB3 := Lib.hid ((HB2.out.alloc _).modp hm);clear hm HP2 HB2 HF1
 by_cases hf0 : fe = 0
 rotate_left
 ·have hf1 : (fe != 0) = true := by simpa using hf0
  have HQ2 : Hid (q = fe) := Lib.hid (by
   have h := HFE.out;rw [HQ.out]
   by_cases h1 : le = 0
   ·rw [if_neg (by simpa using h1)] at h ⊢;rw [if_pos (by rw [h]; exact hf0), h]
   ·rw [if_pos h1] at h ⊢
    exact h)
  clear HFE HQ
  go_wp2_with fail
  try simp only [Exit.inBlock, Exit.then]
  refine bodyPost_ret (v := .tuple #[.slice none 0 0, .int .i64 fe]) (by simp [results, Tryz.results28, go_sem]) rfl ?_;exact ⟨HP3.out, .inl ⟨by rw [HQ2.out]; exact hf0, by rw [HQ2.out]⟩⟩
 subst hf0
 obtain ⟨rfl, rfl⟩ : le = 0 ∧ ie = 0 := by
  have h := HFE.out
  by_cases h1 : le = 0
  ·rw [if_neg (by simpa using h1)] at h; exact ⟨h1, h⟩
  ·rw [if_pos h1] at h; exact absurd h h1
 have HQ2 : Hid (q = ce) := Lib.hid (by rw [HQ.out, if_neg (by simp), if_neg (by simp)]);have hB3 := HB3.out;have c0 := hB3.cell 0; have c1 := hB3.cell 1; simp at c0 c1;clear HFE HQ hB3
 go_wp2_with fail
 refine (HCE.out _ HP3.out).mono ?_;rintro e w5 ⟨rfl, hm⟩;have HP4 := Lib.hid (HP3.out.trans hm);have HB4 := Lib.hid (HB3.out.modp hm);clear hm HP3 HB3 HCE c0 c1
 by_cases hc0 : ce = 0
 rotate_left
 ·have hf1 : (ce != 0) = true := by simpa using hc0
  go_wp2_with fail
  try simp only [Exit.inBlock, Exit.then]
  refine bodyPost_ret (v := .tuple #[.slice none 0 0, .int .i64 ce]) (by simp [results, Tryz.results28, go_sem]) rfl ?_;exact ⟨HP4.out, .inl ⟨by rw [HQ2.out]; exact hc0, by rw [HQ2.out]⟩⟩
 subst hc0;have hlt := HLT.out rfl;have HOC : Hid (∀ s, ownL cs s = ownC cs s) := Lib.hid (fun s => ownL_C s hlt);obtain ⟨hR, hie0⟩ := HRI.out (by first | rfl | trivial);have HRR := Lib.hid hR;have HI0 := Lib.hid hie0;have HQ0 : Hid (q = 0) := HQ2;clear HLT HRI hlt hR hie0 HQ2
 -- own: a map from items to values
 have hmm := @run_makeMap Tryz.prog;have hpm := (pure_alloc w5 (.map #[] 0)).trans (pure_alloc (w5.alloc (.map #[] 0)) (.cells #[.map (some w5.heap.size)] 117));have HMO := Lib.hid ((MapS.made w5).pure (pure_alloc (w5.alloc (.map #[] 0)) (.cells #[.map (some w5.heap.size)] 117)));have HB10 := Lib.hid (Blk.snd w5 (.map #[] 0) 117 #[.map (some w5.heap.size)]);have HP6 := Lib.hid (HP4.out.trans hpm);have HB36 := Lib.hid (HB4.out.modp hpm);have hg3w := HB4.out.lt;have hw5 := HP4.out.size;clear hpm HP4 HB4
 go_upto_region 8 with (fail)
 generalize ((w5.alloc (.map #[] 0)).alloc (.cells #[.map (some w5.heap.size)] 117)) = w6 at *;generalize hg10 : w5.heap.size + 1 = g10 at *;generalize hbo : w5.heap.size = bo at *
 have hbo1 : w.heap.size ≤ bo := by omega
 have hg10a : bo + 1 = g10 := hg10;have hg10b := Nat.le_of_eq hg10;have hg10c := Nat.le_of_eq hg10.symm;clear hg10 hg10a hbo
 go_upto_block 0 with (fail)
 go_cut [] (fun wy => OwnM wy bo cs ∧ Blk wy g10 117 #[.map (some bo)] ∧ Blk wy g3 63 #[.slice LA ln lc, .slice LA2 ln2 lc2] ∧ Pure w wy ∧ w6.heap.size ≤ wy.heap.size)
 case first =>
  clear HFA HSU HLA HRW HZ HRR HI0 HQ0
  go_wp2_with fail
  go_loopg [50] cs.length (fun gk i wr => ∃ (k n : Nat) (V : Str → Option Value), cs.length - k = gk ∧ k ≤ cs.length ∧ i = .int .i64 (k : Int) ∧ n ≤ k ∧ MapS wr bo n V ∧ (∀ s, V s = (ownL (cs.take k) s).map CodR.sl) ∧ Blk wr g10 117 #[.map (some bo)] ∧ Blk wr g3 63 #[.slice LA ln lc, .slice LA2 ln2 lc2] ∧ Pure w wr ∧ w6.heap.size ≤ wr.heap.size)
  case atStart => exact ⟨0, 0, _, by omega, by omega, rfl, by omega, HMO.out, fun s => rfl, HB10.out, HB36.out, HP6.out, Nat.le_refl _⟩
  case round =>
   clear HMO HB10 HB36 HP6;obtain ⟨k, n, V, rfl, hk, rfl, hnk, hM, hV, hB10, hB3, hm, hsz⟩ := hrel
   by_cases hlt : k < cs.length
   ·obtain ⟨g, off, rfl, q0, q1⟩ := (HC.out.pure hm).cells hlt;have HT := Lib.hid (ownL_take hlt);have hcb := (HCZ.out _ (List.getElem_mem hlt)).1;unfold StB at hcb;generalize cs[k] = x at *;obtain ⟨xi, xA, xc, xv⟩ := x;simp only at q0 q1 hcb;have hpa := pure_alloc wr (.cells #[.string ⟨xi.toArray⟩, .slice xA xv.length xc] 76);obtain ⟨w7, hrun, hM7, hm7⟩ := (hM.pure hpa).store (t := 117) (e := 74) Tryz.underlying117 (by omega) xi (by omega) (.slice xA xv.length xc);have hbx := Blk.new wr 76 #[.string ⟨xi.toArray⟩, .slice xA xv.length xc];have hb10 := hB10.modp hpa;have HM7 := Lib.hid hM7;have HB107 := Lib.hid ((hB10.modp hpa).mod hm7 (by omega));have HB37 := Lib.hid ((hB3.modp hpa).mod hm7 (by omega));have HP7 := Lib.hid ((hm.trans hpa).trans' hm7 (fun i hi hlt => by omega));have HSZ : Hid (w6.heap.size ≤ w7.heap.size) := Lib.hid (by have h1 := hm7.size; have h2 := hpa.size; omega);have HV := Lib.hid hV;have x0 := hbx.cell 0; have x1 := hbx.cell 1; simp at x0 x1;have y0 := hb10.cell 0; simp at y0;clear hM hV hB10 hB3 hm hM7 hm7 hbx hb10 hpa
    go_wp2_with fail
    go_roundg (cs.length - (k + 1))
    case measure => omega
    case rel =>
     refine ⟨k + 1, n + 1, _, rfl, by omega, by simp, by omega, HM7.out, fun s => ?_, HB107.out, HB37.out, HP7.out, HSZ.out⟩;rw [HT.out]
     show (if s = xi then some (Value.slice xA xv.length xc) else V s) = _
     by_cases e : s = xi
     ·rw [if_pos e, if_pos e]; rfl
     ·rw [if_neg e, if_neg e, HV.out]
   ·obtain rfl : k = cs.length := by omega
    rw [List.take_of_length_le (Nat.le_refl _)] at hV;have HOM : Hid (OwnM wr bo cs) := Lib.hid ⟨n, V, hM, by omega, fun s => by rw [hV, HOC.out], (HC.out.pure hm).2⟩;have HB107 := Lib.hid hB10;have HB37 := Lib.hid hB3;have HP7 := Lib.hid hm;clear hM hV hB10 hB3 hm
    go_wp2_with fail
    go_meet;exact ⟨HOM.out, HB107.out, HB37.out, HP7.out, hsz⟩
 case rest =>
  obtain ⟨hOM, hB10, hB3, hm, hsz⟩ := hcut;have HOM := Lib.hid hOM;have HB10 := Lib.hid hB10;have HB3 := Lib.hid hB3;have HPC := Lib.hid hm;have hcw := hm.size;have hg10c := hB10.lt;have hg3c := hB3.lt;clear hOM hB10 hB3 hm hsz HOC HC HCZ;have hmm := @run_makeMap Tryz.prog;have hm1 := pure_alloc wc (.map #[] 0);have hm2 := pure_alloc (wc.alloc (.map #[] 0)) (.map #[] 0);have hm3 := pure_alloc ((wc.alloc (.map #[] 0)).alloc (.map #[] 0)) (.map #[] 0);have HMS := Lib.hid (((MapS.made wc).pure hm2).pure hm3);have HMF := Lib.hid ((MapS.made (wc.alloc (.map #[] 0))).pure hm3);have HMM := Lib.hid (MapS.made ((wc.alloc (.map #[] 0)).alloc (.map #[] 0)));have HMD := Lib.hid ((hm1.trans hm2).trans hm3);simp only [World.size_alloc] at HMF HMM
  have hz9 : (((wc.alloc (.map #[] 0)).alloc (.map #[] 0)).alloc (.map #[] 0)).heap.size = wc.heap.size + 3 := by simp
  clear hm1 hm2 hm3
  go_upto_region 15 with (fail)
  generalize (((wc.alloc (.map #[] 0)).alloc (.map #[] 0)).alloc (.map #[] 0)) = w9 at *;obtain ⟨bs, hbs⟩ : ∃ bs, wc.heap.size = bs := ⟨_, rfl⟩;rw [hbs] at hz9 HMS HMF HMM hcw hg10c hg3c ⊢;obtain ⟨bf, hbf⟩ : ∃ bf, bs + 1 = bf := ⟨_, rfl⟩;obtain ⟨bm, hbm⟩ : ∃ bm, bf + 1 = bm := ⟨_, rfl⟩;rw [hbf] at HMF HMM ⊢;rw [hbm] at HMM ⊢;obtain ⟨base, hba⟩ : ∃ base, base = w9.heap.size := ⟨_, rfl⟩;have hbsa := Nat.le_of_eq hbs;have hbsb := Nat.le_of_eq hbs.symm;have hbfa := Nat.le_of_eq hbf;have hbfb := Nat.le_of_eq hbf.symm;have hbma := Nat.le_of_eq hbm;have hbmb := Nat.le_of_eq hbm.symm;have hbaa := Nat.le_of_eq hba;have hbab := Nat.le_of_eq hba.symm;have hz9a := Nat.le_of_eq hz9;have hz9b := Nat.le_of_eq hz9.symm;clear hbs hbf hbm hba hz9
  have HKM : Hid (KidsM w9 base bs 0 0 (fun _ => none) (idsSum (its.take 0)) nilS []) := Lib.hid
   ⟨HMS.out, fun p u h => (by cases h), fun p _ => by simp [idsSum], fun p q u v g _ h => by (cases h), ⟨rfl, .inl ⟨rfl, rfl⟩⟩, fun p u g h => by (cases h), by omega, fun p => by simp [idsSum]⟩
  clear HMS
  -- sums: the ids of the items with a sum; sum: an item's sum
  go_upto_block 2 with (fail)
  go_cut [] (fun wy => (∃ (n : Nat) (V : Str → Option Value), KidsM wy base bs n its.length V (idsSum its) nilS []) ∧ (∃ (n : Nat) (V : Str → Option Value), MapS wy bm n V ∧ n ≤ its.length ∧ ∀ x ∈ its, V x.id = some (.string ⟨(sumS x).toArray⟩)) ∧ MapS wy bf 0 (fun _ => none) ∧ Pure wc wy ∧ w9.heap.size ≤ wy.heap.size)
  case first =>
   clear HFA HLA HQ0 HOM HB10 HB3;have HDI := Lib.hid (HRR.out.distinct);clear HRR
   go_wp2_with fail
   go_loopg [65] its.length (fun gk i wr => ∃ (k n nm : Nat) (V Vm : Str → Option Value), its.length - k = gk ∧ k ≤ its.length ∧ i = .int .i64 (k : Int) ∧ n ≤ k ∧ nm ≤ k ∧ KidsM wr base bs n k V (idsSum (its.take k)) nilS [] ∧ MapS wr bm nm Vm ∧ (∀ j (hj : j < its.length), j < k → Vm its[j].id = some (.string ⟨(sumS its[j]).toArray⟩)) ∧ MapS wr bf 0 (fun _ => none) ∧ Pure wc wr ∧ w9.heap.size ≤ wr.heap.size)
   case atStart => exact ⟨0, 0, 0, _, _, by omega, by omega, rfl, by omega, by omega, HKM.out, HMM.out, fun j hj h => absurd h (by omega), HMF.out, HMD.out, Nat.le_refl _⟩
   case round =>
    clear HKM HMM HMF HMD;obtain ⟨k, n, nm, VS, Vm, rfl, hk, rfl, hnk, hnm, hKM, hMM, hVm, hMF, hm, hsz⟩ := hrel
    by_cases hlt : k < its.length
    ·obtain ⟨gi, oi, rfl, hrow⟩ := HRW.out (by omega);obtain ⟨q0, q1, q2, q3, q4, q5, q6⟩ := item_cells (hrow.mod (HPC.out.trans hm) id) hlt;have HIT := Lib.hid (fun p => idsSum_take hlt p);have HID := Lib.hid (fun j (hj : j < its.length) (h : its[j].id = its[k].id) => id_inj HDI.out hj hlt h);have HX0 := Lib.hid (HI0.out _ (List.getElem_mem hlt));have hxb := (HZ.out _ (List.getElem_mem hlt)).1;have HSM := Lib.hid (fun (W : World) (h : Pure w W) => HSU.out W h its[k] (List.getElem_mem hlt));have HVM := Lib.hid hVm;have HXK : Hid (∀ (P : Itm → Prop), P its[k] → ∀ y, y = its[k] → P y) := Lib.hid (fun P h y e => by rw [e]; exact h);clear hrow hVm HXK;obtain ⟨x, hx⟩ : ∃ x, its[k] = x := ⟨_, rfl⟩;have HXE := Lib.hid hx;rw [hx] at q0 q1 q2 q3 q4 q5 q6 HIT HID HX0 hxb HSM;clear hx;obtain ⟨xid, xcust, xkind, xname, xtm, xpar, xtext⟩ := x;simp only at q0 q1 q2 q3 q4 q5 q6 hxb;obtain ⟨sx, hsx⟩ : ∃ sx, sumS ⟨xid, xcust, xkind, xname, xtm, xpar, xtext⟩ = sx := ⟨_, rfl⟩
     have hsl : sx.length = 16 := by rw [← hsx]; simp [sumS, digS, hexR_len]
     have HSX : Hid (∀ W, Pure w W → Calls Tryz.prog 67 #[.agg #[.string ⟨xid.toArray⟩, .string ⟨xcust.toArray⟩, .int .i64 xkind, .string ⟨xname.toArray⟩, .int .i64 xtm, .string ⟨xpar.toArray⟩, .string ⟨xtext.toArray⟩]] W (fun e W' => e = .returned (.tuple #[.string ⟨sx.toArray⟩, .int .i64 0]) ∧ Pure W W')) := Lib.hid (fun W h => (HSM.out W h).mono (fun e W' hh => by
      obtain ⟨s, e1, e2, e3⟩ := hh;rw [HX0.out, if_pos rfl] at e2;refine ⟨?_, e3⟩
      rw [e1, e2, hsx, HX0.out]))
     have HIT2 : Hid (idsSum (its.take (k + 1)) = fun q => if q = sx then idsSum (its.take k) sx ++ [xid] else idsSum (its.take k) q) := Lib.hid (by
      funext q
      rw [HIT.out q, hsx]
      by_cases e : q = sx
      ·subst e; simp
      ·rw [if_neg e, if_neg (fun h => e h.symm)])
     have HSE := Lib.hid hsx;clear HIT HSM HX0 hsx;have HOW := Lib.hid (fun p j (hj : ((VS p).getD nilS).ownBlock = some j) => own_lt (hKM.at_ p) hj);have hpa := pure_alloc wr (.cells #[.string ⟨xid.toArray⟩, .string ⟨xcust.toArray⟩, .int .i64 xkind, .string ⟨xname.toArray⟩, .int .i64 xtm, .string ⟨xpar.toArray⟩, .string ⟨xtext.toArray⟩] 83);have HB17 := Lib.hid (Blk.new wr 83 #[.string ⟨xid.toArray⟩, .string ⟨xcust.toArray⟩, .int .i64 xkind, .string ⟨xname.toArray⟩, .int .i64 xtm, .string ⟨xpar.toArray⟩, .string ⟨xtext.toArray⟩]);have HK1 := Lib.hid (hKM.pure hpa);have HM1 := Lib.hid (hMM.pure hpa);have HF1 := Lib.hid (hMF.pure hpa);have HMA := Lib.hid (hm.trans hpa)
     have hszA : w9.heap.size ≤ (wr.alloc (.cells #[.string ⟨xid.toArray⟩, .string ⟨xcust.toArray⟩, .int .i64 xkind, .string ⟨xname.toArray⟩, .int .i64 xtm, .string ⟨xpar.toArray⟩, .string ⟨xtext.toArray⟩] 83)).heap.size := by simp; omega
     have hg17 : wr.heap.size < (wr.alloc (.cells #[.string ⟨xid.toArray⟩, .string ⟨xcust.toArray⟩, .int .i64 xkind, .string ⟨xname.toArray⟩, .int .i64 xtm, .string ⟨xpar.toArray⟩, .string ⟨xtext.toArray⟩] 83)).heap.size := by simp
     have hg17b : w9.heap.size ≤ wr.heap.size := hsz;clear hKM hMM hMF hm hpa hsz
     go_upto_region 18 with (fail)
     generalize (wr.alloc (.cells #[.string ⟨xid.toArray⟩, .string ⟨xcust.toArray⟩, .int .i64 xkind, .string ⟨xname.toArray⟩, .int .i64 xtm, .string ⟨xpar.toArray⟩, .string ⟨xtext.toArray⟩] 83)) = wA at *;generalize wr.heap.size = g17 at *;clear q0 q1 q2 q3 q4 q5 q6;have HGs := Lib.hid (show ∀ (D : Nat → Bool) (zzi : Nat) (zq zq' : World), zzi ≠ 8 → (fun D zq => (D 8 = false → (fun Z => MapS Z bm nm Vm) zq) ∧ (fun Z => Blk Z g17 83 #[.string ⟨xid.toArray⟩, .string ⟨xcust.toArray⟩, .int .i64 xkind, .string ⟨xname.toArray⟩, .int .i64 xtm, .string ⟨xpar.toArray⟩, .string ⟨xtext.toArray⟩] ∧ KidsM Z base bs n k VS (idsSum (its.take k)) nilS [] ∧ MapS Z bf 0 (fun _ => none)) zq) D zq → Mod (fun _ => False) zq zq' → (fun D zq => (D 8 = false → (fun Z => MapS Z bm nm Vm) zq) ∧ (fun Z => Blk Z g17 83 #[.string ⟨xid.toArray⟩, .string ⟨xcust.toArray⟩, .int .i64 xkind, .string ⟨xname.toArray⟩, .int .i64 xtm, .string ⟨xpar.toArray⟩, .string ⟨xtext.toArray⟩] ∧ KidsM Z base bs n k VS (idsSum (its.take k)) nilS [] ∧ MapS Z bf 0 (fun _ => none)) zq) (upd D zzi true) zq' from by intro D zzi zq zq' hi hh hm; refine ⟨fun hs => ?_, ?_⟩; (rw [upd_ne _ _ (Ne.symm hi)] at hs; have h := hh.1 hs; (exact h.pure hm)); (have h := hh.2; (exact ⟨h.1.modp hm, h.2.1.pure hm, h.2.2.pure hm⟩)))
     refine wp_region_inv (by kernel_rfl) (by kernel_rfl) (InvF (R := Mod (fun _ => False)) [.is (.map (some bm)),
       .is (.pointer (some ⟨g17, 0, none⟩)),
       .is (.string ⟨xid.toArray⟩),
       .is (.agg #[.string ⟨xid.toArray⟩, .string ⟨xcust.toArray⟩, .int .i64 xkind, .string ⟨xname.toArray⟩, .int .i64 xtm, .string ⟨xpar.toArray⟩, .string ⟨xtext.toArray⟩]),
       .is (.tuple #[.string ⟨sx.toArray⟩, .int .i64 0]),
       .is (.tuple #[.string ⟨sx.toArray⟩, .int .i64 0]),
       .is (.string ⟨sx.toArray⟩),
       .is (.int .i64 0),
       ⟨fun zv zw => zv = undef ∧ MapS zw bm (nm + 1) (fun q => if q = xid then some (.string ⟨sx.toArray⟩) else Vm q), (by rintro zv zw zx ⟨rfl, q0⟩ hm; exact ⟨rfl, (q0.pure hm)⟩), none, none⟩]
       (PB wc (fun _ => False) wA.heap.size (fun D zq => (D 8 = false → (fun Z => MapS Z bm nm Vm) zq) ∧ (fun Z => Blk Z g17 83 #[.string ⟨xid.toArray⟩, .string ⟨xcust.toArray⟩, .int .i64 xkind, .string ⟨xname.toArray⟩, .int .i64 xtm, .string ⟨xpar.toArray⟩, .string ⟨xtext.toArray⟩] ∧ KidsM Z base bs n k VS (idsSum (its.take k)) nilS [] ∧ MapS Z bf 0 (fun _ => none)) zq))) (InvF.start (PB.start HMA.out (Nat.le_refl _) (⟨fun _ => HM1.out.pure ((Mod.refl _ _).drew), ⟨HB17.out.drew, HK1.out.pure ((Mod.refl _ _).drew), HF1.out.pure ((Mod.refl _ _).drew)⟩⟩))) ?_ ?_
     ·refine .cons ?_ (.cons ?_ (.cons ?_ (.cons ?_ (.cons ?_ (.cons ?_ (.cons ?_ (.cons ?_ (.cons ?_ .nil))))))))
      ·intro D V zw1 a hR hI K hK;obtain ⟨hM1, hB1, hG1⟩ := hI.1;obtain ⟨hGK, hG1⟩ := hG1;have ze15 := hR.frame.other (t := 15) (by kernel_rfl) rfl;rw [if_pos (by rfl)];go_simp;exact hK (.map (some bm)) _ (hI.next hR (by kernel_rfl) (Mod.refl _ _) (PB.quiet hI.1 (Mod.refl _ _) (HGs.out D 0 zw1 zw1 (by omega) (hI.1).g (Mod.refl _ _))) (upd_same V 0 _))
      ·intro D V zw1 a hR hI K hK;obtain ⟨hM1, hB1, hG1⟩ := hI.1;obtain ⟨hGK, hG1⟩ := hG1;have ze17 := hR.frame.other (t := 17) (by kernel_rfl) rfl;rw [if_pos (by rfl)];go_simp;exact hK (.pointer (some ⟨g17, 0, none⟩)) _ (hI.next hR (by kernel_rfl) (Mod.refl _ _) (PB.quiet hI.1 (Mod.refl _ _) (HGs.out D 1 zw1 zw1 (by omega) (hI.1).g (Mod.refl _ _))) (upd_same V 1 _))
      ·intro D V zw1 a hR hI K hK;obtain ⟨hM1, hB1, hG1⟩ := hI.1;obtain ⟨hGK, hG1⟩ := hG1;have zd1 := hR.pred 1 (by kernel_rfl);have zf1 : V 1 = .pointer (some ⟨g17, 0, none⟩) := hI.2 1 zd1 rfl;have ze71 := hR.frame.done (t := 71) (j := 1) (by kernel_rfl) hR.ok zd1;have zx0 := hG1.1.cell 0; simp at zx0;rw [if_pos (by rfl)];go_simp;exact hK (.string ⟨xid.toArray⟩) _ (hI.next hR (by kernel_rfl) (Mod.refl _ _) (PB.quiet hI.1 (Mod.refl _ _) (HGs.out D 2 zw1 zw1 (by omega) (hI.1).g (Mod.refl _ _))) (upd_same V 2 _))
      ·intro D V zw1 a hR hI K hK;obtain ⟨hM1, hB1, hG1⟩ := hI.1;obtain ⟨hGK, hG1⟩ := hG1;have ze17 := hR.frame.other (t := 17) (by kernel_rfl) rfl;have zx0 := hG1.1.cell 0; have zx1 := hG1.1.cell 1; have zx2 := hG1.1.cell 2; have zx3 := hG1.1.cell 3; have zx4 := hG1.1.cell 4; have zx5 := hG1.1.cell 5; have zx6 := hG1.1.cell 6;simp at zx0 zx1 zx2 zx3 zx4 zx5 zx6;rw [if_pos (by rfl)];go_simp;exact hK (.agg #[.string ⟨xid.toArray⟩, .string ⟨xcust.toArray⟩, .int .i64 xkind, .string ⟨xname.toArray⟩, .int .i64 xtm, .string ⟨xpar.toArray⟩, .string ⟨xtext.toArray⟩]) _ (hI.next hR (by kernel_rfl) (Mod.refl _ _) (PB.quiet hI.1 (Mod.refl _ _) (HGs.out D 3 zw1 zw1 (by omega) (hI.1).g (Mod.refl _ _))) (upd_same V 3 _))
      ·intro D V zw1 a hR hI K hK;obtain ⟨hM1, hB1, hG1⟩ := hI.1;obtain ⟨hGK, hG1⟩ := hG1;have zd3 := hR.pred 3 (by kernel_rfl);have zf3 : V 3 = .agg #[.string ⟨xid.toArray⟩, .string ⟨xcust.toArray⟩, .int .i64 xkind, .string ⟨xname.toArray⟩, .int .i64 xtm, .string ⟨xpar.toArray⟩, .string ⟨xtext.toArray⟩] := hI.2 3 zd3 rfl;have ze73 := hR.frame.done (t := 73) (j := 3) (by kernel_rfl) hR.ok zd3;rw [if_pos (by rfl)];go_simp;refine (HSX.out _ (HPC.out.trans hM1)).mono ?_;rintro e zw2 ⟨rfl, hm2⟩;exact hK (.tuple #[.string ⟨sx.toArray⟩, .int .i64 0]) _ (hI.next hR (by kernel_rfl) hm2 (PB.quiet hI.1 hm2 (HGs.out D 4 _ _ (by omega) (hI.1).g hm2)) (upd_same V 4 _))
      ·intro D V zw1 a hR hI K hK;obtain ⟨hM1, hB1, hG1⟩ := hI.1;obtain ⟨hGK, hG1⟩ := hG1;have zd4 := hR.pred 4 (by kernel_rfl);have zf4 : V 4 = .tuple #[.string ⟨sx.toArray⟩, .int .i64 0] := hI.2 4 zd4 rfl;have ze74 := hR.frame.done (t := 74) (j := 4) (by kernel_rfl) hR.ok zd4;rw [if_pos (by rfl)];go_simp;exact hK (.tuple #[.string ⟨sx.toArray⟩, .int .i64 0]) _ (hI.next hR (by kernel_rfl) (Mod.refl _ _) (PB.quiet hI.1 (Mod.refl _ _) (HGs.out D 5 zw1 zw1 (by omega) (hI.1).g (Mod.refl _ _))) (upd_same V 5 _))
      ·intro D V zw1 a hR hI K hK;obtain ⟨hM1, hB1, hG1⟩ := hI.1;obtain ⟨hGK, hG1⟩ := hG1;have zd5 := hR.pred 5 (by kernel_rfl);have zf5 : V 5 = .tuple #[.string ⟨sx.toArray⟩, .int .i64 0] := hI.2 5 zd5 rfl;have ze69 := hR.frame.done (t := 69) (j := 5) (by kernel_rfl) hR.ok zd5;rw [if_pos (by rfl)];go_simp;exact hK (.string ⟨sx.toArray⟩) _ (hI.next hR (by kernel_rfl) (Mod.refl _ _) (PB.quiet hI.1 (Mod.refl _ _) (HGs.out D 6 zw1 zw1 (by omega) (hI.1).g (Mod.refl _ _))) (upd_same V 6 _))
      ·intro D V zw1 a hR hI K hK;obtain ⟨hM1, hB1, hG1⟩ := hI.1;obtain ⟨hGK, hG1⟩ := hG1;have zd5 := hR.pred 5 (by kernel_rfl);have zf5 : V 5 = .tuple #[.string ⟨sx.toArray⟩, .int .i64 0] := hI.2 5 zd5 rfl;have ze69 := hR.frame.done (t := 69) (j := 5) (by kernel_rfl) hR.ok zd5;rw [if_pos (by rfl)];go_simp;exact hK (.int .i64 0) _ (hI.next hR (by kernel_rfl) (Mod.refl _ _) (PB.quiet hI.1 (Mod.refl _ _) (HGs.out D 7 zw1 zw1 (by omega) (hI.1).g (Mod.refl _ _))) (upd_same V 7 _))
      ·intro D V zw1 a hR hI K hK;obtain ⟨hM1, hB1, hG1⟩ := hI.1;obtain ⟨hGK, hG1⟩ := hG1;have zd0 := hR.pred 0 (by kernel_rfl);have zf0 : V 0 = .map (some bm) := hI.2 0 zd0 rfl;have zd2 := hR.pred 2 (by kernel_rfl);have zf2 : V 2 = .string ⟨xid.toArray⟩ := hI.2 2 zd2 rfl;have zd6 := hR.pred 6 (by kernel_rfl);have zf6 : V 6 = .string ⟨sx.toArray⟩ := hI.2 6 zd6 rfl;have ze70 := hR.frame.done (t := 70) (j := 0) (by kernel_rfl) hR.ok zd0;have ze72 := hR.frame.done (t := 72) (j := 2) (by kernel_rfl) hR.ok zd2;have ze75 := hR.frame.done (t := 75) (j := 6) (by kernel_rfl) hR.ok zd6;rw [if_pos (by rfl)];obtain ⟨w6, hrun6, hM6, hm6⟩ := (hGK hR.not).store (t := 119) (e := 9) Tryz.underlying119 (by omega) xid (by omega) (.string ⟨sx.toArray⟩);go_simp;refine hK undef _ (InvF.last ⟨hM1.trans' hm6 (fun i hi hlt => by omega), (by have := hm6.size; omega), ⟨fun hs => absurd hs (by rw [upd_same]; decide), ⟨hG1.1.mod hm6 (by omega), hG1.2.1.mod2 hm6 (by omega) (fun g hg => by omega), hG1.2.2.mod hm6 (by omega)⟩⟩⟩ ⟨upd_same _ 8 _, hM6⟩ ?_);intro k hk hDk hlv;have hkl := hR.lt k hDk;have hv := hI.2 k hDk (liveB_of hlv)
       match k, hk, hDk, hlv, hkl, hv with
       | 0, _, _, _, _, hv => exact hv
       | 1, _, _, _, _, hv => exact hv
       | 2, _, _, _, _, hv => exact hv
       | 3, _, _, _, _, hv => exact hv
       | 4, _, _, _, _, hv => exact hv
       | 5, _, _, _, _, hv => exact hv
       | 6, _, _, _, _, hv => exact hv
       | 7, _, _, _, _, hv => exact hv
       | 8, hk, _, _, _, _ => exact absurd rfl hk
       | k + 9, _, _, _, hkl, _ => exact absurd hkl (by simp)
     ·intro D V wB hD hI;obtain ⟨hM1, hB1, hG1⟩ := hI.1;have hMx := hM1;clear hM1;have hBx := hB1;clear hB1;have hGx := hG1.2;clear hG1;have zf0 : V 0 = .map (some bm) := hI.2 0 (hD 0 (by decide)) rfl;have zf1 : V 1 = .pointer (some ⟨g17, 0, none⟩) := hI.2 1 (hD 1 (by decide)) rfl;have zf2 : V 2 = .string ⟨xid.toArray⟩ := hI.2 2 (hD 2 (by decide)) rfl;have zf3 : V 3 = .agg #[.string ⟨xid.toArray⟩, .string ⟨xcust.toArray⟩, .int .i64 xkind, .string ⟨xname.toArray⟩, .int .i64 xtm, .string ⟨xpar.toArray⟩, .string ⟨xtext.toArray⟩] := hI.2 3 (hD 3 (by decide)) rfl;have zf4 : V 4 = .tuple #[.string ⟨sx.toArray⟩, .int .i64 0] := hI.2 4 (hD 4 (by decide)) rfl;have zf5 : V 5 = .tuple #[.string ⟨sx.toArray⟩, .int .i64 0] := hI.2 5 (hD 5 (by decide)) rfl;have zf6 : V 6 = .string ⟨sx.toArray⟩ := hI.2 6 (hD 6 (by decide)) rfl;have zf7 : V 7 = .int .i64 0 := hI.2 7 (hD 7 (by decide)) rfl;have zF8 : V 8 = undef ∧ MapS wB bm (nm + 1) (fun q => if q = xid then some (.string ⟨sx.toArray⟩) else Vm q) := hI.2 8 (hD 8 (by decide)) rfl;obtain ⟨zf8, b8_0⟩ := zF8;clear hI hD HGs;simp only [frAll, Act.put, List.setIfInBounds_toArray, List.set_cons_zero, List.set_cons_succ, Nat.zero_add, Nat.reduceAdd, zf0, zf1, zf2, zf3, zf4, zf5, zf6, zf7, zf8];clear zf0 zf1 zf2 zf3 zf4 zf5 zf6 zf7 zf8;clear V D;have HMM2 := Lib.hid b8_0;have HBB := Lib.hid hGx.1;have HKB := Lib.hid hGx.2.1;have HFB := Lib.hid hGx.2.2;have HMB := Lib.hid hMx;have hbB := hBx;clear b8_0 hGx hMx HB17 HK1 HM1 HF1 HMA HSX;have hownU := HKB.out.at_ sx;obtain ⟨Au, nu, cu, hu⟩ := (Sl.of_own hownU).form;obtain ⟨Fp, hFp⟩ : ∃ Fp, idsSum (its.take k) sx = Fp := ⟨_, rfl⟩;have hfew := HKB.out.few sx;rw [hFp] at hownU hfew;have HFP := Lib.hid hFp
      have hnu : nu = Fp.length := by
       rw [hu] at hownU
       rcases hownU.2 with ⟨h, h0⟩ | ⟨g, cap', cur, h, _⟩
       ·injection h with _ h1 _
        omega
       ·injection h with _ h1 _
      subst hnu;have HU := Lib.hid hu
      have HOL : Hid (∀ j, (Value.slice Au Fp.length cu).ownBlock = some j → j < wB.heap.size) := Lib.hid (fun j hj => by
       have h1 := HKB.out.at_ sx;rw [hu] at h1
       exact own_lt h1 hj)
      have HOG : Hid (∀ j, (Value.slice Au Fp.length cu).ownBlock = some j → j < g17) := Lib.hid (fun j hj => HOW.out sx j (by rw [hu]; exact hj));clear hu hownU hFp HOW;obtain ⟨lf, hlf0⟩ : ∃ lf, Fp.length = lf := ⟨_, rfl⟩;have HLF := Lib.hid hlf0;rw [hlf0] at HU HOL HOG hfew;clear hlf0;obtain ⟨i0, hi0, hz0, hz1, hz2⟩ := info_parts info_str7;have hwcB := HMB.out.size
      go_upto_region 19 with (fail)
      have HGs := Lib.hid (show ∀ (D : Nat → Bool) (zzi : Nat) (zq zq' : World), zzi ≠ 14 → (fun D zq => (D 14 = false → (fun Z => KidsM Z base bs n k VS (idsSum (its.take k)) nilS []) zq) ∧ (fun Z => Blk Z g17 83 #[.string ⟨xid.toArray⟩, .string ⟨xcust.toArray⟩, .int .i64 xkind, .string ⟨xname.toArray⟩, .int .i64 xtm, .string ⟨xpar.toArray⟩, .string ⟨xtext.toArray⟩] ∧ MapS Z bm (nm + 1) (fun q => if q = xid then some (.string ⟨sx.toArray⟩) else Vm q) ∧ MapS Z bf 0 (fun _ => none)) zq) D zq → Mod (fun _ => False) zq zq' → (fun D zq => (D 14 = false → (fun Z => KidsM Z base bs n k VS (idsSum (its.take k)) nilS []) zq) ∧ (fun Z => Blk Z g17 83 #[.string ⟨xid.toArray⟩, .string ⟨xcust.toArray⟩, .int .i64 xkind, .string ⟨xname.toArray⟩, .int .i64 xtm, .string ⟨xpar.toArray⟩, .string ⟨xtext.toArray⟩] ∧ MapS Z bm (nm + 1) (fun q => if q = xid then some (.string ⟨sx.toArray⟩) else Vm q) ∧ MapS Z bf 0 (fun _ => none)) zq) (upd D zzi true) zq' from by intro D zzi zq zq' hi hh hm; refine ⟨fun hs => ?_, ?_⟩; (rw [upd_ne _ _ (Ne.symm hi)] at hs; have h := hh.1 hs; (exact h.pure hm)); (have h := hh.2; (exact ⟨h.1.modp hm, h.2.1.pure hm, h.2.2.pure hm⟩)))
      refine wp_region_inv (by kernel_rfl) (by kernel_rfl) (InvF (R := Mod (fun _ => False)) [.is (.map (some bs)),
        .is (.map (some bm)),
        .is (.pointer (some ⟨g17, 0, none⟩)),
        .is (.string ⟨xid.toArray⟩),
        .is (.string ⟨sx.toArray⟩),
        .is (.map (some bs)),
        .is (.map (some bm)),
        .is (.pointer (some ⟨g17, 0, none⟩)),
        .is (.string ⟨xid.toArray⟩),
        .is (.string ⟨sx.toArray⟩),
        .is (.slice Au lf cu),
        .is (.pointer (some ⟨g17, 0, none⟩)),
        .is (.string ⟨xid.toArray⟩),
        ⟨fun zv zw => ∃ (g_13 : Nat), zv = .slice (some ⟨g_13, 0, none⟩) 1 1 ∧ wB.heap.size ≤ g_13 ∧ Blk zw g_13 9 #[.string ⟨xid.toArray⟩], (by rintro zv zw zx ⟨g_13, rfl, c0, q0⟩ hm; exact ⟨g_13, rfl, c0, (q0.modp hm)⟩), none, some 14⟩,
        ⟨fun zv zw => ∃ (g_14 : Nat) (c_14 : Nat), zv = .slice (some ⟨g_14, 0, none⟩) (lf + 1) c_14 ∧ KidsPre zw base bs n k VS (idsSum (its.take k)) nilS [] sx xid (.slice (some ⟨g_14, 0, none⟩) (lf + 1) c_14), (by rintro zv zw zx ⟨g_14, c_14, rfl, q0⟩ hm; exact ⟨g_14, c_14, rfl, (q0.pure hm)⟩), none, some 15⟩,
        ⟨fun zv zw => zv = undef ∧ KidsEnd zw base bs n k (idsSum (its.take k)) nilS [] sx xid, (by rintro zv zw zx ⟨rfl, q0⟩ hm; exact ⟨rfl, (q0.pure hm)⟩), none, none⟩]
        (PB wc (fun _ => False) wB.heap.size (fun D zq => (D 14 = false → (fun Z => KidsM Z base bs n k VS (idsSum (its.take k)) nilS []) zq) ∧ (fun Z => Blk Z g17 83 #[.string ⟨xid.toArray⟩, .string ⟨xcust.toArray⟩, .int .i64 xkind, .string ⟨xname.toArray⟩, .int .i64 xtm, .string ⟨xpar.toArray⟩, .string ⟨xtext.toArray⟩] ∧ MapS Z bm (nm + 1) (fun q => if q = xid then some (.string ⟨sx.toArray⟩) else Vm q) ∧ MapS Z bf 0 (fun _ => none)) zq))) (InvF.start (PB.start HMB.out (Nat.le_refl _) (⟨fun _ => HKB.out.pure ((Mod.refl _ _).drew), ⟨HBB.out.drew, HMM2.out.pure ((Mod.refl _ _).drew), HFB.out.pure ((Mod.refl _ _).drew)⟩⟩))) ?_ ?_
      ·refine .cons ?_ (.cons ?_ (.cons ?_ (.cons ?_ (.cons ?_ (.cons ?_ (.cons ?_ (.cons ?_ (.cons ?_ (.cons ?_ (.cons ?_ (.cons ?_ (.cons ?_ (.cons ?_ (.cons ?_ (.cons ?_ .nil)))))))))))))))
       ·intro D V zw1 a hR hI K hK;obtain ⟨hM1, hB1, hG1⟩ := hI.1;obtain ⟨hGK, hG1⟩ := hG1;have ze13 := hR.frame.other (t := 13) (by kernel_rfl) rfl;rw [if_pos (by rfl)];go_simp;exact hK (.map (some bs)) _ (hI.next hR (by kernel_rfl) (Mod.refl _ _) (PB.quiet hI.1 (Mod.refl _ _) (HGs.out D 0 zw1 zw1 (by omega) (hI.1).g (Mod.refl _ _))) (upd_same V 0 _))
       ·intro D V zw1 a hR hI K hK;obtain ⟨hM1, hB1, hG1⟩ := hI.1;obtain ⟨hGK, hG1⟩ := hG1;have ze15 := hR.frame.other (t := 15) (by kernel_rfl) rfl;rw [if_pos (by rfl)];go_simp;exact hK (.map (some bm)) _ (hI.next hR (by kernel_rfl) (Mod.refl _ _) (PB.quiet hI.1 (Mod.refl _ _) (HGs.out D 1 zw1 zw1 (by omega) (hI.1).g (Mod.refl _ _))) (upd_same V 1 _))
       ·intro D V zw1 a hR hI K hK;obtain ⟨hM1, hB1, hG1⟩ := hI.1;obtain ⟨hGK, hG1⟩ := hG1;have ze17 := hR.frame.other (t := 17) (by kernel_rfl) rfl;rw [if_pos (by rfl)];go_simp;exact hK (.pointer (some ⟨g17, 0, none⟩)) _ (hI.next hR (by kernel_rfl) (Mod.refl _ _) (PB.quiet hI.1 (Mod.refl _ _) (HGs.out D 2 zw1 zw1 (by omega) (hI.1).g (Mod.refl _ _))) (upd_same V 2 _))
       ·intro D V zw1 a hR hI K hK;obtain ⟨hM1, hB1, hG1⟩ := hI.1;obtain ⟨hGK, hG1⟩ := hG1;have zd2 := hR.pred 2 (by kernel_rfl);have zf2 : V 2 = .pointer (some ⟨g17, 0, none⟩) := hI.2 2 zd2 rfl;have ze79 := hR.frame.done (t := 79) (j := 2) (by kernel_rfl) hR.ok zd2;have zx0 := hG1.1.cell 0; simp at zx0;rw [if_pos (by rfl)];go_simp;exact hK (.string ⟨xid.toArray⟩) _ (hI.next hR (by kernel_rfl) (Mod.refl _ _) (PB.quiet hI.1 (Mod.refl _ _) (HGs.out D 3 zw1 zw1 (by omega) (hI.1).g (Mod.refl _ _))) (upd_same V 3 _))
       ·intro D V zw1 a hR hI K hK;obtain ⟨hM1, hB1, hG1⟩ := hI.1;obtain ⟨hGK, hG1⟩ := hG1;have zd1 := hR.pred 1 (by kernel_rfl);have zf1 : V 1 = .map (some bm) := hI.2 1 zd1 rfl;have zd3 := hR.pred 3 (by kernel_rfl);have zf3 : V 3 = .string ⟨xid.toArray⟩ := hI.2 3 zd3 rfl;have ze78 := hR.frame.done (t := 78) (j := 1) (by kernel_rfl) hR.ok zd1;have ze80 := hR.frame.done (t := 80) (j := 3) (by kernel_rfl) hR.ok zd3;have hrun := hG1.2.1.lookup (t := 119) (e := 9) Tryz.underlying119 zero_strg xid (by omega);rw [if_pos rfl] at hrun;rw [if_pos (by rfl)];go_simp;exact hK (.string ⟨sx.toArray⟩) _ (hI.next hR (by kernel_rfl) (Mod.refl _ _) (PB.quiet hI.1 (Mod.refl _ _) (HGs.out D 4 zw1 zw1 (by omega) (hI.1).g (Mod.refl _ _))) (upd_same V 4 _))
       ·intro D V zw1 a hR hI K hK;obtain ⟨hM1, hB1, hG1⟩ := hI.1;obtain ⟨hGK, hG1⟩ := hG1;have ze13 := hR.frame.other (t := 13) (by kernel_rfl) rfl;rw [if_pos (by rfl)];go_simp;exact hK (.map (some bs)) _ (hI.next hR (by kernel_rfl) (Mod.refl _ _) (PB.quiet hI.1 (Mod.refl _ _) (HGs.out D 5 zw1 zw1 (by omega) (hI.1).g (Mod.refl _ _))) (upd_same V 5 _))
       ·intro D V zw1 a hR hI K hK;obtain ⟨hM1, hB1, hG1⟩ := hI.1;obtain ⟨hGK, hG1⟩ := hG1;have ze15 := hR.frame.other (t := 15) (by kernel_rfl) rfl;rw [if_pos (by rfl)];go_simp;exact hK (.map (some bm)) _ (hI.next hR (by kernel_rfl) (Mod.refl _ _) (PB.quiet hI.1 (Mod.refl _ _) (HGs.out D 6 zw1 zw1 (by omega) (hI.1).g (Mod.refl _ _))) (upd_same V 6 _))
       ·intro D V zw1 a hR hI K hK;obtain ⟨hM1, hB1, hG1⟩ := hI.1;obtain ⟨hGK, hG1⟩ := hG1;have ze17 := hR.frame.other (t := 17) (by kernel_rfl) rfl;rw [if_pos (by rfl)];go_simp;exact hK (.pointer (some ⟨g17, 0, none⟩)) _ (hI.next hR (by kernel_rfl) (Mod.refl _ _) (PB.quiet hI.1 (Mod.refl _ _) (HGs.out D 7 zw1 zw1 (by omega) (hI.1).g (Mod.refl _ _))) (upd_same V 7 _))
       ·intro D V zw1 a hR hI K hK;obtain ⟨hM1, hB1, hG1⟩ := hI.1;obtain ⟨hGK, hG1⟩ := hG1;have zd7 := hR.pred 7 (by kernel_rfl);have zf7 : V 7 = .pointer (some ⟨g17, 0, none⟩) := hI.2 7 zd7 rfl;have ze84 := hR.frame.done (t := 84) (j := 7) (by kernel_rfl) hR.ok zd7;have zx0 := hG1.1.cell 0; simp at zx0;rw [if_pos (by rfl)];go_simp;exact hK (.string ⟨xid.toArray⟩) _ (hI.next hR (by kernel_rfl) (Mod.refl _ _) (PB.quiet hI.1 (Mod.refl _ _) (HGs.out D 8 zw1 zw1 (by omega) (hI.1).g (Mod.refl _ _))) (upd_same V 8 _))
       ·intro D V zw1 a hR hI K hK;obtain ⟨hM1, hB1, hG1⟩ := hI.1;obtain ⟨hGK, hG1⟩ := hG1;have zd6 := hR.pred 6 (by kernel_rfl);have zf6 : V 6 = .map (some bm) := hI.2 6 zd6 rfl;have zd8 := hR.pred 8 (by kernel_rfl);have zf8 : V 8 = .string ⟨xid.toArray⟩ := hI.2 8 zd8 rfl;have ze83 := hR.frame.done (t := 83) (j := 6) (by kernel_rfl) hR.ok zd6;have ze85 := hR.frame.done (t := 85) (j := 8) (by kernel_rfl) hR.ok zd8;have hrun := hG1.2.1.lookup (t := 119) (e := 9) Tryz.underlying119 zero_strg xid (by omega);rw [if_pos rfl] at hrun;rw [if_pos (by rfl)];go_simp;exact hK (.string ⟨sx.toArray⟩) _ (hI.next hR (by kernel_rfl) (Mod.refl _ _) (PB.quiet hI.1 (Mod.refl _ _) (HGs.out D 9 zw1 zw1 (by omega) (hI.1).g (Mod.refl _ _))) (upd_same V 9 _))
       ·intro D V zw1 a hR hI K hK;obtain ⟨hM1, hB1, hG1⟩ := hI.1;obtain ⟨hGK, hG1⟩ := hG1;have zd5 := hR.pred 5 (by kernel_rfl);have zf5 : V 5 = .map (some bs) := hI.2 5 zd5 rfl;have zd9 := hR.pred 9 (by kernel_rfl);have zf9 : V 9 = .string ⟨sx.toArray⟩ := hI.2 9 zd9 rfl;have ze82 := hR.frame.done (t := 82) (j := 5) (by kernel_rfl) hR.ok zd5;have ze86 := hR.frame.done (t := 86) (j := 9) (by kernel_rfl) hR.ok zd9;have hK8 := hGK (hR.later 14 rfl (by kernel_rfl));have hrun := hK8.map.lookup (t := 118) (e := 29) Tryz.underlying118 zero_strs sx (by omega);rw [HU.out] at hrun;rw [if_pos (by rfl)];go_simp;exact hK (.slice Au lf cu) _ (hI.next hR (by kernel_rfl) (Mod.refl _ _) (PB.quiet hI.1 (Mod.refl _ _) (HGs.out D 10 zw1 zw1 (by omega) (hI.1).g (Mod.refl _ _))) (upd_same V 10 _))
       ·intro D V zw1 a hR hI K hK;obtain ⟨hM1, hB1, hG1⟩ := hI.1;obtain ⟨hGK, hG1⟩ := hG1;have ze17 := hR.frame.other (t := 17) (by kernel_rfl) rfl;rw [if_pos (by rfl)];go_simp;exact hK (.pointer (some ⟨g17, 0, none⟩)) _ (hI.next hR (by kernel_rfl) (Mod.refl _ _) (PB.quiet hI.1 (Mod.refl _ _) (HGs.out D 11 zw1 zw1 (by omega) (hI.1).g (Mod.refl _ _))) (upd_same V 11 _))
       ·intro D V zw1 a hR hI K hK;obtain ⟨hM1, hB1, hG1⟩ := hI.1;obtain ⟨hGK, hG1⟩ := hG1;have zd11 := hR.pred 11 (by kernel_rfl);have zf11 : V 11 = .pointer (some ⟨g17, 0, none⟩) := hI.2 11 zd11 rfl;have ze88 := hR.frame.done (t := 88) (j := 11) (by kernel_rfl) hR.ok zd11;have zx0 := hG1.1.cell 0; simp at zx0;rw [if_pos (by rfl)];go_simp;exact hK (.string ⟨xid.toArray⟩) _ (hI.next hR (by kernel_rfl) (Mod.refl _ _) (PB.quiet hI.1 (Mod.refl _ _) (HGs.out D 12 zw1 zw1 (by omega) (hI.1).g (Mod.refl _ _))) (upd_same V 12 _))
       ·intro D V zw1 a hR hI K hK;obtain ⟨hM1, hB1, hG1⟩ := hI.1;obtain ⟨hGK, hG1⟩ := hG1;have zd12 := hR.pred 12 (by kernel_rfl);have zf12 : V 12 = .string ⟨xid.toArray⟩ := hI.2 12 zd12 rfl;have ze89 := hR.frame.done (t := 89) (j := 12) (by kernel_rfl) hR.ok zd12;rw [if_pos (by rfl)];go_simp;exact hK (_) _ (hI.next hR (by kernel_rfl) ((Mod.refl _ _).alloc _) (PB.quiet hI.1 (pure_alloc _ _) (HGs.out D 13 _ _ (by omega) (hI.1).g ((Mod.refl _ _).alloc _))) (⟨_, upd_same V 13 _, (by omega), (Blk.new _ _ _)⟩))
       ·intro D V zw1 a hR hI K hK;obtain ⟨hM1, hB1, hG1⟩ := hI.1;obtain ⟨hGK, hG1⟩ := hG1;have zd10 := hR.pred 10 (by kernel_rfl);have zf10 : V 10 = .slice Au lf cu := hI.2 10 zd10 rfl;have zd13 := hR.pred 13 (by kernel_rfl);have zF13 : ∃ (g_13 : Nat), V 13 = .slice (some ⟨g_13, 0, none⟩) 1 1 ∧ wB.heap.size ≤ g_13 ∧ Blk zw1 g_13 9 #[.string ⟨xid.toArray⟩] := hI.2 13 zd13 (by show (!D 14) = true; rw [hR.not]; rfl);obtain ⟨g_13, zf13, c13_0, b13_0⟩ := zF13;have ze87 := hR.frame.done (t := 87) (j := 10) (by kernel_rfl) hR.ok zd10;have ze90 := hR.frame.done (t := 90) (j := 13) (by kernel_rfl) hR.ok zd13;rw [if_pos (by rfl)];have hown := kids_own (hGK hR.not) HU.out HFP.out HLF.out;refine wp_append_lies _ (.tmp 87) (.tmp 90) 29 (by rfl) base 9 i0 _ 1 16 Tryz.underlying29 hi0 hz0 hz1 hz2 (by rfl) (by omega) (.slice Au lf cu) (lf) (strsV Fp) ?_ hown ⟨g_13, 0, none⟩ 1 1 [.string ⟨xid.toArray⟩] ?_ (by rfl) (World.news_of_block (cs := #[.string ⟨xid.toArray⟩]) (t := 9) (fr := (0, 0)) b13_0) (by simp [Value.oneCell']) (by omega) (by simp [maxLen]; omega) (by omega) (by omega) zw1.heap.size rfl ?_
        ·show a.tmps.getD 87 undef = _; simp [ze87, zf10]
        ·show a.tmps.getD 90 undef = _; simp [ze90, zf13]
        intro g5 cap5 zw2 hown5 hgrow hat hlt5;have hT := mod_grown hgrow;have hTb : ∀ j, (.slice Au lf cu : Value).ownBlock = some j → base ≤ j := own_block hown;have hTl : ∀ j, (.slice Au lf cu : Value).ownBlock = some j → j < wB.heap.size := HOL.out;refine hK _ _ (InvF.last (PB.writes hI.1 (fun j hj hl => by have := hTb j hj; omega) hT ⟨fun hs => absurd hs (by rw [upd_same]; decide), ⟨hG1.1.mod hT (fun h => by have := HOG.out _ h; omega), hG1.2.1.mod hT (fun h => by have := hTb _ h; omega), hG1.2.2.mod hT (fun h => by have := hTb _ h; omega)⟩⟩) ⟨_, _, upd_same V 14 _, kidsPre_mk (hGK hR.not) HU.out HFP.out hgrow hown5 hat⟩ ?_);intro k hk hDk hlv;have hkl := hR.lt k hDk;have hv := hI.2 k hDk (liveB_of hlv)
        match k, hk, hDk, hlv, hkl, hv with
        | 0, _, _, _, _, hv => exact hv
        | 1, _, _, _, _, hv => exact hv
        | 2, _, _, _, _, hv => exact hv
        | 3, _, _, _, _, hv => exact hv
        | 4, _, _, _, _, hv => exact hv
        | 5, _, _, _, _, hv => exact hv
        | 6, _, _, _, _, hv => exact hv
        | 7, _, _, _, _, hv => exact hv
        | 8, _, _, _, _, hv => exact hv
        | 9, _, _, _, _, hv => exact hv
        | 10, _, _, _, _, hv => exact hv
        | 11, _, _, _, _, hv => exact hv
        | 12, _, _, _, _, hv => exact hv
        | 13, _, _, hlv, _, _ => exact absurd hlv (by show ¬ (!upd D 14 true 14) = true; rw [upd_same]; decide)
        | 14, hk, _, _, _, _ => exact absurd rfl hk
        | 15, _, hDk, _, _, _ => exact absurd hDk (by rw [hR.later 15 rfl (by kernel_rfl)]; decide)
        | k + 16, _, _, _, hkl, _ => exact absurd hkl (by simp)
       ·intro D V zw1 a hR hI K hK;obtain ⟨hM1, hB1, hG1⟩ := hI.1;obtain ⟨hGK, hG1⟩ := hG1;have zd0 := hR.pred 0 (by kernel_rfl);have zf0 : V 0 = .map (some bs) := hI.2 0 zd0 rfl;have zd4 := hR.pred 4 (by kernel_rfl);have zf4 : V 4 = .string ⟨sx.toArray⟩ := hI.2 4 zd4 rfl;have zd14 := hR.pred 14 (by kernel_rfl);have zF14 : ∃ (g_14 : Nat) (c_14 : Nat), V 14 = .slice (some ⟨g_14, 0, none⟩) (lf + 1) c_14 ∧ KidsPre zw1 base bs n k VS (idsSum (its.take k)) nilS [] sx xid (.slice (some ⟨g_14, 0, none⟩) (lf + 1) c_14) := hI.2 14 zd14 (by show (!D 15) = true; rw [hR.not]; rfl);obtain ⟨g_14, c_14, zf14, b14_0⟩ := zF14;have ze77 := hR.frame.done (t := 77) (j := 0) (by kernel_rfl) hR.ok zd0;have ze81 := hR.frame.done (t := 81) (j := 4) (by kernel_rfl) hR.ok zd4;have ze91 := hR.frame.done (t := 91) (j := 14) (by kernel_rfl) hR.ok zd14;rw [if_pos (by rfl)];obtain ⟨w6, hrun6, hE6, hm6⟩ := b14_0.store (by omega) (by omega);go_simp;refine hK undef _ (InvF.last ⟨hM1.trans' hm6 (fun i hi hlt => by omega), (by have := hm6.size; omega), ⟨fun hs => absurd hs (by rw [upd_ne _ _ (by omega), hR.pred 14 (by kernel_rfl)]; decide), ⟨hG1.1.mod hm6 (by omega), hG1.2.1.mod hm6 (by omega), hG1.2.2.mod hm6 (by omega)⟩⟩⟩ ⟨upd_same _ 15 _, hE6⟩ ?_);intro k hk hDk hlv;have hkl := hR.lt k hDk;have hv := hI.2 k hDk (liveB_of hlv)
        match k, hk, hDk, hlv, hkl, hv with
        | 0, _, _, _, _, hv => exact hv
        | 1, _, _, _, _, hv => exact hv
        | 2, _, _, _, _, hv => exact hv
        | 3, _, _, _, _, hv => exact hv
        | 4, _, _, _, _, hv => exact hv
        | 5, _, _, _, _, hv => exact hv
        | 6, _, _, _, _, hv => exact hv
        | 7, _, _, _, _, hv => exact hv
        | 8, _, _, _, _, hv => exact hv
        | 9, _, _, _, _, hv => exact hv
        | 10, _, _, _, _, hv => exact hv
        | 11, _, _, _, _, hv => exact hv
        | 12, _, _, _, _, hv => exact hv
        | 13, _, _, hlv, _, _ => exact absurd hlv (by show ¬ (!upd D 15 true 14) = true; rw [upd_ne _ _ (by omega), hR.pred 14 (by kernel_rfl)]; decide)
        | 14, _, _, hlv, _, _ => exact absurd hlv (by show ¬ (!upd D 15 true 15) = true; rw [upd_same]; decide)
        | 15, hk, _, _, _, _ => exact absurd rfl hk
        | k + 16, _, _, _, hkl, _ => exact absurd hkl (by simp)
      ·intro D V wC hD hI;obtain ⟨hM1, hB1, hG1⟩ := hI.1;have hMx := hM1;clear hM1;have hBx := hB1;clear hB1;have hGx := hG1.2;clear hG1;have zf0 : V 0 = .map (some bs) := hI.2 0 (hD 0 (by decide)) rfl;have zf1 : V 1 = .map (some bm) := hI.2 1 (hD 1 (by decide)) rfl;have zf2 : V 2 = .pointer (some ⟨g17, 0, none⟩) := hI.2 2 (hD 2 (by decide)) rfl;have zf3 : V 3 = .string ⟨xid.toArray⟩ := hI.2 3 (hD 3 (by decide)) rfl;have zf4 : V 4 = .string ⟨sx.toArray⟩ := hI.2 4 (hD 4 (by decide)) rfl;have zf5 : V 5 = .map (some bs) := hI.2 5 (hD 5 (by decide)) rfl;have zf6 : V 6 = .map (some bm) := hI.2 6 (hD 6 (by decide)) rfl;have zf7 : V 7 = .pointer (some ⟨g17, 0, none⟩) := hI.2 7 (hD 7 (by decide)) rfl;have zf8 : V 8 = .string ⟨xid.toArray⟩ := hI.2 8 (hD 8 (by decide)) rfl;have zf9 : V 9 = .string ⟨sx.toArray⟩ := hI.2 9 (hD 9 (by decide)) rfl;have zf10 : V 10 = .slice Au lf cu := hI.2 10 (hD 10 (by decide)) rfl;have zf11 : V 11 = .pointer (some ⟨g17, 0, none⟩) := hI.2 11 (hD 11 (by decide)) rfl;have zf12 : V 12 = .string ⟨xid.toArray⟩ := hI.2 12 (hD 12 (by decide)) rfl;have zF15 : V 15 = undef ∧ KidsEnd wC base bs n k (idsSum (its.take k)) nilS [] sx xid := hI.2 15 (hD 15 (by decide)) rfl;obtain ⟨zf15, b15_0⟩ := zF15;clear hI hD HGs;simp only [frAll, Act.put, List.setIfInBounds_toArray, List.set_cons_zero, List.set_cons_succ, Nat.zero_add, Nat.reduceAdd, zf0, zf1, zf2, zf3, zf4, zf5, zf6, zf7, zf8, zf9, zf10, zf11, zf12, zf15];clear zf0 zf1 zf2 zf3 zf4 zf5 zf6 zf7 zf8 zf9 zf10 zf11 zf12 zf15;generalize V 13 = u13;generalize V 14 = u14;clear V D;obtain ⟨V', hKE⟩ := b15_0;have HKE := Lib.hid hKE;have HMC := Lib.hid hGx.2.1;have HFC := Lib.hid hGx.2.2;have HPX := Lib.hid hMx;have hszC := hBx;clear hKE hGx hMx HBB HKB HFB HMB HMM2
       go_wp2_with fail
       go_roundg (its.length - (k + 1))
       case measure => omega
       case rel =>
        refine ⟨k + 1, n + 1, nm + 1, V', _, rfl, by omega, by simp, by omega, by omega, by rw [HIT2.out]; exact HKE.out, HMC.out, fun j hj hjk => ?_, HFC.out, HPX.out, by omega⟩
        show (if its[j].id = xid then some (Value.string ⟨sx.toArray⟩) else Vm its[j].id) = _
        by_cases e : its[j].id = xid
        ·obtain rfl := HID.out j hj e;rw [if_pos e, HXE.out, HSE.out]
        ·rw [if_neg e];refine HVM.out j hj ?_
         rcases Nat.lt_or_ge j k with h | h
         ·exact h
         ·obtain rfl : j = k := by omega
          exact absurd (by rw [HXE.out]) e
    ·obtain rfl : k = its.length := by omega
     rw [List.take_of_length_le (Nat.le_refl _)] at hKM;have HK9 := Lib.hid hKM;have HM9 := Lib.hid hMM;have HV9 := Lib.hid hVm;have HF9 := Lib.hid hMF;have HP9 := Lib.hid hm;clear hKM hMM hVm hMF hm
     go_wp2_with fail
     go_meet;refine ⟨⟨n, VS, HK9.out⟩, ⟨nm, Vm, HM9.out, hnm, fun x hx => ?_⟩, HF9.out, HP9.out, hsz⟩;obtain ⟨j, hj, rfl⟩ := List.getElem_of_mem hx;exact HV9.out j hj hj
  case rest =>
   obtain ⟨⟨nK, VK, hKM⟩, ⟨nM, VM, hMM, hnM, hVM⟩, hMF, hmd, hsz⟩ := hcut;have HVM := Lib.hid hVM;have HKD := Lib.hid hKM;have HMD2 := Lib.hid hMM;have HFD := Lib.hid hMF;have HOD := Lib.hid (HOM.out.pure hmd);have HB10D := Lib.hid (HB10.out.modp hmd);have HB3D := Lib.hid (HB3.out.modp hmd);have HPD := Lib.hid (HPC.out.trans hmd);clear hVM hKM hMM hMF hmd HOM HB10 HB3 HPC HSU HKM HMM HMF HMD
   go_wp2_with fail
   refine (HFA.out _ HPD.out).mono ?_;rintro e wf ⟨vf, rfl, _, hfs, hmf⟩;obtain ⟨fs, hF, hfe⟩ := hfs HIE.out;have HFE := Lib.hid hfe;have HSD : Hid (SpD w wf base bs bf bm bo g10 g3 nK nM its.length VK VM its cs fs vf #[.slice LA ln lc, .slice LA2 ln2 lc2] []) := Lib.hid ⟨HKD.out.pure hmf, HMD2.out.pure hmf, hF, BfM.start (HFD.out.pure hmf), HOD.out.pure hmf, HB10D.out.modp hmf, HB3D.out.modp hmf, HPD.out.trans hmf, by have := hmf.size; omega⟩;obtain ⟨Af, nf, cf, rfl⟩ := hF.1.form;have hnf := hF.len.1;subst hnf
   have HDL : Hid (∀ (k m : Nat) (h : k < fs.length), (fmD (fs.take k) ++ fs[k].2.2.take m).length ≤ 1000000) := Lib.hid (fun k m h => by
    have h1 := fmD_pre (fs := fs) (k := k) (m := m) h;have h2 := fmD_len HFE.out HRR.out
    omega)
   have HSL : Hid (∀ (k m : Nat) (h : k < fs.length) (hm : m < fs[k].2.2.length), fs[k].2.2[m].length ≤ 1000000) := Lib.hid (fun k m h hm => by
    have h1 : fs[k].2.2[m] ∈ fmD fs := List.mem_flatMap.2 ⟨fs[k], List.getElem_mem h, List.getElem_mem hm⟩;obtain ⟨x, hx, e⟩ := fmD_mem HFE.out h1;have := (HZ.out x hx).1;rw [← e]
    omega)
   have hfl : fs.length ≤ 9223372036854775807 := hF.len.2;rw [HIE.out];clear hF hfe hfs hmf HKD HMD2 HFD HOD HB10D HB3D HPD HFA
   go_upto_block 4 with (fail)
   go_cut [] (fun wy => SpD w wy base bs bf bm bo g10 g3 nK nM its.length VK VM its cs fs (.slice Af fs.length cf) #[.slice LA ln lc, .slice LA2 ln2 lc2] (fmD fs))
   case first =>
    clear HLA HRW HZ HRR HI0 HQ0 HVM
    go_wp2_with fail
    go_loopg [100] fs.length (fun gk i wr => ∃ k : Nat, fs.length - k = gk ∧ k ≤ fs.length ∧ i = .int .i64 (k : Int) ∧ SpD w wr base bs bf bm bo g10 g3 nK nM its.length VK VM its cs fs (.slice Af fs.length cf) #[.slice LA ln lc, .slice LA2 ln2 lc2] (fmD (fs.take k)))
    case atStart => exact ⟨0, by omega, by omega, rfl, HSD.out⟩
    case round =>
     clear HSD;obtain ⟨k, rfl, hk, rfl, hS⟩ := hrel
     by_cases hlt : k < fs.length
     ·obtain ⟨gf, of, B, m, d, rfl, p1, p2, hpe, s1⟩ := hS.fam.at hlt
      have hml : fs[k].2.2.length = m ∧ m ≤ 9223372036854775807 := by
       obtain ⟨_, _, _, he, h1, h2, hl, _⟩ := s1
       cases he
       simp [strsV] at hl
       omega
      obtain ⟨hml, hmb⟩ := hml;subst hml;have hpa := pure_alloc wr (.cells #[.string ⟨fs[k].1.toArray⟩, .slice B fs[k].2.2.length d] 92);have HS1 := Lib.hid (hS.pure' hpa);have HB21 := Lib.hid (Blk.new wr 92 #[.string ⟨fs[k].1.toArray⟩, .slice B fs[k].2.2.length d]);have HPE := Lib.hid hpe;have hb21 := HB21.out;have hg21 : base ≤ wr.heap.size := hS.size;have HDK := Lib.hid (fun m => HDL.out k m hlt);have HSK := Lib.hid (fun m hm => HSL.out k m hlt hm);have HTK := Lib.hid (fmD_take hlt);have HPM := Lib.hid (List.getElem_mem hlt);have HAT := Lib.hid (fun (W : World) (h : FmR W (.slice (some ⟨gf, of, none⟩) fs.length cf) fs) => h.at hlt);have x0 := hb21.cell 0; have x1 := hb21.cell 1; simp at x0 x1;clear hS s1 hpe hpa hb21;generalize fs[k] = p at *;obtain ⟨pa, pv, ids⟩ := p;simp only at hmb p1 p2 x0 x1;obtain rfl : pv = .slice B ids.length d := HPE.out
      go_wp2_with fail
      generalize (wr.alloc (.cells #[.string ⟨pa.toArray⟩, .slice B ids.length d] 92)) = wA at *;generalize wr.heap.size = g21 at *
      go_loopg [107] ids.length (fun gk i wr => ∃ j : Nat, ids.length - j = gk ∧ j ≤ ids.length ∧ i = .int .i64 (j : Int) ∧ SpD w wr base bs bf bm bo g10 g3 nK nM its.length VK VM its cs fs (.slice (some ⟨gf, of, none⟩) fs.length cf) #[.slice LA ln lc, .slice LA2 ln2 lc2] (fmD (fs.take k) ++ ids.take j) ∧ Blk wr g21 92 #[.string ⟨pa.toArray⟩, .slice B ids.length d])
      case atStart => exact ⟨0, by omega, by omega, rfl, by rw [List.take_zero, List.append_nil]; exact HS1.out, HB21.out⟩
      case round =>
       clear HS1 HB21 x0 x1;obtain ⟨j, rfl, hj, rfl, hS, hB⟩ := hrel
       by_cases hlj : j < ids.length
       ·obtain ⟨_, _, B', m', d', _, _, _, hpe', s1⟩ := HAT.out wr hS.fam;rw [← hpe'] at s1;obtain ⟨_, _, _, he, _, _, _, hr⟩ := s1
        cases he
        obtain ⟨gs, os, rfl, hrow⟩ := hr (by omega);have hq := hrow.cell (strsV_get ids j hlj);obtain ⟨w7, hrun, hS7, hm7⟩ := hS.store (HDK.out j) HPM.out (s := ids[j]) (List.getElem_mem hlj) (HSK.out j hlj) (by omega) (by omega) (by omega) (by omega) (by omega) (by omega) (by omega);replace hrun : (Instr.mapUpdate 118 (.map (some bf)) (.string ⟨ids[j].toArray⟩) (.slice (some ⟨gs, os, none⟩) ids.length d)).run Tryz.prog wr = .ok () w7 := hrun;have HT : Hid (fmD (fs.take k) ++ ids.take (j + 1) = fmD (fs.take k) ++ ids.take j ++ [ids[j]]) := Lib.hid (by rw [List.take_succ_eq_append_getElem hlj, List.append_assoc]);have HS7 := Lib.hid hS7;have HB7 := Lib.hid (hB.mod hm7 (by omega));have y0 := hB.cell 0; have y1 := hB.cell 1; simp at y0 y1;clear hS hpe' hr hrow hS7 hm7 hB;generalize ids[j] = s at *
        go_wp2_with fail
        go_roundg (ids.length - (j + 1))
        case measure => omega
        case rel => exact ⟨j + 1, rfl, by omega, by simp, by rw [HT.out]; exact HS7.out, HB7.out⟩
       ·obtain rfl : j = ids.length := by omega
        rw [List.take_of_length_le (Nat.le_refl _)] at hS;have HS7 : Hid (SpD w wr base bs bf bm bo g10 g3 nK nM its.length VK VM its cs fs (.slice (some ⟨gf, of, none⟩) fs.length cf) #[.slice LA ln lc, .slice LA2 ln2 lc2] (fmD (fs.take (k + 1)))) := Lib.hid (by rw [HTK.out]; exact hS);clear hS hB
        go_wp2_with fail
        go_roundg (fs.length - (k + 1))
        case measure => omega
        case rel => exact ⟨k + 1, rfl, by omega, by simp, HS7.out⟩
     ·obtain rfl : k = fs.length := by omega
      rw [List.take_of_length_le (Nat.le_refl _)] at hS;have HS9 := Lib.hid hS;clear hS
      go_wp2_with fail
      go_meet;exact HS9.out
   case rest =>
    have HSP := Lib.hid hcut;have hwc : base ≤ wc.heap.size := hcut.size;have hcw2 := hcut.pure.size;have hg3w2 := hcut.b3.lt;have hg10w2 := hcut.b10.lt;clear hcut HSD HDL HSL;obtain ⟨bc, hbc⟩ : ∃ bc, bc = wc.heap.size := ⟨_, rfl⟩;have hbc1 := Nat.le_of_eq hbc;have hbc2 := Nat.le_of_eq hbc.symm;clear hbc
    go_wp2_with fail
    go_loopg [120, 25] its.length (fun gk i v wr => ∃ (k cap : Nat) (A : Option Addr) (xs : List CodR), its.length - k = gk ∧ k ≤ its.length ∧ i = .int .i64 (k : Int) ∧ v = .slice A xs.length cap ∧ xs.length ≤ k ∧ CdR wr bc A cap xs (sprS cs its L.asks (its.take k)) ∧ Pure wc wr ∧ bc ≤ wr.heap.size)
    case atStart => exact ⟨0, 0, none, [], by omega, by omega, rfl, rfl, by simp, ⟨World.ownsRow_nil _ _ _ _, fun x h => absurd h (by simp), rfl⟩, Mod.refl _ _, by omega⟩
    case round =>
     obtain ⟨k, cap, A, xs, rfl, hk, rfl, rfl, hxk, hCd, hm, hbw⟩ := hrel
     by_cases hlt : k < its.length
     ·obtain ⟨gi, oi, rfl, hrow⟩ := HRW.out (by omega);obtain ⟨q0, q1, q2, q3, q4, q5, q6⟩ := item_cells (hrow.mod (HSP.out.pure.trans hm) id) hlt;have HTK := Lib.hid (sprS_snoc (cs := cs) (its := its) (al := L.asks) hlt);have hxz := HZ.out _ (List.getElem_mem hlt);have HSM := Lib.hid (fun (W : World) (h : Pure wc W) => (HSP.out.pure' h).lsum (HVM.out _ (List.getElem_mem hlt)) (by have := hxz.1; omega));have HKS := Lib.hid (fun (W : World) (h : Pure wc W) => (HSP.out.pure' h).lkids its[k]);have HBK := Lib.hid (fun (W : World) (h : Pure wc W) => (HSP.out.pure' h).bel.look HFE.out HRR.out (HSP.out.pure' h).fam.2 (List.getElem_mem hlt) (by have := hxz.1; omega));have HOL2 := Lib.hid (fun (W : World) (h : Pure wc W) => (HSP.out.pure' h).own.look its[k].id (by have := hxz.1; omega));have HIA := Lib.hid (fun (h s : Str) (hs : s ∈ idsSum its h) => show s.length ≤ 100000 by obtain ⟨y, hy, rfl⟩ := idsSum_mem hs; have := (HZ.out _ hy).1; omega);have HIF := Lib.hid (fun (s : Str) (hs : s ∈ fmB its its[k].id) => show s.length ≤ 100000 by obtain ⟨y, hy, rfl⟩ := fmB_mem HRR.out (List.getElem_mem hlt) hs; have := (HZ.out _ hy).1; omega);clear hrow;generalize its[k] = x at *;obtain ⟨xid, xcust, xkind, xname, xtm, xpar, xtext⟩ := x;simp only at q0 q1 q2 q3 q4 q5 q6 HSM HBK HOL2 HIF;obtain ⟨w0, hw0⟩ : ∃ W, W = wr := ⟨wr, rfl⟩;subst hw0;have HM0 := Lib.hid hm;have HCD := Lib.hid hCd;have hpa := pure_alloc w0 (.cells #[.string ⟨xid.toArray⟩, .string ⟨xcust.toArray⟩, .int .i64 xkind, .string ⟨xname.toArray⟩, .int .i64 xtm, .string ⟨xpar.toArray⟩, .string ⟨xtext.toArray⟩] 83);have hpb := pure_alloc (w0.alloc (.cells #[.string ⟨xid.toArray⟩, .string ⟨xcust.toArray⟩, .int .i64 xkind, .string ⟨xname.toArray⟩, .int .i64 xtm, .string ⟨xpar.toArray⟩, .string ⟨xtext.toArray⟩] 83)) (.cells #[.string ⟨xid.toArray⟩, .slice none 0 0] 76);have HB27 := Lib.hid ((Blk.new w0 83 #[.string ⟨xid.toArray⟩, .string ⟨xcust.toArray⟩, .int .i64 xkind, .string ⟨xname.toArray⟩, .int .i64 xtm, .string ⟨xpar.toArray⟩, .string ⟨xtext.toArray⟩]).modp hpb);have HB28 := Lib.hid (Blk.snd w0 (.cells #[.string ⟨xid.toArray⟩, .string ⟨xcust.toArray⟩, .int .i64 xkind, .string ⟨xname.toArray⟩, .int .i64 xtm, .string ⟨xpar.toArray⟩, .string ⟨xtext.toArray⟩] 83) 76 #[.string ⟨xid.toArray⟩, .slice none 0 0]);have hb3 := ((HSP.out.b3.modp hm).modp hpa).modp hpb;have HMA := Lib.hid (hpa.trans hpb)
      have hzA : ((w0.alloc (.cells #[.string ⟨xid.toArray⟩, .string ⟨xcust.toArray⟩, .int .i64 xkind, .string ⟨xname.toArray⟩, .int .i64 xtm, .string ⟨xpar.toArray⟩, .string ⟨xtext.toArray⟩] 83)).alloc (.cells #[.string ⟨xid.toArray⟩, .slice none 0 0] 76)).heap.size = w0.heap.size + 2 := by simp
      have x0 := hb3.cell 0; have x1 := hb3.cell 1; simp at x0 x1;clear hCd hm hpa hpb hb3
      go_upto_region 37 with (fail)
      generalize ((w0.alloc (.cells #[.string ⟨xid.toArray⟩, .string ⟨xcust.toArray⟩, .int .i64 xkind, .string ⟨xname.toArray⟩, .int .i64 xtm, .string ⟨xpar.toArray⟩, .string ⟨xtext.toArray⟩] 83)).alloc (.cells #[.string ⟨xid.toArray⟩, .slice none 0 0] 76)) = wA at *;generalize hg28 : w0.heap.size + 1 = g28 at *;generalize hg27 : w0.heap.size = g27 at *;have hg28a := Nat.le_of_eq hg28;have hg28b := Nat.le_of_eq hg28.symm;have hg27a := Nat.le_of_eq hg27;have hg27b := Nat.le_of_eq hg27.symm;clear hg28 hg27 q0 q1 q2 q3 q4 q5 q6;obtain ⟨bv, hbv⟩ : ∃ bv, bv = wA.heap.size := ⟨_, rfl⟩;have hbv1 := Nat.le_of_eq hbv;have hbv2 := Nat.le_of_eq hbv.symm
      have hbv0 : w0.heap.size ≤ bv := by omega
      clear hbv hzA
      go_wp2_with fail
      go_loopg [130] ln (fun gk i wr => ∃ (j capv : Nat) (Av : Option Addr) (vs : List ChoR), ln - j = gk ∧ j ≤ ln ∧ i = .int .i64 (j : Int) ∧ vs.length ≤ j ∧ VkS wr bv Av capv vs (sprV cs its ⟨xid, xcust, xkind, xname, xtm, xpar, xtext⟩ (L.asks.take j)) ∧ Blk wr g28 76 #[.string ⟨xid.toArray⟩, .slice Av vs.length capv] ∧ Blk wr g27 83 #[.string ⟨xid.toArray⟩, .string ⟨xcust.toArray⟩, .int .i64 xkind, .string ⟨xname.toArray⟩, .int .i64 xtm, .string ⟨xpar.toArray⟩, .string ⟨xtext.toArray⟩] ∧ Pure w0 wr ∧ bv ≤ wr.heap.size)
      case atStart => exact ⟨0, 0, none, [], by omega, by omega, rfl, by simp, ⟨World.ownsRow_nil _ _ _ _, fun x h => absurd h (by simp), rfl⟩, HB28.out, HB27.out, HMA.out, by omega⟩
      case round =>
       clear HB28 HB27 HMA x0 x1;obtain ⟨j, capv, Av, vs, rfl, hj, rfl, hvj, hVk, hB11, hB10, hmj, hbvw⟩ := hrel;have HM1 := Lib.hid (HM0.out.trans hmj)
       by_cases hlj : j < ln
       ·obtain ⟨ga, oa, rfl, p0, p1, p2, p3⟩ := Asks.cells (HLA.out.pure (HSP.out.pure.trans HM1.out)) (show j < L.asks.length by omega);have HVT := Lib.hid (sprV_snoc (cs := cs) (its := its) (x := ⟨xid, xcust, xkind, xname, xtm, xpar, xtext⟩) (al := L.asks) (k := j) (by omega));have HSA := Lib.hid (sprA_frm cs its ⟨xid, xcust, xkind, xname, xtm, xpar, xtext⟩ L.asks[j]);generalize L.asks[j] = y at *;obtain ⟨f, yA, yc, ych, ymb, ysp⟩ := y;simp only at p0 p1 p2 p3 HVT HSA;have hpa := pure_alloc wr (.cells #[.string ⟨f.toArray⟩, .slice yA ych.length yc, .bool ymb, .int .i64 ysp] 113);have HB30 := Lib.hid (Blk.new wr 113 #[.string ⟨f.toArray⟩, .slice yA ych.length yc, .bool ymb, .int .i64 ysp]);have HVK := Lib.hid (hVk.pure hpa);have HB28 := Lib.hid (hB11.modp hpa);have HB27 := Lib.hid (hB10.modp hpa);have HMJ := Lib.hid (hmj.trans hpa)
        have hbw2 : bv ≤ (wr.alloc (.cells #[.string ⟨f.toArray⟩, .slice yA ych.length yc, .bool ymb, .int .i64 ysp] 113)).heap.size := by simp; omega
        clear hVk hB11 hB10 hmj hpa HM1
        go_upto_region 40 with (fail)
        generalize (wr.alloc (.cells #[.string ⟨f.toArray⟩, .slice yA ych.length yc, .bool ymb, .int .i64 ysp] 113)) = w4 at *;generalize wr.heap.size = g30 at *;clear p0 p1 p2 p3;have hx27 := HB27.out;have hx30 := HB30.out;have hx10 := (HSP.out.pure' (HM0.out.trans HMJ.out)).b10;have x0 := hx27.cell 0; have x1 := hx27.cell 1; have x2 := hx27.cell 2; have x3 := hx27.cell 3; have x4 := hx27.cell 4; have x5 := hx27.cell 5; have x6 := hx27.cell 6; simp at x0 x1 x2 x3 x4 x5 x6;have y0 := hx30.cell 0; have y1 := hx30.cell 1; have y2 := hx30.cell 2; have y3 := hx30.cell 3; simp at y0 y1 y2 y3;have z0 := hx10.cell 0; simp at z0;obtain ⟨OA, on, oc, hlo, hov⟩ := HOL2.out w4 (HM0.out.trans HMJ.out);have HVC := Lib.hid (value_calls w4 _ _ f hov);clear hx27 hx30 hx10 hov
        go_wp2_with fail
        refine HVC.out.mono ?_;rintro e w5 ⟨A5, c5, rfl, hs5, hm5⟩;have HS5 := Lib.hid hs5;have HVK5 := Lib.hid (HVK.out.pure hm5);have HB285 := Lib.hid (HB28.out.modp hm5);have HB275 := Lib.hid (HB27.out.modp hm5);have HB305 := Lib.hid (HB30.out.modp hm5);have HMJ5 := Lib.hid (HMJ.out.trans hm5);have hx30 := HB305.out;have hx27 := HB275.out;have hx10 := (HSP.out.pure' (HM0.out.trans HMJ5.out)).b10
        have hbw5 : bv ≤ w5.heap.size := by have := hm5.size; omega
        clear x0 x1 x2 x3 x4 x5 x6 y0 y1 y2 y3 z0;have x0 := hx27.cell 0; have x1 := hx27.cell 1; have x2 := hx27.cell 2; have x3 := hx27.cell 3; have x4 := hx27.cell 4; have x5 := hx27.cell 5; have x6 := hx27.cell 6; simp at x0 x1 x2 x3 x4 x5 x6;have y0 := hx30.cell 0; have y1 := hx30.cell 1; have y2 := hx30.cell 2; have y3 := hx30.cell 3; simp at y0 y1 y2 y3;have z0 := hx10.cell 0; simp at z0;clear hx27 hx30 hx10 hs5 hm5 HVC HVK HB28 HB27 HB30 HMJ hlo
        go_upto_region 41 with (fail)
        obtain ⟨v0, hv0⟩ : ∃ v0, chIn (ownV cs xid) f = v0 := ⟨_, rfl⟩;rw [hv0] at HSA HS5 ⊢;clear hv0;obtain ⟨v1, hv1⟩ : ∃ v1, v1 = (if v0 = [] ∧ ysp = 1 then firV cs (idsSum its (sumS ⟨xid, xcust, xkind, xname, xtm, xpar, xtext⟩)) f else v0) := ⟨_, rfl⟩;have HV1 := Lib.hid hv1;obtain ⟨T, hT⟩ : ∃ T, sprA cs its ⟨xid, xcust, xkind, xname, xtm, xpar, xtext⟩ ⟨f, yA, yc, ych, ymb, ysp⟩ = T := ⟨_, rfl⟩
        have hTl : T.length ≤ 1000 := by rw [← hT]; exact HTL.out _ _
        rw [hT] at HSA HVT;have HT2 := Lib.hid (spr_two HSA.out hv1);clear hv1 hT HSA;obtain ⟨b1, hb1⟩ : ∃ b1, b1 = decide (v0 = [] ∧ ysp = 1) := ⟨_, rfl⟩;have HB1 := Lib.hid hb1;clear hb1
        go_cut [148] (fun p wx => p = .bool b1 ∧ w5 = wx)
        case first =>
         by_cases h0 : v0 = []
         ·subst h0;have HE := Lib.hid (show b1 = (ysp == 1) by rw [HB1.out, Bool.eq_iff_iff]; simp);clear HB1 HV1 HT2 HVT
          go_wp2_with fail
          go_meet;exact ⟨by rw [HE.out], rfl⟩
         ·have hv2 : ((v0.length : Int) == 0) = false := by rw [beq_eq_false_iff_ne]; have := List.length_pos_iff.2 h0; omega
          have HE := Lib.hid (show b1 = false by rw [HB1.out]; exact decide_eq_false (fun h => h0 h.1));clear h0 HB1 HV1 HT2 HVT
          go_wp2_with fail
          go_meet;exact ⟨by rw [HE.out], rfl⟩
        case rest =>
        obtain ⟨rfl, rfl⟩ := hcut
        go_upto_if 148 with (fail)
        go_cut [31] (fun v wx => CvPost w5 v1 v wx)
        case first =>
         have hp5 := HM0.out.trans HMJ5.out
         cases b1
         ·have HE := Lib.hid (show v1 = v0 by rw [HV1.out, if_neg (by simpa using HB1.out)]);clear HB1 HV1 HT2 HVT hp5
          go_wp2_with fail
          go_meet;exact ⟨A5, c5, by rw [HE.out], by rw [HE.out]; exact HS5.out, Mod.refl _ _⟩
         ·obtain ⟨rfl, rfl⟩ : v0 = [] ∧ ysp = 1 := by simpa using HB1.out
          have HE := Lib.hid (show v1 = firV cs (idsSum its (sumS ⟨xid, xcust, xkind, xname, xtm, xpar, xtext⟩)) f by rw [HV1.out, if_pos ⟨rfl, rfl⟩]);obtain ⟨KA, kn, kc, hlk, hks⟩ := HKS.out w5 hp5;have hsm := HSM.out w5 hp5;have HFV := Lib.hid (pfirst_calls w5 g10 bo _ _ cs f (HSP.out.pure' hp5).b10 (HSP.out.pure' hp5).own hks (HIA.out _));clear hks HV1 HT2 HVT hp5 HB1
          go_wp2_with fail
          refine HFV.out.mono ?_;rintro e w6 ⟨A6, c6, rfl, hs6, hm6⟩
          go_wp2_with fail
          go_meet;exact ⟨A6, c6, by rw [HE.out], by rw [HE.out]; exact hs6, hm6⟩
        case rest =>
         obtain ⟨A6, c6, rfl, hs6, hm6⟩ := hcut;obtain ⟨w6, hw6⟩ : ∃ W, W = wc := ⟨wc, rfl⟩;subst hw6;have HS6 := Lib.hid hs6;have HM6 := Lib.hid (HMJ5.out.trans hm6);have HVK6 := Lib.hid (HVK5.out.pure hm6);have HB286 := Lib.hid (HB285.out.modp hm6);have HB276 := Lib.hid (HB275.out.modp hm6);have HB306 := Lib.hid (HB305.out.modp hm6)
         have hbw6 : bv ≤ w6.heap.size := by have := hm6.size; omega
         have hx27 := HB276.out;have hx30 := HB306.out;have hx10 := (HSP.out.pure' (HM0.out.trans HM6.out)).b10;clear x0 x1 x2 x3 x4 x5 x6 y0 y1 y2 y3 z0;have x0 := hx27.cell 0; have x1 := hx27.cell 1; have x2 := hx27.cell 2; have x3 := hx27.cell 3; have x4 := hx27.cell 4; have x5 := hx27.cell 5; have x6 := hx27.cell 6; simp at x0 x1 x2 x3 x4 x5 x6;have y0 := hx30.cell 0; have y1 := hx30.cell 1; have y2 := hx30.cell 2; have y3 := hx30.cell 3; simp at y0 y1 y2 y3;have z0 := hx10.cell 0; simp at z0;clear hx27 hx30 hx10 hs6 hm6 HV1 HS5 HVK5 HB285 HB275 HB305 HMJ5 HSM HKS HB1
         go_upto_region 43 with (fail)
         obtain ⟨b2, hb2⟩ : ∃ b2, b2 = decide (v1 = [] ∧ ysp = 2) := ⟨_, rfl⟩;have HB2 := Lib.hid hb2;clear hb2
         go_cut [166] (fun p wx => p = .bool b2 ∧ w6 = wx)
         case first =>
          by_cases h0 : v1 = []
          ·subst h0;have HE := Lib.hid (show b2 = (ysp == 2) by rw [HB2.out, Bool.eq_iff_iff]; simp);clear HB2 HT2 HVT
           go_wp2_with fail
           go_meet;exact ⟨by rw [HE.out], rfl⟩
          ·have hv2 : ((v1.length : Int) == 0) = false := by rw [beq_eq_false_iff_ne]; have := List.length_pos_iff.2 h0; omega
           have HE := Lib.hid (show b2 = false by rw [HB2.out]; exact decide_eq_false (fun h => h0 h.1));clear h0 HB2 HT2 HVT
           go_wp2_with fail
           go_meet;exact ⟨by rw [HE.out], rfl⟩
         case rest =>
         obtain ⟨rfl, rfl⟩ := hcut
         go_upto_if 166 with (fail)
         go_cut [31] (fun v wx => CvPost w6 T v wx)
         case first =>
          have hp6 := HM0.out.trans HM6.out
          cases b2
          ·have HE := Lib.hid (show T = v1 by rw [HT2.out, if_neg (by simpa using HB2.out)]);clear HB2 HT2 HVT hp6
           go_wp2_with fail
           go_meet;exact ⟨A6, c6, by rw [HE.out], by rw [HE.out]; exact HS6.out, Mod.refl _ _⟩
          ·obtain ⟨rfl, rfl⟩ : v1 = [] ∧ ysp = 2 := by simpa using HB2.out
           have HE := Lib.hid (show T = firV cs (fmB its xid) f by rw [HT2.out, if_pos ⟨rfl, rfl⟩]);obtain ⟨KA, kn, kc, hlk, hks⟩ := HBK.out w6 hp6;have HFV := Lib.hid (pfirst_calls w6 g10 bo _ _ cs f (HSP.out.pure' hp6).b10 (HSP.out.pure' hp6).own hks HIF.out);clear hks HT2 HVT hp6 HB2
           go_wp2_with fail
           refine HFV.out.mono ?_;rintro e w7 ⟨A7, c7, rfl, hs7, hm7⟩
           go_wp2_with fail
           go_meet;exact ⟨A7, c7, by rw [HE.out], by rw [HE.out]; exact hs7, hm7⟩
         case rest =>
          obtain ⟨A7, c7, rfl, hs7, hm7⟩ := hcut;obtain ⟨w7, hw7⟩ : ∃ W, W = wc := ⟨wc, rfl⟩;subst hw7;have HS7 := Lib.hid hs7;have HM7 := Lib.hid (HM6.out.trans hm7);have HVK7 := Lib.hid (HVK6.out.pure hm7);have HB287 := Lib.hid (HB286.out.modp hm7);have HB277 := Lib.hid (HB276.out.modp hm7);have HB307 := Lib.hid (HB306.out.modp hm7)
          have hbw7 : bv ≤ w7.heap.size := by have := hm7.size; omega
          clear x0 x1 x2 x3 x4 x5 x6 y0 y1 y2 y3 z0 hs7 hm7 HT2 HB2 HS6 HVK6 HB286 HB276 HB306 HM6 HBK HIF HIA HOL2
          by_cases hv : T = []
          ·subst hv;have HV9 := Lib.hid (show sprV cs its ⟨xid, xcust, xkind, xname, xtm, xpar, xtext⟩ (L.asks.take (j + 1)) = sprV cs its ⟨xid, xcust, xkind, xname, xtm, xpar, xtext⟩ (L.asks.take j) by rw [HVT.out, if_pos rfl]);clear HVT HS7
           go_wp2_with fail
           go_roundg (ln - (j + 1))
           case measure => omega
           case rel => exact ⟨j + 1, capv, Av, vs, rfl, by omega, by simp, by omega, by rw [HV9.out]; exact HVK7.out, HB287.out, HB277.out, HM7.out, hbw7⟩
          ·have HV9 := Lib.hid (show sprV cs its ⟨xid, xcust, xkind, xname, xtm, xpar, xtext⟩ (L.asks.take (j + 1)) = sprV cs its ⟨xid, xcust, xkind, xname, xtm, xpar, xtext⟩ (L.asks.take j) ++ [(f, T)] by rw [HVT.out, if_neg hv])
           have hv2 : (0 : Int) < (T.length : Int) := by have := List.length_pos_iff.2 hv; omega
           clear HVT hv;obtain ⟨i0, hi0, hz0, hz1, hz2⟩ := info_parts info_chS
           go_upto_region 46 with (fail)
           obtain ⟨SV, hSV⟩ : ∃ SV, sprV cs its ⟨xid, xcust, xkind, xname, xtm, xpar, xtext⟩ (L.asks.take j) = SV := ⟨_, rfl⟩;rw [hSV] at HV9 HVK7;clear hSV;have hw07 := HM7.out.size;have HN30 := Lib.hid (blk_ne HB307.out HB287.out (by decide));have HN27 := Lib.hid (blk_ne HB277.out HB287.out (by decide));have HGs := Lib.hid (show ∀ (D : Nat → Bool) (zzi : Nat) (zq zq' : World), zzi ≠ 8 → (fun D zq => (D 8 = false → (fun Z => VkB Z bv Av capv vs SV g28 #[.string ⟨xid.toArray⟩, .slice Av vs.length capv] ∧ Sl Z 9 1 (.slice A7 T.length c7) (strsV T)) zq) ∧ (fun Z => Blk Z g30 113 #[.string ⟨f.toArray⟩, .slice yA ych.length yc, .bool ymb, .int .i64 ysp] ∧ Blk Z g27 83 #[.string ⟨xid.toArray⟩, .string ⟨xcust.toArray⟩, .int .i64 xkind, .string ⟨xname.toArray⟩, .int .i64 xtm, .string ⟨xpar.toArray⟩, .string ⟨xtext.toArray⟩]) zq) D zq → Mod (fun _ => False) zq zq' → (fun D zq => (D 8 = false → (fun Z => VkB Z bv Av capv vs SV g28 #[.string ⟨xid.toArray⟩, .slice Av vs.length capv] ∧ Sl Z 9 1 (.slice A7 T.length c7) (strsV T)) zq) ∧ (fun Z => Blk Z g30 113 #[.string ⟨f.toArray⟩, .slice yA ych.length yc, .bool ymb, .int .i64 ysp] ∧ Blk Z g27 83 #[.string ⟨xid.toArray⟩, .string ⟨xcust.toArray⟩, .int .i64 xkind, .string ⟨xname.toArray⟩, .int .i64 xtm, .string ⟨xpar.toArray⟩, .string ⟨xtext.toArray⟩]) zq) (upd D zzi true) zq' from by intro D zzi zq zq' hi hh hm; refine ⟨fun hs => ?_, ?_⟩; (rw [upd_ne _ _ (Ne.symm hi)] at hs; have h := hh.1 hs; (exact ⟨h.1.pure hm, h.2.pure hm⟩)); (have h := hh.2; (exact ⟨h.1.modp hm, h.2.modp hm⟩)))
           refine wp_region_inv (by kernel_rfl) (by kernel_rfl) (InvF (R := Mod (fun _ => False)) [.is (.pointer (some ⟨g28, 1, none⟩)),
             .is (.slice Av vs.length capv),
             .is (.pointer (some ⟨g30, 0, none⟩)),
             .is (.string ⟨f.toArray⟩),
             .is (.slice A7 T.length c7),
             ⟨fun zv zw => ∃ (A_5 : Option Addr) (c_5 : Nat), zv = .slice A_5 T.length c_5 ∧ SlT zw (.slice A_5 T.length c_5) T, (by rintro zv zw zx ⟨A_5, c_5, rfl, q0⟩ hm; exact ⟨A_5, c_5, rfl, (q0.pure hm)⟩), none, some 6⟩,
             ⟨fun zv zw => ∃ (A_6 : Option Addr) (c_6 : Nat), zv = .agg #[.string ⟨f.toArray⟩, .slice A_6 T.length c_6] ∧ SlT zw (.slice A_6 T.length c_6) T, (by rintro zv zw zx ⟨A_6, c_6, rfl, q0⟩ hm; exact ⟨A_6, c_6, rfl, (q0.pure hm)⟩), none, some 7⟩,
             ⟨fun zv zw => ∃ (A_7 : Option Addr) (c_7 : Nat) (g_7 : Nat), zv = .slice (some ⟨g_7, 0, none⟩) 1 1 ∧ w7.heap.size ≤ g_7 ∧ Blk zw g_7 125 #[.string ⟨f.toArray⟩, .slice A_7 T.length c_7] ∧ SlT zw (.slice A_7 T.length c_7) T, (by rintro zv zw zx ⟨A_7, c_7, g_7, rfl, c0, q0, q1⟩ hm; exact ⟨A_7, c_7, g_7, rfl, c0, (q0.modp hm), (q1.pure hm)⟩), none, some 8⟩,
             ⟨fun zv zw => ∃ (g_8 : Nat) (c_8 : Nat) (A_8 : Option Addr) (d_8 : Nat), zv = .slice (some ⟨g_8, 0, none⟩) (vs.length + 1) c_8 ∧ VkB zw bv (some ⟨g_8, 0, none⟩) c_8 (vs ++ [⟨f, A_8, d_8, T⟩]) (SV ++ [(f, T)]) g28 #[.string ⟨xid.toArray⟩, .slice Av vs.length capv], (by rintro zv zw zx ⟨g_8, c_8, A_8, d_8, rfl, q0⟩ hm; exact ⟨g_8, c_8, A_8, d_8, rfl, (q0.pure hm)⟩), none, some 10⟩,
             .is (.pointer (some ⟨g28, 1, none⟩)),
             ⟨fun zv zw => ∃ (g_10 : Nat) (c_10 : Nat) (A_10 : Option Addr) (d_10 : Nat), zv = undef ∧ VkB zw bv (some ⟨g_10, 0, none⟩) c_10 (vs ++ [⟨f, A_10, d_10, T⟩]) (SV ++ [(f, T)]) g28 #[.string ⟨xid.toArray⟩, .slice (some ⟨g_10, 0, none⟩) (vs.length + 1) c_10], (by rintro zv zw zx ⟨g_10, c_10, A_10, d_10, rfl, q0⟩ hm; exact ⟨g_10, c_10, A_10, d_10, rfl, (q0.pure hm)⟩), none, none⟩]
             (PB w0 (fun _ => False) w7.heap.size (fun D zq => (D 8 = false → (fun Z => VkB Z bv Av capv vs SV g28 #[.string ⟨xid.toArray⟩, .slice Av vs.length capv] ∧ Sl Z 9 1 (.slice A7 T.length c7) (strsV T)) zq) ∧ (fun Z => Blk Z g30 113 #[.string ⟨f.toArray⟩, .slice yA ych.length yc, .bool ymb, .int .i64 ysp] ∧ Blk Z g27 83 #[.string ⟨xid.toArray⟩, .string ⟨xcust.toArray⟩, .int .i64 xkind, .string ⟨xname.toArray⟩, .int .i64 xtm, .string ⟨xpar.toArray⟩, .string ⟨xtext.toArray⟩]) zq))) (InvF.start (PB.start HM7.out (Nat.le_refl _) (⟨fun _ => ⟨VkB.pure ⟨HVK7.out, HB287.out⟩ ((Mod.refl _ _).drew), HS7.out.pure ((Mod.refl _ _).drew)⟩, ⟨HB307.out.drew, HB277.out.drew⟩⟩))) ?_ ?_
           ·refine .cons ?_ (.cons ?_ (.cons ?_ (.cons ?_ (.cons ?_ (.cons ?_ (.cons ?_ (.cons ?_ (.cons ?_ (.cons ?_ (.cons ?_ .nil))))))))))
            ·intro D V zw1 a hR hI K hK;obtain ⟨hM1, hB1, hG1⟩ := hI.1;obtain ⟨hGK, hG1⟩ := hG1;have ze28 := hR.frame.other (t := 28) (by kernel_rfl) rfl;rw [if_pos (by rfl)];go_simp;exact hK (.pointer (some ⟨g28, 1, none⟩)) _ (hI.next hR (by kernel_rfl) (Mod.refl _ _) (PB.quiet hI.1 (Mod.refl _ _) (HGs.out D 0 zw1 zw1 (by omega) (hI.1).g (Mod.refl _ _))) (upd_same V 0 _))
            ·intro D V zw1 a hR hI K hK;obtain ⟨hM1, hB1, hG1⟩ := hI.1;obtain ⟨hGK, hG1⟩ := hG1;have zd0 := hR.pred 0 (by kernel_rfl);have zf0 : V 0 = .pointer (some ⟨g28, 1, none⟩) := hI.2 0 zd0 rfl;have ze178 := hR.frame.done (t := 178) (j := 0) (by kernel_rfl) hR.ok zd0;have zx0 := (hGK (hR.later 8 rfl (by kernel_rfl))).1.2.cell 1;simp at zx0;rw [if_pos (by rfl)];go_simp;exact hK (.slice Av vs.length capv) _ (hI.next hR (by kernel_rfl) (Mod.refl _ _) (PB.quiet hI.1 (Mod.refl _ _) (HGs.out D 1 zw1 zw1 (by omega) (hI.1).g (Mod.refl _ _))) (upd_same V 1 _))
            ·intro D V zw1 a hR hI K hK;obtain ⟨hM1, hB1, hG1⟩ := hI.1;obtain ⟨hGK, hG1⟩ := hG1;have ze30 := hR.frame.other (t := 30) (by kernel_rfl) rfl;rw [if_pos (by rfl)];go_simp;exact hK (.pointer (some ⟨g30, 0, none⟩)) _ (hI.next hR (by kernel_rfl) (Mod.refl _ _) (PB.quiet hI.1 (Mod.refl _ _) (HGs.out D 2 zw1 zw1 (by omega) (hI.1).g (Mod.refl _ _))) (upd_same V 2 _))
            ·intro D V zw1 a hR hI K hK;obtain ⟨hM1, hB1, hG1⟩ := hI.1;obtain ⟨hGK, hG1⟩ := hG1;have zd2 := hR.pred 2 (by kernel_rfl);have zf2 : V 2 = .pointer (some ⟨g30, 0, none⟩) := hI.2 2 zd2 rfl;have ze180 := hR.frame.done (t := 180) (j := 2) (by kernel_rfl) hR.ok zd2;have zx0 := hG1.1.cell 0;simp at zx0;rw [if_pos (by rfl)];go_simp;exact hK (.string ⟨f.toArray⟩) _ (hI.next hR (by kernel_rfl) (Mod.refl _ _) (PB.quiet hI.1 (Mod.refl _ _) (HGs.out D 3 zw1 zw1 (by omega) (hI.1).g (Mod.refl _ _))) (upd_same V 3 _))
            ·intro D V zw1 a hR hI K hK;obtain ⟨hM1, hB1, hG1⟩ := hI.1;obtain ⟨hGK, hG1⟩ := hG1;have ze31 := hR.frame.other (t := 31) (by kernel_rfl) rfl;rw [if_pos (by rfl)];go_simp;exact hK (.slice A7 T.length c7) _ (hI.next hR (by kernel_rfl) (Mod.refl _ _) (PB.quiet hI.1 (Mod.refl _ _) (HGs.out D 4 zw1 zw1 (by omega) (hI.1).g (Mod.refl _ _))) (upd_same V 4 _))
            ·intro D V zw1 a hR hI K hK;obtain ⟨hM1, hB1, hG1⟩ := hI.1;obtain ⟨hGK, hG1⟩ := hG1;have zd4 := hR.pred 4 (by kernel_rfl);have zf4 : V 4 = .slice A7 T.length c7 := hI.2 4 zd4 rfl;have ze182 := hR.frame.done (t := 182) (j := 4) (by kernel_rfl) hR.ok zd4;rw [if_pos (by rfl)];go_simp;refine (cloneC_calls zw1 _ T (hGK (hR.later 8 rfl (by kernel_rfl))).2 (by omega)).mono ?_;rintro e zw2 ⟨v1, rfl, hown2, hm2⟩;obtain ⟨A_0, n2, c_0, rfl⟩ := (Sl.of_own hown2).form;have hn2 : T.length = n2 := Sl.lenS (Sl.of_own hown2);subst hn2;exact hK (.slice A_0 T.length c_0) _ (hI.next hR (by kernel_rfl) hm2 (PB.quiet hI.1 hm2 (HGs.out D 5 _ _ (by omega) (hI.1).g hm2)) (⟨A_0, c_0, upd_same V 5 _, (Sl.of_own hown2)⟩))
            ·intro D V zw1 a hR hI K hK;obtain ⟨hM1, hB1, hG1⟩ := hI.1;obtain ⟨hGK, hG1⟩ := hG1;have zd3 := hR.pred 3 (by kernel_rfl);have zf3 : V 3 = .string ⟨f.toArray⟩ := hI.2 3 zd3 rfl;have zd5 := hR.pred 5 (by kernel_rfl);have zF5 : ∃ (A_5 : Option Addr) (c_5 : Nat), V 5 = .slice A_5 T.length c_5 ∧ SlT zw1 (.slice A_5 T.length c_5) T := hI.2 5 zd5 (by show (!D 6) = true; rw [hR.not]; rfl);obtain ⟨A_5, c_5, zf5, b5_0⟩ := zF5;have ze181 := hR.frame.done (t := 181) (j := 3) (by kernel_rfl) hR.ok zd3;have ze183 := hR.frame.done (t := 183) (j := 5) (by kernel_rfl) hR.ok zd5;rw [if_pos (by rfl)];go_simp;exact hK (_) _ (hI.next hR (by kernel_rfl) (Mod.refl _ _) (PB.quiet hI.1 (Mod.refl _ _) (HGs.out D 6 zw1 zw1 (by omega) (hI.1).g (Mod.refl _ _))) (⟨A_5, c_5, upd_same V 6 _, b5_0⟩))
            ·intro D V zw1 a hR hI K hK;obtain ⟨hM1, hB1, hG1⟩ := hI.1;obtain ⟨hGK, hG1⟩ := hG1;have zd6 := hR.pred 6 (by kernel_rfl);have zF6 : ∃ (A_6 : Option Addr) (c_6 : Nat), V 6 = .agg #[.string ⟨f.toArray⟩, .slice A_6 T.length c_6] ∧ SlT zw1 (.slice A_6 T.length c_6) T := hI.2 6 zd6 (by show (!D 7) = true; rw [hR.not]; rfl);obtain ⟨A_6, c_6, zf6, b6_0⟩ := zF6;have ze184 := hR.frame.done (t := 184) (j := 6) (by kernel_rfl) hR.ok zd6;rw [if_pos (by rfl)];go_simp;exact hK (_) _ (hI.next hR (by kernel_rfl) ((Mod.refl _ _).alloc _) (PB.quiet hI.1 (pure_alloc _ _) (HGs.out D 7 _ _ (by omega) (hI.1).g ((Mod.refl _ _).alloc _))) (⟨A_6, c_6, _, upd_same V 7 _, (by omega), (Blk.new _ _ _), (b6_0.pure (pure_alloc _ _))⟩))
            ·intro D V zw1 a hR hI K hK;obtain ⟨hM1, hB1, hG1⟩ := hI.1;obtain ⟨hGK, hG1⟩ := hG1;have zd1 := hR.pred 1 (by kernel_rfl);have zf1 : V 1 = .slice Av vs.length capv := hI.2 1 zd1 rfl;have zd7 := hR.pred 7 (by kernel_rfl);have zF7 : ∃ (A_7 : Option Addr) (c_7 : Nat) (g_7 : Nat), V 7 = .slice (some ⟨g_7, 0, none⟩) 1 1 ∧ w7.heap.size ≤ g_7 ∧ Blk zw1 g_7 125 #[.string ⟨f.toArray⟩, .slice A_7 T.length c_7] ∧ SlT zw1 (.slice A_7 T.length c_7) T := hI.2 7 zd7 (by show (!D 8) = true; rw [hR.not]; rfl);obtain ⟨A_7, c_7, g_7, zf7, c7_0, b7_0, b7_1⟩ := zF7;have ze179 := hR.frame.done (t := 179) (j := 1) (by kernel_rfl) hR.ok zd1;have ze185 := hR.frame.done (t := 185) (j := 7) (by kernel_rfl) hR.ok zd7;rw [if_pos (by rfl)];have hown := (hGK hR.not).1.1.1;refine wp_append_lies _ (.tmp 179) (.tmp 185) 74 (by rfl) bv 125 i0 _ 2 40 Tryz.underlying74 hi0 hz0 hz1 hz2 (by rfl) (by omega) (.slice Av vs.length capv) (vs.length) (choV vs) ?_ hown ⟨g_7, 0, none⟩ 1 1 [.string ⟨f.toArray⟩, .slice A_7 T.length c_7] ?_ (by rfl) (World.news_of_block (cs := #[.string ⟨f.toArray⟩, .slice A_7 T.length c_7]) (t := 125) (fr := (0, 0)) b7_0) (by simp [Value.oneCell']) (by omega) (by simp [maxLen]; omega) (by omega) (by omega) zw1.heap.size rfl ?_
             ·show a.tmps.getD 179 undef = _; simp [ze179, zf1]
             ·show a.tmps.getD 185 undef = _; simp [ze185, zf7]
             intro g5 cap5 zw2 hown5 hgrow hat hlt5;have hT := mod_grown hgrow;have hTb : ∀ j, (.slice Av vs.length capv : Value).ownBlock = some j → bv ≤ j := own_block hown;refine hK _ _ (InvF.last (PB.writes hI.1 (fun j hj hl => by have := hTb j hj; omega) hT ⟨fun hs => absurd hs (by rw [upd_same]; decide), ⟨hG1.1.mod hT (fun hv => by have h2 := hG1.1; unfold Blk at h2; exact absurd (own_ty hown hv h2) (by decide)), hG1.2.mod hT (fun hv => by have h2 := hG1.2; unfold Blk at h2; exact absurd (own_ty hown hv h2) (by decide))⟩⟩) ⟨_, _, A_7, c_7, upd_same V 8 _, (hGK hR.not).1.app hT (x := ⟨f, A_7, c_7, T⟩) b7_1 rfl hown5⟩ ?_);intro k hk hDk hlv;have hkl := hR.lt k hDk;have hv := hI.2 k hDk (liveB_of hlv)
             match k, hk, hDk, hlv, hkl, hv with
             | 0, _, _, _, _, hv => exact hv
             | 1, _, _, _, _, hv => exact hv
             | 2, _, _, _, _, hv => exact hv
             | 3, _, _, _, _, hv => exact hv
             | 4, _, _, _, _, hv => exact hv
             | 5, _, _, hlv, _, _ => exact absurd hlv (by show ¬ (!upd D 8 true 6) = true; rw [upd_ne _ _ (by omega), hR.closed 7 _ 6 rfl (by kernel_rfl) (hR.pred 7 (by kernel_rfl))]; decide)
             | 6, _, _, hlv, _, _ => exact absurd hlv (by show ¬ (!upd D 8 true 7) = true; rw [upd_ne _ _ (by omega), hR.pred 7 (by kernel_rfl)]; decide)
             | 7, _, _, hlv, _, _ => exact absurd hlv (by show ¬ (!upd D 8 true 8) = true; rw [upd_same]; decide)
             | 8, hk, _, _, _, _ => exact absurd rfl hk
             | 9, _, _, _, _, hv => exact hv
             | 10, _, hDk, _, _, _ => exact absurd hDk (by rw [hR.later 10 rfl (by kernel_rfl)]; decide)
             | k + 11, _, _, _, hkl, _ => exact absurd hkl (by simp)
            ·intro D V zw1 a hR hI K hK;obtain ⟨hM1, hB1, hG1⟩ := hI.1;obtain ⟨hGK, hG1⟩ := hG1;have ze28 := hR.frame.other (t := 28) (by kernel_rfl) rfl;rw [if_pos (by rfl)];go_simp;exact hK (.pointer (some ⟨g28, 1, none⟩)) _ (hI.next hR (by kernel_rfl) (Mod.refl _ _) (PB.quiet hI.1 (Mod.refl _ _) (HGs.out D 9 zw1 zw1 (by omega) (hI.1).g (Mod.refl _ _))) (upd_same V 9 _))
            ·intro D V zw1 a hR hI K hK;obtain ⟨hM1, hB1, hG1⟩ := hI.1;obtain ⟨hGK, hG1⟩ := hG1;have zd9 := hR.pred 9 (by kernel_rfl);have zf9 : V 9 = .pointer (some ⟨g28, 1, none⟩) := hI.2 9 zd9 rfl;have zd8 := hR.pred 8 (by kernel_rfl);have zF8 : ∃ (g_8 : Nat) (c_8 : Nat) (A_8 : Option Addr) (d_8 : Nat), V 8 = .slice (some ⟨g_8, 0, none⟩) (vs.length + 1) c_8 ∧ VkB zw1 bv (some ⟨g_8, 0, none⟩) c_8 (vs ++ [⟨f, A_8, d_8, T⟩]) (SV ++ [(f, T)]) g28 #[.string ⟨xid.toArray⟩, .slice Av vs.length capv] := hI.2 8 zd8 (by show (!D 10) = true; rw [hR.not]; rfl);obtain ⟨g_8, c_8, A_8, d_8, zf8, b8_0⟩ := zF8;have ze187 := hR.frame.done (t := 187) (j := 9) (by kernel_rfl) hR.ok zd9;have ze186 := hR.frame.done (t := 186) (j := 8) (by kernel_rfl) hR.ok zd8;rw [if_pos (by rfl)];have zx1 := b8_0.2.cell 1;have zy1 := b8_0.2.frozen 1;simp at zx1 zy1;have hmS : Mod (· = g28) zw1 (zw1.setCell ⟨g28, 1, none⟩ (.slice (some ⟨g_8, 0, none⟩) (vs.length + 1) c_8)) := (Mod.refl (· = g28) zw1).setCell (.inl rfl) _;go_simp;refine hK undef _ (InvF.last ⟨hM1.trans' hmS (fun i hi hlt => by omega), (by simpa using hB1), ⟨fun hs => absurd hs (by rw [upd_ne _ _ (by omega), hR.pred 8 (by kernel_rfl)]; decide), ⟨hG1.1.mod hmS HN30.out, hG1.2.mod hmS HN27.out⟩⟩⟩ ⟨g_8, c_8, A_8, d_8, upd_same _ 10 _, VkB.store b8_0⟩ ?_);intro k hk hDk hlv;have hkl := hR.lt k hDk;have hv := hI.2 k hDk (liveB_of hlv)
             match k, hk, hDk, hlv, hkl, hv with
             | 0, _, _, _, _, hv => exact hv
             | 1, _, _, _, _, hv => exact hv
             | 2, _, _, _, _, hv => exact hv
             | 3, _, _, _, _, hv => exact hv
             | 4, _, _, _, _, hv => exact hv
             | 5, _, _, hlv, _, _ => exact absurd hlv (by show ¬ (!upd D 10 true 6) = true; rw [upd_ne _ _ (by omega), hR.pred 6 (by kernel_rfl)]; decide)
             | 6, _, _, hlv, _, _ => exact absurd hlv (by show ¬ (!upd D 10 true 7) = true; rw [upd_ne _ _ (by omega), hR.pred 7 (by kernel_rfl)]; decide)
             | 7, _, _, hlv, _, _ => exact absurd hlv (by show ¬ (!upd D 10 true 8) = true; rw [upd_ne _ _ (by omega), hR.pred 8 (by kernel_rfl)]; decide)
             | 8, _, _, hlv, _, _ => exact absurd hlv (by show ¬ (!upd D 10 true 10) = true; rw [upd_same]; decide)
             | 9, _, _, _, _, hv => exact hv
             | 10, hk, _, _, _, _ => exact absurd rfl hk
             | k + 11, _, _, _, hkl, _ => exact absurd hkl (by simp)
           ·intro D V w8 hD hI;obtain ⟨hM1, hB1, hG1⟩ := hI.1;have hMx := hM1;clear hM1;have hBx := hB1;clear hB1;have hGx := hG1.2;clear hG1;have zf0 : V 0 = .pointer (some ⟨g28, 1, none⟩) := hI.2 0 (hD 0 (by decide)) rfl;have zf1 : V 1 = .slice Av vs.length capv := hI.2 1 (hD 1 (by decide)) rfl;have zf2 : V 2 = .pointer (some ⟨g30, 0, none⟩) := hI.2 2 (hD 2 (by decide)) rfl;have zf3 : V 3 = .string ⟨f.toArray⟩ := hI.2 3 (hD 3 (by decide)) rfl;have zf4 : V 4 = .slice A7 T.length c7 := hI.2 4 (hD 4 (by decide)) rfl;have zf9 : V 9 = .pointer (some ⟨g28, 1, none⟩) := hI.2 9 (hD 9 (by decide)) rfl;have zF10 : ∃ (g_10 : Nat) (c_10 : Nat) (A_10 : Option Addr) (d_10 : Nat), V 10 = undef ∧ VkB w8 bv (some ⟨g_10, 0, none⟩) c_10 (vs ++ [⟨f, A_10, d_10, T⟩]) (SV ++ [(f, T)]) g28 #[.string ⟨xid.toArray⟩, .slice (some ⟨g_10, 0, none⟩) (vs.length + 1) c_10] := hI.2 10 (hD 10 (by decide)) rfl;obtain ⟨g_10, c_10, A_10, d_10, zf10, b10_0⟩ := zF10;clear hI hD HGs;simp only [frAll, Act.put, List.setIfInBounds_toArray, List.set_cons_zero, List.set_cons_succ, Nat.zero_add, Nat.reduceAdd, zf0, zf1, zf2, zf3, zf4, zf9, zf10];clear zf0 zf1 zf2 zf3 zf4 zf9 zf10;generalize V 5 = u5;generalize V 6 = u6;generalize V 7 = u7;generalize V 8 = u8;clear V D;have HVB := Lib.hid b10_0;have HMX := Lib.hid hMx;have HB278 := Lib.hid hGx.2;have hbX := hBx;clear b10_0 hMx hGx hBx HVK7 HB287 HB277 HB307
            go_wp2_with fail
            go_roundg (ln - (j + 1))
            case measure => omega
            case rel =>
             refine ⟨j + 1, c_10, some ⟨g_10, 0, none⟩, vs ++ [⟨f, A_10, d_10, T⟩], rfl, by omega, by simp, by simp; omega, by rw [HV9.out]; exact HVB.out.1, by have h := HVB.out.2; simpa using h, HB278.out, HMX.out, by omega⟩
       ·obtain rfl : j = ln := by omega
        rw [List.take_of_length_le (by omega)] at hVk;have HVK := Lib.hid hVk;have HB118 := Lib.hid hB11;have HM8 := Lib.hid (HM0.out.trans hmj);have HCD8 := Lib.hid (HCD.out.pure hmj)
        have hbw8 : bc ≤ wr.heap.size := by have := hmj.size; omega
        have hx11 := HB118.out;have z0 := hx11.cell 0; have z1 := hx11.cell 1; simp at z0 z1;clear hVk hB11 hB10 hmj hx11 hlj HM1 HCD HSM HKS HBK HOL2;obtain ⟨w9, hw9⟩ : ∃ W, W = wr := ⟨wr, rfl⟩;subst hw9
        have hkl : (sprV cs its ⟨xid, xcust, xkind, xname, xtm, xpar, xtext⟩ L.asks).length = vs.length := by rw [← HVK.out.2.2]; simp
        by_cases hv : vs = []
        ·subst hv;have HT2 := Lib.hid (show sprS cs its L.asks (its.take (k + 1)) = sprS cs its L.asks (its.take k) by rw [HTK.out, if_pos (List.eq_nil_of_length_eq_zero (by rw [hkl]; rfl))]);clear HTK hkl
         go_wp2_with fail
         go_roundg (its.length - (k + 1))
         case measure => omega
         case rel => exact ⟨k + 1, cap, A, xs, rfl, by omega, by simp, rfl, by omega, by rw [HT2.out]; exact HCD8.out, HM8.out, hbw8⟩
        ·have HT2 := Lib.hid (show sprS cs its L.asks (its.take (k + 1)) = sprS cs its L.asks (its.take k) ++ [(xid, sprV cs its ⟨xid, xcust, xkind, xname, xtm, xpar, xtext⟩ L.asks)] by rw [HTK.out, if_neg (fun h => hv (List.eq_nil_of_length_eq_zero (by rw [← hkl, h]; rfl)))]; rfl)
         have hv2 : (0 : Int) < (vs.length : Int) := by have := List.length_pos_iff.2 hv; omega
         clear HTK hkl hv;obtain ⟨nx, hnx⟩ : ∃ nx, xs.length = nx := ⟨_, rfl⟩;have HNX := Lib.hid hnx;rw [hnx] at hxk ⊢;have hownS := HCD8.out.1;rw [hnx] at hownS;have hmS := HM8.out;clear hnx;obtain ⟨i0, hi0, hz0, hz1, hz2⟩ := info_parts info_cod
         go_wp2_with ((at_builtin; refine wpList_append_lies _ rfl _ _ _ rfl bc 76 i0 _ 2 40 Tryz.underlying65 hi0 hz0 hz1 hz2 rfl (by omega) (.slice A nx cap) nx (cdV xs) rfl (hownS.alloc _) ⟨w9.heap.size, 0, none⟩ 1 1 [.string ⟨xid.toArray⟩, .slice Av vs.length capv] rfl rfl (World.news_of_block (cs := #[.string ⟨xid.toArray⟩, .slice Av vs.length capv]) (t := 76) (fr := (0, 0)) (heap_alloc_new w9 _)) (by simp [Value.oneCell']) (by omega) (by simp [maxLen]; omega) (by omega) (by have := hmS.size; simp; omega) (w9.heap.size + 1) (by simp) ?_; intro g5 cap5 w5 hown5 hgrow hat hlt5))
         go_roundg (its.length - (k + 1))
         case measure => omega
         case rel =>
          have hpal := pure_alloc w9 (.cells #[.string ⟨xid.toArray⟩, .slice Av vs.length capv] 76);have HOA := hownS.alloc (.cells #[.string ⟨xid.toArray⟩, .slice Av vs.length capv] 76);have hob := own_block HOA;have hV6 := CdR.app (x := ⟨xid, Av, capv, vs⟩) (HCD8.out.pure hpal) (Vals.pure HVK.out.vals hpal) (by rw [HNX.out]; exact mod_grown hgrow) (show nx + 1 = xs.length + 1 by rw [HNX.out]) hown5
          have hl1 : (xs ++ [(⟨xid, Av, capv, vs⟩ : CodR)]).length = nx + 1 := by simp [HNX.out]
          refine ⟨k + 1, cap5, some ⟨g5, 0, none⟩, xs ++ [⟨xid, Av, capv, vs⟩], rfl, by omega, by simp, by rw [hl1], by rw [hl1]; omega, ?_, ?_, ?_⟩
          ·rw [HT2.out];have h := hV6;unfold CdR at h ⊢;rw [hl1] at h ⊢;rw [show CodR.key ⟨xid, Av, capv, vs⟩ = (xid, sprV cs its ⟨xid, xcust, xkind, xname, xtm, xpar, xtext⟩ L.asks) by unfold CodR.key; rw [← HVK.out.2.2]] at h;exact h
          ·exact (HM8.out.trans hpal).trans' (mod_grown hgrow) (fun i hi hlt => by have := hob i hi; omega)
          ·have h1 := hgrow.size
           have h3 : w9.heap.size ≤ (w9.alloc (.cells #[.string ⟨xid.toArray⟩, .slice Av vs.length capv] 76)).heap.size := by simp
           omega
     ·obtain rfl : k = its.length := by omega
      rw [List.take_of_length_le (Nat.le_refl _)] at hCd;have HCD := Lib.hid hCd;have HM := Lib.hid (HSP.out.pure.trans hm);clear hCd hm
      go_wp2_with fail
      try simp only [Exit.inBlock, Exit.then]
      refine bodyPost_ret (v := .tuple #[.slice A xs.length cap, .int .i64 0]) (by simp [results, Tryz.results28, go_sem]) rfl ?_;exact ⟨HM.out, .inr ⟨HQ0.out, A, cap, xs, rfl, HCD.out.cods, HCD.out.2.2⟩⟩

end Go.Proofs.YtpinlcapgoljfaaGreatDoor

/- CodingsFault of the reference. -/
namespace Go.Proofs.YtpinlcapgoljfaaGreatDoor
open Go.RowKit

def CfRel (w : World) (gl : Nat) (lay : Array Value) (L : LayR) (xs : List CodR) (q : Int) (gk : Nat) (p i : Value) (wr : World) : Prop :=
 ∃ k : Nat, xs.length - k = gk ∧ k ≤ xs.length ∧ i = .int .i64 (k : Int) ∧ p = .string ⟨(prvC xs k).toArray⟩ ∧ ceE L (prvC xs k) (xs.drop k) = q ∧ Blk wr gl 63 lay ∧ Pure w wr

set_option maxRecDepth 100000 in
set_option maxHeartbeats 8000000 in
theorem codingsFault_calls (w : World) (vl : Value) (L : LayR) (A1 : Option Addr) (c1 : Nat) (xs : List CodR) (hL : LayV w L vl) (hLB : LayB L) (hX : Cods w (.slice A1 xs.length c1) xs) (hz : ∀ x ∈ xs, CodB x) (hn : xs.length ≤ 2000) :
  Calls Tryz.prog 32 #[vl, .slice A1 xs.length c1] w (IntPost w (codsE L xs)) := by
 have HX := Lib.hid hX;have HVE := Lib.hid (fun W (h : Pure w W) (x : CodR) (hx : x ∈ xs) => valuesRight_calls W vl (.slice x.A x.vals.length x.c) L x.vals (hL.pure h) hLB ((hX.2 x hx).pure h) (by have := (hz x hx).2.1; omega) (hz x hx).2.2);have HZ := Lib.hid hz;have HQ : Hid (codsE L xs = ceE L [] xs) := Lib.hid (by unfold codsE; rw [if_neg (by omega)]);obtain ⟨A, n, c, A3, n3, c3, rfl, _, _⟩ := hL;have HB0 := Lib.hid (Blk.new w 63 #[.slice A n c, .slice A3 n3 c3]);have HM0 := Lib.hid (pure_alloc w (.cells #[.slice A n c, .slice A3 n3 c3] 63));clear hX hz hLB;generalize codsE L xs = q at *
 go_enter Tryz.func32, Tryz.ntmps32
 go_upto_region 1 with (fail)
 generalize (w.alloc (.cells #[.slice A n c, .slice A3 n3 c3] 63)) = w1 at *;generalize hgl : w.heap.size = gl at *;clear hgl
 have hn2 : ¬ (2000 : Int) < (xs.length : Int) := by omega
 go_wp2_with fail
 go_loopg [5, 14] xs.length (fun gk p i wr => CfRel w gl #[.slice A n c, .slice A3 n3 c3] L xs q gk p i wr)
 case atStart => exact ⟨0, by omega, by omega, rfl, rfl, HQ.out.symm, HB0.out, HM0.out⟩
 case round =>
  clear HB0 HM0 hn2 HQ;obtain ⟨k, rfl, hk, rfl, rfl, hce, hbl, hm⟩ := hrel
  by_cases hlt : k < xs.length
  ·have HPV := Lib.hid (prvC_s hlt);obtain ⟨g, off, rfl, p0, p1⟩ := (HX.out.pure hm).cells hlt;have hst := ceE_step (L := L) hlt (prvC xs k);rw [hce] at hst;have HST := Lib.hid hst;have HVX := Lib.hid (fun W (h : Pure w W) => HVE.out W h xs[k] (List.getElem_mem hlt));have HXI : Hid (xs[k].item.length ≤ 1000) := Lib.hid (HZ.out xs[k] (List.getElem_mem hlt)).1;clear hst hce;generalize xs[k] = x at *;generalize prvC xs k = pv at *;have HB1 := Lib.hid (hbl.alloc (.cells #[.string ⟨x.item.toArray⟩, .slice x.A x.vals.length x.c] 76));have HC1 := Lib.hid (Blk.new wr 76 #[.string ⟨x.item.toArray⟩, .slice x.A x.vals.length x.c]);have HP1 := Lib.hid (hm.trans (pure_alloc wr (.cells #[.string ⟨x.item.toArray⟩, .slice x.A x.vals.length x.c] 76)))
   go_upto_region 7 with (fail)
   generalize (wr.alloc (.cells #[.string ⟨x.item.toArray⟩, .slice x.A x.vals.length x.c] 76)) = w2 at *;generalize wr.heap.size = gx at *;clear p0 p1 hbl hm;obtain ⟨kb, hkb⟩ : ∃ kb, keyB x.item = kb := ⟨_, rfl⟩;have HKY := Lib.hid (fun W => rkeyP_calls W x.item kb hkb HXI.out);rw [hkb] at HST;have hX := HC1.out;have x0 := hX.cell 0; have x1 := hX.cell 1; simp at x0 x1;clear hX hkb HXI
   go_wp2_with fail
   refine (HKY.out _).mono ?_;rintro e w3 ⟨rfl, hm⟩;replace HP1 := Lib.hid (HP1.out.trans hm);replace HB1 := Lib.hid (HB1.out.modp hm);replace HC1 := Lib.hid (HC1.out.modp hm);clear hm;clear x0 x1 HKY
   cases kb
   ·have HF : Hid (q = 5) := Lib.hid (by rw [HST.out, if_pos rfl]);clear HST HPV
    go_wp2_with fail
    go_ret;exact IntPost.of HF.out HP1.out
   ·have hX := HC1.out;have x0 := hX.cell 0; have x1 := hX.cell 1; simp at x0 x1;clear hX
    cases hle : leS x.item pv
    ·have hle2 : (Op.bytesLess x.item pv || x.item == pv) = false := hle;obtain ⟨ve, hve⟩ : ∃ ve, valsE L x.vals = ve := ⟨_, rfl⟩;rw [hve] at HVX;have HS2 : Hid (q = if ve ≠ 0 then ve else ceE L x.item (xs.drop (k + 1))) := Lib.hid (by rw [HST.out, if_neg (by simp), if_neg (by rw [hle]; simp), hve]);clear HST hle hve
     go_upto_region 12 with (fail)
     have hX := HB1.out;have y0 := hX.cell 0; have y1 := hX.cell 1; simp at y0 y1;clear hX
     go_wp2_with fail
     refine (HVX.out _ HP1.out).mono ?_;rintro e w4 ⟨rfl, hm⟩;replace HP1 := Lib.hid (HP1.out.trans hm);replace HB1 := Lib.hid (HB1.out.modp hm);clear hm;clear x0 x1 y0 y1 HVX HC1
     by_cases h0 : ve = 0
     ·subst h0;have HS3 : Hid (ceE L (prvC xs (k + 1)) (xs.drop (k + 1)) = q) := Lib.hid (by rw [HPV.out, HS2.out, if_neg (by simp)]);clear HS2
      go_wp2_with fail
      go_roundg (xs.length - (k + 1))
      case measure => omega
      case rel => exact ⟨k + 1, rfl, by omega, by simp, by rw [HPV.out], HS3.out, HB1.out, HP1.out⟩
     ·have h0' : (ve != 0) = true := by simpa using h0
      have HF : Hid (q = ve) := Lib.hid (by rw [HS2.out, if_pos h0]);clear HS2 HPV h0
      go_wp2_with fail
      go_ret;exact IntPost.of HF.out HP1.out
    ·have hle2 : (Op.bytesLess x.item pv || x.item == pv) = true := hle;have HF : Hid (q = 7) := Lib.hid (by rw [HST.out, if_neg (by simp), if_pos hle]);clear HST HPV hle
     go_wp2_with fail
     go_ret;exact IntPost.of HF.out HP1.out
  ·obtain rfl : k = xs.length := by omega
   have HS2 : Hid (q = 0) := Lib.hid (by rw [← hce, List.drop_of_length_le (Nat.le_refl _)]; rfl);clear hce hk hlt
   go_wp2_with fail
   go_ret;exact IntPost.of HS2.out hm

end Go.Proofs.YtpinlcapgoljfaaGreatDoor

/- The generator of decisions. -/
namespace Go.Proofs.YtpinlcapgoljfaaGreatDoor
open Go.RowKit

/-- A slice with something in it does not lie in block b. -/
def NbS (b : Nat) (v : Value) : Prop := ∀ g off n c, v = .slice (some ⟨g, off, none⟩) n c → 0 < n → g ≠ b
theorem Sl.nb {w : World} {e : TypeId} {size b N : Nat} {v : Value} {xs : List Value} (h : Sl w e size v xs) (hS : Strm w b N) (he : e ≠ 25) : NbS b v := by
 obtain ⟨A, n, c, rfl, _, _, _, h4⟩ := h;rintro g off n' c' hv hn
 injection hv with h1 h2 h3
 subst h2;obtain ⟨g2, o2, h5, hr⟩ := h4 hn;rw [h1] at h5
 injection h5 with h5
 injection h5 with h6
 subst h6;obtain ⟨_, _, _, _, hBs, _⟩ := hS;exact hr.ne hBs he
theorem Sl.modNb {w w' : World} {e : TypeId} {size b : Nat} {v : Value} {xs : List Value} (h : Sl w e size v xs) (hn : NbS b v) (hm : Mod (· = b) w w') : Sl w' e size v xs := by
 obtain ⟨A, n, c, rfl, h1, h2, h3, h4⟩ := h;refine ⟨A, n, c, rfl, h1, h2, h3, fun h0 => ?_⟩;obtain ⟨g, off, rfl, hr⟩ := h4 h0;exact ⟨g, off, rfl, hr.mod hm (hn g off n c rfl h0)⟩
/-- Values that do not lie in block b. -/
def VlsB (w : World) (b : Nat) (v : Value) (cs : List ChoR) : Prop := Vals w v cs ∧ NbS b v ∧ ∀ x ∈ cs, NbS b (.slice x.A x.ch.length x.c)
section
variable {w w' : World} {b N g q : Nat} {v u : Value} {cs : List ChoR} {cells : Array Value}
theorem VlsB.of (h : Vals w v cs) (hS : Strm w b N) : VlsB w b v cs := ⟨h, h.1.nb hS (by decide), fun x hx => (h.2 x hx).nb hS (by decide)⟩
theorem VlsB.ask (h : VlsB w b v cs) (hm : Mod (· = b) w w') : VlsB w' b v cs := ⟨⟨h.1.1.modNb h.2.1 hm, fun x hx => (h.1.2 x hx).modNb (h.2.2 x hx) hm⟩, h.2⟩
theorem VlsB.pure (h : VlsB w b v cs) (hm : Pure w w') : VlsB w' b v cs := ⟨h.1.pure hm, h.2⟩
end
/-- As the generator makes them. -/
def DecM (M K : Nat) (x : DecR) : Prop := -1099511627776 ≤ x.no ∧ x.no ≤ 1099511627776 ∧ -1099511627776 ≤ x.at_ ∧ x.at_ ≤ 1099511627776 ∧ x.rev.length ≤ 4 ∧ x.item.length ≤ 4 ∧ x.vals.length ≤ 4 ∧ ∀ c ∈ x.vals, ChoM M K c
theorem DecM.b {M K : Nat} {x : DecR} (h : DecM M K x) (h1 : M ≤ 1000) (h2 : K ≤ 100) : DecB x := by
 obtain ⟨a1, a2, a3, a4, a5, a6, a7, a8⟩ := h;exact ⟨a1, a2, a3, a4, by unfold StB; omega, by unfold StB; omega, by omega, fun c hc => (a8 c hc).b h1 h2⟩
section
variable {w w' : World} {b g8 : Nat} {x : DecR}
end

end Go.Proofs.YtpinlcapgoljfaaGreatDoor
