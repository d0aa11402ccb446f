/- Texts of the proof of DecisionClashes, put together: LatB, LatC, ClaA, ClaB, ClaC, LatD, LatE, ClaR, ClaQ. -/
import Derived.Test.YtkkndblcejmmjaaGreatDoorDecisionClashesZ28
import Derived.Test.YtkkndblcejmmjaaGreatDoorDecisionClashesZ29
import Derived.Test.YtkkndblcejmmjaaGreatDoorDecisionClashesZ36
import Derived.Test.YtkkndblcejmmjaaGreatDoorDecisionClashesZ40
import Derived.Test.YtkkndblcejmmjaaGreatDoorDecisionClashesZ41
import Derived.Test.YtkkndblcejmmjaaGreatDoorDecisionClashesZ42
/- CodingOf and Codings of the program. -/
namespace Go.Proofs.YtkkndblcejmmjaaGreatDoor
set_option linter.unusedVariables false
set_option linter.unusedSimpArgs false
open Go.RowKit

def moE (a : Int) : Int := if inB a 0 5761439 = true then 0 else 1
set_option maxRecDepth 100000 in
set_option maxHeartbeats 1000000 in
theorem momentE_calls (w : World) (a : Int) : Calls Tryz.prog 95 #[.int .i64 a] w (IntPost w (moE a)) := by
 have HQ : Hid (moE a = if inB a 0 5761439 = true then 0 else 1) := Lib.hid rfl
 have HM := Lib.hid (momD_calls a w)
 generalize moE a = q at *
 generalize inB a 0 5761439 = f at *
 go_enter Tryz.func95, Tryz.ntmps95
 go_wp2_with fail
 refine HM.out.mono ?_
 rintro e w1 ⟨rfl, rfl⟩
 go_wp2_with fail
 refine (whenQ_calls _ _ _ q (by rw [HQ.out]; cases f <;> rfl)).mono ?_
 rintro e w2 ⟨rfl, hm⟩
 go_wp2_with fail
 go_ret
 exact IntPost.of rfl hm
theorem cof3 (a b c : Int) : firstErr [a, b, c] = if a ≠ 0 then a else if b ≠ 0 then b else c := by
 simp only [firstErr]
 by_cases ha : a = 0
 ·by_cases hb : b = 0
  ·by_cases hc : c = 0 <;> simp [ha, hb, hc]
  ·simp [ha, hb]
 ·simp [ha]
theorem cof2 (a b : Int) : firstErr [a, b] = if a ≠ 0 then a else b := by
 simp only [firstErr]
 by_cases ha : a = 0
 ·by_cases hb : b = 0 <;> simp [ha, hb]
 ·simp [ha]
end Go.Proofs.YtkkndblcejmmjaaGreatDoor

/- Codings of the program. -/
namespace Go.Proofs.YtkkndblcejmmjaaGreatDoor
set_option linter.unusedVariables false
set_option linter.unusedSimpArgs false
open Go.RowKit

theorem uniq_len : ∀ l : List Str, (uniq l).length ≤ l.length
 | [] => by simp [uniq]
 | x :: t => by
  unfold uniq
  split
  ·exact Nat.le_trans (uniq_len t) (by simp)
  ·simpa using uniq_len t
def cogE (L : LayR) (ds : List DecR) (at_ : Int) : Int := if decsE L ds ≠ 0 then decsE L ds else moE at_
end Go.Proofs.YtkkndblcejmmjaaGreatDoor

/- Looks of the program: words, and the two maps. -/
namespace Go.Proofs.YtkkndblcejmmjaaGreatDoor
set_option linter.unusedVariables false
set_option linter.unusedSimpArgs false
open Go.RowKit

/-- Of those on an item that satisfy pp, the latest. -/
def latP (al : List AskR) (pp : Str → DecR → Bool) (ds : List DecR) (s : Str) : Option DecR := latO al (fun y => decide (y.item = s) && pp s y) ds
def condG (al : List AskR) (pp : Str → DecR → Bool) (o : Option DecR) (x : DecR) : Bool := pp x.item x && (!o.isSome || decide (0 < laterP al x (o.getD decN)))
theorem latP_step (al : List AskR) (pp : Str → DecR → Bool) (ds : List DecR) (x : DecR) (s : Str) : latP al pp (ds ++ [x]) s = if condG al pp (latP al pp ds x.item) x = true then (if s = x.item then some x else latP al pp ds s) else latP al pp ds s := by
 unfold latP
 rw [latO_snoc]
 unfold latF
 by_cases hs : x.item = s
 ·subst hs
  unfold condG
  by_cases ha : pp x.item x = true
  ·simp only [ha, decide_true, Bool.and_self, Bool.true_and, if_true]
   generalize latO al (fun y => decide (y.item = x.item) && pp x.item y) ds = o
   cases o with
   | none => simp
   | some y => simp only [laterS, sgI_pos, Option.isSome_some, Bool.not_true, Bool.false_or, Option.getD_some, decide_eq_true_eq]
  ·simp [ha]
 ·have h2 : ¬ s = x.item := fun e => hs e.symm
  simp [hs, h2]
def mapP (al : List AskR) (pp : Str → DecR → Bool) (ds : List DecR) (s : Str) : Option Value := (latP al pp ds s).map DecVal
theorem mapP_yes {al : List AskR} {pp : Str → DecR → Bool} {ds : List DecR} {x : DecR} (h : condG al pp (latP al pp ds x.item) x = true) : (fun s => if s = x.item then some (DecVal x) else mapP al pp ds s) = mapP al pp (ds ++ [x]) := by
 funext s
 unfold mapP
 rw [latP_step, if_pos h]
 by_cases hs : s = x.item
 ·rw [if_pos hs, if_pos hs]; rfl
 ·rw [if_neg hs, if_neg hs]
theorem mapP_no {al : List AskR} {pp : Str → DecR → Bool} {ds : List DecR} {x : DecR} (h : condG al pp (latP al pp ds x.item) x = false) : mapP al pp ds = mapP al pp (ds ++ [x]) := by
 funext s
 unfold mapP
 rw [latP_step, if_neg (by simp [h])]
theorem mapP_get (al : List AskR) (pp : Str → DecR → Bool) (ds : List DecR) (s : Str) : (mapP al pp ds s).getD (DecVal decN) = DecVal ((latP al pp ds s).getD decN) ∧ (mapP al pp ds s).isSome = (latP al pp ds s).isSome := by
 unfold mapP
 cases latP al pp ds s <;> exact ⟨rfl, rfl⟩
theorem latP_mem {al : List AskR} {pp : Str → DecR → Bool} {ds : List DecR} {s : Str} {y : DecR} (h : latP al pp ds s = some y) : y ∈ ds := (latO_mem al _ ds h).1
/-- Second looks; first looks. -/
def ppS (at_ : Int) (_ : Str) (y : DecR) : Bool := y.sec && decide (y.at_ ≤ at_)
def ppF (al : List AskR) (ds : List DecR) (at_ : Int) (s : Str) (y : DecR) : Bool := match sekO al ds at_ s with | none => false | some z => !y.sec && decide (laterS al y z = -1)
theorem sek_latP (al : List AskR) (ds : List DecR) (at_ : Int) (s : Str) : latP al (ppS at_) ds s = sekO al ds at_ s := rfl
theorem fir_latP (al : List AskR) (ds : List DecR) (at_ : Int) (s : Str) : latP al (ppF al ds at_) ds s = firO al ds at_ s := rfl
/-- What the program asks in the second round: not passed over, and later than the one so far. -/
def skipB (al : List AskR) (so : Option DecR) (x : DecR) : Bool := x.sec || (!so.isSome || !decide (laterP al x (so.getD decN) < 0))
theorem ppF_skip (al : List AskR) (ds : List DecR) (at_ : Int) (x : DecR) : ppF al ds at_ x.item x = !skipB al (sekO al ds at_ x.item) x := by
 unfold ppF skipB
 cases sekO al ds at_ x.item with
 | none => simp
 | some z => simp [laterS, sgI_neg]

end Go.Proofs.YtkkndblcejmmjaaGreatDoor

/- Looks of the program. -/
namespace Go.Proofs.YtkkndblcejmmjaaGreatDoor
set_option linter.unusedVariables false
set_option linter.unusedSimpArgs false
open Go.RowKit

/-- Two looks in memory. -/
abbrev LkR := DecR × DecR
def lkC (x : LkR) : List Value := decC x.1 ++ decC x.2
def lkV (xs : List LkR) : List Value := xs.flatMap lkC
theorem lkV_len : ∀ xs : List LkR, (lkV xs).length = xs.length * 12
 | [] => rfl
 | x :: t => by
  show (lkC x ++ lkV t).length = _
  rw [List.length_append, lkV_len t]
  simp [lkC, decC]; omega
theorem lkV_snoc (xs : List LkR) (p : LkR) : lkV (xs ++ [p]) = lkV xs ++ lkC p := by simp [lkV]
def LkS (W : World) (xs : List LkR) : Prop := ∀ x ∈ xs, DecEl W x.1 ∧ DecEl W x.2
theorem LkS.pure {W W' : World} {xs : List LkR} (h : LkS W xs) (hm : Pure W W') : LkS W' xs := fun x hx => ⟨(h x hx).1.pure hm, (h x hx).2.pure hm⟩
def Lks (W : World) (v : Value) (xs : List LkR) : Prop := Sl W 151 12 v (lkV xs) ∧ LkS W xs
theorem Lks.pure {W W' : World} {v : Value} {xs : List LkR} (h : Lks W v xs) (hm : Pure W W') : Lks W' v xs := ⟨h.1.pure hm, h.2.pure hm⟩
theorem info_look : (Tryz.prog.info? 151).map (fun i => (i.zero, i.size, i.bytes)) = some (some (.agg #[.int .i64 0, .int .i64 0, .string ⟨#[]⟩, .string ⟨#[]⟩, .bool false, .slice none 0 0, .int .i64 0, .int .i64 0, .string ⟨#[]⟩, .string ⟨#[]⟩, .bool false, .slice none 0 0]), 12, 160) := by kernel_rfl
/-- The items with a first look. -/
def fiL (al : List AskR) (ds : List DecR) (at_ : Int) : List Str := (itemsD ds).filter (fun i => (firO al ds at_ i).isSome)
def fkL (al : List AskR) (ds : List DecR) (at_ : Int) : List Str := (uniq (ds.map (·.item))).filter (fun i => (firO al ds at_ i).isSome)
theorem fkL_mem (al : List AskR) (ds : List DecR) (at_ : Int) (i : Str) : i ∈ fkL al ds at_ ↔ (firO al ds at_ i).isSome = true := by
 unfold fkL
 rw [List.mem_filter, mem_uniq]
 constructor
 ·exact fun h => h.2
 ·intro h
  refine ⟨?_, h⟩
  obtain ⟨y, hy⟩ := Option.isSome_iff_exists.1 h
  obtain ⟨h1, h2, _⟩ := firO_item hy
  exact List.mem_map.2 ⟨y, h1, h2⟩
theorem fkL_sort (al : List AskR) (ds : List DecR) (at_ : Int) : ((fkL al ds at_).mergeSort fun x y => decide (x ≤ y)) = fiL al ds at_ := keys_items ((nodup_uniq _).filter _) (fkL_mem al ds at_) (fun i h => by
 obtain ⟨f, hf⟩ := Option.isSome_iff_exists.1 h
 obtain ⟨h1, h2, _⟩ := firO_item hf
 exact ⟨f, h1, h2⟩)
theorem fiL_looks (al : List AskR) (ds : List DecR) (at_ : Int) : (fiL al ds at_).filterMap (lkO al ds at_) = looksP al ds at_ := by
 rw [← fkL_sort]
 exact looks_keys ((nodup_uniq _).filter _) (fkL_mem al ds at_)
theorem fiL_mem {al : List AskR} {ds : List DecR} {at_ : Int} {i : Str} (h : i ∈ fiL al ds at_) : ∃ f s, firO al ds at_ i = some f ∧ sekO al ds at_ i = some s ∧ f ∈ ds ∧ s ∈ ds ∧ f.item = i := by
 rw [← fkL_sort, (List.mergeSort_perm _ _).mem_iff, fkL_mem] at h
 obtain ⟨f, hf⟩ := Option.isSome_iff_exists.1 h
 obtain ⟨h1, h2, s, hs⟩ := firO_item hf
 exact ⟨f, s, hf, hs, h1, (latO_mem al _ ds hs).1, h2⟩
theorem fiL_len (al : List AskR) (ds : List DecR) (at_ : Int) : (fiL al ds at_).length ≤ ds.length := by
 rw [← fkL_sort, List.length_mergeSort]
 unfold fkL
 have h1 := List.length_filter_le (fun i => (firO al ds at_ i).isSome) (uniq (ds.map (·.item)))
 have h2 := uniq_len (ds.map (·.item))
 simp at h2
 omega
def LkPost (w : World) (xs : List LkR) (e : Ending) (w' : World) : Prop := ∃ (A : Option Addr) (c : Nat), e = .returned (.slice A xs.length c) ∧ Lks w' (.slice A xs.length c) xs ∧ Pure w w'
def LkRel3 (w4 : World) (base : Nat) (al : List AskR) (at_ : Int) (ds : List DecR) (gk : Nat) (x i : Value) (wr : World) : Prop :=
 ∃ (k cap : Nat) (Ao : Option Addr) (xs : List LkR), (fiL al ds at_).length - k = gk ∧ k ≤ (fiL al ds at_).length ∧ x = .slice Ao xs.length cap ∧ i = .int .i64 (k : Int) ∧ xs = ((fiL al ds at_).take k).filterMap (lkO al ds at_) ∧ xs.length ≤ k ∧ wr.ownsRow base 151 12 (.slice Ao xs.length cap) xs.length (lkV xs) ∧ Pure w4 wr ∧ base ≤ wr.heap.size
def LkRel1 (w : World) (b g3 : Nat) (lay : Array Value) (al : List AskR) (at_ : Int) (ds : List DecR) (gk : Nat) (i : Value) (wr : World) : Prop :=
 ∃ k n : Nat, ds.length - k = gk ∧ k ≤ ds.length ∧ i = .int .i64 (k : Int) ∧ MapS wr b n (mapP al (ppS at_) (ds.take k)) ∧ n ≤ k ∧ Blk wr g3 29 lay ∧ Pure w wr
def LkRel2 (w : World) (b b2 n1 g3 : Nat) (lay : Array Value) (al : List AskR) (at_ : Int) (ds : List DecR) (gk : Nat) (i : Value) (wr : World) : Prop :=
 ∃ k n : Nat, ds.length - k = gk ∧ k ≤ ds.length ∧ i = .int .i64 (k : Int) ∧ MapS wr b2 n (mapP al (ppF al ds at_) (ds.take k)) ∧ n ≤ k ∧ MapS wr b n1 (mapP al (ppS at_) ds) ∧ Blk wr g3 29 lay ∧ Pure w wr
theorem MapS.noblk {w : World} {b n g : Nat} {f : Str → Option Value} {t : TypeId} {cs : Array Value} (h : MapS w b n f) (hB : Blk w g t cs) : g ≠ b := by
 intro e
 obtain ⟨D0, hown, _⟩ := h
 obtain ⟨es, clock, hbb, _⟩ := hown
 unfold Blk at hB
 rw [e, hbb] at hB
 cases hB

set_option maxRecDepth 100000 in
set_option maxHeartbeats 16000000 in
theorem looks_calls (w : World) (vl : Value) (L : LayR) (A3 : Option Addr) (n3 c3 : Nat) (ds : List DecR) (at_ : Int) (hL : LayV w L vl) (hLB : LayB L) (hD : Decs w (.slice A3 n3 c3) ds) (hz : ∀ d ∈ ds, DecB d) (hn : ds.length ≤ 4000) (hk : ∀ d ∈ ds, ∀ z ∈ d.vals, 0 ≤ kIx L.asks z.field) :
  Calls Tryz.prog 104 #[vl, .slice A3 n3 c3, .int .i64 at_] w (LkPost w (looksP L.asks ds at_)) := by
 have HLT := Lib.hid (fun W (h : Pure w W) (x y : DecR) (hx : x ∈ ds) (hy : y ∈ ds) => later_calls W vl L x y (hL.pure h) hLB ((hD.2 x hx).pure h) ((hD.2 y hy).pure h) (hz x hx) (hz y hy) (hk x hx))
 have hl := hD.len
 subst hl
 have HD := Lib.hid hD
 have HZ := Lib.hid hz
 obtain ⟨A, n, c, A2, n2, c2, rfl, _, _⟩ := hL
 have HB0 := Lib.hid (Blk.new w 29 #[.slice A n c, .slice A2 n2 c2])
 have HP0 := Lib.hid (pure_alloc w (.cells #[.slice A n c, .slice A2 n2 c2] 29))
 clear hLB hD hz hk
 have hmm := @run_makeMap Tryz.prog
 go_enter Tryz.func104, Tryz.ntmps104
 go_upto_region 1 with (fail)
 generalize (w.alloc (.cells #[.slice A n c, .slice A2 n2 c2] 29)) = w1 at *
 generalize w.heap.size = g3 at *
 have HM0 := Lib.hid (MapS.made w1)
 have HP1 := Lib.hid (HP0.out.trans (pure_alloc w1 (.map #[] 0)))
 have HB1 := Lib.hid (HB0.out.alloc (.map #[] 0))
 have hws := HP0.out.size
 go_upto_region 2 with (fail)
 generalize hbm : w1.heap.size = b at *
 have hwb : w.heap.size ≤ b := by omega
 generalize w1.alloc (.map #[] 0) = w2 at *
 clear hbm hws HP0 HB0
 go_wp2_with fail
 go_loopg [27] ds.length (fun gk i wr => LkRel1 w b g3 #[.slice A n c, .slice A2 n2 c2] L.asks at_ ds gk i wr)
 case atStart => exact ⟨0, 0, by omega, by omega, rfl, HM0.out, by omega, HB1.out, HP1.out⟩
 case round =>
  clear HM0 HP1 HB1
  obtain ⟨k, nn, rfl, hk, rfl, hM, hnk, hB, hm⟩ := hrel
  by_cases hlt : k < ds.length
  ·obtain ⟨g, off, rfl, q0, q1, q2, q3, q4, q5⟩ := (HD.out.pure hm).cells hlt
   have hxz := HZ.out _ (List.getElem_mem hlt)
   have HXM := Lib.hid (List.getElem_mem hlt)
   have HTK := Lib.hid (List.take_succ_eq_append_getElem hlt)
   have HTM : Hid (∀ y, latP L.asks (ppS at_) (ds.take k) (ds[k]).item = some y → y ∈ ds) := Lib.hid (fun y hy => List.mem_of_mem_take (latP_mem hy))
   have hbw := hM.lt
   have hgw := hB.lt
   generalize ds[k] = x at *
   have hlook := (hM.al (.cells (decC x).toArray 40)).look_ok (e := 40) Tryz.underlying138 zero_dec x.item (by have := hxz.2.2.2.2.2.1; unfold StB at this; omega)
   rw [(mapP_get L.asks (ppS at_) (ds.take k) x.item).1, (mapP_get L.asks (ppS at_) (ds.take k) x.item).2] at hlook
   have HCE : Hid (condG L.asks (ppS at_) (latP L.asks (ppS at_) (ds.take k) x.item) x = (ppS at_ x.item x && (!(latP L.asks (ppS at_) (ds.take k) x.item).isSome || decide (0 < laterP L.asks x ((latP L.asks (ppS at_) (ds.take k) x.item).getD decN))))) := Lib.hid rfl
   have HYES := Lib.hid (mapP_yes (al := L.asks) (pp := ppS at_) (ds := ds.take k) (x := x))
   have HNO := Lib.hid (mapP_no (al := L.asks) (pp := ppS at_) (ds := ds.take k) (x := x))
   generalize condG L.asks (ppS at_) (latP L.asks (ppS at_) (ds.take k) x.item) x = cd at *
   generalize latP L.asks (ppS at_) (ds.take k) x.item = o at *
   have HM1 := Lib.hid hM
   have HB1 := Lib.hid hB
   have HP1 := Lib.hid hm
   have HXZ := Lib.hid hxz
   have HLY : Hid (∀ W, Pure wr W → ∀ y, o = some y → Calls Tryz.prog 148 #[.agg #[.slice A n c, .slice A2 n2 c2], DecVal x, DecVal y] W (IntD W (laterP L.asks x y))) := Lib.hid (fun W h y hy => HLT.out W (hm.trans h) x y HXM.out (HTM.out y hy))
   clear hM hB hm hxz
   generalize hy : o.getD decN = y at *
   have HY := Lib.hid hy
   clear hy
   obtain ⟨xno, xat, xrev, xitem, xsec, xA, xc, xv⟩ := x
   obtain ⟨yno, yat, yrev, yitem, ysec, yA, yc, yv⟩ := y
   simp only [decC, DecVal.eq, ppS] at *
   go_upto_region 5 with (fail)
   have HBX := Lib.hid (Blk.new wr 40 #[.int .i64 xno, .int .i64 xat, .string ⟨xrev.toArray⟩, .string ⟨xitem.toArray⟩, .bool xsec, .slice xA xv.length xc])
   have HM2 := Lib.hid (HM1.out.al (.cells #[.int .i64 xno, .int .i64 xat, .string ⟨xrev.toArray⟩, .string ⟨xitem.toArray⟩, .bool xsec, .slice xA xv.length xc] 40))
   have HB2 := Lib.hid (HB1.out.alloc (.cells #[.int .i64 xno, .int .i64 xat, .string ⟨xrev.toArray⟩, .string ⟨xitem.toArray⟩, .bool xsec, .slice xA xv.length xc] 40))
   have HPA : Hid (Pure wr (wr.alloc (.cells #[.int .i64 xno, .int .i64 xat, .string ⟨xrev.toArray⟩, .string ⟨xitem.toArray⟩, .bool xsec, .slice xA xv.length xc] 40))) := Lib.hid (pure_alloc _ _)
   clear q0 q1 q2 q3 q4 q5
   generalize (wr.alloc (.cells #[.int .i64 xno, .int .i64 xat, .string ⟨xrev.toArray⟩, .string ⟨xitem.toArray⟩, .bool xsec, .slice xA xv.length xc] 40)) = wa at *
   generalize wr.heap.size = g9 at *
   have hX := HBX.out
   have d0 := hX.cell 0; have d1 := hX.cell 1; have d2 := hX.cell 2; have d3 := hX.cell 3; have d4 := hX.cell 4; have d5 := hX.cell 5; simp at d0 d1 d2 d3 d4 d5
   clear hX
   go_upto_region 6 with (fail)
   have HBX2 := Lib.hid (HBX.out.alloc (.cells #[.int .i64 yno, .int .i64 yat, .string ⟨yrev.toArray⟩, .string ⟨yitem.toArray⟩, .bool ysec, .slice yA yv.length yc] 40))
   have HBY2 := Lib.hid (Blk.new wa 40 #[.int .i64 yno, .int .i64 yat, .string ⟨yrev.toArray⟩, .string ⟨yitem.toArray⟩, .bool ysec, .slice yA yv.length yc])
   have HM3 := Lib.hid (HM2.out.al (.cells #[.int .i64 yno, .int .i64 yat, .string ⟨yrev.toArray⟩, .string ⟨yitem.toArray⟩, .bool ysec, .slice yA yv.length yc] 40))
   have HB3 := Lib.hid (HB2.out.alloc (.cells #[.int .i64 yno, .int .i64 yat, .string ⟨yrev.toArray⟩, .string ⟨yitem.toArray⟩, .bool ysec, .slice yA yv.length yc] 40))
   have HPB : Hid (Pure wr (wa.alloc (.cells #[.int .i64 yno, .int .i64 yat, .string ⟨yrev.toArray⟩, .string ⟨yitem.toArray⟩, .bool ysec, .slice yA yv.length yc] 40))) := Lib.hid (HPA.out.trans (pure_alloc _ _))
   clear d0 d1 d2 d3 d4 d5 hlook HBX HM2 HB2 HPA HM1 HB1
   generalize (wa.alloc (.cells #[.int .i64 yno, .int .i64 yat, .string ⟨yrev.toArray⟩, .string ⟨yitem.toArray⟩, .bool ysec, .slice yA yv.length yc] 40)) = wb at *
   generalize wa.heap.size = g10 at *
   have HLZ : Hid (o.isSome = true → ∀ W, Pure wr W → Calls Tryz.prog 148 #[.agg #[.slice A n c, .slice A2 n2 c2], .agg #[.int .i64 xno, .int .i64 xat, .string ⟨xrev.toArray⟩, .string ⟨xitem.toArray⟩, .bool xsec, .slice xA xv.length xc], .agg #[.int .i64 yno, .int .i64 yat, .string ⟨yrev.toArray⟩, .string ⟨yitem.toArray⟩, .bool ysec, .slice yA yv.length yc]] W (IntD W (laterP L.asks ⟨xno, xat, xrev, xitem, xsec, xA, xc, xv⟩ ⟨yno, yat, yrev, yitem, ysec, yA, yc, yv⟩))) := Lib.hid (fun ho W h => by
    cases o with
    | none => cases ho
    | some q =>
     have hz : q = ⟨yno, yat, yrev, yitem, ysec, yA, yc, yv⟩ := HY.out
     have := HLY.out W h q rfl
     rw [hz] at this
     exact this)
   generalize laterP L.asks ⟨xno, xat, xrev, xitem, xsec, xA, xc, xv⟩ ⟨yno, yat, yrev, yitem, ysec, yA, yc, yv⟩ = lp at *
   go_cut [56] (fun p wx => p = .bool cd ∧ Pure wb wx)
   case first =>
    have hX := HBX2.out
    have hY := HBY2.out
    have hB := HB3.out
    have d0 := hX.cell 0; have d1 := hX.cell 1; have d2 := hX.cell 2; have d3 := hX.cell 3; have d4 := hX.cell 4; have d5 := hX.cell 5; simp at d0 d1 d2 d3 d4 d5
    have e0 := hY.cell 0; have e1 := hY.cell 1; have e2 := hY.cell 2; have e3 := hY.cell 3; have e4 := hY.cell 4; have e5 := hY.cell 5; simp at e0 e1 e2 e3 e4 e5
    have l0 := hB.cell 0; have l1 := hB.cell 1; simp at l0 l1
    clear hX hY hB
    generalize o.isSome = os at *
    cases xsec
    ·have HZC : Hid (cd = false) := Lib.hid (by rw [HCE.out]; simp)
     clear HCE HLZ
     go_wp2_with fail
     go_meet
     exact ⟨by rw [HZC.out], Mod.refl _ _⟩
    ·by_cases h1 : xat ≤ at_
     ·cases os
      ·have HZC : Hid (cd = true) := Lib.hid (by rw [HCE.out]; simp [h1])
       clear HCE HLZ
       go_wp2_with fail
       go_meet
       exact ⟨by rw [HZC.out], Mod.refl _ _⟩
      ·have HLW := Lib.hid (HLZ.out rfl wb HPB.out)
       clear HLZ
       have HZC : Hid (cd = decide (0 < lp)) := Lib.hid (by rw [HCE.out]; simp [h1])
       clear HCE
       go_wp2_with fail
       refine HLW.out.mono ?_
       rintro e w7 ⟨rfl, hm7⟩
       have HM7 := Lib.hid hm7.1
       clear hm7
       go_wp2_with fail
       go_meet
       exact ⟨by rw [HZC.out], HM7.out⟩
     ·have HZC : Hid (cd = false) := Lib.hid (by rw [HCE.out]; simp [h1])
      clear HCE HLZ
      go_wp2_with fail
      go_meet
      exact ⟨by rw [HZC.out], Mod.refl _ _⟩
   case rest =>
    obtain ⟨rfl, hmx⟩ := hcut
    have HM4 := Lib.hid (HM3.out.pure hmx)
    have HB4 := Lib.hid (HB3.out.modp hmx)
    have HPC := Lib.hid (HPB.out.trans hmx)
    have hX := HBX2.out.modp hmx
    clear hmx HM3 HB3 HPB HBX2 HBY2 HCE HLZ HLY HY
    have d0 := hX.cell 0; have d1 := hX.cell 1; have d2 := hX.cell 2; have d3 := hX.cell 3; have d4 := hX.cell 4; have d5 := hX.cell 5; simp at d0 d1 d2 d3 d4 d5
    clear hX
    cases cd
    ·go_wp2_with fail
     go_roundg (ds.length - (k + 1))
     case measure => omega
     case rel => exact ⟨k + 1, nn, rfl, by omega, by simp, by rw [HTK.out, ← HNO.out (by trivial)]; exact HM4.out, by omega, HB4.out, HP1.out.trans HPC.out⟩
    ·obtain ⟨w9, hrun, hM9, hm9⟩ := HM4.out.store Tryz.underlying138 (by omega) xitem (by have := HXZ.out.2.2.2.2.2.1; unfold StB at this; simp only at this; omega) (DecVal ⟨xno, xat, xrev, xitem, xsec, xA, xc, xv⟩)
     have HM9 : Hid (MapS w9 b (nn + 1) (mapP L.asks (ppS at_) (ds.take k ++ [⟨xno, xat, xrev, xitem, xsec, xA, xc, xv⟩]))) := Lib.hid (by rw [← HYES.out (by trivial)]; exact hM9)
     rw [DecVal.eq] at hrun
     have HP9 := Lib.hid ((HP1.out.trans HPC.out).trans' hm9 (fun i hi hl => by omega))
     have HB9 := Lib.hid (HB4.out.mod hm9 (HM4.out.noblk HB4.out))
     clear hM9 hm9 HM4 HB4 HPC HYES HNO
     go_wp2_with fail
     go_roundg (ds.length - (k + 1))
     case measure => omega
     case rel => exact ⟨k + 1, nn + 1, rfl, by omega, by simp, by rw [HTK.out]; exact HM9.out, by omega, HB9.out, HP9.out⟩
  ·have hke : k = ds.length := by omega
   rw [List.take_of_length_le (by omega)] at hM
   have HMB := Lib.hid (MapS.made wr)
   have HBB := Lib.hid (hB.alloc (.map #[] 0))
   have HMA := Lib.hid (hM.al (.map #[] 0))
   have HPP := Lib.hid (hm.trans (pure_alloc wr (.map #[] 0)))
   have hws := hm.size
   have hbw := hM.lt
   clear hM hB hm hke hnk
   go_upto_region 10 with (fail)
   generalize hb2 : wr.heap.size = b2 at *
   have hbb : b < b2 := by omega
   have hwb2 : w.heap.size ≤ b2 := by omega
   generalize wr.alloc (.map #[] 0) = w3 at *
   clear hb2 hws hbw hmm
   clear wr
   go_wp2_with fail
   go_loopg [65] ds.length (fun gk i wr => LkRel2 w b b2 nn g3 #[.slice A n c, .slice A2 n2 c2] L.asks at_ ds gk i wr)
   case atStart => exact ⟨0, 0, by omega, by omega, rfl, HMB.out, by omega, HMA.out, HBB.out, HPP.out⟩
   case round =>
    clear HMB HMA HBB HPP
    obtain ⟨k, m, rfl, hk, rfl, hM, hnk, hMS, hB, hm⟩ := hrel
    by_cases hlt : k < ds.length
    ·obtain ⟨g, off, rfl, q0, q1, q2, q3, q4, q5⟩ := (HD.out.pure hm).cells hlt
     have hxz := HZ.out _ (List.getElem_mem hlt)
     have HXM := Lib.hid (List.getElem_mem hlt)
     have HTK := Lib.hid (List.take_succ_eq_append_getElem hlt)
     have HTM : Hid (∀ y, latP L.asks (ppF L.asks ds at_) (ds.take k) (ds[k]).item = some y → y ∈ ds) := Lib.hid (fun y hy => List.mem_of_mem_take (latP_mem hy))
     have HTS : Hid (∀ y, sekO L.asks ds at_ (ds[k]).item = some y → y ∈ ds) := Lib.hid (fun y hy => (latO_mem L.asks _ ds hy).1)
     have hbw := hM.lt
     have hgw := hB.lt
     generalize ds[k] = x at *
     have hsl : x.item.length ≤ 1000 := hxz.2.2.2.2.2.1
     have HLK1 := Lib.hid (fun W (h : Pure wr W) => by
      have := (hMS.pure h).look_ok (e := 40) Tryz.underlying138 zero_dec x.item (by omega)
      rw [(mapP_get L.asks (ppS at_) ds x.item).1, (mapP_get L.asks (ppS at_) ds x.item).2, sek_latP] at this
      exact this)
     have HLK2 := Lib.hid (fun W (h : Pure wr W) => by
      have := (hM.pure h).look_ok (e := 40) Tryz.underlying138 zero_dec x.item (by omega)
      rw [(mapP_get L.asks (ppF L.asks ds at_) (ds.take k) x.item).1, (mapP_get L.asks (ppF L.asks ds at_) (ds.take k) x.item).2] at this
      exact this)
     have HSK : Hid (ppF L.asks ds at_ x.item x = !(x.sec || (!(sekO L.asks ds at_ x.item).isSome || !decide (laterP L.asks x ((sekO L.asks ds at_ x.item).getD decN) < 0)))) := Lib.hid (ppF_skip L.asks ds at_ x)
     have HCE : Hid (condG L.asks (ppF L.asks ds at_) (latP L.asks (ppF L.asks ds at_) (ds.take k) x.item) x = (ppF L.asks ds at_ x.item x && (!(latP L.asks (ppF L.asks ds at_) (ds.take k) x.item).isSome || decide (0 < laterP L.asks x ((latP L.asks (ppF L.asks ds at_) (ds.take k) x.item).getD decN))))) := Lib.hid rfl
     have HYES := Lib.hid (mapP_yes (al := L.asks) (pp := ppF L.asks ds at_) (ds := ds.take k) (x := x))
     have HNO := Lib.hid (mapP_no (al := L.asks) (pp := ppF L.asks ds at_) (ds := ds.take k) (x := x))
     generalize condG L.asks (ppF L.asks ds at_) (latP L.asks (ppF L.asks ds at_) (ds.take k) x.item) x = cd at *
     generalize latP L.asks (ppF L.asks ds at_) (ds.take k) x.item = o at *
     generalize sekO L.asks ds at_ x.item = so at *
     have HM1 := Lib.hid hM
     have HS1 := Lib.hid hMS
     have HB1 := Lib.hid hB
     have HP1 := Lib.hid hm
     have HXZ := Lib.hid hxz
     have HLY : Hid (∀ W, Pure wr W → ∀ y, o = some y → Calls Tryz.prog 148 #[.agg #[.slice A n c, .slice A2 n2 c2], DecVal x, DecVal y] W (IntD W (laterP L.asks x y))) := Lib.hid (fun W h y hy => HLT.out W (hm.trans h) x y HXM.out (HTM.out y hy))
     have HLS : Hid (∀ W, Pure wr W → ∀ y, so = some y → Calls Tryz.prog 148 #[.agg #[.slice A n c, .slice A2 n2 c2], DecVal x, DecVal y] W (IntD W (laterP L.asks x y))) := Lib.hid (fun W h y hy => HLT.out W (hm.trans h) x y HXM.out (HTS.out y hy))
     clear hM hMS hB hm hxz
     generalize hy : so.getD decN = y at *
     generalize hz : o.getD decN = z at *
     have HY := Lib.hid hy
     have HZZ := Lib.hid hz
     clear hy hz
     obtain ⟨xno, xat, xrev, xitem, xsec, xA, xc, xv⟩ := x
     obtain ⟨yno, yat, yrev, yitem, ysec, yA, yc, yv⟩ := y
     obtain ⟨zno, zat, zrev, zitem, zsec, zA, zc, zv⟩ := z
     simp only [decC, DecVal.eq] at *
     go_upto_region 13 with (fail)
     have HBX := Lib.hid (Blk.new wr 40 #[.int .i64 xno, .int .i64 xat, .string ⟨xrev.toArray⟩, .string ⟨xitem.toArray⟩, .bool xsec, .slice xA xv.length xc])
     have HPA : Hid (Pure wr (wr.alloc (.cells #[.int .i64 xno, .int .i64 xat, .string ⟨xrev.toArray⟩, .string ⟨xitem.toArray⟩, .bool xsec, .slice xA xv.length xc] 40))) := Lib.hid (pure_alloc _ _)
     have hg9 : g3 < wr.heap.size := hgw
     clear q0 q1 q2 q3 q4 q5
     have HLZ : Hid (o.isSome = true → ∀ W, Pure wr W → Calls Tryz.prog 148 #[.agg #[.slice A n c, .slice A2 n2 c2], .agg #[.int .i64 xno, .int .i64 xat, .string ⟨xrev.toArray⟩, .string ⟨xitem.toArray⟩, .bool xsec, .slice xA xv.length xc], .agg #[.int .i64 zno, .int .i64 zat, .string ⟨zrev.toArray⟩, .string ⟨zitem.toArray⟩, .bool zsec, .slice zA zv.length zc]] W (IntD W (laterP L.asks ⟨xno, xat, xrev, xitem, xsec, xA, xc, xv⟩ ⟨zno, zat, zrev, zitem, zsec, zA, zc, zv⟩))) := Lib.hid (fun ho W h => by
     cases o with
     | none => cases ho
     | some q =>
      have hz : q = ⟨zno, zat, zrev, zitem, zsec, zA, zc, zv⟩ := HZZ.out
      have := HLY.out W h q rfl
      rw [hz] at this
      exact this)
     have HLX : Hid (so.isSome = true → ∀ W, Pure wr W → Calls Tryz.prog 148 #[.agg #[.slice A n c, .slice A2 n2 c2], .agg #[.int .i64 xno, .int .i64 xat, .string ⟨xrev.toArray⟩, .string ⟨xitem.toArray⟩, .bool xsec, .slice xA xv.length xc], .agg #[.int .i64 yno, .int .i64 yat, .string ⟨yrev.toArray⟩, .string ⟨yitem.toArray⟩, .bool ysec, .slice yA yv.length yc]] W (IntD W (laterP L.asks ⟨xno, xat, xrev, xitem, xsec, xA, xc, xv⟩ ⟨yno, yat, yrev, yitem, ysec, yA, yc, yv⟩))) := Lib.hid (fun ho W h => by
     cases so with
     | none => cases ho
     | some q =>
      have hz : q = ⟨yno, yat, yrev, yitem, ysec, yA, yc, yv⟩ := HY.out
      have := HLS.out W h q rfl
      rw [hz] at this
      exact this)
     have hlook := HLK1.out _ HPA.out
     generalize (wr.alloc (.cells #[.int .i64 xno, .int .i64 xat, .string ⟨xrev.toArray⟩, .string ⟨xitem.toArray⟩, .bool xsec, .slice xA xv.length xc] 40)) = wa at *
     generalize wr.heap.size = g9 at *
     have hX := HBX.out
     have d0 := hX.cell 0; have d1 := hX.cell 1; have d2 := hX.cell 2; have d3 := hX.cell 3; have d4 := hX.cell 4; have d5 := hX.cell 5; simp at d0 d1 d2 d3 d4 d5
     clear hX
     go_upto_region 14 with (fail)
     have HBX2 := Lib.hid (HBX.out.alloc (.cells #[.int .i64 yno, .int .i64 yat, .string ⟨yrev.toArray⟩, .string ⟨yitem.toArray⟩, .bool ysec, .slice yA yv.length yc] 40))
     have HBY2 := Lib.hid (Blk.new wa 40 #[.int .i64 yno, .int .i64 yat, .string ⟨yrev.toArray⟩, .string ⟨yitem.toArray⟩, .bool ysec, .slice yA yv.length yc])
     have HPB : Hid (Pure wr (wa.alloc (.cells #[.int .i64 yno, .int .i64 yat, .string ⟨yrev.toArray⟩, .string ⟨yitem.toArray⟩, .bool ysec, .slice yA yv.length yc] 40))) := Lib.hid (HPA.out.trans (pure_alloc _ _))
     clear d0 d1 d2 d3 d4 d5 hlook HBX HPA HLK1
     generalize (wa.alloc (.cells #[.int .i64 yno, .int .i64 yat, .string ⟨yrev.toArray⟩, .string ⟨yitem.toArray⟩, .bool ysec, .slice yA yv.length yc] 40)) = wb at *
     generalize wa.heap.size = g10 at *
     generalize laterP L.asks ⟨xno, xat, xrev, xitem, xsec, xA, xc, xv⟩ ⟨yno, yat, yrev, yitem, ysec, yA, yc, yv⟩ = ls at *
     generalize laterP L.asks ⟨xno, xat, xrev, xitem, xsec, xA, xc, xv⟩ ⟨zno, zat, zrev, zitem, zsec, zA, zc, zv⟩ = lp at *
     generalize hsk : (xsec || (!so.isSome || !decide (ls < 0))) = sk at *
     have HSKE := Lib.hid hsk
     clear hsk
     go_cut [88] (fun p wx => p = .bool sk ∧ Pure wb wx)
     case first =>
      have hX := HBX2.out
      have hY := HBY2.out
      have hB := HB1.out.modp HPB.out
      have d0 := hX.cell 0; have d1 := hX.cell 1; have d2 := hX.cell 2; have d3 := hX.cell 3; have d4 := hX.cell 4; have d5 := hX.cell 5; simp at d0 d1 d2 d3 d4 d5
      have e0 := hY.cell 0; have e1 := hY.cell 1; have e2 := hY.cell 2; have e3 := hY.cell 3; have e4 := hY.cell 4; have e5 := hY.cell 5; simp at e0 e1 e2 e3 e4 e5
      have l0 := hB.cell 0; have l1 := hB.cell 1; simp at l0 l1
      clear hX hY hB
      generalize so.isSome = os at *
      cases xsec
      ·cases os
       ·have HZC : Hid (sk = true) := Lib.hid (by rw [← HSKE.out]; simp)
        clear HSKE HLX
        go_wp2_with fail
        go_meet
        exact ⟨by rw [HZC.out], Mod.refl _ _⟩
       ·have HLW := Lib.hid (HLX.out rfl wb HPB.out)
        clear HLX
        have hdl : (!decide (ls < 0)) = decide (0 ≤ ls) := by by_cases h : ls < 0 <;> simp [h] <;> omega
        have HZC : Hid (sk = decide (0 ≤ ls)) := Lib.hid (by rw [← HSKE.out, hdl]; simp)
        clear hdl
        clear HSKE
        go_wp2_with fail
        refine HLW.out.mono ?_
        rintro e w7 ⟨rfl, hm7⟩
        have HM7 := Lib.hid hm7.1
        clear hm7
        go_wp2_with fail
        go_meet
        exact ⟨by rw [HZC.out], HM7.out⟩
      ·have HZC : Hid (sk = true) := Lib.hid (by rw [← HSKE.out]; simp)
       clear HSKE HLX
       go_wp2_with fail
       go_meet
       exact ⟨by rw [HZC.out], Mod.refl _ _⟩
     case rest =>
      obtain ⟨rfl, hmx⟩ := hcut
      obtain ⟨wx, hwx⟩ : ∃ W, W = wc := ⟨wc, rfl⟩
      subst hwx
      have HPX := Lib.hid (HPB.out.trans hmx)
      have HX3 := Lib.hid (HBX2.out.modp hmx)
      clear hmx HPB HBX2 HBY2 HLX HLS HY HSKE
      cases sk
      ·have HZC : Hid (cd = (!o.isSome || decide (0 < lp))) := Lib.hid (by rw [HCE.out, HSK.out]; simp)
       have hX := HX3.out
       have d0 := hX.cell 0; have d1 := hX.cell 1; have d2 := hX.cell 2; have d3 := hX.cell 3; have d4 := hX.cell 4; have d5 := hX.cell 5; simp at d0 d1 d2 d3 d4 d5
       clear hX
       have hlook := HLK2.out _ HPX.out
       go_upto_region 16 with (fail)
       have HX4 := Lib.hid (HX3.out.alloc (.cells #[.int .i64 zno, .int .i64 zat, .string ⟨zrev.toArray⟩, .string ⟨zitem.toArray⟩, .bool zsec, .slice zA zv.length zc] 40))
       have HZ4 := Lib.hid (Blk.new wx 40 #[.int .i64 zno, .int .i64 zat, .string ⟨zrev.toArray⟩, .string ⟨zitem.toArray⟩, .bool zsec, .slice zA zv.length zc])
       have HPY : Hid (Pure wr (wx.alloc (.cells #[.int .i64 zno, .int .i64 zat, .string ⟨zrev.toArray⟩, .string ⟨zitem.toArray⟩, .bool zsec, .slice zA zv.length zc] 40))) := Lib.hid (HPX.out.trans (pure_alloc _ _))
       clear d0 d1 d2 d3 d4 d5 hlook HX3 HPX HLK2
       generalize (wx.alloc (.cells #[.int .i64 zno, .int .i64 zat, .string ⟨zrev.toArray⟩, .string ⟨zitem.toArray⟩, .bool zsec, .slice zA zv.length zc] 40)) = wy at *
       generalize wx.heap.size = g11 at *
       go_cut [104] (fun p wz => p = .bool cd ∧ Pure wy wz)
       case first =>
        have hX := HX4.out
        have hY := HZ4.out
        have hB := HB1.out.modp HPY.out
        have d0 := hX.cell 0; have d1 := hX.cell 1; have d2 := hX.cell 2; have d3 := hX.cell 3; have d4 := hX.cell 4; have d5 := hX.cell 5; simp at d0 d1 d2 d3 d4 d5
        have e0 := hY.cell 0; have e1 := hY.cell 1; have e2 := hY.cell 2; have e3 := hY.cell 3; have e4 := hY.cell 4; have e5 := hY.cell 5; simp at e0 e1 e2 e3 e4 e5
        have l0 := hB.cell 0; have l1 := hB.cell 1; simp at l0 l1
        clear hX hY hB
        generalize o.isSome = os at *
        cases os
        ·have HZ2 : Hid (cd = true) := Lib.hid (by rw [HZC.out]; simp)
         clear HZC HCE HLZ
         go_wp2_with fail
         go_meet
         exact ⟨by rw [HZ2.out], Mod.refl _ _⟩
        ·have HLW := Lib.hid (HLZ.out rfl wy HPY.out)
         clear HLZ
         have HZ2 : Hid (cd = decide (0 < lp)) := Lib.hid (by rw [HZC.out]; simp)
         clear HCE HZC
         go_wp2_with fail
         refine HLW.out.mono ?_
         rintro e w7 ⟨rfl, hm7⟩
         have HM7 := Lib.hid hm7.1
         clear hm7
         go_wp2_with fail
         go_meet
         exact ⟨by rw [HZ2.out], HM7.out⟩
       case rest =>
        obtain ⟨rfl, hmz⟩ := hcut
        have HPZ := Lib.hid (HPY.out.trans hmz)
        have HM5 := Lib.hid (HM1.out.pure HPZ.out)
        have HS5 := Lib.hid (HS1.out.pure HPZ.out)
        have HB5 := Lib.hid (HB1.out.modp HPZ.out)
        have hX := HX4.out.modp hmz
        clear hmz HPY HX4 HZ4 HCE HZC HLZ HLY HZZ
        have d0 := hX.cell 0; have d1 := hX.cell 1; have d2 := hX.cell 2; have d3 := hX.cell 3; have d4 := hX.cell 4; have d5 := hX.cell 5; simp at d0 d1 d2 d3 d4 d5
        clear hX
        cases cd
        ·go_wp2_with fail
         go_roundg (ds.length - (k + 1))
         case measure => omega
         case rel => exact ⟨k + 1, m, rfl, by omega, by simp, by rw [HTK.out, ← HNO.out (by trivial)]; exact HM5.out, by omega, HS5.out, HB5.out, HP1.out.trans HPZ.out⟩
        ·obtain ⟨w9, hrun, hM9, hm9⟩ := HM5.out.store Tryz.underlying138 (by omega) xitem (by omega) (DecVal ⟨xno, xat, xrev, xitem, xsec, xA, xc, xv⟩)
         have HM9 : Hid (MapS w9 b2 (m + 1) (mapP L.asks (ppF L.asks ds at_) (ds.take k ++ [⟨xno, xat, xrev, xitem, xsec, xA, xc, xv⟩]))) := Lib.hid (by rw [← HYES.out (by trivial)]; exact hM9)
         rw [DecVal.eq] at hrun
         have HP9 := Lib.hid ((HP1.out.trans HPZ.out).trans' hm9 (fun i hi hl => by omega))
         have HB9 := Lib.hid (HB5.out.mod hm9 (HM5.out.noblk HB5.out))
         have HS9 := Lib.hid (HS5.out.mod hm9 (by omega))
         clear hM9 hm9 HM5 HB5 HS5 HYES HNO
         go_wp2_with fail
         go_roundg (ds.length - (k + 1))
         case measure => omega
         case rel => exact ⟨k + 1, m + 1, rfl, by omega, by simp, by rw [HTK.out]; exact HM9.out, by omega, HS9.out, HB9.out, HP9.out⟩
      ·have HZC : Hid (cd = false) := Lib.hid (by rw [HCE.out, HSK.out]; simp)
       have HNN : Hid (mapP L.asks (ppF L.asks ds at_) (ds.take k) = mapP L.asks (ppF L.asks ds at_) (ds.take k ++ [⟨xno, xat, xrev, xitem, xsec, xA, xc, xv⟩])) := Lib.hid (HNO.out HZC.out)
       clear HLK2 HX3 HYES HNO HCE
       go_wp2_with fail
       go_roundg (ds.length - (k + 1))
       case measure => omega
       case rel => exact ⟨k + 1, m, rfl, by omega, by simp, by rw [HTK.out, ← HNN.out]; exact HM1.out.pure HPX.out, by omega, HS1.out.pure HPX.out, HB1.out.modp HPX.out, HP1.out.trans HPX.out⟩
    ·have hke : k = ds.length := by omega
     rw [List.take_of_length_le (by omega)] at hM
     obtain ⟨wq, hwq⟩ : ∃ W, W = wr := ⟨wr, rfl⟩
     subst hwq
     have HKS := Lib.hid (mapsKeysSD_calls (some b2) wq)
     have HSO := Lib.hid (sortedSD_calls b2 m (mapP L.asks (ppF L.asks ds at_) ds) wq hM (by omega) (fkL L.asks ds at_) ((nodup_uniq _).filter _) (fun x => by rw [fkL_mem, ← fir_latP, ← (mapP_get L.asks (ppF L.asks ds at_) ds x).2]))
     rw [fkL_sort] at HSO
     have HMF : Hid (∀ W, Pure wq W → MapS W b2 m (mapP L.asks (ppF L.asks ds at_) ds)) := Lib.hid (fun W h => hM.pure h)
     have HMS : Hid (∀ W, Pure wq W → MapS W b nn (mapP L.asks (ppS at_) ds)) := Lib.hid (fun W h => hMS.pure h)
     have HPW := Lib.hid hm
     have hfl := fiL_len L.asks ds at_
     clear hM hMS hB hm hke hnk
     go_wp2_with fail
     refine HKS.out.mono ?_
     rintro e w3 ⟨rfl, rfl⟩
     clear HKS
     go_wp2_with fail
     refine HSO.out.mono ?_
     rintro e w4 ⟨v4, rfl, own4, m4⟩
     have HK4 : Hid (∀ W, Pure w4 W → Sl W 9 1 v4 (strsV (fiL L.asks ds at_))) := Lib.hid (fun W h => (Sl.of_own own4).pure h)
     have hpm := (pure_alloc wq (.cells #[.map (some b2)] 138)).trans m4
     have HP4 := Lib.hid (HPW.out.trans hpm)
     have HMF4 : Hid (∀ W, Pure w4 W → MapS W b2 m (mapP L.asks (ppF L.asks ds at_) ds)) := Lib.hid (fun W h => HMF.out W (hpm.trans h))
     have HMS4 : Hid (∀ W, Pure w4 W → MapS W b nn (mapP L.asks (ppS at_) ds)) := Lib.hid (fun W h => HMS.out W (hpm.trans h))
     obtain ⟨A4, n4, c4, rfl⟩ := (Sl.of_own own4).form
     have hn4 : (fiL L.asks ds at_).length = n4 := (HK4.out w4 (Mod.refl _ _)).lenS
     subst hn4
     clear HSO own4 m4 hpm HMF HMS HPW
     go_wp2_with fail
     obtain ⟨base, hbase⟩ : ∃ base, base = w4.heap.size := ⟨_, rfl⟩
     have hs1 := Nat.le_of_eq hbase
     have hs2 := Nat.le_of_eq hbase.symm
     clear hbase
     go_loopg [19, 114] (fiL L.asks ds at_).length (fun gk x i wr => LkRel3 w4 base L.asks at_ ds gk x i wr)
     case atStart => exact ⟨0, 0, none, [], by omega, by omega, rfl, rfl, rfl, by simp, World.ownsRow_nil _ _ _ _, Mod.refl _ _, by omega⟩
     case round =>
      obtain ⟨k, cap, Ao, xs, rfl, hk, rfl, rfl, hxs, hxl, hO, hm, hbs⟩ := hrel
      by_cases hlt : k < (fiL L.asks ds at_).length
      ·obtain ⟨gr, off, rfl, hrow⟩ := (HK4.out _ hm).rowS (by omega)
       have q1 := hrow.cell (strsV_get _ k hlt)
       obtain ⟨f, s, hf, hs, hfm, hsm, hfi⟩ := fiL_mem (List.getElem_mem hlt)
       have hil : (fiL L.asks ds at_)[k].length ≤ 1000 := by rw [← hfi]; exact (HZ.out f hfm).2.2.2.2.2.1
       have HLF := Lib.hid (fun W (h : Pure wr W) => by
        have := (HMF4.out W (hm.trans h)).lookup (e := 40) Tryz.underlying138 zero_dec (fiL L.asks ds at_)[k] (by omega)
        rw [(mapP_get L.asks (ppF L.asks ds at_) ds _).1, fir_latP, hf] at this
        exact this)
       have HLS := Lib.hid (fun W (h : Pure wr W) => by
        have := (HMS4.out W (hm.trans h)).lookup (e := 40) Tryz.underlying138 zero_dec (fiL L.asks ds at_)[k] (by omega)
        rw [(mapP_get L.asks (ppS at_) ds _).1, sek_latP, hs] at this
        exact this)
       have HNX : Hid (((fiL L.asks ds at_).take (k + 1)).filterMap (lkO L.asks ds at_) = if f.rev = s.rev then xs else xs ++ [(f, s)]) := Lib.hid (by
        rw [List.take_succ_eq_append_getElem hlt, List.filterMap_append, ← hxs]
        have e : lkO L.asks ds at_ (fiL L.asks ds at_)[k] = if f.rev = s.rev then none else some (f, s) := by unfold lkO; rw [hf, hs]
        by_cases h : f.rev = s.rev
        ·rw [if_pos h] at e ⊢; simp [e]
        ·rw [if_neg h] at e ⊢; simp [e])
       have HO := Lib.hid hO
       have HM := Lib.hid hm
       have hkl : (k : Int) < ((fiL L.asks ds at_).length : Int) := by omega
       clear hrow hf hs hfi hxs hO hm
       generalize (fiL L.asks ds at_)[k] = it at *
       simp only [Option.getD_some] at HLF HLS
       obtain ⟨xno, xat, xrev, xitem, xsec, xA, xc, xv⟩ := f
       obtain ⟨yno, yat, yrev, yitem, ysec, yA, yc, yv⟩ := s
       simp only [DecVal.eq] at *
       go_upto_region 23 with (fail)
       clear q1
       have HGs := Lib.hid (show ∀ (D : Nat → Bool) (zzi : Nat) (zq zq' : World), (fun _ zq => (fun Z => wr.heap.size ≤ Z.heap.size) zq) D zq → Mod (fun _ => False) zq zq' → (fun _ zq => (fun Z => wr.heap.size ≤ Z.heap.size) zq) (upd D zzi true) zq' from by intro D zzi zq zq' h hm; (exact Nat.le_trans h hm.size))
       refine wp_region_inv (by kernel_rfl) (by kernel_rfl) (fun D V zw => InvF (R := Mod (fun _ => False)) [.is (.map (some b2)),
         .is (.string ⟨it.toArray⟩),
         .is (.agg #[.int .i64 xno, .int .i64 xat, .string ⟨xrev.toArray⟩, .string ⟨xitem.toArray⟩, .bool xsec, .slice xA xv.length xc]),
         .is (.map (some b)),
         .is (.string ⟨it.toArray⟩),
         .is (.agg #[.int .i64 yno, .int .i64 yat, .string ⟨yrev.toArray⟩, .string ⟨yitem.toArray⟩, .bool ysec, .slice yA yv.length yc]),
         ⟨fun zv zw => ∃ (g_6 : Nat), zv = .pointer (some ⟨g_6, 0, none⟩) ∧ wr.heap.size ≤ g_6 ∧ Blk zw g_6 40 #[.int .i64 0, .int .i64 0, .string ⟨#[]⟩, .string ⟨#[]⟩, .bool false, .slice none 0 0], (by rintro zv zw zx ⟨g_6, rfl, c0, q0⟩ hm; exact ⟨g_6, rfl, c0, (q0.modp hm)⟩), none, some 8⟩,
         ⟨fun zv zw => ∃ (g_7 : Nat), zv = .pointer (some ⟨g_7, 0, none⟩) ∧ wr.heap.size ≤ g_7 ∧ Blk zw g_7 40 #[.int .i64 0, .int .i64 0, .string ⟨#[]⟩, .string ⟨#[]⟩, .bool false, .slice none 0 0], (by rintro zv zw zx ⟨g_7, rfl, c0, q0⟩ hm; exact ⟨g_7, rfl, c0, (q0.modp hm)⟩), none, some 9⟩,
         ⟨fun zv zw => ∃ (g_8 : Nat), zv = .pointer (some ⟨g_8, 0, none⟩) ∧ wr.heap.size ≤ g_8 ∧ Blk zw g_8 40 #[.int .i64 xno, .int .i64 xat, .string ⟨xrev.toArray⟩, .string ⟨xitem.toArray⟩, .bool xsec, .slice xA xv.length xc], (by rintro zv zw zx ⟨g_8, rfl, c0, q0⟩ hm; exact ⟨g_8, rfl, c0, (q0.modp hm)⟩), some 6, none⟩,
         ⟨fun zv zw => ∃ (g_9 : Nat), zv = .pointer (some ⟨g_9, 0, none⟩) ∧ wr.heap.size ≤ g_9 ∧ Blk zw g_9 40 #[.int .i64 yno, .int .i64 yat, .string ⟨yrev.toArray⟩, .string ⟨yitem.toArray⟩, .bool ysec, .slice yA yv.length yc], (by rintro zv zw zx ⟨g_9, rfl, c0, q0⟩ hm; exact ⟨g_9, rfl, c0, (q0.modp hm)⟩), some 7, none⟩]
         (PB wr (fun _ => False) wr.heap.size (fun _ zq => (fun Z => wr.heap.size ≤ Z.heap.size) zq)) D V zw ∧ (D 6 = true → D 7 = true → V 6 ≠ V 7)) ⟨InvF.start (PB.start (Mod.refl _ _) (Nat.le_refl _) ((Nat.le_refl _))), fun h => by cases h⟩ ?_ ?_
       ·refine .cons ?_ (.cons ?_ (.cons ?_ (.cons ?_ (.cons ?_ (.cons ?_ (.cons ?_ (.cons ?_ (.cons ?_ (.cons ?_ .nil)))))))))
        ·intro D V zw1 a hR hIz K hKz
         have hI := hIz.1
         have hC := hIz.2
         have hK := fun zv zw h => hKz zv zw ⟨h, by simpa [upd] using hC⟩
         obtain ⟨hM1, hB1, hG1⟩ := hI.1
         have ze12 := hR.frame.other (t := 12) (by kernel_rfl) rfl
         rw [if_pos (by rfl)]
         go_simp
         exact hK (.map (some b2)) _ (hI.next hR (by kernel_rfl) (Mod.refl _ _) (PB.quiet hI.1 (Mod.refl _ _) (HGs.out D 0 zw1 zw1 (hI.1).g (Mod.refl _ _))) (upd_same V 0 _))
        ·intro D V zw1 a hR hIz K hKz
         have hI := hIz.1
         have hC := hIz.2
         have hK := fun zv zw h => hKz zv zw ⟨h, by simpa [upd] using hC⟩
         obtain ⟨hM1, hB1, hG1⟩ := hI.1
         have ze21 := hR.frame.other (t := 21) (by kernel_rfl) rfl
         rw [if_pos (by rfl)]
         go_simp
         exact hK (.string ⟨it.toArray⟩) _ (hI.next hR (by kernel_rfl) (Mod.refl _ _) (PB.quiet hI.1 (Mod.refl _ _) (HGs.out D 1 zw1 zw1 (hI.1).g (Mod.refl _ _))) (upd_same V 1 _))
        ·intro D V zw1 a hR hIz K hKz
         have hI := hIz.1
         have hC := hIz.2
         have hK := fun zv zw h => hKz zv zw ⟨h, by simpa [upd] using hC⟩
         obtain ⟨hM1, hB1, hG1⟩ := hI.1
         have zd0 := hR.pred 0 (by kernel_rfl)
         have zF0 : V 0 = .map (some b2) := hI.2 0 zd0 rfl
         have zf0 := zF0; clear zF0
         have zd1 := hR.pred 1 (by kernel_rfl)
         have zF1 : V 1 = .string ⟨it.toArray⟩ := hI.2 1 zd1 rfl
         have zf1 := zF1; clear zF1
         have ze118 := hR.frame.done (t := 118) (j := 0) (by kernel_rfl) hR.ok zd0
         have ze119 := hR.frame.done (t := 119) (j := 1) (by kernel_rfl) hR.ok zd1
         have zl := HLF.out zw1 hM1
         rw [if_pos (by rfl)]
         go_simp
         exact hK (.agg #[.int .i64 xno, .int .i64 xat, .string ⟨xrev.toArray⟩, .string ⟨xitem.toArray⟩, .bool xsec, .slice xA xv.length xc]) _ (hI.next hR (by kernel_rfl) (Mod.refl _ _) (PB.quiet hI.1 (Mod.refl _ _) (HGs.out D 2 zw1 zw1 (hI.1).g (Mod.refl _ _))) (upd_same V 2 _))
        ·intro D V zw1 a hR hIz K hKz
         have hI := hIz.1
         have hC := hIz.2
         have hK := fun zv zw h => hKz zv zw ⟨h, by simpa [upd] using hC⟩
         obtain ⟨hM1, hB1, hG1⟩ := hI.1
         have ze7 := hR.frame.other (t := 7) (by kernel_rfl) rfl
         rw [if_pos (by rfl)]
         go_simp
         exact hK (.map (some b)) _ (hI.next hR (by kernel_rfl) (Mod.refl _ _) (PB.quiet hI.1 (Mod.refl _ _) (HGs.out D 3 zw1 zw1 (hI.1).g (Mod.refl _ _))) (upd_same V 3 _))
        ·intro D V zw1 a hR hIz K hKz
         have hI := hIz.1
         have hC := hIz.2
         have hK := fun zv zw h => hKz zv zw ⟨h, by simpa [upd] using hC⟩
         obtain ⟨hM1, hB1, hG1⟩ := hI.1
         have ze21 := hR.frame.other (t := 21) (by kernel_rfl) rfl
         rw [if_pos (by rfl)]
         go_simp
         exact hK (.string ⟨it.toArray⟩) _ (hI.next hR (by kernel_rfl) (Mod.refl _ _) (PB.quiet hI.1 (Mod.refl _ _) (HGs.out D 4 zw1 zw1 (hI.1).g (Mod.refl _ _))) (upd_same V 4 _))
        ·intro D V zw1 a hR hIz K hKz
         have hI := hIz.1
         have hC := hIz.2
         have hK := fun zv zw h => hKz zv zw ⟨h, by simpa [upd] using hC⟩
         obtain ⟨hM1, hB1, hG1⟩ := hI.1
         have zd3 := hR.pred 3 (by kernel_rfl)
         have zF3 : V 3 = .map (some b) := hI.2 3 zd3 rfl
         have zf3 := zF3; clear zF3
         have zd4 := hR.pred 4 (by kernel_rfl)
         have zF4 : V 4 = .string ⟨it.toArray⟩ := hI.2 4 zd4 rfl
         have zf4 := zF4; clear zF4
         have ze121 := hR.frame.done (t := 121) (j := 3) (by kernel_rfl) hR.ok zd3
         have ze122 := hR.frame.done (t := 122) (j := 4) (by kernel_rfl) hR.ok zd4
         have zl := HLS.out zw1 hM1
         rw [if_pos (by rfl)]
         go_simp
         exact hK (.agg #[.int .i64 yno, .int .i64 yat, .string ⟨yrev.toArray⟩, .string ⟨yitem.toArray⟩, .bool ysec, .slice yA yv.length yc]) _ (hI.next hR (by kernel_rfl) (Mod.refl _ _) (PB.quiet hI.1 (Mod.refl _ _) (HGs.out D 5 zw1 zw1 (hI.1).g (Mod.refl _ _))) (upd_same V 5 _))
        ·intro D V zw1 a hR hIz K hKz
         have hI := hIz.1
         have hC := hIz.2
         obtain ⟨hM1, hB1, hG1⟩ := hI.1
         rw [if_pos (by rfl)]
         go_simp
         have hlt : D 7 = true → V 7 ≠ .pointer (some ⟨zw1.heap.size, 0, none⟩) := by
          intro hDb he
          cases hs : D 9
          ·have hv2 : ∃ (g_7 : Nat), V 7 = .pointer (some ⟨g_7, 0, none⟩) ∧ wr.heap.size ≤ g_7 ∧ Blk zw1 g_7 40 #[.int .i64 0, .int .i64 0, .string ⟨#[]⟩, .string ⟨#[]⟩, .bool false, .slice none 0 0] := hI.2 7 hDb (by show (!D 9) = true; rw [hs]; rfl)
           obtain ⟨g_7, zff, zcc0, zbb0⟩ := hv2
           rw [zff] at he
           injection he with he; injection he with he; injection he with he
           have := zbb0.lt; omega
          ·have hv2 : ∃ (g_9 : Nat), V 7 = .pointer (some ⟨g_9, 0, none⟩) ∧ wr.heap.size ≤ g_9 ∧ Blk zw1 g_9 40 #[.int .i64 yno, .int .i64 yat, .string ⟨yrev.toArray⟩, .string ⟨yitem.toArray⟩, .bool ysec, .slice yA yv.length yc] := hI.2 9 hs rfl
           obtain ⟨g_9, zff, zcc0, zbb0⟩ := hv2
           rw [zff] at he
           injection he with he; injection he with he; injection he with he
           have := zbb0.lt; omega
         have hpc := fun (h2 : D 7 = true) => hlt h2
         refine hKz (.pointer (some ⟨zw1.heap.size, 0, none⟩)) _ ⟨hI.next hR (by kernel_rfl) ((Mod.refl _ _).alloc _) (PB.quiet hI.1 (pure_alloc _ _) (HGs.out D 6 _ _ (hI.1).g ((Mod.refl _ _).alloc _))) (⟨_, upd_same V 6 _, (by omega), (Blk.new _ _ _)⟩), ?_⟩
         intro _ h2
         have h3 : D 7 = true := by simpa [upd] using h2
         have h4 := Ne.symm (hlt h3)
         simpa [upd] using h4
        ·intro D V zw1 a hR hIz K hKz
         have hI := hIz.1
         have hC := hIz.2
         obtain ⟨hM1, hB1, hG1⟩ := hI.1
         rw [if_pos (by rfl)]
         go_simp
         have hlt : D 6 = true → V 6 ≠ .pointer (some ⟨zw1.heap.size, 0, none⟩) := by
          intro hDb he
          cases hs : D 8
          ·have hv2 : ∃ (g_6 : Nat), V 6 = .pointer (some ⟨g_6, 0, none⟩) ∧ wr.heap.size ≤ g_6 ∧ Blk zw1 g_6 40 #[.int .i64 0, .int .i64 0, .string ⟨#[]⟩, .string ⟨#[]⟩, .bool false, .slice none 0 0] := hI.2 6 hDb (by show (!D 8) = true; rw [hs]; rfl)
           obtain ⟨g_6, zff, zcc0, zbb0⟩ := hv2
           rw [zff] at he
           injection he with he; injection he with he; injection he with he
           have := zbb0.lt; omega
          ·have hv2 : ∃ (g_8 : Nat), V 6 = .pointer (some ⟨g_8, 0, none⟩) ∧ wr.heap.size ≤ g_8 ∧ Blk zw1 g_8 40 #[.int .i64 xno, .int .i64 xat, .string ⟨xrev.toArray⟩, .string ⟨xitem.toArray⟩, .bool xsec, .slice xA xv.length xc] := hI.2 8 hs rfl
           obtain ⟨g_8, zff, zcc0, zbb0⟩ := hv2
           rw [zff] at he
           injection he with he; injection he with he; injection he with he
           have := zbb0.lt; omega
         have hpc := fun (h2 : D 6 = true) => hlt h2
         refine hKz (.pointer (some ⟨zw1.heap.size, 0, none⟩)) _ ⟨hI.next hR (by kernel_rfl) ((Mod.refl _ _).alloc _) (PB.quiet hI.1 (pure_alloc _ _) (HGs.out D 7 _ _ (hI.1).g ((Mod.refl _ _).alloc _))) (⟨_, upd_same V 7 _, (by omega), (Blk.new _ _ _)⟩), ?_⟩
         intro h2 _
         have h3 : D 6 = true := by simpa [upd] using h2
         have h4 := hlt h3
         simpa [upd] using h4
        ·intro D V zw1 a hR hIz K hKz
         have hI := hIz.1
         have hC := hIz.2
         have hK := fun zv zw h => hKz zv zw ⟨h, by simpa [upd] using hC⟩
         obtain ⟨hM1, hB1, hG1⟩ := hI.1
         have zd6 := hR.pred 6 (by kernel_rfl)
         have zF6 : ∃ (g_6 : Nat), V 6 = .pointer (some ⟨g_6, 0, none⟩) ∧ wr.heap.size ≤ g_6 ∧ Blk zw1 g_6 40 #[.int .i64 0, .int .i64 0, .string ⟨#[]⟩, .string ⟨#[]⟩, .bool false, .slice none 0 0] := hI.2 6 zd6 (by show (!D 8) = true; rw [hR.not]; rfl)
         obtain ⟨g_6, zf6, c6_0, b6_0⟩ := zF6
         have zd2 := hR.pred 2 (by kernel_rfl)
         have zF2 : V 2 = .agg #[.int .i64 xno, .int .i64 xat, .string ⟨xrev.toArray⟩, .string ⟨xitem.toArray⟩, .bool xsec, .slice xA xv.length xc] := hI.2 2 zd2 rfl
         have zf2 := zF2; clear zF2
         have ze22 := hR.frame.done (t := 22) (j := 6) (by kernel_rfl) hR.ok zd6
         have ze120 := hR.frame.done (t := 120) (j := 2) (by kernel_rfl) hR.ok zd2
         rw [if_pos (by rfl)]
         have zx0 := b6_0.cell 0; have zy0 := b6_0.frozen 0
         have zx1 := b6_0.cell 1; have zy1 := b6_0.frozen 1
         have zx2 := b6_0.cell 2; have zy2 := b6_0.frozen 2
         have zx3 := b6_0.cell 3; have zy3 := b6_0.frozen 3
         have zx4 := b6_0.cell 4; have zy4 := b6_0.frozen 4
         have zx5 := b6_0.cell 5; have zy5 := b6_0.frozen 5
         simp at zx0 zy0 zx1 zy1 zx2 zy2 zx3 zy3 zx4 zy4 zx5 zy5
         go_simp
         refine hK undef _ (InvF.last ?_ ?_ ?_)
         ·exact ⟨((((((hM1.setCell (.inr (by show _ ≤ g_6; omega)) _).setCell (.inr (by show _ ≤ g_6; omega)) _).setCell (.inr (by show _ ≤ g_6; omega)) _).setCell (.inr (by show _ ≤ g_6; omega)) _).setCell (.inr (by show _ ≤ g_6; omega)) _).setCell (.inr (by show _ ≤ g_6; omega)) _), (by simpa using hB1), (by simpa using hG1)⟩
         ·exact ⟨g_6, (upd_ne V (i := 8) (k := 6) undef (by omega)).trans zf6, (by first | assumption | omega), (by have hset := ((((((b6_0.set 0 (.int .i64 xno)).set 1 (.int .i64 xat)).set 2 (.string ⟨xrev.toArray⟩)).set 3 (.string ⟨xitem.toArray⟩)).set 4 (.bool xsec)).set 5 (.slice xA xv.length xc)); simpa using hset)⟩
         ·intro k hk hDk hlv
          have hkl := hR.lt k hDk
          have hv := hI.2 k hDk (liveB_of hlv)
          match k, hk, hDk, hlv, hkl, hv with
          | 0, _, _, _, _, hv => exact hv
          | 1, _, _, _, _, hv => exact hv
          | 2, _, _, _, _, hv => exact hv
          | 3, _, _, _, _, hv => exact hv
          | 4, _, _, _, _, hv => exact hv
          | 5, _, _, _, _, hv => exact hv
          | 6, _, _, hlv, _, _ => exact absurd hlv (by show ¬ (!upd D 8 true 8) = true; rw [upd_same]; decide)
          | 7, hk, hDk, hlv, hkl, hv =>
           have hv2 : ∃ (g_7 : Nat), V 7 = .pointer (some ⟨g_7, 0, none⟩) ∧ wr.heap.size ≤ g_7 ∧ Blk zw1 g_7 40 #[.int .i64 0, .int .i64 0, .string ⟨#[]⟩, .string ⟨#[]⟩, .bool false, .slice none 0 0] := hv
           obtain ⟨g_7, zff, zcc0, zbb0⟩ := hv2
           have hDb : D 7 = true := hDk
           have hne : g_7 ≠ g_6 := by
            have h := hC zd6 hDb
            rw [zf6, zff] at h
            intro e; subst e; exact h rfl
           exact ⟨g_7, zff, zcc0, ((((((zbb0.far (by show g_7 ≠ g_6; exact hne) _).far (by show g_7 ≠ g_6; exact hne) _).far (by show g_7 ≠ g_6; exact hne) _).far (by show g_7 ≠ g_6; exact hne) _).far (by show g_7 ≠ g_6; exact hne) _).far (by show g_7 ≠ g_6; exact hne) _)⟩
          | 8, hk, _, _, _, _ => exact absurd rfl hk
          | 9, hk, hDk, hlv, hkl, hv =>
           have hv2 : ∃ (g_9 : Nat), V 7 = .pointer (some ⟨g_9, 0, none⟩) ∧ wr.heap.size ≤ g_9 ∧ Blk zw1 g_9 40 #[.int .i64 yno, .int .i64 yat, .string ⟨yrev.toArray⟩, .string ⟨yitem.toArray⟩, .bool ysec, .slice yA yv.length yc] := hv
           obtain ⟨g_9, zff, zcc0, zbb0⟩ := hv2
           have hDb : D 7 = true := hR.closed 9 _ 7 rfl (by kernel_rfl) hDk
           have hne : g_9 ≠ g_6 := by
            have h := hC zd6 hDb
            rw [zf6, zff] at h
            intro e; subst e; exact h rfl
           exact ⟨g_9, zff, zcc0, ((((((zbb0.far (by show g_9 ≠ g_6; exact hne) _).far (by show g_9 ≠ g_6; exact hne) _).far (by show g_9 ≠ g_6; exact hne) _).far (by show g_9 ≠ g_6; exact hne) _).far (by show g_9 ≠ g_6; exact hne) _).far (by show g_9 ≠ g_6; exact hne) _)⟩
          | k + 10, _, _, _, hkl, _ => exact absurd hkl (by simp)
        ·intro D V zw1 a hR hIz K hKz
         have hI := hIz.1
         have hC := hIz.2
         have hK := fun zv zw h => hKz zv zw ⟨h, by simpa [upd] using hC⟩
         obtain ⟨hM1, hB1, hG1⟩ := hI.1
         have zd7 := hR.pred 7 (by kernel_rfl)
         have zF7 : ∃ (g_7 : Nat), V 7 = .pointer (some ⟨g_7, 0, none⟩) ∧ wr.heap.size ≤ g_7 ∧ Blk zw1 g_7 40 #[.int .i64 0, .int .i64 0, .string ⟨#[]⟩, .string ⟨#[]⟩, .bool false, .slice none 0 0] := hI.2 7 zd7 (by show (!D 9) = true; rw [hR.not]; rfl)
         obtain ⟨g_7, zf7, c7_0, b7_0⟩ := zF7
         have zd5 := hR.pred 5 (by kernel_rfl)
         have zF5 : V 5 = .agg #[.int .i64 yno, .int .i64 yat, .string ⟨yrev.toArray⟩, .string ⟨yitem.toArray⟩, .bool ysec, .slice yA yv.length yc] := hI.2 5 zd5 rfl
         have zf5 := zF5; clear zF5
         have ze23 := hR.frame.done (t := 23) (j := 7) (by kernel_rfl) hR.ok zd7
         have ze123 := hR.frame.done (t := 123) (j := 5) (by kernel_rfl) hR.ok zd5
         rw [if_pos (by rfl)]
         have zx0 := b7_0.cell 0; have zy0 := b7_0.frozen 0
         have zx1 := b7_0.cell 1; have zy1 := b7_0.frozen 1
         have zx2 := b7_0.cell 2; have zy2 := b7_0.frozen 2
         have zx3 := b7_0.cell 3; have zy3 := b7_0.frozen 3
         have zx4 := b7_0.cell 4; have zy4 := b7_0.frozen 4
         have zx5 := b7_0.cell 5; have zy5 := b7_0.frozen 5
         simp at zx0 zy0 zx1 zy1 zx2 zy2 zx3 zy3 zx4 zy4 zx5 zy5
         go_simp
         refine hK undef _ (InvF.last ?_ ?_ ?_)
         ·exact ⟨((((((hM1.setCell (.inr (by show _ ≤ g_7; omega)) _).setCell (.inr (by show _ ≤ g_7; omega)) _).setCell (.inr (by show _ ≤ g_7; omega)) _).setCell (.inr (by show _ ≤ g_7; omega)) _).setCell (.inr (by show _ ≤ g_7; omega)) _).setCell (.inr (by show _ ≤ g_7; omega)) _), (by simpa using hB1), (by simpa using hG1)⟩
         ·exact ⟨g_7, (upd_ne V (i := 9) (k := 7) undef (by omega)).trans zf7, (by first | assumption | omega), (by have hset := ((((((b7_0.set 0 (.int .i64 yno)).set 1 (.int .i64 yat)).set 2 (.string ⟨yrev.toArray⟩)).set 3 (.string ⟨yitem.toArray⟩)).set 4 (.bool ysec)).set 5 (.slice yA yv.length yc)); simpa using hset)⟩
         ·intro k hk hDk hlv
          have hkl := hR.lt k hDk
          have hv := hI.2 k hDk (liveB_of hlv)
          match k, hk, hDk, hlv, hkl, hv with
          | 0, _, _, _, _, hv => exact hv
          | 1, _, _, _, _, hv => exact hv
          | 2, _, _, _, _, hv => exact hv
          | 3, _, _, _, _, hv => exact hv
          | 4, _, _, _, _, hv => exact hv
          | 5, _, _, _, _, hv => exact hv
          | 6, hk, hDk, hlv, hkl, hv =>
           have hv2 : ∃ (g_6 : Nat), V 6 = .pointer (some ⟨g_6, 0, none⟩) ∧ wr.heap.size ≤ g_6 ∧ Blk zw1 g_6 40 #[.int .i64 0, .int .i64 0, .string ⟨#[]⟩, .string ⟨#[]⟩, .bool false, .slice none 0 0] := hv
           obtain ⟨g_6, zff, zcc0, zbb0⟩ := hv2
           have hDb : D 6 = true := hDk
           have hne : g_6 ≠ g_7 := by
            have h := Ne.symm (hC hDb zd7)
            rw [zf7, zff] at h
            intro e; subst e; exact h rfl
           exact ⟨g_6, zff, zcc0, ((((((zbb0.far (by show g_6 ≠ g_7; exact hne) _).far (by show g_6 ≠ g_7; exact hne) _).far (by show g_6 ≠ g_7; exact hne) _).far (by show g_6 ≠ g_7; exact hne) _).far (by show g_6 ≠ g_7; exact hne) _).far (by show g_6 ≠ g_7; exact hne) _)⟩
          | 7, _, _, hlv, _, _ => exact absurd hlv (by show ¬ (!upd D 9 true 9) = true; rw [upd_same]; decide)
          | 8, hk, hDk, hlv, hkl, hv =>
           have hv2 : ∃ (g_8 : Nat), V 6 = .pointer (some ⟨g_8, 0, none⟩) ∧ wr.heap.size ≤ g_8 ∧ Blk zw1 g_8 40 #[.int .i64 xno, .int .i64 xat, .string ⟨xrev.toArray⟩, .string ⟨xitem.toArray⟩, .bool xsec, .slice xA xv.length xc] := hv
           obtain ⟨g_8, zff, zcc0, zbb0⟩ := hv2
           have hDb : D 6 = true := hR.closed 8 _ 6 rfl (by kernel_rfl) hDk
           have hne : g_8 ≠ g_7 := by
            have h := Ne.symm (hC hDb zd7)
            rw [zf7, zff] at h
            intro e; subst e; exact h rfl
           exact ⟨g_8, zff, zcc0, ((((((zbb0.far (by show g_8 ≠ g_7; exact hne) _).far (by show g_8 ≠ g_7; exact hne) _).far (by show g_8 ≠ g_7; exact hne) _).far (by show g_8 ≠ g_7; exact hne) _).far (by show g_8 ≠ g_7; exact hne) _).far (by show g_8 ≠ g_7; exact hne) _)⟩
          | 9, hk, _, _, _, _ => exact absurd rfl hk
          | k + 10, _, _, _, hkl, _ => exact absurd hkl (by simp)
       ·intro D V w6 hD hIz
        have hI := hIz.1
        have hTwo := trivial
        obtain ⟨hM1, hB1, hG1⟩ := hI.1
        have hMx := hM1
        clear hM1
        have hBx := hB1
        clear hB1
        have hGx := hG1
        clear hG1
        have zF0 : V 0 = .map (some b2) := hI.2 0 (hD 0 (by decide)) rfl
        have zf0 := zF0; clear zF0
        have zF1 : V 1 = .string ⟨it.toArray⟩ := hI.2 1 (hD 1 (by decide)) rfl
        have zf1 := zF1; clear zF1
        have zF2 : V 2 = .agg #[.int .i64 xno, .int .i64 xat, .string ⟨xrev.toArray⟩, .string ⟨xitem.toArray⟩, .bool xsec, .slice xA xv.length xc] := hI.2 2 (hD 2 (by decide)) rfl
        have zf2 := zF2; clear zF2
        have zF3 : V 3 = .map (some b) := hI.2 3 (hD 3 (by decide)) rfl
        have zf3 := zF3; clear zF3
        have zF4 : V 4 = .string ⟨it.toArray⟩ := hI.2 4 (hD 4 (by decide)) rfl
        have zf4 := zF4; clear zF4
        have zF5 : V 5 = .agg #[.int .i64 yno, .int .i64 yat, .string ⟨yrev.toArray⟩, .string ⟨yitem.toArray⟩, .bool ysec, .slice yA yv.length yc] := hI.2 5 (hD 5 (by decide)) rfl
        have zf5 := zF5; clear zF5
        have zF8 : ∃ (g_8 : Nat), V 6 = .pointer (some ⟨g_8, 0, none⟩) ∧ wr.heap.size ≤ g_8 ∧ Blk w6 g_8 40 #[.int .i64 xno, .int .i64 xat, .string ⟨xrev.toArray⟩, .string ⟨xitem.toArray⟩, .bool xsec, .slice xA xv.length xc] := hI.2 8 (hD 8 (by decide)) rfl
        obtain ⟨g_8, zf8, c8_0, b8_0⟩ := zF8
        have zF9 : ∃ (g_9 : Nat), V 7 = .pointer (some ⟨g_9, 0, none⟩) ∧ wr.heap.size ≤ g_9 ∧ Blk w6 g_9 40 #[.int .i64 yno, .int .i64 yat, .string ⟨yrev.toArray⟩, .string ⟨yitem.toArray⟩, .bool ysec, .slice yA yv.length yc] := hI.2 9 (hD 9 (by decide)) rfl
        obtain ⟨g_9, zf9, c9_0, b9_0⟩ := zF9
        clear hI hD HGs hIz hTwo
        simp only [frAll, Act.put, List.setIfInBounds_toArray, List.set_cons_zero, List.set_cons_succ, Nat.zero_add, Nat.reduceAdd, zf0, zf1, zf2, zf3, zf4, zf5, zf8, zf9]
        clear zf0 zf1 zf2 zf3 zf4 zf5 zf8 zf9
        clear V D
        have HX6 := Lib.hid b8_0
        have HY6 := Lib.hid b9_0
        have HM6 := Lib.hid (HM.out.trans hMx)
        have HO6 := Lib.hid (own_pure HO.out hMx)
        have hX := b8_0
        have hY := b9_0
        have hb6 : base ≤ w6.heap.size := by have := hMx.size; omega
        clear b8_0 b9_0 hGx hBx hMx HM HO HLF HLS
        have d0 := hX.cell 0; have d1 := hX.cell 1; have d2 := hX.cell 2; have d3 := hX.cell 3; have d4 := hX.cell 4; have d5 := hX.cell 5; simp at d0 d1 d2 d3 d4 d5
        have e0 := hY.cell 0; have e1 := hY.cell 1; have e2 := hY.cell 2; have e3 := hY.cell 3; have e4 := hY.cell 4; have e5 := hY.cell 5; simp at e0 e1 e2 e3 e4 e5
        clear hX hY
        by_cases hrv : xrev = yrev
        ·have HNE : Hid (((fiL L.asks ds at_).take (k + 1)).filterMap (lkO L.asks ds at_) = xs) := Lib.hid (by rw [HNX.out]; simp [hrv])
         clear HNX
         subst hrv
         have t1 : (xrev != xrev) = false := by simp
         have t3 : (xrev == xrev) = true := by simp
         go_wp2_with fail
         go_roundg ((fiL L.asks ds at_).length - (k + 1))
         case measure => omega
         case rel => exact ⟨k + 1, cap, Ao, xs, rfl, by omega, rfl, by simp, HNE.out.symm, by omega, HO6.out, HM6.out, hb6⟩
        ·have t1 : (xrev != yrev) = true := by simpa using hrv
         have t2 : (xrev == yrev) = false := by simpa using hrv
         have HNE : Hid (((fiL L.asks ds at_).take (k + 1)).filterMap (lkO L.asks ds at_) = xs ++ [(⟨xno, xat, xrev, xitem, xsec, xA, xc, xv⟩, ⟨yno, yat, yrev, yitem, ysec, yA, yc, yv⟩)]) := Lib.hid (by rw [HNX.out]; simp [hrv])
         clear HNX hrv
         obtain ⟨i0, hi0, hz0, hz1, hz2⟩ := info_parts info_look
         have hownO := HO6.out
         have hmO := HM6.out
         have hxl2 : xs.length ≤ 4000 := by omega
         go_wp2_with ((at_builtin; refine wpList_append_lies _ rfl _ _ _ rfl base 151 i0 _ 12 160 Tryz.underlying148 hi0 hz0 hz1 hz2 rfl (by omega) (.slice Ao xs.length cap) xs.length (lkV xs) rfl (hownO.alloc _) ⟨w6.heap.size, 0, none⟩ 1 1 [.int .i64 xno, .int .i64 xat, .string ⟨xrev.toArray⟩, .string ⟨xitem.toArray⟩, .bool xsec, .slice xA xv.length xc, .int .i64 yno, .int .i64 yat, .string ⟨yrev.toArray⟩, .string ⟨yitem.toArray⟩, .bool ysec, .slice yA yv.length yc] rfl rfl (World.news_of_block (cs := #[.int .i64 xno, .int .i64 xat, .string ⟨xrev.toArray⟩, .string ⟨xitem.toArray⟩, .bool xsec, .slice xA xv.length xc, .int .i64 yno, .int .i64 yat, .string ⟨yrev.toArray⟩, .string ⟨yitem.toArray⟩, .bool ysec, .slice yA yv.length yc]) (t := 151) (fr := (0, 0)) (heap_alloc_new w6 _)) (by simp [Value.oneCell']) (by omega) (by simp [maxLen]; omega) (by omega) (by have := hmO.size; simp; omega) (w6.heap.size + 1) (by simp) ?_; intro g5 cap5 w5 hown5 hgrow hat hlt5))
         have mG := mod_grown hgrow
         have hob := own_block hownO
         have hzz := mG.size
         simp only [World.size_alloc] at hzz
         go_roundg ((fiL L.asks ds at_).length - (k + 1))
         case measure => omega
         case rel => exact ⟨k + 1, cap5, some ⟨g5, 0, none⟩, xs ++ [(⟨xno, xat, xrev, xitem, xsec, xA, xc, xv⟩, ⟨yno, yat, yrev, yitem, ysec, yA, yc, yv⟩)], rfl, by omega, by simp, by simp, HNE.out.symm, by simp; omega, by simpa [lkV_snoc, lkC, decC] using hown5, (HM6.out.alloc _).grown hgrow (fun i hi => .inr (by have := hob i hi; omega)), by omega⟩
      ·have HXE : Hid (xs = looksP L.asks ds at_) := Lib.hid (by rw [hxs, List.take_of_length_le (by omega), fiL_looks])
       have HO := Lib.hid hO
       have HM := Lib.hid hm
       clear hO hm hxs
       go_wp2_with fail
       go_ret
       rw [← HXE.out]
       refine ⟨Ao, cap, rfl, ⟨Sl.of_own HO.out, fun p hp => ?_⟩, HP4.out.trans HM.out⟩
       rw [HXE.out, ← fiL_looks] at hp
       obtain ⟨i, hi, he⟩ := List.mem_filterMap.1 hp
       obtain ⟨f, s, hf, hs, hfm, hsm, _⟩ := fiL_mem hi
       unfold lkO at he
       rw [hf, hs] at he
       simp only at he
       split at he
       ·cases he
       ·injection he with he
        rw [← he]
        exact ⟨(HD.out.2 f hfm).pure (HP4.out.trans HM.out), (HD.out.2 s hsm).pure (HP4.out.trans HM.out)⟩

end Go.Proofs.YtkkndblcejmmjaaGreatDoor

/- Clashes of the program. -/
namespace Go.Proofs.YtkkndblcejmmjaaGreatDoor
set_option linter.unusedVariables false
set_option linter.unusedSimpArgs false
open Go.RowKit

theorem lkV_at : ∀ (xs : List LkR) (k : Nat) (h : k < xs.length) (j : Nat), j < 12 → (lkV xs)[k * 12 + j]? = (lkC xs[k])[j]?
 | x :: t, 0, _, j, hj => by
  show (lkC x ++ lkV t)[0 * 12 + j]? = (lkC x)[j]?
  rw [Nat.zero_mul, Nat.zero_add, List.getElem?_append_left (by simp [lkC, decC]; omega)]
 | x :: t, k + 1, h, j, hj => by
  have ih := lkV_at t k (by simpa using h) j hj
  show (lkC x ++ lkV t)[(k + 1) * 12 + j]? = _
  rw [List.getElem?_append_right (by simp [lkC, decC]; omega), show (k + 1) * 12 + j - (lkC x).length = k * 12 + j by simp [lkC, decC]; omega, ih]
  rfl
theorem Lks.len {w : World} {A : Option Addr} {n c : Nat} {xs : List LkR} (h : Lks w (.slice A n c) xs) : xs.length = n := by
 obtain ⟨⟨A', n', c', e, _, _, hl, _⟩, _⟩ := h
 injection e with _ e2 _
 rw [lkV_len] at hl
 omega
theorem Lks.cells {w : World} {A : Option Addr} {n c : Nat} {xs : List LkR} (h : Lks w (.slice A n c) xs) {k : Nat} (hk : k < xs.length) : ∃ g off, A = some ⟨g, off, none⟩ ∧ ∀ j, j < 12 → w.cell? ⟨g, off + k * 12 + j, none⟩ = (lkC xs[k])[j]? := by
 have hl := h.len
 obtain ⟨⟨A', n', c', e, _, _, _, hr⟩, _⟩ := h
 injection e with e1 e2 e3
 subst e1 e2
 obtain ⟨g, off, rfl, hrow⟩ := hr (by omega)
 refine ⟨g, off, rfl, fun j hj => ?_⟩
 have hx : j < (lkC xs[k]).length := by simp [lkC, decC]; omega
 have := hrow.cell (i := k * 12 + j) (u := (lkC xs[k])[j]) (by rw [lkV_at xs k hk j hj, List.getElem?_eq_getElem hx])
 rw [List.getElem?_eq_getElem hx, Nat.add_assoc]
 exact this
structure Cla where
 item : Str
 field : Str
 fst : Str
 snd : Str
def claC (x : Cla) : List Value := [.string ⟨x.item.toArray⟩, .string ⟨x.field.toArray⟩, .string ⟨x.fst.toArray⟩, .string ⟨x.snd.toArray⟩]
def claV (xs : List Cla) : List Value := xs.flatMap claC
theorem claV_snoc (xs : List Cla) (p : Cla) : claV (xs ++ [p]) = claV xs ++ claC p := by simp [claV]
theorem claV_len : ∀ xs : List Cla, (claV xs).length = xs.length * 4
 | [] => rfl
 | x :: t => by
  show (claC x ++ claV t).length = _
  rw [List.length_append, claV_len t]
  simp [claC]; omega
theorem info_cla : (Tryz.prog.info? 92).map (fun i => (i.zero, i.size, i.bytes)) = some (some (.agg #[.string ⟨#[]⟩, .string ⟨#[]⟩, .string ⟨#[]⟩, .string ⟨#[]⟩]), 4, 64) := by kernel_rfl
/-- A clash of two looks at a field. -/
def clO (p : LkR) (f : Str) : Option Cla := if chIn p.1.vals f = chIn p.2.vals f then none else some ⟨p.1.item, f, p.1.rev, p.2.rev⟩
def clF (al : List AskR) (p : LkR) : List Cla := al.filterMap fun a => clO p a.field
def clsL (al : List AskR) (xs : List LkR) : List Cla := xs.flatMap (clF al)
theorem clsL_take {al : List AskR} {xs : List LkR} {k : Nat} (h : k < xs.length) : clsL al (xs.take (k + 1)) = clsL al (xs.take k) ++ clF al xs[k] := by
 unfold clsL
 rw [List.take_succ_eq_append_getElem h, List.flatMap_append]
 simp
def ClsPost (w : World) (q : Int) (CL : List Cla) (e : Ending) (w' : World) : Prop :=
 ∃ (A : Option Addr) (k c : Nat), e = .returned (.tuple #[.slice A k c, .int .i64 q]) ∧ (q ≠ 0 → k = 0) ∧ (q = 0 → Sl w' 92 4 (.slice A k c) (claV CL)) ∧ Pure w w'
def CsRel (w2 : World) (base g3 : Nat) (lay : Array Value) (al : List AskR) (lks : List LkR) (gk : Nat) (x i : Value) (wr : World) : Prop :=
 ∃ (k cap : Nat) (Ao : Option Addr) (xs : List Cla), lks.length - k = gk ∧ k ≤ lks.length ∧ x = .slice Ao xs.length cap ∧ i = .int .i64 (k : Int) ∧ xs = clsL al (lks.take k) ∧ xs.length ≤ 100 * k ∧ wr.ownsRow base 92 4 (.slice Ao xs.length cap) xs.length (claV xs) ∧ Blk wr g3 29 lay ∧ Pure w2 wr ∧ base ≤ wr.heap.size
def CiRel (w2 : World) (base g3 g11 : Nat) (lay box : Array Value) (al : List AskR) (p : LkR) (xs0 : List Cla) (gk : Nat) (x i : Value) (wr : World) : Prop :=
 ∃ (j cap : Nat) (Ao : Option Addr) (xs : List Cla), al.length - j = gk ∧ j ≤ al.length ∧ x = .slice Ao xs.length cap ∧ i = .int .i64 (j : Int) ∧ xs = xs0 ++ clF (al.take j) p ∧ xs.length ≤ xs0.length + j ∧ wr.ownsRow base 92 4 (.slice Ao xs.length cap) xs.length (claV xs) ∧ Blk wr g3 29 lay ∧ Blk wr g11 151 box ∧ Pure w2 wr ∧ base ≤ wr.heap.size
theorem clF_take {al : List AskR} {p : LkR} {j : Nat} (h : j < al.length) : clF (al.take (j + 1)) p = if chIn p.1.vals al[j].field = chIn p.2.vals al[j].field then clF (al.take j) p else clF (al.take j) p ++ [⟨p.1.item, al[j].field, p.1.rev, p.2.rev⟩] := by
 unfold clF
 rw [List.take_succ_eq_append_getElem h, List.filterMap_append]
 have e : clO p al[j].field = if chIn p.1.vals al[j].field = chIn p.2.vals al[j].field then none else some ⟨p.1.item, al[j].field, p.1.rev, p.2.rev⟩ := rfl
 by_cases hc : chIn p.1.vals al[j].field = chIn p.2.vals al[j].field
 ·rw [if_pos hc] at e ⊢; simp [e]
 ·rw [if_neg hc] at e ⊢; simp [e]

set_option maxRecDepth 100000 in
set_option maxHeartbeats 16000000 in
theorem clashes_calls (w : World) (vl : Value) (L : LayR) (A3 : Option Addr) (n3 c3 : Nat) (ds : List DecR) (at_ : Int) (hL : LayV w L vl) (hLB : LayB L) (hD : Decs w (.slice A3 n3 c3) ds) (hz : ∀ d ∈ ds, DecB d) (hn : ds.length ≤ 4000) (hk : decsE L ds = 0 → ∀ d ∈ ds, ∀ z ∈ d.vals, 0 ≤ kIx L.asks z.field) :
  Calls Tryz.prog 43 #[vl, .slice A3 n3 c3, .int .i64 at_] w (ClsPost w (cogE L ds at_) (clsL L.asks (looksP L.asks ds at_))) := by
 have HCK := Lib.hid (fun W (h : Pure w W) => dcheck_calls W vl L A3 n3 c3 ds (hL.pure h) hLB (hD.pure h) hz hn)
 have HLK := Lib.hid (fun (h0 : decsE L ds = 0) W (h : Pure w W) => looks_calls W vl L A3 n3 c3 ds at_ (hL.pure h) hLB (hD.pure h) hz hn (hk h0))
 have HQ : Hid (cogE L ds at_ = if decsE L ds ≠ 0 then decsE L ds else moE at_) := Lib.hid rfl
 have HMO := Lib.hid (fun W => momentE_calls W at_)
 have hlk : (looksP L.asks ds at_).length ≤ 4000 := by
  rw [← fiL_looks]
  have h1 := List.length_filterMap_le (lkO L.asks ds at_) (fiL L.asks ds at_)
  have h2 := fiL_len L.asks ds at_
  omega
 have hla := hLB.1
 obtain ⟨A, n, c, A2, n2, c2, rfl, hA, hR⟩ := hL
 have hal := hA.len
 subst hal
 have HA := Lib.hid (fun W (h : Pure w W) => hA.pure h)
 have HB0 := Lib.hid (Blk.new w 29 #[.slice A L.asks.length c, .slice A2 n2 c2])
 have HP0 := Lib.hid (pure_alloc w (.cells #[.slice A L.asks.length c, .slice A2 n2 c2] 29))
 generalize cogE L ds at_ = q at *
 generalize decsE L ds = qs at *
 generalize moE at_ = mo at *
 generalize looksP L.asks ds at_ = lks at *
 clear hLB hD hz hk hA hR
 go_enter Tryz.func43, Tryz.ntmps43
 go_upto_region 1 with (fail)
 generalize (w.alloc (.cells #[.slice A L.asks.length c, .slice A2 n2 c2] 29)) = w1 at *
 generalize hg3 : w.heap.size = g3 at *
 clear hg3
 have hX := HB0.out
 have l0 := hX.cell 0; have l1 := hX.cell 1; simp at l0 l1
 clear hX
 go_wp2_with fail
 refine (HCK.out _ HP0.out).mono ?_
 rintro e w2 ⟨rfl, hm⟩
 have HP2 := Lib.hid (HP0.out.trans hm)
 have HB2 := Lib.hid (HB0.out.modp hm)
 clear hm l0 l1 HP0 HB0 HCK
 go_wp2_with fail
 refine (HMO.out _).mono ?_
 rintro e w5 ⟨rfl, hm⟩
 have HP5 := Lib.hid (HP2.out.trans hm)
 have HB5 := Lib.hid (HB2.out.modp hm)
 clear hm HP2 HB2 HMO
 have HFE : Hid (∀ (W : World) (g : Nat), Blk W g 41 #[.int .i64 qs, .int .i64 mo] → Calls Tryz.prog 55 #[.slice (some ⟨g, 0, none⟩) 2 2] W (IntPost W q)) := Lib.hid (fun W g h => by
  have := firstE_calls W g 2 [qs, mo] h.row0 (by simp)
  rwa [cof2, ← HQ.out] at this)
 go_wp2_with fail
 refine (HFE.out _ _ (Blk.new' rfl)).mono ?_
 rintro e w6 ⟨rfl, hm⟩
 have HP6 := Lib.hid (HP5.out.trans ((pure_alloc _ _).trans hm))
 have HB6 := Lib.hid ((HB5.out.alloc _).modp hm)
 clear hm HP5 HB5 HFE
 by_cases h0 : q = 0
 rotate_left
 ·have h0' : (q != 0) = true := by simpa using h0
  clear HLK HQ HB6
  go_wp2_with fail
  refine bodyPost_ret (v := .tuple #[.slice none 0 0, .int .i64 q]) (by simp [results, Tryz.results43, go_sem]) rfl ?_
  exact ⟨none, 0, 0, rfl, fun _ => rfl, fun h => absurd h h0, HP6.out⟩
 subst h0
 have hq0 : qs = 0 := Decidable.byContradiction fun h => h (by have := HQ.out; rw [if_pos h] at this; omega)
 have HLW := Lib.hid (HLK.out hq0 w6 HP6.out)
 have hX := HB6.out
 have l0 := hX.cell 0; have l1 := hX.cell 1; simp at l0 l1
 clear hX HLK hq0 HQ
 go_wp2_with fail
 refine HLW.out.mono ?_
 rintro e w7 ⟨A4, c4, rfl, hlks, hm⟩
 have HP7 := Lib.hid (HP6.out.trans hm)
 have HB7 := Lib.hid (HB6.out.modp hm)
 have HLS := Lib.hid (fun W (h : Pure w7 W) => hlks.pure h)
 clear hlks hm HP6 HB6 l0 l1 HLW
 go_wp2_with fail
 obtain ⟨base, hbase⟩ : ∃ base, base = w7.heap.size := ⟨_, rfl⟩
 have hs1 := Nat.le_of_eq hbase
 have hs2 := Nat.le_of_eq hbase.symm
 clear hbase
 go_loopg [9, 29] lks.length (fun gk x i wr => CsRel w7 base g3 #[.slice A L.asks.length c, .slice A2 n2 c2] L.asks lks gk x i wr)
 case atStart => exact ⟨0, 0, none, [], by omega, by omega, rfl, rfl, rfl, by simp, World.ownsRow_nil _ _ _ _, HB7.out, Mod.refl _ _, by omega⟩
 case round =>
  clear HB7
  obtain ⟨k, cap, Ao, xs, rfl, hk, rfl, rfl, hxs, hxl, hO, hB, hm, hbs⟩ := hrel
  by_cases hlt : k < lks.length
  ·obtain ⟨g, off, rfl, hcells⟩ := (HLS.out _ hm).cells hlt
   have HEL := Lib.hid (fun W (h : Pure w7 W) => (HLS.out W h).2 _ (List.getElem_mem hlt))
   have HTK : Hid (clsL L.asks (lks.take (k + 1)) = xs ++ clF L.asks lks[k]) := Lib.hid (by rw [clsL_take hlt, ← hxs])
   generalize lks[k] = p at *
   obtain ⟨⟨xno, xat, xrev, xitem, xsec, xA, xc, xv⟩, ⟨yno, yat, yrev, yitem, ysec, yA, yc, yv⟩⟩ := p
   have q0 : wr.cell? ⟨g, off + k * 12, none⟩ = some (.int .i64 xno) := hcells 0 (by omega)
   have q1 : wr.cell? ⟨g, off + k * 12 + 1, none⟩ = some (.int .i64 xat) := hcells 1 (by omega)
   have q2 : wr.cell? ⟨g, off + k * 12 + 2, none⟩ = some (.string ⟨xrev.toArray⟩) := hcells 2 (by omega)
   have q3 : wr.cell? ⟨g, off + k * 12 + 3, none⟩ = some (.string ⟨xitem.toArray⟩) := hcells 3 (by omega)
   have q4 : wr.cell? ⟨g, off + k * 12 + 4, none⟩ = some (.bool xsec) := hcells 4 (by omega)
   have q5 : wr.cell? ⟨g, off + k * 12 + 5, none⟩ = some (.slice xA xv.length xc) := hcells 5 (by omega)
   have q6 : wr.cell? ⟨g, off + k * 12 + 6, none⟩ = some (.int .i64 yno) := hcells 6 (by omega)
   have q7 : wr.cell? ⟨g, off + k * 12 + 7, none⟩ = some (.int .i64 yat) := hcells 7 (by omega)
   have q8 : wr.cell? ⟨g, off + k * 12 + 8, none⟩ = some (.string ⟨yrev.toArray⟩) := hcells 8 (by omega)
   have q9 : wr.cell? ⟨g, off + k * 12 + 9, none⟩ = some (.string ⟨yitem.toArray⟩) := hcells 9 (by omega)
   have q10 : wr.cell? ⟨g, off + k * 12 + 10, none⟩ = some (.bool ysec) := hcells 10 (by omega)
   have q11 : wr.cell? ⟨g, off + k * 12 + 11, none⟩ = some (.slice yA yv.length yc) := hcells 11 (by omega)
   have hkl : (k : Int) < (lks.length : Int) := by omega
   clear hcells hxs
   go_upto_region 8 with (fail)
   have HXB := Lib.hid (Blk.new wr 151 #[.int .i64 xno, .int .i64 xat, .string ⟨xrev.toArray⟩, .string ⟨xitem.toArray⟩, .bool xsec, .slice xA xv.length xc, .int .i64 yno, .int .i64 yat, .string ⟨yrev.toArray⟩, .string ⟨yitem.toArray⟩, .bool ysec, .slice yA yv.length yc])
   have HO1 := Lib.hid (own_pure hO (pure_alloc _ (.cells #[.int .i64 xno, .int .i64 xat, .string ⟨xrev.toArray⟩, .string ⟨xitem.toArray⟩, .bool xsec, .slice xA xv.length xc, .int .i64 yno, .int .i64 yat, .string ⟨yrev.toArray⟩, .string ⟨yitem.toArray⟩, .bool ysec, .slice yA yv.length yc] 151)))
   have HB1 := Lib.hid (hB.alloc (.cells #[.int .i64 xno, .int .i64 xat, .string ⟨xrev.toArray⟩, .string ⟨xitem.toArray⟩, .bool xsec, .slice xA xv.length xc, .int .i64 yno, .int .i64 yat, .string ⟨yrev.toArray⟩, .string ⟨yitem.toArray⟩, .bool ysec, .slice yA yv.length yc] 151))
   have HM1 := Lib.hid (hm.alloc (.cells #[.int .i64 xno, .int .i64 xat, .string ⟨xrev.toArray⟩, .string ⟨xitem.toArray⟩, .bool xsec, .slice xA xv.length xc, .int .i64 yno, .int .i64 yat, .string ⟨yrev.toArray⟩, .string ⟨yitem.toArray⟩, .bool ysec, .slice yA yv.length yc] 151))
   have hb1 : base ≤ (wr.alloc (.cells #[.int .i64 xno, .int .i64 xat, .string ⟨xrev.toArray⟩, .string ⟨xitem.toArray⟩, .bool xsec, .slice xA xv.length xc, .int .i64 yno, .int .i64 yat, .string ⟨yrev.toArray⟩, .string ⟨yitem.toArray⟩, .bool ysec, .slice yA yv.length yc] 151)).heap.size := by simp; omega
   clear hO hB hm q0 q1 q2 q3 q4 q5 q6 q7 q8 q9 q10 q11
   generalize (wr.alloc (.cells #[.int .i64 xno, .int .i64 xat, .string ⟨xrev.toArray⟩, .string ⟨xitem.toArray⟩, .bool xsec, .slice xA xv.length xc, .int .i64 yno, .int .i64 yat, .string ⟨yrev.toArray⟩, .string ⟨yitem.toArray⟩, .bool ysec, .slice yA yv.length yc] 151)) = w8 at *
   generalize hg11 : wr.heap.size = g11 at *
   clear hg11
   have hX := HB1.out
   have l0 := hX.cell 0; have l1 := hX.cell 1; simp at l0 l1
   clear hX
   go_wp2_with fail
   go_loopg [9, 36] L.asks.length (fun gk x i wr => CiRel w7 base g3 g11 #[.slice A L.asks.length c, .slice A2 n2 c2] #[.int .i64 xno, .int .i64 xat, .string ⟨xrev.toArray⟩, .string ⟨xitem.toArray⟩, .bool xsec, .slice xA xv.length xc, .int .i64 yno, .int .i64 yat, .string ⟨yrev.toArray⟩, .string ⟨yitem.toArray⟩, .bool ysec, .slice yA yv.length yc] L.asks (⟨xno, xat, xrev, xitem, xsec, xA, xc, xv⟩, ⟨yno, yat, yrev, yitem, ysec, yA, yc, yv⟩) xs gk x i wr)
   case atStart => exact ⟨0, cap, Ao, xs, by omega, by omega, rfl, rfl, by simp [clF], by omega, HO1.out, HB1.out, HXB.out, HM1.out, hb1⟩
   case round =>
    clear HXB HO1 HB1 HM1 hb1 l0 l1
    obtain ⟨j, cap2, Ao2, zs, rfl, hj, rfl, rfl, hzs, hzl, hO, hB, hX, hm, hb2⟩ := hrel
    by_cases hjl : j < L.asks.length
    ·obtain ⟨ga, oa, rfl, a0, a1, a2, a3⟩ := (HA.out _ (HP7.out.trans hm)).cells hjl
     have HCT := Lib.hid (clF_take (p := (⟨xno, xat, xrev, xitem, xsec, xA, xc, xv⟩, ⟨yno, yat, yrev, yitem, ysec, yA, yc, yv⟩)) hjl)
     generalize L.asks[j] = ak at *
     obtain ⟨af, aA, ac, ach, am, ap⟩ := ak
     simp only at a0 a1 a2 a3 HCT
     have hE := HEL.out _ hm
     have HV1 := Lib.hid (fun W (h : Pure wr W) => value_calls W _ xv af (hE.1.pure h))
     have HV2 := Lib.hid (fun W (h : Pure wr W) => value_calls W _ yv af (hE.2.pure h))
     have HZS := Lib.hid hzs
     have HAB := Lib.hid (Blk.new wr 88 #[.string ⟨af.toArray⟩, .slice aA ach.length ac, .bool am, .int .i64 ap])
     have HO2 := Lib.hid (own_pure hO (pure_alloc _ (.cells #[.string ⟨af.toArray⟩, .slice aA ach.length ac, .bool am, .int .i64 ap] 88)))
     have HB2 := Lib.hid (hB.alloc (.cells #[.string ⟨af.toArray⟩, .slice aA ach.length ac, .bool am, .int .i64 ap] 88))
     have HX2 := Lib.hid (hX.alloc (.cells #[.string ⟨af.toArray⟩, .slice aA ach.length ac, .bool am, .int .i64 ap] 88))
     have HM2 := Lib.hid (hm.alloc (.cells #[.string ⟨af.toArray⟩, .slice aA ach.length ac, .bool am, .int .i64 ap] 88))
     have HO := Lib.hid hO
     have HB := Lib.hid hB
     have HX := Lib.hid hX
     have HM := Lib.hid hm
     have HPA : Hid (Pure wr (wr.alloc (.cells #[.string ⟨af.toArray⟩, .slice aA ach.length ac, .bool am, .int .i64 ap] 88))) := Lib.hid (pure_alloc _ _)
     have hb3 : base ≤ (wr.alloc (.cells #[.string ⟨af.toArray⟩, .slice aA ach.length ac, .bool am, .int .i64 ap] 88)).heap.size := by simp; omega
     have hjk : (j : Int) < (L.asks.length : Int) := by omega
     unfold ChPost at HV1 HV2
     generalize chIn xv af = e1 at *
     generalize chIn yv af = e2 at *
     clear hE hzs hO hB hX hm
     go_upto_region 11 with (fail)
     clear a0 a1 a2 a3
     generalize (wr.alloc (.cells #[.string ⟨af.toArray⟩, .slice aA ach.length ac, .bool am, .int .i64 ap] 88)) = wa at *
     generalize wr.heap.size = g13 at *
     have HGs := Lib.hid (show ∀ (D : Nat → Bool) (zzi : Nat) (zq zq' : World), (fun _ zq => (fun Z => Blk Z g11 151 #[.int .i64 xno, .int .i64 xat, .string ⟨xrev.toArray⟩, .string ⟨xitem.toArray⟩, .bool xsec, .slice xA xv.length xc, .int .i64 yno, .int .i64 yat, .string ⟨yrev.toArray⟩, .string ⟨yitem.toArray⟩, .bool ysec, .slice yA yv.length yc] ∧ Blk Z g13 88 #[.string ⟨af.toArray⟩, .slice aA ach.length ac, .bool am, .int .i64 ap]) zq) D zq → Mod (fun _ => False) zq zq' → (fun _ zq => (fun Z => Blk Z g11 151 #[.int .i64 xno, .int .i64 xat, .string ⟨xrev.toArray⟩, .string ⟨xitem.toArray⟩, .bool xsec, .slice xA xv.length xc, .int .i64 yno, .int .i64 yat, .string ⟨yrev.toArray⟩, .string ⟨yitem.toArray⟩, .bool ysec, .slice yA yv.length yc] ∧ Blk Z g13 88 #[.string ⟨af.toArray⟩, .slice aA ach.length ac, .bool am, .int .i64 ap]) zq) (upd D zzi true) zq' from by intro D zzi zq zq' h hm; (exact ⟨h.1.modp hm, h.2.modp hm⟩))
     refine wp_region_inv (by kernel_rfl) (by kernel_rfl) (InvF (R := Mod (fun _ => False)) [.is (.pointer (some ⟨g11, 0, none⟩)),
       .is (.pointer (some ⟨g11, 5, none⟩)),
       .is (.slice xA xv.length xc),
       .is (.pointer (some ⟨g13, 0, none⟩)),
       .is (.string ⟨af.toArray⟩),
       ⟨fun zv zw => ∃ (A_5 : Option Addr) (c_5 : Nat), zv = .slice A_5 e1.length c_5 ∧ SlK zw (.slice A_5 e1.length c_5) e1, (by rintro zv zw zx ⟨A_5, c_5, rfl, q0⟩ hm; exact ⟨A_5, c_5, rfl, (SlK.pure q0 hm)⟩), none, none⟩,
       .is (.pointer (some ⟨g11, 6, none⟩)),
       .is (.pointer (some ⟨g11, 11, none⟩)),
       .is (.slice yA yv.length yc),
       .is (.pointer (some ⟨g13, 0, none⟩)),
       .is (.string ⟨af.toArray⟩),
       ⟨fun zv zw => ∃ (A_11 : Option Addr) (c_11 : Nat), zv = .slice A_11 e2.length c_11 ∧ SlK zw (.slice A_11 e2.length c_11) e2, (by rintro zv zw zx ⟨A_11, c_11, rfl, q0⟩ hm; exact ⟨A_11, c_11, rfl, (SlK.pure q0 hm)⟩), none, none⟩,
       .is (.bool (decide (e1 = e2))),
       .is (.bool (!decide (e1 = e2)))]
       (PB wr (fun _ => False) wa.heap.size (fun _ zq => (fun Z => Blk Z g11 151 #[.int .i64 xno, .int .i64 xat, .string ⟨xrev.toArray⟩, .string ⟨xitem.toArray⟩, .bool xsec, .slice xA xv.length xc, .int .i64 yno, .int .i64 yat, .string ⟨yrev.toArray⟩, .string ⟨yitem.toArray⟩, .bool ysec, .slice yA yv.length yc] ∧ Blk Z g13 88 #[.string ⟨af.toArray⟩, .slice aA ach.length ac, .bool am, .int .i64 ap]) zq))) (InvF.start (PB.start HPA.out (Nat.le_refl _) (⟨HX2.out.drew, HAB.out.drew⟩))) ?_ ?_
     ·refine .cons ?_ (.cons ?_ (.cons ?_ (.cons ?_ (.cons ?_ (.cons ?_ (.cons ?_ (.cons ?_ (.cons ?_ (.cons ?_ (.cons ?_ (.cons ?_ (.cons ?_ (.cons ?_ .nil)))))))))))))
      ·intro D V zw1 a hR hI K hK
       obtain ⟨hM1, hB1, hG1⟩ := hI.1
       have ze11 := hR.frame.other (t := 11) (by kernel_rfl) rfl
       rw [if_pos (by rfl)]
       go_simp
       exact hK (.pointer (some ⟨g11, 0, none⟩)) _ (hI.next hR (by kernel_rfl) (Mod.refl _ _) (PB.quiet hI.1 (Mod.refl _ _) (HGs.out D 0 zw1 zw1 (hI.1).g (Mod.refl _ _))) (upd_same V 0 _))
      ·intro D V zw1 a hR hI K hK
       obtain ⟨hM1, hB1, hG1⟩ := hI.1
       have zd0 := hR.pred 0 (by kernel_rfl)
       have zF0 : V 0 = .pointer (some ⟨g11, 0, none⟩) := hI.2 0 zd0 rfl
       have zf0 := zF0; clear zF0
       have ze40 := hR.frame.done (t := 40) (j := 0) (by kernel_rfl) hR.ok zd0
       rw [if_pos (by rfl)]
       go_simp
       exact hK (.pointer (some ⟨g11, 5, none⟩)) _ (hI.next hR (by kernel_rfl) (Mod.refl _ _) (PB.quiet hI.1 (Mod.refl _ _) (HGs.out D 1 zw1 zw1 (hI.1).g (Mod.refl _ _))) (upd_same V 1 _))
      ·intro D V zw1 a hR hI K hK
       obtain ⟨hM1, hB1, hG1⟩ := hI.1
       have zd1 := hR.pred 1 (by kernel_rfl)
       have zF1 : V 1 = .pointer (some ⟨g11, 5, none⟩) := hI.2 1 zd1 rfl
       have zf1 := zF1; clear zF1
       have ze41 := hR.frame.done (t := 41) (j := 1) (by kernel_rfl) hR.ok zd1
       have zx := hG1.1.cell 5
       simp at zx
       rw [if_pos (by rfl)]
       go_simp
       exact hK (.slice xA xv.length xc) _ (hI.next hR (by kernel_rfl) (Mod.refl _ _) (PB.quiet hI.1 (Mod.refl _ _) (HGs.out D 2 zw1 zw1 (hI.1).g (Mod.refl _ _))) (upd_same V 2 _))
      ·intro D V zw1 a hR hI K hK
       obtain ⟨hM1, hB1, hG1⟩ := hI.1
       have ze13 := hR.frame.other (t := 13) (by kernel_rfl) rfl
       rw [if_pos (by rfl)]
       go_simp
       exact hK (.pointer (some ⟨g13, 0, none⟩)) _ (hI.next hR (by kernel_rfl) (Mod.refl _ _) (PB.quiet hI.1 (Mod.refl _ _) (HGs.out D 3 zw1 zw1 (hI.1).g (Mod.refl _ _))) (upd_same V 3 _))
      ·intro D V zw1 a hR hI K hK
       obtain ⟨hM1, hB1, hG1⟩ := hI.1
       have zd3 := hR.pred 3 (by kernel_rfl)
       have zF3 : V 3 = .pointer (some ⟨g13, 0, none⟩) := hI.2 3 zd3 rfl
       have zf3 := zF3; clear zF3
       have ze43 := hR.frame.done (t := 43) (j := 3) (by kernel_rfl) hR.ok zd3
       have zx := hG1.2.cell 0
       simp at zx
       rw [if_pos (by rfl)]
       go_simp
       exact hK (.string ⟨af.toArray⟩) _ (hI.next hR (by kernel_rfl) (Mod.refl _ _) (PB.quiet hI.1 (Mod.refl _ _) (HGs.out D 4 zw1 zw1 (hI.1).g (Mod.refl _ _))) (upd_same V 4 _))
      ·intro D V zw1 a hR hI K hK
       obtain ⟨hM1, hB1, hG1⟩ := hI.1
       have zd2 := hR.pred 2 (by kernel_rfl)
       have zF2 : V 2 = .slice xA xv.length xc := hI.2 2 zd2 rfl
       have zf2 := zF2; clear zF2
       have zd4 := hR.pred 4 (by kernel_rfl)
       have zF4 : V 4 = .string ⟨af.toArray⟩ := hI.2 4 zd4 rfl
       have zf4 := zF4; clear zF4
       have ze42 := hR.frame.done (t := 42) (j := 2) (by kernel_rfl) hR.ok zd2
       have ze44 := hR.frame.done (t := 44) (j := 4) (by kernel_rfl) hR.ok zd4
       rw [if_pos (by rfl)]
       go_simp
       refine (HV1.out zw1 hM1).mono ?_
       rintro e zw2 ⟨A_0, c_0, rfl, hsl, hm2⟩
       exact hK (.slice A_0 e1.length c_0) _ (hI.next hR (by kernel_rfl) hm2 (PB.quiet hI.1 hm2 (HGs.out D 5 _ _ (hI.1).g hm2)) (⟨A_0, c_0, upd_same V 5 _, hsl⟩))
      ·intro D V zw1 a hR hI K hK
       obtain ⟨hM1, hB1, hG1⟩ := hI.1
       have ze11 := hR.frame.other (t := 11) (by kernel_rfl) rfl
       rw [if_pos (by rfl)]
       go_simp
       exact hK (.pointer (some ⟨g11, 6, none⟩)) _ (hI.next hR (by kernel_rfl) (Mod.refl _ _) (PB.quiet hI.1 (Mod.refl _ _) (HGs.out D 6 zw1 zw1 (hI.1).g (Mod.refl _ _))) (upd_same V 6 _))
      ·intro D V zw1 a hR hI K hK
       obtain ⟨hM1, hB1, hG1⟩ := hI.1
       have zd6 := hR.pred 6 (by kernel_rfl)
       have zF6 : V 6 = .pointer (some ⟨g11, 6, none⟩) := hI.2 6 zd6 rfl
       have zf6 := zF6; clear zF6
       have ze46 := hR.frame.done (t := 46) (j := 6) (by kernel_rfl) hR.ok zd6
       rw [if_pos (by rfl)]
       go_simp
       exact hK (.pointer (some ⟨g11, 11, none⟩)) _ (hI.next hR (by kernel_rfl) (Mod.refl _ _) (PB.quiet hI.1 (Mod.refl _ _) (HGs.out D 7 zw1 zw1 (hI.1).g (Mod.refl _ _))) (upd_same V 7 _))
      ·intro D V zw1 a hR hI K hK
       obtain ⟨hM1, hB1, hG1⟩ := hI.1
       have zd7 := hR.pred 7 (by kernel_rfl)
       have zF7 : V 7 = .pointer (some ⟨g11, 11, none⟩) := hI.2 7 zd7 rfl
       have zf7 := zF7; clear zF7
       have ze47 := hR.frame.done (t := 47) (j := 7) (by kernel_rfl) hR.ok zd7
       have zx := hG1.1.cell 11
       simp at zx
       rw [if_pos (by rfl)]
       go_simp
       exact hK (.slice yA yv.length yc) _ (hI.next hR (by kernel_rfl) (Mod.refl _ _) (PB.quiet hI.1 (Mod.refl _ _) (HGs.out D 8 zw1 zw1 (hI.1).g (Mod.refl _ _))) (upd_same V 8 _))
      ·intro D V zw1 a hR hI K hK
       obtain ⟨hM1, hB1, hG1⟩ := hI.1
       have ze13 := hR.frame.other (t := 13) (by kernel_rfl) rfl
       rw [if_pos (by rfl)]
       go_simp
       exact hK (.pointer (some ⟨g13, 0, none⟩)) _ (hI.next hR (by kernel_rfl) (Mod.refl _ _) (PB.quiet hI.1 (Mod.refl _ _) (HGs.out D 9 zw1 zw1 (hI.1).g (Mod.refl _ _))) (upd_same V 9 _))
      ·intro D V zw1 a hR hI K hK
       obtain ⟨hM1, hB1, hG1⟩ := hI.1
       have zd9 := hR.pred 9 (by kernel_rfl)
       have zF9 : V 9 = .pointer (some ⟨g13, 0, none⟩) := hI.2 9 zd9 rfl
       have zf9 := zF9; clear zF9
       have ze49 := hR.frame.done (t := 49) (j := 9) (by kernel_rfl) hR.ok zd9
       have zx := hG1.2.cell 0
       simp at zx
       rw [if_pos (by rfl)]
       go_simp
       exact hK (.string ⟨af.toArray⟩) _ (hI.next hR (by kernel_rfl) (Mod.refl _ _) (PB.quiet hI.1 (Mod.refl _ _) (HGs.out D 10 zw1 zw1 (hI.1).g (Mod.refl _ _))) (upd_same V 10 _))
      ·intro D V zw1 a hR hI K hK
       obtain ⟨hM1, hB1, hG1⟩ := hI.1
       have zd8 := hR.pred 8 (by kernel_rfl)
       have zF8 : V 8 = .slice yA yv.length yc := hI.2 8 zd8 rfl
       have zf8 := zF8; clear zF8
       have zd10 := hR.pred 10 (by kernel_rfl)
       have zF10 : V 10 = .string ⟨af.toArray⟩ := hI.2 10 zd10 rfl
       have zf10 := zF10; clear zF10
       have ze48 := hR.frame.done (t := 48) (j := 8) (by kernel_rfl) hR.ok zd8
       have ze50 := hR.frame.done (t := 50) (j := 10) (by kernel_rfl) hR.ok zd10
       rw [if_pos (by rfl)]
       go_simp
       refine (HV2.out zw1 hM1).mono ?_
       rintro e zw2 ⟨A_0, c_0, rfl, hsl, hm2⟩
       exact hK (.slice A_0 e2.length c_0) _ (hI.next hR (by kernel_rfl) hm2 (PB.quiet hI.1 hm2 (HGs.out D 11 _ _ (hI.1).g hm2)) (⟨A_0, c_0, upd_same V 11 _, hsl⟩))
      ·intro D V zw1 a hR hI K hK
       obtain ⟨hM1, hB1, hG1⟩ := hI.1
       have zd5 := hR.pred 5 (by kernel_rfl)
       have zF5 : ∃ (A_5 : Option Addr) (c_5 : Nat), V 5 = .slice A_5 e1.length c_5 ∧ SlK zw1 (.slice A_5 e1.length c_5) e1 := hI.2 5 zd5 rfl
       obtain ⟨A_5, c_5, zf5, b5_0⟩ := zF5
       have zd11 := hR.pred 11 (by kernel_rfl)
       have zF11 : ∃ (A_11 : Option Addr) (c_11 : Nat), V 11 = .slice A_11 e2.length c_11 ∧ SlK zw1 (.slice A_11 e2.length c_11) e2 := hI.2 11 zd11 rfl
       obtain ⟨A_11, c_11, zf11, b11_0⟩ := zF11
       have ze45 := hR.frame.done (t := 45) (j := 5) (by kernel_rfl) hR.ok zd5
       have ze51 := hR.frame.done (t := 51) (j := 11) (by kernel_rfl) hR.ok zd11
       rw [if_pos (by rfl)]
       go_simp
       refine (equalG_calls zw1 _ _ e1 e2 b5_0 b11_0).mono ?_
       rintro e zw2 ⟨rfl, hm2⟩
       exact hK (.bool (decide (e1 = e2))) _ (hI.next hR (by kernel_rfl) hm2 (PB.quiet hI.1 hm2 (HGs.out D 12 _ _ (hI.1).g hm2)) (upd_same V 12 _))
      ·intro D V zw1 a hR hI K hK
       obtain ⟨hM1, hB1, hG1⟩ := hI.1
       have zd12 := hR.pred 12 (by kernel_rfl)
       have zF12 : V 12 = .bool (decide (e1 = e2)) := hI.2 12 zd12 rfl
       have zf12 := zF12; clear zF12
       have ze52 := hR.frame.done (t := 52) (j := 12) (by kernel_rfl) hR.ok zd12
       rw [if_pos (by rfl)]
       go_simp
       exact hK (.bool (!decide (e1 = e2))) _ (hI.next hR (by kernel_rfl) (Mod.refl _ _) (PB.quiet hI.1 (Mod.refl _ _) (HGs.out D 13 zw1 zw1 (hI.1).g (Mod.refl _ _))) (upd_same V 13 _))
     ·intro D V wb hD hI
      obtain ⟨hM1, hB1, hG1⟩ := hI.1
      have hMx := hM1
      clear hM1
      have hBx := hB1
      clear hB1
      have hGx := hG1
      clear hG1
      have zF0 : V 0 = .pointer (some ⟨g11, 0, none⟩) := hI.2 0 (hD 0 (by decide)) rfl
      have zf0 := zF0; clear zF0
      have zF1 : V 1 = .pointer (some ⟨g11, 5, none⟩) := hI.2 1 (hD 1 (by decide)) rfl
      have zf1 := zF1; clear zF1
      have zF2 : V 2 = .slice xA xv.length xc := hI.2 2 (hD 2 (by decide)) rfl
      have zf2 := zF2; clear zF2
      have zF3 : V 3 = .pointer (some ⟨g13, 0, none⟩) := hI.2 3 (hD 3 (by decide)) rfl
      have zf3 := zF3; clear zF3
      have zF4 : V 4 = .string ⟨af.toArray⟩ := hI.2 4 (hD 4 (by decide)) rfl
      have zf4 := zF4; clear zF4
      have zF5 : ∃ (A_5 : Option Addr) (c_5 : Nat), V 5 = .slice A_5 e1.length c_5 ∧ SlK wb (.slice A_5 e1.length c_5) e1 := hI.2 5 (hD 5 (by decide)) rfl
      obtain ⟨A_5, c_5, zf5, b5_0⟩ := zF5
      have zF6 : V 6 = .pointer (some ⟨g11, 6, none⟩) := hI.2 6 (hD 6 (by decide)) rfl
      have zf6 := zF6; clear zF6
      have zF7 : V 7 = .pointer (some ⟨g11, 11, none⟩) := hI.2 7 (hD 7 (by decide)) rfl
      have zf7 := zF7; clear zF7
      have zF8 : V 8 = .slice yA yv.length yc := hI.2 8 (hD 8 (by decide)) rfl
      have zf8 := zF8; clear zF8
      have zF9 : V 9 = .pointer (some ⟨g13, 0, none⟩) := hI.2 9 (hD 9 (by decide)) rfl
      have zf9 := zF9; clear zF9
      have zF10 : V 10 = .string ⟨af.toArray⟩ := hI.2 10 (hD 10 (by decide)) rfl
      have zf10 := zF10; clear zF10
      have zF11 : ∃ (A_11 : Option Addr) (c_11 : Nat), V 11 = .slice A_11 e2.length c_11 ∧ SlK wb (.slice A_11 e2.length c_11) e2 := hI.2 11 (hD 11 (by decide)) rfl
      obtain ⟨A_11, c_11, zf11, b11_0⟩ := zF11
      have zF12 : V 12 = .bool (decide (e1 = e2)) := hI.2 12 (hD 12 (by decide)) rfl
      have zf12 := zF12; clear zF12
      have zF13 : V 13 = .bool (!decide (e1 = e2)) := hI.2 13 (hD 13 (by decide)) rfl
      have zf13 := zF13; clear zF13
      clear hI hD HGs
      simp only [frAll, Act.put, List.setIfInBounds_toArray, List.set_cons_zero, List.set_cons_succ, Nat.zero_add, Nat.reduceAdd, zf0, zf1, zf2, zf3, zf4, zf5, zf6, zf7, zf8, zf9, zf10, zf11, zf12, zf13]
      clear zf0 zf1 zf2 zf3 zf4 zf5 zf6 zf7 zf8 zf9 zf10 zf11 zf12 zf13
      clear V D
      have HO6 := Lib.hid (own_pure HO.out hMx)
      have HB6 := Lib.hid (HB.out.modp hMx)
      have HX6 := Lib.hid (HX.out.modp hMx)
      have HM6 := Lib.hid (HM.out.trans hMx)
      have hX := hGx.1
      have hY := hGx.2
      have hb6 : base ≤ wb.heap.size := by have := hMx.size; omega
      clear hMx hGx hBx HO HB HX HM HO2 HB2 HX2 HM2 HAB HPA HV1 HV2 b5_0 b11_0
      have d0 := hX.cell 0; have d1 := hX.cell 1; have d2 := hX.cell 2; have d3 := hX.cell 3; have d4 := hX.cell 4; have d5 := hX.cell 5; have d6 := hX.cell 6; have d7 := hX.cell 7; have d8 := hX.cell 8; have d9 := hX.cell 9; have d10 := hX.cell 10; have d11 := hX.cell 11; simp at d0 d1 d2 d3 d4 d5 d6 d7 d8 d9 d10 d11
      have m0 := hY.cell 0; have m1 := hY.cell 1; have m2 := hY.cell 2; have m3 := hY.cell 3; simp at m0 m1 m2 m3
      clear hX hY
      generalize hfe : decide (e1 = e2) = fe at *
      have HFE := Lib.hid hfe
      clear hfe
      cases fe
      rotate_left
      ·have he : e1 = e2 := of_decide_eq_true HFE.out
       have HCN : Hid (xs ++ clF (L.asks.take (j + 1)) (⟨xno, xat, xrev, xitem, xsec, xA, xc, xv⟩, ⟨yno, yat, yrev, yitem, ysec, yA, yc, yv⟩) = zs) := Lib.hid (by rw [HCT.out, if_pos he, ← HZS.out])
       clear HCT he HFE
       go_wp2_with fail
       go_roundg (L.asks.length - (j + 1))
       case measure => omega
       case rel => exact ⟨j + 1, cap2, Ao2, zs, rfl, by omega, rfl, by simp, HCN.out.symm, by omega, HO6.out, HB6.out, HX6.out, HM6.out, hb6⟩
      ·have he : ¬ e1 = e2 := of_decide_eq_false HFE.out
       have HCN : Hid (xs ++ clF (L.asks.take (j + 1)) (⟨xno, xat, xrev, xitem, xsec, xA, xc, xv⟩, ⟨yno, yat, yrev, yitem, ysec, yA, yc, yv⟩) = zs ++ [⟨xitem, af, xrev, yrev⟩]) := Lib.hid (by rw [HCT.out, if_neg he, ← List.append_assoc, ← HZS.out])
       obtain ⟨i0, hi0, hz0, hz1, hz2⟩ := info_parts info_cla
       have hownO := HO6.out
       have hmO := HM6.out
       have hzl2 : zs.length ≤ 1000000 := by omega
       clear HCT he HFE
       go_wp2_with ((at_builtin; refine wpList_append_lies _ rfl _ _ _ rfl base 92 i0 _ 4 64 Tryz.underlying80 hi0 hz0 hz1 hz2 rfl (by omega) (.slice Ao2 zs.length cap2) zs.length (claV zs) rfl (hownO.alloc _) ⟨wb.heap.size, 0, none⟩ 1 1 [.string ⟨xitem.toArray⟩, .string ⟨af.toArray⟩, .string ⟨xrev.toArray⟩, .string ⟨yrev.toArray⟩] rfl rfl (World.news_of_block (cs := #[.string ⟨xitem.toArray⟩, .string ⟨af.toArray⟩, .string ⟨xrev.toArray⟩, .string ⟨yrev.toArray⟩]) (t := 92) (fr := (0, 0)) (heap_alloc_new wb _)) (by simp [Value.oneCell']) (by omega) (by simp [maxLen]; omega) (by omega) (by have := hmO.size; simp; omega) (wb.heap.size + 1) (by simp) ?_; intro g5 cap5 w5 hown5 hgrow hat hlt5))
       have mG := mod_grown hgrow
       have hob := own_block hownO
       have hoa := hownO.alloc (.cells #[.string ⟨xitem.toArray⟩, .string ⟨af.toArray⟩, .string ⟨xrev.toArray⟩, .string ⟨yrev.toArray⟩] 92)
       have hzz := mG.size
       simp only [World.size_alloc] at hzz
       go_roundg (L.asks.length - (j + 1))
       case measure => omega
       case rel =>
        refine ⟨j + 1, cap5, some ⟨g5, 0, none⟩, zs ++ [⟨xitem, af, xrev, yrev⟩], rfl, by omega, by simp, by simp, HCN.out.symm, by simp; omega, by simpa [claV_snoc, claC] using hown5, (HB6.out.alloc (.cells #[.string ⟨xitem.toArray⟩, .string ⟨af.toArray⟩, .string ⟨xrev.toArray⟩, .string ⟨yrev.toArray⟩] 92)).mod mG (fun hs => ?_), (HX6.out.alloc (.cells #[.string ⟨xitem.toArray⟩, .string ⟨af.toArray⟩, .string ⟨xrev.toArray⟩, .string ⟨yrev.toArray⟩] 92)).mod mG (fun hs => ?_), (HM6.out.alloc _).grown hgrow (fun i hi => .inr (by have := hob i hi; omega)), by omega⟩
        ·have h3 := HB6.out.alloc (.cells #[.string ⟨xitem.toArray⟩, .string ⟨af.toArray⟩, .string ⟨xrev.toArray⟩, .string ⟨yrev.toArray⟩] 92); unfold Blk at h3; exact absurd (own_ty hoa hs h3) (by decide)
        ·have h3 := HX6.out.alloc (.cells #[.string ⟨xitem.toArray⟩, .string ⟨af.toArray⟩, .string ⟨xrev.toArray⟩, .string ⟨yrev.toArray⟩] 92); unfold Blk at h3; exact absurd (own_ty hoa hs h3) (by decide)
    ·have hje : j = L.asks.length := by omega
     have HZE : Hid (clsL L.asks (lks.take (k + 1)) = zs) := Lib.hid (by rw [HTK.out, hzs, List.take_of_length_le (by omega)])
     have HO := Lib.hid hO
     have HB := Lib.hid hB
     have HM := Lib.hid hm
     clear hO hB hX hm hzs hje
     go_wp2_with fail
     go_roundg (lks.length - (k + 1))
     case measure => omega
     case rel => exact ⟨k + 1, cap2, Ao2, zs, rfl, by omega, rfl, by simp, HZE.out.symm, by omega, HO.out, HB.out, HM.out, hb2⟩
  ·have hke : k = lks.length := by omega
   have HXE : Hid (xs = clsL L.asks lks) := Lib.hid (by rw [hxs, List.take_of_length_le (by omega)])
   have HO := Lib.hid hO
   have HM := Lib.hid hm
   clear hO hm hB hxs hke
   go_wp2_with fail
   refine bodyPost_ret (v := .tuple #[.slice Ao xs.length cap, .int .i64 0]) (by simp [results, Tryz.results43, go_sem]) rfl ?_
   exact ⟨Ao, xs.length, cap, rfl, fun h => absurd rfl h, fun _ => by rw [← HXE.out]; exact Sl.of_own HO.out, HP7.out.trans HM.out⟩

end Go.Proofs.YtkkndblcejmmjaaGreatDoor

/- latest, CodedAt of the reference. -/
namespace Go.Proofs.YtkkndblcejmmjaaGreatDoor
set_option linter.unusedVariables false
set_option linter.unusedSimpArgs false
open Go.RowKit

theorem latF_if (al : List AskR) (p : DecR → Bool) (o : Option DecR) (x : DecR) : latF al p o x = if (p x && (!o.isSome || decide (laterS al x (o.getD decN) = 1))) = true then some x else o := by
 unfold latF
 cases hp : p x
 ·simp
 ·cases o with
  | none => simp
  | some y => simp
theorem Blk.set6 {w : World} {g : Nat} {t : TypeId} {a b c d e f a' b' c' d' e' f' : Value} (h : Blk w g t #[a, b, c, d, e, f]) : Blk (World.setCell (World.setCell (World.setCell (World.setCell (World.setCell (World.setCell w ⟨g, 0, none⟩ a') ⟨g, 1, none⟩ b') ⟨g, 2, none⟩ c') ⟨g, 3, none⟩ d') ⟨g, 4, none⟩ e') ⟨g, 5, none⟩ f') g t #[a', b', c', d', e', f'] := by
 simpa using (((((h.set 0 a').set 1 b').set 2 c').set 3 d').set 4 e').set 5 f'
theorem Mod.set6 (w : World) (g : Nat) (a' b' c' d' e' f' : Value) : Mod (· = g) w (World.setCell (World.setCell (World.setCell (World.setCell (World.setCell (World.setCell w ⟨g, 0, none⟩ a') ⟨g, 1, none⟩ b') ⟨g, 2, none⟩ c') ⟨g, 3, none⟩ d') ⟨g, 4, none⟩ e') ⟨g, 5, none⟩ f') :=
 ((((((Mod.refl (· = g) w).setCell (p := ⟨g, 0, none⟩) (.inl rfl) a').setCell (p := ⟨g, 1, none⟩) (.inl rfl) b').setCell (p := ⟨g, 2, none⟩) (.inl rfl) c').setCell (p := ⟨g, 3, none⟩) (.inl rfl) d').setCell (p := ⟨g, 4, none⟩) (.inl rfl) e').setCell (p := ⟨g, 5, none⟩) (.inl rfl) f'
def RltPost (w : World) (o : Option DecR) (e : Ending) (w' : World) : Prop := e = .returned (.tuple #[DecVal (o.getD decN), .bool o.isSome]) ∧ Pure w w'
def RltRel (w : World) (g3 : Nat) (lay : Array Value) (al : List AskR) (p : DecR → Bool) (ds : List DecR) (gk : Nat) (h i : Value) (wr : World) : Prop :=
 ∃ (k : Nat) (o : Option DecR), ds.length - k = gk ∧ k ≤ ds.length ∧ h = .bool o.isSome ∧ i = .int .i64 (k : Int) ∧ o = latO al p (ds.take k) ∧ Blk wr (g3 + 1 + 1) 40 (decC (o.getD decN)).toArray ∧ Blk wr (g3 + 1) 40 (decC decN).toArray ∧ Blk wr g3 29 lay ∧ Pure w wr

set_option maxRecDepth 100000 in
set_option maxHeartbeats 8000000 in
theorem rlatest2_calls (w : World) (vl : Value) (L : LayR) (A3 : Option Addr) (n3 c3 : Nat) (ds : List DecR) (F : Nat) (kc1 kc2 : Value) (p : DecR → Bool) (hL : LayV w L vl) (hLB : LayB L) (hD : Decs w (.slice A3 n3 c3) ds) (hz : ∀ d ∈ ds, DecB d) (hn : ds.length ≤ 4000) (hk : ∀ d ∈ ds, ∀ z ∈ d.vals, 0 ≤ kIx L.asks z.field)
  (hcf : ∀ (x : Value) (W : World), Sem.run Tryz.prog (callFunc F #[x, kc1, kc2]) W = .ok (.enter F #[x, kc1, kc2]) W)
  (hF : ∀ (x : DecR) (W : World), x ∈ ds → Pure w W → Calls Tryz.prog F #[DecVal x, kc1, kc2] W (BoolPost W (p x))) :
  Calls Tryz.prog 101 #[vl, .slice A3 n3 c3, .func (.func F) #[] #[kc1, kc2]] w (RltPost w (latO L.asks p ds)) := by
 have HLR := Lib.hid (fun W (h : Pure w W) (x y : DecR) (hx : x ∈ ds) (hy : y ∈ ds) => laterR_calls W vl L x y (hL.pure h) hLB ((hD.2 x hx).pure h) ((hD.2 y hy).pure h) (hz x hx) (hz y hy) (hk x hx) (hk y hy))
 have HSG := Lib.hid (fun (x y : DecR) (hx : x ∈ ds) => laterR_sg L.asks x y (hk x hx))
 have HF := Lib.hid hF
 have hl := hD.len
 subst hl
 have HD := Lib.hid hD
 obtain ⟨A, n, c, A2, n2, c2, rfl, _, _⟩ := hL
 have HB0 := Lib.hid (((Blk.new w 29 #[.slice A n c, .slice A2 n2 c2]).alloc (.cells #[.int .i64 0, .int .i64 0, .string ⟨#[]⟩, .string ⟨#[]⟩, .bool false, .slice none 0 0] 40)).alloc (.cells #[.int .i64 0, .int .i64 0, .string ⟨#[]⟩, .string ⟨#[]⟩, .bool false, .slice none 0 0] 40))
 have HR0 := Lib.hid ((Blk.snd w (.cells #[.slice A n c, .slice A2 n2 c2] 29) 40 #[.int .i64 0, .int .i64 0, .string ⟨#[]⟩, .string ⟨#[]⟩, .bool false, .slice none 0 0]).alloc (.cells #[.int .i64 0, .int .i64 0, .string ⟨#[]⟩, .string ⟨#[]⟩, .bool false, .slice none 0 0] 40))
 have HO0 := Lib.hid (Blk.thd w (.cells #[.slice A n c, .slice A2 n2 c2] 29) (.cells #[.int .i64 0, .int .i64 0, .string ⟨#[]⟩, .string ⟨#[]⟩, .bool false, .slice none 0 0] 40) 40 #[.int .i64 0, .int .i64 0, .string ⟨#[]⟩, .string ⟨#[]⟩, .bool false, .slice none 0 0])
 have HP0 := Lib.hid (((pure_alloc w (.cells #[.slice A n c, .slice A2 n2 c2] 29)).trans (pure_alloc _ (.cells #[.int .i64 0, .int .i64 0, .string ⟨#[]⟩, .string ⟨#[]⟩, .bool false, .slice none 0 0] 40))).trans (pure_alloc _ (.cells #[.int .i64 0, .int .i64 0, .string ⟨#[]⟩, .string ⟨#[]⟩, .bool false, .slice none 0 0] 40)))
 clear hLB hD hz hk hF
 go_enter Tryz.func101, Tryz.ntmps101
 go_upto_region 2 with (fail)
 generalize (((w.alloc (.cells #[.slice A n c, .slice A2 n2 c2] 29)).alloc (.cells #[.int .i64 0, .int .i64 0, .string ⟨#[]⟩, .string ⟨#[]⟩, .bool false, .slice none 0 0] 40)).alloc (.cells #[.int .i64 0, .int .i64 0, .string ⟨#[]⟩, .string ⟨#[]⟩, .bool false, .slice none 0 0] 40)) = w1 at *
 generalize hg : w.heap.size = g3 at *
 have hg3 := Nat.le_of_eq hg
 clear hg
 go_wp2_with fail
 go_loopg [9, 14] ds.length (fun gk h i wr => RltRel w g3 #[.slice A n c, .slice A2 n2 c2] L.asks p ds gk h i wr)
 case atStart => exact ⟨0, none, by omega, by omega, rfl, rfl, rfl, HO0.out, HR0.out, HB0.out, HP0.out⟩
 case round =>
  clear HO0 HR0 HB0 HP0
  obtain ⟨k, o, rfl, hk, rfl, rfl, ho, hO, hR, hB, hm⟩ := hrel
  by_cases hlt : k < ds.length
  ·obtain ⟨g, off, rfl, q0, q1, q2, q3, q4, q5⟩ := (HD.out.pure hm).cells hlt
   have HXM := Lib.hid (List.getElem_mem hlt)
   have HTK := Lib.hid (List.take_succ_eq_append_getElem hlt)
   have HTM : Hid (∀ y, o = some y → y ∈ ds) := Lib.hid (fun y hy => List.mem_of_mem_take (latO_mem L.asks p (ds.take k) (y := y) (by rw [← ho]; exact hy)).1)
   have HNX : Hid (latO L.asks p (ds.take k ++ [ds[k]]) = if (p ds[k] && (!o.isSome || decide (laterS L.asks ds[k] (o.getD decN) = 1))) = true then some ds[k] else o) := Lib.hid (by rw [latO_snoc, ← ho, latF_if])
   have hgw := hB.lt
   have hgr := hR.lt
   have hgo := hO.lt
   generalize ds[k] = x at *
   have HFX := Lib.hid (fun W (h : Pure wr W) => HF.out x W HXM.out (hm.trans h))
   have HLY : Hid (∀ W, Pure wr W → ∀ y, o = some y → Calls Tryz.prog 153 #[.agg #[.slice A n c, .slice A2 n2 c2], DecVal x, DecVal y] W (IntD W (laterR L.asks x y))) := Lib.hid (fun W h y hy => HLR.out W (hm.trans h) x y HXM.out (HTM.out y hy))
   have HSX : Hid (∀ y, decide (laterS L.asks x y = 1) = decide (0 < laterR L.asks x y)) := Lib.hid (fun y => by rw [← HSG.out x y HXM.out, Bool.eq_iff_iff]; simp [sgI_pos])
   generalize hy : o.getD decN = y at *
   have HY := Lib.hid hy
   have HO := Lib.hid hO
   have HR := Lib.hid hR
   have HB := Lib.hid hB
   have HM := Lib.hid hm
   clear hy ho hO hR hB hm
   obtain ⟨xno, xat, xrev, xitem, xsec, xA, xc, xv⟩ := x
   obtain ⟨yno, yat, yrev, yitem, ysec, yA, yc, yv⟩ := y
   rw [HSX.out] at HNX
   simp only [decC, DecVal.eq] at *
   go_upto_region 6 with (fail)
   have HBX := Lib.hid (Blk.new wr 40 #[.int .i64 xno, .int .i64 xat, .string ⟨xrev.toArray⟩, .string ⟨xitem.toArray⟩, .bool xsec, .slice xA xv.length xc])
   have HO2 := Lib.hid (HO.out.alloc (.cells #[.int .i64 xno, .int .i64 xat, .string ⟨xrev.toArray⟩, .string ⟨xitem.toArray⟩, .bool xsec, .slice xA xv.length xc] 40))
   have HR2 := Lib.hid (HR.out.alloc (.cells #[.int .i64 xno, .int .i64 xat, .string ⟨xrev.toArray⟩, .string ⟨xitem.toArray⟩, .bool xsec, .slice xA xv.length xc] 40))
   have HB2 := Lib.hid (HB.out.alloc (.cells #[.int .i64 xno, .int .i64 xat, .string ⟨xrev.toArray⟩, .string ⟨xitem.toArray⟩, .bool xsec, .slice xA xv.length xc] 40))
   have HPA : Hid (Pure wr (wr.alloc (.cells #[.int .i64 xno, .int .i64 xat, .string ⟨xrev.toArray⟩, .string ⟨xitem.toArray⟩, .bool xsec, .slice xA xv.length xc] 40))) := Lib.hid (pure_alloc _ _)
   have hg9 : g3 + 1 + 1 < wr.heap.size := hgo
   clear q0 q1 q2 q3 q4 q5 HO HR HB
   generalize (wr.alloc (.cells #[.int .i64 xno, .int .i64 xat, .string ⟨xrev.toArray⟩, .string ⟨xitem.toArray⟩, .bool xsec, .slice xA xv.length xc] 40)) = wa at *
   generalize wr.heap.size = g9 at *
   have HLZ : Hid (o.isSome = true → ∀ W, Pure wr W → Calls Tryz.prog 153 #[.agg #[.slice A n c, .slice A2 n2 c2], .agg #[.int .i64 xno, .int .i64 xat, .string ⟨xrev.toArray⟩, .string ⟨xitem.toArray⟩, .bool xsec, .slice xA xv.length xc], .agg #[.int .i64 yno, .int .i64 yat, .string ⟨yrev.toArray⟩, .string ⟨yitem.toArray⟩, .bool ysec, .slice yA yv.length yc]] W (IntD W (laterR L.asks ⟨xno, xat, xrev, xitem, xsec, xA, xc, xv⟩ ⟨yno, yat, yrev, yitem, ysec, yA, yc, yv⟩))) := Lib.hid (fun ho W h => by
    cases o with
    | none => cases ho
    | some z =>
     have hz : z = ⟨yno, yat, yrev, yitem, ysec, yA, yc, yv⟩ := HY.out
     have := HLY.out W h z rfl
     rw [hz] at this
     exact this)
   generalize p ⟨xno, xat, xrev, xitem, xsec, xA, xc, xv⟩ = px at *
   generalize laterR L.asks ⟨xno, xat, xrev, xitem, xsec, xA, xc, xv⟩ ⟨yno, yat, yrev, yitem, ysec, yA, yc, yv⟩ = lp at *
   generalize hcd : (px && (!o.isSome || decide (0 < lp))) = cd at *
   have HCD := Lib.hid hcd
   clear hcd
   go_cut [31] (fun q wx => q = .bool cd ∧ Pure wa wx)
   case first =>
    have hX := HBX.out
    have d0 := hX.cell 0; have d1 := hX.cell 1; have d2 := hX.cell 2; have d3 := hX.cell 3; have d4 := hX.cell 4; have d5 := hX.cell 5; simp at d0 d1 d2 d3 d4 d5
    clear hX
    generalize o.isSome = os at *
    go_wp2_with fail
    refine (HFX.out _ HPA.out).mono ?_
    rintro e w6 ⟨rfl, hm⟩
    have hX := HBX.out.modp hm
    have hY := HO2.out.modp hm
    have hB := HB2.out.modp hm
    have HP6 := Lib.hid (HPA.out.trans hm)
    have HM6 := Lib.hid hm
    clear d0 d1 d2 d3 d4 d5 hm
    have d0 := hX.cell 0; have d1 := hX.cell 1; have d2 := hX.cell 2; have d3 := hX.cell 3; have d4 := hX.cell 4; have d5 := hX.cell 5; simp at d0 d1 d2 d3 d4 d5
    have e0 := hY.cell 0; have e1 := hY.cell 1; have e2 := hY.cell 2; have e3 := hY.cell 3; have e4 := hY.cell 4; have e5 := hY.cell 5; simp at e0 e1 e2 e3 e4 e5
    have l0 := hB.cell 0; have l1 := hB.cell 1; simp at l0 l1
    clear hX hY hB
    cases px
    ·have HZC : Hid (cd = false) := Lib.hid (by rw [← HCD.out]; simp)
     clear HCD HLZ
     go_wp2_with fail
     go_meet
     exact ⟨by rw [HZC.out], HM6.out⟩
    ·cases os
     ·have HZC : Hid (cd = true) := Lib.hid (by rw [← HCD.out]; simp)
      clear HCD HLZ
      go_wp2_with fail
      go_meet
      exact ⟨by rw [HZC.out], HM6.out⟩
     ·have HLW := Lib.hid (HLZ.out rfl w6 HP6.out)
      have HZC : Hid (cd = decide (0 < lp)) := Lib.hid (by rw [← HCD.out]; simp)
      clear HCD HLZ
      go_wp2_with fail
      refine HLW.out.mono ?_
      rintro e w7 ⟨rfl, hm7⟩
      have HM7 := Lib.hid (HM6.out.trans hm7.1)
      clear hm7
      go_wp2_with fail
      go_meet
      exact ⟨by rw [HZC.out], HM7.out⟩
   case rest =>
    obtain ⟨rfl, hmx⟩ := hcut
    have HO3 := Lib.hid (HO2.out.modp hmx)
    have HR3 := Lib.hid (HR2.out.modp hmx)
    have HB3 := Lib.hid (HB2.out.modp hmx)
    have hX := HBX.out.modp hmx
    have HMC := Lib.hid (HM.out.trans (HPA.out.trans hmx))
    clear hmx HO2 HR2 HB2 HBX HLZ HLY HFX HPA
    have d0 := hX.cell 0; have d1 := hX.cell 1; have d2 := hX.cell 2; have d3 := hX.cell 3; have d4 := hX.cell 4; have d5 := hX.cell 5; simp at d0 d1 d2 d3 d4 d5
    clear hX
    cases cd
    ·have HNN : Hid (latO L.asks p (ds.take (k + 1)) = o) := Lib.hid (by rw [HTK.out, HNX.out]; simp)
     have HOY : Hid (Blk wc (g3 + 1 + 1) 40 (decC (o.getD decN)).toArray) := Lib.hid (by rw [HY.out]; exact HO3.out)
     clear HO3 HNX
     go_wp2_with fail
     go_roundg (ds.length - (k + 1))
     case measure => omega
     case rel => exact ⟨k + 1, o, rfl, by omega, rfl, by simp, HNN.out.symm, HOY.out, HR3.out, HB3.out, HMC.out⟩
    ·have HNN : Hid (latO L.asks p (ds.take (k + 1)) = some ⟨xno, xat, xrev, xitem, xsec, xA, xc, xv⟩) := Lib.hid (by rw [HTK.out, HNX.out]; simp)
     have hY := HO3.out
     have e0 := hY.cell 0; have ef0 := hY.frozen 0; have e1 := hY.cell 1; have ef1 := hY.frozen 1; have e2 := hY.cell 2; have ef2 := hY.frozen 2; have e3 := hY.cell 3; have ef3 := hY.frozen 3; have e4 := hY.cell 4; have ef4 := hY.frozen 4; have e5 := hY.cell 5; have ef5 := hY.frozen 5; simp at e0 e1 e2 e3 e4 e5
     clear hY
     have HO4 : Hid (Blk (World.setCell (World.setCell (World.setCell (World.setCell (World.setCell (World.setCell wc ⟨(g3 + 1 + 1), 0, none⟩ (.int .i64 xno)) ⟨(g3 + 1 + 1), 1, none⟩ (.int .i64 xat)) ⟨(g3 + 1 + 1), 2, none⟩ (.string ⟨xrev.toArray⟩)) ⟨(g3 + 1 + 1), 3, none⟩ (.string ⟨xitem.toArray⟩)) ⟨(g3 + 1 + 1), 4, none⟩ (.bool xsec)) ⟨(g3 + 1 + 1), 5, none⟩ (.slice xA xv.length xc)) (g3 + 1 + 1) 40 #[.int .i64 xno, .int .i64 xat, .string ⟨xrev.toArray⟩, .string ⟨xitem.toArray⟩, .bool xsec, .slice xA xv.length xc]) := Lib.hid (Blk.set6 HO3.out)
     have HMS : Hid (Mod (· = g3 + 1 + 1) wc (World.setCell (World.setCell (World.setCell (World.setCell (World.setCell (World.setCell wc ⟨(g3 + 1 + 1), 0, none⟩ (.int .i64 xno)) ⟨(g3 + 1 + 1), 1, none⟩ (.int .i64 xat)) ⟨(g3 + 1 + 1), 2, none⟩ (.string ⟨xrev.toArray⟩)) ⟨(g3 + 1 + 1), 3, none⟩ (.string ⟨xitem.toArray⟩)) ⟨(g3 + 1 + 1), 4, none⟩ (.bool xsec)) ⟨(g3 + 1 + 1), 5, none⟩ (.slice xA xv.length xc))) := Lib.hid (Mod.set6 _ _ _ _ _ _ _ _)
     have HR4 := Lib.hid (HR3.out.mod HMS.out (by omega))
     have HB4 := Lib.hid (HB3.out.mod HMS.out (by omega))
     have HM4 := Lib.hid (HMC.out.trans' HMS.out (fun i hi hl => by omega))
     clear HO3 HNX HR3 HB3 HMC
     go_wp2_with fail
     go_roundg (ds.length - (k + 1))
     case measure => omega
     case rel => exact ⟨k + 1, some ⟨xno, xat, xrev, xitem, xsec, xA, xc, xv⟩, rfl, by omega, rfl, by simp, HNN.out.symm, HO4.out, HR4.out, HB4.out, HM4.out⟩
  ·have hke : k = ds.length := by omega
   have HTZ : Hid (o = latO L.asks p ds) := Lib.hid (by rw [ho, List.take_of_length_le (by omega)])
   generalize hy : o.getD decN = y at *
   have HY := Lib.hid hy
   clear hy ho hB
   obtain ⟨xno, xat, xrev, xitem, xsec, xA, xc, xv⟩ := y
   simp only [decC] at hO
   simp only [decC, decN] at hR
   have hgr : g3 + 1 < wr.heap.size := hR.lt
   have hX := hO
   have hR6 := hR
   have HRR := Lib.hid hR
   have HMM := Lib.hid hm
   have d0 := hX.cell 0; have d1 := hX.cell 1; have d2 := hX.cell 2; have d3 := hX.cell 3; have d4 := hX.cell 4; have d5 := hX.cell 5; simp at d0 d1 d2 d3 d4 d5
   have e0 := hR6.cell 0; have ef0 := hR6.frozen 0; have e1 := hR6.cell 1; have ef1 := hR6.frozen 1; have e2 := hR6.cell 2; have ef2 := hR6.frozen 2; have e3 := hR6.cell 3; have ef3 := hR6.frozen 3; have e4 := hR6.cell 4; have ef4 := hR6.frozen 4; have e5 := hR6.cell 5; have ef5 := hR6.frozen 5; simp at e0 e1 e2 e3 e4 e5
   clear hX hR6 hO hR hm
   go_wp2_with fail
   have HMS : Hid (Mod (· = g3 + 1) wr (World.setCell (World.setCell (World.setCell (World.setCell (World.setCell (World.setCell wr ⟨(g3 + 1), 0, none⟩ (.int .i64 xno)) ⟨(g3 + 1), 1, none⟩ (.int .i64 xat)) ⟨(g3 + 1), 2, none⟩ (.string ⟨xrev.toArray⟩)) ⟨(g3 + 1), 3, none⟩ (.string ⟨xitem.toArray⟩)) ⟨(g3 + 1), 4, none⟩ (.bool xsec)) ⟨(g3 + 1), 5, none⟩ (.slice xA xv.length xc))) := Lib.hid (Mod.set6 _ _ _ _ _ _ _ _)
   have HR4 : Hid (Blk (World.setCell (World.setCell (World.setCell (World.setCell (World.setCell (World.setCell wr ⟨(g3 + 1), 0, none⟩ (.int .i64 xno)) ⟨(g3 + 1), 1, none⟩ (.int .i64 xat)) ⟨(g3 + 1), 2, none⟩ (.string ⟨xrev.toArray⟩)) ⟨(g3 + 1), 3, none⟩ (.string ⟨xitem.toArray⟩)) ⟨(g3 + 1), 4, none⟩ (.bool xsec)) ⟨(g3 + 1), 5, none⟩ (.slice xA xv.length xc)) (g3 + 1) 40 #[.int .i64 xno, .int .i64 xat, .string ⟨xrev.toArray⟩, .string ⟨xitem.toArray⟩, .bool xsec, .slice xA xv.length xc]) := Lib.hid (Blk.set6 HRR.out)
   have HM4 := Lib.hid (HMM.out.trans' HMS.out (fun i hi hl => by omega))
   have hZ := HR4.out
   have z0 := hZ.cell 0; have z1 := hZ.cell 1; have z2 := hZ.cell 2; have z3 := hZ.cell 3; have z4 := hZ.cell 4; have z5 := hZ.cell 5; simp at z0 z1 z2 z3 z4 z5
   refine bodyPost_ret (v := .tuple #[.agg #[.int .i64 xno, .int .i64 xat, .string ⟨xrev.toArray⟩, .string ⟨xitem.toArray⟩, .bool xsec, .slice xA xv.length xc], .bool o.isSome]) (by simp [results, Tryz.results101, go_sem, z0, z1, z2, z3, z4, z5]) rfl ?_
   exact ⟨by rw [← HTZ.out, HY.out, DecVal.eq], HM4.out⟩


end Go.Proofs.YtkkndblcejmmjaaGreatDoor

/- CodedAt, decidedItems, CodingsAt of the reference. -/
namespace Go.Proofs.YtkkndblcejmmjaaGreatDoor
set_option linter.unusedVariables false
set_option linter.unusedSimpArgs false
open Go.RowKit

theorem compactOwn_calls (w : World) (base n cap : Nat) (A : Option Addr) (ss : List Str) (hown : w.ownsRow base 9 1 (.slice A n cap) n (strsV ss)) (hl : ss.length ≤ 1000000) :
  Calls Tryz.prog 154 #[.slice A n cap] w (fun e w' => ∃ v', e = .returned v' ∧ Sl w' 9 1 v' (strsV (Lib.compact ss)) ∧ Mod (fun k => base ≤ k) w w') := by
 rcases hown.2 with ⟨h0, hn⟩ | ⟨g, cap', cur, hv, hbase, hb, h1, h2, h3, h4⟩
 ·cases h0
  have e : ss = [] := by
   have := hown.1
   rw [strsV_len] at this
   exact List.eq_nil_of_length_eq_zero (by omega)
  subst e
  refine (Any.slices_Compact_string_empty Tryz.lays194 none 0 w).mono ?_
  rintro e w' ⟨rfl, rfl⟩
  exact ⟨_, rfl, Sl.nil_, Mod.refl _ _⟩
 ·cases hv
  refine (compactS_calls2 w g cap n base ss hown hl).mono ?_
  rintro e w' ⟨rfl, hown2, hm⟩
  exact ⟨_, rfl, Sl.of_own hown2, hm.mono (fun k hk => by rw [hk]; exact hbase)⟩
/-- The row that decidedItems hands back. -/
def DiPost (w : World) (I : List Str) (e : Ending) (w' : World) : Prop := ∃ v, e = .returned v ∧ Sl w' 9 1 v (strsV I) ∧ Pure w w'
def DiRel (w : World) (base : Nat) (ds : List DecR) (gk : Nat) (x i : Value) (wr : World) : Prop :=
 ∃ (k cap : Nat) (A : Option Addr) (ss : List Str), ds.length - k = gk ∧ k ≤ ds.length ∧ x = .slice A ss.length cap ∧ i = .int .i64 (k : Int) ∧ ss = (ds.take k).map (·.item) ∧ wr.ownsRow base 9 1 (.slice A ss.length cap) ss.length (strsV ss) ∧ Pure w wr ∧ base ≤ wr.heap.size

set_option maxRecDepth 100000 in
set_option maxHeartbeats 4000000 in
theorem decidedItems_calls (w : World) (A3 : Option Addr) (n3 c3 : Nat) (ds : List DecR) (hD : Decs w (.slice A3 n3 c3) ds) (hn : ds.length ≤ 4000) : Calls Tryz.prog 103 #[.slice A3 n3 c3] w (DiPost w (itemsD ds)) := by
 obtain ⟨i0, hi0, hz0, hz1, hz2⟩ := info_parts info_str0
 have hl := hD.len
 subst hl
 have HD := Lib.hid hD
 have HIT : Hid (itemsD ds = Lib.compact ((ds.map (·.item)).mergeSort fun x y => decide (x ≤ y))) := Lib.hid rfl
 generalize itemsD ds = I at *
 clear hD
 go_enter Tryz.func103, Tryz.ntmps103
 go_wp2_with fail
 obtain ⟨base, hbase⟩ : ∃ base, base = w.heap.size := ⟨_, rfl⟩
 have hs1 := Nat.le_of_eq hbase
 have hs2 := Nat.le_of_eq hbase.symm
 clear hbase
 go_loopg [3, 8] ds.length (fun gk x i wr => DiRel w base ds gk x i wr)
 case atStart => exact ⟨0, 0, none, [], by omega, by omega, rfl, rfl, rfl, World.ownsRow_nil _ _ _ _, Mod.refl _ _, by omega⟩
 case round =>
  obtain ⟨k, cap, Ao, ss, rfl, hk, rfl, rfl, hss, hO, hm, hb⟩ := hrel
  have hsl : ss.length ≤ 4000 := by rw [hss]; simp; omega
  by_cases hlt : k < ds.length
  ·obtain ⟨g, off, rfl, q0, q1, q2, q3, q4, q5⟩ := (HD.out.pure hm).cells hlt
   have HTK : Hid (ss ++ [(ds[k]).item] = (ds.take (k + 1)).map (·.item)) := Lib.hid (by rw [hss, List.take_succ_eq_append_getElem hlt, List.map_append]; rfl)
   generalize ds[k] = x at *
   obtain ⟨xno, xat, xrev, xitem, xsec, xA, xc, xv⟩ := x
   simp only at q0 q1 q2 q3 q4 q5 HTK
   have hX := Blk.new wr 40 #[.int .i64 xno, .int .i64 xat, .string ⟨xrev.toArray⟩, .string ⟨xitem.toArray⟩, .bool xsec, .slice xA xv.length xc]
   have hown := own_pure hO (pure_alloc _ (.cells #[.int .i64 xno, .int .i64 xat, .string ⟨xrev.toArray⟩, .string ⟨xitem.toArray⟩, .bool xsec, .slice xA xv.length xc] 40))
   have hm2 := hm.alloc (.cells #[.int .i64 xno, .int .i64 xat, .string ⟨xrev.toArray⟩, .string ⟨xitem.toArray⟩, .bool xsec, .slice xA xv.length xc] 40)
   clear hO hm hss
   go_upto_region 5 with (fail)
   clear q0 q1 q2 q3 q4 q5
   have hb2 : base ≤ (wr.alloc (.cells #[.int .i64 xno, .int .i64 xat, .string ⟨xrev.toArray⟩, .string ⟨xitem.toArray⟩, .bool xsec, .slice xA xv.length xc] 40)).heap.size := by simp; omega
   generalize (wr.alloc (.cells #[.int .i64 xno, .int .i64 xat, .string ⟨xrev.toArray⟩, .string ⟨xitem.toArray⟩, .bool xsec, .slice xA xv.length xc] 40)) = w3 at *
   generalize wr.heap.size = g9 at *
   have HM := Lib.hid hm2
   have d0 := hX.cell 0; have d1 := hX.cell 1; have d2 := hX.cell 2; have d3 := hX.cell 3; have d4 := hX.cell 4; have d5 := hX.cell 5; simp at d0 d1 d2 d3 d4 d5
   clear hX
   go_wp2_with ((at_builtin; refine wpList_append_lies _ rfl _ _ _ rfl base 9 i0 _ 1 16 Tryz.underlying35 hi0 hz0 hz1 hz2 rfl (by omega) (.slice Ao ss.length cap) ss.length (strsV ss) rfl (hown.alloc _) ⟨w3.heap.size, 0, none⟩ 1 1 [.string ⟨xitem.toArray⟩] rfl rfl (World.news_of_block (cs := #[.string ⟨xitem.toArray⟩]) (t := 9) (fr := (0, 0)) (heap_alloc_new w3 _)) (by simp [Value.oneCell']) (by omega) (by simp [maxLen]; omega) (by omega) (by have := hm2.size; simp; omega) (w3.heap.size + 1) (by simp) ?_; intro g5 cap5 w5 hown5 hgrow hat hlt5))
   have mG := mod_grown hgrow
   have hob := own_block hown
   have hzz := mG.size
   simp only [World.size_alloc] at hzz
   go_roundg (ds.length - (k + 1))
   case measure => omega
   case rel => exact ⟨k + 1, cap5, some ⟨g5, 0, none⟩, ss ++ [xitem], rfl, by omega, by simp, by simp, HTK.out, by simpa [strsV] using hown5, (HM.out.alloc _).grown hgrow (fun i hi => .inr (by have := hob i hi; omega)), by omega⟩
  ·have hke : k = ds.length := by omega
   have HSS : Hid (ss = ds.map (·.item)) := Lib.hid (by rw [hss, List.take_of_length_le (by omega)])
   have HOO := Lib.hid hO
   have HMM := Lib.hid hm
   have HSO := Lib.hid (sortS_calls2 wr _ _ base ss hO (by omega))
   clear hO hm hss hke
   go_wp2_with fail
   refine HSO.out.mono ?_
   rintro e w2 ⟨rfl, hown2, hm2⟩
   have HM2 : Hid (Pure w w2) := Lib.hid (HMM.out.trans' hm2 (fun i hi hl => by have := own_block HOO.out i hi; omega))
   have hln : (ss.mergeSort fun x y => decide (x ≤ y)).length = ss.length := List.length_mergeSort _
   rw [hln] at hown2
   have HCO := Lib.hid (compactOwn_calls w2 base ss.length cap Ao _ hown2 (by omega))
   clear hown2 hm2 HSO HOO HMM hln
   go_wp2_with fail
   refine HCO.out.mono ?_
   rintro e w4 ⟨v4, rfl, hsl4, hm4⟩
   have HS4 := Lib.hid hsl4
   have HM4 : Hid (Pure w w4) := Lib.hid (HM2.out.trans' hm4 (fun i hi hl => by omega))
   clear hsl4 hm4 HCO
   go_wp2_with fail
   go_ret
   exact ⟨v4, rfl, by rw [HIT.out, ← HSS.out]; exact HS4.out, HM4.out⟩

end Go.Proofs.YtkkndblcejmmjaaGreatDoor

/- looks of the reference. -/
namespace Go.Proofs.YtkkndblcejmmjaaGreatDoor
set_option linter.unusedVariables false
set_option linter.unusedSimpArgs false
open Go.RowKit


set_option maxRecDepth 100000 in
set_option maxHeartbeats 8000000 in
theorem rlatest4_calls (w : World) (vl : Value) (L : LayR) (A3 : Option Addr) (n3 c3 : Nat) (ds : List DecR) (F : Nat) (kc1 kc2 kc3 kc4 : Value) (p : DecR → Bool) (hL : LayV w L vl) (hLB : LayB L) (hD : Decs w (.slice A3 n3 c3) ds) (hz : ∀ d ∈ ds, DecB d) (hn : ds.length ≤ 4000) (hk : ∀ d ∈ ds, ∀ z ∈ d.vals, 0 ≤ kIx L.asks z.field)
  (hcf : ∀ (x : Value) (W : World), Sem.run Tryz.prog (callFunc F #[x, kc1, kc2, kc3, kc4]) W = .ok (.enter F #[x, kc1, kc2, kc3, kc4]) W)
  (hF : ∀ (x : DecR) (W : World), x ∈ ds → Pure w W → Calls Tryz.prog F #[DecVal x, kc1, kc2, kc3, kc4] W (BoolPost W (p x))) :
  Calls Tryz.prog 101 #[vl, .slice A3 n3 c3, .func (.func F) #[] #[kc1, kc2, kc3, kc4]] w (RltPost w (latO L.asks p ds)) := by
 have HLR := Lib.hid (fun W (h : Pure w W) (x y : DecR) (hx : x ∈ ds) (hy : y ∈ ds) => laterR_calls W vl L x y (hL.pure h) hLB ((hD.2 x hx).pure h) ((hD.2 y hy).pure h) (hz x hx) (hz y hy) (hk x hx) (hk y hy))
 have HSG := Lib.hid (fun (x y : DecR) (hx : x ∈ ds) => laterR_sg L.asks x y (hk x hx))
 have HF := Lib.hid hF
 have hl := hD.len
 subst hl
 have HD := Lib.hid hD
 obtain ⟨A, n, c, A2, n2, c2, rfl, _, _⟩ := hL
 have HB0 := Lib.hid (((Blk.new w 29 #[.slice A n c, .slice A2 n2 c2]).alloc (.cells #[.int .i64 0, .int .i64 0, .string ⟨#[]⟩, .string ⟨#[]⟩, .bool false, .slice none 0 0] 40)).alloc (.cells #[.int .i64 0, .int .i64 0, .string ⟨#[]⟩, .string ⟨#[]⟩, .bool false, .slice none 0 0] 40))
 have HR0 := Lib.hid ((Blk.snd w (.cells #[.slice A n c, .slice A2 n2 c2] 29) 40 #[.int .i64 0, .int .i64 0, .string ⟨#[]⟩, .string ⟨#[]⟩, .bool false, .slice none 0 0]).alloc (.cells #[.int .i64 0, .int .i64 0, .string ⟨#[]⟩, .string ⟨#[]⟩, .bool false, .slice none 0 0] 40))
 have HO0 := Lib.hid (Blk.thd w (.cells #[.slice A n c, .slice A2 n2 c2] 29) (.cells #[.int .i64 0, .int .i64 0, .string ⟨#[]⟩, .string ⟨#[]⟩, .bool false, .slice none 0 0] 40) 40 #[.int .i64 0, .int .i64 0, .string ⟨#[]⟩, .string ⟨#[]⟩, .bool false, .slice none 0 0])
 have HP0 := Lib.hid (((pure_alloc w (.cells #[.slice A n c, .slice A2 n2 c2] 29)).trans (pure_alloc _ (.cells #[.int .i64 0, .int .i64 0, .string ⟨#[]⟩, .string ⟨#[]⟩, .bool false, .slice none 0 0] 40))).trans (pure_alloc _ (.cells #[.int .i64 0, .int .i64 0, .string ⟨#[]⟩, .string ⟨#[]⟩, .bool false, .slice none 0 0] 40)))
 clear hLB hD hz hk hF
 go_enter Tryz.func101, Tryz.ntmps101
 go_upto_region 2 with (fail)
 generalize (((w.alloc (.cells #[.slice A n c, .slice A2 n2 c2] 29)).alloc (.cells #[.int .i64 0, .int .i64 0, .string ⟨#[]⟩, .string ⟨#[]⟩, .bool false, .slice none 0 0] 40)).alloc (.cells #[.int .i64 0, .int .i64 0, .string ⟨#[]⟩, .string ⟨#[]⟩, .bool false, .slice none 0 0] 40)) = w1 at *
 generalize hg : w.heap.size = g3 at *
 have hg3 := Nat.le_of_eq hg
 clear hg
 go_wp2_with fail
 go_loopg [9, 14] ds.length (fun gk h i wr => RltRel w g3 #[.slice A n c, .slice A2 n2 c2] L.asks p ds gk h i wr)
 case atStart => exact ⟨0, none, by omega, by omega, rfl, rfl, rfl, HO0.out, HR0.out, HB0.out, HP0.out⟩
 case round =>
  clear HO0 HR0 HB0 HP0
  obtain ⟨k, o, rfl, hk, rfl, rfl, ho, hO, hR, hB, hm⟩ := hrel
  by_cases hlt : k < ds.length
  ·obtain ⟨g, off, rfl, q0, q1, q2, q3, q4, q5⟩ := (HD.out.pure hm).cells hlt
   have HXM := Lib.hid (List.getElem_mem hlt)
   have HTK := Lib.hid (List.take_succ_eq_append_getElem hlt)
   have HTM : Hid (∀ y, o = some y → y ∈ ds) := Lib.hid (fun y hy => List.mem_of_mem_take (latO_mem L.asks p (ds.take k) (y := y) (by rw [← ho]; exact hy)).1)
   have HNX : Hid (latO L.asks p (ds.take k ++ [ds[k]]) = if (p ds[k] && (!o.isSome || decide (laterS L.asks ds[k] (o.getD decN) = 1))) = true then some ds[k] else o) := Lib.hid (by rw [latO_snoc, ← ho, latF_if])
   have hgw := hB.lt
   have hgr := hR.lt
   have hgo := hO.lt
   generalize ds[k] = x at *
   have HFX := Lib.hid (fun W (h : Pure wr W) => HF.out x W HXM.out (hm.trans h))
   have HLY : Hid (∀ W, Pure wr W → ∀ y, o = some y → Calls Tryz.prog 153 #[.agg #[.slice A n c, .slice A2 n2 c2], DecVal x, DecVal y] W (IntD W (laterR L.asks x y))) := Lib.hid (fun W h y hy => HLR.out W (hm.trans h) x y HXM.out (HTM.out y hy))
   have HSX : Hid (∀ y, decide (laterS L.asks x y = 1) = decide (0 < laterR L.asks x y)) := Lib.hid (fun y => by rw [← HSG.out x y HXM.out, Bool.eq_iff_iff]; simp [sgI_pos])
   generalize hy : o.getD decN = y at *
   have HY := Lib.hid hy
   have HO := Lib.hid hO
   have HR := Lib.hid hR
   have HB := Lib.hid hB
   have HM := Lib.hid hm
   clear hy ho hO hR hB hm
   obtain ⟨xno, xat, xrev, xitem, xsec, xA, xc, xv⟩ := x
   obtain ⟨yno, yat, yrev, yitem, ysec, yA, yc, yv⟩ := y
   rw [HSX.out] at HNX
   simp only [decC, DecVal.eq] at *
   go_upto_region 6 with (fail)
   have HBX := Lib.hid (Blk.new wr 40 #[.int .i64 xno, .int .i64 xat, .string ⟨xrev.toArray⟩, .string ⟨xitem.toArray⟩, .bool xsec, .slice xA xv.length xc])
   have HO2 := Lib.hid (HO.out.alloc (.cells #[.int .i64 xno, .int .i64 xat, .string ⟨xrev.toArray⟩, .string ⟨xitem.toArray⟩, .bool xsec, .slice xA xv.length xc] 40))
   have HR2 := Lib.hid (HR.out.alloc (.cells #[.int .i64 xno, .int .i64 xat, .string ⟨xrev.toArray⟩, .string ⟨xitem.toArray⟩, .bool xsec, .slice xA xv.length xc] 40))
   have HB2 := Lib.hid (HB.out.alloc (.cells #[.int .i64 xno, .int .i64 xat, .string ⟨xrev.toArray⟩, .string ⟨xitem.toArray⟩, .bool xsec, .slice xA xv.length xc] 40))
   have HPA : Hid (Pure wr (wr.alloc (.cells #[.int .i64 xno, .int .i64 xat, .string ⟨xrev.toArray⟩, .string ⟨xitem.toArray⟩, .bool xsec, .slice xA xv.length xc] 40))) := Lib.hid (pure_alloc _ _)
   have hg9 : g3 + 1 + 1 < wr.heap.size := hgo
   clear q0 q1 q2 q3 q4 q5 HO HR HB
   generalize (wr.alloc (.cells #[.int .i64 xno, .int .i64 xat, .string ⟨xrev.toArray⟩, .string ⟨xitem.toArray⟩, .bool xsec, .slice xA xv.length xc] 40)) = wa at *
   generalize wr.heap.size = g9 at *
   have HLZ : Hid (o.isSome = true → ∀ W, Pure wr W → Calls Tryz.prog 153 #[.agg #[.slice A n c, .slice A2 n2 c2], .agg #[.int .i64 xno, .int .i64 xat, .string ⟨xrev.toArray⟩, .string ⟨xitem.toArray⟩, .bool xsec, .slice xA xv.length xc], .agg #[.int .i64 yno, .int .i64 yat, .string ⟨yrev.toArray⟩, .string ⟨yitem.toArray⟩, .bool ysec, .slice yA yv.length yc]] W (IntD W (laterR L.asks ⟨xno, xat, xrev, xitem, xsec, xA, xc, xv⟩ ⟨yno, yat, yrev, yitem, ysec, yA, yc, yv⟩))) := Lib.hid (fun ho W h => by
    cases o with
    | none => cases ho
    | some z =>
     have hz : z = ⟨yno, yat, yrev, yitem, ysec, yA, yc, yv⟩ := HY.out
     have := HLY.out W h z rfl
     rw [hz] at this
     exact this)
   generalize p ⟨xno, xat, xrev, xitem, xsec, xA, xc, xv⟩ = px at *
   generalize laterR L.asks ⟨xno, xat, xrev, xitem, xsec, xA, xc, xv⟩ ⟨yno, yat, yrev, yitem, ysec, yA, yc, yv⟩ = lp at *
   generalize hcd : (px && (!o.isSome || decide (0 < lp))) = cd at *
   have HCD := Lib.hid hcd
   clear hcd
   go_cut [31] (fun q wx => q = .bool cd ∧ Pure wa wx)
   case first =>
    have hX := HBX.out
    have d0 := hX.cell 0; have d1 := hX.cell 1; have d2 := hX.cell 2; have d3 := hX.cell 3; have d4 := hX.cell 4; have d5 := hX.cell 5; simp at d0 d1 d2 d3 d4 d5
    clear hX
    generalize o.isSome = os at *
    go_wp2_with fail
    refine (HFX.out _ HPA.out).mono ?_
    rintro e w6 ⟨rfl, hm⟩
    have hX := HBX.out.modp hm
    have hY := HO2.out.modp hm
    have hB := HB2.out.modp hm
    have HP6 := Lib.hid (HPA.out.trans hm)
    have HM6 := Lib.hid hm
    clear d0 d1 d2 d3 d4 d5 hm
    have d0 := hX.cell 0; have d1 := hX.cell 1; have d2 := hX.cell 2; have d3 := hX.cell 3; have d4 := hX.cell 4; have d5 := hX.cell 5; simp at d0 d1 d2 d3 d4 d5
    have e0 := hY.cell 0; have e1 := hY.cell 1; have e2 := hY.cell 2; have e3 := hY.cell 3; have e4 := hY.cell 4; have e5 := hY.cell 5; simp at e0 e1 e2 e3 e4 e5
    have l0 := hB.cell 0; have l1 := hB.cell 1; simp at l0 l1
    clear hX hY hB
    cases px
    ·have HZC : Hid (cd = false) := Lib.hid (by rw [← HCD.out]; simp)
     clear HCD HLZ
     go_wp2_with fail
     go_meet
     exact ⟨by rw [HZC.out], HM6.out⟩
    ·cases os
     ·have HZC : Hid (cd = true) := Lib.hid (by rw [← HCD.out]; simp)
      clear HCD HLZ
      go_wp2_with fail
      go_meet
      exact ⟨by rw [HZC.out], HM6.out⟩
     ·have HLW := Lib.hid (HLZ.out rfl w6 HP6.out)
      have HZC : Hid (cd = decide (0 < lp)) := Lib.hid (by rw [← HCD.out]; simp)
      clear HCD HLZ
      go_wp2_with fail
      refine HLW.out.mono ?_
      rintro e w7 ⟨rfl, hm7⟩
      have HM7 := Lib.hid (HM6.out.trans hm7.1)
      clear hm7
      go_wp2_with fail
      go_meet
      exact ⟨by rw [HZC.out], HM7.out⟩
   case rest =>
    obtain ⟨rfl, hmx⟩ := hcut
    have HO3 := Lib.hid (HO2.out.modp hmx)
    have HR3 := Lib.hid (HR2.out.modp hmx)
    have HB3 := Lib.hid (HB2.out.modp hmx)
    have hX := HBX.out.modp hmx
    have HMC := Lib.hid (HM.out.trans (HPA.out.trans hmx))
    clear hmx HO2 HR2 HB2 HBX HLZ HLY HFX HPA
    have d0 := hX.cell 0; have d1 := hX.cell 1; have d2 := hX.cell 2; have d3 := hX.cell 3; have d4 := hX.cell 4; have d5 := hX.cell 5; simp at d0 d1 d2 d3 d4 d5
    clear hX
    cases cd
    ·have HNN : Hid (latO L.asks p (ds.take (k + 1)) = o) := Lib.hid (by rw [HTK.out, HNX.out]; simp)
     have HOY : Hid (Blk wc (g3 + 1 + 1) 40 (decC (o.getD decN)).toArray) := Lib.hid (by rw [HY.out]; exact HO3.out)
     clear HO3 HNX
     go_wp2_with fail
     go_roundg (ds.length - (k + 1))
     case measure => omega
     case rel => exact ⟨k + 1, o, rfl, by omega, rfl, by simp, HNN.out.symm, HOY.out, HR3.out, HB3.out, HMC.out⟩
    ·have HNN : Hid (latO L.asks p (ds.take (k + 1)) = some ⟨xno, xat, xrev, xitem, xsec, xA, xc, xv⟩) := Lib.hid (by rw [HTK.out, HNX.out]; simp)
     have hY := HO3.out
     have e0 := hY.cell 0; have ef0 := hY.frozen 0; have e1 := hY.cell 1; have ef1 := hY.frozen 1; have e2 := hY.cell 2; have ef2 := hY.frozen 2; have e3 := hY.cell 3; have ef3 := hY.frozen 3; have e4 := hY.cell 4; have ef4 := hY.frozen 4; have e5 := hY.cell 5; have ef5 := hY.frozen 5; simp at e0 e1 e2 e3 e4 e5
     clear hY
     have HO4 : Hid (Blk (World.setCell (World.setCell (World.setCell (World.setCell (World.setCell (World.setCell wc ⟨(g3 + 1 + 1), 0, none⟩ (.int .i64 xno)) ⟨(g3 + 1 + 1), 1, none⟩ (.int .i64 xat)) ⟨(g3 + 1 + 1), 2, none⟩ (.string ⟨xrev.toArray⟩)) ⟨(g3 + 1 + 1), 3, none⟩ (.string ⟨xitem.toArray⟩)) ⟨(g3 + 1 + 1), 4, none⟩ (.bool xsec)) ⟨(g3 + 1 + 1), 5, none⟩ (.slice xA xv.length xc)) (g3 + 1 + 1) 40 #[.int .i64 xno, .int .i64 xat, .string ⟨xrev.toArray⟩, .string ⟨xitem.toArray⟩, .bool xsec, .slice xA xv.length xc]) := Lib.hid (Blk.set6 HO3.out)
     have HMS : Hid (Mod (· = g3 + 1 + 1) wc (World.setCell (World.setCell (World.setCell (World.setCell (World.setCell (World.setCell wc ⟨(g3 + 1 + 1), 0, none⟩ (.int .i64 xno)) ⟨(g3 + 1 + 1), 1, none⟩ (.int .i64 xat)) ⟨(g3 + 1 + 1), 2, none⟩ (.string ⟨xrev.toArray⟩)) ⟨(g3 + 1 + 1), 3, none⟩ (.string ⟨xitem.toArray⟩)) ⟨(g3 + 1 + 1), 4, none⟩ (.bool xsec)) ⟨(g3 + 1 + 1), 5, none⟩ (.slice xA xv.length xc))) := Lib.hid (Mod.set6 _ _ _ _ _ _ _ _)
     have HR4 := Lib.hid (HR3.out.mod HMS.out (by omega))
     have HB4 := Lib.hid (HB3.out.mod HMS.out (by omega))
     have HM4 := Lib.hid (HMC.out.trans' HMS.out (fun i hi hl => by omega))
     clear HO3 HNX HR3 HB3 HMC
     go_wp2_with fail
     go_roundg (ds.length - (k + 1))
     case measure => omega
     case rel => exact ⟨k + 1, some ⟨xno, xat, xrev, xitem, xsec, xA, xc, xv⟩, rfl, by omega, rfl, by simp, HNN.out.symm, HO4.out, HR4.out, HB4.out, HM4.out⟩
  ·have hke : k = ds.length := by omega
   have HTZ : Hid (o = latO L.asks p ds) := Lib.hid (by rw [ho, List.take_of_length_le (by omega)])
   generalize hy : o.getD decN = y at *
   have HY := Lib.hid hy
   clear hy ho hB
   obtain ⟨xno, xat, xrev, xitem, xsec, xA, xc, xv⟩ := y
   simp only [decC] at hO
   simp only [decC, decN] at hR
   have hgr : g3 + 1 < wr.heap.size := hR.lt
   have hX := hO
   have hR6 := hR
   have HRR := Lib.hid hR
   have HMM := Lib.hid hm
   have d0 := hX.cell 0; have d1 := hX.cell 1; have d2 := hX.cell 2; have d3 := hX.cell 3; have d4 := hX.cell 4; have d5 := hX.cell 5; simp at d0 d1 d2 d3 d4 d5
   have e0 := hR6.cell 0; have ef0 := hR6.frozen 0; have e1 := hR6.cell 1; have ef1 := hR6.frozen 1; have e2 := hR6.cell 2; have ef2 := hR6.frozen 2; have e3 := hR6.cell 3; have ef3 := hR6.frozen 3; have e4 := hR6.cell 4; have ef4 := hR6.frozen 4; have e5 := hR6.cell 5; have ef5 := hR6.frozen 5; simp at e0 e1 e2 e3 e4 e5
   clear hX hR6 hO hR hm
   go_wp2_with fail
   have HMS : Hid (Mod (· = g3 + 1) wr (World.setCell (World.setCell (World.setCell (World.setCell (World.setCell (World.setCell wr ⟨(g3 + 1), 0, none⟩ (.int .i64 xno)) ⟨(g3 + 1), 1, none⟩ (.int .i64 xat)) ⟨(g3 + 1), 2, none⟩ (.string ⟨xrev.toArray⟩)) ⟨(g3 + 1), 3, none⟩ (.string ⟨xitem.toArray⟩)) ⟨(g3 + 1), 4, none⟩ (.bool xsec)) ⟨(g3 + 1), 5, none⟩ (.slice xA xv.length xc))) := Lib.hid (Mod.set6 _ _ _ _ _ _ _ _)
   have HR4 : Hid (Blk (World.setCell (World.setCell (World.setCell (World.setCell (World.setCell (World.setCell wr ⟨(g3 + 1), 0, none⟩ (.int .i64 xno)) ⟨(g3 + 1), 1, none⟩ (.int .i64 xat)) ⟨(g3 + 1), 2, none⟩ (.string ⟨xrev.toArray⟩)) ⟨(g3 + 1), 3, none⟩ (.string ⟨xitem.toArray⟩)) ⟨(g3 + 1), 4, none⟩ (.bool xsec)) ⟨(g3 + 1), 5, none⟩ (.slice xA xv.length xc)) (g3 + 1) 40 #[.int .i64 xno, .int .i64 xat, .string ⟨xrev.toArray⟩, .string ⟨xitem.toArray⟩, .bool xsec, .slice xA xv.length xc]) := Lib.hid (Blk.set6 HRR.out)
   have HM4 := Lib.hid (HMM.out.trans' HMS.out (fun i hi hl => by omega))
   have hZ := HR4.out
   have z0 := hZ.cell 0; have z1 := hZ.cell 1; have z2 := hZ.cell 2; have z3 := hZ.cell 3; have z4 := hZ.cell 4; have z5 := hZ.cell 5; simp at z0 z1 z2 z3 z4 z5
   refine bodyPost_ret (v := .tuple #[.agg #[.int .i64 xno, .int .i64 xat, .string ⟨xrev.toArray⟩, .string ⟨xitem.toArray⟩, .bool xsec, .slice xA xv.length xc], .bool o.isSome]) (by simp [results, Tryz.results101, go_sem, z0, z1, z2, z3, z4, z5]) rfl ?_
   exact ⟨by rw [← HTZ.out, HY.out, DecVal.eq], HM4.out⟩

set_option maxRecDepth 100000 in
set_option maxHeartbeats 2000000 in
theorem rlk1_calls (w : World) (gi ga : Nat) (item : Str) (at_ : Int) (x : DecR) (hi : w.cell? ⟨gi, 0, none⟩ = some (.string ⟨item.toArray⟩)) (ha : w.cell? ⟨ga, 0, none⟩ = some (.int .i64 at_)) : Calls Tryz.prog 156 #[DecVal x, .pointer (some ⟨gi, 0, none⟩), .pointer (some ⟨ga, 0, none⟩)] w (BoolPost w (prS item at_ x)) := by
 have HQ : Hid (prS item at_ x = (decide (x.item = item) && (x.sec && decide (x.at_ ≤ at_)))) := Lib.hid rfl
 generalize prS item at_ x = q at *
 obtain ⟨xno, xat, xrev, xitem, xsec, xA, xc, xv⟩ := x
 simp only [DecVal.eq] at *
 have hi2 := cell_alloc hi (.cells #[.int .i64 xno, .int .i64 xat, .string ⟨xrev.toArray⟩, .string ⟨xitem.toArray⟩, .bool xsec, .slice xA xv.length xc] 40)
 have ha2 := cell_alloc ha (.cells #[.int .i64 xno, .int .i64 xat, .string ⟨xrev.toArray⟩, .string ⟨xitem.toArray⟩, .bool xsec, .slice xA xv.length xc] 40)
 clear hi ha
 by_cases h1 : xitem = item
 ·subst h1
  have t1 : (xitem == xitem) = true := by simp
  by_cases h2 : xat ≤ at_
  ·have HQ2 : Hid (q = xsec) := Lib.hid (by rw [HQ.out]; simp [h2])
   clear HQ
   go_enter Tryz.func156, Tryz.ntmps156
   go_wp2_with fail
   go_ret
   exact BoolPost.of HQ2.out (pure_alloc _ _)
  ·have HQ2 : Hid (q = false) := Lib.hid (by rw [HQ.out]; simp [h2])
   clear HQ
   go_enter Tryz.func156, Tryz.ntmps156
   go_wp2_with fail
   go_ret
   exact BoolPost.of HQ2.out (pure_alloc _ _)
 ·have t1 : (xitem == item) = false := by simpa using h1
  have HQ2 : Hid (q = false) := Lib.hid (by rw [HQ.out]; simp [h1])
  clear HQ h1
  go_enter Tryz.func156, Tryz.ntmps156
  go_wp2_with fail
  go_ret
  exact BoolPost.of HQ2.out (pure_alloc _ _)
set_option maxRecDepth 100000 in
set_option maxHeartbeats 4000000 in
theorem rlk2_calls (w : World) (gi ga gl gt : Nat) (item : Str) (at_ : Int) (L : LayR) (A A2 : Option Addr) (n c n2 c2 : Nat) (x y : DecR) (hi : w.cell? ⟨gi, 0, none⟩ = some (.string ⟨item.toArray⟩)) (ha : w.cell? ⟨ga, 0, none⟩ = some (.int .i64 at_)) (hB : Blk w gl 29 #[.slice A n c, .slice A2 n2 c2]) (hT : Blk w gt 40 (decC y).toArray)
  (hL : LayV w L (.agg #[.slice A n c, .slice A2 n2 c2])) (hLB : LayB L) (hx : DecEl w x) (hy : DecEl w y) (hxz : DecB x) (hyz : DecB y) (hk1 : ∀ z ∈ x.vals, 0 ≤ kIx L.asks z.field) (hk2 : ∀ z ∈ y.vals, 0 ≤ kIx L.asks z.field) :
  Calls Tryz.prog 157 #[DecVal x, .pointer (some ⟨gi, 0, none⟩), .pointer (some ⟨ga, 0, none⟩), .pointer (some ⟨gl, 0, none⟩), .pointer (some ⟨gt, 0, none⟩)] w (BoolPost w (prG L.asks item at_ y x)) := by
 have HQ : Hid (prG L.asks item at_ y x = (decide (x.item = item) && (decide (x.at_ ≤ at_) && (!x.sec && decide (laterR L.asks x y < 0))))) := Lib.hid (by
  unfold prG
  have e : decide (laterS L.asks x y = -1) = decide (laterR L.asks x y < 0) := by rw [← laterR_sg L.asks x y hk1, Bool.eq_iff_iff]; simp [sgI_neg]
  rw [e])
 have HLR := Lib.hid (fun W (h : Pure w W) => laterR_calls W _ L x y (hL.pure h) hLB (hx.pure h) (hy.pure h) hxz hyz hk1 hk2)
 generalize prG L.asks item at_ y x = q at *
 generalize laterR L.asks x y = lp at *
 obtain ⟨xno, xat, xrev, xitem, xsec, xA, xc, xv⟩ := x
 obtain ⟨yno, yat, yrev, yitem, ysec, yA, yc, yv⟩ := y
 simp only [DecVal.eq, decC] at *
 have hi2 := cell_alloc hi (.cells #[.int .i64 xno, .int .i64 xat, .string ⟨xrev.toArray⟩, .string ⟨xitem.toArray⟩, .bool xsec, .slice xA xv.length xc] 40)
 have ha2 := cell_alloc ha (.cells #[.int .i64 xno, .int .i64 xat, .string ⟨xrev.toArray⟩, .string ⟨xitem.toArray⟩, .bool xsec, .slice xA xv.length xc] 40)
 have hB2 := hB.alloc (.cells #[.int .i64 xno, .int .i64 xat, .string ⟨xrev.toArray⟩, .string ⟨xitem.toArray⟩, .bool xsec, .slice xA xv.length xc] 40)
 have hT2 := hT.alloc (.cells #[.int .i64 xno, .int .i64 xat, .string ⟨xrev.toArray⟩, .string ⟨xitem.toArray⟩, .bool xsec, .slice xA xv.length xc] 40)
 have HLW := Lib.hid (HLR.out _ (pure_alloc w (.cells #[.int .i64 xno, .int .i64 xat, .string ⟨xrev.toArray⟩, .string ⟨xitem.toArray⟩, .bool xsec, .slice xA xv.length xc] 40)))
 have l0 := hB2.cell 0; have l1 := hB2.cell 1; simp at l0 l1
 have d0 := hT2.cell 0; have d1 := hT2.cell 1; have d2 := hT2.cell 2; have d3 := hT2.cell 3; have d4 := hT2.cell 4; have d5 := hT2.cell 5; simp at d0 d1 d2 d3 d4 d5
 clear hi ha hB hT hB2 hT2 hL hx hy hxz hyz hk1 hk2 HLR hLB
 by_cases h1 : xitem = item
 ·subst h1
  have t1 : (xitem == xitem) = true := by simp
  by_cases h2 : xat ≤ at_
  ·cases xsec
   ·have HQ2 : Hid (q = decide (lp < 0)) := Lib.hid (by rw [HQ.out]; simp [h2])
    clear HQ
    go_enter Tryz.func157, Tryz.ntmps157
    go_wp2_with fail
    refine HLW.out.mono ?_
    rintro e w3 ⟨rfl, hm⟩
    go_wp2_with fail
    go_ret
    exact BoolPost.of HQ2.out ((pure_alloc _ _).trans hm.1)
   ·have HQ2 : Hid (q = false) := Lib.hid (by rw [HQ.out]; simp)
    clear HQ HLW
    go_enter Tryz.func157, Tryz.ntmps157
    go_wp2_with fail
    go_ret
    exact BoolPost.of HQ2.out (pure_alloc _ _)
  ·have HQ2 : Hid (q = false) := Lib.hid (by rw [HQ.out]; simp [h2])
   clear HQ HLW
   go_enter Tryz.func157, Tryz.ntmps157
   go_wp2_with fail
   go_ret
   exact BoolPost.of HQ2.out (pure_alloc _ _)
 ·have t1 : (xitem == item) = false := by simpa using h1
  have HQ2 : Hid (q = false) := Lib.hid (by rw [HQ.out]; simp [h1])
  clear HQ h1 HLW
  go_enter Tryz.func157, Tryz.ntmps157
  go_wp2_with fail
  go_ret
  exact BoolPost.of HQ2.out (pure_alloc _ _)
theorem arr_same {α : Type} {cs : Array α} {i : Nat} {v : α} (hv : cs[i]? = some v) : cs.setIfInBounds i v = cs := by
 apply Array.ext_getElem?
 intro j
 rw [Array.getElem?_setIfInBounds]
 by_cases h : i = j
 ·subst h
  rw [if_pos rfl, hv]
  obtain ⟨h1, _⟩ := Array.getElem?_eq_some_iff.1 hv
  rw [if_pos h1]
 ·rw [if_neg h]
theorem arr_same2 {α : Type} {cs : Array α} {i : Nat} {f : α → α} {v : α} (hv : cs[i]? = some v) (hf : f v = v) : cs.modify i f = cs := by
 apply Array.ext_getElem?
 intro j
 rw [Array.getElem?_modify]
 by_cases h : i = j
 ·subst h; rw [if_pos rfl, hv]; simp [hf]
 ·rw [if_neg h]
/-- A store of what is there changes nothing. -/
theorem setCell_same {w : World} {g i : Nat} {t : TypeId} {cs : Array Value} {v : Value} (h : Blk w g t cs) (hv : cs[i]? = some v) : w.setCell ⟨g, i, none⟩ v = w := by
 unfold World.setCell
 unfold Blk at h
 rw [arr_same2 h (by show Obj.cells (cs.setIfInBounds i v) t (0, 0) = _; rw [arr_same hv])]
theorem setCell_same6 {w : World} {g : Nat} {t : TypeId} {a b c d e f : Value} (h : Blk w g t #[a, b, c, d, e, f]) : World.setCell (World.setCell (World.setCell (World.setCell (World.setCell (World.setCell w ⟨g, 0, none⟩ a) ⟨g, 1, none⟩ b) ⟨g, 2, none⟩ c) ⟨g, 3, none⟩ d) ⟨g, 4, none⟩ e) ⟨g, 5, none⟩ f = w := by
 rw [setCell_same h rfl, setCell_same h rfl, setCell_same h rfl, setCell_same h rfl, setCell_same h rfl, setCell_same h rfl]

end Go.Proofs.YtkkndblcejmmjaaGreatDoor

/- looks of the reference: the walk. -/
namespace Go.Proofs.YtkkndblcejmmjaaGreatDoor
set_option linter.unusedVariables false
set_option linter.unusedSimpArgs false
open Go.RowKit

/-- The two looks of the reference at an item. -/
def twoD (al : List AskR) (ds : List DecR) (at_ : Int) (i : Str) : DecR := (sekO al ds at_ i).getD decN
def oneO (al : List AskR) (ds : List DecR) (at_ : Int) (i : Str) : Option DecR := latO al (prG al i at_ (twoD al ds at_ i)) ds
def oneD (al : List AskR) (ds : List DecR) (at_ : Int) (i : Str) : DecR := (oneO al ds at_ i).getD decN
def okL (al : List AskR) (ds : List DecR) (at_ : Int) (i : Str) : Bool := (sekO al ds at_ i).isSome && ((oneO al ds at_ i).isSome && !decide ((oneD al ds at_ i).rev = (twoD al ds at_ i).rev))
theorem okL_lk (al : List AskR) (ds : List DecR) (at_ : Int) (i : Str) : lkO al ds at_ i = if okL al ds at_ i = true then some (oneD al ds at_ i, twoD al ds at_ i) else none := by
 unfold lkO okL oneD oneO twoD
 cases hs : sekO al ds at_ i with
 | none => simp
 | some s =>
  rw [firO_ref hs]
  generalize hf : latO al (prG al i at_ s) ds = o
  simp only [Option.getD_some, Option.isSome_some, Bool.true_and, hf]
  cases o with
  | none => simp
  | some f =>
   simp only [Option.getD_some, Option.isSome_some, Bool.true_and]
   by_cases h : f.rev = s.rev <;> simp [h]
theorem twoD_in (al : List AskR) (ds : List DecR) (at_ : Int) (i : Str) : twoD al ds at_ i = decN ∨ twoD al ds at_ i ∈ ds := by
 unfold twoD
 cases hs : sekO al ds at_ i with
 | none => exact .inl rfl
 | some s => exact .inr (latO_mem al _ ds hs).1
theorem oneD_in (al : List AskR) (ds : List DecR) (at_ : Int) (i : Str) : oneD al ds at_ i = decN ∨ oneD al ds at_ i ∈ ds := by
 unfold oneD oneO
 cases hs : latO al (prG al i at_ (twoD al ds at_ i)) ds with
 | none => exact .inl rfl
 | some s => exact .inr (latO_mem al _ ds hs).1
theorem dec_facts {W : World} {L : LayR} {ds : List DecR} {x : DecR} (h : x = decN ∨ x ∈ ds) (hD : DecS W ds) (hz : ∀ d ∈ ds, DecB d) (hk : ∀ d ∈ ds, ∀ z ∈ d.vals, 0 ≤ kIx L.asks z.field) : DecEl W x ∧ DecB x ∧ ∀ z ∈ x.vals, 0 ≤ kIx L.asks z.field := by
 rcases h with rfl | h
 ·exact ⟨⟨Sl.nil_, fun y hy => absurd hy (by simp [decN])⟩, by simp [DecB, StB, ValB, decN], fun z hz => absurd hz (by simp [decN])⟩
 ·exact ⟨hD x h, hz x h, hk x h⟩
def RkPost (w : World) (o t : DecR) (ok : Bool) (e : Ending) (w' : World) : Prop := e = .returned (.tuple #[DecVal o, DecVal t, .bool ok]) ∧ Pure w w'

set_option maxRecDepth 100000 in
set_option maxHeartbeats 16000000 in
theorem rlooks_calls (w : World) (vl : Value) (L : LayR) (A3 : Option Addr) (n3 c3 : Nat) (ds : List DecR) (item : Str) (at_ : Int) (hL : LayV w L vl) (hLB : LayB L) (hD : Decs w (.slice A3 n3 c3) ds) (hz : ∀ d ∈ ds, DecB d) (hn : ds.length ≤ 4000) (hk : ∀ d ∈ ds, ∀ z ∈ d.vals, 0 ≤ kIx L.asks z.field) :
  Calls Tryz.prog 107 #[vl, .slice A3 n3 c3, .string ⟨item.toArray⟩, .int .i64 at_] w (RkPost w (oneD L.asks ds at_ item) (twoD L.asks ds at_ item) (okL L.asks ds at_ item)) := by
 obtain ⟨A, n, c, A2, n2, c2, rfl, hA, hR⟩ := hL
 have hL : LayV w L (.agg #[.slice A n c, .slice A2 n2 c2]) := ⟨A, n, c, A2, n2, c2, rfl, hA, hR⟩
 have HL1 := Lib.hid (fun W (h : Pure w W) gi ga (h1 : W.cell? ⟨gi, 0, none⟩ = some (.string ⟨item.toArray⟩)) (h2 : W.cell? ⟨ga, 0, none⟩ = some (.int .i64 at_)) => rlatest2_calls W _ L A3 n3 c3 ds 156 (.pointer (some ⟨gi, 0, none⟩)) (.pointer (some ⟨ga, 0, none⟩)) (prS item at_) (hL.pure h) hLB (hD.pure h) hz hn hk (fun _ _ => rfl) (fun x W2 _ hm => rlk1_calls W2 gi ga item at_ x (keepp h1 hm) (keepp h2 hm)))
 have htw := twoD_in L.asks ds at_ item
 have HL2 := Lib.hid (fun W (h : Pure w W) gi ga gl gt (h1 : W.cell? ⟨gi, 0, none⟩ = some (.string ⟨item.toArray⟩)) (h2 : W.cell? ⟨ga, 0, none⟩ = some (.int .i64 at_)) (h3 : Blk W gl 29 #[.slice A n c, .slice A2 n2 c2]) (h4 : Blk W gt 40 (decC (twoD L.asks ds at_ item)).toArray) => rlatest4_calls W _ L A3 n3 c3 ds 157 (.pointer (some ⟨gi, 0, none⟩)) (.pointer (some ⟨ga, 0, none⟩)) (.pointer (some ⟨gl, 0, none⟩)) (.pointer (some ⟨gt, 0, none⟩)) (prG L.asks item at_ (twoD L.asks ds at_ item)) (hL.pure h) hLB (hD.pure h) hz hn hk (fun _ _ => rfl)
  (fun x W2 hx hm => rlk2_calls W2 gi ga gl gt item at_ L A A2 n c n2 c2 x _ (keepp h1 hm) (keepp h2 hm) (h3.modp hm) (h4.modp hm) (hL.pure (h.trans hm)) hLB ((hD.2 x hx).pure (h.trans hm)) (dec_facts htw (hD.2.pure (h.trans hm)) hz hk).1 (hz x hx) (dec_facts htw (hD.2.pure (h.trans hm)) hz hk).2.1 (hk x hx) (dec_facts htw (hD.2.pure (h.trans hm)) hz hk).2.2))
 have HQ2 : Hid ((latO L.asks (prS item at_) ds).getD decN = twoD L.asks ds at_ item) := Lib.hid rfl
 have HQ1 : Hid ((latO L.asks (prG L.asks item at_ (twoD L.asks ds at_ item)) ds).getD decN = oneD L.asks ds at_ item) := Lib.hid rfl
 have HOK : Hid (okL L.asks ds at_ item = ((latO L.asks (prS item at_) ds).isSome && ((latO L.asks (prG L.asks item at_ (twoD L.asks ds at_ item)) ds).isSome && !decide ((oneD L.asks ds at_ item).rev = (twoD L.asks ds at_ item).rev)))) := Lib.hid rfl
 generalize latO L.asks (prS item at_) ds = os at *
 generalize latO L.asks (prG L.asks item at_ (twoD L.asks ds at_ item)) ds = oo at *
 have HB1 := Lib.hid (((((Blk.new w 29 #[.slice A n c, .slice A2 n2 c2]).alloc (.cells #[.string ⟨item.toArray⟩] 9)).alloc (.cells #[.int .i64 at_] 3)).alloc (.cells #[.int .i64 0, .int .i64 0, .string ⟨#[]⟩, .string ⟨#[]⟩, .bool false, .slice none 0 0] 40)).alloc (.cells #[.int .i64 0, .int .i64 0, .string ⟨#[]⟩, .string ⟨#[]⟩, .bool false, .slice none 0 0] 40))
 have HB2 := Lib.hid ((((Blk.snd w (.cells #[.slice A n c, .slice A2 n2 c2] 29) 9 #[.string ⟨item.toArray⟩]).alloc (.cells #[.int .i64 at_] 3)).alloc (.cells #[.int .i64 0, .int .i64 0, .string ⟨#[]⟩, .string ⟨#[]⟩, .bool false, .slice none 0 0] 40)).alloc (.cells #[.int .i64 0, .int .i64 0, .string ⟨#[]⟩, .string ⟨#[]⟩, .bool false, .slice none 0 0] 40))
 have HB3 := Lib.hid (((Blk.thd w (.cells #[.slice A n c, .slice A2 n2 c2] 29) (.cells #[.string ⟨item.toArray⟩] 9) 3 #[.int .i64 at_]).alloc (.cells #[.int .i64 0, .int .i64 0, .string ⟨#[]⟩, .string ⟨#[]⟩, .bool false, .slice none 0 0] 40)).alloc (.cells #[.int .i64 0, .int .i64 0, .string ⟨#[]⟩, .string ⟨#[]⟩, .bool false, .slice none 0 0] 40))
 have HB4 : Hid (Blk (((((w.alloc (.cells #[.slice A n c, .slice A2 n2 c2] 29)).alloc (.cells #[.string ⟨item.toArray⟩] 9)).alloc (.cells #[.int .i64 at_] 3)).alloc (.cells #[.int .i64 0, .int .i64 0, .string ⟨#[]⟩, .string ⟨#[]⟩, .bool false, .slice none 0 0] 40)).alloc (.cells #[.int .i64 0, .int .i64 0, .string ⟨#[]⟩, .string ⟨#[]⟩, .bool false, .slice none 0 0] 40)) (w.heap.size + 1 + 1 + 1) 40 #[.int .i64 0, .int .i64 0, .string ⟨#[]⟩, .string ⟨#[]⟩, .bool false, .slice none 0 0]) := Lib.hid ((Blk.new' (by simp)).alloc (.cells #[.int .i64 0, .int .i64 0, .string ⟨#[]⟩, .string ⟨#[]⟩, .bool false, .slice none 0 0] 40))
 have HB5 : Hid (Blk (((((w.alloc (.cells #[.slice A n c, .slice A2 n2 c2] 29)).alloc (.cells #[.string ⟨item.toArray⟩] 9)).alloc (.cells #[.int .i64 at_] 3)).alloc (.cells #[.int .i64 0, .int .i64 0, .string ⟨#[]⟩, .string ⟨#[]⟩, .bool false, .slice none 0 0] 40)).alloc (.cells #[.int .i64 0, .int .i64 0, .string ⟨#[]⟩, .string ⟨#[]⟩, .bool false, .slice none 0 0] 40)) (w.heap.size + 1 + 1 + 1 + 1) 40 #[.int .i64 0, .int .i64 0, .string ⟨#[]⟩, .string ⟨#[]⟩, .bool false, .slice none 0 0]) := Lib.hid (Blk.new' (by simp))
 have HP0 : Hid (Pure w (((((w.alloc (.cells #[.slice A n c, .slice A2 n2 c2] 29)).alloc (.cells #[.string ⟨item.toArray⟩] 9)).alloc (.cells #[.int .i64 at_] 3)).alloc (.cells #[.int .i64 0, .int .i64 0, .string ⟨#[]⟩, .string ⟨#[]⟩, .bool false, .slice none 0 0] 40)).alloc (.cells #[.int .i64 0, .int .i64 0, .string ⟨#[]⟩, .string ⟨#[]⟩, .bool false, .slice none 0 0] 40))) := Lib.hid (((((pure_alloc w (.cells #[.slice A n c, .slice A2 n2 c2] 29)).trans (pure_alloc _ (.cells #[.string ⟨item.toArray⟩] 9))).trans (pure_alloc _ (.cells #[.int .i64 at_] 3))).trans (pure_alloc _ (.cells #[.int .i64 0, .int .i64 0, .string ⟨#[]⟩, .string ⟨#[]⟩, .bool false, .slice none 0 0] 40))).trans (pure_alloc _ (.cells #[.int .i64 0, .int .i64 0, .string ⟨#[]⟩, .string ⟨#[]⟩, .bool false, .slice none 0 0] 40)))
 generalize okL L.asks ds at_ item = ok at *
 generalize twoD L.asks ds at_ item = y at *
 generalize oneD L.asks ds at_ item = x at *
 clear hA hR hL hLB hD hz hk htw
 go_enter Tryz.func107, Tryz.ntmps107
 go_upto_region 1 with (fail)
 generalize (((((w.alloc (.cells #[.slice A n c, .slice A2 n2 c2] 29)).alloc (.cells #[.string ⟨item.toArray⟩] 9)).alloc (.cells #[.int .i64 at_] 3)).alloc (.cells #[.int .i64 0, .int .i64 0, .string ⟨#[]⟩, .string ⟨#[]⟩, .bool false, .slice none 0 0] 40)).alloc (.cells #[.int .i64 0, .int .i64 0, .string ⟨#[]⟩, .string ⟨#[]⟩, .bool false, .slice none 0 0] 40)) = w1 at *
 generalize hg : w.heap.size = g3 at *
 have hg3 := Nat.le_of_eq hg
 clear hg
 have HLW := Lib.hid (HL1.out w1 HP0.out (g3 + 1) (g3 + 1 + 1) (by have := HB2.out.cell 0; simpa using this) (by have := HB3.out.cell 0; simpa using this))
 have hX := HB1.out
 have l0 := hX.cell 0; have l1 := hX.cell 1; simp at l0 l1
 clear hX HL1
 go_wp2_with fail
 refine HLW.out.mono ?_
 rintro e w2 ⟨rfl, hm⟩
 rw [HQ2.out]
 have HP2 := Lib.hid (HP0.out.trans hm)
 have HC1 := Lib.hid (HB1.out.modp hm)
 have HC2 := Lib.hid (HB2.out.modp hm)
 have HC3 := Lib.hid (HB3.out.modp hm)
 have HC4 := Lib.hid (HB4.out.modp hm)
 have HC5 := Lib.hid (HB5.out.modp hm)
 obtain ⟨xno, xat, xrev, xitem, xsec, xA, xc, xv⟩ := x
 obtain ⟨yno, yat, yrev, yitem, ysec, yA, yc, yv⟩ := y
 clear l0 l1 HLW HB1 HB2 HB3 HB4 HB5 hm HP0 HQ2
 simp only [DecVal.eq, decC] at *
 have hX := HC5.out
 have d0 := hX.cell 0; have df0 := hX.frozen 0; have d1 := hX.cell 1; have df1 := hX.frozen 1; have d2 := hX.cell 2; have df2 := hX.frozen 2; have d3 := hX.cell 3; have df3 := hX.frozen 3; have d4 := hX.cell 4; have df4 := hX.frozen 4; have d5 := hX.cell 5; have df5 := hX.frozen 5; simp at d0 d1 d2 d3 d4 d5
 clear hX
 go_upto_region 2 with (fail)
 have hms : Mod (· = g3 + 1 + 1 + 1 + 1) w2 (World.setCell (World.setCell (World.setCell (World.setCell (World.setCell (World.setCell w2 ⟨(g3 + 1 + 1 + 1 + 1), 0, none⟩ (.int .i64 yno)) ⟨(g3 + 1 + 1 + 1 + 1), 1, none⟩ (.int .i64 yat)) ⟨(g3 + 1 + 1 + 1 + 1), 2, none⟩ (.string ⟨yrev.toArray⟩)) ⟨(g3 + 1 + 1 + 1 + 1), 3, none⟩ (.string ⟨yitem.toArray⟩)) ⟨(g3 + 1 + 1 + 1 + 1), 4, none⟩ (.bool ysec)) ⟨(g3 + 1 + 1 + 1 + 1), 5, none⟩ (.slice yA yv.length yc)) := Mod.set6 _ _ _ _ _ _ _ _
 have HD5 : Hid (Blk (World.setCell (World.setCell (World.setCell (World.setCell (World.setCell (World.setCell w2 ⟨(g3 + 1 + 1 + 1 + 1), 0, none⟩ (.int .i64 yno)) ⟨(g3 + 1 + 1 + 1 + 1), 1, none⟩ (.int .i64 yat)) ⟨(g3 + 1 + 1 + 1 + 1), 2, none⟩ (.string ⟨yrev.toArray⟩)) ⟨(g3 + 1 + 1 + 1 + 1), 3, none⟩ (.string ⟨yitem.toArray⟩)) ⟨(g3 + 1 + 1 + 1 + 1), 4, none⟩ (.bool ysec)) ⟨(g3 + 1 + 1 + 1 + 1), 5, none⟩ (.slice yA yv.length yc)) (g3 + 1 + 1 + 1 + 1) 40 #[.int .i64 yno, .int .i64 yat, .string ⟨yrev.toArray⟩, .string ⟨yitem.toArray⟩, .bool ysec, .slice yA yv.length yc]) := Lib.hid (Blk.set6 HC5.out)
 have HD1 := Lib.hid (HC1.out.mod hms (by omega))
 have HD2 := Lib.hid (HC2.out.mod hms (by omega))
 have HD3 := Lib.hid (HC3.out.mod hms (by omega))
 have HD4 := Lib.hid (HC4.out.mod hms (by omega))
 have HP3 := Lib.hid (HP2.out.trans' hms (fun i hi hl => by omega))
 clear hms d0 d1 d2 d3 d4 d5 df0 df1 df2 df3 df4 df5 HC1 HC2 HC3 HC4 HC5 HP2
 generalize (World.setCell (World.setCell (World.setCell (World.setCell (World.setCell (World.setCell w2 ⟨(g3 + 1 + 1 + 1 + 1), 0, none⟩ (.int .i64 yno)) ⟨(g3 + 1 + 1 + 1 + 1), 1, none⟩ (.int .i64 yat)) ⟨(g3 + 1 + 1 + 1 + 1), 2, none⟩ (.string ⟨yrev.toArray⟩)) ⟨(g3 + 1 + 1 + 1 + 1), 3, none⟩ (.string ⟨yitem.toArray⟩)) ⟨(g3 + 1 + 1 + 1 + 1), 4, none⟩ (.bool ysec)) ⟨(g3 + 1 + 1 + 1 + 1), 5, none⟩ (.slice yA yv.length yc)) = w3 at *
 clear w2
 have HLW := Lib.hid (HL2.out w3 HP3.out (g3 + 1) (g3 + 1 + 1) g3 (g3 + 1 + 1 + 1 + 1) (by have := HD2.out.cell 0; simpa using this) (by have := HD3.out.cell 0; simpa using this) HD1.out HD5.out)
 have hX := HD1.out
 have l0 := hX.cell 0; have l1 := hX.cell 1; simp at l0 l1
 clear hX HL2
 go_wp2_with fail
 refine HLW.out.mono ?_
 rintro e w4 ⟨rfl, hm⟩
 rw [HQ1.out, DecVal.eq]
 have HP4 := Lib.hid (HP3.out.trans hm)
 have HE4 := Lib.hid (HD4.out.modp hm)
 have HE5 := Lib.hid (HD5.out.modp hm)
 clear l0 l1 HLW HD1 HD2 HD3 HD4 HD5 hm HP3 HQ1
 have hX := HE4.out
 have d0 := hX.cell 0; have df0 := hX.frozen 0; have d1 := hX.cell 1; have df1 := hX.frozen 1; have d2 := hX.cell 2; have df2 := hX.frozen 2; have d3 := hX.cell 3; have df3 := hX.frozen 3; have d4 := hX.cell 4; have df4 := hX.frozen 4; have d5 := hX.cell 5; have df5 := hX.frozen 5; simp at d0 d1 d2 d3 d4 d5
 clear hX
 go_upto_region 3 with (fail)
 have hms : Mod (· = g3 + 1 + 1 + 1) w4 (World.setCell (World.setCell (World.setCell (World.setCell (World.setCell (World.setCell w4 ⟨(g3 + 1 + 1 + 1), 0, none⟩ (.int .i64 xno)) ⟨(g3 + 1 + 1 + 1), 1, none⟩ (.int .i64 xat)) ⟨(g3 + 1 + 1 + 1), 2, none⟩ (.string ⟨xrev.toArray⟩)) ⟨(g3 + 1 + 1 + 1), 3, none⟩ (.string ⟨xitem.toArray⟩)) ⟨(g3 + 1 + 1 + 1), 4, none⟩ (.bool xsec)) ⟨(g3 + 1 + 1 + 1), 5, none⟩ (.slice xA xv.length xc)) := Mod.set6 _ _ _ _ _ _ _ _
 have HX7 : Hid (Blk (World.setCell (World.setCell (World.setCell (World.setCell (World.setCell (World.setCell w4 ⟨(g3 + 1 + 1 + 1), 0, none⟩ (.int .i64 xno)) ⟨(g3 + 1 + 1 + 1), 1, none⟩ (.int .i64 xat)) ⟨(g3 + 1 + 1 + 1), 2, none⟩ (.string ⟨xrev.toArray⟩)) ⟨(g3 + 1 + 1 + 1), 3, none⟩ (.string ⟨xitem.toArray⟩)) ⟨(g3 + 1 + 1 + 1), 4, none⟩ (.bool xsec)) ⟨(g3 + 1 + 1 + 1), 5, none⟩ (.slice xA xv.length xc)) (g3 + 1 + 1 + 1) 40 #[.int .i64 xno, .int .i64 xat, .string ⟨xrev.toArray⟩, .string ⟨xitem.toArray⟩, .bool xsec, .slice xA xv.length xc]) := Lib.hid (Blk.set6 HE4.out)
 have HY7 := Lib.hid (HE5.out.mod hms (by omega))
 have HP7 := Lib.hid (HP4.out.trans' hms (fun i hi hl => by omega))
 clear hms d0 d1 d2 d3 d4 d5 df0 df1 df2 df3 df4 df5 HE4 HE5 HP4
 generalize (World.setCell (World.setCell (World.setCell (World.setCell (World.setCell (World.setCell w4 ⟨(g3 + 1 + 1 + 1), 0, none⟩ (.int .i64 xno)) ⟨(g3 + 1 + 1 + 1), 1, none⟩ (.int .i64 xat)) ⟨(g3 + 1 + 1 + 1), 2, none⟩ (.string ⟨xrev.toArray⟩)) ⟨(g3 + 1 + 1 + 1), 3, none⟩ (.string ⟨xitem.toArray⟩)) ⟨(g3 + 1 + 1 + 1), 4, none⟩ (.bool xsec)) ⟨(g3 + 1 + 1 + 1), 5, none⟩ (.slice xA xv.length xc)) = w7 at *
 clear w4
 unfold RkPost
 simp only [DecVal.eq]
 generalize os.isSome = sb at *
 generalize oo.isSome = hb at *
 cases sb
 ·have HOK := Lib.hid (HOK.out.trans (by simp) : ok = false)
  have HGs := Lib.hid (show ∀ (D : Nat → Bool) (zzi : Nat) (zq zq' : World), (fun _ zq => (fun Z => Blk Z (g3 + 1 + 1 + 1) 40 #[.int .i64 xno, .int .i64 xat, .string ⟨xrev.toArray⟩, .string ⟨xitem.toArray⟩, .bool xsec, .slice xA xv.length xc] ∧ Blk Z (g3 + 1 + 1 + 1 + 1) 40 #[.int .i64 yno, .int .i64 yat, .string ⟨yrev.toArray⟩, .string ⟨yitem.toArray⟩, .bool ysec, .slice yA yv.length yc]) zq) D zq → Mod (fun _ => False) zq zq' → (fun _ zq => (fun Z => Blk Z (g3 + 1 + 1 + 1) 40 #[.int .i64 xno, .int .i64 xat, .string ⟨xrev.toArray⟩, .string ⟨xitem.toArray⟩, .bool xsec, .slice xA xv.length xc] ∧ Blk Z (g3 + 1 + 1 + 1 + 1) 40 #[.int .i64 yno, .int .i64 yat, .string ⟨yrev.toArray⟩, .string ⟨yitem.toArray⟩, .bool ysec, .slice yA yv.length yc]) zq) (upd D zzi true) zq' from by intro D zzi zq zq' h hm; (exact ⟨h.1.modp hm, h.2.modp hm⟩))
  refine wp_region_inv (by kernel_rfl) (by kernel_rfl) (InvF (R := Mod (fun _ => False)) [.is (.agg #[.int .i64 xno, .int .i64 xat, .string ⟨xrev.toArray⟩, .string ⟨xitem.toArray⟩, .bool xsec, .slice xA xv.length xc]),
    .is (.agg #[.int .i64 yno, .int .i64 yat, .string ⟨yrev.toArray⟩, .string ⟨yitem.toArray⟩, .bool ysec, .slice yA yv.length yc]),
    .is (.bool false),
    .is (.bool false),
    .is (undef),
    .is (.bool false),
    .is (.bool false),
    .is (undef),
    .is (undef),
    .is (undef),
    .is (undef),
    .is (undef),
    .is (.bool false),
    .any,
    .any,
    .is (.bool false)]
    (PB w7 (fun _ => False) w7.heap.size (fun _ zq => (fun Z => Blk Z (g3 + 1 + 1 + 1) 40 #[.int .i64 xno, .int .i64 xat, .string ⟨xrev.toArray⟩, .string ⟨xitem.toArray⟩, .bool xsec, .slice xA xv.length xc] ∧ Blk Z (g3 + 1 + 1 + 1 + 1) 40 #[.int .i64 yno, .int .i64 yat, .string ⟨yrev.toArray⟩, .string ⟨yitem.toArray⟩, .bool ysec, .slice yA yv.length yc]) zq))) (InvF.start (PB.start (Mod.refl _ _) (Nat.le_refl _) (⟨HX7.out.drew, HY7.out.drew⟩))) ?_ ?_
  ·refine .cons ?_ (.cons ?_ (.cons ?_ (.cons ?_ (.cons ?_ (.cons ?_ (.cons ?_ (.cons ?_ (.cons ?_ (.cons ?_ (.cons ?_ (.cons ?_ (.cons ?_ (.cons ?_ (.cons ?_ (.cons ?_ .nil)))))))))))))))
   ·intro D V zw1 a hR hI K hK
    obtain ⟨hM1, hB1, hG1⟩ := hI.1
    have ze8 := hR.frame.other (t := 8) (by kernel_rfl) rfl
    have zx0 := hG1.1.cell 0; have zx1 := hG1.1.cell 1; have zx2 := hG1.1.cell 2; have zx3 := hG1.1.cell 3; have zx4 := hG1.1.cell 4; have zx5 := hG1.1.cell 5
    simp at zx0 zx1 zx2 zx3 zx4 zx5
    rw [if_pos (by rfl)]
    go_simp
    exact hK (.agg #[.int .i64 xno, .int .i64 xat, .string ⟨xrev.toArray⟩, .string ⟨xitem.toArray⟩, .bool xsec, .slice xA xv.length xc]) _ (hI.next hR (by kernel_rfl) (Mod.refl _ _) (PB.quiet hI.1 (Mod.refl _ _) (HGs.out D 0 zw1 zw1 (hI.1).g (Mod.refl _ _))) (upd_same V 0 _))
   ·intro D V zw1 a hR hI K hK
    obtain ⟨hM1, hB1, hG1⟩ := hI.1
    have ze9 := hR.frame.other (t := 9) (by kernel_rfl) rfl
    have zx0 := hG1.2.cell 0; have zx1 := hG1.2.cell 1; have zx2 := hG1.2.cell 2; have zx3 := hG1.2.cell 3; have zx4 := hG1.2.cell 4; have zx5 := hG1.2.cell 5
    simp at zx0 zx1 zx2 zx3 zx4 zx5
    rw [if_pos (by rfl)]
    go_simp
    exact hK (.agg #[.int .i64 yno, .int .i64 yat, .string ⟨yrev.toArray⟩, .string ⟨yitem.toArray⟩, .bool ysec, .slice yA yv.length yc]) _ (hI.next hR (by kernel_rfl) (Mod.refl _ _) (PB.quiet hI.1 (Mod.refl _ _) (HGs.out D 1 zw1 zw1 (hI.1).g (Mod.refl _ _))) (upd_same V 1 _))
   ·intro D V zw1 a hR hI K hK
    obtain ⟨hM1, hB1, hG1⟩ := hI.1
    have ze11 := hR.frame.other (t := 11) (by kernel_rfl) rfl
    rw [if_pos (by rfl)]
    go_simp
    exact hK (.bool false) _ (hI.next hR (by kernel_rfl) (Mod.refl _ _) (PB.quiet hI.1 (Mod.refl _ _) (HGs.out D 2 zw1 zw1 (hI.1).g (Mod.refl _ _))) (upd_same V 2 _))
   ·intro D V zw1 a hR hI K hK
    obtain ⟨hM1, hB1, hG1⟩ := hI.1
    have zd2 := hR.pred 2 (by kernel_rfl)
    have zF2 : V 2 = .bool false := hI.2 2 zd2 rfl
    have zf2 := zF2; clear zF2
    have ze29 := hR.frame.done (t := 29) (j := 2) (by kernel_rfl) hR.ok zd2
    rw [if_pos (by rfl)]
    go_simp
    exact hK (.bool false) _ (hI.next hR (by kernel_rfl) (Mod.refl _ _) (PB.quiet hI.1 (Mod.refl _ _) (HGs.out D 3 zw1 zw1 (hI.1).g (Mod.refl _ _))) (upd_same V 3 _))
   ·intro D V zw1 a hR hI K hK
    obtain ⟨hM1, hB1, hG1⟩ := hI.1
    have zd3 := hR.pred 3 (by kernel_rfl)
    have zF3 : V 3 = .bool false := hI.2 3 zd3 rfl
    have zf3 := zF3; clear zF3
    have ze30 := hR.frame.done (t := 30) (j := 3) (by kernel_rfl) hR.ok zd3
    rw [if_neg (by simp [Region.wanted, yielded, ze30, zf3])]
    exact hK undef _ (hI.next hR (by kernel_rfl) (Mod.refl _ _) (PB.quiet hI.1 (Mod.refl _ _) (HGs.out D 4 zw1 zw1 (hI.1).g (Mod.refl _ _))) (upd_same V 4 _))
   ·intro D V zw1 a hR hI K hK
    obtain ⟨hM1, hB1, hG1⟩ := hI.1
    have zd3 := hR.pred 3 (by kernel_rfl)
    have zF3 : V 3 = .bool false := hI.2 3 zd3 rfl
    have zf3 := zF3; clear zF3
    have zd4 := hR.pred 4 (by kernel_rfl)
    have zF4 : V 4 = undef := hI.2 4 zd4 rfl
    have zf4 := zF4; clear zF4
    have ze30 := hR.frame.done (t := 30) (j := 3) (by kernel_rfl) hR.ok zd3
    have ze31 := hR.frame.done (t := 31) (j := 4) (by kernel_rfl) hR.ok zd4
    rw [if_pos (by rfl)]
    go_simp
    exact hK (.bool false) _ (hI.next hR (by kernel_rfl) (Mod.refl _ _) (PB.quiet hI.1 (Mod.refl _ _) (HGs.out D 5 zw1 zw1 (hI.1).g (Mod.refl _ _))) (upd_same V 5 _))
   ·intro D V zw1 a hR hI K hK
    obtain ⟨hM1, hB1, hG1⟩ := hI.1
    have zd5 := hR.pred 5 (by kernel_rfl)
    have zF5 : V 5 = .bool false := hI.2 5 zd5 rfl
    have zf5 := zF5; clear zF5
    have ze32 := hR.frame.done (t := 32) (j := 5) (by kernel_rfl) hR.ok zd5
    rw [if_pos (by rfl)]
    go_simp
    exact hK (.bool false) _ (hI.next hR (by kernel_rfl) (Mod.refl _ _) (PB.quiet hI.1 (Mod.refl _ _) (HGs.out D 6 zw1 zw1 (hI.1).g (Mod.refl _ _))) (upd_same V 6 _))
   ·intro D V zw1 a hR hI K hK
    obtain ⟨hM1, hB1, hG1⟩ := hI.1
    have zd6 := hR.pred 6 (by kernel_rfl)
    have zF6 : V 6 = .bool false := hI.2 6 zd6 rfl
    have zf6 := zF6; clear zF6
    have ze33 := hR.frame.done (t := 33) (j := 6) (by kernel_rfl) hR.ok zd6
    rw [if_neg (by simp [Region.wanted, yielded, ze33, zf6])]
    exact hK undef _ (hI.next hR (by kernel_rfl) (Mod.refl _ _) (PB.quiet hI.1 (Mod.refl _ _) (HGs.out D 7 zw1 zw1 (hI.1).g (Mod.refl _ _))) (upd_same V 7 _))
   ·intro D V zw1 a hR hI K hK
    obtain ⟨hM1, hB1, hG1⟩ := hI.1
    have zd6 := hR.pred 6 (by kernel_rfl)
    have zF6 : V 6 = .bool false := hI.2 6 zd6 rfl
    have zf6 := zF6; clear zF6
    have ze33 := hR.frame.done (t := 33) (j := 6) (by kernel_rfl) hR.ok zd6
    rw [if_neg (by simp [Region.wanted, yielded, ze33, zf6])]
    exact hK undef _ (hI.next hR (by kernel_rfl) (Mod.refl _ _) (PB.quiet hI.1 (Mod.refl _ _) (HGs.out D 8 zw1 zw1 (hI.1).g (Mod.refl _ _))) (upd_same V 8 _))
   ·intro D V zw1 a hR hI K hK
    obtain ⟨hM1, hB1, hG1⟩ := hI.1
    have zd6 := hR.pred 6 (by kernel_rfl)
    have zF6 : V 6 = .bool false := hI.2 6 zd6 rfl
    have zf6 := zF6; clear zF6
    have ze33 := hR.frame.done (t := 33) (j := 6) (by kernel_rfl) hR.ok zd6
    rw [if_neg (by simp [Region.wanted, yielded, ze33, zf6])]
    exact hK undef _ (hI.next hR (by kernel_rfl) (Mod.refl _ _) (PB.quiet hI.1 (Mod.refl _ _) (HGs.out D 9 zw1 zw1 (hI.1).g (Mod.refl _ _))) (upd_same V 9 _))
   ·intro D V zw1 a hR hI K hK
    obtain ⟨hM1, hB1, hG1⟩ := hI.1
    have zd6 := hR.pred 6 (by kernel_rfl)
    have zF6 : V 6 = .bool false := hI.2 6 zd6 rfl
    have zf6 := zF6; clear zF6
    have ze33 := hR.frame.done (t := 33) (j := 6) (by kernel_rfl) hR.ok zd6
    rw [if_neg (by simp [Region.wanted, yielded, ze33, zf6])]
    exact hK undef _ (hI.next hR (by kernel_rfl) (Mod.refl _ _) (PB.quiet hI.1 (Mod.refl _ _) (HGs.out D 10 zw1 zw1 (hI.1).g (Mod.refl _ _))) (upd_same V 10 _))
   ·intro D V zw1 a hR hI K hK
    obtain ⟨hM1, hB1, hG1⟩ := hI.1
    have zd6 := hR.pred 6 (by kernel_rfl)
    have zF6 : V 6 = .bool false := hI.2 6 zd6 rfl
    have zf6 := zF6; clear zF6
    have ze33 := hR.frame.done (t := 33) (j := 6) (by kernel_rfl) hR.ok zd6
    rw [if_neg (by simp [Region.wanted, yielded, ze33, zf6])]
    exact hK undef _ (hI.next hR (by kernel_rfl) (Mod.refl _ _) (PB.quiet hI.1 (Mod.refl _ _) (HGs.out D 11 zw1 zw1 (hI.1).g (Mod.refl _ _))) (upd_same V 11 _))
   ·intro D V zw1 a hR hI K hK
    obtain ⟨hM1, hB1, hG1⟩ := hI.1
    have zd6 := hR.pred 6 (by kernel_rfl)
    have zF6 : V 6 = .bool false := hI.2 6 zd6 rfl
    have zf6 := zF6; clear zF6
    have zd11 := hR.pred 11 (by kernel_rfl)
    have zF11 : V 11 = undef := hI.2 11 zd11 rfl
    have zf11 := zF11; clear zF11
    have ze33 := hR.frame.done (t := 33) (j := 6) (by kernel_rfl) hR.ok zd6
    have ze38 := hR.frame.done (t := 38) (j := 11) (by kernel_rfl) hR.ok zd11
    rw [if_pos (by rfl)]
    go_simp
    exact hK (.bool false) _ (hI.next hR (by kernel_rfl) (Mod.refl _ _) (PB.quiet hI.1 (Mod.refl _ _) (HGs.out D 12 zw1 zw1 (hI.1).g (Mod.refl _ _))) (upd_same V 12 _))
   ·intro D V zw1 a hR hI K hK
    obtain ⟨hM1, hB1, hG1⟩ := hI.1
    have zd0 := hR.pred 0 (by kernel_rfl)
    have zF0 : V 0 = .agg #[.int .i64 xno, .int .i64 xat, .string ⟨xrev.toArray⟩, .string ⟨xitem.toArray⟩, .bool xsec, .slice xA xv.length xc] := hI.2 0 zd0 rfl
    have zf0 := zF0; clear zF0
    have ze8 := hR.frame.other (t := 8) (by kernel_rfl) rfl
    have ze27 := hR.frame.done (t := 27) (j := 0) (by kernel_rfl) hR.ok zd0
    rw [if_pos (by rfl)]
    have zx0 := hG1.1.cell 0; have zy0 := hG1.1.frozen 0
    have zx1 := hG1.1.cell 1; have zy1 := hG1.1.frozen 1
    have zx2 := hG1.1.cell 2; have zy2 := hG1.1.frozen 2
    have zx3 := hG1.1.cell 3; have zy3 := hG1.1.frozen 3
    have zx4 := hG1.1.cell 4; have zy4 := hG1.1.frozen 4
    have zx5 := hG1.1.cell 5; have zy5 := hG1.1.frozen 5
    simp at zx0 zx1 zx2 zx3 zx4 zx5
    go_simp
    rw [setCell_same6 hG1.1]
    exact hK undef _ (hI.next hR (by kernel_rfl) (Mod.refl _ _) (PB.quiet hI.1 (Mod.refl _ _) (HGs.out D 13 zw1 zw1 (hI.1).g (Mod.refl _ _))) trivial)
   ·intro D V zw1 a hR hI K hK
    obtain ⟨hM1, hB1, hG1⟩ := hI.1
    have zd1 := hR.pred 1 (by kernel_rfl)
    have zF1 : V 1 = .agg #[.int .i64 yno, .int .i64 yat, .string ⟨yrev.toArray⟩, .string ⟨yitem.toArray⟩, .bool ysec, .slice yA yv.length yc] := hI.2 1 zd1 rfl
    have zf1 := zF1; clear zF1
    have ze9 := hR.frame.other (t := 9) (by kernel_rfl) rfl
    have ze28 := hR.frame.done (t := 28) (j := 1) (by kernel_rfl) hR.ok zd1
    rw [if_pos (by rfl)]
    have zx0 := hG1.2.cell 0; have zy0 := hG1.2.frozen 0
    have zx1 := hG1.2.cell 1; have zy1 := hG1.2.frozen 1
    have zx2 := hG1.2.cell 2; have zy2 := hG1.2.frozen 2
    have zx3 := hG1.2.cell 3; have zy3 := hG1.2.frozen 3
    have zx4 := hG1.2.cell 4; have zy4 := hG1.2.frozen 4
    have zx5 := hG1.2.cell 5; have zy5 := hG1.2.frozen 5
    simp at zx0 zx1 zx2 zx3 zx4 zx5
    go_simp
    rw [setCell_same6 hG1.2]
    exact hK undef _ (hI.next hR (by kernel_rfl) (Mod.refl _ _) (PB.quiet hI.1 (Mod.refl _ _) (HGs.out D 14 zw1 zw1 (hI.1).g (Mod.refl _ _))) trivial)
   ·intro D V zw1 a hR hI K hK
    obtain ⟨hM1, hB1, hG1⟩ := hI.1
    have zd12 := hR.pred 12 (by kernel_rfl)
    have zF12 : V 12 = .bool false := hI.2 12 zd12 rfl
    have zf12 := zF12; clear zF12
    have ze39 := hR.frame.done (t := 39) (j := 12) (by kernel_rfl) hR.ok zd12
    rw [if_pos (by rfl)]
    go_simp
    exact hK (.bool false) _ (hI.next hR (by kernel_rfl) (Mod.refl _ _) (PB.quiet hI.1 (Mod.refl _ _) (HGs.out D 15 zw1 zw1 (hI.1).g (Mod.refl _ _))) (upd_same V 15 _))
  ·intro D V w8 hD hI
   obtain ⟨hM1, hB1, hG1⟩ := hI.1
   have hMx := hM1
   clear hM1
   have hBx := hB1
   clear hB1
   have hGx := hG1
   clear hG1
   have zF0 : V 0 = .agg #[.int .i64 xno, .int .i64 xat, .string ⟨xrev.toArray⟩, .string ⟨xitem.toArray⟩, .bool xsec, .slice xA xv.length xc] := hI.2 0 (hD 0 (by decide)) rfl
   have zf0 := zF0; clear zF0
   have zF1 : V 1 = .agg #[.int .i64 yno, .int .i64 yat, .string ⟨yrev.toArray⟩, .string ⟨yitem.toArray⟩, .bool ysec, .slice yA yv.length yc] := hI.2 1 (hD 1 (by decide)) rfl
   have zf1 := zF1; clear zF1
   have zF2 : V 2 = .bool false := hI.2 2 (hD 2 (by decide)) rfl
   have zf2 := zF2; clear zF2
   have zF3 : V 3 = .bool false := hI.2 3 (hD 3 (by decide)) rfl
   have zf3 := zF3; clear zF3
   have zF4 : V 4 = undef := hI.2 4 (hD 4 (by decide)) rfl
   have zf4 := zF4; clear zF4
   have zF5 : V 5 = .bool false := hI.2 5 (hD 5 (by decide)) rfl
   have zf5 := zF5; clear zF5
   have zF6 : V 6 = .bool false := hI.2 6 (hD 6 (by decide)) rfl
   have zf6 := zF6; clear zF6
   have zF7 : V 7 = undef := hI.2 7 (hD 7 (by decide)) rfl
   have zf7 := zF7; clear zF7
   have zF8 : V 8 = undef := hI.2 8 (hD 8 (by decide)) rfl
   have zf8 := zF8; clear zF8
   have zF9 : V 9 = undef := hI.2 9 (hD 9 (by decide)) rfl
   have zf9 := zF9; clear zF9
   have zF10 : V 10 = undef := hI.2 10 (hD 10 (by decide)) rfl
   have zf10 := zF10; clear zF10
   have zF11 : V 11 = undef := hI.2 11 (hD 11 (by decide)) rfl
   have zf11 := zF11; clear zF11
   have zF12 : V 12 = .bool false := hI.2 12 (hD 12 (by decide)) rfl
   have zf12 := zF12; clear zF12
   have zF15 : V 15 = .bool false := hI.2 15 (hD 15 (by decide)) rfl
   have zf15 := zF15; clear zF15
   clear hI hD HGs
   simp only [frAll, Act.put, List.setIfInBounds_toArray, List.set_cons_zero, List.set_cons_succ, Nat.zero_add, Nat.reduceAdd, zf0, zf1, zf2, zf3, zf4, zf5, zf6, zf7, zf8, zf9, zf10, zf11, zf12, zf15]
   clear zf0 zf1 zf2 zf3 zf4 zf5 zf6 zf7 zf8 zf9 zf10 zf11 zf12 zf15
   clear V D
   have z1 := hGx.1
   have z2 := hGx.2
   have a0 := z1.cell 0; have a1 := z1.cell 1; have a2 := z1.cell 2; have a3 := z1.cell 3; have a4 := z1.cell 4; have a5 := z1.cell 5; simp at a0 a1 a2 a3 a4 a5
   have e0 := z2.cell 0; have e1 := z2.cell 1; have e2 := z2.cell 2; have e3 := z2.cell 3; have e4 := z2.cell 4; have e5 := z2.cell 5; simp at e0 e1 e2 e3 e4 e5
   have HF := Lib.hid (HP7.out.trans hMx)
   clear z1 z2 hGx hMx hBx
   go_wp2_with fail
   refine bodyPost_ret (v := .tuple #[.agg #[.int .i64 xno, .int .i64 xat, .string ⟨xrev.toArray⟩, .string ⟨xitem.toArray⟩, .bool xsec, .slice xA xv.length xc], .agg #[.int .i64 yno, .int .i64 yat, .string ⟨yrev.toArray⟩, .string ⟨yitem.toArray⟩, .bool ysec, .slice yA yv.length yc], .bool false]) (by simp [results, Tryz.results107, go_sem, a0, a1, a2, a3, a4, a5, e0, e1, e2, e3, e4, e5]) rfl ?_
   exact ⟨by rw [HOK.out, DecVal.eq, DecVal.eq] <;> simp, HF.out⟩
 cases hb
 ·have HOK := Lib.hid (HOK.out.trans (by simp) : ok = false)
  have HGs := Lib.hid (show ∀ (D : Nat → Bool) (zzi : Nat) (zq zq' : World), (fun _ zq => (fun Z => Blk Z (g3 + 1 + 1 + 1) 40 #[.int .i64 xno, .int .i64 xat, .string ⟨xrev.toArray⟩, .string ⟨xitem.toArray⟩, .bool xsec, .slice xA xv.length xc] ∧ Blk Z (g3 + 1 + 1 + 1 + 1) 40 #[.int .i64 yno, .int .i64 yat, .string ⟨yrev.toArray⟩, .string ⟨yitem.toArray⟩, .bool ysec, .slice yA yv.length yc]) zq) D zq → Mod (fun _ => False) zq zq' → (fun _ zq => (fun Z => Blk Z (g3 + 1 + 1 + 1) 40 #[.int .i64 xno, .int .i64 xat, .string ⟨xrev.toArray⟩, .string ⟨xitem.toArray⟩, .bool xsec, .slice xA xv.length xc] ∧ Blk Z (g3 + 1 + 1 + 1 + 1) 40 #[.int .i64 yno, .int .i64 yat, .string ⟨yrev.toArray⟩, .string ⟨yitem.toArray⟩, .bool ysec, .slice yA yv.length yc]) zq) (upd D zzi true) zq' from by intro D zzi zq zq' h hm; (exact ⟨h.1.modp hm, h.2.modp hm⟩))
  refine wp_region_inv (by kernel_rfl) (by kernel_rfl) (InvF (R := Mod (fun _ => False)) [.is (.agg #[.int .i64 xno, .int .i64 xat, .string ⟨xrev.toArray⟩, .string ⟨xitem.toArray⟩, .bool xsec, .slice xA xv.length xc]),
    .is (.agg #[.int .i64 yno, .int .i64 yat, .string ⟨yrev.toArray⟩, .string ⟨yitem.toArray⟩, .bool ysec, .slice yA yv.length yc]),
    .is (.bool true),
    .is (.bool true),
    .is (.bool false),
    .is (.bool false),
    .is (.bool false),
    .is (undef),
    .is (undef),
    .is (undef),
    .is (undef),
    .is (undef),
    .is (.bool false),
    .any,
    .any,
    .is (.bool false)]
    (PB w7 (fun _ => False) w7.heap.size (fun _ zq => (fun Z => Blk Z (g3 + 1 + 1 + 1) 40 #[.int .i64 xno, .int .i64 xat, .string ⟨xrev.toArray⟩, .string ⟨xitem.toArray⟩, .bool xsec, .slice xA xv.length xc] ∧ Blk Z (g3 + 1 + 1 + 1 + 1) 40 #[.int .i64 yno, .int .i64 yat, .string ⟨yrev.toArray⟩, .string ⟨yitem.toArray⟩, .bool ysec, .slice yA yv.length yc]) zq))) (InvF.start (PB.start (Mod.refl _ _) (Nat.le_refl _) (⟨HX7.out.drew, HY7.out.drew⟩))) ?_ ?_
  ·refine .cons ?_ (.cons ?_ (.cons ?_ (.cons ?_ (.cons ?_ (.cons ?_ (.cons ?_ (.cons ?_ (.cons ?_ (.cons ?_ (.cons ?_ (.cons ?_ (.cons ?_ (.cons ?_ (.cons ?_ (.cons ?_ .nil)))))))))))))))
   ·intro D V zw1 a hR hI K hK
    obtain ⟨hM1, hB1, hG1⟩ := hI.1
    have ze8 := hR.frame.other (t := 8) (by kernel_rfl) rfl
    have zx0 := hG1.1.cell 0; have zx1 := hG1.1.cell 1; have zx2 := hG1.1.cell 2; have zx3 := hG1.1.cell 3; have zx4 := hG1.1.cell 4; have zx5 := hG1.1.cell 5
    simp at zx0 zx1 zx2 zx3 zx4 zx5
    rw [if_pos (by rfl)]
    go_simp
    exact hK (.agg #[.int .i64 xno, .int .i64 xat, .string ⟨xrev.toArray⟩, .string ⟨xitem.toArray⟩, .bool xsec, .slice xA xv.length xc]) _ (hI.next hR (by kernel_rfl) (Mod.refl _ _) (PB.quiet hI.1 (Mod.refl _ _) (HGs.out D 0 zw1 zw1 (hI.1).g (Mod.refl _ _))) (upd_same V 0 _))
   ·intro D V zw1 a hR hI K hK
    obtain ⟨hM1, hB1, hG1⟩ := hI.1
    have ze9 := hR.frame.other (t := 9) (by kernel_rfl) rfl
    have zx0 := hG1.2.cell 0; have zx1 := hG1.2.cell 1; have zx2 := hG1.2.cell 2; have zx3 := hG1.2.cell 3; have zx4 := hG1.2.cell 4; have zx5 := hG1.2.cell 5
    simp at zx0 zx1 zx2 zx3 zx4 zx5
    rw [if_pos (by rfl)]
    go_simp
    exact hK (.agg #[.int .i64 yno, .int .i64 yat, .string ⟨yrev.toArray⟩, .string ⟨yitem.toArray⟩, .bool ysec, .slice yA yv.length yc]) _ (hI.next hR (by kernel_rfl) (Mod.refl _ _) (PB.quiet hI.1 (Mod.refl _ _) (HGs.out D 1 zw1 zw1 (hI.1).g (Mod.refl _ _))) (upd_same V 1 _))
   ·intro D V zw1 a hR hI K hK
    obtain ⟨hM1, hB1, hG1⟩ := hI.1
    have ze11 := hR.frame.other (t := 11) (by kernel_rfl) rfl
    rw [if_pos (by rfl)]
    go_simp
    exact hK (.bool true) _ (hI.next hR (by kernel_rfl) (Mod.refl _ _) (PB.quiet hI.1 (Mod.refl _ _) (HGs.out D 2 zw1 zw1 (hI.1).g (Mod.refl _ _))) (upd_same V 2 _))
   ·intro D V zw1 a hR hI K hK
    obtain ⟨hM1, hB1, hG1⟩ := hI.1
    have zd2 := hR.pred 2 (by kernel_rfl)
    have zF2 : V 2 = .bool true := hI.2 2 zd2 rfl
    have zf2 := zF2; clear zF2
    have ze29 := hR.frame.done (t := 29) (j := 2) (by kernel_rfl) hR.ok zd2
    rw [if_pos (by rfl)]
    go_simp
    exact hK (.bool true) _ (hI.next hR (by kernel_rfl) (Mod.refl _ _) (PB.quiet hI.1 (Mod.refl _ _) (HGs.out D 3 zw1 zw1 (hI.1).g (Mod.refl _ _))) (upd_same V 3 _))
   ·intro D V zw1 a hR hI K hK
    obtain ⟨hM1, hB1, hG1⟩ := hI.1
    have zd3 := hR.pred 3 (by kernel_rfl)
    have zF3 : V 3 = .bool true := hI.2 3 zd3 rfl
    have zf3 := zF3; clear zF3
    have ze12 := hR.frame.other (t := 12) (by kernel_rfl) rfl
    have ze30 := hR.frame.done (t := 30) (j := 3) (by kernel_rfl) hR.ok zd3
    rw [if_pos (by simp [Region.wanted, yielded, ze30, zf3])]
    go_simp
    exact hK (.bool false) _ (hI.next hR (by kernel_rfl) (Mod.refl _ _) (PB.quiet hI.1 (Mod.refl _ _) (HGs.out D 4 zw1 zw1 (hI.1).g (Mod.refl _ _))) (upd_same V 4 _))
   ·intro D V zw1 a hR hI K hK
    obtain ⟨hM1, hB1, hG1⟩ := hI.1
    have zd3 := hR.pred 3 (by kernel_rfl)
    have zF3 : V 3 = .bool true := hI.2 3 zd3 rfl
    have zf3 := zF3; clear zF3
    have zd4 := hR.pred 4 (by kernel_rfl)
    have zF4 : V 4 = .bool false := hI.2 4 zd4 rfl
    have zf4 := zF4; clear zF4
    have ze30 := hR.frame.done (t := 30) (j := 3) (by kernel_rfl) hR.ok zd3
    have ze31 := hR.frame.done (t := 31) (j := 4) (by kernel_rfl) hR.ok zd4
    rw [if_pos (by rfl)]
    go_simp
    exact hK (.bool false) _ (hI.next hR (by kernel_rfl) (Mod.refl _ _) (PB.quiet hI.1 (Mod.refl _ _) (HGs.out D 5 zw1 zw1 (hI.1).g (Mod.refl _ _))) (upd_same V 5 _))
   ·intro D V zw1 a hR hI K hK
    obtain ⟨hM1, hB1, hG1⟩ := hI.1
    have zd5 := hR.pred 5 (by kernel_rfl)
    have zF5 : V 5 = .bool false := hI.2 5 zd5 rfl
    have zf5 := zF5; clear zF5
    have ze32 := hR.frame.done (t := 32) (j := 5) (by kernel_rfl) hR.ok zd5
    rw [if_pos (by rfl)]
    go_simp
    exact hK (.bool false) _ (hI.next hR (by kernel_rfl) (Mod.refl _ _) (PB.quiet hI.1 (Mod.refl _ _) (HGs.out D 6 zw1 zw1 (hI.1).g (Mod.refl _ _))) (upd_same V 6 _))
   ·intro D V zw1 a hR hI K hK
    obtain ⟨hM1, hB1, hG1⟩ := hI.1
    have zd6 := hR.pred 6 (by kernel_rfl)
    have zF6 : V 6 = .bool false := hI.2 6 zd6 rfl
    have zf6 := zF6; clear zF6
    have ze33 := hR.frame.done (t := 33) (j := 6) (by kernel_rfl) hR.ok zd6
    rw [if_neg (by simp [Region.wanted, yielded, ze33, zf6])]
    exact hK undef _ (hI.next hR (by kernel_rfl) (Mod.refl _ _) (PB.quiet hI.1 (Mod.refl _ _) (HGs.out D 7 zw1 zw1 (hI.1).g (Mod.refl _ _))) (upd_same V 7 _))
   ·intro D V zw1 a hR hI K hK
    obtain ⟨hM1, hB1, hG1⟩ := hI.1
    have zd6 := hR.pred 6 (by kernel_rfl)
    have zF6 : V 6 = .bool false := hI.2 6 zd6 rfl
    have zf6 := zF6; clear zF6
    have ze33 := hR.frame.done (t := 33) (j := 6) (by kernel_rfl) hR.ok zd6
    rw [if_neg (by simp [Region.wanted, yielded, ze33, zf6])]
    exact hK undef _ (hI.next hR (by kernel_rfl) (Mod.refl _ _) (PB.quiet hI.1 (Mod.refl _ _) (HGs.out D 8 zw1 zw1 (hI.1).g (Mod.refl _ _))) (upd_same V 8 _))
   ·intro D V zw1 a hR hI K hK
    obtain ⟨hM1, hB1, hG1⟩ := hI.1
    have zd6 := hR.pred 6 (by kernel_rfl)
    have zF6 : V 6 = .bool false := hI.2 6 zd6 rfl
    have zf6 := zF6; clear zF6
    have ze33 := hR.frame.done (t := 33) (j := 6) (by kernel_rfl) hR.ok zd6
    rw [if_neg (by simp [Region.wanted, yielded, ze33, zf6])]
    exact hK undef _ (hI.next hR (by kernel_rfl) (Mod.refl _ _) (PB.quiet hI.1 (Mod.refl _ _) (HGs.out D 9 zw1 zw1 (hI.1).g (Mod.refl _ _))) (upd_same V 9 _))
   ·intro D V zw1 a hR hI K hK
    obtain ⟨hM1, hB1, hG1⟩ := hI.1
    have zd6 := hR.pred 6 (by kernel_rfl)
    have zF6 : V 6 = .bool false := hI.2 6 zd6 rfl
    have zf6 := zF6; clear zF6
    have ze33 := hR.frame.done (t := 33) (j := 6) (by kernel_rfl) hR.ok zd6
    rw [if_neg (by simp [Region.wanted, yielded, ze33, zf6])]
    exact hK undef _ (hI.next hR (by kernel_rfl) (Mod.refl _ _) (PB.quiet hI.1 (Mod.refl _ _) (HGs.out D 10 zw1 zw1 (hI.1).g (Mod.refl _ _))) (upd_same V 10 _))
   ·intro D V zw1 a hR hI K hK
    obtain ⟨hM1, hB1, hG1⟩ := hI.1
    have zd6 := hR.pred 6 (by kernel_rfl)
    have zF6 : V 6 = .bool false := hI.2 6 zd6 rfl
    have zf6 := zF6; clear zF6
    have ze33 := hR.frame.done (t := 33) (j := 6) (by kernel_rfl) hR.ok zd6
    rw [if_neg (by simp [Region.wanted, yielded, ze33, zf6])]
    exact hK undef _ (hI.next hR (by kernel_rfl) (Mod.refl _ _) (PB.quiet hI.1 (Mod.refl _ _) (HGs.out D 11 zw1 zw1 (hI.1).g (Mod.refl _ _))) (upd_same V 11 _))
   ·intro D V zw1 a hR hI K hK
    obtain ⟨hM1, hB1, hG1⟩ := hI.1
    have zd6 := hR.pred 6 (by kernel_rfl)
    have zF6 : V 6 = .bool false := hI.2 6 zd6 rfl
    have zf6 := zF6; clear zF6
    have zd11 := hR.pred 11 (by kernel_rfl)
    have zF11 : V 11 = undef := hI.2 11 zd11 rfl
    have zf11 := zF11; clear zF11
    have ze33 := hR.frame.done (t := 33) (j := 6) (by kernel_rfl) hR.ok zd6
    have ze38 := hR.frame.done (t := 38) (j := 11) (by kernel_rfl) hR.ok zd11
    rw [if_pos (by rfl)]
    go_simp
    exact hK (.bool false) _ (hI.next hR (by kernel_rfl) (Mod.refl _ _) (PB.quiet hI.1 (Mod.refl _ _) (HGs.out D 12 zw1 zw1 (hI.1).g (Mod.refl _ _))) (upd_same V 12 _))
   ·intro D V zw1 a hR hI K hK
    obtain ⟨hM1, hB1, hG1⟩ := hI.1
    have zd0 := hR.pred 0 (by kernel_rfl)
    have zF0 : V 0 = .agg #[.int .i64 xno, .int .i64 xat, .string ⟨xrev.toArray⟩, .string ⟨xitem.toArray⟩, .bool xsec, .slice xA xv.length xc] := hI.2 0 zd0 rfl
    have zf0 := zF0; clear zF0
    have ze8 := hR.frame.other (t := 8) (by kernel_rfl) rfl
    have ze27 := hR.frame.done (t := 27) (j := 0) (by kernel_rfl) hR.ok zd0
    rw [if_pos (by rfl)]
    have zx0 := hG1.1.cell 0; have zy0 := hG1.1.frozen 0
    have zx1 := hG1.1.cell 1; have zy1 := hG1.1.frozen 1
    have zx2 := hG1.1.cell 2; have zy2 := hG1.1.frozen 2
    have zx3 := hG1.1.cell 3; have zy3 := hG1.1.frozen 3
    have zx4 := hG1.1.cell 4; have zy4 := hG1.1.frozen 4
    have zx5 := hG1.1.cell 5; have zy5 := hG1.1.frozen 5
    simp at zx0 zx1 zx2 zx3 zx4 zx5
    go_simp
    rw [setCell_same6 hG1.1]
    exact hK undef _ (hI.next hR (by kernel_rfl) (Mod.refl _ _) (PB.quiet hI.1 (Mod.refl _ _) (HGs.out D 13 zw1 zw1 (hI.1).g (Mod.refl _ _))) trivial)
   ·intro D V zw1 a hR hI K hK
    obtain ⟨hM1, hB1, hG1⟩ := hI.1
    have zd1 := hR.pred 1 (by kernel_rfl)
    have zF1 : V 1 = .agg #[.int .i64 yno, .int .i64 yat, .string ⟨yrev.toArray⟩, .string ⟨yitem.toArray⟩, .bool ysec, .slice yA yv.length yc] := hI.2 1 zd1 rfl
    have zf1 := zF1; clear zF1
    have ze9 := hR.frame.other (t := 9) (by kernel_rfl) rfl
    have ze28 := hR.frame.done (t := 28) (j := 1) (by kernel_rfl) hR.ok zd1
    rw [if_pos (by rfl)]
    have zx0 := hG1.2.cell 0; have zy0 := hG1.2.frozen 0
    have zx1 := hG1.2.cell 1; have zy1 := hG1.2.frozen 1
    have zx2 := hG1.2.cell 2; have zy2 := hG1.2.frozen 2
    have zx3 := hG1.2.cell 3; have zy3 := hG1.2.frozen 3
    have zx4 := hG1.2.cell 4; have zy4 := hG1.2.frozen 4
    have zx5 := hG1.2.cell 5; have zy5 := hG1.2.frozen 5
    simp at zx0 zx1 zx2 zx3 zx4 zx5
    go_simp
    rw [setCell_same6 hG1.2]
    exact hK undef _ (hI.next hR (by kernel_rfl) (Mod.refl _ _) (PB.quiet hI.1 (Mod.refl _ _) (HGs.out D 14 zw1 zw1 (hI.1).g (Mod.refl _ _))) trivial)
   ·intro D V zw1 a hR hI K hK
    obtain ⟨hM1, hB1, hG1⟩ := hI.1
    have zd12 := hR.pred 12 (by kernel_rfl)
    have zF12 : V 12 = .bool false := hI.2 12 zd12 rfl
    have zf12 := zF12; clear zF12
    have ze39 := hR.frame.done (t := 39) (j := 12) (by kernel_rfl) hR.ok zd12
    rw [if_pos (by rfl)]
    go_simp
    exact hK (.bool false) _ (hI.next hR (by kernel_rfl) (Mod.refl _ _) (PB.quiet hI.1 (Mod.refl _ _) (HGs.out D 15 zw1 zw1 (hI.1).g (Mod.refl _ _))) (upd_same V 15 _))
  ·intro D V w8 hD hI
   obtain ⟨hM1, hB1, hG1⟩ := hI.1
   have hMx := hM1
   clear hM1
   have hBx := hB1
   clear hB1
   have hGx := hG1
   clear hG1
   have zF0 : V 0 = .agg #[.int .i64 xno, .int .i64 xat, .string ⟨xrev.toArray⟩, .string ⟨xitem.toArray⟩, .bool xsec, .slice xA xv.length xc] := hI.2 0 (hD 0 (by decide)) rfl
   have zf0 := zF0; clear zF0
   have zF1 : V 1 = .agg #[.int .i64 yno, .int .i64 yat, .string ⟨yrev.toArray⟩, .string ⟨yitem.toArray⟩, .bool ysec, .slice yA yv.length yc] := hI.2 1 (hD 1 (by decide)) rfl
   have zf1 := zF1; clear zF1
   have zF2 : V 2 = .bool true := hI.2 2 (hD 2 (by decide)) rfl
   have zf2 := zF2; clear zF2
   have zF3 : V 3 = .bool true := hI.2 3 (hD 3 (by decide)) rfl
   have zf3 := zF3; clear zF3
   have zF4 : V 4 = .bool false := hI.2 4 (hD 4 (by decide)) rfl
   have zf4 := zF4; clear zF4
   have zF5 : V 5 = .bool false := hI.2 5 (hD 5 (by decide)) rfl
   have zf5 := zF5; clear zF5
   have zF6 : V 6 = .bool false := hI.2 6 (hD 6 (by decide)) rfl
   have zf6 := zF6; clear zF6
   have zF7 : V 7 = undef := hI.2 7 (hD 7 (by decide)) rfl
   have zf7 := zF7; clear zF7
   have zF8 : V 8 = undef := hI.2 8 (hD 8 (by decide)) rfl
   have zf8 := zF8; clear zF8
   have zF9 : V 9 = undef := hI.2 9 (hD 9 (by decide)) rfl
   have zf9 := zF9; clear zF9
   have zF10 : V 10 = undef := hI.2 10 (hD 10 (by decide)) rfl
   have zf10 := zF10; clear zF10
   have zF11 : V 11 = undef := hI.2 11 (hD 11 (by decide)) rfl
   have zf11 := zF11; clear zF11
   have zF12 : V 12 = .bool false := hI.2 12 (hD 12 (by decide)) rfl
   have zf12 := zF12; clear zF12
   have zF15 : V 15 = .bool false := hI.2 15 (hD 15 (by decide)) rfl
   have zf15 := zF15; clear zF15
   clear hI hD HGs
   simp only [frAll, Act.put, List.setIfInBounds_toArray, List.set_cons_zero, List.set_cons_succ, Nat.zero_add, Nat.reduceAdd, zf0, zf1, zf2, zf3, zf4, zf5, zf6, zf7, zf8, zf9, zf10, zf11, zf12, zf15]
   clear zf0 zf1 zf2 zf3 zf4 zf5 zf6 zf7 zf8 zf9 zf10 zf11 zf12 zf15
   clear V D
   have z1 := hGx.1
   have z2 := hGx.2
   have a0 := z1.cell 0; have a1 := z1.cell 1; have a2 := z1.cell 2; have a3 := z1.cell 3; have a4 := z1.cell 4; have a5 := z1.cell 5; simp at a0 a1 a2 a3 a4 a5
   have e0 := z2.cell 0; have e1 := z2.cell 1; have e2 := z2.cell 2; have e3 := z2.cell 3; have e4 := z2.cell 4; have e5 := z2.cell 5; simp at e0 e1 e2 e3 e4 e5
   have HF := Lib.hid (HP7.out.trans hMx)
   clear z1 z2 hGx hMx hBx
   go_wp2_with fail
   refine bodyPost_ret (v := .tuple #[.agg #[.int .i64 xno, .int .i64 xat, .string ⟨xrev.toArray⟩, .string ⟨xitem.toArray⟩, .bool xsec, .slice xA xv.length xc], .agg #[.int .i64 yno, .int .i64 yat, .string ⟨yrev.toArray⟩, .string ⟨yitem.toArray⟩, .bool ysec, .slice yA yv.length yc], .bool false]) (by simp [results, Tryz.results107, go_sem, a0, a1, a2, a3, a4, a5, e0, e1, e2, e3, e4, e5]) rfl ?_
   exact ⟨by rw [HOK.out, DecVal.eq, DecVal.eq] <;> simp, HF.out⟩
 by_cases hrv : xrev = yrev
 ·have HOK := Lib.hid (HOK.out.trans (by simp [hrv]) : ok = false)
  subst hrv
  have t1 : (xrev != xrev) = false := by simp
  have t2 : (xrev == xrev) = true := by simp
  have HGs := Lib.hid (show ∀ (D : Nat → Bool) (zzi : Nat) (zq zq' : World), (fun _ zq => (fun Z => Blk Z (g3 + 1 + 1 + 1) 40 #[.int .i64 xno, .int .i64 xat, .string ⟨xrev.toArray⟩, .string ⟨xitem.toArray⟩, .bool xsec, .slice xA xv.length xc] ∧ Blk Z (g3 + 1 + 1 + 1 + 1) 40 #[.int .i64 yno, .int .i64 yat, .string ⟨xrev.toArray⟩, .string ⟨yitem.toArray⟩, .bool ysec, .slice yA yv.length yc]) zq) D zq → Mod (fun _ => False) zq zq' → (fun _ zq => (fun Z => Blk Z (g3 + 1 + 1 + 1) 40 #[.int .i64 xno, .int .i64 xat, .string ⟨xrev.toArray⟩, .string ⟨xitem.toArray⟩, .bool xsec, .slice xA xv.length xc] ∧ Blk Z (g3 + 1 + 1 + 1 + 1) 40 #[.int .i64 yno, .int .i64 yat, .string ⟨xrev.toArray⟩, .string ⟨yitem.toArray⟩, .bool ysec, .slice yA yv.length yc]) zq) (upd D zzi true) zq' from by intro D zzi zq zq' h hm; (exact ⟨h.1.modp hm, h.2.modp hm⟩))
  refine wp_region_inv (by kernel_rfl) (by kernel_rfl) (InvF (R := Mod (fun _ => False)) [.is (.agg #[.int .i64 xno, .int .i64 xat, .string ⟨xrev.toArray⟩, .string ⟨xitem.toArray⟩, .bool xsec, .slice xA xv.length xc]),
    .is (.agg #[.int .i64 yno, .int .i64 yat, .string ⟨xrev.toArray⟩, .string ⟨yitem.toArray⟩, .bool ysec, .slice yA yv.length yc]),
    .is (.bool true),
    .is (.bool true),
    .is (.bool true),
    .is (.bool true),
    .is (.bool true),
    .is (.pointer (some ⟨g3 + 1 + 1 + 1, 2, none⟩)),
    .is (.string ⟨xrev.toArray⟩),
    .is (.pointer (some ⟨g3 + 1 + 1 + 1 + 1, 2, none⟩)),
    .is (.string ⟨xrev.toArray⟩),
    .is (.bool false),
    .is (.bool false),
    .any,
    .any,
    .is (.bool false)]
    (PB w7 (fun _ => False) w7.heap.size (fun _ zq => (fun Z => Blk Z (g3 + 1 + 1 + 1) 40 #[.int .i64 xno, .int .i64 xat, .string ⟨xrev.toArray⟩, .string ⟨xitem.toArray⟩, .bool xsec, .slice xA xv.length xc] ∧ Blk Z (g3 + 1 + 1 + 1 + 1) 40 #[.int .i64 yno, .int .i64 yat, .string ⟨xrev.toArray⟩, .string ⟨yitem.toArray⟩, .bool ysec, .slice yA yv.length yc]) zq))) (InvF.start (PB.start (Mod.refl _ _) (Nat.le_refl _) (⟨HX7.out.drew, HY7.out.drew⟩))) ?_ ?_
  ·refine .cons ?_ (.cons ?_ (.cons ?_ (.cons ?_ (.cons ?_ (.cons ?_ (.cons ?_ (.cons ?_ (.cons ?_ (.cons ?_ (.cons ?_ (.cons ?_ (.cons ?_ (.cons ?_ (.cons ?_ (.cons ?_ .nil)))))))))))))))
   ·intro D V zw1 a hR hI K hK
    obtain ⟨hM1, hB1, hG1⟩ := hI.1
    have ze8 := hR.frame.other (t := 8) (by kernel_rfl) rfl
    have zx0 := hG1.1.cell 0; have zx1 := hG1.1.cell 1; have zx2 := hG1.1.cell 2; have zx3 := hG1.1.cell 3; have zx4 := hG1.1.cell 4; have zx5 := hG1.1.cell 5
    simp at zx0 zx1 zx2 zx3 zx4 zx5
    rw [if_pos (by rfl)]
    go_simp
    exact hK (.agg #[.int .i64 xno, .int .i64 xat, .string ⟨xrev.toArray⟩, .string ⟨xitem.toArray⟩, .bool xsec, .slice xA xv.length xc]) _ (hI.next hR (by kernel_rfl) (Mod.refl _ _) (PB.quiet hI.1 (Mod.refl _ _) (HGs.out D 0 zw1 zw1 (hI.1).g (Mod.refl _ _))) (upd_same V 0 _))
   ·intro D V zw1 a hR hI K hK
    obtain ⟨hM1, hB1, hG1⟩ := hI.1
    have ze9 := hR.frame.other (t := 9) (by kernel_rfl) rfl
    have zx0 := hG1.2.cell 0; have zx1 := hG1.2.cell 1; have zx2 := hG1.2.cell 2; have zx3 := hG1.2.cell 3; have zx4 := hG1.2.cell 4; have zx5 := hG1.2.cell 5
    simp at zx0 zx1 zx2 zx3 zx4 zx5
    rw [if_pos (by rfl)]
    go_simp
    exact hK (.agg #[.int .i64 yno, .int .i64 yat, .string ⟨xrev.toArray⟩, .string ⟨yitem.toArray⟩, .bool ysec, .slice yA yv.length yc]) _ (hI.next hR (by kernel_rfl) (Mod.refl _ _) (PB.quiet hI.1 (Mod.refl _ _) (HGs.out D 1 zw1 zw1 (hI.1).g (Mod.refl _ _))) (upd_same V 1 _))
   ·intro D V zw1 a hR hI K hK
    obtain ⟨hM1, hB1, hG1⟩ := hI.1
    have ze11 := hR.frame.other (t := 11) (by kernel_rfl) rfl
    rw [if_pos (by rfl)]
    go_simp
    exact hK (.bool true) _ (hI.next hR (by kernel_rfl) (Mod.refl _ _) (PB.quiet hI.1 (Mod.refl _ _) (HGs.out D 2 zw1 zw1 (hI.1).g (Mod.refl _ _))) (upd_same V 2 _))
   ·intro D V zw1 a hR hI K hK
    obtain ⟨hM1, hB1, hG1⟩ := hI.1
    have zd2 := hR.pred 2 (by kernel_rfl)
    have zF2 : V 2 = .bool true := hI.2 2 zd2 rfl
    have zf2 := zF2; clear zF2
    have ze29 := hR.frame.done (t := 29) (j := 2) (by kernel_rfl) hR.ok zd2
    rw [if_pos (by rfl)]
    go_simp
    exact hK (.bool true) _ (hI.next hR (by kernel_rfl) (Mod.refl _ _) (PB.quiet hI.1 (Mod.refl _ _) (HGs.out D 3 zw1 zw1 (hI.1).g (Mod.refl _ _))) (upd_same V 3 _))
   ·intro D V zw1 a hR hI K hK
    obtain ⟨hM1, hB1, hG1⟩ := hI.1
    have zd3 := hR.pred 3 (by kernel_rfl)
    have zF3 : V 3 = .bool true := hI.2 3 zd3 rfl
    have zf3 := zF3; clear zF3
    have ze12 := hR.frame.other (t := 12) (by kernel_rfl) rfl
    have ze30 := hR.frame.done (t := 30) (j := 3) (by kernel_rfl) hR.ok zd3
    rw [if_pos (by simp [Region.wanted, yielded, ze30, zf3])]
    go_simp
    exact hK (.bool true) _ (hI.next hR (by kernel_rfl) (Mod.refl _ _) (PB.quiet hI.1 (Mod.refl _ _) (HGs.out D 4 zw1 zw1 (hI.1).g (Mod.refl _ _))) (upd_same V 4 _))
   ·intro D V zw1 a hR hI K hK
    obtain ⟨hM1, hB1, hG1⟩ := hI.1
    have zd3 := hR.pred 3 (by kernel_rfl)
    have zF3 : V 3 = .bool true := hI.2 3 zd3 rfl
    have zf3 := zF3; clear zF3
    have zd4 := hR.pred 4 (by kernel_rfl)
    have zF4 : V 4 = .bool true := hI.2 4 zd4 rfl
    have zf4 := zF4; clear zF4
    have ze30 := hR.frame.done (t := 30) (j := 3) (by kernel_rfl) hR.ok zd3
    have ze31 := hR.frame.done (t := 31) (j := 4) (by kernel_rfl) hR.ok zd4
    rw [if_pos (by rfl)]
    go_simp
    exact hK (.bool true) _ (hI.next hR (by kernel_rfl) (Mod.refl _ _) (PB.quiet hI.1 (Mod.refl _ _) (HGs.out D 5 zw1 zw1 (hI.1).g (Mod.refl _ _))) (upd_same V 5 _))
   ·intro D V zw1 a hR hI K hK
    obtain ⟨hM1, hB1, hG1⟩ := hI.1
    have zd5 := hR.pred 5 (by kernel_rfl)
    have zF5 : V 5 = .bool true := hI.2 5 zd5 rfl
    have zf5 := zF5; clear zF5
    have ze32 := hR.frame.done (t := 32) (j := 5) (by kernel_rfl) hR.ok zd5
    rw [if_pos (by rfl)]
    go_simp
    exact hK (.bool true) _ (hI.next hR (by kernel_rfl) (Mod.refl _ _) (PB.quiet hI.1 (Mod.refl _ _) (HGs.out D 6 zw1 zw1 (hI.1).g (Mod.refl _ _))) (upd_same V 6 _))
   ·intro D V zw1 a hR hI K hK
    obtain ⟨hM1, hB1, hG1⟩ := hI.1
    have zd6 := hR.pred 6 (by kernel_rfl)
    have zF6 : V 6 = .bool true := hI.2 6 zd6 rfl
    have zf6 := zF6; clear zF6
    have ze8 := hR.frame.other (t := 8) (by kernel_rfl) rfl
    have ze33 := hR.frame.done (t := 33) (j := 6) (by kernel_rfl) hR.ok zd6
    rw [if_pos (by simp [Region.wanted, yielded, ze33, zf6])]
    go_simp
    exact hK (.pointer (some ⟨g3 + 1 + 1 + 1, 2, none⟩)) _ (hI.next hR (by kernel_rfl) (Mod.refl _ _) (PB.quiet hI.1 (Mod.refl _ _) (HGs.out D 7 zw1 zw1 (hI.1).g (Mod.refl _ _))) (upd_same V 7 _))
   ·intro D V zw1 a hR hI K hK
    obtain ⟨hM1, hB1, hG1⟩ := hI.1
    have zd7 := hR.pred 7 (by kernel_rfl)
    have zF7 : V 7 = .pointer (some ⟨g3 + 1 + 1 + 1, 2, none⟩) := hI.2 7 zd7 rfl
    have zf7 := zF7; clear zF7
    have zd6 := hR.pred 6 (by kernel_rfl)
    have zF6 : V 6 = .bool true := hI.2 6 zd6 rfl
    have zf6 := zF6; clear zF6
    have ze34 := hR.frame.done (t := 34) (j := 7) (by kernel_rfl) hR.ok zd7
    have zx := hG1.1.cell 2
    simp at zx
    have ze33 := hR.frame.done (t := 33) (j := 6) (by kernel_rfl) hR.ok zd6
    rw [if_pos (by simp [Region.wanted, yielded, ze33, zf6])]
    go_simp
    exact hK (.string ⟨xrev.toArray⟩) _ (hI.next hR (by kernel_rfl) (Mod.refl _ _) (PB.quiet hI.1 (Mod.refl _ _) (HGs.out D 8 zw1 zw1 (hI.1).g (Mod.refl _ _))) (upd_same V 8 _))
   ·intro D V zw1 a hR hI K hK
    obtain ⟨hM1, hB1, hG1⟩ := hI.1
    have zd6 := hR.pred 6 (by kernel_rfl)
    have zF6 : V 6 = .bool true := hI.2 6 zd6 rfl
    have zf6 := zF6; clear zF6
    have ze9 := hR.frame.other (t := 9) (by kernel_rfl) rfl
    have ze33 := hR.frame.done (t := 33) (j := 6) (by kernel_rfl) hR.ok zd6
    rw [if_pos (by simp [Region.wanted, yielded, ze33, zf6])]
    go_simp
    exact hK (.pointer (some ⟨g3 + 1 + 1 + 1 + 1, 2, none⟩)) _ (hI.next hR (by kernel_rfl) (Mod.refl _ _) (PB.quiet hI.1 (Mod.refl _ _) (HGs.out D 9 zw1 zw1 (hI.1).g (Mod.refl _ _))) (upd_same V 9 _))
   ·intro D V zw1 a hR hI K hK
    obtain ⟨hM1, hB1, hG1⟩ := hI.1
    have zd9 := hR.pred 9 (by kernel_rfl)
    have zF9 : V 9 = .pointer (some ⟨g3 + 1 + 1 + 1 + 1, 2, none⟩) := hI.2 9 zd9 rfl
    have zf9 := zF9; clear zF9
    have zd6 := hR.pred 6 (by kernel_rfl)
    have zF6 : V 6 = .bool true := hI.2 6 zd6 rfl
    have zf6 := zF6; clear zF6
    have ze36 := hR.frame.done (t := 36) (j := 9) (by kernel_rfl) hR.ok zd9
    have zx := hG1.2.cell 2
    simp at zx
    have ze33 := hR.frame.done (t := 33) (j := 6) (by kernel_rfl) hR.ok zd6
    rw [if_pos (by simp [Region.wanted, yielded, ze33, zf6])]
    go_simp
    exact hK (.string ⟨xrev.toArray⟩) _ (hI.next hR (by kernel_rfl) (Mod.refl _ _) (PB.quiet hI.1 (Mod.refl _ _) (HGs.out D 10 zw1 zw1 (hI.1).g (Mod.refl _ _))) (upd_same V 10 _))
   ·intro D V zw1 a hR hI K hK
    obtain ⟨hM1, hB1, hG1⟩ := hI.1
    have zd8 := hR.pred 8 (by kernel_rfl)
    have zF8 : V 8 = .string ⟨xrev.toArray⟩ := hI.2 8 zd8 rfl
    have zf8 := zF8; clear zF8
    have zd10 := hR.pred 10 (by kernel_rfl)
    have zF10 : V 10 = .string ⟨xrev.toArray⟩ := hI.2 10 zd10 rfl
    have zf10 := zF10; clear zF10
    have zd6 := hR.pred 6 (by kernel_rfl)
    have zF6 : V 6 = .bool true := hI.2 6 zd6 rfl
    have zf6 := zF6; clear zF6
    have ze35 := hR.frame.done (t := 35) (j := 8) (by kernel_rfl) hR.ok zd8
    have ze37 := hR.frame.done (t := 37) (j := 10) (by kernel_rfl) hR.ok zd10
    have ze33 := hR.frame.done (t := 33) (j := 6) (by kernel_rfl) hR.ok zd6
    rw [if_pos (by simp [Region.wanted, yielded, ze33, zf6])]
    go_simp
    exact hK (.bool false) _ (hI.next hR (by kernel_rfl) (Mod.refl _ _) (PB.quiet hI.1 (Mod.refl _ _) (HGs.out D 11 zw1 zw1 (hI.1).g (Mod.refl _ _))) (upd_same V 11 _))
   ·intro D V zw1 a hR hI K hK
    obtain ⟨hM1, hB1, hG1⟩ := hI.1
    have zd6 := hR.pred 6 (by kernel_rfl)
    have zF6 : V 6 = .bool true := hI.2 6 zd6 rfl
    have zf6 := zF6; clear zF6
    have zd11 := hR.pred 11 (by kernel_rfl)
    have zF11 : V 11 = .bool false := hI.2 11 zd11 rfl
    have zf11 := zF11; clear zF11
    have ze33 := hR.frame.done (t := 33) (j := 6) (by kernel_rfl) hR.ok zd6
    have ze38 := hR.frame.done (t := 38) (j := 11) (by kernel_rfl) hR.ok zd11
    rw [if_pos (by rfl)]
    go_simp
    exact hK (.bool false) _ (hI.next hR (by kernel_rfl) (Mod.refl _ _) (PB.quiet hI.1 (Mod.refl _ _) (HGs.out D 12 zw1 zw1 (hI.1).g (Mod.refl _ _))) (upd_same V 12 _))
   ·intro D V zw1 a hR hI K hK
    obtain ⟨hM1, hB1, hG1⟩ := hI.1
    have zd0 := hR.pred 0 (by kernel_rfl)
    have zF0 : V 0 = .agg #[.int .i64 xno, .int .i64 xat, .string ⟨xrev.toArray⟩, .string ⟨xitem.toArray⟩, .bool xsec, .slice xA xv.length xc] := hI.2 0 zd0 rfl
    have zf0 := zF0; clear zF0
    have ze8 := hR.frame.other (t := 8) (by kernel_rfl) rfl
    have ze27 := hR.frame.done (t := 27) (j := 0) (by kernel_rfl) hR.ok zd0
    rw [if_pos (by rfl)]
    have zx0 := hG1.1.cell 0; have zy0 := hG1.1.frozen 0
    have zx1 := hG1.1.cell 1; have zy1 := hG1.1.frozen 1
    have zx2 := hG1.1.cell 2; have zy2 := hG1.1.frozen 2
    have zx3 := hG1.1.cell 3; have zy3 := hG1.1.frozen 3
    have zx4 := hG1.1.cell 4; have zy4 := hG1.1.frozen 4
    have zx5 := hG1.1.cell 5; have zy5 := hG1.1.frozen 5
    simp at zx0 zx1 zx2 zx3 zx4 zx5
    go_simp
    rw [setCell_same6 hG1.1]
    exact hK undef _ (hI.next hR (by kernel_rfl) (Mod.refl _ _) (PB.quiet hI.1 (Mod.refl _ _) (HGs.out D 13 zw1 zw1 (hI.1).g (Mod.refl _ _))) trivial)
   ·intro D V zw1 a hR hI K hK
    obtain ⟨hM1, hB1, hG1⟩ := hI.1
    have zd1 := hR.pred 1 (by kernel_rfl)
    have zF1 : V 1 = .agg #[.int .i64 yno, .int .i64 yat, .string ⟨xrev.toArray⟩, .string ⟨yitem.toArray⟩, .bool ysec, .slice yA yv.length yc] := hI.2 1 zd1 rfl
    have zf1 := zF1; clear zF1
    have ze9 := hR.frame.other (t := 9) (by kernel_rfl) rfl
    have ze28 := hR.frame.done (t := 28) (j := 1) (by kernel_rfl) hR.ok zd1
    rw [if_pos (by rfl)]
    have zx0 := hG1.2.cell 0; have zy0 := hG1.2.frozen 0
    have zx1 := hG1.2.cell 1; have zy1 := hG1.2.frozen 1
    have zx2 := hG1.2.cell 2; have zy2 := hG1.2.frozen 2
    have zx3 := hG1.2.cell 3; have zy3 := hG1.2.frozen 3
    have zx4 := hG1.2.cell 4; have zy4 := hG1.2.frozen 4
    have zx5 := hG1.2.cell 5; have zy5 := hG1.2.frozen 5
    simp at zx0 zx1 zx2 zx3 zx4 zx5
    go_simp
    rw [setCell_same6 hG1.2]
    exact hK undef _ (hI.next hR (by kernel_rfl) (Mod.refl _ _) (PB.quiet hI.1 (Mod.refl _ _) (HGs.out D 14 zw1 zw1 (hI.1).g (Mod.refl _ _))) trivial)
   ·intro D V zw1 a hR hI K hK
    obtain ⟨hM1, hB1, hG1⟩ := hI.1
    have zd12 := hR.pred 12 (by kernel_rfl)
    have zF12 : V 12 = .bool false := hI.2 12 zd12 rfl
    have zf12 := zF12; clear zF12
    have ze39 := hR.frame.done (t := 39) (j := 12) (by kernel_rfl) hR.ok zd12
    rw [if_pos (by rfl)]
    go_simp
    exact hK (.bool false) _ (hI.next hR (by kernel_rfl) (Mod.refl _ _) (PB.quiet hI.1 (Mod.refl _ _) (HGs.out D 15 zw1 zw1 (hI.1).g (Mod.refl _ _))) (upd_same V 15 _))
  ·intro D V w8 hD hI
   obtain ⟨hM1, hB1, hG1⟩ := hI.1
   have hMx := hM1
   clear hM1
   have hBx := hB1
   clear hB1
   have hGx := hG1
   clear hG1
   have zF0 : V 0 = .agg #[.int .i64 xno, .int .i64 xat, .string ⟨xrev.toArray⟩, .string ⟨xitem.toArray⟩, .bool xsec, .slice xA xv.length xc] := hI.2 0 (hD 0 (by decide)) rfl
   have zf0 := zF0; clear zF0
   have zF1 : V 1 = .agg #[.int .i64 yno, .int .i64 yat, .string ⟨xrev.toArray⟩, .string ⟨yitem.toArray⟩, .bool ysec, .slice yA yv.length yc] := hI.2 1 (hD 1 (by decide)) rfl
   have zf1 := zF1; clear zF1
   have zF2 : V 2 = .bool true := hI.2 2 (hD 2 (by decide)) rfl
   have zf2 := zF2; clear zF2
   have zF3 : V 3 = .bool true := hI.2 3 (hD 3 (by decide)) rfl
   have zf3 := zF3; clear zF3
   have zF4 : V 4 = .bool true := hI.2 4 (hD 4 (by decide)) rfl
   have zf4 := zF4; clear zF4
   have zF5 : V 5 = .bool true := hI.2 5 (hD 5 (by decide)) rfl
   have zf5 := zF5; clear zF5
   have zF6 : V 6 = .bool true := hI.2 6 (hD 6 (by decide)) rfl
   have zf6 := zF6; clear zF6
   have zF7 : V 7 = .pointer (some ⟨g3 + 1 + 1 + 1, 2, none⟩) := hI.2 7 (hD 7 (by decide)) rfl
   have zf7 := zF7; clear zF7
   have zF8 : V 8 = .string ⟨xrev.toArray⟩ := hI.2 8 (hD 8 (by decide)) rfl
   have zf8 := zF8; clear zF8
   have zF9 : V 9 = .pointer (some ⟨g3 + 1 + 1 + 1 + 1, 2, none⟩) := hI.2 9 (hD 9 (by decide)) rfl
   have zf9 := zF9; clear zF9
   have zF10 : V 10 = .string ⟨xrev.toArray⟩ := hI.2 10 (hD 10 (by decide)) rfl
   have zf10 := zF10; clear zF10
   have zF11 : V 11 = .bool false := hI.2 11 (hD 11 (by decide)) rfl
   have zf11 := zF11; clear zF11
   have zF12 : V 12 = .bool false := hI.2 12 (hD 12 (by decide)) rfl
   have zf12 := zF12; clear zF12
   have zF15 : V 15 = .bool false := hI.2 15 (hD 15 (by decide)) rfl
   have zf15 := zF15; clear zF15
   clear hI hD HGs
   simp only [frAll, Act.put, List.setIfInBounds_toArray, List.set_cons_zero, List.set_cons_succ, Nat.zero_add, Nat.reduceAdd, zf0, zf1, zf2, zf3, zf4, zf5, zf6, zf7, zf8, zf9, zf10, zf11, zf12, zf15]
   clear zf0 zf1 zf2 zf3 zf4 zf5 zf6 zf7 zf8 zf9 zf10 zf11 zf12 zf15
   clear V D
   have z1 := hGx.1
   have z2 := hGx.2
   have a0 := z1.cell 0; have a1 := z1.cell 1; have a2 := z1.cell 2; have a3 := z1.cell 3; have a4 := z1.cell 4; have a5 := z1.cell 5; simp at a0 a1 a2 a3 a4 a5
   have e0 := z2.cell 0; have e1 := z2.cell 1; have e2 := z2.cell 2; have e3 := z2.cell 3; have e4 := z2.cell 4; have e5 := z2.cell 5; simp at e0 e1 e2 e3 e4 e5
   have HF := Lib.hid (HP7.out.trans hMx)
   clear z1 z2 hGx hMx hBx
   go_wp2_with fail
   refine bodyPost_ret (v := .tuple #[.agg #[.int .i64 xno, .int .i64 xat, .string ⟨xrev.toArray⟩, .string ⟨xitem.toArray⟩, .bool xsec, .slice xA xv.length xc], .agg #[.int .i64 yno, .int .i64 yat, .string ⟨xrev.toArray⟩, .string ⟨yitem.toArray⟩, .bool ysec, .slice yA yv.length yc], .bool false]) (by simp [results, Tryz.results107, go_sem, a0, a1, a2, a3, a4, a5, e0, e1, e2, e3, e4, e5]) rfl ?_
   exact ⟨by rw [HOK.out, DecVal.eq, DecVal.eq] <;> simp, HF.out⟩
 ·have HOK := Lib.hid (HOK.out.trans (by simp [hrv]) : ok = true)
  have t1 : (xrev != yrev) = true := by simpa using hrv
  have t2 : (xrev == yrev) = false := by simpa using hrv
  clear hrv
  have HGs := Lib.hid (show ∀ (D : Nat → Bool) (zzi : Nat) (zq zq' : World), (fun _ zq => (fun Z => Blk Z (g3 + 1 + 1 + 1) 40 #[.int .i64 xno, .int .i64 xat, .string ⟨xrev.toArray⟩, .string ⟨xitem.toArray⟩, .bool xsec, .slice xA xv.length xc] ∧ Blk Z (g3 + 1 + 1 + 1 + 1) 40 #[.int .i64 yno, .int .i64 yat, .string ⟨yrev.toArray⟩, .string ⟨yitem.toArray⟩, .bool ysec, .slice yA yv.length yc]) zq) D zq → Mod (fun _ => False) zq zq' → (fun _ zq => (fun Z => Blk Z (g3 + 1 + 1 + 1) 40 #[.int .i64 xno, .int .i64 xat, .string ⟨xrev.toArray⟩, .string ⟨xitem.toArray⟩, .bool xsec, .slice xA xv.length xc] ∧ Blk Z (g3 + 1 + 1 + 1 + 1) 40 #[.int .i64 yno, .int .i64 yat, .string ⟨yrev.toArray⟩, .string ⟨yitem.toArray⟩, .bool ysec, .slice yA yv.length yc]) zq) (upd D zzi true) zq' from by intro D zzi zq zq' h hm; (exact ⟨h.1.modp hm, h.2.modp hm⟩))
  refine wp_region_inv (by kernel_rfl) (by kernel_rfl) (InvF (R := Mod (fun _ => False)) [.is (.agg #[.int .i64 xno, .int .i64 xat, .string ⟨xrev.toArray⟩, .string ⟨xitem.toArray⟩, .bool xsec, .slice xA xv.length xc]),
    .is (.agg #[.int .i64 yno, .int .i64 yat, .string ⟨yrev.toArray⟩, .string ⟨yitem.toArray⟩, .bool ysec, .slice yA yv.length yc]),
    .is (.bool true),
    .is (.bool true),
    .is (.bool true),
    .is (.bool true),
    .is (.bool true),
    .is (.pointer (some ⟨g3 + 1 + 1 + 1, 2, none⟩)),
    .is (.string ⟨xrev.toArray⟩),
    .is (.pointer (some ⟨g3 + 1 + 1 + 1 + 1, 2, none⟩)),
    .is (.string ⟨yrev.toArray⟩),
    .is (.bool true),
    .is (.bool true),
    .any,
    .any,
    .is (.bool true)]
    (PB w7 (fun _ => False) w7.heap.size (fun _ zq => (fun Z => Blk Z (g3 + 1 + 1 + 1) 40 #[.int .i64 xno, .int .i64 xat, .string ⟨xrev.toArray⟩, .string ⟨xitem.toArray⟩, .bool xsec, .slice xA xv.length xc] ∧ Blk Z (g3 + 1 + 1 + 1 + 1) 40 #[.int .i64 yno, .int .i64 yat, .string ⟨yrev.toArray⟩, .string ⟨yitem.toArray⟩, .bool ysec, .slice yA yv.length yc]) zq))) (InvF.start (PB.start (Mod.refl _ _) (Nat.le_refl _) (⟨HX7.out.drew, HY7.out.drew⟩))) ?_ ?_
  ·refine .cons ?_ (.cons ?_ (.cons ?_ (.cons ?_ (.cons ?_ (.cons ?_ (.cons ?_ (.cons ?_ (.cons ?_ (.cons ?_ (.cons ?_ (.cons ?_ (.cons ?_ (.cons ?_ (.cons ?_ (.cons ?_ .nil)))))))))))))))
   ·intro D V zw1 a hR hI K hK
    obtain ⟨hM1, hB1, hG1⟩ := hI.1
    have ze8 := hR.frame.other (t := 8) (by kernel_rfl) rfl
    have zx0 := hG1.1.cell 0; have zx1 := hG1.1.cell 1; have zx2 := hG1.1.cell 2; have zx3 := hG1.1.cell 3; have zx4 := hG1.1.cell 4; have zx5 := hG1.1.cell 5
    simp at zx0 zx1 zx2 zx3 zx4 zx5
    rw [if_pos (by rfl)]
    go_simp
    exact hK (.agg #[.int .i64 xno, .int .i64 xat, .string ⟨xrev.toArray⟩, .string ⟨xitem.toArray⟩, .bool xsec, .slice xA xv.length xc]) _ (hI.next hR (by kernel_rfl) (Mod.refl _ _) (PB.quiet hI.1 (Mod.refl _ _) (HGs.out D 0 zw1 zw1 (hI.1).g (Mod.refl _ _))) (upd_same V 0 _))
   ·intro D V zw1 a hR hI K hK
    obtain ⟨hM1, hB1, hG1⟩ := hI.1
    have ze9 := hR.frame.other (t := 9) (by kernel_rfl) rfl
    have zx0 := hG1.2.cell 0; have zx1 := hG1.2.cell 1; have zx2 := hG1.2.cell 2; have zx3 := hG1.2.cell 3; have zx4 := hG1.2.cell 4; have zx5 := hG1.2.cell 5
    simp at zx0 zx1 zx2 zx3 zx4 zx5
    rw [if_pos (by rfl)]
    go_simp
    exact hK (.agg #[.int .i64 yno, .int .i64 yat, .string ⟨yrev.toArray⟩, .string ⟨yitem.toArray⟩, .bool ysec, .slice yA yv.length yc]) _ (hI.next hR (by kernel_rfl) (Mod.refl _ _) (PB.quiet hI.1 (Mod.refl _ _) (HGs.out D 1 zw1 zw1 (hI.1).g (Mod.refl _ _))) (upd_same V 1 _))
   ·intro D V zw1 a hR hI K hK
    obtain ⟨hM1, hB1, hG1⟩ := hI.1
    have ze11 := hR.frame.other (t := 11) (by kernel_rfl) rfl
    rw [if_pos (by rfl)]
    go_simp
    exact hK (.bool true) _ (hI.next hR (by kernel_rfl) (Mod.refl _ _) (PB.quiet hI.1 (Mod.refl _ _) (HGs.out D 2 zw1 zw1 (hI.1).g (Mod.refl _ _))) (upd_same V 2 _))
   ·intro D V zw1 a hR hI K hK
    obtain ⟨hM1, hB1, hG1⟩ := hI.1
    have zd2 := hR.pred 2 (by kernel_rfl)
    have zF2 : V 2 = .bool true := hI.2 2 zd2 rfl
    have zf2 := zF2; clear zF2
    have ze29 := hR.frame.done (t := 29) (j := 2) (by kernel_rfl) hR.ok zd2
    rw [if_pos (by rfl)]
    go_simp
    exact hK (.bool true) _ (hI.next hR (by kernel_rfl) (Mod.refl _ _) (PB.quiet hI.1 (Mod.refl _ _) (HGs.out D 3 zw1 zw1 (hI.1).g (Mod.refl _ _))) (upd_same V 3 _))
   ·intro D V zw1 a hR hI K hK
    obtain ⟨hM1, hB1, hG1⟩ := hI.1
    have zd3 := hR.pred 3 (by kernel_rfl)
    have zF3 : V 3 = .bool true := hI.2 3 zd3 rfl
    have zf3 := zF3; clear zF3
    have ze12 := hR.frame.other (t := 12) (by kernel_rfl) rfl
    have ze30 := hR.frame.done (t := 30) (j := 3) (by kernel_rfl) hR.ok zd3
    rw [if_pos (by simp [Region.wanted, yielded, ze30, zf3])]
    go_simp
    exact hK (.bool true) _ (hI.next hR (by kernel_rfl) (Mod.refl _ _) (PB.quiet hI.1 (Mod.refl _ _) (HGs.out D 4 zw1 zw1 (hI.1).g (Mod.refl _ _))) (upd_same V 4 _))
   ·intro D V zw1 a hR hI K hK
    obtain ⟨hM1, hB1, hG1⟩ := hI.1
    have zd3 := hR.pred 3 (by kernel_rfl)
    have zF3 : V 3 = .bool true := hI.2 3 zd3 rfl
    have zf3 := zF3; clear zF3
    have zd4 := hR.pred 4 (by kernel_rfl)
    have zF4 : V 4 = .bool true := hI.2 4 zd4 rfl
    have zf4 := zF4; clear zF4
    have ze30 := hR.frame.done (t := 30) (j := 3) (by kernel_rfl) hR.ok zd3
    have ze31 := hR.frame.done (t := 31) (j := 4) (by kernel_rfl) hR.ok zd4
    rw [if_pos (by rfl)]
    go_simp
    exact hK (.bool true) _ (hI.next hR (by kernel_rfl) (Mod.refl _ _) (PB.quiet hI.1 (Mod.refl _ _) (HGs.out D 5 zw1 zw1 (hI.1).g (Mod.refl _ _))) (upd_same V 5 _))
   ·intro D V zw1 a hR hI K hK
    obtain ⟨hM1, hB1, hG1⟩ := hI.1
    have zd5 := hR.pred 5 (by kernel_rfl)
    have zF5 : V 5 = .bool true := hI.2 5 zd5 rfl
    have zf5 := zF5; clear zF5
    have ze32 := hR.frame.done (t := 32) (j := 5) (by kernel_rfl) hR.ok zd5
    rw [if_pos (by rfl)]
    go_simp
    exact hK (.bool true) _ (hI.next hR (by kernel_rfl) (Mod.refl _ _) (PB.quiet hI.1 (Mod.refl _ _) (HGs.out D 6 zw1 zw1 (hI.1).g (Mod.refl _ _))) (upd_same V 6 _))
   ·intro D V zw1 a hR hI K hK
    obtain ⟨hM1, hB1, hG1⟩ := hI.1
    have zd6 := hR.pred 6 (by kernel_rfl)
    have zF6 : V 6 = .bool true := hI.2 6 zd6 rfl
    have zf6 := zF6; clear zF6
    have ze8 := hR.frame.other (t := 8) (by kernel_rfl) rfl
    have ze33 := hR.frame.done (t := 33) (j := 6) (by kernel_rfl) hR.ok zd6
    rw [if_pos (by simp [Region.wanted, yielded, ze33, zf6])]
    go_simp
    exact hK (.pointer (some ⟨g3 + 1 + 1 + 1, 2, none⟩)) _ (hI.next hR (by kernel_rfl) (Mod.refl _ _) (PB.quiet hI.1 (Mod.refl _ _) (HGs.out D 7 zw1 zw1 (hI.1).g (Mod.refl _ _))) (upd_same V 7 _))
   ·intro D V zw1 a hR hI K hK
    obtain ⟨hM1, hB1, hG1⟩ := hI.1
    have zd7 := hR.pred 7 (by kernel_rfl)
    have zF7 : V 7 = .pointer (some ⟨g3 + 1 + 1 + 1, 2, none⟩) := hI.2 7 zd7 rfl
    have zf7 := zF7; clear zF7
    have zd6 := hR.pred 6 (by kernel_rfl)
    have zF6 : V 6 = .bool true := hI.2 6 zd6 rfl
    have zf6 := zF6; clear zF6
    have ze34 := hR.frame.done (t := 34) (j := 7) (by kernel_rfl) hR.ok zd7
    have zx := hG1.1.cell 2
    simp at zx
    have ze33 := hR.frame.done (t := 33) (j := 6) (by kernel_rfl) hR.ok zd6
    rw [if_pos (by simp [Region.wanted, yielded, ze33, zf6])]
    go_simp
    exact hK (.string ⟨xrev.toArray⟩) _ (hI.next hR (by kernel_rfl) (Mod.refl _ _) (PB.quiet hI.1 (Mod.refl _ _) (HGs.out D 8 zw1 zw1 (hI.1).g (Mod.refl _ _))) (upd_same V 8 _))
   ·intro D V zw1 a hR hI K hK
    obtain ⟨hM1, hB1, hG1⟩ := hI.1
    have zd6 := hR.pred 6 (by kernel_rfl)
    have zF6 : V 6 = .bool true := hI.2 6 zd6 rfl
    have zf6 := zF6; clear zF6
    have ze9 := hR.frame.other (t := 9) (by kernel_rfl) rfl
    have ze33 := hR.frame.done (t := 33) (j := 6) (by kernel_rfl) hR.ok zd6
    rw [if_pos (by simp [Region.wanted, yielded, ze33, zf6])]
    go_simp
    exact hK (.pointer (some ⟨g3 + 1 + 1 + 1 + 1, 2, none⟩)) _ (hI.next hR (by kernel_rfl) (Mod.refl _ _) (PB.quiet hI.1 (Mod.refl _ _) (HGs.out D 9 zw1 zw1 (hI.1).g (Mod.refl _ _))) (upd_same V 9 _))
   ·intro D V zw1 a hR hI K hK
    obtain ⟨hM1, hB1, hG1⟩ := hI.1
    have zd9 := hR.pred 9 (by kernel_rfl)
    have zF9 : V 9 = .pointer (some ⟨g3 + 1 + 1 + 1 + 1, 2, none⟩) := hI.2 9 zd9 rfl
    have zf9 := zF9; clear zF9
    have zd6 := hR.pred 6 (by kernel_rfl)
    have zF6 : V 6 = .bool true := hI.2 6 zd6 rfl
    have zf6 := zF6; clear zF6
    have ze36 := hR.frame.done (t := 36) (j := 9) (by kernel_rfl) hR.ok zd9
    have zx := hG1.2.cell 2
    simp at zx
    have ze33 := hR.frame.done (t := 33) (j := 6) (by kernel_rfl) hR.ok zd6
    rw [if_pos (by simp [Region.wanted, yielded, ze33, zf6])]
    go_simp
    exact hK (.string ⟨yrev.toArray⟩) _ (hI.next hR (by kernel_rfl) (Mod.refl _ _) (PB.quiet hI.1 (Mod.refl _ _) (HGs.out D 10 zw1 zw1 (hI.1).g (Mod.refl _ _))) (upd_same V 10 _))
   ·intro D V zw1 a hR hI K hK
    obtain ⟨hM1, hB1, hG1⟩ := hI.1
    have zd8 := hR.pred 8 (by kernel_rfl)
    have zF8 : V 8 = .string ⟨xrev.toArray⟩ := hI.2 8 zd8 rfl
    have zf8 := zF8; clear zF8
    have zd10 := hR.pred 10 (by kernel_rfl)
    have zF10 : V 10 = .string ⟨yrev.toArray⟩ := hI.2 10 zd10 rfl
    have zf10 := zF10; clear zF10
    have zd6 := hR.pred 6 (by kernel_rfl)
    have zF6 : V 6 = .bool true := hI.2 6 zd6 rfl
    have zf6 := zF6; clear zF6
    have ze35 := hR.frame.done (t := 35) (j := 8) (by kernel_rfl) hR.ok zd8
    have ze37 := hR.frame.done (t := 37) (j := 10) (by kernel_rfl) hR.ok zd10
    have ze33 := hR.frame.done (t := 33) (j := 6) (by kernel_rfl) hR.ok zd6
    rw [if_pos (by simp [Region.wanted, yielded, ze33, zf6])]
    go_simp
    exact hK (.bool true) _ (hI.next hR (by kernel_rfl) (Mod.refl _ _) (PB.quiet hI.1 (Mod.refl _ _) (HGs.out D 11 zw1 zw1 (hI.1).g (Mod.refl _ _))) (upd_same V 11 _))
   ·intro D V zw1 a hR hI K hK
    obtain ⟨hM1, hB1, hG1⟩ := hI.1
    have zd6 := hR.pred 6 (by kernel_rfl)
    have zF6 : V 6 = .bool true := hI.2 6 zd6 rfl
    have zf6 := zF6; clear zF6
    have zd11 := hR.pred 11 (by kernel_rfl)
    have zF11 : V 11 = .bool true := hI.2 11 zd11 rfl
    have zf11 := zF11; clear zF11
    have ze33 := hR.frame.done (t := 33) (j := 6) (by kernel_rfl) hR.ok zd6
    have ze38 := hR.frame.done (t := 38) (j := 11) (by kernel_rfl) hR.ok zd11
    rw [if_pos (by rfl)]
    go_simp
    exact hK (.bool true) _ (hI.next hR (by kernel_rfl) (Mod.refl _ _) (PB.quiet hI.1 (Mod.refl _ _) (HGs.out D 12 zw1 zw1 (hI.1).g (Mod.refl _ _))) (upd_same V 12 _))
   ·intro D V zw1 a hR hI K hK
    obtain ⟨hM1, hB1, hG1⟩ := hI.1
    have zd0 := hR.pred 0 (by kernel_rfl)
    have zF0 : V 0 = .agg #[.int .i64 xno, .int .i64 xat, .string ⟨xrev.toArray⟩, .string ⟨xitem.toArray⟩, .bool xsec, .slice xA xv.length xc] := hI.2 0 zd0 rfl
    have zf0 := zF0; clear zF0
    have ze8 := hR.frame.other (t := 8) (by kernel_rfl) rfl
    have ze27 := hR.frame.done (t := 27) (j := 0) (by kernel_rfl) hR.ok zd0
    rw [if_pos (by rfl)]
    have zx0 := hG1.1.cell 0; have zy0 := hG1.1.frozen 0
    have zx1 := hG1.1.cell 1; have zy1 := hG1.1.frozen 1
    have zx2 := hG1.1.cell 2; have zy2 := hG1.1.frozen 2
    have zx3 := hG1.1.cell 3; have zy3 := hG1.1.frozen 3
    have zx4 := hG1.1.cell 4; have zy4 := hG1.1.frozen 4
    have zx5 := hG1.1.cell 5; have zy5 := hG1.1.frozen 5
    simp at zx0 zx1 zx2 zx3 zx4 zx5
    go_simp
    rw [setCell_same6 hG1.1]
    exact hK undef _ (hI.next hR (by kernel_rfl) (Mod.refl _ _) (PB.quiet hI.1 (Mod.refl _ _) (HGs.out D 13 zw1 zw1 (hI.1).g (Mod.refl _ _))) trivial)
   ·intro D V zw1 a hR hI K hK
    obtain ⟨hM1, hB1, hG1⟩ := hI.1
    have zd1 := hR.pred 1 (by kernel_rfl)
    have zF1 : V 1 = .agg #[.int .i64 yno, .int .i64 yat, .string ⟨yrev.toArray⟩, .string ⟨yitem.toArray⟩, .bool ysec, .slice yA yv.length yc] := hI.2 1 zd1 rfl
    have zf1 := zF1; clear zF1
    have ze9 := hR.frame.other (t := 9) (by kernel_rfl) rfl
    have ze28 := hR.frame.done (t := 28) (j := 1) (by kernel_rfl) hR.ok zd1
    rw [if_pos (by rfl)]
    have zx0 := hG1.2.cell 0; have zy0 := hG1.2.frozen 0
    have zx1 := hG1.2.cell 1; have zy1 := hG1.2.frozen 1
    have zx2 := hG1.2.cell 2; have zy2 := hG1.2.frozen 2
    have zx3 := hG1.2.cell 3; have zy3 := hG1.2.frozen 3
    have zx4 := hG1.2.cell 4; have zy4 := hG1.2.frozen 4
    have zx5 := hG1.2.cell 5; have zy5 := hG1.2.frozen 5
    simp at zx0 zx1 zx2 zx3 zx4 zx5
    go_simp
    rw [setCell_same6 hG1.2]
    exact hK undef _ (hI.next hR (by kernel_rfl) (Mod.refl _ _) (PB.quiet hI.1 (Mod.refl _ _) (HGs.out D 14 zw1 zw1 (hI.1).g (Mod.refl _ _))) trivial)
   ·intro D V zw1 a hR hI K hK
    obtain ⟨hM1, hB1, hG1⟩ := hI.1
    have zd12 := hR.pred 12 (by kernel_rfl)
    have zF12 : V 12 = .bool true := hI.2 12 zd12 rfl
    have zf12 := zF12; clear zF12
    have ze39 := hR.frame.done (t := 39) (j := 12) (by kernel_rfl) hR.ok zd12
    rw [if_pos (by rfl)]
    go_simp
    exact hK (.bool true) _ (hI.next hR (by kernel_rfl) (Mod.refl _ _) (PB.quiet hI.1 (Mod.refl _ _) (HGs.out D 15 zw1 zw1 (hI.1).g (Mod.refl _ _))) (upd_same V 15 _))
  ·intro D V w8 hD hI
   obtain ⟨hM1, hB1, hG1⟩ := hI.1
   have hMx := hM1
   clear hM1
   have hBx := hB1
   clear hB1
   have hGx := hG1
   clear hG1
   have zF0 : V 0 = .agg #[.int .i64 xno, .int .i64 xat, .string ⟨xrev.toArray⟩, .string ⟨xitem.toArray⟩, .bool xsec, .slice xA xv.length xc] := hI.2 0 (hD 0 (by decide)) rfl
   have zf0 := zF0; clear zF0
   have zF1 : V 1 = .agg #[.int .i64 yno, .int .i64 yat, .string ⟨yrev.toArray⟩, .string ⟨yitem.toArray⟩, .bool ysec, .slice yA yv.length yc] := hI.2 1 (hD 1 (by decide)) rfl
   have zf1 := zF1; clear zF1
   have zF2 : V 2 = .bool true := hI.2 2 (hD 2 (by decide)) rfl
   have zf2 := zF2; clear zF2
   have zF3 : V 3 = .bool true := hI.2 3 (hD 3 (by decide)) rfl
   have zf3 := zF3; clear zF3
   have zF4 : V 4 = .bool true := hI.2 4 (hD 4 (by decide)) rfl
   have zf4 := zF4; clear zF4
   have zF5 : V 5 = .bool true := hI.2 5 (hD 5 (by decide)) rfl
   have zf5 := zF5; clear zF5
   have zF6 : V 6 = .bool true := hI.2 6 (hD 6 (by decide)) rfl
   have zf6 := zF6; clear zF6
   have zF7 : V 7 = .pointer (some ⟨g3 + 1 + 1 + 1, 2, none⟩) := hI.2 7 (hD 7 (by decide)) rfl
   have zf7 := zF7; clear zF7
   have zF8 : V 8 = .string ⟨xrev.toArray⟩ := hI.2 8 (hD 8 (by decide)) rfl
   have zf8 := zF8; clear zF8
   have zF9 : V 9 = .pointer (some ⟨g3 + 1 + 1 + 1 + 1, 2, none⟩) := hI.2 9 (hD 9 (by decide)) rfl
   have zf9 := zF9; clear zF9
   have zF10 : V 10 = .string ⟨yrev.toArray⟩ := hI.2 10 (hD 10 (by decide)) rfl
   have zf10 := zF10; clear zF10
   have zF11 : V 11 = .bool true := hI.2 11 (hD 11 (by decide)) rfl
   have zf11 := zF11; clear zF11
   have zF12 : V 12 = .bool true := hI.2 12 (hD 12 (by decide)) rfl
   have zf12 := zF12; clear zF12
   have zF15 : V 15 = .bool true := hI.2 15 (hD 15 (by decide)) rfl
   have zf15 := zF15; clear zF15
   clear hI hD HGs
   simp only [frAll, Act.put, List.setIfInBounds_toArray, List.set_cons_zero, List.set_cons_succ, Nat.zero_add, Nat.reduceAdd, zf0, zf1, zf2, zf3, zf4, zf5, zf6, zf7, zf8, zf9, zf10, zf11, zf12, zf15]
   clear zf0 zf1 zf2 zf3 zf4 zf5 zf6 zf7 zf8 zf9 zf10 zf11 zf12 zf15
   clear V D
   have z1 := hGx.1
   have z2 := hGx.2
   have a0 := z1.cell 0; have a1 := z1.cell 1; have a2 := z1.cell 2; have a3 := z1.cell 3; have a4 := z1.cell 4; have a5 := z1.cell 5; simp at a0 a1 a2 a3 a4 a5
   have e0 := z2.cell 0; have e1 := z2.cell 1; have e2 := z2.cell 2; have e3 := z2.cell 3; have e4 := z2.cell 4; have e5 := z2.cell 5; simp at e0 e1 e2 e3 e4 e5
   have HF := Lib.hid (HP7.out.trans hMx)
   clear z1 z2 hGx hMx hBx
   go_wp2_with fail
   refine bodyPost_ret (v := .tuple #[.agg #[.int .i64 xno, .int .i64 xat, .string ⟨xrev.toArray⟩, .string ⟨xitem.toArray⟩, .bool xsec, .slice xA xv.length xc], .agg #[.int .i64 yno, .int .i64 yat, .string ⟨yrev.toArray⟩, .string ⟨yitem.toArray⟩, .bool ysec, .slice yA yv.length yc], .bool true]) (by simp [results, Tryz.results107, go_sem, a0, a1, a2, a3, a4, a5, e0, e1, e2, e3, e4, e5]) rfl ?_
   exact ⟨by rw [HOK.out, DecVal.eq, DecVal.eq] <;> simp, HF.out⟩

end Go.Proofs.YtkkndblcejmmjaaGreatDoor
