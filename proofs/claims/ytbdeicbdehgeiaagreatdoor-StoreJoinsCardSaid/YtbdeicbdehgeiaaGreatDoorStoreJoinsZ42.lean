/- Texts of the proof of StoreJoins, put together: StoB, StoC, StoD, StoE, StoF, StoG, StoH, StoJ. -/
import Derived.Test.YtbdeicbdehgeiaaGreatDoorStoreJoinsZ14
import Derived.Test.YtbdeicbdehgeiaaGreatDoorStoreJoinsZ34
import Derived.Test.YtbdeicbdehgeiaaGreatDoorStoreJoinsZ37
import Derived.Test.YtbdeicbdehgeiaaGreatDoorStoreJoinsZ38
import Derived.Test.YtbdeicbdehgeiaaGreatDoorStoreJoinsZ41
import Derived.Shelf.SlicesE.Clone
import Derived.Deep.DeepCutAuto
import Derived.Deep.AppendLies
/- Stores: the items that are complete, or are not (the program's). -/
namespace Go.Proofs.YtbdeicbdehgeiaaGreatDoor
set_option linter.unusedVariables false
set_option linter.unusedSimpArgs false
open Go.RowKit Go.Sort


set_option maxRecDepth 100000 in
set_option maxHeartbeats 1000000 in
theorem someC_calls (x y : Itm) (W : World) : Calls Tryz.prog 137 #[.agg (itC x).toArray, .agg (itC y).toArray] W (GrowPost W (cfBy (fun z : Itm => z.id) x y)) := by
  have H := fun W' => Any.strings_Compare Tryz.cmpStrK ⟨x.id.toArray⟩ ⟨y.id.toArray⟩ W'
  change ∀ W', Calls Tryz.prog 78 #[.string ⟨x.id.toArray⟩, .string ⟨y.id.toArray⟩] W' (fun e w' => e = .returned (.int .i64 (cfBy (fun z : Itm => z.id) x y)) ∧ w' = W') at H
  generalize cfBy (fun z : Itm => z.id) x y = c at *
  have HC := Lib.hid H
  clear H
  unfold itC
  go_enter Tryz.func137, Tryz.ntmps137
  go_wp2_with fail
  refine (HC.out _).mono ?_
  rintro e w' ⟨rfl, rfl⟩
  go_wp2_with fail
  go_ret
  exact ⟨rfl, 0, _, by rw [alloc_eq_grow, alloc_eq_grow, grow_grow]; rfl⟩


set_option maxRecDepth 100000 in
set_option maxHeartbeats 1000000 in
theorem sortedC_calls (x y : Itm) (W : World) : Calls Tryz.prog 135 #[.agg (itC x).toArray, .agg (itC y).toArray] W (GrowPost W (cfBy (fun z : Itm => z.id) x y)) := by
  have H := fun W' => Any.strings_Compare Tryz.cmpStrK ⟨x.id.toArray⟩ ⟨y.id.toArray⟩ W'
  change ∀ W', Calls Tryz.prog 78 #[.string ⟨x.id.toArray⟩, .string ⟨y.id.toArray⟩] W' (fun e w' => e = .returned (.int .i64 (cfBy (fun z : Itm => z.id) x y)) ∧ w' = W') at H
  generalize cfBy (fun z : Itm => z.id) x y = c at *
  have HC := Lib.hid H
  clear H
  unfold itC
  go_enter Tryz.func135, Tryz.ntmps135
  go_wp2_with fail
  refine (HC.out _).mono ?_
  rintro e w' ⟨rfl, rfl⟩
  go_wp2_with fail
  go_ret
  exact ⟨rfl, 0, _, by rw [alloc_eq_grow, alloc_eq_grow, grow_grow]; rfl⟩


/-- What a range over a store's items has collected. -/
def SoIn (l : List Itm) (want : Bool) (left : Str → Bool) (out : List Itm) : Prop := (out.map fun z => z.id).Nodup ∧ ∀ y, y ∈ out ↔ ∃ i, ∃ h : i < l.length, y = l[i] ∧ left l[i].id = false ∧ cplB l i = want
theorem SoIn.start (l : List Itm) (hd : Dst l) (want : Bool) : SoIn l want (fun s => (byF l s).isSome) [] := by
  refine ⟨by simp, fun y => ⟨fun h => absurd h (by simp), ?_⟩⟩
  rintro ⟨i, h, _, h2, _⟩
  have : (byF l l[i].id).isSome = true := (byF_has hd).2 (List.mem_map.2 ⟨_, List.getElem_mem h, rfl⟩)
  have h3 : (byF l l[i].id).isSome = false := h2
  rw [this] at h3
  cases h3
theorem SoIn.step {l : List Itm} (hd : Dst l) {want : Bool} {left : Str → Bool} {out : List Itm} (h : SoIn l want left out) {i : Nat} (hi : i < l.length) (hs : left l[i].id = true) : SoIn l want (fun x => left x && !decide (x = l[i].id)) (if cplB l i = want then out ++ [l[i]] else out) := by
  obtain ⟨h1, h2⟩ := h
  have hother : ∀ j (hj : j < l.length), ((left l[j].id && !decide (l[j].id = l[i].id)) = false ↔ left l[j].id = false ∨ j = i) := fun j hj => by
    by_cases hji : j = i
    · subst hji; simp
    · have hne : l[j].id ≠ l[i].id := fun he => hji (id_inj hd hj hi he)
      simp [hne, hji]
  split
  · rename_i hc
    refine ⟨?_, fun y => ?_⟩
    · rw [List.map_append, List.nodup_append]
      refine ⟨h1, by simp, ?_⟩
      intro a ha c hc2 hac
      obtain ⟨y, hy, rfl⟩ := List.mem_map.1 ha
      simp at hc2
      obtain ⟨j, hj, rfl, hlj, _⟩ := (h2 y).1 hy
      rw [hac, hc2, hs] at hlj
      cases hlj
    · rw [List.mem_append, h2, List.mem_singleton]
      constructor
      · rintro (⟨j, hj, rfl, hlj, hcj⟩ | rfl)
        · exact ⟨j, hj, rfl, (hother j hj).2 (.inl hlj), hcj⟩
        · exact ⟨i, hi, rfl, (hother i hi).2 (.inr rfl), hc⟩
      · rintro ⟨j, hj, rfl, hlj, hcj⟩
        rcases (hother j hj).1 hlj with hlj | rfl
        · exact .inl ⟨j, hj, rfl, hlj, hcj⟩
        · exact .inr rfl
  · rename_i hc
    refine ⟨h1, fun y => ?_⟩
    rw [h2]
    constructor
    · rintro ⟨j, hj, rfl, hlj, hcj⟩
      exact ⟨j, hj, rfl, (hother j hj).2 (.inl hlj), hcj⟩
    · rintro ⟨j, hj, rfl, hlj, hcj⟩
      rcases (hother j hj).1 hlj with hlj | rfl
      · exact ⟨j, hj, rfl, hlj, hcj⟩
      · exact absurd hcj hc
/-- An entry of the map of items. -/
theorem byF_at {l : List Itm} {s : Str} {v : Value} (h : byF l s = some v) : ∃ i, ∃ hi : i < l.length, l[i].id = s ∧ v = itA l[i] := by
  unfold byF at h
  cases hf : fnd l s with
  | none => rw [hf] at h; cases h
  | some x =>
    rw [hf] at h
    obtain ⟨h1, h2⟩ := atS_mem hf
    obtain ⟨i, hi, rfl⟩ := List.getElem_of_mem h1
    exact ⟨i, hi, h2, by simpa using h.symm⟩
/-- A row of cells is no iterator. -/
theorem own_iter {w : World} {base n size b r cnt : Nat} {e : TypeId} {v : Value} {xs : List Value} {f : Str → Option Value} {left : Str → Bool} (h : w.ownsRow base e size v n xs) (hr : MapRg w b r f left cnt) : ¬ v.ownBlock = some r := fun hv => by
  obtain ⟨arr, ha⟩ := own_heap h hv
  exact hr.iter.1 _ _ _ ha
def StsPost (w : World) (xs : List Itm) (e : Ending) (w' : World) : Prop := ∃ (A : Option Addr) (n c : Nat), e = .returned (.slice A n c) ∧ Its w' (.slice A n c) xs ∧ Pure w w'
def SoRel (w : World) (base b r n0 : Nat) (l : List Itm) (want : Bool) (gk : Nat) (x : Value) (wr : World) : Prop :=
  ∃ (left : Str → Bool) (out : List Itm) (A : Option Addr) (cap : Nat), x = .slice A out.length cap ∧ MapRg wr b r (byF l) left gk ∧ out.length + gk ≤ n0 ∧ SoIn l want left out ∧ wr.ownsRow base 59 7 (.slice A out.length cap) out.length (itV out) ∧ Pure w wr ∧ base ≤ wr.heap.size
/-- A store of the program: its map of items. -/
def StoAt (w : World) (gx b : Nat) (l : List Itm) : Prop := Blk w gx 131 #[.map (some b)] ∧ MapX w b l.length (byF l)
theorem StoAt.pure {w w' : World} {gx b : Nat} {l : List Itm} (h : StoAt w gx b l) (hm : Pure w w') : StoAt w' gx b l := ⟨h.1.modp hm, h.2.pure hm⟩

set_option maxRecDepth 100000 in
set_option maxHeartbeats 4000000 in
theorem stsome_calls (w : World) (gx b : Nat) (l : List Itm) (want : Bool) (hS : StoAt w gx b l) (hz : ∀ x ∈ l, ItB x) (hl : l.length ≤ 2000) (hr : Rise l) (hno : ∀ i, i < l.length → lpB l i = false) :
    Calls Tryz.prog 90 #[.pointer (some ⟨gx, 0, none⟩), .bool want] w (StsPost w (selC l want l.length)) := by
  obtain ⟨i0, hi0, hz0, hz1, hz2⟩ := info_parts info_item7
  have hd := hr.dst
  obtain ⟨w1, m, hrun, hrg, hmn, hp1, hs1⟩ := hS.2.s.range (t := 92) (e := 59) Tryz.underlying92
  have HCP : Hid (∀ W, Pure w W → ∀ i (hi : i < l.length), Calls Tryz.prog 136 #[.pointer (some ⟨gx, 0, none⟩), itA l[i]] W (BoolPost W (cplB l i))) :=
    Lib.hid (fun W h i hi => pcomplete_calls W gx b l l[i] i (List.getElem?_eq_getElem hi) (hS.1.modp h) (hS.2.pure h) hz hd hno (by omega))
  have HST := Lib.hid (SoIn.start l hd want)
  have HSP := Lib.hid (fun (left : Str → Bool) (out : List Itm) h i hi hs => SoIn.step (l := l) hd (want := want) (left := left) (out := out) h (i := i) hi hs)
  have HUN := Lib.hid (fun ys h1 h2 => selC_unique hr (want := want) (ys := ys) h1 h2)
  have HRG := Lib.hid hrg
  have hB := hS.1
  have d0 := hB.cell 0
  simp at d0
  have hbl := hS.2.lt
  have HP1 := Lib.hid hp1
  have HSZ := Lib.hid hs1
  clear hrg hr hd hno hz hS hB hp1 hs1
  go_enter Tryz.func90, Tryz.ntmps90
  go_wp2_with fail
  obtain ⟨base, hbase⟩ : ∃ base, base = w.heap.size := ⟨_, rfl⟩
  have hb1 := Nat.le_of_eq hbase
  have hb2 := Nat.le_of_eq hbase.symm
  rw [← hbase] at HRG ⊢
  clear hbase
  go_loopg [5] m (fun gk x wr => SoRel w base b base m l want gk x wr)
  case atStart => exact ⟨_, [], none, 0, rfl, HRG.out, by simp, HST.out, World.ownsRow_nil _ _ _ _, HP1.out, by have := HSZ.out; omega⟩
  case round =>
    clear HRG HST HP1 HSZ hrun
    obtain ⟨left, out, Ao, cap, rfl, hrg, hlen, hin, hown, hm, hbs⟩ := hrel
    have hrl := hrg.lt
    rcases hrg.next with ⟨h0, hall, hnx⟩ | ⟨s, v, w2, cnt2, hls, hfs, hnx, hrg2, hlt2, hm2, hsz2, hen⟩
    · subst h0
      have hin2 : (out.map fun z => z.id).Nodup := hin.1
      have hom : ∀ y, y ∈ out ↔ ∃ i, ∃ h : i < l.length, y = l[i] ∧ cplB l i = want := fun y => by
        rw [hin.2]
        constructor
        · rintro ⟨i, h, rfl, _, hc⟩; exact ⟨i, h, rfl, hc⟩
        · rintro ⟨i, h, rfl, hc⟩; exact ⟨i, h, rfl, hall _, hc⟩
      have HOM := Lib.hid hom
      have HSO := Lib.hid (fun (W : World) (h : W.ownsRow base 59 7 (.slice Ao out.length cap) out.length (itV out)) eg => sortItm_calls W base out.length (.slice Ao out.length cap) out 137 h hin2 (by omega) eg (fun x y W => someC_calls x y W))
      have HOW := Lib.hid hown
      have HM := Lib.hid hm
      clear hrg hin hin2 hom hown hm hall HSP HCP
      go_wp2_with fail
      refine (HSO.out _ HOW.out (enters_of Tryz.func137 (by kernel_rfl) rfl)).mono ?_
      rintro e w3 ⟨ys, hp, hup, rfl, hown3, hm3⟩
      have HE : Hid (ys = selC l want l.length) := Lib.hid (HUN.out ys hup (fun x => by rw [hp.mem_iff]; exact HOM.out x))
      have HO3 := Lib.hid (Sl.of_own hown3)
      have HM3 := Lib.hid (HM.out.trans' hm3 (fun i hi hl => by have := own_block HOW.out i hi; omega))
      clear HSO HOW HM hp hup hown3 hm3
      go_wp2_with fail
      go_ret
      exact ⟨Ao, out.length, cap, rfl, by rw [← HE.out]; exact HO3.out, HM3.out⟩
    · obtain ⟨i, hi, hid, rfl⟩ := byF_at hfs
      subst hid
      have HSTEP := Lib.hid (HSP.out left out hin i hi hls)
      have hm22 : Pure w w2 := hm.trans' hm2 (fun k hk hl => by omega)
      have HC := Lib.hid (fun W h => HCP.out W h i hi)
      have hown2 := own_mod hown hm2 (fun g hg hk => by subst hk; exact own_iter hown hrg hg)
      generalize l[i] = x at *
      have HRG2 := Lib.hid hrg2
      have HOW2 := Lib.hid hown2
      have HM2 := Lib.hid hm22
      have HIT := Lib.hid hin
      have hbw2 : base ≤ w2.heap.size := by omega
      have hB2 := Blk.new w2 59 (itQ x)
      have hm23 := hm22.alloc (.cells (itQ x) 59)
      have HC2 := Lib.hid (HC.out _ hm23)
      have hgw := Nat.le_of_eq hsz2.symm
      clear hsz2 HC hrg hin hown hm hm2 hls hfs hrg2 hown2 hm22 HSP HUN HCP
      unfold itA at HC2 hnx hen
      unfold itQ at hB2 HC2 hm23
      have HB3 := Lib.hid hB2
      have HM3 := Lib.hid hm23
      have HRA := Lib.hid (HRG2.out.pure (pure_alloc w2 (.cells (itQ x) 59)))
      have HOA := Lib.hid (own_pure HOW2.out (pure_alloc w2 (.cells (itQ x) 59)))
      have hsz4 : w2.heap.size < (w2.alloc (.cells (itQ x) 59)).heap.size := by simp
      unfold itQ at HRA HOA hsz4
      clear HRG2 HOW2 HM2 hB2 hm23
      go_wp2_with fail
      refine HC2.out.mono ?_
      rintro e w3 ⟨rfl, m3⟩
      have hB3 := HB3.out.modp m3
      have HRG3 := Lib.hid (HRA.out.pure m3)
      have HOW3 := Lib.hid (own_pure HOA.out m3)
      have HM4 := Lib.hid (HM3.out.trans m3)
      have hbw3 : base ≤ w3.heap.size := by have := m3.size; omega
      clear HC2 HRA HOA HM3 HB3 m3
      generalize w2.heap.size = gi at *
      obtain ⟨bc, hbc⟩ : ∃ bc, cplB l i = bc := ⟨_, rfl⟩
      rw [hbc] at HSTEP ⊢
      clear hbc
      by_cases hw : bc = want
      · have hww : (bc == want) = true := by simpa using hw
        rw [if_pos hw] at HSTEP
        have c0 := hB3.cell 0; have cf0 := hB3.frozen 0; have c1 := hB3.cell 1; have cf1 := hB3.frozen 1; have c2 := hB3.cell 2; have cf2 := hB3.frozen 2; have c3 := hB3.cell 3; have cf3 := hB3.frozen 3; have c4 := hB3.cell 4; have cf4 := hB3.frozen 4; have c5 := hB3.cell 5; have cf5 := hB3.frozen 5; have c6 := hB3.cell 6; have cf6 := hB3.frozen 6; simp at c0 c1 c2 c3 c4 c5 c6
        have HXV := Lib.hid (itV_snoc out x)
        unfold itC at HXV
        have own4 := HOW3.out
        have hm4 := HM4.out
        have hol : out.length ≤ 2000 := by omega
        clear HOW3 HM4 hw hB3
        go_wp2_with (at_builtin; refine wpList_append_lies _ rfl _ _ _ rfl base 59 i0 _ 7 96 Tryz.underlying26 hi0 hz0 hz1 hz2 rfl (by omega) (.slice Ao out.length cap) out.length (itV out) rfl (own4.alloc _) ⟨w3.heap.size, 0, none⟩ 1 1 [.string ⟨x.id.toArray⟩, .string ⟨x.cust.toArray⟩, .int .i64 x.kind, .string ⟨x.name.toArray⟩, .int .i64 x.tm, .string ⟨x.par.toArray⟩, .string ⟨x.text.toArray⟩] rfl rfl (World.news_of_block (cs := #[.string ⟨x.id.toArray⟩, .string ⟨x.cust.toArray⟩, .int .i64 x.kind, .string ⟨x.name.toArray⟩, .int .i64 x.tm, .string ⟨x.par.toArray⟩, .string ⟨x.text.toArray⟩]) (t := 59) (fr := (0, 0)) (heap_alloc_new w3 _)) (by simp [Value.oneCell']) (by omega) (by simp [maxLen]; omega) (by omega) (by have := hm4.size; simp; omega) (w3.heap.size + 1) (by simp) ?_; intro g5 cap5 w5 hown5 hgrow hat hlt5)
        go_roundg cnt2
        case measure => exact hlt2
        case rel =>
          have hnb : ∀ k, (Value.slice Ao out.length cap).ownBlock = some k → base ≤ k := fun k hk => own_block own4 k hk
          refine ⟨_, out ++ [x], some ⟨g5, 0, none⟩, cap5, by simp, (HRG3.out.pure (pure_alloc _ _)).mod (mod_grown hgrow) (fun hk => by have := hnb _ hk; omega) (fun hk => own_iter own4 HRG3.out hk), by simp; omega, HSTEP.out, ?_, (hm4.alloc _).grown hgrow (fun k hk => .inr (by have := hnb k hk; omega)), by have := hgrow.size; simp at this; omega⟩
          rw [HXV.out]
          simpa using hown5
      · have hww : (bc == want) = false := by simpa using hw
        rw [if_neg hw] at HSTEP
        clear hw hB3
        go_wp2_with fail
        go_roundg cnt2
        case measure => exact hlt2
        case rel => exact ⟨_, out, Ao, cap, rfl, HRG3.out, by omega, HSTEP.out, HOW3.out, HM4.out, hbw3⟩

end Go.Proofs.YtbdeicbdehgeiaaGreatDoor

/- Stores: Items and Waiting, of both. -/
namespace Go.Proofs.YtbdeicbdehgeiaaGreatDoor
set_option linter.unusedVariables false
set_option linter.unusedSimpArgs false
open Go.RowKit Go.Sort

set_option maxRecDepth 100000 in
set_option maxHeartbeats 1000000 in
theorem stItems_calls (w : World) (gx b : Nat) (l : List Itm) (hS : StoAt w gx b l) (hz : ∀ x ∈ l, ItB x) (hl : l.length ≤ 2000) (hr : Rise l) (hno : ∀ i, i < l.length → lpB l i = false) :
    Calls Tryz.prog 36 #[.pointer (some ⟨gx, 0, none⟩)] w (StsPost w (selC l true l.length)) := by
  have H := Lib.hid (stsome_calls w gx b l true hS hz hl hr hno)
  clear hS hz hr hno
  go_enter Tryz.func36, Tryz.ntmps36
  go_wp2_with fail
  refine H.out.mono ?_
  rintro e w1 ⟨A, n, c, rfl, h, hm⟩
  have HH := Lib.hid h
  clear h
  go_wp2_with fail
  go_ret
  exact ⟨A, n, c, rfl, HH.out, hm⟩
set_option maxRecDepth 100000 in
set_option maxHeartbeats 1000000 in
theorem stWaiting_calls (w : World) (gx b : Nat) (l : List Itm) (hS : StoAt w gx b l) (hz : ∀ x ∈ l, ItB x) (hl : l.length ≤ 2000) (hr : Rise l) (hno : ∀ i, i < l.length → lpB l i = false) :
    Calls Tryz.prog 38 #[.pointer (some ⟨gx, 0, none⟩)] w (StsPost w (selC l false l.length)) := by
  have H := Lib.hid (stsome_calls w gx b l false hS hz hl hr hno)
  clear hS hz hr hno
  go_enter Tryz.func38, Tryz.ntmps38
  go_wp2_with fail
  refine H.out.mono ?_
  rintro e w1 ⟨A, n, c, rfl, h, hm⟩
  have HH := Lib.hid h
  clear h
  go_wp2_with fail
  go_ret
  exact ⟨A, n, c, rfl, HH.out, hm⟩

/-- A slice that begins at its block's first cell, or nil. -/
def Own0 (v : Value) : Prop := v = .slice none 0 0 ∨ ∃ g n c, v = .slice (some ⟨g, 0, none⟩) n c
theorem own_own0 {w : World} {base n size : Nat} {e : TypeId} {v : Value} {xs : List Value} (h : w.ownsRow base e size v n xs) : Own0 v := by
  rcases h.2 with ⟨h1, _⟩ | ⟨g, cap, _, h1, _⟩
  · exact .inl h1
  · exact .inr ⟨g, n, cap, h1⟩
/-- A store of the reference: its items. -/
def RSto (w : World) (gy : Nat) (v : Value) (l : List Itm) : Prop := Blk w gy 75 #[v] ∧ Its w v l ∧ Own0 v
theorem RSto.pure {w w' : World} {gy : Nat} {v : Value} {l : List Itm} (h : RSto w gy v l) (hm : Pure w w') : RSto w' gy v l := ⟨h.1.modp hm, h.2.1.pure hm, h.2.2⟩

set_option maxRecDepth 100000 in
set_option maxHeartbeats 2000000 in
theorem rcomplete_calls (w : World) (v : Value) (l : List Itm) (x : Itm) (i : Nat) (hx : l[i]? = some x) (hv : Its w v l) (hl : l.length ≤ 100000) (hno : ∀ i, i < l.length → lpB l i = false) : Calls Tryz.prog 91 #[v, .int .i64 (i : Int)] w (BoolPost w (cplB l i)) := by
  have HA := Lib.hid (rabove_calls w v l x i hx hv hl)
  have hi : i < l.length := by
    rcases Nat.lt_or_ge i l.length with h | h
    · exact h
    · rw [List.getElem?_eq_none h] at hx; cases hx
  unfold RAbPost at HA
  rw [chn_noloop l hno i hi] at HA
  have hmem : ∀ k ∈ chn l l.length i, k < l.length := fun k hk => by
    obtain ⟨j, _, hj⟩ := (mem_chn l l.length i k).1 hk
    exact stp_lt l hj
  have HQ : Hid (cplB l i = match l[(chn l l.length i).getLast?.getD i]? with | none => true | some x => decide (x.par = [])) := Lib.hid rfl
  generalize chn l l.length i = up at *
  have hul : up.length ≤ l.length ∨ True := .inr trivial
  obtain ⟨A, n, c, rfl, hc1, hc2, hl2, hr⟩ := hv
  have hln : l.length = n := by rw [itV_len] at hl2; omega
  subst hln
  obtain ⟨g, off, rfl, hrow⟩ := hr (by omega)
  have HROW : Hid (∀ W, Pure w W → ∀ q (hq : q < l.length), W.cell? ⟨g, off + q * 7 + 5, none⟩ = some (.string ⟨l[q].par.toArray⟩)) := Lib.hid (fun W h q hq => (item_cells (hrow.mod h id) hq).2.2.2.2.2.1)
  clear hl2 hr hrow hul hx hno
  go_enter Tryz.func91, Tryz.ntmps91
  go_wp2_with fail
  refine HA.out.mono ?_
  rintro e w1 ⟨Au, cu, bl, rfl, hown, m1⟩
  clear HA
  rcases List.eq_nil_or_concat up with e | ⟨r, y, e⟩
  · subst e
    have hq5 := HROW.out w1 m1 i hi
    have HQ2 : Hid (cplB l i = decide (l[i].par = [])) := Lib.hid (by rw [HQ.out]; simp [List.getElem?_eq_getElem hi])
    have i1 : (0 : Int) ≤ (i : Int) := by omega
    have i2 : (i : Int) < (l.length : Int) := by omega
    clear HQ HROW hown hmem
    generalize l[i].par = p at *
    cases hp : p.isEmpty
    · go_wp2_with fail
      go_ret
      refine ⟨?_, m1⟩
      rw [HQ2.out, decide_eq_false (fun h => by rw [h] at hp; cases hp)]
      rfl
    · go_wp2_with fail
      go_ret
      refine ⟨?_, m1⟩
      rw [HQ2.out, decide_eq_true (List.isEmpty_iff.1 hp)]
      rfl
  · rw [List.concat_eq_append] at e
    have hy : y < l.length := hmem y (by rw [e]; simp)
    have hq5 := HROW.out w1 m1 y hy
    have HQ2 : Hid (cplB l i = decide (l[y].par = [])) := Lib.hid (by rw [HQ.out, e]; simp [List.getElem?_eq_getElem hy])
    have hul : up.length = r.length + 1 := by rw [e]; simp
    have hxs : (natsV up)[r.length]? = some (.int .i64 (y : Int)) := by rw [e]; simp [natsV]
    rw [hul] at hown ⊢
    have hA : ∃ gu, Au = some ⟨gu, 0, none⟩ ∧ r.length + 1 ≤ 9223372036854775807 := by
      rcases hown.2 with ⟨h, h0⟩ | ⟨gu, cap', cur, h, _, _, h1, h2, _⟩
      · omega
      · injection h with h3
        exact ⟨gu, h3, by unfold maxLen at h2; omega⟩
    obtain ⟨gu, rfl, hbig⟩ := hA
    have hcl := (hown.cellAt r.length (by omega)).trans hxs
    have e1 : IntKind.i64.wrap ((r.length : Int) + 1 - 1) = (r.length : Int) := by rw [Int.add_sub_cancel]; exact IntWalk.i64_in _ (by omega)
    have j1 : (0 : Int) ≤ (r.length : Int) := by omega
    have j2 : (r.length : Int) < (r.length : Int) + 1 := by omega
    have i1 : (0 : Int) ≤ (y : Int) := by omega
    have i2 : (y : Int) < (l.length : Int) := by omega
    clear HQ HROW hown hmem hxs hul e
    generalize l[y].par = p at *
    cases hp : p.isEmpty
    · go_wp2_with fail
      go_ret
      refine ⟨?_, m1⟩
      rw [HQ2.out, decide_eq_false (fun h => by rw [h] at hp; cases hp)]
      rfl
    · go_wp2_with fail
      go_ret
      refine ⟨?_, m1⟩
      rw [HQ2.out, decide_eq_true (List.isEmpty_iff.1 hp)]
      rfl
def RiRel (w : World) (base : Nat) (l : List Itm) (want : Bool) (gk : Nat) (x i : Value) (wr : World) : Prop :=
  ∃ (k : Nat) (A : Option Addr) (cap : Nat), l.length - k = gk ∧ k ≤ l.length ∧ x = .slice A (selC l want k).length cap ∧ i = .int .i64 (k : Int) ∧ wr.ownsRow base 59 7 (.slice A (selC l want k).length cap) (selC l want k).length (itV (selC l want k)) ∧ Pure w wr ∧ base ≤ wr.heap.size

set_option maxRecDepth 100000 in
set_option maxHeartbeats 4000000 in
theorem rstItems_calls (w : World) (gy : Nat) (A : Option Addr) (n c : Nat) (l : List Itm) (hS : RSto w gy (.slice A n c) l) (hl : l.length ≤ 2000) (hno : ∀ i, i < l.length → lpB l i = false) :
    Calls Tryz.prog 37 #[.pointer (some ⟨gy, 0, none⟩)] w (StsPost w (selC l true l.length)) := by
  obtain ⟨i0, hi0, hz0, hz1, hz2⟩ := info_parts info_item7
  obtain ⟨hB, hv, _⟩ := hS
  have HCP : Hid (∀ W, Pure w W → ∀ i (hi : i < l.length), Calls Tryz.prog 91 #[.slice A n c, .int .i64 (i : Int)] W (BoolPost W (cplB l i))) :=
    Lib.hid (fun W h i hi => rcomplete_calls W _ l l[i] i (List.getElem?_eq_getElem hi) (hv.pure h) (by omega) hno)
  have HBY : Hid (∀ W, Pure w W → Blk W gy 75 #[.slice A n c]) := Lib.hid (fun W h => hB.modp h)
  obtain ⟨_, _, _, hf, hc1, hc2, hl2, hr⟩ := hv
  cases hf
  have hln : l.length = n := by rw [itV_len] at hl2; omega
  subst hln
  have HR := Lib.hid hr
  have d0 := hB.cell 0
  simp at d0
  clear hl2 hr hB hno
  obtain ⟨base, hbase⟩ : ∃ base, base = w.heap.size := ⟨_, rfl⟩
  have hb1 := Nat.le_of_eq hbase
  have hb2 := Nat.le_of_eq hbase.symm
  clear hbase
  go_enter Tryz.func37, Tryz.ntmps37
  go_wp2_with fail
  go_loopg [3, 11] l.length (fun gk x i wr => RiRel w base l true gk x i wr)
  case atStart => exact ⟨0, none, 0, by omega, by omega, rfl, rfl, World.ownsRow_nil _ _ _ _, Mod.refl _ _, by omega⟩
  case round =>
    clear d0
    obtain ⟨k, Ao, cap, rfl, hk, rfl, rfl, hown, hm, hbs⟩ := hrel
    by_cases hlt : k < l.length
    · obtain ⟨g, off, rfl, hrow⟩ := HR.out (by omega)
      obtain ⟨q0, q1, q2, q3, q4, q5, q6⟩ := item_cells (hrow.mod hm id) hlt
      have HTK := Lib.hid (selC_succ (l := l) (want := true) hlt)
      have hol := selC_len l true (k := k) (by omega)
      generalize selC l true k = out at *
      have m1 := hm.alloc (.cells (itQ l[k]) 59)
      have HC := Lib.hid (HCP.out _ m1 k hlt)
      have hB1 := HBY.out _ m1
      have HBX := Lib.hid (Blk.new wr 59 (itQ l[k]))
      have HOA := Lib.hid (own_pure hown (pure_alloc wr (.cells (itQ l[k]) 59)))
      have HM1 := Lib.hid m1
      have hbs1 : base ≤ (wr.alloc (.cells (itQ l[k]) 59)).heap.size := by simp; omega
      obtain ⟨bc, hbc⟩ : ∃ bc, cplB l k = bc := ⟨_, rfl⟩
      rw [hbc] at HTK HC
      have i1 : (0 : Int) ≤ (k : Int) := by omega
      have i2 : (k : Int) < (l.length : Int) := by omega
      clear hrow hown hm m1 hbc
      generalize l[k] = x at *
      unfold itQ at *
      have z0 := hB1.cell 0; simp at z0
      clear hB1
      go_wp2_with fail
      refine HC.out.mono ?_
      rintro e w3 ⟨rfl, m3⟩
      have hB3 := HBX.out.modp m3
      have HOW3 := Lib.hid (own_pure HOA.out m3)
      have HM4 := Lib.hid (HM1.out.trans m3)
      have hbw3 : base ≤ w3.heap.size := by have := m3.size; omega
      clear HC HBX HOA HM1 m3 hbs1 q0 q1 q2 q3 q4 q5 q6 z0
      generalize wr.heap.size = gi at *
      by_cases hw : bc = true
      · rw [if_pos hw] at HTK
        subst hw
        have c0 := hB3.cell 0; have cf0 := hB3.frozen 0; have c1 := hB3.cell 1; have cf1 := hB3.frozen 1; have c2 := hB3.cell 2; have cf2 := hB3.frozen 2; have c3 := hB3.cell 3; have cf3 := hB3.frozen 3; have c4 := hB3.cell 4; have cf4 := hB3.frozen 4; have c5 := hB3.cell 5; have cf5 := hB3.frozen 5; have c6 := hB3.cell 6; have cf6 := hB3.frozen 6; simp at c0 c1 c2 c3 c4 c5 c6
        have HXV := Lib.hid (itV_snoc out x)
        unfold itC at HXV
        have own4 := HOW3.out
        have hm4 := HM4.out
        have hol2 : out.length ≤ 2000 := by omega
        clear HOW3 HM4 hB3
        go_wp2_with (at_builtin; refine wpList_append_lies _ rfl _ _ _ rfl base 59 i0 _ 7 96 Tryz.underlying26 hi0 hz0 hz1 hz2 rfl (by omega) (.slice Ao out.length cap) out.length (itV out) rfl (own4.alloc _) ⟨w3.heap.size, 0, none⟩ 1 1 [.string ⟨x.id.toArray⟩, .string ⟨x.cust.toArray⟩, .int .i64 x.kind, .string ⟨x.name.toArray⟩, .int .i64 x.tm, .string ⟨x.par.toArray⟩, .string ⟨x.text.toArray⟩] rfl rfl (World.news_of_block (cs := #[.string ⟨x.id.toArray⟩, .string ⟨x.cust.toArray⟩, .int .i64 x.kind, .string ⟨x.name.toArray⟩, .int .i64 x.tm, .string ⟨x.par.toArray⟩, .string ⟨x.text.toArray⟩]) (t := 59) (fr := (0, 0)) (heap_alloc_new w3 _)) (by simp [Value.oneCell']) (by omega) (by simp [maxLen]; omega) (by omega) (by have := hm4.size; simp; omega) (w3.heap.size + 1) (by simp) ?_; intro g5 cap5 w5 hown5 hgrow hat hlt5)
        go_roundg (l.length - (k + 1))
        case measure => omega
        case rel =>
          refine ⟨k + 1, some ⟨g5, 0, none⟩, cap5, rfl, by omega, by rw [HTK.out]; simp, by simp, ?_, (hm4.alloc _).grown hgrow (fun j hj => .inr (by have := own_block own4 j hj; omega)), by have := hgrow.size; simp at this; omega⟩
          rw [HTK.out, HXV.out]
          simpa using hown5
      · rw [if_neg hw] at HTK
        obtain rfl : bc = !true := by revert hw; cases bc <;> decide
        clear hw hB3
        go_wp2_with fail
        go_roundg (l.length - (k + 1))
        case measure => omega
        case rel => exact ⟨k + 1, Ao, cap, rfl, by omega, by rw [HTK.out], by simp, by rw [HTK.out]; exact HOW3.out, HM4.out, hbw3⟩
    · obtain rfl : k = l.length := by omega
      go_wp2_with fail
      go_ret
      exact ⟨Ao, _, cap, rfl, Sl.of_own hown, hm⟩


set_option maxRecDepth 100000 in
set_option maxHeartbeats 4000000 in
theorem rstWaiting_calls (w : World) (gy : Nat) (A : Option Addr) (n c : Nat) (l : List Itm) (hS : RSto w gy (.slice A n c) l) (hl : l.length ≤ 2000) (hno : ∀ i, i < l.length → lpB l i = false) :
    Calls Tryz.prog 39 #[.pointer (some ⟨gy, 0, none⟩)] w (StsPost w (selC l false l.length)) := by
  obtain ⟨i0, hi0, hz0, hz1, hz2⟩ := info_parts info_item7
  obtain ⟨hB, hv, _⟩ := hS
  have HCP : Hid (∀ W, Pure w W → ∀ i (hi : i < l.length), Calls Tryz.prog 91 #[.slice A n c, .int .i64 (i : Int)] W (BoolPost W (cplB l i))) :=
    Lib.hid (fun W h i hi => rcomplete_calls W _ l l[i] i (List.getElem?_eq_getElem hi) (hv.pure h) (by omega) hno)
  have HBY : Hid (∀ W, Pure w W → Blk W gy 75 #[.slice A n c]) := Lib.hid (fun W h => hB.modp h)
  obtain ⟨_, _, _, hf, hc1, hc2, hl2, hr⟩ := hv
  cases hf
  have hln : l.length = n := by rw [itV_len] at hl2; omega
  subst hln
  have HR := Lib.hid hr
  have d0 := hB.cell 0
  simp at d0
  clear hl2 hr hB hno
  obtain ⟨base, hbase⟩ : ∃ base, base = w.heap.size := ⟨_, rfl⟩
  have hb1 := Nat.le_of_eq hbase
  have hb2 := Nat.le_of_eq hbase.symm
  clear hbase
  go_enter Tryz.func39, Tryz.ntmps39
  go_wp2_with fail
  go_loopg [3, 11] l.length (fun gk x i wr => RiRel w base l false gk x i wr)
  case atStart => exact ⟨0, none, 0, by omega, by omega, rfl, rfl, World.ownsRow_nil _ _ _ _, Mod.refl _ _, by omega⟩
  case round =>
    clear d0
    obtain ⟨k, Ao, cap, rfl, hk, rfl, rfl, hown, hm, hbs⟩ := hrel
    by_cases hlt : k < l.length
    · obtain ⟨g, off, rfl, hrow⟩ := HR.out (by omega)
      obtain ⟨q0, q1, q2, q3, q4, q5, q6⟩ := item_cells (hrow.mod hm id) hlt
      have HTK := Lib.hid (selC_succ (l := l) (want := false) hlt)
      have hol := selC_len l false (k := k) (by omega)
      generalize selC l false k = out at *
      have m1 := hm.alloc (.cells (itQ l[k]) 59)
      have HC := Lib.hid (HCP.out _ m1 k hlt)
      have hB1 := HBY.out _ m1
      have HBX := Lib.hid (Blk.new wr 59 (itQ l[k]))
      have HOA := Lib.hid (own_pure hown (pure_alloc wr (.cells (itQ l[k]) 59)))
      have HM1 := Lib.hid m1
      have hbs1 : base ≤ (wr.alloc (.cells (itQ l[k]) 59)).heap.size := by simp; omega
      obtain ⟨bc, hbc⟩ : ∃ bc, cplB l k = bc := ⟨_, rfl⟩
      rw [hbc] at HTK HC
      have i1 : (0 : Int) ≤ (k : Int) := by omega
      have i2 : (k : Int) < (l.length : Int) := by omega
      clear hrow hown hm m1 hbc
      generalize l[k] = x at *
      unfold itQ at *
      have z0 := hB1.cell 0; simp at z0
      clear hB1
      go_wp2_with fail
      refine HC.out.mono ?_
      rintro e w3 ⟨rfl, m3⟩
      have hB3 := HBX.out.modp m3
      have HOW3 := Lib.hid (own_pure HOA.out m3)
      have HM4 := Lib.hid (HM1.out.trans m3)
      have hbw3 : base ≤ w3.heap.size := by have := m3.size; omega
      clear HC HBX HOA HM1 m3 hbs1 q0 q1 q2 q3 q4 q5 q6 z0
      generalize wr.heap.size = gi at *
      by_cases hw : bc = false
      · rw [if_pos hw] at HTK
        subst hw
        have c0 := hB3.cell 0; have cf0 := hB3.frozen 0; have c1 := hB3.cell 1; have cf1 := hB3.frozen 1; have c2 := hB3.cell 2; have cf2 := hB3.frozen 2; have c3 := hB3.cell 3; have cf3 := hB3.frozen 3; have c4 := hB3.cell 4; have cf4 := hB3.frozen 4; have c5 := hB3.cell 5; have cf5 := hB3.frozen 5; have c6 := hB3.cell 6; have cf6 := hB3.frozen 6; simp at c0 c1 c2 c3 c4 c5 c6
        have HXV := Lib.hid (itV_snoc out x)
        unfold itC at HXV
        have own4 := HOW3.out
        have hm4 := HM4.out
        have hol2 : out.length ≤ 2000 := by omega
        clear HOW3 HM4 hB3
        go_wp2_with (at_builtin; refine wpList_append_lies _ rfl _ _ _ rfl base 59 i0 _ 7 96 Tryz.underlying26 hi0 hz0 hz1 hz2 rfl (by omega) (.slice Ao out.length cap) out.length (itV out) rfl (own4.alloc _) ⟨w3.heap.size, 0, none⟩ 1 1 [.string ⟨x.id.toArray⟩, .string ⟨x.cust.toArray⟩, .int .i64 x.kind, .string ⟨x.name.toArray⟩, .int .i64 x.tm, .string ⟨x.par.toArray⟩, .string ⟨x.text.toArray⟩] rfl rfl (World.news_of_block (cs := #[.string ⟨x.id.toArray⟩, .string ⟨x.cust.toArray⟩, .int .i64 x.kind, .string ⟨x.name.toArray⟩, .int .i64 x.tm, .string ⟨x.par.toArray⟩, .string ⟨x.text.toArray⟩]) (t := 59) (fr := (0, 0)) (heap_alloc_new w3 _)) (by simp [Value.oneCell']) (by omega) (by simp [maxLen]; omega) (by omega) (by have := hm4.size; simp; omega) (w3.heap.size + 1) (by simp) ?_; intro g5 cap5 w5 hown5 hgrow hat hlt5)
        go_roundg (l.length - (k + 1))
        case measure => omega
        case rel =>
          refine ⟨k + 1, some ⟨g5, 0, none⟩, cap5, rfl, by omega, by rw [HTK.out]; simp, by simp, ?_, (hm4.alloc _).grown hgrow (fun j hj => .inr (by have := own_block own4 j hj; omega)), by have := hgrow.size; simp at this; omega⟩
          rw [HTK.out, HXV.out]
          simpa using hown5
      · rw [if_neg hw] at HTK
        obtain rfl : bc = !false := by revert hw; cases bc <;> decide
        clear hw hB3
        go_wp2_with fail
        go_roundg (l.length - (k + 1))
        case measure => omega
        case rel => exact ⟨k + 1, Ao, cap, rfl, by omega, by rw [HTK.out], by simp, by rw [HTK.out]; exact HOW3.out, HM4.out, hbw3⟩
    · obtain rfl : k = l.length := by omega
      go_wp2_with fail
      go_ret
      exact ⟨Ao, _, cap, rfl, Sl.of_own hown, hm⟩


end Go.Proofs.YtbdeicbdehgeiaaGreatDoor

/- Stores: the reference's errors of items together; sorted items. -/
namespace Go.Proofs.YtbdeicbdehgeiaaGreatDoor
set_option linter.unusedVariables false
set_option linter.unusedSimpArgs false
open Go.RowKit Go.Sort

def Sf1 (w : World) (xs : List Itm) (gk : Nat) (i : Value) (wr : World) : Prop := ∃ k : Nat, xs.length - k = gk ∧ k ≤ xs.length ∧ i = .int .i64 (k : Int) ∧ (∀ j, j < k → lpB xs j = false) ∧ Pure w wr
def Sf2 (w : World) (xs : List Itm) (gk : Nat) (i : Value) (wr : World) : Prop := ∃ k : Nat, xs.length - k = gk ∧ k ≤ xs.length ∧ i = .int .i64 (k : Int) ∧ (∀ j (h : j < xs.length), j < k → ruleB xs xs[j] = false) ∧ Pure w wr
def Sf3 (w : World) (xs : List Itm) (gk : Nat) (i : Value) (wr : World) : Prop := ∃ k : Nat, xs.length - k = gk ∧ k ≤ xs.length ∧ i = .int .i64 (k : Int) ∧ (∀ j, j < k → ¬ 4 < (chn xs xs.length j).length) ∧ Pure w wr
theorem storeE_loop {l : List Itm} {k : Nat} (hk : k < l.length) (h : lpB l k = true) : storeE l = 14 := by
  unfold storeE
  rw [if_pos (List.any_eq_true.2 ⟨k, List.mem_range.2 hk, h⟩)]
theorem storeE_rule {l : List Itm} (hno : ∀ j, j < l.length → lpB l j = false) {k : Nat} (hk : k < l.length) (h : ruleB l l[k] = true) : storeE l = 16 := by
  unfold storeE
  rw [if_neg (by rw [any_false_iff.2 (fun j hj => hno j (List.mem_range.1 hj))]; simp), if_pos (List.any_eq_true.2 ⟨_, List.getElem_mem hk, h⟩)]
theorem storeE_deep {l : List Itm} (hno : ∀ j, j < l.length → lpB l j = false) (hru : ∀ j (h : j < l.length), ruleB l l[j] = false) {k : Nat} (hk : k < l.length) (h : 4 < (chn l l.length k).length) : storeE l = 2 := by
  unfold storeE
  rw [if_neg (by rw [any_false_iff.2 (fun j hj => hno j (List.mem_range.1 hj))]; simp), if_neg, if_pos (List.any_eq_true.2 ⟨k, List.mem_range.2 hk, by simpa using h⟩)]
  rw [any_false_iff.2 (fun x hx => by obtain ⟨j, hj, rfl⟩ := List.getElem_of_mem hx; exact hru j hj)]
  simp
theorem storeE_ok {l : List Itm} (hno : ∀ j, j < l.length → lpB l j = false) (hru : ∀ j (h : j < l.length), ruleB l l[j] = false) (hd : ∀ j, j < l.length → ¬ 4 < (chn l l.length j).length) : storeE l = 0 := by
  unfold storeE
  rw [if_neg (by rw [any_false_iff.2 (fun j hj => hno j (List.mem_range.1 hj))]; simp), if_neg, if_neg]
  · rw [any_false_iff.2 (fun j hj => by simpa using hd j (List.mem_range.1 hj))]
    simp
  · rw [any_false_iff.2 (fun x hx => by obtain ⟨j, hj, rfl⟩ := List.getElem_of_mem hx; exact hru j hj)]
    simp
theorem storeE_noloop {l : List Itm} (h : storeE l = 0) : ∀ j, j < l.length → lpB l j = false := fun j hj => by
  cases hl : lpB l j
  · rfl
  · rw [storeE_loop hj hl] at h; cases h

set_option maxRecDepth 100000 in
set_option maxHeartbeats 4000000 in
theorem storeFault_calls (w : World) (v : Value) (xs : List Itm) (hv : Its w v xs) (hl : xs.length ≤ 100000) : Calls Tryz.prog 89 #[v] w (IntPost w (storeE xs)) := by
  have HRET := Lib.hid (fun (W : World) (h : Pure w W) (i : Nat) (x : Itm) hx => returns_calls W v xs x i hx (hv.pure h) hl)
  have HPL := Lib.hid (fun (W : World) (h : Pure w W) (s : Str) => place_calls W v xs s (hv.pure h))
  have HAB := Lib.hid (fun (W : World) (h : Pure w W) (i : Nat) (x : Itm) hx => rabove_calls W v xs x i hx (hv.pure h) hl)
  obtain ⟨A, n, c, rfl, hc1, hc2, hl2, hr⟩ := hv
  have hln : xs.length = n := by rw [itV_len] at hl2; omega
  subst hln
  have HR := Lib.hid hr
  clear hl2 hr
  go_enter Tryz.func89, Tryz.ntmps89
  go_wp2_with fail
  go_loopg [11] xs.length (fun gk i wr => Sf1 w xs gk i wr)
  case atStart => exact ⟨0, by omega, by omega, rfl, fun j hj => by omega, Mod.refl _ _⟩
  case round =>
    obtain ⟨k, rfl, hk, rfl, hno, hm⟩ := hrel
    by_cases hlt : k < xs.length
    · have HC := Lib.hid (HRET.out wr hm k xs[k] (List.getElem?_eq_getElem hlt))
      have HNO := Lib.hid hno
      have HAT := Lib.hid (storeE_loop (l := xs) hlt)
      clear hno
      cases hlp : lpB xs k
      · rw [hlp] at HC
        have HN : Hid (∀ j, j < k + 1 → lpB xs j = false) := Lib.hid (fun j hj => by
          rcases Nat.lt_or_ge j k with h | h
          · exact HNO.out j h
          · obtain rfl : j = k := by omega
            exact hlp)
        clear HAT HNO hlp
        go_wp2_with fail
        refine HC.out.mono ?_
        rintro e w1 ⟨rfl, m1⟩
        go_wp2_with fail
        go_roundg (xs.length - (k + 1))
        case measure => omega
        case rel => exact ⟨k + 1, rfl, by omega, by simp, HN.out, hm.trans m1⟩
      · rw [hlp] at HC
        have HF := Lib.hid (HAT.out hlp)
        clear HAT HNO hlp
        go_wp2_with fail
        refine HC.out.mono ?_
        rintro e w1 ⟨rfl, m1⟩
        go_wp2_with fail
        go_ret
        exact IntPost.of HF.out (hm.trans m1)
    · obtain rfl : k = xs.length := by omega
      have HNO := Lib.hid hno
      clear hno hlt hk HRET
      go_wp2_with fail
      go_loopg [20] xs.length (fun gk i wr => Sf2 w xs gk i wr)
      case atStart => exact ⟨0, by omega, by omega, rfl, fun j h hj => by omega, hm⟩
      case round =>
        clear hm
        obtain ⟨k, rfl, hk, rfl, hru, hm⟩ := hrel
        by_cases hlt : k < xs.length
        · obtain ⟨g, off, rfl, hrow⟩ := HR.out (by omega)
          have HROW := Lib.hid hrow
          have q5 := (item_cells (hrow.mod hm id) hlt).2.2.2.2.2.1
          have HQ5 := Lib.hid (fun W (h : Pure w W) => (item_cells (hrow.mod h id) hlt).2.2.2.2.2.1)
          have HRU : Hid (ruleB xs xs[k] = (decide (xs[k].par ≠ []) && match plc xs xs[k].par with
            | none => false
            | some k => match xs[k]? with
              | none => false
              | some p => decide (p.kind ≠ 1) && decide (p.kind ≠ 3))) := Lib.hid rfl
          have HPK := Lib.hid (HPL.out wr hm xs[k].par)
          have HRO := Lib.hid hru
          have HRK := Lib.hid (fun h => storeE_rule HNO.out hlt h)
          have HSTEP : Hid (ruleB xs xs[k] = false → ∀ j (h : j < xs.length), j < k + 1 → ruleB xs xs[j] = false) := Lib.hid (fun h j hj hjk => by
            rcases Nat.lt_or_ge j k with h1 | h1
            · exact HRO.out j hj h1
            · obtain rfl : j = k := by omega
              exact h)
          have i1 : (0 : Int) ≤ (k : Int) := by omega
          have i2 : (k : Int) < (xs.length : Int) := by omega
          clear hrow hru HRO
          generalize hrb : ruleB xs xs[k] = rb at *
          clear hrb
          generalize hxk : xs[k] = x at *
          clear hxk
          rw [show decide (x.par ≠ []) = !x.par.isEmpty by cases x.par <;> simp] at HRU
          obtain ⟨z, hzz⟩ : ∃ z, plcZ xs x.par = z := ⟨_, rfl⟩
          rw [hzz] at HPK
          have HZZ := Lib.hid hzz
          clear hzz
          go_wp2_with fail
          refine HPK.out.mono ?_
          rintro e w1 ⟨rfl, m1⟩
          have m1 := hm.trans m1
          have q5 := HQ5.out w1 m1
          clear hm HPK
          go_upto_region 11 with (fail)
          go_cut [55] (fun p wx => p = .bool rb ∧ w1 = wx)
          case first =>
            clear HAB HPL HRK HSTEP HNO
            cases he : x.par.isEmpty
            · rw [he] at HRU
              cases hp : plc xs x.par with
              | none =>
                have hrb : rb = false := by rw [HRU.out, hp]; rfl
                have hz : z = -1 := by rw [← HZZ.out]; unfold plcZ; rw [hp]
                have HRB := Lib.hid hrb
                clear hrb hp HRU HZZ
                subst hz
                go_wp2_with fail
                go_meet
                exact ⟨by rw [HRB.out], rfl⟩
              | some j =>
                have hjl := (plc_lt _ _ _ hp).1
                have hz : z = (j : Int) := by rw [← HZZ.out]; unfold plcZ; rw [hp]
                have q2 := (item_cells (HROW.out.mod m1 id) hjl).2.2.1
                have hrb : rb = (decide (xs[j].kind ≠ 1) && decide (xs[j].kind ≠ 3)) := by
                  rw [HRU.out, hp]
                  simp only [List.getElem?_eq_getElem hjl]
                  rfl
                have j1 : (0 : Int) ≤ (j : Int) := by omega
                have j2 : (j : Int) < (xs.length : Int) := by omega
                clear hp HRU HZZ
                subst hz
                generalize xs[j].kind = kd at *
                by_cases h1 : kd = 1
                · have h1' : (kd != 1) = false := by simpa using h1
                  have hrb2 : rb = false := by rw [hrb, h1]; rfl
                  have HRB := Lib.hid hrb2
                  clear hrb hrb2 h1
                  go_wp2_with fail
                  go_meet
                  exact ⟨by rw [HRB.out], rfl⟩
                · have h1' : (kd != 1) = true := by simpa using h1
                  by_cases h3 : kd = 3
                  · have h3' : (kd != 3) = false := by simpa using h3
                    have hrb2 : rb = false := by rw [hrb, h3]; rfl
                    have HRB := Lib.hid hrb2
                    clear hrb hrb2 h1 h3
                    go_wp2_with fail
                    go_meet
                    exact ⟨by rw [HRB.out], rfl⟩
                  · have h3' : (kd != 3) = true := by simpa using h3
                    have hrb2 : rb = true := by rw [hrb]; simp [h1, h3]
                    have HRB := Lib.hid hrb2
                    clear hrb hrb2 h1 h3
                    go_wp2_with fail
                    go_meet
                    exact ⟨by rw [HRB.out], rfl⟩
            · have hrb : rb = false := by rw [HRU.out, he]; rfl
              have HRB := Lib.hid hrb
              clear hrb HRU
              go_wp2_with fail
              go_meet
              exact ⟨by rw [HRB.out], rfl⟩
          case rest =>
            obtain ⟨rfl, rfl⟩ := hcut
            clear HRU q5 HQ5 HROW HZZ
            cases rb
            · have HN := Lib.hid (HSTEP.out rfl)
              clear HSTEP HRK
              go_wp2_with fail
              go_roundg (xs.length - (k + 1))
              case measure => omega
              case rel => exact ⟨k + 1, rfl, by omega, by simp, HN.out, m1⟩
            · have HF := Lib.hid (HRK.out rfl)
              clear HSTEP HRK
              go_wp2_with fail
              go_ret
              exact IntPost.of HF.out m1
        · obtain rfl : k = xs.length := by omega
          have HRO : Hid (∀ j (h : j < xs.length), ruleB xs xs[j] = false) := Lib.hid (fun j h => hru j h h)
          clear hru hlt hk HPL
          go_wp2_with fail
          go_loopg [59] xs.length (fun gk i wr => Sf3 w xs gk i wr)
          case atStart => exact ⟨0, by omega, by omega, rfl, fun j hj => by omega, hm⟩
          case round =>
            clear hm
            obtain ⟨k, rfl, hk, rfl, hdp, hm⟩ := hrel
            by_cases hlt : k < xs.length
            · have HAW := Lib.hid (HAB.out wr hm k xs[k] (List.getElem?_eq_getElem hlt))
              have HCH := Lib.hid (chn_noloop xs HNO.out k hlt)
              have HDP := Lib.hid hdp
              unfold RAbPost at HAW
              rw [HCH.out] at HAW
              have HSTEP : Hid (¬ 4 < (chn xs xs.length k).length → ∀ j, j < k + 1 → ¬ 4 < (chn xs xs.length j).length) := Lib.hid (fun h j hjk => by
                rcases Nat.lt_or_ge j k with h1 | h1
                · exact HDP.out j h1
                · obtain rfl : j = k := by omega
                  exact h)
              have HDK := Lib.hid (fun h => storeE_deep HNO.out HRO.out hlt h)
              clear hdp HCH HDP
              go_wp2_with fail
              refine HAW.out.mono ?_
              rintro e w2 ⟨A1, cap, bl, rfl, _, m2⟩
              have m3 := hm.trans m2
              clear HAW m2 hm
              generalize (chn xs xs.length k).length = n at *
              by_cases h4 : 4 < n
              · have h4' : (4 : Int) < (n : Int) := by omega
                have HF := Lib.hid (HDK.out h4)
                clear HSTEP HDK h4
                go_wp2_with fail
                go_ret
                exact IntPost.of HF.out m3
              · have h4' : ¬ ((4 : Int) < (n : Int)) := by omega
                have HN := Lib.hid (HSTEP.out h4)
                clear HSTEP HDK h4
                go_wp2_with fail
                go_roundg (xs.length - (k + 1))
                case measure => omega
                case rel => exact ⟨k + 1, rfl, by omega, by simp, HN.out, m3⟩
            · obtain rfl : k = xs.length := by omega
              have HF := Lib.hid (storeE_ok HNO.out HRO.out hdp)
              clear hdp
              go_wp2_with fail
              go_ret
              exact IntPost.of HF.out hm

def ClnPost (w : World) (l : List Itm) (e : Ending) (w' : World) : Prop := ∃ v, e = .returned v ∧ w'.ownsRow w.heap.size 59 7 v l.length (itV l) ∧ Pure w w'
theorem itV_one (l : List Itm) : ∀ u ∈ itV l, u.oneCell' = true := by
  intro u hu
  obtain ⟨x, _, hx⟩ := List.mem_flatMap.1 hu
  simp only [itC, List.mem_cons, List.not_mem_nil, or_false] at hx
  rcases hx with rfl | rfl | rfl | rfl | rfl | rfl | rfl <;> rfl
theorem cloneI_calls (w : World) (v : Value) (l : List Itm) (hv : Its w v l) (h0 : Own0 v) (hl : l.length ≤ 100000) : Calls Tryz.prog 24 #[v] w (ClnPost w l) := by
  obtain ⟨i0, hi0, hz0, hz1, hz2⟩ := info_parts info_item7
  rcases h0 with rfl | ⟨g, n, c, rfl⟩
  · obtain ⟨_, _, _, hf, _, _, hl2, _⟩ := hv
    cases hf
    have e : l = [] := List.eq_nil_of_length_eq_zero (by rw [itV_len] at hl2; omega)
    subst e
    refine (AnyE.slices_Clone_nil Tryz.clnItm 0 0 w).mono ?_
    rintro e w' ⟨rfl, rfl⟩
    exact ⟨_, rfl, World.ownsRow_nil _ _ _ _, Mod.refl _ _⟩
  · obtain ⟨_, _, _, hf, hc1, hc2, hl2, hr⟩ := hv
    cases hf
    have hln : l.length = n := by rw [itV_len] at hl2; omega
    subst hln
    refine (AnyE.slices_Clone Tryz.clnItm i0 itZ 7 96 hi0 hz0 hz1 hz2 rfl (by omega) Tryz.sizeOf59 g 0 l.length c (itV l) w (itV_len l) (by unfold maxLen; omega) (by omega) (fun j u hj => ?_) (itV_one l)).mono ?_
    · have : 0 < l.length := by
        rcases Nat.eq_zero_or_pos l.length with h | h
        · rw [List.eq_nil_of_length_eq_zero h] at hj; simp [itV] at hj
        · exact h
      obtain ⟨g2, o2, h2, hrow⟩ := hr this
      have h3 : g = g2 ∧ o2 = 0 := by
        have := Option.some.inj h2
        exact ⟨congrArg Addr.block this, (congrArg Addr.off this).symm⟩
      obtain ⟨rfl, rfl⟩ := h3
      exact hrow.cell hj
    · rintro e w' ⟨v', rfl, hown, _, hb⟩
      exact ⟨v', rfl, hown, Mod.of_below hb⟩
def RsoPost (w : World) (l : List Itm) (e : Ending) (w' : World) : Prop := ∃ (v : Value) (ys : List Itm), e = .returned v ∧ ys.Perm l ∧ Rise ys ∧ w'.ownsRow w.heap.size 59 7 v ys.length (itV ys) ∧ Pure w w'

set_option maxRecDepth 100000 in
set_option maxHeartbeats 1000000 in
theorem rsorted_calls (w : World) (v : Value) (l : List Itm) (hv : Its w v l) (h0 : Own0 v) (hl : l.length ≤ 2000) (hd : Dst l) : Calls Tryz.prog 88 #[v] w (RsoPost w l) := by
  have HC := Lib.hid (cloneI_calls w v l hv h0 (by omega))
  have HS := Lib.hid (fun (W : World) (v : Value) (h : W.ownsRow w.heap.size 59 7 v l.length (itV l)) eg => sortItm_calls W w.heap.size l.length v l 135 h hd.ids (by omega) eg (fun x y W => sortedC_calls x y W))
  clear hv h0 hd
  go_enter Tryz.func88, Tryz.ntmps88
  go_wp2_with fail
  refine HC.out.mono ?_
  rintro e w1 ⟨v1, rfl, hown, m1⟩
  have HS1 := Lib.hid (HS.out w1 v1 hown (enters_of Tryz.func135 (by kernel_rfl) rfl))
  have HOB := Lib.hid (own_block hown)
  clear HC HS hown
  go_wp2_with fail
  refine HS1.out.mono ?_
  rintro e w2 ⟨ys, hp, hr, rfl, hown, m2⟩
  have HO := Lib.hid hown
  have HP := Lib.hid hp
  have HR := Lib.hid hr
  have HM := Lib.hid (m1.trans' m2 (fun i hi hl => by have := HOB.out i hi; omega))
  clear HS1 hown hp hr m1 m2 HOB
  go_wp2_with fail
  go_ret
  exact ⟨v1, ys, rfl, HP.out, HR.out, by rw [HP.out.length_eq]; exact HO.out, HM.out⟩

end Go.Proofs.YtbdeicbdehgeiaaGreatDoor

/- Stores: the program's errors of items together. -/
namespace Go.Proofs.YtbdeicbdehgeiaaGreatDoor
set_option linter.unusedVariables false
set_option linter.unusedSimpArgs false
open Go.RowKit Go.Sort

/-- Told of the items that a range has seen. -/
def Seen (l : List Itm) (left : Str → Bool) (P : Nat → Prop) : Prop := ∀ i (h : i < l.length), left l[i].id = false → P i
theorem Seen.start {l : List Itm} (hd : Dst l) (P : Nat → Prop) : Seen l (fun s => (byF l s).isSome) P := fun i h hs => by
  have : (byF l l[i].id).isSome = true := (byF_has hd).2 (List.mem_map.2 ⟨_, List.getElem_mem h, rfl⟩)
  have h3 : (byF l l[i].id).isSome = false := hs
  rw [this] at h3
  cases h3
theorem Seen.step {l : List Itm} (hd : Dst l) {left : Str → Bool} {P : Nat → Prop} (h : Seen l left P) {i : Nat} (hi : i < l.length) (hP : P i) : Seen l (fun x => left x && !decide (x = l[i].id)) P := fun j hj hs => by
  by_cases hji : j = i
  · subst hji; exact hP
  · have hne : l[j].id ≠ l[i].id := fun he => hji (id_inj hd hj hi he)
    refine h j hj ?_
    simpa [hne] using hs
theorem Seen.all {l : List Itm} {left : Str → Bool} {P : Nat → Prop} (h : Seen l left P) (ha : ∀ s, left s = false) : ∀ i, i < l.length → P i := fun i hi => h i hi (ha _)
def ruleP (l : List Itm) (i : Nat) : Prop := ∀ h : i < l.length, ruleB l l[i] = false
def deepP (l : List Itm) (i : Nat) : Prop := ¬ 4 < (chn l l.length i).length
def Worst (l : List Itm) (left : Str → Bool) (wz : Int) : Prop := (wz = 0 ∧ Seen l left (deepP l)) ∨ (wz = 2 ∧ ∃ i, i < l.length ∧ 4 < (chn l l.length i).length)
def Tg1 (w : World) (b r : Nat) (l : List Itm) (gk : Nat) (wr : World) : Prop :=
  ∃ left : Str → Bool, MapRg wr b r (byF l) left gk ∧ Seen l left (fun i => lpB l i = false) ∧ Pure w wr
def Tg2 (w : World) (b r : Nat) (l : List Itm) (gk : Nat) (x : Value) (wr : World) : Prop :=
  ∃ (left : Str → Bool) (wz : Int), x = .int .i64 wz ∧ MapRg wr b r (byF l) left gk ∧ Seen l left (ruleP l) ∧ Worst l left wz ∧ Pure w wr

set_option maxRecDepth 100000 in
set_option maxHeartbeats 4000000 in
theorem together_calls (w : World) (b : Nat) (l : List Itm) (hM : MapX w b l.length (byF l)) (hz : ∀ x ∈ l, ItB x) (hl : l.length ≤ 100000) (hd : Dst l) : Calls Tryz.prog 133 #[.map (some b)] w (IntPost w (storeE l)) := by
  have HAB := Lib.hid (fun (W : World) (h : Pure w W) (i : Nat) (hi : i < l.length) => iabove_calls W b l l[i] i (List.getElem?_eq_getElem hi) (hM.pure h) hz hd hl)
  have HLK := Lib.hid (fun (W : World) (h : Pure w W) (s : Str) (hs : s.length ≤ 1000000) => (hM.pure h).look_ok Tryz.underlying92 zero_item s hs)
  have HRN := Lib.hid (fun (W : World) (h : Pure w W) => ((hM.pure h).s).range (t := 92) (e := 59) Tryz.underlying92)
  have HZ := Lib.hid hz
  have HD := Lib.hid hd
  have hbl := hM.lt
  obtain ⟨w1, m, hrun, hrg, hmn, hp1, hs1⟩ := HRN.out w (Mod.refl _ _)
  have HRG := Lib.hid hrg
  have HP1 := Lib.hid hp1
  clear hM hz hd hrg hp1 hs1
  go_enter Tryz.func133, Tryz.ntmps133
  go_wp2_with fail
  obtain ⟨r, hr⟩ : ∃ r, r = w.heap.size := ⟨_, rfl⟩
  have hr1 := Nat.le_of_eq hr
  have hr2 := Nat.le_of_eq hr.symm
  rw [← hr] at HRG ⊢
  clear hr
  go_loopg [] m (fun gk wr => Tg1 w b r l gk wr)
  case atStart => exact ⟨_, HRG.out, Seen.start HD.out _, HP1.out⟩
  case round =>
    clear HRG HP1 hrun w1
    obtain ⟨left, hrg, hseen, hm⟩ := hrel
    have hrl := hrg.lt
    rcases hrg.next with ⟨h0, hall, hnx⟩ | ⟨s, v, w2, cnt2, hls, hfs, hnx, hrg2, hlt2, hm2, hsz2, hen⟩
    · have HNO := Lib.hid (hseen.all hall)
      have HM := Lib.hid hm
      obtain ⟨w3, m3, hrun, hrg3, hmn3, hp3, hs3⟩ := HRN.out wr hm
      have HRG := Lib.hid hrg3
      have HP1 := Lib.hid (hm.trans hp3)
      have hrz : r < wr.heap.size := hrl.2
      clear hrg hseen hm hall hrg3 hp3 hs3 h0
      go_wp2_with fail
      obtain ⟨r2, hr3⟩ : ∃ r2, r2 = wr.heap.size := ⟨_, rfl⟩
      have hr4 := Nat.le_of_eq hr3
      have hr5 := Nat.le_of_eq hr3.symm
      rw [← hr3] at HRG ⊢
      clear hr3
      go_loopg [7] m3 (fun gk x wr => Tg2 w b r2 l gk x wr)
      case atStart => exact ⟨_, 0, rfl, HRG.out, Seen.start HD.out _, .inl ⟨rfl, Seen.start HD.out _⟩, HP1.out⟩
      case round =>
        clear HRG HP1 hrun HM hr4 hnx
        have hr6 : w.heap.size ≤ r2 := by omega
        clear hr5
        obtain ⟨left, wz, rfl, hrg, hru, hwo, hm⟩ := hrel
        have hrl := hrg.lt
        rcases hrg.next with ⟨h0, hall, hnx⟩ | ⟨s, v, w2, cnt2, hls, hfs, hnx, hrg2, hlt2, hm2, hsz2, hen⟩
        · have HF : Hid (storeE l = wz) := Lib.hid (by
            have hr := hru.all hall
            rcases hwo with ⟨rfl, hd⟩ | ⟨rfl, i, hi, hd⟩
            · exact storeE_ok HNO.out (fun j h => hr j h h) (hd.all hall)
            · exact storeE_deep HNO.out (fun j h => hr j h h) hi hd)
          have HM := Lib.hid hm
          clear hrg hru hwo hm hall
          go_wp2_with fail
          go_ret
          exact IntPost.of HF.out HM.out
        · obtain ⟨i, hi, hid, rfl⟩ := byF_at hfs
          subst hid
          have HRN := Lib.hid (fun h => hru.step HD.out hi h)
          have HRB : Hid (ruleB l l[i] = false → ruleP l i) := Lib.hid (fun h _ => h)
          have HWO := Lib.hid hwo
          have HDS := Lib.hid (fun h => fun h2 => Seen.step (P := deepP l) HD.out h hi h2 (left := left))
          have hm22 : Pure w w2 := hm.trans' hm2 (fun k hk hl => by omega)
          have HRU := Lib.hid (ruleB_fnd l l[i])
          have HRF := Lib.hid (fun h => storeE_rule HNO.out hi h)
          have HABI := Lib.hid (fun (W : World) (h : Pure w W) => HAB.out W h i hi)
          have hzp := (HZ.out _ (List.getElem_mem hi)).2.2.2.1
          obtain ⟨p, bd, hpb⟩ : ∃ (p : Itm) (bd : Bool), ((fnd l l[i].par = none ∧ bd = false ∧ itZ = itA p) ∨ (fnd l l[i].par = some p ∧ bd = true)) := by
            cases hf : fnd l l[i].par with
            | none => exact ⟨⟨[], [], 0, [], 0, [], []⟩, false, .inl ⟨rfl, rfl, rfl⟩⟩
            | some p => exact ⟨p, true, .inr ⟨rfl, rfl⟩⟩
          have HPD := Lib.hid hpb
          have HLI : Hid (∀ W, Pure w W → (Instr.lookup 92 (.map (some b)) (.string ⟨l[i].par.toArray⟩) true).run Tryz.prog W = .ok (.tuple #[itA p, .bool bd]) W) := Lib.hid (fun W h => by
            rw [HLK.out W h l[i].par (by omega)]
            unfold byF
            rcases hpb with ⟨h1, h2, h3⟩ | ⟨h1, h2⟩
            · rw [h1, h2]; simp [h3]
            · rw [h1, h2]; simp)
          generalize ruleB l l[i] = rb at *
          have HN4 : Hid (4 < (chn l l.length i).length → ∃ i, i < l.length ∧ 4 < (chn l l.length i).length) := Lib.hid (fun h => ⟨i, hi, h⟩)
          have HDP : Hid (¬ 4 < (chn l l.length i).length → deepP l i) := Lib.hid id
          have HLI0 := Lib.hid (HNO.out i hi)
          generalize l[i] = x at *
          have HRG2 := Lib.hid hrg2
          have hB2 := Blk.new w2 59 (itQ x)
          have hm23 := hm22.alloc (.cells (itQ x) 59)
          have hlook := HLI.out _ hm23
          have hgw : r2 < w2.heap.size := by omega
          have hB3 := hB2.alloc (.cells (itQ p) 59)
          have hB4 := Blk.new (w2.alloc (.cells (itQ x) 59)) 59 (itQ p)
          have hm24 := hm23.alloc (.cells (itQ p) 59)
          have HPA := Lib.hid ((pure_alloc w2 (.cells (itQ x) 59)).alloc (.cells (itQ p) 59))
          have HM4 := Lib.hid hm24
          have HB3 := Lib.hid hB3
          have HB4 := Lib.hid hB4
          clear hsz2 hrg hrg2 hru hwo hm hm2 hm22 hls hfs hpb hm23 hm24 HLI HLK HAB hB2 hB3 hB4
          unfold itQ at HB3 HB4 HM4 hlook HPA
          unfold itA at hlook hnx hen
          rw [World.size_alloc] at HB4
          rw [show decide (x.par ≠ []) = !x.par.isEmpty by cases x.par <;> simp] at HRU
          have HRGA := Lib.hid (HRG2.out.pure HPA.out)
          clear HRG2
          go_upto_region 12 with (fail)
          generalize ((w2.alloc (.cells #[.string ⟨x.id.toArray⟩, .string ⟨x.cust.toArray⟩, .int .i64 x.kind, .string ⟨x.name.toArray⟩, .int .i64 x.tm, .string ⟨x.par.toArray⟩, .string ⟨x.text.toArray⟩] 59)).alloc (.cells #[.string ⟨p.id.toArray⟩, .string ⟨p.cust.toArray⟩, .int .i64 p.kind, .string ⟨p.name.toArray⟩, .int .i64 p.tm, .string ⟨p.par.toArray⟩, .string ⟨p.text.toArray⟩] 59)) = w4 at *
          generalize w2.heap.size = g5 at *
          go_cut [55] (fun q wx => q = .bool rb ∧ w4 = wx)
          case first =>
            have hB3 := HB3.out
            have hB4 := HB4.out
            have c0 := hB3.cell 0; have c1 := hB3.cell 1; have c2 := hB3.cell 2; have c3 := hB3.cell 3; have c4 := hB3.cell 4; have c5 := hB3.cell 5; have c6 := hB3.cell 6; simp at c0 c1 c2 c3 c4 c5 c6
            have d0 := hB4.cell 0; have d1 := hB4.cell 1; have d2 := hB4.cell 2; have d3 := hB4.cell 3; have d4 := hB4.cell 4; have d5 := hB4.cell 5; have d6 := hB4.cell 6; simp at d0 d1 d2 d3 d4 d5 d6
            have hrb : rb = (!x.par.isEmpty && (bd && (decide (p.kind ≠ 1) && decide (p.kind ≠ 3)))) := by
              rw [HRU.out]
              rcases HPD.out with ⟨h1, h2, _⟩ | ⟨h1, h2⟩
              · rw [h1, h2]; simp
              · rw [h1, h2]; simp
            clear hB3 hB4 HB3 HB4 HRU HPD HRN HRB HWO HDS HRF HABI HN4 HDP HLI0 HRGA HM4 HPA
            cases he : x.par.isEmpty
            · rw [he] at hrb
              cases bd
              · have HRR : Hid (rb = false) := Lib.hid (by rw [hrb]; rfl)
                clear hrb
                go_wp2_with fail
                go_meet
                exact ⟨by rw [HRR.out], rfl⟩
              · by_cases h1 : p.kind = 1
                · have h1' : (p.kind != 1) = false := by simpa using h1
                  have HRR : Hid (rb = false) := Lib.hid (by rw [hrb, h1]; rfl)
                  clear hrb h1
                  go_wp2_with fail
                  go_meet
                  exact ⟨by rw [HRR.out], rfl⟩
                · have h1' : (p.kind != 1) = true := by simpa using h1
                  by_cases h3 : p.kind = 3
                  · have h3' : (p.kind != 3) = false := by simpa using h3
                    have HRR : Hid (rb = false) := Lib.hid (by rw [hrb, h3]; rfl)
                    clear hrb h1 h3
                    go_wp2_with fail
                    go_meet
                    exact ⟨by rw [HRR.out], rfl⟩
                  · have h3' : (p.kind != 3) = true := by simpa using h3
                    have HRR : Hid (rb = true) := Lib.hid (by rw [hrb]; simp [h1, h3])
                    clear hrb h1 h3
                    go_wp2_with fail
                    go_meet
                    exact ⟨by rw [HRR.out], rfl⟩
            · have HRR : Hid (rb = false) := Lib.hid (by rw [hrb, he]; rfl)
              clear hrb
              go_wp2_with fail
              go_meet
              exact ⟨by rw [HRR.out], rfl⟩
          case rest =>
            obtain ⟨rfl, rfl⟩ := hcut
            clear HRU HPD hlook HB4
            cases rb
            · have HRN2 := Lib.hid (HRN.out (HRB.out rfl))
              have HC := Lib.hid (HABI.out _ HM4.out)
              have hB3 := HB3.out
              have c0 := hB3.cell 0; have c1 := hB3.cell 1; have c2 := hB3.cell 2; have c3 := hB3.cell 3; have c4 := hB3.cell 4; have c5 := hB3.cell 5; have c6 := hB3.cell 6; simp at c0 c1 c2 c3 c4 c5 c6
              clear HRN HRB HRF HABI hB3 HB3 HPA
              unfold itA at HC
              go_wp2_with fail
              refine HC.out.mono ?_
              rintro e w5 ⟨n, lp, rfl, hlp, hn0, m5⟩
              have hn := hn0 (hlp.trans HLI0.out)
              have HM5 := Lib.hid (HM4.out.trans m5)
              have HRG5 := Lib.hid (HRGA.out.pure m5)
              clear HC hlp hn0 m5 HRGA HM4 HLI0 c0 c1 c2 c3 c4 c5 c6
              rw [← hn] at HN4 HDP
              clear hn
              by_cases h4 : 4 < n
              · have h4' : (4 : Int) < (n : Int) := by omega
                have HN5 := Lib.hid (HN4.out h4)
                clear HN4 HDP HDS HWO h4
                go_wp2_with fail
                go_roundg cnt2
                case measure => exact hlt2
                case rel => exact ⟨_, 2, rfl, HRG5.out, HRN2.out, .inr ⟨rfl, HN5.out⟩, HM5.out⟩
              · have h4' : ¬ ((4 : Int) < (n : Int)) := by omega
                have HD5 := Lib.hid (HDP.out h4)
                clear HN4 HDP h4
                go_wp2_with fail
                go_roundg cnt2
                case measure => exact hlt2
                case rel =>
                  refine ⟨_, wz, rfl, HRG5.out, HRN2.out, ?_, HM5.out⟩
                  rcases HWO.out with ⟨h1, h2⟩ | h
                  · exact .inl ⟨h1, HDS.out h2 HD5.out⟩
                  · exact .inr h
            · have HF := Lib.hid (HRF.out rfl)
              have HM := Lib.hid HM4.out
              clear HRF HRN HRB HABI HWO HDS HN4 HDP HM4 HB3 HPA HRGA
              go_wp2_with fail
              go_ret
              exact IntPost.of HF.out HM.out
    · obtain ⟨i, hi, hid, rfl⟩ := byF_at hfs
      subst hid
      have HSN := Lib.hid (fun h => hseen.step HD.out hi h)
      have HLE := Lib.hid (fun h => storeE_loop (l := l) hi h)
      have hm22 : Pure w w2 := hm.trans' hm2 (fun k hk hl => by omega)
      have HABI := Lib.hid (fun (W : World) (h : Pure w W) => HAB.out W h i hi)
      generalize l[i] = x at *
      have hm23 := hm22.alloc (.cells (itQ x) 59)
      have HC := Lib.hid (HABI.out _ hm23)
      have HM3 := Lib.hid hm23
      have HRG3 := Lib.hid (hrg2.pure (pure_alloc w2 (.cells (itQ x) 59)))
      have hB2 := Blk.new w2 59 (itQ x)
      clear hsz2 hrg hrg2 hseen hm hm2 hm22 hls hfs hm23 HABI HAB HLK HRN
      unfold itQ at HM3 HRG3 HC hB2
      unfold itA at HC hnx hen
      unfold AbovePost at HC
      have c0 := hB2.cell 0; have c1 := hB2.cell 1; have c2 := hB2.cell 2; have c3 := hB2.cell 3; have c4 := hB2.cell 4; have c5 := hB2.cell 5; have c6 := hB2.cell 6; simp at c0 c1 c2 c3 c4 c5 c6
      clear hB2
      go_wp2_with fail
      refine HC.out.mono ?_
      rintro e w5 ⟨n, lp, rfl, hlp, _, m5⟩
      subst hlp
      have HM5 := Lib.hid (HM3.out.trans m5)
      have HRG5 := Lib.hid (HRG3.out.pure m5)
      obtain ⟨lq, hlq⟩ : ∃ lq, lpB l i = lq := ⟨_, rfl⟩
      rw [hlq] at HSN HLE ⊢
      clear HC m5 HM3 HRG3 hlq
      cases lq
      · have HS := Lib.hid (HSN.out rfl)
        clear HSN HLE
        go_wp2_with fail
        go_roundg cnt2
        case measure => exact hlt2
        case rel => exact ⟨_, HRG5.out, HS.out, HM5.out⟩
      · have HF := Lib.hid (HLE.out rfl)
        clear HSN HLE
        go_wp2_with fail
        go_ret
        exact IntPost.of HF.out HM5.out

end Go.Proofs.YtbdeicbdehgeiaaGreatDoor

/- Stores: the items of a store with more of them (the program's). -/
namespace Go.Proofs.YtbdeicbdehgeiaaGreatDoor
set_option linter.unusedVariables false
set_option linter.unusedSimpArgs false
open Go.RowKit Go.Sort

/-- A copy of the items, as far as a range has come. -/
def cpF (l : List Itm) (left : Str → Bool) (s : Str) : Option Value := if left s = true then none else byF l s
theorem cpF_start (l : List Itm) : cpF l (fun s => (byF l s).isSome) = fun _ => none := by
  funext s
  unfold cpF
  cases h : byF l s <;> simp [h]
theorem cpF_step {l : List Itm} {left : Str → Bool} {s : Str} {v : Value} (hv : byF l s = some v) : (fun x => if x = s then some v else cpF l left x) = cpF l (fun x => left x && !decide (x = s)) := by
  funext x
  unfold cpF
  by_cases hx : x = s
  · subst hx
    simp [hv]
  · simp [hx]
theorem cpF_end {l : List Itm} {left : Str → Bool} (h : ∀ s, left s = false) : cpF l left = byF l := by
  funext s
  unfold cpF
  simp [h s]
def WithPost (w : World) (l zs L : List Itm) (e : Ending) (w' : World) : Prop :=
  ∃ (mv : Option Nat) (k er : Int), e = .returned (.tuple #[.map mv, .int .i64 k, .int .i64 er]) ∧ (zs.any (clash l) = true → mv = none ∧ k = 0 ∧ er = 13) ∧
    (zs.any (clash l) = false → er = (if newsI l zs = [] then 0 else storeE L) ∧ k = ((newsI l zs).length : Int) ∧ ∃ b2, mv = some b2 ∧ w.heap.size ≤ b2 ∧ MapX w' b2 L.length (byF L)) ∧ Pure w w'
def Wi1 (w : World) (b r bm n0 : Nat) (l : List Itm) (gk : Nat) (wr : World) : Prop :=
  ∃ (left : Str → Bool) (k : Nat), MapRg wr b r (byF l) left gk ∧ MapS wr bm k (cpF l left) ∧ k + gk ≤ n0 ∧ Pure w wr
def Wi2 (w : World) (bm n0 : Nat) (l zs : List Itm) (gk : Nat) (x i : Value) (wr : World) : Prop :=
  ∃ (j k : Nat), zs.length - j = gk ∧ j ≤ zs.length ∧ i = .int .i64 (j : Int) ∧ x = .int .i64 ((newsI l (zs.take j)).length : Int) ∧ MapS wr bm k (byF (l ++ newsI l (zs.take j))) ∧ k ≤ n0 + j ∧ (∀ z ∈ zs.take j, clash l z = false) ∧ Pure w wr
theorem newsI_len (l zs : List Itm) : (newsI l zs).length ≤ zs.length := List.length_filter_le _ _

set_option maxRecDepth 100000 in
set_option maxHeartbeats 8000000 in
theorem with_calls (w : World) (gx b : Nat) (l zs L : List Itm) (vz : Value) (hS : StoAt w gx b l) (hv : Its w vz zs) (hz : ∀ x ∈ l, ItB x) (hzz : ∀ x ∈ zs, ItB x) (hd : Dst l) (hdz : Dst zs) (hn : l.length + zs.length ≤ 2000) (hL : L.Perm (l ++ newsI l zs)) :
    Calls Tryz.prog 87 #[.pointer (some ⟨gx, 0, none⟩), vz] w (WithPost w l zs L) := by
  have hmm := @run_makeMap Tryz.prog
  have hdn := dst_news hd hdz
  have HLL : Hid (L.length = l.length + (newsI l zs).length) := Lib.hid (by rw [hL.length_eq, List.length_append])
  have HTG := Lib.hid (fun (W : World) (b2 : Nat) (h : MapX W b2 L.length (byF L)) => together_calls W b2 L h (fun x hx => by
    rcases List.mem_append.1 (hL.mem_iff.1 hx) with h | h
    · exact hz x h
    · exact hzz x (List.mem_filter.1 h).1) (by have := newsI_len l zs; have := HLL.out; omega) (hdn.perm hL))
  have HEX : Hid (∀ W b2 n, MapS W b2 n (byF (l ++ newsI l zs)) → MapX W b2 L.length (byF L)) := Lib.hid (fun W b2 n h => by
    have h1 := h.exact (K := L.map fun x => x.id) (hdn.perm hL).ids (fun x => by rw [← byF_perm hdn hL]; exact (byF_has (hdn.perm hL)).symm)
    rw [List.length_map, ← byF_perm hdn hL] at h1
    exact h1)
  have HFN := Lib.hid (fun k (h : k < zs.length) => fnd_news (l := l) hdz h)
  have HTK := Lib.hid (fun k (h : k < zs.length) => newsI_take (l := l) h)
  have HNL := Lib.hid (newsI_len l zs)
  have hp0 : Pure w (w.alloc (.map #[] 0)) := pure_alloc _ _
  obtain ⟨w1, m, hrun, hrg, hmn, hp1, hs1⟩ := (hS.2.s.pure hp0).range (t := 92) (e := 59) Tryz.underlying92
  have hB := hS.1.modp hp0
  have d0 := hB.cell 0
  simp at d0
  have hbl := hS.2.lt
  have HMM := Lib.hid ((MapS.made w).pure hp1)
  have HZZ := Lib.hid hzz
  have HZL := Lib.hid hz
  have HRG := Lib.hid hrg
  have HP1 := Lib.hid (hp0.trans hp1)
  obtain ⟨A, n, c, rfl, hc1, hc2, hl2, hr⟩ := hv
  have hln : zs.length = n := by rw [itV_len] at hl2; omega
  subst hln
  have HR := Lib.hid hr
  clear hS hz hzz hd hdz hL hdn hp0 hp1 hs1 hB hrg hl2 hr
  rw [World.size_alloc] at hrun HRG
  go_enter Tryz.func87, Tryz.ntmps87
  go_wp2_with fail
  clear hmm
  obtain ⟨bm, hbm⟩ : ∃ bm, bm = w.heap.size := ⟨_, rfl⟩
  have hb1 := Nat.le_of_eq hbm
  have hb2 := Nat.le_of_eq hbm.symm
  rw [← hbm] at HRG HMM ⊢
  clear hbm
  go_loopg [] m (fun gk wr => Wi1 w b (bm + 1) bm m l gk wr)
  case atStart => exact ⟨_, 0, HRG.out, by rw [cpF_start]; exact HMM.out, by omega, HP1.out⟩
  case round =>
    clear HRG HMM HP1 hrun d0 w1
    obtain ⟨left, k, hrg, hms, hkk, hm⟩ := hrel
    have hrl := hrg.lt
    rcases hrg.next with ⟨h0, hall, hnx⟩ | ⟨s, v, w2, cnt2, hls, hfs, hnx, hrg2, hlt2, hm2, hsz2, hen⟩
    · rw [cpF_end hall] at hms
      have HMS := Lib.hid hms
      have HM := Lib.hid hm
      clear hrg hms hm hall
      have hkm : k ≤ m := by omega
      clear hkk h0 HZL
      go_wp2_with fail
      go_loopg [10, 31] zs.length (fun gk x i wr => Wi2 w bm m l zs gk x i wr)
      case atStart => exact ⟨0, k, by omega, by omega, rfl, by simp [newsI], by simpa [newsI] using HMS.out, by omega, by simp, HM.out⟩
      case round =>
        clear HMS HM hnx hkm k hrl
        obtain ⟨j, k, rfl, hj, rfl, rfl, hms, hk, hcl, hm⟩ := hrel
        have hbml := hms.lt
        by_cases hlt : j < zs.length
        · obtain ⟨g, off, rfl, hrow⟩ := HR.out (by omega)
          obtain ⟨q0, q1, q2, q3, q4, q5, q6⟩ := item_cells (hrow.mod hm id) hlt
          have hsl := (HZZ.out _ (List.getElem_mem hlt)).1
          have hms1 := hms.pure (pure_alloc wr (.cells (itQ zs[j]) 59))
          have hlook := hms1.look_ok Tryz.underlying92 zero_item zs[j].id (by omega)
          have HCL := Lib.hid hcl
          have HTJ := Lib.hid (HTK.out j hlt)
          have hfn := HFN.out j hlt
          have hf2 : byF (l ++ newsI l (zs.take j)) zs[j].id = (fnd l zs[j].id).map itA := by unfold byF; rw [hfn]
          rw [hf2] at hlook
          have HCT : Hid (clash l zs[j] = false → ∀ z ∈ zs.take (j + 1), clash l z = false) := Lib.hid (fun h z hz => by
            rw [List.take_succ_eq_append_getElem hlt] at hz
            rcases List.mem_append.1 hz with hz | hz
            · exact HCL.out z hz
            · rw [List.mem_singleton.1 hz]; exact h)
          have HCY : Hid (clash l zs[j] = true → zs.any (clash l) = true) := Lib.hid (fun h => List.any_eq_true.2 ⟨_, List.getElem_mem hlt, h⟩)
          have HNW := Lib.hid (fun (h : ∀ x ∈ l ++ newsI l (zs.take j), x.id ≠ zs[j].id) => byF_snoc h)
          have HNX : Hid (fnd l zs[j].id = none → ∀ x ∈ l ++ newsI l (zs.take j), x.id ≠ zs[j].id) := Lib.hid (fun h => by
            rw [h] at hfn
            exact atS_none.1 hfn)
          have hm1 := hm.alloc (.cells (itQ zs[j]) 59)
          have HCO := Lib.hid (fun p (h : fnd l zs[j].id = some p) => clash_old h)
          have HCN := Lib.hid (fun (h : fnd l zs[j].id = none) => clash_new h)
          have hnl : (newsI l (zs.take j)).length ≤ j := Nat.le_trans (newsI_len _ _) (by simp; omega)
          have i1 : (0 : Int) ≤ (j : Int) := by omega
          have i2 : (j : Int) < (zs.length : Int) := by omega
          have HMSA := Lib.hid hms1
          have HM1 := Lib.hid hm1
          have hB1 := Blk.new wr 59 (itQ zs[j])
          have hgz : wr.heap.size < (wr.alloc (.cells (itQ zs[j]) 59)).heap.size := by simp
          clear hrow hcl hf2 hfn hms hms1 hm hm1 HCL
          generalize newsI l (zs.take j) = nw at *
          generalize zs[j] = z at *
          cases hf : fnd l z.id with
          | none =>
            rw [hf] at hlook
            simp only [Option.map_none, Option.getD_none, Option.isSome_none] at hlook
            obtain ⟨hc0, hc1⟩ := HCN.out hf
            rw [if_pos hc1] at HTJ
            have HCT2 := Lib.hid (HCT.out hc0)
            have hby := HNW.out (HNX.out hf)
            have hms3 := HMSA.out.pure (pure_alloc (wr.alloc (.cells (itQ z) 59)) (.cells itZc 59))
            obtain ⟨w3, hrun3, hms4, hm3⟩ := hms3.store Tryz.underlying92 (by omega) z.id (by omega) (itA z)
            rw [← hby, List.append_assoc] at hms4
            have HMS4 := Lib.hid hms4
            have HM3 := Lib.hid ((HM1.out.alloc (.cells itZc 59)).trans' hm3 (fun k hk hl => by omega))
            have hB2 := hB1.alloc (.cells itZc 59)
            clear hf hc0 hc1 HCN HCO HCT HCY HNW HNX hby hms3 hms4 hm3 HMSA HM1 hB1 hgz
            unfold itQ at hB2 hrun3 hlook
            unfold itZ at hlook
            unfold itZc at hB2 hrun3
            unfold itA at hrun3
            have c0 := hB2.cell 0; have c1 := hB2.cell 1; have c2 := hB2.cell 2; have c3 := hB2.cell 3; have c4 := hB2.cell 4; have c5 := hB2.cell 5; have c6 := hB2.cell 6; simp at c0 c1 c2 c3 c4 c5 c6
            clear hB2
            go_wp2_with fail
            go_roundg (zs.length - (j + 1))
            case measure => omega
            case rel => exact ⟨j + 1, k + 1, rfl, by omega, by simp, by rw [HTJ.out]; simp, by rw [HTJ.out]; exact HMS4.out, by omega, HCT2.out, HM3.out⟩
          | some p =>
            rw [hf] at hlook
            simp only [Option.map_some, Option.getD_some, Option.isSome_some] at hlook
            obtain ⟨hc0, hc1⟩ := HCO.out p hf
            rw [if_neg (by rw [hc1]; simp)] at HTJ
            have hms3 := HMSA.out.pure (pure_alloc (wr.alloc (.cells (itQ z) 59)) (.cells (itQ p) 59))
            have HMS4 := Lib.hid hms3
            have HM3 := Lib.hid (HM1.out.alloc (.cells (itQ p) 59))
            have hB2 := hB1.alloc (.cells (itQ p) 59)
            have hB3 := Blk.new (wr.alloc (.cells (itQ z) 59)) 59 (itQ p)
            have hneq := neqItm p z
            have hgrd := guardItm
            obtain ⟨qe, hqe⟩ : ∃ qe, itEq p z = qe := ⟨_, rfl⟩
            rw [hqe] at hc0 hneq
            rw [World.size_alloc] at hB3
            have hxx : ∀ (op : BinOp) (a b : Operand) (w : World), Sem.run Tryz.prog (eqGuard op 59 a b (itA p) (itA z)) w = .ok () w := fun op a b w => hgrd op a b p z w
            clear hgrd hf hc1 HCN HCO HNW HNX hms3 HMSA HM1 hB1 hgz hqe
            unfold itQ at hB2 hB3 hlook
            unfold itA at hneq hlook hxx
            have c0 := hB2.cell 0; have c1 := hB2.cell 1; have c2 := hB2.cell 2; have c3 := hB2.cell 3; have c4 := hB2.cell 4; have c5 := hB2.cell 5; have c6 := hB2.cell 6; simp at c0 c1 c2 c3 c4 c5 c6
            have d0 := hB3.cell 0; have d1 := hB3.cell 1; have d2 := hB3.cell 2; have d3 := hB3.cell 3; have d4 := hB3.cell 4; have d5 := hB3.cell 5; have d6 := hB3.cell 6; simp at d0 d1 d2 d3 d4 d5 d6
            clear hB2 hB3
            cases qe
            · have HCQ := Lib.hid (HCY.out (by rw [hc0]; rfl))
              clear HCT HCY hc0
              go_wp2_with fail
              refine bodyPost_ret (v := .tuple #[.map none, .int .i64 0, .int .i64 13]) (by simp [results, Tryz.results87, go_sem]) rfl ?_
              exact ⟨none, 0, 13, rfl, fun _ => ⟨rfl, rfl, rfl⟩, fun h => (by rw [HCQ.out] at h; cases h), HM3.out⟩
            · have HCQ := Lib.hid (HCT.out (by rw [hc0]; rfl))
              clear HCT HCY hc0
              go_wp2_with fail
              go_roundg (zs.length - (j + 1))
              case measure => omega
              case rel => exact ⟨j + 1, k, rfl, by omega, by simp, by rw [HTJ.out], by rw [HTJ.out]; exact HMS4.out, by omega, HCQ.out, HM3.out⟩
        · obtain rfl : j = zs.length := by omega
          rw [List.take_length] at hms hcl ⊢
          have HCF : Hid (zs.any (clash l) = false) := Lib.hid (any_false_iff.2 hcl)
          have HMX := Lib.hid (HEX.out wr bm k hms)
          have HM := Lib.hid hm
          have hnl := HNL.out
          have hlen := HMX.out.len Tryz.underlying92
          have hll := HLL.out
          clear hms hcl hm HEX HFN HTK HNL
          by_cases h0 : newsI l zs = []
          · have HN0 := Lib.hid h0
            rw [h0]
            clear hlen HTG h0
            go_wp2_with fail
            refine bodyPost_ret (v := .tuple #[.map (some bm), .int .i64 0, .int .i64 0]) (by simp [results, Tryz.results87, go_sem]) rfl ?_
            exact ⟨some bm, 0, 0, rfl, fun h => (by rw [HCF.out] at h; cases h), fun _ => ⟨by rw [if_pos HN0.out], by rw [HN0.out]; rfl, bm, rfl, hb2, HMX.out⟩, HM.out⟩
          · have hn0 : 0 < (newsI l zs).length := List.length_pos_iff.2 h0
            have HN0 := Lib.hid h0
            have HTW := Lib.hid (HTG.out wr bm HMX.out)
            generalize hnz : (newsI l zs).length = nz at *
            have HNZ := Lib.hid hnz
            have h1 : ((nz : Int) == 0) = false := by simp; omega
            have h2 : ¬ ((2000 : Int) < (L.length : Int)) := by omega
            clear hnz h0 HTG
            go_wp2_with fail
            refine HTW.out.mono ?_
            rintro e w4 ⟨rfl, m4⟩
            go_wp2_with fail
            refine bodyPost_ret (v := .tuple #[.map (some bm), .int .i64 (nz : Int), .int .i64 (storeE L)]) (by simp [results, Tryz.results87, go_sem]) rfl ?_
            exact ⟨some bm, _, _, rfl, fun h => (by rw [HCF.out] at h; cases h), fun _ => ⟨by rw [if_neg HN0.out], by rw [HNZ.out], bm, rfl, hb2, HMX.out.pure m4⟩, HM.out.trans m4⟩
    · obtain ⟨i, hi, hid, rfl⟩ := byF_at hfs
      have hsl : s.length ≤ 100 := by rw [← hid]; exact (HZL.out _ (List.getElem_mem hi)).1
      have hm22 : Pure w w2 := hm.trans' hm2 (fun k hk hl => by omega)
      have hms2 := (hms.mod hm2 (by omega)).pure (pure_alloc w2 (.cells (itQ l[i]) 59))
      obtain ⟨w3, hrun3, hms3, hm3⟩ := hms2.store Tryz.underlying92 (by omega) s (by omega) (itA l[i])
      rw [cpF_step hfs] at hms3
      have HMS := Lib.hid hms3
      have HRG3 := Lib.hid ((hrg2.pure (pure_alloc w2 (.cells (itQ l[i]) 59))).mod hm3 (by omega) (by omega))
      have HM3 := Lib.hid ((hm22.alloc (.cells (itQ l[i]) 59)).trans' hm3 (fun k hk hl => by omega))
      have hB2 := Blk.new w2 59 (itQ l[i])
      clear hsz2 hrg hrg2 hms hm hm2 hm22 hls hfs hms2 hms3 hm3
      subst hid
      generalize l[i] = x at *
      unfold itQ at hB2 hrun3
      unfold itA at hnx hen hrun3
      have c0 := hB2.cell 0; have c1 := hB2.cell 1; have c2 := hB2.cell 2; have c3 := hB2.cell 3; have c4 := hB2.cell 4; have c5 := hB2.cell 5; have c6 := hB2.cell 6; simp at c0 c1 c2 c3 c4 c5 c6
      clear hB2
      go_wp2_with fail
      go_roundg cnt2
      case measure => exact hlt2
      case rel => exact ⟨_, k + 1, HRG3.out, HMS.out, by omega, HM3.out⟩

end Go.Proofs.YtbdeicbdehgeiaaGreatDoor

/- Stores: Add, of both. -/
namespace Go.Proofs.YtbdeicbdehgeiaaGreatDoor
set_option linter.unusedVariables false
set_option linter.unusedSimpArgs false
open Go.RowKit Go.Sort

/-- The items with one more, by their ids. -/
def addL (l : List Itm) (x : Itm) : List Itm := (l ++ [x]).mergeSort fun a b => decide (a.id ≤ b.id)
theorem addL_perm (l : List Itm) (x : Itm) : (addL l x).Perm (l ++ [x]) := List.mergeSort_perm _ _
theorem dst_snoc {l : List Itm} {x : Itm} (hd : Dst l) (h : isNew l x = true) : Dst (l ++ [x]) := by
  refine List.pairwise_append.2 ⟨hd, List.pairwise_singleton _ _, fun a ha b hb => ?_⟩
  rw [List.mem_singleton.1 hb]
  exact isNew_iff.1 h a ha
theorem addL_rise {l : List Itm} {x : Itm} (hd : Dst l) (h : isNew l x = true) : Rise (addL l x) := by
  have h1 := List.pairwise_mergeSort (le := fun a b : Itm => decide (a.id ≤ b.id)) (fun a b c h1 h2 => by
    simp only [decide_eq_true_eq] at *
    exact List.le_trans h1 h2) (fun a b => by
    simp only [Bool.or_eq_true, decide_eq_true_eq]
    exact List.le_total _ _) (l ++ [x])
  have h2 : Dst (addL l x) := (dst_snoc hd h).perm (addL_perm l x)
  have h3 : (addL l x).Pairwise fun a b => a.id ≤ b.id := h1.imp fun h => by simpa using h
  exact (h3.and h2).imp fun ⟨a, b⟩ => lt_of a b
theorem addL_unique {l : List Itm} {x : Itm} (hd : Dst l) (h : isNew l x = true) {ys : List Itm} (hp : ys.Perm (l ++ [x])) (hr : Rise ys) : ys = addL l x :=
  rise_unique hr (addL_rise hd h) (fun z => by rw [hp.mem_iff, (addL_perm l x).mem_iff])
def addE (l : List Itm) (x : Itm) : Int := if itemE x ≠ 0 then itemE x else if clash l x = true then 13 else if isNew l x = true then storeE (addL l x) else 0
def addB (l : List Itm) (x : Itm) : Bool := decide (itemE x = 0) && (isNew l x && decide (storeE (addL l x) = 0))
def addN (l : List Itm) (x : Itm) : List Itm := if addB l x = true then addL l x else l
/-- What is known of a store's items. -/
structure StOk (l : List Itm) : Prop where
  rise : Rise l
  bd : ∀ x ∈ l, ItB x
  ok : storeE l = 0
theorem StOk.noloop {l : List Itm} (h : StOk l) : ∀ i, i < l.length → lpB l i = false := storeE_noloop h.ok
theorem StOk.nil : StOk [] := ⟨List.Pairwise.nil, by simp, by simp [storeE]⟩
theorem StOk.add {l : List Itm} (h : StOk l) {x : Itm} (hx : ItB x) : StOk (addN l x) := by
  unfold addN
  split
  · rename_i hb
    unfold addB at hb
    simp only [Bool.and_eq_true, decide_eq_true_eq] at hb
    refine ⟨addL_rise h.rise.dst hb.2.1, fun z hz => ?_, hb.2.2⟩
    rcases List.mem_append.1 ((addL_perm l x).mem_iff.1 hz) with hz | hz
    · exact h.bd z hz
    · rw [List.mem_singleton.1 hz]; exact hx
  · exact h
theorem addN_len (l : List Itm) (x : Itm) : (addN l x).length ≤ l.length + 1 := by
  unfold addN
  split
  · have := (addL_perm l x).length_eq
    rw [List.length_append] at this
    simp at this
    omega
  · omega
theorem clash_isNew {l : List Itm} {x : Itm} (h : isNew l x = true) : clash l x = false := by
  unfold isNew clash at *
  rw [Option.isNone_iff_eq_none.1 h]
def PAddPost (w : World) (gx : Nat) (l : List Itm) (x : Itm) (e : Ending) (w' : World) : Prop :=
  e = .returned (.tuple #[.bool (addB l x), .int .i64 (addE l x)]) ∧ (∃ b, StoAt w' gx b (addN l x)) ∧ Mod (· = gx) w w'
theorem newsI_one (l : List Itm) (x : Itm) : newsI l [x] = if isNew l x = true then [x] else [] := by
  unfold newsI
  by_cases h : isNew l x = true <;> simp [h]

set_option maxRecDepth 100000 in
set_option maxHeartbeats 4000000 in
theorem padd_calls (w : World) (gx b : Nat) (l : List Itm) (x : Itm) (hS : StoAt w gx b l) (hk : StOk l) (hl : l.length ≤ 1000) (hx : ItB x) (hE : Env w) : Calls Tryz.prog 85 #[.pointer (some ⟨gx, 0, none⟩), itA x] w (PAddPost w gx l x) := by
  have hp0 := pure_alloc w (.cells (itQ x) 59)
  have HCI := Lib.hid (checkItem_calls (w.alloc (.cells (itQ x) 59)) x hx (hE.pure hp0))
  have hB0 := Blk.new w 59 (itQ x)
  have HM0 := Lib.hid hp0
  have hd := hk.rise.dst
  have HST : Hid (∀ W, Pure w W → StoAt W gx b l) := Lib.hid (fun W h => hS.pure h)
  have HWI : Hid (∀ W, Pure w W → ∀ g, Blk W g 59 (itQ x) → Calls Tryz.prog 87 #[.pointer (some ⟨gx, 0, none⟩), .slice (some ⟨g, 0, none⟩) 1 1] W (WithPost W l [x] (if isNew l x = true then addL l x else l))) := Lib.hid (fun W h g hg => by
    refine with_calls W gx b l [x] _ _ (hS.pure h) ⟨_, 1, 1, rfl, by omega, by omega, rfl, fun _ => ⟨g, 0, rfl, hg.row (xs := itC x) (fun i u hi => by rw [Nat.zero_add, ← List.getElem?_toArray] at *; exact hi)⟩⟩ hk.bd (fun y hy => by rw [List.mem_singleton.1 hy]; exact hx) hd (List.pairwise_singleton _ _) (by simp; omega) ?_
    rw [newsI_one]
    split
    · exact addL_perm l x
    · simp)
  have HAE : Hid (addE l x = if itemE x ≠ 0 then itemE x else if clash l x = true then 13 else if isNew l x = true then storeE (addL l x) else 0) := Lib.hid rfl
  have HAB : Hid (addB l x = (decide (itemE x = 0) && (isNew l x && decide (storeE (addL l x) = 0)))) := Lib.hid rfl
  have HAN : Hid (addN l x = if addB l x = true then addL l x else l) := Lib.hid rfl
  have HNW := Lib.hid (newsI_one l x)
  have HCN := Lib.hid (fun h => clash_isNew (l := l) (x := x) h)
  have hgx := hS.1.lt
  unfold PAddPost
  clear hS hk hx hE hp0 hd
  generalize addE l x = ae at *
  generalize addN l x = an at *
  generalize addB l x = ab at *
  generalize itemE x = ie at *
  unfold itQ at hB0 HM0
  unfold itQ at HCI HWI
  unfold itA at HCI ⊢
  have c0 := hB0.cell 0; have c1 := hB0.cell 1; have c2 := hB0.cell 2; have c3 := hB0.cell 3; have c4 := hB0.cell 4; have c5 := hB0.cell 5; have c6 := hB0.cell 6; simp at c0 c1 c2 c3 c4 c5 c6
  have HB0 := Lib.hid hB0
  clear hB0
  go_enter Tryz.func85, Tryz.ntmps85
  go_wp2_with fail
  refine HCI.out.mono ?_
  rintro e w1 ⟨rfl, m1⟩
  have HM1 := Lib.hid (HM0.out.trans m1)
  have hB1 := HB0.out.modp m1
  have d0 := hB1.cell 0; have d1 := hB1.cell 1; have d2 := hB1.cell 2; have d3 := hB1.cell 3; have d4 := hB1.cell 4; have d5 := hB1.cell 5; have d6 := hB1.cell 6; simp at d0 d1 d2 d3 d4 d5 d6
  clear HCI HM0 HB0 hB1 m1 c0 c1 c2 c3 c4 c5 c6
  by_cases h0 : ie = 0
  · subst h0
    have HWC := Lib.hid (HWI.out (w1.alloc (.cells #[.string ⟨x.id.toArray⟩, .string ⟨x.cust.toArray⟩, .int .i64 x.kind, .string ⟨x.name.toArray⟩, .int .i64 x.tm, .string ⟨x.par.toArray⟩, .string ⟨x.text.toArray⟩] 59)) (HM1.out.alloc _) _ (Blk.new _ _ _))
    have HM2 := Lib.hid (HM1.out.alloc (.cells #[.string ⟨x.id.toArray⟩, .string ⟨x.cust.toArray⟩, .int .i64 x.kind, .string ⟨x.name.toArray⟩, .int .i64 x.tm, .string ⟨x.par.toArray⟩, .string ⟨x.text.toArray⟩] 59))
    have hsz := HM2.out.size
    clear HWI HM1
    go_wp2_with fail
    refine HWC.out.mono ?_
    rintro e w2 ⟨mv, k, er, rfl, h1, h2, m2⟩
    have HM3 := Lib.hid (HM2.out.trans m2)
    have HH1 := Lib.hid h1
    have HH2 := Lib.hid h2
    clear HWC HM2 h1 h2 m2
    by_cases hc : clash l x = true
    · obtain ⟨rfl, rfl, rfl⟩ := HH1.out (by simp [hc])
      have hnw : isNew l x = false := by
        cases hn : isNew l x
        · rfl
        · rw [HCN.out hn] at hc; cases hc
      have HA1 : Hid (ae = 13) := Lib.hid (by rw [HAE.out]; simp [hc])
      have HA2 : Hid (ab = false) := Lib.hid (by rw [HAB.out, hnw]; simp)
      have HS3 := Lib.hid (HST.out _ HM3.out)
      clear HH1 HH2 HCN HNW HAE HAB HST hnw hc
      go_wp2_with fail
      refine bodyPost_ret (v := .tuple #[.bool false, .int .i64 13]) (by simp [results, Tryz.results85, go_sem]) rfl ?_
      refine ⟨by rw [HA1.out, HA2.out], ⟨b, ?_⟩, Mod.of_pure HM3.out⟩
      rw [HAN.out, HA2.out]
      exact HS3.out
    · have hc2 : clash l x = false := by simpa using hc
      obtain ⟨her, hkk, b2, rfl, hb2, hM2⟩ := HH2.out (by simp [hc2])
      have hb2w : gx < b2 := by omega
      have HMX := Lib.hid hM2
      have HBX := Lib.hid (HST.out _ HM3.out).1
      rw [HNW.out] at her hkk
      by_cases hn : isNew l x = true
      · rw [if_pos hn, if_neg (by simp), if_pos hn] at her
        rw [if_pos hn] at hkk
        rw [if_pos hn] at HMX
        have hkk2 : k = 1 := hkk
        subst hkk2
        by_cases hse : storeE (addL l x) = 0
        · rw [hse] at her
          subst her
          have HA1 : Hid (ae = 0) := Lib.hid (by rw [HAE.out]; simp [hc2, hn, hse])
          have HA2 : Hid (ab = true) := Lib.hid (by rw [HAB.out]; simp [hn, hse])
          have HS4 : Hid (StoAt (w2.setCell ⟨gx, 0, none⟩ (.map (some b2))) gx b2 (addL l x)) := Lib.hid ⟨HBX.out.set 0 _, HMX.out.mod (Mod.setCell (S := fun j => j = gx) (p := ⟨gx, 0, none⟩) (Mod.refl _ _) (.inl rfl) _) (by omega)⟩
          have HM4 : Hid (Mod (· = gx) w (w2.setCell ⟨gx, 0, none⟩ (.map (some b2)))) := Lib.hid (Mod.setCell (S := fun j => j = gx) (p := ⟨gx, 0, none⟩) (Mod.of_pure HM3.out) (.inl rfl) _)
          have hBX := HBX.out
          have z0 := hBX.cell 0; have zf0 := hBX.frozen 0; simp at z0
          clear HH1 HH2 HCN HNW HAE HAB HST hc hc2 hn hse hkk hM2 HMX HBX hBX
          go_wp2_with fail
          refine bodyPost_ret (v := .tuple #[.bool true, .int .i64 0]) (by simp [results, Tryz.results85, go_sem]) rfl ?_
          refine ⟨by rw [HA1.out, HA2.out], ⟨b2, ?_⟩, HM4.out⟩
          rw [HAN.out, HA2.out]
          exact HS4.out
        · have HA1 : Hid (ae = er) := Lib.hid (by rw [HAE.out, her]; simp [hc2, hn])
          have HA2 : Hid (ab = false) := Lib.hid (by rw [HAB.out]; simp [hse])
          have her0 : (er != 0) = true := by rw [her]; simpa using hse
          have HS3 := Lib.hid (HST.out _ HM3.out)
          clear HH1 HH2 HCN HNW HAE HAB HST hc hc2 hn hse hkk hM2 HMX HBX her
          go_wp2_with fail
          refine bodyPost_ret (v := .tuple #[.bool false, .int .i64 er]) (by simp [results, Tryz.results85, go_sem]) rfl ?_
          refine ⟨by rw [HA1.out, HA2.out], ⟨b, ?_⟩, Mod.of_pure HM3.out⟩
          rw [HAN.out, HA2.out]
          exact HS3.out
      · rw [if_neg hn, if_pos rfl] at her
        rw [if_neg hn] at hkk
        rw [if_neg hn] at HMX
        have hkk2 : k = 0 := hkk
        subst hkk2
        subst her
        have HA1 : Hid (ae = 0) := Lib.hid (by rw [HAE.out]; simp [hc2, hn])
        have HA2 : Hid (ab = false) := Lib.hid (by rw [HAB.out]; simp [hn])
        have HS4 : Hid (StoAt (w2.setCell ⟨gx, 0, none⟩ (.map (some b2))) gx b2 l) := Lib.hid ⟨HBX.out.set 0 _, HMX.out.mod (Mod.setCell (S := fun j => j = gx) (p := ⟨gx, 0, none⟩) (Mod.refl _ _) (.inl rfl) _) (by omega)⟩
        have HM4 : Hid (Mod (· = gx) w (w2.setCell ⟨gx, 0, none⟩ (.map (some b2)))) := Lib.hid (Mod.setCell (S := fun j => j = gx) (p := ⟨gx, 0, none⟩) (Mod.of_pure HM3.out) (.inl rfl) _)
        have hBX := HBX.out
        have z0 := hBX.cell 0; have zf0 := hBX.frozen 0; simp at z0
        clear HH1 HH2 HCN HNW HAE HAB HST hc hc2 hn hkk hM2 HMX HBX hBX
        go_wp2_with fail
        refine bodyPost_ret (v := .tuple #[.bool false, .int .i64 0]) (by simp [results, Tryz.results85, go_sem]) rfl ?_
        refine ⟨by rw [HA1.out, HA2.out], ⟨b2, ?_⟩, HM4.out⟩
        rw [HAN.out, HA2.out]
        exact HS4.out
  · have h0' : (ie != 0) = true := by simpa using h0
    have HA1 : Hid (ae = ie) := Lib.hid (by rw [HAE.out, if_pos h0])
    have HA2 : Hid (ab = false) := Lib.hid (by rw [HAB.out]; simp [h0])
    have HS3 := Lib.hid (HST.out _ HM1.out)
    clear HCN HNW HAE HAB HST HWI h0
    go_wp2_with fail
    refine bodyPost_ret (v := .tuple #[.bool false, .int .i64 ie]) (by simp [results, Tryz.results85, go_sem]) rfl ?_
    refine ⟨by rw [HA1.out, HA2.out], ⟨b, ?_⟩, Mod.of_pure HM1.out⟩
    rw [HAN.out, HA2.out]
    exact HS3.out

end Go.Proofs.YtbdeicbdehgeiaaGreatDoor

/- Stores: Add of the reference. -/
namespace Go.Proofs.YtbdeicbdehgeiaaGreatDoor
set_option linter.unusedVariables false
set_option linter.unusedSimpArgs false
open Go.RowKit Go.Sort

def RAddPost (w : World) (gy : Nat) (l : List Itm) (x : Itm) (e : Ending) (w' : World) : Prop :=
  e = .returned (.tuple #[.bool (addB l x), .int .i64 (addE l x)]) ∧ (∃ v, RSto w' gy v (addN l x)) ∧ Mod (· = gy) w w'
theorem fnd_at {l : List Itm} {s : Str} {k : Nat} (h : plc l s = some k) : ∃ hk : k < l.length, fnd l s = some l[k] := by
  obtain ⟨hk, _⟩ := plc_lt _ _ _ h
  exact ⟨hk, fnd_plc h hk⟩

set_option maxRecDepth 100000 in
set_option maxHeartbeats 8000000 in
theorem radd_calls (w : World) (gy : Nat) (v : Value) (l : List Itm) (x : Itm) (hS : RSto w gy v l) (hk : StOk l) (hl : l.length ≤ 1000) (hx : ItB x) (hE : Env w) : Calls Tryz.prog 86 #[.pointer (some ⟨gy, 0, none⟩), itA x] w (RAddPost w gy l x) := by
  obtain ⟨i0, hi0, hz0, hz1, hz2⟩ := info_parts info_item7
  have hp0 := pure_alloc w (.cells (itQ x) 59)
  have HCI := Lib.hid (itemFault_calls (w.alloc (.cells (itQ x) 59)) x hx (hE.pure hp0))
  have hB0 := Blk.new w 59 (itQ x)
  have HM0 := Lib.hid hp0
  have hd := hk.rise.dst
  have HST : Hid (∀ W, Pure w W → RSto W gy v l) := Lib.hid (fun W h => hS.pure h)
  have HPL : Hid (∀ W, Pure w W → Calls Tryz.prog 49 #[v, .string ⟨x.id.toArray⟩] W (IntPost W (plcZ l x.id))) := Lib.hid (fun W h => place_calls W v l x.id (hS.pure h).2.1)
  have HCL : Hid (∀ W, Pure w W → Calls Tryz.prog 24 #[v] W (ClnPost W l)) := Lib.hid (fun W h => cloneI_calls W v l (hS.pure h).2.1 hS.2.2 (by omega))
  have HSRT : Hid (isNew l x = true → ∀ W u, Its W u (l ++ [x]) → Own0 u → Calls Tryz.prog 88 #[u] W (RsoPost W (l ++ [x]))) := Lib.hid (fun hn W u h h0 => rsorted_calls W u (l ++ [x]) h h0 (by simp; omega) (dst_snoc hd hn))
  have HUQ := Lib.hid (fun (hn : isNew l x = true) ys h1 h2 => addL_unique hd hn (ys := ys) h1 h2)
  have HSF : Hid (∀ W u, Its W u (addL l x) → Calls Tryz.prog 89 #[u] W (IntPost W (storeE (addL l x)))) := Lib.hid (fun W u h => storeFault_calls W u _ h (by have := (addL_perm l x).length_eq; simp at this; omega))
  have HAE : Hid (addE l x = if itemE x ≠ 0 then itemE x else if clash l x = true then 13 else if isNew l x = true then storeE (addL l x) else 0) := Lib.hid rfl
  have HAB : Hid (addB l x = (decide (itemE x = 0) && (isNew l x && decide (storeE (addL l x) = 0)))) := Lib.hid rfl
  have HAN : Hid (addN l x = if addB l x = true then addL l x else l) := Lib.hid rfl
  have hgy := hS.1.lt
  have HIV := Lib.hid (itV_snoc l x)
  obtain ⟨A, n, c, rfl⟩ := hS.2.1.form
  have hln : l.length = n := by
    obtain ⟨_, _, _, hf, _, _, hl2, _⟩ := hS.2.1
    cases hf
    rw [itV_len] at hl2
    omega
  subst hln
  have HCELL : Hid (∀ k (hk : k < l.length), ∃ g off, A = some ⟨g, off, none⟩ ∧ ∀ W, Pure w W → RowAt W 59 g off (itV l)) := Lib.hid (fun k hk => by
    obtain ⟨_, _, _, hf, _, _, _, hr⟩ := hS.2.1
    cases hf
    obtain ⟨g, off, h1, h2⟩ := hr (by omega)
    exact ⟨g, off, h1, fun W h => h2.mod h id⟩)
  unfold RAddPost
  clear hS hk hx hE hp0 hd
  generalize addE l x = ae at *
  generalize addN l x = an at *
  generalize addB l x = ab at *
  generalize itemE x = ie at *
  unfold itQ at hB0 HM0
  unfold itQ at HCI
  unfold itA at HCI ⊢
  unfold itC at HIV
  have c0 := hB0.cell 0; have c1 := hB0.cell 1; have c2 := hB0.cell 2; have c3 := hB0.cell 3; have c4 := hB0.cell 4; have c5 := hB0.cell 5; have c6 := hB0.cell 6; simp at c0 c1 c2 c3 c4 c5 c6
  have HB0 := Lib.hid hB0
  clear hB0
  go_enter Tryz.func86, Tryz.ntmps86
  go_wp2_with fail
  refine HCI.out.mono ?_
  rintro e w1 ⟨rfl, m1⟩
  have HM1 := Lib.hid (HM0.out.trans m1)
  have HB1 := Lib.hid (HB0.out.modp m1)
  obtain ⟨g3, hg3⟩ : ∃ g3, g3 = w.heap.size := ⟨_, rfl⟩
  have hg3a := Nat.le_of_eq hg3
  have hg3b := Nat.le_of_eq hg3.symm
  rw [← hg3] at HB1 ⊢
  clear HCI HM0 HB0 m1 c0 c1 c2 c3 c4 c5 c6 hg3
  have hg3w : g3 < w1.heap.size := HB1.out.lt
  have hgyw : gy < w1.heap.size := by omega
  by_cases h0 : ie = 0
  · subst h0
    have HPW : Hid (∀ W, Pure w1 W → Pure w W) := Lib.hid (fun W h => HM1.out.trans h)
    have HBG : Hid (∀ W, Pure w1 W → Blk W gy 75 #[.slice A l.length c]) := Lib.hid (fun W h => (HST.out W (HM1.out.trans h)).1)
    have HBX : Hid (∀ W, Pure w1 W → Blk W g3 59 #[.string ⟨x.id.toArray⟩, .string ⟨x.cust.toArray⟩, .int .i64 x.kind, .string ⟨x.name.toArray⟩, .int .i64 x.tm, .string ⟨x.par.toArray⟩, .string ⟨x.text.toArray⟩]) := Lib.hid (fun W h => HB1.out.modp h)
    obtain ⟨z, hzz⟩ : ∃ z, plcZ l x.id = z := ⟨_, rfl⟩
    have HZZ := Lib.hid hzz
    rw [hzz] at HPL
    clear hzz
    go_wp2_with fail
    have HGs := Lib.hid (show ∀ (D : Nat → Bool) (zzi : Nat) (zq zq' : World), (fun _ zq => (fun Z => gy < Z.heap.size) zq) D zq → Mod (fun _ => False) zq zq' → (fun _ zq => (fun Z => gy < Z.heap.size) zq) (upd D zzi true) zq' from by intro D zzi zq zq' h hm; (exact Nat.lt_of_lt_of_le h hm.size))
    refine wp_region_inv (by kernel_rfl) (by kernel_rfl) (InvF (R := Mod (fun _ => False)) [.is (.pointer (some ⟨gy, 0, none⟩)),
        .is (.pointer (some ⟨gy, 0, none⟩)),
        .is (.pointer (some ⟨gy, 0, none⟩)),
        .is (.slice A l.length c),
        .is (.pointer (some ⟨g3, 0, none⟩)),
        .is (.string ⟨x.id.toArray⟩),
        .is (.int .i64 z),
        .is (.int .i64 z)]
        (PB w1 (fun _ => False) w1.heap.size (fun _ zq => (fun Z => gy < Z.heap.size) zq))) (InvF.start (PB.start (Mod.refl _ _) (Nat.le_refl _) (hgyw))) ?_ ?_
    · refine .cons ?_ (.cons ?_ (.cons ?_ (.cons ?_ (.cons ?_ (.cons ?_ (.cons ?_ (.cons ?_ .nil)))))))
      · intro D V zw1 a hR hI K hK   -- 0: Op.move (Operand.tmp 0)
        obtain ⟨hM1, hB1, hG1⟩ := hI.1
        have ze0 := hR.frame.other (t := 0) (by kernel_rfl) rfl
        rw [if_pos (by rfl)]
        go_simp
        exact hK (.pointer (some ⟨gy, 0, none⟩)) _ (hI.next hR (by kernel_rfl) (Mod.refl _ _) (PB.quiet hI.1 (Mod.refl _ _) (HGs.out D 0 zw1 zw1 (hI.1).g (Mod.refl _ _))) (upd_same V 0 _))
      · intro D V zw1 a hR hI K hK   -- 1: Op.nilCheck (Operand.tmp 15)
        obtain ⟨hM1, hB1, hG1⟩ := hI.1
        have zd0 := hR.pred 0 (by kernel_rfl)
        have zF0 : V 0 = .pointer (some ⟨gy, 0, none⟩) := hI.2 0 zd0 rfl
        have zf0 := zF0; clear zF0
        have ze15 := hR.frame.done (t := 15) (j := 0) (by kernel_rfl) hR.ok zd0
        rw [if_pos (by rfl)]
        go_simp
        exact hK (.pointer (some ⟨gy, 0, none⟩)) _ (hI.next hR (by kernel_rfl) (Mod.refl _ _) (PB.quiet hI.1 (Mod.refl _ _) (HGs.out D 1 zw1 zw1 (hI.1).g (Mod.refl _ _))) (upd_same V 1 _))
      · intro D V zw1 a hR hI K hK   -- 2: Op.fieldAddr 75 (Operand.tmp 16) 0
        obtain ⟨hM1, hB1, hG1⟩ := hI.1
        have zd1 := hR.pred 1 (by kernel_rfl)
        have zF1 : V 1 = .pointer (some ⟨gy, 0, none⟩) := hI.2 1 zd1 rfl
        have zf1 := zF1; clear zF1
        have ze16 := hR.frame.done (t := 16) (j := 1) (by kernel_rfl) hR.ok zd1
        rw [if_pos (by rfl)]
        go_simp
        exact hK (.pointer (some ⟨gy, 0, none⟩)) _ (hI.next hR (by kernel_rfl) (Mod.refl _ _) (PB.quiet hI.1 (Mod.refl _ _) (HGs.out D 2 zw1 zw1 (hI.1).g (Mod.refl _ _))) (upd_same V 2 _))
      · intro D V zw1 a hR hI K hK   -- 3: Op.load 26 (Operand.tmp 17)
        obtain ⟨hM1, hB1, hG1⟩ := hI.1
        have zd2 := hR.pred 2 (by kernel_rfl)
        have zF2 : V 2 = .pointer (some ⟨gy, 0, none⟩) := hI.2 2 zd2 rfl
        have zf2 := zF2; clear zF2
        have ze17 := hR.frame.done (t := 17) (j := 2) (by kernel_rfl) hR.ok zd2
        have zx0 := (HBG.out zw1 hM1).cell 0; have zy0 := (HBG.out zw1 hM1).frozen 0; simp at zx0
        rw [if_pos (by rfl)]
        go_simp
        exact hK (.slice A l.length c) _ (hI.next hR (by kernel_rfl) (Mod.refl _ _) (PB.quiet hI.1 (Mod.refl _ _) (HGs.out D 3 zw1 zw1 (hI.1).g (Mod.refl _ _))) (upd_same V 3 _))
      · intro D V zw1 a hR hI K hK   -- 4: Op.fieldAddr 59 (Operand.tmp 3) 0
        obtain ⟨hM1, hB1, hG1⟩ := hI.1
        have ze3 := hR.frame.other (t := 3) (by kernel_rfl) rfl
        rw [if_pos (by rfl)]
        go_simp
        exact hK (.pointer (some ⟨g3, 0, none⟩)) _ (hI.next hR (by kernel_rfl) (Mod.refl _ _) (PB.quiet hI.1 (Mod.refl _ _) (HGs.out D 4 zw1 zw1 (hI.1).g (Mod.refl _ _))) (upd_same V 4 _))
      · intro D V zw1 a hR hI K hK   -- 5: Op.load 9 (Operand.tmp 19)
        obtain ⟨hM1, hB1, hG1⟩ := hI.1
        have zd4 := hR.pred 4 (by kernel_rfl)
        have zF4 : V 4 = .pointer (some ⟨g3, 0, none⟩) := hI.2 4 zd4 rfl
        have zf4 := zF4; clear zF4
        have ze19 := hR.frame.done (t := 19) (j := 4) (by kernel_rfl) hR.ok zd4
        have zx0 := (HBX.out zw1 hM1).cell 0; have zy0 := (HBX.out zw1 hM1).frozen 0; simp at zx0
        rw [if_pos (by rfl)]
        go_simp
        exact hK (.string ⟨x.id.toArray⟩) _ (hI.next hR (by kernel_rfl) (Mod.refl _ _) (PB.quiet hI.1 (Mod.refl _ _) (HGs.out D 5 zw1 zw1 (hI.1).g (Mod.refl _ _))) (upd_same V 5 _))
      · intro D V zw1 a hR hI K hK   -- 6: Op.call { callee := Callee.value (Operand.func 49), args := #[Operand.
        obtain ⟨hM1, hB1, hG1⟩ := hI.1
        have zd3 := hR.pred 3 (by kernel_rfl)
        have zF3 : V 3 = .slice A l.length c := hI.2 3 zd3 rfl
        have zf3 := zF3; clear zF3
        have zd5 := hR.pred 5 (by kernel_rfl)
        have zF5 : V 5 = .string ⟨x.id.toArray⟩ := hI.2 5 zd5 rfl
        have zf5 := zF5; clear zF5
        have ze18 := hR.frame.done (t := 18) (j := 3) (by kernel_rfl) hR.ok zd3
        have ze20 := hR.frame.done (t := 20) (j := 5) (by kernel_rfl) hR.ok zd5
        rw [if_pos (by rfl)]
        go_simp
        refine (HPL.out zw1 (HPW.out zw1 hM1)).mono ?_
        rintro e zw2 ⟨rfl, hm2⟩
        exact hK (.int .i64 z) _ (hI.next hR (by kernel_rfl) hm2 (PB.quiet hI.1 hm2 (HGs.out D 6 _ _ (hI.1).g hm2)) (upd_same V 6 _))
      · intro D V zw1 a hR hI K hK   -- 7: Op.assign (Operand.tmp 21)
        obtain ⟨hM1, hB1, hG1⟩ := hI.1
        have zd6 := hR.pred 6 (by kernel_rfl)
        have zF6 : V 6 = .int .i64 z := hI.2 6 zd6 rfl
        have zf6 := zF6; clear zF6
        have ze21 := hR.frame.done (t := 21) (j := 6) (by kernel_rfl) hR.ok zd6
        rw [if_pos (by rfl)]
        go_simp
        exact hK (.int .i64 z) _ (hI.next hR (by kernel_rfl) (Mod.refl _ _) (PB.quiet hI.1 (Mod.refl _ _) (HGs.out D 7 zw1 zw1 (hI.1).g (Mod.refl _ _))) (upd_same V 7 _))
    · intro D V w2 hD hI
      obtain ⟨hM1, hB1, hG1⟩ := hI.1
      have hMx := hM1
      clear hM1
      have hBx := hB1
      clear hB1
      have hGx := hG1
      clear hG1
      have zF0 : V 0 = .pointer (some ⟨gy, 0, none⟩) := hI.2 0 (hD 0 (by decide)) rfl
      have zf0 := zF0; clear zF0
      have zF1 : V 1 = .pointer (some ⟨gy, 0, none⟩) := hI.2 1 (hD 1 (by decide)) rfl
      have zf1 := zF1; clear zF1
      have zF2 : V 2 = .pointer (some ⟨gy, 0, none⟩) := hI.2 2 (hD 2 (by decide)) rfl
      have zf2 := zF2; clear zF2
      have zF3 : V 3 = .slice A l.length c := hI.2 3 (hD 3 (by decide)) rfl
      have zf3 := zF3; clear zF3
      have zF4 : V 4 = .pointer (some ⟨g3, 0, none⟩) := hI.2 4 (hD 4 (by decide)) rfl
      have zf4 := zF4; clear zF4
      have zF5 : V 5 = .string ⟨x.id.toArray⟩ := hI.2 5 (hD 5 (by decide)) rfl
      have zf5 := zF5; clear zF5
      have zF6 : V 6 = .int .i64 z := hI.2 6 (hD 6 (by decide)) rfl
      have zf6 := zF6; clear zF6
      have zF7 : V 7 = .int .i64 z := hI.2 7 (hD 7 (by decide)) rfl
      have zf7 := zF7; clear zF7
      clear hI hD HGs
      simp only [frAll, Act.put, List.setIfInBounds_toArray, List.set_cons_zero, List.set_cons_succ, Nat.zero_add, Nat.reduceAdd, zf0, zf1, zf2, zf3, zf4, zf5, zf6, zf7]
      clear zf0 zf1 zf2 zf3 zf4 zf5 zf6 zf7
      clear V D
      have HM2 := Lib.hid hMx
      clear HPL
      cases hpl : plc l x.id with
      | some k =>
        obtain ⟨hk, hfk⟩ := fnd_at hpl
        obtain ⟨hc0, hn0⟩ := clash_old hfk
        have hz : z = (k : Int) := by rw [← HZZ.out]; unfold plcZ; rw [hpl]
        subst hz
        have hk0 : (0 : Int) ≤ (k : Int) := by omega
        have hk1 : (k : Int) < (l.length : Int) := by omega
        obtain ⟨gr, off, rfl, hrow⟩ := HCELL.out k hk
        have HCK : Hid (∀ W, Pure w2 W → _) := Lib.hid (fun W (h : Pure w2 W) => item_cells (hrow W (HPW.out W (HM2.out.trans h))) hk)
        have HBX2 : Hid (∀ W, Pure w2 W → _) := Lib.hid (fun W (h : Pure w2 W) => HBX.out W (HM2.out.trans h))
        have HBG2 : Hid (∀ W, Pure w2 W → _) := Lib.hid (fun W (h : Pure w2 W) => HBG.out W (HM2.out.trans h))
        have heq := eqlItm l[k] x
        have hgrd : ∀ (op : BinOp) (a b : Operand) (w : World), Sem.run Tryz.prog (eqGuard op 59 a b (itA l[k]) (itA x)) w = .ok () w := fun op a b w => guardItm op a b l[k] x w
        obtain ⟨qe, hqe⟩ : ∃ qe, itEq l[k] x = qe := ⟨_, rfl⟩
        rw [hqe] at hc0 heq
        have hgyw2 : gy < w2.heap.size := by have := hMx.size; omega
        have HA2 : Hid (ab = false) := Lib.hid (by rw [HAB.out, hn0]; simp)
        have HA1 : Hid (ae = if qe = true then 0 else 13) := Lib.hid (by rw [HAE.out, hc0, hn0]; cases qe <;> rfl)
        have HF := Lib.hid (HST.out w2 (HPW.out w2 HM2.out))
        clear HSRT HUQ HSF HAE HAB HZZ hpl hfk hc0 hn0 hrow hqe HCL HBG HBX HCELL hMx
        generalize l[k] = y at *
        unfold itA at heq hgrd
        go_wp2_with fail
        have HGs := Lib.hid (show ∀ (D : Nat → Bool) (zzi : Nat) (zq zq' : World), (fun _ zq => (fun Z => gy < Z.heap.size) zq) D zq → Mod (fun _ => False) zq zq' → (fun _ zq => (fun Z => gy < Z.heap.size) zq) (upd D zzi true) zq' from by intro D zzi zq zq' h hm; (exact Nat.lt_of_lt_of_le h hm.size))
        refine wp_region_inv (by kernel_rfl) (by kernel_rfl) (InvF (R := Mod (fun _ => False)) [.is (.pointer (some ⟨gy, 0, none⟩)),
            .is (.pointer (some ⟨gy, 0, none⟩)),
            .is (.pointer (some ⟨gy, 0, none⟩)),
            .is (.slice (some ⟨gr, off, none⟩) l.length c),
            .is (.int .i64 (k : Int)),
            .is (.pointer (some ⟨gr, off + k * 7, none⟩)),
            .is (.agg #[.string ⟨y.id.toArray⟩, .string ⟨y.cust.toArray⟩, .int .i64 y.kind, .string ⟨y.name.toArray⟩, .int .i64 y.tm, .string ⟨y.par.toArray⟩, .string ⟨y.text.toArray⟩]),
            .is (.agg #[.string ⟨x.id.toArray⟩, .string ⟨x.cust.toArray⟩, .int .i64 x.kind, .string ⟨x.name.toArray⟩, .int .i64 x.tm, .string ⟨x.par.toArray⟩, .string ⟨x.text.toArray⟩]),
            .is (.bool qe)]
            (PB w2 (fun _ => False) w2.heap.size (fun _ zq => (fun Z => gy < Z.heap.size) zq))) (InvF.start (PB.start (Mod.refl _ _) (Nat.le_refl _) (hgyw2))) ?_ ?_
        · refine .cons ?_ (.cons ?_ (.cons ?_ (.cons ?_ (.cons ?_ (.cons ?_ (.cons ?_ (.cons ?_ (.cons ?_ .nil))))))))
          · intro D V zw1 a hR hI K hK   -- 0: Op.move (Operand.tmp 0)
            obtain ⟨hM1, hB1, hG1⟩ := hI.1
            have ze0 := hR.frame.other (t := 0) (by kernel_rfl) rfl
            rw [if_pos (by rfl)]
            go_simp
            exact hK (.pointer (some ⟨gy, 0, none⟩)) _ (hI.next hR (by kernel_rfl) (Mod.refl _ _) (PB.quiet hI.1 (Mod.refl _ _) (HGs.out D 0 zw1 zw1 (hI.1).g (Mod.refl _ _))) (upd_same V 0 _))
          · intro D V zw1 a hR hI K hK   -- 1: Op.nilCheck (Operand.tmp 24)
            obtain ⟨hM1, hB1, hG1⟩ := hI.1
            have zd0 := hR.pred 0 (by kernel_rfl)
            have zF0 : V 0 = .pointer (some ⟨gy, 0, none⟩) := hI.2 0 zd0 rfl
            have zf0 := zF0; clear zF0
            have ze24 := hR.frame.done (t := 24) (j := 0) (by kernel_rfl) hR.ok zd0
            rw [if_pos (by rfl)]
            go_simp
            exact hK (.pointer (some ⟨gy, 0, none⟩)) _ (hI.next hR (by kernel_rfl) (Mod.refl _ _) (PB.quiet hI.1 (Mod.refl _ _) (HGs.out D 1 zw1 zw1 (hI.1).g (Mod.refl _ _))) (upd_same V 1 _))
          · intro D V zw1 a hR hI K hK   -- 2: Op.fieldAddr 75 (Operand.tmp 25) 0
            obtain ⟨hM1, hB1, hG1⟩ := hI.1
            have zd1 := hR.pred 1 (by kernel_rfl)
            have zF1 : V 1 = .pointer (some ⟨gy, 0, none⟩) := hI.2 1 zd1 rfl
            have zf1 := zF1; clear zF1
            have ze25 := hR.frame.done (t := 25) (j := 1) (by kernel_rfl) hR.ok zd1
            rw [if_pos (by rfl)]
            go_simp
            exact hK (.pointer (some ⟨gy, 0, none⟩)) _ (hI.next hR (by kernel_rfl) (Mod.refl _ _) (PB.quiet hI.1 (Mod.refl _ _) (HGs.out D 2 zw1 zw1 (hI.1).g (Mod.refl _ _))) (upd_same V 2 _))
          · intro D V zw1 a hR hI K hK   -- 3: Op.load 26 (Operand.tmp 26)
            obtain ⟨hM1, hB1, hG1⟩ := hI.1
            have zd2 := hR.pred 2 (by kernel_rfl)
            have zF2 : V 2 = .pointer (some ⟨gy, 0, none⟩) := hI.2 2 zd2 rfl
            have zf2 := zF2; clear zF2
            have ze26 := hR.frame.done (t := 26) (j := 2) (by kernel_rfl) hR.ok zd2
            have zx0 := (HBG2.out zw1 hM1).cell 0; have zy0 := (HBG2.out zw1 hM1).frozen 0; simp at zx0
            rw [if_pos (by rfl)]
            go_simp
            exact hK (.slice (some ⟨gr, off, none⟩) l.length c) _ (hI.next hR (by kernel_rfl) (Mod.refl _ _) (PB.quiet hI.1 (Mod.refl _ _) (HGs.out D 3 zw1 zw1 (hI.1).g (Mod.refl _ _))) (upd_same V 3 _))
          · intro D V zw1 a hR hI K hK   -- 4: Op.move (Operand.tmp 7)
            obtain ⟨hM1, hB1, hG1⟩ := hI.1
            have ze7 := hR.frame.other (t := 7) (by kernel_rfl) rfl
            rw [if_pos (by rfl)]
            go_simp
            exact hK (.int .i64 (k : Int)) _ (hI.next hR (by kernel_rfl) (Mod.refl _ _) (PB.quiet hI.1 (Mod.refl _ _) (HGs.out D 4 zw1 zw1 (hI.1).g (Mod.refl _ _))) (upd_same V 4 _))
          · intro D V zw1 a hR hI K hK   -- 5: Op.indexAddr 26 (Operand.tmp 27) (Operand.tmp 28)
            obtain ⟨hM1, hB1, hG1⟩ := hI.1
            have zd3 := hR.pred 3 (by kernel_rfl)
            have zF3 : V 3 = .slice (some ⟨gr, off, none⟩) l.length c := hI.2 3 zd3 rfl
            have zf3 := zF3; clear zF3
            have zd4 := hR.pred 4 (by kernel_rfl)
            have zF4 : V 4 = .int .i64 (k : Int) := hI.2 4 zd4 rfl
            have zf4 := zF4; clear zF4
            have ze27 := hR.frame.done (t := 27) (j := 3) (by kernel_rfl) hR.ok zd3
            have ze28 := hR.frame.done (t := 28) (j := 4) (by kernel_rfl) hR.ok zd4
            rw [if_pos (by rfl)]
            go_simp
            exact hK (.pointer (some ⟨gr, off + k * 7, none⟩)) _ (hI.next hR (by kernel_rfl) (Mod.refl _ _) (PB.quiet hI.1 (Mod.refl _ _) (HGs.out D 5 zw1 zw1 (hI.1).g (Mod.refl _ _))) (upd_same V 5 _))
          · intro D V zw1 a hR hI K hK   -- 6: Op.load 59 (Operand.tmp 29)
            obtain ⟨hM1, hB1, hG1⟩ := hI.1
            have zd5 := hR.pred 5 (by kernel_rfl)
            have zF5 : V 5 = .pointer (some ⟨gr, off + k * 7, none⟩) := hI.2 5 zd5 rfl
            have zf5 := zF5; clear zF5
            have ze29 := hR.frame.done (t := 29) (j := 5) (by kernel_rfl) hR.ok zd5
            obtain ⟨zx0, zx1, zx2, zx3, zx4, zx5, zx6⟩ := HCK.out zw1 hM1
            rw [if_pos (by rfl)]
            go_simp
            exact hK (.agg #[.string ⟨y.id.toArray⟩, .string ⟨y.cust.toArray⟩, .int .i64 y.kind, .string ⟨y.name.toArray⟩, .int .i64 y.tm, .string ⟨y.par.toArray⟩, .string ⟨y.text.toArray⟩]) _ (hI.next hR (by kernel_rfl) (Mod.refl _ _) (PB.quiet hI.1 (Mod.refl _ _) (HGs.out D 6 zw1 zw1 (hI.1).g (Mod.refl _ _))) (upd_same V 6 _))
          · intro D V zw1 a hR hI K hK   -- 7: Op.load 59 (Operand.tmp 3)
            obtain ⟨hM1, hB1, hG1⟩ := hI.1
            have ze3 := hR.frame.other (t := 3) (by kernel_rfl) rfl
            have zx0 := (HBX2.out zw1 hM1).cell 0; have zy0 := (HBX2.out zw1 hM1).frozen 0; simp at zx0
            have zx1 := (HBX2.out zw1 hM1).cell 1; have zy1 := (HBX2.out zw1 hM1).frozen 1; simp at zx1
            have zx2 := (HBX2.out zw1 hM1).cell 2; have zy2 := (HBX2.out zw1 hM1).frozen 2; simp at zx2
            have zx3 := (HBX2.out zw1 hM1).cell 3; have zy3 := (HBX2.out zw1 hM1).frozen 3; simp at zx3
            have zx4 := (HBX2.out zw1 hM1).cell 4; have zy4 := (HBX2.out zw1 hM1).frozen 4; simp at zx4
            have zx5 := (HBX2.out zw1 hM1).cell 5; have zy5 := (HBX2.out zw1 hM1).frozen 5; simp at zx5
            have zx6 := (HBX2.out zw1 hM1).cell 6; have zy6 := (HBX2.out zw1 hM1).frozen 6; simp at zx6
            rw [if_pos (by rfl)]
            go_simp
            exact hK (.agg #[.string ⟨x.id.toArray⟩, .string ⟨x.cust.toArray⟩, .int .i64 x.kind, .string ⟨x.name.toArray⟩, .int .i64 x.tm, .string ⟨x.par.toArray⟩, .string ⟨x.text.toArray⟩]) _ (hI.next hR (by kernel_rfl) (Mod.refl _ _) (PB.quiet hI.1 (Mod.refl _ _) (HGs.out D 7 zw1 zw1 (hI.1).g (Mod.refl _ _))) (upd_same V 7 _))
          · intro D V zw1 a hR hI K hK   -- 8: Op.binOp BinOp.eql 59 (Operand.tmp 30) (Operand.tmp 31) 59
            obtain ⟨hM1, hB1, hG1⟩ := hI.1
            have zd6 := hR.pred 6 (by kernel_rfl)
            have zF6 : V 6 = .agg #[.string ⟨y.id.toArray⟩, .string ⟨y.cust.toArray⟩, .int .i64 y.kind, .string ⟨y.name.toArray⟩, .int .i64 y.tm, .string ⟨y.par.toArray⟩, .string ⟨y.text.toArray⟩] := hI.2 6 zd6 rfl
            have zf6 := zF6; clear zF6
            have zd7 := hR.pred 7 (by kernel_rfl)
            have zF7 : V 7 = .agg #[.string ⟨x.id.toArray⟩, .string ⟨x.cust.toArray⟩, .int .i64 x.kind, .string ⟨x.name.toArray⟩, .int .i64 x.tm, .string ⟨x.par.toArray⟩, .string ⟨x.text.toArray⟩] := hI.2 7 zd7 rfl
            have zf7 := zF7; clear zF7
            have ze30 := hR.frame.done (t := 30) (j := 6) (by kernel_rfl) hR.ok zd6
            have ze31 := hR.frame.done (t := 31) (j := 7) (by kernel_rfl) hR.ok zd7
            rw [if_pos (by rfl)]
            go_simp
            exact hK (.bool qe) _ (hI.next hR (by kernel_rfl) (Mod.refl _ _) (PB.quiet hI.1 (Mod.refl _ _) (HGs.out D 8 zw1 zw1 (hI.1).g (Mod.refl _ _))) (upd_same V 8 _))
        · intro D V w3 hD hI
          obtain ⟨hM1, hB1, hG1⟩ := hI.1
          have hMx := hM1
          clear hM1
          have hBx := hB1
          clear hB1
          have hGx := hG1
          clear hG1
          have zF0 : V 0 = .pointer (some ⟨gy, 0, none⟩) := hI.2 0 (hD 0 (by decide)) rfl
          have zf0 := zF0; clear zF0
          have zF1 : V 1 = .pointer (some ⟨gy, 0, none⟩) := hI.2 1 (hD 1 (by decide)) rfl
          have zf1 := zF1; clear zF1
          have zF2 : V 2 = .pointer (some ⟨gy, 0, none⟩) := hI.2 2 (hD 2 (by decide)) rfl
          have zf2 := zF2; clear zF2
          have zF3 : V 3 = .slice (some ⟨gr, off, none⟩) l.length c := hI.2 3 (hD 3 (by decide)) rfl
          have zf3 := zF3; clear zF3
          have zF4 : V 4 = .int .i64 (k : Int) := hI.2 4 (hD 4 (by decide)) rfl
          have zf4 := zF4; clear zF4
          have zF5 : V 5 = .pointer (some ⟨gr, off + k * 7, none⟩) := hI.2 5 (hD 5 (by decide)) rfl
          have zf5 := zF5; clear zF5
          have zF6 : V 6 = .agg #[.string ⟨y.id.toArray⟩, .string ⟨y.cust.toArray⟩, .int .i64 y.kind, .string ⟨y.name.toArray⟩, .int .i64 y.tm, .string ⟨y.par.toArray⟩, .string ⟨y.text.toArray⟩] := hI.2 6 (hD 6 (by decide)) rfl
          have zf6 := zF6; clear zF6
          have zF7 : V 7 = .agg #[.string ⟨x.id.toArray⟩, .string ⟨x.cust.toArray⟩, .int .i64 x.kind, .string ⟨x.name.toArray⟩, .int .i64 x.tm, .string ⟨x.par.toArray⟩, .string ⟨x.text.toArray⟩] := hI.2 7 (hD 7 (by decide)) rfl
          have zf7 := zF7; clear zF7
          have zF8 : V 8 = .bool qe := hI.2 8 (hD 8 (by decide)) rfl
          have zf8 := zF8; clear zF8
          clear hI hD HGs
          simp only [frAll, Act.put, List.setIfInBounds_toArray, List.set_cons_zero, List.set_cons_succ, Nat.zero_add, Nat.reduceAdd, zf0, zf1, zf2, zf3, zf4, zf5, zf6, zf7, zf8]
          clear zf0 zf1 zf2 zf3 zf4 zf5 zf6 zf7 zf8
          clear V D
          have HM3 := Lib.hid (HPW.out _ (HM2.out.trans hMx))
          have HF3 := Lib.hid (HF.out.pure hMx)
          clear heq hgrd HCK HBX2 HBG2 HF
          cases qe
          · go_wp2_with fail
            refine bodyPost_ret (v := .tuple #[.bool false, .int .i64 13]) (by simp [results, Tryz.results86, go_sem]) rfl ?_
            refine ⟨by rw [HA1.out, HA2.out]; rfl, ⟨.slice (some ⟨gr, off, none⟩) l.length c, ?_⟩, Mod.of_pure HM3.out⟩
            rw [HAN.out, HA2.out]
            exact HF3.out
          · go_wp2_with fail
            refine bodyPost_ret (v := .tuple #[.bool false, .int .i64 0]) (by simp [results, Tryz.results86, go_sem]) rfl ?_
            refine ⟨by rw [HA1.out, HA2.out]; rfl, ⟨.slice (some ⟨gr, off, none⟩) l.length c, ?_⟩, Mod.of_pure HM3.out⟩
            rw [HAN.out, HA2.out]
            exact HF3.out
      | none =>
        have hz : z = -1 := by rw [← HZZ.out]; unfold plcZ; rw [hpl]
        subst hz
        have hfk := fnd_none hpl
        obtain ⟨hc0, hn0⟩ := clash_new hfk
        have HSR2 := Lib.hid (HSRT.out hn0)
        have HUQ2 := Lib.hid (HUQ.out hn0)
        have HA1 : Hid (ae = storeE (addL l x)) := Lib.hid (by rw [HAE.out, hc0, hn0]; simp)
        have HA2 : Hid (ab = decide (storeE (addL l x) = 0)) := Lib.hid (by rw [HAB.out, hn0]; simp)
        have hgyw2 : gy < w2.heap.size := by have := hMx.size; omega
        have hB2 := HBG.out w2 HM2.out
        have HP2 : Hid (∀ W, Pure w2 W → Pure w W) := Lib.hid (fun W h => HPW.out W (HM2.out.trans h))
        have HBX2 : Hid (∀ W, Pure w2 W → _) := Lib.hid (fun W (h : Pure w2 W) => HBX.out W (HM2.out.trans h))
        have HBG2 : Hid (∀ W, Pure w2 W → _) := Lib.hid (fun W (h : Pure w2 W) => HBG.out W (HM2.out.trans h))
        have hl2000 : ¬ ((2000 : Int) ≤ (l.length : Int)) := by omega
        have hgw2 : w.heap.size ≤ w2.heap.size := by have := hMx.size; omega
        clear HSRT HUQ HAE HAB HZZ hpl hfk hc0 hn0 HCELL hMx HBG HBX
        have z0 := hB2.cell 0; simp at z0
        clear hB2
        go_wp2_with fail
        clear z0
        have HGs := Lib.hid (show ∀ (D : Nat → Bool) (zzi : Nat) (zq zq' : World), (fun _ zq => (fun Z => gy < Z.heap.size) zq) D zq → Mod (fun _ => False) zq zq' → (fun _ zq => (fun Z => gy < Z.heap.size) zq) (upd D zzi true) zq' from by intro D zzi zq zq' h hm; (exact Nat.lt_of_lt_of_le h hm.size))
        refine wp_region_inv (by kernel_rfl) (by kernel_rfl) (InvF (R := Mod (fun _ => False)) [.is (.pointer (some ⟨gy, 0, none⟩)),
            .is (.pointer (some ⟨gy, 0, none⟩)),
            .is (.pointer (some ⟨gy, 0, none⟩)),
            .is (.slice A l.length c),
            ⟨fun zv zw => ∃ (v_4 : Value), zv = v_4 ∧ zw.ownsRow w2.heap.size 59 7 v_4 l.length (itV l), (by rintro zv zw zx ⟨v_4, hze, q0⟩ hm; exact ⟨v_4, hze, (own_pure q0 hm)⟩), none, some 7⟩,
            .is (.agg #[.string ⟨x.id.toArray⟩, .string ⟨x.cust.toArray⟩, .int .i64 x.kind, .string ⟨x.name.toArray⟩, .int .i64 x.tm, .string ⟨x.par.toArray⟩, .string ⟨x.text.toArray⟩]),
            ⟨fun zv zw => ∃ (g_6 : Nat), zv = .slice (some ⟨g_6, 0, none⟩) 1 1 ∧ w2.heap.size ≤ g_6 ∧ Blk zw g_6 59 #[.string ⟨x.id.toArray⟩, .string ⟨x.cust.toArray⟩, .int .i64 x.kind, .string ⟨x.name.toArray⟩, .int .i64 x.tm, .string ⟨x.par.toArray⟩, .string ⟨x.text.toArray⟩], (by rintro zv zw zx ⟨g_6, rfl, c0, q0⟩ hm; exact ⟨g_6, rfl, c0, (q0.modp hm)⟩), none, some 7⟩,
            ⟨fun zv zw => ∃ (g_7 : Nat) (cap_7 : Nat), zv = .slice (some ⟨g_7, 0, none⟩) (l.length + 1) cap_7 ∧ zw.ownsRow w2.heap.size 59 7 (.slice (some ⟨g_7, 0, none⟩) (l.length + 1) cap_7) (l.length + 1) (itV (l ++ [x])), (by rintro zv zw zx ⟨g_7, cap_7, rfl, q0⟩ hm; exact ⟨g_7, cap_7, rfl, (own_pure q0 hm)⟩), none, none⟩,
            ⟨fun zv zw => ∃ (v_8 : Value) (ys_8 : List Itm), zv = v_8 ∧ ys_8.Perm (l ++ [x]) ∧ Rise ys_8 ∧ zw.ownsRow w2.heap.size 59 7 v_8 ys_8.length (itV ys_8), (by rintro zv zw zx ⟨v_8, ys_8, hze, c0, c1, q0⟩ hm; exact ⟨v_8, ys_8, hze, c0, c1, (own_pure q0 hm)⟩), none, none⟩,
            ⟨fun zv zw => ∃ (v_9 : Value) (ys_9 : List Itm), zv = v_9 ∧ ys_9.Perm (l ++ [x]) ∧ Rise ys_9 ∧ zw.ownsRow w2.heap.size 59 7 v_9 ys_9.length (itV ys_9), (by rintro zv zw zx ⟨v_9, ys_9, hze, c0, c1, q0⟩ hm; exact ⟨v_9, ys_9, hze, c0, c1, (own_pure q0 hm)⟩), none, none⟩]
            (PB w2 (fun _ => False) w2.heap.size (fun _ zq => (fun Z => gy < Z.heap.size) zq))) (InvF.start (PB.start (Mod.refl _ _) (Nat.le_refl _) (hgyw2))) ?_ ?_
        · refine .cons ?_ (.cons ?_ (.cons ?_ (.cons ?_ (.cons ?_ (.cons ?_ (.cons ?_ (.cons ?_ (.cons ?_ (.cons ?_ .nil)))))))))
          · intro D V zw1 a hR hI K hK   -- 0: Op.move (Operand.tmp 0)
            obtain ⟨hM1, hB1, hG1⟩ := hI.1
            have ze0 := hR.frame.other (t := 0) (by kernel_rfl) rfl
            rw [if_pos (by rfl)]
            go_simp
            exact hK (.pointer (some ⟨gy, 0, none⟩)) _ (hI.next hR (by kernel_rfl) (Mod.refl _ _) (PB.quiet hI.1 (Mod.refl _ _) (HGs.out D 0 zw1 zw1 (hI.1).g (Mod.refl _ _))) (upd_same V 0 _))
          · intro D V zw1 a hR hI K hK   -- 1: Op.nilCheck (Operand.tmp 39)
            obtain ⟨hM1, hB1, hG1⟩ := hI.1
            have zd0 := hR.pred 0 (by kernel_rfl)
            have zF0 : V 0 = .pointer (some ⟨gy, 0, none⟩) := hI.2 0 zd0 rfl
            have zf0 := zF0; clear zF0
            have ze39 := hR.frame.done (t := 39) (j := 0) (by kernel_rfl) hR.ok zd0
            rw [if_pos (by rfl)]
            go_simp
            exact hK (.pointer (some ⟨gy, 0, none⟩)) _ (hI.next hR (by kernel_rfl) (Mod.refl _ _) (PB.quiet hI.1 (Mod.refl _ _) (HGs.out D 1 zw1 zw1 (hI.1).g (Mod.refl _ _))) (upd_same V 1 _))
          · intro D V zw1 a hR hI K hK   -- 2: Op.fieldAddr 75 (Operand.tmp 40) 0
            obtain ⟨hM1, hB1, hG1⟩ := hI.1
            have zd1 := hR.pred 1 (by kernel_rfl)
            have zF1 : V 1 = .pointer (some ⟨gy, 0, none⟩) := hI.2 1 zd1 rfl
            have zf1 := zF1; clear zF1
            have ze40 := hR.frame.done (t := 40) (j := 1) (by kernel_rfl) hR.ok zd1
            rw [if_pos (by rfl)]
            go_simp
            exact hK (.pointer (some ⟨gy, 0, none⟩)) _ (hI.next hR (by kernel_rfl) (Mod.refl _ _) (PB.quiet hI.1 (Mod.refl _ _) (HGs.out D 2 zw1 zw1 (hI.1).g (Mod.refl _ _))) (upd_same V 2 _))
          · intro D V zw1 a hR hI K hK   -- 3: Op.load 26 (Operand.tmp 41)
            obtain ⟨hM1, hB1, hG1⟩ := hI.1
            have zd2 := hR.pred 2 (by kernel_rfl)
            have zF2 : V 2 = .pointer (some ⟨gy, 0, none⟩) := hI.2 2 zd2 rfl
            have zf2 := zF2; clear zF2
            have ze41 := hR.frame.done (t := 41) (j := 2) (by kernel_rfl) hR.ok zd2
            have zx0 := (HBG2.out zw1 hM1).cell 0; have zy0 := (HBG2.out zw1 hM1).frozen 0; simp at zx0
            rw [if_pos (by rfl)]
            go_simp
            exact hK (.slice A l.length c) _ (hI.next hR (by kernel_rfl) (Mod.refl _ _) (PB.quiet hI.1 (Mod.refl _ _) (HGs.out D 3 zw1 zw1 (hI.1).g (Mod.refl _ _))) (upd_same V 3 _))
          · intro D V zw1 a hR hI K hK   -- 4: Op.call { callee := Callee.value (Operand.func 24), args := #[Operand.
            obtain ⟨hM1, hB1, hG1⟩ := hI.1
            have zd3 := hR.pred 3 (by kernel_rfl)
            have zF3 : V 3 = .slice A l.length c := hI.2 3 zd3 rfl
            have zf3 := zF3; clear zF3
            have ze42 := hR.frame.done (t := 42) (j := 3) (by kernel_rfl) hR.ok zd3
            rw [if_pos (by rfl)]
            go_simp
            refine (HCL.out zw1 (HP2.out zw1 hM1)).mono ?_
            rintro e zw2 ⟨v_0, rfl, hq, hm2⟩
            exact hK (v_0) _ (hI.next hR (by kernel_rfl) hm2 (PB.quiet hI.1 hm2 (HGs.out D 4 _ _ (hI.1).g hm2)) (⟨v_0, upd_same V 4 _, (own_baseK hq (by omega))⟩))
          · intro D V zw1 a hR hI K hK   -- 5: Op.load 59 (Operand.tmp 3)
            obtain ⟨hM1, hB1, hG1⟩ := hI.1
            have ze3 := hR.frame.other (t := 3) (by kernel_rfl) rfl
            have zx0 := (HBX2.out zw1 hM1).cell 0; have zy0 := (HBX2.out zw1 hM1).frozen 0; simp at zx0
            have zx1 := (HBX2.out zw1 hM1).cell 1; have zy1 := (HBX2.out zw1 hM1).frozen 1; simp at zx1
            have zx2 := (HBX2.out zw1 hM1).cell 2; have zy2 := (HBX2.out zw1 hM1).frozen 2; simp at zx2
            have zx3 := (HBX2.out zw1 hM1).cell 3; have zy3 := (HBX2.out zw1 hM1).frozen 3; simp at zx3
            have zx4 := (HBX2.out zw1 hM1).cell 4; have zy4 := (HBX2.out zw1 hM1).frozen 4; simp at zx4
            have zx5 := (HBX2.out zw1 hM1).cell 5; have zy5 := (HBX2.out zw1 hM1).frozen 5; simp at zx5
            have zx6 := (HBX2.out zw1 hM1).cell 6; have zy6 := (HBX2.out zw1 hM1).frozen 6; simp at zx6
            rw [if_pos (by rfl)]
            go_simp
            exact hK (.agg #[.string ⟨x.id.toArray⟩, .string ⟨x.cust.toArray⟩, .int .i64 x.kind, .string ⟨x.name.toArray⟩, .int .i64 x.tm, .string ⟨x.par.toArray⟩, .string ⟨x.text.toArray⟩]) _ (hI.next hR (by kernel_rfl) (Mod.refl _ _) (PB.quiet hI.1 (Mod.refl _ _) (HGs.out D 5 zw1 zw1 (hI.1).g (Mod.refl _ _))) (upd_same V 5 _))
          · intro D V zw1 a hR hI K hK   -- 6: Op.buildSlice 26 1 #[(0, Operand.tmp 44)]
            obtain ⟨hM1, hB1, hG1⟩ := hI.1
            have zd5 := hR.pred 5 (by kernel_rfl)
            have zF5 : V 5 = .agg #[.string ⟨x.id.toArray⟩, .string ⟨x.cust.toArray⟩, .int .i64 x.kind, .string ⟨x.name.toArray⟩, .int .i64 x.tm, .string ⟨x.par.toArray⟩, .string ⟨x.text.toArray⟩] := hI.2 5 zd5 rfl
            have zf5 := zF5; clear zF5
            have ze44 := hR.frame.done (t := 44) (j := 5) (by kernel_rfl) hR.ok zd5
            rw [if_pos (by rfl)]
            go_simp
            exact hK (_) _ (hI.next hR (by kernel_rfl) ((Mod.refl _ _).alloc _) (PB.quiet hI.1 (pure_alloc _ _) (HGs.out D 6 _ _ (hI.1).g ((Mod.refl _ _).alloc _))) (⟨_, upd_same V 6 _, (by omega), (Blk.new _ _ _)⟩))
          · intro D V zw1 a hR hI K hK   -- 7: Op.call { callee := Callee.builtin Builtin.append, args := #[Operand.t
            obtain ⟨hM1, hB1, hG1⟩ := hI.1
            have zd4 := hR.pred 4 (by kernel_rfl)
            have zF4 : ∃ (v_4 : Value), V 4 = v_4 ∧ zw1.ownsRow w2.heap.size 59 7 v_4 l.length (itV l) := hI.2 4 zd4 (by show (!D 7) = true; rw [hR.not]; rfl)
            obtain ⟨v_4, zf4, b4_0⟩ := zF4
            have zd6 := hR.pred 6 (by kernel_rfl)
            have zF6 : ∃ (g_6 : Nat), V 6 = .slice (some ⟨g_6, 0, none⟩) 1 1 ∧ w2.heap.size ≤ g_6 ∧ Blk zw1 g_6 59 #[.string ⟨x.id.toArray⟩, .string ⟨x.cust.toArray⟩, .int .i64 x.kind, .string ⟨x.name.toArray⟩, .int .i64 x.tm, .string ⟨x.par.toArray⟩, .string ⟨x.text.toArray⟩] := hI.2 6 zd6 (by show (!D 7) = true; rw [hR.not]; rfl)
            obtain ⟨g_6, zf6, c6_0, b6_0⟩ := zF6
            have ze43 := hR.frame.done (t := 43) (j := 4) (by kernel_rfl) hR.ok zd4
            have ze45 := hR.frame.done (t := 45) (j := 6) (by kernel_rfl) hR.ok zd6
            rw [if_pos (by rfl)]
            have hown := b4_0
            refine wp_append_lies _ (.tmp 43) (.tmp 45) 26 (by rfl) w2.heap.size 59 i0 _ 7 96 Tryz.underlying26 hi0 hz0 hz1 hz2 (by rfl) (by omega) (v_4) (l.length) (itV l) ?_ hown ⟨g_6, 0, none⟩ 1 1 [.string ⟨x.id.toArray⟩, .string ⟨x.cust.toArray⟩, .int .i64 x.kind, .string ⟨x.name.toArray⟩, .int .i64 x.tm, .string ⟨x.par.toArray⟩, .string ⟨x.text.toArray⟩] ?_ (by rfl) (World.news_of_block (cs := #[.string ⟨x.id.toArray⟩, .string ⟨x.cust.toArray⟩, .int .i64 x.kind, .string ⟨x.name.toArray⟩, .int .i64 x.tm, .string ⟨x.par.toArray⟩, .string ⟨x.text.toArray⟩]) (t := 59) (fr := (0, 0)) b6_0) (by simp [Value.oneCell']) (by omega) (by simp [maxLen]; omega) (by omega) (by omega) zw1.heap.size rfl ?_
            · show a.tmps.getD 43 undef = _; simp [ze43, zf4]
            · show a.tmps.getD 45 undef = _; simp [ze45, zf6]
            intro g5 cap5 zw2 hown5 hgrow hat hlt5
            have hT := mod_grown hgrow
            have hTb : ∀ j, (v_4 : Value).ownBlock = some j → w2.heap.size ≤ j := own_block hown
            refine hK _ _ (InvF.last (PB.writes hI.1 (fun j hj hl => by have := hTb j hj; omega) hT (Nat.lt_of_lt_of_le hG1 hgrow.size)) ⟨_, _, upd_same V 7 _, by rw [HIV.out]; exact hown5⟩ ?_)
            intro k hk hDk hlv
            have hkl := hR.lt k hDk
            have hv := hI.2 k hDk (liveB_of hlv)
            match k, hk, hDk, hlv, hkl, hv with
            | 0, _, _, _, _, hv => exact hv
            | 1, _, _, _, _, hv => exact hv
            | 2, _, _, _, _, hv => exact hv
            | 3, _, _, _, _, hv => exact hv
            | 4, _, _, hlv, _, _ => exact absurd hlv (by show ¬ (!upd D 7 true 7) = true; rw [upd_same]; decide)
            | 5, _, _, _, _, hv => exact hv
            | 6, _, _, hlv, _, _ => exact absurd hlv (by show ¬ (!upd D 7 true 7) = true; rw [upd_same]; decide)
            | 7, hk, _, _, _, _ => exact absurd rfl hk
            | 8, _, hDk, _, _, _ => exact absurd hDk (by rw [hR.later 8 rfl (by kernel_rfl)]; decide)
            | 9, _, hDk, _, _, _ => exact absurd hDk (by rw [hR.later 9 rfl (by kernel_rfl)]; decide)
            | k + 10, _, _, _, hkl, _ => exact absurd hkl (by simp)
          · intro D V zw1 a hR hI K hK   -- 8: Op.call { callee := Callee.value (Operand.func 88), args := #[Operand.
            obtain ⟨hM1, hB1, hG1⟩ := hI.1
            have zd7 := hR.pred 7 (by kernel_rfl)
            have zF7 : ∃ (g_7 : Nat) (cap_7 : Nat), V 7 = .slice (some ⟨g_7, 0, none⟩) (l.length + 1) cap_7 ∧ zw1.ownsRow w2.heap.size 59 7 (.slice (some ⟨g_7, 0, none⟩) (l.length + 1) cap_7) (l.length + 1) (itV (l ++ [x])) := hI.2 7 zd7 rfl
            obtain ⟨g_7, cap_7, zf7, b7_0⟩ := zF7
            have ze46 := hR.frame.done (t := 46) (j := 7) (by kernel_rfl) hR.ok zd7
            rw [if_pos (by rfl)]
            go_simp
            refine (HSR2.out zw1 _ (Sl.of_own b7_0) (own_own0 b7_0)).mono ?_
            rintro e zw2 ⟨v_0, ys_0, rfl, hq1, hq2, hq, hm2⟩
            exact hK (v_0) _ (hI.next hR (by kernel_rfl) hm2 (PB.quiet hI.1 hm2 (HGs.out D 8 _ _ (hI.1).g hm2)) (⟨v_0, ys_0, upd_same V 8 _, hq1, hq2, (own_baseK hq (by omega))⟩))
          · intro D V zw1 a hR hI K hK   -- 9: Op.assign (Operand.tmp 47)
            obtain ⟨hM1, hB1, hG1⟩ := hI.1
            have zd8 := hR.pred 8 (by kernel_rfl)
            have zF8 : ∃ (v_8 : Value) (ys_8 : List Itm), V 8 = v_8 ∧ ys_8.Perm (l ++ [x]) ∧ Rise ys_8 ∧ zw1.ownsRow w2.heap.size 59 7 v_8 ys_8.length (itV ys_8) := hI.2 8 zd8 rfl
            obtain ⟨v_8, ys_8, zf8, c8_0, c8_1, b8_0⟩ := zF8
            have ze47 := hR.frame.done (t := 47) (j := 8) (by kernel_rfl) hR.ok zd8
            rw [if_pos (by rfl)]
            go_simp
            exact hK (v_8) _ (hI.next hR (by kernel_rfl) (Mod.refl _ _) (PB.quiet hI.1 (Mod.refl _ _) (HGs.out D 9 zw1 zw1 (hI.1).g (Mod.refl _ _))) (⟨v_8, ys_8, upd_same V 9 _, (by first | assumption | omega), (by first | assumption | omega), b8_0⟩))
        · intro D V w3 hD hI
          obtain ⟨hM1, hB1, hG1⟩ := hI.1
          have hMx := hM1
          clear hM1
          have hBx := hB1
          clear hB1
          have hGx := hG1
          clear hG1
          have zF0 : V 0 = .pointer (some ⟨gy, 0, none⟩) := hI.2 0 (hD 0 (by decide)) rfl
          have zf0 := zF0; clear zF0
          have zF1 : V 1 = .pointer (some ⟨gy, 0, none⟩) := hI.2 1 (hD 1 (by decide)) rfl
          have zf1 := zF1; clear zF1
          have zF2 : V 2 = .pointer (some ⟨gy, 0, none⟩) := hI.2 2 (hD 2 (by decide)) rfl
          have zf2 := zF2; clear zF2
          have zF3 : V 3 = .slice A l.length c := hI.2 3 (hD 3 (by decide)) rfl
          have zf3 := zF3; clear zF3
          have zF5 : V 5 = .agg #[.string ⟨x.id.toArray⟩, .string ⟨x.cust.toArray⟩, .int .i64 x.kind, .string ⟨x.name.toArray⟩, .int .i64 x.tm, .string ⟨x.par.toArray⟩, .string ⟨x.text.toArray⟩] := hI.2 5 (hD 5 (by decide)) rfl
          have zf5 := zF5; clear zF5
          have zF7 : ∃ (g_7 : Nat) (cap_7 : Nat), V 7 = .slice (some ⟨g_7, 0, none⟩) (l.length + 1) cap_7 ∧ w3.ownsRow w2.heap.size 59 7 (.slice (some ⟨g_7, 0, none⟩) (l.length + 1) cap_7) (l.length + 1) (itV (l ++ [x])) := hI.2 7 (hD 7 (by decide)) rfl
          obtain ⟨g_7, cap_7, zf7, b7_0⟩ := zF7
          have zF8 : ∃ (v_8 : Value) (ys_8 : List Itm), V 8 = v_8 ∧ ys_8.Perm (l ++ [x]) ∧ Rise ys_8 ∧ w3.ownsRow w2.heap.size 59 7 v_8 ys_8.length (itV ys_8) := hI.2 8 (hD 8 (by decide)) rfl
          obtain ⟨v_8, ys_8, zf8, c8_0, c8_1, b8_0⟩ := zF8
          have zF9 : ∃ (v_9 : Value) (ys_9 : List Itm), V 9 = v_9 ∧ ys_9.Perm (l ++ [x]) ∧ Rise ys_9 ∧ w3.ownsRow w2.heap.size 59 7 v_9 ys_9.length (itV ys_9) := hI.2 9 (hD 9 (by decide)) rfl
          obtain ⟨v_9, ys_9, zf9, c9_0, c9_1, b9_0⟩ := zF9
          clear hI hD HGs
          simp only [frAll, Act.put, List.setIfInBounds_toArray, List.set_cons_zero, List.set_cons_succ, Nat.zero_add, Nat.reduceAdd, zf0, zf1, zf2, zf3, zf5, zf7, zf8, zf9]
          clear zf0 zf1 zf2 zf3 zf5 zf7 zf8 zf9
          generalize V 4 = u4
          generalize V 6 = u6
          clear V D
          have HYE : Hid (ys_9 = addL l x) := Lib.hid (HUQ2.out ys_9 c9_0 c9_1)
          clear HSR2 HUQ2 HCL b7_0
          rw [HYE.out] at b9_0
          have HOW := Lib.hid b9_0
          have HM3 := Lib.hid (HP2.out _ hMx)
          have hgyw3 : gy < w3.heap.size := hGx
          have HSW := Lib.hid (HSF.out w3 v_9 (Sl.of_own b9_0))
          have HB3 := Lib.hid (HBG2.out _ hMx)
          clear hMx b9_0 c9_0 c9_1 HP2 HBX2 HBG2 HYE
          generalize storeE (addL l x) = se at *
          go_wp2_with fail
          refine HSW.out.mono ?_
          rintro e w4 ⟨rfl, m4⟩
          have HOW4 := Lib.hid (own_pure HOW.out m4)
          have HM4 := Lib.hid (HM3.out.trans m4)
          have HB4 := Lib.hid (HB3.out.modp m4)
          clear HSW HOW HM3 HB3 m4
          by_cases hse : se = 0
          · subst hse
            have hB4 := HB4.out
            have z0 := hB4.cell 0; have zf0 := hB4.frozen 0; simp at z0
            clear hB4
            have hne : ∀ k, v_9.ownBlock = some k → k ≠ gy := fun k hk => by have := own_block HOW4.out k hk; omega
            have hms : Mod (· = gy) w4 (w4.setCell ⟨gy, 0, none⟩ v_9) := Mod.setCell (S := fun j => j = gy) (p := ⟨gy, 0, none⟩) (Mod.refl _ _) (.inl rfl) _
            have HS5 : Hid (RSto (w4.setCell ⟨gy, 0, none⟩ v_9) gy v_9 (addL l x)) := Lib.hid ⟨HB4.out.set 0 _, Sl.of_own (own_mod HOW4.out hms (fun g hg hk => hne g hg hk)), own_own0 HOW4.out⟩
            have HM5 : Hid (Mod (· = gy) w (w4.setCell ⟨gy, 0, none⟩ v_9)) := Lib.hid (Mod.setCell (S := fun j => j = gy) (p := ⟨gy, 0, none⟩) (Mod.of_pure HM4.out) (.inl rfl) _)
            have hone : ∃ A n c, v_9 = .slice A n c := (Sl.of_own HOW4.out).form
            obtain ⟨A9, n9, c9, rfl⟩ := hone
            clear hne hms HOW4 HB4 HM4
            go_wp2_with fail
            refine bodyPost_ret (v := .tuple #[.bool true, .int .i64 0]) (by simp [results, Tryz.results86, go_sem]) rfl ?_
            refine ⟨by rw [HA1.out, HA2.out]; rfl, ⟨.slice A9 n9 c9, ?_⟩, HM5.out⟩
            rw [HAN.out, HA2.out]
            exact HS5.out
          · have hse2 : (se != 0) = true := by simpa using hse
            have HA3 : Hid (ab = false) := Lib.hid (by rw [HA2.out]; simp [hse])
            have HF := Lib.hid (HST.out _ HM4.out)
            clear HOW4 HB4 hse
            go_wp2_with fail
            refine bodyPost_ret (v := .tuple #[.bool false, .int .i64 se]) (by simp [results, Tryz.results86, go_sem]) rfl ?_
            refine ⟨by rw [HA1.out, HA3.out], ⟨.slice A l.length c, ?_⟩, Mod.of_pure HM4.out⟩
            rw [HAN.out, HA3.out]
            exact HF.out
  · have h0' : (ie != 0) = true := by simpa using h0
    have HA1 : Hid (ae = ie) := Lib.hid (by rw [HAE.out, if_pos h0])
    have HA2 : Hid (ab = false) := Lib.hid (by rw [HAB.out]; simp [h0])
    have HS3 := Lib.hid (HST.out _ HM1.out)
    clear HAE HAB HST h0 HSRT HUQ HSF HPL HCL HCELL
    go_wp2_with fail
    refine bodyPost_ret (v := .tuple #[.bool false, .int .i64 ie]) (by simp [results, Tryz.results86, go_sem]) rfl ?_
    refine ⟨by rw [HA1.out, HA2.out], ⟨.slice A l.length c, ?_⟩, Mod.of_pure HM1.out⟩
    rw [HAN.out, HA2.out]
    exact HS3.out

end Go.Proofs.YtbdeicbdehgeiaaGreatDoor

/- Stores: Join of the program. -/
namespace Go.Proofs.YtbdeicbdehgeiaaGreatDoor
set_option linter.unusedVariables false
set_option linter.unusedSimpArgs false
open Go.RowKit Go.Sort

/-- The items of two stores, by their ids. -/
def joinL (l m : List Itm) : List Itm := (l ++ newsI l m).mergeSort fun a b => decide (a.id ≤ b.id)
theorem joinL_perm (l m : List Itm) : (joinL l m).Perm (l ++ newsI l m) := List.mergeSort_perm _ _
theorem joinL_rise {l m : List Itm} (hl : Dst l) (hm : Dst m) : Rise (joinL l m) := by
  have h1 := List.pairwise_mergeSort (le := fun a b : Itm => decide (a.id ≤ b.id)) (fun a b c h1 h2 => by
    simp only [decide_eq_true_eq] at *
    exact List.le_trans h1 h2) (fun a b => by
    simp only [Bool.or_eq_true, decide_eq_true_eq]
    exact List.le_total _ _) (l ++ newsI l m)
  have h2 : Dst (joinL l m) := (dst_news hl hm).perm (joinL_perm l m)
  have h3 : (joinL l m).Pairwise fun a b => a.id ≤ b.id := h1.imp fun h => by simpa using h
  exact (h3.and h2).imp fun ⟨a, b⟩ => lt_of a b
theorem joinL_unique {l m : List Itm} (hl : Dst l) (hm : Dst m) {ys : List Itm} (hp : ys.Perm (l ++ newsI l m)) (hr : Rise ys) : ys = joinL l m :=
  rise_unique hr (joinL_rise hl hm) (fun z => by rw [hp.mem_iff, (joinL_perm l m).mem_iff])
theorem joinL_none {l m : List Itm} (hl : Rise l) (hm : Dst m) (h : newsI l m = []) : joinL l m = l :=
  (joinL_unique hl.dst hm (by rw [h]; simp) hl).symm
theorem newsI_perm {l m zs : List Itm} (h : zs.Perm m) : (newsI l zs).Perm (newsI l m) := h.filter _
theorem clash_perm {l m zs : List Itm} (h : zs.Perm m) : zs.any (clash l) = m.any (clash l) := by
  rw [Bool.eq_iff_iff, List.any_eq_true, List.any_eq_true]
  constructor
  · rintro ⟨x, hx, hc⟩; exact ⟨x, h.mem_iff.1 hx, hc⟩
  · rintro ⟨x, hx, hc⟩; exact ⟨x, h.mem_iff.2 hx, hc⟩
def joinE (l m : List Itm) : Int := if m.any (clash l) = true then 13 else storeE (joinL l m)
def joinK (l m : List Itm) : Int := if joinE l m = 0 then ((newsI l m).length : Int) else 0
def joinN (l m : List Itm) : List Itm := if joinE l m = 0 then joinL l m else l
theorem StOk.join {l m : List Itm} (hl : StOk l) (hm : StOk m) : StOk (joinN l m) := by
  unfold joinN
  split
  · rename_i h
    unfold joinE at h
    split at h
    · cases h
    · refine ⟨joinL_rise hl.rise.dst hm.rise.dst, fun z hz => ?_, h⟩
      rcases List.mem_append.1 ((joinL_perm l m).mem_iff.1 hz) with hz | hz
      · exact hl.bd z hz
      · exact hm.bd z (List.mem_filter.1 hz).1
  · exact hl
theorem joinN_len (l m : List Itm) : (joinN l m).length ≤ l.length + m.length := by
  unfold joinN
  split
  · have h := (joinL_perm l m).length_eq
    have := newsI_len l m
    rw [List.length_append] at h
    omega
  · omega
/-- What a range over all items has collected. -/
def SjIn (l : List Itm) (left : Str → Bool) (out : List Itm) : Prop := (out.map fun z => z.id).Nodup ∧ ∀ y, y ∈ out ↔ ∃ i, ∃ h : i < l.length, y = l[i] ∧ left l[i].id = false
theorem SjIn.start (l : List Itm) (hd : Dst l) : SjIn l (fun s => (byF l s).isSome) [] := by
  refine ⟨by simp, fun y => ⟨fun h => absurd h (by simp), ?_⟩⟩
  rintro ⟨i, h, _, h2⟩
  have : (byF l l[i].id).isSome = true := (byF_has hd).2 (List.mem_map.2 ⟨_, List.getElem_mem h, rfl⟩)
  have h3 : (byF l l[i].id).isSome = false := h2
  rw [this] at h3
  cases h3
theorem SjIn.step {l : List Itm} (hd : Dst l) {left : Str → Bool} {out : List Itm} (h : SjIn l left out) {i : Nat} (hi : i < l.length) (hs : left l[i].id = true) : SjIn l (fun x => left x && !decide (x = l[i].id)) (out ++ [l[i]]) := by
  obtain ⟨h1, h2⟩ := h
  have hother : ∀ j (hj : j < l.length), ((left l[j].id && !decide (l[j].id = l[i].id)) = false ↔ left l[j].id = false ∨ j = i) := fun j hj => by
    by_cases hji : j = i
    · subst hji; simp
    · have hne : l[j].id ≠ l[i].id := fun he => hji (id_inj hd hj hi he)
      simp [hne, hji]
  refine ⟨?_, fun y => ?_⟩
  · rw [List.map_append, List.nodup_append]
    refine ⟨h1, by simp, ?_⟩
    intro a ha c hc2 hac
    obtain ⟨y, hy, rfl⟩ := List.mem_map.1 ha
    simp at hc2
    obtain ⟨j, hj, rfl, hlj⟩ := (h2 y).1 hy
    rw [hac, hc2, hs] at hlj
    cases hlj
  · rw [List.mem_append, h2, List.mem_singleton]
    constructor
    · rintro (⟨j, hj, rfl, hlj⟩ | rfl)
      · exact ⟨j, hj, rfl, (hother j hj).2 (.inl hlj)⟩
      · exact ⟨i, hi, rfl, (hother i hi).2 (.inr rfl)⟩
    · rintro ⟨j, hj, rfl, hlj⟩
      rcases (hother j hj).1 hlj with hlj | rfl
      · exact .inl ⟨j, hj, rfl, hlj⟩
      · exact .inr rfl
theorem SjIn.perm {l : List Itm} (hd : Dst l) {left : Str → Bool} {out : List Itm} (h : SjIn l left out) (ha : ∀ s, left s = false) : out.Perm l ∧ Dst out := by
  obtain ⟨h1, h2⟩ := h
  have hdo : Dst out := List.pairwise_map.1 h1
  have n1 : out.Nodup := hdo.imp fun h e => by subst e; exact h rfl
  have n2 : l.Nodup := hd.imp fun h e => by subst e; exact h rfl
  refine ⟨(List.perm_ext_iff_of_nodup n1 n2).2 (fun y => ?_), hdo⟩
  rw [h2]
  constructor
  · rintro ⟨i, h, rfl, _⟩; exact List.getElem_mem h
  · intro h
    obtain ⟨i, hi, rfl⟩ := List.getElem_of_mem h
    exact ⟨i, hi, rfl, ha _⟩
def SjRel (w : World) (base b r n0 : Nat) (l : List Itm) (gk : Nat) (x : Value) (wr : World) : Prop :=
  ∃ (left : Str → Bool) (out : List Itm) (A : Option Addr) (cap : Nat), x = .slice A out.length cap ∧ MapRg wr b r (byF l) left gk ∧ out.length + gk ≤ n0 ∧ SjIn l left out ∧ wr.ownsRow base 59 7 (.slice A out.length cap) out.length (itV out) ∧ Pure w wr ∧ base ≤ wr.heap.size
def PJoinPost (w : World) (gx : Nat) (l m : List Itm) (e : Ending) (w' : World) : Prop :=
  e = .returned (.tuple #[.int .i64 (joinK l m), .int .i64 (joinE l m)]) ∧ (∃ b, StoAt w' gx b (joinN l m)) ∧ Mod (· = gx) w w'

set_option maxRecDepth 100000 in
set_option maxHeartbeats 8000000 in
theorem pjoin_calls (w : World) (gx b gy by_ : Nat) (l m : List Itm) (hS : StoAt w gx b l) (hT : StoAt w gy by_ m) (hk : StOk l) (hm : StOk m) (hl : l.length + m.length ≤ 2000) : Calls Tryz.prog 33 #[.pointer (some ⟨gx, 0, none⟩), .pointer (some ⟨gy, 0, none⟩)] w (PJoinPost w gx l m) := by
  obtain ⟨i0, hi0, hz0, hz1, hz2⟩ := info_parts info_item7
  have hd := hm.rise.dst
  obtain ⟨w1, n0, hrun, hrg, hmn, hp1, hs1⟩ := hT.2.s.range (t := 92) (e := 59) Tryz.underlying92
  have HSP := Lib.hid (fun (left : Str → Bool) (out : List Itm) h i hi hs => SjIn.step (l := m) hd (left := left) (out := out) h (i := i) hi hs)
  have HPE := Lib.hid (fun (left : Str → Bool) (out : List Itm) h ha => SjIn.perm (l := m) hd (left := left) (out := out) h ha)
  have HST := Lib.hid (SjIn.start m hd)
  have HWI : Hid (∀ W, Pure w W → ∀ (zs : List Itm) (v : Value), Its W v zs → zs.Perm m → Dst zs → Calls Tryz.prog 87 #[.pointer (some ⟨gx, 0, none⟩), v] W (WithPost W l zs (joinL l m))) := Lib.hid (fun W h zs v hv hp hdz =>
    with_calls W gx b l zs (joinL l m) v (hS.pure h) hv hk.bd (fun x hx => hm.bd x (hp.mem_iff.1 hx)) hk.rise.dst hdz (by rw [hp.length_eq]; exact hl) ((joinL_perm l m).trans ((newsI_perm hp).symm.append_left l)))
  have HS0 : Hid (∀ W, Pure w W → StoAt W gx b l) := Lib.hid (fun W h => hS.pure h)
  have HJE : Hid (joinE l m = if m.any (clash l) = true then 13 else storeE (joinL l m)) := Lib.hid rfl
  have HJK : Hid (joinK l m = if joinE l m = 0 then ((newsI l m).length : Int) else 0) := Lib.hid rfl
  have HJN : Hid (joinN l m = if joinE l m = 0 then joinL l m else l) := Lib.hid rfl
  have HNO : Hid (newsI l m = [] → joinL l m = l) := Lib.hid (fun h => joinL_none hk.rise hd h)
  have HOK := Lib.hid hk.ok
  have hgx := hS.1.lt
  have hbl := hT.2.lt
  have hB := hT.1
  have d0 := hB.cell 0
  simp at d0
  have HRG := Lib.hid hrg
  have HP1 := Lib.hid hp1
  have HSZ := Lib.hid hs1
  have hml : m.length ≤ 2000 := by omega
  unfold PJoinPost
  clear hrg hS hT hk hm hd hB hp1 hs1
  go_enter Tryz.func33, Tryz.ntmps33
  go_wp2_with fail
  obtain ⟨base, hbase⟩ : ∃ base, base = w.heap.size := ⟨_, rfl⟩
  have hb1 := Nat.le_of_eq hbase
  have hb2 := Nat.le_of_eq hbase.symm
  rw [← hbase] at HRG ⊢
  clear hbase
  go_loopg [6] n0 (fun gk x wr => SjRel w base by_ base n0 m gk x wr)
  case atStart => exact ⟨_, [], none, 0, rfl, HRG.out, by simp, HST.out, World.ownsRow_nil _ _ _ _, HP1.out, by have := HSZ.out; omega⟩
  case round =>
    clear HRG HST HP1 HSZ hrun d0
    obtain ⟨left, out, Ao, cap, rfl, hrg, hlen, hin, hown, hmm, hbs⟩ := hrel
    have hrl := hrg.lt
    rcases hrg.next with ⟨h0, hall, hnx⟩ | ⟨s, v, w2, cnt2, hls, hfs, hnx, hrg2, hlt2, hm2, hsz2, hen⟩
    · obtain ⟨hp, hdo⟩ := HPE.out left out hin hall
      have HWC := Lib.hid (HWI.out _ hmm out _ (Sl.of_own hown) hp hdo)
      have HM := Lib.hid hmm
      have HP := Lib.hid hp
      clear hrg hin hown hmm hall hp hdo h0 HSP HPE HWI
      go_wp2_with fail
      refine HWC.out.mono ?_
      rintro e w2 ⟨mv, k, er, rfl, h1, h2, m2⟩
      have HM3 := Lib.hid (HM.out.trans m2)
      rw [clash_perm HP.out] at h1 h2
      have HH1 := Lib.hid h1
      have HH2 := Lib.hid h2
      clear HWC HM h1 h2
      by_cases hc : m.any (clash l) = true
      · obtain ⟨rfl, rfl, rfl⟩ := HH1.out hc
        have HA1 : Hid (joinE l m = 13) := Lib.hid (by rw [HJE.out, if_pos hc])
        have HA2 : Hid (joinK l m = 0) := Lib.hid (by rw [HJK.out, HA1.out]; rfl)
        have HA3 : Hid (joinN l m = l) := Lib.hid (by rw [HJN.out, HA1.out]; rfl)
        have HS3 := Lib.hid (HS0.out _ HM3.out)
        clear HH1 HH2 hc
        go_wp2_with fail
        refine bodyPost_ret (v := .tuple #[.int .i64 0, .int .i64 13]) (by simp [results, Tryz.results33, go_sem]) rfl ?_
        refine ⟨by rw [HA1.out, HA2.out], ⟨b, ?_⟩, Mod.of_pure HM3.out⟩
        rw [HA3.out]
        exact HS3.out
      · have hc2 : m.any (clash l) = false := by simpa using hc
        obtain ⟨her, hkk, b2, rfl, hb2, hM2⟩ := HH2.out hc2
        have hpl : (newsI l out).length = (newsI l m).length := (newsI_perm HP.out).length_eq
        have HE1 : Hid (joinE l m = er) := Lib.hid (by
          rw [HJE.out, if_neg hc, her]
          split
          · rename_i hn
            have : newsI l m = [] := by
              have h3 := newsI_perm (l := l) HP.out
              rw [hn] at h3
              exact h3.symm.eq_nil
            rw [HNO.out this, HOK.out]
          · rfl)
        have hb2w : gx < b2 := by have := HM3.out.size; have := m2.size; omega
        have HMX := Lib.hid hM2
        have HBX := Lib.hid (HS0.out _ HM3.out).1
        have hkk2 : k = ((newsI l m).length : Int) := by rw [hkk, hpl]
        have HKK := Lib.hid hkk2
        clear HH1 HH2 hc hc2 her hkk hkk2 hpl hM2 m2 HNO HJE
        by_cases h0 : er = 0
        · subst h0
          have HA2 : Hid (joinK l m = k) := Lib.hid (by rw [HJK.out, if_pos HE1.out, HKK.out])
          have HA3 : Hid (joinN l m = joinL l m) := Lib.hid (by rw [HJN.out, if_pos HE1.out])
          have HS4 : Hid (StoAt (w2.setCell ⟨gx, 0, none⟩ (.map (some b2))) gx b2 (joinL l m)) := Lib.hid ⟨HBX.out.set 0 _, HMX.out.mod (Mod.setCell (S := fun j => j = gx) (p := ⟨gx, 0, none⟩) (Mod.refl _ _) (.inl rfl) _) (by omega)⟩
          have HM4 : Hid (Mod (· = gx) w (w2.setCell ⟨gx, 0, none⟩ (.map (some b2)))) := Lib.hid (Mod.setCell (S := fun j => j = gx) (p := ⟨gx, 0, none⟩) (Mod.of_pure HM3.out) (.inl rfl) _)
          have hBX := HBX.out
          have z0 := hBX.cell 0; have zf0 := hBX.frozen 0; simp at z0
          clear hBX HMX HBX HKK
          go_wp2_with fail
          refine bodyPost_ret (v := .tuple #[.int .i64 k, .int .i64 0]) (by simp [results, Tryz.results33, go_sem]) rfl ?_
          refine ⟨by rw [HE1.out, HA2.out], ⟨b2, ?_⟩, HM4.out⟩
          rw [HA3.out]
          exact HS4.out
        · have h0' : (er != 0) = true := by simpa using h0
          have HA2 : Hid (joinK l m = 0) := Lib.hid (by rw [HJK.out, if_neg (by rw [HE1.out]; exact h0)])
          have HA3 : Hid (joinN l m = l) := Lib.hid (by rw [HJN.out, if_neg (by rw [HE1.out]; exact h0)])
          have HS3 := Lib.hid (HS0.out _ HM3.out)
          clear h0 HMX HBX HKK
          go_wp2_with fail
          refine bodyPost_ret (v := .tuple #[.int .i64 0, .int .i64 er]) (by simp [results, Tryz.results33, go_sem]) rfl ?_
          refine ⟨by rw [HE1.out, HA2.out], ⟨b, ?_⟩, Mod.of_pure HM3.out⟩
          rw [HA3.out]
          exact HS3.out
    · obtain ⟨i, hi, hid, rfl⟩ := byF_at hfs
      subst hid
      have HSTEP := Lib.hid (HSP.out left out hin i hi hls)
      have hm22 : Pure w w2 := hmm.trans' hm2 (fun k hk hl => by omega)
      have hown2 := own_mod hown hm2 (fun g hg hk => by subst hk; exact own_iter hown hrg hg)
      generalize m[i] = x at *
      have HRG3 := Lib.hid (hrg2.pure (pure_alloc w2 (.cells (itQ x) 59)))
      have HOW3 := Lib.hid (own_pure hown2 (pure_alloc w2 (.cells (itQ x) 59)))
      have HM4 := Lib.hid (hm22.alloc (.cells (itQ x) 59))
      have HB3 := Lib.hid (Blk.new w2 59 (itQ x))
      have hbw3 : base ≤ (w2.alloc (.cells (itQ x) 59)).heap.size := by rw [World.size_alloc]; omega
      have HXV := Lib.hid (itV_snoc out x)
      have hol : out.length ≤ 2000 := by omega
      clear hsz2 hrg hrg2 hin hown hmm hm2 hm22 hls hfs hown2 HSP HPE HWI
      unfold itA at hnx hen
      unfold itC at HXV
      unfold itQ at HRG3 HOW3 HM4 HB3 hbw3
      go_upto_region 5 with (fail)
      generalize (w2.alloc (.cells #[.string ⟨x.id.toArray⟩, .string ⟨x.cust.toArray⟩, .int .i64 x.kind, .string ⟨x.name.toArray⟩, .int .i64 x.tm, .string ⟨x.par.toArray⟩, .string ⟨x.text.toArray⟩] 59)) = w3 at *
      generalize w2.heap.size = gi at *
      have hB3 := HB3.out
      have own4 := HOW3.out
      have hm4 := HM4.out
      have c0 := hB3.cell 0; have c1 := hB3.cell 1; have c2 := hB3.cell 2; have c3 := hB3.cell 3; have c4 := hB3.cell 4; have c5 := hB3.cell 5; have c6 := hB3.cell 6; simp at c0 c1 c2 c3 c4 c5 c6
      clear hB3 HB3 HOW3 HM4
      go_wp2_with (at_builtin; refine wpList_append_lies _ rfl _ _ _ rfl base 59 i0 _ 7 96 Tryz.underlying26 hi0 hz0 hz1 hz2 rfl (by omega) (.slice Ao out.length cap) out.length (itV out) rfl (own4.alloc _) ⟨w3.heap.size, 0, none⟩ 1 1 [.string ⟨x.id.toArray⟩, .string ⟨x.cust.toArray⟩, .int .i64 x.kind, .string ⟨x.name.toArray⟩, .int .i64 x.tm, .string ⟨x.par.toArray⟩, .string ⟨x.text.toArray⟩] rfl rfl (World.news_of_block (cs := #[.string ⟨x.id.toArray⟩, .string ⟨x.cust.toArray⟩, .int .i64 x.kind, .string ⟨x.name.toArray⟩, .int .i64 x.tm, .string ⟨x.par.toArray⟩, .string ⟨x.text.toArray⟩]) (t := 59) (fr := (0, 0)) (heap_alloc_new w3 _)) (by simp [Value.oneCell']) (by omega) (by simp [maxLen]; omega) (by omega) (by have := hm4.size; simp; omega) (w3.heap.size + 1) (by simp) ?_; intro g5 cap5 w5 hown5 hgrow hat hlt5)
      go_roundg cnt2
      case measure => exact hlt2
      case rel =>
        have hnb : ∀ k, (Value.slice Ao out.length cap).ownBlock = some k → base ≤ k := fun k hk => own_block own4 k hk
        refine ⟨_, out ++ [x], some ⟨g5, 0, none⟩, cap5, by simp, (HRG3.out.pure (pure_alloc _ _)).mod (mod_grown hgrow) (fun hk => by have := hnb _ hk; omega) (fun hk => own_iter own4 HRG3.out hk), by simp; omega, HSTEP.out, ?_, (hm4.alloc _).grown hgrow (fun k hk => .inr (by have := hnb k hk; omega)), by have := hgrow.size; simp at this; omega⟩
        rw [HXV.out]
        simpa using hown5

end Go.Proofs.YtbdeicbdehgeiaaGreatDoor
