/- Split of package sample, SplitOf of the reference. -/
import Derived.Test.YtdknpekbonmmhaaGreatDoorWeights
import Derived.Test.YtdknpekbonmmhaaGreatDoorTab
import Derived.Test.YtdknpekbonmmhaaGreatDoorRegG
import Derived.Deep.AppendLies
namespace Go.Proofs.YtdknpekbonmmhaaGreatDoor
set_option linter.unusedVariables false
set_option linter.unusedSimpArgs false
open Go.RowKit

/-- The part of an id. -/
def partF (seed : Str) (ws : List Int) (id : Str) : Nat := partL ws ((hashN (seed ++ 32 :: id) : Int) % sumI ws)
def rowsV (xss : List (List Str)) : List (List Value) := xss.map strsV
/-- v is a slice of slices of strings that reads as xss. -/
def SlSS (w : World) (v : Value) (xss : List (List Str)) : Prop :=
  ∃ us, Sl w 35 1 v us ∧ us.length = xss.length ∧ ∀ i, i < us.length → Sl w 9 1 (us.getD i nilS) (strsV (xss.getD i []))
theorem SlSS.pure {w w' : World} {v : Value} {xss : List (List Str)} (h : SlSS w v xss) (hm : Pure w w') : SlSS w' v xss := by
  obtain ⟨us, h1, h2, h3⟩ := h
  exact ⟨us, h1.pure hm, h2, fun i hi => (h3 i hi).pure hm⟩
theorem rowsV_getD (xss : List (List Str)) (i : Nat) : (rowsV xss).getD i [] = strsV (xss.getD i []) := by
  simp only [rowsV, List.getD, List.getElem?_map]
  cases xss[i]? <;> rfl
theorem Tab.slss {w : World} {base g n : Nat} {us : List Value} {xss : List (List Str)} (h : Tab w base 9 us (rowsV xss)) (hb : Blk w g 35 us.toArray) (hn : xss.length = n) (hl : n ≤ 1000000) : SlSS w (.slice (some ⟨g, 0, none⟩) n n) xss := by
  have hl2 : us.length = xss.length := by have := h.len; simpa [rowsV] using this
  refine ⟨us, ⟨_, _, _, rfl, Nat.le_refl _, by omega, by omega, fun _ => ⟨g, 0, rfl, hb.row0⟩⟩, hl2, fun i hi => ?_⟩
  have := Sl.of_own (h.own i hi)
  rw [rowsV_getD] at this
  exact this
def SSPost (w : World) (xss : List (List Str)) (e : Ending) (w' : World) : Prop := ∃ v, e = .returned v ∧ SlSS w' v xss ∧ Pure w w'
theorem info_strs_ : (Tryz.prog.info? 35).map (fun i => (i.zero, i.size, i.bytes)) = some (some (.slice none 0 0), 1, 24) := by kernel_rfl
theorem info_st_ : (Tryz.prog.info? 9).map (fun i => (i.zero, i.size, i.bytes)) = some (some (.string ⟨#[]⟩), 1, 16) := by kernel_rfl
def nilRows (n : Nat) : Array Value := (List.replicate n nilS).toArray
/-- The table at block g, its rows behind it. -/
def TabAt (w : World) (g : Nat) (xss : List (List Str)) : Prop := ∃ us, Blk w g 35 us.toArray ∧ Tab w (g + 1) 9 us (rowsV xss)
def SumRel3 (w : World) (ws : List Int) (gk : Nat) (s i : Value) (wr : World) : Prop :=
  ∃ k : Nat, ws.length - k = gk ∧ k ≤ ws.length ∧ i = .int .i64 (k : Int) ∧ s = .int .i64 (sumI (ws.take k)) ∧ w = wr
def RowsRel (W : World) (f : Str → Nat) (n : Nat) (ids : List Str) (g gk : Nat) (i : Value) (wr : World) : Prop :=
  ∃ k : Nat, ids.length - k = gk ∧ k ≤ ids.length ∧ i = .int .i64 (k : Int) ∧ TabAt wr g (rowsTo f n (ids.take k)) ∧ Mod (fun j => g ≤ j) W wr
def FindRel (W : World) (ws : List Int) (h : Int) (gk : Nat) (r i : Value) (wr : World) : Prop :=
  ∃ (k : Nat) (x : Int), ws.length - k = gk ∧ i = .int .i64 (k : Int) ∧ r = .int .i64 x ∧ partAt ws h k x ∧ W = wr
theorem tab_put {w w' : World} {g k n' N : Nat} {us : List Value} {xss : List (List Str)} {v' : Value} {id : Str} (hb : Blk w g 35 us.toArray) (ht : Tab w (g + 1) 9 us (rowsV xss)) (hk : k < us.length)
    (hg : w.grownBy w' (us.getD k nilS).ownBlock) (hown : w'.ownsRow (g + 1) 9 1 v' n' (strsV (xss.getD k []) ++ [.string ⟨id.toArray⟩]))
    (hat : v'.ownBlock = (us.getD k nilS).ownBlock ∨ v'.ownBlock = some N) (hN : w.heap.size ≤ N) : TabAt (w'.setCell ⟨g, k, none⟩ v') g (xss.set k (xss.getD k [] ++ [id])) := by
  have hl2 : us.length = xss.length := by have := ht.len; simpa [rowsV] using this
  have hg1 : ∀ b, (us.getD k nilS).ownBlock = some b → g + 1 ≤ b := fun b h => own_block (ht.own k hk) b h
  refine ⟨us.set k v', ?_, ?_⟩
  · have h1 : Blk w' g 35 us.toArray := (hg.block g hb.lt (fun h => by have := hg1 g h.symm; omega)).trans hb
    have h2 := h1.set k v'
    simpa using h2
  · have h3 := ht.grow hk hg hown hat hN
    have e : (rowsV xss).set k (strsV (xss.getD k []) ++ [.string ⟨id.toArray⟩]) = rowsV (xss.set k (xss.getD k [] ++ [id])) := by
      simp [rowsV, List.map_set, strsV]
    rw [e] at h3
    exact h3.mod (S := fun j => j = g) (Mod.setCell (S := fun j => j = g) (p := ⟨g, k, none⟩) (Mod.refl _ _) (.inl rfl) _) (fun j hj h => by omega)

theorem TabAt.mod {w w' : World} {S : Nat → Prop} {g : Nat} {xss : List (List Str)} (h : TabAt w g xss) (hm : Mod S w w') (hs : ∀ j, g ≤ j → ¬ S j) : TabAt w' g xss := by
  obtain ⟨us, hb, ht⟩ := h
  exact ⟨us, hb.mod hm (hs g (Nat.le_refl _)), ht.mod hm (fun j hj => hs j (by omega))⟩
theorem rows_row_len (f : Str → Nat) (n : Nat) (ids : List Str) : ∀ k, k ≤ ids.length → ∀ i, ((rowsTo f n (ids.take k)).getD i []).length ≤ k := by
  intro k
  induction k with
  | zero =>
    intro _ i
    simp only [List.take_zero, rowsTo, List.foldl_nil, List.getD]
    rw [List.getElem?_replicate]
    split <;> simp
  | succ k ih =>
    intro hk i
    have h1 := ih (by omega) i
    rw [List.take_succ_eq_append_getElem (by omega), rowsTo_snoc]
    unfold rowStep
    by_cases hl : f ids[k] < (rowsTo f n (ids.take k)).length
    · rw [getD_set _ _ _ _ _ hl]
      split
      · have h2 := ih (by omega) (f ids[k])
        rw [List.length_append, List.length_singleton]
        omega
      · omega
    · rw [List.set_eq_of_length_le (by omega)]
      omega
theorem cell_of_tab {us : List Value} {k : Nat} (hk : k < us.length) : us.toArray[k]? = some (us.getD k nilS) := by simp [List.getD, hk]

set_option maxRecDepth 100000 in
set_option maxHeartbeats 8000000 in
theorem SplitOf_calls (w : World) (v1 v2 : Value) (ids : List Str) (seed : Str) (ws : List Int) (hv1 : Sl w 9 1 v1 (strsV ids)) (hv2 : Sl w 3 1 v2 (intsV ws)) (hz : ∀ s ∈ ids, s.length ≤ 1000) (hzs : seed.length ≤ 1000) (hli : ids.length ≤ 2000)
    (hw : weightsE ws = 0) : Calls Tryz.prog 43 #[v1, .string ⟨seed.toArray⟩, v2] w (SSPost w (rowsTo (partF seed ws) ws.length ids)) := by
  obtain ⟨i0, hi0, hz0, hz1, hz2⟩ := info_parts info_st_
  obtain ⟨w1, w2, w3, w4, w5⟩ := weights_ok hw
  have HW3 := Lib.hid w3
  clear w3 hw
  obtain ⟨A1, n1, c1, rfl, hc11, hc12, hl1, hr1⟩ := hv1
  have hln1 : ids.length = n1 := by simpa [strsV] using hl1
  subst hln1
  obtain ⟨A2, n2, c2, rfl, hc21, hc22, hl2, hr2⟩ := hv2
  have hln2 : ws.length = n2 := by simpa [intsV] using hl2
  subst hln2
  obtain ⟨g2, off2, rfl, hrow2⟩ := hr2 (by omega)
  have HR1 := Lib.hid hr1
  have HROW2 := Lib.hid hrow2
  have HZ := Lib.hid hz
  clear hl1 hl2 hr1 hr2 hz
  have hg2 := hrow2.lt
  clear hrow2
  have hmk := run_make_one (P := Tryz.prog) 60 35 nilS 24 Tryz.underlying60 info_strs_ rfl .i64 .i64 ws.length (ws.length : Int) rfl (by omega) (by omega) (nilRows ws.length) rfl
  go_enter Tryz.func43, Tryz.ntmps43
  go_wp2_with fail
  clear hmk
  have B0 := Blk.new w 35 (nilRows ws.length)
  have m0 : Pure w (w.alloc (.cells (nilRows ws.length) 35)) := (Mod.refl _ _).alloc _
  have T0 : TabAt (w.alloc (.cells (nilRows ws.length) 35)) w.heap.size (rowsTo (partF seed ws) ws.length []) := ⟨_, B0, by
    have := Tab.zeros (w.alloc (.cells (nilRows ws.length) 35)) (w.heap.size + 1) 9 ws.length
    have e : rowsV (rowsTo (partF seed ws) ws.length []) = List.replicate ws.length [] := by simp [rowsV, rowsTo, strsV]
    rw [e]
    exact this⟩
  have HT0 := Lib.hid T0
  clear T0 B0
  have hszW : (w.alloc (.cells (nilRows ws.length) 35)).heap.size = w.heap.size + 1 := by simp
  have hsW := Nat.le_of_eq hszW
  have hsW2 := Nat.le_of_eq hszW.symm
  clear hszW
  generalize (w.alloc (.cells (nilRows ws.length) 35)) = W at *
  generalize hdb : w.heap.size = b at *
  have hle := Nat.le_of_eq hdb
  clear hdb
  go_loopg [8, 21] ws.length (fun gk s i wr => SumRel3 W ws gk s i wr)
  case atStart => exact ⟨0, by omega, by omega, rfl, by simp [sumI], rfl⟩
  case round =>
    obtain ⟨k, rfl, hk, rfl, rfl, rfl⟩ := hrel
    have hb := sumI_take_bounds ws k (by
      rw [List.any_eq_false]
      intro z hz
      have := HW3.out z (List.mem_of_mem_take hz)
      simp [weightB, inB, this])
    by_cases hlt : k < ws.length
    · have hq := (HROW2.out.mod m0 id).cell (intsV_get ws k hlt)
      have hy := HW3.out _ (List.getElem_mem hlt)
      have HT := Lib.hid (sumI_take ws k hlt)
      generalize ws[k] = y at *
      generalize sumI (ws.take k) = t0 at *
      go_wp2_with fail
      go_roundg (ws.length - (k + 1))
      case measure => omega
      case rel => exact ⟨k + 1, rfl, hlt, by simp, by rw [HT.out], rfl⟩
    · have hke : k = ws.length := by omega
      subst hke
      have e1 : sumI (ws.take ws.length) = sumI ws := by rw [List.take_length]
      rw [e1] at hb ⊢
      clear e1 hlt hk hb
      obtain ⟨sum, hsum⟩ : ∃ sum, sumI ws = sum := ⟨_, rfl⟩
      have HSUM := Lib.hid hsum
      rw [hsum] at w4 w5 ⊢
      clear hsum
      go_wp2_with fail
      go_loopg [31] ids.length (fun gk i wr => RowsRel W (partF seed ws) ws.length ids b gk i wr)
      case atStart => exact ⟨0, by omega, by omega, rfl, HT0.out, Mod.refl _ _⟩
      case round =>
        obtain ⟨k, rfl, hk, rfl, htab, hm⟩ := hrel
        have HTAB := Lib.hid htab
        clear htab
        by_cases hlt : k < ids.length
        · obtain ⟨g1, off1, rfl, hrow1⟩ := HR1.out (by omega)
          have hg1 := hrow1.lt
          have hq := ((hrow1.mod m0 id).mod hm (by omega)).cell (strsV_get ids k hlt)
          have hzk := HZ.out _ (List.getElem_mem hlt)
          have y1 : (⟨ids[k].toArray⟩ : ByteArray).size ≤ 1000 := by simp [ByteArray.size]; omega
          have y2 : (⟨seed.toArray⟩ : ByteArray).size ≤ 1000 := by simp [ByteArray.size]; omega
          have HP : Hid (partF seed ws ids[k] = partL ws ((hashN (seed ++ 32 :: ids[k]) : Int) % sum)) := by
            show partF seed ws ids[k] = _
            unfold partF
            rw [HSUM.out]
          have HST : Hid (rowsTo (partF seed ws) ws.length (ids.take (k + 1)) = rowStep (partF seed ws) (rowsTo (partF seed ws) ws.length (ids.take k)) ids[k]) := by
            show _ = _
            rw [List.take_succ_eq_append_getElem hlt, rowsTo_snoc]
          have HRL := Lib.hid (rows_row_len (partF seed ws) ws.length ids k hk)
          have HRL2 := Lib.hid (rowsTo_len (partF seed ws) ws.length (ids.take k))
          have HH := Lib.hid (HashOf_calls wr ⟨ids[k].toArray⟩ ⟨seed.toArray⟩ y1 y2)
          rw [show (⟨seed.toArray⟩ : ByteArray).data.toList ++ 32 :: (⟨ids[k].toArray⟩ : ByteArray).data.toList = seed ++ 32 :: ids[k] from rfl] at HH
          clear hrow1 y1 y2 hzk
          generalize hashN (seed ++ 32 :: ids[k]) = hh at *
          generalize ids[k] = idk at *
          have hms := hm.size
          go_wp2_with fail
          refine HH.out.mono ?_
          rintro e wq ⟨rfl, hmq⟩
          have hms2 := hmq.size
          have hmod1 := Int.emod_nonneg (hh : Int) (show sum ≠ 0 by omega)
          have hmod2 := Int.emod_lt_of_pos (hh : Int) (show 0 < sum by omega)
          have HPA := Lib.hid (partAt_zero (ws := ws) hmod1 (by rw [HSUM.out]; exact hmod2))
          have t1 : (hh : Int).tmod sum = (hh : Int) % sum := Int.tmod_eq_emod_of_nonneg (by omega)
          have hsne : (sum == 0) = false := by simp; omega
          have TQ := HTAB.out.mod hmq (fun j _ h => h)
          have HTQ := Lib.hid TQ
          have MQ : Mod (fun j => b ≤ j) W wq := hm.transp hmq
          clear HH HTAB hq hm hmq TQ
          go_wp2_with fail
          go_loopg [13, 42] ws.length (fun gk r i wr => FindRel wq ws ((hh : Int) % sum) gk r i wr)
          case atStart => exact ⟨0, _, by omega, rfl, rfl, HPA.out, rfl⟩
          case round =>
            obtain ⟨j, x, rfl, rfl, rfl, hpa, rfl⟩ := hrel
            have hj := hpa.lt
            have hq := ((HROW2.out.mod m0 id).mod MQ (by omega)).cell (intsV_get ws j hj)
            have hy := HW3.out _ (List.getElem_mem hj)
            have HD := Lib.hid (hpa.done hj)
            have HN := Lib.hid (hpa.next hj)
            have hx0 := hpa.2.2
            have hxl : x < 1000000 := by
              have h1 := hpa.2.1
              have h2 := sumI_le 1000 (ws.drop j) (fun z hz => (HW3.out z (List.mem_of_mem_drop hz)).2)
              have h3 : ((ws.drop j).length : Int) ≤ 20 := by rw [List.length_drop]; omega
              have h4 := Int.mul_le_mul_of_nonneg_right h3 (show (0 : Int) ≤ 1000 by omega)
              omega
            clear hpa
            generalize ws[j] = y at *
            by_cases hxy : x < y
            · have hpart := HP.out.trans (HD.out hxy)
              have HPART := Lib.hid hpart
              clear hpart
              have n1 : x - y < 0 := by omega
              obtain ⟨us, hbu, htu⟩ := HTQ.out
              have hju : j < us.length := by
                have := htu.len
                simp [rowsV, HRL2.out] at this
                omega
              have hown := htu.own j hju
              rw [rowsV_getD] at hown
              have hrl := HRL.out j
              have hrl' : (strsV ((rowsTo (partF seed ws) ws.length (ids.take k)).getD j [])).length ≤ k := by rw [strsV_len]; exact hrl
              generalize (strsV ((rowsTo (partF seed ws) ws.length (ids.take k)).getD j [])).length = lr at *
              obtain ⟨Au, nu, cu, hu⟩ := (Sl.of_own hown).form
              have hnu : nu = lr := by
                rw [hu] at hown
                rcases hown.2 with ⟨h, h0⟩ | ⟨g, cap', cur, h, _⟩
                · injection h with _ h1 _
                  omega
                · injection h with _ h1 _
              subst hnu
              have qu := (hbu.cell j).trans (cell_of_tab hju)
              rw [hu] at hown qu
              have HU := Lib.hid hu
              have HBU := Lib.hid hbu
              have HTU := Lib.hid htu
              have hb1 := hbu.lt
              clear hu hbu htu
              have j1 : (0 : Int) ≤ (j : Int) := by omega
              have j2 : (j : Int) < (ws.length : Int) := by omega
              have hownA := hown.alloc (.cells #[.string ⟨idk.toArray⟩] 9)
              have hbA := HBU.out.alloc (.cells #[.string ⟨idk.toArray⟩] 9)
              have HBA := Lib.hid hbA
              have htA := HTU.out.mod (pure_alloc wq (.cells #[.string ⟨idk.toArray⟩] 9)) (fun _ _ h => h)
              have HTA := Lib.hid htA
              clear hbA htA HBU HTU HTQ hown
              have hob := own_block hownA
              have HOB := Lib.hid hob
              clear hob
              go_wp2_with (at_builtin; (refine wpList_append_own_at _ rfl _ _ _ rfl (b + 1) 9 i0 _ 1 16 Tryz.underlying35 hi0 hz0 hz1 hz2 rfl (by omega) (.slice Au nu cu) nu _ rfl hownA ⟨wq.heap.size, 0, none⟩ 1 1 [.string ⟨idk.toArray⟩] rfl rfl (cell_one_new _ _ _) (by simp [Value.oneCell']) (by simp [maxLen]; omega) (by omega) (by simp; omega) ?_); intro v5 w5 hown5 hgrow hnil hat; obtain ⟨A5, n5, c5, rfl⟩ := (Sl.of_own hown5).form; have hb5 := (hgrow.block b HBA.out.lt (fun h => by have := HOB.out b h.symm; omega)).trans HBA.out; have q5 := (Blk.cell hb5 j).trans (cell_of_tab hju); have f5 := Blk.frozen hb5 j; clear hnil)
              go_roundg (ids.length - (k + 1))
              case measure => omega
              case rel =>
                refine ⟨k + 1, rfl, hlt, by simp, ?_, ?_⟩
                · rw [HST.out]
                  unfold rowStep
                  rw [HPART.out]
                  exact tab_put HBA.out HTA.out hju (by rw [HU.out]; exact hgrow) hown5 (by rw [HU.out]; exact hat) (Nat.le_refl _)
                · exact (((MQ.alloc _).grown hgrow (fun q hq => .inl (by have := HOB.out q hq; omega))).setCell (p := ⟨b, j, none⟩) (.inl (Nat.le_refl _)) _)
            · have n1 : ¬ x - y < 0 := by omega
              go_wp2_with fail
              go_roundg (ws.length - (j + 1))
              case measure => omega
              case rel => exact ⟨j + 1, x - y, rfl, by simp, rfl, HN.out (by omega), rfl⟩
        · have hke : k = ids.length := by omega
          subst hke
          go_wp2_with fail
          go_ret
          obtain ⟨us, hbu, htu⟩ := HTAB.out
          rw [List.take_length] at htu
          exact ⟨_, rfl, htu.slss hbu (rowsTo_len _ _ _) (by omega), m0.trans' hm (fun i hi hlt => by omega)⟩

end Go.Proofs.YtdknpekbonmmhaaGreatDoor
