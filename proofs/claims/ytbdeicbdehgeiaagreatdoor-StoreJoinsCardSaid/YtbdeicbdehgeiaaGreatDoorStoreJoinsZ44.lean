/- Texts of the proof of StoreJoins, put together: StoI, LawStoreAdds, LawStoreJoins. -/
import Derived.Test.YtbdeicbdehgeiaaGreatDoorStoreJoinsZ40
import Derived.Test.YtbdeicbdehgeiaaGreatDoorStoreJoinsZ42
import Derived.Test.YtbdeicbdehgeiaaGreatDoorStoreJoinsZ43
import Derived.Deep.DeepCutAuto
import Derived.Deep.CutBlock
/- Stores: fill of the law. -/
namespace Go.Proofs.YtbdeicbdehgeiaaGreatDoor
set_option linter.unusedVariables false
set_option linter.unusedSimpArgs false
open Go.RowKit Go.Sort

theorem MapX.neBlk {w : World} {b n : Nat} {f : Str → Option Value} {g : Nat} {t : TypeId} {cs : Array Value} (h : MapX w b n f) (hB : Blk w g t cs) : b ≠ g := fun he => by
  obtain ⟨D, ⟨es, clock, hb, _⟩, _⟩ := h
  subst he
  unfold Blk at hB
  rw [hb] at hB
  cases hB
/-- The blocks that fill may write. -/
def FlS (b gx gy : Nat) (k : Nat) : Prop := k = b ∨ k = gx ∨ k = gy
/-- Two stores that hold the same items, the stream, and the items that are handed out. -/
def FlSt (w : World) (b N gx gy : Nat) (v : Value) (items : List Itm) (M : Nat) (W : World) : Prop :=
  ∃ (l : List Itm) (bm : Nat) (vy : Value), StoAt W gx bm l ∧ RSto W gy vy l ∧ StOk l ∧ l.length ≤ M ∧ Strm W b N ∧ Its W v items ∧ Mod (FlS b gx gy) w W
theorem Its.notB {W W' : World} {b : Nat} {v : Value} {xs : List Itm} {t : TypeId} {cs : Array Value} (h : Its W v xs) (hm : Mod (fun k => k = b ∨ W.heap.size ≤ k) W W') (hB : Blk W b t cs) (ht : 59 ≠ t) : Its W' v xs :=
  Sl.mod h hm (fun g arr fr hg hs => by
    rcases hs with rfl | hs
    · unfold Blk at hB
      rw [hB] at hg
      injection hg with hg
      injection hg with _ h2 _
      exact ht h2.symm
    · have := (Array.getElem?_eq_some_iff.1 hg).1
      omega)
theorem mod_b {W W' : World} {b : Nat} (hm : Mod (· = b) W W') : Mod (fun k => k = b ∨ W.heap.size ≤ k) W W' := hm.mono (fun _ h => .inl h)
variable {w W W' : World} {b N N' gx gy M : Nat} {v : Value} {items : List Itm}
/-- The stream is asked, and memory is made. -/
theorem FlSt.far (h : FlSt w b N gx gy v items M W) (hb : gx ≠ b ∧ gy ≠ b) (hm : Mod (fun k => k = b ∨ W.heap.size ≤ k) W W') (hw : w.heap.size ≤ W.heap.size) (hS : Strm W' b N') : FlSt w b N' gx gy v items M W' := by
  obtain ⟨l, bm, vy, ⟨h1, h2⟩, ⟨h3, h4, h5⟩, h6, h7, h8, h9, h10⟩ := h
  have hx := h1.lt
  have hy := h3.lt
  have hml := h2.lt
  obtain ⟨A, n, c, k, hB, _⟩ := h8
  refine ⟨l, bm, vy, ⟨h1.mod hm (by rintro (h | h) <;> omega), h2.mod hm (by rintro (h | h); · exact h2.neBlk hB h
                                                                             · omega)⟩, ⟨h3.mod hm (by rintro (h | h) <;> omega), Its.notB h4 hm hB (by decide), h5⟩, h6, h7, hS, Its.notB h9 hm hB (by decide), h10.trans' hm (fun i hi hl => ?_)⟩
  rcases hi with hi | hi
  · exact .inl hi
  · omega
theorem FlSt.pure (h : FlSt w b N gx gy v items M W) (hb : gx ≠ b ∧ gy ≠ b) (hw : w.heap.size ≤ W.heap.size) (hm : Pure W W') : FlSt w b N gx gy v items M W' :=
  h.far hb (Mod.of_pure hm) hw (by obtain ⟨l, bm, vy, _, _, _, _, h8, _⟩ := h; exact h8.pure hm)
theorem FlSt.more (h : FlSt w b N gx gy v items M W) (hN : N ≤ N') {M' : Nat} (hM : M ≤ M') : FlSt w b N' gx gy v items M' W := by
  obtain ⟨l, bm, vy, h1, h2, h3, h4, h5, h6, h7⟩ := h
  exact ⟨l, bm, vy, h1, h2, h3, Nat.le_trans h4 hM, h5.more hN, h6, h7⟩
/-- A block of another type is written: rows of items are kept. -/
theorem Its.notG {W W' : World} {g : Nat} {v : Value} {xs : List Itm} {t : TypeId} {cs : Array Value} (h : Its W v xs) (hm : Mod (· = g) W W') (hB : Blk W g t cs) (ht : 59 ≠ t) : Its W' v xs :=
  Its.notB h (mod_b hm) hB ht
/-- What fill has at hand within a round. -/
def FlCut (W : World) (b N g9 : Nat) (wx : World) : Prop := ∃ z : Itm, ItB z ∧ Blk wx g9 59 (itQ z) ∧ Strm wx b N ∧ Mod (fun k => k = b ∨ W.heap.size ≤ k) W wx
def FlRel (w : World) (b N gx gy m : Nat) (v : Value) (items : List Itm) (M gk : Nat) (i : Value) (wr : World) : Prop :=
  ∃ j : Nat, m - j = gk ∧ j ≤ m ∧ i = .int .i64 (j : Int) ∧ FlSt w b (N + 150 * j) gx gy v items (M + j) wr
def FillPost (w : World) (b N gx gy : Nat) (v : Value) (items : List Itm) (M : Nat) (e : Ending) (w' : World) : Prop := e = .returned (.bool true) ∧ FlSt w b N gx gy v items M w'

set_option maxRecDepth 100000 in
set_option maxHeartbeats 8000000 in
theorem fill_calls (w : World) (b N gx gy : Nat) (v : Value) (items : List Itm) (M : Nat) (h : FlSt w b N gx gy v items M w) (hg : b < gx ∧ b < gy ∧ gx ≠ gy) (hN : N ≤ 100000000) (hM : M ≤ 500) (hz : ∀ x ∈ items, ItB x) (hl : items.length ≤ 1000) (hE : ∀ W, Mod (FlS b gx gy) w W → Env W) :
    Calls Tryz.prog 32 #[.pointer (some ⟨b, 0, none⟩), .pointer (some ⟨gx, 0, none⟩), .pointer (some ⟨gy, 0, none⟩), v] w (FillPost w b (N + 2200) gx gy v items (M + 14)) := by
  obtain ⟨hg1, hg2, hg3⟩ := hg
  have hgb : gx ≠ b ∧ gy ≠ b := ⟨by omega, by omega⟩
  have HE := Lib.hid hE
  have HZ := Lib.hid hz
  have hS0 : Strm w b N := by obtain ⟨l, bm, vy, _, _, _, _, h8, _⟩ := h; exact h8
  have hform : ∃ A n c, v = .slice A n c ∧ items.length = n := by
    obtain ⟨l, bm, vy, _, _, _, _, _, h9, _⟩ := h
    obtain ⟨A, n, c, rfl, _, _, hl2, _⟩ := h9
    rw [itV_len] at hl2
    exact ⟨A, n, c, rfl, by omega⟩
  obtain ⟨A, n, c, rfl, hln⟩ := hform
  subst hln
  have HF := Lib.hid h
  clear hE hz h
  go_enter Tryz.func32, Tryz.ntmps32
  go_wp2_with fail
  refine (rangeI_calls _ _ _ _ hS0 (by omega) (by omega) (by omega)).mono ?_
  rintro e w1 ⟨m, mI, rfl, hm14, rfl, hS1, hM1⟩
  have HF1 := Lib.hid (HF.out.far hgb (mod_b hM1) (Nat.le_refl _) hS1)
  have hw1 : w.heap.size ≤ w1.heap.size := hM1.size
  clear HF hS0 hS1 hM1
  go_wp2_with fail
  go_loopg [16] m (fun gk i wr => FlRel w b (N + 1) gx gy m (.slice A items.length c) items M gk i wr)
  case atStart => exact ⟨0, by omega, by omega, rfl, HF1.out.more (by omega) (by omega)⟩
  case round =>
    clear HF1 hw1 w1
    obtain ⟨j, rfl, hj, rfl, hst⟩ := hrel
    have hww : w.heap.size ≤ wr.heap.size := by obtain ⟨l, bm, vy, _, _, _, _, _, _, h10⟩ := hst; exact h10.size
    by_cases hlt : j < m
    · by_cases hl0 : items.length = 0
      · have hl1 : ((items.length : Int) == 0) = true := by simp [hl0]
        have hjI : (j : Int) < (m : Int) := by omega
        have HS := Lib.hid (hst.more (N' := N + 2200) (M' := M + 14) (by omega) (by omega))
        clear hst
        go_wp2_with fail
        obtain ⟨l, bm, vy, k1, k2, k3, k4, k5, k6, k7⟩ := HS.out
        have HK1 : Hid (∀ W, Pure wr W → StoAt W gx bm l) := Lib.hid (fun W h => k1.pure h)
        have HK2 : Hid (∀ W, Pure wr W → RSto W gy vy l) := Lib.hid (fun W h => k2.pure h)
        have HOK := Lib.hid k3
        have hll : l.length ≤ 2000 := by omega
        have HEND : Hid (∀ W, Pure wr W → FillPost w b (N + 2200) gx gy (.slice A items.length c) items (M + 14) (.returned (.bool true)) W) := Lib.hid (fun W h => ⟨rfl, HS.out.pure hgb hww h⟩)
        have hfy : ∃ A n c, vy = .slice A n c := k2.2.1.form
        obtain ⟨Ay, ny, cy, rfl⟩ := hfy
        have HC1 := Lib.hid (stItems_calls wr gx bm l k1 k3.bd hll k3.rise k3.noloop)
        clear k1 k2 k3 k4 k5 k6 k7 HS
        refine HC1.out.mono ?_
        rintro e wa ⟨Aa, na, ca, rfl, ha, ma⟩
        have HA := Lib.hid ha
        have HC2 := Lib.hid (rstItems_calls wa gy Ay ny cy l (HK2.out _ ma) hll HOK.out.noloop)
        have HMA := Lib.hid ma
        clear HC1 ha ma
        go_wp2_with fail
        refine HC2.out.mono ?_
        rintro e wc ⟨Ac, nc, cc, rfl, hc, mc⟩
        have HC3 := Lib.hid (equalItm_calls wc _ _ _ (HA.out.pure mc) hc)
        have HMC := Lib.hid (HMA.out.trans mc)
        clear HC2 hc mc HA HMA
        go_wp2_with fail
        refine HC3.out.mono ?_
        rintro e wd ⟨rfl, md⟩
        have HMD := Lib.hid (HMC.out.trans md)
        have HC4 := Lib.hid (stWaiting_calls wd gx bm l (HK1.out _ HMD.out) HOK.out.bd hll HOK.out.rise HOK.out.noloop)
        clear HC3 md HMC
        go_wp2_with fail
        refine HC4.out.mono ?_
        rintro e we ⟨Ae, ne, ce, rfl, he, me⟩
        have HME := Lib.hid (HMD.out.trans me)
        have HEE := Lib.hid he
        have HC5 := Lib.hid (rstWaiting_calls we gy Ay ny cy l (HK2.out _ HME.out) hll HOK.out.noloop)
        clear HC4 he me HMD
        go_wp2_with fail
        refine HC5.out.mono ?_
        rintro e wf ⟨Af, nf, cf, rfl, hf, mf⟩
        have HC6 := Lib.hid (equalItm_calls wf _ _ _ (HEE.out.pure mf) hf)
        have HMF := Lib.hid (HME.out.trans mf)
        clear HC5 hf mf HEE HME
        go_wp2_with fail
        refine HC6.out.mono ?_
        rintro e wg ⟨rfl, mg⟩
        have HP := Lib.hid (HEND.out _ (HMF.out.trans mg))
        clear HC6 HEND HK1 HK2 mg
        go_wp2_with fail
        go_ret
        exact HP.out
      · have hl1 : ((items.length : Int) == 0) = false := beq_eq_false_iff_ne.2 (by omega)
        have HS := Lib.hid hst
        have hS1 : Strm wr b (N + 1 + 150 * j) := by obtain ⟨l, bm, vy, _, _, _, _, h8, _⟩ := hst; exact h8
        have hv : Its wr (.slice A items.length c) items := by obtain ⟨l, bm, vy, _, _, _, _, _, h9, _⟩ := hst; exact h9
        have HV := Lib.hid hv
        clear hst hv
        obtain ⟨N1, hN1⟩ : ∃ N1, N1 = N + 1 + 150 * j := ⟨_, rfl⟩
        rw [← hN1] at hS1 HS
        have hN1a := Nat.le_of_eq hN1
        have hN1b := Nat.le_of_eq hN1.symm
        clear hN1
        go_wp2_with fail
        refine (next_calls _ b _ _ hS1 (by omega) (by omega) (by omega)).mono ?_
        rintro e w2 ⟨kk, hk0, hk1, rfl, hS2, hM2⟩
        obtain ⟨k, rfl⟩ := Int.eq_ofNat_of_zero_le hk0
        have hkx : k < items.length := by omega
        have HS2 := Lib.hid (HS.out.far hgb (mod_b hM2) hww hS2)
        have hv2 : Its w2 (.slice A items.length c) items := by obtain ⟨l, bm, vy, _, _, _, _, _, h9, _⟩ := HS2.out; exact h9
        obtain ⟨_, _, _, hf, _, _, _, hr⟩ := hv2
        cases hf
        obtain ⟨gr, off, rfl, hrow⟩ := hr (by omega)
        obtain ⟨q0, q1, q2, q3, q4, q5, q6⟩ := item_cells hrow hkx
        have HZK := Lib.hid (HZ.out _ (List.getElem_mem hkx))
        have hww2 : w.heap.size ≤ w2.heap.size := by have := hM2.size; omega
        have HB2 := Lib.hid (Blk.new w2 59 (itQ items[k]))
        have HA2 : Hid (Mod (fun j => j = b ∨ w2.heap.size ≤ j) w2 (w2.alloc (.cells (itQ items[k]) 59))) := Lib.hid (Mod.of_pure (pure_alloc _ _))
        have hS3 : Strm (w2.alloc (.cells (itQ items[k]) 59)) b (N1 + 1) := hS2.alloc _
        have hg9 : w2.heap.size < (w2.alloc (.cells (itQ items[k]) 59)).heap.size := by simp
        have hb2 := hS2.lt
        clear HS HV hS1 hS2 hM2 hr hrow hk0
        generalize items[k] = x at *
        unfold itQ at HB2 HA2 hS3 hg9
        have hk2 : (0 : Int) ≤ (k : Int) := by omega
        go_wp2_with fail
        refine (flip_calls _ b _ _ hS3 (by omega) (by omega) (by omega)).mono ?_
        rintro e w3 ⟨fl, rfl, hS4, hM4⟩
        obtain ⟨g9, hg9e⟩ : ∃ g9, g9 = w2.heap.size := ⟨_, rfl⟩
        have hg9a := Nat.le_of_eq hg9e
        have hg9b := Nat.le_of_eq hg9e.symm
        rw [← hg9e] at HB2 ⊢
        clear hg9e
        have HB4 := Lib.hid (HB2.out.mod hM4 (by omega))
        have HA4 : Hid (Mod (fun j => j = b ∨ w2.heap.size ≤ j) w2 w3) := Lib.hid (HA2.out.trans (hM4.mono (fun _ h => .inl h)))
        have hg9l : g9 < w3.heap.size := HB4.out.lt
        clear HB2 HA2 hS3 hM4 hg9 q0 q1 q2 q3 q4 q5 q6
        go_upto_if 29 with (fail)
        go_cut [] (fun wx => FlCut w2 b (N1 + 143) g9 wx)
        case first =>
          cases fl
          · go_wp2_with fail
            go_meet
            exact ⟨x, HZK.out, HB4.out, hS4.more (by omega), HA4.out⟩
          have hidl := HZK.out.1
          have hB4 := HB4.out
          have c0 := hB4.cell 0; have cf0 := hB4.frozen 0; have c1 := hB4.cell 1; have cf1 := hB4.frozen 1; have c2 := hB4.cell 2; have cf2 := hB4.frozen 2; have c3 := hB4.cell 3; have cf3 := hB4.frozen 3; have c4 := hB4.cell 4; have cf4 := hB4.frozen 4; have c5 := hB4.cell 5; have cf5 := hB4.frozen 5; have c6 := hB4.cell 6; have cf6 := hB4.frozen 6; simp at c0 c1 c2 c3 c4 c5 c6
          have HIC := Lib.hid (item_calls w3 b (N1 + 1 + 1) x.id hS4 (by omega) hidl)
          clear hB4
          go_wp2_with fail
          refine HIC.out.mono ?_
          rintro e w4 ⟨z, hz, rfl, hS5, hM5⟩
          have HB5 := Lib.hid (HB4.out.mod hM5 (by omega))
          have HA5 : Hid (Mod (fun j => j = b ∨ w2.heap.size ≤ j) w2 w4) := Lib.hid (HA4.out.trans (hM5.mono (fun _ h => .inl h)))
          have HZ5 := Lib.hid hz
          have hB5 := HB5.out
          have hb4 := hS5.lt
          clear HB4 HA4 HIC hS4 hM5 hz c0 c1 c2 c3 c4 c5 c6 cf0 cf1 cf2 cf3 cf4 cf5 cf6
          have c0 := hB5.cell 0; have cf0 := hB5.frozen 0; have c1 := hB5.cell 1; have cf1 := hB5.frozen 1; have c2 := hB5.cell 2; have cf2 := hB5.frozen 2; have c3 := hB5.cell 3; have cf3 := hB5.frozen 3; have c4 := hB5.cell 4; have cf4 := hB5.frozen 4; have c5 := hB5.cell 5; have cf5 := hB5.frozen 5; have c6 := hB5.cell 6; have cf6 := hB5.frozen 6; simp at c0 c1 c2 c3 c4 c5 c6
          clear hB5
          unfold itA
          go_wp2_with fail
          go_meet
          have hgs : w2.heap.size ≤ g9 := hg9b
          refine ⟨z, HZ5.out, HB5.out.set7, ?_, ?_⟩
          · exact ((((((((hS5.setCell (p := ⟨g9, 0, none⟩) (by show b < g9; omega) _).setCell (p := ⟨g9, 1, none⟩) (by show b < g9; omega) _).setCell (p := ⟨g9, 2, none⟩) (by show b < g9; omega) _).setCell (p := ⟨g9, 3, none⟩) (by show b < g9; omega) _).setCell (p := ⟨g9, 4, none⟩) (by show b < g9; omega) _).setCell (p := ⟨g9, 5, none⟩) (by show b < g9; omega) _).setCell (p := ⟨g9, 6, none⟩) (by show b < g9; omega) _)).more (by omega)
          · exact HA5.out.trans ((Mod.set7 w4 g9 _ _ _ _ _ _ _).mono (fun i hi => .inr (by omega)))
        case rest =>
          clear HB4 HA4 HZK hS4 hg9l
          obtain ⟨z, hz, hB5, hS5, hA5⟩ := hcut
          have hZ5 := Lib.hid hz
          have HB5 := Lib.hid hB5
          have HA5 := Lib.hid hA5
          have hb4 := hS5.lt
          have hg9l := hB5.lt
          clear hz hB5 hA5
          go_wp2_with fail
          refine (flip_calls _ b _ _ hS5 (by omega) (by omega) (by omega)).mono ?_
          rintro e w4 ⟨f2, rfl, hS6, hM6⟩
          have HB6 := Lib.hid (HB5.out.mod hM6 (by omega))
          have HA6 : Hid (Mod (fun j => j = b ∨ w2.heap.size ≤ j) w2 w4) := Lib.hid (HA5.out.trans (hM6.mono (fun _ h => .inl h)))
          have hg9m : g9 < w4.heap.size := HB6.out.lt
          clear HB5 HA5 hS5 hM6 hg9l
          go_upto_if 35 with (fail)
          go_cut [] (fun wx => FlCut w2 b (N1 + 146) g9 wx)
          case first =>
            cases f2
            · go_wp2_with fail
              go_meet
              exact ⟨z, hZ5.out, HB6.out, hS6.more (by omega), HA6.out⟩
            have hst := HS2.out.far hgb HA6.out hww2 hS6
            have hv6 : Its w4 (.slice (some ⟨gr, off, none⟩) items.length c) items := by obtain ⟨l, bm, vy, _, _, _, _, _, h9, _⟩ := hst; exact h9
            have HIC := Lib.hid (anyId_calls w4 b _ _ items hS6 (by omega) hv6 HZ.out (by omega))
            clear hst hv6
            go_wp2_with fail
            refine HIC.out.mono ?_
            rintro e w5 ⟨s, hs, rfl, hS7, hM7⟩
            have HB7 := Lib.hid (HB6.out.mod hM7 (by omega))
            have HA7 : Hid (Mod (fun j => j = b ∨ w2.heap.size ≤ j) w2 w5) := Lib.hid (HA6.out.trans (hM7.mono (fun _ h => .inl h)))
            have hB7 := HB7.out
            have hb5 := hS7.lt
            clear HB6 HA6 HIC hS6 hM7
            unfold itQ at hB7
            have c0 := hB7.cell 0; have cf0 := hB7.frozen 0; have c1 := hB7.cell 1; have cf1 := hB7.frozen 1; have c2 := hB7.cell 2; have cf2 := hB7.frozen 2; have c3 := hB7.cell 3; have cf3 := hB7.frozen 3; have c4 := hB7.cell 4; have cf4 := hB7.frozen 4; have c5 := hB7.cell 5; have cf5 := hB7.frozen 5; have c6 := hB7.cell 6; have cf6 := hB7.frozen 6; simp at c0 c1 c2 c3 c4 c5 c6
            clear hB7
            go_wp2_with fail
            go_meet
            refine ⟨{ z with par := s }, hZ5.out.par (s := s) (by omega), ?_, (hS7.setCell (p := ⟨g9, 5, none⟩) (by show b < g9; omega) _).more (by omega), HA7.out.trans (Mod.setCell (S := fun j => j = b ∨ w2.heap.size ≤ j) (p := ⟨g9, 5, none⟩) (Mod.refl _ _) (.inl (.inr hg9b)) _)⟩
            have := HB7.out.set 5 (.string ⟨s.toArray⟩)
            simpa [itQ] using this
          case rest =>
            clear HB6 HA6 hZ5 hS6 hg9m
            obtain ⟨y, hy, hB7, hS7, hA7⟩ := hcut
            have hst := HS2.out.far hgb hA7 hww2 hS7
            obtain ⟨l, bm, vy, k1, k2, k3, k4, k5, k6, k7⟩ := hst
            have HPA := Lib.hid (padd_calls _ gx bm l y k1 k3 (by omega) hy (HE.out _ k7))
            have HY := Lib.hid hy
            have HB7 := Lib.hid hB7
            have K1 := Lib.hid k1
            have K2 := Lib.hid k2
            have K3 := Lib.hid k3
            have K5 := Lib.hid k5
            have K6 := Lib.hid k6
            have K7 := Lib.hid k7
            have hgxl := k1.1.lt
            have hxw2 : gx < w2.heap.size := by obtain ⟨l, bm, vy, ⟨h, _⟩, _⟩ := HS2.out; exact h.lt
            have hyw2 : gy < w2.heap.size := by obtain ⟨l, bm, vy, _, ⟨h, _⟩, _⟩ := HS2.out; exact h.lt
            unfold itQ at hB7
            have c0 := hB7.cell 0; have c1 := hB7.cell 1; have c2 := hB7.cell 2; have c3 := hB7.cell 3; have c4 := hB7.cell 4; have c5 := hB7.cell 5; have c6 := hB7.cell 6; simp at c0 c1 c2 c3 c4 c5 c6
            clear hy hB7 hA7 k1 k2 k3 k5 k6 k7 HS2
            unfold itA at HPA
            go_wp2_with fail
            refine HPA.out.mono ?_
            rintro e w6 ⟨rfl, ⟨b6, hst6⟩, m6⟩
            have HST6 := Lib.hid hst6
            have HB8 := Lib.hid (HB7.out.mod m6 (by omega))
            have HR6 : Hid (RSto w6 gy vy l) := Lib.hid ⟨K2.out.1.mod m6 (by omega), Its.notG K2.out.2.1 m6 K1.out.1 (by decide), K2.out.2.2⟩
            have HV6 : Hid (Its w6 (.slice (some ⟨gr, off, none⟩) items.length c) items) := Lib.hid (Its.notG K6.out m6 K1.out.1 (by decide))
            have HS6 : Hid (Strm w6 b (N1 + 146)) := Lib.hid (K5.out.mod m6 (fun i hi => by omega))
            have HM6 : Hid (Mod (FlS b gx gy) w w6) := Lib.hid (K7.out.trans (m6.mono (fun i hi => .inr (.inl hi))))
            have HRA := Lib.hid (radd_calls w6 gy vy l y HR6.out K3.out (by omega) HY.out (HE.out _ HM6.out))
            have hB8 := HB8.out
            clear HPA hst6 m6 K1 K2 K5 K6 K7 HB7 c0 c1 c2 c3 c4 c5 c6
            unfold itQ at hB8
            have c0 := hB8.cell 0; have c1 := hB8.cell 1; have c2 := hB8.cell 2; have c3 := hB8.cell 3; have c4 := hB8.cell 4; have c5 := hB8.cell 5; have c6 := hB8.cell 6; simp at c0 c1 c2 c3 c4 c5 c6
            clear hB8
            unfold itA at HRA
            go_wp2_with fail
            refine HRA.out.mono ?_
            rintro e w7 ⟨rfl, ⟨v7, hst7⟩, m7⟩
            have HST7 : Hid (StoAt w7 gx b6 (addN l y)) := Lib.hid ⟨HST6.out.1.mod m7 (by omega), HST6.out.2.mod m7 (fun h => HST6.out.2.neBlk HR6.out.1 h)⟩
            have HV7 : Hid (Its w7 (.slice (some ⟨gr, off, none⟩) items.length c) items) := Lib.hid (Its.notG HV6.out m7 HR6.out.1 (by decide))
            have HS7 : Hid (Strm w7 b (N1 + 146)) := Lib.hid (HS6.out.mod m7 (fun i hi => by omega))
            have HM7 : Hid (Mod (FlS b gx gy) w w7) := Lib.hid (HM6.out.trans (m7.mono (fun i hi => .inr (.inr hi))))
            have HFI : Hid (FlSt w b (N1 + 146) gx gy (.slice (some ⟨gr, off, none⟩) items.length c) items (M + j + 1) w7) := Lib.hid ⟨addN l y, b6, v7, HST7.out, hst7, K3.out.add HY.out, by have := addN_len l y; omega, HS7.out, HV7.out, HM7.out⟩
            clear HRA hst7 m7 HST6 HB8 HR6 HV6 HS6 HM6 HST7 HV7 HS7 HM7 K3 c0 c1 c2 c3 c4 c5 c6
            have hb1 : (addB l y != addB l y) = false := by simp
            have hb2 : (addE l y != addE l y) = false := by simp
            generalize addB l y = ab at *
            generalize addE l y = ae at *
            go_wp2_with fail
            go_roundg (m - (j + 1))
            case measure => omega
            case rel => exact ⟨j + 1, rfl, by omega, by simp, HFI.out.more (by omega) (by omega)⟩
    · obtain rfl : j = m := by omega
      have HS := Lib.hid (hst.more (N' := N + 2200) (M' := M + 14) (by omega) (by omega))
      clear hst
      go_wp2_with fail
      obtain ⟨l, bm, vy, k1, k2, k3, k4, k5, k6, k7⟩ := HS.out
      have HK1 : Hid (∀ W, Pure wr W → StoAt W gx bm l) := Lib.hid (fun W h => k1.pure h)
      have HK2 : Hid (∀ W, Pure wr W → RSto W gy vy l) := Lib.hid (fun W h => k2.pure h)
      have HOK := Lib.hid k3
      have hll : l.length ≤ 2000 := by omega
      have HEND : Hid (∀ W, Pure wr W → FillPost w b (N + 2200) gx gy (.slice A items.length c) items (M + 14) (.returned (.bool true)) W) := Lib.hid (fun W h => ⟨rfl, HS.out.pure hgb hww h⟩)
      have hfy : ∃ A n c, vy = .slice A n c := k2.2.1.form
      obtain ⟨Ay, ny, cy, rfl⟩ := hfy
      have HC1 := Lib.hid (stItems_calls wr gx bm l k1 k3.bd hll k3.rise k3.noloop)
      clear k1 k2 k3 k4 k5 k6 k7 HS
      refine HC1.out.mono ?_
      rintro e wa ⟨Aa, na, ca, rfl, ha, ma⟩
      have HA := Lib.hid ha
      have HC2 := Lib.hid (rstItems_calls wa gy Ay ny cy l (HK2.out _ ma) hll HOK.out.noloop)
      have HMA := Lib.hid ma
      clear HC1 ha ma
      go_wp2_with fail
      refine HC2.out.mono ?_
      rintro e wc ⟨Ac, nc, cc, rfl, hc, mc⟩
      have HC3 := Lib.hid (equalItm_calls wc _ _ _ (HA.out.pure mc) hc)
      have HMC := Lib.hid (HMA.out.trans mc)
      clear HC2 hc mc HA HMA
      go_wp2_with fail
      refine HC3.out.mono ?_
      rintro e wd ⟨rfl, md⟩
      have HMD := Lib.hid (HMC.out.trans md)
      have HC4 := Lib.hid (stWaiting_calls wd gx bm l (HK1.out _ HMD.out) HOK.out.bd hll HOK.out.rise HOK.out.noloop)
      clear HC3 md HMC
      go_wp2_with fail
      refine HC4.out.mono ?_
      rintro e we ⟨Ae, ne, ce, rfl, he, me⟩
      have HME := Lib.hid (HMD.out.trans me)
      have HEE := Lib.hid he
      have HC5 := Lib.hid (rstWaiting_calls we gy Ay ny cy l (HK2.out _ HME.out) hll HOK.out.noloop)
      clear HC4 he me HMD
      go_wp2_with fail
      refine HC5.out.mono ?_
      rintro e wf ⟨Af, nf, cf, rfl, hf, mf⟩
      have HC6 := Lib.hid (equalItm_calls wf _ _ _ (HEE.out.pure mf) hf)
      have HMF := Lib.hid (HME.out.trans mf)
      clear HC5 hf mf HEE HME
      go_wp2_with fail
      refine HC6.out.mono ?_
      rintro e wg ⟨rfl, mg⟩
      have HP := Lib.hid (HEND.out _ (HMF.out.trans mg))
      clear HC6 HEND HK1 HK2 mg
      go_wp2_with fail
      go_ret
      exact HP.out

end Go.Proofs.YtbdeicbdehgeiaaGreatDoor

/- The law StoreAdds. -/
namespace Go.Proofs.YtbdeicbdehgeiaaGreatDoor
set_option linter.unusedVariables false
set_option linter.unusedSimpArgs false
open Go.RowKit Go.Sort

def NewPost (w : World) (e : Ending) (w' : World) : Prop := ∃ gx b, e = .returned (.pointer (some ⟨gx, 0, none⟩)) ∧ w.heap.size ≤ gx ∧ StoAt w' gx b [] ∧ Pure w w'
set_option maxRecDepth 100000 in
set_option maxHeartbeats 1000000 in
theorem new_calls (w : World) : Calls Tryz.prog 31 #[] w (NewPost w) := by
  have hmm := @run_makeMap Tryz.prog
  have hM := (MapX.made w).alloc (.cells #[.map (some w.heap.size)] 131)
  have hB := Blk.new (w.alloc (.map #[] 0)) 131 #[.map (some w.heap.size)]
  have hP : Pure w ((w.alloc (.map #[] 0)).alloc (.cells #[.map (some w.heap.size)] 131)) := (pure_alloc _ _).trans (pure_alloc _ _)
  have HM := Lib.hid hM
  have HB := Lib.hid hB
  have HP := Lib.hid hP
  clear hM hB hP
  go_enter Tryz.func31, Tryz.ntmps31
  go_wp2_with fail
  go_ret
  refine ⟨w.heap.size + 1, w.heap.size, rfl, by omega, ⟨by simpa using HB.out, ?_⟩, HP.out⟩
  have : byF [] = fun _ => none := byF_nil
  rw [this]
  exact HM.out

set_option maxRecDepth 100000 in
set_option maxHeartbeats 8000000 in
theorem StoreAdds_calls (w : World) (A : Option Addr) (n c : Nat) (hA : ArgInts w A n) (hE : ErrS w) (hD : Deb w) (hV : Env w) :
    Calls Tryz.prog 6 #[.slice A n c] w (BoolPost w true) := by
  have hS0 := strm_new (c := c) hA
  have HE : Hid (∀ w1, Pure w w1 → ErrS w1) := Lib.hid (fun _ h => hE.pure h)
  have HD : Hid (∀ w1, Pure w w1 → Deb w1) := Lib.hid (fun _ h => hD.pure h)
  have HV : Hid (∀ w1, Pure w w1 → Env w1) := Lib.hid (fun _ h => hV.pure h)
  obtain ⟨b, hb⟩ : ∃ b, b = w.heap.size := ⟨_, rfl⟩
  have P0 := pure_alloc w (.cells #[.slice A n c, .int .i64 0] 25)
  have HPS : Hid (∀ {w1 w' : World}, Pure w w1 → Mod (· = b) w1 w' → Pure w w') := Lib.hid (fun k h => k.trans' h (fun i hi hlt => by omega))
  rw [← hb] at hS0
  clear hE hD hV hA
  go_enter Tryz.func6, Tryz.ntmps6
  go_wp2_with fail
  rw [← hb]
  generalize (w.alloc (.cells #[.slice A n c, .int .i64 0] 25)) = w0 at *
  have hb0 := hS0.lt
  have hbw := Nat.le_of_eq hb
  have hbw2 := Nat.le_of_eq hb.symm
  clear hb
  refine (new_calls _).mono ?_
  rintro e w1 ⟨gx, bm, rfl, hgx, hst, hM1⟩
  have P1 := P0.trans hM1
  have hS1 := hS0.pure hM1
  have hs1 := hM1.size
  have HST := Lib.hid hst
  clear hS0 P0 hM1 hst
  go_wp2_with fail
  have hgxl : gx < w1.heap.size := HST.out.1.lt
  have HB2 := Lib.hid (Blk.new w1 75 #[.slice none 0 0])
  have hM2 := pure_alloc w1 (.cells #[.slice none 0 0] 75)
  have hS2 := hS1.alloc (.cells #[.slice none 0 0] 75)
  have P2 := P1.trans hM2
  have HST2 := Lib.hid (HST.out.pure hM2)
  obtain ⟨gy, hgy⟩ : ∃ gy, gy = w1.heap.size := ⟨_, rfl⟩
  have hgy1 := Nat.le_of_eq hgy
  have hgy2 := Nat.le_of_eq hgy.symm
  rw [← hgy] at HB2 ⊢
  clear hgy hM2 hS1 P1 HST
  generalize (w1.alloc (.cells #[.slice none 0 0] 75)) = w2 at *
  refine (range_calls _ b _ _ _ hS2 (by omega) (by omega) (by omega) (by omega)).mono ?_
  rintro e w3 ⟨mI, hm0, hm8, rfl, hS3, hM3⟩
  have P3 := HPS.out P2 hM3
  obtain ⟨m, hmI⟩ : ∃ m : Nat, mI = (m : Int) := Int.eq_ofNat_of_zero_le (by omega)
  have hm20 : m ≤ 8 := by omega
  have HIT := Lib.hid (items_calls w3 b _ m mI hmI hS3 (by omega) (by omega) (fun W h => HV.out W (HPS.out P3 h)))
  have HB3 := Lib.hid (HB2.out.mod hM3 (by omega))
  have HST3 : Hid (StoAt w3 gx bm []) := Lib.hid ⟨HST2.out.1.mod hM3 (by omega), HST2.out.2.mod hM3 (fun h => by
    obtain ⟨A, n, c, k, hB, _⟩ := hS2
    exact HST2.out.2.neBlk hB h)⟩
  clear hS2 P2 hM3 hmI hm0 hm8 HB2 HST2
  go_wp2_with fail
  refine HIT.out.mono ?_
  rintro e w4 ⟨v, xs, rfl, hxl, hxz, hown, hS4, hM4⟩
  have P4 := HPS.out P3 hM4
  have hv : Its w4 v xs := Sl.of_own hown
  have HXZ := Lib.hid hxz
  have hw4 : gx < w4.heap.size ∧ gy < w4.heap.size := by
    have h1 := HB3.out.lt
    have h2 := HST3.out.1.lt
    have h3 := hM4.size
    omega
  have HB4 := Lib.hid (HB3.out.mod hM4 (by omega))
  have HST4 : Hid (StoAt w4 gx bm []) := Lib.hid ⟨HST3.out.1.mod hM4 (by omega), HST3.out.2.mod hM4 (fun h => by
    obtain ⟨A, n, c, k, hB, _⟩ := hS3
    exact HST3.out.2.neBlk hB h)⟩
  have HFS : Hid (FlSt w4 b (1 + 1 + 142 * m + 160) gx gy v xs 0 w4) := Lib.hid ⟨[], bm, .slice none 0 0, HST4.out, ⟨HB4.out, Sl.nil_, .inl rfl⟩, StOk.nil, by simp, hS4.more (by omega), hv, Mod.refl _ _⟩
  have HPF : Hid (∀ W, Mod (FlS b gx gy) w4 W → Pure w W) := Lib.hid (fun W h => P4.trans' h (fun i hi hl => by rcases hi with h | h | h <;> omega))
  have HFC := Lib.hid (fill_calls w4 b _ gx gy v xs 0 HFS.out ⟨by omega, by omega, by omega⟩ (by omega) (by omega) hxz (by omega) (fun W h => HV.out W (HPF.out W h)))
  have HT : Hid (∀ W, Pure w W → _) := Lib.hid (fun W hW => taken_calls W (HE.out _ hW) (HD.out _ hW))
  clear HIT hS3 P3 hM4 hxz hown hv HB3 HST3 hS4 HST4 HB4 HE HD HV HPS HFS
  go_wp2_with fail
  refine HFC.out.mono ?_
  rintro e w5 ⟨rfl, l, bm, vy, _, _, _, _, _, _, hM5⟩
  have P5 := HPF.out _ hM5
  clear HFC hM5
  go_wp2_with fail
  refine (HT.out _ P5).mono ?_
  rintro e w6 ⟨rfl, m6⟩
  go_wp2_with fail
  go_ret
  exact ⟨rfl, P5.trans m6⟩

end Go.Proofs.YtbdeicbdehgeiaaGreatDoor

/- The law StoreJoins. -/
namespace Go.Proofs.YtbdeicbdehgeiaaGreatDoor
set_option linter.unusedVariables false
set_option linter.unusedSimpArgs false
open Go.RowKit Go.Sort

theorem StoAt.keep {W W' : World} {S : Nat → Prop} {gx bm : Nat} {l : List Itm} (h : StoAt W gx bm l) (hm : Mod S W W') (hx : ¬ S gx) (hS : ∀ k, S k → ∃ t cs, Blk W k t cs ∧ 59 ≠ t) : StoAt W' gx bm l :=
  ⟨h.1.mod hm hx, h.2.mod hm (fun hs => by obtain ⟨t, cs, hB, _⟩ := hS _ hs; exact h.2.neBlk hB rfl)⟩
theorem Its.fls {W W' : World} {S : Nat → Prop} {v : Value} {xs : List Itm} (h : Its W v xs) (hm : Mod S W W') (hS : ∀ k, S k → ∃ t cs, Blk W k t cs ∧ 59 ≠ t) : Its W' v xs :=
  Sl.mod h hm (fun g arr fr hg hs => by
    obtain ⟨t, cs, hB, ht⟩ := hS _ hs
    unfold Blk at hB
    rw [hB] at hg
    injection hg with hg
    injection hg with _ h2 _
    exact ht h2.symm)
theorem RSto.keep {W W' : World} {S : Nat → Prop} {gy : Nat} {v : Value} {l : List Itm} (h : RSto W gy v l) (hm : Mod S W W') (hy : ¬ S gy) (hS : ∀ k, S k → ∃ t cs, Blk W k t cs ∧ 59 ≠ t) : RSto W' gy v l :=
  ⟨h.1.mod hm hy, Its.fls h.2.1 hm hS, h.2.2⟩
theorem strm_blk {W : World} {b N : Nat} (h : Strm W b N) : ∃ t cs, Blk W b t cs ∧ 59 ≠ t := by
  obtain ⟨A, n, c, k, hB, _⟩ := h
  exact ⟨_, _, hB, by decide⟩
theorem fls_blk {W : World} {b N gx bm gy : Nat} {v : Value} {l m : List Itm} (hS : Strm W b N) (h1 : StoAt W gx bm l) (h2 : RSto W gy v m) : ∀ k, FlS b gx gy k → ∃ t cs, Blk W k t cs ∧ 59 ≠ t := fun k hk => by
  rcases hk with rfl | rfl | rfl
  · exact strm_blk hS
  · exact ⟨_, _, h1.1, by decide⟩
  · exact ⟨_, _, h2.1, by decide⟩
theorem one_blk {W : World} {b N : Nat} (hS : Strm W b N) : ∀ k, k = b → ∃ t cs, Blk W k t cs ∧ 59 ≠ t := fun k hk => by subst hk; exact strm_blk hS
theorem sto_blk {W : World} {gx bm : Nat} {l : List Itm} (h : StoAt W gx bm l) : ∀ k, k = gx → ∃ t cs, Blk W k t cs ∧ 59 ≠ t := fun k hk => by subst hk; exact ⟨_, _, h.1, by decide⟩
theorem rsto_blk {W : World} {gy : Nat} {v : Value} {l : List Itm} (h : RSto W gy v l) : ∀ k, k = gy → ∃ t cs, Blk W k t cs ∧ 59 ≠ t := fun k hk => by subst hk; exact ⟨_, _, h.1, by decide⟩
/-- The items for the second fill. -/
def JlCut (W : World) (b N : Nat) (x : Value) (wx : World) : Prop := ∃ ys : List Itm, Its wx x ys ∧ (∀ y ∈ ys, ItB y) ∧ ys.length ≤ 1000 ∧ Strm wx b N ∧ Mod (· = b) W wx

set_option maxRecDepth 100000 in
set_option maxHeartbeats 16000000 in
theorem StoreJoins_calls (w : World) (A : Option Addr) (n c : Nat) (hA : ArgInts w A n) (hE : ErrS w) (hD : Deb w) (hV : Env w) :
    Calls Tryz.prog 7 #[.slice A n c] w (BoolPost w true) := by
  have hS0 := strm_new (c := c) hA
  have HE : Hid (∀ w1, Pure w w1 → ErrS w1) := Lib.hid (fun _ h => hE.pure h)
  have HD : Hid (∀ w1, Pure w w1 → Deb w1) := Lib.hid (fun _ h => hD.pure h)
  have HV : Hid (∀ w1, Pure w w1 → Env w1) := Lib.hid (fun _ h => hV.pure h)
  obtain ⟨b, hb⟩ : ∃ b, b = w.heap.size := ⟨_, rfl⟩
  have P0 := pure_alloc w (.cells #[.slice A n c, .int .i64 0] 25)
  have HPS : Hid (∀ {w1 w' : World}, Pure w w1 → Mod (· = b) w1 w' → Pure w w') := Lib.hid (fun k h => k.trans' h (fun i hi hlt => by omega))
  rw [← hb] at hS0
  clear hE hD hV hA
  go_enter Tryz.func7, Tryz.ntmps7
  go_wp2_with fail
  rw [← hb]
  generalize (w.alloc (.cells #[.slice A n c, .int .i64 0] 25)) = w0 at *
  have hb0 := hS0.lt
  have hbw := Nat.le_of_eq hb
  have hbw2 := Nat.le_of_eq hb.symm
  clear hb
  refine (new_calls _).mono ?_
  rintro e w1 ⟨gx, bx, rfl, hgx, hst, hM1⟩
  have P1 := P0.trans hM1
  have hS1 := hS0.pure hM1
  have hs1 := hM1.size
  have HST1 := Lib.hid hst
  have hgxl : gx < w1.heap.size := hst.1.lt
  clear hS0 P0 hM1 hst
  go_wp2_with fail
  refine (new_calls _).mono ?_
  rintro e w2 ⟨gy, by_, rfl, hgy, hst, hM2⟩
  have P2 := P1.trans hM2
  have hS2 := hS1.pure hM2
  have HX2 := Lib.hid (HST1.out.pure hM2)
  have HY2 := Lib.hid hst
  have hgyl : gy < w2.heap.size := hst.1.lt
  have hs2 := hM2.size
  clear hS1 P1 hM2 hst HST1
  go_wp2_with fail
  obtain ⟨gv, hgv⟩ : ∃ gv, gv = w2.heap.size := ⟨_, rfl⟩
  have hgv1 := Nat.le_of_eq hgv
  have hgv2 := Nat.le_of_eq hgv.symm
  have hM3 : Pure w2 ((w2.alloc (.cells #[.slice none 0 0] 75)).alloc (.cells #[.slice none 0 0] 75)) := (pure_alloc _ _).trans (pure_alloc _ _)
  have HBV := Lib.hid ((Blk.new w2 75 #[.slice none 0 0]).alloc (.cells #[.slice none 0 0] 75))
  have HBW := Lib.hid (Blk.new (w2.alloc (.cells #[.slice none 0 0] 75)) 75 #[.slice none 0 0])
  rw [World.size_alloc] at HBW
  rw [← hgv] at HBV HBW ⊢
  clear hgv
  have P3 := P2.trans hM3
  have hS3 := hS2.pure hM3
  have HX3 := Lib.hid (HX2.out.pure hM3)
  have HY3 := Lib.hid (HY2.out.pure hM3)
  clear P2 hS2 HX2 HY2 hM3
  generalize ((w2.alloc (.cells #[.slice none 0 0] 75)).alloc (.cells #[.slice none 0 0] 75)) = w3 at *
  obtain ⟨gw, hgw⟩ : ∃ gw, gw = gv + 1 := ⟨_, rfl⟩
  have hgw1 := Nat.le_of_eq hgw
  have hgw2 := Nat.le_of_eq hgw.symm
  rw [← hgw] at HBW ⊢
  clear hgw
  have HV3 : Hid (RSto w3 gv (.slice none 0 0) []) := Lib.hid ⟨HBV.out, Sl.nil_, .inl rfl⟩
  have HW3 : Hid (RSto w3 gw (.slice none 0 0) []) := Lib.hid ⟨HBW.out, Sl.nil_, .inl rfl⟩
  clear HBV HBW
  refine (range_calls _ b _ _ _ hS3 (by omega) (by omega) (by omega) (by omega)).mono ?_
  rintro e w4 ⟨mI, hm0, hm8, rfl, hS4, hM4⟩
  have P4 := HPS.out P3 hM4
  obtain ⟨m, hmI⟩ : ∃ m : Nat, mI = (m : Int) := Int.eq_ofNat_of_zero_le (by omega)
  have hm20 : m ≤ 8 := by omega
  have HIT := Lib.hid (items_calls w4 b _ m mI hmI hS4 (by omega) (by omega) (fun W h => HV.out W (HPS.out P4 h)))
  have HX4 := Lib.hid (HX3.out.keep hM4 (by omega) (one_blk hS3))
  have HY4 := Lib.hid (HY3.out.keep hM4 (by omega) (one_blk hS3))
  have HV4 := Lib.hid (HV3.out.keep hM4 (by omega) (one_blk hS3))
  have HW4 := Lib.hid (HW3.out.keep hM4 (by omega) (one_blk hS3))
  clear hS3 P3 hM4 hmI hm0 hm8 HX3 HY3 HV3 HW3
  go_wp2_with fail
  refine HIT.out.mono ?_
  rintro e w5 ⟨v, xs, rfl, hxl, hxz, hown, hS5, hM5⟩
  have P5 := Lib.hid (HPS.out P4 hM5)
  have hv : Its w5 v xs := Sl.of_own hown
  have HX5 := Lib.hid (HX4.out.keep hM5 (by omega) (one_blk hS4))
  have HY5 := Lib.hid (HY4.out.keep hM5 (by omega) (one_blk hS4))
  have HV5 := Lib.hid (HV4.out.keep hM5 (by omega) (one_blk hS4))
  have HW5 := Lib.hid (HW4.out.keep hM5 (by omega) (one_blk hS4))
  have hS5' : Strm w5 b 2000 := hS5.more (by omega)
  have HFS : Hid (FlSt w5 b 2000 gx gv v xs 0 w5) := Lib.hid ⟨[], bx, .slice none 0 0, HX5.out, HV5.out, StOk.nil, by simp, hS5', hv, Mod.refl _ _⟩
  have HPF : Hid (∀ W, Mod (FlS b gx gv) w5 W → Pure w W) := Lib.hid (fun W h => P5.out.trans' h (fun i hi hl => by rcases hi with h | h | h <;> omega))
  have HFC := Lib.hid (fill_calls w5 b _ gx gv v xs 0 HFS.out ⟨by omega, by omega, by omega⟩ (by omega) (by omega) hxz (by omega) (fun W h => HV.out W (HPF.out W h)))
  have HXZ := Lib.hid hxz
  have HSS5 := Lib.hid hS5'
  have hxl2 : xs.length ≤ 1000 := by omega
  clear HIT hS4 P4 hM5 hxz hown hv HX4 HY4 HV4 HW4 hS5 hS5' HFS
  go_wp2_with fail
  refine HFC.out.mono ?_
  rintro e w6 ⟨rfl, l1, bx, vv, k1, k2, k3, k4, k5, k6, k7⟩
  have P6 := Lib.hid (HPF.out _ k7)
  have HX6 := Lib.hid k1
  have HV6 := Lib.hid k2
  have HO1 := Lib.hid k3
  have HI6 := Lib.hid k6
  have HY6 := Lib.hid (HY5.out.keep k7 (by rintro (h | h | h) <;> omega) (fls_blk HSS5.out HX5.out HV5.out))
  have HW6 := Lib.hid (HW5.out.keep k7 (by rintro (h | h | h) <;> omega) (fls_blk HSS5.out HX5.out HV5.out))
  clear HFC HPF HX5 HV5 HY5 HW5 HSS5 P5 k1 k2 k3 k6 k7
  go_wp2_with fail
  refine (flip_calls _ b _ _ k5 (by omega) (by omega) (by omega)).mono ?_
  rintro e w7 ⟨fl, rfl, hS7, hM7⟩
  have P7 := Lib.hid (HPS.out P6.out hM7)
  have HX7 := Lib.hid (HX6.out.keep hM7 (by omega) (one_blk k5))
  have HY7 := Lib.hid (HY6.out.keep hM7 (by omega) (one_blk k5))
  have HV7 := Lib.hid (HV6.out.keep hM7 (by omega) (one_blk k5))
  have HW7 := Lib.hid (HW6.out.keep hM7 (by omega) (one_blk k5))
  have HI7 := Lib.hid (HI6.out.fls hM7 (one_blk k5))
  have HBS7 := Lib.hid (one_blk hS7)
  clear HX6 HY6 HV6 HW6 HI6 P6 k5 hM7
  go_upto_if 39 with (fail)
  go_cut [8] (fun x wx => JlCut w7 b 8000 x wx)
  case first =>
    cases fl
    · go_wp2_with fail
      go_meet
      exact ⟨xs, HI7.out, HXZ.out, by omega, hS7.more (by omega), Mod.refl _ _⟩
    clear HX7 HY7 HV7 HW7 HI7 HXZ HO1
    go_wp2_with fail
    refine (range_calls _ b _ _ _ hS7 (by omega) (by omega) (by omega) (by omega)).mono ?_
    rintro e w8 ⟨mI, hm0, hm8, rfl, hS8, hM8⟩
    have P8 := HPS.out P7.out hM8
    obtain ⟨m2, hmI⟩ : ∃ m : Nat, mI = (m : Int) := Int.eq_ofNat_of_zero_le (by omega)
    have HIT := Lib.hid (items_calls w8 b _ m2 mI hmI hS8 (by omega) (by omega) (fun W h => HV.out W (HPS.out P8 h)))
    have hm2b : m2 ≤ 10 := by omega
    clear hS7 hmI hm0
    go_wp2_with fail
    refine HIT.out.mono ?_
    rintro e w9 ⟨v2, ys, rfl, hyl, hyz, hown, hS9, hM9⟩
    have hof : ∃ A n c, v2 = .slice A n c := (Sl.of_own hown).form
    have HYZ := Lib.hid hyz
    have HOW := Lib.hid (Sl.of_own hown)
    have HM9 := Lib.hid (hM8.trans hM9)
    obtain ⟨A9, n9, c9, rfl⟩ := hof
    clear HIT hown hyz hM8 hM9
    go_wp2_with fail
    go_meet
    exact ⟨ys, HOW.out, HYZ.out, by omega, hS9.more (by omega), HM9.out⟩
  case rest =>
    obtain ⟨ys, hv8, hyz, hyl, hS8, hM8⟩ := hcut
    have P8 := Lib.hid (HPS.out P7.out hM8)
    have HX8 := Lib.hid (HX7.out.keep hM8 (by omega) HBS7.out)
    have HY8 := Lib.hid (HY7.out.keep hM8 (by omega) HBS7.out)
    have HV8 := Lib.hid (HV7.out.keep hM8 (by omega) HBS7.out)
    have HW8 := Lib.hid (HW7.out.keep hM8 (by omega) HBS7.out)
    have HFS : Hid (FlSt _ b 8000 gy gw _ ys 0 _) := Lib.hid ⟨[], by_, .slice none 0 0, HY8.out, HW8.out, StOk.nil, by simp, hS8, hv8, Mod.refl _ _⟩
    have HPF : Hid (∀ W, Mod (FlS b gy gw) _ W → Pure w W) := Lib.hid (fun W h => P8.out.trans' h (fun i hi hl => by rcases hi with h | h | h <;> omega))
    have HFC := Lib.hid (fill_calls _ b _ gy gw _ ys 0 HFS.out ⟨by omega, by omega, by omega⟩ (by omega) (by omega) hyz (by omega) (fun W h => HV.out W (HPF.out W h)))
    have HSS8 := Lib.hid hS8
    clear HX7 HY7 HV7 HW7 HI7 HXZ P7 HBS7 hM8 hv8 hyz hS8 HFS hS7
    go_wp2_with fail
    refine HFC.out.mono ?_
    rintro e wa ⟨rfl, l2, by2, vw, k1, k2, k3, k8, k5, k6, k7⟩
    have PA := Lib.hid (HPF.out _ k7)
    have HYa := Lib.hid k1
    have HWa := Lib.hid k2
    have HO2 := Lib.hid k3
    have HXa := Lib.hid (HX8.out.keep k7 (by rintro (h | h | h) <;> omega) (fls_blk HSS8.out HY8.out HW8.out))
    have HVa := Lib.hid (HV8.out.keep k7 (by rintro (h | h | h) <;> omega) (fls_blk HSS8.out HY8.out HW8.out))
    have HPJ := Lib.hid (pjoin_calls wa gx bx gy by2 l1 l2 HXa.out HYa.out HO1.out HO2.out (by omega))
    clear HFC HPF HX8 HY8 HV8 HW8 HSS8 P8 k1 k2 k3 k5 k6 k7
    go_wp2_with fail
    refine HPJ.out.mono ?_
    rintro e wb ⟨rfl, ⟨bx3, hx3⟩, hmb⟩
    have PB := Lib.hid (PA.out.trans' hmb (fun i hi hl => by omega))
    have HXb := Lib.hid hx3
    have HYb := Lib.hid (HYa.out.keep hmb (by omega) (sto_blk HXa.out))
    have HVb := Lib.hid (HVa.out.keep hmb (by omega) (sto_blk HXa.out))
    have HWb := Lib.hid (HWa.out.keep hmb (by omega) (sto_blk HXa.out))
    have HRJ := Lib.hid (rjoin_calls wb gv gw vv vw l1 l2 HVb.out HWb.out HO1.out HO2.out (by omega))
    clear HPJ HXa HYa HVa HWa PA hx3 hmb
    go_wp2_with fail
    refine HRJ.out.mono ?_
    rintro e wj ⟨rfl, ⟨vv3, hv3⟩, hmj⟩
    have PJ := Lib.hid (PB.out.trans' hmj (fun i hi hl => by omega))
    have hx4 := HXb.out.keep hmj (by omega) (rsto_blk HVb.out)
    have hy4 := HYb.out.keep hmj (by omega) (rsto_blk HVb.out)
    have hw4 := HWb.out.keep hmj (by omega) (rsto_blk HVb.out)
    obtain ⟨Av, nv, cv, rfl⟩ := hv3.2.1.form
    obtain ⟨Aw, nw, cw, rfl⟩ := hw4.2.1.form
    have HO3 := Lib.hid (HO1.out.join HO2.out)
    have hlj := joinN_len l1 l2
    have hbb1 : (joinK l1 l2 == joinK l1 l2) = true := by simp
    have hbb2 : (joinE l1 l2 == joinE l1 l2) = true := by simp
    have HX : Hid (∀ W, Pure wj W → StoAt W gx bx3 (joinN l1 l2)) := Lib.hid (fun W h => hx4.pure h)
    have HVV : Hid (∀ W, Pure wj W → RSto W gv (.slice Av nv cv) (joinN l1 l2)) := Lib.hid (fun W h => hv3.pure h)
    have HY : Hid (∀ W, Pure wj W → StoAt W gy by2 l2) := Lib.hid (fun W h => hy4.pure h)
    have HW : Hid (∀ W, Pure wj W → RSto W gw (.slice Aw nw cw) l2) := Lib.hid (fun W h => hw4.pure h)
    have HT : Hid (∀ W, Pure wj W → _) := Lib.hid (fun W hW => taken_calls W (HE.out _ (PJ.out.trans hW)) (HD.out _ (PJ.out.trans hW)))
    have hl1 : (joinN l1 l2).length ≤ 2000 := by omega
    have hl2 : l2.length ≤ 2000 := by omega
    have HM0 : Hid (Pure wj wj) := Lib.hid (Mod.refl _ _)
    clear HRJ HXb HYb HVb HWb PB hv3 hmj hx4 hy4 hw4 HO1 hlj HE HD HV HPS
    generalize joinK l1 l2 = jk at *
    generalize joinE l1 l2 = je at *
    generalize joinN l1 l2 = l3 at *
    have HC0 := Lib.hid (stItems_calls wj gx bx3 l3 (HX.out _ HM0.out) HO3.out.bd hl1 HO3.out.rise HO3.out.noloop)
    go_wp2_with fail
    refine HC0.out.mono ?_
    rintro e wk0a ⟨Aa0, na0, ca0, rfl, ha0, ma0⟩
    have HA0 := Lib.hid ha0
    have HMA0 := Lib.hid (HM0.out.trans ma0)
    have HD0 := Lib.hid (rstItems_calls wk0a gv Av nv cv l3 (HVV.out _ HMA0.out) hl1 HO3.out.noloop)
    clear HC0 ha0 ma0
    go_wp2_with fail
    refine HD0.out.mono ?_
    rintro e wk0b ⟨Ac0, nc0, cc0, rfl, hc0, mc0⟩
    have HE0 := Lib.hid (equalItm_calls wk0b _ _ _ (HA0.out.pure mc0) hc0)
    have HMB0 := Lib.hid (HMA0.out.trans mc0)
    clear HD0 hc0 mc0 HA0 HMA0
    go_wp2_with fail
    refine HE0.out.mono ?_
    rintro e wk0c ⟨rfl, md0⟩
    have HMC0 := Lib.hid (HMB0.out.trans md0)
    clear HE0 md0 HMB0
    have HC1 := Lib.hid (stWaiting_calls wk0c gx bx3 l3 (HX.out _ HMC0.out) HO3.out.bd hl1 HO3.out.rise HO3.out.noloop)
    go_wp2_with fail
    refine HC1.out.mono ?_
    rintro e wk1a ⟨Aa1, na1, ca1, rfl, ha1, ma1⟩
    have HA1 := Lib.hid ha1
    have HMA1 := Lib.hid (HMC0.out.trans ma1)
    have HD1 := Lib.hid (rstWaiting_calls wk1a gv Av nv cv l3 (HVV.out _ HMA1.out) hl1 HO3.out.noloop)
    clear HC1 ha1 ma1
    go_wp2_with fail
    refine HD1.out.mono ?_
    rintro e wk1b ⟨Ac1, nc1, cc1, rfl, hc1, mc1⟩
    have HE1 := Lib.hid (equalItm_calls wk1b _ _ _ (HA1.out.pure mc1) hc1)
    have HMB1 := Lib.hid (HMA1.out.trans mc1)
    clear HD1 hc1 mc1 HA1 HMA1
    go_wp2_with fail
    refine HE1.out.mono ?_
    rintro e wk1c ⟨rfl, md1⟩
    have HMC1 := Lib.hid (HMB1.out.trans md1)
    clear HE1 md1 HMB1
    clear HMC0
    have HC2 := Lib.hid (stItems_calls wk1c gy by2 l2 (HY.out _ HMC1.out) HO2.out.bd hl2 HO2.out.rise HO2.out.noloop)
    go_wp2_with fail
    refine HC2.out.mono ?_
    rintro e wk2a ⟨Aa2, na2, ca2, rfl, ha2, ma2⟩
    have HA2 := Lib.hid ha2
    have HMA2 := Lib.hid (HMC1.out.trans ma2)
    have HD2 := Lib.hid (rstItems_calls wk2a gw Aw nw cw l2 (HW.out _ HMA2.out) hl2 HO2.out.noloop)
    clear HC2 ha2 ma2
    go_wp2_with fail
    refine HD2.out.mono ?_
    rintro e wk2b ⟨Ac2, nc2, cc2, rfl, hc2, mc2⟩
    have HE2 := Lib.hid (equalItm_calls wk2b _ _ _ (HA2.out.pure mc2) hc2)
    have HMB2 := Lib.hid (HMA2.out.trans mc2)
    clear HD2 hc2 mc2 HA2 HMA2
    go_wp2_with fail
    refine HE2.out.mono ?_
    rintro e wk2c ⟨rfl, md2⟩
    have HMC2 := Lib.hid (HMB2.out.trans md2)
    clear HE2 md2 HMB2
    clear HMC1
    have HC3 := Lib.hid (stWaiting_calls wk2c gy by2 l2 (HY.out _ HMC2.out) HO2.out.bd hl2 HO2.out.rise HO2.out.noloop)
    go_wp2_with fail
    refine HC3.out.mono ?_
    rintro e wk3a ⟨Aa3, na3, ca3, rfl, ha3, ma3⟩
    have HA3 := Lib.hid ha3
    have HMA3 := Lib.hid (HMC2.out.trans ma3)
    have HD3 := Lib.hid (rstWaiting_calls wk3a gw Aw nw cw l2 (HW.out _ HMA3.out) hl2 HO2.out.noloop)
    clear HC3 ha3 ma3
    go_wp2_with fail
    refine HD3.out.mono ?_
    rintro e wk3b ⟨Ac3, nc3, cc3, rfl, hc3, mc3⟩
    have HE3 := Lib.hid (equalItm_calls wk3b _ _ _ (HA3.out.pure mc3) hc3)
    have HMB3 := Lib.hid (HMA3.out.trans mc3)
    clear HD3 hc3 mc3 HA3 HMA3
    go_wp2_with fail
    refine HE3.out.mono ?_
    rintro e wk3c ⟨rfl, md3⟩
    have HMC3 := Lib.hid (HMB3.out.trans md3)
    clear HE3 md3 HMB3
    clear HMC2
    go_wp2_with fail
    refine (HT.out _ HMC3.out).mono ?_
    rintro e wz ⟨rfl, mz⟩
    have PZ := PJ.out.trans (HMC3.out.trans mz)
    clear HX HVV HY HW HT
    go_wp2_with fail
    go_ret
    exact ⟨rfl, PZ⟩

end Go.Proofs.YtbdeicbdehgeiaaGreatDoor
