/- AllocateOf of the reference: it gives what the program gives. -/
import Derived.Test.YtpacmdiodnnofaaAllocE
namespace Go.Proofs.Ytpacmdiodnnofaa
set_option linter.unusedVariables false
set_option linter.unusedSimpArgs false
open Go.RowKit
attribute [local go_sem ↓] Go.wp_at_zero Go.wp_at_succ

def SumRel2 (W : World) (zs : List Int) (gk : Nat) (s i : Value) (wr : World) : Prop :=
  ∃ k : Nat, zs.length - k = gk ∧ k ≤ zs.length ∧ i = .int .i64 (k : Int) ∧ s = .int .i64 (sumTo (zAt zs) k) ∧ wr = W
def QuoRel2 (W : World) (zs : List Int) (many sum : Int) (g gk : Nat) (l i : Value) (wr : World) : Prop :=
  ∃ k : Nat, zs.length - k = gk ∧ k ≤ zs.length ∧ i = .int .i64 (k : Int) ∧ l = .int .i64 (many - sumTo (quoA zs many sum) k) ∧
    Blk wr g 3 (intsV (qRow (quoA zs many sum) zs.length k)).toArray ∧ Blk wr (g + 1) 3 (intsV (qRow (remA zs many sum) zs.length k)).toArray ∧ Mod (fun j => j = g ∨ j = g + 1) W wr
def PickRel (W : World) (zs : List Int) (many sum : Int) (s : List Nat) (g l gk : Nat) (i : Value) (wr : World) : Prop :=
  ∃ k : Nat, l - k = gk ∧ k ≤ l ∧ i = .int .i64 (k : Int) ∧ Blk wr g 3 (intsV (incs (quos zs many sum) (s.take k))).toArray ∧
    Blk wr (g + 1) 3 (intsV (marks ((List.range zs.length).map (remA zs many sum)) (s.take k))).toArray ∧ Mod (fun j => j = g ∨ j = g + 1) W wr
theorem Blk.sl {w : World} {g n : Nat} {t : TypeId} {xs : List Value} (h : Blk w g t xs.toArray) (hn : xs.length = n) (hl : n ≤ 9223372036854775807) : Sl w t 1 (.slice (some ⟨g, 0, none⟩) n n) xs :=
  ⟨_, _, _, rfl, Nat.le_refl _, hl, by omega, fun _ => ⟨g, 0, rfl, h.row0⟩⟩
theorem intsV_set (l : List Int) (p : Nat) (x : Int) : (intsV l).toArray.setIfInBounds p (.int .i64 x) = (intsV (l.set p x)).toArray := by
  apply Array.ext'
  simp [intsV, List.map_set]

set_option maxRecDepth 100000 in
set_option maxHeartbeats 8000000 in
theorem AllocateOf_calls (w : World) (v : Value) (n0 base : Nat) (zs out : List Int) (many : Int) (hown : w.ownsRow base 3 1 v n0 (intsV zs)) (hl : zs.length < 20) (hz : ∀ z ∈ zs, 0 ≤ z ∧ z ≤ 2000) (hm : 0 ≤ many ∧ many ≤ 2000)
    (hsp : AllocSpec zs many out) : Calls Try.prog 66 #[v, .int .i64 many] w (OwnPost w 3 (intsV out)) := by
  have hv := Sl.of_own hown
  obtain ⟨A, n, c, rfl⟩ := hv.form
  obtain ⟨hn, hnc, hcc⟩ := hv.len
  rw [show (intsV zs).length = zs.length from by simp [intsV]] at hn
  subst hn
  have HZ := Lib.hid hz
  have HSP := Lib.hid hsp
  have HOWN := Lib.hid hown
  clear hz hsp hown
  have hmk := run_make_one (P := Try.prog) 22 3 (.int .i64 0) 8 Try.underlying22 info_int_ rfl .i64 .i64 zs.length (zs.length : Int) rfl (by omega) (by omega) (intsV (List.replicate zs.length 0)).toArray (by rw [intsV_zeros])
  go_enter Try.func66, Try.ntmps66
  go_wp2_with fail
  clear hmk
  have B0 := (Blk.new w 3 (intsV (List.replicate zs.length 0)).toArray).alloc (.cells (intsV (List.replicate zs.length 0)).toArray 3)
  have B1 := Blk.snd w (.cells (intsV (List.replicate zs.length 0)).toArray 3) 3 (intsV (List.replicate zs.length 0)).toArray
  have m0 : Pure w ((w.alloc (.cells (intsV (List.replicate zs.length 0)).toArray 3)).alloc (.cells (intsV (List.replicate zs.length 0)).toArray 3)) := ((Mod.refl _ _).alloc _).alloc _
  have hv0 := hv.pure m0
  have hown0 := own_pure HOWN.out m0
  have HOWN0 := Lib.hid hown0
  clear hown0
  generalize ((w.alloc (.cells (intsV (List.replicate zs.length 0)).toArray 3)).alloc (.cells (intsV (List.replicate zs.length 0)).toArray 3)) = W at *
  generalize hdb : w.heap.size = b at *
  have hle := Nat.le_of_eq hdb
  have hge := Nat.le_of_eq hdb.symm
  have HDB := Lib.hid hdb
  have hbW := B1.lt
  clear hdb
  go_loopg [7, 22] zs.length (fun gk s i wr => SumRel2 W zs gk s i wr)
  case atStart => exact ⟨0, by omega, by omega, rfl, rfl, rfl⟩
  case round =>
    obtain ⟨k, rfl, hk, rfl, rfl, rfl⟩ := hrel
    have hs1 := sumTo_nonneg (f := zAt zs) k (fun i hi => (HZ.out _ (zAt_mem zs (by omega))).1)
    have hs2 := sumTo_le (f := zAt zs) (M := 2000) k (fun i hi => (HZ.out _ (zAt_mem zs (by omega))).2)
    by_cases hlt : k < zs.length
    · obtain ⟨g, off, rfl, hrow⟩ := hv0.row (by omega)
      have hq := hrow.cell (intsV_get zs k hlt)
      have hzk := HZ.out _ (List.getElem_mem hlt)
      have HT : Hid (sumTo (zAt zs) (k + 1) = sumTo (zAt zs) k + zs[k]) := by
        show sumTo (zAt zs) (k + 1) = _
        simp only [sumTo]
        rw [zAt_lt zs hlt]
      clear hrow
      generalize zs[k] = y at *
      generalize sumTo (zAt zs) k = t0 at *
      go_wp2_with fail
      go_roundg (zs.length - (k + 1))
      case measure => omega
      case rel => exact ⟨k + 1, rfl, hlt, by simp, by rw [HT.out], rfl⟩
    · have hke : k = zs.length := by omega
      subst hke
      generalize hsum : sumTo (zAt zs) zs.length = sum at *
      have HSUM : Hid (sumZ zs = sum) := hsum
      clear hsum hlt hk
      by_cases hms : sum < many
      · have HC := Lib.hid (clone_calls wr (.slice A zs.length c) n0 base zs HOWN0.out (by omega))
        go_wp2_with fail
        refine HC.out.mono ?_
        rintro e w2 ⟨v2, n2, rfl, hown2, hm2⟩
        go_wp2_with fail
        go_ret
        have e : out = zs := by
          rcases HSP.out with ⟨_, h⟩ | ⟨h, _⟩
          · exact h
          · rw [HSUM.out] at h; omega
        subst e
        exact ⟨_, _, rfl, own_base hown2 (by have := m0.size; omega), m0.trans hm2⟩
      · by_cases hs0 : sum = 0
        · have hm0' : many = 0 := by omega
          have HO : Hid (out = List.replicate zs.length 0) := by
            show out = _
            rcases HSP.out with ⟨_, h⟩ | ⟨h, _⟩
            · rw [h]
              exact zs_zero zs (fun z hz => (HZ.out z hz).1) (HSUM.out.trans hs0)
            · rw [HSUM.out] at h; omega
          subst hs0
          go_wp2_with fail
          go_ret
          refine ⟨_, zs.length, rfl, own_of_blk ?_ (by omega) (by rw [HO.out]; simp [intsV]) (by omega), m0⟩
          rw [HO.out]
          exact B0
        · have hsne : (sum == 0) = false := by simpa using hs0
          obtain ⟨s, hord, hout⟩ := HSP.out.steps (by rw [HSUM.out]; omega) (by rw [HSUM.out]; omega)
          rw [HSUM.out] at hord hout
          have HORD := Lib.hid hord
          have HOUT := Lib.hid hout
          have hn1 : 0 < zs.length := by
            rcases Nat.eq_zero_or_pos zs.length with h | h
            · exfalso
              have e : sumZ zs = 0 := by unfold sumZ; rw [h]; rfl
              rw [HSUM.out] at e
              omega
            · exact h
          have hlb := left_bounds zs many (sum := sum) HSUM.out (by omega)
          have hs2' : sum ≤ 40000 := by omega
          obtain ⟨g, off, rfl, hrow⟩ := hv0.row hn1
          have hgw : g < b := by
            obtain ⟨g', off', hA, hrow'⟩ := hv.row hn1
            injection hA with hA
            injection hA with hg
            have := hrow'.lt
            omega
          rw [← qRow_zero (quoA zs many sum)] at B0
          rw [← qRow_zero (remA zs many sum)] at B1
          have hspos : 0 < sum := by omega
          clear hord hout hs0
          obtain ⟨W2, hW2⟩ : ∃ W2 : World, W2 = wr := ⟨_, rfl⟩
          subst hW2
          go_wp2_with fail
          go_loopg [8, 41] zs.length (fun gk l i wr => QuoRel2 W2 zs many sum b gk l i wr)
          case atStart => exact ⟨0, by omega, by omega, rfl, by simp [sumTo], B0, B1, Mod.refl _ _⟩
          case round =>
            obtain ⟨k, rfl, hk, rfl, rfl, hb0, hb1, h2⟩ := hrel
            by_cases hlt : k < zs.length
            · have hq := (hrow.mod h2 (by omega)).cell (intsV_get zs k hlt)
              have hzk := HZ.out _ (List.getElem_mem hlt)
              have qb := quoA_bounds zs HZ.out hm (show 0 < sum by omega) hlt
              have qs := quoSum_bounds zs HZ.out hm (show 0 < sum by omega) (show k ≤ zs.length by omega)
              have qc := (hb0.cell k).trans (qRow_get _ _ _ hlt)
              have qf := hb0.frozen k
              have rc := (hb1.cell k).trans (qRow_get _ _ _ hlt)
              have rf := hb1.frozen k
              have hzE : zs.getD k 0 = zs[k] := by simp [List.getD, hlt]
              have HQ : Hid (many * zs[k] / sum = quoA zs many sum k) := by
                show many * zs[k] / sum = quoA zs many sum k
                unfold quoA
                rw [hzE]
              have HR : Hid (many * zs[k] % sum = remA zs many sum k) := by
                show many * zs[k] % sum = remA zs many sum k
                unfold remA
                rw [hzE]
              have HT : Hid (sumTo (quoA zs many sum) (k + 1) = sumTo (quoA zs many sum) k + quoA zs many sum k) := rfl
              clear hzE
              generalize zs[k] = y at *
              have a1 : 0 ≤ many * y := Int.mul_nonneg hm.1 hzk.1
              have a2 : many * y ≤ 2000 * 2000 := Int.mul_le_mul hm.2 hzk.2 hzk.1 (by omega)
              have a3 : 0 ≤ many * y / sum := by rw [HQ.out]; exact qb.1
              have a4 : many * y / sum ≤ 4000000 := by rw [HQ.out]; exact qb.2
              have b1 := Int.emod_nonneg (many * y) (show sum ≠ 0 by omega)
              have b2 := Int.emod_lt_of_pos (many * y) (show 0 < sum by omega)
              have e1 : IntKind.i64.wrap (many * y) = many * y := IntWalk.i64_in _ (by omega)
              have t1 : (many * y).tmod sum = many * y % sum := Int.tmod_eq_emod_of_nonneg a1
              have t2 : (many * y).tdiv sum = many * y / sum := Int.tdiv_eq_ediv_of_nonneg a1
              have e2 : IntKind.i64.wrap (many * y % sum) = many * y % sum := IntWalk.i64_in _ (by omega)
              have e3 : IntKind.i64.wrap (many * y / sum) = many * y / sum := IntWalk.i64_in _ (by omega)
              have k1 : (0 : Int) ≤ (k : Int) := by omega
              have k2 : (k : Int) < (zs.length : Int) := by omega
              generalize sumTo (quoA zs many sum) k = q0 at *
              have E0 : (intsV (qRow (quoA zs many sum) zs.length k)).toArray.setIfInBounds k (.int .i64 (many * y / sum)) = (intsV (qRow (quoA zs many sum) zs.length (k + 1))).toArray := by rw [HQ.out]; exact qRow_set _ _ _ hlt
              have E1 : (intsV (qRow (remA zs many sum) zs.length k)).toArray.setIfInBounds k (.int .i64 (many * y % sum)) = (intsV (qRow (remA zs many sum) zs.length (k + 1))).toArray := by rw [HR.out]; exact qRow_set _ _ _ hlt
              have HE0 := Lib.hid E0
              have HE1 := Lib.hid E1
              clear E0 E1
              go_upto_region 17 with (fail)
              go_cut [] (fun wx => Blk wx b 3 (intsV (qRow (quoA zs many sum) zs.length (k + 1))).toArray ∧ Blk wx (b + 1) 3 (intsV (qRow (remA zs many sum) zs.length (k + 1))).toArray ∧ Mod (fun j => j = b ∨ j = b + 1) W2 wx)
              case first =>
                go_region_with (fail)
                all_goals
                  go_wp2_with fail
                  go_meet
                  rw [← HE0.out, ← HE1.out]
                  refine ⟨Blk.drew ?_, Blk.drew ?_, Mod.drew ?_⟩
                  · first
                    | exact (hb0.set k _).far (by show b ≠ b + 1; omega) _
                    | exact (hb0.far (by show b ≠ b + 1; omega) _).set k _
                  · first
                    | exact (hb1.set k _).far (by show b + 1 ≠ b; omega) _
                    | exact (hb1.far (by show b + 1 ≠ b; omega) _).set k _
                  · first
                    | exact (h2.setCell (p := ⟨b, k, none⟩) (.inl (.inl rfl)) _).setCell (p := ⟨b + 1, k, none⟩) (.inl (.inr rfl)) _
                    | exact (h2.setCell (p := ⟨b + 1, k, none⟩) (.inl (.inr rfl)) _).setCell (p := ⟨b, k, none⟩) (.inl (.inl rfl)) _
              case rest =>
                obtain ⟨hb2, hb3, h3⟩ := hcut
                clear qc qf rc rf hq hb0 hb1 h2
                have qc := (hb2.cell k).trans (qRow_got _ _ _ hlt)
                have qb1 := qb.1
                have qb2 := qb.2
                generalize wc = w3 at *
                generalize quoA zs many sum k = q1 at *
                clear e1 t1 t2 e2 e3 b1 b2 a1 a2 a3 a4 HQ HR
                go_wp2_with fail
                go_roundg (zs.length - (k + 1))
                case measure => omega
                case rel =>
                  refine ⟨k + 1, rfl, hlt, by simp, ?_, hb2, hb3, h3⟩
                  rw [HT.out]
                  congr 1
                  omega
            · have hke : k = zs.length := by omega
              subst hke
              clear hlt hk
              rw [qRow_full] at hb0 hb1
              change Blk wr b 3 (intsV (quos zs many sum)).toArray at hb0
              have HL : Hid (leftZ zs many sum = (many - sumTo (quoA zs many sum) zs.length).toNat) := rfl
              obtain ⟨l, hll⟩ := Int.eq_ofNat_of_zero_le hlb.1
              rw [hll] at hlb HL ⊢
              rw [Int.toNat_natCast] at HL
              have hl2 : l < zs.length := by omega
              clear hll hlb
              obtain ⟨W3, hW3⟩ : ∃ W3 : World, W3 = wr := ⟨_, rfl⟩
              subst hW3
              go_wp2_with fail
              go_loopg [70] l (fun gk i wr => PickRel W3 zs many sum s b l gk i wr)
              case atStart => exact ⟨0, by omega, by omega, rfl, hb0, hb1, Mod.refl _ _⟩
              case round =>
                clear hb0 hb1
                obtain ⟨k, rfl, hk, rfl, hb4, hb5, h4⟩ := hrel
                by_cases hlt : k < l
                · have hord := HORD.out (by rw [HL.out]; omega)
                  obtain ⟨p, hp, hpn, hmax, hidx⟩ := pick_next hord (fun i hi => Int.emod_nonneg _ (by omega)) (show k < zs.length by omega)
                  have hmk : (marks ((List.range zs.length).map (remA zs many sum)) (s.take k)).length = zs.length := by rw [marks_len]; simp
                  have hsl : Sl wr 3 1 (.slice (some ⟨b + 1, 0, none⟩) zs.length zs.length) (intsV (marks ((List.range zs.length).map (remA zs many sum)) (s.take k))) := hb5.sl (by simp [intsV, hmk]) (by omega)
                  have hks : k < s.length := by rw [hord.len]; omega
                  have hpe : s[k] = p := by
                    rw [List.getElem?_eq_getElem hks] at hp
                    injection hp
                  have HT : Hid (s.take (k + 1) = s.take k ++ [p]) := by
                    show s.take (k + 1) = _
                    rw [List.take_succ_eq_append_getElem hks, hpe]
                  have hil : (incs (quos zs many sum) (s.take k)).length = zs.length := by rw [incs_len]; simp [quos]
                  have hmem : (incs (quos zs many sum) (s.take k)).getD p 0 ∈ incs (quos zs many sum) (s.take k) := by
                    simp only [List.getD]
                    rw [List.getElem?_eq_getElem (by omega)]
                    exact List.getElem_mem _
                  have hbd := incs_mem (s.take k) (quos zs many sum) 4000000 (fun x hx => by
                    simp only [quos, List.mem_map, List.mem_range] at hx
                    obtain ⟨i, hi, rfl⟩ := hx
                    exact quoA_bounds zs HZ.out hm (by omega) hi) (fun p hp => by
                    rw [show (quos zs many sum).length = zs.length by simp [quos]]
                    exact hord.lt (List.mem_of_mem_take hp)) _ hmem
                  have htl : (s.take k).length ≤ 20 := by rw [List.length_take]; omega
                  have HMX := Lib.hid (maxI_calls wr (.slice (some ⟨b + 1, 0, none⟩) zs.length zs.length) _ hsl (by rw [hmk]; omega))
                  have HMAX := Lib.hid hmax
                  have HIDX := Lib.hid hidx
                  have HSLI := Lib.hid hsl
                  have hq2 : (intsV (incs (quos zs many sum) (s.take k))).toArray[p]? = some (.int .i64 ((incs (quos zs many sum) (s.take k)).getD p 0)) := by
                    rw [List.getElem?_toArray, intsV_get _ _ (by omega)]
                    simp only [List.getD]
                    rw [List.getElem?_eq_getElem (by omega)]
                    rfl
                  have hq3 : ∃ u : Int, (intsV (marks ((List.range zs.length).map (remA zs many sum)) (s.take k))).toArray[p]? = some (.int .i64 u) := by
                    rw [List.getElem?_toArray, intsV_get _ _ (by omega)]
                    exact ⟨_, rfl⟩
                  obtain ⟨u, hq3⟩ := hq3
                  clear hp hmax hidx hsl hpe hord hmem hil hks
                  have x1 : (0 : Int) ≤ (incs (quos zs many sum) (s.take k)).getD p 0 := hbd.1
                  have x2 : (incs (quos zs many sum) (s.take k)).getD p 0 ≤ 5000000 := by omega
                  go_wp2_with fail
                  refine HMX.out.mono ?_
                  rintro e w5 ⟨x, hx, rfl, hm5⟩
                  obtain rfl := hx.unique HMAX.out
                  have HI := Lib.hid (indexI_calls w5 (.slice (some ⟨b + 1, 0, none⟩) zs.length zs.length) _ (remA zs many sum p) (HSLI.out.pure hm5))
                  go_wp2_with fail
                  refine HI.out.mono ?_
                  rintro e w6 ⟨rfl, hm6⟩
                  rw [HIDX.out]
                  have hb6 := (hb4.modp hm5).modp hm6
                  have hb7 := (hb5.modp hm5).modp hm6
                  have h6 : Mod (fun j => j = b ∨ j = b + 1) W3 w6 := (h4.transp hm5).transp hm6
                  have qc := (hb6.cell p).trans hq2
                  have qf := hb6.frozen p
                  have S0 := hb6.set p (.int .i64 ((incs (quos zs many sum) (s.take k)).getD p 0 + 1))
                  rw [intsV_set, ← incs_snoc] at S0
                  have S1 := hb7.far (p := ⟨b, p, none⟩) (by show b + 1 ≠ b; omega) (.int .i64 ((incs (quos zs many sum) (s.take k)).getD p 0 + 1))
                  have S2 := S1.set p (.int .i64 (-1))
                  rw [intsV_set, ← marks_snoc] at S2
                  have S3 := S0.far (p := ⟨b + 1, p, none⟩) (by show b ≠ b + 1; omega) (.int .i64 (-1))
                  have qm := (S1.cell p).trans hq3
                  have qn := S1.frozen p
                  have h7 := (h6.setCell (p := ⟨b, p, none⟩) (.inl (.inl rfl)) (.int .i64 ((incs (quos zs many sum) (s.take k)).getD p 0 + 1))).setCell (p := ⟨b + 1, p, none⟩) (.inl (.inr rfl)) (.int .i64 (-1))
                  have HS2 := Lib.hid S2
                  have HS3 := Lib.hid S3
                  have p1 : (0 : Int) ≤ (p : Int) := by omega
                  have p2 : (p : Int) < (zs.length : Int) := by omega
                  clear hq2 hq3 S0 S1 S2 S3 HMX HI HMAX HIDX HSLI hmk
                  generalize (incs (quos zs many sum) (s.take k)).getD p 0 = x at *
                  go_wp2_with fail
                  go_roundg (l - (k + 1))
                  case measure => omega
                  case rel =>
                    refine ⟨k + 1, rfl, hlt, by simp, ?_, ?_, h7⟩
                    · rw [HT.out]
                      exact HS3.out
                    · rw [HT.out]
                      exact HS2.out
                · have hke : k = l := by omega
                  subst hke
                  go_wp2_with fail
                  go_ret
                  refine ⟨_, zs.length, rfl, own_of_blk (t := 3) ?_ (by omega) ?_ (by omega), ?_⟩
                  · rw [HOUT.out, HL.out]
                    exact hb4
                  · rw [HOUT.out]
                    simp [intsV, incs_len, quos]
                  · exact (m0.trans' h2 (fun i hi hlt => by omega)).trans' h4 (fun i hi hlt => by omega)

end Go.Proofs.Ytpacmdiodnnofaa
