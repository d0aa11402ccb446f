/- The reference's row: rows of draws. -/
import Derived.Test.YtpacmdiodnnofaaBigC
import Derived.Test.YtpacmdiodnnofaaHyper
import Derived.Deep.RegionLaw
import Derived.Deep.DrawnRows
namespace Go.Proofs.Ytpacmdiodnnofaa
set_option linter.unusedVariables false
set_option linter.unusedSimpArgs false
open Go.RowKit
attribute [local go_sem ↓] Go.wp_at_zero Go.wp_at_succ

theorem IsBig.rowset {w w' : World} {v : Value} {x L g : Nat} {cs : Array Value} (h : IsBig w v x L) (hb : Blk w g 123 cs) (hm : Mod (· = g) w w') : IsBig w' v x L := by
  obtain ⟨ds, h1, h2⟩ := h
  refine ⟨ds, h1.mod hm (fun g' arr fr hh hg => ?_), h2⟩
  subst hg
  unfold Blk at hb
  rw [hh] at hb
  injection hb with hb
  injection hb with _ ht
  exact absurd ht (by decide)

/-- A row of numbers in a block of its own; only that block has been written since X. -/
def RowIn (X : World) (nB : Nat) (f Lf : Nat → Nat) (m : Nat) (wx : World) : Prop :=
  ∃ vs : List Value, Blk wx nB 123 vs.toArray ∧ vs.length = m ∧ (∀ j u, vs[j]? = some u → IsBig wx u (f j) (Lf j)) ∧ Mod (· = nB) X wx
theorem RowIn.pure {X wx wy : World} {nB m : Nat} {f Lf : Nat → Nat} (h : RowIn X nB f Lf m wx) (hm : Pure wx wy) : RowIn X nB f Lf m wy := by
  obtain ⟨vs, h1, h2, h3, h4⟩ := h
  exact ⟨vs, h1.mod hm id, h2, fun j u hu => (h3 j u hu).pure hm, h4.trans' hm (fun _ x => x.elim)⟩
theorem RowIn.set {X wx : World} {nB m : Nat} {f Lf : Nat → Nat} (h : RowIn X nB f Lf m wx) {j x L : Nat} {v : Value} (hv : IsBig wx v x L) :
    RowIn X nB (fun i => if i = j then x else f i) (fun i => if i = j then L else Lf i) m (wx.setCell ⟨nB, j, none⟩ v) := by
  obtain ⟨vs, h1, h2, h3, h4⟩ := h
  have hm : Mod (· = nB) wx (wx.setCell ⟨nB, j, none⟩ v) := Mod.setCell (S := (· = nB)) (Mod.refl _ _) (.inl rfl) v
  refine ⟨vs.set j v, ?_, by simpa using h2, fun i u hu => ?_, h4.trans hm⟩
  · have := h1.set j v
    simpa using this
  · rw [List.getElem?_set] at hu
    by_cases e : j = i
    · subst e
      rw [if_pos rfl] at hu
      split at hu
      · injection hu with hu
        subst hu
        show IsBig _ _ (if j = j then x else f j) (if j = j then L else Lf j)
        rw [if_pos rfl, if_pos rfl]
        exact hv.rowset h1 hm
      · cases hu
    · rw [if_neg e] at hu
      show IsBig _ _ (if i = j then x else f i) (if i = j then L else Lf i)
      rw [if_neg (fun h : i = j => e h.symm), if_neg (fun h : i = j => e h.symm)]
      exact (h3 i u hu).rowset h1 hm
theorem RowIn.at {X wx : World} {nB m : Nat} {f Lf : Nat → Nat} (h : RowIn X nB f Lf m wx) {j : Nat} (hj : j < m) :
    ∃ A n c, wx.cell? ⟨nB, j, none⟩ = some (.slice A n c) ∧ wx.frozen? ⟨nB, j, none⟩ = false ∧ IsBig wx (.slice A n c) (f j) (Lf j) := by
  obtain ⟨vs, h1, h2, h3, h4⟩ := h
  have hu : vs[j]? = some (vs[j]'(by omega)) := List.getElem?_eq_getElem (by omega)
  have hb := h3 j _ hu
  obtain ⟨A, n, c, e⟩ := hb.form
  have hc := h1.cell j
  rw [show vs.toArray[j]? = vs[j]? by simp, hu, e] at hc
  rw [e] at hb
  exact ⟨A, n, c, hc, h1.frozen j, hb⟩
theorem RowIn.eq {X wx : World} {nB m : Nat} {f Lf f' Lf' : Nat → Nat} (h : RowIn X nB f Lf m wx) (hf : ∀ j, j < m → f j = f' j) (hL : ∀ j, j < m → Lf j ≤ Lf' j) : RowIn X nB f' Lf' m wx := by
  obtain ⟨vs, h1, h2, h3, h4⟩ := h
  refine ⟨vs, h1, h2, fun j u hu => ?_, h4⟩
  have hj : j < m := by rw [← h2]; exact (List.getElem?_eq_some_iff.1 hu).1
  rw [← hf j hj]
  exact (h3 j u hu).more (hL j hj)

/-- What stands in the next row while place i of the last one comes up: A before, B after its first half. -/
def nxA (d q k i j : Nat) : Nat := if j < i then rowv d q (k + 1) j else if j = i then (if i = 0 then 0 else rowv d q k (i - 1) * (d - (i - 1))) else 0
def nxB (d q k i j : Nat) : Nat := if j = i + 1 then rowv d q k i * (d - i) else nxA d q k i j
theorem nx_done (d q k i j : Nat) (hi : i ≤ k) : (if j = i then nxB d q k i i + rowv d q k i * (q - (k - i)) else nxB d q k i j) = nxA d q k (i + 1) j := by
  by_cases e : j = i
  · subst e
    cases j with
    | zero => simp [nxB, nxA, rowv_first]
    | succ j =>
      have := rowv_next d q k j hi
      simp [nxB, nxA]
      omega
  · rw [if_neg e]
    unfold nxB nxA
    by_cases e2 : j = i + 1
    · subst e2
      rw [if_pos rfl, if_neg (by omega), if_pos rfl, if_neg (by omega)]
      simp
    · rw [if_neg e2]
      by_cases e3 : j < i
      · rw [if_pos e3, if_pos (by omega)]
      · rw [if_neg e3, if_neg e, if_neg (by omega), if_neg e2]
theorem nxB_skip (d q k i j : Nat) (h : d ≤ i) : nxB d q k i j = nxA d q k i j := by
  unfold nxB
  split
  · rename_i e
    subst e
    unfold nxA
    rw [if_neg (by omega), if_neg (by omega), show d - i = 0 by omega, Nat.mul_zero]
  · rfl
theorem nx_end (d q k j : Nat) (h : j < k + 2) : nxA d q k (k + 1) j = rowv d q (k + 1) j := by
  unfold nxA
  by_cases e : j < k + 1
  · rw [if_pos e]
  · rw [if_neg e, if_pos (by omega), if_neg (by omega), show j = k + 1 by omega, rowv_last]
    simp
def lenA (L i j : Nat) : Nat := if j < i then L + 3 else if j = i then L + 2 else 0
def lenB (L i j : Nat) : Nat := if j < i then L + 3 else if j ≤ i + 1 then L + 2 else 0
theorem lenAB1 (L i j : Nat) : (if j = i + 1 then L + 1 + 1 else lenA L i j) ≤ lenB L i j := by unfold lenA lenB; (repeat' split) <;> omega
theorem lenAB0 (L i j : Nat) : lenA L i j ≤ lenB L i j := by unfold lenA lenB; (repeat' split) <;> omega
theorem lenBA1 (L i j : Nat) : (if j = i then L + 2 + 1 else lenB L i j) ≤ lenA L (i + 1) j := by unfold lenA lenB; (repeat' split) <;> omega
theorem lenBA0 (L i j : Nat) : lenB L i j ≤ lenA L (i + 1) j := by unfold lenA lenB; (repeat' split) <;> omega

def RowRel (w : World) (d q n gk : Nat) (o i : Value) (wr : World) : Prop :=
  ∃ k oB : Nat, n - k = gk ∧ k ≤ n ∧ i = .int .i64 (k : Int) ∧ o = .slice (some ⟨oB, 0, none⟩) (k + 1) (k + 1) ∧ w.heap.size ≤ oB ∧ RowIn wr oB (rowv d q k) (fun _ => 1 + 3 * k) (k + 1) wr ∧ Pure w wr
def RowRel2 (X : World) (oB nB d q k : Nat) (gk : Nat) (i : Value) (wr : World) : Prop :=
  ∃ j : Nat, k + 1 - j = gk ∧ j ≤ k + 1 ∧ i = .int .i64 (j : Int) ∧ RowIn X nB (nxA d q k j) (lenA (1 + 3 * k) j) (k + 2) wr

theorem info_big : (Try.prog.info? 123).map (fun i => (i.zero, i.size, i.bytes)) = some (some (.slice none 0 0), 1, 24) := by kernel_rfl
def nils (n : Nat) : Array Value := (List.replicate n (Value.slice none 0 0)).toArray
def BigsPost (w : World) (f : Nat → Nat) (L m : Nat) (e : Ending) (w' : World) : Prop := ∃ oB, e = .returned (.slice (some ⟨oB, 0, none⟩) m m) ∧ RowIn w' oB f (fun _ => L) m w' ∧ Pure w w'

theorem RowIn.other {X wx : World} {oB nB m m' : Nat} {cs : Array Value} {f Lf f' Lf' : Nat → Nat} (h : RowIn X oB f Lf m X) (h' : RowIn X nB f' Lf' m' wx) (hne : oB ≠ nB) (hb : Blk X nB 123 cs) : RowIn wx oB f Lf m wx := by
  obtain ⟨vs, h1, h2, h3, h4⟩ := h
  obtain ⟨_, _, _, _, hm⟩ := h'
  exact ⟨vs, h1.mod hm hne, h2, fun j u hu => (h3 j u hu).rowset hb hm, Mod.refl _ _⟩

set_option maxRecDepth 100000 in
set_option maxHeartbeats 4000000 in
theorem row_calls (w : World) (p d n : Nat) (hd : d ≤ p) (hp : p ≤ 2000) (hn : n ≤ 1000) :
    Calls Try.prog 115 #[.int .i64 (p : Int), .int .i64 (d : Int), .int .i64 (n : Int)] w (BigsPost w (rowv d (p - d) n) (1 + 3 * n) (n + 1)) := by
  go_enter Try.func115, Try.ntmps115
  go_wp2_with fail
  go_loopg [7, 15] n (fun gk o i wr => RowRel w d (p - d) n gk o i wr)
  case atStart =>
    refine ⟨0, w.heap.size + 1, by omega, by omega, rfl, rfl, by omega, ?_, ((Mod.refl _ _).alloc _).alloc _⟩
    refine ⟨[.slice (some ⟨w.heap.size, 0, none⟩) 1 1], ?_, rfl, fun j u hu => ?_, Mod.refl _ _⟩
    · have := Blk.new (w.alloc (.cells #[.int .i64 1] 3)) 123 #[.slice (some ⟨w.heap.size, 0, none⟩) 1 1]
      rw [World.size_alloc] at this
      exact this
    · cases j with
      | zero =>
        simp at hu
        subst hu
        rw [rowv_zero]
        exact ⟨[1], ⟨_, 1, 1, rfl, by omega, by omega, by simp [intsN], fun _ => ⟨w.heap.size, 0, rfl, ((Blk.new w 3 (intsN [1]).toArray).alloc _).row0⟩⟩, by simp, by simp [val_cons, val_nil], by simp⟩
      | succ j => simp at hu
  case round =>
    obtain ⟨k, oB, rfl, hk, rfl, rfl, hoB, hrow, hm⟩ := hrel
    by_cases hlt : k < n
    · have hmk := run_make_one (P := Try.prog) 124 123 (.slice none 0 0) 24 Try.underlying124 info_big rfl .i64 .i64 (k + 2) ((k : Int) + 2) (by omega) (by omega) (by omega) (nils (k + 2)) rfl
      go_wp2_with fail
      clear hmk
      have hoB2 : oB < wr.heap.size := by obtain ⟨vs, h1, _⟩ := hrow; exact h1.lt
      have hnB : Blk (wr.alloc (.cells (nils (k + 2)) 123)) wr.heap.size 123 (nils (k + 2)) := Blk.new _ _ _
      have hrow2 : RowIn (wr.alloc (.cells (nils (k + 2)) 123)) oB (rowv d (p - d) k) (fun _ => 1 + 3 * k) (k + 1) (wr.alloc (.cells (nils (k + 2)) 123)) := by
        obtain ⟨vs, h1, h2, h3, h4⟩ := hrow
        exact ⟨vs, h1.alloc _, h2, fun j u hu => (h3 j u hu).pure ((Mod.refl _ _).alloc _), Mod.refl _ _⟩
      have hm2 : Pure w (wr.alloc (.cells (nils (k + 2)) 123)) := hm.alloc _
      have hwz := hm.size
      generalize hX : (wr.alloc (.cells (nils (k + 2)) 123)) = X at *
      generalize hnb : wr.heap.size = nB at *
      clear hX hrow hm hnb
      go_loopg [23] (k + 1) (fun gk i wr => RowRel2 X oB nB d (p - d) k gk i wr)
      case atStart =>
        refine ⟨0, by omega, by omega, rfl, List.replicate (k + 2) (.slice none 0 0), hnB, by simp, fun j u hu => ?_, Mod.refl _ _⟩
        rw [List.getElem?_replicate] at hu
        split at hu
        · injection hu with hu
          subst hu
          have : nxA d (p - d) k 0 j = 0 := by unfold nxA; rw [if_neg (by omega)]; split <;> simp
          rw [this]
          exact IsBig.zero _ _
        · cases hu
      case round =>
        obtain ⟨i, rfl, hi, rfl, hnx⟩ := hrel
        have hne : oB ≠ nB := by omega
        have hro := hrow2.other hnx hne hnB
        by_cases hil : i < k + 1
        · obtain ⟨A0, n0, c0, hq0, _, hb0⟩ := hro.at hil
          go_upto_if 30 with (fail)
          go_cut [] (fun wx => RowIn X nB (nxB d (p - d) k i) (lenB (1 + 3 * k) i) (k + 2) wx ∧ IsBig wx (.slice A0 n0 c0) (rowv d (p - d) k i) (1 + 3 * k))
          case first =>
            by_cases hid : i < d
            · obtain ⟨A1, n1, c1, hq1, hf1, hb1⟩ := hnx.at (j := i + 1) (by omega)
              have e1 : IntKind.i64.wrap ((i : Int) + 1) = (i : Int) + 1 := IntWalk.i64_in _ (by omega)
              have e2 : IntKind.i64.wrap ((d : Int) - (i : Int)) = ((d - i : Nat) : Int) := by rw [IntWalk.i64_in _ (by omega)]; omega
              have i1 : (0 : Int) ≤ (i : Int) + 1 := by omega
              have i2 : (i : Int) + 1 < (k : Int) + 2 := by omega
              have i3 : ((i : Int) + 1).toNat = i + 1 := by omega
              have hz1 : nxA d (p - d) k i (i + 1) = 0 := by unfold nxA; rw [if_neg (by omega), if_neg (by omega)]
              have hz2 : lenA (1 + 3 * k) i (i + 1) = 0 := by unfold lenA; rw [if_neg (by omega), if_neg (by omega)]
              rw [hz1, hz2] at hb1
              have HNX := Lib.hid hnx
              have HRO := Lib.hid hro
              clear hnx hro hz1 hz2
              go_wp2_with fail
              go_region_with (first
                | (go_at_call 117; (refine (btimes_calls _ _ _ _ (d - i) (hb0.pure (Mod.refl _ _).drew) (by omega) (by omega)).mono ?_); rintro e w3 ⟨v3, rfl, hv3, hm3⟩; have hM3 : Pure wr w3 := (Mod.refl _ _).drew.trans hm3; have t1 := hM3.keep hq1 id)
                | (go_at_call 116; (refine (bplus_calls _ _ _ _ _ (1 + 3 * k + 1) ((hb1.pure hM3).more (by omega)) hv3 (by omega)).mono ?_); rintro e w4 ⟨v4, rfl, hv4, hm4⟩; obtain ⟨A4, n4, c4, rfl⟩ := hv4.form; have t3 := hm4.keep t1 id; have t4 := (hM3.trans hm4).keepf hq1 hf1 id))
              all_goals
                go_wp2_with fail
                go_meet
                have h := ((HNX.out.pure hM3).pure hm4).set (j := i + 1) hv4
                refine ⟨h.eq (fun j _ => ?_) (fun j _ => lenAB1 _ _ _), ?_⟩
                · unfold nxB
                  split
                  · simp
                  · rfl
                · have hh := (HNX.out.pure hM3).pure hm4
                  obtain ⟨vs, h1, _⟩ := hh
                  exact ((hb0.pure hM3).pure hm4).rowset h1 (Mod.setCell (S := (· = nB)) (p := ⟨nB, i + 1, none⟩) (Mod.refl _ _) (.inl rfl) _)
            · go_wp2_with fail
              go_meet
              refine ⟨hnx.eq (fun j _ => (nxB_skip d (p - d) k i j (by omega)).symm) (fun j _ => lenAB0 _ _ _), hb0⟩
          case rest =>
            clear hnx hro hq0
            obtain ⟨hnx, hb0⟩ := hcut
            have e5 : ((k : Int) - (i : Int)) = ((k - i : Nat) : Int) := by omega
            have e6 : ((p : Int) - (d : Int)) = ((p - d : Nat) : Int) := by omega
            by_cases hkq : k - i < p - d
            · obtain ⟨A1, n1, c1, hq1, hf1, hb1⟩ := hnx.at (j := i) (by omega)
              have e1 : IntKind.i64.wrap ((i : Int) + 1) = (i : Int) + 1 := IntWalk.i64_in _ (by omega)
              have e2 : IntKind.i64.wrap ((k - i : Nat) : Int) = ((k - i : Nat) : Int) := IntWalk.i64_in _ (by omega)
              have e3 : IntKind.i64.wrap ((p - d : Nat) : Int) = ((p - d : Nat) : Int) := IntWalk.i64_in _ (by omega)
              have e4 : IntKind.i64.wrap (((p - d : Nat) : Int) - ((k - i : Nat) : Int)) = ((p - d - (k - i) : Nat) : Int) := by rw [IntWalk.i64_in _ (by omega)]; omega
              have i1 : (0 : Int) ≤ (i : Int) := by omega
              have i2 : (i : Int) < (k : Int) + 2 := by omega
              have hz2 : lenB (1 + 3 * k) i i = 1 + 3 * k + 2 := by unfold lenB; rw [if_neg (by omega), if_pos (by omega)]
              rw [hz2] at hb1
              have HNX := Lib.hid hnx
              clear hnx hz2
              go_wp2_with fail
              go_region_with (first
                | (go_at_call 117; (refine (btimes_calls _ _ _ _ (p - d - (k - i)) (hb0.pure (Mod.refl _ _).drew) (by omega) (by omega)).mono ?_); rintro e w3 ⟨v3, rfl, hv3, hm3⟩; have hM3 : Pure wc w3 := (Mod.refl _ _).drew.trans hm3; have t1 := hM3.keep hq1 id)
                | (go_at_call 116; (refine (bplus_calls _ _ _ _ _ (1 + 3 * k + 2) (hb1.pure hM3) (hv3.more (by omega)) (by omega)).mono ?_); rintro e w4 ⟨v4, rfl, hv4, hm4⟩; obtain ⟨A4, n4, c4, rfl⟩ := hv4.form; have t3 := hm4.keep t1 id; have t4 := (hM3.trans hm4).keepf hq1 hf1 id))
              all_goals
                go_wp2_with fail
                go_roundg (k + 1 - (i + 1))
                case measure => omega
                case rel =>
                  have h := ((HNX.out.pure hM3).pure hm4).set (j := i) hv4
                  refine ⟨i + 1, rfl, by omega, by simp, h.eq (fun j _ => nx_done d (p - d) k i j (by omega)) (fun j _ => lenBA1 _ _ _)⟩
            · have HNX := Lib.hid hnx
              clear hnx
              go_wp2_with fail
              go_roundg (k + 1 - (i + 1))
              case measure => omega
              case rel =>
                refine ⟨i + 1, rfl, by omega, by simp, HNX.out.eq (fun j _ => ?_) (fun j _ => lenBA0 _ _ _)⟩
                rw [← nx_done d (p - d) k i j (by omega), show p - d - (k - i) = 0 by omega]
                split
                · rename_i e
                  subst e
                  simp
                · rfl
        · have hie : i = k + 1 := by omega
          subst hie
          have hfin : RowIn wr nB (rowv d (p - d) (k + 1)) (fun _ => 1 + 3 * (k + 1)) (k + 1 + 1) wr := by
            have h := hnx.eq (f' := rowv d (p - d) (k + 1)) (Lf' := fun _ => 1 + 3 * (k + 1)) (fun j hj => nx_end d (p - d) k j hj) (fun j hj => by unfold lenA; split <;> (try split) <;> omega)
            obtain ⟨vs, h1, h2, h3, h4⟩ := h
            exact ⟨vs, h1, h2, h3, Mod.refl _ _⟩
          have hmx : Pure w wr := by
            obtain ⟨_, _, _, _, h4⟩ := hnx
            exact hm2.trans' h4 (fun g hg hlt => by omega)
          have HF := Lib.hid hfin
          clear hfin hnx hro
          go_wp2_with fail
          go_roundg (n - (k + 1))
          case measure => omega
          case rel => exact ⟨k + 1, nB, rfl, by omega, by simp, rfl, by omega, HF.out, hmx⟩
    · have hke : k = n := by omega
      subst hke
      go_wp2_with fail
      go_ret
      exact ⟨oB, rfl, hrow, hm⟩

end Go.Proofs.Ytpacmdiodnnofaa
