/- Texts of the proof of LayoutTexts, put together: RdF. -/
import Derived.Test.YtaidkmnbjbnciaaGreatDoorLayoutTextsZ32
import Derived.Test.YtaidkmnbjbnciaaGreatDoorLayoutTextsZ36
/- ReadLayout of the program, for any text that is not too long. -/
namespace Go.Proofs.YtaidkmnbjbnciaaGreatDoor
set_option linter.unusedVariables false
set_option linter.unusedSimpArgs false
open Go.RowKit

theorem wdF_tkL : wdF tkL = lnL := rfl
theorem MlnS.lt {w : World} (h : MlnS w) : 4 < w.heap.size := by
 obtain ⟨m, hc⟩ := h
 unfold World.cell? at hc
 simp only at hc
 cases hh : w.heap[4]? with
 | none => rw [hh] at hc; cases hc
 | some b => exact (Array.getElem?_eq_some_iff.1 hh).1
theorem Asc.lt {w : World} (h : Asc w) : 0 < w.heap.size := by
 unfold Asc Lib.TabIs World.var? at h
 rw [asc_g] at h
 simp only [Option.bind_some] at h
 cases hh : w.heap[0]? with
 | none => rw [hh] at h; simp at h
 | some b => exact (Array.getElem?_eq_some_iff.1 hh).1
theorem MlnS.keep {base : Nat} {w w' : World} (h : MlnS w) (hm : KeepS base w w') (hb : 4 < base) : MlnS w' := h.mod hm (fun hs => by have := hs.1; omega)
theorem Asc.keep {base : Nat} {w w' : World} (h : Asc w) (hm : KeepS base w w') (hb : 0 < base) : Asc w' := h.mod hm (fun hs => by have := hs.1; omega)
theorem LayV.other {w w' : World} {L : LayR} {v : Value} {g : Nat} {t : TypeId} {cs : Array Value} (h : LayV w L v) (hm : Mod (· = g) w w') (hB : Blk w g t cs) (h1 : t ≠ 9) (h2 : t ≠ 99) (h3 : t ≠ 103) : LayV w' L v := by
 obtain ⟨A, n, c, A2, n2, c2, e, ⟨ha, hs⟩, hr⟩ := h
 exact ⟨A, n, c, A2, n2, c2, e, ⟨ha.mod hm (fun k arr fr hk => blk_tyR hB hk h2), fun x hx => (hs x hx).mod hm (fun k arr fr hk => blk_tyR hB hk h1)⟩, Sl.mod hr hm (fun k arr fr hk => blk_tyR hB hk h3)⟩
def layZ : Value := .agg #[.slice none 0 0, .slice none 0 0]
/-- What a reading answers: the layout, the line, the error. -/
def RdRes (r : Nat ⊕ RdS) (e : Ending) (w' : World) : Prop :=
 (∀ i, r = .inl i → e = .returned (.tuple #[layZ, .int .i64 (i : Int), .int .i64 9])) ∧
 ∀ S, r = .inr S → (layE (layS S) ≠ 0 ∧ e = .returned (.tuple #[layZ, .int .i64 0, .int .i64 (layE (layS S))])) ∨
  (layE (layS S) = 0 ∧ ∃ (A : Option Addr) (n c : Nat) (A2 : Option Addr) (n2 c2 : Nat) (L : LayR), L.asks.map AskR.q = S.asks ∧ L.rules = S.rules ∧ LayV w' L (.agg #[.slice A n c, .slice A2 n2 c2]) ∧ e = .returned (.tuple #[.agg #[.slice A n c, .slice A2 n2 c2], .int .i64 0, .int .i64 0]))
def RdGPost (w : World) (s : Str) (e : Ending) (w' : World) : Prop := Pure w w' ∧ RdRes (rdG lnL (wholeQ s) (linesQ s) 0 ⟨[], []⟩) e w'
set_option maxRecDepth 100000 in
set_option maxHeartbeats 8000000 in
theorem readG_calls (w : World) (s : Str) (hs : s.length ≤ 201) (hM : MlnS w) (hA : Asc w) : Calls Tryz.prog 13 #[.string ⟨s.toArray⟩] w (RdGPost w s) := by
 have hp : Pure w ((w.alloc (.cells #[.slice none 0 0, .slice none 0 0] 29)).alloc (.cells #[.slice none 0 0, .slice none 0 0] 29)) := (pure_alloc _ _).trans (pure_alloc _ _)
 have HP := Lib.hid hp
 have HG := Lib.hid ((Blk.new w 29 #[.slice none 0 0, .slice none 0 0]).alloc (.cells #[.slice none 0 0, .slice none 0 0] 29))
 have hm1 := hM.lt
 have ha1 := hA.lt
 have HLN := Lib.hid (plines_calls ((w.alloc (.cells #[.slice none 0 0, .slice none 0 0] 29)).alloc (.cells #[.slice none 0 0, .slice none 0 0] 29)) s (w.heap.size + 1) 70 (.pointer (some ⟨w.heap.size + 1, 0, none⟩)) tkL (RdI (w.heap.size + 1) (w.heap.size + 1)) ⟨[], []⟩
  (fun W hW => (hM.pure hp).keep hW (by omega)) (by omega)
  ⟨none, 0, none, 0, [], Blk.snd _ _ _ _, ⟨rfl, .inl ⟨rfl, rfl⟩⟩, ⟨rfl, .inl ⟨rfl, rfl⟩⟩, fun x hx => absurd hx (by simp), rfl, by simp, Nat.le_refl _⟩
  (fun k S W W' h hm => h.pure hm) (fun v W => rfl)
  (fun k S W g ws hk hW hR hB h1 h2 h3 h4 => rlG_calls W _ _ k S g ws (by have := linesQ_count s; omega) ((hA.pure hp).keep hW (by omega)) hR hB h2))
 rw [wdF_tkL] at HLN
 have hds : (⟨s.toArray⟩ : ByteArray).size = s.length := rfl
 have HLB := Lib.hid (fun (S : RdS) (L : LayR) (h : rdG lnL (wholeQ s) (linesQ s) 0 ⟨[], []⟩ = .inr S) => layB_of (L := L) h hs)
 clear hM hA hp
 unfold RdGPost
 generalize rdG lnL (wholeQ s) (linesQ s) 0 ⟨[], []⟩ = r at *
 generalize s.length = sl at *
 generalize (⟨s.toArray⟩ : ByteArray) = sb at *
 have hz0 : (w.alloc (.cells #[.slice none 0 0, .slice none 0 0] 29)).heap.size = w.heap.size + 1 := by simp
 have hz1 : ((w.alloc (.cells #[.slice none 0 0, .slice none 0 0] 29)).alloc (.cells #[.slice none 0 0, .slice none 0 0] 29)).heap.size = w.heap.size + 2 := by simp
 go_enter Tryz.func13, Tryz.ntmps13
 go_wp2_with fail
 refine HLN.out.mono ?_
 rintro e w1 ⟨hm, hl, hr⟩
 have HP1 := Lib.hid (KeepS.pure hm HP.out (by omega))
 have HG1 := Lib.hid (HG.out.mod hm (fun h => by have := h.1; omega))
 have HL := Lib.hid hl
 have HR := Lib.hid hr
 clear hm hl hr HLN HG HP
 generalize hgr : w.heap.size = gr at *
 have hgr2 := Nat.le_of_eq hgr
 clear hgr hz0 hz1
 have hG1 := HG1.out
 have z0 := hG1.cell 0; have zf0 := hG1.frozen 0; have z1 := hG1.cell 1; have zf1 := hG1.frozen 1; simp at z0 z1
 clear hG1
 cases r with
 | inl i =>
  obtain rfl := HL.out i rfl
  clear HL HR HLB
  have hi : (0 : Int) ≤ (i : Int) := by omega
  go_wp2_with fail
  have hGE := (HG1.out.set 0 (.slice none 0 0)).set 1 (.slice none 0 0)
  have u0 := hGE.cell 0; have u1 := hGE.cell 1; simp at u0 u1
  try simp only [Exit.inBlock, Exit.then]
  refine bodyPost_ret (v := .tuple #[layZ, .int .i64 (i : Int), .int .i64 9]) (by simp [results, Tryz.results13, go_sem, layZ, u0, u1]) rfl ?_
  exact ⟨(HP1.out.setCell (p := ⟨gr, 0, none⟩) (.inr (by show w.heap.size ≤ gr; omega)) _).setCell (p := ⟨gr, 1, none⟩) (.inr (by show w.heap.size ≤ gr; omega)) _, fun j hj => (by cases hj; rfl), fun S hS => (by cases hS)⟩
 | inr S =>
  obtain ⟨rfl, A, c, A2, c2, al, h1, h2, h3, h4, h5, h6, h7⟩ := HR.out S rfl
  have HV := Lib.hid (show LayV w1 ⟨al, S.rules⟩ (.agg #[.slice A al.length c, .slice A2 S.rules.length c2]) from ⟨A, _, c, A2, _, c2, rfl, ⟨Sl.of_own h2, h4⟩, Sl.of_own h3⟩)
  have HCL := Lib.hid (checkLayout_calls w1 _ _ HV.out (HLB.out S _ rfl h5 rfl))
  rw [layE_q (S := S) h5 rfl] at HCL
  have HQ := Lib.hid h5
  have HB1 := Lib.hid h1
  have x0 := h1.cell 0; have x1 := h1.cell 1; simp at x0 x1
  clear HL HR HLB h1 h2 h3 h4 h5 h6 h7
  generalize al.length = na at *
  generalize S.rules.length = nr at *
  generalize hle : layE (layS S) = le at *
  have HLE := Lib.hid hle
  clear hle
  go_wp2_with fail
  refine HCL.out.mono ?_
  rintro e w2 ⟨rfl, hm2⟩
  have hB2 := HB1.out.modp hm2
  have hG2 := HG1.out.modp hm2
  have HG2 := Lib.hid hG2
  have HP2 := Lib.hid (HP1.out.trans hm2)
  have HV2 := Lib.hid (HV.out.pure hm2)
  have y0 := hB2.cell 0; have y1 := hB2.cell 1; simp at y0 y1
  have z0 := hG2.cell 0; have zf0 := hG2.frozen 0; have z1 := hG2.cell 1; have zf1 := hG2.frozen 1; simp at z0 z1
  clear hB2 hG2 HCL x0 x1 hm2 HB1 HG1 HP1 HV
  by_cases he : le = 0
  ·subst he
   go_wp2_with fail
   have hGE := (HG2.out.set 0 (.slice A na c)).set 1 (.slice A2 nr c2)
   have u0 := hGE.cell 0; have u1 := hGE.cell 1; simp at u0 u1
   try simp only [Exit.inBlock, Exit.then]
   refine bodyPost_ret (v := .tuple #[.agg #[.slice A na c, .slice A2 nr c2], .int .i64 0, .int .i64 0]) (by simp [results, Tryz.results13, go_sem, u0, u1]) rfl ?_
   have hm8 : Mod (· = gr) w2 ((w2.setCell ⟨gr, 0, none⟩ (.slice A na c)).setCell ⟨gr, 1, none⟩ (.slice A2 nr c2)) := ((Mod.refl (· = gr) w2).setCell (.inl rfl) _).setCell (.inl rfl) _
   refine ⟨(HP2.out.setCell (p := ⟨gr, 0, none⟩) (.inr (by show w.heap.size ≤ gr; omega)) _).setCell (p := ⟨gr, 1, none⟩) (.inr (by show w.heap.size ≤ gr; omega)) _, fun j hj => (by cases hj), fun S' hS => ?_⟩
   cases hS
   exact .inr ⟨HLE.out, A, na, c, A2, nr, c2, ⟨al, S.rules⟩, HQ.out, rfl, HV2.out.other hm8 HG2.out (by decide) (by decide) (by decide), rfl⟩
  ·have he2 : (le != 0) = true := by simp [he]
   go_wp2_with fail
   have hGE := (HG2.out.set 0 (.slice none 0 0)).set 1 (.slice none 0 0)
   have u0 := hGE.cell 0; have u1 := hGE.cell 1; simp at u0 u1
   try simp only [Exit.inBlock, Exit.then]
   refine bodyPost_ret (v := .tuple #[layZ, .int .i64 0, .int .i64 le]) (by simp [results, Tryz.results13, go_sem, layZ, u0, u1]) rfl ?_
   refine ⟨(HP2.out.setCell (p := ⟨gr, 0, none⟩) (.inr (by show w.heap.size ≤ gr; omega)) _).setCell (p := ⟨gr, 1, none⟩) (.inr (by show w.heap.size ≤ gr; omega)) _, fun j hj => (by cases hj), fun S' hS => ?_⟩
   cases hS
   exact .inl ⟨by rw [HLE.out]; exact he, by rw [HLE.out]⟩

end Go.Proofs.YtaidkmnbjbnciaaGreatDoor
