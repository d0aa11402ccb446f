/- Texts of the proof of DecisionChecks, put together: DecF, GenE. -/
import Derived.Test.YtkkndblcejmmjaaGreatDoorDecisionChecksZ15
import Derived.Test.YtkkndblcejmmjaaGreatDoorDecisionChecksZ24
import Derived.Test.YtkkndblcejmmjaaGreatDoorDecisionChecksZ27
import Derived.Shelf.SlicesE.Clone
/- Decide of the program, DecideOf of the reference; clones of decisions. -/
namespace Go.Proofs.YtkkndblcejmmjaaGreatDoor
set_option linter.unusedVariables false
set_option linter.unusedSimpArgs false
open Go.RowKit Go.Sort Go.Shelf

theorem decV_one (ds : List DecR) : ∀ u ∈ decV ds, u.oneCell' = true := by
  intro u hu
  obtain ⟨x, _, hx⟩ := List.mem_flatMap.1 hu
  simp only [decC, List.mem_cons, List.not_mem_nil, or_false] at hx
  rcases hx with rfl | rfl | rfl | rfl | rfl | rfl <;> rfl
/-- A copy of decisions: the same values' slices. -/
def ClnD (w : World) (ds : List DecR) (e : Ending) (w' : World) : Prop := ∃ (A : Option Addr) (c : Nat), e = .returned (.slice A ds.length c) ∧ w'.ownsRow w.heap.size 40 6 (.slice A ds.length c) ds.length (decV ds) ∧ Pure w w'
theorem own_formD {w : World} {base : Nat} {v : Value} {ds : List DecR} (h : w.ownsRow base 40 6 v ds.length (decV ds)) : ∃ A c, v = .slice A ds.length c := by
  rcases h.2 with ⟨h1, h0⟩ | ⟨g, cap, _, h1, _⟩
  · exact ⟨none, 0, by rw [h1, h0]⟩
  · exact ⟨_, cap, h1⟩
theorem cloneD_calls (w : World) (base : Nat) (v : Value) (ds : List DecR) (hown : w.ownsRow base 40 6 v ds.length (decV ds)) (hl : ds.length ≤ 100000) : Calls Tryz.prog 62 #[v] w (ClnD w ds) := by
  obtain ⟨i0, hi0, hz0, hz1, hz2⟩ := info_parts info_dec
  have hv : Sl w 40 6 v (decV ds) := Sl.of_own hown
  have h0 : v = .slice none 0 0 ∨ ∃ g n c, v = .slice (some ⟨g, 0, none⟩) n c := by
    rcases hown.2 with ⟨h1, _⟩ | ⟨g, cap, _, h1, _⟩
    · exact .inl h1
    · exact .inr ⟨g, _, cap, h1⟩
  rcases h0 with rfl | ⟨g, n, c, rfl⟩
  · obtain ⟨_, _, _, hf, _, _, hl2, _⟩ := hv
    cases hf
    have e : ds = [] := List.eq_nil_of_length_eq_zero (by rw [decV_len] at hl2; omega)
    subst e
    refine (AnyE.slices_Clone_nil Tryz.clnDec 0 0 w).mono ?_
    rintro e w' ⟨rfl, rfl⟩
    exact ⟨none, 0, rfl, World.ownsRow_nil _ _ _ _, Mod.refl _ _⟩
  · obtain ⟨_, _, _, hf, hc1, hc2, hl2, hr⟩ := hv
    cases hf
    have hln : ds.length = n := by rw [decV_len] at hl2; omega
    subst hln
    refine (AnyE.slices_Clone Tryz.clnDec i0 (.agg #[.int .i64 0, .int .i64 0, .string ⟨#[]⟩, .string ⟨#[]⟩, .bool false, .slice none 0 0]) 6 80 hi0 hz0 hz1 hz2 rfl (by omega) Tryz.sizeOf40 g 0 ds.length c (decV ds) w (decV_len ds) (by unfold maxLen; omega) (by omega) (fun j u hj => ?_) (decV_one ds)).mono ?_
    · have : 0 < ds.length := by
        rcases Nat.eq_zero_or_pos ds.length with h | h
        · rw [List.eq_nil_of_length_eq_zero h] at hj; simp [decV] at hj
        · exact h
      obtain ⟨g2, o2, h2, hrow⟩ := hr this
      have h3 : g = g2 ∧ o2 = 0 := by
        have := Option.some.inj h2
        exact ⟨congrArg Addr.block this, (congrArg Addr.off this).symm⟩
      obtain ⟨rfl, rfl⟩ := h3
      exact hrow.cell hj
    · rintro e w' ⟨v', rfl, hown, _, hb⟩
      obtain ⟨A, c', rfl⟩ := own_formD hown
      exact ⟨A, c', rfl, hown, Mod.of_below hb⟩
theorem own_newsK {w : World} {base g n c size : Nat} {e : TypeId} {xs : List Value} (h : w.ownsRow base e size (.slice (some ⟨g, 0, none⟩) n c) n xs) : ∀ j u, xs[j]? = some u → w.cell? ((⟨g, 0, none⟩ : Addr).add j) = some u := fun j u hj => by
  obtain ⟨hlt, _⟩ := List.getElem?_eq_some_iff.1 hj
  have h1 := h.1
  have := h.cellAt j (by omega)
  rw [hj] at this
  rcases Nat.eq_zero_or_pos j with h0 | h0
  · subst h0; simpa [Addr.add] using this
  · rw [show (⟨g, 0, none⟩ : Addr).add j = ⟨g, j, none⟩ by simp [Addr.add]; omega]
    exact this
/-- With the number that it gets. -/
def DecR.numb (d : DecR) (k : Int) : DecR := { d with no := k }
/-- What Decide answers. -/
def didE (L : LayR) (ds : List DecR) (n : DecR) : Int := if decsE L ds ≠ 0 then decsE L ds else decE L ((ds.length : Int) + 1) (n.numb ((ds.length : Int) + 1))
def didD (q : Int) (DD : List DecR) : List DecR := if q = 0 then DD else []
def DidPost (w : World) (q : Int) (DD : List DecR) (e : Ending) (w' : World) : Prop :=
  ∃ (A : Option Addr) (k c : Nat) (ds' : List DecR), e = .returned (.tuple #[.slice A k c, .int .i64 q]) ∧ (q ≠ 0 → k = 0) ∧ Decs w' (.slice A k c) ds' ∧ likesD ds' (didD q DD) ∧ Pure w w'
theorem DidPost.err {w w' : World} {q p : Int} {DD : List DecR} (h : q = p) (hp : p ≠ 0) (hm : Pure w w') : DidPost w q DD (.returned (.tuple #[.slice none 0 0, .int .i64 p])) w' := ⟨none, 0, 0, [], by rw [h], fun _ => rfl, ⟨Sl.nil_, fun x h => absurd h (by simp)⟩, by rw [didD, if_neg (by rw [h]; exact hp)]; rfl, hm⟩
theorem DecVal.eq (no a : Int) (r i : Str) (s : Bool) (A : Option Addr) (c : Nat) (v : List ChoR) : DecVal ⟨no, a, r, i, s, A, c, v⟩ = .agg #[.int .i64 no, .int .i64 a, .string ⟨r.toArray⟩, .string ⟨i.toArray⟩, .bool s, .slice A v.length c] := rfl
/-- A slice that is like some decisions. -/
def DecsL (w : World) (v : Value) (ds' DD : List DecR) : Prop := Decs w v ds' ∧ likesD ds' DD
theorem DecsL.pure {w w' : World} {v : Value} {ds' DD : List DecR} (h : DecsL w v ds' DD) (hm : Pure w w') : DecsL w' v ds' DD := ⟨h.1.pure hm, h.2⟩
theorem DcOk.base {w : World} {b1 b2 c : Nat} {A : Option Addr} {ds' ds : List DecR} (h : DcOk w b1 A c ds' ds) (hb : b2 ≤ b1) : DcOk w b2 A c ds' ds := ⟨own_baseK h.1 hb, h.2⟩
theorem likesD.app {xs ys zs us : List DecR} (h : likesD xs ys) (k : likesD zs us) : likesD (xs ++ zs) (ys ++ us) := by
  unfold likesD at h k ⊢
  rw [List.map_append, List.map_append, h, k]
/-- Own decisions, with others behind them. -/
theorem DcOk.app {w w' : World} {base c c5 n' : Nat} {A A5 : Option Addr} {ds' ds es' es : List DecR} (h : DcOk w base A c ds' ds) (k : DecS w es') (hk : likesD es' es) (hm : Mod (fun j => (Value.slice A ds'.length c).ownBlock = some j) w w')
    (hn : n' = ds'.length + es'.length) (hown : w'.ownsRow base 40 6 (.slice A5 n' c5) n' (decV ds' ++ decV es')) : DcOk w' base A5 c5 (ds' ++ es') (ds ++ es) := by
  have hty1 : ∀ i arr fr, w.heap[i]? = some (.cells arr 105 fr) → ¬ (Value.slice A ds'.length c).ownBlock = some i := fun i arr fr hi hv => absurd (own_ty h.1 hv hi) (by decide)
  have hty2 : ∀ i arr fr, w.heap[i]? = some (.cells arr 9 fr) → ¬ (Value.slice A ds'.length c).ownBlock = some i := fun i arr fr hi hv => absurd (own_ty h.1 hv hi) (by decide)
  subst hn
  exact ⟨by simpa [decV] using hown, DecS.app (h.2.1.mod hm hty1 hty2) (k.mod hm hty1 hty2), h.2.2.app hk⟩

/-- A row of one's own of decisions. -/
def OwD (w : World) (base : Nat) (v : Value) (ds : List DecR) : Prop := w.ownsRow base 40 6 v ds.length (decV ds)
theorem OwD.pure {w w' : World} {base : Nat} {v : Value} {ds : List DecR} (h : OwD w base v ds) (hm : Pure w w') : OwD w' base v ds := own_pure h hm
theorem OwD.app {w w' : World} {base n' c5 : Nat} {v : Value} {A5 : Option Addr} {ds : List DecR} {x : DecR} (h : OwD w base v ds) (h1 : DecS w ds) (h2 : DecS w [x]) (hm : Mod (fun j => v.ownBlock = some j) w w') (hn : n' = ds.length + 1)
    (hown : w'.ownsRow base 40 6 (.slice A5 n' c5) n' (decV ds ++ decC x)) : Decs w' (.slice A5 n' c5) (ds ++ [x]) := by
  have hty1 : ∀ i arr fr, w.heap[i]? = some (.cells arr 105 fr) → ¬ v.ownBlock = some i := fun i arr fr hi hv => absurd (own_ty h hv hi) (by decide)
  have hty2 : ∀ i arr fr, w.heap[i]? = some (.cells arr 9 fr) → ¬ v.ownBlock = some i := fun i arr fr hi hv => absurd (own_ty h hv hi) (by decide)
  exact ⟨by rw [decV_snoc]; exact Sl.of_own hown, DecS.app (h1.mod hm hty1 hty2) (h2.mod hm hty1 hty2)⟩

set_option maxRecDepth 100000 in
set_option maxHeartbeats 8000000 in
theorem decide_calls (w : World) (vl : Value) (L : LayR) (A3 : Option Addr) (n3 c3 : Nat) (ds : List DecR) (d : DecR) (hL : LayV w L vl) (hb : LayB L) (hD : Decs w (.slice A3 n3 c3) ds) (hz : ∀ x ∈ ds, DecB x) (hn : ds.length ≤ 4000)
    (hV : Vals w (.slice d.A d.vals.length d.c) d.vals) (hdz : DecB d) : Calls Tryz.prog 14 #[vl, .slice A3 n3 c3, DecVal d] w (DidPost w (didE L ds d) (ds ++ [d.numb ((ds.length : Int) + 1)])) := by
  obtain ⟨no, ax, r, i, s, A, c, v⟩ := d
  have hl := hD.len
  subst hl
  have HCK := Lib.hid (fun W (h : Pure w W) => dcheck_calls W vl L A3 ds.length c3 ds (hL.pure h) hb (hD.pure h) hz hn)
  have HDE := Lib.hid (fun W (h : Pure w W) => derror_calls W vl L ⟨((ds.length : Int) + 1), ax, r, i, s, A, c, v⟩ ds.length (by omega) (hL.pure h) hb (hV.pure h) ⟨by simp only; omega, by simp only; omega, hdz.2.2.1, hdz.2.2.2.1, hdz.2.2.2.2.1, hdz.2.2.2.2.2.1, hdz.2.2.2.2.2.2⟩)
  have HC1 := Lib.hid (fun W (h : Pure w W) => copied_calls W A3 ds.length c3 ds (hD.pure h) (by omega) hz)
  have HC2 := Lib.hid (fun W g (h : Pure w W) (hB : Blk W g 40 #[.int .i64 ((ds.length : Int) + 1), .int .i64 ax, .string ⟨r.toArray⟩, .string ⟨i.toArray⟩, .bool s, .slice A v.length c]) => copied_calls W (some ⟨g, 0, none⟩) 1 1 [⟨((ds.length : Int) + 1), ax, r, i, s, A, c, v⟩]
    ⟨⟨_, 1, 1, rfl, by omega, by omega, by simp [decV, decC], fun _ => ⟨g, 0, rfl, Blk.row0 hB⟩⟩, fun y hy => by rw [List.mem_singleton.1 hy]; exact hV.pure h⟩ (by simp) (fun y hy => by rw [List.mem_singleton.1 hy]; exact ⟨by simp only; omega, by simp only; omega, hdz.2.2.1, hdz.2.2.2.1, hdz.2.2.2.2.1, hdz.2.2.2.2.2.1, hdz.2.2.2.2.2.2⟩))
  have HQ : Hid (didE L ds ⟨no, ax, r, i, s, A, c, v⟩ = if decsE L ds ≠ 0 then decsE L ds else decE L ((ds.length : Int) + 1) ⟨((ds.length : Int) + 1), ax, r, i, s, A, c, v⟩) := Lib.hid rfl
  have HNB : Hid ((⟨no, ax, r, i, s, A, c, v⟩ : DecR).numb ((ds.length : Int) + 1) = ⟨((ds.length : Int) + 1), ax, r, i, s, A, c, v⟩) := Lib.hid rfl
  rw [HNB.out]
  simp only [DecVal.eq] at HDE ⊢
  clear HNB hV hdz hz
  generalize didE L ds ⟨no, ax, r, i, s, A, c, v⟩ = q at *
  generalize decE L ((ds.length : Int) + 1) ⟨((ds.length : Int) + 1), ax, r, i, s, A, c, v⟩ = qe at *
  generalize decsE L ds = qs at *
  obtain ⟨La, Ln, Lc, Lb, Lm, Ld, rfl, _, _⟩ := hL
  have HBL := Lib.hid ((Blk.new w 29 #[.slice La Ln Lc, .slice Lb Lm Ld]).alloc (.cells #[.int .i64 no, .int .i64 ax, .string ⟨r.toArray⟩, .string ⟨i.toArray⟩, .bool s, .slice A v.length c] 40))
  have HBD := Lib.hid (Blk.snd w (.cells #[.slice La Ln Lc, .slice Lb Lm Ld] 29) 40 #[.int .i64 no, .int .i64 ax, .string ⟨r.toArray⟩, .string ⟨i.toArray⟩, .bool s, .slice A v.length c])
  have HP := Lib.hid ((pure_alloc w (.cells #[.slice La Ln Lc, .slice Lb Lm Ld] 29)).trans (pure_alloc _ (.cells #[.int .i64 no, .int .i64 ax, .string ⟨r.toArray⟩, .string ⟨i.toArray⟩, .bool s, .slice A v.length c] 40)))
  clear hD hb
  go_enter Tryz.func14, Tryz.ntmps14
  go_upto_region 1 with (fail)
  generalize ((w.alloc (.cells #[.slice La Ln Lc, .slice Lb Lm Ld] 29)).alloc (.cells #[.int .i64 no, .int .i64 ax, .string ⟨r.toArray⟩, .string ⟨i.toArray⟩, .bool s, .slice A v.length c] 40)) = w2 at *
  generalize hg : w.heap.size = g3 at *
  have hg3 := Nat.le_of_eq hg
  clear hg
  have hX := HBD.out
  have d0 := hX.cell 0; have df0 := hX.frozen 0; have d1 := hX.cell 1; have df1 := hX.frozen 1; have d2 := hX.cell 2; have df2 := hX.frozen 2; have d3 := hX.cell 3; have df3 := hX.frozen 3; have d4 := hX.cell 4; have df4 := hX.frozen 4; have d5 := hX.cell 5; have df5 := hX.frozen 5; simp at d0 d1 d2 d3 d4 d5
  clear hX
  go_upto_region 2 with (fail)
  have hset : Mod (· = g3 + 1) w2 (w2.setCell ⟨g3 + 1, 0, none⟩ (.int .i64 ((ds.length : Int) + 1))) := Mod.setCell (S := (· = g3 + 1)) (p := ⟨g3 + 1, 0, none⟩) (Mod.refl _ _) (.inl rfl) _
  have HBD3 : Hid (Blk (w2.setCell ⟨g3 + 1, 0, none⟩ (.int .i64 ((ds.length : Int) + 1))) (g3 + 1) 40 #[.int .i64 ((ds.length : Int) + 1), .int .i64 ax, .string ⟨r.toArray⟩, .string ⟨i.toArray⟩, .bool s, .slice A v.length c]) := Lib.hid (by simpa using HBD.out.set 0 (.int .i64 ((ds.length : Int) + 1)))
  have HBL3 := Lib.hid (HBL.out.mod hset (by omega))
  have HP3 : Hid (Pure w (w2.setCell ⟨g3 + 1, 0, none⟩ (.int .i64 ((ds.length : Int) + 1)))) := Lib.hid (HP.out.setCell (.inr (by show w.heap.size ≤ g3 + 1; omega)) _)
  clear hset d0 d1 d2 d3 d4 d5 df0 df1 df2 df3 df4 df5 HBD HBL HP
  generalize (w2.setCell ⟨g3 + 1, 0, none⟩ (.int .i64 ((ds.length : Int) + 1))) = w3 at *
  clear w2
  have hX := HBL3.out
  have c0 := hX.cell 0; have c1 := hX.cell 1; simp at c0 c1
  clear hX
  go_wp2_with fail
  refine (HCK.out _ HP3.out).mono ?_
  rintro e w4 ⟨rfl, hm⟩
  have HP4 := Lib.hid (HP3.out.trans hm)
  have HBL4 := Lib.hid (HBL3.out.modp hm)
  have HBD4 := Lib.hid (HBD3.out.modp hm)
  have HF1 : Hid (∀ (W : World) (g : Nat), Blk W g 41 #[.int .i64 qs, .int .i64 0] → Calls Tryz.prog 55 #[.slice (some ⟨g, 0, none⟩) 2 2] W (IntPost W qs)) := Lib.hid (fun W g h => by
    have := firstE_calls W g 2 [qs, 0] h.row0 (by simp)
    rwa [show firstErr [qs, 0] = qs by simp [firstErr]; intro h; exact h.symm] at this)
  clear HCK HBL3 HBD3 HP3 hm c0 c1
  have hn5 : ¬ (ds.length : Int) = 5000 := by omega
  go_wp2_with fail
  refine (whenQ_calls _ _ _ 0 (by simp; omega)).mono ?_
  rintro e w5 ⟨rfl, hm⟩
  have HP5 := Lib.hid (HP4.out.trans hm)
  have HBL5 := Lib.hid (HBL4.out.modp hm)
  have HBD5 := Lib.hid (HBD4.out.modp hm)
  clear HBL4 HBD4 HP4 hm
  go_wp2_with fail
  refine (HF1.out _ _ (Blk.new' rfl)).mono ?_
  rintro e w6 ⟨rfl, hm⟩
  have HP6 := Lib.hid (HP5.out.trans ((pure_alloc _ _).trans hm))
  have HBL6 := Lib.hid ((HBL5.out.alloc _).modp hm)
  have HBD6 := Lib.hid ((HBD5.out.alloc _).modp hm)
  clear HBL5 HBD5 HP5 hm HF1 hn5
  by_cases h0 : qs = 0
  · subst h0
    have HL := HQ.out
    rw [if_neg (by simp)] at HL
    have HQ2 := Lib.hid HL
    clear HQ HL
    have hX := HBL6.out
    have hY := HBD6.out
    have c0 := hX.cell 0; have c1 := hX.cell 1; simp at c0 c1
    have d0 := hY.cell 0; have d1 := hY.cell 1; have d2 := hY.cell 2; have d3 := hY.cell 3; have d4 := hY.cell 4; have d5 := hY.cell 5; simp at d0 d1 d2 d3 d4 d5
    clear hX hY
    go_wp2_with fail
    refine (HDE.out _ HP6.out).mono ?_
    rintro e w7 ⟨rfl, hm⟩
    have HP7 := Lib.hid (HP6.out.trans hm)
    have HBD7 := Lib.hid (HBD6.out.modp hm)
    clear HBL6 HBD6 HP6 hm HDE c0 c1 d0 d1 d2 d3 d4 d5
    by_cases h1 : qe = 0
    · subst h1
      go_upto_region 8 with (fail)
      have hws := HP7.out.size
      have hg7 := HBD7.out.lt
      obtain ⟨i0, hi0, hz0, hz1, hz2⟩ := info_parts info_dec
      have HGs := Lib.hid (show ∀ (D : Nat → Bool) (zzi : Nat) (zq zq' : World), (fun _ zq => (fun Z => Blk Z (g3 + 1) 40 #[.int .i64 ((ds.length : Int) + 1), .int .i64 ax, .string ⟨r.toArray⟩, .string ⟨i.toArray⟩, .bool s, .slice A v.length c]) zq) D zq → Mod (fun _ => False) zq zq' → (fun _ zq => (fun Z => Blk Z (g3 + 1) 40 #[.int .i64 ((ds.length : Int) + 1), .int .i64 ax, .string ⟨r.toArray⟩, .string ⟨i.toArray⟩, .bool s, .slice A v.length c]) zq) (upd D zzi true) zq' from by intro D zzi zq zq' h hm; (exact h.modp hm))
      refine wp_region_inv (by kernel_rfl) (by kernel_rfl) (InvF (R := Mod (fun _ => False)) [.is (.slice A3 ds.length c3),
          ⟨fun zv zw => ∃ (A_1 : Option Addr) (c_1 : Nat) (ds_1 : List DecR), zv = .slice A_1 ds_1.length c_1 ∧ DcOk zw w7.heap.size A_1 c_1 ds_1 ds, (by rintro zv zw zx ⟨A_1, c_1, ds_1, rfl, q0⟩ hm; exact ⟨A_1, c_1, ds_1, rfl, (q0.pure hm)⟩), none, some 5⟩,
          .is (.agg #[.int .i64 ((ds.length : Int) + 1), .int .i64 ax, .string ⟨r.toArray⟩, .string ⟨i.toArray⟩, .bool s, .slice A v.length c]),
          ⟨fun zv zw => ∃ (g_3 : Nat), zv = .slice (some ⟨g_3, 0, none⟩) 1 1 ∧ w7.heap.size ≤ g_3 ∧ Blk zw g_3 40 #[.int .i64 ((ds.length : Int) + 1), .int .i64 ax, .string ⟨r.toArray⟩, .string ⟨i.toArray⟩, .bool s, .slice A v.length c], (by rintro zv zw zx ⟨g_3, rfl, c0, q0⟩ hm; exact ⟨g_3, rfl, c0, (q0.modp hm)⟩), none, some 4⟩,
          ⟨fun zv zw => ∃ (g_4 : Nat) (c_4 : Nat) (y_4 : DecR), zv = .slice (some ⟨g_4, 0, none⟩) 1 c_4 ∧ DcOk zw w7.heap.size (some ⟨g_4, 0, none⟩) c_4 [y_4] [⟨((ds.length : Int) + 1), ax, r, i, s, A, c, v⟩], (by rintro zv zw zx ⟨g_4, c_4, y_4, rfl, q0⟩ hm; exact ⟨g_4, c_4, y_4, rfl, (q0.pure hm)⟩), none, some 5⟩,
          ⟨fun zv zw => ∃ (g_5 : Nat) (n_5 : Nat) (c_5 : Nat) (ds_5 : List DecR), zv = .slice (some ⟨g_5, 0, none⟩) n_5 c_5 ∧ DecsL zw (.slice (some ⟨g_5, 0, none⟩) n_5 c_5) ds_5 (ds ++ [⟨((ds.length : Int) + 1), ax, r, i, s, A, c, v⟩]), (by rintro zv zw zx ⟨g_5, n_5, c_5, ds_5, rfl, q0⟩ hm; exact ⟨g_5, n_5, c_5, ds_5, rfl, (q0.pure hm)⟩), none, none⟩,
          ⟨fun zv zw => ∃ (g_6 : Nat) (n_6 : Nat) (c_6 : Nat) (ds_6 : List DecR), zv = .slice (some ⟨g_6, 0, none⟩) n_6 c_6 ∧ DecsL zw (.slice (some ⟨g_6, 0, none⟩) n_6 c_6) ds_6 (ds ++ [⟨((ds.length : Int) + 1), ax, r, i, s, A, c, v⟩]), (by rintro zv zw zx ⟨g_6, n_6, c_6, ds_6, rfl, q0⟩ hm; exact ⟨g_6, n_6, c_6, ds_6, rfl, (q0.pure hm)⟩), none, none⟩,
          .is ((.int .i64 0))]
          (PB w (fun _ => False) w7.heap.size (fun _ zq => (fun Z => Blk Z (g3 + 1) 40 #[.int .i64 ((ds.length : Int) + 1), .int .i64 ax, .string ⟨r.toArray⟩, .string ⟨i.toArray⟩, .bool s, .slice A v.length c]) zq))) (InvF.start (PB.start HP7.out (Nat.le_refl _) (HBD7.out.drew))) ?_ ?_
      · refine .cons ?_ (.cons ?_ (.cons ?_ (.cons ?_ (.cons ?_ (.cons ?_ (.cons ?_ (.cons ?_ .nil)))))))
        · intro D V zw1 a hR hI K hK
          obtain ⟨hM1, hB1, hG1⟩ := hI.1
          have ze1 := hR.frame.other (t := 1) (by kernel_rfl) rfl
          rw [if_pos (by rfl)]
          go_simp
          exact hK (.slice A3 ds.length c3) _ (hI.next hR (by kernel_rfl) (Mod.refl _ _) (PB.quiet hI.1 (Mod.refl _ _) (HGs.out D 0 zw1 zw1 (hI.1).g (Mod.refl _ _))) (upd_same V 0 _))
        · intro D V zw1 a hR hI K hK
          obtain ⟨hM1, hB1, hG1⟩ := hI.1
          have zd0 := hR.pred 0 (by kernel_rfl)
          have zF0 : V 0 = .slice A3 ds.length c3 := hI.2 0 zd0 rfl
          have zf0 := zF0; clear zF0
          have ze34 := hR.frame.done (t := 34) (j := 0) (by kernel_rfl) hR.ok zd0
          rw [if_pos (by rfl)]
          go_simp
          refine (HC1.out zw1 hM1).mono ?_
          rintro e zw2 ⟨A_0, c_0, ds_0, rfl, hdc, hm2⟩
          exact hK (.slice A_0 ds_0.length c_0) _ (hI.next hR (by kernel_rfl) hm2 (PB.quiet hI.1 hm2 (HGs.out D 1 _ _ (hI.1).g hm2)) (⟨A_0, c_0, ds_0, upd_same V 1 _, (hdc.base hB1)⟩))
        · intro D V zw1 a hR hI K hK
          obtain ⟨hM1, hB1, hG1⟩ := hI.1
          have ze5 := hR.frame.other (t := 5) (by kernel_rfl) rfl
          have zx0 := hG1.cell 0
          simp at zx0
          have zx1 := hG1.cell 1
          simp at zx1
          have zx2 := hG1.cell 2
          simp at zx2
          have zx3 := hG1.cell 3
          simp at zx3
          have zx4 := hG1.cell 4
          simp at zx4
          have zx5 := hG1.cell 5
          simp at zx5
          rw [if_pos (by rfl)]
          go_simp
          exact hK (.agg #[.int .i64 ((ds.length : Int) + 1), .int .i64 ax, .string ⟨r.toArray⟩, .string ⟨i.toArray⟩, .bool s, .slice A v.length c]) _ (hI.next hR (by kernel_rfl) (Mod.refl _ _) (PB.quiet hI.1 (Mod.refl _ _) (HGs.out D 2 zw1 zw1 (hI.1).g (Mod.refl _ _))) (upd_same V 2 _))
        · intro D V zw1 a hR hI K hK
          obtain ⟨hM1, hB1, hG1⟩ := hI.1
          have zd2 := hR.pred 2 (by kernel_rfl)
          have zF2 : V 2 = .agg #[.int .i64 ((ds.length : Int) + 1), .int .i64 ax, .string ⟨r.toArray⟩, .string ⟨i.toArray⟩, .bool s, .slice A v.length c] := hI.2 2 zd2 rfl
          have zf2 := zF2; clear zF2
          have ze36 := hR.frame.done (t := 36) (j := 2) (by kernel_rfl) hR.ok zd2
          rw [if_pos (by rfl)]
          go_simp
          exact hK (_) _ (hI.next hR (by kernel_rfl) ((Mod.refl _ _).alloc _) (PB.quiet hI.1 (pure_alloc _ _) (HGs.out D 3 _ _ (hI.1).g ((Mod.refl _ _).alloc _))) (⟨_, upd_same V 3 _, (by omega), (Blk.new _ _ _)⟩))
        · intro D V zw1 a hR hI K hK
          obtain ⟨hM1, hB1, hG1⟩ := hI.1
          have zd3 := hR.pred 3 (by kernel_rfl)
          have zF3 : ∃ (g_3 : Nat), V 3 = .slice (some ⟨g_3, 0, none⟩) 1 1 ∧ w7.heap.size ≤ g_3 ∧ Blk zw1 g_3 40 #[.int .i64 ((ds.length : Int) + 1), .int .i64 ax, .string ⟨r.toArray⟩, .string ⟨i.toArray⟩, .bool s, .slice A v.length c] := hI.2 3 zd3 (by show (!D 4) = true; rw [hR.not]; rfl)
          obtain ⟨g_3, zf3, c3_0, b3_0⟩ := zF3
          have ze37 := hR.frame.done (t := 37) (j := 3) (by kernel_rfl) hR.ok zd3
          rw [if_pos (by rfl)]
          go_simp
          refine (HC2.out zw1 _ hM1 b3_0).mono ?_
          rintro e zw2 ⟨A_0, c_0, ds_0, rfl, hdc, hm2⟩
          obtain ⟨y_0, rfl⟩ : ∃ y, ds_0 = [y] := List.length_eq_one_iff.1 hdc.2.2.len
          obtain ⟨g_0, cap, he, hge, _⟩ := hdc.1.form (by simp)
          cases he
          exact hK (.slice (some ⟨g_0, 0, none⟩) 1 c_0) _ (hI.next hR (by kernel_rfl) hm2 (PB.quiet hI.1 hm2 (HGs.out D 4 _ _ (hI.1).g hm2)) (⟨g_0, c_0, y_0, upd_same V 4 _, (hdc.base hB1)⟩))
        · intro D V zw1 a hR hI K hK
          obtain ⟨hM1, hB1, hG1⟩ := hI.1
          have zd1 := hR.pred 1 (by kernel_rfl)
          have zF1 : ∃ (A_1 : Option Addr) (c_1 : Nat) (ds_1 : List DecR), V 1 = .slice A_1 ds_1.length c_1 ∧ DcOk zw1 w7.heap.size A_1 c_1 ds_1 ds := hI.2 1 zd1 (by show (!D 5) = true; rw [hR.not]; rfl)
          obtain ⟨A_1, c_1, ds_1, zf1, b1_0⟩ := zF1
          have zd4 := hR.pred 4 (by kernel_rfl)
          have zF4 : ∃ (g_4 : Nat) (c_4 : Nat) (y_4 : DecR), V 4 = .slice (some ⟨g_4, 0, none⟩) 1 c_4 ∧ DcOk zw1 w7.heap.size (some ⟨g_4, 0, none⟩) c_4 [y_4] [⟨((ds.length : Int) + 1), ax, r, i, s, A, c, v⟩] := hI.2 4 zd4 (by show (!D 5) = true; rw [hR.not]; rfl)
          obtain ⟨g_4, c_4, y_4, zf4, b4_0⟩ := zF4
          have ze35 := hR.frame.done (t := 35) (j := 1) (by kernel_rfl) hR.ok zd1
          have ze38 := hR.frame.done (t := 38) (j := 4) (by kernel_rfl) hR.ok zd4
          have hdl : ds_1.length ≤ 4000 := by have := b1_0.2.2.len; omega
          rw [if_pos (by rfl)]
          have hown := b1_0.1
          refine wp_append_lies _ (.tmp 35) (.tmp 38) 31 (by rfl) w7.heap.size 40 i0 _ 6 80 Tryz.underlying31 hi0 hz0 hz1 hz2 (by rfl) (by omega) (.slice A_1 ds_1.length c_1) (ds_1.length) (decV ds_1) ?_ hown ⟨g_4, 0, none⟩ 1 c_4 (decV [y_4]) ?_ (by rfl) (own_newsK b4_0.1) (decV_one _) (by omega) (by simp [maxLen]; omega) (by omega) (by omega) zw1.heap.size rfl ?_
          · show a.tmps.getD 35 undef = _; simp [ze35, zf1]
          · show a.tmps.getD 38 undef = _; simp [ze38, zf4]
          intro g5 cap5 zw2 hown5 hgrow hat hlt5
          have hT := mod_grown hgrow
          have hTb : ∀ j, (.slice A_1 ds_1.length c_1 : Value).ownBlock = some j → w7.heap.size ≤ j := own_block hown
          refine hK _ _ (InvF.last (PB.writes hI.1 (fun j hj hl => by have := hTb j hj; omega) hT ((hG1.mod hT (fun h => by have := hTb _ h; omega)))) ⟨_, _, _, ds_1 ++ [y_4], upd_same V 5 _, (have hap := b1_0.app b4_0.2.1 b4_0.2.2 hT rfl hown5; ⟨by simpa using Decs.of_dc hap, hap.2.2⟩)⟩ ?_)
          intro k hk hDk hlv
          have hkl := hR.lt k hDk
          have hv := hI.2 k hDk (liveB_of hlv)
          match k, hk, hDk, hlv, hkl, hv with
          | 0, _, _, _, _, hv => exact hv
          | 1, _, _, hlv, _, _ => exact absurd hlv (by show ¬ (!upd D 5 true 5) = true; rw [upd_same]; decide)
          | 2, _, _, _, _, hv => exact hv
          | 3, _, _, hlv, _, _ => exact absurd hlv (by show ¬ (!upd D 5 true 4) = true; rw [upd_ne _ _ (by omega), hR.pred 4 (by kernel_rfl)]; decide)
          | 4, _, _, hlv, _, _ => exact absurd hlv (by show ¬ (!upd D 5 true 5) = true; rw [upd_same]; decide)
          | 5, hk, _, _, _, _ => exact absurd rfl hk
          | 6, _, hDk, _, _, _ => exact absurd hDk (by rw [hR.later 6 rfl (by kernel_rfl)]; decide)
          | 7, _, _, _, _, hv => exact hv
          | k + 8, _, _, _, hkl, _ => exact absurd hkl (by simp)
        · intro D V zw1 a hR hI K hK
          obtain ⟨hM1, hB1, hG1⟩ := hI.1
          have zd5 := hR.pred 5 (by kernel_rfl)
          have zF5 : ∃ (g_5 : Nat) (n_5 : Nat) (c_5 : Nat) (ds_5 : List DecR), V 5 = .slice (some ⟨g_5, 0, none⟩) n_5 c_5 ∧ DecsL zw1 (.slice (some ⟨g_5, 0, none⟩) n_5 c_5) ds_5 (ds ++ [⟨((ds.length : Int) + 1), ax, r, i, s, A, c, v⟩]) := hI.2 5 zd5 rfl
          obtain ⟨g_5, n_5, c_5, ds_5, zf5, b5_0⟩ := zF5
          have ze39 := hR.frame.done (t := 39) (j := 5) (by kernel_rfl) hR.ok zd5
          rw [if_pos (by rfl)]
          go_simp
          exact hK (.slice (some ⟨g_5, 0, none⟩) n_5 c_5) _ (hI.next hR (by kernel_rfl) (Mod.refl _ _) (PB.quiet hI.1 (Mod.refl _ _) (HGs.out D 6 zw1 zw1 (hI.1).g (Mod.refl _ _))) (⟨g_5, n_5, c_5, ds_5, upd_same V 6 _, b5_0⟩))
        · intro D V zw1 a hR hI K hK
          obtain ⟨hM1, hB1, hG1⟩ := hI.1
          rw [if_pos (by rfl)]
          go_simp
          exact hK ((.int .i64 0)) _ (hI.next hR (by kernel_rfl) (Mod.refl _ _) (PB.quiet hI.1 (Mod.refl _ _) (HGs.out D 7 zw1 zw1 (hI.1).g (Mod.refl _ _))) (upd_same V 7 _))
      · intro D V w8 hD hI
        obtain ⟨hM1, hB1, hG1⟩ := hI.1
        have hMx := hM1
        clear hM1
        have hBx := hB1
        clear hB1
        have hGx := hG1
        clear hG1
        have zF0 : V 0 = .slice A3 ds.length c3 := hI.2 0 (hD 0 (by decide)) rfl
        have zf0 := zF0; clear zF0
        have zF2 : V 2 = .agg #[.int .i64 ((ds.length : Int) + 1), .int .i64 ax, .string ⟨r.toArray⟩, .string ⟨i.toArray⟩, .bool s, .slice A v.length c] := hI.2 2 (hD 2 (by decide)) rfl
        have zf2 := zF2; clear zF2
        have zF5 : ∃ (g_5 : Nat) (n_5 : Nat) (c_5 : Nat) (ds_5 : List DecR), V 5 = .slice (some ⟨g_5, 0, none⟩) n_5 c_5 ∧ DecsL w8 (.slice (some ⟨g_5, 0, none⟩) n_5 c_5) ds_5 (ds ++ [⟨((ds.length : Int) + 1), ax, r, i, s, A, c, v⟩]) := hI.2 5 (hD 5 (by decide)) rfl
        obtain ⟨g_5, n_5, c_5, ds_5, zf5, b5_0⟩ := zF5
        have zF6 : ∃ (g_6 : Nat) (n_6 : Nat) (c_6 : Nat) (ds_6 : List DecR), V 6 = .slice (some ⟨g_6, 0, none⟩) n_6 c_6 ∧ DecsL w8 (.slice (some ⟨g_6, 0, none⟩) n_6 c_6) ds_6 (ds ++ [⟨((ds.length : Int) + 1), ax, r, i, s, A, c, v⟩]) := hI.2 6 (hD 6 (by decide)) rfl
        obtain ⟨g_6, n_6, c_6, ds_6, zf6, b6_0⟩ := zF6
        have zF7 : V 7 = (.int .i64 0) := hI.2 7 (hD 7 (by decide)) rfl
        have zf7 := zF7; clear zF7
        clear hI hD HGs
        simp only [frAll, Act.put, List.setIfInBounds_toArray, List.set_cons_zero, List.set_cons_succ, Nat.zero_add, Nat.reduceAdd, zf0, zf2, zf5, zf6, zf7]
        clear zf0 zf2 zf5 zf6 zf7
        generalize V 1 = u1
        generalize V 3 = u3
        generalize V 4 = u4
        clear V D
        go_wp2_with fail
        refine bodyPost_ret (v := .tuple #[.slice (some ⟨g_6, 0, none⟩) n_6 c_6, .int .i64 0]) (by simp [results, Tryz.results14, go_sem]) rfl ?_
        refine ⟨_, _, _, ds_6, by rw [HQ2.out], fun h => absurd HQ2.out h, b6_0.1, ?_, hMx⟩
        rw [didD, if_pos HQ2.out]; exact b6_0.2
    · have h1' : (qe != 0) = true := by simpa using h1
      go_wp2_with fail
      refine bodyPost_ret (v := .tuple #[.slice none 0 0, .int .i64 qe]) (by simp [results, Tryz.results14, go_sem]) rfl ?_
      exact DidPost.err HQ2.out h1 HP7.out
  · have h0' : (qs != 0) = true := by simpa using h0
    have HL := HQ.out
    rw [if_pos h0] at HL
    clear HQ HDE HC1 HC2
    go_wp2_with fail
    refine bodyPost_ret (v := .tuple #[.slice none 0 0, .int .i64 qs]) (by simp [results, Tryz.results14, go_sem]) rfl ?_
    exact DidPost.err HL h0 HP6.out
set_option maxRecDepth 100000 in
set_option maxHeartbeats 8000000 in
theorem decideOf_calls (w : World) (vl : Value) (L : LayR) (A3 : Option Addr) (c3 b3 : Nat) (ds : List DecR) (d : DecR) (hL : LayV w L vl) (hb : LayB L) (hD : Decs w (.slice A3 ds.length c3) ds) (hown : w.ownsRow b3 40 6 (.slice A3 ds.length c3) ds.length (decV ds)) (hn : ds.length ≤ 4000)
    (hV : Vals w (.slice d.A d.vals.length d.c) d.vals) (hdz : DecB d) : Calls Tryz.prog 18 #[vl, .slice A3 ds.length c3, DecVal d] w (DidPost w (decE L ((ds.length : Int) + 1) (d.numb ((ds.length : Int) + 1))) (ds ++ [d.numb ((ds.length : Int) + 1)])) := by
  obtain ⟨no, ax, r, i, s, A, c, v⟩ := d
  have HDE := Lib.hid (fun W (h : Pure w W) => dfault_calls W vl L ⟨((ds.length : Int) + 1), ax, r, i, s, A, c, v⟩ ((ds.length : Int) + 1) (hL.pure h) hb (hV.pure h) ⟨by simp only; omega, by simp only; omega, hdz.2.2.1, hdz.2.2.2.1, hdz.2.2.2.2.1, hdz.2.2.2.2.2.1, hdz.2.2.2.2.2.2⟩)
  have HC1 := Lib.hid (fun W (h : Pure w W) => cloneD_calls W b3 (.slice A3 ds.length c3) ds (own_pure hown h) (by omega))
  have HDS : Hid (DecS w ds) := Lib.hid hD.2
  have HVD : Hid (DecS w [⟨((ds.length : Int) + 1), ax, r, i, s, A, c, v⟩]) := Lib.hid (fun y hy => by rw [List.mem_singleton.1 hy]; exact hV)
  have HNB : Hid ((⟨no, ax, r, i, s, A, c, v⟩ : DecR).numb ((ds.length : Int) + 1) = ⟨((ds.length : Int) + 1), ax, r, i, s, A, c, v⟩) := Lib.hid rfl
  rw [HNB.out]
  simp only [DecVal.eq] at HDE ⊢
  clear HNB hV hdz hD hown
  generalize decE L ((ds.length : Int) + 1) ⟨((ds.length : Int) + 1), ax, r, i, s, A, c, v⟩ = qe at *
  obtain ⟨La, Ln, Lc, Lb, Lm, Ld, rfl, _, _⟩ := hL
  have HBL := Lib.hid ((Blk.new w 29 #[.slice La Ln Lc, .slice Lb Lm Ld]).alloc (.cells #[.int .i64 no, .int .i64 ax, .string ⟨r.toArray⟩, .string ⟨i.toArray⟩, .bool s, .slice A v.length c] 40))
  have HBD := Lib.hid (Blk.snd w (.cells #[.slice La Ln Lc, .slice Lb Lm Ld] 29) 40 #[.int .i64 no, .int .i64 ax, .string ⟨r.toArray⟩, .string ⟨i.toArray⟩, .bool s, .slice A v.length c])
  have HP := Lib.hid ((pure_alloc w (.cells #[.slice La Ln Lc, .slice Lb Lm Ld] 29)).trans (pure_alloc _ (.cells #[.int .i64 no, .int .i64 ax, .string ⟨r.toArray⟩, .string ⟨i.toArray⟩, .bool s, .slice A v.length c] 40)))
  clear hb
  go_enter Tryz.func18, Tryz.ntmps18
  go_upto_region 1 with (fail)
  generalize ((w.alloc (.cells #[.slice La Ln Lc, .slice Lb Lm Ld] 29)).alloc (.cells #[.int .i64 no, .int .i64 ax, .string ⟨r.toArray⟩, .string ⟨i.toArray⟩, .bool s, .slice A v.length c] 40)) = w2 at *
  generalize hg : w.heap.size = g3 at *
  have hg3 := Nat.le_of_eq hg
  clear hg
  have hX := HBD.out
  have d0 := hX.cell 0; have df0 := hX.frozen 0; have d1 := hX.cell 1; have df1 := hX.frozen 1; have d2 := hX.cell 2; have df2 := hX.frozen 2; have d3 := hX.cell 3; have df3 := hX.frozen 3; have d4 := hX.cell 4; have df4 := hX.frozen 4; have d5 := hX.cell 5; have df5 := hX.frozen 5; simp at d0 d1 d2 d3 d4 d5
  clear hX
  have hn5 : ¬ (5000 : Int) ≤ (ds.length : Int) := by omega
  go_upto_region 4 with (fail)
  have hset : Mod (· = g3 + 1) w2 (w2.setCell ⟨g3 + 1, 0, none⟩ (.int .i64 ((ds.length : Int) + 1))) := Mod.setCell (S := (· = g3 + 1)) (p := ⟨g3 + 1, 0, none⟩) (Mod.refl _ _) (.inl rfl) _
  have HBD3 : Hid (Blk (w2.setCell ⟨g3 + 1, 0, none⟩ (.int .i64 ((ds.length : Int) + 1))) (g3 + 1) 40 #[.int .i64 ((ds.length : Int) + 1), .int .i64 ax, .string ⟨r.toArray⟩, .string ⟨i.toArray⟩, .bool s, .slice A v.length c]) := Lib.hid (by simpa using HBD.out.set 0 (.int .i64 ((ds.length : Int) + 1)))
  have HBL3 := Lib.hid (HBL.out.mod hset (by omega))
  have HP3 : Hid (Pure w (w2.setCell ⟨g3 + 1, 0, none⟩ (.int .i64 ((ds.length : Int) + 1)))) := Lib.hid (HP.out.setCell (.inr (by show w.heap.size ≤ g3 + 1; omega)) _)
  clear hset d0 d1 d2 d3 d4 d5 df0 df1 df2 df3 df4 df5 HBD HBL HP hn5
  generalize (w2.setCell ⟨g3 + 1, 0, none⟩ (.int .i64 ((ds.length : Int) + 1))) = w3 at *
  clear w2
  have hX := HBL3.out
  have hY := HBD3.out
  have c0 := hX.cell 0; have c1 := hX.cell 1; simp at c0 c1
  have d0 := hY.cell 0; have d1 := hY.cell 1; have d2 := hY.cell 2; have d3 := hY.cell 3; have d4 := hY.cell 4; have d5 := hY.cell 5; simp at d0 d1 d2 d3 d4 d5
  clear hX hY
  go_wp2_with fail
  refine (HDE.out _ HP3.out).mono ?_
  rintro e w7 ⟨rfl, hm⟩
  have HP7 := Lib.hid (HP3.out.trans hm)
  have HBD7 := Lib.hid (HBD3.out.modp hm)
  clear HBL3 HBD3 HP3 hm HDE c0 c1 d0 d1 d2 d3 d4 d5
  by_cases h1 : qe = 0
  · subst h1
    go_upto_region 7 with (fail)
    have hws := HP7.out.size
    have hg7 := HBD7.out.lt
    obtain ⟨i0, hi0, hz0, hz1, hz2⟩ := info_parts info_dec
    have HGs := Lib.hid (show ∀ (D : Nat → Bool) (zzi : Nat) (zq zq' : World), (fun _ zq => (fun Z => Blk Z (g3 + 1) 40 #[.int .i64 ((ds.length : Int) + 1), .int .i64 ax, .string ⟨r.toArray⟩, .string ⟨i.toArray⟩, .bool s, .slice A v.length c] ∧ DecS Z ds ∧ DecS Z [⟨((ds.length : Int) + 1), ax, r, i, s, A, c, v⟩]) zq) D zq → Mod (fun _ => False) zq zq' → (fun _ zq => (fun Z => Blk Z (g3 + 1) 40 #[.int .i64 ((ds.length : Int) + 1), .int .i64 ax, .string ⟨r.toArray⟩, .string ⟨i.toArray⟩, .bool s, .slice A v.length c] ∧ DecS Z ds ∧ DecS Z [⟨((ds.length : Int) + 1), ax, r, i, s, A, c, v⟩]) zq) (upd D zzi true) zq' from by intro D zzi zq zq' h hm; (exact ⟨h.1.modp hm, h.2.1.pure hm, h.2.2.pure hm⟩))
    refine wp_region_inv (by kernel_rfl) (by kernel_rfl) (InvF (R := Mod (fun _ => False)) [.is (.slice A3 ds.length c3),
        ⟨fun zv zw => ∃ (A_1 : Option Addr) (c_1 : Nat), zv = .slice A_1 ds.length c_1 ∧ OwD zw w7.heap.size (.slice A_1 ds.length c_1) ds, (by rintro zv zw zx ⟨A_1, c_1, rfl, q0⟩ hm; exact ⟨A_1, c_1, rfl, (q0.pure hm)⟩), none, some 4⟩,
        .is (.agg #[.int .i64 ((ds.length : Int) + 1), .int .i64 ax, .string ⟨r.toArray⟩, .string ⟨i.toArray⟩, .bool s, .slice A v.length c]),
        ⟨fun zv zw => ∃ (g_3 : Nat), zv = .slice (some ⟨g_3, 0, none⟩) 1 1 ∧ w7.heap.size ≤ g_3 ∧ Blk zw g_3 40 #[.int .i64 ((ds.length : Int) + 1), .int .i64 ax, .string ⟨r.toArray⟩, .string ⟨i.toArray⟩, .bool s, .slice A v.length c], (by rintro zv zw zx ⟨g_3, rfl, c0, q0⟩ hm; exact ⟨g_3, rfl, c0, (q0.modp hm)⟩), none, some 4⟩,
        ⟨fun zv zw => ∃ (g_4 : Nat) (n_4 : Nat) (c_4 : Nat), zv = .slice (some ⟨g_4, 0, none⟩) n_4 c_4 ∧ Decs zw (.slice (some ⟨g_4, 0, none⟩) n_4 c_4) (ds ++ [⟨((ds.length : Int) + 1), ax, r, i, s, A, c, v⟩]), (by rintro zv zw zx ⟨g_4, n_4, c_4, rfl, q0⟩ hm; exact ⟨g_4, n_4, c_4, rfl, (q0.pure hm)⟩), none, none⟩,
        ⟨fun zv zw => ∃ (g_5 : Nat) (n_5 : Nat) (c_5 : Nat), zv = .slice (some ⟨g_5, 0, none⟩) n_5 c_5 ∧ Decs zw (.slice (some ⟨g_5, 0, none⟩) n_5 c_5) (ds ++ [⟨((ds.length : Int) + 1), ax, r, i, s, A, c, v⟩]), (by rintro zv zw zx ⟨g_5, n_5, c_5, rfl, q0⟩ hm; exact ⟨g_5, n_5, c_5, rfl, (q0.pure hm)⟩), none, none⟩,
        .is ((.int .i64 0))]
        (PB w (fun _ => False) w7.heap.size (fun _ zq => (fun Z => Blk Z (g3 + 1) 40 #[.int .i64 ((ds.length : Int) + 1), .int .i64 ax, .string ⟨r.toArray⟩, .string ⟨i.toArray⟩, .bool s, .slice A v.length c] ∧ DecS Z ds ∧ DecS Z [⟨((ds.length : Int) + 1), ax, r, i, s, A, c, v⟩]) zq))) (InvF.start (PB.start HP7.out (Nat.le_refl _) (⟨HBD7.out.drew, HDS.out.pure (HP7.out.trans ((Mod.refl _ _).drew)), HVD.out.pure (HP7.out.trans ((Mod.refl _ _).drew))⟩))) ?_ ?_
    · refine .cons ?_ (.cons ?_ (.cons ?_ (.cons ?_ (.cons ?_ (.cons ?_ (.cons ?_ .nil))))))
      · intro D V zw1 a hR hI K hK
        obtain ⟨hM1, hB1, hG1⟩ := hI.1
        have ze1 := hR.frame.other (t := 1) (by kernel_rfl) rfl
        rw [if_pos (by rfl)]
        go_simp
        exact hK (.slice A3 ds.length c3) _ (hI.next hR (by kernel_rfl) (Mod.refl _ _) (PB.quiet hI.1 (Mod.refl _ _) (HGs.out D 0 zw1 zw1 (hI.1).g (Mod.refl _ _))) (upd_same V 0 _))
      · intro D V zw1 a hR hI K hK
        obtain ⟨hM1, hB1, hG1⟩ := hI.1
        have zd0 := hR.pred 0 (by kernel_rfl)
        have zF0 : V 0 = .slice A3 ds.length c3 := hI.2 0 zd0 rfl
        have zf0 := zF0; clear zF0
        have ze24 := hR.frame.done (t := 24) (j := 0) (by kernel_rfl) hR.ok zd0
        rw [if_pos (by rfl)]
        go_simp
        refine (HC1.out zw1 hM1).mono ?_
        rintro e zw2 ⟨A_0, c_0, rfl, hdc, hm2⟩
        exact hK (.slice A_0 ds.length c_0) _ (hI.next hR (by kernel_rfl) hm2 (PB.quiet hI.1 hm2 (HGs.out D 1 _ _ (hI.1).g hm2)) (⟨A_0, c_0, upd_same V 1 _, (own_baseK hdc hB1)⟩))
      · intro D V zw1 a hR hI K hK
        obtain ⟨hM1, hB1, hG1⟩ := hI.1
        have ze5 := hR.frame.other (t := 5) (by kernel_rfl) rfl
        have zx0 := hG1.1.cell 0
        simp at zx0
        have zx1 := hG1.1.cell 1
        simp at zx1
        have zx2 := hG1.1.cell 2
        simp at zx2
        have zx3 := hG1.1.cell 3
        simp at zx3
        have zx4 := hG1.1.cell 4
        simp at zx4
        have zx5 := hG1.1.cell 5
        simp at zx5
        rw [if_pos (by rfl)]
        go_simp
        exact hK (.agg #[.int .i64 ((ds.length : Int) + 1), .int .i64 ax, .string ⟨r.toArray⟩, .string ⟨i.toArray⟩, .bool s, .slice A v.length c]) _ (hI.next hR (by kernel_rfl) (Mod.refl _ _) (PB.quiet hI.1 (Mod.refl _ _) (HGs.out D 2 zw1 zw1 (hI.1).g (Mod.refl _ _))) (upd_same V 2 _))
      · intro D V zw1 a hR hI K hK
        obtain ⟨hM1, hB1, hG1⟩ := hI.1
        have zd2 := hR.pred 2 (by kernel_rfl)
        have zF2 : V 2 = .agg #[.int .i64 ((ds.length : Int) + 1), .int .i64 ax, .string ⟨r.toArray⟩, .string ⟨i.toArray⟩, .bool s, .slice A v.length c] := hI.2 2 zd2 rfl
        have zf2 := zF2; clear zF2
        have ze26 := hR.frame.done (t := 26) (j := 2) (by kernel_rfl) hR.ok zd2
        rw [if_pos (by rfl)]
        go_simp
        exact hK (_) _ (hI.next hR (by kernel_rfl) ((Mod.refl _ _).alloc _) (PB.quiet hI.1 (pure_alloc _ _) (HGs.out D 3 _ _ (hI.1).g ((Mod.refl _ _).alloc _))) (⟨_, upd_same V 3 _, (by omega), (Blk.new _ _ _)⟩))
      · intro D V zw1 a hR hI K hK
        obtain ⟨hM1, hB1, hG1⟩ := hI.1
        have zd1 := hR.pred 1 (by kernel_rfl)
        have zF1 : ∃ (A_1 : Option Addr) (c_1 : Nat), V 1 = .slice A_1 ds.length c_1 ∧ OwD zw1 w7.heap.size (.slice A_1 ds.length c_1) ds := hI.2 1 zd1 (by show (!D 4) = true; rw [hR.not]; rfl)
        obtain ⟨A_1, c_1, zf1, b1_0⟩ := zF1
        have zd3 := hR.pred 3 (by kernel_rfl)
        have zF3 : ∃ (g_3 : Nat), V 3 = .slice (some ⟨g_3, 0, none⟩) 1 1 ∧ w7.heap.size ≤ g_3 ∧ Blk zw1 g_3 40 #[.int .i64 ((ds.length : Int) + 1), .int .i64 ax, .string ⟨r.toArray⟩, .string ⟨i.toArray⟩, .bool s, .slice A v.length c] := hI.2 3 zd3 (by show (!D 4) = true; rw [hR.not]; rfl)
        obtain ⟨g_3, zf3, c3_0, b3_0⟩ := zF3
        have ze25 := hR.frame.done (t := 25) (j := 1) (by kernel_rfl) hR.ok zd1
        have ze27 := hR.frame.done (t := 27) (j := 3) (by kernel_rfl) hR.ok zd3
        rw [if_pos (by rfl)]
        have hown := b1_0
        refine wp_append_lies _ (.tmp 25) (.tmp 27) 31 (by rfl) w7.heap.size 40 i0 _ 6 80 Tryz.underlying31 hi0 hz0 hz1 hz2 (by rfl) (by omega) (.slice A_1 ds.length c_1) (ds.length) (decV ds) ?_ hown ⟨g_3, 0, none⟩ 1 1 [.int .i64 ((ds.length : Int) + 1), .int .i64 ax, .string ⟨r.toArray⟩, .string ⟨i.toArray⟩, .bool s, .slice A v.length c] ?_ (by rfl) (World.news_of_block (cs := #[.int .i64 ((ds.length : Int) + 1), .int .i64 ax, .string ⟨r.toArray⟩, .string ⟨i.toArray⟩, .bool s, .slice A v.length c]) (t := 40) (fr := (0, 0)) b3_0) (by simp [Value.oneCell']) (by omega) (by simp [maxLen]; omega) (by omega) (by omega) zw1.heap.size rfl ?_
        · show a.tmps.getD 25 undef = _; simp [ze25, zf1]
        · show a.tmps.getD 27 undef = _; simp [ze27, zf3]
        intro g5 cap5 zw2 hown5 hgrow hat hlt5
        have hT := mod_grown hgrow
        have hTb : ∀ j, (.slice A_1 ds.length c_1 : Value).ownBlock = some j → w7.heap.size ≤ j := own_block hown
        refine hK _ _ (InvF.last (PB.writes hI.1 (fun j hj hl => by have := hTb j hj; omega) hT ((have hty1 : ∀ i arr fr, zw1.heap[i]? = some (.cells arr 105 fr) → ¬ (Value.slice A_1 ds.length c_1).ownBlock = some i := fun i arr fr hi hv => absurd (own_ty hown hv hi) (by decide); have hty2 : ∀ i arr fr, zw1.heap[i]? = some (.cells arr 9 fr) → ¬ (Value.slice A_1 ds.length c_1).ownBlock = some i := fun i arr fr hi hv => absurd (own_ty hown hv hi) (by decide); ⟨hG1.1.mod hT (fun h => by have := hTb _ h; omega), hG1.2.1.mod hT hty1 hty2, hG1.2.2.mod hT hty1 hty2⟩))) ⟨_, _, _, upd_same V 4 _, OwD.app b1_0 hG1.2.1 hG1.2.2 hT rfl hown5⟩ ?_)
        intro k hk hDk hlv
        have hkl := hR.lt k hDk
        have hv := hI.2 k hDk (liveB_of hlv)
        match k, hk, hDk, hlv, hkl, hv with
        | 0, _, _, _, _, hv => exact hv
        | 1, _, _, hlv, _, _ => exact absurd hlv (by show ¬ (!upd D 4 true 4) = true; rw [upd_same]; decide)
        | 2, _, _, _, _, hv => exact hv
        | 3, _, _, hlv, _, _ => exact absurd hlv (by show ¬ (!upd D 4 true 4) = true; rw [upd_same]; decide)
        | 4, hk, _, _, _, _ => exact absurd rfl hk
        | 5, _, hDk, _, _, _ => exact absurd hDk (by rw [hR.later 5 rfl (by kernel_rfl)]; decide)
        | 6, _, _, _, _, hv => exact hv
        | k + 7, _, _, _, hkl, _ => exact absurd hkl (by simp)
      · intro D V zw1 a hR hI K hK
        obtain ⟨hM1, hB1, hG1⟩ := hI.1
        have zd4 := hR.pred 4 (by kernel_rfl)
        have zF4 : ∃ (g_4 : Nat) (n_4 : Nat) (c_4 : Nat), V 4 = .slice (some ⟨g_4, 0, none⟩) n_4 c_4 ∧ Decs zw1 (.slice (some ⟨g_4, 0, none⟩) n_4 c_4) (ds ++ [⟨((ds.length : Int) + 1), ax, r, i, s, A, c, v⟩]) := hI.2 4 zd4 rfl
        obtain ⟨g_4, n_4, c_4, zf4, b4_0⟩ := zF4
        have ze28 := hR.frame.done (t := 28) (j := 4) (by kernel_rfl) hR.ok zd4
        rw [if_pos (by rfl)]
        go_simp
        exact hK (.slice (some ⟨g_4, 0, none⟩) n_4 c_4) _ (hI.next hR (by kernel_rfl) (Mod.refl _ _) (PB.quiet hI.1 (Mod.refl _ _) (HGs.out D 5 zw1 zw1 (hI.1).g (Mod.refl _ _))) (⟨g_4, n_4, c_4, upd_same V 5 _, b4_0⟩))
      · intro D V zw1 a hR hI K hK
        obtain ⟨hM1, hB1, hG1⟩ := hI.1
        rw [if_pos (by rfl)]
        go_simp
        exact hK ((.int .i64 0)) _ (hI.next hR (by kernel_rfl) (Mod.refl _ _) (PB.quiet hI.1 (Mod.refl _ _) (HGs.out D 6 zw1 zw1 (hI.1).g (Mod.refl _ _))) (upd_same V 6 _))
    · intro D V w8 hD hI
      obtain ⟨hM1, hB1, hG1⟩ := hI.1
      have hMx := hM1
      clear hM1
      have hBx := hB1
      clear hB1
      have hGx := hG1
      clear hG1
      have zF0 : V 0 = .slice A3 ds.length c3 := hI.2 0 (hD 0 (by decide)) rfl
      have zf0 := zF0; clear zF0
      have zF2 : V 2 = .agg #[.int .i64 ((ds.length : Int) + 1), .int .i64 ax, .string ⟨r.toArray⟩, .string ⟨i.toArray⟩, .bool s, .slice A v.length c] := hI.2 2 (hD 2 (by decide)) rfl
      have zf2 := zF2; clear zF2
      have zF4 : ∃ (g_4 : Nat) (n_4 : Nat) (c_4 : Nat), V 4 = .slice (some ⟨g_4, 0, none⟩) n_4 c_4 ∧ Decs w8 (.slice (some ⟨g_4, 0, none⟩) n_4 c_4) (ds ++ [⟨((ds.length : Int) + 1), ax, r, i, s, A, c, v⟩]) := hI.2 4 (hD 4 (by decide)) rfl
      obtain ⟨g_4, n_4, c_4, zf4, b4_0⟩ := zF4
      have zF5 : ∃ (g_5 : Nat) (n_5 : Nat) (c_5 : Nat), V 5 = .slice (some ⟨g_5, 0, none⟩) n_5 c_5 ∧ Decs w8 (.slice (some ⟨g_5, 0, none⟩) n_5 c_5) (ds ++ [⟨((ds.length : Int) + 1), ax, r, i, s, A, c, v⟩]) := hI.2 5 (hD 5 (by decide)) rfl
      obtain ⟨g_5, n_5, c_5, zf5, b5_0⟩ := zF5
      have zF6 : V 6 = (.int .i64 0) := hI.2 6 (hD 6 (by decide)) rfl
      have zf6 := zF6; clear zF6
      clear hI hD HGs
      simp only [frAll, Act.put, List.setIfInBounds_toArray, List.set_cons_zero, List.set_cons_succ, Nat.zero_add, Nat.reduceAdd, zf0, zf2, zf4, zf5, zf6]
      clear zf0 zf2 zf4 zf5 zf6
      generalize V 1 = u1
      generalize V 3 = u3
      clear V D
      go_wp2_with fail
      refine bodyPost_ret (v := .tuple #[.slice (some ⟨g_5, 0, none⟩) n_5 c_5, .int .i64 0]) (by simp [results, Tryz.results18, go_sem]) rfl ?_
      exact ⟨_, _, _, _, rfl, fun h => absurd rfl h, b5_0, by rw [didD, if_pos rfl]; rfl, hMx⟩
  · have h1' : (qe != 0) = true := by simpa using h1
    go_wp2_with fail
    refine bodyPost_ret (v := .tuple #[.slice none 0 0, .int .i64 qe]) (by simp [results, Tryz.results18, go_sem]) rfl ?_
    exact DidPost.err rfl h1 HP7.out

end Go.Proofs.YtkkndblcejmmjaaGreatDoor

/- The generator of decisions. -/
namespace Go.Proofs.YtkkndblcejmmjaaGreatDoor
set_option linter.unusedVariables false
set_option linter.unusedSimpArgs false
open Go.RowKit

/-- A slice with something in it does not lie in block b. -/
def NbS (b : Nat) (v : Value) : Prop := ∀ g off n c, v = .slice (some ⟨g, off, none⟩) n c → 0 < n → g ≠ b
theorem Sl.nb {w : World} {e : TypeId} {size b N : Nat} {v : Value} {xs : List Value} (h : Sl w e size v xs) (hS : Strm w b N) (he : e ≠ 25) : NbS b v := by
  obtain ⟨A, n, c, rfl, _, _, _, h4⟩ := h
  rintro g off n' c' hv hn
  injection hv with h1 h2 h3
  subst h2
  obtain ⟨g2, o2, h5, hr⟩ := h4 hn
  rw [h1] at h5
  injection h5 with h5
  injection h5 with h6
  subst h6
  obtain ⟨_, _, _, _, hBs, _⟩ := hS
  exact hr.ne hBs he
theorem Sl.modNb {w w' : World} {e : TypeId} {size b : Nat} {v : Value} {xs : List Value} (h : Sl w e size v xs) (hn : NbS b v) (hm : Mod (· = b) w w') : Sl w' e size v xs := by
  obtain ⟨A, n, c, rfl, h1, h2, h3, h4⟩ := h
  refine ⟨A, n, c, rfl, h1, h2, h3, fun h0 => ?_⟩
  obtain ⟨g, off, rfl, hr⟩ := h4 h0
  exact ⟨g, off, rfl, hr.mod hm (hn g off n c rfl h0)⟩
/-- Values that do not lie in block b. -/
def VlsB (w : World) (b : Nat) (v : Value) (cs : List ChoR) : Prop := Vals w v cs ∧ NbS b v ∧ ∀ x ∈ cs, NbS b (.slice x.A x.ch.length x.c)
section
variable {w w' : World} {b N g q : Nat} {v u : Value} {cs : List ChoR} {cells : Array Value}
theorem VlsB.of (h : Vals w v cs) (hS : Strm w b N) : VlsB w b v cs := ⟨h, h.1.nb hS (by decide), fun x hx => (h.2 x hx).nb hS (by decide)⟩
theorem VlsB.ask (h : VlsB w b v cs) (hm : Mod (· = b) w w') : VlsB w' b v cs := ⟨⟨h.1.1.modNb h.2.1 hm, fun x hx => (h.1.2 x hx).modNb (h.2.2 x hx) hm⟩, h.2⟩
theorem VlsB.pure (h : VlsB w b v cs) (hm : Pure w w') : VlsB w' b v cs := ⟨h.1.pure hm, h.2⟩
theorem VlsB.set (h : VlsB w b v cs) (hB : Blk w g 40 cells) (q : Nat) (u : Value) : VlsB (w.setCell ⟨g, q, none⟩ u) b v cs := by
  have hms : Mod (· = g) w (w.setCell ⟨g, q, none⟩ u) := Mod.setCell (S := (· = g)) (p := ⟨g, q, none⟩) (Mod.refl _ _) (.inl rfl) _
  exact ⟨h.1.mod hms (fun i arr fr hi => blk_ty hB hi (by decide)) (fun i arr fr hi => blk_ty hB hi (by decide)), h.2⟩
end
/-- The decisions under way. -/
def DcG (w : World) (base : Nat) (A : Option Addr) (c : Nat) (ds : List DecR) : Prop := w.ownsRow base 40 6 (.slice A ds.length c) ds.length (decV ds) ∧ DecS w ds
theorem DcG.ask {w w' : World} {base b N c : Nat} {A : Option Addr} {ds : List DecR} (h : DcG w base A c ds) (hS : Strm w b N) (hm : Mod (· = b) w w') (hb : b < base) : DcG w' base A c ds :=
  ⟨own_mod h.1 hm (fun i hi => by have := own_block h.1 i hi; omega), fun x hx => (h.2 x hx).strm hS hm⟩
theorem DcG.pure {w w' : World} {base c : Nat} {A : Option Addr} {ds : List DecR} (h : DcG w base A c ds) (hm : Pure w w') : DcG w' base A c ds := ⟨own_pure h.1 hm, h.2.pure hm⟩
theorem DcG.app {w w' : World} {base n' c c5 : Nat} {A A5 : Option Addr} {ds : List DecR} {x : DecR} (h : DcG w base A c ds) (h2 : Vals w (.slice x.A x.vals.length x.c) x.vals) (hm : Mod (fun j => (Value.slice A ds.length c).ownBlock = some j) w w') (hn : n' = ds.length + 1)
    (hown : w'.ownsRow base 40 6 (.slice A5 n' c5) n' (decV ds ++ decC x)) : DcG w' base A5 c5 (ds ++ [x]) := by
  have hty1 : ∀ i arr fr, w.heap[i]? = some (.cells arr 105 fr) → ¬ (Value.slice A ds.length c).ownBlock = some i := fun i arr fr hi hv => absurd (own_ty h.1 hv hi) (by decide)
  have hty2 : ∀ i arr fr, w.heap[i]? = some (.cells arr 9 fr) → ¬ (Value.slice A ds.length c).ownBlock = some i := fun i arr fr hi hv => absurd (own_ty h.1 hv hi) (by decide)
  subst hn
  exact ⟨by simpa [decV_snoc] using hown, DecS.snoc (h.2.mod hm hty1 hty2) (h2.mod hm hty1 hty2)⟩
def DgPost (w : World) (b N many : Nat) (e : Ending) (w' : World) : Prop :=
  ∃ (base c : Nat) (A : Option Addr) (ds : List DecR), e = .returned (.slice A ds.length c) ∧ b < base ∧ w.heap.size ≤ base ∧ DcG w' base A c ds ∧ ds.length ≤ many ∧ (∀ x ∈ ds, DecB x) ∧ Strm w' b (N + 500 * many) ∧ Mod (· = b) w w'
def DgRel (w : World) (b N base g1 many : Nat) (lay : Array Value) (gk : Nat) (x i : Value) (wr : World) : Prop :=
  ∃ (k cap : Nat) (Ao : Option Addr) (ds : List DecR), many - k = gk ∧ k ≤ many ∧ x = .slice Ao ds.length cap ∧ i = .int .i64 (k : Int) ∧ ds.length ≤ k ∧ (∀ y ∈ ds, DecB y) ∧ DcG wr base Ao cap ds ∧ Blk wr g1 29 lay ∧ Strm wr b (N + 500 * k) ∧ Mod (· = b) w wr ∧ base ≤ wr.heap.size
/-- A decision in its box. -/
def DgBox (w : World) (b g8 : Nat) (x : DecR) : Prop := Blk w g8 40 (decC x).toArray ∧ VlsB w b (.slice x.A x.vals.length x.c) x.vals
section
variable {w w' : World} {b g8 : Nat} {x : DecR}
theorem DgBox.ask (h : DgBox w b g8 x) (hm : Mod (· = b) w w') (hg : g8 ≠ b) : DgBox w' b g8 x := ⟨h.1.mod hm hg, h.2.ask hm⟩
theorem DgBox.pure (h : DgBox w b g8 x) (hm : Pure w w') : DgBox w' b g8 x := ⟨h.1.modp hm, h.2.pure hm⟩
theorem DgBox.set0 (h : DgBox w b g8 x) (k : Int) : DgBox (w.setCell ⟨g8, 0, none⟩ (.int .i64 k)) b g8 { x with no := k } := ⟨by simpa [decC] using h.1.set 0 (.int .i64 k), h.2.set h.1 0 _⟩
theorem DgBox.set1 (h : DgBox w b g8 x) (k : Int) : DgBox (w.setCell ⟨g8, 1, none⟩ (.int .i64 k)) b g8 { x with at_ := k } := ⟨by simpa [decC] using h.1.set 1 (.int .i64 k), h.2.set h.1 1 _⟩
theorem DgBox.set2 (h : DgBox w b g8 x) (s : Str) : DgBox (w.setCell ⟨g8, 2, none⟩ (.string ⟨s.toArray⟩)) b g8 { x with rev := s } := ⟨by simpa [decC] using h.1.set 2 (.string ⟨s.toArray⟩), h.2.set h.1 2 _⟩
theorem DgBox.set3 (h : DgBox w b g8 x) (s : Str) : DgBox (w.setCell ⟨g8, 3, none⟩ (.string ⟨s.toArray⟩)) b g8 { x with item := s } := ⟨by simpa [decC] using h.1.set 3 (.string ⟨s.toArray⟩), h.2.set h.1 3 _⟩
/-- Any such box is there, its cells are known. -/
theorem DgBox.cells (h : DgBox w b g8 x) : (w.cell? ⟨g8, 0, none⟩ = some (.int .i64 x.no) ∧ w.cell? ⟨g8, 1, none⟩ = some (.int .i64 x.at_) ∧ w.cell? ⟨g8, 2, none⟩ = some (.string ⟨x.rev.toArray⟩) ∧ w.cell? ⟨g8, 3, none⟩ = some (.string ⟨x.item.toArray⟩) ∧ w.cell? ⟨g8, 4, none⟩ = some (.bool x.sec) ∧ w.cell? ⟨g8, 5, none⟩ = some (.slice x.A x.vals.length x.c)) ∧ ∀ q, w.frozen? ⟨g8, q, none⟩ = false :=
  ⟨⟨h.1.cell 0, h.1.cell 1, h.1.cell 2, h.1.cell 3, h.1.cell 4, h.1.cell 5⟩, fun q => h.1.frozen q⟩
end

set_option maxRecDepth 100000 in
set_option maxHeartbeats 16000000 in
theorem decisions_calls (w : World) (b N : Nat) (vl : Value) (L : LayR) (many : Nat) (hS : Strm w b N) (hN : N ≤ 100000000) (hmy : many ≤ 20) (hL : LayV w L vl) (hla : L.asks.length ≤ 3) (hLB : LayB L) : Calls Tryz.prog 9 #[.pointer (some ⟨b, 0, none⟩), vl, .int .i64 (many : Int)] w (DgPost w b N many) := by
  have hbl := hS.lt
  have HLS : Hid (∀ W, Mod (· = b) w W → LayV W L vl) := Lib.hid (fun W h => hL.strm hS h)
  have HLB := Lib.hid hLB
  obtain ⟨A, n, c, A2, n2, c2, rfl, hA, hR⟩ := hL
  have HB0 := Lib.hid (Blk.new w 29 #[.slice A n c, .slice A2 n2 c2])
  have HS0 := Lib.hid (hS.alloc (.cells #[.slice A n c, .slice A2 n2 c2] 29))
  have HM0 : Hid (Mod (· = b) w (w.alloc (.cells #[.slice A n c, .slice A2 n2 c2] 29))) := Lib.hid ((Mod.refl _ _).alloc _)
  clear hA hR hS hLB
  go_enter Tryz.func9, Tryz.ntmps9
  go_upto_region 1 with (fail)
  have hz1 : (w.alloc (.cells #[.slice A n c, .slice A2 n2 c2] 29)).heap.size = w.heap.size + 1 := by simp
  generalize (w.alloc (.cells #[.slice A n c, .slice A2 n2 c2] 29)) = w1 at *
  generalize hg1 : w.heap.size = g1 at *
  have hwg1 := Nat.le_of_eq hg1
  have hwg2 := Nat.le_of_eq hg1.symm
  clear hg1
  obtain ⟨base, hbase⟩ : ∃ base, base = w1.heap.size := ⟨_, rfl⟩
  have hs1 := Nat.le_of_eq hbase
  have hs2 := Nat.le_of_eq hbase.symm
  have hbb : b < base := by omega
  have hwb0 : w.heap.size ≤ base := by omega
  clear hbase hz1
  go_wp2_with fail
  go_loopg [7, 10] many (fun gk x i wr => DgRel w b N base g1 many #[.slice A n c, .slice A2 n2 c2] gk x i wr)
  case atStart => exact ⟨0, 0, none, [], by omega, by omega, rfl, rfl, by simp, fun y h => absurd h (by simp), ⟨World.ownsRow_nil _ _ _ _, fun x h => absurd h (by simp)⟩, HB0.out, HS0.out, HM0.out, by omega⟩
  case round =>
    clear HB0 HS0 HM0
    obtain ⟨k, cap, Ao, ds, rfl, hk, rfl, rfl, hdk, hdz, hO, hB, hS, hm, hbw⟩ := hrel
    have HO := Lib.hid hO
    have HB := Lib.hid hB
    have HM := Lib.hid hm
    have HDZ := Lib.hid hdz
    have HLT : Hid (∀ i, (Value.slice Ao ds.length cap).ownBlock = some i → i < wr.heap.size) := Lib.hid (fun i hi => (hO.1.lt i hi).2)
    by_cases hlt : k < many
    · have hg1w := hB.lt
      clear hO hB hdz
      have hblw := hS.lt
      have hSx0 := hS
      clear hm
      go_upto_region 4 with (fail)
      have hwr : IntKind.i64.wrap ((ds.length : Int) + 1) = (ds.length : Int) + 1 := by simp [IntKind.wrap, IntKind.bits, IntKind.signed]; omega
      have HGs := Lib.hid (show ∀ (D : Nat → Bool) (zzi : Nat) (zq zq' : World), (fun _ zq => (fun Z => Blk Z g1 29 #[.slice A n c, .slice A2 n2 c2]) zq) D zq → Mod (· = b) zq zq' → (fun _ zq => (fun Z => Blk Z g1 29 #[.slice A n c, .slice A2 n2 c2]) zq) (upd D zzi true) zq' from by intro D zzi zq zq' h hm; (exact h.modb hm (by omega)))
      refine wp_region_inv (by kernel_rfl) (by kernel_rfl) (InvF (R := Mod (· = b)) [.is (.slice Ao ds.length cap),
          .is (.int .i64 (ds.length : Int)),
          .is (.int .i64 ((ds.length : Int) + 1)),
          .is (.pointer (some ⟨b, 0, none⟩)),
          ⟨fun zv zw => ∃ (g_4 : Nat), zv = .slice (some ⟨g_4, 0, none⟩) 6 6 ∧ wr.heap.size ≤ g_4 ∧ Blk zw g_4 3 #[(.int .i64 5), (.int .i64 5), (.int .i64 10), (.int .i64 10), (.int .i64 20), (.int .i64 100)], (by rintro zv zw zx ⟨g_4, rfl, c0, q0⟩ hm; exact ⟨g_4, rfl, c0, (q0.modb hm (by omega))⟩), none, some 5⟩,
          .val (fun zv => ∃ (k_5 : Int), zv = .int .i64 k_5 ∧ 5 ≤ k_5 ∧ k_5 ≤ 100),
          .is (.pointer (some ⟨b, 0, none⟩)),
          ⟨fun zv zw => ∃ (g_7 : Nat), zv = .slice (some ⟨g_7, 0, none⟩) 3 3 ∧ wr.heap.size ≤ g_7 ∧ Blk zw g_7 9 #[(.string { data := #[97, 110, 110] }), (.string { data := #[98, 111, 98] }), (.string { data := #[99, 105, 100] })], (by rintro zv zw zx ⟨g_7, rfl, c0, q0⟩ hm; exact ⟨g_7, rfl, c0, (q0.modb hm (by omega))⟩), none, some 8⟩,
          .val (fun zv => ∃ (s_8 : Str), zv = .string ⟨s_8.toArray⟩ ∧ s_8.length ≤ 100),
          .is (.pointer (some ⟨b, 0, none⟩)),
          .val (fun zv => ∃ (k_10 : Int), zv = .int .i64 k_10 ∧ 0 ≤ k_10 ∧ k_10 < 4),
          .val (fun zv => ∃ (s_11 : Str), zv = .string ⟨s_11.toArray⟩ ∧ s_11.length ≤ 100),
          .is (.pointer (some ⟨b, 0, none⟩)),
          .val (fun zv => ∃ (k_13 : Bool), zv = .bool k_13),
          .is (.pointer (some ⟨b, 0, none⟩)),
          .is (.agg #[.slice A n c, .slice A2 n2 c2]),
          ⟨fun zv zw => ∃ (A_16 : Option Addr) (c_16 : Nat) (cs_16 : List ChoR), zv = .slice A_16 cs_16.length c_16 ∧ cs_16.length ≤ 10 ∧ (∀ x ∈ cs_16, ChoB x) ∧ VlsB zw b (.slice A_16 cs_16.length c_16) cs_16, (by rintro zv zw zx ⟨A_16, c_16, cs_16, rfl, c0, c1, q0⟩ hm; exact ⟨A_16, c_16, cs_16, rfl, c0, c1, (q0.ask hm)⟩), none, some 17⟩,
          ⟨fun zv zw => ∃ (k_17 : Int) (s_17 : Str) (sa_17 : Str) (ka_17 : Bool) (A_17 : Option Addr) (c_17 : Nat) (cs_17 : List ChoR), zv = .agg #[.int .i64 ((ds.length : Int) + 1), .int .i64 k_17, .string ⟨s_17.toArray⟩, .string ⟨sa_17.toArray⟩, .bool ka_17, .slice A_17 cs_17.length c_17] ∧ 5 ≤ k_17 ∧ k_17 ≤ 100 ∧ s_17.length ≤ 100 ∧ sa_17.length ≤ 100 ∧ cs_17.length ≤ 10 ∧ (∀ x ∈ cs_17, ChoB x) ∧ VlsB zw b (.slice A_17 cs_17.length c_17) cs_17, (by rintro zv zw zx ⟨k_17, s_17, sa_17, ka_17, A_17, c_17, cs_17, rfl, c0, c1, c2, c3, c4, c5, q0⟩ hm; exact ⟨k_17, s_17, sa_17, ka_17, A_17, c_17, cs_17, rfl, c0, c1, c2, c3, c4, c5, (q0.ask hm)⟩), none, some 19⟩,
          ⟨fun zv zw => ∃ (g_18 : Nat), zv = .pointer (some ⟨g_18, 0, none⟩) ∧ wr.heap.size ≤ g_18 ∧ Blk zw g_18 40 #[.int .i64 0, .int .i64 0, .string ⟨#[]⟩, .string ⟨#[]⟩, .bool false, .slice none 0 0], (by rintro zv zw zx ⟨g_18, rfl, c0, q0⟩ hm; exact ⟨g_18, rfl, c0, (q0.modb hm (by omega))⟩), none, some 19⟩,
          ⟨fun zv zw => ∃ (g_19 : Nat) (k_19 : Int) (s_19 : Str) (sa_19 : Str) (ka_19 : Bool) (A_19 : Option Addr) (c_19 : Nat) (cs_19 : List ChoR), zv = .pointer (some ⟨g_19, 0, none⟩) ∧ wr.heap.size ≤ g_19 ∧ 5 ≤ k_19 ∧ k_19 ≤ 100 ∧ s_19.length ≤ 100 ∧ sa_19.length ≤ 100 ∧ cs_19.length ≤ 10 ∧ (∀ x ∈ cs_19, ChoB x) ∧ Blk zw g_19 40 #[.int .i64 ((ds.length : Int) + 1), .int .i64 k_19, .string ⟨s_19.toArray⟩, .string ⟨sa_19.toArray⟩, .bool ka_19, .slice A_19 cs_19.length c_19] ∧ VlsB zw b (.slice A_19 cs_19.length c_19) cs_19, (by rintro zv zw zx ⟨g_19, k_19, s_19, sa_19, ka_19, A_19, c_19, cs_19, rfl, c0, c1, c2, c3, c4, c5, c6, q0, q1⟩ hm; exact ⟨g_19, k_19, s_19, sa_19, ka_19, A_19, c_19, cs_19, rfl, c0, c1, c2, c3, c4, c5, c6, (q0.modb hm (by omega)), (q1.ask hm)⟩), some 18, none⟩]
          (GB wr (· = b) wr.heap.size b ((N + 500 * k)) (fun D => (D 5).toNat + (D 8).toNat + (D 10).toNat + (D 13).toNat + 400 * (D 16).toNat) (fun _ zq => (fun Z => Blk Z g1 29 #[.slice A n c, .slice A2 n2 c2]) zq))) (InvF.start (GB.start hS (Mod.refl _ _) (Nat.le_refl _) (HB.out.drew))) ?_ ?_
      · refine .cons ?_ (.cons ?_ (.cons ?_ (.cons ?_ (.cons ?_ (.cons ?_ (.cons ?_ (.cons ?_ (.cons ?_ (.cons ?_ (.cons ?_ (.cons ?_ (.cons ?_ (.cons ?_ (.cons ?_ (.cons ?_ (.cons ?_ (.cons ?_ (.cons ?_ (.cons ?_ .nil)))))))))))))))))))
        · intro D V zw1 a hR hI K hK
          obtain ⟨hS1, hM1, hB1, hG1⟩ := hI.1
          have ze7 := hR.frame.other (t := 7) (by kernel_rfl) rfl
          rw [if_pos (by rfl)]
          go_simp
          exact hK (.slice Ao ds.length cap) _ (hI.next hR (by kernel_rfl) (Mod.refl _ _) (GB.quiet hI.1 (Mod.refl _ _) (by have hn := hR.not; simp [upd, hn] <;> omega) (HGs.out D 0 zw1 zw1 (hI.1).g (Mod.refl _ _))) (upd_same V 0 _))
        · intro D V zw1 a hR hI K hK
          obtain ⟨hS1, hM1, hB1, hG1⟩ := hI.1
          have zd0 := hR.pred 0 (by kernel_rfl)
          have zF0 : V 0 = .slice Ao ds.length cap := hI.2 0 zd0 rfl
          have zf0 := zF0; clear zF0
          have ze12 := hR.frame.done (t := 12) (j := 0) (by kernel_rfl) hR.ok zd0
          rw [if_pos (by rfl)]
          go_simp
          exact hK (.int .i64 (ds.length : Int)) _ (hI.next hR (by kernel_rfl) (Mod.refl _ _) (GB.quiet hI.1 (Mod.refl _ _) (by have hn := hR.not; simp [upd, hn] <;> omega) (HGs.out D 1 zw1 zw1 (hI.1).g (Mod.refl _ _))) (upd_same V 1 _))
        · intro D V zw1 a hR hI K hK
          obtain ⟨hS1, hM1, hB1, hG1⟩ := hI.1
          have zd1 := hR.pred 1 (by kernel_rfl)
          have zF1 : V 1 = .int .i64 (ds.length : Int) := hI.2 1 zd1 rfl
          have zf1 := zF1; clear zF1
          have ze13 := hR.frame.done (t := 13) (j := 1) (by kernel_rfl) hR.ok zd1
          rw [if_pos (by rfl)]
          go_simp
          exact hK (.int .i64 ((ds.length : Int) + 1)) _ (hI.next hR (by kernel_rfl) (Mod.refl _ _) (GB.quiet hI.1 (Mod.refl _ _) (by have hn := hR.not; simp [upd, hn] <;> omega) (HGs.out D 2 zw1 zw1 (hI.1).g (Mod.refl _ _))) (upd_same V 2 _))
        · intro D V zw1 a hR hI K hK
          obtain ⟨hS1, hM1, hB1, hG1⟩ := hI.1
          have ze0 := hR.frame.other (t := 0) (by kernel_rfl) rfl
          rw [if_pos (by rfl)]
          go_simp
          exact hK (.pointer (some ⟨b, 0, none⟩)) _ (hI.next hR (by kernel_rfl) (Mod.refl _ _) (GB.quiet hI.1 (Mod.refl _ _) (by have hn := hR.not; simp [upd, hn] <;> omega) (HGs.out D 3 zw1 zw1 (hI.1).g (Mod.refl _ _))) (upd_same V 3 _))
        · intro D V zw1 a hR hI K hK
          obtain ⟨hS1, hM1, hB1, hG1⟩ := hI.1
          rw [if_pos (by rfl)]
          go_simp
          exact hK (_) _ (hI.next hR (by kernel_rfl) ((Mod.refl _ _).alloc _) (GB.quiet hI.1 (pure_alloc _ _) (by have hn := hR.not; simp [upd, hn] <;> omega) (HGs.out D 4 _ _ (hI.1).g ((Mod.refl _ _).alloc _))) (⟨_, upd_same V 4 _, (by omega), (Blk.new _ _ _)⟩))
        · intro D V zw1 a hR hI K hK
          obtain ⟨hS1, hM1, hB1, hG1⟩ := hI.1
          have zd3 := hR.pred 3 (by kernel_rfl)
          have zF3 : V 3 = .pointer (some ⟨b, 0, none⟩) := hI.2 3 zd3 rfl
          have zf3 := zF3; clear zF3
          have zd4 := hR.pred 4 (by kernel_rfl)
          have zF4 : ∃ (g_4 : Nat), V 4 = .slice (some ⟨g_4, 0, none⟩) 6 6 ∧ wr.heap.size ≤ g_4 ∧ Blk zw1 g_4 3 #[(.int .i64 5), (.int .i64 5), (.int .i64 10), (.int .i64 10), (.int .i64 20), (.int .i64 100)] := hI.2 4 zd4 (by show (!D 5) = true; rw [hR.not]; rfl)
          obtain ⟨g_4, zf4, c4_0, b4_0⟩ := zF4
          have ze15 := hR.frame.done (t := 15) (j := 3) (by kernel_rfl) hR.ok zd3
          have ze16 := hR.frame.done (t := 16) (j := 4) (by kernel_rfl) hR.ok zd4
          rw [if_pos (by rfl)]
          have := Bool.toNat_le (D 5)
          have := Bool.toNat_le (D 8)
          have := Bool.toNat_le (D 10)
          have := Bool.toNat_le (D 13)
          have := Bool.toNat_le (D 16)
          have hNB : (N + 500 * k) + ((D 5).toNat + (D 8).toNat + (D 10).toNat + (D 13).toNat + 400 * (D 16).toNat) ≤ 1000000000 := by omega
          skip
          go_simp
          refine (pickv_calls _ _ _ _ 6 6 #[(.int .i64 5), (.int .i64 5), (.int .i64 10), (.int .i64 10), (.int .i64 20), (.int .i64 100)] hS1 b4_0 hNB (by omega) rfl (by omega) (by omega) rfl).mono ?_
          rintro e zw2 ⟨k_0, hk, rfl, hS2, hm2⟩
          have hk2 : 5 ≤ k_0 ∧ k_0 ≤ 100 := by simp [intsOf, Go.RowKit.intOf] at hk; omega
          exact hK (.int .i64 k_0) _ (hI.next hR (by kernel_rfl) hm2 (GB.asks hI.1 (fun _ h _ => h) hS2 hm2 (by have hn := hR.not; simp [upd, hn] <;> omega) (HGs.out D 5 _ _ (hI.1).g hm2)) (⟨k_0, upd_same V 5 _, hk2.1, hk2.2⟩))
        · intro D V zw1 a hR hI K hK
          obtain ⟨hS1, hM1, hB1, hG1⟩ := hI.1
          have ze0 := hR.frame.other (t := 0) (by kernel_rfl) rfl
          rw [if_pos (by rfl)]
          go_simp
          exact hK (.pointer (some ⟨b, 0, none⟩)) _ (hI.next hR (by kernel_rfl) (Mod.refl _ _) (GB.quiet hI.1 (Mod.refl _ _) (by have hn := hR.not; simp [upd, hn] <;> omega) (HGs.out D 6 zw1 zw1 (hI.1).g (Mod.refl _ _))) (upd_same V 6 _))
        · intro D V zw1 a hR hI K hK
          obtain ⟨hS1, hM1, hB1, hG1⟩ := hI.1
          rw [if_pos (by rfl)]
          go_simp
          exact hK (_) _ (hI.next hR (by kernel_rfl) ((Mod.refl _ _).alloc _) (GB.quiet hI.1 (pure_alloc _ _) (by have hn := hR.not; simp [upd, hn] <;> omega) (HGs.out D 7 _ _ (hI.1).g ((Mod.refl _ _).alloc _))) (⟨_, upd_same V 7 _, (by omega), (Blk.new _ _ _)⟩))
        · intro D V zw1 a hR hI K hK
          obtain ⟨hS1, hM1, hB1, hG1⟩ := hI.1
          have zd6 := hR.pred 6 (by kernel_rfl)
          have zF6 : V 6 = .pointer (some ⟨b, 0, none⟩) := hI.2 6 zd6 rfl
          have zf6 := zF6; clear zF6
          have zd7 := hR.pred 7 (by kernel_rfl)
          have zF7 : ∃ (g_7 : Nat), V 7 = .slice (some ⟨g_7, 0, none⟩) 3 3 ∧ wr.heap.size ≤ g_7 ∧ Blk zw1 g_7 9 #[(.string { data := #[97, 110, 110] }), (.string { data := #[98, 111, 98] }), (.string { data := #[99, 105, 100] })] := hI.2 7 zd7 (by show (!D 8) = true; rw [hR.not]; rfl)
          obtain ⟨g_7, zf7, c7_0, b7_0⟩ := zF7
          have ze18 := hR.frame.done (t := 18) (j := 6) (by kernel_rfl) hR.ok zd6
          have ze19 := hR.frame.done (t := 19) (j := 7) (by kernel_rfl) hR.ok zd7
          rw [if_pos (by rfl)]
          have := Bool.toNat_le (D 5)
          have := Bool.toNat_le (D 8)
          have := Bool.toNat_le (D 10)
          have := Bool.toNat_le (D 13)
          have := Bool.toNat_le (D 16)
          have hNB : (N + 500 * k) + ((D 5).toNat + (D 8).toNat + (D 10).toNat + (D 13).toNat + 400 * (D 16).toNat) ≤ 1000000000 := by omega
          skip
          go_simp
          refine (somec_calls _ b _ _ _ _ [[97, 110, 110], [98, 111, 98], [99, 105, 100]] 100 rfl (by decide) hS1 hNB b7_0 (by omega) (by decide) (by decide)).mono ?_
          rintro e zw2 ⟨s_0, hs, rfl, hS2, hm2⟩
          exact hK (.string ⟨s_0.toArray⟩) _ (hI.next hR (by kernel_rfl) hm2 (GB.asks hI.1 (fun _ h _ => h) hS2 hm2 (by have hn := hR.not; simp [upd, hn] <;> omega) (HGs.out D 8 _ _ (hI.1).g hm2)) (⟨s_0, upd_same V 8 _, hs⟩))
        · intro D V zw1 a hR hI K hK
          obtain ⟨hS1, hM1, hB1, hG1⟩ := hI.1
          have ze0 := hR.frame.other (t := 0) (by kernel_rfl) rfl
          rw [if_pos (by rfl)]
          go_simp
          exact hK (.pointer (some ⟨b, 0, none⟩)) _ (hI.next hR (by kernel_rfl) (Mod.refl _ _) (GB.quiet hI.1 (Mod.refl _ _) (by have hn := hR.not; simp [upd, hn] <;> omega) (HGs.out D 9 zw1 zw1 (hI.1).g (Mod.refl _ _))) (upd_same V 9 _))
        · intro D V zw1 a hR hI K hK
          obtain ⟨hS1, hM1, hB1, hG1⟩ := hI.1
          have zd9 := hR.pred 9 (by kernel_rfl)
          have zF9 : V 9 = .pointer (some ⟨b, 0, none⟩) := hI.2 9 zd9 rfl
          have zf9 := zF9; clear zF9
          have ze21 := hR.frame.done (t := 21) (j := 9) (by kernel_rfl) hR.ok zd9
          rw [if_pos (by rfl)]
          have := Bool.toNat_le (D 5)
          have := Bool.toNat_le (D 8)
          have := Bool.toNat_le (D 10)
          have := Bool.toNat_le (D 13)
          have := Bool.toNat_le (D 16)
          have hNB : (N + 500 * k) + ((D 5).toNat + (D 8).toNat + (D 10).toNat + (D 13).toNat + 400 * (D 16).toNat) ≤ 1000000000 := by omega
          skip
          go_simp
          refine (next_calls _ _ _ _ hS1 hNB (by omega) (by omega)).mono ?_
          rintro e zw2 ⟨k_0, hk1, hk2, rfl, hS2, hm2⟩
          exact hK (.int .i64 k_0) _ (hI.next hR (by kernel_rfl) hm2 (GB.asks hI.1 (fun _ h _ => h) hS2 hm2 (by have hn := hR.not; simp [upd, hn] <;> omega) (HGs.out D 10 _ _ (hI.1).g hm2)) (⟨k_0, upd_same V 10 _, hk1, hk2⟩))
        · intro D V zw1 a hR hI K hK
          obtain ⟨hS1, hM1, hB1, hG1⟩ := hI.1
          have zd10 := hR.pred 10 (by kernel_rfl)
          have zF10 : ∃ (k_10 : Int), V 10 = .int .i64 k_10 ∧ 0 ≤ k_10 ∧ k_10 < 4 := hI.2 10 zd10 rfl
          obtain ⟨k_10, zf10, c10_0, c10_1⟩ := zF10
          have ze22 := hR.frame.done (t := 22) (j := 10) (by kernel_rfl) hR.ok zd10
          rw [if_pos (by rfl)]
          have := Bool.toNat_le (D 5)
          have := Bool.toNat_le (D 8)
          have := Bool.toNat_le (D 10)
          have := Bool.toNat_le (D 13)
          have := Bool.toNat_le (D 16)
          have hNB : (N + 500 * k) + ((D 5).toNat + (D 8).toNat + (D 10).toNat + (D 13).toNat + 400 * (D 16).toNat) ≤ 1000000000 := by omega
          skip
          go_simp
          refine (itemIdS_calls _ _ c10_0 (by omega)).mono ?_
          rintro e zw2 ⟨s_0, hs, rfl, hm2⟩
          exact hK (.string ⟨s_0.toArray⟩) _ (hI.next hR (by kernel_rfl) (Mod.of_pure hm2) (GB.quiet hI.1 hm2 (by have hn := hR.not; simp [upd, hn] <;> omega) (HGs.out D 11 _ _ (hI.1).g (Mod.of_pure hm2))) (⟨s_0, upd_same V 11 _, hs⟩))
        · intro D V zw1 a hR hI K hK
          obtain ⟨hS1, hM1, hB1, hG1⟩ := hI.1
          have ze0 := hR.frame.other (t := 0) (by kernel_rfl) rfl
          rw [if_pos (by rfl)]
          go_simp
          exact hK (.pointer (some ⟨b, 0, none⟩)) _ (hI.next hR (by kernel_rfl) (Mod.refl _ _) (GB.quiet hI.1 (Mod.refl _ _) (by have hn := hR.not; simp [upd, hn] <;> omega) (HGs.out D 12 zw1 zw1 (hI.1).g (Mod.refl _ _))) (upd_same V 12 _))
        · intro D V zw1 a hR hI K hK
          obtain ⟨hS1, hM1, hB1, hG1⟩ := hI.1
          have zd12 := hR.pred 12 (by kernel_rfl)
          have zF12 : V 12 = .pointer (some ⟨b, 0, none⟩) := hI.2 12 zd12 rfl
          have zf12 := zF12; clear zF12
          have ze24 := hR.frame.done (t := 24) (j := 12) (by kernel_rfl) hR.ok zd12
          rw [if_pos (by rfl)]
          have := Bool.toNat_le (D 5)
          have := Bool.toNat_le (D 8)
          have := Bool.toNat_le (D 10)
          have := Bool.toNat_le (D 13)
          have := Bool.toNat_le (D 16)
          have hNB : (N + 500 * k) + ((D 5).toNat + (D 8).toNat + (D 10).toNat + (D 13).toNat + 400 * (D 16).toNat) ≤ 1000000000 := by omega
          skip
          go_simp
          refine (flip_calls _ _ _ _ hS1 hNB (by omega) (by omega)).mono ?_
          rintro e zw2 ⟨k_0, rfl, hS2, hm2⟩
          exact hK (.bool k_0) _ (hI.next hR (by kernel_rfl) hm2 (GB.asks hI.1 (fun _ h _ => h) hS2 hm2 (by have hn := hR.not; simp [upd, hn] <;> omega) (HGs.out D 13 _ _ (hI.1).g hm2)) (⟨k_0, upd_same V 13 _⟩))
        · intro D V zw1 a hR hI K hK
          obtain ⟨hS1, hM1, hB1, hG1⟩ := hI.1
          have ze0 := hR.frame.other (t := 0) (by kernel_rfl) rfl
          rw [if_pos (by rfl)]
          go_simp
          exact hK (.pointer (some ⟨b, 0, none⟩)) _ (hI.next hR (by kernel_rfl) (Mod.refl _ _) (GB.quiet hI.1 (Mod.refl _ _) (by have hn := hR.not; simp [upd, hn] <;> omega) (HGs.out D 14 zw1 zw1 (hI.1).g (Mod.refl _ _))) (upd_same V 14 _))
        · intro D V zw1 a hR hI K hK
          obtain ⟨hS1, hM1, hB1, hG1⟩ := hI.1
          have ze4 := hR.frame.other (t := 4) (by kernel_rfl) rfl
          have zx0 := hG1.cell 0
          have zx1 := hG1.cell 1
          simp at zx0 zx1
          rw [if_pos (by rfl)]
          go_simp
          exact hK (.agg #[.slice A n c, .slice A2 n2 c2]) _ (hI.next hR (by kernel_rfl) (Mod.refl _ _) (GB.quiet hI.1 (Mod.refl _ _) (by have hn := hR.not; simp [upd, hn] <;> omega) (HGs.out D 15 zw1 zw1 (hI.1).g (Mod.refl _ _))) (upd_same V 15 _))
        · intro D V zw1 a hR hI K hK
          obtain ⟨hS1, hM1, hB1, hG1⟩ := hI.1
          have zd14 := hR.pred 14 (by kernel_rfl)
          have zF14 : V 14 = .pointer (some ⟨b, 0, none⟩) := hI.2 14 zd14 rfl
          have zf14 := zF14; clear zF14
          have zd15 := hR.pred 15 (by kernel_rfl)
          have zF15 : V 15 = .agg #[.slice A n c, .slice A2 n2 c2] := hI.2 15 zd15 rfl
          have zf15 := zF15; clear zF15
          have ze26 := hR.frame.done (t := 26) (j := 14) (by kernel_rfl) hR.ok zd14
          have ze27 := hR.frame.done (t := 27) (j := 15) (by kernel_rfl) hR.ok zd15
          rw [if_pos (by rfl)]
          have := Bool.toNat_le (D 5)
          have := Bool.toNat_le (D 8)
          have := Bool.toNat_le (D 10)
          have := Bool.toNat_le (D 13)
          have := Bool.toNat_le (D 16)
          have hNB : (N + 500 * k) + ((D 5).toNat + (D 8).toNat + (D 10).toNat + (D 13).toNat + 400 * (D 16).toNat) ≤ 1000000000 := by omega
          skip
          go_simp
          refine (values_calls _ b _ _ L hS1 (by omega) (HLS.out _ (HM.out.trans hM1)) hla HLB.out.2.2.1).mono ?_
          rintro e zw2 ⟨A_0, n2, c_0, cs_0, rfl, hV, hcl, hcz, hS2, hm2⟩
          have hvn := hV.len
          subst hvn
          exact hK (.slice A_0 cs_0.length c_0) _ (hI.next hR (by kernel_rfl) hm2 (GB.asks hI.1 (fun _ h _ => h) hS2 hm2 (by have hn := hR.not; simp [upd, hn] <;> omega) (HGs.out D 16 _ _ (hI.1).g hm2)) (⟨A_0, c_0, cs_0, upd_same V 16 _, hcl, hcz, (VlsB.of hV hS2)⟩))
        · intro D V zw1 a hR hI K hK
          obtain ⟨hS1, hM1, hB1, hG1⟩ := hI.1
          have zd2 := hR.pred 2 (by kernel_rfl)
          have zF2 : V 2 = .int .i64 ((ds.length : Int) + 1) := hI.2 2 zd2 rfl
          have zf2 := zF2; clear zF2
          have zd5 := hR.pred 5 (by kernel_rfl)
          have zF5 : ∃ (k_5 : Int), V 5 = .int .i64 k_5 ∧ 5 ≤ k_5 ∧ k_5 ≤ 100 := hI.2 5 zd5 rfl
          obtain ⟨k_5, zf5, c5_0, c5_1⟩ := zF5
          have zd8 := hR.pred 8 (by kernel_rfl)
          have zF8 : ∃ (s_8 : Str), V 8 = .string ⟨s_8.toArray⟩ ∧ s_8.length ≤ 100 := hI.2 8 zd8 rfl
          obtain ⟨s_8, zf8, c8_0⟩ := zF8
          have zd11 := hR.pred 11 (by kernel_rfl)
          have zF11 : ∃ (s_11 : Str), V 11 = .string ⟨s_11.toArray⟩ ∧ s_11.length ≤ 100 := hI.2 11 zd11 rfl
          obtain ⟨s_11, zf11, c11_0⟩ := zF11
          have zd13 := hR.pred 13 (by kernel_rfl)
          have zF13 : ∃ (k_13 : Bool), V 13 = .bool k_13 := hI.2 13 zd13 rfl
          obtain ⟨k_13, zf13⟩ := zF13
          have zd16 := hR.pred 16 (by kernel_rfl)
          have zF16 : ∃ (A_16 : Option Addr) (c_16 : Nat) (cs_16 : List ChoR), V 16 = .slice A_16 cs_16.length c_16 ∧ cs_16.length ≤ 10 ∧ (∀ x ∈ cs_16, ChoB x) ∧ VlsB zw1 b (.slice A_16 cs_16.length c_16) cs_16 := hI.2 16 zd16 (by show (!D 17) = true; rw [hR.not]; rfl)
          obtain ⟨A_16, c_16, cs_16, zf16, c16_0, c16_1, b16_0⟩ := zF16
          have ze14 := hR.frame.done (t := 14) (j := 2) (by kernel_rfl) hR.ok zd2
          have ze17 := hR.frame.done (t := 17) (j := 5) (by kernel_rfl) hR.ok zd5
          have ze20 := hR.frame.done (t := 20) (j := 8) (by kernel_rfl) hR.ok zd8
          have ze23 := hR.frame.done (t := 23) (j := 11) (by kernel_rfl) hR.ok zd11
          have ze25 := hR.frame.done (t := 25) (j := 13) (by kernel_rfl) hR.ok zd13
          have ze28 := hR.frame.done (t := 28) (j := 16) (by kernel_rfl) hR.ok zd16
          rw [if_pos (by rfl)]
          go_simp
          exact hK (_) _ (hI.next hR (by kernel_rfl) (Mod.refl _ _) (GB.quiet hI.1 (Mod.refl _ _) (by have hn := hR.not; simp [upd, hn] <;> omega) (HGs.out D 17 zw1 zw1 (hI.1).g (Mod.refl _ _))) (⟨k_5, s_8, s_11, k_13, A_16, c_16, cs_16, upd_same V 17 _, (by first | assumption | omega), (by first | assumption | omega), (by first | assumption | omega), (by first | assumption | omega), (by first | assumption | omega), (by first | assumption | omega), b16_0⟩))
        · intro D V zw1 a hR hI K hK
          obtain ⟨hS1, hM1, hB1, hG1⟩ := hI.1
          rw [if_pos (by rfl)]
          go_simp
          exact hK (_) _ (hI.next hR (by kernel_rfl) ((Mod.refl _ _).alloc _) (GB.quiet hI.1 (pure_alloc _ _) (by have hn := hR.not; simp [upd, hn] <;> omega) (HGs.out D 18 _ _ (hI.1).g ((Mod.refl _ _).alloc _))) (⟨_, upd_same V 18 _, (by omega), (Blk.new _ _ _)⟩))
        · intro D V zw1 a hR hI K hK
          obtain ⟨hS1, hM1, hB1, hG1⟩ := hI.1
          have zd18 := hR.pred 18 (by kernel_rfl)
          have zF18 : ∃ (g_18 : Nat), V 18 = .pointer (some ⟨g_18, 0, none⟩) ∧ wr.heap.size ≤ g_18 ∧ Blk zw1 g_18 40 #[.int .i64 0, .int .i64 0, .string ⟨#[]⟩, .string ⟨#[]⟩, .bool false, .slice none 0 0] := hI.2 18 zd18 (by show (!D 19) = true; rw [hR.not]; rfl)
          obtain ⟨g_18, zf18, c18_0, b18_0⟩ := zF18
          have zd17 := hR.pred 17 (by kernel_rfl)
          have zF17 : ∃ (k_17 : Int) (s_17 : Str) (sa_17 : Str) (ka_17 : Bool) (A_17 : Option Addr) (c_17 : Nat) (cs_17 : List ChoR), V 17 = .agg #[.int .i64 ((ds.length : Int) + 1), .int .i64 k_17, .string ⟨s_17.toArray⟩, .string ⟨sa_17.toArray⟩, .bool ka_17, .slice A_17 cs_17.length c_17] ∧ 5 ≤ k_17 ∧ k_17 ≤ 100 ∧ s_17.length ≤ 100 ∧ sa_17.length ≤ 100 ∧ cs_17.length ≤ 10 ∧ (∀ x ∈ cs_17, ChoB x) ∧ VlsB zw1 b (.slice A_17 cs_17.length c_17) cs_17 := hI.2 17 zd17 (by show (!D 19) = true; rw [hR.not]; rfl)
          obtain ⟨k_17, s_17, sa_17, ka_17, A_17, c_17, cs_17, zf17, c17_0, c17_1, c17_2, c17_3, c17_4, c17_5, b17_0⟩ := zF17
          have ze8 := hR.frame.done (t := 8) (j := 18) (by kernel_rfl) hR.ok zd18
          have ze29 := hR.frame.done (t := 29) (j := 17) (by kernel_rfl) hR.ok zd17
          rw [if_pos (by rfl)]
          have zx0 := b18_0.cell 0; have zy0 := b18_0.frozen 0
          have zx1 := b18_0.cell 1; have zy1 := b18_0.frozen 1
          have zx2 := b18_0.cell 2; have zy2 := b18_0.frozen 2
          have zx3 := b18_0.cell 3; have zy3 := b18_0.frozen 3
          have zx4 := b18_0.cell 4; have zy4 := b18_0.frozen 4
          have zx5 := b18_0.cell 5; have zy5 := b18_0.frozen 5
          simp at zx0 zy0 zx1 zy1 zx2 zy2 zx3 zy3 zx4 zy4 zx5 zy5
          go_simp
          refine hK undef _ (InvF.last ?_ ?_ ?_)
          · exact ⟨((((((hS1.setCell (by show _ < g_18; omega) _).setCell (by show _ < g_18; omega) _).setCell (by show _ < g_18; omega) _).setCell (by show _ < g_18; omega) _).setCell (by show _ < g_18; omega) _).setCell (by show _ < g_18; omega) _).more (by have hn := hR.not; simp [upd, hn] <;> omega), ((((((hM1.setCell (.inr (by show _ ≤ g_18; omega)) _).setCell (.inr (by show _ ≤ g_18; omega)) _).setCell (.inr (by show _ ≤ g_18; omega)) _).setCell (.inr (by show _ ≤ g_18; omega)) _).setCell (.inr (by show _ ≤ g_18; omega)) _).setCell (.inr (by show _ ≤ g_18; omega)) _), (by simpa using hB1), ((((((hG1.far (by show g1 ≠ g_18; omega) _).far (by show g1 ≠ g_18; omega) _).far (by show g1 ≠ g_18; omega) _).far (by show g1 ≠ g_18; omega) _).far (by show g1 ≠ g_18; omega) _).far (by show g1 ≠ g_18; omega) _)⟩
          · exact ⟨g_18, k_17, s_17, sa_17, ka_17, A_17, c_17, cs_17, (upd_ne V (i := 19) (k := 18) undef (by omega)).trans zf18, (by first | assumption | omega), (by first | assumption | omega), (by first | assumption | omega), (by first | assumption | omega), (by first | assumption | omega), (by first | assumption | omega), (by first | assumption | omega), (by have hset := ((((((b18_0.set 0 (.int .i64 ((ds.length : Int) + 1))).set 1 (.int .i64 k_17)).set 2 (.string ⟨s_17.toArray⟩)).set 3 (.string ⟨sa_17.toArray⟩)).set 4 (.bool ka_17)).set 5 (.slice A_17 cs_17.length c_17)); simpa using hset), (VlsB.set (VlsB.set (VlsB.set (VlsB.set (VlsB.set (VlsB.set b17_0 b18_0 0 (.int .i64 ((ds.length : Int) + 1))) (b18_0.set 0 (.int .i64 ((ds.length : Int) + 1))) 1 (.int .i64 k_17)) ((b18_0.set 0 (.int .i64 ((ds.length : Int) + 1))).set 1 (.int .i64 k_17)) 2 (.string ⟨s_17.toArray⟩)) (((b18_0.set 0 (.int .i64 ((ds.length : Int) + 1))).set 1 (.int .i64 k_17)).set 2 (.string ⟨s_17.toArray⟩)) 3 (.string ⟨sa_17.toArray⟩)) ((((b18_0.set 0 (.int .i64 ((ds.length : Int) + 1))).set 1 (.int .i64 k_17)).set 2 (.string ⟨s_17.toArray⟩)).set 3 (.string ⟨sa_17.toArray⟩)) 4 (.bool ka_17)) (((((b18_0.set 0 (.int .i64 ((ds.length : Int) + 1))).set 1 (.int .i64 k_17)).set 2 (.string ⟨s_17.toArray⟩)).set 3 (.string ⟨sa_17.toArray⟩)).set 4 (.bool ka_17)) 5 (.slice A_17 cs_17.length c_17))⟩
          · intro k hk hDk hlv
            have hkl := hR.lt k hDk
            have hv := hI.2 k hDk (liveB_of hlv)
            match k, hk, hDk, hlv, hkl, hv with
            | 0, _, _, _, _, hv => exact hv
            | 1, _, _, _, _, hv => exact hv
            | 2, _, _, _, _, hv => exact hv
            | 3, _, _, _, _, hv => exact hv
            | 4, _, _, hlv, _, _ => exact absurd hlv (by show ¬ (!upd D 19 true 5) = true; rw [upd_ne _ _ (by omega), hR.pred 5 (by kernel_rfl)]; decide)
            | 5, _, _, _, _, hv => exact hv
            | 6, _, _, _, _, hv => exact hv
            | 7, _, _, hlv, _, _ => exact absurd hlv (by show ¬ (!upd D 19 true 8) = true; rw [upd_ne _ _ (by omega), hR.pred 8 (by kernel_rfl)]; decide)
            | 8, _, _, _, _, hv => exact hv
            | 9, _, _, _, _, hv => exact hv
            | 10, _, _, _, _, hv => exact hv
            | 11, _, _, _, _, hv => exact hv
            | 12, _, _, _, _, hv => exact hv
            | 13, _, _, _, _, hv => exact hv
            | 14, _, _, _, _, hv => exact hv
            | 15, _, _, _, _, hv => exact hv
            | 16, _, _, hlv, _, _ => exact absurd hlv (by show ¬ (!upd D 19 true 17) = true; rw [upd_ne _ _ (by omega), hR.pred 17 (by kernel_rfl)]; decide)
            | 17, _, _, hlv, _, _ => exact absurd hlv (by show ¬ (!upd D 19 true 19) = true; rw [upd_same]; decide)
            | 18, _, _, hlv, _, _ => exact absurd hlv (by show ¬ (!upd D 19 true 19) = true; rw [upd_same]; decide)
            | 19, hk, _, _, _, _ => exact absurd rfl hk
            | k + 20, _, _, _, hkl, _ => exact absurd hkl (by simp)
      · intro D V w3 hD hI
        obtain ⟨hS1, hM1, hB1, hG1⟩ := hI.1
        have hSx : Strm w3 b ((N + 500 * k) + 404) := hS1.more (by show _ ≤ _; have := Bool.toNat_le (D 5); have := Bool.toNat_le (D 8); have := Bool.toNat_le (D 10); have := Bool.toNat_le (D 13); have := Bool.toNat_le (D 16); omega)
        clear hS1
        have hMx := hM1
        clear hM1
        have hBx := hB1
        clear hB1
        have hGx := hG1
        clear hG1
        have zF0 : V 0 = .slice Ao ds.length cap := hI.2 0 (hD 0 (by decide)) rfl
        have zf0 := zF0; clear zF0
        have zF1 : V 1 = .int .i64 (ds.length : Int) := hI.2 1 (hD 1 (by decide)) rfl
        have zf1 := zF1; clear zF1
        have zF2 : V 2 = .int .i64 ((ds.length : Int) + 1) := hI.2 2 (hD 2 (by decide)) rfl
        have zf2 := zF2; clear zF2
        have zF3 : V 3 = .pointer (some ⟨b, 0, none⟩) := hI.2 3 (hD 3 (by decide)) rfl
        have zf3 := zF3; clear zF3
        have zF5 : ∃ (k_5 : Int), V 5 = .int .i64 k_5 ∧ 5 ≤ k_5 ∧ k_5 ≤ 100 := hI.2 5 (hD 5 (by decide)) rfl
        obtain ⟨k_5, zf5, c5_0, c5_1⟩ := zF5
        have zF6 : V 6 = .pointer (some ⟨b, 0, none⟩) := hI.2 6 (hD 6 (by decide)) rfl
        have zf6 := zF6; clear zF6
        have zF8 : ∃ (s_8 : Str), V 8 = .string ⟨s_8.toArray⟩ ∧ s_8.length ≤ 100 := hI.2 8 (hD 8 (by decide)) rfl
        obtain ⟨s_8, zf8, c8_0⟩ := zF8
        have zF9 : V 9 = .pointer (some ⟨b, 0, none⟩) := hI.2 9 (hD 9 (by decide)) rfl
        have zf9 := zF9; clear zF9
        have zF10 : ∃ (k_10 : Int), V 10 = .int .i64 k_10 ∧ 0 ≤ k_10 ∧ k_10 < 4 := hI.2 10 (hD 10 (by decide)) rfl
        obtain ⟨k_10, zf10, c10_0, c10_1⟩ := zF10
        have zF11 : ∃ (s_11 : Str), V 11 = .string ⟨s_11.toArray⟩ ∧ s_11.length ≤ 100 := hI.2 11 (hD 11 (by decide)) rfl
        obtain ⟨s_11, zf11, c11_0⟩ := zF11
        have zF12 : V 12 = .pointer (some ⟨b, 0, none⟩) := hI.2 12 (hD 12 (by decide)) rfl
        have zf12 := zF12; clear zF12
        have zF13 : ∃ (k_13 : Bool), V 13 = .bool k_13 := hI.2 13 (hD 13 (by decide)) rfl
        obtain ⟨k_13, zf13⟩ := zF13
        have zF14 : V 14 = .pointer (some ⟨b, 0, none⟩) := hI.2 14 (hD 14 (by decide)) rfl
        have zf14 := zF14; clear zF14
        have zF15 : V 15 = .agg #[.slice A n c, .slice A2 n2 c2] := hI.2 15 (hD 15 (by decide)) rfl
        have zf15 := zF15; clear zF15
        have zF19 : ∃ (g_19 : Nat) (k_19 : Int) (s_19 : Str) (sa_19 : Str) (ka_19 : Bool) (A_19 : Option Addr) (c_19 : Nat) (cs_19 : List ChoR), V 18 = .pointer (some ⟨g_19, 0, none⟩) ∧ wr.heap.size ≤ g_19 ∧ 5 ≤ k_19 ∧ k_19 ≤ 100 ∧ s_19.length ≤ 100 ∧ sa_19.length ≤ 100 ∧ cs_19.length ≤ 10 ∧ (∀ x ∈ cs_19, ChoB x) ∧ Blk w3 g_19 40 #[.int .i64 ((ds.length : Int) + 1), .int .i64 k_19, .string ⟨s_19.toArray⟩, .string ⟨sa_19.toArray⟩, .bool ka_19, .slice A_19 cs_19.length c_19] ∧ VlsB w3 b (.slice A_19 cs_19.length c_19) cs_19 := hI.2 19 (hD 19 (by decide)) rfl
        obtain ⟨g_19, k_19, s_19, sa_19, ka_19, A_19, c_19, cs_19, zf19, c19_0, c19_1, c19_2, c19_3, c19_4, c19_5, c19_6, b19_0, b19_1⟩ := zF19
        clear hI hD HGs
        simp only [frAll, Act.put, List.setIfInBounds_toArray, List.set_cons_zero, List.set_cons_succ, Nat.zero_add, Nat.reduceAdd, zf0, zf1, zf2, zf3, zf5, zf6, zf8, zf9, zf10, zf11, zf12, zf13, zf14, zf15, zf19]
        clear zf0 zf1 zf2 zf3 zf5 zf6 zf8 zf9 zf10 zf11 zf12 zf13 zf14 zf15 zf19
        generalize V 4 = u4
        generalize V 7 = u7
        generalize V 16 = u16
        generalize V 17 = u17
        clear V D
        have HX := Lib.hid (show DgBox w3 b g_19 ⟨(ds.length : Int) + 1, k_19, s_19, sa_19, ka_19, A_19, c_19, cs_19⟩ from ⟨b19_0, b19_1⟩)
        have HZ1 : Hid (DecB ⟨(ds.length : Int) + 1, k_19, s_19, sa_19, ka_19, A_19, c_19, cs_19⟩) := Lib.hid ⟨by simp only; omega, by simp only; omega, by simp only; omega, by simp only; omega, by simp only [StB]; omega, by simp only [StB]; omega, by simp only; omega, c19_6⟩
        have hgw : wr.heap.size ≤ g_19 := c19_0
        have HMW := Lib.hid hMx
        generalize (⟨(ds.length : Int) + 1, k_19, s_19, sa_19, ka_19, A_19, c_19, cs_19⟩ : DecR) = x0 at *
        clear b19_0 b19_1 c19_0 c19_1 c19_2 c19_3 c19_4 c19_5 c19_6 hGx hMx hBx hS
        go_wp2_with fail
        refine (flip_calls _ b _ _ hSx (by omega) (by omega) (by omega)).mono ?_
        rintro e w5 ⟨fl, rfl, hS5, hM5⟩
        go_upto_if 31 with (fail)
        go_cut [] (fun wx => ∃ (x : DecR), DgBox wx b g_19 x ∧ DecB x ∧ Strm wx b (N + 500 * k + 410) ∧ Mod (· = b) wr wx)
        case first =>
          cases fl
          · go_wp2_with fail
            go_meet
            exact ⟨x0, HX.out.ask hM5 (by omega), HZ1.out, hS5.more (by omega), HMW.out.trans hM5⟩
          · go_wp2_with fail
            refine (next_calls _ b _ _ hS5 (by omega) (by omega) (by omega)).mono ?_
            rintro e w6 ⟨z, hza, hzb, rfl, hS6, hM6'⟩
            have hM6 := hM5.trans hM6'
            have hbw6 := hS6.lt
            clear hM6' hM5 hS5 hSx
            by_cases k0 : z = 0
            · subst k0
              go_wp2_with fail
              refine (odd_calls _ b _ 1 9 hS6 (by omega) (by omega) (by omega) (by omega)).mono ?_
              rintro e w7 ⟨kq, hq1, hq2, rfl, hS7, hM7⟩
              have HX7 := Lib.hid (HX.out.ask (hM6.trans (hM7)) (by omega))
              have HM7 := Lib.hid (HMW.out.trans (hM6.trans (hM7)))
              obtain ⟨hq, hf⟩ := HX7.out.cells
              obtain ⟨q0, q1, q2, q3, q4, q5⟩ := hq
              have f0 := hf 0
              clear hf hM7 hM6
              go_wp2_with fail
              go_meet
              exact ⟨_, HX7.out.set0 _, ⟨by simp only; omega, by simp only; omega, HZ1.out.2.2.1, HZ1.out.2.2.2.1, HZ1.out.2.2.2.2.1, HZ1.out.2.2.2.2.2.1, HZ1.out.2.2.2.2.2.2⟩, (hS7.setCell (by show b < g_19; omega) _).more (by omega), HM7.out.setCell (.inr (by show wr.heap.size ≤ g_19; omega)) _⟩
            have k0' : (z == 0) = false := by simpa using k0
            by_cases k1 : z = 1
            · subst k1
              go_wp2_with fail
              refine (odd_calls _ b _ 0 5761439 hS6 (by omega) (by omega) (by omega) (by omega)).mono ?_
              rintro e w7 ⟨kq, hq1, hq2, rfl, hS7, hM7⟩
              have HX7 := Lib.hid (HX.out.ask (hM6.trans (hM7)) (by omega))
              have HM7 := Lib.hid (HMW.out.trans (hM6.trans (hM7)))
              obtain ⟨hq, hf⟩ := HX7.out.cells
              obtain ⟨q0, q1, q2, q3, q4, q5⟩ := hq
              have f0 := hf 1
              clear hf hM7 hM6
              go_wp2_with fail
              go_meet
              exact ⟨_, HX7.out.set1 _, ⟨HZ1.out.1, HZ1.out.2.1, by simp only; omega, by simp only; omega, HZ1.out.2.2.2.2.1, HZ1.out.2.2.2.2.2.1, HZ1.out.2.2.2.2.2.2⟩, (hS7.setCell (by show b < g_19; omega) _).more (by omega), HM7.out.setCell (.inr (by show wr.heap.size ≤ g_19; omega)) _⟩
            have k1' : (z == 1) = false := by simpa using k1
            by_cases k2 : z = 2
            · subst k2
              go_wp2_with fail
              refine (somec_calls _ b _ w6.heap.size _ _ [[], [65]] 100 rfl (by decide) (hS6.alloc _) (by omega) (Blk.new _ _ _) (by omega) (by decide) (by decide)).mono ?_
              rintro e w7 ⟨sq, hsq, rfl, hS7, hM7⟩
              have HX7 := Lib.hid (HX.out.ask (hM6.trans (((Mod.refl (· = b) w6).alloc _).trans hM7)) (by omega))
              have HM7 := Lib.hid (HMW.out.trans (hM6.trans (((Mod.refl (· = b) w6).alloc _).trans hM7)))
              obtain ⟨hq, hf⟩ := HX7.out.cells
              obtain ⟨q0, q1, q2, q3, q4, q5⟩ := hq
              have f0 := hf 2
              clear hf hM7 hM6
              go_wp2_with fail
              go_meet
              exact ⟨_, HX7.out.set2 _, ⟨HZ1.out.1, HZ1.out.2.1, HZ1.out.2.2.1, HZ1.out.2.2.2.1, by simp only [StB]; omega, HZ1.out.2.2.2.2.2.1, HZ1.out.2.2.2.2.2.2⟩, (hS7.setCell (by show b < g_19; omega) _).more (by omega), HM7.out.setCell (.inr (by show wr.heap.size ≤ g_19; omega)) _⟩
            have k2' : (z == 2) = false := by simpa using k2
            · go_wp2_with fail
              refine (somec_calls _ b _ w6.heap.size _ _ [[], [65]] 100 rfl (by decide) (hS6.alloc _) (by omega) (Blk.new _ _ _) (by omega) (by decide) (by decide)).mono ?_
              rintro e w7 ⟨sq, hsq, rfl, hS7, hM7⟩
              have HX7 := Lib.hid (HX.out.ask (hM6.trans (((Mod.refl (· = b) w6).alloc _).trans hM7)) (by omega))
              have HM7 := Lib.hid (HMW.out.trans (hM6.trans (((Mod.refl (· = b) w6).alloc _).trans hM7)))
              obtain ⟨hq, hf⟩ := HX7.out.cells
              obtain ⟨q0, q1, q2, q3, q4, q5⟩ := hq
              have f0 := hf 3
              clear hf hM7 hM6
              go_wp2_with fail
              go_meet
              exact ⟨_, HX7.out.set3 _, ⟨HZ1.out.1, HZ1.out.2.1, HZ1.out.2.2.1, HZ1.out.2.2.2.1, HZ1.out.2.2.2.2.1, by simp only [StB]; omega, HZ1.out.2.2.2.2.2.2⟩, (hS7.setCell (by show b < g_19; omega) _).more (by omega), HM7.out.setCell (.inr (by show wr.heap.size ≤ g_19; omega)) _⟩
        case rest =>
          obtain ⟨x, hX, hZ, hS5, hM5⟩ := hcut
          obtain ⟨wx, hwx⟩ : ∃ W, W = wc := ⟨wc, rfl⟩
          subst hwx
          have hbx := hS5.lt
          have hgx := hX.1.lt
          have HX2 := Lib.hid hX
          have HZ2 := Lib.hid hZ
          have HM5 := Lib.hid hM5
          obtain ⟨xno, xat, xrev, xitem, xsec, xA, xc, xv⟩ := x
          have hzv := hZ.2.2.2.2.2.2
          have HLF := Lib.hid (fun W (h : Mod (· = b) wx W) => layoutFault_calls W _ L (HLS.out _ (HM.out.trans (hM5.trans h))) HLB.out)
          have HDF := Lib.hid (fun W g (h : Mod (· = b) wx W) (hB : Blk W g 40 #[.int .i64 1, .int .i64 xat, .string ⟨xrev.toArray⟩, .string ⟨xitem.toArray⟩, .bool false, .slice xA xv.length xc]) => dsfault_calls W _ L (some ⟨g, 0, none⟩) 1 1 [⟨1, xat, xrev, xitem, false, xA, xc, xv⟩] (HLS.out _ (HM.out.trans (hM5.trans h))) HLB.out
            ⟨⟨_, 1, 1, rfl, by omega, by omega, by simp [decV, decC], fun _ => ⟨g, 0, rfl, Blk.row0 hB⟩⟩, fun y hy => by rw [List.mem_singleton.1 hy]; exact (hX.2.ask h).1⟩ (fun y hy => by rw [List.mem_singleton.1 hy]; exact ⟨by simp only; omega, by simp only; omega, HZ2.out.2.2.1, HZ2.out.2.2.2.1, HZ2.out.2.2.2.2.1, HZ2.out.2.2.2.2.2.1, HZ2.out.2.2.2.2.2.2⟩) (by simp))
          have HBX := Lib.hid (HB.out.mod hM5 (by omega))
          clear hX hZ hM5 hzv HX HZ1 HMW hSx
          generalize layE L = le at *
          generalize decsE L [⟨1, xat, xrev, xitem, false, xA, xc, xv⟩] = de at *
          go_upto_region 14 with (fail)
          go_cut [76] (fun p wy => ∃ f : Bool, p = .bool f ∧ Strm wy b (N + 500 * k + 411) ∧ Mod (· = b) wx wy)
          case first =>
            have hX := HBX.out
            have c0 := hX.cell 0; have c1 := hX.cell 1; simp at c0 c1
            clear hX
            go_wp2_with fail
            refine (HLF.out _ (Mod.refl _ _)).mono ?_
            rintro e wa ⟨rfl, hma⟩
            have hma2 : Mod (· = b) wx wa := .of_pure hma
            have hSa := hS5.pure hma
            have hX := HBX.out.modp hma
            have hXX := HX2.out.pure hma
            obtain ⟨hq, hf⟩ := hXX.cells
            obtain ⟨q0, q1, q2, q3, q4, q5⟩ := hq
            clear c0 c1 HLF hf hma hXX
            have c0 := hX.cell 0; have c1 := hX.cell 1; simp at c0 c1
            clear hX
            by_cases hle : le = 0
            · subst hle
              go_wp2_with fail
              refine (flip_calls _ b _ _ hSa (by omega) (by omega) (by omega)).mono ?_
              rintro e wb ⟨fb, rfl, hSb, hMb⟩
              have hmb2 := hma2.trans hMb
              have hX := HBX.out.mod hmb2 (by omega)
              have hXX := HX2.out.ask hmb2 (by omega)
              obtain ⟨hq, hf⟩ := hXX.cells
              obtain ⟨q0, q1, q2, q3, q4, q5⟩ := hq
              clear hf hXX c0 c1 hMb hSa
              have c0 := hX.cell 0; have c1 := hX.cell 1; simp at c0 c1
              clear hX
              cases fb
              · go_wp2_with fail
                refine (HDF.out _ _ (hmb2.alloc _) (Blk.new' rfl)).mono ?_
                rintro e wd ⟨rfl, hmd⟩
                have hmd2 : Mod (· = b) wx wd := (hmb2.alloc _).transp hmd
                have hSd := (hSb.alloc (.cells #[.int .i64 1, .int .i64 xat, .string ⟨xrev.toArray⟩, .string ⟨xitem.toArray⟩, .bool false, .slice xA xv.length xc] 40)).pure hmd
                by_cases hde : de = 0
                · subst hde
                  go_wp2_with fail
                  go_meet
                  exact ⟨_, rfl, hSd.more (by omega), hmd2⟩
                · have hde' : (de != 0) = true := by simpa using hde
                  go_wp2_with fail
                  go_meet
                  exact ⟨_, rfl, hSd.more (by omega), hmd2⟩
              · go_wp2_with fail
                go_meet
                exact ⟨_, rfl, hSb.more (by omega), hmb2⟩
            · have hle' : (le == 0) = false := by simpa using hle
              go_wp2_with fail
              go_meet
              exact ⟨_, rfl, hSa.more (by omega), hma2⟩
          case rest =>
            obtain ⟨f, rfl, hSy, hMy⟩ := hcut
            have hMw : Mod (· = b) wr wc := HM5.out.trans hMy
            have HMt := Lib.hid (HM.out.trans hMw)
            have HOy := Lib.hid (HO.out.ask hSx0 hMw hbb)
            have HBy := Lib.hid (HB.out.mod hMw (by omega))
            have hXy := HX2.out.ask hMy (by omega)
            have hbwy : base ≤ wc.heap.size := by have := hMw.size; omega
            clear hMw hMy HLF HDF hS5
            cases f
            · obtain ⟨hq, _⟩ := hXy.cells
              obtain ⟨q0, q1, q2, q3, q4, q5⟩ := hq
              have HVy := Lib.hid hXy.2.1
              clear hXy
              obtain ⟨i0, hi0, hz0, hz1, hz2⟩ := info_parts info_dec
              have hownO := HOy.out.1
              have hmO := HMt.out
              have hwb : w.heap.size ≤ base := by omega
              go_wp2_with ((at_builtin; refine wpList_append_lies _ rfl _ _ _ rfl base 40 i0 _ 6 80 Tryz.underlying31 hi0 hz0 hz1 hz2 rfl (by omega) (.slice Ao ds.length cap) ds.length (decV ds) rfl (hownO.alloc _) ⟨wc.heap.size, 0, none⟩ 1 1 [.int .i64 xno, .int .i64 xat, .string ⟨xrev.toArray⟩, .string ⟨xitem.toArray⟩, .bool xsec, .slice xA xv.length xc] rfl rfl (World.news_of_block (cs := #[.int .i64 xno, .int .i64 xat, .string ⟨xrev.toArray⟩, .string ⟨xitem.toArray⟩, .bool xsec, .slice xA xv.length xc]) (t := 40) (fr := (0, 0)) (heap_alloc_new wc _)) (by simp [Value.oneCell']) (by omega) (by simp [maxLen]; omega) (by omega) (by have := hmO.size; simp; omega) (wc.heap.size + 1) (by simp) ?_; intro g5 cap5 w5 hown5 hgrow hat hlt5))
              have hob := own_block hownO
              have mG := mod_grown hgrow
              have hz5 := mG.size
              simp only [World.size_alloc] at hz5
              have hoa := hownO.alloc (.cells #[.int .i64 xno, .int .i64 xat, .string ⟨xrev.toArray⟩, .string ⟨xitem.toArray⟩, .bool xsec, .slice xA xv.length xc] 40)
              go_roundg (many - (k + 1))
              case measure => omega
              case rel =>
                refine ⟨k + 1, cap5, some ⟨g5, 0, none⟩, ds ++ [⟨xno, xat, xrev, xitem, xsec, xA, xc, xv⟩], rfl, by omega, by simp, by simp, by simp; omega, fun y hy => ?_, ?_, ?_, ((hSy.alloc _).mod mG (fun i hi hv => by have := hob i hv; omega)).more (by omega), (HMt.out.alloc _).grown hgrow (fun i hi => .inr (by have := hob i hi; omega)), by omega⟩
                · rcases List.mem_append.1 hy with hy | hy
                  · exact HDZ.out y hy
                  · rw [List.mem_singleton.1 hy]; exact HZ2.out
                · simpa using (HOy.out.pure (pure_alloc _ (.cells #[.int .i64 xno, .int .i64 xat, .string ⟨xrev.toArray⟩, .string ⟨xitem.toArray⟩, .bool xsec, .slice xA xv.length xc] 40))).app (x := ⟨xno, xat, xrev, xitem, xsec, xA, xc, xv⟩) (HVy.out.pure (pure_alloc _ _)) mG rfl hown5
                · exact (HBy.out.alloc (.cells #[.int .i64 xno, .int .i64 xat, .string ⟨xrev.toArray⟩, .string ⟨xitem.toArray⟩, .bool xsec, .slice xA xv.length xc] 40)).mod mG (fun hv => by have h3 := HBy.out.alloc (.cells #[.int .i64 xno, .int .i64 xat, .string ⟨xrev.toArray⟩, .string ⟨xitem.toArray⟩, .bool xsec, .slice xA xv.length xc] 40); unfold Blk at h3; exact absurd (own_ty hoa hv h3) (by decide))
            · go_wp2_with fail
              go_roundg (many - (k + 1))
              case measure => omega
              case rel => exact ⟨k + 1, cap, Ao, ds, rfl, by omega, by simp, by simp, by omega, HDZ.out, HOy.out, HBy.out, hSy.more (by omega), HMt.out, hbwy⟩
    · obtain rfl : k = many := by omega
      go_wp2_with fail
      go_ret
      exact ⟨base, cap, Ao, ds, rfl, hbb, by omega, HO.out, hdk, HDZ.out, hS, HM.out⟩

end Go.Proofs.YtkkndblcejmmjaaGreatDoor
