/- Texts of the proof of CodingLatest, put together: CodW. -/
import Derived.Test.YtkkndblcejmmjaaGreatDoorCodingLatestZ27
import Derived.Test.YtkkndblcejmmjaaGreatDoorCodingLatestZ29
import Derived.Test.YtkkndblcejmmjaaGreatDoorCodingLatestZ39
/- Codings in memory; sameCoding of the law, slices.EqualFunc of codings. -/
namespace Go.Proofs.YtkkndblcejmmjaaGreatDoor
set_option linter.unusedVariables false
set_option linter.unusedSimpArgs false
open Go.RowKit

def cdC (x : CodR) : List Value := [.string ⟨x.item.toArray⟩, .slice x.A x.vals.length x.c]
def cdV (xs : List CodR) : List Value := xs.flatMap cdC
theorem cdV_len : ∀ xs : List CodR, (cdV xs).length = xs.length * 2
  | [] => rfl
  | x :: t => by
    show (cdC x ++ cdV t).length = _
    rw [List.length_append, cdV_len t]
    simp [cdC]; omega
theorem cdV_get : ∀ (xs : List CodR) (i : Nat) (h : i < xs.length), (cdV xs)[i * 2]? = some (.string ⟨xs[i].item.toArray⟩) ∧ (cdV xs)[i * 2 + 1]? = some (.slice xs[i].A xs[i].vals.length xs[i].c)
  | x :: t, 0, _ => ⟨rfl, rfl⟩
  | x :: t, i + 1, h => by
    have ih := cdV_get t i (by simpa using h)
    have e : cdV (x :: t) = cdC x ++ cdV t := rfl
    have hs : ∀ j, (cdV (x :: t))[(i + 1) * 2 + j]? = (cdV t)[i * 2 + j]? := fun j => by
      rw [e, List.getElem?_append_right (by simp [cdC]; omega)]
      congr 1
      simp [cdC]; omega
    exact ⟨(hs 0).trans ih.1, (hs 1).trans ih.2⟩
theorem cdV_snoc (xs : List CodR) (p : CodR) : cdV (xs ++ [p]) = cdV xs ++ cdC p := by simp [cdV]
def CodS (W : World) (xs : List CodR) : Prop := ∀ x ∈ xs, Vals W (.slice x.A x.vals.length x.c) x.vals
def Cods (W : World) (v : Value) (xs : List CodR) : Prop := Sl W 69 2 v (cdV xs) ∧ CodS W xs
def CodEl (W : World) (x : CodR) : Prop := Vals W (.slice x.A x.vals.length x.c) x.vals
theorem CodEl.pure {x : CodR} {w w' : World} (h : CodEl w x) (hm : Pure w w') : CodEl w' x := Vals.pure h hm
theorem CodS.pure {xs : List CodR} {w w' : World} (h : CodS w xs) (hm : Pure w w') : CodS w' xs := fun x hx => (h x hx).pure hm
theorem Cods.pure {xs : List CodR} {w w' : World} {v : Value} (h : Cods w v xs) (hm : Pure w w') : Cods w' v xs := ⟨h.1.pure hm, h.2.pure hm⟩
theorem Cods.el {w : World} {v : Value} {xs : List CodR} (h : Cods w v xs) {k : Nat} (hk : k < xs.length) : CodEl w xs[k] := h.2 _ (List.getElem_mem hk)
theorem Cods.len {w : World} {A : Option Addr} {n c : Nat} {xs : List CodR} (h : Cods w (.slice A n c) xs) : xs.length = n := by
  obtain ⟨⟨A', n', c', e, _, _, hl, _⟩, _⟩ := h
  injection e with _ e2 _
  rw [cdV_len] at hl
  omega
theorem Cods.cells {w : World} {A : Option Addr} {n c : Nat} {xs : List CodR} (h : Cods w (.slice A n c) xs) {k : Nat} (hk : k < xs.length) : ∃ g off, A = some ⟨g, off, none⟩ ∧ w.cell? ⟨g, off + k * 2, none⟩ = some (.string ⟨xs[k].item.toArray⟩) ∧
    w.cell? ⟨g, off + k * 2 + 1, none⟩ = some (.slice xs[k].A xs[k].vals.length xs[k].c) := by
  have hl := h.len
  obtain ⟨⟨A', n', c', e, _, _, _, hr⟩, _⟩ := h
  injection e with e1 e2 e3
  subst e1 e2
  obtain ⟨g, off, rfl, hrow⟩ := hr (by omega)
  obtain ⟨h0, h1⟩ := cdV_get xs k hk
  refine ⟨g, off, rfl, hrow.cell h0, ?_⟩
  have := hrow.cell h1; rwa [← Nat.add_assoc] at this
def codEq (x y : CodR) : Bool := decide (x.item = y.item) && eqL choEq x.vals y.vals
theorem codEq_key (x y : CodR) : codEq x y = true ↔ x.key = y.key := by
  unfold codEq CodR.key
  simp only [Bool.and_eq_true, decide_eq_true_eq, likes_iff, Prod.mk.injEq]
  rfl
theorem likesC_iff {xs ys : List CodR} : eqL codEq xs ys = true ↔ likesC xs ys := eqL_map codEq_key

set_option maxRecDepth 100000 in
set_option maxHeartbeats 2000000 in
theorem sameCoding_calls (w : World) (x y : CodR) (hx : CodEl w x) (hy : CodEl w y) : Calls Tryz.prog 39 #[.agg #[.string ⟨x.item.toArray⟩, .slice x.A x.vals.length x.c], .agg #[.string ⟨y.item.toArray⟩, .slice y.A y.vals.length y.c]] w (BoolPost w (codEq x y)) := by
  obtain ⟨xi, xA, xc, xs⟩ := x
  obtain ⟨yi, yA, yc, ys⟩ := y
  simp only
  have hp : Pure w ((w.alloc (.cells #[.string ⟨xi.toArray⟩, .slice xA xs.length xc] 69)).alloc (.cells #[.string ⟨yi.toArray⟩, .slice yA ys.length yc] 69)) := (pure_alloc _ _).trans (pure_alloc _ _)
  have HP := Lib.hid hp
  have HE := Lib.hid (sameValues_calls _ _ _ xs ys (Vals.pure hx hp) (Vals.pure hy hp))
  have HQ : Hid (codEq ⟨xi, xA, xc, xs⟩ ⟨yi, yA, yc, ys⟩ = (decide (xi = yi) && eqL choEq xs ys)) := Lib.hid rfl
  clear hp hx hy
  generalize codEq ⟨xi, xA, xc, xs⟩ ⟨yi, yA, yc, ys⟩ = q at *
  generalize eqL choEq xs ys = fc at *
  by_cases hf : xi = yi
  · subst hf
    have t1 : (xi == xi) = true := by simp
    have HQ2 : Hid (q = fc) := Lib.hid (by rw [HQ.out]; simp)
    clear HQ
    go_enter Tryz.func39, Tryz.ntmps39
    go_wp2_with fail
    refine HE.out.mono ?_
    rintro e w1 ⟨rfl, m1⟩
    go_wp2_with fail
    go_ret
    exact BoolPost.of HQ2.out (HP.out.trans m1)
  · have t1 : (xi == yi) = false := by simpa using hf
    have HQ2 : Hid (q = false) := Lib.hid (by rw [HQ.out]; simp [hf])
    clear HQ hf HE
    go_enter Tryz.func39, Tryz.ntmps39
    go_wp2_with fail
    go_ret
    exact BoolPost.of HQ2.out HP.out

set_option maxRecDepth 100000 in
set_option maxHeartbeats 2000000 in
theorem equalCod_calls (w : World) (v1 v2 : Value) (xs ys : List CodR) (h1 : Cods w v1 xs) (h2 : Cods w v2 ys) :
    Calls Tryz.prog 41 #[v1, v2, .func (.func 39) #[] #[]] w (BoolPost w (eqL codEq xs ys)) := by
  obtain ⟨A1, n1, c1, rfl⟩ := h1.1.form
  obtain ⟨A2, n2, c2, rfl⟩ := h2.1.form
  have hb : n1 ≤ 9223372036854775807 := by have := Sl.capL h1.1; omega
  have hn1 := h1.len
  have hn2 := h2.len
  subst hn1 hn2
  have H1 := Lib.hid h1
  have H2 := Lib.hid h2
  have hcf : ∀ (x y : Value) (W : World), Sem.run Tryz.prog (callFunc 39 #[x, y]) W = .ok (.enter 39 #[x, y]) W := fun _ _ _ => rfl
  clear h1 h2
  by_cases hlen : xs.length = ys.length
  · have HLN := Lib.hid hlen
    have hlx := Nat.le_of_eq hlen
    have hly := Nat.le_of_eq hlen.symm
    have hne : ((xs.length : Int) != (ys.length : Int)) = false := by rw [hlen]; simp
    clear hlen
    go_enter Tryz.func41, Tryz.ntmps41
    go_wp2_with fail
    go_loopg [17] xs.length (fun gk i wr => ∃ k : Nat, xs.length - k = gk ∧ k ≤ xs.length ∧ i = .int .i64 (k : Int) ∧ Hid (eqL codEq (xs.drop k) (ys.drop k) = eqL codEq xs ys) ∧ Pure w wr)
    case atStart => exact ⟨0, by omega, by omega, rfl, Lib.hid rfl, Mod.refl _ _⟩
    case round =>
      obtain ⟨k, rfl, hk, rfl, HT, hm⟩ := hrel
      by_cases hlt : k < xs.length
      · have hky : k < ys.length := by omega
        obtain ⟨g1, o1, rfl, q0, q1⟩ := Cods.cells (H1.out.pure hm) hlt
        obtain ⟨g2, o2, rfl, p0, p1⟩ := Cods.cells (H2.out.pure hm) hky
        have s1 := Cods.el (H1.out.pure hm) hlt
        have s2 := Cods.el (H2.out.pure hm) hky
        have HS0 := Lib.hid (eqL_step codEq hlt hky)
        have HC := Lib.hid (fun W (h : Pure wr W) => sameCoding_calls W xs[k] ys[k] (CodEl.pure s1 h) (CodEl.pure s2 h))
        clear s1 s2
        generalize xs[k] = x at *
        generalize ys[k] = y at *
        have r0 := cell_alloc p0 (.cells #[.string ⟨x.item.toArray⟩, .slice x.A x.vals.length x.c] 69)
        have r1 := cell_alloc p1 (.cells #[.string ⟨x.item.toArray⟩, .slice x.A x.vals.length x.c] 69)
        have HP : Hid (Pure wr ((wr.alloc (.cells #[.string ⟨x.item.toArray⟩, .slice x.A x.vals.length x.c] 69)).alloc (.cells #[.string ⟨y.item.toArray⟩, .slice y.A y.vals.length y.c] 69))) := Lib.hid ((pure_alloc _ _).trans (pure_alloc _ _))
        have HM := Lib.hid (hm.trans HP.out)
        have HC2 := Lib.hid (HC.out _ HP.out)
        have HNX := Lib.hid (HT.out.symm.trans HS0.out)
        have i1 : (0 : Int) ≤ (k : Int) := by omega
        have i2 : (k : Int) < (xs.length : Int) := by omega
        have i3 : (k : Int) < (ys.length : Int) := by omega
        clear hm HT HS0 HC p0 p1
        generalize codEq x y = fb at *
        go_wp2_with fail
        refine HC2.out.mono ?_
        rintro e w1 ⟨rfl, hm1⟩
        cases fb
        · have HZ := HNX.out
          rw [Bool.false_and] at HZ
          have HZ2 := Lib.hid HZ
          clear HNX HZ
          go_wp2_with fail
          go_ret
          exact BoolPost.of HZ2.out (HM.out.trans hm1)
        · have HZ := HNX.out
          rw [Bool.true_and] at HZ
          have HZ2 := Lib.hid HZ
          clear HNX HZ
          go_wp2_with fail
          go_roundg (xs.length - (k + 1))
          case measure => omega
          case rel => exact ⟨k + 1, rfl, by omega, by simp, Lib.hid HZ2.out.symm, HM.out.trans hm1⟩
      · have HZ : Hid (eqL codEq xs ys = true) := Lib.hid (by
          rw [← HT.out, List.drop_of_length_le (by omega), List.drop_of_length_le (by have := HLN.out; omega)]; rfl)
        have hke : k = xs.length := by omega
        subst hke
        clear HT
        go_wp2_with fail
        go_ret
        exact BoolPost.of HZ.out hm
  · have HZ : Hid (eqL codEq xs ys = false) := Lib.hid (eqL_len codEq hlen)
    have hne : ((xs.length : Int) != (ys.length : Int)) = true := by rw [bne_iff_ne]; omega
    clear hlen
    go_enter Tryz.func41, Tryz.ntmps41
    go_wp2_with fail
    go_ret
    exact BoolPost.of HZ.out (Mod.refl _ _)

theorem info_cod : (Tryz.prog.info? 69).map (fun i => (i.zero, i.size, i.bytes)) = some (some (.agg #[.string ⟨#[]⟩, .slice none 0 0]), 2, 40) := by kernel_rfl
theorem CodS.mod {w w' : World} {S : Nat → Prop} {xs : List CodR} (h : CodS w xs) (hm : Mod S w w') (h1 : ∀ g arr fr, w.heap[g]? = some (.cells arr 105 fr) → ¬ S g) (h2 : ∀ g arr fr, w.heap[g]? = some (.cells arr 9 fr) → ¬ S g) : CodS w' xs := fun x hx => (h x hx).mod hm h1 h2
theorem CodS.snoc {w : World} {xs : List CodR} {x : CodR} (h : CodS w xs) (hx : Vals w (.slice x.A x.vals.length x.c) x.vals) : CodS w (xs ++ [x]) := fun y hy => by
  rcases List.mem_append.1 hy with hy | hy
  · exact h y hy
  · rw [List.mem_singleton.1 hy]; exact hx
/-- Own codings. -/
def CdOk (w : World) (base : Nat) (A : Option Addr) (c : Nat) (xs ys : List CodR) : Prop := w.ownsRow base 69 2 (.slice A xs.length c) xs.length (cdV xs) ∧ CodS w xs ∧ likesC xs ys
theorem CdOk.pure {w w' : World} {base c : Nat} {A : Option Addr} {xs ys : List CodR} (h : CdOk w base A c xs ys) (hm : Pure w w') : CdOk w' base A c xs ys := ⟨own_pure h.1 hm, h.2.1.pure hm, h.2.2⟩
theorem CdOk.cods {w : World} {base c : Nat} {A : Option Addr} {xs ys : List CodR} (h : CdOk w base A c xs ys) : Cods w (.slice A xs.length c) xs := ⟨Sl.of_own h.1, h.2.1⟩
theorem CdOk.app {w w' : World} {base n' c c5 : Nat} {A A5 : Option Addr} {xs ys : List CodR} {x y : CodR} (h : CdOk w base A c xs ys) (hx : Vals w (.slice x.A x.vals.length x.c) x.vals) (hxy : x.key = y.key) (hm : Mod (fun j => (Value.slice A xs.length c).ownBlock = some j) w w') (hn : n' = xs.length + 1)
    (hown : w'.ownsRow base 69 2 (.slice A5 n' c5) n' (cdV xs ++ cdC x)) : CdOk w' base A5 c5 (xs ++ [x]) (ys ++ [y]) := by
  have hty1 : ∀ i arr fr, w.heap[i]? = some (.cells arr 105 fr) → ¬ (Value.slice A xs.length c).ownBlock = some i := fun i arr fr hi hv => absurd (own_ty h.1 hv hi) (by decide)
  have hty2 : ∀ i arr fr, w.heap[i]? = some (.cells arr 9 fr) → ¬ (Value.slice A xs.length c).ownBlock = some i := fun i arr fr hi hv => absurd (own_ty h.1 hv hi) (by decide)
  subst hn
  exact ⟨by simpa [cdV_snoc] using hown, CodS.snoc (h.2.1.mod hm hty1 hty2) (hx.mod hm hty1 hty2), h.2.2.snoc hxy⟩

end Go.Proofs.YtkkndblcejmmjaaGreatDoor
