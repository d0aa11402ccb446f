/- Texts of the proof of CodingCounts, put together: CodW, CntA, CntC, CntD, CntE, CntB. -/
import Derived.Test.YtkkndblcejmmjaaGreatDoorCodingCountsZ16
import Derived.Test.YtkkndblcejmmjaaGreatDoorCodingCountsZ20
import Derived.Test.YtkkndblcejmmjaaGreatDoorCodingCountsZ25
import Derived.Test.YtkkndblcejmmjaaGreatDoorCodingCountsZ26
import Derived.Test.YtkkndblcejmmjaaGreatDoorCodingCountsZ30
import Derived.Test.YtkkndblcejmmjaaGreatDoorCodingCountsZ33
import Derived.Test.YtkkndblcejmmjaaGreatDoorCodingCountsZ34
import Derived.Test.YtkkndblcejmmjaaGreatDoorCodingCountsZ39
import Derived.Deep.AppendLies
/- Codings in memory; sameCoding of the law, slices.EqualFunc of codings. -/
namespace Go.Proofs.YtkkndblcejmmjaaGreatDoor
set_option linter.unusedVariables false
set_option linter.unusedSimpArgs false
open Go.RowKit

def cdC (x : CodR) : List Value := [.string ⟨x.item.toArray⟩, .slice x.A x.vals.length x.c]
def cdV (xs : List CodR) : List Value := xs.flatMap cdC
theorem cdV_len : ∀ xs : List CodR, (cdV xs).length = xs.length * 2
 | [] => rfl
 | x :: t => by
  show (cdC x ++ cdV t).length = _
  rw [List.length_append, cdV_len t]
  simp [cdC]; omega
theorem cdV_get : ∀ (xs : List CodR) (i : Nat) (h : i < xs.length), (cdV xs)[i * 2]? = some (.string ⟨xs[i].item.toArray⟩) ∧ (cdV xs)[i * 2 + 1]? = some (.slice xs[i].A xs[i].vals.length xs[i].c)
 | x :: t, 0, _ => ⟨rfl, rfl⟩
 | x :: t, i + 1, h => by
  have ih := cdV_get t i (by simpa using h)
  have e : cdV (x :: t) = cdC x ++ cdV t := rfl
  have hs : ∀ j, (cdV (x :: t))[(i + 1) * 2 + j]? = (cdV t)[i * 2 + j]? := fun j => by
   rw [e, List.getElem?_append_right (by simp [cdC]; omega)]
   congr 1
   simp [cdC]; omega
  exact ⟨(hs 0).trans ih.1, (hs 1).trans ih.2⟩
theorem cdV_snoc (xs : List CodR) (p : CodR) : cdV (xs ++ [p]) = cdV xs ++ cdC p := by simp [cdV]
def CodS (W : World) (xs : List CodR) : Prop := ∀ x ∈ xs, Vals W (.slice x.A x.vals.length x.c) x.vals
def Cods (W : World) (v : Value) (xs : List CodR) : Prop := Sl W 69 2 v (cdV xs) ∧ CodS W xs
def CodEl (W : World) (x : CodR) : Prop := Vals W (.slice x.A x.vals.length x.c) x.vals
theorem CodEl.pure {x : CodR} {w w' : World} (h : CodEl w x) (hm : Pure w w') : CodEl w' x := Vals.pure h hm
theorem CodS.pure {xs : List CodR} {w w' : World} (h : CodS w xs) (hm : Pure w w') : CodS w' xs := fun x hx => (h x hx).pure hm
theorem Cods.pure {xs : List CodR} {w w' : World} {v : Value} (h : Cods w v xs) (hm : Pure w w') : Cods w' v xs := ⟨h.1.pure hm, h.2.pure hm⟩
theorem Cods.el {w : World} {v : Value} {xs : List CodR} (h : Cods w v xs) {k : Nat} (hk : k < xs.length) : CodEl w xs[k] := h.2 _ (List.getElem_mem hk)
theorem Cods.len {w : World} {A : Option Addr} {n c : Nat} {xs : List CodR} (h : Cods w (.slice A n c) xs) : xs.length = n := by
 obtain ⟨⟨A', n', c', e, _, _, hl, _⟩, _⟩ := h
 injection e with _ e2 _
 rw [cdV_len] at hl
 omega
theorem Cods.cells {w : World} {A : Option Addr} {n c : Nat} {xs : List CodR} (h : Cods w (.slice A n c) xs) {k : Nat} (hk : k < xs.length) : ∃ g off, A = some ⟨g, off, none⟩ ∧ w.cell? ⟨g, off + k * 2, none⟩ = some (.string ⟨xs[k].item.toArray⟩) ∧
  w.cell? ⟨g, off + k * 2 + 1, none⟩ = some (.slice xs[k].A xs[k].vals.length xs[k].c) := by
 have hl := h.len
 obtain ⟨⟨A', n', c', e, _, _, _, hr⟩, _⟩ := h
 injection e with e1 e2 e3
 subst e1 e2
 obtain ⟨g, off, rfl, hrow⟩ := hr (by omega)
 obtain ⟨h0, h1⟩ := cdV_get xs k hk
 refine ⟨g, off, rfl, hrow.cell h0, ?_⟩
 have := hrow.cell h1; rwa [← Nat.add_assoc] at this
theorem info_cod : (Tryz.prog.info? 69).map (fun i => (i.zero, i.size, i.bytes)) = some (some (.agg #[.string ⟨#[]⟩, .slice none 0 0]), 2, 40) := by kernel_rfl
theorem CodS.mod {w w' : World} {S : Nat → Prop} {xs : List CodR} (h : CodS w xs) (hm : Mod S w w') (h1 : ∀ g arr fr, w.heap[g]? = some (.cells arr 105 fr) → ¬ S g) (h2 : ∀ g arr fr, w.heap[g]? = some (.cells arr 9 fr) → ¬ S g) : CodS w' xs := fun x hx => (h x hx).mod hm h1 h2
theorem CodS.snoc {w : World} {xs : List CodR} {x : CodR} (h : CodS w xs) (hx : Vals w (.slice x.A x.vals.length x.c) x.vals) : CodS w (xs ++ [x]) := fun y hy => by
 rcases List.mem_append.1 hy with hy | hy
 ·exact h y hy
 ·rw [List.mem_singleton.1 hy]; exact hx
/-- Own codings. -/
def CdOk (w : World) (base : Nat) (A : Option Addr) (c : Nat) (xs ys : List CodR) : Prop := w.ownsRow base 69 2 (.slice A xs.length c) xs.length (cdV xs) ∧ CodS w xs ∧ likesC xs ys
theorem CdOk.pure {w w' : World} {base c : Nat} {A : Option Addr} {xs ys : List CodR} (h : CdOk w base A c xs ys) (hm : Pure w w') : CdOk w' base A c xs ys := ⟨own_pure h.1 hm, h.2.1.pure hm, h.2.2⟩
theorem CdOk.cods {w : World} {base c : Nat} {A : Option Addr} {xs ys : List CodR} (h : CdOk w base A c xs ys) : Cods w (.slice A xs.length c) xs := ⟨Sl.of_own h.1, h.2.1⟩
theorem CdOk.app {w w' : World} {base n' c c5 : Nat} {A A5 : Option Addr} {xs ys : List CodR} {x y : CodR} (h : CdOk w base A c xs ys) (hx : Vals w (.slice x.A x.vals.length x.c) x.vals) (hxy : x.key = y.key) (hm : Mod (fun j => (Value.slice A xs.length c).ownBlock = some j) w w') (hn : n' = xs.length + 1)
  (hown : w'.ownsRow base 69 2 (.slice A5 n' c5) n' (cdV xs ++ cdC x)) : CdOk w' base A5 c5 (xs ++ [x]) (ys ++ [y]) := by
 have hty1 : ∀ i arr fr, w.heap[i]? = some (.cells arr 105 fr) → ¬ (Value.slice A xs.length c).ownBlock = some i := fun i arr fr hi hv => absurd (own_ty h.1 hv hi) (by decide)
 have hty2 : ∀ i arr fr, w.heap[i]? = some (.cells arr 9 fr) → ¬ (Value.slice A xs.length c).ownBlock = some i := fun i arr fr hi hv => absurd (own_ty h.1 hv hi) (by decide)
 subst hn
 exact ⟨by simpa [cdV_snoc] using hown, CodS.snoc (h.2.1.mod hm hty1 hty2) (hx.mod hm hty1 hty2), h.2.2.snoc hxy⟩

end Go.Proofs.YtkkndblcejmmjaaGreatDoor

/- codingsError, givenError of the program. -/
namespace Go.Proofs.YtkkndblcejmmjaaGreatDoor
set_option linter.unusedVariables false
set_option linter.unusedSimpArgs false
open Go.RowKit

def CeRel (w : World) (gl : Nat) (lay : Array Value) (L : LayR) (xs : List CodR) (q : Int) (gk : Nat) (i : Value) (wr : World) : Prop :=
 ∃ k : Nat, xs.length - k = gk ∧ k ≤ xs.length ∧ i = .int .i64 (k : Int) ∧ ceE L (prvC xs k) (xs.drop k) = q ∧ Blk wr gl 29 lay ∧ Pure w wr

set_option maxRecDepth 100000 in
set_option maxHeartbeats 8000000 in
theorem codingsError_calls (w : World) (vl : Value) (L : LayR) (A1 : Option Addr) (c1 : Nat) (xs : List CodR) (hL : LayV w L vl) (hLB : LayB L) (hX : Cods w (.slice A1 xs.length c1) xs) (hz : ∀ x ∈ xs, CodB x) (hn : xs.length ≤ 2000) :
  Calls Tryz.prog 128 #[vl, .slice A1 xs.length c1] w (IntPost w (codsE L xs)) := by
 have HX := Lib.hid hX
 have HVE := Lib.hid (fun W (h : Pure w W) (x : CodR) (hx : x ∈ xs) => valuesError_calls W vl (.slice x.A x.vals.length x.c) L x.vals (hL.pure h) hLB ((hX.2 x hx).pure h) (by have := (hz x hx).2.1; omega) (hz x hx).2.2)
 have HZ := Lib.hid hz
 have HQ : Hid (codsE L xs = ceE L [] xs) := Lib.hid (by unfold codsE; rw [if_neg (by omega)])
 obtain ⟨A, n, c, A3, n3, c3, rfl, _, _⟩ := hL
 have HB0 := Lib.hid (Blk.new w 29 #[.slice A n c, .slice A3 n3 c3])
 have HM0 := Lib.hid (pure_alloc w (.cells #[.slice A n c, .slice A3 n3 c3] 29))
 clear hX hz hLB
 generalize codsE L xs = q at *
 go_enter Tryz.func128, Tryz.ntmps128
 go_upto_region 1 with (fail)
 generalize (w.alloc (.cells #[.slice A n c, .slice A3 n3 c3] 29)) = w1 at *
 generalize hgl : w.heap.size = gl at *
 clear hgl
 have hn2 : ¬ (2000 : Int) < (xs.length : Int) := by omega
 go_wp2_with fail
 go_loopg [13] xs.length (fun gk i wr => CeRel w gl #[.slice A n c, .slice A3 n3 c3] L xs q gk i wr)
 case atStart => exact ⟨0, by omega, by omega, rfl, HQ.out.symm, HB0.out, HM0.out⟩
 case round =>
  clear HB0 HM0 hn2 HQ
  obtain ⟨k, rfl, hk, rfl, hce, hbl, hm⟩ := hrel
  by_cases hlt : k < xs.length
  ·have HPV := Lib.hid (prvC_s hlt)
   obtain ⟨g, off, rfl, p0, p1⟩ := (HX.out.pure hm).cells hlt
   have hst := ceE_step (L := L) hlt (prvC xs k)
   rw [ce_first, hce] at hst
   have HST := Lib.hid hst
   have HVX := Lib.hid (fun W (h : Pure w W) => HVE.out W h xs[k] (List.getElem_mem hlt))
   have hxz := HZ.out xs[k] (List.getElem_mem hlt)
   have HXI : Hid (xs[k].item.length ≤ 1000) := Lib.hid hxz.1
   clear hst hce hxz
   have HNX : Hid (∀ (j : Nat), k = j + 1 → (wr.cell? ⟨g, off + j * 2, none⟩ = some (.string ⟨(prvC xs k).toArray⟩))) := Lib.hid (fun j hj => by
    subst hj
    have hj2 : j < xs.length := by omega
    obtain ⟨g', off', he, p0', _⟩ := (HX.out.pure hm).cells hj2
    cases he
    rw [prvC_s hj2]
    exact p0')
   have HK0 : Hid (k = 0 → keyB xs[k].item = true → leS xs[k].item (prvC xs k) = false) := Lib.hid (fun h0 hk => by
    rw [show prvC xs k = [] by unfold prvC; rw [if_pos h0]]
    exact leS_key0 hk)
   generalize xs[k] = x at *
   generalize prvC xs k = pv at *
   have HB1 := Lib.hid (hbl.alloc (.cells #[.string ⟨x.item.toArray⟩, .slice x.A x.vals.length x.c] 69))
   have HC1 := Lib.hid (Blk.new wr 69 #[.string ⟨x.item.toArray⟩, .slice x.A x.vals.length x.c])
   have HP1 := Lib.hid (hm.trans (pure_alloc wr (.cells #[.string ⟨x.item.toArray⟩, .slice x.A x.vals.length x.c] 69)))
   have HA1 := Lib.hid (pure_alloc wr (.cells #[.string ⟨x.item.toArray⟩, .slice x.A x.vals.length x.c] 69))
   go_upto_region 6 with (fail)
   have hgx := Nat.le_refl wr.heap.size
   have hglr := hbl.lt
   have hws := hm.size
   generalize hw2 : (wr.alloc (.cells #[.string ⟨x.item.toArray⟩, .slice x.A x.vals.length x.c] 69)) = w2 at *
   generalize hgg : wr.heap.size = gx at *
   clear hw2 hgg
   clear p0 p1 hbl hm
   obtain ⟨kb, hkb⟩ : ∃ kb, keyB x.item = kb := ⟨_, rfl⟩
   obtain ⟨lb, hlb⟩ : ∃ lb, leS x.item pv = lb := ⟨_, rfl⟩
   obtain ⟨ve, hve⟩ : ∃ ve, valsE L x.vals = ve := ⟨_, rfl⟩
   rw [hkb, hlb, hve] at HST
   rw [hve] at HVX
   rw [hkb, hlb] at HK0
   obtain ⟨e5, he5⟩ : ∃ e, (if (!kb) = true then (5 : Int) else 0) = e := ⟨_, rfl⟩
   have HE5 := Lib.hid he5
   have HKY := Lib.hid (fun W => keyP_calls W x.item kb hkb HXI.out)
   rw [he5] at HST
   by_cases hk0 : k = 0
   ·subst hk0
    have HE7 : Hid ((if false = true then (7 : Int) else 0) = 0) := Lib.hid (by simp)
    obtain ⟨q1, hq1⟩ : ∃ q, firstErr [e5, 0, ve] = q := ⟨_, rfl⟩
    have HST2 : Hid (q = if q1 ≠ 0 then q1 else ceE L x.item (xs.drop (0 + 1))) := Lib.hid (by
     have h := HST.out
     rw [← hq1]
     cases kb
     ·rw [show e5 = 5 from he5.symm] at h ⊢
      rw [first3] at h ⊢
      simpa using h
     ·have hl : lb = false := HK0.out rfl rfl
      rw [hl] at h
      simpa using h)
    replace HST := HST2
    clear HST2
    have HF : Hid (∀ (W : World) (g : Nat), Blk W g 41 #[.int .i64 e5, .int .i64 0, .int .i64 ve] → Calls Tryz.prog 55 #[.slice (some ⟨g, 0, none⟩) 3 3] W (IntPost W q1)) := Lib.hid (fun W g h => by
     have := firstE_calls W g 3 [e5, 0, ve] h.row0 (by simp)
     rwa [hq1] at this)
    clear he5 hlb hve hkb HK0 HNX HXI hq1
    have HGs := Lib.hid (show ∀ (D : Nat → Bool) (zzi : Nat) (zq zq' : World), (fun _ zq => (fun Z => Blk Z gl 29 #[.slice A n c, .slice A3 n3 c3] ∧ Blk Z gx 69 #[.string ⟨x.item.toArray⟩, .slice x.A x.vals.length x.c] ∧ True) zq) D zq → Mod (fun _ => False) zq zq' → (fun _ zq => (fun Z => Blk Z gl 29 #[.slice A n c, .slice A3 n3 c3] ∧ Blk Z gx 69 #[.string ⟨x.item.toArray⟩, .slice x.A x.vals.length x.c] ∧ True) zq) (upd D zzi true) zq' from by intro D zzi zq zq' h hm; (exact ⟨h.1.modp hm, h.2.1.modp hm, trivial⟩))
    refine wp_region_inv (by kernel_rfl) (by kernel_rfl) (InvF (R := Mod (fun _ => False)) [.is (.pointer (some ⟨gx, 0, none⟩)),
      .is (.string ⟨x.item.toArray⟩),
      .is (.bool kb),
      .is (.bool (!kb)),
      .is (.int .i64 e5),
      .is (.int .i64 0),
      .is (.bool false),
      .is (.bool false),
      .is (undef),
      .is (undef),
      .is (undef),
      .is (undef),
      .is (undef),
      .is (undef),
      .is (undef),
      .is (undef),
      .is (undef),
      .is (undef),
      .is (.bool false),
      .is (.int .i64 0),
      .is (.agg #[.slice A n c, .slice A3 n3 c3]),
      .is (.pointer (some ⟨gx, 1, none⟩)),
      .is (.slice x.A x.vals.length x.c),
      .is (.int .i64 ve),
      ⟨fun zv zw => ∃ (g_24 : Nat), zv = .slice (some ⟨g_24, 0, none⟩) 3 3 ∧ w2.heap.size ≤ g_24 ∧ Blk zw g_24 41 #[.int .i64 e5, .int .i64 0, .int .i64 ve], (by rintro zv zw zx ⟨g_24, rfl, c0, q0⟩ hm; exact ⟨g_24, rfl, c0, (q0.modp hm)⟩), none, some 25⟩,
      .is (.int .i64 q1),
      .is (.int .i64 q1)]
      (PB w (fun _ => False) w2.heap.size (fun _ zq => (fun Z => Blk Z gl 29 #[.slice A n c, .slice A3 n3 c3] ∧ Blk Z gx 69 #[.string ⟨x.item.toArray⟩, .slice x.A x.vals.length x.c] ∧ True) zq))) (InvF.start (PB.start HP1.out (Nat.le_refl _) (⟨HB1.out.drew, HC1.out.drew, trivial⟩))) ?_ ?_
    ·refine .cons ?_ (.cons ?_ (.cons ?_ (.cons ?_ (.cons ?_ (.cons ?_ (.cons ?_ (.cons ?_ (.cons ?_ (.cons ?_ (.cons ?_ (.cons ?_ (.cons ?_ (.cons ?_ (.cons ?_ (.cons ?_ (.cons ?_ (.cons ?_ (.cons ?_ (.cons ?_ (.cons ?_ (.cons ?_ (.cons ?_ (.cons ?_ (.cons ?_ (.cons ?_ (.cons ?_ .nil))))))))))))))))))))))))))
     ·intro D V zw1 a hR hI K hK
      obtain ⟨hM1, hB1, hG1⟩ := hI.1
      have ze6 := hR.frame.other (t := 6) (by kernel_rfl) rfl
      rw [if_pos (by rfl)]
      go_simp
      exact hK (.pointer (some ⟨gx, 0, none⟩)) _ (hI.next hR (by kernel_rfl) (Mod.refl _ _) (PB.quiet hI.1 (Mod.refl _ _) (HGs.out D 0 zw1 zw1 (hI.1).g (Mod.refl _ _))) (upd_same V 0 _))
     ·intro D V zw1 a hR hI K hK
      obtain ⟨hM1, hB1, hG1⟩ := hI.1
      have zd0 := hR.pred 0 (by kernel_rfl)
      have zF0 : V 0 = .pointer (some ⟨gx, 0, none⟩) := hI.2 0 zd0 rfl
      have zf0 := zF0; clear zF0
      have ze18 := hR.frame.done (t := 18) (j := 0) (by kernel_rfl) hR.ok zd0
      have zx0 := hG1.2.1.cell 0; have zx1 := hG1.2.1.cell 1
      simp at zx0 zx1
      rw [if_pos (by rfl)]
      go_simp
      exact hK (.string ⟨x.item.toArray⟩) _ (hI.next hR (by kernel_rfl) (Mod.refl _ _) (PB.quiet hI.1 (Mod.refl _ _) (HGs.out D 1 zw1 zw1 (hI.1).g (Mod.refl _ _))) (upd_same V 1 _))
     ·intro D V zw1 a hR hI K hK
      obtain ⟨hM1, hB1, hG1⟩ := hI.1
      have zd1 := hR.pred 1 (by kernel_rfl)
      have zF1 : V 1 = .string ⟨x.item.toArray⟩ := hI.2 1 zd1 rfl
      have zf1 := zF1; clear zF1
      have ze19 := hR.frame.done (t := 19) (j := 1) (by kernel_rfl) hR.ok zd1
      rw [if_pos (by rfl)]
      go_simp
      refine (HKY.out zw1).mono ?_
      rintro e zw2 ⟨rfl, hm2⟩
      exact hK (.bool kb) _ (hI.next hR (by kernel_rfl) hm2 (PB.quiet hI.1 hm2 (HGs.out D 2 _ _ (hI.1).g hm2)) (upd_same V 2 _))
     ·intro D V zw1 a hR hI K hK
      obtain ⟨hM1, hB1, hG1⟩ := hI.1
      have zd2 := hR.pred 2 (by kernel_rfl)
      have zF2 : V 2 = .bool kb := hI.2 2 zd2 rfl
      have zf2 := zF2; clear zF2
      have ze20 := hR.frame.done (t := 20) (j := 2) (by kernel_rfl) hR.ok zd2
      rw [if_pos (by rfl)]
      go_simp
      exact hK (.bool (!kb)) _ (hI.next hR (by kernel_rfl) (Mod.refl _ _) (PB.quiet hI.1 (Mod.refl _ _) (HGs.out D 3 zw1 zw1 (hI.1).g (Mod.refl _ _))) (upd_same V 3 _))
     ·intro D V zw1 a hR hI K hK
      obtain ⟨hM1, hB1, hG1⟩ := hI.1
      have zd3 := hR.pred 3 (by kernel_rfl)
      have zF3 : V 3 = .bool (!kb) := hI.2 3 zd3 rfl
      have zf3 := zF3; clear zF3
      have ze21 := hR.frame.done (t := 21) (j := 3) (by kernel_rfl) hR.ok zd3
      rw [if_pos (by rfl)]
      go_simp
      refine (whenQ_calls _ _ _ e5 HE5.out).mono ?_
      rintro e zw2 ⟨rfl, hm2⟩
      exact hK (.int .i64 e5) _ (hI.next hR (by kernel_rfl) hm2 (PB.quiet hI.1 hm2 (HGs.out D 4 _ _ (hI.1).g hm2)) (upd_same V 4 _))
     ·intro D V zw1 a hR hI K hK
      obtain ⟨hM1, hB1, hG1⟩ := hI.1
      have ze5 := hR.frame.other (t := 5) (by kernel_rfl) rfl
      rw [if_pos (by rfl)]
      go_simp
      exact hK (.int .i64 0) _ (hI.next hR (by kernel_rfl) (Mod.refl _ _) (PB.quiet hI.1 (Mod.refl _ _) (HGs.out D 5 zw1 zw1 (hI.1).g (Mod.refl _ _))) (upd_same V 5 _))
     ·intro D V zw1 a hR hI K hK
      obtain ⟨hM1, hB1, hG1⟩ := hI.1
      have zd5 := hR.pred 5 (by kernel_rfl)
      have zF5 : V 5 = .int .i64 0 := hI.2 5 zd5 rfl
      have zf5 := zF5; clear zF5
      have ze23 := hR.frame.done (t := 23) (j := 5) (by kernel_rfl) hR.ok zd5
      rw [if_pos (by rfl)]
      go_simp
      exact hK (.bool false) _ (hI.next hR (by kernel_rfl) (Mod.refl _ _) (PB.quiet hI.1 (Mod.refl _ _) (HGs.out D 6 zw1 zw1 (hI.1).g (Mod.refl _ _))) (upd_same V 6 _))
     ·intro D V zw1 a hR hI K hK
      obtain ⟨hM1, hB1, hG1⟩ := hI.1
      have zd6 := hR.pred 6 (by kernel_rfl)
      have zF6 : V 6 = .bool false := hI.2 6 zd6 rfl
      have zf6 := zF6; clear zF6
      have ze24 := hR.frame.done (t := 24) (j := 6) (by kernel_rfl) hR.ok zd6
      rw [if_pos (by rfl)]
      go_simp
      exact hK (.bool false) _ (hI.next hR (by kernel_rfl) (Mod.refl _ _) (PB.quiet hI.1 (Mod.refl _ _) (HGs.out D 7 zw1 zw1 (hI.1).g (Mod.refl _ _))) (upd_same V 7 _))
     ·intro D V zw1 a hR hI K hK
      obtain ⟨hM1, hB1, hG1⟩ := hI.1
      have zd7 := hR.pred 7 (by kernel_rfl)
      have zF7 : V 7 = .bool false := hI.2 7 zd7 rfl
      have zf7 := zF7; clear zF7
      have ze25 := hR.frame.done (t := 25) (j := 7) (by kernel_rfl) hR.ok zd7
      rw [if_neg (by simp [Region.wanted, yielded, ze25, zf7])]
      exact hK undef _ (hI.next hR (by kernel_rfl) (Mod.refl _ _) (PB.quiet hI.1 (Mod.refl _ _) (HGs.out D 8 zw1 zw1 (hI.1).g (Mod.refl _ _))) (upd_same V 8 _))
     ·intro D V zw1 a hR hI K hK
      obtain ⟨hM1, hB1, hG1⟩ := hI.1
      have zd7 := hR.pred 7 (by kernel_rfl)
      have zF7 : V 7 = .bool false := hI.2 7 zd7 rfl
      have zf7 := zF7; clear zF7
      have ze25 := hR.frame.done (t := 25) (j := 7) (by kernel_rfl) hR.ok zd7
      rw [if_neg (by simp [Region.wanted, yielded, ze25, zf7])]
      exact hK undef _ (hI.next hR (by kernel_rfl) (Mod.refl _ _) (PB.quiet hI.1 (Mod.refl _ _) (HGs.out D 9 zw1 zw1 (hI.1).g (Mod.refl _ _))) (upd_same V 9 _))
     ·intro D V zw1 a hR hI K hK
      obtain ⟨hM1, hB1, hG1⟩ := hI.1
      have zd7 := hR.pred 7 (by kernel_rfl)
      have zF7 : V 7 = .bool false := hI.2 7 zd7 rfl
      have zf7 := zF7; clear zF7
      have ze25 := hR.frame.done (t := 25) (j := 7) (by kernel_rfl) hR.ok zd7
      rw [if_neg (by simp [Region.wanted, yielded, ze25, zf7])]
      exact hK undef _ (hI.next hR (by kernel_rfl) (Mod.refl _ _) (PB.quiet hI.1 (Mod.refl _ _) (HGs.out D 10 zw1 zw1 (hI.1).g (Mod.refl _ _))) (upd_same V 10 _))
     ·intro D V zw1 a hR hI K hK
      obtain ⟨hM1, hB1, hG1⟩ := hI.1
      have zd7 := hR.pred 7 (by kernel_rfl)
      have zF7 : V 7 = .bool false := hI.2 7 zd7 rfl
      have zf7 := zF7; clear zF7
      have ze25 := hR.frame.done (t := 25) (j := 7) (by kernel_rfl) hR.ok zd7
      rw [if_neg (by simp [Region.wanted, yielded, ze25, zf7])]
      exact hK undef _ (hI.next hR (by kernel_rfl) (Mod.refl _ _) (PB.quiet hI.1 (Mod.refl _ _) (HGs.out D 11 zw1 zw1 (hI.1).g (Mod.refl _ _))) (upd_same V 11 _))
     ·intro D V zw1 a hR hI K hK
      obtain ⟨hM1, hB1, hG1⟩ := hI.1
      have zd7 := hR.pred 7 (by kernel_rfl)
      have zF7 : V 7 = .bool false := hI.2 7 zd7 rfl
      have zf7 := zF7; clear zF7
      have ze25 := hR.frame.done (t := 25) (j := 7) (by kernel_rfl) hR.ok zd7
      rw [if_neg (by simp [Region.wanted, yielded, ze25, zf7])]
      exact hK undef _ (hI.next hR (by kernel_rfl) (Mod.refl _ _) (PB.quiet hI.1 (Mod.refl _ _) (HGs.out D 12 zw1 zw1 (hI.1).g (Mod.refl _ _))) (upd_same V 12 _))
     ·intro D V zw1 a hR hI K hK
      obtain ⟨hM1, hB1, hG1⟩ := hI.1
      have zd7 := hR.pred 7 (by kernel_rfl)
      have zF7 : V 7 = .bool false := hI.2 7 zd7 rfl
      have zf7 := zF7; clear zF7
      have ze25 := hR.frame.done (t := 25) (j := 7) (by kernel_rfl) hR.ok zd7
      rw [if_neg (by simp [Region.wanted, yielded, ze25, zf7])]
      exact hK undef _ (hI.next hR (by kernel_rfl) (Mod.refl _ _) (PB.quiet hI.1 (Mod.refl _ _) (HGs.out D 13 zw1 zw1 (hI.1).g (Mod.refl _ _))) (upd_same V 13 _))
     ·intro D V zw1 a hR hI K hK
      obtain ⟨hM1, hB1, hG1⟩ := hI.1
      have zd7 := hR.pred 7 (by kernel_rfl)
      have zF7 : V 7 = .bool false := hI.2 7 zd7 rfl
      have zf7 := zF7; clear zF7
      have ze25 := hR.frame.done (t := 25) (j := 7) (by kernel_rfl) hR.ok zd7
      rw [if_neg (by simp [Region.wanted, yielded, ze25, zf7])]
      exact hK undef _ (hI.next hR (by kernel_rfl) (Mod.refl _ _) (PB.quiet hI.1 (Mod.refl _ _) (HGs.out D 14 zw1 zw1 (hI.1).g (Mod.refl _ _))) (upd_same V 14 _))
     ·intro D V zw1 a hR hI K hK
      obtain ⟨hM1, hB1, hG1⟩ := hI.1
      have zd7 := hR.pred 7 (by kernel_rfl)
      have zF7 : V 7 = .bool false := hI.2 7 zd7 rfl
      have zf7 := zF7; clear zF7
      have ze25 := hR.frame.done (t := 25) (j := 7) (by kernel_rfl) hR.ok zd7
      rw [if_neg (by simp [Region.wanted, yielded, ze25, zf7])]
      exact hK undef _ (hI.next hR (by kernel_rfl) (Mod.refl _ _) (PB.quiet hI.1 (Mod.refl _ _) (HGs.out D 15 zw1 zw1 (hI.1).g (Mod.refl _ _))) (upd_same V 15 _))
     ·intro D V zw1 a hR hI K hK
      obtain ⟨hM1, hB1, hG1⟩ := hI.1
      have zd7 := hR.pred 7 (by kernel_rfl)
      have zF7 : V 7 = .bool false := hI.2 7 zd7 rfl
      have zf7 := zF7; clear zF7
      have ze25 := hR.frame.done (t := 25) (j := 7) (by kernel_rfl) hR.ok zd7
      rw [if_neg (by simp [Region.wanted, yielded, ze25, zf7])]
      exact hK undef _ (hI.next hR (by kernel_rfl) (Mod.refl _ _) (PB.quiet hI.1 (Mod.refl _ _) (HGs.out D 16 zw1 zw1 (hI.1).g (Mod.refl _ _))) (upd_same V 16 _))
     ·intro D V zw1 a hR hI K hK
      obtain ⟨hM1, hB1, hG1⟩ := hI.1
      have zd7 := hR.pred 7 (by kernel_rfl)
      have zF7 : V 7 = .bool false := hI.2 7 zd7 rfl
      have zf7 := zF7; clear zF7
      have ze25 := hR.frame.done (t := 25) (j := 7) (by kernel_rfl) hR.ok zd7
      rw [if_neg (by simp [Region.wanted, yielded, ze25, zf7])]
      exact hK undef _ (hI.next hR (by kernel_rfl) (Mod.refl _ _) (PB.quiet hI.1 (Mod.refl _ _) (HGs.out D 17 zw1 zw1 (hI.1).g (Mod.refl _ _))) (upd_same V 17 _))
     ·intro D V zw1 a hR hI K hK
      obtain ⟨hM1, hB1, hG1⟩ := hI.1
      have zd7 := hR.pred 7 (by kernel_rfl)
      have zF7 : V 7 = .bool false := hI.2 7 zd7 rfl
      have zf7 := zF7; clear zF7
      have zd17 := hR.pred 17 (by kernel_rfl)
      have zF17 : V 17 = undef := hI.2 17 zd17 rfl
      have zf17 := zF17; clear zF17
      have ze25 := hR.frame.done (t := 25) (j := 7) (by kernel_rfl) hR.ok zd7
      have ze35 := hR.frame.done (t := 35) (j := 17) (by kernel_rfl) hR.ok zd17
      rw [if_pos (by rfl)]
      go_simp
      exact hK (.bool false) _ (hI.next hR (by kernel_rfl) (Mod.refl _ _) (PB.quiet hI.1 (Mod.refl _ _) (HGs.out D 18 zw1 zw1 (hI.1).g (Mod.refl _ _))) (upd_same V 18 _))
     ·intro D V zw1 a hR hI K hK
      obtain ⟨hM1, hB1, hG1⟩ := hI.1
      have zd18 := hR.pred 18 (by kernel_rfl)
      have zF18 : V 18 = .bool false := hI.2 18 zd18 rfl
      have zf18 := zF18; clear zF18
      have ze36 := hR.frame.done (t := 36) (j := 18) (by kernel_rfl) hR.ok zd18
      rw [if_pos (by rfl)]
      go_simp
      refine (whenQ_calls _ _ _ 0 HE7.out).mono ?_
      rintro e zw2 ⟨rfl, hm2⟩
      exact hK (.int .i64 0) _ (hI.next hR (by kernel_rfl) hm2 (PB.quiet hI.1 hm2 (HGs.out D 19 _ _ (hI.1).g hm2)) (upd_same V 19 _))
     ·intro D V zw1 a hR hI K hK
      obtain ⟨hM1, hB1, hG1⟩ := hI.1
      have ze2 := hR.frame.other (t := 2) (by kernel_rfl) rfl
      have zx0 := hG1.1.cell 0; have zx1 := hG1.1.cell 1
      simp at zx0 zx1
      rw [if_pos (by rfl)]
      go_simp
      exact hK (.agg #[.slice A n c, .slice A3 n3 c3]) _ (hI.next hR (by kernel_rfl) (Mod.refl _ _) (PB.quiet hI.1 (Mod.refl _ _) (HGs.out D 20 zw1 zw1 (hI.1).g (Mod.refl _ _))) (upd_same V 20 _))
     ·intro D V zw1 a hR hI K hK
      obtain ⟨hM1, hB1, hG1⟩ := hI.1
      have ze6 := hR.frame.other (t := 6) (by kernel_rfl) rfl
      rw [if_pos (by rfl)]
      go_simp
      exact hK (.pointer (some ⟨gx, 1, none⟩)) _ (hI.next hR (by kernel_rfl) (Mod.refl _ _) (PB.quiet hI.1 (Mod.refl _ _) (HGs.out D 21 zw1 zw1 (hI.1).g (Mod.refl _ _))) (upd_same V 21 _))
     ·intro D V zw1 a hR hI K hK
      obtain ⟨hM1, hB1, hG1⟩ := hI.1
      have zd21 := hR.pred 21 (by kernel_rfl)
      have zF21 : V 21 = .pointer (some ⟨gx, 1, none⟩) := hI.2 21 zd21 rfl
      have zf21 := zF21; clear zF21
      have ze39 := hR.frame.done (t := 39) (j := 21) (by kernel_rfl) hR.ok zd21
      have zx0 := hG1.2.1.cell 0; have zx1 := hG1.2.1.cell 1
      simp at zx0 zx1
      rw [if_pos (by rfl)]
      go_simp
      exact hK (.slice x.A x.vals.length x.c) _ (hI.next hR (by kernel_rfl) (Mod.refl _ _) (PB.quiet hI.1 (Mod.refl _ _) (HGs.out D 22 zw1 zw1 (hI.1).g (Mod.refl _ _))) (upd_same V 22 _))
     ·intro D V zw1 a hR hI K hK
      obtain ⟨hM1, hB1, hG1⟩ := hI.1
      have zd20 := hR.pred 20 (by kernel_rfl)
      have zF20 : V 20 = .agg #[.slice A n c, .slice A3 n3 c3] := hI.2 20 zd20 rfl
      have zf20 := zF20; clear zF20
      have zd22 := hR.pred 22 (by kernel_rfl)
      have zF22 : V 22 = .slice x.A x.vals.length x.c := hI.2 22 zd22 rfl
      have zf22 := zF22; clear zF22
      have ze38 := hR.frame.done (t := 38) (j := 20) (by kernel_rfl) hR.ok zd20
      have ze40 := hR.frame.done (t := 40) (j := 22) (by kernel_rfl) hR.ok zd22
      rw [if_pos (by rfl)]
      go_simp
      refine (HVX.out zw1 hM1).mono ?_
      rintro e zw2 ⟨rfl, hm2⟩
      exact hK (.int .i64 ve) _ (hI.next hR (by kernel_rfl) hm2 (PB.quiet hI.1 hm2 (HGs.out D 23 _ _ (hI.1).g hm2)) (upd_same V 23 _))
     ·intro D V zw1 a hR hI K hK
      obtain ⟨hM1, hB1, hG1⟩ := hI.1
      have zd4 := hR.pred 4 (by kernel_rfl)
      have zF4 : V 4 = .int .i64 e5 := hI.2 4 zd4 rfl
      have zf4 := zF4; clear zF4
      have zd19 := hR.pred 19 (by kernel_rfl)
      have zF19 : V 19 = .int .i64 0 := hI.2 19 zd19 rfl
      have zf19 := zF19; clear zF19
      have zd23 := hR.pred 23 (by kernel_rfl)
      have zF23 : V 23 = .int .i64 ve := hI.2 23 zd23 rfl
      have zf23 := zF23; clear zF23
      have ze22 := hR.frame.done (t := 22) (j := 4) (by kernel_rfl) hR.ok zd4
      have ze37 := hR.frame.done (t := 37) (j := 19) (by kernel_rfl) hR.ok zd19
      have ze41 := hR.frame.done (t := 41) (j := 23) (by kernel_rfl) hR.ok zd23
      rw [if_pos (by rfl)]
      go_simp
      exact hK (_) _ (hI.next hR (by kernel_rfl) ((Mod.refl _ _).alloc _) (PB.quiet hI.1 (pure_alloc _ _) (HGs.out D 24 _ _ (hI.1).g ((Mod.refl _ _).alloc _))) (⟨_, upd_same V 24 _, (by omega), (Blk.new _ _ _)⟩))
     ·intro D V zw1 a hR hI K hK
      obtain ⟨hM1, hB1, hG1⟩ := hI.1
      have zd24 := hR.pred 24 (by kernel_rfl)
      have zF24 : ∃ (g_24 : Nat), V 24 = .slice (some ⟨g_24, 0, none⟩) 3 3 ∧ w2.heap.size ≤ g_24 ∧ Blk zw1 g_24 41 #[.int .i64 e5, .int .i64 0, .int .i64 ve] := hI.2 24 zd24 (by show (!D 25) = true; rw [hR.not]; rfl)
      obtain ⟨g_24, zf24, c24_0, b24_0⟩ := zF24
      have ze42 := hR.frame.done (t := 42) (j := 24) (by kernel_rfl) hR.ok zd24
      rw [if_pos (by rfl)]
      go_simp
      refine (HF.out zw1 _ b24_0).mono ?_
      rintro e zw2 ⟨rfl, hm2⟩
      exact hK (.int .i64 q1) _ (hI.next hR (by kernel_rfl) hm2 (PB.quiet hI.1 hm2 (HGs.out D 25 _ _ (hI.1).g hm2)) (upd_same V 25 _))
     ·intro D V zw1 a hR hI K hK
      obtain ⟨hM1, hB1, hG1⟩ := hI.1
      have zd25 := hR.pred 25 (by kernel_rfl)
      have zF25 : V 25 = .int .i64 q1 := hI.2 25 zd25 rfl
      have zf25 := zF25; clear zF25
      have ze43 := hR.frame.done (t := 43) (j := 25) (by kernel_rfl) hR.ok zd25
      rw [if_pos (by rfl)]
      go_simp
      exact hK (.int .i64 q1) _ (hI.next hR (by kernel_rfl) (Mod.refl _ _) (PB.quiet hI.1 (Mod.refl _ _) (HGs.out D 26 zw1 zw1 (hI.1).g (Mod.refl _ _))) (upd_same V 26 _))
    ·intro D V w3 hD hI
     obtain ⟨hM1, hB1, hG1⟩ := hI.1
     have hMx := hM1
     clear hM1
     have hBx := hB1
     clear hB1
     have hGx := hG1
     clear hG1
     have zF0 : V 0 = .pointer (some ⟨gx, 0, none⟩) := hI.2 0 (hD 0 (by decide)) rfl
     have zf0 := zF0; clear zF0
     have zF1 : V 1 = .string ⟨x.item.toArray⟩ := hI.2 1 (hD 1 (by decide)) rfl
     have zf1 := zF1; clear zF1
     have zF2 : V 2 = .bool kb := hI.2 2 (hD 2 (by decide)) rfl
     have zf2 := zF2; clear zF2
     have zF3 : V 3 = .bool (!kb) := hI.2 3 (hD 3 (by decide)) rfl
     have zf3 := zF3; clear zF3
     have zF4 : V 4 = .int .i64 e5 := hI.2 4 (hD 4 (by decide)) rfl
     have zf4 := zF4; clear zF4
     have zF5 : V 5 = .int .i64 0 := hI.2 5 (hD 5 (by decide)) rfl
     have zf5 := zF5; clear zF5
     have zF6 : V 6 = .bool false := hI.2 6 (hD 6 (by decide)) rfl
     have zf6 := zF6; clear zF6
     have zF7 : V 7 = .bool false := hI.2 7 (hD 7 (by decide)) rfl
     have zf7 := zF7; clear zF7
     have zF8 : V 8 = undef := hI.2 8 (hD 8 (by decide)) rfl
     have zf8 := zF8; clear zF8
     have zF9 : V 9 = undef := hI.2 9 (hD 9 (by decide)) rfl
     have zf9 := zF9; clear zF9
     have zF10 : V 10 = undef := hI.2 10 (hD 10 (by decide)) rfl
     have zf10 := zF10; clear zF10
     have zF11 : V 11 = undef := hI.2 11 (hD 11 (by decide)) rfl
     have zf11 := zF11; clear zF11
     have zF12 : V 12 = undef := hI.2 12 (hD 12 (by decide)) rfl
     have zf12 := zF12; clear zF12
     have zF13 : V 13 = undef := hI.2 13 (hD 13 (by decide)) rfl
     have zf13 := zF13; clear zF13
     have zF14 : V 14 = undef := hI.2 14 (hD 14 (by decide)) rfl
     have zf14 := zF14; clear zF14
     have zF15 : V 15 = undef := hI.2 15 (hD 15 (by decide)) rfl
     have zf15 := zF15; clear zF15
     have zF16 : V 16 = undef := hI.2 16 (hD 16 (by decide)) rfl
     have zf16 := zF16; clear zF16
     have zF17 : V 17 = undef := hI.2 17 (hD 17 (by decide)) rfl
     have zf17 := zF17; clear zF17
     have zF18 : V 18 = .bool false := hI.2 18 (hD 18 (by decide)) rfl
     have zf18 := zF18; clear zF18
     have zF19 : V 19 = .int .i64 0 := hI.2 19 (hD 19 (by decide)) rfl
     have zf19 := zF19; clear zF19
     have zF20 : V 20 = .agg #[.slice A n c, .slice A3 n3 c3] := hI.2 20 (hD 20 (by decide)) rfl
     have zf20 := zF20; clear zF20
     have zF21 : V 21 = .pointer (some ⟨gx, 1, none⟩) := hI.2 21 (hD 21 (by decide)) rfl
     have zf21 := zF21; clear zF21
     have zF22 : V 22 = .slice x.A x.vals.length x.c := hI.2 22 (hD 22 (by decide)) rfl
     have zf22 := zF22; clear zF22
     have zF23 : V 23 = .int .i64 ve := hI.2 23 (hD 23 (by decide)) rfl
     have zf23 := zF23; clear zF23
     have zF25 : V 25 = .int .i64 q1 := hI.2 25 (hD 25 (by decide)) rfl
     have zf25 := zF25; clear zF25
     have zF26 : V 26 = .int .i64 q1 := hI.2 26 (hD 26 (by decide)) rfl
     have zf26 := zF26; clear zF26
     clear hI hD HGs
     simp only [frAll, Act.put, List.setIfInBounds_toArray, List.set_cons_zero, List.set_cons_succ, Nat.zero_add, Nat.reduceAdd, zf0, zf1, zf2, zf3, zf4, zf5, zf6, zf7, zf8, zf9, zf10, zf11, zf12, zf13, zf14, zf15, zf16, zf17, zf18, zf19, zf20, zf21, zf22, zf23, zf25, zf26]
     clear zf0 zf1 zf2 zf3 zf4 zf5 zf6 zf7 zf8 zf9 zf10 zf11 zf12 zf13 zf14 zf15 zf16 zf17 zf18 zf19 zf20 zf21 zf22 zf23 zf25 zf26
     generalize V 24 = u24
     clear V D
     have HM3 := Lib.hid hMx
     have HB3 := Lib.hid hGx.1
     clear hMx hGx hBx HKY HVX HF HB1 HC1 HP1 HA1
     by_cases h0 : q1 = 0
     ·subst h0
      have HS2 : Hid (ceE L (prvC xs (0 + 1)) (xs.drop (0 + 1)) = q) := Lib.hid (by rw [HPV.out]; have h := HST.out; rw [if_neg (by simp)] at h; exact h.symm)
      clear HST HPV
      go_wp2_with fail
      go_roundg (xs.length - (0 + 1))
      case measure => omega
      case rel => exact ⟨0 + 1, rfl, by omega, by simp, HS2.out, HB3.out, HM3.out⟩
     ·have h0' : (q1 != 0) = true := by simpa using h0
      have HS2 : Hid (q = q1) := Lib.hid (by have h := HST.out; rw [if_pos h0] at h; exact h)
      clear HST HPV h0
      go_wp2_with fail
      go_ret
      exact IntPost.of HS2.out HM3.out
   ·obtain ⟨j, rfl⟩ : ∃ j, k = j + 1 := ⟨k - 1, by omega⟩
    clear HK0
    have HXJ := Lib.hid (HNX.out j rfl)
    obtain ⟨e7, he7⟩ : ∃ e, (if lb = true then (7 : Int) else 0) = e := ⟨_, rfl⟩
    have HE7 := Lib.hid he7
    rw [he7] at HST
    obtain ⟨q1, hq1⟩ : ∃ q, firstErr [e5, e7, ve] = q := ⟨_, rfl⟩
    rw [hq1] at HST
    have HF : Hid (∀ (W : World) (g : Nat), Blk W g 41 #[.int .i64 e5, .int .i64 e7, .int .i64 ve] → Calls Tryz.prog 55 #[.slice (some ⟨g, 0, none⟩) 3 3] W (IntPost W q1)) := Lib.hid (fun W g h => by
     have := firstE_calls W g 3 [e5, e7, ve] h.row0 (by simp)
     rwa [hq1] at this)
    have HLB := Lib.hid hlb
    clear he5 he7 hlb hve hkb HXI hq1 HNX
    have i1 : (0 : Int) ≤ (j : Int) := by omega
    have i2 : (j : Int) + 1 < (xs.length : Int) := by omega
    have i3 : j < xs.length := by omega
    have HGs := Lib.hid (show ∀ (D : Nat → Bool) (zzi : Nat) (zq zq' : World), (fun _ zq => (fun Z => Blk Z gl 29 #[.slice A n c, .slice A3 n3 c3] ∧ Blk Z gx 69 #[.string ⟨x.item.toArray⟩, .slice x.A x.vals.length x.c] ∧ Z.cell? ⟨g, off + j * 2, none⟩ = some (.string ⟨pv.toArray⟩)) zq) D zq → Mod (fun _ => False) zq zq' → (fun _ zq => (fun Z => Blk Z gl 29 #[.slice A n c, .slice A3 n3 c3] ∧ Blk Z gx 69 #[.string ⟨x.item.toArray⟩, .slice x.A x.vals.length x.c] ∧ Z.cell? ⟨g, off + j * 2, none⟩ = some (.string ⟨pv.toArray⟩)) zq) (upd D zzi true) zq' from by intro D zzi zq zq' h hm; (exact ⟨h.1.modp hm, h.2.1.modp hm, keepp h.2.2 hm⟩))
    refine wp_region_inv (by kernel_rfl) (by kernel_rfl) (InvF (R := Mod (fun _ => False)) [.is (.pointer (some ⟨gx, 0, none⟩)),
      .is (.string ⟨x.item.toArray⟩),
      .is (.bool kb),
      .is (.bool (!kb)),
      .is (.int .i64 e5),
      .is (.int .i64 ((j : Int) + 1)),
      .is (.bool true),
      .is (.bool true),
      .is (.pointer (some ⟨gx, 0, none⟩)),
      .is (.string ⟨x.item.toArray⟩),
      .is (.slice (some ⟨g, off, none⟩) xs.length c1),
      .is (.int .i64 ((j : Int) + 1)),
      .is (.int .i64 ((j : Int) + 1)),
      .is (.int .i64 (j : Int)),
      .is (.pointer (some ⟨g, off + j * 2, none⟩)),
      .is (.pointer (some ⟨g, off + j * 2, none⟩)),
      .is (.string ⟨pv.toArray⟩),
      .is (.bool lb),
      .is (.bool lb),
      .is (.int .i64 e7),
      .is (.agg #[.slice A n c, .slice A3 n3 c3]),
      .is (.pointer (some ⟨gx, 1, none⟩)),
      .is (.slice x.A x.vals.length x.c),
      .is (.int .i64 ve),
      ⟨fun zv zw => ∃ (g_24 : Nat), zv = .slice (some ⟨g_24, 0, none⟩) 3 3 ∧ w2.heap.size ≤ g_24 ∧ Blk zw g_24 41 #[.int .i64 e5, .int .i64 e7, .int .i64 ve], (by rintro zv zw zx ⟨g_24, rfl, c0, q0⟩ hm; exact ⟨g_24, rfl, c0, (q0.modp hm)⟩), none, some 25⟩,
      .is (.int .i64 q1),
      .is (.int .i64 q1)]
      (PB w (fun _ => False) w2.heap.size (fun _ zq => (fun Z => Blk Z gl 29 #[.slice A n c, .slice A3 n3 c3] ∧ Blk Z gx 69 #[.string ⟨x.item.toArray⟩, .slice x.A x.vals.length x.c] ∧ Z.cell? ⟨g, off + j * 2, none⟩ = some (.string ⟨pv.toArray⟩)) zq))) (InvF.start (PB.start HP1.out (Nat.le_refl _) (⟨HB1.out.drew, HC1.out.drew, (keepp HXJ.out HA1.out.drew)⟩))) ?_ ?_
    ·refine .cons ?_ (.cons ?_ (.cons ?_ (.cons ?_ (.cons ?_ (.cons ?_ (.cons ?_ (.cons ?_ (.cons ?_ (.cons ?_ (.cons ?_ (.cons ?_ (.cons ?_ (.cons ?_ (.cons ?_ (.cons ?_ (.cons ?_ (.cons ?_ (.cons ?_ (.cons ?_ (.cons ?_ (.cons ?_ (.cons ?_ (.cons ?_ (.cons ?_ (.cons ?_ (.cons ?_ .nil))))))))))))))))))))))))))
     ·intro D V zw1 a hR hI K hK
      obtain ⟨hM1, hB1, hG1⟩ := hI.1
      have ze6 := hR.frame.other (t := 6) (by kernel_rfl) rfl
      rw [if_pos (by rfl)]
      go_simp
      exact hK (.pointer (some ⟨gx, 0, none⟩)) _ (hI.next hR (by kernel_rfl) (Mod.refl _ _) (PB.quiet hI.1 (Mod.refl _ _) (HGs.out D 0 zw1 zw1 (hI.1).g (Mod.refl _ _))) (upd_same V 0 _))
     ·intro D V zw1 a hR hI K hK
      obtain ⟨hM1, hB1, hG1⟩ := hI.1
      have zd0 := hR.pred 0 (by kernel_rfl)
      have zF0 : V 0 = .pointer (some ⟨gx, 0, none⟩) := hI.2 0 zd0 rfl
      have zf0 := zF0; clear zF0
      have ze18 := hR.frame.done (t := 18) (j := 0) (by kernel_rfl) hR.ok zd0
      have zx0 := hG1.2.1.cell 0; have zx1 := hG1.2.1.cell 1
      simp at zx0 zx1
      rw [if_pos (by rfl)]
      go_simp
      exact hK (.string ⟨x.item.toArray⟩) _ (hI.next hR (by kernel_rfl) (Mod.refl _ _) (PB.quiet hI.1 (Mod.refl _ _) (HGs.out D 1 zw1 zw1 (hI.1).g (Mod.refl _ _))) (upd_same V 1 _))
     ·intro D V zw1 a hR hI K hK
      obtain ⟨hM1, hB1, hG1⟩ := hI.1
      have zd1 := hR.pred 1 (by kernel_rfl)
      have zF1 : V 1 = .string ⟨x.item.toArray⟩ := hI.2 1 zd1 rfl
      have zf1 := zF1; clear zF1
      have ze19 := hR.frame.done (t := 19) (j := 1) (by kernel_rfl) hR.ok zd1
      rw [if_pos (by rfl)]
      go_simp
      refine (HKY.out zw1).mono ?_
      rintro e zw2 ⟨rfl, hm2⟩
      exact hK (.bool kb) _ (hI.next hR (by kernel_rfl) hm2 (PB.quiet hI.1 hm2 (HGs.out D 2 _ _ (hI.1).g hm2)) (upd_same V 2 _))
     ·intro D V zw1 a hR hI K hK
      obtain ⟨hM1, hB1, hG1⟩ := hI.1
      have zd2 := hR.pred 2 (by kernel_rfl)
      have zF2 : V 2 = .bool kb := hI.2 2 zd2 rfl
      have zf2 := zF2; clear zF2
      have ze20 := hR.frame.done (t := 20) (j := 2) (by kernel_rfl) hR.ok zd2
      rw [if_pos (by rfl)]
      go_simp
      exact hK (.bool (!kb)) _ (hI.next hR (by kernel_rfl) (Mod.refl _ _) (PB.quiet hI.1 (Mod.refl _ _) (HGs.out D 3 zw1 zw1 (hI.1).g (Mod.refl _ _))) (upd_same V 3 _))
     ·intro D V zw1 a hR hI K hK
      obtain ⟨hM1, hB1, hG1⟩ := hI.1
      have zd3 := hR.pred 3 (by kernel_rfl)
      have zF3 : V 3 = .bool (!kb) := hI.2 3 zd3 rfl
      have zf3 := zF3; clear zF3
      have ze21 := hR.frame.done (t := 21) (j := 3) (by kernel_rfl) hR.ok zd3
      rw [if_pos (by rfl)]
      go_simp
      refine (whenQ_calls _ _ _ e5 HE5.out).mono ?_
      rintro e zw2 ⟨rfl, hm2⟩
      exact hK (.int .i64 e5) _ (hI.next hR (by kernel_rfl) hm2 (PB.quiet hI.1 hm2 (HGs.out D 4 _ _ (hI.1).g hm2)) (upd_same V 4 _))
     ·intro D V zw1 a hR hI K hK
      obtain ⟨hM1, hB1, hG1⟩ := hI.1
      have ze5 := hR.frame.other (t := 5) (by kernel_rfl) rfl
      rw [if_pos (by rfl)]
      go_simp
      exact hK (.int .i64 ((j : Int) + 1)) _ (hI.next hR (by kernel_rfl) (Mod.refl _ _) (PB.quiet hI.1 (Mod.refl _ _) (HGs.out D 5 zw1 zw1 (hI.1).g (Mod.refl _ _))) (upd_same V 5 _))
     ·intro D V zw1 a hR hI K hK
      obtain ⟨hM1, hB1, hG1⟩ := hI.1
      have zd5 := hR.pred 5 (by kernel_rfl)
      have zF5 : V 5 = .int .i64 ((j : Int) + 1) := hI.2 5 zd5 rfl
      have zf5 := zF5; clear zF5
      have ze23 := hR.frame.done (t := 23) (j := 5) (by kernel_rfl) hR.ok zd5
      rw [if_pos (by rfl)]
      go_simp
      exact hK (.bool true) _ (hI.next hR (by kernel_rfl) (Mod.refl _ _) (PB.quiet hI.1 (Mod.refl _ _) (HGs.out D 6 zw1 zw1 (hI.1).g (Mod.refl _ _))) (upd_same V 6 _))
     ·intro D V zw1 a hR hI K hK
      obtain ⟨hM1, hB1, hG1⟩ := hI.1
      have zd6 := hR.pred 6 (by kernel_rfl)
      have zF6 : V 6 = .bool true := hI.2 6 zd6 rfl
      have zf6 := zF6; clear zF6
      have ze24 := hR.frame.done (t := 24) (j := 6) (by kernel_rfl) hR.ok zd6
      rw [if_pos (by rfl)]
      go_simp
      exact hK (.bool true) _ (hI.next hR (by kernel_rfl) (Mod.refl _ _) (PB.quiet hI.1 (Mod.refl _ _) (HGs.out D 7 zw1 zw1 (hI.1).g (Mod.refl _ _))) (upd_same V 7 _))
     ·intro D V zw1 a hR hI K hK
      obtain ⟨hM1, hB1, hG1⟩ := hI.1
      have zd7 := hR.pred 7 (by kernel_rfl)
      have zF7 : V 7 = .bool true := hI.2 7 zd7 rfl
      have zf7 := zF7; clear zF7
      have ze6 := hR.frame.other (t := 6) (by kernel_rfl) rfl
      have ze25 := hR.frame.done (t := 25) (j := 7) (by kernel_rfl) hR.ok zd7
      rw [if_pos (by simp [Region.wanted, yielded, ze25, zf7])]
      go_simp
      exact hK (.pointer (some ⟨gx, 0, none⟩)) _ (hI.next hR (by kernel_rfl) (Mod.refl _ _) (PB.quiet hI.1 (Mod.refl _ _) (HGs.out D 8 zw1 zw1 (hI.1).g (Mod.refl _ _))) (upd_same V 8 _))
     ·intro D V zw1 a hR hI K hK
      obtain ⟨hM1, hB1, hG1⟩ := hI.1
      have zd8 := hR.pred 8 (by kernel_rfl)
      have zF8 : V 8 = .pointer (some ⟨gx, 0, none⟩) := hI.2 8 zd8 rfl
      have zf8 := zF8; clear zF8
      have zd7 := hR.pred 7 (by kernel_rfl)
      have zF7 : V 7 = .bool true := hI.2 7 zd7 rfl
      have zf7 := zF7; clear zF7
      have ze26 := hR.frame.done (t := 26) (j := 8) (by kernel_rfl) hR.ok zd8
      have zx0 := hG1.2.1.cell 0; have zx1 := hG1.2.1.cell 1
      simp at zx0 zx1
      have ze25 := hR.frame.done (t := 25) (j := 7) (by kernel_rfl) hR.ok zd7
      rw [if_pos (by simp [Region.wanted, yielded, ze25, zf7])]
      go_simp
      exact hK (.string ⟨x.item.toArray⟩) _ (hI.next hR (by kernel_rfl) (Mod.refl _ _) (PB.quiet hI.1 (Mod.refl _ _) (HGs.out D 9 zw1 zw1 (hI.1).g (Mod.refl _ _))) (upd_same V 9 _))
     ·intro D V zw1 a hR hI K hK
      obtain ⟨hM1, hB1, hG1⟩ := hI.1
      have zd7 := hR.pred 7 (by kernel_rfl)
      have zF7 : V 7 = .bool true := hI.2 7 zd7 rfl
      have zf7 := zF7; clear zF7
      have ze1 := hR.frame.other (t := 1) (by kernel_rfl) rfl
      have ze25 := hR.frame.done (t := 25) (j := 7) (by kernel_rfl) hR.ok zd7
      rw [if_pos (by simp [Region.wanted, yielded, ze25, zf7])]
      go_simp
      exact hK (.slice (some ⟨g, off, none⟩) xs.length c1) _ (hI.next hR (by kernel_rfl) (Mod.refl _ _) (PB.quiet hI.1 (Mod.refl _ _) (HGs.out D 10 zw1 zw1 (hI.1).g (Mod.refl _ _))) (upd_same V 10 _))
     ·intro D V zw1 a hR hI K hK
      obtain ⟨hM1, hB1, hG1⟩ := hI.1
      have zd7 := hR.pred 7 (by kernel_rfl)
      have zF7 : V 7 = .bool true := hI.2 7 zd7 rfl
      have zf7 := zF7; clear zF7
      have ze5 := hR.frame.other (t := 5) (by kernel_rfl) rfl
      have ze25 := hR.frame.done (t := 25) (j := 7) (by kernel_rfl) hR.ok zd7
      rw [if_pos (by simp [Region.wanted, yielded, ze25, zf7])]
      go_simp
      exact hK (.int .i64 ((j : Int) + 1)) _ (hI.next hR (by kernel_rfl) (Mod.refl _ _) (PB.quiet hI.1 (Mod.refl _ _) (HGs.out D 11 zw1 zw1 (hI.1).g (Mod.refl _ _))) (upd_same V 11 _))
     ·intro D V zw1 a hR hI K hK
      obtain ⟨hM1, hB1, hG1⟩ := hI.1
      have zd11 := hR.pred 11 (by kernel_rfl)
      have zF11 : V 11 = .int .i64 ((j : Int) + 1) := hI.2 11 zd11 rfl
      have zf11 := zF11; clear zF11
      have zd7 := hR.pred 7 (by kernel_rfl)
      have zF7 : V 7 = .bool true := hI.2 7 zd7 rfl
      have zf7 := zF7; clear zF7
      have ze29 := hR.frame.done (t := 29) (j := 11) (by kernel_rfl) hR.ok zd11
      have hmx : max ((j : Int) + 1) 1 = (j : Int) + 1 := by omega
      have ze25 := hR.frame.done (t := 25) (j := 7) (by kernel_rfl) hR.ok zd7
      rw [if_pos (by simp [Region.wanted, yielded, ze25, zf7])]
      go_simp
      exact hK (.int .i64 ((j : Int) + 1)) _ (hI.next hR (by kernel_rfl) (Mod.refl _ _) (PB.quiet hI.1 (Mod.refl _ _) (HGs.out D 12 zw1 zw1 (hI.1).g (Mod.refl _ _))) (upd_same V 12 _))
     ·intro D V zw1 a hR hI K hK
      obtain ⟨hM1, hB1, hG1⟩ := hI.1
      have zd12 := hR.pred 12 (by kernel_rfl)
      have zF12 : V 12 = .int .i64 ((j : Int) + 1) := hI.2 12 zd12 rfl
      have zf12 := zF12; clear zF12
      have zd7 := hR.pred 7 (by kernel_rfl)
      have zF7 : V 7 = .bool true := hI.2 7 zd7 rfl
      have zf7 := zF7; clear zF7
      have ze30 := hR.frame.done (t := 30) (j := 12) (by kernel_rfl) hR.ok zd12
      have hw : IntKind.i64.wrap (j : Int) = (j : Int) := IntWalk.i64_in _ (by omega)
      have ze25 := hR.frame.done (t := 25) (j := 7) (by kernel_rfl) hR.ok zd7
      rw [if_pos (by simp [Region.wanted, yielded, ze25, zf7])]
      go_simp
      exact hK (.int .i64 (j : Int)) _ (hI.next hR (by kernel_rfl) (Mod.refl _ _) (PB.quiet hI.1 (Mod.refl _ _) (HGs.out D 13 zw1 zw1 (hI.1).g (Mod.refl _ _))) (upd_same V 13 _))
     ·intro D V zw1 a hR hI K hK
      obtain ⟨hM1, hB1, hG1⟩ := hI.1
      have zd10 := hR.pred 10 (by kernel_rfl)
      have zF10 : V 10 = .slice (some ⟨g, off, none⟩) xs.length c1 := hI.2 10 zd10 rfl
      have zf10 := zF10; clear zF10
      have zd13 := hR.pred 13 (by kernel_rfl)
      have zF13 : V 13 = .int .i64 (j : Int) := hI.2 13 zd13 rfl
      have zf13 := zF13; clear zF13
      have zd7 := hR.pred 7 (by kernel_rfl)
      have zF7 : V 7 = .bool true := hI.2 7 zd7 rfl
      have zf7 := zF7; clear zF7
      have ze28 := hR.frame.done (t := 28) (j := 10) (by kernel_rfl) hR.ok zd10
      have ze31 := hR.frame.done (t := 31) (j := 13) (by kernel_rfl) hR.ok zd13
      have ze25 := hR.frame.done (t := 25) (j := 7) (by kernel_rfl) hR.ok zd7
      rw [if_pos (by simp [Region.wanted, yielded, ze25, zf7])]
      go_simp
      exact hK (.pointer (some ⟨g, off + j * 2, none⟩)) _ (hI.next hR (by kernel_rfl) (Mod.refl _ _) (PB.quiet hI.1 (Mod.refl _ _) (HGs.out D 14 zw1 zw1 (hI.1).g (Mod.refl _ _))) (upd_same V 14 _))
     ·intro D V zw1 a hR hI K hK
      obtain ⟨hM1, hB1, hG1⟩ := hI.1
      have zd14 := hR.pred 14 (by kernel_rfl)
      have zF14 : V 14 = .pointer (some ⟨g, off + j * 2, none⟩) := hI.2 14 zd14 rfl
      have zf14 := zF14; clear zF14
      have zd7 := hR.pred 7 (by kernel_rfl)
      have zF7 : V 7 = .bool true := hI.2 7 zd7 rfl
      have zf7 := zF7; clear zF7
      have ze32 := hR.frame.done (t := 32) (j := 14) (by kernel_rfl) hR.ok zd14
      have ze25 := hR.frame.done (t := 25) (j := 7) (by kernel_rfl) hR.ok zd7
      rw [if_pos (by simp [Region.wanted, yielded, ze25, zf7])]
      go_simp
      exact hK (.pointer (some ⟨g, off + j * 2, none⟩)) _ (hI.next hR (by kernel_rfl) (Mod.refl _ _) (PB.quiet hI.1 (Mod.refl _ _) (HGs.out D 15 zw1 zw1 (hI.1).g (Mod.refl _ _))) (upd_same V 15 _))
     ·intro D V zw1 a hR hI K hK
      obtain ⟨hM1, hB1, hG1⟩ := hI.1
      have zd15 := hR.pred 15 (by kernel_rfl)
      have zF15 : V 15 = .pointer (some ⟨g, off + j * 2, none⟩) := hI.2 15 zd15 rfl
      have zf15 := zF15; clear zF15
      have zd7 := hR.pred 7 (by kernel_rfl)
      have zF7 : V 7 = .bool true := hI.2 7 zd7 rfl
      have zf7 := zF7; clear zF7
      have ze33 := hR.frame.done (t := 33) (j := 15) (by kernel_rfl) hR.ok zd15
      have zx0 := hG1.2.2
      have ze25 := hR.frame.done (t := 25) (j := 7) (by kernel_rfl) hR.ok zd7
      rw [if_pos (by simp [Region.wanted, yielded, ze25, zf7])]
      go_simp
      exact hK (.string ⟨pv.toArray⟩) _ (hI.next hR (by kernel_rfl) (Mod.refl _ _) (PB.quiet hI.1 (Mod.refl _ _) (HGs.out D 16 zw1 zw1 (hI.1).g (Mod.refl _ _))) (upd_same V 16 _))
     ·intro D V zw1 a hR hI K hK
      obtain ⟨hM1, hB1, hG1⟩ := hI.1
      have zd9 := hR.pred 9 (by kernel_rfl)
      have zF9 : V 9 = .string ⟨x.item.toArray⟩ := hI.2 9 zd9 rfl
      have zf9 := zF9; clear zF9
      have zd16 := hR.pred 16 (by kernel_rfl)
      have zF16 : V 16 = .string ⟨pv.toArray⟩ := hI.2 16 zd16 rfl
      have zf16 := zF16; clear zF16
      have zd7 := hR.pred 7 (by kernel_rfl)
      have zF7 : V 7 = .bool true := hI.2 7 zd7 rfl
      have zf7 := zF7; clear zF7
      have ze27 := hR.frame.done (t := 27) (j := 9) (by kernel_rfl) hR.ok zd9
      have ze34 := hR.frame.done (t := 34) (j := 16) (by kernel_rfl) hR.ok zd16
      have zlb : (Op.bytesLess x.item pv || x.item == pv) = lb := HLB.out
      have ze25 := hR.frame.done (t := 25) (j := 7) (by kernel_rfl) hR.ok zd7
      rw [if_pos (by simp [Region.wanted, yielded, ze25, zf7])]
      go_simp
      exact hK (.bool lb) _ (hI.next hR (by kernel_rfl) (Mod.refl _ _) (PB.quiet hI.1 (Mod.refl _ _) (HGs.out D 17 zw1 zw1 (hI.1).g (Mod.refl _ _))) (upd_same V 17 _))
     ·intro D V zw1 a hR hI K hK
      obtain ⟨hM1, hB1, hG1⟩ := hI.1
      have zd7 := hR.pred 7 (by kernel_rfl)
      have zF7 : V 7 = .bool true := hI.2 7 zd7 rfl
      have zf7 := zF7; clear zF7
      have zd17 := hR.pred 17 (by kernel_rfl)
      have zF17 : V 17 = .bool lb := hI.2 17 zd17 rfl
      have zf17 := zF17; clear zF17
      have ze25 := hR.frame.done (t := 25) (j := 7) (by kernel_rfl) hR.ok zd7
      have ze35 := hR.frame.done (t := 35) (j := 17) (by kernel_rfl) hR.ok zd17
      rw [if_pos (by rfl)]
      go_simp
      exact hK (.bool lb) _ (hI.next hR (by kernel_rfl) (Mod.refl _ _) (PB.quiet hI.1 (Mod.refl _ _) (HGs.out D 18 zw1 zw1 (hI.1).g (Mod.refl _ _))) (upd_same V 18 _))
     ·intro D V zw1 a hR hI K hK
      obtain ⟨hM1, hB1, hG1⟩ := hI.1
      have zd18 := hR.pred 18 (by kernel_rfl)
      have zF18 : V 18 = .bool lb := hI.2 18 zd18 rfl
      have zf18 := zF18; clear zF18
      have ze36 := hR.frame.done (t := 36) (j := 18) (by kernel_rfl) hR.ok zd18
      rw [if_pos (by rfl)]
      go_simp
      refine (whenQ_calls _ _ _ e7 HE7.out).mono ?_
      rintro e zw2 ⟨rfl, hm2⟩
      exact hK (.int .i64 e7) _ (hI.next hR (by kernel_rfl) hm2 (PB.quiet hI.1 hm2 (HGs.out D 19 _ _ (hI.1).g hm2)) (upd_same V 19 _))
     ·intro D V zw1 a hR hI K hK
      obtain ⟨hM1, hB1, hG1⟩ := hI.1
      have ze2 := hR.frame.other (t := 2) (by kernel_rfl) rfl
      have zx0 := hG1.1.cell 0; have zx1 := hG1.1.cell 1
      simp at zx0 zx1
      rw [if_pos (by rfl)]
      go_simp
      exact hK (.agg #[.slice A n c, .slice A3 n3 c3]) _ (hI.next hR (by kernel_rfl) (Mod.refl _ _) (PB.quiet hI.1 (Mod.refl _ _) (HGs.out D 20 zw1 zw1 (hI.1).g (Mod.refl _ _))) (upd_same V 20 _))
     ·intro D V zw1 a hR hI K hK
      obtain ⟨hM1, hB1, hG1⟩ := hI.1
      have ze6 := hR.frame.other (t := 6) (by kernel_rfl) rfl
      rw [if_pos (by rfl)]
      go_simp
      exact hK (.pointer (some ⟨gx, 1, none⟩)) _ (hI.next hR (by kernel_rfl) (Mod.refl _ _) (PB.quiet hI.1 (Mod.refl _ _) (HGs.out D 21 zw1 zw1 (hI.1).g (Mod.refl _ _))) (upd_same V 21 _))
     ·intro D V zw1 a hR hI K hK
      obtain ⟨hM1, hB1, hG1⟩ := hI.1
      have zd21 := hR.pred 21 (by kernel_rfl)
      have zF21 : V 21 = .pointer (some ⟨gx, 1, none⟩) := hI.2 21 zd21 rfl
      have zf21 := zF21; clear zF21
      have ze39 := hR.frame.done (t := 39) (j := 21) (by kernel_rfl) hR.ok zd21
      have zx0 := hG1.2.1.cell 0; have zx1 := hG1.2.1.cell 1
      simp at zx0 zx1
      rw [if_pos (by rfl)]
      go_simp
      exact hK (.slice x.A x.vals.length x.c) _ (hI.next hR (by kernel_rfl) (Mod.refl _ _) (PB.quiet hI.1 (Mod.refl _ _) (HGs.out D 22 zw1 zw1 (hI.1).g (Mod.refl _ _))) (upd_same V 22 _))
     ·intro D V zw1 a hR hI K hK
      obtain ⟨hM1, hB1, hG1⟩ := hI.1
      have zd20 := hR.pred 20 (by kernel_rfl)
      have zF20 : V 20 = .agg #[.slice A n c, .slice A3 n3 c3] := hI.2 20 zd20 rfl
      have zf20 := zF20; clear zF20
      have zd22 := hR.pred 22 (by kernel_rfl)
      have zF22 : V 22 = .slice x.A x.vals.length x.c := hI.2 22 zd22 rfl
      have zf22 := zF22; clear zF22
      have ze38 := hR.frame.done (t := 38) (j := 20) (by kernel_rfl) hR.ok zd20
      have ze40 := hR.frame.done (t := 40) (j := 22) (by kernel_rfl) hR.ok zd22
      rw [if_pos (by rfl)]
      go_simp
      refine (HVX.out zw1 hM1).mono ?_
      rintro e zw2 ⟨rfl, hm2⟩
      exact hK (.int .i64 ve) _ (hI.next hR (by kernel_rfl) hm2 (PB.quiet hI.1 hm2 (HGs.out D 23 _ _ (hI.1).g hm2)) (upd_same V 23 _))
     ·intro D V zw1 a hR hI K hK
      obtain ⟨hM1, hB1, hG1⟩ := hI.1
      have zd4 := hR.pred 4 (by kernel_rfl)
      have zF4 : V 4 = .int .i64 e5 := hI.2 4 zd4 rfl
      have zf4 := zF4; clear zF4
      have zd19 := hR.pred 19 (by kernel_rfl)
      have zF19 : V 19 = .int .i64 e7 := hI.2 19 zd19 rfl
      have zf19 := zF19; clear zF19
      have zd23 := hR.pred 23 (by kernel_rfl)
      have zF23 : V 23 = .int .i64 ve := hI.2 23 zd23 rfl
      have zf23 := zF23; clear zF23
      have ze22 := hR.frame.done (t := 22) (j := 4) (by kernel_rfl) hR.ok zd4
      have ze37 := hR.frame.done (t := 37) (j := 19) (by kernel_rfl) hR.ok zd19
      have ze41 := hR.frame.done (t := 41) (j := 23) (by kernel_rfl) hR.ok zd23
      rw [if_pos (by rfl)]
      go_simp
      exact hK (_) _ (hI.next hR (by kernel_rfl) ((Mod.refl _ _).alloc _) (PB.quiet hI.1 (pure_alloc _ _) (HGs.out D 24 _ _ (hI.1).g ((Mod.refl _ _).alloc _))) (⟨_, upd_same V 24 _, (by omega), (Blk.new _ _ _)⟩))
     ·intro D V zw1 a hR hI K hK
      obtain ⟨hM1, hB1, hG1⟩ := hI.1
      have zd24 := hR.pred 24 (by kernel_rfl)
      have zF24 : ∃ (g_24 : Nat), V 24 = .slice (some ⟨g_24, 0, none⟩) 3 3 ∧ w2.heap.size ≤ g_24 ∧ Blk zw1 g_24 41 #[.int .i64 e5, .int .i64 e7, .int .i64 ve] := hI.2 24 zd24 (by show (!D 25) = true; rw [hR.not]; rfl)
      obtain ⟨g_24, zf24, c24_0, b24_0⟩ := zF24
      have ze42 := hR.frame.done (t := 42) (j := 24) (by kernel_rfl) hR.ok zd24
      rw [if_pos (by rfl)]
      go_simp
      refine (HF.out zw1 _ b24_0).mono ?_
      rintro e zw2 ⟨rfl, hm2⟩
      exact hK (.int .i64 q1) _ (hI.next hR (by kernel_rfl) hm2 (PB.quiet hI.1 hm2 (HGs.out D 25 _ _ (hI.1).g hm2)) (upd_same V 25 _))
     ·intro D V zw1 a hR hI K hK
      obtain ⟨hM1, hB1, hG1⟩ := hI.1
      have zd25 := hR.pred 25 (by kernel_rfl)
      have zF25 : V 25 = .int .i64 q1 := hI.2 25 zd25 rfl
      have zf25 := zF25; clear zF25
      have ze43 := hR.frame.done (t := 43) (j := 25) (by kernel_rfl) hR.ok zd25
      rw [if_pos (by rfl)]
      go_simp
      exact hK (.int .i64 q1) _ (hI.next hR (by kernel_rfl) (Mod.refl _ _) (PB.quiet hI.1 (Mod.refl _ _) (HGs.out D 26 zw1 zw1 (hI.1).g (Mod.refl _ _))) (upd_same V 26 _))
    ·intro D V w3 hD hI
     obtain ⟨hM1, hB1, hG1⟩ := hI.1
     have hMx := hM1
     clear hM1
     have hBx := hB1
     clear hB1
     have hGx := hG1
     clear hG1
     have zF0 : V 0 = .pointer (some ⟨gx, 0, none⟩) := hI.2 0 (hD 0 (by decide)) rfl
     have zf0 := zF0; clear zF0
     have zF1 : V 1 = .string ⟨x.item.toArray⟩ := hI.2 1 (hD 1 (by decide)) rfl
     have zf1 := zF1; clear zF1
     have zF2 : V 2 = .bool kb := hI.2 2 (hD 2 (by decide)) rfl
     have zf2 := zF2; clear zF2
     have zF3 : V 3 = .bool (!kb) := hI.2 3 (hD 3 (by decide)) rfl
     have zf3 := zF3; clear zF3
     have zF4 : V 4 = .int .i64 e5 := hI.2 4 (hD 4 (by decide)) rfl
     have zf4 := zF4; clear zF4
     have zF5 : V 5 = .int .i64 ((j : Int) + 1) := hI.2 5 (hD 5 (by decide)) rfl
     have zf5 := zF5; clear zF5
     have zF6 : V 6 = .bool true := hI.2 6 (hD 6 (by decide)) rfl
     have zf6 := zF6; clear zF6
     have zF7 : V 7 = .bool true := hI.2 7 (hD 7 (by decide)) rfl
     have zf7 := zF7; clear zF7
     have zF8 : V 8 = .pointer (some ⟨gx, 0, none⟩) := hI.2 8 (hD 8 (by decide)) rfl
     have zf8 := zF8; clear zF8
     have zF9 : V 9 = .string ⟨x.item.toArray⟩ := hI.2 9 (hD 9 (by decide)) rfl
     have zf9 := zF9; clear zF9
     have zF10 : V 10 = .slice (some ⟨g, off, none⟩) xs.length c1 := hI.2 10 (hD 10 (by decide)) rfl
     have zf10 := zF10; clear zF10
     have zF11 : V 11 = .int .i64 ((j : Int) + 1) := hI.2 11 (hD 11 (by decide)) rfl
     have zf11 := zF11; clear zF11
     have zF12 : V 12 = .int .i64 ((j : Int) + 1) := hI.2 12 (hD 12 (by decide)) rfl
     have zf12 := zF12; clear zF12
     have zF13 : V 13 = .int .i64 (j : Int) := hI.2 13 (hD 13 (by decide)) rfl
     have zf13 := zF13; clear zF13
     have zF14 : V 14 = .pointer (some ⟨g, off + j * 2, none⟩) := hI.2 14 (hD 14 (by decide)) rfl
     have zf14 := zF14; clear zF14
     have zF15 : V 15 = .pointer (some ⟨g, off + j * 2, none⟩) := hI.2 15 (hD 15 (by decide)) rfl
     have zf15 := zF15; clear zF15
     have zF16 : V 16 = .string ⟨pv.toArray⟩ := hI.2 16 (hD 16 (by decide)) rfl
     have zf16 := zF16; clear zF16
     have zF17 : V 17 = .bool lb := hI.2 17 (hD 17 (by decide)) rfl
     have zf17 := zF17; clear zF17
     have zF18 : V 18 = .bool lb := hI.2 18 (hD 18 (by decide)) rfl
     have zf18 := zF18; clear zF18
     have zF19 : V 19 = .int .i64 e7 := hI.2 19 (hD 19 (by decide)) rfl
     have zf19 := zF19; clear zF19
     have zF20 : V 20 = .agg #[.slice A n c, .slice A3 n3 c3] := hI.2 20 (hD 20 (by decide)) rfl
     have zf20 := zF20; clear zF20
     have zF21 : V 21 = .pointer (some ⟨gx, 1, none⟩) := hI.2 21 (hD 21 (by decide)) rfl
     have zf21 := zF21; clear zF21
     have zF22 : V 22 = .slice x.A x.vals.length x.c := hI.2 22 (hD 22 (by decide)) rfl
     have zf22 := zF22; clear zF22
     have zF23 : V 23 = .int .i64 ve := hI.2 23 (hD 23 (by decide)) rfl
     have zf23 := zF23; clear zF23
     have zF25 : V 25 = .int .i64 q1 := hI.2 25 (hD 25 (by decide)) rfl
     have zf25 := zF25; clear zF25
     have zF26 : V 26 = .int .i64 q1 := hI.2 26 (hD 26 (by decide)) rfl
     have zf26 := zF26; clear zF26
     clear hI hD HGs
     simp only [frAll, Act.put, List.setIfInBounds_toArray, List.set_cons_zero, List.set_cons_succ, Nat.zero_add, Nat.reduceAdd, zf0, zf1, zf2, zf3, zf4, zf5, zf6, zf7, zf8, zf9, zf10, zf11, zf12, zf13, zf14, zf15, zf16, zf17, zf18, zf19, zf20, zf21, zf22, zf23, zf25, zf26]
     clear zf0 zf1 zf2 zf3 zf4 zf5 zf6 zf7 zf8 zf9 zf10 zf11 zf12 zf13 zf14 zf15 zf16 zf17 zf18 zf19 zf20 zf21 zf22 zf23 zf25 zf26
     generalize V 24 = u24
     clear V D
     have HM3 := Lib.hid hMx
     have HB3 := Lib.hid hGx.1
     clear hMx hGx hBx HKY HVX HF HB1 HC1 HP1 HA1
     by_cases h0 : q1 = 0
     ·subst h0
      have HS2 : Hid (ceE L (prvC xs (j + 1 + 1)) (xs.drop (j + 1 + 1)) = q) := Lib.hid (by rw [HPV.out]; have h := HST.out; rw [if_neg (by simp)] at h; exact h.symm)
      clear HST HPV
      go_wp2_with fail
      go_roundg (xs.length - (j + 1 + 1))
      case measure => omega
      case rel => exact ⟨j + 1 + 1, rfl, by omega, by simp, HS2.out, HB3.out, HM3.out⟩
     ·have h0' : (q1 != 0) = true := by simpa using h0
      have HS2 : Hid (q = q1) := Lib.hid (by have h := HST.out; rw [if_pos h0] at h; exact h)
      clear HST HPV h0
      go_wp2_with fail
      go_ret
      exact IntPost.of HS2.out HM3.out
  ·obtain rfl : k = xs.length := by omega
   have HS2 : Hid (q = 0) := Lib.hid (by rw [← hce, List.drop_of_length_le (Nat.le_refl _)]; rfl)
   clear hce hk hlt
   go_wp2_with fail
   go_ret
   exact IntPost.of HS2.out hm

set_option maxRecDepth 100000 in
set_option maxHeartbeats 4000000 in
theorem givenError_calls (w : World) (vl : Value) (L : LayR) (A1 : Option Addr) (c1 : Nat) (xs : List CodR) (hL : LayV w L vl) (hLB : LayB L) (hX : Cods w (.slice A1 xs.length c1) xs) (hz : ∀ x ∈ xs, CodB x) (hn : xs.length ≤ 2000) :
  Calls Tryz.prog 68 #[vl, .slice A1 xs.length c1] w (IntPost w (givE L xs)) := by
 have HC := Lib.hid (fun W (h : Pure w W) => codingsError_calls W vl L A1 c1 xs (hL.pure h) hLB (hX.pure h) hz hn)
 have HK := Lib.hid (fun W (h : Pure w W) => checkLayout_calls W vl L (hL.pure h) hLB)
 have HQ : Hid (givE L xs = if layE L ≠ 0 then layE L else codsE L xs) := Lib.hid rfl
 obtain ⟨A, n, c, A3, n3, c3, rfl, _, _⟩ := hL
 have HB0 := Lib.hid (Blk.new w 29 #[.slice A n c, .slice A3 n3 c3])
 have HM0 := Lib.hid (pure_alloc w (.cells #[.slice A n c, .slice A3 n3 c3] 29))
 clear hX hz hLB
 generalize givE L xs = q at *
 generalize layE L = ql at *
 generalize codsE L xs = qc at *
 go_enter Tryz.func68, Tryz.ntmps68
 go_upto_region 1 with (fail)
 generalize (w.alloc (.cells #[.slice A n c, .slice A3 n3 c3] 29)) = w1 at *
 generalize hgl : w.heap.size = gl at *
 clear hgl
 have hX := HB0.out
 have x0 := hX.cell 0; have x1 := hX.cell 1; simp at x0 x1
 clear hX
 go_wp2_with fail
 refine (HK.out _ HM0.out).mono ?_
 rintro e w2 ⟨rfl, hm⟩
 replace HM0 := Lib.hid (HM0.out.trans hm)
 replace HB0 := Lib.hid (HB0.out.modp hm)
 clear hm
 clear x0 x1
 by_cases h0 : ql = 0
 ·subst h0
  have HS : Hid (q = qc) := Lib.hid (by rw [HQ.out, if_neg (by simp)])
  clear HQ
  have hX := HB0.out
  have x0 := hX.cell 0; have x1 := hX.cell 1; simp at x0 x1
  clear hX
  go_wp2_with fail
  refine (HC.out _ HM0.out).mono ?_
  rintro e w3 ⟨rfl, hm⟩
  replace HM0 := Lib.hid (HM0.out.trans hm)
  clear hm
  go_wp2_with fail
  go_ret
  exact IntPost.of HS.out HM0.out
 ·have h0' : (ql != 0) = true := by simpa using h0
  have HS : Hid (q = ql) := Lib.hid (by rw [HQ.out, if_pos h0])
  clear HQ h0
  go_wp2_with fail
  go_ret
  exact IntPost.of HS.out HM0.out

end Go.Proofs.YtkkndblcejmmjaaGreatDoor

/- Having of the program, HavingOf of the reference. -/
namespace Go.Proofs.YtkkndblcejmmjaaGreatDoor
set_option linter.unusedVariables false
set_option linter.unusedSimpArgs false
open Go.RowKit

/-- The items that have a choice of a field. -/
def hvS (xs : List CodR) (f ch : Str) : List Str := (xs.filter fun x => decide (ch ∈ chIn x.vals f)).map (·.item)
theorem hvS_snoc {xs : List CodR} (f ch : Str) {k : Nat} (h : k < xs.length) : hvS (xs.take (k + 1)) f ch = if ch ∈ chIn xs[k].vals f then hvS (xs.take k) f ch ++ [xs[k].item] else hvS (xs.take k) f ch := by
 unfold hvS
 rw [List.take_succ_eq_append_getElem h, List.filter_append]
 by_cases hc : ch ∈ chIn xs[k].vals f
 ·rw [if_pos hc]; simp [hc]
 ·rw [if_neg hc]; simp [hc]
theorem hvS_len (xs : List CodR) (f ch : Str) (k : Nat) : (hvS (xs.take k) f ch).length ≤ xs.length := by
 unfold hvS
 rw [List.length_map]
 exact Nat.le_trans (List.length_filter_le _ _) (by rw [List.length_take]; omega)
def HvRel (w : World) (base gl : Nat) (lay : Array Value) (xs : List CodR) (f ch : Str) (gk : Nat) (x i : Value) (wr : World) : Prop :=
 ∃ (k cap : Nat) (A : Option Addr), xs.length - k = gk ∧ k ≤ xs.length ∧ x = .slice A (hvS (xs.take k) f ch).length cap ∧ i = .int .i64 (k : Int) ∧ wr.ownsRow base 9 1 (.slice A (hvS (xs.take k) f ch).length cap) (hvS (xs.take k) f ch).length (strsV (hvS (xs.take k) f ch)) ∧ Pure w wr ∧ base ≤ wr.heap.size ∧ Blk wr gl 29 lay
def hvE (L : LayR) (xs : List CodR) (f ch : Str) : Int := if givE L xs ≠ 0 then givE L xs else if offB L.asks f ch false = false then 8 else 0
def HvPost (w : World) (q : Int) (ss : List Str) (e : Ending) (w' : World) : Prop :=
 ∃ (A : Option Addr) (k c : Nat), e = .returned (.tuple #[.slice A k c, .int .i64 q]) ∧ (q ≠ 0 → k = 0) ∧ (q = 0 → Sl w' 9 1 (.slice A k c) (strsV ss)) ∧ Pure w w'

set_option maxRecDepth 100000 in
set_option maxHeartbeats 8000000 in
theorem having_calls (w : World) (vl : Value) (L : LayR) (A1 : Option Addr) (c1 : Nat) (xs : List CodR) (f ch : Str) (hL : LayV w L vl) (hLB : LayB L) (hX : Cods w (.slice A1 xs.length c1) xs) (hz : ∀ x ∈ xs, CodB x) (hn : xs.length ≤ 2000) :
  Calls Tryz.prog 24 #[vl, .slice A1 xs.length c1, .string ⟨f.toArray⟩, .string ⟨ch.toArray⟩] w (HvPost w (hvE L xs f ch) (hvS xs f ch)) := by
 obtain ⟨i0, hi0, hz0, hz1, hz2⟩ := info_parts info_str0
 have HX := Lib.hid hX
 have HGE := Lib.hid (fun W (h : Pure w W) => givenError_calls W vl L A1 c1 xs (hL.pure h) hLB (hX.pure h) hz hn)
 have HOF := Lib.hid (fun W (h : Pure w W) => offers_calls W vl L f ch false (hL.pure h))
 have HQ : Hid (hvE L xs f ch = firstErr [givE L xs, if (!offB L.asks f ch false) = true then 8 else 0]) := Lib.hid (by
  unfold hvE
  cases offB L.asks f ch false <;> by_cases h1 : givE L xs = 0 <;> simp [firstErr, h1])
 obtain ⟨A, n, c, A3, n3, c3, rfl, _, _⟩ := hL
 have HB0 := Lib.hid (Blk.new w 29 #[.slice A n c, .slice A3 n3 c3])
 have HM0 := Lib.hid (pure_alloc w (.cells #[.slice A n c, .slice A3 n3 c3] 29))
 clear hX hz hLB
 generalize hvE L xs f ch = q at *
 generalize givE L xs = qg at *
 obtain ⟨ob, hob⟩ : ∃ ob, offB L.asks f ch false = ob := ⟨_, rfl⟩
 rw [hob] at HQ HOF
 obtain ⟨e8, he8⟩ : ∃ e, (if (!ob) = true then (8 : Int) else 0) = e := ⟨_, rfl⟩
 rw [he8] at HQ
 have HE8 := Lib.hid he8
 have HF : Hid (∀ (W : World) (g : Nat), Blk W g 41 #[.int .i64 qg, .int .i64 e8] → Calls Tryz.prog 55 #[.slice (some ⟨g, 0, none⟩) 2 2] W (IntPost W q)) := Lib.hid (fun W g h => by
  have := firstE_calls W g 2 [qg, e8] h.row0 (by simp)
  rwa [← HQ.out] at this)
 clear hob he8
 go_enter Tryz.func24, Tryz.ntmps24
 go_upto_region 1 with (fail)
 generalize (w.alloc (.cells #[.slice A n c, .slice A3 n3 c3] 29)) = w1 at *
 have hgl2 := Nat.le_refl w.heap.size
 generalize hgl : w.heap.size = gl at *
 have hgl3 := Nat.le_of_eq hgl
 clear hgl
 have HGs := Lib.hid (show ∀ (D : Nat → Bool) (zzi : Nat) (zq zq' : World), (fun _ zq => (fun Z => Blk Z gl 29 #[.slice A n c, .slice A3 n3 c3]) zq) D zq → Mod (fun _ => False) zq zq' → (fun _ zq => (fun Z => Blk Z gl 29 #[.slice A n c, .slice A3 n3 c3]) zq) (upd D zzi true) zq' from by intro D zzi zq zq' h hm; (exact h.modp hm))
 refine wp_region_inv (by kernel_rfl) (by kernel_rfl) (InvF (R := Mod (fun _ => False)) [.is (.agg #[.slice A n c, .slice A3 n3 c3]),
   .is (.slice A1 xs.length c1),
   .is (.int .i64 qg),
   .is (.agg #[.slice A n c, .slice A3 n3 c3]),
   .is (.string ⟨f.toArray⟩),
   .is (.string ⟨ch.toArray⟩),
   .is (.bool ob),
   .is (.bool (!ob)),
   .is (.int .i64 e8),
   ⟨fun zv zw => ∃ (g_9 : Nat), zv = .slice (some ⟨g_9, 0, none⟩) 2 2 ∧ w1.heap.size ≤ g_9 ∧ Blk zw g_9 41 #[.int .i64 qg, .int .i64 e8], (by rintro zv zw zx ⟨g_9, rfl, c0, q0⟩ hm; exact ⟨g_9, rfl, c0, (q0.modp hm)⟩), none, some 10⟩,
   .is (.int .i64 q),
   .is (.int .i64 q)]
   (PB w (fun _ => False) w1.heap.size (fun _ zq => (fun Z => Blk Z gl 29 #[.slice A n c, .slice A3 n3 c3]) zq))) (InvF.start (PB.start HM0.out (Nat.le_refl _) (HB0.out.drew))) ?_ ?_
 ·refine .cons ?_ (.cons ?_ (.cons ?_ (.cons ?_ (.cons ?_ (.cons ?_ (.cons ?_ (.cons ?_ (.cons ?_ (.cons ?_ (.cons ?_ (.cons ?_ .nil)))))))))))
  ·intro D V zw1 a hR hI K hK
   obtain ⟨hM1, hB1, hG1⟩ := hI.1
   have ze4 := hR.frame.other (t := 4) (by kernel_rfl) rfl
   have zx0 := hG1.cell 0; have zx1 := hG1.cell 1
   simp at zx0 zx1
   rw [if_pos (by rfl)]
   go_simp
   exact hK (.agg #[.slice A n c, .slice A3 n3 c3]) _ (hI.next hR (by kernel_rfl) (Mod.refl _ _) (PB.quiet hI.1 (Mod.refl _ _) (HGs.out D 0 zw1 zw1 (hI.1).g (Mod.refl _ _))) (upd_same V 0 _))
  ·intro D V zw1 a hR hI K hK
   obtain ⟨hM1, hB1, hG1⟩ := hI.1
   have ze1 := hR.frame.other (t := 1) (by kernel_rfl) rfl
   rw [if_pos (by rfl)]
   go_simp
   exact hK (.slice A1 xs.length c1) _ (hI.next hR (by kernel_rfl) (Mod.refl _ _) (PB.quiet hI.1 (Mod.refl _ _) (HGs.out D 1 zw1 zw1 (hI.1).g (Mod.refl _ _))) (upd_same V 1 _))
  ·intro D V zw1 a hR hI K hK
   obtain ⟨hM1, hB1, hG1⟩ := hI.1
   have zd0 := hR.pred 0 (by kernel_rfl)
   have zF0 : V 0 = .agg #[.slice A n c, .slice A3 n3 c3] := hI.2 0 zd0 rfl
   have zf0 := zF0; clear zF0
   have zd1 := hR.pred 1 (by kernel_rfl)
   have zF1 : V 1 = .slice A1 xs.length c1 := hI.2 1 zd1 rfl
   have zf1 := zF1; clear zF1
   have ze14 := hR.frame.done (t := 14) (j := 0) (by kernel_rfl) hR.ok zd0
   have ze15 := hR.frame.done (t := 15) (j := 1) (by kernel_rfl) hR.ok zd1
   rw [if_pos (by rfl)]
   go_simp
   refine (HGE.out zw1 hM1).mono ?_
   rintro e zw2 ⟨rfl, hm2⟩
   exact hK (.int .i64 qg) _ (hI.next hR (by kernel_rfl) hm2 (PB.quiet hI.1 hm2 (HGs.out D 2 _ _ (hI.1).g hm2)) (upd_same V 2 _))
  ·intro D V zw1 a hR hI K hK
   obtain ⟨hM1, hB1, hG1⟩ := hI.1
   have ze4 := hR.frame.other (t := 4) (by kernel_rfl) rfl
   have zx0 := hG1.cell 0; have zx1 := hG1.cell 1
   simp at zx0 zx1
   rw [if_pos (by rfl)]
   go_simp
   exact hK (.agg #[.slice A n c, .slice A3 n3 c3]) _ (hI.next hR (by kernel_rfl) (Mod.refl _ _) (PB.quiet hI.1 (Mod.refl _ _) (HGs.out D 3 zw1 zw1 (hI.1).g (Mod.refl _ _))) (upd_same V 3 _))
  ·intro D V zw1 a hR hI K hK
   obtain ⟨hM1, hB1, hG1⟩ := hI.1
   have ze2 := hR.frame.other (t := 2) (by kernel_rfl) rfl
   rw [if_pos (by rfl)]
   go_simp
   exact hK (.string ⟨f.toArray⟩) _ (hI.next hR (by kernel_rfl) (Mod.refl _ _) (PB.quiet hI.1 (Mod.refl _ _) (HGs.out D 4 zw1 zw1 (hI.1).g (Mod.refl _ _))) (upd_same V 4 _))
  ·intro D V zw1 a hR hI K hK
   obtain ⟨hM1, hB1, hG1⟩ := hI.1
   have ze3 := hR.frame.other (t := 3) (by kernel_rfl) rfl
   rw [if_pos (by rfl)]
   go_simp
   exact hK (.string ⟨ch.toArray⟩) _ (hI.next hR (by kernel_rfl) (Mod.refl _ _) (PB.quiet hI.1 (Mod.refl _ _) (HGs.out D 5 zw1 zw1 (hI.1).g (Mod.refl _ _))) (upd_same V 5 _))
  ·intro D V zw1 a hR hI K hK
   obtain ⟨hM1, hB1, hG1⟩ := hI.1
   have zd3 := hR.pred 3 (by kernel_rfl)
   have zF3 : V 3 = .agg #[.slice A n c, .slice A3 n3 c3] := hI.2 3 zd3 rfl
   have zf3 := zF3; clear zF3
   have zd4 := hR.pred 4 (by kernel_rfl)
   have zF4 : V 4 = .string ⟨f.toArray⟩ := hI.2 4 zd4 rfl
   have zf4 := zF4; clear zF4
   have zd5 := hR.pred 5 (by kernel_rfl)
   have zF5 : V 5 = .string ⟨ch.toArray⟩ := hI.2 5 zd5 rfl
   have zf5 := zF5; clear zF5
   have ze17 := hR.frame.done (t := 17) (j := 3) (by kernel_rfl) hR.ok zd3
   have ze18 := hR.frame.done (t := 18) (j := 4) (by kernel_rfl) hR.ok zd4
   have ze19 := hR.frame.done (t := 19) (j := 5) (by kernel_rfl) hR.ok zd5
   rw [if_pos (by rfl)]
   go_simp
   refine (HOF.out zw1 hM1).mono ?_
   rintro e zw2 ⟨rfl, hm2⟩
   exact hK (.bool ob) _ (hI.next hR (by kernel_rfl) hm2 (PB.quiet hI.1 hm2 (HGs.out D 6 _ _ (hI.1).g hm2)) (upd_same V 6 _))
  ·intro D V zw1 a hR hI K hK
   obtain ⟨hM1, hB1, hG1⟩ := hI.1
   have zd6 := hR.pred 6 (by kernel_rfl)
   have zF6 : V 6 = .bool ob := hI.2 6 zd6 rfl
   have zf6 := zF6; clear zF6
   have ze20 := hR.frame.done (t := 20) (j := 6) (by kernel_rfl) hR.ok zd6
   rw [if_pos (by rfl)]
   go_simp
   exact hK (.bool (!ob)) _ (hI.next hR (by kernel_rfl) (Mod.refl _ _) (PB.quiet hI.1 (Mod.refl _ _) (HGs.out D 7 zw1 zw1 (hI.1).g (Mod.refl _ _))) (upd_same V 7 _))
  ·intro D V zw1 a hR hI K hK
   obtain ⟨hM1, hB1, hG1⟩ := hI.1
   have zd7 := hR.pred 7 (by kernel_rfl)
   have zF7 : V 7 = .bool (!ob) := hI.2 7 zd7 rfl
   have zf7 := zF7; clear zF7
   have ze21 := hR.frame.done (t := 21) (j := 7) (by kernel_rfl) hR.ok zd7
   rw [if_pos (by rfl)]
   go_simp
   refine (whenQ_calls _ _ _ e8 HE8.out).mono ?_
   rintro e zw2 ⟨rfl, hm2⟩
   exact hK (.int .i64 e8) _ (hI.next hR (by kernel_rfl) hm2 (PB.quiet hI.1 hm2 (HGs.out D 8 _ _ (hI.1).g hm2)) (upd_same V 8 _))
  ·intro D V zw1 a hR hI K hK
   obtain ⟨hM1, hB1, hG1⟩ := hI.1
   have zd2 := hR.pred 2 (by kernel_rfl)
   have zF2 : V 2 = .int .i64 qg := hI.2 2 zd2 rfl
   have zf2 := zF2; clear zF2
   have zd8 := hR.pred 8 (by kernel_rfl)
   have zF8 : V 8 = .int .i64 e8 := hI.2 8 zd8 rfl
   have zf8 := zF8; clear zF8
   have ze16 := hR.frame.done (t := 16) (j := 2) (by kernel_rfl) hR.ok zd2
   have ze22 := hR.frame.done (t := 22) (j := 8) (by kernel_rfl) hR.ok zd8
   rw [if_pos (by rfl)]
   go_simp
   exact hK (_) _ (hI.next hR (by kernel_rfl) ((Mod.refl _ _).alloc _) (PB.quiet hI.1 (pure_alloc _ _) (HGs.out D 9 _ _ (hI.1).g ((Mod.refl _ _).alloc _))) (⟨_, upd_same V 9 _, (by omega), (Blk.new _ _ _)⟩))
  ·intro D V zw1 a hR hI K hK
   obtain ⟨hM1, hB1, hG1⟩ := hI.1
   have zd9 := hR.pred 9 (by kernel_rfl)
   have zF9 : ∃ (g_9 : Nat), V 9 = .slice (some ⟨g_9, 0, none⟩) 2 2 ∧ w1.heap.size ≤ g_9 ∧ Blk zw1 g_9 41 #[.int .i64 qg, .int .i64 e8] := hI.2 9 zd9 (by show (!D 10) = true; rw [hR.not]; rfl)
   obtain ⟨g_9, zf9, c9_0, b9_0⟩ := zF9
   have ze23 := hR.frame.done (t := 23) (j := 9) (by kernel_rfl) hR.ok zd9
   rw [if_pos (by rfl)]
   go_simp
   refine (HF.out zw1 _ b9_0).mono ?_
   rintro e zw2 ⟨rfl, hm2⟩
   exact hK (.int .i64 q) _ (hI.next hR (by kernel_rfl) hm2 (PB.quiet hI.1 hm2 (HGs.out D 10 _ _ (hI.1).g hm2)) (upd_same V 10 _))
  ·intro D V zw1 a hR hI K hK
   obtain ⟨hM1, hB1, hG1⟩ := hI.1
   have zd10 := hR.pred 10 (by kernel_rfl)
   have zF10 : V 10 = .int .i64 q := hI.2 10 zd10 rfl
   have zf10 := zF10; clear zF10
   have ze24 := hR.frame.done (t := 24) (j := 10) (by kernel_rfl) hR.ok zd10
   rw [if_pos (by rfl)]
   go_simp
   exact hK (.int .i64 q) _ (hI.next hR (by kernel_rfl) (Mod.refl _ _) (PB.quiet hI.1 (Mod.refl _ _) (HGs.out D 11 zw1 zw1 (hI.1).g (Mod.refl _ _))) (upd_same V 11 _))
 ·intro D V w2 hD hI
  obtain ⟨hM1, hB1, hG1⟩ := hI.1
  have hMx := hM1
  clear hM1
  have hBx := hB1
  clear hB1
  have hGx := hG1
  clear hG1
  have zF0 : V 0 = .agg #[.slice A n c, .slice A3 n3 c3] := hI.2 0 (hD 0 (by decide)) rfl
  have zf0 := zF0; clear zF0
  have zF1 : V 1 = .slice A1 xs.length c1 := hI.2 1 (hD 1 (by decide)) rfl
  have zf1 := zF1; clear zF1
  have zF2 : V 2 = .int .i64 qg := hI.2 2 (hD 2 (by decide)) rfl
  have zf2 := zF2; clear zF2
  have zF3 : V 3 = .agg #[.slice A n c, .slice A3 n3 c3] := hI.2 3 (hD 3 (by decide)) rfl
  have zf3 := zF3; clear zF3
  have zF4 : V 4 = .string ⟨f.toArray⟩ := hI.2 4 (hD 4 (by decide)) rfl
  have zf4 := zF4; clear zF4
  have zF5 : V 5 = .string ⟨ch.toArray⟩ := hI.2 5 (hD 5 (by decide)) rfl
  have zf5 := zF5; clear zF5
  have zF6 : V 6 = .bool ob := hI.2 6 (hD 6 (by decide)) rfl
  have zf6 := zF6; clear zF6
  have zF7 : V 7 = .bool (!ob) := hI.2 7 (hD 7 (by decide)) rfl
  have zf7 := zF7; clear zF7
  have zF8 : V 8 = .int .i64 e8 := hI.2 8 (hD 8 (by decide)) rfl
  have zf8 := zF8; clear zF8
  have zF10 : V 10 = .int .i64 q := hI.2 10 (hD 10 (by decide)) rfl
  have zf10 := zF10; clear zF10
  have zF11 : V 11 = .int .i64 q := hI.2 11 (hD 11 (by decide)) rfl
  have zf11 := zF11; clear zF11
  clear hI hD HGs
  simp only [frAll, Act.put, List.setIfInBounds_toArray, List.set_cons_zero, List.set_cons_succ, Nat.zero_add, Nat.reduceAdd, zf0, zf1, zf2, zf3, zf4, zf5, zf6, zf7, zf8, zf10, zf11]
  clear zf0 zf1 zf2 zf3 zf4 zf5 zf6 zf7 zf8 zf10 zf11
  generalize V 9 = u9
  clear V D
  have HM := Lib.hid hMx
  have HB := Lib.hid hGx
  clear hMx hGx hBx HGE HOF HF HB0 HM0 HQ HE8
  by_cases h0 : q = 0
  ·subst h0
   have hw2 := HM.out.size
   have hgb := HB.out.lt
   obtain ⟨base, hbase⟩ : ∃ base, base = w2.heap.size := ⟨_, rfl⟩
   have hs1 := Nat.le_of_eq hbase
   have hs2 := Nat.le_of_eq hbase.symm
   clear hbase
   go_wp2_with fail
   go_loopg [11, 30] xs.length (fun gk x i wr => HvRel w base gl #[.slice A n c, .slice A3 n3 c3] xs f ch gk x i wr)
   case atStart => exact ⟨0, 0, none, by omega, by omega, rfl, rfl, World.ownsRow_nil _ _ _ _, HM.out, by omega, HB.out⟩
   case round =>
    clear HM HB
    obtain ⟨k, cap, Ao, rfl, hk, rfl, rfl, hO, hm, hbs, hbl⟩ := hrel
    have hsl := hvS_len xs f ch k
    by_cases hlt : k < xs.length
    ·obtain ⟨g, off, rfl, q0, q1⟩ := (HX.out.pure hm).cells hlt
     have HTK := Lib.hid (hvS_snoc f ch hlt)
     have HVX := Lib.hid (fun W (h : Pure wr W) => value_calls W (.slice xs[k].A xs[k].vals.length xs[k].c) xs[k].vals f ((HX.out.2 _ (List.getElem_mem hlt)).pure (hm.trans h)))
     generalize xs[k] = x at *
     generalize hvS (xs.take k) f ch = ss at *
     have HC1 := Lib.hid (Blk.new wr 69 #[.string ⟨x.item.toArray⟩, .slice x.A x.vals.length x.c])
     have HP1 := Lib.hid (pure_alloc wr (.cells #[.string ⟨x.item.toArray⟩, .slice x.A x.vals.length x.c] 69))
     have HM1 := Lib.hid hm
     have HO1 := Lib.hid hO
     have HB1 := Lib.hid hbl
     clear hm hO hbl
     go_upto_region 8 with (fail)
     generalize (wr.alloc (.cells #[.string ⟨x.item.toArray⟩, .slice x.A x.vals.length x.c] 69)) = w2 at *
     generalize hg9 : wr.heap.size = g9 at *
     have hg9b := Nat.le_of_eq hg9.symm
     clear hg9
     clear q0 q1
     have hX := HC1.out
     have x0 := hX.cell 0; have x1 := hX.cell 1; simp at x0 x1
     clear hX
     go_wp2_with fail
     refine (HVX.out _ HP1.out).mono ?_
     rintro e w3 ⟨A4, c4, rfl, hsv, hm⟩
     have HCN := Lib.hid (containsQs_calls w3 _ (chIn x.vals f) ch hsv)
     rw [any_memT] at HCN
     replace HP1 := Lib.hid (HP1.out.trans hm)
     replace HC1 := Lib.hid (HC1.out.modp hm)
     clear hm hsv HVX x0 x1
     generalize chIn x.vals f = cs at *
     go_wp2_with fail
     refine (HCN.out).mono ?_
     rintro e w4 ⟨rfl, hm⟩
     replace HP1 := Lib.hid (HP1.out.trans hm)
     replace HC1 := Lib.hid (HC1.out.modp hm)
     clear hm
     clear HCN
     have hmw := HM1.out.trans HP1.out
     have hown := own_pure HO1.out HP1.out
     have hbl := HB1.out.modp HP1.out
     have hs4 := HP1.out.size
     clear HO1 HB1 HM1 HP1
     by_cases hin : ch ∈ cs
     ·have HS2 : Hid (hvS (xs.take (k + 1)) f ch = ss ++ [x.item]) := Lib.hid (by rw [HTK.out, if_pos hin])
      have hin2 : decide (ch ∈ cs) = true := decide_eq_true hin
      rw [hin2]
      clear HTK hin hin2
      have hX := HC1.out
      have x0 := hX.cell 0; have x1 := hX.cell 1; simp at x0 x1
      clear hX
      have HM := Lib.hid hmw
      have HBL := Lib.hid hbl
      clear hbl
      go_wp2_with ((at_builtin; refine wpList_append_lies _ rfl _ _ _ rfl base 9 i0 _ 1 16 Tryz.underlying35 hi0 hz0 hz1 hz2 rfl (by omega) (.slice Ao ss.length cap) ss.length (strsV ss) rfl (hown.alloc _) ⟨w4.heap.size, 0, none⟩ 1 1 [.string ⟨x.item.toArray⟩] rfl rfl (World.news_of_block (cs := #[.string ⟨x.item.toArray⟩]) (t := 9) (fr := (0, 0)) (heap_alloc_new w4 _)) (by simp [Value.oneCell']) (by omega) (by simp [maxLen]; omega) (by omega) (by have := hmw.size; simp; omega) (w4.heap.size + 1) (by simp) ?_; intro g5 cap5 w5 hown5 hgrow hat hlt5))
      have mG := mod_grown hgrow
      have hob := own_block hown
      have hzz := mG.size
      simp only [World.size_alloc] at hzz
      go_roundg (xs.length - (k + 1))
      case measure => omega
      case rel => exact ⟨k + 1, cap5, some ⟨g5, 0, none⟩, rfl, by omega, by rw [HS2.out]; simp, by simp, by rw [HS2.out]; simpa [strsV] using hown5, (HM.out.alloc _).grown hgrow (fun i hi => .inr (by have := hob i hi; omega)), by omega, (HBL.out.alloc _).mod mG (fun hv => by have := hob _ hv; omega)⟩
     ·have HS2 : Hid (hvS (xs.take (k + 1)) f ch = ss) := Lib.hid (by rw [HTK.out, if_neg hin])
      have hin2 : decide (ch ∈ cs) = false := decide_eq_false hin
      rw [hin2]
      clear HTK hin hin2
      go_wp2_with fail
      go_roundg (xs.length - (k + 1))
      case measure => omega
      case rel => exact ⟨k + 1, cap, Ao, rfl, by omega, by rw [HS2.out], by simp, by rw [HS2.out]; exact hown, hmw, by omega, hbl⟩
    ·obtain rfl : k = xs.length := by omega
     have e : xs.take xs.length = xs := List.take_length
     rw [e] at hO hsl ⊢
     have HO2 := Lib.hid hO
     have HM2 := Lib.hid hm
     clear hO hm hbl hsl e
     generalize hvS xs f ch = ss at *
     go_wp2_with fail
     refine bodyPost_ret (v := .tuple #[.slice Ao ss.length cap, .int .i64 0]) (by simp [results, Tryz.results24, go_sem]) rfl ?_
     exact ⟨_, _, _, rfl, fun h => absurd rfl h, fun _ => Sl.of_own HO2.out, HM2.out⟩
  ·have h0' : (q != 0) = true := by simpa using h0
   go_wp2_with fail
   refine bodyPost_ret (v := .tuple #[.slice none 0 0, .int .i64 q]) (by simp [results, Tryz.results24, go_sem]) rfl ?_
   exact ⟨none, 0, 0, rfl, fun _ => rfl, fun h => absurd h h0, HM.out⟩

def HoPost (w : World) (ob : Bool) (ss : List Str) (e : Ending) (w' : World) : Prop :=
 ∃ (A : Option Addr) (c : Nat), e = .returned (.tuple #[.slice A ss.length c, .bool ob]) ∧ Sl w' 9 1 (.slice A ss.length c) (strsV ss) ∧ Pure w w'
set_option maxRecDepth 100000 in
set_option maxHeartbeats 8000000 in
theorem havingOf_calls (w : World) (vl : Value) (L : LayR) (A1 : Option Addr) (c1 : Nat) (xs : List CodR) (f ch : Str) (hL : LayV w L vl) (hX : Cods w (.slice A1 xs.length c1) xs) (hz : ∀ x ∈ xs, CodB x) (hn : xs.length ≤ 2000) :
  Calls Tryz.prog 28 #[vl, .slice A1 xs.length c1, .string ⟨f.toArray⟩, .string ⟨ch.toArray⟩] w (HoPost w (offB L.asks f ch false) (hvS xs f ch)) := by
 obtain ⟨i0, hi0, hz0, hz1, hz2⟩ := info_parts info_str0
 have HX := Lib.hid hX
 have HZ := Lib.hid hz
 have HOF := Lib.hid (fun W (h : Pure w W) => hasChoice_calls W vl L f ch (hL.pure h))
 obtain ⟨A, n, c, A3, n3, c3, rfl, _, _⟩ := hL
 have HB := Lib.hid (Blk.new w 29 #[.slice A n c, .slice A3 n3 c3])
 have HM := Lib.hid (pure_alloc w (.cells #[.slice A n c, .slice A3 n3 c3] 29))
 clear hX hz
 generalize offB L.asks f ch false = ob at *
 go_enter Tryz.func28, Tryz.ntmps28
 go_upto_region 1 with (fail)
 generalize (w.alloc (.cells #[.slice A n c, .slice A3 n3 c3] 29)) = w1 at *
 generalize hgl : w.heap.size = gl at *
 have hgl3 := Nat.le_of_eq hgl
 clear hgl
 have hw2 := HM.out.size
 have hgb := HB.out.lt
 obtain ⟨base, hbase⟩ : ∃ base, base = w1.heap.size := ⟨_, rfl⟩
 have hs1 := Nat.le_of_eq hbase
 have hs2 := Nat.le_of_eq hbase.symm
 clear hbase
 go_wp2_with fail
 go_loopg [10, 15] xs.length (fun gk x i wr => HvRel w base gl #[.slice A n c, .slice A3 n3 c3] xs f ch gk x i wr)
 case atStart => exact ⟨0, 0, none, by omega, by omega, rfl, rfl, World.ownsRow_nil _ _ _ _, HM.out, by omega, HB.out⟩
 case round =>
  clear HM HB
  obtain ⟨k, cap, Ao, rfl, hk, rfl, rfl, hO, hm, hbs, hbl⟩ := hrel
  have hsl := hvS_len xs f ch k
  by_cases hlt : k < xs.length
  ·obtain ⟨g, off, rfl, q0, q1⟩ := (HX.out.pure hm).cells hlt
   have HTK := Lib.hid (hvS_snoc f ch hlt)
   have HVX := Lib.hid (fun W (h : Pure wr W) => choicesIn_calls W (.slice xs[k].A xs[k].vals.length xs[k].c) xs[k].vals f ((HX.out.2 _ (List.getElem_mem hlt)).pure (hm.trans h)) (by have := (HZ.out _ (List.getElem_mem hlt)).2.1; omega))
   generalize xs[k] = x at *
   generalize hvS (xs.take k) f ch = ss at *
   have HC1 := Lib.hid (Blk.new wr 69 #[.string ⟨x.item.toArray⟩, .slice x.A x.vals.length x.c])
   have HP1 := Lib.hid (pure_alloc wr (.cells #[.string ⟨x.item.toArray⟩, .slice x.A x.vals.length x.c] 69))
   have HM1 := Lib.hid hm
   have HO1 := Lib.hid hO
   have HB1 := Lib.hid hbl
   clear hm hO hbl
   go_upto_region 5 with (fail)
   generalize (wr.alloc (.cells #[.string ⟨x.item.toArray⟩, .slice x.A x.vals.length x.c] 69)) = w2 at *
   generalize hg9 : wr.heap.size = g9 at *
   have hg9b := Nat.le_of_eq hg9.symm
   clear hg9
   clear q0 q1
   have hX := HC1.out
   have x0 := hX.cell 0; have x1 := hX.cell 1; simp at x0 x1
   clear hX
   go_wp2_with fail
   refine (HVX.out _ HP1.out).mono ?_
   rintro e w3 ⟨A4, c4, rfl, hsv, hm⟩
   have HCN := Lib.hid (containsQs_calls w3 _ (chIn x.vals f) ch hsv)
   rw [any_memT] at HCN
   replace HP1 := Lib.hid (HP1.out.trans hm)
   replace HC1 := Lib.hid (HC1.out.modp hm)
   clear hm hsv HVX x0 x1
   generalize chIn x.vals f = cs at *
   go_wp2_with fail
   refine (HCN.out).mono ?_
   rintro e w4 ⟨rfl, hm⟩
   replace HP1 := Lib.hid (HP1.out.trans hm)
   replace HC1 := Lib.hid (HC1.out.modp hm)
   clear hm
   clear HCN
   have hmw := HM1.out.trans HP1.out
   have hown := own_pure HO1.out HP1.out
   have hbl := HB1.out.modp HP1.out
   have hs4 := HP1.out.size
   clear HO1 HB1 HM1 HP1
   by_cases hin : ch ∈ cs
   ·have HS2 : Hid (hvS (xs.take (k + 1)) f ch = ss ++ [x.item]) := Lib.hid (by rw [HTK.out, if_pos hin])
    have hin2 : decide (ch ∈ cs) = true := decide_eq_true hin
    rw [hin2]
    clear HTK hin hin2
    have hX := HC1.out
    have x0 := hX.cell 0; have x1 := hX.cell 1; simp at x0 x1
    clear hX
    have HM := Lib.hid hmw
    have HBL := Lib.hid hbl
    clear hbl
    go_wp2_with ((at_builtin; refine wpList_append_lies _ rfl _ _ _ rfl base 9 i0 _ 1 16 Tryz.underlying35 hi0 hz0 hz1 hz2 rfl (by omega) (.slice Ao ss.length cap) ss.length (strsV ss) rfl (hown.alloc _) ⟨w4.heap.size, 0, none⟩ 1 1 [.string ⟨x.item.toArray⟩] rfl rfl (World.news_of_block (cs := #[.string ⟨x.item.toArray⟩]) (t := 9) (fr := (0, 0)) (heap_alloc_new w4 _)) (by simp [Value.oneCell']) (by omega) (by simp [maxLen]; omega) (by omega) (by have := hmw.size; simp; omega) (w4.heap.size + 1) (by simp) ?_; intro g5 cap5 w5 hown5 hgrow hat hlt5))
    have mG := mod_grown hgrow
    have hob := own_block hown
    have hzz := mG.size
    simp only [World.size_alloc] at hzz
    go_roundg (xs.length - (k + 1))
    case measure => omega
    case rel => exact ⟨k + 1, cap5, some ⟨g5, 0, none⟩, rfl, by omega, by rw [HS2.out]; simp, by simp, by rw [HS2.out]; simpa [strsV] using hown5, (HM.out.alloc _).grown hgrow (fun i hi => .inr (by have := hob i hi; omega)), by omega, (HBL.out.alloc _).mod mG (fun hv => by have := hob _ hv; omega)⟩
   ·have HS2 : Hid (hvS (xs.take (k + 1)) f ch = ss) := Lib.hid (by rw [HTK.out, if_neg hin])
    have hin2 : decide (ch ∈ cs) = false := decide_eq_false hin
    rw [hin2]
    clear HTK hin hin2
    go_wp2_with fail
    go_roundg (xs.length - (k + 1))
    case measure => omega
    case rel => exact ⟨k + 1, cap, Ao, rfl, by omega, by rw [HS2.out], by simp, by rw [HS2.out]; exact hown, hmw, by omega, hbl⟩
  ·obtain rfl : k = xs.length := by omega
   have e : xs.take xs.length = xs := List.take_length
   rw [e] at hO hsl ⊢
   have HO2 := Lib.hid hO
   have HM2 := Lib.hid hm
   have hX := hbl
   have x0 := hX.cell 0; have x1 := hX.cell 1; simp at x0 x1
   clear hX hO hm hsl e
   generalize hvS xs f ch = ss at *
   go_wp2_with fail
   refine (HOF.out _ HM2.out).mono ?_
   rintro e w4 ⟨rfl, hm⟩
   have HO3 := Lib.hid (own_pure HO2.out hm)
   have HM3 := Lib.hid (HM2.out.trans hm)
   clear hm HO2 HM2 HOF
   go_wp2_with fail
   refine bodyPost_ret (v := .tuple #[.slice Ao ss.length cap, .bool ob]) (by simp [results, Tryz.results28, go_sem]) rfl ?_
   exact ⟨_, _, rfl, Sl.of_own HO3.out, HM3.out⟩

end Go.Proofs.YtkkndblcejmmjaaGreatDoor

/- Tally of the program. -/
namespace Go.Proofs.YtkkndblcejmmjaaGreatDoor
set_option linter.unusedVariables false
set_option linter.unusedSimpArgs false
open Go.RowKit

theorem info_intT : (Tryz.prog.info? 3).map (fun i => (i.zero, i.size, i.bytes)) = some (some (.int .i64 0), 1, 8) := by kernel_rfl
/-- A row of numbers. -/
def RowI (W : World) (g : Nat) (F : Nat → Int) (n : Nat) : Prop := Blk W g 3 (ints (rowF F n)).toArray
theorem RowI.cell {W : World} {g n i : Nat} {F : Nat → Int} (h : RowI W g F n) (hi : i < n) : W.cell? ⟨g, i, none⟩ = some (.int .i64 (F i)) ∧ W.frozen? ⟨g, i, none⟩ = false := by
 refine ⟨?_, Blk.frozen h i⟩
 have := Blk.cell h i
 rw [this, List.getElem?_toArray, rowF_get F hi]
theorem RowI.set {W : World} {g n : Nat} {F : Nat → Int} (h : RowI W g F n) (i : Nat) (v : Int) : RowI (W.setCell ⟨g, i, none⟩ (.int .i64 v)) g (fun j => if j = i then v else F j) n := by
 unfold RowI
 rw [← rowF_set]
 simpa using Blk.set h i (.int .i64 v)
theorem RowI.modp {W W' : World} {g n : Nat} {F : Nat → Int} (h : RowI W g F n) (hm : Pure W W') : RowI W' g F n := Blk.modp h hm
theorem RowI.sl {W : World} {g n : Nat} {F : Nat → Int} (h : RowI W g F n) (hn : n ≤ 1000000) : Sl W 3 1 (.slice (some ⟨g, 0, none⟩) n n) (ints (rowF F n)) :=
 ⟨_, _, _, rfl, by omega, by omega, by simp [ints, rowF_len], fun _ => ⟨g, 0, rfl, Blk.row0 h⟩⟩
def tlE (L : LayR) (xs : List CodR) (f : Str) : Int := if givE L xs ≠ 0 then givE L xs else if askIx L.asks f = none then 8 else 0
/-- The choices of a field. -/
def chsF (L : LayR) (f : Str) : List Str := match askIx L.asks f with | none => [] | some k => (L.asks.getD k askN).ch
theorem Sl.end0 {w : World} {A : Option Addr} {c : Nat} (h : Sl w 9 1 (.slice A 0 c) (strsV [])) (W : World) : Sl W 9 1 (.slice A 0 c) (strsV []) := by
 obtain ⟨_, _, _, e, h1, h2, h3, _⟩ := h
 cases e
 exact ⟨_, _, _, rfl, h1, h2, h3, fun h => absurd h (by omega)⟩
def TlPost (w : World) (q : Int) (F : Nat → Int) (m : Nat) (e : Ending) (w' : World) : Prop :=
 ∃ (A : Option Addr) (k c : Nat), e = .returned (.tuple #[.slice A k c, .int .i64 q]) ∧ (q ≠ 0 → A = none ∧ k = 0 ∧ c = 0) ∧ (q = 0 → Sl w' 3 1 (.slice A k c) (ints (rowF F m))) ∧ Pure w w'
def TlRel (w : World) (g : Nat) (xs : List CodR) (cs : List Str) (f : Str) (gk : Nat) (i : Value) (wr : World) : Prop :=
 ∃ k : Nat, xs.length - k = gk ∧ k ≤ xs.length ∧ i = .int .i64 (k : Int) ∧ RowI wr g (talF cs f (xs.take k)) (cs.length + 1) ∧ Pure w wr
def TlRel2 (w : World) (g : Nat) (cs : List Str) (F : Nat → Int) (v : List Str) (A4 : Option Addr) (c4 : Nat) (gk : Nat) (i : Value) (wr : World) : Prop :=
 ∃ q : Nat, v.length - q = gk ∧ q ≤ v.length ∧ i = .int .i64 (q : Int) ∧ RowI wr g (midF cs F v q) (cs.length + 1) ∧ Sl wr 9 1 (.slice A4 v.length c4) (strsV v) ∧ Pure w wr

set_option maxRecDepth 100000 in
set_option maxHeartbeats 8000000 in
theorem tally_calls (w : World) (vl : Value) (L : LayR) (A1 : Option Addr) (c1 : Nat) (xs : List CodR) (f : Str) (hL : LayV w L vl) (hLB : LayB L) (hX : Cods w (.slice A1 xs.length c1) xs) (hz : ∀ x ∈ xs, CodB x) (hn : xs.length ≤ 2000) :
  Calls Tryz.prog 25 #[vl, .slice A1 xs.length c1, .string ⟨f.toArray⟩] w (TlPost w (tlE L xs f) (talF (chsF L f) f xs) ((chsF L f).length + 1)) := by
 have HX := Lib.hid hX
 have HCL : Hid (∀ x ∈ xs, (chIn x.vals f).length ≤ 1000) := Lib.hid (fun x hx => chIn_len f (fun c hc => by have := ((hz x hx).2.2 c hc).2.1; omega))
 have HGE := Lib.hid (fun W (h : Pure w W) => givenError_calls W vl L A1 c1 xs (hL.pure h) hLB (hX.pure h) hz hn)
 have HAK := Lib.hid (fun W (h : Pure w W) => ask_calls W vl L f (hL.pure h))
 have HPK : Hid (givE L xs = 0 → ∀ k, askIx L.asks f = some k → ∀ x ∈ xs, pickE (L.asks.getD k askN).ch (-1) (chIn x.vals f) = 0) := Lib.hid (fun h k hk x hx => by
  unfold givE at h
  split at h
  ·rename_i h1; exact absurd h h1
  ·unfold codsE at h
   rw [if_neg (by omega)] at h
   exact chIn_pick (ceE_0 h x hx) hk)
 have HQ : Hid (tlE L xs f = firstErr [givE L xs, if decide (askI L.asks f < 0) = true then 8 else 0]) := Lib.hid (by
  unfold tlE askI
  cases askIx L.asks f <;> by_cases h1 : givE L xs = 0 <;> simp [firstErr, h1] <;> omega)
 have HCF : Hid (∀ k, askIx L.asks f = some k → chsF L f = (L.asks.getD k askN).ch) := Lib.hid (fun k hk => by unfold chsF; rw [hk])
 generalize chsF L f = cs0 at *
 have HLB := Lib.hid hLB
 obtain ⟨A, n, c, A3, n3, c3, rfl, hAs, _⟩ := hL
 have HAS := Lib.hid hAs
 have hal := hAs.len
 have HB0 := Lib.hid (Blk.new w 29 #[.slice A n c, .slice A3 n3 c3])
 have HM0 := Lib.hid (pure_alloc w (.cells #[.slice A n c, .slice A3 n3 c3] 29))
 clear hX hz hLB hAs
 generalize tlE L xs f = q at *
 generalize givE L xs = qg at *
 obtain ⟨ka, hka⟩ : ∃ ka, askI L.asks f = ka := ⟨_, rfl⟩
 rw [hka] at HQ HAK
 obtain ⟨e8, he8⟩ : ∃ e, (if decide (ka < 0) = true then (8 : Int) else 0) = e := ⟨_, rfl⟩
 rw [he8] at HQ
 have HE8 := Lib.hid he8
 have HKA := Lib.hid hka
 have HF : Hid (∀ (W : World) (g : Nat), Blk W g 41 #[.int .i64 qg, .int .i64 e8] → Calls Tryz.prog 55 #[.slice (some ⟨g, 0, none⟩) 2 2] W (IntPost W q)) := Lib.hid (fun W g h => by
  have := firstE_calls W g 2 [qg, e8] h.row0 (by simp)
  rwa [← HQ.out] at this)
 clear hka he8
 go_enter Tryz.func25, Tryz.ntmps25
 go_upto_region 1 with (fail)
 generalize (w.alloc (.cells #[.slice A n c, .slice A3 n3 c3] 29)) = w1 at *
 have hgl2 := Nat.le_refl w.heap.size
 generalize hgl : w.heap.size = gl at *
 have hgl3 := Nat.le_of_eq hgl
 clear hgl
 have hX := HB0.out
 have x0 := hX.cell 0; have x1 := hX.cell 1; simp at x0 x1
 clear hX
 go_wp2_with fail
 refine (HAK.out _ HM0.out).mono ?_
 rintro e w2 ⟨rfl, hm⟩
 replace HM0 := Lib.hid (HM0.out.trans hm)
 replace HB0 := Lib.hid (HB0.out.modp hm)
 clear hm
 clear x0 x1
 have hX := HB0.out
 have x0 := hX.cell 0; have x1 := hX.cell 1; simp at x0 x1
 clear hX
 go_wp2_with fail
 refine (HGE.out _ HM0.out).mono ?_
 rintro e w3 ⟨rfl, hm⟩
 replace HM0 := Lib.hid (HM0.out.trans hm)
 replace HB0 := Lib.hid (HB0.out.modp hm)
 clear hm
 go_wp2_with fail
 refine (whenQ_calls _ _ _ e8 HE8.out).mono ?_
 rintro e w4 ⟨rfl, hm⟩
 replace HM0 := Lib.hid (HM0.out.trans hm)
 replace HB0 := Lib.hid (HB0.out.modp hm)
 clear hm
 go_wp2_with fail
 refine (HF.out _ _ (Blk.new' rfl)).mono ?_
 rintro e w5 ⟨rfl, hm⟩
 replace HM0 := Lib.hid (HM0.out.trans ((pure_alloc _ _).trans hm))
 replace HB0 := Lib.hid ((HB0.out.alloc _).modp hm)
 clear hm x0 x1 HGE HAK HF
 by_cases h0 : q = 0
 ·subst h0
  have h1 : qg = 0 ∧ e8 = 0 := by
   have h := HQ.out
   by_cases h2 : qg = 0
   ·refine ⟨h2, ?_⟩
    by_cases h3 : e8 = 0
    ·exact h3
    ·simp [firstErr, h2, h3] at h; exact absurd h.symm h3
   ·simp [firstErr, h2] at h; exact absurd h.symm h2
  obtain ⟨k, hk⟩ : ∃ k, askIx L.asks f = some k := by
   cases hk : askIx L.asks f with
   | some k => exact ⟨k, rfl⟩
   | none =>
    have h3 := HKA.out
    unfold askI at h3
    rw [hk] at h3
    have h4 := HE8.out
    rw [← h3, h1.2] at h4
    simp at h4
  have hka : ka = (k : Int) := by rw [← HKA.out]; unfold askI; rw [hk]
  obtain ⟨hkl, _, _⟩ := askIx_some hk
  have hgd : L.asks.getD k askN = L.asks[k] := by simp [List.getD, hkl]
  have HP2 := Lib.hid (HPK.out h1.1 k hk)
  have hcf := HCF.out k hk
  rw [hgd] at hcf
  rw [hgd] at HP2
  subst hka
  have hab := (HLB.out.2.2.1 _ (List.getElem_mem hkl)).2.1.1
  obtain ⟨ga, oa, rfl, _, a1, _, _⟩ := (HAS.out.pure HM0.out).cells hkl
  have HCS := Lib.hid (fun W (h : Pure w W) => (HAS.out.pure h).2 _ (List.getElem_mem hkl))
  have hkn : (k : Int) < (n : Int) := by omega
  have hk0 : (0 : Int) ≤ (k : Int) := by omega
  clear HPK HQ HKA HE8 h1 hk hgd HCF HLB HAS
  generalize L.asks[k] = ak at *
  obtain ⟨_, cA, cc, cs, _, _⟩ := ak
  simp only at HP2 a1 HCS hab hcf ⊢
  replace hcf := hcf.symm
  subst hcf
  have hmk := run_make_one (P := Tryz.prog) 22 3 (.int .i64 0) 8 Tryz.underlying22 info_intT rfl .i64 .i64 (cs.length + 1) ((cs.length : Int) + 1) (by omega) (by omega) (by omega) (ints (rowF (fun _ => 0) (cs.length + 1))).toArray (by rw [rowF_zero])
  have HR0 : Hid (RowI (w5.alloc (.cells (ints (rowF (fun _ => 0) (cs.length + 1))).toArray 3)) w5.heap.size (talF cs f (xs.take 0)) (cs.length + 1)) := Lib.hid (Blk.new _ _ _)
  have HM6 := Lib.hid (HM0.out.trans (pure_alloc w5 (.cells (ints (rowF (fun _ => 0) (cs.length + 1))).toArray 3)))
  have hX := HB0.out
  have x0 := hX.cell 0; have x1 := hX.cell 1; simp at x0 x1
  clear hX
  go_upto_region 7 with (fail)
  clear x0 x1 a1 hmk hkn hk0
  have hgw := Nat.le_refl w5.heap.size
  have hw5 := HM0.out.size
  generalize (w5.alloc (.cells (ints (rowF (fun _ => 0) (cs.length + 1))).toArray 3)) = w6 at *
  generalize hg : w5.heap.size = g at *
  clear hg
  go_wp2_with fail
  go_loopg [43] xs.length (fun gk i wr => TlRel w g xs cs f gk i wr)
  case atStart => exact ⟨0, by omega, by omega, rfl, HR0.out, HM6.out⟩
  case round =>
   clear HR0 HM6
   obtain ⟨j, rfl, hj, rfl, hR, hm⟩ := hrel
   by_cases hlt : j < xs.length
   ·obtain ⟨gx, ox, rfl, q0, q1⟩ := (HX.out.pure hm).cells hlt
    have HTK := Lib.hid (talF_snoc cs f hlt)
    have HVX := Lib.hid (fun W (h : Pure wr W) => value_calls W (.slice xs[j].A xs[j].vals.length xs[j].c) xs[j].vals f ((HX.out.2 _ (List.getElem_mem hlt)).pure (hm.trans h)))
    have HPX := Lib.hid (HP2.out xs[j] (List.getElem_mem hlt))
    have HVL := Lib.hid (HCL.out xs[j] (List.getElem_mem hlt))
    have HFB : Hid (∀ i, 0 ≤ talF cs f (xs.take j) i ∧ talF cs f (xs.take j) i ≤ 2000000) := Lib.hid (fun i => by
     have h1 := talF_bd cs f i (xs := xs.take j) (fun x hx => HCL.out x (List.mem_of_mem_take hx))
     have h2 : (xs.take j).length ≤ 2000 := by rw [List.length_take]; omega
     omega)
    generalize xs[j] = x at *
    generalize talF cs f (xs.take j) = F at *
    have HC1 := Lib.hid (Blk.new wr 69 #[.string ⟨x.item.toArray⟩, .slice x.A x.vals.length x.c])
    have HP1 := Lib.hid (pure_alloc wr (.cells #[.string ⟨x.item.toArray⟩, .slice x.A x.vals.length x.c] 69))
    have HM1 := Lib.hid hm
    have HR1 := Lib.hid hR
    clear hm hR
    go_upto_region 10 with (fail)
    generalize (wr.alloc (.cells #[.string ⟨x.item.toArray⟩, .slice x.A x.vals.length x.c] 69)) = w7 at *
    generalize wr.heap.size = g9 at *
    clear q0 q1
    have hX := HC1.out
    have x0 := hX.cell 0; have x1 := hX.cell 1; simp at x0 x1
    clear hX
    go_wp2_with fail
    refine (HVX.out _ HP1.out).mono ?_
    rintro e w8 ⟨A4, c4, rfl, hsv, hm⟩
    have HSV := Lib.hid hsv
    replace HP1 := Lib.hid (HP1.out.trans hm)
    replace HM1 := Lib.hid (HM1.out.trans HP1.out)
    replace HR1 := Lib.hid (HR1.out.modp HP1.out)
    clear hm hsv HVX x0 x1 HP1 HC1
    generalize chIn x.vals f = v at *
    go_upto_if 53 with (fail)
    have hR := HR1.out
    obtain ⟨r0, r1⟩ := hR.cell (i := cs.length) (by omega)
    clear hR
    go_cut [11] (fun p wx => p = .slice (some ⟨g, 0, none⟩) (cs.length + 1) (cs.length + 1) ∧ RowI wx g (midF cs F v 0) (cs.length + 1) ∧ Sl wx 9 1 (.slice A4 v.length c4) (strsV v) ∧ Pure w wx)
    case first =>
     cases v with
     | nil =>
      have HR2 := Lib.hid (HR1.out.set cs.length (F cs.length + 1))
      rw [← midF_0] at HR2
      have HM2 := Lib.hid (HM1.out.setCell (p := ⟨g, cs.length, none⟩) (.inr (by show w.heap.size ≤ g; omega)) (.int .i64 (F cs.length + 1)))
      have hF := HFB.out cs.length
      have i1 : (cs.length : Int) < (cs.length : Int) + 1 := by omega
      have i0 : (0 : Int) ≤ (cs.length : Int) := by omega
      clear HR1 HM1 HTK HPX
      generalize F cs.length = fz at *
      go_wp2_with fail
      go_meet
      exact ⟨rfl, HR2.out, Sl.end0 HSV.out _, HM2.out⟩
     | cons s0 v0 =>
      have HR2 := Lib.hid HR1.out
      rw [← midF_n cs F (v := s0 :: v0) (by simp)] at HR2
      have HM2 := Lib.hid HM1.out
      clear HR1 HM1 r0 r1
      go_wp2_with fail
      go_meet
      exact ⟨rfl, HR2.out, HSV.out, HM2.out⟩
    case rest =>
     obtain ⟨rfl, hR, hsv, hm⟩ := hcut
     obtain ⟨wx, hwx⟩ : ∃ W, W = wc := ⟨wc, rfl⟩
     subst hwx
     have HR2 := Lib.hid hR
     have HS2 := Lib.hid hsv
     have HM2 := Lib.hid hm
     clear hR hsv hm HR1 HM1 HSV r0 r1
     have hvl : v.length ≤ 1000 := HVL.out
     go_wp2_with fail
     obtain ⟨w9, hw9⟩ : ∃ W, W = wx := ⟨wx, rfl⟩
     go_loopg [63] v.length (fun gk i wr => TlRel2 w g cs F v A4 c4 gk i wr)
     case atStart => exact ⟨0, by omega, by omega, rfl, HR2.out, HS2.out, HM2.out⟩
     case round =>
      clear HR2 HS2 HM2
      obtain ⟨t, rfl, ht, rfl, hR, hsv, hm⟩ := hrel
      by_cases hlt2 : t < v.length
      ·obtain ⟨gv, ov, rfl, hrow⟩ := hsv.rowS (by omega)
       have hq := hrow.cell (strsV_get v t hlt2)
       have hpk := pickE_lt HPX.out v[t] (List.getElem_mem hlt2)
       have hix := ixS_lt cs v[t]
       obtain ⟨ix, hix2⟩ := Int.eq_ofNat_of_zero_le hpk.1
       have HMS := Lib.hid (midF_s cs F hlt2 hix2 (by omega))
       have HIX := Lib.hid (indexQs_calls wr _ cs v[t] (HCS.out wr hm))
       have hI : idxQ (fun x => v[t] == x) cs 0 = (ix : Int) := by rw [ixS_idx]; exact hix2
       rw [hI] at HIX
       have hixl : ix < cs.length := by omega
       have hfb := HFB.out ix
       have hcb := colQ_bd cs v t ix HVL.out
       have hmid : 0 ≤ midF cs F v t ix ∧ midF cs F v t ix ≤ 3000000 := by unfold midF; omega
       have HR3 := Lib.hid hR
       have HS3 := Lib.hid hsv
       have HM3 := Lib.hid hm
       clear hR hm hrow hpk hix hix2 hI hfb hcb
       generalize v[t] = s at *
       go_wp2_with fail
       refine HIX.out.mono ?_
       rintro e w10 ⟨rfl, hm⟩
       have hR := HR3.out.modp hm
       have HS4 := Lib.hid (HS3.out.pure hm)
       have HM4 := Lib.hid (HM3.out.trans hm)
       obtain ⟨r0, r1⟩ := hR.cell (i := ix) (by omega)
       have HR4 := Lib.hid (hR.set ix (midF cs F v t ix + 1))
       rw [← HMS.out] at HR4
       have HM5 := Lib.hid (HM4.out.setCell (p := ⟨g, ix, none⟩) (.inr (by show w.heap.size ≤ g; omega)) (.int .i64 (midF cs F v t ix + 1)))
       have HS5 := Lib.hid (HS4.out.set_ne hR (j := ix) (by decide) (.int .i64 (midF cs F v t ix + 1)))
       clear hR hm HR3 HS3 HM3 HS4 HM4 HMS HIX hq hsv
       generalize midF cs F v t ix = mz at *
       have i0 : (0 : Int) ≤ (ix : Int) := by omega
       have i1 : (ix : Int) < (cs.length : Int) + 1 := by omega
       go_wp2_with fail
       go_roundg (v.length - (t + 1))
       case measure => omega
       case rel => exact ⟨t + 1, rfl, by omega, by simp, HR4.out, HS5.out, HM5.out⟩
      ·obtain rfl : t = v.length := by omega
       have HR3 := Lib.hid hR
       have HM3 := Lib.hid hm
       have HTK2 : Hid (talF cs f (xs.take (j + 1)) = midF cs F v v.length) := Lib.hid (by rw [HTK.out]; rfl)
       clear hR hm hsv HTK
       go_wp2_with fail
       go_roundg (xs.length - (j + 1))
       case measure => omega
       case rel => exact ⟨j + 1, rfl, by omega, by simp, by rw [HTK2.out]; exact HR3.out, HM3.out⟩
   ·obtain rfl : j = xs.length := by omega
    have e : xs.take xs.length = xs := List.take_length
    rw [e] at hR
    have HR2 := Lib.hid hR
    have HM2 := Lib.hid hm
    clear hR hm e
    generalize talF cs f xs = F at *
    go_wp2_with fail
    refine bodyPost_ret (v := .tuple #[.slice (some ⟨g, 0, none⟩) (cs.length + 1) (cs.length + 1), .int .i64 0]) (by simp [results, Tryz.results25, go_sem]) rfl ?_
    exact ⟨_, _, _, rfl, fun h => absurd rfl h, fun _ => HR2.out.sl (by omega), HM2.out⟩
 ·have h0' : (q != 0) = true := by simpa using h0
  go_wp2_with fail
  refine bodyPost_ret (v := .tuple #[.slice none 0 0, .int .i64 q]) (by simp [results, Tryz.results25, go_sem]) rfl ?_
  exact ⟨none, 0, 0, rfl, fun _ => ⟨rfl, rfl, rfl⟩, fun h => absurd h h0, HM0.out⟩

end Go.Proofs.YtkkndblcejmmjaaGreatDoor

/- CountsOf of the reference. -/
namespace Go.Proofs.YtkkndblcejmmjaaGreatDoor
set_option linter.unusedVariables false
set_option linter.unusedSimpArgs false
open Go.RowKit

theorem flagI_calls (w : World) (b : Bool) : Calls Tryz.prog 79 #[.bool b] w (IntPost w (if b = true then 1 else 0)) := by
 cases b
 ·go_enter Tryz.func79, Tryz.ntmps79
  go_wp2_with fail
  go_ret
  exact IntPost.of rfl (Mod.refl _ _)
 ·go_enter Tryz.func79, Tryz.ntmps79
  go_wp2_with fail
  go_ret
  exact IntPost.of rfl (Mod.refl _ _)
theorem RowI.congr {W : World} {g n : Nat} {F G : Nat → Int} (h : RowI W g F n) (e : ∀ i, i < n → F i = G i) : RowI W g G n := by
 unfold RowI at h ⊢
 rw [← rowF_congr e]
 exact h
def CoPost (w : World) (o : Option Nat) (F : Nat → Int) (m : Nat) (e : Ending) (w' : World) : Prop :=
 ∃ (A : Option Addr) (k c : Nat), e = .returned (.tuple #[.slice A k c, .bool o.isSome]) ∧ (o = none → A = none ∧ k = 0 ∧ c = 0) ∧ (o ≠ none → Sl w' 3 1 (.slice A k c) (ints (rowF F m))) ∧ Pure w w'
def CoRel (w : World) (g : Nat) (xs : List CodR) (cs : List Str) (f : Str) (gk : Nat) (i : Value) (wr : World) : Prop :=
 ∃ k : Nat, xs.length - k = gk ∧ k ≤ xs.length ∧ i = .int .i64 (k : Int) ∧ RowI wr g (talG cs f (xs.take k)) (cs.length + 1) ∧ Pure w wr
def CoRel2 (w : World) (g : Nat) (cs : List Str) (F : Nat → Int) (v : List Str) (vv : Value) (gk : Nat) (i : Value) (wr : World) : Prop :=
 ∃ q : Nat, cs.length - q = gk ∧ q ≤ cs.length ∧ i = .int .i64 (q : Int) ∧ RowI wr g (midR cs F v q) (cs.length + 1) ∧ SlK wr vv v ∧ Pure w wr
theorem SlK.set_ne {W : World} {g n i : Nat} {v : Value} {xs : List Str} {F : Nat → Int} {u : Value} (h : SlK W v xs) (hR : RowI W g F n) : SlK (W.setCell ⟨g, i, none⟩ u) v xs := Sl.set_ne h hR (by decide) u

set_option maxRecDepth 100000 in
set_option maxHeartbeats 8000000 in
theorem countsOf_calls (w : World) (vl : Value) (L : LayR) (A1 : Option Addr) (c1 : Nat) (xs : List CodR) (f : Str) (hL : LayV w L vl) (hLB : LayB L) (hX : Cods w (.slice A1 xs.length c1) xs) (hz : ∀ x ∈ xs, CodB x) (hn : xs.length ≤ 2000) :
  Calls Tryz.prog 30 #[vl, .slice A1 xs.length c1, .string ⟨f.toArray⟩] w (CoPost w (askIx L.asks f) (talG (chsF L f) f xs) ((chsF L f).length + 1)) := by
 have HX := Lib.hid hX
 have HZ := Lib.hid hz
 have HAK := Lib.hid (fun W (h : Pure w W) => askAt_calls W vl L f (hL.pure h))
 have HCF : Hid (∀ k, askIx L.asks f = some k → chsF L f = (L.asks.getD k askN).ch) := Lib.hid (fun k hk => by unfold chsF; rw [hk])
 generalize chsF L f = cs0 at *
 have HLB := Lib.hid hLB
 obtain ⟨A, n, c, A3, n3, c3, rfl, hAs, _⟩ := hL
 have HAS := Lib.hid hAs
 have hal := hAs.len
 have HB0 := Lib.hid (Blk.new w 29 #[.slice A n c, .slice A3 n3 c3])
 have HM0 := Lib.hid (pure_alloc w (.cells #[.slice A n c, .slice A3 n3 c3] 29))
 clear hX hz hLB hAs
 obtain ⟨o, ho⟩ : ∃ o, askIx L.asks f = o := ⟨_, rfl⟩
 have HO := Lib.hid ho
 unfold askI at HAK
 rw [ho] at HAK HCF ⊢
 clear ho
 go_enter Tryz.func30, Tryz.ntmps30
 go_upto_region 1 with (fail)
 generalize (w.alloc (.cells #[.slice A n c, .slice A3 n3 c3] 29)) = w1 at *
 generalize hgl : w.heap.size = gl at *
 have hgl3 := Nat.le_of_eq hgl
 clear hgl
 have hX := HB0.out
 have x0 := hX.cell 0; have x1 := hX.cell 1; simp at x0 x1
 clear hX
 cases o with
 | none =>
  go_wp2_with fail
  refine (HAK.out _ HM0.out).mono ?_
  rintro e w2 ⟨rfl, hm⟩
  replace HM0 := Lib.hid (HM0.out.trans hm)
  clear hm HAK
  go_wp2_with fail
  refine bodyPost_ret (v := .tuple #[.slice none 0 0, .bool false]) (by simp [results, Tryz.results30, go_sem]) rfl ?_
  exact ⟨none, 0, 0, rfl, fun _ => ⟨rfl, rfl, rfl⟩, fun h => absurd rfl h, HM0.out⟩
 | some k =>
  have hcf := (HCF.out k rfl).symm
  obtain ⟨hkl, _, _⟩ := askIx_some HO.out
  rw [show L.asks.getD k askN = L.asks[k] by simp [List.getD, hkl]] at hcf
  have hab := (HLB.out.2.2.1 _ (List.getElem_mem hkl)).2.1.1
  have HCS := Lib.hid (fun W (h : Pure w W) => (HAS.out.pure h).2 _ (List.getElem_mem hkl))
  have HCE := Lib.hid (fun W (h : Pure w W) => (HAS.out.pure h).cells hkl)
  have hkn : (k : Int) < (n : Int) := by omega
  have hk0 : (0 : Int) ≤ (k : Int) := by omega
  clear HCF HLB HAS HO
  generalize L.asks[k] = ak at *
  obtain ⟨_, cA, cc, cs, _, _⟩ := ak
  simp only at HCE HCS hab hcf ⊢
  subst hcf
  clear hal
  go_wp2_with fail
  refine (HAK.out _ HM0.out).mono ?_
  rintro e w2 ⟨rfl, hm⟩
  replace HM0 := Lib.hid (HM0.out.trans hm)
  replace HB0 := Lib.hid (HB0.out.modp hm)
  clear hm HAK x0 x1
  obtain ⟨ga, oa, rfl, _, a1, _, _⟩ := HCE.out _ HM0.out
  have hmk := run_make_one (P := Tryz.prog) 22 3 (.int .i64 0) 8 Tryz.underlying22 info_intT rfl .i64 .i64 (cs.length + 1) ((cs.length : Int) + 1) (by omega) (by omega) (by omega) (ints (rowF (fun _ => 0) (cs.length + 1))).toArray (by rw [rowF_zero])
  have HR0 : Hid (RowI (w2.alloc (.cells (ints (rowF (fun _ => 0) (cs.length + 1))).toArray 3)) w2.heap.size (talG cs f (xs.take 0)) (cs.length + 1)) := Lib.hid (Blk.new _ _ _)
  have HM6 := Lib.hid (HM0.out.trans (pure_alloc w2 (.cells (ints (rowF (fun _ => 0) (cs.length + 1))).toArray 3)))
  have hX := HB0.out
  have x0 := hX.cell 0; have x1 := hX.cell 1; simp at x0 x1
  clear hX HCE
  go_upto_region 6 with (fail)
  clear x0 x1 a1 hmk hkn hk0
  have hw5 := HM0.out.size
  generalize (w2.alloc (.cells (ints (rowF (fun _ => 0) (cs.length + 1))).toArray 3)) = w6 at *
  generalize hg : w2.heap.size = g at *
  clear hg
  go_wp2_with fail
  go_loopg [33] xs.length (fun gk i wr => CoRel w g xs cs f gk i wr)
  case atStart => exact ⟨0, by omega, by omega, rfl, HR0.out, HM6.out⟩
  case round =>
   clear HR0 HM6
   obtain ⟨j, rfl, hj, rfl, hR, hm⟩ := hrel
   by_cases hlt : j < xs.length
   ·obtain ⟨gx, ox, rfl, q0, q1⟩ := (HX.out.pure hm).cells hlt
    have HTK := Lib.hid (talG_snoc cs f hlt)
    have HVX := Lib.hid (fun W (h : Pure wr W) => choicesIn_calls W (.slice xs[j].A xs[j].vals.length xs[j].c) xs[j].vals f ((HX.out.2 _ (List.getElem_mem hlt)).pure (hm.trans h)) (by have := (HZ.out _ (List.getElem_mem hlt)).2.1; omega))
    have HFB : Hid (∀ i, 0 ≤ talG cs f (xs.take j) i ∧ talG cs f (xs.take j) i ≤ 2000) := Lib.hid (fun i => by
     have h1 := talG_bd cs f i (xs.take j)
     have h2 : (xs.take j).length ≤ 2000 := by rw [List.length_take]; omega
     omega)
    generalize xs[j] = x at *
    generalize talG cs f (xs.take j) = F at *
    have HC1 := Lib.hid (Blk.new wr 69 #[.string ⟨x.item.toArray⟩, .slice x.A x.vals.length x.c])
    have HP1 := Lib.hid (pure_alloc wr (.cells #[.string ⟨x.item.toArray⟩, .slice x.A x.vals.length x.c] 69))
    have HM1 := Lib.hid hm
    have HR1 := Lib.hid hR
    clear hm hR
    go_upto_region 9 with (fail)
    generalize (wr.alloc (.cells #[.string ⟨x.item.toArray⟩, .slice x.A x.vals.length x.c] 69)) = w7 at *
    generalize wr.heap.size = g9 at *
    clear q0 q1
    have hX := HC1.out
    have x0 := hX.cell 0; have x1 := hX.cell 1; simp at x0 x1
    clear hX
    go_wp2_with fail
    refine (HVX.out _ HP1.out).mono ?_
    rintro e w8 ⟨A4, c4, rfl, hsv, hm⟩
    have HSV : Hid (SlK w8 (.slice A4 (chIn x.vals f).length c4) (chIn x.vals f)) := Lib.hid hsv
    replace HP1 := Lib.hid (HP1.out.trans hm)
    replace HM1 := Lib.hid (HM1.out.trans HP1.out)
    replace HR1 := Lib.hid (HR1.out.modp HP1.out)
    clear hm hsv HVX x0 x1 HP1 HC1
    generalize chIn x.vals f = v at *
    go_wp2_with fail
    obtain ⟨wo, hwo⟩ : ∃ W, W = w8 := ⟨w8, rfl⟩
    go_loopg [43] cs.length (fun gk i wr => CoRel2 w g cs F v (.slice A4 v.length c4) gk i wr)
    case atStart => exact ⟨0, by omega, by omega, rfl, HR1.out.congr (fun i _ => by unfold midR; rw [if_neg (by omega)]), HSV.out, HM1.out⟩
    case round =>
     clear HR1 HSV HM1
     obtain ⟨q, rfl, hq, rfl, hR, hsv, hm⟩ := hrel
     by_cases hlt2 : q < cs.length
     ·obtain ⟨gc, oc, rfl, hrow⟩ := (HCS.out wr hm).rowS (by omega)
      have hq0 := hrow.cell (strsV_get cs q hlt2)
      have HMS := Lib.hid (midR_s cs F v hlt2)
      have hfb := HFB.out q
      have hmq : midR cs F v q q = F q := by unfold midR; rw [if_neg (by omega)]
      have HMQ := Lib.hid hmq
      have HR2 := Lib.hid hR
      have HS2 := Lib.hid hsv
      have HM2 := Lib.hid hm
      clear hR hsv hm hrow hmq
      generalize cs[q] = s at *
      go_upto_region 13 with (fail)
      have HCN := Lib.hid (fun W (h : SlK W (.slice A4 v.length c4) v) => containsQs_calls W (.slice A4 v.length c4) v s h)
      simp only [any_memT] at HCN
      obtain ⟨fl, hfl⟩ : ∃ fl, (if s ∈ v then (1 : Int) else 0) = fl := ⟨_, rfl⟩
      rw [hfl] at HMS
      have hflb : 0 ≤ fl ∧ fl ≤ 1 := by rw [← hfl]; split <;> omega
      have HFG := Lib.hid (fun W => flagI_calls W (decide (s ∈ v)))
      rw [show (if decide (s ∈ v) = true then (1 : Int) else 0) = fl by rw [← hfl]; simp] at HFG
      clear hfl hq0
      generalize F q = fq at *
      have i0 : (0 : Int) ≤ (q : Int) := by omega
      have i1 : (q : Int) < (cs.length : Int) + 1 := by omega
      have i2 : q < cs.length + 1 := by omega
      have HGs := Lib.hid (show ∀ (D : Nat → Bool) (zzi : Nat) (zq zq' : World), zzi ≠ 10 → (fun D zq => (D 10 = false → (fun Z => RowI Z g (midR cs F v q) (cs.length + 1)) zq) ∧ (fun Z => SlK Z (.slice A4 v.length c4) v) zq) D zq → Mod (fun _ => False) zq zq' → (fun D zq => (D 10 = false → (fun Z => RowI Z g (midR cs F v q) (cs.length + 1)) zq) ∧ (fun Z => SlK Z (.slice A4 v.length c4) v) zq) (upd D zzi true) zq' from by intro D zzi zq zq' hi hh hm; refine ⟨fun hs => ?_, ?_⟩; (rw [upd_ne _ _ (Ne.symm hi)] at hs; have h := hh.1 hs; (exact h.modp hm)); (have h := hh.2; (exact h.pure hm)))
      refine wp_region_inv (by kernel_rfl) (by kernel_rfl) (InvF (R := Mod (fun _ => False)) [.is (.slice (some ⟨g, 0, none⟩) (cs.length + 1) (cs.length + 1)),
        .is (.int .i64 (q : Int)),
        .is (.pointer (some ⟨g, q, none⟩)),
        .is (.int .i64 fq),
        .is (.slice A4 v.length c4),
        .is (.string ⟨s.toArray⟩),
        .is (.bool (decide (s ∈ v))),
        .is (.int .i64 fl),
        .is (.int .i64 (fq + fl)),
        .is (.pointer (some ⟨g, q, none⟩)),
        ⟨fun zv zw => zv = undef ∧ RowI zw g (fun j => if j = q then fq + fl else midR cs F v q j) (cs.length + 1), (by rintro zv zw zx ⟨rfl, q0⟩ hm; exact ⟨rfl, (q0.modp hm)⟩), none, none⟩]
        (PB wr (· = g) wr.heap.size (fun D zq => (D 10 = false → (fun Z => RowI Z g (midR cs F v q) (cs.length + 1)) zq) ∧ (fun Z => SlK Z (.slice A4 v.length c4) v) zq))) (InvF.start (PB.start (Mod.refl _ _) (Nat.le_refl _) (⟨fun _ => HR2.out.modp (Mod.refl _ _).drew, HS2.out.pure (Mod.refl _ _).drew⟩))) ?_ ?_
      ·refine .cons ?_ (.cons ?_ (.cons ?_ (.cons ?_ (.cons ?_ (.cons ?_ (.cons ?_ (.cons ?_ (.cons ?_ (.cons ?_ (.cons ?_ .nil))))))))))
       ·intro D V zw1 a hR hI K hK
        obtain ⟨hM1, hB1, hG1⟩ := hI.1
        obtain ⟨hGK, hG1⟩ := hG1
        have ze10 := hR.frame.other (t := 10) (by kernel_rfl) rfl
        rw [if_pos (by rfl)]
        go_simp
        exact hK (.slice (some ⟨g, 0, none⟩) (cs.length + 1) (cs.length + 1)) _ (hI.next hR (by kernel_rfl) (Mod.refl _ _) (PB.quiet hI.1 (Mod.refl _ _) (HGs.out D 0 zw1 zw1 (by omega) (hI.1).g (Mod.refl _ _))) (upd_same V 0 _))
       ·intro D V zw1 a hR hI K hK
        obtain ⟨hM1, hB1, hG1⟩ := hI.1
        obtain ⟨hGK, hG1⟩ := hG1
        have ze14 := hR.frame.other (t := 14) (by kernel_rfl) rfl
        rw [if_pos (by rfl)]
        go_simp
        exact hK (.int .i64 (q : Int)) _ (hI.next hR (by kernel_rfl) (Mod.refl _ _) (PB.quiet hI.1 (Mod.refl _ _) (HGs.out D 1 zw1 zw1 (by omega) (hI.1).g (Mod.refl _ _))) (upd_same V 1 _))
       ·intro D V zw1 a hR hI K hK
        obtain ⟨hM1, hB1, hG1⟩ := hI.1
        obtain ⟨hGK, hG1⟩ := hG1
        have zd0 := hR.pred 0 (by kernel_rfl)
        have zF0 : V 0 = .slice (some ⟨g, 0, none⟩) (cs.length + 1) (cs.length + 1) := hI.2 0 zd0 rfl
        have zf0 := zF0; clear zF0
        have zd1 := hR.pred 1 (by kernel_rfl)
        have zF1 : V 1 = .int .i64 (q : Int) := hI.2 1 zd1 rfl
        have zf1 := zF1; clear zF1
        have ze48 := hR.frame.done (t := 48) (j := 0) (by kernel_rfl) hR.ok zd0
        have ze49 := hR.frame.done (t := 49) (j := 1) (by kernel_rfl) hR.ok zd1
        rw [if_pos (by rfl)]
        go_simp
        exact hK (.pointer (some ⟨g, q, none⟩)) _ (hI.next hR (by kernel_rfl) (Mod.refl _ _) (PB.quiet hI.1 (Mod.refl _ _) (HGs.out D 2 zw1 zw1 (by omega) (hI.1).g (Mod.refl _ _))) (upd_same V 2 _))
       ·intro D V zw1 a hR hI K hK
        obtain ⟨hM1, hB1, hG1⟩ := hI.1
        obtain ⟨hGK, hG1⟩ := hG1
        have zd2 := hR.pred 2 (by kernel_rfl)
        have zF2 : V 2 = .pointer (some ⟨g, q, none⟩) := hI.2 2 zd2 rfl
        have zf2 := zF2; clear zF2
        have ze50 := hR.frame.done (t := 50) (j := 2) (by kernel_rfl) hR.ok zd2
        have zB := hGK (hR.later 10 rfl (by kernel_rfl))
        obtain ⟨zx0, _⟩ := zB.cell (i := q) (by omega)
        rw [HMQ.out] at zx0
        rw [if_pos (by rfl)]
        go_simp
        exact hK (.int .i64 fq) _ (hI.next hR (by kernel_rfl) (Mod.refl _ _) (PB.quiet hI.1 (Mod.refl _ _) (HGs.out D 3 zw1 zw1 (by omega) (hI.1).g (Mod.refl _ _))) (upd_same V 3 _))
       ·intro D V zw1 a hR hI K hK
        obtain ⟨hM1, hB1, hG1⟩ := hI.1
        obtain ⟨hGK, hG1⟩ := hG1
        have ze13 := hR.frame.other (t := 13) (by kernel_rfl) rfl
        rw [if_pos (by rfl)]
        go_simp
        exact hK (.slice A4 v.length c4) _ (hI.next hR (by kernel_rfl) (Mod.refl _ _) (PB.quiet hI.1 (Mod.refl _ _) (HGs.out D 4 zw1 zw1 (by omega) (hI.1).g (Mod.refl _ _))) (upd_same V 4 _))
       ·intro D V zw1 a hR hI K hK
        obtain ⟨hM1, hB1, hG1⟩ := hI.1
        obtain ⟨hGK, hG1⟩ := hG1
        have ze15 := hR.frame.other (t := 15) (by kernel_rfl) rfl
        rw [if_pos (by rfl)]
        go_simp
        exact hK (.string ⟨s.toArray⟩) _ (hI.next hR (by kernel_rfl) (Mod.refl _ _) (PB.quiet hI.1 (Mod.refl _ _) (HGs.out D 5 zw1 zw1 (by omega) (hI.1).g (Mod.refl _ _))) (upd_same V 5 _))
       ·intro D V zw1 a hR hI K hK
        obtain ⟨hM1, hB1, hG1⟩ := hI.1
        obtain ⟨hGK, hG1⟩ := hG1
        have zd4 := hR.pred 4 (by kernel_rfl)
        have zF4 : V 4 = .slice A4 v.length c4 := hI.2 4 zd4 rfl
        have zf4 := zF4; clear zF4
        have zd5 := hR.pred 5 (by kernel_rfl)
        have zF5 : V 5 = .string ⟨s.toArray⟩ := hI.2 5 zd5 rfl
        have zf5 := zF5; clear zF5
        have ze52 := hR.frame.done (t := 52) (j := 4) (by kernel_rfl) hR.ok zd4
        have ze53 := hR.frame.done (t := 53) (j := 5) (by kernel_rfl) hR.ok zd5
        rw [if_pos (by rfl)]
        go_simp
        refine (HCN.out zw1 hG1).mono ?_
        rintro e zw2 ⟨rfl, hm2⟩
        exact hK (.bool (decide (s ∈ v))) _ (hI.next hR (by kernel_rfl) hm2 (PB.quiet hI.1 hm2 (HGs.out D 6 _ _ (by omega) (hI.1).g hm2)) (upd_same V 6 _))
       ·intro D V zw1 a hR hI K hK
        obtain ⟨hM1, hB1, hG1⟩ := hI.1
        obtain ⟨hGK, hG1⟩ := hG1
        have zd6 := hR.pred 6 (by kernel_rfl)
        have zF6 : V 6 = .bool (decide (s ∈ v)) := hI.2 6 zd6 rfl
        have zf6 := zF6; clear zF6
        have ze54 := hR.frame.done (t := 54) (j := 6) (by kernel_rfl) hR.ok zd6
        rw [if_pos (by rfl)]
        go_simp
        refine (HFG.out zw1).mono ?_
        rintro e zw2 ⟨rfl, hm2⟩
        exact hK (.int .i64 fl) _ (hI.next hR (by kernel_rfl) hm2 (PB.quiet hI.1 hm2 (HGs.out D 7 _ _ (by omega) (hI.1).g hm2)) (upd_same V 7 _))
       ·intro D V zw1 a hR hI K hK
        obtain ⟨hM1, hB1, hG1⟩ := hI.1
        obtain ⟨hGK, hG1⟩ := hG1
        have zd3 := hR.pred 3 (by kernel_rfl)
        have zF3 : V 3 = .int .i64 fq := hI.2 3 zd3 rfl
        have zf3 := zF3; clear zF3
        have zd7 := hR.pred 7 (by kernel_rfl)
        have zF7 : V 7 = .int .i64 fl := hI.2 7 zd7 rfl
        have zf7 := zF7; clear zF7
        have ze51 := hR.frame.done (t := 51) (j := 3) (by kernel_rfl) hR.ok zd3
        have ze55 := hR.frame.done (t := 55) (j := 7) (by kernel_rfl) hR.ok zd7
        have zx : IntKind.i64.wrap (fq + fl) = fq + fl := IntWalk.i64_in _ (by omega)
        rw [if_pos (by rfl)]
        go_simp
        exact hK (.int .i64 (fq + fl)) _ (hI.next hR (by kernel_rfl) (Mod.refl _ _) (PB.quiet hI.1 (Mod.refl _ _) (HGs.out D 8 zw1 zw1 (by omega) (hI.1).g (Mod.refl _ _))) (upd_same V 8 _))
       ·intro D V zw1 a hR hI K hK
        obtain ⟨hM1, hB1, hG1⟩ := hI.1
        obtain ⟨hGK, hG1⟩ := hG1
        have zd0 := hR.pred 0 (by kernel_rfl)
        have zF0 : V 0 = .slice (some ⟨g, 0, none⟩) (cs.length + 1) (cs.length + 1) := hI.2 0 zd0 rfl
        have zf0 := zF0; clear zF0
        have zd1 := hR.pred 1 (by kernel_rfl)
        have zF1 : V 1 = .int .i64 (q : Int) := hI.2 1 zd1 rfl
        have zf1 := zF1; clear zF1
        have ze48 := hR.frame.done (t := 48) (j := 0) (by kernel_rfl) hR.ok zd0
        have ze49 := hR.frame.done (t := 49) (j := 1) (by kernel_rfl) hR.ok zd1
        rw [if_pos (by rfl)]
        go_simp
        exact hK (.pointer (some ⟨g, q, none⟩)) _ (hI.next hR (by kernel_rfl) (Mod.refl _ _) (PB.quiet hI.1 (Mod.refl _ _) (HGs.out D 9 zw1 zw1 (by omega) (hI.1).g (Mod.refl _ _))) (upd_same V 9 _))
       ·intro D V zw1 a hR hI K hK
        obtain ⟨hM1, hB1, hG1⟩ := hI.1
        obtain ⟨hGK, hG1⟩ := hG1
        have zd9 := hR.pred 9 (by kernel_rfl)
        have zF9 : V 9 = .pointer (some ⟨g, q, none⟩) := hI.2 9 zd9 rfl
        have zf9 := zF9; clear zF9
        have zd8 := hR.pred 8 (by kernel_rfl)
        have zF8 : V 8 = .int .i64 (fq + fl) := hI.2 8 zd8 rfl
        have zf8 := zF8; clear zF8
        have ze57 := hR.frame.done (t := 57) (j := 9) (by kernel_rfl) hR.ok zd9
        have ze56 := hR.frame.done (t := 56) (j := 8) (by kernel_rfl) hR.ok zd8
        rw [if_pos (by rfl)]
        have hZ := hGK hR.not
        obtain ⟨zx2, zy2⟩ := hZ.cell (i := q) (by omega)
        have hB5 := hZ.set q (fq + fl)
        have hmm : Mod (· = g) zw1 (zw1.setCell ⟨g, q, none⟩ (.int .i64 (fq + fl))) := Mod.setCell (S := (· = g)) (Mod.refl _ zw1) (p := ⟨g, q, none⟩) (.inl rfl) _
        go_simp
        refine hK undef _ (InvF.last ⟨hM1.trans hmm, (by simpa using hB1), ⟨fun hs => absurd hs (by rw [upd_same]; decide), hG1.set_ne hZ⟩⟩ ⟨upd_same _ 10 _, hB5⟩ ?_)
        intro k hk hDk hlv
        have hkl := hR.lt k hDk
        have hv := hI.2 k hDk (liveB_of hlv)
        match k, hk, hDk, hlv, hkl, hv with
        | 0, _, _, _, _, hv => exact hv
        | 1, _, _, _, _, hv => exact hv
        | 2, _, _, _, _, hv => exact hv
        | 3, _, _, _, _, hv => exact hv
        | 4, _, _, _, _, hv => exact hv
        | 5, _, _, _, _, hv => exact hv
        | 6, _, _, _, _, hv => exact hv
        | 7, _, _, _, _, hv => exact hv
        | 8, _, _, _, _, hv => exact hv
        | 9, _, _, _, _, hv => exact hv
        | 10, hk, _, _, _, _ => exact absurd rfl hk
        | k + 11, _, _, _, hkl, _ => exact absurd hkl (by simp)
      ·intro D V w9 hD hI
       obtain ⟨hM1, hB1, hG1⟩ := hI.1
       have hMx := hM1
       clear hM1
       have hBx := hB1
       clear hB1
       have hGx := hG1.2
       clear hG1
       have zF0 : V 0 = .slice (some ⟨g, 0, none⟩) (cs.length + 1) (cs.length + 1) := hI.2 0 (hD 0 (by decide)) rfl
       have zf0 := zF0; clear zF0
       have zF1 : V 1 = .int .i64 (q : Int) := hI.2 1 (hD 1 (by decide)) rfl
       have zf1 := zF1; clear zF1
       have zF2 : V 2 = .pointer (some ⟨g, q, none⟩) := hI.2 2 (hD 2 (by decide)) rfl
       have zf2 := zF2; clear zF2
       have zF3 : V 3 = .int .i64 fq := hI.2 3 (hD 3 (by decide)) rfl
       have zf3 := zF3; clear zF3
       have zF4 : V 4 = .slice A4 v.length c4 := hI.2 4 (hD 4 (by decide)) rfl
       have zf4 := zF4; clear zF4
       have zF5 : V 5 = .string ⟨s.toArray⟩ := hI.2 5 (hD 5 (by decide)) rfl
       have zf5 := zF5; clear zF5
       have zF6 : V 6 = .bool (decide (s ∈ v)) := hI.2 6 (hD 6 (by decide)) rfl
       have zf6 := zF6; clear zF6
       have zF7 : V 7 = .int .i64 fl := hI.2 7 (hD 7 (by decide)) rfl
       have zf7 := zF7; clear zF7
       have zF8 : V 8 = .int .i64 (fq + fl) := hI.2 8 (hD 8 (by decide)) rfl
       have zf8 := zF8; clear zF8
       have zF9 : V 9 = .pointer (some ⟨g, q, none⟩) := hI.2 9 (hD 9 (by decide)) rfl
       have zf9 := zF9; clear zF9
       have zF10 : V 10 = undef ∧ RowI w9 g (fun j => if j = q then fq + fl else midR cs F v q j) (cs.length + 1) := hI.2 10 (hD 10 (by decide)) rfl
       obtain ⟨zf10, b10_0⟩ := zF10
       clear hI hD HGs
       simp only [frAll, Act.put, List.setIfInBounds_toArray, List.set_cons_zero, List.set_cons_succ, Nat.zero_add, Nat.reduceAdd, zf0, zf1, zf2, zf3, zf4, zf5, zf6, zf7, zf8, zf9, zf10]
       clear zf0 zf1 zf2 zf3 zf4 zf5 zf6 zf7 zf8 zf9 zf10
       clear V D
       have HR3 := Lib.hid b10_0
       have HS3 := Lib.hid hGx
       have HM3 : Hid (Pure w w9) := Lib.hid (HM2.out.trans' hMx (fun i hi hl => by omega))
       rw [← HMS.out] at HR3
       clear hMx hBx hGx b10_0 HR2 HS2 HM2 HCN HFG HMS HMQ
       go_wp2_with fail
       go_roundg (cs.length - (q + 1))
       case measure => omega
       case rel => exact ⟨q + 1, rfl, by omega, by simp, HR3.out, HS3.out, HM3.out⟩
     ·obtain rfl : q = cs.length := by omega
      have HR2 := Lib.hid hR
      have HM2 := Lib.hid hm
      have hfb := HFB.out cs.length
      have HMQ : Hid (midR cs F v cs.length cs.length = F cs.length) := Lib.hid (by unfold midR; rw [if_neg (by omega)])
      have HME := Lib.hid (midR_e cs F v)
      clear hR hm hsv
      obtain ⟨fl, hfl⟩ : ∃ fl, (if v = [] then (1 : Int) else 0) = fl := ⟨_, rfl⟩
      rw [hfl] at HME
      have hflb : 0 ≤ fl ∧ fl ≤ 1 := by rw [← hfl]; split <;> omega
      have HFG := Lib.hid (fun W => flagI_calls W (decide (v = [])))
      rw [show (if decide (v = []) = true then (1 : Int) else 0) = fl by rw [← hfl]; cases v <;> simp] at HFG
      clear hfl
      generalize F cs.length = fq at *
      go_upto_region 15 with (fail)
      have i0 : (0 : Int) ≤ (cs.length : Int) := by omega
      have i1 : (cs.length : Int) < (cs.length : Int) + 1 := by omega
      have i2 : cs.length < cs.length + 1 := by omega
      have HGs := Lib.hid (show ∀ (D : Nat → Bool) (zzi : Nat) (zq zq' : World), zzi ≠ 11 → (fun D zq => (D 11 = false → (fun Z => RowI Z g (midR cs F v cs.length) (cs.length + 1)) zq) ∧ (fun Z => True) zq) D zq → Mod (fun _ => False) zq zq' → (fun D zq => (D 11 = false → (fun Z => RowI Z g (midR cs F v cs.length) (cs.length + 1)) zq) ∧ (fun Z => True) zq) (upd D zzi true) zq' from by intro D zzi zq zq' hi hh hm; refine ⟨fun hs => ?_, ?_⟩; (rw [upd_ne _ _ (Ne.symm hi)] at hs; have h := hh.1 hs; (exact h.modp hm)); (have h := hh.2; (trivial)))
      refine wp_region_inv (by kernel_rfl) (by kernel_rfl) (InvF (R := Mod (fun _ => False)) [.is (.slice (some ⟨g, 0, none⟩) (cs.length + 1) (cs.length + 1)),
        .is (.slice cA cs.length cc),
        .is (.int .i64 (cs.length : Int)),
        .is (.pointer (some ⟨g, cs.length, none⟩)),
        .is (.int .i64 fq),
        .is (.slice A4 v.length c4),
        .is (.int .i64 (v.length : Int)),
        .is (.bool (decide (v = []))),
        .is (.int .i64 fl),
        .is (.int .i64 (fq + fl)),
        .is (.pointer (some ⟨g, cs.length, none⟩)),
        ⟨fun zv zw => zv = undef ∧ RowI zw g (fun j => if j = cs.length then fq + fl else midR cs F v cs.length j) (cs.length + 1), (by rintro zv zw zx ⟨rfl, q0⟩ hm; exact ⟨rfl, (q0.modp hm)⟩), none, none⟩]
        (PB wr (· = g) wr.heap.size (fun D zq => (D 11 = false → (fun Z => RowI Z g (midR cs F v cs.length) (cs.length + 1)) zq) ∧ (fun Z => True) zq))) (InvF.start (PB.start (Mod.refl _ _) (Nat.le_refl _) (⟨fun _ => HR2.out.modp (Mod.refl _ _).drew, trivial⟩))) ?_ ?_
      ·refine .cons ?_ (.cons ?_ (.cons ?_ (.cons ?_ (.cons ?_ (.cons ?_ (.cons ?_ (.cons ?_ (.cons ?_ (.cons ?_ (.cons ?_ (.cons ?_ .nil)))))))))))
       ·intro D V zw1 a hR hI K hK
        obtain ⟨hM1, hB1, hG1⟩ := hI.1
        obtain ⟨hGK, hG1⟩ := hG1
        have ze10 := hR.frame.other (t := 10) (by kernel_rfl) rfl
        rw [if_pos (by rfl)]
        go_simp
        exact hK (.slice (some ⟨g, 0, none⟩) (cs.length + 1) (cs.length + 1)) _ (hI.next hR (by kernel_rfl) (Mod.refl _ _) (PB.quiet hI.1 (Mod.refl _ _) (HGs.out D 0 zw1 zw1 (by omega) (hI.1).g (Mod.refl _ _))) (upd_same V 0 _))
       ·intro D V zw1 a hR hI K hK
        obtain ⟨hM1, hB1, hG1⟩ := hI.1
        obtain ⟨hGK, hG1⟩ := hG1
        have ze9 := hR.frame.other (t := 9) (by kernel_rfl) rfl
        rw [if_pos (by rfl)]
        go_simp
        exact hK (.slice cA cs.length cc) _ (hI.next hR (by kernel_rfl) (Mod.refl _ _) (PB.quiet hI.1 (Mod.refl _ _) (HGs.out D 1 zw1 zw1 (by omega) (hI.1).g (Mod.refl _ _))) (upd_same V 1 _))
       ·intro D V zw1 a hR hI K hK
        obtain ⟨hM1, hB1, hG1⟩ := hI.1
        obtain ⟨hGK, hG1⟩ := hG1
        have zd1 := hR.pred 1 (by kernel_rfl)
        have zF1 : V 1 = .slice cA cs.length cc := hI.2 1 zd1 rfl
        have zf1 := zF1; clear zF1
        have ze60 := hR.frame.done (t := 60) (j := 1) (by kernel_rfl) hR.ok zd1
        rw [if_pos (by rfl)]
        go_simp
        exact hK (.int .i64 (cs.length : Int)) _ (hI.next hR (by kernel_rfl) (Mod.refl _ _) (PB.quiet hI.1 (Mod.refl _ _) (HGs.out D 2 zw1 zw1 (by omega) (hI.1).g (Mod.refl _ _))) (upd_same V 2 _))
       ·intro D V zw1 a hR hI K hK
        obtain ⟨hM1, hB1, hG1⟩ := hI.1
        obtain ⟨hGK, hG1⟩ := hG1
        have zd0 := hR.pred 0 (by kernel_rfl)
        have zF0 : V 0 = .slice (some ⟨g, 0, none⟩) (cs.length + 1) (cs.length + 1) := hI.2 0 zd0 rfl
        have zf0 := zF0; clear zF0
        have zd2 := hR.pred 2 (by kernel_rfl)
        have zF2 : V 2 = .int .i64 (cs.length : Int) := hI.2 2 zd2 rfl
        have zf2 := zF2; clear zF2
        have ze59 := hR.frame.done (t := 59) (j := 0) (by kernel_rfl) hR.ok zd0
        have ze61 := hR.frame.done (t := 61) (j := 2) (by kernel_rfl) hR.ok zd2
        rw [if_pos (by rfl)]
        go_simp
        exact hK (.pointer (some ⟨g, cs.length, none⟩)) _ (hI.next hR (by kernel_rfl) (Mod.refl _ _) (PB.quiet hI.1 (Mod.refl _ _) (HGs.out D 3 zw1 zw1 (by omega) (hI.1).g (Mod.refl _ _))) (upd_same V 3 _))
       ·intro D V zw1 a hR hI K hK
        obtain ⟨hM1, hB1, hG1⟩ := hI.1
        obtain ⟨hGK, hG1⟩ := hG1
        have zd3 := hR.pred 3 (by kernel_rfl)
        have zF3 : V 3 = .pointer (some ⟨g, cs.length, none⟩) := hI.2 3 zd3 rfl
        have zf3 := zF3; clear zF3
        have ze62 := hR.frame.done (t := 62) (j := 3) (by kernel_rfl) hR.ok zd3
        have zB := hGK (hR.later 11 rfl (by kernel_rfl))
        obtain ⟨zx0, _⟩ := zB.cell (i := cs.length) (by omega)
        rw [HMQ.out] at zx0
        rw [if_pos (by rfl)]
        go_simp
        exact hK (.int .i64 fq) _ (hI.next hR (by kernel_rfl) (Mod.refl _ _) (PB.quiet hI.1 (Mod.refl _ _) (HGs.out D 4 zw1 zw1 (by omega) (hI.1).g (Mod.refl _ _))) (upd_same V 4 _))
       ·intro D V zw1 a hR hI K hK
        obtain ⟨hM1, hB1, hG1⟩ := hI.1
        obtain ⟨hGK, hG1⟩ := hG1
        have ze13 := hR.frame.other (t := 13) (by kernel_rfl) rfl
        rw [if_pos (by rfl)]
        go_simp
        exact hK (.slice A4 v.length c4) _ (hI.next hR (by kernel_rfl) (Mod.refl _ _) (PB.quiet hI.1 (Mod.refl _ _) (HGs.out D 5 zw1 zw1 (by omega) (hI.1).g (Mod.refl _ _))) (upd_same V 5 _))
       ·intro D V zw1 a hR hI K hK
        obtain ⟨hM1, hB1, hG1⟩ := hI.1
        obtain ⟨hGK, hG1⟩ := hG1
        have zd5 := hR.pred 5 (by kernel_rfl)
        have zF5 : V 5 = .slice A4 v.length c4 := hI.2 5 zd5 rfl
        have zf5 := zF5; clear zF5
        have ze64 := hR.frame.done (t := 64) (j := 5) (by kernel_rfl) hR.ok zd5
        rw [if_pos (by rfl)]
        go_simp
        exact hK (.int .i64 (v.length : Int)) _ (hI.next hR (by kernel_rfl) (Mod.refl _ _) (PB.quiet hI.1 (Mod.refl _ _) (HGs.out D 6 zw1 zw1 (by omega) (hI.1).g (Mod.refl _ _))) (upd_same V 6 _))
       ·intro D V zw1 a hR hI K hK
        obtain ⟨hM1, hB1, hG1⟩ := hI.1
        obtain ⟨hGK, hG1⟩ := hG1
        have zd6 := hR.pred 6 (by kernel_rfl)
        have zF6 : V 6 = .int .i64 (v.length : Int) := hI.2 6 zd6 rfl
        have zf6 := zF6; clear zF6
        have ze65 := hR.frame.done (t := 65) (j := 6) (by kernel_rfl) hR.ok zd6
        have zvl : ((v.length : Int) == 0) = decide (v = []) := by cases v <;> simp <;> omega
        rw [if_pos (by rfl)]
        go_simp
        exact hK (.bool (decide (v = []))) _ (hI.next hR (by kernel_rfl) (Mod.refl _ _) (PB.quiet hI.1 (Mod.refl _ _) (HGs.out D 7 zw1 zw1 (by omega) (hI.1).g (Mod.refl _ _))) (upd_same V 7 _))
       ·intro D V zw1 a hR hI K hK
        obtain ⟨hM1, hB1, hG1⟩ := hI.1
        obtain ⟨hGK, hG1⟩ := hG1
        have zd7 := hR.pred 7 (by kernel_rfl)
        have zF7 : V 7 = .bool (decide (v = [])) := hI.2 7 zd7 rfl
        have zf7 := zF7; clear zF7
        have ze66 := hR.frame.done (t := 66) (j := 7) (by kernel_rfl) hR.ok zd7
        rw [if_pos (by rfl)]
        go_simp
        refine (HFG.out zw1).mono ?_
        rintro e zw2 ⟨rfl, hm2⟩
        exact hK (.int .i64 fl) _ (hI.next hR (by kernel_rfl) hm2 (PB.quiet hI.1 hm2 (HGs.out D 8 _ _ (by omega) (hI.1).g hm2)) (upd_same V 8 _))
       ·intro D V zw1 a hR hI K hK
        obtain ⟨hM1, hB1, hG1⟩ := hI.1
        obtain ⟨hGK, hG1⟩ := hG1
        have zd4 := hR.pred 4 (by kernel_rfl)
        have zF4 : V 4 = .int .i64 fq := hI.2 4 zd4 rfl
        have zf4 := zF4; clear zF4
        have zd8 := hR.pred 8 (by kernel_rfl)
        have zF8 : V 8 = .int .i64 fl := hI.2 8 zd8 rfl
        have zf8 := zF8; clear zF8
        have ze63 := hR.frame.done (t := 63) (j := 4) (by kernel_rfl) hR.ok zd4
        have ze67 := hR.frame.done (t := 67) (j := 8) (by kernel_rfl) hR.ok zd8
        have zx : IntKind.i64.wrap (fq + fl) = fq + fl := IntWalk.i64_in _ (by omega)
        rw [if_pos (by rfl)]
        go_simp
        exact hK (.int .i64 (fq + fl)) _ (hI.next hR (by kernel_rfl) (Mod.refl _ _) (PB.quiet hI.1 (Mod.refl _ _) (HGs.out D 9 zw1 zw1 (by omega) (hI.1).g (Mod.refl _ _))) (upd_same V 9 _))
       ·intro D V zw1 a hR hI K hK
        obtain ⟨hM1, hB1, hG1⟩ := hI.1
        obtain ⟨hGK, hG1⟩ := hG1
        have zd0 := hR.pred 0 (by kernel_rfl)
        have zF0 : V 0 = .slice (some ⟨g, 0, none⟩) (cs.length + 1) (cs.length + 1) := hI.2 0 zd0 rfl
        have zf0 := zF0; clear zF0
        have zd2 := hR.pred 2 (by kernel_rfl)
        have zF2 : V 2 = .int .i64 (cs.length : Int) := hI.2 2 zd2 rfl
        have zf2 := zF2; clear zF2
        have ze59 := hR.frame.done (t := 59) (j := 0) (by kernel_rfl) hR.ok zd0
        have ze61 := hR.frame.done (t := 61) (j := 2) (by kernel_rfl) hR.ok zd2
        rw [if_pos (by rfl)]
        go_simp
        exact hK (.pointer (some ⟨g, cs.length, none⟩)) _ (hI.next hR (by kernel_rfl) (Mod.refl _ _) (PB.quiet hI.1 (Mod.refl _ _) (HGs.out D 10 zw1 zw1 (by omega) (hI.1).g (Mod.refl _ _))) (upd_same V 10 _))
       ·intro D V zw1 a hR hI K hK
        obtain ⟨hM1, hB1, hG1⟩ := hI.1
        obtain ⟨hGK, hG1⟩ := hG1
        have zd10 := hR.pred 10 (by kernel_rfl)
        have zF10 : V 10 = .pointer (some ⟨g, cs.length, none⟩) := hI.2 10 zd10 rfl
        have zf10 := zF10; clear zF10
        have zd9 := hR.pred 9 (by kernel_rfl)
        have zF9 : V 9 = .int .i64 (fq + fl) := hI.2 9 zd9 rfl
        have zf9 := zF9; clear zF9
        have ze69 := hR.frame.done (t := 69) (j := 10) (by kernel_rfl) hR.ok zd10
        have ze68 := hR.frame.done (t := 68) (j := 9) (by kernel_rfl) hR.ok zd9
        rw [if_pos (by rfl)]
        have hZ := hGK hR.not
        obtain ⟨zx2, zy2⟩ := hZ.cell (i := cs.length) (by omega)
        have hB5 := hZ.set cs.length (fq + fl)
        have hmm : Mod (· = g) zw1 (zw1.setCell ⟨g, cs.length, none⟩ (.int .i64 (fq + fl))) := Mod.setCell (S := (· = g)) (Mod.refl _ zw1) (p := ⟨g, cs.length, none⟩) (.inl rfl) _
        go_simp
        refine hK undef _ (InvF.last ⟨hM1.trans hmm, (by simpa using hB1), ⟨fun hs => absurd hs (by rw [upd_same]; decide), trivial⟩⟩ ⟨upd_same _ 11 _, hB5⟩ ?_)
        intro k hk hDk hlv
        have hkl := hR.lt k hDk
        have hv := hI.2 k hDk (liveB_of hlv)
        match k, hk, hDk, hlv, hkl, hv with
        | 0, _, _, _, _, hv => exact hv
        | 1, _, _, _, _, hv => exact hv
        | 2, _, _, _, _, hv => exact hv
        | 3, _, _, _, _, hv => exact hv
        | 4, _, _, _, _, hv => exact hv
        | 5, _, _, _, _, hv => exact hv
        | 6, _, _, _, _, hv => exact hv
        | 7, _, _, _, _, hv => exact hv
        | 8, _, _, _, _, hv => exact hv
        | 9, _, _, _, _, hv => exact hv
        | 10, _, _, _, _, hv => exact hv
        | 11, hk, _, _, _, _ => exact absurd rfl hk
        | k + 12, _, _, _, hkl, _ => exact absurd hkl (by simp)
      ·intro D V w9 hD hI
       obtain ⟨hM1, hB1, hG1⟩ := hI.1
       have hMx := hM1
       clear hM1
       have hBx := hB1
       clear hB1
       have hGx := hG1.2
       clear hG1
       have zF0 : V 0 = .slice (some ⟨g, 0, none⟩) (cs.length + 1) (cs.length + 1) := hI.2 0 (hD 0 (by decide)) rfl
       have zf0 := zF0; clear zF0
       have zF1 : V 1 = .slice cA cs.length cc := hI.2 1 (hD 1 (by decide)) rfl
       have zf1 := zF1; clear zF1
       have zF2 : V 2 = .int .i64 (cs.length : Int) := hI.2 2 (hD 2 (by decide)) rfl
       have zf2 := zF2; clear zF2
       have zF3 : V 3 = .pointer (some ⟨g, cs.length, none⟩) := hI.2 3 (hD 3 (by decide)) rfl
       have zf3 := zF3; clear zF3
       have zF4 : V 4 = .int .i64 fq := hI.2 4 (hD 4 (by decide)) rfl
       have zf4 := zF4; clear zF4
       have zF5 : V 5 = .slice A4 v.length c4 := hI.2 5 (hD 5 (by decide)) rfl
       have zf5 := zF5; clear zF5
       have zF6 : V 6 = .int .i64 (v.length : Int) := hI.2 6 (hD 6 (by decide)) rfl
       have zf6 := zF6; clear zF6
       have zF7 : V 7 = .bool (decide (v = [])) := hI.2 7 (hD 7 (by decide)) rfl
       have zf7 := zF7; clear zF7
       have zF8 : V 8 = .int .i64 fl := hI.2 8 (hD 8 (by decide)) rfl
       have zf8 := zF8; clear zF8
       have zF9 : V 9 = .int .i64 (fq + fl) := hI.2 9 (hD 9 (by decide)) rfl
       have zf9 := zF9; clear zF9
       have zF10 : V 10 = .pointer (some ⟨g, cs.length, none⟩) := hI.2 10 (hD 10 (by decide)) rfl
       have zf10 := zF10; clear zF10
       have zF11 : V 11 = undef ∧ RowI w9 g (fun j => if j = cs.length then fq + fl else midR cs F v cs.length j) (cs.length + 1) := hI.2 11 (hD 11 (by decide)) rfl
       obtain ⟨zf11, b11_0⟩ := zF11
       clear hI hD HGs
       simp only [frAll, Act.put, List.setIfInBounds_toArray, List.set_cons_zero, List.set_cons_succ, Nat.zero_add, Nat.reduceAdd, zf0, zf1, zf2, zf3, zf4, zf5, zf6, zf7, zf8, zf9, zf10, zf11]
       clear zf0 zf1 zf2 zf3 zf4 zf5 zf6 zf7 zf8 zf9 zf10 zf11
       clear V D
       have HR3 := Lib.hid (b11_0.congr HME.out)
       have HM3 : Hid (Pure w w9) := Lib.hid (HM2.out.trans' hMx (fun i hi hl => by omega))
       rw [← HTK.out] at HR3
       clear hMx hBx hGx b11_0 HR2 HM2 HFG HME HMQ HTK
       go_wp2_with fail
       go_roundg (xs.length - (j + 1))
       case measure => omega
       case rel => exact ⟨j + 1, rfl, by omega, by simp, HR3.out, HM3.out⟩
   ·obtain rfl : j = xs.length := by omega
    have e : xs.take xs.length = xs := List.take_length
    rw [e] at hR
    have HR2 := Lib.hid hR
    have HM2 := Lib.hid hm
    clear hR hm e
    generalize talG cs f xs = F at *
    go_wp2_with fail
    refine bodyPost_ret (v := .tuple #[.slice (some ⟨g, 0, none⟩) (cs.length + 1) (cs.length + 1), .bool true]) (by simp [results, Tryz.results30, go_sem]) rfl ?_
    exact ⟨_, _, _, rfl, fun h => absurd h (by simp), fun _ => HR2.out.sl (by omega), HM2.out⟩

end Go.Proofs.YtkkndblcejmmjaaGreatDoor

/- CodingsFault of the reference. -/
namespace Go.Proofs.YtkkndblcejmmjaaGreatDoor
set_option linter.unusedVariables false
set_option linter.unusedSimpArgs false
open Go.RowKit

def CfRel (w : World) (gl : Nat) (lay : Array Value) (L : LayR) (xs : List CodR) (q : Int) (gk : Nat) (p i : Value) (wr : World) : Prop :=
 ∃ k : Nat, xs.length - k = gk ∧ k ≤ xs.length ∧ i = .int .i64 (k : Int) ∧ p = .string ⟨(prvC xs k).toArray⟩ ∧ ceE L (prvC xs k) (xs.drop k) = q ∧ Blk wr gl 29 lay ∧ Pure w wr

set_option maxRecDepth 100000 in
set_option maxHeartbeats 8000000 in
theorem codingsFault_calls (w : World) (vl : Value) (L : LayR) (A1 : Option Addr) (c1 : Nat) (xs : List CodR) (hL : LayV w L vl) (hLB : LayB L) (hX : Cods w (.slice A1 xs.length c1) xs) (hz : ∀ x ∈ xs, CodB x) (hn : xs.length ≤ 2000) :
  Calls Tryz.prog 27 #[vl, .slice A1 xs.length c1] w (IntPost w (codsE L xs)) := by
 have HX := Lib.hid hX
 have HVE := Lib.hid (fun W (h : Pure w W) (x : CodR) (hx : x ∈ xs) => valuesRight_calls W vl (.slice x.A x.vals.length x.c) L x.vals (hL.pure h) hLB ((hX.2 x hx).pure h) (by have := (hz x hx).2.1; omega) (hz x hx).2.2)
 have HZ := Lib.hid hz
 have HQ : Hid (codsE L xs = ceE L [] xs) := Lib.hid (by unfold codsE; rw [if_neg (by omega)])
 obtain ⟨A, n, c, A3, n3, c3, rfl, _, _⟩ := hL
 have HB0 := Lib.hid (Blk.new w 29 #[.slice A n c, .slice A3 n3 c3])
 have HM0 := Lib.hid (pure_alloc w (.cells #[.slice A n c, .slice A3 n3 c3] 29))
 clear hX hz hLB
 generalize codsE L xs = q at *
 go_enter Tryz.func27, Tryz.ntmps27
 go_upto_region 1 with (fail)
 generalize (w.alloc (.cells #[.slice A n c, .slice A3 n3 c3] 29)) = w1 at *
 generalize hgl : w.heap.size = gl at *
 clear hgl
 have hn2 : ¬ (2000 : Int) < (xs.length : Int) := by omega
 go_wp2_with fail
 go_loopg [5, 14] xs.length (fun gk p i wr => CfRel w gl #[.slice A n c, .slice A3 n3 c3] L xs q gk p i wr)
 case atStart => exact ⟨0, by omega, by omega, rfl, rfl, HQ.out.symm, HB0.out, HM0.out⟩
 case round =>
  clear HB0 HM0 hn2 HQ
  obtain ⟨k, rfl, hk, rfl, rfl, hce, hbl, hm⟩ := hrel
  by_cases hlt : k < xs.length
  ·have HPV := Lib.hid (prvC_s hlt)
   obtain ⟨g, off, rfl, p0, p1⟩ := (HX.out.pure hm).cells hlt
   have hst := ceE_step (L := L) hlt (prvC xs k)
   rw [hce] at hst
   have HST := Lib.hid hst
   have HVX := Lib.hid (fun W (h : Pure w W) => HVE.out W h xs[k] (List.getElem_mem hlt))
   have HXI : Hid (xs[k].item.length ≤ 1000) := Lib.hid (HZ.out xs[k] (List.getElem_mem hlt)).1
   clear hst hce
   generalize xs[k] = x at *
   generalize prvC xs k = pv at *
   have HB1 := Lib.hid (hbl.alloc (.cells #[.string ⟨x.item.toArray⟩, .slice x.A x.vals.length x.c] 69))
   have HC1 := Lib.hid (Blk.new wr 69 #[.string ⟨x.item.toArray⟩, .slice x.A x.vals.length x.c])
   have HP1 := Lib.hid (hm.trans (pure_alloc wr (.cells #[.string ⟨x.item.toArray⟩, .slice x.A x.vals.length x.c] 69)))
   go_upto_region 7 with (fail)
   generalize (wr.alloc (.cells #[.string ⟨x.item.toArray⟩, .slice x.A x.vals.length x.c] 69)) = w2 at *
   generalize wr.heap.size = gx at *
   clear p0 p1 hbl hm
   obtain ⟨kb, hkb⟩ : ∃ kb, keyB x.item = kb := ⟨_, rfl⟩
   have HKY := Lib.hid (fun W => rkeyP_calls W x.item kb hkb HXI.out)
   rw [hkb] at HST
   have hX := HC1.out
   have x0 := hX.cell 0; have x1 := hX.cell 1; simp at x0 x1
   clear hX hkb HXI
   go_wp2_with fail
   refine (HKY.out _).mono ?_
   rintro e w3 ⟨rfl, hm⟩
   replace HP1 := Lib.hid (HP1.out.trans hm)
   replace HB1 := Lib.hid (HB1.out.modp hm)
   replace HC1 := Lib.hid (HC1.out.modp hm)
   clear hm
   clear x0 x1 HKY
   cases kb
   ·have HF : Hid (q = 5) := Lib.hid (by rw [HST.out, if_pos rfl])
    clear HST HPV
    go_wp2_with fail
    go_ret
    exact IntPost.of HF.out HP1.out
   ·have hX := HC1.out
    have x0 := hX.cell 0; have x1 := hX.cell 1; simp at x0 x1
    clear hX
    cases hle : leS x.item pv
    ·have hle2 : (Op.bytesLess x.item pv || x.item == pv) = false := hle
     obtain ⟨ve, hve⟩ : ∃ ve, valsE L x.vals = ve := ⟨_, rfl⟩
     rw [hve] at HVX
     have HS2 : Hid (q = if ve ≠ 0 then ve else ceE L x.item (xs.drop (k + 1))) := Lib.hid (by rw [HST.out, if_neg (by simp), if_neg (by rw [hle]; simp), hve])
     clear HST hle hve
     go_upto_region 12 with (fail)
     have hX := HB1.out
     have y0 := hX.cell 0; have y1 := hX.cell 1; simp at y0 y1
     clear hX
     go_wp2_with fail
     refine (HVX.out _ HP1.out).mono ?_
     rintro e w4 ⟨rfl, hm⟩
     replace HP1 := Lib.hid (HP1.out.trans hm)
     replace HB1 := Lib.hid (HB1.out.modp hm)
     clear hm
     clear x0 x1 y0 y1 HVX HC1
     by_cases h0 : ve = 0
     ·subst h0
      have HS3 : Hid (ceE L (prvC xs (k + 1)) (xs.drop (k + 1)) = q) := Lib.hid (by rw [HPV.out, HS2.out, if_neg (by simp)])
      clear HS2
      go_wp2_with fail
      go_roundg (xs.length - (k + 1))
      case measure => omega
      case rel => exact ⟨k + 1, rfl, by omega, by simp, by rw [HPV.out], HS3.out, HB1.out, HP1.out⟩
     ·have h0' : (ve != 0) = true := by simpa using h0
      have HF : Hid (q = ve) := Lib.hid (by rw [HS2.out, if_pos h0])
      clear HS2 HPV h0
      go_wp2_with fail
      go_ret
      exact IntPost.of HF.out HP1.out
    ·have hle2 : (Op.bytesLess x.item pv || x.item == pv) = true := hle
     have HF : Hid (q = 7) := Lib.hid (by rw [HST.out, if_neg (by simp), if_pos hle])
     clear HST HPV hle
     go_wp2_with fail
     go_ret
     exact IntPost.of HF.out HP1.out
  ·obtain rfl : k = xs.length := by omega
   have HS2 : Hid (q = 0) := Lib.hid (by rw [← hce, List.drop_of_length_le (Nat.le_refl _)]; rfl)
   clear hce hk hlt
   go_wp2_with fail
   go_ret
   exact IntPost.of HS2.out hm

end Go.Proofs.YtkkndblcejmmjaaGreatDoor
