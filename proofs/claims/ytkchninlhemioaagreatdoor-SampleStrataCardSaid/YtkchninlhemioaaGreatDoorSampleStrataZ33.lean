/- Texts of the proof of SampleStrata, put together: StrC, LawStrata. -/
import Derived.Test.YtkchninlhemioaaGreatDoorSampleStrataZ8
import Derived.Test.YtkchninlhemioaaGreatDoorSampleStrataZ12
import Derived.Test.YtkchninlhemioaaGreatDoorSampleStrataZ23
import Derived.Test.YtkchninlhemioaaGreatDoorSampleStrataZ24
import Derived.Test.YtkchninlhemioaaGreatDoorSampleStrataZ28
import Derived.Test.YtkchninlhemioaaGreatDoorSampleStrataZ29
import Derived.Test.YtkchninlhemioaaGreatDoorSampleStrataZ32
/- Strata: Strata of package sample, StrataOf of the reference. -/
namespace Go.Proofs.YtkchninlhemioaaGreatDoor
set_option linter.unusedVariables false
set_option linter.unusedSimpArgs false
open Go.RowKit

/-- Slices of strings. -/
def Rows2 (w : World) (us : List Value) (xss : List (List Str)) : Prop := us.length = xss.length ∧ ∀ i, i < us.length → Sl w 9 1 (us.getD i nilS) (strsV (xss.getD i []))
theorem Rows2.nil_ (w : World) : Rows2 w [] [] := ⟨rfl, fun i h => absurd h (by simp)⟩
theorem Rows2.to {w w' : World} {us : List Value} {xss : List (List Str)} (h : Rows2 w us xss) (f : ∀ u ys, Sl w 9 1 u (strsV ys) → Sl w' 9 1 u (strsV ys)) : Rows2 w' us xss := ⟨h.1, fun i hi => f _ _ (h.2 i hi)⟩
theorem Rows2.pure {w w' : World} {us : List Value} {xss : List (List Str)} (h : Rows2 w us xss) (hm : Pure w w') : Rows2 w' us xss := h.to fun _ _ x => x.pure hm
theorem getD_snoc {α : Type} (l : List α) (x d : α) (i : Nat) : (l ++ [x]).getD i d = if i = l.length then x else l.getD i d := by
  simp only [List.getD]
  by_cases h : i < l.length
  · rw [List.getElem?_append_left h, if_neg (by omega)]
  · by_cases h2 : i = l.length
    · subst h2
      simp
    · rw [if_neg h2, List.getElem?_eq_none (by simp; omega), List.getElem?_eq_none (by omega)]
theorem Rows2.snoc {w : World} {us : List Value} {xss : List (List Str)} {u : Value} {ys : List Str} (h : Rows2 w us xss) (hu : Sl w 9 1 u (strsV ys)) : Rows2 w (us ++ [u]) (xss ++ [ys]) := by
  refine ⟨by simp [h.1], fun i hi => ?_⟩
  rw [getD_snoc, getD_snoc, h.1]
  by_cases e : i = xss.length
  · rw [if_pos e, if_pos e]; exact hu
  · rw [if_neg e, if_neg e]
    have := h.1
    simp at hi
    exact h.2 i (by omega)
theorem Rows2.slss {w : World} {v : Value} {us : List Value} {xss : List (List Str)} (h : Rows2 w us xss) (hv : Sl w 26 1 v us) : SlSS w v xss := ⟨us, hv, h.1, h.2⟩
def idsAt (xs : List Stm) (i : Nat) : List Str := (xs.getD i ([], nilS, [])).2.2
def LeastAll (seed : Str) (xs : List Stm) (out : List Int) (xss : List (List Str)) : Prop := ∀ i, i < xss.length → LeastSpec (hashB seed) (idsAt xs i) (out.getD i 0).toNat (xss.getD i [])
theorem LeastAll.snoc {seed : Str} {xs : List Stm} {out : List Int} {xss : List (List Str)} {ys : List Str} (h : LeastAll seed xs out xss) (hy : LeastSpec (hashB seed) (idsAt xs xss.length) (out.getD xss.length 0).toNat ys) : LeastAll seed xs out (xss ++ [ys]) := by
  intro i hi
  rw [getD_snoc]
  by_cases e : i = xss.length
  · rw [if_pos e, e]; exact hy
  · rw [if_neg e]
    simp at hi
    exact h i (by omega)
theorem LeastAll.unique {seed : Str} {xs : List Stm} {out : List Int} {xss yss : List (List Str)} (hx : LeastAll seed xs out xss) (hy : LeastAll seed xs out yss) (hl : xss.length = yss.length) : xss = yss := by
  apply List.ext_getElem hl
  intro i h1 h2
  have a := hx i h1
  have b := hy i h2
  have e := a.unique b
  simpa [List.getD, h1, h2] using e
def sizesOf (xs : List Stm) : List Int := xs.map fun p => (p.2.2.length : Int)
theorem sizesOf_len (xs : List Stm) : (sizesOf xs).length = xs.length := by simp [sizesOf]
theorem sizes_take {xs : List Stm} {k : Nat} (h : k < xs.length) : sizesOf (xs.take (k + 1)) = sizesOf (xs.take k) ++ [(xs[k].2.2.length : Int)] := by
  unfold sizesOf
  rw [List.take_succ_eq_append_getElem h, List.map_append]
  rfl
theorem incs_bound : ∀ (ps : List Nat) (l : List Int) (B : Int), 0 ≤ B → (∀ x ∈ l, 0 ≤ x ∧ x ≤ B) → ∀ x ∈ incs l ps, 0 ≤ x ∧ x ≤ B + ps.length
  | [], l, B, _, h, x, hx => by
    have := h x hx
    simp only [List.length_nil]
    omega
  | p :: ps, l, B, hB, h, x, hx => by
    have e : incs l (p :: ps) = incs (l.set p (l.getD p 0 + 1)) ps := rfl
    rw [e] at hx
    have := incs_bound ps (l.set p (l.getD p 0 + 1)) (B + 1) (by omega) (fun y hy => by
      rcases List.mem_or_eq_of_mem_set hy with hy | hy
      · have := h y hy
        omega
      · have h0 : 0 ≤ l.getD p 0 ∧ l.getD p 0 ≤ B := by
          simp only [List.getD]
          cases hp : l[p]? with
          | none => exact ⟨Int.le_refl _, hB⟩
          | some z => exact h z (List.mem_of_getElem? hp)
        omega) x hx
    simp only [List.length_cons]
    omega
theorem alloc_bound {zs : List Int} {many : Int} {out : List Int} (h : AllocSpec zs many out) (hz : ∀ z ∈ zs, 0 ≤ z ∧ z ≤ 2000) (hm : 0 ≤ many ∧ many ≤ 2000) (hl : zs.length < 20) : out.length = zs.length ∧ ∀ x ∈ out, 0 ≤ x ∧ x ≤ 5000000 := by
  rcases h with ⟨_, rfl⟩ | ⟨hlt, s, hs, rfl⟩
  · exact ⟨rfl, fun x hx => by have := hz x hx; omega⟩
  · refine ⟨by rw [incs_len]; simp [quos], fun x hx => ?_⟩
    have h1 := incs_bound (s.take (leftZ zs many (sumZ zs))) (quos zs many (sumZ zs)) 4000000 (by omega) (fun y hy => by
      simp only [quos, List.mem_map, List.mem_range] at hy
      obtain ⟨i, hi, rfl⟩ := hy
      unfold quoA
      have h0 : 0 ≤ zs.getD i 0 ∧ zs.getD i 0 ≤ 2000 := by
        have : zs.getD i 0 = zs[i] := by simp [List.getD, hi]
        rw [this]
        exact hz _ (List.getElem_mem hi)
      have hsum : 0 < sumZ zs := by omega
      have p1 : 0 ≤ many * zs.getD i 0 := Int.mul_nonneg hm.1 h0.1
      have p2 : many * zs.getD i 0 ≤ 2000 * 2000 := Int.mul_le_mul hm.2 h0.2 h0.1 (by omega)
      have q1 := Int.ediv_nonneg p1 (Int.le_of_lt hsum)
      have q2 := Int.ediv_le_self (sumZ zs) p1
      omega) x hx
    have h2 : (s.take (leftZ zs many (sumZ zs))).length ≤ 20 := by
      rw [List.length_take]
      have := hs.len
      omega
    omega
def SzRel (w : World) (base : Nat) (xs : List Stm) (gk : Nat) (x i : Value) (wr : World) : Prop :=
  ∃ (k : Nat) (A : Option Addr) (cap : Nat), xs.length - k = gk ∧ k ≤ xs.length ∧ i = .int .i64 (k : Int) ∧ x = .slice A k cap ∧ wr.ownsRow base 3 1 (.slice A k cap) k (intsV (sizesOf (xs.take k))) ∧ Pure w wr ∧ base ≤ wr.heap.size
def OtRel (w : World) (base : Nat) (seed : Str) (xs : List Stm) (out : List Int) (gk : Nat) (x i : Value) (wr : World) : Prop :=
  ∃ (k : Nat) (A : Option Addr) (cap : Nat) (us : List Value) (xss : List (List Str)), xs.length - k = gk ∧ k ≤ xs.length ∧ i = .int .i64 (k : Int) ∧ x = .slice A k cap ∧ xss.length = k ∧ LeastAll seed xs out xss ∧ wr.ownsRow base 26 1 (.slice A k cap) k us ∧ Rows2 wr us xss ∧ Pure w wr ∧ base ≤ wr.heap.size
theorem info_int9 : (Tryz.prog.info? 3).map (fun i => (i.zero, i.size, i.bytes)) = some (some (.int .i64 0), 1, 8) := by kernel_rfl
theorem info_ss9 : (Tryz.prog.info? 26).map (fun i => (i.zero, i.size, i.bytes)) = some (some (.slice none 0 0), 1, 24) := by kernel_rfl
def StrOfPost (w : World) (seed : Str) (xs : List Stm) (out : List Int) (e : Ending) (w' : World) : Prop :=
  ∃ v xss, e = .returned v ∧ xss.length = xs.length ∧ LeastAll seed xs out xss ∧ SlSS w' v xss ∧ Pure w w'
def stratE (xs : List Stm) (seed : Str) (many : Int) : Int := firstErr [strataE xs, keyErr seed, manyErr many]
def StrPost (w : World) (seed : Str) (xs : List Stm) (many : Int) (e : Ending) (w' : World) : Prop :=
  ∃ v, e = .returned (.tuple #[v, .int .i64 (stratE xs seed many)]) ∧ (stratE xs seed many ≠ 0 → v = nilS) ∧ (stratE xs seed many = 0 → ∃ out xss, AllocSpec (sizesOf xs) many out ∧ xss.length = xs.length ∧ LeastAll seed xs out xss ∧ SlSS w' v xss) ∧ Pure w w'
theorem sizes_ok {xs : List Stm} (h : ∀ p ∈ xs, p.2.2.length ≤ 1000) : ∀ z ∈ sizesOf xs, 0 ≤ z ∧ z ≤ 2000 := by
  intro z hz
  simp only [sizesOf, List.mem_map] at hz
  obtain ⟨p, hp, rfl⟩ := hz
  have := h p hp
  omega

set_option maxRecDepth 100000 in
set_option maxHeartbeats 8000000 in
theorem StrataOf_calls (w : World) (v : Value) (xs : List Stm) (seed : Str) (many : Int) (out : List Int) (hv : StR w v xs) (hl : xs.length ≤ 10) (hz : ∀ p ∈ xs, p.1.length ≤ 1000 ∧ p.2.2.length ≤ 1000 ∧ ∀ s ∈ p.2.2, s.length ≤ 1000) (hzs : seed.length ≤ 1000)
    (hmn : 0 ≤ many ∧ many ≤ 2000) (hsp : AllocSpec (sizesOf xs) many out) (hids : ∀ p ∈ xs, p.2.2.Pairwise (· < ·)) : Calls Tryz.prog 25 #[v, .string ⟨seed.toArray⟩, .int .i64 many] w (StrOfPost w seed xs out) := by
  obtain ⟨i0, hi0, hz0, hz1, hz2⟩ := info_parts info_int9
  obtain ⟨hv1, hv2⟩ := hv
  obtain ⟨A, n, c, rfl, hc1, hc2, hl2, hr⟩ := hv1
  have hln : xs.length = n := by rw [stV_len] at hl2; omega
  subst hln
  have HR := Lib.hid hr
  have HV := Lib.hid hv2
  have HZ := Lib.hid hz
  have HSZ := Lib.hid (sizes_ok fun p hp => (hz p hp).2.1)
  have hl20 : (sizesOf xs).length < 20 := by rw [sizesOf_len]; omega
  have HSL0 := Lib.hid (sizesOf_len xs)
  have HSRTS := Lib.hid hids
  clear hl2 hr hv2 hz hids
  obtain ⟨base, hb⟩ : ∃ base, base = w.heap.size := ⟨_, rfl⟩
  have hbw := Nat.le_of_eq hb
  have hbw2 := Nat.le_of_eq hb.symm
  have m1 : Pure w w := Mod.refl _ _
  clear hb
  go_enter Tryz.func25, Tryz.ntmps25
  go_wp2_with fail
  go_loopg [7, 16] xs.length (fun gk x i wr => SzRel w base xs gk x i wr)
  case atStart => exact ⟨0, none, 0, by omega, by omega, rfl, rfl, by simpa [intsV, sizesOf] using ⟨by simp, .inl ⟨rfl, rfl⟩⟩, m1, hbw⟩
  case round =>
    clear m1 hbw
    obtain ⟨k, Ax, cap, rfl, hk, rfl, rfl, hown, hm, hbig⟩ := hrel
    by_cases hlt : k < xs.length
    · obtain ⟨g, off, rfl, hrow⟩ := HR.out (by omega)
      have hget := stV_get xs k hlt
      have hq0 := (hrow.mod hm id).cell hget.1
      have hq1 := (hrow.mod hm id).cell hget.2
      rw [← Nat.add_assoc] at hq1
      have hsl := (HV.out _ (List.getElem_mem hlt)).pure hm
      have HSL := Lib.hid hsl
      obtain ⟨hs1, hs2, hs3⟩ := HZ.out _ (List.getElem_mem hlt)
      have HZ3 := Lib.hid hs3
      have HST := Lib.hid (sizes_take hlt)
      clear hget hrow hsl hs3
      generalize hxk : xs[k] = x at *
      clear hxk
      obtain ⟨nm, vi, ids⟩ := x
      simp only at hq0 hq1 HST hs1 hs2 HSL HZ3
      obtain ⟨Ai, ni, ci, rfl⟩ := HSL.out.form
      have hni := HSL.out.lenS
      subst hni
      generalize sizesOf (xs.take k) = zs at *
      have HBS := Lib.hid (Blk.new wr 49 #[.string ⟨nm.toArray⟩, .slice Ai ids.length ci])
      have HOW := Lib.hid (hown.alloc (.cells #[.string ⟨nm.toArray⟩, .slice Ai ids.length ci] 49))
      have HMW := Lib.hid (hm.alloc (.cells #[.string ⟨nm.toArray⟩, .slice Ai ids.length ci] 49))
      have hszW : (wr.alloc (.cells #[.string ⟨nm.toArray⟩, .slice Ai ids.length ci] 49)).heap.size = wr.heap.size + 1 := by simp
      have hsW1 := Nat.le_of_eq hszW
      have hsW2 := Nat.le_of_eq hszW.symm
      clear hszW
      go_upto_region 5 with (fail)
      generalize (wr.alloc (.cells #[.string ⟨nm.toArray⟩, .slice Ai ids.length ci] 49)) = WS at *
      generalize wr.heap.size = gs at *
      have B1 := HBS.out
      have hownW := HOW.out
      have mW := HMW.out
      clear hown hm HBS HOW HMW hq0 hq1
      have q0 := B1.cell 0; have q1 := B1.cell 1; simp at q0 q1
      go_wp2_with (at_builtin; refine wpList_append_lies _ rfl _ _ _ rfl base 3 i0 _ 1 8 Tryz.underlying22 hi0 hz0 hz1 hz2 rfl (by omega) (.slice Ax k cap) k (intsV zs) rfl (hownW.alloc _) ⟨WS.heap.size, 0, none⟩ 1 1 [.int .i64 (ids.length : Int)] rfl rfl (World.news_of_block (cs := #[.int .i64 (ids.length : Int)]) (t := 3) (fr := (0, 0)) (heap_alloc_new WS _)) (by simp [Value.oneCell']) (by omega) (by simp [maxLen]; omega) (by omega) (by have := mW.size; simp; omega) (WS.heap.size + 1) (by simp) ?_; intro g5 cap5 w5 hown5 hgrow hat hlt5)
      go_roundg (xs.length - (k + 1))
      case measure => omega
      case rel =>
        have hz5 := hgrow.size
        simp at hz5
        refine ⟨k + 1, some ⟨g5, 0, none⟩, cap5, rfl, by omega, by simp, rfl, ?_, (mW.alloc _).grown hgrow (fun k hk => .inr (by have := own_block hownW k hk; omega)), by omega⟩
        rw [HST.out]
        simpa [intsV] using hown5
    · obtain rfl : k = xs.length := by omega
      rw [List.take_length] at hown
      clear hlt hk
      have HAL := Lib.hid (AllocateOf_calls wr (.slice Ax xs.length cap) _ _ (sizesOf xs) out many hown hl20 HSZ.out hmn hsp)
      have HAS := Lib.hid hsp
      clear hown
      go_wp2_with fail
      refine HAL.out.mono ?_
      rintro e w2 ⟨vn, nn0, rfl, hown2, hm2⟩
      have m2 := hm.trans hm2
      have HVN := Lib.hid (Sl.of_own hown2)
      clear HAL hown2 hm hm2 hbig hsp
      have hob := alloc_bound HAS.out HSZ.out hmn hl20
      obtain ⟨hol, hox⟩ := hob
      have HOX := Lib.hid hox
      have HOL := Lib.hid (hol.trans HSL0.out)
      clear hol hox
      obtain ⟨An, nn, cn, rfl⟩ := HVN.out.form
      obtain ⟨base2, hb2⟩ : ∃ base2, base2 = w2.heap.size := ⟨_, rfl⟩
      have hb2a := Nat.le_of_eq hb2
      have hb2b : w.heap.size ≤ base2 := by have := m2.size; omega
      have hb2c := Nat.le_of_eq hb2.symm
      clear hb2
      go_wp2_with fail
      go_loopg [11, 32] xs.length (fun gk x i wr => OtRel w2 base2 seed xs out gk x i wr)
      case atStart => exact ⟨0, none, 0, [], [], by omega, by omega, rfl, rfl, rfl, fun i h => absurd h (by simp), ⟨by simp, .inl ⟨rfl, rfl⟩⟩, .nil_ _, Mod.refl _ _, hb2a⟩
      case round =>
        obtain ⟨k, Ax, cap, us, xss, rfl, hk, rfl, rfl, hxl, hla, hown, hrows, hm2r, hbig2⟩ := hrel
        have hm := m2.trans hm2r
        have HLA := Lib.hid hla
        have HXL := Lib.hid hxl
        clear hla hxl
        by_cases hlt : k < xs.length
        · obtain ⟨g, off, rfl, hrow⟩ := HR.out (by omega)
          have hget := stV_get xs k hlt
          have hq0 := (hrow.mod hm id).cell hget.1
          have hq1 := (hrow.mod hm id).cell hget.2
          rw [← Nat.add_assoc] at hq1
          have hsl := (HV.out _ (List.getElem_mem hlt)).pure hm
          have HSL := Lib.hid hsl
          obtain ⟨hs1, hs2, hs3⟩ := HZ.out _ (List.getElem_mem hlt)
          have HZ3 := Lib.hid hs3
          have HIA : Hid (idsAt xs k = xs[k].2.2) := Lib.hid (by unfold idsAt; simp [List.getD, hlt])
          have HSRT := Lib.hid (HSRTS.out _ (List.getElem_mem hlt))
          have HSLW := Lib.hid ((HV.out _ (List.getElem_mem hlt)).pure m2)
          clear hget hrow hsl hs3
          generalize hxk : xs[k] = x at *
          clear hxk
          obtain ⟨nm, vi, ids⟩ := x
          simp only at hq0 hq1 hs1 hs2 HSL HZ3 HIA HSRT HSLW
          obtain ⟨Ai, ni, ci, rfl⟩ := HSL.out.form
          have hni := HSL.out.lenS
          subst hni
          have hko : k < out.length := by rw [HOL.out]; exact hlt
          have hoz := HOX.out _ (List.getElem_mem hko)
          have hnl : nn = out.length := by
            obtain ⟨A', n', c', hf, _, _, hl', _⟩ := HVN.out
            injection hf with _ h2 _
            simp [intsV] at hl'
            omega
          have hnl2 := Nat.le_of_eq hnl
          have hnl3 := Nat.le_of_eq hnl.symm
          clear hnl
          obtain ⟨gn, on, rfl, hrn⟩ := HVN.out.rowS (by omega)
          have hgn := hrn.lt
          have hcn := (hrn.mod hm2r id).cell (intsV_get out k hko)
          have hod : out.getD k 0 = out[k] := by simp [List.getD, hko]
          obtain ⟨mi, hmi⟩ := Int.eq_ofNat_of_zero_le hoz.1
          rw [hmi] at hcn hod hoz
          have HOD := Lib.hid hod
          have hmib : mi ≤ 1000000000 := by omega
          have hin1 : (0 : Int) ≤ (k : Int) := by omega
          have hin2 : (k : Int) < (nn : Int) := by omega
          clear hrn hko hmi hoz hod
          have HBS := Lib.hid (Blk.new wr 49 #[.string ⟨nm.toArray⟩, .slice Ai ids.length ci])
          have HOW := Lib.hid (hown.alloc (.cells #[.string ⟨nm.toArray⟩, .slice Ai ids.length ci] 49))
          have HRW := Lib.hid (hrows.pure (pure_alloc wr (.cells #[.string ⟨nm.toArray⟩, .slice Ai ids.length ci] 49)))
          have HMW := Lib.hid (pure_alloc wr (.cells #[.string ⟨nm.toArray⟩, .slice Ai ids.length ci] 49))
          have HCN := Lib.hid (cell_alloc hcn (.cells #[.string ⟨nm.toArray⟩, .slice Ai ids.length ci] 49))
          have hszW : (wr.alloc (.cells #[.string ⟨nm.toArray⟩, .slice Ai ids.length ci] 49)).heap.size = wr.heap.size + 1 := by simp
          have hsW1 := Nat.le_of_eq hszW
          have hsW2 := Nat.le_of_eq hszW.symm
          have HLT := Lib.hid (fun j (hj : (Value.slice Ax k cap).ownBlock = some j) => own_lt hown hj)
          have HOB := Lib.hid (own_block hown)
          have HLE := Lib.hid (fun W (h : Pure w2 W) => LeastOf_calls W (.slice Ai ids.length ci) ids seed mi (HSLW.out.pure h) HZ3.out hzs (by omega) hmib HSRT.out)
          clear hszW hown hrows hcn
          go_upto_region 12 with (fail)
          generalize (wr.alloc (.cells #[.string ⟨nm.toArray⟩, .slice Ai ids.length ci] 49)) = WS at *
          have hgsz := hm2r.size
          obtain ⟨gs, hgs⟩ : ∃ gs, gs = wr.heap.size := ⟨_, rfl⟩
          rw [← hgs] at HBS HLT hsW1 hsW2 ⊢
          have hgs1 := Nat.le_of_eq hgs
          have hgs2 := Nat.le_of_eq hgs.symm
          clear hgs hq0 hq1
          clear hi0 hz0 hz1 hz2
          obtain ⟨i0, hi0, hz0, hz1, hz2⟩ := info_parts info_ss9
          have HGs := Lib.hid (show ∀ (D : Nat → Bool) (i : Nat) (zq zq' : World), i ≠ 10 → (fun D zq => (D 10 = false → (fun Z => Z.ownsRow base2 26 1 (.slice Ax k cap) k us) zq) ∧ (fun Z => Blk Z gs 49 #[.string ⟨nm.toArray⟩, .slice Ai ids.length ci] ∧ Z.cell? ⟨gn, on + k, none⟩ = some (.int .i64 (mi : Int)) ∧ Rows2 Z us xss) zq) D zq → Mod (fun _ => False) zq zq' → (fun D zq => (D 10 = false → (fun Z => Z.ownsRow base2 26 1 (.slice Ax k cap) k us) zq) ∧ (fun Z => Blk Z gs 49 #[.string ⟨nm.toArray⟩, .slice Ai ids.length ci] ∧ Z.cell? ⟨gn, on + k, none⟩ = some (.int .i64 (mi : Int)) ∧ Rows2 Z us xss) zq) (upd D i true) zq' from by intro D i zq zq' hi hh hm; refine ⟨fun hs => ?_, ?_⟩; (rw [upd_ne _ _ (Ne.symm hi)] at hs; have h := hh.1 hs; (exact own_pure h hm)); (have h := hh.2; (exact ⟨h.1.modp hm, keepp h.2.1 hm, h.2.2.pure hm⟩)))
          refine wp_region_inv (by kernel_rfl) (by kernel_rfl) (InvF (R := Mod (fun _ => False)) [.is (.slice Ax k cap),
              .is (.pointer (some ⟨gs, 1, none⟩)),
              .is (.slice Ai ids.length ci),
              .is (.string ⟨seed.toArray⟩),
              .is (.slice (some ⟨gn, on, none⟩) nn cn),
              .is (.int .i64 (k : Int)),
              .is (.pointer (some ⟨gn, on + k, none⟩)),
              .is (.int .i64 (mi : Int)),
              ⟨fun zv zw => ∃ (v_8 : Value) (o_8 : List Str), zv = v_8 ∧ LeastSpec (hashB seed) ids mi o_8 ∧ Sl zw 9 1 v_8 (strsV o_8), (by rintro zv zw zx ⟨v_8, o_8, hze, c0, q0⟩ hm; exact ⟨v_8, o_8, hze, c0, (q0.pure hm)⟩), none, some 10⟩,
              ⟨fun zv zw => ∃ (g_9 : Nat) (v_9 : Value) (o_9 : List Str), zv = .slice (some ⟨g_9, 0, none⟩) 1 1 ∧ WS.heap.size ≤ g_9 ∧ LeastSpec (hashB seed) ids mi o_9 ∧ Blk zw g_9 26 #[v_9] ∧ Sl zw 9 1 v_9 (strsV o_9), (by rintro zv zw zx ⟨g_9, v_9, o_9, rfl, c0, c1, q0, q1⟩ hm; exact ⟨g_9, v_9, o_9, rfl, c0, c1, (q0.modp hm), (q1.pure hm)⟩), none, some 10⟩,
              ⟨fun zv zw => ∃ (A_10 : Option Addr) (cap_10 : Nat) (us_10 : List Value) (ys_10 : List (List Str)), zv = .slice A_10 (k + 1) cap_10 ∧ ys_10.length = k + 1 ∧ LeastAll seed xs out ys_10 ∧ zw.ownsRow base2 26 1 (.slice A_10 (k + 1) cap_10) (k + 1) us_10 ∧ Rows2 zw us_10 ys_10, (by rintro zv zw zx ⟨A_10, cap_10, us_10, ys_10, rfl, c0, c1, q0, q1⟩ hm; exact ⟨A_10, cap_10, us_10, ys_10, rfl, c0, c1, (own_pure q0 hm), (q1.pure hm)⟩), none, none⟩,
              ⟨fun zv zw => ∃ (A_11 : Option Addr) (cap_11 : Nat) (us_11 : List Value) (ys_11 : List (List Str)), zv = .slice A_11 (k + 1) cap_11 ∧ ys_11.length = k + 1 ∧ LeastAll seed xs out ys_11 ∧ zw.ownsRow base2 26 1 (.slice A_11 (k + 1) cap_11) (k + 1) us_11 ∧ Rows2 zw us_11 ys_11, (by rintro zv zw zx ⟨A_11, cap_11, us_11, ys_11, rfl, c0, c1, q0, q1⟩ hm; exact ⟨A_11, cap_11, us_11, ys_11, rfl, c0, c1, (own_pure q0 hm), (q1.pure hm)⟩), none, none⟩]
              (PB w2 (fun _ => False) WS.heap.size (fun D zq => (D 10 = false → (fun Z => Z.ownsRow base2 26 1 (.slice Ax k cap) k us) zq) ∧ (fun Z => Blk Z gs 49 #[.string ⟨nm.toArray⟩, .slice Ai ids.length ci] ∧ Z.cell? ⟨gn, on + k, none⟩ = some (.int .i64 (mi : Int)) ∧ Rows2 Z us xss) zq))) (InvF.start (PB.start (hm2r.trans HMW.out) (Nat.le_refl _) (⟨fun _ => HOW.out.drew, ⟨HBS.out.drew, cell_drew HCN.out, HRW.out⟩⟩))) ?_ ?_
          · refine .cons ?_ (.cons ?_ (.cons ?_ (.cons ?_ (.cons ?_ (.cons ?_ (.cons ?_ (.cons ?_ (.cons ?_ (.cons ?_ (.cons ?_ (.cons ?_ .nil)))))))))))
            · intro D V zw1 a hR hI K hK   -- 0: Op.move (Operand.tmp 11)
              obtain ⟨hM1, hB1, hG1⟩ := hI.1
              obtain ⟨hGK, hG1⟩ := hG1
              obtain ⟨hG1a, hG1b, hG1c⟩ := hG1
              have ze11 := hR.frame.undone (t := 11) (j := 11) (by kernel_rfl) (hR.later 11 rfl (by kernel_rfl)) rfl
              rw [if_pos (by rfl)]
              go_simp
              exact hK (.slice Ax k cap) _ (hI.next hR (by kernel_rfl) (Mod.refl _ _) (PB.quiet hI.1 (Mod.refl _ _) (HGs.out D 0 zw1 zw1 (by omega) (hI.1).g (Mod.refl _ _))) (upd_same V 0 _))
            · intro D V zw1 a hR hI K hK   -- 1: Op.fieldAddr 49 (Operand.tmp 13) 1
              obtain ⟨hM1, hB1, hG1⟩ := hI.1
              obtain ⟨hGK, hG1⟩ := hG1
              obtain ⟨hG1a, hG1b, hG1c⟩ := hG1
              have ze13 := hR.frame.other (t := 13) (by kernel_rfl) rfl
              rw [if_pos (by rfl)]
              go_simp
              exact hK (.pointer (some ⟨gs, 1, none⟩)) _ (hI.next hR (by kernel_rfl) (Mod.refl _ _) (PB.quiet hI.1 (Mod.refl _ _) (HGs.out D 1 zw1 zw1 (by omega) (hI.1).g (Mod.refl _ _))) (upd_same V 1 _))
            · intro D V zw1 a hR hI K hK   -- 2: Op.load 26 (Operand.tmp 38)
              obtain ⟨hM1, hB1, hG1⟩ := hI.1
              obtain ⟨hGK, hG1⟩ := hG1
              obtain ⟨hG1a, hG1b, hG1c⟩ := hG1
              have zd1 := hR.pred 1 (by kernel_rfl)
              have zF1 : V 1 = .pointer (some ⟨gs, 1, none⟩) := hI.2 1 zd1 rfl
              have zf1 := zF1; clear zF1
              have ze38 := hR.frame.done (t := 38) (j := 1) (by kernel_rfl) hR.ok zd1
              have zx0 := hG1a.cell 0; have zx1 := hG1a.cell 1
              simp at zx0 zx1
              rw [if_pos (by rfl)]
              go_simp
              exact hK (.slice Ai ids.length ci) _ (hI.next hR (by kernel_rfl) (Mod.refl _ _) (PB.quiet hI.1 (Mod.refl _ _) (HGs.out D 2 zw1 zw1 (by omega) (hI.1).g (Mod.refl _ _))) (upd_same V 2 _))
            · intro D V zw1 a hR hI K hK   -- 3: Op.move (Operand.tmp 1)
              obtain ⟨hM1, hB1, hG1⟩ := hI.1
              obtain ⟨hGK, hG1⟩ := hG1
              obtain ⟨hG1a, hG1b, hG1c⟩ := hG1
              have ze1 := hR.frame.other (t := 1) (by kernel_rfl) rfl
              rw [if_pos (by rfl)]
              go_simp
              exact hK (.string ⟨seed.toArray⟩) _ (hI.next hR (by kernel_rfl) (Mod.refl _ _) (PB.quiet hI.1 (Mod.refl _ _) (HGs.out D 3 zw1 zw1 (by omega) (hI.1).g (Mod.refl _ _))) (upd_same V 3 _))
            · intro D V zw1 a hR hI K hK   -- 4: Op.move (Operand.tmp 10)
              obtain ⟨hM1, hB1, hG1⟩ := hI.1
              obtain ⟨hGK, hG1⟩ := hG1
              obtain ⟨hG1a, hG1b, hG1c⟩ := hG1
              have ze10 := hR.frame.other (t := 10) (by kernel_rfl) rfl
              rw [if_pos (by rfl)]
              go_simp
              exact hK (.slice (some ⟨gn, on, none⟩) nn cn) _ (hI.next hR (by kernel_rfl) (Mod.refl _ _) (PB.quiet hI.1 (Mod.refl _ _) (HGs.out D 4 zw1 zw1 (by omega) (hI.1).g (Mod.refl _ _))) (upd_same V 4 _))
            · intro D V zw1 a hR hI K hK   -- 5: Op.move (Operand.tmp 12)
              obtain ⟨hM1, hB1, hG1⟩ := hI.1
              obtain ⟨hGK, hG1⟩ := hG1
              obtain ⟨hG1a, hG1b, hG1c⟩ := hG1
              have ze12 := hR.frame.other (t := 12) (by kernel_rfl) rfl
              rw [if_pos (by rfl)]
              go_simp
              exact hK (.int .i64 (k : Int)) _ (hI.next hR (by kernel_rfl) (Mod.refl _ _) (PB.quiet hI.1 (Mod.refl _ _) (HGs.out D 5 zw1 zw1 (by omega) (hI.1).g (Mod.refl _ _))) (upd_same V 5 _))
            · intro D V zw1 a hR hI K hK   -- 6: Op.indexAddr 22 (Operand.tmp 41) (Operand.tmp 42)
              obtain ⟨hM1, hB1, hG1⟩ := hI.1
              obtain ⟨hGK, hG1⟩ := hG1
              obtain ⟨hG1a, hG1b, hG1c⟩ := hG1
              have zd4 := hR.pred 4 (by kernel_rfl)
              have zF4 : V 4 = .slice (some ⟨gn, on, none⟩) nn cn := hI.2 4 zd4 rfl
              have zf4 := zF4; clear zF4
              have zd5 := hR.pred 5 (by kernel_rfl)
              have zF5 : V 5 = .int .i64 (k : Int) := hI.2 5 zd5 rfl
              have zf5 := zF5; clear zF5
              have ze41 := hR.frame.done (t := 41) (j := 4) (by kernel_rfl) hR.ok zd4
              have ze42 := hR.frame.done (t := 42) (j := 5) (by kernel_rfl) hR.ok zd5
              rw [if_pos (by rfl)]
              go_simp
              exact hK (.pointer (some ⟨gn, on + k, none⟩)) _ (hI.next hR (by kernel_rfl) (Mod.refl _ _) (PB.quiet hI.1 (Mod.refl _ _) (HGs.out D 6 zw1 zw1 (by omega) (hI.1).g (Mod.refl _ _))) (upd_same V 6 _))
            · intro D V zw1 a hR hI K hK   -- 7: Op.load 3 (Operand.tmp 43)
              obtain ⟨hM1, hB1, hG1⟩ := hI.1
              obtain ⟨hGK, hG1⟩ := hG1
              obtain ⟨hG1a, hG1b, hG1c⟩ := hG1
              have zd6 := hR.pred 6 (by kernel_rfl)
              have zF6 : V 6 = .pointer (some ⟨gn, on + k, none⟩) := hI.2 6 zd6 rfl
              have zf6 := zF6; clear zF6
              have ze43 := hR.frame.done (t := 43) (j := 6) (by kernel_rfl) hR.ok zd6
              rw [if_pos (by rfl)]
              go_simp
              exact hK (.int .i64 (mi : Int)) _ (hI.next hR (by kernel_rfl) (Mod.refl _ _) (PB.quiet hI.1 (Mod.refl _ _) (HGs.out D 7 zw1 zw1 (by omega) (hI.1).g (Mod.refl _ _))) (upd_same V 7 _))
            · intro D V zw1 a hR hI K hK   -- 8: Op.call { callee := Callee.value (Operand.func 17), args := #[Operand.
              obtain ⟨hM1, hB1, hG1⟩ := hI.1
              obtain ⟨hGK, hG1⟩ := hG1
              obtain ⟨hG1a, hG1b, hG1c⟩ := hG1
              have zd2 := hR.pred 2 (by kernel_rfl)
              have zF2 : V 2 = .slice Ai ids.length ci := hI.2 2 zd2 rfl
              have zf2 := zF2; clear zF2
              have zd3 := hR.pred 3 (by kernel_rfl)
              have zF3 : V 3 = .string ⟨seed.toArray⟩ := hI.2 3 zd3 rfl
              have zf3 := zF3; clear zF3
              have zd7 := hR.pred 7 (by kernel_rfl)
              have zF7 : V 7 = .int .i64 (mi : Int) := hI.2 7 zd7 rfl
              have zf7 := zF7; clear zF7
              have ze39 := hR.frame.done (t := 39) (j := 2) (by kernel_rfl) hR.ok zd2
              have ze40 := hR.frame.done (t := 40) (j := 3) (by kernel_rfl) hR.ok zd3
              have ze44 := hR.frame.done (t := 44) (j := 7) (by kernel_rfl) hR.ok zd7
              rw [if_pos (by rfl)]
              go_simp
              refine (HLE.out _ hM1).mono ?_
              rintro e zw2 ⟨v_0, o_0, rfl, hsp, hsl, hm2⟩
              exact hK (v_0) _ (hI.next hR (by kernel_rfl) hm2 (PB.quiet hI.1 hm2 (HGs.out D 8 _ _ (by omega) (hI.1).g hm2)) (⟨v_0, o_0, upd_same V 8 _, hsp, hsl⟩))
            · intro D V zw1 a hR hI K hK   -- 9: Op.buildSlice 52 1 #[(0, Operand.tmp 45)]
              obtain ⟨hM1, hB1, hG1⟩ := hI.1
              obtain ⟨hGK, hG1⟩ := hG1
              obtain ⟨hG1a, hG1b, hG1c⟩ := hG1
              have zd8 := hR.pred 8 (by kernel_rfl)
              have zF8 : ∃ (v_8 : Value) (o_8 : List Str), V 8 = v_8 ∧ LeastSpec (hashB seed) ids mi o_8 ∧ Sl zw1 9 1 v_8 (strsV o_8) := hI.2 8 zd8 (by show (!D 10) = true; cases hs : D 10 with | false => rfl | true => (have := hR.closed 10 _ 9 rfl (by kernel_rfl) hs; rw [hR.not] at this; cases this))
              obtain ⟨v_8, o_8, zf8, c8_0, b8_0⟩ := zF8
              have ze45 := hR.frame.done (t := 45) (j := 8) (by kernel_rfl) hR.ok zd8
              obtain ⟨Av8, nv8, cv8, hv8⟩ := b8_0.form; subst hv8
              rw [if_pos (by rfl)]
              go_simp
              exact hK (_) _ (hI.next hR (by kernel_rfl) ((Mod.refl _ _).alloc _) (PB.quiet hI.1 (pure_alloc _ _) (HGs.out D 9 _ _ (by omega) (hI.1).g ((Mod.refl _ _).alloc _))) (⟨_, .slice Av8 nv8 cv8, o_8, upd_same V 9 _, (by omega), c8_0, (Blk.new _ _ _), (b8_0.pure (pure_alloc _ _))⟩))
            · intro D V zw1 a hR hI K hK   -- 10: Op.call { callee := Callee.builtin Builtin.append, args := #[Operand.t
              obtain ⟨hM1, hB1, hG1⟩ := hI.1
              obtain ⟨hGK, hG1⟩ := hG1
              obtain ⟨hG1a, hG1b, hG1c⟩ := hG1
              have zd0 := hR.pred 0 (by kernel_rfl)
              have zF0 : V 0 = .slice Ax k cap := hI.2 0 zd0 rfl
              have zf0 := zF0; clear zF0
              have zd9 := hR.pred 9 (by kernel_rfl)
              have zF9 : ∃ (g_9 : Nat) (v_9 : Value) (o_9 : List Str), V 9 = .slice (some ⟨g_9, 0, none⟩) 1 1 ∧ WS.heap.size ≤ g_9 ∧ LeastSpec (hashB seed) ids mi o_9 ∧ Blk zw1 g_9 26 #[v_9] ∧ Sl zw1 9 1 v_9 (strsV o_9) := hI.2 9 zd9 (by show (!D 10) = true; rw [hR.not]; rfl)
              obtain ⟨g_9, v_9, o_9, zf9, c9_0, c9_1, b9_0, b9_1⟩ := zF9
              have ze37 := hR.frame.done (t := 37) (j := 0) (by kernel_rfl) hR.ok zd0
              have ze46 := hR.frame.done (t := 46) (j := 9) (by kernel_rfl) hR.ok zd9
              obtain ⟨Av9, nv9, cv9, hv9⟩ := b9_1.form; subst hv9
              rw [if_pos (by rfl)]
              have hown := hGK hR.not
              refine wp_append_lies _ (.tmp 37) (.tmp 46) 52 (by rfl) base2 26 i0 _ 1 24 Tryz.underlying52 hi0 hz0 hz1 hz2 (by rfl) (by omega) (.slice Ax k cap) (k) (us) ?_ hown ⟨g_9, 0, none⟩ 1 1 [.slice Av9 nv9 cv9] ?_ (by rfl) (World.news_of_block (cs := #[.slice Av9 nv9 cv9]) (t := 26) (fr := (0, 0)) b9_0) (by simp [Value.oneCell']) (by omega) (by simp [maxLen]; omega) (by omega) (by omega) zw1.heap.size rfl ?_
              · show a.tmps.getD 37 undef = _; simp [ze37, zf0]
              · show a.tmps.getD 46 undef = _; simp [ze46, zf9]
              intro g5 cap5 zw2 hown5 hgrow hat hlt5
              have hT := mod_grown hgrow
              have hTb : ∀ j, (.slice Ax k cap : Value).ownBlock = some j → base2 ≤ j := own_block hown
              have hTl : ∀ j, (.slice Ax k cap : Value).ownBlock = some j → j < WS.heap.size := fun j hj => by have := HLT.out j hj; omega
              have hty : ∀ u ys, Sl zw1 9 1 u (strsV ys) → Sl zw2 9 1 u (strsV ys) := fun u ys hs => hs.grown hown hgrow (by decide)
              refine hK _ _ (InvF.last (PB.writes hI.1 (fun j hj hl => by have := hTb j hj; omega) hT ⟨fun hs => absurd hs (by rw [upd_same]; decide), ⟨hG1a.mod hT (fun hj => by have := HLT.out _ hj; omega), hT.keep hG1b (fun hj => by have := HOB.out _ hj; have : base2 ≤ gn := this; omega), hG1c.to hty⟩⟩) ⟨_, _, us ++ [.slice Av9 nv9 cv9], xss ++ [o_9], upd_same V 10 _, by simp [HXL.out], HLA.out.snoc (by rw [HXL.out, HIA.out, HOD.out, Int.toNat_natCast]; exact c9_1), hown5, (hG1c.snoc b9_1).to hty⟩ ?_)
              intro k hk hDk hlv
              have hkl := hR.lt k hDk
              have hv := hI.2 k hDk (liveB_of hlv)
              match k, hk, hDk, hlv, hkl, hv with
              | 0, _, _, _, _, hv => exact hv
              | 1, _, _, _, _, hv => exact hv
              | 2, _, _, _, _, hv => exact hv
              | 3, _, _, _, _, hv => exact hv
              | 4, _, _, _, _, hv => exact hv
              | 5, _, _, _, _, hv => exact hv
              | 6, _, _, _, _, hv => exact hv
              | 7, _, _, _, _, hv => exact hv
              | 8, _, _, hlv, _, _ => exact absurd hlv (by show ¬ (!upd D 10 true 10) = true; rw [upd_same]; decide)
              | 9, _, _, hlv, _, _ => exact absurd hlv (by show ¬ (!upd D 10 true 10) = true; rw [upd_same]; decide)
              | 10, hk, _, _, _, _ => exact absurd rfl hk
              | 11, _, hDk, _, _, _ => exact absurd hDk (by rw [hR.later 11 rfl (by kernel_rfl)]; decide)
              | k + 12, _, _, _, hkl, _ => exact absurd hkl (by simp)
            · intro D V zw1 a hR hI K hK   -- 11: Op.assign (Operand.tmp 47)
              obtain ⟨hM1, hB1, hG1⟩ := hI.1
              obtain ⟨hGK, hG1⟩ := hG1
              obtain ⟨hG1a, hG1b, hG1c⟩ := hG1
              have zd10 := hR.pred 10 (by kernel_rfl)
              have zF10 : ∃ (A_10 : Option Addr) (cap_10 : Nat) (us_10 : List Value) (ys_10 : List (List Str)), V 10 = .slice A_10 (k + 1) cap_10 ∧ ys_10.length = k + 1 ∧ LeastAll seed xs out ys_10 ∧ zw1.ownsRow base2 26 1 (.slice A_10 (k + 1) cap_10) (k + 1) us_10 ∧ Rows2 zw1 us_10 ys_10 := hI.2 10 zd10 rfl
              obtain ⟨A_10, cap_10, us_10, ys_10, zf10, c10_0, c10_1, b10_0, b10_1⟩ := zF10
              have ze47 := hR.frame.done (t := 47) (j := 10) (by kernel_rfl) hR.ok zd10
              rw [if_pos (by rfl)]
              go_simp
              exact hK (.slice A_10 (k + 1) cap_10) _ (hI.next hR (by kernel_rfl) (Mod.refl _ _) (PB.quiet hI.1 (Mod.refl _ _) (HGs.out D 11 zw1 zw1 (by omega) (hI.1).g (Mod.refl _ _))) (⟨A_10, cap_10, us_10, ys_10, upd_same V 11 _, (by first | assumption | omega), (by first | assumption | omega), b10_0, b10_1⟩))
          · intro D V w3 hD hI
            obtain ⟨hM1, hB1, hG1⟩ := hI.1
            have hMx := hM1
            clear hM1
            have hBx := hB1
            clear hB1
            have hGx := hG1.2
            clear hG1
            have zF0 : V 0 = .slice Ax k cap := hI.2 0 (hD 0 (by decide)) rfl
            have zf0 := zF0; clear zF0
            have zF1 : V 1 = .pointer (some ⟨gs, 1, none⟩) := hI.2 1 (hD 1 (by decide)) rfl
            have zf1 := zF1; clear zF1
            have zF2 : V 2 = .slice Ai ids.length ci := hI.2 2 (hD 2 (by decide)) rfl
            have zf2 := zF2; clear zF2
            have zF3 : V 3 = .string ⟨seed.toArray⟩ := hI.2 3 (hD 3 (by decide)) rfl
            have zf3 := zF3; clear zF3
            have zF4 : V 4 = .slice (some ⟨gn, on, none⟩) nn cn := hI.2 4 (hD 4 (by decide)) rfl
            have zf4 := zF4; clear zF4
            have zF5 : V 5 = .int .i64 (k : Int) := hI.2 5 (hD 5 (by decide)) rfl
            have zf5 := zF5; clear zF5
            have zF6 : V 6 = .pointer (some ⟨gn, on + k, none⟩) := hI.2 6 (hD 6 (by decide)) rfl
            have zf6 := zF6; clear zF6
            have zF7 : V 7 = .int .i64 (mi : Int) := hI.2 7 (hD 7 (by decide)) rfl
            have zf7 := zF7; clear zF7
            have zF10 : ∃ (A_10 : Option Addr) (cap_10 : Nat) (us_10 : List Value) (ys_10 : List (List Str)), V 10 = .slice A_10 (k + 1) cap_10 ∧ ys_10.length = k + 1 ∧ LeastAll seed xs out ys_10 ∧ w3.ownsRow base2 26 1 (.slice A_10 (k + 1) cap_10) (k + 1) us_10 ∧ Rows2 w3 us_10 ys_10 := hI.2 10 (hD 10 (by decide)) rfl
            obtain ⟨A_10, cap_10, us_10, ys_10, zf10, c10_0, c10_1, b10_0, b10_1⟩ := zF10
            have zF11 : ∃ (A_11 : Option Addr) (cap_11 : Nat) (us_11 : List Value) (ys_11 : List (List Str)), V 11 = .slice A_11 (k + 1) cap_11 ∧ ys_11.length = k + 1 ∧ LeastAll seed xs out ys_11 ∧ w3.ownsRow base2 26 1 (.slice A_11 (k + 1) cap_11) (k + 1) us_11 ∧ Rows2 w3 us_11 ys_11 := hI.2 11 (hD 11 (by decide)) rfl
            obtain ⟨A_11, cap_11, us_11, ys_11, zf11, c11_0, c11_1, b11_0, b11_1⟩ := zF11
            clear hI hD HGs
            simp only [frAll, Act.put, List.setIfInBounds_toArray, List.set_cons_zero, List.set_cons_succ, Nat.zero_add, Nat.reduceAdd, zf0, zf1, zf2, zf3, zf4, zf5, zf6, zf7, zf10, zf11]
            clear zf0 zf1 zf2 zf3 zf4 zf5 zf6 zf7 zf10 zf11
            generalize V 8 = u8
            generalize V 9 = u9
            clear V D
            go_wp2_with fail
            go_roundg (xs.length - (k + 1))
            case measure => omega
            case rel => exact ⟨k + 1, A_11, cap_11, us_11, ys_11, rfl, by omega, by simp, rfl, c11_0, c11_1, b11_0, b11_1, hMx, by omega⟩
        · obtain rfl : k = xs.length := by omega
          have HSS := Lib.hid (hrows.slss (Sl.of_own hown))
          clear hown hrows
          go_wp2_with fail
          go_ret
          exact ⟨_, xss, rfl, HXL.out, HLA.out, HSS.out, hm⟩

set_option maxRecDepth 100000 in
set_option maxHeartbeats 8000000 in
theorem Strata_calls (w : World) (v : Value) (xs : List Stm) (seed : Str) (many : Int) (hv : StR w v xs) (hl : xs.length ≤ 10) (hz : ∀ p ∈ xs, p.1.length ≤ 1000 ∧ p.2.2.length ≤ 1000 ∧ ∀ s ∈ p.2.2, s.length ≤ 1000) (hzs : seed.length ≤ 1000) :
    Calls Tryz.prog 22 #[v, .string ⟨seed.toArray⟩, .int .i64 many] w (StrPost w seed xs many) := by
  obtain ⟨i0, hi0, hz0, hz1, hz2⟩ := info_parts info_int9
  have HSE := Lib.hid (strataError_calls w v xs hv hl hz)
  have y3 : (⟨seed.toArray⟩ : ByteArray).size ≤ 1000000 := by simp [ByteArray.size]; omega
  obtain ⟨hv1, hv2⟩ := hv
  obtain ⟨A, n, c, rfl, hc1, hc2, hl2, hr⟩ := hv1
  have hln : xs.length = n := by rw [stV_len] at hl2; omega
  subst hln
  have HR := Lib.hid hr
  have HV := Lib.hid hv2
  have HZ := Lib.hid hz
  have HSZ := Lib.hid (sizes_ok fun p hp => (hz p hp).2.1)
  have hl20 : (sizesOf xs).length < 20 := by rw [sizesOf_len]; omega
  have HSL0 := Lib.hid (sizesOf_len xs)
  clear hl2 hr hv2 hz
  go_enter Tryz.func22, Tryz.ntmps22
  go_wp2_with fail
  refine HSE.out.mono ?_
  rintro e w1 ⟨rfl, hm1⟩
  go_wp2_with fail
  refine (keyError_calls _ _ y3).mono ?_
  rintro e w1' ⟨rfl, rfl⟩
  rw [show (⟨seed.toArray⟩ : ByteArray).data.toList = seed from rfl]
  go_wp2_with fail
  refine (manyError_calls _ _).mono ?_
  rintro e w3 ⟨rfl, hm3⟩
  go_wp2_with fail
  refine (firstE_calls _ _ _ [strataE xs, keyErr seed, manyErr many] (Blk.new _ _ _).row0 (by simp)).mono ?_
  rintro e w4 ⟨rfl, hm4⟩
  have m1 : Pure w w4 := ((hm1.trans hm3).alloc _).trans hm4
  obtain ⟨er, her⟩ : ∃ er, firstErr [strataE xs, keyErr seed, manyErr many] = er := ⟨_, rfl⟩
  have HE : Hid (stratE xs seed many = er) := Lib.hid her
  rw [her]
  clear HSE hm1 hm3 hm4
  by_cases h0 : er = 0
  · subst h0
    obtain ⟨e1, e2, e3⟩ := firstErr3z her
    obtain ⟨mm, rfl, hm2000⟩ := many_nat e3
    have hmn : 0 ≤ (mm : Int) ∧ (mm : Int) ≤ 2000 := by omega
    have HSRTS : Hid (∀ p ∈ xs, p.2.2.Pairwise (· < ·)) := Lib.hid (by
      intro p hp
      refine ids_sorted (strE_ok (ns := []) (seen := []) ?_ p hp)
      unfold strataE at e1
      rw [if_neg (by omega)] at e1
      exact e1)
    generalize hmany : (mm : Int) = many at *
    clear e1 e2 e3 her hmany
    obtain ⟨base, hb⟩ : ∃ base, base = w4.heap.size := ⟨_, rfl⟩
    have hbw := Nat.le_of_eq hb
    have hbw2 : w.heap.size ≤ base := by have := m1.size; omega
    clear hb
    go_wp2_with fail
    go_loopg [9, 29] xs.length (fun gk x i wr => SzRel w base xs gk x i wr)
    case atStart => exact ⟨0, none, 0, by omega, by omega, rfl, rfl, by simpa [intsV, sizesOf] using ⟨by simp, .inl ⟨rfl, rfl⟩⟩, m1, hbw⟩
    case round =>
      clear m1 hbw
      obtain ⟨k, Ax, cap, rfl, hk, rfl, rfl, hown, hm, hbig⟩ := hrel
      by_cases hlt : k < xs.length
      · obtain ⟨g, off, rfl, hrow⟩ := HR.out (by omega)
        have hget := stV_get xs k hlt
        have hq0 := (hrow.mod hm id).cell hget.1
        have hq1 := (hrow.mod hm id).cell hget.2
        rw [← Nat.add_assoc] at hq1
        have hsl := (HV.out _ (List.getElem_mem hlt)).pure hm
        have HSL := Lib.hid hsl
        obtain ⟨hs1, hs2, hs3⟩ := HZ.out _ (List.getElem_mem hlt)
        have HZ3 := Lib.hid hs3
        have HST := Lib.hid (sizes_take hlt)
        clear hget hrow hsl hs3
        generalize hxk : xs[k] = x at *
        clear hxk
        obtain ⟨nm, vi, ids⟩ := x
        simp only at hq0 hq1 HST hs1 hs2 HSL HZ3
        obtain ⟨Ai, ni, ci, rfl⟩ := HSL.out.form
        have hni := HSL.out.lenS
        subst hni
        generalize sizesOf (xs.take k) = zs at *
        have HBS := Lib.hid (Blk.new wr 49 #[.string ⟨nm.toArray⟩, .slice Ai ids.length ci])
        have HOW := Lib.hid (hown.alloc (.cells #[.string ⟨nm.toArray⟩, .slice Ai ids.length ci] 49))
        have HMW := Lib.hid (hm.alloc (.cells #[.string ⟨nm.toArray⟩, .slice Ai ids.length ci] 49))
        have hszW : (wr.alloc (.cells #[.string ⟨nm.toArray⟩, .slice Ai ids.length ci] 49)).heap.size = wr.heap.size + 1 := by simp
        have hsW1 := Nat.le_of_eq hszW
        have hsW2 := Nat.le_of_eq hszW.symm
        clear hszW
        go_upto_region 8 with (fail)
        generalize (wr.alloc (.cells #[.string ⟨nm.toArray⟩, .slice Ai ids.length ci] 49)) = WS at *
        generalize wr.heap.size = gs at *
        have B1 := HBS.out
        have hownW := HOW.out
        have mW := HMW.out
        clear hown hm HBS HOW HMW hq0 hq1
        have q0 := B1.cell 0; have q1 := B1.cell 1; simp at q0 q1
        go_wp2_with (at_builtin; refine wpList_append_lies _ rfl _ _ _ rfl base 3 i0 _ 1 8 Tryz.underlying22 hi0 hz0 hz1 hz2 rfl (by omega) (.slice Ax k cap) k (intsV zs) rfl (hownW.alloc _) ⟨WS.heap.size, 0, none⟩ 1 1 [.int .i64 (ids.length : Int)] rfl rfl (World.news_of_block (cs := #[.int .i64 (ids.length : Int)]) (t := 3) (fr := (0, 0)) (heap_alloc_new WS _)) (by simp [Value.oneCell']) (by omega) (by simp [maxLen]; omega) (by omega) (by have := mW.size; simp; omega) (WS.heap.size + 1) (by simp) ?_; intro g5 cap5 w5 hown5 hgrow hat hlt5)
        go_roundg (xs.length - (k + 1))
        case measure => omega
        case rel =>
          have hz5 := hgrow.size
          simp at hz5
          refine ⟨k + 1, some ⟨g5, 0, none⟩, cap5, rfl, by omega, by simp, rfl, ?_, (mW.alloc _).grown hgrow (fun k hk => .inr (by have := own_block hownW k hk; omega)), by omega⟩
          rw [HST.out]
          simpa [intsV] using hown5
      · obtain rfl : k = xs.length := by omega
        rw [List.take_length] at hown
        clear hlt hk
        have HAL := Lib.hid (allocate_calls wr (.slice Ax xs.length cap) (sizesOf xs) many (Sl.of_own hown) hl20 HSZ.out hmn)
        clear hown
        go_wp2_with fail
        refine HAL.out.mono ?_
        rintro e w2 ⟨out, vn, nn0, hsp, rfl, hown2, hm2⟩
        have HAS := Lib.hid hsp
        have m2 := hm.trans hm2
        have HVN := Lib.hid (Sl.of_own hown2)
        clear HAL hown2 hm hm2 hbig hsp
        have hob := alloc_bound HAS.out HSZ.out hmn hl20
        obtain ⟨hol, hox⟩ := hob
        have HOX := Lib.hid hox
        have HOL := Lib.hid (hol.trans HSL0.out)
        clear hol hox
        obtain ⟨An, nn, cn, rfl⟩ := HVN.out.form
        obtain ⟨base2, hb2⟩ : ∃ base2, base2 = w2.heap.size := ⟨_, rfl⟩
        have hb2a := Nat.le_of_eq hb2
        have hb2b : w.heap.size ≤ base2 := by have := m2.size; omega
        have hb2c := Nat.le_of_eq hb2.symm
        clear hb2
        go_wp2_with fail
        go_loopg [13, 45] xs.length (fun gk x i wr => OtRel w2 base2 seed xs out gk x i wr)
        case atStart => exact ⟨0, none, 0, [], [], by omega, by omega, rfl, rfl, rfl, fun i h => absurd h (by simp), ⟨by simp, .inl ⟨rfl, rfl⟩⟩, .nil_ _, Mod.refl _ _, hb2a⟩
        case round =>
          obtain ⟨k, Ax, cap, us, xss, rfl, hk, rfl, rfl, hxl, hla, hown, hrows, hm2r, hbig2⟩ := hrel
          have hm := m2.trans hm2r
          have HLA := Lib.hid hla
          have HXL := Lib.hid hxl
          clear hla hxl
          by_cases hlt : k < xs.length
          · obtain ⟨g, off, rfl, hrow⟩ := HR.out (by omega)
            have hget := stV_get xs k hlt
            have hq0 := (hrow.mod hm id).cell hget.1
            have hq1 := (hrow.mod hm id).cell hget.2
            rw [← Nat.add_assoc] at hq1
            have hsl := (HV.out _ (List.getElem_mem hlt)).pure hm
            have HSL := Lib.hid hsl
            obtain ⟨hs1, hs2, hs3⟩ := HZ.out _ (List.getElem_mem hlt)
            have HZ3 := Lib.hid hs3
            have HIA : Hid (idsAt xs k = xs[k].2.2) := Lib.hid (by unfold idsAt; simp [List.getD, hlt])
            have HSRT := Lib.hid (HSRTS.out _ (List.getElem_mem hlt))
            have HSLW := Lib.hid ((HV.out _ (List.getElem_mem hlt)).pure m2)
            clear hget hrow hsl hs3
            generalize hxk : xs[k] = x at *
            clear hxk
            obtain ⟨nm, vi, ids⟩ := x
            simp only at hq0 hq1 hs1 hs2 HSL HZ3 HIA HSRT HSLW
            obtain ⟨Ai, ni, ci, rfl⟩ := HSL.out.form
            have hni := HSL.out.lenS
            subst hni
            have hko : k < out.length := by rw [HOL.out]; exact hlt
            have hoz := HOX.out _ (List.getElem_mem hko)
            have hnl : nn = out.length := by
              obtain ⟨A', n', c', hf, _, _, hl', _⟩ := HVN.out
              injection hf with _ h2 _
              simp [intsV] at hl'
              omega
            have hnl2 := Nat.le_of_eq hnl
            have hnl3 := Nat.le_of_eq hnl.symm
            clear hnl
            obtain ⟨gn, on, rfl, hrn⟩ := HVN.out.rowS (by omega)
            have hgn := hrn.lt
            have hcn := (hrn.mod hm2r id).cell (intsV_get out k hko)
            have hod : out.getD k 0 = out[k] := by simp [List.getD, hko]
            obtain ⟨mi, hmi⟩ := Int.eq_ofNat_of_zero_le hoz.1
            rw [hmi] at hcn hod hoz
            have HOD := Lib.hid hod
            have hmib : mi ≤ 1000000000 := by omega
            have hin1 : (0 : Int) ≤ (k : Int) := by omega
            have hin2 : (k : Int) < (nn : Int) := by omega
            clear hrn hko hmi hoz hod
            have HBS := Lib.hid (Blk.new wr 49 #[.string ⟨nm.toArray⟩, .slice Ai ids.length ci])
            have HOW := Lib.hid (hown.alloc (.cells #[.string ⟨nm.toArray⟩, .slice Ai ids.length ci] 49))
            have HRW := Lib.hid (hrows.pure (pure_alloc wr (.cells #[.string ⟨nm.toArray⟩, .slice Ai ids.length ci] 49)))
            have HMW := Lib.hid (pure_alloc wr (.cells #[.string ⟨nm.toArray⟩, .slice Ai ids.length ci] 49))
            have HCN := Lib.hid (cell_alloc hcn (.cells #[.string ⟨nm.toArray⟩, .slice Ai ids.length ci] 49))
            have hszW : (wr.alloc (.cells #[.string ⟨nm.toArray⟩, .slice Ai ids.length ci] 49)).heap.size = wr.heap.size + 1 := by simp
            have hsW1 := Nat.le_of_eq hszW
            have hsW2 := Nat.le_of_eq hszW.symm
            have HLT := Lib.hid (fun j (hj : (Value.slice Ax k cap).ownBlock = some j) => own_lt hown hj)
            have HOB := Lib.hid (own_block hown)
            have HLE := Lib.hid (fun W (h : Pure w2 W) => least_calls W (.slice Ai ids.length ci) ids seed mi (HSLW.out.pure h) HZ3.out hzs (by omega) hmib HSRT.out)
            clear hszW hown hrows hcn
            go_upto_region 15 with (fail)
            generalize (wr.alloc (.cells #[.string ⟨nm.toArray⟩, .slice Ai ids.length ci] 49)) = WS at *
            have hgsz := hm2r.size
            obtain ⟨gs, hgs⟩ : ∃ gs, gs = wr.heap.size := ⟨_, rfl⟩
            rw [← hgs] at HBS HLT hsW1 hsW2 ⊢
            have hgs1 := Nat.le_of_eq hgs
            have hgs2 := Nat.le_of_eq hgs.symm
            clear hgs hq0 hq1
            clear hi0 hz0 hz1 hz2
            obtain ⟨i0, hi0, hz0, hz1, hz2⟩ := info_parts info_ss9
            have HGs := Lib.hid (show ∀ (D : Nat → Bool) (i : Nat) (zq zq' : World), i ≠ 10 → (fun D zq => (D 10 = false → (fun Z => Z.ownsRow base2 26 1 (.slice Ax k cap) k us) zq) ∧ (fun Z => Blk Z gs 49 #[.string ⟨nm.toArray⟩, .slice Ai ids.length ci] ∧ Z.cell? ⟨gn, on + k, none⟩ = some (.int .i64 (mi : Int)) ∧ Rows2 Z us xss) zq) D zq → Mod (fun _ => False) zq zq' → (fun D zq => (D 10 = false → (fun Z => Z.ownsRow base2 26 1 (.slice Ax k cap) k us) zq) ∧ (fun Z => Blk Z gs 49 #[.string ⟨nm.toArray⟩, .slice Ai ids.length ci] ∧ Z.cell? ⟨gn, on + k, none⟩ = some (.int .i64 (mi : Int)) ∧ Rows2 Z us xss) zq) (upd D i true) zq' from by intro D i zq zq' hi hh hm; refine ⟨fun hs => ?_, ?_⟩; (rw [upd_ne _ _ (Ne.symm hi)] at hs; have h := hh.1 hs; (exact own_pure h hm)); (have h := hh.2; (exact ⟨h.1.modp hm, keepp h.2.1 hm, h.2.2.pure hm⟩)))
            refine wp_region_inv (by kernel_rfl) (by kernel_rfl) (InvF (R := Mod (fun _ => False)) [.is (.slice Ax k cap),
                .is (.pointer (some ⟨gs, 1, none⟩)),
                .is (.slice Ai ids.length ci),
                .is (.string ⟨seed.toArray⟩),
                .is (.slice (some ⟨gn, on, none⟩) nn cn),
                .is (.int .i64 (k : Int)),
                .is (.pointer (some ⟨gn, on + k, none⟩)),
                .is (.int .i64 (mi : Int)),
                ⟨fun zv zw => ∃ (v_8 : Value) (o_8 : List Str), zv = v_8 ∧ LeastSpec (hashB seed) ids mi o_8 ∧ Sl zw 9 1 v_8 (strsV o_8), (by rintro zv zw zx ⟨v_8, o_8, hze, c0, q0⟩ hm; exact ⟨v_8, o_8, hze, c0, (q0.pure hm)⟩), none, some 10⟩,
                ⟨fun zv zw => ∃ (g_9 : Nat) (v_9 : Value) (o_9 : List Str), zv = .slice (some ⟨g_9, 0, none⟩) 1 1 ∧ WS.heap.size ≤ g_9 ∧ LeastSpec (hashB seed) ids mi o_9 ∧ Blk zw g_9 26 #[v_9] ∧ Sl zw 9 1 v_9 (strsV o_9), (by rintro zv zw zx ⟨g_9, v_9, o_9, rfl, c0, c1, q0, q1⟩ hm; exact ⟨g_9, v_9, o_9, rfl, c0, c1, (q0.modp hm), (q1.pure hm)⟩), none, some 10⟩,
                ⟨fun zv zw => ∃ (A_10 : Option Addr) (cap_10 : Nat) (us_10 : List Value) (ys_10 : List (List Str)), zv = .slice A_10 (k + 1) cap_10 ∧ ys_10.length = k + 1 ∧ LeastAll seed xs out ys_10 ∧ zw.ownsRow base2 26 1 (.slice A_10 (k + 1) cap_10) (k + 1) us_10 ∧ Rows2 zw us_10 ys_10, (by rintro zv zw zx ⟨A_10, cap_10, us_10, ys_10, rfl, c0, c1, q0, q1⟩ hm; exact ⟨A_10, cap_10, us_10, ys_10, rfl, c0, c1, (own_pure q0 hm), (q1.pure hm)⟩), none, none⟩,
                ⟨fun zv zw => ∃ (A_11 : Option Addr) (cap_11 : Nat) (us_11 : List Value) (ys_11 : List (List Str)), zv = .slice A_11 (k + 1) cap_11 ∧ ys_11.length = k + 1 ∧ LeastAll seed xs out ys_11 ∧ zw.ownsRow base2 26 1 (.slice A_11 (k + 1) cap_11) (k + 1) us_11 ∧ Rows2 zw us_11 ys_11, (by rintro zv zw zx ⟨A_11, cap_11, us_11, ys_11, rfl, c0, c1, q0, q1⟩ hm; exact ⟨A_11, cap_11, us_11, ys_11, rfl, c0, c1, (own_pure q0 hm), (q1.pure hm)⟩), none, none⟩]
                (PB w2 (fun _ => False) WS.heap.size (fun D zq => (D 10 = false → (fun Z => Z.ownsRow base2 26 1 (.slice Ax k cap) k us) zq) ∧ (fun Z => Blk Z gs 49 #[.string ⟨nm.toArray⟩, .slice Ai ids.length ci] ∧ Z.cell? ⟨gn, on + k, none⟩ = some (.int .i64 (mi : Int)) ∧ Rows2 Z us xss) zq))) (InvF.start (PB.start (hm2r.trans HMW.out) (Nat.le_refl _) (⟨fun _ => HOW.out.drew, ⟨HBS.out.drew, cell_drew HCN.out, HRW.out⟩⟩))) ?_ ?_
            · refine .cons ?_ (.cons ?_ (.cons ?_ (.cons ?_ (.cons ?_ (.cons ?_ (.cons ?_ (.cons ?_ (.cons ?_ (.cons ?_ (.cons ?_ (.cons ?_ .nil)))))))))))
              · intro D V zw1 a hR hI K hK   -- 0: Op.move (Operand.tmp 13)
                obtain ⟨hM1, hB1, hG1⟩ := hI.1
                obtain ⟨hGK, hG1⟩ := hG1
                obtain ⟨hG1a, hG1b, hG1c⟩ := hG1
                have ze13 := hR.frame.undone (t := 13) (j := 11) (by kernel_rfl) (hR.later 11 rfl (by kernel_rfl)) rfl
                rw [if_pos (by rfl)]
                go_simp
                exact hK (.slice Ax k cap) _ (hI.next hR (by kernel_rfl) (Mod.refl _ _) (PB.quiet hI.1 (Mod.refl _ _) (HGs.out D 0 zw1 zw1 (by omega) (hI.1).g (Mod.refl _ _))) (upd_same V 0 _))
              · intro D V zw1 a hR hI K hK   -- 1: Op.fieldAddr 49 (Operand.tmp 15) 1
                obtain ⟨hM1, hB1, hG1⟩ := hI.1
                obtain ⟨hGK, hG1⟩ := hG1
                obtain ⟨hG1a, hG1b, hG1c⟩ := hG1
                have ze15 := hR.frame.other (t := 15) (by kernel_rfl) rfl
                rw [if_pos (by rfl)]
                go_simp
                exact hK (.pointer (some ⟨gs, 1, none⟩)) _ (hI.next hR (by kernel_rfl) (Mod.refl _ _) (PB.quiet hI.1 (Mod.refl _ _) (HGs.out D 1 zw1 zw1 (by omega) (hI.1).g (Mod.refl _ _))) (upd_same V 1 _))
              · intro D V zw1 a hR hI K hK   -- 2: Op.load 26 (Operand.tmp 51)
                obtain ⟨hM1, hB1, hG1⟩ := hI.1
                obtain ⟨hGK, hG1⟩ := hG1
                obtain ⟨hG1a, hG1b, hG1c⟩ := hG1
                have zd1 := hR.pred 1 (by kernel_rfl)
                have zF1 : V 1 = .pointer (some ⟨gs, 1, none⟩) := hI.2 1 zd1 rfl
                have zf1 := zF1; clear zF1
                have ze51 := hR.frame.done (t := 51) (j := 1) (by kernel_rfl) hR.ok zd1
                have zx0 := hG1a.cell 0; have zx1 := hG1a.cell 1
                simp at zx0 zx1
                rw [if_pos (by rfl)]
                go_simp
                exact hK (.slice Ai ids.length ci) _ (hI.next hR (by kernel_rfl) (Mod.refl _ _) (PB.quiet hI.1 (Mod.refl _ _) (HGs.out D 2 zw1 zw1 (by omega) (hI.1).g (Mod.refl _ _))) (upd_same V 2 _))
              · intro D V zw1 a hR hI K hK   -- 3: Op.move (Operand.tmp 1)
                obtain ⟨hM1, hB1, hG1⟩ := hI.1
                obtain ⟨hGK, hG1⟩ := hG1
                obtain ⟨hG1a, hG1b, hG1c⟩ := hG1
                have ze1 := hR.frame.other (t := 1) (by kernel_rfl) rfl
                rw [if_pos (by rfl)]
                go_simp
                exact hK (.string ⟨seed.toArray⟩) _ (hI.next hR (by kernel_rfl) (Mod.refl _ _) (PB.quiet hI.1 (Mod.refl _ _) (HGs.out D 3 zw1 zw1 (by omega) (hI.1).g (Mod.refl _ _))) (upd_same V 3 _))
              · intro D V zw1 a hR hI K hK   -- 4: Op.move (Operand.tmp 12)
                obtain ⟨hM1, hB1, hG1⟩ := hI.1
                obtain ⟨hGK, hG1⟩ := hG1
                obtain ⟨hG1a, hG1b, hG1c⟩ := hG1
                have ze12 := hR.frame.other (t := 12) (by kernel_rfl) rfl
                rw [if_pos (by rfl)]
                go_simp
                exact hK (.slice (some ⟨gn, on, none⟩) nn cn) _ (hI.next hR (by kernel_rfl) (Mod.refl _ _) (PB.quiet hI.1 (Mod.refl _ _) (HGs.out D 4 zw1 zw1 (by omega) (hI.1).g (Mod.refl _ _))) (upd_same V 4 _))
              · intro D V zw1 a hR hI K hK   -- 5: Op.move (Operand.tmp 14)
                obtain ⟨hM1, hB1, hG1⟩ := hI.1
                obtain ⟨hGK, hG1⟩ := hG1
                obtain ⟨hG1a, hG1b, hG1c⟩ := hG1
                have ze14 := hR.frame.other (t := 14) (by kernel_rfl) rfl
                rw [if_pos (by rfl)]
                go_simp
                exact hK (.int .i64 (k : Int)) _ (hI.next hR (by kernel_rfl) (Mod.refl _ _) (PB.quiet hI.1 (Mod.refl _ _) (HGs.out D 5 zw1 zw1 (by omega) (hI.1).g (Mod.refl _ _))) (upd_same V 5 _))
              · intro D V zw1 a hR hI K hK   -- 6: Op.indexAddr 22 (Operand.tmp 54) (Operand.tmp 55)
                obtain ⟨hM1, hB1, hG1⟩ := hI.1
                obtain ⟨hGK, hG1⟩ := hG1
                obtain ⟨hG1a, hG1b, hG1c⟩ := hG1
                have zd4 := hR.pred 4 (by kernel_rfl)
                have zF4 : V 4 = .slice (some ⟨gn, on, none⟩) nn cn := hI.2 4 zd4 rfl
                have zf4 := zF4; clear zF4
                have zd5 := hR.pred 5 (by kernel_rfl)
                have zF5 : V 5 = .int .i64 (k : Int) := hI.2 5 zd5 rfl
                have zf5 := zF5; clear zF5
                have ze54 := hR.frame.done (t := 54) (j := 4) (by kernel_rfl) hR.ok zd4
                have ze55 := hR.frame.done (t := 55) (j := 5) (by kernel_rfl) hR.ok zd5
                rw [if_pos (by rfl)]
                go_simp
                exact hK (.pointer (some ⟨gn, on + k, none⟩)) _ (hI.next hR (by kernel_rfl) (Mod.refl _ _) (PB.quiet hI.1 (Mod.refl _ _) (HGs.out D 6 zw1 zw1 (by omega) (hI.1).g (Mod.refl _ _))) (upd_same V 6 _))
              · intro D V zw1 a hR hI K hK   -- 7: Op.load 3 (Operand.tmp 56)
                obtain ⟨hM1, hB1, hG1⟩ := hI.1
                obtain ⟨hGK, hG1⟩ := hG1
                obtain ⟨hG1a, hG1b, hG1c⟩ := hG1
                have zd6 := hR.pred 6 (by kernel_rfl)
                have zF6 : V 6 = .pointer (some ⟨gn, on + k, none⟩) := hI.2 6 zd6 rfl
                have zf6 := zF6; clear zF6
                have ze56 := hR.frame.done (t := 56) (j := 6) (by kernel_rfl) hR.ok zd6
                rw [if_pos (by rfl)]
                go_simp
                exact hK (.int .i64 (mi : Int)) _ (hI.next hR (by kernel_rfl) (Mod.refl _ _) (PB.quiet hI.1 (Mod.refl _ _) (HGs.out D 7 zw1 zw1 (by omega) (hI.1).g (Mod.refl _ _))) (upd_same V 7 _))
              · intro D V zw1 a hR hI K hK   -- 8: Op.call { callee := Callee.value (Operand.func 35), args := #[Operand.
                obtain ⟨hM1, hB1, hG1⟩ := hI.1
                obtain ⟨hGK, hG1⟩ := hG1
                obtain ⟨hG1a, hG1b, hG1c⟩ := hG1
                have zd2 := hR.pred 2 (by kernel_rfl)
                have zF2 : V 2 = .slice Ai ids.length ci := hI.2 2 zd2 rfl
                have zf2 := zF2; clear zF2
                have zd3 := hR.pred 3 (by kernel_rfl)
                have zF3 : V 3 = .string ⟨seed.toArray⟩ := hI.2 3 zd3 rfl
                have zf3 := zF3; clear zF3
                have zd7 := hR.pred 7 (by kernel_rfl)
                have zF7 : V 7 = .int .i64 (mi : Int) := hI.2 7 zd7 rfl
                have zf7 := zF7; clear zF7
                have ze52 := hR.frame.done (t := 52) (j := 2) (by kernel_rfl) hR.ok zd2
                have ze53 := hR.frame.done (t := 53) (j := 3) (by kernel_rfl) hR.ok zd3
                have ze57 := hR.frame.done (t := 57) (j := 7) (by kernel_rfl) hR.ok zd7
                rw [if_pos (by rfl)]
                go_simp
                refine (HLE.out _ hM1).mono ?_
                rintro e zw2 ⟨v_0, o_0, rfl, hsp, hsl, hm2⟩
                exact hK (v_0) _ (hI.next hR (by kernel_rfl) hm2 (PB.quiet hI.1 hm2 (HGs.out D 8 _ _ (by omega) (hI.1).g hm2)) (⟨v_0, o_0, upd_same V 8 _, hsp, hsl⟩))
              · intro D V zw1 a hR hI K hK   -- 9: Op.buildSlice 52 1 #[(0, Operand.tmp 58)]
                obtain ⟨hM1, hB1, hG1⟩ := hI.1
                obtain ⟨hGK, hG1⟩ := hG1
                obtain ⟨hG1a, hG1b, hG1c⟩ := hG1
                have zd8 := hR.pred 8 (by kernel_rfl)
                have zF8 : ∃ (v_8 : Value) (o_8 : List Str), V 8 = v_8 ∧ LeastSpec (hashB seed) ids mi o_8 ∧ Sl zw1 9 1 v_8 (strsV o_8) := hI.2 8 zd8 (by show (!D 10) = true; cases hs : D 10 with | false => rfl | true => (have := hR.closed 10 _ 9 rfl (by kernel_rfl) hs; rw [hR.not] at this; cases this))
                obtain ⟨v_8, o_8, zf8, c8_0, b8_0⟩ := zF8
                have ze58 := hR.frame.done (t := 58) (j := 8) (by kernel_rfl) hR.ok zd8
                obtain ⟨Av8, nv8, cv8, hv8⟩ := b8_0.form; subst hv8
                rw [if_pos (by rfl)]
                go_simp
                exact hK (_) _ (hI.next hR (by kernel_rfl) ((Mod.refl _ _).alloc _) (PB.quiet hI.1 (pure_alloc _ _) (HGs.out D 9 _ _ (by omega) (hI.1).g ((Mod.refl _ _).alloc _))) (⟨_, .slice Av8 nv8 cv8, o_8, upd_same V 9 _, (by omega), c8_0, (Blk.new _ _ _), (b8_0.pure (pure_alloc _ _))⟩))
              · intro D V zw1 a hR hI K hK   -- 10: Op.call { callee := Callee.builtin Builtin.append, args := #[Operand.t
                obtain ⟨hM1, hB1, hG1⟩ := hI.1
                obtain ⟨hGK, hG1⟩ := hG1
                obtain ⟨hG1a, hG1b, hG1c⟩ := hG1
                have zd0 := hR.pred 0 (by kernel_rfl)
                have zF0 : V 0 = .slice Ax k cap := hI.2 0 zd0 rfl
                have zf0 := zF0; clear zF0
                have zd9 := hR.pred 9 (by kernel_rfl)
                have zF9 : ∃ (g_9 : Nat) (v_9 : Value) (o_9 : List Str), V 9 = .slice (some ⟨g_9, 0, none⟩) 1 1 ∧ WS.heap.size ≤ g_9 ∧ LeastSpec (hashB seed) ids mi o_9 ∧ Blk zw1 g_9 26 #[v_9] ∧ Sl zw1 9 1 v_9 (strsV o_9) := hI.2 9 zd9 (by show (!D 10) = true; rw [hR.not]; rfl)
                obtain ⟨g_9, v_9, o_9, zf9, c9_0, c9_1, b9_0, b9_1⟩ := zF9
                have ze50 := hR.frame.done (t := 50) (j := 0) (by kernel_rfl) hR.ok zd0
                have ze59 := hR.frame.done (t := 59) (j := 9) (by kernel_rfl) hR.ok zd9
                obtain ⟨Av9, nv9, cv9, hv9⟩ := b9_1.form; subst hv9
                rw [if_pos (by rfl)]
                have hown := hGK hR.not
                refine wp_append_lies _ (.tmp 50) (.tmp 59) 52 (by rfl) base2 26 i0 _ 1 24 Tryz.underlying52 hi0 hz0 hz1 hz2 (by rfl) (by omega) (.slice Ax k cap) (k) (us) ?_ hown ⟨g_9, 0, none⟩ 1 1 [.slice Av9 nv9 cv9] ?_ (by rfl) (World.news_of_block (cs := #[.slice Av9 nv9 cv9]) (t := 26) (fr := (0, 0)) b9_0) (by simp [Value.oneCell']) (by omega) (by simp [maxLen]; omega) (by omega) (by omega) zw1.heap.size rfl ?_
                · show a.tmps.getD 50 undef = _; simp [ze50, zf0]
                · show a.tmps.getD 59 undef = _; simp [ze59, zf9]
                intro g5 cap5 zw2 hown5 hgrow hat hlt5
                have hT := mod_grown hgrow
                have hTb : ∀ j, (.slice Ax k cap : Value).ownBlock = some j → base2 ≤ j := own_block hown
                have hTl : ∀ j, (.slice Ax k cap : Value).ownBlock = some j → j < WS.heap.size := fun j hj => by have := HLT.out j hj; omega
                have hty : ∀ u ys, Sl zw1 9 1 u (strsV ys) → Sl zw2 9 1 u (strsV ys) := fun u ys hs => hs.grown hown hgrow (by decide)
                refine hK _ _ (InvF.last (PB.writes hI.1 (fun j hj hl => by have := hTb j hj; omega) hT ⟨fun hs => absurd hs (by rw [upd_same]; decide), ⟨hG1a.mod hT (fun hj => by have := HLT.out _ hj; omega), hT.keep hG1b (fun hj => by have := HOB.out _ hj; have : base2 ≤ gn := this; omega), hG1c.to hty⟩⟩) ⟨_, _, us ++ [.slice Av9 nv9 cv9], xss ++ [o_9], upd_same V 10 _, by simp [HXL.out], HLA.out.snoc (by rw [HXL.out, HIA.out, HOD.out, Int.toNat_natCast]; exact c9_1), hown5, (hG1c.snoc b9_1).to hty⟩ ?_)
                intro k hk hDk hlv
                have hkl := hR.lt k hDk
                have hv := hI.2 k hDk (liveB_of hlv)
                match k, hk, hDk, hlv, hkl, hv with
                | 0, _, _, _, _, hv => exact hv
                | 1, _, _, _, _, hv => exact hv
                | 2, _, _, _, _, hv => exact hv
                | 3, _, _, _, _, hv => exact hv
                | 4, _, _, _, _, hv => exact hv
                | 5, _, _, _, _, hv => exact hv
                | 6, _, _, _, _, hv => exact hv
                | 7, _, _, _, _, hv => exact hv
                | 8, _, _, hlv, _, _ => exact absurd hlv (by show ¬ (!upd D 10 true 10) = true; rw [upd_same]; decide)
                | 9, _, _, hlv, _, _ => exact absurd hlv (by show ¬ (!upd D 10 true 10) = true; rw [upd_same]; decide)
                | 10, hk, _, _, _, _ => exact absurd rfl hk
                | 11, _, hDk, _, _, _ => exact absurd hDk (by rw [hR.later 11 rfl (by kernel_rfl)]; decide)
                | k + 12, _, _, _, hkl, _ => exact absurd hkl (by simp)
              · intro D V zw1 a hR hI K hK   -- 11: Op.assign (Operand.tmp 60)
                obtain ⟨hM1, hB1, hG1⟩ := hI.1
                obtain ⟨hGK, hG1⟩ := hG1
                obtain ⟨hG1a, hG1b, hG1c⟩ := hG1
                have zd10 := hR.pred 10 (by kernel_rfl)
                have zF10 : ∃ (A_10 : Option Addr) (cap_10 : Nat) (us_10 : List Value) (ys_10 : List (List Str)), V 10 = .slice A_10 (k + 1) cap_10 ∧ ys_10.length = k + 1 ∧ LeastAll seed xs out ys_10 ∧ zw1.ownsRow base2 26 1 (.slice A_10 (k + 1) cap_10) (k + 1) us_10 ∧ Rows2 zw1 us_10 ys_10 := hI.2 10 zd10 rfl
                obtain ⟨A_10, cap_10, us_10, ys_10, zf10, c10_0, c10_1, b10_0, b10_1⟩ := zF10
                have ze60 := hR.frame.done (t := 60) (j := 10) (by kernel_rfl) hR.ok zd10
                rw [if_pos (by rfl)]
                go_simp
                exact hK (.slice A_10 (k + 1) cap_10) _ (hI.next hR (by kernel_rfl) (Mod.refl _ _) (PB.quiet hI.1 (Mod.refl _ _) (HGs.out D 11 zw1 zw1 (by omega) (hI.1).g (Mod.refl _ _))) (⟨A_10, cap_10, us_10, ys_10, upd_same V 11 _, (by first | assumption | omega), (by first | assumption | omega), b10_0, b10_1⟩))
            · intro D V w3 hD hI
              obtain ⟨hM1, hB1, hG1⟩ := hI.1
              have hMx := hM1
              clear hM1
              have hBx := hB1
              clear hB1
              have hGx := hG1.2
              clear hG1
              have zF0 : V 0 = .slice Ax k cap := hI.2 0 (hD 0 (by decide)) rfl
              have zf0 := zF0; clear zF0
              have zF1 : V 1 = .pointer (some ⟨gs, 1, none⟩) := hI.2 1 (hD 1 (by decide)) rfl
              have zf1 := zF1; clear zF1
              have zF2 : V 2 = .slice Ai ids.length ci := hI.2 2 (hD 2 (by decide)) rfl
              have zf2 := zF2; clear zF2
              have zF3 : V 3 = .string ⟨seed.toArray⟩ := hI.2 3 (hD 3 (by decide)) rfl
              have zf3 := zF3; clear zF3
              have zF4 : V 4 = .slice (some ⟨gn, on, none⟩) nn cn := hI.2 4 (hD 4 (by decide)) rfl
              have zf4 := zF4; clear zF4
              have zF5 : V 5 = .int .i64 (k : Int) := hI.2 5 (hD 5 (by decide)) rfl
              have zf5 := zF5; clear zF5
              have zF6 : V 6 = .pointer (some ⟨gn, on + k, none⟩) := hI.2 6 (hD 6 (by decide)) rfl
              have zf6 := zF6; clear zF6
              have zF7 : V 7 = .int .i64 (mi : Int) := hI.2 7 (hD 7 (by decide)) rfl
              have zf7 := zF7; clear zF7
              have zF10 : ∃ (A_10 : Option Addr) (cap_10 : Nat) (us_10 : List Value) (ys_10 : List (List Str)), V 10 = .slice A_10 (k + 1) cap_10 ∧ ys_10.length = k + 1 ∧ LeastAll seed xs out ys_10 ∧ w3.ownsRow base2 26 1 (.slice A_10 (k + 1) cap_10) (k + 1) us_10 ∧ Rows2 w3 us_10 ys_10 := hI.2 10 (hD 10 (by decide)) rfl
              obtain ⟨A_10, cap_10, us_10, ys_10, zf10, c10_0, c10_1, b10_0, b10_1⟩ := zF10
              have zF11 : ∃ (A_11 : Option Addr) (cap_11 : Nat) (us_11 : List Value) (ys_11 : List (List Str)), V 11 = .slice A_11 (k + 1) cap_11 ∧ ys_11.length = k + 1 ∧ LeastAll seed xs out ys_11 ∧ w3.ownsRow base2 26 1 (.slice A_11 (k + 1) cap_11) (k + 1) us_11 ∧ Rows2 w3 us_11 ys_11 := hI.2 11 (hD 11 (by decide)) rfl
              obtain ⟨A_11, cap_11, us_11, ys_11, zf11, c11_0, c11_1, b11_0, b11_1⟩ := zF11
              clear hI hD HGs
              simp only [frAll, Act.put, List.setIfInBounds_toArray, List.set_cons_zero, List.set_cons_succ, Nat.zero_add, Nat.reduceAdd, zf0, zf1, zf2, zf3, zf4, zf5, zf6, zf7, zf10, zf11]
              clear zf0 zf1 zf2 zf3 zf4 zf5 zf6 zf7 zf10 zf11
              generalize V 8 = u8
              generalize V 9 = u9
              clear V D
              go_wp2_with fail
              go_roundg (xs.length - (k + 1))
              case measure => omega
              case rel => exact ⟨k + 1, A_11, cap_11, us_11, ys_11, rfl, by omega, by simp, rfl, c11_0, c11_1, b11_0, b11_1, hMx, by omega⟩
          · obtain rfl : k = xs.length := by omega
            have HSS := Lib.hid (hrows.slss (Sl.of_own hown))
            clear hown hrows
            go_wp2_with fail
            go_ret2
            exact ⟨_, by rw [HE.out]; rfl, fun h => absurd HE.out h, fun _ => ⟨out, xss, HAS.out, HXL.out, HLA.out, HSS.out⟩, hm⟩
  · have hne : (er != 0) = true := by simpa using h0
    clear her
    go_wp2_with fail
    go_ret2
    exact ⟨_, by rw [HE.out]; rfl, fun _ => rfl, fun h => absurd (HE.out.symm.trans h) h0, m1⟩

end Go.Proofs.YtkchninlhemioaaGreatDoor

/- The law SampleStrata. -/
namespace Go.Proofs.YtkchninlhemioaaGreatDoor
set_option linter.unusedVariables false
set_option linter.unusedSimpArgs false
open Go.RowKit

def GoodSt (p : Stm) : Prop := p.1.length ≤ 1000 ∧ p.2.2.length ≤ 1000 ∧ ∀ s ∈ p.2.2, s.length ≤ 1000
/-- The strata while they are made. -/
def StMade (w : World) (b base : Nat) (v : Value) (n N : Nat) (wr : World) : Prop :=
  ∃ xs : List Stm, xs.length = n ∧ (∀ p ∈ xs, GoodSt p) ∧ wr.ownsRow base 49 2 v n (stV xs) ∧ (∀ p ∈ xs, Sl wr 9 1 p.2.1 (strsV p.2.2)) ∧ Strm wr b N ∧ Pure w wr ∧ base ≤ wr.heap.size
def abcV : Array Value := #[.string ⟨#[97]⟩, .string ⟨#[98]⟩, .string ⟨#[99]⟩]
def StLoop (w : World) (b base gn q gk : Nat) (x vi i : Value) (wr : World) : Prop :=
  ∃ (k : Nat) (A : Option Addr) (cap : Nat) (rest : List Str), q - k = gk ∧ k ≤ q ∧ i = .int .i64 (k : Int) ∧ x = .slice A k cap ∧ StMade w b base (.slice A k cap) k (60 + 2 * k) wr ∧ rest.length ≤ 20 ∧ (∀ s ∈ rest, s.length ≤ 1000) ∧ Sl wr 9 1 vi (strsV rest) ∧ Blk wr gn 9 abcV
theorem Sl.takeS {w : World} {A : Option Addr} {n c j : Nat} {xs : List Str} (h : Sl w 9 1 (.slice A n c) (strsV xs)) (hj : j ≤ n) : Sl w 9 1 (.slice A j c) (strsV (xs.take j)) := by
  obtain ⟨A', n', c', hf, h1, h2, h3, h4⟩ := h
  injection hf with e1 e2 e3
  subst e1 e2 e3
  have h5 : xs.length = n := by simpa [strsV] using h3
  refine ⟨_, j, _, rfl, by omega, h2, by simp [strsV]; omega, fun hj0 => ?_⟩
  obtain ⟨g, off, rfl, arr, fr, hh, hr⟩ := h4 (by omega)
  refine ⟨g, off, rfl, arr, fr, hh, fun i u hu => hr i u ?_⟩
  have e : strsV (xs.take j) = (strsV xs).take j := by simp [strsV, List.map_take]
  rw [e, List.getElem?_take] at hu
  split at hu
  · exact hu
  · cases hu
theorem Sl.dropS {w : World} {A : Option Addr} {n c j : Nat} {xs : List Str} (h : Sl w 9 1 (.slice A n c) (strsV xs)) (hj : j ≤ n) : Sl w 9 1 (.slice (A.map (fun x => x.add j)) (n - j) (c - j)) (strsV (xs.drop j)) := by
  obtain ⟨A', n', c', hf, h1, h2, h3, h4⟩ := h
  injection hf with e1 e2 e3
  subst e1 e2 e3
  have h5 : xs.length = n := by simpa [strsV] using h3
  refine ⟨_, n - j, _, rfl, by omega, by omega, by simp [strsV]; omega, fun hj0 => ?_⟩
  obtain ⟨g, off, rfl, arr, fr, hh, hr⟩ := h4 (by omega)
  refine ⟨g, off + j, ?_, arr, fr, hh, fun i u hu => ?_⟩
  · simp only [Option.map_some, Addr.add]
    split
    · rename_i h0; subst h0; rfl
    · rfl
  · have e : strsV (xs.drop j) = (strsV xs).drop j := by simp [strsV, List.map_drop]
    rw [e, List.getElem?_drop] at hu
    rw [Nat.add_assoc]
    exact hr (j + i) u hu
theorem Sl.endS {w : World} {A : Option Addr} {c c' : Nat} {xs : List Str} (B : Option Addr) (hc : c' ≤ 9223372036854775807) (h : xs.length = c) : Sl w 9 1 (.slice B 0 c') (strsV (xs.drop c)) := by
  rw [List.drop_of_length_le (by omega)]
  exact ⟨_, _, _, rfl, by omega, hc, by simp [strsV], fun h => absurd h (by omega)⟩
theorem stV_set0 : ∀ (xs : List Stm) (j : Nat) (h : j < xs.length) (s : Str), (stV xs).set (j * 2) (.string ⟨s.toArray⟩) = stV (xs.set j (s, xs[j].2.1, xs[j].2.2))
  | [], j, h, _ => absurd h (by simp)
  | x :: xs, 0, h, s => by simp [stV]
  | x :: xs, j + 1, h, s => by
    have := stV_set0 xs j (by simpa using h) s
    have e : (j + 1) * 2 = j * 2 + 1 + 1 := by omega
    simp only [stV, List.flatMap_cons, List.cons_append, List.nil_append, e, List.set_cons_succ, List.getElem_cons_succ] at *
    rw [this]
theorem stV_set1 : ∀ (xs : List Stm) (j : Nat) (h : j < xs.length) (u : Value) (l : List Str), (stV xs).set (j * 2 + 1) u = stV (xs.set j (xs[j].1, u, l))
  | [], j, h, _, _ => absurd h (by simp)
  | x :: xs, 0, h, u, l => by simp [stV]
  | x :: xs, j + 1, h, u, l => by
    have := stV_set1 xs j (by simpa using h) u l
    have e : (j + 1) * 2 = j * 2 + 1 + 1 := by omega
    simp only [stV, List.flatMap_cons, List.cons_append, List.nil_append, e, List.set_cons_succ, List.getElem_cons_succ] at *
    rw [this]
theorem firstErr_nest2 (a b c : Int) : firstErr [a, b, c] = firstErr [firstErr [a, b], c] := by
  by_cases ha : a = 0 <;> by_cases hb : b = 0 <;> simp [firstErr, ha, hb]
theorem firstErr_hit2 (a c : Int) (h : a ≠ 0) : firstErr [a, c] = a := by simp only [firstErr]; rw [if_neg h]
theorem firstErr_miss2 (c : Int) : firstErr [0, c] = c := by simp only [firstErr]; split <;> simp_all
theorem many_range2 {n : Int} : manyErr n = 0 ∨ manyErr n = 1 := by unfold manyErr; split <;> simp
theorem names3 : ∀ s ∈ ([[97], [98], [99]] : List Str), s.length ≤ 3 := by decide
theorem seedsz3 : ∀ s ∈ seeds, s.length ≤ 3 := by decide

set_option maxRecDepth 100000 in
set_option maxHeartbeats 8000000 in
theorem SampleStrata_calls (w : World) (A : Option Addr) (n c : Nat) (hA : ArgInts w A n) :
    Calls Tryz.prog 4 #[.slice A n c] w (BoolPost w true) := by
  obtain ⟨i0, hi0, hz0, hz1, hz2⟩ := info_parts info_st2
  have hS0 := strm_new (c := c) hA
  go_enter Tryz.func4, Tryz.ntmps4
  go_wp2_with fail
  refine (range_calls _ _ _ _ _ hS0 (by omega) (by omega) (by omega) (by omega)).mono ?_
  rintro e w1 ⟨n', hn1, hn2, rfl, hS1, hM1⟩
  obtain ⟨m, rfl⟩ := Int.eq_ofNat_of_zero_le hn1
  have hm16 : m ≤ 16 := by omega
  have m1 : Pure w w1 := ((Mod.refl _ w).alloc _).trans' hM1 (fun i hi hlt => by omega)
  have hz1' := hM1.size
  simp at hz1'
  clear hn1 hn2 hM1 hS0
  generalize hb : w.heap.size = b at *
  have hwb := Nat.le_of_eq hb
  clear hb
  go_wp2_with fail
  refine (keys_calls _ _ _ m hS1 (by omega) (by omega)).mono ?_
  rintro e w2 ⟨vi, ni, ids, rfl, hil, hi3, howni, hS2, hM2⟩
  have m2 : Pure w w2 := m1.trans' hM2 (fun i hi hlt => by omega)
  have hsi := Sl.of_own howni
  have hz2' := hM2.size
  have hi1000 : ∀ s ∈ ids, s.length ≤ 1000 := fun s hs => Nat.le_trans (hi3 s hs) (by omega)
  have HI := Lib.hid hi1000
  clear hi3 hi1000 hM2 m1 hS1 howni
  have HSI := Lib.hid (hsi.pure (pure_alloc w2 (.cells #[.string ⟨#[97]⟩, .string ⟨#[98]⟩, .string ⟨#[99]⟩] 9)))
  have BN := Blk.new w2 9 #[.string ⟨#[97]⟩, .string ⟨#[98]⟩, .string ⟨#[99]⟩]
  obtain ⟨Ai, nni, ci, rfl⟩ := hsi.form
  clear hsi
  go_wp2_with fail
  refine (range_calls _ _ _ _ _ (hS2.alloc _) (by omega) (by omega) (by omega) (by omega)).mono ?_
  rintro e w3 ⟨q', hq1, hq2, rfl, hS3, hM3⟩
  obtain ⟨q, rfl⟩ := Int.eq_ofNat_of_zero_le hq1
  have hq3 : q ≤ 3 := by omega
  have m3 : Pure w w3 := (m2.alloc _).trans' hM3 (fun i hi hlt => by omega)
  have HSI3 := Lib.hid (HSI.out.strm (hS2.alloc _) hM3 (by decide))
  have B3 := BN.modb hM3 (by omega)
  have hz3' := hM3.size
  simp at hz3'
  generalize w2.heap.size = gn at *
  clear hq1 hq2 hM3 hS2 m2 HSI BN
  obtain ⟨base, hbase⟩ : ∃ base, base = w3.heap.size := ⟨_, rfl⟩
  have hb1 := Nat.le_of_eq hbase
  have hb2 : b < base := by have := hS3.lt; omega
  have hb3 : gn < base := by have := B3.lt; omega
  clear hbase
  have q4 : (q : Int) ≤ 3 := by omega
  go_wp2_with fail
  go_loopg [4, 5, 27] q (fun gk x vi i wr => StLoop w b base gn q gk x vi i wr)
  case atStart => exact ⟨0, none, 0, ids, by omega, by omega, rfl, rfl, ⟨[], rfl, fun p h => absurd h (by simp), ⟨by simp [stV], .inl ⟨rfl, rfl⟩⟩, fun p h => absurd h (by simp), hS3.more (by omega), m3, hb1⟩, by omega, HI.out, HSI3.out, B3⟩
  case round =>
    clear hS3 HSI3 hb1 B3
    obtain ⟨k, Ax, cap, rest, rfl, hk, rfl, rfl, hmade, hrl, hrz, hrs, hBN⟩ := hrel
    have HRZ := Lib.hid hrz
    have HRS := Lib.hid hrs
    clear hrz hrs
    by_cases hlt : k < q
    · obtain ⟨xs, hxl, hgood, hown, hsls, hS1, hm, hbig⟩ := hmade
      have HXL := Lib.hid hxl
      have HGOOD := Lib.hid hgood
      have HSLS := Lib.hid hsls
      clear hxl hgood hsls
      obtain ⟨Ar, nr, cr, rfl⟩ := HRS.out.form
      have hnr := HRS.out.lenS
      subst hnr
      have hcr : rest.length ≤ cr ∧ cr ≤ 9223372036854775807 := by
        obtain ⟨A', n', c', hf, h1, h2, _⟩ := HRS.out
        injection hf with _ e2 e3
        omega
      obtain ⟨hcr1, hcr2⟩ := hcr
      have hkab : ∃ nm : Str, nm.length ≤ 3 ∧ abcV[k]? = some (.string ⟨nm.toArray⟩) := by
        have : k = 0 ∨ k = 1 ∨ k = 2 := by omega
        rcases this with rfl | rfl | rfl
        · exact ⟨[97], by simp, rfl⟩
        · exact ⟨[98], by simp, rfl⟩
        · exact ⟨[99], by simp, rfl⟩
      obtain ⟨nm, hnm, hab⟩ := hkab
      have hqn := (hBN.cell k).trans hab
      have i1 : (0 : Int) ≤ (k : Int) := by omega
      have i2 : (k : Int) < (q : Int) := by omega
      clear hab
      go_wp2_with fail
      refine (range_calls _ _ _ _ _ hS1 (by omega) (by omega) (by omega) (by omega)).mono ?_
      rintro e w4 ⟨j', hj1, hj2, rfl, hS4, hM4⟩
      obtain ⟨j, rfl⟩ := Int.eq_ofNat_of_zero_le hj1
      have hj : j ≤ rest.length := by omega
      have hlg := hM4.size
      have own4 := own_mod hown hM4 (fun g hg => by have := own_block hown g hg; omega)
      have m4 : Pure w w4 := hm.trans' hM4 (fun i hi hlt => by omega)
      have HRS4 := Lib.hid (HRS.out.strm hS1 hM4 (by decide))
      have HSLS4 : Hid (∀ p ∈ xs, Sl w4 9 1 p.2.1 (strsV p.2.2)) := Lib.hid fun p hp => (HSLS.out p hp).strm hS1 hM4 (by decide)
      have BN4 := hBN.modb hM4 (by omega)
      clear hj1 hj2 hown hm HRS HSLS hM4 hS1 hBN hqn
      have hjc : cr = j ∨ j < cr := by omega
      have HREL : Hid (∀ (g5 cap5 : Nat) (w5 : World), w5.ownsRow base 49 2 (.slice (some ⟨g5, 0, none⟩) (k + 1) cap5) (k + 1) (stV xs ++ [.string ⟨nm.toArray⟩, .slice Ar j cr]) → (w4.alloc (.cells #[.string ⟨nm.toArray⟩, .slice Ar j cr] 49)).grownBy w5 (Value.slice Ax k cap).ownBlock →
          ∀ v5, (∀ W, Sl W 9 1 (.slice Ar rest.length cr) (strsV rest) → Sl W 9 1 v5 (strsV (rest.drop j))) → StLoop w b base gn q (q - (k + 1)) (.slice (some ⟨g5, 0, none⟩) (k + 1) cap5) v5 (.int .i64 ((k : Int) + 1)) w5) := Lib.hid (by
        intro g5 cap5 w5 hown5 hgrow v5 hv5
        have hz5 := hgrow.size
        simp at hz5
        have hkeep : ∀ u ys, Sl w4 9 1 u (strsV ys) → Sl w5 9 1 u (strsV ys) := fun u ys hs => (hs.pure (pure_alloc _ _)).grown (own4.alloc _) hgrow (by decide)
        refine ⟨k + 1, some ⟨g5, 0, none⟩, cap5, rest.drop j, rfl, by omega, by simp, rfl, ⟨xs ++ [(nm, .slice Ar j cr, rest.take j)], by simp [HXL.out], ?_, ?_, ?_, ?_, (m4.alloc _).grown hgrow (fun k hk => .inr (by have := own_block own4 k hk; omega)), by omega⟩, by rw [List.length_drop]; omega, fun s hs => HRZ.out s (List.mem_of_mem_drop hs), ?_, ?_⟩
        · intro p hp
          rcases List.mem_append.1 hp with hp | hp
          · exact HGOOD.out p hp
          · rw [List.mem_singleton.1 hp]
            exact ⟨by show nm.length ≤ 1000; omega, by show (rest.take j).length ≤ 1000; rw [List.length_take]; omega, fun s hs => HRZ.out s (List.mem_of_mem_take hs)⟩
        · rw [stV_snoc]
          exact hown5
        · intro p hp
          rcases List.mem_append.1 hp with hp | hp
          · exact hkeep _ _ (HSLS4.out p hp)
          · rw [List.mem_singleton.1 hp]
            exact hkeep _ _ (HRS4.out.takeS hj)
        · exact ((hS4.alloc _).mod (mod_grown hgrow) (fun i hi h => by have := own_block own4 i h; omega)).more (by omega)
        · exact hv5 _ (hkeep _ _ HRS4.out)
        · exact (BN4.alloc _).mod (mod_grown hgrow) (fun h => by have := own_block own4 _ h; omega))
      rcases hjc with hjc | hjc
      · subst hjc
        obtain rfl : cr = rest.length := by omega
        go_wp2_with (at_builtin; refine wpList_append_lies _ rfl _ _ _ rfl base 49 i0 _ 2 40 Tryz.underlying47 hi0 hz0 hz1 hz2 rfl (by omega) (.slice Ax k cap) k (stV xs) rfl (own4.alloc _) ⟨w4.heap.size, 0, none⟩ 1 1 [.string ⟨nm.toArray⟩, .slice Ar rest.length rest.length] rfl rfl (World.news_of_block (cs := #[.string ⟨nm.toArray⟩, .slice Ar rest.length rest.length]) (t := 49) (fr := (0, 0)) (heap_alloc_new w4 _)) (by simp [Value.oneCell']) (by omega) (by simp [maxLen]; omega) (by omega) (by have := m4.size; simp; omega) (w4.heap.size + 1) (by simp) ?_; intro g5 cap5 w5 hown5 hgrow hat hlt5)
        go_roundg (q - (k + 1))
        case measure => omega
        case rel => exact HREL.out g5 cap5 w5 hown5 hgrow _ (fun W h => Sl.endS (A := none) _ (by omega) rfl)
      · go_wp2_with (at_builtin; refine wpList_append_lies _ rfl _ _ _ rfl base 49 i0 _ 2 40 Tryz.underlying47 hi0 hz0 hz1 hz2 rfl (by omega) (.slice Ax k cap) k (stV xs) rfl (own4.alloc _) ⟨w4.heap.size, 0, none⟩ 1 1 [.string ⟨nm.toArray⟩, .slice Ar j cr] rfl rfl (World.news_of_block (cs := #[.string ⟨nm.toArray⟩, .slice Ar j cr]) (t := 49) (fr := (0, 0)) (heap_alloc_new w4 _)) (by simp [Value.oneCell']) (by omega) (by simp [maxLen]; omega) (by omega) (by have := m4.size; simp; omega) (w4.heap.size + 1) (by simp) ?_; intro g5 cap5 w5 hown5 hgrow hat hlt5)
        go_roundg (q - (k + 1))
        case measure => omega
        case rel => exact HREL.out g5 cap5 w5 hown5 hgrow _ (fun W h => h.dropS hj)
    · obtain rfl : q = k := by omega
      have HMADE : Hid (StMade w b base (.slice Ax q cap) q 70 wr) := Lib.hid (by
        obtain ⟨xs, h1, h2, h3, h4, h5, h6, h7⟩ := hmade
        exact ⟨xs, h1, h2, h3, h4, h5.more (by omega), h6, h7⟩)
      clear hmade hlt hk HRZ HRS hrl hBN
      go_upto_region 11 with (fail)
      go_cut [53] (fun p wx => ∃ fl : Bool, p = .bool fl ∧ (fl = true → 0 < q) ∧ StMade w b base (.slice Ax q cap) q 75 wx)
      case first =>
        obtain ⟨xs, hxl, hgood, hown, hsls, hS1, hm, hbig⟩ := HMADE.out
        have HXL := Lib.hid hxl
        have HGOOD := Lib.hid hgood
        have HSLS := Lib.hid hsls
        clear hxl hgood hsls
        by_cases h0 : q = 0
        · subst h0
          go_wp2_with fail
          go_meet
          exact ⟨false, rfl, fun h => (by cases h), xs, HXL.out, HGOOD.out, hown, HSLS.out, hS1.more (by omega), hm, hbig⟩
        · have h1 : decide ((0 : Int) < (q : Int)) = true := by simp; omega
          have h2 : decide (0 < q) = true := by simp; omega
          go_wp2_with fail
          refine (flip_calls _ _ _ _ hS1 (by omega) (by omega) (by omega)).mono ?_
          rintro e wa ⟨fl, rfl, hSa, hMa⟩
          have hza := hMa.size
          go_wp2_with fail
          go_meet
          exact ⟨fl, by simp, fun _ => by omega, xs, HXL.out, HGOOD.out, own_mod hown hMa (fun g hg => by have := own_block hown g hg; omega), fun p hp => (HSLS.out p hp).strm hS1 hMa (by decide), hSa.more (by omega), hm.trans' hMa (fun i hi hlt => by omega), by omega⟩
      case rest =>
        obtain ⟨fl, rfl, hfl, hmade⟩ := hcut
        generalize wc = w5 at *
        clear HMADE
        obtain ⟨xs, hxl, hgood, hown, hsls, hS5, m5, hbig5⟩ := hmade
        have HXL := Lib.hid hxl
        have HGOOD := Lib.hid hgood
        have HSLS := Lib.hid hsls
        clear hxl hgood hsls
        go_upto_if 53 with (fail)
        go_cut [4] (fun v wx => ∃ n2, n2 ≤ 4 ∧ StMade w b base v n2 90 wx)
        case first =>
          cases fl
          · go_wp2_with fail
            go_meet
            exact ⟨q, by omega, xs, HXL.out, HGOOD.out, hown, HSLS.out, hS5.more (by omega), m5, hbig5⟩
          · have hpos := hfl rfl
            clear hfl
            obtain ⟨gx, cx, hvx, hgb, hgl, _, _⟩ := own_form hown hpos
            injection hvx with hA' _ hC'
            subst hA' hC'
            go_wp2_with fail
            refine (next_calls _ _ _ _ hS5 (by omega) (by omega) (by omega)).mono ?_
            rintro e w6 ⟨j', hj1, hj2, rfl, hS6, hM6⟩
            obtain ⟨j, rfl⟩ := Int.eq_ofNat_of_zero_le hj1
            have hj : j < q := by omega
            have own6 := own_mod hown hM6 (fun g hg => by have := own_block hown g hg; omega)
            have m6 : Pure w w6 := m5.trans' hM6 (fun i hi hlt => by omega)
            have hz6 := hM6.size
            have HSLS6 : Hid (∀ p ∈ xs, Sl w6 9 1 p.2.1 (strsV p.2.2)) := Lib.hid fun p hp => (HSLS.out p hp).strm hS5 hM6 (by decide)
            clear hj1 hj2 hown m5 HSLS hM6 hS5
            go_wp2_with fail
            refine (next_calls _ _ _ _ hS6 (by omega) (by omega) (by omega)).mono ?_
            rintro e w7 ⟨t, ht1, ht2, rfl, hS7, hM7⟩
            have own7 := own_mod own6 hM7 (fun g hg => by have := own_block own6 g hg; omega)
            have m7 : Pure w w7 := m6.trans' hM7 (fun i hi hlt => by omega)
            have hz7 := hM7.size
            have HSLS7 : Hid (∀ p ∈ xs, Sl w7 9 1 p.2.1 (strsV p.2.2)) := Lib.hid fun p hp => (HSLS6.out p hp).strm hS6 hM7 (by decide)
            have hjx : j < xs.length := by rw [HXL.out]; exact hj
            have HGJ := Lib.hid (HGOOD.out _ (List.getElem_mem hjx))
            clear own6 m6 HSLS6 hM7 hS6
            have i1 : (0 : Int) ≤ (j : Int) := by omega
            have i2 : (j : Int) < (q : Int) := by omega
            by_cases c0 : t = 0
            · subst c0
              go_wp2_with fail
              refine (next_calls _ _ _ _ (hS7.alloc _) (by omega) (by omega) (by omega)).mono ?_
              rintro e w8 ⟨s', hs1, hs2, rfl, hS8, hM8⟩
              obtain ⟨si, rfl⟩ := Int.eq_ofNat_of_zero_le hs1
              have hsi : si < 3 := by omega
              have own8 := own_mod (own7.alloc _) hM8 (fun g hg => by have := own_block own7 g hg; omega)
              have m8 : Pure w w8 := (m7.alloc _).trans' hM8 (fun i hi hlt => by omega)
              have hz8 := hM8.size
              simp at hz8
              have HSLS8 : Hid (∀ p ∈ xs, Sl w8 9 1 p.2.1 (strsV p.2.2)) := Lib.hid fun p hp => ((HSLS7.out p hp).pure (pure_alloc _ _)).strm (hS7.alloc _) hM8 (by decide)
              have B8 := (Blk.new w7 9 #[.string ⟨#[]⟩, .string ⟨#[65]⟩, .string ⟨#[97]⟩]).modb hM8 (by omega)
              have hkab : ∃ nm : Str, nm.length ≤ 3 ∧ (#[.string ⟨#[]⟩, .string ⟨#[65]⟩, .string ⟨#[97]⟩] : Array Value)[si]? = some (.string ⟨nm.toArray⟩) := by
                have : si = 0 ∨ si = 1 ∨ si = 2 := by omega
                rcases this with rfl | rfl | rfl
                · exact ⟨[], by simp, rfl⟩
                · exact ⟨[65], by simp, rfl⟩
                · exact ⟨[97], by simp, rfl⟩
              obtain ⟨nm, hnm, hab⟩ := hkab
              have hqs := (B8.cell si).trans hab
              have q1 := (own8.cellAt (j * 2) (by omega)).trans (stV_get xs j hjx).1
              have q2 := own8.frozenAt (j * 2)
              obtain ⟨hset, hgr⟩ := own8.stored (j * 2) (.string ⟨nm.toArray⟩)
              rw [stV_set0 xs j hjx nm] at hset
              have HSET := Lib.hid hset
              have HSLS9 : Hid (∀ p ∈ xs.set j (nm, xs[j].2.1, xs[j].2.2), Sl (w8.setCell ⟨gx, j * 2, none⟩ (.string ⟨nm.toArray⟩)) 9 1 p.2.1 (strsV p.2.2)) := Lib.hid (by
                intro p hp
                rcases List.mem_or_eq_of_mem_set hp with hp | hp
                · exact (HSLS8.out p hp).grown own8 hgr (by decide)
                · rw [hp]
                  exact (HSLS8.out _ (List.getElem_mem hjx)).grown own8 hgr (by decide))
              have HG9 : Hid (∀ p ∈ xs.set j (nm, xs[j].2.1, xs[j].2.2), GoodSt p) := Lib.hid (by
                intro p hp
                rcases List.mem_or_eq_of_mem_set hp with hp | hp
                · exact HGOOD.out p hp
                · rw [hp]
                  exact ⟨by show nm.length ≤ 1000; omega, HGJ.out.2⟩)
              have HL9 : Hid ((xs.set j (nm, xs[j].2.1, xs[j].2.2)).length = q) := Lib.hid (by rw [List.length_set]; exact HXL.out)
              have hS9 : Strm (w8.setCell ⟨gx, j * 2, none⟩ (.string ⟨nm.toArray⟩)) b 90 := (hS8.setCell (by show b < gx; omega) _).more (by omega)
              have m9 : Pure w (w8.setCell ⟨gx, j * 2, none⟩ (.string ⟨nm.toArray⟩)) := m8.setCell (.inr (by show _ ≤ gx; omega)) _
              have HX : Hid (∃ ys : List Stm, ys.length = q ∧ (∀ p ∈ ys, GoodSt p) ∧ (w8.setCell ⟨gx, j * 2, none⟩ (.string ⟨nm.toArray⟩)).ownsRow base 49 2 (.slice (some ⟨gx, 0, none⟩) q cap) q (stV ys) ∧ (∀ p ∈ ys, Sl (w8.setCell ⟨gx, j * 2, none⟩ (.string ⟨nm.toArray⟩)) 9 1 p.2.1 (strsV p.2.2))) := Lib.hid ⟨_, HL9.out, HG9.out, HSET.out, HSLS9.out⟩
              clear HSET HSLS9 HG9 HL9 hset hgr hab HGJ own8 HSLS8 B8
              generalize xs[j] = z0 at *
              have i3 : (0 : Int) ≤ (si : Int) := by omega
              have i4 : (si : Int) < 3 := by omega
              go_wp2_with fail
              go_meet
              obtain ⟨ys, y1, y2, y3, y4⟩ := HX.out
              exact ⟨q, by omega, ys, y1, y2, y3, y4, hS9, m9, by simp; omega⟩
            · have c0' : (t == 0) = false := by simpa using c0
              by_cases c1 : t = 1
              · subst c1
                clear c0 c0'
                go_wp2_with fail
                refine (keys_calls _ _ _ 3 hS7 (by omega) (by omega)).mono ?_
                rintro e w8 ⟨vk, nk, ks, rfl, hkl, hk3, hownk, hS8, hM8⟩
                have hslk := Sl.of_own hownk
                obtain ⟨Ak, nk', ck, rfl⟩ := hslk.form
                have own8 := own_mod own7 hM8 (fun g hg => by have := own_block own7 g hg; omega)
                have m8 : Pure w w8 := m7.trans' hM8 (fun i hi hlt => by omega)
                have hz8 := hM8.size
                have HSLS8 : Hid (∀ p ∈ xs, Sl w8 9 1 p.2.1 (strsV p.2.2)) := Lib.hid fun p hp => (HSLS7.out p hp).strm hS7 hM8 (by decide)
                have q1 := (own8.cellAt (j * 2 + 1) (by omega)).trans (stV_get xs j hjx).2
                have q2 := own8.frozenAt (j * 2 + 1)
                obtain ⟨hset, hgr⟩ := own8.stored (j * 2 + 1) (.slice Ak nk' ck)
                rw [stV_set1 xs j hjx _ ks] at hset
                have HSET := Lib.hid hset
                have HSLS9 : Hid (∀ p ∈ xs.set j (xs[j].1, .slice Ak nk' ck, ks), Sl (w8.setCell ⟨gx, j * 2 + 1, none⟩ (.slice Ak nk' ck)) 9 1 p.2.1 (strsV p.2.2)) := Lib.hid (by
                  intro p hp
                  rcases List.mem_or_eq_of_mem_set hp with hp | hp
                  · exact (HSLS8.out p hp).grown own8 hgr (by decide)
                  · rw [hp]
                    exact hslk.grown own8 hgr (by decide))
                have HG9 : Hid (∀ p ∈ xs.set j (xs[j].1, .slice Ak nk' ck, ks), GoodSt p) := Lib.hid (by
                  intro p hp
                  rcases List.mem_or_eq_of_mem_set hp with hp | hp
                  · exact HGOOD.out p hp
                  · rw [hp]
                    exact ⟨HGJ.out.1, by show ks.length ≤ 1000; omega, fun s hs => Nat.le_trans (hk3 s hs) (by omega)⟩)
                have HL9 : Hid ((xs.set j (xs[j].1, .slice Ak nk' ck, ks)).length = q) := Lib.hid (by rw [List.length_set]; exact HXL.out)
                have hS9 : Strm (w8.setCell ⟨gx, j * 2 + 1, none⟩ (.slice Ak nk' ck)) b 90 := (hS8.setCell (by show b < gx; omega) _).more (by omega)
                have m9 : Pure w (w8.setCell ⟨gx, j * 2 + 1, none⟩ (.slice Ak nk' ck)) := m8.setCell (.inr (by show _ ≤ gx; omega)) _
                have HX : Hid (∃ ys : List Stm, ys.length = q ∧ (∀ p ∈ ys, GoodSt p) ∧ (w8.setCell ⟨gx, j * 2 + 1, none⟩ (.slice Ak nk' ck)).ownsRow base 49 2 (.slice (some ⟨gx, 0, none⟩) q cap) q (stV ys) ∧ (∀ p ∈ ys, Sl (w8.setCell ⟨gx, j * 2 + 1, none⟩ (.slice Ak nk' ck)) 9 1 p.2.1 (strsV p.2.2))) := Lib.hid ⟨_, HL9.out, HG9.out, HSET.out, HSLS9.out⟩
                have hvz := (HSLS8.out _ (List.getElem_mem hjx)).form
                obtain ⟨Az, nz, cz, hz9⟩ := hvz
                rw [hz9] at q1
                clear HSET HSLS9 HG9 HL9 hset hgr HGJ own8 HSLS8 hslk hownk hz9 hk3
                go_wp2_with fail
                go_meet
                obtain ⟨ys, y1, y2, y3, y4⟩ := HX.out
                exact ⟨q, by omega, ys, y1, y2, y3, y4, hS9, m9, by simp; omega⟩
              · have c1' : (t == 1) = false := by simpa using c1
                have q1 := (own7.cellAt (j * 2 + 1) (by omega)).trans (stV_get xs j hjx).2
                have hslj := HSLS7.out _ (List.getElem_mem hjx)
                obtain ⟨Az, nz, cz, hz9⟩ := hslj.form
                rw [hz9] at q1 hslj
                have HSLJ := Lib.hid hslj
                clear hslj hz9
                generalize xs[j] = z0 at *
                go_wp2_with (at_builtin; refine wpList_append_lies _ rfl _ _ _ rfl base 49 i0 _ 2 40 Tryz.underlying47 hi0 hz0 hz1 hz2 rfl (by omega) (.slice (some ⟨gx, 0, none⟩) q cap) q (stV xs) rfl (own7.alloc _) ⟨w7.heap.size, 0, none⟩ 1 1 [.string ⟨#[122]⟩, .slice Az nz cz] rfl rfl (World.news_of_block (cs := #[.string ⟨#[122]⟩, .slice Az nz cz]) (t := 49) (fr := (0, 0)) (heap_alloc_new w7 _)) (by simp [Value.oneCell']) (by omega) (by simp [maxLen]; omega) (by omega) (by have := m7.size; simp; omega) (w7.heap.size + 1) (by simp) ?_; intro g5 cap5 w5 hown5 hgrow hat hlt5)
                go_meet
                have hz9 := hgrow.size
                simp at hz9
                have hkeep : ∀ u ys, Sl w7 9 1 u (strsV ys) → Sl _ 9 1 u (strsV ys) := fun u ys hs => (hs.pure (pure_alloc _ _)).grown (own7.alloc _) hgrow (by decide)
                refine ⟨q + 1, by omega, xs ++ [([122], .slice Az nz cz, z0.2.2)], by simp [HXL.out], ?_, ?_, ?_, ?_, (m7.alloc _).grown hgrow (fun k hk => .inr (by have := own_block own7 k hk; omega)), by omega⟩
                · intro p hp
                  rcases List.mem_append.1 hp with hp | hp
                  · exact HGOOD.out p hp
                  · rw [List.mem_singleton.1 hp]
                    exact ⟨by simp, HGJ.out.2⟩
                · rw [stV_snoc]
                  exact hown5
                · intro p hp
                  rcases List.mem_append.1 hp with hp | hp
                  · exact hkeep _ _ (HSLS7.out p hp)
                  · rw [List.mem_singleton.1 hp]
                    exact hkeep _ _ HSLJ.out
                · exact ((hS7.alloc _).mod (mod_grown hgrow) (fun i hi h => by have := own_block own7 i h; omega)).more (by omega)
        case rest =>
          obtain ⟨n2, hn24, xs2, hxl2, hgood2, hown2, hsls2, hS6, m6, hbig6⟩ := hcut
          generalize wc = w6 at *
          clear hown HSLS hS5 m5 hbig5 hfl HGOOD HXL xs
          have hstr : StR w6 u4 xs2 := ⟨Sl.of_own hown2, hsls2⟩
          have HSTR := Lib.hid hstr
          have HG := Lib.hid hgood2
          have hx10 : xs2.length ≤ 10 := by omega
          clear hown2 hsls2 hgood2 hxl2 hstr
          obtain ⟨Ax2, nx2, cx2, rfl⟩ := HSTR.out.1.form
          go_wp2_with fail
          refine (seed_calls _ _ _ hS6 (by omega)).mono ?_
          rintro e w7 ⟨seed, hseed, rfl, hS7, hM7⟩
          have hsd := seedsz3 seed hseed
          have m7 : Pure w w7 := m6.trans' hM7 (fun i hi hlt => by omega)
          have HSTR7 : Hid (StR w7 (.slice Ax2 nx2 cx2) xs2) := Lib.hid ⟨HSTR.out.1.strm hS6 hM7 (by decide), fun p hp => (HSTR.out.2 p hp).strm hS6 hM7 (by decide)⟩
          have hz7 := hM7.size
          clear HSTR hS6 hM7 m6 hseed
          go_wp2_with fail
          refine (pick_calls _ _ _ _ _ [0, 1, 3, 5, 2000, -1, 2001] (hS7.alloc _) (by omega) (Blk.new _ _ _) (by omega) (by simp) (by simp)).mono ?_
          rintro e w8 ⟨many, hq', rfl, hS8, hM8⟩
          have hmq : -1 ≤ many ∧ many ≤ 2001 := by simp at hq'; omega
          have m8 : Pure w w8 := (m7.alloc _).trans' hM8 (fun i hi hlt => by omega)
          have pa8 := pure_alloc w7 (.cells #[.int .i64 0, .int .i64 1, .int .i64 3, .int .i64 5, .int .i64 2000, .int .i64 (-1), .int .i64 2001] 3)
          have HSTR8 : Hid (StR w8 (.slice Ax2 nx2 cx2) xs2) := Lib.hid ⟨(HSTR7.out.1.pure pa8).strm (hS7.alloc _) hM8 (by decide), fun p hp => ((HSTR7.out.2 p hp).pure pa8).strm (hS7.alloc _) hM8 (by decide)⟩
          have y0 : (⟨seed.toArray⟩ : ByteArray).size ≤ 1000000 := by simp [ByteArray.size]; omega
          clear HSTR7 hS7 hM8 m7 hq' hS8 pa8
          go_wp2_with fail
          refine (Strata_calls _ _ xs2 seed many HSTR8.out hx10 HG.out (by omega)).mono ?_
          rintro e w9 ⟨vo, rfl, hnv, hov, hm9⟩
          have HSTR9 := Lib.hid (HSTR8.out.pure hm9)
          have m9 := m8.trans hm9
          have HNV := Lib.hid hnv
          have HOV := Lib.hid hov
          clear HSTR8 m8 hm9 hnv hov
          have hfv : ∃ A n c, vo = .slice A n c := by
            by_cases h : stratE xs2 seed many = 0
            · obtain ⟨out, xss, _, _, _, hs⟩ := HOV.out h
              exact hs.form
            · exact ⟨_, _, _, HNV.out h⟩
          obtain ⟨Av, nv, cv, rfl⟩ := hfv
          go_wp2_with fail
          refine (strataFault_calls _ _ xs2 HSTR9.out hx10 HG.out).mono ?_
          rintro e wa ⟨rfl, hma⟩
          go_wp2_with fail
          refine (seedFault_calls _ _ y0).mono ?_
          rintro e wd ⟨rfl, hmd⟩
          rw [show keyE (⟨seed.toArray⟩ : ByteArray).data.toList = keyErr seed from rfl]
          go_wp2_with fail
          refine (wrongOr_calls _ _ _ [strataE xs2, keyErr seed] (Blk.new _ _ _).row0 (by simp)).mono ?_
          rintro e wf ⟨rfl, hmf⟩
          have pf : Pure w9 wf := ((hma.trans hmd).alloc _).trans hmf
          have m10 := m9.trans pf
          have HSTR10 := Lib.hid (HSTR9.out.pure pf)
          have HOV10 : Hid (stratE xs2 seed many = 0 → ∃ out xss, AllocSpec (sizesOf xs2) many out ∧ xss.length = xs2.length ∧ LeastAll seed xs2 out xss ∧ SlSS wf (.slice Av nv cv) xss) := Lib.hid fun h => by
            obtain ⟨out, xss, h1, h2, h3, h4⟩ := HOV.out h
            exact ⟨out, xss, h1, h2, h3, h4.pure pf⟩
          obtain ⟨f, hf⟩ : ∃ f, firstErr [strataE xs2, keyErr seed] = f := ⟨_, rfl⟩
          have HF := Lib.hid hf
          have HSE : Hid (stratE xs2 seed many = firstErr [f, manyErr many]) := Lib.hid (by rw [← hf, ← firstErr_nest2]; rfl)
          rw [hf]
          rw [HSE.out] at HNV HOV10 ⊢
          clear hf hma hmd hmf pf HOV HSTR9 m9
          by_cases h0 : f = 0
          · subst h0
            rw [firstErr_miss2] at HNV HOV10
            rw [firstErr_miss2]
            obtain ⟨me, hme⟩ : ∃ me, manyErr many = me := ⟨_, rfl⟩
            have HME := Lib.hid hme
            rw [hme] at HNV HOV10 ⊢
            clear hme
            have hzz := firstErr_zero HF.out
            have hst0 : strataE xs2 = 0 := hzz _ (by simp)
            have HIDS : Hid (∀ p ∈ xs2, p.2.2.Pairwise (· < ·)) := Lib.hid (by
              intro p hp
              refine ids_sorted (strE_ok (ns := []) (seen := []) ?_ p hp)
              unfold strataE at hst0
              rw [if_neg (by omega)] at hst0
              exact hst0)
            clear hzz hst0 HF HSE
            rcases (show me = 0 ∨ me = 1 from HME.out ▸ many_range2) with rfl | rfl
            · obtain ⟨mm, hmm, hm2000⟩ := many_nat HME.out
              obtain ⟨out, xss, ha, hxl, hla, hss⟩ := HOV10.out rfl
              have HSO := Lib.hid (StrataOf_calls wf _ xs2 seed many out HSTR10.out hx10 HG.out (by omega) (by omega) ha HIDS.out)
              have HXL := Lib.hid hxl
              have HLA := Lib.hid hla
              have HSS := Lib.hid hss
              have g1 : ¬ (many < 0) := by omega
              have g2 : ¬ ((2000 : Int) < many) := by omega
              clear ha hxl hla hss HOV10 HNV HME hmm hm2000
              go_wp2_with fail
              refine HSO.out.mono ?_
              rintro e wg ⟨vg, yss, rfl, hyl, hly, hsg, hmg⟩
              obtain rfl := hly.unique HLA.out (hyl.trans HXL.out.symm)
              go_wp2_with fail
              refine (equalSS_calls _ _ _ _ (HSS.out.pure hmg) hsg).mono ?_
              rintro e wh ⟨rfl, hmh⟩
              go_wp2_with fail
              refine (drawn_calls _).mono ?_
              rintro e wi ⟨rfl, hmi⟩
              go_wp2_with fail
              go_ret
              exact BoolPost.of rfl (((m10.trans hmg).trans hmh).trans hmi)
            · have hbad : many < 0 ∨ 2000 < many := by
                have h := HME.out
                unfold manyErr at h
                split at h
                · omega
                · omega
              clear HOV10
              rcases hbad with hb1 | hb1
              · have g1 : many < 0 := hb1
                obtain ⟨rfl, rfl, rfl⟩ : Av = none ∧ nv = 0 ∧ cv = 0 := by
                  have h := HNV.out (by omega)
                  injection h with h1 h2 h3
                  exact ⟨h1, h2, h3⟩
                go_wp2_with fail
                refine (drawn_calls _).mono ?_
                rintro e wm ⟨rfl, hmm⟩
                go_wp2_with fail
                go_ret
                exact BoolPost.of rfl (m10.trans hmm)
              · have g1 : ¬ (many < 0) := by omega
                have g2 : (2000 : Int) < many := hb1
                obtain ⟨rfl, rfl, rfl⟩ : Av = none ∧ nv = 0 ∧ cv = 0 := by
                  have h := HNV.out (by omega)
                  injection h with h1 h2 h3
                  exact ⟨h1, h2, h3⟩
                go_wp2_with fail
                refine (drawn_calls _).mono ?_
                rintro e wm ⟨rfl, hmm⟩
                go_wp2_with fail
                go_ret
                exact BoolPost.of rfl (m10.trans hmm)
          · have hf1 : (f == 0) = false := by simpa using h0
            have hf2 : (f != 0) = true := by simpa using h0
            have hf3 : (f == f) = true := by simp
            rw [firstErr_hit2 _ _ h0] at HNV
            rw [firstErr_hit2 _ _ h0]
            obtain ⟨rfl, rfl, rfl⟩ : Av = none ∧ nv = 0 ∧ cv = 0 := by
              have h := HNV.out h0
              injection h with h1 h2 h3
              exact ⟨h1, h2, h3⟩
            clear HOV10 HNV HF HSE h0
            go_wp2_with fail
            refine (drawn_calls _).mono ?_
            rintro e wm ⟨rfl, hmm⟩
            go_wp2_with fail
            go_ret
            exact BoolPost.of rfl (m10.trans hmm)

end Go.Proofs.YtkchninlhemioaaGreatDoor
