/- Texts of the proof of ItemWholes, put together: FamD, WhoP, WhoT, WhoA, SamF. -/
import Derived.Test.YtglekmflcaacjaaGreatDoorItemWholesZ23
import Derived.Test.YtglekmflcaacjaaGreatDoorItemWholesZ35
import Derived.Deep.AppendLies
import Derived.Maps.AppendAt
/- Families of package intake. -/
namespace Go.Proofs.YtglekmflcaacjaaGreatDoor
set_option linter.unusedVariables false
set_option linter.unusedSimpArgs false
open Go.RowKit

/-- A family in memory: its top, the slice of its items, their ids. -/
abbrev Fm := Str × Value × List Str
def fmV (xs : List Fm) : List Value := xs.flatMap fun p => [.string ⟨p.1.toArray⟩, p.2.1]
theorem fmV_len : ∀ xs : List Fm, (fmV xs).length = xs.length * 2
  | [] => rfl
  | x :: xs => by
    have := fmV_len xs
    simp only [fmV, List.flatMap_cons, List.length_append, List.length_cons, List.length_nil] at *
    omega
theorem fmV_get : ∀ (xs : List Fm) (i : Nat) (h : i < xs.length), (fmV xs)[i * 2]? = some (.string ⟨xs[i].1.toArray⟩) ∧ (fmV xs)[i * 2 + 1]? = some xs[i].2.1
  | [], i, h => absurd h (by simp)
  | x :: xs, 0, h => by simp [fmV]
  | x :: xs, i + 1, h => by
    have := fmV_get xs i (by simpa using h)
    have e : (i + 1) * 2 = i * 2 + 1 + 1 := by omega
    simp only [fmV, List.flatMap_cons, List.cons_append, List.nil_append, e, List.getElem?_cons_succ, List.getElem_cons_succ]
    exact this
theorem fmV_snoc (xs : List Fm) (p : Fm) : fmV (xs ++ [p]) = fmV xs ++ [.string ⟨p.1.toArray⟩, p.2.1] := by simp [fmV]
/-- What families say. -/
def fmS (xs : List Fm) : List (Str × List Str) := xs.map fun p => (p.1, p.2.2)
def FmR (w : World) (v : Value) (xs : List Fm) : Prop := Sl w 53 2 v (fmV xs) ∧ ∀ p ∈ xs, Sl w 9 1 p.2.1 (strsV p.2.2)
theorem FmR.pure {w w' : World} {v : Value} {xs : List Fm} (h : FmR w v xs) (hm : Pure w w') : FmR w' v xs := ⟨h.1.pure hm, fun p hp => (h.2 p hp).pure hm⟩
def famsS (l : List Itm) : List (Str × List Str) := (topsI l).map fun t => (idAt2 l t, belS l 4 t)
theorem info_fam : (Tryz.prog.info? 53).map (fun i => (i.zero, i.size, i.bytes)) = some (some (.agg #[.string ⟨#[]⟩, .slice none 0 0]), 2, 40) := by kernel_rfl
def FamPost (w : World) (l : List Itm) (e : Ending) (w' : World) : Prop :=
  ∃ v, e = .returned (.tuple #[v, .int .i64 (itsE itemE l)]) ∧ (itsE itemE l ≠ 0 → v = nilS) ∧ (itsE itemE l = 0 → ∃ fs, FmR w' v fs ∧ fmS fs = famsS l) ∧ Pure w w'
def FaRel (w : World) (base g0 bi bk : Nat) (At : Option Addr) (nt ct : Nat) (l : List Itm) (gk : Nat) (x i : Value) (wr : World) : Prop :=
  ∃ (k : Nat) (fs : List Fm) (Ao : Option Addr) (cap : Nat), (topsI l).length - k = gk ∧ k ≤ (topsI l).length ∧ x = .slice Ao k cap ∧ i = .int .i64 (k : Int) ∧ fs.length = k ∧ fmS fs = (famsS l).take k ∧
    wr.ownsRow base 53 2 (.slice Ao k cap) k (fmV fs) ∧ (∀ p ∈ fs, Sl wr 9 1 p.2.1 (strsV p.2.2)) ∧ Blk wr g0 100 #[.map (some bi), .map (some bk), .slice At nt ct] ∧ TreeIs wr bi bk (.slice At nt ct) l ∧ Pure w wr ∧ base ≤ wr.heap.size
theorem TreeIs.grown {w w' : World} {bi bk : Nat} {vt v : Value} {xs : List Itm} {base size n : Nat} {ys : List Value} (h : TreeIs w bi bk vt xs) (hb : bi < base) (hb2 : bk < base) (hown : w.ownsRow base 53 size v n ys) (hg : w.grownBy w' v.ownBlock) : TreeIs w' bi bk vt xs := by
  obtain ⟨n, V, h1, h2⟩ := h.kids
  have hm := grown_mod hg
  have hne : ∀ k, v.ownBlock = some k → base ≤ k := own_block hown
  exact ⟨h.items.mod hm (fun hh => by have := hne _ hh; omega), ⟨n, V, h1.mod hm (fun hh => by have := hne _ hh; omega), fun p => (h2 p).grown hown hg (by decide)⟩, h.tops.grown hown hg (by decide)⟩
theorem itemE_ne {x : Itm} (h : itemE x = 0) : x.id ≠ [] := fun e => by have := itemE_id h; rw [e] at this; cases this

set_option maxRecDepth 100000 in
set_option maxHeartbeats 8000000 in
theorem families_calls (w : World) (v : Value) (l : List Itm) (hv : Its w v l) (hz : ∀ x ∈ l, ItB x) (hl : l.length ≤ 2000) (hE : Env w) : Calls Tryz.prog 23 #[v] w (FamPost w l) := by
  obtain ⟨i0, hi0, hz0, hz1, hz2⟩ := info_parts info_fam
  have HCH := Lib.hid (check_calls w v l hv hz hl hE)
  have HNT := Lib.hid (fun W (h : Pure w W) hd => newTree_calls W v l (hv.pure h) hz hd hl)
  have HRT := Lib.hid (fun h => right_of (E := itemE) (fun x hx => itemE_ne hx) (l := l) h)
  have HBT := Lib.hid (fun hR bi bk At nt ct => belowT_calls l hR hz bi bk At nt ct 4)
  obtain ⟨A, n, c, rfl⟩ := Sl.form hv
  have HE := Lib.hid (rfl : itsE itemE l = itsE itemE l)
  obtain ⟨e1, he1⟩ : ∃ e1, itsE itemE l = e1 := ⟨_, rfl⟩
  rw [he1] at HCH
  have HE1 := Lib.hid he1
  clear hv hz hE HE he1
  go_enter Tryz.func23, Tryz.ntmps23
  go_wp2_with fail
  refine HCH.out.mono ?_
  rintro e w1 ⟨rfl, m1⟩
  clear HCH
  by_cases h0 : e1 = 0
  · subst h0
    have hR := HRT.out HE1.out
    have HR := Lib.hid hR
    have hds := hR.distinct
    have HDS := Lib.hid hds
    clear hR hds HRT
    go_wp2_with fail
    refine (HNT.out _ m1 HDS.out).mono ?_
    rintro e w2 ⟨bi, bk, vt, rfl, hT, m2⟩
    have m3 := m1.trans m2
    obtain ⟨At, nt, ct, rfl⟩ := hT.tops.form
    have hbil := hT.items.lt
    have hws := m3.size
    have hbkl : bk < w2.heap.size := by
      obtain ⟨_, _, h1, _⟩ := hT.kids
      exact h1.lt
    have hnt : (topsS l).length = nt := hT.tops.lenS
    rw [HR.out.topsS_eq, List.length_map] at hnt
    subst hnt
    have hB0 := Blk.new w2 100 #[.map (some bi), .map (some bk), .slice At (topsI l).length ct]
    have hT0 := hT.pure (pure_alloc w2 (.cells #[.map (some bi), .map (some bk), .slice At (topsI l).length ct] 100))
    have hm0 := m3.alloc (.cells #[.map (some bi), .map (some bk), .slice At (topsI l).length ct] 100)
    have hsz : (w2.alloc (.cells #[.map (some bi), .map (some bk), .slice At (topsI l).length ct] 100)).heap.size = w2.heap.size + 1 := by simp
    have hsz1 := Nat.le_of_eq hsz
    have hsz2 := Nat.le_of_eq hsz.symm
    have HB0 := Lib.hid hB0
    have HT0 := Lib.hid hT0
    have Hm0 := Lib.hid hm0
    have htl : (topsI l).length ≤ 2000 := by
      unfold topsI
      exact Nat.le_trans (List.length_filter_le _ _) (by simp; omega)
    clear HNT m1 m2 m3 hT hB0 hT0 hm0 hsz
    go_wp2_with fail
    obtain ⟨g0, hg0⟩ : ∃ g0, g0 = w2.heap.size := ⟨_, rfl⟩
    obtain ⟨base, hba⟩ : ∃ base, base = w2.heap.size + 1 := ⟨_, rfl⟩
    have hg1 := Nat.le_of_eq hg0
    have hg2 := Nat.le_of_eq hg0.symm
    have hb1 := Nat.le_of_eq hba
    have hb2 := Nat.le_of_eq hba.symm
    rw [← hg0] at HB0 ⊢
    clear hg0 hba
    generalize (w2.alloc (.cells #[.map (some bi), .map (some bk), .slice At (topsI l).length ct] 100)) = W at *
    have hmz := Hm0.out.size
    go_loopg [6, 19] (topsI l).length (fun gk xv i wr => FaRel w base g0 bi bk At (topsI l).length ct l gk xv i wr)
    case atStart => exact ⟨0, [], none, 0, by omega, by omega, rfl, rfl, rfl, by simp [fmS], ⟨rfl, .inl ⟨rfl, rfl⟩⟩, fun p hp => absurd hp (by simp), HB0.out, HT0.out, Hm0.out, by omega⟩
    case round =>
      clear HB0 HT0 Hm0 hmz hsz1 hsz2
      obtain ⟨k, fs, Ao, cap, rfl, hk, rfl, rfl, hfl, hfs, hown, hsl, hB, hT, hm, hsz⟩ := hrel
      by_cases hlt : k < (topsI l).length
      · have hkl : k < (topsS l).length := by rw [HR.out.topsS_eq, List.length_map]; exact hlt
        obtain ⟨gr, off, rfl, hrow⟩ := hT.tops.rowS (by omega)
        have q1 := hrow.cell (strsV_get (topsS l) k hkl)
        have hte : (topsS l)[k] = idAt2 l (topsI l)[k] := by
          have := HR.out.topsS_eq
          simp only [this, List.getElem_map]
        rw [hte] at q1
        have htk : (topsI l)[k] < l.length := (mem_topsI.1 (List.getElem_mem hlt)).1
        have hbt := HBT.out HR.out bi bk (some ⟨gr, off, none⟩) (topsI l).length ct _ htk (HR.out.short _) wr hT
        rw [← idAt2_eq htk] at hbt
        have HBC := Lib.hid hbt
        have hft : (famsS l).take (k + 1) = (famsS l).take k ++ [(idAt2 l (topsI l)[k], belS l 4 (topsI l)[k])] := by
          have hkf : k < (famsS l).length := by unfold famsS; rw [List.length_map]; exact hlt
          rw [List.take_succ_eq_append_getElem hkf]
          congr 2
          simp [famsS]
        have HFT := Lib.hid hft
        have HFS := Lib.hid hfs
        have HSL := Lib.hid hsl
        have HTT := Lib.hid hT
        clear hrow hte htk hbt hft hfs hsl hT hkl
        generalize idAt2 l (topsI l)[k] = tid at *
        generalize belS l 4 (topsI l)[k] = bs at *
        have t0 := hB.cell 0; have t1 := hB.cell 1; have t2 := hB.cell 2; simp at t0 t1 t2
        go_wp2_with fail
        refine HBC.out.mono ?_
        rintro e w3 ⟨v3, rfl, own3, m3⟩
        have hS3 := Sl.of_own own3
        obtain ⟨Ai, ni, ci, rfl⟩ := hS3.form
        have hownA := own_pure hown m3
        have hB3 := hB.mod m3 id
        have hm3 := hm.trans m3
        have hT3 := HTT.out.pure m3
        have hob := own_block hownA
        have HOB := Lib.hid hob
        have hzz := m3.size
        have HSL3 := Lib.hid (fun p hp => (HSL.out p hp).pure m3)
        have HS3 := Lib.hid hS3
        have HB3 := Lib.hid hB3
        have HT3 := Lib.hid hT3
        have HM3 := Lib.hid hm3
        clear t0 t1 t2 q1 hown hB hm HBC own3 m3 hob hB3 hT3 HTT HSL hS3
        go_wp2_with (at_builtin; refine wpList_append_lies _ rfl _ _ _ rfl base 53 i0 _ 2 40 Tryz.underlying47 hi0 hz0 hz1 hz2 rfl (by omega) (.slice Ao k cap) k (fmV fs) rfl (hownA.alloc _) ⟨w3.heap.size, 0, none⟩ 1 1 [.string ⟨tid.toArray⟩, .slice Ai ni ci] rfl rfl (World.news_of_block (cs := #[.string ⟨tid.toArray⟩, .slice Ai ni ci]) (t := 53) (fr := (0, 0)) (heap_alloc_new w3 _)) (by simp [Value.oneCell']) (by omega) (by simp [maxLen]; omega) (by omega) (by have := hm3.size; simp; omega) (w3.heap.size + 1) (by simp) ?_; intro g5 cap5 w5 hown5 hgrow hat hlt5)
        have hz5 := hgrow.size
        simp at hz5
        have hg3 := hownA.alloc (.cells #[.string ⟨tid.toArray⟩, .slice Ai ni ci] 53)
        have pA := pure_alloc w3 (.cells #[.string ⟨tid.toArray⟩, .slice Ai ni ci] 53)
        go_roundg ((topsI l).length - (k + 1))
        case measure => omega
        case rel =>
          refine ⟨k + 1, fs ++ [(tid, .slice Ai ni ci, bs)], some ⟨g5, 0, none⟩, cap5, rfl, by omega, rfl, by simp, by simp [hfl], ?_, ?_, ?_, ?_, ?_, (HM3.out.alloc _).grown hgrow (fun k hk => .inr (by have := HOB.out k hk; omega)), by omega⟩
          · rw [HFT.out, ← HFS.out]
            simp [fmS]
          · rw [fmV_snoc]
            exact hown5
          · intro p hp
            rcases List.mem_append.1 hp with hp | hp
            · exact ((HSL3.out p hp).pure pA).grown hg3 hgrow (by decide)
            · rw [List.mem_singleton.1 hp]
              exact (HS3.out.pure pA).grown hg3 hgrow (by decide)
          · exact (HB3.out.mod pA id).mod (grown_mod hgrow) (fun h => by have := HOB.out _ h; omega)
          · exact (HT3.out.pure pA).grown (by omega) (by omega) hg3 hgrow
      · obtain rfl : k = (topsI l).length := by omega
        have hft : fmS fs = famsS l := by
          rw [hfs, List.take_of_length_le]
          unfold famsS
          rw [List.length_map]
          exact Nat.le_refl _
        have HFT := Lib.hid hft
        have HSL := Lib.hid hsl
        have HOW := Lib.hid (Sl.of_own hown)
        clear hft hsl hown hfs hB hT
        go_wp2_with fail
        refine bodyPost_ret (v := .tuple #[.slice Ao (topsI l).length cap, .int .i64 0]) (by simp [results, Tryz.results23, go_sem]) rfl ?_
        exact ⟨_, by rw [HE1.out], fun h => absurd HE1.out h, fun _ => ⟨fs, ⟨HOW.out, HSL.out⟩, HFT.out⟩, hm⟩
  · have h0' : (e1 != 0) = true := by simpa using h0
    have H0 := Lib.hid h0
    clear HNT HRT HBT h0
    go_wp2_with fail
    refine bodyPost_ret (v := .tuple #[.slice none 0 0, .int .i64 e1]) (by simp [results, Tryz.results23, go_sem]) rfl ?_
    exact ⟨_, by rw [HE1.out], fun _ => rfl, fun h => absurd (HE1.out.symm.trans h) H0.out, m1⟩

end Go.Proofs.YtglekmflcaacjaaGreatDoor

/- Whole: the tops of items, the families that are hit. -/
namespace Go.Proofs.YtglekmflcaacjaaGreatDoor
set_option linter.unusedVariables false
set_option linter.unusedSimpArgs false
open Go.RowKit

/-- The top above item i. -/
def tpI (l : List Itm) (i : Nat) : Nat := (wayI l i).head?.getD i
theorem tpI_top {l : List Itm} {i : Nat} (h : upI l i = none) : tpI l i = i := by simp [tpI, wayI_top h]
theorem wayI_ne (l : List Itm) (i : Nat) : wayI l i ≠ [] := by simp [wayI]
theorem tpI_kid {l : List Itm} (hno : ∀ i, i < l.length → lpB l i = false) {i k : Nat} (hk : k < l.length) (h : upI l k = some i) : tpI l k = tpI l i := by
  unfold tpI
  rw [wayI_kid hno hk h]
  cases hw : wayI l i with
  | nil => exact absurd hw (wayI_ne l i)
  | cons a t => rfl
theorem tpI_stp {l : List Itm} (hno : ∀ i, i < l.length → lpB l i = false) : ∀ (j i q : Nat), i < l.length → stp l j i = some q → upI l q = none → tpI l i = q
  | 0, i, q, _, h, hq => by
    simp [stp] at h
    subst h
    exact tpI_top hq
  | j + 1, i, q, hi, h, hq => by
    cases hu : upI l i with
    | none => simp [stp, hu] at h
    | some p =>
      rw [stp, hu] at h
      rw [tpI_kid hno hi hu]
      exact tpI_stp hno j p q (upI_lt hu) h hq
theorem Right.top_at {l : List Itm} (h : Right l) {x : Nat} (hx : x < l.length) : ∃ m, m < 5 ∧ stp l m x = some (tpI l x) ∧ tpI l x < l.length ∧ upI l (tpI l x) = none := by
  obtain ⟨m, i, h1, h2, h3, h4⟩ := top_of 5 x hx (h.end5 x hx)
  rw [tpI_stp h.loop m x i hx h3 h4]
  exact ⟨m, h1, h3, h2, h4⟩
theorem Right.tpI_mem {l : List Itm} (h : Right l) {x : Nat} (hx : x < l.length) : tpI l x ∈ topsI l := by
  obtain ⟨m, _, _, h3, h4⟩ := h.top_at hx
  exact mem_topsI.2 ⟨h3, h4⟩
theorem Right.bel_top {l : List Itm} (h : Right l) {t x : Nat} (ht : t ∈ topsI l) : x ∈ belI l 4 t ↔ x < l.length ∧ tpI l x = t := by
  obtain ⟨h1, h2⟩ := mem_topsI.1 ht
  constructor
  · intro hx
    refine ⟨bel_lt 4 t x h1 hx, ?_⟩
    obtain ⟨r, hr⟩ := bel_way h.loop 4 t x hx
    unfold tpI
    rw [hr, wayI_top h2]
    rfl
  · rintro ⟨hx, rfl⟩
    obtain ⟨m, h3, h4, _, _⟩ := h.top_at hx
    exact bel_has m 4 _ x (by omega) hx h4

/-- The family of top t has one of the ids. -/
def hitB (l : List Itm) (ids : List Str) (t : Nat) : Bool := (belI l 4 t).any fun x => decide (idAt2 l x ∈ ids)
/-- The items of the families that are hit. -/
def whS (l : List Itm) (ids : List Str) : List Str := ((topsI l).filter (hitB l ids)).flatMap fun t => belS l 4 t
/-- The top of an id. -/
def tpS (l : List Itm) (id : Str) : Str := idAt2 l (tpI l ((plc l id).getD 0))
def allIn (l : List Itm) (ids : List Str) : Bool := ids.all fun id => (plc l id).isSome
theorem Right.id2_inj {l : List Itm} (h : Right l) {i k : Nat} (hi : i < l.length) (hk : k < l.length) (he : idAt2 l i = idAt2 l k) : i = k := by
  rw [idAt2_eq hi, idAt2_eq hk] at he
  exact id_inj h.distinct hi hk he
theorem Right.hit_iff {l : List Itm} (h : Right l) {ids : List Str} (hin : ∀ id ∈ ids, (plc l id).isSome = true) {t : Nat} (ht : t ∈ topsI l) : idAt2 l t ∈ ids.map (tpS l) ↔ hitB l ids t = true := by
  have htl := (mem_topsI.1 ht).1
  unfold hitB
  rw [List.any_eq_true, List.mem_map]
  constructor
  · rintro ⟨id, hid, he⟩
    obtain ⟨i, hi⟩ := Option.isSome_iff_exists.1 (hin id hid)
    obtain ⟨hil, hie⟩ := plc_lt _ _ _ hi
    unfold tpS at he
    rw [hi, Option.getD_some] at he
    obtain ⟨_, _, _, h3, _⟩ := h.top_at hil
    have := h.id2_inj h3 htl he
    refine ⟨i, (h.bel_top ht).2 ⟨hil, this⟩, ?_⟩
    rw [idAt2_eq hil, hie]
    simpa using hid
  · rintro ⟨x, hx, hm⟩
    obtain ⟨hxl, hxt⟩ := (h.bel_top ht).1 hx
    have hm' : idAt2 l x ∈ ids := by simpa using hm
    refine ⟨_, hm', ?_⟩
    unfold tpS
    rw [idAt2_eq hxl, plc_self h.distinct x hxl, Option.getD_some, hxt]
/-- Tops whose id is in a set. -/
def selS (l : List Itm) (S : List Str) (ts : List Nat) : List Str := (ts.filter fun t => decide (idAt2 l t ∈ S)).flatMap fun t => belS l 4 t
theorem Right.sel_all {l : List Itm} (h : Right l) {ids : List Str} (hin : ∀ id ∈ ids, (plc l id).isSome = true) : selS l (ids.map (tpS l)) (topsI l) = whS l ids := by
  unfold selS whS
  congr 1
  refine List.filter_congr fun t ht => ?_
  rw [Bool.eq_iff_iff, decide_eq_true_eq]
  exact h.hit_iff hin ht
theorem selS_take {l : List Itm} {S : List Str} {ts : List Nat} {k : Nat} (h : k < ts.length) : selS l S (ts.take (k + 1)) = if idAt2 l ts[k] ∈ S then selS l S (ts.take k) ++ belS l 4 ts[k] else selS l S (ts.take k) := by
  unfold selS
  rw [List.take_succ_eq_append_getElem h, List.filter_append]
  by_cases hm : idAt2 l ts[k] ∈ S
  · rw [if_pos hm]
    simp [hm]
  · rw [if_neg hm]
    simp [hm]
/-- The reference: families that have one of the ids. -/
def hitF (ids : List Str) (p : Str × List Str) : Bool := p.2.any fun s => decide (s ∈ ids)
def selF (ids : List Str) (fs : List (Str × List Str)) : List Str := (fs.filter (hitF ids)).flatMap (·.2)
theorem selF_all (l : List Itm) (ids : List Str) : selF ids (famsS l) = whS l ids := by
  unfold selF whS famsS
  rw [List.filter_map, List.flatMap_map]
  congr 1
  refine List.filter_congr fun t _ => ?_
  simp [hitF, hitB, belS, List.any_map, Function.comp_def]
theorem selF_take {ids : List Str} {fs : List (Str × List Str)} {k : Nat} (h : k < fs.length) : selF ids (fs.take (k + 1)) = if hitF ids fs[k] = true then selF ids (fs.take k) ++ fs[k].2 else selF ids (fs.take k) := by
  unfold selF
  rw [List.take_succ_eq_append_getElem h, List.filter_append]
  by_cases hm : hitF ids fs[k] = true
  · rw [if_pos hm]
    simp [hm]
  · rw [if_neg hm]
    simp [hm]
/-- How long the lists get. -/
theorem flat_len_le {α : Type} (f : α → List Str) (p : α → Bool) : ∀ l : List α, ((l.filter p).flatMap f).length ≤ (l.flatMap f).length
  | [] => by simp
  | a :: l => by
    have := flat_len_le f p l
    rw [List.filter_cons]
    split <;> simp only [List.flatMap_cons, List.length_append] <;> omega
theorem Right.all_len {l : List Itm} (h : Right l) : ((topsI l).flatMap fun t => belS l 4 t).length = l.length := by
  have h1 := (all_perm h.loop h.end5).length_eq
  rw [List.length_range] at h1
  rw [← h1, allI]
  clear h1
  induction topsI l with
  | nil => rfl
  | cons t ts ih =>
    simp only [List.flatMap_cons, List.length_append, ih]
    simp [belS]
theorem take_flat_le {α : Type} (f : α → List Str) (l : List α) (k : Nat) : ((l.take k).flatMap f).length ≤ (l.flatMap f).length := by
  conv => rhs; rw [← List.take_append_drop k l]
  rw [List.flatMap_append, List.length_append]
  omega
theorem Right.selS_len {l : List Itm} (h : Right l) (S : List Str) (k : Nat) : (selS l S ((topsI l).take k)).length ≤ l.length := by
  have h1 := flat_len_le (fun t => belS l 4 t) (fun t => decide (idAt2 l t ∈ S)) ((topsI l).take k)
  have h2 := take_flat_le (fun t => belS l 4 t) (topsI l) k
  have h3 := h.all_len
  unfold selS
  omega
theorem Right.selF_len {l : List Itm} (h : Right l) (ids : List Str) (k : Nat) : (selF ids ((famsS l).take k)).length ≤ l.length := by
  have h1 := flat_len_le (fun p : Str × List Str => p.2) (hitF ids) ((famsS l).take k)
  have h2 := take_flat_le (fun p : Str × List Str => p.2) (famsS l) k
  have h3 := h.all_len
  have h4 : ((famsS l).flatMap fun p => p.2).length = ((topsI l).flatMap fun t => belS l 4 t).length := by
    unfold famsS
    rw [List.flatMap_map]
  unfold selF
  omega
theorem belS_ne (l : List Itm) (t : Nat) : belS l 4 t ≠ [] := by simp [belS, belI]

end Go.Proofs.YtglekmflcaacjaaGreatDoor

/- The top of an item: tree.top. -/
namespace Go.Proofs.YtglekmflcaacjaaGreatDoor
set_option linter.unusedVariables false
set_option linter.unusedSimpArgs false
open Go.RowKit

def StrPost (w : World) (s : Str) (e : Ending) (w' : World) : Prop := e = .returned (.string ⟨s.toArray⟩) ∧ Pure w w'
theorem TreeIs.par {w : World} {bi bk : Nat} {vt : Value} {l : List Itm} (h : TreeIs w bi bk vt l) (hR : Right l) {q : Nat} (hq : q < l.length) (hz : l[q].id.length ≤ 1000000) :
    (Instr.lookup 97 (.map (some bi)) (.string ⟨l[q].id.toArray⟩) false).run Tryz.prog w = .ok (itA l[q]) w := by
  have := h.items.lookup Tryz.underlying97 zero_item l[q].id hz
  unfold byF at this
  rw [fnd_plc (plc_self hR.distinct q hq) hq] at this
  exact this
def TpRel (w : World) (g0 : Nat) (bi bk : Nat) (At : Option Addr) (nt ct : Nat) (l : List Itm) (i gk : Nat) (x : Value) (wr : World) : Prop :=
  ∃ j q, 5 - j = gk ∧ j < 5 ∧ stp l j i = some q ∧ ∃ hq : q < l.length, x = .string ⟨l[q].id.toArray⟩ ∧ Blk wr g0 100 #[.map (some bi), .map (some bk), .slice At nt ct] ∧ Pure w wr

set_option maxRecDepth 100000 in
set_option maxHeartbeats 4000000 in
theorem top_calls (w : World) (l : List Itm) (hR : Right l) (hz : ∀ x ∈ l, ItB x) (bi bk : Nat) (At : Option Addr) (nt ct : Nat) (hT : TreeIs w bi bk (.slice At nt ct) l) (i : Nat) (hi : i < l.length) :
    Calls Tryz.prog 76 #[.agg #[.map (some bi), .map (some bk), .slice At nt ct], .string ⟨l[i].id.toArray⟩] w (StrPost w (idAt2 l (tpI l i))) := by
  have HLK : Hid (∀ W, Pure w W → ∀ q (hq : q < l.length), (Instr.lookup 97 (.map (some bi)) (.string ⟨l[q].id.toArray⟩) false).run Tryz.prog W = .ok (itA l[q]) W) :=
    Lib.hid (fun W h q hq => (hT.pure h).par hR hq (by have := (hz _ (List.getElem_mem hq)).1; omega))
  have HB := Lib.hid (Blk.new w 100 #[.map (some bi), .map (some bk), .slice At nt ct])
  have HP := Lib.hid (pure_alloc w (.cells #[.map (some bi), .map (some bk), .slice At nt ct] 100))
  have HR := Lib.hid hR
  have hfld : ∀ (a0 a1 a2 a3 a4 a5 a6 : Value) (W : World), Sem.run Tryz.prog (Instr.field 95 (.agg #[a0, a1, a2, a3, a4, a5, a6]) 5) W = .ok a5 W := fun _ _ _ _ _ _ _ _ => rfl
  clear hT hR hz
  go_enter Tryz.func76, Tryz.ntmps76
  go_wp2_with fail
  generalize w.heap.size = g0 at *
  generalize (w.alloc (.cells #[.map (some bi), .map (some bk), .slice At nt ct] 100)) = W at *
  go_loopg [1] 5 (fun gk x wr => TpRel w g0 bi bk At nt ct l i gk x wr)
  case atStart => exact ⟨0, i, by omega, by omega, rfl, hi, rfl, HB.out, HP.out⟩
  case round =>
    clear HB HP
    obtain ⟨j, q, rfl, hj, hst, hq, rfl, hB, hm⟩ := hrel
    have hlook := HLK.out wr hm q hq
    have HTOP := Lib.hid (HR.out.top_iff hq)
    have HST := Lib.hid hst
    unfold itA at hlook
    have t0 := hB.cell 0; have t1 := hB.cell 1; have t2 := hB.cell 2; simp at t0 t1 t2
    clear hst
    cases he : l[q].par.isEmpty
    · obtain ⟨k, hk⟩ : ∃ k, upI l q = some k := by
        cases hu : upI l q with
        | none =>
          rw [HTOP.out.1 hu] at he
          cases he
        | some k => exact ⟨k, rfl⟩
      have hkl := upI_lt hk
      have HKI := Lib.hid ((HR.out.kid_iff hkl hq).1 hk)
      have HS1 : Hid (stp l (j + 1) i = some k) := Lib.hid (by rw [stp_succ HST.out]; exact hk)
      have hj1 : j + 1 < 5 := by
        rcases Nat.lt_or_ge (j + 1) 5 with h | h
        · exact h
        · have : j = 4 := by omega
          subst this
          have h5 := HR.out.end5 i hi
          rw [HS1.out] at h5
          cases h5
      have HB := Lib.hid hB
      clear hk hB
      go_wp2_with fail
      go_roundg (5 - (j + 1))
      case measure => omega
      case rel => exact ⟨j + 1, k, rfl, hj1, HS1.out, hkl, by rw [HKI.out], HB.out, hm⟩
    · have hp : l[q].par = [] := by simpa using he
      have HRES : Hid (l[q].id = idAt2 l (tpI l i)) := Lib.hid (by rw [tpI_stp HR.out.loop j i q hi HST.out (HTOP.out.2 hp), idAt2_eq hq])
      clear hB hp
      go_wp2_with fail
      go_ret
      exact ⟨by rw [HRES.out]; rfl, hm⟩

end Go.Proofs.YtglekmflcaacjaaGreatDoor

/- Whole of package intake. -/
namespace Go.Proofs.YtglekmflcaacjaaGreatDoor
set_option linter.unusedVariables false
set_option linter.unusedSimpArgs false
open Go.RowKit

theorem zero_boolW (W : World) : (zeroValue 4).run Tryz.prog W = .ok (.bool false) W := by kernel_rfl
def whE (l : List Itm) (ids : List Str) : Int := if itsE itemE l ≠ 0 then itsE itemE l else if allIn l ids = true then 0 else 8
def WhPost (w : World) (l : List Itm) (ids : List Str) (e : Ending) (w' : World) : Prop :=
  ∃ v, e = .returned (.tuple #[v, .int .i64 (whE l ids)]) ∧ (whE l ids ≠ 0 → v = nilS) ∧ (whE l ids = 0 → Sl w' 9 1 v (strsV (whS l ids))) ∧ Pure w w'
def Wh1 (w : World) (bm g0 bi bk : Nat) (At : Option Addr) (nt ct : Nat) (l : List Itm) (ids : List Str) (gk : Nat) (i : Value) (wr : World) : Prop :=
  ∃ k : Nat, ids.length - k = gk ∧ k ≤ ids.length ∧ i = .int .i64 (k : Int) ∧ (∀ id ∈ ids.take k, (plc l id).isSome = true) ∧ SetS wr bm k ((ids.take k).map (tpS l)) ∧
    Blk wr g0 100 #[.map (some bi), .map (some bk), .slice At nt ct] ∧ Pure w wr
def Wh2 (w : World) (base bm m g0 bi bk : Nat) (At : Option Addr) (nt ct : Nat) (l : List Itm) (S : List Str) (gk : Nat) (x i : Value) (wr : World) : Prop :=
  ∃ (k : Nat) (out : List Str) (Ao : Option Addr) (cap : Nat), (topsI l).length - k = gk ∧ k ≤ (topsI l).length ∧ x = .slice Ao out.length cap ∧ i = .int .i64 (k : Int) ∧ out = selS l S ((topsI l).take k) ∧
    wr.ownsRow base 9 1 (.slice Ao out.length cap) out.length (strsV out) ∧ SetS wr bm m S ∧ Blk wr g0 100 #[.map (some bi), .map (some bk), .slice At nt ct] ∧ Pure w wr ∧ base ≤ wr.heap.size
theorem allIn_take {l : List Itm} {ids : List Str} {k : Nat} (hk : k < ids.length) (h : (plc l ids[k]).isSome = false) : allIn l ids = false := by
  unfold allIn
  rw [Bool.eq_false_iff]
  intro ha
  have := List.all_eq_true.1 ha _ (List.getElem_mem hk)
  rw [h] at this
  cases this
set_option maxRecDepth 100000 in
set_option maxHeartbeats 8000000 in
theorem whole_calls (w : World) (v vi : Value) (l : List Itm) (ids : List Str) (hv : Its w v l) (hz : ∀ x ∈ l, ItB x) (hl : l.length ≤ 2000) (hE : Env w) (hi : Sl w 9 1 vi (strsV ids)) (hib : ∀ s ∈ ids, s.length ≤ 30000) (hin : ids.length ≤ 1000) :
    Calls Tryz.prog 29 #[v, vi] w (WhPost w l ids) := by
  obtain ⟨i0, hi0, hz0, hz1, hz2⟩ := info_parts info_str7
  have HCH := Lib.hid (check_calls w v l hv hz hl hE)
  have HNT := Lib.hid (fun W (h : Pure w W) hd => newTree_calls W v l (hv.pure h) hz hd hl)
  have HRT := Lib.hid (fun h => right_of (E := itemE) (fun x hx => itemE_ne hx) (l := l) h)
  have HTP := Lib.hid (fun hR W bi bk At nt ct hT i hi => top_calls W l hR hz bi bk At nt ct hT i hi)
  have HBT := Lib.hid (fun hR bi bk At nt ct => belowT_calls l hR hz bi bk At nt ct 4)
  have HZ := Lib.hid hz
  have HIB := Lib.hid hib
  obtain ⟨A, n, c, rfl⟩ := Sl.form hv
  obtain ⟨Ai, ni, ci, rfl⟩ := hi.form
  have hni : ids.length = ni := hi.lenS
  subst hni
  have HI := Lib.hid hi
  obtain ⟨e1, he1⟩ : ∃ e1, itsE itemE l = e1 := ⟨_, rfl⟩
  rw [he1] at HCH
  have HE1 := Lib.hid he1
  have hmm := @run_makeMap Tryz.prog
  clear hv hz hE he1 hi hib
  go_enter Tryz.func29, Tryz.ntmps29
  go_wp2_with fail
  refine HCH.out.mono ?_
  rintro e w1 ⟨rfl, m1⟩
  clear HCH
  by_cases h0 : e1 = 0
  · subst h0
    have HR := Lib.hid (HRT.out HE1.out)
    have HDS := Lib.hid HR.out.distinct
    clear HRT
    go_wp2_with fail
    refine (HNT.out _ m1 HDS.out).mono ?_
    rintro e w2 ⟨bi, bk, vt, rfl, hT, m2⟩
    have m3 := m1.trans m2
    obtain ⟨At, nt, ct, rfl⟩ := hT.tops.form
    have hnt : (topsS l).length = nt := hT.tops.lenS
    rw [HR.out.topsS_eq, List.length_map] at hnt
    subst hnt
    have htl : (topsI l).length ≤ 2000 := by
      unfold topsI
      exact Nat.le_trans (List.length_filter_le _ _) (by simp; omega)
    have hHB := (Blk.new w2 100 #[.map (some bi), .map (some bk), .slice At (topsI l).length ct]).alloc (.map #[] 0)
    have hHS := SetS.made (w2.alloc (.cells #[.map (some bi), .map (some bk), .slice At (topsI l).length ct] 100))
    have hHP : Pure w2 ((w2.alloc (.cells #[.map (some bi), .map (some bk), .slice At (topsI l).length ct] 100)).alloc (.map #[] 0)) := (pure_alloc _ _).trans (pure_alloc _ _)
    rw [World.size_alloc] at hHS
    have HB0 := Lib.hid hHB
    have HS0 := Lib.hid hHS
    have HP0 := Lib.hid hHP
    have HM := Lib.hid m3
    have HLK : Hid (∀ W, Pure w2 W → ∀ s : Str, s.length ≤ 30000 → (Instr.lookup 97 (.map (some bi)) (.string ⟨s.toArray⟩) true).run Tryz.prog W = .ok (.tuple #[(byF l s).getD itZ, .bool (byF l s).isSome]) W) :=
      Lib.hid (fun W h s hs => (hT.pure h).items.look_ok Tryz.underlying97 zero_item s (by omega))
    have HTOP : Hid (∀ W, Pure w2 W → ∀ i (hi : i < l.length), _) := Lib.hid (fun W h i hi => HTP.out HR.out W bi bk At (topsI l).length ct (hT.pure h) i hi)
    have HBEL : Hid (∀ W, Pure w2 W → ∀ i (hi : i < l.length), _) := Lib.hid (fun W h i hi => HBT.out HR.out bi bk At (topsI l).length ct i hi (HR.out.short i) W (hT.pure h))
    have HIDS : Hid (∀ W, Pure w2 W → Sl W 9 1 (.slice Ai ids.length ci) (strsV ids)) := Lib.hid (fun W h => HI.out.pure (m3.trans h))
    have HTS : Hid (∀ W, Pure w2 W → Sl W 9 1 (.slice At (topsI l).length ct) (strsV (topsS l))) := Lib.hid (fun W h => hT.tops.pure h)
    clear HNT HTP HBT HI m1 m2 m3 hT hHB hHS hHP
    go_wp2_with fail
    clear hmm
    obtain ⟨g0, hg0⟩ : ∃ g0, g0 = w2.heap.size := ⟨_, rfl⟩
    have hg1 := Nat.le_of_eq hg0
    have hg2 := Nat.le_of_eq hg0.symm
    rw [← hg0] at HB0 HS0 ⊢
    clear hg0
    generalize ((w2.alloc (.cells #[.map (some bi), .map (some bk), .slice At (topsI l).length ct] 100)).alloc (.map #[] 0)) = W at *
    go_loopg [26] ids.length (fun gk i wr => Wh1 w2 (g0 + 1) g0 bi bk At (topsI l).length ct l ids gk i wr)
    case atStart => exact ⟨0, by omega, by omega, rfl, fun id h => absurd h (by simp), HS0.out, HB0.out, HP0.out⟩
    case round =>
      clear HB0 HS0 HP0 W
      obtain ⟨k, rfl, hk, rfl, hall, hset, hB, hm⟩ := hrel
      have HALL := Lib.hid hall
      clear hall
      by_cases hlt : k < ids.length
      · have S1 := HIDS.out wr hm
        obtain ⟨gi, oi, rfl, hrow⟩ := S1.rowS (by omega)
        have q1 := hrow.cell (strsV_get ids k hlt)
        have hidl := HIB.out _ (List.getElem_mem hlt)
        have hlook := HLK.out wr hm ids[k] hidl
        have HTK : Hid (ids.take (k + 1) = ids.take k ++ [ids[k]]) := Lib.hid (List.take_succ_eq_append_getElem hlt)
        clear S1 hrow
        cases hpl : plc l ids[k] with
        | none =>
          have HN : Hid (whE l ids = 8) := Lib.hid (by unfold whE; rw [if_neg (by rw [HE1.out]; simp), allIn_take hlt (by rw [hpl]; rfl)]; rfl)
          have hf : byF l ids[k] = none := by unfold byF; rw [fnd_none hpl]; rfl
          rw [hf] at hlook
          simp only [Option.getD_none, Option.isSome_none] at hlook
          unfold itZ at hlook
          have hm2 := Lib.hid (hm.alloc (.cells itZc 95))
          generalize ids[k] = id at *
          clear hset hm hpl hf HTK
          have t0 := hB.cell 0; have t1 := hB.cell 1; have t2 := hB.cell 2; simp at t0 t1 t2
          go_wp2_with fail
          refine bodyPost_ret (v := .tuple #[.slice none 0 0, .int .i64 8]) (by simp [results, Tryz.results29, go_sem]) rfl ?_
          refine ⟨_, by rw [HN.out], fun _ => rfl, fun h => ?_, HM.out.trans hm2.out⟩
          rw [HN.out] at h
          omega
        | some j =>
          obtain ⟨hj, hje⟩ := plc_lt _ _ _ hpl
          have hf : byF l ids[k] = some (itA l[j]) := by unfold byF; rw [fnd_plc hpl hj]; rfl
          rw [hf] at hlook
          simp only [Option.getD_some, Option.isSome_some] at hlook
          have HTS2 : Hid (tpS l ids[k] = idAt2 l (tpI l j)) := Lib.hid (by unfold tpS; rw [hpl]; rfl)
          have HSM : Hid ((plc l ids[k]).isSome = true) := Lib.hid (by rw [hpl]; rfl)
          have hB2 := hB.alloc (.cells (itQ l[j]) 95)
          have hm2 := hm.alloc (.cells (itQ l[j]) 95)
          have hset2 := SetS.pure hset (pure_alloc wr (.cells (itQ l[j]) 95))
          have HC := HTOP.out _ hm2 j hj
          rw [hje] at HC
          have HC := Lib.hid HC
          clear hje
          have HB2 := Lib.hid hB2
          have HM2 := Lib.hid hm2
          have HS2 := Lib.hid hset2
          have hgl : g0 < wr.heap.size := hB.lt
          clear hset hm hpl hf hB2 hm2 hset2
          generalize ids[k] = id at *
          generalize l[j] = x at *
          unfold itA at hlook
          unfold itQ at HC HB2 HM2 HS2
          have hB2 := HB2.out
          have t0 := hB.cell 0; have t1 := hB.cell 1; have t2 := hB.cell 2; simp at t0 t1 t2
          have s0 := hB2.cell 0; have s1 := hB2.cell 1; have s2 := hB2.cell 2; simp at s0 s1 s2
          clear hB hB2
          go_wp2_with fail
          refine HC.out.mono ?_
          rintro e w3 ⟨rfl, m3⟩
          have hB3 := HB2.out.mod m3 _root_.id
          have hm3 := HM2.out.trans m3
          have hset3 := SetS.pure HS2.out m3
          have htb : (idAt2 l (tpI l j)).length ≤ 1000000 := by
            unfold idAt2
            cases hx : l[tpI l j]? with
            | none => simp
            | some y => exact Nat.le_trans (HZ.out y (List.mem_of_getElem? hx)).1 (by omega)
          rw [← HTS2.out] at htb ⊢
          obtain ⟨w4, hrun, hset4, hm4⟩ := hset3.add Tryz.underlying110 (by omega) (tpS l id) htb
          have hm5 := Lib.hid (hm3.trans' hm4 (fun i hi hl => by omega))
          have hB4 := Lib.hid (hB3.mod hm4 (by omega))
          have HS4 := Lib.hid hset4
          clear hB3 hm3 hset3 hset4 hm4 HC HB2 HM2 HS2 t0 t1 t2 s0 s1 s2 hlook m3
          go_wp2_with fail
          go_roundg (ids.length - (k + 1))
          case measure => omega
          case rel =>
            refine ⟨k + 1, rfl, by omega, by simp, ?_, ?_, hB4.out, hm5.out⟩
            · intro s hs
              rw [HTK.out] at hs
              rcases List.mem_append.1 hs with hs | hs
              · exact HALL.out s hs
              · rw [List.mem_singleton.1 hs]
                exact HSM.out
            · rw [HTK.out, List.map_append]
              exact HS4.out
      · obtain rfl : k = ids.length := by omega
        rw [List.take_length] at hset
        have HAL : Hid (∀ id ∈ ids, (plc l id).isSome = true) := Lib.hid (fun id h => HALL.out id (by rw [List.take_length]; exact h))
        have HW0 : Hid (whE l ids = 0) := Lib.hid (by unfold whE; rw [if_neg (by rw [HE1.out]; simp), if_pos (show allIn l ids = true from List.all_eq_true.2 HAL.out)])
        have HS1 := Lib.hid hset
        have HB1 := Lib.hid hB
        have HM1 := Lib.hid hm
        have t0 := hB.cell 0; have t1 := hB.cell 1; have t2 := hB.cell 2; simp at t0 t1 t2
        clear HALL hset hB hm
        obtain ⟨base, hba⟩ : ∃ base, base = wr.heap.size := ⟨_, rfl⟩
        have hb1 := Nat.le_of_eq hba
        have hb2 := Nat.le_of_eq hba.symm
        have hgl : g0 + 1 < wr.heap.size := HS1.out.lt
        have hws := HM1.out.size
        clear hba
        go_wp2_with fail
        clear t0 t1 t2
        go_loopg [13, 47] (topsI l).length (fun gk x i wr => Wh2 w2 base (g0 + 1) ids.length g0 bi bk At (topsI l).length ct l (ids.map (tpS l)) gk x i wr)
        case atStart => exact ⟨0, [], none, 0, by omega, by omega, rfl, rfl, by simp [selS], ⟨rfl, .inl ⟨rfl, rfl⟩⟩, HS1.out, HB1.out, HM1.out, hb1⟩
        case round =>
          clear HS1 HB1 HM1
          obtain ⟨k, out, Ao, cap, rfl, hk, rfl, rfl, hout, hown, hset, hB, hm, hsz⟩ := hrel
          by_cases hlt : k < (topsI l).length
          · have S1 := HTS.out wr hm
            have hkl : k < (topsS l).length := by rw [HR.out.topsS_eq, List.length_map]; exact hlt
            obtain ⟨gr, off, rfl, hrow⟩ := S1.rowS (by omega)
            have q1 := hrow.cell (strsV_get (topsS l) k hkl)
            have hte : (topsS l)[k] = idAt2 l (topsI l)[k] := by
              have := HR.out.topsS_eq
              simp only [this, List.getElem_map]
            rw [hte] at q1
            have htk : (topsI l)[k] < l.length := (mem_topsI.1 (List.getElem_mem hlt)).1
            have htb : (idAt2 l (topsI l)[k]).length ≤ 1000000 := by
              rw [idAt2_eq htk]
              have := (HZ.out _ (List.getElem_mem htk)).1
              omega
            have hhas := hset.has Tryz.underlying110 zero_boolW (idAt2 l (topsI l)[k]) htb
            have hcb := HBEL.out wr hm _ htk
            rw [← idAt2_eq htk] at hcb
            have HCB := Lib.hid hcb
            have HSL := Lib.hid (selS_take (l := l) (S := ids.map (tpS l)) hlt)
            have HLEN := Lib.hid (HR.out.selS_len (ids.map (tpS l)) (k + 1))
            have hbl : 0 < (belS l 4 (topsI l)[k]).length := List.length_pos_iff.2 (belS_ne _ _)
            obtain ⟨bd, hbd⟩ : ∃ bd, decide (idAt2 l (topsI l)[k] ∈ ids.map (tpS l)) = bd := ⟨_, rfl⟩
            rw [hbd] at hhas
            have HBD := Lib.hid hbd
            have HOUT := Lib.hid hout
            clear hrow hte htk hkl hbd hout S1 htb hcb
            generalize idAt2 l (topsI l)[k] = tid at *
            generalize belS l 4 (topsI l)[k] = bs at *
            cases bd
            · have HN : Hid (selS l (ids.map (tpS l)) ((topsI l).take (k + 1)) = out) := Lib.hid (by rw [HSL.out, if_neg (of_decide_eq_false HBD.out), HOUT.out])
              have HS2 := Lib.hid hset
              have HB2 := Lib.hid hB
              have HM2 := Lib.hid hm
              have HO2 := Lib.hid hown
              clear hset hm hown HSL HLEN HOUT HBD HCB hB
              go_wp2_with fail
              go_roundg ((topsI l).length - (k + 1))
              case measure => omega
              case rel => exact ⟨k + 1, out, Ao, cap, rfl, by omega, rfl, by simp, HN.out.symm, HO2.out, HS2.out, HB2.out, HM2.out, hsz⟩
            · have HN : Hid (selS l (ids.map (tpS l)) ((topsI l).take (k + 1)) = out ++ bs) := Lib.hid (by rw [HSL.out, if_pos (of_decide_eq_true HBD.out), HOUT.out])
              have hol : out.length + bs.length ≤ 2000 := by
                have h1 := HLEN.out
                rw [HN.out, List.length_append] at h1
                omega
              clear HSL HLEN HOUT HBD
              have t0 := hB.cell 0; have t1 := hB.cell 1; have t2 := hB.cell 2; simp at t0 t1 t2
              go_wp2_with fail
              refine HCB.out.mono ?_
              rintro e w3 ⟨v2, rfl, own2, m2⟩
              obtain ⟨g2, c2, rfl, hg2a, hg2b, hc2, hc22⟩ := own_form own2 hbl
              have hnews := World.ownsRow.cells own2 (g := g2) rfl
              have hownA := own_pure hown m2
              have HB3 := Lib.hid (hB.mod m2 _root_.id)
              have HM3 := Lib.hid (hm.trans m2)
              have HS3 := Lib.hid (SetS.pure hset m2)
              have hob := own_block hownA
              have HOB := Lib.hid hob
              have hzz := m2.size
              have hsl2 : (strsV bs).length = bs.length * 1 := by rw [strsV_len]; omega
              have hone := strsV_one bs
              have hgl3 : g0 + 1 < w3.heap.size := by omega
              clear t0 t1 t2 q1 hown hB hm HCB own2 m2 hob hset hhas
              go_wp2_with (at_builtin; (refine wpList_append_own_at _ rfl _ _ _ rfl base 9 i0 _ 1 16 Tryz.underlying29 hi0 hz0 hz1 hz2 rfl (by omega) (.slice Ao out.length cap) out.length _ rfl hownA ⟨g2, 0, none⟩ bs.length _ _ rfl hsl2 hnews hone (by simp [maxLen]; omega) (by omega) (by omega) ?_); intro v5 w5 hown5 hgrow hnil hat; obtain ⟨A5, n5, c5, rfl⟩ := (Sl.of_own hown5).form; clear hnil)
              have hm5 := grown_mod (v := .slice Ao out.length cap) hgrow
              have hn5 : n5 = (out ++ bs).length := by
                rcases hown5.2 with ⟨h, h0⟩ | ⟨g, cap', cur, h, _⟩
                · injection h with _ h1 _
                  simp
                  omega
                · injection h with _ h1 _
                  simp
                  omega
              subst hn5
              go_roundg ((topsI l).length - (k + 1))
              case measure => omega
              case rel =>
                refine ⟨k + 1, out ++ bs, A5, c5, rfl, by omega, rfl, by simp, HN.out.symm, ?_, SetS.mod HS3.out hm5 (fun h => by have := HOB.out _ h; omega), HB3.out.mod hm5 (fun h => by have := HOB.out _ h; omega), HM3.out.trans' hm5 (fun i hi hl => by have := HOB.out _ hi; omega), by have := hgrow.size; omega⟩
                have e1 : strsV (out ++ bs) = strsV out ++ strsV bs := by simp [strsV]
                have e2 : (out ++ bs).length = out.length + bs.length := by simp
                rw [e1, e2]
                rw [e2] at hown5
                exact hown5
          · obtain rfl : k = (topsI l).length := by omega
            rw [List.take_length] at hout
            have HOUT : Hid (out = whS l ids) := Lib.hid (by rw [hout, HR.out.sel_all HAL.out])
            have HOW := Lib.hid (Sl.of_own hown)
            have HM2 := Lib.hid hm
            clear hown hout hm hset hB
            go_wp2_with fail
            refine bodyPost_ret (v := .tuple #[.slice Ao out.length cap, .int .i64 0]) (by simp [results, Tryz.results29, go_sem]) rfl ?_
            refine ⟨_, by rw [HW0.out], fun h => absurd HW0.out h, fun _ => ?_, HM.out.trans HM2.out⟩
            rw [← HOUT.out]
            exact HOW.out
  · have h0' : (e1 != 0) = true := by simpa using h0
    have H0 := Lib.hid h0
    have HW : Hid (whE l ids = e1) := Lib.hid (by unfold whE; rw [if_pos (by rw [HE1.out]; exact h0), HE1.out])
    clear HNT HRT HBT HTP h0
    go_wp2_with fail
    refine bodyPost_ret (v := .tuple #[.slice none 0 0, .int .i64 e1]) (by simp [results, Tryz.results29, go_sem]) rfl ?_
    exact ⟨_, by rw [HW.out], fun _ => rfl, fun h => absurd (HW.out.symm.trans h) H0.out, m1⟩

end Go.Proofs.YtglekmflcaacjaaGreatDoor

/- Equal families. -/
namespace Go.Proofs.YtglekmflcaacjaaGreatDoor
set_option linter.unusedVariables false
set_option linter.unusedSimpArgs false
open Go.RowKit

set_option maxRecDepth 100000 in
set_option maxHeartbeats 2000000 in
theorem sameFam_calls (w : World) (a : Str) (v1 v2 : Value) (xs : List Str) (h1 : Sl w 9 1 v1 (strsV xs)) (h2 : Sl w 9 1 v2 (strsV xs)) :
    Calls Tryz.prog 27 #[.agg #[.string ⟨a.toArray⟩, v1], .agg #[.string ⟨a.toArray⟩, v2]] w (BoolPost w true) := by
  have h1' := h1.pure ((pure_alloc w (.cells #[.string ⟨a.toArray⟩, v1] 53)).trans (pure_alloc _ (.cells #[.string ⟨a.toArray⟩, v2] 53)))
  have h2' := h2.pure ((pure_alloc w (.cells #[.string ⟨a.toArray⟩, v1] 53)).trans (pure_alloc _ (.cells #[.string ⟨a.toArray⟩, v2] 53)))
  have HE := Lib.hid (equalS_calls _ v1 v2 xs h1' h2')
  have hm : Pure w ((w.alloc (.cells #[.string ⟨a.toArray⟩, v1] 53)).alloc (.cells #[.string ⟨a.toArray⟩, v2] 53)) := (pure_alloc _ _).trans (pure_alloc _ _)
  have HM := Lib.hid hm
  obtain ⟨A1, n1, c1, rfl⟩ := h1.form
  obtain ⟨A2, n2, c2, rfl⟩ := h2.form
  have hse : (a == a) = true := by simp
  clear h1 h2 h1' h2' hm
  go_enter Tryz.func27, Tryz.ntmps27
  go_wp2_with fail
  refine HE.out.mono ?_
  rintro e w1 ⟨rfl, m1⟩
  go_wp2_with fail
  go_ret
  exact BoolPost.of rfl (HM.out.trans m1)

theorem FmR.at {w : World} {A : Option Addr} {n c : Nat} {xs : List Fm} (h : FmR w (.slice A n c) xs) {k : Nat} (hk : k < xs.length) :
    ∃ g off B m d, A = some ⟨g, off, none⟩ ∧ w.cell? ⟨g, off + k * 2, none⟩ = some (.string ⟨xs[k].1.toArray⟩) ∧ w.cell? ⟨g, off + k * 2 + 1, none⟩ = some (.slice B m d) ∧ xs[k].2.1 = .slice B m d ∧ Sl w 9 1 (.slice B m d) (strsV xs[k].2.2) := by
  have hs := h.2 _ (List.getElem_mem hk)
  obtain ⟨B, m, d, hu⟩ := hs.form
  obtain ⟨A', n', c', hf, _, _, hl, hr⟩ := h.1
  injection hf with e1 e2 e3
  subst e1 e2 e3
  rw [fmV_len] at hl
  obtain ⟨g, off, rfl, hrow⟩ := hr (by omega)
  obtain ⟨g1, g2⟩ := fmV_get xs k hk
  refine ⟨g, off, B, m, d, rfl, hrow.cell g1, ?_, hu, by rw [← hu]; exact hs⟩
  have := hrow.cell g2
  rw [hu] at this
  exact this
theorem FmR.len {w : World} {A : Option Addr} {n c : Nat} {xs : List Fm} (h : FmR w (.slice A n c) xs) : xs.length = n ∧ n ≤ 9223372036854775807 := by
  obtain ⟨A', n', c', hf, h4, h5, hl, _⟩ := h.1
  injection hf with e1 e2 e3
  rw [fmV_len] at hl
  omega
theorem fmS_at {xs ys : List Fm} (h : fmS xs = fmS ys) : xs.length = ys.length ∧ ∀ k (h1 : k < xs.length) (h2 : k < ys.length), xs[k].1 = ys[k].1 ∧ xs[k].2.2 = ys[k].2.2 := by
  have hl : xs.length = ys.length := by simpa [fmS] using congrArg List.length h
  refine ⟨hl, fun k h1 h2 => ?_⟩
  have := congrArg (fun l => l[k]?) h
  simpa [fmS, h1, h2] using this

set_option maxRecDepth 100000 in
set_option maxHeartbeats 2000000 in
theorem equalFam_calls (w : World) (v1 v2 : Value) (xs ys : List Fm) (h1 : FmR w v1 xs) (h2 : FmR w v2 ys) (hxy : fmS xs = fmS ys) :
    Calls Tryz.prog 25 #[v1, v2, .func (.func 27) #[] #[]] w (BoolPost w true) := by
  obtain ⟨A1, n1, c1, rfl⟩ := h1.1.form
  obtain ⟨A2, n2, c2, rfl⟩ := h2.1.form
  obtain ⟨hn1, hb1⟩ := h1.len
  obtain ⟨hn2, hb2⟩ := h2.len
  obtain ⟨hl, HX⟩ := fmS_at hxy
  have HX := Lib.hid HX
  subst hn1
  have hl2 : n2 = xs.length := by omega
  subst hl2
  have H1 := Lib.hid h1
  have H2 := Lib.hid h2
  have hly := Nat.le_of_eq hl
  have hne : ((xs.length : Int) != (xs.length : Int)) = false := by simp
  have hcf : ∀ (x y : Value) (W : World), Sem.run Tryz.prog (callFunc 27 #[x, y]) W = .ok (.enter 27 #[x, y]) W := fun _ _ _ => rfl
  clear h1 h2 hn2 hl hxy
  go_enter Tryz.func25, Tryz.ntmps25
  go_wp2_with fail
  go_loopg [17] xs.length (fun gk i wr => ∃ k : Nat, xs.length - k = gk ∧ k ≤ xs.length ∧ i = .int .i64 (k : Int) ∧ Pure w wr)
  case atStart => exact ⟨0, by omega, by omega, rfl, Mod.refl _ _⟩
  case round =>
    obtain ⟨k, rfl, hk, rfl, hm⟩ := hrel
    by_cases hlt : k < xs.length
    · have hky : k < ys.length := by omega
      obtain ⟨g1, o1, B1, m1, d1, rfl, q1, q1', _, s1⟩ := (H1.out.pure hm).at hlt
      obtain ⟨g2, o2, B2, m2, d2, rfl, q2, q2', _, s2⟩ := (H2.out.pure hm).at hky
      obtain ⟨e1, e2⟩ := HX.out k hlt hky
      rw [← e1] at q2
      rw [← e2] at s2
      clear e1 e2
      generalize xs[k].1 = a at *
      generalize xs[k].2.2 = bs at *
      have hp : Pure wr ((wr.alloc (.cells #[.string ⟨a.toArray⟩, .slice B1 m1 d1] 53)).alloc (.cells #[.string ⟨a.toArray⟩, .slice B2 m2 d2] 53)) := (pure_alloc _ _).trans (pure_alloc _ _)
      have HS := Lib.hid (sameFam_calls _ a _ _ _ (s1.pure hp) (s2.pure hp))
      have hM := Lib.hid (hm.trans hp)
      have i1 : (0 : Int) ≤ (k : Int) := by omega
      have i2 : (k : Int) < (xs.length : Int) := by omega
      have q3 := cell_alloc q2 (.cells #[.string ⟨a.toArray⟩, .slice B1 m1 d1] 53)
      have q4 := cell_alloc q2' (.cells #[.string ⟨a.toArray⟩, .slice B1 m1 d1] 53)
      clear s1 s2 hp hm q2 q2'
      go_wp2_with fail
      refine HS.out.mono ?_
      rintro e w1 ⟨rfl, hm1⟩
      go_wp2_with fail
      go_roundg (xs.length - (k + 1))
      case measure => omega
      case rel => exact ⟨k + 1, rfl, by omega, by simp, hM.out.trans hm1⟩
    · have hke : k = xs.length := by omega
      subst hke
      go_wp2_with fail
      go_ret
      exact BoolPost.of rfl hm

end Go.Proofs.YtglekmflcaacjaaGreatDoor
