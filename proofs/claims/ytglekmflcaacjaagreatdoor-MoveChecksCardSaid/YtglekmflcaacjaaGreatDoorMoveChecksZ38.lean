/- Texts of the proof of MoveChecks, put together: FamD, WhoP, WhoT, PlcA, PlcB, SamF. -/
import Derived.Test.YtglekmflcaacjaaGreatDoorMoveChecksZ12
import Derived.Test.YtglekmflcaacjaaGreatDoorMoveChecksZ25
import Derived.Test.YtglekmflcaacjaaGreatDoorMoveChecksZ37
import Derived.Deep.AppendLies
import Derived.Deep.DeepCutAuto
import Derived.Deep.CutBlock
/- Families of package intake. -/
namespace Go.Proofs.YtglekmflcaacjaaGreatDoor
set_option linter.unusedVariables false
set_option linter.unusedSimpArgs false
open Go.RowKit

/-- A family in memory: its top, the slice of its items, their ids. -/
abbrev Fm := Str × Value × List Str
def fmV (xs : List Fm) : List Value := xs.flatMap fun p => [.string ⟨p.1.toArray⟩, p.2.1]
theorem fmV_len : ∀ xs : List Fm, (fmV xs).length = xs.length * 2
  | [] => rfl
  | x :: xs => by
    have := fmV_len xs
    simp only [fmV, List.flatMap_cons, List.length_append, List.length_cons, List.length_nil] at *
    omega
theorem fmV_get : ∀ (xs : List Fm) (i : Nat) (h : i < xs.length), (fmV xs)[i * 2]? = some (.string ⟨xs[i].1.toArray⟩) ∧ (fmV xs)[i * 2 + 1]? = some xs[i].2.1
  | [], i, h => absurd h (by simp)
  | x :: xs, 0, h => by simp [fmV]
  | x :: xs, i + 1, h => by
    have := fmV_get xs i (by simpa using h)
    have e : (i + 1) * 2 = i * 2 + 1 + 1 := by omega
    simp only [fmV, List.flatMap_cons, List.cons_append, List.nil_append, e, List.getElem?_cons_succ, List.getElem_cons_succ]
    exact this
theorem fmV_snoc (xs : List Fm) (p : Fm) : fmV (xs ++ [p]) = fmV xs ++ [.string ⟨p.1.toArray⟩, p.2.1] := by simp [fmV]
/-- What families say. -/
def fmS (xs : List Fm) : List (Str × List Str) := xs.map fun p => (p.1, p.2.2)
def FmR (w : World) (v : Value) (xs : List Fm) : Prop := Sl w 53 2 v (fmV xs) ∧ ∀ p ∈ xs, Sl w 9 1 p.2.1 (strsV p.2.2)
theorem FmR.pure {w w' : World} {v : Value} {xs : List Fm} (h : FmR w v xs) (hm : Pure w w') : FmR w' v xs := ⟨h.1.pure hm, fun p hp => (h.2 p hp).pure hm⟩
def famsS (l : List Itm) : List (Str × List Str) := (topsI l).map fun t => (idAt2 l t, belS l 4 t)
theorem info_fam : (Tryz.prog.info? 53).map (fun i => (i.zero, i.size, i.bytes)) = some (some (.agg #[.string ⟨#[]⟩, .slice none 0 0]), 2, 40) := by kernel_rfl
def FamPost (w : World) (l : List Itm) (e : Ending) (w' : World) : Prop :=
  ∃ v, e = .returned (.tuple #[v, .int .i64 (itsE itemE l)]) ∧ (itsE itemE l ≠ 0 → v = nilS) ∧ (itsE itemE l = 0 → ∃ fs, FmR w' v fs ∧ fmS fs = famsS l) ∧ Pure w w'
def FaRel (w : World) (base g0 bi bk : Nat) (At : Option Addr) (nt ct : Nat) (l : List Itm) (gk : Nat) (x i : Value) (wr : World) : Prop :=
  ∃ (k : Nat) (fs : List Fm) (Ao : Option Addr) (cap : Nat), (topsI l).length - k = gk ∧ k ≤ (topsI l).length ∧ x = .slice Ao k cap ∧ i = .int .i64 (k : Int) ∧ fs.length = k ∧ fmS fs = (famsS l).take k ∧
    wr.ownsRow base 53 2 (.slice Ao k cap) k (fmV fs) ∧ (∀ p ∈ fs, Sl wr 9 1 p.2.1 (strsV p.2.2)) ∧ Blk wr g0 100 #[.map (some bi), .map (some bk), .slice At nt ct] ∧ TreeIs wr bi bk (.slice At nt ct) l ∧ Pure w wr ∧ base ≤ wr.heap.size
theorem TreeIs.grown {w w' : World} {bi bk : Nat} {vt v : Value} {xs : List Itm} {base size n : Nat} {ys : List Value} (h : TreeIs w bi bk vt xs) (hb : bi < base) (hb2 : bk < base) (hown : w.ownsRow base 53 size v n ys) (hg : w.grownBy w' v.ownBlock) : TreeIs w' bi bk vt xs := by
  obtain ⟨n, V, h1, h2⟩ := h.kids
  have hm := grown_mod hg
  have hne : ∀ k, v.ownBlock = some k → base ≤ k := own_block hown
  exact ⟨h.items.mod hm (fun hh => by have := hne _ hh; omega), ⟨n, V, h1.mod hm (fun hh => by have := hne _ hh; omega), fun p => (h2 p).grown hown hg (by decide)⟩, h.tops.grown hown hg (by decide)⟩
theorem itemE_ne {x : Itm} (h : itemE x = 0) : x.id ≠ [] := fun e => by have := itemE_id h; rw [e] at this; cases this

set_option maxRecDepth 100000 in
set_option maxHeartbeats 8000000 in
theorem families_calls (w : World) (v : Value) (l : List Itm) (hv : Its w v l) (hz : ∀ x ∈ l, ItB x) (hl : l.length ≤ 2000) (hE : Env w) : Calls Tryz.prog 23 #[v] w (FamPost w l) := by
  obtain ⟨i0, hi0, hz0, hz1, hz2⟩ := info_parts info_fam
  have HCH := Lib.hid (check_calls w v l hv hz hl hE)
  have HNT := Lib.hid (fun W (h : Pure w W) hd => newTree_calls W v l (hv.pure h) hz hd hl)
  have HRT := Lib.hid (fun h => right_of (E := itemE) (fun x hx => itemE_ne hx) (l := l) h)
  have HBT := Lib.hid (fun hR bi bk At nt ct => belowT_calls l hR hz bi bk At nt ct 4)
  obtain ⟨A, n, c, rfl⟩ := Sl.form hv
  have HE := Lib.hid (rfl : itsE itemE l = itsE itemE l)
  obtain ⟨e1, he1⟩ : ∃ e1, itsE itemE l = e1 := ⟨_, rfl⟩
  rw [he1] at HCH
  have HE1 := Lib.hid he1
  clear hv hz hE HE he1
  go_enter Tryz.func23, Tryz.ntmps23
  go_wp2_with fail
  refine HCH.out.mono ?_
  rintro e w1 ⟨rfl, m1⟩
  clear HCH
  by_cases h0 : e1 = 0
  · subst h0
    have hR := HRT.out HE1.out
    have HR := Lib.hid hR
    have hds := hR.distinct
    have HDS := Lib.hid hds
    clear hR hds HRT
    go_wp2_with fail
    refine (HNT.out _ m1 HDS.out).mono ?_
    rintro e w2 ⟨bi, bk, vt, rfl, hT, m2⟩
    have m3 := m1.trans m2
    obtain ⟨At, nt, ct, rfl⟩ := hT.tops.form
    have hbil := hT.items.lt
    have hws := m3.size
    have hbkl : bk < w2.heap.size := by
      obtain ⟨_, _, h1, _⟩ := hT.kids
      exact h1.lt
    have hnt : (topsS l).length = nt := hT.tops.lenS
    rw [HR.out.topsS_eq, List.length_map] at hnt
    subst hnt
    have hB0 := Blk.new w2 100 #[.map (some bi), .map (some bk), .slice At (topsI l).length ct]
    have hT0 := hT.pure (pure_alloc w2 (.cells #[.map (some bi), .map (some bk), .slice At (topsI l).length ct] 100))
    have hm0 := m3.alloc (.cells #[.map (some bi), .map (some bk), .slice At (topsI l).length ct] 100)
    have hsz : (w2.alloc (.cells #[.map (some bi), .map (some bk), .slice At (topsI l).length ct] 100)).heap.size = w2.heap.size + 1 := by simp
    have hsz1 := Nat.le_of_eq hsz
    have hsz2 := Nat.le_of_eq hsz.symm
    have HB0 := Lib.hid hB0
    have HT0 := Lib.hid hT0
    have Hm0 := Lib.hid hm0
    have htl : (topsI l).length ≤ 2000 := by
      unfold topsI
      exact Nat.le_trans (List.length_filter_le _ _) (by simp; omega)
    clear HNT m1 m2 m3 hT hB0 hT0 hm0 hsz
    go_wp2_with fail
    obtain ⟨g0, hg0⟩ : ∃ g0, g0 = w2.heap.size := ⟨_, rfl⟩
    obtain ⟨base, hba⟩ : ∃ base, base = w2.heap.size + 1 := ⟨_, rfl⟩
    have hg1 := Nat.le_of_eq hg0
    have hg2 := Nat.le_of_eq hg0.symm
    have hb1 := Nat.le_of_eq hba
    have hb2 := Nat.le_of_eq hba.symm
    rw [← hg0] at HB0 ⊢
    clear hg0 hba
    generalize (w2.alloc (.cells #[.map (some bi), .map (some bk), .slice At (topsI l).length ct] 100)) = W at *
    have hmz := Hm0.out.size
    go_loopg [6, 19] (topsI l).length (fun gk xv i wr => FaRel w base g0 bi bk At (topsI l).length ct l gk xv i wr)
    case atStart => exact ⟨0, [], none, 0, by omega, by omega, rfl, rfl, rfl, by simp [fmS], ⟨rfl, .inl ⟨rfl, rfl⟩⟩, fun p hp => absurd hp (by simp), HB0.out, HT0.out, Hm0.out, by omega⟩
    case round =>
      clear HB0 HT0 Hm0 hmz hsz1 hsz2
      obtain ⟨k, fs, Ao, cap, rfl, hk, rfl, rfl, hfl, hfs, hown, hsl, hB, hT, hm, hsz⟩ := hrel
      by_cases hlt : k < (topsI l).length
      · have hkl : k < (topsS l).length := by rw [HR.out.topsS_eq, List.length_map]; exact hlt
        obtain ⟨gr, off, rfl, hrow⟩ := hT.tops.rowS (by omega)
        have q1 := hrow.cell (strsV_get (topsS l) k hkl)
        have hte : (topsS l)[k] = idAt2 l (topsI l)[k] := by
          have := HR.out.topsS_eq
          simp only [this, List.getElem_map]
        rw [hte] at q1
        have htk : (topsI l)[k] < l.length := (mem_topsI.1 (List.getElem_mem hlt)).1
        have hbt := HBT.out HR.out bi bk (some ⟨gr, off, none⟩) (topsI l).length ct _ htk (HR.out.short _) wr hT
        rw [← idAt2_eq htk] at hbt
        have HBC := Lib.hid hbt
        have hft : (famsS l).take (k + 1) = (famsS l).take k ++ [(idAt2 l (topsI l)[k], belS l 4 (topsI l)[k])] := by
          have hkf : k < (famsS l).length := by unfold famsS; rw [List.length_map]; exact hlt
          rw [List.take_succ_eq_append_getElem hkf]
          congr 2
          simp [famsS]
        have HFT := Lib.hid hft
        have HFS := Lib.hid hfs
        have HSL := Lib.hid hsl
        have HTT := Lib.hid hT
        clear hrow hte htk hbt hft hfs hsl hT hkl
        generalize idAt2 l (topsI l)[k] = tid at *
        generalize belS l 4 (topsI l)[k] = bs at *
        have t0 := hB.cell 0; have t1 := hB.cell 1; have t2 := hB.cell 2; simp at t0 t1 t2
        go_wp2_with fail
        refine HBC.out.mono ?_
        rintro e w3 ⟨v3, rfl, own3, m3⟩
        have hS3 := Sl.of_own own3
        obtain ⟨Ai, ni, ci, rfl⟩ := hS3.form
        have hownA := own_pure hown m3
        have hB3 := hB.mod m3 id
        have hm3 := hm.trans m3
        have hT3 := HTT.out.pure m3
        have hob := own_block hownA
        have HOB := Lib.hid hob
        have hzz := m3.size
        have HSL3 := Lib.hid (fun p hp => (HSL.out p hp).pure m3)
        have HS3 := Lib.hid hS3
        have HB3 := Lib.hid hB3
        have HT3 := Lib.hid hT3
        have HM3 := Lib.hid hm3
        clear t0 t1 t2 q1 hown hB hm HBC own3 m3 hob hB3 hT3 HTT HSL hS3
        go_wp2_with (at_builtin; refine wpList_append_lies _ rfl _ _ _ rfl base 53 i0 _ 2 40 Tryz.underlying47 hi0 hz0 hz1 hz2 rfl (by omega) (.slice Ao k cap) k (fmV fs) rfl (hownA.alloc _) ⟨w3.heap.size, 0, none⟩ 1 1 [.string ⟨tid.toArray⟩, .slice Ai ni ci] rfl rfl (World.news_of_block (cs := #[.string ⟨tid.toArray⟩, .slice Ai ni ci]) (t := 53) (fr := (0, 0)) (heap_alloc_new w3 _)) (by simp [Value.oneCell']) (by omega) (by simp [maxLen]; omega) (by omega) (by have := hm3.size; simp; omega) (w3.heap.size + 1) (by simp) ?_; intro g5 cap5 w5 hown5 hgrow hat hlt5)
        have hz5 := hgrow.size
        simp at hz5
        have hg3 := hownA.alloc (.cells #[.string ⟨tid.toArray⟩, .slice Ai ni ci] 53)
        have pA := pure_alloc w3 (.cells #[.string ⟨tid.toArray⟩, .slice Ai ni ci] 53)
        go_roundg ((topsI l).length - (k + 1))
        case measure => omega
        case rel =>
          refine ⟨k + 1, fs ++ [(tid, .slice Ai ni ci, bs)], some ⟨g5, 0, none⟩, cap5, rfl, by omega, rfl, by simp, by simp [hfl], ?_, ?_, ?_, ?_, ?_, (HM3.out.alloc _).grown hgrow (fun k hk => .inr (by have := HOB.out k hk; omega)), by omega⟩
          · rw [HFT.out, ← HFS.out]
            simp [fmS]
          · rw [fmV_snoc]
            exact hown5
          · intro p hp
            rcases List.mem_append.1 hp with hp | hp
            · exact ((HSL3.out p hp).pure pA).grown hg3 hgrow (by decide)
            · rw [List.mem_singleton.1 hp]
              exact (HS3.out.pure pA).grown hg3 hgrow (by decide)
          · exact (HB3.out.mod pA id).mod (grown_mod hgrow) (fun h => by have := HOB.out _ h; omega)
          · exact (HT3.out.pure pA).grown (by omega) (by omega) hg3 hgrow
      · obtain rfl : k = (topsI l).length := by omega
        have hft : fmS fs = famsS l := by
          rw [hfs, List.take_of_length_le]
          unfold famsS
          rw [List.length_map]
          exact Nat.le_refl _
        have HFT := Lib.hid hft
        have HSL := Lib.hid hsl
        have HOW := Lib.hid (Sl.of_own hown)
        clear hft hsl hown hfs hB hT
        go_wp2_with fail
        refine bodyPost_ret (v := .tuple #[.slice Ao (topsI l).length cap, .int .i64 0]) (by simp [results, Tryz.results23, go_sem]) rfl ?_
        exact ⟨_, by rw [HE1.out], fun h => absurd HE1.out h, fun _ => ⟨fs, ⟨HOW.out, HSL.out⟩, HFT.out⟩, hm⟩
  · have h0' : (e1 != 0) = true := by simpa using h0
    have H0 := Lib.hid h0
    clear HNT HRT HBT h0
    go_wp2_with fail
    refine bodyPost_ret (v := .tuple #[.slice none 0 0, .int .i64 e1]) (by simp [results, Tryz.results23, go_sem]) rfl ?_
    exact ⟨_, by rw [HE1.out], fun _ => rfl, fun h => absurd (HE1.out.symm.trans h) H0.out, m1⟩

end Go.Proofs.YtglekmflcaacjaaGreatDoor

/- Whole: the tops of items, the families that are hit. -/
namespace Go.Proofs.YtglekmflcaacjaaGreatDoor
set_option linter.unusedVariables false
set_option linter.unusedSimpArgs false
open Go.RowKit

/-- The top above item i. -/
def tpI (l : List Itm) (i : Nat) : Nat := (wayI l i).head?.getD i
theorem tpI_top {l : List Itm} {i : Nat} (h : upI l i = none) : tpI l i = i := by simp [tpI, wayI_top h]
theorem wayI_ne (l : List Itm) (i : Nat) : wayI l i ≠ [] := by simp [wayI]
theorem tpI_kid {l : List Itm} (hno : ∀ i, i < l.length → lpB l i = false) {i k : Nat} (hk : k < l.length) (h : upI l k = some i) : tpI l k = tpI l i := by
  unfold tpI
  rw [wayI_kid hno hk h]
  cases hw : wayI l i with
  | nil => exact absurd hw (wayI_ne l i)
  | cons a t => rfl
theorem tpI_stp {l : List Itm} (hno : ∀ i, i < l.length → lpB l i = false) : ∀ (j i q : Nat), i < l.length → stp l j i = some q → upI l q = none → tpI l i = q
  | 0, i, q, _, h, hq => by
    simp [stp] at h
    subst h
    exact tpI_top hq
  | j + 1, i, q, hi, h, hq => by
    cases hu : upI l i with
    | none => simp [stp, hu] at h
    | some p =>
      rw [stp, hu] at h
      rw [tpI_kid hno hi hu]
      exact tpI_stp hno j p q (upI_lt hu) h hq
theorem Right.top_at {l : List Itm} (h : Right l) {x : Nat} (hx : x < l.length) : ∃ m, m < 5 ∧ stp l m x = some (tpI l x) ∧ tpI l x < l.length ∧ upI l (tpI l x) = none := by
  obtain ⟨m, i, h1, h2, h3, h4⟩ := top_of 5 x hx (h.end5 x hx)
  rw [tpI_stp h.loop m x i hx h3 h4]
  exact ⟨m, h1, h3, h2, h4⟩
theorem Right.tpI_mem {l : List Itm} (h : Right l) {x : Nat} (hx : x < l.length) : tpI l x ∈ topsI l := by
  obtain ⟨m, _, _, h3, h4⟩ := h.top_at hx
  exact mem_topsI.2 ⟨h3, h4⟩
theorem Right.bel_top {l : List Itm} (h : Right l) {t x : Nat} (ht : t ∈ topsI l) : x ∈ belI l 4 t ↔ x < l.length ∧ tpI l x = t := by
  obtain ⟨h1, h2⟩ := mem_topsI.1 ht
  constructor
  · intro hx
    refine ⟨bel_lt 4 t x h1 hx, ?_⟩
    obtain ⟨r, hr⟩ := bel_way h.loop 4 t x hx
    unfold tpI
    rw [hr, wayI_top h2]
    rfl
  · rintro ⟨hx, rfl⟩
    obtain ⟨m, h3, h4, _, _⟩ := h.top_at hx
    exact bel_has m 4 _ x (by omega) hx h4

/-- The family of top t has one of the ids. -/
def hitB (l : List Itm) (ids : List Str) (t : Nat) : Bool := (belI l 4 t).any fun x => decide (idAt2 l x ∈ ids)
/-- The items of the families that are hit. -/
def whS (l : List Itm) (ids : List Str) : List Str := ((topsI l).filter (hitB l ids)).flatMap fun t => belS l 4 t
/-- The top of an id. -/
def tpS (l : List Itm) (id : Str) : Str := idAt2 l (tpI l ((plc l id).getD 0))
def allIn (l : List Itm) (ids : List Str) : Bool := ids.all fun id => (plc l id).isSome
theorem Right.id2_inj {l : List Itm} (h : Right l) {i k : Nat} (hi : i < l.length) (hk : k < l.length) (he : idAt2 l i = idAt2 l k) : i = k := by
  rw [idAt2_eq hi, idAt2_eq hk] at he
  exact id_inj h.distinct hi hk he
theorem Right.hit_iff {l : List Itm} (h : Right l) {ids : List Str} (hin : ∀ id ∈ ids, (plc l id).isSome = true) {t : Nat} (ht : t ∈ topsI l) : idAt2 l t ∈ ids.map (tpS l) ↔ hitB l ids t = true := by
  have htl := (mem_topsI.1 ht).1
  unfold hitB
  rw [List.any_eq_true, List.mem_map]
  constructor
  · rintro ⟨id, hid, he⟩
    obtain ⟨i, hi⟩ := Option.isSome_iff_exists.1 (hin id hid)
    obtain ⟨hil, hie⟩ := plc_lt _ _ _ hi
    unfold tpS at he
    rw [hi, Option.getD_some] at he
    obtain ⟨_, _, _, h3, _⟩ := h.top_at hil
    have := h.id2_inj h3 htl he
    refine ⟨i, (h.bel_top ht).2 ⟨hil, this⟩, ?_⟩
    rw [idAt2_eq hil, hie]
    simpa using hid
  · rintro ⟨x, hx, hm⟩
    obtain ⟨hxl, hxt⟩ := (h.bel_top ht).1 hx
    have hm' : idAt2 l x ∈ ids := by simpa using hm
    refine ⟨_, hm', ?_⟩
    unfold tpS
    rw [idAt2_eq hxl, plc_self h.distinct x hxl, Option.getD_some, hxt]
/-- Tops whose id is in a set. -/
def selS (l : List Itm) (S : List Str) (ts : List Nat) : List Str := (ts.filter fun t => decide (idAt2 l t ∈ S)).flatMap fun t => belS l 4 t
theorem Right.sel_all {l : List Itm} (h : Right l) {ids : List Str} (hin : ∀ id ∈ ids, (plc l id).isSome = true) : selS l (ids.map (tpS l)) (topsI l) = whS l ids := by
  unfold selS whS
  congr 1
  refine List.filter_congr fun t ht => ?_
  rw [Bool.eq_iff_iff, decide_eq_true_eq]
  exact h.hit_iff hin ht
theorem selS_take {l : List Itm} {S : List Str} {ts : List Nat} {k : Nat} (h : k < ts.length) : selS l S (ts.take (k + 1)) = if idAt2 l ts[k] ∈ S then selS l S (ts.take k) ++ belS l 4 ts[k] else selS l S (ts.take k) := by
  unfold selS
  rw [List.take_succ_eq_append_getElem h, List.filter_append]
  by_cases hm : idAt2 l ts[k] ∈ S
  · rw [if_pos hm]
    simp [hm]
  · rw [if_neg hm]
    simp [hm]
/-- The reference: families that have one of the ids. -/
def hitF (ids : List Str) (p : Str × List Str) : Bool := p.2.any fun s => decide (s ∈ ids)
def selF (ids : List Str) (fs : List (Str × List Str)) : List Str := (fs.filter (hitF ids)).flatMap (·.2)
theorem selF_all (l : List Itm) (ids : List Str) : selF ids (famsS l) = whS l ids := by
  unfold selF whS famsS
  rw [List.filter_map, List.flatMap_map]
  congr 1
  refine List.filter_congr fun t _ => ?_
  simp [hitF, hitB, belS, List.any_map, Function.comp_def]
theorem selF_take {ids : List Str} {fs : List (Str × List Str)} {k : Nat} (h : k < fs.length) : selF ids (fs.take (k + 1)) = if hitF ids fs[k] = true then selF ids (fs.take k) ++ fs[k].2 else selF ids (fs.take k) := by
  unfold selF
  rw [List.take_succ_eq_append_getElem h, List.filter_append]
  by_cases hm : hitF ids fs[k] = true
  · rw [if_pos hm]
    simp [hm]
  · rw [if_neg hm]
    simp [hm]
/-- How long the lists get. -/
theorem flat_len_le {α : Type} (f : α → List Str) (p : α → Bool) : ∀ l : List α, ((l.filter p).flatMap f).length ≤ (l.flatMap f).length
  | [] => by simp
  | a :: l => by
    have := flat_len_le f p l
    rw [List.filter_cons]
    split <;> simp only [List.flatMap_cons, List.length_append] <;> omega
theorem Right.all_len {l : List Itm} (h : Right l) : ((topsI l).flatMap fun t => belS l 4 t).length = l.length := by
  have h1 := (all_perm h.loop h.end5).length_eq
  rw [List.length_range] at h1
  rw [← h1, allI]
  clear h1
  induction topsI l with
  | nil => rfl
  | cons t ts ih =>
    simp only [List.flatMap_cons, List.length_append, ih]
    simp [belS]
theorem take_flat_le {α : Type} (f : α → List Str) (l : List α) (k : Nat) : ((l.take k).flatMap f).length ≤ (l.flatMap f).length := by
  conv => rhs; rw [← List.take_append_drop k l]
  rw [List.flatMap_append, List.length_append]
  omega
theorem Right.selS_len {l : List Itm} (h : Right l) (S : List Str) (k : Nat) : (selS l S ((topsI l).take k)).length ≤ l.length := by
  have h1 := flat_len_le (fun t => belS l 4 t) (fun t => decide (idAt2 l t ∈ S)) ((topsI l).take k)
  have h2 := take_flat_le (fun t => belS l 4 t) (topsI l) k
  have h3 := h.all_len
  unfold selS
  omega
theorem Right.selF_len {l : List Itm} (h : Right l) (ids : List Str) (k : Nat) : (selF ids ((famsS l).take k)).length ≤ l.length := by
  have h1 := flat_len_le (fun p : Str × List Str => p.2) (hitF ids) ((famsS l).take k)
  have h2 := take_flat_le (fun p : Str × List Str => p.2) (famsS l) k
  have h3 := h.all_len
  have h4 : ((famsS l).flatMap fun p => p.2).length = ((topsI l).flatMap fun t => belS l 4 t).length := by
    unfold famsS
    rw [List.flatMap_map]
  unfold selF
  omega
theorem belS_ne (l : List Itm) (t : Nat) : belS l 4 t ≠ [] := by simp [belS, belI]

end Go.Proofs.YtglekmflcaacjaaGreatDoor

/- The top of an item: tree.top. -/
namespace Go.Proofs.YtglekmflcaacjaaGreatDoor
set_option linter.unusedVariables false
set_option linter.unusedSimpArgs false
open Go.RowKit

def StrPost (w : World) (s : Str) (e : Ending) (w' : World) : Prop := e = .returned (.string ⟨s.toArray⟩) ∧ Pure w w'
theorem TreeIs.par {w : World} {bi bk : Nat} {vt : Value} {l : List Itm} (h : TreeIs w bi bk vt l) (hR : Right l) {q : Nat} (hq : q < l.length) (hz : l[q].id.length ≤ 1000000) :
    (Instr.lookup 97 (.map (some bi)) (.string ⟨l[q].id.toArray⟩) false).run Tryz.prog w = .ok (itA l[q]) w := by
  have := h.items.lookup Tryz.underlying97 zero_item l[q].id hz
  unfold byF at this
  rw [fnd_plc (plc_self hR.distinct q hq) hq] at this
  exact this
def TpRel (w : World) (g0 : Nat) (bi bk : Nat) (At : Option Addr) (nt ct : Nat) (l : List Itm) (i gk : Nat) (x : Value) (wr : World) : Prop :=
  ∃ j q, 5 - j = gk ∧ j < 5 ∧ stp l j i = some q ∧ ∃ hq : q < l.length, x = .string ⟨l[q].id.toArray⟩ ∧ Blk wr g0 100 #[.map (some bi), .map (some bk), .slice At nt ct] ∧ Pure w wr

set_option maxRecDepth 100000 in
set_option maxHeartbeats 4000000 in
theorem top_calls (w : World) (l : List Itm) (hR : Right l) (hz : ∀ x ∈ l, ItB x) (bi bk : Nat) (At : Option Addr) (nt ct : Nat) (hT : TreeIs w bi bk (.slice At nt ct) l) (i : Nat) (hi : i < l.length) :
    Calls Tryz.prog 76 #[.agg #[.map (some bi), .map (some bk), .slice At nt ct], .string ⟨l[i].id.toArray⟩] w (StrPost w (idAt2 l (tpI l i))) := by
  have HLK : Hid (∀ W, Pure w W → ∀ q (hq : q < l.length), (Instr.lookup 97 (.map (some bi)) (.string ⟨l[q].id.toArray⟩) false).run Tryz.prog W = .ok (itA l[q]) W) :=
    Lib.hid (fun W h q hq => (hT.pure h).par hR hq (by have := (hz _ (List.getElem_mem hq)).1; omega))
  have HB := Lib.hid (Blk.new w 100 #[.map (some bi), .map (some bk), .slice At nt ct])
  have HP := Lib.hid (pure_alloc w (.cells #[.map (some bi), .map (some bk), .slice At nt ct] 100))
  have HR := Lib.hid hR
  have hfld : ∀ (a0 a1 a2 a3 a4 a5 a6 : Value) (W : World), Sem.run Tryz.prog (Instr.field 95 (.agg #[a0, a1, a2, a3, a4, a5, a6]) 5) W = .ok a5 W := fun _ _ _ _ _ _ _ _ => rfl
  clear hT hR hz
  go_enter Tryz.func76, Tryz.ntmps76
  go_wp2_with fail
  generalize w.heap.size = g0 at *
  generalize (w.alloc (.cells #[.map (some bi), .map (some bk), .slice At nt ct] 100)) = W at *
  go_loopg [1] 5 (fun gk x wr => TpRel w g0 bi bk At nt ct l i gk x wr)
  case atStart => exact ⟨0, i, by omega, by omega, rfl, hi, rfl, HB.out, HP.out⟩
  case round =>
    clear HB HP
    obtain ⟨j, q, rfl, hj, hst, hq, rfl, hB, hm⟩ := hrel
    have hlook := HLK.out wr hm q hq
    have HTOP := Lib.hid (HR.out.top_iff hq)
    have HST := Lib.hid hst
    unfold itA at hlook
    have t0 := hB.cell 0; have t1 := hB.cell 1; have t2 := hB.cell 2; simp at t0 t1 t2
    clear hst
    cases he : l[q].par.isEmpty
    · obtain ⟨k, hk⟩ : ∃ k, upI l q = some k := by
        cases hu : upI l q with
        | none =>
          rw [HTOP.out.1 hu] at he
          cases he
        | some k => exact ⟨k, rfl⟩
      have hkl := upI_lt hk
      have HKI := Lib.hid ((HR.out.kid_iff hkl hq).1 hk)
      have HS1 : Hid (stp l (j + 1) i = some k) := Lib.hid (by rw [stp_succ HST.out]; exact hk)
      have hj1 : j + 1 < 5 := by
        rcases Nat.lt_or_ge (j + 1) 5 with h | h
        · exact h
        · have : j = 4 := by omega
          subst this
          have h5 := HR.out.end5 i hi
          rw [HS1.out] at h5
          cases h5
      have HB := Lib.hid hB
      clear hk hB
      go_wp2_with fail
      go_roundg (5 - (j + 1))
      case measure => omega
      case rel => exact ⟨j + 1, k, rfl, hj1, HS1.out, hkl, by rw [HKI.out], HB.out, hm⟩
    · have hp : l[q].par = [] := by simpa using he
      have HRES : Hid (l[q].id = idAt2 l (tpI l i)) := Lib.hid (by rw [tpI_stp HR.out.loop j i q hi HST.out (HTOP.out.2 hp), idAt2_eq hq])
      clear hB hp
      go_wp2_with fail
      go_ret
      exact ⟨by rw [HRES.out]; rfl, hm⟩

end Go.Proofs.YtglekmflcaacjaaGreatDoor

/- found, FamilyOf, Children, Depth of package intake. -/
namespace Go.Proofs.YtglekmflcaacjaaGreatDoor
set_option linter.unusedVariables false
set_option linter.unusedSimpArgs false
open Go.RowKit

def fndE (l : List Itm) (id : Str) : Int := if itsE itemE l ≠ 0 then itsE itemE l else if (plc l id).isSome = true then 0 else 8
def FoundPost (w : World) (l : List Itm) (id : Str) (e : Ending) (w' : World) : Prop :=
  ∃ (m0 m1 : Option Nat) (At : Option Addr) (nt ct : Nat), e = .returned (.tuple #[.agg #[.map m0, .map m1, .slice At nt ct], .int .i64 (fndE l id)]) ∧ (itsE itemE l = 0 → ∃ bi bk, m0 = some bi ∧ m1 = some bk ∧ TreeIs w' bi bk (.slice At nt ct) l) ∧ (itsE itemE l ≠ 0 → m0 = none ∧ m1 = none) ∧ Pure w w'
def FdNew (w : World) (g4 bi bk : Nat) (At : Option Addr) (nt ct : Nat) : Prop := Blk w g4 100 #[.map (some bi), .map (some bk), .slice At nt ct]
theorem FdNew.pure {w w' : World} {g4 bi bk : Nat} {At : Option Addr} {nt ct : Nat} (h : FdNew w g4 bi bk At nt ct) (hm : Pure w w') : FdNew w' g4 bi bk At nt ct := Blk.mod h hm id
theorem MapS.neB {w : World} {b n : Nat} {f : Str → Option Value} {g : Nat} {t : TypeId} {cs : Array Value} (h : MapS w b n f) (hB : Blk w g t cs) : b ≠ g := by
  rintro rfl
  obtain ⟨D, ⟨es, clock, hh, _⟩, _⟩ := h
  unfold Blk at hB
  rw [hh] at hB
  cases hB
theorem TreeIs.farB {w w' : World} {bi bk : Nat} {vt : Value} {xs : List Itm} {g : Nat} {t : TypeId} {cs : Array Value} (h : TreeIs w bi bk vt xs) (hB : Blk w g t cs) (ht : 9 ≠ t) (hm : Mod (· = g) w w') : TreeIs w' bi bk vt xs := by
  obtain ⟨n, V, k1, k2⟩ := h.kids
  have hr : ∀ g' arr fr, w.heap[g']? = some (.cells arr 9 fr) → ¬ (g' = g) := by
    rintro g' arr fr hg rfl
    unfold Blk at hB
    rw [hg] at hB
    injection hB with hB
    injection hB with _ h2
    exact ht h2
  exact ⟨h.items.mod hm (h.items.s.neB hB), ⟨n, V, k1.mod hm (k1.neB hB), fun p => (k2 p).mod hm hr⟩, h.tops.mod hm hr⟩
theorem Mod.set3 (w : World) (g : Nat) (x y z : Value) : Mod (· = g) w (((w.setCell ⟨g, 0, none⟩ x).setCell ⟨g, 1, none⟩ y).setCell ⟨g, 2, none⟩ z) :=
  Mod.setCell (S := fun j => j = g) (p := ⟨g, 2, none⟩) (Mod.setCell (S := fun j => j = g) (p := ⟨g, 1, none⟩) (Mod.setCell (S := fun j => j = g) (p := ⟨g, 0, none⟩) (Mod.refl _ _) (.inl rfl) _) (.inl rfl) _) (.inl rfl) _

set_option maxRecDepth 100000 in
set_option maxHeartbeats 8000000 in
theorem found_calls (w : World) (v : Value) (l : List Itm) (id : Str) (hv : Its w v l) (hz : ∀ x ∈ l, ItB x) (hl : l.length ≤ 2000) (hE : Env w) (hid : id.length ≤ 30000) : Calls Tryz.prog 81 #[v, .string ⟨id.toArray⟩] w (FoundPost w l id) := by
  have hp := pure_alloc w (.cells #[.map none, .map none, .slice none 0 0] 100)
  have HCH := Lib.hid (check_calls _ v l (hv.pure hp) hz hl (hE.pure hp))
  have HNT := Lib.hid (fun W (h : Pure w W) hd => newTree_calls W v l (hv.pure h) hz hd hl)
  have HRT := Lib.hid (fun h => right_of (E := itemE) (fun x hx => itemE_ne hx) (l := l) h)
  have HB := Lib.hid (Blk.new w 100 #[.map none, .map none, .slice none 0 0])
  have HP := Lib.hid hp
  obtain ⟨A, n, c, rfl⟩ := Sl.form hv
  obtain ⟨e1, he1⟩ : ∃ e1, itsE itemE l = e1 := ⟨_, rfl⟩
  rw [he1] at HCH
  have HE1 := Lib.hid he1
  clear hv hz hE he1 hp
  go_enter Tryz.func81, Tryz.ntmps81
  go_wp2_with fail
  obtain ⟨g4, hg4⟩ : ∃ g4, g4 = w.heap.size := ⟨_, rfl⟩
  have hg1 := Nat.le_of_eq hg4
  have hg2 := Nat.le_of_eq hg4.symm
  rw [← hg4] at HB ⊢
  clear hg4
  generalize (w.alloc (.cells #[.map none, .map none, .slice none 0 0] 100)) = W at *
  refine HCH.out.mono ?_
  rintro e w1 ⟨rfl, m1⟩
  have hB1 := HB.out.mod m1 _root_.id
  have hm1 := HP.out.trans m1
  clear HCH HB HP m1
  by_cases h0 : e1 = 0
  · subst h0
    have HR := Lib.hid (HRT.out HE1.out)
    have HDS := Lib.hid HR.out.distinct
    have HB1 := Lib.hid hB1
    have HM1 := Lib.hid hm1
    clear HRT hB1 hm1
    go_wp2_with fail
    refine (HNT.out _ HM1.out HDS.out).mono ?_
    rintro e w2 ⟨bi, bk, vt, rfl, hT, m2⟩
    have m3 := HM1.out.trans m2
    have hB2 := HB1.out.mod m2 _root_.id
    obtain ⟨At, nt, ct, rfl⟩ := hT.tops.form
    have hlook := (hT.pure (pure_alloc w2 (.cells #[.map (some bi), .map (some bk), .slice At nt ct] 100))).items.look_ok Tryz.underlying97 zero_item id (by omega)
    have hT2 := hT.pure (pure_alloc w2 (.cells #[.map (some bi), .map (some bk), .slice At nt ct] 100))
    have hB3 := hB2.alloc (.cells #[.map (some bi), .map (some bk), .slice At nt ct] 100)
    have m4 := m3.alloc (.cells #[.map (some bi), .map (some bk), .slice At nt ct] 100)
    have hB7 := Blk.new w2 100 #[.map (some bi), .map (some bk), .slice At nt ct]
    obtain ⟨bd, hbd⟩ : ∃ bd, (plc l id).isSome = bd := ⟨_, rfl⟩
    obtain ⟨iv, hiv⟩ : ∃ iv : Itm, (byF l id).getD itZ = itA iv := by
      unfold byF
      cases fnd l id with
      | none => exact ⟨⟨[], [], 0, [], 0, [], []⟩, rfl⟩
      | some x => exact ⟨x, rfl⟩
    have hbs : (byF l id).isSome = bd := by
      unfold byF
      rw [Option.isSome_map, fnd_isSome, hbd]
    rw [hiv, hbs] at hlook
    have HFE : Hid (fndE l id = if bd = true then 0 else 8) := Lib.hid (by unfold fndE; rw [if_neg (by rw [HE1.out]; simp), hbd])
    obtain ⟨er, her⟩ : ∃ er : Int, (if bd = true then 0 else 8) = er := ⟨_, rfl⟩
    rw [her] at HFE
    have HWH : Hid (∀ W, Calls Tryz.prog 49 #[.bool (!bd), .int .i64 8] W fun r w' => r = .returned (.int .i64 er) ∧ W = w') := Lib.hid (fun W => by
      subst her
      cases bd
      · exact when_t 8 W
      · exact when_f 8 W)
    have h7l : g4 < w2.heap.size := hB2.lt
    have HT2 := Lib.hid (hT2.pure (pure_alloc _ (.cells (itQ iv) 95)))
    have HB3 := Lib.hid (hB3.alloc (.cells (itQ iv) 95))
    have HM4 := Lib.hid (m4.alloc (.cells (itQ iv) 95))
    have HB7 := Lib.hid (hB7.alloc (.cells (itQ iv) 95))
    have hlt8 : ((w2.alloc (.cells #[.map (some bi), .map (some bk), .slice At nt ct] 100)).alloc (.cells (itQ iv) 95)).heap.size = w2.heap.size + 1 + 1 := by simp
    have hlt8' := Nat.le_of_eq hlt8.symm
    unfold itA at hlook
    unfold itQ at HT2 HB3 HM4 HB7 hlt8'
    clear HNT HM1 HB1 m2 m3 hB2 hT hT2 hB3 m4 hB7 hbd hiv hbs her hlt8
    go_wp2_with fail
    clear hlook
    generalize ((w2.alloc (.cells #[.map (some bi), .map (some bk), .slice At nt ct] 100)).alloc (.cells #[.string ⟨iv.id.toArray⟩, .string ⟨iv.cust.toArray⟩, .int .i64 iv.kind, .string ⟨iv.name.toArray⟩, .int .i64 iv.tm, .string ⟨iv.par.toArray⟩, .string ⟨iv.text.toArray⟩] 95)) = w4 at *
    generalize w2.heap.size = g7 at *
    have HGs := Lib.hid (show ∀ (D : Nat → Bool) (zzi : Nat) (zq zq' : World), zzi ≠ 4 → (fun D zq => (D 4 = false → (fun Z => Blk Z g4 100 #[.map none, .map none, .slice none 0 0]) zq) ∧ (fun Z => Blk Z g7 100 #[.map (some bi), .map (some bk), .slice At nt ct] ∧ TreeIs Z bi bk (.slice At nt ct) l) zq) D zq → Mod (fun _ => False) zq zq' → (fun D zq => (D 4 = false → (fun Z => Blk Z g4 100 #[.map none, .map none, .slice none 0 0]) zq) ∧ (fun Z => Blk Z g7 100 #[.map (some bi), .map (some bk), .slice At nt ct] ∧ TreeIs Z bi bk (.slice At nt ct) l) zq) (upd D zzi true) zq' from by intro D zzi zq zq' hi hh hm; refine ⟨fun hs => ?_, ?_⟩; (rw [upd_ne _ _ (Ne.symm hi)] at hs; have h := hh.1 hs; (exact h.modp hm)); (have h := hh.2; (exact ⟨h.1.modp hm, h.2.pure hm⟩)))
    refine wp_region_inv (by kernel_rfl) (by kernel_rfl) (InvF (R := Mod (fun _ => False)) [.is (.agg #[.map (some bi), .map (some bk), .slice At nt ct]),
        .is (.bool bd),
        .is (.bool (!bd)),
        .is (.int .i64 er),
        ⟨fun zv zw => zv = undef ∧ FdNew zw g4 bi bk At nt ct, (by rintro zv zw zx ⟨rfl, q0⟩ hm; exact ⟨rfl, (q0.pure hm)⟩), none, none⟩,
        .is (.int .i64 er)]
        (PB w (fun _ => False) w4.heap.size (fun D zq => (D 4 = false → (fun Z => Blk Z g4 100 #[.map none, .map none, .slice none 0 0]) zq) ∧ (fun Z => Blk Z g7 100 #[.map (some bi), .map (some bk), .slice At nt ct] ∧ TreeIs Z bi bk (.slice At nt ct) l) zq))) (InvF.start (PB.start HM4.out (Nat.le_refl _) (⟨fun _ => HB3.out.drew, ⟨HB7.out.drew, HT2.out.pure ((Mod.refl _ _).drew)⟩⟩))) ?_ ?_
    · refine .cons ?_ (.cons ?_ (.cons ?_ (.cons ?_ (.cons ?_ (.cons ?_ .nil)))))
      · intro D V zw1 a hR hI K hK   -- 0: Op.load 100 (Operand.tmp 7)
        obtain ⟨hM1, hB1, hG1⟩ := hI.1
        obtain ⟨hGK, hG1⟩ := hG1
        obtain ⟨hG1a, hG1b⟩ := hG1
        have ze7 := hR.frame.other (t := 7) (by kernel_rfl) rfl
        have zx0 := hG1a.cell 0; have zx1 := hG1a.cell 1; have zx2 := hG1a.cell 2
        simp at zx0 zx1 zx2
        rw [if_pos (by rfl)]
        go_simp
        exact hK (.agg #[.map (some bi), .map (some bk), .slice At nt ct]) _ (hI.next hR (by kernel_rfl) (Mod.refl _ _) (PB.quiet hI.1 (Mod.refl _ _) (HGs.out D 0 zw1 zw1 (by omega) (hI.1).g (Mod.refl _ _))) (upd_same V 0 _))
      · intro D V zw1 a hR hI K hK   -- 1: Op.move (Operand.tmp 9)
        obtain ⟨hM1, hB1, hG1⟩ := hI.1
        obtain ⟨hGK, hG1⟩ := hG1
        obtain ⟨hG1a, hG1b⟩ := hG1
        have ze9 := hR.frame.other (t := 9) (by kernel_rfl) rfl
        rw [if_pos (by rfl)]
        go_simp
        exact hK (.bool bd) _ (hI.next hR (by kernel_rfl) (Mod.refl _ _) (PB.quiet hI.1 (Mod.refl _ _) (HGs.out D 1 zw1 zw1 (by omega) (hI.1).g (Mod.refl _ _))) (upd_same V 1 _))
      · intro D V zw1 a hR hI K hK   -- 2: Op.unOp UnOp.not 4 (Operand.tmp 26)
        obtain ⟨hM1, hB1, hG1⟩ := hI.1
        obtain ⟨hGK, hG1⟩ := hG1
        obtain ⟨hG1a, hG1b⟩ := hG1
        have zd1 := hR.pred 1 (by kernel_rfl)
        have zF1 : V 1 = .bool bd := hI.2 1 zd1 rfl
        have zf1 := zF1; clear zF1
        have ze26 := hR.frame.done (t := 26) (j := 1) (by kernel_rfl) hR.ok zd1
        rw [if_pos (by rfl)]
        go_simp
        exact hK (.bool (!bd)) _ (hI.next hR (by kernel_rfl) (Mod.refl _ _) (PB.quiet hI.1 (Mod.refl _ _) (HGs.out D 2 zw1 zw1 (by omega) (hI.1).g (Mod.refl _ _))) (upd_same V 2 _))
      · intro D V zw1 a hR hI K hK   -- 3: Op.call { callee := Callee.value (Operand.func 49), args := #[Operand.
        obtain ⟨hM1, hB1, hG1⟩ := hI.1
        obtain ⟨hGK, hG1⟩ := hG1
        obtain ⟨hG1a, hG1b⟩ := hG1
        have zd2 := hR.pred 2 (by kernel_rfl)
        have zF2 : V 2 = .bool (!bd) := hI.2 2 zd2 rfl
        have zf2 := zF2; clear zF2
        have ze27 := hR.frame.done (t := 27) (j := 2) (by kernel_rfl) hR.ok zd2
        rw [if_pos (by rfl)]
        go_simp
        refine (HWH.out _).mono ?_
        rintro e zw2 ⟨rfl, rfl⟩
        have hm2 : Pure zw1 zw1 := Mod.refl _ _
        exact hK (.int .i64 er) _ (hI.next hR (by kernel_rfl) hm2 (PB.quiet hI.1 hm2 (HGs.out D 3 _ _ (by omega) (hI.1).g hm2)) (upd_same V 3 _))
      · intro D V zw1 a hR hI K hK   -- 4: Op.store 100 (Operand.tmp 4) (Operand.tmp 25)
        obtain ⟨hM1, hB1, hG1⟩ := hI.1
        obtain ⟨hGK, hG1⟩ := hG1
        obtain ⟨hG1a, hG1b⟩ := hG1
        have zd0 := hR.pred 0 (by kernel_rfl)
        have zF0 : V 0 = .agg #[.map (some bi), .map (some bk), .slice At nt ct] := hI.2 0 zd0 rfl
        have zf0 := zF0; clear zF0
        have ze4 := hR.frame.other (t := 4) (by kernel_rfl) rfl
        have ze25 := hR.frame.done (t := 25) (j := 0) (by kernel_rfl) hR.ok zd0
        rw [if_pos (by rfl)]
        have hZ := hGK hR.not
        have zx0 := hZ.cell 0; have zx1 := hZ.cell 1; have zx2 := hZ.cell 2
        have zy0 := hZ.frozen 0; have zy1 := hZ.frozen 1; have zy2 := hZ.frozen 2
        simp at zx0 zx1 zx2
        go_simp
        have hTT := TreeIs.farB hG1b hZ (by decide) (Mod.set3 zw1 g4 (.map (some bi)) (.map (some bk)) (.slice At nt ct))
        refine hK undef _ (InvF.last ⟨((hM1.setCell (.inr (by show _ ≤ g4; omega)) _).setCell (.inr (by show _ ≤ g4; omega)) _).setCell (.inr (by show _ ≤ g4; omega)) _, (by simpa using hB1), ⟨fun hs => absurd hs (by rw [upd_same]; decide), ⟨((hG1a.far (by show g7 ≠ g4; omega) _).far (by show g7 ≠ g4; omega) _).far (by show g7 ≠ g4; omega) _, hTT⟩⟩⟩ ⟨upd_same _ 4 _, hZ.set3⟩ ?_)
        intro k hk hDk hlv
        have hkl := hR.lt k hDk
        have hv := hI.2 k hDk (liveB_of hlv)
        match k, hk, hDk, hlv, hkl, hv with
        | 0, _, _, _, _, hv => exact hv
        | 1, _, _, _, _, hv => exact hv
        | 2, _, _, _, _, hv => exact hv
        | 3, _, _, _, _, hv => exact hv
        | 4, hk, _, _, _, _ => exact absurd rfl hk
        | 5, _, _, _, _, hv => exact hv
        | k + 6, _, _, _, hkl, _ => exact absurd hkl (by simp)
      · intro D V zw1 a hR hI K hK   -- 5: Op.assign (Operand.tmp 28)
        obtain ⟨hM1, hB1, hG1⟩ := hI.1
        obtain ⟨hGK, hG1⟩ := hG1
        obtain ⟨hG1a, hG1b⟩ := hG1
        have zd3 := hR.pred 3 (by kernel_rfl)
        have zF3 : V 3 = .int .i64 er := hI.2 3 zd3 rfl
        have zf3 := zF3; clear zF3
        have ze28 := hR.frame.done (t := 28) (j := 3) (by kernel_rfl) hR.ok zd3
        rw [if_pos (by rfl)]
        go_simp
        exact hK (.int .i64 er) _ (hI.next hR (by kernel_rfl) (Mod.refl _ _) (PB.quiet hI.1 (Mod.refl _ _) (HGs.out D 5 zw1 zw1 (by omega) (hI.1).g (Mod.refl _ _))) (upd_same V 5 _))
    · intro D V w5 hD hI
      obtain ⟨hM1, hB1, hG1⟩ := hI.1
      have hMx := hM1
      clear hM1
      have hBx := hB1
      clear hB1
      have hGx := hG1.2
      clear hG1
      have zF0 : V 0 = .agg #[.map (some bi), .map (some bk), .slice At nt ct] := hI.2 0 (hD 0 (by decide)) rfl
      have zf0 := zF0; clear zF0
      have zF1 : V 1 = .bool bd := hI.2 1 (hD 1 (by decide)) rfl
      have zf1 := zF1; clear zF1
      have zF2 : V 2 = .bool (!bd) := hI.2 2 (hD 2 (by decide)) rfl
      have zf2 := zF2; clear zF2
      have zF3 : V 3 = .int .i64 er := hI.2 3 (hD 3 (by decide)) rfl
      have zf3 := zF3; clear zF3
      have zF4 : V 4 = undef ∧ FdNew w5 g4 bi bk At nt ct := hI.2 4 (hD 4 (by decide)) rfl
      obtain ⟨zf4, b4_0⟩ := zF4
      have zF5 : V 5 = .int .i64 er := hI.2 5 (hD 5 (by decide)) rfl
      have zf5 := zF5; clear zF5
      clear hI hD HGs
      simp only [frAll, Act.put, List.setIfInBounds_toArray, List.set_cons_zero, List.set_cons_succ, Nat.zero_add, Nat.reduceAdd, zf0, zf1, zf2, zf3, zf4, zf5]
      clear zf0 zf1 zf2 zf3 zf4 zf5
      clear V D
      have hB5 := b4_0
      unfold FdNew at hB5
      have s0 := hB5.cell 0; have s1 := hB5.cell 1; have s2 := hB5.cell 2; simp at s0 s1 s2
      go_wp2_with fail
      refine bodyPost_ret (v := .tuple #[.agg #[.map (some bi), .map (some bk), .slice At nt ct], .int .i64 er]) (by simp [results, Tryz.results81, go_sem, s0, s1, s2]) rfl ?_
      exact ⟨_, _, _, _, _, by rw [HFE.out], fun _ => ⟨bi, bk, rfl, rfl, hGx.2⟩, fun h => absurd HE1.out h, hMx⟩
  · have h0' : (e1 != 0) = true := by simpa using h0
    have H0 := Lib.hid h0
    have HFE : Hid (fndE l id = e1) := Lib.hid (by unfold fndE; rw [if_pos (by rw [HE1.out]; exact h0), HE1.out])
    have HM := Lib.hid hm1
    have s0 := hB1.cell 0; have sf0 := hB1.frozen 0; have s1 := hB1.cell 1; have sf1 := hB1.frozen 1; have s2 := hB1.cell 2; have sf2 := hB1.frozen 2; simp at s0 s1 s2
    clear HNT HRT h0 hB1 hm1
    go_wp2_with fail
    refine bodyPost_ret (v := .tuple #[.agg #[.map none, .map none, .slice none 0 0], .int .i64 e1]) (by simp [results, Tryz.results81, go_sem, s0, s1, s2]) rfl ?_
    refine ⟨none, none, none, 0, 0, by rw [HFE.out], fun h => absurd (HE1.out.symm.trans h) H0.out, fun _ => ⟨rfl, rfl⟩, ?_⟩
    exact ((HM.out.setCell (.inr (by show _ ≤ g4; omega)) _).setCell (.inr (by show _ ≤ g4; omega)) _).setCell (.inr (by show _ ≤ g4; omega)) _

end Go.Proofs.YtglekmflcaacjaaGreatDoor

/- FamilyOf, Children, Depth of package intake. -/
namespace Go.Proofs.YtglekmflcaacjaaGreatDoor
set_option linter.unusedVariables false
set_option linter.unusedSimpArgs false
open Go.RowKit

def idxId (l : List Itm) (id : Str) : Nat := (plc l id).getD 0
def fmB (l : List Itm) (id : Str) : List Str := belS l 4 (tpI l (idxId l id))
theorem fndE_zero {l : List Itm} {id : Str} (h : fndE l id = 0) : itsE itemE l = 0 ∧ ∃ hi : idxId l id < l.length, l[idxId l id].id = id := by
  unfold fndE at h
  split at h
  · rename_i h1; exact absurd h h1
  · rename_i h1
    split at h
    · rename_i h2
      obtain ⟨i, hi⟩ := Option.isSome_iff_exists.1 h2
      obtain ⟨h3, h4⟩ := plc_lt _ _ _ hi
      unfold idxId
      rw [hi, Option.getD_some]
      exact ⟨by simpa using h1, h3, h4⟩
    · omega
def FmOPost (w : World) (l : List Itm) (id : Str) (e : Ending) (w' : World) : Prop :=
  ∃ (a : Str) (A : Option Addr) (n c : Nat), e = .returned (.tuple #[.agg #[.string ⟨a.toArray⟩, .slice A n c], .int .i64 (fndE l id)]) ∧ (fndE l id ≠ 0 → a = [] ∧ A = none ∧ n = 0 ∧ c = 0) ∧ (fndE l id = 0 → a = idAt2 l (tpI l (idxId l id)) ∧ Sl w' 9 1 (.slice A n c) (strsV (fmB l id))) ∧ Pure w w'
theorem right_items {l : List Itm} (h : itsE itemE l = 0) : Right l := right_of (E := itemE) (fun _ hx => itemE_ne hx) h

set_option maxRecDepth 100000 in
set_option maxHeartbeats 8000000 in
theorem ifamilyOf_calls (w : World) (v : Value) (l : List Itm) (id : Str) (hv : Its w v l) (hz : ∀ x ∈ l, ItB x) (hl : l.length ≤ 2000) (hE : Env w) (hid : id.length ≤ 30000) : Calls Tryz.prog 32 #[v, .string ⟨id.toArray⟩] w (FmOPost w l id) := by
  have hp := pure_alloc w (.cells #[.string ⟨#[]⟩, .slice none 0 0] 53)
  have HFD := Lib.hid (found_calls _ v l id (hv.pure hp) hz hl (hE.pure hp) hid)
  have HTP := Lib.hid (fun hR W bi bk At nt ct hT i hi => top_calls W l hR hz bi bk At nt ct hT i hi)
  have HBT := Lib.hid (fun hR bi bk At nt ct => belowT_calls l hR hz bi bk At nt ct 4)
  have HB := Lib.hid (Blk.new w 53 #[.string ⟨#[]⟩, .slice none 0 0])
  have HP := Lib.hid hp
  have HFZ := Lib.hid (fun h => fndE_zero (l := l) (id := id) h)
  obtain ⟨A, n, c, rfl⟩ := Sl.form hv
  unfold FoundPost at HFD
  have HE0 := Lib.hid (rfl : fndE l id = fndE l id)
  obtain ⟨er, her⟩ : ∃ er, fndE l id = er := ⟨_, rfl⟩
  rw [her] at HFD HFZ
  have HER := Lib.hid her
  clear hv hz hE hp her HE0
  go_enter Tryz.func32, Tryz.ntmps32
  go_wp2_with fail
  obtain ⟨g4, hg4⟩ : ∃ g4, g4 = w.heap.size := ⟨_, rfl⟩
  have hg1 := Nat.le_of_eq hg4
  have hg2 := Nat.le_of_eq hg4.symm
  rw [← hg4] at HB ⊢
  clear hg4
  generalize (w.alloc (.cells #[.string ⟨#[]⟩, .slice none 0 0] 53)) = W at *
  refine HFD.out.mono ?_
  rintro e w1 ⟨m0, m1, At, nt, ct, rfl, hf, hmz, hm1⟩
  clear hmz
  have hB1 := (HB.out.mod hm1 _root_.id).alloc (.cells #[.map m0, .map m1, .slice At nt ct] 100)
  have hM1 := (HP.out.trans hm1).alloc (.cells #[.map m0, .map m1, .slice At nt ct] 100)
  have hg4l : g4 < w1.heap.size := (HB.out.mod hm1 _root_.id).lt
  have HBW := Lib.hid (HB.out.mod hm1 _root_.id)
  have HF := Lib.hid hf
  clear HFD HB HP hf hm1
  by_cases h0 : er = 0
  · subst h0
    obtain ⟨bi, bk, rfl, rfl, hT⟩ := HF.out (fndE_zero HER.out).1
    obtain ⟨hit, hi, hie⟩ := HFZ.out rfl
    have hR := right_items hit
    have hT2 := hT.pure (pure_alloc w1 (.cells #[.map (some bi), .map (some bk), .slice At nt ct] 100))
    have hC := HTP.out hR _ bi bk At nt ct hT2 (idxId l id) hi
    rw [hie] at hC
    have HC := Lib.hid hC
    obtain ⟨_, _, _, htl, _⟩ := hR.top_at hi
    have HBL : Hid (∀ W, TreeIs W bi bk (.slice At nt ct) l → Calls Tryz.prog 67 #[.agg #[.map (some bi), .map (some bk), .slice At nt ct], .string ⟨(idAt2 l (tpI l (idxId l id))).toArray⟩] W (BelPost W (fmB l id))) := Lib.hid (fun W h => by
      have := HBT.out hR bi bk At nt ct _ htl (hR.short _) W h
      rw [← idAt2_eq htl] at this
      exact this)
    have HT2 := Lib.hid hT2
    have HB1 := Lib.hid hB1
    have HM1 := Lib.hid hM1
    have HB6 := Lib.hid (Blk.new w1 100 #[.map (some bi), .map (some bk), .slice At nt ct])
    clear HF HFZ hit hie hR hT hT2 hC HTP HBT hB1 hM1 htl
    go_wp2_with fail
    refine HC.out.mono ?_
    rintro e w2 ⟨rfl, m2⟩
    have hB6 := HB6.out.mod m2 _root_.id
    have hB4 := HB1.out.mod m2 _root_.id
    have hT3 := HT2.out.pure m2
    have hM2 := HM1.out.trans m2
    have HC2 := Lib.hid (HBL.out w2 hT3)
    have HB4 := Lib.hid hB4
    have HM2 := Lib.hid hM2
    generalize htid : idAt2 l (tpI l (idxId l id)) = tid at *
    have HTID := Lib.hid htid
    clear htid
    generalize w1.heap.size = g6 at *
    have s0 := hB6.cell 0; have s1 := hB6.cell 1; have s2 := hB6.cell 2; simp at s0 s1 s2
    clear HC HBL HT2 HB1 HM1 HB6 m2 hB6 hB4 hT3 hM2
    go_wp2_with fail
    refine HC2.out.mono ?_
    rintro e w3 ⟨v3, rfl, own3, m3⟩
    have S3 := Sl.of_own own3
    obtain ⟨A3, n3, c3, rfl⟩ := S3.form
    have hB5 := HB4.out.mod m3 _root_.id
    have HM3 := Lib.hid (HM2.out.trans m3)
    have HS3 := Lib.hid (Sl.set_ne (Sl.set_ne S3 hB5 (by decide) (j := 0) (.string ⟨tid.toArray⟩)) (hB5.set 0 (.string ⟨tid.toArray⟩)) (by decide) (j := 1) (.slice A3 n3 c3))
    have HB5 := Lib.hid hB5
    have t0 := hB5.cell 0; have tf0 := hB5.frozen 0; have t1 := hB5.cell 1; have tf1 := hB5.frozen 1; simp at t0 t1
    clear HC2 HB4 HM2 own3 m3 S3 hB5 s0 s1 s2
    go_wp2_with fail
    have hB9 := HB5.out.set2 (x := .string ⟨tid.toArray⟩) (y := .slice A3 n3 c3)
    have u0 := hB9.cell 0; have u1 := hB9.cell 1; simp at u0 u1
    refine bodyPost_ret (v := .tuple #[.agg #[.string ⟨tid.toArray⟩, .slice A3 n3 c3], .int .i64 0]) (by simp [results, Tryz.results32, go_sem, u0, u1]) rfl ?_
    exact ⟨_, _, _, _, by rw [HER.out], fun h => absurd HER.out h, fun _ => ⟨HTID.out.symm, HS3.out⟩, (HM3.out.setCell (.inr (by show _ ≤ g4; omega)) _).setCell (.inr (by show _ ≤ g4; omega)) _⟩
  · have h0' : (er != 0) = true := by simpa using h0
    have H0 := Lib.hid h0
    have HM1 := Lib.hid hM1
    have HB1 := Lib.hid hB1
    have hBW := HBW.out
    have t0 := hBW.cell 0; have tf0 := hBW.frozen 0; have t1 := hBW.cell 1; have tf1 := hBW.frozen 1; simp at t0 t1
    clear HF HFZ HTP HBT h0 hM1 hB1 hBW
    go_upto_region 3 with (fail)
    generalize (w1.alloc (.cells #[.map m0, .map m1, .slice At nt ct] 100)) = W6 at *
    have hB6 := HB1.out
    have u0 := hB6.cell 0; have uf0 := hB6.frozen 0; have u1 := hB6.cell 1; have uf1 := hB6.frozen 1; simp at u0 u1
    clear hB6 t0 t1 tf0 tf1
    go_wp2_with fail
    have hB9 := HB1.out.set2 (x := .string ⟨#[]⟩) (y := .slice none 0 0)
    clear u0 u1
    have u0 := hB9.cell 0; have u1 := hB9.cell 1; simp at u0 u1
    refine bodyPost_ret (v := .tuple #[.agg #[.string ⟨#[]⟩, .slice none 0 0], .int .i64 er]) (by simp [results, Tryz.results32, go_sem, u0, u1]) rfl ?_
    exact ⟨[], none, 0, 0, by rw [HER.out], fun _ => ⟨rfl, rfl, rfl, rfl⟩, fun h => absurd (HER.out.symm.trans h) H0.out, (HM1.out.setCell (.inr (by show _ ≤ g4; omega)) _).setCell (.inr (by show _ ≤ g4; omega)) _⟩

def ChPost (w : World) (l : List Itm) (id : Str) (e : Ending) (w' : World) : Prop :=
  ∃ (A : Option Addr) (n c : Nat), e = .returned (.tuple #[.slice A n c, .int .i64 (fndE l id)]) ∧ (fndE l id ≠ 0 → A = none ∧ n = 0 ∧ c = 0) ∧ (fndE l id = 0 → Sl w' 9 1 (.slice A n c) (strsV (kidsS l id))) ∧ Pure w w'

set_option maxRecDepth 100000 in
set_option maxHeartbeats 8000000 in
theorem ichildren_calls (w : World) (v : Value) (l : List Itm) (id : Str) (hv : Its w v l) (hz : ∀ x ∈ l, ItB x) (hl : l.length ≤ 2000) (hE : Env w) (hid : id.length ≤ 30000) : Calls Tryz.prog 33 #[v, .string ⟨id.toArray⟩] w (ChPost w l id) := by
  have HFD := Lib.hid (found_calls w v l id hv hz hl hE hid)
  obtain ⟨A, n, c, rfl⟩ := Sl.form hv
  unfold FoundPost at HFD
  obtain ⟨er, her⟩ : ∃ er, fndE l id = er := ⟨_, rfl⟩
  rw [her] at HFD
  have HER := Lib.hid her
  clear hv hz hE her
  go_enter Tryz.func33, Tryz.ntmps33
  go_wp2_with fail
  refine HFD.out.mono ?_
  rintro e w1 ⟨m0, m1, At, nt, ct, rfl, hf, hmz, hm1⟩
  clear hmz
  have HF := Lib.hid hf
  have hM1 := hm1.alloc (.cells #[.map m0, .map m1, .slice At nt ct] 100)
  have HM1 := Lib.hid hM1
  clear HFD hf hm1 hM1
  by_cases h0 : er = 0
  · subst h0
    obtain ⟨bi, bk, rfl, rfl, hT⟩ := HF.out (fndE_zero HER.out).1
    have hT2 := hT.pure (pure_alloc w1 (.cells #[.map (some bi), .map (some bk), .slice At nt ct] 100))
    obtain ⟨nk, V, hMk, hVk⟩ := hT2.kids
    have hlook := hMk.lookup (e := 29) Tryz.underlying98 zero_strs id (by omega)
    obtain ⟨Ak, kn, kc, hk⟩ := (hVk id).form
    have hS := hVk id
    rw [hk] at hlook hS
    have HS := Lib.hid hS
    clear HF hT hT2 hMk hVk hk hS
    go_wp2_with fail
    refine bodyPost_ret (v := .tuple #[.slice Ak kn kc, .int .i64 0]) (by simp [results, Tryz.results33, go_sem]) rfl ?_
    exact ⟨_, _, _, by rw [HER.out], fun h => absurd HER.out h, fun _ => HS.out, HM1.out⟩
  · have h0' : (er != 0) = true := by simpa using h0
    have H0 := Lib.hid h0
    clear HF h0
    go_wp2_with fail
    refine bodyPost_ret (v := .tuple #[.slice none 0 0, .int .i64 er]) (by simp [results, Tryz.results33, go_sem]) rfl ?_
    exact ⟨none, 0, 0, by rw [HER.out], fun _ => ⟨rfl, rfl, rfl⟩, fun h => absurd (HER.out.symm.trans h) H0.out, HM1.out⟩

def DpPost (w : World) (l : List Itm) (id : Str) (e : Ending) (w' : World) : Prop :=
  ∃ d : Int, e = .returned (.tuple #[.int .i64 d, .int .i64 (fndE l id)]) ∧ (fndE l id ≠ 0 → d = 0) ∧ (fndE l id = 0 → d = ((chn l l.length (idxId l id)).length : Int)) ∧ Pure w w'

set_option maxRecDepth 100000 in
set_option maxHeartbeats 8000000 in
theorem idepth_calls (w : World) (v : Value) (l : List Itm) (id : Str) (hv : Its w v l) (hz : ∀ x ∈ l, ItB x) (hl : l.length ≤ 2000) (hE : Env w) (hid : id.length ≤ 30000) : Calls Tryz.prog 34 #[v, .string ⟨id.toArray⟩] w (DpPost w l id) := by
  have HFD := Lib.hid (found_calls w v l id hv hz hl hE hid)
  have HAB := Lib.hid (fun hR W b h i x hx => iabove_calls W b l x i hx h hz (Right.distinct hR) (by omega))
  have HFZ := Lib.hid (fun h => fndE_zero (l := l) (id := id) h)
  obtain ⟨A, n, c, rfl⟩ := Sl.form hv
  unfold FoundPost at HFD
  obtain ⟨er, her⟩ : ∃ er, fndE l id = er := ⟨_, rfl⟩
  rw [her] at HFD HFZ
  have HER := Lib.hid her
  clear hv hz hE her
  go_enter Tryz.func34, Tryz.ntmps34
  go_wp2_with fail
  refine HFD.out.mono ?_
  rintro e w1 ⟨m0, m1, At, nt, ct, rfl, hf, hmz, hm1⟩
  clear hmz
  have HF := Lib.hid hf
  have hM1 := hm1.alloc (.cells #[.map m0, .map m1, .slice At nt ct] 100)
  have HM1 := Lib.hid hM1
  clear HFD hf hm1 hM1
  by_cases h0 : er = 0
  · subst h0
    obtain ⟨bi, bk, rfl, rfl, hT⟩ := HF.out (fndE_zero HER.out).1
    obtain ⟨hit, hi, hie⟩ := HFZ.out rfl
    have hR := right_items hit
    have hT2 := hT.pure (pure_alloc w1 (.cells #[.map (some bi), .map (some bk), .slice At nt ct] 100))
    have hlook := hT2.par hR hi (by rw [hie]; omega)
    have HC := Lib.hid (HAB.out hR _ bi hT2.items (idxId l id) l[idxId l id] (List.getElem?_eq_getElem hi))
    have HLP := Lib.hid (hR.loop _ hi)
    rw [hie] at hlook
    generalize l[idxId l id] = x at *
    unfold itA at hlook HC
    clear HF HFZ hit hie hR hT hT2 HAB
    go_wp2_with fail
    refine HC.out.mono ?_
    rintro e w2 ⟨d, lp, rfl, hlp, hd, m2⟩
    have HD := Lib.hid (hd (hlp.trans HLP.out))
    have HM2 := Lib.hid (HM1.out.trans m2)
    clear HC HM1 hlp hd m2 HLP
    go_wp2_with fail
    refine bodyPost_ret (v := .tuple #[.int .i64 (d : Int), .int .i64 0]) (by simp [results, Tryz.results34, go_sem]) rfl ?_
    exact ⟨_, by rw [HER.out], fun h => absurd HER.out h, fun _ => by rw [HD.out], HM2.out⟩
  · have h0' : (er != 0) = true := by simpa using h0
    have H0 := Lib.hid h0
    clear HF HFZ h0 HAB
    go_wp2_with fail
    refine bodyPost_ret (v := .tuple #[.int .i64 0, .int .i64 er]) (by simp [results, Tryz.results34, go_sem]) rfl ?_
    exact ⟨0, by rw [HER.out], fun _ => rfl, fun h => absurd (HER.out.symm.trans h) H0.out, HM1.out⟩

end Go.Proofs.YtglekmflcaacjaaGreatDoor

/- Equal families. -/
namespace Go.Proofs.YtglekmflcaacjaaGreatDoor
set_option linter.unusedVariables false
set_option linter.unusedSimpArgs false
open Go.RowKit

set_option maxRecDepth 100000 in
set_option maxHeartbeats 2000000 in
theorem sameFam_calls (w : World) (a : Str) (v1 v2 : Value) (xs : List Str) (h1 : Sl w 9 1 v1 (strsV xs)) (h2 : Sl w 9 1 v2 (strsV xs)) :
    Calls Tryz.prog 27 #[.agg #[.string ⟨a.toArray⟩, v1], .agg #[.string ⟨a.toArray⟩, v2]] w (BoolPost w true) := by
  have h1' := h1.pure ((pure_alloc w (.cells #[.string ⟨a.toArray⟩, v1] 53)).trans (pure_alloc _ (.cells #[.string ⟨a.toArray⟩, v2] 53)))
  have h2' := h2.pure ((pure_alloc w (.cells #[.string ⟨a.toArray⟩, v1] 53)).trans (pure_alloc _ (.cells #[.string ⟨a.toArray⟩, v2] 53)))
  have HE := Lib.hid (equalS_calls _ v1 v2 xs h1' h2')
  have hm : Pure w ((w.alloc (.cells #[.string ⟨a.toArray⟩, v1] 53)).alloc (.cells #[.string ⟨a.toArray⟩, v2] 53)) := (pure_alloc _ _).trans (pure_alloc _ _)
  have HM := Lib.hid hm
  obtain ⟨A1, n1, c1, rfl⟩ := h1.form
  obtain ⟨A2, n2, c2, rfl⟩ := h2.form
  have hse : (a == a) = true := by simp
  clear h1 h2 h1' h2' hm
  go_enter Tryz.func27, Tryz.ntmps27
  go_wp2_with fail
  refine HE.out.mono ?_
  rintro e w1 ⟨rfl, m1⟩
  go_wp2_with fail
  go_ret
  exact BoolPost.of rfl (HM.out.trans m1)

theorem FmR.at {w : World} {A : Option Addr} {n c : Nat} {xs : List Fm} (h : FmR w (.slice A n c) xs) {k : Nat} (hk : k < xs.length) :
    ∃ g off B m d, A = some ⟨g, off, none⟩ ∧ w.cell? ⟨g, off + k * 2, none⟩ = some (.string ⟨xs[k].1.toArray⟩) ∧ w.cell? ⟨g, off + k * 2 + 1, none⟩ = some (.slice B m d) ∧ xs[k].2.1 = .slice B m d ∧ Sl w 9 1 (.slice B m d) (strsV xs[k].2.2) := by
  have hs := h.2 _ (List.getElem_mem hk)
  obtain ⟨B, m, d, hu⟩ := hs.form
  obtain ⟨A', n', c', hf, _, _, hl, hr⟩ := h.1
  injection hf with e1 e2 e3
  subst e1 e2 e3
  rw [fmV_len] at hl
  obtain ⟨g, off, rfl, hrow⟩ := hr (by omega)
  obtain ⟨g1, g2⟩ := fmV_get xs k hk
  refine ⟨g, off, B, m, d, rfl, hrow.cell g1, ?_, hu, by rw [← hu]; exact hs⟩
  have := hrow.cell g2
  rw [hu] at this
  exact this
theorem FmR.len {w : World} {A : Option Addr} {n c : Nat} {xs : List Fm} (h : FmR w (.slice A n c) xs) : xs.length = n ∧ n ≤ 9223372036854775807 := by
  obtain ⟨A', n', c', hf, h4, h5, hl, _⟩ := h.1
  injection hf with e1 e2 e3
  rw [fmV_len] at hl
  omega
theorem fmS_at {xs ys : List Fm} (h : fmS xs = fmS ys) : xs.length = ys.length ∧ ∀ k (h1 : k < xs.length) (h2 : k < ys.length), xs[k].1 = ys[k].1 ∧ xs[k].2.2 = ys[k].2.2 := by
  have hl : xs.length = ys.length := by simpa [fmS] using congrArg List.length h
  refine ⟨hl, fun k h1 h2 => ?_⟩
  have := congrArg (fun l => l[k]?) h
  simpa [fmS, h1, h2] using this

set_option maxRecDepth 100000 in
set_option maxHeartbeats 2000000 in
theorem equalFam_calls (w : World) (v1 v2 : Value) (xs ys : List Fm) (h1 : FmR w v1 xs) (h2 : FmR w v2 ys) (hxy : fmS xs = fmS ys) :
    Calls Tryz.prog 25 #[v1, v2, .func (.func 27) #[] #[]] w (BoolPost w true) := by
  obtain ⟨A1, n1, c1, rfl⟩ := h1.1.form
  obtain ⟨A2, n2, c2, rfl⟩ := h2.1.form
  obtain ⟨hn1, hb1⟩ := h1.len
  obtain ⟨hn2, hb2⟩ := h2.len
  obtain ⟨hl, HX⟩ := fmS_at hxy
  have HX := Lib.hid HX
  subst hn1
  have hl2 : n2 = xs.length := by omega
  subst hl2
  have H1 := Lib.hid h1
  have H2 := Lib.hid h2
  have hly := Nat.le_of_eq hl
  have hne : ((xs.length : Int) != (xs.length : Int)) = false := by simp
  have hcf : ∀ (x y : Value) (W : World), Sem.run Tryz.prog (callFunc 27 #[x, y]) W = .ok (.enter 27 #[x, y]) W := fun _ _ _ => rfl
  clear h1 h2 hn2 hl hxy
  go_enter Tryz.func25, Tryz.ntmps25
  go_wp2_with fail
  go_loopg [17] xs.length (fun gk i wr => ∃ k : Nat, xs.length - k = gk ∧ k ≤ xs.length ∧ i = .int .i64 (k : Int) ∧ Pure w wr)
  case atStart => exact ⟨0, by omega, by omega, rfl, Mod.refl _ _⟩
  case round =>
    obtain ⟨k, rfl, hk, rfl, hm⟩ := hrel
    by_cases hlt : k < xs.length
    · have hky : k < ys.length := by omega
      obtain ⟨g1, o1, B1, m1, d1, rfl, q1, q1', _, s1⟩ := (H1.out.pure hm).at hlt
      obtain ⟨g2, o2, B2, m2, d2, rfl, q2, q2', _, s2⟩ := (H2.out.pure hm).at hky
      obtain ⟨e1, e2⟩ := HX.out k hlt hky
      rw [← e1] at q2
      rw [← e2] at s2
      clear e1 e2
      generalize xs[k].1 = a at *
      generalize xs[k].2.2 = bs at *
      have hp : Pure wr ((wr.alloc (.cells #[.string ⟨a.toArray⟩, .slice B1 m1 d1] 53)).alloc (.cells #[.string ⟨a.toArray⟩, .slice B2 m2 d2] 53)) := (pure_alloc _ _).trans (pure_alloc _ _)
      have HS := Lib.hid (sameFam_calls _ a _ _ _ (s1.pure hp) (s2.pure hp))
      have hM := Lib.hid (hm.trans hp)
      have i1 : (0 : Int) ≤ (k : Int) := by omega
      have i2 : (k : Int) < (xs.length : Int) := by omega
      have q3 := cell_alloc q2 (.cells #[.string ⟨a.toArray⟩, .slice B1 m1 d1] 53)
      have q4 := cell_alloc q2' (.cells #[.string ⟨a.toArray⟩, .slice B1 m1 d1] 53)
      clear s1 s2 hp hm q2 q2'
      go_wp2_with fail
      refine HS.out.mono ?_
      rintro e w1 ⟨rfl, hm1⟩
      go_wp2_with fail
      go_roundg (xs.length - (k + 1))
      case measure => omega
      case rel => exact ⟨k + 1, rfl, by omega, by simp, hM.out.trans hm1⟩
    · have hke : k = xs.length := by omega
      subst hke
      go_wp2_with fail
      go_ret
      exact BoolPost.of rfl hm

end Go.Proofs.YtglekmflcaacjaaGreatDoor
