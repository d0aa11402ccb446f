/- Texts of the proof of SampleLeasts, put together: LeastS, LawLeasts. -/
import Derived.Test.YtkchninlhemioaaGreatDoorSampleLeastsZ4
import Derived.Test.YtkchninlhemioaaGreatDoorSampleLeastsZ8
import Derived.Test.YtkchninlhemioaaGreatDoorSampleLeastsZ12
import Derived.Test.YtkchninlhemioaaGreatDoorSampleLeastsZ21
import Derived.Test.YtkchninlhemioaaGreatDoorSampleLeastsZ24
import Derived.Test.YtkchninlhemioaaGreatDoorSampleLeastsZ26
import Derived.Shelf.SlSortCmp.NoneTotal
/- sample.least and Least: the sort by hash. -/
namespace Go.Proofs.YtkchninlhemioaaGreatDoor
set_option linter.unusedVariables false
set_option linter.unusedSimpArgs false
open Go.RowKit Go.Sort

def SortedPost (w : World) (base g cap n : Nat) (seed : Str) (xs : List Str) (e : Ending) (w' : World) : Prop :=
  ∃ s, s.Perm xs ∧ s.Pairwise (fun x y => ¬ ltH (hashB seed) y x) ∧ e = .returned (.tuple #[]) ∧ w'.ownsRow base 9 1 (.slice (some ⟨g, 0, none⟩) n cap) n (strsV s) ∧ Mod (fun j => j = g) w w'
theorem ltH_swo (seed : Str) : SWO (ltOf (leastCmp seed)) := by
  have hb : ∀ x y, ltOf (leastCmp seed) x y = true ↔ ltH (hashB seed) x y := fun x y => leastCmp_lt seed x y
  have hf : ∀ x y, ltOf (leastCmp seed) x y = false ↔ ¬ ltH (hashB seed) x y := fun x y => by rw [← hb, Bool.not_eq_true]
  refine ⟨fun x => (hf x x).2 (fun h => ltH_asymm _ _ _ h h), fun x y z h1 h2 => ?_, fun x y z h1 h2 => ?_⟩
  · rw [hb] at h1 h2 ⊢
    unfold ltH at *
    rcases h1 with h1 | ⟨h1, h3⟩ <;> rcases h2 with h2 | ⟨h2, h4⟩
    · exact .inl (by omega)
    · exact .inl (by omega)
    · exact .inl (by omega)
    · exact .inr ⟨by omega, List.lt_trans h3 h4⟩
  · rw [hf] at h1 h2 ⊢
    unfold ltH at *
    intro h3
    have a1 : ¬ hashB seed x < hashB seed y := fun h => h1 (.inl h)
    have a2 : ¬ hashB seed y < hashB seed z := fun h => h2 (.inl h)
    rcases h3 with h3 | ⟨h3, h4⟩
    · omega
    · have e1 : hashB seed x = hashB seed y := by omega
      have e2 : hashB seed y = hashB seed z := by omega
      have b1 : y ≤ x := by simpa using fun h => h1 (.inr ⟨e1, h⟩)
      have b2 : z ≤ y := by simpa using fun h => h2 (.inr ⟨e2, h⟩)
      have b3 : z ≤ x := List.le_trans b2 b1
      exact absurd h4 (by simpa using b3)
abbrev ShortS := {s : Str // s.length ≤ 1000}
instance : Inhabited ShortS := ⟨⟨[], by simp⟩⟩
def encB (x : ShortS) : Value := .string ⟨x.1.toArray⟩
theorem map_get! (d : Array ShortS) (i : Nat) (h : i < d.size) : (d.map (·.1))[i]! = d[i]!.1 := by
  rw [getElem!_pos (d.map (·.1)) i (by simpa using h), getElem!_pos d i h]
  simp
theorem putRow_short (w : World) (g off : Nat) (d : Array ShortS) : putRow encB w g off d = putRow encStr w g off (d.map (·.1)) := by
  unfold putRow
  congr 1
  funext c
  unfold putCells
  congr 1
  funext k x
  rw [Array.size_map]
  split
  · rename_i h
    rw [map_get! d (k - off) (by omega)]
    rfl
  · rfl
theorem sortWorld_short (w : World) (g m : Nat) (dk : Array ShortS) (os : Array Obj) : sortWorld encB w g 0 m dk os = grow (putRow encStr (Sort.ahead w m) g 0 (dk.map (·.1))) os := by
  unfold sortWorld
  rw [putRow_short]
theorem sortF0_calls (p : Option Addr) (cap : Nat) (fv : Value) (w : World) : Calls Tryz.prog 60 #[.slice p 0 cap, fv] w fun e w' => e = .returned (.tuple #[]) ∧ w' = w :=
  AnyF.slices_SortFunc_none { Tryz.layF6 with } p cap fv w
set_option maxRecDepth 100000 in
theorem sortF_calls (w : World) (base g cap n gs : Nat) (seed : Str) (xs : List Str) (hown : w.ownsRow base 9 1 (.slice (some ⟨g, 0, none⟩) n cap) n (strsV xs)) (hn : n ≤ 1000000) (hne : gs ≠ g) (hc : w.cell? ⟨gs, 0, none⟩ = some (.string ⟨seed.toArray⟩))
    (hz : ∀ s : Str, s ∈ xs → s.length ≤ 1000) (hzs : seed.length ≤ 1000) :
    Calls Tryz.prog 60 #[.slice (some ⟨g, 0, none⟩) n cap, .func (.func 61) #[] #[.pointer (some ⟨gs, 0, none⟩)]] w (SortedPost w base g cap n seed xs) := by
  have hlx : n = xs.length := by have := hown.1; simp [strsV] at this; omega
  subst hlx
  rcases hown.2 with ⟨h0, _⟩ | ⟨g', cap', cur, hv, hbase, hb, h1, h2, h3, h4⟩
  · cases h0
  cases hv
  obtain ⟨d, hd, hds⟩ : ∃ d : Array ShortS, d.map (·.1) = xs.toArray ∧ d.size = xs.length := ⟨(xs.attachWith (fun s => s.length ≤ 1000) hz).toArray, by simp, by simp⟩
  have hH0 := holds_of_block hb (by simpa [strsV] using h4)
  rw [← hd] at hH0
  have hH : Holds encB w g 0 d := by
    intro j hj
    obtain ⟨k1, k2⟩ := hH0 j (by simpa using hj)
    rw [map_get! d j hj] at k1
    exact ⟨k1, k2⟩
  have hcmp : CmpLays1 Tryz.prog 61 #[.pointer (some ⟨gs, 0, none⟩)] encB (fun x y => leastCmp seed x.1 y.1) g 0 d.size w := by
    intro m os dk hs x y
    have hmod : Mod (fun j => j = g) w (sortWorld encB w g 0 m dk os) := by
      rw [sortWorld_short]
      exact (grown_mod (grownBy_sorted _)).mono (fun k hk => by injection hk with hk; exact hk.symm)
    refine (least1_calls (sortWorld encB w g 0 m dk os) x.1 y.1 seed gs (hmod.keep hc hne) x.2 y.2 hzs).mono ?_
    rintro e w' ⟨rfl, hm, hdr⟩
    exact ⟨rfl, grow_of_pure hm hdr⟩
  have hO : SWO (ltOf fun x y : ShortS => leastCmp seed x.1 y.1) := by
    have h := ltH_swo seed
    exact ⟨fun x => h.irrefl x.1, fun x y z => h.trans x.1 y.1 z.1, fun x y z => h.ntrans x.1 y.1 z.1⟩
  have hcall := Any.slices_SortFunc Tryz.layF6 encB (fun _ => rfl) (fun x y => leastCmp seed x.1 y.1) hO 61 #[.pointer (some ⟨gs, 0, none⟩)] g 0 cap d w (fun _ _ => rfl) hcmp hH (lt_of_heap hb) (by omega)
  rw [hds] at hcall
  refine hcall.mono ?_
  rintro e w' ⟨rfl, d', nn, os, hp, hso, rfl⟩
  obtain ⟨p1, _, p3⟩ := hp
  have hz2 : d'.size = xs.length := p1.trans hds
  have e1 : d'.extract 0 xs.length = d' := by rw [← hz2]; exact Array.extract_size
  have e2 : d.extract 0 xs.length = d := by rw [← hds]; exact Array.extract_size
  rw [e1, e2] at p3
  have hperm : (d'.map (·.1)).toList.Perm xs := by
    have := p3.map (fun x : ShortS => x.1)
    rw [← Array.toList_map, ← Array.toList_map, hd] at this
    simpa using this
  refine ⟨(d'.map (·.1)).toList, hperm, ?_, rfl, ?_, ?_⟩
  · rw [List.pairwise_iff_getElem]
    intro i j hi hj hij
    have hi' : i < d'.size := by simpa using hi
    have hj' : j < d'.size := by simpa using hj
    have := hso i j (by omega) hij (by omega)
    rw [getElem!_pos d' i hi', getElem!_pos d' j hj'] at this
    intro hlt
    have h5 := (leastCmp_lt seed _ _).2 hlt
    simp only [ltOf, Array.toList_map, List.getElem_map, Array.getElem_toList] at this h5
    rw [this] at h5
    cases h5
  · rw [sortWorld_short]
    have := ownsRow_sorted (n := nn) (os := os) (ts := (d'.map (·.1)).toList) (ss := xs) (by simpa using hz2) hbase hb h1 h2 h3
    rw [Array.toArray_toList] at this
    exact this
  · rw [sortWorld_short]
    exact (grown_mod (grownBy_sorted _)).mono (fun k hk => by injection hk with hk; exact hk.symm)

theorem min_cast (a b : Nat) : (if (b : Int) < (a : Int) then (b : Int) else (a : Int)) = ((min a b : Nat) : Int) := by
  split <;> omega

set_option maxRecDepth 100000 in
set_option maxHeartbeats 4000000 in
theorem least_calls (w : World) (v : Value) (ids : List Str) (seed : Str) (many : Nat) (hv : Sl w 9 1 v (strsV ids)) (hz : ∀ s ∈ ids, s.length ≤ 1000) (hzs : seed.length ≤ 1000) (hl : ids.length ≤ 2000) (hmany : many ≤ 1000000) (hsort : ids.Pairwise (· < ·)) :
    Calls Tryz.prog 35 #[v, .string ⟨seed.toArray⟩, .int .i64 (many : Int)] w (LeastPost w seed ids many) := by
  have HZ := Lib.hid hz
  have HSO := Lib.hid hsort
  have HCL := Lib.hid (cloneS_calls (w.alloc (.cells #[.string ⟨seed.toArray⟩] 9)) v ids (hv.pure (pure_alloc _ _)) (by omega))
  obtain ⟨A, n, c, rfl⟩ := hv.form
  clear hz hsort hv
  go_enter Tryz.func35, Tryz.ntmps35
  go_wp2_with fail
  refine HCL.out.mono ?_
  rintro e w1 ⟨vc, rfl, hown, hm1⟩
  have B1 := (Blk.new w 9 #[.string ⟨seed.toArray⟩]).modp hm1
  have m1 : Pure w w1 := (pure_alloc _ _).trans hm1
  have hz1 := m1.size
  rw [World.size_alloc] at hown
  clear HCL hm1
  generalize hgs : w.heap.size = gs at *
  have hgs1 := Nat.le_of_eq hgs
  clear hgs
  by_cases h0 : ids.length = 0
  · have e0 : ids = [] := List.eq_nil_of_length_eq_zero h0
    subst e0
    have hmn : min (many : Int) 0 = 0 := by omega
    have HSP : Hid (LeastSpec (hashB seed) [] many []) := Lib.hid ⟨List.Pairwise.nil, fun x h => h, fun x h => absurd h (by simp), by simp⟩
    have HSL := Lib.hid (Sl.of_own hown)
    have hown2 := hown.2
    clear hown
    rcases hown2 with ⟨rfl, _⟩ | ⟨g, cap, cur, rfl, _, _, hcap, hcap2, _⟩
    · go_wp2_with fail
      with_reducible refine (sortF0_calls none 0 _ _).mono ?_
      rintro e w2 ⟨rfl, rfl⟩
      go_wp2_with fail
      refine (Any.slices_Sort_string_none Tryz.lays190 none 0 _).mono ?_
      rintro e w' ⟨rfl, rfl⟩
      go_wp2_with fail
      go_ret
      exact ⟨_, [], rfl, HSP.out, HSL.out, m1⟩
    · go_wp2_with fail
      with_reducible refine (sortF0_calls (some ⟨g, 0, none⟩) cap _ _).mono ?_
      rintro e w2 ⟨rfl, rfl⟩
      go_wp2_with fail
      refine (Any.slices_Sort_string_none Tryz.lays190 (some ⟨g, 0, none⟩) cap _).mono ?_
      rintro e w' ⟨rfl, rfl⟩
      go_wp2_with fail
      go_ret
      exact ⟨_, [], rfl, HSP.out, HSL.out, m1⟩
  · obtain ⟨g, cap, rfl, hg1, hg2, hcap, hcap2⟩ := own_form hown (by omega)
    have HSF := Lib.hid (sortF_calls w1 (gs + 1) g cap ids.length gs seed ids hown (by omega) (by omega) (B1.cell 0) HZ.out hzs)
    clear hown
    go_wp2_with fail
    refine HSF.out.mono ?_
    rintro e w2 ⟨s, hperm, hps, rfl, own2, hm2⟩
    have m2 : Pure w w2 := m1.trans' hm2 (fun i hi hlt => by omega)
    have hsl : s.length = ids.length := hperm.length_eq
    have HSPEC := Lib.hid (least_of_sorted (many := many) HSO.out hperm hps)
    rw [hsl] at HSPEC
    have hmn : min (many : Int) (ids.length : Int) = ((min many ids.length : Nat) : Int) := by omega
    have hmle : min many ids.length ≤ ids.length := Nat.min_le_right _ _
    have own3 := own_shrink own2 hmle
    have e3 : (strsV s).take (min many ids.length) = strsV (s.take (min many ids.length)) := by simp [strsV, List.map_take]
    rw [e3] at own3
    have hl3 : (s.take (min many ids.length)).length ≤ 1000000 := by rw [List.length_take]; omega
    have HSORT := Lib.hid (sortS_calls w2 _ _ (gs + 1) _ own3 hl3)
    clear e3 own2 own3 hl3 hperm hps hsl HSF B1 hm2
    generalize (s.take (min many ids.length)) = st at *
    generalize (min many ids.length) = mn at *
    have hmle2 : mn ≤ cap := by omega
    go_wp2_with fail
    with_reducible refine HSORT.out.mono ?_
    rintro e w3 ⟨rfl, own4, hm4⟩
    have m3 : Pure w w3 := m2.trans' hm4 (fun i hi hlt => by simp [Value.ownBlock] at hi; omega)
    go_wp2_with fail
    go_ret
    exact ⟨_, _, rfl, HSPEC.out, Sl.of_own own4, m3⟩

set_option maxRecDepth 100000 in
set_option maxHeartbeats 4000000 in
theorem Least_calls (w : World) (v : Value) (ids : List Str) (seed : Str) (many : Int) (hv : Sl w 9 1 v (strsV ids)) (hz : ∀ s ∈ ids, s.length ≤ 1000) (hzs : seed.length ≤ 1000) (hl : ids.length ≤ 2000) :
    Calls Tryz.prog 10 #[v, .string ⟨seed.toArray⟩, .int .i64 many] w (ListErr w (leastE ids seed many) (LeastSpec (hashB seed) ids many.toNat)) := by
  have HV := Lib.hid hv
  have HZ := Lib.hid hz
  have y3 : (⟨seed.toArray⟩ : ByteArray).size ≤ 1000000 := by simp [ByteArray.size]; omega
  have HID := Lib.hid (idsError_calls w v ids hv hz hl)
  obtain ⟨A, n, c, rfl⟩ := hv.form
  clear hv hz
  go_enter Tryz.func10, Tryz.ntmps10
  go_wp2_with fail
  refine HID.out.mono ?_
  rintro e w1 ⟨rfl, hm1⟩
  go_wp2_with fail
  refine (keyError_calls _ _ y3).mono ?_
  rintro e w2 ⟨rfl, rfl⟩
  rw [show (⟨seed.toArray⟩ : ByteArray).data.toList = seed from rfl]
  go_wp2_with fail
  refine (manyError_calls _ _).mono ?_
  rintro e w3 ⟨rfl, hm3⟩
  go_wp2_with fail
  refine (firstE_calls _ _ _ [idsE keyE ids, keyErr seed, manyErr many] (Blk.new _ _ _).row0 (by simp)).mono ?_
  rintro e w4 ⟨rfl, hm4⟩
  have m4 : Pure w w4 := ((hm1.trans hm3).alloc _).trans hm4
  obtain ⟨er, her⟩ : ∃ er, firstErr [idsE keyE ids, keyErr seed, manyErr many] = er := ⟨_, rfl⟩
  have HE : Hid (leastE ids seed many = er) := Lib.hid her
  rw [her]
  clear HID hm1 hm3 hm4
  by_cases h0 : er = 0
  · subst h0
    obtain ⟨e1, e2, e3⟩ := firstErr3z her
    obtain ⟨m, rfl, hm2000⟩ := many_nat e3
    have HC := Lib.hid (least_calls w4 _ ids seed m (HV.out.pure m4) HZ.out hzs hl (by omega) (ids_sorted e1))
    clear e1 e2 e3 her
    go_wp2_with fail
    refine HC.out.mono ?_
    rintro e w5 ⟨vo, out, rfl, hsp, hsl, hm5⟩
    obtain ⟨Ao, no, co, rfl⟩ := hsl.form
    have HSP := Lib.hid hsp
    have HSL := Lib.hid hsl
    clear hsp hsl
    go_wp2_with fail
    go_ret2
    exact ⟨_, by rw [HE.out]; rfl, fun h => absurd HE.out h, fun _ => ⟨out, by rw [Int.toNat_natCast]; exact HSP.out, HSL.out⟩, m4.trans hm5⟩
  · have hne : (er != 0) = true := by simpa using h0
    clear her
    go_wp2_with fail
    go_ret2
    exact ⟨_, by rw [HE.out]; rfl, fun _ => rfl, fun h => absurd (HE.out.symm.trans h) h0, m4⟩


end Go.Proofs.YtkchninlhemioaaGreatDoor

/- The law SampleLeasts. -/
namespace Go.Proofs.YtkchninlhemioaaGreatDoor
set_option linter.unusedVariables false
set_option linter.unusedSimpArgs false
open Go.RowKit

theorem seedsz2 : ∀ s ∈ seeds, s.length ≤ 3 := by decide
theorem firstErr_nest (a b c : Int) : firstErr [a, b, c] = firstErr [firstErr [a, b], c] := by
  by_cases ha : a = 0 <;> by_cases hb : b = 0 <;> simp [firstErr, ha, hb]
theorem firstErr_hit (a c : Int) (h : a ≠ 0) : firstErr [a, c] = a := by simp only [firstErr]; rw [if_neg h]
theorem firstErr_miss (c : Int) : firstErr [0, c] = c := by simp only [firstErr]; split <;> simp_all
theorem share_range {n d : Int} : shareErr n d = 0 ∨ shareErr n d = 1 := by unfold shareErr; split <;> simp
theorem many_range {n : Int} : manyErr n = 0 ∨ manyErr n = 1 := by unfold manyErr; split <;> simp

set_option maxRecDepth 100000 in
set_option maxHeartbeats 8000000 in
theorem SampleLeasts_calls (w : World) (A : Option Addr) (n c : Nat) (hA : ArgInts w A n) :
    Calls Tryz.prog 3 #[.slice A n c] w (BoolPost w true) := by
  have hS0 := strm_new (c := c) hA
  go_enter Tryz.func3, Tryz.ntmps3
  go_wp2_with fail
  refine (range_calls _ _ _ _ _ hS0 (by omega) (by omega) (by omega) (by omega)).mono ?_
  rintro e w1 ⟨n', hn1, hn2, rfl, hS1, hM1⟩
  obtain ⟨m, rfl⟩ := Int.eq_ofNat_of_zero_le hn1
  have hm14 : m ≤ 14 := by omega
  have m1 : Pure w w1 := ((Mod.refl _ w).alloc _).trans' hM1 (fun i hi hlt => by omega)
  have hz1' := hM1.size
  simp at hz1'
  clear hn1 hn2 hM1 hS0
  generalize hb : w.heap.size = b at *
  have hwb := Nat.le_of_eq hb
  clear hb
  go_wp2_with fail
  refine (keys_calls _ _ _ m hS1 (by omega) (by omega)).mono ?_
  rintro e w2 ⟨vi, ni, ids, rfl, hil, hi3, howni, hS2, hM2⟩
  have m2 : Pure w w2 := m1.trans' hM2 (fun i hi hlt => by omega)
  have hsi := Sl.of_own howni
  have hz2' := hM2.size
  have hi1000 : ∀ s ∈ ids, s.length ≤ 1000 := fun s hs => Nat.le_trans (hi3 s hs) (by omega)
  have HI := Lib.hid hi1000
  clear hi3 hi1000 hM2 m1 hS1 howni
  go_wp2_with fail
  refine (seed_calls _ _ _ hS2 (by omega)).mono ?_
  rintro e w3 ⟨seed, hseed, rfl, hS3, hM3⟩
  have hsd := seedsz2 seed hseed
  have m3 : Pure w w3 := m2.trans' hM3 (fun i hi hlt => by omega)
  have hsi3 := hsi.strm hS2 hM3 (by decide)
  have hz3' := hM3.size
  have HSI := Lib.hid hsi3
  clear hsi hS2 hM3 m2 hseed hsi3
  obtain ⟨Ai, nni, ci, rfl⟩ := HSI.out.form
  go_wp2_with fail
  refine (pick_calls _ _ _ _ _ [0, 1, 3, 5, 14, 2000, -1, 2001] (hS3.alloc _) (by omega) (Blk.new _ _ _) (by omega) (by simp) (by simp)).mono ?_
  rintro e w4 ⟨many, hq', rfl, hS4, hM4⟩
  have hq : -1 ≤ many ∧ many ≤ 2001 := by simp at hq'; omega
  have m4 : Pure w w4 := (m3.alloc _).trans' hM4 (fun i hi hlt => by omega)
  have hsi4 := (HSI.out.pure (pure_alloc w3 (.cells #[.int .i64 0, .int .i64 1, .int .i64 3, .int .i64 5, .int .i64 14, .int .i64 2000, .int .i64 (-1), .int .i64 2001] 3))).strm (hS3.alloc _) hM4 (by decide)
  have hz4' := hM4.size
  simp at hz4'
  have HSI4 := Lib.hid hsi4
  clear HSI hS3 hM4 m3 hq' hsi4
  go_wp2_with fail
  refine (share_calls _ _ _ hS4 (by omega)).mono ?_
  rintro e w5 ⟨nu, de, hP, rfl, hS5, hM5⟩
  have m5 : Pure w w5 := m4.trans' hM5 (fun i hi hlt => by omega)
  have hsi5 := HSI4.out.strm hS4 hM5 (by decide)
  have hz5' := hM5.size
  clear HSI4 hS4 hM5 m4 hS5 hP
  have s3 := Blk.new w5 32 #[.int .i64 nu, .int .i64 de]
  have hv3 := hsi5.pure (pure_alloc w5 (.cells #[.int .i64 nu, .int .i64 de] 32))
  have m6 : Pure w (w5.alloc (.cells #[.int .i64 nu, .int .i64 de] 32)) := m5.alloc _
  have HSI6 := Lib.hid hv3
  have y0 : (⟨seed.toArray⟩ : ByteArray).size ≤ 1000000 := by simp [ByteArray.size]; omega
  clear hsi5 m5 hv3
  go_wp2_with fail
  refine (Least_calls _ _ ids seed many HSI6.out HI.out (by omega) (by omega)).mono ?_
  rintro e w7 ⟨va, rfl, hna, hoa, hm7⟩
  have s7 := s3.modp hm7
  have HSI7 := Lib.hid (HSI6.out.pure hm7)
  have m7 := m6.trans hm7
  have HNA := Lib.hid hna
  have HOA := Lib.hid hoa
  clear s3 HSI6 m6 hm7 hna hoa
  have hfa : ∃ A n c, va = .slice A n c := by
    by_cases h : leastE ids seed many = 0
    · obtain ⟨out, _, hs⟩ := HOA.out h
      exact hs.form
    · exact ⟨_, _, _, HNA.out h⟩
  obtain ⟨Aa, na, ca, rfl⟩ := hfa
  generalize w5.heap.size = gf at *
  have q0 := s7.cell 0; have q1 := s7.cell 1; simp at q0 q1
  go_wp2_with fail
  refine (Part_calls _ _ ids seed nu de HSI7.out HI.out (by omega) (by omega)).mono ?_
  rintro e w8 ⟨vb, rfl, hnb, hob, hm8⟩
  have s8 := s7.modp hm8
  have HSI8 := Lib.hid (HSI7.out.pure hm8)
  have HOA8 : Hid (leastE ids seed many = 0 → ∃ out, LeastSpec (hashB seed) ids many.toNat out ∧ Sl w8 9 1 (.slice Aa na ca) (strsV out)) := Lib.hid fun h => by
    obtain ⟨out, h1, h2⟩ := HOA.out h
    exact ⟨out, h1, h2.pure hm8⟩
  have m8 := m7.trans hm8
  have HNB := Lib.hid hnb
  have HOB := Lib.hid hob
  clear s7 HSI7 m7 hm8 hnb hob q0 q1 HOA
  have hfb : ∃ A n c, vb = .slice A n c := by
    by_cases h : partE ids seed nu de = 0
    · obtain ⟨out, _, hs⟩ := HOB.out h
      exact hs.form
    · exact ⟨_, _, _, HNB.out h⟩
  obtain ⟨Ab, nb, cb, rfl⟩ := hfb
  go_wp2_with fail
  refine (idsFault_calls _ _ ids HSI8.out HI.out (by omega)).mono ?_
  rintro e wa ⟨rfl, hma⟩
  go_wp2_with fail
  refine (seedFault_calls _ _ y0).mono ?_
  rintro e wd ⟨rfl, hmd⟩
  rw [show keyE (⟨seed.toArray⟩ : ByteArray).data.toList = keyErr seed from rfl]
  go_wp2_with fail
  refine (wrongOr_calls _ _ _ [idsE keyE ids, keyErr seed] (Blk.new _ _ _).row0 (by simp)).mono ?_
  rintro e wf ⟨rfl, hmf⟩
  have pf : Pure w8 wf := ((hma.trans hmd).alloc _).trans hmf
  have s9 := s8.modp pf
  have m9 := m8.trans pf
  clear hma hmd hmf
  have q0 := s9.cell 0; have q1 := s9.cell 1; simp at q0 q1
  go_wp2_with fail
  refine (shareFault_calls _ nu de).mono ?_
  rintro e wg ⟨rfl, hmg⟩
  obtain ⟨f, hf⟩ : ∃ f, firstErr [idsE keyE ids, keyErr seed] = f := ⟨_, rfl⟩
  have HF := Lib.hid hf
  have HLE : Hid (leastE ids seed many = firstErr [f, manyErr many]) := Lib.hid (by rw [← hf, ← firstErr_nest]; rfl)
  have HPE : Hid (partE ids seed nu de = firstErr [f, shareErr nu de]) := Lib.hid (by rw [← hf, ← firstErr_nest]; rfl)
  rw [hf]
  clear hf
  go_wp2_with fail
  refine (wrongOr_calls _ _ _ [f, shareErr nu de] (Blk.new _ _ _).row0 (by simp)).mono ?_
  rintro e wh ⟨rfl, hmh⟩
  have ph : Pure w8 wh := ((pf.trans hmg).alloc _).trans hmh
  have s10 := s8.modp ph
  have m10 := m8.trans ph
  have HSI10 := Lib.hid (HSI8.out.pure ph)
  have HOA10 : Hid (leastE ids seed many = 0 → ∃ out, LeastSpec (hashB seed) ids many.toNat out ∧ Sl wh 9 1 (.slice Aa na ca) (strsV out)) := Lib.hid fun h => by
    obtain ⟨out, h1, h2⟩ := HOA8.out h
    exact ⟨out, h1, h2.pure ph⟩
  have HOB10 : Hid (partE ids seed nu de = 0 → ∃ out, out = ids.filter (partB seed nu de) ∧ Sl wh 9 1 (.slice Ab nb cb) (strsV out)) := Lib.hid fun h => by
    obtain ⟨out, h1, h2⟩ := HOB.out h
    exact ⟨out, h1, h2.pure ph⟩
  have HSO : Hid (f = 0 → ids.Pairwise (· < ·)) := Lib.hid fun h => ids_sorted (firstErr_zero (HF.out.trans h) _ (by simp))
  clear hmg hmh pf ph s8 s9 m8 m9 HSI8 HOA8 HOB q0 q1
  rw [HLE.out] at HNA HOA10 ⊢
  rw [HPE.out] at HNB HOB10 ⊢
  by_cases h0 : f = 0
  · subst h0
    rw [firstErr_miss] at HNA HOA10
    rw [firstErr_miss] at HNB HOB10
    rw [firstErr_miss, firstErr_miss]
    have hso := HSO.out rfl
    have HSO2 := Lib.hid hso
    clear HSO hso
    obtain ⟨me, hme⟩ : ∃ me, manyErr many = me := ⟨_, rfl⟩
    obtain ⟨se, hse⟩ : ∃ se, shareErr nu de = se := ⟨_, rfl⟩
    have HME := Lib.hid hme
    have HSE := Lib.hid hse
    rw [hme] at HNA HOA10 ⊢
    rw [hse] at HNB HOB10 ⊢
    clear hme hse
    rcases (show me = 0 ∨ me = 1 from HME.out ▸ many_range) with rfl | rfl
    · rcases (show se = 0 ∨ se = 1 from HSE.out ▸ share_range) with rfl | rfl
      · obtain ⟨mm, hmm, hm2000⟩ := many_nat HME.out
        subst hmm
        obtain ⟨outA, hspA, hslA⟩ := HOA10.out rfl
        rw [Int.toNat_natCast] at hspA
        have HSPA := Lib.hid hspA
        have HSLA := Lib.hid hslA
        have HCA := Lib.hid (LeastOf_calls wh _ ids seed mm HSI10.out HI.out (by omega) (by omega) (by omega) HSO2.out)
        have g1 : ¬ ((mm : Int) < 0) := by omega
        have g2 : ¬ ((2000 : Int) < (mm : Int)) := by omega
        clear hspA hslA hm2000
        obtain ⟨p1, p2, p3, p4⟩ := share_ok HSE.out
        obtain ⟨outB, hspB, hslB⟩ := HOB10.out rfl
        subst hspB
        have HSLB := Lib.hid hslB
        have HCB := Lib.hid (fun W (h : Pure wh W) => PartOf_calls W _ ids seed nu de (HSI10.out.pure h) HI.out (by omega) (by omega) p1 p2 p3 p4)
        clear hslB
        clear HOA10 HOB10 HNA HNB HME HSE HF HLE HPE
        go_wp2_with fail
        refine HCA.out.mono ?_
        rintro e wi ⟨vi2, out2, rfl, hsp2, hsl2, hmi⟩
        obtain rfl := hsp2.unique HSPA.out
        go_wp2_with fail
        refine (equalStrs_calls _ _ _ _ (HSLA.out.pure hmi) hsl2).mono ?_
        rintro e wj ⟨rfl, hmj⟩
        have pj := hmi.trans hmj
        have sj := s10.modp pj
        clear hmi hmj hsl2 hsp2
        have q0 := sj.cell 0; have q1 := sj.cell 1; simp at q0 q1
        go_wp2_with fail
        refine (HCB.out _ pj).mono ?_
        rintro e wk ⟨vk, rfl, hslk, hmk⟩
        go_wp2_with fail
        refine (equalStrs_calls _ _ _ _ (HSLB.out.pure (pj.trans hmk)) hslk).mono ?_
        rintro e wl ⟨rfl, hml⟩
        have pl := (pj.trans hmk).trans hml
        clear hmk hml hslk
        go_wp2_with fail
        refine (drawn_calls _).mono ?_
        rintro e wm ⟨rfl, hmm⟩
        go_wp2_with fail
        go_ret
        exact BoolPost.of rfl ((m10.trans pl).trans hmm)
      · obtain ⟨mm, hmm, hm2000⟩ := many_nat HME.out
        subst hmm
        obtain ⟨outA, hspA, hslA⟩ := HOA10.out rfl
        rw [Int.toNat_natCast] at hspA
        have HSPA := Lib.hid hspA
        have HSLA := Lib.hid hslA
        have HCA := Lib.hid (LeastOf_calls wh _ ids seed mm HSI10.out HI.out (by omega) (by omega) (by omega) HSO2.out)
        have g1 : ¬ ((mm : Int) < 0) := by omega
        have g2 : ¬ ((2000 : Int) < (mm : Int)) := by omega
        clear hspA hslA hm2000
        obtain ⟨rfl, rfl, rfl⟩ : Ab = none ∧ nb = 0 ∧ cb = 0 := by
          have h := HNB.out (by omega)
          injection h with h1 h2 h3
          exact ⟨h1, h2, h3⟩
        clear HOA10 HOB10 HNA HNB HME HSE HF HLE HPE
        go_wp2_with fail
        refine HCA.out.mono ?_
        rintro e wi ⟨vi2, out2, rfl, hsp2, hsl2, hmi⟩
        obtain rfl := hsp2.unique HSPA.out
        go_wp2_with fail
        refine (equalStrs_calls _ _ _ _ (HSLA.out.pure hmi) hsl2).mono ?_
        rintro e wj ⟨rfl, hmj⟩
        have pj := hmi.trans hmj
        have sj := s10.modp pj
        clear hmi hmj hsl2 hsp2
        have q0 := sj.cell 0; have q1 := sj.cell 1; simp at q0 q1
        have pl := pj
        obtain ⟨wl, rfl⟩ : ∃ wl, wl = wj := ⟨_, rfl⟩
        go_wp2_with fail
        refine (drawn_calls _).mono ?_
        rintro e wm ⟨rfl, hmm⟩
        go_wp2_with fail
        go_ret
        exact BoolPost.of rfl ((m10.trans pl).trans hmm)
    · rcases (show se = 0 ∨ se = 1 from HSE.out ▸ share_range) with rfl | rfl
      · have hbad : many < 0 ∨ 2000 < many := by
          have h := HME.out
          unfold manyErr at h
          split at h
          · omega
          · omega
        obtain ⟨rfl, rfl, rfl⟩ : Aa = none ∧ na = 0 ∧ ca = 0 := by
          have h := HNA.out (by omega)
          injection h with h1 h2 h3
          exact ⟨h1, h2, h3⟩
        obtain ⟨p1, p2, p3, p4⟩ := share_ok HSE.out
        obtain ⟨outB, hspB, hslB⟩ := HOB10.out rfl
        subst hspB
        have HSLB := Lib.hid hslB
        have HCB := Lib.hid (fun W (h : Pure wh W) => PartOf_calls W _ ids seed nu de (HSI10.out.pure h) HI.out (by omega) (by omega) p1 p2 p3 p4)
        clear hslB
        clear HOA10 HOB10 HNA HNB HME HSE HF HLE HPE
        rcases hbad with hb1 | hb1
        · have g1 : many < 0 := hb1
          have pj : Pure wh wh := Mod.refl _ _
          have sj := s10
          obtain ⟨wj, rfl⟩ : ∃ wj, wj = wh := ⟨_, rfl⟩
          have q0 := sj.cell 0; have q1 := sj.cell 1; simp at q0 q1
          go_wp2_with fail
          refine (HCB.out _ pj).mono ?_
          rintro e wk ⟨vk, rfl, hslk, hmk⟩
          go_wp2_with fail
          refine (equalStrs_calls _ _ _ _ (HSLB.out.pure (pj.trans hmk)) hslk).mono ?_
          rintro e wl ⟨rfl, hml⟩
          have pl := (pj.trans hmk).trans hml
          clear hmk hml hslk
          go_wp2_with fail
          refine (drawn_calls _).mono ?_
          rintro e wm ⟨rfl, hmm⟩
          go_wp2_with fail
          go_ret
          exact BoolPost.of rfl ((m10.trans pl).trans hmm)
        · have g1 : ¬ (many < 0) := by omega
          have g2 : (2000 : Int) < many := hb1
          have pj : Pure wh wh := Mod.refl _ _
          have sj := s10
          obtain ⟨wj, rfl⟩ : ∃ wj, wj = wh := ⟨_, rfl⟩
          have q0 := sj.cell 0; have q1 := sj.cell 1; simp at q0 q1
          go_wp2_with fail
          refine (HCB.out _ pj).mono ?_
          rintro e wk ⟨vk, rfl, hslk, hmk⟩
          go_wp2_with fail
          refine (equalStrs_calls _ _ _ _ (HSLB.out.pure (pj.trans hmk)) hslk).mono ?_
          rintro e wl ⟨rfl, hml⟩
          have pl := (pj.trans hmk).trans hml
          clear hmk hml hslk
          go_wp2_with fail
          refine (drawn_calls _).mono ?_
          rintro e wm ⟨rfl, hmm⟩
          go_wp2_with fail
          go_ret
          exact BoolPost.of rfl ((m10.trans pl).trans hmm)
      · have hbad : many < 0 ∨ 2000 < many := by
          have h := HME.out
          unfold manyErr at h
          split at h
          · omega
          · omega
        obtain ⟨rfl, rfl, rfl⟩ : Aa = none ∧ na = 0 ∧ ca = 0 := by
          have h := HNA.out (by omega)
          injection h with h1 h2 h3
          exact ⟨h1, h2, h3⟩
        obtain ⟨rfl, rfl, rfl⟩ : Ab = none ∧ nb = 0 ∧ cb = 0 := by
          have h := HNB.out (by omega)
          injection h with h1 h2 h3
          exact ⟨h1, h2, h3⟩
        clear HOA10 HOB10 HNA HNB HME HSE HF HLE HPE
        rcases hbad with hb1 | hb1
        · have g1 : many < 0 := hb1
          have pj : Pure wh wh := Mod.refl _ _
          have sj := s10
          obtain ⟨wj, rfl⟩ : ∃ wj, wj = wh := ⟨_, rfl⟩
          have q0 := sj.cell 0; have q1 := sj.cell 1; simp at q0 q1
          have pl := pj
          obtain ⟨wl, rfl⟩ : ∃ wl, wl = wj := ⟨_, rfl⟩
          go_wp2_with fail
          refine (drawn_calls _).mono ?_
          rintro e wm ⟨rfl, hmm⟩
          go_wp2_with fail
          go_ret
          exact BoolPost.of rfl ((m10.trans pl).trans hmm)
        · have g1 : ¬ (many < 0) := by omega
          have g2 : (2000 : Int) < many := hb1
          have pj : Pure wh wh := Mod.refl _ _
          have sj := s10
          obtain ⟨wj, rfl⟩ : ∃ wj, wj = wh := ⟨_, rfl⟩
          have q0 := sj.cell 0; have q1 := sj.cell 1; simp at q0 q1
          have pl := pj
          obtain ⟨wl, rfl⟩ : ∃ wl, wl = wj := ⟨_, rfl⟩
          go_wp2_with fail
          refine (drawn_calls _).mono ?_
          rintro e wm ⟨rfl, hmm⟩
          go_wp2_with fail
          go_ret
          exact BoolPost.of rfl ((m10.trans pl).trans hmm)
  · have hf1 : (f == 0) = false := by simpa using h0
    have hf2 : (f != 0) = true := by simpa using h0
    have hf3 : (f != f) = false := by simp
    rw [firstErr_hit _ _ h0] at HNA
    rw [firstErr_hit _ _ h0] at HNB
    rw [firstErr_hit _ _ h0, firstErr_hit _ _ h0]
    obtain ⟨rfl, rfl, rfl⟩ : Aa = none ∧ na = 0 ∧ ca = 0 := by
      have h := HNA.out h0
      injection h with h1 h2 h3
      exact ⟨h1, h2, h3⟩
    obtain ⟨rfl, rfl, rfl⟩ : Ab = none ∧ nb = 0 ∧ cb = 0 := by
      have h := HNB.out h0
      injection h with h1 h2 h3
      exact ⟨h1, h2, h3⟩
    clear HOA10 HOB10 HNA HNB HF HLE HPE HSO h0
    go_wp2_with fail
    refine (drawn_calls _).mono ?_
    rintro e wm ⟨rfl, hmm⟩
    go_wp2_with fail
    go_ret
    exact BoolPost.of rfl (m10.trans hmm)

end Go.Proofs.YtkchninlhemioaaGreatDoor
