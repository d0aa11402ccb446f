/- Texts of the proof of SampleStrata, put together: LeastS. -/
import Derived.Test.YtkchninlhemioaaGreatDoorSampleStrataZ4
import Derived.Test.YtkchninlhemioaaGreatDoorSampleStrataZ31
import Derived.Shelf.SlSortCmp.NoneTotal
/- sample.least and Least: the sort by hash. -/
namespace Go.Proofs.YtkchninlhemioaaGreatDoor
set_option linter.unusedVariables false
set_option linter.unusedSimpArgs false
open Go.RowKit Go.Sort

def SortedPost (w : World) (base g cap n : Nat) (seed : Str) (xs : List Str) (e : Ending) (w' : World) : Prop :=
  ∃ s, s.Perm xs ∧ s.Pairwise (fun x y => ¬ ltH (hashB seed) y x) ∧ e = .returned (.tuple #[]) ∧ w'.ownsRow base 9 1 (.slice (some ⟨g, 0, none⟩) n cap) n (strsV s) ∧ Mod (fun j => j = g) w w'
theorem ltH_swo (seed : Str) : SWO (ltOf (leastCmp seed)) := by
  have hb : ∀ x y, ltOf (leastCmp seed) x y = true ↔ ltH (hashB seed) x y := fun x y => leastCmp_lt seed x y
  have hf : ∀ x y, ltOf (leastCmp seed) x y = false ↔ ¬ ltH (hashB seed) x y := fun x y => by rw [← hb, Bool.not_eq_true]
  refine ⟨fun x => (hf x x).2 (fun h => ltH_asymm _ _ _ h h), fun x y z h1 h2 => ?_, fun x y z h1 h2 => ?_⟩
  · rw [hb] at h1 h2 ⊢
    unfold ltH at *
    rcases h1 with h1 | ⟨h1, h3⟩ <;> rcases h2 with h2 | ⟨h2, h4⟩
    · exact .inl (by omega)
    · exact .inl (by omega)
    · exact .inl (by omega)
    · exact .inr ⟨by omega, List.lt_trans h3 h4⟩
  · rw [hf] at h1 h2 ⊢
    unfold ltH at *
    intro h3
    have a1 : ¬ hashB seed x < hashB seed y := fun h => h1 (.inl h)
    have a2 : ¬ hashB seed y < hashB seed z := fun h => h2 (.inl h)
    rcases h3 with h3 | ⟨h3, h4⟩
    · omega
    · have e1 : hashB seed x = hashB seed y := by omega
      have e2 : hashB seed y = hashB seed z := by omega
      have b1 : y ≤ x := by simpa using fun h => h1 (.inr ⟨e1, h⟩)
      have b2 : z ≤ y := by simpa using fun h => h2 (.inr ⟨e2, h⟩)
      have b3 : z ≤ x := List.le_trans b2 b1
      exact absurd h4 (by simpa using b3)
abbrev ShortS := {s : Str // s.length ≤ 1000}
instance : Inhabited ShortS := ⟨⟨[], by simp⟩⟩
def encB (x : ShortS) : Value := .string ⟨x.1.toArray⟩
theorem map_get! (d : Array ShortS) (i : Nat) (h : i < d.size) : (d.map (·.1))[i]! = d[i]!.1 := by
  rw [getElem!_pos (d.map (·.1)) i (by simpa using h), getElem!_pos d i h]
  simp
theorem putRow_short (w : World) (g off : Nat) (d : Array ShortS) : putRow encB w g off d = putRow encStr w g off (d.map (·.1)) := by
  unfold putRow
  congr 1
  funext c
  unfold putCells
  congr 1
  funext k x
  rw [Array.size_map]
  split
  · rename_i h
    rw [map_get! d (k - off) (by omega)]
    rfl
  · rfl
theorem sortWorld_short (w : World) (g m : Nat) (dk : Array ShortS) (os : Array Obj) : sortWorld encB w g 0 m dk os = grow (putRow encStr (Sort.ahead w m) g 0 (dk.map (·.1))) os := by
  unfold sortWorld
  rw [putRow_short]
theorem sortF0_calls (p : Option Addr) (cap : Nat) (fv : Value) (w : World) : Calls Tryz.prog 60 #[.slice p 0 cap, fv] w fun e w' => e = .returned (.tuple #[]) ∧ w' = w :=
  AnyF.slices_SortFunc_none { Tryz.layF6 with } p cap fv w
set_option maxRecDepth 100000 in
theorem sortF_calls (w : World) (base g cap n gs : Nat) (seed : Str) (xs : List Str) (hown : w.ownsRow base 9 1 (.slice (some ⟨g, 0, none⟩) n cap) n (strsV xs)) (hn : n ≤ 1000000) (hne : gs ≠ g) (hc : w.cell? ⟨gs, 0, none⟩ = some (.string ⟨seed.toArray⟩))
    (hz : ∀ s : Str, s ∈ xs → s.length ≤ 1000) (hzs : seed.length ≤ 1000) :
    Calls Tryz.prog 60 #[.slice (some ⟨g, 0, none⟩) n cap, .func (.func 61) #[] #[.pointer (some ⟨gs, 0, none⟩)]] w (SortedPost w base g cap n seed xs) := by
  have hlx : n = xs.length := by have := hown.1; simp [strsV] at this; omega
  subst hlx
  rcases hown.2 with ⟨h0, _⟩ | ⟨g', cap', cur, hv, hbase, hb, h1, h2, h3, h4⟩
  · cases h0
  cases hv
  obtain ⟨d, hd, hds⟩ : ∃ d : Array ShortS, d.map (·.1) = xs.toArray ∧ d.size = xs.length := ⟨(xs.attachWith (fun s => s.length ≤ 1000) hz).toArray, by simp, by simp⟩
  have hH0 := holds_of_block hb (by simpa [strsV] using h4)
  rw [← hd] at hH0
  have hH : Holds encB w g 0 d := by
    intro j hj
    obtain ⟨k1, k2⟩ := hH0 j (by simpa using hj)
    rw [map_get! d j hj] at k1
    exact ⟨k1, k2⟩
  have hcmp : CmpLays1 Tryz.prog 61 #[.pointer (some ⟨gs, 0, none⟩)] encB (fun x y => leastCmp seed x.1 y.1) g 0 d.size w := by
    intro m os dk hs x y
    have hmod : Mod (fun j => j = g) w (sortWorld encB w g 0 m dk os) := by
      rw [sortWorld_short]
      exact (grown_mod (grownBy_sorted _)).mono (fun k hk => by injection hk with hk; exact hk.symm)
    refine (least1_calls (sortWorld encB w g 0 m dk os) x.1 y.1 seed gs (hmod.keep hc hne) x.2 y.2 hzs).mono ?_
    rintro e w' ⟨rfl, hm, hdr⟩
    exact ⟨rfl, grow_of_pure hm hdr⟩
  have hO : SWO (ltOf fun x y : ShortS => leastCmp seed x.1 y.1) := by
    have h := ltH_swo seed
    exact ⟨fun x => h.irrefl x.1, fun x y z => h.trans x.1 y.1 z.1, fun x y z => h.ntrans x.1 y.1 z.1⟩
  have hcall := Any.slices_SortFunc Tryz.layF6 encB (fun _ => rfl) (fun x y => leastCmp seed x.1 y.1) hO 61 #[.pointer (some ⟨gs, 0, none⟩)] g 0 cap d w (fun _ _ => rfl) hcmp hH (lt_of_heap hb) (by omega)
  rw [hds] at hcall
  refine hcall.mono ?_
  rintro e w' ⟨rfl, d', nn, os, hp, hso, rfl⟩
  obtain ⟨p1, _, p3⟩ := hp
  have hz2 : d'.size = xs.length := p1.trans hds
  have e1 : d'.extract 0 xs.length = d' := by rw [← hz2]; exact Array.extract_size
  have e2 : d.extract 0 xs.length = d := by rw [← hds]; exact Array.extract_size
  rw [e1, e2] at p3
  have hperm : (d'.map (·.1)).toList.Perm xs := by
    have := p3.map (fun x : ShortS => x.1)
    rw [← Array.toList_map, ← Array.toList_map, hd] at this
    simpa using this
  refine ⟨(d'.map (·.1)).toList, hperm, ?_, rfl, ?_, ?_⟩
  · rw [List.pairwise_iff_getElem]
    intro i j hi hj hij
    have hi' : i < d'.size := by simpa using hi
    have hj' : j < d'.size := by simpa using hj
    have := hso i j (by omega) hij (by omega)
    rw [getElem!_pos d' i hi', getElem!_pos d' j hj'] at this
    intro hlt
    have h5 := (leastCmp_lt seed _ _).2 hlt
    simp only [ltOf, Array.toList_map, List.getElem_map, Array.getElem_toList] at this h5
    rw [this] at h5
    cases h5
  · rw [sortWorld_short]
    have := ownsRow_sorted (n := nn) (os := os) (ts := (d'.map (·.1)).toList) (ss := xs) (by simpa using hz2) hbase hb h1 h2 h3
    rw [Array.toArray_toList] at this
    exact this
  · rw [sortWorld_short]
    exact (grown_mod (grownBy_sorted _)).mono (fun k hk => by injection hk with hk; exact hk.symm)

theorem min_cast (a b : Nat) : (if (b : Int) < (a : Int) then (b : Int) else (a : Int)) = ((min a b : Nat) : Int) := by
  split <;> omega

set_option maxRecDepth 100000 in
set_option maxHeartbeats 4000000 in
theorem least_calls (w : World) (v : Value) (ids : List Str) (seed : Str) (many : Nat) (hv : Sl w 9 1 v (strsV ids)) (hz : ∀ s ∈ ids, s.length ≤ 1000) (hzs : seed.length ≤ 1000) (hl : ids.length ≤ 2000) (hmany : many ≤ 1000000000) (hsort : ids.Pairwise (· < ·)) :
    Calls Tryz.prog 35 #[v, .string ⟨seed.toArray⟩, .int .i64 (many : Int)] w (LeastPost w seed ids many) := by
  have HZ := Lib.hid hz
  have HSO := Lib.hid hsort
  have HCL := Lib.hid (cloneS_calls (w.alloc (.cells #[.string ⟨seed.toArray⟩] 9)) v ids (hv.pure (pure_alloc _ _)) (by omega))
  obtain ⟨A, n, c, rfl⟩ := hv.form
  clear hz hsort hv
  go_enter Tryz.func35, Tryz.ntmps35
  go_wp2_with fail
  refine HCL.out.mono ?_
  rintro e w1 ⟨vc, rfl, hown, hm1⟩
  have B1 := (Blk.new w 9 #[.string ⟨seed.toArray⟩]).modp hm1
  have m1 : Pure w w1 := (pure_alloc _ _).trans hm1
  have hz1 := m1.size
  rw [World.size_alloc] at hown
  clear HCL hm1
  generalize hgs : w.heap.size = gs at *
  have hgs1 := Nat.le_of_eq hgs
  clear hgs
  by_cases h0 : ids.length = 0
  · have e0 : ids = [] := List.eq_nil_of_length_eq_zero h0
    subst e0
    have hmn : min (many : Int) 0 = 0 := by omega
    have HSP : Hid (LeastSpec (hashB seed) [] many []) := Lib.hid ⟨List.Pairwise.nil, fun x h => h, fun x h => absurd h (by simp), by simp⟩
    have HSL := Lib.hid (Sl.of_own hown)
    have hown2 := hown.2
    clear hown
    rcases hown2 with ⟨rfl, _⟩ | ⟨g, cap, cur, rfl, _, _, hcap, hcap2, _⟩
    · go_wp2_with fail
      with_reducible refine (sortF0_calls none 0 _ _).mono ?_
      rintro e w2 ⟨rfl, rfl⟩
      go_wp2_with fail
      refine (Any.slices_Sort_string_none Tryz.lays190 none 0 _).mono ?_
      rintro e w' ⟨rfl, rfl⟩
      go_wp2_with fail
      go_ret
      exact ⟨_, [], rfl, HSP.out, HSL.out, m1⟩
    · go_wp2_with fail
      with_reducible refine (sortF0_calls (some ⟨g, 0, none⟩) cap _ _).mono ?_
      rintro e w2 ⟨rfl, rfl⟩
      go_wp2_with fail
      refine (Any.slices_Sort_string_none Tryz.lays190 (some ⟨g, 0, none⟩) cap _).mono ?_
      rintro e w' ⟨rfl, rfl⟩
      go_wp2_with fail
      go_ret
      exact ⟨_, [], rfl, HSP.out, HSL.out, m1⟩
  · obtain ⟨g, cap, rfl, hg1, hg2, hcap, hcap2⟩ := own_form hown (by omega)
    have HSF := Lib.hid (sortF_calls w1 (gs + 1) g cap ids.length gs seed ids hown (by omega) (by omega) (B1.cell 0) HZ.out hzs)
    clear hown
    go_wp2_with fail
    refine HSF.out.mono ?_
    rintro e w2 ⟨s, hperm, hps, rfl, own2, hm2⟩
    have m2 : Pure w w2 := m1.trans' hm2 (fun i hi hlt => by omega)
    have hsl : s.length = ids.length := hperm.length_eq
    have HSPEC := Lib.hid (least_of_sorted (many := many) HSO.out hperm hps)
    rw [hsl] at HSPEC
    have hmn : min (many : Int) (ids.length : Int) = ((min many ids.length : Nat) : Int) := by omega
    have hmle : min many ids.length ≤ ids.length := Nat.min_le_right _ _
    have own3 := own_shrink own2 hmle
    have e3 : (strsV s).take (min many ids.length) = strsV (s.take (min many ids.length)) := by simp [strsV, List.map_take]
    rw [e3] at own3
    have hl3 : (s.take (min many ids.length)).length ≤ 1000000 := by rw [List.length_take]; omega
    have HSORT := Lib.hid (sortS_calls w2 _ _ (gs + 1) _ own3 hl3)
    clear e3 own2 own3 hl3 hperm hps hsl HSF B1 hm2
    generalize (s.take (min many ids.length)) = st at *
    generalize (min many ids.length) = mn at *
    have hmle2 : mn ≤ cap := by omega
    go_wp2_with fail
    with_reducible refine HSORT.out.mono ?_
    rintro e w3 ⟨rfl, own4, hm4⟩
    have m3 : Pure w w3 := m2.trans' hm4 (fun i hi hlt => by simp [Value.ownBlock] at hi; omega)
    go_wp2_with fail
    go_ret
    exact ⟨_, _, rfl, HSPEC.out, Sl.of_own own4, m3⟩

set_option maxRecDepth 100000 in
set_option maxHeartbeats 4000000 in
theorem Least_calls (w : World) (v : Value) (ids : List Str) (seed : Str) (many : Int) (hv : Sl w 9 1 v (strsV ids)) (hz : ∀ s ∈ ids, s.length ≤ 1000) (hzs : seed.length ≤ 1000) (hl : ids.length ≤ 2000) :
    Calls Tryz.prog 10 #[v, .string ⟨seed.toArray⟩, .int .i64 many] w (ListErr w (leastE ids seed many) (LeastSpec (hashB seed) ids many.toNat)) := by
  have HV := Lib.hid hv
  have HZ := Lib.hid hz
  have y3 : (⟨seed.toArray⟩ : ByteArray).size ≤ 1000000 := by simp [ByteArray.size]; omega
  have HID := Lib.hid (idsError_calls w v ids hv hz hl)
  obtain ⟨A, n, c, rfl⟩ := hv.form
  clear hv hz
  go_enter Tryz.func10, Tryz.ntmps10
  go_wp2_with fail
  refine HID.out.mono ?_
  rintro e w1 ⟨rfl, hm1⟩
  go_wp2_with fail
  refine (keyError_calls _ _ y3).mono ?_
  rintro e w2 ⟨rfl, rfl⟩
  rw [show (⟨seed.toArray⟩ : ByteArray).data.toList = seed from rfl]
  go_wp2_with fail
  refine (manyError_calls _ _).mono ?_
  rintro e w3 ⟨rfl, hm3⟩
  go_wp2_with fail
  refine (firstE_calls _ _ _ [idsE keyE ids, keyErr seed, manyErr many] (Blk.new _ _ _).row0 (by simp)).mono ?_
  rintro e w4 ⟨rfl, hm4⟩
  have m4 : Pure w w4 := ((hm1.trans hm3).alloc _).trans hm4
  obtain ⟨er, her⟩ : ∃ er, firstErr [idsE keyE ids, keyErr seed, manyErr many] = er := ⟨_, rfl⟩
  have HE : Hid (leastE ids seed many = er) := Lib.hid her
  rw [her]
  clear HID hm1 hm3 hm4
  by_cases h0 : er = 0
  · subst h0
    obtain ⟨e1, e2, e3⟩ := firstErr3z her
    obtain ⟨m, rfl, hm2000⟩ := many_nat e3
    have HC := Lib.hid (least_calls w4 _ ids seed m (HV.out.pure m4) HZ.out hzs hl (by omega) (ids_sorted e1))
    clear e1 e2 e3 her
    go_wp2_with fail
    refine HC.out.mono ?_
    rintro e w5 ⟨vo, out, rfl, hsp, hsl, hm5⟩
    obtain ⟨Ao, no, co, rfl⟩ := hsl.form
    have HSP := Lib.hid hsp
    have HSL := Lib.hid hsl
    clear hsp hsl
    go_wp2_with fail
    go_ret2
    exact ⟨_, by rw [HE.out]; rfl, fun h => absurd HE.out h, fun _ => ⟨out, by rw [Int.toNat_natCast]; exact HSP.out, HSL.out⟩, m4.trans hm5⟩
  · have hne : (er != 0) = true := by simpa using h0
    clear her
    go_wp2_with fail
    go_ret2
    exact ⟨_, by rw [HE.out]; rfl, fun _ => rfl, fun h => absurd (HE.out.symm.trans h) h0, m4⟩


end Go.Proofs.YtkchninlhemioaaGreatDoor
