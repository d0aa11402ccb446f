/- Words for the law SampleStops: slices of slices that the law makes. -/
import Derived.Test.YtpacmdiodnnofaaStopsB
namespace Go.Proofs.Ytpacmdiodnnofaa
set_option linter.unusedVariables false
set_option linter.unusedSimpArgs false
open Go.RowKit

/-- u is a slice that reads as bs, in a block from B on. -/
def SlB (w : World) (B : Nat) (u : Value) (bs : List Bool) : Prop := Sl w 4 1 u (boolsV bs) ∧ NilOk u ∧ ∀ g, u.ownBlock = some g → B ≤ g
theorem Sl.mod_own {w w' : World} {S : Nat → Prop} {e : TypeId} {size : Nat} {v : Value} {xs : List Value} (h : Sl w e size v xs) (hm : Mod S w w') (hs : ∀ g, v.ownBlock = some g → ¬ S g) : Sl w' e size v xs := by
  obtain ⟨A, n, c, rfl, h1, h2, h3, h4⟩ := h
  refine ⟨A, n, c, rfl, h1, h2, h3, fun hn => ?_⟩
  obtain ⟨g, off, rfl, hr⟩ := h4 hn
  exact ⟨g, off, rfl, hr.mod hm (hs g rfl)⟩
theorem SlB.mod {w w' : World} {S : Nat → Prop} {B : Nat} {u : Value} {bs : List Bool} (h : SlB w B u bs) (hm : Mod S w w') (hs : ∀ g, B ≤ g → ¬ S g) : SlB w' B u bs :=
  ⟨h.1.mod_own hm (fun g hg => hs g (h.2.2 g hg)), h.2.1, h.2.2⟩
theorem SlB.of_own {w : World} {B n : Nat} {v : Value} {bs : List Bool} (h : w.ownsRow B 4 1 v n (boolsV bs)) : SlB w B v bs := by
  refine ⟨Sl.of_own h, ?_, own_block h⟩
  intro m c he
  rcases h.2 with ⟨h1, h2⟩ | ⟨g, cap, cur, h1, _⟩
  · rw [h1] at he
    injection he with _ e2 e3
    exact ⟨e2.symm, e3.symm⟩
  · rw [h1] at he
    cases he
theorem SlB.le {w : World} {B C : Nat} {u : Value} {bs : List Bool} (h : SlB w C u bs) (hB : B ≤ C) : SlB w B u bs := ⟨h.1, h.2.1, fun g hg => Nat.le_trans hB (h.2.2 g hg)⟩
/-- The slices us read as bss. -/
def Inner (w : World) (B : Nat) (us : List Value) (bss : List (List Bool)) : Prop := us.length = bss.length ∧ ∀ i, (h : i < bss.length) → ∃ u, us[i]? = some u ∧ SlB w B u bss[i]
theorem Inner.mod {w w' : World} {S : Nat → Prop} {B : Nat} {us : List Value} {bss : List (List Bool)} (h : Inner w B us bss) (hm : Mod S w w') (hs : ∀ g, B ≤ g → ¬ S g) : Inner w' B us bss := by
  refine ⟨h.1, fun i hi => ?_⟩
  obtain ⟨u, hu, hb⟩ := h.2 i hi
  exact ⟨u, hu, hb.mod hm hs⟩
/-- Kept where only blocks of slices of slices have changed. -/
theorem Inner.typed {w w' : World} {S : Nat → Prop} {B : Nat} {us : List Value} {bss : List (List Bool)} (h : Inner w B us bss) (hm : Mod S w w') (hs : ∀ g arr fr, w.heap[g]? = some (.cells arr 4 fr) → ¬ S g) : Inner w' B us bss := by
  refine ⟨h.1, fun i hi => ?_⟩
  obtain ⟨u, hu, hb⟩ := h.2 i hi
  exact ⟨u, hu, hb.1.mod hm hs, hb.2⟩
theorem Inner.snoc {w : World} {B : Nat} {us : List Value} {bss : List (List Bool)} {u : Value} {bs : List Bool} (h : Inner w B us bss) (hb : SlB w B u bs) : Inner w B (us ++ [u]) (bss ++ [bs]) := by
  have hl := h.1
  refine ⟨by simp [hl], fun i hi => ?_⟩
  by_cases e : i < bss.length
  · obtain ⟨x, hx, hxb⟩ := h.2 i e
    refine ⟨x, by rw [List.getElem?_append_left (by omega)]; exact hx, ?_⟩
    rw [List.getElem_append_left e]
    exact hxb
  · have e2 : i = bss.length := by simp at hi; omega
    subst e2
    refine ⟨u, by rw [← hl, List.getElem?_concat_length], ?_⟩
    simpa using hb
theorem Inner.set {w : World} {B : Nat} {us : List Value} {bss : List (List Bool)} {u : Value} {bs : List Bool} (h : Inner w B us bss) (j : Nat) (hj : j < bss.length) (hb : SlB w B u bs) : Inner w B (us.set j u) (bss.set j bs) := by
  have hl := h.1
  refine ⟨by simp [hl], fun i hi => ?_⟩
  rw [List.length_set] at hi
  by_cases e : i = j
  · subst e
    refine ⟨u, by rw [List.getElem?_set_self (by omega)], ?_⟩
    rw [List.getElem_set_self]
    exact hb
  · obtain ⟨x, hx, hxb⟩ := h.2 i hi
    refine ⟨x, by rw [List.getElem?_set_ne (fun h => e h.symm)]; exact hx, ?_⟩
    rw [List.getElem_set_ne (fun h => e h.symm)]
    exact hxb
theorem Inner.sls {w : World} {B base n : Nat} {v : Value} {us : List Value} {bss : List (List Bool)} (h : Inner w B us bss) (ho : w.ownsRow base 69 1 v n us) : SlS w v bss :=
  ⟨us, Sl.of_own ho, h.1, fun i hi => by
    obtain ⟨u, hu, hb⟩ := h.2 i hi
    exact ⟨u, hu, hb.1, hb.2.1⟩⟩
theorem own_type {w : World} {base n size : Nat} {e t : TypeId} {v : Value} {xs : List Value} {arr : Array Value} {fr : Nat × Nat} {g : Nat} (h : w.ownsRow base e size v n xs) (hv : v.ownBlock = some g) (hg : w.heap[g]? = some (.cells arr t fr)) : t = e := by
  rcases h.2 with ⟨rfl, _⟩ | ⟨g', cap, cur, rfl, _, hh, _⟩
  · simp [Value.ownBlock] at hv
  · simp [Value.ownBlock] at hv
    subst hv
    rw [hg] at hh
    injection hh with hh
    injection hh with _ ht
theorem info_bools : (Try.prog.info? 69).map (fun i => (i.zero, i.size, i.bytes)) = some (some (.slice none 0 0), 1, 24) := by kernel_rfl
theorem lens_bound {bss : List (List Bool)} (M : Nat) (h : ∀ b ∈ bss, b.length ≤ M) : lens bss ≤ bss.length * M := by
  induction bss with
  | nil => simp [lens]
  | cons b l ih =>
    have h1 := h b (by simp)
    have h2 := ih (fun x hx => h x (by simp [hx]))
    unfold lens at *
    simp only [List.flatten_cons, List.length_append, List.length_cons]
    rw [Nat.succ_mul]
    omega
/-- What the law has behind its making of batches. -/
def StInv (w : World) (b : Nat) (q : Value) (wx : World) : Prop := ∃ bss : List (List Bool), bss.length ≤ 8 ∧ (∀ x ∈ bss, x.length ≤ 2001) ∧ SlS wx q bss ∧ Strm wx b 500 ∧ Pure w wx
def StLoop (w : World) (B b n gk : Nat) (x i : Value) (wr : World) : Prop :=
  ∃ (bss : List (List Bool)) (us : List Value) (A : Option Addr) (cap : Nat), n - bss.length = gk ∧ bss.length ≤ n ∧ x = .slice A bss.length cap ∧ i = .int .i64 (bss.length : Int) ∧ (∀ y ∈ bss, y.length ≤ 20) ∧ wr.ownsRow B 69 1 (.slice A bss.length cap) bss.length us ∧ Inner wr B us bss ∧ Strm wr b (1 + 50 * bss.length) ∧ Pure w wr ∧ B ≤ wr.heap.size
def bigBools : Array Value := (boolsV (List.replicate 2001 false)).toArray
theorem SlB.big {w : World} {B g : Nat} (h : Blk w g 4 bigBools) (hB : B ≤ g) : SlB w B (.slice (some ⟨g, 0, none⟩) 2001 2001) (List.replicate 2001 false) := by
  unfold bigBools at h
  refine ⟨⟨_, _, _, rfl, Nat.le_refl _, by omega, by rw [boolsV_len, List.length_replicate], fun _ => ⟨g, 0, rfl, h.row0⟩⟩, ?_, ?_⟩
  · intro n c he
    cases he
  · intro g' hg
    simp [Value.ownBlock] at hg
    omega
def stFault (bss : List (List Bool)) (r n d : Int) : Int := if anyBig bss then 2 else if 1 ≤ r ∧ r ≤ 2000 then shareErr n d else 1
def StSpec (bss : List (List Bool)) (r n d x er : Int) : Prop := (stFault bss r n d ≠ 0 ∧ x = 0 ∧ er = stFault bss r n d) ∨ (stFault bss r n d = 0 ∧ x = (((stV bss r.toNat n d).getD 0 : Nat) : Int) ∧ er = if (stV bss r.toNat n d).isSome then 0 else 8)
def StAnyPost (w : World) (bss : List (List Bool)) (r n d : Int) (e : Ending) (w' : World) : Prop := ∃ x er : Int, StSpec bss r n d x er ∧ e = .returned (.tuple #[.int .i64 x, .int .i64 er]) ∧ Pure w w'
theorem shareErr_cases (n d : Int) : shareErr n d = 1 ∨ (shareErr n d = 0 ∧ (1 ≤ d ∧ d ≤ 1000000) ∧ 0 ≤ n ∧ n ≤ d) := by
  unfold shareErr
  split
  · rename_i h
    exact .inr ⟨rfl, h⟩
  · exact .inl rfl
theorem stFault_ok {bss : List (List Bool)} {r n d : Int} (h : stFault bss r n d = 0) : anyBig bss = false ∧ (1 ≤ r ∧ r ≤ 2000) ∧ shareErr n d = 0 ∧ (0 ≤ n ∧ n ≤ 1000000) ∧ (0 ≤ d ∧ d ≤ 1000000) := by
  unfold stFault at h
  cases hb : anyBig bss
  · rw [hb] at h
    simp only [Bool.false_eq_true, if_false] at h
    split at h
    · rename_i hr
      rcases shareErr_cases n d with h1 | ⟨_, h2, h3⟩
      · rw [h1] at h; cases h
      · exact ⟨rfl, hr, h, by omega, by omega⟩
    · cases h
  · rw [hb] at h
    simp at h
theorem Stops_any (w : World) (v : Value) (bss : List (List Bool)) (r n d : Int) (hv : SlS w v bss) (hbl : bss.length ≤ 2000) (hl : lens bss ≤ 10000000) : Calls Try.prog 60 #[v, rule3 r n d] w (StAnyPost w bss r n d) := by
  cases hb : anyBig bss
  · by_cases hr : 1 ≤ r ∧ r ≤ 2000
    · rcases shareErr_cases n d with h1 | ⟨h1, h2, h3⟩
      · have hF : stFault bss r n d = 1 := by unfold stFault; rw [hb, if_pos hr, h1]; rfl
        exact (Stops_bad w v bss r n d hv hbl hb (.inr (by rw [h1]; decide))).mono fun e w' h => ⟨0, 1, .inl ⟨by rw [hF]; decide, rfl, hF.symm⟩, h.1, h.2⟩
      · have hF : stFault bss r n d = 0 := by unfold stFault; rw [hb, if_pos hr, h1]; rfl
        obtain ⟨rn, rfl⟩ := Int.eq_ofNat_of_zero_le (show 0 ≤ r by omega)
        exact (Stops_ok w v bss rn n d hv hbl hl hb (by omega) h1 (by omega) (by omega)).mono fun e w' h => ⟨_, _, .inr ⟨hF, rfl, rfl⟩, by rw [Int.toNat_natCast]; exact h.1, h.2⟩
    · have hF : stFault bss r n d = 1 := by unfold stFault; rw [hb, if_neg hr]; rfl
      exact (Stops_bad w v bss r n d hv hbl hb (.inl hr)).mono fun e w' h => ⟨0, 1, .inl ⟨by rw [hF]; decide, rfl, hF.symm⟩, h.1, h.2⟩
  · have hF : stFault bss r n d = 2 := by unfold stFault; rw [hb]; rfl
    exact (Stops_big w v bss r n d hv hbl hb).mono fun e w' h => ⟨0, 2, .inl ⟨by rw [hF]; decide, rfl, hF.symm⟩, h.1, h.2⟩

end Go.Proofs.Ytpacmdiodnnofaa
