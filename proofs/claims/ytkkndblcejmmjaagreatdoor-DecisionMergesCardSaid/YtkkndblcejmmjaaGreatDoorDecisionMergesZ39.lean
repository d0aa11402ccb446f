/- Texts of the proof of DecisionMerges, put together: MrgK. -/
import Derived.Test.YtkkndblcejmmjaaGreatDoorDecisionMergesZ25
import Derived.Test.YtkkndblcejmmjaaGreatDoorDecisionMergesZ38
/- Merged lists of decisions, as their contents; numbers written one after the other; Compact of a row of one's own. -/
namespace Go.Proofs.YtkkndblcejmmjaaGreatDoor
set_option linter.unusedVariables false
set_option linter.unusedSimpArgs false
open Go.RowKit

/-- The contents of a merge: rising, and just these. -/
def MgC (al : List AskR) (cs CC : List Cnt) : Prop := CC.Pairwise (RiseC al) ∧ ∀ c, c ∈ CC ↔ c ∈ cs
theorem MgC.uniq {al : List AskR} {cs C1 C2 : List Cnt} (h : MgC al cs C1) (k : MgC al cs C2) : C1 = C2 :=
 riseQ_unique (riseC_irr al) (riseC_tr al) h.1 k.1 (fun c => (h.2 c).trans (k.2 c).symm)
theorem mgc_prog {al : List AskR} {xs ps : List DecR} (hok : ∀ x ∈ xs, okV al x.vals) (hp : ps.Perm xs) (hs : SortedM al ps) : MgC al (xs.map DecR.cnt) ((compF (fun x y => decide (cmpM al x y = 0)) ps).map DecR.cnt) := by
 obtain ⟨p1, p2⟩ := compF_rise (fun x hx => hok x (hp.mem_iff.1 hx)) hs
 exact ⟨p1, fun c => by rw [p2 c, (hp.map DecR.cnt).mem_iff]⟩
/-- Right decisions have right values. -/
theorem okV_right {L : LayR} {ds : List DecR} (h : decsE L ds = 0) : ∀ d ∈ ds, okV L.asks d.vals := by
 obtain ⟨_, h2⟩ := decsE_0 h
 intro d hd
 obtain ⟨k, hk, rfl⟩ := List.getElem_of_mem hd
 exact valsE_ge (decE_0 (h2 k hk)).2.2.2.1
theorem cnt_key {x y : DecR} : x.key = y.key → x.cnt = y.cnt := by
 intro h
 unfold DecR.key at h
 unfold DecR.cnt
 simp only [Prod.mk.injEq] at h ⊢
 obtain ⟨_, h1, h2, h3, h4, h5⟩ := h
 exact ⟨h1, h3, h2, h4, h5⟩
theorem key_cnt {x y : DecR} (h : x.cnt = y.cnt) (hn : x.no = y.no) : x.key = y.key := by
 unfold DecR.cnt at h
 unfold DecR.key
 simp only [Prod.mk.injEq] at h ⊢
 obtain ⟨h1, h2, h3, h4, h5⟩ := h
 exact ⟨hn, h1, h3, h2, h4, h5⟩
theorem likesD.cnts {xs ys : List DecR} (h : likesD xs ys) : xs.map DecR.cnt = ys.map DecR.cnt := by
 unfold likesD at h
 apply List.ext_getElem?
 intro i
 have h1 := congrArg (fun l => l[i]?) h
 simp only [List.getElem?_map] at h1 ⊢
 cases hx : xs[i]? <;> cases hy : ys[i]? <;> rw [hx, hy] at h1 <;> simp at h1 ⊢
 exact cnt_key h1
/-- Numbered from 1 on. -/
def NumD (zs : List DecR) (k : Nat) : Prop := ∀ i (h : i < zs.length), i < k → zs[i].no = (i : Int) + 1
theorem num_likes {xs ys : List DecR} (h : xs.map DecR.cnt = ys.map DecR.cnt) (hx : NumD xs xs.length) (hy : NumD ys ys.length) : likesD xs ys := by
 unfold likesD
 have hl : xs.length = ys.length := by have := congrArg List.length h; simpa using this
 apply List.ext_getElem
 ·simpa using hl
 ·intro i h1 h2
  simp only [List.length_map] at h1 h2
  simp only [List.getElem_map]
  have h3 := congrArg (fun l => l[i]?) h
  simp only [List.getElem?_map, List.getElem?_eq_getElem h1, List.getElem?_eq_getElem h2, Option.map_some, Option.some.injEq] at h3
  exact key_cnt h3 (by rw [hx i h1 h1, hy i h2 h2])
theorem cnt_numb (x : DecR) (k : Int) : (x.numb k).cnt = x.cnt := rfl
theorem okV_cnts {al : List AskR} {xs ys : List DecR} (h : xs.map DecR.cnt = ys.map DecR.cnt) (hy : ∀ y ∈ ys, okV al y.vals) : ∀ x ∈ xs, okV al x.vals := by
 intro x hx
 have : x.cnt ∈ ys.map DecR.cnt := by rw [← h]; exact List.mem_map_of_mem hx
 obtain ⟨y, hy2, e⟩ := List.mem_map.1 this
 exact okV_cnt e (hy y hy2)

/-- Numbers are being written into a row of decisions; CC their contents. -/
def NumR (W : World) (base : Nat) (v : Value) (n k : Nat) (CC : List Cnt) (zs : List DecR) : Prop :=
 W.ownsRow base 40 6 v n (decV zs) ∧ zs.length = n ∧ DecS W zs ∧ zs.map DecR.cnt = CC ∧ NumD zs k
theorem DecS.set {W : World} {zs : List DecR} (h : DecS W zs) (i : Nat) (hi : i < zs.length) (k : Int) : DecS W (zs.set i (zs[i].numb k)) := by
 intro x hx
 rcases List.mem_or_eq_of_mem_set hx with h1 | h1
 ·exact h x h1
 ·subst h1
  exact h zs[i] (List.getElem_mem hi)
theorem own_ty2 {W W' : World} {base g n cap : Nat} {xs : List Value} (h : W.ownsRow base 40 6 (.slice (some ⟨g, 0, none⟩) n cap) n xs) : (∀ i arr fr, W.heap[i]? = some (.cells arr 105 fr) → ¬ i = g) ∧ (∀ i arr fr, W.heap[i]? = some (.cells arr 9 fr) → ¬ i = g) :=
 ⟨fun i arr fr hi hv => absurd (own_ty (g := i) h (by rw [hv]; rfl) hi) (by decide), fun i arr fr hi hv => absurd (own_ty (g := i) h (by rw [hv]; rfl) hi) (by decide)⟩
theorem NumR.step2 {W : World} {base g cap n k : Nat} {CC : List Cnt} {zs : List DecR} (h : NumR W base (.slice (some ⟨g, 0, none⟩) n cap) n k CC zs) (hk : k < n) : ∃ zs', (∀ x ∈ zs', x ∈ zs ∨ ∃ y ∈ zs, x = y.numb ((k : Int) + 1)) ∧ NumR (W.setCell ⟨g, k * 6, none⟩ (.int .i64 ((k : Int) + 1))) base (.slice (some ⟨g, 0, none⟩) n cap) n (k + 1) CC zs' := by
 obtain ⟨h1, h2, h3, h4, h5⟩ := h
 have hkz : k < zs.length := by omega
 obtain ⟨hs, _⟩ := h1.stored (k * 6) (.int .i64 ((k : Int) + 1))
 rw [decV_setno zs k hkz] at hs
 obtain ⟨t1, t2⟩ := own_ty2 (W' := W) h1
 have hm : Mod (fun i => i = g) W (W.setCell ⟨g, k * 6, none⟩ (.int .i64 ((k : Int) + 1))) := Mod.setCell (S := fun j => j = g) (p := ⟨g, k * 6, none⟩) (Mod.refl _ _) (.inl rfl) _
 refine ⟨zs.set k (zs[k].numb ((k : Int) + 1)), fun x hx => (List.mem_or_eq_of_mem_set hx).imp id (fun e => ⟨zs[k], List.getElem_mem hkz, e⟩), hs, by simpa using h2, (h3.set k hkz _).mod hm t1 t2, ?_, ?_⟩
 ·rw [List.map_set, cnt_numb, ← h4]
  have e : zs[k].cnt = (zs.map DecR.cnt)[k]'(by simpa using hkz) := by simp
  rw [e, List.set_getElem_self]
 ·intro i hi hik
  have hi2 : i < zs.length := by simpa using hi
  rw [List.getElem_set]
  split
  ·rename_i e; subst e; rfl
  ·exact h5 i hi2 (by omega)
theorem NumR.step {W : World} {base g cap n k : Nat} {CC : List Cnt} {zs : List DecR} (h : NumR W base (.slice (some ⟨g, 0, none⟩) n cap) n k CC zs) (hk : k < n) : ∃ zs', NumR (W.setCell ⟨g, k * 6, none⟩ (.int .i64 ((k : Int) + 1))) base (.slice (some ⟨g, 0, none⟩) n cap) n (k + 1) CC zs' := by
 obtain ⟨z, _, h⟩ := h.step2 hk
 exact ⟨z, h⟩
theorem NumR.cellNo {W : World} {base g cap n k : Nat} {CC : List Cnt} {zs : List DecR} (h : NumR W base (.slice (some ⟨g, 0, none⟩) n cap) n k CC zs) {i : Nat} (hi : i < n) : (∃ z : Int, W.cell? ⟨g, i * 6, none⟩ = some (.int .i64 z)) ∧ W.frozen? ⟨g, i * 6, none⟩ = false := by
 obtain ⟨⟨e0, _⟩, f0⟩ := own_cellsD h.1 (k := i) (by have := h.2.1; omega) rfl
 exact ⟨⟨_, e0⟩, f0 _⟩

/-- Compact of a row of one's own. -/
def CqPost (w : World) (base : Nat) (v : Value) (zs : List DecR) (e : Ending) (w' : World) : Prop :=
 ∃ (A : Option Addr) (c : Nat), e = .returned (.slice A zs.length c) ∧ OwD w' base (.slice A zs.length c) zs ∧ Mod (fun k => v.ownBlock = some k) w w'
set_option maxRecDepth 100000 in
set_option maxHeartbeats 1000000 in
theorem compact0Dec_calls (w : World) (A : Option Addr) (cap : Nat) (fv : Value) : Calls Tryz.prog 86 #[.slice A 0 cap, fv] w fun e w' => e = .returned (.slice A 0 cap) ∧ w' = w := by
 go_enter Tryz.func86, Tryz.ntmps86
 go_wp2_with fail
 go_ret
 exact ⟨rfl, rfl⟩
theorem compactOwn_calls (w : World) (base : Nat) (v : Value) (xs : List DecR) (F : Nat) (c1 : Value) (eq : DecR → DecR → Bool) (hn : xs.length ≤ 1000000) (hown : OwD w base v xs)
  (hcf : ∀ (x y : DecR) (W : World), Sem.run Tryz.prog (callFunc F #[DecVal x, DecVal y, c1]) W = .ok (.enter F #[DecVal x, DecVal y, c1]) W)
  (hF : ∀ (x y : DecR) (W : World), x ∈ xs → y ∈ xs → Mod (fun j => v.ownBlock = some j) w W → Calls Tryz.prog F #[DecVal x, DecVal y, c1] W (BoolPost W (eq x y))) :
  Calls Tryz.prog 86 #[v, .func (.func F) #[] #[c1]] w (CqPost w base v (compF eq xs)) := by
 have hown' := hown
 unfold OwD at hown'
 rcases hown'.2 with ⟨rfl, h0⟩ | ⟨g, cap, cur, rfl, hbase, hb, h1, h2, h3, h4⟩
 ·obtain rfl : xs = [] := List.eq_nil_of_length_eq_zero h0
  refine (compact0Dec_calls w none 0 _).mono ?_
  rintro e w' ⟨rfl, rfl⟩
  exact ⟨none, 0, rfl, hown, Mod.refl _ _⟩
 ·refine (compactDec_calls w base g cap xs F c1 eq hn hown hcf (fun x y W hx hy h => hF x y W hx hy (h.mono fun i hi => by rw [hi]; rfl))).mono ?_
  rintro e w' ⟨rfl, h, hm⟩
  exact ⟨_, _, rfl, h, hm.mono fun i hi => by rw [hi]; rfl⟩

end Go.Proofs.YtkkndblcejmmjaaGreatDoor
