/- Texts of the proof of FilterKeeps, put together: FamD, WhoP, WhoT, PlcA, PlcB, KepP, FltA, FltC, FltD, FltE, FltB, SamF. -/
import Derived.Test.YtofkkenmkflmiaaGreatDoorFilterKeepsZ13
import Derived.Test.YtofkkenmkflmiaaGreatDoorFilterKeepsZ22
import Derived.Test.YtofkkenmkflmiaaGreatDoorFilterKeepsZ25
import Derived.Test.YtofkkenmkflmiaaGreatDoorFilterKeepsZ36
import Derived.Test.YtofkkenmkflmiaaGreatDoorFilterKeepsZ37
import Derived.Deep.AppendLies
import Derived.Deep.DeepCutAuto
import Derived.Deep.CutBlock
/- Families of package intake. -/
namespace Go.Proofs.YtofkkenmkflmiaaGreatDoor
set_option linter.unusedVariables false
set_option linter.unusedSimpArgs false
open Go.RowKit

/-- A family in memory: its top, the slice of its items, their ids. -/
abbrev Fm := Str × Value × List Str
def fmV (xs : List Fm) : List Value := xs.flatMap fun p => [.string ⟨p.1.toArray⟩, p.2.1]
theorem fmV_len : ∀ xs : List Fm, (fmV xs).length = xs.length * 2
  | [] => rfl
  | x :: xs => by
    have := fmV_len xs
    simp only [fmV, List.flatMap_cons, List.length_append, List.length_cons, List.length_nil] at *
    omega
theorem fmV_get : ∀ (xs : List Fm) (i : Nat) (h : i < xs.length), (fmV xs)[i * 2]? = some (.string ⟨xs[i].1.toArray⟩) ∧ (fmV xs)[i * 2 + 1]? = some xs[i].2.1
  | [], i, h => absurd h (by simp)
  | x :: xs, 0, h => by simp [fmV]
  | x :: xs, i + 1, h => by
    have := fmV_get xs i (by simpa using h)
    have e : (i + 1) * 2 = i * 2 + 1 + 1 := by omega
    simp only [fmV, List.flatMap_cons, List.cons_append, List.nil_append, e, List.getElem?_cons_succ, List.getElem_cons_succ]
    exact this
theorem fmV_snoc (xs : List Fm) (p : Fm) : fmV (xs ++ [p]) = fmV xs ++ [.string ⟨p.1.toArray⟩, p.2.1] := by simp [fmV]
/-- What families say. -/
def fmS (xs : List Fm) : List (Str × List Str) := xs.map fun p => (p.1, p.2.2)
def FmR (w : World) (v : Value) (xs : List Fm) : Prop := Sl w 103 2 v (fmV xs) ∧ ∀ p ∈ xs, Sl w 9 1 p.2.1 (strsV p.2.2)
theorem FmR.pure {w w' : World} {v : Value} {xs : List Fm} (h : FmR w v xs) (hm : Pure w w') : FmR w' v xs := ⟨h.1.pure hm, fun p hp => (h.2 p hp).pure hm⟩
def famsS (l : List Itm) : List (Str × List Str) := (topsI l).map fun t => (idAt2 l t, belS l 4 t)
theorem info_fam : (Tryz.prog.info? 103).map (fun i => (i.zero, i.size, i.bytes)) = some (some (.agg #[.string ⟨#[]⟩, .slice none 0 0]), 2, 40) := by kernel_rfl
theorem TreeIs.grown {w w' : World} {bi bk : Nat} {vt v : Value} {xs : List Itm} {base size n : Nat} {ys : List Value} (h : TreeIs w bi bk vt xs) (hb : bi < base) (hb2 : bk < base) (hown : w.ownsRow base 103 size v n ys) (hg : w.grownBy w' v.ownBlock) : TreeIs w' bi bk vt xs := by
  obtain ⟨n, V, h1, h2⟩ := h.kids
  have hm := grown_mod hg
  have hne : ∀ k, v.ownBlock = some k → base ≤ k := own_block hown
  exact ⟨h.items.mod hm (fun hh => by have := hne _ hh; omega), ⟨n, V, h1.mod hm (fun hh => by have := hne _ hh; omega), fun p => (h2 p).grown hown hg (by decide)⟩, h.tops.grown hown hg (by decide)⟩
theorem itemE_ne {x : Itm} (h : itemE x = 0) : x.id ≠ [] := fun e => by have := itemE_id h; rw [e] at this; cases this

end Go.Proofs.YtofkkenmkflmiaaGreatDoor

/- Whole: the tops of items, the families that are hit. -/
namespace Go.Proofs.YtofkkenmkflmiaaGreatDoor
set_option linter.unusedVariables false
set_option linter.unusedSimpArgs false
open Go.RowKit

/-- The top above item i. -/
def tpI (l : List Itm) (i : Nat) : Nat := (wayI l i).head?.getD i
theorem tpI_top {l : List Itm} {i : Nat} (h : upI l i = none) : tpI l i = i := by simp [tpI, wayI_top h]
theorem wayI_ne (l : List Itm) (i : Nat) : wayI l i ≠ [] := by simp [wayI]
theorem tpI_kid {l : List Itm} (hno : ∀ i, i < l.length → lpB l i = false) {i k : Nat} (hk : k < l.length) (h : upI l k = some i) : tpI l k = tpI l i := by
  unfold tpI
  rw [wayI_kid hno hk h]
  cases hw : wayI l i with
  | nil => exact absurd hw (wayI_ne l i)
  | cons a t => rfl
theorem tpI_stp {l : List Itm} (hno : ∀ i, i < l.length → lpB l i = false) : ∀ (j i q : Nat), i < l.length → stp l j i = some q → upI l q = none → tpI l i = q
  | 0, i, q, _, h, hq => by
    simp [stp] at h
    subst h
    exact tpI_top hq
  | j + 1, i, q, hi, h, hq => by
    cases hu : upI l i with
    | none => simp [stp, hu] at h
    | some p =>
      rw [stp, hu] at h
      rw [tpI_kid hno hi hu]
      exact tpI_stp hno j p q (upI_lt hu) h hq
theorem Right.top_at {l : List Itm} (h : Right l) {x : Nat} (hx : x < l.length) : ∃ m, m < 5 ∧ stp l m x = some (tpI l x) ∧ tpI l x < l.length ∧ upI l (tpI l x) = none := by
  obtain ⟨m, i, h1, h2, h3, h4⟩ := top_of 5 x hx (h.end5 x hx)
  rw [tpI_stp h.loop m x i hx h3 h4]
  exact ⟨m, h1, h3, h2, h4⟩
theorem Right.tpI_mem {l : List Itm} (h : Right l) {x : Nat} (hx : x < l.length) : tpI l x ∈ topsI l := by
  obtain ⟨m, _, _, h3, h4⟩ := h.top_at hx
  exact mem_topsI.2 ⟨h3, h4⟩
theorem Right.bel_top {l : List Itm} (h : Right l) {t x : Nat} (ht : t ∈ topsI l) : x ∈ belI l 4 t ↔ x < l.length ∧ tpI l x = t := by
  obtain ⟨h1, h2⟩ := mem_topsI.1 ht
  constructor
  · intro hx
    refine ⟨bel_lt 4 t x h1 hx, ?_⟩
    obtain ⟨r, hr⟩ := bel_way h.loop 4 t x hx
    unfold tpI
    rw [hr, wayI_top h2]
    rfl
  · rintro ⟨hx, rfl⟩
    obtain ⟨m, h3, h4, _, _⟩ := h.top_at hx
    exact bel_has m 4 _ x (by omega) hx h4

/-- The top of an id. -/
def tpS (l : List Itm) (id : Str) : Str := idAt2 l (tpI l ((plc l id).getD 0))
theorem Right.id2_inj {l : List Itm} (h : Right l) {i k : Nat} (hi : i < l.length) (hk : k < l.length) (he : idAt2 l i = idAt2 l k) : i = k := by
  rw [idAt2_eq hi, idAt2_eq hk] at he
  exact id_inj h.distinct hi hk he
end Go.Proofs.YtofkkenmkflmiaaGreatDoor

/- The top of an item: tree.top. -/
namespace Go.Proofs.YtofkkenmkflmiaaGreatDoor
set_option linter.unusedVariables false
set_option linter.unusedSimpArgs false
open Go.RowKit

def StrPost (w : World) (s : Str) (e : Ending) (w' : World) : Prop := e = .returned (.string ⟨s.toArray⟩) ∧ Pure w w'
theorem TreeIs.par {w : World} {bi bk : Nat} {vt : Value} {l : List Itm} (h : TreeIs w bi bk vt l) (hR : Right l) {q : Nat} (hq : q < l.length) (hz : l[q].id.length ≤ 1000000) :
    (Instr.lookup 82 (.map (some bi)) (.string ⟨l[q].id.toArray⟩) false).run Tryz.prog w = .ok (itA l[q]) w := by
  have := h.items.lookup Tryz.underlying82 zero_item l[q].id hz
  unfold byF at this
  rw [fnd_plc (plc_self hR.distinct q hq) hq] at this
  exact this
def TpRel (w : World) (g0 : Nat) (bi bk : Nat) (At : Option Addr) (nt ct : Nat) (l : List Itm) (i gk : Nat) (x : Value) (wr : World) : Prop :=
  ∃ j q, 5 - j = gk ∧ j < 5 ∧ stp l j i = some q ∧ ∃ hq : q < l.length, x = .string ⟨l[q].id.toArray⟩ ∧ Blk wr g0 85 #[.map (some bi), .map (some bk), .slice At nt ct] ∧ Pure w wr

set_option maxRecDepth 100000 in
set_option maxHeartbeats 4000000 in
theorem top_calls (w : World) (l : List Itm) (hR : Right l) (hz : ∀ x ∈ l, ItB x) (bi bk : Nat) (At : Option Addr) (nt ct : Nat) (hT : TreeIs w bi bk (.slice At nt ct) l) (i : Nat) (hi : i < l.length) :
    Calls Tryz.prog 48 #[.agg #[.map (some bi), .map (some bk), .slice At nt ct], .string ⟨l[i].id.toArray⟩] w (StrPost w (idAt2 l (tpI l i))) := by
  have HLK : Hid (∀ W, Pure w W → ∀ q (hq : q < l.length), (Instr.lookup 82 (.map (some bi)) (.string ⟨l[q].id.toArray⟩) false).run Tryz.prog W = .ok (itA l[q]) W) :=
    Lib.hid (fun W h q hq => (hT.pure h).par hR hq (by have := (hz _ (List.getElem_mem hq)).1; omega))
  have HB := Lib.hid (Blk.new w 85 #[.map (some bi), .map (some bk), .slice At nt ct])
  have HP := Lib.hid (pure_alloc w (.cells #[.map (some bi), .map (some bk), .slice At nt ct] 85))
  have HR := Lib.hid hR
  have hfld : ∀ (a0 a1 a2 a3 a4 a5 a6 : Value) (W : World), Sem.run Tryz.prog (Instr.field 71 (.agg #[a0, a1, a2, a3, a4, a5, a6]) 5) W = .ok a5 W := fun _ _ _ _ _ _ _ _ => rfl
  clear hT hR hz
  go_enter Tryz.func48, Tryz.ntmps48
  go_wp2_with fail
  generalize w.heap.size = g0 at *
  generalize (w.alloc (.cells #[.map (some bi), .map (some bk), .slice At nt ct] 85)) = W at *
  go_loopg [1] 5 (fun gk x wr => TpRel w g0 bi bk At nt ct l i gk x wr)
  case atStart => exact ⟨0, i, by omega, by omega, rfl, hi, rfl, HB.out, HP.out⟩
  case round =>
    clear HB HP
    obtain ⟨j, q, rfl, hj, hst, hq, rfl, hB, hm⟩ := hrel
    have hlook := HLK.out wr hm q hq
    have HTOP := Lib.hid (HR.out.top_iff hq)
    have HST := Lib.hid hst
    unfold itA at hlook
    have t0 := hB.cell 0; have t1 := hB.cell 1; have t2 := hB.cell 2; simp at t0 t1 t2
    clear hst
    cases he : l[q].par.isEmpty
    · obtain ⟨k, hk⟩ : ∃ k, upI l q = some k := by
        cases hu : upI l q with
        | none =>
          rw [HTOP.out.1 hu] at he
          cases he
        | some k => exact ⟨k, rfl⟩
      have hkl := upI_lt hk
      have HKI := Lib.hid ((HR.out.kid_iff hkl hq).1 hk)
      have HS1 : Hid (stp l (j + 1) i = some k) := Lib.hid (by rw [stp_succ HST.out]; exact hk)
      have hj1 : j + 1 < 5 := by
        rcases Nat.lt_or_ge (j + 1) 5 with h | h
        · exact h
        · have : j = 4 := by omega
          subst this
          have h5 := HR.out.end5 i hi
          rw [HS1.out] at h5
          cases h5
      have HB := Lib.hid hB
      clear hk hB
      go_wp2_with fail
      go_roundg (5 - (j + 1))
      case measure => omega
      case rel => exact ⟨j + 1, k, rfl, hj1, HS1.out, hkl, by rw [HKI.out], HB.out, hm⟩
    · have hp : l[q].par = [] := by simpa using he
      have HRES : Hid (l[q].id = idAt2 l (tpI l i)) := Lib.hid (by rw [tpI_stp HR.out.loop j i q hi HST.out (HTOP.out.2 hp), idAt2_eq hq])
      clear hB hp
      go_wp2_with fail
      go_ret
      exact ⟨by rw [HRES.out]; rfl, hm⟩

end Go.Proofs.YtofkkenmkflmiaaGreatDoor

/- found, FamilyOf, Children, Depth of package intake. -/
namespace Go.Proofs.YtofkkenmkflmiaaGreatDoor
set_option linter.unusedVariables false
set_option linter.unusedSimpArgs false
open Go.RowKit

def FdNew (w : World) (g4 bi bk : Nat) (At : Option Addr) (nt ct : Nat) : Prop := Blk w g4 85 #[.map (some bi), .map (some bk), .slice At nt ct]
theorem FdNew.pure {w w' : World} {g4 bi bk : Nat} {At : Option Addr} {nt ct : Nat} (h : FdNew w g4 bi bk At nt ct) (hm : Pure w w') : FdNew w' g4 bi bk At nt ct := Blk.mod h hm id
theorem Mod.set3 (w : World) (g : Nat) (x y z : Value) : Mod (· = g) w (((w.setCell ⟨g, 0, none⟩ x).setCell ⟨g, 1, none⟩ y).setCell ⟨g, 2, none⟩ z) :=
  Mod.setCell (S := fun j => j = g) (p := ⟨g, 2, none⟩) (Mod.setCell (S := fun j => j = g) (p := ⟨g, 1, none⟩) (Mod.setCell (S := fun j => j = g) (p := ⟨g, 0, none⟩) (Mod.refl _ _) (.inl rfl) _) (.inl rfl) _) (.inl rfl) _

end Go.Proofs.YtofkkenmkflmiaaGreatDoor

/- FamilyOf, Children, Depth of package intake. -/
namespace Go.Proofs.YtofkkenmkflmiaaGreatDoor
set_option linter.unusedVariables false
set_option linter.unusedSimpArgs false
open Go.RowKit

def idxId (l : List Itm) (id : Str) : Nat := (plc l id).getD 0
def fmB (l : List Itm) (id : Str) : List Str := belS l 4 (tpI l (idxId l id))
theorem right_items {l : List Itm} (h : itsE itemE l = 0) : Right l := right_of (E := itemE) (fun _ hx => itemE_ne hx) h

end Go.Proofs.YtofkkenmkflmiaaGreatDoor

/- Keep: the plain law (which items a filter keeps, by both ways). -/
namespace Go.Proofs.YtofkkenmkflmiaaGreatDoor
set_option linter.unusedVariables false
set_option linter.unusedSimpArgs false
open Go.RowKit

/-- A filter. -/
structure Flt where
  kinds : List Int
  custs : List Str
  fr : Int
  tl : Int
  known : List Str
/-- Why a filter leaves an item out; s is the item's sum. -/
def whyE (f : Flt) (x : Itm) (s : Str) : Int :=
  if f.kinds ≠ [] ∧ x.kind ∉ f.kinds then 1 else if f.custs ≠ [] ∧ x.cust ∉ f.custs then 2 else if x.tm < f.fr then 3 else if f.tl ≤ x.tm then 4 else if s ∈ f.known then 5 else 0
/-- The tops of the items that p lets by. -/
def kepS (l : List Itm) (p : Itm → Bool) : List Str := (l.filter p).map fun x => tpS l x.id
theorem idxId_self {l : List Itm} (h : Right l) {i : Nat} (hi : i < l.length) : idxId l l[i].id = i := by
  unfold idxId
  rw [plc_self h.distinct i hi]
  rfl
theorem tpS_self {l : List Itm} (h : Right l) {i : Nat} (hi : i < l.length) : tpS l l[i].id = idAt2 l (tpI l i) := by
  unfold tpS
  rw [plc_self h.distinct i hi]
  rfl
theorem tpI_lt {l : List Itm} (h : Right l) {i : Nat} (hi : i < l.length) : tpI l i < l.length := (mem_topsI.1 (h.tpI_mem hi)).1
/-- An item's top is kept exactly if some item of its family is let by. -/
theorem Right.kep_iff {l : List Itm} (h : Right l) (p : Itm → Bool) {i : Nat} (hi : i < l.length) :
    tpS l l[i].id ∈ kepS l p ↔ ∃ s ∈ fmB l l[i].id, ∃ hk : idxId l s < l.length, p l[idxId l s] = true := by
  rw [tpS_self h hi]
  unfold kepS fmB
  rw [idxId_self h hi]
  constructor
  · intro hm
    obtain ⟨x, hx, he⟩ := List.mem_map.1 hm
    obtain ⟨hxl, hpx⟩ := List.mem_filter.1 hx
    obtain ⟨k, hk, rfl⟩ := List.getElem_of_mem hxl
    rw [tpS_self h hk] at he
    have ht := h.id2_inj (tpI_lt h hk) (tpI_lt h hi) he
    refine ⟨l[k].id, ?_, by rw [idxId_self h hk]; exact hk, by simp only [idxId_self h hk]; exact hpx⟩
    unfold belS
    exact List.mem_map.2 ⟨k, (h.bel_top (h.tpI_mem hi)).2 ⟨hk, ht⟩, idAt2_eq hk⟩
  · rintro ⟨s, hs, hk, hp⟩
    unfold belS at hs
    obtain ⟨k, hkb, rfl⟩ := List.mem_map.1 hs
    obtain ⟨hk2, ht⟩ := (h.bel_top (h.tpI_mem hi)).1 hkb
    have e : idxId l (idAt2 l k) = k := by rw [idAt2_eq hk2]; exact idxId_self h hk2
    refine List.mem_map.2 ⟨l[k], List.mem_filter.2 ⟨List.getElem_mem hk2, ?_⟩, by rw [tpS_self h hk2, ht]⟩
    simp only [e] at hp
    exact hp

end Go.Proofs.YtofkkenmkflmiaaGreatDoor

/- Filters: kinds, sums, windows; what is wrong with a filter (the words), and the program's CheckFilter. -/
namespace Go.Proofs.YtofkkenmkflmiaaGreatDoor
set_option linter.unusedVariables false
set_option linter.unusedSimpArgs false
open Go.RowKit

/-- A sum: 16 small hexadecimal digits. -/
def hexC (c : Nat) : Bool := digitB c || (decide (97 ≤ c) && decide (c ≤ 102))
def sumB (s : Str) : Bool := decide (s.length = 16) && s.all fun c => hexC c.toNat
def sumE (s : Str) : Int := if sumB s then 0 else 3
/-- The error of a list of kinds. -/
def kndAt (ks : List Int) (k : Nat) : Int := if ¬ (1 ≤ ks.getD k 0 ∧ ks.getD k 0 ≤ 4) then 4 else if 0 < k ∧ ks.getD k 0 ≤ ks.getD (k - 1) 0 then 7 else 0
def kndFrom (ks : List Int) (k : Nat) : Int := firstErr (((List.range ks.length).drop k).map (kndAt ks))
def kndsE (ks : List Int) : Int := kndFrom ks 0
theorem kndFrom_step (ks : List Int) (k : Nat) (h : k < ks.length) : kndFrom ks k = if kndAt ks k = 0 then kndFrom ks (k + 1) else kndAt ks k := by
  unfold kndFrom
  rw [List.drop_eq_getElem_cons (by simpa using h)]
  simp [firstErr]
theorem kndFrom_end (ks : List Int) : kndFrom ks ks.length = 0 := by
  unfold kndFrom
  rw [List.drop_of_length_le (by simp)]
  rfl
def winE (fr tl : Int) : Int := if 0 ≤ fr ∧ fr ≤ tl ∧ tl ≤ 5761440 then 0 else 1
/-- What is wrong with a filter. -/
def filE (f : Flt) : Int := if kndsE f.kinds ≠ 0 then kndsE f.kinds else if risingE keyE f.custs ≠ 0 then risingE keyE f.custs else if winE f.fr f.tl ≠ 0 then winE f.fr f.tl else risingE sumE f.known
/-- A filter that is not too long. -/
def FlB (f : Flt) : Prop := f.kinds.length ≤ 100 ∧ f.custs.length ≤ 100 ∧ f.known.length ≤ 100 ∧ (∀ s ∈ f.custs, s.length ≤ 1000) ∧ ∀ s ∈ f.known, s.length ≤ 1000
/-- A value that is a filter. -/
def FlV (W : World) (f : Flt) (v : Value) : Prop := ∃ vk vc vs, v = .agg #[vk, vc, .int .i64 f.fr, .int .i64 f.tl, vs] ∧ Sl W 3 1 vk (ints f.kinds) ∧ Sl W 9 1 vc (strsV f.custs) ∧ Sl W 9 1 vs (strsV f.known)
theorem FlV.pure {W W' : World} {f : Flt} {v : Value} (h : FlV W f v) (hm : Pure W W') : FlV W' f v := by
  obtain ⟨vk, vc, vs, rfl, h1, h2, h3⟩ := h
  exact ⟨vk, vc, vs, rfl, h1.pure hm, h2.pure hm, h3.pure hm⟩
theorem ints_getV (xs : List Int) (i : Nat) (h : i < xs.length) : (ints xs)[i]? = some (.int .i64 xs[i]) := by simp [ints, h]
theorem kwS_nil (n : Int) : kwS n = [] ↔ ¬ (1 ≤ n ∧ n ≤ 4) := by
  unfold kwS
  by_cases h1 : n = 1
  · subst h1; simp
  by_cases h2 : n = 2
  · subst h2; simp
  by_cases h3 : n = 3
  · subst h3; simp
  by_cases h4 : n = 4
  · subst h4; simp
  · simp [h1, h2, h3, h4]; omega
theorem kndAt_eq {ks : List Int} {k : Nat} (h : k < ks.length) : kndAt ks k = if (kwS ks[k]).isEmpty = true then 4 else if 0 < k ∧ ks[k] ≤ ks.getD (k - 1) 0 then 7 else 0 := by
  unfold kndAt
  rw [show ks.getD k 0 = ks[k] by simp [List.getD, h]]
  by_cases hk : kwS ks[k] = []
  · rw [if_pos ((kwS_nil _).1 hk), if_pos (show (kwS ks[k]).isEmpty = true by rw [hk]; rfl)]
  · rw [if_neg (fun h2 => hk ((kwS_nil _).2 h2)), if_neg (show ¬ (kwS ks[k]).isEmpty = true by simpa using hk)]
theorem idAt_eqG (f : Str → Int) {ss : List Str} {k : Nat} (h : k < ss.length) : idAt f ss k = if f ss[k] ≠ 0 then f ss[k] else if 0 < k ∧ leS ss[k] (ss.getD (k - 1) []) = true then 7 else 0 := by
  unfold idAt
  rw [show ss.getD k [] = ss[k] by simp [List.getD, h]]
theorem idAt_bad' (f : Str → Int) {ss : List Str} {k : Nat} (h : k < ss.length) {e : Int} (he : f ss[k] = e) (h0 : e ≠ 0) : idAt f ss k = e := by rw [idAt_eqG f h, if_pos (by rw [he]; exact h0), he]
theorem idAt_0' (f : Str → Int) {ss : List Str} {k : Nat} (h : k < ss.length) (he : f ss[k] = 0) (h0 : ¬ 0 < k) : idAt f ss k = 0 := by rw [idAt_eqG f h, if_neg (by rw [he]; simp), if_neg (fun h => h0 h.1)]
theorem idAt_le' (f : Str → Int) {ss : List Str} {j : Nat} (h : j + 1 < ss.length) (he : f ss[j + 1] = 0) {b : Bool} (hb : leS ss[j + 1] ss[j] = b) : idAt f ss (j + 1) = if b = true then 7 else 0 := by
  rw [idAt_eqG f h, if_neg (by rw [he]; simp), Nat.add_sub_cancel, show ss.getD j [] = ss[j] by simp [List.getD, show j < ss.length by omega], hb]
  cases b <;> simp
theorem keyE_t {x : Str} (h : keyB x = true) : keyE x = 0 := by unfold keyE; rw [h]; rfl
theorem keyE_f {x : Str} (h : keyB x = false) : keyE x = 5 := by unfold keyE; rw [h]; rfl
theorem sumE_t {x : Str} (h : sumB x = true) : sumE x = 0 := by unfold sumE; rw [h]; rfl
theorem sumE_f {x : Str} (h : sumB x = false) : sumE x = 3 := by unfold sumE; rw [h]; rfl
theorem hex_take_snoc (l : List UInt8) (k : Nat) (h : k < l.length) : (l.take (k + 1)).all (fun c => hexC c.toNat) = ((l.take k).all (fun c => hexC c.toNat) && hexC l[k].toNat) := by
  rw [List.take_succ_eq_append_getElem h, List.all_append]; simp
theorem hex_false_of (l : List UInt8) (k : Nat) (h : k < l.length) (hk : hexC l[k].toNat = false) : sumB l = false := by
  have : l.all (fun c => hexC c.toNat) = false := by
    rw [List.all_eq_false]
    exact ⟨l[k], List.getElem_mem h, by simp [hk]⟩
  unfold sumB
  rw [this]
  simp

set_option maxRecDepth 100000 in
set_option maxHeartbeats 2000000 in
theorem isSum_calls (w : World) (l : Str) (hs : l.length ≤ 1000000) : Calls Tryz.prog 53 #[.string ⟨l.toArray⟩] w (BoolPost w (sumB l)) := by
  obtain ⟨s, hs'⟩ : ∃ s : ByteArray, s = ⟨l.toArray⟩ := ⟨_, rfl⟩
  have hls : l.length = s.size := by rw [hs']; simp [ByteArray.size]
  have hge : ∀ k (h : k < s.size) (h2 : k < l.length), l[k] = s[k] := fun k h h2 => by
    subst hs'
    rfl
  have HLS := Lib.hid hls
  have HGE := Lib.hid hge
  rw [← hs']
  have hsz : s.size ≤ 1000000 := by omega
  clear hls hge hs' hs
  go_enter Tryz.func53, Tryz.ntmps53
  go_wp2_with fail
  go_loopg [7] s.size (fun gk i wr => ∃ k : Nat, s.size - k = gk ∧ k ≤ s.size ∧ i = .int .i64 (k : Int) ∧ (l.take k).all (fun c => hexC c.toNat) = true ∧ w = wr)
  case atStart => exact ⟨0, by omega, by omega, rfl, rfl, rfl⟩
  case round =>
    obtain ⟨k, rfl, hk, rfl, hall, rfl⟩ := hrel
    have HA := Lib.hid hall
    clear hall
    by_cases hlt : k < s.size
    · have hl : k < l.length := by rw [HLS.out]; exact hlt
      have hsn := hex_take_snoc l k hl
      have hfa := hex_false_of l k hl
      rw [HGE.out k hlt hl] at hsn hfa
      have NO := Lib.hid hfa
      have OK : Hid (hexC s[k].toNat = true → (l.take (k + 1)).all (fun c => hexC c.toNat) = true) := Lib.hid (fun h => by rw [hsn, HA.out, h]; rfl)
      clear hsn hfa
      generalize hck : s[k].toNat = c at *
      have hi : (s[k].toNat : Int) = (c : Int) := by omega
      go_wp2_with fail
      refine (digit_calls _ _).mono ?_
      rintro e w' ⟨rfl, rfl⟩
      cases h2 : digitB c
      · by_cases h3 : (97 : Int) ≤ (c : Int)
        · by_cases h4 : (c : Int) ≤ 102
          · have d4 : decide ((c : Int) ≤ 102) = true := by simpa using h4
            go_wp2_with fail
            go_roundg (s.size - (k + 1))
            case measure => omega
            case rel => exact ⟨k + 1, rfl, hlt, by simp, OK.out (by unfold hexC; rw [h2]; simp; omega), rfl⟩
          · have d4 : decide ((c : Int) ≤ 102) = false := by simpa using h4
            go_wp2_with fail
            go_ret
            exact BoolPost.of (NO.out (by unfold hexC; rw [h2]; simp; omega)) (Mod.refl _ _)
        · go_wp2_with fail
          go_ret
          exact BoolPost.of (NO.out (by unfold hexC; rw [h2]; simp; omega)) (Mod.refl _ _)
      · go_wp2_with fail
        go_roundg (s.size - (k + 1))
        case measure => omega
        case rel => exact ⟨k + 1, rfl, hlt, by simp, OK.out (by unfold hexC; rw [h2]; rfl), rfl⟩
    · obtain rfl : k = s.size := by omega
      have hall2 : l.all (fun c => hexC c.toNat) = true := by rw [← HA.out, ← HLS.out, List.take_length]
      go_wp2_with fail
      go_ret
      refine BoolPost.of ?_ (Mod.refl _ _)
      unfold sumB
      rw [hall2, HLS.out]
      by_cases h16 : s.size = 16
      · simp [h16]
      · have h17 : ¬ ((s.size : Int) = 16) := by omega
        simp [h16, h17]
set_option maxRecDepth 100000 in
set_option maxHeartbeats 2000000 in
theorem window_calls (w : World) (fr tl : Int) : Calls Tryz.prog 52 #[.agg #[.int .i64 fr, .int .i64 tl]] w (BoolPost w (decide (winE fr tl = 0))) := by
  have HB0 := Blk.new w 31 #[.int .i64 fr, .int .i64 tl]
  have HW : Hid (winE fr tl = if 0 ≤ fr ∧ fr ≤ tl ∧ tl ≤ 5761440 then 0 else 1) := Lib.hid rfl
  have HP0 := Lib.hid (pure_alloc w (.cells #[.int .i64 fr, .int .i64 tl] 31))
  go_enter Tryz.func52, Tryz.ntmps52
  generalize winE fr tl = z at *
  by_cases h1 : 0 ≤ fr
  · by_cases h2 : fr ≤ tl
    · by_cases h3 : tl ≤ 5761440
      all_goals
        go_wp2_with fail
        go_ret
        refine BoolPost.of ?_ HP0.out
        rw [HW.out]
        simp [h1, h2, h3]
    · go_wp2_with fail
      go_ret
      refine BoolPost.of ?_ HP0.out
      rw [HW.out, if_neg (by omega)]
      rfl
  · go_wp2_with fail
    go_ret
    refine BoolPost.of ?_ HP0.out
    rw [HW.out, if_neg (by omega)]
    rfl
def hexL : List UInt8 := [48, 49, 50, 51, 52, 53, 54, 55, 56, 57, 97, 98, 99, 100, 101, 102]
theorem hex_has (c : UInt8) : hexL.contains c = hexC c.toNat := all_byte _ _ (by decide +kernel) c
theorem onlyHex_calls (w : World) (l : Str) (hs : l.length ≤ 1000000) : Calls Tryz.prog 60 #[.string ⟨l.toArray⟩, .string ⟨#[48, 49, 50, 51, 52, 53, 54, 55, 56, 57, 97, 98, 99, 100, 101, 102]⟩] w (BoolPost w (l.all (fun c => hexC c.toNat))) := by
  have h := only_calls w ⟨l.toArray⟩ ⟨#[48, 49, 50, 51, 52, 53, 54, 55, 56, 57, 97, 98, 99, 100, 101, 102]⟩ (by simpa [ByteArray.size] using hs) (by decide) (ascii_of_all (by decide))
  have e : onlyB l hexL = l.all (fun c => hexC c.toNat) := by
    unfold onlyB
    congr 1
    funext c
    exact hex_has c
  rw [← e]
  exact h

end Go.Proofs.YtofkkenmkflmiaaGreatDoor

/- What the reference finds wrong with a filter. -/
namespace Go.Proofs.YtofkkenmkflmiaaGreatDoor
set_option linter.unusedVariables false
set_option linter.unusedSimpArgs false
open Go.RowKit

theorem kndAt_bad {ks : List Int} {k : Nat} (h : k < ks.length) (hb : inB ks[k] 1 4 = false) : kndAt ks k = 4 := by
  unfold kndAt
  rw [show ks.getD k 0 = ks[k] by simp [List.getD, h], if_pos (inB_false hb)]
theorem kndAt_ok {ks : List Int} {k : Nat} (h : k < ks.length) (hb : inB ks[k] 1 4 = true) : kndAt ks k = if 0 < k ∧ ks[k] ≤ ks.getD (k - 1) 0 then 7 else 0 := by
  unfold kndAt
  rw [show ks.getD k 0 = ks[k] by simp [List.getD, h], if_neg (fun hn => hn (inB_true hb))]
set_option maxRecDepth 100000 in
set_option maxHeartbeats 4000000 in
theorem risingKinds_calls (w : World) (v : Value) (ks : List Int) (hv : Sl w 3 1 v (ints ks)) (hl : ks.length ≤ 1000000) : Calls Tryz.prog 54 #[v] w (IntPost w (kndsE ks)) := by
  obtain ⟨A, n, c, rfl, hc1, hc2, hl2, hr⟩ := hv
  have hln : ks.length = n := by simpa [ints] using hl2
  subst hln
  have HR := Lib.hid hr
  clear hl2 hr
  go_enter Tryz.func54, Tryz.ntmps54
  go_wp2_with fail
  go_loopg [7] ks.length (fun gk i wr => ∃ k : Nat, ks.length - k = gk ∧ k ≤ ks.length ∧ i = .int .i64 (k : Int) ∧ kndFrom ks k = kndsE ks ∧ Pure w wr)
  case atStart => exact ⟨0, by omega, by omega, rfl, rfl, Mod.refl _ _⟩
  case round =>
    obtain ⟨k, rfl, hk, rfl, hix, hm⟩ := hrel
    have HIX := Lib.hid hix
    clear hix
    by_cases hlt : k < ks.length
    · obtain ⟨g, off, rfl, hrow⟩ := HR.out (by omega)
      have hq := (hrow.mod hm id).cell (ints_getV ks k hlt)
      have hi2 := kndFrom_step ks k hlt
      rw [HIX.out] at hi2
      have HI2 := Lib.hid hi2
      have HB := Lib.hid (fun h => kndAt_bad hlt h)
      have HO := Lib.hid (fun h => kndAt_ok hlt h)
      clear hi2 HIX
      by_cases h0 : k = 0
      · have d0 : ¬ (0 : Int) < (k : Int) := by omega
        have hn0 : ¬ 0 < k := by omega
        clear hrow
        generalize ks[k] = x at *
        have h0' := Nat.le_of_eq h0
        clear h0
        go_wp2_with fail
        refine (rin_calls _ _ _ _).mono ?_
        rintro e w1 ⟨rfl, rfl⟩
        cases hp : inB x 1 4
        · go_wp2_with fail
          go_ret
          exact IntPost.of (by rw [HI2.out, HB.out hp]; rfl) hm
        · go_wp2_with fail
          go_roundg (ks.length - (k + 1))
          case measure => omega
          case rel => exact ⟨k + 1, rfl, hlt, by simp, by rw [HI2.out, HO.out hp]; simp [hn0], hm⟩
      · obtain ⟨j, rfl⟩ : ∃ j, k = j + 1 := ⟨k - 1, by omega⟩
        have hq2 := (hrow.mod hm id).cell (ints_getV ks j (by omega))
        have HE1 := Lib.hid (show ks.getD (j + 1 - 1) 0 = ks[j] by simp [List.getD, show j < ks.length by omega])
        clear hrow h0
        generalize ks[j] = y at *
        generalize ks[j + 1] = x at *
        go_wp2_with fail
        refine (rin_calls _ _ _ _).mono ?_
        rintro e w1 ⟨rfl, rfl⟩
        cases hp : inB x 1 4
        · go_wp2_with fail
          go_ret
          exact IntPost.of (by rw [HI2.out, HB.out hp]; rfl) hm
        · by_cases hle : x ≤ y
          · have HLE := Lib.hid hle
            have hl2 : decide (x ≤ y) = true := by simpa using hle
            clear hle
            go_wp2_with fail
            go_ret
            have h1 : kndAt ks (j + 1) = 7 := by rw [HO.out hp, HE1.out, if_pos ⟨by omega, HLE.out⟩]
            exact IntPost.of (by rw [HI2.out, if_neg (by rw [h1]; decide), h1]) hm
          · have HLE := Lib.hid hle
            have hl2 : decide (x ≤ y) = false := by simpa using hle
            clear hle
            go_wp2_with fail
            have h1 : kndAt ks (j + 1) = 0 := by rw [HO.out hp, HE1.out, if_neg (fun h => by have h2 := h.2; have h3 := HLE.out; omega)]
            go_roundg (ks.length - (j + 1 + 1))
            case measure => omega
            case rel => exact ⟨j + 1 + 1, rfl, hlt, by simp, by rw [HI2.out, if_pos h1], hm⟩
    · have hke : k = ks.length := by omega
      have HS := Lib.hid (kndFrom_end ks)
      subst hke
      go_wp2_with fail
      go_ret
      exact IntPost.of (by rw [← HIX.out]; exact HS.out) hm
set_option maxRecDepth 100000 in
set_option maxHeartbeats 2000000 in
theorem windowFault_calls (w : World) (fr tl : Int) : Calls Tryz.prog 59 #[.agg #[.int .i64 fr, .int .i64 tl]] w (IntPost w (winE fr tl)) := by
  have HB0 := Blk.new w 31 #[.int .i64 fr, .int .i64 tl]
  have HW : Hid (winE fr tl = if 0 ≤ fr ∧ fr ≤ tl ∧ tl ≤ 5761440 then 0 else 1) := Lib.hid rfl
  have HP0 := Lib.hid (pure_alloc w (.cells #[.int .i64 fr, .int .i64 tl] 31))
  go_enter Tryz.func59, Tryz.ntmps59
  generalize winE fr tl = z at *
  go_wp2_with fail
  refine (rin_calls _ _ _ _).mono ?_
  rintro e w1 ⟨rfl, rfl⟩
  cases hp : inB fr 0 tl
  · have h1 := inB_false hp
    go_wp2_with fail
    go_ret
    refine IntPost.of ?_ HP0.out
    rw [HW.out, if_neg (by omega)]
  · have h1 := inB_true hp
    clear hp
    by_cases h3 : tl ≤ 5761440
    · have h4 : decide ((5761440 : Int) < tl) = false := by simp; omega
      go_wp2_with fail
      go_ret
      refine IntPost.of ?_ HP0.out
      rw [HW.out, if_pos ⟨h1.1, h1.2, h3⟩]
    · have h4 : decide ((5761440 : Int) < tl) = true := by simp; omega
      go_wp2_with fail
      go_ret
      refine IntPost.of ?_ HP0.out
      rw [HW.out, if_neg (by omega)]

end Go.Proofs.YtofkkenmkflmiaaGreatDoor

/- FilterFault of the reference. -/
namespace Go.Proofs.YtofkkenmkflmiaaGreatDoor
set_option linter.unusedVariables false
set_option linter.unusedSimpArgs false
open Go.RowKit

def FltF (gf : Nat) : Array Value := #[.func (.func 56) #[] #[.pointer (some ⟨gf, 0, none⟩)], .func (.func 58) #[] #[.pointer (some ⟨gf, 0, none⟩)]]
set_option maxRecDepth 100000 in
set_option maxHeartbeats 4000000 in
theorem rfirst_calls (w : World) (g c gf n : Nat) (hn : n = 2) (e1 e2 : Int) (hb : Blk w g 95 (FltF gf)) (hc : n ≤ c) (hc2 : c ≤ 1000) (h1 : ∀ W, Pure w W → Calls Tryz.prog 56 #[.pointer (some ⟨gf, 0, none⟩)] W (IntPost W e1)) (h2 : ∀ W, Pure w W → Calls Tryz.prog 58 #[.pointer (some ⟨gf, 0, none⟩)] W (IntPost W e2)) :
    Calls Tryz.prog 55 #[.slice (some ⟨g, 0, none⟩) n c] w (IntPost w (if e1 ≠ 0 then e1 else e2)) := by
  have H1 := Lib.hid h1
  have H2 := Lib.hid h2
  have HB := Lib.hid hb
  clear h1 h2 hb
  obtain ⟨er, her⟩ : ∃ er, (if e1 ≠ 0 then e1 else e2) = er := ⟨_, rfl⟩
  have HER := Lib.hid her
  rw [her]
  clear her
  go_enter Tryz.func55, Tryz.ntmps55
  go_wp2_with fail
  go_loopg [8] n (fun gk i wr => ∃ k : Nat, n - k = gk ∧ k ≤ n ∧ i = .int .i64 (k : Int) ∧ (0 < k → e1 = 0) ∧ (1 < k → e2 = 0) ∧ Pure w wr)
  case atStart => exact ⟨0, by omega, by omega, rfl, fun h => by omega, fun h => by omega, Mod.refl _ _⟩
  case round =>
    obtain ⟨k, rfl, hk, rfl, hz1, hz2, hm⟩ := hrel
    have hB := HB.out.modp hm
    unfold FltF at hB
    have c0 := hB.cell 0; have c1 := hB.cell 1; simp at c0 c1
    clear hB
    have hn2 := Nat.le_of_eq hn
    have hn3 := Nat.le_of_eq hn.symm
    clear hn
    by_cases hk0 : k = 0
    · subst hk0
      have i1 : (0 : Int) < (n : Int) := by omega
      have HC := Lib.hid (H1.out _ hm)
      clear hz1 hz2
      go_wp2_with fail
      refine HC.out.mono ?_
      rintro e w1 ⟨rfl, hm1⟩
      have hm2 := hm.trans hm1
      clear HC hm hm1
      by_cases h0 : e1 = 0
      · have h0' : (e1 != 0) = false := by simpa using h0
        have H0 := Lib.hid h0
        clear h0
        go_wp2_with fail
        go_roundg (n - 1)
        case measure => omega
        case rel => exact ⟨1, rfl, by omega, rfl, fun _ => H0.out, fun h => by omega, hm2⟩
      · have h0' : (e1 != 0) = true := by simpa using h0
        have H0 := Lib.hid h0
        clear h0
        go_wp2_with fail
        go_ret
        exact IntPost.of (by rw [← HER.out, if_pos H0.out]) hm2
    · by_cases hk1 : k = 1
      · subst hk1
        have i1 : (1 : Int) < (n : Int) := by omega
        have HC := Lib.hid (H2.out _ hm)
        have H0 := Lib.hid (hz1 (by omega))
        clear hz1 hz2 hk0
        go_wp2_with fail
        refine HC.out.mono ?_
        rintro e w1 ⟨rfl, hm1⟩
        have hm2 := hm.trans hm1
        clear HC hm hm1
        by_cases h2 : e2 = 0
        · have h0' : (e2 != 0) = false := by simpa using h2
          have H2z := Lib.hid h2
          clear h2
          go_wp2_with fail
          go_roundg (n - 2)
          case measure => omega
          case rel => exact ⟨2, rfl, by omega, rfl, fun _ => H0.out, fun _ => H2z.out, hm2⟩
        · have h0' : (e2 != 0) = true := by simpa using h2
          clear h2
          go_wp2_with fail
          go_ret
          exact IntPost.of (by rw [← HER.out, if_neg (by rw [H0.out]; simp)]) hm2
      · obtain rfl : k = n := by omega
        have HE : Hid (er = 0) := Lib.hid (by rw [← HER.out, if_neg (by rw [hz1 (by omega)]; simp), hz2 (by omega)])
        clear hz1 hz2 hk0 hk1
        go_wp2_with fail
        go_ret
        exact IntPost.of HE.out hm
theorem ff1_calls (w : World) (gf : Nat) (vk vs : Value) (f : Flt) (A : Option Addr) (n c : Nat) (hb : Blk w gf 33 #[vk, .slice A n c, .int .i64 f.fr, .int .i64 f.tl, vs]) (hv : Sl w 9 1 (.slice A n c) (strsV f.custs)) (hz : ∀ s ∈ f.custs, s.length ≤ 1000) (hl : f.custs.length ≤ 1000) : Calls Tryz.prog 56 #[.pointer (some ⟨gf, 0, none⟩)] w (IntPost w (risingE keyE f.custs)) := by
  have HC := Lib.hid (risingKeys_calls w _ f.custs hv hz (by omega))
  have c0 := hb.cell 0; have c1 := hb.cell 1; have c2 := hb.cell 2; have c3 := hb.cell 3; have c4 := hb.cell 4; simp at c0 c1 c2 c3 c4
  clear hb
  go_enter Tryz.func56, Tryz.ntmps56
  go_wp2_with fail
  refine HC.out.mono ?_
  rintro e w1 ⟨rfl, hm⟩
  go_wp2_with fail
  go_ret
  exact IntPost.of rfl hm
theorem ff2_calls (w : World) (gf : Nat) (vk vc vs : Value) (fr tl : Int) (hb : Blk w gf 33 #[vk, vc, .int .i64 fr, .int .i64 tl, vs]) : Calls Tryz.prog 58 #[.pointer (some ⟨gf, 0, none⟩)] w (IntPost w (winE fr tl)) := by
  have HC := Lib.hid (windowFault_calls w fr tl)
  have c0 := hb.cell 0; have c1 := hb.cell 1; have c2 := hb.cell 2; have c3 := hb.cell 3; have c4 := hb.cell 4; simp at c0 c1 c2 c3 c4
  clear hb
  go_enter Tryz.func58, Tryz.ntmps58
  go_wp2_with fail
  refine HC.out.mono ?_
  rintro e w1 ⟨rfl, hm⟩
  go_wp2_with fail
  go_ret
  exact IntPost.of rfl hm

end Go.Proofs.YtofkkenmkflmiaaGreatDoor

/- FilterFault of the reference: the walk. -/
namespace Go.Proofs.YtofkkenmkflmiaaGreatDoor
set_option linter.unusedVariables false
set_option linter.unusedSimpArgs false
open Go.RowKit

theorem sumAt_bad {ss : List Str} {k : Nat} (h : k < ss.length) (hk : sumB ss[k] = false) : idAt sumE ss k = 3 := idAt_bad' sumE h (sumE_f hk) (by decide)
theorem sumAt_ok {ss : List Str} {k : Nat} (h : k < ss.length) (hk : sumB ss[k] = true) : idAt sumE ss k = if 0 < k ∧ leS ss[k] (ss.getD (k - 1) []) = true then 7 else 0 := by
  rw [idAt_eqG sumE h, if_neg (by rw [sumE_t hk]; simp)]
set_option maxRecDepth 100000 in
set_option maxHeartbeats 16000000 in
theorem filterFault_calls (w : World) (v : Value) (f : Flt) (hv : FlV w f v) (hf : FlB f) : Calls Tryz.prog 12 #[v] w (IntPost w (filE f)) := by
  obtain ⟨vk, vc, vs, rfl, h1, h2, h3⟩ := hv
  have HP0 := Lib.hid (pure_alloc w (.cells #[vk, vc, .int .i64 f.fr, .int .i64 f.tl, vs] 33))
  have HB0 := Lib.hid (Blk.new w 33 #[vk, vc, .int .i64 f.fr, .int .i64 f.tl, vs])
  obtain ⟨hf1, hf2, hf3, hf4, hf5⟩ := hf
  obtain ⟨A1, n1, c1, rfl⟩ := h1.form
  obtain ⟨A2, n2, c2, rfl⟩ := h2.form
  have hk2 : f.custs.length = n2 := Sl.lenS h2
  have HRK := Lib.hid (fun W (h : Pure w W) => risingKinds_calls W _ f.kinds (h1.pure h) (by omega))
  have H2 := Lib.hid h2
  have HZ4 := Lib.hid hf4
  obtain ⟨A3, n3, c3, rfl, he1, he2, hl3, hr3⟩ := h3
  have hk3 : f.known.length = n3 := by simpa [strsV] using hl3
  subst hk2 hk3
  have HR3 := Lib.hid hr3
  have HZ5 := Lib.hid hf5
  have HFE : Hid (filE f = if kndsE f.kinds ≠ 0 then kndsE f.kinds else if risingE keyE f.custs ≠ 0 then risingE keyE f.custs else if winE f.fr f.tl ≠ 0 then winE f.fr f.tl else risingE sumE f.known) := Lib.hid rfl
  clear h1 h2 hl3 hr3 hf4 hf5
  obtain ⟨kinds, custs, fr, tl, known⟩ := f
  simp only [] at HFE hf1 hf2 hf3 HR3 HZ4 HZ5 he1 he2 HP0 HB0 HRK H2 ⊢
  generalize filE ⟨kinds, custs, fr, tl, known⟩ = fe at *
  go_enter Tryz.func12, Tryz.ntmps12
  go_upto_region 1 with (fail)
  generalize (w.alloc (.cells #[.slice A1 n1 c1, .slice A2 custs.length c2, .int .i64 fr, .int .i64 tl, .slice A3 known.length c3] 33)) = w1 at *
  generalize w.heap.size = gf at *
  have HF1 : Hid (∀ W, Pure w1 W → Calls Tryz.prog 56 #[.pointer (some ⟨gf, 0, none⟩)] W (IntPost W (risingE keyE custs))) := Lib.hid (fun W h => ff1_calls W gf (.slice A1 n1 c1) (.slice A3 known.length c3) ⟨kinds, custs, fr, tl, known⟩ A2 custs.length c2 (HB0.out.modp h) (H2.out.pure (HP0.out.trans h)) HZ4.out (by simp; omega))
  have HF2 : Hid (∀ W, Pure w1 W → Calls Tryz.prog 58 #[.pointer (some ⟨gf, 0, none⟩)] W (IntPost W (winE fr tl))) := Lib.hid (fun W h => ff2_calls W gf _ _ _ fr tl (HB0.out.modp h))
  have HK1 := Lib.hid (HRK.out w1 HP0.out)
  have hB0 := HB0.out
  have c0 := hB0.cell 0; have c1 := hB0.cell 1; have c2 := hB0.cell 2; have c3 := hB0.cell 3; have c4 := hB0.cell 4; simp at c0 c1 c2 c3 c4
  have hn2 : ¬ (200 : Int) < (custs.length : Int) := by omega
  have hn3 : ¬ (500 : Int) < (known.length : Int) := by omega
  clear hB0 HRK H2 HZ4
  go_wp2_with fail
  refine HK1.out.mono ?_
  rintro e w2 ⟨rfl, hm2⟩
  have hB2 := HB0.out.modp hm2
  have HM2 := Lib.hid hm2
  clear c0 c1 c2 c3 c4 HK1 hm2
  have c0 := hB2.cell 0; have c1 := hB2.cell 1; have c2 := hB2.cell 2; have c3 := hB2.cell 3; have c4 := hB2.cell 4; simp at c0 c1 c2 c3 c4
  by_cases hk0 : kndsE kinds = 0
  · have hk0' : (kndsE kinds != 0) = false := by simpa using hk0
    rw [hk0, if_neg (by simp)] at HFE
    clear hk0
    have HFR := Lib.hid (fun W (h : Pure w1 W) (g : Nat) (hb : Blk W g 95 (FltF gf)) => rfirst_calls W g 2 gf 2 rfl (risingE keyE custs) (winE fr tl) hb (by omega) (by omega) (fun W2 h2 => HF1.out W2 (h.trans h2)) (fun W2 h2 => HF2.out W2 (h.trans h2)))
    have HBN := Lib.hid (Blk.new w2 95 (FltF gf))
    unfold FltF at HBN
    clear HF1 HF2
    obtain ⟨er, her⟩ : ∃ er, (if risingE keyE custs ≠ 0 then risingE keyE custs else winE fr tl) = er := ⟨_, rfl⟩
    have HFE2 : Hid (fe = if er ≠ 0 then er else risingE sumE known) := Lib.hid (by
      rw [HFE.out, ← her]
      by_cases h : risingE keyE custs = 0
      · simp [h]
      · simp [h])
    rw [her] at HFR
    clear her HFE
    go_wp2_with fail
    refine (HFR.out _ (HM2.out.trans (pure_alloc _ _)) _ HBN.out).mono ?_
    rintro e w3 ⟨rfl, hm3⟩
    have HM3 := Lib.hid ((HM2.out.trans (pure_alloc _ _)).trans hm3)
    clear HFR HBN HM2 hm3 c0 c1 c2 c3 c4 hB2
    have hB2 := HB0.out.modp HM3.out
    have c0 := hB2.cell 0; have c1 := hB2.cell 1; have c2 := hB2.cell 2; have c3 := hB2.cell 3; have c4 := hB2.cell 4; simp at c0 c1 c2 c3 c4
    by_cases h0 : er = 0
    · subst h0
      have HFE3 : Hid (fe = risingE sumE known) := Lib.hid (by rw [HFE2.out, if_neg (by simp)])
      clear HFE2 hB2
      go_wp2_with fail
      go_loopg [31] known.length (fun gk i wr => ∃ k : Nat, known.length - k = gk ∧ k ≤ known.length ∧ i = .int .i64 (k : Int) ∧ risingFrom sumE known k = risingE sumE known ∧ Pure w1 wr)
      case atStart => exact ⟨0, by omega, by omega, rfl, rfl, HM3.out⟩
      case round =>
        clear HM3 c0 c1 c2 c3 c4
        obtain ⟨k, rfl, hk, rfl, hix, hm⟩ := hrel
        have HIX := Lib.hid hix
        clear hix
        have hB1 := HB0.out.modp hm
        have c0 := hB1.cell 0; have c1 := hB1.cell 1; have c2 := hB1.cell 2; have c3 := hB1.cell 3; have c4 := hB1.cell 4; simp at c0 c1 c2 c3 c4
        clear hB1
        by_cases hlt : k < known.length
        · obtain ⟨g, off, rfl, hrow⟩ := HR3.out (by omega)
          have hrw := hrow.mod (HP0.out.trans hm) id
          have hq := hrw.cell (strsV_get known k hlt)
          have hi2 := risingFrom_step sumE known k hlt
          rw [HIX.out] at hi2
          have HI2 := Lib.hid hi2
          have hzk := HZ5.out _ (List.getElem_mem hlt)
          have HB := Lib.hid (fun h => sumAt_bad hlt h)
          have HO := Lib.hid (fun h => sumAt_ok hlt h)
          have hj1 : k = 0 ∨ ∃ j, k = j + 1 := by
            cases k with
            | zero => exact .inl rfl
            | succ j => exact .inr ⟨j, rfl⟩
          have HGD : Hid (∀ j, k = j + 1 → ∃ y, known.getD (k - 1) [] = y ∧ ∀ W, Pure wr W → W.cell? ⟨g, off + j, none⟩ = some (.string ⟨y.toArray⟩)) := Lib.hid (fun j hj => by
            subst hj
            refine ⟨known[j], by simp [List.getD, show j < known.length by omega], fun W h => ?_⟩
            exact (hrw.mod h id).cell (strsV_get known j (by omega)))
          clear hi2 HIX hrow hrw
          generalize known[k] = x at *
          generalize known.getD (k - 1) [] = yd at *
          have hxs : (⟨x.toArray⟩ : ByteArray).size = x.length := by simp [ByteArray.size]
          by_cases h16 : x.length = 16
          · have hl1 : ((x.length : Int) != 16) = false := by simp; omega
            have HSB : Hid (sumB x = x.all fun c => hexC c.toNat) := Lib.hid (by unfold sumB; rw [h16]; simp)
            have HOX := Lib.hid (onlyHex_calls wr x (by omega))
            clear h16
            go_wp2_with fail
            refine HOX.out.mono ?_
            rintro e w2 ⟨rfl, hmo⟩
            rw [← HSB.out]
            have hm3 := hm.trans hmo
            have hB1 := HB0.out.modp hm3
            clear c0 c1 c2 c3 c4 HOX HSB
            have c0 := hB1.cell 0; have c1 := hB1.cell 1; have c2 := hB1.cell 2; have c3 := hB1.cell 3; have c4 := hB1.cell 4; simp at c0 c1 c2 c3 c4
            clear hB1
            cases hsb : sumB x
            · clear HO HGD
              go_wp2_with fail
              go_ret
              exact IntPost.of (by rw [HFE3.out, HI2.out, HB.out hsb]; rfl) (HP0.out.trans hm3)
            · have HOK := Lib.hid (HO.out hsb)
              clear HO HB hsb
              rcases hj1 with rfl | ⟨j, rfl⟩
              · have h1 : idAt sumE known 0 = 0 := by rw [HOK.out, if_neg (fun h => absurd h.1 (by omega))]
                have HNX : Hid (risingFrom sumE known (0 + 1) = risingE sumE known) := Lib.hid (by rw [HI2.out, if_pos h1])
                have d0 : ¬ (0 : Int) < ((0 : Nat) : Int) := by omega
                clear h1 HOK HI2 HGD
                go_wp2_with fail
                go_roundg (known.length - (0 + 1))
                case measure => omega
                case rel => exact ⟨0 + 1, rfl, hlt, by simp, HNX.out, hm3⟩
              · obtain ⟨y, hy, hcell⟩ := HGD.out j rfl
                have hq3 := hcell _ hmo
                rw [hy] at HOK
                have hj0 : 0 < j + 1 := by omega
                clear HGD hcell hy hq
                cases hle : leS x y
                · have hle2 : (Op.bytesLess x y || x == y) = false := hle
                  have HNX : Hid (risingFrom sumE known (j + 1 + 1) = risingE sumE known) := Lib.hid (by
                    have h1 : idAt sumE known (j + 1) = 0 := by rw [HOK.out, hle]; simp
                    rw [HI2.out, if_pos h1])
                  clear HOK HI2 hle
                  go_wp2_with fail
                  go_roundg (known.length - (j + 1 + 1))
                  case measure => omega
                  case rel => exact ⟨j + 1 + 1, rfl, hlt, by simp, HNX.out, hm3⟩
                · have hle2 : (Op.bytesLess x y || x == y) = true := hle
                  have HNX : Hid (risingE sumE known = 7) := Lib.hid (by
                    have h1 : idAt sumE known (j + 1) = 7 := by rw [HOK.out, hle]; simp
                    rw [HI2.out, if_neg (by rw [h1]; decide), h1])
                  clear HOK HI2 hle
                  go_wp2_with fail
                  go_ret
                  exact IntPost.of (by rw [HFE3.out, HNX.out]) (HP0.out.trans hm3)
          · have hl1 : ((x.length : Int) != 16) = true := by simp; omega
            have HSB : Hid (sumB x = false) := Lib.hid (by unfold sumB; simp [h16])
            clear h16
            go_wp2_with fail
            go_ret
            exact IntPost.of (by rw [HFE3.out, HI2.out, HB.out HSB.out]; rfl) (HP0.out.trans hm)
        · obtain rfl : k = known.length := by omega
          have HS0 : Hid (risingE sumE known = 0) := Lib.hid (by rw [← HIX.out, risingFrom_end])
          clear HIX HR3
          go_wp2_with fail
          go_ret
          exact IntPost.of (by rw [HFE3.out, HS0.out]) (HP0.out.trans hm)
    · have h0' : (er != 0) = true := by simpa using h0
      have HE : Hid (fe = er) := Lib.hid (by rw [HFE2.out, if_pos h0])
      clear h0 HFE2 hB2
      go_wp2_with fail
      go_ret
      exact IntPost.of HE.out (HP0.out.trans HM3.out)
  · have hk0' : (kndsE kinds != 0) = true := by simpa using hk0
    rw [if_pos hk0] at HFE
    clear hk0
    go_wp2_with fail
    go_ret
    exact IntPost.of HFE.out (HP0.out.trans HM2.out)

end Go.Proofs.YtofkkenmkflmiaaGreatDoor

/- CheckFilter of package intake. -/
namespace Go.Proofs.YtofkkenmkflmiaaGreatDoor
set_option linter.unusedVariables false
set_option linter.unusedSimpArgs false
open Go.RowKit

set_option maxRecDepth 100000 in
set_option maxHeartbeats 16000000 in
theorem checkFilter_calls (w : World) (v : Value) (f : Flt) (hv : FlV w f v) (hf : FlB f) : Calls Tryz.prog 11 #[v] w (IntPost w (filE f)) := by
  obtain ⟨vk, vc, vs, rfl, h1, h2, h3⟩ := hv
  obtain ⟨A1, n1, c1, rfl, hc1, hc2, hl1, hr1⟩ := h1
  obtain ⟨A2, n2, c2, rfl, hd1, hd2, hl2, hr2⟩ := h2
  obtain ⟨A3, n3, c3, rfl, he1, he2, hl3, hr3⟩ := h3
  have hk1 : f.kinds.length = n1 := by simpa [ints] using hl1
  have hk2 : f.custs.length = n2 := by simpa [strsV] using hl2
  have hk3 : f.known.length = n3 := by simpa [strsV] using hl3
  subst hk1 hk2 hk3
  obtain ⟨hf1, hf2, hf3, hf4, hf5⟩ := hf
  have HR1 := Lib.hid hr1
  have HR2 := Lib.hid hr2
  have HR3 := Lib.hid hr3
  have HZ4 := Lib.hid hf4
  have HZ5 := Lib.hid hf5
  clear hl1 hl2 hl3 hr1 hr2 hr3 hf4 hf5
  have HFE : Hid (filE f = if kndsE f.kinds ≠ 0 then kndsE f.kinds else if risingE keyE f.custs ≠ 0 then risingE keyE f.custs else if winE f.fr f.tl ≠ 0 then winE f.fr f.tl else risingE sumE f.known) := Lib.hid rfl
  obtain ⟨kinds, custs, fr, tl, known⟩ := f
  simp only [] at HFE hf1 hf2 hf3 HR1 HR2 HR3 HZ4 HZ5 hc1 hc2 hd1 hd2 he1 he2 ⊢
  generalize filE ⟨kinds, custs, fr, tl, known⟩ = fe at *
  have HB0 := Lib.hid (Blk.new w 33 #[.slice A1 kinds.length c1, .slice A2 custs.length c2, .int .i64 fr, .int .i64 tl, .slice A3 known.length c3])
  have HP0 := Lib.hid (pure_alloc w (.cells #[.slice A1 kinds.length c1, .slice A2 custs.length c2, .int .i64 fr, .int .i64 tl, .slice A3 known.length c3] 33))
  go_enter Tryz.func11, Tryz.ntmps11
  go_upto_region 1 with (fail)
  generalize (w.alloc (.cells #[.slice A1 kinds.length c1, .slice A2 custs.length c2, .int .i64 fr, .int .i64 tl, .slice A3 known.length c3] 33)) = w1 at *
  generalize w.heap.size = gf at *
  have hB0 := HB0.out
  have c0 := hB0.cell 0; have c1 := hB0.cell 1; have c2 := hB0.cell 2; have c3 := hB0.cell 3; have c4 := hB0.cell 4; simp at c0 c1 c2 c3 c4
  clear hB0
  go_wp2_with fail
  go_loopg [15] kinds.length (fun gk i wr => ∃ k : Nat, kinds.length - k = gk ∧ k ≤ kinds.length ∧ i = .int .i64 (k : Int) ∧ kndFrom kinds k = kndsE kinds ∧ Pure w1 wr)
  case atStart => exact ⟨0, by omega, by omega, rfl, rfl, Mod.refl _ _⟩
  case round =>
    obtain ⟨k, rfl, hk, rfl, hix, hm⟩ := hrel
    have HIX := Lib.hid hix
    clear hix c0 c1 c2 c3 c4
    have hB1 := HB0.out.modp hm
    have c0 := hB1.cell 0; have c1 := hB1.cell 1; have c2 := hB1.cell 2; have c3 := hB1.cell 3; have c4 := hB1.cell 4; simp at c0 c1 c2 c3 c4
    clear hB1
    by_cases hlt : k < kinds.length
    · obtain ⟨g, off, rfl, hrow⟩ := HR1.out (by omega)
      have hrw := hrow.mod (HP0.out.trans hm) id
      have hq := hrw.cell (ints_getV kinds k hlt)
      have hi2 := kndFrom_step kinds k hlt
      rw [HIX.out] at hi2
      have HI2 := Lib.hid hi2
      have HAT := Lib.hid (kndAt_eq hlt)
      clear hi2 HIX hrow
      by_cases h0 : k = 0
      · have d0 : ¬ (0 : Int) < (k : Int) := by omega
        have hn0 : ¬ 0 < k := by omega
        clear hrw
        generalize kinds[k] = x at *
        have h0' := Nat.le_of_eq h0
        clear h0
        go_wp2_with fail
        refine (kindWord_calls _ _).mono ?_
        rintro e w2 ⟨rfl, rfl⟩
        obtain ⟨kb, hkb⟩ : ∃ kb, (kwS x).isEmpty = kb := ⟨_, rfl⟩
        have HKB := Lib.hid hkb
        cases kb
        · have HNX : Hid (kndFrom kinds (k + 1) = kndsE kinds) := Lib.hid (by
            have h1 : kndAt kinds k = 0 := by rw [HAT.out, if_neg (by rw [HKB.out]; simp), if_neg (fun h => hn0 h.1)]
            rw [HI2.out, if_pos h1])
          clear HAT HI2 HKB
          go_wp2_with fail
          refine (when_any2 _ _ _).mono ?_
          rintro e w2 ⟨rfl, rfl⟩
          go_wp2_with fail
          refine (when_any2 _ _ _).mono ?_
          rintro e w2 ⟨rfl, rfl⟩
          go_wp2_with fail
          refine (firstE_calls _ _ _ [0, 0] (Blk.new _ _ _).row0 (by simp)).mono ?_
          rintro e w2 ⟨rfl, hm2⟩
          have HM2 := Lib.hid ((hm.alloc _).trans hm2)
          clear hm2 hm hkb
          rw [show firstErr [0, 0] = 0 from rfl]
          go_wp2_with fail
          go_roundg (kinds.length - (k + 1))
          case measure => omega
          case rel => exact ⟨k + 1, rfl, hlt, by simp, HNX.out, HM2.out⟩
        · have HNX : Hid (kndsE kinds = 4) := Lib.hid (by
            have h1 : kndAt kinds k = 4 := by rw [HAT.out, if_pos HKB.out]
            rw [HI2.out, if_neg (by rw [h1]; decide), h1])
          clear HAT HI2 HKB
          go_wp2_with fail
          refine (when_any2 _ _ _).mono ?_
          rintro e w2 ⟨rfl, rfl⟩
          go_wp2_with fail
          refine (when_any2 _ _ _).mono ?_
          rintro e w2 ⟨rfl, rfl⟩
          go_wp2_with fail
          refine (firstE_calls _ _ _ [4, 0] (Blk.new _ _ _).row0 (by simp)).mono ?_
          rintro e w2 ⟨rfl, hm2⟩
          have HM2 := Lib.hid (HP0.out.trans ((hm.alloc _).trans hm2))
          clear hm2 hm hkb
          rw [show firstErr [4, 0] = 4 from rfl]
          go_wp2_with fail
          go_ret
          exact IntPost.of (by rw [HFE.out, HNX.out]; rfl) HM2.out
      · obtain ⟨j, rfl⟩ : ∃ j, k = j + 1 := ⟨k - 1, by omega⟩
        have hq2 := hrw.cell (ints_getV kinds j (by omega))
        rw [show kinds.getD (j + 1 - 1) 0 = kinds[j] by simp [List.getD, show j < kinds.length by omega]] at HAT
        clear hrw
        generalize kinds[j + 1] = x at *
        generalize kinds[j] = y at *
        have hj0 : 0 < j + 1 := by omega
        have hmx : max ((j : Int) + 1) 1 = (j : Int) + 1 := by omega
        clear h0
        go_wp2_with fail
        refine (kindWord_calls _ _).mono ?_
        rintro e w2 ⟨rfl, rfl⟩
        obtain ⟨kb, hkb⟩ : ∃ kb, (kwS x).isEmpty = kb := ⟨_, rfl⟩
        have HKB := Lib.hid hkb
        cases kb
        · by_cases hle : x ≤ y
          · have HLX := Lib.hid hle
            have HNX : Hid (kndsE kinds = 7) := Lib.hid (by
              have h1 : kndAt kinds (j + 1) = 7 := by rw [HAT.out, if_neg (by rw [HKB.out]; simp), if_pos ⟨hj0, HLX.out⟩]
              rw [HI2.out, if_neg (by rw [h1]; decide), h1])
            clear HAT HI2 HKB
            go_wp2_with fail
            refine (when_any2 _ _ _).mono ?_
            rintro e w2 ⟨rfl, rfl⟩
            go_wp2_with fail
            refine (when_any2 _ _ _).mono ?_
            rintro e w2 ⟨rfl, rfl⟩
            go_wp2_with fail
            refine (firstE_calls _ _ _ [0, 7] (Blk.new _ _ _).row0 (by simp)).mono ?_
            rintro e w2 ⟨rfl, hm2⟩
            have HM2 := Lib.hid (HP0.out.trans ((hm.alloc _).trans hm2))
            clear hm2 hm hkb
            rw [show firstErr [0, 7] = 7 from rfl]
            go_wp2_with fail
            go_ret
            exact IntPost.of (by rw [HFE.out, HNX.out]; rfl) HM2.out
          · have HLX := Lib.hid hle
            have HNX : Hid (kndFrom kinds ((j + 1) + 1) = kndsE kinds) := Lib.hid (by
              have h1 : kndAt kinds (j + 1) = 0 := by rw [HAT.out, if_neg (by rw [HKB.out]; simp), if_neg (fun h => HLX.out h.2)]
              rw [HI2.out, if_pos h1])
            clear HAT HI2 HKB
            go_wp2_with fail
            refine (when_any2 _ _ _).mono ?_
            rintro e w2 ⟨rfl, rfl⟩
            go_wp2_with fail
            refine (when_any2 _ _ _).mono ?_
            rintro e w2 ⟨rfl, rfl⟩
            go_wp2_with fail
            refine (firstE_calls _ _ _ [0, 0] (Blk.new _ _ _).row0 (by simp)).mono ?_
            rintro e w2 ⟨rfl, hm2⟩
            have HM2 := Lib.hid ((hm.alloc _).trans hm2)
            clear hm2 hm hkb
            rw [show firstErr [0, 0] = 0 from rfl]
            go_wp2_with fail
            go_roundg (kinds.length - ((j + 1) + 1))
            case measure => omega
            case rel => exact ⟨(j + 1) + 1, rfl, hlt, by simp, HNX.out, HM2.out⟩
        · by_cases hle : x ≤ y
          · have HLX := Lib.hid hle
            have HNX : Hid (kndsE kinds = 4) := Lib.hid (by
              have h1 : kndAt kinds (j + 1) = 4 := by rw [HAT.out, if_pos HKB.out]
              rw [HI2.out, if_neg (by rw [h1]; decide), h1])
            clear HAT HI2 HKB
            go_wp2_with fail
            refine (when_any2 _ _ _).mono ?_
            rintro e w2 ⟨rfl, rfl⟩
            go_wp2_with fail
            refine (when_any2 _ _ _).mono ?_
            rintro e w2 ⟨rfl, rfl⟩
            go_wp2_with fail
            refine (firstE_calls _ _ _ [4, 7] (Blk.new _ _ _).row0 (by simp)).mono ?_
            rintro e w2 ⟨rfl, hm2⟩
            have HM2 := Lib.hid (HP0.out.trans ((hm.alloc _).trans hm2))
            clear hm2 hm hkb
            rw [show firstErr [4, 7] = 4 from rfl]
            go_wp2_with fail
            go_ret
            exact IntPost.of (by rw [HFE.out, HNX.out]; rfl) HM2.out
          · have HLX := Lib.hid hle
            have HNX : Hid (kndsE kinds = 4) := Lib.hid (by
              have h1 : kndAt kinds (j + 1) = 4 := by rw [HAT.out, if_pos HKB.out]
              rw [HI2.out, if_neg (by rw [h1]; decide), h1])
            clear HAT HI2 HKB
            go_wp2_with fail
            refine (when_any2 _ _ _).mono ?_
            rintro e w2 ⟨rfl, rfl⟩
            go_wp2_with fail
            refine (when_any2 _ _ _).mono ?_
            rintro e w2 ⟨rfl, rfl⟩
            go_wp2_with fail
            refine (firstE_calls _ _ _ [4, 0] (Blk.new _ _ _).row0 (by simp)).mono ?_
            rintro e w2 ⟨rfl, hm2⟩
            have HM2 := Lib.hid (HP0.out.trans ((hm.alloc _).trans hm2))
            clear hm2 hm hkb
            rw [show firstErr [4, 0] = 4 from rfl]
            go_wp2_with fail
            go_ret
            exact IntPost.of (by rw [HFE.out, HNX.out]; rfl) HM2.out
    · obtain rfl : k = kinds.length := by omega
      have HK0 : Hid (kndsE kinds = 0) := Lib.hid (by rw [← HIX.out, kndFrom_end])
      have HM1 := Lib.hid hm
      have hn2 : ¬ (200 : Int) < (custs.length : Int) := by omega
      have hn3 : ¬ (500 : Int) < (known.length : Int) := by omega
      rw [HK0.out, if_neg (by simp)] at HFE
      clear HIX hm HR1
      go_wp2_with fail
      go_loopg [51] custs.length (fun gk i wr => ∃ k : Nat, custs.length - k = gk ∧ k ≤ custs.length ∧ i = .int .i64 (k : Int) ∧ risingFrom keyE custs k = risingE keyE custs ∧ Pure w1 wr)
      case atStart => exact ⟨0, by omega, by omega, rfl, rfl, HM1.out⟩
      case round =>
        clear HM1 c0 c1 c2 c3 c4
        obtain ⟨k, rfl, hk, rfl, hix, hm⟩ := hrel
        have HIX := Lib.hid hix
        clear hix
        have hB1 := HB0.out.modp hm
        have c0 := hB1.cell 0; have c1 := hB1.cell 1; have c2 := hB1.cell 2; have c3 := hB1.cell 3; have c4 := hB1.cell 4; simp at c0 c1 c2 c3 c4
        clear hB1
        by_cases hlt : k < custs.length
        · obtain ⟨g, off, rfl, hrow⟩ := HR2.out (by omega)
          have hrw := hrow.mod (HP0.out.trans hm) id
          have hq := hrw.cell (strsV_get custs k hlt)
          have hi2 := risingFrom_step keyE custs k hlt
          rw [HIX.out] at hi2
          have HI2 := Lib.hid hi2
          have HBAD : Hid (∀ e, keyE custs[k] = e → e ≠ 0 → idAt keyE custs k = e) := Lib.hid (fun e he h0 => idAt_bad' keyE hlt he h0)
          have hzk := HZ4.out _ (List.getElem_mem hlt)
          clear hi2 HIX hrow
          by_cases h0 : k = 0
          · have d0 : ¬ (0 : Int) < (k : Int) := by omega
            have hn0 : ¬ 0 < k := by omega
            have HLE : Hid (keyE custs[k] = 0 → idAt keyE custs k = 0) := Lib.hid (fun he => idAt_0' keyE hlt he hn0)
            clear hrw
            generalize custs[k] = x at *
            have h0' := Nat.le_of_eq h0
            clear h0
            go_wp2_with fail
            refine (key_any _ _ (by omega)).mono ?_
            rintro e w2 ⟨rfl, hmk⟩
            obtain ⟨kb, hkb⟩ : ∃ kb, keyB x = kb := ⟨_, rfl⟩
            have HKB := Lib.hid hkb
            rw [hkb]
            clear hkb
            have hm3 := hm.trans hmk
            have hB1 := HB0.out.modp hm3
            clear c0 c1 c2 c3 c4
            have c0 := hB1.cell 0; have c1 := hB1.cell 1; have c2 := hB1.cell 2; have c3 := hB1.cell 3; have c4 := hB1.cell 4; simp at c0 c1 c2 c3 c4
            clear hB1
            cases kb
            · have HNX : Hid (risingE keyE custs = 5) := Lib.hid (by
                have h1 : idAt keyE custs k = 5 := by exact HBAD.out _ (keyE_f HKB.out) (by decide)
                rw [HI2.out, if_neg (by rw [h1]; decide), h1])
              clear HI2 HKB HBAD HLE
              go_wp2_with fail
              refine (when_any2 _ _ _).mono ?_
              rintro e w2 ⟨rfl, rfl⟩
              go_wp2_with fail
              refine (when_any2 _ _ _).mono ?_
              rintro e w2 ⟨rfl, rfl⟩
              go_wp2_with fail
              refine (firstE_calls _ _ _ [5, 0] (Blk.new _ _ _).row0 (by simp)).mono ?_
              rintro e w2 ⟨rfl, hm2⟩
              have HM2 := Lib.hid (HP0.out.trans ((hm3.alloc _).trans hm2))
              clear hm2 hm hm3 hmk
              rw [show firstErr [5, 0] = 5 from rfl]
              go_wp2_with fail
              go_ret
              exact IntPost.of (by rw [HFE.out, HNX.out]; rfl) HM2.out
            · have HNX : Hid (risingFrom keyE custs (k + 1) = risingE keyE custs) := Lib.hid (by
                have h1 : idAt keyE custs k = 0 := by exact HLE.out (keyE_t HKB.out)
                rw [HI2.out, if_pos h1])
              clear HI2 HKB HBAD HLE
              go_wp2_with fail
              refine (when_any2 _ _ _).mono ?_
              rintro e w2 ⟨rfl, rfl⟩
              go_wp2_with fail
              refine (when_any2 _ _ _).mono ?_
              rintro e w2 ⟨rfl, rfl⟩
              go_wp2_with fail
              refine (firstE_calls _ _ _ [0, 0] (Blk.new _ _ _).row0 (by simp)).mono ?_
              rintro e w2 ⟨rfl, hm2⟩
              have HM2 := Lib.hid ((hm3.alloc _).trans hm2)
              clear hm2 hm hm3 hmk
              rw [show firstErr [0, 0] = 0 from rfl]
              go_wp2_with fail
              go_roundg (custs.length - (k + 1))
              case measure => omega
              case rel => exact ⟨k + 1, rfl, hlt, by simp, HNX.out, HM2.out⟩
          · obtain ⟨j, rfl⟩ : ∃ j, k = j + 1 := ⟨k - 1, by omega⟩
            have hq2 := hrw.cell (strsV_get custs j (by omega))
            have HLE : Hid (∀ b : Bool, leS custs[j + 1] custs[j] = b → keyE custs[j + 1] = 0 → idAt keyE custs (j + 1) = if b = true then 7 else 0) := Lib.hid (fun b hb he => idAt_le' keyE hlt he hb)
            clear hrw
            generalize custs[j + 1] = x at *
            generalize custs[j] = y at *
            have hj0 : 0 < j + 1 := by omega
            have hmx : max ((j : Int) + 1) 1 = (j : Int) + 1 := by omega
            clear h0
            go_wp2_with fail
            refine (key_any _ _ (by omega)).mono ?_
            rintro e w2 ⟨rfl, hmk⟩
            obtain ⟨kb, hkb⟩ : ∃ kb, keyB x = kb := ⟨_, rfl⟩
            have HKB := Lib.hid hkb
            rw [hkb]
            clear hkb
            have hm3 := hm.trans hmk
            have hB1 := HB0.out.modp hm3
            clear c0 c1 c2 c3 c4
            have c0 := hB1.cell 0; have c1 := hB1.cell 1; have c2 := hB1.cell 2; have c3 := hB1.cell 3; have c4 := hB1.cell 4; simp at c0 c1 c2 c3 c4
            clear hB1
            have hq3 := hmk.keep hq2 id
            have HLE2 := Lib.hid (fun b hb => HLE.out b hb)
            cases kb
            · cases hle : leS x y
              · have hle2 : (Op.bytesLess x y || x == y) = false := hle
                have HNX : Hid (risingE keyE custs = 5) := Lib.hid (by
                  have h1 : idAt keyE custs (j + 1) = 5 := by exact HBAD.out _ (keyE_f HKB.out) (by decide)
                  rw [HI2.out, if_neg (by rw [h1]; decide), h1])
                clear HI2 HKB HBAD HLE HLE2 hle
                go_wp2_with fail
                refine (when_any2 _ _ _).mono ?_
                rintro e w2 ⟨rfl, rfl⟩
                go_wp2_with fail
                refine (when_any2 _ _ _).mono ?_
                rintro e w2 ⟨rfl, rfl⟩
                go_wp2_with fail
                refine (firstE_calls _ _ _ [5, 0] (Blk.new _ _ _).row0 (by simp)).mono ?_
                rintro e w2 ⟨rfl, hm2⟩
                have HM2 := Lib.hid (HP0.out.trans ((hm3.alloc _).trans hm2))
                clear hm2 hm hm3 hmk
                rw [show firstErr [5, 0] = 5 from rfl]
                go_wp2_with fail
                go_ret
                exact IntPost.of (by rw [HFE.out, HNX.out]; rfl) HM2.out
              · have hle2 : (Op.bytesLess x y || x == y) = true := hle
                have HNX : Hid (risingE keyE custs = 5) := Lib.hid (by
                  have h1 : idAt keyE custs (j + 1) = 5 := by exact HBAD.out _ (keyE_f HKB.out) (by decide)
                  rw [HI2.out, if_neg (by rw [h1]; decide), h1])
                clear HI2 HKB HBAD HLE HLE2 hle
                go_wp2_with fail
                refine (when_any2 _ _ _).mono ?_
                rintro e w2 ⟨rfl, rfl⟩
                go_wp2_with fail
                refine (when_any2 _ _ _).mono ?_
                rintro e w2 ⟨rfl, rfl⟩
                go_wp2_with fail
                refine (firstE_calls _ _ _ [5, 7] (Blk.new _ _ _).row0 (by simp)).mono ?_
                rintro e w2 ⟨rfl, hm2⟩
                have HM2 := Lib.hid (HP0.out.trans ((hm3.alloc _).trans hm2))
                clear hm2 hm hm3 hmk
                rw [show firstErr [5, 7] = 5 from rfl]
                go_wp2_with fail
                go_ret
                exact IntPost.of (by rw [HFE.out, HNX.out]; rfl) HM2.out
            · cases hle : leS x y
              · have hle2 : (Op.bytesLess x y || x == y) = false := hle
                have HNX : Hid (risingFrom keyE custs ((j + 1) + 1) = risingE keyE custs) := Lib.hid (by
                  have h1 : idAt keyE custs (j + 1) = 0 := by exact (HLE2.out _ hle (keyE_t HKB.out)).trans (by simp)
                  rw [HI2.out, if_pos h1])
                clear HI2 HKB HBAD HLE HLE2 hle
                go_wp2_with fail
                refine (when_any2 _ _ _).mono ?_
                rintro e w2 ⟨rfl, rfl⟩
                go_wp2_with fail
                refine (when_any2 _ _ _).mono ?_
                rintro e w2 ⟨rfl, rfl⟩
                go_wp2_with fail
                refine (firstE_calls _ _ _ [0, 0] (Blk.new _ _ _).row0 (by simp)).mono ?_
                rintro e w2 ⟨rfl, hm2⟩
                have HM2 := Lib.hid ((hm3.alloc _).trans hm2)
                clear hm2 hm hm3 hmk
                rw [show firstErr [0, 0] = 0 from rfl]
                go_wp2_with fail
                go_roundg (custs.length - ((j + 1) + 1))
                case measure => omega
                case rel => exact ⟨(j + 1) + 1, rfl, hlt, by simp, HNX.out, HM2.out⟩
              · have hle2 : (Op.bytesLess x y || x == y) = true := hle
                have HNX : Hid (risingE keyE custs = 7) := Lib.hid (by
                  have h1 : idAt keyE custs (j + 1) = 7 := by exact (HLE2.out _ hle (keyE_t HKB.out)).trans (by simp)
                  rw [HI2.out, if_neg (by rw [h1]; decide), h1])
                clear HI2 HKB HBAD HLE HLE2 hle
                go_wp2_with fail
                refine (when_any2 _ _ _).mono ?_
                rintro e w2 ⟨rfl, rfl⟩
                go_wp2_with fail
                refine (when_any2 _ _ _).mono ?_
                rintro e w2 ⟨rfl, rfl⟩
                go_wp2_with fail
                refine (firstE_calls _ _ _ [0, 7] (Blk.new _ _ _).row0 (by simp)).mono ?_
                rintro e w2 ⟨rfl, hm2⟩
                have HM2 := Lib.hid (HP0.out.trans ((hm3.alloc _).trans hm2))
                clear hm2 hm hm3 hmk
                rw [show firstErr [0, 7] = 7 from rfl]
                go_wp2_with fail
                go_ret
                exact IntPost.of (by rw [HFE.out, HNX.out]; rfl) HM2.out
        · obtain rfl : k = custs.length := by omega
          have HC0 : Hid (risingE keyE custs = 0) := Lib.hid (by rw [← HIX.out, risingFrom_end])
          rw [HC0.out, if_neg (by simp)] at HFE
          clear HIX HR2 HZ4
          go_wp2_with fail
          refine (window_calls _ _ _).mono ?_
          rintro e w2 ⟨rfl, hmw⟩
          have hm4 := hm.trans hmw
          have HM1 := Lib.hid hm4
          have hB1 := HB0.out.modp hm4
          clear c0 c1 c2 c3 c4
          have c0 := hB1.cell 0; have c1 := hB1.cell 1; have c2 := hB1.cell 2; have c3 := hB1.cell 3; have c4 := hB1.cell 4; simp at c0 c1 c2 c3 c4
          clear hB1 hm hm4 hmw
          by_cases hwe : winE fr tl = 0
          · have hwd : decide (winE fr tl = 0) = true := by simpa using hwe
            rw [hwe, if_neg (by simp)] at HFE
            have HW0 := Lib.hid hwe
            clear hwe
            go_wp2_with fail
            go_loopg [91] known.length (fun gk i wr => ∃ k : Nat, known.length - k = gk ∧ k ≤ known.length ∧ i = .int .i64 (k : Int) ∧ risingFrom sumE known k = risingE sumE known ∧ Pure w1 wr)
            case atStart => exact ⟨0, by omega, by omega, rfl, rfl, HM1.out⟩
            case round =>
              clear HM1 c0 c1 c2 c3 c4
              obtain ⟨k, rfl, hk, rfl, hix, hm⟩ := hrel
              have HIX := Lib.hid hix
              clear hix
              have hB1 := HB0.out.modp hm
              have c0 := hB1.cell 0; have c1 := hB1.cell 1; have c2 := hB1.cell 2; have c3 := hB1.cell 3; have c4 := hB1.cell 4; simp at c0 c1 c2 c3 c4
              clear hB1
              by_cases hlt : k < known.length
              · obtain ⟨g, off, rfl, hrow⟩ := HR3.out (by omega)
                have hrw := hrow.mod (HP0.out.trans hm) id
                have hq := hrw.cell (strsV_get known k hlt)
                have hi2 := risingFrom_step sumE known k hlt
                rw [HIX.out] at hi2
                have HI2 := Lib.hid hi2
                have HBAD : Hid (∀ e, sumE known[k] = e → e ≠ 0 → idAt sumE known k = e) := Lib.hid (fun e he h0 => idAt_bad' sumE hlt he h0)
                have hzk := HZ5.out _ (List.getElem_mem hlt)
                clear hi2 HIX hrow
                by_cases h0 : k = 0
                · have d0 : ¬ (0 : Int) < (k : Int) := by omega
                  have hn0 : ¬ 0 < k := by omega
                  have HLE : Hid (sumE known[k] = 0 → idAt sumE known k = 0) := Lib.hid (fun he => idAt_0' sumE hlt he hn0)
                  clear hrw
                  generalize known[k] = x at *
                  have h0' := Nat.le_of_eq h0
                  clear h0
                  go_wp2_with fail
                  refine (isSum_calls _ _ (by omega)).mono ?_
                  rintro e w2 ⟨rfl, hmk⟩
                  obtain ⟨kb, hkb⟩ : ∃ kb, sumB x = kb := ⟨_, rfl⟩
                  have HKB := Lib.hid hkb
                  rw [hkb]
                  clear hkb
                  have hm3 := hm.trans hmk
                  have hB1 := HB0.out.modp hm3
                  clear c0 c1 c2 c3 c4
                  have c0 := hB1.cell 0; have c1 := hB1.cell 1; have c2 := hB1.cell 2; have c3 := hB1.cell 3; have c4 := hB1.cell 4; simp at c0 c1 c2 c3 c4
                  clear hB1
                  cases kb
                  · have HNX : Hid (risingE sumE known = 3) := Lib.hid (by
                      have h1 : idAt sumE known k = 3 := by exact HBAD.out _ (sumE_f HKB.out) (by decide)
                      rw [HI2.out, if_neg (by rw [h1]; decide), h1])
                    clear HI2 HKB HBAD HLE
                    go_wp2_with fail
                    refine (when_any2 _ _ _).mono ?_
                    rintro e w2 ⟨rfl, rfl⟩
                    go_wp2_with fail
                    refine (when_any2 _ _ _).mono ?_
                    rintro e w2 ⟨rfl, rfl⟩
                    go_wp2_with fail
                    refine (firstE_calls _ _ _ [3, 0] (Blk.new _ _ _).row0 (by simp)).mono ?_
                    rintro e w2 ⟨rfl, hm2⟩
                    have HM2 := Lib.hid (HP0.out.trans ((hm3.alloc _).trans hm2))
                    clear hm2 hm hm3 hmk
                    rw [show firstErr [3, 0] = 3 from rfl]
                    go_wp2_with fail
                    go_ret
                    exact IntPost.of (by rw [HFE.out, HNX.out]) HM2.out
                  · have HNX : Hid (risingFrom sumE known (k + 1) = risingE sumE known) := Lib.hid (by
                      have h1 : idAt sumE known k = 0 := by exact HLE.out (sumE_t HKB.out)
                      rw [HI2.out, if_pos h1])
                    clear HI2 HKB HBAD HLE
                    go_wp2_with fail
                    refine (when_any2 _ _ _).mono ?_
                    rintro e w2 ⟨rfl, rfl⟩
                    go_wp2_with fail
                    refine (when_any2 _ _ _).mono ?_
                    rintro e w2 ⟨rfl, rfl⟩
                    go_wp2_with fail
                    refine (firstE_calls _ _ _ [0, 0] (Blk.new _ _ _).row0 (by simp)).mono ?_
                    rintro e w2 ⟨rfl, hm2⟩
                    have HM2 := Lib.hid ((hm3.alloc _).trans hm2)
                    clear hm2 hm hm3 hmk
                    rw [show firstErr [0, 0] = 0 from rfl]
                    go_wp2_with fail
                    go_roundg (known.length - (k + 1))
                    case measure => omega
                    case rel => exact ⟨k + 1, rfl, hlt, by simp, HNX.out, HM2.out⟩
                · obtain ⟨j, rfl⟩ : ∃ j, k = j + 1 := ⟨k - 1, by omega⟩
                  have hq2 := hrw.cell (strsV_get known j (by omega))
                  have HLE : Hid (∀ b : Bool, leS known[j + 1] known[j] = b → sumE known[j + 1] = 0 → idAt sumE known (j + 1) = if b = true then 7 else 0) := Lib.hid (fun b hb he => idAt_le' sumE hlt he hb)
                  clear hrw
                  generalize known[j + 1] = x at *
                  generalize known[j] = y at *
                  have hj0 : 0 < j + 1 := by omega
                  have hmx : max ((j : Int) + 1) 1 = (j : Int) + 1 := by omega
                  clear h0
                  go_wp2_with fail
                  refine (isSum_calls _ _ (by omega)).mono ?_
                  rintro e w2 ⟨rfl, hmk⟩
                  obtain ⟨kb, hkb⟩ : ∃ kb, sumB x = kb := ⟨_, rfl⟩
                  have HKB := Lib.hid hkb
                  rw [hkb]
                  clear hkb
                  have hm3 := hm.trans hmk
                  have hB1 := HB0.out.modp hm3
                  clear c0 c1 c2 c3 c4
                  have c0 := hB1.cell 0; have c1 := hB1.cell 1; have c2 := hB1.cell 2; have c3 := hB1.cell 3; have c4 := hB1.cell 4; simp at c0 c1 c2 c3 c4
                  clear hB1
                  have hq3 := hmk.keep hq2 id
                  have HLE2 := Lib.hid (fun b hb => HLE.out b hb)
                  cases kb
                  · cases hle : leS x y
                    · have hle2 : (Op.bytesLess x y || x == y) = false := hle
                      have HNX : Hid (risingE sumE known = 3) := Lib.hid (by
                        have h1 : idAt sumE known (j + 1) = 3 := by exact HBAD.out _ (sumE_f HKB.out) (by decide)
                        rw [HI2.out, if_neg (by rw [h1]; decide), h1])
                      clear HI2 HKB HBAD HLE HLE2 hle
                      go_wp2_with fail
                      refine (when_any2 _ _ _).mono ?_
                      rintro e w2 ⟨rfl, rfl⟩
                      go_wp2_with fail
                      refine (when_any2 _ _ _).mono ?_
                      rintro e w2 ⟨rfl, rfl⟩
                      go_wp2_with fail
                      refine (firstE_calls _ _ _ [3, 0] (Blk.new _ _ _).row0 (by simp)).mono ?_
                      rintro e w2 ⟨rfl, hm2⟩
                      have HM2 := Lib.hid (HP0.out.trans ((hm3.alloc _).trans hm2))
                      clear hm2 hm hm3 hmk
                      rw [show firstErr [3, 0] = 3 from rfl]
                      go_wp2_with fail
                      go_ret
                      exact IntPost.of (by rw [HFE.out, HNX.out]) HM2.out
                    · have hle2 : (Op.bytesLess x y || x == y) = true := hle
                      have HNX : Hid (risingE sumE known = 3) := Lib.hid (by
                        have h1 : idAt sumE known (j + 1) = 3 := by exact HBAD.out _ (sumE_f HKB.out) (by decide)
                        rw [HI2.out, if_neg (by rw [h1]; decide), h1])
                      clear HI2 HKB HBAD HLE HLE2 hle
                      go_wp2_with fail
                      refine (when_any2 _ _ _).mono ?_
                      rintro e w2 ⟨rfl, rfl⟩
                      go_wp2_with fail
                      refine (when_any2 _ _ _).mono ?_
                      rintro e w2 ⟨rfl, rfl⟩
                      go_wp2_with fail
                      refine (firstE_calls _ _ _ [3, 7] (Blk.new _ _ _).row0 (by simp)).mono ?_
                      rintro e w2 ⟨rfl, hm2⟩
                      have HM2 := Lib.hid (HP0.out.trans ((hm3.alloc _).trans hm2))
                      clear hm2 hm hm3 hmk
                      rw [show firstErr [3, 7] = 3 from rfl]
                      go_wp2_with fail
                      go_ret
                      exact IntPost.of (by rw [HFE.out, HNX.out]) HM2.out
                  · cases hle : leS x y
                    · have hle2 : (Op.bytesLess x y || x == y) = false := hle
                      have HNX : Hid (risingFrom sumE known ((j + 1) + 1) = risingE sumE known) := Lib.hid (by
                        have h1 : idAt sumE known (j + 1) = 0 := by exact (HLE2.out _ hle (sumE_t HKB.out)).trans (by simp)
                        rw [HI2.out, if_pos h1])
                      clear HI2 HKB HBAD HLE HLE2 hle
                      go_wp2_with fail
                      refine (when_any2 _ _ _).mono ?_
                      rintro e w2 ⟨rfl, rfl⟩
                      go_wp2_with fail
                      refine (when_any2 _ _ _).mono ?_
                      rintro e w2 ⟨rfl, rfl⟩
                      go_wp2_with fail
                      refine (firstE_calls _ _ _ [0, 0] (Blk.new _ _ _).row0 (by simp)).mono ?_
                      rintro e w2 ⟨rfl, hm2⟩
                      have HM2 := Lib.hid ((hm3.alloc _).trans hm2)
                      clear hm2 hm hm3 hmk
                      rw [show firstErr [0, 0] = 0 from rfl]
                      go_wp2_with fail
                      go_roundg (known.length - ((j + 1) + 1))
                      case measure => omega
                      case rel => exact ⟨(j + 1) + 1, rfl, hlt, by simp, HNX.out, HM2.out⟩
                    · have hle2 : (Op.bytesLess x y || x == y) = true := hle
                      have HNX : Hid (risingE sumE known = 7) := Lib.hid (by
                        have h1 : idAt sumE known (j + 1) = 7 := by exact (HLE2.out _ hle (sumE_t HKB.out)).trans (by simp)
                        rw [HI2.out, if_neg (by rw [h1]; decide), h1])
                      clear HI2 HKB HBAD HLE HLE2 hle
                      go_wp2_with fail
                      refine (when_any2 _ _ _).mono ?_
                      rintro e w2 ⟨rfl, rfl⟩
                      go_wp2_with fail
                      refine (when_any2 _ _ _).mono ?_
                      rintro e w2 ⟨rfl, rfl⟩
                      go_wp2_with fail
                      refine (firstE_calls _ _ _ [0, 7] (Blk.new _ _ _).row0 (by simp)).mono ?_
                      rintro e w2 ⟨rfl, hm2⟩
                      have HM2 := Lib.hid (HP0.out.trans ((hm3.alloc _).trans hm2))
                      clear hm2 hm hm3 hmk
                      rw [show firstErr [0, 7] = 7 from rfl]
                      go_wp2_with fail
                      go_ret
                      exact IntPost.of (by rw [HFE.out, HNX.out]) HM2.out
              · obtain rfl : k = known.length := by omega
                have HS0 : Hid (risingE sumE known = 0) := Lib.hid (by rw [← HIX.out, risingFrom_end])
                clear HIX HR3
                go_wp2_with fail
                go_ret
                exact IntPost.of (by rw [HFE.out, HS0.out]) (HP0.out.trans hm)
          · have hwd : decide (winE fr tl = 0) = false := by simpa using hwe
            have HW1 : Hid (winE fr tl = 1) := Lib.hid (by unfold winE at hwe ⊢; split at hwe <;> simp_all)
            clear hwe
            go_wp2_with fail
            go_ret
            exact IntPost.of (by rw [HFE.out, HW1.out]; rfl) (HP0.out.trans HM1.out)

end Go.Proofs.YtofkkenmkflmiaaGreatDoor

/- Equal families. -/
namespace Go.Proofs.YtofkkenmkflmiaaGreatDoor
set_option linter.unusedVariables false
set_option linter.unusedSimpArgs false
open Go.RowKit

theorem FmR.at {w : World} {A : Option Addr} {n c : Nat} {xs : List Fm} (h : FmR w (.slice A n c) xs) {k : Nat} (hk : k < xs.length) :
    ∃ g off B m d, A = some ⟨g, off, none⟩ ∧ w.cell? ⟨g, off + k * 2, none⟩ = some (.string ⟨xs[k].1.toArray⟩) ∧ w.cell? ⟨g, off + k * 2 + 1, none⟩ = some (.slice B m d) ∧ xs[k].2.1 = .slice B m d ∧ Sl w 9 1 (.slice B m d) (strsV xs[k].2.2) := by
  have hs := h.2 _ (List.getElem_mem hk)
  obtain ⟨B, m, d, hu⟩ := hs.form
  obtain ⟨A', n', c', hf, _, _, hl, hr⟩ := h.1
  injection hf with e1 e2 e3
  subst e1 e2 e3
  rw [fmV_len] at hl
  obtain ⟨g, off, rfl, hrow⟩ := hr (by omega)
  obtain ⟨g1, g2⟩ := fmV_get xs k hk
  refine ⟨g, off, B, m, d, rfl, hrow.cell g1, ?_, hu, by rw [← hu]; exact hs⟩
  have := hrow.cell g2
  rw [hu] at this
  exact this
theorem FmR.len {w : World} {A : Option Addr} {n c : Nat} {xs : List Fm} (h : FmR w (.slice A n c) xs) : xs.length = n ∧ n ≤ 9223372036854775807 := by
  obtain ⟨A', n', c', hf, h4, h5, hl, _⟩ := h.1
  injection hf with e1 e2 e3
  rw [fmV_len] at hl
  omega
end Go.Proofs.YtofkkenmkflmiaaGreatDoor
