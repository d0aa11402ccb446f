/- Texts of the proof of WordCuts, put together: NumW, EscA, LaySyn, EscB, UnqA, IhdW, LayCut, LnsB, QrL, QrM, QryU, QrO, QrP, QrN, RunI, QrC. -/
import Derived.Test.YtanblgcgbncbpaaGreatDoorWordCutsZ2
import Derived.Test.YtanblgcgbncbpaaGreatDoorWordCutsZ13
import Derived.Test.YtanblgcgbncbpaaGreatDoorWordCutsZ18
import Derived.Test.YtanblgcgbncbpaaGreatDoorWordCutsZ24
import Derived.Test.YtanblgcgbncbpaaGreatDoorWordCutsZ25
import Derived.Test.YtanblgcgbncbpaaGreatDoorWordCutsZ29
import Derived.Test.YtanblgcgbncbpaaGreatDoorWordCutsZ36
import Derived.Test.YtanblgcgbncbpaaGreatDoorWordCutsZ37
import Derived.Test.YtanblgcgbncbpaaGreatDoorWordCutsZ38
import Derived.Test.YtanblgcgbncbpaaGreatDoorWordCutsZ39
import Derived.Test.YtanblgcgbncbpaaGreatDoorWordCutsZ40
import Derived.Shelf.Small.Wraps
import Derived.Shelf.Strings.Prefix
import Derived.Shelf.Strconv.Atoi
import Derived.Shelf.Strconv.Itoa3
import Derived.Lib.SmallJoins
import Derived.Lib.QuietBelow
import Derived.Lib.ConvBytes
import Derived.Ground.NamesProg
import Derived.Shelf.Strconv.SyntaxError
import Derived.Shelf.LaysM
import Derived.Test.YtanblgcgbncbpaaGreatDoorProg
import Derived.Laws.BytesArg
import Derived.Deep.DeepCutAuto
import Derived.Deep.CutBlock
import Derived.Shelf.Strings.Cut
import Derived.Lib.IndexAny
import Derived.Deep.QuietTactic
import Derived.BigQuiet
import Derived.StillTailTactics
/- Numbers of at most nine digits, as the program and as the reference read them. -/
namespace Go.Proofs.YtanblgcgbncbpaaGreatDoor
set_option linter.unusedVariables false
set_option linter.unusedSimpArgs false
open Go.RowKit

/-- The table of powers of ten is as it is laid. -/
def Pow (w : World) : Prop := Lib.TabIs Tryz.prog w "internal/strconv.uint64pow10" .u64 Lib.pow10Tab
theorem pow_g : Tryz.prog.globalNamed "internal/strconv.uint64pow10" = some 1 := by kernel_rfl
theorem Pow.mod {w w' : World} {S : Nat → Prop} (h : Pow w) (hm : Mod S w w') (hs : ¬ S 1) : Pow w' := by
 unfold Pow Lib.TabIs World.var? at h ⊢
 rw [pow_g] at h ⊢
 simp only [Option.bind_some] at h ⊢
 cases hh : w.heap[1]? with
 | none => rw [hh] at h; cases h
 | some o =>
  rw [hm.block _ (lt_of_heap hh) hs]
  exact h
theorem Pow.pure {w w' : World} (h : Pow w) (hm : Pure w w') : Pow w' := h.mod hm id
theorem Pow.lt {w : World} (h : Pow w) : 1 < w.heap.size := by
 unfold Pow Lib.TabIs World.var? at h
 rw [pow_g] at h
 simp only [Option.bind_some] at h
 cases hh : w.heap[1]? with
 | none => rw [hh] at h; cases h
 | some o => exact lt_of_heap hh
theorem atoiW_calls (w : World) (s : Str) (n : Int) (hs : s.length ≤ 18) (h : Lib.atoi s = some n) : Calls Tryz.prog 211 #[.string ⟨s.toArray⟩] w (fun e w' => e = .returned (.tuple #[.int .i64 n, .nilIface]) ∧ Pure w w') := by
 refine (Any.strconv_Atoi Tryz.lays172 ⟨s.toArray⟩ n (by simpa [ByteArray.size] using hs) (by simpa using h) w).mono ?_
 rintro e w' ⟨rfl, t, rfl⟩
 exact ⟨rfl, Mod.of_below (Joins.below_bytesWorld _ _ _ _ (Nat.le_refl _))⟩
/-- What reading a number answers. -/
def NumPost (w : World) (o : Option Int) (e : Ending) (w' : World) : Prop := ∃ v : Int, e = .returned (.tuple #[.int .i64 v, .bool o.isSome]) ∧ (∀ n, o = some n → v = n) ∧ -1000000000 < v ∧ v < 1000000000 ∧ Pure w w'
theorem NumPost.no {w w' : World} {o : Option Int} (h : o = none) (hm : Pure w w') : NumPost w o (.returned (.tuple #[.int .i64 0, .bool false])) w' :=
 ⟨0, by rw [h]; rfl, fun n hn => (by rw [h] at hn; cases hn), by omega, by omega, hm⟩
theorem numQ_none1 {D : Nat} {s : Str} (h : ¬ numD D (numT s)) : numQ D s = none := by unfold numQ; rw [if_neg (fun hh => h hh.1)]
theorem numQ_none2 {D : Nat} {s : Str} (h : ¬ numC s) : numQ D s = none := by unfold numQ; rw [if_neg (fun hh => h hh.2)]
theorem allD_take {l : Str} {k : Nat} (h : k < l.length) : (l.take (k + 1)).all digB = ((l.take k).all digB && digB l[k]) := by
 rw [List.take_succ_eq_append_getElem h, List.all_append]; simp
theorem numD_fail {D : Nat} {l : Str} {k : Nat} (h : k < l.length) (hk : digB l[k] = false) : ¬ numD D l := fun hh => by
 have := hh.2.2 l[k] (List.getElem_mem h)
 rw [hk] at this
 cases this

set_option maxRecDepth 100000 in
set_option maxHeartbeats 4000000 in
theorem number_calls (w : World) (s : Str) (D : Nat) (hD : D ≤ 9) (hs : s.length ≤ 1000000) : Calls Tryz.prog 187 #[.string ⟨s.toArray⟩, .int .i64 (D : Int)] w (NumPost w (numQ D s)) := by
 have hcp := Any.strings_CutPrefix Tryz.lays103 ⟨s.toArray⟩ ⟨#[45]⟩ w
 change Calls Tryz.prog 210 _ _ (fun e w' => e = .returned (.tuple #[.string ⟨(numT s).toArray⟩, .bool (numMi s)]) ∧ w' = w) at hcp
 have HCP := Lib.hid hcp
 obtain ⟨d, hd⟩ : ∃ d, numT s = d := ⟨_, rfl⟩
 obtain ⟨mi, hmi⟩ : ∃ mi, numMi s = mi := ⟨_, rfl⟩
 have HQ1 : Hid (¬ numD D d → numQ D s = none) := Lib.hid (fun h => numQ_none1 (by rw [hd]; exact h))
 have HQ2 : Hid (¬ (canD d ∧ ¬ (mi = true ∧ d = [48])) → numQ D s = none) := Lib.hid (fun h => numQ_none2 (by unfold numC; rw [hd, hmi]; exact h))
 have HQ3 : Hid (numD D d → canD d ∧ ¬ (mi = true ∧ d = [48]) → ∃ n, numQ D s = some n ∧ Lib.atoi s = some n ∧ -1000000000 < n ∧ n < 1000000000 ∧ s.length ≤ 10) := Lib.hid (fun h1 h2 => by
  rw [← hd] at h1 h2
  rw [← hmi] at h2
  obtain ⟨n, e, b1, b2, _, b3⟩ := num_atoi h1 hD
  exact ⟨n, by unfold numQ; rw [if_pos ⟨h1, h2⟩]; exact e, e, b1, b2, b3⟩)
 rw [hd, hmi] at HCP
 have hdl : d.length ≤ s.length := by rw [← hd]; unfold numT Lib.trimPrefix; split <;> simp
 have hds : (⟨d.toArray⟩ : ByteArray).size = d.length := by simp [ByteArray.size]
 clear hcp hd hmi
 go_enter Tryz.func187, Tryz.ntmps187
 go_wp2_with fail
 refine HCP.out.mono ?_
 rintro e w1 ⟨rfl, rfl⟩
 have HIN := Lib.hid (inI_calls w1 (d.length : Int) 1 (D : Int))
 rw [← hds] at HIN
 obtain ⟨db, hdb⟩ : ∃ db : ByteArray, db = ⟨d.toArray⟩ := ⟨_, rfl⟩
 rw [← hdb] at HIN hds ⊢
 have HDB := Lib.hid hdb
 have HDL : Hid (db.size = d.length) := Lib.hid hds
 have HGET : Hid (∀ k (h : k < db.size) (h2 : k < d.length), db[k] = d[k]) := Lib.hid (by subst hdb; intro k h h2; rfl)
 clear hds hdb HCP
 go_upto_region 2 with (fail)
 go_cut [37] (fun p wy => ∃ fl : Bool, p = .bool fl ∧ Pure w1 wy ∧ (fl = true → numQ D s = none) ∧ (fl = false → 1 ≤ d.length ∧ d.length ≤ D ∧ canD d ∧ ¬ (mi = true ∧ d = [48])))
 case first =>
  go_wp2_with fail
  refine HIN.out.mono ?_
  rintro e w2 ⟨rfl, hm2⟩
  have HM2 := Lib.hid hm2
  clear hm2 HIN
  by_cases hin : 1 ≤ (db.size : Int) ∧ (db.size : Int) ≤ D
  rotate_left
  ·have hdec : (decide ((1 : Int) ≤ (db.size : Int)) && decide ((db.size : Int) ≤ (D : Int))) = false := by
    rw [Bool.and_eq_false_iff]; simp only [decide_eq_false_iff_not]
    omega
   rw [hdec]
   have HN := Lib.hid (HQ1.out (fun h => hin (by have h1 := h.1; have h2 := h.2.1; have h3 := HDL.out; omega)))
   clear hin hdec HQ1 HQ2 HQ3
   go_wp2_with fail
   go_meet
   exact ⟨true, rfl, HM2.out, fun _ => HN.out, fun h => by cases h⟩
  have hdec : (decide ((1 : Int) ≤ (db.size : Int)) && decide ((db.size : Int) ≤ (D : Int))) = true := by
   rw [Bool.and_eq_true_iff]; simp only [decide_eq_true_eq]
   omega
  rw [hdec]
  clear hdec
  have hpos : 0 < db.size := by omega
  by_cases hlz : 1 < d.length ∧ d.headD 0 = 48
  ·have HN := Lib.hid (HQ2.out (fun h => h.1 hlz))
   have h1 : (1 : Int) < (db.size : Int) := by have := HDL.out; omega
   have hx : ((db[0].toNat : Int) == 48) = true := by
    rw [HGET.out 0 hpos (by omega)]
    have h2 := hlz.2
    cases d with
    | nil => simp at hlz
    | cons c t => simp at h2; subst h2; rfl
   clear hlz HQ1 HQ2 HQ3
   go_wp2_with fail
   go_meet
   exact ⟨true, rfl, HM2.out, fun _ => HN.out, fun h => by cases h⟩
  have hlz2 : ¬ (1 : Int) < (db.size : Int) ∨ ((1 : Int) < (db.size : Int) ∧ ((db[0].toNat : Int) == 48) = false) := by
   by_cases h1 : (1 : Int) < (db.size : Int)
   ·refine .inr ⟨h1, ?_⟩
    rw [beq_eq_false_iff_ne]
    intro h2
    refine hlz ⟨by have := HDL.out; omega, ?_⟩
    rw [HGET.out 0 hpos (by have := HDL.out; omega)] at h2
    cases d with
    | nil => have := HDL.out; rw [List.length_nil] at this; omega
    | cons c t => exact UInt8.toNat_inj.mp (by have h3 : ((c.toNat : Int)) = 48 := h2; show c.toNat = 48; omega)
   ·exact .inl h1
  by_cases hmz : mi = true ∧ d = [48]
  ·have HN := Lib.hid (HQ2.out (fun h => h.2 hmz))
   obtain ⟨rfl, rfl⟩ := hmz
   obtain rfl := HDB.out
   clear HQ1 HQ2 HQ3 hlz hlz2 HGET
   go_wp2_with fail
   go_meet
   exact ⟨true, rfl, HM2.out, fun _ => HN.out, fun h => by cases h⟩
  have hmz2 : mi = false ∨ (mi = true ∧ (d == [48]) = false) := by
   cases mi with
   | false => exact .inl rfl
   | true =>
    refine .inr ⟨rfl, ?_⟩
    rw [beq_eq_false_iff_ne]
    exact fun h => hmz ⟨rfl, h⟩
  have HRES : Hid (1 ≤ d.length ∧ d.length ≤ D ∧ canD d ∧ ¬ (mi = true ∧ d = [48])) := Lib.hid ⟨by have := HDL.out; omega, by have := HDL.out; omega, hlz, hmz⟩
  clear hmz hlz HQ1 HQ2 HQ3
  obtain ⟨c0, hc0⟩ : ∃ c0 : UInt8, db[0] = c0 := ⟨_, rfl⟩
  rw [hc0] at hlz2
  have hlz3 : ¬ (1 : Int) < (d.length : Int) ∨ ((1 : Int) < (d.length : Int) ∧ ((c0.toNat : Int) == 48) = false ∧ ¬ (c0.toNat : Int) = 48 ∧ ¬ c0.toNat = 48) := hlz2.imp (fun h => by have := HDL.out; omega) (fun h => ⟨by have := HDL.out; have := h.1; omega, h.2, by simpa using h.2, by have := h.2; simp at this; omega⟩)
  clear hlz2
  have hdb := HDB.out
  subst hdb
  clear HDB HDL HGET
  rcases hlz3 with h1 | ⟨h1, h2, h2b, h2c⟩ <;> rcases hmz2 with rfl | ⟨rfl, h4⟩
  all_goals
   go_wp2_with fail
   go_meet
   exact ⟨false, rfl, HM2.out, fun h => (by cases h), fun _ => HRES.out⟩
 case rest =>
  obtain ⟨fl, rfl, hm2, hno, hyes⟩ := hcut
  have HM2 := Lib.hid hm2
  cases fl
  rotate_left
  ·have HN := Lib.hid (hno rfl)
   clear hno hyes HQ1 HQ2 HQ3 hm2
   go_wp2_with fail
   try simp only [Exit.inBlock, Exit.then]
   refine bodyPost_ret (v := .tuple #[.int .i64 0, .bool false]) (by simp [results, Tryz.results187, go_sem]) rfl ?_
   exact NumPost.no HN.out HM2.out
  obtain ⟨hl1, hl2, hcan, hnz⟩ := hyes rfl
  have HQ4 : Hid (numD D d → ∃ n, numQ D s = some n ∧ Lib.atoi s = some n ∧ -1000000000 < n ∧ n < 1000000000 ∧ s.length ≤ 10) := Lib.hid (fun h => HQ3.out h ⟨hcan, hnz⟩)
  clear hno hyes hm2 HQ2 HQ3 hcan hnz HIN
  go_wp2_with fail
  go_loopg [40] db.size (fun gk i wr => ∃ k : Nat, db.size - k = gk ∧ k ≤ db.size ∧ i = .int .i64 (k : Int) ∧ (d.take k).all digB = true ∧ wr = wc)
  case atStart => exact ⟨0, by omega, by omega, rfl, rfl, rfl⟩
  case round =>
   obtain ⟨k, rfl, hk, rfl, hall, rfl⟩ := hrel
   have HA := Lib.hid hall
   clear hall
   by_cases hlt : k < db.size
   ·have hkd : k < d.length := by have := HDL.out; omega
    have hk9 : k < 9 := by omega
    have hix := HGET.out k hlt hkd
    have HSN := Lib.hid (allD_take hkd)
    have HFA := Lib.hid (fun h => HQ1.out (numD_fail (D := D) hkd h))
    rw [← hix] at HSN HFA
    obtain ⟨c, hc⟩ : ∃ c, db[k] = c := ⟨_, rfl⟩
    rw [hc] at HSN HFA
    clear hix hkd
    go_wp2_with fail
    refine (digit_calls _ _).mono ?_
    rintro e w' ⟨rfl, rfl⟩
    cases hd : digitB c.toNat
    ·have HN := Lib.hid (HFA.out hd)
     clear hd HFA HSN HA
     go_wp2_with fail
     try simp only [Exit.inBlock, Exit.then]
     refine bodyPost_ret (v := .tuple #[.int .i64 0, .bool false]) (by simp [results, Tryz.results187, go_sem]) rfl ?_
     exact NumPost.no HN.out HM2.out
    ·have hd2 : digB c = true := hd
     go_wp2_with fail
     go_roundg (db.size - (k + 1))
     case measure => omega
     case rel => exact ⟨k + 1, rfl, hlt, by simp, by rw [HSN.out, HA.out, hd2]; rfl, rfl⟩
   ·obtain rfl : k = db.size := by omega
    have hall : d.all digB = true := by have := HA.out; rwa [HDL.out, List.take_of_length_le (Nat.le_refl _)] at this
    obtain ⟨n, hn1, hn2, hn3, hn4, hn5⟩ := HQ4.out ⟨hl1, hl2, fun c hc => List.all_eq_true.1 hall c hc⟩
    have HAT := Lib.hid (atoiW_calls wr s n (by omega) hn2)
    have HN := Lib.hid hn1
    clear hall hn1 hn2 HQ4 HA HQ1
    go_wp2_with fail
    refine HAT.out.mono ?_
    rintro e w5 ⟨rfl, hm5⟩
    clear HAT
    go_upto_region 11 with (fail)
    go_quiet (fail)
    go_wp2_with fail
    try simp only [Exit.inBlock, Exit.then]
    refine bodyPost_ret (v := .tuple #[.int .i64 n, .bool true]) (by simp [results, Tryz.results187, go_sem]) rfl ?_
    rw [HN.out]
    exact ⟨n, rfl, (fun m hm => (by cases hm; rfl)), hn3, hn4, (HM2.out.trans hm5).drewN _⟩

end Go.Proofs.YtanblgcgbncbpaaGreatDoor

/- Two hex digits as strconv reads them. -/
namespace Go.Proofs.YtanblgcgbncbpaaGreatDoor
set_option linter.unusedVariables false
set_option linter.unusedSimpArgs false
open Go.RowKit

/-- The digit that strconv makes of a byte; 255: none. -/
def hv (x : Nat) : Nat := if 48 ≤ x ∧ x ≤ 57 then x - 48 else if 97 ≤ (x ||| 32) ∧ (x ||| 32) ≤ 122 then (x ||| 32) - 87 else 255
end Go.Proofs.YtanblgcgbncbpaaGreatDoor

/-
 DERIVED: THE SHELF's CONTRACTS AT THIS DUMP, IN PLAIN WORDS (tools/lay-plain.mjs out of 'YtanblgcgbncbpaaGreatDoorLaySyn.lean', which tools/lay-shelf.mjs wrote): THE SAME DECLARATIONS UNDER THE SAME NAMES: 'import', 'namespace', 'open', 'def', 'theorem' AND NOTHING ELSE: no command of the shelf's: FOR A HAND-IN. Each laying: the table of numbers ('.._ren') and one theorem, a field a fact of the dump's own or the kernel's comparison; each contract: ONE APPLICATION.
-/
namespace Go.Proofs
open Go.Shelf
end Go.Proofs

/- Quoted strings: escaped and Unquote of package intake. -/
namespace Go.Proofs.YtanblgcgbncbpaaGreatDoor
set_option linter.unusedVariables false
set_option linter.unusedSimpArgs false
open Go.RowKit

/-- The sentinel is an error that is there. -/
def ErrS (w : World) : Prop := ∃ te pe, w.cell? ⟨6, 0, none⟩ = some (.iface te pe)
theorem ErrS.pure {w w' : World} (h : ErrS w) (hm : Pure w w') : ErrS w' := by
 obtain ⟨te, pe, h⟩ := h
 exact ⟨te, pe, hm.keep h id⟩
end Go.Proofs.YtanblgcgbncbpaaGreatDoor

/- Quoted strings: Unquote of package intake. -/
namespace Go.Proofs.YtanblgcgbncbpaaGreatDoor
set_option linter.unusedVariables false
set_option linter.unusedSimpArgs false
open Go.RowKit

/-- Where a reader of a quoted string stands. -/
def UnqAt (l : Str) (k : Nat) (acc : Str) : Prop := k ≤ l.length ∧ ∃ f, (l.drop k).length < f ∧ unqF f (l.drop k) acc k = unqS l
theorem UnqAt.start (r : Str) : UnqAt (34 :: r) 1 [] := ⟨by simp, r.length + 1, by simp, rfl⟩
theorem UnqAt.bad {l : Str} {k : Nat} {acc r : Str} {c : UInt8} (h : UnqAt l k acc) (hr : l.drop k = c :: r) (hc : c ≠ 34) (hd : decP (c :: r) = none) : unqS l = none := by
 obtain ⟨_, f, h1, h2⟩ := h
 rw [hr] at h1 h2
 rw [← h2]
 match f, h1 with
 | f + 1, _ => simp [unqF, hc, hd]
theorem UnqAt.next {l : Str} {k : Nat} {acc r : Str} {c d : UInt8} {n : Nat} (h : UnqAt l k acc) (hr : l.drop k = c :: r) (hc : c ≠ 34) (hd : decP (c :: r) = some (d, n)) : UnqAt l (k + n) (acc ++ [d]) ∧ 1 ≤ n ∧ k + n ≤ l.length := by
 obtain ⟨hk, f, h1, h2⟩ := h
 obtain ⟨hn, hp⟩ := decP_some hd
 have hle := hp.length_le
 have h0 : 1 ≤ n := by
  rw [hn]
  unfold quoB
  split <;> (try split) <;> (try split) <;> simp
 have hlen : (l.drop k).length = l.length - k := List.length_drop ..
 rw [← hr, ← hn, hlen] at hle
 refine ⟨⟨by omega, ?_⟩, h0, by omega⟩
 rw [hr] at h1 h2
 match f, h1, h2 with
 | f + 1, h1, h2 =>
  refine ⟨f, ?_, ?_⟩
  ·rw [List.length_drop]
   rw [← hr, hlen] at h1
   omega
  ·rw [← h2]
   simp only [unqF, hc, if_false, hd]
   rw [← hr, List.drop_drop]
end Go.Proofs.YtanblgcgbncbpaaGreatDoor

/- The head line of an item, as the program reads it. -/
namespace Go.Proofs.YtanblgcgbncbpaaGreatDoor
set_option linter.unusedVariables false
set_option linter.unusedSimpArgs false
open Go.RowKit

def NatlPost (w : World) (o : Option Int) (e : Ending) (w' : World) : Prop := ∃ v : Int, e = .returned (.tuple #[.int .i64 v, .bool (o.isSome && decide (0 ≤ v))]) ∧ (∀ n, o = some n → v = n) ∧ -1000000000 < v ∧ v < 1000000000 ∧ Pure w w'
theorem natural_calls (w : World) (s : Str) (D : Nat) (hD : D ≤ 9) (hs : s.length ≤ 1000000) : Calls Tryz.prog 158 #[.string ⟨s.toArray⟩, .int .i64 (D : Int)] w (NatlPost w (numQ D s)) := by
 have HN := Lib.hid (number_calls w s D hD hs)
 generalize numQ D s = o at *
 go_enter Tryz.func158, Tryz.ntmps158
 go_wp2_with fail
 refine HN.out.mono ?_
 rintro e w1 ⟨v, rfl, h1, h2, h3, hm⟩
 have H1 := Lib.hid h1
 clear HN h1
 cases hb : o.isSome
 ·go_wp2_with fail
  refine bodyPost_ret (v := .tuple #[.int .i64 v, .bool false]) (by simp [results, Tryz.results158, go_sem]) rfl ?_
  exact ⟨v, by rw [hb]; rfl, H1.out, h2, h3, hm⟩
 ·go_wp2_with fail
  refine bodyPost_ret (v := .tuple #[.int .i64 v, .bool (decide (0 ≤ v))]) (by simp [results, Tryz.results158, go_sem]) rfl ?_
  exact ⟨v, by rw [hb]; simp, H1.out, h2, h3, hm⟩
end Go.Proofs.YtanblgcgbncbpaaGreatDoor

/-
 DERIVED: THE SHELF's CONTRACTS AT THIS DUMP, IN PLAIN WORDS (tools/lay-plain.mjs out of 'YtanblgcgbncbpaaGreatDoorLayCut.lean', which tools/lay-shelf.mjs wrote): THE SAME DECLARATIONS UNDER THE SAME NAMES: 'import', 'namespace', 'open', 'def', 'theorem' AND NOTHING ELSE: no command of the shelf's: FOR A HAND-IN. Each laying: the table of numbers ('.._ren') and one theorem, a field a fact of the dump's own or the kernel's comparison; each contract: ONE APPLICATION.
-/
namespace Go.Proofs
open Go.Shelf
def Tryz.lays145_ren : Go.Shelf.Ren := ⟨fun | 145 => 152 | 220 => 182 | 219 => 207 | 217 => 114 | 225 => 186 | 224 => 185 | 267 => 221 | 266 => 151 | 314 => 231 | n => n, fun | 9 => 9 | 4 => 4 | 59 => 169 | 3 => 3 | 5 => 5 | 46 => 81 | 146 => 120 | 51 => 119 | n => n, fun | 1 => 0 | n => n⟩
theorem Tryz.lays145 : Go.Proofs.Lays.n145 Tryz.prog Tryz.lays145_ren := {
 mixed := by kernel_rfl
 f145 := Tryz.func152.trans (congrArg some (by kernel_rfl))
 f217 := Tryz.func114.trans (congrArg some (by kernel_rfl))
 f219 := Tryz.func207.trans (congrArg some (by kernel_rfl))
 f220 := Tryz.func182.trans (congrArg some (by kernel_rfl))
 f224 := Tryz.func185.trans (congrArg some (by kernel_rfl))
 f225 := Tryz.func186.trans (congrArg some (by kernel_rfl))
 f266 := Tryz.func151.trans (congrArg some (by kernel_rfl))
 f267 := Tryz.func221.trans (congrArg some (by kernel_rfl))
 f314 := Tryz.func231.trans (congrArg some (by kernel_rfl))
 t3 := Tryz.underlying3
 a3 := Tryz.isAgg3
 z3 := Tryz.sizeOf3
 v3 := Tryz.zeroValue3
 t4 := Tryz.underlying4
 a4 := Tryz.isAgg4
 z4 := Tryz.sizeOf4
 v4 := Tryz.zeroValue4
 t5 := Tryz.underlying5
 a5 := Tryz.isAgg5
 z5 := Tryz.sizeOf5
 v5 := Tryz.zeroValue5
 t9 := Tryz.underlying9
 a9 := Tryz.isAgg9
 z9 := Tryz.sizeOf9
 v9 := Tryz.zeroValue9
 t46 := Tryz.underlying81
 a46 := Tryz.isAgg81
 z46 := Tryz.sizeOf81
 v46 := Tryz.zeroValue81
 t51 := Tryz.underlying119
 a51 := Tryz.isAgg119
 z51 := Tryz.sizeOf119
 v51 := Tryz.zeroValue119
 t59 := Tryz.underlying169
 a59 := Tryz.isAgg169
 z59 := Tryz.sizeOf169
 v59 := Tryz.zeroValue169
 t146 := Tryz.underlying120
 a146 := Tryz.isAgg120
 z146 := Tryz.sizeOf120
 v146 := Tryz.zeroValue120
 g1 := by kernel_rfl }
end Go.Proofs

/- lines of the reference, for any closure that takes a line. -/
namespace Go.Proofs.YtanblgcgbncbpaaGreatDoor
set_option linter.unusedVariables false
set_option linter.unusedSimpArgs false
open Go.RowKit

end Go.Proofs.YtanblgcgbncbpaaGreatDoor

/- A piece of the text of a search: what token it is. -/
namespace Go.Proofs.YtanblgcgbncbpaaGreatDoor
set_option linter.unusedVariables false
set_option linter.unusedSimpArgs false
open Go.RowKit

def CutP (w : World) (s : Str) (c : UInt8) (e : Ending) (w' : World) : Prop := e = .returned (.tuple #[.string ⟨(headS c s).toArray⟩, .string ⟨(restS c s).toArray⟩, .bool (fstL c s).isSome]) ∧ Pure w w'
theorem cutB_calls (w : World) (s : Str) (c : UInt8) (hM : MlnS w) (hs : s.length ≤ 1000000) : Calls Tryz.prog 152 #[.string ⟨s.toArray⟩, .string ⟨#[c]⟩] w (CutP w s c) := by
 obtain ⟨m, hm⟩ := hM
 refine (Any.strings_Cut Tryz.lays145 ⟨s.toArray⟩ ⟨#[c]⟩ m w (by simp [ByteArray.size]; omega) hm).mono ?_
 rintro e w' ⟨rfl, n, rfl⟩
 refine ⟨?_, (Mod.refl _ _).drewN n⟩
 have h := cut_byte c s
 show Ending.returned (.tuple #[.string ⟨(Lib.cut s [c]).1.toArray⟩, .string ⟨(Lib.cut s [c]).2.1.toArray⟩, .bool (Lib.cut s [c]).2.2]) = _
 rw [h]
 unfold headS restS
 cases fstL c s <;> rfl
def PcP (w : World) (s : Str) (e : Ending) (w' : World) : Prop := ∃ qr : QR, e = .returned (.tuple #[.int .i64 (pieceQ s).1, qA qr]) ∧ QS w' qr ∧ qr.key = (pieceQ s).2 ∧ QFr w.heap.size qr ∧ Pure w w'
theorem natQ_of {s : Str} {v : Int} (h : ∀ n, numQ 6 s = some n → v = n) : natQ s = if ((numQ 6 s).isSome && decide (0 ≤ v)) = true then some v else none := by
 unfold natQ
 cases hn : numQ 6 s with
 | none => rfl
 | some n =>
  have e := h n hn
  subst e
  by_cases h0 : 0 ≤ v
  ·simp [h0]
  ·simp [h0]

theorem restS_len (c : UInt8) (s : Str) : (restS c s).length ≤ s.length := by
 unfold restS
 cases hf : fstL c s with
 | none => simp
 | some p => have := fstL_len hf; simp only; omega

theorem keyS_calls (w : World) (s : Str) (hs : s.length ≤ 1000000) : Calls Tryz.prog 94 #[.string ⟨s.toArray⟩] w (BoolSame w (keyB s)) := by
 have h := key_calls w ⟨s.toArray⟩ (by show s.toArray.size ≤ _; rw [List.size_toArray]; omega)
 simpa using h
theorem colon_owner (rs : Str) : colonQ [111, 119, 110, 101, 114] rs = if keyB rs = true then (3, .mk 9 [rs] 0 []) else (8, q0) := by unfold colonQ; simp
theorem colon_name (rs : Str) : colonQ [110, 97, 109, 101] rs = if patB rs = true then (3, .mk 11 [rs] 0 []) else (8, q0) := by unfold colonQ; simp
theorem colon_from (rs : Str) : colonQ [102, 114, 111, 109] rs = if (natQ rs).isSome = true then (3, .mk 12 [] ((natQ rs).getD 0) []) else (8, q0) := by unfold colonQ; simp
theorem colon_until (rs : Str) : colonQ [117, 110, 116, 105, 108] rs = if (natQ rs).isSome = true then (3, .mk 13 [] ((natQ rs).getD 0) []) else (8, q0) := by unfold colonQ; simp
theorem colon_kind (rs : Str) : colonQ [107, 105, 110, 100] rs = if kndI rs ≠ 0 then (3, .mk 10 [] (kndI rs) []) else (8, q0) := by unfold colonQ; simp
theorem colon_else {hd : Str} (rs : Str) (h1 : ¬ hd = [111, 119, 110, 101, 114]) (h2 : ¬ hd = [110, 97, 109, 101]) (h3 : ¬ hd = [102, 114, 111, 109]) (h4 : ¬ hd = [117, 110, 116, 105, 108]) (h5 : ¬ hd = [107, 105, 110, 100]) : colonQ hd rs = (8, q0) := by
 unfold colonQ
 rw [if_neg (fun h => h1 h.1), if_neg (fun h => h2 h.1), if_neg (fun h => h3 h.1), if_neg (fun h => h4 h.1), if_neg (fun h => h5 h.1)]
theorem knd_at {rs : Str} {j : Nat} (h1 : 1 ≤ j) (h4 : j ≤ 4) (h : kwQ j = rs) : kndI rs = j := by
 subst h
 obtain rfl | rfl | rfl | rfl : j = 1 ∨ j = 2 ∨ j = 3 ∨ j = 4 := by omega
 all_goals rfl
theorem knd_none {rs : Str} (h : ∀ t : Nat, 1 ≤ t → t < 5 → kwQ t ≠ rs) : kndI rs = 0 := by
 have a1 : ¬ rs = [109, 97, 105, 108] := fun e => h 1 (by omega) (by omega) e.symm
 have a2 : ¬ rs = [102, 105, 108, 101] := fun e => h 2 (by omega) (by omega) e.symm
 have a3 : ¬ rs = [98, 111, 120] := fun e => h 3 (by omega) (by omega) e.symm
 have a4 : ¬ rs = [110, 111, 116, 101] := fun e => h 4 (by omega) (by omega) e.symm
 unfold kndI
 rw [if_neg a1, if_neg a2, if_neg a3, if_neg a4]

set_option maxRecDepth 100000 in
set_option maxHeartbeats 8000000 in
theorem piece_calls (w : World) (s : Str) (hs : s.length ≤ 300000) (hM : MlnS w) : Calls Tryz.prog 118 #[.string ⟨s.toArray⟩] w (PcP w s) := by
 have h30 := Blk.new w 44 #[.int .i64 0, .slice none 0 0, .int .i64 0, .slice none 0 0]
 have hP0 := pure_alloc w (.cells #[.int .i64 0, .slice none 0 0, .int .i64 0, .slice none 0 0] 44)
 have HPQ : Hid (pieceQ s = if s = [97, 108, 108] then (3, .mk 1 [] 0 []) else if s = [97, 110, 100] then (4, q0) else if s = [111, 114] then (5, q0) else if s = [110, 111, 116] then (6, q0)
  else if patB s = true then (3, .mk 2 [s] 0 []) else match fstL 47 s with
  | some p => slashQ p.1 p.2
  | none => colonQ (headS 58 s) (restS 58 s)) := Lib.hid rfl
 have HML := Lib.hid (fun W (h : Pure w W) => hM.pure h)
 clear hM
 go_enter Tryz.func118, Tryz.ntmps118
 go_upto_region 1 with (fail)
 generalize (w.alloc (.cells #[.int .i64 0, .slice none 0 0, .int .i64 0, .slice none 0 0] 44)) = w0 at *
 generalize hg3 : w.heap.size = g3 at *
 have hgw : w.heap.size ≤ g3 := Nat.le_of_eq hg3
 clear hg3
 have H3 := Lib.hid h30
 have HP0 : Hid (Pure w w0) := Lib.hid hP0
 clear h30 hP0
 by_cases eall : s = [97, 108, 108]
 ·subst eall
  have HX := Lib.hid (H3.out)
  have HPY := Lib.hid (HP0.out)
  have h3x := HX.out
  have y0 := h3x.cell 0; have yf0 := h3x.frozen 0; have y1 := h3x.cell 1; have yf1 := h3x.frozen 1; have y2 := h3x.cell 2; have yf2 := h3x.frozen 2; have y3 := h3x.cell 3; have yf3 := h3x.frozen 3; simp at y0 y1 y2 y3
  clear h3x
  go_wp2_with fail
  clear y0 y1 y2 y3 yf0 yf1 yf2 yf3
  have h4F := st4_blk (a := .int .i64 1) (b := .slice none 0 0) (c := .int .i64 0) (d := .slice none 0 0) HX.out
  have HMF : Hid (Pure w (((((w0).setCell ⟨g3, 0, none⟩ (.int .i64 1)).setCell ⟨g3, 1, none⟩ (.slice none 0 0)).setCell ⟨g3, 2, none⟩ (.int .i64 0)).setCell ⟨g3, 3, none⟩ (.slice none 0 0))) := Lib.hid (Mod.trans' HPY.out (st4_mod (g := g3)) (fun i hi hlt => by omega))
  have HQS : Hid (QS (((((w0).setCell ⟨g3, 0, none⟩ (.int .i64 1)).setCell ⟨g3, 1, none⟩ (.slice none 0 0)).setCell ⟨g3, 2, none⟩ (.int .i64 0)).setCell ⟨g3, 3, none⟩ (.slice none 0 0)) (.mk 1 none 0 [] 0 none 0 [])) := Lib.hid (.mk Sl.nil_ Sl.nil_ (fun a ha => by cases ha))
  have HFC := Lib.hid ((show pieceQ [97, 108, 108] = (3, .mk 1 [] 0 []) from rfl))
  have x0 := h4F.cell 0; have x1 := h4F.cell 1; have x2 := h4F.cell 2; have x3 := h4F.cell 3; simp at x0 x1 x2 x3
  try simp only [Exit.inBlock, Exit.then]
  refine bodyPost_ret (v := .tuple #[.int .i64 3, .agg #[.int .i64 1, .slice none 0 0, .int .i64 0, .slice none 0 0]]) (by simp [results, Tryz.results118, go_sem, x0, x1, x2, x3]) rfl ?_
  exact ⟨.mk 1 none 0 [] 0 none 0 [], by rw [HFC.out]; rfl, HQS.out, by rw [HFC.out, QR.key_mk]; rfl, .mk (fun h => absurd rfl h) (fun a ha => by cases ha), HMF.out⟩
 have nall : (s == [97, 108, 108]) = false := by simpa using eall
 by_cases eand : s = [97, 110, 100]
 ·subst eand
  have HX := Lib.hid (H3.out)
  have HPY := Lib.hid (HP0.out)
  have h3x := HX.out
  have y0 := h3x.cell 0; have yf0 := h3x.frozen 0; have y1 := h3x.cell 1; have yf1 := h3x.frozen 1; have y2 := h3x.cell 2; have yf2 := h3x.frozen 2; have y3 := h3x.cell 3; have yf3 := h3x.frozen 3; simp at y0 y1 y2 y3
  clear h3x
  go_wp2_with fail
  clear y0 y1 y2 y3 yf0 yf1 yf2 yf3
  have h4F := st4_blk (a := .int .i64 0) (b := .slice none 0 0) (c := .int .i64 0) (d := .slice none 0 0) HX.out
  have HMF : Hid (Pure w (((((w0).setCell ⟨g3, 0, none⟩ (.int .i64 0)).setCell ⟨g3, 1, none⟩ (.slice none 0 0)).setCell ⟨g3, 2, none⟩ (.int .i64 0)).setCell ⟨g3, 3, none⟩ (.slice none 0 0))) := Lib.hid (Mod.trans' HPY.out (st4_mod (g := g3)) (fun i hi hlt => by omega))
  have HQS : Hid (QS (((((w0).setCell ⟨g3, 0, none⟩ (.int .i64 0)).setCell ⟨g3, 1, none⟩ (.slice none 0 0)).setCell ⟨g3, 2, none⟩ (.int .i64 0)).setCell ⟨g3, 3, none⟩ (.slice none 0 0)) (.mk 0 none 0 [] 0 none 0 [])) := Lib.hid (.mk Sl.nil_ Sl.nil_ (fun a ha => by cases ha))
  have HFC := Lib.hid ((show pieceQ [97, 110, 100] = (4, .mk 0 [] 0 []) from rfl))
  have x0 := h4F.cell 0; have x1 := h4F.cell 1; have x2 := h4F.cell 2; have x3 := h4F.cell 3; simp at x0 x1 x2 x3
  try simp only [Exit.inBlock, Exit.then]
  refine bodyPost_ret (v := .tuple #[.int .i64 4, .agg #[.int .i64 0, .slice none 0 0, .int .i64 0, .slice none 0 0]]) (by simp [results, Tryz.results118, go_sem, x0, x1, x2, x3]) rfl ?_
  exact ⟨.mk 0 none 0 [] 0 none 0 [], by rw [HFC.out]; rfl, HQS.out, by rw [HFC.out, QR.key_mk]; rfl, .mk (fun h => absurd rfl h) (fun a ha => by cases ha), HMF.out⟩
 have nand : (s == [97, 110, 100]) = false := by simpa using eand
 by_cases eor : s = [111, 114]
 ·subst eor
  have HX := Lib.hid (H3.out)
  have HPY := Lib.hid (HP0.out)
  have h3x := HX.out
  have y0 := h3x.cell 0; have yf0 := h3x.frozen 0; have y1 := h3x.cell 1; have yf1 := h3x.frozen 1; have y2 := h3x.cell 2; have yf2 := h3x.frozen 2; have y3 := h3x.cell 3; have yf3 := h3x.frozen 3; simp at y0 y1 y2 y3
  clear h3x
  go_wp2_with fail
  clear y0 y1 y2 y3 yf0 yf1 yf2 yf3
  have h4F := st4_blk (a := .int .i64 0) (b := .slice none 0 0) (c := .int .i64 0) (d := .slice none 0 0) HX.out
  have HMF : Hid (Pure w (((((w0).setCell ⟨g3, 0, none⟩ (.int .i64 0)).setCell ⟨g3, 1, none⟩ (.slice none 0 0)).setCell ⟨g3, 2, none⟩ (.int .i64 0)).setCell ⟨g3, 3, none⟩ (.slice none 0 0))) := Lib.hid (Mod.trans' HPY.out (st4_mod (g := g3)) (fun i hi hlt => by omega))
  have HQS : Hid (QS (((((w0).setCell ⟨g3, 0, none⟩ (.int .i64 0)).setCell ⟨g3, 1, none⟩ (.slice none 0 0)).setCell ⟨g3, 2, none⟩ (.int .i64 0)).setCell ⟨g3, 3, none⟩ (.slice none 0 0)) (.mk 0 none 0 [] 0 none 0 [])) := Lib.hid (.mk Sl.nil_ Sl.nil_ (fun a ha => by cases ha))
  have HFC := Lib.hid ((show pieceQ [111, 114] = (5, .mk 0 [] 0 []) from rfl))
  have x0 := h4F.cell 0; have x1 := h4F.cell 1; have x2 := h4F.cell 2; have x3 := h4F.cell 3; simp at x0 x1 x2 x3
  try simp only [Exit.inBlock, Exit.then]
  refine bodyPost_ret (v := .tuple #[.int .i64 5, .agg #[.int .i64 0, .slice none 0 0, .int .i64 0, .slice none 0 0]]) (by simp [results, Tryz.results118, go_sem, x0, x1, x2, x3]) rfl ?_
  exact ⟨.mk 0 none 0 [] 0 none 0 [], by rw [HFC.out]; rfl, HQS.out, by rw [HFC.out, QR.key_mk]; rfl, .mk (fun h => absurd rfl h) (fun a ha => by cases ha), HMF.out⟩
 have nor : (s == [111, 114]) = false := by simpa using eor
 by_cases enot : s = [110, 111, 116]
 ·subst enot
  have HX := Lib.hid (H3.out)
  have HPY := Lib.hid (HP0.out)
  have h3x := HX.out
  have y0 := h3x.cell 0; have yf0 := h3x.frozen 0; have y1 := h3x.cell 1; have yf1 := h3x.frozen 1; have y2 := h3x.cell 2; have yf2 := h3x.frozen 2; have y3 := h3x.cell 3; have yf3 := h3x.frozen 3; simp at y0 y1 y2 y3
  clear h3x
  go_wp2_with fail
  clear y0 y1 y2 y3 yf0 yf1 yf2 yf3
  have h4F := st4_blk (a := .int .i64 0) (b := .slice none 0 0) (c := .int .i64 0) (d := .slice none 0 0) HX.out
  have HMF : Hid (Pure w (((((w0).setCell ⟨g3, 0, none⟩ (.int .i64 0)).setCell ⟨g3, 1, none⟩ (.slice none 0 0)).setCell ⟨g3, 2, none⟩ (.int .i64 0)).setCell ⟨g3, 3, none⟩ (.slice none 0 0))) := Lib.hid (Mod.trans' HPY.out (st4_mod (g := g3)) (fun i hi hlt => by omega))
  have HQS : Hid (QS (((((w0).setCell ⟨g3, 0, none⟩ (.int .i64 0)).setCell ⟨g3, 1, none⟩ (.slice none 0 0)).setCell ⟨g3, 2, none⟩ (.int .i64 0)).setCell ⟨g3, 3, none⟩ (.slice none 0 0)) (.mk 0 none 0 [] 0 none 0 [])) := Lib.hid (.mk Sl.nil_ Sl.nil_ (fun a ha => by cases ha))
  have HFC := Lib.hid ((show pieceQ [110, 111, 116] = (6, .mk 0 [] 0 []) from rfl))
  have x0 := h4F.cell 0; have x1 := h4F.cell 1; have x2 := h4F.cell 2; have x3 := h4F.cell 3; simp at x0 x1 x2 x3
  try simp only [Exit.inBlock, Exit.then]
  refine bodyPost_ret (v := .tuple #[.int .i64 6, .agg #[.int .i64 0, .slice none 0 0, .int .i64 0, .slice none 0 0]]) (by simp [results, Tryz.results118, go_sem, x0, x1, x2, x3]) rfl ?_
  exact ⟨.mk 0 none 0 [] 0 none 0 [], by rw [HFC.out]; rfl, HQS.out, by rw [HFC.out, QR.key_mk]; rfl, .mk (fun h => absurd rfl h) (fun a ha => by cases ha), HMF.out⟩
 have nnot : (s == [110, 111, 116]) = false := by simpa using enot
 have HPR : Hid (pieceQ s = if patB s = true then (3, .mk 2 [s] 0 []) else match fstL 47 s with
  | some p => slashQ p.1 p.2
  | none => colonQ (headS 58 s) (restS 58 s)) := Lib.hid (by rw [HPQ.out, if_neg eall, if_neg eand, if_neg eor, if_neg enot])
 have HIP := Lib.hid (isPattern_calls w0 s (by omega))
 clear HPQ eall eand eor enot
 obtain ⟨pb, hpb⟩ : ∃ pb, patB s = pb := ⟨_, rfl⟩
 rw [hpb] at HPR HIP
 clear hpb
 go_wp2_with fail
 refine HIP.out.mono ?_
 rintro e w1 ⟨rfl, rfl⟩
 clear HIP nall nand nor nnot
 cases pb with
 | true =>
  have HX := Lib.hid (H3.out)
  have HPY := Lib.hid (HP0.out)
  have h3x := HX.out
  have h3z := h3x.alloc (.cells #[.string ⟨s.toArray⟩] 9)
  have hgw2 := h3x.lt
  have z0 := h3z.cell 0; have zf0 := h3z.frozen 0; have z1 := h3z.cell 1; have zf1 := h3z.frozen 1; have z2 := h3z.cell 2; have zf2 := h3z.frozen 2; have z3 := h3z.cell 3; have zf3 := h3z.frozen 3; simp at z0 z1 z2 z3
  clear h3z
  have y0 := h3x.cell 0; have yf0 := h3x.frozen 0; have y1 := h3x.cell 1; have yf1 := h3x.frozen 1; have y2 := h3x.cell 2; have yf2 := h3x.frozen 2; have y3 := h3x.cell 3; have yf3 := h3x.frozen 3; simp at y0 y1 y2 y3
  clear h3x
  go_wp2_with fail
  clear y0 y1 y2 y3 yf0 yf1 yf2 yf3
  clear z0 z1 z2 z3 zf0 zf1 zf2 zf3
  have hsb : Blk ((((((w0).setCell ⟨g3, 0, none⟩ (.int .i64 2)).setCell ⟨g3, 1, none⟩ (.slice (some ⟨w0.heap.size, 0, none⟩) 1 1)).setCell ⟨g3, 2, none⟩ (.int .i64 0)).setCell ⟨g3, 3, none⟩ (.slice none 0 0)).alloc (.cells #[.string ⟨s.toArray⟩] 9)) w0.heap.size 9 (strsV [s]).toArray := by
   have h := Blk.new (((((w0).setCell ⟨g3, 0, none⟩ (.int .i64 2)).setCell ⟨g3, 1, none⟩ (.slice (some ⟨w0.heap.size, 0, none⟩) 1 1)).setCell ⟨g3, 2, none⟩ (.int .i64 0)).setCell ⟨g3, 3, none⟩ (.slice none 0 0)) 9 #[.string ⟨s.toArray⟩]
   rw [show (((((w0).setCell ⟨g3, 0, none⟩ (.int .i64 2)).setCell ⟨g3, 1, none⟩ (.slice (some ⟨w0.heap.size, 0, none⟩) 1 1)).setCell ⟨g3, 2, none⟩ (.int .i64 0)).setCell ⟨g3, 3, none⟩ (.slice none 0 0)).heap.size = w0.heap.size by simp] at h
   exact h
  have h4F := (st4_blk (a := .int .i64 2) (b := .slice (some ⟨w0.heap.size, 0, none⟩) 1 1) (c := .int .i64 0) (d := .slice none 0 0) HX.out).alloc (.cells #[.string ⟨s.toArray⟩] 9)
  have HMF : Hid (Pure w ((((((w0).setCell ⟨g3, 0, none⟩ (.int .i64 2)).setCell ⟨g3, 1, none⟩ (.slice (some ⟨w0.heap.size, 0, none⟩) 1 1)).setCell ⟨g3, 2, none⟩ (.int .i64 0)).setCell ⟨g3, 3, none⟩ (.slice none 0 0)).alloc (.cells #[.string ⟨s.toArray⟩] 9))) := Lib.hid ((Mod.trans' HPY.out (st4_mod (g := g3)) (fun i hi hlt => by omega)).alloc (.cells #[.string ⟨s.toArray⟩] 9))
  have HQS : Hid (QS ((((((w0).setCell ⟨g3, 0, none⟩ (.int .i64 2)).setCell ⟨g3, 1, none⟩ (.slice (some ⟨w0.heap.size, 0, none⟩) 1 1)).setCell ⟨g3, 2, none⟩ (.int .i64 0)).setCell ⟨g3, 3, none⟩ (.slice none 0 0)).alloc (.cells #[.string ⟨s.toArray⟩] 9)) (.mk 2 (some ⟨w0.heap.size, 0, none⟩) 1 [s] 0 none 0 [])) := Lib.hid (qs_words hsb (by simp))
  have HFC := Lib.hid (HPR.out.trans (if_pos (by first | rfl | trivial)))
  have x0 := h4F.cell 0; have x1 := h4F.cell 1; have x2 := h4F.cell 2; have x3 := h4F.cell 3; simp at x0 x1 x2 x3
  try simp only [Exit.inBlock, Exit.then]
  refine bodyPost_ret (v := .tuple #[.int .i64 3, .agg #[.int .i64 2, .slice (some ⟨w0.heap.size, 0, none⟩) 1 1, .int .i64 0, .slice none 0 0]]) (by simp [results, Tryz.results118, go_sem, x0, x1, x2, x3]) rfl ?_
  exact ⟨.mk 2 (some ⟨w0.heap.size, 0, none⟩) 1 [s] 0 none 0 [], by rw [HFC.out]; rfl, HQS.out, by rw [HFC.out, QR.key_mk]; rfl, .mk (fun h => absurd rfl h) (fun a ha => by cases ha), HMF.out⟩
 | false =>
  have HP1 : Hid (pieceQ s = match fstL 47 s with
   | some p => slashQ p.1 p.2
   | none => colonQ (headS 58 s) (restS 58 s)) := Lib.hid (HPR.out.trans (if_neg (by first | decide | simp)))
  have HC := Lib.hid (cutB_calls w0 s 47 (HML.out _ HP0.out) (by omega))
  clear HPR
  go_wp2_with fail
  refine HC.out.mono ?_
  rintro e w1 ⟨rfl, hm1⟩
  have H31 := Lib.hid (H3.out.modp hm1)
  have HPW : Hid (Pure w w1) := Lib.hid (HP0.out.trans hm1)
  clear HC hm1 H3 HP0
  cases hf : fstL 47 s with
  | some p =>
   have eh : headS 47 s = p.1 := by unfold headS; rw [hf]
   have er : restS 47 s = p.2 := by unfold restS; rw [hf]
   have hpl : p.2.length ≤ s.length := by have := fstL_len hf; omega
   have HP2 : Hid (pieceQ s = slashQ p.1 p.2) := Lib.hid (by rw [HP1.out, hf])
   rw [eh, er]
   have HNT := Lib.hid (natural_calls w1 p.2 6 (by omega) (by omega))
   clear HP1 hf eh er
   obtain ⟨hd, rs⟩ := p
   simp only at HP2 HNT hpl ⊢
   go_wp2_with fail
   refine HNT.out.mono ?_
   rintro e w2 ⟨v, rfl, hv, hv1, hv2, hm2⟩
   have H32 := Lib.hid (H31.out.modp hm2)
   have HPX : Hid (Pure w w2) := Lib.hid (HPW.out.trans hm2)
   have hnq := natQ_of hv
   obtain ⟨rt, hrt⟩ : ∃ rt, ((numQ 6 rs).isSome && decide (0 ≤ v)) = rt := ⟨_, rfl⟩
   rw [hrt] at hnq ⊢
   have HNQ := Lib.hid hnq
   clear hm2 H31 HPW HNT hv hnq hrt
   cases rt with
   | false =>
    have HBAD : Hid (pieceQ s = (8, .mk 0 [] 0 [])) := Lib.hid (by rw [HP2.out]; unfold slashQ; rw [HNQ.out]; rfl)
    have HX := Lib.hid (H32.out)
    have HPY := Lib.hid (HPX.out)
    have h3x := HX.out
    have y0 := h3x.cell 0; have yf0 := h3x.frozen 0; have y1 := h3x.cell 1; have yf1 := h3x.frozen 1; have y2 := h3x.cell 2; have yf2 := h3x.frozen 2; have y3 := h3x.cell 3; have yf3 := h3x.frozen 3; simp at y0 y1 y2 y3
    clear h3x
    go_wp2_with fail
    clear y0 y1 y2 y3 yf0 yf1 yf2 yf3
    have h4F := st4_blk (a := .int .i64 0) (b := .slice none 0 0) (c := .int .i64 0) (d := .slice none 0 0) HX.out
    have HMF : Hid (Pure w (((((w2).setCell ⟨g3, 0, none⟩ (.int .i64 0)).setCell ⟨g3, 1, none⟩ (.slice none 0 0)).setCell ⟨g3, 2, none⟩ (.int .i64 0)).setCell ⟨g3, 3, none⟩ (.slice none 0 0))) := Lib.hid (Mod.trans' HPY.out (st4_mod (g := g3)) (fun i hi hlt => by omega))
    have HQS : Hid (QS (((((w2).setCell ⟨g3, 0, none⟩ (.int .i64 0)).setCell ⟨g3, 1, none⟩ (.slice none 0 0)).setCell ⟨g3, 2, none⟩ (.int .i64 0)).setCell ⟨g3, 3, none⟩ (.slice none 0 0)) (.mk 0 none 0 [] 0 none 0 [])) := Lib.hid (.mk Sl.nil_ Sl.nil_ (fun a ha => by cases ha))
    have HFC := Lib.hid (HBAD.out)
    have x0 := h4F.cell 0; have x1 := h4F.cell 1; have x2 := h4F.cell 2; have x3 := h4F.cell 3; simp at x0 x1 x2 x3
    try simp only [Exit.inBlock, Exit.then]
    refine bodyPost_ret (v := .tuple #[.int .i64 8, .agg #[.int .i64 0, .slice none 0 0, .int .i64 0, .slice none 0 0]]) (by simp [results, Tryz.results118, go_sem, x0, x1, x2, x3]) rfl ?_
    exact ⟨.mk 0 none 0 [] 0 none 0 [], by rw [HFC.out]; rfl, HQS.out, by rw [HFC.out, QR.key_mk]; rfl, .mk (fun h => absurd rfl h) (fun a ha => by cases ha), HMF.out⟩
   | true =>
    have hsl : pieceQ s = if hd = [119] then (7, .mk 4 [] v []) else if hd = [112, 114, 101] then (7, .mk 5 [] v []) else (8, q0) := by
     rw [HP2.out]; unfold slashQ; rw [HNQ.out]; rfl
    by_cases hw : hd = [119]
    ·have HBAD := Lib.hid (hsl.trans (if_pos hw))
     subst hw
     clear hsl HP2 HNQ
     have HX := Lib.hid (H32.out)
     have HPY := Lib.hid (HPX.out)
     have h3x := HX.out
     have y0 := h3x.cell 0; have yf0 := h3x.frozen 0; have y1 := h3x.cell 1; have yf1 := h3x.frozen 1; have y2 := h3x.cell 2; have yf2 := h3x.frozen 2; have y3 := h3x.cell 3; have yf3 := h3x.frozen 3; simp at y0 y1 y2 y3
     clear h3x
     go_wp2_with fail
     clear y0 y1 y2 y3 yf0 yf1 yf2 yf3
     have h4F := st4_blk (a := .int .i64 4) (b := .slice none 0 0) (c := .int .i64 v) (d := .slice none 0 0) HX.out
     have HMF : Hid (Pure w (((((w2).setCell ⟨g3, 0, none⟩ (.int .i64 4)).setCell ⟨g3, 1, none⟩ (.slice none 0 0)).setCell ⟨g3, 2, none⟩ (.int .i64 v)).setCell ⟨g3, 3, none⟩ (.slice none 0 0))) := Lib.hid (Mod.trans' HPY.out (st4_mod (g := g3)) (fun i hi hlt => by omega))
     have HQS : Hid (QS (((((w2).setCell ⟨g3, 0, none⟩ (.int .i64 4)).setCell ⟨g3, 1, none⟩ (.slice none 0 0)).setCell ⟨g3, 2, none⟩ (.int .i64 v)).setCell ⟨g3, 3, none⟩ (.slice none 0 0)) (.mk 4 none 0 [] v none 0 [])) := Lib.hid (.mk Sl.nil_ Sl.nil_ (fun a ha => by cases ha))
     have HFC := Lib.hid (HBAD.out)
     have x0 := h4F.cell 0; have x1 := h4F.cell 1; have x2 := h4F.cell 2; have x3 := h4F.cell 3; simp at x0 x1 x2 x3
     try simp only [Exit.inBlock, Exit.then]
     refine bodyPost_ret (v := .tuple #[.int .i64 7, .agg #[.int .i64 4, .slice none 0 0, .int .i64 v, .slice none 0 0]]) (by simp [results, Tryz.results118, go_sem, x0, x1, x2, x3]) rfl ?_
     exact ⟨.mk 4 none 0 [] v none 0 [], by rw [HFC.out]; rfl, HQS.out, by rw [HFC.out, QR.key_mk]; rfl, .mk (fun h => absurd rfl h) (fun a ha => by cases ha), HMF.out⟩
    ·have hwn : (hd == [119]) = false := by simpa using hw
     have hsl2 := hsl.trans (if_neg hw)
     by_cases hp : hd = [112, 114, 101]
     ·have HBAD := Lib.hid (hsl2.trans (if_pos hp))
      subst hp
      clear hsl hsl2 HP2 HNQ hw
      have HX := Lib.hid (H32.out)
      have HPY := Lib.hid (HPX.out)
      have h3x := HX.out
      have y0 := h3x.cell 0; have yf0 := h3x.frozen 0; have y1 := h3x.cell 1; have yf1 := h3x.frozen 1; have y2 := h3x.cell 2; have yf2 := h3x.frozen 2; have y3 := h3x.cell 3; have yf3 := h3x.frozen 3; simp at y0 y1 y2 y3
      clear h3x
      go_wp2_with fail
      clear y0 y1 y2 y3 yf0 yf1 yf2 yf3
      have h4F := st4_blk (a := .int .i64 5) (b := .slice none 0 0) (c := .int .i64 v) (d := .slice none 0 0) HX.out
      have HMF : Hid (Pure w (((((w2).setCell ⟨g3, 0, none⟩ (.int .i64 5)).setCell ⟨g3, 1, none⟩ (.slice none 0 0)).setCell ⟨g3, 2, none⟩ (.int .i64 v)).setCell ⟨g3, 3, none⟩ (.slice none 0 0))) := Lib.hid (Mod.trans' HPY.out (st4_mod (g := g3)) (fun i hi hlt => by omega))
      have HQS : Hid (QS (((((w2).setCell ⟨g3, 0, none⟩ (.int .i64 5)).setCell ⟨g3, 1, none⟩ (.slice none 0 0)).setCell ⟨g3, 2, none⟩ (.int .i64 v)).setCell ⟨g3, 3, none⟩ (.slice none 0 0)) (.mk 5 none 0 [] v none 0 [])) := Lib.hid (.mk Sl.nil_ Sl.nil_ (fun a ha => by cases ha))
      have HFC := Lib.hid (HBAD.out)
      have x0 := h4F.cell 0; have x1 := h4F.cell 1; have x2 := h4F.cell 2; have x3 := h4F.cell 3; simp at x0 x1 x2 x3
      try simp only [Exit.inBlock, Exit.then]
      refine bodyPost_ret (v := .tuple #[.int .i64 7, .agg #[.int .i64 5, .slice none 0 0, .int .i64 v, .slice none 0 0]]) (by simp [results, Tryz.results118, go_sem, x0, x1, x2, x3]) rfl ?_
      exact ⟨.mk 5 none 0 [] v none 0 [], by rw [HFC.out]; rfl, HQS.out, by rw [HFC.out, QR.key_mk]; rfl, .mk (fun h => absurd rfl h) (fun a ha => by cases ha), HMF.out⟩
     ·have hpn : (hd == [112, 114, 101]) = false := by simpa using hp
      have HBAD := Lib.hid (hsl2.trans (if_neg hp))
      clear hsl hsl2 HP2 HNQ hw hp
      have HX := Lib.hid (H32.out)
      have HPY := Lib.hid (HPX.out)
      have h3x := HX.out
      have y0 := h3x.cell 0; have yf0 := h3x.frozen 0; have y1 := h3x.cell 1; have yf1 := h3x.frozen 1; have y2 := h3x.cell 2; have yf2 := h3x.frozen 2; have y3 := h3x.cell 3; have yf3 := h3x.frozen 3; simp at y0 y1 y2 y3
      clear h3x
      go_wp2_with fail
      clear y0 y1 y2 y3 yf0 yf1 yf2 yf3
      have h4F := st4_blk (a := .int .i64 0) (b := .slice none 0 0) (c := .int .i64 0) (d := .slice none 0 0) HX.out
      have HMF : Hid (Pure w (((((w2).setCell ⟨g3, 0, none⟩ (.int .i64 0)).setCell ⟨g3, 1, none⟩ (.slice none 0 0)).setCell ⟨g3, 2, none⟩ (.int .i64 0)).setCell ⟨g3, 3, none⟩ (.slice none 0 0))) := Lib.hid (Mod.trans' HPY.out (st4_mod (g := g3)) (fun i hi hlt => by omega))
      have HQS : Hid (QS (((((w2).setCell ⟨g3, 0, none⟩ (.int .i64 0)).setCell ⟨g3, 1, none⟩ (.slice none 0 0)).setCell ⟨g3, 2, none⟩ (.int .i64 0)).setCell ⟨g3, 3, none⟩ (.slice none 0 0)) (.mk 0 none 0 [] 0 none 0 [])) := Lib.hid (.mk Sl.nil_ Sl.nil_ (fun a ha => by cases ha))
      have HFC := Lib.hid (HBAD.out)
      have x0 := h4F.cell 0; have x1 := h4F.cell 1; have x2 := h4F.cell 2; have x3 := h4F.cell 3; simp at x0 x1 x2 x3
      try simp only [Exit.inBlock, Exit.then]
      refine bodyPost_ret (v := .tuple #[.int .i64 8, .agg #[.int .i64 0, .slice none 0 0, .int .i64 0, .slice none 0 0]]) (by simp [results, Tryz.results118, go_sem, x0, x1, x2, x3]) rfl ?_
      exact ⟨.mk 0 none 0 [] 0 none 0 [], by rw [HFC.out]; rfl, HQS.out, by rw [HFC.out, QR.key_mk]; rfl, .mk (fun h => absurd rfl h) (fun a ha => by cases ha), HMF.out⟩
  | none =>
   have HP2 : Hid (pieceQ s = colonQ (headS 58 s) (restS 58 s)) := Lib.hid (by rw [HP1.out, hf])
   have HC2 := Lib.hid (cutB_calls w1 s 58 (HML.out _ HPW.out) (by omega))
   have hrl := restS_len 58 s
   clear HP1 hf
   go_wp2_with fail
   refine HC2.out.mono ?_
   rintro e w2 ⟨rfl, hm2⟩
   have H32 := Lib.hid (H31.out.modp hm2)
   have HPX : Hid (Pure w w2) := Lib.hid (HPW.out.trans hm2)
   clear HC2 hm2 H31 HPW
   generalize headS 58 s = hd at *
   generalize restS 58 s = rs at *
   generalize (fstL 58 s).isSome = fb at *
   have HNT := Lib.hid (natural_calls w2 rs 6 (by omega) (by omega))
   go_wp2_with fail
   refine HNT.out.mono ?_
   rintro e w3 ⟨v, rfl, hv, hv1, hv2, hm3⟩
   have H33 := Lib.hid (H32.out.modp hm3)
   have HPV : Hid (Pure w w3) := Lib.hid (HPX.out.trans hm3)
   have hnq := natQ_of hv
   obtain ⟨rt, hrt⟩ : ∃ rt, ((numQ 6 rs).isSome && decide (0 ≤ v)) = rt := ⟨_, rfl⟩
   rw [hrt] at hnq ⊢
   have HNQ := Lib.hid hnq
   clear hm3 H32 HPX HNT hv hnq hrt
   by_cases cowner : hd = [111, 119, 110, 101, 114]
   ·subst cowner
    have HK := Lib.hid (keyS_calls w3 rs (by omega))
    have HCO := Lib.hid (HP2.out.trans (colon_owner rs))
    obtain ⟨kb, hkb⟩ : ∃ kb, keyB rs = kb := ⟨_, rfl⟩
    rw [hkb] at HK HCO
    clear hkb HP2 HNQ
    go_wp2_with fail
    refine HK.out.mono ?_
    rintro e w4 ⟨rfl, rfl⟩
    clear HK
    cases kb with
    | true =>
     have HX := Lib.hid (H33.out)
     have HPY := Lib.hid (HPV.out)
     have h3x := HX.out
     have h3z := h3x.alloc (.cells #[.string ⟨rs.toArray⟩] 9)
     have hgw2 := h3x.lt
     have z0 := h3z.cell 0; have zf0 := h3z.frozen 0; have z1 := h3z.cell 1; have zf1 := h3z.frozen 1; have z2 := h3z.cell 2; have zf2 := h3z.frozen 2; have z3 := h3z.cell 3; have zf3 := h3z.frozen 3; simp at z0 z1 z2 z3
     clear h3z
     have y0 := h3x.cell 0; have yf0 := h3x.frozen 0; have y1 := h3x.cell 1; have yf1 := h3x.frozen 1; have y2 := h3x.cell 2; have yf2 := h3x.frozen 2; have y3 := h3x.cell 3; have yf3 := h3x.frozen 3; simp at y0 y1 y2 y3
     clear h3x
     go_wp2_with fail
     clear y0 y1 y2 y3 yf0 yf1 yf2 yf3
     clear z0 z1 z2 z3 zf0 zf1 zf2 zf3
     have hsb : Blk ((((((w3).setCell ⟨g3, 0, none⟩ (.int .i64 9)).setCell ⟨g3, 1, none⟩ (.slice (some ⟨w3.heap.size, 0, none⟩) 1 1)).setCell ⟨g3, 2, none⟩ (.int .i64 0)).setCell ⟨g3, 3, none⟩ (.slice none 0 0)).alloc (.cells #[.string ⟨rs.toArray⟩] 9)) w3.heap.size 9 (strsV [rs]).toArray := by
      have h := Blk.new (((((w3).setCell ⟨g3, 0, none⟩ (.int .i64 9)).setCell ⟨g3, 1, none⟩ (.slice (some ⟨w3.heap.size, 0, none⟩) 1 1)).setCell ⟨g3, 2, none⟩ (.int .i64 0)).setCell ⟨g3, 3, none⟩ (.slice none 0 0)) 9 #[.string ⟨rs.toArray⟩]
      rw [show (((((w3).setCell ⟨g3, 0, none⟩ (.int .i64 9)).setCell ⟨g3, 1, none⟩ (.slice (some ⟨w3.heap.size, 0, none⟩) 1 1)).setCell ⟨g3, 2, none⟩ (.int .i64 0)).setCell ⟨g3, 3, none⟩ (.slice none 0 0)).heap.size = w3.heap.size by simp] at h
      exact h
     have h4F := (st4_blk (a := .int .i64 9) (b := .slice (some ⟨w3.heap.size, 0, none⟩) 1 1) (c := .int .i64 0) (d := .slice none 0 0) HX.out).alloc (.cells #[.string ⟨rs.toArray⟩] 9)
     have HMF : Hid (Pure w ((((((w3).setCell ⟨g3, 0, none⟩ (.int .i64 9)).setCell ⟨g3, 1, none⟩ (.slice (some ⟨w3.heap.size, 0, none⟩) 1 1)).setCell ⟨g3, 2, none⟩ (.int .i64 0)).setCell ⟨g3, 3, none⟩ (.slice none 0 0)).alloc (.cells #[.string ⟨rs.toArray⟩] 9))) := Lib.hid ((Mod.trans' HPY.out (st4_mod (g := g3)) (fun i hi hlt => by omega)).alloc (.cells #[.string ⟨rs.toArray⟩] 9))
     have HQS : Hid (QS ((((((w3).setCell ⟨g3, 0, none⟩ (.int .i64 9)).setCell ⟨g3, 1, none⟩ (.slice (some ⟨w3.heap.size, 0, none⟩) 1 1)).setCell ⟨g3, 2, none⟩ (.int .i64 0)).setCell ⟨g3, 3, none⟩ (.slice none 0 0)).alloc (.cells #[.string ⟨rs.toArray⟩] 9)) (.mk 9 (some ⟨w3.heap.size, 0, none⟩) 1 [rs] 0 none 0 [])) := Lib.hid (qs_words hsb (by simp))
     have HFC := Lib.hid (HCO.out.trans (if_pos (by first | rfl | trivial | simp)))
     have x0 := h4F.cell 0; have x1 := h4F.cell 1; have x2 := h4F.cell 2; have x3 := h4F.cell 3; simp at x0 x1 x2 x3
     try simp only [Exit.inBlock, Exit.then]
     refine bodyPost_ret (v := .tuple #[.int .i64 3, .agg #[.int .i64 9, .slice (some ⟨w3.heap.size, 0, none⟩) 1 1, .int .i64 0, .slice none 0 0]]) (by simp [results, Tryz.results118, go_sem, x0, x1, x2, x3]) rfl ?_
     exact ⟨.mk 9 (some ⟨w3.heap.size, 0, none⟩) 1 [rs] 0 none 0 [], by rw [HFC.out]; rfl, HQS.out, by rw [HFC.out, QR.key_mk]; rfl, .mk (fun h => absurd rfl h) (fun a ha => by cases ha), HMF.out⟩
    | false =>
     have HX := Lib.hid (H33.out)
     have HPY := Lib.hid (HPV.out)
     have h3x := HX.out
     have y0 := h3x.cell 0; have yf0 := h3x.frozen 0; have y1 := h3x.cell 1; have yf1 := h3x.frozen 1; have y2 := h3x.cell 2; have yf2 := h3x.frozen 2; have y3 := h3x.cell 3; have yf3 := h3x.frozen 3; simp at y0 y1 y2 y3
     clear h3x
     go_wp2_with fail
     clear y0 y1 y2 y3 yf0 yf1 yf2 yf3
     have h4F := st4_blk (a := .int .i64 0) (b := .slice none 0 0) (c := .int .i64 0) (d := .slice none 0 0) HX.out
     have HMF : Hid (Pure w (((((w3).setCell ⟨g3, 0, none⟩ (.int .i64 0)).setCell ⟨g3, 1, none⟩ (.slice none 0 0)).setCell ⟨g3, 2, none⟩ (.int .i64 0)).setCell ⟨g3, 3, none⟩ (.slice none 0 0))) := Lib.hid (Mod.trans' HPY.out (st4_mod (g := g3)) (fun i hi hlt => by omega))
     have HQS : Hid (QS (((((w3).setCell ⟨g3, 0, none⟩ (.int .i64 0)).setCell ⟨g3, 1, none⟩ (.slice none 0 0)).setCell ⟨g3, 2, none⟩ (.int .i64 0)).setCell ⟨g3, 3, none⟩ (.slice none 0 0)) (.mk 0 none 0 [] 0 none 0 [])) := Lib.hid (.mk Sl.nil_ Sl.nil_ (fun a ha => by cases ha))
     have HFC := Lib.hid (HCO.out.trans (if_neg (by first | decide | simp)))
     have x0 := h4F.cell 0; have x1 := h4F.cell 1; have x2 := h4F.cell 2; have x3 := h4F.cell 3; simp at x0 x1 x2 x3
     try simp only [Exit.inBlock, Exit.then]
     refine bodyPost_ret (v := .tuple #[.int .i64 8, .agg #[.int .i64 0, .slice none 0 0, .int .i64 0, .slice none 0 0]]) (by simp [results, Tryz.results118, go_sem, x0, x1, x2, x3]) rfl ?_
     exact ⟨.mk 0 none 0 [] 0 none 0 [], by rw [HFC.out]; rfl, HQS.out, by rw [HFC.out, QR.key_mk]; rfl, .mk (fun h => absurd rfl h) (fun a ha => by cases ha), HMF.out⟩
   have downer : (hd == [111, 119, 110, 101, 114]) = false := by simpa using cowner
   by_cases cname : hd = [110, 97, 109, 101]
   ·subst cname
    have HK := Lib.hid (isPattern_calls w3 rs (by omega))
    have HCO := Lib.hid (HP2.out.trans (colon_name rs))
    obtain ⟨kb, hkb⟩ : ∃ kb, patB rs = kb := ⟨_, rfl⟩
    rw [hkb] at HK HCO
    clear hkb HP2 HNQ
    go_wp2_with fail
    refine HK.out.mono ?_
    rintro e w4 ⟨rfl, rfl⟩
    clear HK
    cases kb with
    | true =>
     have HX := Lib.hid (H33.out)
     have HPY := Lib.hid (HPV.out)
     have h3x := HX.out
     have h3z := h3x.alloc (.cells #[.string ⟨rs.toArray⟩] 9)
     have hgw2 := h3x.lt
     have z0 := h3z.cell 0; have zf0 := h3z.frozen 0; have z1 := h3z.cell 1; have zf1 := h3z.frozen 1; have z2 := h3z.cell 2; have zf2 := h3z.frozen 2; have z3 := h3z.cell 3; have zf3 := h3z.frozen 3; simp at z0 z1 z2 z3
     clear h3z
     have y0 := h3x.cell 0; have yf0 := h3x.frozen 0; have y1 := h3x.cell 1; have yf1 := h3x.frozen 1; have y2 := h3x.cell 2; have yf2 := h3x.frozen 2; have y3 := h3x.cell 3; have yf3 := h3x.frozen 3; simp at y0 y1 y2 y3
     clear h3x
     go_wp2_with fail
     clear y0 y1 y2 y3 yf0 yf1 yf2 yf3
     clear z0 z1 z2 z3 zf0 zf1 zf2 zf3
     have hsb : Blk ((((((w3).setCell ⟨g3, 0, none⟩ (.int .i64 11)).setCell ⟨g3, 1, none⟩ (.slice (some ⟨w3.heap.size, 0, none⟩) 1 1)).setCell ⟨g3, 2, none⟩ (.int .i64 0)).setCell ⟨g3, 3, none⟩ (.slice none 0 0)).alloc (.cells #[.string ⟨rs.toArray⟩] 9)) w3.heap.size 9 (strsV [rs]).toArray := by
      have h := Blk.new (((((w3).setCell ⟨g3, 0, none⟩ (.int .i64 11)).setCell ⟨g3, 1, none⟩ (.slice (some ⟨w3.heap.size, 0, none⟩) 1 1)).setCell ⟨g3, 2, none⟩ (.int .i64 0)).setCell ⟨g3, 3, none⟩ (.slice none 0 0)) 9 #[.string ⟨rs.toArray⟩]
      rw [show (((((w3).setCell ⟨g3, 0, none⟩ (.int .i64 11)).setCell ⟨g3, 1, none⟩ (.slice (some ⟨w3.heap.size, 0, none⟩) 1 1)).setCell ⟨g3, 2, none⟩ (.int .i64 0)).setCell ⟨g3, 3, none⟩ (.slice none 0 0)).heap.size = w3.heap.size by simp] at h
      exact h
     have h4F := (st4_blk (a := .int .i64 11) (b := .slice (some ⟨w3.heap.size, 0, none⟩) 1 1) (c := .int .i64 0) (d := .slice none 0 0) HX.out).alloc (.cells #[.string ⟨rs.toArray⟩] 9)
     have HMF : Hid (Pure w ((((((w3).setCell ⟨g3, 0, none⟩ (.int .i64 11)).setCell ⟨g3, 1, none⟩ (.slice (some ⟨w3.heap.size, 0, none⟩) 1 1)).setCell ⟨g3, 2, none⟩ (.int .i64 0)).setCell ⟨g3, 3, none⟩ (.slice none 0 0)).alloc (.cells #[.string ⟨rs.toArray⟩] 9))) := Lib.hid ((Mod.trans' HPY.out (st4_mod (g := g3)) (fun i hi hlt => by omega)).alloc (.cells #[.string ⟨rs.toArray⟩] 9))
     have HQS : Hid (QS ((((((w3).setCell ⟨g3, 0, none⟩ (.int .i64 11)).setCell ⟨g3, 1, none⟩ (.slice (some ⟨w3.heap.size, 0, none⟩) 1 1)).setCell ⟨g3, 2, none⟩ (.int .i64 0)).setCell ⟨g3, 3, none⟩ (.slice none 0 0)).alloc (.cells #[.string ⟨rs.toArray⟩] 9)) (.mk 11 (some ⟨w3.heap.size, 0, none⟩) 1 [rs] 0 none 0 [])) := Lib.hid (qs_words hsb (by simp))
     have HFC := Lib.hid (HCO.out.trans (if_pos (by first | rfl | trivial | simp)))
     have x0 := h4F.cell 0; have x1 := h4F.cell 1; have x2 := h4F.cell 2; have x3 := h4F.cell 3; simp at x0 x1 x2 x3
     try simp only [Exit.inBlock, Exit.then]
     refine bodyPost_ret (v := .tuple #[.int .i64 3, .agg #[.int .i64 11, .slice (some ⟨w3.heap.size, 0, none⟩) 1 1, .int .i64 0, .slice none 0 0]]) (by simp [results, Tryz.results118, go_sem, x0, x1, x2, x3]) rfl ?_
     exact ⟨.mk 11 (some ⟨w3.heap.size, 0, none⟩) 1 [rs] 0 none 0 [], by rw [HFC.out]; rfl, HQS.out, by rw [HFC.out, QR.key_mk]; rfl, .mk (fun h => absurd rfl h) (fun a ha => by cases ha), HMF.out⟩
    | false =>
     have HX := Lib.hid (H33.out)
     have HPY := Lib.hid (HPV.out)
     have h3x := HX.out
     have y0 := h3x.cell 0; have yf0 := h3x.frozen 0; have y1 := h3x.cell 1; have yf1 := h3x.frozen 1; have y2 := h3x.cell 2; have yf2 := h3x.frozen 2; have y3 := h3x.cell 3; have yf3 := h3x.frozen 3; simp at y0 y1 y2 y3
     clear h3x
     go_wp2_with fail
     clear y0 y1 y2 y3 yf0 yf1 yf2 yf3
     have h4F := st4_blk (a := .int .i64 0) (b := .slice none 0 0) (c := .int .i64 0) (d := .slice none 0 0) HX.out
     have HMF : Hid (Pure w (((((w3).setCell ⟨g3, 0, none⟩ (.int .i64 0)).setCell ⟨g3, 1, none⟩ (.slice none 0 0)).setCell ⟨g3, 2, none⟩ (.int .i64 0)).setCell ⟨g3, 3, none⟩ (.slice none 0 0))) := Lib.hid (Mod.trans' HPY.out (st4_mod (g := g3)) (fun i hi hlt => by omega))
     have HQS : Hid (QS (((((w3).setCell ⟨g3, 0, none⟩ (.int .i64 0)).setCell ⟨g3, 1, none⟩ (.slice none 0 0)).setCell ⟨g3, 2, none⟩ (.int .i64 0)).setCell ⟨g3, 3, none⟩ (.slice none 0 0)) (.mk 0 none 0 [] 0 none 0 [])) := Lib.hid (.mk Sl.nil_ Sl.nil_ (fun a ha => by cases ha))
     have HFC := Lib.hid (HCO.out.trans (if_neg (by first | decide | simp)))
     have x0 := h4F.cell 0; have x1 := h4F.cell 1; have x2 := h4F.cell 2; have x3 := h4F.cell 3; simp at x0 x1 x2 x3
     try simp only [Exit.inBlock, Exit.then]
     refine bodyPost_ret (v := .tuple #[.int .i64 8, .agg #[.int .i64 0, .slice none 0 0, .int .i64 0, .slice none 0 0]]) (by simp [results, Tryz.results118, go_sem, x0, x1, x2, x3]) rfl ?_
     exact ⟨.mk 0 none 0 [] 0 none 0 [], by rw [HFC.out]; rfl, HQS.out, by rw [HFC.out, QR.key_mk]; rfl, .mk (fun h => absurd rfl h) (fun a ha => by cases ha), HMF.out⟩
   have dname : (hd == [110, 97, 109, 101]) = false := by simpa using cname
   by_cases cfrom : hd = [102, 114, 111, 109]
   ·subst cfrom
    have hco := HP2.out.trans (colon_from rs)
    rw [HNQ.out] at hco
    have HCO := Lib.hid hco
    clear hco HP2 HNQ
    cases rt with
    | true =>
     have HX := Lib.hid (H33.out)
     have HPY := Lib.hid (HPV.out)
     have h3x := HX.out
     have y0 := h3x.cell 0; have yf0 := h3x.frozen 0; have y1 := h3x.cell 1; have yf1 := h3x.frozen 1; have y2 := h3x.cell 2; have yf2 := h3x.frozen 2; have y3 := h3x.cell 3; have yf3 := h3x.frozen 3; simp at y0 y1 y2 y3
     clear h3x
     go_wp2_with fail
     clear y0 y1 y2 y3 yf0 yf1 yf2 yf3
     have h4F := st4_blk (a := .int .i64 12) (b := .slice none 0 0) (c := .int .i64 v) (d := .slice none 0 0) HX.out
     have HMF : Hid (Pure w (((((w3).setCell ⟨g3, 0, none⟩ (.int .i64 12)).setCell ⟨g3, 1, none⟩ (.slice none 0 0)).setCell ⟨g3, 2, none⟩ (.int .i64 v)).setCell ⟨g3, 3, none⟩ (.slice none 0 0))) := Lib.hid (Mod.trans' HPY.out (st4_mod (g := g3)) (fun i hi hlt => by omega))
     have HQS : Hid (QS (((((w3).setCell ⟨g3, 0, none⟩ (.int .i64 12)).setCell ⟨g3, 1, none⟩ (.slice none 0 0)).setCell ⟨g3, 2, none⟩ (.int .i64 v)).setCell ⟨g3, 3, none⟩ (.slice none 0 0)) (.mk 12 none 0 [] v none 0 [])) := Lib.hid (.mk Sl.nil_ Sl.nil_ (fun a ha => by cases ha))
     have HFC := Lib.hid ((show pieceQ s = (3, .mk 12 [] v []) from by have h := HCO.out; simpa using h))
     have x0 := h4F.cell 0; have x1 := h4F.cell 1; have x2 := h4F.cell 2; have x3 := h4F.cell 3; simp at x0 x1 x2 x3
     try simp only [Exit.inBlock, Exit.then]
     refine bodyPost_ret (v := .tuple #[.int .i64 3, .agg #[.int .i64 12, .slice none 0 0, .int .i64 v, .slice none 0 0]]) (by simp [results, Tryz.results118, go_sem, x0, x1, x2, x3]) rfl ?_
     exact ⟨.mk 12 none 0 [] v none 0 [], by rw [HFC.out]; rfl, HQS.out, by rw [HFC.out, QR.key_mk]; rfl, .mk (fun h => absurd rfl h) (fun a ha => by cases ha), HMF.out⟩
    | false =>
     have HX := Lib.hid (H33.out)
     have HPY := Lib.hid (HPV.out)
     have h3x := HX.out
     have y0 := h3x.cell 0; have yf0 := h3x.frozen 0; have y1 := h3x.cell 1; have yf1 := h3x.frozen 1; have y2 := h3x.cell 2; have yf2 := h3x.frozen 2; have y3 := h3x.cell 3; have yf3 := h3x.frozen 3; simp at y0 y1 y2 y3
     clear h3x
     go_wp2_with fail
     clear y0 y1 y2 y3 yf0 yf1 yf2 yf3
     have h4F := st4_blk (a := .int .i64 0) (b := .slice none 0 0) (c := .int .i64 0) (d := .slice none 0 0) HX.out
     have HMF : Hid (Pure w (((((w3).setCell ⟨g3, 0, none⟩ (.int .i64 0)).setCell ⟨g3, 1, none⟩ (.slice none 0 0)).setCell ⟨g3, 2, none⟩ (.int .i64 0)).setCell ⟨g3, 3, none⟩ (.slice none 0 0))) := Lib.hid (Mod.trans' HPY.out (st4_mod (g := g3)) (fun i hi hlt => by omega))
     have HQS : Hid (QS (((((w3).setCell ⟨g3, 0, none⟩ (.int .i64 0)).setCell ⟨g3, 1, none⟩ (.slice none 0 0)).setCell ⟨g3, 2, none⟩ (.int .i64 0)).setCell ⟨g3, 3, none⟩ (.slice none 0 0)) (.mk 0 none 0 [] 0 none 0 [])) := Lib.hid (.mk Sl.nil_ Sl.nil_ (fun a ha => by cases ha))
     have HFC := Lib.hid ((show pieceQ s = (8, q0) from by have h := HCO.out; simpa using h))
     have x0 := h4F.cell 0; have x1 := h4F.cell 1; have x2 := h4F.cell 2; have x3 := h4F.cell 3; simp at x0 x1 x2 x3
     try simp only [Exit.inBlock, Exit.then]
     refine bodyPost_ret (v := .tuple #[.int .i64 8, .agg #[.int .i64 0, .slice none 0 0, .int .i64 0, .slice none 0 0]]) (by simp [results, Tryz.results118, go_sem, x0, x1, x2, x3]) rfl ?_
     exact ⟨.mk 0 none 0 [] 0 none 0 [], by rw [HFC.out]; rfl, HQS.out, by rw [HFC.out, QR.key_mk]; rfl, .mk (fun h => absurd rfl h) (fun a ha => by cases ha), HMF.out⟩
   have dfrom : (hd == [102, 114, 111, 109]) = false := by simpa using cfrom
   by_cases cuntil : hd = [117, 110, 116, 105, 108]
   ·subst cuntil
    have hco := HP2.out.trans (colon_until rs)
    rw [HNQ.out] at hco
    have HCO := Lib.hid hco
    clear hco HP2 HNQ
    cases rt with
    | true =>
     have HX := Lib.hid (H33.out)
     have HPY := Lib.hid (HPV.out)
     have h3x := HX.out
     have y0 := h3x.cell 0; have yf0 := h3x.frozen 0; have y1 := h3x.cell 1; have yf1 := h3x.frozen 1; have y2 := h3x.cell 2; have yf2 := h3x.frozen 2; have y3 := h3x.cell 3; have yf3 := h3x.frozen 3; simp at y0 y1 y2 y3
     clear h3x
     go_wp2_with fail
     clear y0 y1 y2 y3 yf0 yf1 yf2 yf3
     have h4F := st4_blk (a := .int .i64 13) (b := .slice none 0 0) (c := .int .i64 v) (d := .slice none 0 0) HX.out
     have HMF : Hid (Pure w (((((w3).setCell ⟨g3, 0, none⟩ (.int .i64 13)).setCell ⟨g3, 1, none⟩ (.slice none 0 0)).setCell ⟨g3, 2, none⟩ (.int .i64 v)).setCell ⟨g3, 3, none⟩ (.slice none 0 0))) := Lib.hid (Mod.trans' HPY.out (st4_mod (g := g3)) (fun i hi hlt => by omega))
     have HQS : Hid (QS (((((w3).setCell ⟨g3, 0, none⟩ (.int .i64 13)).setCell ⟨g3, 1, none⟩ (.slice none 0 0)).setCell ⟨g3, 2, none⟩ (.int .i64 v)).setCell ⟨g3, 3, none⟩ (.slice none 0 0)) (.mk 13 none 0 [] v none 0 [])) := Lib.hid (.mk Sl.nil_ Sl.nil_ (fun a ha => by cases ha))
     have HFC := Lib.hid ((show pieceQ s = (3, .mk 13 [] v []) from by have h := HCO.out; simpa using h))
     have x0 := h4F.cell 0; have x1 := h4F.cell 1; have x2 := h4F.cell 2; have x3 := h4F.cell 3; simp at x0 x1 x2 x3
     try simp only [Exit.inBlock, Exit.then]
     refine bodyPost_ret (v := .tuple #[.int .i64 3, .agg #[.int .i64 13, .slice none 0 0, .int .i64 v, .slice none 0 0]]) (by simp [results, Tryz.results118, go_sem, x0, x1, x2, x3]) rfl ?_
     exact ⟨.mk 13 none 0 [] v none 0 [], by rw [HFC.out]; rfl, HQS.out, by rw [HFC.out, QR.key_mk]; rfl, .mk (fun h => absurd rfl h) (fun a ha => by cases ha), HMF.out⟩
    | false =>
     have HX := Lib.hid (H33.out)
     have HPY := Lib.hid (HPV.out)
     have h3x := HX.out
     have y0 := h3x.cell 0; have yf0 := h3x.frozen 0; have y1 := h3x.cell 1; have yf1 := h3x.frozen 1; have y2 := h3x.cell 2; have yf2 := h3x.frozen 2; have y3 := h3x.cell 3; have yf3 := h3x.frozen 3; simp at y0 y1 y2 y3
     clear h3x
     go_wp2_with fail
     clear y0 y1 y2 y3 yf0 yf1 yf2 yf3
     have h4F := st4_blk (a := .int .i64 0) (b := .slice none 0 0) (c := .int .i64 0) (d := .slice none 0 0) HX.out
     have HMF : Hid (Pure w (((((w3).setCell ⟨g3, 0, none⟩ (.int .i64 0)).setCell ⟨g3, 1, none⟩ (.slice none 0 0)).setCell ⟨g3, 2, none⟩ (.int .i64 0)).setCell ⟨g3, 3, none⟩ (.slice none 0 0))) := Lib.hid (Mod.trans' HPY.out (st4_mod (g := g3)) (fun i hi hlt => by omega))
     have HQS : Hid (QS (((((w3).setCell ⟨g3, 0, none⟩ (.int .i64 0)).setCell ⟨g3, 1, none⟩ (.slice none 0 0)).setCell ⟨g3, 2, none⟩ (.int .i64 0)).setCell ⟨g3, 3, none⟩ (.slice none 0 0)) (.mk 0 none 0 [] 0 none 0 [])) := Lib.hid (.mk Sl.nil_ Sl.nil_ (fun a ha => by cases ha))
     have HFC := Lib.hid ((show pieceQ s = (8, q0) from by have h := HCO.out; simpa using h))
     have x0 := h4F.cell 0; have x1 := h4F.cell 1; have x2 := h4F.cell 2; have x3 := h4F.cell 3; simp at x0 x1 x2 x3
     try simp only [Exit.inBlock, Exit.then]
     refine bodyPost_ret (v := .tuple #[.int .i64 8, .agg #[.int .i64 0, .slice none 0 0, .int .i64 0, .slice none 0 0]]) (by simp [results, Tryz.results118, go_sem, x0, x1, x2, x3]) rfl ?_
     exact ⟨.mk 0 none 0 [] 0 none 0 [], by rw [HFC.out]; rfl, HQS.out, by rw [HFC.out, QR.key_mk]; rfl, .mk (fun h => absurd rfl h) (fun a ha => by cases ha), HMF.out⟩
   have duntil : (hd == [117, 110, 116, 105, 108]) = false := by simpa using cuntil
   by_cases ckind : hd = [107, 105, 110, 100]
   ·subst ckind
    have HCO := Lib.hid (HP2.out.trans (colon_kind rs))
    clear HP2 HNQ
    go_wp2_with fail
    go_loopg [14] 4 (fun gk i wr => ∃ j : Nat, 5 - j = gk ∧ 1 ≤ j ∧ j ≤ 5 ∧ i = .int .i64 (j : Int) ∧ (∀ t : Nat, 1 ≤ t → t < j → kwQ t ≠ rs) ∧ w3 = wr)
    case atStart => exact ⟨1, by omega, by omega, by omega, rfl, fun t h1 h2 => by omega, rfl⟩
    case round =>
     obtain ⟨j, rfl, hj1, hj5, rfl, hno, rfl⟩ := hrel
     have HNO := Lib.hid hno
     clear hno
     by_cases hlt : j < 5
     ·have HKW := Lib.hid (kindWordQ_calls w3 (j : Int))
      go_wp2_with fail
      refine HKW.out.mono ?_
      rintro e w3 ⟨rfl, rfl⟩
      clear HKW
      by_cases heq : kwQ (j : Int) = rs
      ·have hki := knd_at hj1 (by omega) heq
       have hkb : (kwQ (j : Int) == rs) = true := by simpa using heq
       have HFK := Lib.hid (HCO.out.trans (by rw [if_pos (by rw [hki]; omega), hki]))
       clear heq hki
       have HX := Lib.hid (H33.out)
       have HPY := Lib.hid (HPV.out)
       have h3x := HX.out
       have y0 := h3x.cell 0; have yf0 := h3x.frozen 0; have y1 := h3x.cell 1; have yf1 := h3x.frozen 1; have y2 := h3x.cell 2; have yf2 := h3x.frozen 2; have y3 := h3x.cell 3; have yf3 := h3x.frozen 3; simp at y0 y1 y2 y3
       clear h3x
       go_wp2_with fail
       clear y0 y1 y2 y3 yf0 yf1 yf2 yf3
       have h4F := st4_blk (a := .int .i64 10) (b := .slice none 0 0) (c := .int .i64 (j : Int)) (d := .slice none 0 0) HX.out
       have HMF : Hid (Pure w (((((w3).setCell ⟨g3, 0, none⟩ (.int .i64 10)).setCell ⟨g3, 1, none⟩ (.slice none 0 0)).setCell ⟨g3, 2, none⟩ (.int .i64 (j : Int))).setCell ⟨g3, 3, none⟩ (.slice none 0 0))) := Lib.hid (Mod.trans' HPY.out (st4_mod (g := g3)) (fun i hi hlt => by omega))
       have HQS : Hid (QS (((((w3).setCell ⟨g3, 0, none⟩ (.int .i64 10)).setCell ⟨g3, 1, none⟩ (.slice none 0 0)).setCell ⟨g3, 2, none⟩ (.int .i64 (j : Int))).setCell ⟨g3, 3, none⟩ (.slice none 0 0)) (.mk 10 none 0 [] (j : Int) none 0 [])) := Lib.hid (.mk Sl.nil_ Sl.nil_ (fun a ha => by cases ha))
       have HFC := Lib.hid (HFK.out)
       have x0 := h4F.cell 0; have x1 := h4F.cell 1; have x2 := h4F.cell 2; have x3 := h4F.cell 3; simp at x0 x1 x2 x3
       try simp only [Exit.inBlock, Exit.then]
       refine bodyPost_ret (v := .tuple #[.int .i64 3, .agg #[.int .i64 10, .slice none 0 0, .int .i64 (j : Int), .slice none 0 0]]) (by simp [results, Tryz.results118, go_sem, x0, x1, x2, x3]) rfl ?_
       exact ⟨.mk 10 none 0 [] (j : Int) none 0 [], by rw [HFC.out]; rfl, HQS.out, by rw [HFC.out, QR.key_mk]; rfl, .mk (fun h => absurd rfl h) (fun a ha => by cases ha), HMF.out⟩
      ·have hkb : (kwQ (j : Int) == rs) = false := by simpa using heq
       have HN2 : Hid (∀ t : Nat, 1 ≤ t → t < j + 1 → kwQ t ≠ rs) := Lib.hid (by
        intro t h1 h2
        by_cases h : t < j
        ·exact HNO.out t h1 h
        ·have e : t = j := by omega
         rw [e]
         exact heq)
       clear heq
       go_wp2_with fail
       go_roundg (5 - (j + 1))
       case measure => omega
       case rel => exact ⟨j + 1, rfl, by omega, by omega, by simp, HN2.out, rfl⟩
     ·have e5 : j = 5 := by omega
      subst e5
      have HFK := Lib.hid (HCO.out.trans (if_neg (by rw [knd_none HNO.out]; simp)))
      clear HCO
      have HX := Lib.hid (H33.out)
      have HPY := Lib.hid (HPV.out)
      have h3x := HX.out
      have y0 := h3x.cell 0; have yf0 := h3x.frozen 0; have y1 := h3x.cell 1; have yf1 := h3x.frozen 1; have y2 := h3x.cell 2; have yf2 := h3x.frozen 2; have y3 := h3x.cell 3; have yf3 := h3x.frozen 3; simp at y0 y1 y2 y3
      clear h3x
      go_wp2_with fail
      clear y0 y1 y2 y3 yf0 yf1 yf2 yf3
      have h4F := st4_blk (a := .int .i64 0) (b := .slice none 0 0) (c := .int .i64 0) (d := .slice none 0 0) HX.out
      have HMF : Hid (Pure w (((((w3).setCell ⟨g3, 0, none⟩ (.int .i64 0)).setCell ⟨g3, 1, none⟩ (.slice none 0 0)).setCell ⟨g3, 2, none⟩ (.int .i64 0)).setCell ⟨g3, 3, none⟩ (.slice none 0 0))) := Lib.hid (Mod.trans' HPY.out (st4_mod (g := g3)) (fun i hi hlt => by omega))
      have HQS : Hid (QS (((((w3).setCell ⟨g3, 0, none⟩ (.int .i64 0)).setCell ⟨g3, 1, none⟩ (.slice none 0 0)).setCell ⟨g3, 2, none⟩ (.int .i64 0)).setCell ⟨g3, 3, none⟩ (.slice none 0 0)) (.mk 0 none 0 [] 0 none 0 [])) := Lib.hid (.mk Sl.nil_ Sl.nil_ (fun a ha => by cases ha))
      have HFC := Lib.hid (HFK.out)
      have x0 := h4F.cell 0; have x1 := h4F.cell 1; have x2 := h4F.cell 2; have x3 := h4F.cell 3; simp at x0 x1 x2 x3
      try simp only [Exit.inBlock, Exit.then]
      refine bodyPost_ret (v := .tuple #[.int .i64 8, .agg #[.int .i64 0, .slice none 0 0, .int .i64 0, .slice none 0 0]]) (by simp [results, Tryz.results118, go_sem, x0, x1, x2, x3]) rfl ?_
      exact ⟨.mk 0 none 0 [] 0 none 0 [], by rw [HFC.out]; rfl, HQS.out, by rw [HFC.out, QR.key_mk]; rfl, .mk (fun h => absurd rfl h) (fun a ha => by cases ha), HMF.out⟩
   have dkind : (hd == [107, 105, 110, 100]) = false := by simpa using ckind
   have HBAD := Lib.hid (HP2.out.trans (colon_else rs cowner cname cfrom cuntil ckind))
   clear HP2 HNQ cowner cname cfrom cuntil ckind
   have HX := Lib.hid (H33.out)
   have HPY := Lib.hid (HPV.out)
   have h3x := HX.out
   have y0 := h3x.cell 0; have yf0 := h3x.frozen 0; have y1 := h3x.cell 1; have yf1 := h3x.frozen 1; have y2 := h3x.cell 2; have yf2 := h3x.frozen 2; have y3 := h3x.cell 3; have yf3 := h3x.frozen 3; simp at y0 y1 y2 y3
   clear h3x
   go_wp2_with fail
   clear y0 y1 y2 y3 yf0 yf1 yf2 yf3
   have h4F := st4_blk (a := .int .i64 0) (b := .slice none 0 0) (c := .int .i64 0) (d := .slice none 0 0) HX.out
   have HMF : Hid (Pure w (((((w3).setCell ⟨g3, 0, none⟩ (.int .i64 0)).setCell ⟨g3, 1, none⟩ (.slice none 0 0)).setCell ⟨g3, 2, none⟩ (.int .i64 0)).setCell ⟨g3, 3, none⟩ (.slice none 0 0))) := Lib.hid (Mod.trans' HPY.out (st4_mod (g := g3)) (fun i hi hlt => by omega))
   have HQS : Hid (QS (((((w3).setCell ⟨g3, 0, none⟩ (.int .i64 0)).setCell ⟨g3, 1, none⟩ (.slice none 0 0)).setCell ⟨g3, 2, none⟩ (.int .i64 0)).setCell ⟨g3, 3, none⟩ (.slice none 0 0)) (.mk 0 none 0 [] 0 none 0 [])) := Lib.hid (.mk Sl.nil_ Sl.nil_ (fun a ha => by cases ha))
   have HFC := Lib.hid (HBAD.out)
   have x0 := h4F.cell 0; have x1 := h4F.cell 1; have x2 := h4F.cell 2; have x3 := h4F.cell 3; simp at x0 x1 x2 x3
   try simp only [Exit.inBlock, Exit.then]
   refine bodyPost_ret (v := .tuple #[.int .i64 8, .agg #[.int .i64 0, .slice none 0 0, .int .i64 0, .slice none 0 0]]) (by simp [results, Tryz.results118, go_sem, x0, x1, x2, x3]) rfl ?_
   exact ⟨.mk 0 none 0 [] 0 none 0 [], by rw [HFC.out]; rfl, HQS.out, by rw [HFC.out, QR.key_mk]; rfl, .mk (fun h => absurd rfl h) (fun a ha => by cases ha), HMF.out⟩

end Go.Proofs.YtanblgcgbncbpaaGreatDoor

/- The reader of a search's text: how it lies in memory, and what its steps say in plain words. -/
namespace Go.Proofs.YtanblgcgbncbpaaGreatDoor
set_option linter.unusedVariables false
set_option linter.unusedSimpArgs false
open Go.RowKit
/-- The cells of a reader: the text, the place, the token (kind, place, search). -/
def rdC (s : Str) (p : Nat) (kd : Int) (tp : Nat) (q : QR) : Array Value :=
 #[.string ⟨s.toArray⟩, .int .i64 (p : Int), .int .i64 kd, .int .i64 (tp : Int)] ++ (qC q).toArray
theorem skp_blank {s : Str} {a : Nat} (h : a < s.length) (hb : blkC s[a] = true) : skpQ s a = skpQ s (a + 1) := by
 unfold skpQ
 rw [List.drop_eq_getElem_cons h, List.takeWhile_cons_of_pos hb, List.length_cons]
 omega
theorem skp_stop {s : Str} {a : Nat} (h : a < s.length) (hb : blkC s[a] = false) : skpQ s a = a := by
 unfold skpQ
 rw [List.drop_eq_getElem_cons h, List.takeWhile_cons_of_neg (by rw [hb]; simp)]
 rfl
theorem skp_end {s : Str} {a : Nat} (h : s.length ≤ a) : skpQ s a = a := by
 unfold skpQ
 rw [List.drop_eq_nil_of_le h]
 rfl
end Go.Proofs.YtanblgcgbncbpaaGreatDoor

/- What reading a part of a search takes (plain): at least one token. -/
namespace Go.Proofs.YtanblgcgbncbpaaGreatDoor
set_option linter.unusedVariables false
set_option linter.unusedSimpArgs false
open Go.RowKit
theorem kdL_ne {L : List Tk} (h : kdL L ≠ 0) : L.length = L.tail.length + 1 := by
 cases L with
 | nil => exact absurd rfl h
 | cons t l => simp
/-- A part takes at least one token. -/
def LenP (f : List Tk → PR) : Prop := ∀ L q l, f L = .inr (q, l) → l.length + 1 ≤ L.length
theorem closeP_inr {r : PR} {q : Qry} {l : List Tk} (h : closeP r = .inr (q, l)) : ∃ m, r = .inr (q, m) ∧ kdL m = 2 ∧ l = m.tail := by
 cases r with
 | inl m => cases h
 | inr p =>
  obtain ⟨a, m⟩ := p
  unfold closeP at h
  by_cases h2 : kdL m = 2
  ·simp only [h2] at h
   injection h with h
   injection h with h3 h4
   subst h3 h4
   exact ⟨m, rfl, h2, rfl⟩
  ·simp only [h2] at h
   cases h
theorem pPart_len {rec : List Tk → PR} (hr : LenP rec) : LenP (pPart rec) := by
 intro L q l h
 unfold pPart at h
 by_cases h3 : kdL L = 3
 ·rw [if_pos h3] at h
  injection h with h
  injection h with _ h5
  subst h5
  have := kdL_ne (L := L) (by omega)
  omega
 ·rw [if_neg h3] at h
  by_cases h1 : kdL L = 1
  ·rw [if_pos h1] at h
   obtain ⟨m, hm, h2, rfl⟩ := closeP_inr h
   have := hr _ _ _ hm
   have h6 := kdL_ne (L := L) (by omega)
   have h7 := kdL_ne (L := m) (by omega)
   omega
  ·rw [if_neg h1] at h
   cases h
theorem pNearL_len {rec : List Tk → PR} (hr : LenP rec) : ∀ (f : Nat) (a : Qry) (L : List Tk) (q : Qry) (l : List Tk), pNearL rec f a L = .inr (q, l) → l.length ≤ L.length
 | 0, _, _, _, _, h => by cases h
 | f + 1, a, L, q, l, h => by
  unfold pNearL at h
  by_cases h7 : kdL L = 7
  ·rw [if_pos h7] at h
   cases hp : pPart rec L.tail with
   | inl m => rw [hp] at h; cases h
   | inr p =>
    obtain ⟨b, m⟩ := p
    rw [hp] at h
    have h1 := pPart_len hr _ _ _ hp
    have h2 := pNearL_len hr f _ _ _ _ h
    have h6 := kdL_ne (L := L) (by omega)
    omega
  ·rw [if_neg h7] at h
   injection h with h
   injection h with _ h5
   subst h5
   exact Nat.le_refl _
theorem pNear_len {rec : List Tk → PR} (hr : LenP rec) (f : Nat) : LenP (pNear rec f) := by
 intro L q l h
 unfold pNear at h
 cases hp : pPart rec L with
 | inl m => rw [hp] at h; cases h
 | inr p =>
  obtain ⟨b, m⟩ := p
  rw [hp] at h
  have h1 := pPart_len hr _ _ _ hp
  have h2 := pNearL_len hr f _ _ _ _ h
  omega
theorem pNot_len {rec : List Tk → PR} (hr : LenP rec) (f : Nat) : LenP (pNot rec f) := by
 intro L q l h
 unfold pNot at h
 cases hp : pNear rec f (L.drop (notL L)) with
 | inl m => rw [hp] at h; cases h
 | inr p =>
  obtain ⟨b, m⟩ := p
  rw [hp] at h
  injection h with h
  injection h with _ h5
  subst h5
  have h1 := pNear_len hr f _ _ _ hp
  rw [List.length_drop] at h1
  omega
theorem pSevL_len {kind between : Int} {el : List Tk → PR} (h0 : between ≠ 0) (he : LenP el) : ∀ (f : Nat) (a : List Qry) (L : List Tk) (q : Qry) (l : List Tk), pSevL kind between el f a L = .inr (q, l) → l.length ≤ L.length
 | 0, _, _, _, _, h => by cases h
 | f + 1, a, L, q, l, h => by
  unfold pSevL at h
  by_cases h7 : kdL L = between
  ·rw [if_pos h7] at h
   cases hp : el L.tail with
   | inl m => rw [hp] at h; cases h
   | inr p =>
    obtain ⟨b, m⟩ := p
    rw [hp] at h
    have h1 := he _ _ _ hp
    have h2 := pSevL_len h0 he f _ _ _ _ h
    have h6 := kdL_ne (L := L) (by omega)
    omega
  ·rw [if_neg h7] at h
   injection h with h
   injection h with _ h5
   subst h5
   exact Nat.le_refl _
theorem pSev_len {kind between : Int} {el : List Tk → PR} (h0 : between ≠ 0) (he : LenP el) (f : Nat) : LenP (pSev kind between el f) := by
 intro L q l h
 unfold pSev at h
 cases hp : el L with
 | inl m => rw [hp] at h; cases h
 | inr p =>
  obtain ⟨b, m⟩ := p
  rw [hp] at h
  have h1 := he _ _ _ hp
  by_cases h7 : kdL m = between
  ·simp only [h7, if_true] at h
   have h2 := pSevL_len h0 he f _ _ _ _ h
   omega
  ·simp only [h7, if_false] at h
   injection h with h
   injection h with _ h5
   subst h5
   exact h1
theorem pOr_len : ∀ f : Nat, LenP (pOr f)
 | 0 => by intro L q l h; cases h
 | f + 1 => by
  show LenP (pSev 7 5 (pSev 6 4 (pNot (pOr f) f) f) f)
  exact pSev_len (by decide) (pSev_len (by decide) (pNot_len (pOr_len f) f) f) f

end Go.Proofs.YtanblgcgbncbpaaGreatDoor

/- The reader of a search's text: its state, and what stays as it was where searches are gathered. -/
namespace Go.Proofs.YtanblgcgbncbpaaGreatDoor
set_option linter.unusedVariables false
set_option linter.unusedSimpArgs false
open Go.RowKit
theorem stpC_set (c : UInt8) : ([32, 10, 40, 41, 34] : Str).contains c = stpC c := by
 unfold stpC
 rw [Bool.eq_iff_iff]
 simp
theorem wordQ_idx : ∀ t : Str, -1 ≤ Lib.indexAny t [32, 10, 40, 41, 34] ∧ ((wordQ t).length : Int) = if Lib.indexAny t [32, 10, 40, 41, 34] < 0 then (t.length : Int) else Lib.indexAny t [32, 10, 40, 41, 34]
 | [] => ⟨by decide, rfl⟩
 | c :: t => by
  obtain ⟨h0, h⟩ := wordQ_idx t
  unfold Lib.indexAny
  rw [stpC_set]
  unfold wordQ
  rw [List.takeWhile_cons]
  cases hc : stpC c
  ·simp only [Bool.not_false, if_true, List.length_cons, Bool.false_eq_true, if_false]
   change ((wordQ t).length : Int) = _ at h
   rw [show (List.takeWhile (fun d => !stpC d) t) = wordQ t from rfl]
   generalize Lib.indexAny t [32, 10, 40, 41, 34] = n at *
   by_cases hn : n = -1
   ·subst hn
    simp at h ⊢
    omega
   ·have hb : (n == -1) = false := by simpa using hn
    rw [hb]
    simp only [Bool.false_eq_true, if_false]
    rw [if_neg (by omega)] at h ⊢
    omega
  ·simp
theorem wordQ_sub (t : Str) : wordQ t = t.take (wordQ t).length := List.prefix_iff_eq_take.1 (List.takeWhile_prefix _)
theorem piece_args (s : Str) : (pieceQ s).2.args = [] ∧ ((pieceQ s).1 = 7 → (pieceQ s).2.words = []) := by
 unfold pieceQ slashQ colonQ
 repeat' split
 all_goals first | exact ⟨rfl, fun _ => rfl⟩ | exact ⟨rfl, fun h => absurd h (by decide)⟩ | exact ⟨rfl, fun h => by simp at h⟩
theorem phrase_args (s : Str) : (phraseQ s).2.args = [] ∧ (phraseQ s).1 ≠ 7 := by
 unfold phraseQ
 split
 ·exact ⟨rfl, by decide⟩
 ·exact ⟨rfl, show (3 : Int) ≠ 7 by decide⟩
theorem tok_args (s : Str) : (tokQ s).2.1.args = [] ∧ ((tokQ s).1 = 7 → (tokQ s).2.1.words = []) := by
 cases s with
 | nil => exact ⟨rfl, fun h => absurd h (by decide)⟩
 | cons c t =>
  show (tokC c t).2.1.args = [] ∧ ((tokC c t).1 = 7 → (tokC c t).2.1.words = [])
  unfold tokC
  split
  ·exact ⟨rfl, fun h => absurd h (by decide)⟩
  ·split
   ·exact ⟨rfl, fun h => absurd h (by decide)⟩
   ·split
    ·split
     ·exact ⟨rfl, fun h => absurd h (by decide)⟩
     ·rename_i p _
      exact ⟨(phrase_args p.1).1, fun h => absurd h (phrase_args p.1).2⟩
    ·exact piece_args _
/-- What next leads to. -/
def NxP (w : World) (g : Nat) (s : Str) (p : Nat) (e : Ending) (w' : World) : Prop := ∃ qr : QR, e = .returned (.tuple #[]) ∧ Blk w' g 109 (rdC s (nextQ s p).2 (nextQ s p).1.kind (nextQ s p).1.pos qr) ∧ qr.key = (nextQ s p).1.q ∧ QS w' qr ∧ Mod (· = g) w w'
/-- The reader is at a list of tokens: it holds the first, the others are what is read from its place on. -/
def RdrS (w : World) (g : Nat) (s : Str) (L : List Tk) : Prop :=
 ∃ (p : Nat) (qr : QR) (t : Tk) (l : List Tk), L = t :: l ∧ Blk w g 109 (rdC s p t.kind t.pos qr) ∧ p ≤ s.length ∧ QS w qr ∧ qr.key = t.q ∧ t.q.args = [] ∧ (t.kind = 7 → t.q.words = []) ∧ (t.kind ≠ 0 → t.kind ≠ 8 → l = toksQ s p)
def NrP (w : World) (g : Nat) (s : Str) (L : List Tk) (e : Ending) (w' : World) : Prop := e = .returned (.tuple #[]) ∧ RdrS w' g s L ∧ Mod (· = g) w w'
theorem NxP.rds {w : World} {g : Nat} {s : Str} {p : Nat} {e : Ending} {w' : World} (h : NxP w g s p e w') (hp : p ≤ s.length) : NrP w g s (toksQ s p) e w' := by
 obtain ⟨qr, he, hB, hk, hQ, hm⟩ := h
 exact ⟨he, ⟨(nextQ s p).2, qr, (nextQ s p).1, if (nextQ s p).1.kind = 0 ∨ (nextQ s p).1.kind = 8 then [] else toksQ s (nextQ s p).2, by rw [toks_eq s hp]; split <;> rfl, hB, (next_len s hp).1, hQ, hk, (tok_args _).1, (tok_args _).2, fun h1 h2 => if_neg (by simp [h1, h2])⟩, hm⟩
/-- Rows of searches within a search lie in no block of S. -/
inductive QN (S : Nat → Prop) : QR → Prop
 | mk {k : Int} {A : Option Addr} {c : Nat} {ws : List Str} {n : Int} {B : Option Addr} {d : Nat} {xs : List QR} (h : xs ≠ [] → ∀ g off, B = some ⟨g, off, none⟩ → ¬ S g) (hs : ∀ a ∈ xs, QN S a) : QN S (.mk k A c ws n B d xs)
theorem QN.leaf {S : Nat → Prop} {q : QR} (h : q.key.args = []) : QN S q := by
 obtain ⟨k, A, c, ws, n, B, d, xs⟩ := q
 have hx : xs = [] := by
  rw [QR.key_mk] at h
  exact List.map_eq_nil_iff.1 h
 subst hx
 exact .mk (fun h => absurd rfl h) (fun a ha => by cases ha)
theorem QFr.leaf {base : Nat} {q : QR} (h : q.key.args = []) : QFr base q := by
 obtain ⟨k, A, c, ws, n, B, d, xs⟩ := q
 have hx : xs = [] := by
  rw [QR.key_mk] at h
  exact List.map_eq_nil_iff.1 h
 subst hx
 exact .mk (fun h => absurd rfl h) (fun a ha => by cases ha)
theorem QN.old {S : Nat → Prop} {base : Nat} {q : QR} (h : QFr base q) (hS : ∀ k, S k → k < base) : QN S q := by
 induction h with
 | mk hb hs ih =>
  refine .mk (fun hx g off he hg => ?_) ih
  obtain ⟨g', off', he', hle⟩ := hb hx
  rw [he] at he'
  injection he' with he'
  injection he' with he'
  subst he'
  have := hS _ hg
  omega
theorem QN.new {S : Nat → Prop} {w : World} {q : QR} (h : QS w q) (hS : ∀ k, S k → w.heap.size ≤ k) : QN S q := by
 induction h with
 | mk hw ha hs ih =>
  rename_i k A c ws n B d xs
  refine .mk (fun hx g off he hg => ?_) ih
  have hl : 0 < xs.length := by cases xs with | nil => exact absurd rfl hx | cons a t => simp
  obtain ⟨B', n', d', e2, hle, hc, hl2, hr⟩ := ha
  injection e2 with e3 e4 e5
  subst e3 e4 e5
  obtain ⟨g', off', he', hr⟩ := hr hl
  rw [he] at he'
  injection he' with he'
  injection he' with he'
  subst he'
  have h1 := hr.lt
  have h2 := hS _ hg
  omega
theorem QS.modN {w w' : World} {S : Nat → Prop} {q : QR} (h : QS w q) (hn : QN S q) (hm : Mod S w w') (h1 : ∀ g arr fr, w.heap[g]? = some (.cells arr 9 fr) → ¬ S g) : QS w' q := by
 induction h with
 | mk hw ha hs ih =>
  rename_i k A c ws n B d xs
  cases hn with
  | mk hb hx =>
   refine .mk (hw.mod hm h1) ?_ (fun a hm => ih a hm (hx a hm))
   cases xs with
   | nil => exact ⟨B, 0, d, rfl, Nat.zero_le _, by obtain ⟨_, _, _, e2, _, hc, _⟩ := ha; injection e2 with _ _ e5; omega, rfl, fun h => absurd h (by decide)⟩
   | cons x t =>
    obtain ⟨B', n', d', he, hle, hc, hl, hr⟩ := ha
    injection he with e1 e2 e3
    subst e1 e2 e3
    refine ⟨B, _, d, rfl, hle, hc, hl, fun h0 => ?_⟩
    obtain ⟨g, off, hB, hrow⟩ := hr h0
    exact ⟨g, off, hB, hrow.mod hm (hb (by simp) g off hB)⟩
/-- Behind a step of the reader. -/
theorem Sl.rd {w w' : World} {g : Nat} {cs : Array Value} {size : Nat} {v : Value} {xs : List Value} {e : TypeId} (h : Sl w e size v xs) (hB : Blk w g 109 cs) (hm : Mod (· = g) w w') (hne : e ≠ 109) : Sl w' e size v xs :=
 Sl.mod h hm (fun g' arr fr hg he => by
  subst he
  unfold Blk at hB
  rw [hB] at hg
  injection hg with hg
  injection hg with _ hg
  exact hne hg.symm)
theorem QS.rd {w w' : World} {g : Nat} {cs : Array Value} {q : QR} (h : QS w q) (hB : Blk w g 109 cs) (hm : Mod (· = g) w w') : QS w' q := by
 induction h with
 | mk hw ha hs ih => exact .mk (Sl.rd hw hB hm (by decide)) (Sl.rd ha hB hm (by decide)) ih
theorem RdrS.blk {w : World} {g : Nat} {s : Str} {L : List Tk} (h : RdrS w g s L) : ∃ cs, Blk w g 109 cs := by
 obtain ⟨p, qr, t, l, _, h, _⟩ := h
 exact ⟨_, h⟩
theorem RdrS.lt {w : World} {g : Nat} {s : Str} {L : List Tk} (h : RdrS w g s L) : g < w.heap.size := by
 obtain ⟨cs, h⟩ := h.blk
 exact h.lt
/-- Where other blocks than the reader's and those of strings have been written. -/
theorem RdrS.mod {w w' : World} {g : Nat} {s : Str} {L : List Tk} {S : Nat → Prop} (h : RdrS w g s L) (hm : Mod S w w') (hg : ¬ S g) (h1 : ∀ g arr fr, w.heap[g]? = some (.cells arr 9 fr) → ¬ S g) : RdrS w' g s L := by
 obtain ⟨p, qr, t, l, a1, a2, a3, a4, a5, a6, a7, a8⟩ := h
 exact ⟨p, qr, t, l, a1, a2.mod hm hg, a3, a4.modN (QN.leaf (by rw [a5]; exact a6)) hm h1, a5, a6, a7, a8⟩
theorem RdrS.pure {w w' : World} {g : Nat} {s : Str} {L : List Tk} (h : RdrS w g s L) (hm : Pure w w') : RdrS w' g s L := h.mod hm (fun h => h) (fun _ _ _ _ h => h)
/-- What reading a part of a search hands back. -/
def PrP (w : World) (g : Nat) (s : Str) (r : PR) (e : Ending) (w' : World) : Prop := ∃ (qr : QR) (b : Bool) (l : List Tk), e = .returned (.tuple #[qA qr, .bool b]) ∧ RdrS w' g s l ∧ Mod (· = g) w w' ∧ (b = false → r = .inl l) ∧ (b = true → r = .inr (qr.key, l) ∧ QS w' qr ∧ QFr w.heap.size qr)

end Go.Proofs.YtanblgcgbncbpaaGreatDoor

/- A phrase in a search's text: (*reader).phrase. -/
namespace Go.Proofs.YtanblgcgbncbpaaGreatDoor
set_option linter.unusedVariables false
set_option linter.unusedSimpArgs false
open Go.RowKit
def rdK (s : Str) (p kd tp k : Int) (a : Value) (n : Int) (b : Value) : Array Value := #[.string ⟨s.toArray⟩, .int .i64 p, .int .i64 kd, .int .i64 tp, .int .i64 k, a, .int .i64 n, b]
theorem mod_set {a w : World} {g : Nat} (h : Mod (· = g) a w) (i : Nat) (v : Value) : Mod (· = g) a (w.setCell ⟨g, i, none⟩ v) := Mod.setCell (S := fun k => k = g) (p := ⟨g, i, none⟩) h (.inl rfl) v
theorem cutB_quiet (w : World) (s : Str) (c : UInt8) (hM : MlnS w) (hs : s.length ≤ 1000000) : Calls Tryz.prog 152 #[.string ⟨s.toArray⟩, .string ⟨#[c]⟩] w (fun e w' => e = .returned (.tuple #[.string ⟨(headS c s).toArray⟩, .string ⟨(restS c s).toArray⟩, .bool (fstL c s).isSome]) ∧ ∃ n, w' = w.drewN n) := by
 obtain ⟨m, hm⟩ := hM
 refine (Any.strings_Cut Tryz.lays145 ⟨s.toArray⟩ ⟨#[c]⟩ m w (by simp [ByteArray.size]; omega) hm).mono ?_
 rintro e w' ⟨rfl, n, rfl⟩
 refine ⟨?_, n, rfl⟩
 have h := cut_byte c s
 show Ending.returned (.tuple #[.string ⟨(Lib.cut s [c]).1.toArray⟩, .string ⟨(Lib.cut s [c]).2.1.toArray⟩, .bool (Lib.cut s [c]).2.2]) = _
 rw [h]
 unfold headS restS
 cases fstL c s <;> rfl
/-- What a piece of the text leads to: the reader behind it. -/
def TkP (w : World) (g : Nat) (s : Str) (j : Nat) (r : Int × Qry × Nat) (e : Ending) (w' : World) : Prop := ∃ qr : QR, e = .returned (.tuple #[]) ∧ Blk w' g 109 (rdC s (j + r.2.2) r.1 j qr) ∧ qr.key = r.2.1 ∧ QS w' qr ∧ Mod (· = g) w w'
theorem QS.zero {w : World} {k n : Int} : QS w (.mk k none 0 [] n none 0 []) := .mk Sl.nil_ Sl.nil_ (fun a ha => by cases ha)
def neQ (ls : List Str) (k : Nat) : List Str := (ls.take k).filter fun w => !w.isEmpty
theorem neQ_succ {ls : List Str} {k : Nat} (h : k < ls.length) : neQ ls (k + 1) = neQ ls k ++ (if ls[k] = [] then [] else [ls[k]]) := by
 unfold neQ
 rw [List.take_succ_eq_append_getElem h, List.filter_append]
 congr 1
 cases hx : ls[k] with
 | nil => simp
 | cons c t => simp
theorem neQ_len (ls : List Str) (k : Nat) : (neQ ls k).length ≤ k := by
 unfold neQ
 have := List.length_filter_le (fun w : Str => !w.isEmpty) (ls.take k)
 rw [List.length_take] at this
 omega
theorem neQ_mem {ls : List Str} {k : Nat} (h : k < ls.length) (hx : ls[k] ≠ []) : ls[k] ∈ neQ ls ls.length := by
 unfold neQ
 rw [List.take_length]
 refine List.mem_filter.2 ⟨List.getElem_mem h, ?_⟩
 cases he : ls[k] with
 | nil => exact absurd he hx
 | cons c t => rfl
theorem neQ_all (ls : List Str) : neQ ls ls.length = ls.filter fun w => !w.isEmpty := by
 unfold neQ
 rw [List.take_length]
theorem phrase_bad {body x : Str} (hx : x ∈ phrW body) (hp : patB x = false) : phraseQ body = (8, q0) := by
 unfold phraseQ
 rw [if_pos (.inl (List.all_eq_false.2 ⟨x, hx, by rw [hp]; simp⟩))]
theorem phrase_none {body : Str} (hx : phrW body = []) : phraseQ body = (8, q0) := by
 unfold phraseQ
 rw [if_pos (.inr hx)]
theorem phrase_some {body : Str} (hx : phrW body ≠ []) (hp : (phrW body).all patB = true) : phraseQ body = (3, .mk (if (phrW body).length = 1 then 2 else 3) (phrW body) 0 []) := by
 unfold phraseQ
 rw [if_neg]
 rintro (h | h)
 ·rw [hp] at h; cases h
 ·exact hx h
theorem ext_end (s : Str) (a n : Nat) (h : n = s.length) : (⟨s.toArray⟩ : ByteArray).extract a n = ⟨(s.drop a).toArray⟩ := by
 subst h
 rw [ext_sub]
 unfold subS
 rw [List.take_length]
set_option maxRecDepth 100000 in
set_option maxHeartbeats 8000000 in
theorem phraseR_calls (w : World) (g : Nat) (s t : Str) (j : Nat) (hs : s.length ≤ 200000) (hj : j < s.length) (ht : s.drop (j + 1) = t) (hM : ∀ W, Mod (· = g) w W → MlnS W) (hB : Blk w g 109 (rdK s j 0 j 0 (.slice none 0 0) 0 (.slice none 0 0))) :
  Calls Tryz.prog 116 #[.pointer (some ⟨g, 0, none⟩)] w (TkP w g s j (tokC 34 t)) := by
 have hz : (⟨s.toArray⟩ : ByteArray).size = s.length := by simp [ByteArray.size]
 have hB1 := hB.set 2 (.int .i64 8)
 have hm1 : Mod (· = g) w (w.setCell ⟨g, 2, none⟩ (.int .i64 8)) := mod_set (Mod.refl _ _) 2 _
 unfold rdK at hB hB1
 simp at hB1
 have x0 := hB.cell 0; have xf0 := hB.frozen 0; have x1 := hB.cell 1; have xf1 := hB.frozen 1; have x2 := hB.cell 2; have xf2 := hB.frozen 2; have x3 := hB.cell 3; have xf3 := hB.frozen 3; have x4 := hB.cell 4; have xf4 := hB.frozen 4; have x5 := hB.cell 5; have xf5 := hB.frozen 5; have x6 := hB.cell 6; have xf6 := hB.frozen 6; have x7 := hB.cell 7; have xf7 := hB.frozen 7; simp at x0 x1 x2 x3 x4 x5 x6 x7
 have HM := Lib.hid hM
 have HB1 := Lib.hid hB1
 have HM1 := Lib.hid hm1
 clear hM hB hB1 hm1
 obtain ⟨i0, hi0, hz0, hz1, hz2⟩ := info_parts info_strS
 go_enter Tryz.func116, Tryz.ntmps116
 go_upto_region 1 with (fail)
 generalize (w.setCell ⟨g, 2, none⟩ (.int .i64 8)) = w1 at *
 clear x0 x1 x2 x3 x4 x5 x6 x7 xf0 xf1 xf2 xf3 xf4 xf5 xf6 xf7
 have hB1 := HB1.out
 have x0 := hB1.cell 0; have xf0 := hB1.frozen 0; have x1 := hB1.cell 1; have xf1 := hB1.frozen 1; have x2 := hB1.cell 2; have xf2 := hB1.frozen 2; have x3 := hB1.cell 3; have xf3 := hB1.frozen 3; have x4 := hB1.cell 4; have xf4 := hB1.frozen 4; have x5 := hB1.cell 5; have xf5 := hB1.frozen 5; have x6 := hB1.cell 6; have xf6 := hB1.frozen 6; have x7 := hB1.cell 7; have xf7 := hB1.frozen 7; simp at x0 x1 x2 x3 x4 x5 x6 x7
 clear hB1
 have hw1 : IntKind.i64.wrap ((j : Int) + 1) = (j : Int) + 1 := IntWalk.i64_in _ (by omega)
 have hext : (⟨s.toArray⟩ : ByteArray).extract (j + 1) s.length = ⟨t.toArray⟩ := by rw [ext_end s (j + 1) _ rfl, ht]
 have htl : t.length + (j + 1) = s.length := by rw [← ht, List.length_drop]; omega
 have HC := Lib.hid (fun n => cutB_quiet (w1.drewN n) t 34 (HM.out _ (HM1.out.drewN n)) (by omega))
 go_quiet (exact Calls.quiet_of (HC.out _))
 have HB2 := Lib.hid (HB1.out.drewN nq)
 have HM2 := Lib.hid (HM1.out.drewN nq)
 clear x0 x1 x2 x3 x4 x5 x6 x7 xf0 xf1 xf2 xf3 xf4 xf5 xf6 xf7 HB1 HM1 HC
 generalize w1.drewN nq = w2 at *
 cases hf : fstL 34 t with
 | none =>
  have HT : Hid (tokC 34 t = (8, q0, 0)) := Lib.hid (by unfold tokC; rw [hf]; rfl)
  clear hf
  go_wp2_with fail
  go_end0
  exact ⟨.mk 0 none 0 [] 0 none 0 [], rfl, by rw [HT.out]; exact HB2.out, by rw [HT.out, QR.key_mk]; rfl, QS.zero, HM2.out⟩
 | some p =>
  have hpl := fstL_le hf
  have hh : headS 34 t = p.1 := by unfold headS; rw [hf]
  have HT : Hid (tokC 34 t = ((phraseQ p.1).1, (phraseQ p.1).2, p.1.length + 2)) := Lib.hid (by unfold tokC; rw [hf]; rfl)
  rw [hh]
  clear hf hh
  generalize restS 34 t = t2
  have hzp : (⟨p.1.toArray⟩ : ByteArray).size = p.1.length := by simp [ByteArray.size]
  have hB2 := HB2.out
  have x0 := hB2.cell 0; have xf0 := hB2.frozen 0; have x1 := hB2.cell 1; have xf1 := hB2.frozen 1; have x2 := hB2.cell 2; have xf2 := hB2.frozen 2; have x3 := hB2.cell 3; have xf3 := hB2.frozen 3; have x4 := hB2.cell 4; have xf4 := hB2.frozen 4; have x5 := hB2.cell 5; have xf5 := hB2.frozen 5; have x6 := hB2.cell 6; have xf6 := hB2.frozen 6; have x7 := hB2.cell 7; have xf7 := hB2.frozen 7; simp at x0 x1 x2 x3 x4 x5 x6 x7
  have HB3 := Lib.hid (hB2.set 1 (.int .i64 ((j : Int) + ((p.1.length : Int) + 2))))
  have HM3 := Lib.hid (mod_set HM2.out 1 (.int .i64 ((j : Int) + ((p.1.length : Int) + 2))))
  clear hB2
  go_upto_region 4 with (fail)
  generalize (w2.setCell ⟨g, 1, none⟩ (.int .i64 ((j : Int) + ((p.1.length : Int) + 2)))) = w3 at *
  clear x0 x1 x2 x3 x4 x5 x6 x7 xf0 xf1 xf2 xf3 xf4 xf5 xf6 xf7 HB2 HM2
  have HL := Lib.hid (lowerQ_calls w3 p.1 (by omega))
  generalize hb : p.1 = body at *
  go_wp2_with fail
  refine HL.out.mono ?_
  rintro e w4 ⟨rfl, hm4⟩
  have HB4 := Lib.hid (HB3.out.modp hm4)
  have HM4 := Lib.hid (HM3.out.trans (Mod.of_pure hm4))
  have hll : (lowS body).length = body.length := by simp [lowS]
  have HS := Lib.hid (split_calls w4 (lowS body) [32] (HM.out _ HM4.out) (by omega) (by decide))
  rw [split_byte] at HS
  have HLN : Hid (∀ x ∈ spl 32 (lowS body), x.length ≤ 200000) := Lib.hid (fun x hx => by have := spl_len hx; omega)
  have hct := spl_count 32 (lowS body)
  have HPH : Hid (phrW body = (spl 32 (lowS body)).filter fun w => !w.isEmpty) := Lib.hid rfl
  clear hm4 HB3 HM3 HL
  generalize spl 32 (lowS body) = ls at *
  go_wp2_with fail
  refine HS.out.mono ?_
  rintro e wB ⟨rfl, rfl⟩
  have HSB := Lib.hid (Blk.new w4 9 (strsV ls).toArray)
  have HB5 := Lib.hid (HB4.out.alloc (.cells (strsV ls).toArray 9))
  have HM5 := Lib.hid (HM4.out.alloc (.cells (strsV ls).toArray 9))
  have hg5 : g < w4.heap.size := HB4.out.lt
  clear HB4 HM4 HS
  generalize (w4.alloc (.cells (strsV ls).toArray 9)) = wB at *
  generalize hgs : w4.heap.size = gs at *
  clear hgs
  have hsz5 := Nat.le_refl wB.heap.size
  go_wp2_with fail
  go_loopg [5, 43] ls.length (fun gk l i wr => ∃ (k : Nat) (A : Option Addr) (c : Nat), ls.length - k = gk ∧ k ≤ ls.length ∧ i = .int .i64 (k : Int) ∧ l = .slice A (neQ ls k).length c ∧ wr.ownsRow wB.heap.size 9 1 (.slice A (neQ ls k).length c) (neQ ls k).length (strsV (neQ ls k)) ∧ (neQ ls k).all patB = true ∧ Pure wB wr)
  case atStart => exact ⟨0, none, 0, by omega, by omega, rfl, rfl, ⟨by simp [strsV, neQ], .inl ⟨rfl, rfl⟩⟩, rfl, Mod.refl _ _⟩
  case round =>
   obtain ⟨k, A, c, rfl, hk, rfl, rfl, hown, hall, hm⟩ := hrel
   have HOW := Lib.hid hown
   have HAL := Lib.hid hall
   have HMR := Lib.hid hm
   have hnl := neQ_len ls k
   clear hown hall hm
   by_cases hlt : k < ls.length
   ·have q0 := (HSB.out.modp HMR.out).row0.cell (strsV_get ls k hlt)
    rw [Nat.zero_add] at q0
    have HNS := Lib.hid (neQ_succ hlt)
    have hxl := HLN.out _ (List.getElem_mem hlt)
    have HNM := Lib.hid (fun h => neQ_mem hlt h)
    by_cases he : ls[k] = []
    ·have HN2 : Hid (neQ ls (k + 1) = neQ ls k) := Lib.hid (by rw [HNS.out, if_pos he, List.append_nil])
     rw [he] at q0
     go_wp2_with fail
     go_roundg (ls.length - (k + 1))
     case measure => omega
     case rel => exact ⟨k + 1, A, c, rfl, hlt, by simp, by rw [HN2.out], by rw [HN2.out]; exact HOW.out, by rw [HN2.out]; exact HAL.out, HMR.out⟩
    ·have hxe : (ls[k] == ([] : Str)) = false := by simpa using he
     have HN2 : Hid (neQ ls (k + 1) = neQ ls k ++ [ls[k]]) := Lib.hid (by rw [HNS.out, if_neg he])
     have HNM2 := Lib.hid (HNM.out he)
     have HIP := Lib.hid (isPattern_calls wr ls[k] (by omega))
     clear HNS HNM he
     generalize ls[k] = x at *
     go_wp2_with fail
     refine HIP.out.mono ?_
     rintro e w6 ⟨rfl, rfl⟩
     cases hpx : patB x
     ·go_wp2_with fail
      go_end0
      have HPQ := phrase_bad (by rw [HPH.out, ← neQ_all]; exact HNM2.out) hpx
      have hB9 := HB5.out.modp HMR.out
      refine ⟨.mk 0 none 0 [] 0 none 0 [], rfl, ?_, by rw [HT.out, HPQ, QR.key_mk]; rfl, QS.zero, HM5.out.trans (Mod.of_pure HMR.out)⟩
      rw [HT.out, HPQ]
      have e : ((j + (body.length + 2) : Nat) : Int) = (j : Int) + ((body.length : Int) + 2) := by omega
      show Blk wr g _ (rdC s (j + (body.length + 2)) 8 j _)
      unfold rdC
      rw [e]
      exact hB9
     ·have hmr := HMR.out
      have hown := HOW.out
      have hown0 := HOW.out
      have hbs := hmr.size
      go_wp2_with ((at_builtin; refine wpList_append_lies _ rfl _ _ _ rfl wB.heap.size 9 i0 _ 1 16 Tryz.underlying41 hi0 hz0 hz1 hz2 rfl (by omega) (.slice A (neQ ls k).length c) (neQ ls k).length (strsV (neQ ls k)) rfl (hown.alloc _) ⟨wr.heap.size, 0, none⟩ 1 1 [.string ⟨x.toArray⟩] rfl rfl (World.news_of_block (cs := #[.string ⟨x.toArray⟩]) (t := 9) (fr := (0, 0)) (heap_alloc_new wr _)) (by simp [Value.oneCell']) (by omega) (by simp [maxLen]; omega) (by omega) (by have := hmr.size; simp; omega) (wr.heap.size + 1) (by simp) ?_; intro g5 cap5 w5 hown5 hgrow hat hlt5))
      go_roundg (ls.length - (k + 1))
      case measure => omega
      case rel =>
       refine ⟨k + 1, some ⟨g5, 0, none⟩, cap5, rfl, hlt, by simp, by rw [HN2.out]; simp, ?_, by rw [HN2.out, List.all_append, HAL.out]; simp [hpx], ((HMR.out.alloc _).grown hgrow (fun j hj => .inr (own_block hown0 j hj)))⟩
       rw [HN2.out]
       simpa [strsV] using hown5
   ·obtain rfl : k = ls.length := by omega
    rw [neQ_all] at HOW HAL hnl ⊢
    rw [← HPH.out] at HOW HAL hnl ⊢
    have HPQ : Hid (phrW body = [] → phraseQ body = (8, q0)) := Lib.hid phrase_none
    have HPS : Hid (phrW body ≠ [] → phraseQ body = (3, .mk (if (phrW body).length = 1 then 2 else 3) (phrW body) 0 [])) := Lib.hid (fun h => phrase_some h HAL.out)
    have HM9 := Lib.hid (HM5.out.trans (Mod.of_pure HMR.out))
    have HB9 := Lib.hid (HB5.out.modp HMR.out)
    clear HPH HAL HM5 HB5 HSB HMR
    generalize phrW body = L at *
    by_cases hL : L = []
    ·have HQ := Lib.hid (HPQ.out hL)
     subst hL
     go_wp2_with fail
     go_end0
     have e : ((j + (body.length + 2) : Nat) : Int) = (j : Int) + ((body.length : Int) + 2) := by omega
     refine ⟨.mk 0 none 0 [] 0 none 0 [], rfl, ?_, by rw [HT.out, HQ.out, QR.key_mk]; rfl, QS.zero, HM9.out⟩
     rw [HT.out, HQ.out]
     show Blk wr g _ (rdC s (j + (body.length + 2)) 8 j _)
     unfold rdC
     rw [e]
     exact HB9.out
    ·have HQ := Lib.hid (HPS.out hL)
     have hl0 : 0 < L.length := List.length_pos_iff.2 hL
     have hl1 : ((L.length : Int) == 0) = false := by rw [← Bool.not_eq_true, beq_iff_eq]; omega
     have hB9 := HB9.out
     have x0 := hB9.cell 0; have xf0 := hB9.frozen 0; have x1 := hB9.cell 1; have xf1 := hB9.frozen 1; have x2 := hB9.cell 2; have xf2 := hB9.frozen 2; have x3 := hB9.cell 3; have xf3 := hB9.frozen 3; have x4 := hB9.cell 4; have xf4 := hB9.frozen 4; have x5 := hB9.cell 5; have xf5 := hB9.frozen 5; have x6 := hB9.cell 6; have xf6 := hB9.frozen 6; have x7 := hB9.cell 7; have xf7 := hB9.frozen 7; simp at x0 x1 x2 x3 x4 x5 x6 x7
     have HBW := Lib.hid (((((hB9.set 2 (.int .i64 3)).set 4 (.int .i64 3)).set 5 (.slice A L.length c)).set 6 (.int .i64 0)).set 7 (.slice none 0 0))
     have HMW0 := Lib.hid (mod_set (mod_set (mod_set (mod_set (mod_set (Mod.refl (· = g) wr) 2 (.int .i64 3)) 4 (.int .i64 3)) 5 (.slice A L.length c)) 6 (.int .i64 0)) 7 (.slice none 0 0))
     clear HPQ HPS hL hB9
     go_upto_region 15 with (fail)
     generalize (((((wr.setCell ⟨g, 2, none⟩ (.int .i64 3)).setCell ⟨g, 4, none⟩ (.int .i64 3)).setCell ⟨g, 5, none⟩ (.slice A L.length c)).setCell ⟨g, 6, none⟩ (.int .i64 0)).setCell ⟨g, 7, none⟩ (.slice none 0 0)) = w7 at *
     clear x0 x1 x2 x3 x4 x5 x6 x7 xf0 xf1 xf2 xf3 xf4 xf5 xf6 xf7
     have HSL := Lib.hid ((Sl.of_own HOW.out).rd HB9.out HMW0.out (by decide))
     have HMW := Lib.hid (HM9.out.trans HMW0.out)
     have e : ((j + (body.length + 2) : Nat) : Int) = (j : Int) + ((body.length : Int) + 2) := by omega
     have hBW := HBW.out
     simp at hBW
     have HB8 := Lib.hid hBW
     have x0 := hBW.cell 0; have xf0 := hBW.frozen 0; have x1 := hBW.cell 1; have xf1 := hBW.frozen 1; have x2 := hBW.cell 2; have xf2 := hBW.frozen 2; have x3 := hBW.cell 3; have xf3 := hBW.frozen 3; have x4 := hBW.cell 4; have xf4 := hBW.frozen 4; have x5 := hBW.cell 5; have xf5 := hBW.frozen 5; have x6 := hBW.cell 6; have xf6 := hBW.frozen 6; have x7 := hBW.cell 7; have xf7 := hBW.frozen 7; simp at x0 x1 x2 x3 x4 x5 x6 x7
     clear hBW HBW HB9 HM9 HMW0 HOW
     by_cases h1 : L.length = 1
     ·have h1i : ((L.length : Int) == 1) = true := by rw [beq_iff_eq]; omega
      have HK : Hid ((if L.length = 1 then 2 else 3 : Int) = 2) := Lib.hid (if_pos h1)
      clear h1
      go_wp2_with fail
      go_end0
      refine ⟨.mk 2 A c L 0 none 0 [], rfl, ?_, by rw [HT.out, HQ.out, QR.key_mk, HK.out]; rfl, .mk (HSL.out.rd HB8.out (mod_set (Mod.refl _ _) 4 _) (by decide)) Sl.nil_ (fun a ha => by cases ha), mod_set HMW.out 4 _⟩
      rw [HT.out, HQ.out]
      show Blk _ g _ (rdC s (j + (body.length + 2)) 3 j _)
      have h9 := HB8.out.set 4 (.int .i64 2)
      unfold rdC
      rw [e]
      simpa [qC] using h9
     ·have h1i : ((L.length : Int) == 1) = false := by rw [← Bool.not_eq_true, beq_iff_eq]; omega
      have HK : Hid ((if L.length = 1 then 2 else 3 : Int) = 3) := Lib.hid (if_neg h1)
      clear h1
      go_wp2_with fail
      go_end0
      refine ⟨.mk 3 A c L 0 none 0 [], rfl, ?_, by rw [HT.out, HQ.out, QR.key_mk, HK.out]; rfl, .mk HSL.out Sl.nil_ (fun a ha => by cases ha), HMW.out⟩
      rw [HT.out, HQ.out]
      show Blk _ g _ (rdC s (j + (body.length + 2)) 3 j _)
      unfold rdC
      rw [e]
      simpa [qC] using HB8.out

end Go.Proofs.YtanblgcgbncbpaaGreatDoor

/- The next token of a search's text: (*reader).next. -/
namespace Go.Proofs.YtanblgcgbncbpaaGreatDoor
set_option linter.unusedVariables false
set_option linter.unusedSimpArgs false
open Go.RowKit
/-- strings.IndexAny of the rest of a text, for the bytes that end a piece. -/
def IxA (g : Nat) (w : World) (s : Str) : Prop := ∀ (W : World) (a : Nat), Mod (· = g) w W → a ≤ s.length → Calls Tryz.prog 117 #[.string ⟨(s.drop a).toArray⟩, .string ⟨#[32, 10, 40, 41, 34]⟩] W (fun e w' => e = .returned (.int .i64 (Lib.indexAny (s.drop a) [32, 10, 40, 41, 34])) ∧ Pure W w')
def CellQ (Z : World) (g i : Nat) (v : Value) : Prop := Z.cell? ⟨g, i, none⟩ = some v
theorem CellQ.pure {Z Z' : World} {g i : Nat} {v : Value} (h : CellQ Z g i v) (hm : Pure Z Z') : CellQ Z' g i v := keepp h hm
theorem CellQ.set {Z : World} {g i j : Nat} {v u : Value} {t : TypeId} {cs : Array Value} (h : CellQ Z g i v) (hB : Blk Z g t cs) (hij : j ≠ i) : CellQ (Z.setCell ⟨g, j, none⟩ u) g i v := by
 unfold CellQ at *
 rw [Blk.cell hB] at h
 rw [Blk.cell (Blk.set hB j u), Array.getElem?_setIfInBounds_ne hij]
 exact h
/-- Four cells that hold a search. -/
def C4 (Z : World) (g : Nat) (q : QR) : Prop := ∀ i, i < 4 → Z.cell? ⟨g, 4 + i, none⟩ = (qC q)[i]?
theorem C4.pure {Z Z' : World} {g : Nat} {q : QR} (h : C4 Z g q) (hm : Pure Z Z') : C4 Z' g q := by
 intro i hi
 have h1 := h i hi
 have hl : i < (qC q).length := by rw [qC_len]; exact hi
 rw [List.getElem?_eq_getElem hl] at h1 ⊢
 exact keepp h1 hm
theorem C4.set {Z : World} {g j : Nat} {q : QR} {u : Value} {t : TypeId} {cs : Array Value} (h : C4 Z g q) (hB : Blk Z g t cs) (hij : j < 4) : C4 (Z.setCell ⟨g, j, none⟩ u) g q := by
 intro i hi
 rw [← h i hi, Blk.cell hB, Blk.cell (Blk.set hB j u), Array.getElem?_setIfInBounds_ne (by omega)]
theorem c4_new {Z : World} {g : Nat} {t : TypeId} {s0 s1 s2 s3 c4 c5 c6 c7 : Value} {q : QR} {a b c d : Value} (hB : Blk Z g t #[s0, s1, s2, s3, c4, c5, c6, c7]) (hq : qC q = [a, b, c, d]) : C4 ((((Z.setCell ⟨g, 4, none⟩ a).setCell ⟨g, 5, none⟩ b).setCell ⟨g, 6, none⟩ c).setCell ⟨g, 7, none⟩ d) g q := by
 have h := (((hB.set 4 a).set 5 b).set 6 c).set 7 d
 intro i hi
 rw [Blk.cell h, hq]
 match i, hi with
 | 0, _ => rfl
 | 1, _ => rfl
 | 2, _ => rfl
 | 3, _ => rfl
theorem cq_st4 {Z : World} {g : Nat} {t : TypeId} {s0 s1 s2 s3 c4 c5 c6 c7 : Value} {a b c d v : Value} (hB : Blk Z g t #[s0, s1, s2, s3, c4, c5, c6, c7]) (h : CellQ Z g 2 v) : CellQ ((((Z.setCell ⟨g, 4, none⟩ a).setCell ⟨g, 5, none⟩ b).setCell ⟨g, 6, none⟩ c).setCell ⟨g, 7, none⟩ d) g 2 v :=
 (((h.set hB (by decide)).set (hB.set 4 a) (by decide)).set ((hB.set 4 a).set 5 b) (by decide)).set (((hB.set 4 a).set 5 b).set 6 c) (by decide)
/-- What the cells of a reader are, where some of them are known one by one. -/
theorem rd_cells {Z : World} {g : Nat} {s : Str} {j : Nat} {kd : Int} {c2 c4 c5 c6 c7 : Value} {q : QR} (hB : Blk Z g 109 #[.string ⟨s.toArray⟩, .int .i64 (j : Int), c2, .int .i64 (j : Int), c4, c5, c6, c7]) (h2 : CellQ Z g 2 (.int .i64 kd)) (h4 : C4 Z g q) : Blk Z g 109 (rdC s j kd j q) := by
 have e2 : c2 = .int .i64 kd := by unfold CellQ at h2; rw [Blk.cell hB] at h2; simpa using h2
 have q4 := h4 0 (by decide)
 have q5 := h4 1 (by decide)
 have q6 := h4 2 (by decide)
 have q7 := h4 3 (by decide)
 rw [Blk.cell hB] at q4 q5 q6 q7
 obtain ⟨k, A, c, ws, n, B, d, xs⟩ := q
 simp [qC] at q4 q5 q6 q7
 subst e2 q4 q5 q6 q7
 exact hB
theorem rd_zero {w : World} {g : Nat} {s : Str} {p kd tp k n : Int} {a b : Value} {j : Int} (h : Blk w g 109 (rdK s p kd tp k a n b)) : Blk ((((((w.setCell ⟨g, 2, none⟩ (.int .i64 0)).setCell ⟨g, 3, none⟩ (.int .i64 j)).setCell ⟨g, 4, none⟩ (.int .i64 0)).setCell ⟨g, 5, none⟩ (.slice none 0 0)).setCell ⟨g, 6, none⟩ (.int .i64 0)).setCell ⟨g, 7, none⟩ (.slice none 0 0)) g 109 (rdK s p 0 j 0 (.slice none 0 0) 0 (.slice none 0 0)) := by
 have h1 := (((((h.set 2 (.int .i64 0)).set 3 (.int .i64 j)).set 4 (.int .i64 0)).set 5 (.slice none 0 0)).set 6 (.int .i64 0)).set 7 (.slice none 0 0)
 simpa [rdK] using h1
theorem rd_zmod {a w : World} {g : Nat} {j : Int} (h : Mod (· = g) a w) : Mod (· = g) a ((((((w.setCell ⟨g, 2, none⟩ (.int .i64 0)).setCell ⟨g, 3, none⟩ (.int .i64 j)).setCell ⟨g, 4, none⟩ (.int .i64 0)).setCell ⟨g, 5, none⟩ (.slice none 0 0)).setCell ⟨g, 6, none⟩ (.int .i64 0)).setCell ⟨g, 7, none⟩ (.slice none 0 0)) :=
 mod_set (mod_set (mod_set (mod_set (mod_set (mod_set h 2 _) 3 _) 4 _) 5 _) 6 _) 7 _
theorem TkP.nx {w W w' : World} {g : Nat} {s : Str} {p j : Nat} {e : Ending} (h : TkP W g s j (tokQ (s.drop j)) e w') (hm : Mod (· = g) w W) (hj : skpQ s p = j) : NxP w g s p e w' := by
 obtain ⟨qr, h1, h2, h3, h4, h5⟩ := h
 subst hj
 exact ⟨qr, h1, h2, h3, h4, hm.trans h5⟩
set_option maxRecDepth 100000 in
set_option maxHeartbeats 8000000 in
theorem nextR_calls (w : World) (s : Str) (p : Nat) (kd tp k n : Int) (a b : Value) (g : Nat) (hs : s.length ≤ 200000) (hp : p ≤ s.length) (hM : ∀ W, Mod (· = g) w W → MlnS W) (hI : IxA g w s) (hB : Blk w g 109 (rdK s p kd tp k a n b)) : Calls Tryz.prog 79 #[.pointer (some ⟨g, 0, none⟩)] w (NxP w g s p) := by
 have hz : (⟨s.toArray⟩ : ByteArray).size = s.length := by simp [ByteArray.size]
 have HB := Lib.hid hB
 have HML := Lib.hid hM
 have HI := Lib.hid hI
 clear hB hM hI
 go_enter Tryz.func79, Tryz.ntmps79
 go_wp2_with fail
 go_loopg [] (s.length - p) (fun gk wr => ∃ j : Nat, s.length - j = gk ∧ j ≤ s.length ∧ skpQ s j = skpQ s p ∧ Blk wr g 109 (rdK s j kd tp k a n b) ∧ Mod (· = g) w wr)
 case atStart => exact ⟨p, by omega, hp, rfl, HB.out, Mod.refl _ _⟩
 case round =>
  obtain ⟨j, rfl, hj, hsk, hbj, hm⟩ := hrel
  have HSK := Lib.hid hsk
  have HM := Lib.hid hm
  have HBJ := Lib.hid hbj
  unfold rdK at hbj
  have x0 := hbj.cell 0; have xf0 := hbj.frozen 0; have x1 := hbj.cell 1; have xf1 := hbj.frozen 1; have x2 := hbj.cell 2; have xf2 := hbj.frozen 2; have x3 := hbj.cell 3; have xf3 := hbj.frozen 3; have x4 := hbj.cell 4; have xf4 := hbj.frozen 4; have x5 := hbj.cell 5; have xf5 := hbj.frozen 5; have x6 := hbj.cell 6; have xf6 := hbj.frozen 6; have x7 := hbj.cell 7; have xf7 := hbj.frozen 7; simp at x0 x1 x2 x3 x4 x5 x6 x7
  clear hsk hm hbj
  by_cases hlt : j < s.length
  ·have hix : (⟨s.toArray⟩ : ByteArray)[j]'(by rw [hz]; exact hlt) = s[j] := rfl
   by_cases h32 : s[j].toNat = 32
   ·have h32i : ((s[j].toNat : Int) == 32) = true := by simp; omega
    have e32 : s[j] = 32 := UInt8.toNat_inj.mp (by rw [h32]; rfl)
    have HS : Hid (skpQ s (j + 1) = skpQ s p) := Lib.hid ((skp_blank hlt (by unfold blkC; rw [e32]; rfl)).symm.trans HSK.out)
    go_upto_region 0 with (fail)
    go_quiet (fail)
    go_wp2_with fail
    go_roundg (s.length - (j + 1))
    case measure => omega
    case rel => exact ⟨j + 1, rfl, by omega, HS.out, by have h := (show Blk (wr.drewN nq) g 109 (rdK s j kd tp k a n b) from HBJ.out).set 1 (.int .i64 ((j : Int) + 1)); simpa [rdK] using h, (HM.out.drewN nq).setCell (p := ⟨g, 1, none⟩) (.inl rfl) _⟩
   ·have h32i : ((s[j].toNat : Int) == 32) = false := by simp; omega
    by_cases h10 : s[j].toNat = 10
    ·have h10i : ((s[j].toNat : Int) == 10) = true := by simp; omega
     have e10 : s[j] = 10 := UInt8.toNat_inj.mp (by rw [h10]; rfl)
     have HS : Hid (skpQ s (j + 1) = skpQ s p) := Lib.hid ((skp_blank hlt (by unfold blkC; rw [e10]; rfl)).symm.trans HSK.out)
     go_upto_region 0 with (fail)
     go_quiet (fail)
     go_wp2_with fail
     go_roundg (s.length - (j + 1))
     case measure => omega
     case rel => exact ⟨j + 1, rfl, by omega, HS.out, by have h := (show Blk (wr.drewN nq) g 109 (rdK s j kd tp k a n b) from HBJ.out).set 1 (.int .i64 ((j : Int) + 1)); simpa [rdK] using h, (HM.out.drewN nq).setCell (p := ⟨g, 1, none⟩) (.inl rfl) _⟩
    ·have h10i : ((s[j].toNat : Int) == 10) = false := by simp; omega
     have hdr : s.drop j = s[j] :: s.drop (j + 1) := List.drop_eq_getElem_cons hlt
     have HJ : Hid (skpQ s p = j) := Lib.hid (by rw [← HSK.out]; exact skp_stop hlt (by unfold blkC; simp; exact ⟨fun h => h32 (by rw [h]; rfl), fun h => h10 (by rw [h]; rfl)⟩))
     go_upto_region 0 with (fail)
     go_quiet (fail)
     go_upto_region 3 with (fail)
     have HBZ := Lib.hid (rd_zero (j := (j : Int)) (HBJ.out.drewN nq))
     have HMZ := Lib.hid (rd_zmod (j := (j : Int)) (HM.out.drewN nq))
     clear x0 x1 x2 x3 x4 x5 x6 x7 xf0 xf1 xf2 xf3 xf4 xf5 xf6 xf7 HBJ HM HSK
     generalize ((((((( wr.drewN nq).setCell ⟨g, 2, none⟩ (.int .i64 0)).setCell ⟨g, 3, none⟩ (.int .i64 (j : Int))).setCell ⟨g, 4, none⟩ (.int .i64 0)).setCell ⟨g, 5, none⟩ (.slice none 0 0)).setCell ⟨g, 6, none⟩ (.int .i64 0)).setCell ⟨g, 7, none⟩ (.slice none 0 0)) = w1 at *
     have hB1 := HBZ.out
     unfold rdK at hB1
     have x0 := hB1.cell 0; have xf0 := hB1.frozen 0; have x1 := hB1.cell 1; have xf1 := hB1.frozen 1; have x2 := hB1.cell 2; have xf2 := hB1.frozen 2; have x3 := hB1.cell 3; have xf3 := hB1.frozen 3; have x4 := hB1.cell 4; have xf4 := hB1.frozen 4; have x5 := hB1.cell 5; have xf5 := hB1.frozen 5; have x6 := hB1.cell 6; have xf6 := hB1.frozen 6; have x7 := hB1.cell 7; have xf7 := hB1.frozen 7; simp at x0 x1 x2 x3 x4 x5 x6 x7
     clear hB1
     go_quiet (fail)
     have HBB := Lib.hid (HBZ.out.drewN nq)
     have HMB := Lib.hid (HMZ.out.drewN nq)
     clear x0 x1 x2 x3 x4 x5 x6 x7 xf0 xf1 xf2 xf3 xf4 xf5 xf6 xf7 HBZ HMZ
     generalize w1.drewN nq = w2 at *
     have hB2 := HBB.out
     unfold rdK at hB2
     have x0 := hB2.cell 0; have xf0 := hB2.frozen 0; have x1 := hB2.cell 1; have xf1 := hB2.frozen 1; have x2 := hB2.cell 2; have xf2 := hB2.frozen 2; have x3 := hB2.cell 3; have xf3 := hB2.frozen 3; have x4 := hB2.cell 4; have xf4 := hB2.frozen 4; have x5 := hB2.cell 5; have xf5 := hB2.frozen 5; have x6 := hB2.cell 6; have xf6 := hB2.frozen 6; have x7 := hB2.cell 7; have xf7 := hB2.frozen 7; simp at x0 x1 x2 x3 x4 x5 x6 x7
     clear hB2
     go_upto_region 4 with (fail)
     go_quiet (fail)
     have HBC := Lib.hid (HBB.out.drewN nq)
     have HMC := Lib.hid (HMB.out.drewN nq)
     clear x0 x1 x2 x3 x4 x5 x6 x7 xf0 xf1 xf2 xf3 xf4 xf5 xf6 xf7 HBB HMB
     generalize w2.drewN nq = w3 at *
     have hB3 := HBC.out
     unfold rdK at hB3
     have x0 := hB3.cell 0; have xf0 := hB3.frozen 0; have x1 := hB3.cell 1; have xf1 := hB3.frozen 1; have x2 := hB3.cell 2; have xf2 := hB3.frozen 2; have x3 := hB3.cell 3; have xf3 := hB3.frozen 3; have x4 := hB3.cell 4; have xf4 := hB3.frozen 4; have x5 := hB3.cell 5; have xf5 := hB3.frozen 5; have x6 := hB3.cell 6; have xf6 := hB3.frozen 6; have x7 := hB3.cell 7; have xf7 := hB3.frozen 7; simp at x0 x1 x2 x3 x4 x5 x6 x7
     clear hB3
     by_cases h40 : s[j].toNat = 40
     ·have h40i : ((s[j].toNat : Int) == 40) = true := by simp; omega
      have e40 : s[j] = 40 := UInt8.toNat_inj.mp (by rw [h40]; rfl)
      have HT : Hid (tokQ (s.drop j) = (1, q0, 1)) := Lib.hid (by rw [hdr, e40]; rfl)
      have HBF := Lib.hid ((HBC.out.set 2 (.int .i64 1)).set 1 (.int .i64 ((j : Int) + 1)))
      have HMF := Lib.hid (mod_set (mod_set (Mod.refl (· = g) w3) 2 (.int .i64 1)) 1 (.int .i64 ((j : Int) + 1)))
      clear h32i h10i hdr
      go_wp2_with fail
      go_end0
      exact TkP.nx (W := w3) (j := j) ⟨.mk 0 none 0 [] 0 none 0 [], rfl, by rw [HT.out]; exact HBF.out, by rw [HT.out, QR.key_mk]; rfl, QS.zero, HMF.out⟩ HMC.out HJ.out
     have h40i : ((s[j].toNat : Int) == 40) = false := by simp; omega
     by_cases h41 : s[j].toNat = 41
     ·have h41i : ((s[j].toNat : Int) == 41) = true := by simp; omega
      have e41 : s[j] = 41 := UInt8.toNat_inj.mp (by rw [h41]; rfl)
      have HT : Hid (tokQ (s.drop j) = (2, q0, 1)) := Lib.hid (by rw [hdr, e41]; rfl)
      have HBF := Lib.hid ((HBC.out.set 2 (.int .i64 2)).set 1 (.int .i64 ((j : Int) + 1)))
      have HMF := Lib.hid (mod_set (mod_set (Mod.refl (· = g) w3) 2 (.int .i64 2)) 1 (.int .i64 ((j : Int) + 1)))
      clear h32i h10i hdr
      go_wp2_with fail
      go_end0
      exact TkP.nx (W := w3) (j := j) ⟨.mk 0 none 0 [] 0 none 0 [], rfl, by rw [HT.out]; exact HBF.out, by rw [HT.out, QR.key_mk]; rfl, QS.zero, HMF.out⟩ HMC.out HJ.out
     have h41i : ((s[j].toNat : Int) == 41) = false := by simp; omega
     by_cases h34 : s[j].toNat = 34
     ·have h34i : ((s[j].toNat : Int) == 34) = true := by simp; omega
      have e34 : s[j] = 34 := UInt8.toNat_inj.mp (by rw [h34]; rfl)
      have HPH := Lib.hid (phraseR_calls w3 g s (s.drop (j + 1)) j hs hlt rfl (fun W hW => HML.out W (HMC.out.trans hW)) HBC.out)
      have HT : Hid (tokQ (s.drop j) = tokC 34 (s.drop (j + 1))) := Lib.hid (by rw [hdr, e34]; rfl)
      clear h32i h10i hdr
      go_wp2_with fail
      refine HPH.out.mono ?_
      intro e w4 h
      have hx := TkP.nx (by rw [HT.out]; exact h) HMC.out HJ.out
      obtain ⟨qr, rfl, hrest⟩ := h
      go_wp2_with fail
      go_end0
      exact hx
     have h34i : ((s[j].toNat : Int) == 34) = false := by simp; omega
     go_upto_region 5 with (fail)
     have HTW : Hid (tokQ (s.drop j) = ((pieceQ (lowS (wordQ (s.drop j)))).1, (pieceQ (lowS (wordQ (s.drop j)))).2, (wordQ (s.drop j)).length)) := Lib.hid (by
      rw [hdr]
      show tokC s[j] (s.drop (j + 1)) = _
      unfold tokC
      rw [if_neg (fun e => h40 (by rw [e]; rfl)), if_neg (fun e => h41 (by rw [e]; rfl)), if_neg (fun e => h34 (by rw [e]; rfl))])
     have HWL : Hid (wordQ (s.drop j) = (s.drop j).take (wordQ (s.drop j)).length) := Lib.hid (wordQ_sub _)
     clear hdr hix h32 h10 h40 h41 h34 h32i h10i h40i h41i h34i x0 x1 x2 x3 x4 x5 x6 x7 xf0 xf1 xf2 xf3 xf4 xf5 xf6 xf7
     have hext : (⟨s.toArray⟩ : ByteArray).extract j s.length = ⟨(s.drop j).toArray⟩ := ext_end s j _ rfl
     have HIX := Lib.hid (fun W (hW : Mod (· = g) w3 W) => HI.out W j (HMC.out.trans hW) hj)
     have HWI : Hid (-1 ≤ Lib.indexAny (s.drop j) [32, 10, 40, 41, 34] ∧ ((wordQ (s.drop j)).length : Int) = if Lib.indexAny (s.drop j) [32, 10, 40, 41, 34] < 0 then (s.length : Int) - (j : Int) else Lib.indexAny (s.drop j) [32, 10, 40, 41, 34]) := Lib.hid (by
      obtain ⟨h1, h2⟩ := wordQ_idx (s.drop j)
      refine ⟨h1, ?_⟩
      rw [h2, List.length_drop]
      split <;> omega)
     generalize Lib.indexAny (s.drop j) [32, 10, 40, 41, 34] = z at *
     have HGs := Lib.hid (show ∀ (D : Nat → Bool) (zzi : Nat) (zq zq' : World), (fun _ zq => (fun Z => Blk Z g 109 #[.string ⟨s.toArray⟩, .int .i64 (j : Int), .int .i64 0, .int .i64 (j : Int), .int .i64 0, .slice none 0 0, .int .i64 0, .slice none 0 0]) zq) D zq → Mod (fun _ => False) zq zq' → (fun _ zq => (fun Z => Blk Z g 109 #[.string ⟨s.toArray⟩, .int .i64 (j : Int), .int .i64 0, .int .i64 (j : Int), .int .i64 0, .slice none 0 0, .int .i64 0, .slice none 0 0]) zq) (upd D zzi true) zq' from by intro D zzi zq zq' h hm; (exact h.modp hm))
     refine wp_region_inv (by kernel_rfl) (by kernel_rfl) (InvF (R := Mod (fun _ => False)) [.is (.pointer (some ⟨g, 0, none⟩)),
       .is (.pointer (some ⟨g, 0, none⟩)),
       .is (.pointer (some ⟨g, 0, none⟩)),
       .is (.string ⟨s.toArray⟩),
       .is (.pointer (some ⟨g, 0, none⟩)),
       .is (.pointer (some ⟨g, 0, none⟩)),
       .is (.pointer (some ⟨g, 1, none⟩)),
       .is (.int .i64 (j : Int)),
       .is (.string ⟨(s.drop j).toArray⟩),
       .is (.int .i64 z),
       .is (.int .i64 z)]
       (PB w3 (fun _ => False) w3.heap.size (fun _ zq => (fun Z => Blk Z g 109 #[.string ⟨s.toArray⟩, .int .i64 (j : Int), .int .i64 0, .int .i64 (j : Int), .int .i64 0, .slice none 0 0, .int .i64 0, .slice none 0 0]) zq))) (InvF.start (PB.start (Mod.refl _ _) (Nat.le_refl _) (HBC.out))) ?_ ?_
     ·refine .cons ?_ (.cons ?_ (.cons ?_ (.cons ?_ (.cons ?_ (.cons ?_ (.cons ?_ (.cons ?_ (.cons ?_ (.cons ?_ (.cons ?_ .nil))))))))))
      ·intro D V zw1 a hR hI K hK
       obtain ⟨hM1, hB1, hG1⟩ := hI.1
       have ze0 := hR.frame.other (t := 0) (by kernel_rfl) rfl
       rw [if_pos (by rfl)]
       go_simp
       exact hK (.pointer (some ⟨g, 0, none⟩)) _ (hI.next hR (by kernel_rfl) (Mod.refl _ _) (PB.quiet hI.1 (Mod.refl _ _) (HGs.out D 0 zw1 zw1 (hI.1).g (Mod.refl _ _))) (upd_same V 0 _))
      ·intro D V zw1 a hR hI K hK
       obtain ⟨hM1, hB1, hG1⟩ := hI.1
       have zd0 := hR.pred 0 (by kernel_rfl)
       have zF0 : V 0 = .pointer (some ⟨g, 0, none⟩) := hI.2 0 zd0 rfl
       have zf0 := zF0; clear zF0
       have ze71 := hR.frame.done (t := 71) (j := 0) (by kernel_rfl) hR.ok zd0
       rw [if_pos (by rfl)]
       go_simp
       exact hK (.pointer (some ⟨g, 0, none⟩)) _ (hI.next hR (by kernel_rfl) (Mod.refl _ _) (PB.quiet hI.1 (Mod.refl _ _) (HGs.out D 1 zw1 zw1 (hI.1).g (Mod.refl _ _))) (upd_same V 1 _))
      ·intro D V zw1 a hR hI K hK
       obtain ⟨hM1, hB1, hG1⟩ := hI.1
       have zd1 := hR.pred 1 (by kernel_rfl)
       have zF1 : V 1 = .pointer (some ⟨g, 0, none⟩) := hI.2 1 zd1 rfl
       have zf1 := zF1; clear zF1
       have ze72 := hR.frame.done (t := 72) (j := 1) (by kernel_rfl) hR.ok zd1
       rw [if_pos (by rfl)]
       go_simp
       exact hK (.pointer (some ⟨g, 0, none⟩)) _ (hI.next hR (by kernel_rfl) (Mod.refl _ _) (PB.quiet hI.1 (Mod.refl _ _) (HGs.out D 2 zw1 zw1 (hI.1).g (Mod.refl _ _))) (upd_same V 2 _))
      ·intro D V zw1 a hR hI K hK
       obtain ⟨hM1, hB1, hG1⟩ := hI.1
       have zd2 := hR.pred 2 (by kernel_rfl)
       have zF2 : V 2 = .pointer (some ⟨g, 0, none⟩) := hI.2 2 zd2 rfl
       have zf2 := zF2; clear zF2
       have ze73 := hR.frame.done (t := 73) (j := 2) (by kernel_rfl) hR.ok zd2
       have zx0 := (hG1).cell 0; have zy0 := (hG1).frozen 0; simp at zx0
       rw [if_pos (by rfl)]
       go_simp
       exact hK (.string ⟨s.toArray⟩) _ (hI.next hR (by kernel_rfl) (Mod.refl _ _) (PB.quiet hI.1 (Mod.refl _ _) (HGs.out D 3 zw1 zw1 (hI.1).g (Mod.refl _ _))) (upd_same V 3 _))
      ·intro D V zw1 a hR hI K hK
       obtain ⟨hM1, hB1, hG1⟩ := hI.1
       have ze0 := hR.frame.other (t := 0) (by kernel_rfl) rfl
       rw [if_pos (by rfl)]
       go_simp
       exact hK (.pointer (some ⟨g, 0, none⟩)) _ (hI.next hR (by kernel_rfl) (Mod.refl _ _) (PB.quiet hI.1 (Mod.refl _ _) (HGs.out D 4 zw1 zw1 (hI.1).g (Mod.refl _ _))) (upd_same V 4 _))
      ·intro D V zw1 a hR hI K hK
       obtain ⟨hM1, hB1, hG1⟩ := hI.1
       have zd4 := hR.pred 4 (by kernel_rfl)
       have zF4 : V 4 = .pointer (some ⟨g, 0, none⟩) := hI.2 4 zd4 rfl
       have zf4 := zF4; clear zF4
       have ze75 := hR.frame.done (t := 75) (j := 4) (by kernel_rfl) hR.ok zd4
       rw [if_pos (by rfl)]
       go_simp
       exact hK (.pointer (some ⟨g, 0, none⟩)) _ (hI.next hR (by kernel_rfl) (Mod.refl _ _) (PB.quiet hI.1 (Mod.refl _ _) (HGs.out D 5 zw1 zw1 (hI.1).g (Mod.refl _ _))) (upd_same V 5 _))
      ·intro D V zw1 a hR hI K hK
       obtain ⟨hM1, hB1, hG1⟩ := hI.1
       have zd5 := hR.pred 5 (by kernel_rfl)
       have zF5 : V 5 = .pointer (some ⟨g, 0, none⟩) := hI.2 5 zd5 rfl
       have zf5 := zF5; clear zF5
       have ze76 := hR.frame.done (t := 76) (j := 5) (by kernel_rfl) hR.ok zd5
       rw [if_pos (by rfl)]
       go_simp
       exact hK (.pointer (some ⟨g, 1, none⟩)) _ (hI.next hR (by kernel_rfl) (Mod.refl _ _) (PB.quiet hI.1 (Mod.refl _ _) (HGs.out D 6 zw1 zw1 (hI.1).g (Mod.refl _ _))) (upd_same V 6 _))
      ·intro D V zw1 a hR hI K hK
       obtain ⟨hM1, hB1, hG1⟩ := hI.1
       have zd6 := hR.pred 6 (by kernel_rfl)
       have zF6 : V 6 = .pointer (some ⟨g, 1, none⟩) := hI.2 6 zd6 rfl
       have zf6 := zF6; clear zF6
       have ze77 := hR.frame.done (t := 77) (j := 6) (by kernel_rfl) hR.ok zd6
       have zx1 := (hG1).cell 1; have zy1 := (hG1).frozen 1; simp at zx1
       rw [if_pos (by rfl)]
       go_simp
       exact hK (.int .i64 (j : Int)) _ (hI.next hR (by kernel_rfl) (Mod.refl _ _) (PB.quiet hI.1 (Mod.refl _ _) (HGs.out D 7 zw1 zw1 (hI.1).g (Mod.refl _ _))) (upd_same V 7 _))
      ·intro D V zw1 a hR hI K hK
       obtain ⟨hM1, hB1, hG1⟩ := hI.1
       have zd3 := hR.pred 3 (by kernel_rfl)
       have zF3 : V 3 = .string ⟨s.toArray⟩ := hI.2 3 zd3 rfl
       have zf3 := zF3; clear zF3
       have zd7 := hR.pred 7 (by kernel_rfl)
       have zF7 : V 7 = .int .i64 (j : Int) := hI.2 7 zd7 rfl
       have zf7 := zF7; clear zF7
       have ze74 := hR.frame.done (t := 74) (j := 3) (by kernel_rfl) hR.ok zd3
       have ze78 := hR.frame.done (t := 78) (j := 7) (by kernel_rfl) hR.ok zd7
       rw [if_pos (by rfl)]
       go_simp
       exact hK (.string ⟨(s.drop j).toArray⟩) _ (hI.next hR (by kernel_rfl) (Mod.refl _ _) (PB.quiet hI.1 (Mod.refl _ _) (HGs.out D 8 zw1 zw1 (hI.1).g (Mod.refl _ _))) (upd_same V 8 _))
      ·intro D V zw1 a hR hI K hK
       obtain ⟨hM1, hB1, hG1⟩ := hI.1
       have zd8 := hR.pred 8 (by kernel_rfl)
       have zF8 : V 8 = .string ⟨(s.drop j).toArray⟩ := hI.2 8 zd8 rfl
       have zf8 := zF8; clear zF8
       have ze79 := hR.frame.done (t := 79) (j := 8) (by kernel_rfl) hR.ok zd8
       rw [if_pos (by rfl)]
       go_simp
       refine (HIX.out zw1 (Mod.of_pure hM1)).mono ?_
       rintro e zw2 ⟨rfl, hm2⟩
       exact hK (.int .i64 z) _ (hI.next hR (by kernel_rfl) hm2 (PB.quiet hI.1 hm2 (HGs.out D 9 _ _ (hI.1).g hm2)) (upd_same V 9 _))
      ·intro D V zw1 a hR hI K hK
       obtain ⟨hM1, hB1, hG1⟩ := hI.1
       have zd9 := hR.pred 9 (by kernel_rfl)
       have zF9 : V 9 = .int .i64 z := hI.2 9 zd9 rfl
       have zf9 := zF9; clear zF9
       have ze80 := hR.frame.done (t := 80) (j := 9) (by kernel_rfl) hR.ok zd9
       rw [if_pos (by rfl)]
       go_simp
       exact hK (.int .i64 z) _ (hI.next hR (by kernel_rfl) (Mod.refl _ _) (PB.quiet hI.1 (Mod.refl _ _) (HGs.out D 10 zw1 zw1 (hI.1).g (Mod.refl _ _))) (upd_same V 10 _))
     ·intro D V w4 hD hI
      obtain ⟨hM1, hB1, hG1⟩ := hI.1
      have hMx := hM1
      clear hM1
      have hBx := hB1
      clear hB1
      have hGx := hG1
      clear hG1
      have zF0 : V 0 = .pointer (some ⟨g, 0, none⟩) := hI.2 0 (hD 0 (by decide)) rfl
      have zf0 := zF0; clear zF0
      have zF1 : V 1 = .pointer (some ⟨g, 0, none⟩) := hI.2 1 (hD 1 (by decide)) rfl
      have zf1 := zF1; clear zF1
      have zF2 : V 2 = .pointer (some ⟨g, 0, none⟩) := hI.2 2 (hD 2 (by decide)) rfl
      have zf2 := zF2; clear zF2
      have zF3 : V 3 = .string ⟨s.toArray⟩ := hI.2 3 (hD 3 (by decide)) rfl
      have zf3 := zF3; clear zF3
      have zF4 : V 4 = .pointer (some ⟨g, 0, none⟩) := hI.2 4 (hD 4 (by decide)) rfl
      have zf4 := zF4; clear zF4
      have zF5 : V 5 = .pointer (some ⟨g, 0, none⟩) := hI.2 5 (hD 5 (by decide)) rfl
      have zf5 := zF5; clear zF5
      have zF6 : V 6 = .pointer (some ⟨g, 1, none⟩) := hI.2 6 (hD 6 (by decide)) rfl
      have zf6 := zF6; clear zF6
      have zF7 : V 7 = .int .i64 (j : Int) := hI.2 7 (hD 7 (by decide)) rfl
      have zf7 := zF7; clear zF7
      have zF8 : V 8 = .string ⟨(s.drop j).toArray⟩ := hI.2 8 (hD 8 (by decide)) rfl
      have zf8 := zF8; clear zF8
      have zF9 : V 9 = .int .i64 z := hI.2 9 (hD 9 (by decide)) rfl
      have zf9 := zF9; clear zF9
      have zF10 : V 10 = .int .i64 z := hI.2 10 (hD 10 (by decide)) rfl
      have zf10 := zF10; clear zF10
      clear hI hD HGs
      simp only [frAll, Act.put, List.setIfInBounds_toArray, List.set_cons_zero, List.set_cons_succ, Nat.zero_add, Nat.reduceAdd, zf0, zf1, zf2, zf3, zf4, zf5, zf6, zf7, zf8, zf9, zf10]
      clear zf0 zf1 zf2 zf3 zf4 zf5 zf6 zf7 zf8 zf9 zf10
      clear V D
      have HBD := Lib.hid hGx
      have HMD := Lib.hid (HMC.out.trans (Mod.of_pure hMx))
      clear hGx hMx HBC HMC HIX hext
      obtain ⟨N, hN⟩ : ∃ N, (wordQ (s.drop j)).length = N := ⟨_, rfl⟩
      rw [hN] at HWI HTW HWL
      have hNl : j + N ≤ s.length := by
       have h := word_le (s.drop j)
       rw [hN, List.length_drop] at h
       omega
      clear hN
      have hB4 := HBD.out
      have x0 := hB4.cell 0; have xf0 := hB4.frozen 0; have x1 := hB4.cell 1; have xf1 := hB4.frozen 1; have x2 := hB4.cell 2; have xf2 := hB4.frozen 2; have x3 := hB4.cell 3; have xf3 := hB4.frozen 3; have x4 := hB4.cell 4; have xf4 := hB4.frozen 4; have x5 := hB4.cell 5; have xf5 := hB4.frozen 5; have x6 := hB4.cell 6; have xf6 := hB4.frozen 6; have x7 := hB4.cell 7; have xf7 := hB4.frozen 7; simp at x0 x1 x2 x3 x4 x5 x6 x7
      clear hB4
      go_upto_if 82 with (fail)
      go_cut [2] (fun q wx => q = .int .i64 (N : Int) ∧ Pure w4 wx)
      case first =>
       by_cases hz0 : z < 0
       ·have HN2 : Hid ((N : Int) = (s.length : Int) - (j : Int)) := Lib.hid (by have := HWI.out.2; rw [if_pos hz0] at this; exact this)
        have hsz : 0 ≤ (s.length : Int) - (j : Int) := by omega
        go_upto_region 7 with (fail)
        have hw1 : IntKind.i64.wrap ((s.length : Int) - (j : Int)) = (s.length : Int) - (j : Int) := IntWalk.i64_in _ (by omega)
        go_quiet (fail)
        go_wp2_with fail
        go_meet
        exact ⟨by rw [HN2.out], (Mod.refl _ _).drewN _⟩
       ·have HN2 : Hid ((N : Int) = z) := Lib.hid (by have := HWI.out.2; rw [if_neg hz0] at this; exact this)
        go_wp2_with fail
        go_meet
        exact ⟨by rw [HN2.out], Mod.refl _ _⟩
      case rest =>
       obtain ⟨rfl, hm5⟩ := hcut
       have HB5 := Lib.hid (HBD.out.modp hm5)
       have HM5 := Lib.hid (HMD.out.trans (Mod.of_pure hm5))
       clear hm5 HBD HMD HWI x0 x1 x2 x3 x4 x5 x6 x7 xf0 xf1 xf2 xf3 xf4 xf5 xf6 xf7
       generalize wc = w5 at *
       have hadd : IntKind.i64.wrap ((j : Int) + (N : Int)) = (j : Int) + (N : Int) := IntWalk.i64_in _ (by omega)
       have hsub : (⟨s.toArray⟩ : ByteArray).extract j (j + N) = ⟨(wordQ (s.drop j)).toArray⟩ := by
        rw [ext_sub]
        unfold subS
        rw [HWL.out, List.drop_take]
        congr 3
        omega
       have htl : (wordQ (s.drop j)).length ≤ 200000 := by
        have h := word_le (s.drop j)
        rw [List.length_drop] at h
        omega
       have hpl : (lowS (wordQ (s.drop j))).length ≤ 200000 := by simpa [lowS] using htl
       have HTX : Hid (tokQ (s.drop j) = ((pieceQ (lowS (wordQ (s.drop j)))).1, (pieceQ (lowS (wordQ (s.drop j)))).2, N)) := HTW
       have HLO := Lib.hid (fun W => lowerQ_calls W (wordQ (s.drop j)) (by omega))
       clear HTW HWL
       generalize wordQ (s.drop j) = tx at *
       generalize lowS tx = ps at *
       have HPC := Lib.hid (fun W hW => piece_calls W ps (by omega) hW)
       go_upto_region 8 with (fail)
       have HGs := Lib.hid (show ∀ (D : Nat → Bool) (zzi : Nat) (zq zq' : World), (fun _ zq => (fun Z => ∃ (c2 c4 c5 c6 c7 : Value), Blk Z g 109 #[.string ⟨s.toArray⟩, .int .i64 (j : Int), c2, .int .i64 (j : Int), c4, c5, c6, c7]) zq) D zq → Mod (fun _ => False) zq zq' → (fun _ zq => (fun Z => ∃ (c2 c4 c5 c6 c7 : Value), Blk Z g 109 #[.string ⟨s.toArray⟩, .int .i64 (j : Int), c2, .int .i64 (j : Int), c4, c5, c6, c7]) zq) (upd D zzi true) zq' from by intro D zzi zq zq' h hm; (obtain ⟨c2, c4, c5, c6, c7, h⟩ := h; exact ⟨c2, c4, c5, c6, c7, h.modp hm⟩))
       refine wp_region_inv (by kernel_rfl) (by kernel_rfl) (InvF (R := Mod (fun _ => False)) [.is (.pointer (some ⟨g, 0, none⟩)),
         .is (.pointer (some ⟨g, 0, none⟩)),
         .is (.pointer (some ⟨g, 0, none⟩)),
         .is (.pointer (some ⟨g, 0, none⟩)),
         .is (.pointer (some ⟨g, 0, none⟩)),
         .is (.string ⟨s.toArray⟩),
         .is (.pointer (some ⟨g, 0, none⟩)),
         .is (.pointer (some ⟨g, 0, none⟩)),
         .is (.pointer (some ⟨g, 1, none⟩)),
         .is (.int .i64 (j : Int)),
         .is (.pointer (some ⟨g, 0, none⟩)),
         .is (.pointer (some ⟨g, 0, none⟩)),
         .is (.pointer (some ⟨g, 1, none⟩)),
         .is (.int .i64 (j : Int)),
         .is (.int .i64 (N : Int)),
         .is (.int .i64 ((j : Int) + (N : Int))),
         .is (.string ⟨tx.toArray⟩),
         .is (.string ⟨ps.toArray⟩),
         ⟨fun zv zw => ∃ (q_18 : QR), zv = .tuple #[.int .i64 (pieceQ ps).1, qA q_18] ∧ q_18.key = (pieceQ ps).2 ∧ QS zw q_18, (by rintro zv zw zx ⟨q_18, rfl, c0, q0⟩ hm; exact ⟨q_18, rfl, c0, (q0.pure hm)⟩), none, none⟩,
         ⟨fun zv zw => ∃ (q_19 : QR), zv = .tuple #[.int .i64 (pieceQ ps).1, qA q_19] ∧ q_19.key = (pieceQ ps).2 ∧ QS zw q_19, (by rintro zv zw zx ⟨q_19, rfl, c0, q0⟩ hm; exact ⟨q_19, rfl, c0, (q0.pure hm)⟩), none, none⟩,
         .is (.int .i64 (pieceQ ps).1),
         ⟨fun zv zw => ∃ (q_21 : QR), zv = qA q_21 ∧ q_21.key = (pieceQ ps).2 ∧ QS zw q_21, (by rintro zv zw zx ⟨q_21, rfl, c0, q0⟩ hm; exact ⟨q_21, rfl, c0, (q0.pure hm)⟩), none, none⟩,
         .is (.pointer (some ⟨g, 0, none⟩)),
         .is (.pointer (some ⟨g, 2, none⟩)),
         .is (.pointer (some ⟨g, 2, none⟩)),
         ⟨fun zv zw => zv = undef ∧ CellQ zw g 2 (.int .i64 (pieceQ ps).1), (by rintro zv zw zx ⟨rfl, q0⟩ hm; exact ⟨rfl, (q0.pure hm)⟩), none, none⟩,
         .is (.pointer (some ⟨g, 0, none⟩)),
         .is (.pointer (some ⟨g, 2, none⟩)),
         .is (.pointer (some ⟨g, 4, none⟩)),
         ⟨fun zv zw => ∃ (q_29 : QR), zv = undef ∧ q_29.key = (pieceQ ps).2 ∧ QS zw q_29 ∧ C4 zw g q_29, (by rintro zv zw zx ⟨q_29, rfl, c0, q0, q1⟩ hm; exact ⟨q_29, rfl, c0, (q0.pure hm), (q1.pure hm)⟩), none, none⟩]
         (PB w5 (· = g) w5.heap.size (fun _ zq => (fun Z => ∃ (c2 c4 c5 c6 c7 : Value), Blk Z g 109 #[.string ⟨s.toArray⟩, .int .i64 (j : Int), c2, .int .i64 (j : Int), c4, c5, c6, c7]) zq))) (InvF.start (PB.start (Mod.refl _ _) (Nat.le_refl _) (⟨_, _, _, _, _, HB5.out⟩))) ?_ ?_
       ·refine .cons ?_ (.cons ?_ (.cons ?_ (.cons ?_ (.cons ?_ (.cons ?_ (.cons ?_ (.cons ?_ (.cons ?_ (.cons ?_ (.cons ?_ (.cons ?_ (.cons ?_ (.cons ?_ (.cons ?_ (.cons ?_ (.cons ?_ (.cons ?_ (.cons ?_ (.cons ?_ (.cons ?_ (.cons ?_ (.cons ?_ (.cons ?_ (.cons ?_ (.cons ?_ (.cons ?_ (.cons ?_ (.cons ?_ (.cons ?_ .nil)))))))))))))))))))))))))))))
        ·intro D V zw1 a hR hI K hK
         obtain ⟨hM1, hB1, hG1⟩ := hI.1
         obtain ⟨c2, c4, c5, c6, c7, hG1d⟩ := hG1
         have ze0 := hR.frame.other (t := 0) (by kernel_rfl) rfl
         rw [if_pos (by rfl)]
         go_simp
         exact hK (.pointer (some ⟨g, 0, none⟩)) _ (hI.next hR (by kernel_rfl) (Mod.refl _ _) (PB.quiet hI.1 (Mod.refl _ _) (HGs.out D 0 zw1 zw1 (hI.1).g (Mod.refl _ _))) (upd_same V 0 _))
        ·intro D V zw1 a hR hI K hK
         obtain ⟨hM1, hB1, hG1⟩ := hI.1
         obtain ⟨c2, c4, c5, c6, c7, hG1d⟩ := hG1
         have ze0 := hR.frame.other (t := 0) (by kernel_rfl) rfl
         rw [if_pos (by rfl)]
         go_simp
         exact hK (.pointer (some ⟨g, 0, none⟩)) _ (hI.next hR (by kernel_rfl) (Mod.refl _ _) (PB.quiet hI.1 (Mod.refl _ _) (HGs.out D 1 zw1 zw1 (hI.1).g (Mod.refl _ _))) (upd_same V 1 _))
        ·intro D V zw1 a hR hI K hK
         obtain ⟨hM1, hB1, hG1⟩ := hI.1
         obtain ⟨c2, c4, c5, c6, c7, hG1d⟩ := hG1
         have ze0 := hR.frame.other (t := 0) (by kernel_rfl) rfl
         rw [if_pos (by rfl)]
         go_simp
         exact hK (.pointer (some ⟨g, 0, none⟩)) _ (hI.next hR (by kernel_rfl) (Mod.refl _ _) (PB.quiet hI.1 (Mod.refl _ _) (HGs.out D 2 zw1 zw1 (hI.1).g (Mod.refl _ _))) (upd_same V 2 _))
        ·intro D V zw1 a hR hI K hK
         obtain ⟨hM1, hB1, hG1⟩ := hI.1
         obtain ⟨c2, c4, c5, c6, c7, hG1d⟩ := hG1
         have zd2 := hR.pred 2 (by kernel_rfl)
         have zF2 : V 2 = .pointer (some ⟨g, 0, none⟩) := hI.2 2 zd2 rfl
         have zf2 := zF2; clear zF2
         have ze96 := hR.frame.done (t := 96) (j := 2) (by kernel_rfl) hR.ok zd2
         rw [if_pos (by rfl)]
         go_simp
         exact hK (.pointer (some ⟨g, 0, none⟩)) _ (hI.next hR (by kernel_rfl) (Mod.refl _ _) (PB.quiet hI.1 (Mod.refl _ _) (HGs.out D 3 zw1 zw1 (hI.1).g (Mod.refl _ _))) (upd_same V 3 _))
        ·intro D V zw1 a hR hI K hK
         obtain ⟨hM1, hB1, hG1⟩ := hI.1
         obtain ⟨c2, c4, c5, c6, c7, hG1d⟩ := hG1
         have zd3 := hR.pred 3 (by kernel_rfl)
         have zF3 : V 3 = .pointer (some ⟨g, 0, none⟩) := hI.2 3 zd3 rfl
         have zf3 := zF3; clear zF3
         have ze97 := hR.frame.done (t := 97) (j := 3) (by kernel_rfl) hR.ok zd3
         rw [if_pos (by rfl)]
         go_simp
         exact hK (.pointer (some ⟨g, 0, none⟩)) _ (hI.next hR (by kernel_rfl) (Mod.refl _ _) (PB.quiet hI.1 (Mod.refl _ _) (HGs.out D 4 zw1 zw1 (hI.1).g (Mod.refl _ _))) (upd_same V 4 _))
        ·intro D V zw1 a hR hI K hK
         obtain ⟨hM1, hB1, hG1⟩ := hI.1
         obtain ⟨c2, c4, c5, c6, c7, hG1d⟩ := hG1
         have zd4 := hR.pred 4 (by kernel_rfl)
         have zF4 : V 4 = .pointer (some ⟨g, 0, none⟩) := hI.2 4 zd4 rfl
         have zf4 := zF4; clear zF4
         have ze98 := hR.frame.done (t := 98) (j := 4) (by kernel_rfl) hR.ok zd4
         have zx0 := (hG1d).cell 0; have zy0 := (hG1d).frozen 0; simp at zx0
         rw [if_pos (by rfl)]
         go_simp
         exact hK (.string ⟨s.toArray⟩) _ (hI.next hR (by kernel_rfl) (Mod.refl _ _) (PB.quiet hI.1 (Mod.refl _ _) (HGs.out D 5 zw1 zw1 (hI.1).g (Mod.refl _ _))) (upd_same V 5 _))
        ·intro D V zw1 a hR hI K hK
         obtain ⟨hM1, hB1, hG1⟩ := hI.1
         obtain ⟨c2, c4, c5, c6, c7, hG1d⟩ := hG1
         have ze0 := hR.frame.other (t := 0) (by kernel_rfl) rfl
         rw [if_pos (by rfl)]
         go_simp
         exact hK (.pointer (some ⟨g, 0, none⟩)) _ (hI.next hR (by kernel_rfl) (Mod.refl _ _) (PB.quiet hI.1 (Mod.refl _ _) (HGs.out D 6 zw1 zw1 (hI.1).g (Mod.refl _ _))) (upd_same V 6 _))
        ·intro D V zw1 a hR hI K hK
         obtain ⟨hM1, hB1, hG1⟩ := hI.1
         obtain ⟨c2, c4, c5, c6, c7, hG1d⟩ := hG1
         have zd6 := hR.pred 6 (by kernel_rfl)
         have zF6 : V 6 = .pointer (some ⟨g, 0, none⟩) := hI.2 6 zd6 rfl
         have zf6 := zF6; clear zF6
         have ze100 := hR.frame.done (t := 100) (j := 6) (by kernel_rfl) hR.ok zd6
         rw [if_pos (by rfl)]
         go_simp
         exact hK (.pointer (some ⟨g, 0, none⟩)) _ (hI.next hR (by kernel_rfl) (Mod.refl _ _) (PB.quiet hI.1 (Mod.refl _ _) (HGs.out D 7 zw1 zw1 (hI.1).g (Mod.refl _ _))) (upd_same V 7 _))
        ·intro D V zw1 a hR hI K hK
         obtain ⟨hM1, hB1, hG1⟩ := hI.1
         obtain ⟨c2, c4, c5, c6, c7, hG1d⟩ := hG1
         have zd7 := hR.pred 7 (by kernel_rfl)
         have zF7 : V 7 = .pointer (some ⟨g, 0, none⟩) := hI.2 7 zd7 rfl
         have zf7 := zF7; clear zF7
         have ze101 := hR.frame.done (t := 101) (j := 7) (by kernel_rfl) hR.ok zd7
         rw [if_pos (by rfl)]
         go_simp
         exact hK (.pointer (some ⟨g, 1, none⟩)) _ (hI.next hR (by kernel_rfl) (Mod.refl _ _) (PB.quiet hI.1 (Mod.refl _ _) (HGs.out D 8 zw1 zw1 (hI.1).g (Mod.refl _ _))) (upd_same V 8 _))
        ·intro D V zw1 a hR hI K hK
         obtain ⟨hM1, hB1, hG1⟩ := hI.1
         obtain ⟨c2, c4, c5, c6, c7, hG1d⟩ := hG1
         have zd8 := hR.pred 8 (by kernel_rfl)
         have zF8 : V 8 = .pointer (some ⟨g, 1, none⟩) := hI.2 8 zd8 rfl
         have zf8 := zF8; clear zF8
         have ze102 := hR.frame.done (t := 102) (j := 8) (by kernel_rfl) hR.ok zd8
         have zx1 := (hG1d).cell 1; have zy1 := (hG1d).frozen 1; simp at zx1
         rw [if_pos (by rfl)]
         go_simp
         exact hK (.int .i64 (j : Int)) _ (hI.next hR (by kernel_rfl) (Mod.refl _ _) (PB.quiet hI.1 (Mod.refl _ _) (HGs.out D 9 zw1 zw1 (hI.1).g (Mod.refl _ _))) (upd_same V 9 _))
        ·intro D V zw1 a hR hI K hK
         obtain ⟨hM1, hB1, hG1⟩ := hI.1
         obtain ⟨c2, c4, c5, c6, c7, hG1d⟩ := hG1
         have ze0 := hR.frame.other (t := 0) (by kernel_rfl) rfl
         rw [if_pos (by rfl)]
         go_simp
         exact hK (.pointer (some ⟨g, 0, none⟩)) _ (hI.next hR (by kernel_rfl) (Mod.refl _ _) (PB.quiet hI.1 (Mod.refl _ _) (HGs.out D 10 zw1 zw1 (hI.1).g (Mod.refl _ _))) (upd_same V 10 _))
        ·intro D V zw1 a hR hI K hK
         obtain ⟨hM1, hB1, hG1⟩ := hI.1
         obtain ⟨c2, c4, c5, c6, c7, hG1d⟩ := hG1
         have zd10 := hR.pred 10 (by kernel_rfl)
         have zF10 : V 10 = .pointer (some ⟨g, 0, none⟩) := hI.2 10 zd10 rfl
         have zf10 := zF10; clear zF10
         have ze104 := hR.frame.done (t := 104) (j := 10) (by kernel_rfl) hR.ok zd10
         rw [if_pos (by rfl)]
         go_simp
         exact hK (.pointer (some ⟨g, 0, none⟩)) _ (hI.next hR (by kernel_rfl) (Mod.refl _ _) (PB.quiet hI.1 (Mod.refl _ _) (HGs.out D 11 zw1 zw1 (hI.1).g (Mod.refl _ _))) (upd_same V 11 _))
        ·intro D V zw1 a hR hI K hK
         obtain ⟨hM1, hB1, hG1⟩ := hI.1
         obtain ⟨c2, c4, c5, c6, c7, hG1d⟩ := hG1
         have zd11 := hR.pred 11 (by kernel_rfl)
         have zF11 : V 11 = .pointer (some ⟨g, 0, none⟩) := hI.2 11 zd11 rfl
         have zf11 := zF11; clear zF11
         have ze105 := hR.frame.done (t := 105) (j := 11) (by kernel_rfl) hR.ok zd11
         rw [if_pos (by rfl)]
         go_simp
         exact hK (.pointer (some ⟨g, 1, none⟩)) _ (hI.next hR (by kernel_rfl) (Mod.refl _ _) (PB.quiet hI.1 (Mod.refl _ _) (HGs.out D 12 zw1 zw1 (hI.1).g (Mod.refl _ _))) (upd_same V 12 _))
        ·intro D V zw1 a hR hI K hK
         obtain ⟨hM1, hB1, hG1⟩ := hI.1
         obtain ⟨c2, c4, c5, c6, c7, hG1d⟩ := hG1
         have zd12 := hR.pred 12 (by kernel_rfl)
         have zF12 : V 12 = .pointer (some ⟨g, 1, none⟩) := hI.2 12 zd12 rfl
         have zf12 := zF12; clear zF12
         have ze106 := hR.frame.done (t := 106) (j := 12) (by kernel_rfl) hR.ok zd12
         have zx1 := (hG1d).cell 1; have zy1 := (hG1d).frozen 1; simp at zx1
         rw [if_pos (by rfl)]
         go_simp
         exact hK (.int .i64 (j : Int)) _ (hI.next hR (by kernel_rfl) (Mod.refl _ _) (PB.quiet hI.1 (Mod.refl _ _) (HGs.out D 13 zw1 zw1 (hI.1).g (Mod.refl _ _))) (upd_same V 13 _))
        ·intro D V zw1 a hR hI K hK
         obtain ⟨hM1, hB1, hG1⟩ := hI.1
         obtain ⟨c2, c4, c5, c6, c7, hG1d⟩ := hG1
         have ze2 := hR.frame.other (t := 2) (by kernel_rfl) rfl
         rw [if_pos (by rfl)]
         go_simp
         exact hK (.int .i64 (N : Int)) _ (hI.next hR (by kernel_rfl) (Mod.refl _ _) (PB.quiet hI.1 (Mod.refl _ _) (HGs.out D 14 zw1 zw1 (hI.1).g (Mod.refl _ _))) (upd_same V 14 _))
        ·intro D V zw1 a hR hI K hK
         obtain ⟨hM1, hB1, hG1⟩ := hI.1
         obtain ⟨c2, c4, c5, c6, c7, hG1d⟩ := hG1
         have zd13 := hR.pred 13 (by kernel_rfl)
         have zF13 : V 13 = .int .i64 (j : Int) := hI.2 13 zd13 rfl
         have zf13 := zF13; clear zF13
         have zd14 := hR.pred 14 (by kernel_rfl)
         have zF14 : V 14 = .int .i64 (N : Int) := hI.2 14 zd14 rfl
         have zf14 := zF14; clear zF14
         have ze107 := hR.frame.done (t := 107) (j := 13) (by kernel_rfl) hR.ok zd13
         have ze108 := hR.frame.done (t := 108) (j := 14) (by kernel_rfl) hR.ok zd14
         rw [if_pos (by rfl)]
         go_simp
         exact hK (.int .i64 ((j : Int) + (N : Int))) _ (hI.next hR (by kernel_rfl) (Mod.refl _ _) (PB.quiet hI.1 (Mod.refl _ _) (HGs.out D 15 zw1 zw1 (hI.1).g (Mod.refl _ _))) (upd_same V 15 _))
        ·intro D V zw1 a hR hI K hK
         obtain ⟨hM1, hB1, hG1⟩ := hI.1
         obtain ⟨c2, c4, c5, c6, c7, hG1d⟩ := hG1
         have zd5 := hR.pred 5 (by kernel_rfl)
         have zF5 : V 5 = .string ⟨s.toArray⟩ := hI.2 5 zd5 rfl
         have zf5 := zF5; clear zF5
         have zd9 := hR.pred 9 (by kernel_rfl)
         have zF9 : V 9 = .int .i64 (j : Int) := hI.2 9 zd9 rfl
         have zf9 := zF9; clear zF9
         have zd15 := hR.pred 15 (by kernel_rfl)
         have zF15 : V 15 = .int .i64 ((j : Int) + (N : Int)) := hI.2 15 zd15 rfl
         have zf15 := zF15; clear zF15
         have ze99 := hR.frame.done (t := 99) (j := 5) (by kernel_rfl) hR.ok zd5
         have ze103 := hR.frame.done (t := 103) (j := 9) (by kernel_rfl) hR.ok zd9
         have ze109 := hR.frame.done (t := 109) (j := 15) (by kernel_rfl) hR.ok zd15
         have hq1 : (j : Int) + (N : Int) ≤ (s.length : Int) := by omega
         have hq2 : ((j : Int) + (N : Int)).toNat = j + N := by omega
         have hq3 : ¬ ((j : Int) + (N : Int) < 0) := by omega
         have hq4 : (0 : Int) ≤ (j : Int) + (N : Int) := by omega
         have hq5 : (j : Int) ≤ (j : Int) + (N : Int) := by omega
         rw [if_pos (by rfl)]
         go_simp
         exact hK (.string ⟨tx.toArray⟩) _ (hI.next hR (by kernel_rfl) (Mod.refl _ _) (PB.quiet hI.1 (Mod.refl _ _) (HGs.out D 16 zw1 zw1 (hI.1).g (Mod.refl _ _))) (upd_same V 16 _))
        ·intro D V zw1 a hR hI K hK
         obtain ⟨hM1, hB1, hG1⟩ := hI.1
         obtain ⟨c2, c4, c5, c6, c7, hG1d⟩ := hG1
         have zd16 := hR.pred 16 (by kernel_rfl)
         have zF16 : V 16 = .string ⟨tx.toArray⟩ := hI.2 16 zd16 rfl
         have zf16 := zF16; clear zF16
         have ze110 := hR.frame.done (t := 110) (j := 16) (by kernel_rfl) hR.ok zd16
         rw [if_pos (by rfl)]
         go_simp
         refine (HLO.out zw1).mono ?_
         rintro e zw2 ⟨rfl, hm2⟩
         exact hK (.string ⟨ps.toArray⟩) _ (hI.next hR (by kernel_rfl) hm2 (PB.quiet hI.1 hm2 (HGs.out D 17 _ _ (hI.1).g hm2)) (upd_same V 17 _))
        ·intro D V zw1 a hR hI K hK
         obtain ⟨hM1, hB1, hG1⟩ := hI.1
         obtain ⟨c2, c4, c5, c6, c7, hG1d⟩ := hG1
         have zd17 := hR.pred 17 (by kernel_rfl)
         have zF17 : V 17 = .string ⟨ps.toArray⟩ := hI.2 17 zd17 rfl
         have zf17 := zF17; clear zF17
         have ze111 := hR.frame.done (t := 111) (j := 17) (by kernel_rfl) hR.ok zd17
         rw [if_pos (by rfl)]
         go_simp
         refine (HPC.out zw1 (HML.out zw1 (HM5.out.trans hM1))).mono ?_
         rintro e zw2 ⟨q_0, rfl, hq1, hq2, _, hm2⟩
         exact hK (.tuple #[.int .i64 (pieceQ ps).1, qA q_0]) _ (hI.next hR (by kernel_rfl) hm2 (PB.quiet hI.1 hm2 (HGs.out D 18 _ _ (hI.1).g hm2)) (⟨q_0, upd_same V 18 _, hq2, hq1⟩))
        ·intro D V zw1 a hR hI K hK
         obtain ⟨hM1, hB1, hG1⟩ := hI.1
         obtain ⟨c2, c4, c5, c6, c7, hG1d⟩ := hG1
         have zd18 := hR.pred 18 (by kernel_rfl)
         have zF18 : ∃ (q_18 : QR), V 18 = .tuple #[.int .i64 (pieceQ ps).1, qA q_18] ∧ q_18.key = (pieceQ ps).2 ∧ QS zw1 q_18 := hI.2 18 zd18 rfl
         obtain ⟨q_18, zf18, c18_0, b18_0⟩ := zF18
         have ze112 := hR.frame.done (t := 112) (j := 18) (by kernel_rfl) hR.ok zd18
         rw [if_pos (by rfl)]
         go_simp
         exact hK (.tuple #[.int .i64 (pieceQ ps).1, qA q_18]) _ (hI.next hR (by kernel_rfl) (Mod.refl _ _) (PB.quiet hI.1 (Mod.refl _ _) (HGs.out D 19 zw1 zw1 (hI.1).g (Mod.refl _ _))) (⟨q_18, upd_same V 19 _, (by first | assumption | omega), b18_0⟩))
        ·intro D V zw1 a hR hI K hK
         obtain ⟨hM1, hB1, hG1⟩ := hI.1
         obtain ⟨c2, c4, c5, c6, c7, hG1d⟩ := hG1
         have zd19 := hR.pred 19 (by kernel_rfl)
         have zF19 : ∃ (q_19 : QR), V 19 = .tuple #[.int .i64 (pieceQ ps).1, qA q_19] ∧ q_19.key = (pieceQ ps).2 ∧ QS zw1 q_19 := hI.2 19 zd19 rfl
         obtain ⟨q_19, zf19, c19_0, b19_0⟩ := zF19
         have ze93 := hR.frame.done (t := 93) (j := 19) (by kernel_rfl) hR.ok zd19
         rw [if_pos (by rfl)]
         go_simp
         exact hK (.int .i64 (pieceQ ps).1) _ (hI.next hR (by kernel_rfl) (Mod.refl _ _) (PB.quiet hI.1 (Mod.refl _ _) (HGs.out D 20 zw1 zw1 (hI.1).g (Mod.refl _ _))) (upd_same V 20 _))
        ·intro D V zw1 a hR hI K hK
         obtain ⟨hM1, hB1, hG1⟩ := hI.1
         obtain ⟨c2, c4, c5, c6, c7, hG1d⟩ := hG1
         have zd19 := hR.pred 19 (by kernel_rfl)
         have zF19 : ∃ (q_19 : QR), V 19 = .tuple #[.int .i64 (pieceQ ps).1, qA q_19] ∧ q_19.key = (pieceQ ps).2 ∧ QS zw1 q_19 := hI.2 19 zd19 rfl
         obtain ⟨q_19, zf19, c19_0, b19_0⟩ := zF19
         have ze93 := hR.frame.done (t := 93) (j := 19) (by kernel_rfl) hR.ok zd19
         rw [if_pos (by rfl)]
         go_simp
         exact hK (_) _ (hI.next hR (by kernel_rfl) (Mod.refl _ _) (PB.quiet hI.1 (Mod.refl _ _) (HGs.out D 21 zw1 zw1 (hI.1).g (Mod.refl _ _))) (⟨q_19, upd_same V 21 _, c19_0, b19_0⟩))
        ·intro D V zw1 a hR hI K hK
         obtain ⟨hM1, hB1, hG1⟩ := hI.1
         obtain ⟨c2, c4, c5, c6, c7, hG1d⟩ := hG1
         have zd0 := hR.pred 0 (by kernel_rfl)
         have zF0 : V 0 = .pointer (some ⟨g, 0, none⟩) := hI.2 0 zd0 rfl
         have zf0 := zF0; clear zF0
         have ze94 := hR.frame.done (t := 94) (j := 0) (by kernel_rfl) hR.ok zd0
         rw [if_pos (by rfl)]
         go_simp
         exact hK (.pointer (some ⟨g, 0, none⟩)) _ (hI.next hR (by kernel_rfl) (Mod.refl _ _) (PB.quiet hI.1 (Mod.refl _ _) (HGs.out D 22 zw1 zw1 (hI.1).g (Mod.refl _ _))) (upd_same V 22 _))
        ·intro D V zw1 a hR hI K hK
         obtain ⟨hM1, hB1, hG1⟩ := hI.1
         obtain ⟨c2, c4, c5, c6, c7, hG1d⟩ := hG1
         have zd22 := hR.pred 22 (by kernel_rfl)
         have zF22 : V 22 = .pointer (some ⟨g, 0, none⟩) := hI.2 22 zd22 rfl
         have zf22 := zF22; clear zF22
         have ze115 := hR.frame.done (t := 115) (j := 22) (by kernel_rfl) hR.ok zd22
         rw [if_pos (by rfl)]
         go_simp
         exact hK (.pointer (some ⟨g, 2, none⟩)) _ (hI.next hR (by kernel_rfl) (Mod.refl _ _) (PB.quiet hI.1 (Mod.refl _ _) (HGs.out D 23 zw1 zw1 (hI.1).g (Mod.refl _ _))) (upd_same V 23 _))
        ·intro D V zw1 a hR hI K hK
         obtain ⟨hM1, hB1, hG1⟩ := hI.1
         obtain ⟨c2, c4, c5, c6, c7, hG1d⟩ := hG1
         have zd23 := hR.pred 23 (by kernel_rfl)
         have zF23 : V 23 = .pointer (some ⟨g, 2, none⟩) := hI.2 23 zd23 rfl
         have zf23 := zF23; clear zF23
         have ze116 := hR.frame.done (t := 116) (j := 23) (by kernel_rfl) hR.ok zd23
         rw [if_pos (by rfl)]
         go_simp
         exact hK (.pointer (some ⟨g, 2, none⟩)) _ (hI.next hR (by kernel_rfl) (Mod.refl _ _) (PB.quiet hI.1 (Mod.refl _ _) (HGs.out D 24 zw1 zw1 (hI.1).g (Mod.refl _ _))) (upd_same V 24 _))
        ·intro D V zw1 a hR hI K hK
         obtain ⟨hM1, hB1, hG1⟩ := hI.1
         obtain ⟨c2, c4, c5, c6, c7, hG1d⟩ := hG1
         have zd24 := hR.pred 24 (by kernel_rfl)
         have zF24 : V 24 = .pointer (some ⟨g, 2, none⟩) := hI.2 24 zd24 rfl
         have zf24 := zF24; clear zF24
         have zd20 := hR.pred 20 (by kernel_rfl)
         have zF20 : V 20 = .int .i64 (pieceQ ps).1 := hI.2 20 zd20 rfl
         have zf20 := zF20; clear zF20
         have ze117 := hR.frame.done (t := 117) (j := 24) (by kernel_rfl) hR.ok zd24
         have ze113 := hR.frame.done (t := 113) (j := 20) (by kernel_rfl) hR.ok zd20
         rw [if_pos (by rfl)]
         have zx2 := (hG1d).cell 2; have zy2 := (hG1d).frozen 2; simp at zx2
         go_simp
         refine hK undef _ (InvF.last ⟨mod_set hM1 2 _, (by simpa using hB1), ⟨_, _, _, _, _, (by have h := hG1d.set 2 (.int .i64 (pieceQ ps).1); simpa using h)⟩⟩ ⟨upd_same _ 25 _, (by have h := (hG1d.set 2 (.int .i64 (pieceQ ps).1)).cell 2; simpa [CellQ] using h)⟩ ?_)
         intro k hk hDk hlv
         have hkl := hR.lt k hDk
         have hv := hI.2 k hDk (liveB_of hlv)
         match k, hk, hDk, hlv, hkl, hv with
         | 0, _, _, _, _, hv => exact hv
         | 1, _, _, _, _, hv => exact hv
         | 2, _, _, _, _, hv => exact hv
         | 3, _, _, _, _, hv => exact hv
         | 4, _, _, _, _, hv => exact hv
         | 5, _, _, _, _, hv => exact hv
         | 6, _, _, _, _, hv => exact hv
         | 7, _, _, _, _, hv => exact hv
         | 8, _, _, _, _, hv => exact hv
         | 9, _, _, _, _, hv => exact hv
         | 10, _, _, _, _, hv => exact hv
         | 11, _, _, _, _, hv => exact hv
         | 12, _, _, _, _, hv => exact hv
         | 13, _, _, _, _, hv => exact hv
         | 14, _, _, _, _, hv => exact hv
         | 15, _, _, _, _, hv => exact hv
         | 16, _, _, _, _, hv => exact hv
         | 17, _, _, _, _, hv => exact hv
         | 18, hk, hDk, hlv, hkl, hv => (have hv2 : ∃ q : QR, V 18 = .tuple #[.int .i64 (pieceQ ps).1, qA q] ∧ q.key = (pieceQ ps).2 ∧ QS zw1 q := hv; obtain ⟨q, h1, h2, h3⟩ := hv2; exact ⟨q, h1, h2, h3.rd hG1d (mod_set (Mod.refl _ _) 2 _)⟩)
         | 19, hk, hDk, hlv, hkl, hv => (have hv2 : ∃ q : QR, V 19 = .tuple #[.int .i64 (pieceQ ps).1, qA q] ∧ q.key = (pieceQ ps).2 ∧ QS zw1 q := hv; obtain ⟨q, h1, h2, h3⟩ := hv2; exact ⟨q, h1, h2, h3.rd hG1d (mod_set (Mod.refl _ _) 2 _)⟩)
         | 20, _, _, _, _, hv => exact hv
         | 21, hk, hDk, hlv, hkl, hv => (have hv2 : ∃ q : QR, V 21 = qA q ∧ q.key = (pieceQ ps).2 ∧ QS zw1 q := hv; obtain ⟨q, h1, h2, h3⟩ := hv2; exact ⟨q, h1, h2, h3.rd hG1d (mod_set (Mod.refl _ _) 2 _)⟩)
         | 22, _, _, _, _, hv => exact hv
         | 23, _, _, _, _, hv => exact hv
         | 24, _, _, _, _, hv => exact hv
         | 25, hk, _, _, _, _ => exact absurd rfl hk
         | 26, _, _, _, _, hv => exact hv
         | 27, _, _, _, _, hv => exact hv
         | 28, _, _, _, _, hv => exact hv
         | 29, hk, hDk, hlv, hkl, hv => (have hv2 : ∃ q : QR, V 29 = undef ∧ q.key = (pieceQ ps).2 ∧ QS zw1 q ∧ C4 zw1 g q := hv; obtain ⟨q, h1, h2, h3, h4⟩ := hv2; exact ⟨q, h1, h2, h3.rd hG1d (mod_set (Mod.refl _ _) 2 _), h4.set hG1d (by decide)⟩)
         | k + 30, _, _, _, hkl, _ => exact absurd hkl (by simp)
        ·intro D V zw1 a hR hI K hK
         obtain ⟨hM1, hB1, hG1⟩ := hI.1
         obtain ⟨c2, c4, c5, c6, c7, hG1d⟩ := hG1
         have zd1 := hR.pred 1 (by kernel_rfl)
         have zF1 : V 1 = .pointer (some ⟨g, 0, none⟩) := hI.2 1 zd1 rfl
         have zf1 := zF1; clear zF1
         have ze95 := hR.frame.done (t := 95) (j := 1) (by kernel_rfl) hR.ok zd1
         rw [if_pos (by rfl)]
         go_simp
         exact hK (.pointer (some ⟨g, 0, none⟩)) _ (hI.next hR (by kernel_rfl) (Mod.refl _ _) (PB.quiet hI.1 (Mod.refl _ _) (HGs.out D 26 zw1 zw1 (hI.1).g (Mod.refl _ _))) (upd_same V 26 _))
        ·intro D V zw1 a hR hI K hK
         obtain ⟨hM1, hB1, hG1⟩ := hI.1
         obtain ⟨c2, c4, c5, c6, c7, hG1d⟩ := hG1
         have zd26 := hR.pred 26 (by kernel_rfl)
         have zF26 : V 26 = .pointer (some ⟨g, 0, none⟩) := hI.2 26 zd26 rfl
         have zf26 := zF26; clear zF26
         have ze118 := hR.frame.done (t := 118) (j := 26) (by kernel_rfl) hR.ok zd26
         rw [if_pos (by rfl)]
         go_simp
         exact hK (.pointer (some ⟨g, 2, none⟩)) _ (hI.next hR (by kernel_rfl) (Mod.refl _ _) (PB.quiet hI.1 (Mod.refl _ _) (HGs.out D 27 zw1 zw1 (hI.1).g (Mod.refl _ _))) (upd_same V 27 _))
        ·intro D V zw1 a hR hI K hK
         obtain ⟨hM1, hB1, hG1⟩ := hI.1
         obtain ⟨c2, c4, c5, c6, c7, hG1d⟩ := hG1
         have zd27 := hR.pred 27 (by kernel_rfl)
         have zF27 : V 27 = .pointer (some ⟨g, 2, none⟩) := hI.2 27 zd27 rfl
         have zf27 := zF27; clear zF27
         have ze119 := hR.frame.done (t := 119) (j := 27) (by kernel_rfl) hR.ok zd27
         rw [if_pos (by rfl)]
         go_simp
         exact hK (.pointer (some ⟨g, 4, none⟩)) _ (hI.next hR (by kernel_rfl) (Mod.refl _ _) (PB.quiet hI.1 (Mod.refl _ _) (HGs.out D 28 zw1 zw1 (hI.1).g (Mod.refl _ _))) (upd_same V 28 _))
        ·intro D V zw1 a hR hI K hK
         obtain ⟨hM1, hB1, hG1⟩ := hI.1
         obtain ⟨c2, c4, c5, c6, c7, hG1d⟩ := hG1
         have zd28 := hR.pred 28 (by kernel_rfl)
         have zF28 : V 28 = .pointer (some ⟨g, 4, none⟩) := hI.2 28 zd28 rfl
         have zf28 := zF28; clear zF28
         have zd21 := hR.pred 21 (by kernel_rfl)
         have zF21 : ∃ (q_21 : QR), V 21 = qA q_21 ∧ q_21.key = (pieceQ ps).2 ∧ QS zw1 q_21 := hI.2 21 zd21 rfl
         obtain ⟨q_21, zf21, c21_0, b21_0⟩ := zF21
         have ze120 := hR.frame.done (t := 120) (j := 28) (by kernel_rfl) hR.ok zd28
         have ze114 := hR.frame.done (t := 114) (j := 21) (by kernel_rfl) hR.ok zd21
         rw [if_pos (by rfl)]
         have zx4 := (hG1d).cell 4; have zy4 := (hG1d).frozen 4; simp at zx4
         have zx5 := (hG1d).cell 5; have zy5 := (hG1d).frozen 5; simp at zx5
         have zx6 := (hG1d).cell 6; have zy6 := (hG1d).frozen 6; simp at zx6
         have zx7 := (hG1d).cell 7; have zy7 := (hG1d).frozen 7; simp at zx7
         obtain ⟨k0, A0, e0, ws0, n0, B0, d0, xs0⟩ := q_21
         rw [qA_mk] at zf21
         go_simp
         refine hK undef _ (InvF.last ⟨mod_set (mod_set (mod_set (mod_set hM1 4 _) 5 _) 6 _) 7 _, (by simpa using hB1), ⟨_, _, _, _, _, (by have h := (((hG1d.set 4 (.int .i64 k0)).set 5 (.slice A0 ws0.length e0)).set 6 (.int .i64 n0)).set 7 (.slice B0 xs0.length d0); simpa using h)⟩⟩ ⟨.mk k0 A0 e0 ws0 n0 B0 d0 xs0, upd_same _ 29 _, c21_0, b21_0.rd hG1d (mod_set (mod_set (mod_set (mod_set (Mod.refl _ _) 4 _) 5 _) 6 _) 7 _), c4_new hG1d rfl⟩ ?_)
         intro k hk hDk hlv
         have hkl := hR.lt k hDk
         have hv := hI.2 k hDk (liveB_of hlv)
         match k, hk, hDk, hlv, hkl, hv with
         | 0, _, _, _, _, hv => exact hv
         | 1, _, _, _, _, hv => exact hv
         | 2, _, _, _, _, hv => exact hv
         | 3, _, _, _, _, hv => exact hv
         | 4, _, _, _, _, hv => exact hv
         | 5, _, _, _, _, hv => exact hv
         | 6, _, _, _, _, hv => exact hv
         | 7, _, _, _, _, hv => exact hv
         | 8, _, _, _, _, hv => exact hv
         | 9, _, _, _, _, hv => exact hv
         | 10, _, _, _, _, hv => exact hv
         | 11, _, _, _, _, hv => exact hv
         | 12, _, _, _, _, hv => exact hv
         | 13, _, _, _, _, hv => exact hv
         | 14, _, _, _, _, hv => exact hv
         | 15, _, _, _, _, hv => exact hv
         | 16, _, _, _, _, hv => exact hv
         | 17, _, _, _, _, hv => exact hv
         | 18, hk, hDk, hlv, hkl, hv => (have hv2 : ∃ q : QR, V 18 = .tuple #[.int .i64 (pieceQ ps).1, qA q] ∧ q.key = (pieceQ ps).2 ∧ QS zw1 q := hv; obtain ⟨q, h1, h2, h3⟩ := hv2; exact ⟨q, h1, h2, h3.rd hG1d (mod_set (mod_set (mod_set (mod_set (Mod.refl _ _) 4 _) 5 _) 6 _) 7 _)⟩)
         | 19, hk, hDk, hlv, hkl, hv => (have hv2 : ∃ q : QR, V 19 = .tuple #[.int .i64 (pieceQ ps).1, qA q] ∧ q.key = (pieceQ ps).2 ∧ QS zw1 q := hv; obtain ⟨q, h1, h2, h3⟩ := hv2; exact ⟨q, h1, h2, h3.rd hG1d (mod_set (mod_set (mod_set (mod_set (Mod.refl _ _) 4 _) 5 _) 6 _) 7 _)⟩)
         | 20, _, _, _, _, hv => exact hv
         | 21, hk, hDk, hlv, hkl, hv => (have hv2 : ∃ q : QR, V 21 = qA q ∧ q.key = (pieceQ ps).2 ∧ QS zw1 q := hv; obtain ⟨q, h1, h2, h3⟩ := hv2; exact ⟨q, h1, h2, h3.rd hG1d (mod_set (mod_set (mod_set (mod_set (Mod.refl _ _) 4 _) 5 _) 6 _) 7 _)⟩)
         | 22, _, _, _, _, hv => exact hv
         | 23, _, _, _, _, hv => exact hv
         | 24, _, _, _, _, hv => exact hv
         | 25, hk, hDk, hlv, hkl, hv => (have hv2 : V 25 = undef ∧ CellQ zw1 g 2 (.int .i64 (pieceQ ps).1) := hv; exact ⟨hv2.1, cq_st4 hG1d hv2.2⟩)
         | 26, _, _, _, _, hv => exact hv
         | 27, _, _, _, _, hv => exact hv
         | 28, _, _, _, _, hv => exact hv
         | 29, hk, _, _, _, _ => exact absurd rfl hk
         | k + 30, _, _, _, hkl, _ => exact absurd hkl (by simp)
       ·intro D V w6 hD hI
        obtain ⟨hM1, hB1, hG1⟩ := hI.1
        have hMx := hM1
        clear hM1
        have hBx := hB1
        clear hB1
        have hGx := hG1
        clear hG1
        have zF0 : V 0 = .pointer (some ⟨g, 0, none⟩) := hI.2 0 (hD 0 (by decide)) rfl
        have zf0 := zF0; clear zF0
        have zF1 : V 1 = .pointer (some ⟨g, 0, none⟩) := hI.2 1 (hD 1 (by decide)) rfl
        have zf1 := zF1; clear zF1
        have zF2 : V 2 = .pointer (some ⟨g, 0, none⟩) := hI.2 2 (hD 2 (by decide)) rfl
        have zf2 := zF2; clear zF2
        have zF3 : V 3 = .pointer (some ⟨g, 0, none⟩) := hI.2 3 (hD 3 (by decide)) rfl
        have zf3 := zF3; clear zF3
        have zF4 : V 4 = .pointer (some ⟨g, 0, none⟩) := hI.2 4 (hD 4 (by decide)) rfl
        have zf4 := zF4; clear zF4
        have zF5 : V 5 = .string ⟨s.toArray⟩ := hI.2 5 (hD 5 (by decide)) rfl
        have zf5 := zF5; clear zF5
        have zF6 : V 6 = .pointer (some ⟨g, 0, none⟩) := hI.2 6 (hD 6 (by decide)) rfl
        have zf6 := zF6; clear zF6
        have zF7 : V 7 = .pointer (some ⟨g, 0, none⟩) := hI.2 7 (hD 7 (by decide)) rfl
        have zf7 := zF7; clear zF7
        have zF8 : V 8 = .pointer (some ⟨g, 1, none⟩) := hI.2 8 (hD 8 (by decide)) rfl
        have zf8 := zF8; clear zF8
        have zF9 : V 9 = .int .i64 (j : Int) := hI.2 9 (hD 9 (by decide)) rfl
        have zf9 := zF9; clear zF9
        have zF10 : V 10 = .pointer (some ⟨g, 0, none⟩) := hI.2 10 (hD 10 (by decide)) rfl
        have zf10 := zF10; clear zF10
        have zF11 : V 11 = .pointer (some ⟨g, 0, none⟩) := hI.2 11 (hD 11 (by decide)) rfl
        have zf11 := zF11; clear zF11
        have zF12 : V 12 = .pointer (some ⟨g, 1, none⟩) := hI.2 12 (hD 12 (by decide)) rfl
        have zf12 := zF12; clear zF12
        have zF13 : V 13 = .int .i64 (j : Int) := hI.2 13 (hD 13 (by decide)) rfl
        have zf13 := zF13; clear zF13
        have zF14 : V 14 = .int .i64 (N : Int) := hI.2 14 (hD 14 (by decide)) rfl
        have zf14 := zF14; clear zF14
        have zF15 : V 15 = .int .i64 ((j : Int) + (N : Int)) := hI.2 15 (hD 15 (by decide)) rfl
        have zf15 := zF15; clear zF15
        have zF16 : V 16 = .string ⟨tx.toArray⟩ := hI.2 16 (hD 16 (by decide)) rfl
        have zf16 := zF16; clear zF16
        have zF17 : V 17 = .string ⟨ps.toArray⟩ := hI.2 17 (hD 17 (by decide)) rfl
        have zf17 := zF17; clear zF17
        have zF18 : ∃ (q_18 : QR), V 18 = .tuple #[.int .i64 (pieceQ ps).1, qA q_18] ∧ q_18.key = (pieceQ ps).2 ∧ QS w6 q_18 := hI.2 18 (hD 18 (by decide)) rfl
        obtain ⟨q_18, zf18, c18_0, b18_0⟩ := zF18
        have zF19 : ∃ (q_19 : QR), V 19 = .tuple #[.int .i64 (pieceQ ps).1, qA q_19] ∧ q_19.key = (pieceQ ps).2 ∧ QS w6 q_19 := hI.2 19 (hD 19 (by decide)) rfl
        obtain ⟨q_19, zf19, c19_0, b19_0⟩ := zF19
        have zF20 : V 20 = .int .i64 (pieceQ ps).1 := hI.2 20 (hD 20 (by decide)) rfl
        have zf20 := zF20; clear zF20
        have zF21 : ∃ (q_21 : QR), V 21 = qA q_21 ∧ q_21.key = (pieceQ ps).2 ∧ QS w6 q_21 := hI.2 21 (hD 21 (by decide)) rfl
        obtain ⟨q_21, zf21, c21_0, b21_0⟩ := zF21
        have zF22 : V 22 = .pointer (some ⟨g, 0, none⟩) := hI.2 22 (hD 22 (by decide)) rfl
        have zf22 := zF22; clear zF22
        have zF23 : V 23 = .pointer (some ⟨g, 2, none⟩) := hI.2 23 (hD 23 (by decide)) rfl
        have zf23 := zF23; clear zF23
        have zF24 : V 24 = .pointer (some ⟨g, 2, none⟩) := hI.2 24 (hD 24 (by decide)) rfl
        have zf24 := zF24; clear zF24
        have zF25 : V 25 = undef ∧ CellQ w6 g 2 (.int .i64 (pieceQ ps).1) := hI.2 25 (hD 25 (by decide)) rfl
        obtain ⟨zf25, b25_0⟩ := zF25
        have zF26 : V 26 = .pointer (some ⟨g, 0, none⟩) := hI.2 26 (hD 26 (by decide)) rfl
        have zf26 := zF26; clear zF26
        have zF27 : V 27 = .pointer (some ⟨g, 2, none⟩) := hI.2 27 (hD 27 (by decide)) rfl
        have zf27 := zF27; clear zF27
        have zF28 : V 28 = .pointer (some ⟨g, 4, none⟩) := hI.2 28 (hD 28 (by decide)) rfl
        have zf28 := zF28; clear zF28
        have zF29 : ∃ (q_29 : QR), V 29 = undef ∧ q_29.key = (pieceQ ps).2 ∧ QS w6 q_29 ∧ C4 w6 g q_29 := hI.2 29 (hD 29 (by decide)) rfl
        obtain ⟨q_29, zf29, c29_0, b29_0, b29_1⟩ := zF29
        clear hI hD HGs
        simp only [frAll, Act.put, List.setIfInBounds_toArray, List.set_cons_zero, List.set_cons_succ, Nat.zero_add, Nat.reduceAdd, zf0, zf1, zf2, zf3, zf4, zf5, zf6, zf7, zf8, zf9, zf10, zf11, zf12, zf13, zf14, zf15, zf16, zf17, zf18, zf19, zf20, zf21, zf22, zf23, zf24, zf25, zf26, zf27, zf28, zf29]
        clear zf0 zf1 zf2 zf3 zf4 zf5 zf6 zf7 zf8 zf9 zf10 zf11 zf12 zf13 zf14 zf15 zf16 zf17 zf18 zf19 zf20 zf21 zf22 zf23 zf24 zf25 zf26 zf27 zf28 zf29
        clear V D
        obtain ⟨c2, c4, c5, c6, c7, hB6⟩ := hGx
        have hB7 := rd_cells hB6 b25_0 b29_1
        have HB6 := Lib.hid hB7
        have HM6 := Lib.hid (HM5.out.trans hMx)
        have HQ6 := Lib.hid b29_0
        obtain ⟨k0, A0, e0, ws0, n0, B0, d0, xs0⟩ := q_29
        have HBF := Lib.hid (HB6.out.set 1 (.int .i64 ((j : Int) + (N : Int))))
        have hx1 := hB7.cell 1
        have hy1 := hB7.frozen 1
        simp [rdC] at hx1
        clear hB6 hB7 b18_0 b19_0 b21_0 b25_0 b29_0 b29_1 c18_0 c19_0 c21_0 hMx HB5 HM5 HLO HPC hsub hadd
        go_wp2_with fail
        go_end0
        exact TkP.nx (W := w6) (j := j) ⟨_, rfl, by rw [HTX.out]; have h := HBF.out; simpa [rdC] using h, by rw [HTX.out]; exact c29_0, HQ6.out.rd HB6.out (mod_set (Mod.refl _ _) 1 _), mod_set (Mod.refl _ _) 1 _⟩ HM6.out HJ.out
  ·have ej : j = s.length := by omega
   subst ej
   have HJ : Hid (skpQ s p = s.length) := Lib.hid (by rw [← HSK.out]; exact skp_end (Nat.le_refl _))
   go_upto_region 0 with (fail)
   go_quiet (fail)
   go_upto_region 3 with (fail)
   go_quiet (fail)
   go_wp2_with fail
   go_end0
   exact TkP.nx (W := w) (j := s.length) ⟨.mk 0 none 0 [] 0 none 0 [], rfl, by rw [List.drop_length]; exact (rd_zero (j := (s.length : Int)) (HBJ.out.drewN _)).drewN _, by rw [List.drop_length, QR.key_mk]; rfl, QS.zero, (rd_zmod (j := (s.length : Int)) (HM.out.drewN _)).drewN _⟩ (Mod.refl _ _) HJ.out
end Go.Proofs.YtanblgcgbncbpaaGreatDoor

/- places of searches by words (package query): patterns, and two searches near to each other. -/
namespace Go.Proofs.YtanblgcgbncbpaaGreatDoor
set_option linter.unusedVariables false
set_option linter.unusedSimpArgs false
open Go.RowKit
theorem RnP.up {w w1 : World} {W : Nat} {F : Nat → Nat → Bool} {e : Ending} {w' : World} (h : RnP w1 W F e w') (hm : Pure w w1) : RnP w W F e w' := by
 obtain ⟨v, h1, h2, h3⟩ := h
 exact ⟨v, h1, h2, hm.trans h3⟩
theorem plc_word {ws : List Str} {k n : Int} {pats : List Str} {xs : List Qry} (hk : k = 2 ∨ k = 3) : plcQ ws (.mk k pats n xs) = phrB ws pats := by
 rw [plcQ]
 funext i j
 unfold plcK
 rcases hk with rfl | rfl <;> rfl
theorem plc_near {ws : List Str} {n : Int} {pats : List Str} {a b : Qry} : plcQ ws (.mk 4 pats n [a, b]) = fun i j => cutB (plcQ ws a) (plcQ ws b) n ws.length i j || cutB (plcQ ws b) (plcQ ws a) n ws.length i j := by
 rw [plcQ]
 rfl
set_option maxRecDepth 100000 in
set_option maxHeartbeats 4000000 in
theorem placesW_calls (w : World) (vw : Value) (wl : List Wd) (k n : Int) (A B : Option Addr) (c d : Nat) (pats : List Str) (xs : List QR) (hk : k = 2 ∨ k = 3) (hQ : QS w (.mk k A c pats n B d xs)) (hw : Wds w vw wl) (hp0 : 1 ≤ pats.length) (hp1 : pats.length ≤ 1000) (hpl : ∀ x ∈ pats, x.length ≤ 1000000) (hW : wl.length ≤ 1000) (hwl : ∀ x ∈ wl, x.2.length ≤ 1000000) :
  Calls Tryz.prog 168 #[qA (.mk k A c pats n B d xs), vw] w (RnP w wl.length (plcQ (wsQ wl) (QR.mk k A c pats n B d xs).key)) := by
 rw [QR.key_mk, plc_word hk, qA_mk]
 have hm : Pure w (w.alloc (.cells #[.int .i64 k, .slice A pats.length c, .int .i64 n, .slice B xs.length d] 44)) := (Mod.refl _ _).alloc _
 have HP := Lib.hid (phraseQ_calls (w.alloc (.cells #[.int .i64 k, .slice A pats.length c, .int .i64 n, .slice B xs.length d] 44)) (.slice A pats.length c) vw pats wl (hQ.wsH.pure hm) (hw.pure hm) hp0 hp1 hpl hW hwl)
 have HM := Lib.hid hm
 have hb := Blk.new w 44 #[.int .i64 k, .slice A pats.length c, .int .i64 n, .slice B xs.length d]
 have x0 := hb.cell 0; have x1 := hb.cell 1; have x2 := hb.cell 2; have x3 := hb.cell 3; simp at x0 x1 x2 x3
 have h5 : (k == 5) = false := by rcases hk with rfl | rfl <;> rfl
 have h4 : (k == 4) = false := by rcases hk with rfl | rfl <;> rfl
 have h7 : (k == 7) = false := by rcases hk with rfl | rfl <;> rfl
 clear hQ hw hpl hwl hm hb hk
 go_enter Tryz.func168, Tryz.ntmps168
 go_wp2_with fail
 refine HP.out.mono ?_
 rintro e w2 ⟨v, rfl, hs, hm2⟩
 have HS := Lib.hid hs
 have HM2 := Lib.hid (HM.out.trans hm2)
 clear hs hm2 HP
 go_wp2_with fail
 go_ret
 exact ⟨v, rfl, HS.out, HM2.out⟩
set_option maxRecDepth 100000 in
set_option maxHeartbeats 4000000 in
theorem placesN_calls (w : World) (vw : Value) (wl : List Wd) (n : Int) (A B : Option Addr) (c d : Nat) (ws : List Str) (a1 a2 : QR) (hQ : QS w (.mk 4 A c ws n B d [a1, a2])) (hW : wl.length ≤ 1000) (hn0 : 0 ≤ n) (hn1 : n ≤ 20)
  (h1 : ∀ W, Pure w W → Calls Tryz.prog 168 #[qA a1, vw] W (RnP W wl.length (plcQ (wsQ wl) a1.key))) (h2 : ∀ W, Pure w W → Calls Tryz.prog 168 #[qA a2, vw] W (RnP W wl.length (plcQ (wsQ wl) a2.key))) :
  Calls Tryz.prog 168 #[qA (.mk 4 A c ws n B d [a1, a2]), vw] w (RnP w wl.length (plcQ (wsQ wl) (QR.mk 4 A c ws n B d [a1, a2]).key)) := by
 rw [QR.key_mk, show [a1, a2].map QR.key = [a1.key, a2.key] from rfl, plc_near, qA_mk, wsQ_len]
 generalize plcQ (wsQ wl) a1.key = F1 at *
 generalize plcQ (wsQ wl) a2.key = F2 at *
 obtain ⟨k1, A1, c1, ws1, n1, B1, d1, xs1⟩ := a1
 obtain ⟨k2, A2, c2, ws2, n2, B2, d2, xs2⟩ := a2
 obtain ⟨gB, oB, hBe, p0, p1, p2, p3⟩ := qcells hQ.xsH (show 0 < 2 by decide) rfl
 obtain ⟨gB', oB', hBe', r0, r1, r2, r3⟩ := qcells hQ.xsH (show 1 < 2 by decide) rfl
 rw [hBe] at hBe'
 injection hBe' with hBe'
 injection hBe' with e1 e2
 subst e1 e2 hBe
 have hle : ∃ m, m = ([QR.mk k1 A1 c1 ws1 n1 B1 d1 xs1, QR.mk k2 A2 c2 ws2 n2 B2 d2 xs2] : List QR).length := ⟨_, rfl⟩
 have hd2 : 2 ≤ d ∧ d ≤ 9223372036854775807 := by
  obtain ⟨_, _, _, e, h1, h2, _⟩ := hQ.xsH
  cases e
  exact ⟨h1, h2⟩
 simp only [Nat.zero_mul, Nat.one_mul, Nat.add_zero] at p0 p1 p2 p3 r0 r1 r2 r3
 have hm : Pure w (w.alloc (.cells #[.int .i64 4, .slice A ws.length c, .int .i64 n, .slice (some ⟨gB, oB, none⟩) 2 d] 44)) := (Mod.refl _ _).alloc _
 have HM := Lib.hid hm
 have hb := Blk.new w 44 #[.int .i64 4, .slice A ws.length c, .int .i64 n, .slice (some ⟨gB, oB, none⟩) 2 d]
 have HB := Lib.hid hb
 have HC : Hid (CellQ w gB oB (.int .i64 k1) ∧ CellQ w gB (oB + 1) (.slice A1 ws1.length c1) ∧ CellQ w gB (oB + 2) (.int .i64 n1) ∧ CellQ w gB (oB + 3) (.slice B1 xs1.length d1) ∧ CellQ w gB (oB + 4) (.int .i64 k2) ∧ CellQ w gB (oB + 4 + 1) (.slice A2 ws2.length c2) ∧ CellQ w gB (oB + 4 + 2) (.int .i64 n2) ∧ CellQ w gB (oB + 4 + 3) (.slice B2 xs2.length d2)) := Lib.hid ⟨p0, p1, p2, p3, r0, r1, r2, r3⟩
 have H1 := Lib.hid h1
 have H2 := Lib.hid h2
 simp only [qA_mk] at H1 H2
 have x0 := hb.cell 0; have x1 := hb.cell 1; have x2 := hb.cell 2; have x3 := hb.cell 3; simp at x0 x1 x2 x3
 clear hQ hm hb h1 h2 p0 p1 p2 p3 r0 r1 r2 r3 hle
 go_enter Tryz.func168, Tryz.ntmps168
 go_upto_region 5 with (fail)
 generalize (w.alloc (.cells #[.int .i64 4, .slice A ws.length c, .int .i64 n, .slice (some ⟨gB, oB, none⟩) 2 d] 44)) = w1 at *
 generalize w.heap.size = gb at *
 have HC1 := Lib.hid (show _ ∧ _ ∧ _ ∧ _ ∧ _ ∧ _ ∧ _ ∧ _ from ⟨HC.out.1.pure HM.out, HC.out.2.1.pure HM.out, HC.out.2.2.1.pure HM.out, HC.out.2.2.2.1.pure HM.out, HC.out.2.2.2.2.1.pure HM.out, HC.out.2.2.2.2.2.1.pure HM.out, HC.out.2.2.2.2.2.2.1.pure HM.out, HC.out.2.2.2.2.2.2.2.pure HM.out⟩)
 clear HC x0 x1 x2 x3
 have HGs := Lib.hid (show ∀ (D : Nat → Bool) (zzi : Nat) (zq zq' : World), (fun _ zq => (fun Z => Blk Z gb 44 #[.int .i64 4, .slice A ws.length c, .int .i64 n, .slice (some ⟨gB, oB, none⟩) 2 d] ∧ CellQ Z gB oB (.int .i64 k1) ∧ CellQ Z gB (oB + 1) (.slice A1 ws1.length c1) ∧ CellQ Z gB (oB + 2) (.int .i64 n1) ∧ CellQ Z gB (oB + 3) (.slice B1 xs1.length d1) ∧ CellQ Z gB (oB + 4) (.int .i64 k2) ∧ CellQ Z gB (oB + 4 + 1) (.slice A2 ws2.length c2) ∧ CellQ Z gB (oB + 4 + 2) (.int .i64 n2) ∧ CellQ Z gB (oB + 4 + 3) (.slice B2 xs2.length d2)) zq) D zq → Mod (fun _ => False) zq zq' → (fun _ zq => (fun Z => Blk Z gb 44 #[.int .i64 4, .slice A ws.length c, .int .i64 n, .slice (some ⟨gB, oB, none⟩) 2 d] ∧ CellQ Z gB oB (.int .i64 k1) ∧ CellQ Z gB (oB + 1) (.slice A1 ws1.length c1) ∧ CellQ Z gB (oB + 2) (.int .i64 n1) ∧ CellQ Z gB (oB + 3) (.slice B1 xs1.length d1) ∧ CellQ Z gB (oB + 4) (.int .i64 k2) ∧ CellQ Z gB (oB + 4 + 1) (.slice A2 ws2.length c2) ∧ CellQ Z gB (oB + 4 + 2) (.int .i64 n2) ∧ CellQ Z gB (oB + 4 + 3) (.slice B2 xs2.length d2)) zq) (upd D zzi true) zq' from by intro D zzi zq zq' h hm; (exact ⟨h.1.modp hm, h.2.1.pure hm, h.2.2.1.pure hm, h.2.2.2.1.pure hm, h.2.2.2.2.1.pure hm, h.2.2.2.2.2.1.pure hm, h.2.2.2.2.2.2.1.pure hm, h.2.2.2.2.2.2.2.1.pure hm, h.2.2.2.2.2.2.2.2.pure hm⟩))
 refine wp_region_inv (by kernel_rfl) (by kernel_rfl) (InvF (R := Mod (fun _ => False)) [.is (.pointer (some ⟨gb, 3, none⟩)),
   .is (.slice (some ⟨gB, oB, none⟩) 2 d),
   .is (.pointer (some ⟨gB, oB, none⟩)),
   .is (.agg #[.int .i64 k1, .slice A1 ws1.length c1, .int .i64 n1, .slice B1 xs1.length d1]),
   .is (vw),
   ⟨fun zv zw => ∃ (v_5 : Value), zv = v_5 ∧ SlI zw v_5 (rowsQ wl.length F1), (by rintro zv zw zx ⟨v_5, hze, q0⟩ hm; exact ⟨v_5, hze, (q0.pure hm)⟩), none, none⟩,
   .is (.pointer (some ⟨gb, 3, none⟩)),
   .is (.slice (some ⟨gB, oB, none⟩) 2 d),
   .is (.pointer (some ⟨gB, oB + 4, none⟩)),
   .is (.agg #[.int .i64 k2, .slice A2 ws2.length c2, .int .i64 n2, .slice B2 xs2.length d2]),
   .is (vw),
   ⟨fun zv zw => ∃ (v_11 : Value), zv = v_11 ∧ SlI zw v_11 (rowsQ wl.length F2), (by rintro zv zw zx ⟨v_11, hze, q0⟩ hm; exact ⟨v_11, hze, (q0.pure hm)⟩), none, none⟩,
   ⟨fun zv zw => ∃ (v_12 : Value), zv = v_12 ∧ SlI zw v_12 (rowsQ wl.length F1), (by rintro zv zw zx ⟨v_12, hze, q0⟩ hm; exact ⟨v_12, hze, (q0.pure hm)⟩), none, none⟩,
   ⟨fun zv zw => ∃ (v_13 : Value), zv = v_13 ∧ SlI zw v_13 (rowsQ wl.length F2), (by rintro zv zw zx ⟨v_13, hze, q0⟩ hm; exact ⟨v_13, hze, (q0.pure hm)⟩), none, none⟩]
   (PB w1 (fun _ => False) w1.heap.size (fun _ zq => (fun Z => Blk Z gb 44 #[.int .i64 4, .slice A ws.length c, .int .i64 n, .slice (some ⟨gB, oB, none⟩) 2 d] ∧ CellQ Z gB oB (.int .i64 k1) ∧ CellQ Z gB (oB + 1) (.slice A1 ws1.length c1) ∧ CellQ Z gB (oB + 2) (.int .i64 n1) ∧ CellQ Z gB (oB + 3) (.slice B1 xs1.length d1) ∧ CellQ Z gB (oB + 4) (.int .i64 k2) ∧ CellQ Z gB (oB + 4 + 1) (.slice A2 ws2.length c2) ∧ CellQ Z gB (oB + 4 + 2) (.int .i64 n2) ∧ CellQ Z gB (oB + 4 + 3) (.slice B2 xs2.length d2)) zq))) (InvF.start (PB.start (Mod.refl _ _) (Nat.le_refl _) (⟨HB.out.drew, HC1.out⟩))) ?_ ?_
 ·refine .cons ?_ (.cons ?_ (.cons ?_ (.cons ?_ (.cons ?_ (.cons ?_ (.cons ?_ (.cons ?_ (.cons ?_ (.cons ?_ (.cons ?_ (.cons ?_ (.cons ?_ (.cons ?_ .nil)))))))))))))
  ·intro D V zw1 a hR hI K hK
   obtain ⟨hM1, hB1, hG1⟩ := hI.1
   obtain ⟨hG1b, hG10, hG11, hG12, hG13, hG14, hG15, hG16, hG17⟩ := hG1
   have ze2 := hR.frame.other (t := 2) (by kernel_rfl) rfl
   rw [if_pos (by rfl)]
   go_simp
   exact hK (.pointer (some ⟨gb, 3, none⟩)) _ (hI.next hR (by kernel_rfl) (Mod.refl _ _) (PB.quiet hI.1 (Mod.refl _ _) (HGs.out D 0 zw1 zw1 (hI.1).g (Mod.refl _ _))) (upd_same V 0 _))
  ·intro D V zw1 a hR hI K hK
   obtain ⟨hM1, hB1, hG1⟩ := hI.1
   obtain ⟨hG1b, hG10, hG11, hG12, hG13, hG14, hG15, hG16, hG17⟩ := hG1
   have zd0 := hR.pred 0 (by kernel_rfl)
   have zF0 : V 0 = .pointer (some ⟨gb, 3, none⟩) := hI.2 0 zd0 rfl
   have zf0 := zF0; clear zF0
   have ze31 := hR.frame.done (t := 31) (j := 0) (by kernel_rfl) hR.ok zd0
   have zx3 := (hG1b).cell 3; have zy3 := (hG1b).frozen 3; simp at zx3
   rw [if_pos (by rfl)]
   go_simp
   exact hK (.slice (some ⟨gB, oB, none⟩) 2 d) _ (hI.next hR (by kernel_rfl) (Mod.refl _ _) (PB.quiet hI.1 (Mod.refl _ _) (HGs.out D 1 zw1 zw1 (hI.1).g (Mod.refl _ _))) (upd_same V 1 _))
  ·intro D V zw1 a hR hI K hK
   obtain ⟨hM1, hB1, hG1⟩ := hI.1
   obtain ⟨hG1b, hG10, hG11, hG12, hG13, hG14, hG15, hG16, hG17⟩ := hG1
   have zd1 := hR.pred 1 (by kernel_rfl)
   have zF1 : V 1 = .slice (some ⟨gB, oB, none⟩) 2 d := hI.2 1 zd1 rfl
   have zf1 := zF1; clear zF1
   have ze32 := hR.frame.done (t := 32) (j := 1) (by kernel_rfl) hR.ok zd1
   rw [if_pos (by rfl)]
   go_simp
   exact hK (.pointer (some ⟨gB, oB, none⟩)) _ (hI.next hR (by kernel_rfl) (Mod.refl _ _) (PB.quiet hI.1 (Mod.refl _ _) (HGs.out D 2 zw1 zw1 (hI.1).g (Mod.refl _ _))) (upd_same V 2 _))
  ·intro D V zw1 a hR hI K hK
   obtain ⟨hM1, hB1, hG1⟩ := hI.1
   obtain ⟨hG1b, hG10, hG11, hG12, hG13, hG14, hG15, hG16, hG17⟩ := hG1
   have zd2 := hR.pred 2 (by kernel_rfl)
   have zF2 : V 2 = .pointer (some ⟨gB, oB, none⟩) := hI.2 2 zd2 rfl
   have zf2 := zF2; clear zF2
   have ze33 := hR.frame.done (t := 33) (j := 2) (by kernel_rfl) hR.ok zd2
   unfold CellQ at hG10 hG11 hG12 hG13
   rw [if_pos (by rfl)]
   go_simp
   exact hK (.agg #[.int .i64 k1, .slice A1 ws1.length c1, .int .i64 n1, .slice B1 xs1.length d1]) _ (hI.next hR (by kernel_rfl) (Mod.refl _ _) (PB.quiet hI.1 (Mod.refl _ _) (HGs.out D 3 zw1 zw1 (hI.1).g (Mod.refl _ _))) (upd_same V 3 _))
  ·intro D V zw1 a hR hI K hK
   obtain ⟨hM1, hB1, hG1⟩ := hI.1
   obtain ⟨hG1b, hG10, hG11, hG12, hG13, hG14, hG15, hG16, hG17⟩ := hG1
   have ze1 := hR.frame.other (t := 1) (by kernel_rfl) rfl
   rw [if_pos (by rfl)]
   go_simp
   exact hK (vw) _ (hI.next hR (by kernel_rfl) (Mod.refl _ _) (PB.quiet hI.1 (Mod.refl _ _) (HGs.out D 4 zw1 zw1 (hI.1).g (Mod.refl _ _))) (upd_same V 4 _))
  ·intro D V zw1 a hR hI K hK
   obtain ⟨hM1, hB1, hG1⟩ := hI.1
   obtain ⟨hG1b, hG10, hG11, hG12, hG13, hG14, hG15, hG16, hG17⟩ := hG1
   have zd3 := hR.pred 3 (by kernel_rfl)
   have zF3 : V 3 = .agg #[.int .i64 k1, .slice A1 ws1.length c1, .int .i64 n1, .slice B1 xs1.length d1] := hI.2 3 zd3 rfl
   have zf3 := zF3; clear zF3
   have zd4 := hR.pred 4 (by kernel_rfl)
   have zF4 : V 4 = vw := hI.2 4 zd4 rfl
   have zf4 := zF4; clear zF4
   have ze34 := hR.frame.done (t := 34) (j := 3) (by kernel_rfl) hR.ok zd3
   have ze35 := hR.frame.done (t := 35) (j := 4) (by kernel_rfl) hR.ok zd4
   rw [if_pos (by rfl)]
   go_simp
   refine (H1.out zw1 (HM.out.trans hM1)).mono ?_
   rintro e zw2 ⟨v_0, rfl, hq, hm2⟩
   exact hK (v_0) _ (hI.next hR (by kernel_rfl) hm2 (PB.quiet hI.1 hm2 (HGs.out D 5 _ _ (hI.1).g hm2)) (⟨v_0, upd_same V 5 _, hq⟩))
  ·intro D V zw1 a hR hI K hK
   obtain ⟨hM1, hB1, hG1⟩ := hI.1
   obtain ⟨hG1b, hG10, hG11, hG12, hG13, hG14, hG15, hG16, hG17⟩ := hG1
   have ze2 := hR.frame.other (t := 2) (by kernel_rfl) rfl
   rw [if_pos (by rfl)]
   go_simp
   exact hK (.pointer (some ⟨gb, 3, none⟩)) _ (hI.next hR (by kernel_rfl) (Mod.refl _ _) (PB.quiet hI.1 (Mod.refl _ _) (HGs.out D 6 zw1 zw1 (hI.1).g (Mod.refl _ _))) (upd_same V 6 _))
  ·intro D V zw1 a hR hI K hK
   obtain ⟨hM1, hB1, hG1⟩ := hI.1
   obtain ⟨hG1b, hG10, hG11, hG12, hG13, hG14, hG15, hG16, hG17⟩ := hG1
   have zd6 := hR.pred 6 (by kernel_rfl)
   have zF6 : V 6 = .pointer (some ⟨gb, 3, none⟩) := hI.2 6 zd6 rfl
   have zf6 := zF6; clear zF6
   have ze37 := hR.frame.done (t := 37) (j := 6) (by kernel_rfl) hR.ok zd6
   have zx3 := (hG1b).cell 3; have zy3 := (hG1b).frozen 3; simp at zx3
   rw [if_pos (by rfl)]
   go_simp
   exact hK (.slice (some ⟨gB, oB, none⟩) 2 d) _ (hI.next hR (by kernel_rfl) (Mod.refl _ _) (PB.quiet hI.1 (Mod.refl _ _) (HGs.out D 7 zw1 zw1 (hI.1).g (Mod.refl _ _))) (upd_same V 7 _))
  ·intro D V zw1 a hR hI K hK
   obtain ⟨hM1, hB1, hG1⟩ := hI.1
   obtain ⟨hG1b, hG10, hG11, hG12, hG13, hG14, hG15, hG16, hG17⟩ := hG1
   have zd7 := hR.pred 7 (by kernel_rfl)
   have zF7 : V 7 = .slice (some ⟨gB, oB, none⟩) 2 d := hI.2 7 zd7 rfl
   have zf7 := zF7; clear zF7
   have ze38 := hR.frame.done (t := 38) (j := 7) (by kernel_rfl) hR.ok zd7
   rw [if_pos (by rfl)]
   go_simp
   exact hK (.pointer (some ⟨gB, oB + 4, none⟩)) _ (hI.next hR (by kernel_rfl) (Mod.refl _ _) (PB.quiet hI.1 (Mod.refl _ _) (HGs.out D 8 zw1 zw1 (hI.1).g (Mod.refl _ _))) (upd_same V 8 _))
  ·intro D V zw1 a hR hI K hK
   obtain ⟨hM1, hB1, hG1⟩ := hI.1
   obtain ⟨hG1b, hG10, hG11, hG12, hG13, hG14, hG15, hG16, hG17⟩ := hG1
   have zd8 := hR.pred 8 (by kernel_rfl)
   have zF8 : V 8 = .pointer (some ⟨gB, oB + 4, none⟩) := hI.2 8 zd8 rfl
   have zf8 := zF8; clear zF8
   have ze39 := hR.frame.done (t := 39) (j := 8) (by kernel_rfl) hR.ok zd8
   unfold CellQ at hG14 hG15 hG16 hG17
   rw [if_pos (by rfl)]
   go_simp
   exact hK (.agg #[.int .i64 k2, .slice A2 ws2.length c2, .int .i64 n2, .slice B2 xs2.length d2]) _ (hI.next hR (by kernel_rfl) (Mod.refl _ _) (PB.quiet hI.1 (Mod.refl _ _) (HGs.out D 9 zw1 zw1 (hI.1).g (Mod.refl _ _))) (upd_same V 9 _))
  ·intro D V zw1 a hR hI K hK
   obtain ⟨hM1, hB1, hG1⟩ := hI.1
   obtain ⟨hG1b, hG10, hG11, hG12, hG13, hG14, hG15, hG16, hG17⟩ := hG1
   have ze1 := hR.frame.other (t := 1) (by kernel_rfl) rfl
   rw [if_pos (by rfl)]
   go_simp
   exact hK (vw) _ (hI.next hR (by kernel_rfl) (Mod.refl _ _) (PB.quiet hI.1 (Mod.refl _ _) (HGs.out D 10 zw1 zw1 (hI.1).g (Mod.refl _ _))) (upd_same V 10 _))
  ·intro D V zw1 a hR hI K hK
   obtain ⟨hM1, hB1, hG1⟩ := hI.1
   obtain ⟨hG1b, hG10, hG11, hG12, hG13, hG14, hG15, hG16, hG17⟩ := hG1
   have zd9 := hR.pred 9 (by kernel_rfl)
   have zF9 : V 9 = .agg #[.int .i64 k2, .slice A2 ws2.length c2, .int .i64 n2, .slice B2 xs2.length d2] := hI.2 9 zd9 rfl
   have zf9 := zF9; clear zF9
   have zd10 := hR.pred 10 (by kernel_rfl)
   have zF10 : V 10 = vw := hI.2 10 zd10 rfl
   have zf10 := zF10; clear zF10
   have ze40 := hR.frame.done (t := 40) (j := 9) (by kernel_rfl) hR.ok zd9
   have ze41 := hR.frame.done (t := 41) (j := 10) (by kernel_rfl) hR.ok zd10
   rw [if_pos (by rfl)]
   go_simp
   refine (H2.out zw1 (HM.out.trans hM1)).mono ?_
   rintro e zw2 ⟨v_0, rfl, hq, hm2⟩
   exact hK (v_0) _ (hI.next hR (by kernel_rfl) hm2 (PB.quiet hI.1 hm2 (HGs.out D 11 _ _ (hI.1).g hm2)) (⟨v_0, upd_same V 11 _, hq⟩))
  ·intro D V zw1 a hR hI K hK
   obtain ⟨hM1, hB1, hG1⟩ := hI.1
   obtain ⟨hG1b, hG10, hG11, hG12, hG13, hG14, hG15, hG16, hG17⟩ := hG1
   have zd5 := hR.pred 5 (by kernel_rfl)
   have zF5 : ∃ (v_5 : Value), V 5 = v_5 ∧ SlI zw1 v_5 (rowsQ wl.length F1) := hI.2 5 zd5 rfl
   obtain ⟨v_5, zf5, b5_0⟩ := zF5
   have ze36 := hR.frame.done (t := 36) (j := 5) (by kernel_rfl) hR.ok zd5
   rw [if_pos (by rfl)]
   go_simp
   exact hK (v_5) _ (hI.next hR (by kernel_rfl) (Mod.refl _ _) (PB.quiet hI.1 (Mod.refl _ _) (HGs.out D 12 zw1 zw1 (hI.1).g (Mod.refl _ _))) (⟨v_5, upd_same V 12 _, b5_0⟩))
  ·intro D V zw1 a hR hI K hK
   obtain ⟨hM1, hB1, hG1⟩ := hI.1
   obtain ⟨hG1b, hG10, hG11, hG12, hG13, hG14, hG15, hG16, hG17⟩ := hG1
   have zd11 := hR.pred 11 (by kernel_rfl)
   have zF11 : ∃ (v_11 : Value), V 11 = v_11 ∧ SlI zw1 v_11 (rowsQ wl.length F2) := hI.2 11 zd11 rfl
   obtain ⟨v_11, zf11, b11_0⟩ := zF11
   have ze42 := hR.frame.done (t := 42) (j := 11) (by kernel_rfl) hR.ok zd11
   rw [if_pos (by rfl)]
   go_simp
   exact hK (v_11) _ (hI.next hR (by kernel_rfl) (Mod.refl _ _) (PB.quiet hI.1 (Mod.refl _ _) (HGs.out D 13 zw1 zw1 (hI.1).g (Mod.refl _ _))) (⟨v_11, upd_same V 13 _, b11_0⟩))
 ·intro D V w2 hD hI
  obtain ⟨hM1, hB1, hG1⟩ := hI.1
  have hMx := hM1
  clear hM1
  have hBx := hB1
  clear hB1
  have hGx := hG1
  clear hG1
  have zF0 : V 0 = .pointer (some ⟨gb, 3, none⟩) := hI.2 0 (hD 0 (by decide)) rfl
  have zf0 := zF0; clear zF0
  have zF1 : V 1 = .slice (some ⟨gB, oB, none⟩) 2 d := hI.2 1 (hD 1 (by decide)) rfl
  have zf1 := zF1; clear zF1
  have zF2 : V 2 = .pointer (some ⟨gB, oB, none⟩) := hI.2 2 (hD 2 (by decide)) rfl
  have zf2 := zF2; clear zF2
  have zF3 : V 3 = .agg #[.int .i64 k1, .slice A1 ws1.length c1, .int .i64 n1, .slice B1 xs1.length d1] := hI.2 3 (hD 3 (by decide)) rfl
  have zf3 := zF3; clear zF3
  have zF4 : V 4 = vw := hI.2 4 (hD 4 (by decide)) rfl
  have zf4 := zF4; clear zF4
  have zF5 : ∃ (v_5 : Value), V 5 = v_5 ∧ SlI w2 v_5 (rowsQ wl.length F1) := hI.2 5 (hD 5 (by decide)) rfl
  obtain ⟨v_5, zf5, b5_0⟩ := zF5
  have zF6 : V 6 = .pointer (some ⟨gb, 3, none⟩) := hI.2 6 (hD 6 (by decide)) rfl
  have zf6 := zF6; clear zF6
  have zF7 : V 7 = .slice (some ⟨gB, oB, none⟩) 2 d := hI.2 7 (hD 7 (by decide)) rfl
  have zf7 := zF7; clear zF7
  have zF8 : V 8 = .pointer (some ⟨gB, oB + 4, none⟩) := hI.2 8 (hD 8 (by decide)) rfl
  have zf8 := zF8; clear zF8
  have zF9 : V 9 = .agg #[.int .i64 k2, .slice A2 ws2.length c2, .int .i64 n2, .slice B2 xs2.length d2] := hI.2 9 (hD 9 (by decide)) rfl
  have zf9 := zF9; clear zF9
  have zF10 : V 10 = vw := hI.2 10 (hD 10 (by decide)) rfl
  have zf10 := zF10; clear zF10
  have zF11 : ∃ (v_11 : Value), V 11 = v_11 ∧ SlI w2 v_11 (rowsQ wl.length F2) := hI.2 11 (hD 11 (by decide)) rfl
  obtain ⟨v_11, zf11, b11_0⟩ := zF11
  have zF12 : ∃ (v_12 : Value), V 12 = v_12 ∧ SlI w2 v_12 (rowsQ wl.length F1) := hI.2 12 (hD 12 (by decide)) rfl
  obtain ⟨v_12, zf12, b12_0⟩ := zF12
  have zF13 : ∃ (v_13 : Value), V 13 = v_13 ∧ SlI w2 v_13 (rowsQ wl.length F2) := hI.2 13 (hD 13 (by decide)) rfl
  obtain ⟨v_13, zf13, b13_0⟩ := zF13
  clear hI hD HGs
  simp only [frAll, Act.put, List.setIfInBounds_toArray, List.set_cons_zero, List.set_cons_succ, Nat.zero_add, Nat.reduceAdd, zf0, zf1, zf2, zf3, zf4, zf5, zf6, zf7, zf8, zf9, zf10, zf11, zf12, zf13]
  clear zf0 zf1 zf2 zf3 zf4 zf5 zf6 zf7 zf8 zf9 zf10 zf11 zf12 zf13
  clear V D
  have HBX := Lib.hid hGx.1
  have HS1 := Lib.hid b12_0
  have HS2 := Lib.hid b13_0
  have HMX := Lib.hid (HM.out.trans hMx)
  clear hGx hMx b12_0 b13_0 b5_0 b11_0 H1 H2 HC1 HB
  generalize v_12 = p1 at *
  generalize v_13 = p2 at *
  go_upto_region 6 with (fail)
  have HGs := Lib.hid (show ∀ (D : Nat → Bool) (zzi : Nat) (zq zq' : World), (fun _ zq => (fun Z => Blk Z gb 44 #[.int .i64 4, .slice A ws.length c, .int .i64 n, .slice (some ⟨gB, oB, none⟩) 2 d] ∧ SlI Z p1 (rowsQ wl.length F1) ∧ SlI Z p2 (rowsQ wl.length F2)) zq) D zq → Mod (fun _ => False) zq zq' → (fun _ zq => (fun Z => Blk Z gb 44 #[.int .i64 4, .slice A ws.length c, .int .i64 n, .slice (some ⟨gB, oB, none⟩) 2 d] ∧ SlI Z p1 (rowsQ wl.length F1) ∧ SlI Z p2 (rowsQ wl.length F2)) zq) (upd D zzi true) zq' from by intro D zzi zq zq' h hm; (exact ⟨h.1.modp hm, h.2.1.pure hm, h.2.2.pure hm⟩))
  refine wp_region_inv (by kernel_rfl) (by kernel_rfl) (InvF (R := Mod (fun _ => False)) [.is (p1),
    .is (p2),
    .is (.pointer (some ⟨gb, 2, none⟩)),
    .is (.int .i64 n),
    ⟨fun zv zw => ∃ (v_4 : Value), zv = v_4 ∧ SlI zw v_4 (rowsQ wl.length (cutB F1 F2 n wl.length)), (by rintro zv zw zx ⟨v_4, hze, q0⟩ hm; exact ⟨v_4, hze, (q0.pure hm)⟩), none, none⟩,
    .is (p2),
    .is (p1),
    .is (.pointer (some ⟨gb, 2, none⟩)),
    .is (.int .i64 n),
    ⟨fun zv zw => ∃ (v_9 : Value), zv = v_9 ∧ SlI zw v_9 (rowsQ wl.length (cutB F2 F1 n wl.length)), (by rintro zv zw zx ⟨v_9, hze, q0⟩ hm; exact ⟨v_9, hze, (q0.pure hm)⟩), none, none⟩,
    ⟨fun zv zw => ∃ (v_10 : Value), zv = v_10 ∧ SlI zw v_10 (rowsQ wl.length (fun i j => cutB F1 F2 n wl.length i j || cutB F2 F1 n wl.length i j)), (by rintro zv zw zx ⟨v_10, hze, q0⟩ hm; exact ⟨v_10, hze, (q0.pure hm)⟩), none, none⟩,
    ⟨fun zv zw => ∃ (v_11 : Value), zv = v_11 ∧ SlI zw v_11 (rowsQ wl.length (fun i j => cutB F1 F2 n wl.length i j || cutB F2 F1 n wl.length i j)), (by rintro zv zw zx ⟨v_11, hze, q0⟩ hm; exact ⟨v_11, hze, (q0.pure hm)⟩), none, none⟩]
    (PB w2 (fun _ => False) w2.heap.size (fun _ zq => (fun Z => Blk Z gb 44 #[.int .i64 4, .slice A ws.length c, .int .i64 n, .slice (some ⟨gB, oB, none⟩) 2 d] ∧ SlI Z p1 (rowsQ wl.length F1) ∧ SlI Z p2 (rowsQ wl.length F2)) zq))) (InvF.start (PB.start (Mod.refl _ _) (Nat.le_refl _) (⟨HBX.out.drew, HS1.out.pure ((Mod.refl _ _).drew), HS2.out.pure ((Mod.refl _ _).drew)⟩))) ?_ ?_
  ·refine .cons ?_ (.cons ?_ (.cons ?_ (.cons ?_ (.cons ?_ (.cons ?_ (.cons ?_ (.cons ?_ (.cons ?_ (.cons ?_ (.cons ?_ (.cons ?_ .nil)))))))))))
   ·intro D V zw1 a hR hI K hK
    obtain ⟨hM1, hB1, hG1⟩ := hI.1
    obtain ⟨hG1b, hG1c, hG1d⟩ := hG1
    have ze5 := hR.frame.other (t := 5) (by kernel_rfl) rfl
    rw [if_pos (by rfl)]
    go_simp
    exact hK (p1) _ (hI.next hR (by kernel_rfl) (Mod.refl _ _) (PB.quiet hI.1 (Mod.refl _ _) (HGs.out D 0 zw1 zw1 (hI.1).g (Mod.refl _ _))) (upd_same V 0 _))
   ·intro D V zw1 a hR hI K hK
    obtain ⟨hM1, hB1, hG1⟩ := hI.1
    obtain ⟨hG1b, hG1c, hG1d⟩ := hG1
    have ze6 := hR.frame.other (t := 6) (by kernel_rfl) rfl
    rw [if_pos (by rfl)]
    go_simp
    exact hK (p2) _ (hI.next hR (by kernel_rfl) (Mod.refl _ _) (PB.quiet hI.1 (Mod.refl _ _) (HGs.out D 1 zw1 zw1 (hI.1).g (Mod.refl _ _))) (upd_same V 1 _))
   ·intro D V zw1 a hR hI K hK
    obtain ⟨hM1, hB1, hG1⟩ := hI.1
    obtain ⟨hG1b, hG1c, hG1d⟩ := hG1
    have ze2 := hR.frame.other (t := 2) (by kernel_rfl) rfl
    rw [if_pos (by rfl)]
    go_simp
    exact hK (.pointer (some ⟨gb, 2, none⟩)) _ (hI.next hR (by kernel_rfl) (Mod.refl _ _) (PB.quiet hI.1 (Mod.refl _ _) (HGs.out D 2 zw1 zw1 (hI.1).g (Mod.refl _ _))) (upd_same V 2 _))
   ·intro D V zw1 a hR hI K hK
    obtain ⟨hM1, hB1, hG1⟩ := hI.1
    obtain ⟨hG1b, hG1c, hG1d⟩ := hG1
    have zd2 := hR.pred 2 (by kernel_rfl)
    have zF2 : V 2 = .pointer (some ⟨gb, 2, none⟩) := hI.2 2 zd2 rfl
    have zf2 := zF2; clear zF2
    have ze45 := hR.frame.done (t := 45) (j := 2) (by kernel_rfl) hR.ok zd2
    have zx2 := (hG1b).cell 2; have zy2 := (hG1b).frozen 2; simp at zx2
    rw [if_pos (by rfl)]
    go_simp
    exact hK (.int .i64 n) _ (hI.next hR (by kernel_rfl) (Mod.refl _ _) (PB.quiet hI.1 (Mod.refl _ _) (HGs.out D 3 zw1 zw1 (hI.1).g (Mod.refl _ _))) (upd_same V 3 _))
   ·intro D V zw1 a hR hI K hK
    obtain ⟨hM1, hB1, hG1⟩ := hI.1
    obtain ⟨hG1b, hG1c, hG1d⟩ := hG1
    have zd0 := hR.pred 0 (by kernel_rfl)
    have zF0 : V 0 = p1 := hI.2 0 zd0 rfl
    have zf0 := zF0; clear zF0
    have zd1 := hR.pred 1 (by kernel_rfl)
    have zF1 : V 1 = p2 := hI.2 1 zd1 rfl
    have zf1 := zF1; clear zF1
    have zd3 := hR.pred 3 (by kernel_rfl)
    have zF3 : V 3 = .int .i64 n := hI.2 3 zd3 rfl
    have zf3 := zF3; clear zF3
    have ze43 := hR.frame.done (t := 43) (j := 0) (by kernel_rfl) hR.ok zd0
    have ze44 := hR.frame.done (t := 44) (j := 1) (by kernel_rfl) hR.ok zd1
    have ze46 := hR.frame.done (t := 46) (j := 3) (by kernel_rfl) hR.ok zd3
    rw [if_pos (by rfl)]
    go_simp
    refine (ahead_calls zw1 p1 p2 wl.length F1 F2 n hG1c hG1d hW hn0 hn1).mono ?_
    rintro e zw2 ⟨v_0, rfl, hq, hm2⟩
    exact hK (v_0) _ (hI.next hR (by kernel_rfl) hm2 (PB.quiet hI.1 hm2 (HGs.out D 4 _ _ (hI.1).g hm2)) (⟨v_0, upd_same V 4 _, hq⟩))
   ·intro D V zw1 a hR hI K hK
    obtain ⟨hM1, hB1, hG1⟩ := hI.1
    obtain ⟨hG1b, hG1c, hG1d⟩ := hG1
    have ze6 := hR.frame.other (t := 6) (by kernel_rfl) rfl
    rw [if_pos (by rfl)]
    go_simp
    exact hK (p2) _ (hI.next hR (by kernel_rfl) (Mod.refl _ _) (PB.quiet hI.1 (Mod.refl _ _) (HGs.out D 5 zw1 zw1 (hI.1).g (Mod.refl _ _))) (upd_same V 5 _))
   ·intro D V zw1 a hR hI K hK
    obtain ⟨hM1, hB1, hG1⟩ := hI.1
    obtain ⟨hG1b, hG1c, hG1d⟩ := hG1
    have ze5 := hR.frame.other (t := 5) (by kernel_rfl) rfl
    rw [if_pos (by rfl)]
    go_simp
    exact hK (p1) _ (hI.next hR (by kernel_rfl) (Mod.refl _ _) (PB.quiet hI.1 (Mod.refl _ _) (HGs.out D 6 zw1 zw1 (hI.1).g (Mod.refl _ _))) (upd_same V 6 _))
   ·intro D V zw1 a hR hI K hK
    obtain ⟨hM1, hB1, hG1⟩ := hI.1
    obtain ⟨hG1b, hG1c, hG1d⟩ := hG1
    have ze2 := hR.frame.other (t := 2) (by kernel_rfl) rfl
    rw [if_pos (by rfl)]
    go_simp
    exact hK (.pointer (some ⟨gb, 2, none⟩)) _ (hI.next hR (by kernel_rfl) (Mod.refl _ _) (PB.quiet hI.1 (Mod.refl _ _) (HGs.out D 7 zw1 zw1 (hI.1).g (Mod.refl _ _))) (upd_same V 7 _))
   ·intro D V zw1 a hR hI K hK
    obtain ⟨hM1, hB1, hG1⟩ := hI.1
    obtain ⟨hG1b, hG1c, hG1d⟩ := hG1
    have zd7 := hR.pred 7 (by kernel_rfl)
    have zF7 : V 7 = .pointer (some ⟨gb, 2, none⟩) := hI.2 7 zd7 rfl
    have zf7 := zF7; clear zF7
    have ze50 := hR.frame.done (t := 50) (j := 7) (by kernel_rfl) hR.ok zd7
    have zx2 := (hG1b).cell 2; have zy2 := (hG1b).frozen 2; simp at zx2
    rw [if_pos (by rfl)]
    go_simp
    exact hK (.int .i64 n) _ (hI.next hR (by kernel_rfl) (Mod.refl _ _) (PB.quiet hI.1 (Mod.refl _ _) (HGs.out D 8 zw1 zw1 (hI.1).g (Mod.refl _ _))) (upd_same V 8 _))
   ·intro D V zw1 a hR hI K hK
    obtain ⟨hM1, hB1, hG1⟩ := hI.1
    obtain ⟨hG1b, hG1c, hG1d⟩ := hG1
    have zd5 := hR.pred 5 (by kernel_rfl)
    have zF5 : V 5 = p2 := hI.2 5 zd5 rfl
    have zf5 := zF5; clear zF5
    have zd6 := hR.pred 6 (by kernel_rfl)
    have zF6 : V 6 = p1 := hI.2 6 zd6 rfl
    have zf6 := zF6; clear zF6
    have zd8 := hR.pred 8 (by kernel_rfl)
    have zF8 : V 8 = .int .i64 n := hI.2 8 zd8 rfl
    have zf8 := zF8; clear zF8
    have ze48 := hR.frame.done (t := 48) (j := 5) (by kernel_rfl) hR.ok zd5
    have ze49 := hR.frame.done (t := 49) (j := 6) (by kernel_rfl) hR.ok zd6
    have ze51 := hR.frame.done (t := 51) (j := 8) (by kernel_rfl) hR.ok zd8
    rw [if_pos (by rfl)]
    go_simp
    refine (ahead_calls zw1 p2 p1 wl.length F2 F1 n hG1d hG1c hW hn0 hn1).mono ?_
    rintro e zw2 ⟨v_0, rfl, hq, hm2⟩
    exact hK (v_0) _ (hI.next hR (by kernel_rfl) hm2 (PB.quiet hI.1 hm2 (HGs.out D 9 _ _ (hI.1).g hm2)) (⟨v_0, upd_same V 9 _, hq⟩))
   ·intro D V zw1 a hR hI K hK
    obtain ⟨hM1, hB1, hG1⟩ := hI.1
    obtain ⟨hG1b, hG1c, hG1d⟩ := hG1
    have zd4 := hR.pred 4 (by kernel_rfl)
    have zF4 : ∃ (v_4 : Value), V 4 = v_4 ∧ SlI zw1 v_4 (rowsQ wl.length (cutB F1 F2 n wl.length)) := hI.2 4 zd4 rfl
    obtain ⟨v_4, zf4, b4_0⟩ := zF4
    have zd9 := hR.pred 9 (by kernel_rfl)
    have zF9 : ∃ (v_9 : Value), V 9 = v_9 ∧ SlI zw1 v_9 (rowsQ wl.length (cutB F2 F1 n wl.length)) := hI.2 9 zd9 rfl
    obtain ⟨v_9, zf9, b9_0⟩ := zF9
    have ze47 := hR.frame.done (t := 47) (j := 4) (by kernel_rfl) hR.ok zd4
    have ze52 := hR.frame.done (t := 52) (j := 9) (by kernel_rfl) hR.ok zd9
    rw [if_pos (by rfl)]
    go_simp
    refine (both_calls zw1 v_4 v_9 wl.length (cutB F1 F2 n wl.length) (cutB F2 F1 n wl.length) b4_0 b9_0 hW).mono ?_
    rintro e zw2 ⟨v_0, rfl, hq, hm2⟩
    exact hK (v_0) _ (hI.next hR (by kernel_rfl) hm2 (PB.quiet hI.1 hm2 (HGs.out D 10 _ _ (hI.1).g hm2)) (⟨v_0, upd_same V 10 _, hq⟩))
   ·intro D V zw1 a hR hI K hK
    obtain ⟨hM1, hB1, hG1⟩ := hI.1
    obtain ⟨hG1b, hG1c, hG1d⟩ := hG1
    have zd10 := hR.pred 10 (by kernel_rfl)
    have zF10 : ∃ (v_10 : Value), V 10 = v_10 ∧ SlI zw1 v_10 (rowsQ wl.length (fun i j => cutB F1 F2 n wl.length i j || cutB F2 F1 n wl.length i j)) := hI.2 10 zd10 rfl
    obtain ⟨v_10, zf10, b10_0⟩ := zF10
    have ze53 := hR.frame.done (t := 53) (j := 10) (by kernel_rfl) hR.ok zd10
    rw [if_pos (by rfl)]
    go_simp
    exact hK (v_10) _ (hI.next hR (by kernel_rfl) (Mod.refl _ _) (PB.quiet hI.1 (Mod.refl _ _) (HGs.out D 11 zw1 zw1 (hI.1).g (Mod.refl _ _))) (⟨v_10, upd_same V 11 _, b10_0⟩))
  ·intro D V w3 hD hI
   obtain ⟨hM1, hB1, hG1⟩ := hI.1
   have hMx := hM1
   clear hM1
   have hBx := hB1
   clear hB1
   have hGx := hG1
   clear hG1
   have zF0 : V 0 = p1 := hI.2 0 (hD 0 (by decide)) rfl
   have zf0 := zF0; clear zF0
   have zF1 : V 1 = p2 := hI.2 1 (hD 1 (by decide)) rfl
   have zf1 := zF1; clear zF1
   have zF2 : V 2 = .pointer (some ⟨gb, 2, none⟩) := hI.2 2 (hD 2 (by decide)) rfl
   have zf2 := zF2; clear zF2
   have zF3 : V 3 = .int .i64 n := hI.2 3 (hD 3 (by decide)) rfl
   have zf3 := zF3; clear zF3
   have zF4 : ∃ (v_4 : Value), V 4 = v_4 ∧ SlI w3 v_4 (rowsQ wl.length (cutB F1 F2 n wl.length)) := hI.2 4 (hD 4 (by decide)) rfl
   obtain ⟨v_4, zf4, b4_0⟩ := zF4
   have zF5 : V 5 = p2 := hI.2 5 (hD 5 (by decide)) rfl
   have zf5 := zF5; clear zF5
   have zF6 : V 6 = p1 := hI.2 6 (hD 6 (by decide)) rfl
   have zf6 := zF6; clear zF6
   have zF7 : V 7 = .pointer (some ⟨gb, 2, none⟩) := hI.2 7 (hD 7 (by decide)) rfl
   have zf7 := zF7; clear zF7
   have zF8 : V 8 = .int .i64 n := hI.2 8 (hD 8 (by decide)) rfl
   have zf8 := zF8; clear zF8
   have zF9 : ∃ (v_9 : Value), V 9 = v_9 ∧ SlI w3 v_9 (rowsQ wl.length (cutB F2 F1 n wl.length)) := hI.2 9 (hD 9 (by decide)) rfl
   obtain ⟨v_9, zf9, b9_0⟩ := zF9
   have zF10 : ∃ (v_10 : Value), V 10 = v_10 ∧ SlI w3 v_10 (rowsQ wl.length (fun i j => cutB F1 F2 n wl.length i j || cutB F2 F1 n wl.length i j)) := hI.2 10 (hD 10 (by decide)) rfl
   obtain ⟨v_10, zf10, b10_0⟩ := zF10
   have zF11 : ∃ (v_11 : Value), V 11 = v_11 ∧ SlI w3 v_11 (rowsQ wl.length (fun i j => cutB F1 F2 n wl.length i j || cutB F2 F1 n wl.length i j)) := hI.2 11 (hD 11 (by decide)) rfl
   obtain ⟨v_11, zf11, b11_0⟩ := zF11
   clear hI hD HGs
   simp only [frAll, Act.put, List.setIfInBounds_toArray, List.set_cons_zero, List.set_cons_succ, Nat.zero_add, Nat.reduceAdd, zf0, zf1, zf2, zf3, zf4, zf5, zf6, zf7, zf8, zf9, zf10, zf11]
   clear zf0 zf1 zf2 zf3 zf4 zf5 zf6 zf7 zf8 zf9 zf10 zf11
   clear V D
   have HR := Lib.hid b11_0
   have HME := Lib.hid (HMX.out.trans hMx)
   clear hGx hMx b4_0 b9_0 b10_0 b11_0 HS1 HS2 HBX
   go_wp2_with fail
   go_ret
   exact ⟨_, rfl, HR.out, HME.out⟩

end Go.Proofs.YtanblgcgbncbpaaGreatDoor

/- What a kind of searches uses. -/
namespace Go.Proofs.YtanblgcgbncbpaaGreatDoor
set_option linter.unusedVariables false
set_option linter.unusedSimpArgs false
open Go.RowKit

theorem arr_sameQ {α : Type} {a : Array α} {i : Nat} {v : α} (h : a[i]? = some v) : a.setIfInBounds i v = a := by
 apply Array.ext_getElem?
 intro j
 rw [Array.getElem?_setIfInBounds]
 split
 ·rename_i e; subst e
  split
  ·exact h.symm
  ·rename_i hlt
   rw [Array.getElem?_eq_none (by omega)] at h
   cases h
 ·rfl
theorem setCell_sameQ {w : World} {g i : Nat} {t : TypeId} {cs : Array Value} {v : Value} (h : Blk w g t cs) (hv : cs[i]? = some v) : w.setCell ⟨g, i, none⟩ v = w := by
 have h2 := h.set i v
 rw [arr_sameQ hv] at h2
 unfold World.setCell
 unfold Blk at h
 congr 1
 apply Array.ext_getElem?
 intro j
 rw [Array.getElem?_modify]
 split
 ·rename_i e
  have e : g = j := e
  subst e
  rw [h]
  show some (Obj.cells (cs.setIfInBounds i v) t (0, 0)) = _
  rw [arr_sameQ hv]
 ·rfl
theorem setCell_same2 {w : World} {g : Nat} {t : TypeId} {a b : Value} (h : Blk w g t #[a, b]) : World.setCell (World.setCell w ⟨g, 0, none⟩ a) ⟨g, 1, none⟩ b = w := by
 rw [setCell_sameQ h rfl, setCell_sameQ h rfl]
def isK (k : Int) : Bool := decide (1 ≤ k ∧ k ≤ 13)
def UsP (w : World) (U : UseQ) (is : Bool) (e : Ending) (w' : World) : Prop := e = .returned (.tuple #[.agg #[.int .i64 (U.w0 : Int), .int .i64 (U.w1 : Int)], .agg #[.int .i64 (U.a0 : Int), .int .i64 (U.a1 : Int)], .bool U.nb, .bool is]) ∧ Pure w w'
/-- Behind the switch. -/
def UsC (w : World) (g2 g3 : Nat) (U : UseQ) (v : Value) (wx : World) : Prop := v = .bool U.nb ∧ Blk wx g2 127 #[.int .i64 (U.w0 : Int), .int .i64 (U.w1 : Int)] ∧ Blk wx g3 127 #[.int .i64 (U.a0 : Int), .int .i64 (U.a1 : Int)] ∧ Pure w wx

set_option maxRecDepth 100000 in
set_option maxHeartbeats 8000000 in
theorem uses_calls (w : World) (k : Int) : Calls Tryz.prog 92 #[.int .i64 k] w (UsP w (useQ 100 k) (isK k)) := by
 have h2 := ((Blk.new w 127 #[.int .i64 0, .int .i64 0]).alloc (.cells #[.int .i64 0, .int .i64 0] 127)).alloc (.cells #[.int .i64 2, .int .i64 100] 127)
 have h3 := (Blk.snd w (.cells #[.int .i64 0, .int .i64 0] 127) 127 #[.int .i64 0, .int .i64 0]).alloc (.cells #[.int .i64 2, .int .i64 100] 127)
 have h6 := Blk.snd (w.alloc (.cells #[.int .i64 0, .int .i64 0] 127)) (.cells #[.int .i64 0, .int .i64 0] 127) 127 #[.int .i64 2, .int .i64 100]
 rw [World.size_alloc] at h6
 have hp := ((pure_alloc w (.cells #[.int .i64 0, .int .i64 0] 127)).alloc (.cells #[.int .i64 0, .int .i64 0] 127)).alloc (.cells #[.int .i64 2, .int .i64 100] 127)
 obtain ⟨U, hU⟩ : ∃ U, useQ 100 k = U := ⟨_, rfl⟩
 obtain ⟨is, his⟩ : ∃ is, isK k = is := ⟨_, rfl⟩
 rw [hU, his]
 have HU := Lib.hid hU
 have HIS := Lib.hid his
 clear hU his
 go_enter Tryz.func92, Tryz.ntmps92
 go_upto_region 2 with (fail)
 generalize (((w.alloc (.cells #[.int .i64 0, .int .i64 0] 127)).alloc (.cells #[.int .i64 0, .int .i64 0] 127)).alloc (.cells #[.int .i64 2, .int .i64 100] 127)) = w1 at *
 generalize hg2 : w.heap.size = g2 at *
 have hgw : w.heap.size ≤ g2 := Nat.le_of_eq hg2
 clear hg2
 have H2 := Lib.hid h2
 have H3 := Lib.hid h3
 have HP : Hid (Pure w w1) := Lib.hid hp
 clear hp
 by_cases hk : 1 ≤ k ∧ k ≤ 13
 rotate_left
 ·obtain rfl : false = is := (decide_eq_false hk).symm.trans HIS.out
  have e : U = ⟨0, 0, 0, 0, false⟩ := by
   rw [← HU.out]
   unfold useQ
   rw [if_neg (by omega), if_neg (by omega), if_neg (by omega), if_neg (by omega), if_neg (by omega), if_neg (by omega)]
  subst e
  have n1 : (k == 1) = false := by simp; omega
  have n2 : (k == 2) = false := by simp; omega
  have n3 : (k == 3) = false := by simp; omega
  have n4 : (k == 4) = false := by simp; omega
  have n5 : (k == 5) = false := by simp; omega
  have n6 : (k == 6) = false := by simp; omega
  have n7 : (k == 7) = false := by simp; omega
  have n8 : (k == 8) = false := by simp; omega
  have n9 : (k == 9) = false := by simp; omega
  have n10 : (k == 10) = false := by simp; omega
  have n11 : (k == 11) = false := by simp; omega
  have n12 : (k == 12) = false := by simp; omega
  have n13 : (k == 13) = false := by simp; omega
  clear HU hk HIS h2 h3 h6
  go_upto_region 3 with (fail)
  have HGs := Lib.hid (show ∀ (D : Nat → Bool) (zzi : Nat) (zq zq' : World), (fun _ zq => (fun Z => Blk Z g2 127 #[.int .i64 0, .int .i64 0] ∧ Blk Z (g2 + 1) 127 #[.int .i64 0, .int .i64 0]) zq) D zq → Mod (fun _ => False) zq zq' → (fun _ zq => (fun Z => Blk Z g2 127 #[.int .i64 0, .int .i64 0] ∧ Blk Z (g2 + 1) 127 #[.int .i64 0, .int .i64 0]) zq) (upd D zzi true) zq' from by intro D zzi zq zq' h hm; (exact ⟨h.1.modp hm, h.2.modp hm⟩))
  refine wp_region_inv (by kernel_rfl) (by kernel_rfl) (InvF (R := Mod (fun _ => False)) [.is (.agg #[.int .i64 0, .int .i64 0]),
    .is (.agg #[.int .i64 0, .int .i64 0]),
    .any,
    .any,
    .is ((.bool false)),
    .is ((.bool false))]
    (PB w1 (fun _ => False) w1.heap.size (fun _ zq => (fun Z => Blk Z g2 127 #[.int .i64 0, .int .i64 0] ∧ Blk Z (g2 + 1) 127 #[.int .i64 0, .int .i64 0]) zq))) (InvF.start (PB.start (Mod.refl _ _) (Nat.le_refl _) (⟨H2.out, H3.out⟩))) ?_ ?_
  ·refine .cons ?_ (.cons ?_ (.cons ?_ (.cons ?_ (.cons ?_ (.cons ?_ .nil)))))
   ·intro D V zw1 a hR hI K hK
    obtain ⟨hM1, hB1, hG1⟩ := hI.1
    have ze2 := hR.frame.other (t := 2) (by kernel_rfl) rfl
    have zx0 := hG1.1.cell 0; have zx1 := hG1.1.cell 1
    simp at zx0 zx1
    rw [if_pos (by rfl)]
    go_simp
    exact hK (.agg #[.int .i64 0, .int .i64 0]) _ (hI.next hR (by kernel_rfl) (Mod.refl _ _) (PB.quiet hI.1 (Mod.refl _ _) (HGs.out D 0 zw1 zw1 (hI.1).g (Mod.refl _ _))) (upd_same V 0 _))
   ·intro D V zw1 a hR hI K hK
    obtain ⟨hM1, hB1, hG1⟩ := hI.1
    have ze3 := hR.frame.other (t := 3) (by kernel_rfl) rfl
    have zx0 := hG1.2.cell 0; have zx1 := hG1.2.cell 1
    simp at zx0 zx1
    rw [if_pos (by rfl)]
    go_simp
    exact hK (.agg #[.int .i64 0, .int .i64 0]) _ (hI.next hR (by kernel_rfl) (Mod.refl _ _) (PB.quiet hI.1 (Mod.refl _ _) (HGs.out D 1 zw1 zw1 (hI.1).g (Mod.refl _ _))) (upd_same V 1 _))
   ·intro D V zw1 a hR hI K hK
    obtain ⟨hM1, hB1, hG1⟩ := hI.1
    have zd0 := hR.pred 0 (by kernel_rfl)
    have zF0 : V 0 = .agg #[.int .i64 0, .int .i64 0] := hI.2 0 zd0 rfl
    have zf0 := zF0; clear zF0
    have ze2 := hR.frame.other (t := 2) (by kernel_rfl) rfl
    have ze9 := hR.frame.done (t := 9) (j := 0) (by kernel_rfl) hR.ok zd0
    rw [if_pos (by rfl)]
    have zx0 := hG1.1.cell 0; have zy0 := hG1.1.frozen 0
    have zx1 := hG1.1.cell 1; have zy1 := hG1.1.frozen 1
    simp at zx0 zx1
    go_simp
    rw [setCell_same2 hG1.1]
    exact hK undef _ (hI.next hR (by kernel_rfl) (Mod.refl _ _) (PB.quiet hI.1 (Mod.refl _ _) (HGs.out D 2 zw1 zw1 (hI.1).g (Mod.refl _ _))) trivial)
   ·intro D V zw1 a hR hI K hK
    obtain ⟨hM1, hB1, hG1⟩ := hI.1
    have zd1 := hR.pred 1 (by kernel_rfl)
    have zF1 : V 1 = .agg #[.int .i64 0, .int .i64 0] := hI.2 1 zd1 rfl
    have zf1 := zF1; clear zF1
    have ze3 := hR.frame.other (t := 3) (by kernel_rfl) rfl
    have ze10 := hR.frame.done (t := 10) (j := 1) (by kernel_rfl) hR.ok zd1
    rw [if_pos (by rfl)]
    have zx0 := hG1.2.cell 0; have zy0 := hG1.2.frozen 0
    have zx1 := hG1.2.cell 1; have zy1 := hG1.2.frozen 1
    simp at zx0 zx1
    go_simp
    rw [setCell_same2 hG1.2]
    exact hK undef _ (hI.next hR (by kernel_rfl) (Mod.refl _ _) (PB.quiet hI.1 (Mod.refl _ _) (HGs.out D 3 zw1 zw1 (hI.1).g (Mod.refl _ _))) trivial)
   ·intro D V zw1 a hR hI K hK
    obtain ⟨hM1, hB1, hG1⟩ := hI.1
    rw [if_pos (by rfl)]
    go_simp
    exact hK ((.bool false)) _ (hI.next hR (by kernel_rfl) (Mod.refl _ _) (PB.quiet hI.1 (Mod.refl _ _) (HGs.out D 4 zw1 zw1 (hI.1).g (Mod.refl _ _))) (upd_same V 4 _))
   ·intro D V zw1 a hR hI K hK
    obtain ⟨hM1, hB1, hG1⟩ := hI.1
    rw [if_pos (by rfl)]
    go_simp
    exact hK ((.bool false)) _ (hI.next hR (by kernel_rfl) (Mod.refl _ _) (PB.quiet hI.1 (Mod.refl _ _) (HGs.out D 5 zw1 zw1 (hI.1).g (Mod.refl _ _))) (upd_same V 5 _))
  ·intro D V w9 hD hI
   obtain ⟨hM1, hB1, hG1⟩ := hI.1
   have hMx := hM1
   clear hM1
   have hBx := hB1
   clear hB1
   have hGx := hG1
   clear hG1
   have zF0 : V 0 = .agg #[.int .i64 0, .int .i64 0] := hI.2 0 (hD 0 (by decide)) rfl
   have zf0 := zF0; clear zF0
   have zF1 : V 1 = .agg #[.int .i64 0, .int .i64 0] := hI.2 1 (hD 1 (by decide)) rfl
   have zf1 := zF1; clear zF1
   have zF4 : V 4 = (.bool false) := hI.2 4 (hD 4 (by decide)) rfl
   have zf4 := zF4; clear zF4
   have zF5 : V 5 = (.bool false) := hI.2 5 (hD 5 (by decide)) rfl
   have zf5 := zF5; clear zF5
   clear hI hD HGs
   simp only [frAll, Act.put, List.setIfInBounds_toArray, List.set_cons_zero, List.set_cons_succ, Nat.zero_add, Nat.reduceAdd, zf0, zf1, zf4, zf5]
   clear zf0 zf1 zf4 zf5
   clear V D
   have hG2 := hGx.1
   have hG3 := hGx.2
   have HP9 : Hid (Pure w w9) := Lib.hid (HP.out.trans hMx)
   clear hGx hMx hBx H2 H3 HP
   go_wp2_with fail
   have u0 := hG2.cell 0; have u1 := hG2.cell 1; simp at u0 u1
   have v0 := hG3.cell 0; have v1 := hG3.cell 1; simp at v0 v1
   try simp only [Exit.inBlock, Exit.then]
   refine bodyPost_ret (v := .tuple #[.agg #[.int .i64 0, .int .i64 0], .agg #[.int .i64 0, .int .i64 0], .bool false, .bool false]) (by simp [results, Tryz.results92, go_sem, u0, u1, v0, v1]) rfl ?_
   exact ⟨rfl, HP9.out⟩
 ·obtain rfl : true = is := (decide_eq_true hk).symm.trans HIS.out
  go_upto_block 0 with (fail)
  go_cut [4] (fun v wx => UsC w g2 (g2 + 1) U v wx)
  case first =>
   have x0 := h2.cell 0; have xf0 := h2.frozen 0; have x1 := h2.cell 1; have xf1 := h2.frozen 1; simp at x0 x1
   have y0 := h3.cell 0; have yf0 := h3.frozen 0; have y1 := h3.cell 1; have yf1 := h3.frozen 1; simp at y0 y1
   have z0 := h6.cell 0; have z1 := h6.cell 1; simp at z0 z1
   obtain rfl | rfl | rfl | rfl | rfl | rfl | rfl | rfl | rfl | rfl | rfl | rfl | rfl : k = 1 ∨ k = 2 ∨ k = 3 ∨ k = 4 ∨ k = 5 ∨ k = 6 ∨ k = 7 ∨ k = 8 ∨ k = 9 ∨ k = 10 ∨ k = 11 ∨ k = 12 ∨ k = 13 := by omega
   ·obtain rfl : (⟨0, 0, 0, 0, false⟩ : UseQ) = U := HU.out
    clear HU hk HIS h2 h3 h6
    go_wp2_with fail
    go_meet
    exact ⟨rfl, H2.out, H3.out, HP.out⟩
   ·obtain rfl : (⟨1, 1, 0, 0, false⟩ : UseQ) = U := HU.out
    clear HU hk HIS h2 h3 h6
    go_wp2_with fail
    go_meet
    exact ⟨rfl, by simpa using (H2.out.set 0 (.int .i64 1)).set 1 (.int .i64 1), (H3.out.far (by show g2 + 1 ≠ g2; omega) _).far (by show g2 + 1 ≠ g2; omega) _, (HP.out.setCell (.inr (by show w.heap.size ≤ g2; omega)) _).setCell (.inr (by show w.heap.size ≤ g2; omega)) _⟩
   ·obtain rfl : (⟨2, 10, 0, 0, false⟩ : UseQ) = U := HU.out
    clear HU hk HIS h2 h3 h6
    go_wp2_with fail
    go_meet
    exact ⟨rfl, by simpa using (H2.out.set 0 (.int .i64 2)).set 1 (.int .i64 10), (H3.out.far (by show g2 + 1 ≠ g2; omega) _).far (by show g2 + 1 ≠ g2; omega) _, (HP.out.setCell (.inr (by show w.heap.size ≤ g2; omega)) _).setCell (.inr (by show w.heap.size ≤ g2; omega)) _⟩
   ·obtain rfl : (⟨0, 0, 2, 2, true⟩ : UseQ) = U := HU.out
    clear HU hk HIS h2 h3 h6
    go_wp2_with fail
    go_meet
    exact ⟨rfl, (H2.out.far (by show g2 ≠ g2 + 1; omega) _).far (by show g2 ≠ g2 + 1; omega) _, by simpa using (H3.out.set 0 (.int .i64 2)).set 1 (.int .i64 2), (HP.out.setCell (.inr (by show w.heap.size ≤ g2 + 1; omega)) _).setCell (.inr (by show w.heap.size ≤ g2 + 1; omega)) _⟩
   ·obtain rfl : (⟨0, 0, 2, 2, true⟩ : UseQ) = U := HU.out
    clear HU hk HIS h2 h3 h6
    go_wp2_with fail
    go_meet
    exact ⟨rfl, (H2.out.far (by show g2 ≠ g2 + 1; omega) _).far (by show g2 ≠ g2 + 1; omega) _, by simpa using (H3.out.set 0 (.int .i64 2)).set 1 (.int .i64 2), (HP.out.setCell (.inr (by show w.heap.size ≤ g2 + 1; omega)) _).setCell (.inr (by show w.heap.size ≤ g2 + 1; omega)) _⟩
   ·obtain rfl : (⟨0, 0, 2, 100, false⟩ : UseQ) = U := HU.out
    clear HU hk HIS h2 h3 h6
    go_wp2_with fail
    go_meet
    exact ⟨rfl, (H2.out.far (by show g2 ≠ g2 + 1; omega) _).far (by show g2 ≠ g2 + 1; omega) _, by simpa using (H3.out.set 0 (.int .i64 2)).set 1 (.int .i64 100), (HP.out.setCell (.inr (by show w.heap.size ≤ g2 + 1; omega)) _).setCell (.inr (by show w.heap.size ≤ g2 + 1; omega)) _⟩
   ·obtain rfl : (⟨0, 0, 2, 100, false⟩ : UseQ) = U := HU.out
    clear HU hk HIS h2 h3 h6
    go_wp2_with fail
    go_meet
    exact ⟨rfl, (H2.out.far (by show g2 ≠ g2 + 1; omega) _).far (by show g2 ≠ g2 + 1; omega) _, by simpa using (H3.out.set 0 (.int .i64 2)).set 1 (.int .i64 100), (HP.out.setCell (.inr (by show w.heap.size ≤ g2 + 1; omega)) _).setCell (.inr (by show w.heap.size ≤ g2 + 1; omega)) _⟩
   ·obtain rfl : (⟨0, 0, 1, 1, false⟩ : UseQ) = U := HU.out
    clear HU hk HIS h2 h3 h6
    go_wp2_with fail
    go_meet
    exact ⟨rfl, (H2.out.far (by show g2 ≠ g2 + 1; omega) _).far (by show g2 ≠ g2 + 1; omega) _, by simpa using (H3.out.set 0 (.int .i64 1)).set 1 (.int .i64 1), (HP.out.setCell (.inr (by show w.heap.size ≤ g2 + 1; omega)) _).setCell (.inr (by show w.heap.size ≤ g2 + 1; omega)) _⟩
   ·obtain rfl : (⟨1, 1, 0, 0, false⟩ : UseQ) = U := HU.out
    clear HU hk HIS h2 h3 h6
    go_wp2_with fail
    go_meet
    exact ⟨rfl, by simpa using (H2.out.set 0 (.int .i64 1)).set 1 (.int .i64 1), (H3.out.far (by show g2 + 1 ≠ g2; omega) _).far (by show g2 + 1 ≠ g2; omega) _, (HP.out.setCell (.inr (by show w.heap.size ≤ g2; omega)) _).setCell (.inr (by show w.heap.size ≤ g2; omega)) _⟩
   ·obtain rfl : (⟨0, 0, 0, 0, true⟩ : UseQ) = U := HU.out
    clear HU hk HIS h2 h3 h6
    go_wp2_with fail
    go_meet
    exact ⟨rfl, H2.out, H3.out, HP.out⟩
   ·obtain rfl : (⟨1, 1, 0, 0, false⟩ : UseQ) = U := HU.out
    clear HU hk HIS h2 h3 h6
    go_wp2_with fail
    go_meet
    exact ⟨rfl, by simpa using (H2.out.set 0 (.int .i64 1)).set 1 (.int .i64 1), (H3.out.far (by show g2 + 1 ≠ g2; omega) _).far (by show g2 + 1 ≠ g2; omega) _, (HP.out.setCell (.inr (by show w.heap.size ≤ g2; omega)) _).setCell (.inr (by show w.heap.size ≤ g2; omega)) _⟩
   ·obtain rfl : (⟨0, 0, 0, 0, true⟩ : UseQ) = U := HU.out
    clear HU hk HIS h2 h3 h6
    go_wp2_with fail
    go_meet
    exact ⟨rfl, H2.out, H3.out, HP.out⟩
   ·obtain rfl : (⟨0, 0, 0, 0, true⟩ : UseQ) = U := HU.out
    clear HU hk HIS h2 h3 h6
    go_wp2_with fail
    go_meet
    exact ⟨rfl, H2.out, H3.out, HP.out⟩
  case rest =>
   obtain ⟨rfl, hb2, hb3, hpc⟩ := hcut
   have HPC : Hid (Pure w wc) := Lib.hid hpc
   have HC2 := Lib.hid hb2
   have HC3 := Lib.hid hb3
   clear HU hk HIS h2 h3 h6 H2 H3 HP hb2 hb3 hpc
   obtain ⟨u0, u1, u2, u3, u4⟩ := U
   have POST : Hid (∀ W, Pure w W → UsP w ⟨u0, u1, u2, u3, u4⟩ true (.returned (.tuple #[.agg #[.int .i64 (u0 : Int), .int .i64 (u1 : Int)], .agg #[.int .i64 (u2 : Int), .int .i64 (u3 : Int)], .bool u4, .bool true])) W) := Lib.hid (fun W h => ⟨rfl, h⟩)
   generalize (u0 : Int) = x0 at *
   generalize (u1 : Int) = x1 at *
   generalize (u2 : Int) = y0 at *
   generalize (u3 : Int) = y1 at *
   go_upto_region 23 with (fail)
   have HGs := Lib.hid (show ∀ (D : Nat → Bool) (zzi : Nat) (zq zq' : World), (fun _ zq => (fun Z => Blk Z g2 127 #[.int .i64 x0, .int .i64 x1] ∧ Blk Z (g2 + 1) 127 #[.int .i64 y0, .int .i64 y1]) zq) D zq → Mod (fun _ => False) zq zq' → (fun _ zq => (fun Z => Blk Z g2 127 #[.int .i64 x0, .int .i64 x1] ∧ Blk Z (g2 + 1) 127 #[.int .i64 y0, .int .i64 y1]) zq) (upd D zzi true) zq' from by intro D zzi zq zq' h hm; (exact ⟨h.1.modp hm, h.2.modp hm⟩))
   refine wp_region_inv (by kernel_rfl) (by kernel_rfl) (InvF (R := Mod (fun _ => False)) [.is (.agg #[.int .i64 x0, .int .i64 x1]),
     .is (.agg #[.int .i64 y0, .int .i64 y1]),
     .is (.bool u4),
     .any,
     .any,
     .is (.bool u4),
     .is ((.bool true))]
     (PB wc (fun _ => False) wc.heap.size (fun _ zq => (fun Z => Blk Z g2 127 #[.int .i64 x0, .int .i64 x1] ∧ Blk Z (g2 + 1) 127 #[.int .i64 y0, .int .i64 y1]) zq))) (InvF.start (PB.start (Mod.refl _ _) (Nat.le_refl _) (⟨HC2.out, HC3.out⟩))) ?_ ?_
   ·refine .cons ?_ (.cons ?_ (.cons ?_ (.cons ?_ (.cons ?_ (.cons ?_ (.cons ?_ .nil))))))
    ·intro D V zw1 a hR hI K hK
     obtain ⟨hM1, hB1, hG1⟩ := hI.1
     have ze2 := hR.frame.other (t := 2) (by kernel_rfl) rfl
     have zx0 := hG1.1.cell 0; have zx1 := hG1.1.cell 1
     simp at zx0 zx1
     rw [if_pos (by rfl)]
     go_simp
     exact hK (.agg #[.int .i64 x0, .int .i64 x1]) _ (hI.next hR (by kernel_rfl) (Mod.refl _ _) (PB.quiet hI.1 (Mod.refl _ _) (HGs.out D 0 zw1 zw1 (hI.1).g (Mod.refl _ _))) (upd_same V 0 _))
    ·intro D V zw1 a hR hI K hK
     obtain ⟨hM1, hB1, hG1⟩ := hI.1
     have ze3 := hR.frame.other (t := 3) (by kernel_rfl) rfl
     have zx0 := hG1.2.cell 0; have zx1 := hG1.2.cell 1
     simp at zx0 zx1
     rw [if_pos (by rfl)]
     go_simp
     exact hK (.agg #[.int .i64 y0, .int .i64 y1]) _ (hI.next hR (by kernel_rfl) (Mod.refl _ _) (PB.quiet hI.1 (Mod.refl _ _) (HGs.out D 1 zw1 zw1 (hI.1).g (Mod.refl _ _))) (upd_same V 1 _))
    ·intro D V zw1 a hR hI K hK
     obtain ⟨hM1, hB1, hG1⟩ := hI.1
     have ze4 := hR.frame.undone (t := 4) (j := 5) (by kernel_rfl) (hR.later 5 rfl (by kernel_rfl)) rfl
     rw [if_pos (by rfl)]
     go_simp
     exact hK (.bool u4) _ (hI.next hR (by kernel_rfl) (Mod.refl _ _) (PB.quiet hI.1 (Mod.refl _ _) (HGs.out D 2 zw1 zw1 (hI.1).g (Mod.refl _ _))) (upd_same V 2 _))
    ·intro D V zw1 a hR hI K hK
     obtain ⟨hM1, hB1, hG1⟩ := hI.1
     have zd0 := hR.pred 0 (by kernel_rfl)
     have zF0 : V 0 = .agg #[.int .i64 x0, .int .i64 x1] := hI.2 0 zd0 rfl
     have zf0 := zF0; clear zF0
     have ze2 := hR.frame.other (t := 2) (by kernel_rfl) rfl
     have ze36 := hR.frame.done (t := 36) (j := 0) (by kernel_rfl) hR.ok zd0
     rw [if_pos (by rfl)]
     have zx0 := hG1.1.cell 0; have zy0 := hG1.1.frozen 0
     have zx1 := hG1.1.cell 1; have zy1 := hG1.1.frozen 1
     simp at zx0 zx1
     go_simp
     rw [setCell_same2 hG1.1]
     exact hK undef _ (hI.next hR (by kernel_rfl) (Mod.refl _ _) (PB.quiet hI.1 (Mod.refl _ _) (HGs.out D 3 zw1 zw1 (hI.1).g (Mod.refl _ _))) trivial)
    ·intro D V zw1 a hR hI K hK
     obtain ⟨hM1, hB1, hG1⟩ := hI.1
     have zd1 := hR.pred 1 (by kernel_rfl)
     have zF1 : V 1 = .agg #[.int .i64 y0, .int .i64 y1] := hI.2 1 zd1 rfl
     have zf1 := zF1; clear zF1
     have ze3 := hR.frame.other (t := 3) (by kernel_rfl) rfl
     have ze37 := hR.frame.done (t := 37) (j := 1) (by kernel_rfl) hR.ok zd1
     rw [if_pos (by rfl)]
     have zx0 := hG1.2.cell 0; have zy0 := hG1.2.frozen 0
     have zx1 := hG1.2.cell 1; have zy1 := hG1.2.frozen 1
     simp at zx0 zx1
     go_simp
     rw [setCell_same2 hG1.2]
     exact hK undef _ (hI.next hR (by kernel_rfl) (Mod.refl _ _) (PB.quiet hI.1 (Mod.refl _ _) (HGs.out D 4 zw1 zw1 (hI.1).g (Mod.refl _ _))) trivial)
    ·intro D V zw1 a hR hI K hK
     obtain ⟨hM1, hB1, hG1⟩ := hI.1
     have zd2 := hR.pred 2 (by kernel_rfl)
     have zF2 : V 2 = .bool u4 := hI.2 2 zd2 rfl
     have zf2 := zF2; clear zF2
     have ze38 := hR.frame.done (t := 38) (j := 2) (by kernel_rfl) hR.ok zd2
     rw [if_pos (by rfl)]
     go_simp
     exact hK (.bool u4) _ (hI.next hR (by kernel_rfl) (Mod.refl _ _) (PB.quiet hI.1 (Mod.refl _ _) (HGs.out D 5 zw1 zw1 (hI.1).g (Mod.refl _ _))) (upd_same V 5 _))
    ·intro D V zw1 a hR hI K hK
     obtain ⟨hM1, hB1, hG1⟩ := hI.1
     rw [if_pos (by rfl)]
     go_simp
     exact hK ((.bool true)) _ (hI.next hR (by kernel_rfl) (Mod.refl _ _) (PB.quiet hI.1 (Mod.refl _ _) (HGs.out D 6 zw1 zw1 (hI.1).g (Mod.refl _ _))) (upd_same V 6 _))
   ·intro D V w9 hD hI
    obtain ⟨hM1, hB1, hG1⟩ := hI.1
    have hMx := hM1
    clear hM1
    have hBx := hB1
    clear hB1
    have hGx := hG1
    clear hG1
    have zF0 : V 0 = .agg #[.int .i64 x0, .int .i64 x1] := hI.2 0 (hD 0 (by decide)) rfl
    have zf0 := zF0; clear zF0
    have zF1 : V 1 = .agg #[.int .i64 y0, .int .i64 y1] := hI.2 1 (hD 1 (by decide)) rfl
    have zf1 := zF1; clear zF1
    have zF2 : V 2 = .bool u4 := hI.2 2 (hD 2 (by decide)) rfl
    have zf2 := zF2; clear zF2
    have zF5 : V 5 = .bool u4 := hI.2 5 (hD 5 (by decide)) rfl
    have zf5 := zF5; clear zF5
    have zF6 : V 6 = (.bool true) := hI.2 6 (hD 6 (by decide)) rfl
    have zf6 := zF6; clear zF6
    clear hI hD HGs
    simp only [frAll, Act.put, List.setIfInBounds_toArray, List.set_cons_zero, List.set_cons_succ, Nat.zero_add, Nat.reduceAdd, zf0, zf1, zf2, zf5, zf6]
    clear zf0 zf1 zf2 zf5 zf6
    clear V D
    have hG2 := hGx.1
    have hG3 := hGx.2
    have HP9 : Hid (Pure w w9) := Lib.hid (HPC.out.trans hMx)
    clear hGx hMx hBx HC2 HC3 HPC
    go_wp2_with fail
    have p0 := hG2.cell 0; have p1 := hG2.cell 1; simp at p0 p1
    have q0 := hG3.cell 0; have q1 := hG3.cell 1; simp at q0 q1
    try simp only [Exit.inBlock, Exit.then]
    refine bodyPost_ret (v := .tuple #[.agg #[.int .i64 x0, .int .i64 x1], .agg #[.int .i64 y0, .int .i64 y1], .bool u4, .bool true]) (by simp [results, Tryz.results92, go_sem, p0, p1, q0, q1]) rfl ?_
    exact POST.out _ HP9.out

end Go.Proofs.YtanblgcgbncbpaaGreatDoor
