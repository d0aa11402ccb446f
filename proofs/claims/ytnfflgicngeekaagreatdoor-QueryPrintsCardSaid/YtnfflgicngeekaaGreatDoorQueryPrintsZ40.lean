/- Texts of the proof of QueryPrints, put together: StpC, Qgn, Qsp, QrC, QrD, QrG, QrH, QrI, Smq, PrtP, PrtA. -/
import Derived.Test.YtnfflgicngeekaaGreatDoorQueryPrintsZ2
import Derived.Test.YtnfflgicngeekaaGreatDoorQueryPrintsZ12
import Derived.Test.YtnfflgicngeekaaGreatDoorQueryPrintsZ19
import Derived.Test.YtnfflgicngeekaaGreatDoorQueryPrintsZ21
import Derived.Test.YtnfflgicngeekaaGreatDoorQueryPrintsZ23
import Derived.Test.YtnfflgicngeekaaGreatDoorQueryPrintsZ27
import Derived.Test.YtnfflgicngeekaaGreatDoorQueryPrintsZ34
import Derived.Test.YtnfflgicngeekaaGreatDoorQueryPrintsZ37
import Derived.Test.YtnfflgicngeekaaGreatDoorQueryPrintsZ38
import Derived.Test.YtnfflgicngeekaaGreatDoorQueryPrintsZ39
import Derived.Deep.RegionLaw
import Derived.Deep.DeepCutAuto
import Derived.Lib.Join
import Derived.Lib.ItoaNum
/- Steps of regions that draw their order: a call by its contract; appends of one search, of one string. -/
namespace Go.Proofs.YtnfflgicngeekaaGreatDoor
set_option linter.unusedVariables false
set_option linter.unusedSimpArgs false
open Go.RowKit

theorem step_callQ {P : Program} {ops : Array Oper} {o : Oper} {a : Act} {w : World} {K : Act → World → Prop} {Q : Exit → Act → World → Prop} {E : Prop} (hg : o.guard = none) (f : FuncId) (args : Array Operand) (tys : Array TypeId)
  (hop : o.op = Op.call { callee := Callee.value (Operand.func f), args := args, argTypes := tys }) (hf : (P.funcs[f]?).map (fun fn => (fn.name == "runtime.NumGoroutine", fn.body.isNone)) = some (false, false)) (vs : Array Value) (hvs : args.map a.eval = vs) {R : Ending → World → Prop} (hC : Calls P f vs w R) (hR : ∀ e w', R e w' → ∃ v, e = .returned v ∧ K (a.put o.dst v) w') : if Region.wanted o (yielded ops a.tmps) = true then Oper.wp P o a w K Q else E := by
 rw [if_pos (by simp [Region.wanted, hg])]
 unfold Oper.wp
 have h : (execOp a.eval o).run P w = .ok (.enter f vs) w := by
  unfold execOp
  cases hfn : P.funcs[f]? with
  | none => rw [hfn] at hf; cases hf
  | some fn =>
   rw [hfn] at hf
   have h2 : (fn.name == "runtime.NumGoroutine", fn.body.isNone) = (false, false) := Option.some.inj hf
   injection h2 with h3 h4
   simp only [hop, resolve, invoke, Sem.run_bind, Sem.run_pure, Result.andThen_ok, hvs, Act.eval, Deferred.ofValue, callFunc]
   have h5 : ¬ fn.name = "runtime.NumGoroutine" := by simpa using h3
   have h6 : ¬ fn.body = none := fun e => by rw [e] at h4; cases h4
   simp [hfn, h5, h6]
 rw [h]
 show Calls P f vs w _
 refine hC.mono (fun e w' h => ?_)
 obtain ⟨v, rfl, hk⟩ := hR e w' h
 exact hk
theorem qV_oneS (l : List QR) : ∀ u ∈ qV l, u.oneCell' = true := by
 intro u hu
 obtain ⟨x, _, hx⟩ := List.mem_flatMap.1 hu
 obtain ⟨k, A, c, ws, n, B, d, xs⟩ := x
 simp only [qC, List.mem_cons, List.not_mem_nil, or_false] at hx
 rcases hx with rfl | rfl | rfl | rfl <;> rfl
theorem own_formS {w : World} {base size n : Nat} {e : TypeId} {v : Value} {xs : List Value} (h : w.ownsRow base e size v n xs) : ∃ A c, v = .slice A n c := by
 rcases h.2 with ⟨h1, h2⟩ | ⟨g, cap, cur, h1, _⟩
 ·exact ⟨none, 0, by rw [h1, h2]⟩
 ·exact ⟨_, _, h1⟩
theorem add_cell {w : World} {g : Nat} {t : TypeId} {cs : List Value} (hB : Blk w g t cs.toArray) : ∀ j u, cs[j]? = some u → w.cell? ((⟨g, 0, none⟩ : Addr).add j) = some u := by
 intro j u hj
 have h : w.cell? ⟨g, j, none⟩ = some u := by rw [hB.cell]; simpa using hj
 unfold Addr.add
 split
 ·rename_i h0; subst h0; exact h
 ·simpa using h
set_option maxRecDepth 100000 in
/-- append of a search to a row that is one's own. -/
theorem run_app4 (w : World) (ty : TypeId) (base n g : Nat) (v : Value) (l : List QR) (q : QR) (hown : w.ownsRow base 29 4 v n (qV l)) (hB : Blk w g 29 (qC q).toArray) (hb : base ≤ w.heap.size) (hn : n ≤ 1000000) :
  ∃ A c w', (Builtin.append_ #[27, 27] ty #[v, .slice (some ⟨g, 0, none⟩) 1 1]).run Tryz.prog w = .ok (.slice A (n + 1) c) w' ∧ w'.ownsRow base 29 4 (.slice A (n + 1) c) (n + 1) (qV (l ++ [q])) ∧ w.grownBy w' v.ownBlock ∧ ((Value.slice A (n + 1) c).ownBlock = v.ownBlock ∨ (Value.slice A (n + 1) c).ownBlock = some w.heap.size) := by
 obtain ⟨i0, hi0, hz0, hz1, hz2⟩ := info_parts info_qry
 obtain ⟨v', w', hr, h2, h3, h4, h5⟩ := run_append_own_at (P := Tryz.prog) w base 27 ty 29 i0 _ 4 64 Tryz.underlying27 hi0 hz0 hz1 hz2 rfl (by omega) v n (qV l) hown ⟨g, 0, none⟩ 1 1 (qC q) (by rw [qC_len]) (add_cell hB) (fun u hu => qV_oneS [q] u (by simpa [qV] using hu)) (by simp [maxLen]; omega) (by omega) hb
 obtain ⟨A, c, rfl⟩ := own_formS h2
 rw [← qV_snoc] at h2
 exact ⟨A, c, w', hr, h2, h3, h5⟩
set_option maxRecDepth 100000 in
/-- append of a string to a row that is one's own. -/
theorem run_appS (w : World) (ty : TypeId) (base n g : Nat) (v : Value) (l : List Str) (s : Str) (hown : w.ownsRow base 9 1 v n (strsV l)) (hB : Blk w g 9 #[.string ⟨s.toArray⟩]) (hb : base ≤ w.heap.size) (hn : n ≤ 1000000) :
  ∃ A c w', (Builtin.append_ #[26, 26] ty #[v, .slice (some ⟨g, 0, none⟩) 1 1]).run Tryz.prog w = .ok (.slice A (n + 1) c) w' ∧ w'.ownsRow base 9 1 (.slice A (n + 1) c) (n + 1) (strsV (l ++ [s])) ∧ w.grownBy w' v.ownBlock ∧ ((Value.slice A (n + 1) c).ownBlock = v.ownBlock ∨ (Value.slice A (n + 1) c).ownBlock = some w.heap.size) := by
 obtain ⟨i0, hi0, hz0, hz1, hz2⟩ := info_parts info_strS
 obtain ⟨v', w', hr, h2, h3, h4, h5⟩ := run_append_own_at (P := Tryz.prog) w base 26 ty 9 i0 _ 1 16 Tryz.underlying26 hi0 hz0 hz1 hz2 rfl (by omega) v n (strsV l) hown ⟨g, 0, none⟩ 1 1 [.string ⟨s.toArray⟩] rfl (add_cell (cs := [.string ⟨s.toArray⟩]) hB) (by simp [Value.oneCell']) (by simp [maxLen]; omega) (by omega) hb
 obtain ⟨A, c, rfl⟩ := own_formS h2
 exact ⟨A, c, w', hr, by simpa [strsV] using h2, h3, h5⟩

end Go.Proofs.YtnfflgicngeekaaGreatDoor

/- Searches that are made. -/
namespace Go.Proofs.YtnfflgicngeekaaGreatDoor
set_option linter.unusedVariables false
set_option linter.unusedSimpArgs false
open Go.RowKit

def cQ : Nat → Nat
 | 0 => 6
 | d + 1 => 45 + 3 * cQ d
def sQ : Nat → Nat
 | 0 => 1
 | d + 1 => 7 + 3 * sQ d
theorem cQ_le {d : Nat} (h : d ≤ 3) : 6 ≤ cQ d ∧ cQ d ≤ 747 := by
 match d, h with
 | 0, _ => decide
 | 1, _ => decide
 | 2, _ => decide
 | 3, _ => decide
theorem cQ_le2 {d : Nat} (h : d ≤ 2) : cQ d ≤ 234 := by
 match d, h with
 | 0, _ => decide
 | 1, _ => decide
 | 2, _ => decide
theorem GatQ.strm {w w' : World} {base b8 b12 sz c b N : Nat} {A : Option Addr} {qs : List QR} (h : GatQ w base b8 b12 sz A c qs) (hS : Strm w b N) (hm : Mod (· = b) w w') : GatQ w' base b8 b12 sz A c qs := by
 obtain ⟨h1, h2, h3⟩ := h
 refine ⟨own_mod h1 hm (fun k hk e => ?_), h2, fun q hq => ?_⟩
 ·subst e
  obtain ⟨_, _, _, _, hB, _⟩ := hS
  exact absurd (own_ty h1 hk hB) (by decide)
 ·obtain ⟨a, b, c, d, e⟩ := h3 q hq
  exact ⟨a.strm hS hm, b, c, d, e⟩
theorem byw_min {d : Nat} {dI : Int} (h0 : (d : Int) ≤ dI) (h1 : dI ≤ (d : Int)) : ∃ dm : Nat, min dI 2 = (dm : Int) ∧ dm ≤ 2 ∧ cB dm + 1 ≤ cQ d ∧ sB dm ≤ sQ d := by
 match d with
 | 0 => exact ⟨0, by omega, by omega, by decide, by decide⟩
 | 1 => exact ⟨1, by omega, by omega, by decide, by decide⟩
 | d + 2 =>
  refine ⟨2, by omega, by omega, ?_, ?_⟩
  ·have : cB 2 = 41 := by decide
   rw [this, cQ]
   omega
  ·have : sB 2 = 7 := by decide
   rw [this, sQ]
   omega
theorem qb_one {k n : Int} {q1 : Qry} (hk : -1000000 ≤ k ∧ k ≤ 1000000) (hn : -1000000 ≤ n ∧ n ≤ 1000000) (h1 : QB 100 q1) : QB 100 (.mk k [] n [q1]) := .mk (by omega) (by omega) (by omega) (by omega) (by simp) (fun x hx => by cases hx) (by simp) (fun a ha => by rw [List.mem_singleton.1 ha]; exact h1)
/-- One of some searches. -/
def Pk2P (w : World) (b N : Nat) (l : List QR) (e : Ending) (w' : World) : Prop := ∃ q ∈ l, e = .returned (qA q) ∧ Strm w' b (N + 1) ∧ Mod (· = b) w w'
set_option maxRecDepth 100000 in
set_option maxHeartbeats 4000000 in
theorem pick2_calls (w : World) (b N g : Nat) (l : List QR) (hS : Strm w b N) (hB : Blk w g 29 (qV l).toArray) (hN : N ≤ 900000000) (h0 : 0 < l.length) (hl : l.length ≤ 1000) : Calls Tryz.prog 101 #[.pointer (some ⟨b, 0, none⟩), .slice (some ⟨g, 0, none⟩) l.length l.length] w (Pk2P w b N l) := by
 have h40 := Blk.new w 29 #[.int .i64 0, .slice none 0 0, .int .i64 0, .slice none 0 0]
 have hP0 := pure_alloc w (.cells #[.int .i64 0, .slice none 0 0, .int .i64 0, .slice none 0 0] 29)
 have hS0 := hS.alloc (.cells #[.int .i64 0, .slice none 0 0, .int .i64 0, .slice none 0 0] 29)
 have hb4 := hS.lt
 have hg0 := hB.lt
 have hgb : g ≠ b := fun e => by
  subst e
  obtain ⟨_, _, _, _, h, _⟩ := hS
  unfold Blk at h hB
  rw [h] at hB
  injection hB with hB
  injection hB with _ hB
  exact absurd hB (by decide)
 have hB0 := hB.alloc (.cells #[.int .i64 0, .slice none 0 0, .int .i64 0, .slice none 0 0] 29)
 clear hS hB
 go_enter Tryz.func101, Tryz.ntmps101
 go_upto_region 1 with (fail)
 generalize (w.alloc (.cells #[.int .i64 0, .slice none 0 0, .int .i64 0, .slice none 0 0] 29)) = w0 at *
 generalize hg4 : w.heap.size = g4 at *
 have hg4w : w.heap.size ≤ g4 := Nat.le_of_eq hg4
 have hg4v : g4 ≤ w.heap.size := Nat.le_of_eq hg4.symm
 clear hg4
 go_wp2_with fail
 refine (next_calls w0 b N (l.length : Int) hS0 (by omega) (by omega) (by omega)).mono ?_
 rintro e w1 ⟨k, hk0, hk1, rfl, hS1, hM1⟩
 obtain ⟨i, rfl⟩ : ∃ i : Nat, k = (i : Int) := ⟨k.toNat, by omega⟩
 have hi : i < l.length := by omega
 have K1 := Lib.hid (h40.mod hM1 (by omega))
 have HM1 : Hid (Mod (· = b) w w1) := Lib.hid ((Mod.of_pure hP0 : Mod (· = b) w w0).trans hM1)
 have hBr := (hB0.modb hM1 hgb).row0
 obtain ⟨k1, A1, c1, ws1, n1, B1, d1, xs1, hq⟩ := QR.ex l[i]
 have HMEM : Hid (QR.mk k1 A1 c1 ws1 n1 B1 d1 xs1 ∈ l) := Lib.hid (by rw [← hq]; exact List.getElem_mem hi)
 have hg : ∀ j, j < 4 → (qV l)[i * 4 + j]? = (qC l[i])[j]? := fun j hj => qV_get l i hi j hj
 rw [hq] at hg
 have q0 := hBr.cell (hg 0 (by omega))
 have q1 := hBr.cell (hg 1 (by omega))
 have q2 := hBr.cell (hg 2 (by omega))
 have q3 := hBr.cell (hg 3 (by omega))
 simp only [Nat.zero_add, Nat.add_zero] at q0 q1 q2 q3
 clear hg hBr hB0 h40 hP0 hS0 hM1 hq
 have h4F := st4_blk (a := .int .i64 k1) (b := .slice A1 ws1.length c1) (c := .int .i64 n1) (d := .slice B1 xs1.length d1) K1.out
 have HMF : Hid (Mod (· = g4) (w1) (((((w1).setCell ⟨g4, 0, none⟩ (.int .i64 k1)).setCell ⟨g4, 1, none⟩ (.slice A1 ws1.length c1)).setCell ⟨g4, 2, none⟩ (.int .i64 n1)).setCell ⟨g4, 3, none⟩ (.slice B1 xs1.length d1))) := Lib.hid st4_mod
 have HSF := Lib.hid ((((hS1.setCell (p := ⟨g4, 0, none⟩) (by show b < g4; omega) (.int .i64 k1)).setCell (p := ⟨g4, 1, none⟩) (by show b < g4; omega) (.slice A1 ws1.length c1)).setCell (p := ⟨g4, 2, none⟩) (by show b < g4; omega) (.int .i64 n1)).setCell (p := ⟨g4, 3, none⟩) (by show b < g4; omega) (.slice B1 xs1.length d1))
 have HMM := Lib.hid (mod_up HM1.out HMF.out hg4w)
 have hh4 := K1.out
 have y0 := hh4.cell 0; have yf0 := hh4.frozen 0; have y1 := hh4.cell 1; have yf1 := hh4.frozen 1; have y2 := hh4.cell 2; have yf2 := hh4.frozen 2; have y3 := hh4.cell 3; have yf3 := hh4.frozen 3; simp at y0 y1 y2 y3
 clear hh4
 go_wp2_with fail
 have x0 := h4F.cell 0; have x1 := h4F.cell 1; have x2 := h4F.cell 2; have x3 := h4F.cell 3; simp at x0 x1 x2 x3
 try simp only [Exit.inBlock, Exit.then]
 refine bodyPost_ret (v := .agg #[.int .i64 k1, .slice A1 ws1.length c1, .int .i64 n1, .slice B1 xs1.length d1]) (by simp [results, Tryz.results101, go_sem, x0, x1, x2, x3]) rfl ?_
 exact ⟨_, HMEM.out, rfl, HSF.out, HMM.out⟩

set_option maxRecDepth 100000 in
set_option maxHeartbeats 8000000 in
theorem queryG_calls (b : Nat) : ∀ (d : Nat) (w : World) (N : Nat) (dI : Int), dI = (d : Int) → d ≤ 3 → Strm w b N → N + 1000 * d ≤ 700000000 → Calls Tryz.prog 39 #[.pointer (some ⟨b, 0, none⟩), .int .i64 dI] w (QgP w b (N + cQ d) (sQ d)) := by
 intro d
 induction d with
 | zero =>
  intro w N dI hdI _ hS hN
  have HIH : Hid True := Lib.hid trivial
  have hcd : 6 ≤ cQ 0 := by decide
  replace hN : N ≤ 700000000 := by omega
  have hd1 : dI ≤ 0 := by omega
  have hd2 : 0 ≤ dI := by omega
  clear hdI
  have h40 := Blk.new w 29 #[.int .i64 0, .slice none 0 0, .int .i64 0, .slice none 0 0]
  have hP0 := pure_alloc w (.cells #[.int .i64 0, .slice none 0 0, .int .i64 0, .slice none 0 0] 29)
  have hS0 := hS.alloc (.cells #[.int .i64 0, .slice none 0 0, .int .i64 0, .slice none 0 0] 29)
  have hb4 := hS.lt
  have hsz : w.heap.size + 1 ≤ (w.alloc (.cells #[.int .i64 0, .slice none 0 0, .int .i64 0, .slice none 0 0] 29)).heap.size := by simp
  clear hS
  go_enter Tryz.func39, Tryz.ntmps39
  go_upto_region 1 with (fail)
  generalize (w.alloc (.cells #[.int .i64 0, .slice none 0 0, .int .i64 0, .slice none 0 0] 29)) = w0 at *
  generalize hg4 : w.heap.size = g4 at *
  have hg4w : w.heap.size ≤ g4 := Nat.le_of_eq hg4
  have hg4v : g4 ≤ w.heap.size := Nat.le_of_eq hg4.symm
  clear hg4
  go_wp2_with fail
  refine (next_calls w0 b N 12 hS0 (by omega) (by omega) (by omega)).mono ?_
  rintro e w1 ⟨k, hk0, hk6, rfl, hS1, hM1⟩
  have H4 := Lib.hid (h40.mod hM1 (by omega))
  have HM : Hid (Mod (· = b) w w1) := Lib.hid ((Mod.of_pure hP0 : Mod (· = b) w w0).trans hM1)
  have hsz1 := hM1.size
  clear h40 hP0 hS0 hM1
  have HM1 := HM
  have K1 := H4
  obtain ⟨ca, hca⟩ : ∃ ca, decide (k < 3 ∨ dI = 0) = ca := ⟨_, rfl⟩
  go_upto_region 2 with (fail)
  go_cut [9] from 10 to 15 (fun p wx => p = .bool ca ∧ w1 = wx)
  case first =>
   clear HIH
   by_cases h2 : k < 3
   ·obtain rfl : true = ca := by rw [← hca]; exact (decide_eq_true (.inl h2)).symm
    clear hca
    go_wp2_with fail
    go_meet
    exact ⟨by first | rfl | simp, rfl⟩
   ·by_cases h0 : dI = 0
    ·obtain rfl : true = ca := by rw [← hca]; exact (decide_eq_true (.inr h0)).symm
     clear hca
     subst h0
     go_wp2_with fail
     go_meet
     exact ⟨by first | rfl | simp, rfl⟩
    ·obtain rfl : false = ca := by rw [← hca]; exact (decide_eq_false (by omega)).symm
     have h0i : (dI == 0) = false := by simpa using h0
     clear hca h0
     go_wp2_with fail
     go_meet
     exact ⟨by first | rfl | simp, rfl⟩
  case rest =>
   obtain ⟨rfl, rfl⟩ := hcut
   cases ca with
   | true =>
    clear hca HIH
    obtain ⟨dm, hdm, hdm2⟩ : ∃ dm : Nat, min dI 2 = (dm : Int) ∧ dm ≤ 2 ∧ cB dm + 1 ≤ cQ (0) ∧ sB dm ≤ sQ (0) := byw_min (d := 0) (by omega) (by omega)
    have HC := Lib.hid (byWordsG_calls b dm w1 (N + 1) (min dI 2) hdm hdm2.1 hS1 (by omega))
    have HDM := Lib.hid hdm2
    clear hdm hdm2
    go_wp2_with fail
    refine HC.out.mono ?_
    rintro e w2 ⟨q1, rfl, hq1, hf1, hb1, hsz1, hS2, hM2, hz1⟩
    obtain ⟨hd2, hd3, hd4⟩ := HDM.out
    have HM2 := Lib.hid (HM1.out.trans hM2)
    have K2 := Lib.hid (K1.out.mod hM2 (by omega))
    have HQ1 := Lib.hid hq1
    have hsz12 := hM2.size
    have HF1 := Lib.hid (hf1.up (b1 := g4 + 1) (by omega))
    have HBq1 := Lib.hid hb1
    have HZ1 := Lib.hid hz1
    obtain ⟨k1, A1, c1, ws1, n1, B1, d1, xs1, rfl⟩ := q1.ex
    rw [qA_mk]
    clear HC hM2 hf1 hb1 hz1 hq1
    have hst : ∀ g arr fr, (w2).heap[g]? = some (.cells arr 9 fr) → ¬ g = g4 := fun g arr fr hg he => by
     subst he
     have h := K2.out
     unfold Blk at h
     rw [hg] at h
     injection h with h
     injection h with _ h
     exact absurd h (by decide)
    have h4F := st4_blk (a := .int .i64 k1) (b := .slice A1 ws1.length c1) (c := .int .i64 n1) (d := .slice B1 xs1.length d1) K2.out
    have HMF : Hid (Mod (· = g4) (w2) (((((w2).setCell ⟨g4, 0, none⟩ (.int .i64 k1)).setCell ⟨g4, 1, none⟩ (.slice A1 ws1.length c1)).setCell ⟨g4, 2, none⟩ (.int .i64 n1)).setCell ⟨g4, 3, none⟩ (.slice B1 xs1.length d1))) := Lib.hid st4_mod
    have HSF := Lib.hid ((((hS2.setCell (p := ⟨g4, 0, none⟩) (by show b < g4; omega) (.int .i64 k1)).setCell (p := ⟨g4, 1, none⟩) (by show b < g4; omega) (.slice A1 ws1.length c1)).setCell (p := ⟨g4, 2, none⟩) (by show b < g4; omega) (.int .i64 n1)).setCell (p := ⟨g4, 3, none⟩) (by show b < g4; omega) (.slice B1 xs1.length d1))
    have HMM := Lib.hid (mod_up HM2.out HMF.out hg4w)
    have HQS : Hid (QS (((((w2).setCell ⟨g4, 0, none⟩ (.int .i64 k1)).setCell ⟨g4, 1, none⟩ (.slice A1 ws1.length c1)).setCell ⟨g4, 2, none⟩ (.int .i64 n1)).setCell ⟨g4, 3, none⟩ (.slice B1 xs1.length d1)) (.mk k1 A1 c1 ws1 n1 B1 d1 xs1)) := Lib.hid (HQ1.out.modF HF1.out st4_mod hst (fun g hg => by show ¬ g = g4; omega))
    have hh4 := K2.out
    have y0 := hh4.cell 0; have yf0 := hh4.frozen 0; have y1 := hh4.cell 1; have yf1 := hh4.frozen 1; have y2 := hh4.cell 2; have yf2 := hh4.frozen 2; have y3 := hh4.cell 3; have yf3 := hh4.frozen 3; simp at y0 y1 y2 y3
    clear hh4
    go_wp2_with fail
    have x0 := h4F.cell 0; have x1 := h4F.cell 1; have x2 := h4F.cell 2; have x3 := h4F.cell 3; simp at x0 x1 x2 x3
    try simp only [Exit.inBlock, Exit.then]
    refine bodyPost_ret (v := .agg #[.int .i64 k1, .slice A1 ws1.length c1, .int .i64 n1, .slice B1 xs1.length d1]) (by simp [results, Tryz.results39, go_sem, x0, x1, x2, x3]) rfl ?_
    exact ⟨.mk k1 A1 c1 ws1 n1 B1 d1 xs1, rfl, HQS.out, HF1.out.up (by omega), HBq1.out, (by omega), HSF.out.more (by first | omega | (have := HCM.out; omega)), HMM.out, HZ1.out⟩
   | false =>
    have hkd : ¬ (k < 3 ∨ dI = 0) := of_decide_eq_false hca
    clear hca
    exact absurd (.inr (by omega)) hkd
 | succ d ih =>
  intro w N dI hdI hd hS hN
  have HIH := Lib.hid (fun (w : World) (N : Nat) (dI : Int) (h : dI = (d : Int)) (hS : Strm w b N) (hN : N + 1000 * d ≤ 700000000) => ih w N dI h (by omega) hS hN)
  have hcb := cQ_le (show d ≤ 3 by omega)
  have hcb2 := cQ_le (show d + 1 ≤ 3 by omega)
  have hcb3 := cQ_le2 (show d ≤ 2 by omega)
  have hcd : 45 + 3 * cQ d ≤ cQ (d + 1) := Nat.le_refl _
  have hsd : 7 + 3 * sQ d ≤ sQ (d + 1) := Nat.le_refl _
  have HNN := Lib.hid hN
  replace hN : N ≤ 700000000 := by omega
  have hd1 : dI ≤ (d : Int) + 1 := by omega
  have hd2 : (d : Int) + 1 ≤ dI := by omega
  clear hdI
  clear ih
  have h40 := Blk.new w 29 #[.int .i64 0, .slice none 0 0, .int .i64 0, .slice none 0 0]
  have hP0 := pure_alloc w (.cells #[.int .i64 0, .slice none 0 0, .int .i64 0, .slice none 0 0] 29)
  have hS0 := hS.alloc (.cells #[.int .i64 0, .slice none 0 0, .int .i64 0, .slice none 0 0] 29)
  have hb4 := hS.lt
  have hsz : w.heap.size + 1 ≤ (w.alloc (.cells #[.int .i64 0, .slice none 0 0, .int .i64 0, .slice none 0 0] 29)).heap.size := by simp
  clear hS
  go_enter Tryz.func39, Tryz.ntmps39
  go_upto_region 1 with (fail)
  generalize (w.alloc (.cells #[.int .i64 0, .slice none 0 0, .int .i64 0, .slice none 0 0] 29)) = w0 at *
  generalize hg4 : w.heap.size = g4 at *
  have hg4w : w.heap.size ≤ g4 := Nat.le_of_eq hg4
  have hg4v : g4 ≤ w.heap.size := Nat.le_of_eq hg4.symm
  clear hg4
  go_wp2_with fail
  refine (next_calls w0 b N 12 hS0 (by omega) (by omega) (by omega)).mono ?_
  rintro e w1 ⟨k, hk0, hk6, rfl, hS1, hM1⟩
  have H4 := Lib.hid (h40.mod hM1 (by omega))
  have HM : Hid (Mod (· = b) w w1) := Lib.hid ((Mod.of_pure hP0 : Mod (· = b) w w0).trans hM1)
  have hsz1 := hM1.size
  clear h40 hP0 hS0 hM1
  have HM1 := HM
  have K1 := H4
  obtain ⟨ca, hca⟩ : ∃ ca, decide (k < 3 ∨ dI = 0) = ca := ⟨_, rfl⟩
  go_upto_region 2 with (fail)
  go_cut [9] from 10 to 15 (fun p wx => p = .bool ca ∧ w1 = wx)
  case first =>
   clear HIH
   by_cases h2 : k < 3
   ·obtain rfl : true = ca := by rw [← hca]; exact (decide_eq_true (.inl h2)).symm
    clear hca
    go_wp2_with fail
    go_meet
    exact ⟨by first | rfl | simp, rfl⟩
   ·by_cases h0 : dI = 0
    ·obtain rfl : true = ca := by rw [← hca]; exact (decide_eq_true (.inr h0)).symm
     clear hca
     subst h0
     go_wp2_with fail
     go_meet
     exact ⟨by first | rfl | simp, rfl⟩
    ·obtain rfl : false = ca := by rw [← hca]; exact (decide_eq_false (by omega)).symm
     have h0i : (dI == 0) = false := by simpa using h0
     clear hca h0
     go_wp2_with fail
     go_meet
     exact ⟨by first | rfl | simp, rfl⟩
  case rest =>
   obtain ⟨rfl, rfl⟩ := hcut
   cases ca with
   | true =>
    clear hca HIH
    obtain ⟨dm, hdm, hdm2⟩ : ∃ dm : Nat, min dI 2 = (dm : Int) ∧ dm ≤ 2 ∧ cB dm + 1 ≤ cQ (d + 1) ∧ sB dm ≤ sQ (d + 1) := byw_min (d := d + 1) (by omega) (by omega)
    have HC := Lib.hid (byWordsG_calls b dm w1 (N + 1) (min dI 2) hdm hdm2.1 hS1 (by omega))
    have HDM := Lib.hid hdm2
    clear hdm hdm2
    go_wp2_with fail
    refine HC.out.mono ?_
    rintro e w2 ⟨q1, rfl, hq1, hf1, hb1, hsz1, hS2, hM2, hz1⟩
    obtain ⟨hd2, hd3, hd4⟩ := HDM.out
    have HM2 := Lib.hid (HM1.out.trans hM2)
    have K2 := Lib.hid (K1.out.mod hM2 (by omega))
    have HQ1 := Lib.hid hq1
    have hsz12 := hM2.size
    have HF1 := Lib.hid (hf1.up (b1 := g4 + 1) (by omega))
    have HBq1 := Lib.hid hb1
    have HZ1 := Lib.hid hz1
    obtain ⟨k1, A1, c1, ws1, n1, B1, d1, xs1, rfl⟩ := q1.ex
    rw [qA_mk]
    clear HC hM2 hf1 hb1 hz1 hq1
    have hst : ∀ g arr fr, (w2).heap[g]? = some (.cells arr 9 fr) → ¬ g = g4 := fun g arr fr hg he => by
     subst he
     have h := K2.out
     unfold Blk at h
     rw [hg] at h
     injection h with h
     injection h with _ h
     exact absurd h (by decide)
    have h4F := st4_blk (a := .int .i64 k1) (b := .slice A1 ws1.length c1) (c := .int .i64 n1) (d := .slice B1 xs1.length d1) K2.out
    have HMF : Hid (Mod (· = g4) (w2) (((((w2).setCell ⟨g4, 0, none⟩ (.int .i64 k1)).setCell ⟨g4, 1, none⟩ (.slice A1 ws1.length c1)).setCell ⟨g4, 2, none⟩ (.int .i64 n1)).setCell ⟨g4, 3, none⟩ (.slice B1 xs1.length d1))) := Lib.hid st4_mod
    have HSF := Lib.hid ((((hS2.setCell (p := ⟨g4, 0, none⟩) (by show b < g4; omega) (.int .i64 k1)).setCell (p := ⟨g4, 1, none⟩) (by show b < g4; omega) (.slice A1 ws1.length c1)).setCell (p := ⟨g4, 2, none⟩) (by show b < g4; omega) (.int .i64 n1)).setCell (p := ⟨g4, 3, none⟩) (by show b < g4; omega) (.slice B1 xs1.length d1))
    have HMM := Lib.hid (mod_up HM2.out HMF.out hg4w)
    have HQS : Hid (QS (((((w2).setCell ⟨g4, 0, none⟩ (.int .i64 k1)).setCell ⟨g4, 1, none⟩ (.slice A1 ws1.length c1)).setCell ⟨g4, 2, none⟩ (.int .i64 n1)).setCell ⟨g4, 3, none⟩ (.slice B1 xs1.length d1)) (.mk k1 A1 c1 ws1 n1 B1 d1 xs1)) := Lib.hid (HQ1.out.modF HF1.out st4_mod hst (fun g hg => by show ¬ g = g4; omega))
    have hh4 := K2.out
    have y0 := hh4.cell 0; have yf0 := hh4.frozen 0; have y1 := hh4.cell 1; have yf1 := hh4.frozen 1; have y2 := hh4.cell 2; have yf2 := hh4.frozen 2; have y3 := hh4.cell 3; have yf3 := hh4.frozen 3; simp at y0 y1 y2 y3
    clear hh4
    go_wp2_with fail
    have x0 := h4F.cell 0; have x1 := h4F.cell 1; have x2 := h4F.cell 2; have x3 := h4F.cell 3; simp at x0 x1 x2 x3
    try simp only [Exit.inBlock, Exit.then]
    refine bodyPost_ret (v := .agg #[.int .i64 k1, .slice A1 ws1.length c1, .int .i64 n1, .slice B1 xs1.length d1]) (by simp [results, Tryz.results39, go_sem, x0, x1, x2, x3]) rfl ?_
    exact ⟨.mk k1 A1 c1 ws1 n1 B1 d1 xs1, rfl, HQS.out, HF1.out.up (by omega), HBq1.out, (by omega), HSF.out.more (by first | omega | (have := HCM.out; omega)), HMM.out, HZ1.out⟩
   | false =>
    have hkd : ¬ (k < 3 ∨ dI = 0) := of_decide_eq_false hca
    clear hca
    by_cases k6 : k < 6
    ·clear hkd
     go_wp2_with fail
     have hlt1 := hS1.lt
     refine (pickv_calls _ b _ w1.heap.size _ _ #[.int .i64 6, .int .i64 7] (hS1.alloc _) (Blk.new _ _ _) (by omega) (by omega) rfl (by decide) (by decide) rfl).mono ?_
     rintro e w2 ⟨kd, hmem1, rfl, hS2, hM2⟩
     have hv1 : kd = 6 ∨ kd = 7 := by simpa [intsOf, Go.RowKit.intOf] using hmem1
     have HM2 := Lib.hid ((HM1.out.trans (Mod.of_pure (pure_alloc w1 (.cells #[.int .i64 6, .int .i64 7] 3)))).trans hM2)
     have K2 := Lib.hid ((K1.out.alloc (.cells #[.int .i64 6, .int .i64 7] 3)).mod hM2 (by omega))
     have hz2 : w1.heap.size ≤ w2.heap.size := by have := hM2.size; rw [World.size_alloc] at this; omega
     clear hmem1 hM2
     have h6b := Blk.new w2 29 #[.int .i64 kd, .slice none 0 0, .int .i64 0, .slice none 0 0]
     have h46 := K2.out.alloc (.cells #[.int .i64 kd, .slice none 0 0, .int .i64 0, .slice none 0 0] 29)
     have hS26 := hS2.alloc (.cells #[.int .i64 kd, .slice none 0 0, .int .i64 0, .slice none 0 0] 29)
     have hM26 := HM2.out.trans (Mod.of_pure (pure_alloc w2 (.cells #[.int .i64 kd, .slice none 0 0, .int .i64 0, .slice none 0 0] 29)))
     have h4lt := K2.out.lt
     have hblt := hS2.lt
     go_upto_region 6 with (fail)
     generalize (w2.alloc (.cells #[.int .i64 kd, .slice none 0 0, .int .i64 0, .slice none 0 0] 29)) = w3 at *
     generalize hg6 : w2.heap.size = g6 at *
     have hg6w : w2.heap.size ≤ g6 := by omega
     have hg6v : g6 ≤ w2.heap.size := by omega
     clear hg6
     have HM3 := Lib.hid hM26
     have K3 := Lib.hid h46
     have J3 := Lib.hid h6b
     have hS3 := hS26
     have hz23 := h6b.lt
     clear hM26 h46 h6b hS26 hS2
     go_wp2_with fail
     have hlt3 := hS3.lt
     refine (pickv_calls _ b _ w3.heap.size _ _ #[.int .i64 2, .int .i64 2, .int .i64 3] (hS3.alloc _) (Blk.new _ _ _) (by omega) (by omega) rfl (by decide) (by decide) rfl).mono ?_
     rintro e w4 ⟨pm, hmem3, rfl, hS4, hM4⟩
     have hv3 : pm = 2 ∨ pm = 2 ∨ pm = 3 := by simpa [intsOf, Go.RowKit.intOf] using hmem3
     have HM4 := Lib.hid ((HM3.out.trans (Mod.of_pure (pure_alloc w3 (.cells #[.int .i64 2, .int .i64 2, .int .i64 3] 3)))).trans hM4)
     have K4 := Lib.hid ((K3.out.alloc (.cells #[.int .i64 2, .int .i64 2, .int .i64 3] 3)).mod hM4 (by omega))
     have hz4 : w3.heap.size ≤ w4.heap.size := by have := hM4.size; rw [World.size_alloc] at this; omega
     have J4 := Lib.hid ((J3.out.alloc (.cells #[.int .i64 2, .int .i64 2, .int .i64 3] 3)).mod hM4 (by omega))
     clear hmem3 hM4
     obtain ⟨pn, rfl⟩ : ∃ pn : Nat, pm = (pn : Int) := ⟨pm.toNat, by omega⟩
     have hpn : pn ≤ 3 := by omega
     clear hv3
     have HG0 : Hid (GatQ w4 g4 g4 g6 g4 none 0 []) := Lib.hid ⟨World.ownsRow_nil _ _ _ _, fun k hk => (by cases hk), fun q hq => (by cases hq)⟩
     clear K2 K3 J3
     go_wp2_with fail
     go_loopg [30] pn (fun gk i wr => ∃ (j : Nat) (A : Option Addr) (c : Nat) (qs : List QR), pn - j = gk ∧ j ≤ pn ∧ qs.length = j ∧ i = .int .i64 (j : Int) ∧ GatQ wr g4 g4 g6 g4 A c qs ∧ (∀ q ∈ qs, QZ q ∧ QB 100 q.key) ∧ (qs.map fun q => qSize q.key).sum ≤ j * sQ d ∧ Blk wr g6 29 #[.int .i64 kd, .slice none 0 0, .int .i64 0, .slice A qs.length c] ∧ Blk wr g4 29 #[.int .i64 0, .slice none 0 0, .int .i64 0, .slice none 0 0] ∧ Strm wr b (N + 3 + j * cQ d) ∧ Mod (· = b) w wr)
     case atStart => exact ⟨0, none, 0, [], by omega, by omega, rfl, rfl, HG0.out, fun q hq => (by cases hq), by simp, J4.out, K4.out, hS4.more (by omega), HM4.out⟩
     case round =>
      clear HG0 J4 K4 hS4 HM4
      obtain ⟨_, A, c, qs, rfl, hj, rfl, rfl, hG, hZB, hsum, hJ, hK, hS, hM⟩ := hrel
      have HG := Lib.hid hG
      have HZB := Lib.hid hZB
      have HSUM := Lib.hid hsum
      have HJ := Lib.hid hJ
      have HK := Lib.hid hK
      have HMr := Lib.hid hM
      have hg6r := hJ.lt
      have hg4r := hK.lt
      have hbr := hS.lt
      clear hG hZB hsum hM
      by_cases hlt : qs.length < pn
      ·have hji : ((qs.length : Nat) : Int) < (pn : Int) := by omega
       have hjc : qs.length * cQ d ≤ 2 * cQ d := Nat.mul_le_mul_right _ (by omega)
       have HC1 := Lib.hid (fun W (hp : Pure wr W) => HIH.out W _ (dI - 1) (by omega) (hS.pure hp) (by have := HNN.out; omega))
       have HS := Lib.hid hS
       have hwr : IntKind.i64.wrap (dI - 1) = dI - 1 := IntWalk.i64_in _ (by omega)
       have u0 := hJ.cell 0; have uf0 := hJ.frozen 0; have u1 := hJ.cell 1; have uf1 := hJ.frozen 1; have u2 := hJ.cell 2; have uf2 := hJ.frozen 2; have u3 := hJ.cell 3; have uf3 := hJ.frozen 3; simp at u0 u1 u2 u3
       clear hJ hK hS
       go_upto_region 8 with (fail)
       go_region_law (first
        | (refine step_callQ rfl 39 _ _ rfl (by kernel_rfl) _ (by simp [Act.eval, Act.put, hwr]; done) (HC1.out _ (by (repeat' (first | with_reducible assumption | with_reducible exact Mod.refl _ _ | with_reducible refine Mod.alloc ?_ _ | with_reducible refine Mod.drew ?_ | with_reducible refine Mod.drewN ?_ _ | ((with_reducible apply Mod.q_set); (dsimp only); omega) | ((with_reducible apply Mod.q_trans); (with_reducible assumption)) | ((with_reducible apply Mod.q_transp); (with_reducible assumption)))))) ?_; rintro e w5 ⟨q1, rfl, hq1, hf1, hb1, hsz1, hS2, hM2, hqz1⟩; obtain ⟨k1, A1, c1, ws1, n1, B1, d1, xs1⟩ := q1; rw [qA_mk]; refine ⟨_, rfl, ?_⟩; have hM5 : Mod (· = b) wr w5 := Mod.trans (by (repeat' (first | with_reducible assumption | with_reducible exact Mod.refl _ _ | with_reducible refine Mod.alloc ?_ _ | with_reducible refine Mod.drew ?_ | with_reducible refine Mod.drewN ?_ _ | ((with_reducible apply Mod.q_set); (dsimp only); omega) | ((with_reducible apply Mod.q_trans); (with_reducible assumption)) | ((with_reducible apply Mod.q_transp); (with_reducible assumption))))) hM2; have hJ5 := HJ.out.modb hM5 (by omega); have hJ6 := hJ5.alloc (.cells #[.int .i64 k1, .slice A1 ws1.length c1, .int .i64 n1, .slice B1 xs1.length d1] 29); have v0 := hJ5.cell 0; have vf0 := hJ5.frozen 0; have v1 := hJ5.cell 1; have vf1 := hJ5.frozen 1; have v2 := hJ5.cell 2; have vf2 := hJ5.frozen 2; have v3 := hJ5.cell 3; have vf3 := hJ5.frozen 3; simp at v0 v1 v2 v3; have z0 := hJ6.cell 0; have zf0 := hJ6.frozen 0; have z1 := hJ6.cell 1; have zf1 := hJ6.frozen 1; have z2 := hJ6.cell 2; have zf2 := hJ6.frozen 2; have z3 := hJ6.cell 3; have zf3 := hJ6.frozen 3; simp at z0 z1 z2 z3; have hr5 := hM5.size; obtain ⟨A5, c5, w7, hr7, hown7, hgrow7, hat7⟩ := run_app4 (w5.alloc (.cells #[.int .i64 k1, .slice A1 ws1.length c1, .int .i64 n1, .slice B1 xs1.length d1] 29)) 27 g4 qs.length w5.heap.size (.slice A qs.length c) qs (.mk k1 A1 c1 ws1 n1 B1 d1 xs1) (own_pure (HG.out.strm HS.out hM5).1 (pure_alloc _ _)) (Blk.new _ _ _) (by simp; omega) (by omega); have hX7 := (hJ5.alloc (.cells #[.int .i64 k1, .slice A1 ws1.length c1, .int .i64 n1, .slice B1 xs1.length d1] 29)).mod (mod_grown hgrow7) (fun hv => (HG.out.2.1 _ hv).2 rfl))
        | (refine step_append_I rfl (.tmp 33) (.tmp 38) 27 rfl _ _ _ _ (by simp [Act.eval, Act.put]; done) (by simp [Act.eval, Act.put]; done) hr7 ?_; have y0 := hX7.cell 0; have yf0 := hX7.frozen 0; have y1 := hX7.cell 1; have yf1 := hX7.frozen 1; have y2 := hX7.cell 2; have yf2 := hX7.frozen 2; have y3 := hX7.cell 3; have yf3 := hX7.frozen 3; simp at y0 y1 y2 y3))
       all_goals
        have hm67 := mod_grown hgrow7
        have hpa6 := pure_alloc w5 (.cells #[.int .i64 k1, .slice A1 ws1.length c1, .int .i64 n1, .slice B1 xs1.length d1] 29)
        have hs56 := hpa6.size
        have hs67 := hm67.size
        obtain ⟨g5, rfl⟩ : ∃ g5, A5 = some ⟨g5, 0, none⟩ := by
         rcases hown7.2 with ⟨h1, _⟩ | ⟨g', cap, cur, h1, _⟩
         ·cases h1
         ·injection h1 with h1 _ _
          exact ⟨g', h1⟩
        have hol := HG.out.1.lt
        have hf2 := hf1.up (b1 := wr.heap.size) (by first | exact Nat.le_refl _ | simp)
        have hG8 := GatQ.snoc (w6 := w7.setCell ⟨g6, 3, none⟩ (.slice (some ⟨g5, 0, none⟩) (qs.length + 1) c5)) ((HG.out.strm HS.out hM5).pure hpa6) (hq1.pure hpa6) (hf2.up (by omega)) (QN.old hf2 (fun k hk => by omega)) (QN.old hf2 (fun k hk => by omega)) (QN.old hf2 (fun k hk => by have := hol k hk; omega)) (by rw [← qV_snoc]; exact hown7) hm67 (by
         rcases hat7 with h | h
         ·exact .inl h.symm
         ·right
          have h2 : g5 = _ := Option.some.inj h
          omega) (by omega) (by omega) hX7 (mod_set (Mod.refl _ _) 3 _)
        have hJ8 := hX7.set 3 (.slice (some ⟨g5, 0, none⟩) (qs.length + 1) c5)
        simp at hJ8
        have hK8 := ((((HK.out.modb hM5 (by omega)).alloc (.cells #[.int .i64 k1, .slice A1 ws1.length c1, .int .i64 n1, .slice B1 xs1.length d1] 29)).mod hm67 (fun hv => (HG.out.2.1 _ hv).1 rfl)).mod (mod_set (Mod.refl (· = g6) w7) 3 (.slice (some ⟨g5, 0, none⟩) (qs.length + 1) c5)) (by omega))
        have hS8 := (((hS2.alloc (.cells #[.int .i64 k1, .slice A1 ws1.length c1, .int .i64 n1, .slice B1 xs1.length d1] 29)).mod hm67 (fun i hi hv => by have := hol i hv; omega)).setCell (p := ⟨g6, 3, none⟩) (by show b < g6; omega) (.slice (some ⟨g5, 0, none⟩) (qs.length + 1) c5))
        have hM8 := (((HMr.out.trans hM5).trans (Mod.of_pure hpa6)).trans' hm67 (fun i hi hlt => by have := hol i hi; omega)).setCell (p := ⟨g6, 3, none⟩) (.inr (by show w.heap.size ≤ g6; omega)) (.slice (some ⟨g5, 0, none⟩) (qs.length + 1) c5)
        have HG8 := Lib.hid hG8
        have HJ8 := Lib.hid hJ8
        have HK8 := Lib.hid hK8
        have HS8 := Lib.hid hS8
        have HM8 := Lib.hid hM8
        have HZ8 : Hid (∀ q ∈ qs ++ [QR.mk k1 A1 c1 ws1 n1 B1 d1 xs1], QZ q ∧ QB 100 q.key) := Lib.hid (fun q hq => by
         rcases List.mem_append.1 hq with h | h
         ·exact HZB.out q h
         ·rw [List.mem_singleton.1 h]
          exact ⟨hqz1, hb1⟩)
        have HU8 : Hid (((qs ++ [QR.mk k1 A1 c1 ws1 n1 B1 d1 xs1]).map fun q => qSize q.key).sum ≤ (qs.length + 1) * sQ d) := Lib.hid (by
         have := HSUM.out
         rw [List.map_append, List.sum_append, Nat.succ_mul]
         simp only [List.map_cons, List.map_nil, List.sum_cons, List.sum_nil]
         omega)
        generalize w7.setCell ⟨g6, 3, none⟩ (.slice (some ⟨g5, 0, none⟩) (qs.length + 1) c5) = w8 at *
        clear hG8 hJ8 hK8 hS8 hM8 hJ5 hJ6 hX7 hr7 hown7 hgrow7 hat7 hm67 hpa6 hM5 hM2 hS2 hq1 hf1 hf2 hb1 hsz1 hqz1 hol
        go_wp2_with fail
        go_roundg (pn - (qs.length + 1))
        case measure => omega
        case rel => exact ⟨qs.length + 1, some ⟨g5, 0, none⟩, c5, qs ++ [QR.mk k1 A1 c1 ws1 n1 B1 d1 xs1], rfl, by omega, by simp, by simp, HG8.out, HZ8.out, HU8.out, by rw [List.length_append]; exact HJ8.out, HK8.out, HS8.out.more (by rw [Nat.succ_mul]; omega), HM8.out⟩
      ·have hpq : qs.length = pn := by omega
       subst hpq
       have hjj : ¬ ((qs.length : Nat) : Int) < (qs.length : Int) := by omega
       have hcm : qs.length * cQ d ≤ 3 * cQ d := Nat.mul_le_mul_right _ (by omega)
       have hsm : qs.length * sQ d ≤ 3 * sQ d := Nat.mul_le_mul_right _ (by omega)
       have HCM := Lib.hid hcm
       have HSMM := Lib.hid (Nat.le_trans HSUM.out hsm)
       have HS := Lib.hid hS
       have HQ0 : Hid (QS wr (.mk kd none 0 [] 0 A c qs)) := Lib.hid (.mk Sl.nil_ (Sl.of_own HG.out.1) (fun a ha => (HG.out.2.2 a ha).1))
       have HN0 : Hid (QN (· = g4) (.mk kd none 0 [] 0 A c qs)) := Lib.hid (.mk (fun _ g off hA e => by
        subst hA
        exact (HG.out.2.1 g rfl).1 e) (fun a ha => (HG.out.2.2 a ha).2.1))
       have HF0 : Hid (QFr g4 (.mk kd none 0 [] 0 A c qs)) := Lib.hid (.mk (fun hx => by
        rcases HG.out.1.2 with ⟨_, h1⟩ | ⟨g', cap, cur, h1, h2, _⟩
        ·exact absurd (List.eq_nil_of_length_eq_zero h1) hx
        ·injection h1 with h1 _ _
         exact ⟨g', 0, h1, h2⟩) (fun a ha => (HG.out.2.2 a ha).2.2.2.2))
       have HZ0 : Hid (QZ (.mk kd none 0 [] 0 A c qs)) := Lib.hid (.mk (fun g off sp hA => by
        rcases HG.out.1.2 with ⟨h1, _⟩ | ⟨g', cap, cur, h1, h2, _⟩
        ·injection h1 with h1 _ _
         rw [hA] at h1
         cases h1
        ·injection h1 with h1 _ _
         rw [hA] at h1
         injection h1 with h1
         injection h1 with _ _ h1) (fun a ha => (HZB.out a ha).1))
       have HB0 : Hid (QB 100 (QR.mk kd none 0 [] 0 A c qs).key ∧ qSize (QR.mk kd none 0 [] 0 A c qs).key ≤ sQ (d + 1)) := Lib.hid ⟨by
        rw [QR.key_mk]
        exact .mk (by omega) (by omega) (by omega) (by omega) (by simp) (fun x hx => by cases hx) (by simp; omega) (fun a ha => by
         obtain ⟨y, hy, rfl⟩ := List.mem_map.1 ha
         exact (HZB.out y hy).2), by
        rw [QR.key_mk, qSize, List.map_map]
        have := HSMM.out
        have e : (qs.map fun q => qSize q.key) = qs.map (qSize ∘ QR.key) := rfl
        rw [← e]
        omega⟩
       have hJu := HJ.out
       have u0 := hJu.cell 0; have uf0 := hJu.frozen 0; have u1 := hJu.cell 1; have uf1 := hJu.frozen 1; have u2 := hJu.cell 2; have uf2 := hJu.frozen 2; have u3 := hJu.cell 3; have uf3 := hJu.frozen 3; simp at u0 u1 u2 u3
       clear hJ hK hS hJu HIH
       have hst : ∀ g arr fr, (wr).heap[g]? = some (.cells arr 9 fr) → ¬ g = g4 := fun g arr fr hg he => by
        subst he
        have h := HK.out
        unfold Blk at h
        rw [hg] at h
        injection h with h
        injection h with _ h
        exact absurd h (by decide)
       have h4F := st4_blk (a := .int .i64 kd) (b := .slice none 0 0) (c := .int .i64 0) (d := .slice A qs.length c) HK.out
       have HMF : Hid (Mod (· = g4) (wr) (((((wr).setCell ⟨g4, 0, none⟩ (.int .i64 kd)).setCell ⟨g4, 1, none⟩ (.slice none 0 0)).setCell ⟨g4, 2, none⟩ (.int .i64 0)).setCell ⟨g4, 3, none⟩ (.slice A qs.length c))) := Lib.hid st4_mod
       have HSF := Lib.hid ((((HS.out.setCell (p := ⟨g4, 0, none⟩) (by show b < g4; omega) (.int .i64 kd)).setCell (p := ⟨g4, 1, none⟩) (by show b < g4; omega) (.slice none 0 0)).setCell (p := ⟨g4, 2, none⟩) (by show b < g4; omega) (.int .i64 0)).setCell (p := ⟨g4, 3, none⟩) (by show b < g4; omega) (.slice A qs.length c))
       have HMM := Lib.hid (mod_up HMr.out HMF.out hg4w)
       have HQS : Hid (QS (((((wr).setCell ⟨g4, 0, none⟩ (.int .i64 kd)).setCell ⟨g4, 1, none⟩ (.slice none 0 0)).setCell ⟨g4, 2, none⟩ (.int .i64 0)).setCell ⟨g4, 3, none⟩ (.slice A qs.length c)) (.mk kd none 0 [] 0 A c qs)) := Lib.hid (HQ0.out.modN HN0.out st4_mod hst)
       have hh4 := HK.out
       have y0 := hh4.cell 0; have yf0 := hh4.frozen 0; have y1 := hh4.cell 1; have yf1 := hh4.frozen 1; have y2 := hh4.cell 2; have yf2 := hh4.frozen 2; have y3 := hh4.cell 3; have yf3 := hh4.frozen 3; simp at y0 y1 y2 y3
       clear hh4
       go_wp2_with fail
       have x0 := h4F.cell 0; have x1 := h4F.cell 1; have x2 := h4F.cell 2; have x3 := h4F.cell 3; simp at x0 x1 x2 x3
       try simp only [Exit.inBlock, Exit.then]
       refine bodyPost_ret (v := .agg #[.int .i64 kd, .slice none 0 0, .int .i64 0, .slice A qs.length c]) (by simp [results, Tryz.results39, go_sem, x0, x1, x2, x3]) rfl ?_
       exact ⟨.mk kd none 0 [] 0 A c qs, rfl, HQS.out, HF0.out.up (by omega), HB0.out.1, HB0.out.2, HSF.out.more (by first | omega | (have := HCM.out; omega)), HMM.out, HZ0.out⟩
    by_cases k8 : k < 8
    ·clear hkd
     have HC1 := Lib.hid (HIH.out w1 _ (dI - 1) (by omega) hS1 (by have := HNN.out; omega))
     go_wp2_with fail
     refine HC1.out.mono ?_
     rintro e w2 ⟨q1, rfl, hq1, hf1, hb1, hsz1, hS2, hM2, hz1⟩
     have HM2 := Lib.hid (HM1.out.trans hM2)
     have K2 := Lib.hid (K1.out.mod hM2 (by omega))
     have hsz12 := hM2.size
     have HQ1 := Lib.hid hq1
     have HF1 := Lib.hid (hf1.up (b1 := g4 + 1) (by omega))
     have HBq1 := Lib.hid hb1
     have HZ1 := Lib.hid hz1
     obtain ⟨k1, A1, c1, ws1, n1, B1, d1, xs1, rfl⟩ := q1.ex
     rw [qA_mk]
     clear HC1 hM2 hf1 hb1 hz1 hq1
     have h4b := K2.out.alloc (.cells #[.int .i64 k1, .slice A1 ws1.length c1, .int .i64 n1, .slice B1 xs1.length d1] 29)
     have hsb : Blk (w2.alloc (.cells #[.int .i64 k1, .slice A1 ws1.length c1, .int .i64 n1, .slice B1 xs1.length d1] 29)) w2.heap.size 29 (qC (.mk k1 A1 c1 ws1 n1 B1 d1 xs1)).toArray := Blk.new w2 29 #[.int .i64 k1, .slice A1 ws1.length c1, .int .i64 n1, .slice B1 xs1.length d1]
     have hSb := hS2.alloc (.cells #[.int .i64 k1, .slice A1 ws1.length c1, .int .i64 n1, .slice B1 xs1.length d1] 29)
     have hpal := pure_alloc w2 (.cells #[.int .i64 k1, .slice A1 ws1.length c1, .int .i64 n1, .slice B1 xs1.length d1] 29)
     have hMb := HM2.out.trans (Mod.of_pure hpal)
     have hst : ∀ g arr fr, (w2.alloc (.cells #[.int .i64 k1, .slice A1 ws1.length c1, .int .i64 n1, .slice B1 xs1.length d1] 29)).heap[g]? = some (.cells arr 9 fr) → ¬ g = g4 := fun g arr fr hg he => by
      subst he
      have h := h4b
      unfold Blk at h
      rw [hg] at h
      injection h with h
      injection h with _ h
      exact absurd h (by decide)
     have h4F := st4_blk (a := .int .i64 8) (b := .slice none 0 0) (c := .int .i64 0) (d := .slice (some ⟨w2.heap.size, 0, none⟩) 1 1) h4b
     have HMF : Hid (Mod (· = g4) (w2.alloc (.cells #[.int .i64 k1, .slice A1 ws1.length c1, .int .i64 n1, .slice B1 xs1.length d1] 29)) (((((w2.alloc (.cells #[.int .i64 k1, .slice A1 ws1.length c1, .int .i64 n1, .slice B1 xs1.length d1] 29)).setCell ⟨g4, 0, none⟩ (.int .i64 8)).setCell ⟨g4, 1, none⟩ (.slice none 0 0)).setCell ⟨g4, 2, none⟩ (.int .i64 0)).setCell ⟨g4, 3, none⟩ (.slice (some ⟨w2.heap.size, 0, none⟩) 1 1))) := Lib.hid st4_mod
     have HSF := Lib.hid ((((hSb.setCell (p := ⟨g4, 0, none⟩) (by show b < g4; omega) (.int .i64 8)).setCell (p := ⟨g4, 1, none⟩) (by show b < g4; omega) (.slice none 0 0)).setCell (p := ⟨g4, 2, none⟩) (by show b < g4; omega) (.int .i64 0)).setCell (p := ⟨g4, 3, none⟩) (by show b < g4; omega) (.slice (some ⟨w2.heap.size, 0, none⟩) 1 1))
     have HMM := Lib.hid (mod_up hMb HMF.out hg4w)
     have HQS : Hid (QS (((((w2.alloc (.cells #[.int .i64 k1, .slice A1 ws1.length c1, .int .i64 n1, .slice B1 xs1.length d1] 29)).setCell ⟨g4, 0, none⟩ (.int .i64 8)).setCell ⟨g4, 1, none⟩ (.slice none 0 0)).setCell ⟨g4, 2, none⟩ (.int .i64 0)).setCell ⟨g4, 3, none⟩ (.slice (some ⟨w2.heap.size, 0, none⟩) 1 1)) (.mk 8 none 0 [] 0 (some ⟨w2.heap.size, 0, none⟩) 1 [.mk k1 A1 c1 ws1 n1 B1 d1 xs1])) := Lib.hid (qs_one (hsb.mod st4_mod (by show ¬ w2.heap.size = g4; omega)) ((HQ1.out.pure hpal).modF HF1.out st4_mod hst (fun g hg => by show ¬ g = g4; omega)))
     have hh4 := h4b
     have y0 := hh4.cell 0; have yf0 := hh4.frozen 0; have y1 := hh4.cell 1; have yf1 := hh4.frozen 1; have y2 := hh4.cell 2; have yf2 := hh4.frozen 2; have y3 := hh4.cell 3; have yf3 := hh4.frozen 3; simp at y0 y1 y2 y3
     clear hh4
     go_wp2_with fail
     have x0 := h4F.cell 0; have x1 := h4F.cell 1; have x2 := h4F.cell 2; have x3 := h4F.cell 3; simp at x0 x1 x2 x3
     try simp only [Exit.inBlock, Exit.then]
     refine bodyPost_ret (v := .agg #[.int .i64 8, .slice none 0 0, .int .i64 0, .slice (some ⟨w2.heap.size, 0, none⟩) 1 1]) (by simp [results, Tryz.results39, go_sem, x0, x1, x2, x3]) rfl ?_
     exact ⟨.mk 8 none 0 [] 0 (some ⟨w2.heap.size, 0, none⟩) 1 [.mk k1 A1 c1 ws1 n1 B1 d1 xs1], rfl, HQS.out, .mk (fun _ => ⟨w2.heap.size, 0, rfl, by omega⟩) (fun a ha => by
      rw [List.mem_singleton.1 ha]
      exact HF1.out.up (by omega)), (by rw [QR.key_mk]; exact qb_one (by omega) (by omega) HBq1.out), (by rw [QR.key_mk, qSize]; simp only [List.map_cons, List.map_nil, List.sum_cons, List.sum_nil]; omega), HSF.out.more (by first | omega | (have := HCM.out; omega)), HMM.out, .mk (fun _ _ _ h => by
      injection h with h
      injection h with _ _ h
      exact h.symm) (fun a ha => by
      rw [List.mem_singleton.1 ha]
      exact HZ1.out)⟩
    clear HIH hkd
    by_cases k9 : k = 8
    ·subst k9
     clear k6 k8
     go_wp2_with fail
     have hlt1 := hS1.lt
     refine (someb_calls _ b _ w1.heap.size _ _ [[97, 110, 110], [98, 111, 98], [122, 111, 101]] 41 rfl (by decide) (hS1.alloc _) (by omega) (Blk.new _ _ _) (by omega) (by decide) (by decide)).mono ?_
     rintro e w2 ⟨s1, hs1, rfl, hS2, hM2⟩
     have HM2 := Lib.hid ((HM1.out.trans (Mod.of_pure (pure_alloc w1 (.cells #[.string ⟨#[97, 110, 110]⟩, .string ⟨#[98, 111, 98]⟩, .string ⟨#[122, 111, 101]⟩] 9)))).trans hM2)
     have K2 := Lib.hid ((K1.out.alloc (.cells #[.string ⟨#[97, 110, 110]⟩, .string ⟨#[98, 111, 98]⟩, .string ⟨#[122, 111, 101]⟩] 9)).mod hM2 (by omega))
     have hz2 : w1.heap.size ≤ w2.heap.size := by have := hM2.size; rw [World.size_alloc] at this; omega
     clear hM2
     have h4b := K2.out.alloc (.cells #[.string ⟨s1.toArray⟩] 9)
     have hsb : Blk (w2.alloc (.cells #[.string ⟨s1.toArray⟩] 9)) w2.heap.size 9 (strsV [s1]).toArray := Blk.new w2 9 #[.string ⟨s1.toArray⟩]
     have hSb := hS2.alloc (.cells #[.string ⟨s1.toArray⟩] 9)
     have hMb := HM2.out.trans (Mod.of_pure (pure_alloc w2 (.cells #[.string ⟨s1.toArray⟩] 9)))
     have h4F := st4_blk (a := .int .i64 9) (b := .slice (some ⟨w2.heap.size, 0, none⟩) 1 1) (c := .int .i64 0) (d := .slice none 0 0) h4b
     have HMF : Hid (Mod (· = g4) (w2.alloc (.cells #[.string ⟨s1.toArray⟩] 9)) (((((w2.alloc (.cells #[.string ⟨s1.toArray⟩] 9)).setCell ⟨g4, 0, none⟩ (.int .i64 9)).setCell ⟨g4, 1, none⟩ (.slice (some ⟨w2.heap.size, 0, none⟩) 1 1)).setCell ⟨g4, 2, none⟩ (.int .i64 0)).setCell ⟨g4, 3, none⟩ (.slice none 0 0))) := Lib.hid st4_mod
     have HSF := Lib.hid ((((hSb.setCell (p := ⟨g4, 0, none⟩) (by show b < g4; omega) (.int .i64 9)).setCell (p := ⟨g4, 1, none⟩) (by show b < g4; omega) (.slice (some ⟨w2.heap.size, 0, none⟩) 1 1)).setCell (p := ⟨g4, 2, none⟩) (by show b < g4; omega) (.int .i64 0)).setCell (p := ⟨g4, 3, none⟩) (by show b < g4; omega) (.slice none 0 0))
     have HMM := Lib.hid (mod_up hMb HMF.out hg4w)
     have HQS : Hid (QS (((((w2.alloc (.cells #[.string ⟨s1.toArray⟩] 9)).setCell ⟨g4, 0, none⟩ (.int .i64 9)).setCell ⟨g4, 1, none⟩ (.slice (some ⟨w2.heap.size, 0, none⟩) 1 1)).setCell ⟨g4, 2, none⟩ (.int .i64 0)).setCell ⟨g4, 3, none⟩ (.slice none 0 0)) (.mk 9 (some ⟨w2.heap.size, 0, none⟩) 1 [s1] 0 none 0 [])) := Lib.hid (qs_words (hsb.mod st4_mod (by show ¬ w2.heap.size = g4; omega)) (by simp))
     have hh4 := h4b
     have y0 := hh4.cell 0; have yf0 := hh4.frozen 0; have y1 := hh4.cell 1; have yf1 := hh4.frozen 1; have y2 := hh4.cell 2; have yf2 := hh4.frozen 2; have y3 := hh4.cell 3; have yf3 := hh4.frozen 3; simp at y0 y1 y2 y3
     clear hh4
     go_wp2_with fail
     have x0 := h4F.cell 0; have x1 := h4F.cell 1; have x2 := h4F.cell 2; have x3 := h4F.cell 3; simp at x0 x1 x2 x3
     try simp only [Exit.inBlock, Exit.then]
     refine bodyPost_ret (v := .agg #[.int .i64 9, .slice (some ⟨w2.heap.size, 0, none⟩) 1 1, .int .i64 0, .slice none 0 0]) (by simp [results, Tryz.results39, go_sem, x0, x1, x2, x3]) rfl ?_
     exact ⟨.mk 9 (some ⟨w2.heap.size, 0, none⟩) 1 [s1] 0 none 0 [], rfl, HQS.out, .mk (fun h => absurd rfl h) (fun a ha => by cases ha), (by rw [QR.key_mk]; exact qb_words (by omega) (by omega) (by simp) (fun x hx => by simp at hx; subst hx; omega)), (by rw [QR.key_mk, qSize]; simp; omega), HSF.out.more (by first | omega | (have := HCM.out; omega)), HMM.out, .mk (fun _ _ _ h => by cases h) (fun a ha => by cases ha)⟩
    have k9i : (k == 8) = false := by simpa using k9
    by_cases k10 : k = 9
    ·subst k10
     clear k6 k8 k9
     go_wp2_with fail
     refine (range_calls w1 b _ 1 4 hS1 (by omega) (by omega) (by omega) (by omega)).mono ?_
     rintro e w2 ⟨nb, hn0, hn1, rfl, hS2, hM2⟩
     have HM2 := Lib.hid (HM1.out.trans hM2)
     have K2 := Lib.hid (K1.out.mod hM2 (by omega))
     clear hM2
     have h4F := st4_blk (a := .int .i64 10) (b := .slice none 0 0) (c := .int .i64 nb) (d := .slice none 0 0) K2.out
     have HMF : Hid (Mod (· = g4) (w2) (((((w2).setCell ⟨g4, 0, none⟩ (.int .i64 10)).setCell ⟨g4, 1, none⟩ (.slice none 0 0)).setCell ⟨g4, 2, none⟩ (.int .i64 nb)).setCell ⟨g4, 3, none⟩ (.slice none 0 0))) := Lib.hid st4_mod
     have HSF := Lib.hid ((((hS2.setCell (p := ⟨g4, 0, none⟩) (by show b < g4; omega) (.int .i64 10)).setCell (p := ⟨g4, 1, none⟩) (by show b < g4; omega) (.slice none 0 0)).setCell (p := ⟨g4, 2, none⟩) (by show b < g4; omega) (.int .i64 nb)).setCell (p := ⟨g4, 3, none⟩) (by show b < g4; omega) (.slice none 0 0))
     have HMM := Lib.hid (mod_up HM2.out HMF.out hg4w)
     have HQS : Hid (QS (((((w2).setCell ⟨g4, 0, none⟩ (.int .i64 10)).setCell ⟨g4, 1, none⟩ (.slice none 0 0)).setCell ⟨g4, 2, none⟩ (.int .i64 nb)).setCell ⟨g4, 3, none⟩ (.slice none 0 0)) (.mk 10 none 0 [] nb none 0 [])) := Lib.hid (.mk Sl.nil_ Sl.nil_ (fun a ha => by cases ha))
     have hh4 := K2.out
     have y0 := hh4.cell 0; have yf0 := hh4.frozen 0; have y1 := hh4.cell 1; have yf1 := hh4.frozen 1; have y2 := hh4.cell 2; have yf2 := hh4.frozen 2; have y3 := hh4.cell 3; have yf3 := hh4.frozen 3; simp at y0 y1 y2 y3
     clear hh4
     go_wp2_with fail
     have x0 := h4F.cell 0; have x1 := h4F.cell 1; have x2 := h4F.cell 2; have x3 := h4F.cell 3; simp at x0 x1 x2 x3
     try simp only [Exit.inBlock, Exit.then]
     refine bodyPost_ret (v := .agg #[.int .i64 10, .slice none 0 0, .int .i64 nb, .slice none 0 0]) (by simp [results, Tryz.results39, go_sem, x0, x1, x2, x3]) rfl ?_
     exact ⟨.mk 10 none 0 [] nb none 0 [], rfl, HQS.out, .mk (fun h => absurd rfl h) (fun a ha => by cases ha), (by rw [QR.key_mk]; exact qb_words (by omega) (by omega) (by simp) (fun x hx => by cases hx)), (by rw [QR.key_mk, qSize]; simp; omega), HSF.out.more (by first | omega | (have := HCM.out; omega)), HMM.out, .mk (fun _ _ _ h => by cases h) (fun a ha => by cases ha)⟩
    have k10i : (k == 9) = false := by simpa using k10
    by_cases k11 : k = 10
    ·subst k11
     clear k6 k8 k9 k10
     go_wp2_with fail
     have hlt1 := hS1.lt
     refine (pickv_calls _ b _ w1.heap.size _ _ #[.int .i64 12, .int .i64 13] (hS1.alloc _) (Blk.new _ _ _) (by omega) (by omega) rfl (by decide) (by decide) rfl).mono ?_
     rintro e w2 ⟨kd, hmem1, rfl, hS2, hM2⟩
     have hv1 : kd = 12 ∨ kd = 13 := by simpa [intsOf, Go.RowKit.intOf] using hmem1
     have HM2 := Lib.hid ((HM1.out.trans (Mod.of_pure (pure_alloc w1 (.cells #[.int .i64 12, .int .i64 13] 3)))).trans hM2)
     have K2 := Lib.hid ((K1.out.alloc (.cells #[.int .i64 12, .int .i64 13] 3)).mod hM2 (by omega))
     have hz2 : w1.heap.size ≤ w2.heap.size := by have := hM2.size; rw [World.size_alloc] at this; omega
     clear hmem1 hM2
     go_wp2_with fail
     have hlt2 := hS2.lt
     refine (pickv_calls _ b _ w2.heap.size _ _ #[.int .i64 0, .int .i64 1, .int .i64 3, .int .i64 13, .int .i64 4000] (hS2.alloc _) (Blk.new _ _ _) (by omega) (by omega) rfl (by decide) (by decide) rfl).mono ?_
     rintro e w3 ⟨nb, hmem2, rfl, hS3, hM3⟩
     have hv2 : nb = 0 ∨ nb = 1 ∨ nb = 3 ∨ nb = 13 ∨ nb = 4000 := by simpa [intsOf, Go.RowKit.intOf] using hmem2
     have HM3 := Lib.hid ((HM2.out.trans (Mod.of_pure (pure_alloc w2 (.cells #[.int .i64 0, .int .i64 1, .int .i64 3, .int .i64 13, .int .i64 4000] 3)))).trans hM3)
     have K3 := Lib.hid ((K2.out.alloc (.cells #[.int .i64 0, .int .i64 1, .int .i64 3, .int .i64 13, .int .i64 4000] 3)).mod hM3 (by omega))
     have hz3 : w2.heap.size ≤ w3.heap.size := by have := hM3.size; rw [World.size_alloc] at this; omega
     clear hmem2 hM3
     have h4F := st4_blk (a := .int .i64 kd) (b := .slice none 0 0) (c := .int .i64 nb) (d := .slice none 0 0) K3.out
     have HMF : Hid (Mod (· = g4) (w3) (((((w3).setCell ⟨g4, 0, none⟩ (.int .i64 kd)).setCell ⟨g4, 1, none⟩ (.slice none 0 0)).setCell ⟨g4, 2, none⟩ (.int .i64 nb)).setCell ⟨g4, 3, none⟩ (.slice none 0 0))) := Lib.hid st4_mod
     have HSF := Lib.hid ((((hS3.setCell (p := ⟨g4, 0, none⟩) (by show b < g4; omega) (.int .i64 kd)).setCell (p := ⟨g4, 1, none⟩) (by show b < g4; omega) (.slice none 0 0)).setCell (p := ⟨g4, 2, none⟩) (by show b < g4; omega) (.int .i64 nb)).setCell (p := ⟨g4, 3, none⟩) (by show b < g4; omega) (.slice none 0 0))
     have HMM := Lib.hid (mod_up HM3.out HMF.out hg4w)
     have HQS : Hid (QS (((((w3).setCell ⟨g4, 0, none⟩ (.int .i64 kd)).setCell ⟨g4, 1, none⟩ (.slice none 0 0)).setCell ⟨g4, 2, none⟩ (.int .i64 nb)).setCell ⟨g4, 3, none⟩ (.slice none 0 0)) (.mk kd none 0 [] nb none 0 [])) := Lib.hid (.mk Sl.nil_ Sl.nil_ (fun a ha => by cases ha))
     have hh4 := K3.out
     have y0 := hh4.cell 0; have yf0 := hh4.frozen 0; have y1 := hh4.cell 1; have yf1 := hh4.frozen 1; have y2 := hh4.cell 2; have yf2 := hh4.frozen 2; have y3 := hh4.cell 3; have yf3 := hh4.frozen 3; simp at y0 y1 y2 y3
     clear hh4
     go_wp2_with fail
     have x0 := h4F.cell 0; have x1 := h4F.cell 1; have x2 := h4F.cell 2; have x3 := h4F.cell 3; simp at x0 x1 x2 x3
     try simp only [Exit.inBlock, Exit.then]
     refine bodyPost_ret (v := .agg #[.int .i64 kd, .slice none 0 0, .int .i64 nb, .slice none 0 0]) (by simp [results, Tryz.results39, go_sem, x0, x1, x2, x3]) rfl ?_
     exact ⟨.mk kd none 0 [] nb none 0 [], rfl, HQS.out, .mk (fun h => absurd rfl h) (fun a ha => by cases ha), (by rw [QR.key_mk]; exact qb_words (by omega) (by omega) (by simp) (fun x hx => by cases hx)), (by rw [QR.key_mk, qSize]; simp; omega), HSF.out.more (by first | omega | (have := HCM.out; omega)), HMM.out, .mk (fun _ _ _ h => by cases h) (fun a ha => by cases ha)⟩
    have k11i : (k == 10) = false := by simpa using k11
    clear k9 k10 k11
    have HP1 := Lib.hid (pattern_calls w1 b _ hS1 (by omega))
    go_wp2_with fail
    refine HP1.out.mono ?_
    rintro e w2 ⟨s1, hs1, rfl, hS2, hM2⟩
    have HM2 := Lib.hid (HM1.out.trans hM2)
    have K2 := Lib.hid (K1.out.mod hM2 (by omega))
    have hz2 := hM2.size
    have hlt2 := hS2.lt
    clear HP1 hM2
    have HSB := Lib.hid ((Blk.new w2 9 (strsV [s1]).toArray).alloc (.cells #[.int .i64 1, .slice none 0 0, .int .i64 0, .slice none 0 0, .int .i64 11, .slice (some ⟨w2.heap.size, 0, none⟩) 1 1, .int .i64 0, .slice none 0 0] 29))
    have HQB : Hid (Blk ((w2.alloc (.cells #[.string ⟨s1.toArray⟩] 9)).alloc (.cells #[.int .i64 1, .slice none 0 0, .int .i64 0, .slice none 0 0, .int .i64 11, .slice (some ⟨w2.heap.size, 0, none⟩) 1 1, .int .i64 0, .slice none 0 0] 29)) (w2.heap.size + 1) 29 (qV [.mk 1 none 0 [] 0 none 0 [], .mk 11 (some ⟨w2.heap.size, 0, none⟩) 1 [s1] 0 none 0 []]).toArray) := Lib.hid (Blk.snd w2 (.cells #[.string ⟨s1.toArray⟩] 9) 29 _)
    have HP2 := Lib.hid (((Mod.refl (fun _ => False) w2).alloc (.cells #[.string ⟨s1.toArray⟩] 9)).alloc (.cells #[.int .i64 1, .slice none 0 0, .int .i64 0, .slice none 0 0, .int .i64 11, .slice (some ⟨w2.heap.size, 0, none⟩) 1 1, .int .i64 0, .slice none 0 0] 29))
    have HC := Lib.hid (pick2_calls ((w2.alloc (.cells #[.string ⟨s1.toArray⟩] 9)).alloc (.cells #[.int .i64 1, .slice none 0 0, .int .i64 0, .slice none 0 0, .int .i64 11, .slice (some ⟨w2.heap.size, 0, none⟩) 1 1, .int .i64 0, .slice none 0 0] 29)) b _ (w2.heap.size + 1) [.mk 1 none 0 [] 0 none 0 [], .mk 11 (some ⟨w2.heap.size, 0, none⟩) 1 [s1] 0 none 0 []] ((hS2.alloc (.cells #[.string ⟨s1.toArray⟩] 9)).alloc (.cells #[.int .i64 1, .slice none 0 0, .int .i64 0, .slice none 0 0, .int .i64 11, .slice (some ⟨w2.heap.size, 0, none⟩) 1 1, .int .i64 0, .slice none 0 0] 29)) HQB.out (by omega) (by simp) (by simp))
    go_wp2_with fail
    refine HC.out.mono ?_
    rintro e w3 ⟨q1, hq1, rfl, hS3, hM3⟩
    have HM3 := Lib.hid ((HM2.out.trans (Mod.of_pure HP2.out)).trans hM3)
    have K3 := Lib.hid (((K2.out.alloc (.cells #[.string ⟨s1.toArray⟩] 9)).alloc (.cells #[.int .i64 1, .slice none 0 0, .int .i64 0, .slice none 0 0, .int .i64 11, .slice (some ⟨w2.heap.size, 0, none⟩) 1 1, .int .i64 0, .slice none 0 0] 29)).mod hM3 (by omega))
    have HS3 : Hid (Blk w3 w2.heap.size 9 (strsV [s1]).toArray) := Lib.hid (HSB.out.mod hM3 (by omega))
    have HQ1 : Hid (QS w3 q1 ∧ QFr (g4 + 1) q1 ∧ QB 100 q1.key ∧ qSize q1.key = 1 ∧ QZ q1) := Lib.hid (by
     rcases List.mem_cons.1 hq1 with rfl | hq1
     ·exact ⟨.mk Sl.nil_ Sl.nil_ (fun a ha => by cases ha), .mk (fun h => absurd rfl h) (fun a ha => by cases ha), by rw [QR.key_mk]; exact qb_words (by omega) (by omega) (by simp) (fun x hx => by cases hx), by rw [QR.key_mk, qSize]; simp, .mk (fun _ _ _ h => by cases h) (fun a ha => by cases ha)⟩
     ·rw [List.mem_singleton.1 hq1]
      exact ⟨qs_words HS3.out (by simp), .mk (fun h => absurd rfl h) (fun a ha => by cases ha), by rw [QR.key_mk]; exact qb_words (by omega) (by omega) (by simp) (fun x hx => by simp at hx; subst hx; omega), by rw [QR.key_mk, qSize]; simp, .mk (fun _ _ _ h => by cases h) (fun a ha => by cases ha)⟩)
    obtain ⟨k1, A1, c1, ws1, n1, B1, d1, xs1, rfl⟩ := q1.ex
    rw [qA_mk]
    clear HC hM3 hq1 HSB HQB HP2 HS3
    have hst : ∀ g arr fr, (w3).heap[g]? = some (.cells arr 9 fr) → ¬ g = g4 := fun g arr fr hg he => by
     subst he
     have h := K3.out
     unfold Blk at h
     rw [hg] at h
     injection h with h
     injection h with _ h
     exact absurd h (by decide)
    have h4F := st4_blk (a := .int .i64 k1) (b := .slice A1 ws1.length c1) (c := .int .i64 n1) (d := .slice B1 xs1.length d1) K3.out
    have HMF : Hid (Mod (· = g4) (w3) (((((w3).setCell ⟨g4, 0, none⟩ (.int .i64 k1)).setCell ⟨g4, 1, none⟩ (.slice A1 ws1.length c1)).setCell ⟨g4, 2, none⟩ (.int .i64 n1)).setCell ⟨g4, 3, none⟩ (.slice B1 xs1.length d1))) := Lib.hid st4_mod
    have HSF := Lib.hid ((((hS3.setCell (p := ⟨g4, 0, none⟩) (by show b < g4; omega) (.int .i64 k1)).setCell (p := ⟨g4, 1, none⟩) (by show b < g4; omega) (.slice A1 ws1.length c1)).setCell (p := ⟨g4, 2, none⟩) (by show b < g4; omega) (.int .i64 n1)).setCell (p := ⟨g4, 3, none⟩) (by show b < g4; omega) (.slice B1 xs1.length d1))
    have HMM := Lib.hid (mod_up HM3.out HMF.out hg4w)
    have HQS : Hid (QS (((((w3).setCell ⟨g4, 0, none⟩ (.int .i64 k1)).setCell ⟨g4, 1, none⟩ (.slice A1 ws1.length c1)).setCell ⟨g4, 2, none⟩ (.int .i64 n1)).setCell ⟨g4, 3, none⟩ (.slice B1 xs1.length d1)) (.mk k1 A1 c1 ws1 n1 B1 d1 xs1)) := Lib.hid (HQ1.out.1.modF HQ1.out.2.1 st4_mod hst (fun g hg => by show ¬ g = g4; omega))
    have hh4 := K3.out
    have y0 := hh4.cell 0; have yf0 := hh4.frozen 0; have y1 := hh4.cell 1; have yf1 := hh4.frozen 1; have y2 := hh4.cell 2; have yf2 := hh4.frozen 2; have y3 := hh4.cell 3; have yf3 := hh4.frozen 3; simp at y0 y1 y2 y3
    clear hh4
    go_wp2_with fail
    have x0 := h4F.cell 0; have x1 := h4F.cell 1; have x2 := h4F.cell 2; have x3 := h4F.cell 3; simp at x0 x1 x2 x3
    try simp only [Exit.inBlock, Exit.then]
    refine bodyPost_ret (v := .agg #[.int .i64 k1, .slice A1 ws1.length c1, .int .i64 n1, .slice B1 xs1.length d1]) (by simp [results, Tryz.results39, go_sem, x0, x1, x2, x3]) rfl ?_
    exact ⟨.mk k1 A1 c1 ws1 n1 B1 d1 xs1, rfl, HQS.out, HQ1.out.2.1.up (by omega), HQ1.out.2.2.1, (by have := HQ1.out.2.2.2.1; omega), HSF.out.more (by first | omega | (have := HCM.out; omega)), HMM.out, HQ1.out.2.2.2.2⟩

end Go.Proofs.YtnfflgicngeekaaGreatDoor

/- A search that is spoiled. -/
namespace Go.Proofs.YtnfflgicngeekaaGreatDoor
set_option linter.unusedVariables false
set_option linter.unusedSimpArgs false
open Go.RowKit

theorem own_inA {A : Option Addr} {n c : Nat} : ∀ i, (Value.slice A n c).ownBlock = some i → i ∈ aB A := fun i hi => by
 cases A with
 | none => cases hi
 | some a =>
  have : some a.block = some i := hi
  injection this with this
  simp [aB, this]
theorem modify_comm {α : Type} (h : Array α) {a b : Nat} (hab : a ≠ b) (f g : α → α) : (h.modify a f).modify b g = (h.modify b g).modify a f := by
 apply Array.ext_getElem?
 intro i
 simp only [Array.getElem?_modify]
 by_cases h1 : b = i
 ·subst h1
  rw [if_pos rfl, if_neg hab, if_neg hab, if_pos rfl]
 ·rw [if_neg h1, if_neg h1]
theorem setCell_commQ (w : World) {p q : Addr} (h : p.block ≠ q.block) (u v : Value) : (w.setCell p u).setCell q v = (w.setCell q v).setCell p u := by
 unfold World.setCell
 simp only [modify_comm w.heap h]
theorem st4_comm (w : World) {g g' o o' : Nat} (h : g' ≠ g) (a b c d v : Value) : ((((w.setCell ⟨g, o, none⟩ a).setCell ⟨g, o + 1, none⟩ b).setCell ⟨g, o + 2, none⟩ c).setCell ⟨g, o + 3, none⟩ d).setCell ⟨g', o', none⟩ v = ((((w.setCell ⟨g', o', none⟩ v).setCell ⟨g, o, none⟩ a).setCell ⟨g, o + 1, none⟩ b).setCell ⟨g, o + 2, none⟩ c).setCell ⟨g, o + 3, none⟩ d := by
 have hc : ∀ (w : World) (i : Nat) (x : Value), (w.setCell ⟨g, i, none⟩ x).setCell ⟨g', o', none⟩ v = (w.setCell ⟨g', o', none⟩ v).setCell ⟨g, i, none⟩ x := fun w i x => setCell_commQ w (fun e => h e.symm) x v
 rw [hc, hc, hc, hc]
/-- A changed search stands in the box. -/
def SpE (w : World) (b b3 b4 base N M Z : Nat) (wx : World) : Prop := ∃ q2, QOk wx base (M + 1) q2 ∧ qSize q2.key ≤ Z + 3 ∧ Blk wx b3 29 (qC q2).toArray ∧ Blk wx b4 29 #[.int .i64 0, .slice none 0 0, .int .i64 0, .slice none 0 0] ∧ Strm wx b (N + 2 * Z + 60) ∧ Mod (· = b) w wx
theorem spE_of {w wz : World} {b b3 b4 base N N' M Z e : Nat} (h : ∃ q2, QOk wz base (M + 1) q2 ∧ qSize q2.key ≤ Z + e ∧ Blk wz b3 29 (qC q2).toArray) (he : e ≤ 3) (h4 : Blk wz b4 29 #[.int .i64 0, .slice none 0 0, .int .i64 0, .slice none 0 0]) (hS : Strm wz b N') (hN : N' ≤ N + 2 * Z + 60) (hM : Mod (· = b) w wz) : SpE w b b3 b4 base N M Z wz := by
 obtain ⟨q2, h1, h2, h3⟩ := h
 exact ⟨q2, h1, by omega, h3, h4, hS.more hN, hM⟩
theorem own_someS {w : World} {base size n m c : Nat} {e : TypeId} {A : Option Addr} {xs : List Value} (h : w.ownsRow base e size (.slice A m c) n xs) (hn : 0 < n) : ∃ g, A = some ⟨g, 0, none⟩ := by
 rcases h.2 with ⟨_, h1⟩ | ⟨g', cap, cur, h1, _⟩
 ·omega
 ·injection h1 with h1 _ _
  exact ⟨g', h1⟩
theorem own_at {v : Value} {g n c m : Nat} (h : (Value.slice (some ⟨g, 0, none⟩) n c).ownBlock = v.ownBlock ∨ (Value.slice (some ⟨g, 0, none⟩) n c).ownBlock = some m) : v.ownBlock = some g ∨ m ≤ g := by
 rcases h with h | h
 ·exact .inl h.symm
 ·have h2 : g = m := Option.some.inj h
  exact .inr (by omega)
theorem own_neB {v : Value} {gN g m : Nat} (h : v.ownBlock = some gN ∨ m ≤ gN) (h1 : ∀ i, v.ownBlock = some i → i ≠ g) (h2 : g < m) : gN ≠ g := by
 rcases h with h | h
 ·exact h1 _ h
 ·omega
theorem own_lastC {w : World} {base n c g : Nat} {xs : List QR} {k m : Int} {A C : Option Addr} {a e : Nat} {ws : List Str} {bs : List QR} (h : w.ownsRow base 29 4 (.slice (some ⟨g, 0, none⟩) n c) n (qV (xs ++ [.mk k A a ws m C e bs]))) : w.cell? ⟨g, xs.length * 4, none⟩ = some (.int .i64 k) ∧ w.cell? ⟨g, xs.length * 4 + 1, none⟩ = some (.slice A ws.length a) ∧ w.cell? ⟨g, xs.length * 4 + 2, none⟩ = some (.int .i64 m) ∧ w.cell? ⟨g, xs.length * 4 + 3, none⟩ = some (.slice C bs.length e) := by
 obtain ⟨g', off, hA, q0, q1, q2, q3⟩ := qcells (Sl.of_own h) (i := xs.length) (by simp) (show (xs ++ [QR.mk k A a ws m C e bs])[xs.length] = .mk k A a ws m C e bs by simp)
 injection hA with hA
 injection hA with h1 h2
 subst h1 h2
 simp only [Nat.zero_add] at q0 q1 q2 q3
 exact ⟨q0, q1, q2, q3⟩
set_option maxRecDepth 100000 in
set_option maxHeartbeats 16000000 in
theorem spoil_calls (w : World) (b N M Z : Nat) (qr : QR) (hS : Strm w b N) (hN : N + 2 * Z ≤ 700000000) (hQ : QS w qr) (hZq : QZ qr) (hB : QB M qr.key) (hM0 : 100 ≤ M) (hM1 : M ≤ 900) (hz : qSize qr.key ≤ Z) : Calls Tryz.prog 41 #[.pointer (some ⟨b, 0, none⟩), qA qr] w (SpP w b (N + 2 * Z + 60) (M + 1) (Z + 3)) := by
 obtain ⟨k0, A0, c0, ws0, n0, B0, d0, xs0⟩ := qr
 have hb1 := (Blk.new w 29 #[.int .i64 k0, .slice A0 ws0.length c0, .int .i64 n0, .slice B0 xs0.length d0]).alloc (.cells #[.int .i64 0, .slice none 0 0, .int .i64 0, .slice none 0 0] 29)
 have hb2 := Blk.snd w (.cells #[.int .i64 k0, .slice A0 ws0.length c0, .int .i64 n0, .slice B0 xs0.length d0] 29) 29 #[.int .i64 0, .slice none 0 0, .int .i64 0, .slice none 0 0]
 have HM : Hid (Pure w ((w.alloc (.cells #[.int .i64 k0, .slice A0 ws0.length c0, .int .i64 n0, .slice B0 xs0.length d0] 29)).alloc (.cells #[.int .i64 0, .slice none 0 0, .int .i64 0, .slice none 0 0] 29))) := Lib.hid (((Mod.refl _ _).alloc _).alloc _)
 have HB3 := Lib.hid hb1
 have HB4 := Lib.hid hb2
 have hbu : w.heap.size + 1 ≤ w.heap.size + 1 := Nat.le_refl _
 have HCP := Lib.hid (fun W (h : Pure w W) => copyQ_calls (.mk k0 A0 c0 ws0 n0 B0 d0 xs0) W (hQ.pure h) hZq (hB.mono (by omega)))
 have HKB := Lib.hid hB
 have hbw := hS.lt
 have HS := Lib.hid hS
 rw [qA_mk] at HCP
 clear hb1 hb2 hQ hZq hB hS
 rw [qA_mk]
 go_enter Tryz.func41, Tryz.ntmps41
 go_upto_region 1 with (fail)
 generalize ((w.alloc (.cells #[.int .i64 k0, .slice A0 ws0.length c0, .int .i64 n0, .slice B0 xs0.length d0] 29)).alloc (.cells #[.int .i64 0, .slice none 0 0, .int .i64 0, .slice none 0 0] 29)) = w2 at *
 obtain ⟨b3, hb1⟩ : ∃ b, w.heap.size = b := ⟨_, rfl⟩
 rw [hb1] at HB3 HB4
 simp only [hb1]
 have hbl3 : w.heap.size ≤ b3 := by omega
 have hbr3 : b3 ≤ w.heap.size := by omega
 obtain ⟨b4, hb2⟩ : ∃ b, b3 + 1 = b := ⟨_, rfl⟩
 rw [hb2] at HB4
 simp only [hb2]
 have hbl4 : w.heap.size ≤ b4 := by omega
 have hb34 : b3 < b4 := by omega
 clear hb1 hb2 hbu
 have h1 := HB3.out
 have hlt2 := HB4.out.lt
 have u0 := h1.cell 0; have uf0 := h1.frozen 0; have u1 := h1.cell 1; have uf1 := h1.frozen 1; have u2 := h1.cell 2; have uf2 := h1.frozen 2; have u3 := h1.cell 3; have uf3 := h1.frozen 3; simp at u0 u1 u2 u3
 clear h1
 go_wp2_with fail
 refine (HCP.out _ HM.out).mono ?_
 rintro e w3 ⟨⟨k3, A3, c3, ws3, n3, B3, d3, xs3⟩, rfl, hk3, hC3, hD3, hm3⟩
 simp only [qA_mk]
 have hb33 := HB3.out.modp hm3
 have hs23 := hm3.size
 have hge3 := hC3.ge
 have h4F := st4_blk (a := .int .i64 k3) (b := .slice A3 ws3.length c3) (c := .int .i64 n3) (d := .slice B3 xs3.length d3) hb33
 have hmF : Mod (· = b3) w3 ((((w3.setCell ⟨b3, 0, none⟩ (.int .i64 k3)).setCell ⟨b3, 1, none⟩ (.slice A3 ws3.length c3)).setCell ⟨b3, 2, none⟩ (.int .i64 n3)).setCell ⟨b3, 3, none⟩ (.slice B3 xs3.length d3)) := st4_mod
 have HI4 : Hid (SpI b3 b3 w2.heap.size M Z ((((w3.setCell ⟨b3, 0, none⟩ (.int .i64 k3)).setCell ⟨b3, 1, none⟩ (.slice A3 ws3.length c3)).setCell ⟨b3, 2, none⟩ (.int .i64 n3)).setCell ⟨b3, 3, none⟩ (.slice B3 xs3.length d3)) b3 0 (QR.mk k3 A3 c3 ws3 n3 B3 d3 xs3)) := Lib.hid (spI_root h4F (Nat.le_refl _) (by omega) (hC3.mod hmF (fun i hi e => by have := (hge3 i hi).1; omega)) (fun hi => by have := (hge3 _ hi).1; omega) hD3 (by rw [hk3]; exact HKB.out) (by rw [hk3]; exact hz))
 have HB44 := Lib.hid ((HB4.out.modp hm3).mod hmF (by omega))
 have HS4 := Lib.hid ((HS.out.pure (HM.out.trans hm3)).mod hmF (fun i hi e => by omega))
 have HM4 : Hid (Mod (· = b) w ((((w3.setCell ⟨b3, 0, none⟩ (.int .i64 k3)).setCell ⟨b3, 1, none⟩ (.slice A3 ws3.length c3)).setCell ⟨b3, 2, none⟩ (.int .i64 n3)).setCell ⟨b3, 3, none⟩ (.slice B3 xs3.length d3))) := Lib.hid ((Mod.of_pure (HM.out.trans hm3)).trans' hmF (fun i hi hlt => by omega))
 have HSZ4 : Hid (w2.heap.size ≤ ((((w3.setCell ⟨b3, 0, none⟩ (.int .i64 k3)).setCell ⟨b3, 1, none⟩ (.slice A3 ws3.length c3)).setCell ⟨b3, 2, none⟩ (.int .i64 n3)).setCell ⟨b3, 3, none⟩ (.slice B3 xs3.length d3)).heap.size ∧ qSize (QR.mk k3 A3 c3 ws3 n3 B3 d3 xs3).key ≤ Z) := Lib.hid ⟨by have := hmF.size; omega, by rw [hk3]; exact hz⟩
 have v0 := hb33.cell 0; have vf0 := hb33.frozen 0; have v1 := hb33.cell 1; have vf1 := hb33.frozen 1; have v2 := hb33.cell 2; have vf2 := hb33.frozen 2; have v3 := hb33.cell 3; have vf3 := hb33.frozen 3; simp at v0 v1 v2 v3
 go_upto_region 2 with (fail)
 generalize ((((w3.setCell ⟨b3, 0, none⟩ (.int .i64 k3)).setCell ⟨b3, 1, none⟩ (.slice A3 ws3.length c3)).setCell ⟨b3, 2, none⟩ (.int .i64 n3)).setCell ⟨b3, 3, none⟩ (.slice B3 xs3.length d3)) = w4 at *
 obtain ⟨base, hbase⟩ : ∃ base, w2.heap.size = base := ⟨_, rfl⟩
 rw [hbase] at HI4 HSZ4 hlt2
 obtain ⟨hbs4, hsz4⟩ := HSZ4.out
 clear hbase h4F hmF hb33 hC3 hD3 hm3 hk3 hs23 hge3 HCP HM HB3 HB4 HS HKB HSZ4 u0 u1 u2 u3 uf0 uf1 uf2 uf3 v0 v1 v2 v3 vf0 vf1 vf2 vf3
 have hlt4 : b4 < base := hlt2
 go_wp2_with fail
 go_loopg [5] (qSize (QR.mk k3 A3 c3 ws3 n3 B3 d3 xs3).key) (fun gk p wr => ∃ (g o : Nat) (q : QR), qSize q.key = gk ∧ gk ≤ Z ∧ p = .pointer (some ⟨g, o, none⟩) ∧ SpI b3 b3 base M Z wr g o q ∧ Blk wr b4 29 #[.int .i64 0, .slice none 0 0, .int .i64 0, .slice none 0 0] ∧ Strm wr b (N + 2 * (Z - gk)) ∧ Mod (· = b) w wr ∧ (g = b3 ∨ base ≤ g) ∧ base ≤ wr.heap.size)
 case atStart => exact ⟨b3, 0, QR.mk k3 A3 c3 ws3 n3 B3 d3 xs3, rfl, hsz4, rfl, HI4.out, HB44.out, HS4.out.more (by omega), HM4.out, .inl rfl, hbs4⟩
 case round =>
  clear HI4 HB44 HS4 HM4
  obtain ⟨g, o, ⟨k, A, c, ws, n, B, d, xs⟩, rfl, hgk, rfl, hI, hB4, hS, hM, hgd, hbsr⟩ := hrel
  obtain ⟨gs, hgs⟩ : ∃ gs, qSize (QR.mk k A c ws n B d xs).key = gs := ⟨_, rfl⟩
  have HGS := Lib.hid hgs
  rw [hgs] at hgk hS
  try simp only [hgs]
  clear hgs
  obtain ⟨q3, _⟩ := hI.cells (j := 3) rfl
  have HI := Lib.hid hI
  have HB4 := Lib.hid hB4
  have HS := Lib.hid hS
  have HM := Lib.hid hM
  have hgb : b < g := by obtain ⟨_, _, _, _, h, _⟩ := hI.blk; omega
  have hbr := hS.lt
  have HF := Lib.hid (flip_calls wr b _ 3 hS (by omega) (by omega) (by omega))
  clear hI hB4 hS hM
  go_upto_region 3 with (fail)
  go_cut [18] from 8 to 17 (fun p wx => SpC b3 base M Z w b b4 (N + 2 * (Z - gs) + 1) g o (.mk k A c ws n B d xs) xs p wx)
  case first =>
   by_cases hx : xs = []
   ·subst hx
    go_wp2_with fail
    go_meet
    exact ⟨false, by first | rfl | simp, fun h => (by cases h), HI.out, HB4.out, HS.out.more (by omega), HM.out, hbsr⟩
   ·have hl1 : (0 : Int) < (xs.length : Int) := by have := List.length_pos_iff.2 hx; omega
    go_wp2_with fail
    refine HF.out.mono ?_
    rintro e w5 ⟨f, rfl, hS5, hM5⟩
    have HI5 := Lib.hid (HI.out.mod hM5 (fun i hi => by omega))
    have HB5 := Lib.hid (HB4.out.modb hM5 (by omega))
    have HM5 := Lib.hid (HM.out.trans hM5)
    have HS5 := Lib.hid hS5
    have HX := Lib.hid hx
    have hbs5 := Nat.le_trans hbsr hM5.size
    clear hM5 HI HB4 HM HF HS hx
    go_wp2_with fail
    go_meet
    exact ⟨!f, by first | rfl | simp, fun _ => HX.out, HI5.out, HB5.out, HS5.out, HM5.out, hbs5⟩
  case rest =>
   clear HI HB4 HS HM HF q3
   obtain ⟨f, rfl, hfx, hI, hB4, hS, hM, hbsc⟩ := hcut
   have HI := Lib.hid hI
   have HB4 := Lib.hid hB4
   have HM := Lib.hid hM
   cases f with
   | true =>
    have hl1 : 0 < xs.length := List.length_pos_iff.2 (hfx rfl)
    have hl2 : (0 : Int) < (xs.length : Int) := by omega
    obtain ⟨gB, rfl, _⟩ := hI.down 0 hl1
    have hgB : base ≤ gB := by
     obtain ⟨_, _, _, _, _, _, h, _⟩ := hI.blk
     cases h with
     | mk hA hB hs => exact (own_aB hB (i := gB) (by simp [aB])).1
    obtain ⟨q3, _⟩ := hI.cells (j := 3) rfl
    have hxl : xs.length ≤ 1000 := by
     obtain ⟨_, _, _, _, _, _, _, _, h⟩ := hI.blk
     rw [QR.key_mk] at h
     have := h.xsH
     simp at this
     omega
    have HNX := Lib.hid (fun W (hp : Pure wc W) => next_calls W b _ (xs.length : Int) (hS.pure hp) (by omega) (by omega) (by omega))
    have HS := Lib.hid hS
    clear hI hB4 hS hM hfx
    go_upto_region 4 with (fail)
    go_region_with (go_at_call 24; (refine (HNX.out _ (by (repeat' (first | with_reducible assumption | with_reducible exact Mod.refl _ _ | with_reducible refine Mod.alloc ?_ _ | with_reducible refine Mod.drew ?_ | with_reducible refine Mod.drewN ?_ _ | ((with_reducible apply Mod.q_set); (dsimp only); omega) | ((with_reducible apply Mod.q_trans); (with_reducible assumption)) | ((with_reducible apply Mod.q_transp); (with_reducible assumption)))))).mono ?_); rintro e w5 ⟨kk, hk0, hk1, rfl, hS5, hM5'⟩; have hM5 : Mod (· = b) wc w5 := Mod.trans (by (repeat' (first | with_reducible assumption | with_reducible exact Mod.refl _ _ | with_reducible refine Mod.alloc ?_ _ | with_reducible refine Mod.drew ?_ | with_reducible refine Mod.drewN ?_ _ | ((with_reducible apply Mod.q_set); (dsimp only); omega) | ((with_reducible apply Mod.q_trans); (with_reducible assumption)) | ((with_reducible apply Mod.q_transp); (with_reducible assumption))))) hM5'; have hI5 := HI.out.mod hM5 (fun i hi => by omega); obtain ⟨c3, _⟩ := hI5.cells (j := 3) rfl; obtain ⟨i, rfl⟩ : ∃ i : Nat, kk = (i : Int) := ⟨kk.toNat, by omega⟩; have hi : i < xs.length := by omega)
    all_goals
     obtain ⟨gB', e, hI6⟩ := hI5.down i hi
     obtain rfl : gB = gB' := congrArg Addr.block (Option.some.inj e)
     have HI6 := Lib.hid hI6
     have HB6 := Lib.hid (HB4.out.modb hM5 (by omega))
     have HM6 := Lib.hid (HM.out.trans hM5)
     have hch := qsize_child (k := k) (n := n) (A := A) (B := some ⟨gB, 0, none⟩) (c := c) (d := d) (ws := ws) hi
     rw [HGS.out] at hch
     have hbs6 := Nat.le_trans hbsc hM5.size
     have HS6 := Lib.hid (hS5.more (M := N + 2 * (Z - qSize xs[i].key)) (by omega))
     clear hI5 hI6 hM5 hM5' hS5 HNX HS HI HB4 HM q3 c3
     go_wp2_with fail
     go_roundg (qSize xs[i].key)
     case measure => have := HGS.out; omega
     case rel => exact ⟨gB, i * 4, xs[i], rfl, by omega, by simp, HI6.out, HB6.out, HS6.out, HM6.out, .inr hgB, hbs6⟩
   | false =>
    clear hfx hI hB4 hM
    have hS0 : Strm wc b (N + 2 * Z + 1) := hS.more (by omega)
    clear hS
    go_wp2_with fail
    refine (next_calls wc b _ 5 hS0 (by omega) (by omega) (by omega)).mono ?_
    rintro e w5 ⟨kz, hkz0, hkz1, rfl, hS5, hM5⟩
    have HI5 := Lib.hid (HI.out.mod hM5 (fun i hi => by omega))
    have HB45 := Lib.hid (HB4.out.modb hM5 (by omega))
    have HM5 := Lib.hid (HM.out.trans hM5)
    have hbs5 := Nat.le_trans hbsc hM5.size
    clear hM5 HI HB4 HM hS0
    go_upto_block 2 with (fail)
    go_cut [] (fun wx => SpE w b b3 b4 base N M Z wx)
    case rest =>
     obtain ⟨⟨k2, A2, c2, ws2, n2, B2, d2, xs2⟩, hok, hsz2, hblk, hb4z, hSz, hMz⟩ := hcut
     have hb3z : Blk wc b3 29 #[.int .i64 k2, .slice A2 ws2.length c2, .int .i64 n2, .slice B2 xs2.length d2] := hblk
     have HFIN := Lib.hid (SpP.fin hok hb4z hlt4 hbl4 (by omega) hSz (N := N + 2 * Z + 60) (Nat.le_refl _) hMz (Z := Z + 3) hsz2)
     have h4F := st4_blk (a := .int .i64 k2) (b := .slice A2 ws2.length c2) (c := .int .i64 n2) (d := .slice B2 xs2.length d2) hb4z
     have x0 := hb3z.cell 0; have x1 := hb3z.cell 1; have x2 := hb3z.cell 2; have x3 := hb3z.cell 3; simp at x0 x1 x2 x3
     have y0 := hb4z.cell 0; have yf0 := hb4z.frozen 0; have y1 := hb4z.cell 1; have yf1 := hb4z.frozen 1; have y2 := hb4z.cell 2; have yf2 := hb4z.frozen 2; have y3 := hb4z.cell 3; have yf3 := hb4z.frozen 3; simp at y0 y1 y2 y3
     clear hb3z hb4z hblk hok hSz hMz
     go_wp2_with fail
     have z0 := h4F.cell 0; have z1 := h4F.cell 1; have z2 := h4F.cell 2; have z3 := h4F.cell 3; simp at z0 z1 z2 z3
     try simp only [Exit.inBlock, Exit.then]
     refine bodyPost_ret (v := .agg #[.int .i64 k2, .slice A2 ws2.length c2, .int .i64 n2, .slice B2 xs2.length d2]) (by simp [results, Tryz.results41, go_sem, z0, z1, z2, z3]) rfl ?_
     exact HFIN.out
    by_cases kzz : kz = 0
    ·subst kzz
     go_wp2_with fail
     refine (odd_calls w5 b _ 1 13 hS5 (by omega) (by omega) (by omega) (by omega)).mono ?_
     rintro e w6 ⟨kd, hkd0, hkd1, rfl, hS6, hM6⟩
     have hI6 := HI5.out.mod hM6 (fun i hi => by omega)
     have hm6 := HM5.out.trans hM6
     have hb46 := HB45.out.modb hM6 (by omega)
     obtain ⟨c0, f0⟩ := hI6.cells (j := 0) rfl
     simp only [Nat.add_zero] at c0 f0
     obtain ⟨_, _, _, _, hlg, hgq, hQC, hQD, hMq⟩ := hI6.blk
     have hn := hMq
     rw [QR.key_mk] at hn
     have HE : Hid (SpE w b b3 b4 base N M Z (w6.setCell ⟨g, o, none⟩ (.int .i64 kd))) := Lib.hid (spE_of (hI6.put1 (e := 0) (Mod.refl (fun _ => False) w6) (fun k hk => False.elim hk) 0 (by omega) (.int .i64 kd) (q' := .mk kd A c ws n B d xs) rfl (hQC.num hMq hM0 (mod_set (Mod.refl (· = g) w6) o (.int .i64 kd)) (fun i hi e => hgq (e ▸ hi)) (by omega) ⟨hn.knH.2.2.1, hn.knH.2.2.2⟩) (by rw [QR.key_mk, QR.key_mk, qSize, qSize]; exact Nat.le_refl _)) (by omega) (hb46.mod (mod_set (Mod.refl (· = g) w6) o (.int .i64 kd)) (by omega)) (hS6.setCell (p := ⟨g, o, none⟩) (by show b < g; omega) (.int .i64 kd)) (by omega) (hm6.setCell (p := ⟨g, o, none⟩) (.inr (by show w.heap.size ≤ g; omega)) (.int .i64 kd)))
     go_wp2_with fail
     go_meet
     first
      | exact HE.out
      | (rw [← st4_comm _ hne2]; exact HE.out)
    have kz0 : (kz == 0) = false := by simpa using kzz
    by_cases kz1 : kz = 1
    ·subst kz1
     go_wp2_with fail
     refine (pickv_calls _ b _ w5.heap.size _ _ #[.int .i64 0, .int .i64 1, .int .i64 5, .int .i64 20, .int .i64 21, .int .i64 (-1), .int .i64 4000, .int .i64 4001] (hS5.alloc _) (Blk.new _ _ _) (by omega) (by omega) rfl (by decide) (by decide) rfl).mono ?_
     rintro e w6 ⟨nd, hmem, rfl, hS6, hM6⟩
     have hnd : -1 ≤ nd ∧ nd ≤ 4001 := by
      have h : nd = 0 ∨ nd = 1 ∨ nd = 5 ∨ nd = 20 ∨ nd = 21 ∨ nd = -1 ∨ nd = 4000 ∨ nd = 4001 := by simpa [intsOf, Go.RowKit.intOf] using hmem
      omega
     clear hmem
     have hpa5 := pure_alloc w5 (.cells #[.int .i64 0, .int .i64 1, .int .i64 5, .int .i64 20, .int .i64 21, .int .i64 (-1), .int .i64 4000, .int .i64 4001] 3)
     have hs5a := hpa5.size
     have hI6 := (HI5.out.mod hpa5 (fun i hi => False.elim hi)).mod hM6 (fun i hi => by omega)
     have hm6 := (HM5.out.trans (Mod.of_pure hpa5)).trans hM6
     have hb46 := (HB45.out.modp hpa5).modb hM6 (by omega)
     obtain ⟨c0, f0⟩ := hI6.cells (j := 2) rfl
     obtain ⟨_, _, _, _, hlg, hgq, hQC, hQD, hMq⟩ := hI6.blk
     have hn := hMq
     rw [QR.key_mk] at hn
     have HE : Hid (SpE w b b3 b4 base N M Z (w6.setCell ⟨g, o + 2, none⟩ (.int .i64 nd))) := Lib.hid (spE_of (hI6.put1 (e := 0) (Mod.refl (fun _ => False) w6) (fun k hk => False.elim hk) 2 (by omega) (.int .i64 nd) (q' := .mk k A c ws nd B d xs) rfl (hQC.num hMq hM0 (mod_set (Mod.refl (· = g) w6) (o + 2) (.int .i64 nd)) (fun i hi e => hgq (e ▸ hi)) ⟨hn.knH.1, hn.knH.2.1⟩ (by omega)) (by rw [QR.key_mk, QR.key_mk, qSize, qSize]; exact Nat.le_refl _)) (by omega) (hb46.mod (mod_set (Mod.refl (· = g) w6) (o + 2) (.int .i64 nd)) (by omega)) (hS6.setCell (p := ⟨g, o + 2, none⟩) (by show b < g; omega) (.int .i64 nd)) (by omega) (hm6.setCell (p := ⟨g, o + 2, none⟩) (.inr (by show w.heap.size ≤ g; omega)) (.int .i64 nd)))
     go_wp2_with fail
     go_meet
     first
      | exact HE.out
      | (rw [← st4_comm _ hne2]; exact HE.out)
    have kz1i : (kz == 1) = false := by simpa using kz1
    by_cases kz2 : kz = 2
    ·subst kz2
     have HPT := Lib.hid (fun W (hp : Pure w5 W) => pattern_calls W b _ (hS5.pure hp) (by omega))
     obtain ⟨c0, f0⟩ := HI5.out.cells (j := 1) rfl
     obtain ⟨_, _, _, _, hlg0, hgq0, hQC0, hQD0, hMq0⟩ := HI5.out.blk
     have hwl : ws.length ≤ 1000 := by
      have h := hMq0
      rw [QR.key_mk] at h
      have := h.wsH.1
      omega
     go_upto_region 12 with (fail)
     go_region_law (first
      | (refine step_callQ rfl 102 _ _ rfl (by kernel_rfl) _ (by simp [Act.eval, Act.put]; done) (HPT.out _ (by (repeat' (first | with_reducible assumption | with_reducible exact Mod.refl _ _ | with_reducible refine Mod.alloc ?_ _ | with_reducible refine Mod.drew ?_ | with_reducible refine Mod.drewN ?_ _ | ((with_reducible apply Mod.q_set); (dsimp only); omega) | ((with_reducible apply Mod.q_trans); (with_reducible assumption)) | ((with_reducible apply Mod.q_transp); (with_reducible assumption)))))) ?_; rintro e w6 ⟨s6, hs6, rfl, hS6, hM6'⟩; refine ⟨_, rfl, ?_⟩; have hM6 : Mod (· = b) w5 w6 := Mod.trans (by (repeat' (first | with_reducible assumption | with_reducible exact Mod.refl _ _ | with_reducible refine Mod.alloc ?_ _ | with_reducible refine Mod.drew ?_ | with_reducible refine Mod.drewN ?_ _ | ((with_reducible apply Mod.q_set); (dsimp only); omega) | ((with_reducible apply Mod.q_trans); (with_reducible assumption)) | ((with_reducible apply Mod.q_transp); (with_reducible assumption))))) hM6'; have hI6 := HI5.out.mod hM6 (fun i hi => by omega); have hpa6 := pure_alloc w6 (.cells #[.string ⟨s6.toArray⟩] 9); have hI6a := hI6.mod hpa6 (fun i hi => False.elim hi); obtain ⟨_, _, _, _, hlg, hgq, hQC, hQD, hMq⟩ := hI6a.blk; obtain ⟨c1, f1⟩ := hI6.cells (j := 1) rfl; obtain ⟨c2, f2⟩ := hI6a.cells (j := 1) rfl; have hwo : (w6.alloc (.cells #[.string ⟨s6.toArray⟩] 9)).ownsRow base 9 1 (.slice A ws.length c) ws.length (strsV ws) := (by cases hQC; assumption); have hbs : base ≤ (w6.alloc (.cells #[.string ⟨s6.toArray⟩] 9)).heap.size := Nat.le_trans hbs5 (Nat.le_trans hM6.size hpa6.size); obtain ⟨A7, c7, w7, hr7, hown7, hgrow7, hat7⟩ := run_appS (w6.alloc (.cells #[.string ⟨s6.toArray⟩] 9)) 26 base ws.length w6.heap.size (.slice A ws.length c) ws s6 hwo (Blk.new _ _ _) hbs (by omega); have hm7 := mod_grown hgrow7; have hown := own_inA (A := A) (n := ws.length) (c := c); obtain ⟨c3, f3⟩ := hI6a.cells1 hm7 (fun i hi => .inl (qBl_mk.2 (.inl (hown i hi)))) (j := 1) rfl)
      | (refine step_append_I rfl (.tmp 66) (.tmp 69) 26 rfl _ _ _ _ (by simp [Act.eval, Act.put]; done) (by simp [Act.eval, Act.put]; done) hr7 ?_))
     all_goals
      have hs6' : s6.length ≤ 100 := by omega
      obtain ⟨_, _, hBg7, _, _⟩ := hI6a.at hm7 (fun i hi => .inl (qBl_mk.2 (.inl (hown i hi))))
      have hgA7 : g ∉ aB A7 := fun hi => absurd (own_tyB hown7 hi hBg7) (by decide)
      have hol := hwo.lt
      have hb46 := ((HB45.out.modb hM6 (by omega)).modp hpa6).mod hm7 (fun hv => by have := hol _ hv; omega)
      have hS7 := (hS6.pure hpa6).mod hm7 (fun i hi hv => by have := hol _ hv; omega)
      have hM7 := (((HM5.out.trans hM6).trans (Mod.of_pure hpa6)).trans' hm7 (fun i hi hlt => by have := hol i hi; omega))
      have HE : Hid (SpE w b b3 b4 base N M Z (w7.setCell ⟨g, o + 1, none⟩ (.slice A7 (ws.length + 1) c7))) := Lib.hid (spE_of (hI6a.put1 (e := 0) hm7 (fun i hi => .inl (qBl_mk.2 (.inl (hown i hi)))) 1 (by omega) (.slice A7 (ws.length + 1) c7) (q' := .mk k A7 c7 (ws ++ [s6]) n B d xs) (by simp [qC]) (hQC.word hQD hMq hM0 hs6' hm7 hown7 (mod_set (Mod.refl (· = g) w7) (o + 1) (.slice A7 (ws.length + 1) c7)) hgq hgA7) (by rw [QR.key_mk, QR.key_mk, qSize, qSize]; exact Nat.le_refl _)) (by omega) (hb46.mod (mod_set (Mod.refl (· = g) w7) (o + 1) (.slice A7 (ws.length + 1) c7)) (by omega)) (hS7.setCell (p := ⟨g, o + 1, none⟩) (by show b < g; omega) (.slice A7 (ws.length + 1) c7)) (by omega) (hM7.setCell (p := ⟨g, o + 1, none⟩) (.inr (by show w.heap.size ≤ g; omega)) (.slice A7 (ws.length + 1) c7)))
      go_wp2_with fail
      go_meet
      first
       | exact HE.out
       | (rw [← st4_comm _ hne2]; exact HE.out)
    have kz2i : (kz == 2) = false := by simpa using kz2
    by_cases kz3 : kz = 3
    ·subst kz3
     have HBW := Lib.hid (fun W (hp : Pure w5 W) => byWordsG_calls b 0 W _ 0 rfl (by omega) (hS5.pure hp) (by omega))
     obtain ⟨c0, f0⟩ := HI5.out.cells (j := 3) rfl
     obtain ⟨_, hBg5, _, _, hlg0, hgq0, hQC0, hQD0, hMq0⟩ := HI5.out.blk
     have hgl5 := hBg5.lt
     have hwo5 : w5.ownsRow base 29 4 (.slice B xs.length d) xs.length (qV xs) := by cases hQC0; assumption
     have hol5 := hwo5.lt
     have hwl : xs.length ≤ 1000 := by
      have h := hMq0
      rw [QR.key_mk] at h
      have := h.xsH
      simp at this
      omega
     have hx1 : (xs.length : Int) < ((xs.length + 1 : Nat) : Int) := by omega
     have hx2 : (xs.length : Int) < (xs.length : Int) + 1 := by omega
     have hx3 : xs.length < xs.length + 1 := by omega
     have hx4 : (0 : Int) ≤ (xs.length : Int) := by omega
     have hcB : cB 0 = 5 := rfl
     have hsB : sB 0 = 1 := rfl
     go_upto_region 14 with (fail)
     have c0a := cell_alloc c0 (.cells #[.int .i64 0, .slice none 0 0, .int .i64 0, .slice none 0 0] 29)
     have hCA := Lib.hid (HBW.out ((w5.alloc (.cells #[.int .i64 0, .slice none 0 0, .int .i64 0, .slice none 0 0] 29)).drew) (by (repeat' (first | with_reducible assumption | with_reducible exact Mod.refl _ _ | with_reducible refine Mod.alloc ?_ _ | with_reducible refine Mod.drew ?_ | with_reducible refine Mod.drewN ?_ _ | ((with_reducible apply Mod.q_set); (dsimp only); omega) | ((with_reducible apply Mod.q_trans); (with_reducible assumption)) | ((with_reducible apply Mod.q_transp); (with_reducible assumption))))))
     have hCB := Lib.hid (HBW.out w5.drew (by (repeat' (first | with_reducible assumption | with_reducible exact Mod.refl _ _ | with_reducible refine Mod.alloc ?_ _ | with_reducible refine Mod.drew ?_ | with_reducible refine Mod.drewN ?_ _ | ((with_reducible apply Mod.q_set); (dsimp only); omega) | ((with_reducible apply Mod.q_trans); (with_reducible assumption)) | ((with_reducible apply Mod.q_transp); (with_reducible assumption))))))
     go_region_law (first
      | (refine step_callQ rfl 100 _ _ rfl (by kernel_rfl) #[.pointer (some ⟨b, 0, none⟩), .int .i64 0] (by simp [Act.eval, Act.put]; done) (by with_reducible exact hCA.out) ?_; rintro e w6 ⟨⟨k6, A6, c6, ws6, n6, B6, d6, xs6⟩, rfl, hq6, hf6, hb6, hsz6, hS6, hM6', hz6⟩; rw [qA_mk]; refine ⟨_, rfl, ?_⟩; have hM6 : Mod (· = b) w5 w6 := Mod.trans (by (repeat' (first | with_reducible assumption | with_reducible exact Mod.refl _ _ | with_reducible refine Mod.alloc ?_ _ | with_reducible refine Mod.drew ?_ | with_reducible refine Mod.drewN ?_ _ | ((with_reducible apply Mod.q_set); (dsimp only); omega) | ((with_reducible apply Mod.q_trans); (with_reducible assumption)) | ((with_reducible apply Mod.q_transp); (with_reducible assumption))))) hM6'; have hI6 := HI5.out.mod hM6 (fun i hi => by omega); have hpa6 : Pure w6 (w6) := Mod.refl _ _; have hI6a := hI6.mod hpa6 (fun i hi => False.elim hi); obtain ⟨_, _, _, _, hlg, hgq, hQC, hQD, hMq⟩ := hI6a.blk; obtain ⟨c1, f1⟩ := hI6.cells (j := 3) rfl; obtain ⟨c2, f2⟩ := hI6a.cells (j := 3) rfl; have hwo : (w6).ownsRow base 29 4 (.slice B xs.length d) xs.length (qV xs) := (by cases hQC; assumption); have hs56 := hM6.size; have hs6a := hpa6.size; have hbs : base ≤ (w6).heap.size := Nat.le_trans hbs5 (Nat.le_trans hs56 hs6a); obtain ⟨A7, c7, w7, hr7, hown7, hgrow7, hat7⟩ := run_app4 (w6) 27 base xs.length (w5.heap.size) (.slice B xs.length d) xs (.mk 0 none 0 [] 0 none 0 []) hwo ((show Blk ((w5.alloc (.cells #[.int .i64 0, .slice none 0 0, .int .i64 0, .slice none 0 0] 29)).drew) w5.heap.size 29 #[.int .i64 0, .slice none 0 0, .int .i64 0, .slice none 0 0] from Blk.new w5 29 #[.int .i64 0, .slice none 0 0, .int .i64 0, .slice none 0 0]).modb hM6' (by omega)) hbs (by omega); obtain ⟨gN, rfl⟩ := own_someS hown7 (by omega); have hm7 := mod_grown hgrow7; have hown := own_inA (A := B) (n := xs.length) (c := d); obtain ⟨c3, f3⟩ := hI6a.cells1 hm7 (fun i hi => .inl (qBl_mk.2 (.inr (.inl (hown i hi))))) (j := 3) rfl; have hat : (Value.slice B xs.length d).ownBlock = some gN ∨ (w6).heap.size ≤ gN := own_at hat7; have hne : gN ≠ g := own_neB hat (fun i hi e => hgq (qBl_mk.2 (.inr (.inl (e ▸ hown i hi))))) (by omega); have hne2 : g ≠ gN := (fun e => hne e.symm); obtain ⟨r0, r1, r2, r3⟩ := own_lastC hown7; have fr0 := hown7.frozenAt (xs.length * 4); have fr1 := hown7.frozenAt (xs.length * 4 + 1); have fr2 := hown7.frozenAt (xs.length * 4 + 2); have fr3 := hown7.frozenAt (xs.length * 4 + 3); have hmS := st4_modo (w := w7) (g := gN) (o := xs.length * 4) (a := .int .i64 k6) (b := .slice A6 ws6.length c6) (c := .int .i64 n6) (d := .slice B6 xs6.length d6); have c4 := hmS.keep c3 hne2; have f4 := hmS.keepf c3 f3 hne2)
      | (refine step_callQ rfl 100 _ _ rfl (by kernel_rfl) #[.pointer (some ⟨b, 0, none⟩), .int .i64 0] (by simp [Act.eval, Act.put]; done) (by with_reducible exact hCB.out) ?_; rintro e w6 ⟨⟨k6, A6, c6, ws6, n6, B6, d6, xs6⟩, rfl, hq6, hf6, hb6, hsz6, hS6, hM6', hz6⟩; rw [qA_mk]; refine ⟨_, rfl, ?_⟩; have hM6 : Mod (· = b) w5 w6 := Mod.trans (by (repeat' (first | with_reducible assumption | with_reducible exact Mod.refl _ _ | with_reducible refine Mod.alloc ?_ _ | with_reducible refine Mod.drew ?_ | with_reducible refine Mod.drewN ?_ _ | ((with_reducible apply Mod.q_set); (dsimp only); omega) | ((with_reducible apply Mod.q_trans); (with_reducible assumption)) | ((with_reducible apply Mod.q_transp); (with_reducible assumption))))) hM6'; have hI6 := HI5.out.mod hM6 (fun i hi => by omega); have hpa6 : Pure w6 (w6.alloc (.cells #[.int .i64 0, .slice none 0 0, .int .i64 0, .slice none 0 0] 29)) := pure_alloc _ _; have hI6a := hI6.mod hpa6 (fun i hi => False.elim hi); obtain ⟨_, _, _, _, hlg, hgq, hQC, hQD, hMq⟩ := hI6a.blk; obtain ⟨c1, f1⟩ := hI6.cells (j := 3) rfl; obtain ⟨c2, f2⟩ := hI6a.cells (j := 3) rfl; have hwo : (w6.alloc (.cells #[.int .i64 0, .slice none 0 0, .int .i64 0, .slice none 0 0] 29)).ownsRow base 29 4 (.slice B xs.length d) xs.length (qV xs) := (by cases hQC; assumption); have hs56 := hM6.size; have hs6a := hpa6.size; have hbs : base ≤ (w6.alloc (.cells #[.int .i64 0, .slice none 0 0, .int .i64 0, .slice none 0 0] 29)).heap.size := Nat.le_trans hbs5 (Nat.le_trans hs56 hs6a); obtain ⟨A7, c7, w7, hr7, hown7, hgrow7, hat7⟩ := run_app4 (w6.alloc (.cells #[.int .i64 0, .slice none 0 0, .int .i64 0, .slice none 0 0] 29)) 27 base xs.length (w6.heap.size) (.slice B xs.length d) xs (.mk 0 none 0 [] 0 none 0 []) hwo (Blk.new _ _ _) hbs (by omega); obtain ⟨gN, rfl⟩ := own_someS hown7 (by omega); have hm7 := mod_grown hgrow7; have hown := own_inA (A := B) (n := xs.length) (c := d); obtain ⟨c3, f3⟩ := hI6a.cells1 hm7 (fun i hi => .inl (qBl_mk.2 (.inr (.inl (hown i hi))))) (j := 3) rfl; have hat : (Value.slice B xs.length d).ownBlock = some gN ∨ (w6.alloc (.cells #[.int .i64 0, .slice none 0 0, .int .i64 0, .slice none 0 0] 29)).heap.size ≤ gN := own_at hat7; have hne : gN ≠ g := own_neB hat (fun i hi e => hgq (qBl_mk.2 (.inr (.inl (e ▸ hown i hi))))) (by omega); have hne2 : g ≠ gN := (fun e => hne e.symm); obtain ⟨r0, r1, r2, r3⟩ := own_lastC hown7; have fr0 := hown7.frozenAt (xs.length * 4); have fr1 := hown7.frozenAt (xs.length * 4 + 1); have fr2 := hown7.frozenAt (xs.length * 4 + 2); have fr3 := hown7.frozenAt (xs.length * 4 + 3); have hmS := st4_modo (w := w7) (g := gN) (o := xs.length * 4) (a := .int .i64 k6) (b := .slice A6 ws6.length c6) (c := .int .i64 n6) (d := .slice B6 xs6.length d6); have c4 := hmS.keep c3 hne2; have f4 := hmS.keepf c3 f3 hne2)
      | (refine step_append_I rfl (.tmp 78) (.tmp 82) 27 rfl _ _ _ _ (by simp [Act.eval, Act.put]; done) (by simp [Act.eval, Act.put]; done) hr7 ?_))
     all_goals
      first
       | (have hpt : Pure w6 (w6.alloc (.cells #[.int .i64 0, .slice none 0 0, .int .i64 0, .slice none 0 0] 29)) := (by with_reducible exact hpa6); clear hpt; generalize (w6.alloc (.cells #[.int .i64 0, .slice none 0 0, .int .i64 0, .slice none 0 0] 29)) = wA at *)
       | obtain ⟨wA, rfl⟩ : ∃ wA, wA = w6 := ⟨_, rfl⟩
      obtain ⟨_, _, hBg7, _, _⟩ := hI6a.at hm7 (fun i hi => .inl (qBl_mk.2 (.inr (.inl (hown i hi)))))
      have hol := hwo.lt
      have hf6' := hf6.up (b1 := w5.heap.size) (by first | exact Nat.le_refl _ | simp)
      have hmF := (mod_set (Mod.refl (· = g) ((((w7.setCell ⟨gN, xs.length * 4, none⟩ (.int .i64 k6)).setCell ⟨gN, xs.length * 4 + 1, none⟩ (.slice A6 ws6.length c6)).setCell ⟨gN, xs.length * 4 + 2, none⟩ (.int .i64 n6)).setCell ⟨gN, xs.length * 4 + 3, none⟩ (.slice B6 xs6.length d6))) (o + 3) (.slice (some ⟨gN, 0, none⟩) (xs.length + 1) c7))
      have hb46 := (((HB45.out.modb hM6 (by omega)).modp hpa6).mod hm7 (fun hv => by have := hol _ hv; omega)).mod hmS (fun e => by rcases hat with h | h; (have := hol _ h; omega); (have := HB45.out.lt; omega))
      have hS7 := (((hS6.pure hpa6).mod hm7 (fun i hi hv => by have := hol _ hv; omega)).mod hmS (fun i hi e => by rcases hat with h | h; (have := hol _ h; omega); omega))
      have hM7 := ((((HM5.out.trans hM6).trans (Mod.of_pure hpa6)).trans' hm7 (fun i hi hlt => by have := hol i hi; omega))).trans' hmS (fun i hi hlt => by rcases hat with h | h; (have := hol _ h; omega); (have := HM5.out.size; omega))
      have hm68 : Mod (fun i => (Value.slice B xs.length d).ownBlock = some i) wA ((((w7.setCell ⟨gN, xs.length * 4, none⟩ (.int .i64 k6)).setCell ⟨gN, xs.length * 4 + 1, none⟩ (.slice A6 ws6.length c6)).setCell ⟨gN, xs.length * 4 + 2, none⟩ (.int .i64 n6)).setCell ⟨gN, xs.length * 4 + 3, none⟩ (.slice B6 xs6.length d6)) := hm7.trans' hmS (fun i hi hlt => by rcases hat with h | h; (rw [hi]; exact h); omega)
      have ho8 := own_st4 hown7 xs.length (by simp) k6 n6 A6 B6 c6 d6 ws6 xs6
      have eset : (xs ++ [QR.mk 0 none 0 [] 0 none 0 []]).set xs.length (QR.mk k6 A6 c6 ws6 n6 B6 d6 xs6) = xs ++ [QR.mk k6 A6 c6 ws6 n6 B6 d6 xs6] := by simp
      rw [eset] at ho8
      have ho9 := own_modB ho8 hmF (fun i hi e => hne (by have h2 : i = gN := (by simpa [aB] using hi); omega))
      have hgN : ∀ arr fr, w7.heap[gN]? ≠ some (.cells arr 9 fr) := fun arr fr h => absurd (own_tyB hown7 (g := gN) (by simp [aB]) h) (by decide)
      have hgG : ∀ arr fr, w7.heap[g]? ≠ some (.cells arr 9 fr) := fun arr fr h => by
       unfold Blk at hBg7
       rw [h] at hBg7
       injection hBg7 with h2
       injection h2 with _ h2
       exact absurd h2 (by decide)
      have HE : Hid (SpE w b b3 b4 base N M Z (((((w7.setCell ⟨gN, xs.length * 4, none⟩ (.int .i64 k6)).setCell ⟨gN, xs.length * 4 + 1, none⟩ (.slice A6 ws6.length c6)).setCell ⟨gN, xs.length * 4 + 2, none⟩ (.int .i64 n6)).setCell ⟨gN, xs.length * 4 + 3, none⟩ (.slice B6 xs6.length d6)).setCell ⟨g, o + 3, none⟩ (.slice (some ⟨gN, 0, none⟩) (xs.length + 1) c7))) := Lib.hid (spE_of (hI6a.put1 (e := 3) hm68 (fun i hi => .inl (qBl_mk.2 (.inr (.inl (hown i hi))))) 3 (by omega) (.slice (some ⟨gN, 0, none⟩) (xs.length + 1) c7) (q' := .mk k A c ws n (some ⟨gN, 0, none⟩) c7 (xs ++ [QR.mk k6 A6 c6 ws6 n6 B6 d6 xs6])) (by simp [qC]) (hQC.arg hQD hMq hM0 (hq6.pure hpa6) (hf6.up (by first | exact hbs5 | (simp; omega))) hz6 hb6 (QN.old hf6' (fun i hi => (hol5 i hi).2)) (QN.old hf6' (fun i hi => by omega)) hm7 hat ((hmS.mono (fun i hi => .inl hi)).trans (hmF.mono (fun i hi => .inr hi))) ho9 hgq hgG hgN) (by rw [QR.key_mk, QR.key_mk (xs := xs), qSize, qSize, List.map_append, List.map_append, List.sum_append]; simp only [List.map_cons, List.map_nil, List.sum_cons, List.sum_nil]; omega)) (by omega) (hb46.mod hmF (by omega)) (hS7.setCell (p := ⟨g, o + 3, none⟩) (by show b < g; omega) (.slice (some ⟨gN, 0, none⟩) (xs.length + 1) c7)) (by omega) (hM7.setCell (p := ⟨g, o + 3, none⟩) (.inr (by show w.heap.size ≤ g; omega)) (.slice (some ⟨gN, 0, none⟩) (xs.length + 1) c7)))
      go_wp2_with fail
      go_meet
      first
       | exact HE.out
       | (rw [← st4_comm _ hne2]; exact HE.out)
    have kz3i : (kz == 3) = false := by simpa using kz3
    clear kzz kz1 kz2 kz3
    obtain ⟨c0, f0⟩ := HI5.out.cells (j := 0) rfl
    obtain ⟨c1, f1⟩ := HI5.out.cells (j := 1) rfl
    obtain ⟨c2, f2⟩ := HI5.out.cells (j := 2) rfl
    obtain ⟨c3, f3⟩ := HI5.out.cells (j := 3) rfl
    simp only [Nat.add_zero] at c0 f0
    obtain ⟨_, hBg5, _, _, hlg0, hgq0, hQC0, hQD0, hMq0⟩ := HI5.out.blk
    have hgl5 := hBg5.lt
    have HCP := Lib.hid (copyQ_calls (.mk k A c ws n B d xs) w5 hQC0.qs hQC0.z (hMq0.mono (by omega)))
    rw [qA_mk] at HCP
    have HMQ := Lib.hid hMq0
    have hcB : cB 0 = 5 := rfl
    have hsB : sB 0 = 1 := rfl
    clear hQC0 hQD0 hMq0 hgq0 hBg5
    go_wp2_with fail
    refine HCP.out.mono ?_
    rintro e w6 ⟨⟨k6, A6, c6, ws6, n6, B6, d6, xs6⟩, rfl, hk6, hC6, hD6, hm6⟩
    simp only [qA_mk]
    have HBW := Lib.hid (byWordsG_calls b 0 w6 _ 0 rfl (by omega) (hS5.pure hm6) (by omega))
    clear HCP
    go_wp2_with fail
    refine HBW.out.mono ?_
    rintro e w7 ⟨⟨k7, A7, c7, ws7, n7, B7, d7, xs7⟩, rfl, hq7, hf7, hb7, hsz7, hS7, hM7, hz7⟩
    simp only [qA_mk]
    have hs56 := hm6.size
    have hs67 := hM7.size
    have hp8 : Pure w7 ((w7.alloc (.cells #[.int .i64 k7, .slice A7 ws7.length c7, .int .i64 n7, .slice B7 xs7.length d7] 29)).alloc (.cells #[.int .i64 k6, .slice A6 ws6.length c6, .int .i64 n6, .slice B6 xs6.length d6, .int .i64 8, .slice none 0 0, .int .i64 0, .slice (some ⟨w7.heap.size, 0, none⟩) 1 1] 29)) := ((Mod.refl _ _).alloc _).alloc _
    have hI8 := ((HI5.out.mod hm6 (fun i hi => False.elim hi)).mod hM7 (fun i hi => by omega)).mod hp8 (fun i hi => False.elim hi)
    obtain ⟨d0, e0⟩ := hI8.cells (j := 0) rfl
    obtain ⟨d1, e1⟩ := hI8.cells (j := 1) rfl
    obtain ⟨d2, e2⟩ := hI8.cells (j := 2) rfl
    obtain ⟨d3, e3⟩ := hI8.cells (j := 3) rfl
    simp only [Nat.add_zero] at d0 e0
    obtain ⟨_, hBg8, _, _, _, hgq8, _, _, _⟩ := hI8.blk
    have hmF : Mod (· = g) ((w7.alloc (.cells #[.int .i64 k7, .slice A7 ws7.length c7, .int .i64 n7, .slice B7 xs7.length d7] 29)).alloc (.cells #[.int .i64 k6, .slice A6 ws6.length c6, .int .i64 n6, .slice B6 xs6.length d6, .int .i64 8, .slice none 0 0, .int .i64 0, .slice (some ⟨w7.heap.size, 0, none⟩) 1 1] 29)) (((((((w7.alloc (.cells #[.int .i64 k7, .slice A7 ws7.length c7, .int .i64 n7, .slice B7 xs7.length d7] 29)).alloc (.cells #[.int .i64 k6, .slice A6 ws6.length c6, .int .i64 n6, .slice B6 xs6.length d6, .int .i64 8, .slice none 0 0, .int .i64 0, .slice (some ⟨w7.heap.size, 0, none⟩) 1 1] 29)).setCell ⟨g, o, none⟩ (.int .i64 4)).setCell ⟨g, o + 1, none⟩ (.slice none 0 0)).setCell ⟨g, o + 2, none⟩ (.int .i64 0)).setCell ⟨g, o + 3, none⟩ (.slice (some ⟨w7.heap.size + 1, 0, none⟩) 2 2))) := st4_modo
    have hge6 := hC6.ge
    have hC8 := (((hC6.mod hM7 (fun i hi e => by have := (hge6 i hi).1; omega)).mod hp8 (fun i hi h => h)).mod hmF (fun i hi e => by have := (hge6 i hi).1; omega))
    have hst : ∀ x arr fr, (((w7.alloc (.cells #[.int .i64 k7, .slice A7 ws7.length c7, .int .i64 n7, .slice B7 xs7.length d7] 29)).alloc (.cells #[.int .i64 k6, .slice A6 ws6.length c6, .int .i64 n6, .slice B6 xs6.length d6, .int .i64 8, .slice none 0 0, .int .i64 0, .slice (some ⟨w7.heap.size, 0, none⟩) 1 1] 29))).heap[x]? = some (.cells arr 9 fr) → ¬ x = g := fun x arr fr hg he => by
     subst he
     unfold Blk at hBg8
     rw [hg] at hBg8
     injection hBg8 with h
     injection h with _ h
     exact absurd h (by decide)
    have hq8 := (hq7.pure hp8).modF hf7 hmF hst (fun x hx => by show ¬ x = g; omega)
    have hB1 : Blk ((w7.alloc (.cells #[.int .i64 k7, .slice A7 ws7.length c7, .int .i64 n7, .slice B7 xs7.length d7] 29)).alloc (.cells #[.int .i64 k6, .slice A6 ws6.length c6, .int .i64 n6, .slice B6 xs6.length d6, .int .i64 8, .slice none 0 0, .int .i64 0, .slice (some ⟨w7.heap.size, 0, none⟩) 1 1] 29)) w7.heap.size 29 (qC (.mk k7 A7 c7 ws7 n7 B7 d7 xs7)).toArray := (Blk.new w7 29 #[.int .i64 k7, .slice A7 ws7.length c7, .int .i64 n7, .slice B7 xs7.length d7]).alloc _
    have hB2 : Blk ((w7.alloc (.cells #[.int .i64 k7, .slice A7 ws7.length c7, .int .i64 n7, .slice B7 xs7.length d7] 29)).alloc (.cells #[.int .i64 k6, .slice A6 ws6.length c6, .int .i64 n6, .slice B6 xs6.length d6, .int .i64 8, .slice none 0 0, .int .i64 0, .slice (some ⟨w7.heap.size, 0, none⟩) 1 1] 29)) (w7.heap.size + 1) 29 (qV [.mk k6 A6 c6 ws6 n6 B6 d6 xs6, QR.mk 8 none 0 [] 0 (some ⟨w7.heap.size, 0, none⟩) 1 [.mk k7 A7 c7 ws7 n7 B7 d7 xs7]]).toArray := Blk.snd w7 (.cells #[.int .i64 k7, .slice A7 ws7.length c7, .int .i64 n7, .slice B7 xs7.length d7] 29) 29 _
    have hN8 : QS (((((((w7.alloc (.cells #[.int .i64 k7, .slice A7 ws7.length c7, .int .i64 n7, .slice B7 xs7.length d7] 29)).alloc (.cells #[.int .i64 k6, .slice A6 ws6.length c6, .int .i64 n6, .slice B6 xs6.length d6, .int .i64 8, .slice none 0 0, .int .i64 0, .slice (some ⟨w7.heap.size, 0, none⟩) 1 1] 29)).setCell ⟨g, o, none⟩ (.int .i64 4)).setCell ⟨g, o + 1, none⟩ (.slice none 0 0)).setCell ⟨g, o + 2, none⟩ (.int .i64 0)).setCell ⟨g, o + 3, none⟩ (.slice (some ⟨w7.heap.size + 1, 0, none⟩) 2 2))) (QR.mk 8 none 0 [] 0 (some ⟨w7.heap.size, 0, none⟩) 1 [.mk k7 A7 c7 ws7 n7 B7 d7 xs7]) := qs_one (hB1.mod hmF (by omega)) hq8
    have hQ8 : QS (((((((w7.alloc (.cells #[.int .i64 k7, .slice A7 ws7.length c7, .int .i64 n7, .slice B7 xs7.length d7] 29)).alloc (.cells #[.int .i64 k6, .slice A6 ws6.length c6, .int .i64 n6, .slice B6 xs6.length d6, .int .i64 8, .slice none 0 0, .int .i64 0, .slice (some ⟨w7.heap.size, 0, none⟩) 1 1] 29)).setCell ⟨g, o, none⟩ (.int .i64 4)).setCell ⟨g, o + 1, none⟩ (.slice none 0 0)).setCell ⟨g, o + 2, none⟩ (.int .i64 0)).setCell ⟨g, o + 3, none⟩ (.slice (some ⟨w7.heap.size + 1, 0, none⟩) 2 2))) (QR.mk 4 none 0 [] 0 (some ⟨w7.heap.size + 1, 0, none⟩) 2 [.mk k6 A6 c6 ws6 n6 B6 d6 xs6, .mk 8 none 0 [] 0 (some ⟨w7.heap.size, 0, none⟩) 1 [.mk k7 A7 c7 ws7 n7 B7 d7 xs7]]) := qs_two (hB2.mod hmF (by omega)) hC8.qs hN8
    have hOK : QOk (((((((w7.alloc (.cells #[.int .i64 k7, .slice A7 ws7.length c7, .int .i64 n7, .slice B7 xs7.length d7] 29)).alloc (.cells #[.int .i64 k6, .slice A6 ws6.length c6, .int .i64 n6, .slice B6 xs6.length d6, .int .i64 8, .slice none 0 0, .int .i64 0, .slice (some ⟨w7.heap.size, 0, none⟩) 1 1] 29)).setCell ⟨g, o, none⟩ (.int .i64 4)).setCell ⟨g, o + 1, none⟩ (.slice none 0 0)).setCell ⟨g, o + 2, none⟩ (.int .i64 0)).setCell ⟨g, o + 3, none⟩ (.slice (some ⟨w7.heap.size + 1, 0, none⟩) 2 2))) base (M + 1) (QR.mk 4 none 0 [] 0 (some ⟨w7.heap.size + 1, 0, none⟩) 2 [.mk k6 A6 c6 ws6 n6 B6 d6 xs6, .mk 8 none 0 [] 0 (some ⟨w7.heap.size, 0, none⟩) 1 [.mk k7 A7 c7 ws7 n7 B7 d7 xs7]]) := by
     refine ⟨hQ8, .mk (fun _ => ⟨w7.heap.size + 1, 0, rfl, by omega⟩) (fun a ha => ?_), .mk (fun _ _ _ h => ?_) (fun a ha => ?_), ?_⟩
     ·rcases List.mem_cons.1 ha with rfl | ha
      ·exact hC6.fr.up (by omega)
      ·rw [List.mem_singleton.1 ha]
       exact .mk (fun _ => ⟨w7.heap.size, 0, rfl, by omega⟩) (fun a ha => by rw [List.mem_singleton.1 ha]; exact hf7.up (by omega))
     ·injection h with h
      injection h with _ _ h
      exact h.symm
     ·rcases List.mem_cons.1 ha with rfl | ha
      ·exact hC6.z
      ·rw [List.mem_singleton.1 ha]
       exact .mk (fun _ _ _ h => by
        injection h with h
        injection h with _ _ h
        exact h.symm) (fun a ha => by rw [List.mem_singleton.1 ha]; exact hz7)
     ·rw [QR.key_mk]
      refine .mk (by omega) (by omega) (by omega) (by omega) (by simp) (fun x hx => by cases hx) (by simp; omega) (fun a ha => ?_)
      simp only [List.map_cons, List.map_nil] at ha
      rcases List.mem_cons.1 ha with rfl | ha
      ·rw [hk6]; exact HMQ.out.mono (by omega)
      ·rw [List.mem_singleton.1 ha, QR.key_mk]
       refine .mk (by omega) (by omega) (by omega) (by omega) (by simp) (fun x hx => by cases hx) (by simp) (fun a ha => ?_)
       simp only [List.map_cons, List.map_nil] at ha
       rw [List.mem_singleton.1 ha]
       exact hb7.mono (by omega)
    have hSZ : qSize (QR.mk 4 none 0 [] 0 (some ⟨w7.heap.size + 1, 0, none⟩) 2 [.mk k6 A6 c6 ws6 n6 B6 d6 xs6, .mk 8 none 0 [] 0 (some ⟨w7.heap.size, 0, none⟩) 1 [.mk k7 A7 c7 ws7 n7 B7 d7 xs7]]).key ≤ qSize (QR.mk k A c ws n B d xs).key + 3 := by
     rw [QR.key_mk, qSize]
     simp only [List.map_cons, List.map_nil, List.sum_cons, List.sum_nil]
     rw [hk6, QR.key_mk (k := 8), qSize]
     simp only [List.map_cons, List.map_nil, List.sum_cons, List.sum_nil]
     omega
    have hb48 := ((HB45.out.modp hm6).modb hM7 (by omega)).modp hp8
    have hS8 := hS7.pure hp8
    have hM8 := ((HM5.out.trans (Mod.of_pure hm6)).trans hM7).trans (Mod.of_pure hp8)
    have HE : Hid (SpE w b b3 b4 base N M Z (((((((w7.alloc (.cells #[.int .i64 k7, .slice A7 ws7.length c7, .int .i64 n7, .slice B7 xs7.length d7] 29)).alloc (.cells #[.int .i64 k6, .slice A6 ws6.length c6, .int .i64 n6, .slice B6 xs6.length d6, .int .i64 8, .slice none 0 0, .int .i64 0, .slice (some ⟨w7.heap.size, 0, none⟩) 1 1] 29)).setCell ⟨g, o, none⟩ (.int .i64 4)).setCell ⟨g, o + 1, none⟩ (.slice none 0 0)).setCell ⟨g, o + 2, none⟩ (.int .i64 0)).setCell ⟨g, o + 3, none⟩ (.slice (some ⟨w7.heap.size + 1, 0, none⟩) 2 2)))) := Lib.hid (spE_of (hI8.put4 (e := 3) (Mod.refl (fun _ => False) _) (fun k hk => False.elim hk) (q' := QR.mk 4 none 0 [] 0 (some ⟨w7.heap.size + 1, 0, none⟩) 2 [.mk k6 A6 c6 ws6 n6 B6 d6 xs6, .mk 8 none 0 [] 0 (some ⟨w7.heap.size, 0, none⟩) 1 [.mk k7 A7 c7 ws7 n7 B7 d7 xs7]]) rfl hOK hSZ) (by omega) (hb48.mod hmF (by omega)) (hS8.mod hmF (fun i hi e => by omega)) (by omega) (hM8.trans' hmF (fun i hi hlt => by omega)))
    go_wp2_with fail
    go_meet
    first
     | exact HE.out
     | (rw [← st4_comm _ hne2]; exact HE.out)

end Go.Proofs.YtnfflgicngeekaaGreatDoor

/- What a kind of searches uses. -/
namespace Go.Proofs.YtnfflgicngeekaaGreatDoor
set_option linter.unusedVariables false
set_option linter.unusedSimpArgs false
open Go.RowKit

theorem arr_sameQ {α : Type} {a : Array α} {i : Nat} {v : α} (h : a[i]? = some v) : a.setIfInBounds i v = a := by
 apply Array.ext_getElem?
 intro j
 rw [Array.getElem?_setIfInBounds]
 split
 ·rename_i e; subst e
  split
  ·exact h.symm
  ·rename_i hlt
   rw [Array.getElem?_eq_none (by omega)] at h
   cases h
 ·rfl
theorem setCell_sameQ {w : World} {g i : Nat} {t : TypeId} {cs : Array Value} {v : Value} (h : Blk w g t cs) (hv : cs[i]? = some v) : w.setCell ⟨g, i, none⟩ v = w := by
 have h2 := h.set i v
 rw [arr_sameQ hv] at h2
 unfold World.setCell
 unfold Blk at h
 congr 1
 apply Array.ext_getElem?
 intro j
 rw [Array.getElem?_modify]
 split
 ·rename_i e
  have e : g = j := e
  subst e
  rw [h]
  show some (Obj.cells (cs.setIfInBounds i v) t (0, 0)) = _
  rw [arr_sameQ hv]
 ·rfl
theorem setCell_same2 {w : World} {g : Nat} {t : TypeId} {a b : Value} (h : Blk w g t #[a, b]) : World.setCell (World.setCell w ⟨g, 0, none⟩ a) ⟨g, 1, none⟩ b = w := by
 rw [setCell_sameQ h rfl, setCell_sameQ h rfl]
def isK (k : Int) : Bool := decide (1 ≤ k ∧ k ≤ 13)
def UsP (w : World) (U : UseQ) (is : Bool) (e : Ending) (w' : World) : Prop := e = .returned (.tuple #[.agg #[.int .i64 (U.w0 : Int), .int .i64 (U.w1 : Int)], .agg #[.int .i64 (U.a0 : Int), .int .i64 (U.a1 : Int)], .bool U.nb, .bool is]) ∧ Pure w w'
/-- Behind the switch. -/
def UsC (w : World) (g2 g3 : Nat) (U : UseQ) (v : Value) (wx : World) : Prop := v = .bool U.nb ∧ Blk wx g2 205 #[.int .i64 (U.w0 : Int), .int .i64 (U.w1 : Int)] ∧ Blk wx g3 205 #[.int .i64 (U.a0 : Int), .int .i64 (U.a1 : Int)] ∧ Pure w wx

set_option maxRecDepth 100000 in
set_option maxHeartbeats 8000000 in
theorem uses_calls (w : World) (k : Int) : Calls Tryz.prog 177 #[.int .i64 k] w (UsP w (useQ 100 k) (isK k)) := by
 have h2 := ((Blk.new w 205 #[.int .i64 0, .int .i64 0]).alloc (.cells #[.int .i64 0, .int .i64 0] 205)).alloc (.cells #[.int .i64 2, .int .i64 100] 205)
 have h3 := (Blk.snd w (.cells #[.int .i64 0, .int .i64 0] 205) 205 #[.int .i64 0, .int .i64 0]).alloc (.cells #[.int .i64 2, .int .i64 100] 205)
 have h6 := Blk.snd (w.alloc (.cells #[.int .i64 0, .int .i64 0] 205)) (.cells #[.int .i64 0, .int .i64 0] 205) 205 #[.int .i64 2, .int .i64 100]
 rw [World.size_alloc] at h6
 have hp := ((pure_alloc w (.cells #[.int .i64 0, .int .i64 0] 205)).alloc (.cells #[.int .i64 0, .int .i64 0] 205)).alloc (.cells #[.int .i64 2, .int .i64 100] 205)
 obtain ⟨U, hU⟩ : ∃ U, useQ 100 k = U := ⟨_, rfl⟩
 obtain ⟨is, his⟩ : ∃ is, isK k = is := ⟨_, rfl⟩
 rw [hU, his]
 have HU := Lib.hid hU
 have HIS := Lib.hid his
 clear hU his
 go_enter Tryz.func177, Tryz.ntmps177
 go_upto_region 2 with (fail)
 generalize (((w.alloc (.cells #[.int .i64 0, .int .i64 0] 205)).alloc (.cells #[.int .i64 0, .int .i64 0] 205)).alloc (.cells #[.int .i64 2, .int .i64 100] 205)) = w1 at *
 generalize hg2 : w.heap.size = g2 at *
 have hgw : w.heap.size ≤ g2 := Nat.le_of_eq hg2
 clear hg2
 have H2 := Lib.hid h2
 have H3 := Lib.hid h3
 have HP : Hid (Pure w w1) := Lib.hid hp
 clear hp
 by_cases hk : 1 ≤ k ∧ k ≤ 13
 rotate_left
 ·obtain rfl : false = is := (decide_eq_false hk).symm.trans HIS.out
  have e : U = ⟨0, 0, 0, 0, false⟩ := by
   rw [← HU.out]
   unfold useQ
   rw [if_neg (by omega), if_neg (by omega), if_neg (by omega), if_neg (by omega), if_neg (by omega), if_neg (by omega)]
  subst e
  have n1 : (k == 1) = false := by simp; omega
  have n2 : (k == 2) = false := by simp; omega
  have n3 : (k == 3) = false := by simp; omega
  have n4 : (k == 4) = false := by simp; omega
  have n5 : (k == 5) = false := by simp; omega
  have n6 : (k == 6) = false := by simp; omega
  have n7 : (k == 7) = false := by simp; omega
  have n8 : (k == 8) = false := by simp; omega
  have n9 : (k == 9) = false := by simp; omega
  have n10 : (k == 10) = false := by simp; omega
  have n11 : (k == 11) = false := by simp; omega
  have n12 : (k == 12) = false := by simp; omega
  have n13 : (k == 13) = false := by simp; omega
  clear HU hk HIS h2 h3 h6
  go_upto_region 3 with (fail)
  have HGs := Lib.hid (show ∀ (D : Nat → Bool) (zzi : Nat) (zq zq' : World), (fun _ zq => (fun Z => Blk Z g2 205 #[.int .i64 0, .int .i64 0] ∧ Blk Z (g2 + 1) 205 #[.int .i64 0, .int .i64 0]) zq) D zq → Mod (fun _ => False) zq zq' → (fun _ zq => (fun Z => Blk Z g2 205 #[.int .i64 0, .int .i64 0] ∧ Blk Z (g2 + 1) 205 #[.int .i64 0, .int .i64 0]) zq) (upd D zzi true) zq' from by intro D zzi zq zq' h hm; (exact ⟨h.1.modp hm, h.2.modp hm⟩))
  refine wp_region_inv (by kernel_rfl) (by kernel_rfl) (InvF (R := Mod (fun _ => False)) [.is (.agg #[.int .i64 0, .int .i64 0]),
    .is (.agg #[.int .i64 0, .int .i64 0]),
    .any,
    .any,
    .is ((.bool false)),
    .is ((.bool false))]
    (PB w1 (fun _ => False) w1.heap.size (fun _ zq => (fun Z => Blk Z g2 205 #[.int .i64 0, .int .i64 0] ∧ Blk Z (g2 + 1) 205 #[.int .i64 0, .int .i64 0]) zq))) (InvF.start (PB.start (Mod.refl _ _) (Nat.le_refl _) (⟨H2.out, H3.out⟩))) ?_ ?_
  ·refine .cons ?_ (.cons ?_ (.cons ?_ (.cons ?_ (.cons ?_ (.cons ?_ .nil)))))
   ·intro D V zw1 a hR hI K hK
    obtain ⟨hM1, hB1, hG1⟩ := hI.1
    have ze2 := hR.frame.other (t := 2) (by kernel_rfl) rfl
    have zx0 := hG1.1.cell 0; have zx1 := hG1.1.cell 1
    simp at zx0 zx1
    rw [if_pos (by rfl)]
    go_simp
    exact hK (.agg #[.int .i64 0, .int .i64 0]) _ (hI.next hR (by kernel_rfl) (Mod.refl _ _) (PB.quiet hI.1 (Mod.refl _ _) (HGs.out D 0 zw1 zw1 (hI.1).g (Mod.refl _ _))) (upd_same V 0 _))
   ·intro D V zw1 a hR hI K hK
    obtain ⟨hM1, hB1, hG1⟩ := hI.1
    have ze3 := hR.frame.other (t := 3) (by kernel_rfl) rfl
    have zx0 := hG1.2.cell 0; have zx1 := hG1.2.cell 1
    simp at zx0 zx1
    rw [if_pos (by rfl)]
    go_simp
    exact hK (.agg #[.int .i64 0, .int .i64 0]) _ (hI.next hR (by kernel_rfl) (Mod.refl _ _) (PB.quiet hI.1 (Mod.refl _ _) (HGs.out D 1 zw1 zw1 (hI.1).g (Mod.refl _ _))) (upd_same V 1 _))
   ·intro D V zw1 a hR hI K hK
    obtain ⟨hM1, hB1, hG1⟩ := hI.1
    have zd0 := hR.pred 0 (by kernel_rfl)
    have zF0 : V 0 = .agg #[.int .i64 0, .int .i64 0] := hI.2 0 zd0 rfl
    have zf0 := zF0; clear zF0
    have ze2 := hR.frame.other (t := 2) (by kernel_rfl) rfl
    have ze9 := hR.frame.done (t := 9) (j := 0) (by kernel_rfl) hR.ok zd0
    rw [if_pos (by rfl)]
    have zx0 := hG1.1.cell 0; have zy0 := hG1.1.frozen 0
    have zx1 := hG1.1.cell 1; have zy1 := hG1.1.frozen 1
    simp at zx0 zx1
    go_simp
    rw [setCell_same2 hG1.1]
    exact hK undef _ (hI.next hR (by kernel_rfl) (Mod.refl _ _) (PB.quiet hI.1 (Mod.refl _ _) (HGs.out D 2 zw1 zw1 (hI.1).g (Mod.refl _ _))) trivial)
   ·intro D V zw1 a hR hI K hK
    obtain ⟨hM1, hB1, hG1⟩ := hI.1
    have zd1 := hR.pred 1 (by kernel_rfl)
    have zF1 : V 1 = .agg #[.int .i64 0, .int .i64 0] := hI.2 1 zd1 rfl
    have zf1 := zF1; clear zF1
    have ze3 := hR.frame.other (t := 3) (by kernel_rfl) rfl
    have ze10 := hR.frame.done (t := 10) (j := 1) (by kernel_rfl) hR.ok zd1
    rw [if_pos (by rfl)]
    have zx0 := hG1.2.cell 0; have zy0 := hG1.2.frozen 0
    have zx1 := hG1.2.cell 1; have zy1 := hG1.2.frozen 1
    simp at zx0 zx1
    go_simp
    rw [setCell_same2 hG1.2]
    exact hK undef _ (hI.next hR (by kernel_rfl) (Mod.refl _ _) (PB.quiet hI.1 (Mod.refl _ _) (HGs.out D 3 zw1 zw1 (hI.1).g (Mod.refl _ _))) trivial)
   ·intro D V zw1 a hR hI K hK
    obtain ⟨hM1, hB1, hG1⟩ := hI.1
    rw [if_pos (by rfl)]
    go_simp
    exact hK ((.bool false)) _ (hI.next hR (by kernel_rfl) (Mod.refl _ _) (PB.quiet hI.1 (Mod.refl _ _) (HGs.out D 4 zw1 zw1 (hI.1).g (Mod.refl _ _))) (upd_same V 4 _))
   ·intro D V zw1 a hR hI K hK
    obtain ⟨hM1, hB1, hG1⟩ := hI.1
    rw [if_pos (by rfl)]
    go_simp
    exact hK ((.bool false)) _ (hI.next hR (by kernel_rfl) (Mod.refl _ _) (PB.quiet hI.1 (Mod.refl _ _) (HGs.out D 5 zw1 zw1 (hI.1).g (Mod.refl _ _))) (upd_same V 5 _))
  ·intro D V w9 hD hI
   obtain ⟨hM1, hB1, hG1⟩ := hI.1
   have hMx := hM1
   clear hM1
   have hBx := hB1
   clear hB1
   have hGx := hG1
   clear hG1
   have zF0 : V 0 = .agg #[.int .i64 0, .int .i64 0] := hI.2 0 (hD 0 (by decide)) rfl
   have zf0 := zF0; clear zF0
   have zF1 : V 1 = .agg #[.int .i64 0, .int .i64 0] := hI.2 1 (hD 1 (by decide)) rfl
   have zf1 := zF1; clear zF1
   have zF4 : V 4 = (.bool false) := hI.2 4 (hD 4 (by decide)) rfl
   have zf4 := zF4; clear zF4
   have zF5 : V 5 = (.bool false) := hI.2 5 (hD 5 (by decide)) rfl
   have zf5 := zF5; clear zF5
   clear hI hD HGs
   simp only [frAll, Act.put, List.setIfInBounds_toArray, List.set_cons_zero, List.set_cons_succ, Nat.zero_add, Nat.reduceAdd, zf0, zf1, zf4, zf5]
   clear zf0 zf1 zf4 zf5
   clear V D
   have hG2 := hGx.1
   have hG3 := hGx.2
   have HP9 : Hid (Pure w w9) := Lib.hid (HP.out.trans hMx)
   clear hGx hMx hBx H2 H3 HP
   go_wp2_with fail
   have u0 := hG2.cell 0; have u1 := hG2.cell 1; simp at u0 u1
   have v0 := hG3.cell 0; have v1 := hG3.cell 1; simp at v0 v1
   try simp only [Exit.inBlock, Exit.then]
   refine bodyPost_ret (v := .tuple #[.agg #[.int .i64 0, .int .i64 0], .agg #[.int .i64 0, .int .i64 0], .bool false, .bool false]) (by simp [results, Tryz.results177, go_sem, u0, u1, v0, v1]) rfl ?_
   exact ⟨rfl, HP9.out⟩
 ·obtain rfl : true = is := (decide_eq_true hk).symm.trans HIS.out
  go_upto_block 0 with (fail)
  go_cut [4] (fun v wx => UsC w g2 (g2 + 1) U v wx)
  case first =>
   have x0 := h2.cell 0; have xf0 := h2.frozen 0; have x1 := h2.cell 1; have xf1 := h2.frozen 1; simp at x0 x1
   have y0 := h3.cell 0; have yf0 := h3.frozen 0; have y1 := h3.cell 1; have yf1 := h3.frozen 1; simp at y0 y1
   have z0 := h6.cell 0; have z1 := h6.cell 1; simp at z0 z1
   obtain rfl | rfl | rfl | rfl | rfl | rfl | rfl | rfl | rfl | rfl | rfl | rfl | rfl : k = 1 ∨ k = 2 ∨ k = 3 ∨ k = 4 ∨ k = 5 ∨ k = 6 ∨ k = 7 ∨ k = 8 ∨ k = 9 ∨ k = 10 ∨ k = 11 ∨ k = 12 ∨ k = 13 := by omega
   ·obtain rfl : (⟨0, 0, 0, 0, false⟩ : UseQ) = U := HU.out
    clear HU hk HIS h2 h3 h6
    go_wp2_with fail
    go_meet
    exact ⟨rfl, H2.out, H3.out, HP.out⟩
   ·obtain rfl : (⟨1, 1, 0, 0, false⟩ : UseQ) = U := HU.out
    clear HU hk HIS h2 h3 h6
    go_wp2_with fail
    go_meet
    exact ⟨rfl, by simpa using (H2.out.set 0 (.int .i64 1)).set 1 (.int .i64 1), (H3.out.far (by show g2 + 1 ≠ g2; omega) _).far (by show g2 + 1 ≠ g2; omega) _, (HP.out.setCell (.inr (by show w.heap.size ≤ g2; omega)) _).setCell (.inr (by show w.heap.size ≤ g2; omega)) _⟩
   ·obtain rfl : (⟨2, 10, 0, 0, false⟩ : UseQ) = U := HU.out
    clear HU hk HIS h2 h3 h6
    go_wp2_with fail
    go_meet
    exact ⟨rfl, by simpa using (H2.out.set 0 (.int .i64 2)).set 1 (.int .i64 10), (H3.out.far (by show g2 + 1 ≠ g2; omega) _).far (by show g2 + 1 ≠ g2; omega) _, (HP.out.setCell (.inr (by show w.heap.size ≤ g2; omega)) _).setCell (.inr (by show w.heap.size ≤ g2; omega)) _⟩
   ·obtain rfl : (⟨0, 0, 2, 2, true⟩ : UseQ) = U := HU.out
    clear HU hk HIS h2 h3 h6
    go_wp2_with fail
    go_meet
    exact ⟨rfl, (H2.out.far (by show g2 ≠ g2 + 1; omega) _).far (by show g2 ≠ g2 + 1; omega) _, by simpa using (H3.out.set 0 (.int .i64 2)).set 1 (.int .i64 2), (HP.out.setCell (.inr (by show w.heap.size ≤ g2 + 1; omega)) _).setCell (.inr (by show w.heap.size ≤ g2 + 1; omega)) _⟩
   ·obtain rfl : (⟨0, 0, 2, 2, true⟩ : UseQ) = U := HU.out
    clear HU hk HIS h2 h3 h6
    go_wp2_with fail
    go_meet
    exact ⟨rfl, (H2.out.far (by show g2 ≠ g2 + 1; omega) _).far (by show g2 ≠ g2 + 1; omega) _, by simpa using (H3.out.set 0 (.int .i64 2)).set 1 (.int .i64 2), (HP.out.setCell (.inr (by show w.heap.size ≤ g2 + 1; omega)) _).setCell (.inr (by show w.heap.size ≤ g2 + 1; omega)) _⟩
   ·obtain rfl : (⟨0, 0, 2, 100, false⟩ : UseQ) = U := HU.out
    clear HU hk HIS h2 h3 h6
    go_wp2_with fail
    go_meet
    exact ⟨rfl, (H2.out.far (by show g2 ≠ g2 + 1; omega) _).far (by show g2 ≠ g2 + 1; omega) _, by simpa using (H3.out.set 0 (.int .i64 2)).set 1 (.int .i64 100), (HP.out.setCell (.inr (by show w.heap.size ≤ g2 + 1; omega)) _).setCell (.inr (by show w.heap.size ≤ g2 + 1; omega)) _⟩
   ·obtain rfl : (⟨0, 0, 2, 100, false⟩ : UseQ) = U := HU.out
    clear HU hk HIS h2 h3 h6
    go_wp2_with fail
    go_meet
    exact ⟨rfl, (H2.out.far (by show g2 ≠ g2 + 1; omega) _).far (by show g2 ≠ g2 + 1; omega) _, by simpa using (H3.out.set 0 (.int .i64 2)).set 1 (.int .i64 100), (HP.out.setCell (.inr (by show w.heap.size ≤ g2 + 1; omega)) _).setCell (.inr (by show w.heap.size ≤ g2 + 1; omega)) _⟩
   ·obtain rfl : (⟨0, 0, 1, 1, false⟩ : UseQ) = U := HU.out
    clear HU hk HIS h2 h3 h6
    go_wp2_with fail
    go_meet
    exact ⟨rfl, (H2.out.far (by show g2 ≠ g2 + 1; omega) _).far (by show g2 ≠ g2 + 1; omega) _, by simpa using (H3.out.set 0 (.int .i64 1)).set 1 (.int .i64 1), (HP.out.setCell (.inr (by show w.heap.size ≤ g2 + 1; omega)) _).setCell (.inr (by show w.heap.size ≤ g2 + 1; omega)) _⟩
   ·obtain rfl : (⟨1, 1, 0, 0, false⟩ : UseQ) = U := HU.out
    clear HU hk HIS h2 h3 h6
    go_wp2_with fail
    go_meet
    exact ⟨rfl, by simpa using (H2.out.set 0 (.int .i64 1)).set 1 (.int .i64 1), (H3.out.far (by show g2 + 1 ≠ g2; omega) _).far (by show g2 + 1 ≠ g2; omega) _, (HP.out.setCell (.inr (by show w.heap.size ≤ g2; omega)) _).setCell (.inr (by show w.heap.size ≤ g2; omega)) _⟩
   ·obtain rfl : (⟨0, 0, 0, 0, true⟩ : UseQ) = U := HU.out
    clear HU hk HIS h2 h3 h6
    go_wp2_with fail
    go_meet
    exact ⟨rfl, H2.out, H3.out, HP.out⟩
   ·obtain rfl : (⟨1, 1, 0, 0, false⟩ : UseQ) = U := HU.out
    clear HU hk HIS h2 h3 h6
    go_wp2_with fail
    go_meet
    exact ⟨rfl, by simpa using (H2.out.set 0 (.int .i64 1)).set 1 (.int .i64 1), (H3.out.far (by show g2 + 1 ≠ g2; omega) _).far (by show g2 + 1 ≠ g2; omega) _, (HP.out.setCell (.inr (by show w.heap.size ≤ g2; omega)) _).setCell (.inr (by show w.heap.size ≤ g2; omega)) _⟩
   ·obtain rfl : (⟨0, 0, 0, 0, true⟩ : UseQ) = U := HU.out
    clear HU hk HIS h2 h3 h6
    go_wp2_with fail
    go_meet
    exact ⟨rfl, H2.out, H3.out, HP.out⟩
   ·obtain rfl : (⟨0, 0, 0, 0, true⟩ : UseQ) = U := HU.out
    clear HU hk HIS h2 h3 h6
    go_wp2_with fail
    go_meet
    exact ⟨rfl, H2.out, H3.out, HP.out⟩
  case rest =>
   obtain ⟨rfl, hb2, hb3, hpc⟩ := hcut
   have HPC : Hid (Pure w wc) := Lib.hid hpc
   have HC2 := Lib.hid hb2
   have HC3 := Lib.hid hb3
   clear HU hk HIS h2 h3 h6 H2 H3 HP hb2 hb3 hpc
   obtain ⟨u0, u1, u2, u3, u4⟩ := U
   have POST : Hid (∀ W, Pure w W → UsP w ⟨u0, u1, u2, u3, u4⟩ true (.returned (.tuple #[.agg #[.int .i64 (u0 : Int), .int .i64 (u1 : Int)], .agg #[.int .i64 (u2 : Int), .int .i64 (u3 : Int)], .bool u4, .bool true])) W) := Lib.hid (fun W h => ⟨rfl, h⟩)
   generalize (u0 : Int) = x0 at *
   generalize (u1 : Int) = x1 at *
   generalize (u2 : Int) = y0 at *
   generalize (u3 : Int) = y1 at *
   go_upto_region 23 with (fail)
   have HGs := Lib.hid (show ∀ (D : Nat → Bool) (zzi : Nat) (zq zq' : World), (fun _ zq => (fun Z => Blk Z g2 205 #[.int .i64 x0, .int .i64 x1] ∧ Blk Z (g2 + 1) 205 #[.int .i64 y0, .int .i64 y1]) zq) D zq → Mod (fun _ => False) zq zq' → (fun _ zq => (fun Z => Blk Z g2 205 #[.int .i64 x0, .int .i64 x1] ∧ Blk Z (g2 + 1) 205 #[.int .i64 y0, .int .i64 y1]) zq) (upd D zzi true) zq' from by intro D zzi zq zq' h hm; (exact ⟨h.1.modp hm, h.2.modp hm⟩))
   refine wp_region_inv (by kernel_rfl) (by kernel_rfl) (InvF (R := Mod (fun _ => False)) [.is (.agg #[.int .i64 x0, .int .i64 x1]),
     .is (.agg #[.int .i64 y0, .int .i64 y1]),
     .is (.bool u4),
     .any,
     .any,
     .is (.bool u4),
     .is ((.bool true))]
     (PB wc (fun _ => False) wc.heap.size (fun _ zq => (fun Z => Blk Z g2 205 #[.int .i64 x0, .int .i64 x1] ∧ Blk Z (g2 + 1) 205 #[.int .i64 y0, .int .i64 y1]) zq))) (InvF.start (PB.start (Mod.refl _ _) (Nat.le_refl _) (⟨HC2.out, HC3.out⟩))) ?_ ?_
   ·refine .cons ?_ (.cons ?_ (.cons ?_ (.cons ?_ (.cons ?_ (.cons ?_ (.cons ?_ .nil))))))
    ·intro D V zw1 a hR hI K hK
     obtain ⟨hM1, hB1, hG1⟩ := hI.1
     have ze2 := hR.frame.other (t := 2) (by kernel_rfl) rfl
     have zx0 := hG1.1.cell 0; have zx1 := hG1.1.cell 1
     simp at zx0 zx1
     rw [if_pos (by rfl)]
     go_simp
     exact hK (.agg #[.int .i64 x0, .int .i64 x1]) _ (hI.next hR (by kernel_rfl) (Mod.refl _ _) (PB.quiet hI.1 (Mod.refl _ _) (HGs.out D 0 zw1 zw1 (hI.1).g (Mod.refl _ _))) (upd_same V 0 _))
    ·intro D V zw1 a hR hI K hK
     obtain ⟨hM1, hB1, hG1⟩ := hI.1
     have ze3 := hR.frame.other (t := 3) (by kernel_rfl) rfl
     have zx0 := hG1.2.cell 0; have zx1 := hG1.2.cell 1
     simp at zx0 zx1
     rw [if_pos (by rfl)]
     go_simp
     exact hK (.agg #[.int .i64 y0, .int .i64 y1]) _ (hI.next hR (by kernel_rfl) (Mod.refl _ _) (PB.quiet hI.1 (Mod.refl _ _) (HGs.out D 1 zw1 zw1 (hI.1).g (Mod.refl _ _))) (upd_same V 1 _))
    ·intro D V zw1 a hR hI K hK
     obtain ⟨hM1, hB1, hG1⟩ := hI.1
     have ze4 := hR.frame.undone (t := 4) (j := 5) (by kernel_rfl) (hR.later 5 rfl (by kernel_rfl)) rfl
     rw [if_pos (by rfl)]
     go_simp
     exact hK (.bool u4) _ (hI.next hR (by kernel_rfl) (Mod.refl _ _) (PB.quiet hI.1 (Mod.refl _ _) (HGs.out D 2 zw1 zw1 (hI.1).g (Mod.refl _ _))) (upd_same V 2 _))
    ·intro D V zw1 a hR hI K hK
     obtain ⟨hM1, hB1, hG1⟩ := hI.1
     have zd0 := hR.pred 0 (by kernel_rfl)
     have zF0 : V 0 = .agg #[.int .i64 x0, .int .i64 x1] := hI.2 0 zd0 rfl
     have zf0 := zF0; clear zF0
     have ze2 := hR.frame.other (t := 2) (by kernel_rfl) rfl
     have ze36 := hR.frame.done (t := 36) (j := 0) (by kernel_rfl) hR.ok zd0
     rw [if_pos (by rfl)]
     have zx0 := hG1.1.cell 0; have zy0 := hG1.1.frozen 0
     have zx1 := hG1.1.cell 1; have zy1 := hG1.1.frozen 1
     simp at zx0 zx1
     go_simp
     rw [setCell_same2 hG1.1]
     exact hK undef _ (hI.next hR (by kernel_rfl) (Mod.refl _ _) (PB.quiet hI.1 (Mod.refl _ _) (HGs.out D 3 zw1 zw1 (hI.1).g (Mod.refl _ _))) trivial)
    ·intro D V zw1 a hR hI K hK
     obtain ⟨hM1, hB1, hG1⟩ := hI.1
     have zd1 := hR.pred 1 (by kernel_rfl)
     have zF1 : V 1 = .agg #[.int .i64 y0, .int .i64 y1] := hI.2 1 zd1 rfl
     have zf1 := zF1; clear zF1
     have ze3 := hR.frame.other (t := 3) (by kernel_rfl) rfl
     have ze37 := hR.frame.done (t := 37) (j := 1) (by kernel_rfl) hR.ok zd1
     rw [if_pos (by rfl)]
     have zx0 := hG1.2.cell 0; have zy0 := hG1.2.frozen 0
     have zx1 := hG1.2.cell 1; have zy1 := hG1.2.frozen 1
     simp at zx0 zx1
     go_simp
     rw [setCell_same2 hG1.2]
     exact hK undef _ (hI.next hR (by kernel_rfl) (Mod.refl _ _) (PB.quiet hI.1 (Mod.refl _ _) (HGs.out D 4 zw1 zw1 (hI.1).g (Mod.refl _ _))) trivial)
    ·intro D V zw1 a hR hI K hK
     obtain ⟨hM1, hB1, hG1⟩ := hI.1
     have zd2 := hR.pred 2 (by kernel_rfl)
     have zF2 : V 2 = .bool u4 := hI.2 2 zd2 rfl
     have zf2 := zF2; clear zF2
     have ze38 := hR.frame.done (t := 38) (j := 2) (by kernel_rfl) hR.ok zd2
     rw [if_pos (by rfl)]
     go_simp
     exact hK (.bool u4) _ (hI.next hR (by kernel_rfl) (Mod.refl _ _) (PB.quiet hI.1 (Mod.refl _ _) (HGs.out D 5 zw1 zw1 (hI.1).g (Mod.refl _ _))) (upd_same V 5 _))
    ·intro D V zw1 a hR hI K hK
     obtain ⟨hM1, hB1, hG1⟩ := hI.1
     rw [if_pos (by rfl)]
     go_simp
     exact hK ((.bool true)) _ (hI.next hR (by kernel_rfl) (Mod.refl _ _) (PB.quiet hI.1 (Mod.refl _ _) (HGs.out D 6 zw1 zw1 (hI.1).g (Mod.refl _ _))) (upd_same V 6 _))
   ·intro D V w9 hD hI
    obtain ⟨hM1, hB1, hG1⟩ := hI.1
    have hMx := hM1
    clear hM1
    have hBx := hB1
    clear hB1
    have hGx := hG1
    clear hG1
    have zF0 : V 0 = .agg #[.int .i64 x0, .int .i64 x1] := hI.2 0 (hD 0 (by decide)) rfl
    have zf0 := zF0; clear zF0
    have zF1 : V 1 = .agg #[.int .i64 y0, .int .i64 y1] := hI.2 1 (hD 1 (by decide)) rfl
    have zf1 := zF1; clear zF1
    have zF2 : V 2 = .bool u4 := hI.2 2 (hD 2 (by decide)) rfl
    have zf2 := zF2; clear zF2
    have zF5 : V 5 = .bool u4 := hI.2 5 (hD 5 (by decide)) rfl
    have zf5 := zF5; clear zF5
    have zF6 : V 6 = (.bool true) := hI.2 6 (hD 6 (by decide)) rfl
    have zf6 := zF6; clear zF6
    clear hI hD HGs
    simp only [frAll, Act.put, List.setIfInBounds_toArray, List.set_cons_zero, List.set_cons_succ, Nat.zero_add, Nat.reduceAdd, zf0, zf1, zf2, zf5, zf6]
    clear zf0 zf1 zf2 zf5 zf6
    clear V D
    have hG2 := hGx.1
    have hG3 := hGx.2
    have HP9 : Hid (Pure w w9) := Lib.hid (HPC.out.trans hMx)
    clear hGx hMx hBx HC2 HC3 HPC
    go_wp2_with fail
    have p0 := hG2.cell 0; have p1 := hG2.cell 1; simp at p0 p1
    have q0 := hG3.cell 0; have q1 := hG3.cell 1; simp at q0 q1
    try simp only [Exit.inBlock, Exit.then]
    refine bodyPost_ret (v := .tuple #[.agg #[.int .i64 x0, .int .i64 x1], .agg #[.int .i64 y0, .int .i64 y1], .bool u4, .bool true]) (by simp [results, Tryz.results177, go_sem, p0, p1, q0, q1]) rfl ?_
    exact POST.out _ HP9.out

end Go.Proofs.YtnfflgicngeekaaGreatDoor

/- What is wrong with a search: the program. -/
namespace Go.Proofs.YtnfflgicngeekaaGreatDoor
set_option linter.unusedVariables false
set_option linter.unusedSimpArgs false
open Go.RowKit

section
variable {k n : Int} {must : Bool} {ws : List Str} {xs : List Qry} {M : Nat}
theorem headE_is (h : isK k = true) : ¬ ¬ (1 ≤ k ∧ k ≤ 13) := not_not_intro (of_decide_eq_true h)
theorem flt_4 (h : isK k = false) : fltQ M must (.mk k ws n xs) = 4 := by
 have e : headE M must k ws n xs.length = 4 := by unfold headE; rw [if_pos (of_decide_eq_false h)]
 rw [fltQ, e, if_pos (by decide)]
theorem flt_10 (h : isK k = true) (h1 : (must && !byWK k) = true) : fltQ M must (.mk k ws n xs) = 10 := by
 have e : headE M must k ws n xs.length = 10 := by
  unfold headE
  rw [if_neg (headE_is h), if_pos (by simpa using h1)]
 rw [fltQ, e, if_pos (by decide)]
theorem flt_3 (h : isK k = true) (h1 : (must && !byWK k) = false) (h2 : formB M k ws.length n xs.length = false) : fltQ M must (.mk k ws n xs) = 3 := by
 have e : headE M must k ws n xs.length = 3 := by
  unfold headE
  rw [if_neg (headE_is h), if_neg (by intro hh; rw [hh.1, hh.2] at h1; cases h1), if_pos h2]
 rw [fltQ, e, if_pos (by decide)]
theorem flt_5 (h : isK k = true) (h1 : (must && !byWK k) = false) (h2 : formB M k ws.length n xs.length = true) (h3 : ws.any (wordBad k) = true) : fltQ M must (.mk k ws n xs) = 5 := by
 have e : headE M must k ws n xs.length = 5 := by
  unfold headE
  rw [if_neg (headE_is h), if_neg (by intro hh; rw [hh.1, hh.2] at h1; cases h1), if_neg (by rw [h2]; decide), if_pos h3]
 rw [fltQ, e, if_pos (by decide)]
theorem head_n (h : isK k = true) (h1 : (must && !byWK k) = false) (h2 : formB M k ws.length n xs.length = true) (h3 : ws.any (wordBad k) = false) : headE M must k ws n xs.length = numE k n := by
 unfold headE
 rw [if_neg (headE_is h), if_neg (by intro hh; rw [hh.1, hh.2] at h1; cases h1), if_neg (by rw [h2]; decide), if_neg (by rw [h3]; decide)]
theorem flt_n (h : isK k = true) (h1 : (must && !byWK k) = false) (h2 : formB M k ws.length n xs.length = true) (h3 : ws.any (wordBad k) = false) (h4 : numE k n ≠ 0) : fltQ M must (.mk k ws n xs) = numE k n := by
 rw [fltQ, head_n h h1 h2 h3, if_pos h4]
theorem flt_0 (h : isK k = true) (h1 : (must && !byWK k) = false) (h2 : formB M k ws.length n xs.length = true) (h3 : ws.any (wordBad k) = false) (h4 : numE k n = 0) : fltQ M must (.mk k ws n xs) = fstE (xs.map (fltQ M (mustQ must k))) := by
 rw [fltQ, head_n h h1 h2 h3, if_neg (not_not_intro h4)]
end
theorem kwQ_nil (n : Int) : (kwQ n == []) = !decide (1 ≤ n ∧ n ≤ 4) := by
 by_cases h : 1 ≤ n ∧ n ≤ 4
 ·obtain rfl | rfl | rfl | rfl : n = 1 ∨ n = 2 ∨ n = 3 ∨ n = 4 := by omega
  all_goals rfl
 ·rw [decide_eq_false h]
  unfold kwQ
  rw [if_neg (by omega), if_neg (by omega), if_neg (by omega), if_neg (by omega)]
  rfl
theorem inB_eq (n a b : Int) : inB n a b = decide (a ≤ n ∧ n ≤ b) := by
 cases h : inB n a b
 ·have := inB_false h
  exact (decide_eq_false (by omega)).symm
 ·have := inB_true h
  exact (decide_eq_true (by omega)).symm

set_option maxRecDepth 100000 in
set_option maxHeartbeats 8000000 in
theorem inner_calls : ∀ (qr : QR) (w : World) (must : Bool), QS w qr → QB 1000 qr.key → Calls Tryz.prog 108 #[qA qr, .bool must] w (IntPost w (fltQ 100 must qr.key)) := by
 refine QR.ind (fun k A c ws n B dd xs ih => ?_)
 intro w must hQ hB
 have HIH := Lib.hid ih
 rw [QR.key_mk] at hB ⊢
 have HQ := Lib.hid hQ
 have hql := hB.xsH
 have hwl := hB.wsH.1
 have HWL := Lib.hid hB.wsH.2
 have HQB := Lib.hid hB.allH
 rw [List.length_map] at hql
 have HQX := Lib.hid hQ.xsH
 have HQW := Lib.hid hQ.wsH
 have hB0 := Blk.new w 29 #[.int .i64 k, .slice A ws.length c, .int .i64 n, .slice B xs.length dd]
 have hP0 := pure_alloc w (.cells #[.int .i64 k, .slice A ws.length c, .int .i64 n, .slice B xs.length dd] 29)
 have HNK := Lib.hid (fun W => nears_calls W k n A B ws.length c xs.length dd)
 have HBW := Lib.hid (fun W => byWords_calls W k n A B ws.length c xs.length dd)
 obtain ⟨fl, hfl⟩ : ∃ fl, fltQ 100 must (.mk k ws n (xs.map QR.key)) = fl := ⟨_, rfl⟩
 rw [hfl]
 have F4 := Lib.hid (fun h => (flt_4 (M := 100) (must := must) (ws := ws) (n := n) (xs := xs.map QR.key) (k := k) h).symm.trans hfl)
 have F10 := Lib.hid (fun h h1 => (flt_10 (M := 100) (must := must) (ws := ws) (n := n) (xs := xs.map QR.key) (k := k) h h1).symm.trans hfl)
 have F3 := Lib.hid (fun h h1 h2 => (flt_3 (M := 100) (must := must) (ws := ws) (n := n) (xs := xs.map QR.key) (k := k) h h1 h2).symm.trans hfl)
 have F5 := Lib.hid (fun h h1 h2 h3 => (flt_5 (M := 100) (must := must) (ws := ws) (n := n) (xs := xs.map QR.key) (k := k) h h1 h2 h3).symm.trans hfl)
 have FN := Lib.hid (fun h h1 h2 h3 h4 => (flt_n (M := 100) (must := must) (ws := ws) (n := n) (xs := xs.map QR.key) (k := k) h h1 h2 h3 h4).symm.trans hfl)
 have F0 := Lib.hid (fun h h1 h2 h3 h4 => (flt_0 (M := 100) (must := must) (ws := ws) (n := n) (xs := xs.map QR.key) (k := k) h h1 h2 h3 h4).symm.trans hfl)
 rw [List.length_map] at F3 F5 FN F0
 have HUS := Lib.hid (fun W => uses_calls W k)
 show Calls Tryz.prog 108 #[.agg #[.int .i64 k, .slice A ws.length c, .int .i64 n, .slice B xs.length dd], .bool must] w (IntPost w fl)
 clear hQ hB ih hfl
 go_enter Tryz.func108, Tryz.ntmps108
 go_upto_region 1 with (fail)
 generalize (w.alloc (.cells #[.int .i64 k, .slice A ws.length c, .int .i64 n, .slice B xs.length dd] 29)) = w1 at *
 generalize hg0 : w.heap.size = g0 at *
 have hwg : w.heap.size ≤ g0 := Nat.le_of_eq hg0
 clear hg0
 have HB1 := Lib.hid hB0
 have HP1 : Hid (Pure w w1) := Lib.hid hP0
 have x0 := hB0.cell 0; have x1 := hB0.cell 1; have x2 := hB0.cell 2; have x3 := hB0.cell 3; simp at x0 x1 x2 x3
 clear hB0 hP0
 go_wp2_with fail
 refine (HUS.out w1).mono ?_
 rintro e w2 ⟨rfl, hm⟩
 have HFM : Hid (formB 100 k ws.length n xs.length = (((useQ 100 k).nb || decide (n = 0)) && (decide ((useQ 100 k).w0 ≤ ws.length ∧ ws.length ≤ (useQ 100 k).w1) && decide ((useQ 100 k).a0 ≤ xs.length ∧ xs.length ≤ (useQ 100 k).a1)))) := Lib.hid rfl
 have hB2 := HB1.out.modp hm
 have hP2 := HP1.out.trans hm
 obtain ⟨is, his⟩ : ∃ is, isK k = is := ⟨_, rfl⟩
 rw [his]
 have HIS := Lib.hid his
 generalize useQ 100 k = U at *
 obtain ⟨u0, u1, u2, u3, nb⟩ := U
 simp only at HFM ⊢
 have hb5 := (Blk.new w2 205 #[.int .i64 (u0 : Int), .int .i64 (u1 : Int)]).alloc (.cells #[.int .i64 (u2 : Int), .int .i64 (u3 : Int)] 205)
 have hb6 := Blk.snd w2 (.cells #[.int .i64 (u0 : Int), .int .i64 (u1 : Int)] 205) 205 #[.int .i64 (u2 : Int), .int .i64 (u3 : Int)]
 have hB3 := (hB2.alloc (.cells #[.int .i64 (u0 : Int), .int .i64 (u1 : Int)] 205)).alloc (.cells #[.int .i64 (u2 : Int), .int .i64 (u3 : Int)] 205)
 have hP3 := (hP2.alloc (.cells #[.int .i64 (u0 : Int), .int .i64 (u1 : Int)] 205)).alloc (.cells #[.int .i64 (u2 : Int), .int .i64 (u3 : Int)] 205)
 clear hm HUS his hB2 hP2 HB1 HP1 x0 x1 x2 x3
 go_upto_region 2 with (fail)
 generalize ((w2.alloc (.cells #[.int .i64 (u0 : Int), .int .i64 (u1 : Int)] 205)).alloc (.cells #[.int .i64 (u2 : Int), .int .i64 (u3 : Int)] 205)) = w3 at *
 generalize w2.heap.size = g5 at *
 have H5 := Lib.hid hb5
 have H6 := Lib.hid hb6
 have HB3 := Lib.hid hB3
 have HP3 : Hid (Pure w w3) := Lib.hid hP3
 clear hb5 hb6 hB3 hP3
 cases is with
 | false =>
  have HR := Lib.hid (F4.out HIS.out)
  clear F4 F10 F3 F5 FN F0 HIH HQ HQB HQX HQW HWL HFM
  go_wp2_with fail
  try simp only [Exit.inBlock, Exit.then]
  refine bodyPost_ret (v := .int .i64 4) (by simp [results, Tryz.results108, go_sem]) rfl ?_
  rw [← HR.out]
  exact ⟨rfl, HP3.out⟩
 | true =>
  have his := HIS.out
  clear F4 HIS
  obtain ⟨c1, hc1⟩ : ∃ c1, (must && !byWK k) = c1 := ⟨_, rfl⟩
  rw [hc1] at F10 F3 F5 FN F0
  have hb3 := HB3.out
  have x0 := hb3.cell 0; have x1 := hb3.cell 1; have x2 := hb3.cell 2; have x3 := hb3.cell 3; simp at x0 x1 x2 x3
  clear hb3
  go_upto_region 4 with (fail)
  go_cut [29] from 24 to 28 (fun p wx => p = .bool c1 ∧ Pure w3 wx)
  case first =>
   clear F10 F3 F5 FN F0 HIH HQ HQB HQX HQW HWL HFM
   cases must with
   | false =>
    obtain rfl : false = c1 := hc1
    go_wp2_with fail
    go_meet
    exact ⟨rfl, Mod.refl _ _⟩
   | true =>
    obtain ⟨bw, hbw⟩ : ∃ bw, byWK k = bw := ⟨_, rfl⟩
    rw [hbw] at HBW hc1
    obtain rfl : (!bw) = c1 := hc1
    clear hbw
    go_wp2_with fail
    refine (HBW.out w3).mono ?_
    rintro e w4 ⟨rfl, hm⟩
    have HM := Lib.hid hm
    clear hm
    go_wp2_with fail
    go_meet
    exact ⟨by first | rfl | simp, HM.out⟩
  case rest =>
   obtain ⟨rfl, hpc⟩ := hcut
   have HB4 := Lib.hid (HB3.out.modp hpc)
   have K5 := Lib.hid (H5.out.modp hpc)
   have K6 := Lib.hid (H6.out.modp hpc)
   have HP4 : Hid (Pure w wc) := Lib.hid (HP3.out.trans hpc)
   clear hpc x0 x1 x2 x3 HB3 H5 H6 HP3 HBW
   generalize wc = w4 at *
   cases c1 with
   | true =>
    have HR := Lib.hid (F10.out his rfl)
    clear F10 F3 F5 FN F0 HIH HQ HQB HQX HQW HWL HFM hc1
    go_wp2_with fail
    try simp only [Exit.inBlock, Exit.then]
    refine bodyPost_ret (v := .int .i64 10) (by simp [results, Tryz.results108, go_sem]) rfl ?_
    rw [← HR.out]
    exact ⟨rfl, HP4.out⟩
   | false =>
    clear F10 hc1
    obtain ⟨fm, hfm⟩ : ∃ fm, formB 100 k ws.length n xs.length = fm := ⟨_, rfl⟩
    rw [hfm] at F3 F5 FN F0 HFM
    clear hfm
    have hb4 := HB4.out
    have k5 := K5.out
    have k6 := K6.out
    have x0 := hb4.cell 0; have x1 := hb4.cell 1; have x2 := hb4.cell 2; have x3 := hb4.cell 3; simp at x0 x1 x2 x3
    have y0 := k5.cell 0; have y1 := k5.cell 1; simp at y0 y1
    have z0 := k6.cell 0; have z1 := k6.cell 1; simp at z0 z1
    clear hb4 k5 k6
    go_upto_region 6 with (fail)
    go_cut [58] from 30 to 57 (fun p wx => p = .bool (!fm) ∧ w4 = wx)
    case first =>
     have e := HFM.out
     clear F3 F5 FN F0 HIH HQ HQB HQX HQW HWL HFM
     have i1 : ∀ W, Calls Tryz.prog 65 #[.int .i64 (ws.length : Int), .int .i64 (u0 : Int), .int .i64 (u1 : Int)] W (BoolSame W (decide (u0 ≤ ws.length ∧ ws.length ≤ u1))) := fun W => (in_calls _ _ _ W).mono (fun e w' h => ⟨by rw [h.1, inB_eq]; congr 2; simp only [decide_eq_decide]; omega, h.2⟩)
     have i2 : ∀ W, Calls Tryz.prog 65 #[.int .i64 (xs.length : Int), .int .i64 (u2 : Int), .int .i64 (u3 : Int)] W (BoolSame W (decide (u2 ≤ xs.length ∧ xs.length ≤ u3))) := fun W => (in_calls _ _ _ W).mono (fun e w' h => ⟨by rw [h.1, inB_eq]; congr 2; simp only [decide_eq_decide]; omega, h.2⟩)
     have I1 := Lib.hid i1
     have I2 := Lib.hid i2
     clear i1 i2
     generalize decide (u0 ≤ ws.length ∧ ws.length ≤ u1) = b1 at *
     generalize decide (u2 ≤ xs.length ∧ xs.length ≤ u3) = b2 at *
     by_cases hnn : nb = false ∧ n ≠ 0
     ·obtain ⟨rfl, hn0⟩ := hnn
      rw [decide_eq_false hn0, Bool.or_false, Bool.false_and] at e
      subst e
      have hni : (n != 0) = true := by simpa using hn0
      go_wp2_with fail
      go_meet
      exact ⟨rfl, rfl⟩
     ·have en : (nb || decide (n = 0)) = true := by
       cases nb
       ·simp at hnn
        rw [decide_eq_true hnn]; rfl
       ·rfl
      rw [en, Bool.true_and] at e
      have hnb : nb = true ∨ (nb = false ∧ n = 0) := by
       cases nb
       ·exact .inr ⟨rfl, by simpa using hnn⟩
       ·exact .inl rfl
      clear en hnn
      rcases hnb with rfl | ⟨rfl, rfl⟩
      all_goals
       go_wp2_with fail
       refine (I1.out w4).mono ?_
       rintro e2 w5 ⟨rfl, rfl⟩
       cases b1
       ·rw [Bool.false_and] at e
        subst e
        go_wp2_with fail
        go_meet
        exact ⟨rfl, rfl⟩
       ·rw [Bool.true_and] at e
        subst e
        go_wp2_with fail
        refine (I2.out w4).mono ?_
        rintro e2 w5 ⟨rfl, rfl⟩
        go_wp2_with fail
        go_meet
        exact ⟨by first | rfl | simp, rfl⟩
    case rest =>
     obtain ⟨rfl, rfl⟩ := hcut
     clear HFM K5 K6 y0 y1 z0 z1
     cases fm with
     | false =>
      have HR := Lib.hid (F3.out his rfl rfl)
      clear F3 F5 FN F0 HIH HQ HQB HQX HQW HWL
      go_wp2_with fail
      try simp only [Exit.inBlock, Exit.then]
      refine bodyPost_ret (v := .int .i64 3) (by simp [results, Tryz.results108, go_sem]) rfl ?_
      rw [← HR.out]
      exact ⟨rfl, HP4.out⟩
     | true =>
      clear F3
      go_wp2_with fail
      go_loopg [62] ws.length (fun gk i wr => ∃ j : Nat, ws.length - j = gk ∧ j ≤ ws.length ∧ i = .int .i64 (j : Int) ∧ (ws.take j).any (wordBad k) = false ∧ w4 = wr)
      case atStart => exact ⟨0, by omega, by omega, rfl, by simp, rfl⟩
      case round =>
       obtain ⟨j, rfl, hj, rfl, hany, rfl⟩ := hrel
       by_cases hlt : j < ws.length
       ·obtain ⟨gW, oW, rfl, hrow⟩ := (HQW.out.pure HP4.out).rowS (by omega)
        have hq := hrow.cell (strsV_get ws j hlt)
        have hwl1 := HWL.out ws[j] (List.getElem_mem hlt)
        have HBAD : Hid (wordBad k ws[j] = true → ws.any (wordBad k) = true) := Lib.hid (fun h => List.any_eq_true.2 ⟨_, List.getElem_mem hlt, h⟩)
        have HGOOD : Hid (wordBad k ws[j] = false → (ws.take (j + 1)).any (wordBad k) = false) := Lib.hid (fun h => by
         rw [List.take_succ_eq_append_getElem hlt, List.any_append, hany]
         simp [h])
        have HKY := Lib.hid (fun W => key_calls W ⟨ws[j].toArray⟩ (by have : (⟨ws[j].toArray⟩ : ByteArray).size = ws[j].length := rfl; omega))
        have HPT := Lib.hid (fun W => isPattern_calls W ws[j] (by omega))
        have HRV := Lib.hid (fun W => reserved_calls W ws[j])
        have HWB : Hid (wordBad k ws[j] = if k = 9 then !keyB ws[j] else !patB ws[j] || (decide (k = 2) && resvB ws[j])) := Lib.hid rfl
        rw [show keyB (⟨ws[j].toArray⟩ : ByteArray).data.toList = keyB ws[j] from rfl] at HKY
        generalize wordBad k ws[j] = wb at *
        generalize keyB ws[j] = kb at *
        generalize patB ws[j] = pb at *
        generalize resvB ws[j] = rb at *
        generalize ws[j] = sx at *
        have hji : ((j : Nat) : Int) < (ws.length : Int) := by omega
        clear hrow hany
        go_upto_region 11 with (fail)
        go_cut [92] from 66 to 91 (fun p wx => p = .bool wb ∧ w4 = wx)
        case first =>
         have e := HWB.out
         clear F5 FN F0 HIH HQ HQB HQX HQW HWL HBAD HGOOD
         by_cases h9 : k = 9
         ·rw [if_pos h9] at e
          subst h9
          go_wp2_with fail
          refine (HKY.out w4).mono ?_
          rintro e2 w5 ⟨rfl, rfl⟩
          cases kb
          ·obtain rfl : wb = true := e
           go_wp2_with fail
           go_meet
           exact ⟨rfl, rfl⟩
          ·obtain rfl : wb = false := e
           go_wp2_with fail
           go_meet
           exact ⟨rfl, rfl⟩
         ·rw [if_neg h9] at e
          have h9i : (k == 9) = false := by simpa using h9
          have h9n : (k != 9) = true := by simpa using h9
          go_wp2_with fail
          refine (HPT.out w4).mono ?_
          rintro e2 w5 ⟨rfl, rfl⟩
          cases pb
          ·obtain rfl : wb = true := e
           go_wp2_with fail
           go_meet
           exact ⟨rfl, rfl⟩
          ·by_cases h2 : k = 2
           ·rw [decide_eq_true h2, Bool.true_and, Bool.not_true, Bool.false_or] at e
            subst h2
            subst e
            go_wp2_with fail
            refine (HRV.out w4).mono ?_
            rintro e2 w5 ⟨rfl, rfl⟩
            go_wp2_with fail
            go_meet
            exact ⟨by first | rfl | simp, rfl⟩
           ·rw [decide_eq_false h2, Bool.false_and, Bool.not_true, Bool.false_or] at e
            have h2i : (k == 2) = false := by simpa using h2
            subst e
            go_wp2_with fail
            go_meet
            exact ⟨rfl, rfl⟩
        case rest =>
         obtain ⟨rfl, rfl⟩ := hcut
         clear HKY HPT HRV HWB
         cases wb with
         | true =>
          have HR := Lib.hid (F5.out his trivial trivial (HBAD.out rfl))
          clear F5 FN F0 HIH HQ HQB HQX HQW HWL HBAD HGOOD
          go_wp2_with fail
          try simp only [Exit.inBlock, Exit.then]
          refine bodyPost_ret (v := .int .i64 5) (by simp [results, Tryz.results108, go_sem]) rfl ?_
          rw [← HR.out]
          exact ⟨rfl, HP4.out⟩
         | false =>
          have HG := Lib.hid (HGOOD.out rfl)
          clear HBAD HGOOD
          go_wp2_with fail
          go_roundg (ws.length - (j + 1))
          case measure => omega
          case rel => exact ⟨j + 1, rfl, by omega, by simp, HG.out, rfl⟩
       ·obtain rfl : j = ws.length := by omega
        rw [List.take_length] at hany
        have FN2 := Lib.hid (fun h4 => FN.out his trivial trivial hany h4)
        have F02 := Lib.hid (fun h4 => F0.out his trivial trivial hany h4)
        have hjj : ¬ ((ws.length : Nat) : Int) < (ws.length : Int) := by omega
        clear F5 FN F0 hany HQW HWL
        obtain ⟨b1, hb1⟩ : ∃ b1, decide ((nearK k = true ∧ ¬ (0 ≤ n ∧ n ≤ 20)) ∨ ((k = 12 ∨ k = 13) ∧ ¬ (0 ≤ n ∧ n ≤ 4000))) = b1 := ⟨_, rfl⟩
        obtain ⟨b2, hb2⟩ : ∃ b2, decide (k = 10 ∧ ¬ (1 ≤ n ∧ n ≤ 4)) = b2 := ⟨_, rfl⟩
        have HNE : Hid (numE k n = if b1 = true then 1 else if b2 = true then 4 else 0) := Lib.hid (by
         unfold numE
         rw [← hb1, ← hb2]
         simp only [decide_eq_true_eq])
        have HB1 := Lib.hid hb1
        have HB2 := Lib.hid hb2
        obtain ⟨nk, hnk⟩ : ∃ nk, nearK k = nk := ⟨_, rfl⟩
        rw [hnk] at HNK HB1
        have HKN := Lib.hid hnk
        clear hb1 hb2 hnk
        go_upto_region 14 with (fail)
        go_cut [94] from 95 to 118 (fun p wx => p = .bool b1 ∧ Pure w4 wx)
        case first =>
         have e := HB1.out
         have i1 : ∀ W, Calls Tryz.prog 65 #[.int .i64 n, .int .i64 0, .int .i64 20] W (BoolSame W (decide (0 ≤ n ∧ n ≤ 20))) := fun W => (in_calls _ _ _ W).mono (fun e w' h => ⟨by rw [h.1, inB_eq], h.2⟩)
         have i2 : ∀ W, Calls Tryz.prog 65 #[.int .i64 n, .int .i64 0, .int .i64 4000] W (BoolSame W (decide (0 ≤ n ∧ n ≤ 4000))) := fun W => (in_calls _ _ _ W).mono (fun e w' h => ⟨by rw [h.1, inB_eq], h.2⟩)
         have I1 := Lib.hid i1
         have I2 := Lib.hid i2
         clear i1 i2 FN2 F02 HIH HQ HQB HQX HNE HB2
         go_wp2_with fail
         refine (HNK.out w4).mono ?_
         rintro e2 w5 ⟨rfl, hm⟩
         have HM : Hid (Pure w4 w5) := Lib.hid hm
         have hb5 := HB4.out.modp hm
         clear x0 x1 x2 x3 hm HB4 HNK
         have x0 := hb5.cell 0; have x1 := hb5.cell 1; have x2 := hb5.cell 2; have x3 := hb5.cell 3; simp at x0 x1 x2 x3
         clear hb5
         cases nk with
         | true =>
          have hk45 : k = 4 ∨ k = 5 := by simpa [nearK] using HKN.out
          have h12 : ¬ (k = 12 ∨ k = 13) := by omega
          obtain ⟨q1, hq1⟩ : ∃ q1, decide (0 ≤ n ∧ n ≤ 20) = q1 := ⟨_, rfl⟩
          rw [hq1] at I1
          have e1 : (!q1) = b1 := by
           rw [← e, ← hq1]
           by_cases h : 0 ≤ n ∧ n ≤ 20
           ·rw [decide_eq_true h, decide_eq_false (by intro hh; rcases hh with hh | hh; exact hh.2 h; exact h12 hh.1)]; rfl
           ·rw [decide_eq_false h, decide_eq_true (.inl ⟨rfl, h⟩)]; rfl
          clear e hq1 HKN
          go_wp2_with fail
          refine (I1.out w5).mono ?_
          rintro e2 w6 ⟨rfl, rfl⟩
          cases q1
          ·obtain rfl : true = b1 := e1
           go_wp2_with fail
           go_meet
           exact ⟨rfl, HM.out⟩
          ·obtain rfl : false = b1 := e1
           rcases hk45 with rfl | rfl
           all_goals
            go_wp2_with fail
            go_meet
            exact ⟨rfl, HM.out⟩
         | false =>
          by_cases h12 : k = 12 ∨ k = 13
          ·obtain ⟨q2, hq2⟩ : ∃ q2, decide (0 ≤ n ∧ n ≤ 4000) = q2 := ⟨_, rfl⟩
           rw [hq2] at I2
           have e1 : (!q2) = b1 := by
            rw [← e, ← hq2]
            by_cases h : 0 ≤ n ∧ n ≤ 4000
            ·rw [decide_eq_true h, decide_eq_false (by intro hh; rcases hh with hh | hh; exact absurd hh.1 (by decide); exact hh.2 h)]; rfl
            ·rw [decide_eq_false h, decide_eq_true (.inr ⟨h12, h⟩)]; rfl
           clear e hq2 HKN
           rcases h12 with rfl | rfl
           all_goals
            go_wp2_with fail
            refine (I2.out w5).mono ?_
            rintro e2 w6 ⟨rfl, rfl⟩
            go_wp2_with fail
            go_meet
            exact ⟨by rw [← e1], HM.out⟩
          ·have e1 : false = b1 := by
            rw [← e, decide_eq_false (by intro hh; rcases hh with hh | hh; exact absurd hh.1 (by decide); exact h12 hh.1)]
           subst e1
           have n12 : (k == 12) = false := by simp; omega
           have n13 : (k == 13) = false := by simp; omega
           clear e HKN h12
           go_wp2_with fail
           go_meet
           exact ⟨rfl, HM.out⟩
        case rest =>
         obtain ⟨rfl, hpc⟩ := hcut
         have HB5 := Lib.hid (HB4.out.modp hpc)
         have HP5 : Hid (Pure w wc) := Lib.hid (HP4.out.trans hpc)
         clear hpc x0 x1 x2 x3 HB4 HP4 HB1
         generalize wc = w5 at *
         cases b1 with
         | true =>
          have hne : numE k n = 1 := HNE.out.trans (if_pos rfl)
          have HR := Lib.hid ((FN2.out (by rw [hne]; decide)).symm.trans hne)
          clear FN2 F02 HIH HQ HQB HQX HNE hne HB2
          go_wp2_with fail
          try simp only [Exit.inBlock, Exit.then]
          refine bodyPost_ret (v := .int .i64 1) (by simp [results, Tryz.results108, go_sem]) rfl ?_
          rw [HR.out]
          exact ⟨rfl, HP5.out⟩
         | false =>
          have hne : numE k n = if b2 = true then 4 else 0 := HNE.out.trans (if_neg (by decide))
          have hb5 := HB5.out
          have x0 := hb5.cell 0; have x1 := hb5.cell 1; have x2 := hb5.cell 2; have x3 := hb5.cell 3; simp at x0 x1 x2 x3
          clear hb5
          have HNE2 := Lib.hid hne
          clear HNE hne
          go_upto_region 16 with (fail)
          go_cut [119] from 120 to 128 (fun p wx => p = .bool b2 ∧ w5 = wx)
          case first =>
           have e := HB2.out
           have HKW := Lib.hid (kindWordQ_calls w5 n)
           have hkn := kwQ_nil n
           clear FN2 F02 HIH HQ HQB HQX HNE2 HNK
           by_cases h10 : k = 10
           ·have e1 : (kwQ n == []) = b2 := by
             rw [hkn, ← e]
             by_cases h : 1 ≤ n ∧ n ≤ 4
             ·rw [decide_eq_true h, decide_eq_false (fun hh => hh.2 h)]; rfl
             ·rw [decide_eq_false h, decide_eq_true ⟨h10, h⟩]; rfl
            subst h10
            clear e hkn
            generalize kwQ n = kw at *
            go_wp2_with fail
            refine HKW.out.mono ?_
            rintro e2 w6 ⟨rfl, rfl⟩
            go_wp2_with fail
            go_meet
            exact ⟨by first | rfl | (rw [← e1]; rfl) | (rw [← e1]; simp), rfl⟩
           ·have h10i : (k == 10) = false := by simpa using h10
            obtain rfl : false = b2 := by rw [← e, decide_eq_false (fun hh => h10 hh.1)]
            clear e h10 hkn HKW
            go_wp2_with fail
            go_meet
            exact ⟨rfl, rfl⟩
          case rest =>
           obtain ⟨rfl, rfl⟩ := hcut
           cases b2 with
           | true =>
            have hne : numE k n = 4 := HNE2.out.trans (if_pos rfl)
            have HR := Lib.hid ((FN2.out (by rw [hne]; decide)).symm.trans hne)
            clear FN2 F02 HIH HQ HQB HQX HNE2 hne HB2
            go_wp2_with fail
            try simp only [Exit.inBlock, Exit.then]
            refine bodyPost_ret (v := .int .i64 4) (by simp [results, Tryz.results108, go_sem]) rfl ?_
            rw [HR.out]
            exact ⟨rfl, HP5.out⟩
           | false =>
            have HFL : Hid (fl = fstE ((xs.map QR.key).map (fltQ 100 (mustQ must k)))) := Lib.hid (F02.out (HNE2.out.trans (if_neg (by decide)))).symm
            clear FN2 F02 HNE2 HB2
            have HMQ : Hid (mustQ must k = (nk || (must && decide (k = 7)))) := Lib.hid (by unfold mustQ; rw [HKN.out])
            obtain ⟨mq, hmq⟩ : ∃ mq, mustQ must k = mq := ⟨_, rfl⟩
            rw [hmq] at HFL HMQ
            clear hmq HKN
            go_wp2_with fail
            go_loopg [132] xs.length (fun gk i wr => ∃ j : Nat, xs.length - j = gk ∧ j ≤ xs.length ∧ i = .int .i64 (j : Int) ∧ fstE (((xs.map QR.key).map (fltQ 100 mq)).take j) = 0 ∧ Pure w5 wr)
            case atStart => exact ⟨0, by omega, by omega, rfl, by simp [fstE], Mod.refl _ _⟩
            case round =>
             obtain ⟨j, rfl, hj, rfl, hfs, hm⟩ := hrel
             have HM : Hid (Pure w wr) := Lib.hid (HP5.out.trans hm)
             have HMR : Hid (Pure w5 wr) := Lib.hid hm
             have HB6' := Lib.hid (HB5.out.modp hm)
             have HFS := Lib.hid hfs
             clear hm hfs
             by_cases hlt : j < xs.length
             ·obtain ⟨k', A', c', ws', n', B', dd', xs', hq⟩ := QR.ex xs[j]
              have hxs := HQX.out.pure HM.out
              obtain ⟨g, off, hA, q0, q1, q2, q3⟩ := qcells hxs hlt hq
              obtain rfl := hA
              have hji : ((j : Nat) : Int) < (xs.length : Int) := by omega
              have HQJ : Hid (QS wr (.mk k' A' c' ws' n' B' dd' xs')) := Lib.hid (by rw [← hq]; exact (HQ.out.allH _ (List.getElem_mem hlt)).pure HM.out)
              have HQK : Hid (QB 1000 (QR.mk k' A' c' ws' n' B' dd' xs').key) := Lib.hid (by rw [← hq]; exact HQB.out _ (List.mem_map.2 ⟨_, List.getElem_mem hlt, rfl⟩))
              have HMEM : Hid (QR.mk k' A' c' ws' n' B' dd' xs' ∈ xs) := Lib.hid (by rw [← hq]; exact List.getElem_mem hlt)
              obtain ⟨er, her⟩ : ∃ er, fltQ 100 mq (QR.mk k' A' c' ws' n' B' dd' xs').key = er := ⟨_, rfl⟩
              have hjl : j < ((xs.map QR.key).map (fltQ 100 mq)).length := by simpa using hlt
              have hat := fstE_at hjl HFS.out
              have hge : ((xs.map QR.key).map (fltQ 100 mq))[j] = er := by rw [List.getElem_map, List.getElem_map, hq, her]
              rw [hge] at hat
              have HAT := Lib.hid hat
              have HPA := Lib.hid (pure_alloc wr (.cells #[.int .i64 k', .slice A' ws'.length c', .int .i64 n', .slice B' xs'.length dd'] 29))
              have hX6 := Blk.new wr 29 #[.int .i64 k', .slice A' ws'.length c', .int .i64 n', .slice B' xs'.length dd']
              have hB6 := HB6'.out.alloc (.cells #[.int .i64 k', .slice A' ws'.length c', .int .i64 n', .slice B' xs'.length dd'] 29)
              clear hat hge hjl hxs hq HB6'
              go_upto_region 21 with (fail)
              have HI : Hid (∀ W, Pure (wr.alloc (.cells #[.int .i64 k', .slice A' ws'.length c', .int .i64 n', .slice B' xs'.length dd'] 29)) W → Calls Tryz.prog 108 #[.agg #[.int .i64 k', .slice A' ws'.length c', .int .i64 n', .slice B' xs'.length dd'], .bool mq] W (IntPost W er)) := Lib.hid (fun W h => by
               have h2 := HIH.out _ HMEM.out W mq ((HQJ.out.pure HPA.out).pure h) HQK.out
               rw [her] at h2
               exact h2)
              have HP6 : Hid (Pure w (wr.alloc (.cells #[.int .i64 k', .slice A' ws'.length c', .int .i64 n', .slice B' xs'.length dd'] 29))) := Lib.hid (HM.out.trans HPA.out)
              have HM5 : Hid (Pure w5 (wr.alloc (.cells #[.int .i64 k', .slice A' ws'.length c', .int .i64 n', .slice B' xs'.length dd'] 29))) := Lib.hid (HMR.out.trans HPA.out)
              generalize (wr.alloc (.cells #[.int .i64 k', .slice A' ws'.length c', .int .i64 n', .slice B' xs'.length dd'] 29)) = w6 at *
              generalize wr.heap.size = g12 at *
              have HX6 := Lib.hid hX6
              have HB6 := Lib.hid hB6
              have emq := HMQ.out
              clear hX6 hB6 HQJ HQK HMEM HPA HIH her q0 q1 q2 q3 HM HMR
              cases nk with
              | true =>
               rw [Bool.true_or] at emq
               subst emq
               have HGs := Lib.hid (show ∀ (D : Nat → Bool) (zzi : Nat) (zq zq' : World), (fun _ zq => (fun Z => Blk Z g0 29 #[.int .i64 k, .slice A ws.length c, .int .i64 n, .slice (some ⟨g, off, none⟩) xs.length dd] ∧ Blk Z g12 29 #[.int .i64 k', .slice A' ws'.length c', .int .i64 n', .slice B' xs'.length dd']) zq) D zq → Mod (fun _ => False) zq zq' → (fun _ zq => (fun Z => Blk Z g0 29 #[.int .i64 k, .slice A ws.length c, .int .i64 n, .slice (some ⟨g, off, none⟩) xs.length dd] ∧ Blk Z g12 29 #[.int .i64 k', .slice A' ws'.length c', .int .i64 n', .slice B' xs'.length dd']) zq) (upd D zzi true) zq' from by intro D zzi zq zq' h hm; (exact ⟨h.1.modp hm, h.2.modp hm⟩))
               refine wp_region_inv (by kernel_rfl) (by kernel_rfl) (InvF (R := Mod (fun _ => False)) [.is (.agg #[.int .i64 k', .slice A' ws'.length c', .int .i64 n', .slice B' xs'.length dd']),
                 .is (.agg #[.int .i64 k, .slice A ws.length c, .int .i64 n, .slice (some ⟨g, off, none⟩) xs.length dd]),
                 .is (.bool true),
                 .is (.bool true),
                 .is (undef),
                 .is (undef),
                 .is (undef),
                 .is (undef),
                 .is (undef),
                 .is (undef),
                 .is (.bool true),
                 .is (.int .i64 er),
                 .is (.int .i64 er)]
                 (PB w6 (fun _ => False) w6.heap.size (fun _ zq => (fun Z => Blk Z g0 29 #[.int .i64 k, .slice A ws.length c, .int .i64 n, .slice (some ⟨g, off, none⟩) xs.length dd] ∧ Blk Z g12 29 #[.int .i64 k', .slice A' ws'.length c', .int .i64 n', .slice B' xs'.length dd']) zq))) (InvF.start (PB.start (Mod.refl _ _) (Nat.le_refl _) (⟨HB6.out, HX6.out⟩))) ?_ ?_
               ·refine .cons ?_ (.cons ?_ (.cons ?_ (.cons ?_ (.cons ?_ (.cons ?_ (.cons ?_ (.cons ?_ (.cons ?_ (.cons ?_ (.cons ?_ (.cons ?_ (.cons ?_ .nil))))))))))))
                ·intro D V zw1 a hR hI K hK
                 obtain ⟨hM1, hB1, hG1⟩ := hI.1
                 have ze12 := hR.frame.other (t := 12) (by kernel_rfl) rfl
                 have zx0 := hG1.2.cell 0; have zx1 := hG1.2.cell 1; have zx2 := hG1.2.cell 2; have zx3 := hG1.2.cell 3
                 simp at zx0 zx1 zx2 zx3
                 rw [if_pos (by rfl)]
                 go_simp
                 exact hK (.agg #[.int .i64 k', .slice A' ws'.length c', .int .i64 n', .slice B' xs'.length dd']) _ (hI.next hR (by kernel_rfl) (Mod.refl _ _) (PB.quiet hI.1 (Mod.refl _ _) (HGs.out D 0 zw1 zw1 (hI.1).g (Mod.refl _ _))) (upd_same V 0 _))
                ·intro D V zw1 a hR hI K hK
                 obtain ⟨hM1, hB1, hG1⟩ := hI.1
                 have ze2 := hR.frame.other (t := 2) (by kernel_rfl) rfl
                 have zx0 := hG1.1.cell 0; have zx1 := hG1.1.cell 1; have zx2 := hG1.1.cell 2; have zx3 := hG1.1.cell 3
                 simp at zx0 zx1 zx2 zx3
                 rw [if_pos (by rfl)]
                 go_simp
                 exact hK (.agg #[.int .i64 k, .slice A ws.length c, .int .i64 n, .slice (some ⟨g, off, none⟩) xs.length dd]) _ (hI.next hR (by kernel_rfl) (Mod.refl _ _) (PB.quiet hI.1 (Mod.refl _ _) (HGs.out D 1 zw1 zw1 (hI.1).g (Mod.refl _ _))) (upd_same V 1 _))
                ·intro D V zw1 a hR hI K hK
                 obtain ⟨hM1, hB1, hG1⟩ := hI.1
                 have zd1 := hR.pred 1 (by kernel_rfl)
                 have zF1 : V 1 = .agg #[.int .i64 k, .slice A ws.length c, .int .i64 n, .slice (some ⟨g, off, none⟩) xs.length dd] := hI.2 1 zd1 rfl
                 have zf1 := zF1; clear zF1
                 have ze137 := hR.frame.done (t := 137) (j := 1) (by kernel_rfl) hR.ok zd1
                 rw [if_pos (by rfl)]
                 go_simp
                 refine (HNK.out zw1).mono ?_
                 rintro e zw2 ⟨rfl, hm2⟩
                 exact hK (.bool true) _ (hI.next hR (by kernel_rfl) hm2 (PB.quiet hI.1 hm2 (HGs.out D 2 _ _ (hI.1).g hm2)) (upd_same V 2 _))
                ·intro D V zw1 a hR hI K hK
                 obtain ⟨hM1, hB1, hG1⟩ := hI.1
                 have zd2 := hR.pred 2 (by kernel_rfl)
                 have zF2 : V 2 = .bool true := hI.2 2 zd2 rfl
                 have zf2 := zF2; clear zF2
                 have ze138 := hR.frame.done (t := 138) (j := 2) (by kernel_rfl) hR.ok zd2
                 rw [if_pos (by rfl)]
                 go_simp
                 exact hK (.bool true) _ (hI.next hR (by kernel_rfl) (Mod.refl _ _) (PB.quiet hI.1 (Mod.refl _ _) (HGs.out D 3 zw1 zw1 (hI.1).g (Mod.refl _ _))) (upd_same V 3 _))
                ·intro D V zw1 a hR hI K hK
                 obtain ⟨hM1, hB1, hG1⟩ := hI.1
                 have zd3 := hR.pred 3 (by kernel_rfl)
                 have zF3 : V 3 = .bool true := hI.2 3 zd3 rfl
                 have zf3 := zF3; clear zF3
                 have ze139 := hR.frame.done (t := 139) (j := 3) (by kernel_rfl) hR.ok zd3
                 rw [if_neg (by simp [Region.wanted, yielded, ze139, zf3])]
                 exact hK undef _ (hI.next hR (by kernel_rfl) (Mod.refl _ _) (PB.quiet hI.1 (Mod.refl _ _) (HGs.out D 4 zw1 zw1 (hI.1).g (Mod.refl _ _))) (upd_same V 4 _))
                ·intro D V zw1 a hR hI K hK
                 obtain ⟨hM1, hB1, hG1⟩ := hI.1
                 have zd3 := hR.pred 3 (by kernel_rfl)
                 have zF3 : V 3 = .bool true := hI.2 3 zd3 rfl
                 have zf3 := zF3; clear zF3
                 have ze139 := hR.frame.done (t := 139) (j := 3) (by kernel_rfl) hR.ok zd3
                 rw [if_neg (by simp [Region.wanted, yielded, ze139, zf3])]
                 exact hK undef _ (hI.next hR (by kernel_rfl) (Mod.refl _ _) (PB.quiet hI.1 (Mod.refl _ _) (HGs.out D 5 zw1 zw1 (hI.1).g (Mod.refl _ _))) (upd_same V 5 _))
                ·intro D V zw1 a hR hI K hK
                 obtain ⟨hM1, hB1, hG1⟩ := hI.1
                 have zd5 := hR.pred 5 (by kernel_rfl)
                 have zF5 : V 5 = undef := hI.2 5 zd5 rfl
                 have zf5 := zF5; clear zF5
                 have ze141 := hR.frame.done (t := 141) (j := 5) (by kernel_rfl) hR.ok zd5
                 rw [if_neg (by simp [Region.wanted, yielded, ze141, zf5, undef])]
                 exact hK undef _ (hI.next hR (by kernel_rfl) (Mod.refl _ _) (PB.quiet hI.1 (Mod.refl _ _) (HGs.out D 6 zw1 zw1 (hI.1).g (Mod.refl _ _))) (upd_same V 6 _))
                ·intro D V zw1 a hR hI K hK
                 obtain ⟨hM1, hB1, hG1⟩ := hI.1
                 have zd5 := hR.pred 5 (by kernel_rfl)
                 have zF5 : V 5 = undef := hI.2 5 zd5 rfl
                 have zf5 := zF5; clear zF5
                 have ze141 := hR.frame.done (t := 141) (j := 5) (by kernel_rfl) hR.ok zd5
                 rw [if_neg (by simp [Region.wanted, yielded, ze141, zf5, undef])]
                 exact hK undef _ (hI.next hR (by kernel_rfl) (Mod.refl _ _) (PB.quiet hI.1 (Mod.refl _ _) (HGs.out D 7 zw1 zw1 (hI.1).g (Mod.refl _ _))) (upd_same V 7 _))
                ·intro D V zw1 a hR hI K hK
                 obtain ⟨hM1, hB1, hG1⟩ := hI.1
                 have zd5 := hR.pred 5 (by kernel_rfl)
                 have zF5 : V 5 = undef := hI.2 5 zd5 rfl
                 have zf5 := zF5; clear zF5
                 have ze141 := hR.frame.done (t := 141) (j := 5) (by kernel_rfl) hR.ok zd5
                 rw [if_neg (by simp [Region.wanted, yielded, ze141, zf5, undef])]
                 exact hK undef _ (hI.next hR (by kernel_rfl) (Mod.refl _ _) (PB.quiet hI.1 (Mod.refl _ _) (HGs.out D 8 zw1 zw1 (hI.1).g (Mod.refl _ _))) (upd_same V 8 _))
                ·intro D V zw1 a hR hI K hK
                 obtain ⟨hM1, hB1, hG1⟩ := hI.1
                 have zd3 := hR.pred 3 (by kernel_rfl)
                 have zF3 : V 3 = .bool true := hI.2 3 zd3 rfl
                 have zf3 := zF3; clear zF3
                 have ze139 := hR.frame.done (t := 139) (j := 3) (by kernel_rfl) hR.ok zd3
                 rw [if_neg (by simp [Region.wanted, yielded, ze139, zf3])]
                 exact hK undef _ (hI.next hR (by kernel_rfl) (Mod.refl _ _) (PB.quiet hI.1 (Mod.refl _ _) (HGs.out D 9 zw1 zw1 (hI.1).g (Mod.refl _ _))) (upd_same V 9 _))
                ·intro D V zw1 a hR hI K hK
                 obtain ⟨hM1, hB1, hG1⟩ := hI.1
                 have zd3 := hR.pred 3 (by kernel_rfl)
                 have zF3 : V 3 = .bool true := hI.2 3 zd3 rfl
                 have zf3 := zF3; clear zF3
                 have zd9 := hR.pred 9 (by kernel_rfl)
                 have zF9 : V 9 = undef := hI.2 9 zd9 rfl
                 have zf9 := zF9; clear zF9
                 have ze139 := hR.frame.done (t := 139) (j := 3) (by kernel_rfl) hR.ok zd3
                 have ze145 := hR.frame.done (t := 145) (j := 9) (by kernel_rfl) hR.ok zd9
                 rw [if_pos (by rfl)]
                 go_simp
                 exact hK (.bool true) _ (hI.next hR (by kernel_rfl) (Mod.refl _ _) (PB.quiet hI.1 (Mod.refl _ _) (HGs.out D 10 zw1 zw1 (hI.1).g (Mod.refl _ _))) (upd_same V 10 _))
                ·intro D V zw1 a hR hI K hK
                 obtain ⟨hM1, hB1, hG1⟩ := hI.1
                 have zd0 := hR.pred 0 (by kernel_rfl)
                 have zF0 : V 0 = .agg #[.int .i64 k', .slice A' ws'.length c', .int .i64 n', .slice B' xs'.length dd'] := hI.2 0 zd0 rfl
                 have zf0 := zF0; clear zF0
                 have zd10 := hR.pred 10 (by kernel_rfl)
                 have zF10 : V 10 = .bool true := hI.2 10 zd10 rfl
                 have zf10 := zF10; clear zF10
                 have ze136 := hR.frame.done (t := 136) (j := 0) (by kernel_rfl) hR.ok zd0
                 have ze146 := hR.frame.done (t := 146) (j := 10) (by kernel_rfl) hR.ok zd10
                 rw [if_pos (by rfl)]
                 go_simp
                 refine (HI.out zw1 hM1).mono ?_
                 rintro e zw2 ⟨rfl, hm2⟩
                 exact hK (.int .i64 er) _ (hI.next hR (by kernel_rfl) hm2 (PB.quiet hI.1 hm2 (HGs.out D 11 _ _ (hI.1).g hm2)) (upd_same V 11 _))
                ·intro D V zw1 a hR hI K hK
                 obtain ⟨hM1, hB1, hG1⟩ := hI.1
                 have zd11 := hR.pred 11 (by kernel_rfl)
                 have zF11 : V 11 = .int .i64 er := hI.2 11 zd11 rfl
                 have zf11 := zF11; clear zF11
                 have ze147 := hR.frame.done (t := 147) (j := 11) (by kernel_rfl) hR.ok zd11
                 rw [if_pos (by rfl)]
                 go_simp
                 exact hK (.int .i64 er) _ (hI.next hR (by kernel_rfl) (Mod.refl _ _) (PB.quiet hI.1 (Mod.refl _ _) (HGs.out D 12 zw1 zw1 (hI.1).g (Mod.refl _ _))) (upd_same V 12 _))
               ·intro D V w9 hD hI
                obtain ⟨hM1, hB1, hG1⟩ := hI.1
                have hMx := hM1
                clear hM1
                have hBx := hB1
                clear hB1
                have hGx := hG1
                clear hG1
                have zF0 : V 0 = .agg #[.int .i64 k', .slice A' ws'.length c', .int .i64 n', .slice B' xs'.length dd'] := hI.2 0 (hD 0 (by decide)) rfl
                have zf0 := zF0; clear zF0
                have zF1 : V 1 = .agg #[.int .i64 k, .slice A ws.length c, .int .i64 n, .slice (some ⟨g, off, none⟩) xs.length dd] := hI.2 1 (hD 1 (by decide)) rfl
                have zf1 := zF1; clear zF1
                have zF2 : V 2 = .bool true := hI.2 2 (hD 2 (by decide)) rfl
                have zf2 := zF2; clear zF2
                have zF3 : V 3 = .bool true := hI.2 3 (hD 3 (by decide)) rfl
                have zf3 := zF3; clear zF3
                have zF4 : V 4 = undef := hI.2 4 (hD 4 (by decide)) rfl
                have zf4 := zF4; clear zF4
                have zF5 : V 5 = undef := hI.2 5 (hD 5 (by decide)) rfl
                have zf5 := zF5; clear zF5
                have zF6 : V 6 = undef := hI.2 6 (hD 6 (by decide)) rfl
                have zf6 := zF6; clear zF6
                have zF7 : V 7 = undef := hI.2 7 (hD 7 (by decide)) rfl
                have zf7 := zF7; clear zF7
                have zF8 : V 8 = undef := hI.2 8 (hD 8 (by decide)) rfl
                have zf8 := zF8; clear zF8
                have zF9 : V 9 = undef := hI.2 9 (hD 9 (by decide)) rfl
                have zf9 := zF9; clear zF9
                have zF10 : V 10 = .bool true := hI.2 10 (hD 10 (by decide)) rfl
                have zf10 := zF10; clear zF10
                have zF11 : V 11 = .int .i64 er := hI.2 11 (hD 11 (by decide)) rfl
                have zf11 := zF11; clear zF11
                have zF12 : V 12 = .int .i64 er := hI.2 12 (hD 12 (by decide)) rfl
                have zf12 := zF12; clear zF12
                clear hI hD HGs
                simp only [frAll, Act.put, List.setIfInBounds_toArray, List.set_cons_zero, List.set_cons_succ, Nat.zero_add, Nat.reduceAdd, zf0, zf1, zf2, zf3, zf4, zf5, zf6, zf7, zf8, zf9, zf10, zf11, zf12]
                clear zf0 zf1 zf2 zf3 zf4 zf5 zf6 zf7 zf8 zf9 zf10 zf11 zf12
                clear V D
                have HP9 : Hid (Pure w w9) := Lib.hid (HP6.out.trans hMx)
                have HM9 : Hid (Pure w5 w9) := Lib.hid ((HM5.out).trans hMx)
                clear hGx hMx hBx HI HX6 HB6 HP6 HM5
                by_cases he0 : er = 0
                ·subst he0
                 have HS := Lib.hid (HAT.out.2 rfl)
                 clear HAT HFS
                 go_wp2_with fail
                 go_roundg (xs.length - (j + 1))
                 case measure => omega
                 case rel => exact ⟨j + 1, rfl, by omega, by simp, HS.out, HM9.out⟩
                ·have hen : (er != 0) = true := by simpa using he0
                 have HR : Hid (fl = er) := Lib.hid (HFL.out.trans (HAT.out.1 he0))
                 clear HAT HFS HFL HQ HQB HQX he0
                 go_wp2_with fail
                 try simp only [Exit.inBlock, Exit.then]
                 refine bodyPost_ret (v := .int .i64 er) (by simp [results, Tryz.results108, go_sem]) rfl ?_
                 rw [HR.out]
                 exact ⟨rfl, HP9.out⟩
              | false =>
               rw [Bool.false_or] at emq
               cases must with
               | false =>
                rw [Bool.false_and] at emq
                subst emq
                have HGs := Lib.hid (show ∀ (D : Nat → Bool) (zzi : Nat) (zq zq' : World), (fun _ zq => (fun Z => Blk Z g0 29 #[.int .i64 k, .slice A ws.length c, .int .i64 n, .slice (some ⟨g, off, none⟩) xs.length dd] ∧ Blk Z g12 29 #[.int .i64 k', .slice A' ws'.length c', .int .i64 n', .slice B' xs'.length dd']) zq) D zq → Mod (fun _ => False) zq zq' → (fun _ zq => (fun Z => Blk Z g0 29 #[.int .i64 k, .slice A ws.length c, .int .i64 n, .slice (some ⟨g, off, none⟩) xs.length dd] ∧ Blk Z g12 29 #[.int .i64 k', .slice A' ws'.length c', .int .i64 n', .slice B' xs'.length dd']) zq) (upd D zzi true) zq' from by intro D zzi zq zq' h hm; (exact ⟨h.1.modp hm, h.2.modp hm⟩))
                refine wp_region_inv (by kernel_rfl) (by kernel_rfl) (InvF (R := Mod (fun _ => False)) [.is (.agg #[.int .i64 k', .slice A' ws'.length c', .int .i64 n', .slice B' xs'.length dd']),
                  .is (.agg #[.int .i64 k, .slice A ws.length c, .int .i64 n, .slice (some ⟨g, off, none⟩) xs.length dd]),
                  .is (.bool false),
                  .is (.bool false),
                  .is (.bool false),
                  .is (.bool false),
                  .is (undef),
                  .is (undef),
                  .is (undef),
                  .is (.bool false),
                  .is (.bool false),
                  .is (.int .i64 er),
                  .is (.int .i64 er)]
                  (PB w6 (fun _ => False) w6.heap.size (fun _ zq => (fun Z => Blk Z g0 29 #[.int .i64 k, .slice A ws.length c, .int .i64 n, .slice (some ⟨g, off, none⟩) xs.length dd] ∧ Blk Z g12 29 #[.int .i64 k', .slice A' ws'.length c', .int .i64 n', .slice B' xs'.length dd']) zq))) (InvF.start (PB.start (Mod.refl _ _) (Nat.le_refl _) (⟨HB6.out, HX6.out⟩))) ?_ ?_
                ·refine .cons ?_ (.cons ?_ (.cons ?_ (.cons ?_ (.cons ?_ (.cons ?_ (.cons ?_ (.cons ?_ (.cons ?_ (.cons ?_ (.cons ?_ (.cons ?_ (.cons ?_ .nil))))))))))))
                 ·intro D V zw1 a hR hI K hK
                  obtain ⟨hM1, hB1, hG1⟩ := hI.1
                  have ze12 := hR.frame.other (t := 12) (by kernel_rfl) rfl
                  have zx0 := hG1.2.cell 0; have zx1 := hG1.2.cell 1; have zx2 := hG1.2.cell 2; have zx3 := hG1.2.cell 3
                  simp at zx0 zx1 zx2 zx3
                  rw [if_pos (by rfl)]
                  go_simp
                  exact hK (.agg #[.int .i64 k', .slice A' ws'.length c', .int .i64 n', .slice B' xs'.length dd']) _ (hI.next hR (by kernel_rfl) (Mod.refl _ _) (PB.quiet hI.1 (Mod.refl _ _) (HGs.out D 0 zw1 zw1 (hI.1).g (Mod.refl _ _))) (upd_same V 0 _))
                 ·intro D V zw1 a hR hI K hK
                  obtain ⟨hM1, hB1, hG1⟩ := hI.1
                  have ze2 := hR.frame.other (t := 2) (by kernel_rfl) rfl
                  have zx0 := hG1.1.cell 0; have zx1 := hG1.1.cell 1; have zx2 := hG1.1.cell 2; have zx3 := hG1.1.cell 3
                  simp at zx0 zx1 zx2 zx3
                  rw [if_pos (by rfl)]
                  go_simp
                  exact hK (.agg #[.int .i64 k, .slice A ws.length c, .int .i64 n, .slice (some ⟨g, off, none⟩) xs.length dd]) _ (hI.next hR (by kernel_rfl) (Mod.refl _ _) (PB.quiet hI.1 (Mod.refl _ _) (HGs.out D 1 zw1 zw1 (hI.1).g (Mod.refl _ _))) (upd_same V 1 _))
                 ·intro D V zw1 a hR hI K hK
                  obtain ⟨hM1, hB1, hG1⟩ := hI.1
                  have zd1 := hR.pred 1 (by kernel_rfl)
                  have zF1 : V 1 = .agg #[.int .i64 k, .slice A ws.length c, .int .i64 n, .slice (some ⟨g, off, none⟩) xs.length dd] := hI.2 1 zd1 rfl
                  have zf1 := zF1; clear zF1
                  have ze137 := hR.frame.done (t := 137) (j := 1) (by kernel_rfl) hR.ok zd1
                  rw [if_pos (by rfl)]
                  go_simp
                  refine (HNK.out zw1).mono ?_
                  rintro e zw2 ⟨rfl, hm2⟩
                  exact hK (.bool false) _ (hI.next hR (by kernel_rfl) hm2 (PB.quiet hI.1 hm2 (HGs.out D 2 _ _ (hI.1).g hm2)) (upd_same V 2 _))
                 ·intro D V zw1 a hR hI K hK
                  obtain ⟨hM1, hB1, hG1⟩ := hI.1
                  have zd2 := hR.pred 2 (by kernel_rfl)
                  have zF2 : V 2 = .bool false := hI.2 2 zd2 rfl
                  have zf2 := zF2; clear zF2
                  have ze138 := hR.frame.done (t := 138) (j := 2) (by kernel_rfl) hR.ok zd2
                  rw [if_pos (by rfl)]
                  go_simp
                  exact hK (.bool false) _ (hI.next hR (by kernel_rfl) (Mod.refl _ _) (PB.quiet hI.1 (Mod.refl _ _) (HGs.out D 3 zw1 zw1 (hI.1).g (Mod.refl _ _))) (upd_same V 3 _))
                 ·intro D V zw1 a hR hI K hK
                  obtain ⟨hM1, hB1, hG1⟩ := hI.1
                  have zd3 := hR.pred 3 (by kernel_rfl)
                  have zF3 : V 3 = .bool false := hI.2 3 zd3 rfl
                  have zf3 := zF3; clear zF3
                  have ze1 := hR.frame.other (t := 1) (by kernel_rfl) rfl
                  have ze139 := hR.frame.done (t := 139) (j := 3) (by kernel_rfl) hR.ok zd3
                  rw [if_pos (by simp [Region.wanted, yielded, ze139, zf3])]
                  go_simp
                  exact hK (.bool false) _ (hI.next hR (by kernel_rfl) (Mod.refl _ _) (PB.quiet hI.1 (Mod.refl _ _) (HGs.out D 4 zw1 zw1 (hI.1).g (Mod.refl _ _))) (upd_same V 4 _))
                 ·intro D V zw1 a hR hI K hK
                  obtain ⟨hM1, hB1, hG1⟩ := hI.1
                  have zd4 := hR.pred 4 (by kernel_rfl)
                  have zF4 : V 4 = .bool false := hI.2 4 zd4 rfl
                  have zf4 := zF4; clear zF4
                  have zd3 := hR.pred 3 (by kernel_rfl)
                  have zF3 : V 3 = .bool false := hI.2 3 zd3 rfl
                  have zf3 := zF3; clear zF3
                  have ze140 := hR.frame.done (t := 140) (j := 4) (by kernel_rfl) hR.ok zd4
                  have ze139 := hR.frame.done (t := 139) (j := 3) (by kernel_rfl) hR.ok zd3
                  rw [if_pos (by simp [Region.wanted, yielded, ze139, zf3])]
                  go_simp
                  exact hK (.bool false) _ (hI.next hR (by kernel_rfl) (Mod.refl _ _) (PB.quiet hI.1 (Mod.refl _ _) (HGs.out D 5 zw1 zw1 (hI.1).g (Mod.refl _ _))) (upd_same V 5 _))
                 ·intro D V zw1 a hR hI K hK
                  obtain ⟨hM1, hB1, hG1⟩ := hI.1
                  have zd5 := hR.pred 5 (by kernel_rfl)
                  have zF5 : V 5 = .bool false := hI.2 5 zd5 rfl
                  have zf5 := zF5; clear zF5
                  have ze141 := hR.frame.done (t := 141) (j := 5) (by kernel_rfl) hR.ok zd5
                  rw [if_neg (by simp [Region.wanted, yielded, ze141, zf5])]
                  exact hK undef _ (hI.next hR (by kernel_rfl) (Mod.refl _ _) (PB.quiet hI.1 (Mod.refl _ _) (HGs.out D 6 zw1 zw1 (hI.1).g (Mod.refl _ _))) (upd_same V 6 _))
                 ·intro D V zw1 a hR hI K hK
                  obtain ⟨hM1, hB1, hG1⟩ := hI.1
                  have zd5 := hR.pred 5 (by kernel_rfl)
                  have zF5 : V 5 = .bool false := hI.2 5 zd5 rfl
                  have zf5 := zF5; clear zF5
                  have ze141 := hR.frame.done (t := 141) (j := 5) (by kernel_rfl) hR.ok zd5
                  rw [if_neg (by simp [Region.wanted, yielded, ze141, zf5])]
                  exact hK undef _ (hI.next hR (by kernel_rfl) (Mod.refl _ _) (PB.quiet hI.1 (Mod.refl _ _) (HGs.out D 7 zw1 zw1 (hI.1).g (Mod.refl _ _))) (upd_same V 7 _))
                 ·intro D V zw1 a hR hI K hK
                  obtain ⟨hM1, hB1, hG1⟩ := hI.1
                  have zd5 := hR.pred 5 (by kernel_rfl)
                  have zF5 : V 5 = .bool false := hI.2 5 zd5 rfl
                  have zf5 := zF5; clear zF5
                  have ze141 := hR.frame.done (t := 141) (j := 5) (by kernel_rfl) hR.ok zd5
                  rw [if_neg (by simp [Region.wanted, yielded, ze141, zf5])]
                  exact hK undef _ (hI.next hR (by kernel_rfl) (Mod.refl _ _) (PB.quiet hI.1 (Mod.refl _ _) (HGs.out D 8 zw1 zw1 (hI.1).g (Mod.refl _ _))) (upd_same V 8 _))
                 ·intro D V zw1 a hR hI K hK
                  obtain ⟨hM1, hB1, hG1⟩ := hI.1
                  have zd5 := hR.pred 5 (by kernel_rfl)
                  have zF5 : V 5 = .bool false := hI.2 5 zd5 rfl
                  have zf5 := zF5; clear zF5
                  have zd8 := hR.pred 8 (by kernel_rfl)
                  have zF8 : V 8 = undef := hI.2 8 zd8 rfl
                  have zf8 := zF8; clear zF8
                  have zd3 := hR.pred 3 (by kernel_rfl)
                  have zF3 : V 3 = .bool false := hI.2 3 zd3 rfl
                  have zf3 := zF3; clear zF3
                  have ze141 := hR.frame.done (t := 141) (j := 5) (by kernel_rfl) hR.ok zd5
                  have ze144 := hR.frame.done (t := 144) (j := 8) (by kernel_rfl) hR.ok zd8
                  have ze139 := hR.frame.done (t := 139) (j := 3) (by kernel_rfl) hR.ok zd3
                  rw [if_pos (by simp [Region.wanted, yielded, ze139, zf3])]
                  go_simp
                  exact hK (.bool false) _ (hI.next hR (by kernel_rfl) (Mod.refl _ _) (PB.quiet hI.1 (Mod.refl _ _) (HGs.out D 9 zw1 zw1 (hI.1).g (Mod.refl _ _))) (upd_same V 9 _))
                 ·intro D V zw1 a hR hI K hK
                  obtain ⟨hM1, hB1, hG1⟩ := hI.1
                  have zd3 := hR.pred 3 (by kernel_rfl)
                  have zF3 : V 3 = .bool false := hI.2 3 zd3 rfl
                  have zf3 := zF3; clear zF3
                  have zd9 := hR.pred 9 (by kernel_rfl)
                  have zF9 : V 9 = .bool false := hI.2 9 zd9 rfl
                  have zf9 := zF9; clear zF9
                  have ze139 := hR.frame.done (t := 139) (j := 3) (by kernel_rfl) hR.ok zd3
                  have ze145 := hR.frame.done (t := 145) (j := 9) (by kernel_rfl) hR.ok zd9
                  rw [if_pos (by rfl)]
                  go_simp
                  exact hK (.bool false) _ (hI.next hR (by kernel_rfl) (Mod.refl _ _) (PB.quiet hI.1 (Mod.refl _ _) (HGs.out D 10 zw1 zw1 (hI.1).g (Mod.refl _ _))) (upd_same V 10 _))
                 ·intro D V zw1 a hR hI K hK
                  obtain ⟨hM1, hB1, hG1⟩ := hI.1
                  have zd0 := hR.pred 0 (by kernel_rfl)
                  have zF0 : V 0 = .agg #[.int .i64 k', .slice A' ws'.length c', .int .i64 n', .slice B' xs'.length dd'] := hI.2 0 zd0 rfl
                  have zf0 := zF0; clear zF0
                  have zd10 := hR.pred 10 (by kernel_rfl)
                  have zF10 : V 10 = .bool false := hI.2 10 zd10 rfl
                  have zf10 := zF10; clear zF10
                  have ze136 := hR.frame.done (t := 136) (j := 0) (by kernel_rfl) hR.ok zd0
                  have ze146 := hR.frame.done (t := 146) (j := 10) (by kernel_rfl) hR.ok zd10
                  rw [if_pos (by rfl)]
                  go_simp
                  refine (HI.out zw1 hM1).mono ?_
                  rintro e zw2 ⟨rfl, hm2⟩
                  exact hK (.int .i64 er) _ (hI.next hR (by kernel_rfl) hm2 (PB.quiet hI.1 hm2 (HGs.out D 11 _ _ (hI.1).g hm2)) (upd_same V 11 _))
                 ·intro D V zw1 a hR hI K hK
                  obtain ⟨hM1, hB1, hG1⟩ := hI.1
                  have zd11 := hR.pred 11 (by kernel_rfl)
                  have zF11 : V 11 = .int .i64 er := hI.2 11 zd11 rfl
                  have zf11 := zF11; clear zF11
                  have ze147 := hR.frame.done (t := 147) (j := 11) (by kernel_rfl) hR.ok zd11
                  rw [if_pos (by rfl)]
                  go_simp
                  exact hK (.int .i64 er) _ (hI.next hR (by kernel_rfl) (Mod.refl _ _) (PB.quiet hI.1 (Mod.refl _ _) (HGs.out D 12 zw1 zw1 (hI.1).g (Mod.refl _ _))) (upd_same V 12 _))
                ·intro D V w9 hD hI
                 obtain ⟨hM1, hB1, hG1⟩ := hI.1
                 have hMx := hM1
                 clear hM1
                 have hBx := hB1
                 clear hB1
                 have hGx := hG1
                 clear hG1
                 have zF0 : V 0 = .agg #[.int .i64 k', .slice A' ws'.length c', .int .i64 n', .slice B' xs'.length dd'] := hI.2 0 (hD 0 (by decide)) rfl
                 have zf0 := zF0; clear zF0
                 have zF1 : V 1 = .agg #[.int .i64 k, .slice A ws.length c, .int .i64 n, .slice (some ⟨g, off, none⟩) xs.length dd] := hI.2 1 (hD 1 (by decide)) rfl
                 have zf1 := zF1; clear zF1
                 have zF2 : V 2 = .bool false := hI.2 2 (hD 2 (by decide)) rfl
                 have zf2 := zF2; clear zF2
                 have zF3 : V 3 = .bool false := hI.2 3 (hD 3 (by decide)) rfl
                 have zf3 := zF3; clear zF3
                 have zF4 : V 4 = .bool false := hI.2 4 (hD 4 (by decide)) rfl
                 have zf4 := zF4; clear zF4
                 have zF5 : V 5 = .bool false := hI.2 5 (hD 5 (by decide)) rfl
                 have zf5 := zF5; clear zF5
                 have zF6 : V 6 = undef := hI.2 6 (hD 6 (by decide)) rfl
                 have zf6 := zF6; clear zF6
                 have zF7 : V 7 = undef := hI.2 7 (hD 7 (by decide)) rfl
                 have zf7 := zF7; clear zF7
                 have zF8 : V 8 = undef := hI.2 8 (hD 8 (by decide)) rfl
                 have zf8 := zF8; clear zF8
                 have zF9 : V 9 = .bool false := hI.2 9 (hD 9 (by decide)) rfl
                 have zf9 := zF9; clear zF9
                 have zF10 : V 10 = .bool false := hI.2 10 (hD 10 (by decide)) rfl
                 have zf10 := zF10; clear zF10
                 have zF11 : V 11 = .int .i64 er := hI.2 11 (hD 11 (by decide)) rfl
                 have zf11 := zF11; clear zF11
                 have zF12 : V 12 = .int .i64 er := hI.2 12 (hD 12 (by decide)) rfl
                 have zf12 := zF12; clear zF12
                 clear hI hD HGs
                 simp only [frAll, Act.put, List.setIfInBounds_toArray, List.set_cons_zero, List.set_cons_succ, Nat.zero_add, Nat.reduceAdd, zf0, zf1, zf2, zf3, zf4, zf5, zf6, zf7, zf8, zf9, zf10, zf11, zf12]
                 clear zf0 zf1 zf2 zf3 zf4 zf5 zf6 zf7 zf8 zf9 zf10 zf11 zf12
                 clear V D
                 have HP9 : Hid (Pure w w9) := Lib.hid (HP6.out.trans hMx)
                 have HM9 : Hid (Pure w5 w9) := Lib.hid ((HM5.out).trans hMx)
                 clear hGx hMx hBx HI HX6 HB6 HP6 HM5
                 by_cases he0 : er = 0
                 ·subst he0
                  have HS := Lib.hid (HAT.out.2 rfl)
                  clear HAT HFS
                  go_wp2_with fail
                  go_roundg (xs.length - (j + 1))
                  case measure => omega
                  case rel => exact ⟨j + 1, rfl, by omega, by simp, HS.out, HM9.out⟩
                 ·have hen : (er != 0) = true := by simpa using he0
                  have HR : Hid (fl = er) := Lib.hid (HFL.out.trans (HAT.out.1 he0))
                  clear HAT HFS HFL HQ HQB HQX he0
                  go_wp2_with fail
                  try simp only [Exit.inBlock, Exit.then]
                  refine bodyPost_ret (v := .int .i64 er) (by simp [results, Tryz.results108, go_sem]) rfl ?_
                  rw [HR.out]
                  exact ⟨rfl, HP9.out⟩
               | true =>
                rw [Bool.true_and] at emq
                have hk7 : (k == 7) = mq := by rw [emq]; exact Bool.beq_eq_decide_eq _ _
                clear emq HMQ
                have HGs := Lib.hid (show ∀ (D : Nat → Bool) (zzi : Nat) (zq zq' : World), (fun _ zq => (fun Z => Blk Z g0 29 #[.int .i64 k, .slice A ws.length c, .int .i64 n, .slice (some ⟨g, off, none⟩) xs.length dd] ∧ Blk Z g12 29 #[.int .i64 k', .slice A' ws'.length c', .int .i64 n', .slice B' xs'.length dd']) zq) D zq → Mod (fun _ => False) zq zq' → (fun _ zq => (fun Z => Blk Z g0 29 #[.int .i64 k, .slice A ws.length c, .int .i64 n, .slice (some ⟨g, off, none⟩) xs.length dd] ∧ Blk Z g12 29 #[.int .i64 k', .slice A' ws'.length c', .int .i64 n', .slice B' xs'.length dd']) zq) (upd D zzi true) zq' from by intro D zzi zq zq' h hm; (exact ⟨h.1.modp hm, h.2.modp hm⟩))
                refine wp_region_inv (by kernel_rfl) (by kernel_rfl) (InvF (R := Mod (fun _ => False)) [.is (.agg #[.int .i64 k', .slice A' ws'.length c', .int .i64 n', .slice B' xs'.length dd']),
                  .is (.agg #[.int .i64 k, .slice A ws.length c, .int .i64 n, .slice (some ⟨g, off, none⟩) xs.length dd]),
                  .is (.bool false),
                  .is (.bool false),
                  .is (.bool true),
                  .is (.bool true),
                  .is (.pointer (some ⟨g0, 0, none⟩)),
                  .is (.int .i64 k),
                  .is (.bool mq),
                  .is (.bool mq),
                  .is (.bool mq),
                  .is (.int .i64 er),
                  .is (.int .i64 er)]
                  (PB w6 (fun _ => False) w6.heap.size (fun _ zq => (fun Z => Blk Z g0 29 #[.int .i64 k, .slice A ws.length c, .int .i64 n, .slice (some ⟨g, off, none⟩) xs.length dd] ∧ Blk Z g12 29 #[.int .i64 k', .slice A' ws'.length c', .int .i64 n', .slice B' xs'.length dd']) zq))) (InvF.start (PB.start (Mod.refl _ _) (Nat.le_refl _) (⟨HB6.out, HX6.out⟩))) ?_ ?_
                ·refine .cons ?_ (.cons ?_ (.cons ?_ (.cons ?_ (.cons ?_ (.cons ?_ (.cons ?_ (.cons ?_ (.cons ?_ (.cons ?_ (.cons ?_ (.cons ?_ (.cons ?_ .nil))))))))))))
                 ·intro D V zw1 a hR hI K hK
                  obtain ⟨hM1, hB1, hG1⟩ := hI.1
                  have ze12 := hR.frame.other (t := 12) (by kernel_rfl) rfl
                  have zx0 := hG1.2.cell 0; have zx1 := hG1.2.cell 1; have zx2 := hG1.2.cell 2; have zx3 := hG1.2.cell 3
                  simp at zx0 zx1 zx2 zx3
                  rw [if_pos (by rfl)]
                  go_simp
                  exact hK (.agg #[.int .i64 k', .slice A' ws'.length c', .int .i64 n', .slice B' xs'.length dd']) _ (hI.next hR (by kernel_rfl) (Mod.refl _ _) (PB.quiet hI.1 (Mod.refl _ _) (HGs.out D 0 zw1 zw1 (hI.1).g (Mod.refl _ _))) (upd_same V 0 _))
                 ·intro D V zw1 a hR hI K hK
                  obtain ⟨hM1, hB1, hG1⟩ := hI.1
                  have ze2 := hR.frame.other (t := 2) (by kernel_rfl) rfl
                  have zx0 := hG1.1.cell 0; have zx1 := hG1.1.cell 1; have zx2 := hG1.1.cell 2; have zx3 := hG1.1.cell 3
                  simp at zx0 zx1 zx2 zx3
                  rw [if_pos (by rfl)]
                  go_simp
                  exact hK (.agg #[.int .i64 k, .slice A ws.length c, .int .i64 n, .slice (some ⟨g, off, none⟩) xs.length dd]) _ (hI.next hR (by kernel_rfl) (Mod.refl _ _) (PB.quiet hI.1 (Mod.refl _ _) (HGs.out D 1 zw1 zw1 (hI.1).g (Mod.refl _ _))) (upd_same V 1 _))
                 ·intro D V zw1 a hR hI K hK
                  obtain ⟨hM1, hB1, hG1⟩ := hI.1
                  have zd1 := hR.pred 1 (by kernel_rfl)
                  have zF1 : V 1 = .agg #[.int .i64 k, .slice A ws.length c, .int .i64 n, .slice (some ⟨g, off, none⟩) xs.length dd] := hI.2 1 zd1 rfl
                  have zf1 := zF1; clear zF1
                  have ze137 := hR.frame.done (t := 137) (j := 1) (by kernel_rfl) hR.ok zd1
                  rw [if_pos (by rfl)]
                  go_simp
                  refine (HNK.out zw1).mono ?_
                  rintro e zw2 ⟨rfl, hm2⟩
                  exact hK (.bool false) _ (hI.next hR (by kernel_rfl) hm2 (PB.quiet hI.1 hm2 (HGs.out D 2 _ _ (hI.1).g hm2)) (upd_same V 2 _))
                 ·intro D V zw1 a hR hI K hK
                  obtain ⟨hM1, hB1, hG1⟩ := hI.1
                  have zd2 := hR.pred 2 (by kernel_rfl)
                  have zF2 : V 2 = .bool false := hI.2 2 zd2 rfl
                  have zf2 := zF2; clear zF2
                  have ze138 := hR.frame.done (t := 138) (j := 2) (by kernel_rfl) hR.ok zd2
                  rw [if_pos (by rfl)]
                  go_simp
                  exact hK (.bool false) _ (hI.next hR (by kernel_rfl) (Mod.refl _ _) (PB.quiet hI.1 (Mod.refl _ _) (HGs.out D 3 zw1 zw1 (hI.1).g (Mod.refl _ _))) (upd_same V 3 _))
                 ·intro D V zw1 a hR hI K hK
                  obtain ⟨hM1, hB1, hG1⟩ := hI.1
                  have zd3 := hR.pred 3 (by kernel_rfl)
                  have zF3 : V 3 = .bool false := hI.2 3 zd3 rfl
                  have zf3 := zF3; clear zF3
                  have ze1 := hR.frame.other (t := 1) (by kernel_rfl) rfl
                  have ze139 := hR.frame.done (t := 139) (j := 3) (by kernel_rfl) hR.ok zd3
                  rw [if_pos (by simp [Region.wanted, yielded, ze139, zf3])]
                  go_simp
                  exact hK (.bool true) _ (hI.next hR (by kernel_rfl) (Mod.refl _ _) (PB.quiet hI.1 (Mod.refl _ _) (HGs.out D 4 zw1 zw1 (hI.1).g (Mod.refl _ _))) (upd_same V 4 _))
                 ·intro D V zw1 a hR hI K hK
                  obtain ⟨hM1, hB1, hG1⟩ := hI.1
                  have zd4 := hR.pred 4 (by kernel_rfl)
                  have zF4 : V 4 = .bool true := hI.2 4 zd4 rfl
                  have zf4 := zF4; clear zF4
                  have zd3 := hR.pred 3 (by kernel_rfl)
                  have zF3 : V 3 = .bool false := hI.2 3 zd3 rfl
                  have zf3 := zF3; clear zF3
                  have ze140 := hR.frame.done (t := 140) (j := 4) (by kernel_rfl) hR.ok zd4
                  have ze139 := hR.frame.done (t := 139) (j := 3) (by kernel_rfl) hR.ok zd3
                  rw [if_pos (by simp [Region.wanted, yielded, ze139, zf3])]
                  go_simp
                  exact hK (.bool true) _ (hI.next hR (by kernel_rfl) (Mod.refl _ _) (PB.quiet hI.1 (Mod.refl _ _) (HGs.out D 5 zw1 zw1 (hI.1).g (Mod.refl _ _))) (upd_same V 5 _))
                 ·intro D V zw1 a hR hI K hK
                  obtain ⟨hM1, hB1, hG1⟩ := hI.1
                  have zd5 := hR.pred 5 (by kernel_rfl)
                  have zF5 : V 5 = .bool true := hI.2 5 zd5 rfl
                  have zf5 := zF5; clear zF5
                  have ze2 := hR.frame.other (t := 2) (by kernel_rfl) rfl
                  have ze141 := hR.frame.done (t := 141) (j := 5) (by kernel_rfl) hR.ok zd5
                  rw [if_pos (by simp [Region.wanted, yielded, ze141, zf5])]
                  go_simp
                  exact hK (.pointer (some ⟨g0, 0, none⟩)) _ (hI.next hR (by kernel_rfl) (Mod.refl _ _) (PB.quiet hI.1 (Mod.refl _ _) (HGs.out D 6 zw1 zw1 (hI.1).g (Mod.refl _ _))) (upd_same V 6 _))
                 ·intro D V zw1 a hR hI K hK
                  obtain ⟨hM1, hB1, hG1⟩ := hI.1
                  have zd6 := hR.pred 6 (by kernel_rfl)
                  have zF6 : V 6 = .pointer (some ⟨g0, 0, none⟩) := hI.2 6 zd6 rfl
                  have zf6 := zF6; clear zF6
                  have zd5 := hR.pred 5 (by kernel_rfl)
                  have zF5 : V 5 = .bool true := hI.2 5 zd5 rfl
                  have zf5 := zF5; clear zF5
                  have ze142 := hR.frame.done (t := 142) (j := 6) (by kernel_rfl) hR.ok zd6
                  have zx0 := hG1.1.cell 0; have zx1 := hG1.1.cell 1; have zx2 := hG1.1.cell 2; have zx3 := hG1.1.cell 3
                  simp at zx0 zx1 zx2 zx3
                  have ze141 := hR.frame.done (t := 141) (j := 5) (by kernel_rfl) hR.ok zd5
                  rw [if_pos (by simp [Region.wanted, yielded, ze141, zf5])]
                  go_simp
                  exact hK (.int .i64 k) _ (hI.next hR (by kernel_rfl) (Mod.refl _ _) (PB.quiet hI.1 (Mod.refl _ _) (HGs.out D 7 zw1 zw1 (hI.1).g (Mod.refl _ _))) (upd_same V 7 _))
                 ·intro D V zw1 a hR hI K hK
                  obtain ⟨hM1, hB1, hG1⟩ := hI.1
                  have zd7 := hR.pred 7 (by kernel_rfl)
                  have zF7 : V 7 = .int .i64 k := hI.2 7 zd7 rfl
                  have zf7 := zF7; clear zF7
                  have zd5 := hR.pred 5 (by kernel_rfl)
                  have zF5 : V 5 = .bool true := hI.2 5 zd5 rfl
                  have zf5 := zF5; clear zF5
                  have ze143 := hR.frame.done (t := 143) (j := 7) (by kernel_rfl) hR.ok zd7
                  have ze141 := hR.frame.done (t := 141) (j := 5) (by kernel_rfl) hR.ok zd5
                  rw [if_pos (by simp [Region.wanted, yielded, ze141, zf5])]
                  go_simp
                  exact hK (.bool mq) _ (hI.next hR (by kernel_rfl) (Mod.refl _ _) (PB.quiet hI.1 (Mod.refl _ _) (HGs.out D 8 zw1 zw1 (hI.1).g (Mod.refl _ _))) (upd_same V 8 _))
                 ·intro D V zw1 a hR hI K hK
                  obtain ⟨hM1, hB1, hG1⟩ := hI.1
                  have zd5 := hR.pred 5 (by kernel_rfl)
                  have zF5 : V 5 = .bool true := hI.2 5 zd5 rfl
                  have zf5 := zF5; clear zF5
                  have zd8 := hR.pred 8 (by kernel_rfl)
                  have zF8 : V 8 = .bool mq := hI.2 8 zd8 rfl
                  have zf8 := zF8; clear zF8
                  have zd3 := hR.pred 3 (by kernel_rfl)
                  have zF3 : V 3 = .bool false := hI.2 3 zd3 rfl
                  have zf3 := zF3; clear zF3
                  have ze141 := hR.frame.done (t := 141) (j := 5) (by kernel_rfl) hR.ok zd5
                  have ze144 := hR.frame.done (t := 144) (j := 8) (by kernel_rfl) hR.ok zd8
                  have ze139 := hR.frame.done (t := 139) (j := 3) (by kernel_rfl) hR.ok zd3
                  rw [if_pos (by simp [Region.wanted, yielded, ze139, zf3])]
                  go_simp
                  exact hK (.bool mq) _ (hI.next hR (by kernel_rfl) (Mod.refl _ _) (PB.quiet hI.1 (Mod.refl _ _) (HGs.out D 9 zw1 zw1 (hI.1).g (Mod.refl _ _))) (upd_same V 9 _))
                 ·intro D V zw1 a hR hI K hK
                  obtain ⟨hM1, hB1, hG1⟩ := hI.1
                  have zd3 := hR.pred 3 (by kernel_rfl)
                  have zF3 : V 3 = .bool false := hI.2 3 zd3 rfl
                  have zf3 := zF3; clear zF3
                  have zd9 := hR.pred 9 (by kernel_rfl)
                  have zF9 : V 9 = .bool mq := hI.2 9 zd9 rfl
                  have zf9 := zF9; clear zF9
                  have ze139 := hR.frame.done (t := 139) (j := 3) (by kernel_rfl) hR.ok zd3
                  have ze145 := hR.frame.done (t := 145) (j := 9) (by kernel_rfl) hR.ok zd9
                  rw [if_pos (by rfl)]
                  go_simp
                  exact hK (.bool mq) _ (hI.next hR (by kernel_rfl) (Mod.refl _ _) (PB.quiet hI.1 (Mod.refl _ _) (HGs.out D 10 zw1 zw1 (hI.1).g (Mod.refl _ _))) (upd_same V 10 _))
                 ·intro D V zw1 a hR hI K hK
                  obtain ⟨hM1, hB1, hG1⟩ := hI.1
                  have zd0 := hR.pred 0 (by kernel_rfl)
                  have zF0 : V 0 = .agg #[.int .i64 k', .slice A' ws'.length c', .int .i64 n', .slice B' xs'.length dd'] := hI.2 0 zd0 rfl
                  have zf0 := zF0; clear zF0
                  have zd10 := hR.pred 10 (by kernel_rfl)
                  have zF10 : V 10 = .bool mq := hI.2 10 zd10 rfl
                  have zf10 := zF10; clear zF10
                  have ze136 := hR.frame.done (t := 136) (j := 0) (by kernel_rfl) hR.ok zd0
                  have ze146 := hR.frame.done (t := 146) (j := 10) (by kernel_rfl) hR.ok zd10
                  rw [if_pos (by rfl)]
                  go_simp
                  refine (HI.out zw1 hM1).mono ?_
                  rintro e zw2 ⟨rfl, hm2⟩
                  exact hK (.int .i64 er) _ (hI.next hR (by kernel_rfl) hm2 (PB.quiet hI.1 hm2 (HGs.out D 11 _ _ (hI.1).g hm2)) (upd_same V 11 _))
                 ·intro D V zw1 a hR hI K hK
                  obtain ⟨hM1, hB1, hG1⟩ := hI.1
                  have zd11 := hR.pred 11 (by kernel_rfl)
                  have zF11 : V 11 = .int .i64 er := hI.2 11 zd11 rfl
                  have zf11 := zF11; clear zF11
                  have ze147 := hR.frame.done (t := 147) (j := 11) (by kernel_rfl) hR.ok zd11
                  rw [if_pos (by rfl)]
                  go_simp
                  exact hK (.int .i64 er) _ (hI.next hR (by kernel_rfl) (Mod.refl _ _) (PB.quiet hI.1 (Mod.refl _ _) (HGs.out D 12 zw1 zw1 (hI.1).g (Mod.refl _ _))) (upd_same V 12 _))
                ·intro D V w9 hD hI
                 obtain ⟨hM1, hB1, hG1⟩ := hI.1
                 have hMx := hM1
                 clear hM1
                 have hBx := hB1
                 clear hB1
                 have hGx := hG1
                 clear hG1
                 have zF0 : V 0 = .agg #[.int .i64 k', .slice A' ws'.length c', .int .i64 n', .slice B' xs'.length dd'] := hI.2 0 (hD 0 (by decide)) rfl
                 have zf0 := zF0; clear zF0
                 have zF1 : V 1 = .agg #[.int .i64 k, .slice A ws.length c, .int .i64 n, .slice (some ⟨g, off, none⟩) xs.length dd] := hI.2 1 (hD 1 (by decide)) rfl
                 have zf1 := zF1; clear zF1
                 have zF2 : V 2 = .bool false := hI.2 2 (hD 2 (by decide)) rfl
                 have zf2 := zF2; clear zF2
                 have zF3 : V 3 = .bool false := hI.2 3 (hD 3 (by decide)) rfl
                 have zf3 := zF3; clear zF3
                 have zF4 : V 4 = .bool true := hI.2 4 (hD 4 (by decide)) rfl
                 have zf4 := zF4; clear zF4
                 have zF5 : V 5 = .bool true := hI.2 5 (hD 5 (by decide)) rfl
                 have zf5 := zF5; clear zF5
                 have zF6 : V 6 = .pointer (some ⟨g0, 0, none⟩) := hI.2 6 (hD 6 (by decide)) rfl
                 have zf6 := zF6; clear zF6
                 have zF7 : V 7 = .int .i64 k := hI.2 7 (hD 7 (by decide)) rfl
                 have zf7 := zF7; clear zF7
                 have zF8 : V 8 = .bool mq := hI.2 8 (hD 8 (by decide)) rfl
                 have zf8 := zF8; clear zF8
                 have zF9 : V 9 = .bool mq := hI.2 9 (hD 9 (by decide)) rfl
                 have zf9 := zF9; clear zF9
                 have zF10 : V 10 = .bool mq := hI.2 10 (hD 10 (by decide)) rfl
                 have zf10 := zF10; clear zF10
                 have zF11 : V 11 = .int .i64 er := hI.2 11 (hD 11 (by decide)) rfl
                 have zf11 := zF11; clear zF11
                 have zF12 : V 12 = .int .i64 er := hI.2 12 (hD 12 (by decide)) rfl
                 have zf12 := zF12; clear zF12
                 clear hI hD HGs
                 simp only [frAll, Act.put, List.setIfInBounds_toArray, List.set_cons_zero, List.set_cons_succ, Nat.zero_add, Nat.reduceAdd, zf0, zf1, zf2, zf3, zf4, zf5, zf6, zf7, zf8, zf9, zf10, zf11, zf12]
                 clear zf0 zf1 zf2 zf3 zf4 zf5 zf6 zf7 zf8 zf9 zf10 zf11 zf12
                 clear V D
                 have HP9 : Hid (Pure w w9) := Lib.hid (HP6.out.trans hMx)
                 have HM9 : Hid (Pure w5 w9) := Lib.hid ((HM5.out).trans hMx)
                 clear hGx hMx hBx HI HX6 HB6 HP6 HM5
                 by_cases he0 : er = 0
                 ·subst he0
                  have HS := Lib.hid (HAT.out.2 rfl)
                  clear HAT HFS
                  go_wp2_with fail
                  go_roundg (xs.length - (j + 1))
                  case measure => omega
                  case rel => exact ⟨j + 1, rfl, by omega, by simp, HS.out, HM9.out⟩
                 ·have hen : (er != 0) = true := by simpa using he0
                  have HR : Hid (fl = er) := Lib.hid (HFL.out.trans (HAT.out.1 he0))
                  clear HAT HFS HFL HQ HQB HQX he0
                  go_wp2_with fail
                  try simp only [Exit.inBlock, Exit.then]
                  refine bodyPost_ret (v := .int .i64 er) (by simp [results, Tryz.results108, go_sem]) rfl ?_
                  rw [HR.out]
                  exact ⟨rfl, HP9.out⟩
             ·obtain rfl : j = xs.length := by omega
              have e := HFS.out
              rw [List.take_of_length_le (by simp)] at e
              have HR : Hid (fl = 0) := Lib.hid (HFL.out.trans e)
              have hjj2 : ¬ ((xs.length : Nat) : Int) < (xs.length : Int) := by omega
              clear e HFS HFL HQ HQB HQX HIH HNK HMQ
              go_wp2_with fail
              try simp only [Exit.inBlock, Exit.then]
              refine bodyPost_ret (v := .int .i64 0) (by simp [results, Tryz.results108, go_sem]) rfl ?_
              rw [HR.out]
              exact ⟨rfl, HM.out⟩

end Go.Proofs.YtnfflgicngeekaaGreatDoor

/- What a kind of searches uses: the reference. -/
namespace Go.Proofs.YtnfflgicngeekaaGreatDoor
set_option linter.unusedVariables false
set_option linter.unusedSimpArgs false
open Go.RowKit

def shQ (U : UseQ) : Value := .agg #[.int .i64 (U.w0 : Int), .int .i64 (U.w1 : Int), .int .i64 (U.a0 : Int), .int .i64 (U.a1 : Int), .bool U.nb]
theorem zero_shape (W : World) : (zeroValue 201).run Tryz.prog W = .ok (.agg #[.int .i64 0, .int .i64 0, .int .i64 0, .int .i64 0, .bool false]) W := by kernel_rfl
def shF (x : Int) : Option Value := if x = 13 then some (.agg #[.int .i64 0, .int .i64 0, .int .i64 0, .int .i64 0, .bool true]) else if x = 12 then some (.agg #[.int .i64 0, .int .i64 0, .int .i64 0, .int .i64 0, .bool true]) else if x = 11 then some (.agg #[.int .i64 1, .int .i64 1, .int .i64 0, .int .i64 0, .bool false]) else if x = 10 then some (.agg #[.int .i64 0, .int .i64 0, .int .i64 0, .int .i64 0, .bool true]) else if x = 9 then some (.agg #[.int .i64 1, .int .i64 1, .int .i64 0, .int .i64 0, .bool false]) else if x = 8 then some (.agg #[.int .i64 0, .int .i64 0, .int .i64 1, .int .i64 1, .bool false]) else if x = 7 then some (.agg #[.int .i64 0, .int .i64 0, .int .i64 2, .int .i64 1073741824, .bool false]) else if x = 6 then some (.agg #[.int .i64 0, .int .i64 0, .int .i64 2, .int .i64 1073741824, .bool false]) else if x = 5 then some (.agg #[.int .i64 0, .int .i64 0, .int .i64 2, .int .i64 2, .bool true]) else if x = 4 then some (.agg #[.int .i64 0, .int .i64 0, .int .i64 2, .int .i64 2, .bool true]) else if x = 3 then some (.agg #[.int .i64 2, .int .i64 10, .int .i64 0, .int .i64 0, .bool false]) else if x = 2 then some (.agg #[.int .i64 1, .int .i64 1, .int .i64 0, .int .i64 0, .bool false]) else if x = 1 then some (.agg #[.int .i64 0, .int .i64 0, .int .i64 0, .int .i64 0, .bool false]) else none
theorem shF_get (k : Int) : (shF k).getD (.agg #[.int .i64 0, .int .i64 0, .int .i64 0, .int .i64 0, .bool false]) = shQ (useQ 1073741824 k) := by
 by_cases h : 1 ≤ k ∧ k ≤ 13
 ·obtain rfl | rfl | rfl | rfl | rfl | rfl | rfl | rfl | rfl | rfl | rfl | rfl | rfl : k = 1 ∨ k = 2 ∨ k = 3 ∨ k = 4 ∨ k = 5 ∨ k = 6 ∨ k = 7 ∨ k = 8 ∨ k = 9 ∨ k = 10 ∨ k = 11 ∨ k = 12 ∨ k = 13 := by omega
  all_goals rfl
 ·have e1 : shF k = none := by
   unfold shF
   rw [if_neg (by omega), if_neg (by omega), if_neg (by omega), if_neg (by omega), if_neg (by omega), if_neg (by omega), if_neg (by omega), if_neg (by omega), if_neg (by omega), if_neg (by omega), if_neg (by omega), if_neg (by omega), if_neg (by omega)]
  have e2 : useQ 1073741824 k = ⟨0, 0, 0, 0, false⟩ := by
   unfold useQ
   rw [if_neg (by omega), if_neg (by omega), if_neg (by omega), if_neg (by omega), if_neg (by omega), if_neg (by omega)]
  rw [e1, e2]
  rfl

set_option maxRecDepth 100000 in
set_option maxHeartbeats 8000000 in
theorem shapeOf_calls (w : World) (k : Int) (hk : (Lit.int .i64 k).wf = true) : Calls Tryz.prog 173 #[.int .i64 k] w (fun e w' => e = .returned (shQ (useQ 1073741824 k)) ∧ Pure w w') := by
 have hmm := @run_makeMap Tryz.prog
 have h0 := MapI.made (w.alloc (.cells #[.int .i64 0, .int .i64 0, .int .i64 0, .int .i64 0, .bool false] 201))
 have hp0 := (pure_alloc w (.cells #[.int .i64 0, .int .i64 0, .int .i64 0, .int .i64 0, .bool false] 201)).alloc (.map #[] 0)
 have hB0 := (Blk.new w 201 #[.int .i64 0, .int .i64 0, .int .i64 0, .int .i64 0, .bool false]).alloc (.map #[] 0)
 rw [World.size_alloc] at h0
 have hne : w.heap.size ≠ w.heap.size + 1 := by omega
 obtain ⟨w1, r1, h1, m1⟩ := h0.store Tryz.underlying247 (by omega) 1 (by decide) (.agg #[.int .i64 0, .int .i64 0, .int .i64 0, .int .i64 0, .bool false])
 obtain ⟨w2, r2, h2, m2⟩ := h1.store Tryz.underlying247 (by omega) 2 (by decide) (.agg #[.int .i64 1, .int .i64 1, .int .i64 0, .int .i64 0, .bool false])
 obtain ⟨w3, r3, h3, m3⟩ := h2.store Tryz.underlying247 (by omega) 3 (by decide) (.agg #[.int .i64 2, .int .i64 10, .int .i64 0, .int .i64 0, .bool false])
 obtain ⟨w4, r4, h4, m4⟩ := h3.store Tryz.underlying247 (by omega) 4 (by decide) (.agg #[.int .i64 0, .int .i64 0, .int .i64 2, .int .i64 2, .bool true])
 obtain ⟨w5, r5, h5, m5⟩ := h4.store Tryz.underlying247 (by omega) 5 (by decide) (.agg #[.int .i64 0, .int .i64 0, .int .i64 2, .int .i64 2, .bool true])
 obtain ⟨w6, r6, h6, m6⟩ := h5.store Tryz.underlying247 (by omega) 6 (by decide) (.agg #[.int .i64 0, .int .i64 0, .int .i64 2, .int .i64 1073741824, .bool false])
 obtain ⟨w7, r7, h7, m7⟩ := h6.store Tryz.underlying247 (by omega) 7 (by decide) (.agg #[.int .i64 0, .int .i64 0, .int .i64 2, .int .i64 1073741824, .bool false])
 obtain ⟨w8, r8, h8, m8⟩ := h7.store Tryz.underlying247 (by omega) 8 (by decide) (.agg #[.int .i64 0, .int .i64 0, .int .i64 1, .int .i64 1, .bool false])
 obtain ⟨w9, r9, h9, m9⟩ := h8.store Tryz.underlying247 (by omega) 9 (by decide) (.agg #[.int .i64 1, .int .i64 1, .int .i64 0, .int .i64 0, .bool false])
 obtain ⟨w10, r10, h10, m10⟩ := h9.store Tryz.underlying247 (by omega) 10 (by decide) (.agg #[.int .i64 0, .int .i64 0, .int .i64 0, .int .i64 0, .bool true])
 obtain ⟨w11, r11, h11, m11⟩ := h10.store Tryz.underlying247 (by omega) 11 (by decide) (.agg #[.int .i64 1, .int .i64 1, .int .i64 0, .int .i64 0, .bool false])
 obtain ⟨w12, r12, h12, m12⟩ := h11.store Tryz.underlying247 (by omega) 12 (by decide) (.agg #[.int .i64 0, .int .i64 0, .int .i64 0, .int .i64 0, .bool true])
 obtain ⟨w13, r13, h13, m13⟩ := h12.store Tryz.underlying247 (by omega) 13 (by decide) (.agg #[.int .i64 0, .int .i64 0, .int .i64 0, .int .i64 0, .bool true])
 have mm := ((((((((((((m1.trans m2).trans m3).trans m4).trans m5).trans m6).trans m7).trans m8).trans m9).trans m10).trans m11).trans m12).trans m13)
 have hf : MapI w13 (w.heap.size + 1) (0 + 13) shF := h13
 have hl := hf.lookup Tryz.underlying247 zero_shape k hk
 rw [shF_get] at hl
 unfold shQ at hl
 have hB := hB0.mod mm hne
 have HP : Hid (Pure w w13) := Lib.hid (hp0.trans' mm (fun i hi hlt => by omega))
 clear h0 h1 h2 h3 h4 h5 h6 h7 h8 h9 h10 h11 h12 h13 hf m1 m2 m3 m4 m5 m6 m7 m8 m9 m10 m11 m12 m13 mm hB0 hp0
 generalize hU : useQ 1073741824 k = U at *
 have HB := Lib.hid hB
 have x0 := hB.cell 0; have xf0 := hB.frozen 0; have x1 := hB.cell 1; have xf1 := hB.frozen 1; have x2 := hB.cell 2; have xf2 := hB.frozen 2; have x3 := hB.cell 3; have xf3 := hB.frozen 3; have x4 := hB.cell 4; have xf4 := hB.frozen 4; simp at x0 x1 x2 x3 x4
 clear hU hB
 go_enter Tryz.func173, Tryz.ntmps173
 go_wp2_with fail
 have hs := ((((HB.out.set 0 (.int .i64 (U.w0 : Int))).set 1 (.int .i64 (U.w1 : Int))).set 2 (.int .i64 (U.a0 : Int))).set 3 (.int .i64 (U.a1 : Int))).set 4 (.bool U.nb)
 have HPF : Hid (Pure w (World.setCell (World.setCell (World.setCell (World.setCell (World.setCell w13 ⟨w.heap.size, 0, none⟩ (.int .i64 (U.w0 : Int))) ⟨w.heap.size, 1, none⟩ (.int .i64 (U.w1 : Int))) ⟨w.heap.size, 2, none⟩ (.int .i64 (U.a0 : Int))) ⟨w.heap.size, 3, none⟩ (.int .i64 (U.a1 : Int))) ⟨w.heap.size, 4, none⟩ (.bool U.nb))) := Lib.hid (((((HP.out.setCell (.inr (Nat.le_refl _)) _).setCell (.inr (Nat.le_refl _)) _).setCell (.inr (Nat.le_refl _)) _).setCell (.inr (Nat.le_refl _)) _).setCell (.inr (Nat.le_refl _)) _)
 have u0 := hs.cell 0; have u1 := hs.cell 1; have u2 := hs.cell 2; have u3 := hs.cell 3; have u4 := hs.cell 4; simp at u0 u1 u2 u3 u4
 refine bodyPost_ret (v := .agg #[.int .i64 (U.w0 : Int), .int .i64 (U.w1 : Int), .int .i64 (U.a0 : Int), .int .i64 (U.a1 : Int), .bool U.nb]) (by simp [results, Tryz.results173, go_sem, u0, u1, u2, u3, u4]) rfl ?_
 exact ⟨rfl, HPF.out⟩

end Go.Proofs.YtnfflgicngeekaaGreatDoor

/- What is wrong with a search: the reference. -/
namespace Go.Proofs.YtnfflgicngeekaaGreatDoor
set_option linter.unusedVariables false
set_option linter.unusedSimpArgs false
open Go.RowKit

set_option maxRecDepth 100000 in
set_option maxHeartbeats 4000000 in
theorem rbyWords_calls (w : World) (k : Int) : Calls Tryz.prog 172 #[.int .i64 k] w (BoolSame w (byWK k)) := by
 have e : byWK k = (decide (2 ≤ k ∧ k ≤ 5) || decide (k = 7)) := by
  rw [Bool.eq_iff_iff]
  simp [byWK, nearK]
  omega
 rw [e]
 clear e
 have HI : Hid (∀ W, Calls Tryz.prog 69 #[.int .i64 k, .int .i64 2, .int .i64 5] W (BoolSame W (decide (2 ≤ k ∧ k ≤ 5)))) := Lib.hid (fun W => (rin_calls _ _ _ W).mono (fun e w' h => ⟨by rw [h.1, inB_eq], h.2⟩))
 generalize decide (2 ≤ k ∧ k ≤ 5) = b1 at *
 obtain ⟨r, hr⟩ : ∃ r, (b1 || decide (k = 7)) = r := ⟨_, rfl⟩
 rw [hr]
 go_enter Tryz.func172, Tryz.ntmps172
 go_wp2_with fail
 refine (HI.out w).mono ?_
 rintro e2 w' ⟨rfl, rfl⟩
 cases b1
 ·rw [Bool.false_or] at hr
  by_cases h7 : k = 7
  ·rw [decide_eq_true h7] at hr
   subst hr h7
   go_wp2_with fail
   go_ret
   exact ⟨rfl, rfl⟩
  ·have h7i : (k == 7) = false := by simpa using h7
   rw [decide_eq_false h7] at hr
   subst hr
   go_wp2_with fail
   go_ret
   exact ⟨rfl, rfl⟩
 ·rw [Bool.true_or] at hr
  subst hr
  go_wp2_with fail
  go_ret
  exact ⟨rfl, rfl⟩
theorem wf_i64 {k : Int} (h1 : -4000000000000 ≤ k) (h2 : k ≤ 4000000000000) : (Lit.int .i64 k).wf = true := by
 have a : IntKind.i64.min = -9223372036854775808 := rfl
 have b : IntKind.i64.max = 9223372036854775807 := rfl
 simp [Lit.wf, a, b]
 omega
def resL : List Str := [[97, 108, 108], [97, 110, 100], [111, 114], [110, 111, 116]]
theorem resvB_mem (s : Str) : decide (s ∈ resL) = resvB s := by
 rw [Bool.eq_iff_iff]
 simp [resL, resvB]

set_option maxRecDepth 100000 in
set_option maxHeartbeats 8000000 in
theorem faultAt_calls : ∀ (qr : QR) (w : World) (must : Bool), QS w qr → QB 1000 qr.key → Calls Tryz.prog 106 #[qA qr, .bool must] w (IntPost w (fltQ 1073741824 must qr.key)) := by
 refine QR.ind (fun k A c ws n B dd xs ih => ?_)
 intro w must hQ hB
 have HIH := Lib.hid ih
 rw [QR.key_mk] at hB ⊢
 have HQ := Lib.hid hQ
 have hql := hB.xsH
 have hkn := hB.knH
 have hwl := hB.wsH.1
 have HWL := Lib.hid hB.wsH.2
 have HQB := Lib.hid hB.allH
 rw [List.length_map] at hql
 have HQX := Lib.hid hQ.xsH
 have HQW := Lib.hid hQ.wsH
 have hB0 := Blk.new w 29 #[.int .i64 k, .slice A ws.length c, .int .i64 n, .slice B xs.length dd]
 have hP0 := pure_alloc w (.cells #[.int .i64 k, .slice A ws.length c, .int .i64 n, .slice B xs.length dd] 29)
 have HBW := Lib.hid (fun W => rbyWords_calls W k)
 obtain ⟨fl, hfl⟩ : ∃ fl, fltQ 1073741824 must (.mk k ws n (xs.map QR.key)) = fl := ⟨_, rfl⟩
 rw [hfl]
 have F4 := Lib.hid (fun h => (flt_4 (M := 1073741824) (must := must) (ws := ws) (n := n) (xs := xs.map QR.key) (k := k) h).symm.trans hfl)
 have F10 := Lib.hid (fun h h1 => (flt_10 (M := 1073741824) (must := must) (ws := ws) (n := n) (xs := xs.map QR.key) (k := k) h h1).symm.trans hfl)
 have F3 := Lib.hid (fun h h1 h2 => (flt_3 (M := 1073741824) (must := must) (ws := ws) (n := n) (xs := xs.map QR.key) (k := k) h h1 h2).symm.trans hfl)
 have F5 := Lib.hid (fun h h1 h2 h3 => (flt_5 (M := 1073741824) (must := must) (ws := ws) (n := n) (xs := xs.map QR.key) (k := k) h h1 h2 h3).symm.trans hfl)
 have FN := Lib.hid (fun h h1 h2 h3 h4 => (flt_n (M := 1073741824) (must := must) (ws := ws) (n := n) (xs := xs.map QR.key) (k := k) h h1 h2 h3 h4).symm.trans hfl)
 have F0 := Lib.hid (fun h h1 h2 h3 h4 => (flt_0 (M := 1073741824) (must := must) (ws := ws) (n := n) (xs := xs.map QR.key) (k := k) h h1 h2 h3 h4).symm.trans hfl)
 rw [List.length_map] at F3 F5 FN F0
 have HUS := Lib.hid (fun W => shapeOf_calls W k (wf_i64 hkn.1 hkn.2.1))
 have HFM : Hid (formB 1073741824 k ws.length n xs.length = (((useQ 1073741824 k).nb || decide (n = 0)) && (decide ((useQ 1073741824 k).w0 ≤ ws.length ∧ ws.length ≤ (useQ 1073741824 k).w1) && decide ((useQ 1073741824 k).a0 ≤ xs.length ∧ xs.length ≤ (useQ 1073741824 k).a1)))) := Lib.hid rfl
 obtain ⟨fm, hfm⟩ : ∃ fm, formB 1073741824 k ws.length n xs.length = fm := ⟨_, rfl⟩
 rw [hfm] at F3 F5 FN F0 HFM
 generalize useQ 1073741824 k = U at *
 generalize fltQ 1073741824 = FL at *
 obtain ⟨u0, u1, u2, u3, nb⟩ := U
 unfold shQ at HUS
 simp only at HFM HUS
 have HII : Hid (∀ (W : World) (x a b : Int), Calls Tryz.prog 69 #[.int .i64 x, .int .i64 a, .int .i64 b] W (BoolSame W (decide (a ≤ x ∧ x ≤ b)))) := Lib.hid (fun W x a b => (rin_calls _ _ _ W).mono (fun e w' h => ⟨by rw [h.1, inB_eq], h.2⟩))
 show Calls Tryz.prog 106 #[.agg #[.int .i64 k, .slice A ws.length c, .int .i64 n, .slice B xs.length dd], .bool must] w (IntPost w fl)
 clear hQ hB ih hfl hfm
 go_enter Tryz.func106, Tryz.ntmps106
 go_upto_region 1 with (fail)
 generalize (w.alloc (.cells #[.int .i64 k, .slice A ws.length c, .int .i64 n, .slice B xs.length dd] 29)) = w1 at *
 generalize hg0 : w.heap.size = g0 at *
 have hwg : w.heap.size ≤ g0 := Nat.le_of_eq hg0
 clear hg0
 have HB1 := Lib.hid hB0
 have HP1 : Hid (Pure w w1) := Lib.hid hP0
 have x0 := hB0.cell 0; have x1 := hB0.cell 1; have x2 := hB0.cell 2; have x3 := hB0.cell 3; simp at x0 x1 x2 x3
 clear hB0 hP0
 obtain ⟨is, his⟩ : ∃ is, decide (1 ≤ k ∧ k ≤ 13) = is := ⟨_, rfl⟩
 have HIS : Hid (isK k = is) := Lib.hid his
 have HI0 := Lib.hid (HII.out w1 k 1 13)
 rw [his] at HI0
 clear his
 go_wp2_with fail
 refine HI0.out.mono ?_
 rintro e w2 ⟨rfl, rfl⟩
 clear HI0
 cases is with
 | false =>
  have HR := Lib.hid (F4.out HIS.out)
  clear F4 F10 F3 F5 FN F0 HIH HQ HQB HQX HQW HWL HFM
  go_wp2_with fail
  try simp only [Exit.inBlock, Exit.then]
  refine bodyPost_ret (v := .int .i64 4) (by simp [results, Tryz.results106, go_sem]) rfl ?_
  rw [← HR.out]
  exact ⟨rfl, HP1.out⟩
 | true =>
  have his := HIS.out
  clear F4 HIS
  obtain ⟨c1, hc1⟩ : ∃ c1, (must && !byWK k) = c1 := ⟨_, rfl⟩
  rw [hc1] at F10 F3 F5 FN F0
  go_upto_region 3 with (fail)
  go_cut [22] from 16 to 21 (fun p wx => p = .bool c1 ∧ w1 = wx)
  case first =>
   clear F10 F3 F5 FN F0 HIH HQ HQB HQX HQW HWL HFM
   cases must with
   | false =>
    obtain rfl : false = c1 := hc1
    go_wp2_with fail
    go_meet
    exact ⟨rfl, rfl⟩
   | true =>
    obtain ⟨bw, hbw⟩ : ∃ bw, byWK k = bw := ⟨_, rfl⟩
    rw [hbw] at HBW hc1
    obtain rfl : (!bw) = c1 := hc1
    clear hbw
    go_wp2_with fail
    refine (HBW.out w1).mono ?_
    rintro e w4 ⟨rfl, rfl⟩
    go_wp2_with fail
    go_meet
    exact ⟨by first | rfl | simp, rfl⟩
  case rest =>
   obtain ⟨rfl, rfl⟩ := hcut
   clear HBW
   cases c1 with
   | true =>
    have HR := Lib.hid (F10.out his (by first | rfl | trivial))
    clear F10 F3 F5 FN F0 HIH HQ HQB HQX HQW HWL HFM hc1
    go_wp2_with fail
    try simp only [Exit.inBlock, Exit.then]
    refine bodyPost_ret (v := .int .i64 10) (by simp [results, Tryz.results106, go_sem]) rfl ?_
    rw [← HR.out]
    exact ⟨rfl, HP1.out⟩
   | false =>
    clear F10 hc1
    go_wp2_with fail
    refine (HUS.out w1).mono ?_
    rintro e w2 ⟨rfl, hm⟩
    have hb2 := (HB1.out.modp hm).alloc (.cells #[.int .i64 (u0 : Int), .int .i64 (u1 : Int), .int .i64 (u2 : Int), .int .i64 (u3 : Int), .bool nb] 201)
    have hs2 := Blk.new w2 201 #[.int .i64 (u0 : Int), .int .i64 (u1 : Int), .int .i64 (u2 : Int), .int .i64 (u3 : Int), .bool nb]
    have hp2 := (HP1.out.trans hm).alloc (.cells #[.int .i64 (u0 : Int), .int .i64 (u1 : Int), .int .i64 (u2 : Int), .int .i64 (u3 : Int), .bool nb] 201)
    clear x0 x1 x2 x3 hm HUS HB1 HP1
    go_upto_region 6 with (fail)
    generalize (w2.alloc (.cells #[.int .i64 (u0 : Int), .int .i64 (u1 : Int), .int .i64 (u2 : Int), .int .i64 (u3 : Int), .bool nb] 201)) = w4 at *
    generalize w2.heap.size = g5 at *
    have HB4 := Lib.hid hb2
    have HP4 : Hid (Pure w w4) := Lib.hid hp2
    have x0 := hb2.cell 0; have x1 := hb2.cell 1; have x2 := hb2.cell 2; have x3 := hb2.cell 3; simp at x0 x1 x2 x3
    have y0 := hs2.cell 0; have y1 := hs2.cell 1; have y2 := hs2.cell 2; have y3 := hs2.cell 3; have y4 := hs2.cell 4; simp at y0 y1 y2 y3 y4
    clear hb2 hs2 hp2
    go_cut [55] from 26 to 54 (fun p wx => p = .bool (!fm) ∧ w4 = wx)
    case first =>
     have e := HFM.out
     clear F3 F5 FN F0 HIH HQ HQB HQX HQW HWL HFM
     have I1 := Lib.hid (HII.out w4 (ws.length : Int) (u0 : Int) (u1 : Int))
     have I2 := Lib.hid (HII.out w4 (xs.length : Int) (u2 : Int) (u3 : Int))
     rw [show decide ((u0 : Int) ≤ (ws.length : Int) ∧ (ws.length : Int) ≤ (u1 : Int)) = decide (u0 ≤ ws.length ∧ ws.length ≤ u1) by simp only [decide_eq_decide]; omega] at I1
     rw [show decide ((u2 : Int) ≤ (xs.length : Int) ∧ (xs.length : Int) ≤ (u3 : Int)) = decide (u2 ≤ xs.length ∧ xs.length ≤ u3) by simp only [decide_eq_decide]; omega] at I2
     generalize decide (u0 ≤ ws.length ∧ ws.length ≤ u1) = b1 at *
     generalize decide (u2 ≤ xs.length ∧ xs.length ≤ u3) = b2 at *
     clear HII
     go_wp2_with fail
     refine I1.out.mono ?_
     rintro e2 w5 ⟨rfl, rfl⟩
     cases b1
     ·rw [Bool.false_and, Bool.and_false] at e
      subst e
      go_wp2_with fail
      go_meet
      exact ⟨rfl, rfl⟩
     ·go_wp2_with fail
      refine I2.out.mono ?_
      rintro e2 w5 ⟨rfl, rfl⟩
      cases b2
      ·rw [Bool.and_false, Bool.and_false] at e
       subst e
       go_wp2_with fail
       go_meet
       exact ⟨rfl, rfl⟩
      ·rw [Bool.and_true, Bool.and_true] at e
       cases nb
       ·rw [Bool.false_or] at e
        by_cases hn0 : n = 0
        ·rw [decide_eq_true hn0] at e
         subst e hn0
         go_wp2_with fail
         go_meet
         exact ⟨rfl, rfl⟩
        ·rw [decide_eq_false hn0] at e
         have hni : (n != 0) = true := by simpa using hn0
         subst e
         go_wp2_with fail
         go_meet
         exact ⟨rfl, rfl⟩
       ·rw [Bool.true_or] at e
        subst e
        go_wp2_with fail
        go_meet
        exact ⟨rfl, rfl⟩
    case rest =>
     obtain ⟨rfl, rfl⟩ := hcut
     clear HFM y0 y1 y2 y3 y4
     cases fm with
     | false =>
      have HR := Lib.hid (F3.out his (by first | rfl | trivial) (by first | rfl | trivial))
      clear F3 F5 FN F0 HIH HQ HQB HQX HQW HWL
      go_wp2_with fail
      try simp only [Exit.inBlock, Exit.then]
      refine bodyPost_ret (v := .int .i64 3) (by simp [results, Tryz.results106, go_sem]) rfl ?_
      rw [← HR.out]
      exact ⟨rfl, HP4.out⟩
     | true =>
      clear F3
      go_wp2_with fail
      go_loopg [59] ws.length (fun gk i wr => ∃ j : Nat, ws.length - j = gk ∧ j ≤ ws.length ∧ i = .int .i64 (j : Int) ∧ (ws.take j).any (wordBad k) = false ∧ Pure w4 wr)
      case atStart => exact ⟨0, by omega, by omega, rfl, by simp, Mod.refl _ _⟩
      case round =>
       obtain ⟨j, rfl, hj, rfl, hany, hm⟩ := hrel
       have HM : Hid (Pure w wr) := Lib.hid (HP4.out.trans hm)
       have HM4 : Hid (Pure w4 wr) := Lib.hid hm
       have HBR := Lib.hid (HB4.out.modp hm)
       clear x0 x1 x2 x3 hm
       by_cases hlt : j < ws.length
       ·obtain ⟨gW, oW, hAA, hrow⟩ := (HQW.out.pure HM.out).rowS (by omega)
        obtain rfl := hAA
        have hq := hrow.cell (strsV_get ws j hlt)
        have hwl1 := HWL.out ws[j] (List.getElem_mem hlt)
        have HBAD : Hid (wordBad k ws[j] = true → ws.any (wordBad k) = true) := Lib.hid (fun h => List.any_eq_true.2 ⟨_, List.getElem_mem hlt, h⟩)
        have HGOOD : Hid (wordBad k ws[j] = false → (ws.take (j + 1)).any (wordBad k) = false) := Lib.hid (fun h => by
         rw [List.take_succ_eq_append_getElem hlt, List.any_append, hany]
         simp [h])
        have HKY := Lib.hid (fun W => rkey_calls W ⟨ws[j].toArray⟩ (by have : (⟨ws[j].toArray⟩ : ByteArray).size = ws[j].length := rfl; omega))
        have HPT := Lib.hid (fun W => patternIs_calls W ws[j] (by omega))
        have HRV := Lib.hid (fun W g (h : Blk W g 9 (strsV resL).toArray) => containsM_calls W (.slice (some ⟨g, 0, none⟩) 4 4) resL ws[j] (resvB ws[j]) (resvB_mem _) ⟨_, _, _, rfl, Nat.le_refl _, by omega, by rfl, fun _ => ⟨g, 0, rfl, h.row0⟩⟩)
        have HWB : Hid (wordBad k ws[j] = if k = 9 then !keyB ws[j] else !patB ws[j] || (decide (k = 2) && resvB ws[j])) := Lib.hid rfl
        rw [show keyB (⟨ws[j].toArray⟩ : ByteArray).data.toList = keyB ws[j] from rfl] at HKY
        generalize wordBad k ws[j] = wb at *
        generalize keyB ws[j] = kb at *
        generalize patB ws[j] = pb at *
        generalize resvB ws[j] = rb at *
        generalize ws[j] = sx at *
        have hji : ((j : Nat) : Int) < (ws.length : Int) := by omega
        have hbr := HBR.out
        clear hrow hany
        go_upto_region 11 with (fail)
        clear hq
        go_wp2_with fail
        refine (HPT.out wr).mono ?_
        rintro e2 w5 ⟨rfl, hm5⟩
        have hb5 := hbr.modp hm5
        have HM5 : Hid (Pure wr w5) := Lib.hid hm5
        have HB5 := Lib.hid hb5
        have x0 := hb5.cell 0; have x1 := hb5.cell 1; have x2 := hb5.cell 2; have x3 := hb5.cell 3; simp at x0 x1 x2 x3
        clear hb5 hbr hm5
        go_upto_block 2 with (fail)
        go_cut [8] (fun v wx => v = .bool (!wb) ∧ Pure wr wx)
        case first =>
         have e := HWB.out
         clear F5 FN F0 HIH HQ HQB HQX HQW HWL HBAD HGOOD
         by_cases h9 : k = 9
         ·rw [if_pos h9] at e
          subst h9
          go_wp2_with fail
          refine (HKY.out w5).mono ?_
          rintro e2 w6 ⟨rfl, hm6⟩
          have HM6 := Lib.hid (HM5.out.trans hm6)
          clear hm6
          subst e
          go_wp2_with fail
          go_meet
          exact ⟨by cases kb <;> rfl, HM6.out⟩
         ·rw [if_neg h9] at e
          have h9i : (k == 9) = false := by simpa using h9
          by_cases h2 : k = 2
          ·rw [decide_eq_true h2, Bool.true_and] at e
           subst h2
           cases pb
           ·obtain rfl : wb = true := e
            go_wp2_with fail
            go_meet
            exact ⟨rfl, HM5.out⟩
           ·rw [Bool.not_true, Bool.false_or] at e
            subst e
            have HC := Lib.hid (HRV.out (w5.alloc (.cells (strsV resL).toArray 9)) w5.heap.size (Blk.new _ _ _))
            have HPA := Lib.hid (pure_alloc w5 (.cells (strsV resL).toArray 9))
            have hres : (strsV resL).toArray = #[.string ⟨#[97, 108, 108]⟩, .string ⟨#[97, 110, 100]⟩, .string ⟨#[111, 114]⟩, .string ⟨#[110, 111, 116]⟩] := rfl
            rw [hres] at HC HPA
            clear hres
            go_wp2_with fail
            refine HC.out.mono ?_
            rintro e2 w6 ⟨rfl, hm6⟩
            have HM6 := Lib.hid ((HM5.out.trans HPA.out).trans hm6)
            clear hm6 HC HPA
            go_wp2_with fail
            go_meet
            exact ⟨rfl, HM6.out⟩
          ·rw [decide_eq_false h2, Bool.false_and, Bool.or_false] at e
           have h2i : (k == 2) = false := by simpa using h2
           subst e
           go_wp2_with fail
           go_meet
           exact ⟨by cases pb <;> rfl, HM5.out⟩
        case rest =>
         obtain ⟨rfl, hmc⟩ := hcut
         have HMC : Hid (Pure w wc) := Lib.hid (HM.out.trans hmc)
         have HMC4 : Hid (Pure w4 wc) := Lib.hid (HM4.out.trans hmc)
         clear HKY HPT HRV HWB hmc x0 x1 x2 x3 HB5 HM5
         cases wb with
         | true =>
          have HR := Lib.hid (F5.out his (by first | rfl | trivial) (by first | rfl | trivial) (HBAD.out rfl))
          clear F5 FN F0 HIH HQ HQB HQX HQW HWL HBAD HGOOD
          go_wp2_with fail
          try simp only [Exit.inBlock, Exit.then]
          refine bodyPost_ret (v := .int .i64 5) (by simp [results, Tryz.results106, go_sem]) rfl ?_
          rw [← HR.out]
          exact ⟨rfl, HMC.out⟩
         | false =>
          have HG := Lib.hid (HGOOD.out rfl)
          clear HBAD HGOOD
          go_wp2_with fail
          go_roundg (ws.length - (j + 1))
          case measure => omega
          case rel => exact ⟨j + 1, rfl, by omega, by simp, HG.out, HMC4.out⟩
       ·obtain rfl : j = ws.length := by omega
        rw [List.take_length] at hany
        have FN2 := Lib.hid (fun h4 => FN.out his (by first | rfl | trivial) (by first | rfl | trivial) hany h4)
        have F02 := Lib.hid (fun h4 => F0.out his (by first | rfl | trivial) (by first | rfl | trivial) hany h4)
        have hjj : ¬ ((ws.length : Nat) : Int) < (ws.length : Int) := by omega
        have hbr := HBR.out
        have x0 := hbr.cell 0; have x1 := hbr.cell 1; have x2 := hbr.cell 2; have x3 := hbr.cell 3; simp at x0 x1 x2 x3
        clear F5 FN F0 hany HQW HWL hbr HB4
        go_upto_block 3 with (fail)
        go_cut [] (fun wx => numE k n = 0 ∧ wr = wx)
        case first =>
         clear HIH HQ HQB HQX F02
         have FNE : Hid (∀ z : Int, numE k n = z → z ≠ 0 → fl = z) := Lib.hid (fun z h h0 => by rw [← h]; exact (FN2.out (by rw [h]; exact h0)).symm)
         clear FN2
         by_cases h45 : k = 4 ∨ k = 5
         ·have hnk : nearK k = true := by rcases h45 with rfl | rfl <;> rfl
          have HI := Lib.hid (HII.out wr n 0 20)
          by_cases hq : 0 ≤ n ∧ n ≤ 20
          ·have hne : numE k n = 0 := by
            unfold numE
            rw [if_neg (by intro h; rcases h with h | h; exact h.2 hq; omega), if_neg (by omega)]
           rw [decide_eq_true hq] at HI
           have HNE := Lib.hid hne
           clear HII hne FNE
           rcases h45 with rfl | rfl
           all_goals
            go_wp2_with fail
            refine HI.out.mono ?_
            rintro e2 w6 ⟨rfl, rfl⟩
            go_wp2_with fail
            go_meet
            exact ⟨HNE.out, rfl⟩
          ·have hne : numE k n = 1 := by
            unfold numE
            rw [if_pos (.inl ⟨hnk, hq⟩)]
           rw [decide_eq_false hq] at HI
           have HR := Lib.hid (FNE.out 1 hne (by decide))
           clear HII hne FNE
           rcases h45 with rfl | rfl
           all_goals
            go_wp2_with fail
            refine HI.out.mono ?_
            rintro e2 w6 ⟨rfl, rfl⟩
            go_wp2_with fail
            try simp only [Exit.inBlock, Exit.then]
            refine bodyPost_ret (v := .int .i64 1) (by simp [results, Tryz.results106, go_sem]) rfl ?_
            rw [HR.out]
            exact ⟨rfl, HM.out⟩
         have hnk : ¬ nearK k = true := by simp [nearK]; omega
         have n4 : (k == 4) = false := by simp; omega
         have n5 : (k == 5) = false := by simp; omega
         by_cases h12 : k = 12 ∨ k = 13
         ·have HI := Lib.hid (HII.out wr n 0 4000)
          by_cases hq : 0 ≤ n ∧ n ≤ 4000
          ·have hne : numE k n = 0 := by
            unfold numE
            rw [if_neg (by intro h; rcases h with h | h; exact hnk h.1; exact h.2 hq), if_neg (by omega)]
           rw [decide_eq_true hq] at HI
           have HNE := Lib.hid hne
           clear HII hne FNE hnk h45 n4 n5
           rcases h12 with rfl | rfl
           all_goals
            go_wp2_with fail
            refine HI.out.mono ?_
            rintro e2 w6 ⟨rfl, rfl⟩
            go_wp2_with fail
            go_meet
            exact ⟨HNE.out, rfl⟩
          ·have hne : numE k n = 1 := by
            unfold numE
            rw [if_pos (.inr ⟨h12, hq⟩)]
           rw [decide_eq_false hq] at HI
           have HR := Lib.hid (FNE.out 1 hne (by decide))
           clear HII hne FNE hnk h45 n4 n5
           rcases h12 with rfl | rfl
           all_goals
            go_wp2_with fail
            refine HI.out.mono ?_
            rintro e2 w6 ⟨rfl, rfl⟩
            go_wp2_with fail
            try simp only [Exit.inBlock, Exit.then]
            refine bodyPost_ret (v := .int .i64 1) (by simp [results, Tryz.results106, go_sem]) rfl ?_
            rw [HR.out]
            exact ⟨rfl, HM.out⟩
         have n12 : (k == 12) = false := by simp; omega
         have n13 : (k == 13) = false := by simp; omega
         by_cases h10 : k = 10
         ·have HI := Lib.hid (HII.out wr n 1 4)
          by_cases hq : 1 ≤ n ∧ n ≤ 4
          ·have hne : numE k n = 0 := by
            unfold numE
            rw [if_neg (by intro h; rcases h with h | h; exact hnk h.1; exact h12 h.1), if_neg (fun h => h.2 hq)]
           rw [decide_eq_true hq] at HI
           have HNE := Lib.hid hne
           clear HII hne FNE hnk h45 n4 n5 h12 n12 n13
           subst h10
           go_wp2_with fail
           refine HI.out.mono ?_
           rintro e2 w6 ⟨rfl, rfl⟩
           go_wp2_with fail
           go_meet
           exact ⟨HNE.out, rfl⟩
          ·have hne : numE k n = 4 := by
            unfold numE
            rw [if_neg (by intro h; rcases h with h | h; exact hnk h.1; exact h12 h.1), if_pos ⟨h10, hq⟩]
           rw [decide_eq_false hq] at HI
           have HR := Lib.hid (FNE.out 4 hne (by decide))
           clear HII hne FNE hnk h45 n4 n5 h12 n12 n13
           subst h10
           go_wp2_with fail
           refine HI.out.mono ?_
           rintro e2 w6 ⟨rfl, rfl⟩
           go_wp2_with fail
           try simp only [Exit.inBlock, Exit.then]
           refine bodyPost_ret (v := .int .i64 4) (by simp [results, Tryz.results106, go_sem]) rfl ?_
           rw [HR.out]
           exact ⟨rfl, HM.out⟩
         ·have n10 : (k == 10) = false := by simp; omega
          have hne : numE k n = 0 := by
           unfold numE
           rw [if_neg (by intro h; rcases h with h | h; exact hnk h.1; exact h12 h.1), if_neg (fun h => h10 h.1)]
          have HNE := Lib.hid hne
          clear HII hne FNE hnk h45 h12 h10
          go_wp2_with fail
          go_meet
          exact ⟨HNE.out, rfl⟩
        case rest =>
         obtain ⟨hne, rfl⟩ := hcut
         have HFL : Hid (fl = fstE ((xs.map QR.key).map (FL (mustQ must k)))) := Lib.hid (F02.out hne).symm
         obtain ⟨mq, hmq⟩ : ∃ mq, mustQ must k = mq := ⟨_, rfl⟩
         rw [hmq] at HFL
         have HMQ : Hid ((decide (k = 4) || (decide (k = 5) || (must && decide (k = 7)))) = mq) := Lib.hid (by rw [← hmq]; unfold mustQ nearK; rw [Bool.or_assoc])
         clear FN2 F02 hne hmq HM4
         generalize wr = w5 at *
         go_wp2_with fail
         clear x0 x1 x2 x3
         go_loopg [108] xs.length (fun gk i wr => ∃ j : Nat, xs.length - j = gk ∧ j ≤ xs.length ∧ i = .int .i64 (j : Int) ∧ fstE (((xs.map QR.key).map (FL mq)).take j) = 0 ∧ Pure w5 wr)
         case atStart => exact ⟨0, by omega, by omega, rfl, by simp [fstE], Mod.refl _ _⟩
         case round =>
          obtain ⟨j, rfl, hj, rfl, hfs, hm⟩ := hrel
          have HMR : Hid (Pure w wr) := Lib.hid (HM.out.trans hm)
          have HM5 : Hid (Pure w5 wr) := Lib.hid hm
          have HB6 := Lib.hid (HBR.out.modp hm)
          have HFS := Lib.hid hfs
          clear hm hfs
          by_cases hlt : j < xs.length
          ·obtain ⟨k', A', c', ws', n', B', dd', xs', hq⟩ := QR.ex xs[j]
           have hxs := HQX.out.pure HMR.out
           obtain ⟨g, off, hA, q0, q1, q2, q3⟩ := qcells hxs hlt hq
           obtain rfl := hA
           have hji : ((j : Nat) : Int) < (xs.length : Int) := by omega
           have HQJ : Hid (QS wr (.mk k' A' c' ws' n' B' dd' xs')) := Lib.hid (by rw [← hq]; exact (HQ.out.allH _ (List.getElem_mem hlt)).pure HMR.out)
           have HQK : Hid (QB 1000 (QR.mk k' A' c' ws' n' B' dd' xs').key) := Lib.hid (by rw [← hq]; exact HQB.out _ (List.mem_map.2 ⟨_, List.getElem_mem hlt, rfl⟩))
           have HMEM : Hid (QR.mk k' A' c' ws' n' B' dd' xs' ∈ xs) := Lib.hid (by rw [← hq]; exact List.getElem_mem hlt)
           obtain ⟨er, her⟩ : ∃ er, FL mq (QR.mk k' A' c' ws' n' B' dd' xs').key = er := ⟨_, rfl⟩
           have hjl : j < ((xs.map QR.key).map (FL mq)).length := by simpa using hlt
           have hat := fstE_at hjl HFS.out
           have hge : ((xs.map QR.key).map (FL mq))[j] = er := by rw [List.getElem_map, List.getElem_map, hq, her]
           rw [hge] at hat
           have HAT := Lib.hid hat
           have HPA := Lib.hid (pure_alloc wr (.cells #[.int .i64 k', .slice A' ws'.length c', .int .i64 n', .slice B' xs'.length dd'] 29))
           have hX6 := Blk.new wr 29 #[.int .i64 k', .slice A' ws'.length c', .int .i64 n', .slice B' xs'.length dd']
           have hB6 := HB6.out.alloc (.cells #[.int .i64 k', .slice A' ws'.length c', .int .i64 n', .slice B' xs'.length dd'] 29)
           clear hat hge hjl hxs hq HB6
           go_upto_region 35 with (fail)
           have HI : Hid (Calls Tryz.prog 106 #[.agg #[.int .i64 k', .slice A' ws'.length c', .int .i64 n', .slice B' xs'.length dd'], .bool mq] (wr.alloc (.cells #[.int .i64 k', .slice A' ws'.length c', .int .i64 n', .slice B' xs'.length dd'] 29)) (IntPost (wr.alloc (.cells #[.int .i64 k', .slice A' ws'.length c', .int .i64 n', .slice B' xs'.length dd'] 29)) er)) := Lib.hid (by
            have h2 := HIH.out _ HMEM.out (wr.alloc (.cells #[.int .i64 k', .slice A' ws'.length c', .int .i64 n', .slice B' xs'.length dd'] 29)) mq (HQJ.out.pure HPA.out) HQK.out
            rw [her] at h2
            exact h2)
           have HP6 : Hid (Pure w (wr.alloc (.cells #[.int .i64 k', .slice A' ws'.length c', .int .i64 n', .slice B' xs'.length dd'] 29))) := Lib.hid (HMR.out.trans HPA.out)
           have HM6 : Hid (Pure w5 (wr.alloc (.cells #[.int .i64 k', .slice A' ws'.length c', .int .i64 n', .slice B' xs'.length dd'] 29))) := Lib.hid (HM5.out.trans HPA.out)
           generalize (wr.alloc (.cells #[.int .i64 k', .slice A' ws'.length c', .int .i64 n', .slice B' xs'.length dd'] 29)) = w6 at *
           generalize wr.heap.size = g12 at *
           have y0 := hX6.cell 0; have y1 := hX6.cell 1; have y2 := hX6.cell 2; have y3 := hX6.cell 3; simp at y0 y1 y2 y3
           have x0 := hB6.cell 0; have x1 := hB6.cell 1; have x2 := hB6.cell 2; have x3 := hB6.cell 3; simp at x0 x1 x2 x3
           have emq := HMQ.out
           clear hX6 hB6 HQJ HQK HMEM HPA HIH her q0 q1 q2 q3 HMR HM5
           go_cut [11] from 112 to 129 (fun v wx => v = .int .i64 er ∧ Pure w6 wx)
           case first =>
            clear HFL HQ HQB HQX HAT HFS HMQ
            by_cases h4 : k = 4
            ·rw [decide_eq_true h4, Bool.true_or] at emq
             subst emq h4
             go_wp2_with fail
             refine HI.out.mono ?_
             rintro e2 w7 ⟨rfl, hm7⟩
             have HM7 := Lib.hid hm7
             clear hm7
             go_wp2_with fail
             go_meet
             exact ⟨rfl, HM7.out⟩
            have n4 : (k == 4) = false := by simpa using h4
            rw [decide_eq_false h4, Bool.false_or] at emq
            by_cases h5 : k = 5
            ·rw [decide_eq_true h5, Bool.true_or] at emq
             subst emq h5
             go_wp2_with fail
             refine HI.out.mono ?_
             rintro e2 w7 ⟨rfl, hm7⟩
             have HM7 := Lib.hid hm7
             clear hm7
             go_wp2_with fail
             go_meet
             exact ⟨rfl, HM7.out⟩
            have n5 : (k == 5) = false := by simpa using h5
            rw [decide_eq_false h5, Bool.false_or] at emq
            cases must with
            | false =>
             rw [Bool.false_and] at emq
             subst emq
             go_wp2_with fail
             refine HI.out.mono ?_
             rintro e2 w7 ⟨rfl, hm7⟩
             have HM7 := Lib.hid hm7
             clear hm7
             go_wp2_with fail
             go_meet
             exact ⟨rfl, HM7.out⟩
            | true =>
             rw [Bool.true_and] at emq
             by_cases h7 : k = 7
             ·rw [decide_eq_true h7] at emq
              subst emq h7
              go_wp2_with fail
              refine HI.out.mono ?_
              rintro e2 w7 ⟨rfl, hm7⟩
              have HM7 := Lib.hid hm7
              clear hm7
              go_wp2_with fail
              go_meet
              exact ⟨rfl, HM7.out⟩
             ·have n7 : (k == 7) = false := by simpa using h7
              rw [decide_eq_false h7] at emq
              subst emq
              go_wp2_with fail
              refine HI.out.mono ?_
              rintro e2 w7 ⟨rfl, hm7⟩
              have HM7 := Lib.hid hm7
              clear hm7
              go_wp2_with fail
              go_meet
              exact ⟨rfl, HM7.out⟩
           case rest =>
            obtain ⟨rfl, hmc⟩ := hcut
            have HP7 : Hid (Pure w wc) := Lib.hid (HP6.out.trans hmc)
            have HM7 : Hid (Pure w5 wc) := Lib.hid (HM6.out.trans hmc)
            clear hmc HI HP6 HM6 emq x0 x1 x2 x3 y0 y1 y2 y3
            by_cases he0 : er = 0
            ·subst he0
             have HS := Lib.hid (HAT.out.2 rfl)
             clear HAT HFS
             go_wp2_with fail
             go_roundg (xs.length - (j + 1))
             case measure => omega
             case rel => exact ⟨j + 1, rfl, by omega, by simp, HS.out, HM7.out⟩
            ·have hen : (er != 0) = true := by simpa using he0
             have HR : Hid (fl = er) := Lib.hid (HFL.out.trans (HAT.out.1 he0))
             clear HAT HFS HFL HQ HQB HQX he0
             go_wp2_with fail
             try simp only [Exit.inBlock, Exit.then]
             refine bodyPost_ret (v := .int .i64 er) (by simp [results, Tryz.results106, go_sem]) rfl ?_
             rw [HR.out]
             exact ⟨rfl, HP7.out⟩
          ·obtain rfl : j = xs.length := by omega
           have e := HFS.out
           rw [List.take_of_length_le (by simp)] at e
           have HR : Hid (fl = 0) := Lib.hid (HFL.out.trans e)
           have hjj2 : ¬ ((xs.length : Nat) : Int) < (xs.length : Int) := by omega
           clear e HFS HFL HQ HQB HQX HIH HMQ
           go_wp2_with fail
           try simp only [Exit.inBlock, Exit.then]
           refine bodyPost_ret (v := .int .i64 0) (by simp [results, Tryz.results106, go_sem]) rfl ?_
           rw [HR.out]
           exact ⟨rfl, HMR.out⟩


end Go.Proofs.YtnfflgicngeekaaGreatDoor

/- QueryFault of the reference. -/
namespace Go.Proofs.YtnfflgicngeekaaGreatDoor
set_option linter.unusedVariables false
set_option linter.unusedSimpArgs false
open Go.RowKit

set_option maxRecDepth 100000 in
set_option maxHeartbeats 8000000 in
theorem queryFault_calls (w : World) (qr : QR) (hQ : QS w qr) (hB : QB 1000 qr.key) (hz : qSize qr.key ≤ 1000000) : Calls Tryz.prog 42 #[qA qr] w (IntPost w (checkQ qr.key)) := by
 rw [check_same]
 have HSZ := Lib.hid (fun W (h : Pure w W) => rsize_calls qr W (hQ.pure h) hz)
 have HNR := Lib.hid (fun W (h : Pure w W) => rnear_calls qr W (hQ.pure h) hz)
 have HFA := Lib.hid (fun W (h : Pure w W) => faultAt_calls qr W false (hQ.pure h) hB)
 have hd := qDeep_le qr.key
 have hn := qNear_le qr.key
 have HCK : Hid (checkR qr.key = if 100 < qSize qr.key ∨ 12 < qDeep qr.key ∨ 3 < qNear qr.key then 2 else fltQ 1073741824 false qr.key) := Lib.hid rfl
 unfold RszP at HSZ
 generalize checkR qr.key = er at *
 generalize fltQ 1073741824 false qr.key = fl at *
 generalize qSize qr.key = sz at *
 generalize qDeep qr.key = dp at *
 generalize qNear qr.key = nr at *
 obtain ⟨k, A, c, ws, n, B, dd, xs, rfl⟩ := qr.ex
 rw [show qA (QR.mk k A c ws n B dd xs) = .agg #[.int .i64 k, .slice A ws.length c, .int .i64 n, .slice B xs.length dd] from rfl] at HSZ HNR HFA ⊢
 have hB0 := Blk.new w 29 #[.int .i64 k, .slice A ws.length c, .int .i64 n, .slice B xs.length dd]
 have HP0 := Lib.hid (pure_alloc w (.cells #[.int .i64 k, .slice A ws.length c, .int .i64 n, .slice B xs.length dd] 29))
 clear hQ hB
 go_enter Tryz.func42, Tryz.ntmps42
 go_upto_region 1 with (fail)
 generalize (w.alloc (.cells #[.int .i64 k, .slice A ws.length c, .int .i64 n, .slice B xs.length dd] 29)) = w1 at *
 generalize w.heap.size = g0 at *
 have HB0 := Lib.hid hB0
 have x0 := hB0.cell 0; have x1 := hB0.cell 1; have x2 := hB0.cell 2; have x3 := hB0.cell 3; simp at x0 x1 x2 x3
 clear hB0
 go_wp2_with fail
 refine (HSZ.out w1 HP0.out).mono ?_
 rintro e w2 ⟨rfl, hm⟩
 have HP2 : Hid (Pure w w2) := Lib.hid (HP0.out.trans hm)
 have hb2 := HB0.out.modp hm
 have HB2 := Lib.hid hb2
 clear x0 x1 x2 x3 HP0 HB0 hm HSZ
 have x0 := hb2.cell 0; have x1 := hb2.cell 1; have x2 := hb2.cell 2; have x3 := hb2.cell 3; simp at x0 x1 x2 x3
 clear hb2
 go_upto_region 2 with (fail)
 obtain ⟨bad, hbad⟩ : ∃ bad, decide (100 < sz ∨ 12 < dp ∨ 3 < nr) = bad := ⟨_, rfl⟩
 have HE : Hid (er = if bad = true then 2 else fl) := Lib.hid (by rw [HCK.out, ← hbad]; simp only [decide_eq_true_eq])
 go_cut [20] from 10 to 19 (fun p wx => p = .bool bad ∧ Pure w2 wx)
 case first =>
  clear HCK HFA HE
  by_cases h1 : 100 < sz
  ·have h1i : (100 : Int) < (sz : Int) := by omega
   obtain rfl : true = bad := by rw [← hbad]; exact (decide_eq_true (.inl h1)).symm
   clear hbad
   go_wp2_with fail
   go_meet
   exact ⟨by first | rfl | simp, Mod.refl _ _⟩
  have h1i : ¬ (100 : Int) < (sz : Int) := by omega
  by_cases h2 : 12 < dp
  ·have h2i : (12 : Int) < (dp : Int) := by omega
   obtain rfl : true = bad := by rw [← hbad]; exact (decide_eq_true (.inr (.inl h2))).symm
   clear hbad
   go_wp2_with fail
   go_meet
   exact ⟨by first | rfl | simp, Mod.refl _ _⟩
  have h2i : ¬ (12 : Int) < (dp : Int) := by omega
  have e : decide (3 < nr) = bad := by
   rw [← hbad]
   simp only [decide_eq_decide]
   omega
  have e2 : decide ((3 : Int) < (nr : Int)) = bad := by
   rw [← e]
   simp only [decide_eq_decide]
   omega
  clear hbad
  go_wp2_with fail
  refine (HNR.out w2 HP2.out).mono ?_
  rintro e3 w3 ⟨rfl, hm⟩
  have HM := Lib.hid hm
  clear hm HNR
  cases bad
  ·have h3i : ¬ (3 : Int) < (nr : Int) := of_decide_eq_false e2
   clear e e2
   go_wp2_with fail
   go_meet
   exact ⟨by first | rfl | (simp; omega), HM.out⟩
  ·have h3i : (3 : Int) < (nr : Int) := of_decide_eq_true e2
   clear e e2
   go_wp2_with fail
   go_meet
   exact ⟨by first | rfl | (simp; omega), HM.out⟩
 case rest =>
  obtain ⟨rfl, hmc⟩ := hcut
  have HPC : Hid (Pure w wc) := Lib.hid (HP2.out.trans hmc)
  have hbc := HB2.out.modp hmc
  clear x0 x1 x2 x3 hmc HB2 HP2 HCK hbad HNR
  have x0 := hbc.cell 0; have x1 := hbc.cell 1; have x2 := hbc.cell 2; have x3 := hbc.cell 3; simp at x0 x1 x2 x3
  clear hbc
  cases bad with
  | true =>
   have HR : Hid (er = 2) := Lib.hid (HE.out.trans (if_pos rfl))
   clear HE HFA
   go_wp2_with fail
   try simp only [Exit.inBlock, Exit.then]
   refine bodyPost_ret (v := .int .i64 2) (by simp [results, Tryz.results42, go_sem]) rfl ?_
   rw [HR.out]
   exact ⟨rfl, HPC.out⟩
  | false =>
   have HR : Hid (er = fl) := Lib.hid (HE.out.trans (if_neg (by decide)))
   clear HE
   go_wp2_with fail
   refine (HFA.out wc HPC.out).mono ?_
   rintro e w3 ⟨rfl, hm⟩
   have HP3 : Hid (Pure w w3) := Lib.hid (HPC.out.trans hm)
   clear hm HFA
   go_wp2_with fail
   go_ret
   rw [HR.out]
   exact ⟨rfl, HP3.out⟩

end Go.Proofs.YtnfflgicngeekaaGreatDoor

/- A search of a law, and its error. -/
namespace Go.Proofs.YtnfflgicngeekaaGreatDoor
set_option linter.unusedVariables false
set_option linter.unusedSimpArgs false
open Go.RowKit

/-- A search, and its error. -/
def SqP (w : World) (b N : Nat) (e : Ending) (w' : World) : Prop := ∃ qr : QR, e = .returned (.tuple #[qA qr, .int .i64 (checkQ qr.key)]) ∧ QS w' qr ∧ QFr w.heap.size qr ∧ QZ qr ∧ QB 101 qr.key ∧ qSize qr.key ≤ 121 ∧ Strm w' b N ∧ Mod (· = b) w w'
/-- A box that holds a search. -/
def SqI (w : World) (b g2 g4 N M Z : Nat) (wx : World) : Prop := ∃ (k n : Int) (A B : Option Addr) (c d : Nat) (ws : List Str) (xs : List QR), Blk wx g4 29 #[.int .i64 k, .slice A ws.length c, .int .i64 n, .slice B xs.length d] ∧ QS wx (.mk k A c ws n B d xs) ∧ QFr (g2 + 1) (.mk k A c ws n B d xs) ∧ QZ (.mk k A c ws n B d xs) ∧ QB M (QR.mk k A c ws n B d xs).key ∧ qSize (QR.mk k A c ws n B d xs).key ≤ Z ∧ Blk wx g2 29 #[.int .i64 0, .slice none 0 0, .int .i64 0, .slice none 0 0] ∧ Strm wx b N ∧ Mod (· = b) w wx
theorem blk_nostr {w : World} {g : Nat} {cs : Array Value} (h : Blk w g 29 cs) : ∀ x arr fr, w.heap[x]? = some (.cells arr 9 fr) → ¬ x = g := fun x arr fr hg he => by
 subst he
 unfold Blk at h
 rw [hg] at h
 injection h with h
 injection h with _ h
 exact absurd h (by decide)
set_option maxRecDepth 100000 in
set_option maxHeartbeats 8000000 in
theorem someQuery_calls (w : World) (b N : Nat) (hS : Strm w b N) (hN : N ≤ 600000000) : Calls Tryz.prog 8 #[.pointer (some ⟨b, 0, none⟩)] w (SqP w b (N + 1200)) := by
 have h40 := Blk.new w 29 #[.int .i64 0, .slice none 0 0, .int .i64 0, .slice none 0 0]
 have hP0 := pure_alloc w (.cells #[.int .i64 0, .slice none 0 0, .int .i64 0, .slice none 0 0] 29)
 have hS0 := hS.alloc (.cells #[.int .i64 0, .slice none 0 0, .int .i64 0, .slice none 0 0] 29)
 have hb4 := hS.lt
 have hsz : w.heap.size + 1 ≤ (w.alloc (.cells #[.int .i64 0, .slice none 0 0, .int .i64 0, .slice none 0 0] 29)).heap.size := by simp
 clear hS
 go_enter Tryz.func8, Tryz.ntmps8
 go_upto_region 1 with (fail)
 generalize (w.alloc (.cells #[.int .i64 0, .slice none 0 0, .int .i64 0, .slice none 0 0] 29)) = w0 at *
 generalize hg2 : w.heap.size = g2 at *
 have hg2w : w.heap.size ≤ g2 := Nat.le_of_eq hg2
 have hg2v : g2 ≤ w.heap.size := Nat.le_of_eq hg2.symm
 clear hg2
 have hlt0 := hS0.lt
 go_wp2_with fail
 refine (pickv_calls _ b _ w0.heap.size _ _ #[.int .i64 0, .int .i64 1, .int .i64 2, .int .i64 3] (hS0.alloc _) (Blk.new _ _ _) (by omega) (by omega) rfl (by decide) (by decide) rfl).mono ?_
 rintro e w1 ⟨dI, hmem, rfl, hS1, hM1⟩
 have hv1 : dI = 0 ∨ dI = 1 ∨ dI = 2 ∨ dI = 3 := by simpa [intsOf, Go.RowKit.intOf] using hmem
 obtain ⟨dn, rfl⟩ : ∃ dn : Nat, dI = (dn : Int) := ⟨dI.toNat, by omega⟩
 have hdn : dn ≤ 3 := by omega
 have HM1 := Lib.hid (((Mod.of_pure hP0 : Mod (· = b) w w0).trans (Mod.of_pure (pure_alloc w0 (.cells #[.int .i64 0, .int .i64 1, .int .i64 2, .int .i64 3] 3)))).trans hM1)
 have K1 := Lib.hid ((h40.alloc (.cells #[.int .i64 0, .int .i64 1, .int .i64 2, .int .i64 3] 3)).mod hM1 (by omega))
 have hz1 : w0.heap.size ≤ w1.heap.size := by have := hM1.size; rw [World.size_alloc] at this; omega
 have HC := Lib.hid (queryG_calls b dn w1 (N + 1) (dn : Int) rfl hdn hS1 (by omega))
 have hcq := (cQ_le hdn).2
 have hsq : sQ dn ≤ 118 := by
  match dn, hdn with
  | 0, _ => decide
  | 1, _ => decide
  | 2, _ => decide
  | 3, _ => decide
 clear hmem hM1 h40 hP0 hS0 hS1 hv1
 go_wp2_with fail
 refine HC.out.mono ?_
 rintro e w2 ⟨⟨k1, A1, c1, ws1, n1, B1, d1, xs1⟩, rfl, hq1, hf1, hb1, hsz1, hS2, hM2, hqz1⟩
 rw [qA_mk]
 have hs12 := hM2.size
 have h4b := Blk.new w2 29 #[.int .i64 k1, .slice A1 ws1.length c1, .int .i64 n1, .slice B1 xs1.length d1]
 have hpa := pure_alloc w2 (.cells #[.int .i64 k1, .slice A1 ws1.length c1, .int .i64 n1, .slice B1 xs1.length d1] 29)
 have hspa := hpa.size
 have HSQ : Hid (SqI w b g2 w2.heap.size (N + 800) 100 118 (w2.alloc (.cells #[.int .i64 k1, .slice A1 ws1.length c1, .int .i64 n1, .slice B1 xs1.length d1] 29))) := Lib.hid ⟨k1, n1, A1, B1, c1, d1, ws1, xs1, h4b, hq1.pure hpa, hf1.up (by omega), hqz1, hb1, by omega, (K1.out.mod hM2 (by omega)).modp hpa, (hS2.pure hpa).more (by omega), (HM1.out.trans hM2).trans (Mod.of_pure hpa)⟩
 have hg4l : w2.heap.size < (w2.alloc (.cells #[.int .i64 k1, .slice A1 ws1.length c1, .int .i64 n1, .slice B1 xs1.length d1] 29)).heap.size := h4b.lt
 have hg24 : g2 < w2.heap.size := by omega
 clear HC hq1 hf1 hb1 hsz1 hS2 hM2 hqz1 h4b hpa HM1 K1
 go_upto_region 2 with (fail)
 generalize (w2.alloc (.cells #[.int .i64 k1, .slice A1 ws1.length c1, .int .i64 n1, .slice B1 xs1.length d1] 29)) = w3 at *
 generalize w2.heap.size = g4 at *
 obtain ⟨k1, n1, A1, B1, c1, d1, ws1, xs1, h4b, hq1, hf1, hqz1, hb1, hsz1, hK2, hS3, hM3⟩ := HSQ.out
 have HF := Lib.hid (flip_calls w3 b _ 6 hS3 (by omega) (by omega) (by omega))
 clear h4b hq1 hf1 hqz1 hb1 hsz1 hK2 hS3 hM3
 go_wp2_with fail
 refine HF.out.mono ?_
 rintro e w4 ⟨fl, rfl, hS4, hM4⟩
 clear HF
 obtain ⟨k1, n1, A1, B1, c1, d1, ws1, xs1, h4b, hq1, hf1, hqz1, hb1, hsz1, hK2, hS3, hM3⟩ := HSQ.out
 have HI4 : Hid (SqI w b g2 g4 (N + 801) 100 118 w4) := Lib.hid ⟨k1, n1, A1, B1, c1, d1, ws1, xs1, h4b.modb hM4 (by omega), hq1.strm hS3 hM4, hf1, hqz1, hb1, hsz1, hK2.modb hM4 (by omega), hS4, hM3.trans hM4⟩
 clear h4b hq1 hf1 hqz1 hb1 hsz1 hK2 hS3 hM3 HSQ
 go_upto_if 11 with (fail)
 go_cut [] (fun wx => SqI w b g2 g4 (N + 1150) 101 121 wx)
 case first =>
  obtain ⟨k1, n1, A1, B1, c1, d1, ws1, xs1, h4b, hq1, hf1, hqz1, hb1, hsz1, hK2, hS5, hM5⟩ := HI4.out
  cases fl with
  | false =>
   clear hM4 hS4
   go_wp2_with fail
   go_meet
   exact ⟨k1, n1, A1, B1, c1, d1, ws1, xs1, h4b, hq1, hf1, hqz1, hb1.mono (by omega), by omega, hK2, hS5.more (by omega), hM5⟩
  | true =>
   have HSP := Lib.hid (spoil_calls w4 b _ 100 118 (QR.mk k1 A1 c1 ws1 n1 B1 d1 xs1) hS5 (by omega) hq1 hqz1 hb1 (by omega) (by omega) hsz1)
   rw [qA_mk] at HSP
   have HB4 := Lib.hid h4b
   have HK2 := Lib.hid hK2
   have HM5 := Lib.hid hM5
   have hg4r := h4b.lt
   have hbr4 := hS4.lt
   have x0 := h4b.cell 0; have xf0 := h4b.frozen 0; have x1 := h4b.cell 1; have xf1 := h4b.frozen 1; have x2 := h4b.cell 2; have xf2 := h4b.frozen 2; have x3 := h4b.cell 3; have xf3 := h4b.frozen 3; simp at x0 x1 x2 x3
   clear hq1 hf1 hqz1 hb1 hsz1 hK2 hS5 hM5 hM4 hS4 HI4 h4b
   go_wp2_with fail
   refine HSP.out.mono ?_
   rintro e w5 ⟨⟨k2, A2, c2, ws2, n2, B2, d2, xs2⟩, rfl, hq2, hf2, hqz2, hb2, hsz2, hS6, hM6⟩
   rw [qA_mk]
   have h4c := HB4.out.modb hM6 (by omega)
   have hs45 := hM6.size
   have h4F := st4_blk (a := .int .i64 k2) (b := .slice A2 ws2.length c2) (c := .int .i64 n2) (d := .slice B2 xs2.length d2) h4c
   have hmF : Mod (· = g4) w5 ((((w5.setCell ⟨g4, 0, none⟩ (.int .i64 k2)).setCell ⟨g4, 1, none⟩ (.slice A2 ws2.length c2)).setCell ⟨g4, 2, none⟩ (.int .i64 n2)).setCell ⟨g4, 3, none⟩ (.slice B2 xs2.length d2)) := st4_mod
   have hqF := hq2.modF hf2 hmF (blk_nostr h4c) (fun x hx => by show ¬ x = g4; omega)
   have hKF := (HK2.out.modb hM6 (by omega)).mod hmF (by omega)
   have hSF := hS6.mod hmF (fun i hi e => by omega)
   have hMF := (HM5.out.trans hM6).trans' hmF (fun i hi hlt => by omega)
   have HQF : Hid (SqI w b g2 g4 (N + 1150) 101 121 ((((w5.setCell ⟨g4, 0, none⟩ (.int .i64 k2)).setCell ⟨g4, 1, none⟩ (.slice A2 ws2.length c2)).setCell ⟨g4, 2, none⟩ (.int .i64 n2)).setCell ⟨g4, 3, none⟩ (.slice B2 xs2.length d2))) := Lib.hid ⟨k2, n2, A2, B2, c2, d2, ws2, xs2, h4F, hqF, hf2.up (by omega), hqz2, hb2, by omega, hKF, hSF.more (by omega), hMF⟩
   have y0 := h4c.cell 0; have yf0 := h4c.frozen 0; have y1 := h4c.cell 1; have yf1 := h4c.frozen 1; have y2 := h4c.cell 2; have yf2 := h4c.frozen 2; have y3 := h4c.cell 3; have yf3 := h4c.frozen 3; simp at y0 y1 y2 y3
   clear h4c h4F hmF hqF hKF hSF hMF hq2 hf2 hqz2 hb2 hsz2 hS6 hM6 HSP x0 x1 x2 x3 xf0 xf1 xf2 xf3
   go_wp2_with fail
   go_meet
   exact HQF.out
 case rest =>
  clear HI4 hM4 hS4
  obtain ⟨k1, n1, A1, B1, c1, d1, ws1, xs1, h4b, hq1, hf1, hqz1, hb1, hsz1, hK2, hS5, hM5⟩ := hcut
  have HQF := Lib.hid (fun W (h : Pure wc W) => queryFault_calls W (QR.mk k1 A1 c1 ws1 n1 B1 d1 xs1) (hq1.pure h) (hb1.mono (by omega)) (by omega))
  rw [qA_mk] at HQF
  have HQ1 := Lib.hid hq1
  have HFR := Lib.hid hf1
  have HZB := Lib.hid (And.intro hqz1 (And.intro hb1 hsz1))
  have HB4 := Lib.hid h4b
  have HK2 := Lib.hid hK2
  have HS5 := Lib.hid hS5
  have HM5 := Lib.hid hM5
  have hbr := hS5.lt
  obtain ⟨ck, hck⟩ : ∃ ck, checkQ (QR.key (QR.mk k1 A1 c1 ws1 n1 B1 d1 xs1)) = ck := ⟨_, rfl⟩
  have HCK := Lib.hid hck
  rw [hck] at HQF
  have x0 := h4b.cell 0; have x1 := h4b.cell 1; have x2 := h4b.cell 2; have x3 := h4b.cell 3; simp at x0 x1 x2 x3
  have y0 := hK2.cell 0; have yf0 := hK2.frozen 0; have y1 := hK2.cell 1; have yf1 := hK2.frozen 1; have y2 := hK2.cell 2; have yf2 := hK2.frozen 2; have y3 := hK2.cell 3; have yf3 := hK2.frozen 3; simp at y0 y1 y2 y3
  clear h4b hq1 hf1 hqz1 hb1 hsz1 hK2 hS5 hM5 hck
  go_upto_region 4 with (fail)
  go_region_with (go_at_call 42; (refine (HQF.out _ (by (repeat' (first | with_reducible assumption | with_reducible exact Mod.refl _ _ | with_reducible refine Mod.alloc ?_ _ | with_reducible refine Mod.drew ?_ | with_reducible refine Mod.drewN ?_ _ | ((with_reducible apply Mod.q_set); (dsimp only); omega) | ((with_reducible apply Mod.q_trans); (with_reducible assumption)) | ((with_reducible apply Mod.q_transp); (with_reducible assumption)))))).mono ?_); rintro e w5 ⟨rfl, hm5'⟩; have hm5 : Pure wc w5 := Mod.trans (by (repeat' (first | with_reducible assumption | with_reducible exact Mod.refl _ _ | with_reducible refine Mod.alloc ?_ _ | with_reducible refine Mod.drew ?_ | with_reducible refine Mod.drewN ?_ _ | ((with_reducible apply Mod.q_set); (dsimp only); omega) | ((with_reducible apply Mod.q_trans); (with_reducible assumption)) | ((with_reducible apply Mod.q_transp); (with_reducible assumption))))) hm5'; have h4c := HB4.out.modp hm5; have hK5 := HK2.out.modp hm5; have u0 := h4c.cell 0; have u1 := h4c.cell 1; have u2 := h4c.cell 2; have u3 := h4c.cell 3; simp at u0 u1 u2 u3; have v0 := hK5.cell 0; have vf0 := hK5.frozen 0; have v1 := hK5.cell 1; have vf1 := hK5.frozen 1; have v2 := hK5.cell 2; have vf2 := hK5.frozen 2; have v3 := hK5.cell 3; have vf3 := hK5.frozen 3; simp at v0 v1 v2 v3)
  all_goals
   have hmF : Mod (· = g2) w5 ((((w5.setCell ⟨g2, 0, none⟩ (.int .i64 k1)).setCell ⟨g2, 1, none⟩ (.slice A1 ws1.length c1)).setCell ⟨g2, 2, none⟩ (.int .i64 n1)).setCell ⟨g2, 3, none⟩ (.slice B1 xs1.length d1)) := st4_mod
   have h4F := st4_blk (a := .int .i64 k1) (b := .slice A1 ws1.length c1) (c := .int .i64 n1) (d := .slice B1 xs1.length d1) hK5
   have HFIN : Hid (SqP w b (N + 1200) (.returned (.tuple #[.agg #[.int .i64 k1, .slice A1 ws1.length c1, .int .i64 n1, .slice B1 xs1.length d1], .int .i64 ck])) ((((w5.setCell ⟨g2, 0, none⟩ (.int .i64 k1)).setCell ⟨g2, 1, none⟩ (.slice A1 ws1.length c1)).setCell ⟨g2, 2, none⟩ (.int .i64 n1)).setCell ⟨g2, 3, none⟩ (.slice B1 xs1.length d1))) := Lib.hid ⟨(QR.mk k1 A1 c1 ws1 n1 B1 d1 xs1), by rw [qA_mk, HCK.out], (HQ1.out.pure hm5).modF HFR.out hmF (blk_nostr hK5) (fun x hx => by show ¬ x = g2; omega), HFR.out.up (by omega), HZB.out.1, HZB.out.2.1, HZB.out.2.2, ((HS5.out.pure hm5).mod hmF (fun i hi e => by omega)).more (by omega), mod_up (HM5.out.transp hm5) hmF hg2w⟩
   have z0 := h4F.cell 0; have z1 := h4F.cell 1; have z2 := h4F.cell 2; have z3 := h4F.cell 3; simp at z0 z1 z2 z3
   clear hmF h4F h4c hK5 hm5 hm5' HQF HQ1 HFR HZB HB4 HK2 HS5 HM5 HCK
   go_wp2_with fail
   try simp only [Exit.inBlock, Exit.then]
   refine bodyPost_ret (v := .tuple #[.agg #[.int .i64 k1, .slice A1 ws1.length c1, .int .i64 n1, .slice B1 xs1.length d1], .int .i64 ck]) (by simp [results, Tryz.results8, go_sem, z0, z1, z2, z3]) rfl ?_
   exact HFIN.out

end Go.Proofs.YtnfflgicngeekaaGreatDoor

/- A search as text, in plain words. -/
namespace Go.Proofs.YtnfflgicngeekaaGreatDoor
set_option linter.unusedVariables false
set_option linter.unusedSimpArgs false
open Go.RowKit

/-- Whether the search at place i of a kind's searches stands in parentheses. -/
def encQ (k : Int) (i : Nat) (a : Int) : Bool :=
 if nearK k = true then decide (a = 7) || (decide (i = 1) && nearK a) else if k = 6 ∨ k = 8 then decide (a = 6 ∨ a = 7) else decide (a = 7)
def parQ (b : Bool) (s : Str) : Str := if b = true then [40] ++ s ++ [41] else s
/-- The texts of the searches within, with their parentheses. -/
def prL (k : Int) : Nat → List (Int × Str) → List Str
 | _, [] => []
 | i, (a, s) :: t => parQ (encQ k i a) s :: prL k (i + 1) t
/-- A search's text, out of the texts of those within. -/
def txtQ (k n : Int) (ws l : List Str) : Str :=
 if k = 1 then [97, 108, 108]
 else if k = 2 then ws.getD 0 []
 else if k = 3 then [34] ++ Lib.join ws [32] ++ [34]
 else if k = 4 then l.getD 0 [] ++ [32, 119, 47] ++ Lib.itoa n ++ [32] ++ l.getD 1 []
 else if k = 5 then l.getD 0 [] ++ [32, 112, 114, 101, 47] ++ Lib.itoa n ++ [32] ++ l.getD 1 []
 else if k = 6 then Lib.join l [32, 97, 110, 100, 32]
 else if k = 7 then Lib.join l [32, 111, 114, 32]
 else if k = 8 then [110, 111, 116, 32] ++ l.getD 0 []
 else if k = 9 then [111, 119, 110, 101, 114, 58] ++ ws.getD 0 []
 else if k = 10 then [107, 105, 110, 100, 58] ++ kwQ n
 else if k = 11 then [110, 97, 109, 101, 58] ++ ws.getD 0 []
 else if k = 12 then [102, 114, 111, 109, 58] ++ Lib.itoa n
 else [117, 110, 116, 105, 108, 58] ++ Lib.itoa n
def prQ : Qry → Str | .mk k ws n xs => txtQ k n ws (prL k 0 (xs.map fun a => (a.kind, prQ a)))
theorem prL_len (k : Int) : ∀ (i : Nat) (l : List (Int × Str)), (prL k i l).length = l.length
 | _, [] => rfl
 | i, (a, s) :: t => by
  show (prL k (i + 1) t).length + 1 = t.length + 1
  rw [prL_len k (i + 1) t]
theorem prL_get (k : Int) : ∀ (i : Nat) (l : List (Int × Str)) (j : Nat) (h : j < l.length), (prL k i l)[j]'(by rw [prL_len]; exact h) = parQ (encQ k (i + j) l[j].1) l[j].2
 | i, (a, s) :: t, 0, _ => rfl
 | i, (a, s) :: t, j + 1, h => by
  have := prL_get k (i + 1) t j (by simpa using h)
  show (prL k (i + 1) t)[j]'_ = _
  rw [this, show i + 1 + j = i + (j + 1) by omega]
  rfl
theorem parQ_len (b : Bool) (s : Str) : (parQ b s).length ≤ s.length + 2 := by
 unfold parQ
 split <;> simp
theorem prL_sum (k : Int) : ∀ (i : Nat) (l : List (Int × Str)), ((prL k i l).map List.length).sum ≤ (l.map fun p => p.2.length + 2).sum
 | _, [] => Nat.le_refl _
 | i, (a, s) :: t => by
  have h1 := prL_sum k (i + 1) t
  have h2 := parQ_len (encQ k i a) s
  show ((parQ (encQ k i a) s :: prL k (i + 1) t).map List.length).sum ≤ _
  simp only [List.map_cons, List.sum_cons]
  omega
theorem getD_sum (l : List Str) (j : Nat) : (l.getD j []).length ≤ (l.map List.length).sum := by
 induction l generalizing j with
 | nil => simp
 | cons x t ih =>
  cases j with
  | zero => simp
  | succ j =>
   have := ih j
   simp at this ⊢
   omega
theorem getD01_sum (l : List Str) : (l.getD 0 []).length + (l.getD 1 []).length ≤ (l.map List.length).sum := by
 match l with
 | [] => simp
 | [x] => simp
 | x :: y :: t => simp
theorem kwQ_len (n : Int) : (kwQ n).length ≤ 4 := by
 unfold kwQ
 split
 ·simp
 ·split
  ·simp
  ·split
   ·simp
   ·split <;> simp
theorem join_le (l : List Str) (sep : Str) : (Lib.join l sep).length ≤ (l.map List.length).sum + sep.length * l.length := by
 cases l with
 | nil => simp [Lib.join_nil]
 | cons x t =>
  rw [Lib.join_cons, List.length_append, Lib.joinTail_length, show Lib.lens t = (t.map List.length).sum from rfl]
  simp only [List.map_cons, List.sum_cons, List.length_cons, Nat.mul_add]
  omega
theorem ite_le {c : Prop} [Decidable c] {a b : Str} {m : Nat} (ha : a.length ≤ m) (hb : b.length ≤ m) : (if c then a else b).length ≤ m := by split <;> assumption
theorem txtQ_len (k n : Int) (ws l : List Str) (hi : (Lib.itoa n).length ≤ 21) : (txtQ k n ws l).length ≤ (ws.map List.length).sum + ws.length + (l.map List.length).sum + 5 * l.length + 40 := by
 have h1 := getD_sum ws 0
 have h2 := getD_sum l 0
 have h3 := getD01_sum l
 have h4 := kwQ_len n
 have h5 := join_le ws [32]
 have h6 := join_le l [32, 97, 110, 100, 32]
 have h7 := join_le l [32, 111, 114, 32]
 simp only [List.length_cons, List.length_nil] at h5 h6 h7
 unfold txtQ
 repeat' refine ite_le ?_ ?_
 all_goals
  try simp only [List.length_append, List.length_cons, List.length_nil]
  omega
theorem sum_wd {ws : List Str} {M : Nat} (h : ∀ x ∈ ws, x.length ≤ M) : (ws.map List.length).sum ≤ M * ws.length := by
 induction ws with
 | nil => simp
 | cons x t ih =>
  have h1 := h x (by simp)
  have h2 := ih (fun a ha => h a (by simp [ha]))
  simp only [List.map_cons, List.sum_cons, List.length_cons, Nat.mul_add]
  omega
end Go.Proofs.YtnfflgicngeekaaGreatDoor

/- Whether a search within another one stands in parentheses: the program. -/
namespace Go.Proofs.YtnfflgicngeekaaGreatDoor
set_option linter.unusedVariables false
set_option linter.unusedSimpArgs false
open Go.RowKit

set_option maxRecDepth 100000 in
set_option maxHeartbeats 8000000 in
theorem enclosed_calls (w : World) (kd : Int) (i : Nat) (k n : Int) (A B : Option Addr) (c d : Nat) (ws : List Str) (xs : List QR) : Calls Tryz.prog 109 #[.int .i64 kd, .int .i64 (i : Int), qA (.mk k A c ws n B d xs)] w (BoolPost w (encQ kd i k)) := by
 have hb := Blk.new w 29 #[.int .i64 k, .slice A ws.length c, .int .i64 n, .slice B xs.length d]
 have HP := Lib.hid (pure_alloc w (.cells #[.int .i64 k, .slice A ws.length c, .int .i64 n, .slice B xs.length d] 29))
 have HNE := Lib.hid (fun W => nears_calls W k n A B ws.length c xs.length d)
 obtain ⟨nk, hnk⟩ : ∃ nk, nearK k = nk := ⟨_, rfl⟩
 rw [hnk] at HNE
 have HNK := Lib.hid hnk
 rw [qA_mk]
 clear hnk
 go_enter Tryz.func109, Tryz.ntmps109
 go_upto_region 1 with (fail)
 generalize (w.alloc (.cells #[.int .i64 k, .slice A ws.length c, .int .i64 n, .slice B xs.length d] 29)) = w1 at *
 generalize w.heap.size = g0 at *
 have x0 := hb.cell 0; have x1 := hb.cell 1; have x2 := hb.cell 2; have x3 := hb.cell 3; simp at x0 x1 x2 x3
 clear hb
 by_cases h4 : kd = 4
 ·subst h4
  have HKD : Hid (nearK 4 = true) := Lib.hid rfl
  by_cases h7 : k = 7
  ·subst h7
   have HR : Hid (encQ 4 i 7 = true) := Lib.hid (by unfold encQ; rw [if_pos HKD.out]; rfl)
   clear HNE
   go_wp2_with fail
   go_ret
   exact ⟨by rw [HR.out]; rfl, HP.out⟩
  ·have h7i : (k == 7) = false := by simpa using h7
   by_cases h1 : i = 1
   ·subst h1
    have HR : Hid (encQ 4 1 k = nk) := Lib.hid (by unfold encQ; rw [if_pos HKD.out, decide_eq_false h7, HNK.out]; rfl)
    go_wp2_with fail
    refine (HNE.out w1).mono ?_
    rintro e w2 ⟨rfl, hm2⟩
    have HP2 := Lib.hid (HP.out.trans hm2)
    clear hm2
    go_wp2_with fail
    go_ret
    exact ⟨by rw [HR.out]; rfl, HP2.out⟩
   ·have h1i : ((i : Int) == 1) = false := by simpa using (show ¬ (i : Int) = 1 by omega)
    have HR : Hid (encQ 4 i k = false) := Lib.hid (by unfold encQ; rw [if_pos HKD.out, decide_eq_false h7, decide_eq_false h1]; rfl)
    clear HNE
    go_wp2_with fail
    go_ret
    exact ⟨by rw [HR.out]; rfl, HP.out⟩
 ·have h4i : (kd == 4) = false := by simpa using h4
  by_cases h5 : kd = 5
  ·subst h5
   have HKD : Hid (nearK 5 = true) := Lib.hid rfl
   by_cases h7 : k = 7
   ·subst h7
    have HR : Hid (encQ 5 i 7 = true) := Lib.hid (by unfold encQ; rw [if_pos HKD.out]; rfl)
    clear HNE
    go_wp2_with fail
    go_ret
    exact ⟨by rw [HR.out]; rfl, HP.out⟩
   ·have h7i : (k == 7) = false := by simpa using h7
    by_cases h1 : i = 1
    ·subst h1
     have HR : Hid (encQ 5 1 k = nk) := Lib.hid (by unfold encQ; rw [if_pos HKD.out, decide_eq_false h7, HNK.out]; rfl)
     go_wp2_with fail
     refine (HNE.out w1).mono ?_
     rintro e w2 ⟨rfl, hm2⟩
     have HP2 := Lib.hid (HP.out.trans hm2)
     clear hm2
     go_wp2_with fail
     go_ret
     exact ⟨by rw [HR.out]; rfl, HP2.out⟩
    ·have h1i : ((i : Int) == 1) = false := by simpa using (show ¬ (i : Int) = 1 by omega)
     have HR : Hid (encQ 5 i k = false) := Lib.hid (by unfold encQ; rw [if_pos HKD.out, decide_eq_false h7, decide_eq_false h1]; rfl)
     clear HNE
     go_wp2_with fail
     go_ret
     exact ⟨by rw [HR.out]; rfl, HP.out⟩
  ·have h5i : (kd == 5) = false := by simpa using h5
   have HKD : Hid (¬ nearK kd = true) := Lib.hid (by unfold nearK; simp; omega)
   by_cases h8 : kd = 8
   ·subst h8
    have HK2 : Hid ((8 : Int) = 6 ∨ (8 : Int) = 8) := Lib.hid (.inr rfl)
    clear h4 h5
    by_cases h6 : k = 6
    ·subst h6
     have HR : Hid (encQ 8 i 6 = true) := Lib.hid (by unfold encQ; rw [if_neg HKD.out, if_pos HK2.out]; rfl)
     clear HNE
     go_wp2_with fail
     go_ret
     exact ⟨by rw [HR.out]; rfl, HP.out⟩
    ·have h6i : (k == 6) = false := by simpa using h6
     by_cases h7 : k = 7
     ·subst h7
      have HR : Hid (encQ 8 i 7 = true) := Lib.hid (by unfold encQ; rw [if_neg HKD.out, if_pos HK2.out]; rfl)
      clear HNE
      go_wp2_with fail
      go_ret
      exact ⟨by rw [HR.out]; rfl, HP.out⟩
     ·have h7i : (k == 7) = false := by simpa using h7
      have HR : Hid (encQ 8 i k = false) := Lib.hid (by unfold encQ; rw [if_neg HKD.out, if_pos HK2.out]; exact decide_eq_false (by omega))
      clear HNE
      go_wp2_with fail
      go_ret
      exact ⟨by rw [HR.out]; rfl, HP.out⟩
   ·have h8i : (kd == 8) = false := by simpa using h8
    by_cases h6' : kd = 6
    ·subst h6'
     have HK2 : Hid ((6 : Int) = 6 ∨ (6 : Int) = 8) := Lib.hid (.inl rfl)
     clear h4 h5 h8
     by_cases h6 : k = 6
     ·subst h6
      have HR : Hid (encQ 6 i 6 = true) := Lib.hid (by unfold encQ; rw [if_neg HKD.out, if_pos HK2.out]; rfl)
      clear HNE
      go_wp2_with fail
      go_ret
      exact ⟨by rw [HR.out]; rfl, HP.out⟩
     ·have h6i : (k == 6) = false := by simpa using h6
      by_cases h7 : k = 7
      ·subst h7
       have HR : Hid (encQ 6 i 7 = true) := Lib.hid (by unfold encQ; rw [if_neg HKD.out, if_pos HK2.out]; rfl)
       clear HNE
       go_wp2_with fail
       go_ret
       exact ⟨by rw [HR.out]; rfl, HP.out⟩
      ·have h7i : (k == 7) = false := by simpa using h7
       have HR : Hid (encQ 6 i k = false) := Lib.hid (by unfold encQ; rw [if_neg HKD.out, if_pos HK2.out]; exact decide_eq_false (by omega))
       clear HNE
       go_wp2_with fail
       go_ret
       exact ⟨by rw [HR.out]; rfl, HP.out⟩
    ·have h6i' : (kd == 6) = false := by simpa using h6'
     have HK2 : Hid (¬ (kd = 6 ∨ kd = 8)) := Lib.hid (by omega)
     clear h4 h5 h8 h6'
     by_cases h7 : k = 7
     ·subst h7
      have HR : Hid (encQ kd i 7 = true) := Lib.hid (by unfold encQ; rw [if_neg HKD.out, if_neg HK2.out]; rfl)
      clear HNE
      go_wp2_with fail
      go_ret
      exact ⟨by rw [HR.out]; rfl, HP.out⟩
     ·have h7i : (k == 7) = false := by simpa using h7
      have HR : Hid (encQ kd i k = false) := Lib.hid (by unfold encQ; rw [if_neg HKD.out, if_neg HK2.out]; exact decide_eq_false h7)
      clear HNE
      go_wp2_with fail
      go_ret
      exact ⟨by rw [HR.out]; rfl, HP.out⟩

end Go.Proofs.YtnfflgicngeekaaGreatDoor
