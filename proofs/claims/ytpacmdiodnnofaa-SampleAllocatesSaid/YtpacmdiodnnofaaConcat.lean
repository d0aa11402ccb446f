/- Lists of lists of truths: slices.IndexFunc, ContainsFunc, Grow, Concat. -/
import Derived.Test.YtpacmdiodnnofaaGains
import Derived.Laws.AppendOwnNone
import Derived.Maps.AppendAt
import Derived.Lib.AppendZerosOnto
namespace Go.Proofs.Ytpacmdiodnnofaa
set_option linter.unusedVariables false
set_option linter.unusedSimpArgs false
open Go.RowKit
attribute [local go_sem ↓] Go.wp_at_zero Go.wp_at_succ

/-- A nil slice is the nil slice. -/
def NilOk (u : Value) : Prop := ∀ n c, u = .slice none n c → n = 0 ∧ c = 0
/-- v is a slice of slices that read as bss. -/
def SlS (w : World) (v : Value) (bss : List (List Bool)) : Prop :=
  ∃ us : List Value, Sl w 69 1 v us ∧ us.length = bss.length ∧ ∀ i, (h : i < bss.length) → ∃ u, us[i]? = some u ∧ Sl w 4 1 u (boolsV bss[i]) ∧ NilOk u
theorem SlS.pure {w w' : World} {v : Value} {bss : List (List Bool)} (h : SlS w v bss) (hm : Pure w w') : SlS w' v bss := by
  obtain ⟨us, h1, h2, h3⟩ := h
  refine ⟨us, h1.pure hm, h2, fun i hi => ?_⟩
  obtain ⟨u, hu, hs, hn⟩ := h3 i hi
  exact ⟨u, hu, hs.pure hm, hn⟩
theorem SlS.form {w : World} {v : Value} {bss : List (List Bool)} (h : SlS w v bss) : ∃ A c, v = .slice A bss.length c ∧ bss.length ≤ c ∧ c ≤ 9223372036854775807 := by
  obtain ⟨us, h1, h2, h3⟩ := h
  obtain ⟨A, n, c, rfl⟩ := h1.form
  obtain ⟨a, b, d⟩ := h1.len
  exact ⟨A, c, by rw [a, h2], by omega, d⟩
/-- The slice at place i. -/
theorem SlS.at {w : World} {A : Option Addr} {n c i : Nat} {bss : List (List Bool)} (h : SlS w (.slice A n c) bss) (hi : i < bss.length) :
    ∃ g off A2 c2, A = some ⟨g, off, none⟩ ∧ w.cell? ⟨g, off + i, none⟩ = some (.slice A2 bss[i].length c2) ∧ Sl w 4 1 (.slice A2 bss[i].length c2) (boolsV bss[i]) ∧ NilOk (.slice A2 bss[i].length c2) := by
  obtain ⟨us, h1, h2, h3⟩ := h
  have hl := h1.len.1
  obtain ⟨g, off, rfl, hr⟩ := h1.row (by omega)
  obtain ⟨u, hu, hs, hn⟩ := h3 i hi
  obtain ⟨A2, n2, c2, rfl⟩ := hs.form
  have hn2 := hs.len.1
  rw [boolsV_len] at hn2
  subst hn2
  exact ⟨g, off, A2, c2, rfl, hr.cell hu, hs, hn⟩

def bigB (n : Nat) : Bool := decide (2000 < n)
set_option maxRecDepth 100000 in
set_option maxHeartbeats 1000000 in
theorem indexFuncS_calls (w : World) (v : Value) (bss : List (List Bool)) (F : Nat) (hv : SlS w v bss)
    (hcf : ∀ (u : Value) (W : World), Sem.run Try.prog (callFunc F #[u]) W = .ok (.enter F #[u]) W)
    (hF : ∀ (A : Option Addr) (n c : Nat) (W : World), n ≤ 9223372036854775807 → Calls Try.prog F #[.slice A n c] W (BoolPost W (bigB n))) :
    Calls Try.prog 97 #[v, .func (.func F) #[] #[]] w (IntPost w (idxP (fun n => bigB n.toNat) (bss.map fun b => (b.length : Int)) 0)) := by
  obtain ⟨A, c, rfl, hc1, hc2⟩ := hv.form
  have HF := Lib.hid hF
  have HV := Lib.hid hv
  clear hF hv
  go_enter Try.func97, Try.ntmps97
  go_wp2_with fail
  go_loopg [8] bss.length (fun gk i wr => ∃ k : Nat, bss.length - k = gk ∧ k ≤ bss.length ∧ i = .int .i64 (k : Int) ∧ idxP (fun n => bigB n.toNat) (bss.map fun b => (b.length : Int)) 0 = idxP (fun n => bigB n.toNat) ((bss.drop k).map fun b => (b.length : Int)) (k : Int) ∧ Pure w wr)
  case atStart => exact ⟨0, by omega, by omega, rfl, rfl, Mod.refl _ _⟩
  case round =>
    obtain ⟨k, rfl, hk, rfl, hix, hm⟩ := hrel
    have HIX := Lib.hid hix
    clear hix
    by_cases hlt : k < bss.length
    · obtain ⟨g, off, A2, c2, rfl, hq, hs, _⟩ := (HV.out.pure hm).at hlt
      obtain ⟨-, hl2, hl3⟩ := hs.len
      have hd : bss.drop k = bss[k] :: bss.drop (k + 1) := List.drop_eq_getElem_cons hlt
      have hi2 : idxP (fun n => bigB n.toNat) (bss.map fun b => (b.length : Int)) 0 = if bigB bss[k].length then (k : Int) else idxP (fun n => bigB n.toNat) ((bss.drop (k + 1)).map fun b => (b.length : Int)) ((k : Int) + 1) := by rw [HIX.out, hd]; rfl
      have HI2 := Lib.hid hi2
      clear hd hi2 HIX hs
      generalize bss[k].length = m at *
      have hcall := HF.out A2 m c2 wr (by omega)
      have HC := Lib.hid hcall
      clear hcall
      go_wp2_with fail
      refine HC.out.mono ?_
      rintro e w1 ⟨rfl, hm1⟩
      cases hp : bigB m
      · go_wp2_with fail
        go_roundg (bss.length - (k + 1))
        case measure => omega
        case rel => exact ⟨k + 1, rfl, hlt, by simp, by rw [HI2.out, hp]; simp, hm.trans hm1⟩
      · go_wp2_with fail
        go_ret
        exact IntPost.of (by rw [HI2.out, hp]; rfl) (hm.trans hm1)
    · have hke : k = bss.length := by omega
      subst hke
      go_wp2_with fail
      go_ret
      exact IntPost.of (by rw [HIX.out, List.drop_of_length_le (Nat.le_refl _)]; rfl) hm

def anyBig (bss : List (List Bool)) : Bool := bss.any fun b => bigB b.length
set_option maxRecDepth 100000 in
set_option maxHeartbeats 1000000 in
theorem containsFuncS_calls (w : World) (v : Value) (bss : List (List Bool)) (F : Nat) (hv : SlS w v bss)
    (hcf : ∀ (u : Value) (W : World), Sem.run Try.prog (callFunc F #[u]) W = .ok (.enter F #[u]) W)
    (hF : ∀ (A : Option Addr) (n c : Nat) (W : World), n ≤ 9223372036854775807 → Calls Try.prog F #[.slice A n c] W (BoolPost W (bigB n))) :
    Calls Try.prog 61 #[v, .func (.func F) #[] #[]] w (BoolPost w (anyBig bss)) := by
  have H := Lib.hid (indexFuncS_calls w v bss F hv hcf hF)
  have hb : decide (0 ≤ idxP (fun n => bigB n.toNat) (bss.map fun b => (b.length : Int)) 0) = anyBig bss := by
    rw [idxP_any _ _ _ (by omega)]
    unfold anyBig
    rw [List.any_map]
    congr 1
  have HB := Lib.hid hb
  clear hF hcf hb
  go_enter Try.func61, Try.ntmps61
  go_wp2_with fail
  refine H.out.mono ?_
  rintro e w1 ⟨rfl, hm1⟩
  go_wp2_with fail
  go_ret
  exact BoolPost.of (by rw [← HB.out]) hm1
set_option maxRecDepth 100000 in
set_option maxHeartbeats 400000 in
theorem stops1_calls (A : Option Addr) (n c : Nat) (W : World) (hn : n ≤ 9223372036854775807) : Calls Try.prog 96 #[.slice A n c] W (BoolPost W (bigB n)) := by
  go_enter Try.func96, Try.ntmps96
  go_wp2_with fail
  go_ret
  exact BoolPost.of (by unfold bigB; congr 1; simp; omega) (Mod.refl _ _)
set_option maxRecDepth 100000 in
set_option maxHeartbeats 400000 in
theorem lstops1_calls (A : Option Addr) (n c : Nat) (W : World) (hn : n ≤ 9223372036854775807) : Calls Try.prog 62 #[.slice A n c] W (BoolPost W (bigB n)) := by
  go_enter Try.func62, Try.ntmps62
  go_wp2_with fail
  go_ret
  exact BoolPost.of (by unfold bigB; congr 1; simp; omega) (Mod.refl _ _)

/-- append, its run given. -/
theorem wpList_append_run {P : Program} {ops : Array Oper} {rest : List Oper} {o : Oper} {a : Act} {Q : Exit → Act → World → Prop} {w : World} (hgd : o.guard = none) (s x : Operand) (t tn : TypeId)
    (ho : o.op = .call { callee := .builtin .append, args := #[s, x], argTypes := #[t, tn] }) (v u r : Value) (w' : World) (hs : a.eval s = v) (hx : a.eval x = u)
    (hr : (Builtin.append_ #[t, tn] o.type #[v, u]).run P w = .ok r w') (h : wpList P ops Q rest (a.put o.dst r) w') : wpList P ops Q (o :: rest) a w := by
  refine wpList_plain hgd fun K hK => ?_
  unfold Oper.wp execOp
  simp only [ho, resolve, invoke, builtin, Sem.run_bind, Sem.run_pure, Result.andThen_ok, List.map_toArray, List.map_cons, List.map_nil, hs, hx, hr]
  exact hK _ _ h

theorem zero_size (z : Array Value) (n : Nat) : (Builtin.zeroCells z n).size = z.size * n := by
  unfold Builtin.zeroCells
  simp [Nat.mul_comm]
def GrowPost (w : World) (e : Ending) (w' : World) : Prop := ∃ v, e = .returned v ∧ w'.ownsRow w.heap.size 4 1 v 0 [] ∧ Pure w w'
set_option maxRecDepth 100000 in
set_option maxHeartbeats 1000000 in
theorem grow_calls (w : World) (n : Nat) (hn : n ≤ 10000000) : Calls Try.prog 120 #[.slice none 0 0, .int .i64 (n : Int)] w (GrowPost w) := by
  by_cases h0 : n = 0
  · subst h0
    go_enter Try.func120, Try.ntmps120
    go_wp2_with fail
    go_ret
    exact ⟨_, rfl, ⟨rfl, .inl ⟨rfl, rfl⟩⟩, Mod.refl _ _⟩
  · obtain ⟨i0, hi0, hz0, hz1, hz2⟩ := info_parts info_bool_
    have hge := grownCap_ge w n 0 4
    have hle := grownCap_le_maxLen w n 0 4 (by simp [maxLen]; omega)
    have hap := Lib.run_append_grow_zeros (P := Try.prog) w 69 3 69 4 i0 (.bool false) .i64 .i64 Try.underlying69 Try.underlying3 hi0 hz0 none 0 0 [] (by simp [Builtin.firstCells]) n (by omega) (by omega) (by omega) (by omega) (by rw [hz2]; omega) (by rw [hz2]; have := nextslicecap_le (need := 0 + n) (old := 0) (by omega); omega)
    simp only [Nat.zero_add] at hap
    generalize hcap : grownCap w n 0 4 = cap at *
    have HCAP := Lib.hid hcap
    unfold maxLen at hle
    have HAP := Lib.hid hap
    clear hcap hap
    go_enter Try.func120, Try.ntmps120
    go_wp2_with (at_builtin; refine wpList_append_run rfl (.tmp 20) (.tmp 21) _ _ rfl _ _ _ _ rfl rfl HAP.out ?_)
    go_ret
    refine ⟨_, rfl, ⟨rfl, .inr ⟨w.heap.size, cap, _, rfl, Nat.le_refl _, heap_alloc_new w.drew _, by omega, by simpa [maxLen] using hle, ?_, by simp⟩⟩, ((Mod.refl _ _).drew).alloc _⟩
    (first | (rw [Array.size_append, Array.size_append, zero_size, zero_size]; simp [Value.cells]; omega) | (rw [Array.size_append, zero_size, zero_size]; simp; omega))

/-- How many truths there are in all. -/
def lens (bss : List (List Bool)) : Nat := bss.flatten.length
theorem lens_take (bss : List (List Bool)) (k : Nat) (h : k < bss.length) : lens (bss.take (k + 1)) = lens (bss.take k) + bss[k].length := by
  unfold lens
  rw [List.take_succ_eq_append_getElem h, List.flatten_append, List.length_append]
  simp
theorem flat_take (bss : List (List Bool)) (k : Nat) (h : k < bss.length) : (bss.take (k + 1)).flatten = (bss.take k).flatten ++ bss[k] := by
  rw [List.take_succ_eq_append_getElem h, List.flatten_append]
  simp
theorem lens_le (bss : List (List Bool)) : ∀ k, lens (bss.take k) ≤ lens bss := by
  intro k
  unfold lens
  conv => rhs; rw [← List.take_append_drop k bss, List.flatten_append, List.length_append]
  omega
def CatRel (w : World) (bss : List (List Bool)) (gk : Nat) (o i : Value) (wr : World) : Prop :=
  ∃ (k : Nat) (v : Value), bss.length - k = gk ∧ k ≤ bss.length ∧ i = .int .i64 (k : Int) ∧ v = o ∧ wr.ownsRow w.heap.size 4 1 v (lens (bss.take k)) (boolsV (bss.take k).flatten) ∧ Pure w wr

set_option maxRecDepth 100000 in
set_option maxHeartbeats 2000000 in
theorem concat_calls (w : World) (v : Value) (bss : List (List Bool)) (hv : SlS w v bss) (hl : lens bss ≤ 10000000) : Calls Try.prog 98 #[v] w (OwnPost w 4 (boolsV bss.flatten)) := by
  obtain ⟨i0, hi0, hz0, hz1, hz2⟩ := info_parts info_bool_
  obtain ⟨A, c, rfl, hc1, hc2⟩ := hv.form
  have HV := Lib.hid hv
  clear hv
  go_enter Try.func98, Try.ntmps98
  go_wp2_with fail
  go_loopg [3, 11] bss.length (fun gk t i wr => ∃ k : Nat, bss.length - k = gk ∧ k ≤ bss.length ∧ i = .int .i64 (k : Int) ∧ t = .int .i64 (lens (bss.take k) : Int) ∧ Pure w wr)
  case atStart => exact ⟨0, by omega, by omega, rfl, rfl, Mod.refl _ _⟩
  case round =>
    obtain ⟨k, rfl, hk, rfl, rfl, hm⟩ := hrel
    have hle := lens_le bss k
    by_cases hlt : k < bss.length
    · obtain ⟨g, off, A2, c2, rfl, hq, hs, _⟩ := (HV.out.pure hm).at hlt
      obtain ⟨-, hl2, hl3⟩ := hs.len
      have hle2 := lens_le bss (k + 1)
      have HT := Lib.hid (lens_take bss k hlt)
      rw [HT.out] at hle2
      clear hs
      generalize bss[k].length = m at *
      generalize lens (bss.take k) = t0 at *
      go_wp2_with fail
      go_roundg (bss.length - (k + 1))
      case measure => omega
      case rel => exact ⟨k + 1, rfl, hlt, by simp, by rw [HT.out]; simp, hm⟩
    · have hke : k = bss.length := by omega
      subst hke
      rw [List.take_length] at hle ⊢
      go_wp2_with fail
      refine (grow_calls _ (lens bss) hl).mono ?_
      rintro e w1 ⟨v1, rfl, hown1, hm1⟩
      have hown1' : w1.ownsRow w.heap.size 4 1 v1 0 [] := by
        obtain ⟨h1, h2⟩ := hown1
        refine ⟨h1, ?_⟩
        rcases h2 with h2 | ⟨g, cap, cur, hvv, hg, r⟩
        · exact .inl h2
        · exact .inr ⟨g, cap, cur, hvv, Nat.le_trans hm.size hg, r⟩
      have m1 : Pure w w1 := hm.trans hm1
      clear hm hm1 hown1
      go_wp2_with fail
      go_loopg [6, 27] bss.length (fun gk o i wr => CatRel w bss gk o i wr)
      case atStart => exact ⟨0, v1, by omega, by omega, rfl, rfl, hown1', m1⟩
      case round =>
        clear hown1' m1
        obtain ⟨k, v, rfl, hk, rfl, rfl, hown, hm⟩ := hrel
        have hle := lens_le bss k
        by_cases hlt : k < bss.length
        · obtain ⟨g, off, A2, c2, rfl, hq, hs, hnil⟩ := (HV.out.pure hm).at hlt
          obtain ⟨-, hl2, hl3⟩ := hs.len
          have hle2 := lens_le bss (k + 1)
          have HT := Lib.hid (lens_take bss k hlt)
          have HF := Lib.hid (flat_take bss k hlt)
          rw [HT.out] at hle2
          have hsz := hm.size
          cases A2 with
          | none =>
            obtain ⟨h1, h2⟩ := hnil _ _ rfl
            subst h2
            have hz : bss[k] = [] := List.eq_nil_of_length_eq_zero h1
            have HZ := Lib.hid hz
            rw [hz] at hq
            clear hs hnil hz h1
            go_wp2_with (at_builtin; (refine wpList_append_own_none rfl _ _ _ rfl w.heap.size 4 i0 1 Try.underlying69 hi0 v _ _ rfl hown rfl ?_))
            go_roundg (bss.length - (k + 1))
            case measure => omega
            case rel => exact ⟨k + 1, v, rfl, hlt, by simp, rfl, by rw [HT.out, HF.out, HZ.out]; simpa using hown, hm⟩
          | some ad =>
            have hn : ∀ j u, (boolsV bss[k])[j]? = some u → wr.cell? (ad.add j) = some u := by
              intro j u hu
              have hjl : j < bss[k].length := by
                rcases Nat.lt_or_ge j (boolsV bss[k]).length with h | h
                · rwa [boolsV_len] at h
                · rw [List.getElem?_eq_none h] at hu; cases hu
              obtain ⟨g3, o3, he3, hr3⟩ := hs.row (by omega)
              injection he3 with he3
              subst he3
              have := hr3.cell hu
              unfold Addr.add
              split
              · rename_i hj
                subst hj
                simpa using this
              · exact this
            have HN := Lib.hid hn
            have hone : ∀ u ∈ boolsV bss[k], u.oneCell' = true := by
              intro u hu
              obtain ⟨x, _, rfl⟩ := List.mem_map.1 hu
              rfl
            have HO := Lib.hid hone
            have hbl := boolsV_len bss[k]
            have HBL := Lib.hid hbl
            clear hs hnil hn hone hbl
            generalize bss[k] = bk at *
            generalize hm0 : bk.length = m at *
            have HM0 := Lib.hid hm0
            clear hm0
            generalize lens (bss.take k) = t0 at *
            go_wp2_with (at_builtin; refine wpList_append_own_at _ rfl _ _ _ rfl w.heap.size 4 i0 _ 1 1 Try.underlying69 hi0 hz0 hz1 hz2 rfl (by omega) v t0 _ rfl hown ad m c2 (boolsV bk) rfl (by rw [HBL.out]; omega) HN.out HO.out (by simp [maxLen]; omega) (by omega) (by omega) ?_; intro v5 w5 hown5 hgrow hn5 hat)
            go_roundg (bss.length - (k + 1))
            case measure => omega
            case rel => exact ⟨k + 1, v5, rfl, hlt, by simp, rfl, by rw [HT.out, HF.out]; simpa [boolsV] using hown5, hm.grown hgrow (fun j hj => .inr (own_block hown j hj))⟩
        · have hke : k = bss.length := by omega
          subst hke
          go_wp2_with fail
          go_ret
          exact ⟨_, _, rfl, by rw [List.take_length] at hown; exact hown, hm⟩

end Go.Proofs.Ytpacmdiodnnofaa
