/- slices.SortStableFunc over few numbers: the insertion sort. -/
import Derived.Test.YtpacmdiodnnofaaAlloc
namespace Go.Proofs.Ytpacmdiodnnofaa
set_option linter.unusedVariables false
set_option linter.unusedSimpArgs false
open Go.RowKit
attribute [local go_sem ↓] Go.wp_at_zero Go.wp_at_succ

def natsV (l : List Nat) : List Value := l.map fun (x : Nat) => Value.int .i64 (x : Int)
theorem natsV_get (l : List Nat) (i : Nat) (h : i < l.length) : (natsV l)[i]? = some (.int .i64 (l[i] : Int)) := by simp [natsV, h]
theorem natsV_len (l : List Nat) : (natsV l).length = l.length := by simp [natsV]
/-- s with x put in at place j, and r behind it. -/
def put (s : List Nat) (x j : Nat) (r : List Nat) : List Nat := s.take j ++ x :: s.drop j ++ r
theorem put_len (s : List Nat) (x j : Nat) (r : List Nat) (h : j ≤ s.length) : (put s x j r).length = s.length + 1 + r.length := by
  unfold put
  simp
  omega
theorem put_at {s : List Nat} {x j : Nat} {r : List Nat} (h : j ≤ s.length) : (natsV (put s x j r))[j]? = some (.int .i64 (x : Int)) := by
  unfold natsV put
  simp [List.getElem?_append, Nat.min_eq_left h]
theorem put_before {s : List Nat} {x j y : Nat} {r : List Nat} (h : j + 1 ≤ s.length) (hy : s[j]? = some y) : (natsV (put s x (j + 1) r))[j]? = some (.int .i64 (y : Int)) := by
  unfold natsV put
  have hj : j < s.length := by omega
  rw [List.getElem?_eq_getElem hj] at hy
  injection hy with hy
  simp [List.getElem?_append, List.getElem?_take, Nat.min_eq_left h, hy]
theorem put_swap {s : List Nat} {x j y : Nat} {r : List Nat} (h : j + 1 ≤ s.length) (hy : s[j]? = some y) : ((natsV (put s x (j + 1) r)).set (j + 1) (.int .i64 (y : Int))).set j (.int .i64 (x : Int)) = natsV (put s x j r) := by
  have e1 : s.take (j + 1) = s.take j ++ [y] := by
    rw [List.take_add_one, hy]
    rfl
  have e2 : s.drop j = y :: s.drop (j + 1) := by
    have hj : j < s.length := by omega
    rw [List.drop_eq_getElem_cons hj]
    rw [List.getElem?_eq_getElem hj] at hy
    injection hy with hy
    rw [hy]
  have hl : (s.take j).length = j := by simp; omega
  unfold put
  rw [e1, e2]
  unfold natsV
  simp only [List.map_append, List.map_cons, List.map_nil, List.append_assoc, List.cons_append, List.nil_append]
  generalize hA : (s.take j).map (fun (x : Nat) => Value.int .i64 (x : Int)) = A
  have hAl : A.length = j := by rw [← hA]; simpa using hl
  rw [List.set_append_right _ _ (by omega), List.set_append_right _ _ (by omega), hAl]
  simp

def InsRel (w : World) (base g cap n : Nat) (f : Nat → Int) (gk : Nat) (i : Value) (wr : World) : Prop :=
  ∃ (k : Nat) (s : List Nat), n - k = gk ∧ 1 ≤ k ∧ (k ≤ n ∨ n = 0) ∧ i = .int .i64 (k : Int) ∧ IsOrd f k s ∧ wr.ownsRow base 3 1 (.slice (some ⟨g, 0, none⟩) n cap) n (natsV (s ++ (List.range n).drop k)) ∧ Mod (fun j => j = g) w wr
def InsIn (w : World) (base g cap n : Nat) (f : Nat → Int) (k : Nat) (s : List Nat) (gk : Nat) (j : Value) (wr : World) : Prop :=
  ∃ m : Nat, m = gk ∧ m ≤ k ∧ j = .int .i64 (m : Int) ∧ (∀ y ∈ s.drop m, f y < f k) ∧ wr.ownsRow base 3 1 (.slice (some ⟨g, 0, none⟩) n cap) n (natsV (put s k m ((List.range n).drop (k + 1)))) ∧ Mod (fun j => j = g) w wr
def SortPost (w : World) (base g cap n : Nat) (f : Nat → Int) (e : Ending) (w' : World) : Prop :=
  ∃ s, IsOrd f n s ∧ e = .returned (.tuple #[]) ∧ w'.ownsRow base 3 1 (.slice (some ⟨g, 0, none⟩) n cap) n (natsV s) ∧ Mod (fun j => j = g) w w'
theorem range_drop {n k : Nat} (h : k < n) : (List.range n).drop k = k :: (List.range n).drop (k + 1) := by
  rw [List.drop_eq_getElem_cons (by simpa using h)]
  simp

set_option maxRecDepth 100000 in
set_option maxHeartbeats 4000000 in
theorem insSort_calls (w : World) (base g cap n F : Nat) (c1 c2 c3 : Value) (f : Nat → Int) (hn : 1 ≤ n) (hn2 : n ≤ 1000) (hf : ∀ i, i < n → 0 ≤ f i ∧ f i ≤ 1000000000)
    (hown : w.ownsRow base 3 1 (.slice (some ⟨g, 0, none⟩) n cap) n (natsV (List.range n)))
    (hcf : ∀ (x y : Int) (W : World), Sem.run Try.prog (callFunc F #[.int .i64 x, .int .i64 y, c1, c2, c3]) W = .ok (.enter F #[.int .i64 x, .int .i64 y, c1, c2, c3]) W)
    (hF : ∀ (x y : Nat) (W : World), x < n → y < n → Mod (fun j => j = g) w W → Calls Try.prog F #[.int .i64 (x : Int), .int .i64 (y : Int), c1, c2, c3] W (IntPost W (f y - f x))) :
    Calls Try.prog 131 #[.slice (some ⟨g, 0, none⟩) n cap, .int .i64 0, .int .i64 (n : Int), .func (.func F) #[] #[c1, c2, c3]] w (SortPost w base g cap n f) := by
  have HF := Lib.hid hF
  have HFB := Lib.hid hf
  have hcapn : n ≤ cap := by
    rcases hown.2 with ⟨h, _⟩ | ⟨g', cap', cur, h, _, _, hc, _⟩
    · cases h
    · injection h with _ _ h3
      omega
  clear hF hf
  go_enter Try.func131, Try.ntmps131
  go_wp2_with fail
  go_loopg [8] (n - 1) (fun gk i wr => InsRel w base g cap n f gk i wr)
  case atStart =>
    refine ⟨1, [0], rfl, by omega, .inl hn, rfl, ⟨List.pairwise_singleton _ _, List.Perm.refl _⟩, ?_, Mod.refl _ _⟩
    rw [show [0] ++ (List.range n).drop 1 = List.range n by rw [List.singleton_append, ← range_drop hn]; rfl]
    exact hown
  case round =>
    obtain ⟨k, s, rfl, hk1, hk2, rfl, hord, hown2, hm⟩ := hrel
    have hkn : k ≤ n := by omega
    have hsl := hord.len
    have HORD := Lib.hid hord
    clear hord hk2
    by_cases hlt : k < n
    · have hown3 : wr.ownsRow base 3 1 (.slice (some ⟨g, 0, none⟩) n cap) n (natsV (put s k k ((List.range n).drop (k + 1)))) := by
        have e : put s k k ((List.range n).drop (k + 1)) = s ++ (List.range n).drop k := by
          unfold put
          rw [range_drop hlt, List.take_of_length_le (by omega), List.drop_of_length_le (by omega)]
          simp
        rw [e]
        exact hown2
      have HSL := Lib.hid hsl
      clear hown2 hsl
      go_wp2_with fail
      obtain ⟨wo, rfl⟩ : ∃ wo : World, wo = wr := ⟨_, rfl⟩
      go_loopg [9] k (fun gk j wr => InsIn w base g cap n f k s gk j wr)
      case atStart => exact ⟨k, rfl, by omega, rfl, fun y hy => (by rw [List.drop_of_length_le (by rw [HSL.out]; omega)] at hy; cases hy), hown3, hm⟩
      case round =>
        clear hown3 hm
        obtain ⟨m, rfl, hmk, rfl, hgt, hown4, hm⟩ := hrel
        have HGT := Lib.hid hgt
        clear hgt
        by_cases h0 : m = 0
        · subst h0
          go_wp2_with fail
          have HGs := Lib.hid (show ∀ (D : Nat → Bool) (i : Nat) (w w' : World), (fun _ w => (fun _ => True) w) D w → Mod (fun _ => False) w w' → (fun _ w => (fun _ => True) w) (upd D i true) w' from by intro D i w w' h hm; (exact h))
          refine wp_region_inv (by kernel_rfl) (by kernel_rfl) (InvF (R := Mod (fun _ => False)) [.is (.int .i64 0),
              .is (.int .i64 0),
              .is (.bool false),
              .is (.bool false),
              .is (undef),
              .is (undef),
              .is (undef),
              .is (undef),
              .is (undef),
              .is (undef),
              .is (undef),
              .is (undef),
              .is (undef),
              .is (undef),
              .is (undef),
              .is (undef),
              .is (.bool false)]
              (PB wr (fun _ => False) wr.heap.size (fun _ w => (fun _ => True) w))) (InvF.start (PB.start (Mod.refl _ _) (Nat.le_refl _) (trivial))) ?_ ?_
          · refine .cons ?_ (.cons ?_ (.cons ?_ (.cons ?_ (.cons ?_ (.cons ?_ (.cons ?_ (.cons ?_ (.cons ?_ (.cons ?_ (.cons ?_ (.cons ?_ (.cons ?_ (.cons ?_ (.cons ?_ (.cons ?_ (.cons ?_ .nil))))))))))))))))
            · intro D V zw1 a hR hI K hK   -- 0: Op.move (Operand.tmp 9)
              obtain ⟨hM1, hB1, hG1⟩ := hI.1
              have ze9 := hR.frame.other (t := 9) (by kernel_rfl) rfl
              rw [if_pos (by rfl)]
              go_simp
              exact hK (.int .i64 0) _ (hI.next hR (by kernel_rfl) (Mod.refl _ _) (PB.quiet hI.1 (Mod.refl _ _) (HGs.out D 0 zw1 zw1 (hI.1).g (Mod.refl _ _))) (upd_same V 0 _))
            · intro D V zw1 a hR hI K hK   -- 1: Op.move (Operand.tmp 1)
              obtain ⟨hM1, hB1, hG1⟩ := hI.1
              have ze1 := hR.frame.other (t := 1) (by kernel_rfl) rfl
              rw [if_pos (by rfl)]
              go_simp
              exact hK (.int .i64 0) _ (hI.next hR (by kernel_rfl) (Mod.refl _ _) (PB.quiet hI.1 (Mod.refl _ _) (HGs.out D 1 zw1 zw1 (hI.1).g (Mod.refl _ _))) (upd_same V 1 _))
            · intro D V zw1 a hR hI K hK   -- 2: Op.binOp BinOp.gtr 3 (Operand.tmp 18) (Operand.tmp 19) 3
              obtain ⟨hM1, hB1, hG1⟩ := hI.1
              have zd0 := hR.pred 0 (by kernel_rfl)
              have zF0 : V 0 = .int .i64 0 := hI.2 0 zd0 rfl
              have zf0 := zF0; clear zF0
              have zd1 := hR.pred 1 (by kernel_rfl)
              have zF1 : V 1 = .int .i64 0 := hI.2 1 zd1 rfl
              have zf1 := zF1; clear zF1
              have ze18 := hR.frame.done (t := 18) (j := 0) (by kernel_rfl) hR.ok zd0
              have ze19 := hR.frame.done (t := 19) (j := 1) (by kernel_rfl) hR.ok zd1
              rw [if_pos (by rfl)]
              go_simp
              exact hK (.bool false) _ (hI.next hR (by kernel_rfl) (Mod.refl _ _) (PB.quiet hI.1 (Mod.refl _ _) (HGs.out D 2 zw1 zw1 (hI.1).g (Mod.refl _ _))) (upd_same V 2 _))
            · intro D V zw1 a hR hI K hK   -- 3: Op.move (Operand.tmp 20)
              obtain ⟨hM1, hB1, hG1⟩ := hI.1
              have zd2 := hR.pred 2 (by kernel_rfl)
              have zF2 : V 2 = .bool false := hI.2 2 zd2 rfl
              have zf2 := zF2; clear zF2
              have ze20 := hR.frame.done (t := 20) (j := 2) (by kernel_rfl) hR.ok zd2
              rw [if_pos (by rfl)]
              go_simp
              exact hK (.bool false) _ (hI.next hR (by kernel_rfl) (Mod.refl _ _) (PB.quiet hI.1 (Mod.refl _ _) (HGs.out D 3 zw1 zw1 (hI.1).g (Mod.refl _ _))) (upd_same V 3 _))
            · intro D V zw1 a hR hI K hK   -- 4: Op.move (Operand.tmp 3)
              obtain ⟨hM1, hB1, hG1⟩ := hI.1
              have zd3 := hR.pred 3 (by kernel_rfl)
              have zF3 : V 3 = .bool false := hI.2 3 zd3 rfl
              have zf3 := zF3; clear zF3
              have ze21 := hR.frame.done (t := 21) (j := 3) (by kernel_rfl) hR.ok zd3
              rw [if_neg (by simp [Region.wanted, yielded, ze21, zf3])]
              exact hK undef _ (hI.next hR (by kernel_rfl) (Mod.refl _ _) (PB.quiet hI.1 (Mod.refl _ _) (HGs.out D 4 zw1 zw1 (hI.1).g (Mod.refl _ _))) (upd_same V 4 _))
            · intro D V zw1 a hR hI K hK   -- 5: Op.move (Operand.tmp 0)
              obtain ⟨hM1, hB1, hG1⟩ := hI.1
              have zd3 := hR.pred 3 (by kernel_rfl)
              have zF3 : V 3 = .bool false := hI.2 3 zd3 rfl
              have zf3 := zF3; clear zF3
              have ze21 := hR.frame.done (t := 21) (j := 3) (by kernel_rfl) hR.ok zd3
              rw [if_neg (by simp [Region.wanted, yielded, ze21, zf3])]
              exact hK undef _ (hI.next hR (by kernel_rfl) (Mod.refl _ _) (PB.quiet hI.1 (Mod.refl _ _) (HGs.out D 5 zw1 zw1 (hI.1).g (Mod.refl _ _))) (upd_same V 5 _))
            · intro D V zw1 a hR hI K hK   -- 6: Op.move (Operand.tmp 9)
              obtain ⟨hM1, hB1, hG1⟩ := hI.1
              have zd3 := hR.pred 3 (by kernel_rfl)
              have zF3 : V 3 = .bool false := hI.2 3 zd3 rfl
              have zf3 := zF3; clear zF3
              have ze21 := hR.frame.done (t := 21) (j := 3) (by kernel_rfl) hR.ok zd3
              rw [if_neg (by simp [Region.wanted, yielded, ze21, zf3])]
              exact hK undef _ (hI.next hR (by kernel_rfl) (Mod.refl _ _) (PB.quiet hI.1 (Mod.refl _ _) (HGs.out D 6 zw1 zw1 (hI.1).g (Mod.refl _ _))) (upd_same V 6 _))
            · intro D V zw1 a hR hI K hK   -- 7: Op.indexAddr 22 (Operand.tmp 23) (Operand.tmp 24)
              obtain ⟨hM1, hB1, hG1⟩ := hI.1
              have zd3 := hR.pred 3 (by kernel_rfl)
              have zF3 : V 3 = .bool false := hI.2 3 zd3 rfl
              have zf3 := zF3; clear zF3
              have ze21 := hR.frame.done (t := 21) (j := 3) (by kernel_rfl) hR.ok zd3
              rw [if_neg (by simp [Region.wanted, yielded, ze21, zf3])]
              exact hK undef _ (hI.next hR (by kernel_rfl) (Mod.refl _ _) (PB.quiet hI.1 (Mod.refl _ _) (HGs.out D 7 zw1 zw1 (hI.1).g (Mod.refl _ _))) (upd_same V 7 _))
            · intro D V zw1 a hR hI K hK   -- 8: Op.load 3 (Operand.tmp 25)
              obtain ⟨hM1, hB1, hG1⟩ := hI.1
              have zd3 := hR.pred 3 (by kernel_rfl)
              have zF3 : V 3 = .bool false := hI.2 3 zd3 rfl
              have zf3 := zF3; clear zF3
              have ze21 := hR.frame.done (t := 21) (j := 3) (by kernel_rfl) hR.ok zd3
              rw [if_neg (by simp [Region.wanted, yielded, ze21, zf3])]
              exact hK undef _ (hI.next hR (by kernel_rfl) (Mod.refl _ _) (PB.quiet hI.1 (Mod.refl _ _) (HGs.out D 8 zw1 zw1 (hI.1).g (Mod.refl _ _))) (upd_same V 8 _))
            · intro D V zw1 a hR hI K hK   -- 9: Op.move (Operand.tmp 0)
              obtain ⟨hM1, hB1, hG1⟩ := hI.1
              have zd3 := hR.pred 3 (by kernel_rfl)
              have zF3 : V 3 = .bool false := hI.2 3 zd3 rfl
              have zf3 := zF3; clear zF3
              have ze21 := hR.frame.done (t := 21) (j := 3) (by kernel_rfl) hR.ok zd3
              rw [if_neg (by simp [Region.wanted, yielded, ze21, zf3])]
              exact hK undef _ (hI.next hR (by kernel_rfl) (Mod.refl _ _) (PB.quiet hI.1 (Mod.refl _ _) (HGs.out D 9 zw1 zw1 (hI.1).g (Mod.refl _ _))) (upd_same V 9 _))
            · intro D V zw1 a hR hI K hK   -- 10: Op.move (Operand.tmp 9)
              obtain ⟨hM1, hB1, hG1⟩ := hI.1
              have zd3 := hR.pred 3 (by kernel_rfl)
              have zF3 : V 3 = .bool false := hI.2 3 zd3 rfl
              have zf3 := zF3; clear zF3
              have ze21 := hR.frame.done (t := 21) (j := 3) (by kernel_rfl) hR.ok zd3
              rw [if_neg (by simp [Region.wanted, yielded, ze21, zf3])]
              exact hK undef _ (hI.next hR (by kernel_rfl) (Mod.refl _ _) (PB.quiet hI.1 (Mod.refl _ _) (HGs.out D 10 zw1 zw1 (hI.1).g (Mod.refl _ _))) (upd_same V 10 _))
            · intro D V zw1 a hR hI K hK   -- 11: Op.binOp BinOp.sub 3 (Operand.tmp 28) (Operand.const (Value.int IntKin
              obtain ⟨hM1, hB1, hG1⟩ := hI.1
              have zd3 := hR.pred 3 (by kernel_rfl)
              have zF3 : V 3 = .bool false := hI.2 3 zd3 rfl
              have zf3 := zF3; clear zF3
              have ze21 := hR.frame.done (t := 21) (j := 3) (by kernel_rfl) hR.ok zd3
              rw [if_neg (by simp [Region.wanted, yielded, ze21, zf3])]
              exact hK undef _ (hI.next hR (by kernel_rfl) (Mod.refl _ _) (PB.quiet hI.1 (Mod.refl _ _) (HGs.out D 11 zw1 zw1 (hI.1).g (Mod.refl _ _))) (upd_same V 11 _))
            · intro D V zw1 a hR hI K hK   -- 12: Op.indexAddr 22 (Operand.tmp 27) (Operand.tmp 29)
              obtain ⟨hM1, hB1, hG1⟩ := hI.1
              have zd3 := hR.pred 3 (by kernel_rfl)
              have zF3 : V 3 = .bool false := hI.2 3 zd3 rfl
              have zf3 := zF3; clear zF3
              have ze21 := hR.frame.done (t := 21) (j := 3) (by kernel_rfl) hR.ok zd3
              rw [if_neg (by simp [Region.wanted, yielded, ze21, zf3])]
              exact hK undef _ (hI.next hR (by kernel_rfl) (Mod.refl _ _) (PB.quiet hI.1 (Mod.refl _ _) (HGs.out D 12 zw1 zw1 (hI.1).g (Mod.refl _ _))) (upd_same V 12 _))
            · intro D V zw1 a hR hI K hK   -- 13: Op.load 3 (Operand.tmp 30)
              obtain ⟨hM1, hB1, hG1⟩ := hI.1
              have zd3 := hR.pred 3 (by kernel_rfl)
              have zF3 : V 3 = .bool false := hI.2 3 zd3 rfl
              have zf3 := zF3; clear zF3
              have ze21 := hR.frame.done (t := 21) (j := 3) (by kernel_rfl) hR.ok zd3
              rw [if_neg (by simp [Region.wanted, yielded, ze21, zf3])]
              exact hK undef _ (hI.next hR (by kernel_rfl) (Mod.refl _ _) (PB.quiet hI.1 (Mod.refl _ _) (HGs.out D 13 zw1 zw1 (hI.1).g (Mod.refl _ _))) (upd_same V 13 _))
            · intro D V zw1 a hR hI K hK   -- 14: Op.call { callee := Callee.value (Operand.tmp 22), args := #[Operand.t
              obtain ⟨hM1, hB1, hG1⟩ := hI.1
              have zd3 := hR.pred 3 (by kernel_rfl)
              have zF3 : V 3 = .bool false := hI.2 3 zd3 rfl
              have zf3 := zF3; clear zF3
              have ze21 := hR.frame.done (t := 21) (j := 3) (by kernel_rfl) hR.ok zd3
              rw [if_neg (by simp [Region.wanted, yielded, ze21, zf3])]
              exact hK undef _ (hI.next hR (by kernel_rfl) (Mod.refl _ _) (PB.quiet hI.1 (Mod.refl _ _) (HGs.out D 14 zw1 zw1 (hI.1).g (Mod.refl _ _))) (upd_same V 14 _))
            · intro D V zw1 a hR hI K hK   -- 15: Op.binOp BinOp.lss 3 (Operand.tmp 32) (Operand.const (Value.int IntKin
              obtain ⟨hM1, hB1, hG1⟩ := hI.1
              have zd3 := hR.pred 3 (by kernel_rfl)
              have zF3 : V 3 = .bool false := hI.2 3 zd3 rfl
              have zf3 := zF3; clear zF3
              have ze21 := hR.frame.done (t := 21) (j := 3) (by kernel_rfl) hR.ok zd3
              rw [if_neg (by simp [Region.wanted, yielded, ze21, zf3])]
              exact hK undef _ (hI.next hR (by kernel_rfl) (Mod.refl _ _) (PB.quiet hI.1 (Mod.refl _ _) (HGs.out D 15 zw1 zw1 (hI.1).g (Mod.refl _ _))) (upd_same V 15 _))
            · intro D V zw1 a hR hI K hK   -- 16: Op.pick (Operand.tmp 21) (Operand.tmp 33) (Operand.const (Value.bool f
              obtain ⟨hM1, hB1, hG1⟩ := hI.1
              have zd3 := hR.pred 3 (by kernel_rfl)
              have zF3 : V 3 = .bool false := hI.2 3 zd3 rfl
              have zf3 := zF3; clear zF3
              have zd15 := hR.pred 15 (by kernel_rfl)
              have zF15 : V 15 = undef := hI.2 15 zd15 rfl
              have zf15 := zF15; clear zF15
              have ze21 := hR.frame.done (t := 21) (j := 3) (by kernel_rfl) hR.ok zd3
              have ze33 := hR.frame.done (t := 33) (j := 15) (by kernel_rfl) hR.ok zd15
              rw [if_pos (by rfl)]
              go_simp
              exact hK (.bool false) _ (hI.next hR (by kernel_rfl) (Mod.refl _ _) (PB.quiet hI.1 (Mod.refl _ _) (HGs.out D 16 zw1 zw1 (hI.1).g (Mod.refl _ _))) (upd_same V 16 _))
          · intro D V w2 hD hI
            obtain ⟨hM1, hB1, hG1⟩ := hI.1
            have hMx := hM1
            clear hM1
            have hBx := hB1
            clear hB1
            clear hG1
            have zF0 : V 0 = .int .i64 0 := hI.2 0 (hD 0 (by decide)) rfl
            have zf0 := zF0; clear zF0
            have zF1 : V 1 = .int .i64 0 := hI.2 1 (hD 1 (by decide)) rfl
            have zf1 := zF1; clear zF1
            have zF2 : V 2 = .bool false := hI.2 2 (hD 2 (by decide)) rfl
            have zf2 := zF2; clear zF2
            have zF3 : V 3 = .bool false := hI.2 3 (hD 3 (by decide)) rfl
            have zf3 := zF3; clear zF3
            have zF4 : V 4 = undef := hI.2 4 (hD 4 (by decide)) rfl
            have zf4 := zF4; clear zF4
            have zF5 : V 5 = undef := hI.2 5 (hD 5 (by decide)) rfl
            have zf5 := zF5; clear zF5
            have zF6 : V 6 = undef := hI.2 6 (hD 6 (by decide)) rfl
            have zf6 := zF6; clear zF6
            have zF7 : V 7 = undef := hI.2 7 (hD 7 (by decide)) rfl
            have zf7 := zF7; clear zF7
            have zF8 : V 8 = undef := hI.2 8 (hD 8 (by decide)) rfl
            have zf8 := zF8; clear zF8
            have zF9 : V 9 = undef := hI.2 9 (hD 9 (by decide)) rfl
            have zf9 := zF9; clear zF9
            have zF10 : V 10 = undef := hI.2 10 (hD 10 (by decide)) rfl
            have zf10 := zF10; clear zF10
            have zF11 : V 11 = undef := hI.2 11 (hD 11 (by decide)) rfl
            have zf11 := zF11; clear zF11
            have zF12 : V 12 = undef := hI.2 12 (hD 12 (by decide)) rfl
            have zf12 := zF12; clear zF12
            have zF13 : V 13 = undef := hI.2 13 (hD 13 (by decide)) rfl
            have zf13 := zF13; clear zF13
            have zF14 : V 14 = undef := hI.2 14 (hD 14 (by decide)) rfl
            have zf14 := zF14; clear zF14
            have zF15 : V 15 = undef := hI.2 15 (hD 15 (by decide)) rfl
            have zf15 := zF15; clear zF15
            have zF16 : V 16 = .bool false := hI.2 16 (hD 16 (by decide)) rfl
            have zf16 := zF16; clear zF16
            clear hI hD HGs
            simp only [frAll, Act.put, List.setIfInBounds_toArray, List.set_cons_zero, List.set_cons_succ, Nat.zero_add, Nat.reduceAdd, zf0, zf1, zf2, zf3, zf4, zf5, zf6, zf7, zf8, zf9, zf10, zf11, zf12, zf13, zf14, zf15, zf16]
            clear zf0 zf1 zf2 zf3 zf4 zf5 zf6 zf7 zf8 zf9 zf10 zf11 zf12 zf13 zf14 zf15 zf16
            clear V D
            have m2 : Mod (fun j => j = g) w w2 := hm.trans (Mod.of_pure hMx)
            have hown5 := own_pure hown4 hMx
            clear hown4 hm hMx
            go_wp2_with fail
            go_roundg (n - (k + 1))
            case measure => omega
            case rel => exact ⟨k + 1, k :: s, rfl, by omega, .inl (by omega), by simp, HORD.out.insert 0 (by omega) HGT.out (fun y h => absurd h (by omega)), hown5, m2⟩
        · obtain ⟨m, rfl⟩ : ∃ m', m = m' + 1 := ⟨m - 1, by omega⟩
          obtain ⟨y, hy⟩ : ∃ y, s[m]? = some y := ⟨s[m]'(by rw [HSL.out]; omega), List.getElem?_eq_getElem _⟩
          have hyn : y < n := by
            have : y < k := HORD.out.lt (List.mem_of_getElem? hy)
            omega
          have z1 := (hown4.cellAt (m + 1) (by omega)).trans (put_at (by rw [HSL.out]; omega))
          have z0 := (hown4.cellAt m (by omega)).trans (put_before (by rw [HSL.out]; omega) hy)
          have y1 := hown4.frozenAt (m + 1)
          have y0 := hown4.frozenAt m
          have HY := Lib.hid hy
          obtain ⟨fb1, fb2⟩ := HFB.out y hyn
          obtain ⟨fb3, fb4⟩ := HFB.out k hlt
          have e1 : IntKind.i64.wrap ((m : Int) + 1 - 1) = (m : Int) := by rw [Int.add_sub_cancel]; exact IntWalk.i64_in _ (by omega)
          have e2 : IntKind.i64.wrap (m : Int) = (m : Int) := IntWalk.i64_in _ (by omega)
          have j1 : (0 : Int) ≤ (m : Int) + 1 := by omega
          have j2 : (m : Int) + 1 < (n : Int) := by omega
          have j3 : (0 : Int) ≤ (m : Int) := by omega
          have j4 : (m : Int) < (n : Int) := by omega
          clear hy h0
          go_wp2_with fail
          have HGs := Lib.hid (show ∀ (D : Nat → Bool) (i : Nat) (w w' : World), (fun _ w => (fun w => w.cell? ⟨g, m + 1, none⟩ = some (.int .i64 (k : Int)) ∧ w.cell? ⟨g, m, none⟩ = some (.int .i64 (y : Int))) w) D w → Mod (fun _ => False) w w' → (fun _ w => (fun w => w.cell? ⟨g, m + 1, none⟩ = some (.int .i64 (k : Int)) ∧ w.cell? ⟨g, m, none⟩ = some (.int .i64 (y : Int))) w) (upd D i true) w' from by intro D i w w' h hm; (exact ⟨hm.keep h.1 id, hm.keep h.2 id⟩))
          refine wp_region_inv (by kernel_rfl) (by kernel_rfl) (InvF (R := Mod (fun _ => False)) [.is (.int .i64 ((m : Int) + 1)),
              .is (.int .i64 0),
              .is (.bool true),
              .is (.bool true),
              .is (.func (.func F) #[] #[c1, c2, c3]),
              .is (.slice (some ⟨g, 0, none⟩) n cap),
              .is (.int .i64 ((m : Int) + 1)),
              .is (.pointer (some ⟨g, m + 1, none⟩)),
              .is (.int .i64 (k : Int)),
              .is (.slice (some ⟨g, 0, none⟩) n cap),
              .is (.int .i64 ((m : Int) + 1)),
              .is (.int .i64 (m : Int)),
              .is (.pointer (some ⟨g, m, none⟩)),
              .is (.int .i64 (y : Int)),
              .is (.int .i64 (f y - f k)),
              .is (.bool (decide (f y - f k < 0))),
              .is (.bool (decide (f y - f k < 0)))]
              (PB wr (fun _ => False) wr.heap.size (fun _ w => (fun w => w.cell? ⟨g, m + 1, none⟩ = some (.int .i64 (k : Int)) ∧ w.cell? ⟨g, m, none⟩ = some (.int .i64 (y : Int))) w))) (InvF.start (PB.start (Mod.refl _ _) (Nat.le_refl _) (⟨z1, z0⟩))) ?_ ?_
          · refine .cons ?_ (.cons ?_ (.cons ?_ (.cons ?_ (.cons ?_ (.cons ?_ (.cons ?_ (.cons ?_ (.cons ?_ (.cons ?_ (.cons ?_ (.cons ?_ (.cons ?_ (.cons ?_ (.cons ?_ (.cons ?_ (.cons ?_ .nil))))))))))))))))
            · intro D V zw1 a hR hI K hK   -- 0: Op.move (Operand.tmp 9)
              obtain ⟨hM1, hB1, hG1⟩ := hI.1
              obtain ⟨hG1a, hG1b⟩ := hG1
              have ze9 := hR.frame.other (t := 9) (by kernel_rfl) rfl
              rw [if_pos (by rfl)]
              go_simp
              exact hK (.int .i64 ((m : Int) + 1)) _ (hI.next hR (by kernel_rfl) (Mod.refl _ _) (PB.quiet hI.1 (Mod.refl _ _) (HGs.out D 0 zw1 zw1 (hI.1).g (Mod.refl _ _))) (upd_same V 0 _))
            · intro D V zw1 a hR hI K hK   -- 1: Op.move (Operand.tmp 1)
              obtain ⟨hM1, hB1, hG1⟩ := hI.1
              obtain ⟨hG1a, hG1b⟩ := hG1
              have ze1 := hR.frame.other (t := 1) (by kernel_rfl) rfl
              rw [if_pos (by rfl)]
              go_simp
              exact hK (.int .i64 0) _ (hI.next hR (by kernel_rfl) (Mod.refl _ _) (PB.quiet hI.1 (Mod.refl _ _) (HGs.out D 1 zw1 zw1 (hI.1).g (Mod.refl _ _))) (upd_same V 1 _))
            · intro D V zw1 a hR hI K hK   -- 2: Op.binOp BinOp.gtr 3 (Operand.tmp 18) (Operand.tmp 19) 3
              obtain ⟨hM1, hB1, hG1⟩ := hI.1
              obtain ⟨hG1a, hG1b⟩ := hG1
              have zd0 := hR.pred 0 (by kernel_rfl)
              have zF0 : V 0 = .int .i64 ((m : Int) + 1) := hI.2 0 zd0 rfl
              have zf0 := zF0; clear zF0
              have zd1 := hR.pred 1 (by kernel_rfl)
              have zF1 : V 1 = .int .i64 0 := hI.2 1 zd1 rfl
              have zf1 := zF1; clear zF1
              have ze18 := hR.frame.done (t := 18) (j := 0) (by kernel_rfl) hR.ok zd0
              have ze19 := hR.frame.done (t := 19) (j := 1) (by kernel_rfl) hR.ok zd1
              rw [if_pos (by rfl)]
              go_simp
              exact hK (.bool true) _ (hI.next hR (by kernel_rfl) (Mod.refl _ _) (PB.quiet hI.1 (Mod.refl _ _) (HGs.out D 2 zw1 zw1 (hI.1).g (Mod.refl _ _))) (upd_same V 2 _))
            · intro D V zw1 a hR hI K hK   -- 3: Op.move (Operand.tmp 20)
              obtain ⟨hM1, hB1, hG1⟩ := hI.1
              obtain ⟨hG1a, hG1b⟩ := hG1
              have zd2 := hR.pred 2 (by kernel_rfl)
              have zF2 : V 2 = .bool true := hI.2 2 zd2 rfl
              have zf2 := zF2; clear zF2
              have ze20 := hR.frame.done (t := 20) (j := 2) (by kernel_rfl) hR.ok zd2
              rw [if_pos (by rfl)]
              go_simp
              exact hK (.bool true) _ (hI.next hR (by kernel_rfl) (Mod.refl _ _) (PB.quiet hI.1 (Mod.refl _ _) (HGs.out D 3 zw1 zw1 (hI.1).g (Mod.refl _ _))) (upd_same V 3 _))
            · intro D V zw1 a hR hI K hK   -- 4: Op.move (Operand.tmp 3)
              obtain ⟨hM1, hB1, hG1⟩ := hI.1
              obtain ⟨hG1a, hG1b⟩ := hG1
              have zd3 := hR.pred 3 (by kernel_rfl)
              have zF3 : V 3 = .bool true := hI.2 3 zd3 rfl
              have zf3 := zF3; clear zF3
              have ze3 := hR.frame.other (t := 3) (by kernel_rfl) rfl
              have ze21 := hR.frame.done (t := 21) (j := 3) (by kernel_rfl) hR.ok zd3
              rw [if_pos (by simp [Region.wanted, yielded, ze21, zf3])]
              go_simp
              exact hK (.func (.func F) #[] #[c1, c2, c3]) _ (hI.next hR (by kernel_rfl) (Mod.refl _ _) (PB.quiet hI.1 (Mod.refl _ _) (HGs.out D 4 zw1 zw1 (hI.1).g (Mod.refl _ _))) (upd_same V 4 _))
            · intro D V zw1 a hR hI K hK   -- 5: Op.move (Operand.tmp 0)
              obtain ⟨hM1, hB1, hG1⟩ := hI.1
              obtain ⟨hG1a, hG1b⟩ := hG1
              have zd3 := hR.pred 3 (by kernel_rfl)
              have zF3 : V 3 = .bool true := hI.2 3 zd3 rfl
              have zf3 := zF3; clear zF3
              have ze0 := hR.frame.other (t := 0) (by kernel_rfl) rfl
              have ze21 := hR.frame.done (t := 21) (j := 3) (by kernel_rfl) hR.ok zd3
              rw [if_pos (by simp [Region.wanted, yielded, ze21, zf3])]
              go_simp
              exact hK (.slice (some ⟨g, 0, none⟩) n cap) _ (hI.next hR (by kernel_rfl) (Mod.refl _ _) (PB.quiet hI.1 (Mod.refl _ _) (HGs.out D 5 zw1 zw1 (hI.1).g (Mod.refl _ _))) (upd_same V 5 _))
            · intro D V zw1 a hR hI K hK   -- 6: Op.move (Operand.tmp 9)
              obtain ⟨hM1, hB1, hG1⟩ := hI.1
              obtain ⟨hG1a, hG1b⟩ := hG1
              have zd3 := hR.pred 3 (by kernel_rfl)
              have zF3 : V 3 = .bool true := hI.2 3 zd3 rfl
              have zf3 := zF3; clear zF3
              have ze9 := hR.frame.other (t := 9) (by kernel_rfl) rfl
              have ze21 := hR.frame.done (t := 21) (j := 3) (by kernel_rfl) hR.ok zd3
              rw [if_pos (by simp [Region.wanted, yielded, ze21, zf3])]
              go_simp
              exact hK (.int .i64 ((m : Int) + 1)) _ (hI.next hR (by kernel_rfl) (Mod.refl _ _) (PB.quiet hI.1 (Mod.refl _ _) (HGs.out D 6 zw1 zw1 (hI.1).g (Mod.refl _ _))) (upd_same V 6 _))
            · intro D V zw1 a hR hI K hK   -- 7: Op.indexAddr 22 (Operand.tmp 23) (Operand.tmp 24)
              obtain ⟨hM1, hB1, hG1⟩ := hI.1
              obtain ⟨hG1a, hG1b⟩ := hG1
              have zd5 := hR.pred 5 (by kernel_rfl)
              have zF5 : V 5 = .slice (some ⟨g, 0, none⟩) n cap := hI.2 5 zd5 rfl
              have zf5 := zF5; clear zF5
              have zd6 := hR.pred 6 (by kernel_rfl)
              have zF6 : V 6 = .int .i64 ((m : Int) + 1) := hI.2 6 zd6 rfl
              have zf6 := zF6; clear zF6
              have zd3 := hR.pred 3 (by kernel_rfl)
              have zF3 : V 3 = .bool true := hI.2 3 zd3 rfl
              have zf3 := zF3; clear zF3
              have ze23 := hR.frame.done (t := 23) (j := 5) (by kernel_rfl) hR.ok zd5
              have ze24 := hR.frame.done (t := 24) (j := 6) (by kernel_rfl) hR.ok zd6
              have ze21 := hR.frame.done (t := 21) (j := 3) (by kernel_rfl) hR.ok zd3
              rw [if_pos (by simp [Region.wanted, yielded, ze21, zf3])]
              go_simp
              exact hK (.pointer (some ⟨g, m + 1, none⟩)) _ (hI.next hR (by kernel_rfl) (Mod.refl _ _) (PB.quiet hI.1 (Mod.refl _ _) (HGs.out D 7 zw1 zw1 (hI.1).g (Mod.refl _ _))) (upd_same V 7 _))
            · intro D V zw1 a hR hI K hK   -- 8: Op.load 3 (Operand.tmp 25)
              obtain ⟨hM1, hB1, hG1⟩ := hI.1
              obtain ⟨hG1a, hG1b⟩ := hG1
              have zd7 := hR.pred 7 (by kernel_rfl)
              have zF7 : V 7 = .pointer (some ⟨g, m + 1, none⟩) := hI.2 7 zd7 rfl
              have zf7 := zF7; clear zF7
              have zd3 := hR.pred 3 (by kernel_rfl)
              have zF3 : V 3 = .bool true := hI.2 3 zd3 rfl
              have zf3 := zF3; clear zF3
              have ze25 := hR.frame.done (t := 25) (j := 7) (by kernel_rfl) hR.ok zd7
              have ze21 := hR.frame.done (t := 21) (j := 3) (by kernel_rfl) hR.ok zd3
              rw [if_pos (by simp [Region.wanted, yielded, ze21, zf3])]
              go_simp
              exact hK (.int .i64 (k : Int)) _ (hI.next hR (by kernel_rfl) (Mod.refl _ _) (PB.quiet hI.1 (Mod.refl _ _) (HGs.out D 8 zw1 zw1 (hI.1).g (Mod.refl _ _))) (upd_same V 8 _))
            · intro D V zw1 a hR hI K hK   -- 9: Op.move (Operand.tmp 0)
              obtain ⟨hM1, hB1, hG1⟩ := hI.1
              obtain ⟨hG1a, hG1b⟩ := hG1
              have zd3 := hR.pred 3 (by kernel_rfl)
              have zF3 : V 3 = .bool true := hI.2 3 zd3 rfl
              have zf3 := zF3; clear zF3
              have ze0 := hR.frame.other (t := 0) (by kernel_rfl) rfl
              have ze21 := hR.frame.done (t := 21) (j := 3) (by kernel_rfl) hR.ok zd3
              rw [if_pos (by simp [Region.wanted, yielded, ze21, zf3])]
              go_simp
              exact hK (.slice (some ⟨g, 0, none⟩) n cap) _ (hI.next hR (by kernel_rfl) (Mod.refl _ _) (PB.quiet hI.1 (Mod.refl _ _) (HGs.out D 9 zw1 zw1 (hI.1).g (Mod.refl _ _))) (upd_same V 9 _))
            · intro D V zw1 a hR hI K hK   -- 10: Op.move (Operand.tmp 9)
              obtain ⟨hM1, hB1, hG1⟩ := hI.1
              obtain ⟨hG1a, hG1b⟩ := hG1
              have zd3 := hR.pred 3 (by kernel_rfl)
              have zF3 : V 3 = .bool true := hI.2 3 zd3 rfl
              have zf3 := zF3; clear zF3
              have ze9 := hR.frame.other (t := 9) (by kernel_rfl) rfl
              have ze21 := hR.frame.done (t := 21) (j := 3) (by kernel_rfl) hR.ok zd3
              rw [if_pos (by simp [Region.wanted, yielded, ze21, zf3])]
              go_simp
              exact hK (.int .i64 ((m : Int) + 1)) _ (hI.next hR (by kernel_rfl) (Mod.refl _ _) (PB.quiet hI.1 (Mod.refl _ _) (HGs.out D 10 zw1 zw1 (hI.1).g (Mod.refl _ _))) (upd_same V 10 _))
            · intro D V zw1 a hR hI K hK   -- 11: Op.binOp BinOp.sub 3 (Operand.tmp 28) (Operand.const (Value.int IntKin
              obtain ⟨hM1, hB1, hG1⟩ := hI.1
              obtain ⟨hG1a, hG1b⟩ := hG1
              have zd10 := hR.pred 10 (by kernel_rfl)
              have zF10 : V 10 = .int .i64 ((m : Int) + 1) := hI.2 10 zd10 rfl
              have zf10 := zF10; clear zF10
              have zd3 := hR.pred 3 (by kernel_rfl)
              have zF3 : V 3 = .bool true := hI.2 3 zd3 rfl
              have zf3 := zF3; clear zF3
              have ze28 := hR.frame.done (t := 28) (j := 10) (by kernel_rfl) hR.ok zd10
              have ze21 := hR.frame.done (t := 21) (j := 3) (by kernel_rfl) hR.ok zd3
              rw [if_pos (by simp [Region.wanted, yielded, ze21, zf3])]
              go_simp
              exact hK (.int .i64 (m : Int)) _ (hI.next hR (by kernel_rfl) (Mod.refl _ _) (PB.quiet hI.1 (Mod.refl _ _) (HGs.out D 11 zw1 zw1 (hI.1).g (Mod.refl _ _))) (upd_same V 11 _))
            · intro D V zw1 a hR hI K hK   -- 12: Op.indexAddr 22 (Operand.tmp 27) (Operand.tmp 29)
              obtain ⟨hM1, hB1, hG1⟩ := hI.1
              obtain ⟨hG1a, hG1b⟩ := hG1
              have zd9 := hR.pred 9 (by kernel_rfl)
              have zF9 : V 9 = .slice (some ⟨g, 0, none⟩) n cap := hI.2 9 zd9 rfl
              have zf9 := zF9; clear zF9
              have zd11 := hR.pred 11 (by kernel_rfl)
              have zF11 : V 11 = .int .i64 (m : Int) := hI.2 11 zd11 rfl
              have zf11 := zF11; clear zF11
              have zd3 := hR.pred 3 (by kernel_rfl)
              have zF3 : V 3 = .bool true := hI.2 3 zd3 rfl
              have zf3 := zF3; clear zF3
              have ze27 := hR.frame.done (t := 27) (j := 9) (by kernel_rfl) hR.ok zd9
              have ze29 := hR.frame.done (t := 29) (j := 11) (by kernel_rfl) hR.ok zd11
              have ze21 := hR.frame.done (t := 21) (j := 3) (by kernel_rfl) hR.ok zd3
              rw [if_pos (by simp [Region.wanted, yielded, ze21, zf3])]
              go_simp
              exact hK (.pointer (some ⟨g, m, none⟩)) _ (hI.next hR (by kernel_rfl) (Mod.refl _ _) (PB.quiet hI.1 (Mod.refl _ _) (HGs.out D 12 zw1 zw1 (hI.1).g (Mod.refl _ _))) (upd_same V 12 _))
            · intro D V zw1 a hR hI K hK   -- 13: Op.load 3 (Operand.tmp 30)
              obtain ⟨hM1, hB1, hG1⟩ := hI.1
              obtain ⟨hG1a, hG1b⟩ := hG1
              have zd12 := hR.pred 12 (by kernel_rfl)
              have zF12 : V 12 = .pointer (some ⟨g, m, none⟩) := hI.2 12 zd12 rfl
              have zf12 := zF12; clear zF12
              have zd3 := hR.pred 3 (by kernel_rfl)
              have zF3 : V 3 = .bool true := hI.2 3 zd3 rfl
              have zf3 := zF3; clear zF3
              have ze30 := hR.frame.done (t := 30) (j := 12) (by kernel_rfl) hR.ok zd12
              have ze21 := hR.frame.done (t := 21) (j := 3) (by kernel_rfl) hR.ok zd3
              rw [if_pos (by simp [Region.wanted, yielded, ze21, zf3])]
              go_simp
              exact hK (.int .i64 (y : Int)) _ (hI.next hR (by kernel_rfl) (Mod.refl _ _) (PB.quiet hI.1 (Mod.refl _ _) (HGs.out D 13 zw1 zw1 (hI.1).g (Mod.refl _ _))) (upd_same V 13 _))
            · intro D V zw1 a hR hI K hK   -- 14: Op.call { callee := Callee.value (Operand.tmp 22), args := #[Operand.t
              obtain ⟨hM1, hB1, hG1⟩ := hI.1
              obtain ⟨hG1a, hG1b⟩ := hG1
              have zd4 := hR.pred 4 (by kernel_rfl)
              have zF4 : V 4 = .func (.func F) #[] #[c1, c2, c3] := hI.2 4 zd4 rfl
              have zf4 := zF4; clear zF4
              have zd8 := hR.pred 8 (by kernel_rfl)
              have zF8 : V 8 = .int .i64 (k : Int) := hI.2 8 zd8 rfl
              have zf8 := zF8; clear zF8
              have zd13 := hR.pred 13 (by kernel_rfl)
              have zF13 : V 13 = .int .i64 (y : Int) := hI.2 13 zd13 rfl
              have zf13 := zF13; clear zF13
              have zd3 := hR.pred 3 (by kernel_rfl)
              have zF3 : V 3 = .bool true := hI.2 3 zd3 rfl
              have zf3 := zF3; clear zF3
              have ze22 := hR.frame.done (t := 22) (j := 4) (by kernel_rfl) hR.ok zd4
              have ze26 := hR.frame.done (t := 26) (j := 8) (by kernel_rfl) hR.ok zd8
              have ze31 := hR.frame.done (t := 31) (j := 13) (by kernel_rfl) hR.ok zd13
              have ze21 := hR.frame.done (t := 21) (j := 3) (by kernel_rfl) hR.ok zd3
              rw [if_pos (by simp [Region.wanted, yielded, ze21, zf3])]
              go_simp
              refine (HF.out k y _ hlt hyn (hm.trans (Mod.of_pure hM1))).mono ?_
              rintro e zw2 ⟨rfl, hm2⟩
              exact hK (.int .i64 (f y - f k)) _ (hI.next hR (by kernel_rfl) hm2 (PB.quiet hI.1 hm2 (HGs.out D 14 _ _ (hI.1).g hm2)) (upd_same V 14 _))
            · intro D V zw1 a hR hI K hK   -- 15: Op.binOp BinOp.lss 3 (Operand.tmp 32) (Operand.const (Value.int IntKin
              obtain ⟨hM1, hB1, hG1⟩ := hI.1
              obtain ⟨hG1a, hG1b⟩ := hG1
              have zd14 := hR.pred 14 (by kernel_rfl)
              have zF14 : V 14 = .int .i64 (f y - f k) := hI.2 14 zd14 rfl
              have zf14 := zF14; clear zF14
              have zd3 := hR.pred 3 (by kernel_rfl)
              have zF3 : V 3 = .bool true := hI.2 3 zd3 rfl
              have zf3 := zF3; clear zF3
              have ze32 := hR.frame.done (t := 32) (j := 14) (by kernel_rfl) hR.ok zd14
              have ze21 := hR.frame.done (t := 21) (j := 3) (by kernel_rfl) hR.ok zd3
              rw [if_pos (by simp [Region.wanted, yielded, ze21, zf3])]
              go_simp
              exact hK (.bool (decide (f y - f k < 0))) _ (hI.next hR (by kernel_rfl) (Mod.refl _ _) (PB.quiet hI.1 (Mod.refl _ _) (HGs.out D 15 zw1 zw1 (hI.1).g (Mod.refl _ _))) (upd_same V 15 _))
            · intro D V zw1 a hR hI K hK   -- 16: Op.pick (Operand.tmp 21) (Operand.tmp 33) (Operand.const (Value.bool f
              obtain ⟨hM1, hB1, hG1⟩ := hI.1
              obtain ⟨hG1a, hG1b⟩ := hG1
              have zd3 := hR.pred 3 (by kernel_rfl)
              have zF3 : V 3 = .bool true := hI.2 3 zd3 rfl
              have zf3 := zF3; clear zF3
              have zd15 := hR.pred 15 (by kernel_rfl)
              have zF15 : V 15 = .bool (decide (f y - f k < 0)) := hI.2 15 zd15 rfl
              have zf15 := zF15; clear zF15
              have ze21 := hR.frame.done (t := 21) (j := 3) (by kernel_rfl) hR.ok zd3
              have ze33 := hR.frame.done (t := 33) (j := 15) (by kernel_rfl) hR.ok zd15
              rw [if_pos (by rfl)]
              go_simp
              exact hK (.bool (decide (f y - f k < 0))) _ (hI.next hR (by kernel_rfl) (Mod.refl _ _) (PB.quiet hI.1 (Mod.refl _ _) (HGs.out D 16 zw1 zw1 (hI.1).g (Mod.refl _ _))) (upd_same V 16 _))
          · intro D V w2 hD hI
            obtain ⟨hM1, hB1, hG1⟩ := hI.1
            have hMx := hM1
            clear hM1
            have hBx := hB1
            clear hB1
            have hGx := hG1
            clear hG1
            have zF0 : V 0 = .int .i64 ((m : Int) + 1) := hI.2 0 (hD 0 (by decide)) rfl
            have zf0 := zF0; clear zF0
            have zF1 : V 1 = .int .i64 0 := hI.2 1 (hD 1 (by decide)) rfl
            have zf1 := zF1; clear zF1
            have zF2 : V 2 = .bool true := hI.2 2 (hD 2 (by decide)) rfl
            have zf2 := zF2; clear zF2
            have zF3 : V 3 = .bool true := hI.2 3 (hD 3 (by decide)) rfl
            have zf3 := zF3; clear zF3
            have zF4 : V 4 = .func (.func F) #[] #[c1, c2, c3] := hI.2 4 (hD 4 (by decide)) rfl
            have zf4 := zF4; clear zF4
            have zF5 : V 5 = .slice (some ⟨g, 0, none⟩) n cap := hI.2 5 (hD 5 (by decide)) rfl
            have zf5 := zF5; clear zF5
            have zF6 : V 6 = .int .i64 ((m : Int) + 1) := hI.2 6 (hD 6 (by decide)) rfl
            have zf6 := zF6; clear zF6
            have zF7 : V 7 = .pointer (some ⟨g, m + 1, none⟩) := hI.2 7 (hD 7 (by decide)) rfl
            have zf7 := zF7; clear zF7
            have zF8 : V 8 = .int .i64 (k : Int) := hI.2 8 (hD 8 (by decide)) rfl
            have zf8 := zF8; clear zF8
            have zF9 : V 9 = .slice (some ⟨g, 0, none⟩) n cap := hI.2 9 (hD 9 (by decide)) rfl
            have zf9 := zF9; clear zF9
            have zF10 : V 10 = .int .i64 ((m : Int) + 1) := hI.2 10 (hD 10 (by decide)) rfl
            have zf10 := zF10; clear zF10
            have zF11 : V 11 = .int .i64 (m : Int) := hI.2 11 (hD 11 (by decide)) rfl
            have zf11 := zF11; clear zF11
            have zF12 : V 12 = .pointer (some ⟨g, m, none⟩) := hI.2 12 (hD 12 (by decide)) rfl
            have zf12 := zF12; clear zF12
            have zF13 : V 13 = .int .i64 (y : Int) := hI.2 13 (hD 13 (by decide)) rfl
            have zf13 := zF13; clear zF13
            have zF14 : V 14 = .int .i64 (f y - f k) := hI.2 14 (hD 14 (by decide)) rfl
            have zf14 := zF14; clear zF14
            have zF15 : V 15 = .bool (decide (f y - f k < 0)) := hI.2 15 (hD 15 (by decide)) rfl
            have zf15 := zF15; clear zF15
            have zF16 : V 16 = .bool (decide (f y - f k < 0)) := hI.2 16 (hD 16 (by decide)) rfl
            have zf16 := zF16; clear zF16
            clear hI hD HGs
            simp only [frAll, Act.put, List.setIfInBounds_toArray, List.set_cons_zero, List.set_cons_succ, Nat.zero_add, Nat.reduceAdd, zf0, zf1, zf2, zf3, zf4, zf5, zf6, zf7, zf8, zf9, zf10, zf11, zf12, zf13, zf14, zf15, zf16]
            clear zf0 zf1 zf2 zf3 zf4 zf5 zf6 zf7 zf8 zf9 zf10 zf11 zf12 zf13 zf14 zf15 zf16
            clear V D
            have m2 : Mod (fun j => j = g) w w2 := hm.trans (Mod.of_pure hMx)
            have hown5 := own_pure hown4 hMx
            obtain ⟨q1, q0⟩ := hGx
            have p1 := hown5.frozenAt (m + 1)
            have p0 := hown5.frozenAt m
            clear hown4 hm hMx z1 z0 y1 y0
            by_cases hc : f y < f k
            · rw [decide_eq_true (by omega : f y - f k < 0)]
              go_wp2_with fail
              go_region
              all_goals
                go_wp2_with fail
                go_roundg m
                case measure => omega
                case rel =>
                  have hs1 := (hown5.stored (m + 1) (.int .i64 (y : Int))).1
                  have hs2 := (hs1.stored m (.int .i64 (k : Int))).1
                  rw [put_swap (by rw [HSL.out]; omega) HY.out] at hs2
                  have hm2 : Mod (fun j => j = g) w ((w2.setCell ⟨g, m + 1, none⟩ (.int .i64 (y : Int))).setCell ⟨g, m, none⟩ (.int .i64 (k : Int))) := Mod.setCell (S := fun j => j = g) (p := ⟨g, m, none⟩) (Mod.setCell (S := fun j => j = g) (p := ⟨g, m + 1, none⟩) m2 (.inl rfl) _) (.inl rfl) _
                  refine ⟨m, rfl, by omega, rfl, fun z hz => ?_, hs2.drew, hm2.drew⟩
                  have hml : m < s.length := by rw [HSL.out]; omega
                  rw [List.drop_eq_getElem_cons hml] at hz
                  rcases List.mem_cons.1 hz with h | h
                  · have := HY.out
                    rw [List.getElem?_eq_getElem hml] at this
                    injection this with this
                    rw [h, this]
                    exact hc
                  · exact HGT.out z h
            · rw [decide_eq_false (by omega : ¬ f y - f k < 0)]
              go_wp2_with fail
              go_roundg (n - (k + 1))
              case measure => omega
              case rel => exact ⟨k + 1, _, rfl, by omega, .inl (by omega), by simp, HORD.out.insert (m + 1) (by omega) HGT.out (fun z h hz => by
                rw [Nat.add_sub_cancel, HY.out] at hz
                injection hz with hz
                subst hz
                omega), hown5, m2⟩
    · have hke : k = n := by omega
      subst hke
      have hfin : wr.ownsRow base 3 1 (.slice (some ⟨g, 0, none⟩) k cap) k (natsV s) := by
        have : (List.range k).drop k = [] := List.drop_of_length_le (by simp)
        rw [this, List.append_nil] at hown2
        exact hown2
      clear hown2 hsl
      go_wp2_with fail
      go_end0
      exact ⟨s, HORD.out, rfl, hfin, hm⟩

set_option maxRecDepth 100000 in
set_option maxHeartbeats 1000000 in
theorem stable_calls (w : World) (base g cap n F : Nat) (c1 c2 c3 : Value) (f : Nat → Int) (hn : 1 ≤ n) (hn2 : n < 20) (hf : ∀ i, i < n → 0 ≤ f i ∧ f i ≤ 1000000000)
    (hown : w.ownsRow base 3 1 (.slice (some ⟨g, 0, none⟩) n cap) n (natsV (List.range n)))
    (hcf : ∀ (x y : Int) (W : World), Sem.run Try.prog (callFunc F #[.int .i64 x, .int .i64 y, c1, c2, c3]) W = .ok (.enter F #[.int .i64 x, .int .i64 y, c1, c2, c3]) W)
    (hF : ∀ (x y : Nat) (W : World), x < n → y < n → Mod (fun j => j = g) w W → Calls Try.prog F #[.int .i64 (x : Int), .int .i64 (y : Int), c1, c2, c3] W (IntPost W (f y - f x))) :
    Calls Try.prog 121 #[.slice (some ⟨g, 0, none⟩) n cap, .func (.func F) #[] #[c1, c2, c3]] w (SortPost w base g cap n f) := by
  have H := Lib.hid (insSort_calls w base g cap n F c1 c2 c3 f hn (by omega) hf hown hcf hF)
  clear hf hown hcf hF
  have H2 : Hid (Calls Try.prog 127 #[.slice (some ⟨g, 0, none⟩) n cap, .int .i64 (n : Int), .func (.func F) #[] #[c1, c2, c3]] w (SortPost w base g cap n f)) := by
    show Calls Try.prog 127 _ _ _
    go_enter Try.func127, Try.ntmps127
    go_wp2_with fail
    refine wp_loop_rounds 1 ?_
    rw [rounds_succ]
    go_wp2_with fail
    refine H.out.mono ?_
    rintro e w1 ⟨s, hs, rfl, hown, hm⟩
    go_wp2_with fail
    refine wp_loop_rounds 1 ?_
    rw [rounds_succ]
    go_wp2_with fail
    go_end0
    exact ⟨s, hs, rfl, hown, hm⟩
  go_enter Try.func121, Try.ntmps121
  go_wp2_with fail
  refine H2.out.mono ?_
  rintro e w1 ⟨s, hs, rfl, hown, hm⟩
  go_wp2_with fail
  go_end0
  exact ⟨s, hs, rfl, hown, hm⟩

end Go.Proofs.Ytpacmdiodnnofaa
