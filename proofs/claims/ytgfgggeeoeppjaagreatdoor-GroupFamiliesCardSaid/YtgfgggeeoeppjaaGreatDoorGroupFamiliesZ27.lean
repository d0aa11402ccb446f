/- Texts of the proof of GroupFamilies, put together: InsI, InsJ. -/
import Derived.Test.YtgfgggeeoeppjaaGreatDoorGroupFamiliesZ25
import Derived.Deep.DeepCutAuto
import Derived.Great.Walk
set_option linter.unusedVariables false
set_option linter.unusedSimpArgs false
set_option maxRecDepth 100000
/- slices.SortFunc over at most 12 numbers: the insertion sort, with any comparison that only makes memory. -/
namespace Go.Proofs.YtgfgggeeoeppjaaGreatDoor
open Go.RowKit
attribute [local go_sem ↓] Go.wp_at_zero Go.wp_at_succ
def CmpPost (w : World) (b : Bool) (e : Ending) (w' : World) : Prop := ∃ c : Int, e = .returned (.int .i64 c) ∧ (c < 0 ↔ b = true) ∧ Pure w w'
def SrtPost (w : World) (base g n cap : Nat) (xs : List Nat) (lt : Nat → Nat → Bool) (e : Ending) (w' : World) : Prop :=
 ∃ ys : List Nat, ys.Perm xs ∧ ys.Pairwise (fun a b => lt a b = true) ∧ e = .returned (.tuple #[]) ∧ w'.ownsRow base 3 1 (.slice (some ⟨g, 0, none⟩) n cap) n (natsV ys) ∧ Mod (· = g) w w'
def In1 (w : World) (base g n cap : Nat) (xs : List Nat) (lt : Nat → Nat → Bool) (gk : Nat) (i : Value) (wr : World) : Prop :=
 ∃ S R : List Nat, n - S.length = gk ∧ S.length ≤ n ∧ 1 ≤ S.length ∧ i = .int .i64 (S.length : Int) ∧ (S ++ R).Perm xs ∧ S.Pairwise (fun a b => lt a b = true) ∧ wr.ownsRow base 3 1 (.slice (some ⟨g, 0, none⟩) n cap) n (natsV (S ++ R)) ∧ Mod (· = g) w wr
def In2 (w : World) (base g n cap : Nat) (xs : List Nat) (lt : Nat → Nat → Bool) (x : Nat) (R : List Nat) (gk : Nat) (j : Value) (wr : World) : Prop :=
 ∃ A B : List Nat, A.length = gk ∧ A.length + B.length + 1 + R.length = n ∧ j = .int .i64 (A.length : Int) ∧ (A ++ x :: (B ++ R)).Perm xs ∧ (A ++ B).Pairwise (fun a b => lt a b = true) ∧ (∀ b ∈ B, lt x b = true) ∧
  wr.ownsRow base 3 1 (.slice (some ⟨g, 0, none⟩) n cap) n (natsV (A ++ x :: (B ++ R))) ∧ Mod (· = g) w wr
theorem natsV_append (a b : List Nat) : natsV (a ++ b) = natsV a ++ natsV b := by simp [natsV]
theorem natsV_at (A : List Nat) (x : Nat) (B : List Nat) : (natsV (A ++ x :: B))[A.length]? = some (.int .i64 (x : Int)) := by
 simp [natsV]
theorem natsV_set (l : List Nat) (i x : Nat) : (natsV l).set i (.int .i64 (x : Int)) = natsV (l.set i x) := by simp [natsV, List.map_set]
theorem swap_list (A' : List Nat) (x y : Nat) (C : List Nat) : (((A' ++ [y]) ++ x :: C).set (A'.length + 1) y).set A'.length x = A' ++ x :: y :: C := by
 simp [List.set_append]
theorem pairwise_ins {lt : Nat → Nat → Bool} {A B : List Nat} {x : Nat} (h : (A ++ B).Pairwise (fun a b => lt a b = true)) (ha : ∀ a ∈ A, lt a x = true) (hb : ∀ b ∈ B, lt x b = true) : (A ++ x :: B).Pairwise (fun a b => lt a b = true) := by
 obtain ⟨h1, h2, h3⟩ := List.pairwise_append.1 h;refine List.pairwise_append.2 ⟨h1, List.pairwise_cons.2 ⟨hb, h2⟩, fun a ham b hbm => ?_⟩
 rcases List.mem_cons.1 hbm with rfl | hbm
 ·exact ha a ham
 ·exact h3 a ham b hbm
set_option maxHeartbeats 8000000 in
theorem insert_calls (w : World) (base g n cap : Nat) (xs : List Nat) (F : Nat) (c1 : Value) (lt : Nat → Nat → Bool) (hown : w.ownsRow base 3 1 (.slice (some ⟨g, 0, none⟩) n cap) n (natsV xs)) (hn1 : 1 ≤ n) (hn : n ≤ 1000000)
  (htr : ∀ a b c, lt a b = true → lt b c = true → lt a c = true) (hto : ∀ a ∈ xs, ∀ b ∈ xs, a ≠ b → lt a b = true ∨ lt b a = true) (hnd : xs.Nodup)
  (hcf : ∀ (a b : Int) (W : World), Sem.run Tryz.prog (callFunc F #[.int .i64 a, .int .i64 b, c1]) W = .ok (.enter F #[.int .i64 a, .int .i64 b, c1]) W)
  (hF : ∀ (a b : Nat) (W : World), a ∈ xs → b ∈ xs → Mod (· = g) w W → Calls Tryz.prog F #[.int .i64 (a : Int), .int .i64 (b : Int), c1] W (CmpPost W (lt a b))) :
  Calls Tryz.prog 196 #[.slice (some ⟨g, 0, none⟩) n cap, .int .i64 0, .int .i64 (n : Int), .func (.func F) #[] #[c1]] w (SrtPost w base g n cap xs lt) := by
 have HF := Lib.hid hF;have HTR := Lib.hid htr;have HTO := Lib.hid hto;have HND := Lib.hid hnd
 have hxl : xs.length = n := by have := hown.1; rw [natsV_len] at this; omega
 obtain ⟨x0, xr, hxs⟩ : ∃ x0 xr, xs = x0 :: xr := by
  cases xs with
  | nil => simp at hxl; omega
  | cons a t => exact ⟨a, t, rfl⟩
 have HXS := Lib.hid hxs
 have hown0 : w.ownsRow base 3 1 (.slice (some ⟨g, 0, none⟩) n cap) n (natsV ([x0] ++ xr)) := by rw [hxs] at hown; exact hown
 clear hF htr hto hnd hxs hown
 go_enter Tryz.func196, Tryz.ntmps196
 go_wp2_with fail
 go_loopg [8] (n - 1) (fun gk i wr => In1 w base g n cap xs lt gk i wr)
 case atStart => exact ⟨[x0], xr, by simp, by simp; omega, by simp, by simp, by rw [HXS.out]; exact List.Perm.refl _, by simp, hown0, Mod.refl _ _⟩
 case round =>
  clear hown0;obtain ⟨S, R, rfl, hsn, hs1, rfl, hperm, hsort, hown, hm⟩ := hrel;have hlen := hown.1;rw [natsV_len, List.length_append] at hlen;have HP := Lib.hid hperm;have HS := Lib.hid hsort;clear hperm hsort
  by_cases hlt : S.length < n
  ·obtain ⟨x, R', hR⟩ : ∃ x R', R = x :: R' := by
    cases R with
    | nil => simp at hlen; omega
    | cons a t => exact ⟨a, t, rfl⟩
   subst hR;simp only [List.length_cons] at hlen;obtain ⟨sl, hsl⟩ : ∃ sl, sl = S.length := ⟨_, rfl⟩
   have hgk : n - (sl + 1) < n - S.length := by omega
   rw [← hsl] at hlt hs1 hsn hlen ⊢;have HSL := Lib.hid hsl;clear hsl
   go_wp2_with fail
   obtain ⟨wo, hwo⟩ : ∃ wo : World, wo = wr := ⟨_, rfl⟩
   go_loopg [9] sl (fun gk j wr => In2 w base g n cap xs lt x R' gk j wr)
   case atStart => exact ⟨S, [], HSL.out.symm, by rw [← HSL.out]; simp; omega, by rw [HSL.out], by simpa using HP.out, by simpa using HS.out, fun b hb => absurd hb (by simp), by simpa using hown, hm⟩
   case round =>
    clear hown hm HP HS HSL hwo wo;obtain ⟨A, B, rfl, hab, rfl, hp, hs, hxb, hown, hm⟩ := hrel;have HP := Lib.hid hp;have HS := Lib.hid hs;have HXB := Lib.hid hxb;clear hp hs hxb
    rcases List.eq_nil_or_concat A with hA | ⟨A', y, hA⟩
    ·subst hA
     have HE : Hid (In1 w base g n cap xs lt (n - (sl + 1)) (.int .i64 ((sl : Int) + 1)) wr) := Lib.hid (by
      refine ⟨x :: B, R', ?_, ?_, by simp, ?_, by simpa using HP.out, List.pairwise_cons.2 ⟨HXB.out, by simpa using HS.out⟩, by simpa using hown, hm⟩
      ·simp at hab ⊢; omega
      ·simp at hab ⊢; omega
      ·simp at hab ⊢; omega)
     clear hown HP HS HXB;simp only [List.length_nil, Nat.zero_add] at hab ⊢
     go_wp2_with fail
     have HGs := Lib.hid (show ∀ (D : Nat → Bool) (zzi : Nat) (zq zq' : World), (fun _ zq => (fun _ => True) zq) D zq → Mod (fun _ => False) zq zq' → (fun _ zq => (fun _ => True) zq) (upd D zzi true) zq' from by intro D zzi zq zq' h hm; (exact h))
     refine wp_region_inv (by kernel_rfl) (by kernel_rfl) (InvF (R := Mod (fun _ => False)) [.is (.int .i64 0),
       .is (.int .i64 0),
       .is (.bool false),
       .is (.bool false),
       .is (undef),
       .is (undef),
       .is (undef),
       .is (undef),
       .is (undef),
       .is (undef),
       .is (undef),
       .is (undef),
       .is (undef),
       .is (undef),
       .is (undef),
       .is (undef),
       .is (.bool false)]
       (PB wr (fun _ => False) wr.heap.size (fun _ zq => (fun _ => True) zq))) (InvF.start (PB.start (Mod.refl _ _) (Nat.le_refl _) (trivial))) ?_ ?_
     ·refine .cons ?_ (.cons ?_ (.cons ?_ (.cons ?_ (.cons ?_ (.cons ?_ (.cons ?_ (.cons ?_ (.cons ?_ (.cons ?_ (.cons ?_ (.cons ?_ (.cons ?_ (.cons ?_ (.cons ?_ (.cons ?_ (.cons ?_ .nil))))))))))))))))
      ·intro D V zw1 a hR hI K hK;obtain ⟨hM1, hB1, hG1⟩ := hI.1;have ze9 := hR.frame.other (t := 9) (by kernel_rfl) rfl;rw [if_pos (by rfl)];go_simp;exact hK (.int .i64 0) _ (hI.next hR (by kernel_rfl) (Mod.refl _ _) (PB.quiet hI.1 (Mod.refl _ _) (HGs.out D 0 zw1 zw1 (hI.1).g (Mod.refl _ _))) (upd_same V 0 _))
      ·intro D V zw1 a hR hI K hK;obtain ⟨hM1, hB1, hG1⟩ := hI.1;have ze1 := hR.frame.other (t := 1) (by kernel_rfl) rfl;rw [if_pos (by rfl)];go_simp;exact hK (.int .i64 0) _ (hI.next hR (by kernel_rfl) (Mod.refl _ _) (PB.quiet hI.1 (Mod.refl _ _) (HGs.out D 1 zw1 zw1 (hI.1).g (Mod.refl _ _))) (upd_same V 1 _))
      ·intro D V zw1 a hR hI K hK;obtain ⟨hM1, hB1, hG1⟩ := hI.1;have zd0 := hR.pred 0 (by kernel_rfl);have zf0 : V 0 = .int .i64 0 := hI.2 0 zd0 rfl;have zd1 := hR.pred 1 (by kernel_rfl);have zf1 : V 1 = .int .i64 0 := hI.2 1 zd1 rfl;have ze18 := hR.frame.done (t := 18) (j := 0) (by kernel_rfl) hR.ok zd0;have ze19 := hR.frame.done (t := 19) (j := 1) (by kernel_rfl) hR.ok zd1;rw [if_pos (by rfl)];go_simp;exact hK (.bool false) _ (hI.next hR (by kernel_rfl) (Mod.refl _ _) (PB.quiet hI.1 (Mod.refl _ _) (HGs.out D 2 zw1 zw1 (hI.1).g (Mod.refl _ _))) (upd_same V 2 _))
      ·intro D V zw1 a hR hI K hK;obtain ⟨hM1, hB1, hG1⟩ := hI.1;have zd2 := hR.pred 2 (by kernel_rfl);have zf2 : V 2 = .bool false := hI.2 2 zd2 rfl;have ze20 := hR.frame.done (t := 20) (j := 2) (by kernel_rfl) hR.ok zd2;rw [if_pos (by rfl)];go_simp;exact hK (.bool false) _ (hI.next hR (by kernel_rfl) (Mod.refl _ _) (PB.quiet hI.1 (Mod.refl _ _) (HGs.out D 3 zw1 zw1 (hI.1).g (Mod.refl _ _))) (upd_same V 3 _))
      ·intro D V zw1 a hR hI K hK;obtain ⟨hM1, hB1, hG1⟩ := hI.1;have zd3 := hR.pred 3 (by kernel_rfl);have zf3 : V 3 = .bool false := hI.2 3 zd3 rfl;have ze21 := hR.frame.done (t := 21) (j := 3) (by kernel_rfl) hR.ok zd3;rw [if_neg (by simp [Region.wanted, yielded, ze21, zf3])];exact hK undef _ (hI.next hR (by kernel_rfl) (Mod.refl _ _) (PB.quiet hI.1 (Mod.refl _ _) (HGs.out D 4 zw1 zw1 (hI.1).g (Mod.refl _ _))) (upd_same V 4 _))
      ·intro D V zw1 a hR hI K hK;obtain ⟨hM1, hB1, hG1⟩ := hI.1;have zd3 := hR.pred 3 (by kernel_rfl);have zf3 : V 3 = .bool false := hI.2 3 zd3 rfl;have ze21 := hR.frame.done (t := 21) (j := 3) (by kernel_rfl) hR.ok zd3;rw [if_neg (by simp [Region.wanted, yielded, ze21, zf3])];exact hK undef _ (hI.next hR (by kernel_rfl) (Mod.refl _ _) (PB.quiet hI.1 (Mod.refl _ _) (HGs.out D 5 zw1 zw1 (hI.1).g (Mod.refl _ _))) (upd_same V 5 _))
      ·intro D V zw1 a hR hI K hK;obtain ⟨hM1, hB1, hG1⟩ := hI.1;have zd3 := hR.pred 3 (by kernel_rfl);have zf3 : V 3 = .bool false := hI.2 3 zd3 rfl;have ze21 := hR.frame.done (t := 21) (j := 3) (by kernel_rfl) hR.ok zd3;rw [if_neg (by simp [Region.wanted, yielded, ze21, zf3])];exact hK undef _ (hI.next hR (by kernel_rfl) (Mod.refl _ _) (PB.quiet hI.1 (Mod.refl _ _) (HGs.out D 6 zw1 zw1 (hI.1).g (Mod.refl _ _))) (upd_same V 6 _))
      ·intro D V zw1 a hR hI K hK;obtain ⟨hM1, hB1, hG1⟩ := hI.1;have zd3 := hR.pred 3 (by kernel_rfl);have zf3 : V 3 = .bool false := hI.2 3 zd3 rfl;have ze21 := hR.frame.done (t := 21) (j := 3) (by kernel_rfl) hR.ok zd3;rw [if_neg (by simp [Region.wanted, yielded, ze21, zf3])];exact hK undef _ (hI.next hR (by kernel_rfl) (Mod.refl _ _) (PB.quiet hI.1 (Mod.refl _ _) (HGs.out D 7 zw1 zw1 (hI.1).g (Mod.refl _ _))) (upd_same V 7 _))
      ·intro D V zw1 a hR hI K hK;obtain ⟨hM1, hB1, hG1⟩ := hI.1;have zd3 := hR.pred 3 (by kernel_rfl);have zf3 : V 3 = .bool false := hI.2 3 zd3 rfl;have ze21 := hR.frame.done (t := 21) (j := 3) (by kernel_rfl) hR.ok zd3;rw [if_neg (by simp [Region.wanted, yielded, ze21, zf3])];exact hK undef _ (hI.next hR (by kernel_rfl) (Mod.refl _ _) (PB.quiet hI.1 (Mod.refl _ _) (HGs.out D 8 zw1 zw1 (hI.1).g (Mod.refl _ _))) (upd_same V 8 _))
      ·intro D V zw1 a hR hI K hK;obtain ⟨hM1, hB1, hG1⟩ := hI.1;have zd3 := hR.pred 3 (by kernel_rfl);have zf3 : V 3 = .bool false := hI.2 3 zd3 rfl;have ze21 := hR.frame.done (t := 21) (j := 3) (by kernel_rfl) hR.ok zd3;rw [if_neg (by simp [Region.wanted, yielded, ze21, zf3])];exact hK undef _ (hI.next hR (by kernel_rfl) (Mod.refl _ _) (PB.quiet hI.1 (Mod.refl _ _) (HGs.out D 9 zw1 zw1 (hI.1).g (Mod.refl _ _))) (upd_same V 9 _))
      ·intro D V zw1 a hR hI K hK;obtain ⟨hM1, hB1, hG1⟩ := hI.1;have zd3 := hR.pred 3 (by kernel_rfl);have zf3 : V 3 = .bool false := hI.2 3 zd3 rfl;have ze21 := hR.frame.done (t := 21) (j := 3) (by kernel_rfl) hR.ok zd3;rw [if_neg (by simp [Region.wanted, yielded, ze21, zf3])];exact hK undef _ (hI.next hR (by kernel_rfl) (Mod.refl _ _) (PB.quiet hI.1 (Mod.refl _ _) (HGs.out D 10 zw1 zw1 (hI.1).g (Mod.refl _ _))) (upd_same V 10 _))
      ·intro D V zw1 a hR hI K hK;obtain ⟨hM1, hB1, hG1⟩ := hI.1;have zd3 := hR.pred 3 (by kernel_rfl);have zf3 : V 3 = .bool false := hI.2 3 zd3 rfl;have ze21 := hR.frame.done (t := 21) (j := 3) (by kernel_rfl) hR.ok zd3;rw [if_neg (by simp [Region.wanted, yielded, ze21, zf3])];exact hK undef _ (hI.next hR (by kernel_rfl) (Mod.refl _ _) (PB.quiet hI.1 (Mod.refl _ _) (HGs.out D 11 zw1 zw1 (hI.1).g (Mod.refl _ _))) (upd_same V 11 _))
      ·intro D V zw1 a hR hI K hK;obtain ⟨hM1, hB1, hG1⟩ := hI.1;have zd3 := hR.pred 3 (by kernel_rfl);have zf3 : V 3 = .bool false := hI.2 3 zd3 rfl;have ze21 := hR.frame.done (t := 21) (j := 3) (by kernel_rfl) hR.ok zd3;rw [if_neg (by simp [Region.wanted, yielded, ze21, zf3])];exact hK undef _ (hI.next hR (by kernel_rfl) (Mod.refl _ _) (PB.quiet hI.1 (Mod.refl _ _) (HGs.out D 12 zw1 zw1 (hI.1).g (Mod.refl _ _))) (upd_same V 12 _))
      ·intro D V zw1 a hR hI K hK;obtain ⟨hM1, hB1, hG1⟩ := hI.1;have zd3 := hR.pred 3 (by kernel_rfl);have zf3 : V 3 = .bool false := hI.2 3 zd3 rfl;have ze21 := hR.frame.done (t := 21) (j := 3) (by kernel_rfl) hR.ok zd3;rw [if_neg (by simp [Region.wanted, yielded, ze21, zf3])];exact hK undef _ (hI.next hR (by kernel_rfl) (Mod.refl _ _) (PB.quiet hI.1 (Mod.refl _ _) (HGs.out D 13 zw1 zw1 (hI.1).g (Mod.refl _ _))) (upd_same V 13 _))
      ·intro D V zw1 a hR hI K hK;obtain ⟨hM1, hB1, hG1⟩ := hI.1;have zd3 := hR.pred 3 (by kernel_rfl);have zf3 : V 3 = .bool false := hI.2 3 zd3 rfl;have ze21 := hR.frame.done (t := 21) (j := 3) (by kernel_rfl) hR.ok zd3;rw [if_neg (by simp [Region.wanted, yielded, ze21, zf3])];exact hK undef _ (hI.next hR (by kernel_rfl) (Mod.refl _ _) (PB.quiet hI.1 (Mod.refl _ _) (HGs.out D 14 zw1 zw1 (hI.1).g (Mod.refl _ _))) (upd_same V 14 _))
      ·intro D V zw1 a hR hI K hK;obtain ⟨hM1, hB1, hG1⟩ := hI.1;have zd3 := hR.pred 3 (by kernel_rfl);have zf3 : V 3 = .bool false := hI.2 3 zd3 rfl;have ze21 := hR.frame.done (t := 21) (j := 3) (by kernel_rfl) hR.ok zd3;rw [if_neg (by simp [Region.wanted, yielded, ze21, zf3])];exact hK undef _ (hI.next hR (by kernel_rfl) (Mod.refl _ _) (PB.quiet hI.1 (Mod.refl _ _) (HGs.out D 15 zw1 zw1 (hI.1).g (Mod.refl _ _))) (upd_same V 15 _))
      ·intro D V zw1 a hR hI K hK;obtain ⟨hM1, hB1, hG1⟩ := hI.1;have zd3 := hR.pred 3 (by kernel_rfl);have zf3 : V 3 = .bool false := hI.2 3 zd3 rfl;have zd15 := hR.pred 15 (by kernel_rfl);have zf15 : V 15 = undef := hI.2 15 zd15 rfl;have ze21 := hR.frame.done (t := 21) (j := 3) (by kernel_rfl) hR.ok zd3;have ze33 := hR.frame.done (t := 33) (j := 15) (by kernel_rfl) hR.ok zd15;rw [if_pos (by rfl)];go_simp;exact hK (.bool false) _ (hI.next hR (by kernel_rfl) (Mod.refl _ _) (PB.quiet hI.1 (Mod.refl _ _) (HGs.out D 16 zw1 zw1 (hI.1).g (Mod.refl _ _))) (upd_same V 16 _))
     ·intro D V w2 hD hI;obtain ⟨hM1, hB1, hG1⟩ := hI.1;have hMx := hM1;clear hM1;have hBx := hB1;clear hB1;clear hG1;have zf0 : V 0 = .int .i64 0 := hI.2 0 (hD 0 (by decide)) rfl;have zf1 : V 1 = .int .i64 0 := hI.2 1 (hD 1 (by decide)) rfl;have zf2 : V 2 = .bool false := hI.2 2 (hD 2 (by decide)) rfl;have zf3 : V 3 = .bool false := hI.2 3 (hD 3 (by decide)) rfl;have zf4 : V 4 = undef := hI.2 4 (hD 4 (by decide)) rfl;have zf5 : V 5 = undef := hI.2 5 (hD 5 (by decide)) rfl;have zf6 : V 6 = undef := hI.2 6 (hD 6 (by decide)) rfl;have zf7 : V 7 = undef := hI.2 7 (hD 7 (by decide)) rfl;have zf8 : V 8 = undef := hI.2 8 (hD 8 (by decide)) rfl;have zf9 : V 9 = undef := hI.2 9 (hD 9 (by decide)) rfl;have zf10 : V 10 = undef := hI.2 10 (hD 10 (by decide)) rfl;have zf11 : V 11 = undef := hI.2 11 (hD 11 (by decide)) rfl;have zf12 : V 12 = undef := hI.2 12 (hD 12 (by decide)) rfl;have zf13 : V 13 = undef := hI.2 13 (hD 13 (by decide)) rfl;have zf14 : V 14 = undef := hI.2 14 (hD 14 (by decide)) rfl;have zf15 : V 15 = undef := hI.2 15 (hD 15 (by decide)) rfl;have zf16 : V 16 = .bool false := hI.2 16 (hD 16 (by decide)) rfl;clear hI hD HGs;simp only [frAll, Act.put, List.setIfInBounds_toArray, List.set_cons_zero, List.set_cons_succ, Nat.zero_add, Nat.reduceAdd, zf0, zf1, zf2, zf3, zf4, zf5, zf6, zf7, zf8, zf9, zf10, zf11, zf12, zf13, zf14, zf15, zf16];clear zf0 zf1 zf2 zf3 zf4 zf5 zf6 zf7 zf8 zf9 zf10 zf11 zf12 zf13 zf14 zf15 zf16;clear V D
      have HE2 : Hid (In1 w base g n cap xs lt (n - (sl + 1)) (.int .i64 ((sl : Int) + 1)) w2) := Lib.hid (by
       obtain ⟨S, R, e1, e2, e3, e4, e5, e6, e7, e8⟩ := HE.out
       exact ⟨S, R, e1, e2, e3, e4, e5, e6, own_pure e7 hMx, e8.trans (Mod.of_pure hMx)⟩)
      clear HE hm hMx
      go_wp2_with fail
      go_roundg (n - (sl + 1))
      case measure => first | exact hgk | omega
      case rel => exact HE2.out
    ·subst hA;rw [List.concat_eq_append] at *;obtain ⟨m, hmA⟩ : ∃ m, m = A'.length := ⟨_, rfl⟩;have HMA := Lib.hid hmA;have hxm : x ∈ xs := HP.out.mem_iff.1 (by simp);have hym : y ∈ xs := HP.out.mem_iff.1 (by simp)
     have hmn : m + 1 < n := by simp at hab; omega
     have hlk : (A' ++ [y]).length = m + 1 := by simp [hmA]
     have z1 : wr.cell? ⟨g, m + 1, none⟩ = some (.int .i64 (x : Int)) := (hown.cellAt (m + 1) (by omega)).trans (by rw [← hlk]; exact natsV_at _ _ _);have z0 : wr.cell? ⟨g, m, none⟩ = some (.int .i64 (y : Int)) := (hown.cellAt m (by omega)).trans (by rw [hmA, List.append_assoc]; exact natsV_at A' y _);have y1 := hown.frozenAt (m + 1);have y0 := hown.frozenAt m
     have e1 : IntKind.i64.wrap ((m : Int) + 1 - 1) = (m : Int) := by rw [Int.add_sub_cancel]; exact IntWalk.i64_in _ (by omega)
     have e2 : IntKind.i64.wrap (m : Int) = (m : Int) := IntWalk.i64_in _ (by omega)
     have j1 : (0 : Int) ≤ (m : Int) + 1 := by omega
     have j2 : (m : Int) + 1 < (n : Int) := by omega
     have j3 : (0 : Int) ≤ (m : Int) := by omega
     have j4 : (m : Int) < (n : Int) := by omega
     rw [hlk] at hab ⊢;have HLK := Lib.hid hlk;clear hmA hlk;rw [show ((m + 1 : Nat) : Int) = (m : Int) + 1 from by omega];obtain ⟨bo, hbo⟩ : ∃ bo, bo = lt x y := ⟨_, rfl⟩;have HBO := Lib.hid hbo;have HFC := Lib.hid (fun (W : World) (h : Mod (· = g) w W) => hbo ▸ HF.out x y W hxm hym h);clear hbo
     go_wp2_with fail
     have HGs := Lib.hid (show ∀ (D : Nat → Bool) (zzi : Nat) (zq zq' : World), (fun _ zq => (fun w => w.cell? ⟨g, m + 1, none⟩ = some (.int .i64 (x : Int)) ∧ w.cell? ⟨g, m, none⟩ = some (.int .i64 (y : Int))) zq) D zq → Mod (fun _ => False) zq zq' → (fun _ zq => (fun w => w.cell? ⟨g, m + 1, none⟩ = some (.int .i64 (x : Int)) ∧ w.cell? ⟨g, m, none⟩ = some (.int .i64 (y : Int))) zq) (upd D zzi true) zq' from by intro D zzi zq zq' h hm; (exact ⟨hm.keep h.1 id, hm.keep h.2 id⟩))
     refine wp_region_inv (by kernel_rfl) (by kernel_rfl) (InvF (R := Mod (fun _ => False)) [.is (.int .i64 ((m : Int) + 1)),
       .is (.int .i64 0),
       .is (.bool true),
       .is (.bool true),
       .is (.func (.func F) #[] #[c1]),
       .is (.slice (some ⟨g, 0, none⟩) n cap),
       .is (.int .i64 ((m : Int) + 1)),
       .is (.pointer (some ⟨g, m + 1, none⟩)),
       .is (.int .i64 (x : Int)),
       .is (.slice (some ⟨g, 0, none⟩) n cap),
       .is (.int .i64 ((m : Int) + 1)),
       .is (.int .i64 (m : Int)),
       .is (.pointer (some ⟨g, m, none⟩)),
       .is (.int .i64 (y : Int)),
       .val (fun zv => ∃ (k_14 : Int), zv = .int .i64 k_14 ∧ (k_14 < 0 ↔ bo = true)),
       .is (.bool bo),
       .is (.bool bo)]
       (PB wr (fun _ => False) wr.heap.size (fun _ zq => (fun w => w.cell? ⟨g, m + 1, none⟩ = some (.int .i64 (x : Int)) ∧ w.cell? ⟨g, m, none⟩ = some (.int .i64 (y : Int))) zq))) (InvF.start (PB.start (Mod.refl _ _) (Nat.le_refl _) (⟨z1, z0⟩))) ?_ ?_
     ·refine .cons ?_ (.cons ?_ (.cons ?_ (.cons ?_ (.cons ?_ (.cons ?_ (.cons ?_ (.cons ?_ (.cons ?_ (.cons ?_ (.cons ?_ (.cons ?_ (.cons ?_ (.cons ?_ (.cons ?_ (.cons ?_ (.cons ?_ .nil))))))))))))))))
      ·intro D V zw1 a hR hI K hK;obtain ⟨hM1, hB1, hG1⟩ := hI.1;obtain ⟨hG1a, hG1b⟩ := hG1;have ze9 := hR.frame.other (t := 9) (by kernel_rfl) rfl;rw [if_pos (by rfl)];go_simp;exact hK (.int .i64 ((m : Int) + 1)) _ (hI.next hR (by kernel_rfl) (Mod.refl _ _) (PB.quiet hI.1 (Mod.refl _ _) (HGs.out D 0 zw1 zw1 (hI.1).g (Mod.refl _ _))) (upd_same V 0 _))
      ·intro D V zw1 a hR hI K hK;obtain ⟨hM1, hB1, hG1⟩ := hI.1;obtain ⟨hG1a, hG1b⟩ := hG1;have ze1 := hR.frame.other (t := 1) (by kernel_rfl) rfl;rw [if_pos (by rfl)];go_simp;exact hK (.int .i64 0) _ (hI.next hR (by kernel_rfl) (Mod.refl _ _) (PB.quiet hI.1 (Mod.refl _ _) (HGs.out D 1 zw1 zw1 (hI.1).g (Mod.refl _ _))) (upd_same V 1 _))
      ·intro D V zw1 a hR hI K hK;obtain ⟨hM1, hB1, hG1⟩ := hI.1;obtain ⟨hG1a, hG1b⟩ := hG1;have zd0 := hR.pred 0 (by kernel_rfl);have zf0 : V 0 = .int .i64 ((m : Int) + 1) := hI.2 0 zd0 rfl;have zd1 := hR.pred 1 (by kernel_rfl);have zf1 : V 1 = .int .i64 0 := hI.2 1 zd1 rfl;have ze18 := hR.frame.done (t := 18) (j := 0) (by kernel_rfl) hR.ok zd0;have ze19 := hR.frame.done (t := 19) (j := 1) (by kernel_rfl) hR.ok zd1;rw [if_pos (by rfl)];go_simp;exact hK (.bool true) _ (hI.next hR (by kernel_rfl) (Mod.refl _ _) (PB.quiet hI.1 (Mod.refl _ _) (HGs.out D 2 zw1 zw1 (hI.1).g (Mod.refl _ _))) (upd_same V 2 _))
      ·intro D V zw1 a hR hI K hK;obtain ⟨hM1, hB1, hG1⟩ := hI.1;obtain ⟨hG1a, hG1b⟩ := hG1;have zd2 := hR.pred 2 (by kernel_rfl);have zf2 : V 2 = .bool true := hI.2 2 zd2 rfl;have ze20 := hR.frame.done (t := 20) (j := 2) (by kernel_rfl) hR.ok zd2;rw [if_pos (by rfl)];go_simp;exact hK (.bool true) _ (hI.next hR (by kernel_rfl) (Mod.refl _ _) (PB.quiet hI.1 (Mod.refl _ _) (HGs.out D 3 zw1 zw1 (hI.1).g (Mod.refl _ _))) (upd_same V 3 _))
      ·intro D V zw1 a hR hI K hK;obtain ⟨hM1, hB1, hG1⟩ := hI.1;obtain ⟨hG1a, hG1b⟩ := hG1;have zd3 := hR.pred 3 (by kernel_rfl);have zf3 : V 3 = .bool true := hI.2 3 zd3 rfl;have ze3 := hR.frame.other (t := 3) (by kernel_rfl) rfl;have ze21 := hR.frame.done (t := 21) (j := 3) (by kernel_rfl) hR.ok zd3;rw [if_pos (by simp [Region.wanted, yielded, ze21, zf3])];go_simp;exact hK (.func (.func F) #[] #[c1]) _ (hI.next hR (by kernel_rfl) (Mod.refl _ _) (PB.quiet hI.1 (Mod.refl _ _) (HGs.out D 4 zw1 zw1 (hI.1).g (Mod.refl _ _))) (upd_same V 4 _))
      ·intro D V zw1 a hR hI K hK;obtain ⟨hM1, hB1, hG1⟩ := hI.1;obtain ⟨hG1a, hG1b⟩ := hG1;have zd3 := hR.pred 3 (by kernel_rfl);have zf3 : V 3 = .bool true := hI.2 3 zd3 rfl;have ze0 := hR.frame.other (t := 0) (by kernel_rfl) rfl;have ze21 := hR.frame.done (t := 21) (j := 3) (by kernel_rfl) hR.ok zd3;rw [if_pos (by simp [Region.wanted, yielded, ze21, zf3])];go_simp;exact hK (.slice (some ⟨g, 0, none⟩) n cap) _ (hI.next hR (by kernel_rfl) (Mod.refl _ _) (PB.quiet hI.1 (Mod.refl _ _) (HGs.out D 5 zw1 zw1 (hI.1).g (Mod.refl _ _))) (upd_same V 5 _))
      ·intro D V zw1 a hR hI K hK;obtain ⟨hM1, hB1, hG1⟩ := hI.1;obtain ⟨hG1a, hG1b⟩ := hG1;have zd3 := hR.pred 3 (by kernel_rfl);have zf3 : V 3 = .bool true := hI.2 3 zd3 rfl;have ze9 := hR.frame.other (t := 9) (by kernel_rfl) rfl;have ze21 := hR.frame.done (t := 21) (j := 3) (by kernel_rfl) hR.ok zd3;rw [if_pos (by simp [Region.wanted, yielded, ze21, zf3])];go_simp;exact hK (.int .i64 ((m : Int) + 1)) _ (hI.next hR (by kernel_rfl) (Mod.refl _ _) (PB.quiet hI.1 (Mod.refl _ _) (HGs.out D 6 zw1 zw1 (hI.1).g (Mod.refl _ _))) (upd_same V 6 _))
      ·intro D V zw1 a hR hI K hK;obtain ⟨hM1, hB1, hG1⟩ := hI.1;obtain ⟨hG1a, hG1b⟩ := hG1;have zd5 := hR.pred 5 (by kernel_rfl);have zf5 : V 5 = .slice (some ⟨g, 0, none⟩) n cap := hI.2 5 zd5 rfl;have zd6 := hR.pred 6 (by kernel_rfl);have zf6 : V 6 = .int .i64 ((m : Int) + 1) := hI.2 6 zd6 rfl;have zd3 := hR.pred 3 (by kernel_rfl);have zf3 : V 3 = .bool true := hI.2 3 zd3 rfl;have ze23 := hR.frame.done (t := 23) (j := 5) (by kernel_rfl) hR.ok zd5;have ze24 := hR.frame.done (t := 24) (j := 6) (by kernel_rfl) hR.ok zd6;have ze21 := hR.frame.done (t := 21) (j := 3) (by kernel_rfl) hR.ok zd3;rw [if_pos (by simp [Region.wanted, yielded, ze21, zf3])];go_simp;exact hK (.pointer (some ⟨g, m + 1, none⟩)) _ (hI.next hR (by kernel_rfl) (Mod.refl _ _) (PB.quiet hI.1 (Mod.refl _ _) (HGs.out D 7 zw1 zw1 (hI.1).g (Mod.refl _ _))) (upd_same V 7 _))
      ·intro D V zw1 a hR hI K hK;obtain ⟨hM1, hB1, hG1⟩ := hI.1;obtain ⟨hG1a, hG1b⟩ := hG1;have zd7 := hR.pred 7 (by kernel_rfl);have zf7 : V 7 = .pointer (some ⟨g, m + 1, none⟩) := hI.2 7 zd7 rfl;have zd3 := hR.pred 3 (by kernel_rfl);have zf3 : V 3 = .bool true := hI.2 3 zd3 rfl;have ze25 := hR.frame.done (t := 25) (j := 7) (by kernel_rfl) hR.ok zd7;have ze21 := hR.frame.done (t := 21) (j := 3) (by kernel_rfl) hR.ok zd3;rw [if_pos (by simp [Region.wanted, yielded, ze21, zf3])];go_simp;exact hK (.int .i64 (x : Int)) _ (hI.next hR (by kernel_rfl) (Mod.refl _ _) (PB.quiet hI.1 (Mod.refl _ _) (HGs.out D 8 zw1 zw1 (hI.1).g (Mod.refl _ _))) (upd_same V 8 _))
      ·intro D V zw1 a hR hI K hK;obtain ⟨hM1, hB1, hG1⟩ := hI.1;obtain ⟨hG1a, hG1b⟩ := hG1;have zd3 := hR.pred 3 (by kernel_rfl);have zf3 : V 3 = .bool true := hI.2 3 zd3 rfl;have ze0 := hR.frame.other (t := 0) (by kernel_rfl) rfl;have ze21 := hR.frame.done (t := 21) (j := 3) (by kernel_rfl) hR.ok zd3;rw [if_pos (by simp [Region.wanted, yielded, ze21, zf3])];go_simp;exact hK (.slice (some ⟨g, 0, none⟩) n cap) _ (hI.next hR (by kernel_rfl) (Mod.refl _ _) (PB.quiet hI.1 (Mod.refl _ _) (HGs.out D 9 zw1 zw1 (hI.1).g (Mod.refl _ _))) (upd_same V 9 _))
      ·intro D V zw1 a hR hI K hK;obtain ⟨hM1, hB1, hG1⟩ := hI.1;obtain ⟨hG1a, hG1b⟩ := hG1;have zd3 := hR.pred 3 (by kernel_rfl);have zf3 : V 3 = .bool true := hI.2 3 zd3 rfl;have ze9 := hR.frame.other (t := 9) (by kernel_rfl) rfl;have ze21 := hR.frame.done (t := 21) (j := 3) (by kernel_rfl) hR.ok zd3;rw [if_pos (by simp [Region.wanted, yielded, ze21, zf3])];go_simp;exact hK (.int .i64 ((m : Int) + 1)) _ (hI.next hR (by kernel_rfl) (Mod.refl _ _) (PB.quiet hI.1 (Mod.refl _ _) (HGs.out D 10 zw1 zw1 (hI.1).g (Mod.refl _ _))) (upd_same V 10 _))
      ·intro D V zw1 a hR hI K hK;obtain ⟨hM1, hB1, hG1⟩ := hI.1;obtain ⟨hG1a, hG1b⟩ := hG1;have zd10 := hR.pred 10 (by kernel_rfl);have zf10 : V 10 = .int .i64 ((m : Int) + 1) := hI.2 10 zd10 rfl;have zd3 := hR.pred 3 (by kernel_rfl);have zf3 : V 3 = .bool true := hI.2 3 zd3 rfl;have ze28 := hR.frame.done (t := 28) (j := 10) (by kernel_rfl) hR.ok zd10;have ze21 := hR.frame.done (t := 21) (j := 3) (by kernel_rfl) hR.ok zd3;rw [if_pos (by simp [Region.wanted, yielded, ze21, zf3])];go_simp;exact hK (.int .i64 (m : Int)) _ (hI.next hR (by kernel_rfl) (Mod.refl _ _) (PB.quiet hI.1 (Mod.refl _ _) (HGs.out D 11 zw1 zw1 (hI.1).g (Mod.refl _ _))) (upd_same V 11 _))
      ·intro D V zw1 a hR hI K hK;obtain ⟨hM1, hB1, hG1⟩ := hI.1;obtain ⟨hG1a, hG1b⟩ := hG1;have zd9 := hR.pred 9 (by kernel_rfl);have zf9 : V 9 = .slice (some ⟨g, 0, none⟩) n cap := hI.2 9 zd9 rfl;have zd11 := hR.pred 11 (by kernel_rfl);have zf11 : V 11 = .int .i64 (m : Int) := hI.2 11 zd11 rfl;have zd3 := hR.pred 3 (by kernel_rfl);have zf3 : V 3 = .bool true := hI.2 3 zd3 rfl;have ze27 := hR.frame.done (t := 27) (j := 9) (by kernel_rfl) hR.ok zd9;have ze29 := hR.frame.done (t := 29) (j := 11) (by kernel_rfl) hR.ok zd11;have ze21 := hR.frame.done (t := 21) (j := 3) (by kernel_rfl) hR.ok zd3;rw [if_pos (by simp [Region.wanted, yielded, ze21, zf3])];go_simp;exact hK (.pointer (some ⟨g, m, none⟩)) _ (hI.next hR (by kernel_rfl) (Mod.refl _ _) (PB.quiet hI.1 (Mod.refl _ _) (HGs.out D 12 zw1 zw1 (hI.1).g (Mod.refl _ _))) (upd_same V 12 _))
      ·intro D V zw1 a hR hI K hK;obtain ⟨hM1, hB1, hG1⟩ := hI.1;obtain ⟨hG1a, hG1b⟩ := hG1;have zd12 := hR.pred 12 (by kernel_rfl);have zf12 : V 12 = .pointer (some ⟨g, m, none⟩) := hI.2 12 zd12 rfl;have zd3 := hR.pred 3 (by kernel_rfl);have zf3 : V 3 = .bool true := hI.2 3 zd3 rfl;have ze30 := hR.frame.done (t := 30) (j := 12) (by kernel_rfl) hR.ok zd12;have ze21 := hR.frame.done (t := 21) (j := 3) (by kernel_rfl) hR.ok zd3;rw [if_pos (by simp [Region.wanted, yielded, ze21, zf3])];go_simp;exact hK (.int .i64 (y : Int)) _ (hI.next hR (by kernel_rfl) (Mod.refl _ _) (PB.quiet hI.1 (Mod.refl _ _) (HGs.out D 13 zw1 zw1 (hI.1).g (Mod.refl _ _))) (upd_same V 13 _))
      ·intro D V zw1 a hR hI K hK;obtain ⟨hM1, hB1, hG1⟩ := hI.1;obtain ⟨hG1a, hG1b⟩ := hG1;have zd4 := hR.pred 4 (by kernel_rfl);have zf4 : V 4 = .func (.func F) #[] #[c1] := hI.2 4 zd4 rfl;have zd8 := hR.pred 8 (by kernel_rfl);have zf8 : V 8 = .int .i64 (x : Int) := hI.2 8 zd8 rfl;have zd13 := hR.pred 13 (by kernel_rfl);have zf13 : V 13 = .int .i64 (y : Int) := hI.2 13 zd13 rfl;have zd3 := hR.pred 3 (by kernel_rfl);have zf3 : V 3 = .bool true := hI.2 3 zd3 rfl;have ze22 := hR.frame.done (t := 22) (j := 4) (by kernel_rfl) hR.ok zd4;have ze26 := hR.frame.done (t := 26) (j := 8) (by kernel_rfl) hR.ok zd8;have ze31 := hR.frame.done (t := 31) (j := 13) (by kernel_rfl) hR.ok zd13;have ze21 := hR.frame.done (t := 21) (j := 3) (by kernel_rfl) hR.ok zd3;rw [if_pos (by simp [Region.wanted, yielded, ze21, zf3])];go_simp;refine (HFC.out _ (hm.trans (Mod.of_pure hM1))).mono ?_;rintro e zw2 ⟨k_0, rfl, hcq, hm2⟩;exact hK (.int .i64 k_0) _ (hI.next hR (by kernel_rfl) hm2 (PB.quiet hI.1 hm2 (HGs.out D 14 _ _ (hI.1).g hm2)) (⟨k_0, upd_same V 14 _, hcq⟩))
      ·intro D V zw1 a hR hI K hK;obtain ⟨hM1, hB1, hG1⟩ := hI.1;obtain ⟨hG1a, hG1b⟩ := hG1;have zd14 := hR.pred 14 (by kernel_rfl);have zF14 : ∃ (k_14 : Int), V 14 = .int .i64 k_14 ∧ (k_14 < 0 ↔ bo = true) := hI.2 14 zd14 rfl;obtain ⟨k_14, zf14, c14_0⟩ := zF14;have zd3 := hR.pred 3 (by kernel_rfl);have zf3 : V 3 = .bool true := hI.2 3 zd3 rfl;have ze32 := hR.frame.done (t := 32) (j := 14) (by kernel_rfl) hR.ok zd14
       have hdc : decide (k_14 < 0) = bo := by rw [Bool.eq_iff_iff]; simpa using c14_0
       have ze21 := hR.frame.done (t := 21) (j := 3) (by kernel_rfl) hR.ok zd3;rw [if_pos (by simp [Region.wanted, yielded, ze21, zf3])];go_simp;exact hK (.bool bo) _ (hI.next hR (by kernel_rfl) (Mod.refl _ _) (PB.quiet hI.1 (Mod.refl _ _) (HGs.out D 15 zw1 zw1 (hI.1).g (Mod.refl _ _))) (upd_same V 15 _))
      ·intro D V zw1 a hR hI K hK;obtain ⟨hM1, hB1, hG1⟩ := hI.1;obtain ⟨hG1a, hG1b⟩ := hG1;have zd3 := hR.pred 3 (by kernel_rfl);have zf3 : V 3 = .bool true := hI.2 3 zd3 rfl;have zd15 := hR.pred 15 (by kernel_rfl);have zf15 : V 15 = .bool bo := hI.2 15 zd15 rfl;have ze21 := hR.frame.done (t := 21) (j := 3) (by kernel_rfl) hR.ok zd3;have ze33 := hR.frame.done (t := 33) (j := 15) (by kernel_rfl) hR.ok zd15;rw [if_pos (by rfl)];go_simp;exact hK (.bool bo) _ (hI.next hR (by kernel_rfl) (Mod.refl _ _) (PB.quiet hI.1 (Mod.refl _ _) (HGs.out D 16 zw1 zw1 (hI.1).g (Mod.refl _ _))) (upd_same V 16 _))
     ·intro D V w2 hD hI;obtain ⟨hM1, hB1, hG1⟩ := hI.1;have hMx := hM1;clear hM1;have hBx := hB1;clear hB1;have hGx := hG1;clear hG1;have zf0 : V 0 = .int .i64 ((m : Int) + 1) := hI.2 0 (hD 0 (by decide)) rfl;have zf1 : V 1 = .int .i64 0 := hI.2 1 (hD 1 (by decide)) rfl;have zf2 : V 2 = .bool true := hI.2 2 (hD 2 (by decide)) rfl;have zf3 : V 3 = .bool true := hI.2 3 (hD 3 (by decide)) rfl;have zf4 : V 4 = .func (.func F) #[] #[c1] := hI.2 4 (hD 4 (by decide)) rfl;have zf5 : V 5 = .slice (some ⟨g, 0, none⟩) n cap := hI.2 5 (hD 5 (by decide)) rfl;have zf6 : V 6 = .int .i64 ((m : Int) + 1) := hI.2 6 (hD 6 (by decide)) rfl;have zf7 : V 7 = .pointer (some ⟨g, m + 1, none⟩) := hI.2 7 (hD 7 (by decide)) rfl;have zf8 : V 8 = .int .i64 (x : Int) := hI.2 8 (hD 8 (by decide)) rfl;have zf9 : V 9 = .slice (some ⟨g, 0, none⟩) n cap := hI.2 9 (hD 9 (by decide)) rfl;have zf10 : V 10 = .int .i64 ((m : Int) + 1) := hI.2 10 (hD 10 (by decide)) rfl;have zf11 : V 11 = .int .i64 (m : Int) := hI.2 11 (hD 11 (by decide)) rfl;have zf12 : V 12 = .pointer (some ⟨g, m, none⟩) := hI.2 12 (hD 12 (by decide)) rfl;have zf13 : V 13 = .int .i64 (y : Int) := hI.2 13 (hD 13 (by decide)) rfl;have zF14 : ∃ (k_14 : Int), V 14 = .int .i64 k_14 ∧ (k_14 < 0 ↔ bo = true) := hI.2 14 (hD 14 (by decide)) rfl;obtain ⟨k_14, zf14, c14_0⟩ := zF14;have zf15 : V 15 = .bool bo := hI.2 15 (hD 15 (by decide)) rfl;have zf16 : V 16 = .bool bo := hI.2 16 (hD 16 (by decide)) rfl;clear hI hD HGs;simp only [frAll, Act.put, List.setIfInBounds_toArray, List.set_cons_zero, List.set_cons_succ, Nat.zero_add, Nat.reduceAdd, zf0, zf1, zf2, zf3, zf4, zf5, zf6, zf7, zf8, zf9, zf10, zf11, zf12, zf13, zf14, zf15, zf16];clear zf0 zf1 zf2 zf3 zf4 zf5 zf6 zf7 zf8 zf9 zf10 zf11 zf12 zf13 zf14 zf15 zf16;clear V D;clear c14_0 HFC;have m2 : Mod (· = g) w w2 := hm.trans (Mod.of_pure hMx);have hown5 := own_pure hown hMx;obtain ⟨q1, q0⟩ := hGx;have p1 := hown5.frozenAt (m + 1);have p0 := hown5.frozenAt m;clear hown hm hMx z1 z0 y1 y0
      cases bo with
      | true =>
       go_wp2_with fail
       go_region
       all_goals
        go_wp2_with fail
        go_roundg m
        case measure => rw [HLK.out]; omega
        case rel =>
         have hs1 := (hown5.stored (m + 1) (.int .i64 (y : Int))).1;have hs2 := (hs1.stored m (.int .i64 (x : Int))).1;rw [natsV_set, natsV_set, show (((A' ++ [y]) ++ x :: (B ++ R')).set (m + 1) y).set m x = A' ++ x :: y :: (B ++ R') from by rw [HMA.out]; exact swap_list _ _ _ _] at hs2;have hm2 : Mod (· = g) w ((w2.setCell ⟨g, m + 1, none⟩ (.int .i64 (y : Int))).setCell ⟨g, m, none⟩ (.int .i64 (x : Int))) := Mod.setCell (S := fun j => j = g) (p := ⟨g, m, none⟩) (Mod.setCell (S := fun j => j = g) (p := ⟨g, m + 1, none⟩) m2 (.inl rfl) _) (.inl rfl) _;refine ⟨A', y :: B, HMA.out.symm, by rw [← HMA.out]; simp; omega, by rw [HMA.out], (List.Perm.trans ?_ HP.out), by simpa using HS.out, fun z hz => ?_, hs2.drew, hm2.drew⟩
         ·rw [List.append_assoc];exact List.Perm.append_left A' (List.Perm.swap _ _ _)
         ·rcases List.mem_cons.1 hz with rfl | h
          ·exact HBO.out.symm
          ·exact HXB.out z h
      | false =>
       have hyx : lt y x = true := by
        rcases HTO.out x hxm y hym (by
         intro he;subst he;have := HP.out.nodup_iff.2 HND.out
         exact (List.nodup_append.1 this).2.2 x (by simp) x (by simp) rfl) with h | h
        ·rw [HBO.out.symm] at h
         cases h
        ·exact h
       have HE : Hid (In1 w base g n cap xs lt (n - (sl + 1)) (.int .i64 ((sl : Int) + 1)) w2) := Lib.hid (by
        refine ⟨(A' ++ [y]) ++ x :: B, R', ?_, ?_, by simp; omega, ?_, by simpa using HP.out, pairwise_ins HS.out (fun a ha => ?_) HXB.out, by simpa using hown5, m2⟩
        ·simp; have := HMA.out; omega
        ·simp; have := HMA.out; omega
        ·simp; have := HMA.out; omega
        ·rcases List.mem_append.1 ha with h | h
         ·exact HTR.out _ _ _ ((List.pairwise_append.1 (List.pairwise_append.1 HS.out).1).2.2 a h y (by simp)) hyx
         ·rw [List.mem_singleton.1 h]; exact hyx)
       clear hown5 q0 q1 p0 p1 HP HS HXB
       go_wp2_with fail
       go_roundg (n - (sl + 1))
       case measure => first | exact hgk | omega
       case rel => exact HE.out
  ·have hsl : S.length = n := by omega
   have hR : R = [] := List.eq_nil_of_length_eq_zero (by omega);subst hR;rw [List.append_nil] at HP hown;have HO := Lib.hid hown;clear hown hsl hlen
   go_wp2_with fail
   go_end0
   exact ⟨S, HP.out, HS.out, rfl, HO.out, hm⟩
end Go.Proofs.YtgfgggeeoeppjaaGreatDoor
/- slices.SortFunc over at most 12 numbers. -/
namespace Go.Proofs.YtgfgggeeoeppjaaGreatDoor
open Go.RowKit
attribute [local go_sem ↓] Go.wp_at_zero Go.wp_at_succ
def AnyPost (w : World) (e : Ending) (w' : World) : Prop := ∃ v : Value, e = .returned v ∧ Pure w w'
set_option maxHeartbeats 2000000 in
theorem len64_calls (w : World) (n : Nat) (hn : n ≤ 12) : Calls Tryz.prog 205 #[.int .u64 (n : Int)] w (AnyPost w) := by
 have h : n = 0 ∨ n = 1 ∨ n = 2 ∨ n = 3 ∨ n = 4 ∨ n = 5 ∨ n = 6 ∨ n = 7 ∨ n = 8 ∨ n = 9 ∨ n = 10 ∨ n = 11 ∨ n = 12 := by omega
 go_enter Tryz.func205, Tryz.ntmps205
 rcases h with rfl | rfl | rfl | rfl | rfl | rfl | rfl | rfl | rfl | rfl | rfl | rfl | rfl
 all_goals
  go_wp2_with fail
  go_ret;exact ⟨_, rfl, Mod.refl _ _⟩
set_option maxHeartbeats 2000000 in
theorem lenU_calls (w : World) (n : Nat) (hn : n ≤ 12) : Calls Tryz.prog 166 #[.int .u64 (n : Int)] w (AnyPost w) := by
 have H := Lib.hid (len64_calls w n hn)
 go_enter Tryz.func166, Tryz.ntmps166
 go_wp2_with fail
 refine H.out.mono ?_;rintro e w1 ⟨v, rfl, hm⟩
 go_wp2_with fail
 go_ret;exact ⟨_, rfl, hm⟩
set_option maxHeartbeats 8000000 in
theorem pdq_calls (w : World) (base g n cap : Nat) (xs : List Nat) (F : Nat) (c1 vl : Value) (lt : Nat → Nat → Bool) (hown : w.ownsRow base 3 1 (.slice (some ⟨g, 0, none⟩) n cap) n (natsV xs)) (hn1 : 1 ≤ n) (hn : n ≤ 12)
  (htr : ∀ a b c, lt a b = true → lt b c = true → lt a c = true) (hto : ∀ a ∈ xs, ∀ b ∈ xs, a ≠ b → lt a b = true ∨ lt b a = true) (hnd : xs.Nodup)
  (hcf : ∀ (a b : Int) (W : World), Sem.run Tryz.prog (callFunc F #[.int .i64 a, .int .i64 b, c1]) W = .ok (.enter F #[.int .i64 a, .int .i64 b, c1]) W)
  (hF : ∀ (a b : Nat) (W : World), a ∈ xs → b ∈ xs → Mod (· = g) w W → Calls Tryz.prog F #[.int .i64 (a : Int), .int .i64 (b : Int), c1] W (CmpPost W (lt a b))) :
  Calls Tryz.prog 165 #[.slice (some ⟨g, 0, none⟩) n cap, .int .i64 0, .int .i64 (n : Int), vl, .func (.func F) #[] #[c1]] w (SrtPost w base g n cap xs lt) := by
 have H := Lib.hid (insert_calls w base g n cap xs F c1 lt hown hn1 (by omega) htr hto hnd hcf hF);clear hown htr hto hnd hcf hF
 have e1 : IntKind.i64.wrap ((n : Int) - 0) = (n : Int) := by rw [Int.sub_zero]; exact IntWalk.i64_in _ (by omega)
 have e2 : (n : Int) ≤ 12 := by omega
 go_enter Tryz.func165, Tryz.ntmps165
 go_wp2_with fail
 refine wp_loop_rounds 1 ?_;rw [rounds_succ]
 go_wp2_with fail
 refine H.out.mono ?_;rintro e w1 ⟨ys, hy1, hy2, rfl, hown, hm3⟩
 go_wp2_with fail
 go_end0
 exact ⟨ys, hy1, hy2, rfl, hown, hm3⟩
set_option maxHeartbeats 8000000 in
theorem sortFunc_calls (w : World) (base g n cap : Nat) (xs : List Nat) (F : Nat) (c1 : Value) (lt : Nat → Nat → Bool) (hown : w.ownsRow base 3 1 (.slice (some ⟨g, 0, none⟩) n cap) n (natsV xs)) (hn1 : 1 ≤ n) (hn : n ≤ 12)
  (htr : ∀ a b c, lt a b = true → lt b c = true → lt a c = true) (hto : ∀ a ∈ xs, ∀ b ∈ xs, a ≠ b → lt a b = true ∨ lt b a = true) (hnd : xs.Nodup)
  (hcf : ∀ (a b : Int) (W : World), Sem.run Tryz.prog (callFunc F #[.int .i64 a, .int .i64 b, c1]) W = .ok (.enter F #[.int .i64 a, .int .i64 b, c1]) W)
  (hF : ∀ (a b : Nat) (W : World), a ∈ xs → b ∈ xs → Mod (· = g) w W → Calls Tryz.prog F #[.int .i64 (a : Int), .int .i64 (b : Int), c1] W (CmpPost W (lt a b))) :
  Calls Tryz.prog 112 #[.slice (some ⟨g, 0, none⟩) n cap, .func (.func F) #[] #[c1]] w (SrtPost w base g n cap xs lt) := by
 have HL := Lib.hid (lenU_calls w n hn)
 have H : Hid (∀ (vl : Value) (w1 : World), Pure w w1 → Calls Tryz.prog 165 #[.slice (some ⟨g, 0, none⟩) n cap, .int .i64 0, .int .i64 (n : Int), vl, .func (.func F) #[] #[c1]] w1 (SrtPost w1 base g n cap xs lt)) :=
  Lib.hid (fun vl w1 hp => pdq_calls w1 base g n cap xs F c1 vl lt (own_pure hown hp) hn1 hn htr hto hnd hcf (fun a b W ha hb hm => hF a b W ha hb ((Mod.of_pure hp).trans hm)))
 clear hown htr hto hnd hcf hF
 go_enter Tryz.func112, Tryz.ntmps112
 go_wp2_with fail
 refine HL.out.mono ?_;rintro e w1 ⟨v, rfl, hm⟩
 go_wp2_with fail
 refine (H.out _ _ hm).mono ?_;rintro e w1 ⟨ys, hy1, hy2, rfl, hown, hm3⟩
 go_wp2_with fail
 go_end0
 exact ⟨ys, hy1, hy2, rfl, hown, (Mod.of_pure hm).trans hm3⟩
end Go.Proofs.YtgfgggeeoeppjaaGreatDoor
