/- Texts of the proof of DecisionMerges, put together: DrwR. -/
import Derived.Test.YtkkndblcejmmjaaGreatDoorDecisionMergesZ12
import Derived.Deep.AppendLies
/- No primitive takes a draw back. -/
namespace Go.Proofs.YtkkndblcejmmjaaGreatDoor
set_option linter.unusedVariables false
set_option linter.unusedSimpArgs false
open Go.RowKit

theorem ask_drawnR {α : Type} : ∀ (k : Ask α) (w : World), w.drawn ≤ (w.ask k).2.drawn
 | .done a, w => by simp [World.ask]
 | .ask what range k, w => by
  unfold World.ask
  simp only
  split
  ·exact ask_drawnR _ _
  ·exact Nat.le_trans (Nat.le_succ w.drawn) (ask_drawnR (k _) { w with drawn := w.drawn + 1 })
theorem sys_drawnR (w : World) (c : Sys) : w.drawn ≤ (w.sys c).2.drawn := by
 unfold World.sys
 have h := ask_drawnR (Kernel.perform c w.os) w
 split
 ·exact Nat.le_refl _
 ·rename_i r os w' _ he
  rw [he] at h
  exact h
theorem far_drawnR {p : Program} {w w' : World} {a : Addr} {v : Value} {b : Bool} {l : List Addr} (h : w.farStore p a v b = .ok (w', l)) : w'.drawn = w.drawn := by
 unfold World.farStore at h
 split at h
 ·rename_i at_ u _
  split at h
  ·rename_i r hr
   injection h with h
   subst h
   unfold World.viewStore at hr
   revert hr
   simp only [bind, Except.bind, pure, Except.pure]
   intro hr
   repeat' (first | (split at hr) | (cases hr; done) | (injection hr with hr; injection hr with h1 h2; rw [← h1]; done))
  ·cases h
 ·cases h
theorem run_drawnR {α : Type} (p : Program) : ∀ (s : Sem α) (w : World) {a : α} {w' : World}, s.run p w = .ok a w' → w.drawn ≤ w'.drawn
 | .pure a, w, _, _, h => by simp only [Sem.run] at h; injection h with _ h; rw [h]; exact Nat.le_refl _
 | .load m a k, w, _, _, h => by
  simp only [Sem.run] at h
  split at h
  ·exact run_drawnR p _ _ h
  ·split at h
   ·exact run_drawnR p _ _ h
   ·cases h
 | .store m a v k, w, a1, w1, h => by
  have key : ∀ (r : Result α), r = .ok a1 w1 → (r = (match w.cell? a with
    | some _ => if w.frozen? a then Result.halt (.unsupported (.unsafePointer "a write to bytes that a string shares")) w else k.run p (w.setCell a v)
    | none => match w.farStore p a v (m == Mode.atomic) with
     | .ok (w, _) => k.run p w
     | .error h => .halt h w) ∨ ∃ x, r = .halt x w) → w.drawn ≤ w1.drawn := fun r hr h => by
   rcases h with h | ⟨x, h⟩
   ·rw [hr] at h
    split at h
    ·split at h
     ·cases h
     ·exact (run_drawnR p k (w.setCell a v) h.symm :)
    ·split at h
     ·rename_i w1 l he
      exact Nat.le_trans (Nat.le_of_eq (far_drawnR he).symm) (run_drawnR p k _ h.symm)
     ·cases h
   ·rw [hr] at h; cases h
  refine key _ h ?_
  cases v <;> first | exact .inl rfl | exact .inr ⟨_, rfl⟩
 | .new o k, w, _, _, h => by
  simp only [Sem.run] at h
  exact (run_drawnR p _ { w with heap := w.heap.push o } h :)
 | .shape r k, w, _, _, h => by simp only [Sem.run] at h; exact run_drawnR p _ _ h
 | .freeze a n k, w, _, _, h => by
  simp only [Sem.run] at h
  have := run_drawnR p _ _ h
  unfold World.freeze at this
  split at this <;> exact this
 | .frozen a k, w, _, _, h => by simp only [Sem.run] at h; exact run_drawnR p _ _ h
 | .getObj r k, w, _, _, h => by
  simp only [Sem.run] at h
  split at h
  ·cases h
  ·exact run_drawnR p _ _ h
  ·cases h
 | .setObj r o k, w, _, _, h => by
  simp only [Sem.run] at h
  split at h
  ·cases h
  ·exact (run_drawnR p _ { w with heap := w.heap.setIfInBounds r o } h :)
  ·cases h
 | .choose q k, w, _, _, h => by
  simp only [Sem.run] at h
  split at h
  ·exact run_drawnR p _ _ h
  ·exact Nat.le_trans (Nat.le_succ _) (run_drawnR p _ { w with drawn := w.drawn + 1 } h :)
 | .sys c k, w, _, _, h => by
  simp only [Sem.run] at h
  exact Nat.le_trans (sys_drawnR w c) (run_drawnR p _ _ h)
 | .program k, w, _, _, h => by simp only [Sem.run] at h; exact run_drawnR p _ _ h
 | .mark _ k, w, _, _, h => by simp only [Sem.run] at h; exact run_drawnR p _ _ h
 | .halt _, w, _, _, h => by simp only [Sem.run] at h; cases h

/-- wp_append_lies, and the draws. -/
theorem wp_append_liesD {P : Program} (w : World) {o : Oper} {a : Act} {K : Act → World → Prop} {Q : Exit → Act → World → Prop} (s x : Operand) (t : TypeId)
  (ho : o.op = .call { callee := .builtin .append, args := #[s, x], argTypes := #[t, t] })
  (base : Nat) (e : TypeId) (i : TypeInfo) (z : Value) (size bytes : Nat) (ht : P.underlying t = some (.slice e)) (hi : P.info? e = some i) (hz : i.zero = some z)
  (hsize : i.size = size) (hby : i.bytes = bytes) (hzs : z.cells.size = size) (hsz : 0 < size)
  (v : Value) (n : Nat) (xs : List Value) (hs : a.eval s = v) (hown : w.ownsRow base e size v n xs)
  (ad : Addr) (m c : Nat) (news : List Value) (hx : a.eval x = .slice (some ad) m c) (hl : news.length = m * size) (hnews : ∀ j u, news[j]? = some u → w.cell? (ad.add j) = some u) (h1 : ∀ u ∈ news, u.oneCell' = true)
  (hm : 0 < m) (h63 : n + m ≤ maxLen) (hbytes : (n + m) * bytes ≤ 140737488355328) (hbase : base ≤ w.heap.size) (H : Nat) (hH : w.heap.size = H)
  (h : ∀ g cap w', w'.ownsRow base e size (.slice (some ⟨g, 0, none⟩) (n + m) cap) (n + m) (xs ++ news) → w.grownBy w' v.ownBlock → (v.ownBlock = some g ∨ g = H) → g < w'.heap.size → w.drawn ≤ w'.drawn → K (a.put o.dst (.slice (some ⟨g, 0, none⟩) (n + m) cap)) w') : o.wp P a w K Q := by
 obtain ⟨g, cap, w', hr, h2, h3, h4, h5⟩ := run_append_lies (P := P) w t o.type base e i z size bytes ht hi hz hsize hby hzs hsz v n xs hown ad m c news hl hnews h1 hm h63 hbytes hbase H hH
 have hd := run_drawnR P _ w hr
 unfold Oper.wp execOp
 simp only [ho, resolve, invoke, builtin, Sem.run_bind, Sem.run_pure, Result.andThen_ok, List.map_toArray, List.map_cons, List.map_nil, hs, hx, hr]
 exact h g cap w' h2 h3 h4 h5 hd
theorem wpList_append_liesD {P : Program} (w : World) {ops : Array Oper} {rest : List Oper} {o : Oper} {a : Act} {Q : Exit → Act → World → Prop} (hgd : o.guard = none) (s x : Operand) (t : TypeId)
  (ho : o.op = .call { callee := .builtin .append, args := #[s, x], argTypes := #[t, t] })
  (base : Nat) (e : TypeId) (i : TypeInfo) (z : Value) (size bytes : Nat) (ht : P.underlying t = some (.slice e)) (hi : P.info? e = some i) (hz : i.zero = some z)
  (hsize : i.size = size) (hby : i.bytes = bytes) (hzs : z.cells.size = size) (hsz : 0 < size)
  (v : Value) (n : Nat) (xs : List Value) (hs : a.eval s = v) (hown : w.ownsRow base e size v n xs)
  (ad : Addr) (m c : Nat) (news : List Value) (hx : a.eval x = .slice (some ad) m c) (hl : news.length = m * size) (hnews : ∀ j u, news[j]? = some u → w.cell? (ad.add j) = some u) (h1 : ∀ u ∈ news, u.oneCell' = true)
  (hm : 0 < m) (h63 : n + m ≤ maxLen) (hbytes : (n + m) * bytes ≤ 140737488355328) (hbase : base ≤ w.heap.size) (H : Nat) (hH : w.heap.size = H)
  (h : ∀ g cap w', w'.ownsRow base e size (.slice (some ⟨g, 0, none⟩) (n + m) cap) (n + m) (xs ++ news) → w.grownBy w' v.ownBlock → (v.ownBlock = some g ∨ g = H) → g < w'.heap.size → w.drawn ≤ w'.drawn → wpList P ops Q rest (a.put o.dst (.slice (some ⟨g, 0, none⟩) (n + m) cap)) w') : wpList P ops Q (o :: rest) a w :=
 wpList_plain hgd fun _ hK => wp_append_liesD w s x t ho base e i z size bytes ht hi hz hsize hby hzs hsz v n xs hs hown ad m c news hx hl hnews h1 hm h63 hbytes hbase H hH fun g cap w' h2 h3 h4 h5 h6 => hK _ _ (h g cap w' h2 h3 h4 h5 h6)

end Go.Proofs.YtkkndblcejmmjaaGreatDoor
