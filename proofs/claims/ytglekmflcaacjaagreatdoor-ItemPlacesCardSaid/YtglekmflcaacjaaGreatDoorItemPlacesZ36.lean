/- Texts of the proof of ItemPlaces, put together: HasI. -/
import Derived.Test.YtglekmflcaacjaaGreatDoorItemPlacesZ26
import Derived.Test.YtglekmflcaacjaaGreatDoorItemPlacesZ33
/- has of the laws; AnyId of the generators. -/
namespace Go.Proofs.YtglekmflcaacjaaGreatDoor
set_option linter.unusedVariables false
set_option linter.unusedSimpArgs false
open Go.RowKit


set_option maxRecDepth 100000 in
set_option maxHeartbeats 1000000 in
theorem containsI1_calls (w : World) (v : Value) (xs : List Itm) (F : Nat) (c1 : Value) (P : Itm → Bool) (hv : Sl w 95 7 v (itV xs))
    (hcf : ∀ (x : Itm) (W : World), Sem.run Tryz.prog (callFunc F #[.agg #[.string ⟨x.id.toArray⟩, .string ⟨x.cust.toArray⟩, .int .i64 x.kind, .string ⟨x.name.toArray⟩, .int .i64 x.tm, .string ⟨x.par.toArray⟩, .string ⟨x.text.toArray⟩], c1]) W = .ok (.enter F #[.agg #[.string ⟨x.id.toArray⟩, .string ⟨x.cust.toArray⟩, .int .i64 x.kind, .string ⟨x.name.toArray⟩, .int .i64 x.tm, .string ⟨x.par.toArray⟩, .string ⟨x.text.toArray⟩], c1]) W)
    (hF : ∀ (x : Itm) (W : World), x ∈ xs → Pure w W → Calls Tryz.prog F #[.agg #[.string ⟨x.id.toArray⟩, .string ⟨x.cust.toArray⟩, .int .i64 x.kind, .string ⟨x.name.toArray⟩, .int .i64 x.tm, .string ⟨x.par.toArray⟩, .string ⟨x.text.toArray⟩], c1] W (BoolPost W (P x))) :
    Calls Tryz.prog 77 #[v, .func (.func F) #[] #[c1]] w (BoolPost w (xs.any P)) := by
  have HC := Lib.hid (indexI1_calls w v xs F c1 P hv hcf hF)
  have HI := Lib.hid (idxQ_any P xs 0 (by omega))
  clear hcf hF
  obtain ⟨A, n, c, rfl⟩ := hv.form
  clear hv
  go_enter Tryz.func77, Tryz.ntmps77
  go_wp2_with fail
  refine HC.out.mono ?_
  rintro e w1 ⟨rfl, hm1⟩
  generalize idxQ P xs 0 = r at *
  go_wp2_with fail
  go_ret
  exact BoolPost.of HI.out.symm hm1


set_option maxRecDepth 100000 in
set_option maxHeartbeats 400000 in
theorem has1_calls (w : World) (g : Nat) (s : Str) (x : Itm) (hb : w.cell? ⟨g, 0, none⟩ = some (.string ⟨s.toArray⟩)) :
    Calls Tryz.prog 78 #[.agg #[.string ⟨x.id.toArray⟩, .string ⟨x.cust.toArray⟩, .int .i64 x.kind, .string ⟨x.name.toArray⟩, .int .i64 x.tm, .string ⟨x.par.toArray⟩, .string ⟨x.text.toArray⟩], .pointer (some ⟨g, 0, none⟩)] w (BoolPost w (x.id == s)) := by
  have hb2 := cell_alloc hb (.cells (itQ x) 95)
  unfold itQ at hb2
  clear hb
  go_enter Tryz.func78, Tryz.ntmps78
  go_wp2_with fail
  go_ret
  exact BoolPost.of rfl (pure_alloc _ _)
theorem any_plc (s : Str) : ∀ l : List Itm, (l.any fun x => x.id == s) = (plc l s).isSome
  | [] => rfl
  | x :: l => by
    unfold plc
    rw [List.any_cons, any_plc s l]
    by_cases h : x.id = s
    · simp [h]
    · rw [if_neg h]
      have h2 : (x.id == s) = false := by simpa using h
      rw [h2]
      simp

set_option maxRecDepth 100000 in
set_option maxHeartbeats 400000 in
theorem has_calls (w : World) (v : Value) (xs : List Itm) (s : Str) (hv : Its w v xs) : Calls Tryz.prog 30 #[v, .string ⟨s.toArray⟩] w (BoolPost w (plc xs s).isSome) := by
  have B0 := Blk.new w 9 #[.string ⟨s.toArray⟩]
  have HIX := Lib.hid (containsI1_calls (w.alloc (.cells #[.string ⟨s.toArray⟩] 9)) v xs 78 (.pointer (some ⟨w.heap.size, 0, none⟩)) (fun x => x.id == s) (hv.pure (pure_alloc _ _)) (fun _ _ => rfl)
    (fun x W _ hm => has1_calls W w.heap.size s x (hm.keep (by simp [B0.cell 0]) id)))
  rw [any_plc] at HIX
  obtain ⟨A, n, c, rfl⟩ := Sl.form hv
  clear hv B0
  go_enter Tryz.func30, Tryz.ntmps30
  go_wp2_with fail
  refine HIX.out.mono ?_
  rintro e w1 ⟨rfl, hm⟩
  clear HIX
  generalize (plc xs s).isSome = r at *
  go_wp2_with fail
  go_ret
  exact BoolPost.of rfl ((pure_alloc _ _).trans hm)

set_option maxRecDepth 100000 in
set_option maxHeartbeats 2000000 in
theorem anyId_calls (w : World) (b N : Nat) (v : Value) (l : List Itm) (hS : Strm w b N) (hN : N ≤ 900000000) (hv : Its w v l) (hz : ∀ x ∈ l, ItB x) (hl : l.length ≤ 1000) : Calls Tryz.prog 28 #[.pointer (some ⟨b, 0, none⟩), v] w (StrB w b (N + 2) 100) := by
  have HZ := Lib.hid hz
  have HV := Lib.hid hv
  obtain ⟨A, n, c, rfl, _, _, hl2, _⟩ := hv
  have hln : l.length = n := by rw [itV_len] at hl2; omega
  subst hln
  clear hl2 hz
  have HW : Hid (∀ W M, Strm W b M → M ≤ N + 1 → Mod (· = b) w W → Calls Tryz.prog 44 #[.pointer (some ⟨b, 0, none⟩), .slice (some ⟨W.heap.size, 0, none⟩) 3 3] (W.alloc (.cells #[.string ⟨#[105, 122, 122]⟩, .string ⟨#[]⟩, .string ⟨#[65]⟩] 9)) (StrB w b (N + 2) 100)) := Lib.hid (fun W M h1 h2 h3 => by
    have := h1.lt
    refine (someb_calls _ b _ _ _ _ [[105, 122, 122], [], [65]] 3 rfl (by decide) (h1.alloc _) (by omega) (Blk.new _ _ _) (by omega) (by decide) (by decide)).mono ?_
    rintro e w2 ⟨s, hs, rfl, hS2, hM2⟩
    exact ⟨s, by omega, rfl, hS2.more (by omega), (h3.alloc _).trans hM2⟩)
  by_cases h0 : l.length = 0
  · have h0' : ((l.length : Int) == 0) = true := by simp [h0]
    have HS := Lib.hid (HW.out w N hS (by omega) (Mod.refl _ _))
    clear h0 HW hS
    go_enter Tryz.func28, Tryz.ntmps28
    go_wp2_with fail
    refine HS.out.mono ?_
    rintro e w2 ⟨s, hs, rfl, h1, h2⟩
    go_wp2_with fail
    go_ret
    exact ⟨s, hs, rfl, h1, h2⟩
  · have h0' : ((l.length : Int) == 0) = false := by rw [beq_eq_false_iff_ne]; omega
    go_enter Tryz.func28, Tryz.ntmps28
    go_wp2_with fail
    refine (flip_calls _ b _ _ hS (by omega) (by omega) (by omega)).mono ?_
    rintro e w1 ⟨fl, rfl, hS1, hM1⟩
    cases fl
    · have HV1 := Lib.hid (HV.out.strm hS hM1 (by decide))
      clear HW hS
      go_wp2_with fail
      refine (next_calls _ b _ _ hS1 (by omega) (by omega) (by omega)).mono ?_
      rintro e w2 ⟨k, hk0, hk1, rfl, hS2, hM2⟩
      obtain ⟨k, rfl⟩ := Int.eq_ofNat_of_zero_le hk0
      have hkl : k < l.length := by omega
      have hv2 := HV1.out.strm hS1 hM2 (by decide)
      obtain ⟨A', n', c', he, _, _, hl2, hr⟩ := hv2
      injection he with he1 he2 he3
      subst he1 he2 he3
      obtain ⟨g, off, rfl, hrow⟩ := hr (by omega)
      have q1 := (item_cells hrow hkl).1
      have hid := (HZ.out _ (List.getElem_mem hkl)).1
      have HM := Lib.hid (hM1.trans hM2)
      clear hl2 hr hrow hM1 hM2 hS1
      generalize l[k].id = s at *
      go_wp2_with fail
      go_ret
      exact ⟨s, hid, rfl, hS2, HM.out⟩
    · have HS := Lib.hid (HW.out w1 _ hS1 (by omega) hM1)
      clear HW hS hS1 hM1
      go_wp2_with fail
      refine HS.out.mono ?_
      rintro e w2 ⟨s, hs, rfl, h1, h2⟩
      go_wp2_with fail
      go_ret
      exact ⟨s, hs, rfl, h1, h2⟩

end Go.Proofs.YtglekmflcaacjaaGreatDoor
