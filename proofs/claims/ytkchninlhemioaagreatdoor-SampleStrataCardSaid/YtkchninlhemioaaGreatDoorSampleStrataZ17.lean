/- Texts of the proof of SampleStrata, put together: Drawn. -/
import Derived.Test.YtkchninlhemioaaGreatDoorSampleStrataZ13
import Derived.Test.YtkchninlhemioaaGreatDoorSampleStrataZ15
/- sample.keyError, sample.Hash; the laws' own check that package sample works. -/
namespace Go.Proofs.YtkchninlhemioaaGreatDoor
set_option linter.unusedVariables false
set_option linter.unusedSimpArgs false
open Go.RowKit

def keyErr (l : List UInt8) : Int := if keyB l then 0 else 5
theorem keyErr_f {l : List UInt8} (h : keyB l = false) : keyErr l = 5 := by unfold keyErr; rw [h]; rfl
theorem keyErr_t {l : List UInt8} (h : keyB l = true) : keyErr l = 0 := by unfold keyErr; rw [h]; rfl

set_option maxRecDepth 100000 in
set_option maxHeartbeats 1000000 in
theorem keyError_calls (w : World) (s : ByteArray) (hs : s.size ≤ 1000000) : Calls Tryz.prog 33 #[.string s] w fun e w' => e = .returned (.int .i64 (keyErr s.data.toList)) ∧ w = w' := by
  cases hk : keyB s.data.toList
  · rw [keyErr_f hk]
    go_enter Tryz.func33, Tryz.ntmps33
    go_wp2_with fail
    refine (key_calls _ _ hs).mono ?_
    rintro e w' ⟨rfl, rfl⟩
    rw [hk]
    go_wp2_with fail
    refine (when_t _ _).mono ?_
    rintro e w' ⟨rfl, rfl⟩
    go_wp2_with fail
    go_ret
    exact ⟨rfl, rfl⟩
  · rw [keyErr_t hk]
    go_enter Tryz.func33, Tryz.ntmps33
    go_wp2_with fail
    refine (key_calls _ _ hs).mono ?_
    rintro e w' ⟨rfl, rfl⟩
    rw [hk]
    go_wp2_with fail
    refine (when_f _ _).mono ?_
    rintro e w' ⟨rfl, rfl⟩
    go_wp2_with fail
    go_ret
    exact ⟨rfl, rfl⟩

set_option maxRecDepth 100000 in
set_option maxHeartbeats 1000000 in
theorem Hash_ok (w : World) (id seed : ByteArray) (h1 : keyB id.data.toList = true) (h2 : keyB seed.data.toList = true) (hs1 : id.size ≤ 1000) (hs2 : seed.size ≤ 1000) :
    Calls Tryz.prog 46 #[.string id, .string seed] w (ErrPost w (.int .i64 ((hashN (seed.data.toList ++ 32 :: id.data.toList) : Nat) : Int)) 0) := by
  go_enter Tryz.func46, Tryz.ntmps46
  go_wp2_with fail
  refine (keyError_calls _ _ (by omega)).mono ?_
  rintro e w' ⟨rfl, rfl⟩
  go_wp2_with fail
  refine (keyError_calls _ _ (by omega)).mono ?_
  rintro e w' ⟨rfl, rfl⟩
  rw [keyErr_t h1, keyErr_t h2]
  go_wp2_with fail
  refine (firstE_calls _ _ _ [0, 0] (Blk.new _ _ _).row0 (by simp)).mono ?_
  rintro e w1 ⟨rfl, hm1⟩
  have hf : firstErr [0, 0] = 0 := rfl
  rw [hf]
  go_wp2_with fail
  refine (hash_calls _ _ _ hs1 hs2).mono ?_
  rintro e w2 ⟨rfl, hm2⟩
  go_wp2_with fail
  go_ret2
  exact ⟨rfl, (((Mod.refl _ _).alloc _).trans hm1).trans hm2⟩

theorem most_const {x : Int} (h : IsMost 4 4 3 1 2 x) : x = 3 := by
  obtain ⟨a, b, _, _⟩ := h
  omega

set_option maxRecDepth 100000 in
set_option maxHeartbeats 1000000 in
theorem drawn_calls (w : World) : Calls Tryz.prog 19 #[] w (BoolPost w true) := by
  have hok : DrawnOk 4 4 3 1 2 := by unfold DrawnOk; omega
  go_enter Tryz.func19, Tryz.ntmps19
  go_wp2_with fail
  refine (Hash_ok _ _ _ (by decide) (by decide) (by decide) (by decide)).mono ?_
  rintro e w1 ⟨rfl, hm1⟩
  obtain ⟨hh, hH⟩ : ∃ hh, hashN (({ data := #[98] } : ByteArray).data.toList ++ 32 :: ({ data := #[97] } : ByteArray).data.toList) = hh := ⟨_, rfl⟩
  rw [hH]
  have HH := Lib.hid hH
  clear hH
  have hmo := Most_ok w1 4 4 3 1 2 hok
  change Calls Tryz.prog 47 #[.agg #[.int .i64 4, .int .i64 4, .int .i64 3], .agg #[.int .i64 1, .int .i64 2]] w1 _ at hmo
  have HMO := Lib.hid hmo
  clear hmo
  go_wp2_with fail
  refine HMO.out.mono ?_
  rintro e w2 ⟨x, hx, rfl, hm2⟩
  have hx3 := most_const hx
  subst hx3
  clear hx
  go_wp2_with fail
  refine (HashOf_calls _ _ _ (by decide) (by decide)).mono ?_
  rintro e w3 ⟨rfl, hm3⟩
  rw [HH.out]
  have hbb : ((hh : Int) == (hh : Int)) = true := by simp
  go_wp2_with fail
  go_ret
  exact BoolPost.of rfl ((hm1.trans hm2).trans hm3)

end Go.Proofs.YtkchninlhemioaaGreatDoor
