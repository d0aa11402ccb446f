/- Texts of the proof of DecisionTexts, put together: DecF, GenE, LawR. -/
import Derived.Test.YtaidkmnbjbnciaaGreatDoorDecisionTextsZ10
import Derived.Test.YtaidkmnbjbnciaaGreatDoorDecisionTextsZ26
import Derived.Test.YtaidkmnbjbnciaaGreatDoorDecisionTextsZ28
import Derived.Test.YtaidkmnbjbnciaaGreatDoorDecisionTextsZ32
import Derived.Shelf.SlicesE.Clone
/- Decide of the program, DecideOf of the reference; clones of decisions. -/
namespace Go.Proofs.YtaidkmnbjbnciaaGreatDoor
set_option linter.unusedVariables false
set_option linter.unusedSimpArgs false
open Go.RowKit Go.Sort Go.Shelf

/-- A slice that is like some decisions. -/
def DecsL (w : World) (v : Value) (ds' DD : List DecR) : Prop := Decs w v ds' ∧ likesD ds' DD
theorem DecsL.pure {w w' : World} {v : Value} {ds' DD : List DecR} (h : DecsL w v ds' DD) (hm : Pure w w') : DecsL w' v ds' DD := ⟨h.1.pure hm, h.2⟩
theorem DcOk.base {w : World} {b1 b2 c : Nat} {A : Option Addr} {ds' ds : List DecR} (h : DcOk w b1 A c ds' ds) (hb : b2 ≤ b1) : DcOk w b2 A c ds' ds := ⟨own_baseK h.1 hb, h.2⟩
theorem likesD.app {xs ys zs us : List DecR} (h : likesD xs ys) (k : likesD zs us) : likesD (xs ++ zs) (ys ++ us) := by
 unfold likesD at h k ⊢
 rw [List.map_append, List.map_append, h, k]
/-- Own decisions, with others behind them. -/
theorem DcOk.app {w w' : World} {base c c5 n' : Nat} {A A5 : Option Addr} {ds' ds es' es : List DecR} (h : DcOk w base A c ds' ds) (k : DecS w es') (hk : likesD es' es) (hm : Mod (fun j => (Value.slice A ds'.length c).ownBlock = some j) w w')
  (hn : n' = ds'.length + es'.length) (hown : w'.ownsRow base 53 6 (.slice A5 n' c5) n' (decV ds' ++ decV es')) : DcOk w' base A5 c5 (ds' ++ es') (ds ++ es) := by
 have hty1 : ∀ i arr fr, w.heap[i]? = some (.cells arr 134 fr) → ¬ (Value.slice A ds'.length c).ownBlock = some i := fun i arr fr hi hv => absurd (own_ty h.1 hv hi) (by decide)
 have hty2 : ∀ i arr fr, w.heap[i]? = some (.cells arr 9 fr) → ¬ (Value.slice A ds'.length c).ownBlock = some i := fun i arr fr hi hv => absurd (own_ty h.1 hv hi) (by decide)
 subst hn
 exact ⟨by simpa [decV] using hown, DecS.app (h.2.1.mod hm hty1 hty2) (k.mod hm hty1 hty2), h.2.2.app hk⟩

/-- A row of one's own of decisions. -/
def OwD (w : World) (base : Nat) (v : Value) (ds : List DecR) : Prop := w.ownsRow base 53 6 v ds.length (decV ds)
theorem OwD.pure {w w' : World} {base : Nat} {v : Value} {ds : List DecR} (h : OwD w base v ds) (hm : Pure w w') : OwD w' base v ds := own_pure h hm
theorem OwD.app {w w' : World} {base n' c5 : Nat} {v : Value} {A5 : Option Addr} {ds : List DecR} {x : DecR} (h : OwD w base v ds) (h1 : DecS w ds) (h2 : DecS w [x]) (hm : Mod (fun j => v.ownBlock = some j) w w') (hn : n' = ds.length + 1)
  (hown : w'.ownsRow base 53 6 (.slice A5 n' c5) n' (decV ds ++ decC x)) : Decs w' (.slice A5 n' c5) (ds ++ [x]) := by
 have hty1 : ∀ i arr fr, w.heap[i]? = some (.cells arr 134 fr) → ¬ v.ownBlock = some i := fun i arr fr hi hv => absurd (own_ty h hv hi) (by decide)
 have hty2 : ∀ i arr fr, w.heap[i]? = some (.cells arr 9 fr) → ¬ v.ownBlock = some i := fun i arr fr hi hv => absurd (own_ty h hv hi) (by decide)
 exact ⟨by rw [decV_snoc]; exact Sl.of_own hown, DecS.app (h1.mod hm hty1 hty2) (h2.mod hm hty1 hty2)⟩

end Go.Proofs.YtaidkmnbjbnciaaGreatDoor

/- The generator of decisions. -/
namespace Go.Proofs.YtaidkmnbjbnciaaGreatDoor
set_option linter.unusedVariables false
set_option linter.unusedSimpArgs false
open Go.RowKit

/-- A slice with something in it does not lie in block b. -/
def NbS (b : Nat) (v : Value) : Prop := ∀ g off n c, v = .slice (some ⟨g, off, none⟩) n c → 0 < n → g ≠ b
theorem Sl.nb {w : World} {e : TypeId} {size b N : Nat} {v : Value} {xs : List Value} (h : Sl w e size v xs) (hS : Strm w b N) (he : e ≠ 25) : NbS b v := by
 obtain ⟨A, n, c, rfl, _, _, _, h4⟩ := h
 rintro g off n' c' hv hn
 injection hv with h1 h2 h3
 subst h2
 obtain ⟨g2, o2, h5, hr⟩ := h4 hn
 rw [h1] at h5
 injection h5 with h5
 injection h5 with h6
 subst h6
 obtain ⟨_, _, _, _, hBs, _⟩ := hS
 exact hr.ne hBs he
theorem Sl.modNb {w w' : World} {e : TypeId} {size b : Nat} {v : Value} {xs : List Value} (h : Sl w e size v xs) (hn : NbS b v) (hm : Mod (· = b) w w') : Sl w' e size v xs := by
 obtain ⟨A, n, c, rfl, h1, h2, h3, h4⟩ := h
 refine ⟨A, n, c, rfl, h1, h2, h3, fun h0 => ?_⟩
 obtain ⟨g, off, rfl, hr⟩ := h4 h0
 exact ⟨g, off, rfl, hr.mod hm (hn g off n c rfl h0)⟩
/-- Values that do not lie in block b. -/
def VlsB (w : World) (b : Nat) (v : Value) (cs : List ChoR) : Prop := Vals w v cs ∧ NbS b v ∧ ∀ x ∈ cs, NbS b (.slice x.A x.ch.length x.c)
section
variable {w w' : World} {b N g q : Nat} {v u : Value} {cs : List ChoR} {cells : Array Value}
theorem VlsB.of (h : Vals w v cs) (hS : Strm w b N) : VlsB w b v cs := ⟨h, h.1.nb hS (by decide), fun x hx => (h.2 x hx).nb hS (by decide)⟩
theorem VlsB.ask (h : VlsB w b v cs) (hm : Mod (· = b) w w') : VlsB w' b v cs := ⟨⟨h.1.1.modNb h.2.1 hm, fun x hx => (h.1.2 x hx).modNb (h.2.2 x hx) hm⟩, h.2⟩
theorem VlsB.pure (h : VlsB w b v cs) (hm : Pure w w') : VlsB w' b v cs := ⟨h.1.pure hm, h.2⟩
theorem VlsB.set (h : VlsB w b v cs) (hB : Blk w g 53 cells) (q : Nat) (u : Value) : VlsB (w.setCell ⟨g, q, none⟩ u) b v cs := by
 have hms : Mod (· = g) w (w.setCell ⟨g, q, none⟩ u) := Mod.setCell (S := (· = g)) (p := ⟨g, q, none⟩) (Mod.refl _ _) (.inl rfl) _
 exact ⟨h.1.mod hms (fun i arr fr hi => blk_ty hB hi (by decide)) (fun i arr fr hi => blk_ty hB hi (by decide)), h.2⟩
end
/-- The decisions under way. -/
def DcG (w : World) (base : Nat) (A : Option Addr) (c : Nat) (ds : List DecR) : Prop := w.ownsRow base 53 6 (.slice A ds.length c) ds.length (decV ds) ∧ DecS w ds
theorem DcG.ask {w w' : World} {base b N c : Nat} {A : Option Addr} {ds : List DecR} (h : DcG w base A c ds) (hS : Strm w b N) (hm : Mod (· = b) w w') (hb : b < base) : DcG w' base A c ds :=
 ⟨own_mod h.1 hm (fun i hi => by have := own_block h.1 i hi; omega), fun x hx => (h.2 x hx).strm hS hm⟩
theorem DcG.pure {w w' : World} {base c : Nat} {A : Option Addr} {ds : List DecR} (h : DcG w base A c ds) (hm : Pure w w') : DcG w' base A c ds := ⟨own_pure h.1 hm, h.2.pure hm⟩
theorem DcG.app {w w' : World} {base n' c c5 : Nat} {A A5 : Option Addr} {ds : List DecR} {x : DecR} (h : DcG w base A c ds) (h2 : Vals w (.slice x.A x.vals.length x.c) x.vals) (hm : Mod (fun j => (Value.slice A ds.length c).ownBlock = some j) w w') (hn : n' = ds.length + 1)
  (hown : w'.ownsRow base 53 6 (.slice A5 n' c5) n' (decV ds ++ decC x)) : DcG w' base A5 c5 (ds ++ [x]) := by
 have hty1 : ∀ i arr fr, w.heap[i]? = some (.cells arr 134 fr) → ¬ (Value.slice A ds.length c).ownBlock = some i := fun i arr fr hi hv => absurd (own_ty h.1 hv hi) (by decide)
 have hty2 : ∀ i arr fr, w.heap[i]? = some (.cells arr 9 fr) → ¬ (Value.slice A ds.length c).ownBlock = some i := fun i arr fr hi hv => absurd (own_ty h.1 hv hi) (by decide)
 subst hn
 exact ⟨by simpa [decV_snoc] using hown, DecS.snoc (h.2.mod hm hty1 hty2) (h2.mod hm hty1 hty2)⟩
/-- As the generator makes them. -/
def DecM (M K : Nat) (x : DecR) : Prop := -1099511627776 ≤ x.no ∧ x.no ≤ 1099511627776 ∧ -1099511627776 ≤ x.at_ ∧ x.at_ ≤ 1099511627776 ∧ x.rev.length ≤ 4 ∧ x.item.length ≤ 4 ∧ x.vals.length ≤ 4 ∧ ∀ c ∈ x.vals, ChoM M K c
theorem DecM.b {M K : Nat} {x : DecR} (h : DecM M K x) (h1 : M ≤ 1000) (h2 : K ≤ 100) : DecB x := by
 obtain ⟨a1, a2, a3, a4, a5, a6, a7, a8⟩ := h
 exact ⟨a1, a2, a3, a4, by unfold StB; omega, by unfold StB; omega, by omega, fun c hc => (a8 c hc).b h1 h2⟩
def DgPostM (M K : Nat) (w : World) (b N many : Nat) (e : Ending) (w' : World) : Prop :=
 ∃ (base c : Nat) (A : Option Addr) (ds : List DecR), e = .returned (.slice A ds.length c) ∧ b < base ∧ w.heap.size ≤ base ∧ DcG w' base A c ds ∧ ds.length ≤ many ∧ (∀ x ∈ ds, DecM M K x) ∧ Strm w' b (N + 500 * many) ∧ Mod (· = b) w w'
def DgRel (M K : Nat) (w : World) (b N base g1 many : Nat) (lay : Array Value) (gk : Nat) (x i : Value) (wr : World) : Prop :=
 ∃ (k cap : Nat) (Ao : Option Addr) (ds : List DecR), many - k = gk ∧ k ≤ many ∧ x = .slice Ao ds.length cap ∧ i = .int .i64 (k : Int) ∧ ds.length ≤ k ∧ (∀ y ∈ ds, DecM M K y) ∧ DcG wr base Ao cap ds ∧ Blk wr g1 29 lay ∧ Strm wr b (N + 500 * k) ∧ Mod (· = b) w wr ∧ base ≤ wr.heap.size
/-- A decision in its box. -/
def DgBox (w : World) (b g8 : Nat) (x : DecR) : Prop := Blk w g8 53 (decC x).toArray ∧ VlsB w b (.slice x.A x.vals.length x.c) x.vals
section
variable {w w' : World} {b g8 : Nat} {x : DecR}
theorem DgBox.ask (h : DgBox w b g8 x) (hm : Mod (· = b) w w') (hg : g8 ≠ b) : DgBox w' b g8 x := ⟨h.1.mod hm hg, h.2.ask hm⟩
theorem DgBox.pure (h : DgBox w b g8 x) (hm : Pure w w') : DgBox w' b g8 x := ⟨h.1.modp hm, h.2.pure hm⟩
theorem DgBox.set0 (h : DgBox w b g8 x) (k : Int) : DgBox (w.setCell ⟨g8, 0, none⟩ (.int .i64 k)) b g8 { x with no := k } := ⟨by simpa [decC] using h.1.set 0 (.int .i64 k), h.2.set h.1 0 _⟩
theorem DgBox.set1 (h : DgBox w b g8 x) (k : Int) : DgBox (w.setCell ⟨g8, 1, none⟩ (.int .i64 k)) b g8 { x with at_ := k } := ⟨by simpa [decC] using h.1.set 1 (.int .i64 k), h.2.set h.1 1 _⟩
theorem DgBox.set2 (h : DgBox w b g8 x) (s : Str) : DgBox (w.setCell ⟨g8, 2, none⟩ (.string ⟨s.toArray⟩)) b g8 { x with rev := s } := ⟨by simpa [decC] using h.1.set 2 (.string ⟨s.toArray⟩), h.2.set h.1 2 _⟩
theorem DgBox.set3 (h : DgBox w b g8 x) (s : Str) : DgBox (w.setCell ⟨g8, 3, none⟩ (.string ⟨s.toArray⟩)) b g8 { x with item := s } := ⟨by simpa [decC] using h.1.set 3 (.string ⟨s.toArray⟩), h.2.set h.1 3 _⟩
/-- Any such box is there, its cells are known. -/
theorem DgBox.cells (h : DgBox w b g8 x) : (w.cell? ⟨g8, 0, none⟩ = some (.int .i64 x.no) ∧ w.cell? ⟨g8, 1, none⟩ = some (.int .i64 x.at_) ∧ w.cell? ⟨g8, 2, none⟩ = some (.string ⟨x.rev.toArray⟩) ∧ w.cell? ⟨g8, 3, none⟩ = some (.string ⟨x.item.toArray⟩) ∧ w.cell? ⟨g8, 4, none⟩ = some (.bool x.sec) ∧ w.cell? ⟨g8, 5, none⟩ = some (.slice x.A x.vals.length x.c)) ∧ ∀ q, w.frozen? ⟨g8, q, none⟩ = false :=
 ⟨⟨h.1.cell 0, h.1.cell 1, h.1.cell 2, h.1.cell 3, h.1.cell 4, h.1.cell 5⟩, fun q => h.1.frozen q⟩
end

set_option maxRecDepth 100000 in
set_option maxHeartbeats 16000000 in
theorem decisionsM_calls (MM KK : Nat) (hM4 : 4 ≤ MM) (hK3 : 3 ≤ KK) (hK100 : KK ≤ 100) (hM1000 : MM ≤ 1000) (w : World) (b N : Nat) (vl : Value) (L : LayR) (many : Nat) (hS : Strm w b N) (hN : N ≤ 100000000) (hmy : many ≤ 20) (hL : LayV w L vl) (hla : L.asks.length ≤ 3) (hLB : LayB L) (hab : ∀ a ∈ L.asks, AskM MM KK a) : Calls Tryz.prog 17 #[.pointer (some ⟨b, 0, none⟩), vl, .int .i64 (many : Int)] w (DgPostM MM KK w b N many) := by
 have hbl := hS.lt
 have HLS : Hid (∀ W, Mod (· = b) w W → LayV W L vl) := Lib.hid (fun W h => hL.strm hS h)
 have HLB := Lib.hid hLB
 have HAM := Lib.hid hab
 obtain ⟨A, n, c, A2, n2, c2, rfl, hA, hR⟩ := hL
 have HB0 := Lib.hid (Blk.new w 29 #[.slice A n c, .slice A2 n2 c2])
 have HS0 := Lib.hid (hS.alloc (.cells #[.slice A n c, .slice A2 n2 c2] 29))
 have HM0 : Hid (Mod (· = b) w (w.alloc (.cells #[.slice A n c, .slice A2 n2 c2] 29))) := Lib.hid ((Mod.refl _ _).alloc _)
 clear hA hR hS hLB hab
 go_enter Tryz.func17, Tryz.ntmps17
 go_upto_region 1 with (fail)
 have hz1 : (w.alloc (.cells #[.slice A n c, .slice A2 n2 c2] 29)).heap.size = w.heap.size + 1 := by simp
 generalize (w.alloc (.cells #[.slice A n c, .slice A2 n2 c2] 29)) = w1 at *
 generalize hg1 : w.heap.size = g1 at *
 have hwg1 := Nat.le_of_eq hg1
 have hwg2 := Nat.le_of_eq hg1.symm
 clear hg1
 obtain ⟨base, hbase⟩ : ∃ base, base = w1.heap.size := ⟨_, rfl⟩
 have hs1 := Nat.le_of_eq hbase
 have hs2 := Nat.le_of_eq hbase.symm
 have hbb : b < base := by omega
 have hwb0 : w.heap.size ≤ base := by omega
 clear hbase hz1
 go_wp2_with fail
 go_loopg [7, 10] many (fun gk x i wr => DgRel MM KK w b N base g1 many #[.slice A n c, .slice A2 n2 c2] gk x i wr)
 case atStart => exact ⟨0, 0, none, [], by omega, by omega, rfl, rfl, by simp, fun y h => absurd h (by simp), ⟨World.ownsRow_nil _ _ _ _, fun x h => absurd h (by simp)⟩, HB0.out, HS0.out, HM0.out, by omega⟩
 case round =>
  clear HB0 HS0 HM0
  obtain ⟨k, cap, Ao, ds, rfl, hk, rfl, rfl, hdk, hdz, hO, hB, hS, hm, hbw⟩ := hrel
  have HO := Lib.hid hO
  have HB := Lib.hid hB
  have HM := Lib.hid hm
  have HDZ := Lib.hid hdz
  have HLT : Hid (∀ i, (Value.slice Ao ds.length cap).ownBlock = some i → i < wr.heap.size) := Lib.hid (fun i hi => (hO.1.lt i hi).2)
  by_cases hlt : k < many
  ·have hg1w := hB.lt
   clear hO hB hdz
   have hblw := hS.lt
   have hSx0 := hS
   clear hm
   go_upto_region 4 with (fail)
   have hwr : IntKind.i64.wrap ((ds.length : Int) + 1) = (ds.length : Int) + 1 := by simp [IntKind.wrap, IntKind.bits, IntKind.signed]; omega
   have HGs := Lib.hid (show ∀ (D : Nat → Bool) (zzi : Nat) (zq zq' : World), (fun _ zq => (fun Z => Blk Z g1 29 #[.slice A n c, .slice A2 n2 c2]) zq) D zq → Mod (· = b) zq zq' → (fun _ zq => (fun Z => Blk Z g1 29 #[.slice A n c, .slice A2 n2 c2]) zq) (upd D zzi true) zq' from by intro D zzi zq zq' h hm; (exact h.modb hm (by omega)))
   refine wp_region_inv (by kernel_rfl) (by kernel_rfl) (InvF (R := Mod (· = b)) [.is (.slice Ao ds.length cap),
     .is (.int .i64 (ds.length : Int)),
     .is (.int .i64 ((ds.length : Int) + 1)),
     .is (.pointer (some ⟨b, 0, none⟩)),
     ⟨fun zv zw => ∃ (g_4 : Nat), zv = .slice (some ⟨g_4, 0, none⟩) 6 6 ∧ wr.heap.size ≤ g_4 ∧ Blk zw g_4 3 #[(.int .i64 5), (.int .i64 5), (.int .i64 10), (.int .i64 10), (.int .i64 20), (.int .i64 100)], (by rintro zv zw zx ⟨g_4, rfl, c0, q0⟩ hm; exact ⟨g_4, rfl, c0, (q0.modb hm (by omega))⟩), none, some 5⟩,
     .val (fun zv => ∃ (k_5 : Int), zv = .int .i64 k_5 ∧ 5 ≤ k_5 ∧ k_5 ≤ 100),
     .is (.pointer (some ⟨b, 0, none⟩)),
     ⟨fun zv zw => ∃ (g_7 : Nat), zv = .slice (some ⟨g_7, 0, none⟩) 3 3 ∧ wr.heap.size ≤ g_7 ∧ Blk zw g_7 9 #[(.string { data := #[97, 110, 110] }), (.string { data := #[98, 111, 98] }), (.string { data := #[99, 105, 100] })], (by rintro zv zw zx ⟨g_7, rfl, c0, q0⟩ hm; exact ⟨g_7, rfl, c0, (q0.modb hm (by omega))⟩), none, some 8⟩,
     .val (fun zv => ∃ (s_8 : Str), zv = .string ⟨s_8.toArray⟩ ∧ s_8.length ≤ 4),
     .is (.pointer (some ⟨b, 0, none⟩)),
     .val (fun zv => ∃ (k_10 : Int), zv = .int .i64 k_10 ∧ 0 ≤ k_10 ∧ k_10 < 4),
     .val (fun zv => ∃ (s_11 : Str), zv = .string ⟨s_11.toArray⟩ ∧ s_11.length ≤ 4),
     .is (.pointer (some ⟨b, 0, none⟩)),
     .val (fun zv => ∃ (k_13 : Bool), zv = .bool k_13),
     .is (.pointer (some ⟨b, 0, none⟩)),
     .is (.agg #[.slice A n c, .slice A2 n2 c2]),
     ⟨fun zv zw => ∃ (A_16 : Option Addr) (c_16 : Nat) (cs_16 : List ChoR), zv = .slice A_16 cs_16.length c_16 ∧ cs_16.length ≤ 4 ∧ (∀ x ∈ cs_16, ChoM MM KK x) ∧ VlsB zw b (.slice A_16 cs_16.length c_16) cs_16, (by rintro zv zw zx ⟨A_16, c_16, cs_16, rfl, c0, c1, q0⟩ hm; exact ⟨A_16, c_16, cs_16, rfl, c0, c1, (q0.ask hm)⟩), none, some 17⟩,
     ⟨fun zv zw => ∃ (k_17 : Int) (s_17 : Str) (sa_17 : Str) (ka_17 : Bool) (A_17 : Option Addr) (c_17 : Nat) (cs_17 : List ChoR), zv = .agg #[.int .i64 ((ds.length : Int) + 1), .int .i64 k_17, .string ⟨s_17.toArray⟩, .string ⟨sa_17.toArray⟩, .bool ka_17, .slice A_17 cs_17.length c_17] ∧ 5 ≤ k_17 ∧ k_17 ≤ 100 ∧ s_17.length ≤ 4 ∧ sa_17.length ≤ 4 ∧ cs_17.length ≤ 4 ∧ (∀ x ∈ cs_17, ChoM MM KK x) ∧ VlsB zw b (.slice A_17 cs_17.length c_17) cs_17, (by rintro zv zw zx ⟨k_17, s_17, sa_17, ka_17, A_17, c_17, cs_17, rfl, c0, c1, c2, c3, c4, c5, q0⟩ hm; exact ⟨k_17, s_17, sa_17, ka_17, A_17, c_17, cs_17, rfl, c0, c1, c2, c3, c4, c5, (q0.ask hm)⟩), none, some 19⟩,
     ⟨fun zv zw => ∃ (g_18 : Nat), zv = .pointer (some ⟨g_18, 0, none⟩) ∧ wr.heap.size ≤ g_18 ∧ Blk zw g_18 53 #[.int .i64 0, .int .i64 0, .string ⟨#[]⟩, .string ⟨#[]⟩, .bool false, .slice none 0 0], (by rintro zv zw zx ⟨g_18, rfl, c0, q0⟩ hm; exact ⟨g_18, rfl, c0, (q0.modb hm (by omega))⟩), none, some 19⟩,
     ⟨fun zv zw => ∃ (g_19 : Nat) (k_19 : Int) (s_19 : Str) (sa_19 : Str) (ka_19 : Bool) (A_19 : Option Addr) (c_19 : Nat) (cs_19 : List ChoR), zv = .pointer (some ⟨g_19, 0, none⟩) ∧ wr.heap.size ≤ g_19 ∧ 5 ≤ k_19 ∧ k_19 ≤ 100 ∧ s_19.length ≤ 4 ∧ sa_19.length ≤ 4 ∧ cs_19.length ≤ 4 ∧ (∀ x ∈ cs_19, ChoM MM KK x) ∧ Blk zw g_19 53 #[.int .i64 ((ds.length : Int) + 1), .int .i64 k_19, .string ⟨s_19.toArray⟩, .string ⟨sa_19.toArray⟩, .bool ka_19, .slice A_19 cs_19.length c_19] ∧ VlsB zw b (.slice A_19 cs_19.length c_19) cs_19, (by rintro zv zw zx ⟨g_19, k_19, s_19, sa_19, ka_19, A_19, c_19, cs_19, rfl, c0, c1, c2, c3, c4, c5, c6, q0, q1⟩ hm; exact ⟨g_19, k_19, s_19, sa_19, ka_19, A_19, c_19, cs_19, rfl, c0, c1, c2, c3, c4, c5, c6, (q0.modb hm (by omega)), (q1.ask hm)⟩), some 18, none⟩]
     (GB wr (· = b) wr.heap.size b ((N + 500 * k)) (fun D => (D 5).toNat + (D 8).toNat + (D 10).toNat + (D 13).toNat + 400 * (D 16).toNat) (fun _ zq => (fun Z => Blk Z g1 29 #[.slice A n c, .slice A2 n2 c2]) zq))) (InvF.start (GB.start hS (Mod.refl _ _) (Nat.le_refl _) (HB.out.drew))) ?_ ?_
   ·refine .cons ?_ (.cons ?_ (.cons ?_ (.cons ?_ (.cons ?_ (.cons ?_ (.cons ?_ (.cons ?_ (.cons ?_ (.cons ?_ (.cons ?_ (.cons ?_ (.cons ?_ (.cons ?_ (.cons ?_ (.cons ?_ (.cons ?_ (.cons ?_ (.cons ?_ (.cons ?_ .nil)))))))))))))))))))
    ·intro D V zw1 a hR hI K hK
     obtain ⟨hS1, hM1, hB1, hG1⟩ := hI.1
     have ze7 := hR.frame.other (t := 7) (by kernel_rfl) rfl
     rw [if_pos (by rfl)]
     go_simp
     exact hK (.slice Ao ds.length cap) _ (hI.next hR (by kernel_rfl) (Mod.refl _ _) (GB.quiet hI.1 (Mod.refl _ _) (by have hn := hR.not; simp [upd, hn] <;> omega) (HGs.out D 0 zw1 zw1 (hI.1).g (Mod.refl _ _))) (upd_same V 0 _))
    ·intro D V zw1 a hR hI K hK
     obtain ⟨hS1, hM1, hB1, hG1⟩ := hI.1
     have zd0 := hR.pred 0 (by kernel_rfl)
     have zF0 : V 0 = .slice Ao ds.length cap := hI.2 0 zd0 rfl
     have zf0 := zF0; clear zF0
     have ze12 := hR.frame.done (t := 12) (j := 0) (by kernel_rfl) hR.ok zd0
     rw [if_pos (by rfl)]
     go_simp
     exact hK (.int .i64 (ds.length : Int)) _ (hI.next hR (by kernel_rfl) (Mod.refl _ _) (GB.quiet hI.1 (Mod.refl _ _) (by have hn := hR.not; simp [upd, hn] <;> omega) (HGs.out D 1 zw1 zw1 (hI.1).g (Mod.refl _ _))) (upd_same V 1 _))
    ·intro D V zw1 a hR hI K hK
     obtain ⟨hS1, hM1, hB1, hG1⟩ := hI.1
     have zd1 := hR.pred 1 (by kernel_rfl)
     have zF1 : V 1 = .int .i64 (ds.length : Int) := hI.2 1 zd1 rfl
     have zf1 := zF1; clear zF1
     have ze13 := hR.frame.done (t := 13) (j := 1) (by kernel_rfl) hR.ok zd1
     rw [if_pos (by rfl)]
     go_simp
     exact hK (.int .i64 ((ds.length : Int) + 1)) _ (hI.next hR (by kernel_rfl) (Mod.refl _ _) (GB.quiet hI.1 (Mod.refl _ _) (by have hn := hR.not; simp [upd, hn] <;> omega) (HGs.out D 2 zw1 zw1 (hI.1).g (Mod.refl _ _))) (upd_same V 2 _))
    ·intro D V zw1 a hR hI K hK
     obtain ⟨hS1, hM1, hB1, hG1⟩ := hI.1
     have ze0 := hR.frame.other (t := 0) (by kernel_rfl) rfl
     rw [if_pos (by rfl)]
     go_simp
     exact hK (.pointer (some ⟨b, 0, none⟩)) _ (hI.next hR (by kernel_rfl) (Mod.refl _ _) (GB.quiet hI.1 (Mod.refl _ _) (by have hn := hR.not; simp [upd, hn] <;> omega) (HGs.out D 3 zw1 zw1 (hI.1).g (Mod.refl _ _))) (upd_same V 3 _))
    ·intro D V zw1 a hR hI K hK
     obtain ⟨hS1, hM1, hB1, hG1⟩ := hI.1
     rw [if_pos (by rfl)]
     go_simp
     exact hK (_) _ (hI.next hR (by kernel_rfl) ((Mod.refl _ _).alloc _) (GB.quiet hI.1 (pure_alloc _ _) (by have hn := hR.not; simp [upd, hn] <;> omega) (HGs.out D 4 _ _ (hI.1).g ((Mod.refl _ _).alloc _))) (⟨_, upd_same V 4 _, (by omega), (Blk.new _ _ _)⟩))
    ·intro D V zw1 a hR hI K hK
     obtain ⟨hS1, hM1, hB1, hG1⟩ := hI.1
     have zd3 := hR.pred 3 (by kernel_rfl)
     have zF3 : V 3 = .pointer (some ⟨b, 0, none⟩) := hI.2 3 zd3 rfl
     have zf3 := zF3; clear zF3
     have zd4 := hR.pred 4 (by kernel_rfl)
     have zF4 : ∃ (g_4 : Nat), V 4 = .slice (some ⟨g_4, 0, none⟩) 6 6 ∧ wr.heap.size ≤ g_4 ∧ Blk zw1 g_4 3 #[(.int .i64 5), (.int .i64 5), (.int .i64 10), (.int .i64 10), (.int .i64 20), (.int .i64 100)] := hI.2 4 zd4 (by show (!D 5) = true; rw [hR.not]; rfl)
     obtain ⟨g_4, zf4, c4_0, b4_0⟩ := zF4
     have ze15 := hR.frame.done (t := 15) (j := 3) (by kernel_rfl) hR.ok zd3
     have ze16 := hR.frame.done (t := 16) (j := 4) (by kernel_rfl) hR.ok zd4
     rw [if_pos (by rfl)]
     have := Bool.toNat_le (D 5)
     have := Bool.toNat_le (D 8)
     have := Bool.toNat_le (D 10)
     have := Bool.toNat_le (D 13)
     have := Bool.toNat_le (D 16)
     have hNB : (N + 500 * k) + ((D 5).toNat + (D 8).toNat + (D 10).toNat + (D 13).toNat + 400 * (D 16).toNat) ≤ 1000000000 := by omega
     skip
     go_simp
     refine (pickv_calls _ _ _ _ 6 6 #[(.int .i64 5), (.int .i64 5), (.int .i64 10), (.int .i64 10), (.int .i64 20), (.int .i64 100)] hS1 b4_0 hNB (by omega) rfl (by omega) (by omega) rfl).mono ?_
     rintro e zw2 ⟨k_0, hk, rfl, hS2, hm2⟩
     have hk2 : 5 ≤ k_0 ∧ k_0 ≤ 100 := by simp [intsOf, Go.RowKit.intOf] at hk; omega
     exact hK (.int .i64 k_0) _ (hI.next hR (by kernel_rfl) hm2 (GB.asks hI.1 (fun _ h _ => h) hS2 hm2 (by have hn := hR.not; simp [upd, hn] <;> omega) (HGs.out D 5 _ _ (hI.1).g hm2)) (⟨k_0, upd_same V 5 _, hk2.1, hk2.2⟩))
    ·intro D V zw1 a hR hI K hK
     obtain ⟨hS1, hM1, hB1, hG1⟩ := hI.1
     have ze0 := hR.frame.other (t := 0) (by kernel_rfl) rfl
     rw [if_pos (by rfl)]
     go_simp
     exact hK (.pointer (some ⟨b, 0, none⟩)) _ (hI.next hR (by kernel_rfl) (Mod.refl _ _) (GB.quiet hI.1 (Mod.refl _ _) (by have hn := hR.not; simp [upd, hn] <;> omega) (HGs.out D 6 zw1 zw1 (hI.1).g (Mod.refl _ _))) (upd_same V 6 _))
    ·intro D V zw1 a hR hI K hK
     obtain ⟨hS1, hM1, hB1, hG1⟩ := hI.1
     rw [if_pos (by rfl)]
     go_simp
     exact hK (_) _ (hI.next hR (by kernel_rfl) ((Mod.refl _ _).alloc _) (GB.quiet hI.1 (pure_alloc _ _) (by have hn := hR.not; simp [upd, hn] <;> omega) (HGs.out D 7 _ _ (hI.1).g ((Mod.refl _ _).alloc _))) (⟨_, upd_same V 7 _, (by omega), (Blk.new _ _ _)⟩))
    ·intro D V zw1 a hR hI K hK
     obtain ⟨hS1, hM1, hB1, hG1⟩ := hI.1
     have zd6 := hR.pred 6 (by kernel_rfl)
     have zF6 : V 6 = .pointer (some ⟨b, 0, none⟩) := hI.2 6 zd6 rfl
     have zf6 := zF6; clear zF6
     have zd7 := hR.pred 7 (by kernel_rfl)
     have zF7 : ∃ (g_7 : Nat), V 7 = .slice (some ⟨g_7, 0, none⟩) 3 3 ∧ wr.heap.size ≤ g_7 ∧ Blk zw1 g_7 9 #[(.string { data := #[97, 110, 110] }), (.string { data := #[98, 111, 98] }), (.string { data := #[99, 105, 100] })] := hI.2 7 zd7 (by show (!D 8) = true; rw [hR.not]; rfl)
     obtain ⟨g_7, zf7, c7_0, b7_0⟩ := zF7
     have ze18 := hR.frame.done (t := 18) (j := 6) (by kernel_rfl) hR.ok zd6
     have ze19 := hR.frame.done (t := 19) (j := 7) (by kernel_rfl) hR.ok zd7
     rw [if_pos (by rfl)]
     have := Bool.toNat_le (D 5)
     have := Bool.toNat_le (D 8)
     have := Bool.toNat_le (D 10)
     have := Bool.toNat_le (D 13)
     have := Bool.toNat_le (D 16)
     have hNB : (N + 500 * k) + ((D 5).toNat + (D 8).toNat + (D 10).toNat + (D 13).toNat + 400 * (D 16).toNat) ≤ 1000000000 := by omega
     skip
     go_simp
     refine (somec_calls _ b _ _ _ _ [[97, 110, 110], [98, 111, 98], [99, 105, 100]] 4 rfl (by decide) hS1 hNB b7_0 (by omega) (by decide) (by decide)).mono ?_
     rintro e zw2 ⟨s_0, hs, rfl, hS2, hm2⟩
     exact hK (.string ⟨s_0.toArray⟩) _ (hI.next hR (by kernel_rfl) hm2 (GB.asks hI.1 (fun _ h _ => h) hS2 hm2 (by have hn := hR.not; simp [upd, hn] <;> omega) (HGs.out D 8 _ _ (hI.1).g hm2)) (⟨s_0, upd_same V 8 _, hs⟩))
    ·intro D V zw1 a hR hI K hK
     obtain ⟨hS1, hM1, hB1, hG1⟩ := hI.1
     have ze0 := hR.frame.other (t := 0) (by kernel_rfl) rfl
     rw [if_pos (by rfl)]
     go_simp
     exact hK (.pointer (some ⟨b, 0, none⟩)) _ (hI.next hR (by kernel_rfl) (Mod.refl _ _) (GB.quiet hI.1 (Mod.refl _ _) (by have hn := hR.not; simp [upd, hn] <;> omega) (HGs.out D 9 zw1 zw1 (hI.1).g (Mod.refl _ _))) (upd_same V 9 _))
    ·intro D V zw1 a hR hI K hK
     obtain ⟨hS1, hM1, hB1, hG1⟩ := hI.1
     have zd9 := hR.pred 9 (by kernel_rfl)
     have zF9 : V 9 = .pointer (some ⟨b, 0, none⟩) := hI.2 9 zd9 rfl
     have zf9 := zF9; clear zF9
     have ze21 := hR.frame.done (t := 21) (j := 9) (by kernel_rfl) hR.ok zd9
     rw [if_pos (by rfl)]
     have := Bool.toNat_le (D 5)
     have := Bool.toNat_le (D 8)
     have := Bool.toNat_le (D 10)
     have := Bool.toNat_le (D 13)
     have := Bool.toNat_le (D 16)
     have hNB : (N + 500 * k) + ((D 5).toNat + (D 8).toNat + (D 10).toNat + (D 13).toNat + 400 * (D 16).toNat) ≤ 1000000000 := by omega
     skip
     go_simp
     refine (next_calls _ _ _ _ hS1 hNB (by omega) (by omega)).mono ?_
     rintro e zw2 ⟨k_0, hk1, hk2, rfl, hS2, hm2⟩
     exact hK (.int .i64 k_0) _ (hI.next hR (by kernel_rfl) hm2 (GB.asks hI.1 (fun _ h _ => h) hS2 hm2 (by have hn := hR.not; simp [upd, hn] <;> omega) (HGs.out D 10 _ _ (hI.1).g hm2)) (⟨k_0, upd_same V 10 _, hk1, hk2⟩))
    ·intro D V zw1 a hR hI K hK
     obtain ⟨hS1, hM1, hB1, hG1⟩ := hI.1
     have zd10 := hR.pred 10 (by kernel_rfl)
     have zF10 : ∃ (k_10 : Int), V 10 = .int .i64 k_10 ∧ 0 ≤ k_10 ∧ k_10 < 4 := hI.2 10 zd10 rfl
     obtain ⟨k_10, zf10, c10_0, c10_1⟩ := zF10
     have ze22 := hR.frame.done (t := 22) (j := 10) (by kernel_rfl) hR.ok zd10
     rw [if_pos (by rfl)]
     have := Bool.toNat_le (D 5)
     have := Bool.toNat_le (D 8)
     have := Bool.toNat_le (D 10)
     have := Bool.toNat_le (D 13)
     have := Bool.toNat_le (D 16)
     have hNB : (N + 500 * k) + ((D 5).toNat + (D 8).toNat + (D 10).toNat + (D 13).toNat + 400 * (D 16).toNat) ≤ 1000000000 := by omega
     skip
     go_simp
     refine (itemIdS_calls _ _ c10_0 (by omega)).mono ?_
     rintro e zw2 ⟨s_0, hs, rfl, hm2⟩
     exact hK (.string ⟨s_0.toArray⟩) _ (hI.next hR (by kernel_rfl) (Mod.of_pure hm2) (GB.quiet hI.1 hm2 (by have hn := hR.not; simp [upd, hn] <;> omega) (HGs.out D 11 _ _ (hI.1).g (Mod.of_pure hm2))) (⟨s_0, upd_same V 11 _, hs⟩))
    ·intro D V zw1 a hR hI K hK
     obtain ⟨hS1, hM1, hB1, hG1⟩ := hI.1
     have ze0 := hR.frame.other (t := 0) (by kernel_rfl) rfl
     rw [if_pos (by rfl)]
     go_simp
     exact hK (.pointer (some ⟨b, 0, none⟩)) _ (hI.next hR (by kernel_rfl) (Mod.refl _ _) (GB.quiet hI.1 (Mod.refl _ _) (by have hn := hR.not; simp [upd, hn] <;> omega) (HGs.out D 12 zw1 zw1 (hI.1).g (Mod.refl _ _))) (upd_same V 12 _))
    ·intro D V zw1 a hR hI K hK
     obtain ⟨hS1, hM1, hB1, hG1⟩ := hI.1
     have zd12 := hR.pred 12 (by kernel_rfl)
     have zF12 : V 12 = .pointer (some ⟨b, 0, none⟩) := hI.2 12 zd12 rfl
     have zf12 := zF12; clear zF12
     have ze24 := hR.frame.done (t := 24) (j := 12) (by kernel_rfl) hR.ok zd12
     rw [if_pos (by rfl)]
     have := Bool.toNat_le (D 5)
     have := Bool.toNat_le (D 8)
     have := Bool.toNat_le (D 10)
     have := Bool.toNat_le (D 13)
     have := Bool.toNat_le (D 16)
     have hNB : (N + 500 * k) + ((D 5).toNat + (D 8).toNat + (D 10).toNat + (D 13).toNat + 400 * (D 16).toNat) ≤ 1000000000 := by omega
     skip
     go_simp
     refine (flip_calls _ _ _ _ hS1 hNB (by omega) (by omega)).mono ?_
     rintro e zw2 ⟨k_0, rfl, hS2, hm2⟩
     exact hK (.bool k_0) _ (hI.next hR (by kernel_rfl) hm2 (GB.asks hI.1 (fun _ h _ => h) hS2 hm2 (by have hn := hR.not; simp [upd, hn] <;> omega) (HGs.out D 13 _ _ (hI.1).g hm2)) (⟨k_0, upd_same V 13 _⟩))
    ·intro D V zw1 a hR hI K hK
     obtain ⟨hS1, hM1, hB1, hG1⟩ := hI.1
     have ze0 := hR.frame.other (t := 0) (by kernel_rfl) rfl
     rw [if_pos (by rfl)]
     go_simp
     exact hK (.pointer (some ⟨b, 0, none⟩)) _ (hI.next hR (by kernel_rfl) (Mod.refl _ _) (GB.quiet hI.1 (Mod.refl _ _) (by have hn := hR.not; simp [upd, hn] <;> omega) (HGs.out D 14 zw1 zw1 (hI.1).g (Mod.refl _ _))) (upd_same V 14 _))
    ·intro D V zw1 a hR hI K hK
     obtain ⟨hS1, hM1, hB1, hG1⟩ := hI.1
     have ze4 := hR.frame.other (t := 4) (by kernel_rfl) rfl
     have zx0 := hG1.cell 0
     have zx1 := hG1.cell 1
     simp at zx0 zx1
     rw [if_pos (by rfl)]
     go_simp
     exact hK (.agg #[.slice A n c, .slice A2 n2 c2]) _ (hI.next hR (by kernel_rfl) (Mod.refl _ _) (GB.quiet hI.1 (Mod.refl _ _) (by have hn := hR.not; simp [upd, hn] <;> omega) (HGs.out D 15 zw1 zw1 (hI.1).g (Mod.refl _ _))) (upd_same V 15 _))
    ·intro D V zw1 a hR hI K hK
     obtain ⟨hS1, hM1, hB1, hG1⟩ := hI.1
     have zd14 := hR.pred 14 (by kernel_rfl)
     have zF14 : V 14 = .pointer (some ⟨b, 0, none⟩) := hI.2 14 zd14 rfl
     have zf14 := zF14; clear zF14
     have zd15 := hR.pred 15 (by kernel_rfl)
     have zF15 : V 15 = .agg #[.slice A n c, .slice A2 n2 c2] := hI.2 15 zd15 rfl
     have zf15 := zF15; clear zF15
     have ze26 := hR.frame.done (t := 26) (j := 14) (by kernel_rfl) hR.ok zd14
     have ze27 := hR.frame.done (t := 27) (j := 15) (by kernel_rfl) hR.ok zd15
     rw [if_pos (by rfl)]
     have := Bool.toNat_le (D 5)
     have := Bool.toNat_le (D 8)
     have := Bool.toNat_le (D 10)
     have := Bool.toNat_le (D 13)
     have := Bool.toNat_le (D 16)
     have hNB : (N + 500 * k) + ((D 5).toNat + (D 8).toNat + (D 10).toNat + (D 13).toNat + 400 * (D 16).toNat) ≤ 1000000000 := by omega
     skip
     go_simp
     refine (valuesM_calls MM KK hM4 hK3 hK100 _ b _ _ L hS1 (by omega) (HLS.out _ (HM.out.trans hM1)) hla HAM.out).mono ?_
     rintro e zw2 ⟨A_0, n2, c_0, cs_0, rfl, hV, hcl, hcz, hS2, hm2⟩
     have hvn := hV.len
     subst hvn
     exact hK (.slice A_0 cs_0.length c_0) _ (hI.next hR (by kernel_rfl) hm2 (GB.asks hI.1 (fun _ h _ => h) hS2 hm2 (by have hn := hR.not; simp [upd, hn] <;> omega) (HGs.out D 16 _ _ (hI.1).g hm2)) (⟨A_0, c_0, cs_0, upd_same V 16 _, hcl, hcz, (VlsB.of hV hS2)⟩))
    ·intro D V zw1 a hR hI K hK
     obtain ⟨hS1, hM1, hB1, hG1⟩ := hI.1
     have zd2 := hR.pred 2 (by kernel_rfl)
     have zF2 : V 2 = .int .i64 ((ds.length : Int) + 1) := hI.2 2 zd2 rfl
     have zf2 := zF2; clear zF2
     have zd5 := hR.pred 5 (by kernel_rfl)
     have zF5 : ∃ (k_5 : Int), V 5 = .int .i64 k_5 ∧ 5 ≤ k_5 ∧ k_5 ≤ 100 := hI.2 5 zd5 rfl
     obtain ⟨k_5, zf5, c5_0, c5_1⟩ := zF5
     have zd8 := hR.pred 8 (by kernel_rfl)
     have zF8 : ∃ (s_8 : Str), V 8 = .string ⟨s_8.toArray⟩ ∧ s_8.length ≤ 4 := hI.2 8 zd8 rfl
     obtain ⟨s_8, zf8, c8_0⟩ := zF8
     have zd11 := hR.pred 11 (by kernel_rfl)
     have zF11 : ∃ (s_11 : Str), V 11 = .string ⟨s_11.toArray⟩ ∧ s_11.length ≤ 4 := hI.2 11 zd11 rfl
     obtain ⟨s_11, zf11, c11_0⟩ := zF11
     have zd13 := hR.pred 13 (by kernel_rfl)
     have zF13 : ∃ (k_13 : Bool), V 13 = .bool k_13 := hI.2 13 zd13 rfl
     obtain ⟨k_13, zf13⟩ := zF13
     have zd16 := hR.pred 16 (by kernel_rfl)
     have zF16 : ∃ (A_16 : Option Addr) (c_16 : Nat) (cs_16 : List ChoR), V 16 = .slice A_16 cs_16.length c_16 ∧ cs_16.length ≤ 4 ∧ (∀ x ∈ cs_16, ChoM MM KK x) ∧ VlsB zw1 b (.slice A_16 cs_16.length c_16) cs_16 := hI.2 16 zd16 (by show (!D 17) = true; rw [hR.not]; rfl)
     obtain ⟨A_16, c_16, cs_16, zf16, c16_0, c16_1, b16_0⟩ := zF16
     have ze14 := hR.frame.done (t := 14) (j := 2) (by kernel_rfl) hR.ok zd2
     have ze17 := hR.frame.done (t := 17) (j := 5) (by kernel_rfl) hR.ok zd5
     have ze20 := hR.frame.done (t := 20) (j := 8) (by kernel_rfl) hR.ok zd8
     have ze23 := hR.frame.done (t := 23) (j := 11) (by kernel_rfl) hR.ok zd11
     have ze25 := hR.frame.done (t := 25) (j := 13) (by kernel_rfl) hR.ok zd13
     have ze28 := hR.frame.done (t := 28) (j := 16) (by kernel_rfl) hR.ok zd16
     rw [if_pos (by rfl)]
     go_simp
     exact hK (_) _ (hI.next hR (by kernel_rfl) (Mod.refl _ _) (GB.quiet hI.1 (Mod.refl _ _) (by have hn := hR.not; simp [upd, hn] <;> omega) (HGs.out D 17 zw1 zw1 (hI.1).g (Mod.refl _ _))) (⟨k_5, s_8, s_11, k_13, A_16, c_16, cs_16, upd_same V 17 _, (by first | assumption | omega), (by first | assumption | omega), (by first | assumption | omega), (by first | assumption | omega), (by first | assumption | omega), (by first | assumption | omega), b16_0⟩))
    ·intro D V zw1 a hR hI K hK
     obtain ⟨hS1, hM1, hB1, hG1⟩ := hI.1
     rw [if_pos (by rfl)]
     go_simp
     exact hK (_) _ (hI.next hR (by kernel_rfl) ((Mod.refl _ _).alloc _) (GB.quiet hI.1 (pure_alloc _ _) (by have hn := hR.not; simp [upd, hn] <;> omega) (HGs.out D 18 _ _ (hI.1).g ((Mod.refl _ _).alloc _))) (⟨_, upd_same V 18 _, (by omega), (Blk.new _ _ _)⟩))
    ·intro D V zw1 a hR hI K hK
     obtain ⟨hS1, hM1, hB1, hG1⟩ := hI.1
     have zd18 := hR.pred 18 (by kernel_rfl)
     have zF18 : ∃ (g_18 : Nat), V 18 = .pointer (some ⟨g_18, 0, none⟩) ∧ wr.heap.size ≤ g_18 ∧ Blk zw1 g_18 53 #[.int .i64 0, .int .i64 0, .string ⟨#[]⟩, .string ⟨#[]⟩, .bool false, .slice none 0 0] := hI.2 18 zd18 (by show (!D 19) = true; rw [hR.not]; rfl)
     obtain ⟨g_18, zf18, c18_0, b18_0⟩ := zF18
     have zd17 := hR.pred 17 (by kernel_rfl)
     have zF17 : ∃ (k_17 : Int) (s_17 : Str) (sa_17 : Str) (ka_17 : Bool) (A_17 : Option Addr) (c_17 : Nat) (cs_17 : List ChoR), V 17 = .agg #[.int .i64 ((ds.length : Int) + 1), .int .i64 k_17, .string ⟨s_17.toArray⟩, .string ⟨sa_17.toArray⟩, .bool ka_17, .slice A_17 cs_17.length c_17] ∧ 5 ≤ k_17 ∧ k_17 ≤ 100 ∧ s_17.length ≤ 4 ∧ sa_17.length ≤ 4 ∧ cs_17.length ≤ 4 ∧ (∀ x ∈ cs_17, ChoM MM KK x) ∧ VlsB zw1 b (.slice A_17 cs_17.length c_17) cs_17 := hI.2 17 zd17 (by show (!D 19) = true; rw [hR.not]; rfl)
     obtain ⟨k_17, s_17, sa_17, ka_17, A_17, c_17, cs_17, zf17, c17_0, c17_1, c17_2, c17_3, c17_4, c17_5, b17_0⟩ := zF17
     have ze8 := hR.frame.done (t := 8) (j := 18) (by kernel_rfl) hR.ok zd18
     have ze29 := hR.frame.done (t := 29) (j := 17) (by kernel_rfl) hR.ok zd17
     rw [if_pos (by rfl)]
     have zx0 := b18_0.cell 0; have zy0 := b18_0.frozen 0
     have zx1 := b18_0.cell 1; have zy1 := b18_0.frozen 1
     have zx2 := b18_0.cell 2; have zy2 := b18_0.frozen 2
     have zx3 := b18_0.cell 3; have zy3 := b18_0.frozen 3
     have zx4 := b18_0.cell 4; have zy4 := b18_0.frozen 4
     have zx5 := b18_0.cell 5; have zy5 := b18_0.frozen 5
     simp at zx0 zy0 zx1 zy1 zx2 zy2 zx3 zy3 zx4 zy4 zx5 zy5
     go_simp
     refine hK undef _ (InvF.last ?_ ?_ ?_)
     ·exact ⟨((((((hS1.setCell (by show _ < g_18; omega) _).setCell (by show _ < g_18; omega) _).setCell (by show _ < g_18; omega) _).setCell (by show _ < g_18; omega) _).setCell (by show _ < g_18; omega) _).setCell (by show _ < g_18; omega) _).more (by have hn := hR.not; simp [upd, hn] <;> omega), ((((((hM1.setCell (.inr (by show _ ≤ g_18; omega)) _).setCell (.inr (by show _ ≤ g_18; omega)) _).setCell (.inr (by show _ ≤ g_18; omega)) _).setCell (.inr (by show _ ≤ g_18; omega)) _).setCell (.inr (by show _ ≤ g_18; omega)) _).setCell (.inr (by show _ ≤ g_18; omega)) _), (by simpa using hB1), ((((((hG1.far (by show g1 ≠ g_18; omega) _).far (by show g1 ≠ g_18; omega) _).far (by show g1 ≠ g_18; omega) _).far (by show g1 ≠ g_18; omega) _).far (by show g1 ≠ g_18; omega) _).far (by show g1 ≠ g_18; omega) _)⟩
     ·exact ⟨g_18, k_17, s_17, sa_17, ka_17, A_17, c_17, cs_17, (upd_ne V (i := 19) (k := 18) undef (by omega)).trans zf18, (by first | assumption | omega), (by first | assumption | omega), (by first | assumption | omega), (by first | assumption | omega), (by first | assumption | omega), (by first | assumption | omega), (by first | assumption | omega), (by have hset := ((((((b18_0.set 0 (.int .i64 ((ds.length : Int) + 1))).set 1 (.int .i64 k_17)).set 2 (.string ⟨s_17.toArray⟩)).set 3 (.string ⟨sa_17.toArray⟩)).set 4 (.bool ka_17)).set 5 (.slice A_17 cs_17.length c_17)); simpa using hset), (VlsB.set (VlsB.set (VlsB.set (VlsB.set (VlsB.set (VlsB.set b17_0 b18_0 0 (.int .i64 ((ds.length : Int) + 1))) (b18_0.set 0 (.int .i64 ((ds.length : Int) + 1))) 1 (.int .i64 k_17)) ((b18_0.set 0 (.int .i64 ((ds.length : Int) + 1))).set 1 (.int .i64 k_17)) 2 (.string ⟨s_17.toArray⟩)) (((b18_0.set 0 (.int .i64 ((ds.length : Int) + 1))).set 1 (.int .i64 k_17)).set 2 (.string ⟨s_17.toArray⟩)) 3 (.string ⟨sa_17.toArray⟩)) ((((b18_0.set 0 (.int .i64 ((ds.length : Int) + 1))).set 1 (.int .i64 k_17)).set 2 (.string ⟨s_17.toArray⟩)).set 3 (.string ⟨sa_17.toArray⟩)) 4 (.bool ka_17)) (((((b18_0.set 0 (.int .i64 ((ds.length : Int) + 1))).set 1 (.int .i64 k_17)).set 2 (.string ⟨s_17.toArray⟩)).set 3 (.string ⟨sa_17.toArray⟩)).set 4 (.bool ka_17)) 5 (.slice A_17 cs_17.length c_17))⟩
     ·intro k hk hDk hlv
      have hkl := hR.lt k hDk
      have hv := hI.2 k hDk (liveB_of hlv)
      match k, hk, hDk, hlv, hkl, hv with
      | 0, _, _, _, _, hv => exact hv
      | 1, _, _, _, _, hv => exact hv
      | 2, _, _, _, _, hv => exact hv
      | 3, _, _, _, _, hv => exact hv
      | 4, _, _, hlv, _, _ => exact absurd hlv (by show ¬ (!upd D 19 true 5) = true; rw [upd_ne _ _ (by omega), hR.pred 5 (by kernel_rfl)]; decide)
      | 5, _, _, _, _, hv => exact hv
      | 6, _, _, _, _, hv => exact hv
      | 7, _, _, hlv, _, _ => exact absurd hlv (by show ¬ (!upd D 19 true 8) = true; rw [upd_ne _ _ (by omega), hR.pred 8 (by kernel_rfl)]; decide)
      | 8, _, _, _, _, hv => exact hv
      | 9, _, _, _, _, hv => exact hv
      | 10, _, _, _, _, hv => exact hv
      | 11, _, _, _, _, hv => exact hv
      | 12, _, _, _, _, hv => exact hv
      | 13, _, _, _, _, hv => exact hv
      | 14, _, _, _, _, hv => exact hv
      | 15, _, _, _, _, hv => exact hv
      | 16, _, _, hlv, _, _ => exact absurd hlv (by show ¬ (!upd D 19 true 17) = true; rw [upd_ne _ _ (by omega), hR.pred 17 (by kernel_rfl)]; decide)
      | 17, _, _, hlv, _, _ => exact absurd hlv (by show ¬ (!upd D 19 true 19) = true; rw [upd_same]; decide)
      | 18, _, _, hlv, _, _ => exact absurd hlv (by show ¬ (!upd D 19 true 19) = true; rw [upd_same]; decide)
      | 19, hk, _, _, _, _ => exact absurd rfl hk
      | k + 20, _, _, _, hkl, _ => exact absurd hkl (by simp)
   ·intro D V w3 hD hI
    obtain ⟨hS1, hM1, hB1, hG1⟩ := hI.1
    have hSx : Strm w3 b ((N + 500 * k) + 404) := hS1.more (by show _ ≤ _; have := Bool.toNat_le (D 5); have := Bool.toNat_le (D 8); have := Bool.toNat_le (D 10); have := Bool.toNat_le (D 13); have := Bool.toNat_le (D 16); omega)
    clear hS1
    have hMx := hM1
    clear hM1
    have hBx := hB1
    clear hB1
    have hGx := hG1
    clear hG1
    have zF0 : V 0 = .slice Ao ds.length cap := hI.2 0 (hD 0 (by decide)) rfl
    have zf0 := zF0; clear zF0
    have zF1 : V 1 = .int .i64 (ds.length : Int) := hI.2 1 (hD 1 (by decide)) rfl
    have zf1 := zF1; clear zF1
    have zF2 : V 2 = .int .i64 ((ds.length : Int) + 1) := hI.2 2 (hD 2 (by decide)) rfl
    have zf2 := zF2; clear zF2
    have zF3 : V 3 = .pointer (some ⟨b, 0, none⟩) := hI.2 3 (hD 3 (by decide)) rfl
    have zf3 := zF3; clear zF3
    have zF5 : ∃ (k_5 : Int), V 5 = .int .i64 k_5 ∧ 5 ≤ k_5 ∧ k_5 ≤ 100 := hI.2 5 (hD 5 (by decide)) rfl
    obtain ⟨k_5, zf5, c5_0, c5_1⟩ := zF5
    have zF6 : V 6 = .pointer (some ⟨b, 0, none⟩) := hI.2 6 (hD 6 (by decide)) rfl
    have zf6 := zF6; clear zF6
    have zF8 : ∃ (s_8 : Str), V 8 = .string ⟨s_8.toArray⟩ ∧ s_8.length ≤ 4 := hI.2 8 (hD 8 (by decide)) rfl
    obtain ⟨s_8, zf8, c8_0⟩ := zF8
    have zF9 : V 9 = .pointer (some ⟨b, 0, none⟩) := hI.2 9 (hD 9 (by decide)) rfl
    have zf9 := zF9; clear zF9
    have zF10 : ∃ (k_10 : Int), V 10 = .int .i64 k_10 ∧ 0 ≤ k_10 ∧ k_10 < 4 := hI.2 10 (hD 10 (by decide)) rfl
    obtain ⟨k_10, zf10, c10_0, c10_1⟩ := zF10
    have zF11 : ∃ (s_11 : Str), V 11 = .string ⟨s_11.toArray⟩ ∧ s_11.length ≤ 4 := hI.2 11 (hD 11 (by decide)) rfl
    obtain ⟨s_11, zf11, c11_0⟩ := zF11
    have zF12 : V 12 = .pointer (some ⟨b, 0, none⟩) := hI.2 12 (hD 12 (by decide)) rfl
    have zf12 := zF12; clear zF12
    have zF13 : ∃ (k_13 : Bool), V 13 = .bool k_13 := hI.2 13 (hD 13 (by decide)) rfl
    obtain ⟨k_13, zf13⟩ := zF13
    have zF14 : V 14 = .pointer (some ⟨b, 0, none⟩) := hI.2 14 (hD 14 (by decide)) rfl
    have zf14 := zF14; clear zF14
    have zF15 : V 15 = .agg #[.slice A n c, .slice A2 n2 c2] := hI.2 15 (hD 15 (by decide)) rfl
    have zf15 := zF15; clear zF15
    have zF19 : ∃ (g_19 : Nat) (k_19 : Int) (s_19 : Str) (sa_19 : Str) (ka_19 : Bool) (A_19 : Option Addr) (c_19 : Nat) (cs_19 : List ChoR), V 18 = .pointer (some ⟨g_19, 0, none⟩) ∧ wr.heap.size ≤ g_19 ∧ 5 ≤ k_19 ∧ k_19 ≤ 100 ∧ s_19.length ≤ 4 ∧ sa_19.length ≤ 4 ∧ cs_19.length ≤ 4 ∧ (∀ x ∈ cs_19, ChoM MM KK x) ∧ Blk w3 g_19 53 #[.int .i64 ((ds.length : Int) + 1), .int .i64 k_19, .string ⟨s_19.toArray⟩, .string ⟨sa_19.toArray⟩, .bool ka_19, .slice A_19 cs_19.length c_19] ∧ VlsB w3 b (.slice A_19 cs_19.length c_19) cs_19 := hI.2 19 (hD 19 (by decide)) rfl
    obtain ⟨g_19, k_19, s_19, sa_19, ka_19, A_19, c_19, cs_19, zf19, c19_0, c19_1, c19_2, c19_3, c19_4, c19_5, c19_6, b19_0, b19_1⟩ := zF19
    clear hI hD HGs
    simp only [frAll, Act.put, List.setIfInBounds_toArray, List.set_cons_zero, List.set_cons_succ, Nat.zero_add, Nat.reduceAdd, zf0, zf1, zf2, zf3, zf5, zf6, zf8, zf9, zf10, zf11, zf12, zf13, zf14, zf15, zf19]
    clear zf0 zf1 zf2 zf3 zf5 zf6 zf8 zf9 zf10 zf11 zf12 zf13 zf14 zf15 zf19
    generalize V 4 = u4
    generalize V 7 = u7
    generalize V 16 = u16
    generalize V 17 = u17
    clear V D
    have HX := Lib.hid (show DgBox w3 b g_19 ⟨(ds.length : Int) + 1, k_19, s_19, sa_19, ka_19, A_19, c_19, cs_19⟩ from ⟨b19_0, b19_1⟩)
    have HZ1 : Hid (DecM MM KK ⟨(ds.length : Int) + 1, k_19, s_19, sa_19, ka_19, A_19, c_19, cs_19⟩) := Lib.hid ⟨by simp only; omega, by simp only; omega, by simp only; omega, by simp only; omega, by simp only; omega, by simp only; omega, by simp only; omega, c19_6⟩
    have hgw : wr.heap.size ≤ g_19 := c19_0
    have HMW := Lib.hid hMx
    generalize (⟨(ds.length : Int) + 1, k_19, s_19, sa_19, ka_19, A_19, c_19, cs_19⟩ : DecR) = x0 at *
    clear b19_0 b19_1 c19_0 c19_1 c19_2 c19_3 c19_4 c19_5 c19_6 hGx hMx hBx hS
    go_wp2_with fail
    refine (flip_calls _ b _ _ hSx (by omega) (by omega) (by omega)).mono ?_
    rintro e w5 ⟨fl, rfl, hS5, hM5⟩
    go_upto_if 31 with (fail)
    go_cut [] (fun wx => ∃ (x : DecR), DgBox wx b g_19 x ∧ DecM MM KK x ∧ Strm wx b (N + 500 * k + 410) ∧ Mod (· = b) wr wx)
    case first =>
     cases fl
     ·go_wp2_with fail
      go_meet
      exact ⟨x0, HX.out.ask hM5 (by omega), HZ1.out, hS5.more (by omega), HMW.out.trans hM5⟩
     ·go_wp2_with fail
      refine (next_calls _ b _ _ hS5 (by omega) (by omega) (by omega)).mono ?_
      rintro e w6 ⟨z, hza, hzb, rfl, hS6, hM6'⟩
      have hM6 := hM5.trans hM6'
      have hbw6 := hS6.lt
      clear hM6' hM5 hS5 hSx
      by_cases k0 : z = 0
      ·subst k0
       go_wp2_with fail
       refine (odd_calls _ b _ 1 9 hS6 (by omega) (by omega) (by omega) (by omega)).mono ?_
       rintro e w7 ⟨kq, hq1, hq2, rfl, hS7, hM7⟩
       have HX7 := Lib.hid (HX.out.ask (hM6.trans (hM7)) (by omega))
       have HM7 := Lib.hid (HMW.out.trans (hM6.trans (hM7)))
       obtain ⟨hq, hf⟩ := HX7.out.cells
       obtain ⟨q0, q1, q2, q3, q4, q5⟩ := hq
       have f0 := hf 0
       clear hf hM7 hM6
       go_wp2_with fail
       go_meet
       exact ⟨_, HX7.out.set0 _, ⟨by simp only; omega, by simp only; omega, HZ1.out.2.2.1, HZ1.out.2.2.2.1, HZ1.out.2.2.2.2.1, HZ1.out.2.2.2.2.2.1, HZ1.out.2.2.2.2.2.2⟩, (hS7.setCell (by show b < g_19; omega) _).more (by omega), HM7.out.setCell (.inr (by show wr.heap.size ≤ g_19; omega)) _⟩
      have k0' : (z == 0) = false := by simpa using k0
      by_cases k1 : z = 1
      ·subst k1
       go_wp2_with fail
       refine (odd_calls _ b _ 0 5761439 hS6 (by omega) (by omega) (by omega) (by omega)).mono ?_
       rintro e w7 ⟨kq, hq1, hq2, rfl, hS7, hM7⟩
       have HX7 := Lib.hid (HX.out.ask (hM6.trans (hM7)) (by omega))
       have HM7 := Lib.hid (HMW.out.trans (hM6.trans (hM7)))
       obtain ⟨hq, hf⟩ := HX7.out.cells
       obtain ⟨q0, q1, q2, q3, q4, q5⟩ := hq
       have f0 := hf 1
       clear hf hM7 hM6
       go_wp2_with fail
       go_meet
       exact ⟨_, HX7.out.set1 _, ⟨HZ1.out.1, HZ1.out.2.1, by simp only; omega, by simp only; omega, HZ1.out.2.2.2.2.1, HZ1.out.2.2.2.2.2.1, HZ1.out.2.2.2.2.2.2⟩, (hS7.setCell (by show b < g_19; omega) _).more (by omega), HM7.out.setCell (.inr (by show wr.heap.size ≤ g_19; omega)) _⟩
      have k1' : (z == 1) = false := by simpa using k1
      by_cases k2 : z = 2
      ·subst k2
       go_wp2_with fail
       refine (somec_calls _ b _ w6.heap.size _ _ [[], [65]] 4 rfl (by decide) (hS6.alloc _) (by omega) (Blk.new _ _ _) (by omega) (by decide) (by decide)).mono ?_
       rintro e w7 ⟨sq, hsq, rfl, hS7, hM7⟩
       have HX7 := Lib.hid (HX.out.ask (hM6.trans (((Mod.refl (· = b) w6).alloc _).trans hM7)) (by omega))
       have HM7 := Lib.hid (HMW.out.trans (hM6.trans (((Mod.refl (· = b) w6).alloc _).trans hM7)))
       obtain ⟨hq, hf⟩ := HX7.out.cells
       obtain ⟨q0, q1, q2, q3, q4, q5⟩ := hq
       have f0 := hf 2
       clear hf hM7 hM6
       go_wp2_with fail
       go_meet
       exact ⟨_, HX7.out.set2 _, ⟨HZ1.out.1, HZ1.out.2.1, HZ1.out.2.2.1, HZ1.out.2.2.2.1, by simp only; omega, HZ1.out.2.2.2.2.2.1, HZ1.out.2.2.2.2.2.2⟩, (hS7.setCell (by show b < g_19; omega) _).more (by omega), HM7.out.setCell (.inr (by show wr.heap.size ≤ g_19; omega)) _⟩
      have k2' : (z == 2) = false := by simpa using k2
      ·go_wp2_with fail
       refine (somec_calls _ b _ w6.heap.size _ _ [[], [65]] 4 rfl (by decide) (hS6.alloc _) (by omega) (Blk.new _ _ _) (by omega) (by decide) (by decide)).mono ?_
       rintro e w7 ⟨sq, hsq, rfl, hS7, hM7⟩
       have HX7 := Lib.hid (HX.out.ask (hM6.trans (((Mod.refl (· = b) w6).alloc _).trans hM7)) (by omega))
       have HM7 := Lib.hid (HMW.out.trans (hM6.trans (((Mod.refl (· = b) w6).alloc _).trans hM7)))
       obtain ⟨hq, hf⟩ := HX7.out.cells
       obtain ⟨q0, q1, q2, q3, q4, q5⟩ := hq
       have f0 := hf 3
       clear hf hM7 hM6
       go_wp2_with fail
       go_meet
       exact ⟨_, HX7.out.set3 _, ⟨HZ1.out.1, HZ1.out.2.1, HZ1.out.2.2.1, HZ1.out.2.2.2.1, HZ1.out.2.2.2.2.1, by simp only; omega, HZ1.out.2.2.2.2.2.2⟩, (hS7.setCell (by show b < g_19; omega) _).more (by omega), HM7.out.setCell (.inr (by show wr.heap.size ≤ g_19; omega)) _⟩
    case rest =>
     obtain ⟨x, hX, hZ, hS5, hM5⟩ := hcut
     obtain ⟨wx, hwx⟩ : ∃ W, W = wc := ⟨wc, rfl⟩
     subst hwx
     have hbx := hS5.lt
     have hgx := hX.1.lt
     have HX2 := Lib.hid hX
     have HZ2 := Lib.hid hZ
     have HM5 := Lib.hid hM5
     obtain ⟨xno, xat, xrev, xitem, xsec, xA, xc, xv⟩ := x
     have hzv := hZ.2.2.2.2.2.2
     have HLF := Lib.hid (fun W (h : Mod (· = b) wx W) => layoutFault_calls W _ L (HLS.out _ (HM.out.trans (hM5.trans h))) HLB.out)
     have HDF := Lib.hid (fun W g (h : Mod (· = b) wx W) (hB : Blk W g 53 #[.int .i64 1, .int .i64 xat, .string ⟨xrev.toArray⟩, .string ⟨xitem.toArray⟩, .bool false, .slice xA xv.length xc]) => dsfault_calls W _ L (some ⟨g, 0, none⟩) 1 1 [⟨1, xat, xrev, xitem, false, xA, xc, xv⟩] (HLS.out _ (HM.out.trans (hM5.trans h))) HLB.out
      ⟨⟨_, 1, 1, rfl, by omega, by omega, by simp [decV, decC], fun _ => ⟨g, 0, rfl, Blk.row0 hB⟩⟩, fun y hy => by rw [List.mem_singleton.1 hy]; exact (hX.2.ask h).1⟩ (fun y hy => by rw [List.mem_singleton.1 hy]; have hz := HZ2.out.b hM1000 hK100; exact ⟨by simp only; omega, by simp only; omega, hz.2.2.1, hz.2.2.2.1, hz.2.2.2.2.1, hz.2.2.2.2.2.1, hz.2.2.2.2.2.2⟩) (by simp))
     have HBX := Lib.hid (HB.out.mod hM5 (by omega))
     clear hX hZ hM5 hzv HX HZ1 HMW hSx
     generalize layE L = le at *
     generalize decsE L [⟨1, xat, xrev, xitem, false, xA, xc, xv⟩] = de at *
     go_upto_region 14 with (fail)
     go_cut [76] (fun p wy => ∃ f : Bool, p = .bool f ∧ Strm wy b (N + 500 * k + 411) ∧ Mod (· = b) wx wy)
     case first =>
      have hX := HBX.out
      have c0 := hX.cell 0; have c1 := hX.cell 1; simp at c0 c1
      clear hX
      go_wp2_with fail
      refine (HLF.out _ (Mod.refl _ _)).mono ?_
      rintro e wa ⟨rfl, hma⟩
      have hma2 : Mod (· = b) wx wa := .of_pure hma
      have hSa := hS5.pure hma
      have hX := HBX.out.modp hma
      have hXX := HX2.out.pure hma
      obtain ⟨hq, hf⟩ := hXX.cells
      obtain ⟨q0, q1, q2, q3, q4, q5⟩ := hq
      clear c0 c1 HLF hf hma hXX
      have c0 := hX.cell 0; have c1 := hX.cell 1; simp at c0 c1
      clear hX
      by_cases hle : le = 0
      ·subst hle
       go_wp2_with fail
       refine (flip_calls _ b _ _ hSa (by omega) (by omega) (by omega)).mono ?_
       rintro e wb ⟨fb, rfl, hSb, hMb⟩
       have hmb2 := hma2.trans hMb
       have hX := HBX.out.mod hmb2 (by omega)
       have hXX := HX2.out.ask hmb2 (by omega)
       obtain ⟨hq, hf⟩ := hXX.cells
       obtain ⟨q0, q1, q2, q3, q4, q5⟩ := hq
       clear hf hXX c0 c1 hMb hSa
       have c0 := hX.cell 0; have c1 := hX.cell 1; simp at c0 c1
       clear hX
       cases fb
       ·go_wp2_with fail
        refine (HDF.out _ _ (hmb2.alloc _) (Blk.new' rfl)).mono ?_
        rintro e wd ⟨rfl, hmd⟩
        have hmd2 : Mod (· = b) wx wd := (hmb2.alloc _).transp hmd
        have hSd := (hSb.alloc (.cells #[.int .i64 1, .int .i64 xat, .string ⟨xrev.toArray⟩, .string ⟨xitem.toArray⟩, .bool false, .slice xA xv.length xc] 53)).pure hmd
        by_cases hde : de = 0
        ·subst hde
         go_wp2_with fail
         go_meet
         exact ⟨_, rfl, hSd.more (by omega), hmd2⟩
        ·have hde' : (de != 0) = true := by simpa using hde
         go_wp2_with fail
         go_meet
         exact ⟨_, rfl, hSd.more (by omega), hmd2⟩
       ·go_wp2_with fail
        go_meet
        exact ⟨_, rfl, hSb.more (by omega), hmb2⟩
      ·have hle' : (le == 0) = false := by simpa using hle
       go_wp2_with fail
       go_meet
       exact ⟨_, rfl, hSa.more (by omega), hma2⟩
     case rest =>
      obtain ⟨f, rfl, hSy, hMy⟩ := hcut
      have hMw : Mod (· = b) wr wc := HM5.out.trans hMy
      have HMt := Lib.hid (HM.out.trans hMw)
      have HOy := Lib.hid (HO.out.ask hSx0 hMw hbb)
      have HBy := Lib.hid (HB.out.mod hMw (by omega))
      have hXy := HX2.out.ask hMy (by omega)
      have hbwy : base ≤ wc.heap.size := by have := hMw.size; omega
      clear hMw hMy HLF HDF hS5
      cases f
      ·obtain ⟨hq, _⟩ := hXy.cells
       obtain ⟨q0, q1, q2, q3, q4, q5⟩ := hq
       have HVy := Lib.hid hXy.2.1
       clear hXy
       obtain ⟨i0, hi0, hz0, hz1, hz2⟩ := info_parts info_dec
       have hownO := HOy.out.1
       have hmO := HMt.out
       have hwb : w.heap.size ≤ base := by omega
       go_wp2_with ((at_builtin; refine wpList_append_lies _ rfl _ _ _ rfl base 53 i0 _ 6 80 Tryz.underlying42 hi0 hz0 hz1 hz2 rfl (by omega) (.slice Ao ds.length cap) ds.length (decV ds) rfl (hownO.alloc _) ⟨wc.heap.size, 0, none⟩ 1 1 [.int .i64 xno, .int .i64 xat, .string ⟨xrev.toArray⟩, .string ⟨xitem.toArray⟩, .bool xsec, .slice xA xv.length xc] rfl rfl (World.news_of_block (cs := #[.int .i64 xno, .int .i64 xat, .string ⟨xrev.toArray⟩, .string ⟨xitem.toArray⟩, .bool xsec, .slice xA xv.length xc]) (t := 53) (fr := (0, 0)) (heap_alloc_new wc _)) (by simp [Value.oneCell']) (by omega) (by simp [maxLen]; omega) (by omega) (by have := hmO.size; simp; omega) (wc.heap.size + 1) (by simp) ?_; intro g5 cap5 w5 hown5 hgrow hat hlt5))
       have hob := own_block hownO
       have mG := mod_grown hgrow
       have hz5 := mG.size
       simp only [World.size_alloc] at hz5
       have hoa := hownO.alloc (.cells #[.int .i64 xno, .int .i64 xat, .string ⟨xrev.toArray⟩, .string ⟨xitem.toArray⟩, .bool xsec, .slice xA xv.length xc] 53)
       go_roundg (many - (k + 1))
       case measure => omega
       case rel =>
        refine ⟨k + 1, cap5, some ⟨g5, 0, none⟩, ds ++ [⟨xno, xat, xrev, xitem, xsec, xA, xc, xv⟩], rfl, by omega, by simp, by simp, by simp; omega, fun y hy => ?_, ?_, ?_, ((hSy.alloc _).mod mG (fun i hi hv => by have := hob i hv; omega)).more (by omega), (HMt.out.alloc _).grown hgrow (fun i hi => .inr (by have := hob i hi; omega)), by omega⟩
        ·rcases List.mem_append.1 hy with hy | hy
         ·exact HDZ.out y hy
         ·rw [List.mem_singleton.1 hy]; exact HZ2.out
        ·simpa using (HOy.out.pure (pure_alloc _ (.cells #[.int .i64 xno, .int .i64 xat, .string ⟨xrev.toArray⟩, .string ⟨xitem.toArray⟩, .bool xsec, .slice xA xv.length xc] 53))).app (x := ⟨xno, xat, xrev, xitem, xsec, xA, xc, xv⟩) (HVy.out.pure (pure_alloc _ _)) mG rfl hown5
        ·exact (HBy.out.alloc (.cells #[.int .i64 xno, .int .i64 xat, .string ⟨xrev.toArray⟩, .string ⟨xitem.toArray⟩, .bool xsec, .slice xA xv.length xc] 53)).mod mG (fun hv => by have h3 := HBy.out.alloc (.cells #[.int .i64 xno, .int .i64 xat, .string ⟨xrev.toArray⟩, .string ⟨xitem.toArray⟩, .bool xsec, .slice xA xv.length xc] 53); unfold Blk at h3; exact absurd (own_ty hoa hv h3) (by decide))
      ·go_wp2_with fail
       go_roundg (many - (k + 1))
       case measure => omega
       case rel => exact ⟨k + 1, cap, Ao, ds, rfl, by omega, by simp, by simp, by omega, HDZ.out, HOy.out, HBy.out, hSy.more (by omega), HMt.out, hbwy⟩
  ·obtain rfl : k = many := by omega
   go_wp2_with fail
   go_ret
   exact ⟨base, cap, Ao, ds, rfl, hbb, by omega, HO.out, hdk, HDZ.out, hS, HM.out⟩

end Go.Proofs.YtaidkmnbjbnciaaGreatDoor

/- Words that the laws of reviews share. -/
namespace Go.Proofs.YtaidkmnbjbnciaaGreatDoor
set_option linter.unusedVariables false
set_option linter.unusedSimpArgs false
open Go.RowKit

theorem decEq_key (x y : DecR) : decEq x y = true ↔ x.key = y.key := by
 rw [decEq_iff]
 unfold DecR.like DecR.key likes
 simp
theorem likesD_iff {xs ys : List DecR} : eqL decEq xs ys = true ↔ likesD xs ys := eqL_map decEq_key
/-- Decisions that do not lie in block b, and are in a row of one's own. -/
def DcB (W : World) (b base : Nat) (A : Option Addr) (c : Nat) (ds : List DecR) : Prop := b < base ∧ W.ownsRow base 53 6 (.slice A ds.length c) ds.length (decV ds) ∧ ∀ x ∈ ds, VlsB W b (.slice x.A x.vals.length x.c) x.vals
section
variable {w w' : World} {b base c N : Nat} {A : Option Addr} {ds : List DecR}
theorem DcB.of (h : DcG w base A c ds) (hb : b < base) (hS : Strm w b N) : DcB w b base A c ds := ⟨hb, h.1, fun x hx => VlsB.of (h.2 x hx) hS⟩
theorem DcB.ask (h : DcB w b base A c ds) (hm : Mod (· = b) w w') : DcB w' b base A c ds := ⟨h.1, own_mod h.2.1 hm (fun i hi => by have := own_block h.2.1 i hi; have := h.1; omega), fun x hx => (h.2.2 x hx).ask hm⟩
theorem DcB.pure (h : DcB w b base A c ds) (hm : Pure w w') : DcB w' b base A c ds := ⟨h.1, own_pure h.2.1 hm, fun x hx => (h.2.2 x hx).pure hm⟩
theorem DcB.decs (h : DcB w b base A c ds) : Decs w (.slice A ds.length c) ds := ⟨Sl.of_own h.2.1, fun x hx => (h.2.2 x hx).1⟩
end


end Go.Proofs.YtaidkmnbjbnciaaGreatDoor
