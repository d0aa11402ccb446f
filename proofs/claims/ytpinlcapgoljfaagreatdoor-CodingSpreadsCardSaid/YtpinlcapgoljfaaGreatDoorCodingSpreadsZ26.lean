/- Texts of the proof of CodingSpreads, put together: LayG, DecB, GenA, GenB, GenC, GenD, ItId. -/
import Derived.Test.YtpinlcapgoljfaaGreatDoorCodingSpreadsZ7
import Derived.Test.YtpinlcapgoljfaaGreatDoorCodingSpreadsZ10
import Derived.Test.YtpinlcapgoljfaaGreatDoorCodingSpreadsZ11
import Derived.Test.YtpinlcapgoljfaaGreatDoorCodingSpreadsZ14
import Derived.Test.YtpinlcapgoljfaaGreatDoorCodingSpreadsZ23
import Derived.Test.YtpinlcapgoljfaaGreatDoorCodingSpreadsZ24
import Derived.Deep.AppendLies
import Derived.Deep.DeepCutAuto
import Derived.Deep.CutBlock
set_option linter.unusedVariables false
set_option linter.unusedSimpArgs false
/- The rules that values break: program and reference. -/
namespace Go.Proofs.YtpinlcapgoljfaaGreatDoor
open Go.RowKit

end Go.Proofs.YtpinlcapgoljfaaGreatDoor

/- One decision's errors: decisionError of the program. -/
namespace Go.Proofs.YtpinlcapgoljfaaGreatDoor
open Go.RowKit

end Go.Proofs.YtpinlcapgoljfaaGreatDoor

/- The generators of layouts: what they hold. -/
namespace Go.Proofs.YtpinlcapgoljfaaGreatDoor
open Go.RowKit

def AskT (W : World) (b : Nat) (al : List AskR) : Prop := ∀ x ∈ al, Sl W 9 1 (.slice x.A x.ch.length x.c) (strsV x.ch) ∧ ∀ g, (Value.slice x.A x.ch.length x.c).ownBlock = some g → g ≠ b
/-- A layout under way in block gl: u stands in its second field, vr is the row of its rules. -/
def LgQ (W : World) (b bw gl : Nat) (va u vr : Value) (al : List AskR) (rs : List RulR) : Prop :=
 b < bw ∧ bw ≤ gl ∧ gl < W.heap.size ∧ Blk W gl 63 #[va, u] ∧ W.ownsRow bw 113 4 va al.length (askV al) ∧ AskT W b al ∧ W.ownsRow bw 115 5 vr rs.length (rulV rs)
section
variable {W W' : World} {b bw gl n5 : Nat} {va va5 u vr v5 : Value} {al al5 : List AskR} {rs rs5 : List RulR}
theorem AskT.ask (h : AskT W b al) (hm : Mod (· = b) W W') : AskT W' b al := fun x hx => ⟨(h x hx).1.mod_ob hm (fun g hg => (h x hx).2 g hg), (h x hx).2⟩
theorem AskT.ty {S : Nat → Prop} (h : AskT W b al) (hm : Mod S W W') (hs : ∀ g arr fr, W.heap[g]? = some (.cells arr 9 fr) → ¬ S g) : AskT W' b al := fun x hx => ⟨(h x hx).1.mod hm hs, (h x hx).2⟩
theorem blk_ty {g k : Nat} {t t' : TypeId} {cs arr : Array Value} {fr : Nat × Nat} (h : Blk W g t cs) (hk : W.heap[k]? = some (.cells arr t' fr)) (hne : t ≠ t') : ¬ k = g := fun e => by
 subst e;unfold Blk at h;rw [h] at hk
 injection hk with hk
 injection hk with _ h2 _
 exact hne h2
theorem LgQ.ask (h : LgQ W b bw gl va u vr al rs) (hm : Mod (· = b) W W') : LgQ W' b bw gl va u vr al rs := by
 obtain ⟨h1, h2, h3, hB, ho, ht, hr⟩ := h;exact ⟨h1, h2, Nat.lt_of_lt_of_le h3 hm.size, hB.mod hm (by omega), own_mod ho hm (fun i hi => by have := own_block ho i hi; omega), ht.ask hm, own_mod hr hm (fun i hi => by have := own_block hr i hi; omega)⟩
theorem LgQ.rewR (h : LgQ W b bw gl va u vr al rs) (hm : Mod (fun k => vr.ownBlock = some k) W W') (ho5 : W'.ownsRow bw 115 5 v5 n5 (rulV rs5)) (hn : n5 = rs5.length) : LgQ W' b bw gl va u v5 al rs5 := by
 obtain ⟨h1, h2, h3, hB, ho, ht, hr⟩ := h;subst hn
 exact ⟨h1, h2, Nat.lt_of_lt_of_le h3 hm.size, hB.mod hm (fun hv => by
   have hB2 := hB;unfold Blk at hB2
   exact absurd (own_ty hr hv hB2) (by decide)), own_mod ho hm (fun i hi hv => by
   obtain ⟨arr, ha⟩ := own_heap ho hi
   exact absurd (own_ty hr hv ha) (by decide)), ht.ty hm (fun g arr fr hg hv => absurd (own_ty hr hv hg) (by decide)), ho5⟩
theorem LgQ.storeR (h : LgQ W b bw gl va u vr al rs) : LgQ (W.setCell ⟨gl, 1, none⟩ vr) b bw gl va vr vr al rs := by
 obtain ⟨h1, h2, h3, hB, ho, ht, hr⟩ := h;have hm : Mod (· = gl) W (W.setCell ⟨gl, 1, none⟩ vr) := (Mod.refl (· = gl) W).setCell (.inl rfl) _
 exact ⟨h1, h2, by simpa using h3, by have h5 := hB.set 1 vr; simpa using h5, own_mod ho hm (fun i hi => by
   obtain ⟨arr, ha⟩ := own_heap ho hi
   exact blk_ty hB ha (by decide)), ht.ty hm (fun g arr fr hg => blk_ty hB hg (by decide)), own_mod hr hm (fun i hi => by
   obtain ⟨arr, ha⟩ := own_heap hr hi
   exact blk_ty hB ha (by decide))⟩
theorem LgQ.storeA (h : LgQ W b bw gl va u vr al rs) (ho5 : W.ownsRow bw 113 4 va5 al5.length (askV al5)) (hs : ∀ x ∈ al5, x ∈ al) : LgQ (W.setCell ⟨gl, 0, none⟩ va5) b bw gl va5 u vr al5 rs := by
 obtain ⟨h1, h2, h3, hB, ho, ht, hr⟩ := h;have hm : Mod (· = gl) W (W.setCell ⟨gl, 0, none⟩ va5) := (Mod.refl (· = gl) W).setCell (.inl rfl) _
 exact ⟨h1, h2, by simpa using h3, by have h5 := hB.set 0 va5; simpa using h5, own_mod ho5 hm (fun i hi => by
   obtain ⟨arr, ha⟩ := own_heap ho5 hi
   exact blk_ty hB ha (by decide)), AskT.ty (fun x hx => ht x (hs x hx)) hm (fun g arr fr hg => blk_ty hB hg (by decide)), own_mod hr hm (fun i hi => by
   obtain ⟨arr, ha⟩ := own_heap hr hi
   exact blk_ty hB ha (by decide))⟩
theorem own_shrinkA {g cap n m : Nat} {xs : List AskR} (h : W.ownsRow bw 113 4 (.slice (some ⟨g, 0, none⟩) n cap) n (askV xs)) (hm : m ≤ n) : W.ownsRow bw 113 4 (.slice (some ⟨g, 0, none⟩) m cap) m (askV (xs.take m)) := by
 have hl := h.1;rw [askV_len] at hl
 rcases h.2 with ⟨h0, _⟩ | ⟨g', cap', cur, hv, hbase, hb, h1, h2, h3, h4⟩
 ·cases h0
 ·cases hv
  refine ⟨by rw [askV_len, List.length_take]; omega, .inr ⟨g, cap, cur, rfl, hbase, hb, by omega, h2, h3, ?_⟩⟩;rw [askV_take, ← h4, List.take_take]
  congr 1
  omega
theorem own_ofBlk {g n size : Nat} {t : TypeId} {xs : List Value} (h : Blk W g t xs.toArray) (hb : bw ≤ g) (hn : xs.length = n * size) (hn2 : n ≤ 1000) : W.ownsRow bw t size (.slice (some ⟨g, 0, none⟩) n n) n xs :=
 ⟨hn, .inr ⟨g, n, xs.toArray, rfl, hb, h, Nat.le_refl _, by simp [maxLen]; omega, by simpa using hn, by rw [List.take_of_length_le (by simpa using Nat.le_of_eq hn)]⟩⟩
end
theorem blkSl {W : World} {g c : Nat} {ss : List Str} (h : Blk W g 9 (strsV ss).toArray) (h1 : ss.length ≤ c) (h2 : c ≤ 1000) : Sl W 9 1 (.slice (some ⟨g, 0, none⟩) ss.length c) (strsV ss) :=
 ⟨_, _, _, rfl, h1, by omega, by simp [strsV], fun _ => ⟨g, 0, rfl, h.row0⟩⟩
def al3 (g1 g2 g3 : Nat) (s1 s2 s3 : Int) : List AskR := [⟨[114, 101, 115, 112], some ⟨g1, 0, none⟩, 2, [[121, 101, 115], [110, 111]], false, s1⟩, ⟨[119, 104, 121], some ⟨g2, 0, none⟩, 3, [[100, 101, 97, 108], [104, 114], [116, 97, 120]], true, s2⟩, ⟨[104, 111, 116], some ⟨g3, 0, none⟩, 1, [[104, 111, 116]], false, s3⟩]
theorem al3_T {W : World} {b g1 g2 g3 : Nat} {s1 s2 s3 : Int} (h1 : Blk W g1 9 #[.string ⟨#[121, 101, 115]⟩, .string ⟨#[110, 111]⟩]) (h2 : Blk W g2 9 #[.string ⟨#[100, 101, 97, 108]⟩, .string ⟨#[104, 114]⟩, .string ⟨#[116, 97, 120]⟩]) (h3 : Blk W g3 9 #[.string ⟨#[104, 111, 116]⟩])
  (n1 : g1 ≠ b) (n2 : g2 ≠ b) (n3 : g3 ≠ b) : AskT W b (al3 g1 g2 g3 s1 s2 s3) := by
 intro x hx;simp only [al3, List.mem_cons, List.not_mem_nil, or_false] at hx
 rcases hx with rfl | rfl | rfl
 ·exact ⟨blkSl (ss := [[121, 101, 115], [110, 111]]) h1 (by simp) (by simp), fun g hg => by injection hg with hg; subst hg; exact n1⟩
 ·exact ⟨blkSl (ss := [[100, 101, 97, 108], [104, 114], [116, 97, 120]]) h2 (by simp) (by simp), fun g hg => by injection hg with hg; subst hg; exact n2⟩
 ·exact ⟨blkSl (ss := [[104, 111, 116]]) h3 (by simp) (by simp), fun g hg => by injection hg with hg; subst hg; exact n3⟩
theorem al3_B {g1 g2 g3 : Nat} {s1 s2 s3 : Int} (h1 : 0 ≤ s1 ∧ s1 ≤ 2) (h2 : 0 ≤ s2 ∧ s2 ≤ 2) (h3 : 0 ≤ s3 ∧ s3 ≤ 2) : ∀ x ∈ al3 g1 g2 g3 s1 s2 s3, AskG x := by
 intro x hx;simp only [al3, List.mem_cons, List.not_mem_nil, or_false] at hx
 rcases hx with rfl | rfl | rfl
 ·exact ⟨by simp, by simp, by intro s hs; simp at hs; (first | (rcases hs with rfl | rfl | rfl <;> simp) | (rcases hs with rfl | rfl <;> simp) | (subst hs; simp)), by show _ ≤ s1; omega, by show s1 ≤ _; omega, by simp⟩
 ·exact ⟨by simp, by simp, by intro s hs; simp at hs; (first | (rcases hs with rfl | rfl | rfl <;> simp) | (rcases hs with rfl | rfl <;> simp) | (subst hs; simp)), by show _ ≤ s2; omega, by show s2 ≤ _; omega, by simp⟩
 ·exact ⟨by simp, by simp, by intro s hs; simp at hs; (first | (rcases hs with rfl | rfl | rfl <;> simp) | (rcases hs with rfl | rfl <;> simp) | (subst hs; simp)), by show _ ≤ s3; omega, by show s3 ≤ _; omega, by simp⟩
/-- What RightLayout gives. -/
def RlPost (w : World) (b N : Nat) (e : Ending) (w' : World) : Prop :=
 ∃ (A : Option Addr) (c : Nat) (A2 : Option Addr) (c2 : Nat) (al : List AskR) (rs : List RulR), e = .returned (.agg #[.slice A al.length c, .slice A2 rs.length c2]) ∧ w'.ownsRow w.heap.size 113 4 (.slice A al.length c) al.length (askV al) ∧ AskT w' b al ∧
  w'.ownsRow w.heap.size 115 5 (.slice A2 rs.length c2) rs.length (rulV rs) ∧ 2 ≤ al.length ∧ al.length ≤ 3 ∧ rs.length ≤ 2 ∧ (∀ x ∈ al, AskG x) ∧ (∀ r ∈ rs, RulG r) ∧ Strm w' b (N + 30) ∧ Mod (· = b) w w'
theorem info_rul : (Tryz.prog.info? 115).map (fun i => (i.zero, i.size, i.bytes)) = some (some (.agg #[.int .i64 0, .string ⟨#[]⟩, .string ⟨#[]⟩, .string ⟨#[]⟩, .string ⟨#[]⟩]), 5, 72) := by kernel_rfl

end Go.Proofs.YtpinlcapgoljfaaGreatDoor

/- The generator of right layouts. -/
namespace Go.Proofs.YtpinlcapgoljfaaGreatDoor
open Go.RowKit

def SmPost (w : World) (b N M : Nat) (e : Ending) (w' : World) : Prop := ∃ s : Str, s.length ≤ M ∧ e = .returned (.string ⟨s.toArray⟩) ∧ Strm w' b N ∧ Mod (· = b) w w'
theorem somec_calls (w : World) (b N g c n : Nat) (ss : List Str) (M : Nat) (hn : n = ss.length) (hM : ∀ s ∈ ss, s.length ≤ M) (hS : Strm w b N) (hN : N ≤ 1000000000) (hx : Blk w g 9 (strsV ss).toArray) (hgb : g ≠ b) (h0 : 0 < ss.length) (hl : ss.length ≤ 1000) :
  Calls Tryz.prog 38 #[.pointer (some ⟨b, 0, none⟩), .slice (some ⟨g, 0, none⟩) n c] w (SmPost w b (N + 1) M) := by
 subst hn;refine (some_calls w b N g c ss hS hN hx hgb h0 hl).mono ?_;rintro e w' ⟨s, hs, rfl, h1, h2⟩;exact ⟨s, hM s hs, rfl, h1, h2⟩
def RlRel (w : World) (b N gl gr m : Nat) (va : Value) (al : List AskR) (gk : Nat) (i : Value) (wr : World) : Prop :=
 ∃ (k c2 : Nat) (A2 : Option Addr) (rs : List RulR), m - k = gk ∧ k ≤ m ∧ i = .int .i64 (k : Int) ∧ rs.length = k ∧ (∀ r ∈ rs, RulG r) ∧ LgQ wr b gr gl va (.slice A2 k c2) (.slice A2 k c2) al rs ∧ Blk wr gr 63 #[.slice none 0 0, .slice none 0 0] ∧ Strm wr b (N + 5 + 8 * k) ∧ Mod (· = b) w wr
def RlCut (w : World) (b N gl gr g4 : Nat) (va vr : Value) (al : List AskR) (rs : List RulR) (wx : World) : Prop :=
 ∃ r : RulR, RulG r ∧ Blk wx g4 115 #[.int .i64 r.kind, .string ⟨r.field.toArray⟩, .string ⟨r.ifs.toArray⟩, .string ⟨r.other.toArray⟩, .string ⟨r.thn.toArray⟩] ∧ LgQ wx b gr gl va vr vr al rs ∧ Blk wx gr 63 #[.slice none 0 0, .slice none 0 0] ∧ Strm wx b N ∧ Mod (· = b) w wx
/-- Stores into a block of rules of the call's own that is none of the rows. -/
theorem LgQ.far {W W' : World} {b bw gl g : Nat} {va u vr : Value} {al : List AskR} {rs : List RulR} {cs : Array Value} (h : LgQ W b bw gl va u vr al rs) (hm : Mod (· = g) W W') (h1 : gl ≠ g) (h2 : ∀ i, va.ownBlock = some i → i ≠ g) (h3 : ∀ i, vr.ownBlock = some i → i ≠ g) (hX : Blk W g 115 cs) : LgQ W' b bw gl va u vr al rs := by
 obtain ⟨q1, q2, q3, hB, ho, ht, hr⟩ := h;exact ⟨q1, q2, Nat.lt_of_lt_of_le q3 hm.size, hB.mod hm h1, own_mod ho hm (fun i hi => h2 i hi), ht.ty hm (fun k arr fr hk => blk_ty hX hk (by decide)), own_mod hr hm (fun i hi => h3 i hi)⟩
set_option maxRecDepth 100000 in
set_option maxHeartbeats 16000000 in
theorem rightLayout_calls (w : World) (b N : Nat) (hS : Strm w b N) (hN : N ≤ 600000000) : Calls Tryz.prog 62 #[.pointer (some ⟨b, 0, none⟩)] w (RlPost w b N) := by
 have hbl := hS.lt
 go_enter Tryz.func62, Tryz.ntmps62
 go_wp2_with fail
 refine (range_calls _ b _ _ _ ((hS.alloc _).alloc _) (by omega) (by omega) (by omega) (by omega)).mono ?_;rintro e w1 ⟨s1, h1a, h1b, rfl, hS1, hM1⟩;have HA1 := Lib.hid (((((Mod.refl (· = b) w).alloc (.cells #[.slice none 0 0, .slice none 0 0] 63)).alloc (.cells #[.string ⟨#[121, 101, 115]⟩, .string ⟨#[110, 111]⟩] 9))).trans hM1);have HG1 := Lib.hid (((Blk.new w 63 #[.slice none 0 0, .slice none 0 0]).alloc (.cells #[.string ⟨#[121, 101, 115]⟩, .string ⟨#[110, 111]⟩] 9)).mod hM1 (by omega));have HX1 := Lib.hid ((Blk.snd w (.cells #[.slice none 0 0, .slice none 0 0] 63) 9 #[.string ⟨#[121, 101, 115]⟩, .string ⟨#[110, 111]⟩]).mod hM1 (by omega));have hz1 := hM1.size;simp only [World.size_alloc] at hz1;clear hS hM1
 go_wp2_with fail
 refine (range_calls _ b _ _ _ (hS1.alloc _) (by omega) (by omega) (by omega) (by omega)).mono ?_;rintro e w2 ⟨s2, h2a, h2b, rfl, hS2, hM2⟩;have HA2 := Lib.hid ((HA1.out.alloc (.cells #[.string ⟨#[100, 101, 97, 108]⟩, .string ⟨#[104, 114]⟩, .string ⟨#[116, 97, 120]⟩] 9)).trans hM2);have HG2 := Lib.hid ((HG1.out.alloc (.cells #[.string ⟨#[100, 101, 97, 108]⟩, .string ⟨#[104, 114]⟩, .string ⟨#[116, 97, 120]⟩] 9)).mod hM2 (by omega));have HX2 := Lib.hid ((HX1.out.alloc (.cells #[.string ⟨#[100, 101, 97, 108]⟩, .string ⟨#[104, 114]⟩, .string ⟨#[116, 97, 120]⟩] 9)).mod hM2 (by omega));have HY2 := Lib.hid ((Blk.new w1 9 #[.string ⟨#[100, 101, 97, 108]⟩, .string ⟨#[104, 114]⟩, .string ⟨#[116, 97, 120]⟩]).mod hM2 (by omega));have hz2 := hM2.size;simp only [World.size_alloc] at hz2;clear hS1 hM2 HA1 HG1 HX1
 go_wp2_with fail
 refine (range_calls _ b _ _ _ (hS2.alloc _) (by omega) (by omega) (by omega) (by omega)).mono ?_;rintro e w3 ⟨s3, h3a, h3b, rfl, hS3, hM3⟩;have HA3 := Lib.hid ((HA2.out.alloc (.cells #[.string ⟨#[104, 111, 116]⟩] 9)).trans hM3);have HG3 := Lib.hid ((HG2.out.alloc (.cells #[.string ⟨#[104, 111, 116]⟩] 9)).mod hM3 (by omega));have HX3 := Lib.hid ((HX2.out.alloc (.cells #[.string ⟨#[104, 111, 116]⟩] 9)).mod hM3 (by omega));have HY3 := Lib.hid ((HY2.out.alloc (.cells #[.string ⟨#[104, 111, 116]⟩] 9)).mod hM3 (by omega));have HZ3 := Lib.hid ((Blk.new w2 9 #[.string ⟨#[104, 111, 116]⟩]).mod hM3 (by omega));have hz3 := hM3.size;simp only [World.size_alloc] at hz3;clear hS2 hM3 HA2 HG2 HX2 HY2;have hBA := (Blk.new w3 113 (askV (al3 (w.heap.size + 1) w1.heap.size w2.heap.size s1 s2 s3)).toArray).alloc (.cells #[.slice (some ⟨w3.heap.size, 0, none⟩) 3 3, .slice none 0 0] 63);have hBL := Blk.snd w3 (.cells (askV (al3 (w.heap.size + 1) w1.heap.size w2.heap.size s1 s2 s3)).toArray 113) 63 #[.slice (some ⟨w3.heap.size, 0, none⟩) 3 3, .slice none 0 0]
 have hQ : LgQ ((w3.alloc (.cells (askV (al3 (w.heap.size + 1) w1.heap.size w2.heap.size s1 s2 s3)).toArray 113)).alloc (.cells #[.slice (some ⟨w3.heap.size, 0, none⟩) 3 3, .slice none 0 0] 63)) b w.heap.size (w3.heap.size + 1) (.slice (some ⟨w3.heap.size, 0, none⟩) 3 3) (.slice none 0 0) (.slice none 0 0) (al3 (w.heap.size + 1) w1.heap.size w2.heap.size s1 s2 s3) [] :=
  ⟨hbl, by omega, by simp, hBL, own_ofBlk hBA (by omega) rfl (by omega), al3_T ((HX3.out.alloc _).alloc _) ((HY3.out.alloc _).alloc _) ((HZ3.out.alloc _).alloc _) (by omega) (by omega) (by omega), ⟨rfl, .inl ⟨rfl, rfl⟩⟩⟩
 have HQ := Lib.hid hQ;have HGR := Lib.hid ((HG3.out.alloc (.cells (askV (al3 (w.heap.size + 1) w1.heap.size w2.heap.size s1 s2 s3)).toArray 113)).alloc (.cells #[.slice (some ⟨w3.heap.size, 0, none⟩) 3 3, .slice none 0 0] 63));have HAB := Lib.hid (al3_B (g1 := w.heap.size + 1) (g2 := w1.heap.size) (g3 := w2.heap.size) ⟨h1a, h1b⟩ ⟨h2a, h2b⟩ ⟨h3a, h3b⟩);have HS4 := Lib.hid ((hS3.alloc (.cells (askV (al3 (w.heap.size + 1) w1.heap.size w2.heap.size s1 s2 s3)).toArray 113)).alloc (.cells #[.slice (some ⟨w3.heap.size, 0, none⟩) 3 3, .slice none 0 0] 63));have HM4 := Lib.hid ((HA3.out.alloc (.cells (askV (al3 (w.heap.size + 1) w1.heap.size w2.heap.size s1 s2 s3)).toArray 113)).alloc (.cells #[.slice (some ⟨w3.heap.size, 0, none⟩) 3 3, .slice none 0 0] 63));simp only [show (askV (al3 (w.heap.size + 1) w1.heap.size w2.heap.size s1 s2 s3)).toArray = #[.string ⟨#[114, 101, 115, 112]⟩, .slice (some ⟨w.heap.size + 1, 0, none⟩) 2 2, .bool false, .int .i64 s1, .string ⟨#[119, 104, 121]⟩, .slice (some ⟨w1.heap.size, 0, none⟩) 3 3, .bool true, .int .i64 s2, .string ⟨#[104, 111, 116]⟩, .slice (some ⟨w2.heap.size, 0, none⟩) 1 1, .bool false, .int .i64 s3] from rfl] at HQ HGR HS4 HM4;clear hQ hBA hBL HX3 HY3 HZ3 HG3 HA3 hS3 h1a h1b h2a h2b h3a h3b
 go_upto_region 2 with (fail)
 generalize ((w3.alloc (.cells #[.string ⟨#[114, 101, 115, 112]⟩, .slice (some ⟨w.heap.size + 1, 0, none⟩) 2 2, .bool false, .int .i64 s1, .string ⟨#[119, 104, 121]⟩, .slice (some ⟨w1.heap.size, 0, none⟩) 3 3, .bool true, .int .i64 s2, .string ⟨#[104, 111, 116]⟩, .slice (some ⟨w2.heap.size, 0, none⟩) 1 1, .bool false, .int .i64 s3] 113)).alloc (.cells #[.slice (some ⟨w3.heap.size, 0, none⟩) 3 3, .slice none 0 0] 63)) = W4 at *;obtain ⟨al, hal⟩ : ∃ al, al3 (w.heap.size + 1) w1.heap.size w2.heap.size s1 s2 s3 = al := ⟨_, rfl⟩
 have hall : al.length = 3 := by rw [← hal]; rfl
 rw [hal] at HQ HAB;clear hal;generalize hgl : w3.heap.size + 1 = gl at *;generalize w3.heap.size = ga at *;generalize hgr : w.heap.size = gr at *;have hS4 := HS4.out;have hm4 := HM4.out
 have hgl1 : gr < gl := by omega
 have hwgr : w.heap.size ≤ gr := by omega
 have hbl4 := hS4.lt;have hglw : gl < W4.heap.size := HQ.out.2.2.1
 have hwg : w.heap.size ≤ W4.heap.size := by omega
 clear HS4 HM4 hgl hgr hz1 hz2 hz3;have HGs := Lib.hid (show ∀ (D : Nat → Bool) (zzi : Nat) (zq zq' : World), zzi ≠ 7 → (fun D zq => (D 7 = false → (fun Z => LgQ Z b gr gl (.slice (some ⟨ga, 0, none⟩) 3 3) (.slice none 0 0) (.slice none 0 0) al []) zq) ∧ (fun Z => Blk Z gr 63 #[.slice none 0 0, .slice none 0 0]) zq) D zq → Mod (· = b) zq zq' → (fun D zq => (D 7 = false → (fun Z => LgQ Z b gr gl (.slice (some ⟨ga, 0, none⟩) 3 3) (.slice none 0 0) (.slice none 0 0) al []) zq) ∧ (fun Z => Blk Z gr 63 #[.slice none 0 0, .slice none 0 0]) zq) (upd D zzi true) zq' from by intro D zzi zq zq' hi hh hm; refine ⟨fun hs => ?_, ?_⟩; (rw [upd_ne _ _ (Ne.symm hi)] at hs; have h := hh.1 hs; (exact h.ask hm)); (have h := hh.2; (exact h.modb hm (by omega))))
 refine wp_region_inv (by kernel_rfl) (by kernel_rfl) (InvF (R := Mod (· = b)) [.is (.pointer (some ⟨gl, 0, none⟩)),
   .is (.slice (some ⟨ga, 0, none⟩) 3 3),
   .is (.pointer (some ⟨b, 0, none⟩)),
   ⟨fun zv zw => ∃ (g_3 : Nat), zv = .slice (some ⟨g_3, 0, none⟩) 3 3 ∧ W4.heap.size ≤ g_3 ∧ Blk zw g_3 3 #[(.int .i64 2), (.int .i64 3), (.int .i64 3)], (by rintro zv zw zx ⟨g_3, rfl, c0, q0⟩ hm; exact ⟨g_3, rfl, c0, (q0.modb hm (by omega))⟩), none, some 4⟩,
   .val (fun zv => ∃ (q_4 : Nat), zv = .int .i64 (q_4 : Int) ∧ 2 ≤ q_4 ∧ q_4 ≤ 3),
   .val (fun zv => ∃ (q_5 : Nat), zv = .slice (some ⟨ga, 0, none⟩) q_5 3 ∧ 2 ≤ q_5 ∧ q_5 ≤ 3),
   .is (.pointer (some ⟨gl, 0, none⟩)),
   ⟨fun zv zw => ∃ (q_7 : Nat), zv = undef ∧ 2 ≤ q_7 ∧ q_7 ≤ 3 ∧ LgQ zw b gr gl (.slice (some ⟨ga, 0, none⟩) q_7 3) (.slice none 0 0) (.slice none 0 0) (al.take q_7) [], (by rintro zv zw zx ⟨q_7, rfl, c0, c1, q0⟩ hm; exact ⟨q_7, rfl, c0, c1, (q0.ask hm)⟩), none, none⟩]
   (GB w (· = b) W4.heap.size b ((N + 1 + 1 + 1)) (fun D => (D 4).toNat) (fun D zq => (D 7 = false → (fun Z => LgQ Z b gr gl (.slice (some ⟨ga, 0, none⟩) 3 3) (.slice none 0 0) (.slice none 0 0) al []) zq) ∧ (fun Z => Blk Z gr 63 #[.slice none 0 0, .slice none 0 0]) zq))) (InvF.start (GB.start hS4 hm4 (Nat.le_refl _) (⟨fun _ => HQ.out.ask ((Mod.refl _ _).drew), HGR.out.drew⟩))) ?_ ?_
 ·refine .cons ?_ (.cons ?_ (.cons ?_ (.cons ?_ (.cons ?_ (.cons ?_ (.cons ?_ (.cons ?_ .nil)))))))
  ·intro D V zw1 a hR hI K hK;obtain ⟨hS1, hM1, hB1, hG1⟩ := hI.1;obtain ⟨hGK, hG1⟩ := hG1;have ze3 := hR.frame.other (t := 3) (by kernel_rfl) rfl;rw [if_pos (by rfl)];go_simp;exact hK (.pointer (some ⟨gl, 0, none⟩)) _ (hI.next hR (by kernel_rfl) (Mod.refl _ _) (GB.quiet hI.1 (Mod.refl _ _) (by have hn := hR.not; simp [upd, hn] <;> omega) (HGs.out D 0 zw1 zw1 (by omega) (hI.1).g (Mod.refl _ _))) (upd_same V 0 _))
  ·intro D V zw1 a hR hI K hK;obtain ⟨hS1, hM1, hB1, hG1⟩ := hI.1;obtain ⟨hGK, hG1⟩ := hG1;have zd0 := hR.pred 0 (by kernel_rfl);have zf0 : V 0 = .pointer (some ⟨gl, 0, none⟩) := hI.2 0 zd0 rfl;have ze19 := hR.frame.done (t := 19) (j := 0) (by kernel_rfl) hR.ok zd0;have zB := (hGK (hR.later 7 rfl (by kernel_rfl))).2.2.2.1;have zx0 := zB.cell 0;simp at zx0;rw [if_pos (by rfl)];go_simp;exact hK (.slice (some ⟨ga, 0, none⟩) 3 3) _ (hI.next hR (by kernel_rfl) (Mod.refl _ _) (GB.quiet hI.1 (Mod.refl _ _) (by have hn := hR.not; simp [upd, hn] <;> omega) (HGs.out D 1 zw1 zw1 (by omega) (hI.1).g (Mod.refl _ _))) (upd_same V 1 _))
  ·intro D V zw1 a hR hI K hK;obtain ⟨hS1, hM1, hB1, hG1⟩ := hI.1;obtain ⟨hGK, hG1⟩ := hG1;have ze0 := hR.frame.other (t := 0) (by kernel_rfl) rfl;rw [if_pos (by rfl)];go_simp;exact hK (.pointer (some ⟨b, 0, none⟩)) _ (hI.next hR (by kernel_rfl) (Mod.refl _ _) (GB.quiet hI.1 (Mod.refl _ _) (by have hn := hR.not; simp [upd, hn] <;> omega) (HGs.out D 2 zw1 zw1 (by omega) (hI.1).g (Mod.refl _ _))) (upd_same V 2 _))
  ·intro D V zw1 a hR hI K hK;obtain ⟨hS1, hM1, hB1, hG1⟩ := hI.1;obtain ⟨hGK, hG1⟩ := hG1;rw [if_pos (by rfl)];go_simp;exact hK (_) _ (hI.next hR (by kernel_rfl) ((Mod.refl _ _).alloc _) (GB.quiet hI.1 (pure_alloc _ _) (by have hn := hR.not; simp [upd, hn] <;> omega) (HGs.out D 3 _ _ (by omega) (hI.1).g ((Mod.refl _ _).alloc _))) (⟨_, upd_same V 3 _, (by omega), (Blk.new _ _ _)⟩))
  ·intro D V zw1 a hR hI K hK;obtain ⟨hS1, hM1, hB1, hG1⟩ := hI.1;obtain ⟨hGK, hG1⟩ := hG1;have zd2 := hR.pred 2 (by kernel_rfl);have zf2 : V 2 = .pointer (some ⟨b, 0, none⟩) := hI.2 2 zd2 rfl;have zd3 := hR.pred 3 (by kernel_rfl);have zF3 : ∃ (g_3 : Nat), V 3 = .slice (some ⟨g_3, 0, none⟩) 3 3 ∧ W4.heap.size ≤ g_3 ∧ Blk zw1 g_3 3 #[(.int .i64 2), (.int .i64 3), (.int .i64 3)] := hI.2 3 zd3 (by show (!D 4) = true; rw [hR.not]; rfl);obtain ⟨g_3, zf3, c3_0, b3_0⟩ := zF3;have ze21 := hR.frame.done (t := 21) (j := 2) (by kernel_rfl) hR.ok zd2;have ze22 := hR.frame.done (t := 22) (j := 3) (by kernel_rfl) hR.ok zd3;rw [if_pos (by rfl)];have := Bool.toNat_le (D 4)
   have hNB : (N + 1 + 1 + 1) + ((D 4).toNat) ≤ 1000000000 := by omega
   skip
   go_simp;refine (pickv_calls _ _ _ _ 3 3 #[.int .i64 2, .int .i64 3, .int .i64 3] hS1 b3_0 hNB (by omega) rfl (by omega) (by omega) rfl).mono ?_;rintro e zw2 ⟨k_0, hk, rfl, hS2, hm2⟩
   have hk2 : 2 ≤ k_0 ∧ k_0 ≤ 3 := by simp [intsOf, Go.RowKit.intOf] at hk; omega
   obtain ⟨q_0, rfl⟩ := Int.eq_ofNat_of_zero_le (show 0 ≤ k_0 by omega);exact hK (.int .i64 (q_0 : Int)) _ (hI.next hR (by kernel_rfl) hm2 (GB.asks hI.1 (fun _ h _ => h) hS2 hm2 (by have hn := hR.not; simp [upd, hn] <;> omega) (HGs.out D 4 _ _ (by omega) (hI.1).g hm2)) (⟨q_0, upd_same V 4 _, (by omega), (by omega)⟩))
  ·intro D V zw1 a hR hI K hK;obtain ⟨hS1, hM1, hB1, hG1⟩ := hI.1;obtain ⟨hGK, hG1⟩ := hG1;have zd1 := hR.pred 1 (by kernel_rfl);have zf1 : V 1 = .slice (some ⟨ga, 0, none⟩) 3 3 := hI.2 1 zd1 rfl;have zd4 := hR.pred 4 (by kernel_rfl);have zF4 : ∃ (q_4 : Nat), V 4 = .int .i64 (q_4 : Int) ∧ 2 ≤ q_4 ∧ q_4 ≤ 3 := hI.2 4 zd4 rfl;obtain ⟨q_4, zf4, c4_0, c4_1⟩ := zF4;have ze20 := hR.frame.done (t := 20) (j := 1) (by kernel_rfl) hR.ok zd1;have ze23 := hR.frame.done (t := 23) (j := 4) (by kernel_rfl) hR.ok zd4
   have zz : (q_4 : Int) ≤ 3 := by omega
   rw [if_pos (by rfl)];go_simp;exact hK (_) _ (hI.next hR (by kernel_rfl) (Mod.refl _ _) (GB.quiet hI.1 (Mod.refl _ _) (by have hn := hR.not; simp [upd, hn] <;> omega) (HGs.out D 5 zw1 zw1 (by omega) (hI.1).g (Mod.refl _ _))) (⟨q_4, upd_same V 5 _, c4_0, c4_1⟩))
  ·intro D V zw1 a hR hI K hK;obtain ⟨hS1, hM1, hB1, hG1⟩ := hI.1;obtain ⟨hGK, hG1⟩ := hG1;have ze3 := hR.frame.other (t := 3) (by kernel_rfl) rfl;rw [if_pos (by rfl)];go_simp;exact hK (.pointer (some ⟨gl, 0, none⟩)) _ (hI.next hR (by kernel_rfl) (Mod.refl _ _) (GB.quiet hI.1 (Mod.refl _ _) (by have hn := hR.not; simp [upd, hn] <;> omega) (HGs.out D 6 zw1 zw1 (by omega) (hI.1).g (Mod.refl _ _))) (upd_same V 6 _))
  ·intro D V zw1 a hR hI K hK;obtain ⟨hS1, hM1, hB1, hG1⟩ := hI.1;obtain ⟨hGK, hG1⟩ := hG1;have zd6 := hR.pred 6 (by kernel_rfl);have zf6 : V 6 = .pointer (some ⟨gl, 0, none⟩) := hI.2 6 zd6 rfl;have zd5 := hR.pred 5 (by kernel_rfl);have zF5 : ∃ (q_5 : Nat), V 5 = .slice (some ⟨ga, 0, none⟩) q_5 3 ∧ 2 ≤ q_5 ∧ q_5 ≤ 3 := hI.2 5 zd5 rfl;obtain ⟨q_5, zf5, c5_0, c5_1⟩ := zF5;have ze25 := hR.frame.done (t := 25) (j := 6) (by kernel_rfl) hR.ok zd6;have ze24 := hR.frame.done (t := 24) (j := 5) (by kernel_rfl) hR.ok zd5;rw [if_pos (by rfl)];have hQ := hGK hR.not;have zB := hQ.2.2.2.1;have zx0 := zB.cell 0; have zy0 := zB.frozen 0;simp at zx0;have hown := hQ.2.2.2.2.1;rw [hall] at hown;have hSt := hQ.storeA (va5 := .slice (some ⟨ga, 0, none⟩) q_5 3) (al5 := al.take q_5) (by rw [show (al.take q_5).length = q_5 by rw [List.length_take]; omega]; exact own_shrinkA hown c5_1) (fun x hx => List.mem_of_mem_take hx);go_simp;refine hK undef _ (InvF.last ⟨(hS1.setCell (by show b < gl; omega) _).more (by have hn := hR.not; simp [upd, hn] <;> omega), hM1.setCell (.inr (by show _ ≤ gl; omega)) _, (by simpa using hB1), ⟨fun hs => absurd hs (by rw [upd_same]; decide), hG1.far (by show gr ≠ gl; omega) _⟩⟩ ⟨q_5, upd_same _ 7 _, c5_0, c5_1, hSt⟩ ?_);intro k hk hDk hlv;have hkl := hR.lt k hDk;have hv := hI.2 k hDk (liveB_of hlv)
   match k, hk, hDk, hlv, hkl, hv with
   | 0, _, _, _, _, hv => exact hv
   | 1, _, _, _, _, hv => exact hv
   | 2, _, _, _, _, hv => exact hv
   | 3, _, _, hlv, _, _ => exact absurd hlv (by show ¬ (!upd D 7 true 4) = true; rw [upd_ne _ _ (by omega), hR.pred 4 (by kernel_rfl)]; decide)
   | 4, _, _, _, _, hv => exact hv
   | 5, _, _, _, _, hv => exact hv
   | 6, _, _, _, _, hv => exact hv
   | 7, hk, _, _, _, _ => exact absurd rfl hk
   | k + 8, _, _, _, hkl, _ => exact absurd hkl (by simp)
 ·intro D V w5 hD hI;obtain ⟨hS1, hM1, hB1, hG1⟩ := hI.1;have hSx : Strm w5 b ((N + 1 + 1 + 1) + 1) := hS1.more (by show _ ≤ _; have := Bool.toNat_le (D 4); omega);clear hS1;have hMx := hM1;clear hM1;have hBx := hB1;clear hB1;have hGx := hG1.2;clear hG1;have zf0 : V 0 = .pointer (some ⟨gl, 0, none⟩) := hI.2 0 (hD 0 (by decide)) rfl;have zf1 : V 1 = .slice (some ⟨ga, 0, none⟩) 3 3 := hI.2 1 (hD 1 (by decide)) rfl;have zf2 : V 2 = .pointer (some ⟨b, 0, none⟩) := hI.2 2 (hD 2 (by decide)) rfl;have zF4 : ∃ (q_4 : Nat), V 4 = .int .i64 (q_4 : Int) ∧ 2 ≤ q_4 ∧ q_4 ≤ 3 := hI.2 4 (hD 4 (by decide)) rfl;obtain ⟨q_4, zf4, c4_0, c4_1⟩ := zF4;have zF5 : ∃ (q_5 : Nat), V 5 = .slice (some ⟨ga, 0, none⟩) q_5 3 ∧ 2 ≤ q_5 ∧ q_5 ≤ 3 := hI.2 5 (hD 5 (by decide)) rfl;obtain ⟨q_5, zf5, c5_0, c5_1⟩ := zF5;have zf6 : V 6 = .pointer (some ⟨gl, 0, none⟩) := hI.2 6 (hD 6 (by decide)) rfl;have zF7 : ∃ (q_7 : Nat), V 7 = undef ∧ 2 ≤ q_7 ∧ q_7 ≤ 3 ∧ LgQ w5 b gr gl (.slice (some ⟨ga, 0, none⟩) q_7 3) (.slice none 0 0) (.slice none 0 0) (al.take q_7) [] := hI.2 7 (hD 7 (by decide)) rfl;obtain ⟨q_7, zf7, c7_0, c7_1, b7_0⟩ := zF7;clear hI hD HGs;simp only [frAll, Act.put, List.setIfInBounds_toArray, List.set_cons_zero, List.set_cons_succ, Nat.zero_add, Nat.reduceAdd, zf0, zf1, zf2, zf4, zf5, zf6, zf7];clear zf0 zf1 zf2 zf4 zf5 zf6 zf7;generalize V 3 = u3;clear V D;have HQ5 := Lib.hid b7_0;have HG5 := Lib.hid hGx;have hq2 := c7_0;have hq3 := c7_1;clear b7_0 hGx HQ HGR hS4 hm4 hBx c5_0 c5_1 c4_0 c4_1 c7_0 c7_1;have hbw5 := hSx.lt
  go_wp2_with fail
  refine (pickv_calls _ b _ w5.heap.size _ _ #[.int .i64 0, .int .i64 1, .int .i64 1, .int .i64 2] (hSx.alloc _) (Blk.new _ _ _) (by omega) (by omega) rfl (by decide) (by decide) rfl).mono ?_;rintro e w6 ⟨mI, hmem, rfl, hS6, hM6⟩
  have hm02 : 0 ≤ mI ∧ mI ≤ 2 := by
   have : mI = 0 ∨ mI = 1 ∨ mI = 1 ∨ mI = 2 := by simpa [intsOf, Go.RowKit.intOf] using hmem
   omega
  obtain ⟨m, rfl⟩ := Int.eq_ofNat_of_zero_le hm02.1
  have hm2 : m ≤ 2 := by omega
  have hA6 : Mod (· = b) w5 w6 := ((Mod.refl (· = b) w5).alloc _).trans hM6;have HQ6 := Lib.hid (HQ5.out.ask hA6);have HG6 := Lib.hid (HG5.out.mod hA6 (by omega));have HM6 := Lib.hid (hMx.trans hA6);clear hmem hm02 hM6 hA6 HQ5 HG5 hSx hMx;generalize hal2 : al.take q_7 = al2 at *
  have hl2 : 2 ≤ al2.length ∧ al2.length ≤ 3 := by rw [← hal2, List.length_take]; omega
  have hq7 : al2.length = q_7 := by rw [← hal2, List.length_take]; omega
  have HAB2 : Hid (∀ x ∈ al2, AskG x) := Lib.hid (fun x hx => HAB.out x (by rw [← hal2] at hx; exact List.mem_of_mem_take hx));have hwgr2 : w.heap.size ≤ gr := hwgr;clear hal2 HAB hall
  go_wp2_with fail
  go_loopg [29] m (fun gk i wr => RlRel w b N gl gr m (.slice (some ⟨ga, 0, none⟩) q_7 3) al2 gk i wr)
  case atStart => exact ⟨0, 0, none, [], rfl, by omega, rfl, rfl, fun r h => absurd h (by simp), HQ6.out, HG6.out, hS6.more (by omega), HM6.out⟩
  case round =>
   clear HQ6 HG6 hS6 HM6;obtain ⟨k, c2, A2, rs, rfl, hk, rfl, hrl, hrz, hQ, hG, hS, hm⟩ := hrel;have HRZ := Lib.hid hrz;have HRL := Lib.hid hrl;have hblw := hS.lt
   by_cases hlt : k < m
   ·have HQ7 := Lib.hid hQ;have HG7 := Lib.hid hG;have HM7 := Lib.hid hm;clear hQ hG hm hrz hrl
    go_wp2_with fail
    refine (pickv_calls _ b _ wr.heap.size _ _ #[.int .i64 1, .int .i64 1, .int .i64 2] (hS.alloc _) (Blk.new _ _ _) (by omega) (by omega) rfl (by decide) (by decide) rfl).mono ?_;rintro e w7 ⟨rk, hrk, rfl, hS7, hM7⟩
    have HRK : Hid (rk = 1 ∨ rk = 2) := Lib.hid (by
     have h : rk = 1 ∨ rk = 1 ∨ rk = 2 := by simpa [intsOf, Go.RowKit.intOf] using hrk
     omega)
    clear hrk;have hA7 : Mod (· = b) wr w7 := ((Mod.refl (· = b) wr).alloc _).trans hM7;have hbl7 := hS7.lt;clear hS hM7
    go_wp2_with fail
    refine (somec_calls _ b _ w7.heap.size _ _ [[121, 101, 115], [110, 111]] 4 rfl (by decide) (hS7.alloc _) (by omega) (Blk.new _ _ _) (by omega) (by decide) (by decide)).mono ?_;rintro e w8 ⟨si, hsi, rfl, hS8, hM8⟩;have hA8 : Mod (· = b) wr w8 := (hA7.alloc _).trans hM8;have hbl8 := hS8.lt;clear hS7 hM8 hA7
    go_wp2_with fail
    refine (somec_calls _ b _ w8.heap.size _ _ [[], [100, 101, 97, 108], [104, 114]] 4 rfl (by decide) (hS8.alloc _) (by omega) (Blk.new _ _ _) (by omega) (by decide) (by decide)).mono ?_;rintro e w9 ⟨st, hst, rfl, hS9, hM9⟩;have hA9 : Mod (· = b) wr w9 := (hA8.alloc _).trans hM9;have hbl9 := hS9.lt;have hz9 := hA9.size;clear hS8 hM9 hA8;have HX9 := Lib.hid (Blk.new w9 115 #[.int .i64 rk, .string ⟨#[114, 101, 115, 112]⟩, .string ⟨si.toArray⟩, .string ⟨#[119, 104, 121]⟩, .string ⟨st.toArray⟩]);have hA10 : Mod (· = b) wr (w9.alloc (.cells #[.int .i64 rk, .string ⟨#[114, 101, 115, 112]⟩, .string ⟨si.toArray⟩, .string ⟨#[119, 104, 121]⟩, .string ⟨st.toArray⟩] 115)) := hA9.alloc _;have HQ10 := Lib.hid (HQ7.out.ask hA10);have HG10 := Lib.hid (HG7.out.mod hA10 (by omega));have HM10 := Lib.hid (HM7.out.trans hA10);have HOA : Hid (∀ i, (Value.slice (some ⟨ga, 0, none⟩) q_7 3).ownBlock = some i → i ≠ w9.heap.size) := Lib.hid (fun i hi => by have := (HQ7.out.2.2.2.2.1.lt i hi).2; omega);have HOR : Hid (∀ i, (Value.slice A2 k c2).ownBlock = some i → i ≠ w9.heap.size) := Lib.hid (fun i hi => by have := (HQ7.out.2.2.2.2.2.2.lt i hi).2; omega)
    have hgl9 : gl ≠ w9.heap.size := by have := HQ7.out.2.2.1; omega
    have hgr9 : gr ≠ w9.heap.size := by have := HG7.out.lt; omega
    go_wp2_with fail
    refine (flip_calls _ b _ _ (hS9.alloc _) (by omega) (by omega) (by omega)).mono ?_;rintro e w11 ⟨fl, rfl, hS11, hM11⟩;have HX11 := Lib.hid (HX9.out.mod hM11 (by omega));have HQ11 := Lib.hid (HQ10.out.ask hM11);have HG11 := Lib.hid (HG10.out.mod hM11 (by omega));have HM11 := Lib.hid (HM10.out.trans hM11);have hbl11 := hS11.lt
    have hwb : w.heap.size ≤ w9.heap.size := by have := HM7.out.size; omega
    have hb9 : b < w9.heap.size := hbl9;clear HQ7 HG7 HM7 HX9 HQ10 HG10 HM10 hA9 hA10 hS9 hM11;generalize w9.heap.size = g4 at *
    go_upto_if 42 with (fail)
    go_cut [] (fun wx => RlCut w b (N + 5 + 8 * k + 7) gl gr g4 (.slice (some ⟨ga, 0, none⟩) q_7 3) (.slice A2 k c2) al2 rs wx)
    case first =>
     cases fl
     ·go_wp2_with fail
      go_meet;exact ⟨⟨rk, [114, 101, 115, 112], si, [119, 104, 121], st⟩, ⟨HRK.out, by simp, by simp only; omega, by simp, by simp only; omega⟩, HX11.out, HQ11.out, HG11.out, hS11.more (by omega), HM11.out⟩
     ·go_wp2_with fail
      refine (somec_calls _ b _ w11.heap.size _ _ [[100, 101, 97, 108], [116, 97, 120]] 4 rfl (by decide) (hS11.alloc _) (by omega) (Blk.new _ _ _) (by omega) (by decide) (by decide)).mono ?_;rintro e w12 ⟨sj, hsj, rfl, hS12, hM12⟩;have hA12 : Mod (· = b) w11 w12 := ((Mod.refl (· = b) w11).alloc _).trans hM12;have hbl12 := hS12.lt;clear hM12 hS11
      go_wp2_with fail
      refine (somec_calls _ b _ w12.heap.size _ _ [[], [110, 111]] 4 rfl (by decide) (hS12.alloc _) (by omega) (Blk.new _ _ _) (by omega) (by decide) (by decide)).mono ?_;rintro e w13 ⟨su, hsu, rfl, hS13, hM13⟩;have hA13 : Mod (· = b) w11 w13 := (hA12.alloc _).trans hM13;have HX13 := Lib.hid (HX11.out.mod hA13 (by omega));have HQ13 := Lib.hid (HQ11.out.ask hA13);have HG13 := Lib.hid (HG11.out.mod hA13 (by omega));have HM13 := Lib.hid (HM11.out.trans hA13);have hX13 := HX13.out;have x0 := hX13.cell 0; have xf0 := hX13.frozen 0; have x1 := hX13.cell 1; have xf1 := hX13.frozen 1; have x2 := hX13.cell 2; have xf2 := hX13.frozen 2; have x3 := hX13.cell 3; have xf3 := hX13.frozen 3; have x4 := hX13.cell 4; have xf4 := hX13.frozen 4; simp at x0 x1 x2 x3 x4;clear hX13 HX11 HQ11 HG11 HM11 hA12 hA13 hM13 hS12
      go_wp2_with fail
      go_meet;have hm4 : Mod (· = g4) w13 ((((w13.setCell ⟨g4, 1, none⟩ (.string ⟨#[119, 104, 121]⟩)).setCell ⟨g4, 2, none⟩ (.string ⟨sj.toArray⟩)).setCell ⟨g4, 3, none⟩ (.string ⟨#[114, 101, 115, 112]⟩)).setCell ⟨g4, 4, none⟩ (.string ⟨su.toArray⟩)) := ((((Mod.refl (· = g4) w13).setCell (.inl rfl) _).setCell (.inl rfl) _).setCell (.inl rfl) _).setCell (.inl rfl) _;exact ⟨⟨rk, [119, 104, 121], sj, [114, 101, 115, 112], su⟩, ⟨HRK.out, by simp, by simp only; omega, by simp, by simp only; omega⟩, by have h5 := (((HX13.out.set 1 (.string ⟨#[119, 104, 121]⟩)).set 2 (.string ⟨sj.toArray⟩)).set 3 (.string ⟨#[114, 101, 115, 112]⟩)).set 4 (.string ⟨su.toArray⟩); simpa using h5, HQ13.out.far hm4 hgl9 HOA.out HOR.out HX13.out, HG13.out.mod hm4 hgr9, ((((hS13.setCell (by show b < g4; omega) _).setCell (by show b < g4; omega) _).setCell (by show b < g4; omega) _).setCell (by show b < g4; omega) _).more (by omega), (((HM13.out.setCell (.inr (by show w.heap.size ≤ g4; omega)) _).setCell (.inr (by show w.heap.size ≤ g4; omega)) _).setCell (.inr (by show w.heap.size ≤ g4; omega)) _).setCell (.inr (by show w.heap.size ≤ g4; omega)) _⟩
    case rest =>
     obtain ⟨r, hrb, hX, hQ, hG, hS, hm⟩ := hcut;obtain ⟨i0, hi0, hz0, hz1, hz2⟩ := info_parts info_rul;obtain ⟨rk2, rf, ri, ro, rt⟩ := r;simp only [] at hX;have hownR := hQ.2.2.2.2.2.2;rw [HRL.out] at hownR;have HQ14 := Lib.hid hQ;have HG14 := Lib.hid hG;have HS14 := Lib.hid hS;have HRB := Lib.hid hrb;have hL := hQ.2.2.2.1;have hgl14 := hQ.2.2.1;have x0 := hX.cell 0; have x1 := hX.cell 1; have x2 := hX.cell 2; have x3 := hX.cell 3; have x4 := hX.cell 4; simp at x0 x1 x2 x3 x4;have y0 := hL.cell 0; have y1 := hL.cell 1; simp at y0 y1;clear hX hL hQ hG hS hrb HX11 HQ11 HG11 HM11 hS11
     go_wp2_with ((at_builtin; refine wpList_append_lies _ rfl _ _ _ rfl gr 115 i0 _ 5 72 Tryz.underlying61 hi0 hz0 hz1 hz2 rfl (by omega) (.slice A2 k c2) k (rulV rs) rfl (hownR.alloc _) ⟨wc.heap.size, 0, none⟩ 1 1 [.int .i64 rk2, .string ⟨rf.toArray⟩, .string ⟨ri.toArray⟩, .string ⟨ro.toArray⟩, .string ⟨rt.toArray⟩] rfl rfl (World.news_of_block (cs := #[.int .i64 rk2, .string ⟨rf.toArray⟩, .string ⟨ri.toArray⟩, .string ⟨ro.toArray⟩, .string ⟨rt.toArray⟩]) (t := 115) (fr := (0, 0)) (heap_alloc_new wc _)) (by simp [Value.oneCell']) (by omega) (by simp [maxLen]; omega) (by omega) (by have := hm.size; simp; omega) (wc.heap.size + 1) (by simp) ?_; intro g5 cap5 w5 hown5 hgrow hat hlt5); have hQ5 := (HQ14.out.ask ((Mod.refl (· = b) _).alloc _)).rewR (mod_grown hgrow) (v5 := .slice (some ⟨g5, 0, none⟩) (k + 1) cap5) (n5 := k + 1) (rs5 := rs ++ [⟨rk2, rf, ri, ro, rt⟩]) (by simpa [rulV_snoc, rulC] using hown5) (by simp [HRL.out]); have q1 := hQ5.2.2.2.1.cell 1; have q2 := hQ5.2.2.2.1.frozen 1; simp at q1)
     go_roundg (m - (k + 1))
     case measure => omega
     case rel =>
      have hob := own_block hownR;refine ⟨k + 1, cap5, some ⟨g5, 0, none⟩, rs ++ [⟨rk2, rf, ri, ro, rt⟩], rfl, hlt, by simp, by simp [HRL.out], fun r hr => ?_, hQ5.storeR, ?_, ?_, ?_⟩
      ·rcases List.mem_append.1 hr with hr | hr
       ·exact HRZ.out r hr
       ·rw [List.mem_singleton.1 hr]; exact HRB.out
      ·exact ((HG14.out.alloc _).mod (mod_grown hgrow) (fun hv => by
        have hB2 := HG14.out.alloc (.cells #[.int .i64 rk2, .string ⟨rf.toArray⟩, .string ⟨ri.toArray⟩, .string ⟨ro.toArray⟩, .string ⟨rt.toArray⟩] 115);unfold Blk at hB2
        exact absurd (own_ty (hownR.alloc _) hv hB2) (by decide))).far (by show gr ≠ gl; omega) _
      ·exact (((HS14.out.alloc _).mod (mod_grown hgrow) (fun i hi hv => by have := hob i hv; omega)).setCell (by show b < gl; omega) _).more (by omega)
      ·exact ((hm.alloc _).grown hgrow (fun i hi => .inr (by have := hob i hi; omega))).setCell (.inr (by show w.heap.size ≤ gl; omega)) _
   ·obtain rfl : k = m := by omega
    subst hq7;obtain ⟨h1, h2, h3, hB, ho, ht, hr⟩ := hQ;have HO := Lib.hid ho;have HR := Lib.hid hr;have HT := Lib.hid ht;have HGB := Lib.hid hG;have HGE := Lib.hid ((hG.set 0 (.slice (some ⟨ga, 0, none⟩) al2.length 3)).set 1 (.slice A2 k c2));have x0 := hB.cell 0; have x1 := hB.cell 1; simp at x0 x1;have y0 := hG.cell 0; have yf0 := hG.frozen 0; have y1 := hG.cell 1; have yf1 := hG.frozen 1; simp at y0 y1;clear hB hG ho hr ht hrz hrl
    go_wp2_with fail
    have hGE := HGE.out;have z0 := hGE.cell 0; have z1 := hGE.cell 1; simp at z0 z1
    try simp only [Exit.inBlock, Exit.then]
    refine bodyPost_ret (v := .agg #[.slice (some ⟨ga, 0, none⟩) al2.length 3, .slice A2 k c2]) (by simp [results, Tryz.results62, go_sem, z0, z1]) rfl ?_;have hmr : Mod (· = gr) wr ((wr.setCell ⟨gr, 0, none⟩ (.slice (some ⟨ga, 0, none⟩) al2.length 3)).setCell ⟨gr, 1, none⟩ (.slice A2 k c2)) := ((Mod.refl (· = gr) wr).setCell (.inl rfl) _).setCell (.inl rfl) _;have hgo : ∀ i arr fr t, wr.heap[i]? = some (.cells arr t fr) → 63 ≠ t → ¬ i = gr := fun i arr fr t hi hne => blk_ty (by simpa [Blk] using HGB.out) hi hne;have hrl2 := HRL.out;subst hrl2
    exact ⟨some ⟨ga, 0, none⟩, 3, A2, c2, al2, rs, rfl, own_baseK (own_mod HO.out hmr (fun i hi => by
      obtain ⟨arr, ha⟩ := own_heap HO.out hi
      exact hgo _ _ _ _ ha (by decide))) hwgr2, HT.out.ty hmr (fun i arr fr hi => hgo _ _ _ _ hi (by decide)), own_baseK (own_mod HR.out hmr (fun i hi => by
      obtain ⟨arr, ha⟩ := own_heap HR.out hi
      exact hgo _ _ _ _ ha (by decide))) hwgr2, hl2.1, hl2.2, hm2, HAB2.out, HRZ.out, ((hS.setCell (by show b < gr; omega) _).setCell (by show b < gr; omega) _).more (by omega), (hm.setCell (.inr (by show w.heap.size ≤ gr; omega)) _).setCell (.inr (by show w.heap.size ≤ gr; omega)) _⟩

end Go.Proofs.YtpinlcapgoljfaaGreatDoor

/- The generator of layouts. -/
namespace Go.Proofs.YtpinlcapgoljfaaGreatDoor
open Go.RowKit

theorem askV_set : ∀ (xs : List AskR) (k : Nat) (y : AskR) (d : Nat) (u : Value), k < xs.length → d < 4 → (askC (xs.getD k y)).set d u = askC y → (askV xs).set (k * 4 + d) u = askV (xs.set k y)
 | [], k, y, d, u, hk, _, _ => absurd hk (by simp)
 | x :: xs, 0, y, d, u, _, hd, h => by
  have hl : (askC x).length = 4 := rfl;simp only [List.getD_cons_zero] at h;simp only [askV, List.flatMap_cons, Nat.zero_mul, Nat.zero_add, List.set_cons_zero];rw [List.set_append, if_pos (by rw [hl]; exact hd), h]
 | x :: xs, k + 1, y, d, u, hk, hd, h => by
  have hl : (askC x).length = 4 := rfl;have := askV_set xs k y d u (by simpa using hk) hd (by simpa using h);simp only [askV, List.flatMap_cons, List.set_cons_succ] at this ⊢;rw [List.set_append, if_neg (by rw [hl]; omega), hl, show (k + 1) * 4 + d - 4 = k * 4 + d by omega, this]
/-- A layout at the end. -/
def LfF (W : World) (gl gr : Nat) : Prop := gr ≠ gl ∧ gl < W.heap.size ∧ ∃ (A A2 : Option Addr) (n c n2 c2 : Nat) (L : LayR), Blk W gl 63 #[.slice A n c, .slice A2 n2 c2] ∧ Blk W gr 63 #[.slice none 0 0, .slice none 0 0] ∧ LayV W L (.agg #[.slice A n c, .slice A2 n2 c2]) ∧ L.asks.length ≤ 3 ∧ L.rules.length ≤ 3 ∧ (∀ a ∈ L.asks, AskM 4 3 a) ∧ ∀ r ∈ L.rules, RulB r
def LayPostM (w : World) (b N : Nat) (e : Ending) (w' : World) : Prop :=
 ∃ (A A2 : Option Addr) (n c n2 c2 : Nat) (L : LayR), e = .returned (.agg #[.slice A n c, .slice A2 n2 c2]) ∧ LayV w' L (.agg #[.slice A n c, .slice A2 n2 c2]) ∧ L.asks.length ≤ 3 ∧ L.rules.length ≤ 3 ∧ (∀ a ∈ L.asks, AskM 4 3 a) ∧ (∀ r ∈ L.rules, RulB r) ∧ Strm w' b (N + 60) ∧ Mod (· = b) w w'
section
def LayPost (w : World) (b N : Nat) (e : Ending) (w' : World) : Prop :=
 ∃ (A A2 : Option Addr) (n c n2 c2 : Nat) (L : LayR), e = .returned (.agg #[.slice A n c, .slice A2 n2 c2]) ∧ LayV w' L (.agg #[.slice A n c, .slice A2 n2 c2]) ∧ L.asks.length ≤ 3 ∧ L.rules.length ≤ 3 ∧ (∀ a ∈ L.asks, AskB a) ∧ (∀ r ∈ L.rules, RulB r) ∧ Strm w' b (N + 60) ∧ Mod (· = b) w w'
variable {W W' : World} {b bw gl gr n c n2 c2 : Nat} {va u vr : Value} {A A2 : Option Addr} {al : List AskR} {rs : List RulR}
theorem LgQ.fin (h : LgQ W b bw gl (.slice A n c) (.slice A2 n2 c2) (.slice A2 n2 c2) al rs) (hG : Blk W gr 63 #[.slice none 0 0, .slice none 0 0]) (hne : gr ≠ gl) (h1 : al.length ≤ 3) (h2 : rs.length ≤ 3) (h3 : ∀ a ∈ al, AskM 4 3 a) (h4 : ∀ r ∈ rs, RulB r) : LfF W gl gr := by
 obtain ⟨q1, q2, q3, hB, ho, ht, hr⟩ := h;exact ⟨hne, q3, A, A2, n, c, n2, c2, ⟨al, rs⟩, hB, hG, ⟨A, n, c, A2, n2, c2, rfl, ⟨Sl.of_own ho, fun x hx => (ht x hx).1⟩, Sl.of_own hr⟩, h1, h2, h3, h4⟩
/-- A cell of a field is written: the field is x' now. -/
theorem LgQ.setAsk {ga q d : Nat} {x' : AskR} {z : Value} (h : LgQ W b bw gl (.slice (some ⟨ga, 0, none⟩) al.length c) u vr al rs) (hq : q < al.length) (hd : d < 4) (hx : (askC al[q]).set d z = askC x') (hs : Sl W 9 1 (.slice x'.A x'.ch.length x'.c) (strsV x'.ch)) (hb : ∀ g, (Value.slice x'.A x'.ch.length x'.c).ownBlock = some g → g ≠ b) : LgQ (W.setCell ⟨ga, q * 4 + d, none⟩ z) b bw gl (.slice (some ⟨ga, 0, none⟩) al.length c) u vr (al.set q x') rs := by
 obtain ⟨q1, q2, q3, hB, ho, ht, hr⟩ := h;have hm : Mod (· = ga) W (W.setCell ⟨ga, q * 4 + d, none⟩ z) := (Mod.refl (· = ga) W).setCell (.inl rfl) _;obtain ⟨arr, harr⟩ := own_heap ho (g := ga) rfl;have hX : Blk W ga 113 arr := harr;have h5 := (World.ownsRow.stored ho (q * 4 + d) z).1;rw [askV_set al q x' d z hq hd (by simpa [List.getD, hq] using hx)] at h5
 refine ⟨q1, q2, by simpa using q3, hB.mod hm (fun e => by
   have hB2 := hB;unfold Blk at hB2
   exact blk_ty hX hB2 (by decide) e), by simpa using h5, fun y hy => ?_, own_mod hr hm (fun i hi => by
   obtain ⟨arr2, ha⟩ := own_heap hr hi
   exact blk_ty hX ha (by decide))⟩
 have hs2 : Sl (W.setCell ⟨ga, q * 4 + d, none⟩ z) 9 1 (.slice x'.A x'.ch.length x'.c) (strsV x'.ch) := hs.mod hm (fun g arr fr hg => blk_ty hX hg (by decide))
 rcases List.mem_or_eq_of_mem_set hy with hy | hy
 ·exact ⟨(ht y hy).1.mod hm (fun g arr fr hg => blk_ty hX hg (by decide)), (ht y hy).2⟩
 ·subst hy;exact ⟨hs2, hb⟩
theorem LgQ.cellA {ga q : Nat} (h : LgQ W b bw gl (.slice (some ⟨ga, 0, none⟩) al.length c) u vr al rs) (hq : q < al.length) : (W.cell? ⟨ga, q * 4, none⟩ = some (.string ⟨al[q].field.toArray⟩) ∧ W.cell? ⟨ga, q * 4 + 1, none⟩ = some (.slice al[q].A al[q].ch.length al[q].c) ∧ W.cell? ⟨ga, q * 4 + 2, none⟩ = some (.bool al[q].many) ∧ W.cell? ⟨ga, q * 4 + 3, none⟩ = some (.int .i64 al[q].spread)) ∧
  (∀ i, W.frozen? ⟨ga, i, none⟩ = false) ∧ gl ≠ ga ∧ bw ≤ ga := by
 obtain ⟨q1, q2, q3, hB, ho, ht, hr⟩ := h;obtain ⟨g, off, e1, c0, c1, c2, c3⟩ := Asks.cells (w := W) (A := some ⟨ga, 0, none⟩) (n := al.length) (c := c) (al := al) ⟨Sl.of_own ho, fun x hx => (ht x hx).1⟩ hq
 injection e1 with e1
 injection e1 with e1 e2 _
 subst e1 e2;obtain ⟨arr, harr⟩ := own_heap ho (g := ga) rfl;refine ⟨⟨by simpa using c0, by simpa using c1, by simpa using c2, by simpa using c3⟩, fun i => ho.frozenAt i, fun e => ?_, own_block ho ga rfl⟩;subst e;exact blk_ty hB harr (by decide) rfl
theorem set_B {q : Nat} {x' : AskR} (h : ∀ a ∈ al, AskM 4 3 a) (hx : AskM 4 3 x') : ∀ a ∈ al.set q x', AskM 4 3 a := fun a ha => by
 rcases List.mem_or_eq_of_mem_set ha with ha | ha
 ·exact h a ha
 ·rw [ha]; exact hx
theorem LgQ.setFin {ga q d : Nat} {x' : AskR} {z : Value} (h : LgQ W b bw gl (.slice (some ⟨ga, 0, none⟩) al.length c) (.slice A2 n2 c2) (.slice A2 n2 c2) al rs) (hG : Blk W gr 63 #[.slice none 0 0, .slice none 0 0]) (hne : gr ≠ gl) (hq : q < al.length) (hd : d < 4) (hx : (askC al[q]).set d z = askC x')
  (hs : Sl W 9 1 (.slice x'.A x'.ch.length x'.c) (strsV x'.ch)) (hb : ∀ g, (Value.slice x'.A x'.ch.length x'.c).ownBlock = some g → g ≠ b) (h1 : al.length ≤ 3) (h2 : rs.length ≤ 3) (h3 : ∀ a ∈ al, AskM 4 3 a) (hxb : AskM 4 3 x') (h4 : ∀ r ∈ rs, RulB r) : LfF (W.setCell ⟨ga, q * 4 + d, none⟩ z) gl gr := by
 have hset := h.setAsk hq hd hx hs hb;obtain ⟨arr, ha⟩ := own_heap h.2.2.2.2.1 (g := ga) rfl;have hG2 := hG.mod (w' := W.setCell ⟨ga, q * 4 + d, none⟩ z) ((Mod.refl (· = ga) W).setCell (.inl rfl) _) (fun e => blk_ty hG ha (by decide) e.symm);refine LgQ.fin (n := al.length) (c := c) hset hG2 hne (by simpa using h1) h2 (set_B h3 hxb) h4
theorem AskT.nilS (W : World) : Sl W 9 1 (.slice none 0 0) (strsV []) := Sl.nil_
end

/-- A rule more. -/
def LgEx (W : World) (b bw gl : Nat) (va : Value) (al : List AskR) (rs : List RulR) : Prop := ∃ (g5 c5 : Nat) (r : RulR), RulB r ∧ LgQ W b bw gl va (.slice (some ⟨g5, 0, none⟩) (rs.length + 1) c5) (.slice (some ⟨g5, 0, none⟩) (rs.length + 1) c5) al (rs ++ [r])
theorem LgEx.ask {W W' : World} {b bw gl : Nat} {va : Value} {al : List AskR} {rs : List RulR} (h : LgEx W b bw gl va al rs) (hm : Mod (· = b) W W') : LgEx W' b bw gl va al rs := by
 obtain ⟨g5, c5, r, h1, h2⟩ := h;exact ⟨g5, c5, r, h1, h2.ask hm⟩
set_option maxRecDepth 100000 in
set_option maxHeartbeats 16000000 in
theorem layoutM_calls (w : World) (b N : Nat) (hS : Strm w b N) (hN : N ≤ 500000000) : Calls Tryz.prog 26 #[.pointer (some ⟨b, 0, none⟩)] w (LayPostM w b N) := by
 have hbl := hS.lt;have HRL := Lib.hid (rightLayout_calls (w.alloc (.cells #[.slice none 0 0, .slice none 0 0] 63)) b N (hS.alloc _) (by omega));have HG0 := Lib.hid (Blk.new w 63 #[.slice none 0 0, .slice none 0 0]);have HM0 : Hid (Mod (· = b) w (w.alloc (.cells #[.slice none 0 0, .slice none 0 0] 63))) := Lib.hid ((Mod.refl _ _).alloc _);clear hS
 go_enter Tryz.func26, Tryz.ntmps26
 go_wp2_with fail
 refine HRL.out.mono ?_;rintro e w1 ⟨A, c, A2, c2, al, rs, rfl, ho, ht, hr, hl2, hl3, hrl, hab, hrb, hS1, hM1⟩;rw [World.size_alloc] at ho hr
 obtain ⟨ga, hga⟩ : ∃ ga, A = some ⟨ga, 0, none⟩ := by
  rcases ho.2 with ⟨_, h1⟩ | ⟨g', cap', cur, hv, _⟩
  ·omega
  ·injection hv with hA _ _
   exact ⟨g', hA⟩
 subst hga;have hz1 := hM1.size;rw [World.size_alloc] at hz1;replace hab : ∀ x ∈ al, AskM 4 3 x := fun x hx => (hab x hx).m;replace hrb : ∀ r ∈ rs, RulB r := fun x hx => (hrb x hx).b;have HAB := Lib.hid hab;have HRB := Lib.hid hrb;have HM1 := Lib.hid (HM0.out.trans hM1);have HG1 := Lib.hid (HG0.out.mod hM1 (by omega))
 have hQ : LgQ (w1.alloc (.cells #[.slice (some ⟨ga, 0, none⟩) al.length c, .slice A2 rs.length c2] 63)) b w.heap.size w1.heap.size (.slice (some ⟨ga, 0, none⟩) al.length c) (.slice A2 rs.length c2) (.slice A2 rs.length c2) al rs :=
  ⟨hbl, by omega, by simp, Blk.new _ _ _, own_baseK (ho.alloc _) (by omega), fun x hx => ⟨(ht x hx).1.pure (pure_alloc _ _), (ht x hx).2⟩, own_baseK (hr.alloc _) (by omega)⟩
 have HQ := Lib.hid hQ;have HG := Lib.hid (HG1.out.alloc (.cells #[.slice (some ⟨ga, 0, none⟩) al.length c, .slice A2 rs.length c2] 63));have hS2 := hS1.alloc (.cells #[.slice (some ⟨ga, 0, none⟩) al.length c, .slice A2 rs.length c2] 63);have HM2 := Lib.hid (HM1.out.alloc (.cells #[.slice (some ⟨ga, 0, none⟩) al.length c, .slice A2 rs.length c2] 63))
 have hgrl : w.heap.size < w1.heap.size := by omega
 clear hQ ho ht hr hab hrb hS1 hM1 HRL HG0 HM0 HM1 HG1
 go_wp2_with fail
 refine (flip_calls _ b _ _ hS2 (by omega) (by omega) (by omega)).mono ?_;rintro e w3 ⟨fl, rfl, hS3, hM3⟩;have HQ3 := Lib.hid (HQ.out.ask hM3);have HG3 := Lib.hid (HG.out.mod hM3 (by omega));have HM3 := Lib.hid (HM2.out.trans hM3);clear hS2 hM3 HQ HG HM2;generalize w1.heap.size = gl at *;generalize hgr : w.heap.size = gr at *
 have hgr2 : w.heap.size ≤ gr := by omega
 have hgne : gr ≠ gl := by omega
 clear hgr
 go_upto_if 8 with (fail)
 go_cut [] (fun wx => LfF wx gl gr ∧ Strm wx b (N + 60) ∧ Mod (· = b) w wx)
 case first =>
  cases fl
  ·go_wp2_with fail
   go_meet;exact ⟨HQ3.out.fin HG3.out hgne hl3 (by omega) HAB.out HRB.out, hS3.more (by omega), HM3.out⟩
  have hS4 := hS3;have hm4 := HM3.out;have hbw4 := hS4.lt;have hglw : gl < w3.heap.size := HQ3.out.2.2.1
  go_upto_region 3 with (fail)
  have HGs := Lib.hid (show ∀ (D : Nat → Bool) (zzi : Nat) (zq zq' : World), (fun _ zq => (fun Z => LgQ Z b gr gl (.slice (some ⟨ga, 0, none⟩) al.length c) (.slice A2 rs.length c2) (.slice A2 rs.length c2) al rs ∧ Blk Z gr 63 #[.slice none 0 0, .slice none 0 0]) zq) D zq → Mod (· = b) zq zq' → (fun _ zq => (fun Z => LgQ Z b gr gl (.slice (some ⟨ga, 0, none⟩) al.length c) (.slice A2 rs.length c2) (.slice A2 rs.length c2) al rs ∧ Blk Z gr 63 #[.slice none 0 0, .slice none 0 0]) zq) (upd D zzi true) zq' from by intro D zzi zq zq' h hm; (exact ⟨h.1.ask hm, h.2.modb hm (by omega)⟩))
  refine wp_region_inv (by kernel_rfl) (by kernel_rfl) (InvF (R := Mod (· = b)) [.is (.pointer (some ⟨gl, 0, none⟩)),
    .is (.slice (some ⟨ga, 0, none⟩) al.length c),
    .is (.pointer (some ⟨b, 0, none⟩)),
    .is (.pointer (some ⟨gl, 0, none⟩)),
    .is (.slice (some ⟨ga, 0, none⟩) al.length c),
    .is (.int .i64 (al.length : Int)),
    .val (fun zv => ∃ (q_6 : Nat), zv = .int .i64 (q_6 : Int) ∧ q_6 < al.length),
    .val (fun zv => ∃ (q_7 : Nat), zv = .pointer (some ⟨ga, q_7 * 4, none⟩) ∧ q_7 < al.length),
    .val (fun zv => ∃ (q_8 : Nat), zv = .pointer (some ⟨ga, q_8 * 4, none⟩) ∧ q_8 < al.length)]
    (GB w (· = b) w3.heap.size b ((N + 30 + 1)) (fun D => (D 6).toNat) (fun _ zq => (fun Z => LgQ Z b gr gl (.slice (some ⟨ga, 0, none⟩) al.length c) (.slice A2 rs.length c2) (.slice A2 rs.length c2) al rs ∧ Blk Z gr 63 #[.slice none 0 0, .slice none 0 0]) zq))) (InvF.start (GB.start hS4 hm4 (Nat.le_refl _) (⟨HQ3.out.ask ((Mod.refl _ _).drew), HG3.out.drew⟩))) ?_ ?_
  ·refine .cons ?_ (.cons ?_ (.cons ?_ (.cons ?_ (.cons ?_ (.cons ?_ (.cons ?_ (.cons ?_ (.cons ?_ .nil))))))))
   ·intro D V zw1 a hR hI K hK;obtain ⟨hS1, hM1, hB1, hG1⟩ := hI.1;have ze3 := hR.frame.other (t := 3) (by kernel_rfl) rfl;rw [if_pos (by rfl)];go_simp;exact hK (.pointer (some ⟨gl, 0, none⟩)) _ (hI.next hR (by kernel_rfl) (Mod.refl _ _) (GB.quiet hI.1 (Mod.refl _ _) (by have hn := hR.not; simp [upd, hn] <;> omega) (HGs.out D 0 zw1 zw1 (hI.1).g (Mod.refl _ _))) (upd_same V 0 _))
   ·intro D V zw1 a hR hI K hK;obtain ⟨hS1, hM1, hB1, hG1⟩ := hI.1;have zd0 := hR.pred 0 (by kernel_rfl);have zf0 : V 0 = .pointer (some ⟨gl, 0, none⟩) := hI.2 0 zd0 rfl;have ze9 := hR.frame.done (t := 9) (j := 0) (by kernel_rfl) hR.ok zd0;have zx0 := hG1.1.2.2.2.1.cell 0;simp at zx0;rw [if_pos (by rfl)];go_simp;exact hK (.slice (some ⟨ga, 0, none⟩) al.length c) _ (hI.next hR (by kernel_rfl) (Mod.refl _ _) (GB.quiet hI.1 (Mod.refl _ _) (by have hn := hR.not; simp [upd, hn] <;> omega) (HGs.out D 1 zw1 zw1 (hI.1).g (Mod.refl _ _))) (upd_same V 1 _))
   ·intro D V zw1 a hR hI K hK;obtain ⟨hS1, hM1, hB1, hG1⟩ := hI.1;have ze0 := hR.frame.other (t := 0) (by kernel_rfl) rfl;rw [if_pos (by rfl)];go_simp;exact hK (.pointer (some ⟨b, 0, none⟩)) _ (hI.next hR (by kernel_rfl) (Mod.refl _ _) (GB.quiet hI.1 (Mod.refl _ _) (by have hn := hR.not; simp [upd, hn] <;> omega) (HGs.out D 2 zw1 zw1 (hI.1).g (Mod.refl _ _))) (upd_same V 2 _))
   ·intro D V zw1 a hR hI K hK;obtain ⟨hS1, hM1, hB1, hG1⟩ := hI.1;have ze3 := hR.frame.other (t := 3) (by kernel_rfl) rfl;rw [if_pos (by rfl)];go_simp;exact hK (.pointer (some ⟨gl, 0, none⟩)) _ (hI.next hR (by kernel_rfl) (Mod.refl _ _) (GB.quiet hI.1 (Mod.refl _ _) (by have hn := hR.not; simp [upd, hn] <;> omega) (HGs.out D 3 zw1 zw1 (hI.1).g (Mod.refl _ _))) (upd_same V 3 _))
   ·intro D V zw1 a hR hI K hK;obtain ⟨hS1, hM1, hB1, hG1⟩ := hI.1;have zd3 := hR.pred 3 (by kernel_rfl);have zf3 : V 3 = .pointer (some ⟨gl, 0, none⟩) := hI.2 3 zd3 rfl;have ze12 := hR.frame.done (t := 12) (j := 3) (by kernel_rfl) hR.ok zd3;have zx0 := hG1.1.2.2.2.1.cell 0;simp at zx0;rw [if_pos (by rfl)];go_simp;exact hK (.slice (some ⟨ga, 0, none⟩) al.length c) _ (hI.next hR (by kernel_rfl) (Mod.refl _ _) (GB.quiet hI.1 (Mod.refl _ _) (by have hn := hR.not; simp [upd, hn] <;> omega) (HGs.out D 4 zw1 zw1 (hI.1).g (Mod.refl _ _))) (upd_same V 4 _))
   ·intro D V zw1 a hR hI K hK;obtain ⟨hS1, hM1, hB1, hG1⟩ := hI.1;have zd4 := hR.pred 4 (by kernel_rfl);have zf4 : V 4 = .slice (some ⟨ga, 0, none⟩) al.length c := hI.2 4 zd4 rfl;have ze13 := hR.frame.done (t := 13) (j := 4) (by kernel_rfl) hR.ok zd4;rw [if_pos (by rfl)];go_simp;exact hK (.int .i64 (al.length : Int)) _ (hI.next hR (by kernel_rfl) (Mod.refl _ _) (GB.quiet hI.1 (Mod.refl _ _) (by have hn := hR.not; simp [upd, hn] <;> omega) (HGs.out D 5 zw1 zw1 (hI.1).g (Mod.refl _ _))) (upd_same V 5 _))
   ·intro D V zw1 a hR hI K hK;obtain ⟨hS1, hM1, hB1, hG1⟩ := hI.1;have zd2 := hR.pred 2 (by kernel_rfl);have zf2 : V 2 = .pointer (some ⟨b, 0, none⟩) := hI.2 2 zd2 rfl;have zd5 := hR.pred 5 (by kernel_rfl);have zf5 : V 5 = .int .i64 (al.length : Int) := hI.2 5 zd5 rfl;have ze11 := hR.frame.done (t := 11) (j := 2) (by kernel_rfl) hR.ok zd2;have ze14 := hR.frame.done (t := 14) (j := 5) (by kernel_rfl) hR.ok zd5;rw [if_pos (by rfl)];have := Bool.toNat_le (D 6)
    have hNB : (N + 30 + 1) + ((D 6).toNat) ≤ 1000000000 := by omega
    skip
    go_simp;refine (next_calls _ _ _ _ hS1 hNB (by omega) (by omega)).mono ?_;rintro e zw2 ⟨k_0, hk1, hk2, rfl, hS2, hm2⟩;obtain ⟨q_0, rfl⟩ := Int.eq_ofNat_of_zero_le hk1;exact hK (.int .i64 (q_0 : Int)) _ (hI.next hR (by kernel_rfl) hm2 (GB.asks hI.1 (fun _ h _ => h) hS2 hm2 (by have hn := hR.not; simp [upd, hn] <;> omega) (HGs.out D 6 _ _ (hI.1).g hm2)) (⟨q_0, upd_same V 6 _, (by first | assumption | omega)⟩))
   ·intro D V zw1 a hR hI K hK;obtain ⟨hS1, hM1, hB1, hG1⟩ := hI.1;have zd1 := hR.pred 1 (by kernel_rfl);have zf1 : V 1 = .slice (some ⟨ga, 0, none⟩) al.length c := hI.2 1 zd1 rfl;have zd6 := hR.pred 6 (by kernel_rfl);have zF6 : ∃ (q_6 : Nat), V 6 = .int .i64 (q_6 : Int) ∧ q_6 < al.length := hI.2 6 zd6 rfl;obtain ⟨q_6, zf6, c6_0⟩ := zF6;have ze10 := hR.frame.done (t := 10) (j := 1) (by kernel_rfl) hR.ok zd1;have ze15 := hR.frame.done (t := 15) (j := 6) (by kernel_rfl) hR.ok zd6
    have zb : (q_6 : Int) < (al.length : Int) := by omega
    rw [if_pos (by rfl)];go_simp;exact hK (_) _ (hI.next hR (by kernel_rfl) (Mod.refl _ _) (GB.quiet hI.1 (Mod.refl _ _) (by have hn := hR.not; simp [upd, hn] <;> omega) (HGs.out D 7 zw1 zw1 (hI.1).g (Mod.refl _ _))) (⟨q_6, upd_same V 7 _, c6_0⟩))
   ·intro D V zw1 a hR hI K hK;obtain ⟨hS1, hM1, hB1, hG1⟩ := hI.1;have zd7 := hR.pred 7 (by kernel_rfl);have zF7 : ∃ (q_7 : Nat), V 7 = .pointer (some ⟨ga, q_7 * 4, none⟩) ∧ q_7 < al.length := hI.2 7 zd7 rfl;obtain ⟨q_7, zf7, c7_0⟩ := zF7;have ze16 := hR.frame.done (t := 16) (j := 7) (by kernel_rfl) hR.ok zd7;rw [if_pos (by rfl)];go_simp;exact hK (.pointer (some ⟨ga, q_7 * 4, none⟩)) _ (hI.next hR (by kernel_rfl) (Mod.refl _ _) (GB.quiet hI.1 (Mod.refl _ _) (by have hn := hR.not; simp [upd, hn] <;> omega) (HGs.out D 8 zw1 zw1 (hI.1).g (Mod.refl _ _))) (⟨q_7, upd_same V 8 _, (by first | assumption | omega)⟩))
  ·intro D V w5 hD hI;obtain ⟨hS1, hM1, hB1, hG1⟩ := hI.1;have hSx : Strm w5 b ((N + 30 + 1) + 1) := hS1.more (by show _ ≤ _; have := Bool.toNat_le (D 6); omega);clear hS1;have hMx := hM1;clear hM1;have hBx := hB1;clear hB1;have hGx := hG1;clear hG1;have zf0 : V 0 = .pointer (some ⟨gl, 0, none⟩) := hI.2 0 (hD 0 (by decide)) rfl;have zf1 : V 1 = .slice (some ⟨ga, 0, none⟩) al.length c := hI.2 1 (hD 1 (by decide)) rfl;have zf2 : V 2 = .pointer (some ⟨b, 0, none⟩) := hI.2 2 (hD 2 (by decide)) rfl;have zf3 : V 3 = .pointer (some ⟨gl, 0, none⟩) := hI.2 3 (hD 3 (by decide)) rfl;have zf4 : V 4 = .slice (some ⟨ga, 0, none⟩) al.length c := hI.2 4 (hD 4 (by decide)) rfl;have zf5 : V 5 = .int .i64 (al.length : Int) := hI.2 5 (hD 5 (by decide)) rfl;have zF6 : ∃ (q_6 : Nat), V 6 = .int .i64 (q_6 : Int) ∧ q_6 < al.length := hI.2 6 (hD 6 (by decide)) rfl;obtain ⟨q_6, zf6, c6_0⟩ := zF6;have zF7 : ∃ (q_7 : Nat), V 7 = .pointer (some ⟨ga, q_7 * 4, none⟩) ∧ q_7 < al.length := hI.2 7 (hD 7 (by decide)) rfl;obtain ⟨q_7, zf7, c7_0⟩ := zF7;have zF8 : ∃ (q_8 : Nat), V 8 = .pointer (some ⟨ga, q_8 * 4, none⟩) ∧ q_8 < al.length := hI.2 8 (hD 8 (by decide)) rfl;obtain ⟨q_8, zf8, c8_0⟩ := zF8;clear hI hD HGs;simp only [frAll, Act.put, List.setIfInBounds_toArray, List.set_cons_zero, List.set_cons_succ, Nat.zero_add, Nat.reduceAdd, zf0, zf1, zf2, zf3, zf4, zf5, zf6, zf7, zf8];clear zf0 zf1 zf2 zf3 zf4 zf5 zf6 zf7 zf8;clear V D;have HQ5 := Lib.hid hGx.1;have HG5 := Lib.hid hGx.2;have HM5 := Lib.hid hMx;have hq : q_8 < al.length := c8_0;clear hGx hMx HQ3 HG3 HM3 hS3 hS4 hm4 c6_0 c7_0 c8_0 hBx;generalize q_8 = q at *
   go_wp2_with fail
   refine (next_calls _ b _ _ hSx (by omega) (by omega) (by omega)).mono ?_;rintro e w6 ⟨z, hza, hzb, rfl, hS6, hM6⟩;have HQ6 := Lib.hid (HQ5.out.ask hM6);have HG6 := Lib.hid (HG5.out.mod hM6 (by omega));have HM6 := Lib.hid (HM5.out.trans hM6);have hbl6 := hS6.lt;clear hSx hM6 HQ5 HG5 HM5;have hgx := (HQ6.out.cellA hq).2.2;obtain ⟨hgla, hgra⟩ := hgx
   have hbga : b < ga := by omega
   have hwga : w.heap.size ≤ ga := by omega
   by_cases k0 : z = 0
   ·subst k0
    go_wp2_with fail
    refine (somec_calls _ b _ w6.heap.size _ _ [[], [114, 101, 115, 112], [65]] 4 rfl (by decide) (hS6.alloc _) (by omega) (Blk.new _ _ _) (by omega) (by decide) (by decide)).mono ?_;rintro e w7 ⟨s, hs, rfl, hS7, hM7⟩;have hA : Mod (· = b) w6 w7 := ((Mod.refl (· = b) w6).alloc _).trans hM7;have HQ7 := Lib.hid (HQ6.out.ask hA);have HG7 := Lib.hid (HG6.out.mod hA (by omega));have HM7 := Lib.hid (HM6.out.trans hA);obtain ⟨⟨p0, p1, p2, p3⟩, hfz, _⟩ := HQ7.out.cellA hq;have f0 := hfz (q * 4);have HX := Lib.hid (HQ7.out.2.2.2.2.2.1 _ (List.getElem_mem hq));clear hfz hA hM7 hS6 HQ6 HG6 HM6
    go_wp2_with fail
    go_meet;have hxb := HAB.out _ (List.getElem_mem hq);exact ⟨HQ7.out.setFin (d := 0) (x' := { al[q] with field := s }) HG7.out hgne hq (by omega) rfl HX.out.1 HX.out.2 hl3 (by omega) HAB.out ⟨by show s.length ≤ 4; omega, hxb.2⟩ HRB.out, (hS7.setCell (by show b < ga; omega) _).more (by omega), HM7.out.setCell (.inr (by show w.heap.size ≤ ga; omega)) _⟩
   have k0' : (z == 0) = false := by simpa using k0
   by_cases k1 : z = 1
   ·subst k1
    go_wp2_with fail
    refine (next_calls _ b _ _ (((hS6.alloc _).alloc _).alloc _) (by omega) (by omega) (by omega)).mono ?_;rintro e w7 ⟨kq, hkq0, hkq3, rfl, hS7, hM7⟩;have hA : Mod (· = b) w6 w7 := ((((Mod.refl (· = b) w6).alloc _).alloc _).alloc _).trans hM7;have HQ7 := Lib.hid (HQ6.out.ask hA);have HG7 := Lib.hid (HG6.out.mod hA (by omega));have HM7 := Lib.hid (HM6.out.trans hA);have B1 := (((Blk.new w6 9 #[.string ⟨#[121, 101, 115]⟩, .string ⟨#[121, 101, 115]⟩]).alloc (.cells #[.string ⟨#[89]⟩] 9)).alloc (.cells #[.slice none 0 0, .slice (some ⟨w6.heap.size, 0, none⟩) 2 2, .slice (some ⟨w6.heap.size + 1, 0, none⟩) 1 1] 29)).mod hM7 (by omega);have B2 := ((Blk.snd w6 (.cells #[.string ⟨#[121, 101, 115]⟩, .string ⟨#[121, 101, 115]⟩] 9) 9 #[.string ⟨#[89]⟩]).alloc (.cells #[.slice none 0 0, .slice (some ⟨w6.heap.size, 0, none⟩) 2 2, .slice (some ⟨w6.heap.size + 1, 0, none⟩) 1 1] 29)).mod hM7 (by omega);have B3 := (Blk.thd w6 (.cells #[.string ⟨#[121, 101, 115]⟩, .string ⟨#[121, 101, 115]⟩] 9) (.cells #[.string ⟨#[89]⟩] 9) 29 #[.slice none 0 0, .slice (some ⟨w6.heap.size, 0, none⟩) 2 2, .slice (some ⟨w6.heap.size + 1, 0, none⟩) 1 1]).mod hM7 (by omega);obtain ⟨kq, rfl⟩ := Int.eq_ofNat_of_zero_le hkq0
    obtain ⟨Ac, cc, ch, hcell, hsl, hgb, hcz⟩ : ∃ (Ac : Option Addr) (cc : Nat) (ch : List Str), w7.cell? ⟨w6.heap.size + 1 + 1, kq, none⟩ = some (.slice Ac ch.length cc) ∧ Sl w7 9 1 (.slice Ac ch.length cc) (strsV ch) ∧ (∀ g, (Value.slice Ac ch.length cc).ownBlock = some g → g ≠ b) ∧ (ch.length ≤ 3 ∧ ∀ s ∈ ch, s.length ≤ 4) := by
     have h3 : kq = 0 ∨ kq = 1 ∨ kq = 2 := by omega
     rcases h3 with rfl | rfl | rfl
     ·exact ⟨none, 0, [], by rw [B3.cell]; rfl, Sl.nil_, (fun g h => by cases h), by simp⟩
     ·exact ⟨some ⟨w6.heap.size, 0, none⟩, 2, [[121, 101, 115], [121, 101, 115]], by rw [B3.cell]; rfl, blkSl B1 (by simp) (by simp), (fun g h => by have h2 : w6.heap.size = g := (by simpa [Value.ownBlock] using h); omega), by simp⟩
     ·exact ⟨some ⟨w6.heap.size + 1, 0, none⟩, 1, [[89]], by rw [B3.cell]; rfl, blkSl B2 (by simp) (by simp), (fun g h => by have h2 : w6.heap.size + 1 = g := (by simpa [Value.ownBlock] using h); omega), by simp⟩
    have HSL := Lib.hid hsl;have HGBb := Lib.hid hgb;have HCZ := Lib.hid hcz
    have hkq3' : (kq : Int) < 3 := by omega
    obtain ⟨⟨p0, p1, p2, p3⟩, hfz, _⟩ := HQ7.out.cellA hq;have f0 := hfz (q * 4 + 1);clear hfz hA hM7 hS6 HQ6 HG6 HM6 B1 B2 B3 hsl hgb hcz hkq0
    go_wp2_with fail
    go_meet;have hxb := HAB.out _ (List.getElem_mem hq);exact ⟨HQ7.out.setFin (d := 1) (x' := { al[q] with A := Ac, c := cc, ch := ch }) HG7.out hgne hq (by omega) rfl HSL.out HGBb.out hl3 (by omega) HAB.out ⟨hxb.1, HCZ.out, hxb.2.2⟩ HRB.out, (hS7.setCell (by show b < ga; omega) _).more (by omega), HM7.out.setCell (.inr (by show w.heap.size ≤ ga; omega)) _⟩
   have k1' : (z == 1) = false := by simpa using k1
   by_cases k2 : z = 2
   ·subst k2
    go_wp2_with fail
    refine (odd_calls _ b _ _ _ hS6 (by omega) (by omega) (by omega) (by omega)).mono ?_;rintro e w7 ⟨so, hs1, hs2, rfl, hS7, hM7⟩;have HQ7 := Lib.hid (HQ6.out.ask hM7);have HG7 := Lib.hid (HG6.out.mod hM7 (by omega));have HM7 := Lib.hid (HM6.out.trans hM7);obtain ⟨⟨p0, p1, p2, p3⟩, hfz, _⟩ := HQ7.out.cellA hq;have f0 := hfz (q * 4 + 3);have HX := Lib.hid (HQ7.out.2.2.2.2.2.1 _ (List.getElem_mem hq));clear hfz hM7 hS6 HQ6 HG6 HM6
    go_wp2_with fail
    go_meet;have hxb := HAB.out _ (List.getElem_mem hq);exact ⟨HQ7.out.setFin (d := 3) (x' := { al[q] with spread := so }) HG7.out hgne hq (by omega) rfl HX.out.1 HX.out.2 hl3 (by omega) HAB.out ⟨hxb.1, hxb.2.1, hs1, hs2⟩ HRB.out, (hS7.setCell (by show b < ga; omega) _).more (by omega), HM7.out.setCell (.inr (by show w.heap.size ≤ ga; omega)) _⟩
   have k2' : (z == 2) = false := by simpa using k2
   by_cases k4 : z = 4
   ·subst k4;have hL := HQ6.out.2.2.2.1;have x0 := hL.cell 0; have xf0 := hL.frozen 0; have x1 := hL.cell 1; have xf1 := hL.frozen 1; simp at x0 x1;clear hL
    go_wp2_with fail
    go_meet;have hst := HQ6.out.storeA (va5 := .slice none 0 0) (al5 := []) ⟨rfl, .inl ⟨rfl, rfl⟩⟩ (fun x h => absurd h (by simp));exact ⟨hst.fin (HG6.out.far (by show gr ≠ gl; omega) _) hgne (by simp) (by omega) (fun a h => absurd h (by simp)) HRB.out, (hS6.setCell (by show b < gl; omega) _).more (by omega), HM6.out.setCell (.inr (by show w.heap.size ≤ gl; omega)) _⟩
   have k4' : (z == 4) = false := by simpa using k4
   have HOL := Lib.hid (fun i hi => (HQ6.out.2.2.2.2.2.2.lt i hi).2);obtain ⟨i0, hi0, hz0, hz1, hz2⟩ := info_parts info_rul;have hm6 := HM6.out;have hglw6 : gl < w6.heap.size := HQ6.out.2.2.1;have hw6 : w3.heap.size ≤ w3.heap.size := Nat.le_refl _;obtain ⟨N1, hN1⟩ : ∃ N1, N1 = N + 30 + 1 + 1 + 1 := ⟨_, rfl⟩;have hS6 : Strm w6 b N1 := hS6.more (by omega);have hN1a := Nat.le_of_eq hN1;have hN1b := Nat.le_of_eq hN1.symm;clear hN1 k0 k1 k2 k4 HM6
   by_cases k3 : z = 3
   ·subst k3
    go_upto_region 13 with (fail)
    have HGs := Lib.hid (show ∀ (D : Nat → Bool) (zzi : Nat) (zq zq' : World), zzi ≠ 15 → (fun D zq => (D 15 = false → (fun Z => LgQ Z b gr gl (.slice (some ⟨ga, 0, none⟩) al.length c) (.slice A2 rs.length c2) (.slice A2 rs.length c2) al rs) zq) ∧ (fun Z => Blk Z gr 63 #[.slice none 0 0, .slice none 0 0]) zq) D zq → Mod (· = b) zq zq' → (fun D zq => (D 15 = false → (fun Z => LgQ Z b gr gl (.slice (some ⟨ga, 0, none⟩) al.length c) (.slice A2 rs.length c2) (.slice A2 rs.length c2) al rs) zq) ∧ (fun Z => Blk Z gr 63 #[.slice none 0 0, .slice none 0 0]) zq) (upd D zzi true) zq' from by intro D zzi zq zq' hi hh hm; refine ⟨fun hs => ?_, ?_⟩; (rw [upd_ne _ _ (Ne.symm hi)] at hs; have h := hh.1 hs; (exact h.ask hm)); (have h := hh.2; (exact h.modb hm (by omega))))
    refine wp_region_inv (by kernel_rfl) (by kernel_rfl) (InvF (R := Mod (· = b)) [.is (.pointer (some ⟨gl, 1, none⟩)),
      .is (.slice A2 rs.length c2),
      .is (.pointer (some ⟨b, 0, none⟩)),
      .val (fun zv => ∃ (k_3 : Int), zv = .int .i64 k_3),
      .is (.pointer (some ⟨b, 0, none⟩)),
      ⟨fun zv zw => ∃ (g_5 : Nat), zv = .slice (some ⟨g_5, 0, none⟩) 2 2 ∧ w6.heap.size ≤ g_5 ∧ Blk zw g_5 9 #[(.string { data := #[121, 101, 115] }), (.string { data := #[109, 97, 121, 98, 101] })], (by rintro zv zw zx ⟨g_5, rfl, c0, q0⟩ hm; exact ⟨g_5, rfl, c0, (q0.modb hm (by omega))⟩), none, some 6⟩,
      .val (fun zv => ∃ (s_6 : Str), zv = .string ⟨s_6.toArray⟩ ∧ s_6.length ≤ 100),
      .is (.pointer (some ⟨b, 0, none⟩)),
      ⟨fun zv zw => ∃ (g_8 : Nat), zv = .slice (some ⟨g_8, 0, none⟩) 3 3 ∧ w6.heap.size ≤ g_8 ∧ Blk zw g_8 9 #[(.string { data := #[119, 104, 121] }), (.string { data := #[114, 101, 115, 112] }), (.string { data := #[110, 111, 110, 101] })], (by rintro zv zw zx ⟨g_8, rfl, c0, q0⟩ hm; exact ⟨g_8, rfl, c0, (q0.modb hm (by omega))⟩), none, some 9⟩,
      .val (fun zv => ∃ (s_9 : Str), zv = .string ⟨s_9.toArray⟩ ∧ s_9.length ≤ 100),
      .is (.pointer (some ⟨b, 0, none⟩)),
      ⟨fun zv zw => ∃ (g_11 : Nat), zv = .slice (some ⟨g_11, 0, none⟩) 3 3 ∧ w6.heap.size ≤ g_11 ∧ Blk zw g_11 9 #[(.string { data := #[] }), (.string { data := #[100, 101, 97, 108] }), (.string { data := #[122, 122] })], (by rintro zv zw zx ⟨g_11, rfl, c0, q0⟩ hm; exact ⟨g_11, rfl, c0, (q0.modb hm (by omega))⟩), none, some 12⟩,
      .val (fun zv => ∃ (s_12 : Str), zv = .string ⟨s_12.toArray⟩ ∧ s_12.length ≤ 100),
      .val (fun zv => ∃ (k_13 : Int) (s_13 : Str) (sa_13 : Str) (sb_13 : Str), zv = .agg #[.int .i64 k_13, (.string { data := #[114, 101, 115, 112] }), .string ⟨s_13.toArray⟩, .string ⟨sa_13.toArray⟩, .string ⟨sb_13.toArray⟩] ∧ s_13.length ≤ 100 ∧ sa_13.length ≤ 100 ∧ sb_13.length ≤ 100),
      ⟨fun zv zw => ∃ (k_14 : Int) (s_14 : Str) (sa_14 : Str) (sb_14 : Str) (g_14 : Nat), zv = .slice (some ⟨g_14, 0, none⟩) 1 1 ∧ s_14.length ≤ 100 ∧ sa_14.length ≤ 100 ∧ sb_14.length ≤ 100 ∧ w6.heap.size ≤ g_14 ∧ Blk zw g_14 115 #[.int .i64 k_14, .string ⟨#[114, 101, 115, 112]⟩, .string ⟨s_14.toArray⟩, .string ⟨sa_14.toArray⟩, .string ⟨sb_14.toArray⟩], (by rintro zv zw zx ⟨k_14, s_14, sa_14, sb_14, g_14, rfl, c0, c1, c2, c3, q0⟩ hm; exact ⟨k_14, s_14, sa_14, sb_14, g_14, rfl, c0, c1, c2, c3, (q0.modb hm (by omega))⟩), none, some 15⟩,
      ⟨fun zv zw => ∃ (g_15 : Nat) (c_15 : Nat) (k_15 : Int) (s_15 : Str) (sa_15 : Str) (sb_15 : Str), zv = .slice (some ⟨g_15, 0, none⟩) (rs.length + 1) c_15 ∧ s_15.length ≤ 100 ∧ sa_15.length ≤ 100 ∧ sb_15.length ≤ 100 ∧ LgQ zw b gr gl (.slice (some ⟨ga, 0, none⟩) al.length c) (.slice A2 rs.length c2) (.slice (some ⟨g_15, 0, none⟩) (rs.length + 1) c_15) al (rs ++ [⟨k_15, [114, 101, 115, 112], s_15, sa_15, sb_15⟩]), (by rintro zv zw zx ⟨g_15, c_15, k_15, s_15, sa_15, sb_15, rfl, c0, c1, c2, q0⟩ hm; exact ⟨g_15, c_15, k_15, s_15, sa_15, sb_15, rfl, c0, c1, c2, (q0.ask hm)⟩), none, some 17⟩,
      .is (.pointer (some ⟨gl, 1, none⟩)),
      ⟨fun zv zw => zv = undef ∧ LgEx zw b gr gl (.slice (some ⟨ga, 0, none⟩) al.length c) al rs, (by rintro zv zw zx ⟨rfl, q0⟩ hm; exact ⟨rfl, (q0.ask hm)⟩), none, none⟩]
      (GB w (· = b) w6.heap.size b (N1) (fun D => 2 * (D 3).toNat + (D 6).toNat + (D 9).toNat + (D 12).toNat) (fun D zq => (D 15 = false → (fun Z => LgQ Z b gr gl (.slice (some ⟨ga, 0, none⟩) al.length c) (.slice A2 rs.length c2) (.slice A2 rs.length c2) al rs) zq) ∧ (fun Z => Blk Z gr 63 #[.slice none 0 0, .slice none 0 0]) zq))) (InvF.start (GB.start hS6 hm6 (Nat.le_refl _) (⟨fun _ => HQ6.out.ask ((Mod.refl _ _).drew), HG6.out.drew⟩))) ?_ ?_
    ·refine .cons ?_ (.cons ?_ (.cons ?_ (.cons ?_ (.cons ?_ (.cons ?_ (.cons ?_ (.cons ?_ (.cons ?_ (.cons ?_ (.cons ?_ (.cons ?_ (.cons ?_ (.cons ?_ (.cons ?_ (.cons ?_ (.cons ?_ (.cons ?_ .nil)))))))))))))))))
     ·intro D V zw1 a hR hI K hK;obtain ⟨hS1, hM1, hB1, hG1⟩ := hI.1;obtain ⟨hGK, hG1⟩ := hG1;have ze3 := hR.frame.other (t := 3) (by kernel_rfl) rfl;rw [if_pos (by rfl)];go_simp;exact hK (.pointer (some ⟨gl, 1, none⟩)) _ (hI.next hR (by kernel_rfl) (Mod.refl _ _) (GB.quiet hI.1 (Mod.refl _ _) (by have hn := hR.not; simp [upd, hn] <;> omega) (HGs.out D 0 zw1 zw1 (by omega) (hI.1).g (Mod.refl _ _))) (upd_same V 0 _))
     ·intro D V zw1 a hR hI K hK;obtain ⟨hS1, hM1, hB1, hG1⟩ := hI.1;obtain ⟨hGK, hG1⟩ := hG1;have zd0 := hR.pred 0 (by kernel_rfl);have zf0 : V 0 = .pointer (some ⟨gl, 1, none⟩) := hI.2 0 zd0 rfl;have ze57 := hR.frame.done (t := 57) (j := 0) (by kernel_rfl) hR.ok zd0;have zB := (hGK (hR.later 15 rfl (by kernel_rfl))).2.2.2.1;have zx0 := zB.cell 1;simp at zx0;rw [if_pos (by rfl)];go_simp;exact hK (.slice A2 rs.length c2) _ (hI.next hR (by kernel_rfl) (Mod.refl _ _) (GB.quiet hI.1 (Mod.refl _ _) (by have hn := hR.not; simp [upd, hn] <;> omega) (HGs.out D 1 zw1 zw1 (by omega) (hI.1).g (Mod.refl _ _))) (upd_same V 1 _))
     ·intro D V zw1 a hR hI K hK;obtain ⟨hS1, hM1, hB1, hG1⟩ := hI.1;obtain ⟨hGK, hG1⟩ := hG1;have ze0 := hR.frame.other (t := 0) (by kernel_rfl) rfl;rw [if_pos (by rfl)];go_simp;exact hK (.pointer (some ⟨b, 0, none⟩)) _ (hI.next hR (by kernel_rfl) (Mod.refl _ _) (GB.quiet hI.1 (Mod.refl _ _) (by have hn := hR.not; simp [upd, hn] <;> omega) (HGs.out D 2 zw1 zw1 (by omega) (hI.1).g (Mod.refl _ _))) (upd_same V 2 _))
     ·intro D V zw1 a hR hI K hK;obtain ⟨hS1, hM1, hB1, hG1⟩ := hI.1;obtain ⟨hGK, hG1⟩ := hG1;have zd2 := hR.pred 2 (by kernel_rfl);have zf2 : V 2 = .pointer (some ⟨b, 0, none⟩) := hI.2 2 zd2 rfl;have ze59 := hR.frame.done (t := 59) (j := 2) (by kernel_rfl) hR.ok zd2;rw [if_pos (by rfl)];have := Bool.toNat_le (D 3);have := Bool.toNat_le (D 6);have := Bool.toNat_le (D 9);have := Bool.toNat_le (D 12)
      have hNB : N1 + (2 * (D 3).toNat + (D 6).toNat + (D 9).toNat + (D 12).toNat) ≤ 1000000000 := by omega
      skip
      go_simp;refine (odd_calls _ b _ _ _ hS1 (by omega) (by omega) (by omega) (by omega)).mono ?_;rintro e zw2 ⟨k_0, _, _, rfl, hS2, hm2⟩;exact hK (.int .i64 k_0) _ (hI.next hR (by kernel_rfl) hm2 (GB.asks hI.1 (fun _ h _ => h) hS2 hm2 (by have hn := hR.not; simp [upd, hn] <;> omega) (HGs.out D 3 _ _ (by omega) (hI.1).g hm2)) (⟨k_0, upd_same V 3 _⟩))
     ·intro D V zw1 a hR hI K hK;obtain ⟨hS1, hM1, hB1, hG1⟩ := hI.1;obtain ⟨hGK, hG1⟩ := hG1;have ze0 := hR.frame.other (t := 0) (by kernel_rfl) rfl;rw [if_pos (by rfl)];go_simp;exact hK (.pointer (some ⟨b, 0, none⟩)) _ (hI.next hR (by kernel_rfl) (Mod.refl _ _) (GB.quiet hI.1 (Mod.refl _ _) (by have hn := hR.not; simp [upd, hn] <;> omega) (HGs.out D 4 zw1 zw1 (by omega) (hI.1).g (Mod.refl _ _))) (upd_same V 4 _))
     ·intro D V zw1 a hR hI K hK;obtain ⟨hS1, hM1, hB1, hG1⟩ := hI.1;obtain ⟨hGK, hG1⟩ := hG1;rw [if_pos (by rfl)];go_simp;exact hK (_) _ (hI.next hR (by kernel_rfl) ((Mod.refl _ _).alloc _) (GB.quiet hI.1 (pure_alloc _ _) (by have hn := hR.not; simp [upd, hn] <;> omega) (HGs.out D 5 _ _ (by omega) (hI.1).g ((Mod.refl _ _).alloc _))) (⟨_, upd_same V 5 _, (by omega), (Blk.new _ _ _)⟩))
     ·intro D V zw1 a hR hI K hK;obtain ⟨hS1, hM1, hB1, hG1⟩ := hI.1;obtain ⟨hGK, hG1⟩ := hG1;have zd4 := hR.pred 4 (by kernel_rfl);have zf4 : V 4 = .pointer (some ⟨b, 0, none⟩) := hI.2 4 zd4 rfl;have zd5 := hR.pred 5 (by kernel_rfl);have zF5 : ∃ (g_5 : Nat), V 5 = .slice (some ⟨g_5, 0, none⟩) 2 2 ∧ w6.heap.size ≤ g_5 ∧ Blk zw1 g_5 9 #[(.string { data := #[121, 101, 115] }), (.string { data := #[109, 97, 121, 98, 101] })] := hI.2 5 zd5 (by show (!D 6) = true; rw [hR.not]; rfl);obtain ⟨g_5, zf5, c5_0, b5_0⟩ := zF5;have ze61 := hR.frame.done (t := 61) (j := 4) (by kernel_rfl) hR.ok zd4;have ze62 := hR.frame.done (t := 62) (j := 5) (by kernel_rfl) hR.ok zd5;rw [if_pos (by rfl)];have := Bool.toNat_le (D 3);have := Bool.toNat_le (D 6);have := Bool.toNat_le (D 9);have := Bool.toNat_le (D 12)
      have hNB : N1 + (2 * (D 3).toNat + (D 6).toNat + (D 9).toNat + (D 12).toNat) ≤ 1000000000 := by omega
      skip
      go_simp;refine (somec_calls _ b _ _ _ _ [[121, 101, 115], [109, 97, 121, 98, 101]] 100 rfl (by decide) hS1 hNB b5_0 (by omega) (by decide) (by decide)).mono ?_;rintro e zw2 ⟨s_0, hs, rfl, hS2, hm2⟩;exact hK (.string ⟨s_0.toArray⟩) _ (hI.next hR (by kernel_rfl) hm2 (GB.asks hI.1 (fun _ h _ => h) hS2 hm2 (by have hn := hR.not; simp [upd, hn] <;> omega) (HGs.out D 6 _ _ (by omega) (hI.1).g hm2)) (⟨s_0, upd_same V 6 _, hs⟩))
     ·intro D V zw1 a hR hI K hK;obtain ⟨hS1, hM1, hB1, hG1⟩ := hI.1;obtain ⟨hGK, hG1⟩ := hG1;have ze0 := hR.frame.other (t := 0) (by kernel_rfl) rfl;rw [if_pos (by rfl)];go_simp;exact hK (.pointer (some ⟨b, 0, none⟩)) _ (hI.next hR (by kernel_rfl) (Mod.refl _ _) (GB.quiet hI.1 (Mod.refl _ _) (by have hn := hR.not; simp [upd, hn] <;> omega) (HGs.out D 7 zw1 zw1 (by omega) (hI.1).g (Mod.refl _ _))) (upd_same V 7 _))
     ·intro D V zw1 a hR hI K hK;obtain ⟨hS1, hM1, hB1, hG1⟩ := hI.1;obtain ⟨hGK, hG1⟩ := hG1;rw [if_pos (by rfl)];go_simp;exact hK (_) _ (hI.next hR (by kernel_rfl) ((Mod.refl _ _).alloc _) (GB.quiet hI.1 (pure_alloc _ _) (by have hn := hR.not; simp [upd, hn] <;> omega) (HGs.out D 8 _ _ (by omega) (hI.1).g ((Mod.refl _ _).alloc _))) (⟨_, upd_same V 8 _, (by omega), (Blk.new _ _ _)⟩))
     ·intro D V zw1 a hR hI K hK;obtain ⟨hS1, hM1, hB1, hG1⟩ := hI.1;obtain ⟨hGK, hG1⟩ := hG1;have zd7 := hR.pred 7 (by kernel_rfl);have zf7 : V 7 = .pointer (some ⟨b, 0, none⟩) := hI.2 7 zd7 rfl;have zd8 := hR.pred 8 (by kernel_rfl);have zF8 : ∃ (g_8 : Nat), V 8 = .slice (some ⟨g_8, 0, none⟩) 3 3 ∧ w6.heap.size ≤ g_8 ∧ Blk zw1 g_8 9 #[(.string { data := #[119, 104, 121] }), (.string { data := #[114, 101, 115, 112] }), (.string { data := #[110, 111, 110, 101] })] := hI.2 8 zd8 (by show (!D 9) = true; rw [hR.not]; rfl);obtain ⟨g_8, zf8, c8_0, b8_0⟩ := zF8;have ze64 := hR.frame.done (t := 64) (j := 7) (by kernel_rfl) hR.ok zd7;have ze65 := hR.frame.done (t := 65) (j := 8) (by kernel_rfl) hR.ok zd8;rw [if_pos (by rfl)];have := Bool.toNat_le (D 3);have := Bool.toNat_le (D 6);have := Bool.toNat_le (D 9);have := Bool.toNat_le (D 12)
      have hNB : N1 + (2 * (D 3).toNat + (D 6).toNat + (D 9).toNat + (D 12).toNat) ≤ 1000000000 := by omega
      skip
      go_simp;refine (somec_calls _ b _ _ _ _ [[119, 104, 121], [114, 101, 115, 112], [110, 111, 110, 101]] 100 rfl (by decide) hS1 hNB b8_0 (by omega) (by decide) (by decide)).mono ?_;rintro e zw2 ⟨s_0, hs, rfl, hS2, hm2⟩;exact hK (.string ⟨s_0.toArray⟩) _ (hI.next hR (by kernel_rfl) hm2 (GB.asks hI.1 (fun _ h _ => h) hS2 hm2 (by have hn := hR.not; simp [upd, hn] <;> omega) (HGs.out D 9 _ _ (by omega) (hI.1).g hm2)) (⟨s_0, upd_same V 9 _, hs⟩))
     ·intro D V zw1 a hR hI K hK;obtain ⟨hS1, hM1, hB1, hG1⟩ := hI.1;obtain ⟨hGK, hG1⟩ := hG1;have ze0 := hR.frame.other (t := 0) (by kernel_rfl) rfl;rw [if_pos (by rfl)];go_simp;exact hK (.pointer (some ⟨b, 0, none⟩)) _ (hI.next hR (by kernel_rfl) (Mod.refl _ _) (GB.quiet hI.1 (Mod.refl _ _) (by have hn := hR.not; simp [upd, hn] <;> omega) (HGs.out D 10 zw1 zw1 (by omega) (hI.1).g (Mod.refl _ _))) (upd_same V 10 _))
     ·intro D V zw1 a hR hI K hK;obtain ⟨hS1, hM1, hB1, hG1⟩ := hI.1;obtain ⟨hGK, hG1⟩ := hG1;rw [if_pos (by rfl)];go_simp;exact hK (_) _ (hI.next hR (by kernel_rfl) ((Mod.refl _ _).alloc _) (GB.quiet hI.1 (pure_alloc _ _) (by have hn := hR.not; simp [upd, hn] <;> omega) (HGs.out D 11 _ _ (by omega) (hI.1).g ((Mod.refl _ _).alloc _))) (⟨_, upd_same V 11 _, (by omega), (Blk.new _ _ _)⟩))
     ·intro D V zw1 a hR hI K hK;obtain ⟨hS1, hM1, hB1, hG1⟩ := hI.1;obtain ⟨hGK, hG1⟩ := hG1;have zd10 := hR.pred 10 (by kernel_rfl);have zf10 : V 10 = .pointer (some ⟨b, 0, none⟩) := hI.2 10 zd10 rfl;have zd11 := hR.pred 11 (by kernel_rfl);have zF11 : ∃ (g_11 : Nat), V 11 = .slice (some ⟨g_11, 0, none⟩) 3 3 ∧ w6.heap.size ≤ g_11 ∧ Blk zw1 g_11 9 #[(.string { data := #[] }), (.string { data := #[100, 101, 97, 108] }), (.string { data := #[122, 122] })] := hI.2 11 zd11 (by show (!D 12) = true; rw [hR.not]; rfl);obtain ⟨g_11, zf11, c11_0, b11_0⟩ := zF11;have ze67 := hR.frame.done (t := 67) (j := 10) (by kernel_rfl) hR.ok zd10;have ze68 := hR.frame.done (t := 68) (j := 11) (by kernel_rfl) hR.ok zd11;rw [if_pos (by rfl)];have := Bool.toNat_le (D 3);have := Bool.toNat_le (D 6);have := Bool.toNat_le (D 9);have := Bool.toNat_le (D 12)
      have hNB : N1 + (2 * (D 3).toNat + (D 6).toNat + (D 9).toNat + (D 12).toNat) ≤ 1000000000 := by omega
      skip
      go_simp;refine (somec_calls _ b _ _ _ _ [[], [100, 101, 97, 108], [122, 122]] 100 rfl (by decide) hS1 hNB b11_0 (by omega) (by decide) (by decide)).mono ?_;rintro e zw2 ⟨s_0, hs, rfl, hS2, hm2⟩;exact hK (.string ⟨s_0.toArray⟩) _ (hI.next hR (by kernel_rfl) hm2 (GB.asks hI.1 (fun _ h _ => h) hS2 hm2 (by have hn := hR.not; simp [upd, hn] <;> omega) (HGs.out D 12 _ _ (by omega) (hI.1).g hm2)) (⟨s_0, upd_same V 12 _, hs⟩))
     ·intro D V zw1 a hR hI K hK;obtain ⟨hS1, hM1, hB1, hG1⟩ := hI.1;obtain ⟨hGK, hG1⟩ := hG1;have zd3 := hR.pred 3 (by kernel_rfl);have zF3 : ∃ (k_3 : Int), V 3 = .int .i64 k_3 := hI.2 3 zd3 rfl;obtain ⟨k_3, zf3⟩ := zF3;have zd6 := hR.pred 6 (by kernel_rfl);have zF6 : ∃ (s_6 : Str), V 6 = .string ⟨s_6.toArray⟩ ∧ s_6.length ≤ 100 := hI.2 6 zd6 rfl;obtain ⟨s_6, zf6, c6_0⟩ := zF6;have zd9 := hR.pred 9 (by kernel_rfl);have zF9 : ∃ (s_9 : Str), V 9 = .string ⟨s_9.toArray⟩ ∧ s_9.length ≤ 100 := hI.2 9 zd9 rfl;obtain ⟨s_9, zf9, c9_0⟩ := zF9;have zd12 := hR.pred 12 (by kernel_rfl);have zF12 : ∃ (s_12 : Str), V 12 = .string ⟨s_12.toArray⟩ ∧ s_12.length ≤ 100 := hI.2 12 zd12 rfl;obtain ⟨s_12, zf12, c12_0⟩ := zF12;have ze60 := hR.frame.done (t := 60) (j := 3) (by kernel_rfl) hR.ok zd3;have ze63 := hR.frame.done (t := 63) (j := 6) (by kernel_rfl) hR.ok zd6;have ze66 := hR.frame.done (t := 66) (j := 9) (by kernel_rfl) hR.ok zd9;have ze69 := hR.frame.done (t := 69) (j := 12) (by kernel_rfl) hR.ok zd12;rw [if_pos (by rfl)];go_simp;exact hK (_) _ (hI.next hR (by kernel_rfl) (Mod.refl _ _) (GB.quiet hI.1 (Mod.refl _ _) (by have hn := hR.not; simp [upd, hn] <;> omega) (HGs.out D 13 zw1 zw1 (by omega) (hI.1).g (Mod.refl _ _))) (⟨k_3, s_6, s_9, s_12, upd_same V 13 _, (by first | assumption | omega), (by first | assumption | omega), (by first | assumption | omega)⟩))
     ·intro D V zw1 a hR hI K hK;obtain ⟨hS1, hM1, hB1, hG1⟩ := hI.1;obtain ⟨hGK, hG1⟩ := hG1;have zd13 := hR.pred 13 (by kernel_rfl);have zF13 : ∃ (k_13 : Int) (s_13 : Str) (sa_13 : Str) (sb_13 : Str), V 13 = .agg #[.int .i64 k_13, (.string { data := #[114, 101, 115, 112] }), .string ⟨s_13.toArray⟩, .string ⟨sa_13.toArray⟩, .string ⟨sb_13.toArray⟩] ∧ s_13.length ≤ 100 ∧ sa_13.length ≤ 100 ∧ sb_13.length ≤ 100 := hI.2 13 zd13 rfl;obtain ⟨k_13, s_13, sa_13, sb_13, zf13, c13_0, c13_1, c13_2⟩ := zF13;have ze70 := hR.frame.done (t := 70) (j := 13) (by kernel_rfl) hR.ok zd13;rw [if_pos (by rfl)];go_simp;exact hK (_) _ (hI.next hR (by kernel_rfl) ((Mod.refl _ _).alloc _) (GB.quiet hI.1 (pure_alloc _ _) (by have hn := hR.not; simp [upd, hn] <;> omega) (HGs.out D 14 _ _ (by omega) (hI.1).g ((Mod.refl _ _).alloc _))) (⟨k_13, s_13, sa_13, sb_13, _, upd_same V 14 _, (by first | assumption | omega), (by first | assumption | omega), (by first | assumption | omega), (by omega), (Blk.new _ _ _)⟩))
     ·intro D V zw1 a hR hI K hK;obtain ⟨hS1, hM1, hB1, hG1⟩ := hI.1;obtain ⟨hGK, hG1⟩ := hG1;have zd1 := hR.pred 1 (by kernel_rfl);have zf1 : V 1 = .slice A2 rs.length c2 := hI.2 1 zd1 rfl;have zd14 := hR.pred 14 (by kernel_rfl);have zF14 : ∃ (k_14 : Int) (s_14 : Str) (sa_14 : Str) (sb_14 : Str) (g_14 : Nat), V 14 = .slice (some ⟨g_14, 0, none⟩) 1 1 ∧ s_14.length ≤ 100 ∧ sa_14.length ≤ 100 ∧ sb_14.length ≤ 100 ∧ w6.heap.size ≤ g_14 ∧ Blk zw1 g_14 115 #[.int .i64 k_14, .string ⟨#[114, 101, 115, 112]⟩, .string ⟨s_14.toArray⟩, .string ⟨sa_14.toArray⟩, .string ⟨sb_14.toArray⟩] := hI.2 14 zd14 (by show (!D 15) = true; rw [hR.not]; rfl);obtain ⟨k_14, s_14, sa_14, sb_14, g_14, zf14, c14_0, c14_1, c14_2, c14_3, b14_0⟩ := zF14;have ze58 := hR.frame.done (t := 58) (j := 1) (by kernel_rfl) hR.ok zd1;have ze71 := hR.frame.done (t := 71) (j := 14) (by kernel_rfl) hR.ok zd14;rw [if_pos (by rfl)];have hown := (hGK hR.not).2.2.2.2.2.2;refine wp_append_lies _ (.tmp 58) (.tmp 71) 61 (by rfl) gr 115 i0 _ 5 72 Tryz.underlying61 hi0 hz0 hz1 hz2 (by rfl) (by omega) (.slice A2 rs.length c2) (rs.length) (rulV rs) ?_ hown ⟨g_14, 0, none⟩ 1 1 [.int .i64 k_14, .string ⟨#[114, 101, 115, 112]⟩, .string ⟨s_14.toArray⟩, .string ⟨sa_14.toArray⟩, .string ⟨sb_14.toArray⟩] ?_ (by rfl) (World.news_of_block (cs := #[.int .i64 k_14, .string ⟨#[114, 101, 115, 112]⟩, .string ⟨s_14.toArray⟩, .string ⟨sa_14.toArray⟩, .string ⟨sb_14.toArray⟩]) (t := 115) (fr := (0, 0)) b14_0) (by simp [Value.oneCell']) (by omega) (by simp [maxLen]; omega) (by omega) (by omega) zw1.heap.size rfl ?_
      ·show a.tmps.getD 58 undef = _; simp [ze58, zf1]
      ·show a.tmps.getD 71 undef = _; simp [ze71, zf14]
      intro g5 cap5 zw2 hown5 hgrow hat hlt5;have hT := mod_grown hgrow;have hTb : ∀ j, (.slice A2 rs.length c2 : Value).ownBlock = some j → gr ≤ j := own_block hown;have hTl : ∀ j, (.slice A2 rs.length c2 : Value).ownBlock = some j → j < w6.heap.size := HOL.out;refine hK _ _ (InvF.last (GB.writes hI.1 (fun j hj => by have := hTb j hj; omega) (fun j hj hl => by have := hTb j hj; omega) hT (by have hn := hR.not; simp [upd, hn] <;> omega) ⟨fun hs => absurd hs (by rw [upd_same]; decide), (hG1.mod hT (fun h => by have h2 := hG1; unfold Blk at h2; exact absurd (own_ty (hGK hR.not).2.2.2.2.2.2 h h2) (by decide)))⟩) ⟨_, _, k_14, s_14, sa_14, sb_14, upd_same V 15 _, c14_0, c14_1, c14_2, (hGK hR.not).rewR hT (by simpa [rulV_snoc, rulC] using hown5) (by simp)⟩ ?_);intro k hk hDk hlv;have hkl := hR.lt k hDk;have hv := hI.2 k hDk (liveB_of hlv)
      match k, hk, hDk, hlv, hkl, hv with
      | 0, _, _, _, _, hv => exact hv
      | 1, _, _, _, _, hv => exact hv
      | 2, _, _, _, _, hv => exact hv
      | 3, _, _, _, _, hv => exact hv
      | 4, _, _, _, _, hv => exact hv
      | 5, _, _, hlv, _, _ => exact absurd hlv (by show ¬ (!upd D 15 true 6) = true; rw [upd_ne _ _ (by omega), hR.closed 9 _ 6 rfl (by kernel_rfl) (hR.closed 12 _ 9 rfl (by kernel_rfl) (hR.pred 12 (by kernel_rfl)))]; decide)
      | 6, _, _, _, _, hv => exact hv
      | 7, _, _, _, _, hv => exact hv
      | 8, _, _, hlv, _, _ => exact absurd hlv (by show ¬ (!upd D 15 true 9) = true; rw [upd_ne _ _ (by omega), hR.closed 12 _ 9 rfl (by kernel_rfl) (hR.pred 12 (by kernel_rfl))]; decide)
      | 9, _, _, _, _, hv => exact hv
      | 10, _, _, _, _, hv => exact hv
      | 11, _, _, hlv, _, _ => exact absurd hlv (by show ¬ (!upd D 15 true 12) = true; rw [upd_ne _ _ (by omega), hR.pred 12 (by kernel_rfl)]; decide)
      | 12, _, _, _, _, hv => exact hv
      | 13, _, _, _, _, hv => exact hv
      | 14, _, _, hlv, _, _ => exact absurd hlv (by show ¬ (!upd D 15 true 15) = true; rw [upd_same]; decide)
      | 15, hk, _, _, _, _ => exact absurd rfl hk
      | 16, _, _, _, _, hv => exact hv
      | 17, _, hDk, _, _, _ => exact absurd hDk (by rw [hR.later 17 rfl (by kernel_rfl)]; decide)
      | k + 18, _, _, _, hkl, _ => exact absurd hkl (by simp)
     ·intro D V zw1 a hR hI K hK;obtain ⟨hS1, hM1, hB1, hG1⟩ := hI.1;obtain ⟨hGK, hG1⟩ := hG1;have ze3 := hR.frame.other (t := 3) (by kernel_rfl) rfl;rw [if_pos (by rfl)];go_simp;exact hK (.pointer (some ⟨gl, 1, none⟩)) _ (hI.next hR (by kernel_rfl) (Mod.refl _ _) (GB.quiet hI.1 (Mod.refl _ _) (by have hn := hR.not; simp [upd, hn] <;> omega) (HGs.out D 16 zw1 zw1 (by omega) (hI.1).g (Mod.refl _ _))) (upd_same V 16 _))
     ·intro D V zw1 a hR hI K hK;obtain ⟨hS1, hM1, hB1, hG1⟩ := hI.1;obtain ⟨hGK, hG1⟩ := hG1;have zd16 := hR.pred 16 (by kernel_rfl);have zf16 : V 16 = .pointer (some ⟨gl, 1, none⟩) := hI.2 16 zd16 rfl;have zd15 := hR.pred 15 (by kernel_rfl);have zF15 : ∃ (g_15 : Nat) (c_15 : Nat) (k_15 : Int) (s_15 : Str) (sa_15 : Str) (sb_15 : Str), V 15 = .slice (some ⟨g_15, 0, none⟩) (rs.length + 1) c_15 ∧ s_15.length ≤ 100 ∧ sa_15.length ≤ 100 ∧ sb_15.length ≤ 100 ∧ LgQ zw1 b gr gl (.slice (some ⟨ga, 0, none⟩) al.length c) (.slice A2 rs.length c2) (.slice (some ⟨g_15, 0, none⟩) (rs.length + 1) c_15) al (rs ++ [⟨k_15, [114, 101, 115, 112], s_15, sa_15, sb_15⟩]) := hI.2 15 zd15 (by show (!D 17) = true; rw [hR.not]; rfl);obtain ⟨g_15, c_15, k_15, s_15, sa_15, sb_15, zf15, c15_0, c15_1, c15_2, b15_0⟩ := zF15;have ze73 := hR.frame.done (t := 73) (j := 16) (by kernel_rfl) hR.ok zd16;have ze72 := hR.frame.done (t := 72) (j := 15) (by kernel_rfl) hR.ok zd15;rw [if_pos (by rfl)];have hP := b15_0;have zx0 := hP.2.2.2.1.cell 1;have zy0 := hP.2.2.2.1.frozen 1;simp at zx0;have hSt := hP.storeR;go_simp;refine hK undef _ (InvF.last ⟨(hS1.setCell (by show b < gl; omega) _).more (by have hn := hR.not; simp [upd, hn] <;> omega), hM1.setCell (.inr (by show _ ≤ gl; omega)) _, (by simpa using hB1), ⟨fun hs => absurd hs (by rw [upd_ne _ _ (by omega), hR.pred 15 (by kernel_rfl)]; decide), hG1.far (by show gr ≠ gl; omega) _⟩⟩ ⟨upd_same _ 17 _, _, _, _, ⟨by simp [StB], by simp [StB]; omega, by simp [StB]; omega, by simp [StB]; omega⟩, hSt⟩ ?_);intro k hk hDk hlv;have hkl := hR.lt k hDk;have hv := hI.2 k hDk (liveB_of hlv)
      match k, hk, hDk, hlv, hkl, hv with
      | 0, _, _, _, _, hv => exact hv
      | 1, _, _, _, _, hv => exact hv
      | 2, _, _, _, _, hv => exact hv
      | 3, _, _, _, _, hv => exact hv
      | 4, _, _, _, _, hv => exact hv
      | 5, _, _, hlv, _, _ => exact absurd hlv (by show ¬ (!upd D 17 true 6) = true; rw [upd_ne _ _ (by omega), hR.pred 6 (by kernel_rfl)]; decide)
      | 6, _, _, _, _, hv => exact hv
      | 7, _, _, _, _, hv => exact hv
      | 8, _, _, hlv, _, _ => exact absurd hlv (by show ¬ (!upd D 17 true 9) = true; rw [upd_ne _ _ (by omega), hR.pred 9 (by kernel_rfl)]; decide)
      | 9, _, _, _, _, hv => exact hv
      | 10, _, _, _, _, hv => exact hv
      | 11, _, _, hlv, _, _ => exact absurd hlv (by show ¬ (!upd D 17 true 12) = true; rw [upd_ne _ _ (by omega), hR.pred 12 (by kernel_rfl)]; decide)
      | 12, _, _, _, _, hv => exact hv
      | 13, _, _, _, _, hv => exact hv
      | 14, _, _, hlv, _, _ => exact absurd hlv (by show ¬ (!upd D 17 true 15) = true; rw [upd_ne _ _ (by omega), hR.pred 15 (by kernel_rfl)]; decide)
      | 15, _, _, hlv, _, _ => exact absurd hlv (by show ¬ (!upd D 17 true 17) = true; rw [upd_same]; decide)
      | 16, _, _, _, _, hv => exact hv
      | 17, hk, _, _, _, _ => exact absurd rfl hk
      | k + 18, _, _, _, hkl, _ => exact absurd hkl (by simp)
    ·intro D V w7 hD hI;obtain ⟨hS1, hM1, hB1, hG1⟩ := hI.1;have hSx : Strm w7 b (N1 + 5) := hS1.more (by show _ ≤ _; have := Bool.toNat_le (D 3); have := Bool.toNat_le (D 6); have := Bool.toNat_le (D 9); have := Bool.toNat_le (D 12); omega);clear hS1;have hMx := hM1;clear hM1;have hBx := hB1;clear hB1;have hGx := hG1.2;clear hG1;have zf0 : V 0 = .pointer (some ⟨gl, 1, none⟩) := hI.2 0 (hD 0 (by decide)) rfl;have zf1 : V 1 = .slice A2 rs.length c2 := hI.2 1 (hD 1 (by decide)) rfl;have zf2 : V 2 = .pointer (some ⟨b, 0, none⟩) := hI.2 2 (hD 2 (by decide)) rfl;have zF3 : ∃ (k_3 : Int), V 3 = .int .i64 k_3 := hI.2 3 (hD 3 (by decide)) rfl;obtain ⟨k_3, zf3⟩ := zF3;have zf4 : V 4 = .pointer (some ⟨b, 0, none⟩) := hI.2 4 (hD 4 (by decide)) rfl;have zF6 : ∃ (s_6 : Str), V 6 = .string ⟨s_6.toArray⟩ ∧ s_6.length ≤ 100 := hI.2 6 (hD 6 (by decide)) rfl;obtain ⟨s_6, zf6, c6_0⟩ := zF6;have zf7 : V 7 = .pointer (some ⟨b, 0, none⟩) := hI.2 7 (hD 7 (by decide)) rfl;have zF9 : ∃ (s_9 : Str), V 9 = .string ⟨s_9.toArray⟩ ∧ s_9.length ≤ 100 := hI.2 9 (hD 9 (by decide)) rfl;obtain ⟨s_9, zf9, c9_0⟩ := zF9;have zf10 : V 10 = .pointer (some ⟨b, 0, none⟩) := hI.2 10 (hD 10 (by decide)) rfl;have zF12 : ∃ (s_12 : Str), V 12 = .string ⟨s_12.toArray⟩ ∧ s_12.length ≤ 100 := hI.2 12 (hD 12 (by decide)) rfl;obtain ⟨s_12, zf12, c12_0⟩ := zF12;have zF13 : ∃ (k_13 : Int) (s_13 : Str) (sa_13 : Str) (sb_13 : Str), V 13 = .agg #[.int .i64 k_13, (.string { data := #[114, 101, 115, 112] }), .string ⟨s_13.toArray⟩, .string ⟨sa_13.toArray⟩, .string ⟨sb_13.toArray⟩] ∧ s_13.length ≤ 100 ∧ sa_13.length ≤ 100 ∧ sb_13.length ≤ 100 := hI.2 13 (hD 13 (by decide)) rfl;obtain ⟨k_13, s_13, sa_13, sb_13, zf13, c13_0, c13_1, c13_2⟩ := zF13;have zf16 : V 16 = .pointer (some ⟨gl, 1, none⟩) := hI.2 16 (hD 16 (by decide)) rfl;have zF17 : V 17 = undef ∧ LgEx w7 b gr gl (.slice (some ⟨ga, 0, none⟩) al.length c) al rs := hI.2 17 (hD 17 (by decide)) rfl;obtain ⟨zf17, b17_0⟩ := zF17;clear hI hD HGs;simp only [frAll, Act.put, List.setIfInBounds_toArray, List.set_cons_zero, List.set_cons_succ, Nat.zero_add, Nat.reduceAdd, zf0, zf1, zf2, zf3, zf4, zf6, zf7, zf9, zf10, zf12, zf13, zf16, zf17];clear zf0 zf1 zf2 zf3 zf4 zf6 zf7 zf9 zf10 zf12 zf13 zf16 zf17;generalize V 5 = u5;generalize V 8 = u8;generalize V 11 = u11;generalize V 14 = u14;generalize V 15 = u15;clear V D;obtain ⟨g5, c5, r5, hr5, hQ7⟩ := b17_0;have HQ7 := Lib.hid hQ7;have HR5 := Lib.hid hr5;clear hQ7 HQ6 HG6
     go_wp2_with fail
     go_meet
     exact ⟨LgQ.fin (n := al.length) (c := c) (n2 := rs.length + 1) (c2 := c5) HQ7.out hGx hgne hl3 (by simp; omega) HAB.out (fun r hr => by
      rcases List.mem_append.1 hr with hr | hr
      ·exact HRB.out r hr
      ·rw [List.mem_singleton.1 hr]; exact HR5.out), hSx.more (by omega), hMx⟩
   have k3' : (z == 3) = false := by simpa using k3
   clear k3
   go_upto_region 5 with (fail)
   have HGs := Lib.hid (show ∀ (D : Nat → Bool) (zzi : Nat) (zq zq' : World), zzi ≠ 7 → (fun D zq => (D 7 = false → (fun Z => LgQ Z b gr gl (.slice (some ⟨ga, 0, none⟩) al.length c) (.slice A2 rs.length c2) (.slice A2 rs.length c2) al rs) zq) ∧ (fun Z => Blk Z gr 63 #[.slice none 0 0, .slice none 0 0]) zq) D zq → Mod (· = b) zq zq' → (fun D zq => (D 7 = false → (fun Z => LgQ Z b gr gl (.slice (some ⟨ga, 0, none⟩) al.length c) (.slice A2 rs.length c2) (.slice A2 rs.length c2) al rs) zq) ∧ (fun Z => Blk Z gr 63 #[.slice none 0 0, .slice none 0 0]) zq) (upd D zzi true) zq' from by intro D zzi zq zq' hi hh hm; refine ⟨fun hs => ?_, ?_⟩; (rw [upd_ne _ _ (Ne.symm hi)] at hs; have h := hh.1 hs; (exact h.ask hm)); (have h := hh.2; (exact h.modb hm (by omega))))
   refine wp_region_inv (by kernel_rfl) (by kernel_rfl) (InvF (R := Mod (· = b)) [.is (.pointer (some ⟨gl, 1, none⟩)),
     .is (.slice A2 rs.length c2),
     .is (.pointer (some ⟨b, 0, none⟩)),
     ⟨fun zv zw => ∃ (g_3 : Nat), zv = .slice (some ⟨g_3, 0, none⟩) 2 2 ∧ w6.heap.size ≤ g_3 ∧ Blk zw g_3 9 #[(.string { data := #[110, 111, 110, 101] }), (.string { data := #[] })], (by rintro zv zw zx ⟨g_3, rfl, c0, q0⟩ hm; exact ⟨g_3, rfl, c0, (q0.modb hm (by omega))⟩), none, some 4⟩,
     .val (fun zv => ∃ (s_4 : Str), zv = .string ⟨s_4.toArray⟩ ∧ s_4.length ≤ 100),
     .val (fun zv => ∃ (s_5 : Str), zv = .agg #[(.int .i64 1), .string ⟨s_5.toArray⟩, (.string { data := #[121, 101, 115] }), (.string { data := #[119, 104, 121] }), .string ⟨#[]⟩] ∧ s_5.length ≤ 100),
     ⟨fun zv zw => ∃ (s_6 : Str) (g_6 : Nat), zv = .slice (some ⟨g_6, 0, none⟩) 1 1 ∧ s_6.length ≤ 100 ∧ w6.heap.size ≤ g_6 ∧ Blk zw g_6 115 #[.int .i64 1, .string ⟨s_6.toArray⟩, .string ⟨#[121, 101, 115]⟩, .string ⟨#[119, 104, 121]⟩, .string ⟨#[]⟩], (by rintro zv zw zx ⟨s_6, g_6, rfl, c0, c1, q0⟩ hm; exact ⟨s_6, g_6, rfl, c0, c1, (q0.modb hm (by omega))⟩), none, some 7⟩,
     ⟨fun zv zw => ∃ (g_7 : Nat) (c_7 : Nat) (s_7 : Str), zv = .slice (some ⟨g_7, 0, none⟩) (rs.length + 1) c_7 ∧ s_7.length ≤ 100 ∧ LgQ zw b gr gl (.slice (some ⟨ga, 0, none⟩) al.length c) (.slice A2 rs.length c2) (.slice (some ⟨g_7, 0, none⟩) (rs.length + 1) c_7) al (rs ++ [⟨1, s_7, [121, 101, 115], [119, 104, 121], []⟩]), (by rintro zv zw zx ⟨g_7, c_7, s_7, rfl, c0, q0⟩ hm; exact ⟨g_7, c_7, s_7, rfl, c0, (q0.ask hm)⟩), none, some 9⟩,
     .is (.pointer (some ⟨gl, 1, none⟩)),
     ⟨fun zv zw => zv = undef ∧ LgEx zw b gr gl (.slice (some ⟨ga, 0, none⟩) al.length c) al rs, (by rintro zv zw zx ⟨rfl, q0⟩ hm; exact ⟨rfl, (q0.ask hm)⟩), none, none⟩]
     (GB w (· = b) w6.heap.size b (N1) (fun D => (D 4).toNat) (fun D zq => (D 7 = false → (fun Z => LgQ Z b gr gl (.slice (some ⟨ga, 0, none⟩) al.length c) (.slice A2 rs.length c2) (.slice A2 rs.length c2) al rs) zq) ∧ (fun Z => Blk Z gr 63 #[.slice none 0 0, .slice none 0 0]) zq))) (InvF.start (GB.start hS6 hm6 (Nat.le_refl _) (⟨fun _ => HQ6.out.ask ((Mod.refl _ _).drew), HG6.out.drew⟩))) ?_ ?_
   ·refine .cons ?_ (.cons ?_ (.cons ?_ (.cons ?_ (.cons ?_ (.cons ?_ (.cons ?_ (.cons ?_ (.cons ?_ (.cons ?_ .nil)))))))))
    ·intro D V zw1 a hR hI K hK;obtain ⟨hS1, hM1, hB1, hG1⟩ := hI.1;obtain ⟨hGK, hG1⟩ := hG1;have ze3 := hR.frame.other (t := 3) (by kernel_rfl) rfl;rw [if_pos (by rfl)];go_simp;exact hK (.pointer (some ⟨gl, 1, none⟩)) _ (hI.next hR (by kernel_rfl) (Mod.refl _ _) (GB.quiet hI.1 (Mod.refl _ _) (by have hn := hR.not; simp [upd, hn] <;> omega) (HGs.out D 0 zw1 zw1 (by omega) (hI.1).g (Mod.refl _ _))) (upd_same V 0 _))
    ·intro D V zw1 a hR hI K hK;obtain ⟨hS1, hM1, hB1, hG1⟩ := hI.1;obtain ⟨hGK, hG1⟩ := hG1;have zd0 := hR.pred 0 (by kernel_rfl);have zf0 : V 0 = .pointer (some ⟨gl, 1, none⟩) := hI.2 0 zd0 rfl;have ze19 := hR.frame.done (t := 19) (j := 0) (by kernel_rfl) hR.ok zd0;have zB := (hGK (hR.later 7 rfl (by kernel_rfl))).2.2.2.1;have zx0 := zB.cell 1;simp at zx0;rw [if_pos (by rfl)];go_simp;exact hK (.slice A2 rs.length c2) _ (hI.next hR (by kernel_rfl) (Mod.refl _ _) (GB.quiet hI.1 (Mod.refl _ _) (by have hn := hR.not; simp [upd, hn] <;> omega) (HGs.out D 1 zw1 zw1 (by omega) (hI.1).g (Mod.refl _ _))) (upd_same V 1 _))
    ·intro D V zw1 a hR hI K hK;obtain ⟨hS1, hM1, hB1, hG1⟩ := hI.1;obtain ⟨hGK, hG1⟩ := hG1;have ze0 := hR.frame.other (t := 0) (by kernel_rfl) rfl;rw [if_pos (by rfl)];go_simp;exact hK (.pointer (some ⟨b, 0, none⟩)) _ (hI.next hR (by kernel_rfl) (Mod.refl _ _) (GB.quiet hI.1 (Mod.refl _ _) (by have hn := hR.not; simp [upd, hn] <;> omega) (HGs.out D 2 zw1 zw1 (by omega) (hI.1).g (Mod.refl _ _))) (upd_same V 2 _))
    ·intro D V zw1 a hR hI K hK;obtain ⟨hS1, hM1, hB1, hG1⟩ := hI.1;obtain ⟨hGK, hG1⟩ := hG1;rw [if_pos (by rfl)];go_simp;exact hK (_) _ (hI.next hR (by kernel_rfl) ((Mod.refl _ _).alloc _) (GB.quiet hI.1 (pure_alloc _ _) (by have hn := hR.not; simp [upd, hn] <;> omega) (HGs.out D 3 _ _ (by omega) (hI.1).g ((Mod.refl _ _).alloc _))) (⟨_, upd_same V 3 _, (by omega), (Blk.new _ _ _)⟩))
    ·intro D V zw1 a hR hI K hK;obtain ⟨hS1, hM1, hB1, hG1⟩ := hI.1;obtain ⟨hGK, hG1⟩ := hG1;have zd2 := hR.pred 2 (by kernel_rfl);have zf2 : V 2 = .pointer (some ⟨b, 0, none⟩) := hI.2 2 zd2 rfl;have zd3 := hR.pred 3 (by kernel_rfl);have zF3 : ∃ (g_3 : Nat), V 3 = .slice (some ⟨g_3, 0, none⟩) 2 2 ∧ w6.heap.size ≤ g_3 ∧ Blk zw1 g_3 9 #[(.string { data := #[110, 111, 110, 101] }), (.string { data := #[] })] := hI.2 3 zd3 (by show (!D 4) = true; rw [hR.not]; rfl);obtain ⟨g_3, zf3, c3_0, b3_0⟩ := zF3;have ze21 := hR.frame.done (t := 21) (j := 2) (by kernel_rfl) hR.ok zd2;have ze22 := hR.frame.done (t := 22) (j := 3) (by kernel_rfl) hR.ok zd3;rw [if_pos (by rfl)];have := Bool.toNat_le (D 4)
     have hNB : N1 + ((D 4).toNat) ≤ 1000000000 := by omega
     skip
     go_simp;refine (somec_calls _ b _ _ _ _ [[110, 111, 110, 101], []] 100 rfl (by decide) hS1 hNB b3_0 (by omega) (by decide) (by decide)).mono ?_;rintro e zw2 ⟨s_0, hs, rfl, hS2, hm2⟩;exact hK (.string ⟨s_0.toArray⟩) _ (hI.next hR (by kernel_rfl) hm2 (GB.asks hI.1 (fun _ h _ => h) hS2 hm2 (by have hn := hR.not; simp [upd, hn] <;> omega) (HGs.out D 4 _ _ (by omega) (hI.1).g hm2)) (⟨s_0, upd_same V 4 _, hs⟩))
    ·intro D V zw1 a hR hI K hK;obtain ⟨hS1, hM1, hB1, hG1⟩ := hI.1;obtain ⟨hGK, hG1⟩ := hG1;have zd4 := hR.pred 4 (by kernel_rfl);have zF4 : ∃ (s_4 : Str), V 4 = .string ⟨s_4.toArray⟩ ∧ s_4.length ≤ 100 := hI.2 4 zd4 rfl;obtain ⟨s_4, zf4, c4_0⟩ := zF4;have ze23 := hR.frame.done (t := 23) (j := 4) (by kernel_rfl) hR.ok zd4;rw [if_pos (by rfl)];go_simp;exact hK (_) _ (hI.next hR (by kernel_rfl) (Mod.refl _ _) (GB.quiet hI.1 (Mod.refl _ _) (by have hn := hR.not; simp [upd, hn] <;> omega) (HGs.out D 5 zw1 zw1 (by omega) (hI.1).g (Mod.refl _ _))) (⟨s_4, upd_same V 5 _, (by first | assumption | omega)⟩))
    ·intro D V zw1 a hR hI K hK;obtain ⟨hS1, hM1, hB1, hG1⟩ := hI.1;obtain ⟨hGK, hG1⟩ := hG1;have zd5 := hR.pred 5 (by kernel_rfl);have zF5 : ∃ (s_5 : Str), V 5 = .agg #[(.int .i64 1), .string ⟨s_5.toArray⟩, (.string { data := #[121, 101, 115] }), (.string { data := #[119, 104, 121] }), .string ⟨#[]⟩] ∧ s_5.length ≤ 100 := hI.2 5 zd5 rfl;obtain ⟨s_5, zf5, c5_0⟩ := zF5;have ze24 := hR.frame.done (t := 24) (j := 5) (by kernel_rfl) hR.ok zd5;rw [if_pos (by rfl)];go_simp;exact hK (_) _ (hI.next hR (by kernel_rfl) ((Mod.refl _ _).alloc _) (GB.quiet hI.1 (pure_alloc _ _) (by have hn := hR.not; simp [upd, hn] <;> omega) (HGs.out D 6 _ _ (by omega) (hI.1).g ((Mod.refl _ _).alloc _))) (⟨s_5, _, upd_same V 6 _, (by first | assumption | omega), (by omega), (Blk.new _ _ _)⟩))
    ·intro D V zw1 a hR hI K hK;obtain ⟨hS1, hM1, hB1, hG1⟩ := hI.1;obtain ⟨hGK, hG1⟩ := hG1;have zd1 := hR.pred 1 (by kernel_rfl);have zf1 : V 1 = .slice A2 rs.length c2 := hI.2 1 zd1 rfl;have zd6 := hR.pred 6 (by kernel_rfl);have zF6 : ∃ (s_6 : Str) (g_6 : Nat), V 6 = .slice (some ⟨g_6, 0, none⟩) 1 1 ∧ s_6.length ≤ 100 ∧ w6.heap.size ≤ g_6 ∧ Blk zw1 g_6 115 #[.int .i64 1, .string ⟨s_6.toArray⟩, .string ⟨#[121, 101, 115]⟩, .string ⟨#[119, 104, 121]⟩, .string ⟨#[]⟩] := hI.2 6 zd6 (by show (!D 7) = true; rw [hR.not]; rfl);obtain ⟨s_6, g_6, zf6, c6_0, c6_1, b6_0⟩ := zF6;have ze20 := hR.frame.done (t := 20) (j := 1) (by kernel_rfl) hR.ok zd1;have ze25 := hR.frame.done (t := 25) (j := 6) (by kernel_rfl) hR.ok zd6;rw [if_pos (by rfl)];have hown := (hGK hR.not).2.2.2.2.2.2;refine wp_append_lies _ (.tmp 20) (.tmp 25) 61 (by rfl) gr 115 i0 _ 5 72 Tryz.underlying61 hi0 hz0 hz1 hz2 (by rfl) (by omega) (.slice A2 rs.length c2) (rs.length) (rulV rs) ?_ hown ⟨g_6, 0, none⟩ 1 1 [.int .i64 1, .string ⟨s_6.toArray⟩, .string ⟨#[121, 101, 115]⟩, .string ⟨#[119, 104, 121]⟩, .string ⟨#[]⟩] ?_ (by rfl) (World.news_of_block (cs := #[.int .i64 1, .string ⟨s_6.toArray⟩, .string ⟨#[121, 101, 115]⟩, .string ⟨#[119, 104, 121]⟩, .string ⟨#[]⟩]) (t := 115) (fr := (0, 0)) b6_0) (by simp [Value.oneCell']) (by omega) (by simp [maxLen]; omega) (by omega) (by omega) zw1.heap.size rfl ?_
     ·show a.tmps.getD 20 undef = _; simp [ze20, zf1]
     ·show a.tmps.getD 25 undef = _; simp [ze25, zf6]
     intro g5 cap5 zw2 hown5 hgrow hat hlt5;have hT := mod_grown hgrow;have hTb : ∀ j, (.slice A2 rs.length c2 : Value).ownBlock = some j → gr ≤ j := own_block hown;have hTl : ∀ j, (.slice A2 rs.length c2 : Value).ownBlock = some j → j < w6.heap.size := HOL.out;refine hK _ _ (InvF.last (GB.writes hI.1 (fun j hj => by have := hTb j hj; omega) (fun j hj hl => by have := hTb j hj; omega) hT (by have hn := hR.not; simp [upd, hn] <;> omega) ⟨fun hs => absurd hs (by rw [upd_same]; decide), (hG1.mod hT (fun h => by have h2 := hG1; unfold Blk at h2; exact absurd (own_ty (hGK hR.not).2.2.2.2.2.2 h h2) (by decide)))⟩) ⟨_, _, s_6, upd_same V 7 _, c6_0, (hGK hR.not).rewR hT (by simpa [rulV_snoc, rulC] using hown5) (by simp)⟩ ?_);intro k hk hDk hlv;have hkl := hR.lt k hDk;have hv := hI.2 k hDk (liveB_of hlv)
     match k, hk, hDk, hlv, hkl, hv with
     | 0, _, _, _, _, hv => exact hv
     | 1, _, _, _, _, hv => exact hv
     | 2, _, _, _, _, hv => exact hv
     | 3, _, _, hlv, _, _ => exact absurd hlv (by show ¬ (!upd D 7 true 4) = true; rw [upd_ne _ _ (by omega), hR.pred 4 (by kernel_rfl)]; decide)
     | 4, _, _, _, _, hv => exact hv
     | 5, _, _, _, _, hv => exact hv
     | 6, _, _, hlv, _, _ => exact absurd hlv (by show ¬ (!upd D 7 true 7) = true; rw [upd_same]; decide)
     | 7, hk, _, _, _, _ => exact absurd rfl hk
     | 8, _, _, _, _, hv => exact hv
     | 9, _, hDk, _, _, _ => exact absurd hDk (by rw [hR.later 9 rfl (by kernel_rfl)]; decide)
     | k + 10, _, _, _, hkl, _ => exact absurd hkl (by simp)
    ·intro D V zw1 a hR hI K hK;obtain ⟨hS1, hM1, hB1, hG1⟩ := hI.1;obtain ⟨hGK, hG1⟩ := hG1;have ze3 := hR.frame.other (t := 3) (by kernel_rfl) rfl;rw [if_pos (by rfl)];go_simp;exact hK (.pointer (some ⟨gl, 1, none⟩)) _ (hI.next hR (by kernel_rfl) (Mod.refl _ _) (GB.quiet hI.1 (Mod.refl _ _) (by have hn := hR.not; simp [upd, hn] <;> omega) (HGs.out D 8 zw1 zw1 (by omega) (hI.1).g (Mod.refl _ _))) (upd_same V 8 _))
    ·intro D V zw1 a hR hI K hK;obtain ⟨hS1, hM1, hB1, hG1⟩ := hI.1;obtain ⟨hGK, hG1⟩ := hG1;have zd8 := hR.pred 8 (by kernel_rfl);have zf8 : V 8 = .pointer (some ⟨gl, 1, none⟩) := hI.2 8 zd8 rfl;have zd7 := hR.pred 7 (by kernel_rfl);have zF7 : ∃ (g_7 : Nat) (c_7 : Nat) (s_7 : Str), V 7 = .slice (some ⟨g_7, 0, none⟩) (rs.length + 1) c_7 ∧ s_7.length ≤ 100 ∧ LgQ zw1 b gr gl (.slice (some ⟨ga, 0, none⟩) al.length c) (.slice A2 rs.length c2) (.slice (some ⟨g_7, 0, none⟩) (rs.length + 1) c_7) al (rs ++ [⟨1, s_7, [121, 101, 115], [119, 104, 121], []⟩]) := hI.2 7 zd7 (by show (!D 9) = true; rw [hR.not]; rfl);obtain ⟨g_7, c_7, s_7, zf7, c7_0, b7_0⟩ := zF7;have ze27 := hR.frame.done (t := 27) (j := 8) (by kernel_rfl) hR.ok zd8;have ze26 := hR.frame.done (t := 26) (j := 7) (by kernel_rfl) hR.ok zd7;rw [if_pos (by rfl)];have hP := b7_0;have zx0 := hP.2.2.2.1.cell 1;have zy0 := hP.2.2.2.1.frozen 1;simp at zx0;have hSt := hP.storeR;go_simp;refine hK undef _ (InvF.last ⟨(hS1.setCell (by show b < gl; omega) _).more (by have hn := hR.not; simp [upd, hn] <;> omega), hM1.setCell (.inr (by show _ ≤ gl; omega)) _, (by simpa using hB1), ⟨fun hs => absurd hs (by rw [upd_ne _ _ (by omega), hR.pred 7 (by kernel_rfl)]; decide), hG1.far (by show gr ≠ gl; omega) _⟩⟩ ⟨upd_same _ 9 _, _, _, _, ⟨by simp [StB]; omega, by simp [StB], by simp [StB], by simp [StB]⟩, hSt⟩ ?_);intro k hk hDk hlv;have hkl := hR.lt k hDk;have hv := hI.2 k hDk (liveB_of hlv)
     match k, hk, hDk, hlv, hkl, hv with
     | 0, _, _, _, _, hv => exact hv
     | 1, _, _, _, _, hv => exact hv
     | 2, _, _, _, _, hv => exact hv
     | 3, _, _, hlv, _, _ => exact absurd hlv (by show ¬ (!upd D 9 true 4) = true; rw [upd_ne _ _ (by omega), hR.pred 4 (by kernel_rfl)]; decide)
     | 4, _, _, _, _, hv => exact hv
     | 5, _, _, _, _, hv => exact hv
     | 6, _, _, hlv, _, _ => exact absurd hlv (by show ¬ (!upd D 9 true 7) = true; rw [upd_ne _ _ (by omega), hR.pred 7 (by kernel_rfl)]; decide)
     | 7, _, _, hlv, _, _ => exact absurd hlv (by show ¬ (!upd D 9 true 9) = true; rw [upd_same]; decide)
     | 8, _, _, _, _, hv => exact hv
     | 9, hk, _, _, _, _ => exact absurd rfl hk
     | k + 10, _, _, _, hkl, _ => exact absurd hkl (by simp)
   ·intro D V w7 hD hI;obtain ⟨hS1, hM1, hB1, hG1⟩ := hI.1;have hSx : Strm w7 b (N1 + 1) := hS1.more (by show _ ≤ _; have := Bool.toNat_le (D 4); omega);clear hS1;have hMx := hM1;clear hM1;have hBx := hB1;clear hB1;have hGx := hG1.2;clear hG1;have zf0 : V 0 = .pointer (some ⟨gl, 1, none⟩) := hI.2 0 (hD 0 (by decide)) rfl;have zf1 : V 1 = .slice A2 rs.length c2 := hI.2 1 (hD 1 (by decide)) rfl;have zf2 : V 2 = .pointer (some ⟨b, 0, none⟩) := hI.2 2 (hD 2 (by decide)) rfl;have zF4 : ∃ (s_4 : Str), V 4 = .string ⟨s_4.toArray⟩ ∧ s_4.length ≤ 100 := hI.2 4 (hD 4 (by decide)) rfl;obtain ⟨s_4, zf4, c4_0⟩ := zF4;have zF5 : ∃ (s_5 : Str), V 5 = .agg #[(.int .i64 1), .string ⟨s_5.toArray⟩, (.string { data := #[121, 101, 115] }), (.string { data := #[119, 104, 121] }), .string ⟨#[]⟩] ∧ s_5.length ≤ 100 := hI.2 5 (hD 5 (by decide)) rfl;obtain ⟨s_5, zf5, c5_0⟩ := zF5;have zf8 : V 8 = .pointer (some ⟨gl, 1, none⟩) := hI.2 8 (hD 8 (by decide)) rfl;have zF9 : V 9 = undef ∧ LgEx w7 b gr gl (.slice (some ⟨ga, 0, none⟩) al.length c) al rs := hI.2 9 (hD 9 (by decide)) rfl;obtain ⟨zf9, b9_0⟩ := zF9;clear hI hD HGs;simp only [frAll, Act.put, List.setIfInBounds_toArray, List.set_cons_zero, List.set_cons_succ, Nat.zero_add, Nat.reduceAdd, zf0, zf1, zf2, zf4, zf5, zf8, zf9];clear zf0 zf1 zf2 zf4 zf5 zf8 zf9;generalize V 3 = u3;generalize V 6 = u6;generalize V 7 = u7;clear V D;obtain ⟨g5, c5, r5, hr5, hQ7⟩ := b9_0;have HQ7 := Lib.hid hQ7;have HR5 := Lib.hid hr5;clear hQ7 HQ6 HG6
    go_wp2_with fail
    go_meet
    exact ⟨LgQ.fin (n := al.length) (c := c) (n2 := rs.length + 1) (c2 := c5) HQ7.out hGx hgne hl3 (by simp; omega) HAB.out (fun r hr => by
     rcases List.mem_append.1 hr with hr | hr
     ·exact HRB.out r hr
     ·rw [List.mem_singleton.1 hr]; exact HR5.out), hSx.more (by omega), hMx⟩
 case rest =>
  obtain ⟨hF, hS9, m9⟩ := hcut;obtain ⟨hne, hglw, A5, A6, n5, c5, n6, c6, L, hB, hG, hL, h1, h2, h3, h4⟩ := hF;have HL := Lib.hid hL;have H3 := Lib.hid h3;have H4 := Lib.hid h4;have HGB := Lib.hid hG;have HGE := Lib.hid ((hG.set 0 (.slice A5 n5 c5)).set 1 (.slice A6 n6 c6));have x0 := hB.cell 0; have x1 := hB.cell 1; simp at x0 x1;have y0 := hG.cell 0; have yf0 := hG.frozen 0; have y1 := hG.cell 1; have yf1 := hG.frozen 1; simp at y0 y1;clear hB hG hL h3 h4 HQ3 HG3 HM3 hS3 HAB HRB
  go_wp2_with fail
  have hGE := HGE.out;have z0 := hGE.cell 0; have z1 := hGE.cell 1; simp at z0 z1
  try simp only [Exit.inBlock, Exit.then]
  refine bodyPost_ret (v := .agg #[.slice A5 n5 c5, .slice A6 n6 c6]) (by simp [results, Tryz.results26, go_sem, z0, z1]) rfl ?_;have hmr : Mod (· = gr) wc ((wc.setCell ⟨gr, 0, none⟩ (.slice A5 n5 c5)).setCell ⟨gr, 1, none⟩ (.slice A6 n6 c6)) := ((Mod.refl (· = gr) wc).setCell (.inl rfl) _).setCell (.inl rfl) _;obtain ⟨A', n', c', A2', n2', c2', e1, ⟨hA1, hA2⟩, hR⟩ := HL.out;have hfar : ∀ (e : TypeId) (size : Nat) (v : Value) (xs : List Value), e ≠ 63 → Sl wc e size v xs → Sl ((wc.setCell ⟨gr, 0, none⟩ (.slice A5 n5 c5)).setCell ⟨gr, 1, none⟩ (.slice A6 n6 c6)) e size v xs := fun e size v xs hne h => h.mod hmr (fun g arr fr hg => blk_ty HGB.out hg (fun h => hne h.symm));exact ⟨A5, A6, n5, c5, n6, c6, L, rfl, ⟨A', n', c', A2', n2', c2', e1, ⟨hfar _ _ _ _ (by decide) hA1, fun x hx => hfar _ _ _ _ (by decide) (hA2 x hx)⟩, hfar _ _ _ _ (by decide) hR⟩, h1, h2, H3.out, H4.out, (hS9.setCell (by show b < gr; omega) _).setCell (by show b < gr; omega) _, (m9.setCell (.inr (by show w.heap.size ≤ gr; omega)) _).setCell (.inr (by show w.heap.size ≤ gr; omega)) _⟩

theorem layout_calls (w : World) (b N : Nat) (hS : Strm w b N) (hN : N ≤ 500000000) : Calls Tryz.prog 26 #[.pointer (some ⟨b, 0, none⟩)] w (LayPost w b N) := by
 refine (layoutM_calls w b N hS hN).mono ?_;rintro e w1 ⟨A, A2, n, c, n2, c2, L, h1, h2, h3, h4, h5, h6⟩;exact ⟨A, A2, n, c, n2, c2, L, h1, h2, h3, h4, fun a ha => (h5 a ha).b (by omega) (by omega), h6⟩

end Go.Proofs.YtpinlcapgoljfaaGreatDoor

/- The generator of values. -/
namespace Go.Proofs.YtpinlcapgoljfaaGreatDoor
open Go.RowKit

theorem info_cho : (Tryz.prog.info? 125).map (fun i => (i.zero, i.size, i.bytes)) = some (some (.agg #[.string ⟨#[]⟩, .slice none 0 0]), 2, 40) := by kernel_rfl
/-- The slices of choices lie below bl, none of them is b. -/
def ChT (W : World) (b bl : Nat) (cs : List ChoR) : Prop := ∀ x ∈ cs, Sl W 9 1 (.slice x.A x.ch.length x.c) (strsV x.ch) ∧ ∀ g, (Value.slice x.A x.ch.length x.c).ownBlock = some g → g ≠ b ∧ g < bl
section
variable {W W' : World} {b bl bl' : Nat} {cs : List ChoR}
theorem ChT.mod {S : Nat → Prop} (h : ChT W b bl cs) (hm : Mod S W W') (hs : ∀ g, g ≠ b → g < bl → ¬ S g) : ChT W' b bl cs := fun x hx => ⟨(h x hx).1.mod_ob hm (fun g hg => hs g ((h x hx).2 g hg).1 ((h x hx).2 g hg).2), (h x hx).2⟩
theorem ChT.ask (h : ChT W b bl cs) (hm : Mod (· = b) W W') : ChT W' b bl cs := h.mod hm (fun g hg _ => hg)
theorem ChT.up (h : ChT W b bl cs) (hb : bl ≤ bl') : ChT W b bl' cs := fun x hx => ⟨(h x hx).1, fun g hg => ⟨((h x hx).2 g hg).1, Nat.lt_of_lt_of_le ((h x hx).2 g hg).2 hb⟩⟩
end
/-- The values under way. -/
def VgQ (W : World) (b base bl : Nat) (vo : Value) (cs : List ChoR) : Prop := b < base ∧ base ≤ bl ∧ bl ≤ W.heap.size ∧ W.ownsRow base 125 2 vo cs.length (choV cs) ∧ ChT W b bl cs
section
variable {W W' : World} {b base bl bl' n5 : Nat} {vo v5 : Value} {cs cs5 : List ChoR}
theorem VgQ.ask (h : VgQ W b base bl vo cs) (hm : Mod (· = b) W W') : VgQ W' b base bl vo cs := by
 obtain ⟨h1, h2, h3, ho, ht⟩ := h;exact ⟨h1, h2, Nat.le_trans h3 hm.size, own_mod ho hm (fun i hi => by have := own_block ho i hi; omega), ht.ask hm⟩
theorem VgQ.up (h : VgQ W b base bl vo cs) (h1 : bl ≤ bl') (h2 : bl' ≤ W.heap.size) : VgQ W b base bl' vo cs := ⟨h.1, Nat.le_trans h.2.1 h1, h2, h.2.2.2.1, h.2.2.2.2.up h1⟩
/-- A block of choices that is not the row is written. -/
theorem VgQ.far {g : Nat} {cells : Array Value} (h : VgQ W b base bl vo cs) (hm : Mod (· = g) W W') (hX : Blk W g 125 cells) (h2 : ∀ i, vo.ownBlock = some i → i ≠ g) : VgQ W' b base bl vo cs := by
 obtain ⟨q1, q2, q3, ho, ht⟩ := h;exact ⟨q1, q2, Nat.le_trans q3 hm.size, own_mod ho hm (fun i hi => h2 i hi), fun x hx => ⟨(ht x hx).1.mod hm (fun k arr fr hk => blk_ty hX hk (by decide)), (ht x hx).2⟩⟩
/-- Blocks from bl on are written that are not the row's. -/
theorem VgQ.new {S : Nat → Prop} (h : VgQ W b base bl vo cs) (hm : Mod S W W') (h1 : ∀ g, S g → bl ≤ g) (h2 : ∀ g, vo.ownBlock = some g → ¬ S g) : VgQ W' b base bl vo cs := by
 obtain ⟨q1, q2, q3, ho, ht⟩ := h;exact ⟨q1, q2, Nat.le_trans q3 hm.size, own_mod ho hm h2, ht.mod hm (fun g _ hlt hs => by have := h1 g hs; omega)⟩
end
def ValPost (w : World) (b N : Nat) (e : Ending) (w' : World) : Prop :=
 ∃ (A : Option Addr) (n c : Nat) (cs : List ChoR), e = .returned (.slice A n c) ∧ Vals w' (.slice A n c) cs ∧ cs.length ≤ 10 ∧ (∀ x ∈ cs, ChoB x) ∧ Strm w' b (N + 400) ∧ Mod (· = b) w w'
def ValPostM (M K : Nat) (w : World) (b N : Nat) (e : Ending) (w' : World) : Prop :=
 ∃ (A : Option Addr) (n c : Nat) (cs : List ChoR), e = .returned (.slice A n c) ∧ Vals w' (.slice A n c) cs ∧ cs.length ≤ 4 ∧ (∀ x ∈ cs, ChoM M K x) ∧ Strm w' b (N + 400) ∧ Mod (· = b) w w'
def VlRel (M K : Nat) (w : World) (b N base g1 : Nat) (A A2 : Option Addr) (n c n2 c2 m : Nat) (gk : Nat) (x i : Value) (wr : World) : Prop :=
 ∃ (k cap bl : Nat) (Ao : Option Addr) (cs : List ChoR), m - k = gk ∧ k ≤ m ∧ x = .slice Ao cs.length cap ∧ i = .int .i64 (k : Int) ∧ cs.length ≤ k ∧ (∀ y ∈ cs, ChoM M K y) ∧ VgQ wr b base bl (.slice Ao cs.length cap) cs ∧ Blk wr g1 63 #[.slice A n c, .slice A2 n2 c2] ∧ Strm wr b (N + 110 * k) ∧ Mod (· = b) w wr
def ViRel (M : Nat) (w : World) (b N base bl g1 g7 g8 : Nat) (A A2 : Option Addr) (n c n2 c2 m cap : Nat) (Ao : Option Addr) (cs : List ChoR) (xf : Str) (xA : Option Addr) (xc xn : Nat) (xm : Bool) (xp : Int) (gk : Nat) (i : Value) (wr : World) : Prop :=
 ∃ (j cc : Nat) (Ac : Option Addr) (ch : List Str), m - j = gk ∧ j ≤ m ∧ i = .int .i64 (j : Int) ∧ ch.length ≤ j ∧ (∀ s ∈ ch, s.length ≤ M) ∧ Blk wr g8 125 #[.string ⟨xf.toArray⟩, .slice Ac ch.length cc] ∧ wr.ownsRow bl 9 1 (.slice Ac ch.length cc) ch.length (strsV ch) ∧
  VgQ wr b base bl (.slice Ao cs.length cap) cs ∧ Blk wr g7 113 #[.string ⟨xf.toArray⟩, .slice xA xn xc, .bool xm, .int .i64 xp] ∧ Blk wr g1 63 #[.slice A n c, .slice A2 n2 c2] ∧ Strm wr b (N + j) ∧ Mod (· = b) w wr

set_option maxRecDepth 100000 in
set_option maxHeartbeats 16000000 in
theorem valuesM_calls (M K : Nat) (hM4 : 4 ≤ M) (hK3 : 3 ≤ K) (hK100 : K ≤ 100) (w : World) (b N : Nat) (vl : Value) (L : LayR) (hS : Strm w b N) (hN : N ≤ 500000000) (hL : LayV w L vl) (hla : L.asks.length ≤ 3) (hab : ∀ a ∈ L.asks, AskM M K a) : Calls Tryz.prog 63 #[.pointer (some ⟨b, 0, none⟩), vl] w (ValPostM M K w b N) := by
 have hbl := hS.lt;obtain ⟨A, n, c, A2, n2, c2, rfl, hA, hR⟩ := hL;have hn := hA.len;obtain ⟨hcap, hcap2⟩ := hA.cap;have HAB := Lib.hid hab;have HAS : Hid (∀ W, Mod (· = b) w W → Asks W (.slice A n c) L.asks) := Lib.hid (fun W h => hA.strm hS h)
 have HNB : Hid (∀ g off xs, RowAt w 9 g off xs → g ≠ b) := Lib.hid (fun g off xs h => by
  obtain ⟨_, _, _, _, hBs, _⟩ := hS
  exact h.ne hBs (by decide))
 have HB0 := Lib.hid (Blk.new w 63 #[.slice A n c, .slice A2 n2 c2]);have HS0 := Lib.hid (hS.alloc (.cells #[.slice A n c, .slice A2 n2 c2] 63));have HM0 : Hid (Mod (· = b) w (w.alloc (.cells #[.slice A n c, .slice A2 n2 c2] 63))) := Lib.hid ((Mod.refl _ _).alloc _);clear hA hR hS hab
 go_enter Tryz.func63, Tryz.ntmps63
 go_upto_region 1 with (fail)
 have hz1 : (w.alloc (.cells #[.slice A n c, .slice A2 n2 c2] 63)).heap.size = w.heap.size + 1 := by simp
 generalize (w.alloc (.cells #[.slice A n c, .slice A2 n2 c2] 63)) = w1 at *;generalize hg1 : w.heap.size = g1 at *;have hwg1 := Nat.le_of_eq hg1;clear hg1;have hB0 := HB0.out;have x0 := hB0.cell 0; have x1 := hB0.cell 1; simp at x0 x1;clear hB0
 go_wp2_with fail
 go_loopg [5, 14] n (fun gk x i wr => VlRel M K w b N w1.heap.size g1 A A2 n c n2 c2 n gk x i wr)
 case atStart => exact ⟨0, 0, w1.heap.size, none, [], by omega, by omega, rfl, rfl, by simp, fun y h => absurd h (by simp), ⟨by omega, Nat.le_refl _, Nat.le_refl _, ⟨rfl, .inl ⟨rfl, rfl⟩⟩, fun x h => absurd h (by simp)⟩, HB0.out, HS0.out, HM0.out⟩
 case round =>
  clear x0 x1 HB0 HS0 HM0;obtain ⟨k, cap, bl, Ao, cs, rfl, hk, rfl, rfl, hck, hcz, hQ, hB, hS, hm⟩ := hrel;have HQ := Lib.hid hQ;have HB := Lib.hid hB;have HM := Lib.hid hm;have HCZ := Lib.hid hcz;clear hQ hB hcz
  by_cases hlt : k < n
  ·have hkl : k < L.asks.length := by omega
   obtain ⟨g, off, rfl, q0, q1, q2, q3⟩ := (HAS.out _ hm).cells hkl;have HXS := Lib.hid (fun W (h : Mod (· = b) w W) => (HAS.out W h).2 _ (List.getElem_mem hkl));have hxb := HAB.out _ (List.getElem_mem hkl);generalize L.asks[k] = x at *;obtain ⟨xf, xA, xc, xs, xm, xp⟩ := x;simp only [] at q0 q1 q2 q3 HXS hxb;obtain ⟨hxf, ⟨hxs, hxz⟩, _, _⟩ := hxb;simp only at hxf hxs hxz;have HXZ := Lib.hid hxz;have HX7 := Lib.hid (Blk.new wr 113 #[.string ⟨xf.toArray⟩, .slice xA xs.length xc, .bool xm, .int .i64 xp]);have HA7 : Hid (Mod (· = b) wr (wr.alloc (.cells #[.string ⟨xf.toArray⟩, .slice xA xs.length xc, .bool xm, .int .i64 xp] 113))) := Lib.hid ((Mod.refl _ _).alloc _);have hblw := hS.lt;have hglw := HB.out.lt;have hblr := HQ.out.2.2.1;have hX7 := HX7.out;have y0 := hX7.cell 0; have y1 := hX7.cell 1; have y2 := hX7.cell 2; have y3 := hX7.cell 3; simp at y0 y1 y2 y3;clear hxz hX7 hm
   go_wp2_with fail
   refine (flip_calls _ b _ _ (hS.alloc _) (by omega) (by omega) (by omega)).mono ?_;rintro e w3 ⟨fl, rfl, hS3, hM3⟩;have hA3 := HA7.out.trans hM3;have HQ3 := Lib.hid (HQ.out.ask hA3);have HB3 := Lib.hid (HB.out.mod hA3 (by omega));have HX3 := Lib.hid (HX7.out.mod hM3 (by omega));have HM3 := Lib.hid (HM.out.trans hA3);have hz3 := hM3.size;simp only [World.size_alloc] at hz3;have hX3 := HX3.out;clear q0 q1 q2 q3 y0 y1 y2 y3 HX7 HA7 HQ HB HM hM3 hA3 hS;have hbg7 : b < wr.heap.size := hblw;have hblg7 : bl ≤ wr.heap.size := hblr;have hg17 : g1 < wr.heap.size := hglw;generalize wr.heap.size = g7 at *;clear wr hblw hglw hblr;have y0 := hX3.cell 0; have y1 := hX3.cell 1; have y2 := hX3.cell 2; have y3 := hX3.cell 3; simp at y0 y1 y2 y3;clear hX3;have SKIP : Hid (VlRel M K w b N w1.heap.size g1 (some ⟨g, off, none⟩) A2 n c n2 c2 n (n - (k + 1)) (.slice Ao cs.length cap) (.int .i64 ((k : Int) + 1)) w3) := Lib.hid ⟨k + 1, cap, bl, Ao, cs, rfl, by omega, rfl, by simp, by omega, HCZ.out, HQ3.out, HB3.out, hS3.more (by omega), HM3.out⟩
   cases fl
   ·by_cases hx0 : xs.length = 0
    ·have hx0' : (xs.length : Int) = 0 := by omega
     have hx0'' : ((xs.length : Int) == 0) = true := by rw [hx0']; rfl
     clear hx0
     go_wp2_with fail
     go_roundg (n - (k + 1))
     case measure => omega
     case rel => exact SKIP.out
    have hx0' : ((xs.length : Int) == 0) = false := by rw [beq_eq_false_iff_ne]; omega
    obtain ⟨A', n', c', e1, hc1, hc2, hl1, hr1⟩ := HXS.out w (Mod.refl _ _)
    injection e1 with e1 e2 e3
    subst e1 e2 e3;obtain ⟨gs, offs, rfl, hrs⟩ := hr1 (by omega);have hgsb := HNB.out _ _ _ hrs;have HRS : Hid (∀ W, Mod (· = b) w W → RowAt W 9 gs offs (strsV xs)) := Lib.hid (fun W h => hrs.mod h hgsb)
    have hz8 : (w3.alloc (.cells #[.string ⟨xf.toArray⟩, .slice none 0 0] 125)).heap.size = w3.heap.size + 1 := by simp
    have HX8 := Lib.hid (HX3.out.alloc (.cells #[.string ⟨xf.toArray⟩, .slice none 0 0] 125));have HB8 := Lib.hid (HB3.out.alloc (.cells #[.string ⟨xf.toArray⟩, .slice none 0 0] 125));have HC8 := Lib.hid (Blk.new w3 125 #[.string ⟨xf.toArray⟩, .slice none 0 0]);have HQ8 := Lib.hid ((HQ3.out.ask ((Mod.refl (· = b) w3).alloc (.cells #[.string ⟨xf.toArray⟩, .slice none 0 0] 125))).up (bl' := (w3.alloc (.cells #[.string ⟨xf.toArray⟩, .slice none 0 0] 125)).heap.size) (by have := HQ3.out.2.2.1; omega) (Nat.le_refl _));have HS8 := Lib.hid (hS3.alloc (.cells #[.string ⟨xf.toArray⟩, .slice none 0 0] 125));have HM8 := Lib.hid (HM3.out.alloc (.cells #[.string ⟨xf.toArray⟩, .slice none 0 0] 125));have HOB8 : Hid (∀ i, (Value.slice Ao cs.length cap).ownBlock = some i → i ≠ w3.heap.size) := Lib.hid (fun i hi => by have := (HQ3.out.2.2.2.1.lt i hi).2; omega);have hg78 : g7 < w3.heap.size := HX3.out.lt;have hg18 : g1 < w3.heap.size := HB3.out.lt
    have hb8 : b < w3.heap.size := by omega
    have hwg8 : w.heap.size ≤ w3.heap.size := HM3.out.size
    have hxsl : xs.length ≤ 100 := by omega
    clear hl1 hr1 hrs HXS HX3 HB3 HQ3 hS3 HM3 SKIP hx0
    go_upto_region 7 with (fail)
    generalize (w3.alloc (.cells #[.string ⟨xf.toArray⟩, .slice none 0 0] 125)) = W8 at *;generalize w3.heap.size = g8 at *;clear w3 y0 y1 y2 y3;have hX8 := HX8.out;have y0 := hX8.cell 0; have y1 := hX8.cell 1; have y2 := hX8.cell 2; have y3 := hX8.cell 3; simp at y0 y1 y2 y3;clear hX8
    go_wp2_with fail
    clear hx0'
    go_loopg [32] xs.length (fun gk i wr => ViRel M w b (N + 110 * k + 1) w1.heap.size W8.heap.size g1 g7 g8 (some ⟨g, off, none⟩) A2 n c n2 c2 xs.length cap Ao cs xf (some ⟨gs, offs, none⟩) xc xs.length xm xp gk i wr)
    case atStart => exact ⟨0, 0, none, [], by omega, by omega, rfl, by simp, fun s h => absurd h (by simp), HC8.out, ⟨rfl, .inl ⟨rfl, rfl⟩⟩, HQ8.out, HX8.out, HB8.out, HS8.out.more (by omega), HM8.out⟩
    case round =>
     clear y0 y1 y2 y3 HX8 HB8 HC8 HQ8 HS8 HM8;obtain ⟨j, cc, Ac, ch, rfl, hj, rfl, hcj, hchz, hC, hown, hQ, hX, hB, hS, hm⟩ := hrel;have HC := Lib.hid hC;have HOW := Lib.hid hown;have HQ := Lib.hid hQ;have HX := Lib.hid hX;have HB := Lib.hid hB;have HM := Lib.hid hm;have HHZ := Lib.hid hchz;have hblw := hS.lt;have hbl8w := hQ.2.2.1;have y0 := hX.cell 0; have y1 := hX.cell 1; have y2 := hX.cell 2; have y3 := hX.cell 3; simp at y0 y1 y2 y3;have z0 := hC.cell 0; have zf0 := hC.frozen 0; have z1 := hC.cell 1; have zf1 := hC.frozen 1; simp at z0 z1;clear hC hown hQ hX hB hchz
     by_cases hjl : j < xs.length
     ·have hq := (HRS.out _ hm).cell (strsV_get xs j hjl);have hzs := HXZ.out _ (List.getElem_mem hjl)
      have hjc : (j : Int) < (xs.length : Int) := by omega
      clear hm;generalize xs[j] = s at *
      go_upto_region 10 with (fail)
      clear hq
      go_cut [47] (fun p wx => ∃ f2 : Bool, p = .bool f2 ∧ Strm wx b (N + 110 * k + 1 + j + 1) ∧ Mod (· = b) wr wx)
      case first =>
       cases xm
       ·by_cases hc0 : ch.length = 0
        ·have hc0' : (ch.length : Int) = 0 := by omega
         have hc0'' : ((ch.length : Int) == 0) = true := by rw [hc0']; rfl
         go_wp2_with fail
         refine (flip_calls _ b _ _ hS (by omega) (by omega) (by omega)).mono ?_;rintro e w4 ⟨f2, rfl, hS4, hM4⟩
         go_wp2_with fail
         go_meet;exact ⟨f2, rfl, hS4.more (by omega), hM4⟩
        ·have hc0'' : ((ch.length : Int) == 0) = false := by rw [beq_eq_false_iff_ne]; omega
         have hc1 : ¬ (ch.length : Int) = 0 := by omega
         go_wp2_with fail
         go_meet;exact ⟨false, rfl, hS.more (by omega), Mod.refl _ _⟩
       ·go_wp2_with fail
        refine (flip_calls _ b _ _ hS (by omega) (by omega) (by omega)).mono ?_;rintro e w4 ⟨f2, rfl, hS4, hM4⟩
        go_wp2_with fail
        go_meet;exact ⟨f2, rfl, hS4.more (by omega), hM4⟩
      case rest =>
       obtain ⟨f2, rfl, hS5, hA5⟩ := hcut;have HC5 := Lib.hid (HC.out.mod hA5 (by omega));have HO5 := Lib.hid (own_mod HOW.out hA5 (fun i hi => by have := own_block HOW.out i hi; omega));have HQ5 := Lib.hid (HQ.out.ask hA5);have HX5 := Lib.hid (HX.out.mod hA5 (by omega));have HB5 := Lib.hid (HB.out.mod hA5 (by omega));have HM5 := Lib.hid (HM.out.trans hA5);have hbl5 := HQ5.out.2.2.1;clear y0 y1 y2 y3 z0 z1 zf0 zf1 HC HOW HQ HX HB HM hS hA5
       cases f2
       ·go_wp2_with fail
        go_roundg (xs.length - (j + 1))
        case measure => omega
        case rel => exact ⟨j + 1, cc, Ac, ch, rfl, by omega, by simp, by omega, HHZ.out, HC5.out, HO5.out, HQ5.out, HX5.out, HB5.out, hS5.more (by omega), HM5.out⟩
       ·obtain ⟨i0, hi0, hz0, hz1, hz2⟩ := info_parts info_str0;have hownS := HO5.out;have hmS := HM5.out;have hC5 := HC5.out;have z0 := hC5.cell 0; have z1 := hC5.cell 1; simp at z0 z1;clear hC5
        go_wp2_with ((at_builtin; refine wpList_append_lies _ rfl _ _ _ rfl W8.heap.size 9 i0 _ 1 16 Tryz.underlying29 hi0 hz0 hz1 hz2 rfl (by omega) (.slice Ac ch.length cc) ch.length (strsV ch) rfl (hownS.alloc _) ⟨wc.heap.size, 0, none⟩ 1 1 [.string ⟨s.toArray⟩] rfl rfl (World.news_of_block (cs := #[.string ⟨s.toArray⟩]) (t := 9) (fr := (0, 0)) (heap_alloc_new wc _)) (by simp [Value.oneCell']) (by omega) (by simp [maxLen]; omega) (by omega) (by have := hmS.size; simp; omega) (wc.heap.size + 1) (by simp) ?_; intro g5 cap5 w5 hown5 hgrow hat hlt5); have hC6 := (HC5.out.alloc (.cells #[.string ⟨s.toArray⟩] 9)).mod (mod_grown hgrow) (fun hv => by have h2 := HC5.out.alloc (.cells #[.string ⟨s.toArray⟩] 9); unfold Blk at h2; exact absurd (own_ty (HO5.out.alloc (.cells #[.string ⟨s.toArray⟩] 9)) hv h2) (by decide)); have q1 := hC6.cell 1; have q2 := hC6.frozen 1; simp at q1)
        go_roundg (xs.length - (j + 1))
        case measure => omega
        case rel =>
         have hob := own_block hownS;have hoa := hownS.alloc (.cells #[.string ⟨s.toArray⟩] 9);have mG := mod_grown hgrow;have hm8 : Mod (· = g8) w5 (w5.setCell ⟨g8, 1, none⟩ (.slice (some ⟨g5, 0, none⟩) (ch.length + 1) cap5)) := (Mod.refl (· = g8) w5).setCell (.inl rfl) _;refine ⟨j + 1, cap5, some ⟨g5, 0, none⟩, ch ++ [s], rfl, by omega, by simp, by simp; omega, fun y hy => ?_, by have h5 := hC6.set 1 (.slice (some ⟨g5, 0, none⟩) (ch.length + 1) cap5); simpa using h5, ?_, ?_, ?_, ?_, ?_, ?_⟩
         ·rcases List.mem_append.1 hy with hy | hy
          ·exact HHZ.out y hy
          ·rw [List.mem_singleton.1 hy]; exact hzs
         ·have h7 : w5.ownsRow W8.heap.size 9 1 (.slice (some ⟨g5, 0, none⟩) (ch ++ [s]).length cap5) (ch ++ [s]).length (strsV (ch ++ [s])) := by simpa [strsV] using hown5
          have h8 := own_mod h7 hm8 (fun i hi => by
           obtain ⟨arr, ha⟩ := own_heap h7 hi
           exact blk_ty hC6 ha (by decide))
          simpa using h8
         ·refine ((HQ5.out.ask ((Mod.refl (· = b) wc).alloc (.cells #[.string ⟨s.toArray⟩] 9))).new mG (fun i hi => by have := hob i hi; omega) (fun i hi hv => ?_)).far hm8 hC6 HOB8.out;obtain ⟨arr, ha⟩ := own_heap (HQ5.out.2.2.2.1.alloc (.cells #[.string ⟨s.toArray⟩] 9)) hi;exact absurd (own_ty hoa hv ha) (by decide)
         ·have h2 := HX5.out.alloc (.cells #[.string ⟨s.toArray⟩] 9);exact (h2.mod mG (fun hv => by have h3 := h2; unfold Blk at h3; exact absurd (own_ty hoa hv h3) (by decide))).far (by show g7 ≠ g8; omega) _
         ·have h2 := HB5.out.alloc (.cells #[.string ⟨s.toArray⟩] 9);exact (h2.mod mG (fun hv => by have h3 := h2; unfold Blk at h3; exact absurd (own_ty hoa hv h3) (by decide))).far (by show g1 ≠ g8; omega) _
         ·exact (((hS5.alloc _).mod mG (fun i hi hv => by have := hob i hv; omega)).setCell (by show b < g8; omega) _).more (by omega)
         ·exact ((HM5.out.alloc _).grown hgrow (fun i hi => .inr (by have := hob i hi; have := HM5.out.size; omega))).setCell (.inr (by show w.heap.size ≤ g8; omega)) _
     ·have hjx : xs.length = j := by omega
      have hjc : ¬ (j : Int) < (xs.length : Int) := by omega
      clear hm
      by_cases hc0 : ch.length = 0
      ·have hc0' : ¬ (0 : Int) < (ch.length : Int) := by omega
       have hc0d : decide (0 < ch.length) = false := by rw [decide_eq_false_iff_not]; omega
       clear hc0 hjx
       go_wp2_with fail
       go_roundg (n - (k + 1))
       case measure => omega
       case rel => exact ⟨k + 1, cap, W8.heap.size, Ao, cs, rfl, by omega, rfl, by simp, by omega, HCZ.out, HQ.out, HB.out, hS.more (by omega), HM.out⟩
      ·have hc0' : (0 : Int) < (ch.length : Int) := by omega
       clear hc0 hjx;obtain ⟨i0, hi0, hz0, hz1, hz2⟩ := info_parts info_cho;have hownO := HQ.out.2.2.2.1;have hmO := HM.out
       have hbs1 : w1.heap.size ≤ wr.heap.size := by have := HQ.out.2.1; omega
       go_wp2_with ((at_builtin; refine wpList_append_lies _ rfl _ _ _ rfl w1.heap.size 125 i0 _ 2 40 Tryz.underlying74 hi0 hz0 hz1 hz2 rfl (by omega) (.slice Ao cs.length cap) cs.length (choV cs) rfl (hownO.alloc _) ⟨wr.heap.size, 0, none⟩ 1 1 [.string ⟨xf.toArray⟩, .slice Ac ch.length cc] rfl rfl (World.news_of_block (cs := #[.string ⟨xf.toArray⟩, .slice Ac ch.length cc]) (t := 125) (fr := (0, 0)) (heap_alloc_new wr _)) (by simp [Value.oneCell']) (by omega) (by simp [maxLen]; omega) (by omega) (by have := hmO.size; simp; omega) (wr.heap.size + 1) (by simp) ?_; intro g5 cap5 w5 hown5 hgrow hat hlt5))
       go_roundg (n - (k + 1))
       case measure => omega
       case rel =>
        have hob := own_block hownO;have hoa := hownO.alloc (.cells #[.string ⟨xf.toArray⟩, .slice Ac ch.length cc] 125);have mG := mod_grown hgrow;have hz5 := mG.size;simp only [World.size_alloc] at hz5;have hbase := HQ.out.2.1;have hty : ∀ i arr fr, (wr.alloc (.cells #[.string ⟨xf.toArray⟩, .slice Ac ch.length cc] 125)).heap[i]? = some (.cells arr 9 fr) → ¬ (Value.slice Ao cs.length cap).ownBlock = some i := fun i arr fr hi hv => absurd (own_ty hoa hv hi) (by decide);refine ⟨k + 1, cap5, w5.heap.size, some ⟨g5, 0, none⟩, cs ++ [⟨xf, Ac, cc, ch⟩], rfl, by omega, by simp, by simp, by simp; omega, fun y hy => ?_, ?_, ?_, ((hS.alloc _).mod mG (fun i hi hv => by have := hob i hv; omega)).more (by omega), (HM.out.alloc _).grown hgrow (fun i hi => .inr (by have := hob i hi; have := HM.out.size; omega))⟩
        ·rcases List.mem_append.1 hy with hy | hy
         ·exact HCZ.out y hy
         ·rw [List.mem_singleton.1 hy];exact ⟨by show xf.length ≤ M; omega, by show ch.length ≤ K; omega, HHZ.out⟩
        ·refine ⟨HQ.out.1, by omega, Nat.le_refl _, by simpa [choV_snoc, choC] using hown5, fun y hy => ?_⟩
         rcases List.mem_append.1 hy with hy | hy
         ·exact ⟨((HQ.out.2.2.2.2 y hy).1.pure (pure_alloc _ _)).mod mG hty, fun i hi => ⟨((HQ.out.2.2.2.2 y hy).2 i hi).1, by have := ((HQ.out.2.2.2.2 y hy).2 i hi).2; omega⟩⟩
         ·rw [List.mem_singleton.1 hy];exact ⟨((Sl.of_own HOW.out).pure (pure_alloc _ _)).mod mG hty, fun i hi => ⟨by have := own_block HOW.out i hi; omega, by have := (HOW.out.lt i hi).2; omega⟩⟩
        ·have h2 := HB.out.alloc (.cells #[.string ⟨xf.toArray⟩, .slice Ac ch.length cc] 125);exact h2.mod mG (fun hv => by have h3 := h2; unfold Blk at h3; exact absurd (own_ty hoa hv h3) (by decide))
   ·go_wp2_with fail
    go_roundg (n - (k + 1))
    case measure => omega
    case rel => exact SKIP.out
  ·have hkn : n = k := by omega
   subst hkn;clear hlt hk hm
   go_wp2_with fail
   refine (flip_calls _ b _ _ hS (by omega) (by omega) (by omega)).mono ?_;rintro e w3 ⟨fl, rfl, hS3, hM3⟩;have HQ3 := Lib.hid (HQ.out.ask hM3);have HM3 := Lib.hid (HM.out.trans hM3);have hbl3 := hS3.lt;clear HQ HB HM hM3 hS
   cases fl
   ·go_wp2_with fail
    go_ret;exact ⟨Ao, cs.length, cap, cs, rfl, ⟨Sl.of_own HQ3.out.2.2.2.1, fun x hx => (HQ3.out.2.2.2.2 x hx).1⟩, by omega, HCZ.out, hS3.more (by omega), HM3.out⟩
   ·go_wp2_with fail
    refine (somec_calls _ b _ w3.heap.size _ _ [[114, 101, 115, 112], [110, 111, 110, 101], [119, 104, 121]] 4 rfl (by decide) (hS3.alloc _) (by omega) (Blk.new _ _ _) (by omega) (by decide) (by decide)).mono ?_;rintro e w4 ⟨s, hs, rfl, hS4, hM4⟩;have hA4 : Mod (· = b) w3 w4 := ((Mod.refl (· = b) w3).alloc _).trans hM4;have HQ4 := Lib.hid (HQ3.out.ask hA4);have HM4 := Lib.hid (HM3.out.trans hA4);have hbl4 := hS4.lt;clear hM4 hA4 HQ3 HM3 hS3
    go_wp2_with fail
    refine (next_calls _ b _ _ (((((hS4.alloc _).alloc _).alloc _).alloc _).alloc _) (by omega) (by omega) (by omega)).mono ?_;rintro e w6 ⟨kq, hkq0, hkq5, rfl, hS6, hM6⟩;have hz6 := hM6.size;simp only [World.size_alloc] at hz6;have hA6 : Mod (· = b) w4 w6 := ((((((Mod.refl (· = b) w4).alloc _).alloc _).alloc _).alloc _).alloc _).trans hM6;have B1 : Blk w6 w4.heap.size 9 #[.string ⟨#[121, 101, 115]⟩] := Blk.mod (S := (· = b)) (((((Blk.new' rfl).alloc _).alloc _).alloc _).alloc _) hM6 (by omega);have B2 : Blk w6 (w4.heap.size + 1) 9 #[.string ⟨#[121, 101, 115]⟩, .string ⟨#[110, 111]⟩] := Blk.mod (S := (· = b)) ((((Blk.new' (by simp)).alloc _).alloc _).alloc _) hM6 (by omega);have B3 : Blk w6 (w4.heap.size + 1 + 1) 9 #[.string ⟨#[104, 114]⟩, .string ⟨#[100, 101, 97, 108]⟩] := Blk.mod (S := (· = b)) (((Blk.new' (by simp)).alloc _).alloc _) hM6 (by omega);have B4 : Blk w6 (w4.heap.size + 1 + 1 + 1) 9 #[.string ⟨#[122, 122]⟩] := Blk.mod (S := (· = b)) ((Blk.new' (by simp)).alloc _) hM6 (by omega);have B5 : Blk w6 (w4.heap.size + 1 + 1 + 1 + 1) 29 #[.slice none 0 0, .slice (some ⟨w4.heap.size, 0, none⟩) 1 1, .slice (some ⟨w4.heap.size + 1, 0, none⟩) 2 2, .slice (some ⟨w4.heap.size + 1 + 1, 0, none⟩) 2 2, .slice (some ⟨w4.heap.size + 1 + 1 + 1, 0, none⟩) 1 1] := Blk.mod (S := (· = b)) (Blk.new' (by simp)) hM6 (by omega);obtain ⟨kq, rfl⟩ := Int.eq_ofNat_of_zero_le hkq0
    obtain ⟨Ac, cc, ch, hcell, hsl, hgb, hcz⟩ : ∃ (Ac : Option Addr) (cc : Nat) (ch : List Str), w6.cell? ⟨w4.heap.size + 1 + 1 + 1 + 1, kq, none⟩ = some (.slice Ac ch.length cc) ∧ Sl w6 9 1 (.slice Ac ch.length cc) (strsV ch) ∧ (∀ g, (Value.slice Ac ch.length cc).ownBlock = some g → g ≠ b ∧ g < w6.heap.size) ∧ (ch.length ≤ 3 ∧ ∀ s ∈ ch, s.length ≤ 4) := by
     have h3 : kq = 0 ∨ kq = 1 ∨ kq = 2 ∨ kq = 3 ∨ kq = 4 := by omega
     rcases h3 with rfl | rfl | rfl | rfl | rfl
     ·exact ⟨none, 0, [], by rw [B5.cell]; rfl, Sl.nil_, (fun g h => by cases h), by simp⟩
     ·exact ⟨some ⟨w4.heap.size, 0, none⟩, 1, [[121, 101, 115]], by rw [B5.cell]; rfl, blkSl B1 (by simp) (by simp), (fun g h => by have h2 : w4.heap.size = g := (by simpa [Value.ownBlock] using h); omega), by simp⟩
     ·exact ⟨some ⟨w4.heap.size + 1, 0, none⟩, 2, [[121, 101, 115], [110, 111]], by rw [B5.cell]; rfl, blkSl B2 (by simp) (by simp), (fun g h => by have h2 : w4.heap.size + 1 = g := (by simpa [Value.ownBlock] using h); omega), by simp⟩
     ·exact ⟨some ⟨w4.heap.size + 1 + 1, 0, none⟩, 2, [[104, 114], [100, 101, 97, 108]], by rw [B5.cell]; rfl, blkSl B3 (by simp) (by simp), (fun g h => by have h2 : w4.heap.size + 1 + 1 = g := (by simpa [Value.ownBlock] using h); omega), by simp⟩
     ·exact ⟨some ⟨w4.heap.size + 1 + 1 + 1, 0, none⟩, 1, [[122, 122]], by rw [B5.cell]; rfl, blkSl B4 (by simp) (by simp), (fun g h => by have h2 : w4.heap.size + 1 + 1 + 1 = g := (by simpa [Value.ownBlock] using h); omega), by simp⟩
    have HSL := Lib.hid hsl;have HCZ2 := Lib.hid hcz
    have hkq5' : (kq : Int) < 5 := by omega
    have HQ6 := Lib.hid (HQ4.out.ask hA6);have HM6 := Lib.hid (HM4.out.trans hA6);obtain ⟨i0, hi0, hz0, hz1, hz2⟩ := info_parts info_cho;have hownO := HQ6.out.2.2.2.1;have hmO := HM6.out
    have hbs1 : w1.heap.size ≤ w6.heap.size := by have := HQ6.out.2.1; have := HQ6.out.2.2.1; omega
    clear B1 B2 B3 B4 B5 hsl hgb hcz hkq0 hA6 hM6 HQ4 HM4 hS4
    go_wp2_with ((at_builtin; refine wpList_append_lies _ rfl _ _ _ rfl w1.heap.size 125 i0 _ 2 40 Tryz.underlying74 hi0 hz0 hz1 hz2 rfl (by omega) (.slice Ao cs.length cap) cs.length (choV cs) rfl (hownO.alloc _) ⟨w6.heap.size, 0, none⟩ 1 1 [.string ⟨s.toArray⟩, .slice Ac ch.length cc] rfl rfl (World.news_of_block (cs := #[.string ⟨s.toArray⟩, .slice Ac ch.length cc]) (t := 125) (fr := (0, 0)) (heap_alloc_new w6 _)) (by simp [Value.oneCell']) (by omega) (by simp [maxLen]; omega) (by omega) (by have := hmO.size; simp; omega) (w6.heap.size + 1) (by simp) ?_; intro g5 cap5 w5 hown5 hgrow hat hlt5))
    go_ret;have hob := own_block hownO;have hoa := hownO.alloc (.cells #[.string ⟨s.toArray⟩, .slice Ac ch.length cc] 125);have mG := mod_grown hgrow;have hbase := HQ6.out.2.1;have hty : ∀ i arr fr, (w6.alloc (.cells #[.string ⟨s.toArray⟩, .slice Ac ch.length cc] 125)).heap[i]? = some (.cells arr 9 fr) → ¬ (Value.slice Ao cs.length cap).ownBlock = some i := fun i arr fr hi hv => absurd (own_ty hoa hv hi) (by decide)
    have h7 : w5.ownsRow w1.heap.size 125 2 (.slice (some ⟨g5, 0, none⟩) (cs.length + 1) cap5) (cs.length + 1) (choV (cs ++ [⟨s, Ac, cc, ch⟩])) := by simpa [choV_snoc, choC] using hown5
    refine ⟨some ⟨g5, 0, none⟩, cs.length + 1, cap5, cs ++ [⟨s, Ac, cc, ch⟩], rfl, ⟨Sl.of_own h7, fun y hy => ?_⟩, by simp; omega, fun y hy => ?_, ((hS6.alloc _).mod mG (fun i hi hv => by have := hob i hv; omega)).more (by omega), (HM6.out.alloc _).grown hgrow (fun i hi => .inr (by have := hob i hi; omega))⟩
    ·rcases List.mem_append.1 hy with hy | hy
     ·exact ((HQ6.out.2.2.2.2 y hy).1.pure (pure_alloc _ _)).mod mG hty
     ·rw [List.mem_singleton.1 hy];exact (HSL.out.pure (pure_alloc _ _)).mod mG hty
    ·rcases List.mem_append.1 hy with hy | hy
     ·exact HCZ.out y hy
     ·rw [List.mem_singleton.1 hy];exact ⟨by show s.length ≤ M; omega, by show ch.length ≤ K; have := HCZ2.out.1; omega, fun z hz => by have := HCZ2.out.2 z hz; omega⟩

theorem values_calls (w : World) (b N : Nat) (vl : Value) (L : LayR) (hS : Strm w b N) (hN : N ≤ 500000000) (hL : LayV w L vl) (hla : L.asks.length ≤ 3) (hab : ∀ a ∈ L.asks, AskB a) : Calls Tryz.prog 63 #[.pointer (some ⟨b, 0, none⟩), vl] w (ValPost w b N) := by
 refine (valuesM_calls 1000 100 (by omega) (by omega) (by omega) w b N vl L hS hN hL hla (fun a ha => (hab a ha).m)).mono ?_;rintro e w1 ⟨A, n, c, cs, h1, h2, h3, h4, h5⟩;exact ⟨A, n, c, cs, h1, h2, by omega, fun x hx => (h4 x hx).b (by omega) (by omega), h5⟩

end Go.Proofs.YtpinlcapgoljfaaGreatDoor

/- The ids of items that the generators make. -/
namespace Go.Proofs.YtpinlcapgoljfaaGreatDoor
open Go.RowKit

end Go.Proofs.YtpinlcapgoljfaaGreatDoor
