/- Texts of the proof of DeskHands, put together: Hash, Key, LayP, LayW, DecP, DecW, WhnQ. -/
import Derived.Test.YtgfgggeeoeppjaaGreatDoorDeskHandsZ7
import Derived.Test.YtgfgggeeoeppjaaGreatDoorDeskHandsZ12
import Derived.Lib.ConvBytes
set_option linter.unusedVariables false
set_option linter.unusedSimpArgs false
set_option maxRecDepth 100000
/- Hashes: package sample's and the reference's. -/
namespace Go.Proofs.YtgfgggeeoeppjaaGreatDoor
open Go.RowKit
def hstep (h c : Nat) : Nat := ((h ^^^ c) * 16777619) % 4294967296
def hb (i : Nat) (l : List UInt8) : Nat := l.foldl (fun h c => hstep h c.toNat) i
end Go.Proofs.YtgfgggeeoeppjaaGreatDoor
/- Keys: base.Key, sample.keyError, sample.Hash. -/
namespace Go.Proofs.YtgfgggeeoeppjaaGreatDoor
open Go.RowKit
def smallB (c : Nat) : Bool := decide (97 ≤ c ∧ c ≤ 122)
def digitB (c : Nat) : Bool := decide (48 ≤ c ∧ c ≤ 57)
def keyC (c : Nat) : Bool := smallB c || digitB c || c == 45 || c == 95
def keyB (l : List UInt8) : Bool := decide (1 ≤ l.length ∧ l.length ≤ 40) && smallB (l.getD 0 0).toNat && l.all (fun c => keyC c.toNat)
def BoolSame (w : World) (b : Bool) (e : Ending) (w' : World) : Prop := e = .returned (.bool b) ∧ w = w'
theorem BoolSame.of {w : World} {n m : Bool} (h : n = m) : BoolSame w n (.returned (.bool m)) w := ⟨by rw [h], rfl⟩
set_option maxHeartbeats 400000 in
theorem small_calls (c : Nat) (w : World) : Calls Tryz.prog 116 #[.int .u8 (c : Int)] w (BoolSame w (smallB c)) := by
 by_cases h1 : (97 : Int) ≤ (c : Int)
 ·by_cases h2 : (c : Int) ≤ 122
  all_goals
   go_enter Tryz.func116, Tryz.ntmps116
   go_wp2
   go_ret;exact BoolSame.of (by unfold smallB; simp; omega)
 ·go_enter Tryz.func116, Tryz.ntmps116
  go_wp2
  go_ret;exact BoolSame.of (by unfold smallB; simp; omega)
set_option maxHeartbeats 400000 in
theorem digit_calls (c : Nat) (w : World) : Calls Tryz.prog 117 #[.int .u8 (c : Int)] w (BoolSame w (digitB c)) := by
 by_cases h1 : (48 : Int) ≤ (c : Int)
 ·by_cases h2 : (c : Int) ≤ 57
  all_goals
   go_enter Tryz.func117, Tryz.ntmps117
   go_wp2
   go_ret;exact BoolSame.of (by unfold digitB; simp; omega)
 ·go_enter Tryz.func117, Tryz.ntmps117
  go_wp2
  go_ret;exact BoolSame.of (by unfold digitB; simp; omega)
theorem all_take_snoc (l : List UInt8) (k : Nat) (h : k < l.length) : (l.take (k + 1)).all (fun c => keyC c.toNat) = ((l.take k).all (fun c => keyC c.toNat) && keyC l[k].toNat) := by
 rw [List.take_succ_eq_append_getElem h, List.all_append]; simp
theorem all_false_of (l : List UInt8) (k : Nat) (h : k < l.length) (hk : keyC l[k].toNat = false) : l.all (fun c => keyC c.toNat) = false := by
 rw [List.all_eq_false];exact ⟨l[k], List.getElem_mem h, by simp [hk]⟩
set_option maxHeartbeats 1000000 in
theorem key_calls (w : World) (s : ByteArray) (hs : s.size ≤ 1000000) : Calls Tryz.prog 57 #[.string s] w (BoolSame w (keyB s.data.toList)) := by
 have hls : s.data.toList.length = s.size := by simp
 have HLS := Lib.hid hls;clear hls
 go_enter Tryz.func57, Tryz.ntmps57
 go_wp2_with fail
 refine (in_calls _ _ _ _).mono ?_;rintro e w' ⟨rfl, rfl⟩
 cases hin : inB (s.size : Int) 1 40
 ·have h1 := inB_false hin
  go_wp2_with fail
  go_ret;refine BoolSame.of ?_;unfold keyB;rw [decide_eq_false (by rw [HLS.out]; omega)]
  rfl
 ·obtain ⟨h1, h2⟩ := inB_true hin;clear hin
  have hpos : 0 < s.size := by omega
  have hlen : (decide (1 ≤ s.data.toList.length ∧ s.data.toList.length ≤ 40)) = true := by rw [HLS.out]; simp; omega
  have hz : (s.data.toList.getD 0 0) = s[0] := by simp [List.getD, hpos]; rfl
  have hkey : keyB s.data.toList = (smallB s[0].toNat && s.data.toList.all (fun c => keyC c.toNat)) := by unfold keyB; rw [hlen, hz]; rfl
  have HK := Lib.hid hkey;clear hkey hlen hz
  go_wp2_with fail
  refine (small_calls _ _).mono ?_;rintro e w' ⟨rfl, rfl⟩
  cases hs0 : smallB s[0].toNat
  ·go_wp2_with fail
   go_ret;exact BoolSame.of (by rw [HK.out, hs0]; rfl)
  ·go_wp2_with fail
   go_loopg [17] s.size (fun gk i wr => ∃ k : Nat, s.size - k = gk ∧ k ≤ s.size ∧ i = .int .i64 (k : Int) ∧ (s.data.toList.take k).all (fun c => keyC c.toNat) = true ∧ w = wr)
   case atStart => exact ⟨0, by omega, by omega, rfl, rfl, rfl⟩
   case round =>
    obtain ⟨k, rfl, hk, rfl, hall, rfl⟩ := hrel;have HA := Lib.hid hall;clear hall
    by_cases hlt : k < s.size
    ·have hl : k < s.data.toList.length := by rw [HLS.out]; exact hlt
     have hsn := all_take_snoc s.data.toList k hl;have hfa := all_false_of s.data.toList k hl
     have hidx : s.data.toList[k] = s[k] := by simp; rfl
     rw [hidx] at hsn hfa;have HSN := Lib.hid hsn;have HFA := Lib.hid hfa;clear hsn hfa hidx
     have nokey : keyC s[k].toNat = false → keyB s.data.toList = false := fun h => by rw [HK.out, HFA.out h]; simp
     have okkey : keyC s[k].toNat = true → (s.data.toList.take (k + 1)).all (fun c => keyC c.toNat) = true := fun h => by rw [HSN.out, HA.out, h]; rfl
     have NO := Lib.hid nokey;have OK := Lib.hid okkey;clear nokey okkey
     go_wp2_with fail
     refine (small_calls _ _).mono ?_;rintro e w' ⟨rfl, rfl⟩;generalize s[k].toNat = c at *
     cases h1 : smallB c
     ·go_wp2_with fail
      refine (digit_calls _ _).mono ?_;rintro e w' ⟨rfl, rfl⟩
      cases h2 : digitB c
      ·by_cases h3 : c = 45
       ·subst h3
        go_wp2_with fail
        go_roundg (s.size - (k + 1))
        case measure => omega
        case rel => exact ⟨k + 1, rfl, hlt, by simp, OK.out (by rfl), rfl⟩
       ·have h3' : ((c : Int) != 45) = true := by simp; omega
        by_cases h4 : c = 95
        ·subst h4
         go_wp2_with fail
         go_roundg (s.size - (k + 1))
         case measure => omega
         case rel => exact ⟨k + 1, rfl, hlt, by simp, OK.out (by rfl), rfl⟩
        ·have h4' : ((c : Int) != 95) = true := by simp; omega
         go_wp2_with fail
         go_ret;exact BoolSame.of (NO.out (by unfold keyC; rw [h1, h2]; simp; omega))
      ·go_wp2_with fail
       go_roundg (s.size - (k + 1))
       case measure => omega
       case rel => exact ⟨k + 1, rfl, hlt, by simp, OK.out (by unfold keyC; rw [h1, h2]; rfl), rfl⟩
     ·go_wp2_with fail
      go_roundg (s.size - (k + 1))
      case measure => omega
      case rel => exact ⟨k + 1, rfl, hlt, by simp, OK.out (by unfold keyC; rw [h1]; rfl), rfl⟩
    ·have hke : k = s.size := by omega
     subst hke
     go_wp2_with fail
     go_ret;refine BoolSame.of ?_;have := HA.out;rw [List.take_of_length_le (by rw [HLS.out]; omega)] at this;rw [HK.out, hs0, this]
     rfl
end Go.Proofs.YtgfgggeeoeppjaaGreatDoor
/- Layouts and values in plain words: what is wrong with them, and which rules values break. -/
namespace Go.Proofs.YtgfgggeeoeppjaaGreatDoor
open Go.RowKit
structure AskR where
 field : Str
 A : Option Addr
 c : Nat
 ch : List Str
 many : Bool
 spread : Int
structure RulR where
 kind : Int
 field : Str
 ifs : Str
 other : Str
 thn : Str
structure LayR where
 asks : List AskR
 rules : List RulR
structure ChoR where
 field : Str
 A : Option Addr
 c : Nat
 ch : List Str
def errsFrom (f : Nat → Int) (n k : Nat) : Int := firstErr (((List.range n).drop k).map f)
def errsOf (f : Nat → Int) (n : Nat) : Int := errsFrom f n 0
theorem errsFrom_step (f : Nat → Int) {n k : Nat} (h : k < n) : errsFrom f n k = if f k = 0 then errsFrom f n (k + 1) else f k := by
 unfold errsFrom;rw [List.drop_eq_getElem_cons (by simpa using h)];simp [firstErr]
theorem errsFrom_end (f : Nat → Int) (n : Nat) : errsFrom f n n = 0 := by
 unfold errsFrom;rw [List.drop_of_length_le (by simp)]
 rfl
def askIx (al : List AskR) (s : Str) : Option Nat := al.findIdx? fun a => decide (a.field = s)
def choOf (al : List AskR) (s : Str) : Option (List Str) := (al.find? fun a => decide (a.field = s)).map (·.ch)
theorem askIx_none {al : List AskR} {s : Str} (h : askIx al s = none) : choOf al s = none := by
 unfold askIx at h;rw [List.findIdx?_eq_none_iff] at h;unfold choOf;rw [List.find?_eq_none.2 (fun x hx => by have := h x hx; simpa using this)]
 rfl
theorem askIx_some {al : List AskR} {s : Str} {k : Nat} (h : askIx al s = some k) : ∃ hk : k < al.length, al[k].field = s ∧ choOf al s = some al[k].ch ∧ ∀ j (hj : j < k), al[j].field ≠ s := by
 unfold askIx at h;rw [List.findIdx?_eq_some_iff_getElem] at h;obtain ⟨hk, h1, h2⟩ := h;refine ⟨hk, by simpa using h1, ?_, fun j hj => by have := h2 j hj; simpa using this⟩;unfold choOf
 have : al.find? (fun a => decide (a.field = s)) = some al[k] := by
  rw [List.find?_eq_some_iff_getElem];exact ⟨h1, k, hk, rfl, fun j hj => by simpa using h2 j hj⟩
 rw [this]
 rfl
def offB (al : List AskR) (f c : Str) (e : Bool) : Bool := match choOf al f with
 | none => false
 | some cs => (e && decide (c = [])) || decide (c ∈ cs)
def chE (cs : List Str) (k : Nat) : Int := if keyB (cs.getD k []) = false then 5 else if cs.getD k [] ∈ cs.take k then 6 else 0
def chsE (cs : List Str) : Int := errsOf (chE cs) cs.length
def twB (al : List AskR) (k : Nat) (s : Str) : Bool := (al.take k).any fun b => decide (b.field = s)
def askN : AskR := ⟨[], none, 0, [], false, 0⟩
def askE (al : List AskR) (k : Nat) : Int :=
 let a := al.getD k askN
 if keyB a.field = false then 5 else if twB al k a.field = true then 6 else if a.ch.length = 0 then 3 else if 30 < a.ch.length then 2 else if chsE a.ch ≠ 0 then chsE a.ch else if 0 ≤ a.spread ∧ a.spread ≤ 2 then 0 else 4
def rulE (al : List AskR) (r : RulR) : Int :=
 if ¬ (r.kind = 1 ∨ r.kind = 2) then 4 else if offB al r.field r.ifs false = false ∨ offB al r.other r.thn true = false then 8 else if r.field = r.other then 14 else 0
def rulN : RulR := ⟨0, [], [], [], []⟩
def layE (L : LayR) : Int :=
 if L.asks.length = 0 then 3 else if 40 < L.asks.length then 2 else if errsOf (askE L.asks) L.asks.length ≠ 0 then errsOf (askE L.asks) L.asks.length
 else if 60 < L.rules.length then 2 else errsOf (fun k => rulE L.asks (L.rules.getD k rulN)) L.rules.length
end Go.Proofs.YtgfgggeeoeppjaaGreatDoor
/- Layouts and values in memory. -/
namespace Go.Proofs.YtgfgggeeoeppjaaGreatDoor
open Go.RowKit
def askC (x : AskR) : List Value := [.string ⟨x.field.toArray⟩, .slice x.A x.ch.length x.c, .bool x.many, .int .i64 x.spread]
def askV (xs : List AskR) : List Value := xs.flatMap askC
theorem askV_len : ∀ xs : List AskR, (askV xs).length = xs.length * 4
 | [] => rfl
 | x :: t => by
  show (askC x ++ askV t).length = _
  rw [List.length_append, askV_len t];simp [askC]; omega
theorem askV_get : ∀ (xs : List AskR) (i : Nat) (h : i < xs.length), (askV xs)[i * 4]? = some (.string ⟨xs[i].field.toArray⟩) ∧ (askV xs)[i * 4 + 1]? = some (.slice xs[i].A xs[i].ch.length xs[i].c) ∧ (askV xs)[i * 4 + 2]? = some (.bool xs[i].many) ∧ (askV xs)[i * 4 + 3]? = some (.int .i64 xs[i].spread)
 | x :: t, 0, _ => ⟨rfl, rfl, rfl, rfl⟩
 | x :: t, i + 1, h => by
  have ih := askV_get t i (by simpa using h);have e : askV (x :: t) = askC x ++ askV t := rfl
  have hs : ∀ j, (askV (x :: t))[(i + 1) * 4 + j]? = (askV t)[i * 4 + j]? := fun j => by
   rw [e, List.getElem?_append_right (by simp [askC]; omega)]
   congr 1
   simp [askC]; omega
  exact ⟨(hs 0).trans ih.1, (hs 1).trans ih.2.1, (hs 2).trans ih.2.2.1, (hs 3).trans ih.2.2.2⟩
def rulC (x : RulR) : List Value := [.int .i64 x.kind, .string ⟨x.field.toArray⟩, .string ⟨x.ifs.toArray⟩, .string ⟨x.other.toArray⟩, .string ⟨x.thn.toArray⟩]
def rulV (xs : List RulR) : List Value := xs.flatMap rulC
theorem rulV_len : ∀ xs : List RulR, (rulV xs).length = xs.length * 5
 | [] => rfl
 | x :: t => by
  show (rulC x ++ rulV t).length = _
  rw [List.length_append, rulV_len t];simp [rulC]; omega
theorem rulV_get : ∀ (xs : List RulR) (i : Nat) (h : i < xs.length), (rulV xs)[i * 5]? = some (.int .i64 xs[i].kind) ∧ (rulV xs)[i * 5 + 1]? = some (.string ⟨xs[i].field.toArray⟩) ∧ (rulV xs)[i * 5 + 2]? = some (.string ⟨xs[i].ifs.toArray⟩) ∧ (rulV xs)[i * 5 + 3]? = some (.string ⟨xs[i].other.toArray⟩) ∧ (rulV xs)[i * 5 + 4]? = some (.string ⟨xs[i].thn.toArray⟩)
 | x :: t, 0, _ => ⟨rfl, rfl, rfl, rfl, rfl⟩
 | x :: t, i + 1, h => by
  have ih := rulV_get t i (by simpa using h);have e : rulV (x :: t) = rulC x ++ rulV t := rfl
  have hs : ∀ j, (rulV (x :: t))[(i + 1) * 5 + j]? = (rulV t)[i * 5 + j]? := fun j => by
   rw [e, List.getElem?_append_right (by simp [rulC]; omega)]
   congr 1
   simp [rulC]; omega
  exact ⟨(hs 0).trans ih.1, (hs 1).trans ih.2.1, (hs 2).trans ih.2.2.1, (hs 3).trans ih.2.2.2.1, (hs 4).trans ih.2.2.2.2⟩
def AskS (W : World) (xs : List AskR) : Prop := ∀ x ∈ xs, Sl W 9 1 (.slice x.A x.ch.length x.c) (strsV x.ch)
def ChoS (W : World) (xs : List ChoR) : Prop := ∀ x ∈ xs, Sl W 9 1 (.slice x.A x.ch.length x.c) (strsV x.ch)
def Asks (W : World) (v : Value) (xs : List AskR) : Prop := Sl W 167 4 v (askV xs) ∧ AskS W xs
def Ruls (W : World) (v : Value) (xs : List RulR) : Prop := Sl W 171 5 v (rulV xs)
def LayV (W : World) (L : LayR) (v : Value) : Prop := ∃ A n c A2 n2 c2, v = .agg #[.slice A n c, .slice A2 n2 c2] ∧ Asks W (.slice A n c) L.asks ∧ Ruls W (.slice A2 n2 c2) L.rules
section
variable {w w' : World} {v : Value} {al : List AskR} {cs : List ChoR} {rs : List RulR} {L : LayR}
theorem AskS.pure (h : AskS w al) (hm : Pure w w') : AskS w' al := fun x hx => (h x hx).pure hm
theorem ChoS.pure (h : ChoS w cs) (hm : Pure w w') : ChoS w' cs := fun x hx => (h x hx).pure hm
theorem Asks.pure (h : Asks w v al) (hm : Pure w w') : Asks w' v al := ⟨h.1.pure hm, h.2.pure hm⟩
theorem LayV.pure (h : LayV w L v) (hm : Pure w w') : LayV w' L v := by
 obtain ⟨A, n, c, A2, n2, c2, e, h1, h2⟩ := h;exact ⟨A, n, c, A2, n2, c2, e, h1.pure hm, Sl.pure h2 hm⟩
theorem Asks.strm {b N : Nat} (h : Asks w v al) (hS : Strm w b N) (hm : Mod (· = b) w w') : Asks w' v al := ⟨h.1.strm hS hm (by decide), fun x hx => (h.2 x hx).strm hS hm (by decide)⟩
theorem LayV.strm {b N : Nat} (h : LayV w L v) (hS : Strm w b N) (hm : Mod (· = b) w w') : LayV w' L v := by
 obtain ⟨A, n, c, A2, n2, c2, e, h1, h2⟩ := h;exact ⟨A, n, c, A2, n2, c2, e, h1.strm hS hm, Sl.strm h2 hS hm (by decide)⟩
theorem Asks.len {A : Option Addr} {n c : Nat} (h : Asks w (.slice A n c) al) : al.length = n := by
 obtain ⟨⟨A', n', c', e, _, _, hl, _⟩, _⟩ := h
 injection e with _ e2 _
 rw [askV_len] at hl
 omega
theorem Asks.cap {A : Option Addr} {n c : Nat} (h : Asks w (.slice A n c) al) : n ≤ c ∧ c ≤ 9223372036854775807 := by
 obtain ⟨⟨A', n', c', e, h1, h2, _⟩, _⟩ := h
 injection e with _ e2 e3
 subst e2 e3;exact ⟨h1, h2⟩
theorem Ruls.len {A : Option Addr} {n c : Nat} (h : Ruls w (.slice A n c) rs) : rs.length = n := by
 obtain ⟨A', n', c', e, _, _, hl, _⟩ := h
 injection e with _ e2 _
 rw [rulV_len] at hl
 omega
end
def StB (s : Str) : Prop := s.length ≤ 1000
def StsA (ss : List Str) : Prop := ss.length ≤ 100 ∧ ∀ s ∈ ss, s.length ≤ 1000
def StsB (ss : List Str) : Prop := ss.length ≤ 1000 ∧ ∀ s ∈ ss, s.length ≤ 1000
def AskB (x : AskR) : Prop := StB x.field ∧ StsA x.ch ∧ -1099511627776 ≤ x.spread ∧ x.spread ≤ 1099511627776
def ChoB (x : ChoR) : Prop := StB x.field ∧ StsB x.ch
def RulB (x : RulR) : Prop := StB x.field ∧ StB x.ifs ∧ StB x.other ∧ StB x.thn
def AskM (M K : Nat) (x : AskR) : Prop := x.field.length ≤ M ∧ (x.ch.length ≤ K ∧ ∀ s ∈ x.ch, s.length ≤ M) ∧ -1099511627776 ≤ x.spread ∧ x.spread ≤ 1099511627776
def ChoM (M K : Nat) (x : ChoR) : Prop := x.field.length ≤ M ∧ x.ch.length ≤ K ∧ ∀ s ∈ x.ch, s.length ≤ M
theorem AskM.b {M K : Nat} {x : AskR} (h : AskM M K x) (h1 : M ≤ 1000) (h2 : K ≤ 100) : AskB x := ⟨by unfold StB; have := h.1; omega, ⟨by have := h.2.1.1; omega, fun s hs => by have := h.2.1.2 s hs; omega⟩, h.2.2⟩
theorem AskB.m {x : AskR} (h : AskB x) : AskM 1000 100 x := h
theorem ChoM.b {M K : Nat} {x : ChoR} (h : ChoM M K x) (h1 : M ≤ 1000) (h2 : K ≤ 100) : ChoB x := ⟨by unfold StB; have := h.1; omega, ⟨by have := h.2.1; omega, fun s hs => by have := h.2.2 s hs; omega⟩⟩
def AskG (x : AskR) : Prop := x.field.length ≤ 4 ∧ x.ch.length ≤ 3 ∧ (∀ s ∈ x.ch, s.length ≤ 4) ∧ 0 ≤ x.spread ∧ x.spread ≤ 2 ∧ 0 < x.ch.length
def RulG (x : RulR) : Prop := (x.kind = 1 ∨ x.kind = 2) ∧ x.field.length ≤ 4 ∧ x.ifs.length ≤ 4 ∧ x.other.length ≤ 4 ∧ x.thn.length ≤ 4
theorem AskG.b {x : AskR} (h : AskG x) : AskB x := ⟨by unfold StB; have := h.1; omega, ⟨by have := h.2.1; omega, fun s hs => by have := h.2.2.1 s hs; omega⟩, by have := h.2.2.2.1; omega, by have := h.2.2.2.2.1; omega⟩
theorem AskG.m {x : AskR} (h : AskG x) : AskM 4 3 x := ⟨h.1, ⟨h.2.1, h.2.2.1⟩, by have := h.2.2.2.1; omega, by have := h.2.2.2.2.1; omega⟩
theorem RulG.b {x : RulR} (h : RulG x) : RulB x := by
 obtain ⟨_, a, b, c, d⟩ := h;exact ⟨by unfold StB; omega, by unfold StB; omega, by unfold StB; omega, by unfold StB; omega⟩
def LayB (L : LayR) : Prop := L.asks.length ≤ 100 ∧ L.rules.length ≤ 100 ∧ (∀ a ∈ L.asks, AskB a) ∧ ∀ r ∈ L.rules, RulB r
def ValB (v : List ChoR) : Prop := v.length ≤ 1000 ∧ ∀ c ∈ v, ChoB c
end Go.Proofs.YtgfgggeeoeppjaaGreatDoor
/- Decisions in plain words: what is wrong with them, and what Decide answers. -/
namespace Go.Proofs.YtgfgggeeoeppjaaGreatDoor
open Go.RowKit
structure DecR where
 no : Int
 at_ : Int
 rev : Str
 item : Str
 sec : Bool
 A : Option Addr
 c : Nat
 vals : List ChoR
def likes (xs ys : List ChoR) : Prop := xs.map (fun x => (x.field, x.ch)) = ys.map (fun x => (x.field, x.ch))
theorem likes.refl (xs : List ChoR) : likes xs xs := rfl
theorem likes.len {xs ys : List ChoR} (h : likes xs ys) : xs.length = ys.length := by
 have := congrArg List.length h
 simpa using this
end Go.Proofs.YtgfgggeeoeppjaaGreatDoor
/- Decisions in memory. -/
namespace Go.Proofs.YtgfgggeeoeppjaaGreatDoor
open Go.RowKit
section
variable {w w' : World} {v : Value} {ds : List DecR}
end
def DecB (x : DecR) : Prop := -1099511627776 ≤ x.no ∧ x.no ≤ 1099511627776 ∧ -1099511627776 ≤ x.at_ ∧ x.at_ ≤ 1099511627776 ∧ StB x.rev ∧ StB x.item ∧ ValB x.vals
end Go.Proofs.YtgfgggeeoeppjaaGreatDoor
/- When and Key of package base, with what they give named. -/
namespace Go.Proofs.YtgfgggeeoeppjaaGreatDoor
open Go.RowKit
theorem whenQ_calls (w : World) (b : Bool) (n e : Int) (h : (if b = true then n else 0) = e) : Calls Tryz.prog 56 #[.bool b, .int .i64 n] w (IntPost w e) := by
 subst h
 cases b
 ·exact (when_f _ _).mono fun e w' h => ⟨h.1, by rw [h.2]; exact Mod.refl _ _⟩
 ·exact (when_t _ _).mono fun e w' h => ⟨h.1, by rw [h.2]; exact Mod.refl _ _⟩
theorem keyP_calls (w : World) (s : Str) (b : Bool) (h : keyB s = b) (hs : s.length ≤ 1000) : Calls Tryz.prog 57 #[.string ⟨s.toArray⟩] w (BoolPost w b) :=
 (key_calls w ⟨s.toArray⟩ (by simp [ByteArray.size]; omega)).mono fun e w' hh => ⟨by rw [hh.1, ← h], by rw [hh.2]; exact Mod.refl _ _⟩
end Go.Proofs.YtgfgggeeoeppjaaGreatDoor
