/- Texts of the proof of ItemTotals, put together: TotA, TotB. -/
import Derived.Test.YtbdeicbdehgeiaaGreatDoorItemTotalsZ15
import Derived.Test.YtbdeicbdehgeiaaGreatDoorItemTotalsZ26
import Derived.Test.YtbdeicbdehgeiaaGreatDoorItemTotalsZ37
import Derived.Test.YtbdeicbdehgeiaaGreatDoorItemTotalsZ38
import Derived.Test.YtbdeicbdehgeiaaGreatDoorItemTotalsZ40
/- Totals of package intake. -/
namespace Go.Proofs.YtbdeicbdehgeiaaGreatDoor
set_option linter.unusedVariables false
set_option linter.unusedSimpArgs false
open Go.RowKit Go.Sort

/-- What a custodian leads to. -/
def totFV (l : List Itm) (c : Str) : Option Value := (totF l c).map totVA
theorem totFV_nil : totFV [] = fun _ => none := by funext c; rfl
theorem totFV_getD (l : List Itm) (c : Str) : (totFV l c).getD (totVA tot0) = totVA ((totF l c).getD tot0) := by
  unfold totFV
  cases totF l c <;> rfl
theorem totFV_take {l : List Itm} {k : Nat} (h : k < l.length) : (fun c => if c = l[k].cust then some (totVA (totA ((totF (l.take k) l[k].cust).getD tot0) l[k])) else totFV (l.take k) c) = totFV (l.take (k + 1)) := by
  funext c
  unfold totFV
  rw [List.take_succ_eq_append_getElem h, totF_snoc]
  by_cases hc : c = l[k].cust
  · rw [if_pos hc, if_pos hc, hc]
    rfl
  · rw [if_neg hc, if_neg hc]
theorem totFV_keys (l : List Itm) (x : Str) : x ∈ uniq (l.map (·.cust)) ↔ (totFV l x).isSome = true := by
  have h := mem_custS (l := l) (c := x)
  unfold custS at h
  rw [(List.mergeSort_perm _ _).mem_iff] at h
  rw [h]
  unfold totFV
  cases totF l x <;> simp
theorem zero_tot (W : World) : (zeroValue 55).run Tryz.prog W = .ok (totVA tot0) W := by kernel_rfl
theorem info_tot : (Tryz.prog.info? 55).map (fun i => (i.zero, i.size, i.bytes)) = some (some (totVA tot0), 4, 40) := by kernel_rfl
theorem totV_snoc (xs : List Tot) (x : Tot) : totV (xs ++ [x]) = totV xs ++ totC x := by simp [totV]
/-- The bounds of what a custodian has. -/
theorem tot_bounds {l : List Itm} (hz : ∀ x ∈ l, ItB x) (hl : l.length ≤ 2000) (c : Str) : 0 ≤ ((totF l c).getD tot0).items ∧ ((totF l c).getD tot0).items ≤ 2000 ∧ 0 ≤ ((totF l c).getD tot0).fams ∧ ((totF l c).getD tot0).fams ≤ 2000 ∧ 0 ≤ ((totF l c).getD tot0).bytes ∧ ((totF l c).getD tot0).bytes ≤ 60000000 := by
  cases h : totF l c with
  | none => simp [tot0]
  | some t =>
    obtain ⟨_, h1, h2, h3, h4⟩ := (totF_spec c _ l rfl).2 t h
    obtain ⟨h5, h6⟩ := totF_bytes c _ l rfl (fun x hx => (hz x hx).2.2.2.2) t h
    simp only [Option.getD_some]
    omega
theorem MapS.alloc' {w : World} {b n : Nat} {f : Str → Option Value} (h : MapS w b n f) (o : Obj) : MapS (w.alloc o) b n f := h.pure (pure_alloc _ _)
theorem custS_mem {l : List Itm} {c : Str} (h : c ∈ custS l) : ∃ x ∈ l, x.cust = c := by
  unfold custS at h
  rw [(List.mergeSort_perm _ _).mem_iff, mem_uniq, List.mem_map] at h
  exact h
def TtRel (w : World) (bm : Nat) (l : List Itm) (gk : Nat) (i : Value) (wr : World) : Prop :=
  ∃ k n : Nat, l.length - k = gk ∧ k ≤ l.length ∧ i = .int .i64 (k : Int) ∧ MapS wr bm n (totFV (l.take k)) ∧ n ≤ k ∧ Pure w wr
def TtPost (w : World) (l : List Itm) (e : Ending) (w' : World) : Prop :=
  ∃ (A : Option Addr) (n c : Nat), e = .returned (.tuple #[.slice A n c, .int .i64 (itsE itemE l)]) ∧ (itsE itemE l ≠ 0 → A = none ∧ n = 0 ∧ c = 0) ∧ (itsE itemE l = 0 → Sl w' 55 4 (.slice A n c) (totV (totL l))) ∧ Pure w w'
def TsRel (W1 : World) (base : Nat) (l : List Itm) (gk : Nat) (x i : Value) (wr : World) : Prop :=
  ∃ (k : Nat) (A : Option Addr) (cap : Nat), (custS l).length - k = gk ∧ k ≤ (custS l).length ∧ x = .slice A k cap ∧ i = .int .i64 (k : Int) ∧ wr.ownsRow base 55 4 (.slice A k cap) k (totV ((totL l).take k)) ∧ Pure W1 wr ∧ base ≤ wr.heap.size
theorem custS_len (l : List Itm) : (custS l).length ≤ l.length := by
  unfold custS
  rw [List.length_mergeSort]
  have : ∀ xs : List Str, (uniq xs).length ≤ xs.length := fun xs => by
    induction xs with
    | nil => simp [uniq]
    | cons x xs ih =>
      unfold uniq
      split
      · exact Nat.le_trans ih (by simp)
      · simpa using ih
  have h := this (l.map (·.cust))
  simpa using h
theorem totL_len (l : List Itm) : (totL l).length = (custS l).length := by simp [totL]


set_option maxRecDepth 100000 in
set_option maxHeartbeats 8000000 in
theorem itotals_calls (w : World) (v : Value) (l : List Itm) (hv : Its w v l) (hz : ∀ x ∈ l, ItB x) (hl : l.length ≤ 2000) (hE : Env w) : Calls Tryz.prog 20 #[v] w (TtPost w l) := by
  have hmm := @run_makeMap Tryz.prog
  obtain ⟨i0, hi0, hz0, hz1, hz2⟩ := info_parts info_tot
  have HCH := Lib.hid (check_calls w v l hv hz hl hE)
  have HZ := Lib.hid hz
  obtain ⟨A, n, c, rfl, hc1, hc2, hl2, hr⟩ := hv
  have hln : l.length = n := by rw [itV_len] at hl2; omega
  subst hln
  have HR := Lib.hid hr
  unfold TtPost
  obtain ⟨f, hf⟩ : ∃ f, itsE itemE l = f := ⟨_, rfl⟩
  rw [hf] at HCH ⊢
  clear hl2 hr hz hE hf
  go_enter Tryz.func20, Tryz.ntmps20
  go_wp2_with fail
  refine HCH.out.mono ?_
  rintro e w1 ⟨rfl, m1⟩
  clear HCH
  by_cases h0 : f = 0
  · subst h0
    have HM0 := Lib.hid (MapS.made w1)
    have HP0 := Lib.hid (m1.trans (pure_alloc w1 (.map #[] 0)))
    go_wp2_with fail
    clear hmm
    obtain ⟨bm, hbm⟩ : ∃ bm, bm = w1.heap.size := ⟨_, rfl⟩
    have hb1 := Nat.le_of_eq hbm
    have hb2 := Nat.le_of_eq hbm.symm
    rw [← hbm] at HM0 ⊢
    clear hbm
    have hw1 := m1.size
    generalize w1.alloc (.map #[] 0) = W at *
    go_loopg [20] l.length (fun gk i wr => TtRel w bm l gk i wr)
    case atStart => exact ⟨0, 0, by omega, by omega, rfl, by rw [List.take_zero, totFV_nil]; exact HM0.out, by omega, HP0.out⟩
    case round =>
      clear HM0 HP0 W
      obtain ⟨k, n, rfl, hk, rfl, hms, hn, hm⟩ := hrel
      have hbl := hms.lt
      by_cases hlt : k < l.length
      · obtain ⟨g, off, rfl, hrow⟩ := HR.out (by omega)
        obtain ⟨q0, q1, q2, q3, q4, q5, q6⟩ := item_cells (hrow.mod hm id) hlt
        obtain ⟨hzi, hzc, hzn, hzp, hzt⟩ := HZ.out _ (List.getElem_mem hlt)
        obtain ⟨b1, b2, b3, b4, b5, b6⟩ := tot_bounds (l := l.take k) (fun x hx => HZ.out x (List.mem_of_mem_take hx)) (by simp; omega) l[k].cust
        have HTK := Lib.hid (totFV_take hlt)
        have HGD := Lib.hid (totFV_getD (l.take k) l[k].cust)
        have HTA : Hid (∀ t : Tot, totVA (totA t l[k]) = .agg #[.string ⟨l[k].cust.toArray⟩, .int .i64 (t.items + 1), .int .i64 (if l[k].par = [] then t.fams + 1 else t.fams), .int .i64 (t.bytes + (l[k].text.length : Int))]) := Lib.hid (fun t => rfl)
        clear hrow
        generalize l[k] = x at *
        generalize (totF (l.take k) x.cust).getD tot0 = t at *
        have hlook := (hms.alloc' (.cells (itQ x) 59)).lookup (e := 55) Tryz.underlying117 zero_tot x.cust (by omega)
        rw [HGD.out] at hlook
        have hms1 := (hms.alloc' (.cells (itQ x) 59)).alloc' (.cells #[.string ⟨x.cust.toArray⟩, .int .i64 (t.items + 1), .int .i64 (if x.par = [] then t.fams + 1 else t.fams), .int .i64 (t.bytes + (x.text.length : Int))] 55)
        obtain ⟨w3, hrun3, hms3, hm3⟩ := hms1.store Tryz.underlying117 (by omega) x.cust (by omega) (totVA (totA t x))
        rw [HTK.out] at hms3
        rw [HTA.out] at hrun3
        have HMS := Lib.hid hms3
        have HM3 := Lib.hid (((hm.alloc (.cells (itQ x) 59)).alloc (.cells #[.string ⟨x.cust.toArray⟩, .int .i64 (t.items + 1), .int .i64 (if x.par = [] then t.fams + 1 else t.fams), .int .i64 (t.bytes + (x.text.length : Int))] 55)).trans' hm3 (fun i hi hl => by omega))
        clear hms hms1 hms3 hm3 hm HTK HGD HTA
        unfold itQ at hlook hrun3
        unfold totVA at hlook
        obtain ⟨tc, ti, tf, tb⟩ := t
        simp only [] at hlook hrun3 b1 b2 b3 b4 b5 b6
        cases he : x.par.isEmpty
        · rw [if_neg (fun h => by rw [h] at he; cases he)] at hrun3
          go_wp2_with fail
          go_roundg (l.length - (k + 1))
          case measure => omega
          case rel => exact ⟨k + 1, n + 1, rfl, by omega, by simp, HMS.out, by omega, HM3.out⟩
        · rw [if_pos (List.isEmpty_iff.1 he)] at hrun3
          go_wp2_with fail
          go_roundg (l.length - (k + 1))
          case measure => omega
          case rel => exact ⟨k + 1, n + 1, rfl, by omega, by simp, HMS.out, by omega, HM3.out⟩
      · obtain rfl : k = l.length := by omega
        rw [List.take_length] at hms
        have HKS := Lib.hid (mapsKeysST_calls (some bm) wr)
        have HSO := Lib.hid (sortedST_calls bm n (totFV l) wr hms (by omega) (uniq (l.map (·.cust))) (nodup_uniq _) (totFV_keys l))
        have HMS : Hid (∀ W, Pure wr W → MapS W bm n (totFV l)) := Lib.hid (fun W h => hms.pure h)
        have HM1 := Lib.hid hm
        have hcl := custS_len l
        clear hms hm HR
        go_wp2_with fail
        refine HKS.out.mono ?_
        rintro e w3 ⟨rfl, rfl⟩
        clear HKS
        go_wp2_with fail
        refine HSO.out.mono ?_
        rintro e w4 ⟨v4, rfl, own4, m4⟩
        have HK4 : Hid (∀ W, Pure w4 W → Sl W 9 1 v4 (strsV (custS l))) := Lib.hid (fun W h => (Sl.of_own own4).pure h)
        have HP4 := Lib.hid ((pure_alloc wr (.cells #[.map (some bm)] 117)).trans m4)
        have HMS4 : Hid (∀ W, Pure w4 W → MapS W bm n (totFV l)) := Lib.hid (fun W h => HMS.out W (HP4.out.trans h))
        have hfm := (Sl.of_own own4).form
        obtain ⟨A4, n4, c4, rfl⟩ := hfm
        have hn4 : (custS l).length = n4 := (HK4.out w4 (Mod.refl _ _)).lenS
        subst hn4
        have HM4 := Lib.hid (HM1.out.trans HP4.out)
        have HLL := Lib.hid (totL_len l)
        have HLG : Hid (∀ k (h : k < (custS l).length) (h2 : k < (totL l).length), (totFV l (custS l)[k]).getD (totVA tot0) = totVA (totL l)[k]) := Lib.hid (fun k h h2 => by rw [totFV_getD]; simp [totL])
        have HBK : Hid (∀ c ∈ custS l, c.length ≤ 1000000) := Lib.hid (fun c hc => by
          obtain ⟨x, hx, rfl⟩ := custS_mem hc
          have := (HZ.out x hx).2.1
          omega)
        clear HSO own4 m4 HMS HM1 HP4
        go_wp2_with fail
        obtain ⟨base, hbase⟩ : ∃ base, base = w4.heap.size := ⟨_, rfl⟩
        have hs1 := Nat.le_of_eq hbase
        have hs2 := Nat.le_of_eq hbase.symm
        clear hbase
        go_loopg [9, 58] (custS l).length (fun gk x i wr => TsRel w4 base l gk x i wr)
        case atStart => exact ⟨0, none, 0, by omega, by omega, rfl, rfl, World.ownsRow_nil _ _ _ _, Mod.refl _ _, by omega⟩
        case round =>
          obtain ⟨k, Ao, cap, rfl, hk, rfl, rfl, hown, hm, hbs⟩ := hrel
          by_cases hlt : k < (custS l).length
          · have S1 := HK4.out _ hm
            obtain ⟨gr, off, rfl, hrow⟩ := S1.rowS (by omega)
            have q1 := hrow.cell (strsV_get (custS l) k hlt)
            have hlook := (HMS4.out _ hm).lookup (e := 55) Tryz.underlying117 zero_tot (custS l)[k] (HBK.out _ (List.getElem_mem hlt))
            have hk2 : k < (totL l).length := by rw [HLL.out]; exact hlt
            rw [HLG.out k hlt hk2] at hlook
            have HTT : Hid (totV ((totL l).take (k + 1)) = totV ((totL l).take k) ++ totC (totL l)[k]) := Lib.hid (by rw [List.take_succ_eq_append_getElem hk2, totV_snoc])
            clear S1 hrow
            generalize (totL l)[k] = t at *
            generalize (custS l)[k] = ck at *
            generalize totV ((totL l).take k) = tv at *
            obtain ⟨tc, ti, tf, tb⟩ := t
            unfold totVA at hlook
            unfold totC at HTT
            simp only [] at hlook HTT
            go_wp2_with (at_builtin; refine wpList_append_lies _ rfl _ _ _ rfl base 55 i0 _ 4 40 Tryz.underlying50 hi0 hz0 hz1 hz2 rfl (by omega) (.slice Ao k cap) k (tv) rfl (hown.alloc _) ⟨wr.heap.size, 0, none⟩ 1 1 [.string ⟨tc.toArray⟩, .int .i64 ti, .int .i64 tf, .int .i64 tb] rfl rfl (World.news_of_block (cs := #[.string ⟨tc.toArray⟩, .int .i64 ti, .int .i64 tf, .int .i64 tb]) (t := 55) (fr := (0, 0)) (heap_alloc_new wr _)) (by simp [Value.oneCell']) (by omega) (by simp [maxLen]; omega) (by omega) (by have := hm.size; simp; omega) (wr.heap.size + 1) (by simp) ?_; intro g5 cap5 w5 hown5 hgrow hat hlt5)
            go_roundg ((custS l).length - (k + 1))
            case measure => omega
            case rel =>
              refine ⟨k + 1, some ⟨g5, 0, none⟩, cap5, rfl, by omega, rfl, by simp, ?_, (hm.alloc _).grown hgrow (fun j hj => .inr (by have := own_block hown j hj; omega)), by have := hgrow.size; simp at this; omega⟩
              rw [HTT.out]
              simpa using hown5
          · obtain rfl : k = (custS l).length := by omega
            have hown2 := hown
            rw [← HLL.out, List.take_length, HLL.out] at hown2
            have HO := Lib.hid (Sl.of_own hown2)
            have HMF := Lib.hid (HM4.out.trans hm)
            clear hown hown2 hm HK4 HMS4 HLG HBK HZ
            go_wp2_with fail
            refine bodyPost_ret (v := .tuple #[.slice Ao (custS l).length cap, .int .i64 0]) (by simp [results, Tryz.results20, go_sem]) rfl ?_
            exact ⟨Ao, _, cap, rfl, HO.out, HMF.out⟩
  · have h0' : (f != 0) = true := by simpa using h0
    have H0 := Lib.hid h0
    clear h0 HR HZ
    go_wp2_with fail
    refine bodyPost_ret (v := .tuple #[.slice none 0 0, .int .i64 f]) (by simp [results, Tryz.results20, go_sem]) rfl ?_
    exact ⟨none, 0, 0, rfl, fun _ => ⟨rfl, rfl, rfl⟩, fun h => absurd h H0.out, m1⟩

end Go.Proofs.YtbdeicbdehgeiaaGreatDoor

/- Totals of the reference. -/
namespace Go.Proofs.YtbdeicbdehgeiaaGreatDoor
set_option linter.unusedVariables false
set_option linter.unusedSimpArgs false
open Go.RowKit Go.Sort


set_option maxRecDepth 100000 in
set_option maxHeartbeats 1000000 in
theorem totC1_calls (x y : Tot) (W : World) : Calls Tryz.prog 77 #[.agg (totC x).toArray, .agg (totC y).toArray] W (GrowPost W (cfBy (fun z : Tot => z.cust) x y)) := by
  have H := fun W' => Any.strings_Compare Tryz.cmpStrK ⟨x.cust.toArray⟩ ⟨y.cust.toArray⟩ W'
  change ∀ W', Calls Tryz.prog 78 #[.string ⟨x.cust.toArray⟩, .string ⟨y.cust.toArray⟩] W' (fun e w' => e = .returned (.int .i64 (cfBy (fun z : Tot => z.cust) x y)) ∧ w' = W') at H
  generalize cfBy (fun z : Tot => z.cust) x y = c at *
  have HC := Lib.hid H
  clear H
  unfold totC
  go_enter Tryz.func77, Tryz.ntmps77
  go_wp2_with fail
  refine (HC.out _).mono ?_
  rintro e w' ⟨rfl, rfl⟩
  go_wp2_with fail
  go_ret
  exact ⟨rfl, 0, _, by rw [alloc_eq_grow, alloc_eq_grow, grow_grow]; rfl⟩

/-- The keys that a range has met. -/
def KeysIn (f : Str → Option Value) (left : Str → Bool) (ss : List Str) : Prop := ss.Nodup ∧ ∀ s, s ∈ ss ↔ (f s).isSome = true ∧ left s = false
theorem KeysIn.start (f : Str → Option Value) : KeysIn f (fun s => (f s).isSome) [] := ⟨List.nodup_nil, fun s => by
  constructor
  · intro h; cases h
  · rintro ⟨h1, h2⟩
    have h3 : (f s).isSome = false := h2
    rw [h1] at h3
    cases h3⟩
theorem KeysIn.step {f : Str → Option Value} {left : Str → Bool} {ss : List Str} (h : KeysIn f left ss) {s : Str} {v : Value} (hs : left s = true) (hv : f s = some v) : KeysIn f (fun x => left x && !decide (x = s)) (ss ++ [s]) := by
  obtain ⟨h1, h2⟩ := h
  have hn : s ∉ ss := fun hm => by have := ((h2 s).1 hm).2; rw [hs] at this; cases this
  refine ⟨List.nodup_append.2 ⟨h1, by simp, fun a ha c hc hac => ?_⟩, fun x => ?_⟩
  · simp at hc
    subst hac hc
    exact hn ha
  · rw [List.mem_append, List.mem_singleton, h2]
    by_cases hx : x = s
    · subst hx
      simp [hv]
    · simp [hx]
theorem KeysIn.all {f : Str → Option Value} {left : Str → Bool} {ss : List Str} (h : KeysIn f left ss) (ha : ∀ s, left s = false) : ss.Nodup ∧ ∀ s, s ∈ ss ↔ (f s).isSome = true := ⟨h.1, fun s => by rw [h.2]; simp [ha s]⟩
theorem own_iterT {w : World} {base n size b r cnt : Nat} {e : TypeId} {v : Value} {xs : List Value} {f : Str → Option Value} {left : Str → Bool} (h : w.ownsRow base e size v n xs) (hr : MapRg w b r f left cnt) : ¬ v.ownBlock = some r := fun hv => by
  obtain ⟨arr, ha⟩ := own_heap h hv
  exact hr.iter.1 _ _ _ ha
/-- A row of cells is no map. -/
theorem own_map {w : World} {base n size b r cnt : Nat} {e : TypeId} {v : Value} {xs : List Value} {f : Str → Option Value} {left : Str → Bool} (h : w.ownsRow base e size v n xs) (hr : MapRg w b r f left cnt) : ¬ v.ownBlock = some b := fun hv => by
  obtain ⟨arr, ha⟩ := own_heap h hv
  obtain ⟨es, c, hb⟩ := hr.iter.2.2
  rw [hb] at ha
  cases ha
theorem tot_cust (l : List Itm) {c : Str} (h : (totF l c).isSome = true) : ((totF l c).getD tot0).cust = c := by
  obtain ⟨t, ht⟩ := Option.isSome_iff_exists.1 h
  rw [ht]
  exact ((totF_spec c _ l rfl).2 t ht).1
def TgetL (l : List Itm) (ss : List Str) : List Tot := ss.map fun c => (totF l c).getD tot0
def ToRel (w : World) (base b r n0 : Nat) (l : List Itm) (gk : Nat) (x : Value) (wr : World) : Prop :=
  ∃ (left : Str → Bool) (ss : List Str) (A : Option Addr) (cap : Nat), x = .slice A ss.length cap ∧ MapRg wr b r (totFV l) left gk ∧ ss.length + gk ≤ n0 ∧ KeysIn (totFV l) left ss ∧
    wr.ownsRow base 55 4 (.slice A ss.length cap) ss.length (totV (TgetL l ss)) ∧ Pure w wr ∧ base ≤ wr.heap.size
def RtPost (w : World) (l : List Itm) (e : Ending) (w' : World) : Prop := ∃ (A : Option Addr) (n c : Nat), e = .returned (.slice A n c) ∧ Sl w' 55 4 (.slice A n c) (totV (totL l)) ∧ Pure w w'
/-- What a range over the totals brings, sorted. -/
theorem tget_all {l : List Itm} {ss : List Str} (h : ss.Nodup ∧ ∀ s, s ∈ ss ↔ (totFV l s).isSome = true) : ((TgetL l ss).map fun z => z.cust) = ss ∧ ss.Perm (custS l) := by
  have hi : ∀ s, s ∈ ss ↔ (totF l s).isSome = true := fun s => by rw [h.2]; unfold totFV; simp
  constructor
  · unfold TgetL
    rw [List.map_map]
    have : ∀ s ∈ ss, ((fun z : Tot => z.cust) ∘ fun c => (totF l c).getD tot0) s = id s := fun s hs => tot_cust l ((hi s).1 hs)
    rw [List.map_congr_left this, List.map_id]
  · have hn : (custS l).Nodup := (custS_sorted l).imp fun h e => by subst e; exact List.lt_irrefl _ h
    exact (List.perm_ext_iff_of_nodup h.1 hn).2 (fun s => by rw [hi, mem_custS])

set_option maxRecDepth 100000 in
set_option maxHeartbeats 8000000 in
theorem totalsOf_calls (w : World) (v : Value) (l : List Itm) (hv : Its w v l) (hz : ∀ x ∈ l, ItB x) (hl : l.length ≤ 2000) : Calls Tryz.prog 22 #[v] w (RtPost w l) := by
  have hmm := @run_makeMap Tryz.prog
  obtain ⟨i0, hi0, hz0, hz1, hz2⟩ := info_parts info_tot
  have HZ := Lib.hid hz
  obtain ⟨A, n, c, rfl, hc1, hc2, hl2, hr⟩ := hv
  have hln : l.length = n := by rw [itV_len] at hl2; omega
  subst hln
  have HR := Lib.hid hr
  have HM0 := Lib.hid (MapS.made w)
  have HP0 := Lib.hid (pure_alloc w (.map #[] 0))
  clear hl2 hr hz
  go_enter Tryz.func22, Tryz.ntmps22
  go_wp2_with fail
  clear hmm
  obtain ⟨bm, hbm⟩ : ∃ bm, bm = w.heap.size := ⟨_, rfl⟩
  have hb1 := Nat.le_of_eq hbm
  have hb2 := Nat.le_of_eq hbm.symm
  rw [← hbm] at HM0 ⊢
  clear hbm
  generalize w.alloc (.map #[] 0) = W at *
  go_loopg [13] l.length (fun gk i wr => TtRel w bm l gk i wr)
  case atStart => exact ⟨0, 0, by omega, by omega, rfl, by rw [List.take_zero, totFV_nil]; exact HM0.out, by omega, HP0.out⟩
  case round =>
    clear HM0 HP0 W
    obtain ⟨k, n, rfl, hk, rfl, hms, hn, hm⟩ := hrel
    have hbl := hms.lt
    by_cases hlt : k < l.length
    · obtain ⟨g, off, rfl, hrow⟩ := HR.out (by omega)
      obtain ⟨q0, q1, q2, q3, q4, q5, q6⟩ := item_cells (hrow.mod hm id) hlt
      obtain ⟨hzi, hzc, hzn, hzp, hzt⟩ := HZ.out _ (List.getElem_mem hlt)
      obtain ⟨b1, b2, b3, b4, b5, b6⟩ := tot_bounds (l := l.take k) (fun x hx => HZ.out x (List.mem_of_mem_take hx)) (by simp; omega) l[k].cust
      have HTK := Lib.hid (totFV_take hlt)
      have HGD := Lib.hid (totFV_getD (l.take k) l[k].cust)
      have HTA : Hid (∀ t : Tot, totVA (totA t l[k]) = .agg #[.string ⟨l[k].cust.toArray⟩, .int .i64 (t.items + 1), .int .i64 (if l[k].par = [] then t.fams + 1 else t.fams), .int .i64 (t.bytes + (l[k].text.length : Int))]) := Lib.hid (fun t => rfl)
      clear hrow
      generalize l[k] = x at *
      generalize (totF (l.take k) x.cust).getD tot0 = t at *
      have hlook := (hms.alloc' (.cells (itQ x) 59)).lookup (e := 55) Tryz.underlying117 zero_tot x.cust (by omega)
      rw [HGD.out] at hlook
      have hms1 := (hms.alloc' (.cells (itQ x) 59)).alloc' (.cells #[.string ⟨x.cust.toArray⟩, .int .i64 (t.items + 1), .int .i64 (if x.par = [] then t.fams + 1 else t.fams), .int .i64 (t.bytes + (x.text.length : Int))] 55)
      obtain ⟨w3, hrun3, hms3, hm3⟩ := hms1.store Tryz.underlying117 (by omega) x.cust (by omega) (totVA (totA t x))
      rw [HTK.out] at hms3
      rw [HTA.out] at hrun3
      have HMS := Lib.hid hms3
      have HM3 := Lib.hid (((hm.alloc (.cells (itQ x) 59)).alloc (.cells #[.string ⟨x.cust.toArray⟩, .int .i64 (t.items + 1), .int .i64 (if x.par = [] then t.fams + 1 else t.fams), .int .i64 (t.bytes + (x.text.length : Int))] 55)).trans' hm3 (fun i hi hl => by omega))
      clear hms hms1 hms3 hm3 hm HTK HGD HTA
      unfold itQ at hlook hrun3
      unfold totVA at hlook
      obtain ⟨tc, ti, tf, tb⟩ := t
      simp only [] at hlook hrun3 b1 b2 b3 b4 b5 b6
      cases he : x.par.isEmpty
      · rw [if_neg (fun h => by rw [h] at he; cases he)] at hrun3
        go_wp2_with fail
        go_roundg (l.length - (k + 1))
        case measure => omega
        case rel => exact ⟨k + 1, n + 1, rfl, by omega, by simp, HMS.out, by omega, HM3.out⟩
      · rw [if_pos (List.isEmpty_iff.1 he)] at hrun3
        go_wp2_with fail
        go_roundg (l.length - (k + 1))
        case measure => omega
        case rel => exact ⟨k + 1, n + 1, rfl, by omega, by simp, HMS.out, by omega, HM3.out⟩
    · obtain rfl : k = l.length := by omega
      rw [List.take_length] at hms
      obtain ⟨w1, m, hrun, hrg, hmn, hp1, hs1⟩ := hms.range (t := 117) (e := 55) Tryz.underlying117
      have HRG := Lib.hid hrg
      have HP1 := Lib.hid (hm.trans hp1)
      have hws := hm.size
      have hw1s : wr.heap.size < w1.heap.size := by omega
      clear hms hm HZ HR hrg hp1 hs1
      go_wp2_with fail
      obtain ⟨r, hr⟩ : ∃ r, r = wr.heap.size := ⟨_, rfl⟩
      have hr1 := Nat.le_of_eq hr
      have hr2 := Nat.le_of_eq hr.symm
      rw [← hr] at HRG ⊢
      clear hr
      go_loopg [7] m (fun gk x wx => ToRel w w.heap.size bm r m l gk x wx)
      case atStart => exact ⟨_, [], none, 0, rfl, HRG.out, by simp, KeysIn.start _, World.ownsRow_nil _ _ _ _, HP1.out, by omega⟩
      case round =>
        have hrw : w.heap.size ≤ r := by omega
        clear HRG HP1 hrun w1 hw1s hr1 hr2 hws
        obtain ⟨left, ss, Ao, cap, rfl, hrg, hlen, hin, hown, hm, hbs⟩ := hrel
        have hrl := hrg.lt
        rcases hrg.next with ⟨h0, hall, hnx⟩ | ⟨s, v, w2, cnt2, hls, hfs, hnx, hrg2, hlt2, hm2, hsz2, hen⟩
        · obtain ⟨k1, k2⟩ := tget_all (hin.all hall)
          have HSO := Lib.hid (sortTot_calls _ w.heap.size ss.length (.slice Ao ss.length cap) (TgetL l ss) 77 hown (by rw [k1]; exact hin.1) (by simp [TgetL]; omega) (enters_of Tryz.func77 (by kernel_rfl) rfl) (fun x y W => totC1_calls x y W))
          have HPK := Lib.hid k2
          have HOB := Lib.hid (own_block hown)
          have HM := Lib.hid hm
          clear hrg hin hown hm hall k1 k2 h0
          go_wp2_with fail
          refine HSO.out.mono ?_
          rintro e w3 ⟨ys, hp, hup, rfl, hown3, hm3⟩
          have HE : Hid (ys = totL l) := Lib.hid (totL_unique ys hp HPK.out hup)
          have HO3 := Lib.hid (Sl.of_own hown3)
          have HM3 := Lib.hid (HM.out.trans' hm3 (fun i hi hl => by have := HOB.out i hi; omega))
          clear HSO HPK HOB HM hp hup hown3 hm3
          go_wp2_with fail
          go_ret
          exact ⟨Ao, ss.length, cap, rfl, by rw [← HE.out]; exact HO3.out, HM3.out⟩
        · have HKS := Lib.hid (hin.step hls hfs)
          obtain ⟨t, ht, rfl⟩ : ∃ t, (totF l s).getD tot0 = t ∧ v = totVA t := by
            unfold totFV at hfs
            cases hq : totF l s with
            | none => rw [hq] at hfs; cases hfs
            | some t => rw [hq] at hfs; exact ⟨t, rfl, by simpa using hfs.symm⟩
          have HXV : Hid (totV (TgetL l (ss ++ [s])) = totV (TgetL l ss) ++ totC t) := Lib.hid (by
            unfold TgetL
            rw [List.map_append, List.map_singleton, ht, totV_snoc])
          have hm22 : Pure w w2 := hm.trans' hm2 (fun k hk hl => by omega)
          have hown2 := own_mod hown hm2 (fun g hg hk => by subst hk; exact own_iterT hown hrg hg)
          obtain ⟨tc, ti, tf, tb⟩ := t
          have HRG2 := Lib.hid (hrg2.pure (pure_alloc w2 (.cells #[.string ⟨tc.toArray⟩, .int .i64 ti, .int .i64 tf, .int .i64 tb] 55)))
          have HOW2 := Lib.hid (own_pure hown2 (pure_alloc w2 (.cells #[.string ⟨tc.toArray⟩, .int .i64 ti, .int .i64 tf, .int .i64 tb] 55)))
          have HM2 := Lib.hid (hm22.alloc (.cells #[.string ⟨tc.toArray⟩, .int .i64 ti, .int .i64 tf, .int .i64 tb] 55))
          have HB2 := Lib.hid (Blk.new w2 55 #[.string ⟨tc.toArray⟩, .int .i64 ti, .int .i64 tf, .int .i64 tb])
          have hbw2 : w.heap.size ≤ (w2.alloc (.cells #[.string ⟨tc.toArray⟩, .int .i64 ti, .int .i64 tf, .int .i64 tb] 55)).heap.size := by rw [World.size_alloc]; omega
          generalize totV (TgetL l ss) = tv at *
          unfold totC at HXV
          unfold totVA at hnx hen
          simp only [] at HXV hnx hen
          clear hsz2 hrg hrg2 hin hown hm hm2 hm22 hls hfs hown2 ht
          go_upto_region 17 with (fail)
          generalize (w2.alloc (.cells #[.string ⟨tc.toArray⟩, .int .i64 ti, .int .i64 tf, .int .i64 tb] 55)) = w3 at *
          generalize w2.heap.size = g9 at *
          have hB3 := HB2.out
          have own4 := HOW2.out
          have hm4 := HM2.out
          have c0 := hB3.cell 0; have c1 := hB3.cell 1; have c2 := hB3.cell 2; have c3 := hB3.cell 3; simp at c0 c1 c2 c3
          have hsl : ss.length ≤ 2000 := by omega
          clear hB3 HB2 HOW2 HM2
          go_wp2_with (at_builtin; refine wpList_append_lies _ rfl _ _ _ rfl w.heap.size 55 i0 _ 4 40 Tryz.underlying50 hi0 hz0 hz1 hz2 rfl (by omega) (.slice Ao ss.length cap) ss.length (tv) rfl (own4.alloc _) ⟨w3.heap.size, 0, none⟩ 1 1 [.string ⟨tc.toArray⟩, .int .i64 ti, .int .i64 tf, .int .i64 tb] rfl rfl (World.news_of_block (cs := #[.string ⟨tc.toArray⟩, .int .i64 ti, .int .i64 tf, .int .i64 tb]) (t := 55) (fr := (0, 0)) (heap_alloc_new w3 _)) (by simp [Value.oneCell']) (by omega) (by simp [maxLen]; omega) (by omega) (by have := hm4.size; simp; omega) (w3.heap.size + 1) (by simp) ?_; intro g5 cap5 w5 hown5 hgrow hat hlt5)
          go_roundg cnt2
          case measure => exact hlt2
          case rel =>
            have hnb : ∀ k, (Value.slice Ao ss.length cap).ownBlock = some k → w.heap.size ≤ k := fun k hk => own_block own4 k hk
            refine ⟨_, ss ++ [s], some ⟨g5, 0, none⟩, cap5, by simp, (HRG2.out.pure (pure_alloc _ _)).mod (mod_grown hgrow) (fun hk => own_map own4 HRG2.out hk) (fun hk => own_iterT own4 HRG2.out hk), by simp; omega, HKS.out, ?_, (hm4.alloc _).grown hgrow (fun k hk => .inr (by have := hnb k hk; omega)), by have := hgrow.size; simp at this; omega⟩
            rw [HXV.out]
            simpa using hown5

end Go.Proofs.YtbdeicbdehgeiaaGreatDoor
