/- Texts of the proof of QuerySearches, put together: RunP. -/
import Derived.Test.YtnfflgicngeekaaGreatDoorQuerySearchesZ20
import Derived.Sort.OwnSorted
import Derived.Lib.SlicesCompact
set_option linter.unusedVariables false
set_option linter.unusedSimpArgs false
namespace Go.Proofs.YtnfflgicngeekaaGreatDoor
open Go.RowKit
def nvQ (l:List Nat):List Value:=l.map fun (x:Nat)=>Value.int .i64 (x:Int)
theorem nvQ_len (l:List Nat):(nvQ l).length=l.length:=by simp [nvQ]
theorem nvQ_get (l:List Nat) (i:Nat) (h:i<l.length):(nvQ l)[i]? = some (.int .i64 (l[i]:Int)):=by simp [nvQ,h]
theorem nvQ_append (a b:List Nat):nvQ (a ++ b)=nvQ a ++ nvQ b:=by simp [nvQ]
theorem compactUpI {zs:List Int} (h:zs.Pairwise (· ≤ ·)):∀ m,m≤zs.length→(Lib.compactUpTo zs.toArray m).Pairwise (· < ·)∧∀ x,x∈Lib.compactUpTo zs.toArray m↔x∈zs.take m
 | 0,_=>by simp [Lib.compactUpTo]
 | m+1,hm=>by
  obtain ⟨h1,h2⟩:=compactUpI h m (by omega);have hml:m<zs.length:=(by omega)
  have hg:zs.toArray[m]! = zs[m]:=by rw [getElem!_pos zs.toArray m (by simpa using hml)]; simp
  have hle:∀ j (hj:j<m),zs[j]≤zs[m]:=fun j hj=>(List.pairwise_iff_getElem.1 h) j m (by omega) hml hj;rw [Lib.compactUpTo_succ,hg,List.take_succ_eq_append_getElem hml]
  by_cases hk:Lib.keeps zs.toArray m=true
  ·rw [if_pos hk];refine ⟨List.pairwise_append.2 ⟨h1,List.pairwise_singleton _ _,?_⟩,fun x => ?_⟩
   ·intro x hx y hy;rw [List.mem_singleton.1 hy];have hx2:=(h2 x).1 hx;obtain ⟨j,hj,rfl⟩:=List.getElem_of_mem hx2;rw [List.getElem_take]
    have hjm:j<m:=by simp at hj; omega
    refine Int.lt_iff_le_and_ne.2 ⟨hle j hjm,fun he => ?_⟩;unfold Lib.keeps at hk;simp only [decide_eq_true_eq] at hk
    rcases hk with hk | hk
    ·omega
    ·refine hk ?_;have hm1:m - 1<zs.length:=(by omega)
     have hg1:zs.toArray[m - 1]! = zs[m - 1]:=by rw [getElem!_pos zs.toArray (m - 1) (by simpa using hm1)]; simp
     rw [hg,hg1];refine Int.le_antisymm ?_ (hle (m - 1) (by omega));rw [← he]
     rcases Nat.eq_or_lt_of_le (show j≤m - 1 by omega) with e | hlt
     ·subst e; exact Int.le_refl _
     ·exact (List.pairwise_iff_getElem.1 h) j (m - 1) (by omega) hm1 hlt
   ·rw [List.mem_append,List.mem_append,h2 x]
  ·rw [if_neg hk,List.append_nil];refine ⟨h1,fun x => ?_⟩;rw [h2 x,List.mem_append]
   constructor
   ·exact .inl
   ·rintro (hx | hx)
    ·exact hx
    ·unfold Lib.keeps at hk;simp only [decide_eq_true_eq,not_or,Decidable.not_not] at hk;obtain ⟨h0,he⟩:=hk;have hm1:m - 1<zs.length:=(by omega)
     have hg1:zs.toArray[m - 1]! = zs[m - 1]:=by rw [getElem!_pos zs.toArray (m - 1) (by simpa using hm1)]; simp
     rw [hg,hg1] at he;rw [List.mem_singleton.1 hx,he]
     have:m - 1<(zs.take m).length:=by simp; omega
     have hmem:=List.getElem_mem this;rw [List.getElem_take] at hmem;exact hmem
theorem compactI {zs:List Int} (h:zs.Pairwise (· ≤ ·)):(Lib.compact zs).Pairwise (· < ·)∧∀ x,x∈Lib.compact zs↔x∈zs:=by
 have:=compactUpI h zs.length (Nat.le_refl _);rw [List.take_length] at this;exact this
theorem strictI {a b:List Int} (ha:a.Pairwise (· < ·)) (hb:b.Pairwise (· < ·)) (hm:∀ x,x∈a↔x∈b):a=b:=by
 have na:a.Nodup:=ha.imp fun h e=>by subst e; exact Int.lt_irrefl _ h
 have nb:b.Nodup:=hb.imp fun h e=>by subst e; exact Int.lt_irrefl _ h
 refine List.Perm.eq_of_pairwise (le:=fun x y=>x<y) (fun x y _ _ h1 h2=>absurd (Int.lt_trans h1 h2) (Int.lt_irrefl _)) ha hb ((List.perm_ext_iff_of_nodup na nb).2 hm)
def castI (l:List Nat):List Int:=l.map fun (x:Nat)=>(x:Int)
theorem castI_len (l:List Nat):(castI l).length=l.length:=by simp [castI]
theorem castI_V (l:List Nat):(castI l).map (Value.int .i64)=nvQ l:=by simp [castI,nvQ]
theorem sortI_le (l:List Int):(l.mergeSort fun x y=>decide (x≤y)).Pairwise (· ≤ ·):=by
 have h:=List.pairwise_mergeSort (le:=fun (x y:Int)=>decide (x≤y)) (fun a b c h1 h2=>by simp only [decide_eq_true_eq] at *; omega) (fun a b=>by simp only [Bool.or_eq_true,decide_eq_true_eq]; omega) l
 exact h.imp fun h=>by simpa using h
theorem row_of {W:Nat} {f:Nat→Bool} {zs:List Nat} (h:∀ x,x∈zs↔x<W∧f x=true):Go.Lib.compact ((castI zs).mergeSort fun x y=>decide (x≤y))=castI (rowQ W f):=by
 obtain ⟨h1,h2⟩:=compactI (sortI_le (castI zs));refine strictI h1 ?_ (fun x => ?_)
 ·unfold castI;rw [List.pairwise_map]
  exact (rowQ_sorted W f).imp fun h=>by omega
 ·rw [h2,List.mem_mergeSort];unfold castI;simp only [List.mem_map]
  constructor
  ·rintro ⟨a,ha,rfl⟩; exact ⟨a,rowQ_mem.2 ((h a).1 ha),rfl⟩
  ·rintro ⟨a,ha,rfl⟩; exact ⟨a,(h a).2 (rowQ_mem.1 ha),rfl⟩
theorem rowQ_len (W:Nat) (f:Nat→Bool):(rowQ W f).length≤W:=by
 unfold rowQ;have:=List.length_filter_le f (List.range W)
 simpa using this
def rowsQ (W:Nat) (F:Nat→Nat→Bool):List (List Nat):=(List.range W).map fun i=>rowQ W (F i)
theorem rowsQ_len (W:Nat) (F:Nat→Nat→Bool):(rowsQ W F).length=W:=by simp [rowsQ]
theorem rowsQ_at {W:Nat} {F:Nat→Nat→Bool} {i:Nat} (h:i<(rowsQ W F).length):(rowsQ W F)[i]=rowQ W (F i):=by simp [rowsQ]
theorem rowQ_no (W:Nat):rowQ W (fun _=>false)=[]:=by simp [rowQ]
theorem bothRow {W:Nat} {f g:Nat→Bool}:Go.Lib.compact ((castI (rowQ W f ++ rowQ W g)).mergeSort fun x y=>decide (x≤y))=castI (rowQ W fun j=>f j || g j):=by
 refine row_of fun x => ?_;rw [List.mem_append,rowQ_mem,rowQ_mem,Bool.or_eq_true]
 constructor
 ·rintro (⟨a,b⟩ | ⟨a,b⟩)
  ·exact ⟨a,.inl b⟩
  ·exact ⟨a,.inr b⟩
 ·rintro ⟨a,b | b⟩
  ·exact .inl ⟨a,b⟩
  ·exact .inr ⟨a,b⟩
def behB (B:Nat→Nat→Bool) (n:Int) (W e j:Nat):Bool:=(List.range W).any fun k=>decide (e+1≤k) && (decide ((k:Int)≤(e:Int)+1+n) && B k j)
theorem cutB_beh (A B:Nat→Nat→Bool) (n:Int) (W i j:Nat):cutB A B n W i j=(List.range W).any fun m=>A i m && behB B n W m j:=rfl
def catB (B:Nat→Nat→Bool) (W e s:Nat):List Nat:=((List.range s).drop (e+1)).flatMap fun k=>rowQ W (B k)
theorem catB_zero (B:Nat→Nat→Bool) (W e:Nat):catB B W e (e+1)=[]:=by
 unfold catB;rw [List.drop_of_length_le (by simp)]
 rfl
theorem catB_succ (B:Nat→Nat→Bool) (W e s:Nat) (h:e+1≤s):catB B W e (s+1)=catB B W e s ++ rowQ W (B s):=by
 unfold catB;rw [List.range_succ,List.drop_append_of_le_length (by simpa using h),List.flatMap_append];simp
theorem catB_len (B:Nat→Nat→Bool) (W e:Nat):∀ t,(catB B W e (e+1+t)).length≤t*W
 | 0=>by rw [Nat.add_zero,catB_zero]; simp
 | t+1=>by
  rw [← Nat.add_assoc,catB_succ _ _ _ _ (by omega),List.length_append];have h1:=catB_len B W e t;have h2:=rowQ_len W (B (e+1+t));rw [Nat.add_mul,Nat.one_mul]
  omega
theorem mem_catB {B:Nat→Nat→Bool} {W e s x:Nat}:x∈catB B W e s↔x<W∧∃ k,e+1≤k∧k<s∧B k x=true:=by
 unfold catB;rw [List.mem_flatMap]
 constructor
 ·rintro ⟨k,hk,hx⟩;obtain ⟨h1,h2⟩:=rowQ_mem.1 hx;rw [List.mem_drop_iff_getElem] at hk;obtain ⟨i,hi,rfl⟩:=hk;rw [List.getElem_range] at *;rw [List.length_range] at hi;exact ⟨h1,_,by omega,by omega,h2⟩
 ·rintro ⟨h1,k,h2,h3,h4⟩;refine ⟨k,?_,rowQ_mem.2 ⟨h1,h4⟩⟩;rw [List.mem_drop_iff_getElem];exact ⟨k - (e+1),by rw [List.length_range]; omega,by rw [List.getElem_range]; omega⟩
theorem behRow {B:Nat→Nat→Bool} {n:Int} {W e s:Nat} (hs:s≤W) (he:e+1≤s) (hn:0≤n) (h1:(s:Int)≤(e:Int)+2+n) (h2:s=W∨(e:Int)+1+n<s):Go.Lib.compact ((castI (catB B W e s)).mergeSort fun x y=>decide (x≤y))=castI (rowQ W (behB B n W e)):=by
 refine row_of fun x => ?_;rw [mem_catB];unfold behB;simp only [List.any_eq_true,List.mem_range,Bool.and_eq_true,decide_eq_true_eq]
 constructor
 ·rintro ⟨h3,k,h4,h5,h6⟩; exact ⟨h3,k,by omega,h4,by omega,h6⟩
 ·rintro ⟨h3,k,h4,h5,h6,h7⟩; exact ⟨h3,k,h5,by omega,h7⟩
def gatB (A B:Nat→Nat→Bool) (n:Int) (W i t:Nat):List Nat:=((rowQ W (A i)).take t).flatMap fun e=>rowQ W (behB B n W e)
theorem gatB_succ (A B:Nat→Nat→Bool) (n:Int) (W i:Nat) {t:Nat} (h:t<(rowQ W (A i)).length):gatB A B n W i (t+1)=gatB A B n W i t ++ rowQ W (behB B n W (rowQ W (A i))[t]):=by
 unfold gatB;rw [List.take_succ_eq_append_getElem h,List.flatMap_append];simp
theorem gatB_len (A B:Nat→Nat→Bool) (n:Int) (W i:Nat):∀ t,t≤(rowQ W (A i)).length→(gatB A B n W i t).length≤t*W
 | 0,_=>by simp [gatB]
 | t+1,h=>by
  rw [gatB_succ A B n W i (by omega),List.length_append];have h1:=gatB_len A B n W i t (by omega);have h2:=rowQ_len W (behB B n W (rowQ W (A i))[t]);rw [Nat.add_mul,Nat.one_mul]
  omega
theorem cutRow {A B:Nat→Nat→Bool} {n:Int} {W i:Nat}:Go.Lib.compact ((castI (gatB A B n W i (rowQ W (A i)).length)).mergeSort fun x y=>decide (x≤y))=castI (rowQ W (cutB A B n W i)):=by
 refine row_of fun x => ?_;unfold gatB;rw [List.take_length,List.mem_flatMap,cutB_beh];simp only [rowQ_mem,List.any_eq_true,List.mem_range,Bool.and_eq_true]
 constructor
 ·rintro ⟨e,⟨h1,h2⟩,h3,h4⟩; exact ⟨h3,e,h1,h2,h4⟩
 ·rintro ⟨h3,e,h1,h2,h4⟩; exact ⟨e,⟨h1,h2⟩,h3,h4⟩
def phrN (ws pats:List Str) (i t:Nat):Bool:=(List.range t).all fun t=>fitsB (pats.getD t []) (ws.getD (i+t) [])
theorem phrN_succ (ws pats:List Str) (i t:Nat):phrN ws pats i (t+1)=(phrN ws pats i t && fitsB (pats.getD t []) (ws.getD (i+t) [])):=by
 unfold phrN;rw [List.range_succ,List.all_append];simp
theorem phrRow {ws pats:List Str} {i:Nat} (h0:pats≠[]) (h1:i+pats.length≤ws.length):rowQ ws.length (phrB ws pats i)=if phrN ws pats i pats.length=true then [i+pats.length - 1] else []:=by
 have hp:1≤pats.length:=by cases pats with | nil=>exact absurd rfl h0 | cons a t=>simp
 symm
 split
 ·rename_i h
  refine rowQ_eq (List.pairwise_singleton _ _) fun x => ?_;rw [List.mem_singleton];unfold phrB;simp only [Bool.and_eq_true,decide_eq_true_eq]
  constructor
  ·rintro rfl; exact ⟨by omega,by omega,by omega,h⟩
  ·rintro ⟨_,a,_⟩; omega
 ·rename_i h
  refine rowQ_eq List.Pairwise.nil fun x => ?_;unfold phrB;simp only [Bool.and_eq_true,decide_eq_true_eq,List.not_mem_nil,false_iff];rintro ⟨_,_,_,a⟩;exact h a
theorem phrRow_out {ws pats:List Str} {i:Nat} (h1:ws.length<i+pats.length):rowQ ws.length (phrB ws pats i)=[]:=by
 symm
 refine rowQ_eq List.Pairwise.nil fun x => ?_;unfold phrB;simp only [Bool.and_eq_true,decide_eq_true_eq,List.not_mem_nil,false_iff];rintro ⟨h,a,_⟩
 omega
theorem somePl_rows (F:Nat→Nat→Bool) (W:Nat):somePl F W=(rowsQ W F).any fun l=>decide (0<l.length):=by
 unfold somePl rowsQ;rw [List.any_map]
 congr 1
 funext i
 rw [Bool.eq_iff_iff];simp only [List.any_eq_true,List.mem_range,Function.comp,decide_eq_true_eq];rw [List.length_pos_iff_exists_mem]
 constructor
 ·rintro ⟨j,h1,h2⟩; exact ⟨j,rowQ_mem.2 ⟨h1,h2⟩⟩
 ·rintro ⟨j,h⟩; exact ⟨j,rowQ_mem.1 h⟩
end Go.Proofs.YtnfflgicngeekaaGreatDoor
