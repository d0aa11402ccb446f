/- Texts of the proof of QuerySearches, put together: Math, Hyper. -/

set_option linter.unusedVariables false
set_option linter.unusedSimpArgs false
namespace Go.Proofs.YtnfflgicngeekaaGreatDoor
def val (B:Nat) (ds:List Nat):Nat:=ds.foldr (fun d acc=>d+B*acc) 0
def Norm (ds:List Nat):Prop:=∀ n,ds.length=n+1→ds.getD n 0≠0
def pad (n:Nat) (xs:List Nat):List Nat:=xs ++ List.replicate (n - xs.length) 0
def B9:Nat:=1000000000
def B32:Nat:=4294967296
def ch:Nat→Nat→Nat
 | _,0=>1
 | 0,_+1=>0
 | n+1,k+1=>ch n k+ch n (k+1)
def hsum (r q s lo:Nat):Nat→Nat
 | 0=>0
 | n+1=>hsum r q s lo n+ch r (lo+n)*ch q (s - (lo+n))
def fact:Nat→Nat
 | 0=>1
 | n+1=>(n+1)*fact n
end Go.Proofs.YtnfflgicngeekaaGreatDoor
