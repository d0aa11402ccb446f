/- Texts of the proof of QueryPrints, put together: Math, Hyper. -/

/- Plain arithmetic of digits: no program is named here. -/
namespace Go.Proofs.YtnfflgicngeekaaGreatDoor
set_option linter.unusedVariables false
set_option linter.unusedSimpArgs false

/-- The number that a list of digits to a base means, the least digit first. -/
def val (B : Nat) (ds : List Nat) : Nat := ds.foldr (fun d acc => d + B * acc) 0

/-- No zero at the end. -/
def Norm (ds : List Nat) : Prop := ∀ n, ds.length = n + 1 → ds.getD n 0 ≠ 0

def pad (n : Nat) (xs : List Nat) : List Nat := xs ++ List.replicate (n - xs.length) 0
/-- The base of the reference's numbers. -/
def B9 : Nat := 1000000000
/-- The base of package sample's numbers. -/
def B32 : Nat := 4294967296
end Go.Proofs.YtnfflgicngeekaaGreatDoor

/- Binomial sums: that fewer relevant ones make few more likely. Plain arithmetic. -/
namespace Go.Proofs.YtnfflgicngeekaaGreatDoor
set_option linter.unusedVariables false
set_option linter.unusedSimpArgs false

/-- Binomial numbers. -/
def ch : Nat → Nat → Nat
 | _, 0 => 1
 | 0, _ + 1 => 0
 | n + 1, k + 1 => ch n k + ch n (k + 1)
/-- The numbers of ways to draw s of p with r relevant ones, so that from lo on n numbers of relevant ones are met. -/
def hsum (r q s lo : Nat) : Nat → Nat
 | 0 => 0
 | n + 1 => hsum r q s lo n + ch r (lo + n) * ch q (s - (lo + n))
/-- Factorials; rows of draws, one after the other. -/
def fact : Nat → Nat
 | 0 => 1
 | n + 1 => (n + 1) * fact n
end Go.Proofs.YtnfflgicngeekaaGreatDoor
