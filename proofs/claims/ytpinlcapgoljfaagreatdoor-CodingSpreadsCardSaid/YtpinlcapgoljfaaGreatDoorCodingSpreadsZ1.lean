/- Texts of the proof of CodingSpreads, put together: Math. -/

set_option linter.unusedVariables false
set_option linter.unusedSimpArgs false
/- Plain arithmetic of digits: no program is named here. -/
namespace Go.Proofs.YtpinlcapgoljfaaGreatDoor

/-- The number that a list of digits to a base means, the least digit first. -/
def val (B : Nat) (ds : List Nat) : Nat := ds.foldr (fun d acc => d + B * acc) 0

/-- No zero at the end. -/
def Norm (ds : List Nat) : Prop := ∀ n, ds.length = n + 1 → ds.getD n 0 ≠ 0

/-- The base of the reference's numbers. -/
def B9 : Nat := 1000000000
/-- The base of package sample's numbers. -/
def B32 : Nat := 4294967296
end Go.Proofs.YtpinlcapgoljfaaGreatDoor
