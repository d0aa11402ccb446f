/- Texts of the proof of ItemTexts, put together: Math. -/

set_option linter.unusedVariables false
set_option linter.unusedSimpArgs false
/- Plain arithmetic of digits: no program is named here. -/
namespace Go.Proofs.YtelpdjhkedhppaaGreatDoor
def val (B : Nat) (ds : List Nat) : Nat := ds.foldr (fun d acc => d + B * acc) 0
def Norm (ds : List Nat) : Prop := ∀ n, ds.length = n + 1 → ds.getD n 0 ≠ 0
def B9 : Nat := 1000000000
def B32 : Nat := 4294967296
end Go.Proofs.YtelpdjhkedhppaaGreatDoor
