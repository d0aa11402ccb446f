/- What the listed variables of QuoteStrings hold. -/
import Derived.Test.YtbpicgmblpejoaaDoorLawQuote
import Derived.Test.YtbpicgmblpejoaaDoorRows
import Derived.Stop.LaidErr
import Derived.Lib.LaidTab
import Derived.ProofKit
namespace Go.Proofs.YtbpicgmblpejoaaDoor
set_option linter.unusedVariables false
set_option linter.unusedSimpArgs false
open Go.RowKit

def litZ : DataW Unit → Int
  | .lit (.int _ n) => n
  | _ => 0
def litsZ : DataW Unit → List Int
  | .agg ps => ps.map litZ
  | _ => []
theorem cell_of_var {W : World} {g : Nat} {name : String} {cs : Array Value} (hg : Tryd.prog.globalNamed name = some g) (h : W.var? Tryd.prog name = some cs) (i : Nat) : W.cell? ⟨g, i, none⟩ = cs[i]? := by
  unfold World.var? at h
  rw [hg] at h
  simp only [Option.bind_some] at h
  split at h
  · rename_i hh
    injection h with h
    subst h
    exact cell_of_row W g i _ _ _ hh
  · cases h
theorem star : "*" ++ "errors.errorString" = "*errors.errorString" := by decide
theorem rowErr (u : TypeId) (h : Tryd.prog.typeName? 3 u = some "*errors.errorString") : u = 97 :=
  typeName_ptr_named (nm := "errors.errorString") (by rw [star]; kernel_rfl) (by kernel_rfl) (by decide) u (by rw [star]; exact h)
theorem deb_of {W : World} (hL : laidMetH Tryd.prog Rows.quoteStringsRow.laid W) : Deb W := by
  have hL' : laidMet Tryd.prog Rows.quoteStringsRow.laid W := hL
  have h1 := Lib.tabIs_of_head (k := .u8) (zs := litsZ Rows.laid_math_bits_deBruijn64tab) (g := 5) (name := "math/bits.deBruijn64tab") (P := Tryd.prog) (W := W) (n := 64) (t := 96) (e := 5) (by kernel_rfl) (by kernel_rfl) (by kernel_rfl) (by kernel_rfl) (by kernel_rfl) (by kernel_rfl) hL'.tail
  exact (cell_of_var (by kernel_rfl) h1 15).trans (by kernel_rfl)
theorem err_of {W : World} (hL : laidMetH Tryd.prog Rows.quoteStringsRow.laid W) : ErrS W := by
  have hL' : laidMet Tryd.prog Rows.quoteStringsRow.laid W := hL
  obtain ⟨a, s, hv, _⟩ := laid_sentinel (g := 2) hL'.tail.tail.tail.tail (by kernel_rfl) (by kernel_rfl) Tryd.underlying45 rowErr Tryd.underlying97 Tryd.underlying99 rfl rfl Tryd.underlying9 (by kernel_rfl) (by kernel_rfl)
  exact ⟨_, _, (cell_of_var (by kernel_rfl) hv 0).trans rfl⟩

end Go.Proofs.YtbpicgmblpejoaaDoor
