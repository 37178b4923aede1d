/- Contracts of the reference's Time. -/
import Derived.Test.YtekjnagojphmkaaDoorChecked
import Derived.Test.YtekjnagojphmkaaDoorCom
set_option linter.unusedSimpArgs false
set_option linter.unusedVariables false
namespace Vg
def timeB (t : Int) : Bool := decide (0 ≤ t) && decide (t ≤ 4503599627370496)
theorem timeB_true {t : Int} : timeB t = true ↔ 0 ≤ t ∧ t ≤ 4503599627370496 := by simp [timeB]
theorem timeB_false {t : Int} : timeB t = false ↔ ¬ (0 ≤ t ∧ t ≤ 4503599627370496) := by simp [timeB]
end Vg
namespace Go.Proofs.YtekjnagojphmkaaDoor
open Go.ChangeShapes Go.WideShapes Go.ChangeAt Go.RowKit
end Go.Proofs.YtekjnagojphmkaaDoor
