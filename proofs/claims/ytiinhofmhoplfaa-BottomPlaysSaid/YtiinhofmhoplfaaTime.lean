/- Contracts of the reference's Time. -/
import Derived.Test.YtiinhofmhoplfaaChecked
import Derived.Test.YtiinhofmhoplfaaCom
set_option linter.unusedSimpArgs false
set_option linter.unusedVariables false
namespace Vg
def timeB (t : Int) : Bool := decide (0 ≤ t) && decide (t ≤ 4503599627370496)
theorem timeB_true {t : Int} : timeB t = true ↔ 0 ≤ t ∧ t ≤ 4503599627370496 := by simp [timeB]
theorem timeB_false {t : Int} : timeB t = false ↔ ¬ (0 ≤ t ∧ t ≤ 4503599627370496) := by simp [timeB]
end Vg
namespace Go.Proofs.Ytiinhofmhoplfaa
open Go.ChangeShapes Go.WideShapes Go.ChangeAt Go.RowKit
theorem reftime_any (t : Int) (w : World) :
    Calls Try.prog 131 #[.int .i64 t] w fun e w' => e = .returned (.bool (Vg.timeB t)) ∧ w = w' := by
  go_enter Try.func131, Try.ntmps131
  go_wp2
  all_goals go_ret
  · exact ⟨ret_bool (by simp [Vg.timeB, *]), rfl⟩
  · exact ⟨ret_bool (by simp [Vg.timeB]; omega), rfl⟩
end Go.Proofs.Ytiinhofmhoplfaa
