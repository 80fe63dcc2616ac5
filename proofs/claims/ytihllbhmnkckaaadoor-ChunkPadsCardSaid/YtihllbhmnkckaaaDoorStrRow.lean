/- Rows of texts; how long texts are that are laid with their lengths. No condition. -/
import Derived.Test.YtihllbhmnkckaaaDoorSized
import Derived.Test.YtihllbhmnkckaaaDoorGen
namespace Go.Proofs.YtihllbhmnkckaaaDoor
set_option linter.unusedVariables false
set_option linter.unusedSimpArgs false
open Go.RowKit
/-- A row of texts. -/
def StrV (ls : List (List UInt8)) : List Value := ls.map fun l => Value.string (strB l)
theorem StrV_length (ls : List (List UInt8)) : (StrV ls).length = ls.length := by simp [StrV]
theorem StrV_get (ls : List (List UInt8)) (j : Nat) (l : List UInt8) (h : ls[j]? = some l) : (StrV ls)[j]? = some (.string (strB l)) := by simp [StrV, h]
theorem StrV_append (a b : List (List UInt8)) : StrV (a ++ b) = StrV a ++ StrV b := by simp [StrV]
theorem StrV_one (ls : List (List UInt8)) : ∀ u ∈ StrV ls, u.oneCell' = true := by
  intro u hu
  simp only [StrV, List.mem_map] at hu
  obtain ⟨q, _, rfl⟩ := hu
  rfl
theorem sized_flat (ls : List (List UInt8)) : (ls.map sizedL).flatten.length = ls.flatten.length + 4 * ls.length := by
  induction ls with
  | nil => rfl
  | cons l ls ih => simp only [List.map_cons, List.flatten_cons, List.length_append, ih, sizedL_length, List.length_cons]; omega
end Go.Proofs.YtihllbhmnkckaaaDoor
