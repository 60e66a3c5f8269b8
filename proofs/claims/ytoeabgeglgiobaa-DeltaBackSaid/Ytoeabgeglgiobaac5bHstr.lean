/- Whether a text is empty, in two spellings. No condition. -/
import Derived.Test.Ytoeabgeglgiobaac5bP0
namespace Go.Proofs.Ytoeabgeglgiobaa.P
theorem isEmpty_bne (l : List UInt8) : (!l.isEmpty) = (l != []) := by cases l <;> rfl
theorem isEmpty_beq (l : List UInt8) : l.isEmpty = (l == []) := by cases l <;> rfl
end Go.Proofs.Ytoeabgeglgiobaa.P
