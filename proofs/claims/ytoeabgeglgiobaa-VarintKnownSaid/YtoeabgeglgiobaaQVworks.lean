/- The examples of chapter 1 come out. No condition. -/
import Derived.Test.YtoeabgeglgiobaaQVtext
import Derived.KernelRfl
namespace Go.Proofs.Ytoeabgeglgiobaa.Q
open Go.RowKit Go.Proofs.YtoeabgeglgiobaaW.PrintWords Go.Proofs.YtoeabgeglgiobaaW.PrintLast Go.Proofs.YtoeabgeglgiobaaW.PrintMore
open Go.Proofs.Ytoeabgeglgiobaa.P
theorem works01_at : chartroomlaw01_works.f 20 = some true := by kernel_rfl
theorem works01 : Ev (fun k => chartroomlaw01_works.f k) true := Ev.of (fun k => chartroomlaw01_works.mono k) works01_at
theorem works01_bind : Ev (fun k => (chartroomlaw01_works.f k).bind fun t => some t) true := Ev.bind works01 (Ev.now _)
end Go.Proofs.Ytoeabgeglgiobaa.Q
