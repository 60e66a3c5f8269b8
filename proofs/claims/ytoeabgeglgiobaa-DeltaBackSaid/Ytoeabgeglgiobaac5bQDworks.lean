/- The examples of chapter 5 come out. No condition. -/
import Derived.Test.Ytoeabgeglgiobaac5bQEv
import Derived.Test.Ytoeabgeglgiobaac5bGlaw051
import Derived.KernelRfl
namespace Go.Proofs.Ytoeabgeglgiobaa.Q
open Go.RowKit Go.Proofs.YtoeabgeglgiobaaW.PrintWords Go.Proofs.YtoeabgeglgiobaaW.PrintLast Go.Proofs.YtoeabgeglgiobaaW.PrintMore
open Go.Proofs.Ytoeabgeglgiobaa.P
theorem works05_at : chartroomlaw05_works.f 40 = some true := by kernel_rfl
theorem works05 : Ev (fun k => chartroomlaw05_works.f k) true := Ev.of (fun k => chartroomlaw05_works.mono k) works05_at
theorem works05_bind : Ev (fun k => (chartroomlaw05_works.f k).bind fun t => some t) true := Ev.bind works05 (Ev.now _)
end Go.Proofs.Ytoeabgeglgiobaa.Q
