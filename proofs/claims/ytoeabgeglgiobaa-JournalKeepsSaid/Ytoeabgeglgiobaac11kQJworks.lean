/- The examples of chapter 11 come out. No condition. -/
import Derived.Test.Ytoeabgeglgiobaac11kQEv
import Derived.Test.Ytoeabgeglgiobaac11kGlaw111
import Derived.KernelRfl
namespace Go.Proofs.Ytoeabgeglgiobaa.Q
open Go.RowKit Go.Proofs.YtoeabgeglgiobaaW.PrintWords Go.Proofs.YtoeabgeglgiobaaW.PrintLast Go.Proofs.YtoeabgeglgiobaaW.PrintMore
open Go.Proofs.Ytoeabgeglgiobaa.P
theorem works11_at : chartroomlaw11_works.f 40 = some true := by kernel_rfl
theorem works11 : Ev (fun k => chartroomlaw11_works.f k) true := Ev.of (fun k => chartroomlaw11_works.mono k) works11_at
theorem works11_bind : Ev (fun k => (chartroomlaw11_works.f k).bind fun t => some t) true := Ev.bind works11 (Ev.now _)
end Go.Proofs.Ytoeabgeglgiobaa.Q
