/- The examples of chapter 3 come out. No condition. -/
import Derived.Test.Ytoeabgeglgiobaac3kQFall
import Derived.Test.Ytoeabgeglgiobaac3kGlaw031
import Derived.KernelRfl
namespace Go.Proofs.Ytoeabgeglgiobaa.Q
open Go.RowKit Go.Proofs.YtoeabgeglgiobaaW.PrintWords Go.Proofs.YtoeabgeglgiobaaW.PrintLast Go.Proofs.YtoeabgeglgiobaaW.PrintMore
open Go.Proofs.Ytoeabgeglgiobaa.P
theorem works03_at : chartroomlaw03_works.f 40 = some true := by kernel_rfl
theorem works03 : Ev (fun k => chartroomlaw03_works.f k) true := Ev.of (fun k => chartroomlaw03_works.mono k) works03_at
theorem works03_bind : Ev (fun k => (chartroomlaw03_works.f k).bind fun t => some t) true := Ev.bind works03 (Ev.now _)
end Go.Proofs.Ytoeabgeglgiobaa.Q
