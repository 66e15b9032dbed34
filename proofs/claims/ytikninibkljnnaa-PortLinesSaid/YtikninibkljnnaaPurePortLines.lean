import Derived.Test.YtikninibkljnnaaLPortLinesx0
namespace Go.Proofs.Ytikninibkljnnaa.Pure
open Go.RowKit Go.Proofs.Ytikninibkljnnaa.LPortLines Go.Proofs.Ytikninibkljnnaa.QPortLines Go.Proofs.Ytikninibkljnnaa.Hnd Go.Proofs.YtikninibkljnnaaW.PrintWords Go.Proofs.YtikninibkljnnaaW.PrintLast

theorem PortLines : ∀ (a0 : ByteArray) (a1 : Int), a0.size ≤ 140737488351232 → (Lit.int .i64 a1).wf = true → lazaruslaw18_PortLines.f a0 a1 = some true := by
  intros; rfl

end Go.Proofs.Ytikninibkljnnaa.Pure
