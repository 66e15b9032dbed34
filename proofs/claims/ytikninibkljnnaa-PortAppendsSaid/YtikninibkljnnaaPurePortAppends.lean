import Derived.Test.YtikninibkljnnaaLPortAppendsx0
namespace Go.Proofs.Ytikninibkljnnaa.Pure
open Go.RowKit Go.Proofs.Ytikninibkljnnaa.LPortAppends Go.Proofs.Ytikninibkljnnaa.QPortAppends Go.Proofs.Ytikninibkljnnaa.Hnd Go.Proofs.YtikninibkljnnaaW.PrintWords Go.Proofs.YtikninibkljnnaaW.PrintLast

theorem PortAppends : ∀ (a0 : ByteArray) (l1 : List ByteArray), a0.size ≤ 140737488351232 → (l1.length * 16 ≤ 140737488351232 ∧ ∀ y2 ∈ l1, y2.size ≤ 140737488351232) → lazaruslaw18_PortAppends.f a0 l1 = some true := by
  intros; rfl

end Go.Proofs.Ytikninibkljnnaa.Pure
