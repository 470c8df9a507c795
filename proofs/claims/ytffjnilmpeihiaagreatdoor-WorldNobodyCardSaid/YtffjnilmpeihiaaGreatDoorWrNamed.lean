/- One closed fact of the row. -/
import Derived.Test.YtffjnilmpeihiaaGreatDoorRows
import Derived.KernelRfl
namespace Go.Proofs.YtffjnilmpeihiaaGreatDoor
open Go
theorem row_named : (Rows.worldNobodyRow.named == Tryz.prog.varsNamed 3) = true := by kernel_rfl
end Go.Proofs.YtffjnilmpeihiaaGreatDoor
