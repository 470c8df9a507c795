/- One closed fact of the row. -/
import Derived.Test.YtffjnilmpeihiaaGreatDoorRows
import Derived.KernelRfl
namespace Go.Proofs.YtffjnilmpeihiaaGreatDoor
open Go
theorem row_inPlace : (Rows.worldNobodyRow.inPlace == Tryz.prog.inPlace 3) = true := by kernel_rfl
end Go.Proofs.YtffjnilmpeihiaaGreatDoor
