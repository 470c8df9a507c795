/- The disks of the chapter's example, one by one; no program in sight. -/
import Derived.Test.YtffjnilmpeihiaaGreatDoorDataRise
import Derived.KernelRfl
set_option linter.unusedVariables false
set_option linter.unusedSimpArgs false
namespace Go.Proofs.YtffjnilmpeihiaaGreatDoor
open Go Go.RowKit Go.Maps

abbrev confB : ByteArray := ⟨#[99, 111, 110, 102]⟩
abbrev inpB : ByteArray := ⟨#[105, 110, 112, 117, 116]⟩
abbrev abcB : ByteArray := ⟨#[97, 98, 99]⟩
def a0 : DiskM := { room := 100, used := 0, fs := [], fuse := -1, down := false, calls := 0 }
def a1 : DiskM := { room := 100, used := 0, fs := [], fuse := -1, down := false, calls := 1 }
def a2 : DiskM := { room := 100, used := 0, fs := [], fuse := -1, down := false, calls := 2 }
def a3 : DiskM := { room := 100, used := 0, fs := [], fuse := -1, down := false, calls := 3 }
def a4 : DiskM := { room := 100, used := 0, fs := [([105, 110, 112, 117, 116], ⟨⟨#[]⟩, 0⟩)], fuse := -1, down := false, calls := 4 }
def a5 : DiskM := { room := 100, used := 3, fs := [([105, 110, 112, 117, 116], ⟨⟨#[97, 98, 99]⟩, 0⟩)], fuse := -1, down := false, calls := 5 }
def a6 : DiskM := { room := 100, used := 3, fs := [([105, 110, 112, 117, 116], ⟨⟨#[97, 98, 99]⟩, 3⟩)], fuse := -1, down := false, calls := 6 }
def a7 : DiskM := { room := 100, used := 3, fs := [([105, 110, 112, 117, 116], ⟨⟨#[97, 98, 99]⟩, 3⟩)], fuse := -1, down := false, calls := 7 }
def a8 : DiskM := { room := 100, used := 3, fs := [([105, 110, 112, 117, 116], ⟨⟨#[97, 98, 99]⟩, 3⟩)], fuse := -1, down := false, calls := 8 }
theorem a0_conf : a0.size confB.data.toList = (0, 2, a1) := by kernel_rfl
theorem a1_call : a1.call true = (0, a2) := by kernel_rfl
theorem a2_size : a2.size inpB.data.toList = (0, 2, a3) := by kernel_rfl
theorem a3_create : a3.create inpB.data.toList = (0, a4) := by kernel_rfl
theorem a4_append : a4.append inpB.data.toList abcB = (0, a5) := by kernel_rfl
theorem a5_sync : a5.sync inpB.data.toList = (0, a6) := by kernel_rfl
theorem a6_rise : a6.rise (List.replicate 200 16777216) = a6 := by kernel_rfl
theorem a6_size : a6.size inpB.data.toList = (3, 0, a7) := by kernel_rfl
theorem a7_read : a7.read inpB.data.toList 0 3 = (abcB, 0, a8) := by kernel_rfl
end Go.Proofs.YtffjnilmpeihiaaGreatDoor
