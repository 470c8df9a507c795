/- The chapter's example. -/
import Derived.Test.YtffjnilmpeihiaaGreatDoorWd5
set_option linter.unusedVariables false
set_option linter.unusedSimpArgs false
namespace Go.Proofs.YtffjnilmpeihiaaGreatDoor
open Go Go.RowKit Go.Maps

theorem b0_conf : (newM 100).size (ByteArray.mk #[99, 111, 110, 102]).data.toList = (0, 2, a1) := a0_conf
theorem b0_calls : IntKind.i64.wrap (a1.calls - (newM 100).calls) = 1 := by decide
theorem b1_calls : IntKind.i64.wrap (a6.calls - a1.calls) = 5 := by decide
theorem b6_size : DiskM.size { a6 with fuse := -1, down := false } (ByteArray.mk #[105, 110, 112, 117, 116]).data.toList = (3, 0, a7) := a6_size
theorem b6_kept : ∀ p ∈ a6.fs, p.2.kept = p.2.s.size := by
  intro p hp
  have : p = ([105, 110, 112, 117, 116], ⟨⟨#[97, 98, 99]⟩, 3⟩) := by simpa [a6] using hp
  subst this
  rfl
set_option maxRecDepth 100000 in
set_option maxHeartbeats 3200000 in
theorem law_awake (w : World) : Calls Tryz.prog 8 #[] w fun e w' => e = .returned (.bool true) ∧ Below w.heap.size w w' := by
  have H1 := Lib.hid b0_conf
  go_enter Tryz.func8, Tryz.ntmps8
  go_wp2_with fail
  refine (world_new 100 w (by omega) (by omega)).mono ?_
  rintro e w1 ⟨q, sb, g, b, rfl, hw1, hb1, hq, hsb, hg, hb⟩
  have hqg : q ≠ g := blk_ne hw1.blk hw1.disk.blk (by decide)
  have hqb : q ≠ b := fun e => by subst e; exact ownsMap_ne hw1.disk.map hw1.blk rfl
  have hsg : sb ≠ g := blk_ne hw1.acts hw1.disk.blk (by decide)
  have hsbb : sb ≠ b := fun e => by subst e; exact ownsMap_ne hw1.disk.map hw1.acts rfl
  have HW1 := Lib.hid hw1
  have HB1 := Lib.hid hb1
  clear hw1 hb1
  go_wp2_with fail
  refine (do_run HW1.out b0_conf b0_calls).mono ?_
  rintro e w2 ⟨rfl, hd2, hk2⟩
  have HW2 := Lib.hid (HW1.out.keep hk2 (by omega) (by omega) hd2)
  have HB2 : Hid (Below w.heap.size w w2) := Lib.hid (HB1.out.trans (hk2.to_below HB1.out.size (fun j e => by omega)))
  clear hd2 hk2
  go_wp2_with fail
  have HW3 := Lib.hid (HW2.out.keep (S := fun _ => False) ((Keep.refl _ w2).alloc (.cells #[.int .i64 8, .int .i64 1, .int .i64 a1.used] 36)) id id (HW2.out.disk.alloc _))
  have HZ3 := Lib.hid (heap_alloc_new w2 (.cells #[.int .i64 8, .int .i64 1, .int .i64 a1.used] 36))
  have hz2 := HB2.out.size
  refine (do_put HW3.out rfl a1_call a2_size a3_create a4_append a5_sync b1_calls).mono ?_
  rintro e w4 ⟨rfl, hd4, hk4⟩
  have hg2 := HW2.out.disk.lt
  have hb2' := HW2.out.disk.ltb
  have HW4 := Lib.hid (HW3.out.keep hk4 (by omega) (by omega) hd4)
  have HZ4 := Lib.hid (hk4.blk HZ3.out (by omega))
  have HB4 : Hid (Below w.heap.size w w4) := Lib.hid ((HB2.out.alloc hz2 _).trans (hk4.to_below (by simp; omega) (fun j e => by omega)))
  clear hd4 hk4
  go_wp2_with fail
  have HW5 := Lib.hid (HW4.out.keep (S := fun _ => False) ((Keep.refl _ w4).alloc (.cells #[.int .i64 0, .int .i64 5, .int .i64 a6.used] 36)) id id (HW4.out.disk.alloc _))
  have HZ5 := Lib.hid (heap_alloc_new w4 (.cells #[.int .i64 0, .int .i64 5, .int .i64 a6.used] 36))
  have HY5 := Lib.hid (blk_alloc HZ4.out (.cells #[.int .i64 0, .int .i64 5, .int .i64 a6.used] 36))
  have hz4 := HB4.out.size
  refine (world_read (n := 3) (s := ⟨#[97, 98, 99]⟩) HW5.out (by decide) b6_kept (by decide) b6_size (by omega) a7_read).mono ?_
  rintro e w6 ⟨rfl, hb6⟩
  have hy := (hb6.block w2.heap.size (lt_of_block HY5.out)).trans HY5.out
  have hz := (hb6.block w4.heap.size (lt_of_block HZ5.out)).trans HZ5.out
  have y0 : w6.cell? ⟨w2.heap.size, 0, none⟩ = some (.int .i64 8) := blk_cell hy 0
  have y1 : w6.cell? ⟨w2.heap.size, 1, none⟩ = some (.int .i64 1) := blk_cell hy 1
  have z0 : w6.cell? ⟨w4.heap.size, 0, none⟩ = some (.int .i64 0) := blk_cell hz 0
  have z2 : w6.cell? ⟨w4.heap.size, 2, none⟩ = some (.int .i64 3) := blk_cell hz 2
  have HB6 := Lib.hid hb6
  clear hy hz hb6
  go_wp2_with fail
  (try go_ret)
  exact ⟨rfl, (HB4.out.alloc hz4 _).trans (HB6.out.mono (by simp; omega))⟩
end Go.Proofs.YtffjnilmpeihiaaGreatDoor
