/- An act is done. -/
import Derived.Test.YtffjnilmpeihiaaGreatDoorWd3
set_option linter.unusedVariables false
set_option linter.unusedSimpArgs false
namespace Go.Proofs.YtffjnilmpeihiaaGreatDoor
open Go Go.RowKit Go.Maps

def DoPost (w : World) (g b : Nat) (d : DiskM) (r c u : Int) (e : Ending) (w' : World) : Prop := e = .returned (.agg #[.int .i64 r, .int .i64 c, .int .i64 u]) ∧ DiskAt w' g b d ∧ Keep (fun k => k = g ∨ k = b) w w'
theorem keep3 (w : World) (z : Nat) (a b c : Value) : Keep (fun j => j = z) w (((w.setCell ⟨z, 0, none⟩ a).setCell ⟨z, 1, none⟩ b).setCell ⟨z, 2, none⟩ c).drew :=
  ((((Keep.refl (fun j => j = z) w).setCell (.inl rfl) _).setCell (.inl rfl) _).setCell (.inl rfl) _).drew
set_option maxRecDepth 100000 in
set_option maxHeartbeats 6400000 in
theorem do_run {w : World} {q sb g b : Nat} {d d1 : DiskM} (h : WorldAt w q sb g b d) (hs : d.size (ByteArray.mk #[99, 111, 110, 102]).data.toList = (0, 2, d1)) (hcl : IntKind.i64.wrap (d1.calls - d.calls) = 1) :
    Calls Tryz.prog 5 #[.pointer (some ⟨q, 0, none⟩), actA 1 ⟨#[]⟩ ⟨#[]⟩ 0 0 none 0 0] w (DoPost w g b d1 8 1 d1.used) := by
  have HH := Lib.hid h
  have HS := Lib.hid hs
  have HCL := Lib.hid hcl
  have hq : q < w.heap.size := lt_of_block h.blk
  have hsb : sb < w.heap.size := lt_of_block h.acts
  have hg := h.disk.lt
  have hb := h.disk.ltb
  have hqg : q ≠ g := blk_ne h.blk h.disk.blk (by decide)
  have hqb : q ≠ b := fun e => by subst e; exact ownsMap_ne h.disk.map h.blk rfl
  have hsg : sb ≠ g := blk_ne h.acts h.disk.blk (by decide)
  have hsbb : sb ≠ b := fun e => by subst e; exact ownsMap_ne h.disk.map h.acts rfl
  clear h hs hcl
  unfold actA
  go_enter Tryz.func5, Tryz.ntmps5
  go_wp2_with fail
  have HA := Lib.hid (((Keep.refl (fun j => j = g ∨ j = b) w).alloc (.cells #[.int .i64 1, .string ⟨#[]⟩, .string ⟨#[]⟩, .int .i64 0, .int .u32 0, .slice none 0 0] 38)).alloc (.cells #[.int .i64 0, .int .i64 0, .int .i64 0] 36))
  have HZ := Lib.hid (blk_alloc (heap_alloc_new w (.cells #[.int .i64 1, .string ⟨#[]⟩, .string ⟨#[]⟩, .int .i64 0, .int .u32 0, .slice none 0 0] 38)) (.cells #[.int .i64 0, .int .i64 0, .int .i64 0] 36))
  have HR : Hid (((w.alloc (.cells #[.int .i64 1, .string ⟨#[]⟩, .string ⟨#[]⟩, .int .i64 0, .int .u32 0, .slice none 0 0] 38)).alloc (.cells #[.int .i64 0, .int .i64 0, .int .i64 0] 36)).heap[w.heap.size + 1]? = some (.cells #[.int .i64 0, .int .i64 0, .int .i64 0] 36 (0, 0))) := by
    have := heap_alloc_new (w.alloc (.cells #[.int .i64 1, .string ⟨#[]⟩, .string ⟨#[]⟩, .int .i64 0, .int .u32 0, .slice none 0 0] 38)) (.cells #[.int .i64 0, .int .i64 0, .int .i64 0] 36)
    rw [show (w.alloc (.cells #[.int .i64 1, .string ⟨#[]⟩, .string ⟨#[]⟩, .int .i64 0, .int .u32 0, .slice none 0 0] 38)).heap.size = w.heap.size + 1 by simp] at this
    exact Lib.hid this
  have HW := Lib.hid (HH.out.keep HA.out (by omega) (by omega) ((HH.out.disk.alloc _).alloc _))
  generalize (w.alloc (.cells #[.int .i64 1, .string ⟨#[]⟩, .string ⟨#[]⟩, .int .i64 0, .int .u32 0, .slice none 0 0] 38)).alloc (.cells #[.int .i64 0, .int .i64 0, .int .i64 0] 36) = wa at *
  refine (world_given HW.out.blk).mono ?_
  rintro e w' ⟨rfl, rfl⟩
  have c0 : wa.cell? ⟨q, 0, none⟩ = some (.pointer (some ⟨g, 0, none⟩)) := blk_cell HW.out.blk 0
  have c1 : wa.cell? ⟨q, 1, none⟩ = some (.slice (some ⟨sb, 0, none⟩) 6 6) := blk_cell HW.out.blk 1
  have z0 : wa.cell? ⟨w.heap.size, 0, none⟩ = some (.int .i64 1) := blk_cell HZ.out 0
  go_wp2_with fail
  refine (fs_calls HW.out.disk).mono ?_
  rintro e w' ⟨rfl, rfl⟩
  go_wp2_with fail
  refine region_still (by kernel_rfl) (by kernel_rfl) fun wb hdr => ?_
  have HW2 := Lib.hid (HW.out.keep (hdr.keep (Keep.refl (fun _ => False) wa)) id id (HW.out.disk.drawn hdr))
  have HA2 := Lib.hid (hdr.keep HA.out)
  have HZ2 := Lib.hid (hdr.blk HZ.out)
  have HR2 := Lib.hid (hdr.blk HR.out)
  clear hdr c0 c1 z0
  have c0 : wb.cell? ⟨q, 0, none⟩ = some (.pointer (some ⟨g, 0, none⟩)) := blk_cell HW2.out.blk 0
  have c1 : wb.cell? ⟨q, 1, none⟩ = some (.slice (some ⟨sb, 0, none⟩) 6 6) := blk_cell HW2.out.blk 1
  have z0 : wb.cell? ⟨w.heap.size, 0, none⟩ = some (.int .i64 1) := blk_cell HZ2.out 0
  repeat still_step
  refine wpStill_nil ?_
  go_wp2_with fail
  refine region_tail 9 (by kernel_rfl) (by kernel_rfl) fun wc hdr => ?_
  simp only [List.take_succ_cons, List.take_zero, List.drop_succ_cons, List.drop_zero]
  have HW3 := Lib.hid (HW2.out.keep (hdr.keep (Keep.refl (fun _ => False) wb)) id id (HW2.out.disk.drawn hdr))
  have HA3 := Lib.hid (hdr.keep HA2.out)
  have HZ3 := Lib.hid (hdr.blk HZ2.out)
  have HR3 := Lib.hid (hdr.blk HR2.out)
  clear hdr c0 c1 z0
  have c0 : wc.cell? ⟨q, 0, none⟩ = some (.pointer (some ⟨g, 0, none⟩)) := blk_cell HW3.out.blk 0
  have c1 : wc.cell? ⟨q, 1, none⟩ = some (.slice (some ⟨sb, 0, none⟩) 6 6) := blk_cell HW3.out.blk 1
  have z0 : wc.cell? ⟨w.heap.size, 0, none⟩ = some (.int .i64 1) := blk_cell HZ3.out 0
  have s0 : wc.cell? ⟨sb, 1, none⟩ = some (.func (.func 25) #[.pointer (some ⟨q, 0, none⟩)] #[]) := blk_cell HW3.out.acts 1
  have z1 : wc.cell? ⟨w.heap.size, 1, none⟩ = some (.string ⟨#[]⟩) := blk_cell HZ3.out 1
  have z2 : wc.cell? ⟨w.heap.size, 2, none⟩ = some (.string ⟨#[]⟩) := blk_cell HZ3.out 2
  have z3 : wc.cell? ⟨w.heap.size, 3, none⟩ = some (.int .i64 0) := blk_cell HZ3.out 3
  have z4 : wc.cell? ⟨w.heap.size, 4, none⟩ = some (.int .u32 0) := blk_cell HZ3.out 4
  have z5 : wc.cell? ⟨w.heap.size, 5, none⟩ = some (.slice none 0 0) := blk_cell HZ3.out 5
  repeat still_step
  refine wpStill_nil ?_
  go_wp2_with fail
  refine (world_run HW3.out HS.out _ _ _ _ _ _ _ _).mono ?_
  rintro e w1 ⟨rfl, hd1, hk1⟩
  have HK1 := Lib.hid ((HA3.out).trans hk1 (fun j e => .inl (.inl e)))
  have hr1 := hk1.blk HR3.out (by omega)
  have HCA : Hid (∀ w', Drawn w1 w' → Calls Tryz.prog 13 #[.pointer (some ⟨g, 0, none⟩)] w' fun e w'' => e = .returned (.int .i64 d1.calls) ∧ w' = w'') := Lib.hid (fun w' hw => fs_calls (hd1.drawn hw))
  have HUS : Hid (∀ w', Drawn w1 w' → Calls Tryz.prog 14 #[.pointer (some ⟨g, 0, none⟩)] w' fun e w'' => e = .returned (.int .i64 d1.used) ∧ w' = w'') := Lib.hid (fun w' hw => fs_used (hd1.drawn hw))
  have hq1 := hk1.blk HW3.out.blk (by omega)
  have HD1 := Lib.hid hd1
  have HR1 := Lib.hid hr1
  clear c0 c1 z0 z1 z2 z3 z4 z5 s0 hd1 hk1
  have c0 : w1.cell? ⟨q, 0, none⟩ = some (.pointer (some ⟨g, 0, none⟩)) := blk_cell hq1 0
  have r0 : w1.cell? ⟨w.heap.size + 1, 0, none⟩ = some (.int .i64 0) := blk_cell hr1 0
  have r1 : w1.cell? ⟨w.heap.size + 1, 1, none⟩ = some (.int .i64 0) := blk_cell hr1 1
  have r2 : w1.cell? ⟨w.heap.size + 1, 2, none⟩ = some (.int .i64 0) := blk_cell hr1 2
  have y0 := blk_free hr1 0
  have y1 := blk_free hr1 1
  have y2 := blk_free hr1 2
  have hcl := HCL.out
  clear hq1 hr1
  go_wp2_with fail
  go_region_with (first
    | (go_at_call 13; refine (HCA.out w1.drew (drawn_drew w1)).mono ?_; rintro e w' ⟨rfl, rfl⟩)
    | (go_at_call 14; refine (HUS.out w1.drew (drawn_drew w1)).mono ?_; rintro e w' ⟨rfl, rfl⟩))
  all_goals
    go_wp2_with fail
    refine bodyPost_ret (v := .agg #[.int .i64 8, .int .i64 1, .int .i64 d1.used]) (by simp [results, Tryz.results5, go_sem, r0, r1, r2]) rfl ?_
    exact ⟨rfl, HD1.out.keep (keep3 w1 (w.heap.size + 1) _ _ _) (by omega) (by omega), HK1.out.trans (keep3 w1 (w.heap.size + 1) _ _ _) (fun j e => .inr (by omega))⟩
set_option maxRecDepth 100000 in
set_option maxHeartbeats 6400000 in
theorem do_put {w : World} {q sb g b : Nat} {d d1 d2 d3 d4 d5 : DiskM} (h : WorldAt w q sb g b d) (hfs : d.fs = []) (hc : d.call true = (0, d1)) (h1 : d1.size (ByteArray.mk #[105, 110, 112, 117, 116]).data.toList = (0, 2, d2)) (h2 : d2.create (ByteArray.mk #[105, 110, 112, 117, 116]).data.toList = (0, d3))
    (h3 : d3.append (ByteArray.mk #[105, 110, 112, 117, 116]).data.toList ⟨#[97, 98, 99]⟩ = (0, d4)) (h4 : d4.sync (ByteArray.mk #[105, 110, 112, 117, 116]).data.toList = (0, d5)) (hcl : IntKind.i64.wrap (d5.calls - d.calls) = 5) :
    Calls Tryz.prog 5 #[.pointer (some ⟨q, 0, none⟩), actA 0 ⟨#[105, 110, 112, 117, 116]⟩ ⟨#[97, 98, 99]⟩ 0 0 none 0 0] w (DoPost w g b d5 0 5 d5.used) := by
  have HH := Lib.hid h
  have HS := Lib.hid (fun w' (h' : WorldAt w' q sb g b d) => world_put h' hfs hc h1 h2 h3 h4)
  have HCL := Lib.hid hcl
  have hq : q < w.heap.size := lt_of_block h.blk
  have hsb : sb < w.heap.size := lt_of_block h.acts
  have hg := h.disk.lt
  have hb := h.disk.ltb
  have hqg : q ≠ g := blk_ne h.blk h.disk.blk (by decide)
  have hqb : q ≠ b := fun e => by subst e; exact ownsMap_ne h.disk.map h.blk rfl
  have hsg : sb ≠ g := blk_ne h.acts h.disk.blk (by decide)
  have hsbb : sb ≠ b := fun e => by subst e; exact ownsMap_ne h.disk.map h.acts rfl
  clear h hfs hc h1 h2 h3 h4 hcl
  unfold actA
  go_enter Tryz.func5, Tryz.ntmps5
  go_wp2_with fail
  have HA := Lib.hid (((Keep.refl (fun j => j = g ∨ j = b) w).alloc (.cells #[.int .i64 0, .string ⟨#[105, 110, 112, 117, 116]⟩, .string ⟨#[97, 98, 99]⟩, .int .i64 0, .int .u32 0, .slice none 0 0] 38)).alloc (.cells #[.int .i64 0, .int .i64 0, .int .i64 0] 36))
  have HZ := Lib.hid (blk_alloc (heap_alloc_new w (.cells #[.int .i64 0, .string ⟨#[105, 110, 112, 117, 116]⟩, .string ⟨#[97, 98, 99]⟩, .int .i64 0, .int .u32 0, .slice none 0 0] 38)) (.cells #[.int .i64 0, .int .i64 0, .int .i64 0] 36))
  have HR : Hid (((w.alloc (.cells #[.int .i64 0, .string ⟨#[105, 110, 112, 117, 116]⟩, .string ⟨#[97, 98, 99]⟩, .int .i64 0, .int .u32 0, .slice none 0 0] 38)).alloc (.cells #[.int .i64 0, .int .i64 0, .int .i64 0] 36)).heap[w.heap.size + 1]? = some (.cells #[.int .i64 0, .int .i64 0, .int .i64 0] 36 (0, 0))) := by
    have := heap_alloc_new (w.alloc (.cells #[.int .i64 0, .string ⟨#[105, 110, 112, 117, 116]⟩, .string ⟨#[97, 98, 99]⟩, .int .i64 0, .int .u32 0, .slice none 0 0] 38)) (.cells #[.int .i64 0, .int .i64 0, .int .i64 0] 36)
    rw [show (w.alloc (.cells #[.int .i64 0, .string ⟨#[105, 110, 112, 117, 116]⟩, .string ⟨#[97, 98, 99]⟩, .int .i64 0, .int .u32 0, .slice none 0 0] 38)).heap.size = w.heap.size + 1 by simp] at this
    exact Lib.hid this
  have HW := Lib.hid (HH.out.keep HA.out (by omega) (by omega) ((HH.out.disk.alloc _).alloc _))
  generalize (w.alloc (.cells #[.int .i64 0, .string ⟨#[105, 110, 112, 117, 116]⟩, .string ⟨#[97, 98, 99]⟩, .int .i64 0, .int .u32 0, .slice none 0 0] 38)).alloc (.cells #[.int .i64 0, .int .i64 0, .int .i64 0] 36) = wa at *
  refine (world_given HW.out.blk).mono ?_
  rintro e w' ⟨rfl, rfl⟩
  have c0 : wa.cell? ⟨q, 0, none⟩ = some (.pointer (some ⟨g, 0, none⟩)) := blk_cell HW.out.blk 0
  have c1 : wa.cell? ⟨q, 1, none⟩ = some (.slice (some ⟨sb, 0, none⟩) 6 6) := blk_cell HW.out.blk 1
  have z0 : wa.cell? ⟨w.heap.size, 0, none⟩ = some (.int .i64 0) := blk_cell HZ.out 0
  go_wp2_with fail
  refine (fs_calls HW.out.disk).mono ?_
  rintro e w' ⟨rfl, rfl⟩
  go_wp2_with fail
  refine region_still (by kernel_rfl) (by kernel_rfl) fun wb hdr => ?_
  have HW2 := Lib.hid (HW.out.keep (hdr.keep (Keep.refl (fun _ => False) wa)) id id (HW.out.disk.drawn hdr))
  have HA2 := Lib.hid (hdr.keep HA.out)
  have HZ2 := Lib.hid (hdr.blk HZ.out)
  have HR2 := Lib.hid (hdr.blk HR.out)
  clear hdr c0 c1 z0
  have c0 : wb.cell? ⟨q, 0, none⟩ = some (.pointer (some ⟨g, 0, none⟩)) := blk_cell HW2.out.blk 0
  have c1 : wb.cell? ⟨q, 1, none⟩ = some (.slice (some ⟨sb, 0, none⟩) 6 6) := blk_cell HW2.out.blk 1
  have z0 : wb.cell? ⟨w.heap.size, 0, none⟩ = some (.int .i64 0) := blk_cell HZ2.out 0
  repeat still_step
  refine wpStill_nil ?_
  go_wp2_with fail
  refine region_tail 9 (by kernel_rfl) (by kernel_rfl) fun wc hdr => ?_
  simp only [List.take_succ_cons, List.take_zero, List.drop_succ_cons, List.drop_zero]
  have HW3 := Lib.hid (HW2.out.keep (hdr.keep (Keep.refl (fun _ => False) wb)) id id (HW2.out.disk.drawn hdr))
  have HA3 := Lib.hid (hdr.keep HA2.out)
  have HZ3 := Lib.hid (hdr.blk HZ2.out)
  have HR3 := Lib.hid (hdr.blk HR2.out)
  clear hdr c0 c1 z0
  have c0 : wc.cell? ⟨q, 0, none⟩ = some (.pointer (some ⟨g, 0, none⟩)) := blk_cell HW3.out.blk 0
  have c1 : wc.cell? ⟨q, 1, none⟩ = some (.slice (some ⟨sb, 0, none⟩) 6 6) := blk_cell HW3.out.blk 1
  have z0 : wc.cell? ⟨w.heap.size, 0, none⟩ = some (.int .i64 0) := blk_cell HZ3.out 0
  have s0 : wc.cell? ⟨sb, 0, none⟩ = some (.func (.func 24) #[.pointer (some ⟨q, 0, none⟩)] #[]) := blk_cell HW3.out.acts 0
  have z1 : wc.cell? ⟨w.heap.size, 1, none⟩ = some (.string ⟨#[105, 110, 112, 117, 116]⟩) := blk_cell HZ3.out 1
  have z2 : wc.cell? ⟨w.heap.size, 2, none⟩ = some (.string ⟨#[97, 98, 99]⟩) := blk_cell HZ3.out 2
  have z3 : wc.cell? ⟨w.heap.size, 3, none⟩ = some (.int .i64 0) := blk_cell HZ3.out 3
  have z4 : wc.cell? ⟨w.heap.size, 4, none⟩ = some (.int .u32 0) := blk_cell HZ3.out 4
  have z5 : wc.cell? ⟨w.heap.size, 5, none⟩ = some (.slice none 0 0) := blk_cell HZ3.out 5
  repeat still_step
  refine wpStill_nil ?_
  go_wp2_with fail
  refine (HS.out _ HW3.out).mono ?_
  rintro e w1 ⟨rfl, hd5, hk1⟩
  have HK1 := Lib.hid ((HA3.out).trans hk1 (fun j e => .inl e))
  have hr1 := hk1.blk HR3.out (by omega)
  have HCA : Hid (∀ w', Drawn w1 w' → Calls Tryz.prog 13 #[.pointer (some ⟨g, 0, none⟩)] w' fun e w'' => e = .returned (.int .i64 d5.calls) ∧ w' = w'') := Lib.hid (fun w' hw => fs_calls (hd5.drawn hw))
  have HUS : Hid (∀ w', Drawn w1 w' → Calls Tryz.prog 14 #[.pointer (some ⟨g, 0, none⟩)] w' fun e w'' => e = .returned (.int .i64 d5.used) ∧ w' = w'') := Lib.hid (fun w' hw => fs_used (hd5.drawn hw))
  have hq1 := hk1.blk HW3.out.blk (by omega)
  have HD5 := Lib.hid hd5
  have HR1 := Lib.hid hr1
  clear c0 c1 z0 z1 z2 z3 z4 z5 s0 hd5 hk1
  have c0 : w1.cell? ⟨q, 0, none⟩ = some (.pointer (some ⟨g, 0, none⟩)) := blk_cell hq1 0
  have r0 : w1.cell? ⟨w.heap.size + 1, 0, none⟩ = some (.int .i64 0) := blk_cell hr1 0
  have r1 : w1.cell? ⟨w.heap.size + 1, 1, none⟩ = some (.int .i64 0) := blk_cell hr1 1
  have r2 : w1.cell? ⟨w.heap.size + 1, 2, none⟩ = some (.int .i64 0) := blk_cell hr1 2
  have y0 := blk_free hr1 0
  have y1 := blk_free hr1 1
  have y2 := blk_free hr1 2
  have hcl := HCL.out
  clear hq1 hr1
  go_wp2_with fail
  go_region_with (first
    | (go_at_call 13; refine (HCA.out w1.drew (drawn_drew w1)).mono ?_; rintro e w' ⟨rfl, rfl⟩)
    | (go_at_call 14; refine (HUS.out w1.drew (drawn_drew w1)).mono ?_; rintro e w' ⟨rfl, rfl⟩))
  all_goals
    go_wp2_with fail
    refine bodyPost_ret (v := .agg #[.int .i64 0, .int .i64 5, .int .i64 d5.used]) (by simp [results, Tryz.results5, go_sem, r0, r1, r2]) rfl ?_
    exact ⟨rfl, HD5.out.keep (keep3 w1 (w.heap.size + 1) _ _ _) (by omega) (by omega), HK1.out.trans (keep3 w1 (w.heap.size + 1) _ _ _) (fun j e => .inr (by omega))⟩
end Go.Proofs.YtffjnilmpeihiaaGreatDoor
