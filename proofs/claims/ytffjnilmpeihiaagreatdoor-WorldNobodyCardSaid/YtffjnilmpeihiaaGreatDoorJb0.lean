/- A job on a disk without a configuration: it tells so, after one call. -/
import Derived.Test.YtffjnilmpeihiaaGreatDoorFs10
set_option linter.unusedVariables false
set_option linter.unusedSimpArgs false
namespace Go.Proofs.YtffjnilmpeihiaaGreatDoor
open Go Go.RowKit Go.Maps

def JobPost (w : World) (g b : Nat) (d : DiskM) (v : Value) (e : Ending) (w' : World) : Prop := e = .returned v ∧ DiskAt w' g b d ∧ Keep (fun k => k = g) w w'
set_option maxRecDepth 100000 in
set_option maxHeartbeats 1600000 in
theorem job_text {w : World} {g b : Nat} {d d1 : DiskM} (h : DiskAt w g b d) (hs : d.size (ByteArray.mk #[99, 111, 110, 102]).data.toList = (0, 2, d1)) :
    Calls Tryz.prog 89 #[.pointer (some ⟨g, 0, none⟩), .string ⟨#[99, 111, 110, 102]⟩, .int .i64 1024, .int .i64 8] w (JobPost w g b d1 (.tuple #[.string ⟨#[]⟩, .int .i64 8])) := by
  have HS := Lib.hid hs
  clear hs
  go_enter Tryz.func89, Tryz.ntmps89
  go_wp2_with fail
  refine (fs_size h _ (by decide)).mono ?_
  rintro e w1 ⟨he, hd, hk⟩
  rw [HS.out] at he hd
  subst he
  go_wp2_with fail
  (try go_ret2)
  exact ⟨rfl, hd, hk⟩
abbrev confZ : Value := .agg #[.int .i64 0, .int .i64 0, .int .i64 0, .int .i64 0, .int .i64 0, .int .i64 0, .int .i64 0, .int .i64 0, .int .i64 0]
theorem jobPost_end {w w1 w2 : World} {g b : Nat} {d : DiskM} {v : Value} (hg : g < w.heap.size) (hb : b < w.heap.size) (hd : DiskAt w1 g b d) (hk : Keep (fun k => k = g) w w1) (hk2 : Keep (fun k => w.heap.size ≤ k) w1 w2) : JobPost w g b d v (.returned v) w2 :=
  ⟨rfl, hd.keep hk2 (by omega) (by omega), hk.trans hk2 (fun _ h => .inr h)⟩
set_option maxRecDepth 100000 in
set_option maxHeartbeats 1600000 in
theorem job_configured {w : World} {g b : Nat} {d d1 : DiskM} (h : DiskAt w g b d) (hs : d.size (ByteArray.mk #[99, 111, 110, 102]).data.toList = (0, 2, d1)) :
    Calls Tryz.prog 69 #[.pointer (some ⟨g, 0, none⟩)] w (JobPost w g b d1 (.tuple #[confZ, .int .i64 8])) := by
  have hlt := h.lt
  have hltb := h.ltb
  have HS := Lib.hid (fun w' (h' : DiskAt w' g b d) => job_text h' hs)
  clear hs
  go_enter Tryz.func69, Tryz.ntmps69
  go_wp2_with fail
  refine (HS.out _ (h.alloc _)).mono ?_
  rintro e w1 ⟨rfl, hd, hk⟩
  have hz : w1.heap[w.heap.size]? = some (.cells #[.int .i64 0, .int .i64 0, .int .i64 0, .int .i64 0, .int .i64 0, .int .i64 0, .int .i64 0, .int .i64 0, .int .i64 0] 91 (0, 0)) := hk.blk (heap_alloc_new w _) (by omega)
  have HZ := Lib.hid hz
  clear hz
  go_wp2_with (refine wpList_store_z rfl 91 _ _ rfl w.heap.size 91 _ _ HZ.out rfl rfl (by kernel_rfl) rfl (by kernel_rfl) ?_; intro w2 hz2 hk2)
  have hz := hz2
  have z0 : w2.cell? ⟨w.heap.size, 0, none⟩ = some (.int .i64 0) := blk_cell hz 0
  have z1 : w2.cell? ⟨w.heap.size, 1, none⟩ = some (.int .i64 0) := blk_cell hz 1
  have z2 : w2.cell? ⟨w.heap.size, 2, none⟩ = some (.int .i64 0) := blk_cell hz 2
  have z3 : w2.cell? ⟨w.heap.size, 3, none⟩ = some (.int .i64 0) := blk_cell hz 3
  have z4 : w2.cell? ⟨w.heap.size, 4, none⟩ = some (.int .i64 0) := blk_cell hz 4
  have z5 : w2.cell? ⟨w.heap.size, 5, none⟩ = some (.int .i64 0) := blk_cell hz 5
  have z6 : w2.cell? ⟨w.heap.size, 6, none⟩ = some (.int .i64 0) := blk_cell hz 6
  have z7 : w2.cell? ⟨w.heap.size, 7, none⟩ = some (.int .i64 0) := blk_cell hz 7
  have z8 : w2.cell? ⟨w.heap.size, 8, none⟩ = some (.int .i64 0) := blk_cell hz 8
  refine bodyPost_ret (v := .tuple #[confZ, .int .i64 8]) (by simp [results, Tryz.results69, go_sem, z0, z1, z2, z3, z4, z5, z6, z7, z8]) rfl ?_
  refine jobPost_end hlt hltb hd (((Keep.refl (fun k => k = g) w).alloc _).trans hk (fun _ h => .inl h)) ?_
  exact hk2.mono (fun k h => .inl (by omega))
set_option maxRecDepth 100000 in
set_option maxHeartbeats 1600000 in
theorem job_ready {w : World} {g b : Nat} {d d1 : DiskM} (h : DiskAt w g b d) (hs : d.size (ByteArray.mk #[99, 111, 110, 102]).data.toList = (0, 2, d1)) :
    Calls Tryz.prog 52 #[.pointer (some ⟨g, 0, none⟩)] w (JobPost w g b d1 (.tuple #[confZ, .int .i64 0, .int .i64 8])) := by
  have hlt := h.lt
  have hltb := h.ltb
  have HS := Lib.hid (fun w' (h' : DiskAt w' g b d) => job_configured h' hs)
  clear hs
  go_enter Tryz.func52, Tryz.ntmps52
  go_wp2_with fail
  refine (HS.out _ (h.alloc _)).mono ?_
  rintro e w1 ⟨rfl, hd, hk⟩
  have hz : w1.heap[w.heap.size]? = some (.cells #[.int .i64 0, .int .i64 0, .int .i64 0, .int .i64 0, .int .i64 0, .int .i64 0, .int .i64 0, .int .i64 0, .int .i64 0] 91 (0, 0)) := hk.blk (heap_alloc_new w _) (by omega)
  have HZ := Lib.hid hz
  clear hz
  go_wp2_with (refine wpList_store_z rfl 91 _ _ rfl w.heap.size 91 _ _ (blk_alloc HZ.out _) rfl rfl (by kernel_rfl) rfl (by kernel_rfl) ?_; intro w2 hz2 hk2)
  have hz := hz2
  have z0 : w2.cell? ⟨w.heap.size, 0, none⟩ = some (.int .i64 0) := blk_cell hz 0
  have z1 : w2.cell? ⟨w.heap.size, 1, none⟩ = some (.int .i64 0) := blk_cell hz 1
  have z2 : w2.cell? ⟨w.heap.size, 2, none⟩ = some (.int .i64 0) := blk_cell hz 2
  have z3 : w2.cell? ⟨w.heap.size, 3, none⟩ = some (.int .i64 0) := blk_cell hz 3
  have z4 : w2.cell? ⟨w.heap.size, 4, none⟩ = some (.int .i64 0) := blk_cell hz 4
  have z5 : w2.cell? ⟨w.heap.size, 5, none⟩ = some (.int .i64 0) := blk_cell hz 5
  have z6 : w2.cell? ⟨w.heap.size, 6, none⟩ = some (.int .i64 0) := blk_cell hz 6
  have z7 : w2.cell? ⟨w.heap.size, 7, none⟩ = some (.int .i64 0) := blk_cell hz 7
  have z8 : w2.cell? ⟨w.heap.size, 8, none⟩ = some (.int .i64 0) := blk_cell hz 8
  refine bodyPost_ret (v := .tuple #[confZ, .int .i64 0, .int .i64 8]) (by simp [results, Tryz.results52, go_sem, z0, z1, z2, z3, z4, z5, z6, z7, z8]) rfl ?_
  refine jobPost_end hlt hltb hd (((Keep.refl (fun k => k = g) w).alloc _).trans hk (fun _ h => .inl h)) ?_
  exact ((Keep.refl (fun k => w.heap.size ≤ k) w1).alloc _).trans hk2 (fun k h => .inl (by omega))
set_option maxRecDepth 100000 in
set_option maxHeartbeats 1600000 in
theorem job_high {w : World} {g b : Nat} {d d1 : DiskM} (h : DiskAt w g b d) (hs : d.size (ByteArray.mk #[99, 111, 110, 102]).data.toList = (0, 2, d1)) :
    Calls Tryz.prog 48 #[.pointer (some ⟨g, 0, none⟩)] w (JobPost w g b d1 (.tuple #[.int .i64 0, .int .i64 8])) := by
  have hlt := h.lt
  have hltb := h.ltb
  have HS := Lib.hid (fun w' (h' : DiskAt w' g b d) => job_ready h' hs)
  clear hs
  go_enter Tryz.func48, Tryz.ntmps48
  go_wp2_with fail
  refine (HS.out _ h).mono ?_
  rintro e w1 ⟨rfl, hd, hk⟩
  go_wp2_with fail
  (try go_ret2)
  refine jobPost_end hlt hltb hd hk ?_
  (repeat (first | exact Keep.refl _ _ | refine Keep.alloc ?_ _ | refine Keep.drew ?_ | refine Keep.setCell ?_ (.inl (Nat.le_refl _)) _ | refine Keep.setCell ?_ (.inl (by omega)) _))
set_option maxRecDepth 100000 in
set_option maxHeartbeats 1600000 in
theorem job_run {w : World} {g b : Nat} {d d1 : DiskM} (h : DiskAt w g b d) (hs : d.size (ByteArray.mk #[99, 111, 110, 102]).data.toList = (0, 2, d1)) :
    Calls Tryz.prog 38 #[.pointer (some ⟨g, 0, none⟩)] w (JobPost w g b d1 (.int .i64 8)) := by
  have HS := Lib.hid (fun w' (h' : DiskAt w' g b d) => job_high h' hs)
  clear hs
  go_enter Tryz.func38, Tryz.ntmps38
  go_wp2_with fail
  refine (HS.out _ h).mono ?_
  rintro e w1 ⟨rfl, hd, hk⟩
  go_wp2_with fail
  (try go_ret)
  exact ⟨rfl, hd, hk⟩
end Go.Proofs.YtffjnilmpeihiaaGreatDoor
