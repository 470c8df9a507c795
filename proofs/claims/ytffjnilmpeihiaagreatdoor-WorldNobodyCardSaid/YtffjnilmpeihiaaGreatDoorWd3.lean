/- The acts of the chapter's example: a run without a configuration; input is put on an empty disk. -/
import Derived.Test.YtffjnilmpeihiaaGreatDoorWd2
import Derived.Test.YtffjnilmpeihiaaGreatDoorWd1
import Derived.Test.YtffjnilmpeihiaaGreatDoorAwk0
import Derived.Test.YtffjnilmpeihiaaGreatDoorFs5
import Derived.Test.YtffjnilmpeihiaaGreatDoorFs6
import Derived.Deep.RegionWith
set_option linter.unusedVariables false
set_option linter.unusedSimpArgs false
namespace Go.Proofs.YtffjnilmpeihiaaGreatDoor
open Go Go.RowKit Go.Maps

theorem drawn_drew (w : World) : Drawn w w.drew := ⟨rfl, rfl, rfl, rfl⟩
set_option maxRecDepth 100000 in
set_option maxHeartbeats 1600000 in
theorem world_run {w : World} {q sb g b : Nat} {d d1 : DiskM} (h : WorldAt w q sb g b d) (hs : d.size (ByteArray.mk #[99, 111, 110, 102]).data.toList = (0, 2, d1)) (k : Int) (name s : ByteArray) (n u : Int) (a : Option Addr) (len cap : Nat) :
    Calls Tryz.prog 25 #[.pointer (some ⟨q, 0, none⟩), actA k name s n u a len cap] w (JobPost w g b d1 (.int .i64 8)) := by
  unfold actA
  have HS := Lib.hid hs
  have HH := Lib.hid h
  have c0 : w.cell? ⟨q, 0, none⟩ = some (.pointer (some ⟨g, 0, none⟩)) := blk_cell h.blk 0
  have hq : q < w.heap.size := lt_of_block h.blk
  clear hs h
  go_enter Tryz.func25, Tryz.ntmps25
  go_wp2_with fail
  refine (job_run (HH.out.disk.alloc _) HS.out).mono ?_
  rintro e w1 ⟨rfl, hd, hk⟩
  go_wp2_with fail
  (try go_ret)
  exact ⟨rfl, hd, ((Keep.refl (fun j => j = g) w).alloc _).trans hk (fun _ e => .inl e)⟩

set_option maxRecDepth 100000 in
set_option maxHeartbeats 1600000 in
theorem world_clear {w : World} {q sb g b : Nat} {d d1 : DiskM} (h : WorldAt w q sb g b d) (hfs : d.fs = []) (hc : d.call true = (0, d1)) (k : Int) (name s : ByteArray) (n u : Int) (a : Option Addr) (len cap : Nat) :
    Calls Tryz.prog 29 #[.pointer (some ⟨q, 0, none⟩), actA k name s n u a len cap] w (JobPost w g b d1 (.int .i64 0)) := by
  unfold actA
  have HC := Lib.hid hc
  have HF := Lib.hid hfs
  have HH := Lib.hid h
  have c0 : w.cell? ⟨q, 0, none⟩ = some (.pointer (some ⟨g, 0, none⟩)) := blk_cell h.blk 0
  have hq : q < w.heap.size := lt_of_block h.blk
  clear hc hfs h
  go_enter Tryz.func29, Tryz.ntmps29
  go_wp2_with fail
  have hz : ((w.alloc (.cells #[.int .i64 k, .string name, .string s, .int .i64 n, .int .u32 u, .slice a len cap] 38)).alloc (.cells #[.string ⟨#[105, 110, 112, 117, 116]⟩, .string ⟨#[99, 111, 110, 102]⟩] 9)).heap[w.heap.size + 1]? = some (.cells #[.string ⟨#[105, 110, 112, 117, 116]⟩, .string ⟨#[99, 111, 110, 102]⟩] 9 (0, 0)) := by
    have := heap_alloc_new (w.alloc (.cells #[.int .i64 k, .string name, .string s, .int .i64 n, .int .u32 u, .slice a len cap] 38)) (.cells #[.string ⟨#[105, 110, 112, 117, 116]⟩, .string ⟨#[99, 111, 110, 102]⟩] 9)
    rw [show (w.alloc (.cells #[.int .i64 k, .string name, .string s, .int .i64 n, .int .u32 u, .slice a len cap] 38)).heap.size = w.heap.size + 1 by simp] at this
    exact this
  refine (scan_sweep ((HH.out.disk.alloc _).alloc _) HF.out HC.out _ _ _ (blk_cell hz 0) (blk_cell hz 1) (by decide) (by decide)).mono ?_
  rintro e w1 ⟨rfl, hd, hk⟩
  clear hz
  go_wp2_with fail
  (try go_ret)
  exact ⟨rfl, hd, (((Keep.refl (fun j => j = g) w).alloc _).alloc _).trans hk (fun _ e => .inl e)⟩

def PutPost (w : World) (g b : Nat) (d : DiskM) (e : Ending) (w' : World) : Prop := e = .returned (.int .i64 0) ∧ DiskAt w' g b d ∧ Keep (fun k => k = g ∨ k = b) w w'
set_option maxRecDepth 100000 in
set_option maxHeartbeats 3200000 in
theorem world_put {w : World} {q sb g b : Nat} {d d1 d2 d3 d4 d5 : DiskM} (h : WorldAt w q sb g b d) (hfs : d.fs = []) (hc : d.call true = (0, d1)) (h1 : d1.size (ByteArray.mk #[105, 110, 112, 117, 116]).data.toList = (0, 2, d2)) (h2 : d2.create (ByteArray.mk #[105, 110, 112, 117, 116]).data.toList = (0, d3))
    (h3 : d3.append (ByteArray.mk #[105, 110, 112, 117, 116]).data.toList ⟨#[97, 98, 99]⟩ = (0, d4)) (h4 : d4.sync (ByteArray.mk #[105, 110, 112, 117, 116]).data.toList = (0, d5)) :
    Calls Tryz.prog 24 #[.pointer (some ⟨q, 0, none⟩), actA 0 ⟨#[105, 110, 112, 117, 116]⟩ ⟨#[97, 98, 99]⟩ 0 0 none 0 0] w (PutPost w g b d5) := by
  have HC := Lib.hid hc
  have HF := Lib.hid hfs
  have HH := Lib.hid h
  have H1 := Lib.hid h1
  have H2 := Lib.hid h2
  have H3 := Lib.hid h3
  have H4 := Lib.hid h4
  have hq : q < w.heap.size := lt_of_block h.blk
  have hsb : sb < w.heap.size := lt_of_block h.acts
  have hg := h.disk.lt
  have hb := h.disk.ltb
  have hqg : q ≠ g := blk_ne h.blk h.disk.blk (by decide)
  have hqb : q ≠ b := fun e => by subst e; exact ownsMap_ne h.disk.map h.blk rfl
  clear hc hfs h h1 h2 h3 h4
  unfold actA
  go_enter Tryz.func24, Tryz.ntmps24
  go_wp2_with fail
  refine (world_clear (k := 0) (HH.out.keep (S := fun _ => False) (((Keep.refl _ w).alloc _)) id id (HH.out.disk.alloc _)) HF.out HC.out _ _ _ _ _ _ _).mono ?_
  rintro e w1 ⟨rfl, hd1, hk1⟩
  have HQ : Hid ((w.alloc (.cells #[.int .i64 0, .string ⟨#[105, 110, 112, 117, 116]⟩, .string ⟨#[97, 98, 99]⟩, .int .i64 0, .int .u32 0, .slice none 0 0] 38)).heap[q]? = _) := Lib.hid (blk_alloc HH.out.blk _)
  have HZ := Lib.hid (heap_alloc_new w (.cells #[.int .i64 0, .string ⟨#[105, 110, 112, 117, 116]⟩, .string ⟨#[97, 98, 99]⟩, .int .i64 0, .int .u32 0, .slice none 0 0] 38))
  have HD1 := Lib.hid hd1
  have HK1 : Hid (Keep (fun j => j = g ∨ j = b) (w.alloc (.cells #[.int .i64 0, .string ⟨#[105, 110, 112, 117, 116]⟩, .string ⟨#[97, 98, 99]⟩, .int .i64 0, .int .u32 0, .slice none 0 0] 38)) w1) := Lib.hid (hk1.mono (fun j e => .inl (.inl e)))
  clear hd1 hk1
  go_wp2_with fail
  have HSZ : Hid (∀ w', Drawn w1 w' → Calls Tryz.prog 11 #[.pointer (some ⟨g, 0, none⟩), .string ⟨#[105, 110, 112, 117, 116]⟩] w' (fun e w3 => e = .returned (.tuple #[.int .i64 0, .int .i64 2]) ∧ DiskAt w3 g b d2 ∧ Keep (fun j => j = g ∨ j = b) (w.alloc (.cells #[.int .i64 0, .string ⟨#[105, 110, 112, 117, 116]⟩, .string ⟨#[97, 98, 99]⟩, .int .i64 0, .int .u32 0, .slice none 0 0] 38)) w3)) := Lib.hid (fun w' hw => by
    refine (fs_size (HD1.out.drawn hw) _ (by decide)).mono ?_
    rintro e w3 ⟨he, hd3, hk3⟩
    have hx : d1.size (ByteArray.mk #[105, 110, 112, 117, 116]).data.toList = (0, 2, d2) := H1.out
    rw [hx] at he hd3
    exact ⟨he, hd3, (hw.keep HK1.out).trans hk3 (fun j e => .inl (.inl e))⟩)
  have c0 : w1.cell? ⟨q, 0, none⟩ = some (.pointer (some ⟨g, 0, none⟩)) := blk_cell (HK1.out.blk HQ.out (by simp; omega)) 0
  have p1 : w1.cell? ⟨w.heap.size, 1, none⟩ = some (.string ⟨#[105, 110, 112, 117, 116]⟩) := blk_cell (HK1.out.blk HZ.out (by simp; omega)) 1
  go_region_with (go_at_call 11; refine (HSZ.out w1.drew (drawn_drew w1)).mono ?_; rintro e w3 ⟨rfl, hd3, hk3⟩)
  all_goals
    have HD3 := Lib.hid hd3
    have HK3 := Lib.hid hk3
    clear hd3 hk3 c0 p1
    go_wp2_with fail
    refine region_tail 6 (by kernel_rfl) (by kernel_rfl) fun we4 hdr4 => ?_
    simp only [List.take_succ_cons, List.take_zero, List.drop_succ_cons, List.drop_zero]
    have hd4 := HD3.out.drawn hdr4
    have hk4 := hdr4.keep HK3.out
    have c0 : we4.cell? ⟨q, 0, none⟩ = some (.pointer (some ⟨g, 0, none⟩)) := blk_cell (hk4.blk HQ.out (by simp; omega)) 0
    have p1 : we4.cell? ⟨w.heap.size, 1, none⟩ = some (.string ⟨#[105, 110, 112, 117, 116]⟩) := blk_cell (hk4.blk HZ.out (by simp; omega)) 1
    have p2 : we4.cell? ⟨w.heap.size, 2, none⟩ = some (.string ⟨#[97, 98, 99]⟩) := blk_cell (hk4.blk HZ.out (by simp; omega)) 2
    have HD4 := Lib.hid hd4
    have HK4 := Lib.hid hk4
    clear hd4 hk4 hdr4
    repeat still_step
    refine wpStill_nil ?_
    go_wp2_with fail
    refine (fs_create HD4.out _ (by decide)).mono ?_
    rintro e w5 ⟨he, hd5, hk5⟩
    have hx : d2.create (ByteArray.mk #[105, 110, 112, 117, 116]).data.toList = (0, d3) := H2.out
    rw [hx] at he hd5
    subst he
    have HD5 := Lib.hid hd5
    have HK5 : Hid (Keep (fun j => j = g ∨ j = b) (w.alloc (.cells #[.int .i64 0, .string ⟨#[105, 110, 112, 117, 116]⟩, .string ⟨#[97, 98, 99]⟩, .int .i64 0, .int .u32 0, .slice none 0 0] 38)) w5) := Lib.hid (HK4.out.trans hk5 (fun j e => .inl (by simpa using e)))
    clear hd5 hk5 hx c0 p1 p2
    go_wp2_with fail
    refine region_tail 8 (by kernel_rfl) (by kernel_rfl) fun we6 hdr6 => ?_
    simp only [List.take_succ_cons, List.take_zero, List.drop_succ_cons, List.drop_zero]
    have hd6 := HD5.out.drawn hdr6
    have hk6 := hdr6.keep HK5.out
    have c0 : we6.cell? ⟨q, 0, none⟩ = some (.pointer (some ⟨g, 0, none⟩)) := blk_cell (hk6.blk HQ.out (by simp; omega)) 0
    have p1 : we6.cell? ⟨w.heap.size, 1, none⟩ = some (.string ⟨#[105, 110, 112, 117, 116]⟩) := blk_cell (hk6.blk HZ.out (by simp; omega)) 1
    have p2 : we6.cell? ⟨w.heap.size, 2, none⟩ = some (.string ⟨#[97, 98, 99]⟩) := blk_cell (hk6.blk HZ.out (by simp; omega)) 2
    have HD6 := Lib.hid hd6
    have HK6 := Lib.hid hk6
    clear hd6 hk6 hdr6
    repeat still_step
    refine wpStill_nil ?_
    go_wp2_with fail
    refine (fs_append HD6.out _ _ (by decide) (by decide)).mono ?_
    rintro e w7 ⟨he, hd7, hk7⟩
    have hx : d3.append (ByteArray.mk #[105, 110, 112, 117, 116]).data.toList ⟨#[97, 98, 99]⟩ = (0, d4) := H3.out
    rw [hx] at he hd7
    subst he
    have HD7 := Lib.hid hd7
    have HK7 : Hid (Keep (fun j => j = g ∨ j = b) (w.alloc (.cells #[.int .i64 0, .string ⟨#[105, 110, 112, 117, 116]⟩, .string ⟨#[97, 98, 99]⟩, .int .i64 0, .int .u32 0, .slice none 0 0] 38)) w7) := Lib.hid (HK6.out.trans hk7 (fun j e => .inl (by simpa using e)))
    clear hd7 hk7 hx c0 p1 p2
    go_wp2_with fail
    refine region_tail 6 (by kernel_rfl) (by kernel_rfl) fun we8 hdr8 => ?_
    simp only [List.take_succ_cons, List.take_zero, List.drop_succ_cons, List.drop_zero]
    have hd8 := HD7.out.drawn hdr8
    have hk8 := hdr8.keep HK7.out
    have c0 : we8.cell? ⟨q, 0, none⟩ = some (.pointer (some ⟨g, 0, none⟩)) := blk_cell (hk8.blk HQ.out (by simp; omega)) 0
    have p1 : we8.cell? ⟨w.heap.size, 1, none⟩ = some (.string ⟨#[105, 110, 112, 117, 116]⟩) := blk_cell (hk8.blk HZ.out (by simp; omega)) 1
    have p2 : we8.cell? ⟨w.heap.size, 2, none⟩ = some (.string ⟨#[97, 98, 99]⟩) := blk_cell (hk8.blk HZ.out (by simp; omega)) 2
    have HD8 := Lib.hid hd8
    have HK8 := Lib.hid hk8
    clear hd8 hk8 hdr8
    repeat still_step
    refine wpStill_nil ?_
    go_wp2_with fail
    refine (fs_sync HD8.out _ (by decide)).mono ?_
    rintro e w9 ⟨he, hd9, hk9⟩
    have hx : d4.sync (ByteArray.mk #[105, 110, 112, 117, 116]).data.toList = (0, d5) := H4.out
    rw [hx] at he hd9
    subst he
    have HD9 := Lib.hid hd9
    have HK9 : Hid (Keep (fun j => j = g ∨ j = b) (w.alloc (.cells #[.int .i64 0, .string ⟨#[105, 110, 112, 117, 116]⟩, .string ⟨#[97, 98, 99]⟩, .int .i64 0, .int .u32 0, .slice none 0 0] 38)) w9) := Lib.hid (HK8.out.trans hk9 (fun j e => .inl (by simpa using e)))
    clear hd9 hk9 hx c0 p1 p2
    go_wp2_with fail
    (try go_ret)
    refine ⟨rfl, HD9.out, ?_⟩
    exact ((Keep.refl (fun j => j = g ∨ j = b) w).alloc _).trans HK9.out (fun j e => .inl e)
end Go.Proofs.YtffjnilmpeihiaaGreatDoor
