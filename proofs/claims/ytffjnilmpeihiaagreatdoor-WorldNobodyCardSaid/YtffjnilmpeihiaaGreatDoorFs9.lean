/- A disk is made; a fall is armed. -/
import Derived.Test.YtffjnilmpeihiaaGreatDoorFs8
set_option linter.unusedVariables false
set_option linter.unusedSimpArgs false
namespace Go.Proofs.YtffjnilmpeihiaaGreatDoor
open Go Go.RowKit Go.Maps

def newM (room : Int) : DiskM := { room := room, used := 0, fs := [], fuse := -1, down := false, calls := 0 }
theorem newM_ok {room : Int} (h0 : 0 ≤ room) (h1 : room ≤ 16777216) : (newM room).Ok :=
  ⟨h0, h1, Int.le_refl _, h0, Int.le_refl (-1 : Int), by show (-1 : Int) ≤ _; omega, by show _ ≤ (0 : Int); omega, by show (0 : Int) ≤ _; omega, rfl, by simp [newM], by simp [newM], by simp [newM], by simp [newM]⟩

set_option maxRecDepth 100000 in
set_option maxHeartbeats 1600000 in
theorem fs_new (room : Int) (w : World) (h0 : 0 ≤ room) (h1 : room ≤ 16777216) :
    Calls Tryz.prog 23 #[.int .i64 room] w fun e w' => ∃ g b, e = .returned (.tuple #[.pointer (some ⟨g, 0, none⟩), .int .i64 0]) ∧ DiskAt w' g b (newM room) ∧ Below w.heap.size w w' ∧ w.heap.size ≤ g ∧ w.heap.size ≤ b := by
  have hmm := @run_makeMap Tryz.prog
  go_enter Tryz.func23, Tryz.ntmps23
  go_wp2
  go_ret2
  refine ⟨w.heap.size + 1, w.heap.size, rfl, ⟨?_, ?_, newM_ok h0 h1⟩, ((Below.refl _ _).alloc (Nat.le_refl _) _).alloc (by simp) _, by omega, Nat.le_refl _⟩
  · have := heap_alloc_new (w.alloc (.map #[] 0)) (.cells (diskCells (newM room) w.heap.size) 62)
    rw [show (w.alloc (.map #[] 0)).heap.size = w.heap.size + 1 by simp] at this
    exact this
  · exact (World.ownsMap_made w Tryz.prog 9 fileR).alloc _

set_option maxRecDepth 100000 in
set_option maxHeartbeats 1600000 in
theorem fs_new_bad (room : Int) (w : World) (h : room < 0 ∨ 16777216 < room) :
    Calls Tryz.prog 23 #[.int .i64 room] w fun e w' => e = .returned (.tuple #[.pointer none, .int .i64 1]) ∧ w = w' := by
  by_cases h0 : room < 0
  · go_enter Tryz.func23, Tryz.ntmps23
    go_wp2
    go_ret2
    exact ⟨rfl, rfl⟩
  · have h1 : 16777216 < room := by omega
    go_enter Tryz.func23, Tryz.ntmps23
    go_wp2
    go_ret2
    exact ⟨rfl, rfl⟩

def ArmPost (w : World) (g b : Nat) (d : DiskM) (e : Ending) (w' : World) : Prop := e = .returned (.tuple #[]) ∧ DiskAt w' g b d ∧ Keep (fun k => k = g) w w'
set_option maxRecDepth 100000 in
set_option maxHeartbeats 1600000 in
theorem fs_arm {w : World} {g b : Nat} {d : DiskM} (h : DiskAt w g b d) (n : Int) (hn : -9223372036854775808 ≤ n ∧ n ≤ 9223372036854775807) :
    Calls Tryz.prog 39 #[.pointer (some ⟨g, 0, none⟩), .int .i64 n] w (ArmPost w g b (d.arm n)) := by
  have HG := Lib.hid (fs_given h)
  have hok := Lib.hid (h.ok.arm n hn.2)
  have f4 := blk_free h.blk 4
  have c4 : w.cell? ⟨g, 4, none⟩ = some (.int .i64 d.fuse) := blk_cell h.blk 4
  have hb := h.blk
  have HB := Lib.hid hb
  have HM := Lib.hid (ownsMap_keep h.map ((Keep.refl (fun k => k = g) w).setCell (p := ⟨g, 4, none⟩) (.inl rfl) (.int .i64 (max (-1) n))) (Ne.symm h.ne))
  clear hb
  by_cases hle : -1 < n
  · have hm : max (-1) n = n := by omega
    have HX := Lib.hid hm
    clear hm
    go_enter Tryz.func39, Tryz.ntmps39
    go_wp2_with (go_at_call 20; refine HG.out.mono ?_; rintro e w' ⟨rfl, rfl⟩)
    (try go_end0)
    have hm := HM.out
    rw [HX.out] at hm
    refine ⟨rfl, ⟨(blk_set HB.out 4 _).trans ?_, hm, hok.out⟩, (Keep.refl (fun k => k = g) w).setCell (.inl rfl) _⟩
    unfold diskCells DiskM.arm
    simp only [HX.out]
    rfl
  · have hm : max (-1) n = -1 := by omega
    have HX := Lib.hid hm
    clear hm
    go_enter Tryz.func39, Tryz.ntmps39
    go_wp2_with (go_at_call 20; refine HG.out.mono ?_; rintro e w' ⟨rfl, rfl⟩)
    (try go_end0)
    have hm := HM.out
    rw [HX.out] at hm
    refine ⟨rfl, ⟨(blk_set HB.out 4 _).trans ?_, hm, hok.out⟩, (Keep.refl (fun k => k = g) w).setCell (.inl rfl) _⟩
    unfold diskCells DiskM.arm
    simp only [HX.out]
    rfl
end Go.Proofs.YtffjnilmpeihiaaGreatDoor
