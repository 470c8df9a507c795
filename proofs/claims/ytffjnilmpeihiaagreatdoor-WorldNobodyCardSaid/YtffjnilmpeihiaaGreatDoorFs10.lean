/- How many calls and bytes there were; a disk is copied. -/
import Derived.Test.YtffjnilmpeihiaaGreatDoorFsN
import Derived.Test.YtffjnilmpeihiaaGreatDoorClone
set_option linter.unusedVariables false
set_option linter.unusedSimpArgs false
namespace Go.Proofs.YtffjnilmpeihiaaGreatDoor
open Go Go.RowKit Go.Maps Go.Shelf

/-- 'x = {..}' at the operation: a struct that fills its block. -/
theorem wpList_store_z {P : Program} {ops : Array Oper} {rest : List Oper} {op : Oper} {a : Act} {w : World} {Q : Exit → Act → World → Prop} (hgd : op.guard = none) (ty : TypeId) (x y : Operand) (ho : op.op = .store ty x y)
    (z : Nat) (t : TypeId) (old cells : Array Value) (hz : w.heap[z]? = some (.cells old t (0, 0))) (hx : a.eval x = .pointer (some ⟨z, 0, none⟩)) (hy : a.eval y = .agg cells)
    (hi : (P.info? ty).map (·.size) = some cells.size) (hold : old.size = cells.size) (h1 : cells.all (·.oneCell') = true)
    (hK : ∀ w', w'.heap[z]? = some (.cells cells t (0, 0)) → Keep (fun k => k = z) w w' → wpList P ops Q rest (a.put op.dst undef) w') : wpList P ops Q (op :: rest) a w := by
  refine wpList_plain hgd fun _ hk => wp_store_row ty x y ho z cells hx hy t old hz hi hold h1 (hk _ _ (hK _ ?_ ⟨rfl, rfl, rfl, ?_, ?_⟩))
  · have hlt := lt_of_block hz
    have h' : w.heap[z] = .cells old t (0, 0) := by simpa [Array.getElem?_eq_getElem hlt] using hz
    show (w.heap.modify z _)[z]? = _
    rw [Array.getElem?_eq_getElem (by simpa using hlt), Array.getElem_modify_self, h']
  · simp [World.setRow]
  · intro k _ hn
    show (w.heap.modify z _)[k]? = _
    rw [Array.getElem?_modify, if_neg (fun e => hn e.symm)]

set_option maxRecDepth 100000 in
set_option maxHeartbeats 800000 in
theorem fs_calls {w : World} {g b : Nat} {d : DiskM} (h : DiskAt w g b d) :
    Calls Tryz.prog 13 #[.pointer (some ⟨g, 0, none⟩)] w fun e w' => e = .returned (.int .i64 d.calls) ∧ w = w' := by
  have HG := Lib.hid (fs_given h)
  have c6 : w.cell? ⟨g, 6, none⟩ = some (.int .i64 d.calls) := blk_cell h.blk 6
  go_enter Tryz.func13, Tryz.ntmps13
  go_wp2_with (go_at_call 20; refine HG.out.mono ?_; rintro e w' ⟨rfl, rfl⟩)
  go_ret
  exact ⟨rfl, rfl⟩
set_option maxRecDepth 100000 in
set_option maxHeartbeats 800000 in
theorem fs_used {w : World} {g b : Nat} {d : DiskM} (h : DiskAt w g b d) :
    Calls Tryz.prog 14 #[.pointer (some ⟨g, 0, none⟩)] w fun e w' => e = .returned (.int .i64 d.used) ∧ w = w' := by
  have HG := Lib.hid (fs_given h)
  have c2 : w.cell? ⟨g, 2, none⟩ = some (.int .i64 d.used) := blk_cell h.blk 2
  go_enter Tryz.func14, Tryz.ntmps14
  go_wp2_with (go_at_call 20; refine HG.out.mono ?_; rintro e w' ⟨rfl, rfl⟩)
  go_ret
  exact ⟨rfl, rfl⟩

def ClonePost (w : World) (d : DiskM) (e : Ending) (w' : World) : Prop :=
  ∃ g b, e = .returned (.pointer (some ⟨g, 0, none⟩)) ∧ DiskAt w' g b d ∧ Below w.heap.size w w' ∧ w.heap.size ≤ g ∧ w.heap.size ≤ b
set_option maxRecDepth 100000 in
set_option maxHeartbeats 1600000 in
theorem fs_clone {w : World} {g b : Nat} {d : DiskM} (h : DiskAt w g b d) :
    Calls Tryz.prog 17 #[.pointer (some ⟨g, 0, none⟩)] w (ClonePost w d) := by
  have HG := Lib.hid (fs_given h)
  have HH := Lib.hid h
  have c0 : w.cell? ⟨g, 0, none⟩ = some (.bool true) := blk_cell h.blk 0
  have c1 : w.cell? ⟨g, 1, none⟩ = some (.int .i64 d.room) := blk_cell h.blk 1
  have c2 : w.cell? ⟨g, 2, none⟩ = some (.int .i64 d.used) := blk_cell h.blk 2
  have c3 : w.cell? ⟨g, 3, none⟩ = some (.map (some b)) := blk_cell h.blk 3
  have c4 : w.cell? ⟨g, 4, none⟩ = some (.int .i64 d.fuse) := blk_cell h.blk 4
  have c5 : w.cell? ⟨g, 5, none⟩ = some (.bool d.down) := blk_cell h.blk 5
  have c6 : w.cell? ⟨g, 6, none⟩ = some (.int .i64 d.calls) := blk_cell h.blk 6
  have hlt := h.lt
  go_enter Tryz.func17, Tryz.ntmps17
  go_wp2_with (go_at_call 20; refine HG.out.mono ?_; rintro e w' ⟨rfl, rfl⟩)
  have hcon := AnyW.maps_Clone_owns Tryz.clone30 9 fileR b d.fs.length (filesD d.fs) _ (HH.out.alloc (.cells (diskCells d b) 62)).map
  change Calls Tryz.prog 30 _ _ _ at hcon
  refine hcon.mono ?_
  rintro e w2 ⟨rfl, hm, _, hb⟩
  have hz : w2.heap[w.heap.size]? = some (.cells (diskCells d b) 62 (0, 0)) := (hb.block _ (by simp)).trans (heap_alloc_new w _)
  have z3 : w2.cell? ⟨w.heap.size, 3, none⟩ = some (.map (some b)) := blk_cell hz 3
  have f3 := blk_free hz 3
  have hsz : w.heap.size < w2.heap.size := lt_of_block hz
  have HZ := Lib.hid hz
  rw [show (w.alloc (.cells (diskCells d b) 62)).heap.size = w.heap.size + 1 by simp] at hm
  have HM := Lib.hid hm
  have HB := Lib.hid hb
  clear hz hm hb hcon
  go_wp2_with fail
  (try go_ret)
  have hB : Below w.heap.size w w2 := ((Below.refl _ w).alloc (Nat.le_refl _) _).trans (HB.out.mono (by simp))
  refine ⟨w.heap.size, _, rfl, ⟨(blk_set HZ.out 3 _).trans rfl, ?_, HH.out.ok⟩, hB.setCell (Nat.le_refl _) _, Nat.le_refl _, by simp⟩
  exact ownsMap_keep HM.out ((Keep.refl (fun k => k = w.heap.size) w2).setCell (.inl rfl) _) (by simp)
end Go.Proofs.YtffjnilmpeihiaaGreatDoor
