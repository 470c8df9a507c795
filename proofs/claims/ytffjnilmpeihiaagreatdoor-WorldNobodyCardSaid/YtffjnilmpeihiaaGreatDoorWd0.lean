/- A world in memory; whether it was made; a new one. -/
import Derived.Test.YtffjnilmpeihiaaGreatDoorFs10
set_option linter.unusedVariables false
set_option linter.unusedSimpArgs false
namespace Go.Proofs.YtffjnilmpeihiaaGreatDoor
open Go Go.RowKit Go.Maps

def actV (n q : Nat) : Value := .func (.func n) #[.pointer (some ⟨q, 0, none⟩)] #[]
def actsC (q : Nat) : Array Value := #[actV 24 q, actV 25 q, actV 26 q, actV 27 q, actV 28 q, actV 29 q]
structure WorldAt (w : World) (q sb g b : Nat) (d : DiskM) : Prop where
  blk : w.heap[q]? = some (.cells #[.pointer (some ⟨g, 0, none⟩), .slice (some ⟨sb, 0, none⟩) 6 6] 30 (0, 0))
  acts : w.heap[sb]? = some (.cells (actsC q) 50 (0, 0))
  disk : DiskAt w g b d
theorem WorldAt.keep {w w' : World} {q sb g b : Nat} {d d' : DiskM} {S : Nat → Prop} (h : WorldAt w q sb g b d) (hk : Keep S w w') (hq : ¬ S q) (hs : ¬ S sb) (hd : DiskAt w' g b d') : WorldAt w' q sb g b d' :=
  ⟨hk.blk h.blk hq, hk.blk h.acts hs, hd⟩

set_option maxRecDepth 100000 in
theorem world_given {w : World} {q g : Nat} {v : Value} (hb : w.heap[q]? = some (.cells #[.pointer (some ⟨g, 0, none⟩), v] 30 (0, 0))) :
    Calls Tryz.prog 9 #[.pointer (some ⟨q, 0, none⟩)] w fun e w' => e = .returned (.bool true) ∧ w = w' := by
  have c0 : w.cell? ⟨q, 0, none⟩ = some (.pointer (some ⟨g, 0, none⟩)) := blk_cell hb 0
  go_enter Tryz.func9, Tryz.ntmps9
  go_wp2
  go_ret
  exact ⟨rfl, rfl⟩
set_option maxRecDepth 100000 in
theorem world_given_nil (w : World) :
    Calls Tryz.prog 9 #[.pointer none] w fun e w' => e = .returned (.bool false) ∧ w = w' := by
  go_enter Tryz.func9, Tryz.ntmps9
  go_wp2
  go_ret
  exact ⟨rfl, rfl⟩
set_option maxRecDepth 100000 in
theorem world_given_zero {w : World} {q : Nat} {v : Value} (hb : w.heap[q]? = some (.cells #[.pointer none, v] 30 (0, 0))) :
    Calls Tryz.prog 9 #[.pointer (some ⟨q, 0, none⟩)] w fun e w' => e = .returned (.bool false) ∧ w = w' := by
  have c0 : w.cell? ⟨q, 0, none⟩ = some (.pointer none) := blk_cell hb 0
  go_enter Tryz.func9, Tryz.ntmps9
  go_wp2
  go_ret
  exact ⟨rfl, rfl⟩

def NewPost (w : World) (room : Int) (e : Ending) (w' : World) : Prop :=
  ∃ q sb g b, e = .returned (.tuple #[.pointer (some ⟨q, 0, none⟩), .int .i64 0]) ∧ WorldAt w' q sb g b (newM room) ∧ Below w.heap.size w w' ∧ w.heap.size ≤ q ∧ w.heap.size ≤ sb ∧ w.heap.size ≤ g ∧ w.heap.size ≤ b
set_option maxRecDepth 100000 in
set_option maxHeartbeats 1600000 in
theorem world_new (room : Int) (w : World) (h0 : 0 ≤ room) (h1 : room ≤ 16777216) :
    Calls Tryz.prog 16 #[.int .i64 room] w (NewPost w room) := by
  have hmf : ∀ (fn : Fn) (first cap : Array Value) (w : World), (Instr.makeFunc fn first cap).run Tryz.prog w = .ok (.func fn first cap) w := fun _ _ _ _ => rfl
  go_enter Tryz.func16, Tryz.ntmps16
  go_wp2_with fail
  refine (fs_new room w h0 h1).mono ?_
  rintro e w1 ⟨g, b, rfl, hd, hb, hg, hbb⟩
  go_wp2_with fail
  (try go_ret2)
  refine ⟨w1.heap.size, w1.heap.size + 1, g, b, rfl, ⟨?_, ?_, (hd.alloc _).alloc _⟩, ((hb.alloc hb.size _).alloc (by simp; exact Nat.le_succ_of_le hb.size) _), hb.size, Nat.le_succ_of_le hb.size, hg, hbb⟩
  · exact blk_alloc (heap_alloc_new w1 _) _
  · have := heap_alloc_new (w1.alloc (.cells #[.pointer (some ⟨g, 0, none⟩), .slice (some ⟨w1.heap.size + 1, 0, none⟩) 6 6] 30)) (.cells (actsC w1.heap.size) 50)
    rw [show (w1.alloc (.cells #[.pointer (some ⟨g, 0, none⟩), .slice (some ⟨w1.heap.size + 1, 0, none⟩) 6 6] 30)).heap.size = w1.heap.size + 1 by simp] at this
    exact this
end Go.Proofs.YtffjnilmpeihiaaGreatDoor
