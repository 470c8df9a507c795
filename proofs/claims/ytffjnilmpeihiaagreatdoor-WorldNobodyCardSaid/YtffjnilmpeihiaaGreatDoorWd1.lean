/- A world that nobody made. -/
import Derived.Test.YtffjnilmpeihiaaGreatDoorWd0
set_option linter.unusedVariables false
set_option linter.unusedSimpArgs false
namespace Go.Proofs.YtffjnilmpeihiaaGreatDoor
open Go Go.RowKit Go.Maps

/-- A pointer to no world, or to one that nobody made. -/
def Unmade (w : World) (v : Value) : Prop := v = .pointer none ∨ ∃ q, v = .pointer (some ⟨q, 0, none⟩) ∧ w.heap[q]? = some (.cells #[.pointer none, .slice none 0 0] 30 (0, 0))
theorem Unmade.below {w w' : World} {v : Value} (h : Unmade w v) (hb : Below w.heap.size w w') : Unmade w' v := by
  rcases h with rfl | ⟨q, rfl, hq⟩
  · exact .inl rfl
  · exact .inr ⟨q, rfl, (hb.block q (lt_of_block hq)).trans hq⟩
theorem given_unmade {w : World} {v : Value} (h : Unmade w v) : Calls Tryz.prog 9 #[v] w fun e w' => e = .returned (.bool false) ∧ w = w' := by
  rcases h with rfl | ⟨q, rfl, hq⟩
  · exact world_given_nil w
  · exact world_given_zero hq
set_option maxRecDepth 100000 in
theorem read_unmade {w : World} {v : Value} (h : Unmade w v) (s : Value) :
    Calls Tryz.prog 4 #[v, s] w fun e w' => e = .returned (.tuple #[.string ⟨#[]⟩, .bool false]) ∧ w = w' := by
  have HG := Lib.hid (given_unmade h)
  go_enter Tryz.func4, Tryz.ntmps4
  go_wp2_with (go_at_call 9; refine HG.out.mono ?_; rintro e w' ⟨rfl, rfl⟩)
  go_ret2
  exact ⟨rfl, rfl⟩
set_option maxRecDepth 100000 in
theorem names_unmade {w : World} {v : Value} (h : Unmade w v) :
    Calls Tryz.prog 7 #[v] w fun e w' => e = .returned (.slice none 0 0) ∧ w = w' := by
  have HG := Lib.hid (given_unmade h)
  go_enter Tryz.func7, Tryz.ntmps7
  go_wp2_with (go_at_call 9; refine HG.out.mono ?_; rintro e w' ⟨rfl, rfl⟩)
  go_ret
  exact ⟨rfl, rfl⟩
def actA (k : Int) (name s : ByteArray) (n : Int) (u : Int) (a : Option Addr) (len cap : Nat) : Value := .agg #[.int .i64 k, .string name, .string s, .int .i64 n, .int .u32 u, .slice a len cap]
theorem Below.of_keep {S : Nat → Prop} {w w' : World} (h : Keep S w w') (hs : ∀ k, S k → w.heap.size ≤ k) : Below w.heap.size w w' := h.to_below (Nat.le_refl _) hs
set_option maxRecDepth 100000 in
set_option maxHeartbeats 1600000 in
theorem law_of (k : Int) (name s : ByteArray) (n u : Int) (a : Option Addr) (len cap : Nat) (w : World) :
    Calls Tryz.prog 6 #[actA k name s n u a len cap] w fun e w' => e = .returned (actA k name s n u a len cap) ∧ Below w.heap.size w w' := by
  unfold actA
  go_enter Tryz.func6, Tryz.ntmps6
  go_upto_region 1 with (fail)
  have hz := heap_alloc_new (w.alloc (.cells #[.int .i64 k, .string name, .string s, .int .i64 n, .int .u32 u, .slice a len cap] 25)) (.cells #[.int .i64 0, .string ⟨#[]⟩, .string ⟨#[]⟩, .int .i64 0, .int .u32 0, .slice none 0 0] 38)
  rw [show (w.alloc (.cells #[.int .i64 k, .string name, .string s, .int .i64 n, .int .u32 u, .slice a len cap] 25)).heap.size = w.heap.size + 1 by simp] at hz
  have hp := blk_alloc (heap_alloc_new w (.cells #[.int .i64 k, .string name, .string s, .int .i64 n, .int .u32 u, .slice a len cap] 25)) (.cells #[.int .i64 0, .string ⟨#[]⟩, .string ⟨#[]⟩, .int .i64 0, .int .u32 0, .slice none 0 0] 38)
  have hB : Below w.heap.size w ((w.alloc (.cells #[.int .i64 k, .string name, .string s, .int .i64 n, .int .u32 u, .slice a len cap] 25)).alloc (.cells #[.int .i64 0, .string ⟨#[]⟩, .string ⟨#[]⟩, .int .i64 0, .int .u32 0, .slice none 0 0] 38)) := ((Below.refl _ w).alloc (Nat.le_refl _) _).alloc (by simp) _
  generalize (w.alloc (.cells #[.int .i64 k, .string name, .string s, .int .i64 n, .int .u32 u, .slice a len cap] 25)).alloc (.cells #[.int .i64 0, .string ⟨#[]⟩, .string ⟨#[]⟩, .int .i64 0, .int .u32 0, .slice none 0 0] 38) = wa at *
  have p0 : wa.cell? ⟨w.heap.size, 0, none⟩ = some (.int .i64 k) := blk_cell hp 0
  have p1 : wa.cell? ⟨w.heap.size, 1, none⟩ = some (.string name) := blk_cell hp 1
  have p2 : wa.cell? ⟨w.heap.size, 2, none⟩ = some (.string s) := blk_cell hp 2
  have p3 : wa.cell? ⟨w.heap.size, 3, none⟩ = some (.int .i64 n) := blk_cell hp 3
  have p4 : wa.cell? ⟨w.heap.size, 4, none⟩ = some (.int .u32 u) := blk_cell hp 4
  have p5 : wa.cell? ⟨w.heap.size, 5, none⟩ = some (.slice a len cap) := blk_cell hp 5
  have HZ := Lib.hid hz
  have HB := Lib.hid hB
  clear hz hB hp
  go_wp2_with (refine wpList_store_z rfl 38 _ _ rfl (w.heap.size + 1) 38 _ _ HZ.out rfl rfl (by kernel_rfl) rfl (by first | kernel_rfl | simp [Value.oneCell']) ?_; intro w2 hz2 hk2)
  have z0 : w2.cell? ⟨w.heap.size + 1, 0, none⟩ = some (.int .i64 k) := blk_cell hz2 0
  have z1 : w2.cell? ⟨w.heap.size + 1, 1, none⟩ = some (.string name) := blk_cell hz2 1
  have z2 : w2.cell? ⟨w.heap.size + 1, 2, none⟩ = some (.string s) := blk_cell hz2 2
  have z3 : w2.cell? ⟨w.heap.size + 1, 3, none⟩ = some (.int .i64 n) := blk_cell hz2 3
  have z4 : w2.cell? ⟨w.heap.size + 1, 4, none⟩ = some (.int .u32 u) := blk_cell hz2 4
  have z5 : w2.cell? ⟨w.heap.size + 1, 5, none⟩ = some (.slice a len cap) := blk_cell hz2 5
  refine bodyPost_ret (v := .agg #[.int .i64 k, .string name, .string s, .int .i64 n, .int .u32 u, .slice a len cap]) (by simp [results, Tryz.results6, go_sem, z0, z1, z2, z3, z4, z5]) rfl ?_
  refine ⟨rfl, HB.out.trans (hk2.to_below HB.out.size (fun k e => by omega))⟩
set_option maxRecDepth 100000 in
set_option maxHeartbeats 1600000 in
theorem do_unmade {w : World} {v : Value} (h : Unmade w v) (k : Int) (name s : ByteArray) (n u : Int) (a : Option Addr) (len cap : Nat) :
    Calls Tryz.prog 5 #[v, actA k name s n u a len cap] w fun e w' => e = .returned (.agg #[.int .i64 1, .int .i64 0, .int .i64 0]) ∧ Below w.heap.size w w' := by
  unfold actA
  have HG := Lib.hid (fun w' (hb : Below w.heap.size w w') => given_unmade (h.below hb))
  go_enter Tryz.func5, Tryz.ntmps5
  go_wp2_with fail
  refine (HG.out _ (((Below.refl _ w).alloc (Nat.le_refl _) _).alloc (by simp) _)).mono ?_
  rintro e w1 ⟨rfl, rfl⟩
  have hz := heap_alloc_new (w.alloc (.cells #[.int .i64 k, .string name, .string s, .int .i64 n, .int .u32 u, .slice a len cap] 38)) (.cells #[.int .i64 0, .int .i64 0, .int .i64 0] 36)
  rw [show (w.alloc (.cells #[.int .i64 k, .string name, .string s, .int .i64 n, .int .u32 u, .slice a len cap] 38)).heap.size = w.heap.size + 1 by simp] at hz
  have HZ := Lib.hid hz
  clear hz
  have HB : Hid (Below w.heap.size w ((w.alloc (.cells #[.int .i64 k, .string name, .string s, .int .i64 n, .int .u32 u, .slice a len cap] 38)).alloc (.cells #[.int .i64 0, .int .i64 0, .int .i64 0] 36))) := Lib.hid (((Below.refl _ w).alloc (Nat.le_refl _) _).alloc (by simp) _)
  generalize (w.alloc (.cells #[.int .i64 k, .string name, .string s, .int .i64 n, .int .u32 u, .slice a len cap] 38)).alloc (.cells #[.int .i64 0, .int .i64 0, .int .i64 0] 36) = wa at *
  go_wp2_with (refine wpList_store_z rfl 36 _ _ rfl (w.heap.size + 1) 36 _ _ HZ.out rfl rfl (by kernel_rfl) rfl (by kernel_rfl) ?_; intro w2 hz2 hk2)
  have z0 : w2.cell? ⟨w.heap.size + 1, 0, none⟩ = some (.int .i64 1) := blk_cell hz2 0
  have z1 : w2.cell? ⟨w.heap.size + 1, 1, none⟩ = some (.int .i64 0) := blk_cell hz2 1
  have z2 : w2.cell? ⟨w.heap.size + 1, 2, none⟩ = some (.int .i64 0) := blk_cell hz2 2
  refine bodyPost_ret (v := .agg #[.int .i64 1, .int .i64 0, .int .i64 0]) (by simp [results, Tryz.results5, go_sem, z0, z1, z2]) rfl ?_
  refine ⟨rfl, HB.out.trans (hk2.to_below HB.out.size (fun k e => by omega))⟩
end Go.Proofs.YtffjnilmpeihiaaGreatDoor
