/- A file is read of a copy that is up. -/
import Derived.Test.YtffjnilmpeihiaaGreatDoorWd4
import Derived.Test.YtffjnilmpeihiaaGreatDoorFs11
import Derived.Test.YtffjnilmpeihiaaGreatDoorFs6
set_option linter.unusedVariables false
set_option linter.unusedSimpArgs false
namespace Go.Proofs.YtffjnilmpeihiaaGreatDoor
open Go Go.RowKit Go.Maps

def UpPost (w : World) (d : DiskM) (e : Ending) (w' : World) : Prop :=
  ∃ g b, e = .returned (.pointer (some ⟨g, 0, none⟩)) ∧ DiskAt w' g b d ∧ Below w.heap.size w w' ∧ w.heap.size ≤ g ∧ w.heap.size ≤ b
set_option maxRecDepth 100000 in
set_option maxHeartbeats 3200000 in
theorem world_up {w : World} {q sb g b : Nat} {d : DiskM} (h : WorldAt w q sb g b d) (h0 : 0 < d.fs.length) (hkept : ∀ p ∈ d.fs, p.2.kept = p.2.s.size) :
    Calls Tryz.prog 10 #[.pointer (some ⟨q, 0, none⟩)] w (UpPost w { d with fuse := -1, down := false }) := by
  have HC := Lib.hid (fs_clone h.disk)
  have c0 : w.cell? ⟨q, 0, none⟩ = some (.pointer (some ⟨g, 0, none⟩)) := blk_cell h.blk 0
  have HP := Lib.hid hkept
  clear h hkept
  go_enter Tryz.func10, Tryz.ntmps10
  go_wp2_with fail
  refine HC.out.mono ?_
  rintro e w1 ⟨g1, b1, rfl, hd1, hb1, hg1, hbb1⟩
  have HD1 := Lib.hid hd1
  have HB1 := Lib.hid hb1
  clear hd1 hb1
  have hms : (Instr.makeSlice 23 (.int .i64 200) (.int .i64 200)).run Tryz.prog w1 = .ok (.slice (some ⟨w1.heap.size, 0, none⟩) 200 200) (w1.alloc (.cells (madeCells (Value.int .i64 0).cells 200) 3)) :=
    run_makeSlice (P := Tryz.prog) w1 23 3 Tryz.t3 (.int .i64 0) Tryz.underlying23 (by kernel_rfl) (by kernel_rfl) .i64 .i64 200 200 (by omega) (Int.le_refl _) (by decide) (by decide) (by omega)
  have hz := heap_alloc_new w1 (.cells (madeCells (Value.int .i64 0).cells 200) 3)
  have hsz : (madeCells (Value.int .i64 0).cells 200).size = 200 := size_madeCells _ _
  have hB := (Below.refl w1.heap.size w1).alloc (Nat.le_refl _) (.cells (madeCells (Value.int .i64 0).cells 200) 3)
  generalize madeCells (Value.int .i64 0).cells 200 = cur0 at *
  generalize w1.alloc (.cells cur0 3) = wm at *
  go_wp2_with fail
  clear hms
  have HZ := Lib.hid hz
  have HB := Lib.hid hB
  have HS := Lib.hid hsz
  clear hz hB hsz
  go_loopw [14] (fun i wr => ∃ k : Nat, ∃ cur : Array Value, k ≤ 200 ∧ i = .int .i64 k ∧ cur.size = 200 ∧ wr.heap[w1.heap.size]? = some (.cells cur 3 (0, 0)) ∧ (∀ j, j < k → cur[j]? = some (.int .i64 16777216)) ∧ Keep (fun j => j = w1.heap.size) wm wr) (fun i _ => 200 - (intOf i).toNat)
  case atStart => exact ⟨0, cur0, by omega, rfl, HS.out, HZ.out, fun j hj => by omega, Keep.refl _ _⟩
  case round =>
    obtain ⟨k, cur, hk, rfl, hs, hblk, hall, hkr⟩ := hrel
    have HBLK := Lib.hid hblk
    have HALL := Lib.hid hall
    have HKR := Lib.hid hkr
    by_cases hlt : k < 200
    · have hc : wr.cell? ⟨w1.heap.size, k, none⟩ = some cur[k] := (blk_cell hblk k).trans (Array.getElem?_eq_getElem (by omega))
      have hf := blk_free hblk k
      clear hblk hall hkr
      go_wp2_with fail
      go_roundw
      case rel =>
        refine ⟨k + 1, cur.setIfInBounds k (.int .i64 16777216), by omega, by go_num, by simpa using hs, blk_set HBLK.out k _, ?_, HKR.out.setCell (.inl rfl) _⟩
        intro j hj
        rw [Array.getElem?_setIfInBounds]
        by_cases e : k = j
        · rw [if_pos e, if_pos (by omega)]
        · rw [if_neg e]
          exact HALL.out j (by omega)
      case measure => simp [intOf]; omega
    · have hk2 : k = 200 := by omega
      subst hk2
      clear hblk hall hkr
      have hz1 := HB1.out.size
      have hD := HD1.out.below HB.out
      have hl1 := HD1.out.lt
      have hl2 := HD1.out.ltb
      have hD2 := hD.keep HKR.out (by omega) (by omega)
      go_wp2_with fail
      refine (fs_rise_kept hD2 h0 HP.out w1.heap.size 200 (by omega) (by omega) (fun i hi => (blk_cell HBLK.out i).trans (HALL.out i hi))).mono ?_
      rintro e w3 ⟨rfl, hd3, hk3⟩
      go_wp2_with fail
      (try go_ret)
      refine ⟨g1, b1, rfl, hd3, ?_, hg1, hbb1⟩
      have hB2 : Below w.heap.size w wr := (HB1.out.trans (HB.out.mono hz1)).trans (HKR.out.to_below (by have := HB.out.size; omega) (fun j e => by omega))
      exact hB2.trans (hk3.to_below hB2.size (fun j e => by have := hB2.size; rcases e with e | e | e <;> omega))
def WReadPost (w : World) (s : ByteArray) (e : Ending) (w' : World) : Prop := e = .returned (.tuple #[.string s, .bool true]) ∧ Below w.heap.size w w'
set_option maxRecDepth 100000 in
set_option maxHeartbeats 1600000 in
theorem world_read {w : World} {q sb g b : Nat} {d d1 d2 : DiskM} {n : Int} {s name : ByteArray} (h : WorldAt w q sb g b d) (h0 : 0 < d.fs.length) (hkept : ∀ p ∈ d.fs, p.2.kept = p.2.s.size) (hn : name.size ≤ 9223372036854775807)
    (h1 : DiskM.size { d with fuse := -1, down := false } name.data.toList = (n, 0, d1)) (hn1 : 0 ≤ n ∧ n ≤ 9223372036854775807) (h2 : d1.read name.data.toList 0 n = (s, 0, d2)) :
    Calls Tryz.prog 4 #[.pointer (some ⟨q, 0, none⟩), .string name] w (WReadPost w s) := by
  have HG := Lib.hid (world_given h.blk)
  have HU := Lib.hid (world_up h h0 hkept)
  have H1 := Lib.hid h1
  have H2 := Lib.hid h2
  clear h h0 hkept h1 h2
  go_enter Tryz.func4, Tryz.ntmps4
  go_wp2_with (go_at_call 9; refine HG.out.mono ?_; rintro e w' ⟨rfl, rfl⟩)
  refine HU.out.mono ?_
  rintro e w1 ⟨g1, b1, rfl, hd1, hb1, hg1, hbb1⟩
  go_wp2_with fail
  refine (fs_size hd1 name hn).mono ?_
  rintro e w2 ⟨he, hd2, hk2⟩
  have e1 := H1.out
  rw [e1] at he hd2
  subst he
  clear e1
  go_wp2_with fail
  refine (fs_read hd2 name hn 0 n (by omega) (by omega)).mono ?_
  rintro e w3 ⟨he, hd3, hk3⟩
  have e2 := H2.out
  rw [e2] at he hd3
  subst he
  clear e2
  go_wp2_with fail
  (try go_ret2)
  exact ⟨rfl, (hb1.trans (hk2.to_below hb1.size (fun j e => by omega))).trans (hk3.to_below (by have := hb1.size; have := hk2.size; omega) (fun j e => by omega))⟩
end Go.Proofs.YtffjnilmpeihiaaGreatDoor
