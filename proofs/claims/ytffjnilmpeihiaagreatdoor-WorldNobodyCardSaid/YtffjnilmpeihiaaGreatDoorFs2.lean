/- A call that asks for a file begins. -/
import Derived.Test.YtffjnilmpeihiaaGreatDoorFs1
import Derived.Test.YtffjnilmpeihiaaGreatDoorFsLaws
set_option linter.unusedVariables false
set_option linter.unusedSimpArgs false
namespace Go.Proofs.YtffjnilmpeihiaaGreatDoor
open Go Go.RowKit Go.Maps

def FindPost (w : World) (g b : Nat) (d : DiskM) (name : List UInt8) (may : Bool) (e : Ending) (w' : World) : Prop :=
  e = .returned (.tuple #[.agg #[.string (d.find name may).1.s, .int .i64 (d.find name may).1.kept], .int .i64 (d.find name may).2.1]) ∧ DiskAt w' g b (d.find name may).2.2 ∧ Keep (fun k => k = g) w w'

theorem find_fail {d : DiskM} {name : List UInt8} {may : Bool} (h : (d.call (may && rightB name)).1 ≠ 0) : d.find name may = (⟨ByteArray.empty, 0⟩, (d.call (may && rightB name)).1, (d.call (may && rightB name)).2) := by
  unfold DiskM.find; rw [if_pos h]
theorem find_hit {d : DiskM} {name : List UInt8} {may : Bool} (h : (d.call (may && rightB name)).1 = 0) {f : FileM} (hf : getF d.fs name = some f) : d.find name may = (f, 0, (d.call (may && rightB name)).2) := by
  unfold DiskM.find; rw [if_neg (by simpa using h), DiskM.call_fs, hf]
theorem find_miss {d : DiskM} {name : List UInt8} {may : Bool} (h : (d.call (may && rightB name)).1 = 0) (hf : getF d.fs name = none) : d.find name may = (⟨ByteArray.empty, 0⟩, 2, (d.call (may && rightB name)).2) := by
  unfold DiskM.find; rw [if_neg (by simpa using h), DiskM.call_fs, hf]

theorem findPost_end {w w1 w2 : World} {g b : Nat} {d d1 : DiskM} {name : List UInt8} {may : Bool} {t : ByteArray} {k r : Int} (hf : d.find name may = (⟨t, k⟩, r, d1)) (hd : DiskAt w1 g b d1)
    (hk : Keep (fun k => k = g) w w1) (hg : g < w.heap.size) (hb : b < w.heap.size) (hk2 : Keep (fun k => k = w.heap.size) w1 w2) :
    FindPost w g b d name may (.returned (.tuple #[.agg #[.string t, .int .i64 k], .int .i64 r])) w2 := by
  unfold FindPost
  rw [hf]
  exact ⟨rfl, hd.keep hk2 (by omega) (by omega), hk.trans hk2 (fun k e => .inr (by omega))⟩

set_option maxRecDepth 100000 in
set_option maxHeartbeats 1600000 in
theorem fs_find {w : World} {g b : Nat} {d : DiskM} (h : DiskAt w g b d) (s : ByteArray) (hs : s.size ≤ 9223372036854775807) (may : Bool) :
    Calls Tryz.prog 19 #[.pointer (some ⟨g, 0, none⟩), .string s, .bool may] w (FindPost w g b d s.data.toList may) := by
  have hlt := h.lt
  have hltb := h.ltb
  cases may with
  | false =>
    have hc : (d.call false).1 = 1 := rfl
    have hfin := find_fail (d := d) (name := s.data.toList) (may := false) (by show (1 : Int) ≠ 0; decide)
    have HF := Lib.hid hfin
    clear hfin
    go_enter Tryz.func19, Tryz.ntmps19
    go_wp2_with fail
    refine (fs_call (h.alloc _) false).mono ?_
    rintro e w1 ⟨rfl, hd, hk⟩
    have hz : w1.heap[w.heap.size]? = some (.cells #[.string ⟨#[]⟩, .int .i64 0] 57 (0, 0)) := hk.blk (heap_alloc_new w _) (by omega)
    have z0 : w1.cell? ⟨w.heap.size, 0, none⟩ = some (.string ⟨#[]⟩) := blk_cell hz 0
    have z1 : w1.cell? ⟨w.heap.size, 1, none⟩ = some (.int .i64 0) := blk_cell hz 1
    have y0 := blk_free hz 0
    have y1 := blk_free hz 1
    go_wp2_with fail
    refine bodyPost_ret (v := .tuple #[.agg #[.string ⟨#[]⟩, .int .i64 0], .int .i64 1]) (by simp [results, Tryz.results19, go_sem, z0, z1, y0, y1]) rfl ?_
    exact findPost_end HF.out hd (((Keep.refl (fun k => k = g) w).alloc _).trans hk (fun _ h => .inl h)) hlt hltb (((Keep.refl (fun k => k = w.heap.size) w1).setCell (.inl rfl) _).setCell (.inl rfl) _)
  | true =>
    by_cases he : (d.call (rightB s.data.toList)).1 = 0
    · have c3 : (d.call (rightB s.data.toList)).2.fs = d.fs := DiskM.call_fs _ _
      cases hf : getF d.fs s.data.toList with
      | none =>
        have hfin := find_miss (may := true) (by simpa using he) hf
        have HF := Lib.hid hfin
        have hfa : fileAt d.fs s.data.toList = ⟨⟨#[]⟩, 0⟩ := by unfold fileAt; rw [hf]; rfl
        have HI := Lib.hid hf
        have HA := Lib.hid hfa
        have HE := Lib.hid he
        have HC := Lib.hid c3
        clear hfin hf hfa he c3
        go_enter Tryz.func19, Tryz.ntmps19
        go_wp2_with fail
        refine (fs_right s _ hs).mono ?_
        rintro e w0 ⟨rfl, hb0⟩
        have hk0 : Keep (fun k => k = g) w w0 := ((Keep.refl (fun k => k = g) w).alloc _).below hb0
        have hz0 := (hb0.block w.heap.size (by simp)).trans (heap_alloc_new w _)
        go_wp2_with fail
        refine (fs_call ((h.alloc _).below hb0) (rightB s.data.toList)).mono ?_
        rintro e w1 ⟨he, hd, hk⟩
        rw [HE.out] at he
        subst he
        have hz : w1.heap[w.heap.size]? = some (.cells #[.string ⟨#[]⟩, .int .i64 0] 57 (0, 0)) := hk.blk hz0 (by omega)
        have z0 : w1.cell? ⟨w.heap.size, 0, none⟩ = some (.string ⟨#[]⟩) := blk_cell hz 0
        have z1 : w1.cell? ⟨w.heap.size, 1, none⟩ = some (.int .i64 0) := blk_cell hz 1
        have y0 := blk_free hz 0
        have y1 := blk_free hz 1
        have d3 : w1.cell? ⟨g, 3, none⟩ = some (.map (some b)) := blk_cell hd.blk 3
        have hl := look_file hd.map s hs
        rw [HC.out, HA.out, HI.out] at hl
        simp only [Option.isSome_none] at hl
        have hsz := lt_of_block hz
        clear hz hz0
        go_wp2_with fail
        refine bodyPost_ret (v := .tuple #[.agg #[.string ⟨#[]⟩, .int .i64 0], .int .i64 2]) (by simp [results, Tryz.results19, go_sem, z0, z1, y0, y1, hsz]) rfl ?_
        refine findPost_end HF.out hd (hk0.trans hk (fun _ h => .inl h)) hlt hltb ?_
        (repeat (first | exact Keep.refl _ _ | assumption | refine Keep.alloc ?_ _ | refine Keep.drew ?_ | refine Keep.drewN ?_ _ | (refine Keep.setCell ?_ ?_ _; rotate_left; first | exact Or.inl rfl | exact Or.inl (Or.inl rfl) | exact Or.inl (Or.inr rfl) | (simp; omega))))
      | some f =>
        obtain ⟨ft, fk⟩ := f
        have hfin := find_hit (may := true) (by simpa using he) hf
        have HF := Lib.hid hfin
        have hfa : fileAt d.fs s.data.toList = ⟨ft, fk⟩ := by unfold fileAt; rw [hf]; rfl
        have HI := Lib.hid hf
        have HA := Lib.hid hfa
        have HE := Lib.hid he
        have HC := Lib.hid c3
        clear hfin hf hfa he c3
        go_enter Tryz.func19, Tryz.ntmps19
        go_wp2_with fail
        refine (fs_right s _ hs).mono ?_
        rintro e w0 ⟨rfl, hb0⟩
        have hk0 : Keep (fun k => k = g) w w0 := ((Keep.refl (fun k => k = g) w).alloc _).below hb0
        have hz0 := (hb0.block w.heap.size (by simp)).trans (heap_alloc_new w _)
        go_wp2_with fail
        refine (fs_call ((h.alloc _).below hb0) (rightB s.data.toList)).mono ?_
        rintro e w1 ⟨he, hd, hk⟩
        rw [HE.out] at he
        subst he
        have hz : w1.heap[w.heap.size]? = some (.cells #[.string ⟨#[]⟩, .int .i64 0] 57 (0, 0)) := hk.blk hz0 (by omega)
        have z0 : w1.cell? ⟨w.heap.size, 0, none⟩ = some (.string ⟨#[]⟩) := blk_cell hz 0
        have z1 : w1.cell? ⟨w.heap.size, 1, none⟩ = some (.int .i64 0) := blk_cell hz 1
        have y0 := blk_free hz 0
        have y1 := blk_free hz 1
        have d3 : w1.cell? ⟨g, 3, none⟩ = some (.map (some b)) := blk_cell hd.blk 3
        have hl := look_file hd.map s hs
        rw [HC.out, HA.out, HI.out] at hl
        simp only [Option.isSome_some] at hl
        have hsz := lt_of_block hz
        clear hz hz0
        go_wp2_with fail
        refine bodyPost_ret (v := .tuple #[.agg #[.string ft, .int .i64 fk], .int .i64 0]) (by simp [results, Tryz.results19, go_sem, z0, z1, y0, y1, hsz]) rfl ?_
        refine findPost_end HF.out hd (hk0.trans hk (fun _ h => .inl h)) hlt hltb ?_
        (repeat (first | exact Keep.refl _ _ | assumption | refine Keep.alloc ?_ _ | refine Keep.drew ?_ | refine Keep.drewN ?_ _ | (refine Keep.setCell ?_ ?_ _; rotate_left; first | exact Or.inl rfl | exact Or.inl (Or.inl rfl) | exact Or.inl (Or.inr rfl) | (simp; omega))))
    · have hfin := find_fail (may := true) (name := s.data.toList) (by simpa using he)
      have hne : ((d.call (rightB s.data.toList)).1 != 0) = true := by simpa using he
      obtain ⟨r, hr⟩ : ∃ r, r = (d.call (rightB s.data.toList)).1 := ⟨_, rfl⟩
      rw [← hr] at hne
      have HF := Lib.hid hfin
      have HR := Lib.hid hr
      clear hfin he hr
      go_enter Tryz.func19, Tryz.ntmps19
      go_wp2_with fail
      refine (fs_right s _ hs).mono ?_
      rintro e w0 ⟨rfl, hb0⟩
      have hk0 : Keep (fun k => k = g) w w0 := ((Keep.refl (fun k => k = g) w).alloc _).below hb0
      have hz0 := (hb0.block w.heap.size (by simp)).trans (heap_alloc_new w _)
      go_wp2_with fail
      refine (fs_call ((h.alloc _).below hb0) (rightB s.data.toList)).mono ?_
      rintro e w1 ⟨he, hd, hk⟩
      rw [← HR.out] at he
      subst he
      have hz : w1.heap[w.heap.size]? = some (.cells #[.string ⟨#[]⟩, .int .i64 0] 57 (0, 0)) := hk.blk hz0 (by omega)
      have z0 : w1.cell? ⟨w.heap.size, 0, none⟩ = some (.string ⟨#[]⟩) := blk_cell hz 0
      have z1 : w1.cell? ⟨w.heap.size, 1, none⟩ = some (.int .i64 0) := blk_cell hz 1
      have y0 := blk_free hz 0
      have y1 := blk_free hz 1
      clear hz hz0
      go_wp2_with fail
      refine bodyPost_ret (v := .tuple #[.agg #[.string ⟨#[]⟩, .int .i64 0], .int .i64 r]) (by simp [results, Tryz.results19, go_sem, z0, z1, y0, y1]) rfl ?_
      refine findPost_end (HF.out.trans (by rw [HR.out]; rfl)) hd (hk0.trans hk (fun _ h => .inl h)) hlt hltb ?_
      (repeat (first | exact Keep.refl _ _ | assumption | refine Keep.alloc ?_ _ | refine Keep.drew ?_ | refine Keep.drewN ?_ _ | (refine Keep.setCell ?_ ?_ _; rotate_left; first | exact Or.inl rfl | exact Or.inl (Or.inl rfl) | exact Or.inl (Or.inr rfl) | (simp; omega))))
end Go.Proofs.YtffjnilmpeihiaaGreatDoor
