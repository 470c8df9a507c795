/- A file is gone; bytes are put behind. -/
import Derived.Test.YtffjnilmpeihiaaGreatDoorFs3
import Derived.StillTailTactics
set_option linter.unusedVariables false
set_option linter.unusedSimpArgs false
namespace Go.Proofs.YtffjnilmpeihiaaGreatDoor
open Go Go.RowKit Go.Maps

theorem szO_getF (fs : FilesM) (k : List UInt8) : ((fileAt fs k).s.size : Int) = szO (getF fs k) := by
  unfold fileAt
  cases getF fs k <;> rfl

def DropPost (w : World) (g b : Nat) (d : DiskM) (e : Ending) (w' : World) : Prop :=
  e = .returned (.tuple #[]) ∧ DiskAt w' g b d ∧ Keep (fun k => k = g ∨ k = b) w w'
theorem dropPost_end {w w1 w2 : World} {g b : Nat} {d : DiskM} {s : List UInt8} {u : Int} (h : DiskAt w1 g b d) (hk : Keep (fun k => k = g ∨ k = b) w w1) (hu : u = (d.drop s).used)
    (hm : w2.ownsMap Tryz.prog 9 fileR b (delF d.fs s).length (filesD (delF d.fs s))) (ht : (w1.setCell ⟨g, 2, none⟩ (.int .i64 u)).mapTurned w2 b) :
    DropPost w g b (d.drop s) (.returned (.tuple #[])) w2 := by
  subst hu
  have hkm := keep_map ht
  have hb : (w1.setCell ⟨g, 2, none⟩ (.int .i64 (d.drop s).used)).heap[g]? = some (.cells (diskCells (d.drop s) b) 62 (0, 0)) := blk_set h.blk 2 _
  refine ⟨rfl, ⟨hkm.blk hb h.ne, hm, h.ok.drop s⟩, ?_⟩
  exact (hk.setCell (.inl (.inl rfl)) _).trans hkm (fun k e => .inl (.inr e))

set_option maxRecDepth 100000 in
set_option maxHeartbeats 1600000 in
theorem fs_drop {w : World} {g b : Nat} {d : DiskM} (h : DiskAt w g b d) (s : ByteArray) (hs : s.size ≤ 9223372036854775807) :
    Calls Tryz.prog 47 #[.pointer (some ⟨g, 0, none⟩), .string s] w (DropPost w g b (d.drop s.data.toList)) := by
  have hok := h.ok.drop s.data.toList
  have hz := szO_getF d.fs s.data.toList
  have hu0 := h.ok.used0
  have hu1 := h.ok.used1
  have hr1 := h.ok.room1
  have hu3 := hok.used0
  have hu2 : (d.drop s.data.toList).used = d.used - szO (getF d.fs s.data.toList) := rfl
  obtain ⟨ff, hff⟩ : ∃ ff, ff = fileAt d.fs s.data.toList := ⟨_, rfl⟩
  rw [← hff] at hz
  have hfu : d.used - (ff.s.size : Int) = (d.drop s.data.toList).used := by rw [hu2, hz]
  have hle : (ff.s.size : Int) ≤ d.used := by omega
  have hsz0 : (0 : Int) ≤ (ff.s.size : Int) := by omega
  have HU := Lib.hid hfu
  have HF := Lib.hid hff
  have hg := h.lt
  have hgb := h.ne
  clear hz hu2 hfu hu3 hff
  go_enter Tryz.func47, Tryz.ntmps47
  go_wp2_with fail
  refine wp_region_still_tail 15 (by kernel_rfl) (by kernel_rfl) ?_
  simp only [List.take_succ_cons, List.take_zero, List.drop_succ_cons, List.drop_zero]
  generalize hW : ({ w with drawn := w.drawn + 1 } : World) = wd
  have hd : DiskAt wd g b d := by rw [← hW]; exact h.drew
  have hk : Keep (fun k => k = g ∨ k = b) w wd := by rw [← hW]; exact (Keep.refl (fun k => k = g ∨ k = b) w).drew
  clear hW h
  have c2 : wd.cell? ⟨g, 2, none⟩ = some (.int .i64 d.used) := blk_cell hd.blk 2
  have c3 : wd.cell? ⟨g, 3, none⟩ = some (.map (some b)) := blk_cell hd.blk 3
  have f2 := blk_free hd.blk 2
  have hl := look_file1 hd.map s hs
  rw [← HF.out] at hl
  have hfs := field_s
  repeat still_step
  refine wpStill_nil ?_
  go_wp2_with (first
    | (at_delete; refine wpList_del_file _ rfl _ _ rfl b _ d.fs s rfl (hd.map.setCell (Ne.symm hgb) _) rfl hs ?_; intro w2 hown2 hturn2))
  (try go_end0)
  exact dropPost_end hd hk HU.out hown2 hturn2
end Go.Proofs.YtffjnilmpeihiaaGreatDoor
