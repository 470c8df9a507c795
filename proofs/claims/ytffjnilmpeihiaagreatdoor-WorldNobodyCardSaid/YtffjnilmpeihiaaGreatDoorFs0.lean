/- The disk's first functions: whether it was made; a call begins. -/
import Derived.Test.YtffjnilmpeihiaaGreatDoorCore
set_option linter.unusedVariables false
set_option linter.unusedSimpArgs false
namespace Go.Proofs.YtffjnilmpeihiaaGreatDoor
open Go Go.RowKit Go.Maps

set_option maxHeartbeats 400000 in
theorem fs_given {w : World} {g b : Nat} {d : DiskM} (h : DiskAt w g b d) :
    Calls Tryz.prog 20 #[.pointer (some ⟨g, 0, none⟩)] w fun e w' => e = .returned (.bool true) ∧ w = w' := by
  have c0 : w.cell? ⟨g, 0, none⟩ = some (.bool true) := blk_cell h.blk 0
  go_enter Tryz.func20, Tryz.ntmps20
  go_wp2
  go_ret
  exact ⟨rfl, rfl⟩

theorem call_true (d : DiskM) : d.call true = (if d.down || d.fuse == 0 then 5 else 0, { d with calls := wrap64 (d.calls + 1), down := d.down || d.fuse == 0, fuse := if d.fuse > -1 then d.fuse - 1 else d.fuse }) := rfl

/-- What a call's beginning leaves. -/
def CallPost (w : World) (g b : Nat) (d : DiskM) (may : Bool) (e : Ending) (w' : World) : Prop :=
  e = .returned (.int .i64 (d.call may).1) ∧ DiskAt w' g b (d.call may).2 ∧ Keep (fun k => k = g) w w'

theorem callPost_turned {w : World} {g b : Nat} {d : DiskM} (h : DiskAt w g b d) (hf : -1 < d.fuse) (dn : Bool) (hd : dn = (d.down || d.fuse == 0)) (r : Int) (hr : r = if dn then 5 else 0) :
    CallPost w g b d true (.returned (.int .i64 r)) (((w.setCell ⟨g, 6, none⟩ (.int .i64 (wrap64 (d.calls + 1)))).setCell ⟨g, 5, none⟩ (.bool dn)).setCell ⟨g, 4, none⟩ (.int .i64 (d.fuse - 1))) := by
  subst hr hd
  have hok := h.ok.call true
  have hk : Keep (fun k => k = g) w (((w.setCell ⟨g, 6, none⟩ (.int .i64 (wrap64 (d.calls + 1)))).setCell ⟨g, 5, none⟩ (.bool (d.down || d.fuse == 0))).setCell ⟨g, 4, none⟩ (.int .i64 (d.fuse - 1))) :=
    (((Keep.refl (fun k => k = g) w).setCell (.inl rfl) _).setCell (.inl rfl) _).setCell (.inl rfl) _
  refine ⟨rfl, ⟨?_, ?_, hok⟩, hk⟩
  · refine (blk_set (blk_set (blk_set h.blk 6 _) 5 _) 4 _).trans ?_
    rw [call_true]
    unfold diskCells
    simp only [if_pos hf, gt_iff_lt]
    rfl
  · exact ownsMap_keep h.map hk (Ne.symm h.ne)
theorem callPost_stays {w : World} {g b : Nat} {d : DiskM} (h : DiskAt w g b d) (hf : ¬ -1 < d.fuse) (dn : Bool) (hd : dn = (d.down || d.fuse == 0)) (r : Int) (hr : r = if dn then 5 else 0) :
    CallPost w g b d true (.returned (.int .i64 r)) ((w.setCell ⟨g, 6, none⟩ (.int .i64 (wrap64 (d.calls + 1)))).setCell ⟨g, 5, none⟩ (.bool dn)) := by
  subst hr hd
  have hok := h.ok.call true
  have hk : Keep (fun k => k = g) w ((w.setCell ⟨g, 6, none⟩ (.int .i64 (wrap64 (d.calls + 1)))).setCell ⟨g, 5, none⟩ (.bool (d.down || d.fuse == 0))) :=
    ((Keep.refl (fun k => k = g) w).setCell (.inl rfl) _).setCell (.inl rfl) _
  refine ⟨rfl, ⟨?_, ?_, hok⟩, hk⟩
  · refine (blk_set (blk_set h.blk 6 _) 5 _).trans ?_
    rw [call_true]
    unfold diskCells
    simp only [if_neg hf, gt_iff_lt]
    rfl
  · exact ownsMap_keep h.map hk (Ne.symm h.ne)

set_option maxHeartbeats 1600000 in
theorem fs_call {w : World} {g b : Nat} {d : DiskM} (h : DiskAt w g b d) (may : Bool) :
    Calls Tryz.prog 21 #[.pointer (some ⟨g, 0, none⟩), .bool may] w (CallPost w g b d may) := by
  cases may with
  | false =>
    have fin : CallPost w g b d false (.returned (.int .i64 1)) w := ⟨rfl, h, Keep.refl _ _⟩
    go_enter Tryz.func21, Tryz.ntmps21
    go_wp2_with (go_at_call 20; refine (fs_given h).mono ?_; rintro e w' ⟨rfl, rfl⟩)
    go_ret
    exact fin
  | true =>
    have c4 : w.cell? ⟨g, 4, none⟩ = some (.int .i64 d.fuse) := blk_cell h.blk 4
    have c5 : w.cell? ⟨g, 5, none⟩ = some (.bool d.down) := blk_cell h.blk 5
    have c6 : w.cell? ⟨g, 6, none⟩ = some (.int .i64 d.calls) := blk_cell h.blk 6
    have f4 := blk_free h.blk 4
    have f5 := blk_free h.blk 5
    have f6 := blk_free h.blk 6
    have u0 := h.ok.fuse0
    have u1 := h.ok.fuse1
    have T := callPost_turned h
    have S := callPost_stays h
    generalize CallPost w g b d true = R at T S ⊢
    obtain ⟨dr, du, ds, df, dd, dc⟩ := d
    simp only at c4 c5 c6 u0 u1 T S ⊢
    have HT := Lib.hid T
    have HS := Lib.hid S
    clear T S
    have hg := fs_given h
    have HG := Lib.hid hg
    clear hg h
    by_cases hf : -1 < df
    · cases dd with
      | true =>
        go_enter Tryz.func21, Tryz.ntmps21
        go_wp2_with (go_at_call 20; refine HG.out.mono ?_; rintro e w' ⟨rfl, rfl⟩)
        (try go_ret)
        exact HT.out hf true rfl _ rfl
      | false =>
        by_cases h0 : df = 0
        · have hb : (df == 0) = true := by simp [h0]
          clear h0
          go_enter Tryz.func21, Tryz.ntmps21
          go_wp2_with (go_at_call 20; refine HG.out.mono ?_; rintro e w' ⟨rfl, rfl⟩)
          (try go_ret)
          exact HT.out hf true (by rw [hb]; rfl) _ rfl
        · have hb : (df == 0) = false := by simp [h0]
          clear h0
          go_enter Tryz.func21, Tryz.ntmps21
          go_wp2_with (go_at_call 20; refine HG.out.mono ?_; rintro e w' ⟨rfl, rfl⟩)
          (try go_ret)
          exact HT.out hf false (by rw [hb]; rfl) _ rfl
    · have hb : (df == 0) = false := by simp; omega
      cases dd with
      | true =>
        go_enter Tryz.func21, Tryz.ntmps21
        go_wp2_with (go_at_call 20; refine HG.out.mono ?_; rintro e w' ⟨rfl, rfl⟩)
        (try go_ret)
        exact HS.out hf true rfl _ rfl
      | false =>
        go_enter Tryz.func21, Tryz.ntmps21
        go_wp2_with (go_at_call 20; refine HG.out.mono ?_; rintro e w' ⟨rfl, rfl⟩)
        (try go_ret)
        exact HS.out hf false (by rw [hb]; rfl) _ rfl
end Go.Proofs.YtffjnilmpeihiaaGreatDoor
