/- Bytes are put behind a file's. -/
import Derived.Test.YtffjnilmpeihiaaGreatDoorFs4
set_option linter.unusedVariables false
set_option linter.unusedSimpArgs false
namespace Go.Proofs.YtffjnilmpeihiaaGreatDoor
open Go Go.RowKit Go.Maps

theorem append_err {d d1 : DiskM} {name : List UInt8} {s : ByteArray} {f : FileM} {r : Int} (h : d.find name true = (f, r, d1)) (h2 : r ≠ 0) : d.append name s = (r, d1) := by
  unfold DiskM.append; rw [h]; simp [h2]
theorem append_full {d d1 : DiskM} {name : List UInt8} {s : ByteArray} {f : FileM} (h : d.find name true = (f, 0, d1)) (h2 : d1.room - d1.used < s.size) : d.append name s = (4, d1) := by
  unfold DiskM.append; rw [h]; simp [h2]
theorem append_ok {d d1 : DiskM} {name : List UInt8} {s : ByteArray} {f : FileM} (h : d.find name true = (f, 0, d1)) (h2 : ¬ d1.room - d1.used < s.size) :
    d.append name s = (0, { d1 with fs := putF d1.fs name ⟨f.s ++ s, f.kept⟩, used := d1.used + s.size }) := by
  unfold DiskM.append; rw [h]; simp [h2]

theorem appendPost_end {w w1 w2 : World} {g b : Nat} {d1 d' : DiskM} {fs' : FilesM} {u : Int} (hd : DiskAt w1 g b d1) (hk : Keep (fun k => k = g ∨ w.heap.size ≤ k) w w1) (hok : d'.Ok) (hd' : d' = { d1 with fs := fs', used := u })
    (hm : w2.ownsMap Tryz.prog 9 fileR b fs'.length (filesD fs')) (ht : w1.mapTurned w2 b) :
    OpPost w g b 0 d' (.returned (.int .i64 0)) (w2.setCell ⟨g, 2, none⟩ (.int .i64 u)) := by
  subst hd'
  have hkm := keep_map ht
  have hb := hkm.blk hd.blk hd.ne
  refine ⟨rfl, ⟨blk_set hb 2 _, hm.setCell (Ne.symm hd.ne) _, hok⟩, ?_⟩
  have h1 : Keep (fun k => k = g ∨ k = b) w w1 := hk.mono (fun k h => h.elim (fun h => .inl (.inl h)) .inr)
  exact (h1.trans hkm (fun k e => .inl (.inr e))).setCell (.inl (.inl rfl)) _

set_option maxRecDepth 100000 in
set_option maxHeartbeats 1600000 in
theorem fs_append {w : World} {g b : Nat} {d : DiskM} (h : DiskAt w g b d) (name s : ByteArray) (hn : name.size ≤ 9223372036854775807) (hs : s.size ≤ 9223372036854775807) :
    Calls Tryz.prog 36 #[.pointer (some ⟨g, 0, none⟩), .string name, .string s] w (OpPost w g b (d.append name.data.toList s).1 (d.append name.data.toList s).2) := by
  have hok := h.ok.append name.data.toList s
  rcases hF : d.find name.data.toList true with ⟨⟨ft, fk⟩, r, d1⟩
  have HF := Lib.hid hF
  have hgw := h.lt
  by_cases h2 : r = 0
  · subst h2
    have hg1 := DiskM.find_ok (d := d) (name := name.data.toList) (may := true) (by rw [hF])
    have hff := DiskM.find_fs d name.data.toList true
    rw [hF] at hg1 hff
    have hft : (ft.size : Int) ≤ d1.used := by
      have ho1 := h.ok.find name.data.toList true
      rw [hF] at ho1
      rw [ho1.sum']
      exact getF_size_le ho1.order (k := name.data.toList) (f := ⟨ft, fk⟩) (by rw [hff]; exact hg1.2.2)
    by_cases h3 : d1.room - d1.used < s.size
    · have hc := append_full (s := s) hF h3
      rw [hc]
      have h3' : decide (d1.room - d1.used < (s.size : Int)) = true := by simpa using h3
      clear hF hc hok hg1 hff
      go_enter Tryz.func36, Tryz.ntmps36
      go_wp2_with fail
      refine (fs_find h name hn true).mono ?_
      rintro e w1 ⟨he, hd, hk⟩
      rw [HF.out] at he hd
      subst he
      go_wp2_with fail
      generalize hWa : w1.alloc _ = wa
      have hda : DiskAt wa g b d1 := by rw [← hWa]; exact hd.alloc _
      have hka : Keep (fun k => k = g) w wa := by rw [← hWa]; exact hk.alloc _
      clear hWa
      refine wp_region_still_lit (by kernel_rfl) (by kernel_rfl) ?_
      generalize hWb : ({ wa with drawn := wa.drawn + 1 } : World) = wb
      have hdb : DiskAt wb g b d1 := by rw [← hWb]; exact hda.drew
      have hkb : Keep (fun k => k = g) w wb := by rw [← hWb]; exact hka.drew
      clear hWb
      have c1 : wb.cell? ⟨g, 1, none⟩ = some (.int .i64 d1.room) := blk_cell hdb.blk 1
      have c2 : wb.cell? ⟨g, 2, none⟩ = some (.int .i64 d1.used) := blk_cell hdb.blk 2
      have u0 := hdb.ok.used0
      have u1 := hdb.ok.used1
      have u2 := hdb.ok.room1
      have hwr : IntKind.i64.wrap (d1.room - d1.used) = d1.room - d1.used := IntWalk.i64_in _ (by omega)
      repeat still_step
      refine wpStill_nil ?_
      go_wp2_with fail
      (try go_ret)
      refine opPost_same rfl rfl hdb hkb (Keep.refl _ _)
    · have hc := append_ok (s := s) hF h3
      rw [hc] at hok ⊢
      have h3' : decide (d1.room - d1.used < (s.size : Int)) = false := by simpa using h3
      have hok' := Lib.hid hok
      clear hF hc hok hg1 hff
      go_enter Tryz.func36, Tryz.ntmps36
      go_wp2_with fail
      refine (fs_find h name hn true).mono ?_
      rintro e w1 ⟨he, hd, hk⟩
      rw [HF.out] at he hd
      subst he
      have hgz := hd.lt
      have hbz := hd.ltb
      have hw1 := hk.size
      go_wp2_with fail
      generalize hWa : w1.alloc _ = wa
      have hda : DiskAt wa g b d1 := by rw [← hWa]; exact hd.alloc _
      have hka : Keep (fun k => k = g) w wa := by rw [← hWa]; exact hk.alloc _
      have hza : wa.heap[w1.heap.size]? = some (.cells #[.string ft, .int .i64 fk] 57 (0, 0)) := by rw [← hWa]; exact heap_alloc_new w1 _
      clear hWa
      generalize w1.heap.size = z at *
      refine wp_region_still_lit (by kernel_rfl) (by kernel_rfl) ?_
      generalize hWb : ({ wa with drawn := wa.drawn + 1 } : World) = wb
      have hdb : DiskAt wb g b d1 := by rw [← hWb]; exact hda.drew
      have hkb : Keep (fun k => k = g) w wb := by rw [← hWb]; exact hka.drew
      have hzb : wb.heap[z]? = some (.cells #[.string ft, .int .i64 fk] 57 (0, 0)) := by rw [← hWb]; exact hza
      clear hWb hda hka hza
      have c1 : wb.cell? ⟨g, 1, none⟩ = some (.int .i64 d1.room) := blk_cell hdb.blk 1
      have c2 : wb.cell? ⟨g, 2, none⟩ = some (.int .i64 d1.used) := blk_cell hdb.blk 2
      have z0 : wb.cell? ⟨z, 0, none⟩ = some (.string ft) := blk_cell hzb 0
      have z1 : wb.cell? ⟨z, 1, none⟩ = some (.int .i64 fk) := blk_cell hzb 1
      have y0 := blk_free hzb 0
      have u0 := hdb.ok.used0
      have u1 := hdb.ok.used1
      have u2 := hdb.ok.room1
      have hwr : IntKind.i64.wrap (d1.room - d1.used) = d1.room - d1.used := IntWalk.i64_in _ (by omega)
      repeat still_step
      refine wpStill_nil ?_
      go_wp2_with fail
      have hdc : DiskAt (wb.setCell ⟨z, 0, none⟩ (.string (ft ++ s))) g b d1 := hdb.keep ((Keep.refl (fun k => k = z) wb).setCell (.inl rfl) _) (by omega) (by omega)
      have hkc : Keep (fun k => k = g ∨ w.heap.size ≤ k) w (wb.setCell ⟨z, 0, none⟩ (.string (ft ++ s))) := (hkb.mono (fun k h => .inl (.inl h))).setCell (.inl (.inr hw1)) _
      have hzc : (wb.setCell ⟨z, 0, none⟩ (.string (ft ++ s))).heap[z]? = some (.cells #[.string (ft ++ s), .int .i64 fk] 57 (0, 0)) := blk_set hzb 0 _
      generalize wb.setCell ⟨z, 0, none⟩ (.string (ft ++ s)) = wc at hdc hkc hzc ⊢
      clear c1 c2 z0 z1 y0 hdb hkb hzb hwr
      refine wp_region_still_tail 6 (by kernel_rfl) (by kernel_rfl) ?_
      simp only [List.take_succ_cons, List.take_zero, List.drop_succ_cons, List.drop_zero]
      generalize hWd : ({ wc with drawn := wc.drawn + 1 } : World) = wd
      have hdd : DiskAt wd g b d1 := by rw [← hWd]; exact hdc.drew
      have hkd : Keep (fun k => k = g ∨ w.heap.size ≤ k) w wd := by rw [← hWd]; exact hkc.drew
      have hzd : wd.heap[z]? = some (.cells #[.string (ft ++ s), .int .i64 fk] 57 (0, 0)) := by rw [← hWd]; exact hzc
      clear hWd hdc hkc hzc
      have c3 : wd.cell? ⟨g, 3, none⟩ = some (.map (some b)) := blk_cell hdd.blk 3
      have z0 : wd.cell? ⟨z, 0, none⟩ = some (.string (ft ++ s)) := blk_cell hzd 0
      have z1 : wd.cell? ⟨z, 1, none⟩ = some (.int .i64 fk) := blk_cell hzd 1
      have hfew := hdd.ok.few
      have hgb := hdd.ne
      repeat still_step
      refine wpStill_nil ?_
      go_wp2_with (first
        | (at_mapUpdate; refine wpList_put_file _ rfl _ _ _ rfl b _ d1.fs name (ft ++ s) fk rfl hdd.map (by unfold maxLen; omega) rfl hn rfl ?_; intro w2 hown2 hturn2; have hb2 := (keep_map hturn2).blk hdd.blk hgb; have d2 : w2.cell? ⟨g, 2, none⟩ = some (.int .i64 d1.used) := blk_cell hb2 2; have f2 := blk_free hb2 2))
      (try go_ret)
      exact appendPost_end hdd hkd hok'.out rfl hown2 hturn2
  · have hc := append_err (s := s) hF h2
    rw [hc]
    have n0 : (r != 0) = true := by simpa using h2
    clear hF hc h2 hok
    go_enter Tryz.func36, Tryz.ntmps36
    go_wp2_with fail
    refine (fs_find h name hn true).mono ?_
    rintro e w1 ⟨he, hd, hk⟩
    rw [HF.out] at he hd
    subst he
    go_wp2_with fail
    (try go_ret)
    refine opPost_same rfl rfl hd hk ?_
    (repeat (first | exact Keep.refl _ _ | assumption | refine Keep.alloc ?_ _ | refine Keep.drew ?_ | refine Keep.drewN ?_ _ | (refine Keep.setCell ?_ ?_ _; rotate_left; first | exact Or.inl rfl | exact Or.inl (Or.inl rfl) | exact Or.inl (Or.inr rfl) | (simp; omega))))
end Go.Proofs.YtffjnilmpeihiaaGreatDoor
