/- All of a file is kept; it is removed; it is given another name. -/
import Derived.Test.YtffjnilmpeihiaaGreatDoorFs4
set_option linter.unusedVariables false
set_option linter.unusedSimpArgs false
namespace Go.Proofs.YtffjnilmpeihiaaGreatDoor
open Go Go.RowKit Go.Maps

theorem remove_err {d d1 : DiskM} {name : List UInt8} {f : FileM} {r : Int} (h : d.find name true = (f, r, d1)) (h2 : r ≠ 0) : d.remove name = (r, d1) := by
  unfold DiskM.remove; rw [h]; simp [h2]
theorem remove_ok {d d1 : DiskM} {name : List UInt8} {f : FileM} (h : d.find name true = (f, 0, d1)) : d.remove name = (0, d1.drop name) := by
  unfold DiskM.remove; rw [h]; simp

set_option maxRecDepth 100000 in
set_option maxHeartbeats 1600000 in
theorem fs_remove {w : World} {g b : Nat} {d : DiskM} (h : DiskAt w g b d) (name : ByteArray) (hn : name.size ≤ 9223372036854775807) :
    Calls Tryz.prog 34 #[.pointer (some ⟨g, 0, none⟩), .string name] w (OpPost w g b (d.remove name.data.toList).1 (d.remove name.data.toList).2) := by
  rcases hF : d.find name.data.toList true with ⟨⟨ft, fk⟩, r, d1⟩
  have HF := Lib.hid hF
  by_cases h2 : r = 0
  · subst h2
    rw [remove_ok hF]
    clear hF
    go_enter Tryz.func34, Tryz.ntmps34
    go_wp2_with fail
    refine (fs_find h name hn true).mono ?_
    rintro e w1 ⟨he, hd, hk⟩
    rw [HF.out] at he hd
    subst he
    go_wp2_with fail
    refine (fs_drop (hd.alloc _) name hn).mono ?_
    rintro e w2 ⟨rfl, hd2, hk2⟩
    go_wp2_with fail
    (try go_ret)
    exact ⟨rfl, hd2, ((hk.alloc _).mono (fun k h => .inl (.inl h))).trans hk2 (fun _ h => .inl h)⟩
  · rw [remove_err hF h2]
    have n0 : (r == 0) = false := by simpa using h2
    clear hF h2
    go_enter Tryz.func34, Tryz.ntmps34
    go_wp2_with fail
    refine (fs_find h name hn true).mono ?_
    rintro e w1 ⟨he, hd, hk⟩
    rw [HF.out] at he hd
    subst he
    go_wp2_with fail
    (try go_ret)
    refine opPost_same rfl rfl hd hk ?_
    (repeat (first | exact Keep.refl _ _ | assumption | refine Keep.alloc ?_ _ | refine Keep.drew ?_ | refine Keep.drewN ?_ _ | (refine Keep.setCell ?_ ?_ _; rotate_left; first | exact Or.inl rfl | exact Or.inl (Or.inl rfl) | exact Or.inl (Or.inr rfl) | (simp; omega))))

theorem sync_err {d d1 : DiskM} {name : List UInt8} {f : FileM} {r : Int} (h : d.find name true = (f, r, d1)) (h2 : r ≠ 0) : d.sync name = (r, d1) := by
  unfold DiskM.sync; rw [h]; simp [h2]
theorem sync_ok {d d1 : DiskM} {name : List UInt8} {f : FileM} (h : d.find name true = (f, 0, d1)) : d.sync name = (0, { d1 with fs := putF d1.fs name ⟨f.s, f.s.size⟩ }) := by
  unfold DiskM.sync; rw [h]; simp

set_option maxRecDepth 100000 in
set_option maxHeartbeats 1600000 in
theorem fs_sync {w : World} {g b : Nat} {d : DiskM} (h : DiskAt w g b d) (name : ByteArray) (hn : name.size ≤ 9223372036854775807) :
    Calls Tryz.prog 37 #[.pointer (some ⟨g, 0, none⟩), .string name] w (OpPost w g b (d.sync name.data.toList).1 (d.sync name.data.toList).2) := by
  have hok := h.ok.sync name.data.toList
  rcases hF : d.find name.data.toList true with ⟨⟨ft, fk⟩, r, d1⟩
  have HF := Lib.hid hF
  have hgw := h.lt
  by_cases h2 : r = 0
  · subst h2
    rw [sync_ok hF] at hok ⊢
    have hok' := Lib.hid hok
    clear hF hok
    go_enter Tryz.func37, Tryz.ntmps37
    go_wp2_with fail
    refine (fs_find h name hn true).mono ?_
    rintro e w1 ⟨he, hd, hk⟩
    rw [HF.out] at he hd
    subst he
    have hgz := hd.lt
    have hbz := hd.ltb
    have hw1 := hk.size
    go_wp2_with fail
    generalize hWa : w1.alloc _ = wa
    have hda : DiskAt wa g b d1 := by rw [← hWa]; exact hd.alloc _
    have hka : Keep (fun k => k = g ∨ w.heap.size ≤ k) w wa := by rw [← hWa]; exact (hk.mono (fun k h => .inl (.inl h))).alloc _
    have hza : wa.heap[w1.heap.size]? = some (.cells #[.string ft, .int .i64 ft.size] 57 (0, 0)) := by rw [← hWa]; exact heap_alloc_new w1 _
    clear hWa
    generalize w1.heap.size = z at *
    refine region_tail 6 (by kernel_rfl) (by kernel_rfl) fun wd hdr => ?_
    simp only [List.take_succ_cons, List.take_zero, List.drop_succ_cons, List.drop_zero]
    have hdd := hda.drawn hdr
    have hkd := hdr.keep hka
    have hzd := hdr.blk hza
    clear hda hka hza hdr
    have c3 : wd.cell? ⟨g, 3, none⟩ = some (.map (some b)) := blk_cell hdd.blk 3
    have z0 : wd.cell? ⟨z, 0, none⟩ = some (.string ft) := blk_cell hzd 0
    have z1 : wd.cell? ⟨z, 1, none⟩ = some (.int .i64 ft.size) := blk_cell hzd 1
    have hfew := hdd.ok.few
    have hgb := hdd.ne
    repeat still_step
    refine wpStill_nil ?_
    go_wp2_with (first
      | (at_mapUpdate; refine wpList_put_file _ rfl _ _ _ rfl b _ d1.fs name ft ft.size rfl hdd.map (by unfold maxLen; omega) rfl hn rfl ?_; intro w2 hown2 hturn2))
    (try go_ret)
    have hkm := keep_map hturn2
    refine ⟨rfl, ⟨hkm.blk hdd.blk hgb, hown2, hok'.out⟩, ?_⟩
    exact (hkd.mono (fun k h => h.elim (fun h => .inl (.inl h)) .inr)).trans hkm (fun k e => .inl (.inr e))
  · rw [sync_err hF h2]
    have n0 : (r == 0) = false := by simpa using h2
    clear hF h2 hok
    go_enter Tryz.func37, Tryz.ntmps37
    go_wp2_with fail
    refine (fs_find h name hn true).mono ?_
    rintro e w1 ⟨he, hd, hk⟩
    rw [HF.out] at he hd
    subst he
    go_wp2_with fail
    (try go_ret)
    refine opPost_same rfl rfl hd hk ?_
    (repeat (first | exact Keep.refl _ _ | assumption | refine Keep.alloc ?_ _ | refine Keep.drew ?_ | refine Keep.drewN ?_ _ | (refine Keep.setCell ?_ ?_ _; rotate_left; first | exact Or.inl rfl | exact Or.inl (Or.inl rfl) | exact Or.inl (Or.inr rfl) | (simp; omega))))
end Go.Proofs.YtffjnilmpeihiaaGreatDoor
