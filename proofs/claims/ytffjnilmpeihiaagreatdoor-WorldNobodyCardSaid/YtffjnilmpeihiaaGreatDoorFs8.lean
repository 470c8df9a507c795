/- A file is given another name. -/
import Derived.Test.YtffjnilmpeihiaaGreatDoorFs7
set_option linter.unusedVariables false
set_option linter.unusedSimpArgs false
namespace Go.Proofs.YtffjnilmpeihiaaGreatDoor
open Go Go.RowKit Go.Maps

theorem rename_err {d d1 : DiskM} {a c : List UInt8} {f : FileM} {r : Int} (h : d.find a (rightB c) = (f, r, d1)) (h2 : r ≠ 0) : d.rename a c = (r, d1) := by
  unfold DiskM.rename; rw [h]; simp [h2]
theorem rename_same {d d1 : DiskM} {a c : List UInt8} {f : FileM} (h : d.find a (rightB c) = (f, 0, d1)) (h2 : a = c) : d.rename a c = (0, d1) := by
  unfold DiskM.rename; rw [h]; simp [h2]
theorem rename_ok {d d1 : DiskM} {a c : List UInt8} {f : FileM} (h : d.find a (rightB c) = (f, 0, d1)) (h2 : a ≠ c) :
    d.rename a c = (0, { ((d1.drop c).drop a) with fs := putF ((d1.drop c).drop a).fs c f, used := ((d1.drop c).drop a).used + f.s.size }) := by
  unfold DiskM.rename; rw [h]; simp [h2]

theorem data_ne {s t : ByteArray} (h : s ≠ t) : s.data.toList ≠ t.data.toList := fun e => h (by
  cases s; cases t
  congr 1
  exact Array.ext' e)

set_option maxRecDepth 100000 in
set_option maxHeartbeats 3200000 in
theorem fs_rename {w : World} {g b : Nat} {d : DiskM} (h : DiskAt w g b d) (s t : ByteArray) (hs : s.size ≤ 9223372036854775807) (ht : t.size ≤ 9223372036854775807) :
    Calls Tryz.prog 120 #[.pointer (some ⟨g, 0, none⟩), .string s, .string t] w (OpPost w g b (d.rename s.data.toList t.data.toList).1 (d.rename s.data.toList t.data.toList).2) := by
  have hok := h.ok.rename s.data.toList t.data.toList
  have hgw := h.lt
  rcases hF : d.find s.data.toList (rightB t.data.toList) with ⟨⟨ft, fk⟩, r, d1⟩
  have HF := Lib.hid hF
  by_cases h2 : r = 0
  · subst h2
    by_cases h3 : s = t
    · rw [rename_same hF (by rw [h3])]
      have hst : (s.toList == t.toList) = true := by rw [h3]; simp
      clear hF hok h3
      go_enter Tryz.func120, Tryz.ntmps120
      go_wp2_with fail
      refine (fs_right t _ ht).mono ?_
      rintro e w0 ⟨rfl, hb0⟩
      go_wp2_with fail
      refine (fs_find (h.below hb0) s hs _).mono ?_
      rintro e w1 ⟨he, hd, hk⟩
      rw [HF.out] at he hd
      subst he
      have hk1 := (Keep.of_below (S := fun k => k = g) hb0).trans hk (fun _ h => .inl h)
      go_wp2_with fail
      (try go_ret)
      refine opPost_same rfl rfl hd hk1 ?_
      (repeat (first | exact Keep.refl _ _ | assumption | refine Keep.alloc ?_ _ | refine Keep.drew ?_ | refine Keep.drewN ?_ _ | (refine Keep.setCell ?_ ?_ _; rotate_left; first | exact Or.inl rfl | exact Or.inl (Or.inl rfl) | exact Or.inl (Or.inr rfl) | (simp; omega))))
    · rw [rename_ok hF (data_ne h3)] at hok ⊢
      have hst : (s.toList == t.toList) = false := by rw [ByteArray.toList_eq, ByteArray.toList_eq]; simpa using data_ne h3
      have hok' := Lib.hid hok
      clear hF hok h3
      go_enter Tryz.func120, Tryz.ntmps120
      go_wp2_with fail
      refine (fs_right t _ ht).mono ?_
      rintro e w0 ⟨rfl, hb0⟩
      go_wp2_with fail
      refine (fs_find (h.below hb0) s hs _).mono ?_
      rintro e w1 ⟨he, hd, hk⟩
      rw [HF.out] at he hd
      subst he
      have hk1 := (Keep.of_below (S := fun k => k = g) hb0).trans hk (fun _ h => .inl h)
      have hsz1 := hk1.size
      go_wp2_with fail
      generalize hWa : w1.alloc _ = wa
      have hda : DiskAt wa g b d1 := by rw [← hWa]; exact hd.alloc _
      have hka : Keep (fun k => k = g ∨ k = b ∨ w.heap.size ≤ k) w wa := by rw [← hWa]; exact (hk1.mono (fun k h => .inl (.inl h))).alloc _
      have hza : wa.heap[w1.heap.size]? = some (.cells #[.string ft, .int .i64 fk] 57 (0, 0)) := by rw [← hWa]; exact heap_alloc_new w1 _
      have hgz := hd.lt
      have hbz := hd.ltb
      clear hWa
      generalize w1.heap.size = z at *
      refine (fs_drop hda t ht).mono ?_
      rintro e w2 ⟨rfl, hd2, hk2⟩
      have hka2 := hka.trans hk2 (fun k h => .inl (h.elim .inl (fun h => .inr (.inl h))))
      have hz2 := hk2.blk hza (by omega)
      go_wp2_with fail
      refine (fs_drop hd2 s hs).mono ?_
      rintro e w3 ⟨rfl, hd3, hk3⟩
      have hka3 := hka2.trans hk3 (fun k h => .inl (h.elim .inl (fun h => .inr (.inl h))))
      have hz3 := hk3.blk hz2 (by omega)
      go_wp2_with fail
      clear hka hka2 hz2 hza hda hd2 hk1 hk2 hk3 hd
      refine region_tail 6 (by kernel_rfl) (by kernel_rfl) fun wd hdr => ?_
      simp only [List.take_succ_cons, List.take_zero, List.drop_succ_cons, List.drop_zero]
      have hdd := hd3.drawn hdr
      have hkd := hdr.keep hka3
      have hzd := hdr.blk hz3
      clear hd3 hka3 hz3 hdr
      have c3 : wd.cell? ⟨g, 3, none⟩ = some (.map (some b)) := blk_cell hdd.blk 3
      have z0 : wd.cell? ⟨z, 0, none⟩ = some (.string ft) := blk_cell hzd 0
      have z1 : wd.cell? ⟨z, 1, none⟩ = some (.int .i64 fk) := blk_cell hzd 1
      have hfew := hdd.ok.few
      have hgb := hdd.ne
      repeat still_step
      refine wpStill_nil ?_
      go_wp2_with (first
        | (at_mapUpdate; refine wpList_put_file _ rfl _ _ _ rfl b _ ((d1.drop t.data.toList).drop s.data.toList).fs t ft fk rfl hdd.map (by unfold maxLen; omega) rfl ht rfl ?_; intro w4 hown4 hturn4))
      have hkm := keep_map hturn4
      have hb4 := hkm.blk hdd.blk hgb
      have hz4 := hkm.blk hzd (by omega)
      have hk4 := hkd.trans hkm (fun k e => .inl (.inr (.inl e)))
      have u0 := hdd.ok.used0
      have u1 := hdd.ok.used1
      have u2 := hdd.ok.room1
      have v0 := hok'.out.used1
      have v1 := hok'.out.room1
      simp only at v0 v1
      clear hdd hkd hzd hturn4 z0 z1 c3
      obtain ⟨u, hu⟩ : ∃ u, u = ((d1.drop t.data.toList).drop s.data.toList).used := ⟨_, rfl⟩
      have hb4' : w4.heap[g]? = some (.cells #[.bool true, .int .i64 ((d1.drop t.data.toList).drop s.data.toList).room, .int .i64 u, .map (some b), .int .i64 ((d1.drop t.data.toList).drop s.data.toList).fuse, .bool ((d1.drop t.data.toList).drop s.data.toList).down, .int .i64 ((d1.drop t.data.toList).drop s.data.toList).calls] 62 (0, 0)) := by rw [hu]; exact hb4
      rw [← hu] at u0 u1 v0
      refine region_tail 10 (by kernel_rfl) (by kernel_rfl) fun we hdr => ?_
      simp only [List.take_succ_cons, List.take_zero, List.drop_succ_cons, List.drop_zero]
      have hbe := hdr.blk hb4'
      have hze := hdr.blk hz4
      have hke := hdr.keep hk4
      have hme := ownsMap_keep hown4 (Keep.of_below (S := fun _ => False) hdr.below) id
      have HU := Lib.hid hu
      clear hb4 hb4' hz4 hk4 hown4 hu hdr
      have c2 : we.cell? ⟨g, 2, none⟩ = some (.int .i64 u) := blk_cell hbe 2
      have f2 := blk_free hbe 2
      have z0 : we.cell? ⟨z, 0, none⟩ = some (.string ft) := blk_cell hze 0
      repeat still_step
      refine wpStill_nil ?_
      go_wp2_with fail
      (try go_ret)
      refine ⟨rfl, ⟨?_, hme.setCell (Ne.symm hgb) _, hok'.out⟩, ?_⟩
      · refine (blk_set hbe 2 _).trans ?_
        rw [HU.out]
        rfl
      · exact (hke.setCell (.inl (.inl rfl)) _).mono (fun k h => h.elim (fun h => .inl (.inl h)) fun h => h.elim (fun h => .inl (.inr h)) .inr)
  · rw [rename_err hF h2]
    have n0 : (r != 0) = true := by simpa using h2
    clear hF hok h2
    go_enter Tryz.func120, Tryz.ntmps120
    go_wp2_with fail
    refine (fs_right t _ ht).mono ?_
    rintro e w0 ⟨rfl, hb0⟩
    go_wp2_with fail
    refine (fs_find (h.below hb0) s hs _).mono ?_
    rintro e w1 ⟨he, hd, hk⟩
    rw [HF.out] at he hd
    subst he
    have hk1 := (Keep.of_below (S := fun k => k = g) hb0).trans hk (fun _ h => .inl h)
    go_wp2_with fail
    (try go_ret)
    refine opPost_same rfl rfl hd hk1 ?_
    (repeat (first | exact Keep.refl _ _ | assumption | refine Keep.alloc ?_ _ | refine Keep.drew ?_ | refine Keep.drewN ?_ _ | (refine Keep.setCell ?_ ?_ _; rotate_left; first | exact Or.inl rfl | exact Or.inl (Or.inl rfl) | exact Or.inl (Or.inr rfl) | (simp; omega))))
end Go.Proofs.YtffjnilmpeihiaaGreatDoor
