/- A disk all of whose files are kept rises: it is up, and no fall is armed. -/
import Derived.Test.YtffjnilmpeihiaaGreatDoorFs10
import Derived.LoopTactic
import Derived.Lib.SmallJoins
set_option linter.unusedVariables false
set_option linter.unusedSimpArgs false
namespace Go.Proofs.YtffjnilmpeihiaaGreatDoor
open Go Go.RowKit Go.Maps Go.Shelf

theorem putF_same {k : List UInt8} {f : FileM} {fs : FilesM} (ho : fs.Pairwise fun p q => bytesBefore p.1 q.1 = true) (h : getF fs k = some f) : putF fs k f = fs := by
  have hm := mem_of_getF h
  rw [putF_map ho ⟨f, hm⟩]
  conv => rhs; rw [← List.map_id fs]
  refine List.map_congr_left fun p hp => ?_
  split
  · rename_i e
    have h2 := getF_of_mem ho (k := p.1) (f := p.2) hp
    rw [e, h] at h2
    have : f = p.2 := by simpa using h2
    subst this
    rw [← e]
    rfl
  · rfl
def RisePost (w : World) (g b : Nat) (d : DiskM) (e : Ending) (w' : World) : Prop := e = .returned (.tuple #[]) ∧ DiskAt w' g b d ∧ Keep (fun k => k = g ∨ k = b ∨ w.heap.size ≤ k) w w'
theorem Ok.risen {d : DiskM} (h : d.Ok) : DiskM.Ok { d with fuse := -1, down := false } :=
  ⟨h.room0, h.room1, h.used0, h.used1, Int.le_refl (-1 : Int), by show (-1 : Int) ≤ _; omega, h.calls0, h.calls1, h.sum, h.kept, h.names, h.few, h.order⟩

set_option maxRecDepth 100000 in
set_option maxHeartbeats 3200000 in
theorem fs_rise_kept {w : World} {g b : Nat} {d : DiskM} (h : DiskAt w g b d) (h0 : 0 < d.fs.length) (hkept : ∀ p ∈ d.fs, p.2.kept = p.2.s.size) (kb cap : Nat) (hkg : kb ≠ g) (hkb : kb ≠ b)
    (hkeep : ∀ i, i < 200 → w.cell? ⟨kb, i, none⟩ = some (.int .i64 16777216)) :
    Calls Tryz.prog 18 #[.pointer (some ⟨g, 0, none⟩), .slice (some ⟨kb, 0, none⟩) 200 cap] w (RisePost w g b { d with fuse := -1, down := false }) := by
  have HG := Lib.hid (fs_given h)
  have hlt := h.lt
  have hltb := h.ltb
  have hkbl : kb < w.heap.size := World.block_lt_of_cell? w _ (hkeep 0 (by omega))
  have HK := Lib.hid hkept
  have HKE := Lib.hid hkeep
  clear hkept hkeep
  go_enter Tryz.func18, Tryz.ntmps18
  go_wp2_with (go_at_call 20; refine HG.out.mono ?_; rintro e w' ⟨rfl, rfl⟩)
  refine (fs_names h).mono ?_
  rintro e w2 ⟨v, rfl, hrow, _, hb2⟩
  have hlen : (namesF d.fs).length = d.fs.length := by unfold namesF; rw [List.length_map]
  rw [hlen] at hrow
  obtain ⟨nb, ncap, rfl⟩ := Joins.ownsRow_form hrow h0
  have hnm : ∀ k, k < d.fs.length → ∃ nm : List UInt8, nm ∈ namesF d.fs ∧ w2.cell? ⟨nb, k, none⟩ = some (.string ⟨nm.toArray⟩) := by
    intro k hk
    have hk' : k < (namesF d.fs).length := by omega
    refine ⟨(namesF d.fs)[k], List.getElem_mem _, ?_⟩
    rw [hrow.cellAt k (by omega), List.getElem?_map, List.getElem?_eq_getElem hk']
    rfl
  have hnb : w.heap.size ≤ nb := (hrow.lt nb rfl).1
  have hnbl : nb < w2.heap.size := (hrow.lt nb rfl).2
  have hd2 := h.below hb2
  have hw2 := hb2.size
  have HNM := Lib.hid hnm
  have HB2 := Lib.hid hb2
  clear hnm hrow hlen hb2 h
  have hfew := hd2.ok.few
  generalize hn : d.fs.length = n at *
  have hroom := hd2.ok.room1
  go_wp2_with (fail)
  go_loopw [14] (fun i wr => ∃ k : Nat, k ≤ n ∧ i = .int .i64 k ∧ DiskAt wr g b d ∧ Keep (fun j => j = g ∨ j = b ∨ w2.heap.size ≤ j) w2 wr) (fun i _ => n - (intOf i).toNat)
  case atStart => exact ⟨0, Nat.zero_le _, rfl, hd2, Keep.refl _ _⟩
  case round =>
    obtain ⟨k, hk, rfl, hdr, hkr⟩ := hrel
    by_cases hlk : k < n
    · obtain ⟨nm, hmem, hc⟩ := HNM.out k hlk
      have hcr : wr.cell? ⟨nb, k, none⟩ = some (.string ⟨nm.toArray⟩) := hkr.cell hc (by simp; omega)
      obtain ⟨⟨ft, fk⟩, hf⟩ := getF_of_names hmem
      have hkk := HK.out _ (mem_of_getF hf)
      simp only at hkk
      subst hkk
      have hsz := getF_size_le hdr.ok.order hf
      have hsum := hdr.ok.sum'
      have hnl := hdr.ok.names _ (mem_of_getF hf)
      simp only at hnl hsz
      have hnl2 : nm.length ≤ 24 := by
        unfold rightB at hnl
        simp only [Bool.and_eq_true, decide_eq_true_eq] at hnl
        exact hnl.2
      have hu0 := hdr.ok.used0
      have hu1 := hdr.ok.used1
      have hfa : fileAt d.fs nm = ⟨ft, ft.size⟩ := fileAt_of hf
      have hput := putF_same hdr.ok.order hf
      have c3 : wr.cell? ⟨g, 3, none⟩ = some (.map (some b)) := blk_cell hdr.blk 3
      have hns : (ByteArray.mk nm.toArray).size ≤ 9223372036854775807 := by show nm.toArray.size ≤ _; simp; omega
      have hl := look_file1 hdr.map ⟨nm.toArray⟩ hns
      have hfa' : fileAt d.fs (ByteArray.mk nm.toArray).data.toList = ⟨ft, ft.size⟩ := hfa
      rw [hfa'] at hl
      have hwz := hkr.size
      have klt : ((k : Int) < 200) = True := by simp; omega
      have hfu : (ft.size : Int) ≤ d.used := by omega
      have HP := Lib.hid hput
      have HF := Lib.hid hf
      clear hput hf hmem hfa hfa' hnl hc hsum hsz
      have hext : ft.extract 0 ft.size = ft := by
        apply ByteArray.ext
        rw [ByteArray.data_extract]
        exact Array.extract_size
      have hw0 : IntKind.i64.wrap (ft.size : Int) = ft.size := IntWalk.i64_in _ (by omega)
      have hwu : IntKind.i64.wrap d.used = d.used := IntWalk.i64_in _ (by omega)
      go_upto_region 6 with (fail)
      generalize hWa : wr.alloc _ = wa
      have hda : DiskAt wa g b d := by rw [← hWa]; exact hdr.alloc _
      have hka : Keep (fun j => j = g ∨ j = b ∨ w2.heap.size ≤ j) w2 wa := by rw [← hWa]; exact hkr.alloc _
      have hza : wa.heap[wr.heap.size]? = some (.cells #[.string ft, .int .i64 ft.size] 57 (0, 0)) := by rw [← hWa]; exact heap_alloc_new wr _
      clear hWa hdr hkr hl c3 hcr
      generalize wr.heap.size = z at *
      refine region_still (by kernel_rfl) (by kernel_rfl) fun wd hdr => ?_
      have hd3 := hda.drawn hdr
      have hk3 := hdr.keep hka
      have hz3 := hdr.blk hza
      clear hda hka hza hdr
      have z0 : wd.cell? ⟨z, 0, none⟩ = some (.string ft) := blk_cell hz3 0
      have z1 : wd.cell? ⟨z, 1, none⟩ = some (.int .i64 ft.size) := blk_cell hz3 1
      have y1 := blk_free hz3 1
      have kc : wd.cell? ⟨kb, k, none⟩ = some (.int .i64 16777216) := hk3.cell ((HB2.out.cell (p := ⟨kb, k, none⟩) hkbl).trans (HKE.out k (by omega))) (by simp; omega)
      have HZ3 := Lib.hid hz3
      have HD3 := Lib.hid hd3
      have HK3 := Lib.hid hk3
      clear hz3 hd3 hk3
      repeat still_step
      refine wpStill_nil ?_
      go_upto_region 7 with (fail)
      rw [show max 0 (min 16777216 (IntKind.i64.wrap 0)) = (0 : Int) by decide]
      go_upto_region 8 with (fail)
      have hz4 : (wd.setCell ⟨z, 1, none⟩ (.int .i64 ft.size)).heap[z]? = some (.cells #[.string ft, .int .i64 ft.size] 57 (0, 0)) := (blk_set HZ3.out 1 _).trans rfl
      have hk4 : Keep (fun j => j = g ∨ j = b ∨ w2.heap.size ≤ j) w2 (wd.setCell ⟨z, 1, none⟩ (.int .i64 ft.size)) := HK3.out.trans ((Keep.refl (fun j => j = z) wd).setCell (.inl rfl) _) (fun j e => .inl (.inr (.inr (by omega))))
      have hd4 : DiskAt (wd.setCell ⟨z, 1, none⟩ (.int .i64 ft.size)) g b d := HD3.out.keep ((Keep.refl (fun j => j = z) wd).setCell (.inl rfl) _) (by omega) (by omega)
      generalize wd.setCell ⟨z, 1, none⟩ (.int .i64 ft.size) = wb at *
      refine region_tail 13 (by kernel_rfl) (by kernel_rfl) fun we hdr => ?_
      simp only [List.take_succ_cons, List.take_zero, List.drop_succ_cons, List.drop_zero]
      have hd5 := hd4.drawn hdr
      have hk5 := hdr.keep hk4
      have hz5 := hdr.blk hz4
      clear hd4 hk4 hz4 hdr z0 z1 y1 kc HZ3 HK3 HD3
      have e2 : we.cell? ⟨g, 2, none⟩ = some (.int .i64 d.used) := blk_cell hd5.blk 2
      have x2 := blk_free hd5.blk 2
      have e0 : we.cell? ⟨z, 0, none⟩ = some (.string ft) := blk_cell hz5 0
      have e1 : we.cell? ⟨z, 1, none⟩ = some (.int .i64 ft.size) := blk_cell hz5 1
      have HZ5 := Lib.hid hz5
      have HD5 := Lib.hid hd5
      have HK5 := Lib.hid hk5
      clear hz5 hd5 hk5
      repeat still_step
      refine wpStill_nil ?_
      go_upto_region 9 with (fail)
      rw [show IntKind.i64.wrap 0 = 0 by decide, Int.sub_zero, hwu]
      have hz6 : (we.setCell ⟨g, 2, none⟩ (.int .i64 d.used)).heap[z]? = some (.cells #[.string ft, .int .i64 ft.size] 57 (0, 0)) := blk_other HZ5.out (by simp; omega) _
      have hk6 : Keep (fun j => j = g ∨ j = b ∨ w2.heap.size ≤ j) w2 (we.setCell ⟨g, 2, none⟩ (.int .i64 d.used)) := HK5.out.setCell (.inl (.inl rfl)) _
      have hd6 : DiskAt (we.setCell ⟨g, 2, none⟩ (.int .i64 d.used)) g b d := ⟨(blk_set HD5.out.blk 2 _).trans rfl, ownsMap_keep HD5.out.map ((Keep.refl (fun j => j = g) we).setCell (.inl rfl) _) (Ne.symm HD5.out.ne), HD5.out.ok⟩
      generalize we.setCell ⟨g, 2, none⟩ (.int .i64 d.used) = wf at *
      clear e2 x2 e0 e1 HZ5 HD5 HK5
      have e0 : wf.cell? ⟨z, 0, none⟩ = some (.string ft) := blk_cell hz6 0
      have e1 : wf.cell? ⟨z, 1, none⟩ = some (.int .i64 ft.size) := blk_cell hz6 1
      have x0 := blk_free hz6 0
      have HZ6 := Lib.hid hz6
      have HD6 := Lib.hid hd6
      have HK6 := Lib.hid hk6
      clear hz6 hd6 hk6
      go_upto_region 10 with (fail)
      have hz4 : (wf.setCell ⟨z, 0, none⟩ (.string ft)).heap[z]? = some (.cells #[.string ft, .int .i64 ft.size] 57 (0, 0)) := (blk_set HZ6.out 0 _).trans rfl
      have hk4 : Keep (fun j => j = g ∨ j = b ∨ w2.heap.size ≤ j) w2 (wf.setCell ⟨z, 0, none⟩ (.string ft)) := HK6.out.trans ((Keep.refl (fun j => j = z) wf).setCell (.inl rfl) _) (fun j e => .inl (.inr (.inr (by omega))))
      have hd4 : DiskAt (wf.setCell ⟨z, 0, none⟩ (.string ft)) g b d := HD6.out.keep ((Keep.refl (fun j => j = z) wf).setCell (.inl rfl) _) (by omega) (by omega)
      generalize wf.setCell ⟨z, 0, none⟩ (.string ft) = wg at *
      refine region_tail 6 (by kernel_rfl) (by kernel_rfl) fun wh hdr => ?_
      simp only [List.take_succ_cons, List.take_zero, List.drop_succ_cons, List.drop_zero]
      have hd5 := hd4.drawn hdr
      have hk5 := hdr.keep hk4
      have hz5 := hdr.blk hz4
      clear hd4 hk4 hz4 hdr e0 e1 x0 HZ6 HK6 HD6
      have e3 : wh.cell? ⟨g, 3, none⟩ = some (.map (some b)) := blk_cell hd5.blk 3
      have e0 : wh.cell? ⟨z, 0, none⟩ = some (.string ft) := blk_cell hz5 0
      have e1 : wh.cell? ⟨z, 1, none⟩ = some (.int .i64 ft.size) := blk_cell hz5 1
      have HD5 := Lib.hid hd5
      have HK5 := Lib.hid hk5
      clear hz5 hd5 hk5
      repeat still_step
      refine wpStill_nil ?_
      go_wp2_with (first
        | (at_mapUpdate; refine wpList_put_file _ rfl _ _ _ rfl b _ d.fs ⟨nm.toArray⟩ ft ft.size rfl HD5.out.map (by unfold maxLen; omega) rfl hns rfl ?_; intro w3 hown3 hturn3))
      go_roundw
      case rel =>
        have hP : putF d.fs (ByteArray.mk nm.toArray).data.toList ⟨ft, ft.size⟩ = d.fs := HP.out
        rw [hP] at hown3
        have hkm := keep_map hturn3
        exact ⟨k + 1, by omega, by go_num, ⟨hkm.blk HD5.out.blk HD5.out.ne, hown3, HD5.out.ok⟩, HK5.out.trans hkm (fun j e => .inl (.inr (.inl e)))⟩
      case measure => simp [intOf]; omega
    · have HDR := Lib.hid hdr
      have HKR := Lib.hid hkr
      have x4 := blk_free hdr.blk 4
      have x5 := blk_free hdr.blk 5
      have c4 : wr.cell? ⟨g, 4, none⟩ = some (.int .i64 d.fuse) := blk_cell hdr.blk 4
      have c5 : wr.cell? ⟨g, 5, none⟩ = some (.bool d.down) := blk_cell hdr.blk 5
      clear hdr hkr
      go_wp2_with (fail)
      (try go_end0)
      have hkk := ((Keep.refl (fun j => j = g) wr).setCell (p := ⟨g, 4, none⟩) (.inl rfl) (.int .i64 (-1))).setCell (p := ⟨g, 5, none⟩) (.inl rfl) (.bool false)
      refine ⟨rfl, ⟨(blk_set (blk_set HDR.out.blk 4 _) 5 _).trans rfl, ownsMap_keep HDR.out.map hkk (Ne.symm HDR.out.ne), Ok.risen HDR.out.ok⟩, ?_⟩
      refine ((Keep.of_below HB2.out).trans (HKR.out.trans hkk (fun j e => .inl (.inl e))) (fun j e => ?_))
      rcases e with e | e | e
      · exact .inl (.inl e)
      · exact .inl (.inr (.inl e))
      · exact .inl (.inr (.inr (by omega)))
end Go.Proofs.YtffjnilmpeihiaaGreatDoor
