/- A file is made; how many bytes it has; a fall is armed. -/
import Derived.Test.YtffjnilmpeihiaaGreatDoorFs2
set_option linter.unusedVariables false
set_option linter.unusedSimpArgs false
namespace Go.Proofs.YtffjnilmpeihiaaGreatDoor
open Go Go.RowKit Go.Maps

/-- What a call that answers an error leaves of a disk. -/
def OpPost (w : World) (g b : Nat) (r : Int) (d : DiskM) (e : Ending) (w' : World) : Prop :=
  e = .returned (.int .i64 r) ∧ DiskAt w' g b d ∧ Keep (fun k => k = g ∨ k = b) w w'

theorem opPost_same {w w1 w2 : World} {g b : Nat} {r r' : Int} {d d' : DiskM} (hr : r' = r) (hd' : d' = d) (hd : DiskAt w1 g b d) (hk : Keep (fun k => k = g) w w1) (hk2 : Keep (fun _ => False) w1 w2) :
    OpPost w g b r' d' (.returned (.int .i64 r)) w2 := by
  subst hr hd'
  exact ⟨rfl, hd.keep hk2 id id, (hk.mono (fun k h => .inl (.inl h))).trans hk2 (fun _ h => h.elim)⟩
theorem opPost_turned {w w1 w3 : World} {g b : Nat} {r r' : Int} {d1 d' : DiskM} (hr : r' = r) (hok : d'.Ok) (hd : DiskAt w1 g b d1) (hk : Keep (fun k => k = g) w w1) (hk2 : Keep (fun k => k = g ∨ k = b ∨ w.heap.size ≤ k) w1 w3)
    (hb : w3.heap[g]? = some (.cells (diskCells d' b) 62 (0, 0))) (hm : w3.ownsMap Tryz.prog 9 fileR b d'.fs.length (filesD d'.fs)) :
    OpPost w g b r' d' (.returned (.int .i64 r)) w3 := by
  subst hr
  exact ⟨rfl, ⟨hb, hm, hok⟩, (hk.mono (fun k h => .inl (.inl h))).trans hk2 (fun k h => h.elim (fun h => .inl (.inl h)) fun h => h.elim (fun h => .inl (.inr h)) .inr)⟩

theorem create_err {d d1 : DiskM} {name : List UInt8} {f : FileM} {r : Int} (h : d.find name true = (f, r, d1)) (h2 : r ≠ 2) (h0 : r ≠ 0) : d.create name = (r, d1) := by
  unfold DiskM.create; rw [h]; simp [h2, h0]
theorem create_there {d d1 : DiskM} {name : List UInt8} {f : FileM} (h : d.find name true = (f, 0, d1)) : d.create name = (3, d1) := by
  unfold DiskM.create; rw [h]; simp
theorem create_full {d d1 : DiskM} {name : List UInt8} {f : FileM} (h : d.find name true = (f, 2, d1)) (h2 : d1.fs.length = 200) : d.create name = (4, d1) := by
  unfold DiskM.create; rw [h]; simp [h2]
theorem create_new {d d1 : DiskM} {name : List UInt8} {f : FileM} (h : d.find name true = (f, 2, d1)) (h2 : d1.fs.length ≠ 200) : d.create name = (0, { d1 with fs := putF d1.fs name ⟨⟨#[]⟩, 0⟩ }) := by
  unfold DiskM.create; rw [h]; simp [h2]; rfl

set_option maxRecDepth 100000 in
set_option maxHeartbeats 1600000 in
theorem fs_create {w : World} {g b : Nat} {d : DiskM} (h : DiskAt w g b d) (s : ByteArray) (hs : s.size ≤ 9223372036854775807) :
    Calls Tryz.prog 35 #[.pointer (some ⟨g, 0, none⟩), .string s] w (OpPost w g b (d.create s.data.toList).1 (d.create s.data.toList).2) := by
  have hok := h.ok.create s.data.toList
  rcases hF : d.find s.data.toList true with ⟨⟨ft, fk⟩, r, d1⟩
  have HF := Lib.hid hF
  by_cases h2 : r = 2
  · subst h2
    by_cases h3 : d1.fs.length = 200
    · have hc := create_full hF h3
      rw [hc]
      have hz : ((Maps.size (filesD d1.fs) : Int) == 200) = true := by rw [filesD_size, h3]; rfl
      clear hF hc h3 hok
      go_enter Tryz.func35, Tryz.ntmps35
      go_wp2_with fail
      refine (fs_find h s hs true).mono ?_
      rintro e w1 ⟨he, hd, hk⟩
      rw [HF.out] at he hd
      subst he
      have d3 : w1.cell? ⟨g, 3, none⟩ = some (.map (some b)) := blk_cell hd.blk 3
      have hlt := hd.lt
      go_wp2_with (at_len; refine wpList_len_own _ rfl _ 60 rfl 9 57 Tryz.underlying60 _ b _ (filesD d1.fs) rfl (hd.alloc _).map ?_)
      (try go_ret)
      refine opPost_same rfl rfl hd hk ?_
      (repeat (first | exact Keep.refl _ _ | assumption | refine Keep.alloc ?_ _ | refine Keep.drew ?_ | refine Keep.drewN ?_ _ | (refine Keep.setCell ?_ ?_ _; rotate_left; first | exact Or.inl rfl | exact Or.inl (Or.inl rfl) | exact Or.inl (Or.inr rfl) | (simp; omega))))
    · have hc := create_new hF h3
      rw [hc] at hok ⊢
      have hz : ((Maps.size (filesD d1.fs) : Int) == 200) = false := by rw [filesD_size]; simp; omega
      clear hF hc h3
      go_enter Tryz.func35, Tryz.ntmps35
      go_wp2_with fail
      refine (fs_find h s hs true).mono ?_
      rintro e w1 ⟨he, hd, hk⟩
      rw [HF.out] at he hd
      subst he
      have d3 : w1.cell? ⟨g, 3, none⟩ = some (.map (some b)) := blk_cell hd.blk 3
      have hlt := hd.lt
      have hne := hd.ne
      have hfew := hd.ok.few
      go_wp2_with (first
        | (at_len; refine wpList_len_own _ rfl _ 60 rfl 9 57 Tryz.underlying60 _ b _ (filesD d1.fs) rfl (hd.alloc _).map ?_)
        | (at_mapUpdate; refine wpList_put_file _ rfl _ _ _ rfl b _ d1.fs s ⟨#[]⟩ 0 rfl (hd.alloc _).map (by unfold maxLen; omega) rfl hs rfl ?_; intro w2 hown2 hturn2))
      (try go_ret)
      have hkm := keep_map hturn2
      refine opPost_turned rfl hok hd hk ?_ (hkm.blk (hd.alloc _).blk hne) hown2
      exact ((Keep.refl (fun k => k = g ∨ k = b ∨ w.heap.size ≤ k) w1).alloc _).trans hkm (fun k e => .inl (.inr (.inl e)))
  · by_cases h0 : r = 0
    · subst h0
      have hc := create_there hF
      rw [hc]
      clear hF hc h2 hok
      go_enter Tryz.func35, Tryz.ntmps35
      go_wp2_with fail
      refine (fs_find h s hs true).mono ?_
      rintro e w1 ⟨he, hd, hk⟩
      rw [HF.out] at he hd
      subst he
      go_wp2_with fail
      (try go_ret)
      refine opPost_same rfl rfl hd hk ?_
      (repeat (first | exact Keep.refl _ _ | assumption | refine Keep.alloc ?_ _ | refine Keep.drew ?_ | refine Keep.drewN ?_ _ | (refine Keep.setCell ?_ ?_ _; rotate_left; first | exact Or.inl rfl | exact Or.inl (Or.inl rfl) | exact Or.inl (Or.inr rfl) | (simp; omega))))
    · have n2 : (r != 2) = true := by simpa using h2
      have n0 : (r == 0) = false := by simpa using h0
      have hc := create_err hF h2 h0
      rw [hc]
      clear hF hc h2 h0 hok
      go_enter Tryz.func35, Tryz.ntmps35
      go_wp2_with fail
      refine (fs_find h s hs true).mono ?_
      rintro e w1 ⟨he, hd, hk⟩
      rw [HF.out] at he hd
      subst he
      go_wp2_with fail
      (try go_ret)
      refine opPost_same rfl rfl hd hk ?_
      (repeat (first | exact Keep.refl _ _ | assumption | refine Keep.alloc ?_ _ | refine Keep.drew ?_ | refine Keep.drewN ?_ _ | (refine Keep.setCell ?_ ?_ _; rotate_left; first | exact Or.inl rfl | exact Or.inl (Or.inl rfl) | exact Or.inl (Or.inr rfl) | (simp; omega))))

def SizePost (w : World) (g b : Nat) (d : DiskM) (name : List UInt8) (e : Ending) (w' : World) : Prop :=
  e = .returned (.tuple #[.int .i64 (d.size name).1, .int .i64 (d.size name).2.1]) ∧ DiskAt w' g b (d.size name).2.2 ∧ Keep (fun k => k = g) w w'
set_option maxRecDepth 100000 in
set_option maxHeartbeats 1600000 in
theorem fs_size {w : World} {g b : Nat} {d : DiskM} (h : DiskAt w g b d) (s : ByteArray) (hs : s.size ≤ 9223372036854775807) :
    Calls Tryz.prog 11 #[.pointer (some ⟨g, 0, none⟩), .string s] w (SizePost w g b d s.data.toList) := by
  rcases hF : d.find s.data.toList true with ⟨⟨ft, fk⟩, r, d1⟩
  have HF := Lib.hid hF
  have hfin : d.size s.data.toList = ((ft.size : Int), r, d1) := by unfold DiskM.size; rw [hF]
  have HN := Lib.hid hfin
  clear hF hfin
  go_enter Tryz.func11, Tryz.ntmps11
  go_wp2_with fail
  refine (fs_find h s hs true).mono ?_
  rintro e w1 ⟨he, hd, hk⟩
  rw [HF.out] at he hd
  subst he
  go_wp2_with fail
  (try go_ret2)
  unfold SizePost
  rw [HN.out]
  exact ⟨rfl, hd.alloc _, hk.alloc _⟩
end Go.Proofs.YtffjnilmpeihiaaGreatDoor
