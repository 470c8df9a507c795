/- A file's bytes are read; all of it is kept; it is removed. -/
import Derived.Test.YtffjnilmpeihiaaGreatDoorFs4
set_option linter.unusedVariables false
set_option linter.unusedSimpArgs false
namespace Go.Proofs.YtffjnilmpeihiaaGreatDoor
open Go Go.RowKit Go.Maps

theorem read_err {d d1 : DiskM} {name : List UInt8} {at_ n : Int} {f : FileM} {r : Int} (h : d.find name (decide (0 ≤ min at_ n)) = (f, r, d1)) (h2 : r ≠ 0) : d.read name at_ n = (⟨#[]⟩, r, d1) := by
  unfold DiskM.read; rw [h]; simp [h2]; rfl
theorem read_range {d d1 : DiskM} {name : List UInt8} {at_ n : Int} {f : FileM} (h : d.find name (decide (0 ≤ min at_ n)) = (f, 0, d1)) (h2 : at_ > f.s.size ∨ n > f.s.size - at_) : d.read name at_ n = (⟨#[]⟩, 10, d1) := by
  unfold DiskM.read; rw [h]; simp only [ne_eq, not_true_eq_false, if_false]; rw [if_pos h2]; rfl
theorem read_ok {d d1 : DiskM} {name : List UInt8} {at_ n : Int} {f : FileM} (h : d.find name (decide (0 ≤ min at_ n)) = (f, 0, d1)) (h2 : ¬ (at_ > f.s.size ∨ n > f.s.size - at_)) : d.read name at_ n = (f.s.extract at_.toNat (at_ + n).toNat, 0, d1) := by
  unfold DiskM.read; rw [h]; simp only [ne_eq, not_true_eq_false, if_false]; rw [if_neg h2]

def ReadPost (w : World) (g b : Nat) (d : DiskM) (name : List UInt8) (at_ n : Int) (e : Ending) (w' : World) : Prop :=
  e = .returned (.tuple #[.string (d.read name at_ n).1, .int .i64 (d.read name at_ n).2.1]) ∧ DiskAt w' g b (d.read name at_ n).2.2 ∧ Keep (fun k => k = g) w w'

theorem readPost_mk {w w1 w2 : World} {g b : Nat} {d d1 : DiskM} {name : List UInt8} {at_ n : Int} {s : ByteArray} {r : Int} (h : d.read name at_ n = (s, r, d1)) (hd : DiskAt w1 g b d1) (hk : Keep (fun k => k = g) w w1) (hk2 : Keep (fun _ => False) w1 w2) :
    ReadPost w g b d name at_ n (.returned (.tuple #[.string s, .int .i64 r])) w2 := by
  unfold ReadPost
  rw [h]
  exact ⟨rfl, hd.keep hk2 id id, hk.trans hk2 (fun _ h => h.elim)⟩

set_option maxRecDepth 100000 in
set_option maxHeartbeats 3200000 in
theorem fs_read {w : World} {g b : Nat} {d : DiskM} (h : DiskAt w g b d) (s : ByteArray) (hs : s.size ≤ 9223372036854775807) (at_ n : Int)
    (ha : -9223372036854775808 ≤ at_ ∧ at_ ≤ 9223372036854775807) (hn : -9223372036854775808 ≤ n ∧ n ≤ 9223372036854775807) :
    Calls Tryz.prog 12 #[.pointer (some ⟨g, 0, none⟩), .string s, .int .i64 at_, .int .i64 n] w (ReadPost w g b d s.data.toList at_ n) := by
  rcases hF : d.find s.data.toList (decide (0 ≤ min at_ n)) with ⟨⟨ft, fk⟩, r, d1⟩
  have key : ∀ m, m = min at_ n → d.find s.data.toList (decide (0 ≤ m)) = (⟨ft, fk⟩, r, d1) := by rintro m rfl; exact hF
  by_cases h0 : r = 0
  · subst h0
    have hg1 := DiskM.find_ok (d := d) (name := s.data.toList) (may := decide (0 ≤ min at_ n)) (by rw [hF])
    have hmin : 0 ≤ min at_ n := by simpa using hg1.1
    have hft : (ft.size : Int) ≤ 16777216 := by
      have ho1 : d1.Ok := by
        have := h.ok.find s.data.toList (decide (0 ≤ min at_ n))
        rw [hF] at this
        exact this
      have hff := DiskM.find_fs d s.data.toList (decide (0 ≤ min at_ n))
      rw [hF] at hff hg1
      have := getF_size_le ho1.order (k := s.data.toList) (f := ⟨ft, fk⟩) (by rw [hff]; exact hg1.2.2)
      have h2 := ho1.used1
      have h3 := ho1.room1
      rw [ho1.sum'] at h2
      simp only at this
      omega
    obtain ⟨a, rfl⟩ := Int.eq_ofNat_of_zero_le (show 0 ≤ at_ by omega)
    obtain ⟨m, rfl⟩ := Int.eq_ofNat_of_zero_le (show 0 ≤ n by omega)
    have hFt : d.find s.data.toList true = (⟨ft, fk⟩, 0, d1) := by
      have := key _ rfl
      rw [show decide (0 ≤ min (a : Int) (m : Int)) = true by simpa using hmin] at this
      exact this
    clear hg1 hmin
    by_cases h1 : (a : Int) > ft.size
    · have HN := Lib.hid (read_range hF (.inl h1))
      have b1 : decide ((ft.size : Int) < (a : Int)) = true := by simpa using h1
      by_cases hle : (a : Int) ≤ m
      · have HF := Lib.hid hFt
        clear hF key hFt
        go_enter Tryz.func12, Tryz.ntmps12
        go_wp2_with fail
        refine (fs_find h s hs _).mono ?_
        rintro e w1 ⟨he, hd, hk⟩
        rw [HF.out] at he hd
        subst he
        go_wp2_with fail
        (try go_ret2)
        refine readPost_mk HN.out hd hk ?_
        (repeat (first | exact Keep.refl _ _ | assumption | refine Keep.alloc ?_ _ | refine Keep.drew ?_ | refine Keep.drewN ?_ _ | (refine Keep.setCell ?_ ?_ _; rotate_left; first | exact Or.inl rfl | exact Or.inl (Or.inl rfl) | exact Or.inl (Or.inr rfl) | (simp; omega))))
      · have HF := Lib.hid hFt
        clear hF key hFt
        go_enter Tryz.func12, Tryz.ntmps12
        go_wp2_with fail
        refine (fs_find h s hs _).mono ?_
        rintro e w1 ⟨he, hd, hk⟩
        rw [HF.out] at he hd
        subst he
        go_wp2_with fail
        (try go_ret2)
        refine readPost_mk HN.out hd hk ?_
        (repeat (first | exact Keep.refl _ _ | assumption | refine Keep.alloc ?_ _ | refine Keep.drew ?_ | refine Keep.drewN ?_ _ | (refine Keep.setCell ?_ ?_ _; rotate_left; first | exact Or.inl rfl | exact Or.inl (Or.inl rfl) | exact Or.inl (Or.inr rfl) | (simp; omega))))
    · have b1 : decide ((ft.size : Int) < (a : Int)) = false := by simpa using h1
      by_cases h2 : (m : Int) > ft.size - a
      · have HN := Lib.hid (read_range hF (.inr h2))
        have b2 : decide ((ft.size : Int) - (a : Int) < (m : Int)) = true := by simpa using h2
        by_cases hle : (a : Int) ≤ m
        · have HF := Lib.hid hFt
          clear hF key hFt
          go_enter Tryz.func12, Tryz.ntmps12
          go_wp2_with fail
          refine (fs_find h s hs _).mono ?_
          rintro e w1 ⟨he, hd, hk⟩
          rw [HF.out] at he hd
          subst he
          go_wp2_with fail
          (try go_ret2)
          refine readPost_mk HN.out hd hk ?_
          (repeat (first | exact Keep.refl _ _ | assumption | refine Keep.alloc ?_ _ | refine Keep.drew ?_ | refine Keep.drewN ?_ _ | (refine Keep.setCell ?_ ?_ _; rotate_left; first | exact Or.inl rfl | exact Or.inl (Or.inl rfl) | exact Or.inl (Or.inr rfl) | (simp; omega))))
        · have HF := Lib.hid hFt
          clear hF key hFt
          go_enter Tryz.func12, Tryz.ntmps12
          go_wp2_with fail
          refine (fs_find h s hs _).mono ?_
          rintro e w1 ⟨he, hd, hk⟩
          rw [HF.out] at he hd
          subst he
          go_wp2_with fail
          (try go_ret2)
          refine readPost_mk HN.out hd hk ?_
          (repeat (first | exact Keep.refl _ _ | assumption | refine Keep.alloc ?_ _ | refine Keep.drew ?_ | refine Keep.drewN ?_ _ | (refine Keep.setCell ?_ ?_ _; rotate_left; first | exact Or.inl rfl | exact Or.inl (Or.inl rfl) | exact Or.inl (Or.inr rfl) | (simp; omega))))
      · have hr := read_ok hF (by simp only [not_or]; exact ⟨h1, h2⟩)
        have e1 : ((a : Int) + (m : Int)).toNat = a + m := by omega
        rw [e1, Int.toNat_natCast] at hr
        have HN := Lib.hid hr
        have b2 : decide ((ft.size : Int) - (a : Int) < (m : Int)) = false := by simpa using h2
        have g1 : (a : Int) ≤ (ft.size : Int) := by omega
        have g2 : (m : Int) ≤ (ft.size : Int) - a := by omega
        have g3 : a + m ≤ ft.size := by omega
        clear h1 h2 hr e1
        by_cases hle : (a : Int) ≤ m
        · have HF := Lib.hid hFt
          clear hF key hFt
          go_enter Tryz.func12, Tryz.ntmps12
          go_wp2_with fail
          refine (fs_find h s hs _).mono ?_
          rintro e w1 ⟨he, hd, hk⟩
          rw [HF.out] at he hd
          subst he
          go_wp2_with fail
          (try go_ret2)
          refine readPost_mk HN.out hd hk ?_
          (repeat (first | exact Keep.refl _ _ | assumption | refine Keep.alloc ?_ _ | refine Keep.drew ?_ | refine Keep.drewN ?_ _ | (refine Keep.setCell ?_ ?_ _; rotate_left; first | exact Or.inl rfl | exact Or.inl (Or.inl rfl) | exact Or.inl (Or.inr rfl) | (simp; omega))))
        · have HF := Lib.hid hFt
          clear hF key hFt
          go_enter Tryz.func12, Tryz.ntmps12
          go_wp2_with fail
          refine (fs_find h s hs _).mono ?_
          rintro e w1 ⟨he, hd, hk⟩
          rw [HF.out] at he hd
          subst he
          go_wp2_with fail
          (try go_ret2)
          refine readPost_mk HN.out hd hk ?_
          (repeat (first | exact Keep.refl _ _ | assumption | refine Keep.alloc ?_ _ | refine Keep.drew ?_ | refine Keep.drewN ?_ _ | (refine Keep.setCell ?_ ?_ _; rotate_left; first | exact Or.inl rfl | exact Or.inl (Or.inl rfl) | exact Or.inl (Or.inr rfl) | (simp; omega))))
  · have HN := Lib.hid (read_err hF h0)
    have n0 : (r != 0) = true := by simpa using h0
    by_cases hle : at_ ≤ n
    · have HF := Lib.hid (key at_ (by omega))
      clear hF key h0
      go_enter Tryz.func12, Tryz.ntmps12
      go_wp2_with fail
      refine (fs_find h s hs _).mono ?_
      rintro e w1 ⟨he, hd, hk⟩
      rw [HF.out] at he hd
      subst he
      go_wp2_with fail
      (try go_ret2)
      refine readPost_mk HN.out hd hk ?_
      (repeat (first | exact Keep.refl _ _ | assumption | refine Keep.alloc ?_ _ | refine Keep.drew ?_ | refine Keep.drewN ?_ _ | (refine Keep.setCell ?_ ?_ _; rotate_left; first | exact Or.inl rfl | exact Or.inl (Or.inl rfl) | exact Or.inl (Or.inr rfl) | (simp; omega))))
    · have HF := Lib.hid (key n (by omega))
      clear hF key h0
      go_enter Tryz.func12, Tryz.ntmps12
      go_wp2_with fail
      refine (fs_find h s hs _).mono ?_
      rintro e w1 ⟨he, hd, hk⟩
      rw [HF.out] at he hd
      subst he
      go_wp2_with fail
      (try go_ret2)
      refine readPost_mk HN.out hd hk ?_
      (repeat (first | exact Keep.refl _ _ | assumption | refine Keep.alloc ?_ _ | refine Keep.drew ?_ | refine Keep.drewN ?_ _ | (refine Keep.setCell ?_ ?_ _; rotate_left; first | exact Or.inl rfl | exact Or.inl (Or.inl rfl) | exact Or.inl (Or.inr rfl) | (simp; omega))))
end Go.Proofs.YtffjnilmpeihiaaGreatDoor
