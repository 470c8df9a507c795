/- The names of all files, in order. -/
import Derived.Test.YtffjnilmpeihiaaGreatDoorFs9
import Derived.Test.YtffjnilmpeihiaaGreatDoorIter
set_option linter.unusedVariables false
set_option linter.unusedSimpArgs false
namespace Go.Proofs.YtffjnilmpeihiaaGreatDoor
open Go Go.RowKit Go.Maps Go.Sort Go.Shelf

theorem bb_lt : ∀ {a b : List UInt8}, bytesBefore a b = true → a < b
  | [], [], h => by simp [bytesBefore] at h
  | [], _ :: _, _ => List.nil_lt_cons _ _
  | _ :: _, [], h => by simp [bytesBefore] at h
  | a :: r, b :: s, h => by
    simp only [bytesBefore, Bool.or_eq_true, decide_eq_true_eq, Bool.and_eq_true, beq_iff_eq] at h
    rw [List.cons_lt_cons_iff]
    rcases h with h | ⟨rfl, h⟩
    · exact .inl h
    · exact .inr ⟨rfl, bb_lt h⟩
theorem strKeys_files (fs : FilesM) : strKeys (filesD fs) = namesF fs := by
  simp [strKeys, filesD, namesF, entD, strOf, List.map_map, Function.comp_def]
theorem names_sorted {fs : FilesM} (h : fs.Pairwise fun p q => bytesBefore p.1 q.1 = true) {ss : List (List UInt8)} (hp : ss.Perm (strKeys (filesD fs))) : ss.mergeSort (fun x y => decide (x ≤ y)) = namesF fs := by
  rw [strKeys_files] at hp
  have h1 := mergeSort_of_perm hp
  have h2 : (namesF fs).Pairwise fun a b => leB a b = true := by
    unfold namesF
    rw [List.pairwise_map]
    refine h.imp fun hb => ?_
    have := bb_lt hb
    simp only [leB, decide_eq_true_eq]
    exact Std.le_of_lt this
  have h3 := List.mergeSort_of_pairwise h2
  exact h1.trans h3

def NamesPost (w : World) (fs : FilesM) (e : Ending) (w' : World) : Prop :=
  ∃ v, e = .returned v ∧ w'.ownsRow w.heap.size 9 1 v (namesF fs).length ((namesF fs).map fun l => .string ⟨l.toArray⟩) ∧ (v = .slice none 0 0 ↔ namesF fs = []) ∧ Below w.heap.size w w'

set_option maxRecDepth 100000 in
set_option maxHeartbeats 1600000 in
theorem fs_names {w : World} {g b : Nat} {d : DiskM} (h : DiskAt w g b d) :
    Calls Tryz.prog 22 #[.pointer (some ⟨g, 0, none⟩)] w (NamesPost w d.fs) := by
  have c3 : w.cell? ⟨g, 3, none⟩ = some (.map (some b)) := blk_cell h.blk 3
  have hown := h.map
  have hmax : Maps.size (filesD d.fs) ≤ maxLen := by rw [filesD_size]; have := h.ok.few; unfold maxLen; omega
  have hbytes : Maps.size (filesD d.fs) * 16 ≤ 140737488355328 := by rw [filesD_size]; have := h.ok.few; omega
  have hord := Lib.hid h.ok.order
  have HM := Lib.hid hmax
  have HB := Lib.hid hbytes
  clear hmax hbytes
  refine (callsIn_wide (n := 6)).1 ?_
  have hfK : Fence.wide.fn 33 := trivial
  have hfS : Fence.wide.fn 32 := trivial
  refine callsIn_of_wp Tryz.func22 rfl trivial ?_ rfl
  simp only [Tryz.ntmps22, List.size_toArray, List.length_cons, List.length_nil, Nat.reduceAdd, Nat.reduceSub, Array.replicate_succ, Array.replicate_zero, List.push_toArray, List.append_toArray, List.nil_append, List.cons_append]
  gi_wp2_with (first
    | (gi_at_call 33; refine (Tryz.maps_Keys_33 _ _).mono ?_; rintro e w' ⟨rfl, rfl⟩)
    | (gi_at_call 32; refine (Tryz.slices_Sorted_keys_32_33 b _ (filesD d.fs) fileR w hown HM.out HB.out).mono ?_; rintro e w' ⟨v, ss, rfl, hS, hrow, hnil, hb⟩))
  (try go_ret)
  have hs := names_sorted hord.out hS
  have hlen : ss.length = (namesF d.fs).length := by rw [← hs, List.length_mergeSort]
  rw [hs, hlen] at hrow
  refine ⟨v, rfl, ownsRow_base_a hrow (by simp), ?_, ((Below.refl _ w).alloc (Nat.le_refl _) _).trans (hb.mono (by simp))⟩
  rw [hnil, ← List.length_eq_zero_iff, hlen, List.length_eq_zero_iff]

def ListPost (w : World) (g b : Nat) (d : DiskM) (e : Ending) (w' : World) : Prop :=
  ∃ v, e = .returned (.tuple #[v, .int .i64 (d.call true).1]) ∧ DiskAt w' g b (d.call true).2 ∧ Keep (fun k => k = g) w w' ∧
    ((d.call true).1 = 0 → w'.ownsRow w.heap.size 9 1 v (namesF d.fs).length ((namesF d.fs).map fun l => .string ⟨l.toArray⟩) ∧ (v = .slice none 0 0 ↔ namesF d.fs = [])) ∧ ((d.call true).1 ≠ 0 → v = .slice none 0 0)
set_option maxRecDepth 100000 in
set_option maxHeartbeats 1600000 in
theorem fs_list {w : World} {g b : Nat} {d : DiskM} (h : DiskAt w g b d) :
    Calls Tryz.prog 15 #[.pointer (some ⟨g, 0, none⟩)] w (ListPost w g b d) := by
  obtain ⟨r, hr⟩ : ∃ r, r = (d.call true).1 := ⟨_, rfl⟩
  have hfs := DiskM.call_fs d true
  by_cases h0 : r = 0
  · subst h0
    have HR := Lib.hid hr
    have HF := Lib.hid hfs
    clear hr hfs
    go_enter Tryz.func15, Tryz.ntmps15
    go_wp2_with fail
    refine (fs_call h true).mono ?_
    rintro e w1 ⟨he, hd, hk⟩
    rw [← HR.out] at he
    subst he
    go_wp2_with fail
    refine (fs_names hd).mono ?_
    rintro e w2 ⟨v, rfl, hrow, hnil, hb⟩
    rw [HF.out] at hrow hnil
    go_wp2_with fail
    (try go_ret2)
    refine ⟨v, by rw [← HR.out]; rfl, hd.below hb, hk.below hb, fun _ => ⟨ownsRow_base_a hrow hk.size, hnil⟩, fun hn => absurd HR.out.symm hn⟩
  · have n0 : (r != 0) = true := by simpa using h0
    have HR := Lib.hid hr
    have H0 := Lib.hid h0
    clear hr hfs h0
    go_enter Tryz.func15, Tryz.ntmps15
    go_wp2_with fail
    refine (fs_call h true).mono ?_
    rintro e w1 ⟨he, hd, hk⟩
    rw [← HR.out] at he
    subst he
    go_wp2_with fail
    (try go_ret2)
    exact ⟨_, by rw [← HR.out]; rfl, hd, hk, fun hn => absurd (HR.out.trans hn) H0.out, fun _ => rfl⟩
end Go.Proofs.YtffjnilmpeihiaaGreatDoor
