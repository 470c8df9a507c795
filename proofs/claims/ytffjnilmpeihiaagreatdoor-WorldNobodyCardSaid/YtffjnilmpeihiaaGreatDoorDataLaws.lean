/- What a map of files gives behind a store, and that a disk stays what a disk always is; no program in sight. -/
import Derived.Test.YtffjnilmpeihiaaGreatDoorData
set_option linter.unusedVariables false
set_option linter.unusedSimpArgs false
namespace Go.Proofs.YtffjnilmpeihiaaGreatDoor
open Go Go.RowKit Go.Maps

theorem bb_irrefl : ∀ a : List UInt8, bytesBefore a a = false
  | [] => rfl
  | a :: r => by simp [bytesBefore, bb_irrefl r]
theorem bb_trans : ∀ {a b c : List UInt8}, bytesBefore a b = true → bytesBefore b c = true → bytesBefore a c = true
  | [], [], c, h, _ => by simp [bytesBefore] at h
  | [], _ :: _, [], _, h => by simp [bytesBefore] at h
  | [], _ :: _, _ :: _, _, _ => by simp [bytesBefore]
  | _ :: _, [], _, h, _ => by simp [bytesBefore] at h
  | _ :: _, _ :: _, [], _, h => by simp [bytesBefore] at h
  | a :: r, b :: s, c :: t, h, k => by
    simp only [bytesBefore, Bool.or_eq_true, decide_eq_true_eq, Bool.and_eq_true, beq_iff_eq] at h k ⊢
    rcases h with h | ⟨rfl, h⟩
    · rcases k with k | ⟨rfl, k⟩
      · exact .inl (UInt8.lt_trans h k)
      · exact .inl h
    · rcases k with k | ⟨rfl, k⟩
      · exact .inl k
      · exact .inr ⟨rfl, bb_trans h k⟩
theorem bb_total : ∀ {a b : List UInt8}, a ≠ b → bytesBefore a b = false → bytesBefore b a = true
  | [], [], h, _ => absurd rfl h
  | [], _ :: _, _, h => by simp [bytesBefore] at h
  | _ :: _, [], _, _ => by simp [bytesBefore]
  | a :: r, b :: s, hne, h => by
    simp only [bytesBefore, Bool.or_eq_true, decide_eq_true_eq, Bool.and_eq_true, beq_iff_eq, Bool.or_eq_false_iff, decide_eq_false_iff_not, Bool.and_eq_false_iff, beq_eq_false_iff_ne] at h ⊢
    obtain ⟨h1, h2⟩ := h
    by_cases e : a = b
    · subst e
      refine .inr ⟨rfl, bb_total (fun e => hne (by rw [e])) ?_⟩
      rcases h2 with h2 | h2
      · exact absurd rfl h2
      · exact h2
    · refine .inl ?_
      rcases UInt8.lt_or_lt_of_ne e with h | h
      · exact absurd h h1
      · exact h
theorem bb_ne {a b : List UInt8} (h : bytesBefore a b = true) : a ≠ b := by
  rintro rfl
  rw [bb_irrefl] at h
  cases h

theorem mem_insF {x y : List UInt8 × FileM} : ∀ {fs : FilesM}, y ∈ insF x fs ↔ y = x ∨ y ∈ fs
  | [] => by simp [insF]
  | z :: r => by
    unfold insF
    split
    · simp
    · simp only [List.mem_cons, mem_insF (fs := r)]
      constructor
      · rintro (h | h | h) <;> simp [h]
      · rintro (h | h | h) <;> simp [h]
theorem mem_putF {fs : FilesM} {k : List UInt8} {f : FileM} {y : List UInt8 × FileM} : y ∈ putF fs k f ↔ y = (k, f) ∨ (y ∈ fs ∧ y.1 ≠ k) := by
  unfold putF
  rw [mem_insF]
  simp
theorem mem_delF {fs : FilesM} {k : List UInt8} {y : List UInt8 × FileM} : y ∈ delF fs k ↔ y ∈ fs ∧ y.1 ≠ k := by
  unfold delF
  simp

theorem order_insF {x : List UInt8 × FileM} : ∀ {fs : FilesM}, (∀ y ∈ fs, y.1 ≠ x.1) → fs.Pairwise (fun p q => bytesBefore p.1 q.1 = true) → (insF x fs).Pairwise fun p q => bytesBefore p.1 q.1 = true
  | [], _, _ => by simp [insF]
  | z :: r, hne, h => by
    unfold insF
    rw [List.pairwise_cons] at h
    split
    · rename_i hb
      refine List.pairwise_cons.2 ⟨fun y hy => ?_, List.pairwise_cons.2 h⟩
      rcases List.mem_cons.1 hy with rfl | hy
      · exact hb
      · exact bb_trans hb (h.1 y hy)
    · rename_i hb
      refine List.pairwise_cons.2 ⟨fun y hy => ?_, order_insF (fun y hy => hne y (by simp [hy])) h.2⟩
      rcases mem_insF.1 hy with rfl | hy
      · exact bb_total (fun e => hne z (by simp) e.symm) (by simpa using hb)
      · exact h.1 y hy
theorem order_delF {fs : FilesM} (k : List UInt8) (h : fs.Pairwise fun p q => bytesBefore p.1 q.1 = true) : (delF fs k).Pairwise fun p q => bytesBefore p.1 q.1 = true := h.filter _
theorem order_putF {fs : FilesM} (k : List UInt8) (f : FileM) (h : fs.Pairwise fun p q => bytesBefore p.1 q.1 = true) : (putF fs k f).Pairwise fun p q => bytesBefore p.1 q.1 = true :=
  order_insF (fun y hy => by simpa using (List.mem_filter.1 hy).2) (h.filter _)

theorem find_insF_hit {x : List UInt8 × FileM} {k : List UInt8} (hx : x.1 = k) : ∀ {fs : FilesM}, (∀ y ∈ fs, y.1 ≠ k) → (insF x fs).find? (fun p => p.1 == k) = some x
  | [], _ => by simp [insF, hx]
  | z :: r, h => by
    unfold insF
    split
    · simp [hx]
    · rw [List.find?_cons_of_neg (by simpa using h z (by simp)), find_insF_hit hx (fun y hy => h y (by simp [hy]))]
theorem find_insF_miss {x : List UInt8 × FileM} {k : List UInt8} (hx : x.1 ≠ k) : ∀ {fs : FilesM}, (insF x fs).find? (fun p => p.1 == k) = fs.find? (fun p => p.1 == k)
  | [] => by simp [insF, hx]
  | z :: r => by
    unfold insF
    split
    · simp [hx]
    · simp only [List.find?_cons, find_insF_miss hx (fs := r)]
theorem getF_putF_same (fs : FilesM) (k : List UInt8) (f : FileM) : getF (putF fs k f) k = some f := by
  unfold getF putF
  rw [find_insF_hit (x := (k, f)) (k := k) rfl (fun y hy => by simpa using (List.mem_filter.1 hy).2)]
  rfl
theorem find_filter_ne (k k' : List UInt8) (h : k' ≠ k) : ∀ fs : FilesM, (fs.filter fun p => !(p.1 == k)).find? (fun p => p.1 == k') = fs.find? (fun p => p.1 == k')
  | [] => rfl
  | z :: r => by
    by_cases e : z.1 = k
    · have e2 : (z.1 == k') = false := by rw [beq_eq_false_iff_ne, e]; exact fun h' => h h'.symm
      rw [List.filter_cons_of_neg (by simp [e]), List.find?_cons, e2]
      exact find_filter_ne k k' h r
    · rw [List.filter_cons_of_pos (by simp [e]), List.find?_cons, List.find?_cons, find_filter_ne k k' h r]
theorem getF_putF_other {k k' : List UInt8} (h : k' ≠ k) (fs : FilesM) (f : FileM) : getF (putF fs k f) k' = getF fs k' := by
  unfold getF putF
  rw [find_insF_miss (fun e => h e.symm), find_filter_ne k k' h]
theorem getF_putF (fs : FilesM) (k k' : List UInt8) (f : FileM) : getF (putF fs k f) k' = if k' = k then some f else getF fs k' := by
  by_cases h : k' = k
  · subst h; rw [if_pos rfl, getF_putF_same]
  · rw [if_neg h, getF_putF_other h]
theorem getF_delF_same (fs : FilesM) (k : List UInt8) : getF (delF fs k) k = none := by
  unfold getF delF
  rw [List.find?_eq_none.2 (fun p hp => by simpa using (List.mem_filter.1 hp).2)]
  rfl
theorem getF_delF_other {k k' : List UInt8} (h : k' ≠ k) (fs : FilesM) : getF (delF fs k) k' = getF fs k' := by
  unfold getF delF
  rw [find_filter_ne k k' h]
theorem getF_delF (fs : FilesM) (k k' : List UInt8) : getF (delF fs k) k' = if k' = k then none else getF fs k' := by
  by_cases h : k' = k
  · subst h; rw [if_pos rfl, getF_delF_same]
  · rw [if_neg h, getF_delF_other h]
theorem mem_of_getF {fs : FilesM} {k : List UInt8} {f : FileM} (h : getF fs k = some f) : (k, f) ∈ fs := by
  unfold getF at h
  cases hf : fs.find? (fun p => p.1 == k) with
  | none => rw [hf] at h; cases h
  | some p =>
    rw [hf] at h
    cases h
    have h1 := List.mem_of_find?_eq_some hf
    have h2 := List.find?_some hf
    have : p.1 = k := by simpa using h2
    rw [← this]
    exact h1
theorem getF_of_mem : ∀ {fs : FilesM}, fs.Pairwise (fun p q => bytesBefore p.1 q.1 = true) → ∀ {k : List UInt8} {f : FileM}, (k, f) ∈ fs → getF fs k = some f
  | [], _, _, _, h => by simp at h
  | z :: r, ho, k, f, h => by
    rw [List.pairwise_cons] at ho
    rcases List.mem_cons.1 h with rfl | h
    · simp [getF]
    · have hne : z.1 ≠ k := bb_ne (ho.1 _ h)
      have := getF_of_mem ho.2 h
      unfold getF at this ⊢
      rw [List.find?_cons_of_neg (by simpa using hne)]
      exact this
theorem getF_none_of {fs : FilesM} {k : List UInt8} (h : getF fs k = none) : ∀ p ∈ fs, p.1 ≠ k := by
  intro p hp e
  unfold getF at h
  cases hf : fs.find? (fun p => p.1 == k) with
  | none => exact absurd (List.find?_eq_none.1 hf p hp) (by simp [e])
  | some q => rw [hf] at h; cases h

/-- How many bytes all files have. -/
def sumF (fs : FilesM) : Int := (fs.map fun p => (p.2.s.size : Int)).sum
theorem sumF_nonneg : ∀ fs : FilesM, 0 ≤ sumF fs
  | [] => by simp [sumF]
  | z :: r => by
    have := sumF_nonneg r
    simp only [sumF, List.map_cons, List.sum_cons] at this ⊢
    omega
theorem sumF_insF (x : List UInt8 × FileM) : ∀ fs : FilesM, sumF (insF x fs) = x.2.s.size + sumF fs
  | [] => by simp [insF, sumF]
  | z :: r => by
    unfold insF
    split
    · simp [sumF]
    · have := sumF_insF x r
      simp only [sumF, List.map_cons, List.sum_cons] at this ⊢
      omega
theorem filter_none (k : List UInt8) {fs : FilesM} (h : getF fs k = none) : (fs.filter fun p => !(p.1 == k)) = fs := by
  rw [List.filter_eq_self]
  intro p hp
  simpa using getF_none_of h p hp
theorem sumF_delF (k : List UInt8) : ∀ {fs : FilesM}, fs.Pairwise (fun p q => bytesBefore p.1 q.1 = true) → sumF (delF fs k) = sumF fs - szO (getF fs k)
  | [], _ => by simp [delF, sumF, getF, szO]
  | z :: r, ho => by
    rw [List.pairwise_cons] at ho
    by_cases e : z.1 = k
    · have hr : ∀ p ∈ r, p.1 ≠ k := fun p hp e2 => bb_ne (ho.1 p hp) (e.trans e2.symm)
      have hf : (r.filter fun p => !(p.1 == k)) = r := List.filter_eq_self.2 (fun p hp => by simpa using hr p hp)
      have hg : getF (z :: r) k = some z.2 := by unfold getF; rw [List.find?_cons_of_pos (by simpa using e)]; rfl
      rw [hg]
      unfold delF
      rw [List.filter_cons_of_neg (by simp [e]), hf]
      simp only [sumF, List.map_cons, List.sum_cons, szO]
      omega
    · have hg : getF (z :: r) k = getF r k := by unfold getF; rw [List.find?_cons_of_neg (by simpa using e)]
      have ih := sumF_delF k ho.2
      rw [hg]
      unfold delF at ih ⊢
      rw [List.filter_cons_of_pos (by simp [e])]
      simp only [sumF, List.map_cons, List.sum_cons] at ih ⊢
      omega
theorem sumF_putF (k : List UInt8) (f : FileM) {fs : FilesM} (h : fs.Pairwise fun p q => bytesBefore p.1 q.1 = true) :
    sumF (putF fs k f) = sumF fs + f.s.size - szO (getF fs k) := by
  have := sumF_delF k h
  unfold delF at this
  unfold putF
  rw [sumF_insF, this]
  show (f.s.size : Int) + _ = _
  omega
theorem getF_size_le {fs : FilesM} (h : fs.Pairwise fun p q => bytesBefore p.1 q.1 = true) {k : List UInt8} {f : FileM} (hf : getF fs k = some f) : (f.s.size : Int) ≤ sumF fs := by
  have h1 := sumF_delF k h
  rw [hf] at h1
  have h2 := sumF_nonneg (delF fs k)
  simp only [szO] at h1
  omega
theorem length_insF (x : List UInt8 × FileM) : ∀ fs : FilesM, (insF x fs).length = fs.length + 1
  | [] => rfl
  | z :: r => by
    unfold insF
    split
    · rfl
    · simp [length_insF x r]
theorem length_putF_new (fs : FilesM) (k : List UInt8) (f : FileM) (h : getF fs k = none) : (putF fs k f).length = fs.length + 1 := by
  unfold putF
  rw [length_insF, filter_none k h]
theorem length_delF_le (fs : FilesM) (k : List UInt8) : (delF fs k).length ≤ fs.length := List.length_filter_le _ _
theorem length_delF_lt {fs : FilesM} {k : List UInt8} {f : FileM} (h : getF fs k = some f) : (delF fs k).length + 1 ≤ fs.length := by
  have hm := mem_of_getF h
  unfold delF
  have : (fs.filter fun p => !(p.1 == k)).length < fs.length := by
    rcases Nat.lt_or_ge (fs.filter fun p => !(p.1 == k)).length fs.length with h' | h'
    · exact h'
    · have he := List.length_filter_eq_length_iff.1 (Nat.le_antisymm (List.length_filter_le _ fs) h') _ hm
      simp at he
  omega
theorem length_putF_old {fs : FilesM} {k : List UInt8} {g : FileM} (f : FileM) (h : getF fs k = some g) : (putF fs k f).length ≤ fs.length := by
  have := length_delF_lt h
  unfold delF at this
  unfold putF
  rw [length_insF]
  omega

namespace DiskM
theorem Ok.sum' {d : DiskM} (h : d.Ok) : d.used = sumF d.fs := h.sum
theorem Ok.call {d : DiskM} (h : d.Ok) (may : Bool) : (d.call may).2.Ok := by
  unfold DiskM.call
  split
  · obtain ⟨h1, h2, h3, h4, h5, h6, h7, h8, h9, h10, h11, h12, h13⟩ := h
    refine ⟨h1, h2, h3, h4, ?_, ?_, ?_, ?_, h9, h10, h11, h12, h13⟩
    · simp only; split <;> omega
    · simp only; split <;> omega
    · simp only; unfold wrap64; omega
    · simp only; unfold wrap64; omega
  · exact h
theorem call_fs (d : DiskM) (may : Bool) : (d.call may).2.fs = d.fs := by unfold DiskM.call; split <;> rfl
theorem call_used (d : DiskM) (may : Bool) : (d.call may).2.used = d.used := by unfold DiskM.call; split <;> rfl
theorem call_room (d : DiskM) (may : Bool) : (d.call may).2.room = d.room := by unfold DiskM.call; split <;> rfl
theorem find_disk (d : DiskM) (name : List UInt8) (may : Bool) : (d.find name may).2.2 = (d.call (may && rightB name)).2 := by
  unfold DiskM.find
  split
  · rfl
  · split <;> rfl
theorem Ok.find {d : DiskM} (h : d.Ok) (name : List UInt8) (may : Bool) : (d.find name may).2.2.Ok := by rw [find_disk]; exact h.call _
theorem find_fs (d : DiskM) (name : List UInt8) (may : Bool) : (d.find name may).2.2.fs = d.fs := by rw [find_disk, call_fs]
/-- What stands behind a find that found. -/
theorem find_ok {d : DiskM} {name : List UInt8} {may : Bool} (h : (d.find name may).2.1 = 0) : may = true ∧ rightB name = true ∧ getF d.fs name = some (d.find name may).1 := by
  have hc := call_fs d (may && rightB name)
  unfold DiskM.find at h ⊢
  split at h
  · exact absurd h ‹_›
  · rename_i he
    have he : (d.call (may && rightB name)).1 = 0 := by simpa using he
    split at h
    · rename_i f hf
      rw [hc] at hf
      have hm : (may && rightB name) = true := by
        cases hm : (may && rightB name)
        · rw [hm] at he; simp [DiskM.call] at he
        · rfl
      rw [Bool.and_eq_true] at hm
      rw [if_neg (by simpa using he)]
      simp only [hc, hf]
      exact ⟨hm.1, hm.2, trivial⟩
    · simp at h
theorem find_none {d : DiskM} {name : List UInt8} {may : Bool} (h : (d.find name may).2.1 = 2) : may = true ∧ rightB name = true ∧ getF d.fs name = none := by
  have hc := call_fs d (may && rightB name)
  unfold DiskM.find at h
  split at h
  · rename_i he
    simp only at h
    unfold DiskM.call at h
    split at h
    · simp only at h
      split at h <;> omega
    · simp only at h
      omega
  · rename_i he
    have he : (d.call (may && rightB name)).1 = 0 := by simpa using he
    split at h
    · simp at h
    · rename_i hf
      rw [hc] at hf
      have hm : (may && rightB name) = true := by
        cases hm : (may && rightB name)
        · rw [hm] at he; simp [DiskM.call] at he
        · rfl
      rw [Bool.and_eq_true] at hm
      exact ⟨hm.1, hm.2, hf⟩

/-- A disk whose files are stored anew. -/
theorem Ok.put {d : DiskM} (h : d.Ok) (name : List UInt8) (f : FileM) (u : Int) (hr : rightB name = true) (hk : 0 ≤ f.kept ∧ f.kept ≤ f.s.size) (hl : (putF d.fs name f).length ≤ 200)
    (hu : u = sumF (putF d.fs name f)) (hu1 : u ≤ d.room) : ({ d with fs := putF d.fs name f, used := u } : DiskM).Ok := by
  obtain ⟨h1, h2, h3, h4, h5, h6, h7, h8, h9, h10, h11, h12, h13⟩ := h
  refine ⟨h1, h2, ?_, hu1, h5, h6, h7, h8, hu, ?_, ?_, hl, order_putF _ _ h13⟩
  · show 0 ≤ u
    rw [hu]; exact sumF_nonneg _
  · intro p hp
    rcases mem_putF.1 hp with rfl | ⟨hp, _⟩
    · exact hk
    · exact h10 p hp
  · intro p hp
    rcases mem_putF.1 hp with rfl | ⟨hp, _⟩
    · exact hr
    · exact h11 p hp
theorem Ok.drop {d : DiskM} (h : d.Ok) (name : List UInt8) : (d.drop name).Ok := by
  have hs := h.sum'
  obtain ⟨h1, h2, h3, h4, h5, h6, h7, h8, h9, h10, h11, h12, h13⟩ := h
  have hd := sumF_delF name h13
  have hn := sumF_nonneg (delF d.fs name)
  have hsz : (d.drop name).used = sumF (delF d.fs name) := by
    show d.used - szO (getF d.fs name) = _
    rw [hd, hs]
  have hz : 0 ≤ szO (getF d.fs name) := by cases getF d.fs name <;> simp [szO]
  have hle : (d.drop name).used ≤ d.used := by
    rw [hsz, hd, hs]
    omega
  exact ⟨h1, h2, by rw [hsz]; exact hn, Int.le_trans hle h4, h5, h6, h7, h8, hsz, fun p hp => h10 p (mem_delF.1 hp).1, fun p hp => h11 p (mem_delF.1 hp).1, Nat.le_trans (length_delF_le _ _) h12, order_delF _ h13⟩
theorem Ok.create {d : DiskM} (h : d.Ok) (name : List UInt8) : (d.create name).2.Ok := by
  have ho := h.find name true
  have hf := find_fs d name true
  unfold DiskM.create
  split
  · exact ho
  · rename_i he
    have he : (d.find name true).2.1 = 2 := by simpa using he
    obtain ⟨_, hr, hg⟩ := find_none he
    split
    · exact ho
    · rename_i hl
      have h12 := ho.few
      have hg' : getF (d.find name true).2.2.fs name = none := by rw [hf]; exact hg
      have hs := ho.sum'
      exact ho.put name ⟨ByteArray.empty, 0⟩ _ hr ⟨Int.le_refl _, by simp⟩ (by rw [length_putF_new _ _ _ hg']; have := List.length_eq_zero_iff (l := (d.find name true).2.2.fs); omega) (by rw [sumF_putF _ _ ho.order, hg', hs]; simp [szO]) ho.used1
theorem Ok.append {d : DiskM} (h : d.Ok) (name : List UInt8) (s : ByteArray) : (d.append name s).2.Ok := by
  have ho := h.find name true
  have hf := find_fs d name true
  unfold DiskM.append
  split
  · exact ho
  · rename_i he
    have he : (d.find name true).2.1 = 0 := by simpa using he
    obtain ⟨_, hr, hg⟩ := find_ok he
    split
    · exact ho
    · rename_i hl
      have hg' : getF (d.find name true).2.2.fs name = some (d.find name true).1 := by rw [hf]; exact hg
      have hs := ho.sum'
      have hk := ho.kept _ (mem_of_getF hg')
      have h12 := ho.few
      have h13 := length_putF_old ⟨(d.find name true).1.s ++ s, (d.find name true).1.kept⟩ hg'
      refine ho.put name _ _ hr ⟨hk.1, ?_⟩ (Nat.le_trans h13 h12) ?_ (by omega)
      · simp only [ByteArray.size_append] at hk ⊢; omega
      · rw [sumF_putF _ _ ho.order, hg', hs]
        simp only [ByteArray.size_append, szO]
        omega
theorem Ok.sync {d : DiskM} (h : d.Ok) (name : List UInt8) : (d.sync name).2.Ok := by
  have ho := h.find name true
  have hf := find_fs d name true
  unfold DiskM.sync
  split
  · rename_i he
    obtain ⟨_, hr, hg⟩ := find_ok he
    have hg' : getF (d.find name true).2.2.fs name = some (d.find name true).1 := by rw [hf]; exact hg
    have hs := ho.sum'
    have h12 := ho.few
    have h13 := length_putF_old ⟨(d.find name true).1.s, (d.find name true).1.s.size⟩ hg'
    refine ho.put name ⟨(d.find name true).1.s, (d.find name true).1.s.size⟩ _ hr ⟨by simp, Int.le_refl _⟩ (Nat.le_trans h13 h12) ?_ ho.used1
    rw [sumF_putF _ _ ho.order, hg', hs]
    simp only [szO]
    omega
  · exact ho
theorem Ok.remove {d : DiskM} (h : d.Ok) (name : List UInt8) : (d.remove name).2.Ok := by
  have ho := h.find name true
  unfold DiskM.remove
  split
  · exact ho.drop _
  · exact ho
theorem Ok.rename {d : DiskM} (h : d.Ok) (from_ to : List UInt8) : (d.rename from_ to).2.Ok := by
  have ho := h.find from_ (rightB to)
  have hf := find_fs d from_ (rightB to)
  unfold DiskM.rename
  split
  · exact ho
  · rename_i he
    have he : (d.find from_ (rightB to)).2.1 = 0 ∧ ¬ from_ = to := by simpa using he
    obtain ⟨hrt, hr, hg⟩ := find_ok he.1
    have hg' : getF (d.find from_ (rightB to)).2.2.fs from_ = some (d.find from_ (rightB to)).1 := by rw [hf]; exact hg
    have h1 := ho.drop to
    have hg1 : getF ((d.find from_ (rightB to)).2.2.drop to).fs from_ = some (d.find from_ (rightB to)).1 := by
      show getF (delF _ to) from_ = _
      rw [getF_delF_other he.2]; exact hg'
    have h2 := h1.drop from_
    have hgt : getF (((d.find from_ (rightB to)).2.2.drop to).drop from_).fs to = none := by
      show getF (delF (delF _ to) from_) to = none
      rw [getF_delF_other (fun e => he.2 e.symm), getF_delF_same]
    have hk := ho.kept _ (mem_of_getF hg')
    have hlt := length_delF_lt hg1
    have hfew := h1.few
    have hused : (((d.find from_ (rightB to)).2.2.drop to).drop from_).used + ((d.find from_ (rightB to)).1.s.size : Int) = ((d.find from_ (rightB to)).2.2.drop to).used := by
      show ((d.find from_ (rightB to)).2.2.drop to).used - szO (getF ((d.find from_ (rightB to)).2.2.drop to).fs from_) + _ = _
      rw [hg1]
      simp only [szO]
      omega
    refine h2.put to _ _ hrt hk ?_ ?_ ?_
    · rw [length_putF_new _ _ _ hgt]
      show (delF ((d.find from_ (rightB to)).2.2.drop to).fs from_).length + 1 ≤ 200
      omega
    · rw [sumF_putF _ _ h2.order, hgt, h2.sum']
      simp [szO]
    · rw [hused]
      exact h1.used1
theorem Ok.arm {d : DiskM} (h : d.Ok) (n : Int) (h1 : n ≤ 9223372036854775807) : (d.arm n).Ok := by
  obtain ⟨h1, h2, h3, h4, h5, h6, h7, h8, h9, h10, h11, h12, h13⟩ := h
  exact ⟨h1, h2, h3, h4, by show -1 ≤ max (-1) n; omega, by show max (-1) n ≤ _; omega, h7, h8, h9, h10, h11, h12, h13⟩
end DiskM

namespace BudM
theorem Ok.take {b : BudM} (h : b.Ok) (n : Int) : (b.take n).2.Ok := by
  unfold BudM.take
  split
  · exact h
  · split
    · exact h
    · obtain ⟨h1, h2, h3, h4, h5⟩ := h
      unfold BudM.left at *
      constructor <;> simp only <;> omega
theorem Ok.give {b : BudM} (h : b.Ok) (n : Int) : (b.give n).Ok := by
  unfold BudM.give
  split
  · obtain ⟨h1, h2, h3, h4, h5⟩ := h
    constructor <;> simp only <;> omega
  · exact h
end BudM
end Go.Proofs.YtffjnilmpeihiaaGreatDoor
