/- What a rise makes of a disk; no program in sight. -/
import Derived.Test.YtffjnilmpeihiaaGreatDoorDataLaws
set_option linter.unusedVariables false
set_option linter.unusedSimpArgs false
namespace Go.Proofs.YtffjnilmpeihiaaGreatDoor
open Go Go.RowKit Go.Maps

def namesF (fs : FilesM) : List (List UInt8) := fs.map (·.1)
/-- The file of a name, or none. -/
def fileAt (fs : FilesM) (k : List UInt8) : FileM := (getF fs k).getD ⟨ByteArray.empty, 0⟩

theorem bb_asymm {a b : List UInt8} (h : bytesBefore a b = true) : bytesBefore b a = false := by
  cases h2 : bytesBefore b a
  · rfl
  · have := bb_trans h h2
    rw [bb_irrefl] at this
    cases this
theorem insF_first {x : List UInt8 × FileM} : ∀ {fs : FilesM}, (∀ y ∈ fs, bytesBefore x.1 y.1 = true) → insF x fs = x :: fs
  | [], _ => rfl
  | y :: r, h => by unfold insF; rw [if_pos (h y (by simp))]
/-- A store at a key that is there: in its place. -/
theorem putF_map {k : List UInt8} {f : FileM} : ∀ {fs : FilesM}, fs.Pairwise (fun p q => bytesBefore p.1 q.1 = true) → (∃ g, (k, g) ∈ fs) → putF fs k f = fs.map fun p => if p.1 = k then (k, f) else p
  | [], _, h => by obtain ⟨g, h⟩ := h; simp at h
  | z :: r, ho, h => by
    rw [List.pairwise_cons] at ho
    by_cases e : z.1 = k
    · have hr : ∀ y ∈ r, y.1 ≠ k := fun y hy e2 => bb_ne (ho.1 y hy) (e.trans e2.symm)
      have hf : (r.filter fun p => !(p.1 == k)) = r := List.filter_eq_self.2 (fun p hp => by simpa using hr p hp)
      unfold putF
      rw [List.filter_cons_of_neg (by simp [e]), hf, insF_first (x := (k, f)) (fun y hy => by rw [← e]; exact ho.1 y hy)]
      rw [List.map_cons, if_pos e]
      congr 1
      symm
      rw [List.map_congr_left (g := id) (fun y hy => by rw [if_neg (hr y hy)]; rfl)]
      simp
    · obtain ⟨g, hg⟩ := h
      have hgr : (k, g) ∈ r := by
        rcases List.mem_cons.1 hg with rfl | h
        · exact absurd rfl e
        · exact h
      have hb := bb_asymm (ho.1 _ hgr)
      have ih := putF_map (f := f) ho.2 ⟨g, hgr⟩
      unfold putF at ih ⊢
      rw [List.filter_cons_of_pos (by simp [e])]
      unfold insF
      rw [if_neg (by simp only [hb]; decide), ih, List.map_cons, if_neg e]
theorem names_putF {k : List UInt8} {f g : FileM} {fs : FilesM} (ho : fs.Pairwise fun p q => bytesBefore p.1 q.1 = true) (h : getF fs k = some g) : namesF (putF fs k f) = namesF fs := by
  rw [putF_map ho ⟨g, mem_of_getF h⟩]
  unfold namesF
  rw [List.map_map]
  refine List.map_congr_left fun p hp => ?_
  simp only [Function.comp]
  split
  · rename_i e; exact e.symm
  · rfl
theorem getF_of_names {fs : FilesM} {k : List UInt8} (h : k ∈ namesF fs) : ∃ f, getF fs k = some f := by
  unfold namesF at h
  rw [List.mem_map] at h
  obtain ⟨p, hp, rfl⟩ := h
  cases hg : getF fs p.1 with
  | some f => exact ⟨f, rfl⟩
  | none => exact absurd rfl (getF_none_of hg p hp)
theorem fileAt_of {fs : FilesM} {k : List UInt8} {f : FileM} (h : getF fs k = some f) : fileAt fs k = f := by unfold fileAt; rw [h]; rfl

namespace DiskM
def riseN (keep : List Int) (i : Nat) (f : FileM) : Int := if i < keep.length then max 0 (min (keep.getD i 0) ((f.s.size : Int) - f.kept)) else 0
def riseFile (f : FileM) (n : Int) : FileM := ⟨f.s.extract 0 (f.kept + n).toNat, f.kept + n⟩
def riseStep (keep : List Int) (d : DiskM) (i : Nat) (name : List UInt8) : DiskM :=
  { d with fs := putF d.fs name (riseFile (fileAt d.fs name) (riseN keep i (fileAt d.fs name))), used := d.used - ((fileAt d.fs name).s.size - ((fileAt d.fs name).kept + riseN keep i (fileAt d.fs name))) }
def riseTo (keep : List Int) (names : List (List UInt8)) (d : DiskM) : Nat → DiskM
  | 0 => d
  | k + 1 => riseStep keep (riseTo keep names d k) k (names.getD k [])
def rise (d : DiskM) (keep : List Int) : DiskM := { riseTo keep (namesF d.fs) d d.fs.length with fuse := -1, down := false }

theorem riseN_le (keep : List Int) (i : Nat) (f : FileM) (h : f.kept ≤ f.s.size) : 0 ≤ riseN keep i f ∧ riseN keep i f ≤ f.s.size - f.kept := by
  unfold riseN
  split <;> omega
theorem Ok.riseStep {d : DiskM} (h : d.Ok) (keep : List Int) (i : Nat) {name : List UInt8} (hn : name ∈ namesF d.fs) : (riseStep keep d i name).Ok ∧ namesF (DiskM.riseStep keep d i name).fs = namesF d.fs := by
  obtain ⟨f, hf⟩ := getF_of_names hn
  have hk := h.kept _ (mem_of_getF hf)
  have hr := h.names _ (mem_of_getF hf)
  have hs := h.sum'
  simp only at hk hr
  have hle := riseN_le keep i f hk.2
  have hnames := names_putF (f := riseFile f (riseN keep i f)) h.order hf
  have hsz : ((riseFile f (riseN keep i f)).s.size : Int) = f.kept + riseN keep i f := by
    unfold riseFile
    simp only [ByteArray.size_extract]
    omega
  have hst : DiskM.riseStep keep d i name = { d with fs := putF d.fs name (riseFile f (riseN keep i f)), used := d.used - (f.s.size - (f.kept + riseN keep i f)) } := by
    unfold DiskM.riseStep
    rw [fileAt_of hf]
  rw [hst]
  have hsum := sumF_putF name (riseFile f (riseN keep i f)) h.order
  rw [hf, hsz] at hsum
  simp only [szO] at hsum
  refine ⟨h.put name _ _ hr ⟨?_, ?_⟩ (Nat.le_trans (length_putF_old _ hf) h.few) ?_ ?_, hnames⟩
  · show 0 ≤ f.kept + _
    omega
  · rw [hsz]; exact Int.le_refl _
  · rw [hsum, hs]; omega
  · have := h.used1; omega
theorem Ok.riseTo {d : DiskM} (h : d.Ok) (keep : List Int) : ∀ k, k ≤ d.fs.length → (riseTo keep (namesF d.fs) d k).Ok ∧ namesF (DiskM.riseTo keep (namesF d.fs) d k).fs = namesF d.fs
  | 0, _ => ⟨h, rfl⟩
  | k + 1, hk => by
    obtain ⟨h1, h2⟩ := Ok.riseTo h keep k (by omega)
    have hlen : k < (namesF d.fs).length := by unfold namesF; rw [List.length_map]; omega
    have hm : (namesF d.fs).getD k [] ∈ namesF (DiskM.riseTo keep (namesF d.fs) d k).fs := by
      rw [h2, List.getD_eq_getElem?_getD, List.getElem?_eq_getElem hlen]
      exact List.getElem_mem hlen
    have := h1.riseStep keep k hm
    exact ⟨this.1, this.2.trans h2⟩
theorem Ok.rise {d : DiskM} (h : d.Ok) (keep : List Int) : (d.rise keep).Ok := by
  obtain ⟨h1, h2, h3, h4, h5, h6, h7, h8, h9, h10, h11, h12, h13⟩ := (h.riseTo keep d.fs.length (Nat.le_refl _)).1
  exact ⟨h1, h2, h3, h4, Int.le_refl (-1 : Int), by show (-1 : Int) ≤ _; omega, h7, h8, h9, h10, h11, h12, h13⟩
end DiskM
end Go.Proofs.YtffjnilmpeihiaaGreatDoor
