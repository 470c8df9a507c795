/- The law: worlds that nobody made do nothing; then the example. -/
import Derived.Test.YtffjnilmpeihiaaGreatDoorWd6
import Derived.LoopTactic
import Derived.Deep.RegionHeld3
set_option linter.unusedVariables false
set_option linter.unusedSimpArgs false
namespace Go.Proofs.YtffjnilmpeihiaaGreatDoor
open Go Go.RowKit Go.Maps

def Good (w w' : World) : Prop := Below w.heap.size w w'
theorem Good.drew {w w' : World} (h : Good w w') : Good w w'.drew := Below.drew h
abbrev LawS (w1 : World) (z k : Nat) (v : Value) (kk : Int) (name s : ByteArray) (n u : Int) (a : Option Addr) (len cap : Nat) (w' : World) : Prop :=
  w'.cell? ⟨z + 2, k, none⟩ = some v ∧ w'.cell? ⟨z, 0, none⟩ = some (.int .i64 kk) ∧ w'.cell? ⟨z, 1, none⟩ = some (.string name) ∧ w'.cell? ⟨z, 2, none⟩ = some (.string s) ∧ w'.cell? ⟨z, 3, none⟩ = some (.int .i64 n) ∧ w'.cell? ⟨z, 4, none⟩ = some (.int .u32 u) ∧ w'.cell? ⟨z, 5, none⟩ = some (.slice a len cap) ∧ Good w1 w'
set_option maxRecDepth 100000 in
set_option maxHeartbeats 6400000 in
theorem law_walk (kk : Int) (name s : ByteArray) (n u : Int) (a : Option Addr) (len cap : Nat) (w : World) :
    Calls Tryz.prog 3 #[actA kk name s n u a len cap] w fun e w' => e = .returned (.bool true) ∧ Below w.heap.size w w' := by
  unfold actA
  go_enter Tryz.func3, Tryz.ntmps3
  go_wp2_with fail
  have hA : (((w.alloc (.cells #[.int .i64 kk, .string name, .string s, .int .i64 n, .int .u32 u, .slice a len cap] 25)).alloc (.cells #[.pointer none, .slice none 0 0] 30)).alloc (.cells #[.pointer none, .pointer (some ⟨w.heap.size + 1, 0, none⟩)] 26)).heap[w.heap.size]? = some (.cells #[.int .i64 kk, .string name, .string s, .int .i64 n, .int .u32 u, .slice a len cap] 25 (0, 0)) := blk_alloc (blk_alloc (heap_alloc_new w _) _) _
  have hB : (((w.alloc (.cells #[.int .i64 kk, .string name, .string s, .int .i64 n, .int .u32 u, .slice a len cap] 25)).alloc (.cells #[.pointer none, .slice none 0 0] 30)).alloc (.cells #[.pointer none, .pointer (some ⟨w.heap.size + 1, 0, none⟩)] 26)).heap[w.heap.size + 1]? = some (.cells #[.pointer none, .slice none 0 0] 30 (0, 0)) := by
    have := heap_alloc_new (w.alloc (.cells #[.int .i64 kk, .string name, .string s, .int .i64 n, .int .u32 u, .slice a len cap] 25)) (.cells #[.pointer none, .slice none 0 0] 30)
    rw [show (w.alloc (.cells #[.int .i64 kk, .string name, .string s, .int .i64 n, .int .u32 u, .slice a len cap] 25)).heap.size = w.heap.size + 1 by simp] at this
    exact blk_alloc this _
  have hC : (((w.alloc (.cells #[.int .i64 kk, .string name, .string s, .int .i64 n, .int .u32 u, .slice a len cap] 25)).alloc (.cells #[.pointer none, .slice none 0 0] 30)).alloc (.cells #[.pointer none, .pointer (some ⟨w.heap.size + 1, 0, none⟩)] 26)).heap[w.heap.size + 2]? = some (.cells #[.pointer none, .pointer (some ⟨w.heap.size + 1, 0, none⟩)] 26 (0, 0)) := by
    have := heap_alloc_new ((w.alloc (.cells #[.int .i64 kk, .string name, .string s, .int .i64 n, .int .u32 u, .slice a len cap] 25)).alloc (.cells #[.pointer none, .slice none 0 0] 30)) (.cells #[.pointer none, .pointer (some ⟨w.heap.size + 1, 0, none⟩)] 26)
    rw [show ((w.alloc (.cells #[.int .i64 kk, .string name, .string s, .int .i64 n, .int .u32 u, .slice a len cap] 25)).alloc (.cells #[.pointer none, .slice none 0 0] 30)).heap.size = w.heap.size + 2 by simp] at this
    exact this
  have hW : Below w.heap.size w (((w.alloc (.cells #[.int .i64 kk, .string name, .string s, .int .i64 n, .int .u32 u, .slice a len cap] 25)).alloc (.cells #[.pointer none, .slice none 0 0] 30)).alloc (.cells #[.pointer none, .pointer (some ⟨w.heap.size + 1, 0, none⟩)] 26)) := (((Below.refl _ w).alloc (Nat.le_refl _) _).alloc (by simp) _).alloc (by simp; omega) _
  have hws : (((w.alloc (.cells #[.int .i64 kk, .string name, .string s, .int .i64 n, .int .u32 u, .slice a len cap] 25)).alloc (.cells #[.pointer none, .slice none 0 0] 30)).alloc (.cells #[.pointer none, .pointer (some ⟨w.heap.size + 1, 0, none⟩)] 26)).heap.size = w.heap.size + 3 := by simp
  generalize (((w.alloc (.cells #[.int .i64 kk, .string name, .string s, .int .i64 n, .int .u32 u, .slice a len cap] 25)).alloc (.cells #[.pointer none, .slice none 0 0] 30)).alloc (.cells #[.pointer none, .pointer (some ⟨w.heap.size + 1, 0, none⟩)] 26)) = w1 at *
  have HA := Lib.hid hA
  have HB := Lib.hid hB
  have HC := Lib.hid hC
  have HW := Lib.hid hW
  have HWS := Lib.hid hws
  clear hA hB hC hW hws
  go_loopw [4] (fun i wr => ∃ k : Nat, k ≤ 2 ∧ i = .int .i64 k ∧ Good w1 wr) (fun i _ => 2 - (intOf i).toNat)
  case atStart => exact ⟨0, by omega, rfl, Below.refl _ _⟩
  case round =>
    obtain ⟨k, hk, rfl, hgood⟩ := hrel
    have HG := Lib.hid hgood
    by_cases hlt : k < 2
    · obtain ⟨v, hv, hun⟩ : ∃ v, w1.cell? ⟨w.heap.size + 2, k, none⟩ = some v ∧ Unmade w1 v := by
        rcases (by omega : k = 0 ∨ k = 1) with rfl | rfl
        · exact ⟨_, blk_cell HC.out 0, .inl rfl⟩
        · exact ⟨_, blk_cell HC.out 1, .inr ⟨_, rfl, HB.out⟩⟩
      have HV := Lib.hid hv
      have HU := Lib.hid hun
      have sof : ∀ w', Good w1 w' → LawS w1 w.heap.size k v kk name s n u a len cap w' := fun w' hg => by
        have hAr := (Below.block hg w.heap.size (by rw [HWS.out]; omega)).trans HA.out
        exact ⟨(Below.cell hg (p := ⟨w.heap.size + 2, k, none⟩) (by rw [HWS.out]; simp)).trans HV.out, blk_cell hAr 0, blk_cell hAr 1, blk_cell hAr 2, blk_cell hAr 3, blk_cell hAr 4, blk_cell hAr 5, hg⟩
      have HSO := Lib.hid sof
      have good : ∀ w', LawS w1 w.heap.size k v kk name s n u a len cap w' → Good w1 w' := fun w' h => h.2.2.2.2.2.2.2
      have HGO := Lib.hid good
      have HRD : Hid (∀ w', LawS w1 w.heap.size k v kk name s n u a len cap w' → Calls Tryz.prog 4 #[v, .string name] w' fun e w'' => e = .returned (.tuple #[.string ⟨#[]⟩, .bool false]) ∧ LawS w1 w.heap.size k v kk name s n u a len cap w'') := Lib.hid (fun w' h => (read_unmade (HU.out.below (HGO.out _ h)) _).mono fun e w'' ⟨he, hw⟩ => ⟨he, by rw [← hw]; exact h⟩)
      have HNM : Hid (∀ w', LawS w1 w.heap.size k v kk name s n u a len cap w' → Calls Tryz.prog 7 #[v] w' fun e w'' => e = .returned (.slice none 0 0) ∧ LawS w1 w.heap.size k v kk name s n u a len cap w'') := Lib.hid (fun w' h => (names_unmade (HU.out.below (HGO.out _ h))).mono fun e w'' ⟨he, hw⟩ => ⟨he, by rw [← hw]; exact h⟩)
      have HOF : Hid (∀ w', LawS w1 w.heap.size k v kk name s n u a len cap w' → Calls Tryz.prog 6 #[.agg #[.int .i64 kk, .string name, .string s, .int .i64 n, .int .u32 u, .slice a len cap]] w' fun e w'' => e = .returned (.agg #[.int .i64 kk, .string name, .string s, .int .i64 n, .int .u32 u, .slice a len cap]) ∧ LawS w1 w.heap.size k v kk name s n u a len cap w'') :=
        Lib.hid (fun w' h => (law_of kk name s n u a len cap w').mono fun e w'' ⟨he, hb⟩ => ⟨he, HSO.out _ (Below.trans (HGO.out _ h) (hb.mono (HGO.out _ h).size))⟩)
      have HDO : Hid (∀ w', LawS w1 w.heap.size k v kk name s n u a len cap w' → Calls Tryz.prog 5 #[v, .agg #[.int .i64 kk, .string name, .string s, .int .i64 n, .int .u32 u, .slice a len cap]] w' fun e w'' => e = .returned (.agg #[.int .i64 1, .int .i64 0, .int .i64 0]) ∧ LawS w1 w.heap.size k v kk name s n u a len cap w'') :=
        Lib.hid (fun w' h => (do_unmade (HU.out.below (HGO.out _ h)) kk name s n u a len cap).mono fun e w'' ⟨he, hb⟩ => ⟨he, HSO.out _ (Below.trans (HGO.out _ h) (hb.mono (HGO.out _ h).size))⟩)
      have HS1 := Lib.hid (sof wr.drew (Good.drew hgood))
      clear hv hun sof good hgood
      go_wp2_with fail
      have hS1 := HS1.out
      go_region_held3 (fun w' => (w'.cell? ⟨w.heap.size + 2, k, none⟩ = some v ∧ w'.cell? ⟨w.heap.size, 0, none⟩ = some (.int .i64 kk) ∧ w'.cell? ⟨w.heap.size, 1, none⟩ = some (.string name) ∧ w'.cell? ⟨w.heap.size, 2, none⟩ = some (.string s) ∧ w'.cell? ⟨w.heap.size, 3, none⟩ = some (.int .i64 n) ∧ w'.cell? ⟨w.heap.size, 4, none⟩ = some (.int .u32 u) ∧ w'.cell? ⟨w.heap.size, 5, none⟩ = some (.slice a len cap) ∧ Good w1 w')) (first | exact hS1 | exact hS5)
        (first
          | (go_at_call 4; refine (HRD.out _ (by assumption)).mono ?_; rintro e w5 ⟨rfl, hS5⟩))
      all_goals
        go_wp2_with fail
        have hS2 := HSO.out w5.drew (Good.drew (HGO.out w5 hS5))
        go_region_held3 (fun w' => (w'.cell? ⟨w.heap.size + 2, k, none⟩ = some v ∧ w'.cell? ⟨w.heap.size, 0, none⟩ = some (.int .i64 kk) ∧ w'.cell? ⟨w.heap.size, 1, none⟩ = some (.string name) ∧ w'.cell? ⟨w.heap.size, 2, none⟩ = some (.string s) ∧ w'.cell? ⟨w.heap.size, 3, none⟩ = some (.int .i64 n) ∧ w'.cell? ⟨w.heap.size, 4, none⟩ = some (.int .u32 u) ∧ w'.cell? ⟨w.heap.size, 5, none⟩ = some (.slice a len cap) ∧ Good w1 w')) (first | exact hS2 | exact hS6 | exact hS7 | exact hS8)
          (first
            | (go_at_call 6; refine (HOF.out _ (by assumption)).mono ?_; rintro e w6 ⟨rfl, hS6⟩)
            | (go_at_call 5; refine (HDO.out _ (by assumption)).mono ?_; rintro e w7 ⟨rfl, hS7⟩)
            | (go_at_call 7; refine (HNM.out _ (by assumption)).mono ?_; rintro e w8 ⟨rfl, hS8⟩))
        go_wp2_with fail
        go_roundw
        case rel => exact ⟨k + 1, by omega, by go_num, HGO.out _ hS8⟩
        case measure => simp [intOf]; omega
    · have HGW := Lib.hid (law_awake wr)
      clear hgood
      go_wp2_with fail
      refine HGW.out.mono ?_
      rintro e w3 ⟨rfl, hb3⟩
      go_wp2_with fail
      (try go_ret)
      exact ⟨rfl, (HW.out.trans (HG.out.mono HW.out.size)).trans (hb3.mono (by have := HW.out.size; have := HG.out.size; omega))⟩
end Go.Proofs.YtffjnilmpeihiaaGreatDoor
