/- The disk's names: which letters, which names may be. -/
import Derived.Test.YtffjnilmpeihiaaGreatDoorFs0
import Derived.Lib.ConvBytes
set_option linter.unusedVariables false
set_option linter.unusedSimpArgs false
namespace Go.Proofs.YtffjnilmpeihiaaGreatDoor
open Go Go.RowKit Go.Maps

def letterI (n : Int) : Bool := (decide (97 ≤ n) && decide (n ≤ 122)) || (decide (48 ≤ n) && decide (n ≤ 57)) || decide (n = 46)
theorem letterB_eq (c : UInt8) : letterB c = letterI (c.toNat : Int) := by
  unfold letterB letterI
  rw [Bool.eq_iff_iff]
  simp only [Bool.or_eq_true, Bool.and_eq_true, decide_eq_true_eq, beq_iff_eq]
  omega

set_option maxHeartbeats 800000 in
theorem fs_letter (n : Int) (h0 : 0 ≤ n) (h1 : n ≤ 255) (w : World) :
    Calls Tryz.prog 43 #[.int .u8 n] w fun e w' => e = .returned (.bool (letterI n)) ∧ w = w' := by
  have key : ∀ b : Bool, letterI n = b → Calls Tryz.prog 43 #[.int .u8 n] w (fun e w' => e = .returned (.bool b) ∧ w = w') → Calls Tryz.prog 43 #[.int .u8 n] w fun e w' => e = .returned (.bool (letterI n)) ∧ w = w' := by
    rintro b rfl h; exact h
  by_cases a : 97 ≤ n
  · by_cases b : n ≤ 122
    · refine key true (by simp [letterI, a, b]) ?_
      go_enter Tryz.func43, Tryz.ntmps43
      go_wp2
      go_ret
      exact ⟨rfl, rfl⟩
    · refine key false (by simp [letterI, a, b]; omega) ?_
      have hb : (n == 46) = false := by simp; omega
      have hc : decide (n ≤ 57) = false := by simp; omega
      have hd : decide (n ≤ 122) = false := by simp; omega
      go_enter Tryz.func43, Tryz.ntmps43
      go_wp2
      go_ret
      exact ⟨rfl, rfl⟩
  · by_cases c : 48 ≤ n
    · by_cases d : n ≤ 57
      · refine key true (by simp [letterI, c, d]) ?_
        go_enter Tryz.func43, Tryz.ntmps43
        go_wp2
        go_ret
        exact ⟨rfl, rfl⟩
      · refine key false (by simp [letterI, a, d]; omega) ?_
        have hb : (n == 46) = false := by simp; omega
        go_enter Tryz.func43, Tryz.ntmps43
        go_wp2
        go_ret
        exact ⟨rfl, rfl⟩
    · by_cases e : n = 46
      · refine key true (by simp [letterI, e]) ?_
        have hb : (n == 46) = true := by simp [e]
        clear e key
        go_enter Tryz.func43, Tryz.ntmps43
        go_wp2
        go_ret
        exact ⟨rfl, rfl⟩
      · refine key false (by simp [letterI, a, c, e]) ?_
        have hb : (n == 46) = false := by simp [e]
        go_enter Tryz.func43, Tryz.ntmps43
        go_wp2
        go_ret
        exact ⟨rfl, rfl⟩

/-- The world behind '[]byte(s)': facts alone. -/
structure BytesIn (w w1 : World) (s : ByteArray) : Prop where
  cell : ∀ j, j < s.size → w1.cell? ⟨w.heap.size, j, none⟩ = some (.int .u8 ((s.data.toList.getD j 0).toNat : Int))
  below : Below w.heap.size w w1
theorem bytesIn (w : World) (e : TypeId) (s : ByteArray) : BytesIn w (Lib.bytesWorld w e s) s :=
  ⟨fun j hj => Lib.bytesWorld_cell w e s j hj, ⟨rfl, rfl, rfl, by rw [Lib.bytesWorld_size]; omega, fun k hk => Lib.bytesWorld_at_old w e s k hk⟩⟩

def RightPost (w : World) (s : ByteArray) (e : Ending) (w' : World) : Prop := e = .returned (.bool (rightB s.data.toList)) ∧ Below w.heap.size w w'

set_option maxHeartbeats 1600000 in
theorem fs_right (s : ByteArray) (w : World) (hs : s.size ≤ 9223372036854775807) :
    Calls Tryz.prog 31 #[.string s] w (RightPost w s) := by
  have kc := fun w => Lib.run_convert_string_bytes (P := Tryz.prog) w 9 80 5 s Tryz.underlying9 Tryz.underlying80 Tryz.underlying5
  have hB := bytesIn w 5 s
  go_enter Tryz.func31, Tryz.ntmps31
  go_wp2
  clear kc
  generalize Lib.bytesWorld w 5 s = w1 at *
  generalize grownCap w s.size 0 5 = cap at *
  go_loop [8] (fun i => ∃ k : Nat, k ≤ s.size ∧ i = .int .i64 k ∧ (s.data.toList.take k).all letterB = true) (fun i => s.size - (intOf i).toNat)
  case atStart => exact ⟨0, Nat.zero_le _, rfl, rfl⟩
  case round =>
    obtain ⟨k, hk, rfl, hall⟩ := hrel
    have HA := Lib.hid hall
    clear hall
    by_cases hlt : k < s.size
    · have hc := hB.cell k hlt
      have hlt' : k < s.data.toList.length := by simpa using hlt
      obtain ⟨c, hcc⟩ : ∃ c, c = s.data.toList.getD k 0 := ⟨_, rfl⟩
      rw [← hcc] at hc
      have hn1 : (c.toNat : Int) ≤ 255 := by have := c.toNat_lt; omega
      have HC := Lib.hid hcc
      clear hcc
      cases hl : letterI (c.toNat : Int) with
      | true =>
        have HL := Lib.hid hl
        have hlet := (fs_letter (c.toNat : Int) (by omega) hn1 w1)
        rw [hl] at hlet
        have HLE := Lib.hid hlet
        clear hl hlet
        go_wp2_with (go_at_call 43; refine HLE.out.mono ?_; rintro e w' ⟨rfl, rfl⟩)
        go_round
        case rel =>
          refine ⟨k + 1, by omega, by go_num, ?_⟩
          rw [List.take_succ_eq_append_getElem hlt', List.all_append, HA.out]
          have hg : s.data.toList[k] = c := by rw [HC.out, List.getD_eq_getElem?_getD, List.getElem?_eq_getElem hlt']; rfl
          simp [hg, letterB_eq, HL.out]
        case measure => simp [intOf]; omega
      | false =>
        have hlet := (fs_letter (c.toNat : Int) (by omega) hn1 w1)
        rw [hl] at hlet
        have HLE := Lib.hid hlet
        have hr : rightB s.data.toList = false := by
          have hg : s.data.toList[k] = c := by rw [HC.out, List.getD_eq_getElem?_getD, List.getElem?_eq_getElem hlt']; rfl
          have : s.data.toList.all letterB = false := by
            rw [List.all_eq_false]
            exact ⟨c, by rw [← hg]; exact List.getElem_mem hlt', by rw [letterB_eq, hl]; simp⟩
          unfold rightB
          rw [this]; rfl
        have fin : RightPost w s (.returned (.bool false)) w1 := ⟨by rw [hr], hB.below⟩
        clear hl hlet hr
        go_wp2_with (go_at_call 43; refine HLE.out.mono ?_; rintro e w' ⟨rfl, rfl⟩)
        (try go_ret)
        exact fin
    · have hks : k = s.size := by omega
      have hall : s.data.toList.all letterB = true := by
        have := HA.out
        rw [List.take_of_length_le (by simp; omega)] at this
        exact this
      have fin : ∀ b, b = rightB s.data.toList → RightPost w s (.returned (.bool b)) w1 := fun b hb => ⟨by rw [hb], hB.below⟩
      have hr : rightB s.data.toList = (!s.data.toList.isEmpty && decide (s.data.toList.length ≤ 24)) := by unfold rightB; rw [hall]; simp
      clear hall HA hks
      have HR := Lib.hid hr
      have HF := Lib.hid fin
      clear hr fin
      go_wp2
      all_goals go_ret
      · have h0 : s.toList = [] := by assumption
        refine HF.out _ ?_
        rw [HR.out, ← ByteArray.toList_eq, h0]
        rfl
      · refine HF.out _ ?_
        rw [HR.out, ← ByteArray.toList_eq]
        have e1 : decide ((s.size : Int) ≤ 24) = decide (s.toList.length ≤ 24) := by
          refine decide_eq_decide.2 ?_
          rw [ByteArray.toList_eq, Array.length_toList]
          show (s.size : Int) ≤ 24 ↔ s.size ≤ 24
          omega
        rw [← e1]
end Go.Proofs.YtffjnilmpeihiaaGreatDoor
