/- No function of the program begins a goroutine, waits, or the like: looked at forty by forty. -/
import Derived.Test.YtffjnilmpeihiaaGreatDoorProg
import GoSem.ClaimSeven
import Derived.KernelRfl
set_option linter.unusedVariables false
namespace Go.Proofs.YtffjnilmpeihiaaGreatDoor
open Go

theorem any_chunks {α : Type} (p : α → Bool) (n : Nat) (hn : 0 < n) (l : List α) (m : Nat) (hl : l.length ≤ n * m) (h : ∀ k, k < m → ((l.drop (n * k)).take n).any p = false) : l.any p = false := by
  rw [List.any_eq_false]
  intro x hx
  obtain ⟨i, hi, rfl⟩ := List.mem_iff_getElem.1 hx
  have hk : i / n < m := (Nat.div_lt_iff_lt_mul hn).2 (by rw [Nat.mul_comm] at hl; omega)
  have hc := h (i / n) hk
  rw [List.any_eq_false] at hc
  have hle : n * (i / n) ≤ i := Nat.mul_div_le i n
  have hlt : i - n * (i / n) < n := by have := Nat.mod_lt i hn; have e := Nat.div_add_mod i n; omega
  refine hc _ (List.mem_iff_getElem.2 ⟨i - n * (i / n), ?_, ?_⟩)
  · rw [List.length_take, List.length_drop]; omega
  · rw [List.getElem_take, List.getElem_drop]
    congr 1
    omega
theorem goes_0 : ((Tryz.prog.funcs.toList.drop (40 * 0)).take 40).any Func.goes = false := by kernel_rfl
theorem goes_1 : ((Tryz.prog.funcs.toList.drop (40 * 1)).take 40).any Func.goes = false := by kernel_rfl
theorem goes_2 : ((Tryz.prog.funcs.toList.drop (40 * 2)).take 40).any Func.goes = false := by kernel_rfl
theorem goes_3 : ((Tryz.prog.funcs.toList.drop (40 * 3)).take 40).any Func.goes = false := by kernel_rfl
theorem goes_4 : ((Tryz.prog.funcs.toList.drop (40 * 4)).take 40).any Func.goes = false := by kernel_rfl
theorem goes_5 : ((Tryz.prog.funcs.toList.drop (40 * 5)).take 40).any Func.goes = false := by kernel_rfl
theorem goes_6 : ((Tryz.prog.funcs.toList.drop (40 * 6)).take 40).any Func.goes = false := by kernel_rfl
theorem goes_7 : ((Tryz.prog.funcs.toList.drop (40 * 7)).take 40).any Func.goes = false := by kernel_rfl
theorem goes_8 : ((Tryz.prog.funcs.toList.drop (40 * 8)).take 40).any Func.goes = false := by kernel_rfl
theorem goes_9 : ((Tryz.prog.funcs.toList.drop (40 * 9)).take 40).any Func.goes = false := by kernel_rfl
theorem goes_10 : ((Tryz.prog.funcs.toList.drop (40 * 10)).take 40).any Func.goes = false := by kernel_rfl
theorem goes_11 : ((Tryz.prog.funcs.toList.drop (40 * 11)).take 40).any Func.goes = false := by kernel_rfl
theorem goes_12 : ((Tryz.prog.funcs.toList.drop (40 * 12)).take 40).any Func.goes = false := by kernel_rfl
theorem funcs_len : Tryz.prog.funcs.toList.length ≤ 40 * 13 := of_decide_eq_true (by kernel_rfl)
theorem goes_all : Tryz.prog.funcs.toList.any Func.goes = false := any_chunks _ 40 (by decide) _ 13 funcs_len fun k hk => by
  match k, hk with
  | 0, _ => exact goes_0
  | 1, _ => exact goes_1
  | 2, _ => exact goes_2
  | 3, _ => exact goes_3
  | 4, _ => exact goes_4
  | 5, _ => exact goes_5
  | 6, _ => exact goes_6
  | 7, _ => exact goes_7
  | 8, _ => exact goes_8
  | 9, _ => exact goes_9
  | 10, _ => exact goes_10
  | 11, _ => exact goes_11
  | 12, _ => exact goes_12
  | k + 13, hk => omega
theorem goes_at (g : FuncId) : (Tryz.prog.funcs[g]?).any Func.goes = false := by
  cases hg : Tryz.prog.funcs[g]? with
  | none => rfl
  | some fn =>
    have h := goes_all
    rw [List.any_eq_false] at h
    have hm : fn ∈ Tryz.prog.funcs.toList := by
      rw [Array.mem_toList_iff]
      exact Array.mem_of_getElem? hg
    simpa using h fn hm
theorem goes_by (f : FuncId) : Tryz.prog.goes f = false := by
  unfold Program.goes
  have h1 : ((Tryz.prog.closure f).any fun g => (Tryz.prog.funcs[g]?).any Func.goes) = false := by
    rw [List.any_eq_false]
    intro g _
    rw [goes_at]
    decide
  have h2 : Tryz.prog.funcs.any Func.goes = false := by
    rw [← Array.any_toList]
    exact goes_all
  rw [h1, h2]
  simp
theorem goes_from (func : String) : Tryz.prog.goesFrom func = false := by
  unfold Program.goesFrom
  generalize Tryz.prog.funcNamed func = o
  cases o with
  | none => rfl
  | some f =>
    rw [Option.any_some]
    exact goes_by f
end Go.Proofs.YtffjnilmpeihiaaGreatDoor
