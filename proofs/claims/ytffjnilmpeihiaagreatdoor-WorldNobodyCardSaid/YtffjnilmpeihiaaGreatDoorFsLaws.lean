/- The map of files, at the operations of a walk. -/
import Derived.Test.YtffjnilmpeihiaaGreatDoorCore
import Derived.Test.YtffjnilmpeihiaaGreatDoorDataRise
set_option linter.unusedVariables false
set_option linter.unusedSimpArgs false
namespace Go.Proofs.YtffjnilmpeihiaaGreatDoor
open Go Go.RowKit Go.Maps Go.WideMaps

def zeroF : FileM := ⟨ByteArray.empty, 0⟩
theorem zero_file (w : World) : (zeroValue 57).run Tryz.prog w = .ok (.agg #[.string ByteArray.empty, .int .i64 0]) w := by kernel_rfl

theorem look_file {w : World} {b n : Nat} {fs : FilesM} (h : w.ownsMap Tryz.prog 9 fileR b n (filesD fs)) (s : ByteArray) (hs : s.size ≤ maxLen) :
    (Instr.lookup 60 (.map (some b)) (.string s) true).run Tryz.prog w = .ok (.tuple #[.agg #[.string (fileAt fs s.data.toList).s, .int .i64 (fileAt fs s.data.toList).kept], .bool (getF fs s.data.toList).isSome]) w := by
  obtain ⟨v, ps, hrun, hv⟩ := h.look_ok keyStr Tryz.underlying60 (zero_file w) (zd := fileD zeroF) (zp := []) rfl (keyOf_string_mk Tryz.underlying9 hs)
  rw [hrun, filesD_has, hasF_getF]
  rw [filesD_at] at hv
  obtain ⟨f, rfl, hf⟩ := fileR_inv hv
  have : f = fileAt fs s.data.toList := by
    unfold fileAt
    cases hg : getF fs s.data.toList with
    | none =>
      rw [hg] at hf
      simp only [Prod.mk.injEq] at hf
      exact (fileD_inj hf.1).symm
    | some f' =>
      rw [hg] at hf
      simp only [Prod.mk.injEq] at hf
      exact (fileD_inj hf.1).symm
  rw [← this]
  rfl
theorem look_file1 {w : World} {b n : Nat} {fs : FilesM} (h : w.ownsMap Tryz.prog 9 fileR b n (filesD fs)) (s : ByteArray) (hs : s.size ≤ maxLen) :
    (Instr.lookup 60 (.map (some b)) (.string s) false).run Tryz.prog w = .ok (.agg #[.string (fileAt fs s.data.toList).s, .int .i64 (fileAt fs s.data.toList).kept]) w := by
  obtain ⟨v, ps, hrun, hv⟩ := h.lookup keyStr Tryz.underlying60 (zero_file w) (zd := fileD zeroF) (zp := []) rfl (keyOf_string_mk Tryz.underlying9 hs)
  rw [hrun]
  rw [filesD_at] at hv
  obtain ⟨f, rfl, hf⟩ := fileR_inv hv
  have : f = fileAt fs s.data.toList := by
    unfold fileAt
    cases hg : getF fs s.data.toList with
    | none =>
      rw [hg] at hf
      simp only [Prod.mk.injEq] at hf
      exact (fileD_inj hf.1).symm
    | some f' =>
      rw [hg] at hf
      simp only [Prod.mk.injEq] at hf
      exact (fileD_inj hf.1).symm
  rw [← this]
  rfl

theorem field_s (s : ByteArray) (k : Int) (w : World) : (Instr.field 57 (.agg #[.string s, .int .i64 k]) 0).run Tryz.prog w = .ok (.string s) w := by kernel_rfl

/-- 'm[k] = f' at the operation. -/
theorem wpList_put_file (w : World) {ops : Array Oper} {rest : List Oper} {o : Oper} {a : Act} {Q : Exit → Act → World → Prop}
    (hg : o.guard = none) (m x v : Operand) (hop : o.op = Op.mapUpdate 60 m x v) (b n : Nat) (fs : FilesM) (s t : ByteArray) (k : Int)
    (hm : a.eval m = .map (some b)) (hown : w.ownsMap Tryz.prog 9 fileR b n (filesD fs)) (hn : n < maxLen) (hx : a.eval x = .string s) (hs : s.size ≤ maxLen) (hv : a.eval v = .agg #[.string t, .int .i64 k])
    (hK : ∀ w', w'.ownsMap Tryz.prog 9 fileR b (putF fs s.data.toList ⟨t, k⟩).length (filesD (putF fs s.data.toList ⟨t, k⟩)) → w.mapTurned w' b → wpList Tryz.prog ops Q rest (a.put o.dst undef) w') :
    wpList Tryz.prog ops Q (o :: rest) a w :=
  wpList_mapUpdate_in w hg m x v 60 hop 9 57 keyStr Tryz.underlying60 fileR b n (filesD fs) hm hown hn (.string s) (.agg #[.string t, .int .i64 k]) (.string s.data.toList) hx hv
    (keyOf_string_mk Tryz.underlying9 hs) (fileD ⟨t, k⟩) [] rfl (fun w' h1 h2 => hK w' (by rw [filesD_put] at h1; have := ownsMap_exact h1; rw [filesD_size] at this; exact this) h2)
/-- 'delete(m, k)' at the operation. -/
theorem wpList_del_file (w : World) {ops : Array Oper} {rest : List Oper} {o : Oper} {a : Act} {Q : Exit → Act → World → Prop}
    (hg : o.guard = none) (m x : Operand) (hop : o.op = Op.call { callee := Callee.builtin Builtin.delete, args := #[m, x], argTypes := #[60, 9] }) (b n : Nat) (fs : FilesM) (s : ByteArray)
    (hm : a.eval m = .map (some b)) (hown : w.ownsMap Tryz.prog 9 fileR b n (filesD fs)) (hx : a.eval x = .string s) (hs : s.size ≤ maxLen)
    (hK : ∀ w', w'.ownsMap Tryz.prog 9 fileR b (delF fs s.data.toList).length (filesD (delF fs s.data.toList)) → w.mapTurned w' b → wpList Tryz.prog ops Q rest (a.put o.dst (.tuple #[])) w') :
    wpList Tryz.prog ops Q (o :: rest) a w :=
  wpList_delete_own w hg m x 60 9 hop 57 keyStr Tryz.underlying60 fileR b n (filesD fs) hm hown (.string s) (.string s.data.toList) hx
    (keyOf_string_mk Tryz.underlying9 hs) (fun w' h1 h2 => hK w' (by rw [filesD_del] at h1; have := ownsMap_exact h1; rw [filesD_size] at this; exact this) h2)
end Go.Proofs.YtffjnilmpeihiaaGreatDoor
