/- A world that nobody made does nothing, and does not fail: the law returns true at every act; its argument reads as it did. No condition. -/
import Derived.Test.YtffjnilmpeihiaaGreatDoorTie
import Derived.Test.YtffjnilmpeihiaaGreatDoorCards
import Derived.Test.YtffjnilmpeihiaaGreatDoorWd7
import Derived.Test.YtffjnilmpeihiaaGreatDoorGoes
import Derived.ProofKit
import Derived.LaidMore
import Derived.OpenShut
import Derived.ShutString
import Derived.ChangeOld
import Derived.Stop.Joined
import Derived.SevenTiedAt
set_option linter.unusedVariables false
set_option linter.unusedSimpArgs false
namespace Go.Proofs.YtffjnilmpeihiaaGreatDoor
open Go Go.ChangeShapes Go.WideShapes Go.ChangeAt Go.WideMaps Go.WideElems Go.RowKit

theorem own : ownKnob Tryz.prog.godebug = none := by kernel_rfl
theorem laidOut : laidOutB Tryz.prog = true := by kernel_rfl
theorem act_types : Tryz.prog.cellTypes Tryz.prog.depth 25 = some [3, 9, 9, 3, 22, 23] := by kernel_rfl
theorem act_cells : Tryz.prog.cellsOf 25 = 6 := by kernel_rfl
set_option maxRecDepth 100000 in
theorem open_act {W : World} {r : Reach} {base : Nat} {v : Value} (h : Value.okWide Tryz.prog W r base 25 v) : ∃ k name s n u a len cap, v = actA k name s n u a len cap := by
  have h2 : ∃ cs, v = .agg cs ∧ cs.size = Tryz.prog.cellsOf 25 ∧ Row.okWide Tryz.prog W r base 25 cs := by
    simpa only [Value.okWide, Tryz.underlying25] using h
  obtain ⟨cs, rfl, hsz, ts, hts, _, hall⟩ := h2
  rw [act_types] at hts
  obtain rfl := Option.some.inj hts
  rw [act_cells] at hsz
  obtain ⟨l⟩ := cs
  match l, hsz with
  | [c0, c1, c2, c3, c4, c5], _ =>
    have g0 : Cell.okWide Tryz.prog W r base 3 c0 := by obtain ⟨u, e, hc⟩ := hall 0 c0 rfl; obtain rfl := Option.some.inj e; exact hc
    have g1 : Cell.okWide Tryz.prog W r base 9 c1 := by obtain ⟨u, e, hc⟩ := hall 1 c1 rfl; obtain rfl := Option.some.inj e; exact hc
    have g2 : Cell.okWide Tryz.prog W r base 9 c2 := by obtain ⟨u, e, hc⟩ := hall 2 c2 rfl; obtain rfl := Option.some.inj e; exact hc
    have g3 : Cell.okWide Tryz.prog W r base 3 c3 := by obtain ⟨u, e, hc⟩ := hall 3 c3 rfl; obtain rfl := Option.some.inj e; exact hc
    have g4 : Cell.okWide Tryz.prog W r base 22 c4 := by obtain ⟨u, e, hc⟩ := hall 4 c4 rfl; obtain rfl := Option.some.inj e; exact hc
    have g5 : Cell.okWide Tryz.prog W r base 23 c5 := by obtain ⟨u, e, hc⟩ := hall 5 c5 rfl; obtain rfl := Option.some.inj e; exact hc
    obtain ⟨k, rfl⟩ := okWide_int Tryz.underlying3 (show Value.okWide Tryz.prog W r base 3 c0 by simpa only [Value.okWide, Tryz.underlying3] using g0)
    obtain ⟨name, rfl⟩ := okWide_string Tryz.underlying9 (show Value.okWide Tryz.prog W r base 9 c1 by simpa only [Value.okWide, Tryz.underlying9] using g1)
    obtain ⟨s, rfl⟩ := okWide_string Tryz.underlying9 (show Value.okWide Tryz.prog W r base 9 c2 by simpa only [Value.okWide, Tryz.underlying9] using g2)
    obtain ⟨n, rfl⟩ := okWide_int Tryz.underlying3 (show Value.okWide Tryz.prog W r base 3 c3 by simpa only [Value.okWide, Tryz.underlying3] using g3)
    obtain ⟨u, rfl⟩ := okWide_int Tryz.underlying22 (show Value.okWide Tryz.prog W r base 22 c4 by simpa only [Value.okWide, Tryz.underlying22] using g4)
    obtain ⟨a, len, cap, rfl⟩ := okWide_slice Tryz.underlying23 (show Value.okWide Tryz.prog W r base 23 c5 by simpa only [Value.okWide, Tryz.underlying23] using g5)
    exact ⟨k, name, s, n, u, a, len, cap, rfl⟩

end Go.Proofs.YtffjnilmpeihiaaGreatDoor
