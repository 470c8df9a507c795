/- All files but some are removed: of a disk without files. -/
import Derived.Test.YtffjnilmpeihiaaGreatDoorJb0
import Derived.LoopTactic
set_option linter.unusedVariables false
set_option linter.unusedSimpArgs false
namespace Go.Proofs.YtffjnilmpeihiaaGreatDoor
open Go Go.RowKit Go.Maps Go.WideMaps

theorem wpList_put_bool (w : World) {ops : Array Oper} {rest : List Oper} {o : Oper} {a : Act} {Q : Exit → Act → World → Prop}
    (hg : o.guard = none) (m x v : Operand) (hop : o.op = Op.mapUpdate 85 m x v) (b n : Nat) (D : DataW Unit) (s : ByteArray) (y : Bool)
    (hm : a.eval m = .map (some b)) (hown : w.ownsMap Tryz.prog 9 (plainElem Tryz.prog 4) b n D) (hn : n < maxLen) (hx : a.eval x = .string s) (hs : s.size ≤ maxLen) (hv : a.eval v = .bool y)
    (hK : ∀ w', w'.ownsMap Tryz.prog 9 (plainElem Tryz.prog 4) b (n + 1) (D.put (.string s.data.toList) (.lit (.bool y))) → w.mapTurned w' b → wpList Tryz.prog ops Q rest (a.put o.dst undef) w') :
    wpList Tryz.prog ops Q (o :: rest) a w :=
  wpList_mapUpdate_in w hg m x v 85 hop 9 4 keyStr Tryz.underlying85 (plainElem Tryz.prog 4) b n D hm hown hn (.string s) (.bool y) (.string s.data.toList) hx hv
    (keyOf_string_mk Tryz.underlying9 hs) (.lit (.bool y)) [] (plainElem_bool Tryz.underlying4 y) hK

set_option maxRecDepth 100000 in
set_option maxHeartbeats 1600000 in
theorem scan_sweep {w : World} {g b : Nat} {d d1 : DiskM} (h : DiskAt w g b d) (hfs : d.fs = []) (hc : d.call true = (0, d1)) (kb : Nat) (s0 s1 : ByteArray) (h0 : w.cell? ⟨kb, 0, none⟩ = some (.string s0)) (h1 : w.cell? ⟨kb, 1, none⟩ = some (.string s1))
    (hs0 : s0.size ≤ maxLen) (hs1 : s1.size ≤ maxLen) :
    Calls Tryz.prog 41 #[.pointer (some ⟨g, 0, none⟩), .slice (some ⟨kb, 0, none⟩) 2 2] w (JobPost w g b d1 (.tuple #[.int .i64 0, .int .i64 0])) := by
  have hmm := @run_makeMap Tryz.prog
  have hlt := h.lt
  have hltb := h.ltb
  have hkb : kb < w.heap.size := World.block_lt_of_cell? w _ h0
  have HC := Lib.hid hc
  have HF := Lib.hid hfs
  clear hc hfs
  go_enter Tryz.func41, Tryz.ntmps41
  go_wp2_with (fail)
  have hmade : (w.alloc (.map #[] 0)).ownsMap Tryz.prog 9 (plainElem Tryz.prog 4) w.heap.size 0 (.map [] : DataW Unit) := World.ownsMap_made w Tryz.prog 9 (plainElem Tryz.prog 4)
  have HM := Lib.hid hmade
  clear hmade
  go_loopw [18] (fun i wr => ∃ k : Nat, ∃ n D, k ≤ 2 ∧ n ≤ k ∧ i = .int .i64 k ∧ wr.ownsMap Tryz.prog 9 (plainElem Tryz.prog 4) w.heap.size n (D : DataW Unit) ∧ Keep (fun j => w.heap.size ≤ j) w wr) (fun i _ => 2 - (intOf i).toNat)
  case atStart => exact ⟨0, 0, _, by omega, by omega, rfl, HM.out, (Keep.refl _ _).alloc _⟩
  case round =>
    obtain ⟨k, n, D, hk, hn, rfl, hown, hkr⟩ := hrel
    have hk3 : k = 0 ∨ k = 1 ∨ k = 2 := by omega
    have HO := Lib.hid hown
    have HK := Lib.hid hkr
    rcases hk3 with rfl | rfl | rfl
    · have e0 : wr.cell? ⟨kb, 0, none⟩ = some (.string s0) := hkr.cell h0 (by simp; omega)
      clear hown hkr
      go_wp2_with (first
        | (at_mapUpdate; refine wpList_put_bool _ rfl _ _ _ rfl _ n D s0 true rfl HO.out (by unfold maxLen; omega) rfl hs0 rfl ?_; intro w3 hown3 hturn3))
      go_roundw
      case rel => exact ⟨1, n + 1, _, by omega, by omega, by go_num, hown3, HK.out.trans (keep_map hturn3) (fun j e => .inl (by omega))⟩
      case measure => simp [intOf]
    · have e1 : wr.cell? ⟨kb, 1, none⟩ = some (.string s1) := hkr.cell h1 (by simp; omega)
      clear hown hkr
      go_wp2_with (first
        | (at_mapUpdate; refine wpList_put_bool _ rfl _ _ _ rfl _ n D s1 true rfl HO.out (by unfold maxLen; omega) rfl hs1 rfl ?_; intro w3 hown3 hturn3))
      go_roundw
      case rel => exact ⟨2, n + 1, _, by omega, by omega, by go_num, hown3, HK.out.trans (keep_map hturn3) (fun j e => .inl (by omega))⟩
      case measure => simp [intOf]
    · clear hown hkr
      go_wp2_with (fail)
      refine (fs_list (h.keep HK.out (by omega) (by omega))).mono ?_
      rintro e w2 ⟨v, he, hd, hk2, hv, _⟩
      rw [HC.out] at he hd hv
      have hv2 := (hv rfl).2.2 (by rw [HF.out]; rfl)
      subst hv2
      subst he
      have HD := Lib.hid hd
      have HK2 := Lib.hid hk2
      clear hd hk2 hv
      go_wp2_with (fail)
      go_loop [11, 35] (fun n i => n = .int .i64 0 ∧ i = .int .i64 0) (fun _ _ => 0)
      case atStart => exact ⟨rfl, rfl⟩
      case round =>
        obtain ⟨rfl, rfl⟩ := hrel
        go_wp2_with (fail)
        (try go_ret2)
        exact ⟨rfl, HD.out, (HK.out.mono (T := fun j => j = g) (fun j e => .inr e)).trans HK2.out (fun _ e => .inl e)⟩
end Go.Proofs.YtffjnilmpeihiaaGreatDoor
