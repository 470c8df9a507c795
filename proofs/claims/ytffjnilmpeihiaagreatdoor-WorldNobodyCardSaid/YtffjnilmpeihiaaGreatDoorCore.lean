/- What a call keeps of the world; what a block of cells holds; how a disk and a budget lie in memory. -/
import Derived.Test.YtffjnilmpeihiaaGreatDoorDataLaws
import Derived.Test.YtffjnilmpeihiaaGreatDoorProg
import Derived.OneCell
import Derived.Deep.Draws
import Derived.WalkSpells
import Derived.WalkSmall
import Derived.WalkLawsBesides
import Derived.BigQuiet
import Derived.Deep.QuietTactic
import Derived.BigRegion
import Derived.RegionTactic
import Derived.Outline
import Derived.Maps.OwnSet
import Derived.KernelRfl
import Derived.Handy
import Derived.StillTailTactics
import Derived.Lib.Hide
set_option linter.unusedVariables false
set_option linter.unusedSimpArgs false
namespace Go.Proofs.YtffjnilmpeihiaaGreatDoor
open Go Go.RowKit Go.Maps

/-! ### what a call keeps: all but the blocks of S, and what is new since -/
structure Keep (S : Nat → Prop) (w w' : World) : Prop where
  os : w'.os = w.os
  tape : w'.tape = w.tape
  output : w'.output = w.output
  size : w.heap.size ≤ w'.heap.size
  block : ∀ k, k < w.heap.size → ¬ S k → w'.heap[k]? = w.heap[k]?

section
variable {S T : Nat → Prop} {w w' w'' : World}
theorem Keep.refl (S : Nat → Prop) (w : World) : Keep S w w := ⟨rfl, rfl, rfl, Nat.le_refl _, fun _ _ _ => rfl⟩
theorem Keep.mono (h : Keep S w w') (hs : ∀ k, S k → T k ∨ w.heap.size ≤ k) : Keep T w w' :=
  ⟨h.os, h.tape, h.output, h.size, fun k hk hn => h.block k hk fun hS => (hs k hS).elim hn fun h => by omega⟩
theorem Keep.trans (h : Keep S w w') (k : Keep T w' w'') (hs : ∀ k, T k → S k ∨ w.heap.size ≤ k) : Keep S w w'' :=
  ⟨k.os.trans h.os, k.tape.trans h.tape, k.output.trans h.output, Nat.le_trans h.size k.size, fun i hi hn =>
    (k.block i (Nat.lt_of_lt_of_le hi h.size) fun hT => (hs i hT).elim hn fun h => by omega).trans (h.block i hi hn)⟩
theorem Keep.below (h : Keep S w w') (hb : Below w'.heap.size w' w'') : Keep S w w'' :=
  h.trans (T := fun _ => False) ⟨hb.os, hb.tape, hb.output, hb.size, fun k hk _ => hb.block k hk⟩ (fun _ h => h.elim)
theorem Keep.of_below (hb : Below w.heap.size w w') : Keep S w w' := (Keep.refl S w).below hb
theorem Keep.alloc (h : Keep S w w') (o : Obj) : Keep S w (w'.alloc o) := h.below ((Below.refl _ _).alloc (Nat.le_refl _) o)
theorem Keep.drew (h : Keep S w w') : Keep S w w'.drew := ⟨h.os, h.tape, h.output, h.size, h.block⟩
theorem Keep.drewN (h : Keep S w w') (n : Nat) : Keep S w (w'.drewN n) := h.below (below_drewN (Below.refl _ _) n)
theorem Keep.setCell (h : Keep S w w') {p : Addr} (hp : S p.block ∨ w.heap.size ≤ p.block) (u : Value) : Keep S w (w'.setCell p u) :=
  h.trans (T := fun k => k = p.block) ⟨rfl, rfl, rfl, by simp [World.setCell], fun k _ hn => Below.heap_setCell _ _ _ _ hn⟩ (fun k e => by subst e; exact hp)
theorem Keep.grown (h : Keep S w w') {row : Option Nat} (hg : w'.grownBy w'' row) (hr : ∀ k, row = some k → S k ∨ w.heap.size ≤ k) : Keep S w w'' :=
  h.trans (T := fun k => row = some k) ⟨hg.os, hg.tape, hg.output, hg.size, fun k hk hn => hg.block k hk (fun e => hn e.symm)⟩ (fun k e => hr k e)
theorem Keep.to_below (h : Keep S w w') {B : Nat} (hB : B ≤ w.heap.size) (hs : ∀ k, S k → B ≤ k) : Below B w w' :=
  ⟨h.os, h.tape, h.output, h.size, fun k hk => h.block k (Nat.lt_of_lt_of_le hk hB) fun hS => by have := hs k hS; omega⟩
theorem Keep.cell (h : Keep S w w') {a : Addr} {v : Value} (hc : w.cell? a = some v) (hn : ¬ S a.block) : w'.cell? a = some v := by
  have := h.block a.block (World.block_lt_of_cell? w a hc) hn
  simpa [World.cell?, this] using hc
theorem Keep.blk (h : Keep S w w') {k : Nat} {o : Obj} (hb : w.heap[k]? = some o) (hn : ¬ S k) : w'.heap[k]? = some o := (h.block k (lt_of_block hb) hn).trans hb
end

/-! ### a block of cells -/
section
variable {w : World} {g : Nat} {cs : Array Value} {t : TypeId}
theorem blk_cell (h : w.heap[g]? = some (.cells cs t (0, 0))) (i : Nat) : w.cell? ⟨g, i, none⟩ = cs[i]? := by simp [World.cell?, h]
theorem blk_free (h : w.heap[g]? = some (.cells cs t (0, 0))) (i : Nat) : w.frozen? ⟨g, i, none⟩ = false := by simp [World.frozen?, h]
theorem blk_set (h : w.heap[g]? = some (.cells cs t (0, 0))) (i : Nat) (u : Value) : (w.setCell ⟨g, i, none⟩ u).heap[g]? = some (.cells (cs.setIfInBounds i u) t (0, 0)) := by
  have hlt := lt_of_block h
  have h' : w.heap[g] = .cells cs t (0, 0) := by simpa [Array.getElem?_eq_getElem hlt] using h
  show (w.heap.modify g _)[g]? = _
  rw [Array.getElem?_eq_getElem (by simpa using hlt), Array.getElem_modify_self, h']
  rfl
theorem blk_alloc (h : w.heap[g]? = some (.cells cs t (0, 0))) (o : Obj) : (w.alloc o).heap[g]? = some (.cells cs t (0, 0)) := (Below.heap_alloc _ _ _ (lt_of_block h)).trans h
theorem blk_drew (h : w.heap[g]? = some (.cells cs t (0, 0))) : w.drew.heap[g]? = some (.cells cs t (0, 0)) := h
theorem blk_drewN (h : w.heap[g]? = some (.cells cs t (0, 0))) (n : Nat) : (w.drewN n).heap[g]? = some (.cells cs t (0, 0)) := (below_drewN (Below.refl w.heap.size w) n).block g (lt_of_block h) |>.trans h
theorem blk_other (h : w.heap[g]? = some (.cells cs t (0, 0))) {p : Addr} (hp : g ≠ p.block) (u : Value) : (w.setCell p u).heap[g]? = some (.cells cs t (0, 0)) := (Below.heap_setCell _ _ _ _ hp).trans h
theorem blk_ne {g' : Nat} {cs' : Array Value} {t' : TypeId} (h : w.heap[g]? = some (.cells cs t (0, 0))) (h' : w.heap[g']? = some (.cells cs' t' (0, 0))) (hne : t ≠ t') : g ≠ g' := by
  rintro rfl
  rw [h] at h'
  injection h' with h'
  injection h' with _ h'
  exact hne h'
end

theorem ownsMap_exact {H : Type} {P : Program} {k : TypeId} {R : Value → Option (DataW H × List MemPlace)} {w : World} {b n : Nat} {D : DataW H} (h : w.ownsMap P k R b n D) : w.ownsMap P k R b (Maps.size D) D := by
  obtain ⟨es, clock, hb, F, hs, rfl⟩ := h
  exact ⟨es, clock, hb, F, by simp [Maps.size, length_sorted], rfl⟩
theorem ownsMap_keep {H : Type} {P : Program} {k : TypeId} {R : Value → Option (DataW H × List MemPlace)} {w w' : World} {b n : Nat} {D : DataW H} {S : Nat → Prop} (h : w.ownsMap P k R b n D) (hk : Keep S w w') (hn : ¬ S b) : w'.ownsMap P k R b n D := by
  have hlt := h.lt
  obtain ⟨es, clock, hb, F, hs, hD⟩ := h
  exact ⟨es, clock, (hk.block b hlt hn).trans hb, F, hs, hD⟩
theorem ownsMap_ne {H : Type} {P : Program} {k : TypeId} {R : Value → Option (DataW H × List MemPlace)} {w : World} {b n : Nat} {D : DataW H} (h : w.ownsMap P k R b n D) {g : Nat} {cs : Array Value} {t : TypeId} {fr : Nat × Nat} (hb : w.heap[g]? = some (.cells cs t fr)) : g ≠ b := by
  rintro rfl
  obtain ⟨es, clock, hb', _⟩ := h
  rw [hb] at hb'
  cases hb'
theorem keep_map {w w' : World} {b : Nat} (h : w.mapTurned w' b) : Keep (fun k => k = b) w w' :=
  (Keep.refl _ w).grown h.grown (fun k e => by cases e; exact .inl rfl)

/-! ### a disk in memory -/
abbrev tStr : TypeId := 9
theorem keyStr : Keyed Tryz.prog 9 := string_keyed Tryz.underlying9
def diskCells (d : DiskM) (b : Nat) : Array Value := #[.bool true, .int .i64 d.room, .int .i64 d.used, .map (some b), .int .i64 d.fuse, .bool d.down, .int .i64 d.calls]
/-- The disk d lies at block g, its files at block b. -/
structure DiskAt (w : World) (g b : Nat) (d : DiskM) : Prop where
  blk : w.heap[g]? = some (.cells (diskCells d b) 62 (0, 0))
  map : w.ownsMap Tryz.prog 9 fileR b d.fs.length (filesD d.fs)
  ok : d.Ok
theorem DiskAt.keep {w w' : World} {g b : Nat} {d : DiskM} {S : Nat → Prop} (h : DiskAt w g b d) (hk : Keep S w w') (hg : ¬ S g) (hb : ¬ S b) : DiskAt w' g b d :=
  ⟨hk.blk h.blk hg, ownsMap_keep h.map hk hb, h.ok⟩
theorem DiskAt.below {w w' : World} {g b : Nat} {d : DiskM} (h : DiskAt w g b d) (hb : Below w.heap.size w w') : DiskAt w' g b d := h.keep (Keep.of_below (S := fun _ => False) hb) id id
theorem DiskAt.alloc {w : World} {g b : Nat} {d : DiskM} (h : DiskAt w g b d) (o : Obj) : DiskAt (w.alloc o) g b d := h.below ((Below.refl _ _).alloc (Nat.le_refl _) o)
theorem DiskAt.drewN {w : World} {g b : Nat} {d : DiskM} (h : DiskAt w g b d) (n : Nat) : DiskAt (w.drewN n) g b d := h.below (below_drewN (Below.refl _ _) n)
theorem DiskAt.drew {w : World} {g b : Nat} {d : DiskM} (h : DiskAt w g b d) : DiskAt w.drew g b d := h.below (Below.refl _ _).drew
theorem DiskAt.ne {w : World} {g b : Nat} {d : DiskM} (h : DiskAt w g b d) : g ≠ b := ownsMap_ne h.map h.blk
theorem DiskAt.lt {w : World} {g b : Nat} {d : DiskM} (h : DiskAt w g b d) : g < w.heap.size := lt_of_block h.blk
theorem DiskAt.ltb {w : World} {g b : Nat} {d : DiskM} (h : DiskAt w g b d) : b < w.heap.size := h.map.lt

/-- The world is the old one, orders having been drawn. -/
structure Drawn (w wd : World) : Prop where
  heap : wd.heap = w.heap
  os : wd.os = w.os
  tape : wd.tape = w.tape
  output : wd.output = w.output
theorem Drawn.below {w wd : World} (h : Drawn w wd) : Below w.heap.size w wd := ⟨h.os, h.tape, h.output, by rw [h.heap]; exact Nat.le_refl _, fun k _ => by rw [h.heap]⟩
theorem Drawn.blk {w wd : World} (h : Drawn w wd) {k : Nat} {o : Obj} (hb : w.heap[k]? = some o) : wd.heap[k]? = some o := by rw [h.heap]; exact hb
theorem Drawn.keep {S : Nat → Prop} {w w1 wd : World} (h : Drawn w1 wd) (hk : Keep S w w1) : Keep S w wd := hk.below h.below
theorem DiskAt.drawn {w wd : World} {g b : Nat} {d : DiskM} (h : DiskAt w g b d) (hd : Drawn w wd) : DiskAt wd g b d := h.below hd.below
/-- A region that draws its order and only reads. -/
theorem region_still {P : Program} {id : Nat} {Q : Exit → Act → World → Prop} {a : Act} {w : World} {l : List Oper} (hm : P.follows .mixedOrders = true) (hB : Region.lexB .any l.toArray = true)
    (h : ∀ wd, Drawn w wd → wpStill P l.toArray wd (fun a' => Q .normal a' wd) l a) : (Code.region id l.toArray true).wp P Q a w :=
  wp_region_still_lit hm hB (h _ ⟨rfl, rfl, rfl, rfl⟩)
/-- A region that draws its order, reads, and writes at its end. -/
theorem region_tail {P : Program} {id : Nat} {Q : Exit → Act → World → Prop} {a : Act} {w : World} {l : List Oper} (n : Nat) (hm : P.follows .mixedOrders = true) (hB : Region.lexTailB .any l.toArray n = true)
    (h : ∀ wd, Drawn w wd → wpStill P l.toArray wd (fun a' => wpList P l.toArray Q (l.drop n) a' wd) (l.take n) a) : (Code.region id l.toArray true).wp P Q a w :=
  wp_region_still_tail n hm hB (h _ ⟨rfl, rfl, rfl, rfl⟩)

/-! ### a budget in memory -/
def budCells (x : BudM) : Array Value := #[.bool true, .int .i64 x.most, .int .i64 x.now, .int .i64 x.high]
structure BudAt (w : World) (g : Nat) (x : BudM) : Prop where
  blk : w.heap[g]? = some (.cells (budCells x) 128 (0, 0))
  ok : x.Ok
theorem BudAt.keep {w w' : World} {g : Nat} {x : BudM} {S : Nat → Prop} (h : BudAt w g x) (hk : Keep S w w') (hg : ¬ S g) : BudAt w' g x := ⟨hk.blk h.blk hg, h.ok⟩
theorem BudAt.below {w w' : World} {g : Nat} {x : BudM} (h : BudAt w g x) (hb : Below w.heap.size w w') : BudAt w' g x := h.keep (Keep.of_below (S := fun _ => False) hb) id
theorem BudAt.alloc {w : World} {g : Nat} {x : BudM} (h : BudAt w g x) (o : Obj) : BudAt (w.alloc o) g x := h.below ((Below.refl _ _).alloc (Nat.le_refl _) o)
theorem BudAt.drewN {w : World} {g : Nat} {x : BudM} (h : BudAt w g x) (n : Nat) : BudAt (w.drewN n) g x := h.below (below_drewN (Below.refl _ _) n)
theorem BudAt.drew {w : World} {g : Nat} {x : BudM} (h : BudAt w g x) : BudAt w.drew g x := h.below (Below.refl _ _).drew
theorem BudAt.drawn {w wd : World} {g : Nat} {x : BudM} (h : BudAt w g x) (hd : Drawn w wd) : BudAt wd g x := h.below hd.below
theorem BudAt.lt {w : World} {g : Nat} {x : BudM} (h : BudAt w g x) : g < w.heap.size := lt_of_block h.blk
end Go.Proofs.YtffjnilmpeihiaaGreatDoor
