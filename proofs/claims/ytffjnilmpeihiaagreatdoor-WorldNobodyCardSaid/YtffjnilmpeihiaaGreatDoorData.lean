/- What a disk and a budget are, as plain data, and what their calls make of them; no program in sight. -/
import Derived.Maps.OwnSet
import Derived.Sort.KeysCollected
import Derived.WalkKit
set_option linter.unusedVariables false
set_option linter.unusedSimpArgs false
namespace Go.Proofs.YtffjnilmpeihiaaGreatDoor
open Go Go.RowKit Go.Maps

/-! ### a file, and files by their names -/

/-- A file's bytes, and how many of them are kept. -/
structure FileM where
  s : ByteArray
  kept : Int

/-- Files by their names' bytes, in order. -/
abbrev FilesM := List (List UInt8 × FileM)

def fileV (f : FileM) : Value := .agg #[.string f.s, .int .i64 f.kept]
def fileD (f : FileM) : DataW Unit := .agg [.lit (.string f.s.data.toList), .lit (.int .i64 f.kept)]
/-- How an element of the map of files reads. -/
def fileR : Value → Option (DataW Unit × List MemPlace)
  | .agg cs => match cs.toList with
    | [.string s, .int .i64 k] => some (fileD ⟨s, k⟩, [])
    | _ => none
  | _ => none

theorem fileR_mk (f : FileM) : fileR (fileV f) = some (fileD f, []) := rfl

theorem fileR_inv {v : Value} {z : DataW Unit × List MemPlace} (h : fileR v = some z) : ∃ f, v = fileV f ∧ z = (fileD f, []) := by
  unfold fileR at h
  split at h
  · rename_i cs
    split at h
    · rename_i s k hcs
      cases h
      refine ⟨⟨s, k⟩, ?_, rfl⟩
      unfold fileV
      rw [← hcs]
    · cases h
  · cases h

theorem fileD_inj {f g : FileM} (h : fileD f = fileD g) : f = g := by
  obtain ⟨s, k⟩ := f
  obtain ⟨t, l⟩ := g
  simp only [fileD, DataW.agg.injEq, List.cons.injEq, DataW.lit.injEq, Lit.string.injEq, Lit.int.injEq, and_true, true_and] at h
  obtain ⟨h1, h2⟩ := h
  have : s = t := by
    cases s; cases t
    congr 1
    exact Array.ext' (by simpa using h1)
  rw [this, h2]

def insF (x : List UInt8 × FileM) : FilesM → FilesM
  | [] => [x]
  | y :: r => if bytesBefore x.1 y.1 then x :: y :: r else y :: insF x r
def putF (fs : FilesM) (k : List UInt8) (f : FileM) : FilesM := insF (k, f) (fs.filter fun p => !(p.1 == k))
def delF (fs : FilesM) (k : List UInt8) : FilesM := fs.filter fun p => !(p.1 == k)
def getF (fs : FilesM) (k : List UInt8) : Option FileM := (fs.find? fun p => p.1 == k).map (·.2)
def hasF (fs : FilesM) (k : List UInt8) : Bool := fs.any fun p => p.1 == k

def entD (p : List UInt8 × FileM) : Lit × DataW Unit := (.string p.1, fileD p.2)
def filesD (fs : FilesM) : DataW Unit := .map (fs.map entD)

theorem map_insF (x : List UInt8 × FileM) : ∀ fs : FilesM, (insF x fs).map entD = DataW.insert (entD x) (fs.map entD)
  | [] => rfl
  | y :: r => by
    unfold insF
    simp only [List.map_cons, DataW.insert]
    by_cases h : bytesBefore x.1 y.1 = true
    · rw [if_pos h, if_pos (show (entD x).1.before (entD y).1 = true from h)]; rfl
    · rw [if_neg h, if_neg (show ¬ (entD x).1.before (entD y).1 = true from h), List.map_cons, map_insF x r]

theorem map_filterF (k : List UInt8) (fs : FilesM) : (fs.filter fun p => !(p.1 == k)).map entD = (fs.map entD).filter fun p => !p.1.sameKey (.string k) := by
  rw [List.filter_map]; rfl

theorem filesD_put (fs : FilesM) (k : List UInt8) (f : FileM) : (filesD fs).put (.string k) (fileD f) = filesD (putF fs k f) := by
  show DataW.map (DataW.insert (entD (k, f)) ((fs.map entD).filter fun p => !p.1.sameKey (.string k))) = .map ((insF (k, f) (fs.filter fun p => !(p.1 == k))).map entD)
  rw [map_insF, map_filterF]

theorem filesD_del (fs : FilesM) (k : List UInt8) : (filesD fs).del (.string k) = filesD (delF fs k) := by
  show DataW.map ((fs.map entD).filter fun p => !p.1.sameKey (.string k)) = .map ((fs.filter fun p => !(p.1 == k)).map entD)
  rw [map_filterF]

theorem filesD_has (fs : FilesM) (k : List UInt8) : Maps.has (filesD fs) (.string k) = hasF fs k := by
  show (fs.map entD).any (fun p => p.1.sameKey (.string k)) = fs.any fun p => p.1 == k
  rw [List.any_map]; rfl

theorem filesD_size (fs : FilesM) : Maps.size (filesD fs) = fs.length := by simp [filesD, Maps.size]

theorem find_map_entD (k : List UInt8) : ∀ fs : FilesM, (fs.map entD).find? (fun p => p.1.sameKey (.string k)) = (fs.find? fun p => p.1 == k).map entD
  | [] => rfl
  | y :: r => by
    simp only [List.map_cons, List.find?_cons]
    show (match (y.1 == k) with | true => some (entD y) | false => (r.map entD).find? (fun p => p.1.sameKey (.string k))) = _
    cases y.1 == k
    · exact find_map_entD k r
    · rfl

theorem filesD_at (fs : FilesM) (k : List UInt8) (z : DataW Unit) : (filesD fs).atKey (.string k) z = match getF fs k with | some f => fileD f | none => z := by
  simp only [filesD, DataW.atKey, getF]
  rw [find_map_entD]
  cases fs.find? (fun p => p.1 == k) <;> rfl

theorem hasF_getF (fs : FilesM) (k : List UInt8) : hasF fs k = (getF fs k).isSome := by
  unfold hasF getF
  induction fs with
  | nil => rfl
  | cons y r ih =>
    simp only [List.any_cons, List.find?_cons]
    cases h : (y.1 == k)
    · simpa using ih
    · simp

/-! ### a disk -/

/-- How many bytes a file has, if there is one. -/
def szO : Option FileM → Int
  | some f => f.s.size
  | none => 0

structure DiskM where
  room : Int
  used : Int
  fs : FilesM
  fuse : Int
  down : Bool
  calls : Int

def letterB (c : UInt8) : Bool := (97 ≤ c.toNat && c.toNat ≤ 122) || (48 ≤ c.toNat && c.toNat ≤ 57) || c.toNat == 46
/-- A name that may be. -/
def rightB (name : List UInt8) : Bool := name.all letterB && !name.isEmpty && decide (name.length ≤ 24)

namespace DiskM
/-- A call begins: the error, and the disk behind it. -/
def call (d : DiskM) (may : Bool) : Int × DiskM :=
  if may then
    let dn := d.down || d.fuse == 0
    (if dn then 5 else 0, { d with calls := wrap64 (d.calls + 1), down := dn, fuse := if d.fuse > -1 then d.fuse - 1 else d.fuse })
  else (1, d)
/-- A call that asks for a file begins. -/
def find (d : DiskM) (name : List UInt8) (may : Bool) : FileM × Int × DiskM :=
  if (d.call (may && rightB name)).1 ≠ 0 then (⟨ByteArray.empty, 0⟩, (d.call (may && rightB name)).1, (d.call (may && rightB name)).2) else
  match getF (d.call (may && rightB name)).2.fs name with
  | some f => (f, 0, (d.call (may && rightB name)).2)
  | none => (⟨ByteArray.empty, 0⟩, 2, (d.call (may && rightB name)).2)
def create (d : DiskM) (name : List UInt8) : Int × DiskM :=
  if (d.find name true).2.1 ≠ 2 then (if (d.find name true).2.1 = 0 then 3 else (d.find name true).2.1, (d.find name true).2.2) else
  if (d.find name true).2.2.fs.length = 200 then (4, (d.find name true).2.2) else
  (0, { (d.find name true).2.2 with fs := putF (d.find name true).2.2.fs name ⟨ByteArray.empty, 0⟩ })
def append (d : DiskM) (name : List UInt8) (s : ByteArray) : Int × DiskM :=
  if (d.find name true).2.1 ≠ 0 then ((d.find name true).2.1, (d.find name true).2.2) else
  if (s.size : Int) > (d.find name true).2.2.room - (d.find name true).2.2.used then (4, (d.find name true).2.2) else
  (0, { (d.find name true).2.2 with fs := putF (d.find name true).2.2.fs name ⟨(d.find name true).1.s ++ s, (d.find name true).1.kept⟩, used := (d.find name true).2.2.used + s.size })
def read (d : DiskM) (name : List UInt8) (at_ n : Int) : ByteArray × Int × DiskM :=
  if (d.find name (decide (0 ≤ min at_ n))).2.1 ≠ 0 then (ByteArray.empty, (d.find name (decide (0 ≤ min at_ n))).2.1, (d.find name (decide (0 ≤ min at_ n))).2.2) else
  if at_ > (d.find name (decide (0 ≤ min at_ n))).1.s.size ∨ n > (d.find name (decide (0 ≤ min at_ n))).1.s.size - at_ then (ByteArray.empty, 10, (d.find name (decide (0 ≤ min at_ n))).2.2) else
  ((d.find name (decide (0 ≤ min at_ n))).1.s.extract at_.toNat (at_ + n).toNat, 0, (d.find name (decide (0 ≤ min at_ n))).2.2)
def size (d : DiskM) (name : List UInt8) : Int × Int × DiskM := ((d.find name true).1.s.size, (d.find name true).2.1, (d.find name true).2.2)
def sync (d : DiskM) (name : List UInt8) : Int × DiskM :=
  if (d.find name true).2.1 = 0 then (0, { (d.find name true).2.2 with fs := putF (d.find name true).2.2.fs name ⟨(d.find name true).1.s, (d.find name true).1.s.size⟩ })
  else ((d.find name true).2.1, (d.find name true).2.2)
def drop (d : DiskM) (name : List UInt8) : DiskM :=
  { d with used := d.used - szO (getF d.fs name), fs := delF d.fs name }
def rename (d : DiskM) (from_ to : List UInt8) : Int × DiskM :=
  if (d.find from_ (rightB to)).2.1 ≠ 0 ∨ from_ = to then ((d.find from_ (rightB to)).2.1, (d.find from_ (rightB to)).2.2) else
  (0, { (((d.find from_ (rightB to)).2.2.drop to).drop from_) with
    fs := putF (((d.find from_ (rightB to)).2.2.drop to).drop from_).fs to (d.find from_ (rightB to)).1,
    used := (((d.find from_ (rightB to)).2.2.drop to).drop from_).used + (d.find from_ (rightB to)).1.s.size })
def remove (d : DiskM) (name : List UInt8) : Int × DiskM :=
  if (d.find name true).2.1 = 0 then (0, (d.find name true).2.2.drop name) else ((d.find name true).2.1, (d.find name true).2.2)
def arm (d : DiskM) (n : Int) : DiskM := { d with fuse := max (-1) n }
/-- What a disk always is. -/
structure Ok (d : DiskM) : Prop where
  room0 : 0 ≤ d.room
  room1 : d.room ≤ 16777216
  used0 : 0 ≤ d.used
  used1 : d.used ≤ d.room
  fuse0 : -1 ≤ d.fuse
  fuse1 : d.fuse ≤ 9223372036854775807
  calls0 : -9223372036854775808 ≤ d.calls
  calls1 : d.calls ≤ 9223372036854775807
  sum : d.used = (d.fs.map fun p => (p.2.s.size : Int)).sum
  kept : ∀ p ∈ d.fs, 0 ≤ p.2.kept ∧ p.2.kept ≤ p.2.s.size
  names : ∀ p ∈ d.fs, rightB p.1 = true
  few : d.fs.length ≤ 200
  order : d.fs.Pairwise fun p q => bytesBefore p.1 q.1 = true
end DiskM

/-! ### a budget -/
structure BudM where
  most : Int
  now : Int
  high : Int
namespace BudM
structure Ok (b : BudM) : Prop where
  now0 : 0 ≤ b.now
  now1 : b.now ≤ b.most
  most1 : b.most ≤ 9223372036854775807
  high0 : b.now ≤ b.high
  high1 : b.high ≤ b.most
def left (b : BudM) : Int := b.most - b.now
def take (b : BudM) (n : Int) : Int × BudM :=
  if n < 0 then (1, b) else if n > b.left then (9, b) else (0, { b with now := b.now + n, high := max b.high (b.now + n) })
def give (b : BudM) (n : Int) : BudM := if 0 ≤ n then { b with now := b.now - min n b.now } else b
end BudM
end Go.Proofs.YtffjnilmpeihiaaGreatDoor
