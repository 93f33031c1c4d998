/- Plain functions on blocks and devices, and plain laws on them. No program in sight. -/
import Derived.Test.YteekikaebmkioaaPagesPlain
namespace Go.Proofs.Yteekikaebmkioaa
open Go.RowKit

/-- a block: how often it was erased, and its pages -/
structure Bl where
  wear : Int
  pages : List Pg
def Bl.zero : Bl := ⟨0, []⟩
/-- page i of a list, the zero page beyond its end -/
def pgAt (ps : List Pg) (i : Nat) : Pg := ps.getD i Pg.zero
/-- page i is valid, and not written behind one that is not -/
def okAt (ps : List Pg) (i : Nat) : Bool := pageValidF (pgAt ps i) && (i == 0 || !(pgAt ps i).full || (pgAt ps (i - 1)).full)
def okTo (ps : List Pg) : Nat → Bool
  | 0 => true
  | k + 1 => okTo ps k && okAt ps k
def blockValidF (b : Bl) : Bool := inB b.wear 0 100 && decide (b.pages.length = 4) && okTo b.pages b.pages.length
/-- the first page from k on that is not written, of m that are left; -1 for none -/
def freeFrom (ps : List Pg) : Nat → Nat → Int
  | 0, _ => -1
  | m + 1, k => if (pgAt ps k).full then freeFrom ps m (k + 1) else (k : Int)
def blockNextF (b : Bl) : Int := if blockValidF b then freeFrom b.pages b.pages.length 0 else -1
def newBlockF (x : Int) : Bl := if inB x 0 100 then ⟨x, [Pg.zero, Pg.zero, Pg.zero, Pg.zero]⟩ else Bl.zero
def writeBlockF (b : Bl) (p : Pg) : Bl × Int :=
  if blockValidF b && pageValidF p && p.full then
    (if 0 ≤ blockNextF b then ⟨b.wear, b.pages.set (blockNextF b).toNat p⟩ else b, blockNextF b)
  else (Bl.zero, -1)
def eraseBlockF (b : Bl) : Bl × Bool :=
  if blockValidF b then (if b.wear = 100 then (b, false) else (newBlockF (b.wear + 1), true)) else (Bl.zero, false)

/-! devices -/
def blAt (d : List Bl) (i : Nat) : Bl := d.getD i Bl.zero
def allTo (d : List Bl) : Nat → Bool
  | 0 => true
  | k + 1 => allTo d k && blockValidF (blAt d k)
def deviceValidF (d : List Bl) : Bool := inB (d.length : Int) 1 12 && allTo d d.length
def newDeviceF (m : Int) : List Bl := if inB m 1 12 then List.replicate m.toNat (newBlockF 0) else []
def readPageF (d : List Bl) (at_ : Int) : Pg × Bool :=
  if deviceValidF d && inB at_ 0 (4 * (d.length : Int) - 1) then (pgAt (blAt d (at_ / 4).toNat).pages (at_ % 4).toNat, (pgAt (blAt d (at_ / 4).toNat).pages (at_ % 4).toNat).full) else (Pg.zero, false)
def programF (d : List Bl) (n : Int) (p : Pg) : List Bl × Int :=
  if deviceValidF d && inB n 0 ((d.length : Int) - 1) && pageValidF p && p.full then
    (if (writeBlockF (blAt d n.toNat) p).2 < 0 then (d, -1) else (d.set n.toNat (writeBlockF (blAt d n.toNat) p).1, n * 4 + (writeBlockF (blAt d n.toNat) p).2))
  else ([], -1)
def eraseAtF (d : List Bl) (n : Int) : List Bl × Bool :=
  if deviceValidF d && inB n 0 ((d.length : Int) - 1) then (d.set n.toNat (eraseBlockF (blAt d n.toNat)).1, (eraseBlockF (blAt d n.toNat)).2) else ([], false)
/-- how many of the first k pages are written -/
def fullTo (ps : List Pg) : Nat → Nat
  | 0 => 0
  | k + 1 => fullTo ps k + (if (pgAt ps k).full then 1 else 0)
def freeTo (d : List Bl) : Nat → Int
  | 0 => 0
  | k + 1 => freeTo d k + (4 - (fullTo (blAt d k).pages (blAt d k).pages.length : Int))
def freePagesF (d : List Bl) : Int := if deviceValidF d then freeTo d d.length else -1

theorem okTo_zero (ps : List Pg) : okTo ps 0 = true := rfl
theorem allTo_zero (d : List Bl) : allTo d 0 = true := rfl
theorem freeFrom_zero (ps : List Pg) (k : Nat) : freeFrom ps 0 k = -1 := rfl
theorem freeFrom_succ (ps : List Pg) (m k : Nat) : freeFrom ps (m + 1) k = if (pgAt ps k).full then freeFrom ps m (k + 1) else (k : Int) := rfl
theorem fullTo_zero (ps : List Pg) : fullTo ps 0 = 0 := rfl
theorem fullTo_succ (ps : List Pg) (k : Nat) : fullTo ps (k + 1) = fullTo ps k + (if (pgAt ps k).full then 1 else 0) := rfl
theorem freeTo_zero (d : List Bl) : freeTo d 0 = 0 := rfl
theorem freeTo_succ (d : List Bl) (k : Nat) : freeTo d (k + 1) = freeTo d k + (4 - (fullTo (blAt d k).pages (blAt d k).pages.length : Int)) := rfl
theorem okTo_succ (ps : List Pg) (k : Nat) : okTo ps (k + 1) = (okTo ps k && okAt ps k) := rfl
theorem allTo_succ (d : List Bl) (k : Nat) : allTo d (k + 1) = (allTo d k && blockValidF (blAt d k)) := rfl
theorem okTo_le (ps : List Pg) {j k : Nat} (h : j ≤ k) (hk : okTo ps k = true) : okTo ps j = true := by
  induction k with
  | zero => obtain rfl : j = 0 := by omega
            exact hk
  | succ k ih =>
    rw [okTo_succ, Bool.and_eq_true] at hk
    by_cases e : j = k + 1
    · subst e; rw [okTo_succ, hk.1, hk.2]; rfl
    · exact ih (by omega) hk.1
theorem okTo_false (ps : List Pg) {j k : Nat} (h : j < k) (hj : okAt ps j = false) : okTo ps k = false := by
  cases e : okTo ps k
  · rfl
  · have := okTo_le ps (show j + 1 ≤ k by omega) e
    rw [okTo_succ, hj, Bool.and_false] at this
    cases this
theorem allTo_le (d : List Bl) {j k : Nat} (h : j ≤ k) (hk : allTo d k = true) : allTo d j = true := by
  induction k with
  | zero => obtain rfl : j = 0 := by omega
            exact hk
  | succ k ih =>
    rw [allTo_succ, Bool.and_eq_true] at hk
    by_cases e : j = k + 1
    · subst e; rw [allTo_succ, hk.1, hk.2]; rfl
    · exact ih (by omega) hk.1
theorem allTo_false (d : List Bl) {j k : Nat} (h : j < k) (hj : blockValidF (blAt d j) = false) : allTo d k = false := by
  cases e : allTo d k
  · rfl
  · have := allTo_le d (show j + 1 ≤ k by omega) e
    rw [allTo_succ, hj, Bool.and_false] at this
    cases this
attribute [irreducible] okAt okTo blockValidF freeFrom blockNextF newBlockF writeBlockF eraseBlockF allTo deviceValidF newDeviceF readPageF programF eraseAtF fullTo freeTo freePagesF
end Go.Proofs.Yteekikaebmkioaa
