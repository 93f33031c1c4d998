/- Opening blocks, devices, heads and tables that came in. No program in sight. -/
import Derived.Test.YtjphehapnhfecaaMem
import Derived.Test.YtjphehapnhfecaaLawKit
import Derived.Deep.Slices
namespace Go.Proofs.Ytjphehapnhfecaa
open Go.RowKit Go.ChangeShapes Go.WideShapes Go.Deep Go.Joins

instance : Inhabited Pg := ⟨Pg.zero⟩
instance : Inhabited Bl := ⟨Bl.zero⟩

theorem spot_none' {w : World} {a : Addr} {v : Value} (h : w.cell? a = some v) : a.spot = none := by
  unfold World.cell? at h
  split at h
  · split at h
    · cases h
    · rename_i hs; cases hq : a.spot
      · rfl
      · rw [hq] at hs; simp at hs
  · cases h
theorem addr_add' {a : Addr} (hs : a.spot = none) (j : Nat) : a.add j = ⟨a.block, a.off + j, none⟩ := by
  obtain ⟨b, o, s⟩ := a
  simp only at hs
  subst hs
  exact Addr.add_lit b o j
theorem le_max {l c : Nat} (h1 : l ≤ c) (h2 : c ≤ maxLen) : l ≤ 9223372036854775807 := Nat.le_trans h1 (Nat.le_trans h2 (by decide))
theorem pgAt_map (q : Nat → Pg) {n i : Nat} (hi : i < n) : pgAt ((List.range n).map q) i = q i := by
  simp [pgAt, List.getD, hi]
theorem blAt_map (q : Nat → Bl) {n i : Nat} (hi : i < n) : blAt ((List.range n).map q) i = q i := by
  simp [blAt, List.getD, hi]

/-- what a page's type is -/
def PgTy (P : Program) (t : TypeId) : Prop := ∃ (f0 f1 f2 f3 f4 : Field) (tb ti : TypeId), P.underlying t = some (.struct #[f0, f1, f2, f3, f4]) ∧ oneCellFields P #[f0, f1, f2, f3, f4] = true ∧
  (decide (P.cellsOf t = 5) && decide (f0.type = tb) && decide (f1.type = ti) && decide (f2.type = ti) && decide (f3.type = ti) && decide (f4.type = ti)) = true ∧ P.underlying tb = some .bool ∧ P.underlying ti = some (.int .i64)
/-- what a block's type is -/
def BlTy (P : Program) (t : TypeId) : Prop := ∃ (f0 f1 : Field) (ti tp te : TypeId), P.underlying t = some (.struct #[f0, f1]) ∧ oneCellFields P #[f0, f1] = true ∧
  (decide (P.cellsOf t = 2) && decide (f0.type = ti) && decide (f1.type = tp)) = true ∧ P.underlying ti = some (.int .i64) ∧ P.underlying tp = some (.slice te) ∧ PgTy P te
/-- what the heads' type is -/
def HdTy (P : Program) (t : TypeId) : Prop := ∃ (f0 f1 f2 : Field) (ti : TypeId), P.underlying t = some (.struct #[f0, f1, f2]) ∧ oneCellFields P #[f0, f1, f2] = true ∧
  (decide (P.cellsOf t = 3) && decide (f0.type = ti) && decide (f1.type = ti) && decide (f2.type = ti)) = true ∧ P.underlying ti = some (.int .i64)

section
variable {H : Type} {enc : TypeId × Value → H} {P : Program} {w : World} {base : Nat} {spare : Nat → Bool} {held : Bool}

theorem open_pg5 {t : TypeId} {fuel : Nat} {cs : List Value} {x : DataW H × List MemPlace} (hp : PgTy P t) (hl : cs.length = 5) (h : DataW.trod enc P w base spare held fuel t cs = some x) :
    ∃ p : Pg, cs = [.bool p.full, .int .i64 p.file, .int .i64 p.place, .int .i64 p.value, .int .i64 p.stamp] := by
  obtain ⟨f0, f1, f2, f3, f4, tb, ti, hs, hone, hC, hb, hi⟩ := hp
  simp only [Bool.and_eq_true, decide_eq_true_eq] at hC
  obtain ⟨⟨⟨⟨⟨hC, rfl⟩, rfl⟩, e2⟩, e3⟩, e4⟩ := hC
  match cs, hl with
  | [c0, c1, c2, c3, c4], _ =>
    obtain ⟨xs, n, _, hx, _, hlen, hg⟩ := DataW.trod_struct hs h
    obtain ⟨o0, k0⟩ := hone_of hone 0 f0 rfl
    obtain ⟨o1, k1⟩ := hone_of hone 1 f1 rfl
    obtain ⟨o2, k2⟩ := hone_of hone 2 f2 rfl
    obtain ⟨o3, k3⟩ := hone_of hone 3 f3 rfl
    obtain ⟨o4, k4⟩ := hone_of hone 4 f4 rfl
    match xs, hlen with
    | [y0, y1, y2, y3, y4], _ =>
      have g0 : DataW.trod enc P w base spare held n f0.type [c0] = some y0 := by simpa [o0, k0] using hg 0 f0 rfl
      have g1 : DataW.trod enc P w base spare held n f1.type [c1] = some y1 := by simpa [o1, k1] using hg 1 f1 rfl
      have g2 : DataW.trod enc P w base spare held n f2.type [c2] = some y2 := by simpa [o2, k2] using hg 2 f2 rfl
      have g3 : DataW.trod enc P w base spare held n f3.type [c3] = some y3 := by simpa [o3, k3] using hg 3 f3 rfl
      have g4 : DataW.trod enc P w base spare held n f4.type [c4] = some y4 := by simpa [o4, k4] using hg 4 f4 rfl
      rw [e2] at g2
      rw [e3] at g3
      rw [e4] at g4
      obtain ⟨b, h0, _⟩ := DataW.trod_bool hb g0
      obtain ⟨i1, h1, _⟩ := DataW.trod_int hi g1
      obtain ⟨i2, h2, _⟩ := DataW.trod_int hi g2
      obtain ⟨i3, h3, _⟩ := DataW.trod_int hi g3
      obtain ⟨i4, h4, _⟩ := DataW.trod_int hi g4
      simp only [List.cons.injEq, and_true] at h0 h1 h2 h3 h4
      subst h0 h1 h2 h3 h4
      exact ⟨⟨b, i1, i2, i3, i4⟩, rfl⟩

theorem open_pgs {t e : TypeId} {fuel : Nat} {cs : List Value} {x : DataW H × List MemPlace} (ht : P.underlying t = some (.slice e)) (hp : PgTy P e) (h : DataW.trod enc P w base spare held fuel t cs = some x) :
    ∃ A n c ps, cs = [.slice A n c] ∧ PgsAt w A n ps := by
  have ce : P.cellsOf e = 5 := by
    obtain ⟨f0, f1, f2, f3, f4, tb, ti, hs, hone, hC, hb, hi⟩ := hp
    simp only [Bool.and_eq_true, decide_eq_true_eq] at hC
    exact hC.1.1.1.1.1
  rcases open_slice ht h with ⟨rfl, _⟩ | ⟨a, len, cap, m, n, D, Pl, rfl, hb, hl, hm, hmm, rfl, hx⟩
  · exact ⟨none, 0, 0, [], rfl, PgsAt.nil _⟩
  have hlm : len ≤ m := by rw [hmm]; split <;> omega
  rcases Nat.eq_zero_or_pos len with h0 | h0
  · subst h0
    exact ⟨some a, 0, cap, [], rfl, PgsAt.nil _⟩
  have hs : a.spot = none := by
    obtain ⟨cs', h1, h2⟩ := hx 0 (by omega)
    rw [ce, Nat.zero_mul, Addr.add_zero'] at h1
    obtain ⟨_, hlen, hcell⟩ := World.cells?_some h1
    have c0 := hcell 0 (by omega)
    rw [Addr.add_zero'] at c0
    match cs', hlen with
    | x :: _, _ => exact spot_none' (v := x) (by simpa using c0)
  obtain ⟨q, hq⟩ := choose_lt (α := Pg) (p := fun i p => a.spot = none ∧ C5 w a.block (a.off + i * 5) p) (n := len) (fun i hi => by
    obtain ⟨cs', h1, h2⟩ := hx i (by omega)
    rw [ce] at h1
    obtain ⟨_, hlen, hcell⟩ := World.cells?_some h1
    obtain ⟨p, rfl⟩ := open_pg5 hp hlen h2
    have c0 := hcell 0 (by omega)
    have c1 := hcell 1 (by omega)
    have c2 := hcell 2 (by omega)
    have c3 := hcell 3 (by omega)
    have c4 := hcell 4 (by omega)
    rw [add_add] at c0 c1 c2 c3 c4
    rw [addr_add' hs] at c0 c1 c2 c3 c4
    exact ⟨p, hs, by simpa using c0, by simpa [Nat.add_assoc] using c1, by simpa [Nat.add_assoc] using c2, by simpa [Nat.add_assoc] using c3, by simpa [Nat.add_assoc] using c4⟩)
  refine ⟨some a, len, cap, (List.range len).map q, rfl, by simp, le_max hl hm, fun h0 => ?_⟩
  have hs := (hq 0 h0).1
  refine ⟨a.block, a.off, by obtain ⟨b, o, s⟩ := a; simp only at hs; subst hs; rfl, fun i hi => ?_⟩
  rw [pgAt_map q hi]
  exact (hq i hi).2

theorem open_bl2 {t : TypeId} {fuel : Nat} {cs : List Value} {x : DataW H × List MemPlace} (hp : BlTy P t) (hl : cs.length = 2) (h : DataW.trod enc P w base spare held fuel t cs = some x) :
    ∃ z A n c ps, cs = [.int .i64 z, .slice A n c] ∧ PgsAt w A n ps := by
  obtain ⟨f0, f1, ti, tp, te, hs, hone, hC, hi, hsl, hpt⟩ := hp
  simp only [Bool.and_eq_true, decide_eq_true_eq] at hC
  obtain ⟨⟨hC, rfl⟩, rfl⟩ := hC
  match cs, hl with
  | [c0, c1], _ =>
    obtain ⟨xs, n, _, hx, _, hlen, hg⟩ := DataW.trod_struct hs h
    obtain ⟨o0, k0⟩ := hone_of hone 0 f0 rfl
    obtain ⟨o1, k1⟩ := hone_of hone 1 f1 rfl
    match xs, hlen with
    | [y0, y1], _ =>
      have g0 : DataW.trod enc P w base spare held n f0.type [c0] = some y0 := by simpa [o0, k0] using hg 0 f0 rfl
      have g1 : DataW.trod enc P w base spare held n f1.type [c1] = some y1 := by simpa [o1, k1] using hg 1 f1 rfl
      obtain ⟨i0, h0, _⟩ := DataW.trod_int hi g0
      obtain ⟨A, n, c, ps, h1, h2⟩ := open_pgs hsl hpt g1
      simp only [List.cons.injEq, and_true] at h0 h1
      subst h0 h1
      exact ⟨i0, A, n, c, ps, rfl, h2⟩

theorem open_dev {t e : TypeId} {fuel : Nat} {cs : List Value} {x : DataW H × List MemPlace} (ht : P.underlying t = some (.slice e)) (hp : BlTy P e) (h : DataW.trod enc P w base spare held fuel t cs = some x) :
    ∃ A n c ds, cs = [.slice A n c] ∧ DevAt w A n ds := by
  have ce : P.cellsOf e = 2 := by
    obtain ⟨f0, f1, ti, tp, te, hs, hone, hC, _⟩ := hp
    simp only [Bool.and_eq_true, decide_eq_true_eq] at hC
    exact hC.1.1
  rcases open_slice ht h with ⟨rfl, _⟩ | ⟨a, len, cap, m, n, D, Pl, rfl, hb, hl, hm, hmm, rfl, hx⟩
  · exact ⟨none, 0, 0, [], rfl, DevAt.nil _⟩
  have hlm : len ≤ m := by rw [hmm]; split <;> omega
  rcases Nat.eq_zero_or_pos len with h0 | h0
  · subst h0
    exact ⟨some a, 0, cap, [], rfl, DevAt.nil _⟩
  have hs : a.spot = none := by
    obtain ⟨cs', h1, h2⟩ := hx 0 (by omega)
    rw [ce, Nat.zero_mul, Addr.add_zero'] at h1
    obtain ⟨_, hlen, hcell⟩ := World.cells?_some h1
    have c0 := hcell 0 (by omega)
    rw [Addr.add_zero'] at c0
    match cs', hlen with
    | x :: _, _ => exact spot_none' (v := x) (by simpa using c0)
  obtain ⟨q, hq⟩ := choose_lt (α := Bl) (p := fun i p => a.spot = none ∧ BlkAt w a.block (a.off + i * 2) p) (n := len) (fun i hi => by
    obtain ⟨cs', h1, h2⟩ := hx i (by omega)
    rw [ce] at h1
    obtain ⟨_, hlen, hcell⟩ := World.cells?_some h1
    obtain ⟨z, A, n, c, ps, rfl, hps⟩ := open_bl2 hp hlen h2
    have c0 := hcell 0 (by omega)
    have c1 := hcell 1 (by omega)
    rw [add_add] at c0 c1
    rw [addr_add' hs] at c0 c1
    exact ⟨⟨z, ps⟩, hs, A, n, c, by simpa using c0, by simpa [Nat.add_assoc] using c1, hps⟩)
  refine ⟨some a, len, cap, (List.range len).map q, rfl, by simp, le_max hl hm, fun h0 => ?_⟩
  have hs := (hq 0 h0).1
  refine ⟨a.block, a.off, by obtain ⟨b, o, s⟩ := a; simp only at hs; subst hs; rfl, fun i hi => ?_⟩
  rw [blAt_map q hi]
  exact (hq i hi).2

/-- a block that came in: its value and what its pages read as -/
structure Ba where
  wear : Int
  A : Option Addr
  n : Nat
  c : Nat
  ps : List Pg
def Ba.val (x : Ba) : Value := .agg #[.int .i64 x.wear, .slice x.A x.n x.c]
/-- a device that came in -/
structure Da where
  A : Option Addr
  n : Nat
  c : Nat
  ds : List Bl
def Da.val (x : Da) : Value := .slice x.A x.n x.c
/-- heads -/
structure Hd where
  hot : Int
  warm : Int
  cold : Int
def Hd.val (x : Hd) : Value := .agg #[.int .i64 x.hot, .int .i64 x.warm, .int .i64 x.cold]

theorem open_B {r : Reach} {b0 : Nat} {t : TypeId} {v : Value} {d : DataW H} {p : List MemPlace} (hp : BlTy P t)
    (hv : Value.okWide P w r b0 t v) (h : DataW.Trod enc P w base spare held t v d p) : ∃ x : Ba, v = x.val ∧ PgsAt w x.A x.n x.ps := by
  obtain ⟨fuel, hf⟩ := h
  obtain ⟨cs, rfl, hsz⟩ := okWide_struct hp.choose_spec.choose_spec.choose_spec.choose_spec.choose_spec.1 hv
  have ce : P.cellsOf t = 2 := by
    obtain ⟨f0, f1, ti, tp, te, hs, hone, hC, _⟩ := hp
    simp only [Bool.and_eq_true, decide_eq_true_eq] at hC
    exact hC.1.1
  obtain ⟨l⟩ := cs
  obtain ⟨z, A, n, c, ps, hcs, hps⟩ := open_bl2 hp (by simpa [Value.cells] using hsz.trans ce) hf
  simp only [Value.cells] at hcs
  exact ⟨⟨z, A, n, c, ps⟩, by simpa [Ba.val] using hcs, hps⟩
theorem open_D {r : Reach} {b0 : Nat} {t e : TypeId} {v : Value} {d : DataW H} {p : List MemPlace} (ht : P.underlying t = some (.slice e)) (hp : BlTy P e)
    (hv : Value.okWide P w r b0 t v) (h : DataW.Trod enc P w base spare held t v d p) : ∃ x : Da, v = x.val ∧ DevAt w x.A x.n x.ds := by
  obtain ⟨fuel, hf⟩ := h
  obtain ⟨a, len, cap, rfl⟩ := okWide_slice ht hv
  obtain ⟨A, n, c, ds, hcs, hds⟩ := open_dev ht hp hf
  simp only [Value.cells, List.cons.injEq, Value.slice.injEq, and_true] at hcs
  obtain ⟨rfl, rfl, rfl⟩ := hcs
  exact ⟨⟨_, _, _, ds⟩, rfl, hds⟩
theorem open_H {r : Reach} {b0 : Nat} {t : TypeId} {v : Value} {d : DataW H} {p : List MemPlace} (hp : HdTy P t)
    (hv : Value.okWide P w r b0 t v) (h : DataW.Trod enc P w base spare held t v d p) : ∃ x : Hd, v = x.val ∧ True := by
  obtain ⟨f0, f1, f2, ti, hs, hone, hC, hi⟩ := hp
  simp only [Bool.and_eq_true, decide_eq_true_eq] at hC
  obtain ⟨⟨⟨hC, rfl⟩, e1⟩, e2⟩ := hC
  obtain ⟨fuel, hf⟩ := h
  obtain ⟨cs, rfl, hsz⟩ := okWide_struct hs hv
  obtain ⟨l⟩ := cs
  match l, hsz.trans hC with
  | [c0, c1, c2], _ =>
    obtain ⟨xs, n, _, hx, _, hlen, hg⟩ := DataW.trod_struct hs hf
    obtain ⟨o0, k0⟩ := hone_of hone 0 f0 rfl
    obtain ⟨o1, k1⟩ := hone_of hone 1 f1 rfl
    obtain ⟨o2, k2⟩ := hone_of hone 2 f2 rfl
    match xs, hlen with
    | [y0, y1, y2], _ =>
      have g0 : DataW.trod enc P w base spare held n f0.type [c0] = some y0 := by simpa [Value.cells, o0, k0] using hg 0 f0 rfl
      have g1 : DataW.trod enc P w base spare held n f1.type [c1] = some y1 := by simpa [Value.cells, o1, k1] using hg 1 f1 rfl
      have g2 : DataW.trod enc P w base spare held n f2.type [c2] = some y2 := by simpa [Value.cells, o2, k2] using hg 2 f2 rfl
      rw [e1] at g1
      rw [e2] at g2
      obtain ⟨i0, h0, _⟩ := DataW.trod_int hi g0
      obtain ⟨i1, h1, _⟩ := DataW.trod_int hi g1
      obtain ⟨i2, h2, _⟩ := DataW.trod_int hi g2
      simp only [List.cons.injEq, and_true] at h0 h1 h2
      subst h0 h1 h2
      exact ⟨⟨i0, i1, i2⟩, rfl, trivial⟩
end
end Go.Proofs.Ytjphehapnhfecaa
