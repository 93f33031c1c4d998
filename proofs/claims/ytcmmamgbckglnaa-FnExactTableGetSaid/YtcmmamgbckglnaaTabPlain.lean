/- Plain functions on tables, and tables in memory. No program in sight. -/
import Derived.Test.YtcmmamgbckglnaaMem4
import Derived.Test.YtcmmamgbckglnaaOpenB
namespace Go.Proofs.Ytcmmamgbckglnaa
open Go.RowKit
set_option linter.unusedVariables false

def atAt (l : List Int) (k : Nat) : Int := l.getD k 0
def rowAt (t : List (List Int)) (f : Nat) : List Int := t.getD f []
/-- may number a come behind the numbers vs -/
def okN (vs : List Int) (a : Int) : Bool := inB a (-1) 47 && !(decide (0 ≤ a) && vs.contains a)
def goodL : List Int → List Int → Bool
  | _, [] => true
  | vs, a :: l => okN vs a && goodL (vs ++ [a]) l
def tableValidF (t : List (List Int)) : Bool := decide (t.length = 8) && t.all (fun l => decide (l.length = 6)) && goodL [] t.flatten
def tableGetF (t : List (List Int)) (f p : Int) : Int := if tableValidF t && inB f 0 7 && inB p 0 5 then atAt (rowAt t f.toNat) p.toNat else -1
/-- the numbers ahead of place k of row f -/
def pre (t : List (List Int)) (f k : Nat) : List Int := (t.take f).flatten ++ (rowAt t f).take k
theorem good_nil : goodL [] [] = true := rfl
theorem goodL_app (vs xs ys : List Int) : goodL vs (xs ++ ys) = (goodL vs xs && goodL (vs ++ xs) ys) := by
  induction xs generalizing vs with
  | nil => simp [goodL]
  | cons a l ih => simp only [List.cons_append, goodL, ih, Bool.and_assoc, List.append_assoc, List.nil_append]
theorem pre_step (t : List (List Int)) (f k : Nat) (hk : k < (rowAt t f).length) : pre t f (k + 1) = pre t f k ++ [atAt (rowAt t f) k] := by
  simp only [pre, List.append_assoc]
  congr 1
  rw [List.take_add_one, List.getElem?_eq_getElem hk]
  simp [atAt, List.getD, hk]
theorem pre_row (t : List (List Int)) (f k : Nat) (hf : f < t.length) (hk : k = (rowAt t f).length) : pre t f k = pre t (f + 1) 0 := by
  simp only [pre, List.take_zero, List.append_nil]
  have e1 : t.take (f + 1) = t.take f ++ [t[f]] := by rw [List.take_add_one, List.getElem?_eq_getElem hf]; rfl
  have e2 : rowAt t f = t[f] := by simp [rowAt, List.getD, hf]
  rw [e1, List.flatten_append, hk, List.take_length, e2]
  simp only [List.flatten_cons, List.flatten_nil, List.append_nil]
theorem pre_zero (t : List (List Int)) : pre t 0 0 = [] := by simp [pre]
theorem pre_all (t : List (List Int)) (n : Nat) (hn : t.length = n) : pre t n 0 = t.flatten := by
  subst hn; simp [pre]
theorem pre_split (t : List (List Int)) (f k : Nat) (hf : f < t.length) (hk : k < (rowAt t f).length) : ∃ rest, t.flatten = pre t f k ++ atAt (rowAt t f) k :: rest := by
  refine ⟨(rowAt t f).drop (k + 1) ++ (t.drop (f + 1)).flatten, ?_⟩
  have h1 : t.flatten = (t.take f).flatten ++ (rowAt t f ++ (t.drop (f + 1)).flatten) := by
    conv => lhs; rw [← List.take_append_drop f t]
    have e2 : rowAt t f = t[f] := by simp [rowAt, List.getD, hf]
    rw [List.flatten_append, List.drop_eq_getElem_cons hf, List.flatten_cons, e2]
  have h2 : rowAt t f = (rowAt t f).take k ++ atAt (rowAt t f) k :: (rowAt t f).drop (k + 1) := by
    conv => lhs; rw [← List.take_append_drop k (rowAt t f)]
    rw [List.drop_eq_getElem_cons hk]
    simp [atAt, List.getD, hk]
  rw [h1]
  conv => lhs; rw [h2]
  simp [pre]
theorem tv_len (t : List (List Int)) (n : Nat) (hl : t.length = n) (h : n ≠ 8) : tableValidF t = false := by rw [tableValidF, hl, decide_eq_false h]; rfl
theorem tv_row (t : List (List Int)) (f : Nat) (hf : f < t.length) (h : (rowAt t f).length ≠ 6) : tableValidF t = false := by
  have e : t.all (fun l => decide (l.length = 6)) = false := by
    rw [List.all_eq_false]
    exact ⟨t[f], List.getElem_mem hf, by simpa [rowAt, List.getD, hf] using h⟩
  rw [tableValidF, e]; simp
theorem tv_bad (t : List (List Int)) (f k : Nat) (hf : f < t.length) (hk : k < (rowAt t f).length) (h : okN (pre t f k) (atAt (rowAt t f) k) = false) : tableValidF t = false := by
  obtain ⟨rest, e⟩ := pre_split t f k hf hk
  have : goodL [] t.flatten = false := by
    rw [e, goodL_app, List.nil_append, goodL, h]; simp
  rw [tableValidF, this]; simp
theorem tv_ok (t : List (List Int)) (n : Nat) (hl : t.length = n) (h8 : n = 8) (h6 : ∀ f, f < n → (rowAt t f).length = 6) (hg : goodL [] (pre t n 0) = true) : tableValidF t = true := by
  have e : t.all (fun l => decide (l.length = 6)) = true := by
    rw [List.all_eq_true]
    intro l hm
    obtain ⟨f, hf, rfl⟩ := List.mem_iff_getElem.1 hm
    have := h6 f (by omega)
    simpa [rowAt, List.getD, hf] using this
  rw [tableValidF, e, ← pre_all t n hl, hg, hl, h8]; rfl
theorem tv_six (t : List (List Int)) (h : tableValidF t = true) : t.length = 8 ∧ ∀ f, f < 8 → (rowAt t f).length = 6 := by
  rw [tableValidF] at h
  simp only [Bool.and_eq_true, decide_eq_true_eq] at h
  refine ⟨h.1.1, fun f hf => ?_⟩
  have := List.all_eq_true.1 h.1.2 (rowAt t f) (by
    have hf' : f < t.length := by omega
    simp [rowAt, List.getD, hf'])
  simpa using this
theorem ok_up (t : List (List Int)) (f k : Nat) (hk : k < (rowAt t f).length) (hg : goodL [] (pre t f k) = true) (h : okN (pre t f k) (atAt (rowAt t f) k) = true) : goodL [] (pre t f (k + 1)) = true := by
  rw [pre_step t f k hk, goodL_app, hg, List.nil_append, goodL, h]; rfl
theorem okN_out (vs : List Int) (a : Int) (h : ¬ (-1 ≤ a ∧ a ≤ 47)) : okN vs a = false := by
  rw [okN]; simp only [Bool.and_eq_false_iff]; left; simp only [inB, Bool.and_eq_false_iff, decide_eq_false_iff_not]; omega
theorem okN_neg (vs : List Int) (a : Int) (h : -1 ≤ a ∧ a ≤ 47) (h0 : ¬ 0 ≤ a) : okN vs a = true := by rw [okN, inB_t h.1 h.2]; simp [h0]
theorem okN_pos (vs : List Int) (a : Int) (h : -1 ≤ a ∧ a ≤ 47) (h0 : 0 ≤ a) : okN vs a = !vs.contains a := by rw [okN, inB_t h.1 h.2]; simp [h0]
theorem tg_1 (t : List (List Int)) (f p : Int) (h : tableValidF t = false) : tableGetF t f p = -1 := by rw [tableGetF, h]; rfl
theorem tg_2 (t : List (List Int)) (f p : Int) (h : ¬ ((0 ≤ f ∧ f ≤ 7) ∧ 0 ≤ p ∧ p ≤ 5)) : tableGetF t f p = -1 := by
  rw [tableGetF, if_neg]
  simp only [Bool.and_eq_true, inB, decide_eq_true_eq]
  omega
theorem tg_3 (t : List (List Int)) (f p : Nat) (h : tableValidF t = true) (hf : f ≤ 7) (hp : p ≤ 5) : tableGetF t f p = atAt (rowAt t f) p := by
  rw [tableGetF, h, inB_t (by omega) (by omega), inB_t (by omega) (by omega)]; simp
attribute [irreducible] tableValidF tableGetF okN goodL pre

/-- a slice of integers -/
def IntsAt (w : World) (A : Option Addr) (n : Nat) (xs : List Int) : Prop :=
  xs.length = n ∧ n ≤ 9223372036854775807 ∧ (0 < n → ∃ b o, A = some ⟨b, o, none⟩ ∧ ∀ i, i < n → w.cell? ⟨b, o + i, none⟩ = some (.int .i64 (atAt xs i)))
/-- a slice of slices of integers -/
def TabAt (w : World) (A : Option Addr) (n : Nat) (ts : List (List Int)) : Prop :=
  ts.length = n ∧ n ≤ 9223372036854775807 ∧ (0 < n → ∃ b o, A = some ⟨b, o, none⟩ ∧ ∀ i, i < n → ∃ A' m c, w.cell? ⟨b, o + i, none⟩ = some (.slice A' m c) ∧ IntsAt w A' m (rowAt ts i))
/-- block g is a row of n cells that may be written -/
def VRow (w : World) (g n : Nat) (F : Nat → Value) : Prop := g < w.heap.size ∧ (∀ i, i < n → w.cell? ⟨g, i, none⟩ = some (F i)) ∧ ∀ j, w.frozen? ⟨g, j, none⟩ = false
section
variable {w w' : World}
theorem IntsAt.keep {A : Option Addr} {n : Nat} {xs : List Int} (h : IntsAt w A n xs) (hb : Below w.heap.size w w') : IntsAt w' A n xs :=
  ⟨h.1, h.2.1, fun hn => by
    obtain ⟨b, o, e, hc⟩ := h.2.2 hn
    exact ⟨b, o, e, fun i hi => stays_below hb _ _ _ (hc i hi)⟩⟩
theorem TabAt.keep {A : Option Addr} {n : Nat} {ts : List (List Int)} (h : TabAt w A n ts) (hb : Below w.heap.size w w') : TabAt w' A n ts :=
  ⟨h.1, h.2.1, fun hn => by
    obtain ⟨b, o, e, hc⟩ := h.2.2 hn
    refine ⟨b, o, e, fun i hi => ?_⟩
    obtain ⟨A', m, c, h1, h2⟩ := hc i hi
    exact ⟨A', m, c, stays_below hb _ _ _ h1, h2.keep hb⟩⟩
theorem TabAt.nil (A : Option Addr) : TabAt w A 0 [] := ⟨rfl, by omega, fun h => absurd h (by omega)⟩
theorem IntsAt.nil (A : Option Addr) : IntsAt w A 0 [] := ⟨rfl, by omega, fun h => absurd h (by omega)⟩
theorem VRow.keep {g n : Nat} {F : Nat → Value} (h : VRow w g n F) (hb : Below w.heap.size w w') : VRow w' g n F :=
  ⟨Nat.lt_of_lt_of_le h.1 hb.size, fun i hi => stays_below hb _ _ _ (h.2.1 i hi), fun j => (hb.frozen (p := ⟨g, j, none⟩) h.1).trans (h.2.2 j)⟩
theorem VRow.set {g n k : Nat} {F : Nat → Value} (h : VRow w g n F) (hk : k < n) (v : Value) : VRow (w.setCell ⟨g, k, none⟩ v) g n (fun i => if i = k then v else F i) := by
  refine ⟨by rw [World.size_setCell]; exact h.1, fun i hi => ?_, fun j => (World.frozen?_setCell _ _ _ _).trans (h.2.2 j)⟩
  dsimp only
  by_cases e : i = k
  · subst e; rw [if_pos rfl]; exact World.cell?_setCell_same _ _ _ (h.2.1 i hi)
  · rw [if_neg e]; exact (World.cell?_setCell_other _ _ _ _ (by simp <;> omega)).trans (h.2.1 i hi)
theorem VRow.setOther {g n : Nat} {F : Nat → Value} (h : VRow w g n F) {a : Addr} (ha : a.block ≠ g) (v : Value) : VRow (w.setCell a v) g n F :=
  ⟨by rw [World.size_setCell]; exact h.1, fun i hi => (World.cell?_setCell_other _ _ _ _ (fun e => ha (by rw [e]))).trans (h.2.1 i hi), fun j => (World.frozen?_setCell _ _ _ _).trans (h.2.2 j)⟩
theorem VRow.congr {g n : Nat} {F F' : Nat → Value} (h : VRow w g n F) (he : ∀ i, i < n → F i = F' i) : VRow w g n F' := ⟨h.1, fun i hi => (h.2.1 i hi).trans (by rw [he i hi]), h.2.2⟩
theorem VRow.ints {g n : Nat} {xs : List Int} (h : VRow w g n (fun i => .int .i64 (atAt xs i))) (hl : xs.length = n) (hn : n ≤ 9223372036854775807) : IntsAt w (some ⟨g, 0, none⟩) n xs :=
  ⟨hl, hn, fun _ => ⟨g, 0, rfl, fun i hi => by rw [Nat.zero_add]; exact h.2.1 i hi⟩⟩
end
/-- a table that a call made, in blocks from lo on -/
def TabHi (w : World) (lo g n : Nat) (ts : List (List Int)) : Prop :=
  ts.length = n ∧ lo ≤ g ∧ ∀ i, i < n → ∃ g' m, w.cell? ⟨g, i, none⟩ = some (.slice (some ⟨g', 0, none⟩) m m) ∧ lo ≤ g' ∧ m ≤ 1048576 ∧ (rowAt ts i).length = m ∧ VRow w g' m (fun j => .int .i64 (atAt (rowAt ts i) j))
theorem TabHi.at {w : World} {lo g n : Nat} {ts : List (List Int)} (h : TabHi w lo g n ts) (hn : n ≤ 9223372036854775807) : TabAt w (some ⟨g, 0, none⟩) n ts :=
  ⟨h.1, hn, fun _ => ⟨g, 0, rfl, fun i hi => by
    obtain ⟨g', m, h1, h2, h3, h4, h5⟩ := h.2.2 i hi
    exact ⟨_, m, m, by rw [Nat.zero_add]; exact h1, h5.ints h4 (by omega)⟩⟩⟩
theorem TabHi.low {w : World} {lo g n : Nat} {ts : List (List Int)} (h : TabHi w lo g n ts) {a : Addr} (ha : a.block < lo) (v : Value) : TabHi (w.setCell a v) lo g n ts :=
  ⟨h.1, h.2.1, fun i hi => by
    obtain ⟨g', m, h1, h2, h3, h4, h5⟩ := h.2.2 i hi
    exact ⟨g', m, (World.cell?_setCell_other _ _ _ _ (fun e => absurd h.2.1 (by rw [e] at ha; simp at ha; omega))).trans h1, h2, h3, h4, h5.setOther (by omega) v⟩⟩
theorem vrow_made (w : World) (z : Value) (n : Nat) (t : TypeId) : VRow (w.alloc (.cells (madeCells #[z] n) t)) w.heap.size n (fun _ => z) := by
  refine ⟨by simp, fun i hi => ?_, frozen_new w _ t⟩
  have hc : (w.alloc (.cells (madeCells #[z] n) t)).cell? ⟨w.heap.size, i, none⟩ = (madeCells #[z] n)[i]? := by simp [go_sem]
  rw [hc]
  simp [madeCells, hi, Nat.mod_one]

/-! opening a table that came in -/
open Go.ChangeShapes Go.WideShapes Go.Deep Go.Joins
/-- what a table's type is -/
def TbTy (P : Program) (t : TypeId) : Prop := ∃ (f0 : Field) (ts ti tn : TypeId), P.underlying t = some (.struct #[f0]) ∧ oneCellFields P #[f0] = true ∧
  (decide (P.cellsOf t = 1) && decide (f0.type = ts) && decide (P.cellsOf ti = 1) && decide (P.cellsOf tn = 1)) = true ∧ P.underlying ts = some (.slice ti) ∧ P.underlying ti = some (.slice tn) ∧ P.underlying tn = some (.int .i64)
structure Ta where
  A : Option Addr
  n : Nat
  c : Nat
  ts : List (List Int)
def Ta.val (x : Ta) : Value := .agg #[.slice x.A x.n x.c]
theorem atAt_map (q : Nat → Int) {n i : Nat} (hi : i < n) : atAt ((List.range n).map q) i = q i := by simp [atAt, List.getD, hi]
theorem rowAt_map (q : Nat → List Int) {n i : Nat} (hi : i < n) : rowAt ((List.range n).map q) i = q i := by simp [rowAt, List.getD, hi]
section
variable {H : Type} {enc : TypeId × Value → H} {P : Program} {w : World} {base : Nat} {spare : Nat → Bool} {held : Bool}
theorem open_introw {t e : TypeId} {fuel : Nat} {cs : List Value} {x : DataW H × List MemPlace} (ht : P.underlying t = some (.slice e)) (hc : P.cellsOf e = 1) (he : P.underlying e = some (.int .i64)) (h : DataW.trod enc P w base spare held fuel t cs = some x) :
    ∃ A n c xs, cs = [.slice A n c] ∧ IntsAt w A n xs := by
  rcases open_slice1 ht hc h with ⟨rfl, _⟩ | ⟨a, len, cap, m, n, V, D, Pl, rfl, hb, hl, hm, hmm, rfl, hx⟩
  · exact ⟨none, 0, 0, [], rfl, IntsAt.nil _⟩
  have hlm : len ≤ m := by rw [hmm]; split <;> omega
  rcases Nat.eq_zero_or_pos len with h0 | h0
  · subst h0
    exact ⟨some a, 0, cap, [], rfl, IntsAt.nil _⟩
  have hs : a.spot = none := by
    have := (hx 0 (by omega)).1
    rw [Addr.add_zero'] at this
    exact spot_none' this
  obtain ⟨q, hq⟩ := choose_lt (α := Int) (p := fun i z => w.cell? ⟨a.block, a.off + i, none⟩ = some (.int .i64 z)) (n := len) (fun i hi => by
    obtain ⟨h1, h2⟩ := hx i (by omega)
    obtain ⟨z, hz, _⟩ := DataW.trod_int he h2
    simp only [List.cons.injEq, and_true] at hz
    rw [addr_add' hs, hz] at h1
    exact ⟨z, h1⟩)
  refine ⟨some a, len, cap, (List.range len).map q, rfl, by simp, le_max hl hm, fun _ => ⟨a.block, a.off, by obtain ⟨b, o, s⟩ := a; simp only at hs; subst hs; rfl, fun i hi => ?_⟩⟩
  rw [atAt_map q hi]
  exact hq i hi
theorem open_rows {t ti tn : TypeId} {fuel : Nat} {cs : List Value} {x : DataW H × List MemPlace} (ht : P.underlying t = some (.slice ti)) (hc : P.cellsOf ti = 1) (hti : P.underlying ti = some (.slice tn)) (hcn : P.cellsOf tn = 1) (he : P.underlying tn = some (.int .i64)) (h : DataW.trod enc P w base spare held fuel t cs = some x) :
    ∃ A n c ts, cs = [.slice A n c] ∧ TabAt w A n ts := by
  rcases open_slice1 ht hc h with ⟨rfl, _⟩ | ⟨a, len, cap, m, n, V, D, Pl, rfl, hb, hl, hm, hmm, rfl, hx⟩
  · exact ⟨none, 0, 0, [], rfl, TabAt.nil _⟩
  have hlm : len ≤ m := by rw [hmm]; split <;> omega
  rcases Nat.eq_zero_or_pos len with h0 | h0
  · subst h0
    exact ⟨some a, 0, cap, [], rfl, TabAt.nil _⟩
  have hs : a.spot = none := by
    have := (hx 0 (by omega)).1
    rw [Addr.add_zero'] at this
    exact spot_none' this
  obtain ⟨q, hq⟩ := choose_lt (α := List Int) (p := fun i xs => ∃ A' m' c', w.cell? ⟨a.block, a.off + i, none⟩ = some (.slice A' m' c') ∧ IntsAt w A' m' xs) (n := len) (fun i hi => by
    obtain ⟨h1, h2⟩ := hx i (by omega)
    obtain ⟨A', m', c', xs, hz, hxs⟩ := open_introw hti hcn he h2
    simp only [List.cons.injEq, and_true] at hz
    rw [addr_add' hs, hz] at h1
    exact ⟨xs, A', m', c', h1, hxs⟩)
  refine ⟨some a, len, cap, (List.range len).map q, rfl, by simp, le_max hl hm, fun _ => ⟨a.block, a.off, by obtain ⟨b, o, s⟩ := a; simp only at hs; subst hs; rfl, fun i hi => ?_⟩⟩
  rw [rowAt_map q hi]
  exact hq i hi
theorem open_T {r : Reach} {b0 : Nat} {t : TypeId} {v : Value} {d : DataW H} {p : List MemPlace} (hp : TbTy P t)
    (hv : Value.okWide P w r b0 t v) (h : DataW.Trod enc P w base spare held t v d p) : ∃ x : Ta, v = x.val ∧ TabAt w x.A x.n x.ts := by
  obtain ⟨f0, ts, ti, tn, hs, hone, hC, h1, h2, h3⟩ := hp
  simp only [Bool.and_eq_true, decide_eq_true_eq] at hC
  obtain ⟨⟨⟨hC, rfl⟩, hci⟩, hcn⟩ := hC
  obtain ⟨fuel, hf⟩ := h
  obtain ⟨cs, rfl, hsz⟩ := okWide_struct hs hv
  obtain ⟨l⟩ := cs
  match l, hsz.trans hC with
  | [c0], _ =>
    obtain ⟨xs, n, _, hx, _, hlen, hg⟩ := DataW.trod_struct hs hf
    obtain ⟨o0, k0⟩ := hone_of hone 0 f0 rfl
    match xs, hlen with
    | [y0], _ =>
      have g0 : DataW.trod enc P w base spare held n f0.type [c0] = some y0 := by simpa [Value.cells, o0, k0] using hg 0 f0 rfl
      obtain ⟨A, m, c, ts, hz, hts⟩ := open_rows h1 hci h2 hcn h3 g0
      simp only [List.cons.injEq, and_true] at hz
      subst hz
      exact ⟨⟨A, m, c, ts⟩, rfl, hts⟩
end
end Go.Proofs.Ytcmmamgbckglnaa
