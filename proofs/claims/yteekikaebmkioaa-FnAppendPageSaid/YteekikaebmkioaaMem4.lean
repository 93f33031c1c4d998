/- Memory: pages appended to an empty slice make a new row. No program in sight. -/
import Derived.Test.YteekikaebmkioaaMem3
import Derived.Laws.AppendOwn
import Derived.Laws.OwnMore
import Derived.Deep.RegionHeld3
import Derived.Below
namespace Go.Proofs.Yteekikaebmkioaa
open Go.RowKit
set_option linter.unusedVariables false

/-- cell r of a page -/
def pgCell (p : Pg) (r : Nat) : Value := if r = 0 then .bool p.full else if r = 1 then .int .i64 p.file else if r = 2 then .int .i64 p.place else if r = 3 then .int .i64 p.value else .int .i64 p.stamp
/-- all cells of pages, in a row -/
def flat (ps : List Pg) : List Value := (List.range (ps.length * 5)).map fun j => pgCell (pgAt ps (j / 5)) (j % 5)
theorem flat_len (ps : List Pg) : (flat ps).length = ps.length * 5 := by simp [flat]
theorem flat_at (ps : List Pg) (j : Nat) (hj : j < ps.length * 5) : (flat ps)[j]? = some (pgCell (pgAt ps (j / 5)) (j % 5)) := by simp [flat, hj]
theorem flat_one (ps : List Pg) : ∀ u ∈ flat ps, u.oneCell' = true := by
  intro u hu
  simp only [flat, List.mem_map] at hu
  obtain ⟨j, _, rfl⟩ := hu
  unfold pgCell
  split
  · rfl
  · split
    · rfl
    · split
      · rfl
      · split <;> rfl
theorem flat_cells {w : World} {b o n : Nat} {ps : List Pg} (hl : ps.length = n) (hC : ∀ i, i < n → C5 w b (o + i * 5) (pgAt ps i)) :
    ∀ j u, (flat ps)[j]? = some u → w.cell? ((⟨b, o, none⟩ : Addr).add j) = some u := by
  intro j u hu
  have hj : j < ps.length * 5 := by
    have := (List.getElem?_eq_some_iff.1 hu).1
    rwa [flat_len] at this
  rw [flat_at ps j hj] at hu
  rw [Addr.add_lit, ← hu]
  obtain ⟨h0, h1, h2, h3, h4⟩ := hC (j / 5) (by omega)
  have hr : j % 5 = 0 ∨ j % 5 = 1 ∨ j % 5 = 2 ∨ j % 5 = 3 ∨ j % 5 = 4 := by omega
  rcases hr with e | e | e | e | e
  · rw [e, show o + j = o + j / 5 * 5 by omega]; exact h0
  · rw [e, show o + j = o + j / 5 * 5 + 1 by omega]; exact h1
  · rw [e, show o + j = o + j / 5 * 5 + 2 by omega]; exact h2
  · rw [e, show o + j = o + j / 5 * 5 + 3 by omega]; exact h3
  · rw [e, show o + j = o + j / 5 * 5 + 4 by omega]; exact h4
theorem own_row {w : World} {base e n : Nat} {v : Value} {ps : List Pg} (hl : ps.length = n) (hn : 0 < n) (h : w.ownsRow base e 5 v n (flat ps)) :
    ∃ g c, v = .slice (some ⟨g, 0, none⟩) n c ∧ base ≤ g ∧ PgRow w g n ps := by
  rcases h.2 with ⟨_, h0⟩ | ⟨g, cap, cur, rfl, hb, hg, hnc, hcm, hcs, htake⟩
  · omega
  · refine ⟨g, cap, rfl, hb, hl, ?_, fun i hi => ?_, fun j => frozen_of_row w g j cur e hg⟩
    · exact (Array.getElem?_eq_some_iff.1 hg).1
    · have hc : ∀ r, r < 5 → w.cell? ⟨g, i * 5 + r, none⟩ = some (pgCell (pgAt ps i) r) := by
        intro r hr
        rw [cell_of_row w g _ cur e _ hg, ← Array.getElem?_toList]
        have h1 := flat_at ps (i * 5 + r) (by omega)
        rw [← htake, List.getElem?_take, if_pos (by omega)] at h1
        rw [h1, show (i * 5 + r) / 5 = i by omega, show (i * 5 + r) % 5 = r by omega]
      exact ⟨hc 0 (by omega), hc 1 (by omega), hc 2 (by omega), hc 3 (by omega), hc 4 (by omega)⟩

def zPage : Value := .agg #[.bool false, .int .i64 0, .int .i64 0, .int .i64 0, .int .i64 0]
section
variable {P : Program}
theorem run_append_pages {t ty e : TypeId} (ht : P.underlying t = some (.slice e)) (hinfo : (P.info? e).map (fun i => (i.zero, i.size, i.bytes)) = some (some zPage, 5, 40))
    {w : World} {g0 b o n c0 : Nat} {ps : List Pg} (hg0 : w.heap[g0]? = some (.cells #[] e (0, 0))) (hl : ps.length = n) (hC : ∀ i, i < n → C5 w b (o + i * 5) (pgAt ps i)) (hn0 : 0 < n) (hn : n ≤ 1048576) :
    ∃ g c w', (Builtin.append_ #[t, t] ty #[.slice (some ⟨g0, 0, none⟩) 0 0, .slice (some ⟨b, o, none⟩) n c0]).run P w = .ok (.slice (some ⟨g, 0, none⟩) n c) w' ∧ g0 ≤ g ∧ PgRow w' g n ps ∧
      ∀ B a, Below B a w → B ≤ g0 → Below B a w' := by
  obtain ⟨i, hi, hzz⟩ := Option.map_eq_some_iff.1 hinfo
  simp only [Prod.mk.injEq] at hzz
  obtain ⟨hz, hs, hb⟩ := hzz
  have hlt : g0 < w.heap.size := (Array.getElem?_eq_some_iff.1 hg0).1
  have hown : w.ownsRow g0 e 5 (.slice (some ⟨g0, 0, none⟩) 0 0) 0 [] := ⟨by simp, .inr ⟨g0, 0, #[], rfl, Nat.le_refl _, hg0, Nat.le_refl _, Nat.zero_le _, by simp, by simp⟩⟩
  obtain ⟨v', w', hr, h2, h3, _⟩ := run_append_own (P := P) w g0 t ty e i zPage 5 40 ht hi hz hs hb rfl (by decide) _ 0 [] hown ⟨b, o, none⟩ n c0 (flat ps) (by rw [flat_len, hl]) (flat_cells hl hC) (flat_one ps) (by unfold maxLen; omega) (by omega) (Nat.le_of_lt hlt)
  rw [Nat.zero_add, List.nil_append] at h2
  obtain ⟨g, c, rfl, hgg, hrow⟩ := own_row hl hn0 h2
  exact ⟨g, c, w', hr, hgg, hrow, fun B a hB hBg => hB.grown h3 (Nat.le_trans hBg (Nat.le_of_lt hlt)) (fun k hk => by simp [Value.ownBlock] at hk; omega)⟩

theorem wp_append_pages {o : Oper} {a : Act} {w : World} {K : Act → World → Prop} {Q : Exit → Act → World → Prop} (s x : Operand) (t : TypeId)
    (ho : o.op = .call { callee := .builtin .append, args := #[s, x], argTypes := #[t, t] }) (e : TypeId)
    (ht : P.underlying t = some (.slice e)) (hinfo : (P.info? e).map (fun i => (i.zero, i.size, i.bytes)) = some (some zPage, 5, 40))
    (g0 b off n c0 : Nat) (ps : List Pg) (hs : a.eval s = .slice (some ⟨g0, 0, none⟩) 0 0) (hx : a.eval x = .slice (some ⟨b, off, none⟩) n c0)
    (hg0 : w.heap[g0]? = some (.cells #[] e (0, 0))) (hl : ps.length = n) (hC : ∀ i, i < n → C5 w b (off + i * 5) (pgAt ps i)) (hn0 : 0 < n) (hn : n ≤ 1048576)
    (h : ∀ g c w', g0 ≤ g → PgRow w' g n ps → (∀ B a, Below B a w → B ≤ g0 → Below B a w') → K (a.put o.dst (.slice (some ⟨g, 0, none⟩) n c)) w') : o.wp P a w K Q := by
  obtain ⟨g, c, w', hr, h2, h3, h4⟩ := run_append_pages (P := P) (ty := o.type) ht hinfo (c0 := c0) hg0 hl hC hn0 hn
  unfold Oper.wp execOp
  simp only [ho, resolve, invoke, builtin, Sem.run_bind, Sem.run_pure, Result.andThen_ok, List.map_toArray, List.map_cons, List.map_nil, hs, hx, hr]
  exact h g c w' h2 h3 h4
theorem wpList_append_pages {ops : Array Oper} {rest : List Oper} {o : Oper} {a : Act} {w : World} {Q : Exit → Act → World → Prop} (hgd : o.guard = none) (s x : Operand) (t : TypeId)
    (ho : o.op = .call { callee := .builtin .append, args := #[s, x], argTypes := #[t, t] }) (e : TypeId)
    (ht : P.underlying t = some (.slice e)) (hinfo : (P.info? e).map (fun i => (i.zero, i.size, i.bytes)) = some (some zPage, 5, 40))
    (g0 b off n c0 : Nat) (ps : List Pg) (hs : a.eval s = .slice (some ⟨g0, 0, none⟩) 0 0) (hx : a.eval x = .slice (some ⟨b, off, none⟩) n c0)
    (hg0 : w.heap[g0]? = some (.cells #[] e (0, 0))) (hl : ps.length = n) (hC : ∀ i, i < n → C5 w b (off + i * 5) (pgAt ps i)) (hn0 : 0 < n) (hn : n ≤ 1048576)
    (h : ∀ g c w', g0 ≤ g → PgRow w' g n ps → (∀ B a, Below B a w → B ≤ g0 → Below B a w') → wpList P ops Q rest (a.put o.dst (.slice (some ⟨g, 0, none⟩) n c)) w') : wpList P ops Q (o :: rest) a w :=
  wpList_plain hgd fun _ hK => wp_append_pages s x t ho e ht hinfo g0 b off n c0 ps hs hx hg0 hl hC hn0 hn fun g c w' h1 h2 h3 => hK _ _ (h g c w' h1 h2 h3)
theorem step_append_pages {ops : Array Oper} {o : Oper} {a : Act} {w : World} {K : Act → World → Prop} {Q : Exit → Act → World → Prop} {E : Prop} (hgd : o.guard = none) (d : Nat) (hd : o.dst = some d) (s x : Operand) (t : TypeId)
    (ho : o.op = .call { callee := .builtin .append, args := #[s, x], argTypes := #[t, t] }) (e : TypeId)
    (ht : P.underlying t = some (.slice e)) (hinfo : (P.info? e).map (fun i => (i.zero, i.size, i.bytes)) = some (some zPage, 5, 40))
    (g0 b off n c0 : Nat) (ps : List Pg) (hs : a.eval s = .slice (some ⟨g0, 0, none⟩) 0 0) (hx : a.eval x = .slice (some ⟨b, off, none⟩) n c0)
    (hg0 : w.heap[g0]? = some (.cells #[] e (0, 0))) (hl : ps.length = n) (hC : ∀ i, i < n → C5 w b (off + i * 5) (pgAt ps i)) (hn0 : 0 < n) (hn : n ≤ 1048576)
    (h : ∀ g c w', g0 ≤ g → PgRow w' g n ps → (∀ B a, Below B a w → B ≤ g0 → Below B a w') → K (a.put (some d) (.slice (some ⟨g, 0, none⟩) n c)) w') :
    if Region.wanted o (yielded ops a.tmps) = true then Oper.wp P o a w K Q else E := by
  have hw : Region.wanted o (yielded ops a.tmps) = true := by simp [Region.wanted, hgd]
  rw [if_pos hw]
  rw [← hd] at h
  exact wp_append_pages s x t ho e ht hinfo g0 b off n c0 ps hs hx hg0 hl hC hn0 hn h
variable {ops : Array Oper} {Q : Exit → Act → World → Prop}
theorem reg_beginB {id B : Nat} {a : Act} {w : World} (hm : P.follows .mixedOrders = true)
    (h : Below B w w.drew → wpAnyH P .any ops Q (fun w' => Below B w w') ops.size (Array.replicate ops.size false) a w.drew) : (Code.region id ops true).wp P Q a w :=
  wp_region_held_drew hm (Below.refl _ _).drew h
end
theorem heap_new (w : World) (o : Obj) : (w.alloc o).heap[w.heap.size]? = some o := by
  show (w.heap.push o)[w.heap.size]? = _
  simp
theorem Sl.keep {w w' : World} {A : Option Addr} {m q : Nat} {ps : List Pg} (h : Sl w A m q ps) (hb : Below w.heap.size w w') : Sl w' A m q ps := by
  rcases h with h | ⟨h1, h2⟩
  · exact Or.inl h
  · exact Or.inr ⟨h1, h2.keep hb⟩
/-- the block of a slice's pages may be said to be s where there are none -/
theorem Sl.norm {w : World} {A : Option Addr} {m q : Nat} {ps : List Pg} (h : Sl w A m q ps) (s : Nat) : ∃ q', (q' = q ∧ q < w.heap.size ∨ m = 0 ∧ q' = s) ∧ Sl w A m q' ps := by
  rcases h with h | ⟨h1, h2⟩
  · exact ⟨s, Or.inr ⟨h.1, rfl⟩, Or.inl h⟩
  · exact ⟨q, Or.inl ⟨rfl, h2.2.1⟩, Or.inr ⟨h1, h2⟩⟩
/-- what a call hands back as a block of its own -/
def BlkOut (w w' : World) (b : Bl) (v : Value) : Prop := ∃ A n c q, v = .agg #[.int .i64 b.wear, .slice A n c] ∧ n ≤ 9223372036854775807 ∧ w.heap.size ≤ q ∧ Sl w' A n q b.pages
end Go.Proofs.Yteekikaebmkioaa
