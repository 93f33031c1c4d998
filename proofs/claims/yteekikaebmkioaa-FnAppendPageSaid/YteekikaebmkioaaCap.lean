/- The reference's blocks once more, with the capacity of the slice of their pages. -/
import Derived.Test.YteekikaebmkioaaWrite
import Derived.Test.YteekikaebmkioaaAppPlain
namespace Go.Proofs.Yteekikaebmkioaa
open Go.RowKit
set_option linter.unusedVariables false

theorem own_rowC {w : World} {base e n : Nat} {v : Value} {ps : List Pg} (hl : ps.length = n) (hn : 0 < n) (h : w.ownsRow base e 5 v n (flat ps)) :
    ∃ g c, v = .slice (some ⟨g, 0, none⟩) n c ∧ base ≤ g ∧ PgRow w g n ps ∧ n ≤ c := by
  obtain ⟨g', c', e', h1, h2⟩ := own_row hl hn h
  refine ⟨g', c', e', h1, h2, ?_⟩
  rcases h.2 with ⟨_, h0⟩ | ⟨g, cap, cur, e2, hb, hg, hnc, hcm, hcs, htake⟩
  · omega
  · rw [e'] at e2
    simp only [Value.slice.injEq] at e2
    omega

section
variable {P : Program}
theorem run_append_pagesC {t ty e : TypeId} (ht : P.underlying t = some (.slice e)) (hinfo : (P.info? e).map (fun i => (i.zero, i.size, i.bytes)) = some (some zPage, 5, 40))
    {w : World} {g0 b o n c0 : Nat} {ps : List Pg} (hg0 : w.heap[g0]? = some (.cells #[] e (0, 0))) (hl : ps.length = n) (hC : ∀ i, i < n → C5 w b (o + i * 5) (pgAt ps i)) (hn0 : 0 < n) (hn : n ≤ 1048576) :
    ∃ g c w', (Builtin.append_ #[t, t] ty #[.slice (some ⟨g0, 0, none⟩) 0 0, .slice (some ⟨b, o, none⟩) n c0]).run P w = .ok (.slice (some ⟨g, 0, none⟩) n c) w' ∧ g0 ≤ g ∧ PgRow w' g n ps ∧ n ≤ c ∧
      ∀ B a, Below B a w → B ≤ g0 → Below B a w' := by
  obtain ⟨i, hi, hzz⟩ := Option.map_eq_some_iff.1 hinfo
  simp only [Prod.mk.injEq] at hzz
  obtain ⟨hz, hs, hb⟩ := hzz
  have hlt : g0 < w.heap.size := (Array.getElem?_eq_some_iff.1 hg0).1
  have hown : w.ownsRow g0 e 5 (.slice (some ⟨g0, 0, none⟩) 0 0) 0 [] := ⟨by simp, .inr ⟨g0, 0, #[], rfl, Nat.le_refl _, hg0, Nat.le_refl _, Nat.zero_le _, by simp, by simp⟩⟩
  obtain ⟨v', w', hr, h2, h3, _⟩ := run_append_own (P := P) w g0 t ty e i zPage 5 40 ht hi hz hs hb rfl (by decide) _ 0 [] hown ⟨b, o, none⟩ n c0 (flat ps) (by rw [flat_len, hl]) (flat_cells hl hC) (flat_one ps) (by unfold maxLen; omega) (by omega) (Nat.le_of_lt hlt)
  rw [Nat.zero_add, List.nil_append] at h2
  obtain ⟨g, c, rfl, hgg, hrow, hcap⟩ := own_rowC hl hn0 h2
  exact ⟨g, c, w', hr, hgg, hrow, hcap, fun B a hB hBg => hB.grown h3 (Nat.le_trans hBg (Nat.le_of_lt hlt)) (fun k hk => by simp [Value.ownBlock] at hk; omega)⟩

theorem wp_append_pagesC {o : Oper} {a : Act} {w : World} {K : Act → World → Prop} {Q : Exit → Act → World → Prop} (s x : Operand) (t : TypeId)
    (ho : o.op = .call { callee := .builtin .append, args := #[s, x], argTypes := #[t, t] }) (e : TypeId)
    (ht : P.underlying t = some (.slice e)) (hinfo : (P.info? e).map (fun i => (i.zero, i.size, i.bytes)) = some (some zPage, 5, 40))
    (g0 b off n c0 : Nat) (ps : List Pg) (hs : a.eval s = .slice (some ⟨g0, 0, none⟩) 0 0) (hx : a.eval x = .slice (some ⟨b, off, none⟩) n c0)
    (hg0 : w.heap[g0]? = some (.cells #[] e (0, 0))) (hl : ps.length = n) (hC : ∀ i, i < n → C5 w b (off + i * 5) (pgAt ps i)) (hn0 : 0 < n) (hn : n ≤ 1048576)
    (h : ∀ g c w', g0 ≤ g → PgRow w' g n ps → n ≤ c → (∀ B a, Below B a w → B ≤ g0 → Below B a w') → K (a.put o.dst (.slice (some ⟨g, 0, none⟩) n c)) w') : o.wp P a w K Q := by
  obtain ⟨g, c, w', hr, h2, h3, h4, h5⟩ := run_append_pagesC (P := P) (ty := o.type) ht hinfo (c0 := c0) hg0 hl hC hn0 hn
  unfold Oper.wp execOp
  simp only [ho, resolve, invoke, builtin, Sem.run_bind, Sem.run_pure, Result.andThen_ok, List.map_toArray, List.map_cons, List.map_nil, hs, hx, hr]
  exact h g c w' h2 h3 h4 h5
theorem step_append_pagesC {ops : Array Oper} {o : Oper} {a : Act} {w : World} {K : Act → World → Prop} {Q : Exit → Act → World → Prop} {E : Prop} (hgd : o.guard = none) (d : Nat) (hd : o.dst = some d) (s x : Operand) (t : TypeId)
    (ho : o.op = .call { callee := .builtin .append, args := #[s, x], argTypes := #[t, t] }) (e : TypeId)
    (ht : P.underlying t = some (.slice e)) (hinfo : (P.info? e).map (fun i => (i.zero, i.size, i.bytes)) = some (some zPage, 5, 40))
    (g0 b off n c0 : Nat) (ps : List Pg) (hs : a.eval s = .slice (some ⟨g0, 0, none⟩) 0 0) (hx : a.eval x = .slice (some ⟨b, off, none⟩) n c0)
    (hg0 : w.heap[g0]? = some (.cells #[] e (0, 0))) (hl : ps.length = n) (hC : ∀ i, i < n → C5 w b (off + i * 5) (pgAt ps i)) (hn0 : 0 < n) (hn : n ≤ 1048576)
    (h : ∀ g c w', g0 ≤ g → PgRow w' g n ps → n ≤ c → (∀ B a, Below B a w → B ≤ g0 → Below B a w') → K (a.put (some d) (.slice (some ⟨g, 0, none⟩) n c)) w') :
    if Region.wanted o (yielded ops a.tmps) = true then Oper.wp P o a w K Q else E := by
  have hw : Region.wanted o (yielded ops a.tmps) = true := by simp [Region.wanted, hgd]
  rw [if_pos hw]
  rw [← hd] at h
  exact wp_append_pagesC s x t ho e ht hinfo g0 b off n c0 ps hs hx hg0 hl hC hn0 hn h
end

set_option maxHeartbeats 400000 in
theorem sCopyC (z : Int) (A : Option Addr) (c : Nat) (ps : List Pg) (w : World) (h : PgsAt w A 4 ps) :
    Calls Try.prog 63 #[.agg #[.int .i64 z, .slice A 4 c]] w fun e w' => ∃ g c', e = .returned (.agg #[.int .i64 z, .slice (some ⟨g, 0, none⟩) 4 c']) ∧ 4 ≤ c' ∧ w.heap.size ≤ g ∧ PgRow w' g 4 ps ∧ Below w.heap.size w w' := by
  have HP := Lib.hid h
  clear h
  go_enter Try.func63, Try.ntmps63
  go_wp2_with fail
  have HB0 := Lib.hid (bel_2 w (.cells #[.int .i64 z, .slice A 4 c] 25) (.cells #[.int .i64 0, .slice none 0 0] 25))
  have b0 : ((w.alloc (.cells #[.int .i64 z, .slice A 4 c] 25)).alloc (.cells #[.int .i64 0, .slice none 0 0] 25)).cell? ⟨w.heap.size, 0, none⟩ = some (.int .i64 z) := by simp [go_sem]
  have b1 : ((w.alloc (.cells #[.int .i64 z, .slice A 4 c] 25)).alloc (.cells #[.int .i64 0, .slice none 0 0] 25)).cell? ⟨w.heap.size, 1, none⟩ = some (.slice A 4 c) := by simp [go_sem]
  have r0 : ((w.alloc (.cells #[.int .i64 z, .slice A 4 c] 25)).alloc (.cells #[.int .i64 0, .slice none 0 0] 25)).cell? ⟨w.heap.size + 1, 0, none⟩ = some (.int .i64 0) := by simp [go_sem]
  have r1 : ((w.alloc (.cells #[.int .i64 z, .slice A 4 c] 25)).alloc (.cells #[.int .i64 0, .slice none 0 0] 25)).cell? ⟨w.heap.size + 1, 1, none⟩ = some (.slice none 0 0) := by simp [go_sem]
  have f0 : ((w.alloc (.cells #[.int .i64 z, .slice A 4 c] 25)).alloc (.cells #[.int .i64 0, .slice none 0 0] 25)).frozen? ⟨w.heap.size + 1, 0, none⟩ = false := by simp [go_sem]
  have f1 : ((w.alloc (.cells #[.int .i64 z, .slice A 4 c] 25)).alloc (.cells #[.int .i64 0, .slice none 0 0] 25)).frozen? ⟨w.heap.size + 1, 1, none⟩ = false := by simp [go_sem]
  have hW : ((w.alloc (.cells #[.int .i64 z, .slice A 4 c] 25)).alloc (.cells #[.int .i64 0, .slice none 0 0] 25)).heap.size = w.heap.size + 2 := by simp
  generalize ((w.alloc (.cells #[.int .i64 z, .slice A 4 c] 25)).alloc (.cells #[.int .i64 0, .slice none 0 0] 25)) = W at *
  have hs0 : w.heap.size < w.heap.size + 1 := by omega
  obtain ⟨hl, hm, hc⟩ := HP.out
  obtain ⟨b, o, rfl, hC⟩ := hc (by omega)
  have HC := Lib.hid hC
  have HL := Lib.hid hl
  clear hc hC hl hm
  refine reg_beginB (B := w.heap.size + 1) (by kernel_rfl) (fun hHeld => ?_)
  refine reg_take 0 3 (v := ?_) rfl rfl (by kernel_rfl) (by kernel_rfl) (by kernel_rfl) (fun _ _ _ h => h) (Or.inl ⟨by rfl, ?_⟩) hHeld ?_
  rotate_left 1
  · intro wS hSw; go_simp <;> with_reducible rfl
  simp only [put_lit, List.set_cons_zero, List.set_cons_succ]
  refine reg_take 1 4 (v := ?_) rfl rfl (by kernel_rfl) (by kernel_rfl) (by kernel_rfl) (fun _ _ _ h => h) (Or.inl ⟨by rfl, ?_⟩) hHeld ?_
  rotate_left 1
  · intro wS hSw; have hqS := bcellB hSw; go_simp <;> with_reducible rfl
  simp only [put_lit, List.set_cons_zero, List.set_cons_succ]
  refine reg_take 3 6 (v := ?_) rfl rfl (by kernel_rfl) (by kernel_rfl) (by kernel_rfl) (fun _ _ _ h => h) (Or.inl ⟨by rfl, ?_⟩) hHeld ?_
  rotate_left 1
  · intro wS hSw; go_simp <;> with_reducible rfl
  simp only [put_lit, List.set_cons_zero, List.set_cons_succ]
  refine reg_take 4 7 (v := ?_) rfl rfl (by kernel_rfl) (by kernel_rfl) (by kernel_rfl) (fun _ _ _ h => h) (Or.inl ⟨by rfl, ?_⟩) hHeld ?_
  rotate_left 1
  · intro wS hSw; have hqS := bcellB hSw; go_simp <;> with_reducible rfl
  simp only [put_lit, List.set_cons_zero, List.set_cons_succ]
  refine wpAnyH_ready (rs := [2]) (by kernel_rfl) (by simp) ?_
  refine AllReadyH.cons rfl (fun K hK => ?_) AllReadyH.nil
  go_simp
  refine hK.out _ _ ?_ (fun hHeld => ?_)
  · exact reg_alloc hHeld (by omega) _
  clear hK K
  (try simp only [put_lit, List.set_cons_zero, List.set_cons_succ])
  refine wpAnyH_ready (rs := [5]) (by kernel_rfl) (by simp) ?_
  refine AllReadyH.cons rfl (fun K hK => ?_) AllReadyH.nil
  refine step_append_pagesC rfl 8 rfl (.tmp 5) (.tmp 7) 23 rfl 32 Try.underlying23 infoPage W.heap.size b o 4 c ps (by simp [Act.eval]) (by simp [Act.eval]) (heap_new _ _) HL.out (fun i hi => (HC.out i hi).keep (stays_below (HB0.out.trans (hHeld.mono (by omega))))) (by omega) (by omega) ?_
  intro g c' w1 hg hrow hcap hbel
  have hb1 := hbel _ _ hHeld (by omega)
  have HX := Lib.hid (hbel W.heap.size W ((Below.refl _ _).drew.alloc (Nat.le_refl _) _) (Nat.le_refl _))
  have q0 : w1.cell? ⟨w.heap.size + 1, 0, none⟩ = some (.int .i64 0) := stays_below HX.out _ _ _ r0
  have q1 : w1.cell? ⟨w.heap.size + 1, 1, none⟩ = some (.slice none 0 0) := stays_below HX.out _ _ _ r1
  have k0 : w1.frozen? ⟨w.heap.size + 1, 0, none⟩ = false := ((bcell HX.out).2 _ _ (by omega)).trans f0
  have k1 : w1.frozen? ⟨w.heap.size + 1, 1, none⟩ = false := ((bcell HX.out).2 _ _ (by omega)).trans f1
  have HR := Lib.hid hrow
  clear hrow hbel
  (try simp only [put_lit, List.set_cons_zero, List.set_cons_succ])
  refine hK.out _ _ ?_ (fun hHeld => ?_)
  · exact hb1
  clear hK K
  (try simp only [put_lit, List.set_cons_zero, List.set_cons_succ])
  refine reg_take 6 9 (v := ?_) rfl rfl (by kernel_rfl) (by kernel_rfl) (by kernel_rfl) (fun _ _ _ h => h) (Or.inl ⟨by rfl, ?_⟩) hHeld ?_
  rotate_left 1
  · intro wS hSw; go_simp <;> with_reducible rfl
  simp only [put_lit, List.set_cons_zero, List.set_cons_succ]
  refine wpAnyH_ready (rs := [7]) (by kernel_rfl) (by simp) ?_
  refine AllReadyH.cons rfl (fun K hK => ?_) AllReadyH.nil
  go_simp
  refine hK.out _ _ ?_ (fun hHeld => ?_)
  · exact (hHeld.setCell (p := ⟨w.heap.size + 1, 0, none⟩) (Nat.le_refl _) _).setCell (p := ⟨w.heap.size + 1, 1, none⟩) (Nat.le_refl _) _
  clear hK K
  (try simp only [put_lit, List.set_cons_zero, List.set_cons_succ])
  refine wpAnyH_done (by kernel_rfl) ?_ _
  go_wp2
  refine bodyPost_ret (v := .agg #[.int .i64 z, .slice (some ⟨g, 0, none⟩) 4 c']) (by simp [results, Try.results63, go_sem, q0, q1]) rfl ⟨g, c', rfl, hcap, by omega, ?_, ?_⟩
  · exact (HR.out.setOther (a := ⟨w.heap.size + 1, 0, none⟩) (by simp; omega) _).setOther (a := ⟨w.heap.size + 1, 1, none⟩) (by simp; omega) _
  · exact HB0.out.trans (hHeld.mono (by omega))

theorem sNewBlockC (x : Int) (hx : 0 ≤ x ∧ x ≤ 100) (w : World) :
    Calls Try.prog 65 #[.int .i64 x] w fun e w' => ∃ q c', e = .returned (.agg #[.int .i64 x, .slice (some ⟨q, 0, none⟩) 4 c']) ∧ 4 ≤ c' ∧ w.heap.size ≤ q ∧ PgRow w' q 4 [Pg.zero, Pg.zero, Pg.zero, Pg.zero] ∧ Below w.heap.size w w' := by
  have hmk : ∀ w, (Instr.makeSlice 23 (.int .i64 4) (.int .i64 4)).run Try.prog w = .ok (.slice (some ⟨w.heap.size, 0, none⟩) 4 4) (w.alloc (.cells (madeCells #[.bool false, .int .i64 0, .int .i64 0, .int .i64 0, .int .i64 0] (4 * 5)) 32)) := make_row (P := Try.prog) (t := 23) (e := 32) (size := 5) (bytes := 40) (z := zPage) Try.underlying23 infoPage 4 (by omega) (by omega)
  have hin := inB_t hx.1 hx.2
  obtain ⟨h0, h1⟩ := hx
  go_enter Try.func65, Try.ntmps65
  go_wp2_with (go_at_call 59; refine (l1In_any _ _ _ _).mono ?_; rintro e w' ⟨rfl, rfl⟩)
  refine bodyPost_ret (v := .agg #[.int .i64 x, .slice (some ⟨w.heap.size + 1, 0, none⟩) 4 4]) (by simp [results, Try.results65, go_sem]) rfl ⟨w.heap.size + 1, 4, rfl, Nat.le_refl _, by omega, ?_, bel_2 _ _ _⟩
  have h := pgrow_made (w.alloc (.cells #[.int .i64 x, .slice (some ⟨w.heap.size + 1, 0, none⟩) 4 4] 25)) 4 32
  rw [World.size_alloc] at h
  exact h

section
variable {P : Program}
theorem wpList_append_pagesC {ops : Array Oper} {rest : List Oper} {o : Oper} {a : Act} {w : World} {Q : Exit → Act → World → Prop} (hgd : o.guard = none) (s x : Operand) (t : TypeId)
    (ho : o.op = .call { callee := .builtin .append, args := #[s, x], argTypes := #[t, t] }) (e : TypeId)
    (ht : P.underlying t = some (.slice e)) (hinfo : (P.info? e).map (fun i => (i.zero, i.size, i.bytes)) = some (some zPage, 5, 40))
    (g0 b off n c0 : Nat) (ps : List Pg) (hs : a.eval s = .slice (some ⟨g0, 0, none⟩) 0 0) (hx : a.eval x = .slice (some ⟨b, off, none⟩) n c0)
    (hg0 : w.heap[g0]? = some (.cells #[] e (0, 0))) (hl : ps.length = n) (hC : ∀ i, i < n → C5 w b (off + i * 5) (pgAt ps i)) (hn0 : 0 < n) (hn : n ≤ 1048576)
    (h : ∀ g c w', g0 ≤ g → PgRow w' g n ps → n ≤ c → (∀ B a, Below B a w → B ≤ g0 → Below B a w') → wpList P ops Q rest (a.put o.dst (.slice (some ⟨g, 0, none⟩) n c)) w') : wpList P ops Q (o :: rest) a w :=
  wpList_plain hgd fun _ hK => wp_append_pagesC s x t ho e ht hinfo g0 b off n c0 ps hs hx hg0 hl hC hn0 hn fun g c w' h1 h2 h3 h4 => hK _ _ (h g c w' h1 h2 h3 h4)
end

set_option maxHeartbeats 400000 in
theorem clone_anyC (A : Option Addr) (c : Nat) (ps : List Pg) (w : World) (h : PgsAt w A 4 ps) :
    Calls Try.prog 76 #[.slice A 4 c] w fun e w' => ∃ g c', e = .returned (.slice (some ⟨g, 0, none⟩) 4 c') ∧ 4 ≤ c' ∧ w.heap.size ≤ g ∧ PgRow w' g 4 ps ∧ Below w.heap.size w w' := by
  obtain ⟨hl, hm, hc⟩ := h
  obtain ⟨b, o, rfl, hC⟩ := hc (by omega)
  have HC := Lib.hid hC
  have HL := Lib.hid hl
  clear hc hC hl hm
  have hnil : ∀ w : World, (binOp .eql 23 (.slice (some ⟨b, o, none⟩) 4 c) (.slice none 0 0)).run Try.prog w = .ok (.bool false) w := fun w => Lib.run_eql_slice_nil w 23 32 _ _ _ _ _ Try.underlying23
  go_enter Try.func76, Try.ntmps76
  go_wp2_with (refine wpList_append_pagesC rfl (.tmp 5) (.tmp 6) 23 rfl 32 Try.underlying23 infoPage w.heap.size b o 4 c ps rfl rfl (heap_new _ _) HL.out (fun i hi => (HC.out i hi).keep (stays_below (bel_1 _ _))) (by omega) (by omega) ?_; intro g c' w1 hg hrow hcap hbel)
  have HB := Lib.hid (hbel _ _ (bel_1 w (.cells #[] 32)) (Nat.le_refl _))
  have HR := Lib.hid hrow
  clear hbel hrow
  go_wp2
  go_ret
  exact ⟨g, c', rfl, hcap, hg, HR.out, HB.out⟩

set_option maxHeartbeats 400000 in
theorem iCloneC (z : Int) (A : Option Addr) (c : Nat) (ps : List Pg) (w : World) (h : PgsAt w A 4 ps) :
    Calls Try.prog 62 #[.agg #[.int .i64 z, .slice A 4 c]] w fun e w' => ∃ g c', e = .returned (.agg #[.int .i64 z, .slice (some ⟨g, 0, none⟩) 4 c']) ∧ 4 ≤ c' ∧ w.heap.size ≤ g ∧ PgRow w' g 4 ps ∧ Below w.heap.size w w' := by
  have HP := Lib.hid h
  clear h
  go_enter Try.func62, Try.ntmps62
  go_wp2_with fail
  have HB0 := Lib.hid (bel_2 w (.cells #[.int .i64 z, .slice A 4 c] 25) (.cells #[.int .i64 0, .slice none 0 0] 25))
  have b0 : ((w.alloc (.cells #[.int .i64 z, .slice A 4 c] 25)).alloc (.cells #[.int .i64 0, .slice none 0 0] 25)).cell? ⟨w.heap.size, 0, none⟩ = some (.int .i64 z) := by simp [go_sem]
  have b1 : ((w.alloc (.cells #[.int .i64 z, .slice A 4 c] 25)).alloc (.cells #[.int .i64 0, .slice none 0 0] 25)).cell? ⟨w.heap.size, 1, none⟩ = some (.slice A 4 c) := by simp [go_sem]
  have r0 : ((w.alloc (.cells #[.int .i64 z, .slice A 4 c] 25)).alloc (.cells #[.int .i64 0, .slice none 0 0] 25)).cell? ⟨w.heap.size + 1, 0, none⟩ = some (.int .i64 0) := by simp [go_sem]
  have r1 : ((w.alloc (.cells #[.int .i64 z, .slice A 4 c] 25)).alloc (.cells #[.int .i64 0, .slice none 0 0] 25)).cell? ⟨w.heap.size + 1, 1, none⟩ = some (.slice none 0 0) := by simp [go_sem]
  have f0 : ((w.alloc (.cells #[.int .i64 z, .slice A 4 c] 25)).alloc (.cells #[.int .i64 0, .slice none 0 0] 25)).frozen? ⟨w.heap.size + 1, 0, none⟩ = false := by simp [go_sem]
  have f1 : ((w.alloc (.cells #[.int .i64 z, .slice A 4 c] 25)).alloc (.cells #[.int .i64 0, .slice none 0 0] 25)).frozen? ⟨w.heap.size + 1, 1, none⟩ = false := by simp [go_sem]
  have hW : ((w.alloc (.cells #[.int .i64 z, .slice A 4 c] 25)).alloc (.cells #[.int .i64 0, .slice none 0 0] 25)).heap.size = w.heap.size + 2 := by simp
  generalize ((w.alloc (.cells #[.int .i64 z, .slice A 4 c] 25)).alloc (.cells #[.int .i64 0, .slice none 0 0] 25)) = W at *
  have hs0 : w.heap.size < w.heap.size + 1 := by omega
  refine reg_beginB (B := w.heap.size + 1) (by kernel_rfl) (fun hHeld => ?_)
  refine reg_take 0 3 (v := ?_) rfl rfl (by kernel_rfl) (by kernel_rfl) (by kernel_rfl) (fun _ _ _ h => h) (Or.inl ⟨by rfl, ?_⟩) hHeld ?_
  rotate_left 1
  · intro wS hSw; go_simp <;> with_reducible rfl
  simp only [put_lit, List.set_cons_zero, List.set_cons_succ]
  refine reg_take 1 4 (v := ?_) rfl rfl (by kernel_rfl) (by kernel_rfl) (by kernel_rfl) (fun _ _ _ h => h) (Or.inl ⟨by rfl, ?_⟩) hHeld ?_
  rotate_left 1
  · intro wS hSw; have hqS := bcellB hSw; go_simp <;> with_reducible rfl
  simp only [put_lit, List.set_cons_zero, List.set_cons_succ]
  refine reg_take 2 5 (v := ?_) rfl rfl (by kernel_rfl) (by kernel_rfl) (by kernel_rfl) (fun _ _ _ h => h) (Or.inl ⟨by rfl, ?_⟩) hHeld ?_
  rotate_left 1
  · intro wS hSw; go_simp <;> with_reducible rfl
  simp only [put_lit, List.set_cons_zero, List.set_cons_succ]
  refine reg_take 3 6 (v := ?_) rfl rfl (by kernel_rfl) (by kernel_rfl) (by kernel_rfl) (fun _ _ _ h => h) (Or.inl ⟨by rfl, ?_⟩) hHeld ?_
  rotate_left 1
  · intro wS hSw; have hqS := bcellB hSw; go_simp <;> with_reducible rfl
  simp only [put_lit, List.set_cons_zero, List.set_cons_succ]
  refine wpAnyH_ready (rs := [4]) (by kernel_rfl) (by simp) ?_
  refine AllReadyH.cons rfl (fun K hK => ?_) AllReadyH.nil
  go_simp
  refine (clone_anyC _ _ ps _ (HP.out.keep (HB0.out.trans (hHeld.mono (by omega))))).mono ?_
  rintro e w1 ⟨g, c', rfl, hcap, hg, hR, hb1⟩
  have q0 : w1.cell? ⟨w.heap.size + 1, 0, none⟩ = some (.int .i64 0) := stays_below hb1 _ _ _ r0
  have q1 : w1.cell? ⟨w.heap.size + 1, 1, none⟩ = some (.slice none 0 0) := stays_below hb1 _ _ _ r1
  have k0 : w1.frozen? ⟨w.heap.size + 1, 0, none⟩ = false := ((bcell hb1).2 _ _ (by show _ < W.heap.size; omega)).trans f0
  have k1 : w1.frozen? ⟨w.heap.size + 1, 1, none⟩ = false := ((bcell hb1).2 _ _ (by show _ < W.heap.size; omega)).trans f1
  have HR := Lib.hid hR
  have hg2 : W.heap.size ≤ g := hg
  clear hR
  go_wp2_with fail
  refine hK.out _ _ ?_ (fun hHeld => ?_)
  · exact reg_call hHeld hb1 (by omega)
  clear hK K
  (try simp only [put_lit, List.set_cons_zero, List.set_cons_succ])
  refine reg_take 5 8 (v := ?_) rfl rfl (by kernel_rfl) (by kernel_rfl) (by kernel_rfl) (fun _ _ _ h => h) (Or.inl ⟨by rfl, ?_⟩) hHeld ?_
  rotate_left 1
  · intro wS hSw; go_simp <;> with_reducible rfl
  simp only [put_lit, List.set_cons_zero, List.set_cons_succ]
  refine wpAnyH_ready (rs := [6]) (by kernel_rfl) (by simp) ?_
  refine AllReadyH.cons rfl (fun K hK => ?_) AllReadyH.nil
  go_simp
  refine hK.out _ _ ?_ (fun hHeld => ?_)
  · exact (hHeld.setCell (p := ⟨w.heap.size + 1, 0, none⟩) (Nat.le_refl _) _).setCell (p := ⟨w.heap.size + 1, 1, none⟩) (Nat.le_refl _) _
  clear hK K
  (try simp only [put_lit, List.set_cons_zero, List.set_cons_succ])
  refine wpAnyH_done (by kernel_rfl) ?_ _
  go_wp2
  refine bodyPost_ret (v := .agg #[.int .i64 z, .slice (some ⟨g, 0, none⟩) 4 c']) (by simp [results, Try.results62, go_sem, q0, q1]) rfl ⟨g, c', rfl, hcap, by omega, ?_, ?_⟩
  · exact (HR.out.setOther (a := ⟨w.heap.size + 1, 0, none⟩) (by simp; omega) _).setOther (a := ⟨w.heap.size + 1, 1, none⟩) (by simp; omega) _
  · exact HB0.out.trans (hHeld.mono (by omega))

set_option maxHeartbeats 1000000 in
theorem iWriteBlockC (z : Int) (A : Option Addr) (n c : Nat) (ps : List Pg) (fi pl va st : Int) (w : World) (h : PgsAt w A n ps) (hv : blockValidF ⟨z, ps⟩ = true) (hp : pageValidF ⟨true, fi, pl, va, st⟩ = true) :
    Calls Try.prog 23 #[.agg #[.int .i64 z, .slice A n c], .agg #[.bool true, .int .i64 fi, .int .i64 pl, .int .i64 va, .int .i64 st]] w fun e w' => ∃ g c', e = .returned (.tuple #[.agg #[.int .i64 z, .slice (some ⟨g, 0, none⟩) 4 c'], .int .i64 (writeBlockF ⟨z, ps⟩ ⟨true, fi, pl, va, st⟩).2]) ∧ 4 ≤ c' ∧ w.heap.size ≤ g ∧ PgRow w' g 4 (writeBlockF ⟨z, ps⟩ ⟨true, fi, pl, va, st⟩).1.pages ∧ Below w.heap.size w w' := by
  have HP := Lib.hid h
  clear h
  go_enter Try.func23, Try.ntmps23
  go_wp2_with fail
  have HB0 := Lib.hid (bel_3 w (.cells #[.int .i64 z, .slice A n c] 25) (.cells #[.bool true, .int .i64 fi, .int .i64 pl, .int .i64 va, .int .i64 st] 32) (.cells #[.int .i64 0, .slice none 0 0] 25))
  have b0 : (((w.alloc (.cells #[.int .i64 z, .slice A n c] 25)).alloc (.cells #[.bool true, .int .i64 fi, .int .i64 pl, .int .i64 va, .int .i64 st] 32)).alloc (.cells #[.int .i64 0, .slice none 0 0] 25)).cell? ⟨w.heap.size, 0, none⟩ = some (.int .i64 z) := by simp [go_sem]
  have b1 : (((w.alloc (.cells #[.int .i64 z, .slice A n c] 25)).alloc (.cells #[.bool true, .int .i64 fi, .int .i64 pl, .int .i64 va, .int .i64 st] 32)).alloc (.cells #[.int .i64 0, .slice none 0 0] 25)).cell? ⟨w.heap.size, 1, none⟩ = some (.slice A n c) := by simp [go_sem]
  have p0 : (((w.alloc (.cells #[.int .i64 z, .slice A n c] 25)).alloc (.cells #[.bool true, .int .i64 fi, .int .i64 pl, .int .i64 va, .int .i64 st] 32)).alloc (.cells #[.int .i64 0, .slice none 0 0] 25)).cell? ⟨w.heap.size + 1, 0, none⟩ = some (.bool true) := by simp [go_sem]
  have p1 : (((w.alloc (.cells #[.int .i64 z, .slice A n c] 25)).alloc (.cells #[.bool true, .int .i64 fi, .int .i64 pl, .int .i64 va, .int .i64 st] 32)).alloc (.cells #[.int .i64 0, .slice none 0 0] 25)).cell? ⟨w.heap.size + 1, 1, none⟩ = some (.int .i64 fi) := by simp [go_sem]
  have p2 : (((w.alloc (.cells #[.int .i64 z, .slice A n c] 25)).alloc (.cells #[.bool true, .int .i64 fi, .int .i64 pl, .int .i64 va, .int .i64 st] 32)).alloc (.cells #[.int .i64 0, .slice none 0 0] 25)).cell? ⟨w.heap.size + 1, 2, none⟩ = some (.int .i64 pl) := by simp [go_sem]
  have p3 : (((w.alloc (.cells #[.int .i64 z, .slice A n c] 25)).alloc (.cells #[.bool true, .int .i64 fi, .int .i64 pl, .int .i64 va, .int .i64 st] 32)).alloc (.cells #[.int .i64 0, .slice none 0 0] 25)).cell? ⟨w.heap.size + 1, 3, none⟩ = some (.int .i64 va) := by simp [go_sem]
  have p4 : (((w.alloc (.cells #[.int .i64 z, .slice A n c] 25)).alloc (.cells #[.bool true, .int .i64 fi, .int .i64 pl, .int .i64 va, .int .i64 st] 32)).alloc (.cells #[.int .i64 0, .slice none 0 0] 25)).cell? ⟨w.heap.size + 1, 4, none⟩ = some (.int .i64 st) := by simp [go_sem]
  have r0 : (((w.alloc (.cells #[.int .i64 z, .slice A n c] 25)).alloc (.cells #[.bool true, .int .i64 fi, .int .i64 pl, .int .i64 va, .int .i64 st] 32)).alloc (.cells #[.int .i64 0, .slice none 0 0] 25)).cell? ⟨w.heap.size + 2, 0, none⟩ = some (.int .i64 0) := by simp [go_sem]
  have f0 : (((w.alloc (.cells #[.int .i64 z, .slice A n c] 25)).alloc (.cells #[.bool true, .int .i64 fi, .int .i64 pl, .int .i64 va, .int .i64 st] 32)).alloc (.cells #[.int .i64 0, .slice none 0 0] 25)).frozen? ⟨w.heap.size + 2, 0, none⟩ = false := by simp [go_sem]
  have r1 : (((w.alloc (.cells #[.int .i64 z, .slice A n c] 25)).alloc (.cells #[.bool true, .int .i64 fi, .int .i64 pl, .int .i64 va, .int .i64 st] 32)).alloc (.cells #[.int .i64 0, .slice none 0 0] 25)).cell? ⟨w.heap.size + 2, 1, none⟩ = some (.slice none 0 0) := by simp [go_sem]
  have f1 : (((w.alloc (.cells #[.int .i64 z, .slice A n c] 25)).alloc (.cells #[.bool true, .int .i64 fi, .int .i64 pl, .int .i64 va, .int .i64 st] 32)).alloc (.cells #[.int .i64 0, .slice none 0 0] 25)).frozen? ⟨w.heap.size + 2, 1, none⟩ = false := by simp [go_sem]
  have hW : (((w.alloc (.cells #[.int .i64 z, .slice A n c] 25)).alloc (.cells #[.bool true, .int .i64 fi, .int .i64 pl, .int .i64 va, .int .i64 st] 32)).alloc (.cells #[.int .i64 0, .slice none 0 0] 25)).heap.size = w.heap.size + 3 := by simp
  generalize (((w.alloc (.cells #[.int .i64 z, .slice A n c] 25)).alloc (.cells #[.bool true, .int .i64 fi, .int .i64 pl, .int .i64 va, .int .i64 st] 32)).alloc (.cells #[.int .i64 0, .slice none 0 0] 25)) = W at *
  refine (iBlockValid _ _ _ _ ps _ (HP.out.keep HB0.out)).mono ?_
  rw [hv]
  rintro e w1 ⟨rfl, hb1⟩
  have HB1 := Lib.hid (bel_t HB0.out hb1)
  replace b0 := stays_below hb1 _ _ _ b0
  replace b1 := stays_below hb1 _ _ _ b1
  replace p0 := stays_below hb1 _ _ _ p0
  replace p1 := stays_below hb1 _ _ _ p1
  replace p2 := stays_below hb1 _ _ _ p2
  replace p3 := stays_below hb1 _ _ _ p3
  replace p4 := stays_below hb1 _ _ _ p4
  replace r0 := stays_below hb1 _ _ _ r0
  replace r1 := stays_below hb1 _ _ _ r1
  replace f0 := ((bcell hb1).2 _ _ (by omega)).trans f0
  replace f1 := ((bcell hb1).2 _ _ (by omega)).trans f1
  have hs1 : w.heap.size + 3 ≤ w1.heap.size := by have := hb1.size; omega
  clear hb1 hW
  have hn4 : n = 4 := HP.out.1.symm.trans (bv_len _ hv)
  subst hn4
  go_wp2_with fail
  refine (iPageValid _ _ _ _ _ _).mono ?_
  rw [hp]
  rintro e w2 ⟨rfl, hb2⟩
  have HB2 := Lib.hid (bel_t HB1.out hb2)
  replace b0 := stays_below hb2 _ _ _ b0
  replace b1 := stays_below hb2 _ _ _ b1
  replace p0 := stays_below hb2 _ _ _ p0
  replace p1 := stays_below hb2 _ _ _ p1
  replace p2 := stays_below hb2 _ _ _ p2
  replace p3 := stays_below hb2 _ _ _ p3
  replace p4 := stays_below hb2 _ _ _ p4
  replace r0 := stays_below hb2 _ _ _ r0
  replace r1 := stays_below hb2 _ _ _ r1
  replace f0 := ((bcell hb2).2 _ _ (by omega)).trans f0
  replace f1 := ((bcell hb2).2 _ _ (by omega)).trans f1
  have hs2 : w.heap.size + 3 ≤ w2.heap.size := by have := hb2.size; omega
  clear hb2 HB1
  have HV := Lib.hid hv
  have HPV := Lib.hid hp
  clear hv hp
  go_wp2_with fail
  refine (iCloneC _ _ _ ps _ (HP.out.keep HB2.out)).mono ?_
  rintro e w3 ⟨g, c', rfl, hcap, hg, hR3, hb3⟩
  have HB3 := Lib.hid (bel_t HB2.out hb3)
  have HR3 := Lib.hid hR3
  have hg3 := hR3.2.1
  replace b0 := stays_below hb3 _ _ _ b0
  replace b1 := stays_below hb3 _ _ _ b1
  replace p0 := stays_below hb3 _ _ _ p0
  replace p1 := stays_below hb3 _ _ _ p1
  replace p2 := stays_below hb3 _ _ _ p2
  replace p3 := stays_below hb3 _ _ _ p3
  replace p4 := stays_below hb3 _ _ _ p4
  replace r0 := stays_below hb3 _ _ _ r0
  replace r1 := stays_below hb3 _ _ _ r1
  replace f0 := ((bcell hb3).2 _ _ (by omega)).trans f0
  replace f1 := ((bcell hb3).2 _ _ (by omega)).trans f1
  have hs3 : w.heap.size + 3 ≤ w3.heap.size := by have := hb3.size; omega
  have hz3 : w.heap.size < w3.heap.size := by omega
  have hz3' : w.heap.size + 1 < w3.heap.size := by omega
  have hz3'' : w.heap.size + 1 + 1 < w3.heap.size := by omega
  clear hb3 hR3 HB2
  go_wp2_with fail
  refine (iBlockNext _ _ _ _ ps _ (HP.out.keep (bel_t HB3.out (bel_1 _ _)))).mono ?_
  obtain ⟨v, HN⟩ : ∃ v, Hid (blockNextF ⟨z, ps⟩ = v) := ⟨_, rfl⟩
  rw [HN.out]
  rintro e w4 ⟨rfl, hb4⟩
  have HV4 := Lib.hid (bel_t (bel_1 _ _) hb4)
  have HB4 := Lib.hid (bel_t HB3.out HV4.out)
  have HR4 := Lib.hid (HR3.out.keep HV4.out)
  have o0 : w4.cell? ⟨w3.heap.size, 0, none⟩ = some (.int .i64 z) := stays_below hb4 _ _ _ (by simp [go_sem])
  have o1 : w4.cell? ⟨w3.heap.size, 1, none⟩ = some (.slice (some ⟨g, 0, none⟩) 4 c') := stays_below hb4 _ _ _ (by simp [go_sem])
  replace p0 := stays_below HV4.out _ _ _ p0
  replace p1 := stays_below HV4.out _ _ _ p1
  replace p2 := stays_below HV4.out _ _ _ p2
  replace p3 := stays_below HV4.out _ _ _ p3
  replace p4 := stays_below HV4.out _ _ _ p4
  replace r0 := stays_below HV4.out _ _ _ r0
  replace r1 := stays_below HV4.out _ _ _ r1
  replace f0 := ((bcell HV4.out).2 _ _ (by omega)).trans f0
  replace f1 := ((bcell HV4.out).2 _ _ (by omega)).trans f1
  clear hb4 b0 b1 HR3 HB3 HV4
  have n1 : ¬ g = w3.heap.size := by omega
  have n2 : ¬ w3.heap.size = g := by omega
  have n3 : ¬ g = w.heap.size + 1 := by omega
  have n4 : ¬ w.heap.size + 1 = g := by omega
  have n5 : ¬ g = w.heap.size + 2 := by omega
  have n6 : ¬ w.heap.size + 2 = g := by omega
  have n5' : ¬ g = w.heap.size + 1 + 1 := by omega
  have n6' : ¬ w.heap.size + 1 + 1 = g := by omega
  have n7 : ¬ w3.heap.size = w.heap.size + 2 := by omega
  have n8 : ¬ w.heap.size + 2 = w3.heap.size := by omega
  have hv4 : v < 4 := by rw [← HN.out]; exact bn_lt _ HV.out
  by_cases hv0 : 0 ≤ v
  · obtain ⟨k, rfl⟩ : ∃ k : Nat, v = (k : Int) := ⟨v.toNat, by omega⟩
    have hk4 : k < 4 := by omega
    have HF := Lib.hid (wb_4 ⟨z, ps⟩ ⟨true, fi, pl, va, st⟩ k HV.out HPV.out rfl HN.out)
    obtain ⟨e0, e1, e2, e3, e4⟩ := HR4.out.2.2.1 k hk4
    have u0 := HR4.out.2.2.2 (k * 5)
    have u1 := HR4.out.2.2.2 (k * 5 + 1)
    have u2 := HR4.out.2.2.2 (k * 5 + 2)
    have u3 := HR4.out.2.2.2 (k * 5 + 3)
    have u4 := HR4.out.2.2.2 (k * 5 + 4)
    go_wp2
    refine bodyPost_ret (v := .tuple #[.agg #[.int .i64 z, .slice (some ⟨g, 0, none⟩) 4 c'], .int .i64 (k : Int)]) (by simp [results, Try.results23, go_sem, r0, r1]) rfl ⟨g, c', by rw [HF.out], hcap, by omega, ?_, ?_⟩
    · rw [HF.out, s5_eq]
      exact ((HR4.out.set hk4 ⟨true, fi, pl, va, st⟩).setOther (a := ⟨w.heap.size + 2, 0, none⟩) n6 _).setOther (a := ⟨w.heap.size + 2, 1, none⟩) n6 _
    · rw [s5_eq]
      exact ((bel_5 HB4.out (by omega) ⟨true, fi, pl, va, st⟩).setCell (p := ⟨w.heap.size + 2, 0, none⟩) (by simp <;> omega) _).setCell (p := ⟨w.heap.size + 2, 1, none⟩) (by simp <;> omega) _
  · have HF := Lib.hid (wb_5 ⟨z, ps⟩ ⟨true, fi, pl, va, st⟩ v HV.out HPV.out rfl HN.out hv0)
    go_wp2
    refine bodyPost_ret (v := .tuple #[.agg #[.int .i64 z, .slice (some ⟨g, 0, none⟩) 4 c'], .int .i64 v]) (by simp [results, Try.results23, go_sem, r0, r1]) rfl ⟨g, c', by rw [HF.out], hcap, by omega, ?_, ?_⟩
    · rw [HF.out]
      exact (HR4.out.setOther (a := ⟨w.heap.size + 2, 0, none⟩) n6 _).setOther (a := ⟨w.heap.size + 2, 1, none⟩) n6 _
    · exact (HB4.out.setCell (p := ⟨w.heap.size + 2, 0, none⟩) (by simp <;> omega) _).setCell (p := ⟨w.heap.size + 2, 1, none⟩) (by simp <;> omega) _

set_option maxHeartbeats 1000000 in
theorem sWriteBlockC (z : Int) (A : Option Addr) (n c : Nat) (ps : List Pg) (fi pl va st : Int) (w : World) (h : PgsAt w A n ps) (hv : blockValidF ⟨z, ps⟩ = true) (hp : pageValidF ⟨true, fi, pl, va, st⟩ = true) :
    Calls Try.prog 24 #[.agg #[.int .i64 z, .slice A n c], .agg #[.bool true, .int .i64 fi, .int .i64 pl, .int .i64 va, .int .i64 st]] w fun e w' => ∃ g c', e = .returned (.tuple #[.agg #[.int .i64 z, .slice (some ⟨g, 0, none⟩) 4 c'], .int .i64 (writeBlockF ⟨z, ps⟩ ⟨true, fi, pl, va, st⟩).2]) ∧ 4 ≤ c' ∧ w.heap.size ≤ g ∧ PgRow w' g 4 (writeBlockF ⟨z, ps⟩ ⟨true, fi, pl, va, st⟩).1.pages ∧ Below w.heap.size w w' := by
  have HP := Lib.hid h
  clear h
  go_enter Try.func24, Try.ntmps24
  go_wp2_with fail
  have HB0 := Lib.hid (bel_3 w (.cells #[.int .i64 z, .slice A n c] 25) (.cells #[.bool true, .int .i64 fi, .int .i64 pl, .int .i64 va, .int .i64 st] 32) (.cells #[.int .i64 0, .slice none 0 0] 25))
  have b0 : (((w.alloc (.cells #[.int .i64 z, .slice A n c] 25)).alloc (.cells #[.bool true, .int .i64 fi, .int .i64 pl, .int .i64 va, .int .i64 st] 32)).alloc (.cells #[.int .i64 0, .slice none 0 0] 25)).cell? ⟨w.heap.size, 0, none⟩ = some (.int .i64 z) := by simp [go_sem]
  have b1 : (((w.alloc (.cells #[.int .i64 z, .slice A n c] 25)).alloc (.cells #[.bool true, .int .i64 fi, .int .i64 pl, .int .i64 va, .int .i64 st] 32)).alloc (.cells #[.int .i64 0, .slice none 0 0] 25)).cell? ⟨w.heap.size, 1, none⟩ = some (.slice A n c) := by simp [go_sem]
  have p0 : (((w.alloc (.cells #[.int .i64 z, .slice A n c] 25)).alloc (.cells #[.bool true, .int .i64 fi, .int .i64 pl, .int .i64 va, .int .i64 st] 32)).alloc (.cells #[.int .i64 0, .slice none 0 0] 25)).cell? ⟨w.heap.size + 1, 0, none⟩ = some (.bool true) := by simp [go_sem]
  have p1 : (((w.alloc (.cells #[.int .i64 z, .slice A n c] 25)).alloc (.cells #[.bool true, .int .i64 fi, .int .i64 pl, .int .i64 va, .int .i64 st] 32)).alloc (.cells #[.int .i64 0, .slice none 0 0] 25)).cell? ⟨w.heap.size + 1, 1, none⟩ = some (.int .i64 fi) := by simp [go_sem]
  have p2 : (((w.alloc (.cells #[.int .i64 z, .slice A n c] 25)).alloc (.cells #[.bool true, .int .i64 fi, .int .i64 pl, .int .i64 va, .int .i64 st] 32)).alloc (.cells #[.int .i64 0, .slice none 0 0] 25)).cell? ⟨w.heap.size + 1, 2, none⟩ = some (.int .i64 pl) := by simp [go_sem]
  have p3 : (((w.alloc (.cells #[.int .i64 z, .slice A n c] 25)).alloc (.cells #[.bool true, .int .i64 fi, .int .i64 pl, .int .i64 va, .int .i64 st] 32)).alloc (.cells #[.int .i64 0, .slice none 0 0] 25)).cell? ⟨w.heap.size + 1, 3, none⟩ = some (.int .i64 va) := by simp [go_sem]
  have p4 : (((w.alloc (.cells #[.int .i64 z, .slice A n c] 25)).alloc (.cells #[.bool true, .int .i64 fi, .int .i64 pl, .int .i64 va, .int .i64 st] 32)).alloc (.cells #[.int .i64 0, .slice none 0 0] 25)).cell? ⟨w.heap.size + 1, 4, none⟩ = some (.int .i64 st) := by simp [go_sem]
  have r0 : (((w.alloc (.cells #[.int .i64 z, .slice A n c] 25)).alloc (.cells #[.bool true, .int .i64 fi, .int .i64 pl, .int .i64 va, .int .i64 st] 32)).alloc (.cells #[.int .i64 0, .slice none 0 0] 25)).cell? ⟨w.heap.size + 2, 0, none⟩ = some (.int .i64 0) := by simp [go_sem]
  have f0 : (((w.alloc (.cells #[.int .i64 z, .slice A n c] 25)).alloc (.cells #[.bool true, .int .i64 fi, .int .i64 pl, .int .i64 va, .int .i64 st] 32)).alloc (.cells #[.int .i64 0, .slice none 0 0] 25)).frozen? ⟨w.heap.size + 2, 0, none⟩ = false := by simp [go_sem]
  have r1 : (((w.alloc (.cells #[.int .i64 z, .slice A n c] 25)).alloc (.cells #[.bool true, .int .i64 fi, .int .i64 pl, .int .i64 va, .int .i64 st] 32)).alloc (.cells #[.int .i64 0, .slice none 0 0] 25)).cell? ⟨w.heap.size + 2, 1, none⟩ = some (.slice none 0 0) := by simp [go_sem]
  have f1 : (((w.alloc (.cells #[.int .i64 z, .slice A n c] 25)).alloc (.cells #[.bool true, .int .i64 fi, .int .i64 pl, .int .i64 va, .int .i64 st] 32)).alloc (.cells #[.int .i64 0, .slice none 0 0] 25)).frozen? ⟨w.heap.size + 2, 1, none⟩ = false := by simp [go_sem]
  have hW : (((w.alloc (.cells #[.int .i64 z, .slice A n c] 25)).alloc (.cells #[.bool true, .int .i64 fi, .int .i64 pl, .int .i64 va, .int .i64 st] 32)).alloc (.cells #[.int .i64 0, .slice none 0 0] 25)).heap.size = w.heap.size + 3 := by simp
  generalize (((w.alloc (.cells #[.int .i64 z, .slice A n c] 25)).alloc (.cells #[.bool true, .int .i64 fi, .int .i64 pl, .int .i64 va, .int .i64 st] 32)).alloc (.cells #[.int .i64 0, .slice none 0 0] 25)) = W at *
  refine (sBlockValid _ _ _ _ ps _ (HP.out.keep HB0.out)).mono ?_
  rw [hv]
  rintro e w1 ⟨rfl, hb1⟩
  have HB1 := Lib.hid (bel_t HB0.out hb1)
  replace b0 := stays_below hb1 _ _ _ b0
  replace b1 := stays_below hb1 _ _ _ b1
  replace p0 := stays_below hb1 _ _ _ p0
  replace p1 := stays_below hb1 _ _ _ p1
  replace p2 := stays_below hb1 _ _ _ p2
  replace p3 := stays_below hb1 _ _ _ p3
  replace p4 := stays_below hb1 _ _ _ p4
  replace r0 := stays_below hb1 _ _ _ r0
  replace r1 := stays_below hb1 _ _ _ r1
  replace f0 := ((bcell hb1).2 _ _ (by omega)).trans f0
  replace f1 := ((bcell hb1).2 _ _ (by omega)).trans f1
  have hs1 : w.heap.size + 3 ≤ w1.heap.size := by have := hb1.size; omega
  clear hb1 hW
  have hn4 : n = 4 := HP.out.1.symm.trans (bv_len _ hv)
  subst hn4
  go_wp2_with fail
  refine (sPageValid _ _ _ _ _ _).mono ?_
  rw [hp]
  rintro e w2 ⟨rfl, hb2⟩
  have HB2 := Lib.hid (bel_t HB1.out hb2)
  replace b0 := stays_below hb2 _ _ _ b0
  replace b1 := stays_below hb2 _ _ _ b1
  replace p0 := stays_below hb2 _ _ _ p0
  replace p1 := stays_below hb2 _ _ _ p1
  replace p2 := stays_below hb2 _ _ _ p2
  replace p3 := stays_below hb2 _ _ _ p3
  replace p4 := stays_below hb2 _ _ _ p4
  replace r0 := stays_below hb2 _ _ _ r0
  replace r1 := stays_below hb2 _ _ _ r1
  replace f0 := ((bcell hb2).2 _ _ (by omega)).trans f0
  replace f1 := ((bcell hb2).2 _ _ (by omega)).trans f1
  have hs2 : w.heap.size + 3 ≤ w2.heap.size := by have := hb2.size; omega
  clear hb2 HB1
  have HV := Lib.hid hv
  have HPV := Lib.hid hp
  clear hv hp
  go_wp2_with fail
  refine (sCopyC _ _ _ ps _ (HP.out.keep HB2.out)).mono ?_
  rintro e w3 ⟨g, c', rfl, hcap, hg, hR3, hb3⟩
  have HB3 := Lib.hid (bel_t HB2.out hb3)
  have HR3 := Lib.hid hR3
  have hg3 := hR3.2.1
  replace b0 := stays_below hb3 _ _ _ b0
  replace b1 := stays_below hb3 _ _ _ b1
  replace p0 := stays_below hb3 _ _ _ p0
  replace p1 := stays_below hb3 _ _ _ p1
  replace p2 := stays_below hb3 _ _ _ p2
  replace p3 := stays_below hb3 _ _ _ p3
  replace p4 := stays_below hb3 _ _ _ p4
  replace r0 := stays_below hb3 _ _ _ r0
  replace r1 := stays_below hb3 _ _ _ r1
  replace f0 := ((bcell hb3).2 _ _ (by omega)).trans f0
  replace f1 := ((bcell hb3).2 _ _ (by omega)).trans f1
  have hs3 : w.heap.size + 3 ≤ w3.heap.size := by have := hb3.size; omega
  have hz3 : w.heap.size < w3.heap.size := by omega
  have hz3' : w.heap.size + 1 < w3.heap.size := by omega
  have hz3'' : w.heap.size + 1 + 1 < w3.heap.size := by omega
  clear hb3 hR3 HB2
  go_wp2_with fail
  refine (sBlockNext _ _ _ _ ps _ (HP.out.keep (bel_t HB3.out (bel_1 _ _)))).mono ?_
  obtain ⟨v, HN⟩ : ∃ v, Hid (blockNextF ⟨z, ps⟩ = v) := ⟨_, rfl⟩
  rw [HN.out]
  rintro e w4 ⟨rfl, hb4⟩
  have HV4 := Lib.hid (bel_t (bel_1 _ _) hb4)
  have HB4 := Lib.hid (bel_t HB3.out HV4.out)
  have HR4 := Lib.hid (HR3.out.keep HV4.out)
  have o0 : w4.cell? ⟨w3.heap.size, 0, none⟩ = some (.int .i64 z) := stays_below hb4 _ _ _ (by simp [go_sem])
  have o1 : w4.cell? ⟨w3.heap.size, 1, none⟩ = some (.slice (some ⟨g, 0, none⟩) 4 c') := stays_below hb4 _ _ _ (by simp [go_sem])
  replace p0 := stays_below HV4.out _ _ _ p0
  replace p1 := stays_below HV4.out _ _ _ p1
  replace p2 := stays_below HV4.out _ _ _ p2
  replace p3 := stays_below HV4.out _ _ _ p3
  replace p4 := stays_below HV4.out _ _ _ p4
  replace r0 := stays_below HV4.out _ _ _ r0
  replace r1 := stays_below HV4.out _ _ _ r1
  replace f0 := ((bcell HV4.out).2 _ _ (by omega)).trans f0
  replace f1 := ((bcell HV4.out).2 _ _ (by omega)).trans f1
  clear hb4 b0 b1 HR3 HB3 HV4
  have n1 : ¬ g = w3.heap.size := by omega
  have n2 : ¬ w3.heap.size = g := by omega
  have n3 : ¬ g = w.heap.size + 1 := by omega
  have n4 : ¬ w.heap.size + 1 = g := by omega
  have n5 : ¬ g = w.heap.size + 2 := by omega
  have n6 : ¬ w.heap.size + 2 = g := by omega
  have n5' : ¬ g = w.heap.size + 1 + 1 := by omega
  have n6' : ¬ w.heap.size + 1 + 1 = g := by omega
  have n7 : ¬ w3.heap.size = w.heap.size + 2 := by omega
  have n8 : ¬ w.heap.size + 2 = w3.heap.size := by omega
  have hv4 : v < 4 := by rw [← HN.out]; exact bn_lt _ HV.out
  by_cases hv0 : 0 ≤ v
  · obtain ⟨k, rfl⟩ : ∃ k : Nat, v = (k : Int) := ⟨v.toNat, by omega⟩
    have hk4 : k < 4 := by omega
    have HF := Lib.hid (wb_4 ⟨z, ps⟩ ⟨true, fi, pl, va, st⟩ k HV.out HPV.out rfl HN.out)
    obtain ⟨e0, e1, e2, e3, e4⟩ := HR4.out.2.2.1 k hk4
    have u0 := HR4.out.2.2.2 (k * 5)
    have u1 := HR4.out.2.2.2 (k * 5 + 1)
    have u2 := HR4.out.2.2.2 (k * 5 + 2)
    have u3 := HR4.out.2.2.2 (k * 5 + 3)
    have u4 := HR4.out.2.2.2 (k * 5 + 4)
    go_wp2
    refine bodyPost_ret (v := .tuple #[.agg #[.int .i64 z, .slice (some ⟨g, 0, none⟩) 4 c'], .int .i64 (k : Int)]) (by simp [results, Try.results24, go_sem, r0, r1]) rfl ⟨g, c', by rw [HF.out], hcap, by omega, ?_, ?_⟩
    · rw [HF.out, s5_eq]
      exact ((HR4.out.set hk4 ⟨true, fi, pl, va, st⟩).setOther (a := ⟨w.heap.size + 2, 0, none⟩) n6 _).setOther (a := ⟨w.heap.size + 2, 1, none⟩) n6 _
    · rw [s5_eq]
      exact ((bel_5 HB4.out (by omega) ⟨true, fi, pl, va, st⟩).setCell (p := ⟨w.heap.size + 2, 0, none⟩) (by simp <;> omega) _).setCell (p := ⟨w.heap.size + 2, 1, none⟩) (by simp <;> omega) _
  · have HF := Lib.hid (wb_5 ⟨z, ps⟩ ⟨true, fi, pl, va, st⟩ v HV.out HPV.out rfl HN.out hv0)
    go_wp2
    refine bodyPost_ret (v := .tuple #[.agg #[.int .i64 z, .slice (some ⟨g, 0, none⟩) 4 c'], .int .i64 v]) (by simp [results, Try.results24, go_sem, r0, r1]) rfl ⟨g, c', by rw [HF.out], hcap, by omega, ?_, ?_⟩
    · rw [HF.out]
      exact (HR4.out.setOther (a := ⟨w.heap.size + 2, 0, none⟩) n6 _).setOther (a := ⟨w.heap.size + 2, 1, none⟩) n6 _
    · exact (HB4.out.setCell (p := ⟨w.heap.size + 2, 0, none⟩) (by simp <;> omega) _).setCell (p := ⟨w.heap.size + 2, 1, none⟩) (by simp <;> omega) _

end Go.Proofs.Yteekikaebmkioaa
