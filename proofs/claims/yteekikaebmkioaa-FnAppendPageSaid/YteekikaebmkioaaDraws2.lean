/-auto What the reader's pick and odd leave. -/
import Derived.Test.YteekikaebmkioaaDraws
import Derived.Outline
namespace Go.Proofs.Yteekikaebmkioaa
open Go.RowKit
set_option linter.unusedVariables false

set_option maxRecDepth 100000 in
set_option maxHeartbeats 2000000 in
theorem pick_any (g : Nat) (A : Option Addr) (n c M : Nat) (N : Int) (w : World) (h : Rdr w g A n c M) (hM : M ≤ 100000) :
    Calls Try.prog 67 #[.pointer (some ⟨g, 0, none⟩), .int .i64 N] w (Picked N g A n c M w) := by
  obtain ⟨p, h0, h1, hb⟩ := h.ex
  have hc0 : w.cell? ⟨g, 0, none⟩ = some (.slice A n c) := by simp [World.cell?, RdB] at hb ⊢; rw [hb]; rfl
  have hc1 : w.cell? ⟨g, 1, none⟩ = some (.int .i64 p) := by simp [World.cell?, RdB] at hb ⊢; rw [hb]; rfl
  have hf1 : w.frozen? ⟨g, 1, none⟩ = false := by simp [World.frozen?, RdB] at hb ⊢; rw [hb]; rfl
  have HA := Lib.hid (fun k => rdr_after h h0 h1 hb k)
  have hp : p ≤ 100000 := by omega
  have hn2 := h.n2000
  have HC := Lib.hid h.code
  clear hb h h1 hM
  by_cases hN : 1 ≤ N
  · by_cases hn0 : n = 0
    · subst hn0
      go_enter Try.func67, Try.ntmps67
      go_wp2
      go_ret
      exact ⟨0, rfl, by omega, by omega, HA.out 0⟩
    · rcases HC.out with hh | ⟨cb, co, rfl, hne, hcell⟩
      · exact absurd hh hn0
      · have Hcell := Lib.hid hcell
        clear hcell HC
        obtain ⟨q, rfl⟩ := Int.eq_ofNat_of_zero_le h0
        have hnb : ((n : Int) == 0) = false := by simpa using hn0
        by_cases hlt : q < n
        · obtain ⟨b, hb0, hb1, hbc⟩ := Hcell.out q hlt
          have hbw : (w.setCell ⟨g, 1, none⟩ (.int .i64 ((q : Int) + 1))).cell? ⟨cb, co + q, none⟩ = some (.int .u8 b) := by
            rw [World.cell?_setCell_other _ _ _ _ (fun e => hne (congrArg Addr.block e).symm)]; exact hbc
          go_enter Try.func67, Try.ntmps67
          go_wp2
          go_ret
          exact ⟨b % N, rfl, Int.emod_nonneg _ (by omega), fun _ => Int.emod_lt_of_pos _ (by omega), HA.out 0⟩
        · have hm1 : q % n < n := Nat.mod_lt _ (by omega)
          have hm2 : (q * 7 + 3) % n < n := Nat.mod_lt _ (by omega)
          obtain ⟨b, hb0, hb1, hbc⟩ := Hcell.out _ hm1
          obtain ⟨d, hd0, hd1, hdc⟩ := Hcell.out _ hm2
          have hbw : (w.setCell ⟨g, 1, none⟩ (.int .i64 ((q : Int) + 1))).cell? ⟨cb, co + q % n, none⟩ = some (.int .u8 b) := by
            rw [World.cell?_setCell_other _ _ _ _ (fun e => hne (congrArg Addr.block e).symm)]; exact hbc
          have hdw : (w.setCell ⟨g, 1, none⟩ (.int .i64 ((q : Int) + 1))).cell? ⟨cb, co + (q * 7 + 3) % n, none⟩ = some (.int .u8 d) := by
            rw [World.cell?_setCell_other _ _ _ _ (fun e => hne (congrArg Addr.block e).symm)]; exact hdc
          clear hbc hdc
          go_enter Try.func67, Try.ntmps67
          go_wp2
          have e1 : (q : Int).tmod (n : Int) = ((q % n : Nat) : Int) := by rw [Int.tmod_eq_emod_of_nonneg (by omega)]; simp
          have e2 : ((q : Int) * 7 + 3).tmod (n : Int) = (((q * 7 + 3) % n : Nat) : Int) := by rw [Int.tmod_eq_emod_of_nonneg (by omega)]; simp
          have e3 : (q : Int).tdiv (n : Int) = ((q / n : Nat) : Int) := by rw [Int.tdiv_eq_ediv_of_nonneg (by omega)]; simp
          have k1 : (0 : Int) ≤ ((q % n : Nat) : Int) := by omega
          have k2 : ((q % n : Nat) : Int) < (n : Int) := by omega
          have k3 : (0 : Int) ≤ (((q * 7 + 3) % n : Nat) : Int) := by omega
          have k4 : (((q * 7 + 3) % n : Nat) : Int) < (n : Int) := by omega
          have k5 : (q / n) ≤ 100000 := Nat.le_trans (Nat.div_le_self _ _) (by omega)
          generalize hy1 : q % n = y1 at *
          generalize hy2 : (q * 7 + 3) % n = y2 at *
          generalize hy3 : q / n = y3 at *
          have f1 : IntKind.i64.wrap ((q : Int) * 7) = (q : Int) * 7 := IntWalk.i64_in _ (by omega)
          have f2 : IntKind.i64.wrap ((q : Int) * 7 + 3) = (q : Int) * 7 + 3 := IntWalk.i64_in _ (by omega)
          have f3 : IntKind.i64.wrap (b * 131) = b * 131 := IntWalk.i64_in _ (by omega)
          have f4 : IntKind.i64.wrap (d * 1117) = d * 1117 := IntWalk.i64_in _ (by omega)
          have f5 : IntKind.i64.wrap (b * 131 + d * 1117) = b * 131 + d * 1117 := IntWalk.i64_in _ (by omega)
          have f6 : IntKind.i64.wrap ((q : Int) * 29) = (q : Int) * 29 := IntWalk.i64_in _ (by omega)
          have f7 : IntKind.i64.wrap (b * 131 + d * 1117 + (q : Int) * 29) = b * 131 + d * 1117 + (q : Int) * 29 := IntWalk.i64_in _ (by omega)
          have f8 : IntKind.i64.wrap ((y3 : Int) * 53) = (y3 : Int) * 53 := IntWalk.i64_in _ (by omega)
          have f9 : IntKind.i64.wrap (b * 131 + d * 1117 + (q : Int) * 29 + (y3 : Int) * 53) = b * 131 + d * 1117 + (q : Int) * 29 + (y3 : Int) * 53 := IntWalk.i64_in _ (by omega)
          have g1 : IntKind.i64.wrap (y1 : Int) = y1 := IntWalk.i64_in _ (by omega)
          have g2 : IntKind.i64.wrap (y2 : Int) = y2 := IntWalk.i64_in _ (by omega)
          have g3 : IntKind.i64.wrap (y3 : Int) = y3 := IntWalk.i64_in _ (by omega)
          have g4 : IntKind.i64.wrap b = b := IntWalk.i64_in _ (by omega)
          have g5 : IntKind.i64.wrap d = d := IntWalk.i64_in _ (by omega)
          go_quiet (fail)
          clear f1 f2 f3 f4 f5 f6 f7 f8 f9 g1 g2 g3 g4 g5 e1 e2 e3
          go_wp2
          go_ret
          have hx := xor_nonneg (b * 131 + d * 1117 + (q : Int) * 29 + (y3 : Int) * 53) ((b * 131 + d * 1117 + (q : Int) * 29 + (y3 : Int) * 53) / 64) (by omega) (by omega) (by omega) (by omega)
          refine ⟨_, rfl, ?_, fun _ => ?_, HA.out nq⟩
          · show 0 ≤ Int.tmod _ _
            rw [Int.tmod_eq_emod_of_nonneg hx]; exact Int.emod_nonneg _ (by omega)
          · show Int.tmod _ _ < _
            rw [Int.tmod_eq_emod_of_nonneg hx]; exact Int.emod_lt_of_pos _ (by omega)
  · go_enter Try.func67, Try.ntmps67
    go_wp2
    go_ret
    exact ⟨0, rfl, by omega, fun h => by omega, HA.out 0⟩

/-- what asking for an odd chance leaves -/
def Odded (g : Nat) (A : Option Addr) (n c M : Nat) (w : World) (e : Ending) (w' : World) : Prop :=
  ∃ b : Bool, e = .returned (.bool b) ∧ Rdr w' g A n c (M + 1) ∧ Kp g w w'

set_option maxHeartbeats 1000000 in
theorem odd_any (g : Nat) (A : Option Addr) (n c M : Nat) (N : Int) (w : World) (h : Rdr w g A n c M) (hM : M ≤ 100000) (hN : 0 < N) (hN2 : N ≤ 1000) :
    Calls Try.prog 75 #[.pointer (some ⟨g, 0, none⟩), .int .i64 N] w (Odded g A n c M w) := by
  go_enter Try.func75, Try.ntmps75
  go_wp2_with fail
  refine (pick_any g A n c M N _ h hM).mono ?_
  rintro e w1 ⟨r, rfl, h0, h1, hR, hK⟩
  go_wp2
  go_ret
  exact ⟨_, rfl, hR, hK⟩

/-- a code that came in: its bytes can be read -/
structure Cd where
  A : Option Addr
  n : Nat
  c : Nat
def Cd.val (x : Cd) : Value := .slice x.A x.n x.c
def CodeArg (w : World) (x : Cd) : Prop :=
  x.n ≤ x.c ∧ x.c ≤ maxLen ∧ (x.n = 0 ∨ ∃ cb co, x.A = some ⟨cb, co, none⟩ ∧ ∀ j, j < x.n → ∃ b : Int, 0 ≤ b ∧ b ≤ 255 ∧ w.cell? ⟨cb, co + j, none⟩ = some (.int .u8 b))
theorem CodeArg.keep {w w' : World} {x : Cd} (h : CodeArg w x) (hb : Below w.heap.size w w') : CodeArg w' x := by
  refine ⟨h.1, h.2.1, ?_⟩
  rcases h.2.2 with h0 | ⟨cb, co, e, hc⟩
  · exact .inl h0
  · refine .inr ⟨cb, co, e, fun j hj => ?_⟩
    obtain ⟨b, h0, h1, hb'⟩ := hc j hj
    exact ⟨b, h0, h1, by rw [hb.cell (p := ⟨cb, co + j, none⟩) (block_lt_of_cell hb')]; exact hb'⟩

/-- a reader opened -/
def Opened (w : World) (e : Ending) (w' : World) : Prop :=
  ∃ (A : Option Addr) (n c : Nat), e = .returned (.pointer (some ⟨w.heap.size, 0, none⟩)) ∧ Rdr w' w.heap.size A n c 0 ∧ Below w.heap.size w w'

theorem opened (w : World) (x : Cd) (h : CodeArg w x) (m : Nat) (hm : m ≤ x.n) (hm2 : m ≤ 2000) :
    Opened w (.returned (.pointer (some ⟨w.heap.size, 0, none⟩))) (w.alloc (.cells #[.slice x.A m x.c, .int .i64 0] 82)) := by
  have hb := bel_1 w (.cells #[.slice x.A m x.c, .int .i64 0] 82)
  refine ⟨x.A, m, x.c, rfl, ⟨⟨0, by omega, by omega, heap_alloc_new w _⟩, ?_, hm2⟩, hb⟩
  rcases h.2.2 with h0 | ⟨cb, co, e, hc⟩
  · exact .inl (by omega)
  · rcases Nat.eq_zero_or_pos m with h0 | h0
    · exact .inl h0
    · refine .inr ⟨cb, co, e, ?_, fun j hj => ?_⟩
      · obtain ⟨b, _, _, hb'⟩ := hc 0 (by omega)
        have := block_lt_of_cell hb'
        simp only at this
        omega
      · obtain ⟨b, h0, h1, hb'⟩ := hc j (by omega)
        exact ⟨b, h0, h1, by rw [hb.cell (p := ⟨cb, co + j, none⟩) (block_lt_of_cell hb')]; exact hb'⟩

set_option maxHeartbeats 1000000 in
theorem open_any (x : Cd) (w : World) (h : CodeArg w x) :
    Calls Try.prog 56 #[.slice x.A x.n x.c] w (Opened w) := by
  have HO := Lib.hid (opened w x h)
  obtain ⟨h1, h2, _⟩ := h
  unfold maxLen at h2
  obtain ⟨A, n, c⟩ := x
  simp only at h1 h2 HO ⊢
  by_cases hn : 2000 < n
  · go_enter Try.func56, Try.ntmps56
    go_wp2
    go_ret
    exact HO.out 2000 (by omega) (by omega)
  · go_enter Try.func56, Try.ntmps56
    go_wp2
    go_ret
    exact HO.out n (by omega) (by omega)
end Go.Proofs.Yteekikaebmkioaa
