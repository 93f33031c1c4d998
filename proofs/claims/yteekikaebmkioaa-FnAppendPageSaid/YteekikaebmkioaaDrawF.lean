/- What the reference's draw of a written page gives. -/
import Derived.Test.YteekikaebmkioaaDraws4
import Derived.Test.YteekikaebmkioaaAppPlain
namespace Go.Proofs.Yteekikaebmkioaa
open Go.RowKit
set_option linter.unusedVariables false

section
variable {P : Program} {ops : Array Oper} {Q : Exit → Act → World → Prop}
theorem reg_beginK {id : Nat} (g : Nat) {a : Act} {w : World} (hm : P.follows .mixedOrders = true)
    (h : Kp g w w.drew → wpAnyH P .any ops Q (fun w' => Kp g w w') ops.size (Array.replicate ops.size false) a w.drew) : (Code.region id ops true).wp P Q a w :=
  wp_region_held_drew hm ((Kp.refl g w).drewN 1) h
theorem reg_beginS {id : Nat} {S : World → Prop} {a : Act} {w : World} (hS : S w.drew) (hm : P.follows .mixedOrders = true)
    (h : S w.drew → wpAnyH P .any ops Q S ops.size (Array.replicate ops.size false) a w.drew) : (Code.region id ops true).wp P Q a w :=
  wp_region_held_drew hm hS h
end
/-- what old memory but the reader's block holds -/
theorem kcellS {g : Nat} {W w1 : World} (h : Kp g W w1) : ∀ b o, b < W.heap.size → b ≠ g → w1.cell? ⟨b, o, none⟩ = W.cell? ⟨b, o, none⟩ := fun b o hb hne => h.cell hb hne
theorem PgRow.keepK {w w' : World} {q n g : Nat} {ps : List Pg} (h : PgRow w q n ps) (hK : Kp g w w') (hne : q ≠ g) : PgRow w' q n ps :=
  ⟨h.1, Nat.lt_of_lt_of_le h.2.1 hK.size, fun i hi => by
    obtain ⟨h0, h1, h2, h3, h4⟩ := h.2.2.1 i hi
    exact ⟨(hK.cell h.2.1 hne).trans h0, (hK.cell h.2.1 hne).trans h1, (hK.cell h.2.1 hne).trans h2, (hK.cell h.2.1 hne).trans h3, (hK.cell h.2.1 hne).trans h4⟩,
    fun j => (kfroz hK h.2.1 hne j).trans (h.2.2.2 j)⟩
/-- pages that lie in blocks from lo on -/
def PgsFr (w : World) (lo : Nat) (A : Option Addr) (n : Nat) (ps : List Pg) : Prop :=
  ps.length = n ∧ n ≤ 4 ∧ (0 < n → ∃ b o, A = some ⟨b, o, none⟩ ∧ lo ≤ b ∧ b < w.heap.size ∧ ∀ i, i < n → C5 w b (o + i * 5) (pgAt ps i))
theorem PgsFr.at {w : World} {lo n : Nat} {A : Option Addr} {ps : List Pg} (h : PgsFr w lo A n ps) : PgsAt w A n ps :=
  ⟨h.1, by have := h.2.1; omega, fun hn => by
    obtain ⟨b, o, e, _, _, hc⟩ := h.2.2 hn
    exact ⟨b, o, e, hc⟩⟩
theorem C5.sameB {w w' : World} {b o : Nat} {p : Pg} (h : C5 w b o p) (hs : ∀ o, w'.cell? ⟨b, o, none⟩ = w.cell? ⟨b, o, none⟩) : C5 w' b o p :=
  ⟨(hs _).trans h.1, (hs _).trans h.2.1, (hs _).trans h.2.2.1, (hs _).trans h.2.2.2.1, (hs _).trans h.2.2.2.2⟩
theorem PgsFr.keepK {w w' : World} {lo n g : Nat} {A : Option Addr} {ps : List Pg} (h : PgsFr w lo A n ps) (hK : Kp g w w') (hg : g < lo) : PgsFr w' lo A n ps :=
  ⟨h.1, h.2.1, fun hn => by
    obtain ⟨b, o, e, hl, hz, hc⟩ := h.2.2 hn
    exact ⟨b, o, e, hl, Nat.lt_of_lt_of_le hz hK.size, fun i hi => (hc i hi).sameB (fun o => hK.cell hz (by omega))⟩⟩
theorem PgsFr.keep {w w' : World} {lo n : Nat} {A : Option Addr} {ps : List Pg} (h : PgsFr w lo A n ps) (hb : Below w.heap.size w w') : PgsFr w' lo A n ps :=
  ⟨h.1, h.2.1, fun hn => by
    obtain ⟨b, o, e, hl, hz, hc⟩ := h.2.2 hn
    exact ⟨b, o, e, hl, Nat.lt_of_lt_of_le hz hb.size, fun i hi => (hc i hi).sameB (fun o => hb.cell (p := ⟨b, o, none⟩) hz)⟩⟩
theorem PgsFr.setLow {w : World} {lo n : Nat} {A : Option Addr} {ps : List Pg} (h : PgsFr w lo A n ps) {a : Addr} (ha : a.block < lo) (v : Value) : PgsFr (w.setCell a v) lo A n ps :=
  ⟨h.1, h.2.1, fun hn => by
    obtain ⟨b, o, e, hl, hz, hc⟩ := h.2.2 hn
    exact ⟨b, o, e, hl, by rw [World.size_setCell]; exact hz, fun i hi => (hc i hi).sameB (fun o => World.cell?_setCell_other _ _ _ _ (fun e2 => by rw [e2] at ha; simp only [] at ha; omega))⟩⟩
theorem PgRow.fr {w : World} {q lo : Nat} {ps : List Pg} (h : PgRow w q 4 ps) (hl : lo ≤ q) : PgsFr w lo (some ⟨q, 0, none⟩) 4 ps :=
  ⟨h.1, Nat.le_refl _, fun _ => ⟨q, 0, rfl, hl, h.2.1, fun i hi => by rw [Nat.zero_add]; exact h.2.2.1 i hi⟩⟩
theorem PgRow.fr_tail {w : World} {q lo : Nat} {ps : List Pg} (h : PgRow w q 4 ps) (hl : lo ≤ q) : PgsFr w lo (some ⟨q, 5, none⟩) 3 (ps.drop 1) :=
  ⟨by rw [List.length_drop, h.1], by omega, fun _ => ⟨q, 5, rfl, hl, h.2.1, fun i hi => by
    have e : pgAt (ps.drop 1) i = pgAt ps (i + 1) := by simp [pgAt, List.getD]
    rw [e, show 5 + i * 5 = (i + 1) * 5 by omega]
    exact h.2.2.1 (i + 1) (by omega)⟩⟩
theorem pg_full (fi pl va st : Int) (h1 : 0 ≤ fi ∧ fi < 4) (h2 : 0 ≤ pl ∧ pl < 4) (h3 : 0 ≤ va ∧ va < 100) (h4 : 1 ≤ st ∧ st ≤ 1000000) : pageValidF ⟨true, fi, pl, va, st⟩ = true := pv_in fi pl va st (by omega)

/-- a written page, the reader asked at most M times -/
def DrawnF (g : Nat) (A : Option Addr) (n c M : Nat) (st : Int) (w : World) (e : Ending) (w' : World) : Prop :=
  ∃ fi pl va : Int, e = .returned (.agg #[.bool true, .int .i64 fi, .int .i64 pl, .int .i64 va, .int .i64 st]) ∧ (0 ≤ fi ∧ fi < 4) ∧ (0 ≤ pl ∧ pl < 4) ∧ (0 ≤ va ∧ va < 100) ∧ Rdr w' g A n c M ∧ Kp g w w'
set_option maxRecDepth 100000 in
set_option maxHeartbeats 2000000 in
theorem full_any (g : Nat) (A : Option Addr) (n c M : Nat) (st : Int) (w : World) (h : Rdr w g A n c M) (hM : M ≤ 50000) :
    Calls Try.prog 74 #[.pointer (some ⟨g, 0, none⟩), .int .i64 st] w (DrawnF g A n c (M + 3) st w) := by
  have hg := h.lt
  go_enter Try.func74, Try.ntmps74
  go_wp2_with fail
  refine (pick_c g A n c M 4 _ (h.keep (bel_1 _ _)) (by omega) (by omega)).mono ?_
  rintro e w1 ⟨r1, rfl, h10, h11, hR1, hK1⟩
  have hc1 := kcell hK1 (b := w.heap.size) (by simp) (by omega)
  have hf1 := kfroz hK1 (b := w.heap.size) (by simp) (by omega)
  have hz1 : w.heap.size < w1.heap.size := by have := hK1.size; (try simp at this); omega
  go_wp2_with fail
  refine (pick_c g A n c (M + 1) 4 _ hR1 (by omega) (by omega)).mono ?_
  rintro e w2 ⟨r2, rfl, h20, h21, hR2, hK2⟩
  have hc2 := kcell hK2 (b := w.heap.size) hz1 (by omega)
  have hf2 := kfroz hK2 (b := w.heap.size) hz1 (by omega)
  have hz2 : w.heap.size < w2.heap.size := by have := hK2.size; omega
  go_wp2_with fail
  refine (pick_c g A n c (M + 1 + 1) 100 _ hR2 (by omega) (by omega)).mono ?_
  rintro e w3 ⟨r3, rfl, h30, h31, hR3, hK3⟩
  have hc3 := kcell hK3 (b := w.heap.size) hz2 (by omega)
  have hf3 := kfroz hK3 (b := w.heap.size) hz2 (by omega)
  have hz3 : w.heap.size < w3.heap.size := by have := hK3.size; omega
  have hKK : Kp g w w3 := (Kp.of_below (bel_1 _ _)).trans (hK1.trans (hK2.trans hK3))
  go_wp2
  refine bodyPost_ret (v := .agg #[.bool true, .int .i64 r1, .int .i64 r2, .int .i64 r3, .int .i64 st]) (by simp [results, Try.results74, go_sem, *]) rfl ?_
  have hk := kp_set5 hKK (Nat.le_refl _) (.bool true) (.int .i64 r1) (.int .i64 r2) (.int .i64 r3) (.int .i64 st)
  exact ⟨r1, r2, r3, rfl, ⟨h10, h11⟩, ⟨h20, h21⟩, ⟨h30, h31⟩, (h.final hR3 (heap_set5 (by omega) _ _ _ _ _) hk).mono (Nat.le_refl _), hk⟩

end Go.Proofs.Yteekikaebmkioaa
