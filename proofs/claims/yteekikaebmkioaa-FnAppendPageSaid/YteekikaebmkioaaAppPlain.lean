/- Plain laws on a page written into a block, programmed into a device, appended to it. No program in sight. -/
import Derived.Test.YteekikaebmkioaaPutPage
import Derived.Test.YteekikaebmkioaaFresh
import Derived.Test.YteekikaebmkioaaDevices3
namespace Go.Proofs.Yteekikaebmkioaa
open Go.RowKit
set_option linter.unusedVariables false

theorem ff_at (ps : List Pg) (m k j : Nat) (h : freeFrom ps m k = (j : Int)) : k ≤ j ∧ j < k + m ∧ (pgAt ps j).full = false ∧ ∀ i, k ≤ i → i < j → (pgAt ps i).full = true := by
  induction m generalizing k with
  | zero => rw [freeFrom_zero] at h; omega
  | succ m ih =>
    rw [freeFrom_succ] at h
    cases hf : (pgAt ps k).full
    · rw [hf, if_neg (by simp)] at h
      obtain rfl : k = j := by omega
      exact ⟨Nat.le_refl _, by omega, hf, fun i h1 h2 => by omega⟩
    · rw [hf, if_pos rfl] at h
      obtain ⟨h1, h2, h3, h4⟩ := ih (k + 1) h
      refine ⟨by omega, by omega, h3, fun i hi hj => ?_⟩
      by_cases e : i = k
      · subst e; exact hf
      · exact h4 i (by omega) hj
theorem ff_none (ps : List Pg) (m k : Nat) (h : freeFrom ps m k < 0) : freeFrom ps m k = -1 ∧ ∀ i, k ≤ i → i < k + m → (pgAt ps i).full = true := by
  induction m generalizing k with
  | zero => rw [freeFrom_zero]; exact ⟨rfl, fun i h1 h2 => by omega⟩
  | succ m ih =>
    rw [freeFrom_succ] at h ⊢
    cases hf : (pgAt ps k).full
    · rw [hf, if_neg (by simp)] at h; omega
    · rw [hf, if_pos rfl] at h
      obtain ⟨h1, h2⟩ := ih (k + 1) h
      rw [if_pos rfl]
      refine ⟨h1, fun i hi hj => ?_⟩
      by_cases e : i = k
      · subst e; exact hf
      · exact h2 i (by omega) (by omega)
theorem ff_mk (ps : List Pg) (m k j : Nat) (h1 : k ≤ j) (h2 : j < k + m) (h3 : (pgAt ps j).full = false) (h4 : ∀ i, k ≤ i → i < j → (pgAt ps i).full = true) : freeFrom ps m k = (j : Int) := by
  induction m generalizing k with
  | zero => omega
  | succ m ih =>
    rw [freeFrom_succ]
    by_cases e : k = j
    · subst e; rw [h3, if_neg (by simp)]
    · rw [h4 k (Nat.le_refl _) (by omega), if_pos rfl]
      exact ih (k + 1) (by omega) (by omega) (fun i hi hj => h4 i (by omega) hj)
theorem ff_full (ps : List Pg) (m k : Nat) (h : ∀ i, k ≤ i → i < k + m → (pgAt ps i).full = true) : freeFrom ps m k = -1 := by
  induction m generalizing k with
  | zero => exact freeFrom_zero ps k
  | succ m ih =>
    rw [freeFrom_succ, h k (Nat.le_refl _) (by omega), if_pos rfl]
    exact ih (k + 1) (fun i h1 h2 => h i (by omega) (by omega))
theorem bv_ok (b : Bl) (h : blockValidF b = true) (i : Nat) (hi : i < 4) : pageValidF (pgAt b.pages i) = true ∧ (i ≠ 0 → (pgAt b.pages i).full = true → (pgAt b.pages (i - 1)).full = true) := by
  have h4 := bv_len b h
  rw [blockValidF] at h
  simp only [Bool.and_eq_true] at h
  have ho := okTo_le b.pages (show i + 1 ≤ b.pages.length by omega) h.2
  rw [okTo_succ, Bool.and_eq_true] at ho
  have h2 := ho.2
  rw [okAt] at h2
  simp only [Bool.and_eq_true, Bool.or_eq_true, beq_iff_eq, Bool.not_eq_true'] at h2
  refine ⟨h2.1, fun h0 hf => ?_⟩
  rcases h2.2 with (h3 | h3) | h3
  · exact absurd h3 h0
  · rw [hf] at h3; cases h3
  · exact h3
theorem bv_mk (x : Int) (ps : List Pg) (hx : 0 ≤ x ∧ x ≤ 100) (hl : ps.length = 4) (h : ∀ i, i < 4 → pageValidF (pgAt ps i) = true ∧ (i ≠ 0 → (pgAt ps i).full = true → (pgAt ps (i - 1)).full = true)) : blockValidF ⟨x, ps⟩ = true := by
  refine bv_4 x ps hx hl ?_
  have ho : ∀ i, i < 4 → okAt ps i = true := fun i hi => by
    obtain ⟨h1, h2⟩ := h i hi
    by_cases h0 : i = 0
    · exact ok_2 ps i h1 h0
    · cases hf : (pgAt ps i).full
      · exact ok_3 ps i h1 hf
      · exact ok_4 ps i h1 (h2 h0 hf)
  rw [okTo_succ, okTo_succ, okTo_succ, okTo_succ, okTo_zero, ho 0 (by omega), ho 1 (by omega), ho 2 (by omega), ho 3 (by omega)]; rfl
theorem bv_wearing (x : Int) (b : Bl) (h : blockValidF b = true) (hx : 0 ≤ x ∧ x ≤ 100) : blockValidF ⟨x, b.pages⟩ = true := bv_mk x b.pages hx (bv_len b h) (bv_ok b h)
theorem bv_after (b : Bl) (h : blockValidF b = true) (j : Nat) (hj : (pgAt b.pages j).full = false) (i : Nat) (hji : j ≤ i) (hi : i < 4) : (pgAt b.pages i).full = false := by
  induction i with
  | zero => obtain rfl : j = 0 := by omega
            exact hj
  | succ i ih =>
    by_cases e : j = i + 1
    · subst e; exact hj
    · have h1 := ih (by omega) (by omega)
      cases hf : (pgAt b.pages (i + 1)).full
      · rfl
      · have h2 := (bv_ok b h (i + 1) hi).2 (by omega) hf
        rw [Nat.add_sub_cancel, h1] at h2
        cases h2
/-- the next page of a valid block -/
theorem bn_at (b : Bl) (j : Nat) (h : blockValidF b = true) (hj : blockNextF b = (j : Int)) : j < 4 ∧ (∀ i, i < j → (pgAt b.pages i).full = true) ∧ ∀ i, j ≤ i → i < 4 → (pgAt b.pages i).full = false := by
  rw [bn_2 b 4 (bv_len b h) h] at hj
  obtain ⟨_, hj4, hjf, hjt⟩ := ff_at b.pages 4 0 j hj
  exact ⟨by omega, fun i hi => hjt i (by omega) hi, fun i h1 h2 => bv_after b h j hjf i h1 h2⟩
theorem bn_none (b : Bl) (h : blockValidF b = true) (hj : blockNextF b < 0) : blockNextF b = -1 ∧ ∀ i, i < 4 → (pgAt b.pages i).full = true := by
  rw [bn_2 b 4 (bv_len b h) h] at hj ⊢
  obtain ⟨h1, h2⟩ := ff_none b.pages 4 0 hj
  exact ⟨h1, fun i hi => h2 i (by omega) (by omega)⟩
theorem bn_m1 (b : Bl) : blockNextF b < 0 → blockNextF b = -1 := by
  intro h
  cases hv : blockValidF b
  · exact bn_1 b hv
  · exact (bn_none b hv h).1
theorem bv_put (b : Bl) (p : Pg) (j : Nat) (h : blockValidF b = true) (hp : pageValidF p = true) (hf : p.full = true) (hj : blockNextF b = (j : Int)) : blockValidF ⟨b.wear, b.pages.set j p⟩ = true := by
  have h4 := bv_len b h
  obtain ⟨hj4, hjt, _⟩ := bn_at b j h hj
  refine bv_mk _ _ (bv_wear b h) (by simp [h4]) fun i hi => ?_
  rw [pgAt_set _ _ _ _ (by omega), pgAt_set _ _ _ _ (by omega)]
  obtain ⟨h1, h2⟩ := bv_ok b h i hi
  by_cases e : i = j
  · subst e
    rw [if_pos rfl]
    refine ⟨hp, fun h0 _ => ?_⟩
    rw [if_neg (by omega)]
    exact hjt (i - 1) (by omega)
  · rw [if_neg e]
    refine ⟨h1, fun h0 h3 => ?_⟩
    by_cases e2 : i - 1 = j
    · rw [if_pos e2]; exact hf
    · rw [if_neg e2]; exact h2 h0 h3
theorem bn_put (b : Bl) (p : Pg) (j : Nat) (h : blockValidF b = true) (hp : pageValidF p = true) (hf : p.full = true) (hj : blockNextF b = (j : Int)) :
    blockNextF ⟨b.wear, b.pages.set j p⟩ = (j : Int) + 1 ∨ (blockNextF ⟨b.wear, b.pages.set j p⟩ = -1 ∧ j = 3) := by
  have h4 := bv_len b h
  obtain ⟨hj4, hjt, hjf⟩ := bn_at b j h hj
  have hv := bv_put b p j h hp hf hj
  rw [bn_2 _ 4 (bv_len _ hv) hv]
  dsimp only
  have ht : ∀ i, i ≤ j → (pgAt (b.pages.set j p) i).full = true := fun i hi => by
    rw [pgAt_set _ _ _ _ (by omega)]
    split
    · exact hf
    · exact hjt i (by omega)
  by_cases e : j = 3
  · exact Or.inr ⟨ff_full _ 4 0 (fun i _ hi => ht i (by omega)), e⟩
  · refine Or.inl (ff_mk _ 4 0 (j + 1) (by omega) (by omega) ?_ (fun i _ hi => ht i (by omega)))
    rw [pgAt_set _ _ _ _ (by omega), if_neg (by omega)]
    exact hjf (j + 1) (by omega) (by omega)

/-! devices -/
theorem allTo_mk (ds : List Bl) (n : Nat) (h : ∀ i, i < n → blockValidF (blAt ds i) = true) : allTo ds n = true := by
  induction n with
  | zero => exact allTo_zero ds
  | succ n ih => rw [allTo_succ, ih (fun i hi => h i (by omega)), h n (by omega)]; rfl
theorem dv_mk (ds : List Bl) (n : Nat) (hl : ds.length = n) (h1 : 1 ≤ n) (h2 : n ≤ 12) (h : ∀ i, i < n → blockValidF (blAt ds i) = true) : deviceValidF ds = true := by
  rw [deviceValidF, hl, allTo_mk ds n h, inB_t (by omega) (by omega)]; rfl
theorem dv_set (ds : List Bl) (n k : Nat) (b : Bl) (hl : ds.length = n) (hv : deviceValidF ds = true) (hk : k < n) (hb : blockValidF b = true) : deviceValidF (ds.set k b) = true := by
  obtain ⟨h1, h2⟩ := dv_len ds n hl hv
  refine dv_mk _ n (by simp [hl]) h1 h2 fun i hi => ?_
  rw [blAt_set ds k i b (by omega)]
  split
  · exact hb
  · exact dv_at ds n i hl hv hi
theorem fullTo_set (ps : List Pg) (j : Nat) (p : Pg) (hj : j < ps.length) (h0 : (pgAt ps j).full = false) (hf : p.full = true) (m : Nat) : fullTo (ps.set j p) m = fullTo ps m + (if j < m then 1 else 0) := by
  induction m with
  | zero => rw [fullTo_zero, fullTo_zero]; rfl
  | succ m ih =>
    rw [fullTo_succ, fullTo_succ, ih, pgAt_set _ _ _ _ hj]
    by_cases e : m = j
    · subst e
      rw [if_pos rfl, hf, h0, if_neg (Nat.lt_irrefl _), if_pos (Nat.lt_succ_self _)]
      simp
    · rw [if_neg e]
      by_cases hm : j < m
      · rw [if_pos hm, if_pos (show j < m + 1 by omega)]; omega
      · rw [if_neg hm, if_neg (show ¬ j < m + 1 by omega)]; omega
theorem freeTo_set (ds : List Bl) (k : Nat) (b : Bl) (hk : k < ds.length) (m : Nat) :
    freeTo (ds.set k b) m = freeTo ds m + (if k < m then (fullTo (blAt ds k).pages (blAt ds k).pages.length : Int) - (fullTo b.pages b.pages.length : Int) else 0) := by
  induction m with
  | zero => rw [freeTo_zero, freeTo_zero]; rfl
  | succ m ih =>
    rw [freeTo_succ, freeTo_succ, ih, blAt_set ds k m b hk]
    by_cases e : m = k
    · subst e
      rw [if_pos rfl, if_neg (Nat.lt_irrefl _), if_pos (Nat.lt_succ_self _)]
      omega
    · rw [if_neg e]
      by_cases hm : k < m
      · rw [if_pos hm, if_pos (show k < m + 1 by omega)]; omega
      · rw [if_neg hm, if_neg (show ¬ k < m + 1 by omega)]; omega

/-- a page programmed into block k of a valid device: into its page j -/
structure Put (ds : List Bl) (n k j : Nat) (p : Pg) : Prop where
  len : ds.length = n
  dv : deviceValidF ds = true
  k_lt : k < n
  pv : pageValidF p = true
  full : p.full = true
  next : blockNextF (blAt ds k) = (j : Int)
def putF (ds : List Bl) (k j : Nat) (p : Pg) : List Bl := ds.set k ⟨(blAt ds k).wear, (blAt ds k).pages.set j p⟩
section
variable {ds : List Bl} {n k j : Nat} {p : Pg}
theorem Put.bv (H : Put ds n k j p) : blockValidF (blAt ds k) = true := dv_at ds n k H.len H.dv H.k_lt
theorem Put.j4 (H : Put ds n k j p) : j < 4 := (bn_at _ j H.bv H.next).1
theorem Put.eq (H : Put ds n k j p) : programF ds (k : Int) p = (putF ds k j p, (k : Int) * 4 + (j : Int)) := by
  rw [pr_6 ds n k p H.len H.dv H.k_lt H.pv H.full _ _ (wb_4 _ p j H.bv H.pv H.full H.next) (by omega)]; rfl
theorem Put.valid (H : Put ds n k j p) : deviceValidF (putF ds k j p) = true := dv_set ds n k _ H.len H.dv H.k_lt (bv_put _ p j H.bv H.pv H.full H.next)
theorem Put.length (H : Put ds n k j p) : (putF ds k j p).length = n := by rw [putF, List.length_set, H.len]
theorem Put.at (H : Put ds n k j p) (i : Nat) : blAt (putF ds k j p) i = if i = k then ⟨(blAt ds k).wear, (blAt ds k).pages.set j p⟩ else blAt ds i := blAt_set ds k i _ (by rw [H.len]; exact H.k_lt)
/-- page q of the device behind it -/
theorem Put.page (H : Put ds n k j p) (q : Nat) (hq : q < 4 * n) : pgAt (blAt (putF ds k j p) (q / 4)).pages (q % 4) = if q = k * 4 + j then p else pgAt (blAt ds (q / 4)).pages (q % 4) := by
  have h4 := bv_len _ H.bv
  have hj := H.j4
  rw [H.at]
  by_cases e : q / 4 = k
  · rw [if_pos e]
    dsimp only
    rw [pgAt_set _ _ _ _ (by omega)]
    by_cases e2 : q % 4 = j
    · rw [if_pos e2, if_pos (by omega)]
    · rw [if_neg e2, if_neg (by omega), e]
  · rw [if_neg e, if_neg (by omega)]
theorem Put.old (H : Put ds n k j p) : (pgAt (blAt ds k).pages j).full = false := (bn_at _ j H.bv H.next).2.2 j (Nat.le_refl _) H.j4
theorem Put.free (H : Put ds n k j p) : freePagesF (putF ds k j p) = freePagesF ds - 1 := by
  have h4 := bv_len _ H.bv
  have hj := H.j4
  rw [fp_2 _ n H.length H.valid, fp_2 _ n H.len H.dv, putF, freeTo_set _ _ _ (by rw [H.len]; exact H.k_lt), if_pos H.k_lt]
  dsimp only
  rw [List.length_set, h4, fullTo_set _ _ _ (by omega) H.old H.full, if_pos hj]
  omega
theorem rp_at (ds : List Bl) (n q : Nat) (hl : ds.length = n) (hv : deviceValidF ds = true) (hq : q < 4 * n) : readPageF ds (q : Int) = (pgAt (blAt ds (q / 4)).pages (q % 4), (pgAt (blAt ds (q / 4)).pages (q % 4)).full) := by
  rw [readPageF, hv, hl, inB_t (by omega) (by omega)]
  rw [show ((q : Int) / 4).toNat = q / 4 by omega, show ((q : Int) % 4).toNat = q % 4 by omega]; rfl
theorem Put.read (H : Put ds n k j p) (q : Nat) (hq : q < 4 * n) : readPageF (putF ds k j p) (q : Int) = if q = k * 4 + j then (p, true) else readPageF ds (q : Int) := by
  rw [rp_at _ n q H.length H.valid hq, rp_at ds n q H.len H.dv hq, H.page q hq]
  by_cases e : q = k * 4 + j
  · rw [if_pos e, if_pos e, H.full]
  · rw [if_neg e, if_neg e]
theorem Put.read0 (H : Put ds n k j p) : (readPageF ds ((k * 4 + j : Nat) : Int)).1 = Pg.zero := by
  have hj := H.j4
  have hk := H.k_lt
  rw [rp_at ds n _ H.len H.dv (by omega), show (k * 4 + j) / 4 = k by omega, show (k * 4 + j) % 4 = j by omega]
  have h1 := (bv_ok _ H.bv j hj).1
  have h2 := H.old
  dsimp only
  generalize pgAt (blAt ds k).pages j = q at *
  obtain ⟨f, a, b, c, d⟩ := q
  dsimp only at h2
  subst h2
  by_cases e : a = 0 ∧ b = 0 ∧ c = 0 ∧ d = 0
  · obtain ⟨rfl, rfl, rfl, rfl⟩ := e; rfl
  · rw [pv_empty a b c d e] at h1; cases h1
end

/-! heads -/
theorem hv_in (ds : List Bl) (n : Nat) (g h k : Int) (hl : ds.length = n) (hv : headsValidF ds g h k = true) :
    deviceValidF ds = true ∧ (-1 ≤ g ∧ g < n) ∧ (-1 ≤ h ∧ h < n) ∧ (-1 ≤ k ∧ k < n) ∧ ¬ (0 ≤ h ∧ h = g) ∧ ¬ (0 ≤ k ∧ k = g) ∧ ¬ (0 ≤ k ∧ k = h) := by
  have e : ∀ {b : Bool}, b = false → headsValidF ds g h k = b → False := fun h1 h2 => by rw [hv, h1] at h2; cases h2
  refine ⟨?_, ?_, ?_, ?_, ?_, ?_, ?_⟩
  · cases hd : deviceValidF ds
    · exact absurd hv (by rw [hv_dev ds g h k hd]; simp)
    · rfl
  · exact Decidable.byContradiction fun hx => by rw [hv_g ds n g h k hl hx] at hv; cases hv
  · exact Decidable.byContradiction fun hx => by rw [hv_h ds n g h k hl hx] at hv; cases hv
  · exact Decidable.byContradiction fun hx => by rw [hv_k ds n g h k hl hx] at hv; cases hv
  · exact fun hx => by rw [hv_10 ds n g h k hl hx] at hv; cases hv
  · exact fun hx => by rw [hv_20 ds n g h k hl hx] at hv; cases hv
  · exact fun hx => by rw [hv_21 ds n g h k hl hx] at hv; cases hv
theorem fr_in (ds : List Bl) (g h k : Int) (i : Nat) : freshTo ds g h k i < 0 ∨ ∃ m : Nat, freshTo ds g h k i = (m : Int) ∧ m < i ∧ freshAt ds g h k m = true := by
  induction i with
  | zero => rw [freshTo_zero]; left; omega
  | succ i ih =>
    rw [freshTo_succ]
    split
    · rename_i hc
      rw [Bool.and_eq_true] at hc
      exact Or.inr ⟨i, rfl, Nat.lt_succ_self _, hc.1⟩
    · rcases ih with ih | ⟨m, e, hm, hf⟩
      · exact Or.inl ih
      · exact Or.inr ⟨m, e, by omega, hf⟩
theorem fa_in (ds : List Bl) (g h k : Int) (m : Nat) (hf : freshAt ds g h k m = true) : blockNextF (blAt ds m) = 0 ∧ (m : Int) ≠ g ∧ (m : Int) ≠ h ∧ (m : Int) ≠ k := by
  rw [freshAt] at hf
  simp only [Bool.and_eq_true, beq_iff_eq, Bool.not_eq_true', beq_eq_false_iff_ne, ne_eq] at hf
  exact ⟨hf.1.1.1, hf.1.1.2, hf.1.2, hf.2⟩
theorem fb_in (ds : List Bl) (n : Nat) (g h k : Int) (hl : ds.length = n) (h0 : 0 ≤ freshBlockF ds g h k) : ∃ m : Nat, freshBlockF ds g h k = (m : Int) ∧ m < n ∧ freshAt ds g h k m = true := by
  cases hv : headsValidF ds g h k
  · rw [fb_1 ds g h k hv] at h0; omega
  · rw [fb_2 ds n g h k hl hv] at h0 ⊢
    rcases fr_in ds g h k n with h1 | h1
    · omega
    · exact h1
theorem fb_neg (ds : List Bl) (n : Nat) (g h k : Int) (hl : ds.length = n) (h0 : freshBlockF ds g h k < 0) : freshBlockF ds g h k = -1 := by
  cases hv : headsValidF ds g h k
  · exact fb_1 ds g h k hv
  · rw [fb_2 ds n g h k hl hv] at h0 ⊢
    have := (freshTo_b ds g h k n).1
    omega
theorem ho_b (ds : List Bl) (n : Nat) (g h k t : Int) (hl : ds.length = n) (hv : headsValidF ds g h k = true) : -1 ≤ headOfF ds g h k t ∧ headOfF ds g h k t < n := by
  obtain ⟨hd, h1, h2, h3, _⟩ := hv_in ds n g h k hl hv
  have := dv_len ds n hl hd
  rw [ho_2 ds g h k t hv]
  split
  · exact h1
  · split
    · exact h2
    · split
      · exact h3
      · omega

/-! a page appended -/
structure App where
  ds : List Bl
  g : Int
  h : Int
  k : Int
  at_ : Int
def appPut (ds : List Bl) (m g h k : Int) (p : Pg) : App := ⟨(programF ds m p).1, g, h, k, (programF ds m p).2⟩
def setG (t m g : Int) : Int := if t = 0 then m else g
def setH (t m h : Int) : Int := if t = 1 then m else h
def setK (t m k : Int) : Int := if t = 0 then k else if t = 1 then k else m
def appendF (ds : List Bl) (g h k t : Int) (p : Pg) : App :=
  if headsValidF ds g h k && inB t 0 2 && pageValidF p && p.full then
    (if headOfF ds g h k t < 0 ∨ blockNextF (blAt ds (headOfF ds g h k t).toNat) < 0 then
      (if freshBlockF ds g h k < 0 then ⟨ds, g, h, k, -1⟩
       else appPut ds (freshBlockF ds g h k) (setG t (freshBlockF ds g h k) g) (setH t (freshBlockF ds g h k) h) (setK t (freshBlockF ds g h k) k) p)
     else appPut ds (headOfF ds g h k t) g h k p)
  else ⟨[], 0, 0, 0, -1⟩
section
variable (ds : List Bl) (g h k t : Int) (p : Pg)
theorem ap_1 (hv : headsValidF ds g h k = false) : appendF ds g h k t p = ⟨[], 0, 0, 0, -1⟩ := by rw [appendF, hv]; rfl
theorem ap_2 (ht : ¬ (0 ≤ t ∧ t ≤ 2)) : appendF ds g h k t p = ⟨[], 0, 0, 0, -1⟩ := by rw [appendF, inB02_no ht, if_neg (by simp)]
theorem ap_3 (hp : pageValidF p = false) : appendF ds g h k t p = ⟨[], 0, 0, 0, -1⟩ := by rw [appendF, hp, if_neg (by simp)]
theorem ap_4 (hf : p.full = false) : appendF ds g h k t p = ⟨[], 0, 0, 0, -1⟩ := by rw [appendF, hf, if_neg (by simp)]
variable (hv : headsValidF ds g h k = true) (ht : 0 ≤ t ∧ t ≤ 2) (hp : pageValidF p = true) (hf : p.full = true)
include hv ht hp hf
theorem ap_in : appendF ds g h k t p = (if headOfF ds g h k t < 0 ∨ blockNextF (blAt ds (headOfF ds g h k t).toNat) < 0 then
      (if freshBlockF ds g h k < 0 then ⟨ds, g, h, k, -1⟩
       else appPut ds (freshBlockF ds g h k) (setG t (freshBlockF ds g h k) g) (setH t (freshBlockF ds g h k) h) (setK t (freshBlockF ds g h k) k) p)
     else appPut ds (headOfF ds g h k t) g h k p) := by
  rw [appendF, hv, hp, hf, inB_t ht.1 ht.2]; rfl
theorem ap_5 (x : Int) (hx : headOfF ds g h k t = x) (hc : x < 0 ∨ blockNextF (blAt ds x.toNat) < 0) (m : Int) (hm : freshBlockF ds g h k = m) (hm0 : m < 0) : appendF ds g h k t p = ⟨ds, g, h, k, -1⟩ := by
  rw [ap_in ds g h k t p hv ht hp hf, hx, hm, if_pos hc, if_pos hm0]
theorem ap_6 (x : Int) (hx : headOfF ds g h k t = x) (hc : x < 0 ∨ blockNextF (blAt ds x.toNat) < 0) (m : Int) (hm : freshBlockF ds g h k = m) (hm0 : ¬ m < 0) : appendF ds g h k t p = appPut ds m (setG t m g) (setH t m h) (setK t m k) p := by
  rw [ap_in ds g h k t p hv ht hp hf, hx, hm, if_pos hc, if_neg hm0]
theorem ap_7 (x : Int) (hx : headOfF ds g h k t = x) (hc : ¬ (x < 0 ∨ blockNextF (blAt ds x.toNat) < 0)) : appendF ds g h k t p = appPut ds x g h k p := by
  rw [ap_in ds g h k t p hv ht hp hf, hx, if_neg hc]
end

/-- what an append that is in form gives: nothing new, or a page put into block m, which is the head of its kind then -/
theorem ap_all (ds : List Bl) (n : Nat) (g h k t : Int) (p : Pg) (hl : ds.length = n) (hv : headsValidF ds g h k = true) (ht : 0 ≤ t ∧ t ≤ 2) (hp : pageValidF p = true) (hf : p.full = true) :
    appendF ds g h k t p = ⟨ds, g, h, k, -1⟩ ∨ ∃ (m j : Nat) (g' h' k' : Int), Put ds n m j p ∧ appendF ds g h k t p = ⟨putF ds m j p, g', h', k', (m : Int) * 4 + (j : Int)⟩ ∧ headsValidF (putF ds m j p) g' h' k' = true ∧
      headOfF (putF ds m j p) g' h' k' t = (m : Int) ∧ ∀ o, 0 ≤ o → o ≤ 2 → o ≠ t → headOfF (putF ds m j p) g' h' k' o = headOfF ds g h k o := by
  obtain ⟨hd, hg, hh, hk, n1, n2, n3⟩ := hv_in ds n g h k hl hv
  have hob := ho_b ds n g h k t hl hv
  by_cases hc : headOfF ds g h k t < 0 ∨ blockNextF (blAt ds (headOfF ds g h k t).toNat) < 0
  · by_cases hm0 : freshBlockF ds g h k < 0
    · exact Or.inl (ap_5 ds g h k t p hv ht hp hf _ rfl hc _ rfl hm0)
    · obtain ⟨m, hm, hmn, hfr⟩ := fb_in ds n g h k hl (by omega)
      obtain ⟨hbn, e1, e2, e3⟩ := fa_in ds g h k m hfr
      have H : Put ds n m 0 p := ⟨hl, hd, hmn, hp, hf, hbn⟩
      refine Or.inr ⟨m, 0, setG t m g, setH t m h, setK t m k, H, ?_, ?_, ?_, ?_⟩
      · rw [ap_6 ds g h k t p hv ht hp hf _ rfl hc _ hm (by omega), appPut, H.eq]
      · refine hv_all _ n _ _ _ H.length H.valid ?_
        unfold setG setH setK
        have ht3 : t = 0 ∨ t = 1 ∨ t = 2 := by omega
        rcases ht3 with rfl | rfl | rfl <;> simp <;> omega
      · have hv2 : headsValidF (putF ds m 0 p) (setG t m g) (setH t m h) (setK t m k) = true := by
          refine hv_all _ n _ _ _ H.length H.valid ?_
          unfold setG setH setK
          have ht3 : t = 0 ∨ t = 1 ∨ t = 2 := by omega
          rcases ht3 with rfl | rfl | rfl <;> simp <;> omega
        rw [ho_2 _ _ _ _ _ hv2]
        unfold setG setH setK
        have ht3 : t = 0 ∨ t = 1 ∨ t = 2 := by omega
        rcases ht3 with rfl | rfl | rfl <;> simp
      · intro o h0 h1 h2
        have hv2 : headsValidF (putF ds m 0 p) (setG t m g) (setH t m h) (setK t m k) = true := by
          refine hv_all _ n _ _ _ H.length H.valid ?_
          unfold setG setH setK
          have ht3 : t = 0 ∨ t = 1 ∨ t = 2 := by omega
          rcases ht3 with rfl | rfl | rfl <;> simp <;> omega
        rw [ho_2 _ _ _ _ _ hv2, ho_2 _ _ _ _ _ hv]
        unfold setG setH setK
        have ht3 : t = 0 ∨ t = 1 ∨ t = 2 := by omega
        have ho3 : o = 0 ∨ o = 1 ∨ o = 2 := by omega
        rcases ht3 with rfl | rfl | rfl <;> rcases ho3 with rfl | rfl | rfl <;> simp at h2 ⊢
  · obtain ⟨m, hm⟩ : ∃ m : Nat, headOfF ds g h k t = (m : Int) := ⟨(headOfF ds g h k t).toNat, by omega⟩
    rw [hm, Int.toNat_natCast] at hc
    obtain ⟨j, hj⟩ : ∃ j : Nat, blockNextF (blAt ds m) = (j : Int) := ⟨(blockNextF (blAt ds m)).toNat, by omega⟩
    have H : Put ds n m j p := ⟨hl, hd, by omega, hp, hf, hj⟩
    have hv2 : headsValidF (putF ds m j p) g h k = true := hv_all _ n _ _ _ H.length H.valid ⟨hg, hh, hk, n1, n2, n3⟩
    refine Or.inr ⟨m, j, g, h, k, H, ?_, hv2, ?_, ?_⟩
    · rw [ap_7 ds g h k t p hv ht hp hf _ hm (by rw [Int.toNat_natCast]; exact hc), appPut, H.eq]
    · rw [ho_2 _ _ _ _ _ hv2, ← ho_2 ds g h k t hv, hm]
    · intro o _ _ _
      rw [ho_2 _ _ _ _ _ hv2, ho_2 ds g h k o hv]
attribute [irreducible] appendF setG setH setK putF appPut
end Go.Proofs.Yteekikaebmkioaa
