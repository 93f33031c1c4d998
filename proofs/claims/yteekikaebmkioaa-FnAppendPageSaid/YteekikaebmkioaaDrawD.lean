/- What the reference's draw of a device gives: a device that can be read, in new memory. -/
import Derived.Test.YteekikaebmkioaaDevSt
import Derived.Deep.DrawnRows
namespace Go.Proofs.Yteekikaebmkioaa
open Go.RowKit
set_option linter.unusedVariables false
attribute [local go_sem ↓] Go.wp_at_zero Go.wp_at_succ

theorem own_keepK {w w' : World} {base e size n g : Nat} {v : Value} {xs : List Value} (h : w.ownsRow base e size v n xs) (hK : Kp g w w') (hg : g < base) : w'.ownsRow base e size v n xs := by
  refine ⟨h.1, ?_⟩
  rcases h.2 with h0 | ⟨b, cap, cur, e1, e2, e3, e4⟩
  · exact Or.inl h0
  · exact Or.inr ⟨b, cap, cur, e1, e2, (hK.block b (Array.getElem?_eq_some_iff.1 e3).1 (fun e => by injection e with e5; omega)).trans e3, e4⟩
theorem HdSt.grownH {w wx wy : World} {g n c M M0 H : Nat} {A : Option Addr} {g1 h1 k1 : Int} {row : Option Nat} (h : HdSt w wx g A n c M H g1 h1 k1) (h0 : Rdr w g A n c M0) (hg : wx.grownBy wy row) (hr : ∀ q, row = some q → w.heap.size < q ∧ q ≠ H) : HdSt w wy g A n c M H g1 h1 k1 := by
  have hlt := h0.lt
  have hH := h.hH
  have hHs := h.hHs
  exact h.other h0 (h.kp.grown hg (fun q hq => Nat.le_of_lt (hr q hq).1)) hg.size (hg.block _ (by omega) (fun e => by have := (hr _ e.symm).1; omega)) (hg.block _ (by omega) (fun e => by have := (hr _ e.symm).1; omega)) (hg.block _ hHs (fun e => (hr _ e.symm).2 rfl))

theorem HdSt.poke {w wx : World} {g n c M M0 H : Nat} {A : Option Addr} {g1 h1 k1 : Int} (h : HdSt w wx g A n c M H g1 h1 k1) (h0 : Rdr w g A n c M0) {b : Nat} (hb : w.heap.size < b) (hbH : b ≠ H) (o : Nat) (v : Value) : HdSt w (wx.setCell ⟨b, o, none⟩ v) g A n c M H g1 h1 k1 := by
  have hlt := h0.lt
  exact h.other h0 (h.kp.setCell (p := ⟨b, o, none⟩) (Or.inr (Nat.le_of_lt hb)) _) (by rw [World.size_setCell]; exact Nat.le_refl _) (Below.heap_setCell _ _ _ _ (by simp; omega)) (Below.heap_setCell _ _ _ _ (by simp; omega)) (Below.heap_setCell _ _ _ _ (by simp; omega))
theorem flat2_congr (ds es : List Bl) (G C : Nat → Nat) (k : Nat) (h : ∀ i, i < k → blAt ds i = blAt es i) : flat2 ds G C k = flat2 es G C k := by
  unfold flat2
  refine List.map_congr_left fun j hj => ?_
  rw [List.mem_range] at hj
  rw [h (j / 2) (by omega)]
theorem own_lo {w : World} {base e n g c : Nat} {xs : List Value} (h : w.ownsRow base e 2 (.slice (some ⟨g, 0, none⟩) n c) n xs) : base ≤ g := by
  rcases h.2 with ⟨h0, _⟩ | ⟨b, cap, cur, e1, e2, _⟩
  · cases h0
  · simp only [Value.slice.injEq, Option.some.injEq, Addr.mk.injEq, and_true, true_and] at e1
    omega
theorem own_hi {w : World} {base e n g c : Nat} {xs : List Value} (h : w.ownsRow base e 2 (.slice (some ⟨g, 0, none⟩) n c) n xs) : g < w.heap.size := by
  rcases h.2 with ⟨h0, _⟩ | ⟨b, cap, cur, e1, e2, e3, _⟩
  · cases h0
  · simp only [Value.slice.injEq, Option.some.injEq, Addr.mk.injEq, and_true, true_and] at e1
    have := (Array.getElem?_eq_some_iff.1 e3).1
    omega
theorem own_neH {w : World} {base e n g c H : Nat} {ds : List Bl} {G C : Nat → Nat} {x : Int} (h : w.ownsRow base e 2 (.slice (some ⟨g, 0, none⟩) n c) n (flat2 ds G C n)) (hn : 0 < n) (hx : w.cell? ⟨H, 1, none⟩ = some (.int .i64 x)) : g ≠ H := by
  intro e2
  subst e2
  rcases h.2 with ⟨h0, _⟩ | ⟨b, cap, cur, e1, _, e3, _, _, _, htake⟩
  · cases h0
  · simp only [Value.slice.injEq, Option.some.injEq, Addr.mk.injEq, and_true, true_and] at e1
    obtain ⟨rfl, rfl⟩ := e1
    have h1 := (flat2_get ds G C n 0 hn).2
    rw [← htake, List.getElem?_take, if_pos (by omega), Array.getElem?_toList, ← cell_of_row w g _ cur _ _ e3, show 0 * 2 + 1 = 1 by omega, hx] at h1
    cases h1
theorem ap_keep (ds : List Bl) (n : Nat) (g h k t : Int) (p : Pg) (hl : ds.length = n) (hv : headsValidF ds g h k = true) (ht : 0 ≤ t ∧ t ≤ 2) (hp : pageValidF p = true) (hf : p.full = true) :
    headsValidF (appendF ds g h k t p).ds (appendF ds g h k t p).g (appendF ds g h k t p).h (appendF ds g h k t p).k = true := by
  rcases ap_all ds n g h k t p hl hv ht hp hf with e | ⟨m, j, g', h', k', _, e, hv', _⟩
  · rw [e]; exact hv
  · rw [e]; exact hv'
theorem mkDv {w X : World} {lo H gd m c : Nat} {G : Nat → Nat} {ds : List Bl} {g h k : Int} (hd : DvRow X lo gd m m G ds) (hc : RowC X gd m c) (hl : w.heap.size + 1 ≤ lo) (hH : H < lo) (hv : headsValidF ds g h k = true) : DvSt w X H gd m c G ds :=
  { row := hd.lower hl, cap := hc, gH := by have := hd.2.1; omega, GH := fun i hi => by have := (hd.2.2.2.2.2 i hi).1; omega, dv := (hv_in ds m g h k hd.1 hv).1 }

set_option maxRecDepth 100000 in
set_option maxHeartbeats 8000000 in
theorem device_any (g : Nat) (A : Option Addr) (n c M : Nat) (N : Int) (w : World) (h : Rdr w g A n c M) (hM : M ≤ 20000) (hN : 0 < N) (hN2 : N ≤ 1000) :
    Calls Try.prog 66 #[.pointer (some ⟨g, 0, none⟩), .int .i64 N] w (DrawnD g A n c (M + 130) w) := by
  have hg := h.lt
  go_enter Try.func66, Try.ntmps66
  go_wp2_with fail
  refine (pick_c g A n c M 4 _ (h.keep (bel_1 _ _)) (by omega) (by omega)).mono ?_
  rintro e w1 ⟨s1, rfl, h10, h11, hR1, hK1⟩
  have hc1 := kcell hK1 (b := w.heap.size) (by simp) (by omega)
  have hf1 := kfroz hK1 (b := w.heap.size) (by simp) (by omega)
  have hz1 : w.heap.size < w1.heap.size := by have := hK1.size; (try simp at this); omega
  have KK1 : Kp g w w1 := (Kp.of_below (bel_1 _ _)).trans hK1
  have e0 : w1.cell? ⟨w.heap.size, 0, none⟩ = some (.int .i64 0) := by rw [hc1]; simp [go_sem]
  have e1 : w1.cell? ⟨w.heap.size, 1, none⟩ = some (.int .i64 0) := by rw [hc1]; simp [go_sem]
  have e2 : w1.cell? ⟨w.heap.size, 2, none⟩ = some (.int .i64 0) := by rw [hc1]; simp [go_sem]
  have ef : ∀ j, w1.frozen? ⟨w.heap.size, j, none⟩ = false := fun j => by rw [hf1]; simp [go_sem]
  obtain ⟨m1, rfl⟩ : ∃ m1 : Nat, s1 = (m1 : Int) := ⟨s1.toNat, by omega⟩
  have hm1 : m1 ≤ 3 := by omega
  obtain ⟨m, hm⟩ : ∃ m, m = 2 + m1 := ⟨_, rfl⟩
  have hm2 : 2 ≤ m := by omega
  have hm5 : m ≤ 5 := by omega
  go_wp2_with fail
  refine (sNewDeviceI _ m (by omega) (by omega) (by omega) _).mono ?_
  rintro e w2 ⟨gd0, G0, c0, rfl, hC0, hD0, hb2⟩
  have HINIT : Hid (HdSt w (w2.alloc (.cells #[.int .i64 (-1), .int .i64 (-1), .int .i64 (-1)] 54)) g A n c (M + 1) w2.heap.size (-1) (-1) (-1) ∧ DvSt w (w2.alloc (.cells #[.int .i64 (-1), .int .i64 (-1), .int .i64 (-1)] 54)) w2.heap.size gd0 m c0 G0 (newDeviceF (m : Int))) := Lib.hid (by
    have hbb : Below w1.heap.size w1 (w2.alloc (.cells #[.int .i64 (-1), .int .i64 (-1), .int .i64 (-1)] 54)) := bel_t hb2 (bel_1 _ _)
    have hs := hb2.size
    have hgd := hD0.2.2.1
    refine ⟨{ rd := hR1.keep hbb, kp := KK1.trans (Kp.of_below hbb), r0 := stays_below hbb _ _ _ e0, r1 := stays_below hbb _ _ _ e1, r2 := stays_below hbb _ _ _ e2, fr := fun j => ((bcell hbb).2 _ _ hz1).trans (ef j), x0 := (by simp [go_sem]), x1 := (by simp [go_sem]), x2 := (by simp [go_sem]), fh := (fun j => by simp [go_sem]), hH := (by omega), hHs := (by simp) }, { row := (hD0.keep (bel_1 _ _)).lower (by omega), cap := hC0.keep (bel_1 _ _), gH := (by omega), GH := (fun i hi => by have := (hD0.2.2.2.2.2 i hi).2.1; omega), dv := nd_valid m (by omega) }⟩)
  clear hb2 hC0 hD0 hK1 hR1 e0 e1 e2 ef KK1 hc1 hf1 hm
  go_wp2_with fail
  have HS0 := Lib.hid HINIT.out.1
  have HD0 := Lib.hid HINIT.out.2
  clear HINIT
  obtain ⟨H, hHe⟩ : ∃ H, H = w2.heap.size := ⟨_, rfl⟩
  generalize w2.alloc (.cells #[.int .i64 (-1), .int .i64 (-1), .int .i64 (-1)] 54) = w3 at *
  rw [← hHe] at HS0 HD0 ⊢
  clear hHe
  refine (pick_c g A n c (M + 1) 20 _ HS0.out.rd (by omega) (by omega)).mono ?_
  rintro e w4 ⟨k0, rfl, hk0, hk1, hR4, hK4⟩
  have HS4 := Lib.hid (HS0.out.step hg hK4 hR4)
  have HD4 := Lib.hid (HD0.out.step hg hK4)
  clear hR4 hK4 HS0 HD0
  obtain ⟨i0, rfl⟩ : ∃ i0 : Nat, k0 = (i0 : Int) := ⟨k0.toNat, by omega⟩
  have hi0 : i0 ≤ 19 := by omega
  clear hk0 hk1
  go_wp2_with fail
  go_loopw [6, 8, 9] (fun x6 x8 x9 wr => ∃ (i s : Nat) (g1 h1 k1 : Int) (gd c' : Nat) (G : Nat → Nat) (ds : List Bl), x6 = .slice (some ⟨gd, 0, none⟩) m c' ∧ x8 = .int .i64 (s : Int) ∧ x9 = .int .i64 (i : Int) ∧ i ≤ 19 ∧ 1 ≤ s ∧ s + i ≤ 20 ∧ Hid (HdSt w wr g A n c (M + 2 + 4 * (19 - i)) H g1 h1 k1) ∧ Hid (DvSt w wr H gd m c' G ds) ∧ Hid (headsValidF ds g1 h1 k1 = true)) (fun _ _ x9 _ => (intOf x9).toNat)
  case atStart => exact ⟨i0, 1, -1, -1, -1, gd0, c0, G0, _, rfl, rfl, rfl, hi0, by omega, by omega, Lib.hid (HS4.out.mono (by omega)), HD4, Lib.hid (hv_none _ m HD4.out.len HD4.out.dv)⟩
  case round =>
    obtain ⟨i, s, g1, h1, k1, gd, c', G, ds, rfl, rfl, rfl, hi, hs1, hsi, HS, HD, HV⟩ := hrel
    by_cases hi0 : i = 0
    · subst hi0
      clear HS4 HD4 HV
      go_wp2_with fail
      refine (pick_c g A n c (M + 2 + 4 * (19 - 0)) 3 _ HS.out.rd (by omega) (by omega)).mono ?_
      rintro e w5 ⟨k5, rfl, hk50, hk51, hR5, hK5⟩
      have HS5 := Lib.hid (HS.out.step hg hK5 hR5)
      have HD5 := Lib.hid (HD.out.step hg hK5)
      clear hR5 hK5 HS HD
      obtain ⟨i5, rfl⟩ : ∃ i5 : Nat, k5 = (i5 : Int) := ⟨k5.toNat, by omega⟩
      have hi5 : i5 ≤ 2 := by omega
      clear hk50 hk51
      go_wp2_with fail
      go_loopw [13] (fun x13 wr => ∃ (i : Nat) (ds : List Bl), x13 = .int .i64 (i : Int) ∧ i ≤ 2 ∧ Hid (HdSt w wr g A n c (M + 79 + 3 * (2 - i)) H g1 h1 k1) ∧ Hid (DvSt w wr H gd m c' G ds)) (fun x13 _ => (intOf x13).toNat)
      case atStart => exact ⟨i5, ds, rfl, hi5, Lib.hid (HS5.out.mono (by omega)), HD5⟩
      case round =>
        obtain ⟨i, ds, rfl, hi, HS, HD⟩ := hrel
        by_cases hi0 : i = 0
        · subst hi0
          clear HS5 HD5
          go_wp2_with fail
          refine (odd_any g A n c (M + 79 + 3 * (2 - 0)) N _ HS.out.rd (by omega) hN hN2).mono ?_
          rintro e w6 ⟨b, rfl, hR6, hK6⟩
          have HS6 := Lib.hid (HS.out.step hg hK6 hR6)
          have HD6 := Lib.hid (HD.out.step hg hK6)
          clear hR6 hK6 HS HD
          go_upto_if 64 with fail
          go_cut [6] (fun x6 wx => ∃ (A' : Option Addr) (m' c'' : Nat) (ds' : List Bl), x6 = .slice A' m' c'' ∧ m' ≤ c'' ∧ DevFr wx (w.heap.size + 1) A' m' ds' ∧ HdSt w wx g A n c (M + 130) H g1 h1 k1)
          case first =>
            have hmc := HD6.out.cap
            have hmc' : m ≤ c' := by obtain ⟨_, _, q, _⟩ := hmc; exact q
            clear hmc
            cases b
            · go_wp2_with fail
              go_meet
              exact ⟨_, m, c', ds, rfl, hmc', HD6.out.fr, HS6.out.mono (by omega)⟩
            · go_wp2_with fail
              refine (pick_c g A n c (M + 79 + 3 * (2 - 0) + 1) 3 _ HS6.out.rd (by omega) (by omega)).mono ?_
              rintro e w7 ⟨s7, rfl, h70, h71, hR7, hK7⟩
              have HS7 := Lib.hid (HS6.out.step hg hK7 hR7)
              have HD7 := Lib.hid (HD6.out.step hg hK7)
              clear hR7 hK7 HS6 HD6
              have h4 : ∀ i, i < m → (blAt ds i).pages.length = 4 := fun i hi => bv_len _ (dv_at ds m i HD7.out.len HD7.out.dv hi)
              obtain ⟨C, hO, hrows⟩ := own_of_row HD7.out.row HD7.out.cap h4
              have HO := Lib.hid hO
              have HRW := Lib.hid hrows
              clear hO hrows h4
              obtain ⟨ti, hi', hzz⟩ := Option.map_eq_some_iff.1 infoBlock
              simp only [Prod.mk.injEq] at hzz
              obtain ⟨hz0, hz1', hz2⟩ := hzz
              have HI := Lib.hid hi'
              have HZ0 := Lib.hid hz0
              have HZ1 := Lib.hid hz1'
              have HZ2 := Lib.hid hz2
              clear hi' hz0 hz1' hz2
              have hgdw := HD7.out.row.2.1
              have hgds := HD7.out.row.2.2.1
              have hH := HS7.out.hH
              have hHs := HS7.out.hHs
              have hgH := HD7.out.gH
              have hs7 : s7 = 0 ∨ s7 = 1 ∨ s7 = 2 := by omega
              rcases hs7 with rfl | rfl | rfl
              · go_wp2_with fail
                refine (block_any g A n c (M + 79 + 3 * (2 - 0) + 1 + 1) 1 _ HS7.out.rd (by omega) (by omega) (by omega)).mono ?_
                rintro e w8 ⟨z, A8, m8, c8, ps, rfl, hmc8, hP8, hR8, hK8⟩
                have hw78 := hK8.size
                have HS8 := Lib.hid (HS7.out.step hg hK8 hR8)
                have HP8 := Lib.hid (hP8.keep (bel_1 w8 (.cells #[.int .i64 z, .slice A8 m8 c8] 25)))
                have HS9 := Lib.hid (HS8.out.step hg (Kp.of_below (bel_1 w8 (.cells #[.int .i64 z, .slice A8 m8 c8] 25))) (HS8.out.rd.keep (bel_1 _ _)))
                have HD9 := Lib.hid ((HD7.out.step hg hK8).step hg (Kp.of_below (g := g) (bel_1 w8 (.cells #[.int .i64 z, .slice A8 m8 c8] 25))))
                have HRW9 := Lib.hid (fun i (hi : i < m) => ((HRW.out i hi).2.2.keepK hK8 (by have := (HRW.out i hi).1; omega)).keep (bel_1 w8 (.cells #[.int .i64 z, .slice A8 m8 c8] 25)))
                have HO1 : Hid ((w8.alloc (.cells #[.int .i64 z, .slice A8 m8 c8] 25)).ownsRow (w.heap.size + 1) 25 2 (.slice (some ⟨gd, 0, none⟩) m c') m (flat2 ds G C m)) := Lib.hid (own_keepK (own_keepK HO.out hK8 (by omega)) (Kp.of_below (g := g) (bel_1 _ _)) (by omega))
                have hsz9 : w.heap.size + 1 ≤ (w8.alloc (.cells #[.int .i64 z, .slice A8 m8 c8] 25)).heap.size := by simp; omega
                have hgw : gd < w8.heap.size := by omega
                clear hP8 hR8 hK8 HS8
                go_wp2_with (refine wpList_append_own _ rfl (.tmp 76) (.tmp 79) 41 rfl (w.heap.size + 1) 25 ti (.agg #[.int .i64 0, .slice none 0 0]) 2 32 Try.underlying41 HI.out HZ0.out HZ1.out HZ2.out rfl (by decide) _ m (flat2 ds G C m) rfl HO1.out ⟨w8.heap.size, 0, none⟩ 1 1 [.int .i64 z, .slice A8 m8 c8] rfl rfl (cell_two _ _ _ _) (fun x hx => by simp at hx; rcases hx with rfl | rfl <;> rfl) (by unfold maxLen; omega) (by omega) (by omega) ?_; intro v' w9 hown' hgrow' hnil')
                have HO3 := Lib.hid hown'
                have HG3 : Hid (World.grownBy (w8.alloc (.cells #[.int .i64 z, .slice A8 m8 c8] 25)) w9 (some gd)) := Lib.hid hgrow'
                clear hown' hgrow' hnil'
                have hfr := fr_of_own (n := m + 1) (ds := ds ++ [⟨z, ps⟩]) HO3.out (by omega) (by omega) (by simp [HD9.out.len]) (fun i hi => by
                  rw [blAt_append ds _ m i HD9.out.len hi]
                  by_cases e : i = m
                  · subst e
                    rw [if_pos rfl]
                    refine ⟨A8, m8, c8, ?_, ?_, (HP8.out.grown HG3.out ?_).lower (by omega)⟩
                    · rw [List.getElem?_append_right (by rw [flat2_len]; omega), flat2_len, show i * 2 - i * 2 = 0 by omega]; rfl
                    · rw [List.getElem?_append_right (by rw [flat2_len]; omega), flat2_len, show i * 2 + 1 - i * 2 = 1 by omega]; rfl
                    · intro b hb
                      simp only [ne_eq, Option.some.injEq]
                      omega
                  · rw [if_neg e]
                    obtain ⟨q1, q2⟩ := flat2_get ds G C m i (by omega)
                    refine ⟨some ⟨G i, 0, none⟩, 4, C i, ?_, ?_, ?_⟩
                    · rw [List.getElem?_append_left (by rw [flat2_len]; omega)]; exact q1
                    · rw [List.getElem?_append_left (by rw [flat2_len]; omega)]; exact q2
                    · exact ((HRW9.out i (by omega)).grown HG3.out (by simp only [ne_eq, Option.some.injEq]; exact fun e2 => (HD9.out.row.2.2.2.2.2 i (by omega)).2.2.1 e2.symm)).fr (HRW.out i (by omega)).1)
                obtain ⟨A9, c9, rfl, hmc9, hfr⟩ := hfr
                have HFR := Lib.hid hfr
                clear hfr
                go_wp2_with fail
                go_meet
                exact ⟨A9, m + 1, c9, _, rfl, hmc9, HFR.out, (HS9.out.grownH h HG3.out (by simp only [Option.some.injEq]; exact fun q hq => by subst hq; exact ⟨by omega, hgH⟩)).mono (by omega)⟩
              · go_wp2_with fail
                go_meet
                exact ⟨_, 0, 0, [], rfl, Nat.le_refl _, DevFr.nil _ _ _, (HS7.out.step hg (Kp.of_below (bel_1 _ _)) (HS7.out.rd.keep (bel_1 _ _))).mono (by omega)⟩
              · go_wp2_with fail
                obtain ⟨DS, hDS⟩ : ∃ DS, DS = ds ++ List.replicate (13 - m) (⟨0, [Pg.zero, Pg.zero, Pg.zero, Pg.zero]⟩ : Bl) := ⟨_, rfl⟩
                have hDl : DS.length = 13 := by rw [hDS, List.length_append, List.length_replicate, HD7.out.len]; omega
                have hD1 : ∀ i, i < m → blAt DS i = blAt ds i := fun i hi => by rw [hDS]; simp [blAt, List.getD, List.getElem?_append_left (show i < ds.length by rw [HD7.out.len]; exact hi)]
                have hD2 : ∀ i, m ≤ i → i < 13 → blAt DS i = ⟨0, [Pg.zero, Pg.zero, Pg.zero, Pg.zero]⟩ := fun i h1 h2 => by
                  have h3 := HD7.out.len
                  rw [hDS]
                  simp [blAt, List.getD, List.getElem?_append_right (show ds.length ≤ i by omega), h3, show i - m < 13 - m by omega]
                have HDL := Lib.hid hDl
                have HD2 := Lib.hid hD2
                have HOX : Hid (w7.ownsRow (w.heap.size + 1) 25 2 (.slice (some ⟨gd, 0, none⟩) m c') m (flat2 DS G C m) ∧ ∀ i, i < m → w.heap.size + 1 ≤ G i ∧ PgRow w7 (G i) 4 (blAt DS i).pages) := Lib.hid ⟨by rw [flat2_congr DS ds G C m hD1]; exact HO.out, fun i hi => by rw [hD1 i hi]; exact ⟨(HRW.out i hi).1, (HRW.out i hi).2.2⟩⟩
                clear hDS hDl hD1 hD2 HO HRW
                go_loopg [6] (13 - m) (fun gk v wr => ∃ (k gd c' : Nat) (G C : Nat → Nat), gk + k = 13 ∧ k ≤ 13 ∧ m ≤ k ∧ v = .slice (some ⟨gd, 0, none⟩) k c' ∧ Hid (wr.ownsRow (w.heap.size + 1) 25 2 (.slice (some ⟨gd, 0, none⟩) k c') k (flat2 DS G C k) ∧ ∀ i, i < k → w.heap.size + 1 ≤ G i ∧ PgRow wr (G i) 4 (blAt DS i).pages) ∧ Hid (HdSt w wr g A n c (M + 79 + 3 * (2 - 0) + 1 + 1) H g1 h1 k1))
                case atStart => exact ⟨m, gd, c', G, C, by omega, by omega, by omega, rfl, HOX.out, HS7.out⟩
                case round =>
                  obtain ⟨k, gd, c', G, C, hgk, hk, hmk, rfl, HQ, HS⟩ := hrel
                  clear HOX HS7 HD7
                  have hgH : gd ≠ H := own_neH HQ.out.1 (by omega) HS.out.x1
                  have hgdw : w.heap.size + 1 ≤ gd := own_lo HQ.out.1
                  have hgds : gd < wr.heap.size := own_hi HQ.out.1
                  by_cases hkn : k = 13
                  · subst hkn
                    obtain ⟨A9, c9, e9, hmc9, hfr⟩ := fr_of_own (n := 13) (ds := DS) HQ.out.1 (by omega) (by omega) HDL.out (fun i hi => by
                      obtain ⟨q1, q2⟩ := flat2_get DS G C 13 i hi
                      exact ⟨_, 4, C i, q1, q2, (HQ.out.2 i hi).2.fr (HQ.out.2 i hi).1⟩)
                    rw [e9]
                    have HFR := Lib.hid hfr
                    clear hfr e9
                    go_wp2_with fail
                    go_meet
                    exact ⟨A9, 13, c9, DS, rfl, hmc9, HFR.out, HS.out.mono (by omega)⟩
                  · have hkl : (k : Int) ≤ 12 := by omega
                    go_wp2_with fail
                    refine (sNewBlockC _ (by omega) _).mono ?_
                    rintro e w8 ⟨q8, c8, rfl, hc8, hq8, hrow8, hb8⟩
                    have HX := Lib.hid (bel_t hb8 (bel_1 w8 (.cells #[.int .i64 0, .slice (some ⟨q8, 0, none⟩) 4 c8] 25)))
                    have HO1 := Lib.hid (own_keep HQ.out.1 HX.out)
                    have HR1 := Lib.hid (hrow8.keep (bel_1 w8 (.cells #[.int .i64 0, .slice (some ⟨q8, 0, none⟩) 4 c8] 25)))
                    have HG1 : Hid (∀ i, i < k → PgRow (w8.alloc (.cells #[.int .i64 0, .slice (some ⟨q8, 0, none⟩) 4 c8] 25)) (G i) 4 (blAt DS i).pages) := Lib.hid (fun i hi => (HQ.out.2 i hi).2.keep HX.out)
                    have HS1 := Lib.hid (HS.out.step hg (Kp.of_below HX.out) (HS.out.rd.keep HX.out))
                    have hsz : w.heap.size + 1 ≤ wr.heap.size := by omega
                    have hsz1 : wr.heap.size ≤ (w8.alloc (.cells #[.int .i64 0, .slice (some ⟨q8, 0, none⟩) 4 c8] 25)).heap.size := HX.out.size
                    clear hb8 hrow8
                    go_wp2_with (refine wpList_append_own _ rfl (.tmp 70) (.tmp 72) 41 rfl (w.heap.size + 1) 25 ti (.agg #[.int .i64 0, .slice none 0 0]) 2 32 Try.underlying41 HI.out HZ0.out HZ1.out HZ2.out rfl (by decide) _ k (flat2 DS G C k) rfl HO1.out ⟨w8.heap.size, 0, none⟩ 1 1 [.int .i64 0, .slice (some ⟨q8, 0, none⟩) 4 c8] rfl rfl (cell_two _ _ _ _) (fun x hx => by simp at hx; rcases hx with rfl | rfl <;> rfl) (by unfold maxLen; omega) (by omega) (by omega) ?_; intro v' w9 hown' hgrow' hnil')
                    have HO3 := Lib.hid hown'
                    have HG3 : Hid (World.grownBy (w8.alloc (.cells #[.int .i64 0, .slice (some ⟨q8, 0, none⟩) 4 c8] 25)) w9 (some gd)) := Lib.hid hgrow'
                    clear hown' hgrow' hnil'
                    obtain ⟨gd', c9, rfl⟩ : ∃ gd' c9, v' = .slice (some ⟨gd', 0, none⟩) (k + 1) c9 := by
                      rcases HO3.out.2 with ⟨_, h0⟩ | ⟨x1, x2, _, x3, _⟩
                      · omega
                      · exact ⟨x1, x2, x3⟩
                    go_wp2
                    go_roundg (gk - 1)
                    case rel =>
                      rw [flat2_succ DS G C k q8 c8 0 (by rw [HD2.out k (by omega) (by omega)])] at HO3
                      refine ⟨k + 1, gd', c9, _, _, by omega, by omega, by omega, rfl, ⟨HO3.out, fun i hi => ?_⟩, HS1.out.grownH h HG3.out (by simp only [Option.some.injEq]; exact fun q hq => by subst hq; exact ⟨by omega, hgH⟩)⟩
                      by_cases e : i = k
                      · subst e
                        simp only [↓reduceIte, HD2.out i (by omega) (by omega)]
                        exact ⟨by omega, HR1.out.grown HG3.out (by simp only [ne_eq, Option.some.injEq]; omega)⟩
                      · simp only [if_neg e]
                        exact ⟨(HQ.out.2 i (by omega)).1, (HG1.out i (by omega)).grown HG3.out (own_ne HQ.out.1 (by omega) (HQ.out.2 i (by omega)).2)⟩
                    case measure => omega
          case rest =>
            obtain ⟨A', m', c'', ds', rfl, hmc, hfr, hst⟩ := hcut
            obtain ⟨w7, rfl⟩ : ∃ x, x = wc := ⟨_, rfl⟩
            have HST := Lib.hid hst
            have HFR := Lib.hid hfr
            clear hst hfr HS6 HD6
            have x0 := HST.out.x0
            have x1 := HST.out.x1
            have x2 := HST.out.x2
            have r0 := HST.out.r0
            have r1 := HST.out.r1
            have r2 := HST.out.r2
            have f0 := HST.out.fr 0
            have f1 := HST.out.fr 1
            have f2 := HST.out.fr 2
            have hH := HST.out.hH
            have hHs := HST.out.hHs
            go_wp2_with fail
            refine reg_beginS (S := fun w' => w'.cell? ⟨H, 0, none⟩ = some (.int .i64 g1) ∧ w'.cell? ⟨H, 1, none⟩ = some (.int .i64 h1) ∧ w'.cell? ⟨H, 2, none⟩ = some (.int .i64 k1)) ⟨x0, x1, x2⟩ (by kernel_rfl) (fun hHeld => ?_)
            refine reg_take 0 84 (v := ?_) rfl rfl (by kernel_rfl) (by kernel_rfl) (by kernel_rfl) (fun _ _ _ h => h) (Or.inl ⟨by rfl, ?_⟩) hHeld ?_
            rotate_left 1
            · intro wS hSw; go_simp <;> with_reducible rfl
            simp only [put_lit, List.set_cons_zero, List.set_cons_succ]
            refine reg_take 1 85 (v := ?_) rfl rfl (by kernel_rfl) (by kernel_rfl) (by kernel_rfl) (fun _ _ _ h => h) (Or.inl ⟨by rfl, ?_⟩) hHeld ?_
            rotate_left 1
            · intro wS hSw; obtain ⟨q0, q1, q2⟩ := hSw; go_simp <;> with_reducible rfl
            simp only [put_lit, List.set_cons_zero, List.set_cons_succ]
            refine reg_take 2 4 (v := ?_) rfl rfl (by kernel_rfl) (by kernel_rfl) (by kernel_rfl) (fun _ _ _ h => h) (Or.inl ⟨by rfl, ?_⟩) hHeld ?_
            rotate_left 1
            · intro wS hSw; go_simp <;> with_reducible rfl
            simp only [put_lit, List.set_cons_zero, List.set_cons_succ]
            refine wpAnyH_ready (rs := [3]) (by kernel_rfl) (by simp) ?_
            refine AllReadyH.cons rfl (fun K hK => ?_) AllReadyH.nil
            go_simp
            refine hK.out _ _ ?_ (fun hHeld => ?_)
            · exact ⟨by go_simp, by go_simp, by go_simp⟩
            clear hK K
            (try simp only [put_lit, List.set_cons_zero, List.set_cons_succ])
            refine wpAnyH_done (by kernel_rfl) ?_ _
            go_wp2
            refine bodyPost_ret (v := .tuple #[.slice A' m' c'', .agg #[.int .i64 g1, .int .i64 h1, .int .i64 k1]]) (by simp [results, Try.results66, go_sem, r0, r1, r2]) rfl ?_
            exact drawnD h (HST.out.step hg ((Kp.refl g w7).drewN 1) (HST.out.rd.keep (Below.refl _ _).drew)) hmc (HFR.out.keepK (g := g) ((Kp.refl g w7).drewN 1) (by omega))
        · have hiI : (0 : Int) < (i : Int) := by omega
          go_wp2_with fail
          refine (pick_c g A n c (M + 79 + 3 * (2 - i)) (m : Int) _ HS.out.rd (by omega) (by omega)).mono ?_
          rintro e w6 ⟨y0, rfl, hy0, hy1, hR6, hK6⟩
          have HS6 := Lib.hid (HS.out.step hg hK6 hR6)
          have HD6 := Lib.hid (HD.out.step hg hK6)
          clear hR6 hK6 HS HD HS5 HD5
          obtain ⟨y, rfl⟩ : ∃ y : Nat, y0 = (y : Int) := ⟨y0.toNat, by omega⟩
          have hy : y < m := by omega
          go_wp2_with fail
          refine (pick_c g A n c (M + 79 + 3 * (2 - i) + 1) 12 _ HS6.out.rd (by omega) (by omega)).mono ?_
          rintro e w7 ⟨v7, rfl, hv0, hv1, hR7, hK7⟩
          have HS7 := Lib.hid (HS6.out.step hg hK7 hR7)
          have HD7 := Lib.hid (HD6.out.step hg hK7)
          clear hR7 hK7 HS6 HD6
          have hH := HS7.out.hH
          have hHs := HS7.out.hHs
          go_wp2_with fail
          refine (pick_c g A n c (M + 79 + 3 * (2 - i) + 1 + 1) 9 _ (HS7.out.rd.keep (bel_1 _ _)) (by omega) (by omega)).mono ?_
          rintro e w8 ⟨t8, rfl, ht0, ht1, hR8, hK8⟩
          have hcA := kcell hK8 (b := w7.heap.size) (by simp) (by omega)
          have hK78 := (Kp.of_below (g := g) (bel_1 w7 (.cells #[.int .i64 v7, .int .i64 100] 3))).trans hK8
          have HS8 := Lib.hid (HS7.out.step hg hK78 hR8)
          have HD8 := Lib.hid (HD7.out.step hg hK78)
          clear hR8 hK8 hK78 HS7 HD7
          obtain ⟨o0, o1, d0, d1⟩ := HD8.out.row.2.2.2.2.1 y hy
          have df := HD8.out.row.2.2.2.1 (y * 2)
          have hgH := HD8.out.gH
          have hgd := HD8.out.row.2.1
          have hgs := HD8.out.row.2.2.1
          by_cases h8 : t8 = 8
          · subst h8
            have HSX := Lib.hid (HS8.out.poke h (b := gd) (by omega) hgH (y * 2) (.int .i64 100))
            have HDX := Lib.hid (HD8.out.wear y hy 100 (by omega))
            go_wp2_with fail
            go_round
            case rel => exact ⟨i - 1, _, by go_num, by omega, Lib.hid (HSX.out.mono (by omega)), HDX⟩
            case measure => simp [intOf]; omega
          · have hq1 : t8 / 8 = 0 := by omega
            have hq2 : t8.tdiv 8 = 0 := by rw [Int.tdiv_eq_ediv_of_nonneg ht0]; exact hq1
            have HSX := Lib.hid (HS8.out.poke h (b := gd) (by omega) hgH (y * 2) (.int .i64 v7))
            have HDX := Lib.hid (HD8.out.wear y hy v7 (by omega))
            go_wp2_with fail
            go_round
            case rel => exact ⟨i - 1, _, by go_num, by omega, Lib.hid (HSX.out.mono (by omega)), HDX⟩
            case measure => simp [intOf]; omega
    · have hiI : (0 : Int) < (i : Int) := by omega
      clear HS4 HD4
      go_upto_region 7 with fail
      have hH := HS.out.hH
      have hHs := HS.out.hHs
      have hHg : H ≠ g := by omega
      have x0 := HS.out.x0
      have x1 := HS.out.x1
      have x2 := HS.out.x2
      go_cut [10, 11] (fun xa xb wx => ∃ (gd2 c2 X : Nat) (G2 : Nat → Nat) (ds2 : List Bl) (g2 h2 k2 : Int), xa = .slice (some ⟨gd2, 0, none⟩) m c2 ∧ xb = .pointer (some ⟨X, 0, none⟩) ∧ HdSt w wx g A n c ((M + 2 + 4 * (19 - i)) + 4) H g1 h1 k1 ∧ DvSt w wx H gd2 m c2 G2 ds2 ∧ headsValidF ds2 g2 h2 k2 = true ∧ X ≠ H ∧ wx.cell? ⟨X, 0, none⟩ = some (.int .i64 g2) ∧ wx.cell? ⟨X, 1, none⟩ = some (.int .i64 h2) ∧ wx.cell? ⟨X, 2, none⟩ = some (.int .i64 k2))
      case first =>
        have HRD : Hid (Rdr wr.drew g A n c (M + 2 + 4 * (19 - i))) := Lib.hid (HS.out.rd.keep (Below.refl _ _).drew)
        refine reg_beginK g (by kernel_rfl) (fun hHeld => ?_)
        refine reg_take 0 26 (v := ?_) rfl rfl (by kernel_rfl) (by kernel_rfl) (by kernel_rfl) (fun _ _ _ h => h) (Or.inl ⟨by rfl, ?_⟩) hHeld ?_
        rotate_left 1
        · intro wS hSw; go_simp <;> with_reducible rfl
        simp only [put_lit, List.set_cons_zero, List.set_cons_succ]
        refine reg_take 1 27 (v := ?_) rfl rfl (by kernel_rfl) (by kernel_rfl) (by kernel_rfl) (fun _ _ _ h => h) (Or.inl ⟨by rfl, ?_⟩) hHeld ?_
        rotate_left 1
        · intro wS hSw; have q0 := (kcellS hSw H 0 hHs hHg).trans x0; have q1 := (kcellS hSw H 1 hHs hHg).trans x1; have q2 := (kcellS hSw H 2 hHs hHg).trans x2; go_simp <;> with_reducible rfl
        simp only [put_lit, List.set_cons_zero, List.set_cons_succ]
        refine reg_take 2 28 (v := ?_) rfl rfl (by kernel_rfl) (by kernel_rfl) (by kernel_rfl) (fun _ _ _ h => h) (Or.inl ⟨by rfl, ?_⟩) hHeld ?_
        rotate_left 1
        · intro wS hSw; go_simp <;> with_reducible rfl
        simp only [put_lit, List.set_cons_zero, List.set_cons_succ]
        refine reg_take 4 30 (v := ?_) rfl rfl (by kernel_rfl) (by kernel_rfl) (by kernel_rfl) (fun _ _ _ h => h) (Or.inl ⟨by rfl, ?_⟩) hHeld ?_
        rotate_left 1
        · intro wS hSw; go_simp <;> with_reducible rfl
        simp only [put_lit, List.set_cons_zero, List.set_cons_succ]
        refine reg_take 5 31 (v := ?_) rfl rfl (by kernel_rfl) (by kernel_rfl) (by kernel_rfl) (fun _ _ _ h => h) (Or.inl ⟨by rfl, ?_⟩) hHeld ?_
        rotate_left 1
        · intro wS hSw; go_simp <;> with_reducible rfl
        simp only [put_lit, List.set_cons_zero, List.set_cons_succ]
        refine wpAnyH_ready (rs := [3, 12]) (by kernel_rfl) (by simp) ?_
        refine AllReadyH.cons rfl (fun K hK => ?_) ?_
        · skip
          go_simp
          refine (pick_c g A n c (M + 2 + 4 * (19 - i)) 3 _ (by first | exact HRD.out | exact HRD.out.keep (bel_1 _ _)) (by omega) (by omega)).mono ?_
          rintro e wk1 ⟨t1, rfl, h10', h11', hR1, hbk1⟩
          have HR1 := Lib.hid hR1
          clear hR1
          have hnk1 : wr.heap.size ≤ wk1.heap.size := Nat.le_trans hHeld.size hbk1.size
          go_wp2_with fail
          refine hK.out _ _ ?_ (fun hHeld => ?_)
          · exact hHeld.trans hbk1
          clear hK K
          (try simp only [put_lit, List.set_cons_zero, List.set_cons_succ])
          refine wpAnyH_ready (rs := [6, 12]) (by kernel_rfl) (by simp) ?_
          refine AllReadyH.cons rfl (fun K hK => ?_) ?_
          · skip
            go_simp
            refine (full_any g A n c ((M + 2 + 4 * (19 - i)) + 1) _ _ (by first | exact HR1.out | exact HR1.out.keep (bel_1 _ _)) (by omega)).mono ?_
            rintro e wk2 ⟨fi, pl, va, rfl, hfi, hpl, hva, hR2, hbk2⟩
            have HR2 := Lib.hid hR2
            clear hR2
            have hnk2 : wr.heap.size ≤ wk2.heap.size := Nat.le_trans hHeld.size hbk2.size
            go_wp2_with fail
            refine hK.out _ _ ?_ (fun hHeld => ?_)
            · exact hHeld.trans hbk2
            clear hK K
            (try simp only [put_lit, List.set_cons_zero, List.set_cons_succ])
            refine wpAnyH_ready (rs := [7, 12]) (by kernel_rfl) (by simp) ?_
            refine AllReadyH.cons rfl (fun K hK => ?_) ?_
            · skip
              go_simp
              have hpv := pg_full fi pl va (s : Int) hfi hpl hva (by omega)
              refine (sAppendPageC _ _ _ ds _ _ _ _ _ _ _ _ _ ((HD.out.row.keepK hHeld (by omega)).at (by omega)) HV.out (by omega) hpv).mono ?_
              have hkeep := ap_keep ds m g1 h1 k1 t1 ⟨true, fi, pl, va, (s : Int)⟩ HD.out.len HV.out (by omega) hpv rfl
              obtain ⟨⟨E, g2, h2, k2, at2⟩, HE⟩ : ∃ r, Hid (appendF ds g1 h1 k1 t1 ⟨true, fi, pl, va, (s : Int)⟩ = r) := ⟨_, rfl⟩
              rw [HE.out] at hkeep ⊢
              simp only [] at hkeep ⊢
              have HKP := Lib.hid hkeep
              clear hkeep
              have hlo := hHeld.size
              rintro e wk3 ⟨gq, Gq, cq, rfl, hCq, hDq, hBk3⟩
              have HCQ := Lib.hid hCq
              have HDQ := Lib.hid hDq
              have hgq := hDq.2.1
              have hgqs := hDq.2.2.1
              have HR3 : Hid (Rdr wk3 g A n c ((M + 2 + 4 * (19 - i)) + 4)) := Lib.hid (by first | exact HR2.out.keep hBk3 | exact (HR2.out.keep (bel_1 _ _)).keep hBk3)
              have hbk3 := Kp.of_below (g := g) hBk3
              have hnk3 : wr.heap.size ≤ wk3.heap.size := Nat.le_trans hHeld.size hbk3.size
              clear hCq hDq
              go_wp2_with fail
              refine hK.out _ _ ?_ (fun hHeld => ?_)
              · exact hHeld.trans hbk3
              clear hK K
              (try simp only [put_lit, List.set_cons_zero, List.set_cons_succ])
              refine reg_take 8 25 (v := ?_) rfl rfl (by kernel_rfl) (by kernel_rfl) (by kernel_rfl) (fun _ _ _ h => h) (Or.inl ⟨by rfl, ?_⟩) hHeld ?_
              rotate_left 1
              · intro wS hSw; go_simp <;> with_reducible rfl
              simp only [put_lit, List.set_cons_zero, List.set_cons_succ]
              refine reg_take 9 34 (v := ?_) rfl rfl (by kernel_rfl) (by kernel_rfl) (by kernel_rfl) (fun _ _ _ h => h) (Or.inl ⟨by rfl, ?_⟩) hHeld ?_
              rotate_left 1
              · intro wS hSw; go_simp <;> with_reducible rfl
              simp only [put_lit, List.set_cons_zero, List.set_cons_succ]
              refine reg_take 10 35 (v := ?_) rfl rfl (by kernel_rfl) (by kernel_rfl) (by kernel_rfl) (fun _ _ _ h => h) (Or.inl ⟨by rfl, ?_⟩) hHeld ?_
              rotate_left 1
              · intro wS hSw; go_simp <;> with_reducible rfl
              simp only [put_lit, List.set_cons_zero, List.set_cons_succ]
              refine reg_take 11 36 (v := ?_) rfl rfl (by kernel_rfl) (by kernel_rfl) (by kernel_rfl) (fun _ _ _ h => h) (Or.inl ⟨by rfl, ?_⟩) hHeld ?_
              rotate_left 1
              · intro wS hSw; go_simp <;> with_reducible rfl
              simp only [put_lit, List.set_cons_zero, List.set_cons_succ]
              refine wpAnyH_ready (rs := [12]) (by kernel_rfl) (by simp) ?_
              refine AllReadyH.cons rfl (fun K hK => ?_) AllReadyH.nil
              go_simp
              refine hK.out _ _ ?_ (fun hHeld => ?_)
              · exact hHeld.alloc _
              clear hK K
              (try simp only [put_lit, List.set_cons_zero, List.set_cons_succ])
              refine reg_take 13 10 (v := ?_) rfl rfl (by kernel_rfl) (by kernel_rfl) (by kernel_rfl) (fun _ _ _ h => h) (Or.inl ⟨by rfl, ?_⟩) hHeld ?_
              rotate_left 1
              · intro wS hSw; go_simp <;> with_reducible rfl
              simp only [put_lit, List.set_cons_zero, List.set_cons_succ]
              refine wpAnyH_ready (rs := [14]) (by kernel_rfl) (by simp) ?_
              refine AllReadyH.cons rfl (fun K hK => ?_) AllReadyH.nil
              go_simp
              refine hK.out _ _ ?_ (fun hHeld => ?_)
              · first | exact kp_swap hHeld (by first | with_reducible assumption | exact Nat.le_refl _ | (simp; done) | (simp; omega) | omega) _ | exact ((hHeld.setCell (p := ⟨_, 0, none⟩) (Or.inr (by first | with_reducible assumption | exact Nat.le_refl _ | (simp; done) | (simp; omega) | omega)) _).setCell (p := ⟨_, 1, none⟩) (Or.inr (by first | with_reducible assumption | exact Nat.le_refl _ | (simp; done) | (simp; omega) | omega)) _).setCell (p := ⟨_, 2, none⟩) (Or.inr (by first | with_reducible assumption | exact Nat.le_refl _ | (simp; done) | (simp; omega) | omega)) _
              clear hK K
              (try simp only [put_lit, List.set_cons_zero, List.set_cons_succ])
              refine reg_take 15 12 (v := ?_) rfl rfl (by kernel_rfl) (by kernel_rfl) (by kernel_rfl) (fun _ _ _ h => h) (Or.inl ⟨by rfl, ?_⟩) hHeld ?_
              rotate_left 1
              · intro wS hSw; go_simp <;> with_reducible rfl
              simp only [put_lit, List.set_cons_zero, List.set_cons_succ]
              refine wpAnyH_done (by kernel_rfl) ?_ _
              obtain ⟨X, eX⟩ := leafK hHeld
              have y0 : X.cell? ⟨wk3.heap.size, 0, none⟩ = some (.int .i64 g2) := by rw [eX]; go_simp
              have y1 : X.cell? ⟨wk3.heap.size, 1, none⟩ = some (.int .i64 h2) := by rw [eX]; go_simp
              have y2 : X.cell? ⟨wk3.heap.size, 2, none⟩ = some (.int .i64 k2) := by rw [eX]; go_simp
              have hGH : wk3.heap.size ≠ H := by first | omega | (simp; omega)
              have RX : Rdr X g A n c ((M + 2 + 4 * (19 - i)) + 4) := by rw [eX]; exact h.final HR3.out (by first | exact Below.heap_alloc _ _ _ (by omega) | (rw [Below.heap_setCell _ _ _ _ (by simp; omega), Below.heap_setCell _ _ _ _ (by simp; omega), Below.heap_setCell _ _ _ _ (by simp; omega)])) (HS.out.kp.trans hHeld)
              have SX : DvSt w X H gq m cq Gq E := by rw [eX]; first | exact mkDv (HDQ.out.keep (bel_1 _ _)) (HCQ.out.keep (bel_1 _ _)) (by omega) (by omega) HKP.out | exact mkDv (((HDQ.out.setLow (a := ⟨wk3.heap.size, 0, none⟩) (by first | with_reducible assumption | exact Nat.le_refl _ | (simp; done) | (simp; omega) | omega) _).setLow (a := ⟨wk3.heap.size, 1, none⟩) (by first | with_reducible assumption | exact Nat.le_refl _ | (simp; done) | (simp; omega) | omega) _).setLow (a := ⟨wk3.heap.size, 2, none⟩) (by first | with_reducible assumption | exact Nat.le_refl _ | (simp; done) | (simp; omega) | omega) _) (((HCQ.out.setCell _ _ _).setCell _ _ _).setCell _ _ _) (by omega) (by omega) HKP.out
              rw [← eX] at hHeld ⊢
              clear eX
              go_wp2_with fail
              go_meet
              exact ⟨gq, cq, wk3.heap.size, Gq, E, g2, h2, k2, rfl, rfl, HS.out.step hg hHeld RX, SX, HKP.out, hGH, y0, y1, y2⟩
            refine AllReadyH.cons rfl (fun K hK => ?_) AllReadyH.nil
            go_simp
            refine hK.out _ _ ?_ (fun hHeld => ?_)
            · exact hHeld.alloc _
            clear hK K
            (try simp only [put_lit, List.set_cons_zero, List.set_cons_succ])
            refine wpAnyH_ready (rs := [7]) (by kernel_rfl) (by simp) ?_
            refine AllReadyH.cons rfl (fun K hK => ?_) AllReadyH.nil
            go_simp
            have hpv := pg_full fi pl va (s : Int) hfi hpl hva (by omega)
            refine (sAppendPageC _ _ _ ds _ _ _ _ _ _ _ _ _ ((HD.out.row.keepK hHeld (by omega)).at (by omega)) HV.out (by omega) hpv).mono ?_
            have hkeep := ap_keep ds m g1 h1 k1 t1 ⟨true, fi, pl, va, (s : Int)⟩ HD.out.len HV.out (by omega) hpv rfl
            obtain ⟨⟨E, g2, h2, k2, at2⟩, HE⟩ : ∃ r, Hid (appendF ds g1 h1 k1 t1 ⟨true, fi, pl, va, (s : Int)⟩ = r) := ⟨_, rfl⟩
            rw [HE.out] at hkeep ⊢
            simp only [] at hkeep ⊢
            have HKP := Lib.hid hkeep
            clear hkeep
            have hlo := hHeld.size
            rintro e wk7 ⟨gq, Gq, cq, rfl, hCq, hDq, hBk7⟩
            have HCQ := Lib.hid hCq
            have HDQ := Lib.hid hDq
            have hgq := hDq.2.1
            have hgqs := hDq.2.2.1
            have HR3 : Hid (Rdr wk7 g A n c ((M + 2 + 4 * (19 - i)) + 4)) := Lib.hid (by first | exact HR2.out.keep hBk7 | exact (HR2.out.keep (bel_1 _ _)).keep hBk7)
            have hbk7 := Kp.of_below (g := g) hBk7
            have hnk7 : wr.heap.size ≤ wk7.heap.size := Nat.le_trans hHeld.size hbk7.size
            clear hCq hDq
            have hGak7 : ∀ o, wk7.cell? ⟨wk2.heap.size, o, none⟩ = (#[.int .i64 0, .int .i64 0, .int .i64 0] : Array Value)[o]? := fun o => ((kcellB hbk7).1 _ o (by first | (simp; omega) | omega)).trans (by simp [go_sem])
            have hGak7f : ∀ o, wk7.frozen? ⟨wk2.heap.size, o, none⟩ = false := fun o => ((kcellB hbk7).2 _ o (by first | (simp; omega) | omega)).trans (by simp [go_sem])
            have hGak7s : wk2.heap.size < wk7.heap.size := Nat.lt_of_lt_of_le (by simp) hbk7.size
            go_wp2_with fail
            refine hK.out _ _ ?_ (fun hHeld => ?_)
            · exact hHeld.trans hbk7
            clear hK K
            (try simp only [put_lit, List.set_cons_zero, List.set_cons_succ])
            refine reg_take 8 25 (v := ?_) rfl rfl (by kernel_rfl) (by kernel_rfl) (by kernel_rfl) (fun _ _ _ h => h) (Or.inl ⟨by rfl, ?_⟩) hHeld ?_
            rotate_left 1
            · intro wS hSw; go_simp <;> with_reducible rfl
            simp only [put_lit, List.set_cons_zero, List.set_cons_succ]
            refine reg_take 9 34 (v := ?_) rfl rfl (by kernel_rfl) (by kernel_rfl) (by kernel_rfl) (fun _ _ _ h => h) (Or.inl ⟨by rfl, ?_⟩) hHeld ?_
            rotate_left 1
            · intro wS hSw; go_simp <;> with_reducible rfl
            simp only [put_lit, List.set_cons_zero, List.set_cons_succ]
            refine reg_take 10 35 (v := ?_) rfl rfl (by kernel_rfl) (by kernel_rfl) (by kernel_rfl) (fun _ _ _ h => h) (Or.inl ⟨by rfl, ?_⟩) hHeld ?_
            rotate_left 1
            · intro wS hSw; go_simp <;> with_reducible rfl
            simp only [put_lit, List.set_cons_zero, List.set_cons_succ]
            refine reg_take 11 36 (v := ?_) rfl rfl (by kernel_rfl) (by kernel_rfl) (by kernel_rfl) (fun _ _ _ h => h) (Or.inl ⟨by rfl, ?_⟩) hHeld ?_
            rotate_left 1
            · intro wS hSw; go_simp <;> with_reducible rfl
            simp only [put_lit, List.set_cons_zero, List.set_cons_succ]
            refine reg_take 13 10 (v := ?_) rfl rfl (by kernel_rfl) (by kernel_rfl) (by kernel_rfl) (fun _ _ _ h => h) (Or.inl ⟨by rfl, ?_⟩) hHeld ?_
            rotate_left 1
            · intro wS hSw; go_simp <;> with_reducible rfl
            simp only [put_lit, List.set_cons_zero, List.set_cons_succ]
            refine wpAnyH_ready (rs := [14]) (by kernel_rfl) (by simp) ?_
            refine AllReadyH.cons rfl (fun K hK => ?_) AllReadyH.nil
            go_simp
            refine hK.out _ _ ?_ (fun hHeld => ?_)
            · first | exact kp_swap hHeld (by first | with_reducible assumption | exact Nat.le_refl _ | (simp; done) | (simp; omega) | omega) _ | exact ((hHeld.setCell (p := ⟨_, 0, none⟩) (Or.inr (by first | with_reducible assumption | exact Nat.le_refl _ | (simp; done) | (simp; omega) | omega)) _).setCell (p := ⟨_, 1, none⟩) (Or.inr (by first | with_reducible assumption | exact Nat.le_refl _ | (simp; done) | (simp; omega) | omega)) _).setCell (p := ⟨_, 2, none⟩) (Or.inr (by first | with_reducible assumption | exact Nat.le_refl _ | (simp; done) | (simp; omega) | omega)) _
            clear hK K
            (try simp only [put_lit, List.set_cons_zero, List.set_cons_succ])
            refine reg_take 15 12 (v := ?_) rfl rfl (by kernel_rfl) (by kernel_rfl) (by kernel_rfl) (fun _ _ _ h => h) (Or.inl ⟨by rfl, ?_⟩) hHeld ?_
            rotate_left 1
            · intro wS hSw; go_simp <;> with_reducible rfl
            simp only [put_lit, List.set_cons_zero, List.set_cons_succ]
            refine wpAnyH_done (by kernel_rfl) ?_ _
            obtain ⟨X, eX⟩ := leafK hHeld
            have y0 : X.cell? ⟨wk2.heap.size, 0, none⟩ = some (.int .i64 g2) := by rw [eX]; go_simp
            have y1 : X.cell? ⟨wk2.heap.size, 1, none⟩ = some (.int .i64 h2) := by rw [eX]; go_simp
            have y2 : X.cell? ⟨wk2.heap.size, 2, none⟩ = some (.int .i64 k2) := by rw [eX]; go_simp
            have hGH : wk2.heap.size ≠ H := by first | omega | (simp; omega)
            have RX : Rdr X g A n c ((M + 2 + 4 * (19 - i)) + 4) := by rw [eX]; exact h.final HR3.out (by first | exact Below.heap_alloc _ _ _ (by omega) | (rw [Below.heap_setCell _ _ _ _ (by simp; omega), Below.heap_setCell _ _ _ _ (by simp; omega), Below.heap_setCell _ _ _ _ (by simp; omega)])) (HS.out.kp.trans hHeld)
            have SX : DvSt w X H gq m cq Gq E := by rw [eX]; first | exact mkDv (HDQ.out.keep (bel_1 _ _)) (HCQ.out.keep (bel_1 _ _)) (by omega) (by omega) HKP.out | exact mkDv (((HDQ.out.setLow (a := ⟨wk2.heap.size, 0, none⟩) (by first | with_reducible assumption | exact Nat.le_refl _ | (simp; done) | (simp; omega) | omega) _).setLow (a := ⟨wk2.heap.size, 1, none⟩) (by first | with_reducible assumption | exact Nat.le_refl _ | (simp; done) | (simp; omega) | omega) _).setLow (a := ⟨wk2.heap.size, 2, none⟩) (by first | with_reducible assumption | exact Nat.le_refl _ | (simp; done) | (simp; omega) | omega) _) (((HCQ.out.setCell _ _ _).setCell _ _ _).setCell _ _ _) (by omega) (by omega) HKP.out
            rw [← eX] at hHeld ⊢
            clear eX
            go_wp2_with fail
            go_meet
            exact ⟨gq, cq, wk2.heap.size, Gq, E, g2, h2, k2, rfl, rfl, HS.out.step hg hHeld RX, SX, HKP.out, hGH, y0, y1, y2⟩
          refine AllReadyH.cons rfl (fun K hK => ?_) AllReadyH.nil
          go_simp
          refine hK.out _ _ ?_ (fun hHeld => ?_)
          · exact hHeld.alloc _
          clear hK K
          (try simp only [put_lit, List.set_cons_zero, List.set_cons_succ])
          refine wpAnyH_ready (rs := [6]) (by kernel_rfl) (by simp) ?_
          refine AllReadyH.cons rfl (fun K hK => ?_) AllReadyH.nil
          go_simp
          refine (full_any g A n c ((M + 2 + 4 * (19 - i)) + 1) _ _ (by first | exact HR1.out | exact HR1.out.keep (bel_1 _ _)) (by omega)).mono ?_
          rintro e wk10 ⟨fi, pl, va, rfl, hfi, hpl, hva, hR2, hbk10⟩
          have HR2 := Lib.hid hR2
          clear hR2
          have hnk10 : wr.heap.size ≤ wk10.heap.size := Nat.le_trans hHeld.size hbk10.size
          have hGak10 : ∀ o, wk10.cell? ⟨wk1.heap.size, o, none⟩ = (#[.int .i64 0, .int .i64 0, .int .i64 0] : Array Value)[o]? := fun o => ((kcellB hbk10).1 _ o (by first | (simp; omega) | omega)).trans (by simp [go_sem])
          have hGak10f : ∀ o, wk10.frozen? ⟨wk1.heap.size, o, none⟩ = false := fun o => ((kcellB hbk10).2 _ o (by first | (simp; omega) | omega)).trans (by simp [go_sem])
          have hGak10s : wk1.heap.size < wk10.heap.size := Nat.lt_of_lt_of_le (by simp) hbk10.size
          go_wp2_with fail
          refine hK.out _ _ ?_ (fun hHeld => ?_)
          · exact hHeld.trans hbk10
          clear hK K
          (try simp only [put_lit, List.set_cons_zero, List.set_cons_succ])
          refine wpAnyH_ready (rs := [7]) (by kernel_rfl) (by simp) ?_
          refine AllReadyH.cons rfl (fun K hK => ?_) AllReadyH.nil
          go_simp
          have hpv := pg_full fi pl va (s : Int) hfi hpl hva (by omega)
          refine (sAppendPageC _ _ _ ds _ _ _ _ _ _ _ _ _ ((HD.out.row.keepK hHeld (by omega)).at (by omega)) HV.out (by omega) hpv).mono ?_
          have hkeep := ap_keep ds m g1 h1 k1 t1 ⟨true, fi, pl, va, (s : Int)⟩ HD.out.len HV.out (by omega) hpv rfl
          obtain ⟨⟨E, g2, h2, k2, at2⟩, HE⟩ : ∃ r, Hid (appendF ds g1 h1 k1 t1 ⟨true, fi, pl, va, (s : Int)⟩ = r) := ⟨_, rfl⟩
          rw [HE.out] at hkeep ⊢
          simp only [] at hkeep ⊢
          have HKP := Lib.hid hkeep
          clear hkeep
          have hlo := hHeld.size
          rintro e wk11 ⟨gq, Gq, cq, rfl, hCq, hDq, hBk11⟩
          have HCQ := Lib.hid hCq
          have HDQ := Lib.hid hDq
          have hgq := hDq.2.1
          have hgqs := hDq.2.2.1
          have HR3 : Hid (Rdr wk11 g A n c ((M + 2 + 4 * (19 - i)) + 4)) := Lib.hid (by first | exact HR2.out.keep hBk11 | exact (HR2.out.keep (bel_1 _ _)).keep hBk11)
          have hbk11 := Kp.of_below (g := g) hBk11
          have hnk11 : wr.heap.size ≤ wk11.heap.size := Nat.le_trans hHeld.size hbk11.size
          clear hCq hDq
          have hGak11 : ∀ o, wk11.cell? ⟨wk1.heap.size, o, none⟩ = (#[.int .i64 0, .int .i64 0, .int .i64 0] : Array Value)[o]? := fun o => ((kcellB hbk11).1 _ o ⟨hGak10s, by omega⟩).trans (hGak10 o)
          have hGak11f : ∀ o, wk11.frozen? ⟨wk1.heap.size, o, none⟩ = false := fun o => ((kcellB hbk11).2 _ o ⟨hGak10s, by omega⟩).trans (hGak10f o)
          have hGak11s : wk1.heap.size < wk11.heap.size := Nat.lt_of_lt_of_le hGak10s hbk11.size
          go_wp2_with fail
          refine hK.out _ _ ?_ (fun hHeld => ?_)
          · exact hHeld.trans hbk11
          clear hK K
          (try simp only [put_lit, List.set_cons_zero, List.set_cons_succ])
          refine reg_take 8 25 (v := ?_) rfl rfl (by kernel_rfl) (by kernel_rfl) (by kernel_rfl) (fun _ _ _ h => h) (Or.inl ⟨by rfl, ?_⟩) hHeld ?_
          rotate_left 1
          · intro wS hSw; go_simp <;> with_reducible rfl
          simp only [put_lit, List.set_cons_zero, List.set_cons_succ]
          refine reg_take 9 34 (v := ?_) rfl rfl (by kernel_rfl) (by kernel_rfl) (by kernel_rfl) (fun _ _ _ h => h) (Or.inl ⟨by rfl, ?_⟩) hHeld ?_
          rotate_left 1
          · intro wS hSw; go_simp <;> with_reducible rfl
          simp only [put_lit, List.set_cons_zero, List.set_cons_succ]
          refine reg_take 10 35 (v := ?_) rfl rfl (by kernel_rfl) (by kernel_rfl) (by kernel_rfl) (fun _ _ _ h => h) (Or.inl ⟨by rfl, ?_⟩) hHeld ?_
          rotate_left 1
          · intro wS hSw; go_simp <;> with_reducible rfl
          simp only [put_lit, List.set_cons_zero, List.set_cons_succ]
          refine reg_take 11 36 (v := ?_) rfl rfl (by kernel_rfl) (by kernel_rfl) (by kernel_rfl) (fun _ _ _ h => h) (Or.inl ⟨by rfl, ?_⟩) hHeld ?_
          rotate_left 1
          · intro wS hSw; go_simp <;> with_reducible rfl
          simp only [put_lit, List.set_cons_zero, List.set_cons_succ]
          refine reg_take 13 10 (v := ?_) rfl rfl (by kernel_rfl) (by kernel_rfl) (by kernel_rfl) (fun _ _ _ h => h) (Or.inl ⟨by rfl, ?_⟩) hHeld ?_
          rotate_left 1
          · intro wS hSw; go_simp <;> with_reducible rfl
          simp only [put_lit, List.set_cons_zero, List.set_cons_succ]
          refine wpAnyH_ready (rs := [14]) (by kernel_rfl) (by simp) ?_
          refine AllReadyH.cons rfl (fun K hK => ?_) AllReadyH.nil
          go_simp
          refine hK.out _ _ ?_ (fun hHeld => ?_)
          · first | exact kp_swap hHeld (by first | with_reducible assumption | exact Nat.le_refl _ | (simp; done) | (simp; omega) | omega) _ | exact ((hHeld.setCell (p := ⟨_, 0, none⟩) (Or.inr (by first | with_reducible assumption | exact Nat.le_refl _ | (simp; done) | (simp; omega) | omega)) _).setCell (p := ⟨_, 1, none⟩) (Or.inr (by first | with_reducible assumption | exact Nat.le_refl _ | (simp; done) | (simp; omega) | omega)) _).setCell (p := ⟨_, 2, none⟩) (Or.inr (by first | with_reducible assumption | exact Nat.le_refl _ | (simp; done) | (simp; omega) | omega)) _
          clear hK K
          (try simp only [put_lit, List.set_cons_zero, List.set_cons_succ])
          refine reg_take 15 12 (v := ?_) rfl rfl (by kernel_rfl) (by kernel_rfl) (by kernel_rfl) (fun _ _ _ h => h) (Or.inl ⟨by rfl, ?_⟩) hHeld ?_
          rotate_left 1
          · intro wS hSw; go_simp <;> with_reducible rfl
          simp only [put_lit, List.set_cons_zero, List.set_cons_succ]
          refine wpAnyH_done (by kernel_rfl) ?_ _
          obtain ⟨X, eX⟩ := leafK hHeld
          have y0 : X.cell? ⟨wk1.heap.size, 0, none⟩ = some (.int .i64 g2) := by rw [eX]; go_simp
          have y1 : X.cell? ⟨wk1.heap.size, 1, none⟩ = some (.int .i64 h2) := by rw [eX]; go_simp
          have y2 : X.cell? ⟨wk1.heap.size, 2, none⟩ = some (.int .i64 k2) := by rw [eX]; go_simp
          have hGH : wk1.heap.size ≠ H := by first | omega | (simp; omega)
          have RX : Rdr X g A n c ((M + 2 + 4 * (19 - i)) + 4) := by rw [eX]; exact h.final HR3.out (by first | exact Below.heap_alloc _ _ _ (by omega) | (rw [Below.heap_setCell _ _ _ _ (by simp; omega), Below.heap_setCell _ _ _ _ (by simp; omega), Below.heap_setCell _ _ _ _ (by simp; omega)])) (HS.out.kp.trans hHeld)
          have SX : DvSt w X H gq m cq Gq E := by rw [eX]; first | exact mkDv (HDQ.out.keep (bel_1 _ _)) (HCQ.out.keep (bel_1 _ _)) (by omega) (by omega) HKP.out | exact mkDv (((HDQ.out.setLow (a := ⟨wk1.heap.size, 0, none⟩) (by first | with_reducible assumption | exact Nat.le_refl _ | (simp; done) | (simp; omega) | omega) _).setLow (a := ⟨wk1.heap.size, 1, none⟩) (by first | with_reducible assumption | exact Nat.le_refl _ | (simp; done) | (simp; omega) | omega) _).setLow (a := ⟨wk1.heap.size, 2, none⟩) (by first | with_reducible assumption | exact Nat.le_refl _ | (simp; done) | (simp; omega) | omega) _) (((HCQ.out.setCell _ _ _).setCell _ _ _).setCell _ _ _) (by omega) (by omega) HKP.out
          rw [← eX] at hHeld ⊢
          clear eX
          go_wp2_with fail
          go_meet
          exact ⟨gq, cq, wk1.heap.size, Gq, E, g2, h2, k2, rfl, rfl, HS.out.step hg hHeld RX, SX, HKP.out, hGH, y0, y1, y2⟩
        refine AllReadyH.cons rfl (fun K hK => ?_) AllReadyH.nil
        go_simp
        refine hK.out _ _ ?_ (fun hHeld => ?_)
        · exact hHeld.alloc _
        clear hK K
        (try simp only [put_lit, List.set_cons_zero, List.set_cons_succ])
        refine wpAnyH_ready (rs := [3]) (by kernel_rfl) (by simp) ?_
        refine AllReadyH.cons rfl (fun K hK => ?_) AllReadyH.nil
        go_simp
        refine (pick_c g A n c (M + 2 + 4 * (19 - i)) 3 _ (by first | exact HRD.out | exact HRD.out.keep (bel_1 _ _)) (by omega) (by omega)).mono ?_
        rintro e wk14 ⟨t1, rfl, h10', h11', hR1, hbk14⟩
        have HR1 := Lib.hid hR1
        clear hR1
        have hnk14 : wr.heap.size ≤ wk14.heap.size := Nat.le_trans hHeld.size hbk14.size
        have hGak14 : ∀ o, wk14.cell? ⟨wr.heap.size, o, none⟩ = (#[.int .i64 0, .int .i64 0, .int .i64 0] : Array Value)[o]? := fun o => ((kcellB hbk14).1 _ o (by first | (simp; omega) | omega)).trans (by simp [go_sem])
        have hGak14f : ∀ o, wk14.frozen? ⟨wr.heap.size, o, none⟩ = false := fun o => ((kcellB hbk14).2 _ o (by first | (simp; omega) | omega)).trans (by simp [go_sem])
        have hGak14s : wr.heap.size < wk14.heap.size := Nat.lt_of_lt_of_le (by simp) hbk14.size
        go_wp2_with fail
        refine hK.out _ _ ?_ (fun hHeld => ?_)
        · exact hHeld.trans hbk14
        clear hK K
        (try simp only [put_lit, List.set_cons_zero, List.set_cons_succ])
        refine wpAnyH_ready (rs := [6]) (by kernel_rfl) (by simp) ?_
        refine AllReadyH.cons rfl (fun K hK => ?_) AllReadyH.nil
        go_simp
        refine (full_any g A n c ((M + 2 + 4 * (19 - i)) + 1) _ _ (by first | exact HR1.out | exact HR1.out.keep (bel_1 _ _)) (by omega)).mono ?_
        rintro e wk15 ⟨fi, pl, va, rfl, hfi, hpl, hva, hR2, hbk15⟩
        have HR2 := Lib.hid hR2
        clear hR2
        have hnk15 : wr.heap.size ≤ wk15.heap.size := Nat.le_trans hHeld.size hbk15.size
        have hGak15 : ∀ o, wk15.cell? ⟨wr.heap.size, o, none⟩ = (#[.int .i64 0, .int .i64 0, .int .i64 0] : Array Value)[o]? := fun o => ((kcellB hbk15).1 _ o ⟨hGak14s, by omega⟩).trans (hGak14 o)
        have hGak15f : ∀ o, wk15.frozen? ⟨wr.heap.size, o, none⟩ = false := fun o => ((kcellB hbk15).2 _ o ⟨hGak14s, by omega⟩).trans (hGak14f o)
        have hGak15s : wr.heap.size < wk15.heap.size := Nat.lt_of_lt_of_le hGak14s hbk15.size
        go_wp2_with fail
        refine hK.out _ _ ?_ (fun hHeld => ?_)
        · exact hHeld.trans hbk15
        clear hK K
        (try simp only [put_lit, List.set_cons_zero, List.set_cons_succ])
        refine wpAnyH_ready (rs := [7]) (by kernel_rfl) (by simp) ?_
        refine AllReadyH.cons rfl (fun K hK => ?_) AllReadyH.nil
        go_simp
        have hpv := pg_full fi pl va (s : Int) hfi hpl hva (by omega)
        refine (sAppendPageC _ _ _ ds _ _ _ _ _ _ _ _ _ ((HD.out.row.keepK hHeld (by omega)).at (by omega)) HV.out (by omega) hpv).mono ?_
        have hkeep := ap_keep ds m g1 h1 k1 t1 ⟨true, fi, pl, va, (s : Int)⟩ HD.out.len HV.out (by omega) hpv rfl
        obtain ⟨⟨E, g2, h2, k2, at2⟩, HE⟩ : ∃ r, Hid (appendF ds g1 h1 k1 t1 ⟨true, fi, pl, va, (s : Int)⟩ = r) := ⟨_, rfl⟩
        rw [HE.out] at hkeep ⊢
        simp only [] at hkeep ⊢
        have HKP := Lib.hid hkeep
        clear hkeep
        have hlo := hHeld.size
        rintro e wk16 ⟨gq, Gq, cq, rfl, hCq, hDq, hBk16⟩
        have HCQ := Lib.hid hCq
        have HDQ := Lib.hid hDq
        have hgq := hDq.2.1
        have hgqs := hDq.2.2.1
        have HR3 : Hid (Rdr wk16 g A n c ((M + 2 + 4 * (19 - i)) + 4)) := Lib.hid (by first | exact HR2.out.keep hBk16 | exact (HR2.out.keep (bel_1 _ _)).keep hBk16)
        have hbk16 := Kp.of_below (g := g) hBk16
        have hnk16 : wr.heap.size ≤ wk16.heap.size := Nat.le_trans hHeld.size hbk16.size
        clear hCq hDq
        have hGak16 : ∀ o, wk16.cell? ⟨wr.heap.size, o, none⟩ = (#[.int .i64 0, .int .i64 0, .int .i64 0] : Array Value)[o]? := fun o => ((kcellB hbk16).1 _ o ⟨hGak15s, by omega⟩).trans (hGak15 o)
        have hGak16f : ∀ o, wk16.frozen? ⟨wr.heap.size, o, none⟩ = false := fun o => ((kcellB hbk16).2 _ o ⟨hGak15s, by omega⟩).trans (hGak15f o)
        have hGak16s : wr.heap.size < wk16.heap.size := Nat.lt_of_lt_of_le hGak15s hbk16.size
        go_wp2_with fail
        refine hK.out _ _ ?_ (fun hHeld => ?_)
        · exact hHeld.trans hbk16
        clear hK K
        (try simp only [put_lit, List.set_cons_zero, List.set_cons_succ])
        refine reg_take 8 25 (v := ?_) rfl rfl (by kernel_rfl) (by kernel_rfl) (by kernel_rfl) (fun _ _ _ h => h) (Or.inl ⟨by rfl, ?_⟩) hHeld ?_
        rotate_left 1
        · intro wS hSw; go_simp <;> with_reducible rfl
        simp only [put_lit, List.set_cons_zero, List.set_cons_succ]
        refine reg_take 9 34 (v := ?_) rfl rfl (by kernel_rfl) (by kernel_rfl) (by kernel_rfl) (fun _ _ _ h => h) (Or.inl ⟨by rfl, ?_⟩) hHeld ?_
        rotate_left 1
        · intro wS hSw; go_simp <;> with_reducible rfl
        simp only [put_lit, List.set_cons_zero, List.set_cons_succ]
        refine reg_take 10 35 (v := ?_) rfl rfl (by kernel_rfl) (by kernel_rfl) (by kernel_rfl) (fun _ _ _ h => h) (Or.inl ⟨by rfl, ?_⟩) hHeld ?_
        rotate_left 1
        · intro wS hSw; go_simp <;> with_reducible rfl
        simp only [put_lit, List.set_cons_zero, List.set_cons_succ]
        refine reg_take 11 36 (v := ?_) rfl rfl (by kernel_rfl) (by kernel_rfl) (by kernel_rfl) (fun _ _ _ h => h) (Or.inl ⟨by rfl, ?_⟩) hHeld ?_
        rotate_left 1
        · intro wS hSw; go_simp <;> with_reducible rfl
        simp only [put_lit, List.set_cons_zero, List.set_cons_succ]
        refine reg_take 13 10 (v := ?_) rfl rfl (by kernel_rfl) (by kernel_rfl) (by kernel_rfl) (fun _ _ _ h => h) (Or.inl ⟨by rfl, ?_⟩) hHeld ?_
        rotate_left 1
        · intro wS hSw; go_simp <;> with_reducible rfl
        simp only [put_lit, List.set_cons_zero, List.set_cons_succ]
        refine wpAnyH_ready (rs := [14]) (by kernel_rfl) (by simp) ?_
        refine AllReadyH.cons rfl (fun K hK => ?_) AllReadyH.nil
        go_simp
        refine hK.out _ _ ?_ (fun hHeld => ?_)
        · first | exact kp_swap hHeld (by first | with_reducible assumption | exact Nat.le_refl _ | (simp; done) | (simp; omega) | omega) _ | exact ((hHeld.setCell (p := ⟨_, 0, none⟩) (Or.inr (by first | with_reducible assumption | exact Nat.le_refl _ | (simp; done) | (simp; omega) | omega)) _).setCell (p := ⟨_, 1, none⟩) (Or.inr (by first | with_reducible assumption | exact Nat.le_refl _ | (simp; done) | (simp; omega) | omega)) _).setCell (p := ⟨_, 2, none⟩) (Or.inr (by first | with_reducible assumption | exact Nat.le_refl _ | (simp; done) | (simp; omega) | omega)) _
        clear hK K
        (try simp only [put_lit, List.set_cons_zero, List.set_cons_succ])
        refine reg_take 15 12 (v := ?_) rfl rfl (by kernel_rfl) (by kernel_rfl) (by kernel_rfl) (fun _ _ _ h => h) (Or.inl ⟨by rfl, ?_⟩) hHeld ?_
        rotate_left 1
        · intro wS hSw; go_simp <;> with_reducible rfl
        simp only [put_lit, List.set_cons_zero, List.set_cons_succ]
        refine wpAnyH_done (by kernel_rfl) ?_ _
        obtain ⟨X, eX⟩ := leafK hHeld
        have y0 : X.cell? ⟨wr.heap.size, 0, none⟩ = some (.int .i64 g2) := by rw [eX]; go_simp
        have y1 : X.cell? ⟨wr.heap.size, 1, none⟩ = some (.int .i64 h2) := by rw [eX]; go_simp
        have y2 : X.cell? ⟨wr.heap.size, 2, none⟩ = some (.int .i64 k2) := by rw [eX]; go_simp
        have hGH : wr.heap.size ≠ H := by first | omega | (simp; omega)
        have RX : Rdr X g A n c ((M + 2 + 4 * (19 - i)) + 4) := by rw [eX]; exact h.final HR3.out (by first | exact Below.heap_alloc _ _ _ (by omega) | (rw [Below.heap_setCell _ _ _ _ (by simp; omega), Below.heap_setCell _ _ _ _ (by simp; omega), Below.heap_setCell _ _ _ _ (by simp; omega)])) (HS.out.kp.trans hHeld)
        have SX : DvSt w X H gq m cq Gq E := by rw [eX]; first | exact mkDv (HDQ.out.keep (bel_1 _ _)) (HCQ.out.keep (bel_1 _ _)) (by omega) (by omega) HKP.out | exact mkDv (((HDQ.out.setLow (a := ⟨wr.heap.size, 0, none⟩) (by first | with_reducible assumption | exact Nat.le_refl _ | (simp; done) | (simp; omega) | omega) _).setLow (a := ⟨wr.heap.size, 1, none⟩) (by first | with_reducible assumption | exact Nat.le_refl _ | (simp; done) | (simp; omega) | omega) _).setLow (a := ⟨wr.heap.size, 2, none⟩) (by first | with_reducible assumption | exact Nat.le_refl _ | (simp; done) | (simp; omega) | omega) _) (((HCQ.out.setCell _ _ _).setCell _ _ _).setCell _ _ _) (by omega) (by omega) HKP.out
        rw [← eX] at hHeld ⊢
        clear eX
        go_wp2_with fail
        go_meet
        exact ⟨gq, cq, wr.heap.size, Gq, E, g2, h2, k2, rfl, rfl, HS.out.step hg hHeld RX, SX, HKP.out, hGH, y0, y1, y2⟩
      case rest =>
        obtain ⟨gd2, c2, X, G2, ds2, g2, h2, k2, rfl, rfl, hst, hdv, hhv, hXH, y0, y1, y2⟩ := hcut
        obtain ⟨w5, rfl⟩ : ∃ x, x = wc := ⟨_, rfl⟩
        have HST := Lib.hid (hst.set h g2 h2 k2)
        have HDV := Lib.hid (hdv.set3 g2 h2 k2)
        have HHV := Lib.hid hhv
        have z0 := hst.x0
        have z1 := hst.x1
        have z2 := hst.x2
        have f0 := hst.fh 0
        have f1 := hst.fh 1
        have f2 := hst.fh 2
        clear hst hdv hhv HS HD HV x0 x1 x2
        go_wp2_with fail
        go_round
        case rel => exact ⟨i - 1, s + 1, g2, h2, k2, gd2, c2, G2, ds2, rfl, by go_num, by go_num, by omega, by omega, by omega, Lib.hid (HST.out.mono (by omega)), HDV, HHV⟩
        case measure => simp [intOf]; omega

end Go.Proofs.Yteekikaebmkioaa
