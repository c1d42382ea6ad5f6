/- Law 4: walk. Printed by gen27l4.py. -/
import Derived.Test.YtjhdhnkikgmpoaaInsL
namespace Go.Proofs.Ytjhdhnkikgmpoaa
open Go.RowKit Go.Deep

/-- two rows of n numbers, and what stands below them -/
structure PairSt (W0 : World) (B D1 D2 n : Nat) (xs ys : List Int) (wr : World) : Prop where
  owns : Owns wr B [iRow D1 n xs, iRow D2 n ys]
  below : Below B W0 wr
section
variable {W0 wr : World} {B D1 D2 n : Nat} {xs ys : List Int}
theorem PairSt.own1 (h : PairSt W0 B D1 D2 n xs ys wr) : wr.ownsRow B 3 1 (.slice (some ⟨D1, 0, none⟩) n n) n (xs.map (.int .i64)) := h.owns.own _ (List.mem_cons_self ..)
theorem PairSt.own2 (h : PairSt W0 B D1 D2 n xs ys wr) : wr.ownsRow B 3 1 (.slice (some ⟨D2, 0, none⟩) n n) n (ys.map (.int .i64)) := h.owns.own _ (List.mem_cons_of_mem _ (List.mem_cons_self ..))
theorem PairSt.len1 (h : PairSt W0 B D1 D2 n xs ys wr) : xs.length = n := by simpa using h.own1.1
theorem PairSt.len2 (h : PairSt W0 B D1 D2 n xs ys wr) : ys.length = n := by simpa using h.own2.1
theorem PairSt.cell1 (h : PairSt W0 B D1 D2 n xs ys wr) {v : Nat} (hv : v < n) : wr.cell? ⟨D1, v, none⟩ = some (.int .i64 (xs.getD v 0)) ∧ wr.frozen? ⟨D1, v, none⟩ = false := by
  refine ⟨?_, World.ownsRow.frozenAt h.own1 v⟩
  rw [World.ownsRow.cellAt h.own1 v (by omega)]
  simp [show v < xs.length by rw [h.len1]; exact hv]
theorem PairSt.cell2 (h : PairSt W0 B D1 D2 n xs ys wr) {v : Nat} (hv : v < n) : wr.cell? ⟨D2, v, none⟩ = some (.int .i64 (ys.getD v 0)) ∧ wr.frozen? ⟨D2, v, none⟩ = false := by
  refine ⟨?_, World.ownsRow.frozenAt h.own2 v⟩
  rw [World.ownsRow.cellAt h.own2 v (by omega)]
  simp [show v < ys.length by rw [h.len2]; exact hv]
theorem PairSt.set1 (h : PairSt W0 B D1 D2 n xs ys wr) (j : Nat) (x : Int) : PairSt W0 B D1 D2 n (xs.set j x) ys (wr.setCell ⟨D1, j, none⟩ (.int .i64 x)) := by
  have h1 := (h.owns.store (i := 0) (by simp) (g := D1) (n := n) (cap := n) (e := 3) (sz := 1) (xs := xs.map (.int .i64)) rfl j (.int .i64 x)).1
  rw [← List.map_set] at h1
  exact ⟨h1, h.below.setCell (p := ⟨D1, j, none⟩) (World.ownsRow.lt h.own1 D1 rfl).1 _⟩
theorem PairSt.set2 (h : PairSt W0 B D1 D2 n xs ys wr) (j : Nat) (x : Int) : PairSt W0 B D1 D2 n xs (ys.set j x) (wr.setCell ⟨D2, j, none⟩ (.int .i64 x)) := by
  have h1 := (h.owns.store (i := 1) (by simp) (g := D2) (n := n) (cap := n) (e := 3) (sz := 1) (xs := ys.map (.int .i64)) rfl j (.int .i64 x)).1
  rw [← List.map_set] at h1
  exact ⟨h1, h.below.setCell (p := ⟨D2, j, none⟩) (World.ownsRow.lt h.own2 D2 rfl).1 _⟩
theorem PairSt.row1 (h : PairSt W0 B D1 D2 n xs ys wr) : IRow wr (some ⟨D1, 0, none⟩) xs := by
  obtain ⟨A, cap, hA, hr⟩ := own_vrow h.own1
  cases hA
  exact hr
theorem PairSt.row2 (h : PairSt W0 B D1 D2 n xs ys wr) : IRow wr (some ⟨D2, 0, none⟩) ys := by
  obtain ⟨A, cap, hA, hr⟩ := own_vrow h.own2
  cases hA
  exact hr
end
theorem pair_new (w : World) (n : Nat) (hn : n ≤ maxLen) : PairSt ((w.alloc (.cells (madeCells #[.int .i64 0] n) 3)).alloc (.cells (madeCells #[.int .i64 0] n) 3)) w.heap.size w.heap.size (w.heap.size + 1) n (List.replicate n 0) (List.replicate n 0) ((w.alloc (.cells (madeCells #[.int .i64 0] n) 3)).alloc (.cells (madeCells #[.int .i64 0] n) 3)) := by
  refine ⟨?_, Below.refl _ _⟩
  have h1 := own_made w (.int .i64 0) n 3 w.heap.size (Nat.le_refl _) hn
  have e1 : (w.alloc (.cells (madeCells #[.int .i64 0] n) 3)).heap.size = w.heap.size + 1 := by simp
  have h2 := own_made (w.alloc (.cells (madeCells #[.int .i64 0] n) 3)) (.int .i64 0) n 3 w.heap.size (by omega) hn
  rw [e1] at h2
  have hF1 : (iRow w.heap.size n (List.replicate n 0)).own ((w.alloc (.cells (madeCells #[.int .i64 0] n) 3)).alloc (.cells (madeCells #[.int .i64 0] n) 3)) w.heap.size := by
    unfold iRow
    rw [List.map_replicate]
    exact World.ownsRow.kept h1 (World.grownBy_alloc _ _ none) (by simp [Value.ownBlock])
  have hF2 : (iRow (w.heap.size + 1) n (List.replicate n 0)).own ((w.alloc (.cells (madeCells #[.int .i64 0] n) 3)).alloc (.cells (madeCells #[.int .i64 0] n) 3)) w.heap.size := by
    unfold iRow
    rw [List.map_replicate]
    exact h2
  refine ⟨fun r hr => ?_, List.pairwise_cons.2 ⟨fun r hr => ?_, List.pairwise_singleton _ _⟩⟩
  · rcases List.mem_cons.1 hr with rfl | hr
    · exact hF1
    · rw [List.mem_singleton.1 hr]; exact hF2
  · rw [List.mem_singleton.1 hr]
    refine Or.inr (Or.inr (fun h => ?_))
    simp [iRow, Value.ownBlock] at h

set_option maxRecDepth 100000 in
set_option maxHeartbeats 1000000 in
theorem law4_any (w : World) (a : Option Addr) (c : Nat) (n : Int) (es : List Ed) (node : Int) (hwf : (Lit.int .u8 node).wf = true) (hr : EdRow w a es) (hn : es.length ≤ maxLen) :
    Calls Try.prog 4 #[.agg #[.int .i64 n, .slice a es.length c], .int .u8 node] w fun e w' => e = .returned (.bool true) ∧ Below w.heap.size w w' := by
  have HR := Lib.hid hr
  unfold maxLen at hn
  clear hr
  have hbox := HBox.box w n a es.length c
  have hB0 : Below w.heap.size w (w.alloc (.cells #[.int .i64 n, .slice a es.length c] 24)) := (Below.refl _ _).alloc (Nat.le_refl _) _
  have HB0 := Lib.hid hB0
  have HBOX := Lib.hid hbox
  clear hbox hB0
  go_enter Try.func4, Try.ntmps4
  go_wp2_with fail
  refine (awake_any _).mono ?_
  rintro e w1 ⟨rfl, hb1⟩
  have HB1 := Lib.hid (HB0.out.trans (hb1.mono (by simp)))
  have hx1 := HBOX.out.below (B := w.heap.size + 1) (by omega) (hb1.mono (by simp))
  have hs1 : w.heap.size < w1.heap.size := by have := hb1.size; simp at this; omega
  have HX1 := Lib.hid hx1
  have HR1 := Lib.hid (HR.out.below (Nat.le_refl _) HB1.out)
  obtain ⟨x0, x1⟩ := hx1
  clear hb1 HBOX

  have hnode : ∃ nn : Nat, node = nn ∧ nn ≤ 255 := by
    simp only [Lit.wf, IntKind.min, IntKind.max, IntKind.signed, IntKind.bits, Bool.and_eq_true] at hwf
    exact ⟨node.toNat, by simp at hwf; omega, by simp at hwf; omega⟩
  obtain ⟨nn, rfl, hnn⟩ := hnode
  clear hwf
  go_wp2_with fail
  refine (small_any _ a c n es HR1.out (by unfold maxLen; omega)).mono ?_
  rintro e w2 ⟨rfl, hb⟩
  have HB2 := Lib.hid (HB1.out.trans (hb.mono (Nat.le_of_lt hs1)))
  have HX2 := Lib.hid (HX1.out.below hs1 hb)
  have hs2 : w.heap.size < w2.heap.size := Nat.lt_of_lt_of_le hs1 hb.size
  have HR2 := Lib.hid (HR1.out.below (Nat.le_refl _) hb)
  clear x0 x1 hb
  obtain ⟨x0, x1⟩ := HX2.out
  cases hsm : smallB n es
  · go_wp2
    go_ret
    exact ⟨rfl, HB2.out⟩
  · obtain ⟨hl60, hl4, m, rfl, hm30, hok, hval⟩ := small_len hsm
    have HOK := Lib.hid hok
    have HOCC := Lib.hid (occ_small hl60 hl4)
    have HVAL := Lib.hid hval
    have hm1 := hok.n1
    clear hsm hl4 hok hval
    obtain ⟨vv, hvv⟩ : ∃ vv, vv = nn % m := ⟨_, rfl⟩
    have hvm : vv < m := by rw [hvv]; exact Nat.mod_lt _ (by omega)
    have ht2 : (nn : Int) % (m : Int) = (vv : Int) := by rw [hvv]; rfl
    have ht1 : (nn : Int).tmod (m : Int) = (vv : Int) := by rw [Int.tmod_eq_emod_of_nonneg (by omega), ht2]
    clear hvv
    have hmz : ((m : Int) == 0) = false := by simp; omega
    have hmk := run_make_row' (P := Try.prog) 35 3 (.int .i64 0) 8 Try.underlying35 info3 rfl .i64 .i64 es.length (by omega) (by omega)
    have hnew := pair_new w2 es.length (by unfold maxLen; omega)
    have h50 : Below w2.heap.size w2 ((w2.alloc (.cells (madeCells #[.int .i64 0] es.length) 3)).alloc (.cells (madeCells #[.int .i64 0] es.length) 3)) := ((Below.refl _ _).alloc (Nat.le_refl _) _).alloc (by simp) _
    have HX6 := Lib.hid (HX2.out.below hs2 h50)
    have HNEW := Lib.hid hnew
    have H50 := Lib.hid h50
    clear hnew h50
    go_upto_region 8 with fail
    clear hmk x0 x1 ht1 ht2 hmz
    obtain ⟨W0, hW0⟩ : ∃ W0, W0 = (w2.alloc (.cells (madeCells #[.int .i64 0] es.length) 3)).alloc (.cells (madeCells #[.int .i64 0] es.length) 3) := ⟨_, rfl⟩
    rw [← hW0] at HNEW HX6 H50 ⊢
    obtain ⟨D, hD⟩ : ∃ D, D = w2.heap.size := ⟨_, rfl⟩
    rw [← hD] at HNEW H50 ⊢
    have hwD : w.heap.size < D := by omega
    have HD := Lib.hid hD
    have HW0 := Lib.hid hW0
    have HBW := Lib.hid (HB2.out.trans (H50.out.mono (Nat.le_of_lt hwD)))
    have HXX := Lib.hid (fun (w' : World) (h : Below D W0 w') => HX6.out.below hwD h)
    have HCC := Lib.hid (fun (w' : World) (h : Below D W0 w') => HBW.out.trans (h.mono (Nat.le_of_lt hwD)))
    clear hW0 hD
    go_wp2_with fail
    go_loopw [8] (fun x8 wr => ∃ (k : Nat) (xs ys : List Int), k ≤ es.length ∧ x8 = .int .i64 (k : Nat) ∧ (∀ i : Nat, i < k → xs.getD i 0 = 1 + (i : Int) % 3) ∧ (∀ (i : Nat) (E : Ed), i < k → es[i]? = some E → ys.getD i 0 = if E.head = (vv : Int) then 2 * (1 + (i : Int) % 3) else 1 + (i : Int) % 3) ∧ PairSt W0 D D (D + 1) es.length xs ys wr) (fun x8 _ => es.length - (intOf x8).toNat)
    case atStart => exact ⟨0, _, _, Nat.zero_le _, rfl, (fun i hi => absurd hi (Nat.not_lt_zero i)), (fun i E hi => absurd hi (Nat.not_lt_zero i)), HNEW.out⟩
    case round =>
      obtain ⟨k, xs, ys, hk, rfl, hx, hy, hst⟩ := hrel
      have HXS := Lib.hid hx
      have HYS := Lib.hid hy
      have HS := Lib.hid hst
      have HL1 := Lib.hid hst.len1
      have HL2 := Lib.hid hst.len2
      clear hx hy hst
      by_cases hkl : k < es.length
      · obtain ⟨hcl1, hfr1⟩ := HS.out.cell1 hkl
        obtain ⟨hcl2, hfr2⟩ := HS.out.cell2 hkl
        have hk0 : ¬ ((k : Int) < 0) := by omega
        obtain ⟨b, o, hab, hb, hc⟩ := HR.out.at hkl
        have HE := Lib.hid (show es[k]? = some es[k] from List.getElem?_eq_getElem hkl)
        generalize es[k] = E at *
        go_upto_region 12 with fail
        have hst1 := (HS.out.set1 k (1 + (k : Int) % 3)).set2 k (1 + (k : Int) % 3)
        clear hcl1 hfr1 hcl2 hfr2
        generalize (wr.setCell ⟨D, k, none⟩ (.int .i64 (1 + (k : Int) % 3))).setCell ⟨D + 1, k, none⟩ (.int .i64 (1 + (k : Int) % 3)) = w4 at *
        have HS1 := Lib.hid hst1
        obtain ⟨x0, x1⟩ := HXX.out _ hst1.below
        rw [hab] at x1
        obtain ⟨c0, _, _, _, _, _, _⟩ := hc.below hb (Nat.le_refl _) (HCC.out _ hst1.below)
        obtain ⟨hcl1, hfr1⟩ := hst1.cell1 hkl
        obtain ⟨hcl2, hfr2⟩ := hst1.cell2 hkl
        rw [getD_set (by rw [HL1.out]; exact hkl), if_pos rfl] at hcl1
        clear hst1 hc hb
        by_cases hh : E.head = (vv : Int)
        · have hhb : (E.head == (vv : Int)) = true := by simp [hh]
          have HH := Lib.hid hh
          clear hh
          go_wp2
          try rw [← hab]
          go_roundw
          case rel =>
            have h1 := HS1.out.set2 k (2 * (1 + (k : Int) % 3))
            refine ⟨k + 1, _, _, by omega, by go_num, fun i hi => ?_, fun i F hi hF => ?_, h1⟩
            · rw [getD_set (by rw [HL1.out]; exact hkl)]
              by_cases hik : i = k
              · rw [if_pos hik, hik]
              · rw [if_neg hik]; exact HXS.out i (by omega)
            · rw [getD_set (by rw [List.length_set, HL2.out]; exact hkl)]
              by_cases hik : i = k
              · subst hik
                rw [HE.out] at hF
                cases hF
                rw [if_pos rfl, if_pos HH.out]
              · rw [if_neg hik, getD_set (by rw [HL2.out]; exact hkl), if_neg hik]
                exact HYS.out i F (by omega) hF
          case measure => simp [intOf]; omega
        · have hhb : (E.head == (vv : Int)) = false := by simpa using hh
          have HH := Lib.hid hh
          clear hh
          go_wp2
          try rw [← hab]
          go_roundw
          case rel =>
            refine ⟨k + 1, _, _, by omega, by go_num, fun i hi => ?_, fun i F hi hF => ?_, HS1.out⟩
            · rw [getD_set (by rw [HL1.out]; exact hkl)]
              by_cases hik : i = k
              · rw [if_pos hik, hik]
              · rw [if_neg hik]; exact HXS.out i (by omega)
            · rw [getD_set (by rw [HL2.out]; exact hkl)]
              by_cases hik : i = k
              · subst hik
                rw [HE.out] at hF
                cases hF
                rw [if_pos rfl, if_neg HH.out]
              · rw [if_neg hik]
                exact HYS.out i F (by omega) hF
          case measure => simp [intOf]; omega
      · have hkk : k = es.length := by omega
        subst hkk
        have HNX := Lib.hid (show ∀ x ∈ xs, NB x from fun x hx => by
          obtain ⟨i, hi, rfl⟩ := List.mem_iff_getElem.1 hx
          have h3 := HXS.out i (by rw [HL1.out] at hi; exact hi)
          rw [List.getD_eq_getElem?_getD, List.getElem?_eq_getElem hi, Option.getD_some] at h3
          rw [h3]
          unfold NB
          omega)
        have HNY := Lib.hid (show ∀ x ∈ ys, NB x from fun x hx => by
          obtain ⟨i, hi, rfl⟩ := List.mem_iff_getElem.1 hx
          have hie : i < es.length := by rw [HL2.out] at hi; exact hi
          have h3 := HYS.out i es[i] hie (List.getElem?_eq_getElem hie)
          rw [List.getD_eq_getElem?_getD, List.getElem?_eq_getElem hi, Option.getD_some] at h3
          rw [h3]
          unfold NB
          split <;> omega)
        have HLIN := Lib.hid (fun ls (h : ordL m es = some ls) => ins_linear (w1 := xs) (w2 := ys) HOK.out h hvm (fun i E hE hne => by
          have hie : i < es.length := (List.getElem?_eq_some_iff.1 hE).1
          rw [HYS.out i E hie hE, if_neg hne, HXS.out i hie]) (fun i E hE heq => by
          have hie : i < es.length := (List.getElem?_eq_some_iff.1 hE).1
          rw [HYS.out i E hie hE, if_pos heq, HXS.out i hie]
          unfold Dbl
          omega))
        have hBr : Below w.heap.size w wr := HCC.out _ HS.out.below
        have hsr : w.heap.size < wr.heap.size := Nat.lt_trans hwD (World.ownsRow.lt HS.out.own1 D rfl).2
        have hcall := insI_any wr a (some ⟨D, 0, none⟩) c es.length (m : Int) es xs (HR.out.below (Nat.le_refl _) hBr) (by omega) HOCC.out HS.out.row1 HNX.out
        rw [HL1.out] at hcall
        have HCALL := Lib.hid hcall
        have hcall3 : ∀ (w' : World), EdRow w' a es → IRow w' (some ⟨D + 1, 0, none⟩) ys → Calls Try.prog 16 #[.agg #[.int .i64 m, .slice a es.length c], .iface 41 (.agg #[]), .slice (some ⟨D + 1, 0, none⟩) es.length es.length] w' (InsPost w' (Value.int .i64) (insS nAdd nMul 0 0 (m : Int) es ys)) := fun w' h1 h2 => by
          have h3 := insI_any w' a (some ⟨D + 1, 0, none⟩) c es.length (m : Int) es ys h1 (by omega) HOCC.out h2 HNY.out
          rw [HL2.out] at h3
          exact h3
        have HCALL2 := Lib.hid hcall3
        clear hcall3
        have HROW2 := Lib.hid HS.out.row2
        have HB3 := Lib.hid hBr
        have HX7 := Lib.hid (HXX.out _ HS.out.below)
        obtain ⟨x0, x1⟩ := HX7.out
        clear hcall hBr
        cases hO : ordL m es with
        | none =>
          have hins : ∀ ws : List Int, ws.length = es.length → insS nAdd nMul 0 0 (m : Int) es ws = (9, []) := fun ws hw => by
            unfold insS
            rw [if_pos ⟨HVAL.out, hw⟩, Int.toNat_natCast, hO]
          have HI := Lib.hid hins
          have hcall := HCALL.out
          rw [hins xs HL1.out] at hcall
          clear hins hO HCALL
          go_wp2_with fail
          refine hcall.mono ?_
          rintro e w8 ⟨hb, A, cap, rfl, hrow, hnil⟩
          have HB8 := Lib.hid (HB3.out.trans (hb.mono (Nat.le_of_lt hsr)))
          have hx8 := HX7.out.below hsr hb
          have hs8 : w.heap.size < w8.heap.size := Nat.lt_of_lt_of_le hsr hb.size
          have HX8 := Lib.hid hx8
          have hcall2 := HCALL2.out w8 (HR.out.below (Nat.le_refl _) HB8.out) (HROW2.out.below (Nat.le_refl _) hb)
          rw [HI.out ys HL2.out] at hcall2
          clear hcall hrow hnil hb x0 x1
          obtain ⟨x0, x1⟩ := hx8
          go_wp2_with fail
          refine hcall2.mono ?_
          rintro e w9 ⟨hb, A2, cap2, rfl, hrow, hnil⟩
          have HB9 := Lib.hid (HB8.out.trans (hb.mono (Nat.le_of_lt hs8)))
          clear hcall2 hrow hnil hb x0 x1
          go_wp2
          go_ret
          exact ⟨rfl, HB9.out⟩
        | some ls =>
          have hins : ∀ ws : List Int, ws.length = es.length → insS nAdd nMul 0 0 (m : Int) es ws = (0, insGo nAdd nMul 0 0 es ws (List.replicate m 0) ls) := fun ws hw => by
            unfold insS
            rw [if_pos ⟨HVAL.out, hw⟩, Int.toNat_natCast, hO]
          have HI := Lib.hid hins
          have HLI := Lib.hid (HLIN.out ls hO)
          have hcall := HCALL.out
          rw [hins xs HL1.out] at hcall
          have hall := insGo_ok (add := nAdd) (mul := nMul) (zero := 0) (d := 0) (P := NB) (fun _ _ _ _ => nAdd_b) (fun _ _ _ _ => nMul_b) ⟨by decide, by decide⟩ ⟨by decide, by decide⟩ HNX.out es ls (List.replicate m 0) (fun x hx => by rw [List.eq_of_mem_replicate hx]; exact ⟨by decide, by decide⟩)
          have hNX : NB ((insGo nAdd nMul 0 0 es xs (List.replicate m 0) ls).getD vv 0) := getD_ok (P := NB) hall ⟨by decide, by decide⟩
          clear hall
          have HLX := Lib.hid (show (insGo nAdd nMul 0 0 es xs (List.replicate m 0) ls).length = m by rw [insGo_len]; simp)
          have HLY := Lib.hid (show (insGo nAdd nMul 0 0 es ys (List.replicate m 0) ls).length = m by rw [insGo_len]; simp)
          have hcall2 := fun (w' : World) h1 h2 => HCALL2.out w' h1 h2
          rw [hins ys HL2.out] at hcall2
          generalize insGo nAdd nMul 0 0 es xs (List.replicate m 0) ls = X at *
          generalize insGo nAdd nMul 0 0 es ys (List.replicate m 0) ls = Y at *
          have HCALL3 := Lib.hid hcall2
          have HNX2 := Lib.hid hNX
          clear hins hO HCALL hcall2 hNX
          go_wp2_with fail
          refine hcall.mono ?_
          rintro e w8 ⟨hb, A, cap, rfl, hrow, hnil⟩
          have HB8 := Lib.hid (HB3.out.trans (hb.mono (Nat.le_of_lt hsr)))
          have hx8 := HX7.out.below hsr hb
          have hs8 : w.heap.size < w8.heap.size := Nat.lt_of_lt_of_le hsr hb.size
          have HX8 := Lib.hid hx8
          have HRX := Lib.hid hrow
          have hcall2 := HCALL3.out w8 (HR.out.below (Nat.le_refl _) HB8.out) (HROW2.out.below (Nat.le_refl _) hb)
          clear hcall hrow hnil hb x0 x1
          obtain ⟨x0, x1⟩ := hx8
          go_wp2_with fail
          refine hcall2.mono ?_
          rintro e w9 ⟨hb, A2, cap2, rfl, hrow, hnil⟩
          have HB9 := Lib.hid (HB8.out.trans (hb.mono (Nat.le_of_lt hs8)))
          have HX9 := Lib.hid (HX8.out.below hs8 hb)
          have hs9 : w.heap.size < w9.heap.size := Nat.lt_of_lt_of_le hs8 hb.size
          have hrx : VRow w9 A (X.map (Value.int .i64)) := HRX.out.below (Nat.le_refl _) hb
          obtain ⟨bx, ox, hAx, hbx, hcx⟩ := hrx.at (k := vv) (by rw [HLX.out]; exact hvm)
          obtain ⟨by', oy, hAy, hby, hcy⟩ := hrow.at (k := vv) (by rw [HLY.out]; exact hvm)
          have hX1 : X[vv]'(by rw [HLX.out]; exact hvm) = X.getD vv 0 := by simp [show vv < X.length by rw [HLX.out]; exact hvm]
          have hY1 : Y[vv]'(by rw [HLY.out]; exact hvm) = 2 * X.getD vv 0 % 65536 := by rw [← HLI.out]; simp [show vv < Y.length by rw [HLY.out]; exact hvm]
          rw [hX1] at hcx
          rw [hY1] at hcy
          rw [HLX.out, HLY.out]
          obtain ⟨q1, q2⟩ := HNX2.out
          generalize X.getD vv 0 = Q at *
          clear hcall2 hrow hnil hb x0 x1 hrx hX1 hY1
          have hvv0 : ¬ ((vv : Int) < 0) := by omega
          have hq3 : IntKind.i64.wrap (2 * Q) = 2 * Q := IntWalk.i64_in _ (by omega)
          have hq4 : wrap64 (2 * Q) = 2 * Q := by unfold wrap64; omega
          have hq5 : (2 * Q).tmod 65536 = 2 * Q % 65536 := Int.tmod_eq_emod_of_nonneg (by omega)
          subst hAx hAy
          go_wp2_with fail
          obtain ⟨S, hne, f, hf, hs⟩ := fam_of w9.heap.size w9
          obtain ⟨x0, x1⟩ := HBox.fam (fun s => HX9.out.below hs9 (hf s))
          have dx : ∀ s, (f s).cell? ⟨bx, ox + vv, none⟩ = some (.int .i64 Q) := fun s => ((hf s).cell (p := ⟨bx, ox + vv, none⟩) hbx).trans hcx
          have dy : ∀ s, (f s).cell? ⟨by', oy + vv, none⟩ = some (.int .i64 (2 * Q % 65536)) := fun s => ((hf s).cell (p := ⟨by', oy + vv, none⟩) hby).trans hcy
          obtain ⟨s0, h0⟩ := hs w9.drew (Below.refl _ _).drew
          clear hcx hcy
          refine wp_region_fast (S := fun w' => ∃ s, w' = f s) [(0, 4096, 77371252455336267181195264), (1, 77371252455336267181195264, 154742504910672534362390528), (2, 154742504910672534362390528, 309485009821345068724781056), (4, 309485009821345068724781568, 618970019642690137449562112), (12, 928455029464035206174343168, 1237940039285380274899124224), (4, 309485009821345068724781060, 2475880078570760549798248448), (36, 2785365088392105618523029504, 4951760157141521099596496896), (84, 6499185206248246443220402176, 9903520314283042199192993792), (132, 10213005324104387267917774848, 19807040628566084398385987584), (260, 19807040628566084398385987584, 39614081257132168796771975168), (512, 39614081257132168796771977216, 79228162514264337593543950336), (1536, 118842243771396506390315925504, 158456325028528675187087900672), (512, 39614081257132168796771975172, 316912650057057350374175801344), (4608, 356526731314189519170947776512, 633825300114114700748351602688), (10752, 831895706399775544732211478528, 1267650600228229401496703205376), (16896, 1307264681485361570293475180544, 2535301200456458802993406410752), (33280, 2535301200456458802993406410752, 5070602400912917605986812821504), (65536, 5070602400912917605986812823552, 10141204801825835211973625643008), (65536, 5070602400912917605986812821536, 20282409603651670423947251286016), (458752, 35494216806390423241907689750528, 40564819207303340847894502572032), (589824, 45635421608216258453881315393536, 81129638414606681695789005144064), (65536, 5070602400912917605986812822016, 162259276829213363391578010288128), (65536, 5070602400912917605986812821536, 324518553658426726783156020576256), (6356992, 491848432888553007780720843685888, 649037107316853453566312041152512), (8454144, 654107709717766371172298853974016, 1298074214633706907132624082305024), (16842752, 1303144817034619824738610895126528, 2596148429267413814265248164610048), (33619968, 2601219031668326731871234977431552, 5192296858534827628530496329220096), (68222976, 5278497099350347227832272147185664, 10384593717069655257060992658440192), (134283264, 10389664319470568174666979471261696, 20769187434139310514121985316880384), (536870911, 20769187434139310514121985316880384, 16)] [(0, 0, (0, 4096, 77371252455336267181195264)), (1, 0, (1, 77371252455336267181195264, 154742504910672534362390528)), (2, 0, (2, 154742504910672534362390528, 309485009821345068724781056)), (3, 0, (4, 309485009821345068724781568, 618970019642690137449562112)), (4, 0, (12, 928455029464035206174343168, 1237940039285380274899124224)), (5, 0, (4, 309485009821345068724781060, 2475880078570760549798248448)), (6, 0, (36, 2785365088392105618523029504, 4951760157141521099596496896)), (7, 0, (84, 6499185206248246443220402176, 9903520314283042199192993792)), (8, 0, (132, 10213005324104387267917774848, 19807040628566084398385987584)), (9, 0, (260, 19807040628566084398385987584, 39614081257132168796771975168)), (10, 0, (512, 39614081257132168796771977216, 79228162514264337593543950336)), (11, 0, (1536, 118842243771396506390315925504, 158456325028528675187087900672)), (12, 0, (512, 39614081257132168796771975172, 316912650057057350374175801344)), (13, 0, (4608, 356526731314189519170947776512, 633825300114114700748351602688)), (14, 0, (10752, 831895706399775544732211478528, 1267650600228229401496703205376)), (15, 0, (16896, 1307264681485361570293475180544, 2535301200456458802993406410752)), (16, 0, (33280, 2535301200456458802993406410752, 5070602400912917605986812821504)), (17, 0, (65536, 5070602400912917605986812823552, 10141204801825835211973625643008)), (18, 0, (65536, 5070602400912917605986812821536, 20282409603651670423947251286016)), (19, 0, (458752, 35494216806390423241907689750528, 40564819207303340847894502572032)), (20, 0, (589824, 45635421608216258453881315393536, 81129638414606681695789005144064)), (21, 0, (65536, 5070602400912917605986812822016, 162259276829213363391578010288128)), (22, 0, (65536, 5070602400912917605986812821536, 324518553658426726783156020576256)), (23, 0, (6356992, 491848432888553007780720843685888, 649037107316853453566312041152512)), (24, 0, (8454144, 654107709717766371172298853974016, 1298074214633706907132624082305024)), (25, 0, (16842752, 1303144817034619824738610895126528, 2596148429267413814265248164610048)), (26, 0, (33619968, 2601219031668326731871234977431552, 5192296858534827628530496329220096)), (27, 0, (68222976, 5278497099350347227832272147185664, 10384593717069655257060992658440192)), (28, 0, (134283264, 10389664319470568174666979471261696, 20769187434139310514121985316880384)), (29, 0, (536870911, 20769187434139310514121985316880384, 16))] 0 (by as_aux_lemma => kernel_rfl) (by as_aux_lemma => kernel_rfl) (by as_aux_lemma => kernel_rfl) (fun _ d _ _ _ h => by cases d <;> exact h) ⟨s0, h0⟩ ?_
          rw [h0]
          clear h0
          simp only [List.map_cons, List.map_nil, List.getElem?_cons_succ, List.getElem?_cons_zero]
          repeat ((with_reducible refine mix_free (fun K hK => ?_)); go_simp; refine hK _ ?_; clear hK K)
          refine mix_nil ?_
          go_wp2
          go_ret
          exact ⟨rfl, HB9.out.trans ((hf _).mono HB9.out.size)⟩
end Go.Proofs.Ytjhdhnkikgmpoaa
