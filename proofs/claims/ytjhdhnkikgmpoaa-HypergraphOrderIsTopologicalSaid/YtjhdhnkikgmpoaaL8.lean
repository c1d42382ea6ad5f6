/- Law 8: walk. Printed by gen27l8.py. -/
import Derived.Test.YtjhdhnkikgmpoaaOrdT
namespace Go.Proofs.Ytjhdhnkikgmpoaa
open Go.RowKit Go.Deep

set_option maxRecDepth 100000 in
set_option maxHeartbeats 1000000 in
theorem law8_any (w : World) (a : Option Addr) (c : Nat) (n : Int) (es : List Ed) (hr : EdRow w a es) (hn : es.length ≤ maxLen) :
    Calls Try.prog 8 #[.agg #[.int .i64 n, .slice a es.length c]] w fun e w' => e = .returned (.bool true) ∧ Below w.heap.size w w' := by
  have HR := Lib.hid hr
  unfold maxLen at hn
  clear hr
  have hbox := HBox.box w n a es.length c
  have hB0 : Below w.heap.size w (w.alloc (.cells #[.int .i64 n, .slice a es.length c] 24)) := (Below.refl _ _).alloc (Nat.le_refl _) _
  have HB0 := Lib.hid hB0
  have HBOX := Lib.hid hbox
  clear hbox hB0
  go_enter Try.func8, Try.ntmps8
  go_wp2_with fail
  refine (awake_any _).mono ?_
  rintro e w1 ⟨rfl, hb1⟩
  have HB1 := Lib.hid (HB0.out.trans (hb1.mono (by simp)))
  have hx1 := HBOX.out.below (B := w.heap.size + 1) (by omega) (hb1.mono (by simp))
  have hs1 : w.heap.size < w1.heap.size := by have := hb1.size; simp at this; omega
  have HX1 := Lib.hid hx1
  have HR1 := Lib.hid (HR.out.below (Nat.le_refl _) HB1.out)
  obtain ⟨x0, x1⟩ := hx1
  clear hb1 HBOX

  go_wp2_with fail
  refine (small_any _ a c n es HR1.out (by unfold maxLen; omega)).mono ?_
  rintro e w2 ⟨rfl, hb⟩
  have HB2 := Lib.hid (HB1.out.trans (hb.mono (Nat.le_of_lt hs1)))
  have HX2 := Lib.hid (HX1.out.below hs1 hb)
  have hs2 : w.heap.size < w2.heap.size := Nat.lt_of_lt_of_le hs1 hb.size
  have HR2 := Lib.hid (HR1.out.below (Nat.le_refl _) hb)
  clear x0 x1 hb
  obtain ⟨x0, x1⟩ := HX2.out
  cases hsm : smallB n es
  · go_wp2
    go_ret
    exact ⟨rfl, HB2.out⟩
  · obtain ⟨hl60, hl4, m, rfl, hm30, hok, hval⟩ := small_len hsm
    have HOK := Lib.hid hok
    have HOCC := Lib.hid (occ_small hl60 hl4)
    have HL4 := Lib.hid hl4
    have hm1 := hok.n1
    clear hsm hl4 hok hval
    go_wp2_with fail
    refine (order_any _ a c m es HR2.out (by omega) HOK.out HOCC.out).mono ?_
    rintro e w3 hpost
    obtain ⟨hb, A1, cap1, rfl, hrow⟩ := ordR_post hpost
    have HB3 := Lib.hid (HB2.out.trans (hb.mono (Nat.le_of_lt hs2)))
    have HX3 := Lib.hid (HX2.out.below hs2 hb)
    have hs3 : w.heap.size < w3.heap.size := Nat.lt_of_lt_of_le hs2 hb.size
    have HR3 := Lib.hid (HR2.out.below (Nat.le_refl _) hb)
    have HROW3 := Lib.hid hrow
    clear x0 x1 hb hrow hpost
    obtain ⟨x0, x1⟩ := HX3.out
    have hll := ordR_len m es
    have HERR := Lib.hid (ordR_ok (n := m) (es := es))
    have HND := Lib.hid (ordR_nd HOK.out)
    have HMEM := Lib.hid (fun x h => ordR_mem (n := m) (es := es) (x := x) h)
    obtain ⟨err, ls, hR⟩ : ∃ err ls, ordR m es = (err, ls) := ⟨_, _, rfl⟩
    have HPOST := Lib.hid (fun w w' e h => ordR_post (w := w) (w' := w') (n := m) (es := es) (e := e) h)
    rw [hR] at hll HERR HMEM HPOST HROW3 HND
    rw [hR]
    clear hR
    simp only at hll HERR HMEM HPOST HROW3 HND
    go_wp2_with fail
    refine (reforder_any _ a c m es HR3.out (by unfold maxLen; omega) HOK.out).mono ?_
    rintro e w4 hpost
    obtain ⟨hb, A2, cap2, rfl, hrow⟩ := HPOST.out _ _ _ hpost
    have HB4 := Lib.hid (HB3.out.trans (hb.mono (Nat.le_of_lt hs3)))
    have HX4 := Lib.hid (HX3.out.below hs3 hb)
    have hs4 : w.heap.size < w4.heap.size := Nat.lt_of_lt_of_le hs3 hb.size
    have HR4 := Lib.hid (HR3.out.below (Nat.le_refl _) hb)
    have HROW4 := Lib.hid (HROW3.out.below (Nat.le_refl _) hb)
    have HROWB := Lib.hid hrow
    clear x0 x1 hb hrow hpost
    obtain ⟨x0, x1⟩ := HX4.out
    go_wp2_with fail
    refine (sameInts_any w4 A1 A2 cap1 cap2 ls ls HROW4.out HROWB.out (by unfold maxLen; omega) (by unfold maxLen; omega)).mono ?_
    rintro e w5 ⟨rfl, hb⟩
    rw [beq_self_eq_true]
    have HB5 := Lib.hid (HB4.out.trans (hb.mono (Nat.le_of_lt hs4)))
    have HX5 := Lib.hid (HX4.out.below hs4 hb)
    have hs5 : w.heap.size < w5.heap.size := Nat.lt_of_lt_of_le hs4 hb.size
    have HR5 := Lib.hid (HR4.out.below (Nat.le_refl _) hb)
    have HROW5 := Lib.hid (HROW4.out.below (Nat.le_refl _) hb)
    clear x0 x1 hb
    obtain ⟨x0, x1⟩ := HX5.out
    have hmk := run_make_row' (P := Try.prog) 35 3 (.int .i64 0) 8 Try.underlying35 info3 rfl .i64 .i64 m (by omega) (by omega)
    have hnew := OutSt.new w5 (.int .i64 0) m 3 (by unfold maxLen; omega)
    have h50 : Below w5.heap.size w5 (w5.alloc (.cells (madeCells #[.int .i64 0] m) 3)) := (Below.refl _ _).alloc (Nat.le_refl _) _
    have HX6 := Lib.hid (HX5.out.below hs5 h50)
    have HNEW := Lib.hid hnew
    have H50 := Lib.hid h50
    clear hnew h50
    go_upto_region 10 with fail
    clear hmk x0 x1
    obtain ⟨W0, hW0⟩ : ∃ W0, W0 = w5.alloc (.cells (madeCells #[.int .i64 0] m) 3) := ⟨_, rfl⟩
    rw [← hW0] at HNEW HX6 H50 ⊢
    obtain ⟨D, hD⟩ : ∃ D, D = w5.heap.size := ⟨_, rfl⟩
    rw [← hD] at HNEW H50 ⊢
    have HD := Lib.hid hD
    have hwD : w.heap.size < D := by omega
    have HW0 := Lib.hid hW0
    have HBW := Lib.hid (HB5.out.trans (H50.out.mono (Nat.le_of_lt hwD)))
    have HROW6 := Lib.hid (HROW5.out.below (B := D) (by rw [HD.out]; exact Nat.le_refl _) H50.out)
    clear hW0 hD
    have hinit : OutSt W0 D m 3 ((List.replicate m (0 : Int)).map (Value.int .i64)) W0 := by rw [List.map_replicate]; exact HNEW.out
    have HINIT := Lib.hid hinit
    clear hinit
    go_wp2_with fail
    go_loopw [8] (fun x8 wr => ∃ k at', k ≤ ls.length ∧ x8 = .int .i64 (k : Nat) ∧ PosOk ls k at' ∧ OutSt W0 D m 3 (at'.map (Value.int .i64)) wr) (fun x8 _ => ls.length - (intOf x8).toNat)
    case atStart => exact ⟨0, _, Nat.zero_le _, rfl, (fun i x hi => absurd hi (Nat.not_lt_zero i)), HINIT.out⟩
    case round =>
      obtain ⟨k, at', hk, rfl, hpos, hst⟩ := hrel
      have HPOS := Lib.hid hpos
      have HS := Lib.hid hst
      clear hpos hst
      by_cases hkl : k < ls.length
      · have hrow : IRow wr A1 ls := HROW5.out.below (B := D) (by rw [HD.out]; exact Nat.le_refl _) (H50.out.trans HS.out.below)
        obtain ⟨b1, o1, hA1, _, hc1⟩ := hrow.at hkl
        obtain ⟨v, hv, hvm⟩ := HMEM.out _ (List.getElem_mem hkl)
        have HKV := Lib.hid (show ls[k]? = some (v : Int) by rw [List.getElem?_eq_getElem hkl, hv])
        rw [hv] at hc1
        have hk0 : ¬ ((k : Int) < 0) := by omega
        have hv0 : ¬ ((v : Int) < 0) := by omega
        obtain ⟨hcl, hfr⟩ := HS.out.cell (0 : Int) hvm
        clear hv hrow
        go_wp2
        try rw [← hA1]
        go_roundw
        case rel =>
          have h1 := HS.out.set v (.int .i64 (k : Int))
          rw [← List.map_set] at h1
          have hal : at'.length = m := by simpa using HS.out.own.1
          exact ⟨k + 1, _, by omega, by go_num, HPOS.out.step HND.out HKV.out hal hvm (fun x hx => HMEM.out x hx), h1⟩
        case measure => simp [intOf]; omega
      · have hkk : k = ls.length := by omega
        subst hkk
        go_wp2_with fail
        obtain ⟨wo, rfl⟩ : ∃ wo : World, wo = wr := ⟨_, rfl⟩
        go_loopw [9] (fun x9 wr => ∃ i, i ≤ es.length ∧ x9 = .int .i64 (i : Nat) ∧ OutSt W0 D m 3 (at'.map (Value.int .i64)) wr) (fun x9 _ => es.length - (intOf x9).toNat)
        case atStart => exact ⟨0, Nat.zero_le _, rfl, HS.out⟩
        case round =>
          clear HS
          obtain ⟨i, hi, rfl, hst⟩ := hrel
          have HS := Lib.hid hst
          clear hst
          obtain ⟨x0, x1⟩ := HX6.out.below hwD HS.out.below
          have hi0 : ¬ ((i : Int) < 0) := by omega
          by_cases hil : i < es.length
          · by_cases he : err = 0
            · have heb : (err == 0) = true := by rw [he]; rfl
              have HLT := Lib.hid (fun t ht => ord_lt HOK.out (HERR.out he) (List.getElem_mem hil) (t := t) ht)
              obtain ⟨b, o, hab, hb, hc⟩ := HR.out.at hil
              have HEO := Lib.hid (HOK.out.e _ (List.getElem_mem hil))
              have hlen := HL4.out _ (List.getElem_mem hil)
              generalize es[i] = E at *
              have hrow0 := hc.row
              have HC := Lib.hid (fun (w' : World) (h : Below D W0 w') => hc.below (w' := w') hb (Nat.le_refl _) (HBW.out.trans (h.mono (Nat.le_of_lt hwD))))
              have HXX := Lib.hid (fun (w' : World) (h : Below D W0 w') => HX6.out.below hwD h)
              clear hc he
              rw [hab] at x1
              go_wp2_with fail
              clear x0 x1 heb
              obtain ⟨wm, rfl⟩ : ∃ wm : World, wm = wr := ⟨_, rfl⟩
              go_loopw [10] (fun x10 wr => ∃ j, j ≤ E.tails.length ∧ x10 = .int .i64 (j : Nat) ∧ OutSt W0 D m 3 (at'.map (Value.int .i64)) wr) (fun x10 _ => E.tails.length - (intOf x10).toNat)
              case atStart => exact ⟨0, Nat.zero_le _, rfl, HS.out⟩
              case round =>
                clear HS
                obtain ⟨j, hj, rfl, hst⟩ := hrel
                have HS := Lib.hid hst
                clear hst
                obtain ⟨x0, x1⟩ := HXX.out _ HS.out.below
                rw [hab] at x1
                obtain ⟨c0, c1, _, _, _, _, _⟩ := HC.out _ HS.out.below
                have hj0 : ¬ ((j : Int) < 0) := by omega
                by_cases hjl : j < E.tails.length
                · obtain ⟨b3, o3, hta, hb3, hcx⟩ := hrow0.at hjl
                  have hBw3 : Below w.heap.size w wr := HBW.out.trans (HS.out.below.mono (Nat.le_of_lt hwD))
                  have hx := (hBw3.cell (p := ⟨b3, o3 + j, none⟩) hb3).trans hcx
                  have htm := List.getElem_mem hjl
                  obtain ⟨tn, htn⟩ := Int.eq_ofNat_of_zero_le (HEO.out.t _ htm).1
                  have htl : tn < m := by have := (HEO.out.t _ htm).2; omega
                  obtain ⟨i1, j1, hij, hj1, hp1, hp2⟩ := HLT.out _ htm
                  obtain ⟨hd, hhd⟩ := Int.eq_ofNat_of_zero_le HEO.out.h0
                  have hdm : hd < m := by have := HEO.out.h1; omega
                  have hq1 := HPOS.out i1 _ (by omega) hp1
                  have hq2 := HPOS.out j1 _ hj1 hp2
                  rw [htn, Int.toNat_natCast] at hq1
                  rw [hhd, Int.toNat_natCast] at hq2
                  clear hcx hb3 hBw3 htm hp1 hp2
                  generalize E.tails[j] = Y at *
                  subst htn
                  rw [hhd] at c0
                  have hhd0 : ¬ ((hd : Int) < 0) := by omega
                  have htn0 : ¬ ((tn : Int) < 0) := by omega
                  obtain ⟨hcl1, _⟩ := HS.out.cell (0 : Int) htl
                  obtain ⟨hcl2, _⟩ := HS.out.cell (0 : Int) hdm
                  rw [hq1] at hcl1
                  rw [hq2] at hcl2
                  have HHD := Lib.hid hhd
                  clear hq1 hq2 hhd
                  have hge : decide ((j1 : Int) ≤ (i1 : Int)) = false := decide_eq_false (by omega)
                  go_wp2_with fail
                  go_region
                  have hs7 := HS.out.go ((Below.refl _ _).drew)
                  have HS7 := Lib.hid hs7
                  clear hs7
                  generalize wr.drew = w7 at *
                  go_wp2
                  try rw [← hta]
                  try rw [← hab]
                  go_roundw
                  case rel => exact ⟨j + 1, by omega, by go_num, HS7.out⟩
                  case measure => simp [intOf]; omega
                · have hjj : j = E.tails.length := by omega
                  subst hjj
                  go_wp2
                  try rw [← hab]
                  go_roundw
                  case rel => exact ⟨i + 1, by omega, by go_num, HS.out⟩
                  case measure => simp [intOf]; omega
            · have heb : (err == 0) = false := by simpa using he
              go_wp2
              go_ret
              exact ⟨rfl, HBW.out.trans (HS.out.below.mono (Nat.le_of_lt hwD))⟩
          · have hii : i = es.length := by omega
            subst hii
            go_wp2
            go_ret
            exact ⟨rfl, HBW.out.trans (HS.out.below.mono (Nat.le_of_lt hwD))⟩
end Go.Proofs.Ytjhdhnkikgmpoaa
