/- Law 3: walk. Printed by gen27l3.py. -/
import Derived.Test.YtjhdhnkikgmpoaaInsL
namespace Go.Proofs.Ytjhdhnkikgmpoaa
open Go.RowKit Go.Deep

set_option maxRecDepth 100000 in
set_option maxHeartbeats 1000000 in
theorem law3_any (w : World) (a : Option Addr) (c : Nat) (n : Int) (es : List Ed) (hr : EdRow w a es) (hn : es.length ≤ maxLen) :
    Calls Try.prog 3 #[.agg #[.int .i64 n, .slice a es.length c]] w fun e w' => e = .returned (.bool true) ∧ Below w.heap.size w w' := by
  have HR := Lib.hid hr
  unfold maxLen at hn
  clear hr
  have hbox := HBox.box w n a es.length c
  have hB0 : Below w.heap.size w (w.alloc (.cells #[.int .i64 n, .slice a es.length c] 24)) := (Below.refl _ _).alloc (Nat.le_refl _) _
  have HB0 := Lib.hid hB0
  have HBOX := Lib.hid hbox
  clear hbox hB0
  go_enter Try.func3, Try.ntmps3
  go_wp2_with fail
  refine (awake_any _).mono ?_
  rintro e w1 ⟨rfl, hb1⟩
  have HB1 := Lib.hid (HB0.out.trans (hb1.mono (by simp)))
  have hx1 := HBOX.out.below (B := w.heap.size + 1) (by omega) (hb1.mono (by simp))
  have hs1 : w.heap.size < w1.heap.size := by have := hb1.size; simp at this; omega
  have HX1 := Lib.hid hx1
  have HR1 := Lib.hid (HR.out.below (Nat.le_refl _) HB1.out)
  obtain ⟨x0, x1⟩ := hx1
  clear hb1 HBOX

  go_wp2_with fail
  refine (small_any _ a c n es HR1.out (by unfold maxLen; omega)).mono ?_
  rintro e w2 ⟨rfl, hb⟩
  have HB2 := Lib.hid (HB1.out.trans (hb.mono (Nat.le_of_lt hs1)))
  have HX2 := Lib.hid (HX1.out.below hs1 hb)
  have hs2 : w.heap.size < w2.heap.size := Nat.lt_of_lt_of_le hs1 hb.size
  have HR2 := Lib.hid (HR1.out.below (Nat.le_refl _) hb)
  clear x0 x1 hb
  obtain ⟨x0, x1⟩ := HX2.out
  cases hsm : smallB n es
  · go_wp2
    go_ret
    exact ⟨rfl, HB2.out⟩
  · obtain ⟨hl60, hl4, m, rfl, hm30, hok, hval⟩ := small_len hsm
    have HOK := Lib.hid hok
    have HOCC := Lib.hid (occ_small hl60 hl4)
    have HVAL := Lib.hid hval
    have hm1 := hok.n1
    clear hsm hl4 hok hval
    have hmk := run_make_row' (P := Try.prog) 27 4 (.bool false) 1 Try.underlying27 info4 rfl .i64 .i64 es.length (by omega) (by omega)
    have hnew := OutSt.new w2 (.bool false) es.length 4 (by unfold maxLen; omega)
    have h50 : Below w2.heap.size w2 (w2.alloc (.cells (madeCells #[.bool false] es.length) 4)) := (Below.refl _ _).alloc (Nat.le_refl _) _
    have HX6 := Lib.hid (HX2.out.below hs2 h50)
    have HNEW := Lib.hid hnew
    have H50 := Lib.hid h50
    clear hnew h50
    go_upto_region 6 with fail
    clear hmk x0 x1
    obtain ⟨W0, hW0⟩ : ∃ W0, W0 = w2.alloc (.cells (madeCells #[.bool false] es.length) 4) := ⟨_, rfl⟩
    rw [← hW0] at HNEW HX6 H50 ⊢
    obtain ⟨D, hD⟩ : ∃ D, D = w2.heap.size := ⟨_, rfl⟩
    rw [← hD] at HNEW H50 ⊢
    have hwD : w.heap.size < D := by omega
    have HD := Lib.hid hD
    have HW0 := Lib.hid hW0
    have HBW := Lib.hid (HB2.out.trans (H50.out.mono (Nat.le_of_lt hwD)))
    clear hW0 hD
    have hinit : OutSt W0 D es.length 4 ((List.replicate es.length false).map Value.bool) W0 := by rw [List.map_replicate]; exact HNEW.out
    have HINIT := Lib.hid hinit
    clear hinit
    go_wp2_with fail
    go_loopw [4] (fun x4 wr => ∃ (k : Nat) (xs : List Bool), k ≤ es.length ∧ x4 = .int .i64 (k : Nat) ∧ (∀ i, i < k → xs.getD i false = true) ∧ OutSt W0 D es.length 4 (xs.map Value.bool) wr) (fun x4 _ => es.length - (intOf x4).toNat)
    case atStart => exact ⟨0, _, Nat.zero_le _, rfl, (fun i hi => absurd hi (Nat.not_lt_zero i)), HINIT.out⟩
    case round =>
      obtain ⟨k, xs, hk, rfl, htr, hst⟩ := hrel
      have HTR := Lib.hid htr
      have HS := Lib.hid hst
      have HXL := Lib.hid (show xs.length = es.length by simpa using hst.own.1)
      clear htr hst
      by_cases hkl : k < es.length
      · obtain ⟨hcl, hfr⟩ := HS.out.cell false hkl
        have hk0 : ¬ ((k : Int) < 0) := by omega
        go_wp2
        go_roundw
        case rel =>
          have h1 := HS.out.set k (.bool true)
          rw [← List.map_set] at h1
          refine ⟨k + 1, _, by omega, by go_num, fun i hi => ?_, h1⟩
          rw [getDB_set (by rw [HXL.out]; exact hkl)]
          by_cases hik : i = k
          · rw [if_pos hik]
          · rw [if_neg hik]; exact HTR.out i (by omega)
        case measure => simp [intOf]; omega
      · have hkk : k = es.length := by omega
        subst hkk
        have hxs : xs = List.replicate es.length true := by
          apply List.ext_getElem
          · rw [HXL.out, List.length_replicate]
          · intro i h1 h2
            have h3 := HTR.out i (by rw [HXL.out] at h1; exact h1)
            rw [List.getD_eq_getElem?_getD, List.getElem?_eq_getElem h1, Option.getD_some] at h3
            rw [h3, List.getElem_replicate]
        have hrow := HS.out.row
        rw [hxs] at hrow
        have hBr : Below w.heap.size w wr := HBW.out.trans (HS.out.below.mono (Nat.le_of_lt hwD))
        have hcall := insB_any wr a (some ⟨D, 0, none⟩) c es.length (m : Int) es (List.replicate es.length true) (HR.out.below (Nat.le_refl _) hBr) (by omega) HOCC.out hrow
        rw [List.length_replicate] at hcall
        have HB3 := Lib.hid hBr
        have hsr : w.heap.size < wr.heap.size := Nat.lt_trans hwD HS.out.lt
        have HX7 := Lib.hid (HX6.out.below hwD HS.out.below)
        obtain ⟨x0, x1⟩ := HX7.out
        clear hrow hxs hBr
        have HCALL := Lib.hid hcall
        clear hcall
        cases hO : ordL m es with
        | none =>
          have hins : insS or and false false (m : Int) es (List.replicate es.length true) = (9, []) := by
            unfold insS
            rw [if_pos ⟨HVAL.out, by simp⟩, Int.toNat_natCast, hO]
          have hcall := HCALL.out
          rw [hins] at hcall
          clear hins hO HCALL
          go_wp2_with fail
          refine hcall.mono ?_
          rintro e w8 ⟨hb, A, cap, rfl, hrow, hnil⟩
          have HB8 := Lib.hid (HB3.out.trans (hb.mono (Nat.le_of_lt hsr)))
          clear hcall hrow hnil hb x0 x1
          go_wp2
          go_ret
          exact ⟨rfl, HB8.out⟩
        | some ls =>
          have hins : insS or and false false (m : Int) es (List.replicate es.length true) = (0, derL m es) := by
            unfold insS
            rw [if_pos ⟨HVAL.out, by simp⟩, Int.toNat_natCast, hO, ← insB_der HOK.out hO]
          have hcall := HCALL.out
          rw [hins] at hcall
          clear hins hO HCALL
          go_wp2_with fail
          refine hcall.mono ?_
          rintro e w8 ⟨hb, A, cap, rfl, hrow, hnil⟩
          have HB8 := Lib.hid (HB3.out.trans (hb.mono (Nat.le_of_lt hsr)))
          have hx8 := HX7.out.below hsr hb
          have HR8 := Lib.hid (HR.out.below (Nat.le_refl _) HB8.out)
          have HROW := Lib.hid hrow
          clear hcall hrow hnil hb x0 x1
          obtain ⟨x0, x1⟩ := hx8
          go_wp2_with fail
          refine (der_any w8 a c m es HR8.out (by omega) HOK.out HOCC.out).mono ?_
          rintro e w9 ⟨A2, cap2, rfl, hrow2, hb⟩
          have HB9 := Lib.hid (HB8.out.trans (hb.mono HB8.out.size))
          have hrow3 := HROW.out.below (Nat.le_refl _) hb
          have HROW2 := Lib.hid hrow2
          have HROW3 := Lib.hid hrow3
          clear hb hrow2 hrow3 x0 x1
          go_wp2_with fail
          refine (sameBools_any w9 A A2 cap cap2 (derL m es) (derL m es) HROW3.out HROW2.out (by rw [derL_len]; unfold maxLen; omega) (by rw [derL_len]; unfold maxLen; omega)).mono ?_
          rintro e w10 ⟨rfl, hb⟩
          have HB10 := Lib.hid (HB9.out.trans (hb.mono HB9.out.size))
          rw [beq_self_eq_true]
          clear hb
          go_wp2
          go_ret
          exact ⟨rfl, HB10.out⟩
end Go.Proofs.Ytjhdhnkikgmpoaa
