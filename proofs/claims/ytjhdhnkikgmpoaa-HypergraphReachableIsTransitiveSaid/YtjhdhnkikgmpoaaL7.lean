/- Law 7: walk. Printed by gen27l7.py. -/
import Derived.Test.YtjhdhnkikgmpoaaL56
import Derived.Test.YtjhdhnkikgmpoaaRreach
namespace Go.Proofs.Ytjhdhnkikgmpoaa
open Go.RowKit Go.Deep

theorem rch_trans {es : List Ed} {r v u : Int} (h1 : Rch es r v) (h2 : Rch es v u) : Rch es r u := by
  induction h2 with
  | base => exact h1
  | step e t he _ ht ih => exact Rch.step e t he ih ht
theorem reachS_at {n : Nat} {es : List Ed} {r : Int} {v : Nat} (hv : v < n) : (reachS n es r).getD v false = true ↔ (0 ≤ r ∧ r < n ∧ Rch es r (v : Int)) := by
  unfold reachS
  split
  · rename_i h
    rw [List.getD_eq_getElem?_getD, List.getElem?_replicate]
    simp [hv]
    omega
  · rename_i h
    have hl : v < (reachL n es r).length := by rw [reachL_len]; exact hv
    rw [List.getD_eq_getElem?_getD, List.getElem?_eq_getElem hl]
    simp [reachL]
    constructor
    · intro h1; exact ⟨by omega, by omega, h1⟩
    · intro h1; exact h1.2.2
theorem reachS_trans {n : Nat} {es : List Ed} {r : Int} {v u : Nat} (hv : v < n) (hu : u < n) (h1 : (reachS n es r).getD v false = true) (h2 : (reachS n es (v : Int)).getD u false = true) : (reachS n es r).getD u false = true := by
  obtain ⟨a, b, c⟩ := (reachS_at hv).1 h1
  obtain ⟨_, _, d⟩ := (reachS_at hu).1 h2
  exact (reachS_at hu).2 ⟨a, b, rch_trans c d⟩
theorem VRow.atD {w : World} {A : Option Addr} {xs : List Bool} (h : BRow w A xs) {k : Nat} (hk : k < xs.length) : ∃ b o, A = some ⟨b, o, none⟩ ∧ w.cell? ⟨b, o + k, none⟩ = some (.bool (xs.getD k false)) := by
  obtain ⟨b, o, h1, _, h2⟩ := VRow.at h hk
  exact ⟨b, o, h1, by rw [h2]; simp [hk]⟩

set_option maxRecDepth 100000 in
set_option maxHeartbeats 1000000 in
theorem law7_any (w : World) (a : Option Addr) (c : Nat) (n : Int) (es : List Ed) (root : Int) (hr : EdRow w a es) (hn : es.length ≤ maxLen) :
    Calls Try.prog 7 #[.agg #[.int .i64 n, .slice a es.length c], .int .i64 root] w fun e w' => e = .returned (.bool true) ∧ Below w.heap.size w w' := by
  have HR := Lib.hid hr
  unfold maxLen at hn
  clear hr
  have hbox := HBox.box w n a es.length c
  have hB0 : Below w.heap.size w (w.alloc (.cells #[.int .i64 n, .slice a es.length c] 24)) := (Below.refl _ _).alloc (Nat.le_refl _) _
  have HB0 := Lib.hid hB0
  have HBOX := Lib.hid hbox
  clear hbox hB0
  go_enter Try.func7, Try.ntmps7
  go_wp2_with fail
  refine (awake_any _).mono ?_
  rintro e w1 ⟨rfl, hb1⟩
  have HB1 := Lib.hid (HB0.out.trans (hb1.mono (by simp)))
  have hx1 := HBOX.out.below (B := w.heap.size + 1) (by omega) (hb1.mono (by simp))
  have hs1 : w.heap.size < w1.heap.size := by have := hb1.size; simp at this; omega
  have HX1 := Lib.hid hx1
  have HR1 := Lib.hid (HR.out.below (Nat.le_refl _) HB1.out)
  obtain ⟨x0, x1⟩ := hx1
  clear hb1 HBOX

  go_wp2_with fail
  refine (small_any _ a c n es HR1.out (by unfold maxLen; omega)).mono ?_
  rintro e w2 ⟨rfl, hb⟩
  have HB2 := Lib.hid (HB1.out.trans (hb.mono (Nat.le_of_lt hs1)))
  have HX2 := Lib.hid (HX1.out.below hs1 hb)
  have hs2 : w.heap.size < w2.heap.size := Nat.lt_of_lt_of_le hs1 hb.size
  have HR2 := Lib.hid (HR1.out.below (Nat.le_refl _) hb)
  clear x0 x1 hb
  obtain ⟨x0, x1⟩ := HX2.out
  cases hsm : smallB n es
  · go_wp2
    go_ret
    exact ⟨rfl, HB2.out⟩
  · obtain ⟨hl60, hl4, m, rfl, hm30, hok, hval⟩ := small_len hsm
    have HOK := Lib.hid hok
    clear hsm hl4 hok hval
    go_wp2_with fail
    refine (reach_any _ a c m es root HR2.out (by omega) HOK.out).mono ?_
    rintro e w3 ⟨A1, cap1, rfl, hrow, hb⟩
    have HB3 := Lib.hid (HB2.out.trans (hb.mono (Nat.le_of_lt hs2)))
    have HX3 := Lib.hid (HX2.out.below hs2 hb)
    have hs3 : w.heap.size < w3.heap.size := Nat.lt_of_lt_of_le hs2 hb.size
    have HR3 := Lib.hid (HR2.out.below (Nat.le_refl _) hb)
    have HROW3 := Lib.hid hrow
    clear x0 x1 hb hrow
    obtain ⟨x0, x1⟩ := HX3.out
    go_wp2_with fail
    refine (refreach_any _ a c m es root HR3.out (by unfold maxLen; omega) HOK.out).mono ?_
    rintro e w4 ⟨A2, cap2, rfl, hrow, hb⟩
    have HB4 := Lib.hid (HB3.out.trans (hb.mono (Nat.le_of_lt hs3)))
    have HX4 := Lib.hid (HX3.out.below hs3 hb)
    have hs4 : w.heap.size < w4.heap.size := Nat.lt_of_lt_of_le hs3 hb.size
    have HR4 := Lib.hid (HR3.out.below (Nat.le_refl _) hb)
    have HROW4 := Lib.hid (HROW3.out.below (Nat.le_refl _) hb)
    have HROWB := Lib.hid hrow
    clear x0 x1 hb hrow
    obtain ⟨x0, x1⟩ := HX4.out
    go_wp2_with fail
    refine (sameBools_any w4 A1 A2 cap1 cap2 (reachS m es root) (reachS m es root) HROW4.out HROWB.out (by rw [reachS_len]; unfold maxLen; omega) (by rw [reachS_len]; unfold maxLen; omega)).mono ?_
    have hl1 := reachS_len m es root
    rintro e w5 ⟨rfl, hb⟩
    rw [beq_self_eq_true]
    have HB5 := Lib.hid (HB4.out.trans (hb.mono (Nat.le_of_lt hs4)))
    have HX5 := Lib.hid (HX4.out.below hs4 hb)
    have hs5 : w.heap.size < w5.heap.size := Nat.lt_of_lt_of_le hs4 hb.size
    have HR5 := Lib.hid (HR4.out.below (Nat.le_refl _) hb)
    have HROW5 := Lib.hid (HROW4.out.below (Nat.le_refl _) hb)
    clear x0 x1 hb
    have HL1 := Lib.hid hl1
    rw [hl1]
    clear hl1
    obtain ⟨x0, x1⟩ := HX5.out
    go_wp2_with fail
    clear x0 x1
    go_loopw [6] (fun x6 wr => ∃ v, v ≤ m ∧ x6 = .int .i64 (v : Nat) ∧ Below w5.heap.size w5 wr) (fun x6 _ => m - (intOf x6).toNat)
    case atStart => exact ⟨0, Nat.zero_le _, rfl, Below.refl _ _⟩
    case round =>
      obtain ⟨v, hv, rfl, hbr⟩ := hrel
      have HBR := Lib.hid hbr
      obtain ⟨x0, x1⟩ := HX5.out.below hs5 hbr
      have hrow := HROW5.out.below (Nat.le_refl _) hbr
      clear hbr
      by_cases hvm : v < m
      · obtain ⟨b1, o1, hA1, hc1⟩ := VRow.atD hrow (k := v) (by rw [HL1.out]; exact hvm)
        have hv0 : ¬ ((v : Int) < 0) := by omega
        clear hrow
        cases hin : (reachS m es root).getD v false
        · rw [hin] at hc1
          go_wp2
          try rw [← hA1]
          go_roundw
          case rel => exact ⟨v + 1, by omega, by go_num, HBR.out⟩
          case measure => simp [intOf]; omega
        · rw [hin] at hc1
          have HIN := Lib.hid hin
          clear hin
          go_wp2_with fail
          refine (reach_any _ a c m es (v : Int) (HR5.out.below (Nat.le_refl _) HBR.out) (by omega) HOK.out).mono ?_
          rintro e w6 ⟨A3, cap3, rfl, hrow3, hb⟩
          have HB6 := Lib.hid (HBR.out.trans (hb.mono HBR.out.size))
          clear x0 x1 hc1 hb
          obtain ⟨x0, x1⟩ := HX5.out.below hs5 HB6.out
          have HL3 := Lib.hid (reachS_len m es (v : Int))
          rw [HL3.out]
          have HROW6 := Lib.hid (HROW5.out.below (Nat.le_refl _) HB6.out)
          have HROW7 := Lib.hid hrow3
          clear hrow3
          go_wp2_with fail
          go_loop [8] (fun x8 => ∃ u, u ≤ m ∧ x8 = .int .i64 (u : Nat)) (fun x8 => m - (intOf x8).toNat)
          case atStart => exact ⟨0, Nat.zero_le _, rfl⟩
          case round =>
            obtain ⟨u, hu, rfl⟩ := hrel
            by_cases hum : u < m
            · obtain ⟨b3, o3, hA3, hc3⟩ := VRow.atD HROW7.out (k := u) (by rw [HL3.out]; exact hum)
              obtain ⟨b4, o4, hA4, hc4⟩ := VRow.atD HROW6.out (k := u) (by rw [HL1.out]; exact hum)
              have hu0 : ¬ ((u : Int) < 0) := by omega
              have hA5 := hA1.symm.trans hA4
              cases hA5
              clear hA4
              have HTR := Lib.hid (fun h => reachS_trans (es := es) (r := root) hvm hum HIN.out h)
              cases hmore : (reachS m es (v : Int)).getD u false
              · rw [hmore] at hc3
                go_wp2
                try rw [← hA3]
                try rw [← hA1]
                go_round
                case rel => exact ⟨u + 1, by omega, by go_num⟩
                case measure => simp [intOf]; omega
              · rw [hmore] at hc3
                rw [HTR.out hmore] at hc4
                go_wp2
                try rw [← hA3]
                try rw [← hA1]
                go_round
                case rel => exact ⟨u + 1, by omega, by go_num⟩
                case measure => simp [intOf]; omega
            · have huu : u = m := by omega
              subst huu
              go_wp2
              try rw [← hA1]
              go_roundw
              case rel => exact ⟨v + 1, by omega, by go_num, HB6.out⟩
              case measure => simp [intOf]; omega
      · have hvv : v = m := by omega
        subst hvv
        go_wp2
        go_ret
        exact ⟨rfl, HB5.out.trans (HBR.out.mono HB5.out.size)⟩
end Go.Proofs.Ytjhdhnkikgmpoaa
