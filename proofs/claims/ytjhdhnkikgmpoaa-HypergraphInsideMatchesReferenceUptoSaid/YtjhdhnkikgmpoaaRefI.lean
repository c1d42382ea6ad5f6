/- The reference's inside values at one type of values: contract. Printed by gen27refi.py I. -/
import Derived.Test.YtjhdhnkikgmpoaaInsP
namespace Go.Proofs.Ytjhdhnkikgmpoaa
open Go.RowKit Go.Deep

set_option maxRecDepth 100000 in
set_option maxHeartbeats 8000000 in
theorem refI_any (w : World) (a aw : Option Addr) (c cw : Nat) (n : Int) (es : List Ed) (ws : List Int) (hr : EdRow w a es) (hn : es.length ≤ 1048576) (hw : VRow w aw (ws.map (Value.int .i64))) (hP : ∀ x ∈ ws, NB x) :
    Calls Try.prog 25 #[.agg #[.int .i64 n, .slice a es.length c], .slice aw ws.length cw] w (InsPost w (Value.int .i64) (insS nAdd nMul (0 : Int) (0 : Int) n es ws)) := by
  have hvalid := fun w' h => refvalid_any w' a c n es h (by unfold maxLen; omega)
  have HR := Lib.hid hr
  have HW := Lib.hid hw
  have HP := Lib.hid hP
  clear hr hw hP
  have hbox := HBox.box w n a es.length c
  have hB0 : Below w.heap.size w (w.alloc (.cells #[.int .i64 n, .slice a es.length c] 24)) := (Below.refl _ _).alloc (Nat.le_refl _) _
  have hcall := hvalid _ (HR.out.below (Nat.le_refl _) hB0)
  have HB0 := Lib.hid hB0
  have HBOX := Lib.hid hbox
  clear hbox hB0 hvalid
  go_enter Try.func25, Try.ntmps25
  go_wp2_with fail
  refine hcall.mono ?_
  rintro e w1 ⟨rfl, hb1⟩
  clear hcall
  have HB1 := Lib.hid (HB0.out.trans (hb1.mono (by simp)))
  have hx1 := HBOX.out.below (B := w.heap.size + 1) (by omega) (hb1.mono (by simp))
  have hs1 : w.heap.size < w1.heap.size := by have := hb1.size; simp at this; omega
  have HX1 := Lib.hid hx1
  obtain ⟨x0, x1⟩ := hx1
  clear hb1 HBOX
  cases hV : validB n es
  · go_wp2
    go_ret2
    have h1 : insS nAdd nMul (0 : Int) (0 : Int) n es ws = (1, []) := by unfold insS; rw [if_neg (by rw [hV]; simp)]
    rw [h1]
    exact ⟨HB1.out, none, 0, rfl, VRow.nil _ _, fun _ => ⟨rfl, rfl⟩⟩
  · have HV := Lib.hid hV
    clear hV
    by_cases hl : ws.length = es.length
    · have HL := Lib.hid hl
      have hlb : ((es.length : Int) != (es.length : Int)) = false := by simp
      rw [hl]
      obtain ⟨m, rfl, hok⟩ := ok_of_valid HV.out
      have hm1 := hok.n1
      have hm2 := hok.n2
      have hcall := reforder_any w1 a c m es (HR.out.below (Nat.le_refl _) HB1.out) (by unfold maxLen; omega) hok
      have HOK := Lib.hid hok
      clear hok
      go_wp2_with fail
      refine hcall.mono ?_
      rintro e w2 ⟨hb2, hres⟩
      clear hcall
      have HB2 := Lib.hid (HB1.out.trans (hb2.mono (Nat.le_of_lt hs1)))
      have hx2 := HX1.out.below (B := w1.heap.size) (by omega) hb2
      have hs2 : w.heap.size < w2.heap.size := by have := hb2.size; omega
      have HX2 := Lib.hid hx2
      clear x0 x1 hb2
      obtain ⟨x0, x1⟩ := hx2
      cases hO : ordL m es with
      | none =>
        rw [hO] at hres
        subst hres
        go_wp2
        go_ret2
        have h1 : insS nAdd nMul (0 : Int) (0 : Int) (m : Int) es ws = (9, []) := by unfold insS; rw [if_pos ⟨HV.out, HL.out⟩, Int.toNat_natCast, hO]
        rw [h1]
        exact ⟨HB2.out, none, 0, rfl, VRow.nil _ _, fun _ => ⟨rfl, rfl⟩⟩
      | some ls =>
        rw [hO] at hres
        obtain ⟨Ao, co, rfl, horow⟩ := hres
        have HO := Lib.hid hO
        have HROW := Lib.hid horow
        have hll := ordL_len hO
        have HMEM := Lib.hid (fun x hx => ordL_mem hO (x := x) hx)
        clear hO horow
        have hmk := run_make_row' (P := Try.prog) 35 3 (.int .i64 0) 8 Try.underlying35 info3 rfl .i64 .i64 m (by omega) (by omega)
        have hnew := OutSt.new w2 (.int .i64 0) m 3 (by unfold maxLen; omega)
        have h30 : Below w2.heap.size w2 (w2.alloc (.cells (madeCells #[.int .i64 0] m) 3)) := (Below.refl _ _).alloc (Nat.le_refl _) _
        have HX3 := Lib.hid (HX2.out.below (B := w2.heap.size) (by omega) h30)
        have HNEW := Lib.hid hnew
        have H30 := Lib.hid h30
        clear hnew h30 HX1 HX2
        go_upto_region 7 with fail
        clear hmk x0 x1
        obtain ⟨W0, hW0⟩ : ∃ W0, W0 = w2.alloc (.cells (madeCells #[.int .i64 0] m) 3) := ⟨_, rfl⟩
        rw [← hW0] at HNEW HX3 H30 ⊢
        obtain ⟨D, hD⟩ : ∃ D, D = w2.heap.size := ⟨_, rfl⟩
        rw [← hD] at HNEW H30 ⊢
        have hwD : w.heap.size < D := by omega
        have h2D : w2.heap.size ≤ D := by omega
        have HBW := Lib.hid (HB2.out.trans (H30.out.mono (Nat.le_of_lt hwD)))
        have HD := Lib.hid hD
        have HW0 := Lib.hid hW0
        clear hW0 hD
        have hinit : OutSt W0 D m 3 ((insGo nAdd nMul (0 : Int) (0 : Int) es ws (List.replicate m (0 : Int)) (ls.take 0)).map (Value.int .i64)) W0 := by
          rw [List.take_zero]
          show OutSt W0 D m 3 ((List.replicate m (0 : Int)).map (Value.int .i64)) W0
          rw [List.map_replicate]
          exact HNEW.out
        have HINIT := Lib.hid hinit
        clear hinit
        go_wp2_with fail
        go_loopw [9] (fun x9 wr => ∃ p out, p ≤ ls.length ∧ x9 = .int .i64 (p : Nat) ∧ out = insGo nAdd nMul (0 : Int) (0 : Int) es ws (List.replicate m (0 : Int)) (ls.take p) ∧ OutSt W0 D m 3 ((out).map (Value.int .i64)) wr) (fun x9 _ => ls.length - (intOf x9).toNat)
        case atStart => exact ⟨0, _, Nat.zero_le _, rfl, rfl, HINIT.out⟩
        case round =>
          obtain ⟨p, out, hp, rfl, hout, hst⟩ := hrel
          have HOUT := Lib.hid hout
          have HS := Lib.hid hst
          have HPO := Lib.hid (show ∀ x ∈ out, NB x from by rw [hout]; exact insGo_ok (fun _ _ _ _ => nAdd_b) (fun _ _ _ _ => nMul_b) ⟨by decide, by decide⟩ ⟨by decide, by decide⟩ HP.out es _ _ (fun x hx => by rw [List.eq_of_mem_replicate hx]; exact ⟨by decide, by decide⟩))
          clear hout hst
          by_cases hpl : p < ls.length
          · obtain ⟨bo, oo, hao, hbo, hcp0⟩ := HROW.out.at hpl
            obtain ⟨v, hv, hvm⟩ := HMEM.out _ (List.getElem_mem hpl)
            have HTK := Lib.hid (foldl_step (fun out v => out.set v.toNat (sumV nAdd nMul (0 : Int) (0 : Int) es ws out (idx es es.length v))) (List.replicate m (0 : Int)) ls p hpl)
            rw [hv] at hcp0 HTK
            have hv0 : ¬ ((v : Int) < 0) := by omega
            have HCP := Lib.hid (fun (w' : World) (h : Below D W0 w') => ((H30.out.trans h).cell (p := ⟨bo, oo + p, none⟩) (by rw [HD.out]; exact hbo)).trans hcp0)
            clear hv hcp0 hbo
            have HZS := Lib.hid (show sumV nAdd nMul (0 : Int) (0 : Int) es ws out (idx es 0 (v : Int)) = (0 : Int) by simp [idx, sumV])
            go_wp2_with fail
            obtain ⟨wo, rfl⟩ : ∃ wo : World, wo = wr := ⟨_, rfl⟩
            go_loopw [10, 11] (fun x10 x11 wr => ∃ k, k ≤ es.length ∧ x11 = .int .i64 (k : Nat) ∧ x10 = .int .i64 (sumV nAdd nMul (0 : Int) (0 : Int) es ws out (idx es k (v : Int))) ∧ OutSt W0 D m 3 ((out).map (Value.int .i64)) wr) (fun _ x11 _ => es.length - (intOf x11).toNat)
            case atStart => exact ⟨0, Nat.zero_le _, rfl, by rw [HZS.out], HS.out⟩
            case round =>
              clear HS
              obtain ⟨k, hk, rfl, rfl, hst⟩ := hrel
              have HS := Lib.hid hst
              clear hst
              by_cases hkl : k < es.length
              · obtain ⟨b, o, hab, hb, hc⟩ := HR.out.at hkl
                have HIS := Lib.hid (idx_step es k hkl (v : Int))
                have HTA := Lib.hid (show tailsA es ((k : Int)).toNat = es[k].tails by rw [Int.toNat_natCast, tailsA_at es k hkl])
                have HEO := Lib.hid (HOK.out.e _ (List.getElem_mem hkl))
                generalize es[k] = E at *
                have hrow0 := hc.row
                have hlen := hc.len
                have HC := Lib.hid (fun (w' : World) (h : Below D W0 w') => hc.below (w' := w') hb (Nat.le_refl _) (HBW.out.trans (h.mono (Nat.le_of_lt hwD))))
                have HXX := Lib.hid (fun (w' : World) (h : Below D W0 w') => HX3.out.below hwD h)
                clear hc
                unfold maxLen at hlen
                have hk0 : ¬ ((k : Int) < 0) := by omega
                obtain ⟨x0, x1⟩ := HXX.out _ HS.out.below
                rw [hab] at x1
                obtain ⟨c0, _, _, _, _, _, _⟩ := HC.out _ HS.out.below
                have hcp := HCP.out _ HS.out.below
                go_wp2_with fail
                go_region
                have HS6 := Lib.hid (HS.out.go ((Below.refl _ _).drew))
                clear x0 x1 c0 hcp HS
                generalize wr.drew = w6 at *
                by_cases hh : E.head = (v : Int)
                · have hhb : (E.head != (v : Int)) = false := by simp [hh]
                  try rw [hhb]
                  have HH := Lib.hid hh
                  clear hh
                  obtain ⟨x0, x1⟩ := HXX.out _ HS6.out.below
                  rw [hab] at x1
                  obtain ⟨_, c1, _, _, _, _, _⟩ := HC.out _ HS6.out.below
                  have hrw : VRow w6 aw (ws.map (Value.int .i64)) := HW.out.below (Nat.le_refl _) (HBW.out.trans (HS6.out.below.mono (Nat.le_of_lt hwD)))
                  obtain ⟨bw, ow, haw, _, hcw⟩ := hrw.at (k := k) (by rw [HL.out]; exact hkl)
                  have hwx : ws[k]'(by rw [HL.out]; exact hkl) = ws.getD k (0 : Int) := by simp [show k < ws.length by rw [HL.out]; exact hkl]
                  rw [hwx] at hcw
                  obtain ⟨X, hX⟩ : ∃ X, X = ws.getD k (0 : Int) := ⟨_, rfl⟩
                  rw [← hX] at hcw
                  have HPX := Lib.hid (show NB X by rw [hX]; exact getD_ok HP.out ⟨by decide, by decide⟩)
                  have HXD := Lib.hid hX
                  clear hX hwx hrw
                  go_wp2_with fail
                  clear hcw x0 x1 c1 hhb
                  obtain ⟨wm, rfl⟩ : ∃ wm : World, wm = w6 := ⟨_, rfl⟩
                  go_loopw [12, 13] (fun x12 x13 wr => ∃ j, j ≤ E.tails.length ∧ x13 = .int .i64 (j : Nat) ∧ x12 = .int .i64 (mulT nMul (0 : Int) out X (E.tails.take j)) ∧ OutSt W0 D m 3 ((out).map (Value.int .i64)) wr) (fun _ x13 _ => E.tails.length - (intOf x13).toNat)
                  case atStart => exact ⟨0, Nat.zero_le _, rfl, rfl, HS6.out⟩
                  case round =>
                    clear HS6
                    obtain ⟨j, hj, rfl, rfl, hst⟩ := hrel
                    have HS := Lib.hid hst
                    clear hst
                    obtain ⟨x0, x1⟩ := HXX.out _ HS.out.below
                    rw [hab] at x1
                    obtain ⟨_, c1, _, _, _, _, _⟩ := HC.out _ HS.out.below
                    have HPM := Lib.hid (show NB (mulT nMul (0 : Int) out X (E.tails.take j)) from mulT_ok (fun _ _ _ _ => nMul_b) ⟨by decide, by decide⟩ HPO.out HPX.out _)
                    by_cases hjl : j < E.tails.length
                    · obtain ⟨b3, o3, hta, hb3, hcx⟩ := hrow0.at hjl
                      have hBw3 : Below w.heap.size w wr := HBW.out.trans (HS.out.below.mono (Nat.le_of_lt hwD))
                      have hx := (hBw3.cell (p := ⟨b3, o3 + j, none⟩) hb3).trans hcx
                      have htm := List.getElem_mem hjl
                      have HTJ := Lib.hid (foldl_step (fun x (t : Int) => nMul x (out.getD t.toNat (0 : Int))) X E.tails j hjl)
                      obtain ⟨tn, htn⟩ := Int.eq_ofNat_of_zero_le (HEO.out.t _ htm).1
                      have htl : tn < m := by have := (HEO.out.t _ htm).2; omega
                      clear hcx hb3 hBw3 htm
                      generalize E.tails[j] = Y at *
                      subst htn
                      have htn0 : ¬ ((tn : Int) < 0) := by omega
                      have hj0 : ¬ ((j : Int) < 0) := by omega
                      obtain ⟨hcl, _⟩ := HS.out.cell ((0 : Int)) htl
                      obtain ⟨M, hM⟩ : ∃ M, M = mulT nMul (0 : Int) out X (E.tails.take j) := ⟨_, rfl⟩
                      obtain ⟨Z, hZ⟩ : ∃ Z, Z = out.getD tn (0 : Int) := ⟨_, rfl⟩
                      rw [← hM]
                      rw [← hZ] at hcl
                      have hpm : NB M := by rw [hM]; exact HPM.out
                      have hpz : NB Z := by rw [hZ]; exact getD_ok HPO.out ⟨by decide, by decide⟩
                      have HM := Lib.hid hM
                      have HZ := Lib.hid hZ
                      clear hM hZ
                      obtain ⟨a1, a2⟩ := hpm
                      obtain ⟨b1, b2⟩ := hpz
                      have m1 : 0 ≤ M * Z := Int.mul_nonneg a1 b1
                      have m2 : M * Z ≤ 65535 * 65535 := Int.mul_le_mul a2 b2 b1 (by decide)
                      have hw : wrap64 (M * Z) = M * Z := by unfold wrap64; omega
                      have ht : (M * Z).tmod 65536 = M * Z % 65536 := Int.tmod_eq_emod_of_nonneg m1
                      go_wp2
                      try rw [← hta]
                      try rw [← hab]
                      try rw [← haw]
                      try rw [← hao]
                      go_roundw
                      case rel =>
                        refine ⟨j + 1, by omega, by go_num, ?_, HS.out⟩
                        have h1 : nMul M Z = mulT nMul (0 : Int) out X (E.tails.take (j + 1)) := by
                          unfold mulT
                          rw [HTJ.out, HM.out, HZ.out, Int.toNat_natCast]
                          rfl
                        rw [← h1]
                        rfl
                      case measure => simp [intOf]; omega
                    · have hjj : j = E.tails.length := by omega
                      subst hjj
                      have hj0 : ¬ ((E.tails.length : Int) < 0) := by omega
                      have HPS := Lib.hid (show NB (sumV nAdd nMul (0 : Int) (0 : Int) es ws out (idx es k (v : Int))) from sumV_ok (fun _ _ _ _ => nAdd_b) (fun _ _ _ _ => nMul_b) ⟨by decide, by decide⟩ ⟨by decide, by decide⟩ HPO.out HP.out _ _)
                      obtain ⟨SS, hSS⟩ : ∃ SS, SS = sumV nAdd nMul (0 : Int) (0 : Int) es ws out (idx es k (v : Int)) := ⟨_, rfl⟩
                      obtain ⟨M, hM⟩ : ∃ M, M = mulT nMul (0 : Int) out X (E.tails.take E.tails.length) := ⟨_, rfl⟩
                      rw [← hSS, ← hM]
                      have hps : NB SS := by rw [hSS]; exact HPS.out
                      have hpm : NB M := by rw [hM]; exact HPM.out
                      have HM := Lib.hid hM
                      have HSS := Lib.hid hSS
                      clear hM hSS
                      obtain ⟨a1, a2⟩ := hps
                      obtain ⟨b1, b2⟩ := hpm
                      go_wp2
                      try rw [← hab]
                      try rw [← haw]
                      try rw [← hao]
                      try rw [HSS.out]
                      go_roundw
                      case rel =>
                        refine ⟨k + 1, by omega, by go_num, ?_, HS.out⟩
                        have h1 : nAdd SS M = sumV nAdd nMul (0 : Int) (0 : Int) es ws out (idx es (k + 1) (v : Int)) := by
                          rw [HIS.out, if_pos HH.out, HSS.out, HM.out, List.take_length]
                          unfold sumV
                          rw [List.foldl_append]
                          simp only [List.foldl_cons, List.foldl_nil]
                          rw [HTA.out, Int.toNat_natCast, ← HXD.out]
                        rw [← h1]
                        first | rfl | (rw [HSS.out]; rfl)
                      case measure => simp [intOf]; omega
                · have hhb : (E.head != (v : Int)) = true := by simpa using hh
                  have HH := Lib.hid hh
                  clear hh
                  go_wp2
                  try rw [← hab]
                  try rw [← hao]
                  go_roundw
                  case rel => exact ⟨k + 1, by omega, by go_num, by rw [HIS.out, if_neg HH.out, List.append_nil], HS6.out⟩
                  case measure => simp [intOf]; omega
              · have hkk : k = es.length := by omega
                subst hkk
                have hk0 : ¬ ((es.length : Int) < 0) := by omega
                obtain ⟨x0, x1⟩ := HX3.out.below hwD HS.out.below
                have hcp := HCP.out _ HS.out.below
                obtain ⟨hcl, hfr⟩ := HS.out.cell ((0 : Int)) hvm
                go_wp2
                try rw [← hao]
                go_roundw
                case rel =>
                  have h1 := HS.out.set v ((Value.int .i64) (sumV nAdd nMul (0 : Int) (0 : Int) es ws out (idx es es.length (v : Int))))
                  rw [← List.map_set] at h1
                  have h2 : out.set v (sumV nAdd nMul (0 : Int) (0 : Int) es ws out (idx es es.length (v : Int))) = insGo nAdd nMul (0 : Int) (0 : Int) es ws (List.replicate m (0 : Int)) (ls.take (p + 1)) := by
                    rw [HOUT.out]
                    unfold insGo
                    rw [HTK.out]
                    rfl
                  rw [h2] at h1
                  first | exact ⟨p + 1, by omega, by go_num, h1⟩ | exact ⟨p + 1, _, by omega, by go_num, rfl, h1⟩
                case measure => simp [intOf]; omega
          · have hpp : p = ls.length := by omega
            subst hpp
            go_wp2
            go_ret2
            have h1 : insS nAdd nMul (0 : Int) (0 : Int) (m : Int) es ws = (0, out) := by
              unfold insS
              rw [if_pos ⟨HV.out, HL.out⟩, Int.toNat_natCast, HO.out, HOUT.out, List.take_length]
            rw [h1]
            have hol : out.length = m := by rw [HOUT.out, insGo_len, List.length_replicate]
            exact ⟨HBW.out.trans (HS.out.below.mono (Nat.le_of_lt hwD)), some ⟨D, 0, none⟩, m, by rw [hol]; rfl, HS.out.row, fun h => absurd rfl h⟩
    · have hlb : ((ws.length : Int) != (es.length : Int)) = true := by simp; omega
      go_wp2
      go_ret2
      have h1 : insS nAdd nMul (0 : Int) (0 : Int) n es ws = (1, []) := by unfold insS; rw [if_neg (fun h => hl h.2)]
      rw [h1]
      exact ⟨HB1.out, none, 0, rfl, VRow.nil _ _, fun _ => ⟨rfl, rfl⟩⟩
end Go.Proofs.Ytjhdhnkikgmpoaa
