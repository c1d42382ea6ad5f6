/- Inside at one type of values: contract. Printed by gen27ins.py B. -/
import Derived.Test.YtjhdhnkikgmpoaaInsP
namespace Go.Proofs.Ytjhdhnkikgmpoaa
open Go.RowKit Go.Deep

theorem mBz (w : World) : (method 190 32 (.agg #[]) "Zero").run Try.prog w = .ok (53, .agg #[]) w := by kernel_rfl
theorem mBa (w : World) : (method 190 32 (.agg #[]) "Add").run Try.prog w = .ok (50, .agg #[]) w := by kernel_rfl
theorem mBm (w : World) : (method 190 32 (.agg #[]) "Mul").run Try.prog w = .ok (51, .agg #[]) w := by kernel_rfl
theorem mBn (w : World) : (nilAhead 190 32 (.agg #[]) "Mul").run Try.prog w = .ok (some false) w := by kernel_rfl

set_option maxRecDepth 100000 in
set_option maxHeartbeats 8000000 in
theorem insB_any (w : World) (a aw : Option Addr) (c cw : Nat) (n : Int) (es : List Ed) (ws : List Bool) (hr : EdRow w a es) (hn : es.length ≤ 1048576) (hocc : (occ es).length ≤ 1073741824) (hw : VRow w aw (ws.map (Value.bool))) :
    Calls Try.prog 13 #[.agg #[.int .i64 n, .slice a es.length c], .iface 32 (.agg #[]), .slice aw ws.length cw] w (InsPost w (Value.bool) (insS or and false false n es ws)) := by
  have hvalid := fun w' h => valid_any w' a c n es h (by unfold maxLen; omega)
  have HR := Lib.hid hr
  have HW := Lib.hid hw
  have HOCC := Lib.hid hocc
  skip
  clear hr hw hocc
  have hbox := HBox.box w n a es.length c
  have hB0 : Below w.heap.size w (w.alloc (.cells #[.int .i64 n, .slice a es.length c] 24)) := (Below.refl _ _).alloc (Nat.le_refl _) _
  have hcall := hvalid _ (HR.out.below (Nat.le_refl _) hB0)
  have HB0 := Lib.hid hB0
  have HBOX := Lib.hid hbox
  clear hbox hB0 hvalid
  go_enter Try.func13, Try.ntmps13
  go_wp2_with fail
  refine hcall.mono ?_
  rintro e w1 ⟨rfl, hb1⟩
  clear hcall
  have HB1 := Lib.hid (HB0.out.trans (hb1.mono (by simp)))
  have hx1 := HBOX.out.below (B := w.heap.size + 1) (by omega) (hb1.mono (by simp))
  have hs1 : w.heap.size < w1.heap.size := by have := hb1.size; simp at this; omega
  have HX1 := Lib.hid hx1
  obtain ⟨x0, x1⟩ := hx1
  clear hb1 HBOX
  cases hV : validB n es
  · go_wp2
    go_ret2
    have h1 : insS or and false false n es ws = (1, []) := by unfold insS; rw [if_neg (by rw [hV]; simp)]
    rw [h1]
    exact ⟨HB1.out, none, 0, rfl, VRow.nil _ _, fun _ => ⟨rfl, rfl⟩⟩
  · have HV := Lib.hid hV
    clear hV
    by_cases hl : ws.length = es.length
    · have HL := Lib.hid hl
      have hlb : ((es.length : Int) != (es.length : Int)) = false := by simp
      rw [hl]
      obtain ⟨m, rfl, hok⟩ := ok_of_valid HV.out
      have hm1 := hok.n1
      have hm2 := hok.n2
      have hcall := order_any w1 a c m es (HR.out.below (Nat.le_refl _) HB1.out) hn hok HOCC.out
      have HOK := Lib.hid hok
      clear hok
      go_wp2_with fail
      refine hcall.mono ?_
      rintro e w2 ⟨hb2, hres⟩
      clear hcall
      have HB2 := Lib.hid (HB1.out.trans (hb2.mono (Nat.le_of_lt hs1)))
      have hx2 := HX1.out.below (B := w1.heap.size) (by omega) hb2
      have hs2 : w.heap.size < w2.heap.size := by have := hb2.size; omega
      have HX2 := Lib.hid hx2
      clear x0 x1 hb2
      obtain ⟨x0, x1⟩ := hx2
      cases hO : ordL m es with
      | none =>
        rw [hO] at hres
        subst hres
        go_wp2
        go_ret2
        have h1 : insS or and false false (m : Int) es ws = (9, []) := by unfold insS; rw [if_pos ⟨HV.out, HL.out⟩, Int.toNat_natCast, hO]
        rw [h1]
        exact ⟨HB2.out, none, 0, rfl, VRow.nil _ _, fun _ => ⟨rfl, rfl⟩⟩
      | some ls =>
        rw [hO] at hres
        obtain ⟨Ao, co, rfl, horow⟩ := hres
        have HO := Lib.hid hO
        have HROW := Lib.hid horow
        have hll := ordL_len hO
        have HMEM := Lib.hid (fun x hx => ordL_mem hO (x := x) hx)
        have hcall := edges_any w2 a c m es (HR.out.below (Nat.le_refl _) HB2.out) hn HOK.out
        clear hO horow
        go_wp2_with fail
        refine hcall.mono ?_
        rintro e w3 ⟨Ag, cg, rfl, hgrid, hb3⟩
        clear hcall
        obtain ⟨bg, og, rfl⟩ := hgrid.addr (by rw [edgesL_len]; omega)
        have HB3 := Lib.hid (HB2.out.trans (hb3.mono (Nat.le_of_lt hs2)))
        have hx3 := HX2.out.below (B := w2.heap.size) (by omega) hb3
        have hs3 : w2.heap.size ≤ w3.heap.size := hb3.size
        have hmk := run_make_row' (P := Try.prog) 27 4 (.bool false) 1 Try.underlying27 info4 rfl .i64 .i64 m (by omega) (by omega)
        have hnew := OutSt.new w3 (.bool false) m 4 (by unfold maxLen; omega)
        have h30 : Below w3.heap.size w3 (w3.alloc (.cells (madeCells #[.bool false] m) 4)) := (Below.refl _ _).alloc (Nat.le_refl _) _
        have HX3 := Lib.hid (hx3.below (B := w3.heap.size) (by omega) h30)
        have HB23 := Lib.hid (hb3.trans (h30.mono hs3))
        have HGRID := Lib.hid hgrid
        have HNEW := Lib.hid hnew
        have H30 := Lib.hid h30
        clear x0 x1 hb3 hnew h30 hgrid HX1 HX2
        obtain ⟨x0, x1⟩ := hx3
        go_upto_region 8 with fail
        clear hmk x0 x1
        obtain ⟨W0, hW0⟩ : ∃ W0, W0 = w3.alloc (.cells (madeCells #[.bool false] m) 4) := ⟨_, rfl⟩
        rw [← hW0] at HNEW HX3 HB23 H30 ⊢
        obtain ⟨D, hD⟩ : ∃ D, D = w3.heap.size := ⟨_, rfl⟩
        rw [← hD] at HNEW H30 ⊢
        have hwD : w.heap.size < D := by omega
        have h2D : w2.heap.size ≤ D := by omega
        have HBW := Lib.hid (HB3.out.trans (H30.out.mono (Nat.le_of_lt hwD)))
        have HD := Lib.hid hD
        have HW0 := Lib.hid hW0
        clear hW0 hD hs3
        have hinit : OutSt W0 D m 4 ((insGo or and false false es ws (List.replicate m false) (ls.take 0)).map (Value.bool)) W0 := by
          rw [List.take_zero]
          show OutSt W0 D m 4 ((List.replicate m false).map (Value.bool)) W0
          rw [List.map_replicate]
          exact HNEW.out
        have HINIT := Lib.hid hinit
        clear hinit
        go_wp2_with fail
        go_loopw [46] (fun x46 wr => ∃ p out, p ≤ ls.length ∧ x46 = .int .i64 (p : Nat) ∧ out = insGo or and false false es ws (List.replicate m false) (ls.take p) ∧ OutSt W0 D m 4 ((out).map (Value.bool)) wr) (fun x46 _ => ls.length - (intOf x46).toNat)
        case atStart => exact ⟨0, _, Nat.zero_le _, rfl, rfl, HINIT.out⟩
        case round =>
          obtain ⟨p, out, hp, rfl, hout, hst⟩ := hrel
          have HOUT := Lib.hid hout
          have HS := Lib.hid hst
          skip
          clear hout hst
          by_cases hpl : p < ls.length
          · have hrow2 : IRow wr Ao ls := HROW.out.below (Nat.le_refl _) (HB23.out.trans (HS.out.below.mono h2D))
            obtain ⟨bo, oo, hao, _, hcp⟩ := hrow2.at hpl
            obtain ⟨v, hv, hvm⟩ := HMEM.out _ (List.getElem_mem hpl)
            have HTK := Lib.hid (foldl_step (fun out v => out.set v.toNat (sumV or and false false es ws out (idx es es.length v))) (List.replicate m false) ls p hpl)
            rw [hv] at hcp HTK
            have hv0 : ¬ ((v : Int) < 0) := by omega
            obtain ⟨Ak, ck, _, hgl, hgc0, hgr⟩ := HGRID.out.cell (k := v) (by rw [edgesL_len]; exact hvm)
            have hb3r : Below D w3 wr := H30.out.trans HS.out.below
            have hglr : bg < wr.heap.size := Nat.lt_of_lt_of_le hgl hb3r.size
            have hgc := (hb3r.cell (p := ⟨bg, og + v, none⟩) (by rw [HD.out]; exact hgl)).trans hgc0
            have hgrow := hgr.row
            rw [edgesL_get] at hgc hgrow
            have hll3 := idx_len es es.length (v : Int)
            obtain ⟨l, hl⟩ : ∃ l, l = idx es es.length (v : Int) := ⟨_, rfl⟩
            rw [← hl] at hgc hgrow hll3
            have HLX := Lib.hid hl
            have HGR := Lib.hid hgrow
            clear hl hgrow hgr hgc0 hgl hrow2 hv
            have hmz := mBz
            go_upto_region 11 with fail
            clear hcp
            go_wp2_with (go_at_call 53; refine (bzero_any _).mono ?_; rintro e w5 ⟨rfl, hb5⟩; have hgc5 := (hb5.cell (p := ⟨bg, og + v, none⟩) hglr).trans hgc)
            have HS5 := Lib.hid (HS.out.go hb5)
            have HZS := Lib.hid (show sumV or and false false es ws out (l.take 0) = false from rfl)
            clear hb5 hgc hgc5 hmz hb3r HS hglr
            obtain ⟨wo, rfl⟩ : ∃ wo : World, wo = wr := ⟨_, rfl⟩
            go_loopw [14, 57] (fun x14 x57 wr => ∃ q, q ≤ l.length ∧ x57 = .int .i64 (q : Nat) ∧ x14 = .bool (sumV or and false false es ws out (l.take q)) ∧ OutSt W0 D m 4 ((out).map (Value.bool)) wr) (fun _ x57 _ => l.length - (intOf x57).toNat)
            case atStart => exact ⟨0, Nat.zero_le _, rfl, by rw [HZS.out], HS5.out⟩
            case round =>
              clear HS5
              obtain ⟨q, hq, rfl, rfl, hst⟩ := hrel
              have HS := Lib.hid hst
              clear hst
              by_cases hql : q < l.length
              · have hBr : Below D w3 wr := H30.out.trans HS.out.below
                have hrow3 := HGR.out.below (B := D) (by rw [HD.out]; exact Nat.le_refl _) hBr
                obtain ⟨b2, o2, hak, _, hcp⟩ := hrow3.at hql
                obtain ⟨i, hi, hil, E, hE, hEv⟩ := idx_nat (es := es) (k := es.length) (v := (v : Int)) (x := l[q]) (by rw [← HLX.out]; exact List.getElem_mem hql)
                have HTQ := Lib.hid (foldl_step (fun s i => or s (mulT and false out (ws.getD i.toNat false) (tailsA es i.toNat))) (false) l q hql)
                rw [hi] at hcp HTQ
                have hi0 : ¬ ((i : Int) < 0) := by omega
                have hBw : Below w.heap.size w wr := HBW.out.trans (HS.out.below.mono (Nat.le_of_lt hwD))
                have hrw : VRow wr aw (ws.map (Value.bool)) := HW.out.below (Nat.le_refl _) hBw
                obtain ⟨bw, ow, haw, _, hcw⟩ := hrw.at (k := i) (by rw [HL.out]; exact hil)
                have hwx : ws[i]'(by rw [HL.out]; exact hil) = ws.getD i false := by simp [show i < ws.length by rw [HL.out]; exact hil]
                rw [hwx] at hcw
                obtain ⟨x0, x1⟩ := HX3.out.below (by omega) HS.out.below
                obtain ⟨b, o, hab, hb, hc⟩ := HR.out.at hil
                have hEE : es[i] = E := by rw [List.getElem?_eq_getElem hil] at hE; exact Option.some.inj hE
                rw [hEE] at hc
                have hrow0 := hc.row
                obtain ⟨_, c1, _, _, _, _, hlen⟩ := hc.below hb (Nat.le_refl _) hBw
                have HTA := Lib.hid (show tailsA es ((i : Int)).toNat = E.tails by rw [Int.toNat_natCast, tailsA_at es i hil, hEE])
                have HEO := Lib.hid (HOK.out.e E (by rw [← hEE]; exact List.getElem_mem hil))
                rw [hab] at x1
                unfold maxLen at hlen
                obtain ⟨X, hX⟩ : ∃ X, X = ws.getD i false := ⟨_, rfl⟩
                rw [← hX] at hcw
                skip
                have HXD := Lib.hid hX
                clear hX hwx hi hE hEv hEE hc hrow3 hrw hb hBw hBr
                go_wp2_with fail
                clear hcp hcw x0 x1 c1
                obtain ⟨wm, rfl⟩ : ∃ wm : World, wm = wr := ⟨_, rfl⟩
                go_loopw [17, 72] (fun x17 x72 wr => ∃ j, j ≤ E.tails.length ∧ x72 = .int .i64 (j : Nat) ∧ x17 = .bool (mulT and false out X (E.tails.take j)) ∧ OutSt W0 D m 4 ((out).map (Value.bool)) wr) (fun _ x72 _ => E.tails.length - (intOf x72).toNat)
                case atStart => exact ⟨0, Nat.zero_le _, rfl, rfl, HS.out⟩
                case round =>
                  clear HS
                  obtain ⟨j, hj, rfl, rfl, hst⟩ := hrel
                  have HS := Lib.hid hst
                  clear hst
                  skip
                  by_cases hjl : j < E.tails.length
                  · obtain ⟨b3, o3, hta, hb3, hcx⟩ := hrow0.at hjl
                    have hBw3 : Below w.heap.size w wr := HBW.out.trans (HS.out.below.mono (Nat.le_of_lt hwD))
                    have hx := (hBw3.cell (p := ⟨b3, o3 + j, none⟩) hb3).trans hcx
                    have htm := List.getElem_mem hjl
                    have HTJ := Lib.hid (foldl_step (fun x (t : Int) => and x (out.getD t.toNat false)) X E.tails j hjl)
                    obtain ⟨tn, htn⟩ := Int.eq_ofNat_of_zero_le (HEO.out.t _ htm).1
                    have htl : tn < m := by have := (HEO.out.t _ htm).2; omega
                    clear hcx hb3 hBw3 htm
                    generalize E.tails[j] = Y at *
                    subst htn
                    have htn0 : ¬ ((tn : Int) < 0) := by omega
                    go_wp2_with fail
                    obtain ⟨hcl, _⟩ := HS.out.cell (false) htl
                    obtain ⟨M, hM⟩ : ∃ M, M = mulT and false out X (E.tails.take j) := ⟨_, rfl⟩
                    obtain ⟨Z, hZ⟩ : ∃ Z, Z = out.getD tn false := ⟨_, rfl⟩
                    rw [← hM]
                    rw [← hZ] at hcl
                    skip
                    skip
                    have HM := Lib.hid hM
                    have HZ := Lib.hid hZ
                    clear hM hZ hx
                    obtain ⟨S, hne, f, hf, hs⟩ := fam_of wr.heap.size wr
                    have hmb : D < wr.heap.size := HS.out.lt
                    have dc : ∀ s, (f s).cell? ⟨D, tn, none⟩ = some (.bool (Z)) := fun s => ((hf s).cell (p := ⟨D, tn, none⟩) hmb).trans hcl
                    have hmf : ∀ (fn : Fn) (first cap : Array Value) (w : World), (Instr.makeFunc fn first cap).run Try.prog w = .ok (.func fn first cap) w := fun _ _ _ _ => rfl
                    have hmm := mBm
                    have hmn := mBn
                    clear hcl
                    obtain ⟨s0, h0⟩ := hs wr.drew (Below.refl _ _).drew
                    refine wp_region_fast (S := fun w' => ∃ s, w' = f s) [(0, 2, 75557863725914323419136), (0, 131072, 151115727451828646838272), (0, 2048, 302231454903657293676544), (0, 524288, 604462909807314587353088), (12, 906694364710971881029632, 1208925819614629174706176), (16, 1208925819614629174706176, 2417851639229258349412352), (1, 75557863725914323419136, 4835703278458516698824704), (64, 4835703278458516698824704, 9671406556917033397649408), (193, 75557863725914323419136, 19342813113834066795298816), (290, 21911780480515153791549440, 38685626227668133590597632), (1023, 38685626227668133590597632, 131072)] [(0, 0, (0, 2, 75557863725914323419136)), (1, 0, (0, 131072, 151115727451828646838272)), (2, 0, (0, 2048, 302231454903657293676544)), (3, 0, (0, 524288, 604462909807314587353088)), (4, 0, (12, 906694364710971881029632, 1208925819614629174706176)), (5, 0, (16, 1208925819614629174706176, 2417851639229258349412352)), (6, 0, (1, 75557863725914323419136, 4835703278458516698824704)), (7, 0, (64, 4835703278458516698824704, 9671406556917033397649408)), (8, 0, (193, 75557863725914323419136, 19342813113834066795298816)), (9, 1, (290, 21911780480515153791549440, 38685626227668133590597632)), (10, 0, (1023, 38685626227668133590597632, 131072))] 0 (by as_aux_lemma => kernel_rfl) (by as_aux_lemma => kernel_rfl) (by as_aux_lemma => kernel_rfl) (fun _ d _ _ _ h => by cases d <;> exact h) ⟨s0, h0⟩ ?_
                    rw [h0]
                    clear h0
                    simp only [List.map_cons, List.map_nil, List.getElem?_cons_succ, List.getElem?_cons_zero]
                    repeat ((with_reducible refine mix_free (fun K hK => ?_)); go_simp; refine hK _ ?_; clear hK K)
                    refine mix_forced (fun K hK => ?_) ⟨_, rfl⟩
                    go_simp
                    refine (bmul_any _ _ _).mono ?_
                    rintro e w1 ⟨rfl, hb⟩
                    obtain ⟨s, rfl⟩ := hs w1 ((hf _).trans (hb.mono ((hf _).size)))
                    refine hK.out _ _ ⟨s, rfl⟩ (fun _ => ?_)
                    clear hK K hb
                    repeat ((with_reducible refine mix_free (fun K hK => ?_)); go_simp; refine hK _ ?_; clear hK K)
                    refine mix_nil ?_
                    clear dc hmf hmm hmn
                    have HS6 := Lib.hid (HS.out.go (hf s))
                    have HMZ := Lib.hid (show and M Z = mulT and false out X (E.tails.take (j + 1)) by
                      unfold mulT
                      rw [HTJ.out, HM.out, HZ.out, Int.toNat_natCast]
                      rfl)
                    clear hf hs hne
                    go_wp2
                    try rw [← hta]
                    try rw [← hak]
                    try rw [← hab]
                    try rw [← haw]
                    go_roundw
                    case rel => exact ⟨j + 1, by omega, by go_num, by rw [HMZ.out], HS6.out⟩
                    case measure => simp [intOf]; omega
                  · have hjj : j = E.tails.length := by omega
                    subst hjj
                    skip
                    have hma := mBa
                    go_wp2_with (go_at_call 50; refine (badd_any _ _ _ ).mono ?_; rintro e w6 ⟨rfl, hb6⟩)
                    try rw [← hak]
                    try rw [← hab]
                    try rw [← haw]
                    go_roundw
                    case rel =>
                      refine ⟨q + 1, by omega, by go_num, ?_, HS.out.go hb6⟩
                      unfold sumV
                      rw [HTQ.out, HTA.out, Int.toNat_natCast, ← HXD.out]
                    case measure => simp [intOf]; omega
              · have hqq : q = l.length := by omega
                subst hqq
                obtain ⟨_, hfr⟩ := HS.out.cell (false) hvm
                obtain ⟨hcl, _⟩ := HS.out.cell (false) hvm
                go_wp2
                try rw [← hao]
                go_roundw
                case rel =>
                  have h1 := HS.out.set v ((Value.bool) (sumV or and false false es ws out (l.take l.length)))
                  rw [List.take_length] at h1
                  rw [← List.map_set] at h1
                  refine ⟨p + 1, _, by omega, by go_num, ?_, h1⟩
                  rw [HOUT.out]
                  unfold insGo
                  rw [HTK.out, HLX.out]
                  rfl
                case measure => simp [intOf]; omega
          · have hpp : p = ls.length := by omega
            subst hpp
            go_wp2
            go_ret2
            have h1 : insS or and false false (m : Int) es ws = (0, out) := by
              unfold insS
              rw [if_pos ⟨HV.out, HL.out⟩, Int.toNat_natCast, HO.out, HOUT.out, List.take_length]
            rw [h1]
            have hol : out.length = m := by rw [HOUT.out, insGo_len, List.length_replicate]
            exact ⟨HBW.out.trans (HS.out.below.mono (Nat.le_of_lt hwD)), some ⟨D, 0, none⟩, m, by rw [hol]; rfl, HS.out.row, fun h => absurd rfl h⟩
    · have hlb : ((ws.length : Int) != (es.length : Int)) = true := by simp; omega
      go_wp2
      go_ret2
      have h1 : insS or and false false n es ws = (1, []) := by unfold insS; rw [if_neg (fun h => hl h.2)]
      rw [h1]
      exact ⟨HB1.out, none, 0, rfl, VRow.nil _ _, fun _ => ⟨rfl, rfl⟩⟩
end Go.Proofs.Ytjhdhnkikgmpoaa
