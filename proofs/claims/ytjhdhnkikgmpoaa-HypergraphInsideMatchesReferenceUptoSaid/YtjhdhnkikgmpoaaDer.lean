/- Derivable: contract. Printed by gen27der.py. -/
import Derived.Test.YtjhdhnkikgmpoaaFound
namespace Go.Proofs.Ytjhdhnkikgmpoaa
open Go.RowKit Go.Deep

set_option maxRecDepth 100000 in
set_option maxHeartbeats 8000000 in
theorem der_any (w : World) (a : Option Addr) (c n : Nat) (es : List Ed) (hr : EdRow w a es) (hn : es.length ≤ 1048576) (hok : Ok n es) (hocc : (occ es).length ≤ 1073741824) :
    Calls Try.prog 15 #[.agg #[.int .i64 n, .slice a es.length c]] w (BoolsPost w (derL n es)) := by
  have HR := Lib.hid hr
  have hn1 := hok.n1
  have hn2 := hok.n2
  have HOK := Lib.hid hok
  have HOCC := Lib.hid hocc
  clear hr hok hocc
  have hmk4 := run_make_row' (P := Try.prog) 27 4 (.bool false) 1 Try.underlying27 info4 rfl .i64 .i64 n (by omega) (by omega)
  have hmk3 := run_make_row' (P := Try.prog) 35 3 (.int .i64 0) 8 Try.underlying35 info3 rfl .i64 .i64 es.length (by omega) (by omega)
  have hmk57 := run_make_row' (P := Try.prog) 57 35 (.slice none 0 0) 24 Try.underlying57 info35 rfl .i64 .i64 n (by omega) (by omega)
  have hbox := HBox.box w n a es.length c
  have hb1 : Below (w.heap.size + 1) (w.alloc (.cells #[.int .i64 n, .slice a es.length c] 24)) ((((((w.alloc (.cells #[.int .i64 n, .slice a es.length c] 24)).alloc (.cells (madeCells #[.bool false] n) 4)).alloc (.cells #[.slice (some ⟨w.heap.size + 1, 0, none⟩) n n] 27)).alloc (.cells (madeCells #[.int .i64 0] es.length) 3)).alloc (.cells (madeCells #[.slice none 0 0] n) 35)).alloc (.cells #[.slice none 0 0] 35)) := (((((Below.refl _ _).alloc (by simp) _).alloc (by simp) _).alloc (by simp) _).alloc (by simp) _).alloc (by simp) _
  have hxx := HBox.below (B := w.heap.size + 1) hbox (by omega) hb1
  have hBW : Below w.heap.size w ((((((w.alloc (.cells #[.int .i64 n, .slice a es.length c] 24)).alloc (.cells (madeCells #[.bool false] n) 4)).alloc (.cells #[.slice (some ⟨w.heap.size + 1, 0, none⟩) n n] 27)).alloc (.cells (madeCells #[.int .i64 0] es.length) 3)).alloc (.cells (madeCells #[.slice none 0 0] n) 35)).alloc (.cells #[.slice none 0 0] 35)) := ((Below.refl _ _).alloc (Nat.le_refl _) _).trans (hb1.mono (by omega))
  have how := der_world w n es.length (.cells #[.int .i64 n, .slice a es.length c] 24) (by unfold maxLen; omega) (by unfold maxLen; omega)
  obtain ⟨W0, hW0⟩ : ∃ W0, W0 = ((((((w.alloc (.cells #[.int .i64 n, .slice a es.length c] 24)).alloc (.cells (madeCells #[.bool false] n) 4)).alloc (.cells #[.slice (some ⟨w.heap.size + 1, 0, none⟩) n n] 27)).alloc (.cells (madeCells #[.int .i64 0] es.length) 3)).alloc (.cells (madeCells #[.slice none 0 0] n) 35)).alloc (.cells #[.slice none 0 0] 35)) := ⟨_, rfl⟩
  rw [← hW0] at how hBW hxx
  have hst : GSt W0 (w.heap.size + 1) (w.heap.size + 1 + 1 + 1 + 1) n (List.replicate n (.slice none 0 0)) (usesL n (occI es 0)) [lRow (.slice none 0 0) [], pRow (w.heap.size + 1 + 1 + 1 + 1 + 1) 35 (.slice none 0 0), iRow (w.heap.size + 1 + 1 + 1) es.length (List.replicate es.length 0), pRow (w.heap.size + 1 + 1) 27 (.slice (some ⟨w.heap.size + 1, 0, none⟩) n n), tRow (w.heap.size + 1) n (List.replicate n false)] W0 := by
    refine ⟨?_, by simp [usesL_len], Below.refl _ _⟩
    rw [show usesL n (occI es 0) = List.replicate n [] from usesL_nil n]
    exact how
  have HST := Lib.hid hst
  have HX := Lib.hid hxx
  have HBW := Lib.hid hBW
  clear hst hxx hBW hbox how hb1
  obtain ⟨x0, x1⟩ := HX.out
  go_enter Try.func15, Try.ntmps15
  go_upto_region 6 with fail
  rw [← hW0]
  have HW0 := Lib.hid hW0
  clear hW0 hmk3 hmk4 hmk57
  go_wp2_with fail
  clear x0 x1
  go_loopw [29] (fun x29 wr => ∃ k vs V bs ls ms, k ≤ es.length ∧ x29 = .int .i64 (k : Nat) ∧ ls.length + bs.count false = n ∧ GSt W0 (w.heap.size + 1) (w.heap.size + 1 + 1 + 1 + 1) n vs (usesL n (occI es k)) [lRow V ls, pRow (w.heap.size + 1 + 1 + 1 + 1 + 1) 35 V, iRow (w.heap.size + 1 + 1 + 1) es.length ms, pRow (w.heap.size + 1 + 1) 27 (.slice (some ⟨w.heap.size + 1, 0, none⟩) n n), tRow (w.heap.size + 1) n bs] wr ∧ DI n es k bs ls [] [] ms ∧ DZ es k bs ms) (fun x29 _ => es.length - (intOf x29).toNat)
  case atStart => exact ⟨0, _, _, _, _, _, Nat.zero_le _, rfl, by simp, HST.out, DI.start n es, DZ.start _ _ _⟩
  case round =>
    obtain ⟨k, vs, V, bs, ls, ms, hk, rfl, hct, hst, hdi, hdz⟩ := hrel
    have HS := Lib.hid hst
    have HCT := Lib.hid hct
    have HDI := Lib.hid hdi
    have HDZ := Lib.hid hdz
    have hBw : Below w.heap.size w wr := HBW.out.trans (hst.below.mono (by omega))
    have HBw := Lib.hid hBw
    have hgt := hst.gt.2
    clear hst hBw hct hdi hdz
    by_cases hlt : k < es.length
    · obtain ⟨b, o, rfl, hb, hc⟩ := HR.out.at hlt
      have hrow0 := hc.row
      obtain ⟨c0, c1, c2, c3, c4, hrow, hlen⟩ := hc.below hb (Nat.le_refl _) HBw.out
      have hok1 := HOK.out.e _ (List.getElem_mem hlt)
      have HMEM := Lib.hid (List.getElem_mem hlt)
      have HDE := Lib.hid (fun bs' ls' (h : DI n es k bs' ls' [] [] ms) => h.edge hlt)
      have HZE := Lib.hid (fun bs' (h : DZ es k bs' ms) hz => h.edge HDI.out.mlen hlt hz)
      have HOC := Lib.hid ((occI_step es k).trans (by rw [tailsA_at es k hlt]))
      have hol := occI_len es (k + 1) (by omega)
      rw [HOC.out, List.length_append, List.length_map] at hol
      clear hc
      generalize es[k] = E at *
      obtain ⟨hd, hhd⟩ := Int.eq_ofNat_of_zero_le hok1.h0
      have hdn : hd < n := by have := hok1.h1; omega
      have HOL := Lib.hid (Nat.le_trans hol HOCC.out)
      have HHD := Lib.hid hhd
      have HOK1 := Lib.hid hok1
      clear hhd hok1 hol
      obtain ⟨M0, _, hmc, hmf⟩ := HS.out.cellI (m := w.heap.size + 1 + 1 + 1) (ms := ms) (List.mem_cons_of_mem _ (List.mem_cons_of_mem _ (List.mem_cons_self ..))) hlt
      go_upto_region 9 with fail
      have hed := EdBox wr E hrow hlen
      have hal : Below (wr).heap.size (wr) ((wr).alloc (.cells #[.int .i64 E.head, .slice E.ta E.tails.length E.tc, .int .i64 E.cost, .int .i64 E.l0, .int .i64 E.l1] 38)) := (Below.refl _ _).alloc (Nat.le_refl _) _
      have hs1 : (wr).heap.size < ((wr).alloc (.cells #[.int .i64 E.head, .slice E.ta E.tails.length E.tc, .int .i64 E.cost, .int .i64 E.l0, .int .i64 E.l1] 38)).heap.size := by simp
      have hst1 := HS.out.box E
      generalize (wr).alloc (.cells #[.int .i64 E.head, .slice E.ta E.tails.length E.tc, .int .i64 E.cost, .int .i64 E.l0, .int .i64 E.l1] 38) = w1 at *
      generalize hB1 : (wr).heap.size = B1 at *
      clear c0 c1 c2 c3 c4 hrow hed hmc hmf
      have hle : E.tails.length ≤ 1073741824 := by have := HOL.out; omega
      obtain ⟨hbx0, hbx1, _⟩ := bRow_cells (grid_in hst1.owns (List.mem_cons_self ..))
      obtain ⟨M1, _, hmc, hmf⟩ := hst1.cellI (m := w.heap.size + 1 + 1 + 1) (ms := ms) (List.mem_cons_of_mem _ (List.mem_cons_of_mem _ (List.mem_cons_of_mem _ (List.mem_cons_self ..)))) hlt
      have hk0 : ¬ ((k : Int) < 0) := by omega
      have HS1 := Lib.hid hst1
      clear hst1
      go_upto_region 10 with fail
      have hst2 := HS1.out.storeI (j := 3) (by simp) rfl k (E.tails.length : Int)
      clear hbx0 hbx1 hmc hmf
      generalize w1.setCell ⟨w.heap.size + 1 + 1 + 1, k, none⟩ (.int .i64 (E.tails.length : Int)) = w2 at *
      have hst3 : GSt W0 (w.heap.size + 1) (w.heap.size + 1 + 1 + 1 + 1) n vs (usesL n (occI es k)) [bRow B1 E, lRow V ls, pRow (w.heap.size + 1 + 1 + 1 + 1 + 1) 35 V, iRow (w.heap.size + 1 + 1 + 1) es.length (ms.set k (E.tails.length : Nat)), pRow (w.heap.size + 1 + 1) 27 (.slice (some ⟨w.heap.size + 1, 0, none⟩) n n), tRow (w.heap.size + 1) n bs] w2 := hst2
      have HS2 := Lib.hid hst3
      obtain ⟨_, hbx1, _⟩ := bRow_cells (grid_in hst3.owns (List.mem_cons_self ..))
      clear hst2 hst3
      go_wp2_with fail
      clear hbx1
      obtain ⟨wo, rfl⟩ : ∃ wo : World, wo = wr := ⟨_, rfl⟩
      unfold maxLen at hlen
      go_loopw [43] (fun x43 wr => ∃ j vs, j ≤ E.tails.length ∧ x43 = .int .i64 (j : Nat) ∧ GSt W0 (w.heap.size + 1) (w.heap.size + 1 + 1 + 1 + 1) n vs (usesL n (occI es k ++ (E.tails.take j).map fun t => (t, (k : Int)))) [bRow B1 E, lRow V ls, pRow (w.heap.size + 1 + 1 + 1 + 1 + 1) 35 V, iRow (w.heap.size + 1 + 1 + 1) es.length (ms.set k (E.tails.length : Nat)), pRow (w.heap.size + 1 + 1) 27 (.slice (some ⟨w.heap.size + 1, 0, none⟩) n n), tRow (w.heap.size + 1) n bs] wr) (fun x43 _ => E.tails.length - (intOf x43).toNat)
      case atStart => exact ⟨0, vs, Nat.zero_le _, rfl, by rw [List.take_zero, List.map_nil, List.append_nil]; exact HS2.out⟩
      case round =>
        obtain ⟨j, vs2, hj, rfl, hst⟩ := hrel
        have HS3 := Lib.hid hst
        clear hst
        by_cases hjl : j < E.tails.length
        · obtain ⟨b3, o3, hta, hb3, hcx⟩ := hrow0.at hjl
          have hBw3 : Below w.heap.size w wr := HBW.out.trans (HS3.out.below.mono (Nat.le_succ _))
          have hx := (hBw3.cell (p := ⟨b3, o3 + j, none⟩) hb3).trans hcx
          have htm := List.getElem_mem hjl
          have HTJ := Lib.hid (take_step E.tails j hjl)
          obtain ⟨tn, htn⟩ := Int.eq_ofNat_of_zero_le (HOK1.out.t _ htm).1
          have htl : tn < n := by have := (HOK1.out.t _ htm).2; omega
          clear hcx hb3 hBw3 htm
          generalize E.tails[j] = X at *
          subst htn
          go_upto_region 13 with fail
          obtain ⟨V2, l, hV, hl, hcg, hfg, hog, hap, hapb, hgw⟩ := grid_look HS3.out.owns HS3.out.len htl
          have hl2 : l = usesO (occI es k ++ (E.tails.take j).map fun t => (t, (k : Int))) (tn : Int) := by
            rw [List.getElem?_eq_getElem (by rw [usesL_len]; exact htl), usesL_get] at hl
            exact (Option.some.inj hl).symm
          have hll : l.length ≤ 2147483648 := by
            rw [hl2]
            refine Nat.le_trans (usesO_len _ _) ?_
            have := HOL.out
            simp
            omega
          obtain ⟨Av, cv, rfl, _⟩ := own_vrow hog
          have HL2 := Lib.hid hl2
          have HV := Lib.hid hV
          have HL := Lib.hid hl
          have HOG := Lib.hid hog
          have HAP := Lib.hid hap
          have HCG := Lib.hid hcg
          have HFG := Lib.hid hfg
          have htn0 : ¬ ((tn : Int) < 0) := by omega
          have hbase : w.heap.size + 1 ≤ (wr.alloc (.cells #[.int .i64 (k : Int)] 3)).heap.size := by have := HS3.out.gt; simp; omega
          clear hV hl hl2 hx hapb hog hap
          obtain ⟨i3, hi3, hz3, hs3, hb3⟩ := info_parts info3
          go_wp2_with (at_builtin; refine wpList_append_lies _ rfl _ _ 35 rfl (w.heap.size + 1) 3 i3 (.int .i64 0) 1 8 Try.underlying35 hi3 hz3 hs3 hb3 rfl (by decide) _ (l).length ((l).map (.int .i64)) rfl (World.ownsRow.alloc HOG.out _) _ 1 1 [.int .i64 ((k : Int))] rfl rfl (World.news_of_block (heap_alloc_new _ _)) (ints_one [(k : Int)]) (by decide) (by unfold maxLen; omega) (by omega) hbase _ rfl ?_)
          intro g1 cap1 w5 hown5 hgrow5 hat5 _
          have hgw5 : wr.grownBy w5 _ := grown_trans (grown_any (World.grownBy_alloc wr (.cells #[.int .i64 (k : Int)] 3) none)) hgrow5
          have hcg5 := hgw5.cell HCG.out HAP.out
          have hfg5 := (hgw5.frozen_far ⟨w.heap.size + 1 + 1 + 1 + 1, tn, none⟩ hgw HAP.out).trans HFG.out
          have hst5 := HS3.out.push htl HV.out HL.out (World.grownBy_alloc _ _ none) hgrow5 hown5 (by simpa using hat5)
          have HS5 := Lib.hid hst5
          clear hst5 hown5 hgrow5 hat5 hbase hcg hfg hgw5
          go_wp2
          try rw [← hta]
          go_roundw
          case rel =>
            have h1 := HS5.out
            rw [HL2.out, usesL_step, List.append_assoc, show ((E.tails.take j).map fun t => (t, (k : Int))) ++ [((tn : Int), (k : Int))] = (E.tails.take (j + 1)).map fun t => (t, (k : Int)) by rw [HTJ.out, List.map_append]; rfl] at h1
            have h2 := HL2.out
            rw [← h2] at h1
            exact ⟨j + 1, _, by omega, by go_num, h1⟩
          case measure => simp [intOf]; omega
        · have hjj : j = E.tails.length := by omega
          subst hjj
          have h1 := HS3.out.drop
          rw [List.take_length, ← HOC.out] at h1
          have HS4 := Lib.hid h1
          obtain ⟨hbx0, hbx1, _⟩ := bRow_cells (grid_in HS3.out.owns (List.mem_cons_self ..))
          rw [HHD.out] at hbx0
          clear h1
          have hls : ls.length ≤ 1048576 := by have := HCT.out; omega
          by_cases hz : E.tails.length = 0
          · have hzb : ((E.tails.length : Int) == 0) = true := by rw [hz]; rfl
            have hDer : Der es (hd : Int) := by
              rw [← HHD.out]
              exact Der.mk E HMEM.out (fun t ht => by rw [List.eq_nil_of_length_eq_zero hz] at ht; cases ht)
            have HDER := Lib.hid hDer
            have HZ := Lib.hid hz
            clear hDer hz
            have hfound := found_any _ _ _ _ _ _ _ _ _ _ _ _ _ _ _ _ _ HS4.out hdn hls
            go_wp2_with (go_at_call 30; refine hfound.mono ?_; rintro e w5 ⟨rfl, V5, hst5⟩)
            go_roundw
            case rel =>
              have hlb : hd < bs.length := by rw [HDI.out.blen]; exact hdn
              refine ⟨k + 1, vs2, V5, bs.set hd true, fL bs ls hd, _, by omega, by go_num, by rw [fL_count bs ls hd hlb]; exact HCT.out, by assumption, HDE.out _ _ (HDI.out.found hdn HDER.out), HZE.out _ (HDZ.out.found HOK.out hlb) (fun _ => ?_)⟩
              rw [HHD.out, inB_set _ _ _ hlb (by omega)]
              simp
            case measure => simp [intOf]; omega
          · have hzb : ((E.tails.length : Int) == 0) = false := by simpa using hz
            go_wp2
            go_roundw
            case rel =>
              refine ⟨k + 1, vs2, V, bs, ls, _, by omega, by go_num, HCT.out, HS4.out, HDE.out _ _ HDI.out, HZE.out _ HDZ.out (fun h => absurd h hz)⟩
            case measure => simp [intOf]; omega
    · have hkk : k = es.length := by omega
      subst hkk
      go_wp2_with fail
      have HVS := Lib.hid HOCC
      go_loopg [12] n (fun gk x12 wr => ∃ V bs ls ps ms, ls.length + bs.count false ≤ gk ∧ gk ≤ n ∧ GSt W0 (w.heap.size + 1) (w.heap.size + 1 + 1 + 1 + 1) n vs (usesL n (occI es es.length)) [lRow V ls, pRow (w.heap.size + 1 + 1 + 1 + 1 + 1) 35 V, iRow (w.heap.size + 1 + 1 + 1) es.length ms, pRow (w.heap.size + 1 + 1) 27 (.slice (some ⟨w.heap.size + 1, 0, none⟩) n n), tRow (w.heap.size + 1) n bs] wr ∧ DI n es es.length bs ls ps [] ms ∧ DZ es es.length bs ms)
      case atStart => exact ⟨V, bs, ls, [], ms, Nat.le_of_eq HCT.out, Nat.le_refl _, HS.out, HDI.out, HDZ.out⟩
      case round =>
        clear HS HCT HDI HDZ HBw hgt
        obtain ⟨V, bs, ls, ps, ms, hct, hgk, hst, hdi, hdz⟩ := hrel
        have hBw : Below w.heap.size w wr := HBW.out.trans (hst.below.mono (by omega))
        have HBw := Lib.hid hBw
        have HDI := Lib.hid hdi
        have HDZ := Lib.hid hdz
        have HCT := Lib.hid hct
        have HGK := Lib.hid hgk
        obtain ⟨q1, q2, _⟩ := hst.cellP (b := w.heap.size + 1 + 1 + 1 + 1 + 1) (List.mem_cons_of_mem _ (List.mem_cons_self ..))
        have HS := Lib.hid hst
        clear hst hBw hct hgk hdi hdz
        rcases List.eq_nil_or_concat ls with rfl | ⟨td, v, rfl⟩
        · obtain ⟨A7, cap7, rfl, _⟩ := own_vrow (show wr.ownsRow (w.heap.size + 1) 3 1 V ([] : List Int).length _ from grid_in HS.out.owns (List.mem_cons_self ..))
          obtain ⟨p1, _, _⟩ := HS.out.cellP (b := w.heap.size + 1 + 1) (List.mem_cons_of_mem _ (List.mem_cons_of_mem _ (List.mem_cons_of_mem _ (List.mem_cons_self ..))))
          go_wp2
          go_ret
          have h1 := HDI.out.final HDZ.out HOK.out
          obtain ⟨A8, cap8, hA8, hrow8⟩ := own_vrow (show wr.ownsRow (w.heap.size + 1) 4 1 (.slice (some ⟨w.heap.size + 1, 0, none⟩) n n) n (bs.map .bool) from grid_in HS.out.owns (List.mem_cons_of_mem _ (List.mem_cons_of_mem _ (List.mem_cons_of_mem _ (List.mem_cons_of_mem _ (List.mem_cons_self ..))))))
          cases hA8
          exact ⟨some ⟨w.heap.size + 1, 0, none⟩, n, (by show Ending.returned (.slice (some ⟨w.heap.size + 1, 0, none⟩) n n) = _; rw [derL_len]), by rw [← h1]; exact hrow8, HBw.out⟩
        · rw [List.concat_eq_append] at HS HDI HCT
          have htl : td.length ≤ 1048576 := by have := HCT.out; have := HGK.out; simp at *; omega
          obtain ⟨gb, cap7, rfl, hcap, hcell⟩ := HS.out.top
          obtain ⟨v, rfl, hvn⟩ := HDI.out.lt (v := v) (by simp)
          have HDP := Lib.hid HDI.out.pop
          have hm2 := HS.out.popF.storeP (j := 1) (by simp) rfl (.slice (some ⟨gb, 0, none⟩) td.length cap7)
          have hv0 : ¬ ((v : Int) < 0) := by omega
          go_upto_region 21 with fail
          have HS4 := Lib.hid hm2
          clear hm2 q1 q2 hcell HS
          generalize wr.setCell ⟨w.heap.size + 1 + 1 + 1 + 1 + 1, 0, none⟩ (.slice (some ⟨gb, 0, none⟩) td.length cap7) = w4 at *
          obtain ⟨Ak, ck, l, hl, hgc, hgv⟩ := HS4.out.rowAt hvn
          have hl2 : l = usesO (occI es es.length) (v : Int) := by
            rw [List.getElem?_eq_getElem (by rw [usesL_len]; exact hvn), usesL_get] at hl
            exact (Option.some.inj hl).symm
          have HL := Lib.hid hl2
          have HGV := Lib.hid hgv
          have HLG := Lib.hid hl
          have hll2 : l.length ≤ 1073741824 := by rw [hl2]; exact Nat.le_trans (usesO_len _ _) (Nat.le_trans (occI_len es es.length (Nat.le_refl _)) HOCC.out)
          have hdp : DI n es es.length bs td ((v : Int) :: ps) l ms := by rw [hl2]; exact HDP.out
          have HDQ := Lib.hid hdp
          clear hgv hl hl2 hdp HDP
          go_wp2_with fail
          clear hgc
          obtain ⟨wm, rfl⟩ : ∃ wm : World, wm = w4 := ⟨_, rfl⟩
          go_loopw [86] (fun x86 wr => ∃ p V2 bs2 ls2 ms2, p ≤ l.length ∧ x86 = .int .i64 (p : Nat) ∧ ls2.length + bs2.count false = td.length + bs.count false ∧ GSt W0 (w.heap.size + 1) (w.heap.size + 1 + 1 + 1 + 1) n vs (usesL n (occI es es.length)) [lRow V2 ls2, pRow (w.heap.size + 1 + 1 + 1 + 1 + 1) 35 V2, iRow (w.heap.size + 1 + 1 + 1) es.length ms2, pRow (w.heap.size + 1 + 1) 27 (.slice (some ⟨w.heap.size + 1, 0, none⟩) n n), tRow (w.heap.size + 1) n bs2] wr ∧ DI n es es.length bs2 ls2 ((v : Int) :: ps) (l.drop p) ms2 ∧ DZ es es.length bs2 ms2) (fun x86 _ => l.length - (intOf x86).toNat)
          case atStart => exact ⟨0, _, bs, td, ms, Nat.zero_le _, rfl, rfl, HS4.out, HDQ.out, HDZ.out⟩
          case round =>
            clear HS4 HDQ HDZ HDI HBw
            obtain ⟨p, V2, bs2, ls2, ms2, hp, rfl, hct2, hst, hdi, hdz⟩ := hrel
            have HS6 := Lib.hid hst
            have HDI := Lib.hid hdi
            have HDZ := Lib.hid hdz
            have HC2 := Lib.hid hct2
            clear hst hdi hdz hct2
            by_cases hpl : p < l.length
            · have hrow := HS6.out.rowV hvn HGV.out HLG.out
              obtain ⟨b2, o2, hak, _, hcp⟩ := hrow.at hpl
              have hmem := List.getElem_mem hpl
              have hdi2 := HDI.out
              rw [List.drop_eq_getElem_cons hpl] at hdi2
              have hh : ∃ i : Nat, l[p] = i ∧ i < es.length := by
                generalize l[p] = y at hmem ⊢
                rw [HL.out, mem_usesO] at hmem
                obtain ⟨i, h1, h2, _⟩ := mem_occI hmem
                exact ⟨i, h1, h2⟩
              clear hmem hrow
              obtain ⟨i, hhi, hil⟩ := hh
              rw [hhi] at hcp hdi2
              clear hhi
              obtain ⟨x, hx1, hmc, hmf⟩ := HS6.out.cellI (m := w.heap.size + 1 + 1 + 1) (ms := ms2) (List.mem_cons_of_mem _ (List.mem_cons_of_mem _ (List.mem_cons_self ..))) hil
              have hxg : ms2.getD i 0 = x := by rw [List.getD_eq_getElem?_getD, hx1]; rfl
              have hbd := hdi2.bound hil
              rw [hxg, tailsA_at es i hil] at hbd
              have HDT := Lib.hid (hdi2.step hil)
              obtain ⟨b, o, hab, hb, hc⟩ := HR.out.at hil
              have htlen := occ_take_len es (i + 1)
              rw [occ_step es i hil, List.length_append, occE_len] at htlen
              have hoc := HOCC.out
              have hxb2 : x ≤ 4611686018427387904 := by
                have h1 := hbd.2
                simp only [List.length_cons, List.length_drop] at h1
                omega
              have hxb1 := hbd.1
              have hi0 : ¬ ((i : Int) < 0) := by omega
              have HXG := Lib.hid hxg
              clear hbd hx1 hdi2 hxg htlen hoc
              go_upto_region 25 with fail
              have hm3 := HS6.out.storeI (j := 2) (by simp) rfl i (x - 1)
              clear hcp hmc hmf
              generalize wr.setCell ⟨w.heap.size + 1 + 1 + 1, i, none⟩ (.int .i64 (x - 1)) = w6 at *
              have HS7 := Lib.hid hm3
              obtain ⟨y, hy1, hmc, hmf⟩ := hm3.cellI (m := w.heap.size + 1 + 1 + 1) (ms := ms2.set i (x - 1)) (List.mem_cons_of_mem _ (List.mem_cons_of_mem _ (List.mem_cons_self ..))) hil
              have hyx : y = x - 1 := by
                rw [List.getElem?_set_self (by rw [HDI.out.mlen]; exact hil)] at hy1
                exact (Option.some.inj hy1).symm
              rw [hyx] at hmc
              have hBw : Below w.heap.size w w6 := HBW.out.trans (hm3.below.mono (by omega))
              obtain ⟨x0, x1⟩ := HX.out.below (by omega) hm3.below
              rw [hab] at x1
              obtain ⟨c0, c1, c2, c3, c4, _, _⟩ := hc.below hb (Nat.le_refl _) hBw
              obtain ⟨hd, hhd⟩ := Int.eq_ofNat_of_zero_le (HOK.out.e _ (List.getElem_mem hil)).h0
              have hdn : hd < n := by have := (HOK.out.e _ (List.getElem_mem hil)).h1; omega
              rw [hhd] at c0
              have HHD := Lib.hid hhd
              clear hm3 hy1 hyx hmf hc hBw hhd c1 c2 c3 c4
              have hdi3 : DI n es es.length bs2 ls2 ((v : Int) :: ps) (l.drop (p + 1)) (ms2.set i (x - 1)) := by rw [← HXG.out]; exact HDT.out
              have HD3 := Lib.hid hdi3
              have hls2 : ls2.length ≤ 1048576 := by have h1 := HCT.out; have h2 := HC2.out; have h3 := HGK.out; simp at h1; omega
              clear hdi3
              by_cases hx0 : x = 1
              · subst hx0
                have hder : Der es (hd : Int) := by
                  rw [← HHD.out]
                  refine HD3.out.der HOK.out hil ?_
                  rw [getD_set (by rw [HDI.out.mlen]; exact hil), if_pos rfl]
                  rfl
                have HDER := Lib.hid hder
                clear hder
                have hfound := found_any _ _ _ _ _ _ _ _ _ _ _ _ _ _ _ _ _ HS7.out hdn hls2
                go_wp2_with (go_at_call 30; refine hfound.mono ?_; rintro e w5 ⟨rfl, V5, hst5⟩)
                try rw [← hak]
                try rw [← hab]
                go_roundw
                case rel =>
                  have hlb : hd < bs2.length := by rw [HDI.out.blen]; exact hdn
                  refine ⟨p + 1, V5, bs2.set hd true, fL bs2 ls2 hd, _, by omega, by go_num, by rw [fL_count bs2 ls2 hd hlb]; exact HC2.out, by assumption, HD3.out.found hdn HDER.out, (HDZ.out.found HOK.out hlb).step HDI.out.mlen hil (fun _ => ?_)⟩
                  rw [HHD.out, inB_set _ _ _ hlb (by omega)]
                  simp
                case measure => simp [intOf]; omega
              · have hxz : (x - 1 == 0) = false := by simp; omega
                go_wp2
                try rw [← hak]
                try rw [← hab]
                go_roundw
                case rel =>
                  exact ⟨p + 1, V2, bs2, ls2, _, by omega, by go_num, HC2.out, HS7.out, HD3.out, HDZ.out.step HDI.out.mlen hil (fun h => absurd h (by omega))⟩
                case measure => simp [intOf]; omega
            · have hpp : p = l.length := by omega
              subst hpp
              go_wp2
              go_roundg (ls2.length + bs2.count false)
              case measure => have h1 := HCT.out; have h2 := HC2.out; simp at h1; omega
              case rel =>
                have h1 := HDI.out
                rw [List.drop_length] at h1
                exact ⟨V2, bs2, ls2, _, ms2, Nat.le_refl _, by have h1 := HCT.out; have h2 := HC2.out; have h3 := HGK.out; simp at h1; omega, HS6.out, h1, HDZ.out⟩
end Go.Proofs.Ytjhdhnkikgmpoaa
