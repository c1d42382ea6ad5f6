/- Order: contract. Printed by gen27ord.py. -/
import Derived.Test.YtjhdhnkikgmpoaaGridF
namespace Go.Proofs.Ytjhdhnkikgmpoaa
open Go.RowKit Go.Deep

set_option maxRecDepth 100000 in
set_option maxHeartbeats 8000000 in
theorem order_any (w : World) (a : Option Addr) (c n : Nat) (es : List Ed) (hr : EdRow w a es) (hn : es.length ≤ 1048576) (hok : Ok n es) (hocc : (occ es).length ≤ 1073741824) :
    Calls Try.prog 22 #[.agg #[.int .i64 n, .slice a es.length c]] w (OrderPost w (ordL n es)) := by
  have HR := Lib.hid hr
  have hn1 := hok.n1
  have hn2 := hok.n2
  have HOK := Lib.hid hok
  have HOCC := Lib.hid hocc
  clear hr hok hocc
  have hmk3 := run_make_row' (P := Try.prog) 35 3 (.int .i64 0) 8 Try.underlying35 info3 rfl .i64 .i64 n (by omega) (by omega)
  have hmk57 := run_make_row' (P := Try.prog) 57 35 (.slice none 0 0) 24 Try.underlying57 info35 rfl .i64 .i64 n (by omega) (by omega)
  have hbox := HBox.box w n a es.length c
  have hst0 := own_made (w.alloc (.cells #[.int .i64 n, .slice a es.length c] 24)) (.int .i64 0) n 3 (w.heap.size + 1) (by simp) (by unfold maxLen; omega)
  have hBW : Below w.heap.size w (((w.alloc (.cells #[.int .i64 n, .slice a es.length c] 24)).alloc (.cells (madeCells #[.int .i64 0] n) 3)).alloc (.cells (madeCells #[.slice none 0 0] n) 35)) := (((Below.refl _ _).alloc (Nat.le_refl _) _).alloc (by simp) _).alloc (by simp; omega) _
  have hxx := HBox.below (B := w.heap.size + 1) hbox (by omega) (((Below.refl _ _).alloc (by simp) (.cells (madeCells #[.int .i64 0] n) 3)).alloc (by simp) (.cells (madeCells #[.slice none 0 0] n) 35))
  have how := (Owns.nil (w.alloc (.cells #[.int .i64 n, .slice a es.length c] 24)) (w.heap.size + 1)).add (World.grownBy_alloc _ _ none) hst0 (fun k hk => by cases hk; exact Nat.le_refl _)
  have hgr := grid_over how n (by simp) (by unfold maxLen; omega)
  have e1 : (w.alloc (.cells #[.int .i64 n, .slice a es.length c] 24)).heap.size = w.heap.size + 1 := by simp
  have e2 : ((w.alloc (.cells #[.int .i64 n, .slice a es.length c] 24)).alloc (.cells (madeCells #[.int .i64 0] n) 3)).heap.size = w.heap.size + 1 + 1 := by simp
  rw [e1, e2] at hgr
  obtain ⟨W0, hW0⟩ : ∃ W0, W0 = ((w.alloc (.cells #[.int .i64 n, .slice a es.length c] 24)).alloc (.cells (madeCells #[.int .i64 0] n) 3)).alloc (.cells (madeCells #[.slice none 0 0] n) 35) := ⟨_, rfl⟩
  rw [← hW0] at hgr hBW hxx
  have hst : GSt W0 (w.heap.size + 1) (w.heap.size + 1 + 1) n (List.replicate n (.slice none 0 0)) (usesL n (occ (es.take 0))) [iRow (w.heap.size + 1) n (missL n (occ (es.take 0)))] W0 := by
    rw [List.take_zero, usesL_nil, missL_nil]
    refine ⟨?_, by simp, Below.refl _ _⟩
    unfold iRow
    rw [List.map_replicate]
    exact hgr
  have HST := Lib.hid hst
  have HX := Lib.hid hxx
  have HBW := Lib.hid hBW
  clear hst hxx hBW hbox hgr how hst0 e1 e2
  obtain ⟨x0, x1⟩ := HX.out
  go_enter Try.func22, Try.ntmps22
  go_upto_region 3 with fail
  rw [← hW0]
  have HW0 := Lib.hid hW0
  clear hW0 hmk3 hmk57
  go_wp2_with fail
  clear x0 x1
  go_loopw [25] (fun x25 wr => ∃ k vs, k ≤ es.length ∧ x25 = .int .i64 (k : Nat) ∧ GSt W0 (w.heap.size + 1) (w.heap.size + 1 + 1) n vs (usesL n (occ (es.take k))) [iRow (w.heap.size + 1) n (missL n (occ (es.take k)))] wr) (fun x25 _ => es.length - (intOf x25).toNat)
  case atStart => exact ⟨0, _, Nat.zero_le _, rfl, HST.out⟩
  case round =>
    obtain ⟨k, vs, hk, rfl, hst⟩ := hrel
    have HS := Lib.hid hst
    have hBw : Below w.heap.size w wr := HBW.out.trans (hst.below.mono (by omega))
    have HBw := Lib.hid hBw
    have hgt := hst.gt.2
    clear hst hBw
    by_cases hlt : k < es.length
    · obtain ⟨b, o, rfl, hb, hc⟩ := HR.out.at hlt
      have hrow0 := hc.row
      obtain ⟨c0, c1, c2, c3, c4, hrow, hlen⟩ := hc.below hb (Nat.le_refl _) HBw.out
      have hok1 := HOK.out.e _ (List.getElem_mem hlt)
      have HOC := Lib.hid (occ_step es k hlt)
      have hol := occ_take_len es (k + 1)
      rw [HOC.out, List.length_append, occE_len] at hol
      clear hc
      generalize es[k] = E at *
      obtain ⟨hd, hhd⟩ := Int.eq_ofNat_of_zero_le hok1.h0
      have hdn : hd < n := by have := hok1.h1; omega
      have HOL := Lib.hid (Nat.le_trans hol HOCC.out)
      have HHD := Lib.hid hhd
      have HOK1 := Lib.hid hok1
      clear hhd hok1 hol
      go_upto_region 6 with fail
      have hed := EdBox wr E hrow hlen
      have hal : Below (wr).heap.size (wr) ((wr).alloc (.cells #[.int .i64 E.head, .slice E.ta E.tails.length E.tc, .int .i64 E.cost, .int .i64 E.l0, .int .i64 E.l1] 38)) := (Below.refl _ _).alloc (Nat.le_refl _) _
      have hs1 : (wr).heap.size < ((wr).alloc (.cells #[.int .i64 E.head, .slice E.ta E.tails.length E.tc, .int .i64 E.cost, .int .i64 E.l0, .int .i64 E.l1] 38)).heap.size := by simp
      have hst1 := HS.out.box E
      generalize (wr).alloc (.cells #[.int .i64 E.head, .slice E.ta E.tails.length E.tc, .int .i64 E.cost, .int .i64 E.l0, .int .i64 E.l1] 38) = w1 at *
      generalize hB1 : (wr).heap.size = B1 at *
      clear c0 c1 c2 c3 c4 hrow hed
      have hls : (occ (es.take k)).length ≤ 1073741824 := by have := HOL.out; omega
      have hle : E.tails.length ≤ 1073741824 := by have := HOL.out; omega
      obtain ⟨hbx0, hbx1, hb1⟩ := bRow_cells (grid_in hst1.owns (List.mem_cons_self ..))
      obtain ⟨M0, hM0, hmc, hmf⟩ := hst1.cellI (m := w.heap.size + 1) (ms := missL n (occ (es.take k))) (List.mem_cons_of_mem _ (List.mem_cons_self ..)) hdn
      have hM1 : M0 = (missO (occ (es.take k)) (hd : Int) : Nat) := by
        rw [List.getElem?_eq_getElem (by rw [missL_len]; exact hdn), missL_get] at hM0
        exact (Option.some.inj hM0).symm
      rw [hM1] at hmc
      have hml := missO_len (occ (es.take k)) (hd : Int)
      obtain ⟨M, hM⟩ : ∃ M, M = missO (occ (es.take k)) (hd : Int) := ⟨_, rfl⟩
      rw [← hM] at hmc hml
      have HM := Lib.hid hM
      rw [HHD.out] at hbx0
      have hwr : IntKind.i64.wrap ((M : Int) + (E.tails.length : Int)) = (M : Int) + (E.tails.length : Int) := IntWalk.i64_in _ (by omega)
      obtain ⟨S, hne, f, hf, hs⟩ := fam_of w1.heap.size w1
      have d0 : ∀ s, (f s).cell? ⟨B1, 0, none⟩ = some (.int .i64 (hd : Int)) := fun s => ((hf s).cell (p := ⟨B1, 0, none⟩) hb1).trans hbx0
      have d1 : ∀ s, (f s).cell? ⟨B1, 1, none⟩ = some (.slice E.ta E.tails.length E.tc) := fun s => ((hf s).cell (p := ⟨B1, 1, none⟩) hb1).trans hbx1
      have hmb : w.heap.size + 1 < w1.heap.size := by omega
      have dm : ∀ s, (f s).cell? ⟨w.heap.size + 1, hd, none⟩ = some (.int .i64 (M : Int)) := fun s => ((hf s).cell (p := ⟨w.heap.size + 1, hd, none⟩) hmb).trans hmc
      have df : ∀ s, (f s).frozen? ⟨w.heap.size + 1, hd, none⟩ = false := fun s => ((hf s).frozen (p := ⟨w.heap.size + 1, hd, none⟩) hmb).trans hmf
      have HS1 := Lib.hid hst1
      clear hst1 hM hM0 hM1 hmc hmf hbx0 hbx1 hb1
      go_wp2_with fail
      obtain ⟨s0, h0⟩ := hs w1.drew (Below.refl _ _).drew
      refine wp_region_fast (S := fun w' => ∃ s, w' = f s) [(0, 16, 536870912), (0, 128, 1073741824), (2, 1073741824, 2147483648), (5, 2684354560, 4294967296), (8, 4294967296, 8589934592), (0, 128, 17179869184), (32, 17179869184, 34359738368), (64, 34359738368, 68719476736), (144, 77309411328, 137438953472), (511, 2684354560, 274877906944), (1023, 412316860416, 0)] [(0, 0, (0, 16, 536870912)), (1, 0, (0, 128, 1073741824)), (2, 0, (2, 1073741824, 2147483648)), (3, 0, (5, 2684354560, 4294967296)), (4, 0, (8, 4294967296, 8589934592)), (5, 0, (0, 128, 17179869184)), (6, 0, (32, 17179869184, 34359738368)), (7, 0, (64, 34359738368, 68719476736)), (8, 0, (144, 77309411328, 137438953472)), (9, 0, (511, 2684354560, 274877906944)), (10, 2, (1023, 412316860416, 0))] 1024 (by as_aux_lemma => kernel_rfl) (by as_aux_lemma => kernel_rfl) (by as_aux_lemma => kernel_rfl) (fun _ d _ _ _ h => by cases d <;> exact h) ⟨s0, h0⟩ ?_
      rw [h0]
      clear h0
      simp only [List.map_cons, List.map_nil, List.getElem?_cons_succ, List.getElem?_cons_zero]
      repeat ((with_reducible refine mix_free (fun K hK => ?_)); go_simp; refine hK _ ?_; clear hK K)
      refine mix_last (fun K hK => ?_)
      go_simp
      refine hK.out _ _ ?_
      clear hK K
      refine mix_nil ?_
      have hst2 := (HS1.out.same (grown_of_below (hf s0))).storeI (j := 1) (by simp) rfl hd ((M : Int) + (E.tails.length : Int))
      generalize (f s0).setCell ⟨w.heap.size + 1, hd, none⟩ (.int .i64 ((M : Int) + (E.tails.length : Int))) = w2 at *
      have e2 := missL_step n (occ (es.take k)) E hd HHD.out
      rw [← HOC.out, ← HM.out] at e2
      have hst3 : GSt W0 (w.heap.size + 1) (w.heap.size + 1 + 1) n vs (usesL n (occ (es.take k))) [bRow B1 E, iRow (w.heap.size + 1) n (missL n (occ (es.take (k + 1))))] w2 := by
        rw [← e2]; exact hst2
      have HS2 := Lib.hid hst3
      obtain ⟨_, hbx1, _⟩ := bRow_cells (grid_in hst3.owns (List.mem_cons_self ..))
      clear d0 d1 dm df e2 hst2 hst3
      go_wp2_with fail
      clear hbx1 hwr
      obtain ⟨wo, rfl⟩ : ∃ wo : World, wo = wr := ⟨_, rfl⟩
      unfold maxLen at hlen
      go_loopw [42] (fun x42 wr => ∃ j vs, j ≤ E.tails.length ∧ x42 = .int .i64 (j : Nat) ∧ GSt W0 (w.heap.size + 1) (w.heap.size + 1 + 1) n vs (usesL n (occ (es.take k) ++ (E.tails.take j).map fun t => (t, E.head))) [bRow B1 E, iRow (w.heap.size + 1) n (missL n (occ (es.take (k + 1))))] wr) (fun x42 _ => E.tails.length - (intOf x42).toNat)
      case atStart => exact ⟨0, vs, Nat.zero_le _, rfl, by rw [List.take_zero, List.map_nil, List.append_nil]; exact HS2.out⟩
      case round =>
        obtain ⟨j, vs2, hj, rfl, hst⟩ := hrel
        have HS3 := Lib.hid hst
        clear hst
        by_cases hjl : j < E.tails.length
        · obtain ⟨b3, o3, hta, hb3, hcx⟩ := hrow0.at hjl
          have hBw3 : Below w.heap.size w wr := HBW.out.trans (HS3.out.below.mono (Nat.le_succ _))
          have hx := (hBw3.cell (p := ⟨b3, o3 + j, none⟩) hb3).trans hcx
          have htm := List.getElem_mem hjl
          have HTJ := Lib.hid (take_step E.tails j hjl)
          obtain ⟨tn, htn⟩ := Int.eq_ofNat_of_zero_le (HOK1.out.t _ htm).1
          have htl : tn < n := by have := (HOK1.out.t _ htm).2; omega
          clear hcx hb3 hBw3 htm
          generalize E.tails[j] = X at *
          subst htn
          go_wp2_with fail
          obtain ⟨V, l, hV, hl, hcg, hfg, hog, hap, hapb, hgw⟩ := grid_look HS3.out.owns HS3.out.len htl
          obtain ⟨hbx, _, _⟩ := bRow_cells (grid_in HS3.out.owns (List.mem_cons_self ..))
          have hl2 : l = usesO (occ (es.take k) ++ (E.tails.take j).map fun t => (t, E.head)) (tn : Int) := by
            rw [List.getElem?_eq_getElem (by rw [usesL_len]; exact htl), usesL_get] at hl
            exact (Option.some.inj hl).symm
          have hll : l.length ≤ 2147483648 := by
            rw [hl2]
            refine Nat.le_trans (usesO_len _ _) ?_
            simp
            omega
          have HL2 := Lib.hid hl2
          have HV := Lib.hid hV
          have HL := Lib.hid hl
          clear hV hl hl2 hx
          obtain ⟨S2, hne2, f, hf, hs⟩ := fam_grown wr V.ownBlock
          have d0 : ∀ s, (f s).cell? ⟨B1, 0, none⟩ = some (.int .i64 E.head) := fun s => (hf s).cell hbx hapb
          have dg : ∀ s, (f s).cell? ⟨w.heap.size + 1 + 1, tn, none⟩ = some V := fun s => (hf s).cell hcg hap
          have df : ∀ s, (f s).frozen? ⟨w.heap.size + 1 + 1, tn, none⟩ = false := fun s => ((hf s).frozen_far ⟨w.heap.size + 1 + 1, tn, none⟩ hgw hap).trans hfg
          clear hcg hfg hbx
          obtain ⟨s0, h0⟩ := hs wr.drew ⟨rfl, rfl, rfl, Nat.le_refl _, fun _ _ _ => rfl⟩
          have ho0 : (f s0).ownsRow (w.heap.size + 1) 3 1 V l.length (l.map (.int .i64)) := h0 ▸ World.ownsRow.drew hog
          have hg0 : wr.grownBy (f s0) none := h0 ▸ ⟨rfl, rfl, rfl, Nat.le_refl _, fun _ _ _ => rfl⟩
          have HOG := Lib.hid hog
          clear hog
          obtain ⟨i3, hi3, hz3, hs3, hb3⟩ := info_parts info3
          refine wp_region_fast (S := fun w' => ∃ s, w' = f s) [(0, 32, 70368744177664), (0, 512, 140737488355328), (0, 32, 281474976710656), (0, 512, 562949953421312), (12, 844424930131968, 1125899906842624), (16, 1125899906842624, 2251799813685248), (0, 128, 4503599627370496), (64, 4503599627370496, 9007199254740992), (128, 9007199254740992, 18014398509481984), (288, 20266198323167232, 36028797018963968), (1023, 211106232532992, 72057594037927936), (2047, 108086391056891904, 0)] [(0, 0, (0, 32, 70368744177664)), (1, 0, (0, 512, 140737488355328)), (2, 0, (0, 32, 281474976710656)), (3, 0, (0, 512, 562949953421312)), (4, 0, (12, 844424930131968, 1125899906842624)), (5, 0, (16, 1125899906842624, 2251799813685248)), (6, 0, (0, 128, 4503599627370496)), (7, 0, (64, 4503599627370496, 9007199254740992)), (8, 1, (128, 9007199254740992, 18014398509481984)), (9, 1, (288, 20266198323167232, 36028797018963968)), (10, 0, (1023, 211106232532992, 72057594037927936)), (11, 2, (2047, 108086391056891904, 0))] 2048 (by as_aux_lemma => kernel_rfl) (by as_aux_lemma => kernel_rfl) (by as_aux_lemma => kernel_rfl) (fun _ d _ _ _ h => by cases d <;> exact h) ⟨s0, h0⟩ ?_
          rw [h0]
          clear h0
          simp only [List.map_cons, List.map_nil, List.getElem?_cons_succ, List.getElem?_cons_zero]
          repeat ((with_reducible refine mix_free (fun K hK => ?_)); go_simp; refine hK _ ?_; clear hK K)
          refine mix_forced (fun K hK => ?_) ⟨_, rfl⟩
          go_simp
          obtain ⟨s1, h1⟩ := hs ((f s0).alloc (.cells #[.int .i64 (E.head)] 3)) (grown_any (grown_trans hg0 (World.grownBy_alloc _ _ _)))
          refine hK.out _ _ ⟨s1, h1⟩ (fun _ => ?_)
          have hn1 : (f s1).heap[(f s0).heap.size]? = some (.cells #[.int .i64 (E.head)] 3) := h1 ▸ heap_alloc_new _ _
          have ho1 : (f s1).ownsRow (w.heap.size + 1) 3 1 V l.length (l.map (.int .i64)) := h1 ▸ World.ownsRow.alloc ho0 _
          have hg1 : wr.grownBy (f s1) none := h1 ▸ grown_trans hg0 (World.grownBy_alloc _ _ _)
          rw [h1]
          have HG0 := Lib.hid hg0
          have HN1 := Lib.hid hn1
          have HO1 := Lib.hid ho1
          have HG1 := Lib.hid hg1
          clear hK K h1 hg0 ho0 hn1 ho1 hg1
          repeat ((with_reducible refine mix_free (fun K hK => ?_)); go_simp; refine hK _ ?_; clear hK K)
          refine mix_forced (fun K hK => ?_) ⟨_, rfl⟩
          refine step_append_lies (f s1) rfl _ _ 35 rfl (w.heap.size + 1) 3 i3 (.int .i64 0) 1 8 Try.underlying35 hi3 hz3 hs3 hb3 rfl (by decide) V l.length (l.map (.int .i64)) rfl HO1.out _ 1 1 [.int .i64 (E.head)] rfl rfl (World.news_of_block HN1.out) (ints_one [E.head]) (by decide) (by unfold maxLen; omega) (by omega) (by have := HG1.out.size; omega) _ rfl ?_
          intro g1 cap1 w2 ho2 hg2 hat hlt2
          obtain ⟨s2, h2⟩ := hs w2 (grown_trans (grown_any HG1.out) hg2)
          subst h2
          refine hK.out _ _ ⟨s2, rfl⟩ (fun _ => ?_)
          have HO2 := Lib.hid ho2
          have HG2 := Lib.hid hg2
          have HAT := Lib.hid hat
          clear hK K ho2 hg2 hat hlt2
          repeat ((with_reducible refine mix_free (fun K hK => ?_)); go_simp; refine hK _ ?_; clear hK K)
          refine mix_last (fun K hK => ?_)
          go_simp
          refine hK.out _ _ ?_
          clear hK K
          refine mix_nil ?_
          go_wp2
          try rw [← hta]
          go_roundw
          case rel =>
            have h1 := HS3.out.push htl HV.out HL.out HG1.out HG2.out HO2.out HAT.out
            rw [HL2.out, usesL_step, List.append_assoc, show ((E.tails.take j).map fun t => (t, E.head)) ++ [((tn : Int), E.head)] = (E.tails.take (j + 1)).map fun t => (t, E.head) by rw [HTJ.out, List.map_append]; rfl] at h1
            have h2 := HL2.out
            rw [← h2] at h1
            exact ⟨j + 1, _, by omega, by go_num, h1⟩
          case measure => simp [intOf]; omega
        · have hjj : j = E.tails.length := by omega
          subst hjj
          go_wp2
          go_roundw
          case rel =>
            have h1 := HS3.out.drop
            rw [List.take_length] at h1
            exact ⟨k + 1, vs2, by omega, by go_num, by rw [HOC.out]; rw [HOC.out] at h1; exact h1⟩
          case measure => simp [intOf]; omega
    · have hkk : k = es.length := by omega
      subst hkk
      have HS2 := HS
      rw [List.take_length] at HS2
      obtain ⟨x0, x1⟩ := HX.out.below (by omega) HS2.out.below
      have hmk4 := run_make_row' (P := Try.prog) 27 4 (.bool false) 1 Try.underlying27 info4 rfl .i64 .i64 n (by omega) (by omega)
      go_upto_region 14 with fail
      clear hmk4
      have hD1 : (tRow wr.heap.size n (List.replicate n false)).own (wr.alloc (.cells (madeCells #[.bool false] n) 4)) (w.heap.size + 1) := by
        have := own_made wr (.bool false) n 4 (w.heap.size + 1) (by omega) (by unfold maxLen; omega)
        unfold tRow
        rw [List.map_replicate]
        exact this
      have hst1 := HS2.out.add (World.grownBy_alloc _ _ none) hD1 (fun k hk => by cases hk; exact Nat.le_refl _)
      have hst2 := hst1.add (r := lRow (.slice none 0 0) []) (World.grownBy.refl _ _) (World.ownsRow_nil _ _ _ _) (fun k hk => by cases hk)
      have hDg : w.heap.size + 1 + 1 < wr.heap.size := hgt
      generalize wr.alloc (.cells (madeCells #[.bool false] n) 4) = w3 at *
      generalize wr.heap.size = D at *
      rw [pendL_start] at hst2
      have HS3 := Lib.hid hst2
      have hord : ordL n es = ordGo es n (n - 0) (List.replicate n false) [] := by rw [Nat.sub_zero]; rfl
      have HORD := Lib.hid hord
      clear hst1 hst2 hD1 x0 x1 hord hlt
      go_wp2_with fail
      go_loopg [11] n (fun gk x11 wr => ∃ bs ls, gk = n - ls.length ∧ ls.length ≤ n ∧ GSt W0 (w.heap.size + 1) (w.heap.size + 1 + 1) n vs (usesL n (occ es)) [lRow x11 ls, tRow D n bs, iRow (w.heap.size + 1) n (pendL n (occ es) bs [])] wr ∧ bs.length = n ∧ ordL n es = ordGo es n (n - ls.length) bs ls)
      case atStart => exact ⟨_, [], rfl, Nat.zero_le _, HS3.out, by simp, HORD.out⟩
      case round =>
        obtain ⟨bs, ls, rfl, hll, hst, hbl, hord⟩ := hrel
        have HO := Lib.hid hord
        have HBL := Lib.hid hbl
        obtain ⟨A, cap, rfl, _⟩ := own_vrow (show wr.ownsRow (w.heap.size + 1) 3 1 u11 ls.length (ls.map (.int .i64)) from grid_in hst.owns (List.mem_cons_self ..))
        have HST2 := Lib.hid hst
        obtain ⟨x0, x1⟩ := HX.out.below (by omega) hst.below
        have hBw : Below w.heap.size w wr := HBW.out.trans (hst.below.mono (Nat.le_succ _))
        have HBw2 := Lib.hid hBw
        clear hst hord hbl hBw
        by_cases hlt : ls.length < n
        · go_wp2_with fail
          go_loop [12, 69] (fun x12 x69 => ∃ v : Nat, x69 = .int .i64 v ∧ v ≤ n ∧ x12 = .int .i64 (-1) ∧ ∀ u, u < v → okV es bs u = false) (fun _ x69 => n - (intOf x69).toNat)
          case atStart => exact ⟨0, rfl, Nat.zero_le _, rfl, fun u hu => absurd hu (Nat.not_lt_zero u)⟩
          case round =>
            obtain ⟨v, rfl, hvn, rfl, hnone⟩ := hrel
            have HNONE := Lib.hid hnone
            clear hnone
            by_cases hv : v < n
            · obtain ⟨bv, hb1, hb2, hb3⟩ := HST2.out.cellT (m := D) (bs := bs) (List.mem_cons_of_mem _ (List.mem_cons_self ..)) hv
              obtain ⟨pv, hp1, hp2, hp3⟩ := HST2.out.cellI (m := w.heap.size + 1) (ms := pendL n (occ es) bs []) (List.mem_cons_of_mem _ (List.mem_cons_of_mem _ (List.mem_cons_self ..))) hv
              have hok : okV es bs v = (!bv && decide (pv = 0)) := by
                rw [okV_pend es bs n v (by rw [pendL_len]; exact hv)]
                rw [List.getElem?_eq_getElem (by rw [pendL_len]; exact hv)] at hp1
                rw [Option.some.inj hp1, List.getD_eq_getElem?_getD, hb1]
                rfl
              have HOKV := Lib.hid hok
              have HB1 := Lib.hid hb1
              clear hok hb1 hp1 hp3
              cases bv
              · by_cases hpv : pv = 0
                · have HPV := Lib.hid hpv
                  subst hpv
                  have hv0 : ¬ ((v : Int) < 0) := by omega
                  have hok : okV es bs v = true := by rw [HOKV.out]; simp
                  have HF := Lib.hid (firstR_some HNONE.out hv hok)
                  clear hok
                  go_upto_region 26 with fail
                  have hst4 := HST2.out.storeT (j := 1) (by simp) rfl v true
                  clear hb2 hb3 hp2
                  generalize wr.setCell ⟨D, v, none⟩ (.bool true) = w4 at *
                  have HS4 := Lib.hid hst4
                  have hown4 : w4.ownsRow (w.heap.size + 1) 3 1 (.slice A ls.length cap) ls.length (ls.map (.int .i64)) := grid_in hst4.owns (List.mem_cons_self ..)
                  have hbase : w.heap.size + 1 ≤ (w4.alloc (.cells #[.int .i64 (v : Int)] 3)).heap.size := by have := hst4.gt; simp; omega
                  have HW4 := Lib.hid hown4
                  clear hst4 hown4
                  obtain ⟨i3, hi3, hz3, hs3, hb3⟩ := info_parts info3
                  go_wp2_with (at_builtin; refine wpList_append_lies _ rfl _ _ 35 rfl (w.heap.size + 1) 3 i3 (.int .i64 0) 1 8 Try.underlying35 hi3 hz3 hs3 hb3 rfl (by decide) _ (ls).length ((ls).map (.int .i64)) rfl (World.ownsRow.alloc HW4.out _) _ 1 1 [.int .i64 ((v : Int))] rfl rfl (World.news_of_block (heap_alloc_new _ _)) (ints_one [(v : Int)]) (by decide) (by unfold maxLen; omega) (by omega) hbase _ rfl ?_)
                  intro g1 cap1 w5 hown5 hgrow5 hat5 _
                  have hst5 := HS4.out.pushF (World.grownBy_alloc _ _ none) hgrow5 hown5 (by simpa using hat5)
                  have HS5 := Lib.hid hst5
                  obtain ⟨Ak, ck, l, hl, hgc, hgv⟩ := hst5.rowAt hv
                  have hl2 : l = usesO (occ es) (v : Int) := by
                    rw [List.getElem?_eq_getElem (by rw [usesL_len]; exact hv), usesL_get] at hl
                    exact (Option.some.inj hl).symm
                  have HL := Lib.hid hl2
                  have HGV := Lib.hid hgv
                  have HLG := Lib.hid hl
                  have hll2 : l.length ≤ 1073741824 := by rw [hl2]; exact Nat.le_trans (usesO_len _ _) HOCC.out
                  clear hst5 hown5 hgrow5 hat5 hbase hgv hl hl2
                  go_wp2_with fail
                  clear hgc
                  obtain ⟨wm, rfl⟩ : ∃ wm : World, wm = w5 := ⟨_, rfl⟩
                  go_loopw [100] (fun x100 wr => ∃ p, p ≤ l.length ∧ x100 = .int .i64 (p : Nat) ∧ GSt W0 (w.heap.size + 1) (w.heap.size + 1 + 1) n vs (usesL n (occ es)) [lRow (.slice (some ⟨g1, 0, none⟩) (ls.length + 1) cap1) (ls ++ [(v : Int)]), tRow D n (bs.set v true), iRow (w.heap.size + 1) n (pendL n (occ es) bs (l.take p))] wr) (fun x100 _ => l.length - (intOf x100).toNat)
                  case atStart => exact ⟨0, Nat.zero_le _, rfl, HS5.out⟩
                  case round =>
                    obtain ⟨p, hp, rfl, hst6⟩ := hrel
                    have HS6 := Lib.hid hst6
                    clear hst6
                    by_cases hpl : p < l.length
                    · have hrow := HS6.out.rowV hv HGV.out HLG.out
                      obtain ⟨b2, o2, hak, _, hcp⟩ := hrow.at hpl
                      have hmem := List.getElem_mem hpl
                      have HTK := Lib.hid (take_step l p hpl)
                      have hcnt : (l.take p).count l[p] ≤ 1073741824 := Nat.le_trans List.count_le_length (by simp; omega)
                      have hh : ∃ hd : Nat, l[p] = hd ∧ hd < n := by
                        generalize l[p] = y at hmem ⊢
                        rw [HL.out, mem_usesO, mem_occ] at hmem
                        obtain ⟨e, he, heh, _⟩ := hmem
                        have h1 := (HOK.out.e e he).h0
                        have h2 := (HOK.out.e e he).h1
                        exact ⟨e.head.toNat, by rw [heh] at h1 h2 ⊢; omega, by omega⟩
                      clear hmem hrow
                      obtain ⟨hd, hhd, hdn⟩ := hh
                      rw [hhd] at hcp HTK hcnt
                      clear hhd
                      obtain ⟨y, hy1, hy2, hy3⟩ := HS6.out.cellI (m := w.heap.size + 1) (ms := pendL n (occ es) bs (l.take p)) (List.mem_cons_of_mem _ (List.mem_cons_of_mem _ (List.mem_cons_self ..))) hdn
                      have hpo : pendO (occ es) bs (hd : Int) ≤ 1073741824 := Nat.le_trans (List.length_filter_le _ _) HOCC.out
                      have hyv : y = (pendL n (occ es) bs (l.take p))[hd]'(by rw [pendL_len]; exact hdn) := by
                        rw [List.getElem?_eq_getElem (by rw [pendL_len]; exact hdn)] at hy1
                        exact (Option.some.inj hy1).symm
                      have hyb : -1073741824 ≤ y ∧ y ≤ 1073741824 := by
                        rw [hyv, pendL_get]
                        omega
                      have HYV := Lib.hid hyv
                      obtain ⟨hyb1, hyb2⟩ := hyb
                      clear hyv hy1 hcnt hpo
                      go_wp2
                      try rw [← hak]
                      go_roundw
                      case rel =>
                        have h1 := HS6.out.storeI (j := 2) (by simp) rfl hd (y - 1)
                        rw [HYV.out, pendL_step, ← HTK.out, ← HYV.out] at h1
                        exact ⟨p + 1, by omega, by go_num, h1⟩
                      case measure => simp [intOf]; omega
                    · have hpp : p = l.length := by omega
                      subst hpp
                      go_wp2
                      go_roundg (n - (ls.length + 1))
                      case measure => omega
                      case rel =>
                        have h1 := HS6.out
                        have hbv : bs[v]'(by rw [HBL.out]; exact hv) = false := by
                          have := HB1.out
                          rw [List.getElem?_eq_getElem (by rw [HBL.out]; exact hv)] at this
                          exact Option.some.inj this
                        rw [List.take_length, HL.out, pendL_done n (occ es) bs v (by rw [HBL.out]; exact hv) hbv (fun p hp => by
                          obtain ⟨e, he, _, ht⟩ := mem_occ.1 (show (p.1, p.2) ∈ occ es from hp)
                          exact ((HOK.out.e e he).t _ ht).1)] at h1
                        refine ⟨bs.set v true, ls ++ [(v : Int)], by simp, by simp; omega, h1, by simp [HBL.out], ?_⟩
                        rw [HO.out, show n - ls.length = (n - (ls.length + 1)) + 1 by omega]
                        simp only [ordGo, HF.out, List.length_append, List.length_singleton]
                · have hpv2 : (pv == 0) = false := by simpa using hpv
                  have HF := Lib.hid (show okV es bs v = false by rw [HOKV.out]; simp [hpv])
                  clear hpv
                  go_wp2
                  go_round
                  case rel =>
                    refine ⟨v + 1, by go_num, by omega, rfl, fun u hu => ?_⟩
                    by_cases huv : u = v
                    · rw [huv]; exact HF.out
                    · exact HNONE.out u (by omega)
                  case measure => simp [intOf]; omega
              · have HF := Lib.hid (show okV es bs v = false by rw [HOKV.out]; simp)
                go_wp2
                go_round
                case rel =>
                  refine ⟨v + 1, by go_num, by omega, rfl, fun u hu => ?_⟩
                  by_cases huv : u = v
                  · rw [huv]; exact HF.out
                  · exact HNONE.out u (by omega)
                case measure => simp [intOf]; omega
            · have hvv : v = n := by omega
              subst hvv
              have HF := Lib.hid (firstR_none HNONE.out)
              go_wp2
              go_ret2
              refine ⟨HBw2.out, ?_⟩
              have h1 : ordL v es = none := by
                rw [HO.out, show v - ls.length = (v - ls.length - 1) + 1 by omega]
                simp only [ordGo, HF.out]
              rw [h1]
              rfl
        · have hlen : ls.length = n := by omega
          go_wp2
          go_ret2
          refine ⟨HBw2.out, ?_⟩
          have h1 : ordL n es = some ls := by
            rw [HO.out, hlen, Nat.sub_self]
            rfl
          rw [h1]
          obtain ⟨A', cap', hA, hrow⟩ := own_vrow (show wr.ownsRow (w.heap.size + 1) 3 1 (.slice A ls.length cap) ls.length (ls.map (.int .i64)) from grid_in HST2.out.owns (List.mem_cons_self ..))
          cases hA
          exact ⟨A, cap, rfl, hrow⟩
end Go.Proofs.Ytjhdhnkikgmpoaa
