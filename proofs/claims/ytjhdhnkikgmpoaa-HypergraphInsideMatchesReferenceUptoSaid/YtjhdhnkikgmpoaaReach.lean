/- Reachable: contract. Printed by gen27reach.py. -/
import Derived.Test.YtjhdhnkikgmpoaaReachP
namespace Go.Proofs.Ytjhdhnkikgmpoaa
open Go.RowKit Go.Deep

set_option maxHeartbeats 8000000 in
theorem reach_any (w : World) (a : Option Addr) (c n : Nat) (es : List Ed) (root : Int) (hr : EdRow w a es) (hn : es.length ≤ 1048576) (hok : Ok n es) :
    Calls Try.prog 20 #[.agg #[.int .i64 n, .slice a es.length c], .int .i64 root] w (BoolsPost w (reachS n es root)) := by
  have hedges := fun w' h => edges_any w' a c n es h hn hok
  have HR := Lib.hid hr
  have hn1 := hok.n1
  have hn2 := hok.n2
  have HOK := Lib.hid hok
  have h0 : ∀ e ∈ es, 0 ≤ e.head ∧ ∀ t ∈ e.tails, 0 ≤ t := fun e he => ⟨(hok.e e he).h0, fun t ht => ((hok.e e he).t t ht).1⟩
  have H0 := Lib.hid h0
  clear hr hok h0
  have hmk := run_make_row' (P := Try.prog) 27 4 (.bool false) 1 Try.underlying27 info4 rfl .i64 .i64 n (by omega) (by omega)
  have hbox := HBox.box w n a es.length c
  have hst := own_made (w.alloc (.cells #[.int .i64 n, .slice a es.length c] 24)) (.bool false) n 4 (w.heap.size + 1) (by simp) (by unfold maxLen; omega)
  have hBW : Below w.heap.size w ((w.alloc (.cells #[.int .i64 n, .slice a es.length c] 24)).alloc (.cells (madeCells #[.bool false] n) 4)) := ((Below.refl _ _).alloc (Nat.le_refl _) _).alloc (by simp) _
  have hxx := HBox.below (B := w.heap.size + 1) hbox (by omega) ((Below.refl _ _).alloc (by simp) (.cells (madeCells #[.bool false] n) 4))
  obtain ⟨W0, hW0⟩ : ∃ W0, W0 = (w.alloc (.cells #[.int .i64 n, .slice a es.length c] 24)).alloc (.cells (madeCells #[.bool false] n) 4) := ⟨_, rfl⟩
  have hsz : W0.heap.size = w.heap.size + 2 := by rw [hW0]; simp
  rw [← hW0] at hst hBW hxx
  have hst2 : InSt W0 (w.heap.size + 1) n (List.replicate n false) W0 := ⟨by simpa [Rw.own] using hst, Below.refl _ _, Nat.le_refl _⟩
  have HST := Lib.hid hst2
  have HSZ := Lib.hid hsz
  have HX := Lib.hid hxx
  have HBW := Lib.hid hBW
  have hroot : root < 0 ∨ (n : Int) ≤ root ∨ ∃ r : Nat, root = r ∧ r < n := by
    by_cases h1 : root < 0
    · exact Or.inl h1
    · by_cases h2 : (n : Int) ≤ root
      · exact Or.inr (Or.inl h2)
      · exact Or.inr (Or.inr ⟨root.toNat, by omega, by omega⟩)
  clear hst hst2 hsz hxx hBW hbox
  rcases hroot with h1 | h1 | ⟨r, rfl, hrn⟩
  · have hrs : reachS n es root = List.replicate n false := by unfold reachS; rw [if_pos (by omega)]
    rw [hrs]
    clear hrs hedges
    have HH1 := Lib.hid h1
    obtain ⟨x0, x1⟩ := HX.out
    go_enter Try.func20, Try.ntmps20
    go_upto_region 2 with fail
    rw [← hW0]
    have HW0 := Lib.hid hW0
    clear hW0
    go_wp2
    go_ret
    exact ⟨some ⟨w.heap.size + 1, 0, none⟩, n, (by show Ending.returned (.slice (some ⟨w.heap.size + 1, 0, none⟩) n n) = _; rw [List.length_replicate]), HST.out.row, HBW.out⟩
  · have hrs : reachS n es root = List.replicate n false := by unfold reachS; rw [if_pos (by omega)]
    rw [hrs]
    clear hrs hedges
    have HH1 := Lib.hid h1
    obtain ⟨x0, x1⟩ := HX.out
    go_enter Try.func20, Try.ntmps20
    go_upto_region 2 with fail
    rw [← hW0]
    have HW0 := Lib.hid hW0
    clear hW0
    go_wp2
    go_ret
    exact ⟨some ⟨w.heap.size + 1, 0, none⟩, n, (by show Ending.returned (.slice (some ⟨w.heap.size + 1, 0, none⟩) n n) = _; rw [List.length_replicate]), HST.out.row, HBW.out⟩
  have hrs : reachS n es (r : Int) = reachL n es (r : Int) := by unfold reachS; rw [if_neg (by omega)]
  rw [hrs]
  clear hrs
  obtain ⟨x0, x1⟩ := HX.out
  have hcall := hedges W0 (HR.out.below (Nat.le_refl _) HBW.out)
  clear hedges
  go_enter Try.func20, Try.ntmps20
  go_upto_region 2 with fail
  rw [← hW0]
  have HW0 := Lib.hid hW0
  clear hW0 hmk
  go_wp2_with fail
  refine hcall.mono ?_
  rintro e WE ⟨Ag, capg, rfl, hgrid, hbE⟩
  clear hcall
  obtain ⟨bg, og, rfl⟩ := hgrid.addr (by rw [edgesL_len]; omega)
  have hbb : W0.heap.size + 1 ≤ WE.heap.size := by
    obtain ⟨_, _, h1, h2, _⟩ := hgrid.cell (k := 0) (by rw [edgesL_len]; omega)
    omega
  have HBB := Lib.hid hbb
  clear hbb
  have hstE := HST.out.go (by have := HSZ.out; omega) hbE
  have hcl0 := hstE.cell (v := r) (by simpa using hrn)
  have hfr := World.ownsRow.frozenAt hstE.own r
  have HGR := Lib.hid hgrid
  have HSE := Lib.hid hstE
  have HBE := Lib.hid hbE
  clear hgrid hstE hbE x0 x1
  go_upto_region 6 with fail
  clear hcl0 hfr
  have hst2 := HSE.out.set r true
  have hs2 : WE.heap.size = (WE.setCell ⟨w.heap.size + 1, r, none⟩ (.bool true)).heap.size := by simp [World.setCell]
  have hmid2 : ∀ k, W0.heap.size + 1 ≤ k → k < WE.heap.size → (WE.setCell ⟨w.heap.size + 1, r, none⟩ (.bool true)).heap[k]? = WE.heap[k]? := fun k h1 _ => Below.heap_setCell _ _ _ _ (by have := HSZ.out; show k ≠ w.heap.size + 1; omega)
  have HS2 := Lib.hid hst2
  have HZ2 := Lib.hid hs2
  have HM2 := Lib.hid hmid2
  clear hst2 hs2 hmid2
  generalize WE.setCell ⟨w.heap.size + 1, r, none⟩ (.bool true) = w2 at *
  go_wp2_with fail
  have hrm : RMem W0 WE (w.heap.size + 1) (W0.heap.size + 1) n ((List.replicate n false).set r true) (.slice (some ⟨w2.heap.size, 0, none⟩) 1 1) [(r : Int)] (w2.alloc (.cells #[.int .i64 (r : Int)] 3)) := by
    have hb2 : Below w2.heap.size w2 (w2.alloc (.cells #[.int .i64 (r : Int)] 3)) := (Below.refl _ _).alloc (Nat.le_refl _) _
    have h1 := HSZ.out
    have h2 := HBE.out.size
    have h3 := HZ2.out
    refine ⟨HS2.out.go (by omega) hb2, World.ownsRow_lit (e := 3) (size := 1) w2 #[.int .i64 (r : Int)] 1 (by omega) (by decide) rfl, fun k h4 h5 => ?_, by simp; omega⟩
    rw [hb2.block k (by omega)]
    exact HM2.out k h4 h5
  have HRM := Lib.hid hrm
  have HRI := Lib.hid (RInv.start (es := es) hrn (fun e he => (H0.out e he).1))
  clear hrm
  go_loopg [7] (n + 1) (fun gk x7 wr => ∃ bs td, td.length + bs.count false ≤ gk ∧ gk ≤ n + 1 ∧ RMem W0 WE (w.heap.size + 1) (W0.heap.size + 1) n bs x7 td wr ∧ RInv es r n bs td (-1) [])
  case atStart => exact ⟨_, _, by have := List.count_le_length (a := false) (l := (List.replicate n false).set r true); simp at this ⊢; omega, Nat.le_refl _, HRM.out, HRI.out⟩
  case round =>
    obtain ⟨bs, td, hct, hgk, hmem, hinv⟩ := hrel
    have hBw : Below w.heap.size w wr := HBW.out.trans (hmem.below.mono (by omega))
    have HBw := Lib.hid hBw
    have HCT := Lib.hid hct
    have HGK := Lib.hid hgk
    have hxb := HX.out.below (by omega) hmem.below
    clear hct hBw
    rcases List.eq_nil_or_concat td with rfl | ⟨td, v, rfl⟩
    · obtain ⟨A7, cap7, rfl, _⟩ := own_vrow hmem.own
      have HM := Lib.hid hmem
      have HI := Lib.hid hinv
      clear hmem hinv hxb
      go_wp2
      go_ret
      have h1 := HI.out.final (fun e he => (H0.out e he).1)
      exact ⟨some ⟨w.heap.size + 1, 0, none⟩, n, (by show Ending.returned (.slice (some ⟨w.heap.size + 1, 0, none⟩) n n) = _; rw [reachL_len]), by rw [← h1]; exact HM.out.st.row, HBw.out⟩
    · rw [List.concat_eq_append] at hmem hinv HCT
      have htl : td.length ≤ 1048576 := by have := HCT.out; simp at this; omega
      obtain ⟨gb, cap7, rfl, hcap, hcell⟩ := hmem.top
      have hm2 := hmem.pop
      obtain ⟨hi2, hv0, hvn, hvb⟩ := hinv.pop (fun e he => (H0.out e he).1)
      obtain ⟨v, rfl⟩ := Int.eq_ofNat_of_zero_le hv0
      have hvn2 : v < (edgesL n es es.length).length := by rw [edgesL_len]; omega
      obtain ⟨Ak, ck, hgB, hgl, hgc0, hgr⟩ := HGR.out.cell hvn2
      have hgc := (hm2.cell (p := ⟨bg, og + v, none⟩) hgB hgl).trans hgc0
      clear hgc0 hgB hgl
      have HGR1 := Lib.hid hgr
      rw [edgesL_get] at hgc HGR1
      have HM := Lib.hid hm2
      have HI := Lib.hid hi2
      have HVB := Lib.hid hvb
      have hll := idx_len es es.length (v : Int)
      have HIDX := Lib.hid (rfl : idx es es.length (v : Int) = idx es es.length (v : Int))
      obtain ⟨l, hl⟩ : ∃ l, l = idx es es.length (v : Int) := ⟨_, rfl⟩
      rw [← hl] at hgc HGR1 hll
      have HL := Lib.hid hl
      clear hl HIDX hmem hinv hm2 hi2 hvb hgr hvn2
      have hxx0 := hxb.nodes
      have hxx1 := hxb.edges
      clear hxb
      go_wp2_with fail
      clear hcell hxx0 hxx1 hgc
      obtain ⟨wo, rfl⟩ : ∃ wo : World, wo = wr := ⟨_, rfl⟩
      go_goals
      go_loopw [7, 51] (fun x7 x51 wr => ∃ p bs2 td2, p ≤ l.length ∧ x51 = .int .i64 (p : Nat) ∧ td2.length + bs2.count false = td.length + bs.count false ∧ RMem W0 WE (w.heap.size + 1) (W0.heap.size + 1) n bs2 x7 td2 wr ∧ RInv es r n bs2 td2 v (l.take p) ∧ inB bs2 v = true) (fun _ x51 _ => l.length - (intOf x51).toNat)
      case atStart => exact ⟨0, bs, td, Nat.zero_le _, rfl, rfl, HM.out, HI.out, HVB.out⟩
      case round =>
        obtain ⟨p, bs2, td2, hp, rfl, hct2, hmem, hinv, hvb⟩ := hrel
        have HM2 := Lib.hid hmem
        have HI2 := Lib.hid hinv
        have HC2 := Lib.hid hct2
        have HVB2 := Lib.hid hvb
        clear hmem hinv hct2 hvb
        by_cases hpl : p < l.length
        · have HMEM := Lib.hid (List.getElem_mem hpl)
          have hii := idx_nat (es := es) (k := es.length) (v := (v : Int)) (x := l[p]) (by rw [← HL.out]; exact List.getElem_mem hpl)
          obtain ⟨i, hi, hil, E, hE, hEv⟩ := hii
          have HTK := Lib.hid (take_step l p hpl)
          have hrowp := (VRowB.keep HGR1.out HM2.out.mid HM2.out.le).row
          obtain ⟨b2, o2, hak, _, hcp⟩ := hrowp.at hpl
          rw [hi] at hcp HTK
          obtain ⟨x0, x1⟩ := HX.out.below (by omega) HM2.out.below
          obtain ⟨b, o, hab, hb, hc⟩ := HR.out.at hil
          have hEE : es[i] = E := by rw [List.getElem?_eq_getElem hil] at hE; exact Option.some.inj hE
          rw [hEE] at hc
          have hrow0 := hc.row
          have hBw2 : Below w.heap.size w wr := HBW.out.trans (HM2.out.below.mono (by omega))
          obtain ⟨c0, c1, c2, c3, c4, _, hlen⟩ := hc.below hb (Nat.le_refl _) hBw2
          have HE := Lib.hid hE
          have HEV := Lib.hid hEv
          have HEM := Lib.hid (List.mem_of_getElem? hE)
          rw [hab] at x1
          unfold maxLen at hlen
          clear hi hE hEv hEE hc hrowp HMEM hb hBw2
          go_wp2_with fail
          clear hcp x0 x1 c0 c1 c2 c3 c4
          obtain ⟨wm, rfl⟩ : ∃ wm : World, wm = wr := ⟨_, rfl⟩
          go_loopw [7, 62] (fun x7 x62 wr => ∃ j bs3 td3, j ≤ E.tails.length ∧ x62 = .int .i64 (j : Nat) ∧ td3.length + bs3.count false = td.length + bs.count false ∧ RMem W0 WE (w.heap.size + 1) (W0.heap.size + 1) n bs3 x7 td3 wr ∧ RInv es r n bs3 td3 v (l.take p) ∧ inB bs3 v = true ∧ ∀ t ∈ E.tails.take j, inB bs3 t = true) (fun _ x62 _ => E.tails.length - (intOf x62).toNat)
          case atStart => exact ⟨0, bs2, td2, Nat.zero_le _, rfl, HC2.out, HM2.out, HI2.out, HVB2.out, fun t ht => by cases ht⟩
          case round =>
            obtain ⟨j, bs3, td3, hj, rfl, hct3, hmem, hinv, hvb, htl3⟩ := hrel
            have HM3 := Lib.hid hmem
            have HI3 := Lib.hid hinv
            have HC3 := Lib.hid hct3
            have HVB3 := Lib.hid hvb
            have HT3 := Lib.hid htl3
            clear hmem hinv hct3 hvb htl3
            by_cases hjl : j < E.tails.length
            · obtain ⟨b3, o3, hta, hb3, hcx⟩ := hrow0.at hjl
              have hBw3 : Below w.heap.size w wr := HBW.out.trans (HM3.out.below.mono (by omega))
              have hx := (hBw3.cell (p := ⟨b3, o3 + j, none⟩) hb3).trans hcx
              have htm := List.getElem_mem hjl
              have HTJ := Lib.hid (take_step E.tails j hjl)
              obtain ⟨tn, htn⟩ := Int.eq_ofNat_of_zero_le ((HOK.out.e E HEM.out).t _ htm).1
              have htl' : tn < n := by have := ((HOK.out.e E HEM.out).t _ htm).2; omega
              clear hcx hb3 hBw3
              generalize E.tails[j] = X at *
              subst htn
              have HTM := Lib.hid htm
              clear htm
              have htb : tn < bs3.length := by rw [HM3.out.st.len]; exact htl'
              have hcell2 := HM3.out.st.cell htb
              have HT2 := Lib.hid (show inB bs3 (tn : Int) = bs3[tn] by rw [inB_nat]; simp [htb])
              cases hv2 : bs3[tn]
              · rw [hv2] at hcell2
                have hfr := World.ownsRow.frozenAt HM3.out.st.own tn
                go_upto_region 18 with fail
                have hm4 := HM3.out.set (by have := HSZ.out; omega) HBB.out tn true
                have HM4 := Lib.hid hm4
                clear hm4 hcell2 hfr hx
                generalize wr.setCell ⟨w.heap.size + 1, tn, none⟩ (.bool true) = w4 at *
                obtain ⟨i3, hi3, hz3, hs3, hb3⟩ := info_parts info3
                have hbase : WE.heap.size ≤ (w4.alloc (.cells #[.int .i64 (tn : Int)] 3)).heap.size := by have := HM4.out.le; simp; omega
                have htd3 : td3.length ≤ 2097152 := by have h1 := HC3.out; have h2 := HCT.out; have h3 := HGK.out; simp at h2; omega
                obtain ⟨A7, c7, rfl, _⟩ := own_vrow HM4.out.own
                go_wp2_with (at_builtin; refine wpList_append_lies _ rfl _ _ 35 rfl (WE.heap.size) 3 i3 (.int .i64 0) 1 8 Try.underlying35 hi3 hz3 hs3 hb3 rfl (by decide) _ (td3).length ((td3).map (.int .i64)) rfl (World.ownsRow.alloc HM4.out.own _) _ 1 1 [.int .i64 ((tn : Int))] rfl rfl (World.news_of_block (heap_alloc_new _ _)) (ints_one [(tn : Int)]) (by decide) (by unfold maxLen; omega) (by omega) hbase _ rfl ?_)
                intro g1 cap1 w5 hown5 hgrow5 _ _
                have hm5 := HM4.out.push (by have := HBE.out.size; have := HSZ.out; omega) (World.grownBy_alloc _ _ none) hgrow5 hown5
                have HM5 := Lib.hid hm5
                clear hm5 hown5 hgrow5 hbase
                go_wp2_with fail
                try rw [← hta]
                try rw [← hak]
                try rw [← hab]
                go_roundw
                case rel =>
                  refine ⟨j + 1, bs3.set tn true, td3 ++ [(tn : Int)], by omega, by go_num, ?_, HM5.out, HI3.out.push H0.out HEM.out (by rw [HEV.out]; exact HVB3.out) HTM.out htb (by omega), inB_set_mono htb (by omega) HVB3.out, fun t ht => ?_⟩
                  · have h1 := count_set bs3 tn htb hv2
                    have h2 := HC3.out
                    simp
                    omega
                  · rw [HTJ.out, List.mem_append] at ht
                    rcases ht with ht | ht
                    · exact inB_set_mono htb ((H0.out E HEM.out).2 t (List.mem_of_mem_take ht)) (HT3.out t ht)
                    · rw [List.mem_singleton] at ht
                      subst ht
                      rw [inB_set _ _ _ htb (by omega)]
                      simp
                case measure => simp [intOf]; omega
              · rw [hv2] at hcell2
                go_wp2
                try rw [← hta]
                try rw [← hak]
                try rw [← hab]
                go_roundw
                case rel =>
                  refine ⟨j + 1, bs3, td3, by omega, by go_num, HC3.out, HM3.out, HI3.out, HVB3.out, fun t ht => ?_⟩
                  rw [HTJ.out, List.mem_append] at ht
                  rcases ht with ht | ht
                  · exact HT3.out t ht
                  · rw [List.mem_singleton] at ht
                    subst ht
                    rw [HT2.out, hv2]
                case measure => simp [intOf]; omega
            · have hjj : j = E.tails.length := by omega
              subst hjj
              go_wp2
              try rw [← hak]
              try rw [← hab]
              go_roundw
              case rel =>
                have h1 := HT3.out
                rw [List.take_length] at h1
                exact ⟨p + 1, bs3, td3, by omega, by go_num, HC3.out, HM3.out, by rw [HTK.out]; exact HI3.out.close HE.out h1, HVB3.out⟩
              case measure => simp [intOf]; omega
        · have hpp : p = l.length := by omega
          subst hpp
          go_wp2
          go_roundg (td2.length + bs2.count false)
          case measure => have h1 := HCT.out; have h2 := HC2.out; simp at h1; omega
          case rel =>
            have h1 := HI2.out
            rw [List.take_length, HL.out] at h1
            exact ⟨bs2, td2, Nat.le_refl _, by have h1 := HCT.out; have h2 := HC2.out; simp at h1; omega, HM2.out, h1.done⟩
end Go.Proofs.Ytjhdhnkikgmpoaa
