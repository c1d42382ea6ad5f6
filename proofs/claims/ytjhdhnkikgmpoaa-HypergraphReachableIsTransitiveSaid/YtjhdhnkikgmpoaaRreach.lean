/- The reference's Reachable: contract. Printed by gen27rreach.py. -/
import Derived.Test.YtjhdhnkikgmpoaaRder
namespace Go.Proofs.Ytjhdhnkikgmpoaa
open Go.RowKit Go.Deep

/-- the edge box at B1 and the set: inside the loop over the tails -/
structure InEd (W0 : World) (g n B1 : Nat) (E : Ed) (bs : List Bool) (wr : World) : Prop where
  st : InSt W0 g n bs wr
  head : wr.cell? ⟨B1, 0, none⟩ = some (.int .i64 E.head)
  tails : wr.cell? ⟨B1, 1, none⟩ = some (.slice E.ta E.tails.length E.tc)
  lt : B1 < wr.heap.size
theorem InEd.set {W0 : World} {g n B1 : Nat} {E : Ed} {bs : List Bool} {wr : World} (h : InEd W0 g n B1 E bs wr) (hne : B1 ≠ g) (j : Nat) (b : Bool) : InEd W0 g n B1 E (bs.set j b) (wr.setCell ⟨g, j, none⟩ (.bool b)) := by
  have h2 := (World.ownsRow.stored h.st.own j (.bool b)).2
  have hn : some B1 ≠ some g := fun e => hne (Option.some.inj e)
  exact ⟨h.st.set j b, h2.cell h.head hn, h2.cell h.tails hn, Nat.lt_of_lt_of_le h.lt h2.size⟩

set_option maxHeartbeats 4000000 in
theorem refreach_any (w : World) (a : Option Addr) (c n : Nat) (es : List Ed) (root : Int) (hr : EdRow w a es) (hn : es.length ≤ maxLen) (hok : Ok n es) :
    Calls Try.prog 21 #[.agg #[.int .i64 n, .slice a es.length c], .int .i64 root] w (BoolsPost w (reachS n es root)) := by
  unfold maxLen at hn
  have HR := Lib.hid hr
  have hn1 := hok.n1
  have hn2 := hok.n2
  have HOK := Lib.hid hok
  clear hr hok
  have hmk := run_make_row' (P := Try.prog) 27 4 (.bool false) 1 Try.underlying27 info4 rfl .i64 .i64 n (by omega) (by omega)
  have hbox := HBox.box w n a es.length c
  have hst := own_made (w.alloc (.cells #[.int .i64 n, .slice a es.length c] 24)) (.bool false) n 4 (w.heap.size + 1) (by simp) (by unfold maxLen; omega)
  have hBW : Below w.heap.size w ((w.alloc (.cells #[.int .i64 n, .slice a es.length c] 24)).alloc (.cells (madeCells #[.bool false] n) 4)) := ((Below.refl _ _).alloc (Nat.le_refl _) _).alloc (by simp) _
  have hxx := HBox.below (B := w.heap.size + 1) hbox (by omega) ((Below.refl _ _).alloc (by simp) (.cells (madeCells #[.bool false] n) 4))
  obtain ⟨W0, hW0⟩ : ∃ W0, W0 = (w.alloc (.cells #[.int .i64 n, .slice a es.length c] 24)).alloc (.cells (madeCells #[.bool false] n) 4) := ⟨_, rfl⟩
  have hsz : W0.heap.size = w.heap.size + 2 := by rw [hW0]; simp
  rw [← hW0] at hst hBW hxx
  have hst2 : InSt W0 (w.heap.size + 1) n (List.replicate n false) W0 := ⟨by simpa [Rw.own] using hst, Below.refl _ _, Nat.le_refl _⟩
  have HST := Lib.hid hst2
  have HSZ := Lib.hid hsz
  have HX := Lib.hid hxx
  have HBW := Lib.hid hBW
  have hroot : root < 0 ∨ (n : Int) ≤ root ∨ ∃ r : Nat, root = r ∧ r < n := by
    by_cases h1 : root < 0
    · exact Or.inl h1
    · by_cases h2 : (n : Int) ≤ root
      · exact Or.inr (Or.inl h2)
      · exact Or.inr (Or.inr ⟨root.toNat, by omega, by omega⟩)
  clear hst hst2 hsz hxx hBW hbox
  rcases hroot with h1 | h1 | ⟨r, rfl, hrn⟩
  · have hrs : reachS n es root = List.replicate n false := by unfold reachS; rw [if_pos (by omega)]
    rw [hrs]
    clear hrs
    have HH1 := Lib.hid h1
    obtain ⟨x0, x1⟩ := HX.out
    go_enter Try.func21, Try.ntmps21
    go_upto_region 2 with fail
    rw [← hW0]
    have HW0 := Lib.hid hW0
    clear hW0
    go_wp2
    go_ret
    exact ⟨some ⟨w.heap.size + 1, 0, none⟩, n, (by show Ending.returned (.slice (some ⟨w.heap.size + 1, 0, none⟩) n n) = _; rw [List.length_replicate]), HST.out.row, HBW.out⟩
  · have hrs : reachS n es root = List.replicate n false := by unfold reachS; rw [if_pos (by omega)]
    rw [hrs]
    clear hrs
    have HH1 := Lib.hid h1
    obtain ⟨x0, x1⟩ := HX.out
    go_enter Try.func21, Try.ntmps21
    go_upto_region 2 with fail
    rw [← hW0]
    have HW0 := Lib.hid hW0
    clear hW0
    go_wp2
    go_ret
    exact ⟨some ⟨w.heap.size + 1, 0, none⟩, n, (by show Ending.returned (.slice (some ⟨w.heap.size + 1, 0, none⟩) n n) = _; rw [List.length_replicate]), HST.out.row, HBW.out⟩
  have hrs : reachS n es (r : Int) = reachL n es (r : Int) := by unfold reachS; rw [if_neg (by omega)]
  rw [hrs]
  clear hrs
  obtain ⟨x0, x1⟩ := HX.out
  have hfr := World.ownsRow.frozenAt HST.out.own r
  have hcl0 := HST.out.cell (v := r) (by simpa using hrn)
  go_enter Try.func21, Try.ntmps21
  go_upto_region 2 with fail
  rw [← hW0]
  have HW0 := Lib.hid hW0
  clear hW0
  go_wp2_with fail
  have hst1 := HST.out.set r true
  have HS1 := Lib.hid hst1
  have HFR := Lib.hid hfr
  clear hst1 hmk x0 x1 hfr hcl0
  go_loopg [6] (n + 1) (fun gk x6 wr => ∃ ch bs, x6 = .bool ch ∧ InSt W0 (w.heap.size + 1) n bs wr ∧ SoundR bs es r ∧ inB bs r = true ∧ bs.count false + ch.toNat ≤ gk ∧ (ch = false → ∀ e ∈ es, closedR bs e))
  case atStart => exact ⟨true, _, rfl, HS1.out, soundR_root, by rw [inB_set _ _ _ (by simpa using hrn) (by omega)]; simp, by have := List.count_le_length (a := false) (l := (List.replicate n false).set r true); simp at this ⊢; omega, fun h => by cases h⟩
  case round =>
    obtain ⟨ch, bs, rfl, hst, hsd, hrr, hct, hcl⟩ := hrel
    have HS := Lib.hid hst
    have HD := Lib.hid hsd
    have HRR := Lib.hid hrr
    have HCT := Lib.hid hct
    have HCL := Lib.hid hcl
    clear hst hsd hct hcl hrr
    cases ch
    · go_wp2
      go_ret
      have h1 := reachL_of HS.out.len HD.out HRR.out (HCL.out (by simp))
      refine ⟨some ⟨w.heap.size + 1, 0, none⟩, n, (by show Ending.returned (.slice (some ⟨w.heap.size + 1, 0, none⟩) n n) = _; rw [reachL_len]), by rw [← h1]; exact HS.out.row, HBW.out.trans (HS.out.below.mono (by omega))⟩
    · go_wp2_with fail
      obtain ⟨wo, rfl⟩ : ∃ wo : World, wo = wr := ⟨_, rfl⟩
      go_loopw [6, 7] (fun x6 x7 wr => ∃ k ch bs', k ≤ es.length ∧ x7 = .int .i64 (k : Nat) ∧ x6 = .bool ch ∧ InSt W0 (w.heap.size + 1) n bs' wr ∧ SoundR bs' es r ∧ inB bs' r = true ∧ (ch = true → bs'.count false < bs.count false) ∧ (ch = false → bs' = bs ∧ ∀ e ∈ es.take k, closedR bs e)) (fun _ x7 _ => es.length - (intOf x7).toNat)
      case atStart => exact ⟨0, false, bs, Nat.zero_le _, rfl, rfl, HS.out, HD.out, HRR.out, (fun h => by cases h), fun _ => ⟨rfl, fun e he => by cases he⟩⟩
      case round =>
        obtain ⟨k, ch, bs', hk, rfl, rfl, hst, hsd, hrr, hlt', hcl'⟩ := hrel
        have hBw : Below w.heap.size w wr := HBW.out.trans (hst.below.mono (by omega))
        have hgs : w.heap.size + 1 < wr.heap.size := by have := hst.size; have := HSZ.out; omega
        obtain ⟨x0, x1⟩ := HX.out.below (by omega) hst.below
        have HC := Lib.hid hcl'
        have HL := Lib.hid hlt'
        have HD2 := Lib.hid hsd
        have HRR2 := Lib.hid hrr
        clear hcl' hlt' hsd hrr
        by_cases hlt : k < es.length
        · obtain ⟨b, o, rfl, hb, hc⟩ := HR.out.at hlt
          have hrow0 := hc.row
          obtain ⟨c0, c1, c2, c3, c4, hrow, hlen⟩ := hc.below hb (Nat.le_refl _) hBw
          have hmem := List.getElem_mem hlt
          have HTK := Lib.hid (take_step es k hlt)
          clear hc
          generalize es[k] = E at *
          obtain ⟨hd, hhd⟩ := Int.eq_ofNat_of_zero_le (HOK.out.e E hmem).h0
          have hdn : hd < n := by have := (HOK.out.e E hmem).h1; omega
          have HHD := Lib.hid hhd
          clear hhd
          go_upto_region 12 with fail
          have hed := EdBox wr E hrow hlen
          have hal : Below (wr).heap.size (wr) ((wr).alloc (.cells #[.int .i64 E.head, .slice E.ta E.tails.length E.tc, .int .i64 E.cost, .int .i64 E.l0, .int .i64 E.l1] 38)) := (Below.refl _ _).alloc (Nat.le_refl _) _
          have hs1 : (wr).heap.size < ((wr).alloc (.cells #[.int .i64 E.head, .slice E.ta E.tails.length E.tc, .int .i64 E.cost, .int .i64 E.l0, .int .i64 E.l1] 38)).heap.size := by simp
          have hst1 := hst.go (Nat.le_of_lt hgs) hal
          generalize (wr).alloc (.cells #[.int .i64 E.head, .slice E.ta E.tails.length E.tc, .int .i64 E.cost, .int .i64 E.l0, .int .i64 E.l1] 38) = w1 at *
          generalize hB1 : (wr).heap.size = B1 at *
          obtain ⟨d0, d1, d2, d3, d4, hrow1, _⟩ := hed
          have HIE := Lib.hid (InEd.mk hst1 d0 d1 hs1)
          clear d0 d1 d2 d3 d4 hrow1 hrow hst1 x0 x1 c0 c1 c2 c3 c4 hst hb hBw
          unfold maxLen at hlen
          go_wp2_with fail
          obtain ⟨wm, rfl⟩ : ∃ wm : World, wm = wr := ⟨_, rfl⟩
          go_loopw [6, 9] (fun x6 x9 wr => ∃ j ch2 bs2, j ≤ E.tails.length ∧ x9 = .int .i64 (j : Nat) ∧ x6 = .bool ch2 ∧ InEd W0 (w.heap.size + 1) n B1 E bs2 wr ∧ SoundR bs2 es r ∧ inB bs2 r = true ∧ (ch2 = true → bs2.count false < bs.count false) ∧ (ch2 = false → bs2 = bs ∧ (∀ e ∈ es.take k, closedR bs e) ∧ ∀ t ∈ E.tails.take j, inB bs t = true)) (fun _ x9 _ => E.tails.length - (intOf x9).toNat)
          case atStart => exact ⟨0, ch, bs', Nat.zero_le _, rfl, rfl, HIE.out, HD2.out, HRR2.out, HL.out, fun h => ⟨(HC.out h).1, (HC.out h).2, fun t ht => by cases ht⟩⟩
          case round =>
            obtain ⟨j, ch2, bs2, hj, rfl, rfl, hie, hsd3, hrr3, hl3, hc3⟩ := hrel
            have HIE2 := Lib.hid hie
            have HD3 := Lib.hid hsd3
            have HRR3 := Lib.hid hrr3
            have HL3 := Lib.hid hl3
            have HC3 := Lib.hid hc3
            have hBw2 : Below w.heap.size w wr := HBW.out.trans (hie.st.below.mono (by omega))
            have d0 := hie.head
            have d1 := hie.tails
            have hdb : hd < bs2.length := by rw [hie.st.len]; exact hdn
            have hcell := hie.st.cell hdb
            have hB : inB bs2 E.head = bs2[hd] := by rw [HHD.out, inB_nat]; simp [hdb]
            have HB := Lib.hid hB
            rw [HHD.out] at d0
            clear hie hsd3 hrr3 hl3 hc3 hB
            by_cases hjl : j < E.tails.length
            · cases hv : bs2[hd]
              · rw [hv] at hcell
                go_wp2
                go_roundw
                case rel =>
                  refine ⟨k + 1, ch2, bs2, by omega, by go_num, rfl, HIE2.out.st, HD3.out, HRR3.out, HL3.out, fun h => ?_⟩
                  obtain ⟨h1, h2, h3⟩ := HC3.out h
                  refine ⟨h1, fun e he => ?_⟩
                  rw [HTK.out, List.mem_append] at he
                  rcases he with he | he
                  · exact h2 e he
                  · rw [List.mem_singleton] at he
                    subst he
                    intro hh
                    rw [← h1, HB.out, hv] at hh
                    cases hh
                case measure => simp [intOf]; omega
              · rw [hv] at hcell
                obtain ⟨b2, o2, hta, hb2, hcx⟩ := hrow0.at hjl
                have hx := (hBw2.cell (p := ⟨b2, o2 + j, none⟩) hb2).trans hcx
                have htm := List.getElem_mem hjl
                have HTJ := Lib.hid (take_step E.tails j hjl)
                obtain ⟨tn, htn⟩ := Int.eq_ofNat_of_zero_le ((HOK.out.e E hmem).t _ htm).1
                have htl : tn < n := by have := ((HOK.out.e E hmem).t _ htm).2; omega
                clear hcx hb2
                generalize E.tails[j] = X at *
                subst htn
                rw [hta] at d1
                have htb : tn < bs2.length := by rw [HIE2.out.st.len]; exact htl
                have hcell2 := HIE2.out.st.cell htb
                have HT2 := Lib.hid (show inB bs2 (tn : Int) = bs2[tn] by rw [inB_nat]; simp [htb])
                have HHD1 := Lib.hid (HB.out.trans hv)
                cases hv2 : bs2[tn]
                · rw [hv2] at hcell2
                  have hfr := World.ownsRow.frozenAt HIE2.out.st.own tn
                  go_wp2
                  try rw [← hta]
                  go_roundw
                  case rel =>
                    refine ⟨j + 1, true, bs2.set tn true, by omega, by go_num, rfl, HIE2.out.set (by omega) tn true, soundR_set HD3.out hmem ((HOK.out.e E hmem).h0) HHD1.out htm htb, inB_set_mono htb (by omega) HRR3.out, fun _ => ?_, fun h => by cases h⟩
                    have h1 := count_set bs2 tn htb hv2
                    cases ch2
                    · have h2 := (HC3.out rfl).1
                      rw [h2] at h1 ⊢
                      omega
                    · have h2 := HL3.out rfl
                      omega
                  case measure => simp [intOf]; omega
                · rw [hv2] at hcell2
                  go_wp2
                  try rw [← hta]
                  go_roundw
                  case rel =>
                    refine ⟨j + 1, ch2, bs2, by omega, by go_num, rfl, HIE2.out, HD3.out, HRR3.out, HL3.out, fun h => ?_⟩
                    obtain ⟨h1, h2, h3⟩ := HC3.out h
                    refine ⟨h1, h2, fun t ht => ?_⟩
                    rw [HTJ.out, List.mem_append] at ht
                    rcases ht with ht | ht
                    · exact h3 t ht
                    · rw [List.mem_singleton] at ht
                      subst ht
                      rw [← h1, HT2.out, hv2]
                  case measure => simp [intOf]; omega
            · have hjj : j = E.tails.length := by omega
              subst hjj
              go_wp2
              go_roundw
              case rel =>
                refine ⟨k + 1, ch2, bs2, by omega, by go_num, rfl, HIE2.out.st, HD3.out, HRR3.out, HL3.out, fun h => ?_⟩
                obtain ⟨h1, h2, h3⟩ := HC3.out h
                refine ⟨h1, fun e he => ?_⟩
                rw [HTK.out, List.mem_append] at he
                rcases he with he | he
                · exact h2 e he
                · rw [List.mem_singleton] at he
                  subst he
                  intro _
                  rw [List.take_length] at h3
                  exact h3
              case measure => simp [intOf]; omega
        · have hkk : k = es.length := by omega
          subst hkk
          go_wp2
          go_roundg (bs'.count false + ch.toNat)
          case measure =>
            have := HCT.out
            cases ch
            · obtain ⟨h1, _⟩ := HC.out rfl
              rw [h1]
              simp only [Bool.toNat_true, Bool.toNat_false] at this ⊢
              omega
            · have h1 := HL.out rfl
              simp only [Bool.toNat_true] at this ⊢
              omega
          case rel =>
            refine ⟨ch, bs', rfl, hst, HD2.out, HRR2.out, Nat.le_refl _, fun h => ?_⟩
            obtain ⟨h1, h2⟩ := HC.out h
            rw [List.take_length] at h2
            rw [h1]
            exact h2
end Go.Proofs.Ytjhdhnkikgmpoaa
