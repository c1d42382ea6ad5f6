/- The reference's Derivable: contract. Printed by gen27rder.py. -/
import Derived.Test.YtjhdhnkikgmpoaaSpec
import Derived.Deep.Cut
namespace Go.Proofs.Ytjhdhnkikgmpoaa
open Go.RowKit Go.Deep

/-- what is handed back: a list of n truth values in memory -/
def BoolsPost (w : World) (bs : List Bool) (e : Ending) (w' : World) : Prop := ∃ A cap, e = .returned (.slice A bs.length cap) ∧ BRow w' A bs ∧ Below w.heap.size w w'
/-- the set in memory -/
structure InSt (W0 : World) (g n : Nat) (bs : List Bool) (wr : World) : Prop where
  own : wr.ownsRow g 4 1 (.slice (some ⟨g, 0, none⟩) n n) n (bs.map Value.bool)
  below : Below g W0 wr
  size : W0.heap.size ≤ wr.heap.size
theorem InSt.len {W0 : World} {g n : Nat} {bs : List Bool} {wr : World} (h : InSt W0 g n bs wr) : bs.length = n := by simpa using h.own.1
theorem InSt.cell {W0 : World} {g n : Nat} {bs : List Bool} {wr : World} (h : InSt W0 g n bs wr) {v : Nat} (hv : v < bs.length) : wr.cell? ⟨g, v, none⟩ = some (.bool bs[v]) := by
  rw [World.ownsRow.cellAt h.own v (by rw [← h.len]; omega)]
  simp [hv]
theorem InSt.row {W0 : World} {g n : Nat} {bs : List Bool} {wr : World} (h : InSt W0 g n bs wr) : BRow wr (some ⟨g, 0, none⟩) bs := by
  obtain ⟨A, cap, hA, hr⟩ := own_vrow h.own
  cases hA
  exact hr
theorem InSt.go {W0 : World} {g n : Nat} {bs : List Bool} {wr w2 : World} (h : InSt W0 g n bs wr) (hg : g ≤ wr.heap.size) (hb : Below wr.heap.size wr w2) : InSt W0 g n bs w2 :=
  ⟨World.ownsRow.kept h.own (grown_of_below hb) (by simp [Value.ownBlock]), h.below.trans (hb.mono hg), Nat.le_trans h.size hb.size⟩
theorem InSt.set {W0 : World} {g n : Nat} {bs : List Bool} {wr : World} (h : InSt W0 g n bs wr) (j : Nat) (b : Bool) : InSt W0 g n (bs.set j b) (wr.setCell ⟨g, j, none⟩ (.bool b)) := by
  obtain ⟨h1, h2⟩ := World.ownsRow.stored h.own j (.bool b)
  rw [← List.map_set] at h1
  exact ⟨h1, h.below.setCell (Nat.le_refl _) _, Nat.le_trans h.size h2.size⟩

set_option maxHeartbeats 4000000 in
theorem refder_any (w : World) (a : Option Addr) (c n : Nat) (es : List Ed) (hr : EdRow w a es) (hn : es.length ≤ maxLen) (hok : Ok n es) :
    Calls Try.prog 19 #[.agg #[.int .i64 n, .slice a es.length c]] w (BoolsPost w (derL n es)) := by
  unfold maxLen at hn
  have HR := Lib.hid hr
  have hn1 := hok.n1
  have hn2 := hok.n2
  have HOK := Lib.hid hok
  clear hr hok
  have hmk := run_make_row' (P := Try.prog) 27 4 (.bool false) 1 Try.underlying27 info4 rfl .i64 .i64 n (by omega) (by omega)
  have hbox := HBox.box w n a es.length c
  have hst := own_made (w.alloc (.cells #[.int .i64 n, .slice a es.length c] 24)) (.bool false) n 4 (w.heap.size + 1) (by simp) (by unfold maxLen; omega)
  have hBW : Below w.heap.size w ((w.alloc (.cells #[.int .i64 n, .slice a es.length c] 24)).alloc (.cells (madeCells #[.bool false] n) 4)) := ((Below.refl _ _).alloc (Nat.le_refl _) _).alloc (by simp) _
  have hxx := HBox.below (B := w.heap.size + 1) hbox (by omega) ((Below.refl _ _).alloc (by simp) (.cells (madeCells #[.bool false] n) 4))
  obtain ⟨W0, hW0⟩ : ∃ W0, W0 = (w.alloc (.cells #[.int .i64 n, .slice a es.length c] 24)).alloc (.cells (madeCells #[.bool false] n) 4) := ⟨_, rfl⟩
  have hsz : W0.heap.size = w.heap.size + 2 := by rw [hW0]; simp
  rw [← hW0] at hst hBW hxx
  have hst2 : InSt W0 (w.heap.size + 1) n (List.replicate n false) W0 := ⟨by simpa [Rw.own] using hst, Below.refl _ _, Nat.le_refl _⟩
  have HST := Lib.hid hst2
  have HSZ := Lib.hid hsz
  have HX := Lib.hid hxx
  have HBW := Lib.hid hBW
  clear hst hst2 hsz hxx hBW hbox
  go_enter Try.func19, Try.ntmps19
  go_wp2_with fail
  rw [← hW0]
  have HW0 := Lib.hid hW0
  clear hW0 hmk
  go_loopg [4] (n + 1) (fun gk x4 wr => ∃ ch bs, x4 = .bool ch ∧ InSt W0 (w.heap.size + 1) n bs wr ∧ SoundD bs es ∧ bs.count false + ch.toNat ≤ gk ∧ (ch = false → ∀ e ∈ es, closedE bs e))
  case atStart => exact ⟨true, _, rfl, HST.out, soundD_new n es, by simp, fun h => by cases h⟩
  case round =>
    obtain ⟨ch, bs, rfl, hst, hsd, hct, hcl⟩ := hrel
    have HS := Lib.hid hst
    have HD := Lib.hid hsd
    have HCT := Lib.hid hct
    have HCL := Lib.hid hcl
    clear hst hsd hct hcl
    cases ch
    · go_wp2
      go_ret
      have h1 := derL_of HS.out.len HD.out (HCL.out (by simp))
      refine ⟨some ⟨w.heap.size + 1, 0, none⟩, n, (by show Ending.returned (.slice (some ⟨w.heap.size + 1, 0, none⟩) n n) = _; rw [derL_len]), by rw [← h1]; exact HS.out.row, HBW.out.trans (HS.out.below.mono (by omega))⟩
    · go_wp2_with fail
      obtain ⟨wo, rfl⟩ : ∃ wo : World, wo = wr := ⟨_, rfl⟩
      go_loopw [4, 5] (fun x4 x5 wr => ∃ k ch bs', k ≤ es.length ∧ x5 = .int .i64 (k : Nat) ∧ x4 = .bool ch ∧ InSt W0 (w.heap.size + 1) n bs' wr ∧ SoundD bs' es ∧ (ch = true → bs'.count false < bs.count false) ∧ (ch = false → bs' = bs ∧ ∀ e ∈ es.take k, closedE bs e)) (fun _ x5 _ => es.length - (intOf x5).toNat)
      case atStart => exact ⟨0, false, bs, Nat.zero_le _, rfl, rfl, HS.out, HD.out, (fun h => by cases h), fun _ => ⟨rfl, fun e he => by cases he⟩⟩
      case round =>
        obtain ⟨k, ch, bs', hk, rfl, rfl, hst, hsd, hlt', hcl'⟩ := hrel
        have hBw : Below w.heap.size w wr := HBW.out.trans (hst.below.mono (by omega))
        have hgs : w.heap.size + 1 ≤ wr.heap.size := by have := hst.size; have := HSZ.out; omega
        obtain ⟨x0, x1⟩ := HX.out.below (by omega) hst.below
        by_cases hlt : k < es.length
        · obtain ⟨b, o, rfl, hb, hc⟩ := (HR.out.below (Nat.le_refl _) hBw).at hlt
          obtain ⟨c0, c1, c2, c3, c4, hrow, hlen⟩ := hc
          have hmem := List.getElem_mem hlt
          have HTK := Lib.hid (take_step es k hlt)
          generalize es[k] = E at *
          obtain ⟨hd, hhd⟩ := Int.eq_ofNat_of_zero_le (HOK.out.e E hmem).h0
          have hdn : hd < n := by have := (HOK.out.e E hmem).h1; omega
          have HHD := Lib.hid hhd
          clear hhd
          go_upto_region 9 with fail
          have hed := EdBox wr E hrow hlen
          have hal : Below (wr).heap.size (wr) ((wr).alloc (.cells #[.int .i64 E.head, .slice E.ta E.tails.length E.tc, .int .i64 E.cost, .int .i64 E.l0, .int .i64 E.l1] 38)) := (Below.refl _ _).alloc (Nat.le_refl _) _
          have hs1 : (wr).heap.size < ((wr).alloc (.cells #[.int .i64 E.head, .slice E.ta E.tails.length E.tc, .int .i64 E.cost, .int .i64 E.l0, .int .i64 E.l1] 38)).heap.size := by simp
          have hst1 := hst.go hgs hal
          generalize (wr).alloc (.cells #[.int .i64 E.head, .slice E.ta E.tails.length E.tc, .int .i64 E.cost, .int .i64 E.l0, .int .i64 E.l1] 38) = w1 at *
          generalize hB1 : (wr).heap.size = B1 at *
          obtain ⟨d0, d1, d2, d3, d4, hrow1, _⟩ := hed
          rw [HHD.out] at d0
          have hdb : hd < bs'.length := by rw [hst1.len]; exact hdn
          have hcell := hst1.cell hdb
          have hgw : w.heap.size + 1 ≤ w1.heap.size := by omega
          have hB : inB bs' E.head = bs'[hd] := by rw [HHD.out, inB_nat]; simp [hdb]
          have HB := Lib.hid hB
          clear hB
          have hall := all_any w1 E.ta (some ⟨w.heap.size + 1, 0, none⟩) E.tc n E.tails bs' hrow1 hst1.row hlen (by rw [hst1.len]; exact (HOK.out.e E hmem).t)
          rw [hst1.len] at hall
          have HC := Lib.hid hcl'
          have HL := Lib.hid hlt'
          clear hcl' hlt'
          cases hv : bs'[hd]
          · rw [hv] at hcell
            cases hta : E.tails.all (inB bs')
            · go_wp2_with fail
              refine hall.mono ?_
              rintro e w2 ⟨rfl, rfl⟩
              rw [hta]
              go_wp2
              go_roundw
              case rel =>
                refine ⟨k + 1, ch, bs', by omega, by go_num, rfl, hst1, hsd, HL.out, fun h => ?_⟩
                obtain ⟨h1, h2⟩ := HC.out h
                refine ⟨h1, fun e he => ?_⟩
                rw [HTK.out, List.mem_append] at he
                rcases he with he | he
                · exact h2 e he
                · rw [List.mem_singleton] at he
                  subst he
                  intro ht
                  rw [← h1, hta] at ht
                  cases ht
              case measure => simp [intOf]; omega
            · go_wp2_with fail
              refine hall.mono ?_
              rintro e w2 ⟨rfl, rfl⟩
              rw [hta]
              have hfr := World.ownsRow.frozenAt hst1.own hd
              go_wp2
              go_roundw
              case rel =>
                refine ⟨k + 1, true, bs'.set hd true, by omega, by go_num, rfl, hst1.set hd true, soundD_set hsd hmem (fun t ht => ((HOK.out.e E hmem).t t ht).1) hta HHD.out hdb, fun _ => ?_, fun h => by cases h⟩
                have h1 := count_set bs' hd hdb hv
                cases ch
                · have h2 := (HC.out rfl).1
                  rw [h2] at h1 ⊢
                  omega
                · have h2 := HL.out rfl
                  omega
              case measure => simp [intOf]; omega
          · rw [hv] at hcell
            go_wp2_with fail
            go_roundw
            case rel =>
              refine ⟨k + 1, ch, bs', by omega, by go_num, rfl, hst1, hsd, HL.out, fun h => ?_⟩
              obtain ⟨h1, h2⟩ := HC.out h
              refine ⟨h1, fun e he => ?_⟩
              rw [HTK.out, List.mem_append] at he
              rcases he with he | he
              · exact h2 e he
              · rw [List.mem_singleton] at he
                subst he
                intro _
                rw [← h1, HB.out, hv]
            case measure => simp [intOf]; omega
        · have hkk : k = es.length := by omega
          subst hkk
          have HC := Lib.hid hcl'
          have HL := Lib.hid hlt'
          clear hcl' hlt'
          go_wp2
          go_roundg (bs'.count false + ch.toNat)
          case measure =>
            have := HCT.out
            cases ch
            · obtain ⟨h1, _⟩ := HC.out rfl
              rw [h1]
              simp only [Bool.toNat_true, Bool.toNat_false] at this ⊢
              omega
            · have h1 := HL.out rfl
              simp only [Bool.toNat_true] at this ⊢
              omega
          case rel =>
            refine ⟨ch, bs', rfl, hst, hsd, Nat.le_refl _, fun h => ?_⟩
            obtain ⟨h1, h2⟩ := HC.out h
            rw [List.take_length] at h2
            rw [h1]
            exact h2
end Go.Proofs.Ytjhdhnkikgmpoaa
