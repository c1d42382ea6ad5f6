/- The reference's Order: contract. Printed by gen27rord.py. -/
import Derived.Test.YtjhdhnkikgmpoaaSmall
namespace Go.Proofs.Ytjhdhnkikgmpoaa
open Go.RowKit Go.Deep

def okV (es : List Ed) (bs : List Bool) (v : Nat) : Bool := !bs.getD v false && readyB es bs (v : Int)
def firstR (es : List Ed) (n : Nat) (bs : List Bool) : Option Nat := (List.range n).find? (okV es bs)
def ordGo (es : List Ed) (n : Nat) : Nat → List Bool → List Int → Option (List Int)
  | 0, _, ls => some ls
  | f + 1, bs, ls => match firstR es n bs with
    | none => none
    | some v => ordGo es n f (bs.set v true) (ls ++ [(v : Int)])
def ordL (n : Nat) (es : List Ed) : Option (List Int) := ordGo es n n (List.replicate n false) []
def OrderPost (w : World) (r : Option (List Int)) (e : Ending) (w' : World) : Prop :=
  Below w.heap.size w w' ∧ match r with
  | none => e = .returned (.tuple #[.slice none 0 0, .int .i64 9])
  | some ls => ∃ A cap, e = .returned (.tuple #[.slice A ls.length cap, .int .i64 0]) ∧ IRow w' A ls
theorem ints_one (xs : List Int) : ∀ u ∈ xs.map (Value.int .i64), u.oneCell' = true := fun u hu => by
  obtain ⟨_, _, rfl⟩ := List.mem_map.1 hu
  rfl
theorem firstR_none {es : List Ed} {n : Nat} {bs : List Bool} (h : ∀ v, v < n → okV es bs v = false) : firstR es n bs = none := by
  unfold firstR
  rw [List.find?_eq_none]
  intro v hv
  rw [h v (List.mem_range.1 hv)]
  simp
theorem firstR_some {es : List Ed} {n u : Nat} {bs : List Bool} (h : ∀ v, v < u → okV es bs v = false) (hu : u < n) (ho : okV es bs u = true) : firstR es n bs = some u := by
  unfold firstR
  rw [List.find?_range_eq_some]
  exact ⟨ho, List.mem_range.2 hu, fun j hj => by rw [h j hj]; rfl⟩
/-- two rows: the set, and behind it the list -/
structure TwoSt (W0 : World) (g n : Nat) (bs : List Bool) (lv : Value) (ls : List Int) (wr : World) : Prop where
  st : InSt W0 g n bs wr
  own : wr.ownsRow (g + 1) 3 1 lv ls.length (ls.map (.int .i64))
  gt : g < wr.heap.size
theorem TwoSt.go {W0 : World} {g n : Nat} {bs : List Bool} {lv : Value} {ls : List Int} {wr w2 : World} (h : TwoSt W0 g n bs lv ls wr) (hb : Below wr.heap.size wr w2) : TwoSt W0 g n bs lv ls w2 :=
  ⟨h.st.go (Nat.le_of_lt h.gt) hb, World.ownsRow.kept h.own (grown_of_below hb) (by cases lv.ownBlock <;> simp), Nat.lt_of_lt_of_le h.gt hb.size⟩
theorem TwoSt.set {W0 : World} {g n : Nat} {bs : List Bool} {lv : Value} {ls : List Int} {wr : World} (h : TwoSt W0 g n bs lv ls wr) (j : Nat) (b : Bool) : TwoSt W0 g n (bs.set j b) lv ls (wr.setCell ⟨g, j, none⟩ (.bool b)) :=
  ⟨h.st.set j b, ownsRow_setCell_below h.own (Nat.lt_succ_self g) _, Nat.lt_of_lt_of_le h.gt (World.ownsRow.stored h.st.own j (.bool b)).2.size⟩
theorem TwoSt.push {W0 : World} {g n : Nat} {bs : List Bool} {lv lv' : Value} {ls : List Int} {wr w1 w2 : World} {x : Int} (h : TwoSt W0 g n bs lv ls wr) (h1 : wr.grownBy w1 none) (hg : w1.grownBy w2 lv.ownBlock)
    (ho : w2.ownsRow (g + 1) 3 1 lv' (ls.length + 1) (ls.map (.int .i64) ++ [.int .i64 x])) : TwoSt W0 g n bs lv' (ls ++ [x]) w2 := by
  have hne : lv.ownBlock ≠ some g := fun e => by have := (World.ownsRow.lt h.own g e).1; omega
  have h2 : wr.grownBy w2 lv.ownBlock := grown_trans (grown_any h1) hg
  refine ⟨⟨World.ownsRow.kept h.st.own h2 (Or.inr ?_), h.st.below.trans ⟨h2.os, h2.tape, h2.output, h2.size, fun k hk => h2.block k (by have := h.gt; omega) (fun e => ?_)⟩, Nat.le_trans h.st.size h2.size⟩, ?_, Nat.lt_of_lt_of_le h.gt h2.size⟩
  · intro e; exact hne e.symm
  · have := (World.ownsRow.lt h.own k e.symm).1; omega
  · simpa using ho

set_option maxHeartbeats 4000000 in
theorem reforder_any (w : World) (a : Option Addr) (c n : Nat) (es : List Ed) (hr : EdRow w a es) (hn : es.length ≤ maxLen) (hok : Ok n es) :
    Calls Try.prog 23 #[.agg #[.int .i64 n, .slice a es.length c]] w (OrderPost w (ordL n es)) := by
  have hready := fun w' u bs h hl hy => ready_any w' a (some ⟨w.heap.size + 1, 0, none⟩) c n n es u bs h hn hok hl hy
  unfold maxLen at hn
  have HR := Lib.hid hr
  have hn1 := hok.n1
  have hn2 := hok.n2
  have HOK := Lib.hid hok
  clear hr hok
  have hmk := run_make_row' (P := Try.prog) 27 4 (.bool false) 1 Try.underlying27 info4 rfl .i64 .i64 n (by omega) (by omega)
  have hbox := HBox.box w n a es.length c
  have hst := own_made (w.alloc (.cells #[.int .i64 n, .slice a es.length c] 24)) (.bool false) n 4 (w.heap.size + 1) (by simp) (by unfold maxLen; omega)
  have hBW : Below w.heap.size w ((w.alloc (.cells #[.int .i64 n, .slice a es.length c] 24)).alloc (.cells (madeCells #[.bool false] n) 4)) := ((Below.refl _ _).alloc (Nat.le_refl _) _).alloc (by simp) _
  have hxx := HBox.below (B := w.heap.size + 1) hbox (by omega) ((Below.refl _ _).alloc (by simp) (.cells (madeCells #[.bool false] n) 4))
  obtain ⟨W0, hW0⟩ : ∃ W0, W0 = (w.alloc (.cells #[.int .i64 n, .slice a es.length c] 24)).alloc (.cells (madeCells #[.bool false] n) 4) := ⟨_, rfl⟩
  have hsz : W0.heap.size = w.heap.size + 2 := by rw [hW0]; simp
  rw [← hW0] at hst hBW hxx
  have hst2 : TwoSt W0 (w.heap.size + 1) n (List.replicate n false) (.slice none 0 0) [] W0 := ⟨⟨by simpa [Rw.own] using hst, Below.refl _ _, Nat.le_refl _⟩, World.ownsRow_nil _ _ _ _, by omega⟩
  have HST := Lib.hid hst2
  have HSZ := Lib.hid hsz
  have HX := Lib.hid hxx
  have HBW := Lib.hid hBW
  clear hst hst2 hsz hxx hBW hbox
  have hord : ordL n es = ordGo es n (n - 0) (List.replicate n false) [] := by rw [Nat.sub_zero]; rfl
  have HORD := Lib.hid hord
  clear hord
  go_enter Try.func23, Try.ntmps23
  go_upto_region 2 with fail
  rw [← hW0]
  have HW0 := Lib.hid hW0
  clear hW0 hmk
  go_wp2_with fail
  go_loopg [5] n (fun gk x5 wr => ∃ bs ls, gk = n - ls.length ∧ ls.length ≤ n ∧ (∃ A cap, x5 = .slice A ls.length cap) ∧ TwoSt W0 (w.heap.size + 1) n bs x5 ls wr ∧ ordL n es = ordGo es n (n - ls.length) bs ls)
  case atStart => exact ⟨_, [], rfl, Nat.zero_le _, ⟨none, 0, rfl⟩, HST.out, HORD.out⟩
  case round =>
    obtain ⟨bs, ls, rfl, hll, ⟨A, cap, rfl⟩, hst, hord⟩ := hrel
    have HS := Lib.hid hst
    have HO := Lib.hid hord
    obtain ⟨x0, x1⟩ := HX.out.below (by omega) hst.st.below
    have hBw : Below w.heap.size w wr := HBW.out.trans (hst.st.below.mono (by omega))
    have HBw := Lib.hid hBw
    clear hst hord hBw
    by_cases hlt : ls.length < n
    · have x0' := Lib.hid x0
      have x1' := Lib.hid x1
      go_wp2_with fail
      clear x0 x1
      obtain ⟨wm, rfl⟩ : ∃ wm : World, wm = wr := ⟨_, rfl⟩
      go_loopw [6, 7] (fun x6 x7 wr => ∃ v : Nat, x7 = .int .i64 v ∧ v ≤ n ∧ Below wm.heap.size wm wr ∧ ((x6 = .int .i64 (-1) ∧ ∀ u, u < v → okV es bs u = false) ∨ ∃ u : Nat, x6 = .int .i64 u ∧ u < n ∧ firstR es n bs = some u)) (fun _ x7 _ => n - (intOf x7).toNat)
      case atStart => exact ⟨0, rfl, Nat.zero_le _, Below.refl _ _, Or.inl ⟨rfl, fun u hu => absurd hu (Nat.not_lt_zero u)⟩⟩
      case round =>
        obtain ⟨v, rfl, hvn, hB, hcase⟩ := hrel
        have hst := HS.out.go hB
        obtain ⟨x0, x1⟩ := HX.out.below (by omega) hst.st.below
        have HT := Lib.hid hst
        have HB := Lib.hid hB
        clear hB hst
        rcases hcase with ⟨rfl, hnone⟩ | ⟨u, rfl, hun, hf⟩
        · have HNONE := Lib.hid hnone
          clear hnone
          by_cases hv : v < n
          · have hvb : v < bs.length := by rw [HT.out.st.len]; exact hv
            have hcell := HT.out.st.cell hvb
            have hg : bs.getD v false = bs[v] := by simp [hvb]
            have HG := Lib.hid hg
            clear hg
            cases hbv : bs[v]
            · rw [hbv] at hcell
              have hcall := hready wr (v : Int) bs (HR.out.below (Nat.le_refl _) (HBw.out.trans (HB.out.mono HBw.out.size))) HT.out.st.len HT.out.st.row
              cases hrb : readyB es bs (v : Int)
              · have hok : okV es bs v = false := by unfold okV; rw [HG.out, hbv, hrb]; rfl
                have HOKV := Lib.hid hok
                clear hok
                go_wp2_with fail
                refine hcall.mono ?_
                rintro e w2 ⟨rfl, hb2⟩
                rw [hrb]
                go_wp2
                go_roundw
                case rel =>
                  refine ⟨v + 1, by go_num, by omega, HB.out.trans (hb2.mono HB.out.size), Or.inl ⟨rfl, fun u hu => ?_⟩⟩
                  by_cases huv : u = v
                  · rw [huv]; exact HOKV.out
                  · exact HNONE.out u (by omega)
                case measure => simp [intOf]; omega
              · have hok : okV es bs v = true := by unfold okV; rw [HG.out, hbv, hrb]; rfl
                have HF := Lib.hid (firstR_some HNONE.out hv hok)
                clear hok
                go_wp2_with fail
                refine hcall.mono ?_
                rintro e w2 ⟨rfl, hb2⟩
                rw [hrb]
                go_wp2
                go_roundw
                case rel => exact ⟨v + 1, by go_num, by omega, HB.out.trans (hb2.mono HB.out.size), Or.inr ⟨v, rfl, hv, HF.out⟩⟩
                case measure => simp [intOf]; omega
            · rw [hbv] at hcell
              have hok : okV es bs v = false := by unfold okV; rw [HG.out, hbv]; rfl
              have HOKV := Lib.hid hok
              clear hok hready
              go_wp2_with fail
              go_roundw
              case rel =>
                refine ⟨v + 1, by go_num, by omega, HB.out, Or.inl ⟨rfl, fun u hu => ?_⟩⟩
                by_cases huv : u = v
                · rw [huv]; exact HOKV.out
                · exact HNONE.out u (by omega)
              case measure => simp [intOf]; omega
          · have hvv : v = n := by omega
            subst hvv
            have HF := Lib.hid (firstR_none HNONE.out)
            clear hready
            go_wp2
            go_ret2
            refine ⟨HBw.out.trans (HB.out.mono HBw.out.size), ?_⟩
            have h1 : ordL v es = none := by
              rw [HO.out, show v - ls.length = (v - ls.length - 1) + 1 by omega]
              simp only [ordGo, HF.out]
            rw [h1]
            rfl
        · have HF := Lib.hid hf
          have hu0 : ¬ ((u : Int) < 0) := by omega
          have hub : u < bs.length := by rw [HT.out.st.len]; exact hun
          have hcell := HT.out.st.cell hub
          have hfr := World.ownsRow.frozenAt HT.out.st.own u
          clear hf hready
          by_cases hv : v < n
          all_goals
            go_upto_region 13 with fail
            have hst3 := HT.out.set u true
            have HT3 := Lib.hid hst3
            clear hst3 x0 x1 hcell hfr
            generalize wr.setCell ⟨w.heap.size + 1, u, none⟩ (.bool true) = w3 at *
            obtain ⟨i3, hi3, hz3, hs3, hb3⟩ := info_parts info3
            have hbase : w.heap.size + 1 + 1 ≤ (w3.alloc (.cells #[.int .i64 (u : Int)] 3)).heap.size := by have := HT3.out.gt; simp; omega
            go_wp2_with (at_builtin; refine wpList_append_lies _ rfl _ _ 35 rfl (w.heap.size + 1 + 1) 3 i3 (.int .i64 0) 1 8 Try.underlying35 hi3 hz3 hs3 hb3 rfl (by decide) _ (ls).length ((ls).map (.int .i64)) rfl (World.ownsRow.alloc HT3.out.own _) _ 1 1 [.int .i64 ((u : Int))] rfl rfl (World.news_of_block (heap_alloc_new _ _)) (ints_one [(u : Int)]) (by decide) (by unfold maxLen; omega) (by omega) hbase _ rfl ?_)
            intro g1 cap1 w4 hown4 hgrow4 _ _
            have hst4 := HT3.out.push (World.grownBy_alloc _ _ none) hgrow4 hown4
            have HT4 := Lib.hid hst4
            clear hst4 hown4 hgrow4 hbase
            go_wp2_with fail
            go_roundg (n - (ls.length + 1))
            case measure => omega
            case rel =>
              refine ⟨bs.set u true, ls ++ [(u : Int)], by simp, by simp; omega, ⟨some ⟨g1, 0, none⟩, cap1, by simp⟩, HT4.out, ?_⟩
              rw [HO.out, show n - ls.length = (n - (ls.length + 1)) + 1 by omega]
              simp only [ordGo, HF.out, List.length_append, List.length_singleton]
    · have hlen : ls.length = n := by omega
      go_wp2
      go_ret2
      refine ⟨HBw.out, ?_⟩
      have h1 : ordL n es = some ls := by
        rw [HO.out, hlen, Nat.sub_self]
        rfl
      rw [h1]
      obtain ⟨A', cap', hA, hrow⟩ := own_vrow HS.out.own
      cases hA
      exact ⟨A, cap, rfl, hrow⟩
end Go.Proofs.Ytjhdhnkikgmpoaa
