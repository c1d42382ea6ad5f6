/- Law 9: walk. Printed by gen27l9.py. -/
import Derived.Test.YtjhdhnkikgmpoaaL10
import Derived.Laws.BitsLemmas
namespace Go.Proofs.Ytjhdhnkikgmpoaa
open Go.RowKit Go.Deep

theorem i64_and65535 (n : Int) : bits .and .i64 n 65535 = n % 65536 := by
  have h127 : (BitVec.ofInt 64 65535).toNat = 2 ^ 16 - 1 := by decide
  have key : (BitVec.ofInt 64 n &&& BitVec.ofInt 64 65535).toNat = (n % ((2 ^ 64 : Nat) : Int)).toNat % 2 ^ 16 := by
    rw [BitVec.toNat_and, BitVec.toNat_ofInt, h127, Nat.and_two_pow_sub_one_eq_mod]
  show IntKind.i64.wrap ((BitVec.ofInt 64 n &&& BitVec.ofInt 64 65535).toNat : Nat) = n % 65536
  rw [key, IntKind.wrap_i64]
  omega

set_option maxRecDepth 100000 in
set_option maxHeartbeats 1000000 in
theorem law9_any (w : World) (a : Option Addr) (c : Nat) (n : Int) (es : List Ed) (aw : Option Addr) (cw : Nat) (us : List Int) (hw : IRow w aw us) (hul : us.length ≤ 1048576) (hocc : (occ es).length ≤ 1048576) (hr : EdRow w a es) (hn : es.length ≤ maxLen) :
    Calls Try.prog 9 #[.agg #[.int .i64 n, .slice a es.length c], .slice aw us.length cw] w fun e w' => e = .returned (.bool true) ∧ Below w.heap.size w w' := by
  have HR := Lib.hid hr
  unfold maxLen at hn
  clear hr
  have hbox := HBox.box w n a es.length c
  have hB0 : Below w.heap.size w (w.alloc (.cells #[.int .i64 n, .slice a es.length c] 24)) := (Below.refl _ _).alloc (Nat.le_refl _) _
  have HB0 := Lib.hid hB0
  have HBOX := Lib.hid hbox
  clear hbox hB0
  go_enter Try.func9, Try.ntmps9
  go_wp2_with fail
  refine (awake_any _).mono ?_
  rintro e w1 ⟨rfl, hb1⟩
  have HB1 := Lib.hid (HB0.out.trans (hb1.mono (by simp)))
  have hx1 := HBOX.out.below (B := w.heap.size + 1) (by omega) (hb1.mono (by simp))
  have hs1 : w.heap.size < w1.heap.size := by have := hb1.size; simp at this; omega
  have HX1 := Lib.hid hx1
  have HR1 := Lib.hid (HR.out.below (Nat.le_refl _) HB1.out)
  obtain ⟨x0, x1⟩ := hx1
  clear hb1 HBOX

  have HW := Lib.hid hw
  have HOCC := Lib.hid hocc
  clear hw hocc
  by_cases h60 : 60 < es.length
  · have hd : decide (60 < (es.length : Int)) = true := decide_eq_true (by omega)
    go_wp2
    go_ret
    exact ⟨rfl, HB1.out⟩
  · have hd : decide (60 < (es.length : Int)) = false := decide_eq_false (by omega)
    by_cases h30 : 30 < n
    · have hd2 : decide (30 < n) = true := decide_eq_true h30
      go_wp2
      go_ret
      exact ⟨rfl, HB1.out⟩
    · have hd2 : decide (30 < n) = false := decide_eq_false h30
      go_wp2_with fail
      clear x0 x1 hd hd2
      obtain ⟨D, hD⟩ : ∃ D, D = w1.heap.size := ⟨_, rfl⟩
      have HNEW := Lib.hid (show LstSt w1 D 3 (.slice none 0 0) (([] : List Int).map (Value.int .i64)) w1 by rw [hD]; exact LstSt.new w1 3)
      have hwD : w.heap.size < D := by omega
      have HD := Lib.hid hD
      have HXX := Lib.hid (fun (w' : World) (h : Below D w1 w') => HX1.out.below hwD h)
      have HCC := Lib.hid (fun (w' : World) (h : Below D w1 w') => HB1.out.trans (h.mono (Nat.le_of_lt hwD)))
      clear hD
      go_loopw [5, 6] (fun x5 x6 wr => ∃ (k : Nat) (xs : List Int), k ≤ us.length ∧ x6 = .int .i64 (k : Nat) ∧ xs.length = k ∧ (∀ x ∈ xs, NB x) ∧ LstSt w1 D 3 x5 (xs.map (Value.int .i64)) wr) (fun _ x6 _ => us.length - (intOf x6).toNat)
      case atStart => exact ⟨0, [], Nat.zero_le _, rfl, rfl, (fun x hx => by cases hx), HNEW.out⟩
      case round =>
        obtain ⟨k, xs, hk, rfl, hxl, hsb, hst⟩ := hrel
        have HXL := Lib.hid hxl
        have HSB := Lib.hid hsb
        have HS := Lib.hid hst
        obtain ⟨A3, c3, hA3, _⟩ := own_vrow hst.own
        rw [List.length_map, hxl] at hA3
        subst hA3
        have hown : wr.ownsRow D 3 1 (.slice A3 k c3) k (xs.map (Value.int .i64)) := by
          have := hst.own
          rw [List.length_map, hxl] at this
          exact this
        have HOWN := Lib.hid hown
        have hBr : Below w.heap.size w wr := HCC.out _ hst.below
        have HBR := Lib.hid hBr
        clear hst hsb hxl hown hBr
        by_cases hkl : k < us.length
        · have hk0 : ¬ ((k : Int) < 0) := by omega
          obtain ⟨bw, ow, haw, _, hcw⟩ := (HW.out.below (Nat.le_refl _) HBR.out).at hkl
          generalize us[k] = U at *
          have hbase : D ≤ (wr.alloc (.cells #[.int .i64 (bits BinOp.and IntKind.i64 U 65535)] 3)).heap.size := by have := HS.out.le; simp; omega
          obtain ⟨i3, hi3, hz3, hs3, hb3⟩ := info_parts info3
          go_wp2_with (at_builtin; refine wpList_append_lies _ rfl _ _ 35 rfl (D) 3 i3 (.int .i64 0) 1 8 Try.underlying35 hi3 hz3 hs3 hb3 rfl (by decide) _ (k) (xs.map (Value.int .i64)) rfl (World.ownsRow.alloc HOWN.out _) _ 1 1 [.int .i64 (bits BinOp.and IntKind.i64 U 65535)] rfl rfl (World.news_of_block (heap_alloc_new _ _)) (ints_one [_]) (by decide) (by unfold maxLen; omega) (by omega) hbase _ rfl ?_)
          intro g1 cap1 w5 hown5 hgrow5 _ _
          have hst5 := LstSt.push HS.out (World.grownBy_alloc _ (.cells #[.int .i64 (bits BinOp.and IntKind.i64 U 65535)] 3) none) hgrow5 (by rw [List.length_map, HXL.out]; exact hown5)
          have HS5 := Lib.hid hst5
          clear hown5 hgrow5 hst5 hbase hcw
          go_wp2
          try rw [← haw]
          go_roundw
          case rel =>
            refine ⟨k + 1, xs ++ [bits BinOp.and IntKind.i64 U 65535], by omega, by go_num, by simp [HXL.out], fun x hx => ?_, by rw [List.map_append]; exact HS5.out⟩
            rcases List.mem_append.1 hx with h1 | h1
            · exact HSB.out x h1
            · rw [List.mem_singleton.1 h1, i64_and65535]
              unfold NB
              omega
          case measure => simp [intOf]; omega
        · have hkk : k = us.length := by omega
          subst hkk
          have hsr : w.heap.size < wr.heap.size := Nat.lt_of_lt_of_le hwD HS.out.le
          obtain ⟨err, X, hR⟩ : ∃ err X, insS nAdd nMul 0 0 n es xs = (err, X) := ⟨_, _, rfl⟩
          have hXl : X.length ≤ 30 := by
            have h1 := insS_len (add := nAdd) (mul := nMul) (zero := 0) (d := 0) n es xs
            rw [hR] at h1
            simp only at h1
            omega
          have hrow : IRow wr A3 xs := by
            obtain ⟨A', c', hA', hr'⟩ := own_vrow HOWN.out
            cases hA'
            exact hr'
          have hc1 : ∀ w', EdRow w' a es → IRow w' A3 xs → Calls Try.prog 16 #[.agg #[.int .i64 n, .slice a es.length c], .iface 41 (.agg #[]), .slice A3 us.length c3] w' (InsPost w' (Value.int .i64) (err, X)) := fun w' h1 h2 => by
            have h3 := insI_any w' a A3 c c3 n es xs h1 (by omega) (by have := HOCC.out; omega) h2 HSB.out
            rw [hR, HXL.out] at h3
            exact h3
          have hc2 : ∀ w', EdRow w' a es → IRow w' A3 xs → Calls Try.prog 25 #[.agg #[.int .i64 n, .slice a es.length c], .slice A3 us.length c3] w' (InsPost w' (Value.int .i64) (err, X)) := fun w' h1 h2 => by
            have h3 := refI_any w' a A3 c c3 n es xs h1 (by omega) h2 HSB.out
            rw [hR, HXL.out] at h3
            exact h3
          have hcall := hc1 wr (HR.out.below (Nat.le_refl _) HBR.out) hrow
          have HC2 := Lib.hid hc2
          have HROW := Lib.hid hrow
          have HX7 := Lib.hid (HXX.out _ HS.out.below)
          clear hc1 hc2 hR hrow
          obtain ⟨x0, x1⟩ := HX7.out
          go_wp2_with fail
          refine hcall.mono ?_
          rintro e w8 ⟨hb, A, cap, rfl, hrow, hnil⟩
          have HB8 := Lib.hid (HBR.out.trans (hb.mono (Nat.le_of_lt hsr)))
          have hx8 := HX7.out.below hsr hb
          have HRX := Lib.hid hrow
          have hcall2 := HC2.out w8 (HR.out.below (Nat.le_refl _) HB8.out) (HROW.out.below (Nat.le_refl _) hb)
          clear hcall hrow hnil hb x0 x1
          obtain ⟨x0, x1⟩ := hx8
          go_wp2_with fail
          refine hcall2.mono ?_
          rintro e w9 ⟨hb, A2, cap2, rfl, hrow, hnil⟩
          have HB9 := Lib.hid (HB8.out.trans (hb.mono HB8.out.size))
          have HRX9 := Lib.hid (HRX.out.below (Nat.le_refl _) hb)
          have HRY9 := Lib.hid hrow
          clear hcall2 hrow hnil hb x0 x1
          have heq : (err == err) = true := by simp
          go_wp2_with fail
          refine (sameInts_any w9 A A2 cap cap2 X X HRX9.out HRY9.out (by unfold maxLen; omega) (by unfold maxLen; omega)).mono ?_
          rintro e w10 ⟨rfl, hb⟩
          rw [beq_self_eq_true]
          have HB10 := Lib.hid (HB9.out.trans (hb.mono HB9.out.size))
          clear hb
          go_wp2
          go_ret
          exact ⟨rfl, HB10.out⟩
end Go.Proofs.Ytjhdhnkikgmpoaa
