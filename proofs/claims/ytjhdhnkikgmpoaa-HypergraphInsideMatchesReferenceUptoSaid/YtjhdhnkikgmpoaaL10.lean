/- Law 10: walk. Printed by gen27l10.py. -/
import Derived.Test.YtjhdhnkikgmpoaaInsL
namespace Go.Proofs.Ytjhdhnkikgmpoaa
open Go.RowKit Go.Deep

/-- a list that grows, and what stands below it -/
structure LstSt (W0 : World) (B : Nat) (ty : TypeId) (v : Value) (xs : List Value) (wr : World) : Prop where
  own : wr.ownsRow B ty 1 v xs.length xs
  below : Below B W0 wr
  le : B ≤ wr.heap.size
theorem LstSt.new (w : World) (ty : TypeId) : LstSt w w.heap.size ty (.slice none 0 0) [] w := ⟨World.ownsRow_nil _ _ _ _, Below.refl _ _, Nat.le_refl _⟩
theorem LstSt.push {W0 wr wa wb : World} {B : Nat} {ty : TypeId} {v v' x : Value} {xs : List Value} (h : LstSt W0 B ty v xs wr) (h1 : wr.grownBy wa none) (hg : wa.grownBy wb v.ownBlock) (ho : wb.ownsRow B ty 1 v' (xs.length + 1) (xs ++ [x])) : LstSt W0 B ty v' (xs ++ [x]) wb := by
  have h2 : wr.grownBy wb v.ownBlock := grown_trans (grown_any h1) hg
  exact ⟨by simpa using ho, h.below.grown h2 h.le (fun k hk => (World.ownsRow.lt h.own k hk).1), Nat.le_trans h.le h2.size⟩

theorem one_str (s : ByteArray) : ∀ u ∈ [Value.string s], u.oneCell' = true := fun u hu => by
  rw [List.mem_singleton.1 hu]; rfl
theorem insS_len {α : Type} {add mul : α → α → α} {zero d : α} (n : Int) (es : List Ed) (ws : List α) : (insS add mul zero d n es ws).2.length ≤ n.toNat := by
  unfold insS
  split
  · split
    · simp
    · simp [insGo_len]
  · simp

set_option maxRecDepth 100000 in
set_option maxHeartbeats 1000000 in
theorem law10_any (w : World) (a : Option Addr) (c : Nat) (n : Int) (es : List Ed) (hr : EdRow w a es) (hn : es.length ≤ maxLen) :
    Calls Try.prog 10 #[.agg #[.int .i64 n, .slice a es.length c]] w fun e w' => e = .returned (.bool true) ∧ Below w.heap.size w w' := by
  have HR := Lib.hid hr
  unfold maxLen at hn
  clear hr
  have hbox := HBox.box w n a es.length c
  have hB0 : Below w.heap.size w (w.alloc (.cells #[.int .i64 n, .slice a es.length c] 24)) := (Below.refl _ _).alloc (Nat.le_refl _) _
  have HB0 := Lib.hid hB0
  have HBOX := Lib.hid hbox
  clear hbox hB0
  go_enter Try.func10, Try.ntmps10
  go_wp2_with fail
  refine (awake_any _).mono ?_
  rintro e w1 ⟨rfl, hb1⟩
  have HB1 := Lib.hid (HB0.out.trans (hb1.mono (by simp)))
  have hx1 := HBOX.out.below (B := w.heap.size + 1) (by omega) (hb1.mono (by simp))
  have hs1 : w.heap.size < w1.heap.size := by have := hb1.size; simp at this; omega
  have HX1 := Lib.hid hx1
  have HR1 := Lib.hid (HR.out.below (Nat.le_refl _) HB1.out)
  obtain ⟨x0, x1⟩ := hx1
  clear hb1 HBOX

  go_wp2_with fail
  refine (small_any _ a c n es HR1.out (by unfold maxLen; omega)).mono ?_
  rintro e w2 ⟨rfl, hb⟩
  have HB2 := Lib.hid (HB1.out.trans (hb.mono (Nat.le_of_lt hs1)))
  have HX2 := Lib.hid (HX1.out.below hs1 hb)
  have hs2 : w.heap.size < w2.heap.size := Nat.lt_of_lt_of_le hs1 hb.size
  have HR2 := Lib.hid (HR1.out.below (Nat.le_refl _) hb)
  clear x0 x1 hb
  obtain ⟨x0, x1⟩ := HX2.out
  cases hsm : smallB n es
  · go_wp2
    go_ret
    exact ⟨rfl, HB2.out⟩
  · obtain ⟨hl60, hl4, m, rfl, hm30, hok, hval⟩ := small_len hsm
    have HOCC := Lib.hid (occ_small hl60 hl4)
    have hm1 := hok.n1
    clear hsm hl4 hok hval
    go_wp2_with fail
    clear x0 x1
    obtain ⟨D, hD⟩ : ∃ D, D = w2.heap.size := ⟨_, rfl⟩
    have HNEW := Lib.hid (show LstSt w2 D 9 (.slice none 0 0) (([] : List ByteArray).map Value.string) w2 by rw [hD]; exact LstSt.new w2 9)
    have hwD : w.heap.size < D := by omega
    have HD := Lib.hid hD
    have HXX := Lib.hid (fun (w' : World) (h : Below D w2 w') => HX2.out.below hwD h)
    have HCC := Lib.hid (fun (w' : World) (h : Below D w2 w') => HB2.out.trans (h.mono (Nat.le_of_lt hwD)))
    clear hD
    go_loopw [3, 4] (fun x3 x4 wr => ∃ (k : Nat) (xs : List ByteArray), k ≤ es.length ∧ x4 = .int .i64 (k : Nat) ∧ xs.length = k ∧ (∀ x ∈ xs, SB x) ∧ LstSt w2 D 9 x3 (xs.map Value.string) wr) (fun _ x4 _ => es.length - (intOf x4).toNat)
    case atStart => exact ⟨0, [], Nat.zero_le _, rfl, rfl, (fun x hx => by cases hx), HNEW.out⟩
    case round =>
      obtain ⟨k, xs, hk, rfl, hxl, hsb, hst⟩ := hrel
      have HXL := Lib.hid hxl
      have HSB := Lib.hid hsb
      have HS := Lib.hid hst
      obtain ⟨x0, x1⟩ := HXX.out _ hst.below
      obtain ⟨A3, c3, hA3, _⟩ := own_vrow hst.own
      rw [List.length_map, hxl] at hA3
      subst hA3
      have hown : wr.ownsRow D 9 1 (.slice A3 k c3) k (xs.map Value.string) := by
        have := hst.own
        rw [List.length_map, hxl] at this
        exact this
      have HOWN := Lib.hid hown
      clear hst hsb hxl hown
      by_cases hkl : k < es.length
      · have hk0 : ¬ ((k : Int) < 0) := by omega
        obtain ⟨r, hr⟩ : ∃ r, r = k % 26 := ⟨_, rfl⟩
        have hr26 : r < 26 := by rw [hr]; exact Nat.mod_lt _ (by omega)
        have hrt : (k : Int).tmod 26 = (r : Int) := by rw [hr, Int.tmod_eq_emod_of_nonneg (by omega)]; rfl
        have hrm : (k : Int) % 26 = (r : Int) := by rw [hr]; rfl
        have hbase : D ≤ (wr.alloc (.cells #[.string (ByteArray.extract { data := #[97, 98, 99, 100, 101, 102, 103, 104, 105, 106, 107, 108, 109, 110, 111, 112, 113, 114, 115, 116, 117, 118, 119, 120, 121, 122] } r (r + 1))] 9)).heap.size := by have := HS.out.le; simp; omega
        have hxlk : xs.length ≤ 60 := by rw [HXL.out]; omega
        clear hr
        obtain ⟨i9, hi9, hz9, hs9, hb9⟩ := info_parts info9
        obtain ⟨Z, hZ⟩ : ∃ Z, Z = ByteArray.extract { data := #[97, 98, 99, 100, 101, 102, 103, 104, 105, 106, 107, 108, 109, 110, 111, 112, 113, 114, 115, 116, 117, 118, 119, 120, 121, 122] } r (r + 1) := ⟨_, rfl⟩
        have hZs : SB Z := by
          unfold SB
          rw [hZ, ByteArray.size_extract]
          omega
        rw [← hZ] at hbase
        have HZ := Lib.hid hZ
        have HZS := Lib.hid hZs
        have hzz : ByteArray.extract { data := #[97, 98, 99, 100, 101, 102, 103, 104, 105, 106, 107, 108, 109, 110, 111, 112, 113, 114, 115, 116, 117, 118, 119, 120, 121, 122] } r (r + 1) = Z := hZ.symm
        clear hZ hZs
        go_wp2_with (at_builtin; refine wpList_append_lies _ rfl _ _ 49 rfl (D) 9 i9 (.string { data := #[] }) 1 16 Try.underlying49 hi9 hz9 hs9 hb9 rfl (by decide) _ (k) (xs.map Value.string) rfl (World.ownsRow.alloc HOWN.out _) _ 1 1 [.string Z] rfl rfl (World.news_of_block (heap_alloc_new _ _)) (one_str Z) (by decide) (by unfold maxLen; omega) (by omega) hbase _ rfl ?_)
        intro g1 cap1 w5 hown5 hgrow5 _ _
        have hst5 := LstSt.push HS.out (World.grownBy_alloc _ (.cells #[.string Z] 9) none) hgrow5 (by rw [List.length_map, HXL.out]; exact hown5)
        have HS5 := Lib.hid hst5
        clear hown5 hgrow5 hst5 hbase x0 x1 hzz
        go_wp2
        go_roundw
        case rel =>
          refine ⟨k + 1, xs ++ [Z], by omega, by go_num, by simp [HXL.out], fun x hx => ?_, by rw [List.map_append]; exact HS5.out⟩
          rcases List.mem_append.1 hx with h1 | h1
          · exact HSB.out x h1
          · rw [List.mem_singleton.1 h1]; exact HZS.out
        case measure => simp [intOf]; omega
      · have hkk : k = es.length := by omega
        subst hkk
        have hBr : Below w.heap.size w wr := HCC.out _ HS.out.below
        have hsr : w.heap.size < wr.heap.size := Nat.lt_of_lt_of_le hwD HS.out.le
        obtain ⟨err, X, hR⟩ : ∃ err X, insS wAdd wMul { data := #[] } { data := #[] } (m : Int) es xs = (err, X) := ⟨_, _, rfl⟩
        have hXl : X.length ≤ 30 := by
          have h1 := insS_len (add := wAdd) (mul := wMul) (zero := { data := #[] }) (d := { data := #[] }) (m : Int) es xs
          rw [hR] at h1
          simp only [Int.toNat_natCast] at h1
          omega
        have hrow : SRow wr A3 xs := by
          obtain ⟨A', c', hA', hr'⟩ := own_vrow HOWN.out
          cases hA'
          exact hr'
        have hc1 : ∀ w', EdRow w' a es → SRow w' A3 xs → Calls Try.prog 26 #[.agg #[.int .i64 m, .slice a es.length c], .iface 52 (.agg #[]), .slice A3 es.length c3] w' (InsPost w' Value.string (err, X)) := fun w' h1 h2 => by
          have h3 := insS_any w' a A3 c c3 (m : Int) es xs h1 (by omega) HOCC.out h2 HSB.out
          rw [hR, HXL.out] at h3
          exact h3
        have hc2 : ∀ w', EdRow w' a es → SRow w' A3 xs → Calls Try.prog 27 #[.agg #[.int .i64 m, .slice a es.length c], .slice A3 es.length c3] w' (InsPost w' Value.string (err, X)) := fun w' h1 h2 => by
          have h3 := refS_any w' a A3 c c3 (m : Int) es xs h1 (by omega) h2 HSB.out
          rw [hR, HXL.out] at h3
          exact h3
        have hcall := hc1 wr (HR.out.below (Nat.le_refl _) hBr) hrow
        have HC2 := Lib.hid hc2
        have HROW := Lib.hid hrow
        have HB3 := Lib.hid hBr
        have HX7 := Lib.hid (HXX.out _ HS.out.below)
        clear hc1 hc2 hR hrow hBr x0 x1
        obtain ⟨x0, x1⟩ := HX7.out
        go_wp2_with fail
        refine hcall.mono ?_
        rintro e w8 ⟨hb, A, cap, rfl, hrow, hnil⟩
        have HB8 := Lib.hid (HB3.out.trans (hb.mono (Nat.le_of_lt hsr)))
        have hx8 := HX7.out.below hsr hb
        have HRX := Lib.hid hrow
        have hcall2 := HC2.out w8 (HR.out.below (Nat.le_refl _) HB8.out) (HROW.out.below (Nat.le_refl _) hb)
        clear hcall hrow hnil hb x0 x1
        obtain ⟨x0, x1⟩ := hx8
        go_wp2_with fail
        refine hcall2.mono ?_
        rintro e w9 ⟨hb, A2, cap2, rfl, hrow, hnil⟩
        have HB9 := Lib.hid (HB8.out.trans (hb.mono HB8.out.size))
        have HRX9 := Lib.hid (HRX.out.below (Nat.le_refl _) hb)
        have HRY9 := Lib.hid hrow
        clear hcall2 hrow hnil hb x0 x1
        go_wp2_with fail
        go_loopw [9] (fun x9 wr => ∃ i : Nat, i ≤ X.length ∧ x9 = .int .i64 i ∧ Below w9.heap.size w9 wr) (fun x9 _ => X.length - (intOf x9).toNat)
        case atStart => exact ⟨0, Nat.zero_le _, rfl, Below.refl _ _⟩
        case round =>
          obtain ⟨i, hi, rfl, hbr⟩ := hrel
          have HBR := Lib.hid hbr
          have hrx := HRX9.out.below (Nat.le_refl _) hbr
          have hry := HRY9.out.below (Nat.le_refl _) hbr
          clear hbr
          by_cases hil : i < X.length
          · obtain ⟨b1, o1, hA1, _, hcx⟩ := hrx.at hil
            obtain ⟨b2, o2, hA2, _, hcy⟩ := hry.at hil
            have hi0 : ¬ ((i : Int) < 0) := by omega
            generalize X[i] = XI at *
            clear hrx hry
            go_wp2_with fail
            go_region
            have HB10 := Lib.hid (HBR.out.trans ((Below.refl wr.heap.size wr).drew.mono HBR.out.size))
            clear hcx hcy
            generalize wr.drew = w10 at *
            go_wp2
            try rw [← hA1]
            try rw [← hA2]
            go_roundw
            case rel => exact ⟨i + 1, by omega, by go_num, HB10.out⟩
            case measure => simp [intOf]; omega
          · have hii : i = X.length := by omega
            subst hii
            go_wp2
            go_ret
            exact ⟨rfl, HB9.out.trans (HBR.out.mono HB9.out.size)⟩
end Go.Proofs.Ytjhdhnkikgmpoaa
