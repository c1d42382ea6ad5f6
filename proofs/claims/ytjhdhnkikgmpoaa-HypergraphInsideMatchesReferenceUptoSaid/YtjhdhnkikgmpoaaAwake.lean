/- The document's examples hold. Printed by gen27awake.py. -/
import Derived.Test.YtjhdhnkikgmpoaaEx
namespace Go.Proofs.Ytjhdhnkikgmpoaa
open Go.RowKit Go.Deep

theorem ex_c22 (s : Nat) (w : World) (h : EdRow w (exA s) (exE s)) : Calls Try.prog 22 #[.agg #[.int .i64 3, .slice (exA s) 4 4]] w (OrderPost w (some [1, 2, 0])) := by
  have h1 := order_any w (exA s) 4 3 (exE s) h (by show 4 ≤ 1048576; decide) (ex_ok s) (ex_occ s)
  rw [ex_ord] at h1
  exact h1
theorem ex_c16 (s : Nat) (w : World) (aw : Option Addr) (h : EdRow w (exA s) (exE s)) (hw : IRow w aw [1, 1, 1, 1]) : Calls Try.prog 16 #[.agg #[.int .i64 3, .slice (exA s) 4 4], .iface 41 (.agg #[]), .slice aw 4 4] w (InsPost w (Value.int .i64) (0, [2, 1, 2])) := by
  have h1 := insI_any w (exA s) aw 4 4 3 (exE s) [1, 1, 1, 1] h (by show 4 ≤ 1048576; decide) (ex_occ s) hw (fun x hx => by
    simp only [List.mem_cons, List.not_mem_nil, or_false, or_self] at hx
    rw [hx]; exact ⟨by decide, by decide⟩)
  rw [ex_ins] at h1
  exact h1
theorem ex_c15 (s : Nat) (w : World) (h : EdRow w (exA s) (exE s)) : Calls Try.prog 15 #[.agg #[.int .i64 3, .slice (exA s) 4 4]] w (BoolsPost w [true, true, true]) := by
  have h1 := der_any w (exA s) 4 3 (exE s) h (by show 4 ≤ 1048576; decide) (ex_ok s) (ex_occ s)
  rw [ex_der] at h1
  exact h1
theorem ex_c20 (s : Nat) (w : World) (h : EdRow w (exA s) (exE s)) : Calls Try.prog 20 #[.agg #[.int .i64 3, .slice (exA s) 4 4], .int .i64 2] w (BoolsPost w [false, true, true]) := by
  have h1 := reach_any w (exA s) 4 3 (exE s) 2 h (by show 4 ≤ 1048576; decide) (ex_ok s)
  rw [ex_reach] at h1
  exact h1
theorem ex_c17 (s : Nat) (w : World) (h : EdRow w (exA s) (exE s)) : Calls Try.prog 17 #[.agg #[.int .i64 3, .slice (exA s) 4 4]] w fun e w' => e = .returned (.bool true) ∧ Below w.heap.size w w' := by
  have h1 := valid_any w (exA s) 4 3 (exE s) h (by show 4 ≤ maxLen; decide)
  rw [ex_valid] at h1
  exact h1
theorem ex_c17z (w : World) : Calls Try.prog 17 #[.agg #[.int .i64 0, .slice none 0 0]] w fun e w' => e = .returned (.bool false) ∧ Below w.heap.size w w' :=
  valid_any w none 0 0 [] (Or.inl rfl) (Nat.zero_le _)
theorem same3 (w : World) (a a2 : Option Addr) (c c2 : Nat) (x y z : Int) (h : IRow w a [x, y, z]) (h2 : IRow w a2 [x, y, z]) : Calls Try.prog 24 #[.slice a 3 c, .slice a2 3 c2] w fun e w' => e = .returned (.bool true) ∧ Below w.heap.size w w' := by
  have h1 := sameInts_any w a a2 c c2 [x, y, z] [x, y, z] h h2 (by show 3 ≤ maxLen; decide) (by show 3 ≤ maxLen; decide)
  rw [beq_self_eq_true] at h1
  exact h1
theorem sameB3 (w : World) (a a2 : Option Addr) (c c2 : Nat) (x y z : Bool) (h : BRow w a [x, y, z]) (h2 : BRow w a2 [x, y, z]) : Calls Try.prog 14 #[.slice a 3 c, .slice a2 3 c2] w fun e w' => e = .returned (.bool true) ∧ Below w.heap.size w w' := by
  have h1 := sameBools_any w a a2 c c2 [x, y, z] [x, y, z] h h2 (by show 3 ≤ maxLen; decide) (by show 3 ≤ maxLen; decide)
  rw [beq_self_eq_true] at h1
  exact h1

theorem step_alloc {w w2 : World} {o : Obj} (h : Below (w.alloc o).heap.size (w.alloc o) w2) : Below w.heap.size w w2 := ((Below.refl _ _).alloc (Nat.le_refl _) o).trans (h.mono (by simp))
set_option maxRecDepth 100000 in
set_option maxHeartbeats 8000000 in
theorem awake_any (w : World) : Calls Try.prog 11 #[] w fun e w' => e = .returned (.bool true) ∧ Below w.heap.size w w' := by
  go_enter Try.func11, Try.ntmps11
  go_wp2_with fail
  refine (example_any _).mono ?_
  rintro e w1 ⟨rfl, hrow, hb⟩
  have HB := Lib.hid hb
  have hbox := HBox.box w1 3 (exA w.heap.size) 4 4
  have hb0 : Below w1.heap.size w1 (w1.alloc (.cells #[.int .i64 3, .slice (exA w.heap.size) 4 4] 24)) := (Below.refl _ _).alloc (Nat.le_refl _) _
  have hrow2 : EdRow w1 (exA w.heap.size) (exE w.heap.size) := hrow
  have HR0 := Lib.hid (hrow2.below (Nat.le_refl _) hb0)
  have HB0 := Lib.hid (hb.trans (hb0.mono hb.size))
  have hs0 : (w1.alloc (.cells #[.int .i64 3, .slice (exA w.heap.size) 4 4] 24)).heap.size = w1.heap.size + 1 := by simp
  have HX0 := Lib.hid hbox
  clear hrow hrow2 hb hb0 hbox
  go_upto_region 2 with fail
  generalize w1.alloc (.cells #[.int .i64 3, .slice (exA w.heap.size) 4 4] 24) = v1 at *
  generalize w1.heap.size = b at *
  have hb1 : b < v1.heap.size := by omega
  obtain ⟨x0, x1⟩ := HX0.out
  go_wp2_with fail
  refine (ex_c22 w.heap.size _ HR0.out).mono ?_
  rintro e v2 ⟨hb, Ao, co, rfl, hro⟩
  have hbb := hb
  have HB1 := Lib.hid (HB0.out.trans (hbb.mono HB0.out.size))
  have HR1 := Lib.hid (HR0.out.below (Nat.le_refl _) hbb)
  have HX1 := Lib.hid (HX0.out.below hb1 hbb)
  have hb2 : b < v2.heap.size := Nat.lt_of_lt_of_le hb1 hbb.size
  have O1 := Lib.hid hro
  clear x0 x1 hb hbb hro
  obtain ⟨x0, x1⟩ := HX1.out
  go_wp2_with fail
  refine (ex_c16 w.heap.size _ _ (HR1.out.below (Nat.le_refl _) ((Below.refl _ _).alloc (Nat.le_refl _) _)) (VRow.lit v2 [.int .i64 1, .int .i64 1, .int .i64 1, .int .i64 1] 3)).mono ?_
  rintro e v3 ⟨hb, Ai, ci, rfl, hri, _⟩
  have hbb := step_alloc hb
  have HB2 := Lib.hid (HB1.out.trans (hbb.mono HB1.out.size))
  have HR2 := Lib.hid (HR1.out.below (Nat.le_refl _) hbb)
  have HX2 := Lib.hid (HX1.out.below hb2 hbb)
  have hb3 : b < v3.heap.size := Nat.lt_of_lt_of_le hb2 hbb.size
  have O2 := Lib.hid (O1.out.below (Nat.le_refl _) hbb)
  have I2 := Lib.hid hri
  clear x0 x1 hb hbb hri
  obtain ⟨x0, x1⟩ := HX2.out
  go_wp2_with fail
  refine (ex_c15 w.heap.size _ HR2.out).mono ?_
  rintro e v4 ⟨Ad, cd, rfl, hrd, hb⟩
  have hbb := hb
  have HB3 := Lib.hid (HB2.out.trans (hbb.mono HB2.out.size))
  have HR3 := Lib.hid (HR2.out.below (Nat.le_refl _) hbb)
  have HX3 := Lib.hid (HX2.out.below hb3 hbb)
  have hb4 : b < v4.heap.size := Nat.lt_of_lt_of_le hb3 hbb.size
  have O3 := Lib.hid (O2.out.below (Nat.le_refl _) hbb)
  have I3 := Lib.hid (I2.out.below (Nat.le_refl _) hbb)
  have D3 := Lib.hid hrd
  clear x0 x1 hb hbb hrd
  obtain ⟨x0, x1⟩ := HX3.out
  go_wp2_with fail
  refine (ex_c20 w.heap.size _ HR3.out).mono ?_
  rintro e v5 ⟨Ar, cr, rfl, hrr, hb⟩
  have hbb := hb
  have HB4 := Lib.hid (HB3.out.trans (hbb.mono HB3.out.size))
  have HR4 := Lib.hid (HR3.out.below (Nat.le_refl _) hbb)
  have HX4 := Lib.hid (HX3.out.below hb4 hbb)
  have hb5 : b < v5.heap.size := Nat.lt_of_lt_of_le hb4 hbb.size
  have O4 := Lib.hid (O3.out.below (Nat.le_refl _) hbb)
  have I4 := Lib.hid (I3.out.below (Nat.le_refl _) hbb)
  have D4 := Lib.hid (D3.out.below (Nat.le_refl _) hbb)
  have Q4 := Lib.hid hrr
  clear x0 x1 hb hbb hrr
  obtain ⟨x0, x1⟩ := HX4.out
  go_wp2_with fail
  refine (same3 _ Ao _ co 3 1 2 0 (O4.out.below (Nat.le_refl _) ((Below.refl _ _).alloc (Nat.le_refl _) _)) (VRow.lit v5 [.int .i64 1, .int .i64 2, .int .i64 0] 3)).mono ?_
  rintro e v6 ⟨rfl, hb⟩
  have hbb := step_alloc hb
  have HB5 := Lib.hid (HB4.out.trans (hbb.mono HB4.out.size))
  have HR5 := Lib.hid (HR4.out.below (Nat.le_refl _) hbb)
  have HX5 := Lib.hid (HX4.out.below hb5 hbb)
  have hb6 : b < v6.heap.size := Nat.lt_of_lt_of_le hb5 hbb.size
  have I5 := Lib.hid (I4.out.below (Nat.le_refl _) hbb)
  have D5 := Lib.hid (D4.out.below (Nat.le_refl _) hbb)
  have Q5 := Lib.hid (Q4.out.below (Nat.le_refl _) hbb)
  clear x0 x1 hb hbb
  obtain ⟨x0, x1⟩ := HX5.out
  go_wp2_with fail
  refine (same3 _ Ai _ ci 3 2 1 2 (I5.out.below (Nat.le_refl _) ((Below.refl _ _).alloc (Nat.le_refl _) _)) (VRow.lit v6 [.int .i64 2, .int .i64 1, .int .i64 2] 3)).mono ?_
  rintro e v7 ⟨rfl, hb⟩
  have hbb := step_alloc hb
  have HB6 := Lib.hid (HB5.out.trans (hbb.mono HB5.out.size))
  have HR6 := Lib.hid (HR5.out.below (Nat.le_refl _) hbb)
  have HX6 := Lib.hid (HX5.out.below hb6 hbb)
  have hb7 : b < v7.heap.size := Nat.lt_of_lt_of_le hb6 hbb.size
  have D6 := Lib.hid (D5.out.below (Nat.le_refl _) hbb)
  have Q6 := Lib.hid (Q5.out.below (Nat.le_refl _) hbb)
  clear x0 x1 hb hbb
  obtain ⟨x0, x1⟩ := HX6.out
  go_wp2_with fail
  refine (sameB3 _ Ad _ cd 3 true true true (D6.out.below (Nat.le_refl _) ((Below.refl _ _).alloc (Nat.le_refl _) _)) (VRow.lit v7 [.bool true, .bool true, .bool true] 4)).mono ?_
  rintro e v8 ⟨rfl, hb⟩
  have hbb := step_alloc hb
  have HB7 := Lib.hid (HB6.out.trans (hbb.mono HB6.out.size))
  have HR7 := Lib.hid (HR6.out.below (Nat.le_refl _) hbb)
  have HX7 := Lib.hid (HX6.out.below hb7 hbb)
  have hb8 : b < v8.heap.size := Nat.lt_of_lt_of_le hb7 hbb.size
  have Q7 := Lib.hid (Q6.out.below (Nat.le_refl _) hbb)
  clear x0 x1 hb hbb
  obtain ⟨x0, x1⟩ := HX7.out
  go_wp2_with fail
  refine (sameB3 _ Ar _ cr 3 false true true (Q7.out.below (Nat.le_refl _) ((Below.refl _ _).alloc (Nat.le_refl _) _)) (VRow.lit v8 [.bool false, .bool true, .bool true] 4)).mono ?_
  rintro e v9 ⟨rfl, hb⟩
  have hbb := step_alloc hb
  have HB8 := Lib.hid (HB7.out.trans (hbb.mono HB7.out.size))
  have HR8 := Lib.hid (HR7.out.below (Nat.le_refl _) hbb)
  have HX8 := Lib.hid (HX7.out.below hb8 hbb)
  have hb9 : b < v9.heap.size := Nat.lt_of_lt_of_le hb8 hbb.size
  clear x0 x1 hb hbb
  obtain ⟨x0, x1⟩ := HX8.out
  go_wp2_with fail
  refine (ex_c17 w.heap.size _ HR8.out).mono ?_
  rintro e v10 ⟨rfl, hb⟩
  have hbb := hb
  have HB9 := Lib.hid (HB8.out.trans (hbb.mono HB8.out.size))
  have HR9 := Lib.hid (HR8.out.below (Nat.le_refl _) hbb)
  have HX9 := Lib.hid (HX8.out.below hb9 hbb)
  have hb10 : b < v10.heap.size := Nat.lt_of_lt_of_le hb9 hbb.size
  clear x0 x1 hb hbb
  obtain ⟨x0, x1⟩ := HX9.out
  go_wp2_with fail
  refine (ex_c17z _).mono ?_
  rintro e v11 ⟨rfl, hb⟩
  have HB10 := Lib.hid (HB9.out.trans (hb.mono HB9.out.size))
  clear hb x0 x1
  go_wp2
  go_ret
  exact ⟨rfl, HB10.out⟩
end Go.Proofs.Ytjhdhnkikgmpoaa
