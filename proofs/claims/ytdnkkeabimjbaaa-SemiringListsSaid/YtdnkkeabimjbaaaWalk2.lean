/- Contracts of the methods of Lexicographic and of the reference's functions on values. -/
import Derived.Test.YtdnkkeabimjbaaaWalk
import Derived.StillTailTactics
import Derived.IntWalk
namespace Go.Proofs.Ytdnkkeabimjbaaa
open Go.RowKit

theorem ret_val {a b c d : Int} (h : a = c) (k : b = d) : Ending.returned (.agg #[.int .i64 a, .int .i64 b]) = .returned (.agg #[.int .i64 c, .int .i64 d]) := by rw [h, k]

set_option maxHeartbeats 400000 in
theorem vadd_any (ca sa cb sb : Int) (w : World)  :
    Calls Try.prog 13 #[.agg #[], .agg #[.int .i64 ca, .int .i64 sa], .agg #[.int .i64 cb, .int .i64 sb]] w fun e w' => e = .returned (.agg #[.int .i64 (vaddC ca sa cb sb), .int .i64 (vaddS ca sa cb sb)]) ∧ Below w.heap.size w w' := by
  by_cases h : cb < ca
  · go_enter Try.func13, Try.ntmps13
    go_wp2
    refine bodyPost_ret (v := .agg #[.int .i64 cb, .int .i64 sb]) (by simp [results, Try.results13, go_sem]) rfl ⟨?_, ?_⟩
    · exact ret_val (vadd_lt (by omega)).1.symm (vadd_lt (by omega)).2.symm
    · repeat (first | exact Below.refl _ _ | refine Below.alloc ?_ (by simp <;> omega) _)
  · by_cases h2 : cb = ca
    · subst h2
      by_cases h3 : sb < sa
      · go_enter Try.func13, Try.ntmps13
        go_wp2
        refine bodyPost_ret (v := .agg #[.int .i64 cb, .int .i64 sb]) (by simp [results, Try.results13, go_sem]) rfl ⟨?_, ?_⟩
        · exact ret_val (vadd_lt (by omega)).1.symm (vadd_lt (by omega)).2.symm
        · repeat (first | exact Below.refl _ _ | refine Below.alloc ?_ (by simp <;> omega) _)
      · go_enter Try.func13, Try.ntmps13
        go_wp2
        refine bodyPost_ret (v := .agg #[.int .i64 cb, .int .i64 sa]) (by simp [results, Try.results13, go_sem]) rfl ⟨?_, ?_⟩
        · exact ret_val (vadd_ge (by omega)).1.symm (vadd_ge (by omega)).2.symm
        · repeat (first | exact Below.refl _ _ | refine Below.alloc ?_ (by simp <;> omega) _)
    · have h3 : (cb == ca) = false := by simpa using h2
      go_enter Try.func13, Try.ntmps13
      go_wp2
      refine bodyPost_ret (v := .agg #[.int .i64 ca, .int .i64 sa]) (by simp [results, Try.results13, go_sem]) rfl ⟨?_, ?_⟩
      · exact ret_val (vadd_ge (by omega)).1.symm (vadd_ge (by omega)).2.symm
      · repeat (first | exact Below.refl _ _ | refine Below.alloc ?_ (by simp <;> omega) _)
set_option maxHeartbeats 400000 in
theorem less_any (ca sa cb sb : Int) (w : World)  :
    Calls Try.prog 48 #[.agg #[.int .i64 ca, .int .i64 sa], .agg #[.int .i64 cb, .int .i64 sb]] w fun e w' => e = .returned (.bool (vlt ca sa cb sb)) ∧ Below w.heap.size w w' := by
  by_cases h : ca < cb
  · go_enter Try.func48, Try.ntmps48
    go_wp2
    go_ret
    exact ⟨ret_bool (by simp [vlt, h]), ((Below.refl _ _).alloc (Nat.le_refl _) _).alloc (by simp) _⟩
  · by_cases h2 : ca = cb
    · subst h2
      go_enter Try.func48, Try.ntmps48
      go_wp2
      go_ret
      exact ⟨ret_bool (by simp [vlt]), ((Below.refl _ _).alloc (Nat.le_refl _) _).alloc (by simp) _⟩
    · have h3 : (ca == cb) = false := by simpa using h2
      go_enter Try.func48, Try.ntmps48
      go_wp2
      go_ret
      exact ⟨ret_bool (vlt_no.2 (by omega)).symm, ((Below.refl _ _).alloc (Nat.le_refl _) _).alloc (by simp) _⟩

set_option maxHeartbeats 400000 in
theorem veq_any (ca sa cb sb : Int) (w : World)  :
    Calls Try.prog 17 #[.agg #[], .agg #[.int .i64 ca, .int .i64 sa], .agg #[.int .i64 cb, .int .i64 sb]] w fun e w' => e = .returned (.bool (ca == cb && sa == sb)) ∧ Below w.heap.size w w' := by
  go_enter Try.func17, Try.ntmps17
  go_wp2
  all_goals go_ret
  all_goals exact ⟨ret_bool (by simp [*]), by repeat (first | exact Below.refl _ _ | refine Below.alloc ?_ (by simp <;> omega) _)⟩
set_option maxHeartbeats 400000 in
theorem int_any (a : Int) (w : World)  :
    Calls Try.prog 28 #[.int .i64 a] w fun e w' => e = .returned (.bool (intB a)) ∧ w = w' := by
  by_cases h : 0 ≤ a
  · go_enter Try.func28, Try.ntmps28
    go_wp2
    go_ret
    exact ⟨ret_bool (by simp [intB, h]), rfl⟩
  · go_enter Try.func28, Try.ntmps28
    go_wp2
    go_ret
    exact ⟨ret_bool (by simp [intB]; omega), rfl⟩
set_option maxHeartbeats 400000 in
theorem rtmul_any (a b : Int) (w : World) (ha : 0 ≤ a) (hb : 0 ≤ b) (ha' : a ≤ 1099511627776) (hb' : b ≤ 1099511627776) :
    Calls Try.prog 21 #[.int .i64 a, .int .i64 b] w fun e w' => e = .returned (.int .i64 (tmul a b)) ∧ w = w' := by
  go_enter Try.func21, Try.ntmps21
  go_wp2
  all_goals go_ret
  all_goals exact ⟨ret_int (by unfold tmul; split <;> first | rfl | omega), rfl⟩
set_option maxHeartbeats 400000 in
theorem rcadd_any (a b : Int) (w : World) (ha : 0 ≤ a) (hb : 0 ≤ b) (ha' : a ≤ 1099511627776) (hb' : b ≤ 1099511627776) :
    Calls Try.prog 22 #[.int .i64 a, .int .i64 b] w fun e w' => e = .returned (.int .i64 (tmul a b)) ∧ w = w' := by
  go_enter Try.func22, Try.ntmps22
  go_wp2
  all_goals go_ret
  all_goals exact ⟨ret_int (by unfold tmul; split <;> first | rfl | omega), rfl⟩
set_option maxHeartbeats 400000 in
theorem rtadd_any (a b : Int) (w : World) :
    Calls Try.prog 43 #[.int .i64 a, .int .i64 b] w fun e w' => e = .returned (.int .i64 (tadd a b)) ∧ w = w' := by
  go_enter Try.func43, Try.ntmps43
  go_wp2
  all_goals go_ret
  all_goals exact ⟨ret_int (by unfold tadd; split <;> first | rfl | omega), rfl⟩
set_option maxHeartbeats 400000 in
theorem rvadd_any (ca sa cb sb : Int) (w : World)  :
    Calls Try.prog 14 #[.agg #[.int .i64 ca, .int .i64 sa], .agg #[.int .i64 cb, .int .i64 sb]] w fun e w' => e = .returned (.agg #[.int .i64 (vaddC ca sa cb sb), .int .i64 (vaddS ca sa cb sb)]) ∧ Below w.heap.size w w' := by
  by_cases h : cb < ca
  · go_enter Try.func14, Try.ntmps14
    go_wp2
    refine bodyPost_ret (v := .agg #[.int .i64 cb, .int .i64 sb]) (by simp [results, Try.results14, go_sem]) rfl ⟨?_, ?_⟩
    · exact ret_val (vadd_lt (by omega)).1.symm (vadd_lt (by omega)).2.symm
    · repeat (first | exact Below.refl _ _ | refine Below.alloc ?_ (by simp <;> omega) _)
  · by_cases h2 : cb = ca
    · subst h2
      by_cases h3 : sb < sa
      · go_enter Try.func14, Try.ntmps14
        go_wp2
        refine bodyPost_ret (v := .agg #[.int .i64 cb, .int .i64 sb]) (by simp [results, Try.results14, go_sem]) rfl ⟨?_, ?_⟩
        · exact ret_val (vadd_lt (by omega)).1.symm (vadd_lt (by omega)).2.symm
        · repeat (first | exact Below.refl _ _ | refine Below.alloc ?_ (by simp <;> omega) _)
      · go_enter Try.func14, Try.ntmps14
        go_wp2
        refine bodyPost_ret (v := .agg #[.int .i64 cb, .int .i64 sa]) (by simp [results, Try.results14, go_sem]) rfl ⟨?_, ?_⟩
        · exact ret_val (vadd_ge (by omega)).1.symm (vadd_ge (by omega)).2.symm
        · repeat (first | exact Below.refl _ _ | refine Below.alloc ?_ (by simp <;> omega) _)
    · have h3 : (cb == ca) = false := by simpa using h2
      go_enter Try.func14, Try.ntmps14
      go_wp2
      refine bodyPost_ret (v := .agg #[.int .i64 ca, .int .i64 sa]) (by simp [results, Try.results14, go_sem]) rfl ⟨?_, ?_⟩
      · exact ret_val (vadd_ge (by omega)).1.symm (vadd_ge (by omega)).2.symm
      · repeat (first | exact Below.refl _ _ | refine Below.alloc ?_ (by simp <;> omega) _)
set_option maxHeartbeats 400000 in
theorem rvmul_any (ca sa cb sb : Int) (w : World) (h1 : 0 ≤ ca) (h2 : ca ≤ 1099511627776) (h3 : 0 ≤ cb) (h4 : cb ≤ 1099511627776) (h5 : 0 ≤ sa) (h6 : sa ≤ 1099511627776) (h7 : 0 ≤ sb) (h8 : sb ≤ 1099511627776) :
    Calls Try.prog 16 #[.agg #[.int .i64 ca, .int .i64 sa], .agg #[.int .i64 cb, .int .i64 sb]] w fun e w' => e = .returned (.agg #[.int .i64 (vmulC ca cb), .int .i64 (vmulS ca sa cb sb)]) ∧ Below w.heap.size w w' := by
  by_cases h : 1099511627776 ≤ ca + cb
  · go_enter Try.func16, Try.ntmps16
    go_wp2
    refine bodyPost_ret (v := .agg #[.int .i64 1099511627776, .int .i64 0]) (by simp [results, Try.results16, go_sem]) rfl ⟨?_, ?_⟩
    · exact ret_val (vmul_ge (sa := sa) (sb := sb) (by omega)).1.symm (vmul_ge (by omega)).2.symm
    · repeat (first | exact Below.refl _ _ | refine Below.alloc ?_ (by simp <;> omega) _)
  · go_enter Try.func16, Try.ntmps16
    go_wp2
    · refine bodyPost_ret (v := .agg #[.int .i64 (ca + cb), .int .i64 1099511627776]) (by simp [results, Try.results16, go_sem]) rfl ⟨?_, ?_⟩
      · refine ret_val (vmul_lt (sa := sa) (sb := sb) (by omega)).1.symm ?_
        rw [(vmul_lt (by omega)).2, tmul_min]; omega
      · repeat (first | exact Below.refl _ _ | refine Below.alloc ?_ (by simp <;> omega) _)
    · refine bodyPost_ret (v := .agg #[.int .i64 (ca + cb), .int .i64 (sa + sb)]) (by simp [results, Try.results16, go_sem]) rfl ⟨?_, ?_⟩
      · refine ret_val (vmul_lt (sa := sa) (sb := sb) (by omega)).1.symm ?_
        rw [(vmul_lt (by omega)).2, tmul_min]; omega
      · repeat (first | exact Below.refl _ _ | refine Below.alloc ?_ (by simp <;> omega) _)
set_option maxHeartbeats 400000 in
theorem vzero_exact (w : World)  :
    Calls Try.prog 37 #[.agg #[]] w fun e w' => e = .returned (.agg #[.int .i64 1099511627776, .int .i64 0]) ∧ w' = (w.alloc (.cells #[] 27)).alloc (.cells #[.int .i64 1099511627776, .int .i64 0] 23) := by
  go_enter Try.func37, Try.ntmps37
  go_wp2
  exact bodyPost_ret (v := .agg #[.int .i64 1099511627776, .int .i64 0]) (by simp [results, Try.results37, go_sem]) rfl ⟨rfl, rfl⟩
set_option maxHeartbeats 400000 in
theorem vmul_any (ca sa cb sb : Int) (w : World) (h1 : 0 ≤ ca) (h2 : ca ≤ 1099511627776) (h3 : 0 ≤ cb) (h4 : cb ≤ 1099511627776) (h5 : 0 ≤ sa) (h6 : sa ≤ 1099511627776) (h7 : 0 ≤ sb) (h8 : sb ≤ 1099511627776) :
    Calls Try.prog 15 #[.agg #[], .agg #[.int .i64 ca, .int .i64 sa], .agg #[.int .i64 cb, .int .i64 sb]] w fun e w' => e = .returned (.agg #[.int .i64 (vmulC ca cb), .int .i64 (vmulS ca sa cb sb)]) ∧ Below w.heap.size w w' := by
  by_cases h : 1099511627776 ≤ ca + cb
  · go_enter Try.func15, Try.ntmps15
    go_wp2_with (go_at_call 37; refine (vzero_exact _).mono ?_; rintro e w1 ⟨rfl, rfl⟩)
    refine bodyPost_ret (v := .agg #[.int .i64 1099511627776, .int .i64 0]) (by simp [results, Try.results15, go_sem]) rfl ⟨?_, ?_⟩
    · exact ret_val (vmul_ge (sa := sa) (sb := sb) (by omega)).1.symm (vmul_ge (by omega)).2.symm
    · repeat (first | exact Below.refl _ _ | refine Below.alloc ?_ (by simp <;> omega) _)
  · go_enter Try.func15, Try.ntmps15
    go_wp2
    obtain ⟨W, hW⟩ : ∃ W, W = (((w.alloc (.cells #[] 27)).alloc (.cells #[.int .i64 ca, .int .i64 sa] 23)).alloc (.cells #[.int .i64 cb, .int .i64 sb] 23)).alloc (.cells #[.int .i64 0, .int .i64 0] 23) := ⟨_, rfl⟩
    rw [← hW]
    have c0 : W.cell? ⟨w.heap.size + 1, 0, none⟩ = some (.int .i64 ca) := by rw [hW]; simp [go_sem]
    have c1 : W.cell? ⟨w.heap.size + 1, 1, none⟩ = some (.int .i64 sa) := by rw [hW]; simp [go_sem]
    have c2 : W.cell? ⟨w.heap.size + 1 + 1, 0, none⟩ = some (.int .i64 cb) := by rw [hW]; simp [go_sem]
    have c3 : W.cell? ⟨w.heap.size + 1 + 1, 1, none⟩ = some (.int .i64 sb) := by rw [hW]; simp [go_sem]
    have c4 : W.cell? ⟨w.heap.size + 1 + 1 + 1, 0, none⟩ = some (.int .i64 0) := by rw [hW]; simp [go_sem]
    have c5 : W.cell? ⟨w.heap.size + 1 + 1 + 1, 1, none⟩ = some (.int .i64 0) := by rw [hW]; simp [go_sem]
    have c6 : W.frozen? ⟨w.heap.size + 1 + 1 + 1, 0, none⟩ = false := by rw [hW]; simp [go_sem]
    have c7 : W.frozen? ⟨w.heap.size + 1 + 1 + 1, 1, none⟩ = false := by rw [hW]; simp [go_sem]
    have B : Below w.heap.size w W := by rw [hW]; repeat (first | exact Below.refl _ _ | refine Below.alloc ?_ (by simp <;> omega) _)
    have z : w.heap.size + 1 + 1 + 1 < W.heap.size := by rw [hW]; simp
    clear hW
    refine wp_region_still_tail 11 (by kernel_rfl) (by kernel_rfl) ?_
    simp only [List.take_succ_cons, List.take_zero, List.drop_succ_cons, List.drop_zero]
    change wpStill _ _ W.drew _ _ _
    have ew : IntKind.i64.wrap (ca + cb) = ca + cb := IntWalk.i64_in _ (by omega)
    iterate 9 still_step
    still_call ((plus_any _ _ _ h5 h7 h6 h8).mono fun e w' h => ⟨h.1, h.2.symm⟩)
    still_step
    refine wpStill_nil ?_
    change wpList _ _ _ _ _ W.drew
    clear ew
    go_wp2
    refine bodyPost_ret (v := .agg #[.int .i64 (ca + cb), .int .i64 (tmul sa sb)]) (by simp [results, Try.results15, go_sem, c4, c5]) rfl ⟨?_, ?_⟩
    · exact ret_val (vmul_lt (sa := sa) (sb := sb) (by omega)).1.symm (vmul_lt (by omega)).2.symm
    · exact ((B.setCell (by simp <;> omega) _).setCell (by simp <;> omega) _).drew
end Go.Proofs.Ytdnkkeabimjbaaa
