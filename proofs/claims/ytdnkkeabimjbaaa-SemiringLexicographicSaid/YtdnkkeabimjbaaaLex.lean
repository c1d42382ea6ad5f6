/- Lexicographic returns minima and products of values as specified, for all elements: the law's walk. Printed by gen26lex.py. -/
import Derived.Test.YtdnkkeabimjbaaaGuard
namespace Go.Proofs.Ytdnkkeabimjbaaa
open Go.RowKit

set_option maxRecDepth 100000 in
set_option maxHeartbeats 1000000 in
theorem lex_no (ca sa cb sb : Int) (w : World) (h : (valB ca sa && valB cb sb) = false) :
    Calls Try.prog 3 #[.agg #[.int .i64 ca, .int .i64 sa], .agg #[.int .i64 cb, .int .i64 sb]] w fun e w' => e = .returned (.bool true) ∧ Below w.heap.size w w' := by
  have hva := fun w => value_any ca sa w
  have hvb := fun w => value_any cb sb w
  obtain ⟨S, hne, f, hf, hs⟩ := fam_of (w.heap.size + 1 + 1) ((w.alloc (.cells #[.int .i64 ca, .int .i64 sa] 23)).alloc (.cells #[.int .i64 cb, .int .i64 sb] 23))
  have hz : ∀ s, w.heap.size + 1 + 1 ≤ (f s).heap.size := fun s => by simpa using (hf s).size
  have k00 : ∀ s, (f s).cell? ⟨w.heap.size, 0, none⟩ = some (.int .i64 ca) := fun s => ((hf s).cell (p := ⟨w.heap.size, 0, none⟩) (by simp <;> omega)).trans (by simp [go_sem])
  have k01 : ∀ s, (f s).cell? ⟨w.heap.size, 1, none⟩ = some (.int .i64 sa) := fun s => ((hf s).cell (p := ⟨w.heap.size, 1, none⟩) (by simp <;> omega)).trans (by simp [go_sem])
  have k10 : ∀ s, (f s).cell? ⟨w.heap.size + 1, 0, none⟩ = some (.int .i64 cb) := fun s => ((hf s).cell (p := ⟨w.heap.size + 1, 0, none⟩) (by simp <;> omega)).trans (by simp [go_sem])
  have k11 : ∀ s, (f s).cell? ⟨w.heap.size + 1, 1, none⟩ = some (.int .i64 sb) := fun s => ((hf s).cell (p := ⟨w.heap.size + 1, 1, none⟩) (by simp <;> omega)).trans (by simp [go_sem])
  have hbel : ∀ s, Below w.heap.size w (f s) := fun s => (show Below w.heap.size w ((w.alloc (.cells #[.int .i64 ca, .int .i64 sa] 23)).alloc (.cells #[.int .i64 cb, .int .i64 sb] 23)) by repeat (first | exact Below.refl _ _ | refine Below.alloc ?_ (by simp <;> omega) _)).trans ((hf s).mono (by omega))
  obtain ⟨s, h0⟩ := hs ((w.alloc (.cells #[.int .i64 ca, .int .i64 sa] 23)).alloc (.cells #[.int .i64 cb, .int .i64 sb] 23)) (Below.refl _ _)
  have H0 := Lib.hid h0
  clear h0
  cases ha : valB ca sa
  · rw [ha] at hva
    clear hvb ha h
    go_enter Try.func3, Try.ntmps3
    go_wp2_with fail
    rw [H0.out]
    clear H0
    refine (hva _).mono ?_
    rintro e w1 ⟨rfl, hb⟩
    obtain ⟨s, rfl⟩ := hs w1 ((hf _).trans (hb.mono (hz _)))
    clear hb
    go_wp2_with (go_at_call 12; with_reducible refine (awake_any _).mono ?_; rintro e w1 ⟨rfl, hb⟩; obtain ⟨s, rfl⟩ := hs w1 ((hf _).trans (hb.mono (hz _))); clear hb)
    go_ret
    exact ⟨rfl, hbel s⟩
  · rw [ha] at hva h
    have hb : valB cb sb = false := by simpa using h
    rw [hb] at hvb
    clear hb ha h
    go_enter Try.func3, Try.ntmps3
    go_wp2_with fail
    rw [H0.out]
    clear H0
    refine (hva _).mono ?_
    rintro e w1 ⟨rfl, hb⟩
    obtain ⟨s, rfl⟩ := hs w1 ((hf _).trans (hb.mono (hz _)))
    clear hb
    go_wp2_with (first | (go_at_call 11; with_reducible refine (hvb _).mono ?_; rintro e w1 ⟨rfl, hb⟩; obtain ⟨s, rfl⟩ := hs w1 ((hf _).trans (hb.mono (hz _))); clear hb) | (go_at_call 12; with_reducible refine (awake_any _).mono ?_; rintro e w1 ⟨rfl, hb⟩; obtain ⟨s, rfl⟩ := hs w1 ((hf _).trans (hb.mono (hz _))); clear hb))
    go_ret
    exact ⟨rfl, hbel s⟩

set_option maxRecDepth 100000 in
set_option maxHeartbeats 2000000 in
theorem lex_eq (ca sa cb sb : Int) (w : World) (ha : valB ca sa = true) (hb : valB cb sb = true) (e1 : (ca == cb) = true) (e2 : (sa == sb) = true) :
    Calls Try.prog 3 #[.agg #[.int .i64 ca, .int .i64 sa], .agg #[.int .i64 cb, .int .i64 sb]] w fun e w' => e = .returned (.bool true) ∧ Below w.heap.size w w' := by
  have hva := fun w => value_any ca sa w
  have hvb := fun w => value_any cb sb w
  rw [ha] at hva
  rw [hb] at hvb
  obtain ⟨ha1, ha2, ha3, ha4⟩ := valB_bd ha
  obtain ⟨hb1, hb2, hb3, hb4⟩ := valB_bd hb
  clear ha hb
  obtain rfl : ca = cb := by simpa using e1
  obtain rfl : sa = sb := by simpa using e2
  clear e1 e2
  obtain ⟨S, hne, f, hf, hs⟩ := fam_of (w.heap.size + 1 + 1) ((w.alloc (.cells #[.int .i64 ca, .int .i64 sa] 23)).alloc (.cells #[.int .i64 ca, .int .i64 sa] 23))
  have hz : ∀ s, w.heap.size + 1 + 1 ≤ (f s).heap.size := fun s => by simpa using (hf s).size
  have k00 : ∀ s, (f s).cell? ⟨w.heap.size, 0, none⟩ = some (.int .i64 ca) := fun s => ((hf s).cell (p := ⟨w.heap.size, 0, none⟩) (by simp <;> omega)).trans (by simp [go_sem])
  have k01 : ∀ s, (f s).cell? ⟨w.heap.size, 1, none⟩ = some (.int .i64 sa) := fun s => ((hf s).cell (p := ⟨w.heap.size, 1, none⟩) (by simp <;> omega)).trans (by simp [go_sem])
  have k10 : ∀ s, (f s).cell? ⟨w.heap.size + 1, 0, none⟩ = some (.int .i64 ca) := fun s => ((hf s).cell (p := ⟨w.heap.size + 1, 0, none⟩) (by simp <;> omega)).trans (by simp [go_sem])
  have k11 : ∀ s, (f s).cell? ⟨w.heap.size + 1, 1, none⟩ = some (.int .i64 sa) := fun s => ((hf s).cell (p := ⟨w.heap.size + 1, 1, none⟩) (by simp <;> omega)).trans (by simp [go_sem])
  have hbel : ∀ s, Below w.heap.size w (f s) := fun s => (show Below w.heap.size w ((w.alloc (.cells #[.int .i64 ca, .int .i64 sa] 23)).alloc (.cells #[.int .i64 ca, .int .i64 sa] 23)) by repeat (first | exact Below.refl _ _ | refine Below.alloc ?_ (by simp <;> omega) _)).trans ((hf s).mono (by omega))
  obtain ⟨s, h0⟩ := hs ((w.alloc (.cells #[.int .i64 ca, .int .i64 sa] 23)).alloc (.cells #[.int .i64 ca, .int .i64 sa] 23)) (Below.refl _ _)
  have H0 := Lib.hid h0
  clear h0
  go_enter Try.func3, Try.ntmps3
  go_wp2_with fail
  rw [H0.out]
  clear H0
  refine (hva _).mono ?_
  rintro e w1 ⟨rfl, hb⟩
  obtain ⟨s, rfl⟩ := hs w1 ((hf _).trans (hb.mono (hz _)))
  clear hb
  go_wp2_with (go_at_call 11; with_reducible refine (hvb _).mono ?_; rintro e w1 ⟨rfl, hb⟩; obtain ⟨s, rfl⟩ := hs w1 ((hf _).trans (hb.mono (hz _))); clear hb)
  obtain ⟨s, h1⟩ := hs ((f s).alloc (.cells #[] 27)).drew ((hf s).alloc (hz s) _).drew
  refine wp_region_mix (S := fun w' => ∃ s, w' = f s) [(0, true), (1, false), (2, false), (3, false), (4, false), (6, false), (7, false), (5, true), (8, true), (9, false), (10, false), (11, false), (12, false), (13, false), (14, false), (16, false), (17, false), (15, true), (18, true), (19, false), (20, false), (21, false), (22, false), (23, false), (24, false), (26, false), (27, false), (28, false), (25, true), (29, false), (30, false), (31, false), (32, false), (34, false), (33, true), (35, false), (36, false), (37, false)] (by kernel_rfl) (by kernel_rfl) (fun _ d _ _ _ h => by cases d <;> exact h) ⟨s, h1⟩ ?_
  rw [h1]
  clear h1
  simp only [List.map_cons, List.map_nil, List.getElem?_cons_succ, List.getElem?_cons_zero]
  repeat (refine mix_free (fun K hK => ?_); go_simp; refine hK _ ?_; clear hK K)
  refine mix_forced (fun K hK => ?_) ⟨_, rfl⟩
  go_simp
  refine (awake_any _).mono ?_
  rintro e w1 ⟨rfl, hb⟩
  obtain ⟨s, rfl⟩ := hs w1 ((hf _).trans (hb.mono (hz _)))
  refine hK.out _ _ ⟨s, rfl⟩ (fun _ => ?_)
  clear hK K hb
  repeat (refine mix_free (fun K hK => ?_); go_simp; refine hK _ ?_; clear hK K)
  refine mix_forced (fun K hK => ?_) ⟨_, rfl⟩
  go_simp
  refine (vadd_any _ _ _ _ _).mono ?_
  rintro e w1 ⟨rfl, hb⟩
  obtain ⟨s, rfl⟩ := hs w1 ((hf _).trans (hb.mono (hz _)))
  refine hK.out _ _ ⟨s, rfl⟩ (fun _ => ?_)
  clear hK K hb
  repeat (refine mix_free (fun K hK => ?_); go_simp; refine hK _ ?_; clear hK K)
  refine mix_forced (fun K hK => ?_) ⟨_, rfl⟩
  go_simp
  refine (rvadd_any _ _ _ _ _).mono ?_
  rintro e w1 ⟨rfl, hb⟩
  obtain ⟨s, rfl⟩ := hs w1 ((hf _).trans (hb.mono (hz _)))
  refine hK.out _ _ ⟨s, rfl⟩ (fun _ => ?_)
  clear hK K hb
  repeat (refine mix_free (fun K hK => ?_); go_simp; refine hK _ ?_; clear hK K)
  refine mix_forced (fun K hK => ?_) ⟨_, rfl⟩
  go_simp
  refine (vmul_any _ _ _ _ _ ha1 ha2 hb1 hb2 ha3 ha4 hb3 hb4).mono ?_
  rintro e w1 ⟨rfl, hb⟩
  obtain ⟨s, rfl⟩ := hs w1 ((hf _).trans (hb.mono (hz _)))
  refine hK.out _ _ ⟨s, rfl⟩ (fun _ => ?_)
  clear hK K hb
  repeat (refine mix_free (fun K hK => ?_); go_simp; refine hK _ ?_; clear hK K)
  refine mix_forced (fun K hK => ?_) ⟨_, rfl⟩
  go_simp
  refine (rvmul_any _ _ _ _ _ ha1 ha2 hb1 hb2 ha3 ha4 hb3 hb4).mono ?_
  rintro e w1 ⟨rfl, hb⟩
  obtain ⟨s, rfl⟩ := hs w1 ((hf _).trans (hb.mono (hz _)))
  refine hK.out _ _ ⟨s, rfl⟩ (fun _ => ?_)
  clear hK K hb
  repeat (refine mix_free (fun K hK => ?_); go_simp; refine hK _ ?_; clear hK K)
  refine mix_forced (fun K hK => ?_) ⟨_, rfl⟩
  go_simp
  refine (veq_any _ _ _ _ _).mono ?_
  rintro e w1 ⟨rfl, hb⟩
  obtain ⟨s, rfl⟩ := hs w1 ((hf _).trans (hb.mono (hz _)))
  refine hK.out _ _ ⟨s, rfl⟩ (fun _ => ?_)
  clear hK K hb
  repeat (refine mix_free (fun K hK => ?_); go_simp; refine hK _ ?_; clear hK K)
  refine mix_forced (fun K hK => ?_) ⟨_, rfl⟩
  go_simp
  refine (vone_any _).mono ?_
  rintro e w1 ⟨rfl, hb⟩
  obtain ⟨s, rfl⟩ := hs w1 ((hf _).trans (hb.mono (hz _)))
  refine hK.out _ _ ⟨s, rfl⟩ (fun _ => ?_)
  clear hK K hb
  repeat (refine mix_free (fun K hK => ?_); go_simp; refine hK _ ?_; clear hK K)
  refine mix_nil ?_
  go_wp2
  go_ret
  exact ⟨rfl, hbel s⟩

set_option maxRecDepth 100000 in
set_option maxHeartbeats 2000000 in
theorem lex_sz (ca sa cb sb : Int) (w : World) (ha : valB ca sa = true) (hb : valB cb sb = true) (e1 : (ca == cb) = true) (e2 : (sa == sb) = false) :
    Calls Try.prog 3 #[.agg #[.int .i64 ca, .int .i64 sa], .agg #[.int .i64 cb, .int .i64 sb]] w fun e w' => e = .returned (.bool true) ∧ Below w.heap.size w w' := by
  have hva := fun w => value_any ca sa w
  have hvb := fun w => value_any cb sb w
  rw [ha] at hva
  rw [hb] at hvb
  obtain ⟨ha1, ha2, ha3, ha4⟩ := valB_bd ha
  obtain ⟨hb1, hb2, hb3, hb4⟩ := valB_bd hb
  clear ha hb
  obtain rfl : ca = cb := by simpa using e1
  clear e1
  obtain ⟨S, hne, f, hf, hs⟩ := fam_of (w.heap.size + 1 + 1) ((w.alloc (.cells #[.int .i64 ca, .int .i64 sa] 23)).alloc (.cells #[.int .i64 ca, .int .i64 sb] 23))
  have hz : ∀ s, w.heap.size + 1 + 1 ≤ (f s).heap.size := fun s => by simpa using (hf s).size
  have k00 : ∀ s, (f s).cell? ⟨w.heap.size, 0, none⟩ = some (.int .i64 ca) := fun s => ((hf s).cell (p := ⟨w.heap.size, 0, none⟩) (by simp <;> omega)).trans (by simp [go_sem])
  have k01 : ∀ s, (f s).cell? ⟨w.heap.size, 1, none⟩ = some (.int .i64 sa) := fun s => ((hf s).cell (p := ⟨w.heap.size, 1, none⟩) (by simp <;> omega)).trans (by simp [go_sem])
  have k10 : ∀ s, (f s).cell? ⟨w.heap.size + 1, 0, none⟩ = some (.int .i64 ca) := fun s => ((hf s).cell (p := ⟨w.heap.size + 1, 0, none⟩) (by simp <;> omega)).trans (by simp [go_sem])
  have k11 : ∀ s, (f s).cell? ⟨w.heap.size + 1, 1, none⟩ = some (.int .i64 sb) := fun s => ((hf s).cell (p := ⟨w.heap.size + 1, 1, none⟩) (by simp <;> omega)).trans (by simp [go_sem])
  have hbel : ∀ s, Below w.heap.size w (f s) := fun s => (show Below w.heap.size w ((w.alloc (.cells #[.int .i64 ca, .int .i64 sa] 23)).alloc (.cells #[.int .i64 ca, .int .i64 sb] 23)) by repeat (first | exact Below.refl _ _ | refine Below.alloc ?_ (by simp <;> omega) _)).trans ((hf s).mono (by omega))
  obtain ⟨s, h0⟩ := hs ((w.alloc (.cells #[.int .i64 ca, .int .i64 sa] 23)).alloc (.cells #[.int .i64 ca, .int .i64 sb] 23)) (Below.refl _ _)
  have H0 := Lib.hid h0
  clear h0
  go_enter Try.func3, Try.ntmps3
  go_wp2_with fail
  rw [H0.out]
  clear H0
  refine (hva _).mono ?_
  rintro e w1 ⟨rfl, hb⟩
  obtain ⟨s, rfl⟩ := hs w1 ((hf _).trans (hb.mono (hz _)))
  clear hb
  go_wp2_with (go_at_call 11; with_reducible refine (hvb _).mono ?_; rintro e w1 ⟨rfl, hb⟩; obtain ⟨s, rfl⟩ := hs w1 ((hf _).trans (hb.mono (hz _))); clear hb)
  obtain ⟨s, h1⟩ := hs ((f s).alloc (.cells #[] 27)).drew ((hf s).alloc (hz s) _).drew
  refine wp_region_mix (S := fun w' => ∃ s, w' = f s) [(0, true), (1, false), (2, false), (3, false), (4, false), (6, false), (7, false), (5, true), (8, true), (9, false), (10, false), (11, false), (12, false), (13, false), (14, false), (16, false), (17, false), (15, true), (18, true), (19, false), (20, false), (21, false), (22, false), (23, false), (24, false), (26, false), (27, false), (28, false), (25, true), (29, false), (30, false), (31, false), (32, false), (34, false), (33, true), (35, false), (36, false), (37, false)] (by kernel_rfl) (by kernel_rfl) (fun _ d _ _ _ h => by cases d <;> exact h) ⟨s, h1⟩ ?_
  rw [h1]
  clear h1
  simp only [List.map_cons, List.map_nil, List.getElem?_cons_succ, List.getElem?_cons_zero]
  repeat (refine mix_free (fun K hK => ?_); go_simp; refine hK _ ?_; clear hK K)
  refine mix_forced (fun K hK => ?_) ⟨_, rfl⟩
  go_simp
  refine (awake_any _).mono ?_
  rintro e w1 ⟨rfl, hb⟩
  obtain ⟨s, rfl⟩ := hs w1 ((hf _).trans (hb.mono (hz _)))
  refine hK.out _ _ ⟨s, rfl⟩ (fun _ => ?_)
  clear hK K hb
  repeat (refine mix_free (fun K hK => ?_); go_simp; refine hK _ ?_; clear hK K)
  refine mix_forced (fun K hK => ?_) ⟨_, rfl⟩
  go_simp
  refine (vadd_any _ _ _ _ _).mono ?_
  rintro e w1 ⟨rfl, hb⟩
  obtain ⟨s, rfl⟩ := hs w1 ((hf _).trans (hb.mono (hz _)))
  refine hK.out _ _ ⟨s, rfl⟩ (fun _ => ?_)
  clear hK K hb
  repeat (refine mix_free (fun K hK => ?_); go_simp; refine hK _ ?_; clear hK K)
  refine mix_forced (fun K hK => ?_) ⟨_, rfl⟩
  go_simp
  refine (rvadd_any _ _ _ _ _).mono ?_
  rintro e w1 ⟨rfl, hb⟩
  obtain ⟨s, rfl⟩ := hs w1 ((hf _).trans (hb.mono (hz _)))
  refine hK.out _ _ ⟨s, rfl⟩ (fun _ => ?_)
  clear hK K hb
  repeat (refine mix_free (fun K hK => ?_); go_simp; refine hK _ ?_; clear hK K)
  refine mix_forced (fun K hK => ?_) ⟨_, rfl⟩
  go_simp
  refine (vmul_any _ _ _ _ _ ha1 ha2 hb1 hb2 ha3 ha4 hb3 hb4).mono ?_
  rintro e w1 ⟨rfl, hb⟩
  obtain ⟨s, rfl⟩ := hs w1 ((hf _).trans (hb.mono (hz _)))
  refine hK.out _ _ ⟨s, rfl⟩ (fun _ => ?_)
  clear hK K hb
  repeat (refine mix_free (fun K hK => ?_); go_simp; refine hK _ ?_; clear hK K)
  refine mix_forced (fun K hK => ?_) ⟨_, rfl⟩
  go_simp
  refine (rvmul_any _ _ _ _ _ ha1 ha2 hb1 hb2 ha3 ha4 hb3 hb4).mono ?_
  rintro e w1 ⟨rfl, hb⟩
  obtain ⟨s, rfl⟩ := hs w1 ((hf _).trans (hb.mono (hz _)))
  refine hK.out _ _ ⟨s, rfl⟩ (fun _ => ?_)
  clear hK K hb
  repeat (refine mix_free (fun K hK => ?_); go_simp; refine hK _ ?_; clear hK K)
  refine mix_forced (fun K hK => ?_) ⟨_, rfl⟩
  go_simp
  refine (veq_any _ _ _ _ _).mono ?_
  rintro e w1 ⟨rfl, hb⟩
  obtain ⟨s, rfl⟩ := hs w1 ((hf _).trans (hb.mono (hz _)))
  refine hK.out _ _ ⟨s, rfl⟩ (fun _ => ?_)
  clear hK K hb
  repeat (refine mix_free (fun K hK => ?_); go_simp; refine hK _ ?_; clear hK K)
  refine mix_forced (fun K hK => ?_) ⟨_, rfl⟩
  go_simp
  refine (vone_any _).mono ?_
  rintro e w1 ⟨rfl, hb⟩
  obtain ⟨s, rfl⟩ := hs w1 ((hf _).trans (hb.mono (hz _)))
  refine hK.out _ _ ⟨s, rfl⟩ (fun _ => ?_)
  clear hK K hb
  repeat (refine mix_free (fun K hK => ?_); go_simp; refine hK _ ?_; clear hK K)
  refine mix_nil ?_
  go_wp2
  go_ret
  exact ⟨rfl, hbel s⟩

set_option maxRecDepth 100000 in
set_option maxHeartbeats 2000000 in
theorem lex_ne (ca sa cb sb : Int) (w : World) (ha : valB ca sa = true) (hb : valB cb sb = true) (e1 : (ca == cb) = false) :
    Calls Try.prog 3 #[.agg #[.int .i64 ca, .int .i64 sa], .agg #[.int .i64 cb, .int .i64 sb]] w fun e w' => e = .returned (.bool true) ∧ Below w.heap.size w w' := by
  have hva := fun w => value_any ca sa w
  have hvb := fun w => value_any cb sb w
  rw [ha] at hva
  rw [hb] at hvb
  obtain ⟨ha1, ha2, ha3, ha4⟩ := valB_bd ha
  obtain ⟨hb1, hb2, hb3, hb4⟩ := valB_bd hb
  clear ha hb
  skip
  obtain ⟨S, hne, f, hf, hs⟩ := fam_of (w.heap.size + 1 + 1) ((w.alloc (.cells #[.int .i64 ca, .int .i64 sa] 23)).alloc (.cells #[.int .i64 cb, .int .i64 sb] 23))
  have hz : ∀ s, w.heap.size + 1 + 1 ≤ (f s).heap.size := fun s => by simpa using (hf s).size
  have k00 : ∀ s, (f s).cell? ⟨w.heap.size, 0, none⟩ = some (.int .i64 ca) := fun s => ((hf s).cell (p := ⟨w.heap.size, 0, none⟩) (by simp <;> omega)).trans (by simp [go_sem])
  have k01 : ∀ s, (f s).cell? ⟨w.heap.size, 1, none⟩ = some (.int .i64 sa) := fun s => ((hf s).cell (p := ⟨w.heap.size, 1, none⟩) (by simp <;> omega)).trans (by simp [go_sem])
  have k10 : ∀ s, (f s).cell? ⟨w.heap.size + 1, 0, none⟩ = some (.int .i64 cb) := fun s => ((hf s).cell (p := ⟨w.heap.size + 1, 0, none⟩) (by simp <;> omega)).trans (by simp [go_sem])
  have k11 : ∀ s, (f s).cell? ⟨w.heap.size + 1, 1, none⟩ = some (.int .i64 sb) := fun s => ((hf s).cell (p := ⟨w.heap.size + 1, 1, none⟩) (by simp <;> omega)).trans (by simp [go_sem])
  have hbel : ∀ s, Below w.heap.size w (f s) := fun s => (show Below w.heap.size w ((w.alloc (.cells #[.int .i64 ca, .int .i64 sa] 23)).alloc (.cells #[.int .i64 cb, .int .i64 sb] 23)) by repeat (first | exact Below.refl _ _ | refine Below.alloc ?_ (by simp <;> omega) _)).trans ((hf s).mono (by omega))
  obtain ⟨s, h0⟩ := hs ((w.alloc (.cells #[.int .i64 ca, .int .i64 sa] 23)).alloc (.cells #[.int .i64 cb, .int .i64 sb] 23)) (Below.refl _ _)
  have H0 := Lib.hid h0
  clear h0
  go_enter Try.func3, Try.ntmps3
  go_wp2_with fail
  rw [H0.out]
  clear H0
  refine (hva _).mono ?_
  rintro e w1 ⟨rfl, hb⟩
  obtain ⟨s, rfl⟩ := hs w1 ((hf _).trans (hb.mono (hz _)))
  clear hb
  go_wp2_with (go_at_call 11; with_reducible refine (hvb _).mono ?_; rintro e w1 ⟨rfl, hb⟩; obtain ⟨s, rfl⟩ := hs w1 ((hf _).trans (hb.mono (hz _))); clear hb)
  obtain ⟨s, h1⟩ := hs ((f s).alloc (.cells #[] 27)).drew ((hf s).alloc (hz s) _).drew
  refine wp_region_mix (S := fun w' => ∃ s, w' = f s) [(0, true), (1, false), (2, false), (3, false), (4, false), (6, false), (7, false), (5, true), (8, true), (9, false), (10, false), (11, false), (12, false), (13, false), (14, false), (16, false), (17, false), (15, true), (18, true), (19, false), (20, false), (21, false), (22, false), (23, false), (24, false), (26, false), (27, false), (28, false), (25, true), (29, false), (30, false), (31, false), (32, false), (34, false), (33, true), (35, false), (36, false), (37, false)] (by kernel_rfl) (by kernel_rfl) (fun _ d _ _ _ h => by cases d <;> exact h) ⟨s, h1⟩ ?_
  rw [h1]
  clear h1
  simp only [List.map_cons, List.map_nil, List.getElem?_cons_succ, List.getElem?_cons_zero]
  repeat (refine mix_free (fun K hK => ?_); go_simp; refine hK _ ?_; clear hK K)
  refine mix_forced (fun K hK => ?_) ⟨_, rfl⟩
  go_simp
  refine (awake_any _).mono ?_
  rintro e w1 ⟨rfl, hb⟩
  obtain ⟨s, rfl⟩ := hs w1 ((hf _).trans (hb.mono (hz _)))
  refine hK.out _ _ ⟨s, rfl⟩ (fun _ => ?_)
  clear hK K hb
  repeat (refine mix_free (fun K hK => ?_); go_simp; refine hK _ ?_; clear hK K)
  refine mix_forced (fun K hK => ?_) ⟨_, rfl⟩
  go_simp
  refine (vadd_any _ _ _ _ _).mono ?_
  rintro e w1 ⟨rfl, hb⟩
  obtain ⟨s, rfl⟩ := hs w1 ((hf _).trans (hb.mono (hz _)))
  refine hK.out _ _ ⟨s, rfl⟩ (fun _ => ?_)
  clear hK K hb
  repeat (refine mix_free (fun K hK => ?_); go_simp; refine hK _ ?_; clear hK K)
  refine mix_forced (fun K hK => ?_) ⟨_, rfl⟩
  go_simp
  refine (rvadd_any _ _ _ _ _).mono ?_
  rintro e w1 ⟨rfl, hb⟩
  obtain ⟨s, rfl⟩ := hs w1 ((hf _).trans (hb.mono (hz _)))
  refine hK.out _ _ ⟨s, rfl⟩ (fun _ => ?_)
  clear hK K hb
  repeat (refine mix_free (fun K hK => ?_); go_simp; refine hK _ ?_; clear hK K)
  refine mix_forced (fun K hK => ?_) ⟨_, rfl⟩
  go_simp
  refine (vmul_any _ _ _ _ _ ha1 ha2 hb1 hb2 ha3 ha4 hb3 hb4).mono ?_
  rintro e w1 ⟨rfl, hb⟩
  obtain ⟨s, rfl⟩ := hs w1 ((hf _).trans (hb.mono (hz _)))
  refine hK.out _ _ ⟨s, rfl⟩ (fun _ => ?_)
  clear hK K hb
  repeat (refine mix_free (fun K hK => ?_); go_simp; refine hK _ ?_; clear hK K)
  refine mix_forced (fun K hK => ?_) ⟨_, rfl⟩
  go_simp
  refine (rvmul_any _ _ _ _ _ ha1 ha2 hb1 hb2 ha3 ha4 hb3 hb4).mono ?_
  rintro e w1 ⟨rfl, hb⟩
  obtain ⟨s, rfl⟩ := hs w1 ((hf _).trans (hb.mono (hz _)))
  refine hK.out _ _ ⟨s, rfl⟩ (fun _ => ?_)
  clear hK K hb
  repeat (refine mix_free (fun K hK => ?_); go_simp; refine hK _ ?_; clear hK K)
  refine mix_forced (fun K hK => ?_) ⟨_, rfl⟩
  go_simp
  refine (veq_any _ _ _ _ _).mono ?_
  rintro e w1 ⟨rfl, hb⟩
  obtain ⟨s, rfl⟩ := hs w1 ((hf _).trans (hb.mono (hz _)))
  refine hK.out _ _ ⟨s, rfl⟩ (fun _ => ?_)
  clear hK K hb
  repeat (refine mix_free (fun K hK => ?_); go_simp; refine hK _ ?_; clear hK K)
  refine mix_forced (fun K hK => ?_) ⟨_, rfl⟩
  go_simp
  refine (vone_any _).mono ?_
  rintro e w1 ⟨rfl, hb⟩
  obtain ⟨s, rfl⟩ := hs w1 ((hf _).trans (hb.mono (hz _)))
  refine hK.out _ _ ⟨s, rfl⟩ (fun _ => ?_)
  clear hK K hb
  repeat (refine mix_free (fun K hK => ?_); go_simp; refine hK _ ?_; clear hK K)
  refine mix_nil ?_
  go_wp2
  go_ret
  exact ⟨rfl, hbel s⟩

theorem lex_any (ca sa cb sb : Int) (w : World) :
    Calls Try.prog 3 #[.agg #[.int .i64 ca, .int .i64 sa], .agg #[.int .i64 cb, .int .i64 sb]] w fun e w' => e = .returned (.bool true) ∧ Below w.heap.size w w' := by
  cases h : (valB ca sa && valB cb sb)
  · exact lex_no _ _ _ _ _ h
  · obtain ⟨ha, hb⟩ : valB ca sa = true ∧ valB cb sb = true := by simpa using h
    cases e1 : (ca == cb)
    · exact lex_ne _ _ _ _ _ ha hb e1
    · cases e2 : (sa == sb)
      · exact lex_sz _ _ _ _ _ ha hb e1 e2
      · exact lex_eq _ _ _ _ _ ha hb e1 e2
end Go.Proofs.Ytdnkkeabimjbaaa
