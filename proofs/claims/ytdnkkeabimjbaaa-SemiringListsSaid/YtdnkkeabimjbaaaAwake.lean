/- The law's own examples hold: awake returns true. -/
import Derived.Test.YtdnkkeabimjbaaaSum
import Derived.Test.YtdnkkeabimjbaaaMix
namespace Go.Proofs.Ytdnkkeabimjbaaa
open Go.RowKit

theorem intRow_lit (w : World) : IntRow (w.alloc (.cells #[.int .i64 3, .int .i64 4, .int .i64 5] 3)) (some ⟨w.heap.size, 0, none⟩) [3, 4, 5] := by
  refine Or.inr ⟨w.heap.size, 0, rfl, by simp, fun i hi => ?_⟩
  match i, hi with
  | 0, _ => simp [go_sem]
  | 1, _ => simp [go_sem]
  | 2, _ => simp [go_sem]
theorem aw29 (w : World) : Calls Try.prog 29 #[.agg #[], .int .i64 3, .int .i64 5] w fun e w' => e = .returned (.int .i64 3) ∧ Below w.heap.size w w' := tadd_any 3 5 w
theorem aw31 (w : World) : Calls Try.prog 31 #[.agg #[], .int .i64 3, .int .i64 5] w fun e w' => e = .returned (.int .i64 8) ∧ Below w.heap.size w w' := tmul_any 3 5 w (by decide) (by decide) (by decide) (by decide)
theorem aw13 (w : World) : Calls Try.prog 13 #[.agg #[], .agg #[.int .i64 3, .int .i64 7], .agg #[.int .i64 3, .int .i64 2]] w fun e w' => e = .returned (.agg #[.int .i64 3, .int .i64 2]) ∧ Below w.heap.size w w' := vadd_any 3 7 3 2 w
theorem aw15 (w : World) : Calls Try.prog 15 #[.agg #[], .agg #[.int .i64 3, .int .i64 7], .agg #[.int .i64 3, .int .i64 2]] w fun e w' => e = .returned (.agg #[.int .i64 6, .int .i64 9]) ∧ Below w.heap.size w w' := vmul_any 3 7 3 2 w (by decide) (by decide) (by decide) (by decide) (by decide) (by decide) (by decide) (by decide)
theorem aw35 (w : World) : Calls Try.prog 35 #[.agg #[], .int .i64 3, .int .i64 5] w fun e w' => e = .returned (.int .i64 15) ∧ Below w.heap.size w w' := cmul_any 3 5 w (by decide) (by decide) (by decide) (by decide)
theorem aw24 (w : World) : Calls Try.prog 24 #[.iface 37 (.agg #[]), .slice (some ⟨w.heap.size, 0, none⟩) 3 3] (w.alloc (.cells #[.int .i64 3, .int .i64 4, .int .i64 5] 3)) fun e w' => e = .returned (.int .i64 12) ∧ Below (w.heap.size + 1) (w.alloc (.cells #[.int .i64 3, .int .i64 4, .int .i64 5] 3)) w' := by
  have h := sumC _ _ 3 _ (intRow_lit w) (by decide) (by decide)
  have e : [(3 : Int), 4, 5].foldl tmul 0 = 12 := by decide
  rw [e] at h
  simpa using h
theorem aw25 (w : World) : Calls Try.prog 25 #[.iface 36 (.agg #[]), .slice (some ⟨w.heap.size, 0, none⟩) 3 3] (w.alloc (.cells #[.int .i64 3, .int .i64 4, .int .i64 5] 3)) fun e w' => e = .returned (.int .i64 12) ∧ Below (w.heap.size + 1) (w.alloc (.cells #[.int .i64 3, .int .i64 4, .int .i64 5] 3)) w' := by
  have h := prodT _ _ 3 _ (intRow_lit w) (by decide) (by decide)
  have e : [(3 : Int), 4, 5].foldl tmul 0 = 12 := by decide
  rw [e] at h
  simpa using h
theorem aw17 (w : World) : Calls Try.prog 17 #[.agg #[], .agg #[.int .i64 1099511627776, .int .i64 0], .agg #[.int .i64 1099511627776, .int .i64 0]] w fun e w' => e = .returned (.bool true) ∧ Below w.heap.size w w' := veq_any _ _ _ _ w

set_option maxRecDepth 100000 in
set_option maxHeartbeats 1000000 in
theorem awake_any (w : World) : Calls Try.prog 12 #[] w fun e w' => e = .returned (.bool true) ∧ Below w.heap.size w w' := by
  obtain ⟨S, hne, f, hf, hs⟩ := fam_of w.heap.size w
  go_enter Try.func12, Try.ntmps12
  go_wp2_with fail
  obtain ⟨s, h0⟩ := hs ((((w.alloc (.cells #[] 36)).alloc (.cells #[] 27)).alloc (.cells #[] 37)).alloc (.cells #[] 45)).drew (by refine Below.drew ?_; repeat (first | exact Below.refl _ _ | refine Below.alloc ?_ (by simp <;> omega) _))
  refine wp_region_mix (S := fun w' => ∃ s, w' = f s) [(0, false), (1, true), (2, false), (3, false), (4, false), (5, true), (6, false), (7, false), (8, false), (9, false), (10, false), (11, false), (13, false), (12, true), (14, false), (15, false), (16, false), (17, false), (18, false), (19, false), (21, false), (20, true), (22, false), (23, false), (24, false), (25, false), (26, true), (27, false), (28, false), (29, false), (30, false), (31, true), (32, false), (33, false), (34, false), (35, false), (36, true), (37, false), (38, false), (39, false), (40, false), (41, true), (42, false), (43, false), (44, false), (45, true), (46, false), (47, false), (48, false), (49, false), (50, false), (51, true), (52, true), (53, false), (54, false), (55, false), (56, false), (57, false), (58, true), (59, true), (60, false), (61, false), (62, false), (63, false), (64, false), (66, false), (65, true), (67, true), (68, false), (69, false)] (by kernel_rfl) (by kernel_rfl) (fun _ d _ _ _ h => by cases d <;> exact h) ⟨s, h0⟩ ?_
  rw [h0]
  clear h0
  simp only [List.map_cons, List.map_nil, List.append_eq, List.cons_append, List.nil_append, List.getElem?_cons_succ, List.getElem?_cons_zero]
  repeat (refine mix_free (fun K hK => ?_); go_simp; refine hK _ ?_; clear hK K)
  refine mix_forced (fun K hK => ?_) ⟨_, rfl⟩
  go_simp
  refine (aw29 _).mono ?_
  rintro e w1 ⟨rfl, hb⟩
  obtain ⟨s, rfl⟩ := hs w1 ((hf _).trans (hb.mono (hf _).size))
  refine hK.out _ _ ⟨s, rfl⟩ (fun _ => ?_)
  clear hK K hb
  repeat (refine mix_free (fun K hK => ?_); go_simp; refine hK _ ?_; clear hK K)
  refine mix_forced (fun K hK => ?_) ⟨_, rfl⟩
  go_simp
  refine (aw31 _).mono ?_
  rintro e w1 ⟨rfl, hb⟩
  obtain ⟨s, rfl⟩ := hs w1 ((hf _).trans (hb.mono (hf _).size))
  refine hK.out _ _ ⟨s, rfl⟩ (fun _ => ?_)
  clear hK K hb
  repeat (refine mix_free (fun K hK => ?_); go_simp; refine hK _ ?_; clear hK K)
  refine mix_forced (fun K hK => ?_) ⟨_, rfl⟩
  go_simp
  refine (aw13 _).mono ?_
  rintro e w1 ⟨rfl, hb⟩
  obtain ⟨s, rfl⟩ := hs w1 ((hf _).trans (hb.mono (hf _).size))
  refine hK.out _ _ ⟨s, rfl⟩ (fun _ => ?_)
  clear hK K hb
  repeat (refine mix_free (fun K hK => ?_); go_simp; refine hK _ ?_; clear hK K)
  refine mix_forced (fun K hK => ?_) ⟨_, rfl⟩
  go_simp
  refine (aw15 _).mono ?_
  rintro e w1 ⟨rfl, hb⟩
  obtain ⟨s, rfl⟩ := hs w1 ((hf _).trans (hb.mono (hf _).size))
  refine hK.out _ _ ⟨s, rfl⟩ (fun _ => ?_)
  clear hK K hb
  repeat (refine mix_free (fun K hK => ?_); go_simp; refine hK _ ?_; clear hK K)
  refine mix_forced (fun K hK => ?_) ⟨_, rfl⟩
  go_simp
  refine (tzero_any _).mono ?_
  rintro e w1 ⟨rfl, hb⟩
  obtain ⟨s, rfl⟩ := hs w1 ((hf _).trans (hb.mono (hf _).size))
  refine hK.out _ _ ⟨s, rfl⟩ (fun _ => ?_)
  clear hK K hb
  repeat (refine mix_free (fun K hK => ?_); go_simp; refine hK _ ?_; clear hK K)
  refine mix_forced (fun K hK => ?_) ⟨_, rfl⟩
  go_simp
  refine (cone_any _).mono ?_
  rintro e w1 ⟨rfl, hb⟩
  obtain ⟨s, rfl⟩ := hs w1 ((hf _).trans (hb.mono (hf _).size))
  refine hK.out _ _ ⟨s, rfl⟩ (fun _ => ?_)
  clear hK K hb
  repeat (refine mix_free (fun K hK => ?_); go_simp; refine hK _ ?_; clear hK K)
  refine mix_forced (fun K hK => ?_) ⟨_, rfl⟩
  go_simp
  refine (aw35 _).mono ?_
  rintro e w1 ⟨rfl, hb⟩
  obtain ⟨s, rfl⟩ := hs w1 ((hf _).trans (hb.mono (hf _).size))
  refine hK.out _ _ ⟨s, rfl⟩ (fun _ => ?_)
  clear hK K hb
  repeat (refine mix_free (fun K hK => ?_); go_simp; refine hK _ ?_; clear hK K)
  refine mix_forced (fun K hK => ?_) ⟨_, rfl⟩
  go_simp
  refine (bone_any _).mono ?_
  rintro e w1 ⟨rfl, hb⟩
  obtain ⟨s, rfl⟩ := hs w1 ((hf _).trans (hb.mono (hf _).size))
  refine hK.out _ _ ⟨s, rfl⟩ (fun _ => ?_)
  clear hK K hb
  repeat (refine mix_free (fun K hK => ?_); go_simp; refine hK _ ?_; clear hK K)
  refine mix_forced (fun K hK => ?_) ⟨_, rfl⟩
  go_simp
  refine (bzero_any _).mono ?_
  rintro e w1 ⟨rfl, hb⟩
  obtain ⟨s, rfl⟩ := hs w1 ((hf _).trans (hb.mono (hf _).size))
  refine hK.out _ _ ⟨s, rfl⟩ (fun _ => ?_)
  clear hK K hb
  repeat (refine mix_free (fun K hK => ?_); go_simp; refine hK _ ?_; clear hK K)
  refine mix_forced (fun K hK => ?_) ⟨_, rfl⟩
  go_simp
  refine hK.out _ _ (hs _ ((hf _).alloc (hf _).size _)) (fun hS => ?_)
  clear hK K
  refine mix_forced (fun K hK => ?_) hS
  go_simp
  refine (aw24 _).mono ?_
  rintro e w1 ⟨rfl, hb⟩
  obtain ⟨s, rfl⟩ := hs w1 (((hf _).alloc (hf _).size _).trans (hb.mono (by have := (hf s).size; omega)))
  refine hK.out _ _ ⟨s, rfl⟩ (fun _ => ?_)
  clear hK K hb hS
  repeat (refine mix_free (fun K hK => ?_); go_simp; refine hK _ ?_; clear hK K)
  refine mix_forced (fun K hK => ?_) ⟨_, rfl⟩
  go_simp
  refine hK.out _ _ (hs _ ((hf _).alloc (hf _).size _)) (fun hS => ?_)
  clear hK K
  refine mix_forced (fun K hK => ?_) hS
  go_simp
  refine (aw25 _).mono ?_
  rintro e w1 ⟨rfl, hb⟩
  obtain ⟨s, rfl⟩ := hs w1 (((hf _).alloc (hf _).size _).trans (hb.mono (by have := (hf s).size; omega)))
  refine hK.out _ _ ⟨s, rfl⟩ (fun _ => ?_)
  clear hK K hb hS
  repeat (refine mix_free (fun K hK => ?_); go_simp; refine hK _ ?_; clear hK K)
  refine mix_forced (fun K hK => ?_) ⟨_, rfl⟩
  go_simp
  refine (vzero_any _).mono ?_
  rintro e w1 ⟨rfl, hb⟩
  obtain ⟨s, rfl⟩ := hs w1 ((hf _).trans (hb.mono (hf _).size))
  refine hK.out _ _ ⟨s, rfl⟩ (fun _ => ?_)
  clear hK K hb
  repeat (refine mix_free (fun K hK => ?_); go_simp; refine hK _ ?_; clear hK K)
  refine mix_forced (fun K hK => ?_) ⟨_, rfl⟩
  go_simp
  refine (aw17 _).mono ?_
  rintro e w1 ⟨rfl, hb⟩
  obtain ⟨s, rfl⟩ := hs w1 ((hf _).trans (hb.mono (hf _).size))
  refine hK.out _ _ ⟨s, rfl⟩ (fun _ => ?_)
  clear hK K hb
  repeat (refine mix_free (fun K hK => ?_); go_simp; refine hK _ ?_; clear hK K)
  refine mix_nil ?_
  go_wp2
  go_ret
  exact ⟨rfl, hf s⟩
end Go.Proofs.Ytdnkkeabimjbaaa
