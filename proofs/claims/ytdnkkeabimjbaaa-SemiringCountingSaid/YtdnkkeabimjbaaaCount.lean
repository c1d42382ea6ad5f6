/- Counting returns what is specified, for all elements: the law's walk. Printed by gen26tc.py. -/
import Derived.Test.YtdnkkeabimjbaaaGuard
namespace Go.Proofs.Ytdnkkeabimjbaaa
open Go.RowKit

set_option maxHeartbeats 1000000 in
theorem count_no (a b : Int) (w : World) (h : (intB a && intB b) = false) : Calls Try.prog 9 #[.int .i64 a, .int .i64 b] w fun e w' => e = .returned (.bool true) ∧ Below w.heap.size w w' := by
  have hia := fun w => int_any a w
  have hib := fun w => int_any b w
  have ht := awake_any w
  cases ha : intB a
  · rw [ha] at hia
    clear hib ha h
    go_enter Try.func9, Try.ntmps9
    go_wp2_with (first | (go_at_call 28; with_reducible refine (hia _).mono ?_; rintro e w1 ⟨rfl, rfl⟩) | (go_at_call 12; with_reducible refine ht.mono ?_; rintro e w1 ⟨rfl, hb⟩))
    go_ret
    exact ⟨rfl, hb⟩
  · rw [ha] at hia h
    have hb : intB b = false := by simpa using h
    rw [hb] at hib
    clear hb ha h
    go_enter Try.func9, Try.ntmps9
    go_wp2_with fail
    refine (hia _).mono ?_
    rintro e w1 ⟨rfl, rfl⟩
    go_wp2_with (first | (go_at_call 28; with_reducible refine (hib _).mono ?_; rintro e w1 ⟨rfl, rfl⟩) | (go_at_call 12; with_reducible refine ht.mono ?_; rintro e w1 ⟨rfl, hb⟩))
    go_ret
    exact ⟨rfl, hb⟩

set_option maxHeartbeats 2000000 in
theorem count_yes (a b : Int) (w : World) (ha : intB a = true) (hb : intB b = true) : Calls Try.prog 9 #[.int .i64 a, .int .i64 b] w fun e w' => e = .returned (.bool true) ∧ Below w.heap.size w w' := by
  have hia := fun w => int_any a w
  have hib := fun w => int_any b w
  rw [ha] at hia
  rw [hb] at hib
  obtain ⟨ha0, ha1⟩ := intB_iff.1 ha
  obtain ⟨hb0, hb1⟩ := intB_iff.1 hb
  clear ha hb
  obtain ⟨S, hne, f, hf, hs⟩ := fam_of w.heap.size w
  cases he : (a == b)
  all_goals
    go_enter Try.func9, Try.ntmps9
    go_wp2_with fail
    refine (hia _).mono ?_
    rintro e w1 ⟨rfl, rfl⟩
    go_wp2_with (go_at_call 28; with_reducible refine (hib _).mono ?_; rintro e w1 ⟨rfl, rfl⟩)
    refine (awake_any _).mono ?_
    rintro e w1 ⟨rfl, hb⟩
    obtain ⟨s, rfl⟩ := hs w1 (((Below.refl _ _).alloc (Nat.le_refl _) _).trans (hb.mono (by simp)))
    clear hb
    go_wp2_with (first | (go_at_call 33; with_reducible refine (cadd_any _ _ _ ha0 hb0 ha1 hb1).mono ?_; rintro e w1 ⟨rfl, hb⟩; obtain ⟨s, rfl⟩ := hs w1 ((hf _).trans (hb.mono (hf _).size)); clear hb) | (go_at_call 22; with_reducible refine (rcadd_any _ _ _ ha0 hb0 ha1 hb1).mono ?_; rintro e w1 ⟨rfl, rfl⟩) | (go_at_call 35; with_reducible refine (cmul_any _ _ _ ha0 hb0 ha1 hb1).mono ?_; rintro e w1 ⟨rfl, hb⟩; obtain ⟨s, rfl⟩ := hs w1 ((hf _).trans (hb.mono (hf _).size)); clear hb) | (go_at_call 23; with_reducible refine (rcmul_any _ _ _ ha0 hb0 ha1 hb1).mono ?_; rintro e w1 ⟨rfl, rfl⟩) | (go_at_call 45; with_reducible refine (ceq_any _ _ _).mono ?_; rintro e w1 ⟨rfl, hb⟩; obtain ⟨s, rfl⟩ := hs w1 ((hf _).trans (hb.mono (hf _).size)); clear hb) | (go_at_call 34; with_reducible refine (czero_any _).mono ?_; rintro e w1 ⟨rfl, hb⟩; obtain ⟨s, rfl⟩ := hs w1 ((hf _).trans (hb.mono (hf _).size)); clear hb))
    go_ret
    exact ⟨rfl, hf s⟩

theorem count_any (a b : Int) (w : World) : Calls Try.prog 9 #[.int .i64 a, .int .i64 b] w fun e w' => e = .returned (.bool true) ∧ Below w.heap.size w w' := by
  cases h : (intB a && intB b)
  · exact count_no _ _ _ h
  · obtain ⟨ha, hb⟩ : intB a = true ∧ intB b = true := by simpa using h
    exact count_yes _ _ _ ha hb
end Go.Proofs.Ytdnkkeabimjbaaa
