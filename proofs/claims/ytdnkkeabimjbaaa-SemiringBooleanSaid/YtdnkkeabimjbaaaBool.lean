/- Boolean is the semiring of truth values: the law's walk, one theorem for each of the eight inputs. Printed by gen26bool.py. -/
import Derived.Test.YtdnkkeabimjbaaaAwake
namespace Go.Proofs.Ytdnkkeabimjbaaa
open Go.RowKit

theorem boolRow_lit (a b c : Bool) (w : World) : BoolRow (w.alloc (.cells #[.bool a, .bool b, .bool c] 4)) (some ⟨w.heap.size, 0, none⟩) [a, b, c] := by
  refine Or.inr ⟨w.heap.size, 0, rfl, by simp, fun i hi => ?_⟩
  match i, hi with
  | 0, _ => simp [go_sem]
  | 1, _ => simp [go_sem]
  | 2, _ => simp [go_sem]
theorem sum3 (a b c : Bool) (w : World) : Calls Try.prog 41 #[.iface 45 (.agg #[]), .slice (some ⟨w.heap.size, 0, none⟩) 3 3] (w.alloc (.cells #[.bool a, .bool b, .bool c] 4)) fun e w' => e = .returned (.bool (a || b || c)) ∧ Below (w.heap.size + 1) (w.alloc (.cells #[.bool a, .bool b, .bool c] 4)) w' := by
  have h := sumB _ _ 3 _ (boolRow_lit a b c w) (show 3 ≤ maxLen by decide)
  have e : [a, b, c].foldl or false = (a || b || c) := by simp
  rw [e] at h
  simpa using h
theorem prod3 (a b c : Bool) (w : World) : Calls Try.prog 42 #[.iface 45 (.agg #[]), .slice (some ⟨w.heap.size, 0, none⟩) 3 3] (w.alloc (.cells #[.bool a, .bool b, .bool c] 4)) fun e w' => e = .returned (.bool (a && b && c)) ∧ Below (w.heap.size + 1) (w.alloc (.cells #[.bool a, .bool b, .bool c] 4)) w' := by
  have h := prodB _ _ 3 _ (boolRow_lit a b c w) (show 3 ≤ maxLen by decide)
  have e : [a, b, c].foldl and true = (a && b && c) := by simp
  rw [e] at h
  simpa using h
theorem sum0 (w : World) : Calls Try.prog 41 #[.iface 45 (.agg #[]), .slice none 0 0] w fun e w' => e = .returned (.bool false) ∧ Below w.heap.size w w' := sumB w none 0 [] (Or.inl rfl) (by decide)
theorem prod0 (w : World) : Calls Try.prog 42 #[.iface 45 (.agg #[]), .slice none 0 0] w fun e w' => e = .returned (.bool true) ∧ Below w.heap.size w w' := prodB w none 0 [] (Or.inl rfl) (by decide)

set_option maxRecDepth 100000 in
set_option maxHeartbeats 2000000 in
theorem bool_fff (w : World) : Calls Try.prog 7 #[.bool false, .bool false, .bool false] w fun e w' => e = .returned (.bool true) ∧ Below w.heap.size w w' := by
  obtain ⟨S, hne, f, hf, hs⟩ := fam_of w.heap.size w
  go_enter Try.func7, Try.ntmps7
  go_wp2_with fail
  go_wp2_with (first | (go_at_call 12; with_reducible refine (awake_any _).mono ?_; rintro e w1 ⟨rfl, hb⟩; obtain ⟨s, rfl⟩ := hs w1 (((Below.refl _ _).alloc (Nat.le_refl _) _).trans (hb.mono (by simp))); clear hb) | (go_at_call 38; with_reducible refine (badd_any false false _).mono ?_; rintro e w1 ⟨rfl, hb⟩; obtain ⟨s, rfl⟩ := hs w1 ((hf _).trans (hb.mono (hf _).size)); clear hb) | (go_at_call 39; with_reducible refine (bmul_any false false _).mono ?_; rintro e w1 ⟨rfl, hb⟩; obtain ⟨s, rfl⟩ := hs w1 ((hf _).trans (hb.mono (hf _).size)); clear hb) | (go_at_call 40; with_reducible refine (beq_any false false _).mono ?_; rintro e w1 ⟨rfl, hb⟩; obtain ⟨s, rfl⟩ := hs w1 ((hf _).trans (hb.mono (hf _).size)); clear hb) | (go_at_call 41; with_reducible refine (sum0 _).mono ?_; rintro e w1 ⟨rfl, hb⟩; obtain ⟨s, rfl⟩ := hs w1 ((hf _).trans (hb.mono (hf _).size)); clear hb) | (go_at_call 42; with_reducible refine (prod0 _).mono ?_; rintro e w1 ⟨rfl, hb⟩; obtain ⟨s, rfl⟩ := hs w1 ((hf _).trans (hb.mono (hf _).size)); clear hb) | (go_at_call 41; with_reducible refine (sum3 false false false _).mono ?_; rintro e w1 ⟨rfl, hb⟩; obtain ⟨s, rfl⟩ := hs w1 (((hf _).alloc (hf _).size _).trans (hb.mono (by have := (hf s).size; omega))); clear hb) | (go_at_call 42; with_reducible refine (prod3 false false false _).mono ?_; rintro e w1 ⟨rfl, hb⟩; obtain ⟨s, rfl⟩ := hs w1 (((hf _).alloc (hf _).size _).trans (hb.mono (by have := (hf s).size; omega))); clear hb))
  go_ret
  exact ⟨rfl, hf s⟩

set_option maxRecDepth 100000 in
set_option maxHeartbeats 2000000 in
theorem bool_fft (w : World) : Calls Try.prog 7 #[.bool false, .bool false, .bool true] w fun e w' => e = .returned (.bool true) ∧ Below w.heap.size w w' := by
  obtain ⟨S, hne, f, hf, hs⟩ := fam_of w.heap.size w
  go_enter Try.func7, Try.ntmps7
  go_wp2_with fail
  go_wp2_with (first | (go_at_call 12; with_reducible refine (awake_any _).mono ?_; rintro e w1 ⟨rfl, hb⟩; obtain ⟨s, rfl⟩ := hs w1 (((Below.refl _ _).alloc (Nat.le_refl _) _).trans (hb.mono (by simp))); clear hb) | (go_at_call 38; with_reducible refine (badd_any false false _).mono ?_; rintro e w1 ⟨rfl, hb⟩; obtain ⟨s, rfl⟩ := hs w1 ((hf _).trans (hb.mono (hf _).size)); clear hb) | (go_at_call 39; with_reducible refine (bmul_any false false _).mono ?_; rintro e w1 ⟨rfl, hb⟩; obtain ⟨s, rfl⟩ := hs w1 ((hf _).trans (hb.mono (hf _).size)); clear hb) | (go_at_call 40; with_reducible refine (beq_any false false _).mono ?_; rintro e w1 ⟨rfl, hb⟩; obtain ⟨s, rfl⟩ := hs w1 ((hf _).trans (hb.mono (hf _).size)); clear hb) | (go_at_call 41; with_reducible refine (sum0 _).mono ?_; rintro e w1 ⟨rfl, hb⟩; obtain ⟨s, rfl⟩ := hs w1 ((hf _).trans (hb.mono (hf _).size)); clear hb) | (go_at_call 42; with_reducible refine (prod0 _).mono ?_; rintro e w1 ⟨rfl, hb⟩; obtain ⟨s, rfl⟩ := hs w1 ((hf _).trans (hb.mono (hf _).size)); clear hb) | (go_at_call 41; with_reducible refine (sum3 false false true _).mono ?_; rintro e w1 ⟨rfl, hb⟩; obtain ⟨s, rfl⟩ := hs w1 (((hf _).alloc (hf _).size _).trans (hb.mono (by have := (hf s).size; omega))); clear hb) | (go_at_call 42; with_reducible refine (prod3 false false true _).mono ?_; rintro e w1 ⟨rfl, hb⟩; obtain ⟨s, rfl⟩ := hs w1 (((hf _).alloc (hf _).size _).trans (hb.mono (by have := (hf s).size; omega))); clear hb))
  go_ret
  exact ⟨rfl, hf s⟩

set_option maxRecDepth 100000 in
set_option maxHeartbeats 2000000 in
theorem bool_ftf (w : World) : Calls Try.prog 7 #[.bool false, .bool true, .bool false] w fun e w' => e = .returned (.bool true) ∧ Below w.heap.size w w' := by
  obtain ⟨S, hne, f, hf, hs⟩ := fam_of w.heap.size w
  go_enter Try.func7, Try.ntmps7
  go_wp2_with fail
  go_wp2_with (first | (go_at_call 12; with_reducible refine (awake_any _).mono ?_; rintro e w1 ⟨rfl, hb⟩; obtain ⟨s, rfl⟩ := hs w1 (((Below.refl _ _).alloc (Nat.le_refl _) _).trans (hb.mono (by simp))); clear hb) | (go_at_call 38; with_reducible refine (badd_any false true _).mono ?_; rintro e w1 ⟨rfl, hb⟩; obtain ⟨s, rfl⟩ := hs w1 ((hf _).trans (hb.mono (hf _).size)); clear hb) | (go_at_call 39; with_reducible refine (bmul_any false true _).mono ?_; rintro e w1 ⟨rfl, hb⟩; obtain ⟨s, rfl⟩ := hs w1 ((hf _).trans (hb.mono (hf _).size)); clear hb) | (go_at_call 40; with_reducible refine (beq_any false true _).mono ?_; rintro e w1 ⟨rfl, hb⟩; obtain ⟨s, rfl⟩ := hs w1 ((hf _).trans (hb.mono (hf _).size)); clear hb) | (go_at_call 41; with_reducible refine (sum0 _).mono ?_; rintro e w1 ⟨rfl, hb⟩; obtain ⟨s, rfl⟩ := hs w1 ((hf _).trans (hb.mono (hf _).size)); clear hb) | (go_at_call 42; with_reducible refine (prod0 _).mono ?_; rintro e w1 ⟨rfl, hb⟩; obtain ⟨s, rfl⟩ := hs w1 ((hf _).trans (hb.mono (hf _).size)); clear hb) | (go_at_call 41; with_reducible refine (sum3 false true false _).mono ?_; rintro e w1 ⟨rfl, hb⟩; obtain ⟨s, rfl⟩ := hs w1 (((hf _).alloc (hf _).size _).trans (hb.mono (by have := (hf s).size; omega))); clear hb) | (go_at_call 42; with_reducible refine (prod3 false true false _).mono ?_; rintro e w1 ⟨rfl, hb⟩; obtain ⟨s, rfl⟩ := hs w1 (((hf _).alloc (hf _).size _).trans (hb.mono (by have := (hf s).size; omega))); clear hb))
  go_ret
  exact ⟨rfl, hf s⟩

set_option maxRecDepth 100000 in
set_option maxHeartbeats 2000000 in
theorem bool_ftt (w : World) : Calls Try.prog 7 #[.bool false, .bool true, .bool true] w fun e w' => e = .returned (.bool true) ∧ Below w.heap.size w w' := by
  obtain ⟨S, hne, f, hf, hs⟩ := fam_of w.heap.size w
  go_enter Try.func7, Try.ntmps7
  go_wp2_with fail
  go_wp2_with (first | (go_at_call 12; with_reducible refine (awake_any _).mono ?_; rintro e w1 ⟨rfl, hb⟩; obtain ⟨s, rfl⟩ := hs w1 (((Below.refl _ _).alloc (Nat.le_refl _) _).trans (hb.mono (by simp))); clear hb) | (go_at_call 38; with_reducible refine (badd_any false true _).mono ?_; rintro e w1 ⟨rfl, hb⟩; obtain ⟨s, rfl⟩ := hs w1 ((hf _).trans (hb.mono (hf _).size)); clear hb) | (go_at_call 39; with_reducible refine (bmul_any false true _).mono ?_; rintro e w1 ⟨rfl, hb⟩; obtain ⟨s, rfl⟩ := hs w1 ((hf _).trans (hb.mono (hf _).size)); clear hb) | (go_at_call 40; with_reducible refine (beq_any false true _).mono ?_; rintro e w1 ⟨rfl, hb⟩; obtain ⟨s, rfl⟩ := hs w1 ((hf _).trans (hb.mono (hf _).size)); clear hb) | (go_at_call 41; with_reducible refine (sum0 _).mono ?_; rintro e w1 ⟨rfl, hb⟩; obtain ⟨s, rfl⟩ := hs w1 ((hf _).trans (hb.mono (hf _).size)); clear hb) | (go_at_call 42; with_reducible refine (prod0 _).mono ?_; rintro e w1 ⟨rfl, hb⟩; obtain ⟨s, rfl⟩ := hs w1 ((hf _).trans (hb.mono (hf _).size)); clear hb) | (go_at_call 41; with_reducible refine (sum3 false true true _).mono ?_; rintro e w1 ⟨rfl, hb⟩; obtain ⟨s, rfl⟩ := hs w1 (((hf _).alloc (hf _).size _).trans (hb.mono (by have := (hf s).size; omega))); clear hb) | (go_at_call 42; with_reducible refine (prod3 false true true _).mono ?_; rintro e w1 ⟨rfl, hb⟩; obtain ⟨s, rfl⟩ := hs w1 (((hf _).alloc (hf _).size _).trans (hb.mono (by have := (hf s).size; omega))); clear hb))
  go_ret
  exact ⟨rfl, hf s⟩

set_option maxRecDepth 100000 in
set_option maxHeartbeats 2000000 in
theorem bool_tff (w : World) : Calls Try.prog 7 #[.bool true, .bool false, .bool false] w fun e w' => e = .returned (.bool true) ∧ Below w.heap.size w w' := by
  obtain ⟨S, hne, f, hf, hs⟩ := fam_of w.heap.size w
  go_enter Try.func7, Try.ntmps7
  go_wp2_with fail
  go_wp2_with (first | (go_at_call 12; with_reducible refine (awake_any _).mono ?_; rintro e w1 ⟨rfl, hb⟩; obtain ⟨s, rfl⟩ := hs w1 (((Below.refl _ _).alloc (Nat.le_refl _) _).trans (hb.mono (by simp))); clear hb) | (go_at_call 38; with_reducible refine (badd_any true false _).mono ?_; rintro e w1 ⟨rfl, hb⟩; obtain ⟨s, rfl⟩ := hs w1 ((hf _).trans (hb.mono (hf _).size)); clear hb) | (go_at_call 39; with_reducible refine (bmul_any true false _).mono ?_; rintro e w1 ⟨rfl, hb⟩; obtain ⟨s, rfl⟩ := hs w1 ((hf _).trans (hb.mono (hf _).size)); clear hb) | (go_at_call 40; with_reducible refine (beq_any true false _).mono ?_; rintro e w1 ⟨rfl, hb⟩; obtain ⟨s, rfl⟩ := hs w1 ((hf _).trans (hb.mono (hf _).size)); clear hb) | (go_at_call 41; with_reducible refine (sum0 _).mono ?_; rintro e w1 ⟨rfl, hb⟩; obtain ⟨s, rfl⟩ := hs w1 ((hf _).trans (hb.mono (hf _).size)); clear hb) | (go_at_call 42; with_reducible refine (prod0 _).mono ?_; rintro e w1 ⟨rfl, hb⟩; obtain ⟨s, rfl⟩ := hs w1 ((hf _).trans (hb.mono (hf _).size)); clear hb) | (go_at_call 41; with_reducible refine (sum3 true false false _).mono ?_; rintro e w1 ⟨rfl, hb⟩; obtain ⟨s, rfl⟩ := hs w1 (((hf _).alloc (hf _).size _).trans (hb.mono (by have := (hf s).size; omega))); clear hb) | (go_at_call 42; with_reducible refine (prod3 true false false _).mono ?_; rintro e w1 ⟨rfl, hb⟩; obtain ⟨s, rfl⟩ := hs w1 (((hf _).alloc (hf _).size _).trans (hb.mono (by have := (hf s).size; omega))); clear hb))
  go_ret
  exact ⟨rfl, hf s⟩

set_option maxRecDepth 100000 in
set_option maxHeartbeats 2000000 in
theorem bool_tft (w : World) : Calls Try.prog 7 #[.bool true, .bool false, .bool true] w fun e w' => e = .returned (.bool true) ∧ Below w.heap.size w w' := by
  obtain ⟨S, hne, f, hf, hs⟩ := fam_of w.heap.size w
  go_enter Try.func7, Try.ntmps7
  go_wp2_with fail
  go_wp2_with (first | (go_at_call 12; with_reducible refine (awake_any _).mono ?_; rintro e w1 ⟨rfl, hb⟩; obtain ⟨s, rfl⟩ := hs w1 (((Below.refl _ _).alloc (Nat.le_refl _) _).trans (hb.mono (by simp))); clear hb) | (go_at_call 38; with_reducible refine (badd_any true false _).mono ?_; rintro e w1 ⟨rfl, hb⟩; obtain ⟨s, rfl⟩ := hs w1 ((hf _).trans (hb.mono (hf _).size)); clear hb) | (go_at_call 39; with_reducible refine (bmul_any true false _).mono ?_; rintro e w1 ⟨rfl, hb⟩; obtain ⟨s, rfl⟩ := hs w1 ((hf _).trans (hb.mono (hf _).size)); clear hb) | (go_at_call 40; with_reducible refine (beq_any true false _).mono ?_; rintro e w1 ⟨rfl, hb⟩; obtain ⟨s, rfl⟩ := hs w1 ((hf _).trans (hb.mono (hf _).size)); clear hb) | (go_at_call 41; with_reducible refine (sum0 _).mono ?_; rintro e w1 ⟨rfl, hb⟩; obtain ⟨s, rfl⟩ := hs w1 ((hf _).trans (hb.mono (hf _).size)); clear hb) | (go_at_call 42; with_reducible refine (prod0 _).mono ?_; rintro e w1 ⟨rfl, hb⟩; obtain ⟨s, rfl⟩ := hs w1 ((hf _).trans (hb.mono (hf _).size)); clear hb) | (go_at_call 41; with_reducible refine (sum3 true false true _).mono ?_; rintro e w1 ⟨rfl, hb⟩; obtain ⟨s, rfl⟩ := hs w1 (((hf _).alloc (hf _).size _).trans (hb.mono (by have := (hf s).size; omega))); clear hb) | (go_at_call 42; with_reducible refine (prod3 true false true _).mono ?_; rintro e w1 ⟨rfl, hb⟩; obtain ⟨s, rfl⟩ := hs w1 (((hf _).alloc (hf _).size _).trans (hb.mono (by have := (hf s).size; omega))); clear hb))
  go_ret
  exact ⟨rfl, hf s⟩

set_option maxRecDepth 100000 in
set_option maxHeartbeats 2000000 in
theorem bool_ttf (w : World) : Calls Try.prog 7 #[.bool true, .bool true, .bool false] w fun e w' => e = .returned (.bool true) ∧ Below w.heap.size w w' := by
  obtain ⟨S, hne, f, hf, hs⟩ := fam_of w.heap.size w
  go_enter Try.func7, Try.ntmps7
  go_wp2_with fail
  go_wp2_with (first | (go_at_call 12; with_reducible refine (awake_any _).mono ?_; rintro e w1 ⟨rfl, hb⟩; obtain ⟨s, rfl⟩ := hs w1 (((Below.refl _ _).alloc (Nat.le_refl _) _).trans (hb.mono (by simp))); clear hb) | (go_at_call 38; with_reducible refine (badd_any true true _).mono ?_; rintro e w1 ⟨rfl, hb⟩; obtain ⟨s, rfl⟩ := hs w1 ((hf _).trans (hb.mono (hf _).size)); clear hb) | (go_at_call 39; with_reducible refine (bmul_any true true _).mono ?_; rintro e w1 ⟨rfl, hb⟩; obtain ⟨s, rfl⟩ := hs w1 ((hf _).trans (hb.mono (hf _).size)); clear hb) | (go_at_call 40; with_reducible refine (beq_any true true _).mono ?_; rintro e w1 ⟨rfl, hb⟩; obtain ⟨s, rfl⟩ := hs w1 ((hf _).trans (hb.mono (hf _).size)); clear hb) | (go_at_call 41; with_reducible refine (sum0 _).mono ?_; rintro e w1 ⟨rfl, hb⟩; obtain ⟨s, rfl⟩ := hs w1 ((hf _).trans (hb.mono (hf _).size)); clear hb) | (go_at_call 42; with_reducible refine (prod0 _).mono ?_; rintro e w1 ⟨rfl, hb⟩; obtain ⟨s, rfl⟩ := hs w1 ((hf _).trans (hb.mono (hf _).size)); clear hb) | (go_at_call 41; with_reducible refine (sum3 true true false _).mono ?_; rintro e w1 ⟨rfl, hb⟩; obtain ⟨s, rfl⟩ := hs w1 (((hf _).alloc (hf _).size _).trans (hb.mono (by have := (hf s).size; omega))); clear hb) | (go_at_call 42; with_reducible refine (prod3 true true false _).mono ?_; rintro e w1 ⟨rfl, hb⟩; obtain ⟨s, rfl⟩ := hs w1 (((hf _).alloc (hf _).size _).trans (hb.mono (by have := (hf s).size; omega))); clear hb))
  go_ret
  exact ⟨rfl, hf s⟩

set_option maxRecDepth 100000 in
set_option maxHeartbeats 2000000 in
theorem bool_ttt (w : World) : Calls Try.prog 7 #[.bool true, .bool true, .bool true] w fun e w' => e = .returned (.bool true) ∧ Below w.heap.size w w' := by
  obtain ⟨S, hne, f, hf, hs⟩ := fam_of w.heap.size w
  go_enter Try.func7, Try.ntmps7
  go_wp2_with fail
  go_wp2_with (first | (go_at_call 12; with_reducible refine (awake_any _).mono ?_; rintro e w1 ⟨rfl, hb⟩; obtain ⟨s, rfl⟩ := hs w1 (((Below.refl _ _).alloc (Nat.le_refl _) _).trans (hb.mono (by simp))); clear hb) | (go_at_call 38; with_reducible refine (badd_any true true _).mono ?_; rintro e w1 ⟨rfl, hb⟩; obtain ⟨s, rfl⟩ := hs w1 ((hf _).trans (hb.mono (hf _).size)); clear hb) | (go_at_call 39; with_reducible refine (bmul_any true true _).mono ?_; rintro e w1 ⟨rfl, hb⟩; obtain ⟨s, rfl⟩ := hs w1 ((hf _).trans (hb.mono (hf _).size)); clear hb) | (go_at_call 40; with_reducible refine (beq_any true true _).mono ?_; rintro e w1 ⟨rfl, hb⟩; obtain ⟨s, rfl⟩ := hs w1 ((hf _).trans (hb.mono (hf _).size)); clear hb) | (go_at_call 41; with_reducible refine (sum0 _).mono ?_; rintro e w1 ⟨rfl, hb⟩; obtain ⟨s, rfl⟩ := hs w1 ((hf _).trans (hb.mono (hf _).size)); clear hb) | (go_at_call 42; with_reducible refine (prod0 _).mono ?_; rintro e w1 ⟨rfl, hb⟩; obtain ⟨s, rfl⟩ := hs w1 ((hf _).trans (hb.mono (hf _).size)); clear hb) | (go_at_call 41; with_reducible refine (sum3 true true true _).mono ?_; rintro e w1 ⟨rfl, hb⟩; obtain ⟨s, rfl⟩ := hs w1 (((hf _).alloc (hf _).size _).trans (hb.mono (by have := (hf s).size; omega))); clear hb) | (go_at_call 42; with_reducible refine (prod3 true true true _).mono ?_; rintro e w1 ⟨rfl, hb⟩; obtain ⟨s, rfl⟩ := hs w1 (((hf _).alloc (hf _).size _).trans (hb.mono (by have := (hf s).size; omega))); clear hb))
  go_ret
  exact ⟨rfl, hf s⟩

theorem bool_any (a b c : Bool) (w : World) : Calls Try.prog 7 #[.bool a, .bool b, .bool c] w fun e w' => e = .returned (.bool true) ∧ Below w.heap.size w w' := by
  cases a <;> cases b <;> cases c
  · exact bool_fff w
  · exact bool_fft w
  · exact bool_ftf w
  · exact bool_ftt w
  · exact bool_tff w
  · exact bool_tft w
  · exact bool_ttf w
  · exact bool_ttt w
end Go.Proofs.Ytdnkkeabimjbaaa
