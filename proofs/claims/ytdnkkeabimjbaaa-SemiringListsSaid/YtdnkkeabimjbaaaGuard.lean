/- Contracts of the guards: Value, Ints, Values. -/
import Derived.Test.YtdnkkeabimjbaaaAwake
namespace Go.Proofs.Ytdnkkeabimjbaaa
open Go.RowKit

set_option maxHeartbeats 400000 in
theorem value_any (c t : Int) (w : World) : Calls Try.prog 11 #[.agg #[.int .i64 c, .int .i64 t]] w fun e w' => e = .returned (.bool (valB c t)) ∧ Below w.heap.size w w' := by
  by_cases h1 : c = 1099511627776
  · subst h1
    by_cases h2 : t = 0
    · subst h2
      go_enter Try.func11, Try.ntmps11
      go_wp2
      go_ret
      exact ⟨ret_bool (by simp [valB]), (Below.refl _ _).alloc (Nat.le_refl _) _⟩
    · have e2 : (t == 0) = false := by simpa using h2
      have hq := Lib.hid (show valB 1099511627776 t = false by simp [valB, h2])
      go_enter Try.func11, Try.ntmps11
      go_wp2
      go_ret
      exact ⟨ret_bool hq.out.symm, (Below.refl _ _).alloc (Nat.le_refl _) _⟩
  · have e1 : (c == 1099511627776) = false := by simpa using h1
    by_cases h3 : 0 ≤ c
    · by_cases h4 : c < 1099511627776
      · have hq := Lib.hid (show valB c t = intB t by simp [valB, h1, h3, h4])
        go_enter Try.func11, Try.ntmps11
        go_wp2_with (go_at_call 28; refine (int_any _ _).mono ?_; rintro e w1 ⟨rfl, rfl⟩)
        go_ret
        exact ⟨ret_bool hq.out.symm, (Below.refl _ _).alloc (Nat.le_refl _) _⟩
      · have hq := Lib.hid (show valB c t = false by simp [valB, h1, h4])
        go_enter Try.func11, Try.ntmps11
        go_wp2
        go_ret
        exact ⟨ret_bool hq.out.symm, (Below.refl _ _).alloc (Nat.le_refl _) _⟩
    · have hq := Lib.hid (show valB c t = false by simp [valB, h1, h3])
      go_enter Try.func11, Try.ntmps11
      go_wp2
      go_ret
      exact ⟨ret_bool hq.out.symm, (Below.refl _ _).alloc (Nat.le_refl _) _⟩

theorem all_step {α : Type} (p : α → Bool) (xs : List α) (k : Nat) (h : k < xs.length) (hp : (xs.take k).all p = true) (hx : p xs[k] = true) : (xs.take (k + 1)).all p = true := by
  rw [List.take_succ_eq_append_getElem h, List.all_append, hp]
  simpa using hx
theorem all_stop {α : Type} (p : α → Bool) (xs : List α) (k : Nat) (h : k < xs.length) (hx : p xs[k] = false) : xs.all p = false := by
  rw [List.all_eq_false]
  exact ⟨xs[k], List.getElem_mem h, by rw [hx]; decide⟩

set_option maxHeartbeats 400000 in
theorem ints_any (w : World) (a : Option Addr) (c : Nat) (xs : List Int) (hr : IntRow w a xs) (hn : xs.length ≤ maxLen) :
    Calls Try.prog 19 #[.slice a xs.length c] w fun e w' => e = .returned (.bool (xs.all intB)) ∧ w = w' := by
  unfold maxLen at hn
  go_enter Try.func19, Try.ntmps19
  go_wp2
  go_loop [3] (fun i => ∃ k : Nat, k ≤ xs.length ∧ i = .int .i64 k ∧ (xs.take k).all intB = true) (fun i => xs.length - (intOf i).toNat)
  case atStart => exact ⟨0, Nat.zero_le _, rfl, rfl⟩
  case round =>
    obtain ⟨k, hk, rfl, hall⟩ := hrel
    have HA := Lib.hid hall
    clear hall
    by_cases hlt : k < xs.length
    · rcases hr with h | ⟨b, o, rfl, hb, hcell⟩
      · rw [h] at hlt; exact absurd hlt (by simp)
      · have hc := hcell k hlt
        have HS := Lib.hid (all_step intB xs k hlt HA.out)
        have HE := Lib.hid (all_stop intB xs k hlt)
        clear hcell
        generalize hX : xs[k] = X at *
        have HX := Lib.hid hX
        clear hX
        cases hB : intB X
        · have hi := fun w => int_any X w
          rw [hB] at hi
          have HB := Lib.hid hB
          clear hB
          go_wp2_with (go_at_call 28; refine (hi _).mono ?_; rintro e w1 ⟨rfl, rfl⟩)
          go_ret
          exact ⟨ret_bool (HE.out HB.out).symm, rfl⟩
        · have hi := fun w => int_any X w
          rw [hB] at hi
          have HB := Lib.hid hB
          clear hB
          go_wp2_with (go_at_call 28; refine (hi _).mono ?_; rintro e w1 ⟨rfl, rfl⟩)
          go_round
          case rel => exact ⟨k + 1, by omega, by go_num, HS.out HB.out⟩
          case measure => simp [intOf]; omega
    · have hkk : k = xs.length := by omega
      subst hkk
      go_wp2
      go_ret
      exact ⟨ret_bool (by have h := HA.out; rw [List.take_length] at h; exact h.symm), rfl⟩

set_option maxHeartbeats 400000 in
theorem values_any (w : World) (a : Option Addr) (c : Nat) (xs : List (Int × Int)) (hr : ValRow w a xs) (hn : xs.length ≤ maxLen) :
    Calls Try.prog 20 #[.slice a xs.length c] w fun e w' => e = .returned (.bool (xs.all fun x => valB x.1 x.2)) ∧ Below w.heap.size w w' := by
  unfold maxLen at hn
  go_enter Try.func20, Try.ntmps20
  go_wp2
  go_loopw [3] (fun i wr => ∃ k : Nat, k ≤ xs.length ∧ i = .int .i64 k ∧ (xs.take k).all (fun x => valB x.1 x.2) = true ∧ Below w.heap.size w wr) (fun i _ => xs.length - (intOf i).toNat)
  case atStart => exact ⟨0, Nat.zero_le _, rfl, rfl, Below.refl _ _⟩
  case round =>
    obtain ⟨k, hk, rfl, hall, hBw⟩ := hrel
    have HA := Lib.hid hall
    clear hall
    by_cases hlt : k < xs.length
    · rcases hr with h | ⟨b, o, rfl, hb, hcell⟩
      · rw [h] at hlt; exact absurd hlt (by simp)
      · have hx0 : wr.cell? ⟨b, o + k * 2, none⟩ = some (.int .i64 xs[k].1) := (hBw.cell (p := ⟨b, o + k * 2, none⟩) hb).trans (hcell k hlt).1
        have hx1 : wr.cell? ⟨b, o + k * 2 + 1, none⟩ = some (.int .i64 xs[k].2) := (hBw.cell (p := ⟨b, o + k * 2 + 1, none⟩) hb).trans (hcell k hlt).2
        have HS := Lib.hid (all_step (fun x => valB x.1 x.2) xs k hlt HA.out)
        have HE := Lib.hid (all_stop (fun x => valB x.1 x.2) xs k hlt)
        clear hcell
        generalize hX : xs[k] = X at *
        have HX := Lib.hid hX
        clear hX
        obtain ⟨X0, X1⟩ := X
        simp only at hx0 hx1
        cases hB : valB X0 X1
        · have hi := fun w => value_any X0 X1 w
          rw [hB] at hi
          have HB := Lib.hid hB
          clear hB
          go_wp2_with (go_at_call 11; refine (hi _).mono ?_; rintro e w1 ⟨rfl, hb1⟩)
          go_ret
          exact ⟨ret_bool (HE.out HB.out).symm, hBw.trans (hb1.mono hBw.size)⟩
        · have hi := fun w => value_any X0 X1 w
          rw [hB] at hi
          have HB := Lib.hid hB
          clear hB
          go_wp2_with (go_at_call 11; refine (hi _).mono ?_; rintro e w1 ⟨rfl, hb1⟩)
          go_roundw
          case rel => exact ⟨k + 1, by omega, by go_num, HS.out HB.out, hBw.trans (hb1.mono hBw.size)⟩
          case measure => simp [intOf]; omega
    · have hkk : k = xs.length := by omega
      subst hkk
      go_wp2
      go_ret
      exact ⟨ret_bool (by have h := HA.out; rw [List.take_length] at h; exact h.symm), hBw⟩
end Go.Proofs.Ytdnkkeabimjbaaa
