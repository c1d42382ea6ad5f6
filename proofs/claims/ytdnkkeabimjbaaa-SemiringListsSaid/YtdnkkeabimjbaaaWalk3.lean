/- Contracts of Counting's product and of the reference's. -/
import Derived.Test.YtdnkkeabimjbaaaWalk2
import Derived.Test.YtdnkkeabimjbaaaShelf
import Derived.Lib.Hide
namespace Go.Proofs.Ytdnkkeabimjbaaa
open Go.RowKit

theorem mul_small {a b : Nat} (ha : a ≤ 1099511627776) (hb : b ≤ 1099511627776) : a * b ≤ 1208925819614629174706176 :=
  Nat.le_trans (Nat.mul_le_mul ha hb) (by decide)
theorem cmul_big {a b : Int} (h : 1099511627776 ≤ a * b) : cmul a b = 1099511627776 := by unfold cmul; split <;> omega
theorem cmul_low {a b : Int} (h : a * b ≤ 1099511627776) : cmul a b = a * b := by unfold cmul; split <;> omega

set_option maxHeartbeats 400000 in
theorem cmul_any (a b : Int) (w : World) (ha : 0 ≤ a) (hb : 0 ≤ b) (ha' : a ≤ 1099511627776) (hb' : b ≤ 1099511627776) :
    Calls Try.prog 35 #[.agg #[], .int .i64 a, .int .i64 b] w fun e w' => e = .returned (.int .i64 (cmul a b)) ∧ Below w.heap.size w w' := by
  obtain ⟨x, rfl⟩ := Int.eq_ofNat_of_zero_le ha
  obtain ⟨y, rfl⟩ := Int.eq_ofNat_of_zero_le hb
  have hxy : x * y ≤ 1208925819614629174706176 := mul_small (by omega) (by omega)
  have hcast : (x : Int) * (y : Int) = ((x * y : Nat) : Int) := (Int.natCast_mul x y).symm
  have hcm := fun w => Try.bits_Mul64 x y (by omega) (by omega) w
  have hwx : IntKind.u64.wrap (x : Int) = (x : Int) := by rw [IntKind.wrap_u64]; omega
  have hwy : IntKind.u64.wrap (y : Int) = (y : Int) := by rw [IntKind.wrap_u64]; omega
  generalize hp : x * y = p at *
  have Hc := Lib.hid hcast
  clear hcast hp
  by_cases h1 : 1099511627776 ≤ p
  · have hq : cmul (x : Int) (y : Int) = 1099511627776 := cmul_big (by rw [Hc.out]; omega)
    rw [hq]
    have hs := h1
    clear hq
    by_cases h2 : 18446744073709551616 ≤ p
    · have hi : 0 < ((p / 18446744073709551616 : Nat) : Int) := by omega
      generalize ((p / 18446744073709551616 : Nat) : Int) = u at *
      generalize ((p % 18446744073709551616 : Nat) : Int) = v at *
      clear hxy h1 h2 hs
      go_enter Try.func35, Try.ntmps35
      go_wp2_with (go_at_call 52; refine (hcm _).mono ?_; rintro e w1 ⟨rfl, rfl⟩)
      go_ret
      exact ⟨rfl, (Below.refl _ _).alloc (Nat.le_refl _) _⟩
    · have e1 : p / 18446744073709551616 = 0 := by omega
      have e2 : p % 18446744073709551616 = p := by omega
      rw [e1, e2, Int.natCast_zero] at hcm
      clear e1 e2 hxy hs h2
      have h3 : ¬ (p : Int) < 1099511627776 := by omega
      clear h1
      go_enter Try.func35, Try.ntmps35
      go_wp2_with (go_at_call 52; refine (hcm _).mono ?_; rintro e w1 ⟨rfl, rfl⟩)
      go_ret
      exact ⟨rfl, (Below.refl _ _).alloc (Nat.le_refl _) _⟩
  · have hq : cmul (x : Int) (y : Int) = (p : Int) := by rw [cmul_low (by rw [Hc.out]; omega), Hc.out]
    rw [hq]
    clear hq
    have e1 : p / 18446744073709551616 = 0 := by omega
    have e2 : p % 18446744073709551616 = p := by omega
    rw [e1, e2, Int.natCast_zero] at hcm
    clear e1 e2 hxy
    have h3 : (p : Int) < 1099511627776 := by omega
    have h4 : 0 ≤ (p : Int) := by omega
    clear h1 Hc
    generalize (p : Int) = q at *
    go_enter Try.func35, Try.ntmps35
    go_wp2_with fail
    refine (hcm _).mono ?_
    rintro e w1 ⟨rfl, rfl⟩
    go_wp2_with fail
    go_ret
    exact ⟨rfl, (Below.refl _ _).alloc (Nat.le_refl _) _⟩

theorem quo_big {a b : Int} (hb : 0 < b) (h : 1099511627776 / b < a) : 1099511627776 ≤ a * b := by
  have h1 := Int.lt_ediv_add_one_mul_self 1099511627776 hb
  have h2 : (1099511627776 / b + 1) * b ≤ a * b := Int.mul_le_mul_of_nonneg_right (by omega) (by omega)
  omega
theorem quo_low {a b : Int} (hb : 0 < b) (h : a ≤ 1099511627776 / b) : a * b ≤ 1099511627776 := by
  have h1 := Int.ediv_mul_le 1099511627776 (show b ≠ 0 by omega)
  have h2 : a * b ≤ 1099511627776 / b * b := Int.mul_le_mul_of_nonneg_right h (by omega)
  omega

set_option maxHeartbeats 400000 in
theorem rcmul_any (a b : Int) (w : World) (ha : 0 ≤ a) (hb : 0 ≤ b) (ha' : a ≤ 1099511627776) (hb' : b ≤ 1099511627776) :
    Calls Try.prog 23 #[.int .i64 a, .int .i64 b] w fun e w' => e = .returned (.int .i64 (cmul a b)) ∧ w = w' := by
  by_cases h0 : a = 0
  · subst h0
    go_enter Try.func23, Try.ntmps23
    go_wp2
    go_ret
    exact ⟨ret_int (by simp [cmul]), rfl⟩
  · have e0 : (a == 0) = false := by simpa using h0
    by_cases h1 : b = 0
    · subst h1
      go_enter Try.func23, Try.ntmps23
      go_wp2
      go_ret
      exact ⟨ret_int (by simp [cmul]), rfl⟩
    · have e1 : (b == 0) = false := by simpa using h1
      have hb1 : 1 ≤ b := by omega
      by_cases h2 : 1099511627776 / b < a
      · have hq := Lib.hid (cmul_big (quo_big (by omega) h2))
        clear h0 h1
        go_enter Try.func23, Try.ntmps23
        go_wp2
        go_ret
        exact ⟨ret_int hq.out.symm, rfl⟩
      · have h3 : a * b ≤ 1099511627776 := quo_low (by omega) (by omega)
        have h4 : 0 ≤ a * b := Int.mul_nonneg ha hb
        have hq := Lib.hid (cmul_low h3)
        clear h0 h1
        go_enter Try.func23, Try.ntmps23
        go_wp2
        go_ret
        exact ⟨ret_int hq.out.symm, rfl⟩
end Go.Proofs.Ytdnkkeabimjbaaa
