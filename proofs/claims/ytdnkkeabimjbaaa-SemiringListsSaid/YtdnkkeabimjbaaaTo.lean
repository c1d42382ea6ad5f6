/- The contracts of the operations with their results named: 'the sum of these is r'. Printed by gen26ax.py. -/
import Derived.Test.YtdnkkeabimjbaaaGuard
import Derived.Test.YtdnkkeabimjbaaaPlain2
namespace Go.Proofs.Ytdnkkeabimjbaaa
open Go.RowKit

theorem tadd_to {a b r : Int} (h : tadd a b = r) (w : World) : Calls Try.prog 29 #[.agg #[], .int .i64 a, .int .i64 b] w fun e w' => e = .returned (.int .i64 r) ∧ Below w.heap.size w w' := by
  subst h; exact tadd_any a b w
theorem tmul_to {a b r : Int} (h : tmul a b = r) (w : World) (ha : 0 ≤ a ∧ a ≤ 1099511627776) (hb : 0 ≤ b ∧ b ≤ 1099511627776) : Calls Try.prog 31 #[.agg #[], .int .i64 a, .int .i64 b] w fun e w' => e = .returned (.int .i64 r) ∧ Below w.heap.size w w' := by
  subst h; exact tmul_any a b w ha.1 hb.1 ha.2 hb.2
theorem cadd_to {a b r : Int} (h : tmul a b = r) (w : World) (ha : 0 ≤ a ∧ a ≤ 1099511627776) (hb : 0 ≤ b ∧ b ≤ 1099511627776) : Calls Try.prog 33 #[.agg #[], .int .i64 a, .int .i64 b] w fun e w' => e = .returned (.int .i64 r) ∧ Below w.heap.size w w' := by
  subst h; exact cadd_any a b w ha.1 hb.1 ha.2 hb.2
theorem cmul_to {a b r : Int} (h : cmul a b = r) (w : World) (ha : 0 ≤ a ∧ a ≤ 1099511627776) (hb : 0 ≤ b ∧ b ≤ 1099511627776) : Calls Try.prog 35 #[.agg #[], .int .i64 a, .int .i64 b] w fun e w' => e = .returned (.int .i64 r) ∧ Below w.heap.size w w' := by
  subst h; exact cmul_any a b w ha.1 hb.1 ha.2 hb.2
theorem vadd_to {a0 a1 b0 b1 r0 r1 : Int} (h : vadd (a0, a1) (b0, b1) = (r0, r1)) (w : World) : Calls Try.prog 13 #[.agg #[], .agg #[.int .i64 a0, .int .i64 a1], .agg #[.int .i64 b0, .int .i64 b1]] w fun e w' => e = .returned (.agg #[.int .i64 r0, .int .i64 r1]) ∧ Below w.heap.size w w' := by
  simp only [vadd, Prod.mk.injEq] at h
  obtain ⟨rfl, rfl⟩ := h
  exact vadd_any a0 a1 b0 b1 w
theorem vmul_to {a0 a1 b0 b1 r0 r1 : Int} (h : vmul (a0, a1) (b0, b1) = (r0, r1)) (w : World) (ha : vel (a0, a1)) (hb : vel (b0, b1)) : Calls Try.prog 15 #[.agg #[], .agg #[.int .i64 a0, .int .i64 a1], .agg #[.int .i64 b0, .int .i64 b1]] w fun e w' => e = .returned (.agg #[.int .i64 r0, .int .i64 r1]) ∧ Below w.heap.size w w' := by
  simp only [vmul, Prod.mk.injEq] at h
  obtain ⟨rfl, rfl⟩ := h
  obtain ⟨h1, h2, h3, h4⟩ := vel_ok ha
  obtain ⟨h5, h6, h7, h8⟩ := vel_ok hb
  exact vmul_any a0 a1 b0 b1 w h1 h2 h5 h6 h3 h4 h7 h8
theorem valB_vel {c t : Int} (h : valB c t = true) : vel (c, t) := by rw [valB_iff] at h; exact h
/-- a pair by its parts -/
theorem pair_ex (p : Int × Int) : ∃ x y, p = (x, y) := ⟨p.1, p.2, rfl⟩
end Go.Proofs.Ytdnkkeabimjbaaa
