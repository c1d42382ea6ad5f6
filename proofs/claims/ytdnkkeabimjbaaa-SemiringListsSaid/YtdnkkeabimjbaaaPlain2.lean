/- Plain laws of the values: the axioms of a semiring for Lexicographic, and those of Counting's product. -/
import Derived.Test.YtdnkkeabimjbaaaFoldV
namespace Go.Proofs.Ytdnkkeabimjbaaa

/-- an element of Lexicographic -/
def vel (p : Int × Int) : Prop := (p.1 = 1099511627776 ∧ p.2 = 0) ∨ (0 ≤ p.1 ∧ p.1 < 1099511627776 ∧ 0 ≤ p.2 ∧ p.2 ≤ 1099511627776)
theorem vel_ok {p : Int × Int} (h : vel p) : vok p := by unfold vel at h; unfold vok; omega
theorem vadd_if (p q : Int × Int) : vadd p q = if q.1 < p.1 ∨ (q.1 = p.1 ∧ q.2 < p.2) then q else p := by
  split
  · rename_i h; obtain ⟨e1, e2⟩ := vadd_lt h; simp only [vadd]; rw [e1, e2]
  · rename_i h; obtain ⟨e1, e2⟩ := vadd_ge h; simp only [vadd]; rw [e1, e2]
theorem vmul_if (p q : Int × Int) : vmul p q = if 1099511627776 ≤ p.1 + q.1 then (1099511627776, 0) else (p.1 + q.1, min (p.2 + q.2) 1099511627776) := by
  split
  · rename_i h; obtain ⟨e1, e2⟩ := vmul_ge (sa := p.2) (sb := q.2) h; simp only [vmul]; rw [e1, e2]
  · rename_i h; obtain ⟨e1, e2⟩ := vmul_lt (sa := p.2) (sb := q.2) (show p.1 + q.1 < 1099511627776 by omega); simp only [vmul]; rw [e1, e2, tmul_min]
theorem vel_add {p q : Int × Int} (hp : vel p) (hq : vel q) : vel (vadd p q) := by
  rw [vadd_if]; split <;> assumption
theorem vel_mul {p q : Int × Int} (hp : vel p) (hq : vel q) : vel (vmul p q) := by
  rw [vmul_if]; unfold vel at *
  split
  · exact Or.inl ⟨rfl, rfl⟩
  · right; simp only; omega
theorem vadd_assoc (p q r : Int × Int) : vadd p (vadd q r) = vadd (vadd p q) r := by
  obtain ⟨a, b⟩ := p; obtain ⟨c, d⟩ := q; obtain ⟨e, f⟩ := r
  by_cases h1 : c < a ∨ (c = a ∧ d < b) <;> by_cases h2 : e < c ∨ (e = c ∧ f < d) <;> by_cases h3 : e < a ∨ (e = a ∧ f < b) <;> simp only [vadd_if, h1, h2, h3, if_true, if_false] <;> simp only [Prod.mk.injEq] <;> omega
theorem vadd_comm (p q : Int × Int) : vadd p q = vadd q p := by
  obtain ⟨a, b⟩ := p; obtain ⟨c, d⟩ := q
  by_cases h1 : c < a ∨ (c = a ∧ d < b) <;> by_cases h2 : a < c ∨ (a = c ∧ b < d) <;> simp only [vadd_if, h1, h2, if_true, if_false] <;> simp only [Prod.mk.injEq] <;> omega
theorem vadd_self (p : Int × Int) : vadd p p = p := by rw [vadd_if]; split <;> rfl
theorem vadd_zero {p : Int × Int} (hp : vel p) : vadd p (1099511627776, 0) = p := by
  rw [vadd_if, if_neg]; unfold vel at hp; simp only; omega
theorem vmul_assoc {p q r : Int × Int} (hp : vel p) (hq : vel q) (hr : vel r) : vmul p (vmul q r) = vmul (vmul p q) r := by
  obtain ⟨a, b⟩ := p; obtain ⟨c, d⟩ := q; obtain ⟨e, f⟩ := r
  unfold vel at hp hq hr
  simp only at hp hq hr
  by_cases h1 : 1099511627776 ≤ a + c <;> by_cases h2 : 1099511627776 ≤ c + e
  · rw [vmul_if (c, d) (e, f), if_pos h2, vmul_if (a, b) (c, d), if_pos h1, vmul_if, vmul_if, if_pos (by simp only; omega), if_pos (by simp only; omega)]
  · rw [vmul_if (c, d) (e, f), if_neg h2, vmul_if (a, b) (c, d), if_pos h1, vmul_if, vmul_if, if_pos (by simp only; omega), if_pos (by simp only; omega)]
  · rw [vmul_if (c, d) (e, f), if_pos h2, vmul_if (a, b) (c, d), if_neg h1, vmul_if, vmul_if, if_pos (by simp only; omega), if_pos (by simp only; omega)]
  · rw [vmul_if (c, d) (e, f), if_neg h2, vmul_if (a, b) (c, d), if_neg h1, vmul_if, vmul_if]
    by_cases h3 : 1099511627776 ≤ a + c + e
    · rw [if_pos (by simp only; omega), if_pos (by simp only; omega)]
    · rw [if_neg (by simp only; omega), if_neg (by simp only; omega)]
      simp only [Prod.mk.injEq]; omega
theorem vmul_one {p : Int × Int} (hp : vel p) : vmul p (0, 0) = p := by
  obtain ⟨a, b⟩ := p
  unfold vel at hp; simp only at hp
  rw [vmul_if]; split
  · rename_i h; simp only at h; simp only [Prod.mk.injEq]; omega
  · rename_i h; simp only at h; simp only [Prod.mk.injEq]; omega
theorem one_vmul {p : Int × Int} (hp : vel p) : vmul (0, 0) p = p := by
  obtain ⟨a, b⟩ := p
  unfold vel at hp; simp only at hp
  rw [vmul_if]; split
  · rename_i h; simp only at h; simp only [Prod.mk.injEq]; omega
  · rename_i h; simp only at h; simp only [Prod.mk.injEq]; omega
theorem vmul_zero {p : Int × Int} (hp : vel p) : vmul p (1099511627776, 0) = (1099511627776, 0) := by
  rw [vmul_if, if_pos]; unfold vel at hp; simp only; omega
theorem vmul_vadd {p q r : Int × Int} (hp : vel p) (hq : vel q) (hr : vel r) : vmul p (vadd q r) = vadd (vmul p q) (vmul p r) := by
  obtain ⟨a, b⟩ := p; obtain ⟨c, d⟩ := q; obtain ⟨e, f⟩ := r
  unfold vel at hp hq hr
  simp only at hp hq hr
  rw [vadd_if (c, d) (e, f), vmul_if (a, b) (c, d), vmul_if (a, b) (e, f)]
  by_cases h1 : e < c ∨ (e = c ∧ f < d)
  · rw [if_pos h1, vmul_if (a, b) (e, f), vadd_if]
    by_cases h2 : 1099511627776 ≤ a + c <;> by_cases h3 : 1099511627776 ≤ a + e <;> simp only [h2, h3, if_true, if_false]
    · split <;> rfl
    · rw [if_pos (by omega)]
    · omega
    · split
      · rfl
      · simp only [Prod.mk.injEq]; omega
  · rw [if_neg h1, vmul_if (a, b) (c, d), vadd_if]
    by_cases h2 : 1099511627776 ≤ a + c <;> by_cases h3 : 1099511627776 ≤ a + e <;> simp only [h2, h3, if_true, if_false]
    · split <;> rfl
    · omega
    · rw [if_neg (by omega)]
    · split
      · simp only [Prod.mk.injEq]; omega
      · rfl

/-! Counting's product -/
theorem cmul_min (a b : Int) : cmul a b = min (a * b) 1099511627776 := by unfold cmul; split <;> omega
theorem cmul_comm (a b : Int) : cmul a b = cmul b a := by rw [cmul_min, cmul_min, Int.mul_comm]
theorem cmul_zero (a : Int) : cmul a 0 = 0 := by rw [cmul_min, Int.mul_zero]; omega
theorem cmul_one {a : Int} (ha : 0 ≤ a ∧ a ≤ 1099511627776) : cmul a 1 = a := by rw [cmul_min, Int.mul_one]; omega
theorem one_cmul {a : Int} (ha : 0 ≤ a ∧ a ≤ 1099511627776) : cmul 1 a = a := by rw [cmul_min, Int.one_mul]; omega
/-- a product of a saturated factor -/
theorem min_mul_sat {a x : Int} (ha : 0 ≤ a) (hx : 0 ≤ x) : min (a * min x 1099511627776) 1099511627776 = min (a * x) 1099511627776 := by
  by_cases h : x ≤ 1099511627776
  · rw [show min x 1099511627776 = x by omega]
  · rw [show min x 1099511627776 = 1099511627776 by omega]
    by_cases h0 : a = 0
    · subst h0; simp
    · have h1 : 1 * 1099511627776 ≤ a * 1099511627776 := Int.mul_le_mul_of_nonneg_right (by omega) (by omega)
      have h2 : a * 1099511627776 ≤ a * x := Int.mul_le_mul_of_nonneg_left (by omega) ha
      omega
theorem cmul_assoc {a b c : Int} (ha : 0 ≤ a) (hb : 0 ≤ b) (hc : 0 ≤ c) : cmul a (cmul b c) = cmul (cmul a b) c := by
  rw [cmul_min b c, cmul_min a (min _ _), min_mul_sat ha (Int.mul_nonneg hb hc), cmul_comm (cmul a b) c, cmul_min a b, cmul_min c, min_mul_sat hc (Int.mul_nonneg ha hb)]
  rw [Int.mul_comm c (a * b), Int.mul_assoc]
theorem cmul_tmul {a b c : Int} (ha : 0 ≤ a) (hb : 0 ≤ b) (hc : 0 ≤ c) : cmul a (tmul b c) = tmul (cmul a b) (cmul a c) := by
  rw [tmul_min b c, cmul_min, min_mul_sat ha (by omega), tmul_min, cmul_min, cmul_min, Int.mul_add]
  have h1 : 0 ≤ a * b := Int.mul_nonneg ha hb
  have h2 : 0 ≤ a * c := Int.mul_nonneg ha hc
  omega
end Go.Proofs.Ytdnkkeabimjbaaa
