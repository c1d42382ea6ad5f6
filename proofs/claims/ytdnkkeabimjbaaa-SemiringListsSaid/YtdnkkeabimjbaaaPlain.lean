/- Plain arithmetic of the semirings of layer 26: what the Go methods compute, as functions on integers. -/
import Init
namespace Go.Proofs.Ytdnkkeabimjbaaa

/-- minimum -/
def tadd (a b : Int) : Int := if b < a then b else a
/-- saturating sum -/
def tmul (a b : Int) : Int := if 1099511627776 < a + b then 1099511627776 else a + b
/-- saturating product -/
def cmul (a b : Int) : Int := if 1099511627776 < a * b then 1099511627776 else a * b
/-- (cb, sb) is less than (ca, sa) -/
def vlt (cb sb ca sa : Int) : Bool := decide (cb < ca) || (cb == ca && decide (sb < sa))
def vaddC (ca sa cb sb : Int) : Int := if vlt cb sb ca sa then cb else ca
def vaddS (ca sa cb sb : Int) : Int := if vlt cb sb ca sa then sb else sa
def vmulC (ca cb : Int) : Int := if 1099511627776 ≤ ca + cb then 1099511627776 else ca + cb
def vmulS (ca sa cb sb : Int) : Int := if 1099511627776 ≤ ca + cb then 0 else tmul sa sb
/-- an element of Tropical and Counting -/
def intB (a : Int) : Bool := decide (0 ≤ a) && decide (a ≤ 1099511627776)
/-- an element of Lexicographic -/
def valB (c s : Int) : Bool := (c == 1099511627776 && s == 0) || (decide (0 ≤ c) && decide (c < 1099511627776) && intB s)

theorem intB_iff {a : Int} : intB a = true ↔ 0 ≤ a ∧ a ≤ 1099511627776 := by simp [intB]
theorem valB_iff {c s : Int} : valB c s = true ↔ (c = 1099511627776 ∧ s = 0) ∨ (0 ≤ c ∧ c < 1099511627776 ∧ 0 ≤ s ∧ s ≤ 1099511627776) := by
  simp [valB, intB, and_assoc]
theorem vlt_iff {cb sb ca sa : Int} : vlt cb sb ca sa = true ↔ cb < ca ∨ (cb = ca ∧ sb < sa) := by simp [vlt]
theorem vlt_no {cb sb ca sa : Int} : vlt cb sb ca sa = false ↔ ¬ (cb < ca ∨ (cb = ca ∧ sb < sa)) := by rw [← vlt_iff]; simp
theorem vadd_lt {ca sa cb sb : Int} (h : cb < ca ∨ (cb = ca ∧ sb < sa)) : vaddC ca sa cb sb = cb ∧ vaddS ca sa cb sb = sb := by
  unfold vaddC vaddS; rw [vlt_iff.2 h]; exact ⟨rfl, rfl⟩
theorem vadd_ge {ca sa cb sb : Int} (h : ¬ (cb < ca ∨ (cb = ca ∧ sb < sa))) : vaddC ca sa cb sb = ca ∧ vaddS ca sa cb sb = sa := by
  unfold vaddC vaddS; rw [vlt_no.2 h]; exact ⟨rfl, rfl⟩
theorem vmul_ge {ca sa cb sb : Int} (h : 1099511627776 ≤ ca + cb) : vmulC ca cb = 1099511627776 ∧ vmulS ca sa cb sb = 0 := by
  unfold vmulC vmulS; rw [if_pos h, if_pos h]; exact ⟨rfl, rfl⟩
theorem vmul_lt {ca sa cb sb : Int} (h : ca + cb < 1099511627776) : vmulC ca cb = ca + cb ∧ vmulS ca sa cb sb = tmul sa sb := by
  unfold vmulC vmulS; rw [if_neg (by omega), if_neg (by omega)]; exact ⟨rfl, rfl⟩
theorem valB_bd {c s : Int} (h : valB c s = true) : 0 ≤ c ∧ c ≤ 1099511627776 ∧ 0 ≤ s ∧ s ≤ 1099511627776 := by
  rw [valB_iff] at h; omega

theorem tadd_bd {a b : Int} (ha : 0 ≤ a ∧ a ≤ 1099511627776) (hb : 0 ≤ b ∧ b ≤ 1099511627776) : 0 ≤ tadd a b ∧ tadd a b ≤ 1099511627776 := by
  unfold tadd; split <;> omega
theorem tmul_bd {a b : Int} (ha : 0 ≤ a ∧ a ≤ 1099511627776) (hb : 0 ≤ b ∧ b ≤ 1099511627776) : 0 ≤ tmul a b ∧ tmul a b ≤ 1099511627776 := by
  unfold tmul; split <;> omega
theorem cmul_bd {a b : Int} (ha : 0 ≤ a ∧ a ≤ 1099511627776) (hb : 0 ≤ b ∧ b ≤ 1099511627776) : 0 ≤ cmul a b ∧ cmul a b ≤ 1099511627776 := by
  have h : 0 ≤ a * b := Int.mul_nonneg ha.1 hb.1
  unfold cmul; split <;> omega

theorem tadd_min (a b : Int) : tadd a b = min a b := by unfold tadd; split <;> omega
theorem tmul_min (a b : Int) : tmul a b = min (a + b) 1099511627776 := by unfold tmul; split <;> omega
theorem tadd_assoc (a b c : Int) : tadd a (tadd b c) = tadd (tadd a b) c := by simp only [tadd_min]; omega
theorem tadd_comm (a b : Int) : tadd a b = tadd b a := by unfold tadd; split <;> split <;> omega
theorem tadd_self (a : Int) : tadd a a = a := by unfold tadd; split <;> omega
theorem tadd_inf {a : Int} (ha : 0 ≤ a ∧ a ≤ 1099511627776) : tadd a 1099511627776 = a := by unfold tadd; split <;> omega
theorem tmul_assoc {a b c : Int} (ha : 0 ≤ a ∧ a ≤ 1099511627776) (hc : 0 ≤ c ∧ c ≤ 1099511627776) : tmul a (tmul b c) = tmul (tmul a b) c := by
  simp only [tmul_min]; omega
theorem tmul_comm (a b : Int) : tmul a b = tmul b a := by unfold tmul; split <;> split <;> omega
theorem tmul_zero {a : Int} (ha : 0 ≤ a ∧ a ≤ 1099511627776) : tmul a 0 = a := by unfold tmul; split <;> omega
theorem tmul_inf {a : Int} (ha : 0 ≤ a ∧ a ≤ 1099511627776) : tmul a 1099511627776 = 1099511627776 := by unfold tmul; split <;> omega
theorem tmul_tadd (a b c : Int) :
    tmul a (tadd b c) = tadd (tmul a b) (tmul a c) := by
  simp only [tmul_min, tadd_min]; omega
end Go.Proofs.Ytdnkkeabimjbaaa
