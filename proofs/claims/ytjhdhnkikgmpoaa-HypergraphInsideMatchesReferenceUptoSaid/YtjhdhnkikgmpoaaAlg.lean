/- The three structures' methods: contracts. Printed by gen27alg.py. -/
import Derived.Test.YtjhdhnkikgmpoaaDer
namespace Go.Proofs.Ytjhdhnkikgmpoaa
open Go.RowKit Go.Deep

def nAdd (a b : Int) : Int := (a + b) % 65536
def nMul (a b : Int) : Int := a * b % 65536
def NB (a : Int) : Prop := 0 ≤ a ∧ a ≤ 65535
theorem nAdd_b {a b : Int} : NB (nAdd a b) := by unfold NB nAdd; omega
theorem nMul_b {a b : Int} : NB (nMul a b) := by unfold NB nMul; omega
theorem nzero_any (w : World) : Calls Try.prog 57 #[.agg #[]] w fun e w' => e = .returned (.int .i64 0) ∧ Below w.heap.size w w' := by
  go_enter Try.func57, Try.ntmps57
  go_wp2
  go_ret
  exact ⟨rfl, (Below.refl _ _).alloc (Nat.le_refl _) _⟩
theorem nadd_any (w : World) (a b : Int) (ha : NB a) (hb : NB b) : Calls Try.prog 54 #[.agg #[], .int .i64 a, .int .i64 b] w fun e w' => e = .returned (.int .i64 (nAdd a b)) ∧ Below w.heap.size w w' := by
  obtain ⟨a1, a2⟩ := ha
  obtain ⟨b1, b2⟩ := hb
  go_enter Try.func54, Try.ntmps54
  go_wp2
  go_ret
  exact ⟨rfl, (Below.refl _ _).alloc (Nat.le_refl _) _⟩
theorem nmul_any (w : World) (a b : Int) (ha : NB a) (hb : NB b) : Calls Try.prog 55 #[.agg #[], .int .i64 a, .int .i64 b] w fun e w' => e = .returned (.int .i64 (nMul a b)) ∧ Below w.heap.size w w' := by
  obtain ⟨a1, a2⟩ := ha
  obtain ⟨b1, b2⟩ := hb
  have m1 : 0 ≤ a * b := Int.mul_nonneg a1 b1
  have m2 : a * b ≤ 65535 * 65535 := Int.mul_le_mul a2 b2 b1 (by decide)
  have hw : wrap64 (a * b) = a * b := by unfold wrap64; omega
  have ht : (a * b).tmod 65536 = a * b % 65536 := Int.tmod_eq_emod_of_nonneg m1
  go_enter Try.func55, Try.ntmps55
  go_wp2
  go_ret
  exact ⟨rfl, (Below.refl _ _).alloc (Nat.le_refl _) _⟩
theorem bzero_any (w : World) : Calls Try.prog 53 #[.agg #[]] w fun e w' => e = .returned (.bool false) ∧ Below w.heap.size w w' := by
  go_enter Try.func53, Try.ntmps53
  go_wp2
  go_ret
  exact ⟨rfl, (Below.refl _ _).alloc (Nat.le_refl _) _⟩
theorem badd_any (w : World) (a b : Bool) : Calls Try.prog 50 #[.agg #[], .bool a, .bool b] w fun e w' => e = .returned (.bool (a || b)) ∧ Below w.heap.size w w' := by
  go_enter Try.func50, Try.ntmps50
  cases a
  · go_wp2
    go_ret
    exact ⟨rfl, (Below.refl _ _).alloc (Nat.le_refl _) _⟩
  · go_wp2
    go_ret
    exact ⟨rfl, (Below.refl _ _).alloc (Nat.le_refl _) _⟩
theorem bmul_any (w : World) (a b : Bool) : Calls Try.prog 51 #[.agg #[], .bool a, .bool b] w fun e w' => e = .returned (.bool (a && b)) ∧ Below w.heap.size w w' := by
  go_enter Try.func51, Try.ntmps51
  cases a
  · go_wp2
    go_ret
    exact ⟨rfl, (Below.refl _ _).alloc (Nat.le_refl _) _⟩
  · go_wp2
    go_ret
    exact ⟨rfl, (Below.refl _ _).alloc (Nat.le_refl _) _⟩
theorem wzero_any (w : World) : Calls Try.prog 61 #[.agg #[]] w fun e w' => e = .returned (.string { data := #[] }) ∧ Below w.heap.size w w' := by
  go_enter Try.func61, Try.ntmps61
  go_wp2
  go_ret
  exact ⟨rfl, (Below.refl _ _).alloc (Nat.le_refl _) _⟩
def cutB (s : ByteArray) : ByteArray := if s.size ≤ 200 then s else s.extract 0 100 ++ s.extract (s.size - 100) s.size
def SB (s : ByteArray) : Prop := s.size ≤ 200
theorem sb0 : SB { data := #[] } := by unfold SB; decide
theorem cutB_b (s : ByteArray) : SB (cutB s) := by
  unfold SB cutB
  split
  · assumption
  · simp
    omega
theorem cut_any (w : World) (s : ByteArray) (hs : s.size ≤ 1048576) : Calls Try.prog 34 #[.string s] w fun e w' => e = .returned (.string (cutB s)) ∧ Below w.heap.size w w' := by
  go_enter Try.func34, Try.ntmps34
  by_cases h : s.size ≤ 200
  · go_wp2
    go_ret
    exact ⟨by unfold cutB; rw [if_pos h]; rfl, Below.refl _ _⟩
  · go_wp2
    go_region
    go_wp2
    go_ret
    exact ⟨by unfold cutB; rw [if_neg h]; rfl, (Below.refl _ _).drew⟩
def wAdd (a b : ByteArray) : ByteArray := cutB (a ++ { data := #[43] } ++ b)
def wMul (a b : ByteArray) : ByteArray := cutB (a ++ { data := #[46] } ++ b)
theorem wadd_any (w : World) (a b : ByteArray) (ha : SB a) (hb : SB b) : Calls Try.prog 58 #[.agg #[], .string a, .string b] w fun e w' => e = .returned (.string (wAdd a b)) ∧ Below w.heap.size w w' := by
  unfold SB at ha hb
  have hcut := fun w' => cut_any w' (a ++ { data := #[43] } ++ b) (by rw [ByteArray.size_append, ByteArray.size_append]; show a.size + 1 + b.size ≤ 1048576; omega)
  go_enter Try.func58, Try.ntmps58
  go_wp2_with (go_at_call 34; refine (hcut _).mono ?_; rintro e w1 ⟨rfl, hb1⟩)
  go_ret
  exact ⟨rfl, ((Below.refl _ _).alloc (Nat.le_refl _) _).trans (hb1.mono (by simp))⟩
theorem wmul_any (w : World) (a b : ByteArray) (ha : SB a) (hb : SB b) : Calls Try.prog 59 #[.agg #[], .string a, .string b] w fun e w' => e = .returned (.string (wMul a b)) ∧ Below w.heap.size w w' := by
  unfold SB at ha hb
  have hcut := fun w' => cut_any w' (a ++ { data := #[46] } ++ b) (by rw [ByteArray.size_append, ByteArray.size_append]; show a.size + 1 + b.size ≤ 1048576; omega)
  go_enter Try.func59, Try.ntmps59
  go_wp2_with (go_at_call 34; refine (hcut _).mono ?_; rintro e w1 ⟨rfl, hb1⟩)
  go_ret
  exact ⟨rfl, ((Below.refl _ _).alloc (Nat.le_refl _) _).trans (hb1.mono (by simp))⟩
end Go.Proofs.Ytjhdhnkikgmpoaa
