/- The document's example: contract. Printed by gen27ex.py. -/
import Derived.Test.YtjhdhnkikgmpoaaRefS
import Derived.Test.YtjhdhnkikgmpoaaRefI
import Derived.Test.YtjhdhnkikgmpoaaInsI
import Derived.Test.YtjhdhnkikgmpoaaInsB
import Derived.Test.YtjhdhnkikgmpoaaInsS
namespace Go.Proofs.Ytjhdhnkikgmpoaa
open Go.RowKit Go.Deep

/-- the example's edges, its tails in the blocks behind s -/
def exE (s : Nat) : List Ed := [⟨1, [], 0, 0, 0, none, 0⟩, ⟨2, [1], 0, 0, 0, some ⟨s + 1, 0, none⟩, 1⟩, ⟨2, [1, 1], 0, 0, 0, some ⟨s + 1 + 1, 0, none⟩, 2⟩, ⟨0, [2, 1], 0, 0, 0, some ⟨s + 1 + 1 + 1, 0, none⟩, 2⟩]
def exA (s : Nat) : Option Addr := some ⟨s + 1 + 1 + 1 + 1, 0, none⟩
set_option maxHeartbeats 4000000 in
theorem example_any (w : World) : Calls Try.prog 28 #[] w fun e w' => e = .returned (.agg #[.int .i64 3, .slice (exA w.heap.size) 4 4]) ∧ EdRow w' (exA w.heap.size) (exE w.heap.size) ∧ Below w.heap.size w w' := by
  go_enter Try.func28, Try.ntmps28
  go_wp2
  refine bodyPost_ret (v := .agg #[.int .i64 3, .slice (some ⟨w.heap.size + 1 + 1 + 1 + 1, 0, none⟩) 4 4]) ?_ rfl ⟨rfl, ?_, ?_⟩
  · simp [results, go_sem]
  · refine Or.inr ⟨w.heap.size + 1 + 1 + 1 + 1, 0, rfl, by simp, fun i hi => ?_⟩
    have h4 : i < 4 := hi
    match i, h4 with
    | 0, _ => exact ⟨by simp [go_sem, exE], by simp [go_sem, exE], by simp [go_sem, exE], by simp [go_sem, exE], by simp [go_sem, exE], VRow.nil _ _, by simp [exE, maxLen]⟩
    | 1, _ =>
      refine ⟨by simp [go_sem, exE], by simp [go_sem, exE], by simp [go_sem, exE], by simp [go_sem, exE], by simp [go_sem, exE], Or.inr ⟨w.heap.size + 1, 0, rfl, by simp, fun j hj => ?_⟩, by simp [exE, maxLen]⟩
      have h1 : j < 1 := hj
      match j, h1 with
      | 0, _ => simp [go_sem, exE]
    | 2, _ =>
      refine ⟨by simp [go_sem, exE], by simp [go_sem, exE], by simp [go_sem, exE], by simp [go_sem, exE], by simp [go_sem, exE], Or.inr ⟨w.heap.size + 1 + 1, 0, rfl, by simp, fun j hj => ?_⟩, by simp [exE, maxLen]⟩
      have h1 : j < 2 := hj
      match j, h1 with
      | 0, _ => simp [go_sem, exE]
      | 1, _ => simp [go_sem, exE]
    | 3, _ =>
      refine ⟨by simp [go_sem, exE], by simp [go_sem, exE], by simp [go_sem, exE], by simp [go_sem, exE], by simp [go_sem, exE], Or.inr ⟨w.heap.size + 1 + 1 + 1, 0, rfl, by simp, fun j hj => ?_⟩, by simp [exE, maxLen]⟩
      have h1 : j < 2 := hj
      match j, h1 with
      | 0, _ => simp [go_sem, exE]
      | 1, _ => simp [go_sem, exE]
  · exact (((((Below.refl _ _).alloc (Nat.le_refl _) _).alloc (by simp) _).alloc (by simp; omega) _).alloc (by simp; omega) _).alloc (by simp; omega) _

theorem ex_valid (s : Nat) : validB 3 (exE s) = true := by rfl
theorem ex_ok (s : Nat) : Ok 3 (exE s) := by
  obtain ⟨m, hm, h⟩ := ok_of_valid (ex_valid s)
  have : m = 3 := by omega
  rw [this] at h
  exact h
theorem ex_ord (s : Nat) : ordL 3 (exE s) = some [1, 2, 0] := by rfl
theorem ex_ins (s : Nat) : insS nAdd nMul 0 0 3 (exE s) [1, 1, 1, 1] = (0, [2, 1, 2]) := by rfl
theorem ex_der (s : Nat) : derL 3 (exE s) = [true, true, true] := by
  have h1 : Der (exE s) 1 := Der.mk ((exE s)[0]'(by show 0 < 4; decide)) (List.getElem_mem _) (fun t ht => by cases ht)
  have h2 : Der (exE s) 2 := Der.mk ((exE s)[1]'(by show 1 < 4; decide)) (List.getElem_mem _) (fun t ht => by
    have : t ∈ [(1 : Int)] := ht
    rw [List.mem_singleton.1 this]; exact h1)
  have h0 : Der (exE s) 0 := Der.mk ((exE s)[3]'(by show 3 < 4; decide)) (List.getElem_mem _) (fun t ht => by
    have : t ∈ [(2 : Int), 1] := ht
    rcases List.mem_cons.1 this with rfl | h
    · exact h2
    · rw [List.mem_singleton.1 h]; exact h1)
  refine (derL_of (n := 3) rfl (fun v hv => ?_) (fun e he => ?_)).symm
  · match v, hv with
    | 0, _ => exact h0
    | 1, _ => exact h1
    | 2, _ => exact h2
  · intro _
    simp only [exE, List.mem_cons, List.not_mem_nil, or_false] at he
    rcases he with rfl | rfl | rfl | rfl <;> rfl
theorem ex_reach (s : Nat) : reachS 3 (exE s) 2 = [false, true, true] := by
  have hr : Rch (exE s) 2 2 := Rch.base
  have h1 : Rch (exE s) 2 1 := Rch.step ((exE s)[1]'(by show 1 < 4; decide)) 1 (List.getElem_mem _) hr (List.mem_singleton.2 rfl)
  unfold reachS
  rw [if_neg (by decide)]
  refine (reachL_of (n := 3) rfl (fun v hv => ?_) rfl (fun e he => ?_)).symm
  · match v, hv with
    | 1, _ => exact h1
    | 2, _ => exact hr
  · intro hh t ht
    simp only [exE, List.mem_cons, List.not_mem_nil, or_false] at he
    rcases he with rfl | rfl | rfl | rfl
    · cases ht
    · rw [List.mem_singleton.1 ht]; rfl
    · simp only [List.mem_cons, List.not_mem_nil, or_false, or_self] at ht
      rw [ht]; rfl
    · cases hh
theorem ex_occ (s : Nat) : (occ (exE s)).length ≤ 1073741824 := by show 5 ≤ 1073741824; decide
end Go.Proofs.Ytjhdhnkikgmpoaa
