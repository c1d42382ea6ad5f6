/- A region that draws its order, walked once in a given order: each operation either yields its value in every world that meets S and nothing else hinders it (free), or is the only one that may come up (forced: it may call, make memory or write). -/
import Derived.OrdersHeld
import Derived.Deep.RegionHeld3
import Derived.WalkKit
import Derived.Deep.QuietTactic
namespace Go.Proofs.Ytdnkkeabimjbaaa
open Go.RowKit

section
variable {P : Program} {ops : Array Oper} {Q : Exit → Act → World → Prop} {S : World → Prop}

/-- Each number of the list: true: it alone may come up; false: it may come up, and all others wait for it or are apart from it. -/
def mixB (ops : Array Oper) : List (Nat × Bool) → Array Bool → Bool
  | [], listed => (Region.ready .any ops listed).isEmpty
  | (i, true) :: r, listed => (Region.ready .any ops listed == [i]) && mixB ops r (listed.setIfInBounds i true)
  | (i, false) :: r, listed => (Region.free .any ops listed i && (Region.ready .any ops listed).contains i) && mixB ops r (listed.setIfInBounds i true)

/-- The walk in that order. -/
def wpMix (P : Program) (ops : Array Oper) (Q : Exit → Act → World → Prop) (S : World → Prop) : List (Option Oper × Bool) → Act → World → Prop
  | [], a, w => Q .normal a w
  | (none, _) :: _, _, _ => False
  | (some o, true) :: r, a, w => if Region.wanted o (yielded ops a.tmps) = true then o.wp P a w (fun a' w' => S w' ∧ (S w' → wpMix P ops Q S r a' w')) Q else wpMix P ops Q S r (a.put o.dst undef) w
  | (some o, false) :: r, a, w => if Region.wanted o (yielded ops a.tmps) = true then ∃ v, (∀ w', S w' → (execOp a.eval o).run P w' = .ok (.value v) w') ∧ wpMix P ops Q S r (a.put o.dst v) w else wpMix P ops Q S r (a.put o.dst undef) w

theorem mix_nil {a : Act} {w : World} (h : Q .normal a w) : wpMix P ops Q S [] a w := h
theorem mix_free {o : Oper} {r : List (Option Oper × Bool)} {a : Act} {w : World}
    (h : ∀ K : Act → Prop, (∀ a, wpMix P ops Q S r a w → K a) → if Region.wanted o (yielded ops a.tmps) = true then ∃ v, (∀ w', S w' → (execOp a.eval o).run P w' = .ok (.value v) w') ∧ K (a.put o.dst v) else K (a.put o.dst undef)) :
    wpMix P ops Q S ((some o, false) :: r) a w := h _ (fun _ h => h)
theorem mix_forced {o : Oper} {r : List (Option Oper × Bool)} {a : Act} {w : World}
    (h : ∀ K : Act → World → Prop, Shut (∀ a w, S w → (S w → wpMix P ops Q S r a w) → K a w) → if Region.wanted o (yielded ops a.tmps) = true then o.wp P a w K Q else K (a.put o.dst undef) w) (hS : S w) :
    wpMix P ops Q S ((some o, true) :: r) a w := by
  have h1 := h (fun a' w' => S w' ∧ (S w' → wpMix P ops Q S r a' w')) (fun a w hs hw => ⟨hs, hw⟩)
  show if _ then _ else _
  split
  · rename_i hw; rw [if_pos hw] at h1; exact h1
  · rename_i hw; rw [if_neg hw] at h1; exact h1.2 hS

theorem wpAnyH_mix (hsel : Region.noSelect ops = true) (hQ : ∀ c d v (a : Act) w, Q (.panic c) (a.put d v) w → Q (.panic c) a w) : ∀ (ord : List (Nat × Bool)) (listed : Array Bool) (a : Act) (w : World),
    mixB ops ord listed = true → S w → wpMix P ops Q S (ord.map fun p => (ops[p.1]?, p.2)) a w → wpAnyH P .any ops Q S ord.length listed a w
  | [], listed, a, w, hB, hS, h => wpAnyH_done (by simpa [mixB] using hB) h 0
  | (i, b) :: r, listed, a, w, hB, hS, h => by
    simp only [List.map_cons] at h
    cases hi : ops[i]? with
    | none => rw [hi] at h; cases b <;> exact h.elim
    | some o =>
      rw [hi] at h
      cases b with
      | true =>
        simp only [mixB, Bool.and_eq_true, beq_iff_eq] at hB
        refine wpAnyH_ready hB.1 (by simp) (fun j hj => ?_)
        rw [List.mem_singleton] at hj
        subst hj
        have h2 : wpOp P ops Q j (fun a' w' => S w' ∧ (S w' → wpMix P ops Q S (r.map fun p => (ops[p.1]?, p.2)) a' w')) a w := by
          unfold wpOp
          simp only [hi]
          change if _ then _ else _ at h
          split
          · rename_i hw; rw [if_pos hw] at h; exact Or.inl h
          · rename_i hw; rw [if_neg hw] at h; exact ⟨hS, fun _ => h⟩
        exact wpOp_mono (fun a' w' h3 => ⟨h3.1, wpAnyH_mix hsel hQ r _ a' w' hB.2 h3.1 (h3.2 h3.1)⟩) h2
      | false =>
        simp only [mixB, Bool.and_eq_true] at hB
        change if _ then _ else _ at h
        by_cases hw : Region.wanted o (yielded ops a.tmps) = true
        · rw [if_pos hw] at h
          obtain ⟨v, hv, hr⟩ := h
          exact wpAnyH_take hi hsel hB.1.1 hB.1.2 (fun c a w => hQ c _ _ a w) (Or.inl ⟨hw, hv⟩) hS (wpAnyH_mix hsel hQ r _ _ _ hB.2 hS hr)
        · rw [if_neg hw] at h
          exact wpAnyH_take hi hsel hB.1.1 hB.1.2 (fun c a w => hQ c _ _ a w) (Or.inr ⟨by simpa using hw, rfl⟩) hS (wpAnyH_mix hsel hQ r _ _ _ hB.2 hS h)

/-- THE REGION. -/
theorem wp_region_mix {id : Nat} {a : Act} {w : World} {l : List Oper} (ord : List (Nat × Bool)) (hm : P.follows .mixedOrders = true)
    (hB : (Region.noSelect l.toArray && (ord.length == l.toArray.size && mixB l.toArray ord (Array.replicate l.toArray.size false))) = true)
    (hQ : ∀ c d v (a : Act) w, Q (.panic c) (a.put d v) w → Q (.panic c) a w) (hS : S w.drew)
    (h : wpMix P l.toArray Q S (ord.map fun p => (l[p.1]?, p.2)) a w.drew) : (Code.region id l.toArray true).wp P Q a w := by
  simp only [Bool.and_eq_true, beq_iff_eq] at hB
  refine wp_region_held (S := S) hm ?_
  rw [← hB.2.1]
  refine wpAnyH_mix hB.1 hQ ord _ a _ (by rw [hB.2.1]; exact hB.2.2) hS ?_
  simpa using h
end
end Go.Proofs.Ytdnkkeabimjbaaa
