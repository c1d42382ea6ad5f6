/- Memory that a call makes itself: rows kept apart. -/
import Derived.Test.YtjhdhnkikgmpoaaValid
import Derived.Test.YtjhdhnkikgmpoaaSame
import Derived.OwnWalk
import Derived.Deep.AppendLies
import Derived.Deep.OwnRows
import Derived.Deep.LoopGhost
namespace Go.Proofs.Ytjhdhnkikgmpoaa
open Go.RowKit

theorem info3 : (Try.prog.info? 3).map (fun i => (i.zero, i.size, i.bytes)) = some (some (.int .i64 0), 1, 8) := by kernel_rfl
theorem info4 : (Try.prog.info? 4).map (fun i => (i.zero, i.size, i.bytes)) = some (some (.bool false), 1, 1) := by kernel_rfl
theorem info9 : (Try.prog.info? 9).map (fun i => (i.zero, i.size, i.bytes)) = some (some (.string { data := #[] }), 1, 16) := by kernel_rfl
theorem info35 : (Try.prog.info? 35).map (fun i => (i.zero, i.size, i.bytes)) = some (some (.slice none 0 0), 1, 24) := by kernel_rfl

theorem grown_trans {w w1 w2 : World} {row : Option Nat} (h : w.grownBy w1 row) (k : w1.grownBy w2 row) : w.grownBy w2 row :=
  ⟨k.os.trans h.os, k.tape.trans h.tape, k.output.trans h.output, Nat.le_trans h.size k.size, fun i hi hne => (k.block i (Nat.lt_of_lt_of_le hi h.size) hne).trans (h.block i hi hne)⟩
theorem grown_any {w w1 : World} {row : Option Nat} (h : w.grownBy w1 none) : w.grownBy w1 row := ⟨h.os, h.tape, h.output, h.size, fun i hi _ => h.block i hi (by simp)⟩
theorem grown_of_below {w w1 : World} (h : Below w.heap.size w w1) : w.grownBy w1 none := ⟨h.os, h.tape, h.output, h.size, fun i hi _ => h.block i hi⟩
theorem below_of_grown {w w1 : World} (h : w.grownBy w1 none) : Below w.heap.size w w1 := ⟨h.os, h.tape, h.output, h.size, fun i hi => h.block i hi (by simp)⟩
theorem fam_grown (w : World) (row : Option Nat) : ∃ (S : Type) (_ : Nonempty S) (f : S → World), (∀ s, w.grownBy (f s) row) ∧ (∀ w', w.grownBy w' row → ∃ s, w' = f s) :=
  ⟨{w' : World // w.grownBy w' row}, ⟨⟨w, World.grownBy.refl _ _⟩⟩, Subtype.val, fun s => s.2, fun w' h => ⟨⟨w', h⟩, rfl⟩⟩

/-- A row that the call owns: its value, its elements' type and size, how many there are, its cells. -/
structure Rw where
  v : Value
  e : TypeId
  sz : Nat
  n : Nat
  xs : List Value
def Rw.own (r : Rw) (w : World) (B : Nat) : Prop := w.ownsRow B r.e r.sz r.v r.n r.xs
def Apart (r s : Rw) : Prop := r.v.ownBlock = none ∨ s.v.ownBlock = none ∨ r.v.ownBlock ≠ s.v.ownBlock
theorem Apart.symm {r s : Rw} (h : Apart r s) : Apart s r := by
  rcases h with h | h | h
  · exact Or.inr (Or.inl h)
  · exact Or.inl h
  · exact Or.inr (Or.inr (Ne.symm h))
structure Owns (w : World) (B : Nat) (R : List Rw) : Prop where
  own : ∀ r ∈ R, r.own w B
  apart : R.Pairwise Apart
theorem Owns.nil (w : World) (B : Nat) : Owns w B [] := ⟨(fun _ h => by cases h), List.Pairwise.nil⟩
theorem Owns.tail {w : World} {B : Nat} {r : Rw} {R : List Rw} (h : Owns w B (r :: R)) : Owns w B R := ⟨fun x hx => h.own x (List.mem_cons_of_mem _ hx), (List.pairwise_cons.1 h.apart).2⟩
theorem Owns.lt {w : World} {B : Nat} {R : List Rw} (h : Owns w B R) {r : Rw} (hr : r ∈ R) {k : Nat} (hk : r.v.ownBlock = some k) : B ≤ k ∧ k < w.heap.size := World.ownsRow.lt (h.own r hr) k hk
/-- nothing that is owned turns -/
theorem Owns.grow {w w' : World} {B : Nat} {R : List Rw} (h : Owns w B R) (hg : w.grownBy w' none) : Owns w' B R :=
  ⟨fun r hr => World.ownsRow.kept (h.own r hr) hg (by cases r.v.ownBlock <;> simp), h.apart⟩
theorem Owns.below {w w' : World} {B : Nat} {R : List Rw} (h : Owns w B R) (hb : Below w.heap.size w w') : Owns w' B R := h.grow (grown_of_below hb)
/-- a new row -/
theorem Owns.add {w w' : World} {B : Nat} {R : List Rw} {r : Rw} (h : Owns w B R) (hg : w.grownBy w' none) (hr : r.own w' B) (hf : ∀ k, r.v.ownBlock = some k → w.heap.size ≤ k) : Owns w' B (r :: R) := by
  refine ⟨fun x hx => ?_, List.pairwise_cons.2 ⟨fun x hx => ?_, h.apart⟩⟩
  · rcases List.mem_cons.1 hx with rfl | hx
    · exact hr
    · exact (h.grow hg).own x hx
  · cases hk : r.v.ownBlock with
    | none => exact Or.inl hk
    | some k =>
      cases hk2 : x.v.ownBlock with
      | none => exact Or.inr (Or.inl hk2)
      | some k2 =>
        refine Or.inr (Or.inr ?_)
        have h1 := hf k hk
        have h2 := (h.lt hx hk2).2
        rw [hk, hk2]
        intro he
        cases he
        omega
theorem pair_set {p : Rw → Rw → Prop} (hs : ∀ {a b}, p a b → p b a) {R : List Rw} (h : R.Pairwise p) {i : Nat} {r : Rw} (hr : ∀ j (hj : j < R.length), j ≠ i → p r R[j]) : (R.set i r).Pairwise p := by
  rw [List.pairwise_iff_getElem] at h ⊢
  intro j k hj hk hjk
  rw [List.length_set] at hj hk
  rw [List.getElem_set, List.getElem_set]
  by_cases h1 : i = j
  · subst h1
    rw [if_pos rfl, if_neg (by omega)]
    exact hr k hk (by omega)
  · rw [if_neg h1]
    by_cases h2 : i = k
    · subst h2
      rw [if_pos rfl]
      exact hs (hr j hj (by omega))
    · rw [if_neg h2]
      exact h j k hj hk hjk
/-- row i turns, and it alone; it stays where it was or lies in a new block -/
theorem Owns.set {w w' : World} {B : Nat} {R : List Rw} (h : Owns w B R) {i : Nat} (hi : i < R.length) {r : Rw} (hg : w.grownBy w' R[i].v.ownBlock) (hr : r.own w' B)
    (hf : ∀ k, r.v.ownBlock = some k → R[i].v.ownBlock = some k ∨ w.heap.size ≤ k) : Owns w' B (R.set i r) := by
  have hne : ∀ j (hj : j < R.length), j ≠ i → Apart R[i] R[j] := fun j hj hji => by
    have hp := List.pairwise_iff_getElem.1 h.apart
    rcases Nat.lt_or_gt_of_ne hji with hlt | hlt
    · exact (hp j i hj hi hlt).symm
    · exact hp i j hi hj hlt
  refine ⟨fun x hx => ?_, pair_set (fun h => h.symm) h.apart (fun j hj hji => ?_)⟩
  · obtain ⟨j, hj, hjx⟩ := List.mem_iff_getElem.1 hx
    rw [List.length_set] at hj
    rw [List.getElem_set] at hjx
    by_cases hji : i = j
    · subst hji
      rw [if_pos rfl] at hjx
      rw [← hjx]; exact hr
    · rw [if_neg hji] at hjx
      rw [← hjx]
      refine World.ownsRow.kept (h.own _ (List.getElem_mem hj)) hg ?_
      rcases hne j hj (fun e => hji e.symm) with h1 | h1 | h1
      · rw [h1]; cases R[j].v.ownBlock <;> simp
      · exact Or.inl h1
      · exact Or.inr (Ne.symm h1)
  · cases hk : r.v.ownBlock with
    | none => exact Or.inl hk
    | some k =>
      cases hk2 : R[j].v.ownBlock with
      | none => exact Or.inr (Or.inl hk2)
      | some k2 =>
        refine Or.inr (Or.inr ?_)
        rw [hk, hk2]
        intro he
        cases he
        rcases hf k hk with h1 | h1
        · rcases hne j hj hji with h2 | h2 | h2
          · rw [h1] at h2; cases h2
          · rw [hk2] at h2; cases h2
          · rw [h1, hk2] at h2; exact h2 rfl
        · have := (h.lt (List.getElem_mem hj) hk2).2
          omega
/-- The cells of the rows that did not turn. -/
theorem Owns.below_grown {w w' : World} {B B' : Nat} {R : List Rw} (h : Owns w B R) {i : Nat} (hi : i < R.length) (hg : w.grownBy w' R[i].v.ownBlock) (hB : B' ≤ B) (hB2 : B' ≤ w.heap.size) : Below B' w w' :=
  ⟨hg.os, hg.tape, hg.output, hg.size, fun k hk => hg.block k (by omega) (fun e => by have := (h.lt (List.getElem_mem hi) e.symm).1; omega)⟩
/-- A store into a row. -/
theorem Owns.store {w : World} {B : Nat} {R : List Rw} (h : Owns w B R) {i : Nat} (hi : i < R.length) {g n cap : Nat} {e : TypeId} {sz : Nat} {xs : List Value} (hR : R[i] = ⟨.slice (some ⟨g, 0, none⟩) n cap, e, sz, n, xs⟩) (j : Nat) (u : Value) :
    Owns (w.setCell ⟨g, j, none⟩ u) B (R.set i ⟨.slice (some ⟨g, 0, none⟩) n cap, e, sz, n, xs.set j u⟩) ∧ w.grownBy (w.setCell ⟨g, j, none⟩ u) (some g) := by
  have h1 := h.own _ (List.getElem_mem hi)
  rw [hR] at h1
  obtain ⟨h2, h3⟩ := World.ownsRow.stored h1 j u
  refine ⟨h.set hi (by rw [hR]; exact h3) h2 (fun k hk => Or.inl (by rw [hR]; exact hk)), h3⟩
/-- A row of a made slice. -/
theorem own_made (w : World) (z : Value) (n : Nat) (e : TypeId) (B : Nat) (hB : B ≤ w.heap.size) (hn : n ≤ maxLen) : Rw.own ⟨.slice (some ⟨w.heap.size, 0, none⟩) n n, e, 1, n, List.replicate n z⟩ (w.alloc (.cells (madeCells #[z] n) e)) B := by
  have := World.ownsRow_lit (e := e) (size := 1) (base := B) w (madeCells #[z] n) n hB hn (by simp [size_madeCells])
  rw [toList_madeCells_one] at this
  exact this
/-- A row as a list in memory. -/
theorem own_vrow {w : World} {B : Nat} {e : TypeId} {v : Value} {n : Nat} {xs : List Value} (h : w.ownsRow B e 1 v n xs) : ∃ A cap, v = .slice A n cap ∧ VRow w A xs := by
  have hl := h.1
  rcases h.2 with ⟨rfl, rfl⟩ | ⟨g, cap, cur, rfl, hb, hg, hnc, _⟩
  · exact ⟨none, 0, rfl, Or.inl (List.eq_nil_of_length_eq_zero (by simpa using hl))⟩
  · refine ⟨_, cap, rfl, Or.inr ⟨g, 0, rfl, (Array.getElem?_eq_some_iff.1 hg).1, fun i hi => ?_⟩⟩
    have := World.ownsRow.cellAt h i (by omega)
    rw [Nat.zero_add, this]
    simp [hi]
end Go.Proofs.Ytjhdhnkikgmpoaa
