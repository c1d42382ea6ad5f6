/- How lists and hypergraphs lie in memory. -/
import Derived.Test.YtjhdhnkikgmpoaaFam
import Derived.Test.YtjhdhnkikgmpoaaRows
import Derived.Lib.Hide
import Derived.WalkSpells
import Derived.WalkLawsBesides
import Derived.Outline
namespace Go.Proofs.Ytjhdhnkikgmpoaa
open Go.RowKit

/-- The cells of a list, one each, from A on. -/
def VRow (w : World) (A : Option Addr) (vs : List Value) : Prop :=
  vs = [] ∨ ∃ b o, A = some ⟨b, o, none⟩ ∧ b < w.heap.size ∧ ∀ i (h : i < vs.length), w.cell? ⟨b, o + i, none⟩ = some vs[i]
theorem VRow.below {w w' : World} {B : Nat} {A : Option Addr} {vs : List Value} (h : VRow w A vs) (hB : w.heap.size ≤ B) (hb : Below B w w') : VRow w' A vs := by
  rcases h with h | ⟨b, o, h1, h2, h3⟩
  · exact Or.inl h
  · exact Or.inr ⟨b, o, h1, Nat.lt_of_lt_of_le h2 hb.size, fun i hi => (hb.cell (p := ⟨b, o + i, none⟩) (Nat.lt_of_lt_of_le h2 hB)).trans (h3 i hi)⟩
abbrev IRow (w : World) (A : Option Addr) (xs : List Int) : Prop := VRow w A (xs.map (Value.int .i64))
abbrev BRow (w : World) (A : Option Addr) (xs : List Bool) : Prop := VRow w A (xs.map Value.bool)
abbrev SRow (w : World) (A : Option Addr) (xs : List ByteArray) : Prop := VRow w A (xs.map Value.string)
/-- Element k. -/
theorem VRow.at {α : Type} {w : World} {A : Option Addr} {f : α → Value} {xs : List α} (h : VRow w A (xs.map f)) {k : Nat} (hk : k < xs.length) : ∃ b o, A = some ⟨b, o, none⟩ ∧ b < w.heap.size ∧ w.cell? ⟨b, o + k, none⟩ = some (f xs[k]) := by
  rcases h with h | ⟨b, o, h1, h2, h3⟩
  · rw [List.map_eq_nil_iff] at h; subst h; simp at hk
  · exact ⟨b, o, h1, h2, by rw [h3 k (by simpa using hk)]; simp⟩
theorem VRow.nil (w : World) (A : Option Addr) : VRow w A [] := Or.inl rfl
/-- A block that was just laid holds its cells. -/
theorem VRow.lit (w : World) (cs : List Value) (T : TypeId) : VRow (w.alloc (.cells cs.toArray T)) (some ⟨w.heap.size, 0, none⟩) cs := by
  refine Or.inr ⟨w.heap.size, 0, rfl, by simp, fun i hi => ?_⟩
  rw [World.cell?_alloc_at _ _ _ _ rfl]
  simp [hi]

/-- A hyperedge: its numbers, its tails, and where the tails lie. -/
structure Ed where
  head : Int
  tails : List Int
  cost : Int
  l0 : Int
  l1 : Int
  ta : Option Addr
  tc : Nat
structure EdAt (w : World) (b o : Nat) (e : Ed) : Prop where
  head : w.cell? ⟨b, o, none⟩ = some (.int .i64 e.head)
  tails : w.cell? ⟨b, o + 1, none⟩ = some (.slice e.ta e.tails.length e.tc)
  cost : w.cell? ⟨b, o + 2, none⟩ = some (.int .i64 e.cost)
  l0 : w.cell? ⟨b, o + 3, none⟩ = some (.int .i64 e.l0)
  l1 : w.cell? ⟨b, o + 4, none⟩ = some (.int .i64 e.l1)
  row : IRow w e.ta e.tails
  len : e.tails.length ≤ maxLen
def EdRow (w : World) (A : Option Addr) (es : List Ed) : Prop :=
  es = [] ∨ ∃ b o, A = some ⟨b, o, none⟩ ∧ b < w.heap.size ∧ ∀ i (h : i < es.length), EdAt w b (o + i * 5) es[i]
theorem EdAt.below {w w' : World} {B b o : Nat} {e : Ed} (h : EdAt w b o e) (hb0 : b < w.heap.size) (hB : w.heap.size ≤ B) (hb : Below B w w') : EdAt w' b o e :=
  have hB0 : b < B := Nat.lt_of_lt_of_le hb0 hB
  ⟨(hb.cell (p := ⟨b, o, none⟩) hB0).trans h.head, (hb.cell (p := ⟨b, o + 1, none⟩) hB0).trans h.tails, (hb.cell (p := ⟨b, o + 2, none⟩) hB0).trans h.cost, (hb.cell (p := ⟨b, o + 3, none⟩) hB0).trans h.l0,
   (hb.cell (p := ⟨b, o + 4, none⟩) hB0).trans h.l1, h.row.below hB hb, h.len⟩
theorem EdRow.below {w w' : World} {B : Nat} {A : Option Addr} {es : List Ed} (h : EdRow w A es) (hB : w.heap.size ≤ B) (hb : Below B w w') : EdRow w' A es := by
  rcases h with h | ⟨b, o, h1, h2, h3⟩
  · exact Or.inl h
  · exact Or.inr ⟨b, o, h1, Nat.lt_of_lt_of_le h2 hb.size, fun i hi => (h3 i hi).below h2 hB hb⟩
theorem EdRow.at {w : World} {A : Option Addr} {es : List Ed} (h : EdRow w A es) {k : Nat} (hk : k < es.length) : ∃ b o, A = some ⟨b, o, none⟩ ∧ b < w.heap.size ∧ EdAt w b (o + k * 5) es[k] := by
  rcases h with h | ⟨b, o, h1, h2, h3⟩
  · subst h; simp at hk
  · exact ⟨b, o, h1, h2, h3 k hk⟩

theorem ret_int {k : IntKind} {a b : Int} (h : a = b) : Ending.returned (.int k a) = .returned (.int k b) := by rw [h]
theorem ret_bool {a b : Bool} (h : a = b) : Ending.returned (.bool a) = .returned (.bool b) := by rw [h]
theorem take_step {α : Type} (xs : List α) (k : Nat) (h : k < xs.length) : xs.take (k + 1) = xs.take k ++ [xs[k]] := List.take_succ_eq_append_getElem h
theorem all_step {α : Type} (p : α → Bool) (xs : List α) (k : Nat) (h : k < xs.length) (hp : (xs.take k).all p = true) (hx : p xs[k] = true) : (xs.take (k + 1)).all p = true := by
  rw [take_step xs k h, List.all_append, hp]
  simpa using hx
theorem all_stop {α : Type} (p : α → Bool) (xs : List α) (k : Nat) (h : k < xs.length) (hx : p xs[k] = false) : xs.all p = false := by
  rw [List.all_eq_false]
  exact ⟨xs[k], List.getElem_mem h, by rw [hx]; decide⟩
end Go.Proofs.Ytjhdhnkikgmpoaa
