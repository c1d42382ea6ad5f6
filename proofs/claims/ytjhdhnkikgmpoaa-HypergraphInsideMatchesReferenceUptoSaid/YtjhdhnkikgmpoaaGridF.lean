/- A grid over other rows; pushes onto those. -/
import Derived.Test.YtjhdhnkikgmpoaaOrdP
namespace Go.Proofs.Ytjhdhnkikgmpoaa
open Go.RowKit Go.Deep

theorem Owns.nones {w : World} {B : Nat} {F : List Rw} (h : Owns w B F) : ∀ (l : List Rw), (∀ r ∈ l, r.own w B ∧ r.v.ownBlock = none) → Owns w B (l ++ F)
  | [], _ => h
  | r :: l, hl => by
    have ih := Owns.nones h l (fun x hx => hl x (List.mem_cons_of_mem _ hx))
    have hr := hl r (List.mem_cons_self ..)
    exact ih.add (World.grownBy.refl _ _) hr.1 (fun k hk => by rw [hr.2] at hk; cases hk)
/-- a new grid over rows that are there -/
theorem grid_over {w : World} {B : Nat} {F : List Rw} (h : Owns w B F) (n : Nat) (hB : B ≤ w.heap.size) (hn : n ≤ maxLen) :
    Owns (w.alloc (.cells (madeCells #[.slice none 0 0] n) 35)) B (grid w.heap.size n (List.replicate n (.slice none 0 0)) (List.replicate n []) F) := by
  have hv : ∀ r ∈ rowsOf (List.replicate n (Value.slice none 0 0)) (List.replicate n ([] : List Int)), r = lRow (.slice none 0 0) [] := fun r hr => by
    unfold rowsOf at hr
    obtain ⟨i, hi, rfl⟩ := List.mem_iff_getElem.1 hr
    simp
  have h1 : Owns w B (rowsOf (List.replicate n (Value.slice none 0 0)) (List.replicate n ([] : List Int)) ++ F) := h.nones _ (fun r hr => by
    rw [hv r hr]
    exact ⟨World.ownsRow_nil _ _ _ _, rfl⟩)
  exact h1.add (World.grownBy_alloc _ _ none) (own_made w (.slice none 0 0) n 35 B hB hn) (fun k hk => by cases hk; exact Nat.le_refl _)
/-- the first row of F turns, and it alone -/
theorem GSt.setF {W0 wr w' : World} {B g n : Nat} {vs : List Value} {L : List (List Int)} {F : List Rw} {r r' : Rw} (h : GSt W0 B g n vs L (r :: F) wr) (hg : wr.grownBy w' r.v.ownBlock) (hr : r'.own w' B) (hf : ∀ k, r'.v.ownBlock = some k → r.v.ownBlock = some k ∨ wr.heap.size ≤ k) : GSt W0 B g n vs L (r' :: F) w' := by
  have hv := grid_vs h.owns
  have hF := grid_F (g := g) (F := r :: F) (j := 0) hv h.len (by simp)
  have h1 := h.owns.set (i := 1 + n + 0) (by rw [grid_len hv h.len]; simp) (r := r') (by rw [hF]; exact hg) hr (by rw [hF]; exact hf)
  have e1 : (grid g n vs L (r :: F)).set (1 + n + 0) r' = grid g n vs L (r' :: F) := by
    simp only [grid, show 1 + n + 0 = n + 1 by omega, List.set_cons_succ]
    rw [List.set_append_right _ _ (by rw [rowsOf_len hv h.len]; omega), rowsOf_len hv h.len, Nat.sub_self]
    rfl
  rw [e1] at h1
  have hgt := h.gt
  refine ⟨h1, h.len, h.below.grown hg (by omega) (fun k hk => ?_)⟩
  exact (World.ownsRow.lt (grid_in h.owns (List.mem_cons_self ..)) k hk).1
/-- 'l = append(l, x)', l the first row of F -/
theorem GSt.pushF {W0 w1 wa wb : World} {B g n g1 cap1 : Nat} {vs : List Value} {L : List (List Int)} {F : List Rw} {V : Value} {l : List Int} {x : Int} (h : GSt W0 B g n vs L (lRow V l :: F) w1) (h1 : w1.grownBy wa none) (hg : wa.grownBy wb V.ownBlock)
    (ho : wb.ownsRow B 3 1 (.slice (some ⟨g1, 0, none⟩) (l.length + 1) cap1) (l.length + 1) (l.map (.int .i64) ++ [.int .i64 x])) (hat : V.ownBlock = some g1 ∨ g1 = wa.heap.size) :
    GSt W0 B g n vs L (lRow (.slice (some ⟨g1, 0, none⟩) (l.length + 1) cap1) (l ++ [x]) :: F) wb := by
  refine h.setF (grown_trans (grown_any h1) hg) (by show wb.ownsRow B 3 1 (.slice (some ⟨g1, 0, none⟩) (l.length + 1) cap1) (l ++ [x]).length ((l ++ [x]).map (.int .i64)); simpa using ho) (fun k hk => ?_)
  cases hk
  rcases hat with h2 | h2
  · exact Or.inl h2
  · exact Or.inr (by rw [h2]; exact h1.size)
theorem GSt.cellI {W0 wr : World} {B g n m k : Nat} {vs : List Value} {L : List (List Int)} {F : List Rw} {ms : List Int} (h : GSt W0 B g n vs L F wr) (hr : iRow m k ms ∈ F) {v : Nat} (hv : v < k) : ∃ x, ms[v]? = some x ∧ wr.cell? ⟨m, v, none⟩ = some (.int .i64 x) ∧ wr.frozen? ⟨m, v, none⟩ = false := by
  have h1 : wr.ownsRow B 3 1 (.slice (some ⟨m, 0, none⟩) k k) k (ms.map (.int .i64)) := grid_in h.owns hr
  have hl : ms.length = k := by simpa using h1.1
  refine ⟨ms[v], List.getElem?_eq_getElem (by omega), ?_, World.ownsRow.frozenAt h1 v⟩
  rw [World.ownsRow.cellAt h1 v (by omega)]
  simp [show v < ms.length by omega]
theorem GSt.cellT {W0 wr : World} {B g n m k : Nat} {vs : List Value} {L : List (List Int)} {F : List Rw} {bs : List Bool} (h : GSt W0 B g n vs L F wr) (hr : tRow m k bs ∈ F) {v : Nat} (hv : v < k) : ∃ x, bs[v]? = some x ∧ wr.cell? ⟨m, v, none⟩ = some (.bool x) ∧ wr.frozen? ⟨m, v, none⟩ = false := by
  have h1 : wr.ownsRow B 4 1 (.slice (some ⟨m, 0, none⟩) k k) k (bs.map .bool) := grid_in h.owns hr
  have hl : bs.length = k := by simpa using h1.1
  refine ⟨bs[v], List.getElem?_eq_getElem (by omega), ?_, World.ownsRow.frozenAt h1 v⟩
  rw [World.ownsRow.cellAt h1 v (by omega)]
  simp [show v < bs.length by omega]
theorem GSt.storeI {W0 wr : World} {B g n m k : Nat} {vs : List Value} {L : List (List Int)} {F : List Rw} {ms : List Int} (h : GSt W0 B g n vs L F wr) {j : Nat} (hj : j < F.length) (hF : F[j] = iRow m k ms) (v : Nat) (x : Int) :
    GSt W0 B g n vs L (F.set j (iRow m k (ms.set v x))) (wr.setCell ⟨m, v, none⟩ (.int .i64 x)) := by
  have h1 := h.store hj hF v (.int .i64 x)
  unfold iRow
  rw [List.map_set]
  exact h1
theorem GSt.storeT {W0 wr : World} {B g n m k : Nat} {vs : List Value} {L : List (List Int)} {F : List Rw} {bs : List Bool} (h : GSt W0 B g n vs L F wr) {j : Nat} (hj : j < F.length) (hF : F[j] = tRow m k bs) (v : Nat) (x : Bool) :
    GSt W0 B g n vs L (F.set j (tRow m k (bs.set v x))) (wr.setCell ⟨m, v, none⟩ (.bool x)) := by
  have h1 := h.store hj hF v (.bool x)
  unfold tRow
  rw [List.map_set]
  exact h1
theorem GSt.same {W0 wr w' : World} {B g n : Nat} {vs : List Value} {L : List (List Int)} {F : List Rw} (h : GSt W0 B g n vs L F wr) (hg : wr.grownBy w' none) : GSt W0 B g n vs L F w' :=
  ⟨h.owns.grow hg, h.len, h.below.grown hg (by have := h.gt; omega) (fun k hk => by cases hk)⟩
theorem grown_drew (w : World) : w.grownBy w.drew none := ⟨rfl, rfl, rfl, Nat.le_refl _, fun _ _ _ => rfl⟩
/-- the row at t of the grid -/
theorem GSt.rowAt {W0 wr : World} {B g n t : Nat} {vs : List Value} {L : List (List Int)} {F : List Rw} (h : GSt W0 B g n vs L F wr) (ht : t < n) : ∃ Ak ck l, L[t]? = some l ∧ wr.cell? ⟨g, t, none⟩ = some (.slice Ak l.length ck) ∧ vs[t]? = some (.slice Ak l.length ck) := by
  have hv := grid_vs h.owns
  obtain ⟨Ak, ck, hA, hr⟩ := own_vrow (grid_at h.owns h.len ht)
  refine ⟨Ak, ck, L[t]'(by rw [h.len]; exact ht), List.getElem?_eq_getElem _, ?_, ?_⟩
  · rw [grid_cell h.owns ht, hA]
  · rw [List.getElem?_eq_getElem (by omega), hA]
theorem GSt.rowV {W0 wr : World} {B g n t : Nat} {vs : List Value} {L : List (List Int)} {F : List Rw} (h : GSt W0 B g n vs L F wr) (ht : t < n) {Ak : Option Addr} {ck : Nat} {l : List Int} (hV : vs[t]? = some (.slice Ak l.length ck)) (hl : L[t]? = some l) : IRow wr Ak l := by
  have hv := grid_vs h.owns
  have hL := h.len
  have h1 := grid_at h.owns h.len ht
  have e1 : vs[t]'(by omega) = .slice Ak l.length ck := by rw [List.getElem?_eq_getElem (by omega)] at hV; exact Option.some.inj hV
  have e2 : L[t]'(by omega) = l := by rw [List.getElem?_eq_getElem (by omega)] at hl; exact Option.some.inj hl
  rw [e1, e2] at h1
  obtain ⟨A', c', hA, hr⟩ := own_vrow h1
  cases hA
  exact hr
end Go.Proofs.Ytjhdhnkikgmpoaa
