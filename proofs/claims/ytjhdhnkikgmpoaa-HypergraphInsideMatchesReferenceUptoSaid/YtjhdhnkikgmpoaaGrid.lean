/- A slice of rows in own memory. -/
import Derived.Test.YtjhdhnkikgmpoaaRord
namespace Go.Proofs.Ytjhdhnkikgmpoaa
open Go.RowKit Go.Deep

def gRow (g n : Nat) (vs : List Value) : Rw := ⟨.slice (some ⟨g, 0, none⟩) n n, 35, 1, n, vs⟩
def lRow (v : Value) (l : List Int) : Rw := ⟨v, 3, 1, l.length, l.map (.int .i64)⟩
def rowsOf (vs : List Value) (L : List (List Int)) : List Rw := List.zipWith lRow vs L
def grid (g n : Nat) (vs : List Value) (L : List (List Int)) (F : List Rw) : List Rw := gRow g n vs :: (rowsOf vs L ++ F)
/-- an edge box -/
def bRow (b : Nat) (E : Ed) : Rw := ⟨.slice (some ⟨b, 0, none⟩) 1 1, 38, 5, 1, [.int .i64 E.head, .slice E.ta E.tails.length E.tc, .int .i64 E.cost, .int .i64 E.l0, .int .i64 E.l1]⟩
/-- a row of numbers, of truth values -/
def iRow (g n : Nat) (ms : List Int) : Rw := ⟨.slice (some ⟨g, 0, none⟩) n n, 3, 1, n, ms.map (.int .i64)⟩
def tRow (g n : Nat) (bs : List Bool) : Rw := ⟨.slice (some ⟨g, 0, none⟩) n n, 4, 1, n, bs.map .bool⟩

theorem rowsOf_len {vs : List Value} {L : List (List Int)} {n : Nat} (hv : vs.length = n) (hL : L.length = n) : (rowsOf vs L).length = n := by simp [rowsOf, hv, hL]
theorem rowsOf_get {vs : List Value} {L : List (List Int)} {n t : Nat} (hv : vs.length = n) (hL : L.length = n) (ht : t < n) (h : t < (rowsOf vs L).length) : (rowsOf vs L)[t] = lRow (vs[t]'(by omega)) (L[t]'(by omega)) := by
  simp [rowsOf]
theorem rowsOf_set {vs : List Value} {L : List (List Int)} (t : Nat) (v' : Value) (l' : List Int) : (rowsOf vs L).set t (lRow v' l') = rowsOf (vs.set t v') (L.set t l') := by
  unfold rowsOf
  induction vs generalizing L t with
  | nil => simp
  | cons v vs ih =>
    cases L with
    | nil => cases t <;> simp
    | cons l L =>
      cases t with
      | zero => simp
      | succ t => simp [ih]

theorem grid_len {g n : Nat} {vs : List Value} {L : List (List Int)} {F : List Rw} (hv : vs.length = n) (hL : L.length = n) : (grid g n vs L F).length = 1 + n + F.length := by
  simp [grid, rowsOf_len hv hL]; omega
theorem grid_row {g n t : Nat} {vs : List Value} {L : List (List Int)} {F : List Rw} (hv : vs.length = n) (hL : L.length = n) (ht : t < n) : (grid g n vs L F)[t + 1]'(by rw [grid_len hv hL]; omega) = lRow (vs[t]'(by omega)) (L[t]'(by omega)) := by
  simp only [grid, List.getElem_cons_succ]
  rw [List.getElem_append_left (by rw [rowsOf_len hv hL]; exact ht)]
  exact rowsOf_get hv hL ht _
theorem grid_F {g n j : Nat} {vs : List Value} {L : List (List Int)} {F : List Rw} (hv : vs.length = n) (hL : L.length = n) (hj : j < F.length) : (grid g n vs L F)[1 + n + j]'(by rw [grid_len hv hL]; omega) = F[j] := by
  simp only [grid, show 1 + n + j = (n + j) + 1 by omega, List.getElem_cons_succ]
  rw [List.getElem_append_right (by rw [rowsOf_len hv hL]; omega)]
  simp [rowsOf_len hv hL]

section
variable {w : World} {B g n : Nat} {vs : List Value} {L : List (List Int)} {F : List Rw}
theorem grid_own (h : Owns w B (grid g n vs L F)) : w.ownsRow B 35 1 (.slice (some ⟨g, 0, none⟩) n n) n vs := h.own (gRow g n vs) (List.mem_cons_self ..)
theorem grid_vs (h : Owns w B (grid g n vs L F)) : vs.length = n := by simpa using (grid_own h).1
theorem grid_at (h : Owns w B (grid g n vs L F)) (hL : L.length = n) {t : Nat} (ht : t < n) : w.ownsRow B 3 1 (vs[t]'(by rw [grid_vs h]; exact ht)) (L[t]'(by omega)).length ((L[t]'(by omega)).map (.int .i64)) := by
  have h1 := h.own _ (List.getElem_mem (show t + 1 < (grid g n vs L F).length by rw [grid_len (grid_vs h) hL]; omega))
  rw [grid_row (grid_vs h) hL ht] at h1
  exact h1
theorem grid_in {r : Rw} (h : Owns w B (grid g n vs L F)) (hr : r ∈ F) : r.own w B := h.own r (List.mem_cons_of_mem _ (List.mem_append_right _ hr))
theorem grid_cell (h : Owns w B (grid g n vs L F)) {t : Nat} (ht : t < n) : w.cell? ⟨g, t, none⟩ = some (vs[t]'(by rw [grid_vs h]; exact ht)) := by
  rw [World.ownsRow.cellAt (grid_own h) t (by omega)]
  simp [grid_vs h, ht]
theorem grid_apart (h : Owns w B (grid g n vs L F)) (hL : L.length = n) {t : Nat} (ht : t < n) : some g ≠ (vs[t]'(by rw [grid_vs h]; exact ht)).ownBlock := by
  have hp := List.pairwise_iff_getElem.1 h.apart 0 (t + 1) (by rw [grid_len (grid_vs h) hL]; omega) (by rw [grid_len (grid_vs h) hL]; omega) (by omega)
  rw [grid_row (grid_vs h) hL ht] at hp
  rcases hp with hp | hp | hp
  · cases hp
  · intro e
    simp only [lRow] at hp
    rw [hp] at e; cases e
  · exact hp
theorem grid_apartF (h : Owns w B (grid g n vs L F)) (hL : L.length = n) {t j b : Nat} (ht : t < n) (hj : j < F.length) (hb : F[j].v.ownBlock = some b) : some b ≠ (vs[t]'(by rw [grid_vs h]; exact ht)).ownBlock := by
  have hp := List.pairwise_iff_getElem.1 h.apart (t + 1) (1 + n + j) (by rw [grid_len (grid_vs h) hL]; omega) (by rw [grid_len (grid_vs h) hL]; omega) (by omega)
  rw [grid_row (grid_vs h) hL ht, grid_F (grid_vs h) hL hj] at hp
  rcases hp with hp | hp | hp
  · intro e
    simp only [lRow] at hp
    rw [hp] at e; cases e
  · rw [hb] at hp; cases hp
  · rw [hb] at hp; exact Ne.symm hp
/-- 'rows[t] = append(rows[t], x)' -/
theorem grid_push {w1 w2 : World} (h : Owns w B (grid g n vs L F)) (hL : L.length = n) {t : Nat} (ht : t < n) {x : Int} {v' : Value} (h1 : w.grownBy w1 none)
    (hg : w1.grownBy w2 (vs[t]'(by rw [grid_vs h]; exact ht)).ownBlock) (ho : w2.ownsRow B 3 1 v' ((L[t]'(by omega)).length + 1) ((L[t]'(by omega)).map (.int .i64) ++ [.int .i64 x]))
    (hl : ∀ k, v'.ownBlock = some k → (vs[t]'(by rw [grid_vs h]; exact ht)).ownBlock = some k ∨ w1.heap.size ≤ k) :
    Owns (w2.setCell ⟨g, t, none⟩ v') B (grid g n (vs.set t v') (L.set t (L[t]'(by omega) ++ [x])) F) := by
  have hv := grid_vs h
  have hlen : t + 1 < (grid g n vs L F).length := by rw [grid_len hv hL]; omega
  have h2 := (h.grow h1).set (i := t + 1) hlen (r := lRow v' (L[t]'(by omega) ++ [x])) (by rw [grid_row hv hL ht]; exact hg) (by show w2.ownsRow B 3 1 v' (L[t] ++ [x]).length ((L[t] ++ [x]).map (.int .i64)); simpa using ho) (fun k hk => by rw [grid_row hv hL ht]; exact hl k hk)
  have e1 : (grid g n vs L F).set (t + 1) (lRow v' (L[t]'(by omega) ++ [x])) = gRow g n vs :: (rowsOf (vs.set t v') (L.set t (L[t]'(by omega) ++ [x])) ++ F) := by
    simp only [grid, List.set_cons_succ]
    rw [List.set_append_left _ _ (by rw [rowsOf_len hv hL]; exact ht), rowsOf_set]
  rw [e1] at h2
  have h3 := (h2.store (i := 0) (by simp) (g := g) (n := n) (cap := n) (e := 35) (sz := 1) (xs := vs) rfl t v').1
  simpa [grid, gRow] using h3
/-- a store into a row of F -/
theorem grid_store (h : Owns w B (grid g n vs L F)) (hL : L.length = n) {j : Nat} (hj : j < F.length) {g' n' cap : Nat} {e : TypeId} {sz : Nat} {xs : List Value} (hF : F[j] = ⟨.slice (some ⟨g', 0, none⟩) n' cap, e, sz, n', xs⟩) (i : Nat) (u : Value) :
    Owns (w.setCell ⟨g', i, none⟩ u) B (grid g n vs L (F.set j ⟨.slice (some ⟨g', 0, none⟩) n' cap, e, sz, n', xs.set i u⟩)) := by
  have hv := grid_vs h
  have h1 := (h.store (i := 1 + n + j) (by rw [grid_len hv hL]; omega) (by rw [grid_F hv hL hj]; exact hF) i u).1
  have e1 : (grid g n vs L F).set (1 + n + j) ⟨.slice (some ⟨g', 0, none⟩) n' cap, e, sz, n', xs.set i u⟩ = grid g n vs L (F.set j ⟨.slice (some ⟨g', 0, none⟩) n' cap, e, sz, n', xs.set i u⟩) := by
    simp only [grid, show 1 + n + j = (n + j) + 1 by omega, List.set_cons_succ]
    rw [List.set_append_right _ _ (by rw [rowsOf_len hv hL]; omega), rowsOf_len hv hL, Nat.add_sub_cancel_left]
  rw [e1] at h1
  exact h1
end
theorem pair_perm {R R' : List Rw} (hp : R.Perm R') {w : World} {B : Nat} (h : Owns w B R) : Owns w B R' :=
  ⟨fun r hr => h.own r (hp.mem_iff.2 hr), (hp.pairwise_iff (fun h => h.symm)).1 h.apart⟩
/-- one row more in F, ahead of the others -/
theorem grid_add {w w' : World} {B g n : Nat} {vs : List Value} {L : List (List Int)} {F : List Rw} {r : Rw} (h : Owns w B (grid g n vs L F)) (hg : w.grownBy w' none) (hr : r.own w' B) (hf : ∀ k, r.v.ownBlock = some k → w.heap.size ≤ k) :
    Owns w' B (grid g n vs L (r :: F)) := by
  refine pair_perm ?_ (h.add hg hr hf)
  refine (List.Perm.swap ..).trans (List.Perm.cons _ ?_)
  exact List.perm_middle.symm
theorem grid_drop {w : World} {B g n : Nat} {vs : List Value} {L : List (List Int)} {F : List Rw} {r : Rw} (h : Owns w B (grid g n vs L (r :: F))) : Owns w B (grid g n vs L F) := by
  have : Owns w B (r :: grid g n vs L F) := pair_perm (by
    refine List.Perm.trans ?_ (List.Perm.swap ..)
    exact List.Perm.cons _ List.perm_middle) h
  exact this.tail
theorem box_own (w : World) (E : Ed) (B : Nat) (hB : B ≤ w.heap.size) : (bRow w.heap.size E).own (w.alloc (.cells #[.int .i64 E.head, .slice E.ta E.tails.length E.tc, .int .i64 E.cost, .int .i64 E.l0, .int .i64 E.l1] 38)) B :=
  World.ownsRow_lit (e := 38) (size := 5) (base := B) w #[.int .i64 E.head, .slice E.ta E.tails.length E.tc, .int .i64 E.cost, .int .i64 E.l0, .int .i64 E.l1] 1 hB (by decide) rfl
/-- a new grid -/
theorem grid_new (w : World) (B n : Nat) (hB : B ≤ w.heap.size) (hn : n ≤ maxLen) : Owns (w.alloc (.cells (madeCells #[.slice none 0 0] n) 35)) B (grid w.heap.size n (List.replicate n (.slice none 0 0)) (List.replicate n []) []) := by
  have h1 := own_made w (.slice none 0 0) n 35 B hB hn
  have hv : ∀ r ∈ rowsOf (List.replicate n (Value.slice none 0 0)) (List.replicate n ([] : List Int)), r = lRow (.slice none 0 0) [] := fun r hr => by
    unfold rowsOf at hr
    obtain ⟨i, hi, rfl⟩ := List.mem_iff_getElem.1 hr
    simp
  refine ⟨fun r hr => ?_, ?_⟩
  · rcases List.mem_cons.1 hr with rfl | hr
    · exact h1
    · rw [List.append_nil] at hr
      rw [hv r hr]
      exact World.ownsRow_nil _ _ _ _
  · refine List.pairwise_cons.2 ⟨fun r hr => ?_, ?_⟩
    · rw [List.append_nil] at hr
      rw [hv r hr]
      exact Or.inr (Or.inl rfl)
    · rw [List.append_nil, List.pairwise_iff_getElem]
      intro i j hi hj _
      rw [hv _ (List.getElem_mem hi)]
      exact Or.inl rfl

theorem bRow_cells {w : World} {B b : Nat} {E : Ed} (h : (bRow b E).own w B) : w.cell? ⟨b, 0, none⟩ = some (.int .i64 E.head) ∧ w.cell? ⟨b, 1, none⟩ = some (.slice E.ta E.tails.length E.tc) ∧ b < w.heap.size :=
  have h0 : w.ownsRow B 38 5 (.slice (some ⟨b, 0, none⟩) 1 1) 1 [.int .i64 E.head, .slice E.ta E.tails.length E.tc, .int .i64 E.cost, .int .i64 E.l0, .int .i64 E.l1] := h
  ⟨(World.ownsRow.cellAt h0 0 (by omega)).trans rfl, (World.ownsRow.cellAt h0 1 (by omega)).trans rfl, (World.ownsRow.lt h0 b rfl).2⟩
/-- what a round asks of the grid: the row at t, apart from the grid and from the edge box -/
theorem grid_look {w : World} {B g n b t : Nat} {E : Ed} {vs : List Value} {L : List (List Int)} {F : List Rw} (h : Owns w B (grid g n vs L (bRow b E :: F))) (hL : L.length = n) (ht : t < n) :
    ∃ V l, vs[t]? = some V ∧ L[t]? = some l ∧ w.cell? ⟨g, t, none⟩ = some V ∧ w.frozen? ⟨g, t, none⟩ = false ∧ w.ownsRow B 3 1 V l.length (l.map (.int .i64)) ∧ some g ≠ V.ownBlock ∧ some b ≠ V.ownBlock ∧ g < w.heap.size := by
  have hv := grid_vs h
  exact ⟨vs[t], L[t], List.getElem?_eq_getElem (by omega), List.getElem?_eq_getElem (by omega), grid_cell h ht, World.ownsRow.frozenAt (grid_own h) t, grid_at h hL ht, grid_apart h hL ht, grid_apartF (j := 0) h hL ht (by simp) rfl,
    (World.ownsRow.lt (grid_own h) g rfl).2⟩
theorem grid_pushV {w w1 w2 : World} {B g n t : Nat} {vs : List Value} {L : List (List Int)} {F : List Rw} (h : Owns w B (grid g n vs L F)) (hL : L.length = n) (ht : t < n) {x : Int} {V v' : Value} {l : List Int} (hV : vs[t]? = some V) (hl : L[t]? = some l) (h1 : w.grownBy w1 none)
    (hg : w1.grownBy w2 V.ownBlock) (ho : w2.ownsRow B 3 1 v' (l.length + 1) (l.map (.int .i64) ++ [.int .i64 x])) (hk : ∀ k, v'.ownBlock = some k → V.ownBlock = some k ∨ w1.heap.size ≤ k) :
    Owns (w2.setCell ⟨g, t, none⟩ v') B (grid g n (vs.set t v') (L.set t (l ++ [x])) F) := by
  have hv := grid_vs h
  have e1 : vs[t]'(by omega) = V := by rw [List.getElem?_eq_getElem (by omega)] at hV; exact Option.some.inj hV
  have e2 : L[t]'(by omega) = l := by rw [List.getElem?_eq_getElem (by omega)] at hl; exact Option.some.inj hl
  subst e1
  subst e2
  exact grid_push h hL ht h1 hg ho hk

/-- the grid, what else is owned, and what stands below B -/
structure GSt (W0 : World) (B g n : Nat) (vs : List Value) (L : List (List Int)) (F : List Rw) (wr : World) : Prop where
  owns : Owns wr B (grid g n vs L F)
  len : L.length = n
  below : Below B W0 wr
theorem GSt.gt {W0 wr : World} {B g n : Nat} {vs : List Value} {L : List (List Int)} {F : List Rw} (h : GSt W0 B g n vs L F wr) : B ≤ g ∧ g < wr.heap.size := World.ownsRow.lt (grid_own h.owns) g rfl
theorem GSt.push {W0 w1 wa wb : World} {B g n t g1 cap1 : Nat} {vs : List Value} {L : List (List Int)} {F : List Rw} (h : GSt W0 B g n vs L F w1) (ht : t < n) {x : Int} {V : Value} {l : List Int} (hV : vs[t]? = some V) (hl : L[t]? = some l)
    (h1 : w1.grownBy wa none) (hg : wa.grownBy wb V.ownBlock) (ho : wb.ownsRow B 3 1 (.slice (some ⟨g1, 0, none⟩) (l.length + 1) cap1) (l.length + 1) (l.map (.int .i64) ++ [.int .i64 x])) (hat : V.ownBlock = some g1 ∨ g1 = wa.heap.size) :
    GSt W0 B g n (vs.set t (.slice (some ⟨g1, 0, none⟩) (l.length + 1) cap1)) (L.set t (l ++ [x])) F (wb.setCell ⟨g, t, none⟩ (.slice (some ⟨g1, 0, none⟩) (l.length + 1) cap1)) := by
  have hgt := h.gt
  refine ⟨grid_pushV h.owns h.len ht hV hl h1 hg ho (fun k hk => ?_), by simpa using h.len, ?_⟩
  · cases hk
    rcases hat with h2 | h2
    · exact Or.inl h2
    · exact Or.inr (Nat.le_of_eq h2.symm)
  · have hv := grid_vs h.owns
    have e1 : vs[t]'(by omega) = V := by rw [List.getElem?_eq_getElem (by omega)] at hV; exact Option.some.inj hV
    have hog := grid_at h.owns h.len ht
    rw [e1] at hog
    refine ((h.below.grown h1 (by omega) (fun k hk => by cases hk)).grown hg (by have := h1.size; omega) (fun k hk => (World.ownsRow.lt hog k hk).1)).setCell (p := ⟨g, t, none⟩) hgt.1 _
theorem GSt.drop {W0 wr : World} {B g n : Nat} {vs : List Value} {L : List (List Int)} {F : List Rw} {r : Rw} (h : GSt W0 B g n vs L (r :: F) wr) : GSt W0 B g n vs L F wr := ⟨grid_drop h.owns, h.len, h.below⟩
theorem GSt.add {W0 wr w' : World} {B g n : Nat} {vs : List Value} {L : List (List Int)} {F : List Rw} {r : Rw} (h : GSt W0 B g n vs L F wr) (hg : wr.grownBy w' none) (hr : r.own w' B) (hf : ∀ k, r.v.ownBlock = some k → wr.heap.size ≤ k) : GSt W0 B g n vs L (r :: F) w' :=
  ⟨grid_add h.owns hg hr hf, h.len, h.below.grown hg (by have := h.gt; omega) (fun k hk => by cases hk)⟩
theorem GSt.box {W0 wr : World} {B g n : Nat} {vs : List Value} {L : List (List Int)} {F : List Rw} (h : GSt W0 B g n vs L F wr) (E : Ed) :
    GSt W0 B g n vs L (bRow wr.heap.size E :: F) (wr.alloc (.cells #[.int .i64 E.head, .slice E.ta E.tails.length E.tc, .int .i64 E.cost, .int .i64 E.l0, .int .i64 E.l1] 38)) :=
  h.add (World.grownBy_alloc _ _ none) (box_own wr E B (by have := h.gt; omega)) (fun k hk => by cases hk; exact Nat.le_refl _)
theorem GSt.store {W0 wr : World} {B g n : Nat} {vs : List Value} {L : List (List Int)} {F : List Rw} (h : GSt W0 B g n vs L F wr) {j : Nat} (hj : j < F.length) {g' n' cap : Nat} {e : TypeId} {sz : Nat} {xs : List Value} (hF : F[j] = ⟨.slice (some ⟨g', 0, none⟩) n' cap, e, sz, n', xs⟩) (i : Nat) (u : Value) :
    GSt W0 B g n vs L (F.set j ⟨.slice (some ⟨g', 0, none⟩) n' cap, e, sz, n', xs.set i u⟩) (wr.setCell ⟨g', i, none⟩ u) :=
  ⟨grid_store h.owns h.len hj hF i u, h.len, h.below.setCell (p := ⟨g', i, none⟩) (World.ownsRow.lt (by have := grid_in h.owns (List.getElem_mem hj); rw [hF] at this; exact this) g' rfl).1 _⟩
end Go.Proofs.Ytjhdhnkikgmpoaa
