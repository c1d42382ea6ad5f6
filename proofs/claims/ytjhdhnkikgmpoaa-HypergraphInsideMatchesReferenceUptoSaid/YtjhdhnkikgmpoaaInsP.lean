/- What Inside computes, in plain Lean; the list of values in memory. -/
import Derived.Test.YtjhdhnkikgmpoaaAlg
namespace Go.Proofs.Ytjhdhnkikgmpoaa
open Go.RowKit Go.Deep

section
variable {α : Type} (add mul : α → α → α) (zero d : α)
def mulT (out : List α) (x : α) (ts : List Int) : α := ts.foldl (fun x t => mul x (out.getD t.toNat d)) x
def sumV (es : List Ed) (ws out : List α) (l : List Int) : α := l.foldl (fun s i => add s (mulT mul d out (ws.getD i.toNat d) (tailsA es i.toNat))) zero
def insGo (es : List Ed) (ws out : List α) (ls : List Int) : List α := ls.foldl (fun out v => out.set v.toNat (sumV add mul zero d es ws out (idx es es.length v))) out
/-- the error's number, and the values -/
def insS (n : Int) (es : List Ed) (ws : List α) : Int × List α :=
  if validB n es = true ∧ ws.length = es.length then
    match ordL n.toNat es with
    | none => (9, [])
    | some ls => (0, insGo add mul zero d es ws (List.replicate n.toNat d) ls)
  else (1, [])
variable {add mul zero d}
theorem insGo_len (es : List Ed) (ws : List α) (ls : List Int) : ∀ (out : List α), (insGo add mul zero d es ws out ls).length = out.length := by
  induction ls with
  | nil => intro out; rfl
  | cons v ls ih => intro out; exact (ih _).trans (by simp)
theorem foldl_step {β γ : Type} (f : γ → β → γ) (s : γ) (xs : List β) (k : Nat) (h : k < xs.length) : (xs.take (k + 1)).foldl f s = f ((xs.take k).foldl f s) xs[k] := by
  rw [List.take_succ_eq_append_getElem h, List.foldl_append]; rfl
theorem foldl_ok {β γ : Type} {P : γ → Prop} (f : γ → β → γ) (s : γ) (xs : List β) (hs : P s) (h : ∀ s x, P s → x ∈ xs → P (f s x)) : P (xs.foldl f s) := by
  induction xs generalizing s with
  | nil => exact hs
  | cons x xs ih => exact ih _ (h s x hs (List.mem_cons_self ..)) (fun s y h1 hy => h s y h1 (List.mem_cons_of_mem _ hy))
theorem getD_ok {P : α → Prop} {l : List α} {i : Nat} {d : α} (h : ∀ x ∈ l, P x) (hd : P d) : P (l.getD i d) := by
  rw [List.getD_eq_getElem?_getD]
  cases hi : l[i]? with
  | none => exact hd
  | some x => exact h x (List.mem_of_getElem? hi)
theorem mulT_ok {P : α → Prop} (hm : ∀ a b, P a → P b → P (mul a b)) (hd : P d) {out : List α} (ho : ∀ x ∈ out, P x) {x : α} (hx : P x) (ts : List Int) : P (mulT mul d out x ts) :=
  foldl_ok _ _ _ hx (fun _ _ hs _ => hm _ _ hs (getD_ok ho hd))
theorem sumV_ok {P : α → Prop} (ha : ∀ a b, P a → P b → P (add a b)) (hm : ∀ a b, P a → P b → P (mul a b)) (hz : P zero) (hd : P d) {out ws : List α} (ho : ∀ x ∈ out, P x) (hw : ∀ x ∈ ws, P x) (es : List Ed) (l : List Int) : P (sumV add mul zero d es ws out l) :=
  foldl_ok _ _ _ hz (fun _ _ hs _ => ha _ _ hs (mulT_ok hm hd ho (getD_ok hw hd) _))
theorem set_ok {P : α → Prop} {l : List α} (h : ∀ x ∈ l, P x) {x : α} (hx : P x) (i : Nat) : ∀ y ∈ l.set i x, P y := fun y hy => by
  rcases List.mem_or_eq_of_mem_set hy with h1 | rfl
  · exact h y h1
  · exact hx
theorem insGo_ok {P : α → Prop} (ha : ∀ a b, P a → P b → P (add a b)) (hm : ∀ a b, P a → P b → P (mul a b)) (hz : P zero) (hd : P d) {ws : List α} (hw : ∀ x ∈ ws, P x) (es : List Ed) (ls : List Int) (out : List α) (ho : ∀ x ∈ out, P x) : ∀ x ∈ insGo add mul zero d es ws out ls, P x :=
  foldl_ok (P := fun out : List α => ∀ x ∈ out, P x) _ _ _ ho (fun _ _ h1 _ => set_ok h1 (sumV_ok ha hm hz hd h1 hw es _) _)
end

/-- what is handed back -/
def InsPost {α : Type} (w : World) (enc : α → Value) (r : Int × List α) (e : Ending) (w' : World) : Prop :=
  Below w.heap.size w w' ∧ ∃ A cap, e = .returned (.tuple #[.slice A r.2.length cap, .int .i64 r.1]) ∧ VRow w' A (r.2.map enc) ∧ (r.1 ≠ 0 → A = none ∧ cap = 0)

/-- the order's members are nodes -/
theorem ordGo_mem {es : List Ed} {n : Nat} : ∀ (f : Nat) (bs : List Bool) (ls r : List Int), ordGo es n f bs ls = some r → (∀ x ∈ ls, ∃ v : Nat, x = v ∧ v < n) → ∀ x ∈ r, ∃ v : Nat, x = v ∧ v < n
  | 0, bs, ls, r, h, hl => by cases h; exact hl
  | f + 1, bs, ls, r, h, hl => by
    simp only [ordGo] at h
    cases hf : firstR es n bs with
    | none => rw [hf] at h; cases h
    | some v =>
      rw [hf] at h
      have hv : v < n := by
        have := List.mem_of_find?_eq_some hf
        exact List.mem_range.1 this
      refine ordGo_mem f _ _ r h (fun x hx => ?_)
      rcases List.mem_append.1 hx with h1 | h1
      · exact hl x h1
      · rw [List.mem_singleton] at h1
        exact ⟨v, h1, hv⟩
theorem ordL_mem {es : List Ed} {n : Nat} {ls : List Int} (h : ordL n es = some ls) {x : Int} (hx : x ∈ ls) : ∃ v : Nat, x = v ∧ v < n := ordGo_mem n _ _ _ h (fun _ h => by cases h) x hx
theorem ordGo_len {es : List Ed} {n : Nat} : ∀ (f : Nat) (bs : List Bool) (ls r : List Int), ordGo es n f bs ls = some r → r.length = ls.length + f
  | 0, bs, ls, r, h => by cases h; rfl
  | f + 1, bs, ls, r, h => by
    simp only [ordGo] at h
    cases hf : firstR es n bs with
    | none => rw [hf] at h; cases h
    | some v =>
      rw [hf] at h
      have := ordGo_len f _ _ r h
      simp at this
      omega
theorem ordL_len {es : List Ed} {n : Nat} {ls : List Int} (h : ordL n es = some ls) : ls.length = n := by
  have := ordGo_len n _ _ _ h
  simpa using this

/-- a row of n values in block D, and what stands below it -/
structure OutSt (W0 : World) (D n : Nat) (ty : TypeId) (xs : List Value) (wr : World) : Prop where
  own : wr.ownsRow D ty 1 (.slice (some ⟨D, 0, none⟩) n n) n xs
  below : Below D W0 wr
theorem OutSt.go {W0 wr w2 : World} {D n : Nat} {ty : TypeId} {xs : List Value} (h : OutSt W0 D n ty xs wr) (hb : Below wr.heap.size wr w2) : OutSt W0 D n ty xs w2 :=
  ⟨World.ownsRow.kept h.own (grown_of_below hb) (by simp [Value.ownBlock]), h.below.trans (hb.mono (Nat.le_of_lt (World.ownsRow.lt h.own D rfl).2))⟩
theorem OutSt.lt {W0 wr : World} {D n : Nat} {ty : TypeId} {xs : List Value} (h : OutSt W0 D n ty xs wr) : D < wr.heap.size := (World.ownsRow.lt h.own D rfl).2
theorem OutSt.set {W0 wr : World} {D n : Nat} {ty : TypeId} {xs : List Value} (h : OutSt W0 D n ty xs wr) (j : Nat) (u : Value) : OutSt W0 D n ty (xs.set j u) (wr.setCell ⟨D, j, none⟩ u) := by
  obtain ⟨h1, h2⟩ := World.ownsRow.stored h.own j u
  exact ⟨h1, h.below.setCell (Nat.le_refl _) _⟩
theorem OutSt.cell {α : Type} {enc : α → Value} {W0 wr : World} {D n : Nat} {ty : TypeId} {xs : List α} (h : OutSt W0 D n ty (xs.map enc) wr) (d : α) {v : Nat} (hv : v < n) : wr.cell? ⟨D, v, none⟩ = some (enc (xs.getD v d)) ∧ wr.frozen? ⟨D, v, none⟩ = false := by
  have hl : xs.length = n := by simpa using h.own.1
  refine ⟨?_, World.ownsRow.frozenAt h.own v⟩
  rw [World.ownsRow.cellAt h.own v (by omega)]
  simp [show v < xs.length by omega]
theorem OutSt.row {W0 wr : World} {D n : Nat} {ty : TypeId} {xs : List Value} (h : OutSt W0 D n ty xs wr) : VRow wr (some ⟨D, 0, none⟩) xs := by
  obtain ⟨A, cap, hA, hr⟩ := own_vrow h.own
  cases hA
  exact hr
theorem OutSt.new (w : World) (z : Value) (n : Nat) (ty : TypeId) (hn : n ≤ maxLen) : OutSt (w.alloc (.cells (madeCells #[z] n) ty)) w.heap.size n ty (List.replicate n z) (w.alloc (.cells (madeCells #[z] n) ty)) :=
  ⟨own_made w z n ty w.heap.size (Nat.le_refl _) hn, Below.refl _ _⟩
end Go.Proofs.Ytjhdhnkikgmpoaa
