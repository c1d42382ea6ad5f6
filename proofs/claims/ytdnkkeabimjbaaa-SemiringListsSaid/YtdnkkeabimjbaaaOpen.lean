/- An argument that is a list of ints or of api.Values, opened to its cells. -/
import Derived.Test.YtdnkkeabimjbaaaClose
import Derived.Test.YtdnkkeabimjbaaaFold
import Derived.Deep.Slices
namespace Go.Proofs.Ytdnkkeabimjbaaa
open Go.ChangeShapes Go.WideShapes Go.ChangeAt Go.RowKit Go.Joins

section
variable {H : Type} {enc : TypeId × Value → H} {P : Program} {w : World} {base : Nat} {spare : Nat → Bool} {held : Bool}
theorem open_intRow {r : Reach} {b0 : Nat} {t e : TypeId} {v : Value} {d : DataW H} {p : List MemPlace} (ht : P.underlying t = some (.slice e)) (he : P.underlying e = some (.int .i64)) (hc : P.cellsOf e = 1)
    (hv : Value.okWide P w r b0 t v) (h : DataW.Trod enc P w base spare held t v d p) : ∃ (A : Option Addr) (c : Nat) (xs : List Int), v = .slice A xs.length c ∧ xs.length ≤ maxLen ∧ IntRow w A xs := by
  obtain ⟨A, n, c, rfl⟩ := okWide_slice ht hv
  obtain ⟨fuel, hf⟩ := h
  rcases open_ints ht he hc hf with ⟨hcs, _⟩ | ⟨a, len, cap, zs, hcs, _, hl, hm, hz, _, hcell, _⟩
  · simp only [Value.cells, List.cons.injEq, Value.slice.injEq, and_true] at hcs
    obtain ⟨rfl, rfl, rfl⟩ := hcs
    exact ⟨none, 0, [], rfl, by simp, Or.inl rfl⟩
  · simp only [Value.cells, List.cons.injEq, Value.slice.injEq, and_true] at hcs
    obtain ⟨rfl, rfl, rfl⟩ := hcs
    have hnz : n ≤ zs.length := by rw [hz]; split <;> omega
    have hlen : (zs.take n).length = n := by simp; omega
    refine ⟨some a, c, zs.take n, by rw [hlen], by rw [hlen]; omega, ?_⟩
    by_cases h0 : n = 0
    · left; subst h0; simp
    · right
      obtain ⟨b, off, rfl, hat⟩ := ints_at hcell (by omega)
      refine ⟨b, off, rfl, ?_, fun i hi => ?_⟩
      · exact World.block_lt_of_cell? w ⟨b, off + 0, none⟩ (hat 0 (by omega))
      · rw [hat i (by omega)]
        have hi2 : i < zs.length := by rw [hlen] at hi; omega
        simp [List.getD, hi2]

/-- of two ints each -/
theorem open_valRow {r : Reach} {b0 : Nat} {t e i0 : TypeId} {f0 f1 : Field} {v : Value} {d : DataW H} {p : List MemPlace} (ht : P.underlying t = some (.slice e)) (he : P.underlying e = some (.struct #[f0, f1])) (hi : P.underlying i0 = some (.int .i64))
    (h0 : f0.type = i0 ∧ f0.offset = 0) (h1 : f1.type = i0 ∧ f1.offset = 1) (hci : P.cellsOf i0 = 1) (hc : P.cellsOf e = 2)
    (hv : Value.okWide P w r b0 t v) (h : DataW.Trod enc P w base spare held t v d p) : ∃ (A : Option Addr) (c : Nat) (xs : List (Int × Int)), v = .slice A xs.length c ∧ xs.length ≤ maxLen ∧ ValRow w A xs := by
  obtain ⟨A, n, c, rfl⟩ := okWide_slice ht hv
  obtain ⟨fuel, hf⟩ := h
  rcases Go.Deep.open_slice ht hf with ⟨hcs, _⟩ | ⟨a, len, cap, m, k, D, Pl, hcs, _, hl, hm, hmm, _, hat⟩
  · simp only [Value.cells, List.cons.injEq, Value.slice.injEq, and_true] at hcs
    obtain ⟨rfl, rfl, rfl⟩ := hcs
    exact ⟨none, 0, [], rfl, by simp, Or.inl rfl⟩
  · simp only [Value.cells, List.cons.injEq, Value.slice.injEq, and_true] at hcs
    obtain ⟨rfl, rfl, rfl⟩ := hcs
    have hnm : n ≤ m := by rw [hmm]; split <;> omega
    have hel : ∀ i, i < n → ∃ q : Int × Int, w.cell? (a.add (i * 2)) = some (.int .i64 q.1) ∧ w.cell? ((a.add (i * 2)).add 1) = some (.int .i64 q.2) := fun i hin => by
      obtain ⟨cs, hcs, htr⟩ := hat i (by omega)
      rw [hc] at hcs
      obtain ⟨_, hcl, hcells⟩ := World.cells?_some hcs
      obtain ⟨ys, n', _, _, _, hyl, hfl⟩ := DataW.trod_struct he htr
      match cs, hcl with
      | [c0, c1], _ =>
        have g0 := hfl 0 f0 rfl
        have g1 := hfl 1 f1 rfl
        rw [h0.1, h0.2, hci] at g0
        rw [h1.1, h1.2, hci] at g1
        have hy0 : ys[0]? = some (ys[0]'(by rw [hyl]; simp)) := List.getElem?_eq_getElem _
        have hy1 : ys[1]? = some (ys[1]'(by rw [hyl]; simp)) := List.getElem?_eq_getElem _
        obtain ⟨x, ex, _, _⟩ := DataW.trod_int hi (g0.trans hy0)
        obtain ⟨y, ey, _, _⟩ := DataW.trod_int hi (g1.trans hy1)
        simp at ex ey
        subst ex ey
        refine ⟨(x, y), ?_, ?_⟩
        · have := hcells 0 (by omega); simpa [Addr.add] using this
        · have := hcells 1 (by omega); simpa using this
    classical
    obtain ⟨q, hq⟩ := Go.Deep.choose_lt hel
    have hlen : ((List.range n).map q).length = n := by simp
    refine ⟨some a, c, (List.range n).map q, by rw [hlen], by rw [hlen]; omega, ?_⟩
    by_cases hz : n = 0
    · left; subst hz; rfl
    · right
      obtain ⟨b, off, spot⟩ := a
      have hspot : spot = none := by simpa [Addr.add] using World.cell?_spot (hq 0 (by omega)).1
      subst hspot
      refine ⟨b, off, rfl, ?_, fun i hin => ?_⟩
      · have := World.block_lt_of_cell? w _ (hq 0 (by omega)).1
        simpa [Addr.add] using this
      · rw [hlen] at hin
        obtain ⟨e0, e1⟩ := hq i hin
        rw [add_plain] at e0
        rw [add_plain, add_plain] at e1
        simp only [List.getElem_map, List.getElem_range]
        exact ⟨e0, e1⟩
end
end Go.Proofs.Ytdnkkeabimjbaaa
