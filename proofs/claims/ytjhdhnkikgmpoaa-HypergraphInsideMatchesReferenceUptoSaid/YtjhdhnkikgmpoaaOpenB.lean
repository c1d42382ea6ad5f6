/- An argument that is a hypergraph, or a list of ints, opened to its cells; how many tails there are, by the bulk of what is read. -/
import Derived.Test.YtjhdhnkikgmpoaaOpen
import Derived.Test.YtjhdhnkikgmpoaaBulk
import Derived.Test.YtjhdhnkikgmpoaaOrdP
namespace Go.Proofs.Ytjhdhnkikgmpoaa
open Go.ChangeShapes Go.WideShapes Go.ChangeAt Go.RowKit Go.Joins

theorem lits_len {H : Type} (k : IntKind) (zs : List Int) : (lits (H := H) k zs).length = zs.length := by simp [lits]
theorem occ_bulk {H : Type} (D : Nat → DataW H) (q : Nat → Ed) (l : List Nat) (h : ∀ i ∈ l, (q i).tails.length ≤ Rows.uptoBulk (D i)) : (occ (l.map q)).length ≤ Rows.uptoBulkAll (l.map D) := by
  induction l with
  | nil => simp [occ, Rows.uptoBulkAll]
  | cons i l ih =>
    have h1 := h i (List.mem_cons_self ..)
    have h2 := ih (fun j hj => h j (List.mem_cons_of_mem _ hj))
    unfold occ at h2 ⊢
    rw [List.map_cons, List.flatMap_cons, List.length_append, occE_len, List.map_cons]
    simp only [Rows.uptoBulkAll]
    omega
section
variable {H : Type} {enc : TypeId × Value → H} {w : World} {base : Nat} {spare : Nat → Bool} {held : Bool}
theorem open_irow_b {fuel : Nat} {v : Value} {x : DataW H × List MemPlace} (h : DataW.trod enc Try.prog w base spare held fuel 35 [v] = some x) :
    ∃ (A : Option Addr) (c : Nat) (xs : List Int), v = .slice A xs.length c ∧ xs.length ≤ maxLen ∧ IRow w A xs ∧ xs.length ≤ Rows.uptoBulk x.1 := by
  obtain ⟨A, c, xs, hv, hl, hr⟩ := open_irow h
  refine ⟨A, c, xs, hv, hl, hr, ?_⟩
  rcases open_ints Try.underlying35 Try.underlying3 cells3 h with ⟨hcs, rfl⟩ | ⟨a, n, c', zs, hcs, _, hlc, hm, hz, rfl, _, _⟩
  · simp only [List.cons.injEq, and_true] at hcs
    rw [hcs] at hv
    simp only [Value.slice.injEq] at hv
    omega
  · simp only [List.cons.injEq, and_true] at hcs
    rw [hcs] at hv
    simp only [Value.slice.injEq] at hv
    have h1 := bulks.slice_le (H := H) (lits .i64 (zs.take n)) (lits .i64 (zs.drop n))
    rw [lits_len, lits_len, List.length_take, List.length_drop] at h1
    have hnz : n ≤ zs.length := by rw [hz]; split <;> omega
    show xs.length ≤ Rows.uptoBulk (.slice (lits .i64 (zs.take n)) (lits .i64 (zs.drop n)))
    omega
theorem open_edge_b {fuel : Nat} {b o : Nat} {cs : List Value} {x : DataW H × List MemPlace} (hcs : cs.length = 5) (hcell : ∀ i, i < 5 → w.cell? ⟨b, o + i, none⟩ = cs[i]?) (h : DataW.trod enc Try.prog w base spare held fuel 38 cs = some x) : ∃ e : Ed, EdAt w b o e ∧ e.tails.length ≤ Rows.uptoBulk x.1 := by
  obtain ⟨ys, n', _, hx, _, hyl, hfl⟩ := DataW.trod_struct Try.underlying38 h
  match cs, hcs with
  | [c0, c1, c2, c3, c4], _ =>
    have g0 : DataW.trod enc Try.prog w base spare held n' 3 (([c0, c1, c2, c3, c4].drop 0).take (Try.prog.cellsOf 3)) = ys[0]? := hfl 0 _ rfl
    have g1 : DataW.trod enc Try.prog w base spare held n' 35 (([c0, c1, c2, c3, c4].drop 1).take (Try.prog.cellsOf 35)) = ys[1]? := hfl 1 _ rfl
    have g2 : DataW.trod enc Try.prog w base spare held n' 3 (([c0, c1, c2, c3, c4].drop 2).take (Try.prog.cellsOf 3)) = ys[2]? := hfl 2 _ rfl
    have g3 : DataW.trod enc Try.prog w base spare held n' 36 (([c0, c1, c2, c3, c4].drop 3).take (Try.prog.cellsOf 36)) = ys[3]? := hfl 3 _ rfl
    rw [cells3] at g0 g2
    rw [cells35] at g1
    rw [cells36] at g3
    have hy : ∀ i (h : i < 4), ys[i]? = some (ys[i]'(by rw [hyl]; exact h)) := fun i h => List.getElem?_eq_getElem _
    obtain ⟨x0, e0, _, _⟩ := DataW.trod_int Try.underlying3 (g0.trans (hy 0 (by omega)))
    obtain ⟨A, c, xs, e1, hxl, hrow, hbk⟩ := open_irow_b (v := c1) (g1.trans (hy 1 (by omega)))
    obtain ⟨x2, e2, _, _⟩ := DataW.trod_int Try.underlying3 (g2.trans (hy 2 (by omega)))
    obtain ⟨x3, x4, e3, e4⟩ := open_lab (v0 := c3) (v1 := c4) (g3.trans (hy 3 (by omega)))
    simp at e0 e2
    subst e0 e1 e2 e3 e4
    refine ⟨⟨x0, xs, x2, x3, x4, A, c⟩, ⟨hcell 0 (by omega), hcell 1 (by omega), hcell 2 (by omega), hcell 3 (by omega), hcell 4 (by omega), hrow, hxl⟩, ?_⟩
    have hmem : (ys[1]'(by rw [hyl]; exact (by decide : 1 < 4))).1 ∈ ys.map (·.1) := List.mem_map.2 ⟨_, List.getElem_mem _, rfl⟩
    have h2 := bulks.part_le hmem
    rw [hx]
    simp only [Rows.uptoBulk]
    show xs.length ≤ _
    omega
theorem open_edrow_b {fuel : Nat} {v : Value} {x : DataW H × List MemPlace} (h : DataW.trod enc Try.prog w base spare held fuel 22 [v] = some x) :
    ∃ (A : Option Addr) (c : Nat) (es : List Ed), v = .slice A es.length c ∧ es.length ≤ maxLen ∧ EdRow w A es ∧ (occ es).length ≤ Rows.uptoBulk x.1 := by
  rcases Go.Deep.open_slice Try.underlying22 h with ⟨hcs, _⟩ | ⟨a, n, c, m, k, D, Pl, hcs, _, hl, hm, hmm, hx, hat⟩
  · simp only [List.cons.injEq, and_true] at hcs
    subst hcs
    exact ⟨none, 0, [], rfl, by simp, Or.inl rfl, by simp [occ]⟩
  · simp only [List.cons.injEq, and_true] at hcs
    subst hcs
    have hnm : n ≤ m := by rw [hmm]; split <;> omega
    obtain ⟨b, off, spot⟩ := a
    by_cases hz : n = 0
    · subst hz
      exact ⟨_, c, [], rfl, by simp, Or.inl rfl, by simp [occ]⟩
    have hspot : spot = none := by
      obtain ⟨cs, hcs, _⟩ := hat 0 (by omega)
      rw [cells38] at hcs
      obtain ⟨_, hcl, hcells⟩ := World.cells?_some hcs
      have h1 := hcells 0 (by omega)
      rw [List.getElem?_eq_getElem (by omega)] at h1
      simpa [Addr.add] using World.cell?_spot h1
    subst hspot
    have hel : ∀ i, i < n → ∃ e : Ed, EdAt w b (off + i * 5) e ∧ e.tails.length ≤ Rows.uptoBulk (D i) := fun i hin => by
      obtain ⟨cs, hcs, htr⟩ := hat i (by omega)
      rw [cells38] at hcs
      obtain ⟨_, hcl, hcells⟩ := World.cells?_some hcs
      exact open_edge_b hcl (fun j hj => by
        have := hcells j (by omega)
        rw [add_plain, add_plain] at this
        exact this) htr
    have : Inhabited Ed := ⟨⟨0, [], 0, 0, 0, none, 0⟩⟩
    classical
    obtain ⟨q, hq⟩ := Go.Deep.choose_lt hel
    have hlen : ((List.range n).map q).length = n := by simp
    refine ⟨_, c, (List.range n).map q, by rw [hlen], by rw [hlen]; omega, Or.inr ⟨b, off, rfl, ?_, fun i hin => ?_⟩, ?_⟩
    · exact World.block_lt_of_cell? w _ (hq 0 (by omega)).1.head
    · rw [hlen] at hin
      simp only [List.getElem_map, List.getElem_range]
      exact (hq i hin).1
    · have h3 := occ_bulk D q (List.range n) (fun i hi => (hq i (List.mem_range.1 hi)).2)
      rw [hx]
      show (occ ((List.range n).map q)).length ≤ Rows.uptoBulk (.slice ((List.range n).map D) ((List.range (m - n)).map fun j => D (n + j)))
      have h4 := bulks.slice_elems ((List.range n).map D) ((List.range (m - n)).map fun j => D (n + j))
      omega
theorem open_graph_b {r : Reach} {b0 : Nat} {v : Value} {d : DataW H} {p : List MemPlace} (hv : Value.okWide Try.prog w r b0 24 v) (h : DataW.Trod enc Try.prog w base spare held 24 v d p) :
    ∃ (A : Option Addr) (c : Nat) (n : Int) (es : List Ed), v = .agg #[.int .i64 n, .slice A es.length c] ∧ es.length ≤ maxLen ∧ EdRow w A es ∧ (occ es).length ≤ Rows.uptoBulk d := by
  obtain ⟨v0, v1, y0, y1, k, rfl, rfl, _, h0, h1⟩ := open_agg2 Try.underlying24 (by kernel_rfl) cells24 hv h
  obtain ⟨n, e0, _, _⟩ := DataW.trod_int Try.underlying3 h0
  simp at e0
  subst e0
  obtain ⟨A, c, es, rfl, hl, hr, hb⟩ := open_edrow_b h1
  refine ⟨A, c, n, es, rfl, hl, hr, ?_⟩
  have h2 := bulks.part_le (show y1.1 ∈ [y0.1, y1.1] from List.mem_cons_of_mem _ (List.mem_cons_self ..))
  simp only [Rows.uptoBulk]
  omega
theorem open_ints_b {r : Reach} {b0 : Nat} {v : Value} {d : DataW H} {p : List MemPlace} (hv : Value.okWide Try.prog w r b0 35 v) (h : DataW.Trod enc Try.prog w base spare held 35 v d p) :
    ∃ (A : Option Addr) (c : Nat) (xs : List Int), v = .slice A xs.length c ∧ xs.length ≤ maxLen ∧ IRow w A xs ∧ xs.length ≤ Rows.uptoBulk d := by
  obtain ⟨A, n, c, rfl⟩ := okWide_slice Try.underlying35 hv
  obtain ⟨fuel, hf⟩ := h
  exact open_irow_b hf
end
end Go.Proofs.Ytjhdhnkikgmpoaa
