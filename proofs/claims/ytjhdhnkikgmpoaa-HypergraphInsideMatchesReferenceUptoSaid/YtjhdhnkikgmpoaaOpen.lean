/- An argument that is a hypergraph, or a list of ints, opened to its cells. -/
import Derived.Test.YtjhdhnkikgmpoaaClose
import Derived.Test.YtjhdhnkikgmpoaaRep
import Derived.Deep.Slices
namespace Go.Proofs.Ytjhdhnkikgmpoaa
open Go.ChangeShapes Go.WideShapes Go.ChangeAt Go.RowKit Go.Joins

theorem cells3 : Try.prog.cellsOf 3 = 1 := by kernel_rfl
theorem cells35 : Try.prog.cellsOf 35 = 1 := by kernel_rfl
theorem cells36 : Try.prog.cellsOf 36 = 2 := by kernel_rfl
theorem cells38 : Try.prog.cellsOf 38 = 5 := by kernel_rfl
theorem cells24 : Try.prog.cellsOf 24 = 2 := by kernel_rfl
section
variable {H : Type} {enc : TypeId × Value → H} {w : World} {base : Nat} {spare : Nat → Bool} {held : Bool}
theorem open_irow {fuel : Nat} {v : Value} {x : DataW H × List MemPlace} (h : DataW.trod enc Try.prog w base spare held fuel 35 [v] = some x) :
    ∃ (A : Option Addr) (c : Nat) (xs : List Int), v = .slice A xs.length c ∧ xs.length ≤ maxLen ∧ IRow w A xs := by
  rcases open_ints Try.underlying35 Try.underlying3 cells3 h with ⟨hcs, _⟩ | ⟨a, n, c, zs, hcs, _, hl, hm, hz, _, hcell, _⟩
  · simp only [List.cons.injEq, and_true] at hcs
    subst hcs
    exact ⟨none, 0, [], rfl, by simp, Or.inl rfl⟩
  · simp only [List.cons.injEq, and_true] at hcs
    subst hcs
    have hnz : n ≤ zs.length := by rw [hz]; split <;> omega
    have hlen : (zs.take n).length = n := by simp; omega
    refine ⟨some a, c, zs.take n, by rw [hlen], by rw [hlen]; omega, ?_⟩
    by_cases h0 : n = 0
    · left; subst h0; simp
    · right
      obtain ⟨b, off, rfl, hat⟩ := ints_at hcell (by omega)
      refine ⟨b, off, rfl, ?_, fun i hi => ?_⟩
      · exact World.block_lt_of_cell? w ⟨b, off + 0, none⟩ (hat 0 (by omega))
      · rw [List.length_map, hlen] at hi
        rw [hat i (by omega)]
        have hi2 : i < zs.length := by omega
        simp [hi2]
theorem open_lab {fuel : Nat} {v0 v1 : Value} {x : DataW H × List MemPlace} (h : DataW.trod enc Try.prog w base spare held fuel 36 [v0, v1] = some x) : ∃ a b : Int, v0 = .int .i64 a ∧ v1 = .int .i64 b := by
  match fuel, h with
  | k + 1, h =>
    unfold DataW.trod at h
    rw [Try.underlying36] at h
    have e2 : List.range 2 = [0, 1] := rfl
    simp only [cells3, cells36, e2, List.mapM_cons, List.mapM_nil, List.length_cons, List.length_nil] at h
    split at h <;> try cases h
    cases h0 : DataW.trod enc Try.prog w base spare held k 3 (List.take 1 (List.drop (0 * 1) [v0, v1])) with
    | none => rw [h0] at h; cases h
    | some y0 =>
      cases h1 : DataW.trod enc Try.prog w base spare held k 3 (List.take 1 (List.drop (1 * 1) [v0, v1])) with
      | none => rw [h0, h1] at h; cases h
      | some y1 =>
        obtain ⟨p, ep, _, _⟩ := DataW.trod_int Try.underlying3 h0
        obtain ⟨q, eq, _, _⟩ := DataW.trod_int Try.underlying3 h1
        simp at ep eq
        exact ⟨p, q, ep, eq⟩
theorem open_edge {fuel : Nat} {b o : Nat} {cs : List Value} {x : DataW H × List MemPlace} (hcs : cs.length = 5) (hcell : ∀ i, i < 5 → w.cell? ⟨b, o + i, none⟩ = cs[i]?) (h : DataW.trod enc Try.prog w base spare held fuel 38 cs = some x) : ∃ e : Ed, EdAt w b o e := by
  obtain ⟨ys, n', _, _, _, hyl, hfl⟩ := DataW.trod_struct Try.underlying38 h
  match cs, hcs with
  | [c0, c1, c2, c3, c4], _ =>
    have g0 : DataW.trod enc Try.prog w base spare held n' 3 (([c0, c1, c2, c3, c4].drop 0).take (Try.prog.cellsOf 3)) = ys[0]? := hfl 0 _ rfl
    have g1 : DataW.trod enc Try.prog w base spare held n' 35 (([c0, c1, c2, c3, c4].drop 1).take (Try.prog.cellsOf 35)) = ys[1]? := hfl 1 _ rfl
    have g2 : DataW.trod enc Try.prog w base spare held n' 3 (([c0, c1, c2, c3, c4].drop 2).take (Try.prog.cellsOf 3)) = ys[2]? := hfl 2 _ rfl
    have g3 : DataW.trod enc Try.prog w base spare held n' 36 (([c0, c1, c2, c3, c4].drop 3).take (Try.prog.cellsOf 36)) = ys[3]? := hfl 3 _ rfl
    rw [cells3] at g0 g2
    rw [cells35] at g1
    rw [cells36] at g3
    have hy : ∀ i (h : i < 4), ys[i]? = some (ys[i]'(by rw [hyl]; exact h)) := fun i h => List.getElem?_eq_getElem _
    obtain ⟨x0, e0, _, _⟩ := DataW.trod_int Try.underlying3 (g0.trans (hy 0 (by omega)))
    obtain ⟨A, c, xs, e1, hxl, hrow⟩ := open_irow (v := c1) (g1.trans (hy 1 (by omega)))
    obtain ⟨x2, e2, _, _⟩ := DataW.trod_int Try.underlying3 (g2.trans (hy 2 (by omega)))
    obtain ⟨x3, x4, e3, e4⟩ := open_lab (v0 := c3) (v1 := c4) (g3.trans (hy 3 (by omega)))
    simp at e0 e2
    subst e0 e1 e2 e3 e4
    exact ⟨⟨x0, xs, x2, x3, x4, A, c⟩, hcell 0 (by omega), hcell 1 (by omega), hcell 2 (by omega), hcell 3 (by omega), hcell 4 (by omega), hrow, hxl⟩
theorem open_edrow {fuel : Nat} {v : Value} {x : DataW H × List MemPlace} (h : DataW.trod enc Try.prog w base spare held fuel 22 [v] = some x) :
    ∃ (A : Option Addr) (c : Nat) (es : List Ed), v = .slice A es.length c ∧ es.length ≤ maxLen ∧ EdRow w A es := by
  rcases Go.Deep.open_slice Try.underlying22 h with ⟨hcs, _⟩ | ⟨a, n, c, m, k, D, Pl, hcs, _, hl, hm, hmm, _, hat⟩
  · simp only [List.cons.injEq, and_true] at hcs
    subst hcs
    exact ⟨none, 0, [], rfl, by simp, Or.inl rfl⟩
  · simp only [List.cons.injEq, and_true] at hcs
    subst hcs
    have hnm : n ≤ m := by rw [hmm]; split <;> omega
    obtain ⟨b, off, spot⟩ := a
    by_cases hz : n = 0
    · subst hz
      exact ⟨_, c, [], rfl, by simp, Or.inl rfl⟩
    have hspot : spot = none := by
      obtain ⟨cs, hcs, _⟩ := hat 0 (by omega)
      rw [cells38] at hcs
      obtain ⟨_, hcl, hcells⟩ := World.cells?_some hcs
      have h1 := hcells 0 (by omega)
      rw [List.getElem?_eq_getElem (by omega)] at h1
      simpa [Addr.add] using World.cell?_spot h1
    subst hspot
    have hel : ∀ i, i < n → ∃ e : Ed, EdAt w b (off + i * 5) e := fun i hin => by
      obtain ⟨cs, hcs, htr⟩ := hat i (by omega)
      rw [cells38] at hcs
      obtain ⟨_, hcl, hcells⟩ := World.cells?_some hcs
      exact open_edge hcl (fun j hj => by
        have := hcells j (by omega)
        rw [add_plain, add_plain] at this
        exact this) htr
    have : Inhabited Ed := ⟨⟨0, [], 0, 0, 0, none, 0⟩⟩
    classical
    obtain ⟨q, hq⟩ := Go.Deep.choose_lt hel
    have hlen : ((List.range n).map q).length = n := by simp
    refine ⟨_, c, (List.range n).map q, by rw [hlen], by rw [hlen]; omega, Or.inr ⟨b, off, rfl, ?_, fun i hin => ?_⟩⟩
    · exact World.block_lt_of_cell? w _ (hq 0 (by omega)).head
    · rw [hlen] at hin
      simp only [List.getElem_map, List.getElem_range]
      exact hq i hin
theorem open_graph {r : Reach} {b0 : Nat} {v : Value} {d : DataW H} {p : List MemPlace} (hv : Value.okWide Try.prog w r b0 24 v) (h : DataW.Trod enc Try.prog w base spare held 24 v d p) :
    ∃ (A : Option Addr) (c : Nat) (n : Int) (es : List Ed), v = .agg #[.int .i64 n, .slice A es.length c] ∧ es.length ≤ maxLen ∧ EdRow w A es := by
  obtain ⟨v0, v1, y0, y1, k, rfl, _, _, h0, h1⟩ := open_agg2 Try.underlying24 (by kernel_rfl) cells24 hv h
  obtain ⟨n, e0, _, _⟩ := DataW.trod_int Try.underlying3 h0
  simp at e0
  subst e0
  obtain ⟨A, c, es, rfl, hl, hr⟩ := open_edrow h1
  exact ⟨A, c, n, es, rfl, hl, hr⟩
end
end Go.Proofs.Ytjhdhnkikgmpoaa
