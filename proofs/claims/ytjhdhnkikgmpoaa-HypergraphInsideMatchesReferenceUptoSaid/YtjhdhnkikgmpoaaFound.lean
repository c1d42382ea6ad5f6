/- The closure of Derivable: contract. Printed by gen27found.py. -/
import Derived.Test.YtjhdhnkikgmpoaaDerP
namespace Go.Proofs.Ytjhdhnkikgmpoaa
open Go.RowKit Go.Deep

/-- a variable in memory -/
def pRow (b : Nat) (e : TypeId) (V : Value) : Rw := ⟨.slice (some ⟨b, 0, none⟩) 1 1, e, 1, 1, [V]⟩
theorem GSt.cellP {W0 wr : World} {B g n b : Nat} {e : TypeId} {V : Value} {vs : List Value} {L : List (List Int)} {F : List Rw} (h : GSt W0 B g n vs L F wr) (hr : pRow b e V ∈ F) : wr.cell? ⟨b, 0, none⟩ = some V ∧ wr.frozen? ⟨b, 0, none⟩ = false ∧ b < wr.heap.size := by
  have h1 : wr.ownsRow B e 1 (.slice (some ⟨b, 0, none⟩) 1 1) 1 [V] := grid_in h.owns hr
  exact ⟨(World.ownsRow.cellAt h1 0 (by omega)).trans rfl, World.ownsRow.frozenAt h1 0, (World.ownsRow.lt h1 b rfl).2⟩
theorem GSt.storeP {W0 wr : World} {B g n b : Nat} {e : TypeId} {V : Value} {vs : List Value} {L : List (List Int)} {F : List Rw} (h : GSt W0 B g n vs L F wr) {j : Nat} (hj : j < F.length) (hF : F[j] = pRow b e V) (u : Value) :
    GSt W0 B g n vs L (F.set j (pRow b e u)) (wr.setCell ⟨b, 0, none⟩ u) := h.store hj hF 0 u

theorem GSt.top {W0 wr : World} {B g n : Nat} {V : Value} {td : List Int} {v : Int} {vs : List Value} {L : List (List Int)} {F : List Rw} (h : GSt W0 B g n vs L (lRow V (td ++ [v]) :: F) wr) : ∃ gb cap, V = .slice (some ⟨gb, 0, none⟩) (td.length + 1) cap ∧ td.length + 1 ≤ cap ∧ wr.cell? ⟨gb, td.length, none⟩ = some (.int .i64 v) := by
  have h1 : wr.ownsRow B 3 1 V (td ++ [v]).length ((td ++ [v]).map (.int .i64)) := grid_in h.owns (List.mem_cons_self ..)
  have hl : (td ++ [v]).length = td.length + 1 := by simp
  rw [hl] at h1
  rcases h1.2 with ⟨_, h2⟩ | ⟨gb, cap, cur, hv, _, _, hc, _⟩
  · omega
  · refine ⟨gb, cap, hv, hc, ?_⟩
    rw [hv] at h1
    rw [World.ownsRow.cellAt h1 td.length (by omega)]
    simp
theorem GSt.popF {W0 wr : World} {B g n gb cap : Nat} {td : List Int} {v : Int} {vs : List Value} {L : List (List Int)} {F : List Rw} (h : GSt W0 B g n vs L (lRow (.slice (some ⟨gb, 0, none⟩) (td.length + 1) cap) (td ++ [v]) :: F) wr) : GSt W0 B g n vs L (lRow (.slice (some ⟨gb, 0, none⟩) td.length cap) td :: F) wr := by
  refine h.setF (World.grownBy.refl _ _) ?_ (fun k hk => Or.inl hk)
  have h1 : wr.ownsRow B 3 1 (.slice (some ⟨gb, 0, none⟩) (td.length + 1) cap) (td ++ [v]).length ((td ++ [v]).map (.int .i64)) := grid_in h.owns (List.mem_cons_self ..)
  show wr.ownsRow B 3 1 (.slice (some ⟨gb, 0, none⟩) td.length cap) td.length (td.map (.int .i64))
  exact ownsRow_pop (last := [.int .i64 v]) (by simp) (by simpa using h1)
theorem der_world (w : World) (n m : Nat) (o : Obj) (hn : n ≤ maxLen) (hm : m ≤ maxLen) :
    Owns ((((((w.alloc o).alloc (.cells (madeCells #[.bool false] n) 4)).alloc (.cells #[.slice (some ⟨w.heap.size + 1, 0, none⟩) n n] 27)).alloc (.cells (madeCells #[.int .i64 0] m) 3)).alloc (.cells (madeCells #[.slice none 0 0] n) 35)).alloc (.cells #[.slice none 0 0] 35)) (w.heap.size + 1)
      (grid (w.heap.size + 1 + 1 + 1 + 1) n (List.replicate n (.slice none 0 0)) (List.replicate n []) [lRow (.slice none 0 0) [], pRow (w.heap.size + 1 + 1 + 1 + 1 + 1) 35 (.slice none 0 0), iRow (w.heap.size + 1 + 1 + 1) m (List.replicate m 0), pRow (w.heap.size + 1 + 1) 27 (.slice (some ⟨w.heap.size + 1, 0, none⟩) n n), tRow (w.heap.size + 1) n (List.replicate n false)]) := by
  have e1 : (w.alloc o).heap.size = w.heap.size + 1 := by simp
  generalize w.alloc o = w1 at *
  rw [← e1]
  generalize hB : w1.heap.size = B
  have hD : (tRow B n (List.replicate n false)).own (w1.alloc (.cells (madeCells #[.bool false] n) 4)) B := by
    have := own_made w1 (.bool false) n 4 B (by omega) hn
    unfold tRow
    rw [List.map_replicate, ← hB]
    rw [← hB] at this
    exact this
  have h1 := (Owns.nil w1 B).add (World.grownBy_alloc _ _ none) hD (fun k hk => by cases hk; exact Nat.le_of_eq hB)
  have e2 : (w1.alloc (.cells (madeCells #[.bool false] n) 4)).heap.size = B + 1 := by simp [hB]
  generalize w1.alloc (.cells (madeCells #[.bool false] n) 4) = w2 at *
  have hO : (pRow (B + 1) 27 (.slice (some ⟨B, 0, none⟩) n n)).own (w2.alloc (.cells #[.slice (some ⟨B, 0, none⟩) n n] 27)) B := by
    rw [← e2]
    exact World.ownsRow_lit (e := 27) (size := 1) w2 #[.slice (some ⟨B, 0, none⟩) n n] 1 (by omega) (by decide) rfl
  have h2 := h1.add (World.grownBy_alloc _ _ none) hO (fun k hk => by cases hk; exact Nat.le_of_eq e2)
  have e3 : (w2.alloc (.cells #[.slice (some ⟨B, 0, none⟩) n n] 27)).heap.size = B + 1 + 1 := by simp [e2]
  generalize w2.alloc (.cells #[.slice (some ⟨B, 0, none⟩) n n] 27) = w3 at *
  have hM : (iRow (B + 1 + 1) m (List.replicate m 0)).own (w3.alloc (.cells (madeCells #[.int .i64 0] m) 3)) B := by
    have := own_made w3 (.int .i64 0) m 3 B (by omega) hm
    unfold iRow
    rw [List.map_replicate, ← e3]
    exact this
  have h3 := h2.add (World.grownBy_alloc _ _ none) hM (fun k hk => by cases hk; exact Nat.le_of_eq e3)
  have e4 : (w3.alloc (.cells (madeCells #[.int .i64 0] m) 3)).heap.size = B + 1 + 1 + 1 := by simp [e3]
  generalize w3.alloc (.cells (madeCells #[.int .i64 0] m) 3) = w4 at *
  have h4 := grid_over h3 n (by omega) hn
  rw [e4] at h4
  have e5 : (w4.alloc (.cells (madeCells #[.slice none 0 0] n) 35)).heap.size = B + 1 + 1 + 1 + 1 := by simp [e4]
  generalize w4.alloc (.cells (madeCells #[.slice none 0 0] n) 35) = w5 at *
  have hT : (pRow (B + 1 + 1 + 1 + 1) 35 (.slice none 0 0)).own (w5.alloc (.cells #[.slice none 0 0] 35)) B := by
    rw [← e5]
    exact World.ownsRow_lit (e := 35) (size := 1) w5 #[.slice none 0 0] 1 (by omega) (by decide) rfl
  have h5 := grid_add h4 (World.grownBy_alloc _ _ none) hT (fun k hk => by cases hk; exact Nat.le_of_eq e5)
  exact grid_add (r := lRow (.slice none 0 0) []) h5 (World.grownBy.refl _ _) (World.ownsRow_nil _ _ _ _) (fun k hk => by cases hk)

set_option maxHeartbeats 4000000 in
theorem found_any (W0 w : World) (B g n m v tb mb D ob : Nat) (vs : List Value) (L : List (List Int)) (V : Value) (ls : List Int) (bs : List Bool) (ms : List Int)
    (h : GSt W0 B g n vs L [lRow V ls, pRow tb 35 V, iRow mb m ms, pRow ob 27 (.slice (some ⟨D, 0, none⟩) n n), tRow D n bs] w) (hv : v < n) (hl : ls.length ≤ 1048576) :
    Calls Try.prog 30 #[.int .i64 v, .pointer (some ⟨ob, 0, none⟩), .pointer (some ⟨tb, 0, none⟩)] w fun e w' => e = .returned (.tuple #[]) ∧
      ∃ V', GSt W0 B g n vs L [lRow V' (fL bs ls v), pRow tb 35 V', iRow mb m ms, pRow ob 27 (.slice (some ⟨D, 0, none⟩) n n), tRow D n (bs.set v true)] w' := by
  obtain ⟨A, cap, rfl, _⟩ := own_vrow (show w.ownsRow B 3 1 V ls.length (ls.map (.int .i64)) from grid_in h.owns (List.mem_cons_self ..))
  obtain ⟨p1, p2, _⟩ := h.cellP (b := ob) (List.mem_cons_of_mem _ (List.mem_cons_of_mem _ (List.mem_cons_of_mem _ (List.mem_cons_self ..))))
  obtain ⟨q1, q2, _⟩ := h.cellP (b := tb) (List.mem_cons_of_mem _ (List.mem_cons_self ..))
  obtain ⟨x, hx, c1, c2⟩ := h.cellT (m := D) (bs := bs) (List.mem_cons_of_mem _ (List.mem_cons_of_mem _ (List.mem_cons_of_mem _ (List.mem_cons_of_mem _ (List.mem_cons_self ..))))) hv
  have HS := Lib.hid h
  have HX := Lib.hid hx
  have hv0 : ¬ ((v : Int) < 0) := by omega
  clear h hx
  go_enter Try.func30, Try.ntmps30
  cases x
  · go_upto_region 2 with fail
    have hst1 := HS.out.storeT (j := 4) (by simp) rfl v true
    clear p1 p2 q1 q2 c1 c2
    generalize w.setCell ⟨D, v, none⟩ (.bool true) = w4 at *
    have HS4 := Lib.hid hst1
    have hown4 : w4.ownsRow B 3 1 (.slice A ls.length cap) ls.length (ls.map (.int .i64)) := grid_in hst1.owns (List.mem_cons_self ..)
    have hbase : B ≤ (w4.alloc (.cells #[.int .i64 (v : Int)] 3)).heap.size := by have := hst1.gt; simp; omega
    obtain ⟨q1, q2, q3⟩ := hst1.cellP (b := tb) (List.mem_cons_of_mem _ (List.mem_cons_self ..))
    have HW4 := Lib.hid hown4
    clear hst1 hown4
    obtain ⟨i3, hi3, hz3, hs3, hb3⟩ := info_parts info3
    go_wp2_with (at_builtin; refine wpList_append_lies _ rfl _ _ 35 rfl (B) 3 i3 (.int .i64 0) 1 8 Try.underlying35 hi3 hz3 hs3 hb3 rfl (by decide) _ (ls).length ((ls).map (.int .i64)) rfl (World.ownsRow.alloc HW4.out _) _ 1 1 [.int .i64 ((v : Int))] rfl rfl (World.news_of_block (heap_alloc_new _ _)) (ints_one [(v : Int)]) (by decide) (by unfold maxLen; omega) (by omega) hbase _ rfl ?_)
    intro g1 cap1 w5 hown5 hgrow5 hat5 _
    have hst5 := HS4.out.pushF (World.grownBy_alloc _ _ none) hgrow5 hown5 (by simpa using hat5)
    obtain ⟨q1, q2, q3⟩ := hst5.cellP (b := tb) (List.mem_cons_of_mem _ (List.mem_cons_self ..))
    have HS5 := Lib.hid hst5
    clear hst5 hown5 hgrow5 hat5 hbase
    go_wp2
    go_end0
    have hbf : bs.getD v false = false := by rw [List.getD_eq_getElem?_getD, HX.out]; rfl
    refine ⟨rfl, .slice (some ⟨g1, 0, none⟩) (ls.length + 1) cap1, ?_⟩
    have h1 := HS5.out.storeP (j := 1) (by simp) rfl (.slice (some ⟨g1, 0, none⟩) (ls.length + 1) cap1)
    unfold fL
    rw [hbf, if_neg (by decide)]
    exact h1
  · go_wp2
    go_end0
    have hbf : bs.getD v false = true := by rw [List.getD_eq_getElem?_getD, HX.out]; rfl
    have hs : bs.set v true = bs := by
      obtain ⟨h1, h2⟩ := List.getElem?_eq_some_iff.1 HX.out
      rw [← h2]; exact List.set_getElem_self h1
    refine ⟨rfl, .slice A ls.length cap, ?_⟩
    unfold fL
    rw [hbf, hs, if_pos rfl]
    exact HS.out
end Go.Proofs.Ytjhdhnkikgmpoaa
