/- Contracts of fold at api.Value: the values are combined from the left. Printed by gen26foldv.py. -/
import Derived.Test.YtdnkkeabimjbaaaFold
namespace Go.Proofs.Ytdnkkeabimjbaaa
open Go.RowKit

def vadd (p q : Int × Int) : Int × Int := (vaddC p.1 p.2 q.1 q.2, vaddS p.1 p.2 q.1 q.2)
def vmul (p q : Int × Int) : Int × Int := (vmulC p.1 q.1, vmulS p.1 p.2 q.1 q.2)
def vok (p : Int × Int) : Prop := 0 ≤ p.1 ∧ p.1 ≤ 1099511627776 ∧ 0 ≤ p.2 ∧ p.2 ≤ 1099511627776
theorem vadd_ok {p q : Int × Int} (hp : vok p) (hq : vok q) : vok (vadd p q) := by
  unfold vok at *
  by_cases h : q.1 < p.1 ∨ (q.1 = p.1 ∧ q.2 < p.2)
  · obtain ⟨e1, e2⟩ := vadd_lt h
    simp only [vadd]; rw [e1, e2]; exact hq
  · obtain ⟨e1, e2⟩ := vadd_ge h
    simp only [vadd]; rw [e1, e2]; exact hp
theorem vmul_ok {p q : Int × Int} (hp : vok p) (hq : vok q) : vok (vmul p q) := by
  unfold vok at *
  by_cases h : 1099511627776 ≤ p.1 + q.1
  · obtain ⟨e1, e2⟩ := vmul_ge (sa := p.2) (sb := q.2) h
    simp only [vmul]; rw [e1, e2]; omega
  · obtain ⟨e1, e2⟩ := vmul_lt (ca := p.1) (cb := q.1) (sa := p.2) (sb := q.2) (by omega)
    have hb := tmul_bd (a := p.2) (b := q.2) (by omega) (by omega)
    simp only [vmul]; rw [e1, e2]; omega
theorem vfoldl_ok (g : Int × Int → Int × Int → Int × Int) (hg : ∀ a b, vok a → vok b → vok (g a b)) (xs : List (Int × Int)) : ∀ s, vok s → (∀ x ∈ xs, vok x) → vok (xs.foldl g s) := by
  induction xs with
  | nil => intro s hs _; exact hs
  | cons x r ih => intro s hs h; exact ih _ (hg _ _ hs (h x (List.mem_cons_self ..))) (fun y hy => h y (List.mem_cons_of_mem _ hy))
theorem cell_past {w w1 : World} {O : Obj} {b o : Nat} (hb : Below (w.alloc O).heap.size (w.alloc O) w1) (h : b < w.heap.size) : w1.cell? ⟨b, o, none⟩ = w.cell? ⟨b, o, none⟩ :=
  (hb.cell (p := ⟨b, o, none⟩) (by simp; omega)).trans (World.cell?_alloc_past _ _ _ h)
theorem frozen_past {w w1 : World} {O : Obj} {b o : Nat} (hb : Below (w.alloc O).heap.size (w.alloc O) w1) (h : b < w.heap.size) : w1.frozen? ⟨b, o, none⟩ = w.frozen? ⟨b, o, none⟩ :=
  (hb.frozen (p := ⟨b, o, none⟩) (by simp; omega)).trans (World.frozen?_alloc_past _ _ _ h)

theorem vaddF_method (w : World) : (method 180 27 (.agg #[]) "Add").run Try.prog w = .ok (13, .agg #[]) w := by kernel_rfl
set_option maxHeartbeats 400000 in
theorem vaddF (w : World) (a : Option Addr) (c : Nat) (xs : List (Int × Int)) (s0 : Int × Int) (hr : ValRow w a xs) (hn : xs.length ≤ maxLen) :
    Calls Try.prog 51 #[.agg #[.int .i64 s0.1, .int .i64 s0.2], .slice a xs.length c, .func (.method "Add") #[.iface 27 (.agg #[])] #[]] w fun e w' => e = .returned (.agg #[.int .i64 (xs.foldl vadd s0).1, .int .i64 (xs.foldl vadd s0).2]) ∧ Below w.heap.size w w' := by
  have hm := vaddF_method
  unfold maxLen at hn
  go_enter Try.func51, Try.ntmps51
  go_wp2
  go_loopw [11] (fun i wr => ∃ k : Nat, k ≤ xs.length ∧ i = .int .i64 k ∧ wr.cell? ⟨w.heap.size, 0, none⟩ = some (.int .i64 ((xs.take k).foldl vadd s0).1) ∧ wr.cell? ⟨w.heap.size, 1, none⟩ = some (.int .i64 ((xs.take k).foldl vadd s0).2)
    ∧ wr.frozen? ⟨w.heap.size, 0, none⟩ = false ∧ wr.frozen? ⟨w.heap.size, 1, none⟩ = false ∧ wr.cell? ⟨w.heap.size + 1, 0, none⟩ = some (.int .i64 0) ∧ wr.cell? ⟨w.heap.size + 1, 1, none⟩ = some (.int .i64 0)
    ∧ wr.frozen? ⟨w.heap.size + 1, 0, none⟩ = false ∧ wr.frozen? ⟨w.heap.size + 1, 1, none⟩ = false ∧ w.heap.size + 1 < wr.heap.size ∧ Below w.heap.size w wr) (fun i _ => xs.length - (intOf i).toNat)
  case atStart => exact ⟨0, Nat.zero_le _, rfl, by simp [go_sem], by simp [go_sem], by simp [go_sem], by simp [go_sem], by simp [go_sem], by simp [go_sem], by simp [go_sem], by simp [go_sem], by simp, by repeat (first | exact Below.refl _ _ | refine Below.alloc ?_ (by simp <;> omega) _)⟩
  case round =>
    obtain ⟨k, hk, rfl, c0, c1, f0, f1, d0, d1, g0, g1, hz, hB⟩ := hrel
    by_cases hlt : k < xs.length
    · rcases hr with h | ⟨b, o, rfl, hb, hcell⟩
      · rw [h] at hlt; exact absurd hlt (by simp)
      · have hx0 : wr.cell? ⟨b, o + k * 2, none⟩ = some (.int .i64 xs[k].1) := (hB.cell (p := ⟨b, o + k * 2, none⟩) hb).trans (hcell k hlt).1
        have hx1 : wr.cell? ⟨b, o + k * 2 + 1, none⟩ = some (.int .i64 xs[k].2) := (hB.cell (p := ⟨b, o + k * 2 + 1, none⟩) hb).trans (hcell k hlt).2
        have hst := Lib.hid (foldl_snoc vadd s0 xs k hlt)
        clear hcell
        generalize hF : (xs.take k).foldl vadd s0 = F at *
        generalize hX : xs[k] = X at *
        obtain ⟨F0, F1⟩ := F
        obtain ⟨X0, X1⟩ := X
        have HF := Lib.hid hF
        clear hF
        have HX := Lib.hid hX
        clear hX
        simp only at c0 c1 hx0 hx1
        have hz0 : w.heap.size < wr.heap.size := by omega
        go_wp2_with fail
        refine (vadd_any _ _ _ _ _).mono ?_
        rintro e w1 ⟨rfl, hb1⟩
        have C0 := (cell_past hb1 hz0).trans c0
        have C1 := (cell_past hb1 hz0).trans c1
        have F0 := (frozen_past hb1 hz0).trans f0
        have F1 := (frozen_past hb1 hz0).trans f1
        have D0 := (cell_past hb1 hz).trans d0
        have D1 := (cell_past hb1 hz).trans d1
        have G0 := (frozen_past hb1 hz).trans g0
        have G1 := (frozen_past hb1 hz).trans g1
        have hB1 : Below w.heap.size w w1 := (hB.alloc hB.size _).trans (hb1.mono (by simp; omega))
        have hz1 : w.heap.size + 1 < w1.heap.size := by have := hb1.size; simp at this; omega
        clear hb1 c0 c1 f0 f1 d0 d1 g0 g1 hz hB
        go_wp2
        go_roundw
        case rel => exact ⟨k + 1, by omega, by go_num, by rw [hst.out]; simp [go_sem, C0, vadd], by rw [hst.out]; simp [go_sem, C1, vadd], by simp [go_sem, F0], by simp [go_sem, F1], by simp [go_sem, D0], by simp [go_sem, D1], by simp [go_sem, G0], by simp [go_sem, G1], by simpa using hz1, (hB1.setCell (Nat.le_refl _) _).setCell (Nat.le_refl _) _⟩
        case measure => simp [intOf]; omega
    · have hkk : k = xs.length := by omega
      subst hkk
      go_wp2
      exact bodyPost_ret (v := .agg #[.int .i64 (xs.foldl vadd s0).1, .int .i64 (xs.foldl vadd s0).2]) (by simp [results, Try.results51, go_sem, d0, d1]) rfl ⟨rfl, (hB.setCell (by simp) _).setCell (by simp) _⟩

theorem vmulF_method (w : World) : (method 180 27 (.agg #[]) "Mul").run Try.prog w = .ok (15, .agg #[]) w := by kernel_rfl
set_option maxHeartbeats 400000 in
theorem vmulF (w : World) (a : Option Addr) (c : Nat) (xs : List (Int × Int)) (s0 : Int × Int) (hr : ValRow w a xs) (hn : xs.length ≤ maxLen) (hs0 : vok s0) (hxs : ∀ x ∈ xs, vok x) :
    Calls Try.prog 51 #[.agg #[.int .i64 s0.1, .int .i64 s0.2], .slice a xs.length c, .func (.method "Mul") #[.iface 27 (.agg #[])] #[]] w fun e w' => e = .returned (.agg #[.int .i64 (xs.foldl vmul s0).1, .int .i64 (xs.foldl vmul s0).2]) ∧ Below w.heap.size w w' := by
  have hm := vmulF_method
  unfold maxLen at hn
  go_enter Try.func51, Try.ntmps51
  go_wp2
  go_loopw [11] (fun i wr => ∃ k : Nat, k ≤ xs.length ∧ i = .int .i64 k ∧ wr.cell? ⟨w.heap.size, 0, none⟩ = some (.int .i64 ((xs.take k).foldl vmul s0).1) ∧ wr.cell? ⟨w.heap.size, 1, none⟩ = some (.int .i64 ((xs.take k).foldl vmul s0).2)
    ∧ wr.frozen? ⟨w.heap.size, 0, none⟩ = false ∧ wr.frozen? ⟨w.heap.size, 1, none⟩ = false ∧ wr.cell? ⟨w.heap.size + 1, 0, none⟩ = some (.int .i64 0) ∧ wr.cell? ⟨w.heap.size + 1, 1, none⟩ = some (.int .i64 0)
    ∧ wr.frozen? ⟨w.heap.size + 1, 0, none⟩ = false ∧ wr.frozen? ⟨w.heap.size + 1, 1, none⟩ = false ∧ w.heap.size + 1 < wr.heap.size ∧ Below w.heap.size w wr) (fun i _ => xs.length - (intOf i).toNat)
  case atStart => exact ⟨0, Nat.zero_le _, rfl, by simp [go_sem], by simp [go_sem], by simp [go_sem], by simp [go_sem], by simp [go_sem], by simp [go_sem], by simp [go_sem], by simp [go_sem], by simp, by repeat (first | exact Below.refl _ _ | refine Below.alloc ?_ (by simp <;> omega) _)⟩
  case round =>
    obtain ⟨k, hk, rfl, c0, c1, f0, f1, d0, d1, g0, g1, hz, hB⟩ := hrel
    by_cases hlt : k < xs.length
    · rcases hr with h | ⟨b, o, rfl, hb, hcell⟩
      · rw [h] at hlt; exact absurd hlt (by simp)
      · have hx0 : wr.cell? ⟨b, o + k * 2, none⟩ = some (.int .i64 xs[k].1) := (hB.cell (p := ⟨b, o + k * 2, none⟩) hb).trans (hcell k hlt).1
        have hx1 : wr.cell? ⟨b, o + k * 2 + 1, none⟩ = some (.int .i64 xs[k].2) := (hB.cell (p := ⟨b, o + k * 2 + 1, none⟩) hb).trans (hcell k hlt).2
        have hst := Lib.hid (foldl_snoc vmul s0 xs k hlt)
        have kF := vfoldl_ok vmul (fun _ _ h1 h2 => vmul_ok h1 h2) (xs.take k) s0 hs0 (fun x hx => hxs x (List.mem_of_mem_take hx))
        have kX := hxs xs[k] (List.getElem_mem hlt)
        clear hxs
        clear hcell
        generalize hF : (xs.take k).foldl vmul s0 = F at *
        generalize hX : xs[k] = X at *
        obtain ⟨F0, F1⟩ := F
        obtain ⟨X0, X1⟩ := X
        obtain ⟨k1, k2, k3, k4⟩ := kF
        obtain ⟨k5, k6, k7, k8⟩ := kX
        simp only at k1 k2 k3 k4 k5 k6 k7 k8
        have HF := Lib.hid hF
        clear hF
        have HX := Lib.hid hX
        clear hX
        simp only at c0 c1 hx0 hx1
        have hz0 : w.heap.size < wr.heap.size := by omega
        go_wp2_with fail
        refine (vmul_any _ _ _ _ _ k1 k2 k5 k6 k3 k4 k7 k8).mono ?_
        rintro e w1 ⟨rfl, hb1⟩
        have C0 := (cell_past hb1 hz0).trans c0
        have C1 := (cell_past hb1 hz0).trans c1
        have F0 := (frozen_past hb1 hz0).trans f0
        have F1 := (frozen_past hb1 hz0).trans f1
        have D0 := (cell_past hb1 hz).trans d0
        have D1 := (cell_past hb1 hz).trans d1
        have G0 := (frozen_past hb1 hz).trans g0
        have G1 := (frozen_past hb1 hz).trans g1
        have hB1 : Below w.heap.size w w1 := (hB.alloc hB.size _).trans (hb1.mono (by simp; omega))
        have hz1 : w.heap.size + 1 < w1.heap.size := by have := hb1.size; simp at this; omega
        clear hb1 c0 c1 f0 f1 d0 d1 g0 g1 hz hB
        go_wp2
        go_roundw
        case rel => exact ⟨k + 1, by omega, by go_num, by rw [hst.out]; simp [go_sem, C0, vmul], by rw [hst.out]; simp [go_sem, C1, vmul], by simp [go_sem, F0], by simp [go_sem, F1], by simp [go_sem, D0], by simp [go_sem, D1], by simp [go_sem, G0], by simp [go_sem, G1], by simpa using hz1, (hB1.setCell (Nat.le_refl _) _).setCell (Nat.le_refl _) _⟩
        case measure => simp [intOf]; omega
    · have hkk : k = xs.length := by omega
      subst hkk
      go_wp2
      exact bodyPost_ret (v := .agg #[.int .i64 (xs.foldl vmul s0).1, .int .i64 (xs.foldl vmul s0).2]) (by simp [results, Try.results51, go_sem, d0, d1]) rfl ⟨rfl, (hB.setCell (by simp) _).setCell (by simp) _⟩

end Go.Proofs.Ytdnkkeabimjbaaa
