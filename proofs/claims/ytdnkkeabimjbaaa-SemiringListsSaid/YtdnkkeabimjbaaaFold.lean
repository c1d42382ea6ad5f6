/- Contracts of fold, Sum and Product: a list's elements are combined from the left; below the heap that was there nothing has turned. Printed by gen26fold.py. -/
import Derived.Test.YtdnkkeabimjbaaaWalk3
import Derived.Test.YtdnkkeabimjbaaaFam
import Derived.Outline
import Derived.Lib.Hide
namespace Go.Proofs.Ytdnkkeabimjbaaa
open Go.RowKit

theorem Try.makeFunc_run (fn : Fn) (first cap : Array Value) (w : World) : (Instr.makeFunc fn first cap).run Try.prog w = .ok (.func fn first cap) w := rfl
theorem foldl_snoc {α β : Type} (g : β → α → β) (s : β) (xs : List α) (k : Nat) (h : k < xs.length) : (xs.take (k + 1)).foldl g s = g ((xs.take k).foldl g s) xs[k] := by
  rw [List.take_succ_eq_append_getElem h, List.foldl_append]; rfl
/-- The cells of a list of integers. -/
def IntRow (w : World) (a : Option Addr) (xs : List Int) : Prop :=
  xs = [] ∨ ∃ b o, a = some ⟨b, o, none⟩ ∧ b < w.heap.size ∧ ∀ i (h : i < xs.length), w.cell? ⟨b, o + i, none⟩ = some (.int .i64 xs[i])
def BoolRow (w : World) (a : Option Addr) (xs : List Bool) : Prop :=
  xs = [] ∨ ∃ b o, a = some ⟨b, o, none⟩ ∧ b < w.heap.size ∧ ∀ i (h : i < xs.length), w.cell? ⟨b, o + i, none⟩ = some (.bool xs[i])
def ValRow (w : World) (a : Option Addr) (xs : List (Int × Int)) : Prop :=
  xs = [] ∨ ∃ b o, a = some ⟨b, o, none⟩ ∧ b < w.heap.size ∧ ∀ i (h : i < xs.length), w.cell? ⟨b, o + i * 2, none⟩ = some (.int .i64 xs[i].1) ∧ w.cell? ⟨b, o + i * 2 + 1, none⟩ = some (.int .i64 xs[i].2)
theorem IntRow.below {w w' : World} {a : Option Addr} {xs : List Int} (h : IntRow w a xs) (hb : Below w.heap.size w w') : IntRow w' a xs := by
  rcases h with h | ⟨b, o, h1, h2, h3⟩
  · exact Or.inl h
  · exact Or.inr ⟨b, o, h1, Nat.lt_of_lt_of_le h2 hb.size, fun i hi => (hb.cell (p := ⟨b, o + i, none⟩) h2).trans (h3 i hi)⟩
theorem BoolRow.below {w w' : World} {a : Option Addr} {xs : List Bool} (h : BoolRow w a xs) (hb : Below w.heap.size w w') : BoolRow w' a xs := by
  rcases h with h | ⟨b, o, h1, h2, h3⟩
  · exact Or.inl h
  · exact Or.inr ⟨b, o, h1, Nat.lt_of_lt_of_le h2 hb.size, fun i hi => (hb.cell (p := ⟨b, o + i, none⟩) h2).trans (h3 i hi)⟩
theorem ValRow.below {w w' : World} {a : Option Addr} {xs : List (Int × Int)} (h : ValRow w a xs) (hb : Below w.heap.size w w') : ValRow w' a xs := by
  rcases h with h | ⟨b, o, h1, h2, h3⟩
  · exact Or.inl h
  · exact Or.inr ⟨b, o, h1, Nat.lt_of_lt_of_le h2 hb.size, fun i hi => ⟨(hb.cell (p := ⟨b, o + i * 2, none⟩) h2).trans (h3 i hi).1, (hb.cell (p := ⟨b, o + i * 2 + 1, none⟩) h2).trans (h3 i hi).2⟩⟩
theorem foldl_in (g : Int → Int → Int) (hg : ∀ a b : Int, 0 ≤ a ∧ a ≤ 1099511627776 → 0 ≤ b ∧ b ≤ 1099511627776 → 0 ≤ g a b ∧ g a b ≤ 1099511627776) (xs : List Int) : ∀ (s : Int), 0 ≤ s ∧ s ≤ 1099511627776 → (∀ x ∈ xs, 0 ≤ x ∧ x ≤ 1099511627776) → 0 ≤ xs.foldl g s ∧ xs.foldl g s ≤ 1099511627776 := by
  induction xs with
  | nil => intro s hs _; exact hs
  | cons x r ih => intro s hs h; exact ih _ (hg _ _ hs (h x (List.mem_cons_self ..))) (fun y hy => h y (List.mem_cons_of_mem _ hy))

theorem taddF_method (w : World) : (method 180 36 (.agg #[]) "Add").run Try.prog w = .ok (29, .agg #[]) w := by kernel_rfl
set_option maxHeartbeats 400000 in
theorem taddF (w : World) (a : Option Addr) (c : Nat) (xs : List Int) (s0 : Int) (hr : IntRow w a xs) (hn : xs.length ≤ maxLen) :
    Calls Try.prog 50 #[.int .i64 (s0), .slice a xs.length c, .func (.method "Add") #[.iface 36 (.agg #[])] #[]] w fun e w' => e = .returned (.int .i64 (xs.foldl tadd s0)) ∧ Below w.heap.size w w' := by
  have hm := taddF_method
  unfold maxLen at hn
  go_enter Try.func50, Try.ntmps50
  go_wp2
  go_loopw [0, 11] (fun s i wr => ∃ k : Nat, k ≤ xs.length ∧ i = .int .i64 k ∧ s = .int .i64 ((xs.take k).foldl tadd s0) ∧ Below w.heap.size w wr) (fun _ i _ => xs.length - (intOf i).toNat)
  case atStart => exact ⟨0, Nat.zero_le _, rfl, rfl, Below.refl _ _⟩
  case round =>
    obtain ⟨k, hk, rfl, rfl, hB⟩ := hrel
    by_cases hlt : k < xs.length
    · rcases hr with h | ⟨b, o, rfl, hb, hcell⟩
      · rw [h] at hlt; exact absurd hlt (by simp)
      · have hc : wr.cell? ⟨b, o + k, none⟩ = some (.int .i64 (xs[k])) := (hB.cell (p := ⟨b, o + k, none⟩) hb).trans (hcell k hlt)
        have hst := Lib.hid (foldl_snoc tadd s0 xs k hlt)
        clear hcell
        generalize hF : (xs.take k).foldl tadd s0 = F at *
        generalize hX : xs[k] = X at *
        have HF := Lib.hid hF
        clear hF
        have HX := Lib.hid hX
        clear hX
        go_wp2_with (go_at_call 29; refine (tadd_any _ _ _).mono ?_; rintro e w1 ⟨rfl, hb1⟩)
        go_roundw
        case rel => exact ⟨k + 1, by omega, by go_num, by rw [hst.out], hB.trans (hb1.mono hB.size)⟩
        case measure => simp [intOf]; omega
    · have hkk : k = xs.length := by omega
      subst hkk
      go_wp2
      go_ret
      exact ⟨by simp, hB⟩

theorem tmulF_method (w : World) : (method 180 36 (.agg #[]) "Mul").run Try.prog w = .ok (31, .agg #[]) w := by kernel_rfl
set_option maxHeartbeats 400000 in
theorem tmulF (w : World) (a : Option Addr) (c : Nat) (xs : List Int) (s0 : Int) (hr : IntRow w a xs) (hn : xs.length ≤ maxLen) (hs0 : 0 ≤ s0 ∧ s0 ≤ 1099511627776) (hxs : ∀ x ∈ xs, 0 ≤ x ∧ x ≤ 1099511627776) :
    Calls Try.prog 50 #[.int .i64 (s0), .slice a xs.length c, .func (.method "Mul") #[.iface 36 (.agg #[])] #[]] w fun e w' => e = .returned (.int .i64 (xs.foldl tmul s0)) ∧ Below w.heap.size w w' := by
  have hm := tmulF_method
  unfold maxLen at hn
  go_enter Try.func50, Try.ntmps50
  go_wp2
  go_loopw [0, 11] (fun s i wr => ∃ k : Nat, k ≤ xs.length ∧ i = .int .i64 k ∧ s = .int .i64 ((xs.take k).foldl tmul s0) ∧ Below w.heap.size w wr) (fun _ i _ => xs.length - (intOf i).toNat)
  case atStart => exact ⟨0, Nat.zero_le _, rfl, rfl, Below.refl _ _⟩
  case round =>
    obtain ⟨k, hk, rfl, rfl, hB⟩ := hrel
    by_cases hlt : k < xs.length
    · rcases hr with h | ⟨b, o, rfl, hb, hcell⟩
      · rw [h] at hlt; exact absurd hlt (by simp)
      · have hc : wr.cell? ⟨b, o + k, none⟩ = some (.int .i64 (xs[k])) := (hB.cell (p := ⟨b, o + k, none⟩) hb).trans (hcell k hlt)
        have hst := Lib.hid (foldl_snoc tmul s0 xs k hlt)
        obtain ⟨hlo, hhi⟩ := foldl_in tmul (fun _ _ h1 h2 => tmul_bd h1 h2) (xs.take k) s0 hs0 (fun x hx => hxs x (List.mem_of_mem_take hx))
        obtain ⟨hxlo, hxhi⟩ := hxs xs[k] (List.getElem_mem hlt)
        clear hcell
        generalize hF : (xs.take k).foldl tmul s0 = F at *
        generalize hX : xs[k] = X at *
        have HF := Lib.hid hF
        clear hF
        have HX := Lib.hid hX
        clear hX
        go_wp2_with (go_at_call 31; refine (tmul_any _ _ _ hlo hxlo hhi hxhi).mono ?_; rintro e w1 ⟨rfl, hb1⟩)
        go_roundw
        case rel => exact ⟨k + 1, by omega, by go_num, by rw [hst.out], hB.trans (hb1.mono hB.size)⟩
        case measure => simp [intOf]; omega
    · have hkk : k = xs.length := by omega
      subst hkk
      go_wp2
      go_ret
      exact ⟨by simp, hB⟩

theorem caddF_method (w : World) : (method 180 37 (.agg #[]) "Add").run Try.prog w = .ok (33, .agg #[]) w := by kernel_rfl
set_option maxHeartbeats 400000 in
theorem caddF (w : World) (a : Option Addr) (c : Nat) (xs : List Int) (s0 : Int) (hr : IntRow w a xs) (hn : xs.length ≤ maxLen) (hs0 : 0 ≤ s0 ∧ s0 ≤ 1099511627776) (hxs : ∀ x ∈ xs, 0 ≤ x ∧ x ≤ 1099511627776) :
    Calls Try.prog 50 #[.int .i64 (s0), .slice a xs.length c, .func (.method "Add") #[.iface 37 (.agg #[])] #[]] w fun e w' => e = .returned (.int .i64 (xs.foldl tmul s0)) ∧ Below w.heap.size w w' := by
  have hm := caddF_method
  unfold maxLen at hn
  go_enter Try.func50, Try.ntmps50
  go_wp2
  go_loopw [0, 11] (fun s i wr => ∃ k : Nat, k ≤ xs.length ∧ i = .int .i64 k ∧ s = .int .i64 ((xs.take k).foldl tmul s0) ∧ Below w.heap.size w wr) (fun _ i _ => xs.length - (intOf i).toNat)
  case atStart => exact ⟨0, Nat.zero_le _, rfl, rfl, Below.refl _ _⟩
  case round =>
    obtain ⟨k, hk, rfl, rfl, hB⟩ := hrel
    by_cases hlt : k < xs.length
    · rcases hr with h | ⟨b, o, rfl, hb, hcell⟩
      · rw [h] at hlt; exact absurd hlt (by simp)
      · have hc : wr.cell? ⟨b, o + k, none⟩ = some (.int .i64 (xs[k])) := (hB.cell (p := ⟨b, o + k, none⟩) hb).trans (hcell k hlt)
        have hst := Lib.hid (foldl_snoc tmul s0 xs k hlt)
        obtain ⟨hlo, hhi⟩ := foldl_in tmul (fun _ _ h1 h2 => tmul_bd h1 h2) (xs.take k) s0 hs0 (fun x hx => hxs x (List.mem_of_mem_take hx))
        obtain ⟨hxlo, hxhi⟩ := hxs xs[k] (List.getElem_mem hlt)
        clear hcell
        generalize hF : (xs.take k).foldl tmul s0 = F at *
        generalize hX : xs[k] = X at *
        have HF := Lib.hid hF
        clear hF
        have HX := Lib.hid hX
        clear hX
        go_wp2_with (go_at_call 33; refine (cadd_any _ _ _ hlo hxlo hhi hxhi).mono ?_; rintro e w1 ⟨rfl, hb1⟩)
        go_roundw
        case rel => exact ⟨k + 1, by omega, by go_num, by rw [hst.out], hB.trans (hb1.mono hB.size)⟩
        case measure => simp [intOf]; omega
    · have hkk : k = xs.length := by omega
      subst hkk
      go_wp2
      go_ret
      exact ⟨by simp, hB⟩

theorem cmulF_method (w : World) : (method 180 37 (.agg #[]) "Mul").run Try.prog w = .ok (35, .agg #[]) w := by kernel_rfl
set_option maxHeartbeats 400000 in
theorem cmulF (w : World) (a : Option Addr) (c : Nat) (xs : List Int) (s0 : Int) (hr : IntRow w a xs) (hn : xs.length ≤ maxLen) (hs0 : 0 ≤ s0 ∧ s0 ≤ 1099511627776) (hxs : ∀ x ∈ xs, 0 ≤ x ∧ x ≤ 1099511627776) :
    Calls Try.prog 50 #[.int .i64 (s0), .slice a xs.length c, .func (.method "Mul") #[.iface 37 (.agg #[])] #[]] w fun e w' => e = .returned (.int .i64 (xs.foldl cmul s0)) ∧ Below w.heap.size w w' := by
  have hm := cmulF_method
  unfold maxLen at hn
  go_enter Try.func50, Try.ntmps50
  go_wp2
  go_loopw [0, 11] (fun s i wr => ∃ k : Nat, k ≤ xs.length ∧ i = .int .i64 k ∧ s = .int .i64 ((xs.take k).foldl cmul s0) ∧ Below w.heap.size w wr) (fun _ i _ => xs.length - (intOf i).toNat)
  case atStart => exact ⟨0, Nat.zero_le _, rfl, rfl, Below.refl _ _⟩
  case round =>
    obtain ⟨k, hk, rfl, rfl, hB⟩ := hrel
    by_cases hlt : k < xs.length
    · rcases hr with h | ⟨b, o, rfl, hb, hcell⟩
      · rw [h] at hlt; exact absurd hlt (by simp)
      · have hc : wr.cell? ⟨b, o + k, none⟩ = some (.int .i64 (xs[k])) := (hB.cell (p := ⟨b, o + k, none⟩) hb).trans (hcell k hlt)
        have hst := Lib.hid (foldl_snoc cmul s0 xs k hlt)
        obtain ⟨hlo, hhi⟩ := foldl_in cmul (fun _ _ h1 h2 => cmul_bd h1 h2) (xs.take k) s0 hs0 (fun x hx => hxs x (List.mem_of_mem_take hx))
        obtain ⟨hxlo, hxhi⟩ := hxs xs[k] (List.getElem_mem hlt)
        clear hcell
        generalize hF : (xs.take k).foldl cmul s0 = F at *
        generalize hX : xs[k] = X at *
        have HF := Lib.hid hF
        clear hF
        have HX := Lib.hid hX
        clear hX
        go_wp2_with (go_at_call 35; refine (cmul_any _ _ _ hlo hxlo hhi hxhi).mono ?_; rintro e w1 ⟨rfl, hb1⟩)
        go_roundw
        case rel => exact ⟨k + 1, by omega, by go_num, by rw [hst.out], hB.trans (hb1.mono hB.size)⟩
        case measure => simp [intOf]; omega
    · have hkk : k = xs.length := by omega
      subst hkk
      go_wp2
      go_ret
      exact ⟨by simp, hB⟩

theorem baddF_method (w : World) : (method 180 45 (.agg #[]) "Add").run Try.prog w = .ok (38, .agg #[]) w := by kernel_rfl
set_option maxHeartbeats 400000 in
theorem baddF (w : World) (a : Option Addr) (c : Nat) (xs : List Bool) (s0 : Bool) (hr : BoolRow w a xs) (hn : xs.length ≤ maxLen) :
    Calls Try.prog 53 #[.bool (s0), .slice a xs.length c, .func (.method "Add") #[.iface 45 (.agg #[])] #[]] w fun e w' => e = .returned (.bool (xs.foldl or s0)) ∧ Below w.heap.size w w' := by
  have hm := baddF_method
  unfold maxLen at hn
  go_enter Try.func53, Try.ntmps53
  go_wp2
  go_loopw [0, 11] (fun s i wr => ∃ k : Nat, k ≤ xs.length ∧ i = .int .i64 k ∧ s = .bool ((xs.take k).foldl or s0) ∧ Below w.heap.size w wr) (fun _ i _ => xs.length - (intOf i).toNat)
  case atStart => exact ⟨0, Nat.zero_le _, rfl, rfl, Below.refl _ _⟩
  case round =>
    obtain ⟨k, hk, rfl, rfl, hB⟩ := hrel
    by_cases hlt : k < xs.length
    · rcases hr with h | ⟨b, o, rfl, hb, hcell⟩
      · rw [h] at hlt; exact absurd hlt (by simp)
      · have hc : wr.cell? ⟨b, o + k, none⟩ = some (.bool (xs[k])) := (hB.cell (p := ⟨b, o + k, none⟩) hb).trans (hcell k hlt)
        have hst := Lib.hid (foldl_snoc or s0 xs k hlt)
        clear hcell
        generalize hF : (xs.take k).foldl or s0 = F at *
        generalize hX : xs[k] = X at *
        have HF := Lib.hid hF
        clear hF
        have HX := Lib.hid hX
        clear hX
        go_wp2_with (go_at_call 38; refine (badd_any _ _ _).mono ?_; rintro e w1 ⟨rfl, hb1⟩)
        go_roundw
        case rel => exact ⟨k + 1, by omega, by go_num, by rw [hst.out], hB.trans (hb1.mono hB.size)⟩
        case measure => simp [intOf]; omega
    · have hkk : k = xs.length := by omega
      subst hkk
      go_wp2
      go_ret
      exact ⟨by simp, hB⟩

theorem bmulF_method (w : World) : (method 180 45 (.agg #[]) "Mul").run Try.prog w = .ok (39, .agg #[]) w := by kernel_rfl
set_option maxHeartbeats 400000 in
theorem bmulF (w : World) (a : Option Addr) (c : Nat) (xs : List Bool) (s0 : Bool) (hr : BoolRow w a xs) (hn : xs.length ≤ maxLen) :
    Calls Try.prog 53 #[.bool (s0), .slice a xs.length c, .func (.method "Mul") #[.iface 45 (.agg #[])] #[]] w fun e w' => e = .returned (.bool (xs.foldl and s0)) ∧ Below w.heap.size w w' := by
  have hm := bmulF_method
  unfold maxLen at hn
  go_enter Try.func53, Try.ntmps53
  go_wp2
  go_loopw [0, 11] (fun s i wr => ∃ k : Nat, k ≤ xs.length ∧ i = .int .i64 k ∧ s = .bool ((xs.take k).foldl and s0) ∧ Below w.heap.size w wr) (fun _ i _ => xs.length - (intOf i).toNat)
  case atStart => exact ⟨0, Nat.zero_le _, rfl, rfl, Below.refl _ _⟩
  case round =>
    obtain ⟨k, hk, rfl, rfl, hB⟩ := hrel
    by_cases hlt : k < xs.length
    · rcases hr with h | ⟨b, o, rfl, hb, hcell⟩
      · rw [h] at hlt; exact absurd hlt (by simp)
      · have hc : wr.cell? ⟨b, o + k, none⟩ = some (.bool (xs[k])) := (hB.cell (p := ⟨b, o + k, none⟩) hb).trans (hcell k hlt)
        have hst := Lib.hid (foldl_snoc and s0 xs k hlt)
        clear hcell
        generalize hF : (xs.take k).foldl and s0 = F at *
        generalize hX : xs[k] = X at *
        have HF := Lib.hid hF
        clear hF
        have HX := Lib.hid hX
        clear hX
        go_wp2_with (go_at_call 39; refine (bmul_any _ _ _).mono ?_; rintro e w1 ⟨rfl, hb1⟩)
        go_roundw
        case rel => exact ⟨k + 1, by omega, by go_num, by rw [hst.out], hB.trans (hb1.mono hB.size)⟩
        case measure => simp [intOf]; omega
    · have hkk : k = xs.length := by omega
      subst hkk
      go_wp2
      go_ret
      exact ⟨by simp, hB⟩

end Go.Proofs.Ytdnkkeabimjbaaa
