/- Contracts of Sum and Product at each semiring. Printed by gen26sum.py. -/
import Derived.Test.YtdnkkeabimjbaaaFoldV
import Derived.Deep.RegionWith
namespace Go.Proofs.Ytdnkkeabimjbaaa
open Go.RowKit

/-- The slot of a result of type api.Value, laid as the first block of the call. -/
structure Slot (w w1 : World) : Prop where
  c0 : w1.cell? ⟨w.heap.size, 0, none⟩ = some (.int .i64 0)
  c1 : w1.cell? ⟨w.heap.size, 1, none⟩ = some (.int .i64 0)
  f0 : w1.frozen? ⟨w.heap.size, 0, none⟩ = false
  f1 : w1.frozen? ⟨w.heap.size, 1, none⟩ = false
  sz : w.heap.size < w1.heap.size
  below : Below w.heap.size w w1
theorem Slot.start (w : World) : Slot w ((w.alloc (.cells #[.int .i64 0, .int .i64 0] 23)).drew) :=
  ⟨by simp [go_sem], by simp [go_sem], by simp [go_sem], by simp [go_sem], by simp [go_sem], ((Below.refl _ _).alloc (Nat.le_refl _) _).drew⟩
theorem Slot.next {w w1 w2 : World} (h : Slot w w1) (hb : Below w1.heap.size w1 w2) : Slot w w2 :=
  ⟨(hb.cell (p := ⟨w.heap.size, 0, none⟩) h.sz).trans h.c0, (hb.cell (p := ⟨w.heap.size, 1, none⟩) h.sz).trans h.c1, (hb.frozen (p := ⟨w.heap.size, 0, none⟩) h.sz).trans h.f0, (hb.frozen (p := ⟨w.heap.size, 1, none⟩) h.sz).trans h.f1,
   Nat.lt_of_lt_of_le h.sz hb.size, h.below.trans (hb.mono h.below.size)⟩

theorem sumT_unit (w : World) : (method 180 36 (.agg #[]) "Zero").run Try.prog w = .ok (30, .agg #[]) w := by kernel_rfl
set_option maxHeartbeats 400000 in
theorem sumT (w : World) (a : Option Addr) (c : Nat) (xs : List (Int)) (hr : IntRow w a xs) (hn : xs.length ≤ maxLen) :
    Calls Try.prog 24 #[.iface 36 (.agg #[]), .slice a xs.length c] w fun e w' => e = .returned (.int .i64 (xs.foldl tadd 1099511627776)) ∧ Below w.heap.size w w' := by
  have hm := sumT_unit
  have hmf := Try.makeFunc_run
  have HR := Lib.hid hr
  clear hr
  obtain ⟨S, hne, f, hf, hs⟩ := fam_of w.heap.size w
  have h0 := Lib.hid (hs w.drew (Below.refl _ _).drew)
  have hu := fun s => quiet_fam (P := Try.prog) (Nat.le_refl _) hf hs (tzero_any (f s))
  have hq := fun s => quiet_fam (P := Try.prog) (Nat.le_refl _) hf hs (taddF (f s) a c xs 1099511627776 (HR.out.below (hf s)) hn)
  go_enter Try.func24, Try.ntmps24
  go_wp2
  refine wp_region_fam (f := f) (by kernel_rfl) (by kernel_rfl) h0.out ?_
  repeat (go_big_quiet_step (first | (go_at_call 30; exact hu _) | (go_at_call 50; exact hq _)))
  refine wpQuiet_nil ?_
  rintro _ ⟨s, rfl⟩
  clear hu hq
  go_wp2
  go_ret
  exact ⟨rfl, hf s⟩

theorem prodT_unit (w : World) : (method 180 36 (.agg #[]) "One").run Try.prog w = .ok (32, .agg #[]) w := by kernel_rfl
set_option maxHeartbeats 400000 in
theorem prodT (w : World) (a : Option Addr) (c : Nat) (xs : List (Int)) (hr : IntRow w a xs) (hn : xs.length ≤ maxLen) (hxs : ∀ x ∈ xs, 0 ≤ x ∧ x ≤ 1099511627776) :
    Calls Try.prog 25 #[.iface 36 (.agg #[]), .slice a xs.length c] w fun e w' => e = .returned (.int .i64 (xs.foldl tmul 0)) ∧ Below w.heap.size w w' := by
  have hm := prodT_unit
  have hmf := Try.makeFunc_run
  have HR := Lib.hid hr
  clear hr
  obtain ⟨S, hne, f, hf, hs⟩ := fam_of w.heap.size w
  have h0 := Lib.hid (hs w.drew (Below.refl _ _).drew)
  have hu := fun s => quiet_fam (P := Try.prog) (Nat.le_refl _) hf hs (tone_any (f s))
  have hq := fun s => quiet_fam (P := Try.prog) (Nat.le_refl _) hf hs (tmulF (f s) a c xs 0 (HR.out.below (hf s)) hn (by omega) hxs)
  go_enter Try.func25, Try.ntmps25
  go_wp2
  refine wp_region_fam (f := f) (by kernel_rfl) (by kernel_rfl) h0.out ?_
  repeat (go_big_quiet_step (first | (go_at_call 32; exact hu _) | (go_at_call 50; exact hq _)))
  refine wpQuiet_nil ?_
  rintro _ ⟨s, rfl⟩
  clear hu hq
  go_wp2
  go_ret
  exact ⟨rfl, hf s⟩

theorem sumC_unit (w : World) : (method 180 37 (.agg #[]) "Zero").run Try.prog w = .ok (34, .agg #[]) w := by kernel_rfl
set_option maxHeartbeats 400000 in
theorem sumC (w : World) (a : Option Addr) (c : Nat) (xs : List (Int)) (hr : IntRow w a xs) (hn : xs.length ≤ maxLen) (hxs : ∀ x ∈ xs, 0 ≤ x ∧ x ≤ 1099511627776) :
    Calls Try.prog 24 #[.iface 37 (.agg #[]), .slice a xs.length c] w fun e w' => e = .returned (.int .i64 (xs.foldl tmul 0)) ∧ Below w.heap.size w w' := by
  have hm := sumC_unit
  have hmf := Try.makeFunc_run
  have HR := Lib.hid hr
  clear hr
  obtain ⟨S, hne, f, hf, hs⟩ := fam_of w.heap.size w
  have h0 := Lib.hid (hs w.drew (Below.refl _ _).drew)
  have hu := fun s => quiet_fam (P := Try.prog) (Nat.le_refl _) hf hs (czero_any (f s))
  have hq := fun s => quiet_fam (P := Try.prog) (Nat.le_refl _) hf hs (caddF (f s) a c xs 0 (HR.out.below (hf s)) hn (by omega) hxs)
  go_enter Try.func24, Try.ntmps24
  go_wp2
  refine wp_region_fam (f := f) (by kernel_rfl) (by kernel_rfl) h0.out ?_
  repeat (go_big_quiet_step (first | (go_at_call 34; exact hu _) | (go_at_call 50; exact hq _)))
  refine wpQuiet_nil ?_
  rintro _ ⟨s, rfl⟩
  clear hu hq
  go_wp2
  go_ret
  exact ⟨rfl, hf s⟩

theorem prodC_unit (w : World) : (method 180 37 (.agg #[]) "One").run Try.prog w = .ok (36, .agg #[]) w := by kernel_rfl
set_option maxHeartbeats 400000 in
theorem prodC (w : World) (a : Option Addr) (c : Nat) (xs : List (Int)) (hr : IntRow w a xs) (hn : xs.length ≤ maxLen) (hxs : ∀ x ∈ xs, 0 ≤ x ∧ x ≤ 1099511627776) :
    Calls Try.prog 25 #[.iface 37 (.agg #[]), .slice a xs.length c] w fun e w' => e = .returned (.int .i64 (xs.foldl cmul 1)) ∧ Below w.heap.size w w' := by
  have hm := prodC_unit
  have hmf := Try.makeFunc_run
  have HR := Lib.hid hr
  clear hr
  obtain ⟨S, hne, f, hf, hs⟩ := fam_of w.heap.size w
  have h0 := Lib.hid (hs w.drew (Below.refl _ _).drew)
  have hu := fun s => quiet_fam (P := Try.prog) (Nat.le_refl _) hf hs (cone_any (f s))
  have hq := fun s => quiet_fam (P := Try.prog) (Nat.le_refl _) hf hs (cmulF (f s) a c xs 1 (HR.out.below (hf s)) hn (by omega) hxs)
  go_enter Try.func25, Try.ntmps25
  go_wp2
  refine wp_region_fam (f := f) (by kernel_rfl) (by kernel_rfl) h0.out ?_
  repeat (go_big_quiet_step (first | (go_at_call 36; exact hu _) | (go_at_call 50; exact hq _)))
  refine wpQuiet_nil ?_
  rintro _ ⟨s, rfl⟩
  clear hu hq
  go_wp2
  go_ret
  exact ⟨rfl, hf s⟩

theorem sumB_unit (w : World) : (method 180 45 (.agg #[]) "Zero").run Try.prog w = .ok (47, .agg #[]) w := by kernel_rfl
set_option maxHeartbeats 400000 in
theorem sumB (w : World) (a : Option Addr) (c : Nat) (xs : List (Bool)) (hr : BoolRow w a xs) (hn : xs.length ≤ maxLen) :
    Calls Try.prog 41 #[.iface 45 (.agg #[]), .slice a xs.length c] w fun e w' => e = .returned (.bool (xs.foldl or false)) ∧ Below w.heap.size w w' := by
  have hm := sumB_unit
  have hmf := Try.makeFunc_run
  have HR := Lib.hid hr
  clear hr
  obtain ⟨S, hne, f, hf, hs⟩ := fam_of w.heap.size w
  have h0 := Lib.hid (hs w.drew (Below.refl _ _).drew)
  have hu := fun s => quiet_fam (P := Try.prog) (Nat.le_refl _) hf hs (bzero_any (f s))
  have hq := fun s => quiet_fam (P := Try.prog) (Nat.le_refl _) hf hs (baddF (f s) a c xs false (HR.out.below (hf s)) hn)
  go_enter Try.func41, Try.ntmps41
  go_wp2
  refine wp_region_fam (f := f) (by kernel_rfl) (by kernel_rfl) h0.out ?_
  repeat (go_big_quiet_step (first | (go_at_call 47; exact hu _) | (go_at_call 53; exact hq _)))
  refine wpQuiet_nil ?_
  rintro _ ⟨s, rfl⟩
  clear hu hq
  go_wp2
  go_ret
  exact ⟨rfl, hf s⟩

theorem prodB_unit (w : World) : (method 180 45 (.agg #[]) "One").run Try.prog w = .ok (46, .agg #[]) w := by kernel_rfl
set_option maxHeartbeats 400000 in
theorem prodB (w : World) (a : Option Addr) (c : Nat) (xs : List (Bool)) (hr : BoolRow w a xs) (hn : xs.length ≤ maxLen) :
    Calls Try.prog 42 #[.iface 45 (.agg #[]), .slice a xs.length c] w fun e w' => e = .returned (.bool (xs.foldl and true)) ∧ Below w.heap.size w w' := by
  have hm := prodB_unit
  have hmf := Try.makeFunc_run
  have HR := Lib.hid hr
  clear hr
  obtain ⟨S, hne, f, hf, hs⟩ := fam_of w.heap.size w
  have h0 := Lib.hid (hs w.drew (Below.refl _ _).drew)
  have hu := fun s => quiet_fam (P := Try.prog) (Nat.le_refl _) hf hs (bone_any (f s))
  have hq := fun s => quiet_fam (P := Try.prog) (Nat.le_refl _) hf hs (bmulF (f s) a c xs true (HR.out.below (hf s)) hn)
  go_enter Try.func42, Try.ntmps42
  go_wp2
  refine wp_region_fam (f := f) (by kernel_rfl) (by kernel_rfl) h0.out ?_
  repeat (go_big_quiet_step (first | (go_at_call 46; exact hu _) | (go_at_call 53; exact hq _)))
  refine wpQuiet_nil ?_
  rintro _ ⟨s, rfl⟩
  clear hu hq
  go_wp2
  go_ret
  exact ⟨rfl, hf s⟩

theorem sumV_unit (w : World) : (method 180 27 (.agg #[]) "Zero").run Try.prog w = .ok (37, .agg #[]) w := by kernel_rfl
set_option maxHeartbeats 400000 in
theorem sumV (w : World) (a : Option Addr) (c : Nat) (xs : List (Int × Int)) (hr : ValRow w a xs) (hn : xs.length ≤ maxLen) :
    Calls Try.prog 26 #[.iface 27 (.agg #[]), .slice a xs.length c] w fun e w' => e = .returned (.agg #[.int .i64 (xs.foldl vadd (1099511627776, 0)).1, .int .i64 (xs.foldl vadd (1099511627776, 0)).2]) ∧ Below w.heap.size w w' := by
  have hm := sumV_unit
  have hmf := Try.makeFunc_run
  have HR := Lib.hid hr
  clear hr
  go_enter Try.func26, Try.ntmps26
  go_wp2
  go_region_with (first | (go_at_call 37; refine (vzero_any _).mono ?_; rintro e w1 ⟨rfl, hb1⟩; have S1 : Slot w w1 := (Slot.start w).next hb1; clear hb1) | (go_at_call 51; refine (vaddF _ a c xs (1099511627776, 0) (HR.out.below S1.below) hn).mono ?_; rintro e w2 ⟨rfl, hb2⟩; have S2 : Slot w w2 := S1.next hb2; have d0 := S2.c0; have d1 := S2.c1; have g0 := S2.f0; have g1 := S2.f1; clear hb2))
  all_goals go_wp2
  all_goals exact bodyPost_ret (v := .agg #[.int .i64 (xs.foldl vadd (1099511627776, 0)).1, .int .i64 (xs.foldl vadd (1099511627776, 0)).2]) (by simp [results, Try.results26, go_sem, d0, d1]) rfl ⟨rfl, (S2.below.setCell (Nat.le_refl _) _).setCell (Nat.le_refl _) _⟩

theorem prodV_unit (w : World) : (method 180 27 (.agg #[]) "One").run Try.prog w = .ok (18, .agg #[]) w := by kernel_rfl
set_option maxHeartbeats 400000 in
theorem prodV (w : World) (a : Option Addr) (c : Nat) (xs : List (Int × Int)) (hr : ValRow w a xs) (hn : xs.length ≤ maxLen) (hxs : ∀ x ∈ xs, vok x) :
    Calls Try.prog 27 #[.iface 27 (.agg #[]), .slice a xs.length c] w fun e w' => e = .returned (.agg #[.int .i64 (xs.foldl vmul (0, 0)).1, .int .i64 (xs.foldl vmul (0, 0)).2]) ∧ Below w.heap.size w w' := by
  have hm := prodV_unit
  have hmf := Try.makeFunc_run
  have HR := Lib.hid hr
  clear hr
  go_enter Try.func27, Try.ntmps27
  go_wp2
  go_region_with (first | (go_at_call 18; refine (vone_any _).mono ?_; rintro e w1 ⟨rfl, hb1⟩; have S1 : Slot w w1 := (Slot.start w).next hb1; clear hb1) | (go_at_call 51; refine (vmulF _ a c xs (0, 0) (HR.out.below S1.below) hn (by unfold vok; simp) hxs).mono ?_; rintro e w2 ⟨rfl, hb2⟩; have S2 : Slot w w2 := S1.next hb2; have d0 := S2.c0; have d1 := S2.c1; have g0 := S2.f0; have g1 := S2.f1; clear hb2))
  all_goals go_wp2
  all_goals exact bodyPost_ret (v := .agg #[.int .i64 (xs.foldl vmul (0, 0)).1, .int .i64 (xs.foldl vmul (0, 0)).2]) (by simp [results, Try.results27, go_sem, d0, d1]) rfl ⟨rfl, (S2.below.setCell (Nat.le_refl _) _).setCell (Nat.le_refl _) _⟩

end Go.Proofs.Ytdnkkeabimjbaaa
