/- Laws 5 and 6: walks. Printed by gen27l56.py. -/
import Derived.Test.YtjhdhnkikgmpoaaAwake
namespace Go.Proofs.Ytjhdhnkikgmpoaa
open Go.RowKit Go.Deep

set_option maxRecDepth 100000 in
set_option maxHeartbeats 8000000 in
theorem law5_any (w : World) (a : Option Addr) (c : Nat) (n : Int) (es : List Ed) (hr : EdRow w a es) (hn : es.length ≤ maxLen) :
    Calls Try.prog 5 #[.agg #[.int .i64 n, .slice a es.length c]] w fun e w' => e = .returned (.bool true) ∧ Below w.heap.size w w' := by
  have HR := Lib.hid hr
  unfold maxLen at hn
  clear hr
  have hbox := HBox.box w n a es.length c
  have hB0 : Below w.heap.size w (w.alloc (.cells #[.int .i64 n, .slice a es.length c] 24)) := (Below.refl _ _).alloc (Nat.le_refl _) _
  have HB0 := Lib.hid hB0
  have HBOX := Lib.hid hbox
  clear hbox hB0
  go_enter Try.func5, Try.ntmps5
  go_wp2_with fail
  refine (awake_any _).mono ?_
  rintro e w1 ⟨rfl, hb1⟩
  have HB1 := Lib.hid (HB0.out.trans (hb1.mono (by simp)))
  have hx1 := HBOX.out.below (B := w.heap.size + 1) (by omega) (hb1.mono (by simp))
  have hs1 : w.heap.size < w1.heap.size := by have := hb1.size; simp at this; omega
  have HX1 := Lib.hid hx1
  have HR1 := Lib.hid (HR.out.below (Nat.le_refl _) HB1.out)
  obtain ⟨x0, x1⟩ := hx1
  clear hb1 HBOX

  go_wp2_with fail
  obtain ⟨S, hne, f, hf, hs⟩ := fam_of w1.heap.size w1
  obtain ⟨x0, x1⟩ := HBox.fam (fun s => HX1.out.below hs1 (hf s))
  obtain ⟨s0, h0⟩ := hs w1.drew (Below.refl _ _).drew
  by_cases h2 : 200 < es.length
  · have h2d : decide (200 < (es.length : Int)) = true := decide_eq_true (by omega)
    refine wp_region_fast (S := fun w' => ∃ s, w' = f s) [(0, 2, 32), (1, 32, 64), (2, 64, 128), (4, 128, 256), (8, 256, 512), (16, 514, 1024), (48, 1536, 2048), (16, 514, 4096), (208, 4608, 8192), (336, 10752, 16384), (528, 16896, 32768), (2047, 32768, 4)] [(0, 0, (0, 2, 32)), (1, 0, (1, 32, 64)), (2, 0, (2, 64, 128)), (3, 0, (4, 128, 256)), (4, 0, (8, 256, 512)), (5, 0, (16, 514, 1024)), (7, 0, (16, 514, 4096)), (6, 1, (48, 1536, 2048)), (8, 1, (208, 4608, 8192)), (9, 0, (336, 10752, 16384)), (10, 0, (528, 16896, 32768)), (11, 0, (2047, 32768, 4))] 0 (by as_aux_lemma => kernel_rfl) (by as_aux_lemma => kernel_rfl) (by as_aux_lemma => kernel_rfl) (fun _ d _ _ _ h => by cases d <;> exact h) ⟨s0, h0⟩ ?_
    rw [h0]
    clear h0
    simp only [List.map_cons, List.map_nil, List.getElem?_cons_succ, List.getElem?_cons_zero]
    repeat ((with_reducible refine mix_free (fun K hK => ?_)); go_simp; refine hK _ ?_; clear hK K)
    refine mix_forced (fun K hK => ?_) ⟨_, rfl⟩
    go_simp
    refine hK.out _ _ ⟨_, rfl⟩ (fun _ => ?_)
    clear hK K
    repeat ((with_reducible refine mix_free (fun K hK => ?_)); go_simp; refine hK _ ?_; clear hK K)
    refine mix_forced (fun K hK => ?_) ⟨_, rfl⟩
    go_simp
    refine hK.out _ _ ⟨_, rfl⟩ (fun _ => ?_)
    clear hK K
    repeat ((with_reducible refine mix_free (fun K hK => ?_)); go_simp; refine hK _ ?_; clear hK K)
    refine mix_nil ?_
    go_wp2
    go_ret
    exact ⟨rfl, HB1.out.trans ((hf _).mono HB1.out.size)⟩
  · have h2d : decide (200 < (es.length : Int)) = false := decide_eq_false (by omega)
    refine wp_region_fast (S := fun w' => ∃ s, w' = f s) [(0, 2, 32), (1, 32, 64), (2, 64, 128), (4, 128, 256), (8, 256, 512), (16, 514, 1024), (48, 1536, 2048), (16, 514, 4096), (208, 4608, 8192), (336, 10752, 16384), (528, 16896, 32768), (2047, 32768, 4)] [(0, 0, (0, 2, 32)), (1, 0, (1, 32, 64)), (2, 0, (2, 64, 128)), (3, 0, (4, 128, 256)), (4, 0, (8, 256, 512)), (5, 0, (16, 514, 1024)), (7, 0, (16, 514, 4096)), (6, 1, (48, 1536, 2048)), (8, 1, (208, 4608, 8192)), (9, 0, (336, 10752, 16384)), (10, 0, (528, 16896, 32768)), (11, 0, (2047, 32768, 4))] 0 (by as_aux_lemma => kernel_rfl) (by as_aux_lemma => kernel_rfl) (by as_aux_lemma => kernel_rfl) (fun _ d _ _ _ h => by cases d <;> exact h) ⟨s0, h0⟩ ?_
    rw [h0]
    clear h0
    simp only [List.map_cons, List.map_nil, List.getElem?_cons_succ, List.getElem?_cons_zero]
    repeat ((with_reducible refine mix_free (fun K hK => ?_)); go_simp; refine hK _ ?_; clear hK K)
    refine mix_forced (fun K hK => ?_) ⟨_, rfl⟩
    go_simp
    refine (valid_any _ a c n es (HR1.out.below (Nat.le_refl _) (hf _)) (by unfold maxLen; omega)).mono ?_
    rintro e v1 ⟨rfl, hb⟩
    obtain ⟨s1, rfl⟩ := hs v1 ((hf _).trans (hb.mono (hf _).size))
    refine hK.out _ _ ⟨s1, rfl⟩ (fun _ => ?_)
    clear hK K
    clear hb
    repeat ((with_reducible refine mix_free (fun K hK => ?_)); go_simp; refine hK _ ?_; clear hK K)
    refine mix_forced (fun K hK => ?_) ⟨_, rfl⟩
    go_simp
    refine (refvalid_any _ a c n es (HR1.out.below (Nat.le_refl _) (hf _)) (by unfold maxLen; omega)).mono ?_
    rintro e v1 ⟨rfl, hb⟩
    obtain ⟨s2, rfl⟩ := hs v1 ((hf _).trans (hb.mono (hf _).size))
    refine hK.out _ _ ⟨s2, rfl⟩ (fun _ => ?_)
    clear hK K
    clear hb
    repeat ((with_reducible refine mix_free (fun K hK => ?_)); go_simp; refine hK _ ?_; clear hK K)
    refine mix_nil ?_
    go_wp2
    go_ret
    exact ⟨rfl, HB1.out.trans ((hf _).mono HB1.out.size)⟩

theorem small_len {n : Int} {es : List Ed} (h : smallB n es = true) : es.length ≤ 60 ∧ (∀ e ∈ es, e.tails.length ≤ 4) ∧ ∃ m : Nat, n = m ∧ m ≤ 30 ∧ Ok m es ∧ validB n es = true := by
  unfold smallB at h
  simp only [Bool.and_eq_true, decide_eq_true_eq, List.all_eq_true] at h
  obtain ⟨⟨h1, h2⟩, h3, h4⟩ := h
  obtain ⟨m, hm, hok⟩ := ok_of_valid h4
  exact ⟨h2, h3, m, hm, by omega, hok, h4⟩
theorem occ_small {es : List Ed} (h : es.length ≤ 60) (h4 : ∀ e ∈ es, e.tails.length ≤ 4) : (occ es).length ≤ 1073741824 := by
  have h1 : ∀ (l : List Ed), (∀ e ∈ l, e.tails.length ≤ 4) → (occ l).length ≤ 4 * l.length := fun l => by
    induction l with
    | nil => intro _; simp [occ]
    | cons e l ih =>
      intro hl
      have h5 := ih (fun x hx => hl x (List.mem_cons_of_mem _ hx))
      have h6 := hl e (List.mem_cons_self ..)
      unfold occ at h5 ⊢
      rw [List.flatMap_cons, List.length_append, occE_len, List.length_cons]
      omega
  have := h1 es h4
  omega

set_option maxRecDepth 100000 in
set_option maxHeartbeats 8000000 in
theorem law6_any (w : World) (a : Option Addr) (c : Nat) (n : Int) (es : List Ed) (hr : EdRow w a es) (hn : es.length ≤ maxLen) :
    Calls Try.prog 6 #[.agg #[.int .i64 n, .slice a es.length c]] w fun e w' => e = .returned (.bool true) ∧ Below w.heap.size w w' := by
  have HR := Lib.hid hr
  unfold maxLen at hn
  clear hr
  have hbox := HBox.box w n a es.length c
  have hB0 : Below w.heap.size w (w.alloc (.cells #[.int .i64 n, .slice a es.length c] 24)) := (Below.refl _ _).alloc (Nat.le_refl _) _
  have HB0 := Lib.hid hB0
  have HBOX := Lib.hid hbox
  clear hbox hB0
  go_enter Try.func6, Try.ntmps6
  go_wp2_with fail
  refine (awake_any _).mono ?_
  rintro e w1 ⟨rfl, hb1⟩
  have HB1 := Lib.hid (HB0.out.trans (hb1.mono (by simp)))
  have hx1 := HBOX.out.below (B := w.heap.size + 1) (by omega) (hb1.mono (by simp))
  have hs1 : w.heap.size < w1.heap.size := by have := hb1.size; simp at this; omega
  have HX1 := Lib.hid hx1
  have HR1 := Lib.hid (HR.out.below (Nat.le_refl _) HB1.out)
  obtain ⟨x0, x1⟩ := hx1
  clear hb1 HBOX

  have hsmall := small_any
  go_wp2_with fail
  obtain ⟨S, hne, f, hf, hs⟩ := fam_of w1.heap.size w1
  obtain ⟨x0, x1⟩ := HBox.fam (fun s => HX1.out.below hs1 (hf s))
  obtain ⟨s0, h0⟩ := hs w1.drew (Below.refl _ _).drew
  cases hsm : smallB n es
  · have HSM := Lib.hid hsm
    clear hsm hsmall
    refine wp_region_fast (S := fun w' => ∃ s, w' = f s) [(0, 2, 32), (1, 32, 64), (2, 64, 128), (6, 128, 256), (8, 258, 512), (24, 768, 1024), (8, 258, 2048), (104, 2304, 4096), (168, 5376, 8192), (264, 8448, 16384), (1023, 16384, 4)] [(0, 0, (0, 2, 32)), (1, 1, (1, 32, 64)), (2, 0, (2, 64, 128)), (3, 0, (6, 128, 256)), (4, 0, (8, 258, 512)), (6, 0, (8, 258, 2048)), (5, 1, (24, 768, 1024)), (7, 1, (104, 2304, 4096)), (8, 1, (168, 5376, 8192)), (9, 0, (264, 8448, 16384)), (10, 0, (1023, 16384, 4))] 0 (by as_aux_lemma => kernel_rfl) (by as_aux_lemma => kernel_rfl) (by as_aux_lemma => kernel_rfl) (fun _ d _ _ _ h => by cases d <;> exact h) ⟨s0, h0⟩ ?_
    rw [h0]
    clear h0
    simp only [List.map_cons, List.map_nil, List.getElem?_cons_succ, List.getElem?_cons_zero]
    repeat ((with_reducible refine mix_free (fun K hK => ?_)); go_simp; refine hK _ ?_; clear hK K)
    refine mix_forced (fun K hK => ?_) ⟨_, rfl⟩
    go_simp
    refine (small_any _ a c n es (HR1.out.below (Nat.le_refl _) (hf _)) (by unfold maxLen; omega)).mono ?_
    rintro e v1 ⟨rfl, hb⟩
    obtain ⟨s1, rfl⟩ := hs v1 ((hf _).trans (hb.mono (hf _).size))
    refine hK.out _ _ ⟨s1, rfl⟩ (fun _ => ?_)
    clear hK K
    clear hb
    rw [HSM.out]
    repeat ((with_reducible refine mix_free (fun K hK => ?_)); go_simp; refine hK _ ?_; clear hK K)
    refine mix_forced (fun K hK => ?_) ⟨_, rfl⟩
    go_simp
    refine hK.out _ _ ⟨_, rfl⟩ (fun _ => ?_)
    clear hK K
    repeat ((with_reducible refine mix_free (fun K hK => ?_)); go_simp; refine hK _ ?_; clear hK K)
    refine mix_forced (fun K hK => ?_) ⟨_, rfl⟩
    go_simp
    refine hK.out _ _ ⟨_, rfl⟩ (fun _ => ?_)
    clear hK K
    repeat ((with_reducible refine mix_free (fun K hK => ?_)); go_simp; refine hK _ ?_; clear hK K)
    refine mix_forced (fun K hK => ?_) ⟨_, rfl⟩
    go_simp
    refine hK.out _ _ ⟨_, rfl⟩ (fun _ => ?_)
    clear hK K
    repeat ((with_reducible refine mix_free (fun K hK => ?_)); go_simp; refine hK _ ?_; clear hK K)
    refine mix_nil ?_
    go_wp2
    go_ret
    exact ⟨rfl, HB1.out.trans ((hf _).mono HB1.out.size)⟩
  · have HSM := Lib.hid hsm
    obtain ⟨hl60, hl4, m, rfl, hm30, hok, hval⟩ := small_len hsm
    have HOCC := Lib.hid (occ_small hl60 hl4)
    have HOK := Lib.hid hok
    clear hsm hsmall hl4 hok hval
    refine wp_region_fast (S := fun w' => ∃ s, w' = f s) [(0, 2, 32), (1, 32, 64), (2, 64, 128), (6, 128, 256), (8, 258, 512), (24, 768, 1024), (8, 258, 2048), (104, 2304, 4096), (168, 5376, 8192), (264, 8448, 16384), (1023, 16384, 4)] [(0, 0, (0, 2, 32)), (1, 1, (1, 32, 64)), (2, 0, (2, 64, 128)), (3, 0, (6, 128, 256)), (4, 0, (8, 258, 512)), (6, 0, (8, 258, 2048)), (5, 1, (24, 768, 1024)), (7, 1, (104, 2304, 4096)), (8, 1, (168, 5376, 8192)), (9, 0, (264, 8448, 16384)), (10, 0, (1023, 16384, 4))] 0 (by as_aux_lemma => kernel_rfl) (by as_aux_lemma => kernel_rfl) (by as_aux_lemma => kernel_rfl) (fun _ d _ _ _ h => by cases d <;> exact h) ⟨s0, h0⟩ ?_
    rw [h0]
    clear h0
    simp only [List.map_cons, List.map_nil, List.getElem?_cons_succ, List.getElem?_cons_zero]
    repeat ((with_reducible refine mix_free (fun K hK => ?_)); go_simp; refine hK _ ?_; clear hK K)
    refine mix_forced (fun K hK => ?_) ⟨_, rfl⟩
    go_simp
    refine (small_any _ a c m es (HR1.out.below (Nat.le_refl _) (hf _)) (by unfold maxLen; omega)).mono ?_
    rintro e v1 ⟨rfl, hb⟩
    obtain ⟨s1, rfl⟩ := hs v1 ((hf _).trans (hb.mono (hf _).size))
    refine hK.out _ _ ⟨s1, rfl⟩ (fun _ => ?_)
    clear hK K
    clear hb
    rw [HSM.out]
    repeat ((with_reducible refine mix_free (fun K hK => ?_)); go_simp; refine hK _ ?_; clear hK K)
    refine mix_forced (fun K hK => ?_) ⟨_, rfl⟩
    go_simp
    refine (der_any _ a c m es (HR1.out.below (Nat.le_refl _) (hf _)) (by omega) HOK.out HOCC.out).mono ?_
    rintro e v1 ⟨A1, cap1, rfl, hrow1, hb⟩
    obtain ⟨s2, rfl⟩ := hs v1 ((hf _).trans (hb.mono (hf _).size))
    refine hK.out _ _ ⟨s2, rfl⟩ (fun _ => ?_)
    clear hK K
    have HROW1 := Lib.hid hrow1
    clear hb hrow1
    repeat ((with_reducible refine mix_free (fun K hK => ?_)); go_simp; refine hK _ ?_; clear hK K)
    refine mix_forced (fun K hK => ?_) ⟨_, rfl⟩
    go_simp
    refine (refder_any _ a c m es (HR1.out.below (Nat.le_refl _) (hf _)) (by unfold maxLen; omega) HOK.out).mono ?_
    rintro e v1 ⟨A2, cap2, rfl, hrow2, hb⟩
    obtain ⟨s3, rfl⟩ := hs v1 ((hf _).trans (hb.mono (hf _).size))
    refine hK.out _ _ ⟨s3, rfl⟩ (fun _ => ?_)
    clear hK K
    have HROW2 := Lib.hid hrow2
    have HROW3 := Lib.hid (HROW1.out.below (Nat.le_refl _) hb)
    clear hb hrow2
    repeat ((with_reducible refine mix_free (fun K hK => ?_)); go_simp; refine hK _ ?_; clear hK K)
    refine mix_forced (fun K hK => ?_) ⟨_, rfl⟩
    go_simp
    refine (sameBools_any _ A1 A2 cap1 cap2 (derL m es) (derL m es) HROW3.out HROW2.out (by unfold maxLen; rw [derL_len]; omega) (by unfold maxLen; rw [derL_len]; omega)).mono ?_
    rintro e v1 ⟨rfl, hb⟩
    obtain ⟨s4, rfl⟩ := hs v1 ((hf _).trans (hb.mono (hf _).size))
    refine hK.out _ _ ⟨s4, rfl⟩ (fun _ => ?_)
    clear hK K
    clear hb
    rw [beq_self_eq_true]
    repeat ((with_reducible refine mix_free (fun K hK => ?_)); go_simp; refine hK _ ?_; clear hK K)
    refine mix_nil ?_
    go_wp2
    go_ret
    exact ⟨rfl, HB1.out.trans ((hf _).mono HB1.out.size)⟩
end Go.Proofs.Ytjhdhnkikgmpoaa
