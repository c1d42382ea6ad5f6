/- Contracts of SameInts, SameBools, all: what the lists hold decides. Printed by gen27same.py. -/
import Derived.Test.YtjhdhnkikgmpoaaRep
import Derived.Test.YtjhdhnkikgmpoaaMix
namespace Go.Proofs.Ytjhdhnkikgmpoaa
open Go.RowKit

set_option maxHeartbeats 1000000 in
theorem sameInts_any (w : World) (a a2 : Option Addr) (c c2 : Nat) (xs ys : List Int) (hx : IRow w a xs) (hy : IRow w a2 ys) (hn : xs.length ≤ maxLen) (hn2 : ys.length ≤ maxLen) :
    Calls Try.prog 24 #[.slice a xs.length c, .slice a2 ys.length c2] w fun e w' => e = .returned (.bool (xs == ys)) ∧ Below w.heap.size w w' := by
  unfold maxLen at hn hn2
  have HX := Lib.hid hx
  have HY := Lib.hid hy
  clear hx hy
  by_cases hl : xs.length = ys.length
  · obtain ⟨S, hne, f, hf, hs⟩ := fam_of w.heap.size w
    have e1 : ((xs.length : Int) != (ys.length : Int)) = false := by simp [hl]
    have HL := Lib.hid hl
    clear hl
    go_enter Try.func24, Try.ntmps24
    go_wp2
    clear e1
    go_loopw [5] (fun i wr => ∃ k : Nat, k ≤ xs.length ∧ i = .int .i64 k ∧ xs.take k = ys.take k ∧ Below w.heap.size w wr) (fun i _ => xs.length - (intOf i).toNat)
    case atStart => exact ⟨0, Nat.zero_le _, rfl, rfl, Below.refl _ _⟩
    case round =>
      obtain ⟨k, hk, rfl, htk, hB⟩ := hrel
      obtain ⟨s, rfl⟩ := hs wr hB
      have HT := Lib.hid htk
      clear htk
      by_cases hlt : k < xs.length
      · have hlt2 : k < ys.length := by have := HL.out; omega
        obtain ⟨b, o, rfl, hb, hc⟩ := HX.out.at hlt
        obtain ⟨b2, o2, rfl, hb2, hc2⟩ := HY.out.at hlt2
        have hd : ∀ s, (f s).cell? ⟨b, o + k, none⟩ = some (.int .i64 xs[k]) := fun s => ((hf s).cell (p := ⟨b, o + k, none⟩) hb).trans hc
        have hd2 : ∀ s, (f s).cell? ⟨b2, o2 + k, none⟩ = some (.int .i64 ys[k]) := fun s => ((hf s).cell (p := ⟨b2, o2 + k, none⟩) hb2).trans hc2
        clear hc hc2 hb hb2
        generalize hX : xs[k] = X at *
        generalize hY : ys[k] = Y at *
        have EX := Lib.hid hX
        have EY := Lib.hid hY
        clear hX hY
        by_cases hxy : X = Y
        · subst hxy
          go_wp2_with fail
          obtain ⟨s, h1⟩ := hs (f s).drew ((hf s).drew)
          refine wp_region_fast (S := fun w' => ∃ s, w' = f s) [(0, 1, 131072), (0, 32, 262144), (3, 393216, 524288), (4, 524288, 1048576), (0, 2, 2097152), (0, 32, 4194304), (48, 6291456, 8388608), (64, 8388608, 16777216), (136, 17825792, 33554432)] [(0, 0, (0, 1, 131072)), (1, 0, (0, 32, 262144)), (2, 0, (3, 393216, 524288)), (3, 0, (4, 524288, 1048576)), (4, 0, (0, 2, 2097152)), (5, 0, (0, 32, 4194304)), (6, 0, (48, 6291456, 8388608)), (7, 0, (64, 8388608, 16777216)), (8, 0, (136, 17825792, 33554432))] 0 (by as_aux_lemma => kernel_rfl) (by as_aux_lemma => kernel_rfl) (by as_aux_lemma => kernel_rfl) (fun _ d _ _ _ h => by cases d <;> exact h) ⟨s, h1⟩ ?_
          rw [h1]
          clear h1
          simp only [List.map_cons, List.map_nil, List.getElem?_cons_succ, List.getElem?_cons_zero]
          repeat ((with_reducible refine mix_free (fun K hK => ?_)); go_simp; refine hK _ ?_; clear hK K)
          refine mix_nil ?_
          go_wp2
          go_roundw
          case rel => exact ⟨k + 1, by omega, by go_num, by rw [take_step xs k hlt, take_step ys k hlt2, HT.out, EX.out, EY.out], hf _⟩
          case measure => simp [intOf]; omega
        · have hne : (X != Y) = true := by simpa using hxy
          have HXY := Lib.hid hxy
          clear hxy
          skip
          all_goals first
            | exact absurd rfl HXY.out
            | (go_wp2_with fail
               obtain ⟨s, h1⟩ := hs (f s).drew ((hf s).drew)
               refine wp_region_fast (S := fun w' => ∃ s, w' = f s) [(0, 1, 131072), (0, 32, 262144), (3, 393216, 524288), (4, 524288, 1048576), (0, 2, 2097152), (0, 32, 4194304), (48, 6291456, 8388608), (64, 8388608, 16777216), (136, 17825792, 33554432)] [(0, 0, (0, 1, 131072)), (1, 0, (0, 32, 262144)), (2, 0, (3, 393216, 524288)), (3, 0, (4, 524288, 1048576)), (4, 0, (0, 2, 2097152)), (5, 0, (0, 32, 4194304)), (6, 0, (48, 6291456, 8388608)), (7, 0, (64, 8388608, 16777216)), (8, 0, (136, 17825792, 33554432))] 0 (by as_aux_lemma => kernel_rfl) (by as_aux_lemma => kernel_rfl) (by as_aux_lemma => kernel_rfl) (fun _ d _ _ _ h => by cases d <;> exact h) ⟨s, h1⟩ ?_
               rw [h1]
               clear h1
               simp only [List.map_cons, List.map_nil, List.getElem?_cons_succ, List.getElem?_cons_zero]
               repeat ((with_reducible refine mix_free (fun K hK => ?_)); go_simp; refine hK _ ?_; clear hK K)
               refine mix_nil ?_
               go_wp2
               go_ret
               refine ⟨ret_bool ?_, hf _⟩
               have : xs ≠ ys := fun e => HXY.out (by rw [← EX.out, ← EY.out]; subst e; rfl)
               simpa using this)
      · have hkk : k = xs.length := by omega
        subst hkk
        go_wp2
        go_ret
        refine ⟨ret_bool ?_, hf _⟩
        have h2 := HT.out
        rw [List.take_length, List.take_of_length_le (by have := HL.out; omega)] at h2
        simpa using h2
  · have e1 : ((xs.length : Int) != (ys.length : Int)) = true := by simp; omega
    have hne : (xs == ys) = false := by
      have : xs ≠ ys := fun e => hl (by rw [e])
      simpa using this
    have HN := Lib.hid hne
    clear hl hne
    go_enter Try.func24, Try.ntmps24
    go_wp2
    go_ret
    exact ⟨ret_bool HN.out.symm, Below.refl _ _⟩

set_option maxHeartbeats 1000000 in
theorem sameBools_any (w : World) (a a2 : Option Addr) (c c2 : Nat) (xs ys : List Bool) (hx : BRow w a xs) (hy : BRow w a2 ys) (hn : xs.length ≤ maxLen) (hn2 : ys.length ≤ maxLen) :
    Calls Try.prog 14 #[.slice a xs.length c, .slice a2 ys.length c2] w fun e w' => e = .returned (.bool (xs == ys)) ∧ Below w.heap.size w w' := by
  unfold maxLen at hn hn2
  have HX := Lib.hid hx
  have HY := Lib.hid hy
  clear hx hy
  by_cases hl : xs.length = ys.length
  · obtain ⟨S, hne, f, hf, hs⟩ := fam_of w.heap.size w
    have e1 : ((xs.length : Int) != (ys.length : Int)) = false := by simp [hl]
    have HL := Lib.hid hl
    clear hl
    go_enter Try.func14, Try.ntmps14
    go_wp2
    clear e1
    go_loopw [5] (fun i wr => ∃ k : Nat, k ≤ xs.length ∧ i = .int .i64 k ∧ xs.take k = ys.take k ∧ Below w.heap.size w wr) (fun i _ => xs.length - (intOf i).toNat)
    case atStart => exact ⟨0, Nat.zero_le _, rfl, rfl, Below.refl _ _⟩
    case round =>
      obtain ⟨k, hk, rfl, htk, hB⟩ := hrel
      obtain ⟨s, rfl⟩ := hs wr hB
      have HT := Lib.hid htk
      clear htk
      by_cases hlt : k < xs.length
      · have hlt2 : k < ys.length := by have := HL.out; omega
        obtain ⟨b, o, rfl, hb, hc⟩ := HX.out.at hlt
        obtain ⟨b2, o2, rfl, hb2, hc2⟩ := HY.out.at hlt2
        have hd : ∀ s, (f s).cell? ⟨b, o + k, none⟩ = some (.bool xs[k]) := fun s => ((hf s).cell (p := ⟨b, o + k, none⟩) hb).trans hc
        have hd2 : ∀ s, (f s).cell? ⟨b2, o2 + k, none⟩ = some (.bool ys[k]) := fun s => ((hf s).cell (p := ⟨b2, o2 + k, none⟩) hb2).trans hc2
        clear hc hc2 hb hb2
        generalize hX : xs[k] = X at *
        generalize hY : ys[k] = Y at *
        have EX := Lib.hid hX
        have EY := Lib.hid hY
        clear hX hY
        by_cases hxy : X = Y
        · subst hxy
          go_wp2_with fail
          obtain ⟨s, h1⟩ := hs (f s).drew ((hf s).drew)
          refine wp_region_fast (S := fun w' => ∃ s, w' = f s) [(0, 1, 131072), (0, 32, 262144), (3, 393216, 524288), (4, 524288, 1048576), (0, 2, 2097152), (0, 32, 4194304), (48, 6291456, 8388608), (64, 8388608, 16777216), (136, 17825792, 33554432)] [(0, 0, (0, 1, 131072)), (1, 0, (0, 32, 262144)), (2, 0, (3, 393216, 524288)), (3, 0, (4, 524288, 1048576)), (4, 0, (0, 2, 2097152)), (5, 0, (0, 32, 4194304)), (6, 0, (48, 6291456, 8388608)), (7, 0, (64, 8388608, 16777216)), (8, 0, (136, 17825792, 33554432))] 0 (by as_aux_lemma => kernel_rfl) (by as_aux_lemma => kernel_rfl) (by as_aux_lemma => kernel_rfl) (fun _ d _ _ _ h => by cases d <;> exact h) ⟨s, h1⟩ ?_
          rw [h1]
          clear h1
          simp only [List.map_cons, List.map_nil, List.getElem?_cons_succ, List.getElem?_cons_zero]
          repeat ((with_reducible refine mix_free (fun K hK => ?_)); go_simp; refine hK _ ?_; clear hK K)
          refine mix_nil ?_
          go_wp2
          go_roundw
          case rel => exact ⟨k + 1, by omega, by go_num, by rw [take_step xs k hlt, take_step ys k hlt2, HT.out, EX.out, EY.out], hf _⟩
          case measure => simp [intOf]; omega
        · skip
          have HXY := Lib.hid hxy
          clear hxy
          cases X <;> cases Y
          all_goals first
            | exact absurd rfl HXY.out
            | (go_wp2_with fail
               obtain ⟨s, h1⟩ := hs (f s).drew ((hf s).drew)
               refine wp_region_fast (S := fun w' => ∃ s, w' = f s) [(0, 1, 131072), (0, 32, 262144), (3, 393216, 524288), (4, 524288, 1048576), (0, 2, 2097152), (0, 32, 4194304), (48, 6291456, 8388608), (64, 8388608, 16777216), (136, 17825792, 33554432)] [(0, 0, (0, 1, 131072)), (1, 0, (0, 32, 262144)), (2, 0, (3, 393216, 524288)), (3, 0, (4, 524288, 1048576)), (4, 0, (0, 2, 2097152)), (5, 0, (0, 32, 4194304)), (6, 0, (48, 6291456, 8388608)), (7, 0, (64, 8388608, 16777216)), (8, 0, (136, 17825792, 33554432))] 0 (by as_aux_lemma => kernel_rfl) (by as_aux_lemma => kernel_rfl) (by as_aux_lemma => kernel_rfl) (fun _ d _ _ _ h => by cases d <;> exact h) ⟨s, h1⟩ ?_
               rw [h1]
               clear h1
               simp only [List.map_cons, List.map_nil, List.getElem?_cons_succ, List.getElem?_cons_zero]
               repeat ((with_reducible refine mix_free (fun K hK => ?_)); go_simp; refine hK _ ?_; clear hK K)
               refine mix_nil ?_
               go_wp2
               go_ret
               refine ⟨ret_bool ?_, hf _⟩
               have : xs ≠ ys := fun e => HXY.out (by rw [← EX.out, ← EY.out]; subst e; rfl)
               simpa using this)
      · have hkk : k = xs.length := by omega
        subst hkk
        go_wp2
        go_ret
        refine ⟨ret_bool ?_, hf _⟩
        have h2 := HT.out
        rw [List.take_length, List.take_of_length_le (by have := HL.out; omega)] at h2
        simpa using h2
  · have e1 : ((xs.length : Int) != (ys.length : Int)) = true := by simp; omega
    have hne : (xs == ys) = false := by
      have : xs ≠ ys := fun e => hl (by rw [e])
      simpa using this
    have HN := Lib.hid hne
    clear hl hne
    go_enter Try.func14, Try.ntmps14
    go_wp2
    go_ret
    exact ⟨ret_bool HN.out.symm, Below.refl _ _⟩

/-- all: the tails are in the set. -/
def inB (bs : List Bool) (t : Int) : Bool := bs.getD t.toNat false
set_option maxHeartbeats 1000000 in
theorem all_any (w : World) (a a2 : Option Addr) (c c2 : Nat) (ts : List Int) (bs : List Bool) (hx : IRow w a ts) (hy : BRow w a2 bs) (hn : ts.length ≤ maxLen) (ht : ∀ t ∈ ts, 0 ≤ t ∧ t < bs.length) :
    Calls Try.prog 32 #[.slice a ts.length c, .slice a2 bs.length c2] w fun e w' => e = .returned (.bool (ts.all (inB bs))) ∧ w = w' := by
  unfold maxLen at hn
  have HX := Lib.hid hx
  have HY := Lib.hid hy
  have HTS := Lib.hid ht
  clear hx hy ht
  go_enter Try.func32, Try.ntmps32
  go_wp2
  go_loop [5] (fun i => ∃ k : Nat, k ≤ ts.length ∧ i = .int .i64 k ∧ (ts.take k).all (inB bs) = true) (fun i => ts.length - (intOf i).toNat)
  case atStart => exact ⟨0, Nat.zero_le _, rfl, rfl⟩
  case round =>
    obtain ⟨k, hk, rfl, htk⟩ := hrel
    have HT := Lib.hid htk
    clear htk
    by_cases hlt : k < ts.length
    · obtain ⟨b, o, rfl, hb, hc⟩ := HX.out.at hlt
      obtain ⟨t0, t1⟩ := HTS.out ts[k] (List.getElem_mem hlt)
      have HS := Lib.hid (all_step (inB bs) ts k hlt HT.out)
      have HE := Lib.hid (all_stop (inB bs) ts k hlt)
      generalize ts[k] = X at *
      obtain ⟨x, rfl⟩ := Int.eq_ofNat_of_zero_le t0
      have hxl : x < bs.length := by omega
      obtain ⟨b2, o2, rfl, hb2, hc2⟩ := HY.out.at hxl
      have hin : inB bs (x : Int) = bs[x] := by simp [inB, hxl]
      cases hv : bs[x]
      · rw [hv] at hc2 hin
        have HI := Lib.hid hin
        clear hin hv
        go_wp2
        go_ret
        exact ⟨ret_bool (HE.out HI.out).symm, rfl⟩
      · rw [hv] at hc2 hin
        have HI := Lib.hid hin
        clear hin hv
        go_wp2
        go_round
        case rel => exact ⟨k + 1, by omega, by go_num, HS.out HI.out⟩
        case measure => simp [intOf]; omega
    · have hkk : k = ts.length := by omega
      subst hkk
      go_wp2
      go_ret
      exact ⟨ret_bool (by have h := HT.out; rw [List.take_length] at h; exact h.symm), rfl⟩
end Go.Proofs.Ytjhdhnkikgmpoaa
