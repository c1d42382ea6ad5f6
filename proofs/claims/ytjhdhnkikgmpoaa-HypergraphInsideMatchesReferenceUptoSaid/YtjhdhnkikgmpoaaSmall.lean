/- Small and the reference's ready: contracts. Printed by gen27small.py. -/
import Derived.Test.YtjhdhnkikgmpoaaRder
namespace Go.Proofs.Ytjhdhnkikgmpoaa
open Go.RowKit Go.Deep

def smallB (n : Int) (es : List Ed) : Bool := (decide (n ≤ 30) && decide (es.length ≤ 60)) && (es.all (fun e => decide (e.tails.length ≤ 4)) && validB n es)
def readyE (bs : List Bool) (v : Int) (e : Ed) : Bool := !(e.head == v) || e.tails.all (inB bs)
def readyB (es : List Ed) (bs : List Bool) (v : Int) : Bool := es.all (readyE bs v)

set_option maxHeartbeats 4000000 in
theorem small_any (w : World) (a : Option Addr) (c : Nat) (n : Int) (es : List Ed) (hr : EdRow w a es) (hn : es.length ≤ maxLen) :
    Calls Try.prog 12 #[.agg #[.int .i64 n, .slice a es.length c]] w fun e w' => e = .returned (.bool (smallB n es)) ∧ Below w.heap.size w w' := by
  have hcall := fun w' h => refvalid_any w' a c n es h hn
  unfold maxLen at hn
  have HR := Lib.hid hr
  clear hr
  by_cases h0 : 30 < n
  · have hv : smallB n es = false := by simp [smallB]; omega
    have HV := Lib.hid hv
    clear hv
    go_enter Try.func12, Try.ntmps12
    go_wp2
    go_ret
    exact ⟨ret_bool HV.out.symm, (Below.refl _ _).alloc (Nat.le_refl _) _⟩
  · by_cases h1 : 60 < es.length
    · have hv : smallB n es = false := by simp [smallB]; omega
      have HV := Lib.hid hv
      clear hv
      go_enter Try.func12, Try.ntmps12
      go_wp2
      go_ret
      exact ⟨ret_bool HV.out.symm, (Below.refl _ _).alloc (Nat.le_refl _) _⟩
    · have hv : smallB n es = (es.all (fun e => decide (e.tails.length ≤ 4)) && validB n es) := by simp [smallB, show n ≤ 30 by omega, show es.length ≤ 60 by omega]
      have HV := Lib.hid hv
      clear hv
      have hbox := HBox.box w n a es.length c
      have hBW : Below w.heap.size w (w.alloc (.cells #[.int .i64 n, .slice a es.length c] 24)) := (Below.refl _ _).alloc (Nat.le_refl _) _
      obtain ⟨W0, hW0⟩ : ∃ W0, W0 = w.alloc (.cells #[.int .i64 n, .slice a es.length c] 24) := ⟨_, rfl⟩
      rw [← hW0] at hbox hBW
      obtain ⟨x0, x1⟩ := hbox
      have HBW := Lib.hid hBW
      clear hBW
      go_enter Try.func12, Try.ntmps12
      go_upto_region 1 with fail
      rw [← hW0]
      have HW0 := Lib.hid hW0
      clear hW0
      go_wp2_with fail
      go_loop [3] (fun i => ∃ k : Nat, k ≤ es.length ∧ i = .int .i64 k ∧ (es.take k).all (fun e => decide (e.tails.length ≤ 4)) = true) (fun i => es.length - (intOf i).toNat)
      case atStart => exact ⟨0, Nat.zero_le _, rfl, rfl⟩
      case round =>
        obtain ⟨k, hk, rfl, htk⟩ := hrel
        have HT := Lib.hid htk
        clear htk
        by_cases hlt : k < es.length
        · obtain ⟨b, o, hab, hb, hc⟩ := (HR.out.below (Nat.le_refl _) HBW.out).at hlt
          obtain ⟨c0, c1, c2, c3, c4, hrow, hlen⟩ := hc
          have HS := Lib.hid (all_step (fun e => decide (e.tails.length ≤ 4)) es k hlt HT.out)
          have HE := Lib.hid (all_stop (fun e => decide (e.tails.length ≤ 4)) es k hlt)
          generalize es[k] = E at *
          rw [hab] at x1
          by_cases h4 : 4 < E.tails.length
          · have HF := Lib.hid (HE.out (by simp; omega))
            go_wp2
            go_ret
            exact ⟨ret_bool (by rw [HV.out, HF.out]; rfl), HBW.out⟩
          · have HF := Lib.hid (HS.out (by simp; omega))
            go_wp2
            try rw [← hab]
            go_round
            case rel => exact ⟨k + 1, by omega, by go_num, HF.out⟩
            case measure => simp [intOf]; omega
        · have hkk : k = es.length := by omega
          subst hkk
          have HF := Lib.hid (show es.all (fun e => decide (e.tails.length ≤ 4)) = true by have h := HT.out; rw [List.take_length] at h; exact h)
          have hcall1 := hcall W0 (HR.out.below (Nat.le_refl _) HBW.out)
          go_wp2_with fail
          refine hcall1.mono ?_
          rintro e w1 ⟨rfl, hb⟩
          go_wp2
          go_ret
          exact ⟨ret_bool (by rw [HV.out, HF.out]; rfl), HBW.out.trans (hb.mono HBW.out.size)⟩

set_option maxHeartbeats 4000000 in
theorem ready_any (w : World) (a a2 : Option Addr) (c cc n : Nat) (es : List Ed) (v : Int) (bs : List Bool) (hr : EdRow w a es) (hn : es.length ≤ maxLen) (hok : Ok n es) (hl : bs.length = n) (hy : BRow w a2 bs) :
    Calls Try.prog 33 #[.agg #[.int .i64 n, .slice a es.length c], .int .i64 v, .slice a2 n cc] w fun e w' => e = .returned (.bool (readyB es bs v)) ∧ Below w.heap.size w w' := by
  unfold maxLen at hn
  have HR := Lib.hid hr
  have HY := Lib.hid hy
  have HL := Lib.hid hl
  have HOK := Lib.hid hok
  clear hr hy hl hok
  have hbox := HBox.box w n a es.length c
  have hBW : Below w.heap.size w (w.alloc (.cells #[.int .i64 n, .slice a es.length c] 24)) := (Below.refl _ _).alloc (Nat.le_refl _) _
  obtain ⟨W0, hW0⟩ : ∃ W0, W0 = w.alloc (.cells #[.int .i64 n, .slice a es.length c] 24) := ⟨_, rfl⟩
  rw [← hW0] at hbox hBW
  obtain ⟨x0, x1⟩ := hbox
  have HBW := Lib.hid hBW
  clear hBW
  go_enter Try.func33, Try.ntmps33
  go_upto_region 1 with fail
  rw [← hW0]
  have HW0 := Lib.hid hW0
  clear hW0
  go_wp2_with fail
  go_loop [7] (fun i => ∃ k : Nat, k ≤ es.length ∧ i = .int .i64 k ∧ readyB (es.take k) bs v = true) (fun i => es.length - (intOf i).toNat)
  case atStart => exact ⟨0, Nat.zero_le _, rfl, rfl⟩
  case round =>
    obtain ⟨k, hk, rfl, htk⟩ := hrel
    have HT := Lib.hid htk
    clear htk
    by_cases hlt : k < es.length
    · obtain ⟨b, o, hab, hb, hc⟩ := (HR.out.below (Nat.le_refl _) HBW.out).at hlt
      obtain ⟨c0, c1, c2, c3, c4, hrow, hlen⟩ := hc
      have HS := Lib.hid (all_step (readyE bs v) es k hlt HT.out)
      have HE := Lib.hid (all_stop (readyE bs v) es k hlt)
      have hmem := List.getElem_mem hlt
      generalize es[k] = E at *
      rw [hab] at x1
      have hall := all_any W0 E.ta a2 E.tc cc E.tails bs hrow (HY.out.below (Nat.le_refl _) HBW.out) hlen (by rw [HL.out]; exact (HOK.out.e E hmem).t)
      rw [HL.out] at hall
      by_cases hh : E.head = v
      · cases hta : E.tails.all (inB bs)
        · have HF := Lib.hid (HE.out (by unfold readyE; rw [hh, hta]; simp))
          have HH := Lib.hid hh
          have hh2 : (E.head == v) = true := by rw [HH.out]; simp
          clear hh
          go_wp2_with fail
          refine hall.mono ?_
          rintro e w1 ⟨rfl, rfl⟩
          rw [hta]
          go_wp2
          go_ret
          exact ⟨ret_bool HF.out.symm, HBW.out⟩
        · have HF := Lib.hid (HS.out (by unfold readyE; rw [hta]; simp))
          have HH := Lib.hid hh
          have hh2 : (E.head == v) = true := by rw [HH.out]; simp
          clear hh
          go_wp2_with fail
          refine hall.mono ?_
          rintro e w1 ⟨rfl, rfl⟩
          rw [hta]
          go_wp2
          try rw [← hab]
          go_round
          case rel => exact ⟨k + 1, by omega, by go_num, HF.out⟩
          case measure => simp [intOf]; omega
      · have HF := Lib.hid (HS.out (by unfold readyE; simp [hh]))
        have hh2 : (E.head == v) = false := by simp [hh]
        clear hh
        go_wp2
        try rw [← hab]
        go_round
        case rel => exact ⟨k + 1, by omega, by go_num, HF.out⟩
        case measure => simp [intOf]; omega
    · have hkk : k = es.length := by omega
      subst hkk
      have HF := Lib.hid (show readyB es bs v = true by have h := HT.out; rw [List.take_length] at h; exact h)
      go_wp2
      go_ret
      exact ⟨ret_bool HF.out.symm, HBW.out⟩
end Go.Proofs.Ytjhdhnkikgmpoaa
