/- Valid and the reference's Valid: contracts. Printed by gen27valid.py. -/
import Derived.Test.YtjhdhnkikgmpoaaRep
import Derived.Test.YtjhdhnkikgmpoaaMix
namespace Go.Proofs.Ytjhdhnkikgmpoaa
open Go.RowKit

def inR (n t : Int) : Bool := decide (0 ≤ t) && decide (t < n)
def edgeB (n : Int) (e : Ed) : Bool := inR n e.head && (decide (0 ≤ e.cost) && decide (e.cost ≤ 1099511627776)) && e.tails.all (inR n)
def validB (n : Int) (es : List Ed) : Bool := decide (1 ≤ n) && decide (n ≤ 1048576) && es.all (edgeB n)

theorem fam_pred {p : World → Prop} {w : World} (h : p w) : ∃ (S : Type) (_ : Nonempty S) (f : S → World), (∀ s, p (f s)) ∧ (∀ w', p w' → ∃ s, w' = f s) :=
  ⟨{w' : World // p w'}, ⟨⟨w, h⟩⟩, Subtype.val, fun s => s.2, fun w' h => ⟨⟨w', h⟩, rfl⟩⟩

set_option maxHeartbeats 1000000 in
theorem valid1_any (w : World) (b : Nat) (n v : Int) (hc : w.cell? ⟨b, 0, none⟩ = some (.int .i64 n)) :
    Calls Try.prog 31 #[.int .i64 v, .pointer (some ⟨b, 0, none⟩)] w fun e w' => e = .returned (.bool (inR n v)) ∧ w = w' := by
  by_cases h0 : v < 0
  · have hr : inR n v = false := by simp [inR]; omega
    have HR := Lib.hid hr
    clear hr
    go_enter Try.func31, Try.ntmps31
    go_wp2
    go_ret
    exact ⟨ret_bool HR.out.symm, rfl⟩
  · by_cases h1 : v < n
    · have hr : inR n v = true := by simp [inR]; omega
      have HR := Lib.hid hr
      clear hr
      go_enter Try.func31, Try.ntmps31
      go_wp2
      go_ret
      exact ⟨ret_bool HR.out.symm, rfl⟩
    · have hr : inR n v = false := by simp [inR]; omega
      have HR := Lib.hid hr
      clear hr
      go_enter Try.func31, Try.ntmps31
      go_wp2
      go_ret
      exact ⟨ret_bool HR.out.symm, rfl⟩

/-- The cells of the box of a hypergraph. -/
structure HBox (w : World) (B : Nat) (n : Int) (a : Option Addr) (l c : Nat) : Prop where
  nodes : w.cell? ⟨B, 0, none⟩ = some (.int .i64 n)
  edges : w.cell? ⟨B, 1, none⟩ = some (.slice a l c)
theorem HBox.box (w : World) (n : Int) (a : Option Addr) (l c : Nat) : HBox (w.alloc (.cells #[.int .i64 n, .slice a l c] 24)) w.heap.size n a l c := ⟨by simp [go_sem], by simp [go_sem]⟩
theorem HBox.below {w w' : World} {B B' : Nat} {n : Int} {a : Option Addr} {l c : Nat} (h : HBox w B' n a l c) (hB : B' < B) (hb : Below B w w') : HBox w' B' n a l c :=
  ⟨(hb.cell (p := ⟨B', 0, none⟩) hB).trans h.nodes, (hb.cell (p := ⟨B', 1, none⟩) hB).trans h.edges⟩

theorem EdAt.fam {S : Type} {f : S → World} {b o : Nat} {e : Ed} (h : ∀ s, EdAt (f s) b o e) :
    (∀ s, (f s).cell? ⟨b, o, none⟩ = some (.int .i64 e.head)) ∧ (∀ s, (f s).cell? ⟨b, o + 1, none⟩ = some (.slice e.ta e.tails.length e.tc)) ∧ (∀ s, (f s).cell? ⟨b, o + 2, none⟩ = some (.int .i64 e.cost)) ∧
    (∀ s, (f s).cell? ⟨b, o + 3, none⟩ = some (.int .i64 e.l0)) ∧ (∀ s, (f s).cell? ⟨b, o + 4, none⟩ = some (.int .i64 e.l1)) :=
  ⟨fun s => (h s).head, fun s => (h s).tails, fun s => (h s).cost, fun s => (h s).l0, fun s => (h s).l1⟩
theorem HBox.fam {S : Type} {f : S → World} {B : Nat} {n : Int} {a : Option Addr} {l c : Nat} (h : ∀ s, HBox (f s) B n a l c) :
    (∀ s, (f s).cell? ⟨B, 0, none⟩ = some (.int .i64 n)) ∧ (∀ s, (f s).cell? ⟨B, 1, none⟩ = some (.slice a l c)) := ⟨fun s => (h s).nodes, fun s => (h s).edges⟩

theorem EdBox (w : World) (e : Ed) (h : IRow w e.ta e.tails) (hl : e.tails.length ≤ maxLen) :
    EdAt (w.alloc (.cells #[.int .i64 e.head, .slice e.ta e.tails.length e.tc, .int .i64 e.cost, .int .i64 e.l0, .int .i64 e.l1] 38)) w.heap.size 0 e :=
  ⟨by simp [go_sem], by simp [go_sem], by simp [go_sem], by simp [go_sem], by simp [go_sem], h.below (Nat.le_refl _) ((Below.refl _ _).alloc (Nat.le_refl _) _), hl⟩
set_option maxHeartbeats 4000000 in
theorem valid_any (w : World) (a : Option Addr) (c : Nat) (n : Int) (es : List Ed) (hr : EdRow w a es) (hn : es.length ≤ maxLen) :
    Calls Try.prog 17 #[.agg #[.int .i64 n, .slice a es.length c]] w fun e w' => e = .returned (.bool (validB n es)) ∧ Below w.heap.size w w' := by
  unfold maxLen at hn
  have HR := Lib.hid hr
  clear hr
  by_cases h0 : n < 1
  · have hv : validB n es = false := by simp [validB]; omega
    have HV := Lib.hid hv
    clear hv
    go_enter Try.func17, Try.ntmps17
    go_wp2
    go_ret
    exact ⟨ret_bool HV.out.symm, (Below.refl _ _).alloc (Nat.le_refl _) _⟩
  · by_cases h1 : 1048576 < n
    · have hv : validB n es = false := by simp [validB]; omega
      have HV := Lib.hid hv
      clear hv
      go_enter Try.func17, Try.ntmps17
      go_wp2
      go_ret
      exact ⟨ret_bool HV.out.symm, (Below.refl _ _).alloc (Nat.le_refl _) _⟩
    · have hv : validB n es = es.all (edgeB n) := by simp [validB, show 1 ≤ n by omega, show n ≤ 1048576 by omega]
      have HV := Lib.hid hv
      clear hv
      have hbox := HBox.box w n a es.length c
      have hBW : Below w.heap.size w (w.alloc (.cells #[.int .i64 n, .slice a es.length c] 24)) := (Below.refl _ _).alloc (Nat.le_refl _) _
      obtain ⟨W0, hW0⟩ : ∃ W0, W0 = w.alloc (.cells #[.int .i64 n, .slice a es.length c] 24) := ⟨_, rfl⟩
      have hsz : W0.heap.size = w.heap.size + 1 := by rw [hW0]; simp
      rw [← hW0] at hbox hBW
      have HSZ := Lib.hid hsz
      have HB := Lib.hid hbox
      have HBW := Lib.hid hBW
      clear hsz hbox hBW
      go_enter Try.func17, Try.ntmps17
      go_wp2_with fail
      rw [← hW0]
      have HW0 := Lib.hid hW0
      clear hW0
      go_goals
      go_loopw [20] (fun i wr => ∃ k : Nat, k ≤ es.length ∧ i = .int .i64 k ∧ (es.take k).all (edgeB n) = true ∧ Below W0.heap.size W0 wr) (fun i _ => es.length - (intOf i).toNat)
      case atStart => exact ⟨0, Nat.zero_le _, rfl, rfl, Below.refl _ _⟩
      case round =>
        obtain ⟨k, hk, rfl, htk, hB⟩ := hrel
        have HT := Lib.hid htk
        clear htk
        by_cases hlt : k < es.length
        · obtain ⟨b, o, rfl, hb, hc⟩ := (HR.out.below (Nat.le_refl _) HBW.out).at hlt
          obtain ⟨S, hne, f, hf, hs⟩ := fam_of W0.heap.size W0
          obtain ⟨s, rfl⟩ := hs wr hB
          clear hB
          obtain ⟨c0, c1, c2, c3, c4⟩ := EdAt.fam (fun s => hc.below hb (Nat.le_refl _) (hf s))
          obtain ⟨x0, x1⟩ := HBox.fam (fun s => HB.out.below (by have := HSZ.out; omega) (hf s))
          have HC := Lib.hid hc
          clear hc
          have HS := Lib.hid (all_step (edgeB n) es k hlt HT.out)
          have HE := Lib.hid (all_stop (edgeB n) es k hlt)
          generalize es[k] = E at *
          have hcell : ∀ o, ((f s).alloc o).cell? ⟨w.heap.size, 0, none⟩ = some (.int .i64 n) := fun o =>
            (((Below.refl W0.heap.size (f s)).alloc (hf s).size o).cell (p := ⟨w.heap.size, 0, none⟩) (by have := HSZ.out; show w.heap.size < W0.heap.size; omega)).trans (x0 s)
          cases hh : inR n E.head
          · have he : edgeB n E = false := by simp [edgeB, hh]
            have HF := Lib.hid (HE.out he)
            clear he
            go_wp2_with fail
            refine (valid1_any _ _ n E.head (hcell _)).mono ?_
            rintro e w1 ⟨rfl, rfl⟩
            rw [hh]
            go_wp2
            go_ret
            exact ⟨ret_bool (HV.out.trans HF.out).symm, HBW.out.trans (((hf _).alloc (hf _).size _).mono HBW.out.size)⟩
          · by_cases hc0 : E.cost < 0
            · have he : edgeB n E = false := by simp [edgeB]; omega
              have HF := Lib.hid (HE.out he)
              clear he
              go_wp2_with fail
              refine (valid1_any _ _ n E.head (hcell _)).mono ?_
              rintro e w1 ⟨rfl, rfl⟩
              rw [hh]
              go_wp2
              go_ret
              exact ⟨ret_bool (HV.out.trans HF.out).symm, HBW.out.trans (((hf _).alloc (hf _).size _).mono HBW.out.size)⟩
            · by_cases hc1 : 1099511627776 < E.cost
              · have he : edgeB n E = false := by simp [edgeB]; omega
                have HF := Lib.hid (HE.out he)
                clear he
                go_wp2_with fail
                refine (valid1_any _ _ n E.head (hcell _)).mono ?_
                rintro e w1 ⟨rfl, rfl⟩
                rw [hh]
                go_wp2
                go_ret
                exact ⟨ret_bool (HV.out.trans HF.out).symm, HBW.out.trans (((hf _).alloc (hf _).size _).mono HBW.out.size)⟩
              · have he : edgeB n E = E.tails.all (inR n) := by simp [edgeB, hh, show 0 ≤ E.cost by omega, show E.cost ≤ 1099511627776 by omega]
                have HEE := Lib.hid he
                clear he
                go_wp2_with fail
                refine (valid1_any _ _ n E.head (hcell _)).mono ?_
                rintro e w1 ⟨rfl, rfl⟩
                rw [hh]
                go_wp2_with fail
                have hed := EdBox (f s) E (HC.out.row.below (Nat.le_refl _) (hf s)) HC.out.len
                have hxx := HBox.below (B := W0.heap.size) ⟨x0 s, x1 s⟩ (by have := HSZ.out; omega) (((Below.refl W0.heap.size (f s)).alloc (hf s).size (.cells #[.int .i64 E.head, .slice E.ta E.tails.length E.tc, .int .i64 E.cost, .int .i64 E.l0, .int .i64 E.l1] 38)))
                have hbb := (hf s).alloc (hf s).size (.cells #[.int .i64 E.head, .slice E.ta E.tails.length E.tc, .int .i64 E.cost, .int .i64 E.l0, .int .i64 E.l1] 38)
                generalize (f s).alloc (.cells #[.int .i64 E.head, .slice E.ta E.tails.length E.tc, .int .i64 E.cost, .int .i64 E.l0, .int .i64 E.l1] 38) = w1 at *
                generalize (f s).heap.size = B1 at *
                have HBB := Lib.hid hbb
                have HED := Lib.hid hed
                have hlen := hed.len
                obtain ⟨y0, y1⟩ := hxx
                obtain ⟨d0, d1, d2, d3, d4, _, _⟩ := hed
                unfold maxLen at hlen
                clear hbb
                go_loop [42] (fun i => ∃ j : Nat, j ≤ E.tails.length ∧ i = .int .i64 j ∧ (E.tails.take j).all (inR n) = true) (fun i => E.tails.length - (intOf i).toNat)
                case atStart => exact ⟨0, Nat.zero_le _, rfl, rfl⟩
                case round =>
                  obtain ⟨j, hj, rfl, htj⟩ := hrel
                  have HTJ := Lib.hid htj
                  clear htj
                  by_cases hjl : j < E.tails.length
                  · obtain ⟨b2, o2, hta, hb2, hcx⟩ := HED.out.row.at hjl
                    have HTS := Lib.hid (all_step (inR n) E.tails j hjl HTJ.out)
                    have HTE := Lib.hid (all_stop (inR n) E.tails j hjl)
                    generalize E.tails[j] = X at *
                    cases hx : inR n X
                    · have HF := Lib.hid (HE.out (HEE.out.trans (HTE.out hx)))
                      go_wp2_with fail
                      refine (valid1_any _ _ n X y0).mono ?_
                      rintro e w2 ⟨rfl, rfl⟩
                      rw [hx]
                      go_wp2
                      go_ret
                      exact ⟨ret_bool (HV.out.trans HF.out).symm, HBW.out.trans (HBB.out.mono HBW.out.size)⟩
                    · go_wp2_with fail
                      refine (valid1_any _ _ n X y0).mono ?_
                      rintro e w2 ⟨rfl, rfl⟩
                      rw [hx]
                      go_wp2
                      rw [← hta]
                      go_round
                      case rel => exact ⟨j + 1, by omega, by go_num, HTS.out hx⟩
                      case measure => simp [intOf]; omega
                  · have hjj : j = E.tails.length := by omega
                    subst hjj
                    have HF := Lib.hid (HS.out (HEE.out.trans (by have h := HTJ.out; rw [List.take_length] at h; exact h)))
                    go_wp2
                    go_roundw
                    case rel => exact ⟨k + 1, by omega, by go_num, HF.out, HBB.out⟩
                    case measure => simp [intOf]; omega
        · have hkk : k = es.length := by omega
          subst hkk
          go_wp2
          go_ret
          exact ⟨ret_bool (HV.out.trans (by have h := HT.out; rw [List.take_length] at h; exact h)).symm, HBW.out.trans (hB.mono HBW.out.size)⟩
set_option maxHeartbeats 4000000 in
theorem refvalid_any (w : World) (a : Option Addr) (c : Nat) (n : Int) (es : List Ed) (hr : EdRow w a es) (hn : es.length ≤ maxLen) :
    Calls Try.prog 18 #[.agg #[.int .i64 n, .slice a es.length c]] w fun e w' => e = .returned (.bool (validB n es)) ∧ Below w.heap.size w w' := by
  unfold maxLen at hn
  have HR := Lib.hid hr
  clear hr
  by_cases h0 : n < 1
  · have hv : validB n es = false := by simp [validB]; omega
    have HV := Lib.hid hv
    clear hv
    go_enter Try.func18, Try.ntmps18
    go_wp2
    go_ret
    exact ⟨ret_bool HV.out.symm, (Below.refl _ _).alloc (Nat.le_refl _) _⟩
  · by_cases h1 : 1048576 < n
    · have hv : validB n es = false := by simp [validB]; omega
      have HV := Lib.hid hv
      clear hv
      go_enter Try.func18, Try.ntmps18
      go_wp2
      go_ret
      exact ⟨ret_bool HV.out.symm, (Below.refl _ _).alloc (Nat.le_refl _) _⟩
    · have hv : validB n es = es.all (edgeB n) := by simp [validB, show 1 ≤ n by omega, show n ≤ 1048576 by omega]
      have HV := Lib.hid hv
      clear hv
      have hbox := HBox.box w n a es.length c
      have hBW : Below w.heap.size w (w.alloc (.cells #[.int .i64 n, .slice a es.length c] 24)) := (Below.refl _ _).alloc (Nat.le_refl _) _
      obtain ⟨W0, hW0⟩ : ∃ W0, W0 = w.alloc (.cells #[.int .i64 n, .slice a es.length c] 24) := ⟨_, rfl⟩
      have hsz : W0.heap.size = w.heap.size + 1 := by rw [hW0]; simp
      rw [← hW0] at hbox hBW
      have HSZ := Lib.hid hsz
      have HB := Lib.hid hbox
      have HBW := Lib.hid hBW
      clear hsz hbox hBW
      go_enter Try.func18, Try.ntmps18
      go_wp2_with fail
      rw [← hW0]
      have HW0 := Lib.hid hW0
      clear hW0
      go_loopw [3] (fun i wr => ∃ k : Nat, k ≤ es.length ∧ i = .int .i64 k ∧ (es.take k).all (edgeB n) = true ∧ Below W0.heap.size W0 wr) (fun i _ => es.length - (intOf i).toNat)
      case atStart => exact ⟨0, Nat.zero_le _, rfl, rfl, Below.refl _ _⟩
      case round =>
        obtain ⟨k, hk, rfl, htk, hB⟩ := hrel
        have HT := Lib.hid htk
        clear htk
        by_cases hlt : k < es.length
        · obtain ⟨b, o, rfl, hb, hc⟩ := (HR.out.below (Nat.le_refl _) HBW.out).at hlt
          obtain ⟨S, hne, f, hf, hs⟩ := fam_of W0.heap.size W0
          obtain ⟨s, rfl⟩ := hs wr hB
          clear hB
          obtain ⟨c0, c1, c2, c3, c4⟩ := EdAt.fam (fun s => hc.below hb (Nat.le_refl _) (hf s))
          obtain ⟨x0, x1⟩ := HBox.fam (fun s => HB.out.below (by have := HSZ.out; omega) (hf s))
          have HC := Lib.hid hc
          clear hc
          have HS := Lib.hid (all_step (edgeB n) es k hlt HT.out)
          have HE := Lib.hid (all_stop (edgeB n) es k hlt)
          generalize es[k] = E at *
          have hcell : ∀ o, ((f s).alloc o).cell? ⟨w.heap.size, 0, none⟩ = some (.int .i64 n) := fun o =>
            (((Below.refl W0.heap.size (f s)).alloc (hf s).size o).cell (p := ⟨w.heap.size, 0, none⟩) (by have := HSZ.out; show w.heap.size < W0.heap.size; omega)).trans (x0 s)
          by_cases hh0 : E.head < 0
          · have he : edgeB n E = false := by simp [edgeB, inR]; omega
            have HF := Lib.hid (HE.out he)
            clear he
            go_wp2
            go_ret
            exact ⟨ret_bool (HV.out.trans HF.out).symm, HBW.out.trans (((hf _).alloc (hf _).size _).mono HBW.out.size)⟩
          by_cases hh1 : n ≤ E.head
          · have he : edgeB n E = false := by simp [edgeB, inR]; omega
            have HF := Lib.hid (HE.out he)
            clear he
            go_wp2
            go_ret
            exact ⟨ret_bool (HV.out.trans HF.out).symm, HBW.out.trans (((hf _).alloc (hf _).size _).mono HBW.out.size)⟩
          by_cases hc0 : E.cost < 0
          · have he : edgeB n E = false := by simp [edgeB]; omega
            have HF := Lib.hid (HE.out he)
            clear he
            go_wp2
            go_ret
            exact ⟨ret_bool (HV.out.trans HF.out).symm, HBW.out.trans (((hf _).alloc (hf _).size _).mono HBW.out.size)⟩
          by_cases hc1 : 1099511627776 < E.cost
          · have he : edgeB n E = false := by simp [edgeB]; omega
            have HF := Lib.hid (HE.out he)
            clear he
            go_wp2
            go_ret
            exact ⟨ret_bool (HV.out.trans HF.out).symm, HBW.out.trans (((hf _).alloc (hf _).size _).mono HBW.out.size)⟩
          have he : edgeB n E = E.tails.all (inR n) := by simp [edgeB, inR, show 0 ≤ E.head by omega, show E.head < n by omega, show 0 ≤ E.cost by omega, show E.cost ≤ 1099511627776 by omega]
          have HEE := Lib.hid he
          clear he
          go_wp2_with fail
          have hed := EdBox (f s) E (HC.out.row.below (Nat.le_refl _) (hf s)) HC.out.len
          have hxx := HBox.below (B := W0.heap.size) ⟨x0 s, x1 s⟩ (by have := HSZ.out; omega) (((Below.refl W0.heap.size (f s)).alloc (hf s).size (.cells #[.int .i64 E.head, .slice E.ta E.tails.length E.tc, .int .i64 E.cost, .int .i64 E.l0, .int .i64 E.l1] 38)))
          have hbb := (hf s).alloc (hf s).size (.cells #[.int .i64 E.head, .slice E.ta E.tails.length E.tc, .int .i64 E.cost, .int .i64 E.l0, .int .i64 E.l1] 38)
          have hss : (f s).heap.size < ((f s).alloc (.cells #[.int .i64 E.head, .slice E.ta E.tails.length E.tc, .int .i64 E.cost, .int .i64 E.l0, .int .i64 E.l1] 38)).heap.size := by simp
          have hW1 : W0.heap.size ≤ (f s).heap.size := (hf s).size
          generalize (f s).alloc (.cells #[.int .i64 E.head, .slice E.ta E.tails.length E.tc, .int .i64 E.cost, .int .i64 E.l0, .int .i64 E.l1] 38) = w1 at *
          generalize (f s).heap.size = B1 at *
          have HBB := Lib.hid hbb
          have HED := Lib.hid hed
          have hlen := hed.len
          obtain ⟨S2, hne2, g, hg, hs2⟩ := fam_of w1.heap.size w1
          obtain ⟨y0, y1⟩ := HBox.fam (fun s => hxx.below (by have := HSZ.out; omega) (hg s))
          obtain ⟨d0, d1, d2, d3, d4⟩ := EdAt.fam (fun s => hed.below hss (Nat.le_refl _) (hg s))
          unfold maxLen at hlen
          clear hbb hed hxx
          obtain ⟨s1, rfl⟩ := hs2 w1 (Below.refl _ _)
          go_loopw [5] (fun i wr => ∃ j : Nat, j ≤ E.tails.length ∧ i = .int .i64 j ∧ (E.tails.take j).all (inR n) = true ∧ Below (g s1).heap.size (g s1) wr) (fun i _ => E.tails.length - (intOf i).toNat)
          case atStart => exact ⟨0, Nat.zero_le _, rfl, rfl, Below.refl _ _⟩
          case round =>
            obtain ⟨j, hj, rfl, htj, hB2⟩ := hrel
            have HTJ := Lib.hid htj
            clear htj
            obtain ⟨s2, rfl⟩ := hs2 wr hB2
            by_cases hjl : j < E.tails.length
            · obtain ⟨b2, o2, hta, hb2, hcx⟩ := HED.out.row.at hjl
              have hx : ∀ s, (g s).cell? ⟨b2, o2 + j, none⟩ = some (.int .i64 E.tails[j]) := fun s => ((hg s).cell (p := ⟨b2, o2 + j, none⟩) hb2).trans hcx
              have HTS := Lib.hid (all_step (inR n) E.tails j hjl HTJ.out)
              have HTE := Lib.hid (all_stop (inR n) E.tails j hjl)
              clear hcx hb2 hB2
              generalize E.tails[j] = X at *
              rw [hta] at d1
              by_cases ht0 : X < 0
              · have HF := Lib.hid (HE.out (HEE.out.trans (HTE.out (by simp [inR]; omega))))
                go_wp2_with fail
                obtain ⟨s3, h1⟩ := hs2 (g s2).drew ((hg s2).drew)
                refine wp_region_fast (S := fun w' => ∃ s, w' = g s) [(0, 16, 9007199254740992), (1, 9007199254740992, 18014398509481984), (0, 32, 36028797018963968), (6, 54043195528445952, 72057594037927936), (8, 72057594037927936, 144115188075855872), (16, 144115188075855872, 288230376151711744), (32, 288230376151711744, 576460752303423488), (64, 576460752303423504, 1152921504606846976), (192, 1729382256910270464, 2305843009213693952), (64, 576460752303423520, 4611686018427387904), (832, 7493989779944505344, 9223372036854775808), (1088, 9799832789158199296, 18446744073709551616), (64, 576460752303423490, 36893488147419103232), (4160, 37469948899722526720, 73786976294838206464), (10304, 92810181120851181568, 147573952589676412928), (16448, 148150413341979836416, 295147905179352825856)] [(0, 0, (0, 16, 9007199254740992)), (1, 0, (1, 9007199254740992, 18014398509481984)), (2, 0, (0, 32, 36028797018963968)), (3, 0, (6, 54043195528445952, 72057594037927936)), (4, 0, (8, 72057594037927936, 144115188075855872)), (5, 0, (16, 144115188075855872, 288230376151711744)), (6, 0, (32, 288230376151711744, 576460752303423488)), (7, 0, (64, 576460752303423504, 1152921504606846976)), (8, 0, (192, 1729382256910270464, 2305843009213693952)), (9, 0, (64, 576460752303423520, 4611686018427387904)), (10, 0, (832, 7493989779944505344, 9223372036854775808)), (11, 0, (1088, 9799832789158199296, 18446744073709551616)), (12, 0, (64, 576460752303423490, 36893488147419103232)), (13, 0, (4160, 37469948899722526720, 73786976294838206464)), (14, 0, (10304, 92810181120851181568, 147573952589676412928)), (15, 0, (16448, 148150413341979836416, 295147905179352825856))] 0 (by as_aux_lemma => kernel_rfl) (by as_aux_lemma => kernel_rfl) (by as_aux_lemma => kernel_rfl) (fun _ d _ _ _ h => by cases d <;> exact h) ⟨s3, h1⟩ ?_
                rw [h1]
                clear h1
                simp only [List.map_cons, List.map_nil, List.getElem?_cons_succ, List.getElem?_cons_zero]
                repeat ((with_reducible refine mix_free (fun K hK => ?_)); go_simp; refine hK _ ?_; clear hK K)
                refine mix_nil ?_
                go_wp2
                go_ret
                exact ⟨ret_bool (HV.out.trans HF.out).symm, HBW.out.trans ((HBB.out.trans ((hg _).mono (Nat.le_trans hW1 (Nat.le_of_lt hss)))).mono HBW.out.size)⟩
              by_cases ht1 : n ≤ X
              · have HF := Lib.hid (HE.out (HEE.out.trans (HTE.out (by simp [inR]; omega))))
                go_wp2_with fail
                obtain ⟨s3, h1⟩ := hs2 (g s2).drew ((hg s2).drew)
                refine wp_region_fast (S := fun w' => ∃ s, w' = g s) [(0, 16, 9007199254740992), (1, 9007199254740992, 18014398509481984), (0, 32, 36028797018963968), (6, 54043195528445952, 72057594037927936), (8, 72057594037927936, 144115188075855872), (16, 144115188075855872, 288230376151711744), (32, 288230376151711744, 576460752303423488), (64, 576460752303423504, 1152921504606846976), (192, 1729382256910270464, 2305843009213693952), (64, 576460752303423520, 4611686018427387904), (832, 7493989779944505344, 9223372036854775808), (1088, 9799832789158199296, 18446744073709551616), (64, 576460752303423490, 36893488147419103232), (4160, 37469948899722526720, 73786976294838206464), (10304, 92810181120851181568, 147573952589676412928), (16448, 148150413341979836416, 295147905179352825856)] [(0, 0, (0, 16, 9007199254740992)), (1, 0, (1, 9007199254740992, 18014398509481984)), (2, 0, (0, 32, 36028797018963968)), (3, 0, (6, 54043195528445952, 72057594037927936)), (4, 0, (8, 72057594037927936, 144115188075855872)), (5, 0, (16, 144115188075855872, 288230376151711744)), (6, 0, (32, 288230376151711744, 576460752303423488)), (7, 0, (64, 576460752303423504, 1152921504606846976)), (8, 0, (192, 1729382256910270464, 2305843009213693952)), (9, 0, (64, 576460752303423520, 4611686018427387904)), (10, 0, (832, 7493989779944505344, 9223372036854775808)), (11, 0, (1088, 9799832789158199296, 18446744073709551616)), (12, 0, (64, 576460752303423490, 36893488147419103232)), (13, 0, (4160, 37469948899722526720, 73786976294838206464)), (14, 0, (10304, 92810181120851181568, 147573952589676412928)), (15, 0, (16448, 148150413341979836416, 295147905179352825856))] 0 (by as_aux_lemma => kernel_rfl) (by as_aux_lemma => kernel_rfl) (by as_aux_lemma => kernel_rfl) (fun _ d _ _ _ h => by cases d <;> exact h) ⟨s3, h1⟩ ?_
                rw [h1]
                clear h1
                simp only [List.map_cons, List.map_nil, List.getElem?_cons_succ, List.getElem?_cons_zero]
                repeat ((with_reducible refine mix_free (fun K hK => ?_)); go_simp; refine hK _ ?_; clear hK K)
                refine mix_nil ?_
                go_wp2
                go_ret
                exact ⟨ret_bool (HV.out.trans HF.out).symm, HBW.out.trans ((HBB.out.trans ((hg _).mono (Nat.le_trans hW1 (Nat.le_of_lt hss)))).mono HBW.out.size)⟩
              have hin : inR n X = true := by simp [inR]; omega
              have HIN := Lib.hid hin
              clear hin
              go_wp2_with fail
              obtain ⟨s3, h1⟩ := hs2 (g s2).drew ((hg s2).drew)
              refine wp_region_fast (S := fun w' => ∃ s, w' = g s) [(0, 16, 9007199254740992), (1, 9007199254740992, 18014398509481984), (0, 32, 36028797018963968), (6, 54043195528445952, 72057594037927936), (8, 72057594037927936, 144115188075855872), (16, 144115188075855872, 288230376151711744), (32, 288230376151711744, 576460752303423488), (64, 576460752303423504, 1152921504606846976), (192, 1729382256910270464, 2305843009213693952), (64, 576460752303423520, 4611686018427387904), (832, 7493989779944505344, 9223372036854775808), (1088, 9799832789158199296, 18446744073709551616), (64, 576460752303423490, 36893488147419103232), (4160, 37469948899722526720, 73786976294838206464), (10304, 92810181120851181568, 147573952589676412928), (16448, 148150413341979836416, 295147905179352825856)] [(0, 0, (0, 16, 9007199254740992)), (1, 0, (1, 9007199254740992, 18014398509481984)), (2, 0, (0, 32, 36028797018963968)), (3, 0, (6, 54043195528445952, 72057594037927936)), (4, 0, (8, 72057594037927936, 144115188075855872)), (5, 0, (16, 144115188075855872, 288230376151711744)), (6, 0, (32, 288230376151711744, 576460752303423488)), (7, 0, (64, 576460752303423504, 1152921504606846976)), (8, 0, (192, 1729382256910270464, 2305843009213693952)), (9, 0, (64, 576460752303423520, 4611686018427387904)), (10, 0, (832, 7493989779944505344, 9223372036854775808)), (11, 0, (1088, 9799832789158199296, 18446744073709551616)), (12, 0, (64, 576460752303423490, 36893488147419103232)), (13, 0, (4160, 37469948899722526720, 73786976294838206464)), (14, 0, (10304, 92810181120851181568, 147573952589676412928)), (15, 0, (16448, 148150413341979836416, 295147905179352825856))] 0 (by as_aux_lemma => kernel_rfl) (by as_aux_lemma => kernel_rfl) (by as_aux_lemma => kernel_rfl) (fun _ d _ _ _ h => by cases d <;> exact h) ⟨s3, h1⟩ ?_
              rw [h1]
              clear h1
              simp only [List.map_cons, List.map_nil, List.getElem?_cons_succ, List.getElem?_cons_zero]
              repeat ((with_reducible refine mix_free (fun K hK => ?_)); go_simp; refine hK _ ?_; clear hK K)
              refine mix_nil ?_
              go_wp2
              rw [← hta]
              go_roundw
              case rel => exact ⟨j + 1, by omega, by go_num, HTS.out HIN.out, hg _⟩
              case measure => simp [intOf]; omega
            · have hjj : j = E.tails.length := by omega
              subst hjj
              have HF := Lib.hid (HS.out (HEE.out.trans (by have h := HTJ.out; rw [List.take_length] at h; exact h)))
              go_wp2
              go_roundw
              case rel => exact ⟨k + 1, by omega, by go_num, HF.out, HBB.out.trans (hB2.mono (Nat.le_trans hW1 (Nat.le_of_lt hss)))⟩
              case measure => simp [intOf]; omega
        · have hkk : k = es.length := by omega
          subst hkk
          obtain ⟨x0, x1⟩ := HBox.below HB.out (by have := HSZ.out; omega) hB
          go_wp2
          go_ret
          exact ⟨ret_bool (HV.out.trans (by have h := HT.out; rw [List.take_length] at h; exact h)).symm, HBW.out.trans (hB.mono HBW.out.size)⟩
end Go.Proofs.Ytjhdhnkikgmpoaa
