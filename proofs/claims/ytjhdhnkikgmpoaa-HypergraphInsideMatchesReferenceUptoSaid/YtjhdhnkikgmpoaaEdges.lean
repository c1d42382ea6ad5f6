/- edges: contract. Printed by gen27edges.py. -/
import Derived.Test.YtjhdhnkikgmpoaaGrid
namespace Go.Proofs.Ytjhdhnkikgmpoaa
open Go.RowKit Go.Deep

/-- which of the first k edges have head v -/
def idx (es : List Ed) (k : Nat) (v : Int) : List Int := ((es.take k).zipIdx.filter (fun p => p.1.head == v)).map (fun p => (p.2 : Int))
def edgesL (n : Nat) (es : List Ed) (k : Nat) : List (List Int) := (List.range n).map fun (v : Nat) => idx es k (v : Int)
theorem edgesL_len (n : Nat) (es : List Ed) (k : Nat) : (edgesL n es k).length = n := by simp [edgesL]
theorem edgesL_get (n : Nat) (es : List Ed) (k v : Nat) (h : v < (edgesL n es k).length) : (edgesL n es k)[v] = idx es k (v : Int) := by simp [edgesL]
theorem idx_step (es : List Ed) (k : Nat) (h : k < es.length) (v : Int) : idx es (k + 1) v = idx es k v ++ (if es[k].head = v then [(k : Int)] else []) := by
  unfold idx
  rw [take_step es k h, List.zipIdx_append, List.filter_append, List.map_append]
  congr 1
  have hk : (es.take k).length = k := by simp; omega
  rw [hk]
  by_cases hv : es[k].head = v
  · simp [hv]
  · simp [hv]
theorem edgesL_step (n : Nat) (es : List Ed) (k hd : Nat) (h : k < es.length) (hh : es[k].head = (hd : Int)) (hn : hd < n) :
    (edgesL n es k).set hd ((edgesL n es k)[hd]'(by rw [edgesL_len]; exact hn) ++ [(k : Int)]) = edgesL n es (k + 1) := by
  apply List.ext_getElem
  · simp [edgesL_len]
  · intro v h1 h2
    simp only [List.getElem_set, edgesL_get, idx_step es k h, hh]
    by_cases hv : hd = v
    · subst hv; simp
    · rw [if_neg hv, if_neg (by omega), List.append_nil]
theorem edgesL_zero (n : Nat) (es : List Ed) : edgesL n es 0 = List.replicate n [] := by
  apply List.ext_getElem
  · simp [edgesL_len]
  · intro v h1 h2
    simp [edgesL_get, idx]
theorem idx_len (es : List Ed) (k : Nat) (v : Int) : (idx es k v).length ≤ k := by
  unfold idx
  rw [List.length_map]
  refine Nat.le_trans (List.length_filter_le _ _) ?_
  simp; omega

/-- a list in memory, not below block B -/
def VRowB (w : World) (B : Nat) (A : Option Addr) (vs : List Value) : Prop :=
  vs = [] ∨ ∃ b o, A = some ⟨b, o, none⟩ ∧ B ≤ b ∧ b < w.heap.size ∧ ∀ i (h : i < vs.length), w.cell? ⟨b, o + i, none⟩ = some vs[i]
theorem VRowB.row {w : World} {B : Nat} {A : Option Addr} {vs : List Value} (h : VRowB w B A vs) : VRow w A vs := by
  rcases h with h | ⟨b, o, h1, _, h2, h3⟩
  · exact Or.inl h
  · exact Or.inr ⟨b, o, h1, h2, h3⟩
theorem VRowB.keep {w w' : World} {B : Nat} {A : Option Addr} {vs : List Value} (h : VRowB w B A vs) (hk : ∀ k, B ≤ k → k < w.heap.size → w'.heap[k]? = w.heap[k]?) (hs : w.heap.size ≤ w'.heap.size) : VRowB w' B A vs := by
  rcases h with h | ⟨b, o, h1, h0, h2, h3⟩
  · exact Or.inl h
  · exact Or.inr ⟨b, o, h1, h0, Nat.lt_of_lt_of_le h2 hs, fun i hi => (World.cell?_of_block (w := w) (a := ⟨b, o + i, none⟩) (hk b h0 h2)).trans (h3 i hi)⟩
theorem own_vrowB {w : World} {B : Nat} {e : TypeId} {v : Value} {n : Nat} {xs : List Value} (h : w.ownsRow B e 1 v n xs) : ∃ A cap, v = .slice A n cap ∧ VRowB w B A xs := by
  have hl := h.1
  rcases h.2 with ⟨rfl, rfl⟩ | ⟨g, cap, cur, rfl, hb, hg, hnc, _⟩
  · exact ⟨none, 0, rfl, Or.inl (List.eq_nil_of_length_eq_zero (by simpa using hl))⟩
  · refine ⟨_, cap, rfl, Or.inr ⟨g, 0, rfl, hb, (Array.getElem?_eq_some_iff.1 hg).1, fun i hi => ?_⟩⟩
    have := World.ownsRow.cellAt h i (by omega)
    rw [Nat.zero_add, this]
    simp [hi]
/-- a slice of rows of numbers in memory, not below block B -/
def GridAt (w : World) (B : Nat) (A : Option Addr) (L : List (List Int)) : Prop :=
  ∃ vs : List Value, vs.length = L.length ∧ VRowB w B A vs ∧ ∀ k (h : k < L.length), ∃ Ak ck, vs[k]? = some (.slice Ak L[k].length ck) ∧ VRowB w B Ak (L[k].map (.int .i64))
theorem GridAt.keep {w w' : World} {B : Nat} {A : Option Addr} {L : List (List Int)} (h : GridAt w B A L) (hk : ∀ k, B ≤ k → k < w.heap.size → w'.heap[k]? = w.heap[k]?) (hs : w.heap.size ≤ w'.heap.size) : GridAt w' B A L := by
  obtain ⟨vs, h1, h2, h3⟩ := h
  refine ⟨vs, h1, h2.keep hk hs, fun k hk2 => ?_⟩
  obtain ⟨Ak, ck, h4, h5⟩ := h3 k hk2
  exact ⟨Ak, ck, h4, h5.keep hk hs⟩
/-- row k of the grid: its cell, and the row itself -/
theorem GridAt.at {w : World} {B : Nat} {A : Option Addr} {L : List (List Int)} (h : GridAt w B A L) {k : Nat} (hk : k < L.length) :
    ∃ b o Ak ck, A = some ⟨b, o, none⟩ ∧ w.cell? ⟨b, o + k, none⟩ = some (.slice Ak L[k].length ck) ∧ VRowB w B Ak (L[k].map (.int .i64)) := by
  obtain ⟨vs, h1, h2, h3⟩ := h
  obtain ⟨Ak, ck, h4, h5⟩ := h3 k hk
  rcases h2 with h2 | ⟨b, o, h6, _, h7, h8⟩
  · subst h2; simp at h1; omega
  · have hkv : k < vs.length := by omega
    refine ⟨b, o, Ak, ck, h6, ?_, h5⟩
    rw [h8 k hkv]
    rw [List.getElem?_eq_getElem hkv] at h4
    exact h4
theorem gridAt_own {w : World} {B g n : Nat} {vs : List Value} {L : List (List Int)} {F : List Rw} (h : Owns w B (grid g n vs L F)) (hL : L.length = n) : GridAt w B (some ⟨g, 0, none⟩) L := by
  have hv := grid_vs h
  obtain ⟨A, cap, hA, hr⟩ := own_vrowB (grid_own h)
  cases hA
  refine ⟨vs, by omega, hr, fun k hk => ?_⟩
  obtain ⟨Ak, ck, hAk, hrk⟩ := own_vrowB (grid_at h hL (t := k) (by omega))
  exact ⟨Ak, ck, by rw [List.getElem?_eq_getElem (by omega), hAk], hrk⟩
def EdgesPost (w : World) (n : Nat) (L : List (List Int)) (e : Ending) (w' : World) : Prop := ∃ A cap, e = .returned (.slice A n cap) ∧ GridAt w' (w.heap.size + 1) A L ∧ Below w.heap.size w w'
set_option maxHeartbeats 4000000 in
theorem edges_any (w : World) (a : Option Addr) (c n : Nat) (es : List Ed) (hr : EdRow w a es) (hn : es.length ≤ 1048576) (hok : Ok n es) :
    Calls Try.prog 29 #[.agg #[.int .i64 n, .slice a es.length c]] w (EdgesPost w n (edgesL n es es.length)) := by
  have HR := Lib.hid hr
  have hn1 := hok.n1
  have hn2 := hok.n2
  have HOK := Lib.hid hok
  clear hr hok
  have hmk := run_make_row' (P := Try.prog) 57 35 (.slice none 0 0) 24 Try.underlying57 info35 rfl .i64 .i64 n (by omega) (by omega)
  have hbox := HBox.box w n a es.length c
  have hst := grid_new (w.alloc (.cells #[.int .i64 n, .slice a es.length c] 24)) (w.heap.size + 1) n (by simp) (by unfold maxLen; omega)
  have hBW : Below w.heap.size w ((w.alloc (.cells #[.int .i64 n, .slice a es.length c] 24)).alloc (.cells (madeCells #[.slice none 0 0] n) 35)) := ((Below.refl _ _).alloc (Nat.le_refl _) _).alloc (by simp) _
  have hxx := HBox.below (B := w.heap.size + 1) hbox (by omega) ((Below.refl _ _).alloc (by simp) (.cells (madeCells #[.slice none 0 0] n) 35))
  obtain ⟨W0, hW0⟩ : ∃ W0, W0 = (w.alloc (.cells #[.int .i64 n, .slice a es.length c] 24)).alloc (.cells (madeCells #[.slice none 0 0] n) 35) := ⟨_, rfl⟩
  have hsz : W0.heap.size = w.heap.size + 2 := by rw [hW0]; simp
  rw [← hW0, show (w.alloc (.cells #[.int .i64 n, .slice a es.length c] 24)).heap.size = w.heap.size + 1 by simp] at hst
  rw [← hW0] at hBW hxx
  have hst2 : GSt W0 (w.heap.size + 1) (w.heap.size + 1) n (List.replicate n (.slice none 0 0)) (edgesL n es 0) [] W0 := ⟨by rw [edgesL_zero]; exact hst, edgesL_len _ _ _, Below.refl _ _⟩
  have HST := Lib.hid hst2
  have HSZ := Lib.hid hsz
  have HX := Lib.hid hxx
  have HBW := Lib.hid hBW
  clear hst hst2 hsz hxx hBW hbox
  obtain ⟨x0, x1⟩ := HX.out
  go_enter Try.func29, Try.ntmps29
  go_upto_region 2 with fail
  rw [← hW0]
  have HW0 := Lib.hid hW0
  clear hW0 hmk
  go_wp2_with fail
  clear x0 x1
  go_loopw [12] (fun x12 wr => ∃ k vs, k ≤ es.length ∧ x12 = .int .i64 (k : Nat) ∧ GSt W0 (w.heap.size + 1) (w.heap.size + 1) n vs (edgesL n es k) [] wr) (fun x12 _ => es.length - (intOf x12).toNat)
  case atStart => exact ⟨0, _, Nat.zero_le _, rfl, HST.out⟩
  case round =>
    obtain ⟨k, vs, hk, rfl, hst⟩ := hrel
    have HS := Lib.hid hst
    have hBw : Below w.heap.size w wr := HBW.out.trans (hst.below.mono (by omega))
    have HBw := Lib.hid hBw
    have hgt := hst.gt.2
    clear hst hBw
    by_cases hlt : k < es.length
    · obtain ⟨b, o, rfl, hb, hc⟩ := HR.out.at hlt
      obtain ⟨c0, c1, c2, c3, c4, hrow, hlen⟩ := hc.below hb (Nat.le_refl _) HBw.out
      have hok1 := HOK.out.e _ (List.getElem_mem hlt)
      have HST1 := Lib.hid (edgesL_step n es k)
      clear hc
      have HEK := Lib.hid (rfl : es[k] = es[k])
      obtain ⟨E, hE⟩ : ∃ E, E = es[k] := ⟨_, rfl⟩
      rw [← hE] at c0 c1 c2 c3 c4 hrow hlen hok1
      have HE := Lib.hid hE
      clear hE HEK
      obtain ⟨hd, hhd⟩ := Int.eq_ofNat_of_zero_le hok1.h0
      have hdn : hd < n := by have := hok1.h1; omega
      have HHD := Lib.hid hhd
      clear hhd hok1
      go_upto_region 5 with fail
      have hed := EdBox wr E hrow hlen
      have hal : Below (wr).heap.size (wr) ((wr).alloc (.cells #[.int .i64 E.head, .slice E.ta E.tails.length E.tc, .int .i64 E.cost, .int .i64 E.l0, .int .i64 E.l1] 38)) := (Below.refl _ _).alloc (Nat.le_refl _) _
      have hs1 : (wr).heap.size < ((wr).alloc (.cells #[.int .i64 E.head, .slice E.ta E.tails.length E.tc, .int .i64 E.cost, .int .i64 E.l0, .int .i64 E.l1] 38)).heap.size := by simp
      have how1 := HS.out.box E
      generalize (wr).alloc (.cells #[.int .i64 E.head, .slice E.ta E.tails.length E.tc, .int .i64 E.cost, .int .i64 E.l0, .int .i64 E.l1] 38) = w1 at *
      generalize hB1 : (wr).heap.size = B1 at *
      clear c0 c1 c2 c3 c4 hrow hed
      go_wp2_with fail
      obtain ⟨V, l, hV, hl, hcg, hfg, hog, hap, hapb, hgw⟩ := grid_look how1.owns how1.len hdn
      obtain ⟨hbx, _, _⟩ := bRow_cells (grid_in how1.owns (List.mem_cons_self ..))
      have hll : l.length ≤ k := by
        rw [List.getElem?_eq_getElem (by rw [edgesL_len]; exact hdn), edgesL_get] at hl
        rw [← Option.some.inj hl]; exact idx_len _ _ _
      have HOW := Lib.hid how1
      have HV := Lib.hid hV
      have HL := Lib.hid hl
      rw [HHD.out] at hbx
      clear how1 hV hl
      obtain ⟨S, hne, f, hf, hs⟩ := fam_grown w1 V.ownBlock
      have d0 : ∀ s, (f s).cell? ⟨B1, 0, none⟩ = some (.int .i64 (hd : Int)) := fun s => (hf s).cell hbx hapb
      have dg : ∀ s, (f s).cell? ⟨w.heap.size + 1, hd, none⟩ = some V := fun s => (hf s).cell hcg hap
      have df : ∀ s, (f s).frozen? ⟨w.heap.size + 1, hd, none⟩ = false := fun s => ((hf s).frozen_far ⟨w.heap.size + 1, hd, none⟩ hgw hap).trans hfg
      clear hcg hfg hbx
      obtain ⟨s0, h0⟩ := hs w1.drew ⟨rfl, rfl, rfl, Nat.le_refl _, fun _ _ _ => rfl⟩
      have ho0 : (f s0).ownsRow (w.heap.size + 1) 3 1 V l.length (l.map (.int .i64)) := h0 ▸ World.ownsRow.drew hog
      have hg0 : w1.grownBy (f s0) none := h0 ▸ ⟨rfl, rfl, rfl, Nat.le_refl _, fun _ _ _ => rfl⟩
      have HOG := Lib.hid hog
      clear hog
      obtain ⟨i3, hi3, hz3, hs3, hb3⟩ := info_parts info3
      refine wp_region_fast (S := fun w' => ∃ s, w' = f s) [(0, 8, 131072), (0, 32, 262144), (2, 262144, 524288), (0, 8, 1048576), (0, 32, 2097152), (16, 2097152, 4194304), (40, 5242880, 8388608), (64, 8388608, 16777216), (0, 16, 33554432), (256, 33554432, 67108864), (640, 83886080, 134217728), (2047, 655360, 268435456), (4095, 402653184, 0)] [(0, 0, (0, 8, 131072)), (1, 0, (0, 32, 262144)), (2, 0, (2, 262144, 524288)), (3, 0, (0, 8, 1048576)), (4, 0, (0, 32, 2097152)), (5, 0, (16, 2097152, 4194304)), (6, 0, (40, 5242880, 8388608)), (7, 0, (64, 8388608, 16777216)), (8, 0, (0, 16, 33554432)), (9, 1, (256, 33554432, 67108864)), (10, 1, (640, 83886080, 134217728)), (11, 0, (2047, 655360, 268435456)), (12, 2, (4095, 402653184, 0))] 4096 (by as_aux_lemma => kernel_rfl) (by as_aux_lemma => kernel_rfl) (by as_aux_lemma => kernel_rfl) (fun _ d _ _ _ h => by cases d <;> exact h) ⟨s0, h0⟩ ?_
      rw [h0]
      clear h0
      simp only [List.map_cons, List.map_nil, List.getElem?_cons_succ, List.getElem?_cons_zero]
      repeat ((with_reducible refine mix_free (fun K hK => ?_)); go_simp; refine hK _ ?_; clear hK K)
      refine mix_forced (fun K hK => ?_) ⟨_, rfl⟩
      go_simp
      obtain ⟨s1, h1⟩ := hs ((f s0).alloc (.cells #[.int .i64 ((k : Int))] 3)) (grown_any (grown_trans hg0 (World.grownBy_alloc _ _ _)))
      refine hK.out _ _ ⟨s1, h1⟩ (fun _ => ?_)
      have hn1 : (f s1).heap[(f s0).heap.size]? = some (.cells #[.int .i64 ((k : Int))] 3) := h1 ▸ heap_alloc_new _ _
      have ho1 : (f s1).ownsRow (w.heap.size + 1) 3 1 V l.length (l.map (.int .i64)) := h1 ▸ World.ownsRow.alloc ho0 _
      have hg1 : w1.grownBy (f s1) none := h1 ▸ grown_trans hg0 (World.grownBy_alloc _ _ _)
      rw [h1]
      have HG0 := Lib.hid hg0
      have HN1 := Lib.hid hn1
      have HO1 := Lib.hid ho1
      have HG1 := Lib.hid hg1
      clear hK K h1 hg0 ho0 hn1 ho1 hg1
      repeat ((with_reducible refine mix_free (fun K hK => ?_)); go_simp; refine hK _ ?_; clear hK K)
      refine mix_forced (fun K hK => ?_) ⟨_, rfl⟩
      refine step_append_lies (f s1) rfl _ _ 35 rfl (w.heap.size + 1) 3 i3 (.int .i64 0) 1 8 Try.underlying35 hi3 hz3 hs3 hb3 rfl (by decide) V l.length (l.map (.int .i64)) rfl HO1.out _ 1 1 [.int .i64 ((k : Int))] rfl rfl (World.news_of_block HN1.out) (ints_one [(k : Int)]) (by decide) (by unfold maxLen; omega) (by omega) (by have := HG1.out.size; omega) _ rfl ?_
      intro g1 cap1 w2 ho2 hg2 hat hlt2
      obtain ⟨s2, h2⟩ := hs w2 (grown_trans (grown_any HG1.out) hg2)
      subst h2
      refine hK.out _ _ ⟨s2, rfl⟩ (fun _ => ?_)
      have HO2 := Lib.hid ho2
      have HG2 := Lib.hid hg2
      have HAT := Lib.hid hat
      clear hK K ho2 hg2 hat hlt2
      repeat ((with_reducible refine mix_free (fun K hK => ?_)); go_simp; refine hK _ ?_; clear hK K)
      refine mix_last (fun K hK => ?_)
      go_simp
      refine hK.out _ _ ?_
      clear hK K
      refine mix_nil ?_
      go_wp2
      go_roundw
      case rel =>
        have h1 := (HOW.out.push hdn HV.out HL.out HG1.out HG2.out HO2.out HAT.out).drop
        have h2 := HST1.out hd hlt (by rw [← HE.out]; exact HHD.out) hdn
        have h3 := HL.out
        rw [List.getElem?_eq_getElem (by rw [edgesL_len]; exact hdn)] at h3
        rw [Option.some.inj h3] at h2
        rw [h2] at h1
        exact ⟨k + 1, _, by omega, by go_num, h1⟩
      case measure => simp [intOf]; omega
    · have hkk : k = es.length := by omega
      subst hkk
      go_wp2
      go_ret
      exact ⟨some ⟨w.heap.size + 1, 0, none⟩, n, rfl, gridAt_own HS.out.owns (edgesL_len _ _ _), HBw.out⟩
end Go.Proofs.Ytjhdhnkikgmpoaa
