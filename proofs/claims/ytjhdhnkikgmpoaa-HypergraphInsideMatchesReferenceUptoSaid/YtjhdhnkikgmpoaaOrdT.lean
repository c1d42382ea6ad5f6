/- The order is topological: in plain Lean. -/
import Derived.Test.YtjhdhnkikgmpoaaL56
namespace Go.Proofs.Ytjhdhnkikgmpoaa
open Go.RowKit Go.Deep

structure OI (n : Nat) (es : List Ed) (bs : List Bool) (ls : List Int) : Prop where
  blen : bs.length = n
  cnt : bs.count false + ls.length = n
  mem : ∀ v : Nat, v < n → (bs.getD v false = true ↔ (v : Int) ∈ ls)
  rng : ∀ x ∈ ls, ∃ v : Nat, x = v ∧ v < n
  nd : ls.Nodup
  topo : ∀ j x, ls[j]? = some x → ∀ e ∈ es, e.head = x → ∀ t ∈ e.tails, t ∈ ls.take j
theorem OI.start (n : Nat) (es : List Ed) : OI n es (List.replicate n false) [] :=
  ⟨by simp, by simp, fun v hv => by
    rw [List.getD_eq_getElem?_getD, List.getElem?_replicate]
    simp [hv], fun x hx => (by cases hx), by simp, fun j x hx => by simp at hx⟩
theorem OI.step {n v : Nat} {es : List Ed} {bs : List Bool} {ls : List Int} (h : OI n es bs ls) (hok : Ok n es) (hf : firstR es n bs = some v) : OI n es (bs.set v true) (ls ++ [(v : Int)]) := by
  have hv : v < n := List.mem_range.1 (List.mem_of_find?_eq_some hf)
  have hokv : okV es bs v = true := List.find?_some hf
  unfold okV at hokv
  rw [Bool.and_eq_true] at hokv
  obtain ⟨h1, h2⟩ := hokv
  have hbv : bs.getD v false = false := by simpa using h1
  have hlb : v < bs.length := by rw [h.blen]; exact hv
  have hbv2 : bs[v] = false := by rw [← hbv]; simp [hlb]
  have hnm : (v : Int) ∉ ls := fun hm => by rw [(h.mem v hv).2 hm] at hbv; cases hbv
  refine ⟨by simpa using h.blen, ?_, fun u hu => ?_, fun x hx => ?_, ?_, fun j x hx e he hh t ht => ?_⟩
  · have h3 := count_set bs v hlb hbv2
    have h4 := h.cnt
    simp
    omega
  · have e1 : (bs.set v true).getD u false = (decide ((u : Int) = v) || bs.getD u false) := by
      rw [← inB_nat, inB_set _ _ _ hlb (by omega), inB_nat]
    rw [e1, Bool.or_eq_true, decide_eq_true_eq, h.mem u hu, List.mem_append, List.mem_singleton]
    exact Or.comm
  · rcases List.mem_append.1 hx with h3 | h3
    · exact h.rng x h3
    · rw [List.mem_singleton] at h3
      exact ⟨v, h3, hv⟩
  · exact (List.nodup_append.2 ⟨h.nd, by simp, fun a ha b hb hab => by rw [List.mem_singleton] at hb; subst hb; subst hab; exact hnm ha⟩)
  · by_cases hj : j < ls.length
    · rw [List.getElem?_append_left hj] at hx
      have h3 := h.topo j x hx e he hh t ht
      rw [List.take_append_of_le_length (by omega)]
      exact h3
    · have hjl : j = ls.length := by
        have := (List.getElem?_eq_some_iff.1 hx).1
        simp at this
        omega
      subst hjl
      rw [List.getElem?_append_right (Nat.le_refl _), Nat.sub_self] at hx
      simp at hx
      rw [List.take_append_of_le_length (Nat.le_refl _), List.take_length]
      have h4 := List.all_eq_true.1 h2 e he
      unfold readyE at h4
      rw [hh, ← hx] at h4
      simp at h4
      have h5 := h4 t ht
      obtain ⟨h6, h7⟩ := (hok.e e he).t t ht
      obtain ⟨u, rfl⟩ := Int.eq_ofNat_of_zero_le h6
      rw [inB_nat] at h5
      exact (h.mem u (by omega)).1 h5
theorem ordGo_inv {n : Nat} {es : List Ed} (hok : Ok n es) : ∀ (f : Nat) (bs : List Bool) (ls r : List Int), ordGo es n f bs ls = some r → OI n es bs ls → ∃ bs', OI n es bs' r
  | 0, bs, ls, r, h, hi => by cases h; exact ⟨bs, hi⟩
  | f + 1, bs, ls, r, h, hi => by
    simp only [ordGo] at h
    cases hf : firstR es n bs with
    | none => rw [hf] at h; cases h
    | some v =>
      rw [hf] at h
      exact ordGo_inv hok f _ _ r h (hi.step hok hf)
theorem ord_all {n : Nat} {es : List Ed} {r : List Int} (hok : Ok n es) (h : ordL n es = some r) : r.Nodup ∧ (∀ v : Nat, v < n → (v : Int) ∈ r) ∧ ∀ j x, r[j]? = some x → ∀ e ∈ es, e.head = x → ∀ t ∈ e.tails, t ∈ r.take j := by
  obtain ⟨bs, hi⟩ := ordGo_inv hok n _ _ r h (OI.start n es)
  have hl := ordL_len h
  refine ⟨hi.nd, fun v hv => ?_, hi.topo⟩
  refine (hi.mem v hv).1 ?_
  have hc := hi.cnt
  have hc0 : bs.count false = 0 := by omega
  rw [List.count_eq_zero] at hc0
  have hlb : v < bs.length := by rw [hi.blen]; exact hv
  rw [List.getD_eq_getElem?_getD, List.getElem?_eq_getElem hlb]
  cases hb : bs[v] with
  | true => rfl
  | false => exact absurd (by rw [← hb]; exact List.getElem_mem hlb) hc0
theorem ord_lt {n : Nat} {es : List Ed} {r : List Int} (hok : Ok n es) (h : ordL n es = some r) {e : Ed} (he : e ∈ es) {t : Int} (ht : t ∈ e.tails) : ∃ i j, i < j ∧ j < r.length ∧ r[i]? = some t ∧ r[j]? = some e.head := by
  obtain ⟨_, hall, htopo⟩ := ord_all hok h
  obtain ⟨hd, hhd⟩ := Int.eq_ofNat_of_zero_le (hok.e e he).h0
  have hm := hall hd (by have := (hok.e e he).h1; omega)
  rw [← hhd] at hm
  obtain ⟨j, hj, hje⟩ := List.mem_iff_getElem.1 hm
  have hj2 : r[j]? = some e.head := by rw [List.getElem?_eq_getElem hj, hje]
  have htm := htopo j e.head hj2 e he rfl t ht
  obtain ⟨i, hi, hie⟩ := List.mem_iff_getElem.1 htm
  have hij : i < j := by simp at hi; omega
  refine ⟨i, j, hij, hj, ?_, hj2⟩
  rw [List.getElem?_eq_getElem (by omega)]
  rw [List.getElem_take] at hie
  rw [hie]
/-- the error's number and the list -/
def ordR (n : Nat) (es : List Ed) : Int × List Int := match ordL n es with
  | none => (9, [])
  | some ls => (0, ls)
theorem ordR_post {w w' : World} {n : Nat} {es : List Ed} {e : Ending} (h : OrderPost w (ordL n es) e w') : Below w.heap.size w w' ∧ ∃ A cap, e = .returned (.tuple #[.slice A (ordR n es).2.length cap, .int .i64 (ordR n es).1]) ∧ IRow w' A (ordR n es).2 := by
  obtain ⟨hb, h⟩ := h
  refine ⟨hb, ?_⟩
  unfold ordR
  cases ho : ordL n es with
  | none =>
    rw [ho] at h
    exact ⟨none, 0, h, VRow.nil _ _⟩
  | some ls =>
    rw [ho] at h
    exact h
theorem ordR_ok {n : Nat} {es : List Ed} (h : (ordR n es).1 = 0) : ordL n es = some (ordR n es).2 := by
  unfold ordR at h ⊢
  cases ho : ordL n es with
  | none => rw [ho] at h; cases h
  | some ls => rfl
theorem ordR_mem {n : Nat} {es : List Ed} {x : Int} (h : x ∈ (ordR n es).2) : ∃ v : Nat, x = v ∧ v < n := by
  unfold ordR at h
  cases ho : ordL n es with
  | none => rw [ho] at h; cases h
  | some ls => rw [ho] at h; exact ordL_mem ho h
theorem ordR_len (n : Nat) (es : List Ed) : (ordR n es).2.length ≤ n := by
  unfold ordR
  cases ho : ordL n es with
  | none => simp
  | some ls => exact Nat.le_of_eq (ordL_len ho)
theorem ordR_nd {n : Nat} {es : List Ed} (hok : Ok n es) : (ordR n es).2.Nodup := by
  unfold ordR
  cases ho : ordL n es with
  | none => simp
  | some ls => exact (ord_all hok ho).1
/-- the places of the first k members -/
def PosOk (ls : List Int) (k : Nat) (at' : List Int) : Prop := ∀ i x, i < k → ls[i]? = some x → at'.getD x.toNat 0 = i
theorem PosOk.step {ls : List Int} {k v n : Nat} {at' : List Int} (h : PosOk ls k at') (hnd : ls.Nodup) (hv : ls[k]? = some (v : Int)) (hl : at'.length = n) (hvn : v < n) (hr : ∀ x ∈ ls, ∃ v : Nat, x = v ∧ v < n) : PosOk ls (k + 1) (at'.set v (k : Int)) := fun i x hi hx => by
  rw [getD_set (by omega)]
  by_cases hik : i = k
  · subst hik
    rw [hx] at hv
    cases hv
    simp
  · have hne : ¬ x.toNat = v := fun he => by
      obtain ⟨u, hu, _⟩ := hr x (List.mem_of_getElem? hx)
      subst hu
      rw [Int.toNat_natCast] at he
      subst he
      obtain ⟨h1, h2⟩ := List.getElem?_eq_some_iff.1 hx
      obtain ⟨h3, h4⟩ := List.getElem?_eq_some_iff.1 hv
      exact List.pairwise_iff_getElem.1 hnd i k h1 h3 (by omega) (h2.trans h4.symm)
    rw [if_neg hne]
    exact h i x (by omega) hx
end Go.Proofs.Ytjhdhnkikgmpoaa
