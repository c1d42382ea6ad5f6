/- What the loops of Order hold, in plain Lean. -/
import Derived.Test.YtjhdhnkikgmpoaaReach
namespace Go.Proofs.Ytjhdhnkikgmpoaa
open Go.RowKit Go.Deep

/-- each tail with its edge's head, in order -/
def occE (e : Ed) : List (Int × Int) := e.tails.map fun t => (t, e.head)
def occ (es : List Ed) : List (Int × Int) := es.flatMap occE
def usesO (O : List (Int × Int)) (t : Int) : List Int := (O.filter fun p => p.1 == t).map (·.2)
def missO (O : List (Int × Int)) (v : Int) : Nat := (O.filter fun p => p.2 == v).length
def usesL (n : Nat) (O : List (Int × Int)) : List (List Int) := (List.range n).map fun (t : Nat) => usesO O (t : Int)
def missL (n : Nat) (O : List (Int × Int)) : List Int := (List.range n).map fun (v : Nat) => ((missO O (v : Int) : Nat) : Int)
theorem usesL_len (n : Nat) (O : List (Int × Int)) : (usesL n O).length = n := by simp [usesL]
theorem missL_len (n : Nat) (O : List (Int × Int)) : (missL n O).length = n := by simp [missL]
theorem usesL_get (n : Nat) (O : List (Int × Int)) (t : Nat) (h : t < (usesL n O).length) : (usesL n O)[t] = usesO O (t : Int) := by simp [usesL]
theorem missL_get (n : Nat) (O : List (Int × Int)) (v : Nat) (h : v < (missL n O).length) : (missL n O)[v] = (missO O (v : Int) : Nat) := by simp [missL]
theorem occ_step (es : List Ed) (k : Nat) (h : k < es.length) : occ (es.take (k + 1)) = occ (es.take k) ++ occE es[k] := by
  unfold occ
  rw [take_step es k h, List.flatMap_append]
  simp
theorem occE_len (e : Ed) : (occE e).length = e.tails.length := by simp [occE]
theorem occ_take_len (es : List Ed) (k : Nat) : (occ (es.take k)).length ≤ (occ es).length := by
  have h : occ es = occ (es.take k) ++ occ (es.drop k) := by
    unfold occ
    rw [← List.flatMap_append, List.take_append_drop]
  rw [h, List.length_append]
  omega
theorem usesO_len (O : List (Int × Int)) (t : Int) : (usesO O t).length ≤ O.length := by
  unfold usesO
  rw [List.length_map]
  exact List.length_filter_le _ _
theorem missO_len (O : List (Int × Int)) (v : Int) : missO O v ≤ O.length := List.length_filter_le _ _
theorem usesO_add (O : List (Int × Int)) (t h x : Int) : usesO (O ++ [(t, h)]) x = usesO O x ++ (if t = x then [h] else []) := by
  unfold usesO
  rw [List.filter_append, List.map_append]
  congr 1
  by_cases hx : t = x <;> simp [hx]
theorem usesL_step (n : Nat) (O : List (Int × Int)) (t : Nat) (h : Int) : (usesL n O).set t (usesO O (t : Int) ++ [h]) = usesL n (O ++ [((t : Int), h)]) := by
  apply List.ext_getElem
  · simp [usesL_len]
  · intro v h1 h2
    simp only [List.getElem_set, usesL_get, usesO_add]
    by_cases hv : t = v
    · subst hv; simp
    · rw [if_neg hv, if_neg (by omega), List.append_nil]
theorem missO_addE (O : List (Int × Int)) (e : Ed) (v : Int) : missO (O ++ occE e) v = missO O v + (if e.head = v then e.tails.length else 0) := by
  unfold missO
  rw [List.filter_append, List.length_append]
  congr 1
  unfold occE
  by_cases hv : e.head = v
  · rw [if_pos hv, List.filter_eq_self.2]
    · simp
    · intro p hp
      obtain ⟨t, _, rfl⟩ := List.mem_map.1 hp
      simpa using hv
  · rw [if_neg hv, List.filter_eq_nil_iff.2]
    · rfl
    · intro p hp
      obtain ⟨t, _, rfl⟩ := List.mem_map.1 hp
      simpa using hv
theorem missL_step (n : Nat) (O : List (Int × Int)) (e : Ed) (hd : Nat) (hh : e.head = hd) : (missL n O).set hd ((missO O (hd : Int) : Nat) + (e.tails.length : Int)) = missL n (O ++ occE e) := by
  apply List.ext_getElem
  · simp [missL_len]
  · intro v h1 h2
    simp only [List.getElem_set, missL_get, missO_addE, hh]
    by_cases hv : hd = v
    · subst hv; simp
    · rw [if_neg hv, if_neg (by omega)]
      simp
theorem usesL_nil (n : Nat) : usesL n (occ ([] : List Ed)) = List.replicate n [] := by
  apply List.ext_getElem
  · simp [usesL_len]
  · intro v h1 h2
    simp [usesL_get, usesO, occ]
theorem missL_nil (n : Nat) : missL n (occ ([] : List Ed)) = List.replicate n 0 := by
  apply List.ext_getElem
  · simp [missL_len]
  · intro v h1 h2
    simp [missL_get, missO, occ]
theorem mem_usesO {O : List (Int × Int)} {t h : Int} : h ∈ usesO O t ↔ (t, h) ∈ O := by
  unfold usesO
  rw [List.mem_map]
  constructor
  · rintro ⟨⟨a, b⟩, hp, rfl⟩
    rw [List.mem_filter] at hp
    have : a = t := by simpa using hp.2
    subst this
    exact hp.1
  · intro hp
    exact ⟨(t, h), List.mem_filter.2 ⟨hp, by simp⟩, rfl⟩
theorem mem_occ {es : List Ed} {t h : Int} : (t, h) ∈ occ es ↔ ∃ e ∈ es, e.head = h ∧ t ∈ e.tails := by
  unfold occ
  rw [List.mem_flatMap]
  constructor
  · rintro ⟨e, he, hp⟩
    obtain ⟨t', ht', hq⟩ := List.mem_map.1 hp
    cases hq
    exact ⟨e, he, rfl, ht'⟩
  · rintro ⟨e, he, rfl, ht⟩
    exact ⟨e, he, List.mem_map.2 ⟨t, ht, rfl⟩⟩

/-- how many tails of v's edges are not done -/
def pendO (O : List (Int × Int)) (bs : List Bool) (v : Int) : Nat := (O.filter fun p => p.2 == v && !inB bs p.1).length
def pendL (n : Nat) (O : List (Int × Int)) (bs : List Bool) (dn : List Int) : List Int := (List.range n).map fun (v : Nat) => (pendO O bs (v : Int) : Int) - (dn.count (v : Int) : Nat)
theorem pendL_len (n : Nat) (O : List (Int × Int)) (bs : List Bool) (dn : List Int) : (pendL n O bs dn).length = n := by simp [pendL]
theorem pendL_get (n : Nat) (O : List (Int × Int)) (bs : List Bool) (dn : List Int) (v : Nat) (h : v < (pendL n O bs dn).length) : (pendL n O bs dn)[v] = (pendO O bs (v : Int) : Int) - (dn.count (v : Int) : Nat) := by simp [pendL]
theorem pendL_start (n : Nat) (O : List (Int × Int)) : missL n O = pendL n O (List.replicate n false) [] := by
  apply List.ext_getElem
  · simp [missL_len, pendL_len]
  · intro v h1 h2
    simp only [missL_get, pendL_get, List.count_nil]
    have h : pendO O (List.replicate n false) (v : Int) = missO O (v : Int) := by
      unfold pendO missO
      congr 1
      apply List.filter_congr
      intro p _
      have : inB (List.replicate n false) p.1 = false := by
        simp only [inB, List.getD_eq_getElem?_getD, List.getElem?_replicate]
        split <;> rfl
      simp [this]
    rw [h]
    simp
theorem pendL_step (n : Nat) (O : List (Int × Int)) (bs : List Bool) (dn : List Int) (hd : Nat) (h : hd < (pendL n O bs dn).length) : (pendL n O bs dn).set hd ((pendL n O bs dn)[hd] - 1) = pendL n O bs (dn ++ [(hd : Int)]) := by
  apply List.ext_getElem
  · simp [pendL_len]
  · intro v h1 h2
    simp only [List.getElem_set, pendL_get, List.count_append]
    by_cases hv : hd = v
    · subst hv
      simp
      omega
    · rw [if_neg hv]
      have : List.count (v : Int) [(hd : Int)] = 0 := by
        rw [List.count_eq_zero]
        simp
        omega
      rw [this]
      simp
theorem pendO_set (O : List (Int × Int)) (bs : List Bool) (x : Nat) (v : Int) (hx : x < bs.length) (hb : bs[x] = false) (h0 : ∀ p ∈ O, 0 ≤ p.1) : pendO O (bs.set x true) v + (usesO O (x : Int)).count v = pendO O bs v := by
  unfold pendO usesO
  induction O with
  | nil => simp
  | cons p O ih =>
    have ih := ih (fun q hq => h0 q (List.mem_cons_of_mem _ hq))
    have hp := h0 p (List.mem_cons_self ..)
    have hs := inB_set bs x p.1 hx hp
    have hg : inB bs (x : Int) = false := by rw [inB_nat]; simp [hx, hb]
    by_cases h1 : p.1 = x
    · have a1 : (p.2 == v && !inB (bs.set x true) p.1) = false := by rw [hs, h1]; simp
      have a2 : (p.2 == v && !inB bs p.1) = (p.2 == v) := by rw [h1, hg]; simp
      have a3 : (p.1 == (x : Int)) = true := by rw [h1]; simp
      rw [List.filter_cons, List.filter_cons, List.filter_cons, a1, a2, a3]
      by_cases h2 : p.2 = v
      · have h3 : (p.2 == v) = true := by rw [h2]; simp
        simp only [h3, if_true, Bool.false_eq_true, if_false, List.map_cons, List.count_cons, List.length_cons]
        omega
      · have h3 : (p.2 == v) = false := by simpa using h2
        simp only [h3, if_true, Bool.false_eq_true, if_false, List.map_cons, List.count_cons]
        omega
    · have a1 : (p.2 == v && !inB (bs.set x true) p.1) = (p.2 == v && !inB bs p.1) := by rw [hs]; simp [h1]
      have a3 : (p.1 == (x : Int)) = false := by simpa using h1
      rw [List.filter_cons, List.filter_cons, List.filter_cons, a1, a3]
      cases (p.2 == v && !inB bs p.1)
      · simp only [Bool.false_eq_true, if_false]
        exact ih
      · simp only [if_true, Bool.false_eq_true, if_false, List.length_cons]
        omega
theorem pendL_done (n : Nat) (O : List (Int × Int)) (bs : List Bool) (x : Nat) (hx : x < bs.length) (hb : bs[x] = false) (h0 : ∀ p ∈ O, 0 ≤ p.1) : pendL n O bs (usesO O (x : Int)) = pendL n O (bs.set x true) [] := by
  apply List.ext_getElem
  · simp [pendL_len]
  · intro v h1 h2
    simp only [pendL_get, List.count_nil]
    have := pendO_set O bs x (v : Int) hx hb h0
    omega
theorem pend_ready (es : List Ed) (bs : List Bool) (v : Int) : pendO (occ es) bs v = 0 ↔ readyB es bs v = true := by
  unfold pendO readyB
  rw [List.length_eq_zero_iff, List.filter_eq_nil_iff, List.all_eq_true]
  constructor
  · intro h e he
    unfold readyE
    by_cases hv : e.head = v
    · have : e.tails.all (inB bs) = true := by
        rw [List.all_eq_true]
        intro t ht
        have := h (t, e.head) (mem_occ.2 ⟨e, he, rfl, ht⟩)
        simp [hv] at this
        exact this
      simp [this]
    · simp [hv]
  · rintro h ⟨t, hh⟩ hp
    obtain ⟨e, he, rfl, ht⟩ := mem_occ.1 hp
    have := h e he
    unfold readyE at this
    by_cases hv : e.head = v
    · simp [hv] at this
      simp [hv, this t ht]
    · simp [hv]
theorem okV_pend (es : List Ed) (bs : List Bool) (n v : Nat) (h : v < (pendL n (occ es) bs []).length) : okV es bs v = (!bs.getD v false && decide ((pendL n (occ es) bs [])[v] = 0)) := by
  unfold okV
  congr 1
  rw [pendL_get, List.count_nil]
  have := pend_ready es bs (v : Int)
  cases hr : readyB es bs (v : Int) with
  | true =>
    have h1 := this.2 hr
    symm
    rw [decide_eq_true_iff, h1]
    simp
  | false =>
    symm
    rw [decide_eq_false_iff_not]
    intro h2
    have : pendO (occ es) bs (v : Int) = 0 := by omega
    rw [(pend_ready es bs (v : Int)).1 this] at hr
    cases hr
end Go.Proofs.Ytjhdhnkikgmpoaa
