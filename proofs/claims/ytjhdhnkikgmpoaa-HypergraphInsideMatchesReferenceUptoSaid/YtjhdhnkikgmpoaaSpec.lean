/- What the functions on hypergraphs compute, in plain Lean. -/
import Derived.Test.YtjhdhnkikgmpoaaOwn
namespace Go.Proofs.Ytjhdhnkikgmpoaa
open Go.RowKit

structure EdOk (n : Nat) (e : Ed) : Prop where
  h0 : 0 ≤ e.head
  h1 : e.head < n
  t : ∀ t ∈ e.tails, 0 ≤ t ∧ t < n
structure Ok (n : Nat) (es : List Ed) : Prop where
  n1 : 1 ≤ n
  n2 : n ≤ 1048576
  e : ∀ e ∈ es, EdOk n e
theorem ok_of_valid {n : Int} {es : List Ed} (h : validB n es = true) : ∃ m : Nat, n = m ∧ Ok m es := by
  simp only [validB, Bool.and_eq_true, decide_eq_true_eq, List.all_eq_true, edgeB, inR] at h
  obtain ⟨⟨h1, h2⟩, h3⟩ := h
  refine ⟨n.toNat, by omega, by omega, by omega, fun e he => ?_⟩
  obtain ⟨⟨⟨a, b⟩, _⟩, c⟩ := h3 e he
  refine ⟨a, by omega, fun t ht => ?_⟩
  have := c t ht
  omega

theorem inB_nat (bs : List Bool) (v : Nat) : inB bs (v : Int) = bs.getD v false := by simp [inB]
theorem inB_set (bs : List Bool) (v : Nat) (t : Int) (hv : v < bs.length) (ht : 0 ≤ t) : inB (bs.set v true) t = (decide (t = v) || inB bs t) := by
  obtain ⟨m, rfl⟩ := Int.eq_ofNat_of_zero_le ht
  simp only [inB_nat, List.getD_eq_getElem?_getD, List.getElem?_set]
  by_cases h : v = m
  · subst h; simp [hv]
  · rw [if_neg h]
    have : ¬ ((m : Int) = v) := by omega
    simp [this]
theorem count_set (bs : List Bool) (v : Nat) (hv : v < bs.length) (h : bs[v] = false) : (bs.set v true).count false + 1 = bs.count false := by
  rw [List.count_set hv, h]
  have : 0 < bs.count false := List.count_pos_iff.2 (by rw [← h]; exact List.getElem_mem hv)
  simp
  omega

/-- A node has a derivation. -/
inductive Der (es : List Ed) : Int → Prop
  | mk (e : Ed) : e ∈ es → (∀ t ∈ e.tails, Der es t) → Der es e.head
open Classical in
noncomputable def derL (n : Nat) (es : List Ed) : List Bool := (List.range n).map fun (v : Nat) => decide (Der es (v : Int))
def closedE (bs : List Bool) (e : Ed) : Prop := e.tails.all (inB bs) = true → inB bs e.head = true
def SoundD (bs : List Bool) (es : List Ed) : Prop := ∀ v : Nat, bs.getD v false = true → Der es v
theorem derL_len (n : Nat) (es : List Ed) : (derL n es).length = n := by simp [derL]
open Classical in
theorem derL_of {n : Nat} {es : List Ed} {bs : List Bool} (hl : bs.length = n) (hs : SoundD bs es) (hc : ∀ e ∈ es, closedE bs e) : bs = derL n es := by
  have h : ∀ t, Der es t → inB bs t = true := fun t h => by
    induction h with
    | mk e he _ ih => exact hc e he (by rw [List.all_eq_true]; exact ih)
  apply List.ext_getElem
  · rw [hl, derL_len]
  · intro v h1 h2
    simp only [derL, List.getElem_map, List.getElem_range]
    have hg : bs.getD v false = bs[v] := by simp [h1]
    cases hb : bs[v] with
    | true => exact (decide_eq_true (hs v (by rw [hg, hb]))).symm
    | false =>
      symm
      rw [decide_eq_false_iff_not]
      intro hd
      have := h _ hd
      rw [inB_nat, hg, hb] at this
      cases this
theorem soundD_new (n : Nat) (es : List Ed) : SoundD (List.replicate n false) es := fun v h => by
  rw [List.getD_eq_getElem?_getD, List.getElem?_replicate] at h
  split at h <;> simp at h
theorem soundD_set {bs : List Bool} {es : List Ed} {e : Ed} (hs : SoundD bs es) (he : e ∈ es) (h0 : ∀ t ∈ e.tails, 0 ≤ t) (ht : e.tails.all (inB bs) = true) {hd : Nat} (hh : e.head = hd) (hl : hd < bs.length) : SoundD (bs.set hd true) es := fun v hv => by
  rw [← inB_nat, inB_set _ _ _ hl (by omega)] at hv
  rw [Bool.or_eq_true, decide_eq_true_eq] at hv
  rcases hv with hv | hv
  · rw [hv, ← hh]
    refine Der.mk e he (fun t htm => ?_)
    have := List.all_eq_true.1 ht t htm
    obtain ⟨m, rfl⟩ := Int.eq_ofNat_of_zero_le (h0 t htm)
    exact hs m (by rw [← inB_nat]; exact this)
  · exact hs v (by rw [← inB_nat]; exact hv)

/-- A node can be reached from the root. -/
inductive Rch (es : List Ed) (root : Int) : Int → Prop
  | base : Rch es root root
  | step (e : Ed) (t : Int) : e ∈ es → Rch es root e.head → t ∈ e.tails → Rch es root t
open Classical in
noncomputable def reachL (n : Nat) (es : List Ed) (root : Int) : List Bool := (List.range n).map fun (v : Nat) => decide (Rch es root (v : Int))
theorem reachL_len (n : Nat) (es : List Ed) (root : Int) : (reachL n es root).length = n := by simp [reachL]
noncomputable def reachS (n : Nat) (es : List Ed) (root : Int) : List Bool := if root < 0 ∨ (n : Int) ≤ root then List.replicate n false else reachL n es root
theorem reachS_len (n : Nat) (es : List Ed) (root : Int) : (reachS n es root).length = n := by unfold reachS; split <;> simp [reachL_len]
def closedR (bs : List Bool) (e : Ed) : Prop := inB bs e.head = true → ∀ t ∈ e.tails, inB bs t = true
def SoundR (bs : List Bool) (es : List Ed) (root : Int) : Prop := ∀ v : Nat, bs.getD v false = true → Rch es root v
open Classical in
theorem reachL_of {n : Nat} {es : List Ed} {root : Int} {bs : List Bool} (hl : bs.length = n) (hs : SoundR bs es root) (hr : inB bs root = true) (hc : ∀ e ∈ es, closedR bs e) : bs = reachL n es root := by
  have h : ∀ t, Rch es root t → inB bs t = true := fun t h => by
    induction h with
    | base => exact hr
    | step e t he _ ht ih => exact hc e he ih t ht
  apply List.ext_getElem
  · rw [hl, reachL_len]
  · intro v h1 h2
    simp only [reachL, List.getElem_map, List.getElem_range]
    have hg : bs.getD v false = bs[v] := by simp [h1]
    cases hb : bs[v] with
    | true => exact (decide_eq_true (hs v (by rw [hg, hb]))).symm
    | false =>
      symm
      rw [decide_eq_false_iff_not]
      intro hd
      have := h _ hd
      rw [inB_nat, hg, hb] at this
      cases this
theorem soundR_root {n : Nat} {es : List Ed} {root : Nat} : SoundR ((List.replicate n false).set root true) es root := fun v h => by
  rw [List.getD_eq_getElem?_getD, List.getElem?_set, List.getElem?_replicate] at h
  split at h
  · rename_i h1; subst h1; exact Rch.base
  · split at h <;> simp at h
theorem soundR_set {bs : List Bool} {es : List Ed} {root : Int} {e : Ed} {t : Nat} (hs : SoundR bs es root) (he : e ∈ es) (h0 : 0 ≤ e.head) (hh : inB bs e.head = true) (ht : (t : Int) ∈ e.tails) (hl : t < bs.length) : SoundR (bs.set t true) es root := fun v hv => by
  rw [← inB_nat, inB_set _ _ _ hl (by omega), Bool.or_eq_true, decide_eq_true_eq] at hv
  rcases hv with hv | hv
  · rw [hv]
    obtain ⟨m, hm⟩ := Int.eq_ofNat_of_zero_le h0
    rw [hm] at hh
    exact Rch.step e t he (by rw [hm]; exact hs m (by rw [← inB_nat]; exact hh)) ht
  · exact hs v (by rw [← inB_nat]; exact hv)
theorem inB_set_mono {bs : List Bool} {v : Nat} {t : Int} (hl : v < bs.length) (h0 : 0 ≤ t) (h : inB bs t = true) : inB (bs.set v true) t = true := by
  rw [inB_set _ _ _ hl h0, h, Bool.or_true]
theorem VRow.grown {w w' : World} {row : Option Nat} {A : Option Addr} {vs : List Value} (h : VRow w A vs) (hg : w.grownBy w' row) (hne : ∀ a, A = some a → some a.block ≠ row) : VRow w' A vs := by
  rcases h with h | ⟨b, o, h1, h2, h3⟩
  · exact Or.inl h
  · exact Or.inr ⟨b, o, h1, Nat.lt_of_lt_of_le h2 hg.size, fun i hi => hg.cell (h3 i hi) (show some (⟨b, o + i, none⟩ : Addr).block ≠ row from hne ⟨b, o, none⟩ h1)⟩
end Go.Proofs.Ytjhdhnkikgmpoaa
