/- The mixed walk of a drawn region with a cheap check: what each operation waits for, looks at and fills is told by three numbers, bit by bit. -/
import Derived.Test.YtdnkkeabimjbaaaMix
namespace Go.Proofs.Ytdnkkeabimjbaaa
open Go.RowKit

/-- bits of a list of numbers -/
def bitsOf (l : List Nat) : Nat := l.foldl (fun m t => m ||| (1 <<< t)) 0
theorem bits_fold (l : List Nat) : ∀ (m j : Nat), (l.foldl (fun m t => m ||| (1 <<< t)) m).testBit j = (m.testBit j || decide (j ∈ l)) := by
  induction l with
  | nil => intro m j; simp
  | cons t l ih =>
    intro m j
    rw [List.foldl_cons, ih]
    rw [Nat.testBit_or, Nat.one_shiftLeft, Nat.testBit_two_pow]
    by_cases h : t = j
    · subst h; simp
    · have h' : ¬ j = t := fun e => h e.symm
      simp [h, h']
theorem bitsOf_test (l : List Nat) (j : Nat) : (bitsOf l).testBit j = decide (j ∈ l) := by unfold bitsOf; rw [bits_fold]; simp

def depsOf (o : Oper) : List Nat := (o.after.toList.filter fun e => Region.binds .any e).map (·.on)
def rowOf (ops : Array Oper) (o : Oper) : Nat × Nat × Nat := (bitsOf (depsOf o), bitsOf (o.looksAt ops), bitsOf o.dst.toList)

/-- one step's check; L: the bits of what has come up -/
def stepB (T : List ((Nat × Nat × Nat) × Nat)) (i : Nat) (forced : Bool) (ri : Nat × Nat × Nat) (L : Nat) : Bool :=
  !L.testBit i && ((ri.1 &&& L) == ri.1) && T.all fun x => x.2 == i || L.testBit x.2 || (if forced then !((x.1.1 &&& L) == x.1.1) else x.1.1.testBit i || ((ri.2.2 &&& x.1.2.1) == 0 && (ri.2.2 &&& x.1.2.2) == 0 && (x.1.2.2 &&& ri.2.1) == 0))
def fastB (n : Nat) (T : List ((Nat × Nat × Nat) × Nat)) : List (Nat × Bool × (Nat × Nat × Nat)) → Nat → Bool
  | [], L => L == 2 ^ n - 1
  | (i, b, ri) :: r, L => stepB T i b ri L && fastB n T r (L ||| (1 <<< i))

theorem and_eq_sub {a L : Nat} (h : (a &&& L) = a) (j : Nat) (hj : a.testBit j = true) : L.testBit j = true := by
  rw [← h, Nat.testBit_and, Bool.and_eq_true] at hj
  exact hj.2
theorem sub_and_eq {a L : Nat} (h : ∀ j, a.testBit j = true → L.testBit j = true) : (a &&& L) = a := by
  apply Nat.eq_of_testBit_eq
  intro j
  rw [Nat.testBit_and]
  cases ha : a.testBit j
  · simp
  · rw [h j ha]; rfl
theorem and_zero_of {a b : Nat} (h : (a &&& b) = 0) (j : Nat) (ha : a.testBit j = true) (hb : b.testBit j = true) : False := by
  have : (a &&& b).testBit j = true := by rw [Nat.testBit_and, ha, hb]; rfl
  rw [h] at this
  simp at this

section
variable {P : Program} {ops : Array Oper} {Q : Exit → Act → World → Prop} {S : World → Prop}

/-- the listed array and its bits -/
structure Bits (n : Nat) (listed : Array Bool) (L : Nat) : Prop where
  size : listed.size = n
  get : ∀ j, j < n → listed.getD j false = L.testBit j
theorem Bits.getT {n : Nat} {listed : Array Bool} {L : Nat} (h : Bits n listed L) (j : Nat) (hj : j < n) : listed.getD j true = L.testBit j := by
  have := h.get j hj
  have hs : j < listed.size := by rw [h.size]; exact hj
  simp [hs] at this ⊢
  exact this
theorem Bits.set {n : Nat} {listed : Array Bool} {L i : Nat} (h : Bits n listed L) : Bits n (listed.setIfInBounds i true) (L ||| (1 <<< i)) := by
  refine ⟨by simp [h.size], fun j hj => ?_⟩
  rw [Nat.testBit_or, Nat.one_shiftLeft, Nat.testBit_two_pow, ← h.get j hj]
  by_cases hij : i = j
  · subst hij
    have hs : i < listed.size := by rw [h.size]; exact hj
    simp [hs]
  · rw [getD_set_ne false hij]
    simp [hij]

theorem ready_of {i n L : Nat} {o : Oper} {listed : Array Bool} (hn : ops.size = n) (hb : Bits n listed L) (hi : ops[i]? = some o) (hL : L.testBit i = false) (hd : (bitsOf (depsOf o) &&& L) = bitsOf (depsOf o)) (hlt : ∀ j, L.testBit j = true → j < n) :
    i ∈ Region.ready .any ops listed := by
  have hin : i < n := by rw [← hn]; exact (Array.getElem?_eq_some_iff.1 hi).1
  refine mem_ready.2 ⟨by rw [hb.getT i hin]; exact hL, o, hi, fun e he hbnd => ?_⟩
  have h1 : L.testBit e.on = true := and_eq_sub hd e.on (by
    rw [bitsOf_test, decide_eq_true_iff]
    simp only [depsOf, List.mem_map, List.mem_filter]
    exact ⟨e, ⟨by simpa using he, hbnd⟩, rfl⟩)
  rw [hb.get _ (hlt _ h1)]
  exact h1
theorem deps_of_ready {j n L : Nat} {o : Oper} {listed : Array Bool} (hn : ops.size = n) (hb : Bits n listed L) (ho : ops[j]? = some o) (h : j ∈ Region.ready .any ops listed) : L.testBit j = false ∧ (bitsOf (depsOf o) &&& L) = bitsOf (depsOf o) := by
  obtain ⟨h1, o', ho', hall⟩ := mem_ready.1 h
  have : o' = o := Option.some.inj (ho'.symm.trans ho)
  subst this
  have hin : j < n := by rw [← hn]; exact (Array.getElem?_eq_some_iff.1 ho).1
  refine ⟨by rw [← hb.getT j hin]; exact h1, sub_and_eq (fun k hk => ?_)⟩
  rw [bitsOf_test, decide_eq_true_iff] at hk
  simp only [depsOf, List.mem_map, List.mem_filter] at hk
  obtain ⟨e, ⟨he, hbnd⟩, rfl⟩ := hk
  have h2 := hall e (by simpa using he) hbnd
  have hlt : e.on < n := by
    rcases Nat.lt_or_ge e.on n with h' | h'
    · exact h'
    · exfalso
      rw [← hb.size] at h'
      simp [Array.getElem?_eq_none h'] at h2
  rw [← hb.get _ hlt]
  exact h2

theorem apart_of {x y : Oper} (h1 : (bitsOf x.dst.toList &&& bitsOf (y.looksAt ops)) = 0) (h2 : (bitsOf x.dst.toList &&& bitsOf y.dst.toList) = 0) (h3 : (bitsOf y.dst.toList &&& bitsOf (x.looksAt ops)) = 0) : x.apart ops y = true := by
  unfold Oper.apart
  rw [Bool.and_eq_true]
  constructor
  · cases hx : x.dst with
    | none => rfl
    | some d =>
      rw [hx] at h1 h2
      simp only [Bool.and_eq_true, Bool.not_eq_true', bne_iff_ne, ne_eq]
      refine ⟨?_, fun hy => ?_⟩
      · cases hc : (y.looksAt ops).contains d with
        | false => rfl
        | true => exact (and_zero_of h1 d (by rw [bitsOf_test]; simp) (by rw [bitsOf_test]; simpa using hc)).elim
      · exact and_zero_of h2 d (by rw [bitsOf_test]; simp) (by rw [bitsOf_test, hy]; simp)
  · cases hy : y.dst with
    | none => rfl
    | some d =>
      rw [hy] at h3
      simp only [Bool.not_eq_true']
      cases hc : (x.looksAt ops).contains d with
      | false => rfl
      | true => exact (and_zero_of h3 d (by rw [bitsOf_test]; simp) (by rw [bitsOf_test]; simpa using hc)).elim

theorem row_mem {T : List (Nat × Nat × Nat)} (hT : ops.toList.map (rowOf ops) = T) {j : Nat} {o : Oper} (ho : ops[j]? = some o) : (rowOf ops o, j) ∈ T.zipIdx := by
  rw [List.mem_zipIdx_iff_getElem?, ← hT, List.getElem?_map]
  simp only
  rw [Array.getElem?_toList, ho]; rfl

theorem wpAnyH_fast {n : Nat} {T : List (Nat × Nat × Nat)} (hT : ops.toList.map (rowOf ops) = T) (hn : ops.size = n) (hsel : Region.noSelect ops = true) (hQ : ∀ c d v (a : Act) w, Q (.panic c) (a.put d v) w → Q (.panic c) a w) :
    ∀ (ord : List (Nat × Bool × (Nat × Nat × Nat))) (listed : Array Bool) (L : Nat) (a : Act) (w : World), Bits n listed L → (∀ j, L.testBit j = true → j < n) → (∀ p ∈ ord, T[p.1]? = some p.2.2) →
    fastB n T.zipIdx ord L = true → S w → wpMix P ops Q S (ord.map fun p => (ops[p.1]?, p.2.1)) a w → wpAnyH P .any ops Q S ord.length listed a w
  | [], listed, L, a, w, hb, hlt, hr, hB, hS, h => by
    refine wpAnyH_done ?_ h 0
    refine List.eq_nil_iff_forall_not_mem.2 (fun j hj => ?_)
    obtain ⟨h1, o, ho, _⟩ := mem_ready.1 hj
    have hin : j < n := by rw [← hn]; exact (Array.getElem?_eq_some_iff.1 ho).1
    rw [hb.getT j hin] at h1
    simp only [fastB, beq_iff_eq] at hB
    rw [hB, Nat.testBit_two_pow_sub_one] at h1
    simp [hin] at h1
  | (i, b, ri) :: r, listed, L, a, w, hb, hlt, hr, hB, hS, h => by
    simp only [List.map_cons] at h
    have hri := hr _ (List.mem_cons_self ..)
    simp only at hri
    have hr' : ∀ p ∈ r, T[p.1]? = some p.2.2 := fun p hp => hr p (List.mem_cons_of_mem _ hp)
    cases hi : ops[i]? with
    | none => rw [hi] at h; cases b <;> exact h.elim
    | some o =>
      rw [hi] at h
      have hin : i < n := by rw [← hn]; exact (Array.getElem?_eq_some_iff.1 hi).1
      have hro : ri = rowOf ops o := by
        rw [← hT, List.getElem?_map, Array.getElem?_toList, hi] at hri
        simpa using hri.symm
      subst hro
      simp only [fastB, stepB, Bool.and_eq_true, Bool.not_eq_true', beq_iff_eq, List.all_eq_true, Bool.or_eq_true] at hB
      obtain ⟨⟨⟨hLi, hdeps⟩, hall⟩, hrest⟩ := hB
      have hready := ready_of hn hb hi hLi hdeps hlt
      have hb' := hb.set (i := i)
      have hlt' : ∀ j, (L ||| (1 <<< i)).testBit j = true → j < n := fun j hj => by
        rw [Nat.testBit_or, Nat.one_shiftLeft, Nat.testBit_two_pow, Bool.or_eq_true, decide_eq_true_eq] at hj
        rcases hj with hj | hj
        · exact hlt j hj
        · omega
      cases b with
      | true =>
        have honly : ∀ j ∈ Region.ready .any ops listed, j = i := fun j hj => by
          obtain ⟨_, oj, hoj, _⟩ := mem_ready.1 hj
          obtain ⟨h1, h2⟩ := deps_of_ready hn hb hoj hj
          have h3 := hall _ (row_mem hT hoj)
          simp only [if_true, Bool.not_eq_true', beq_eq_false_iff_ne, ne_eq] at h3
          rcases h3 with (h3 | h3) | h3
          · exact h3
          · rw [h1] at h3; cases h3
          · exact absurd h2 h3
        refine ⟨fun h0 => (by rw [h0] at hready; cases hready), fun j hj => ?_⟩
        have hji := honly j hj
        subst hji
        have h2 : wpOp P ops Q j (fun a' w' => S w' ∧ (S w' → wpMix P ops Q S (r.map fun p => (ops[p.1]?, p.2.1)) a' w')) a w := by
          unfold wpOp
          simp only [hi]
          change if _ then _ else _ at h
          split
          · rename_i hw; rw [if_pos hw] at h; exact Or.inl h
          · rename_i hw; rw [if_neg hw] at h; exact ⟨hS, fun _ => h⟩
        exact wpOp_mono (fun a' w' h3 => ⟨h3.1, wpAnyH_fast hT hn hsel hQ r _ _ a' w' hb' hlt' hr' hrest h3.1 (h3.2 h3.1)⟩) h2
      | false =>
        have hfree : ∀ j oj, ops[j]? = some oj → j ≠ i → listed.getD j true = false → (∀ e ∈ oj.after, Region.binds .any e = true → e.on ≠ i) → o.apart ops oj = true := fun j oj hoj hne hun hno => by
          have hjn : j < n := by rw [← hn]; exact (Array.getElem?_eq_some_iff.1 hoj).1
          rw [hb.getT j hjn] at hun
          have h3 := hall _ (row_mem hT hoj)
          simp only [Bool.false_eq_true, if_false, Bool.or_eq_true, Bool.and_eq_true, beq_iff_eq] at h3
          rcases h3 with (h3 | h3) | h3
          · exact absurd h3 hne
          · rw [hun] at h3; cases h3
          · rcases h3 with h3 | ⟨⟨h4, h5⟩, h6⟩
            · exfalso
              simp only [rowOf] at h3
              rw [bitsOf_test, decide_eq_true_iff] at h3
              simp only [depsOf, List.mem_map, List.mem_filter] at h3
              obtain ⟨e, ⟨he, hbnd⟩, heq⟩ := h3
              exact hno e (by simpa using he) hbnd heq
            · exact apart_of h4 h5 h6
        change if _ then _ else _ at h
        by_cases hw : Region.wanted o (yielded ops a.tmps) = true
        · rw [if_pos hw] at h
          obtain ⟨v, hv, hrr⟩ := h
          exact wpAnyH_first hi (Region.noSelect_spec hsel) (fun c a w => hQ c _ _ a w) _ listed a w hfree hready (Or.inl ⟨hw, hv⟩) hS (wpAnyH_fast hT hn hsel hQ r _ _ _ _ hb' hlt' hr' hrest hS hrr)
        · rw [if_neg hw] at h
          exact wpAnyH_first hi (Region.noSelect_spec hsel) (fun c a w => hQ c _ _ a w) _ listed a w hfree hready (Or.inr ⟨by simpa using hw, rfl⟩) hS (wpAnyH_fast hT hn hsel hQ r _ _ _ _ hb' hlt' hr' hrest hS h)

/-- THE REGION, by the cheap check: T the rows of its operations; ord the order, each with whether it is forced and its row. -/
theorem wp_region_fast {id : Nat} {a : Act} {w : World} {l : List Oper} (T : List (Nat × Nat × Nat)) (ord : List (Nat × Bool × (Nat × Nat × Nat))) (hm : P.follows .mixedOrders = true)
    (hT : (l.map (rowOf l.toArray) == T) = true)
    (hB : (Region.noSelect l.toArray && (ord.length == l.length && (ord.all (fun p => T[p.1]? == some p.2.2) && fastB l.length T.zipIdx ord 0))) = true)
    (hQ : ∀ c d v (a : Act) w, Q (.panic c) (a.put d v) w → Q (.panic c) a w) (hS : S w.drew)
    (h : wpMix P l.toArray Q S (ord.map fun p => (l[p.1]?, p.2.1)) a w.drew) : (Code.region id l.toArray true).wp P Q a w := by
  simp only [Bool.and_eq_true, beq_iff_eq, List.all_eq_true] at hB hT
  obtain ⟨h1, h2, h3, h4⟩ := hB
  refine wp_region_held (S := S) hm ?_
  rw [show l.toArray.size = ord.length by rw [h2]; simp]
  refine wpAnyH_fast (n := l.length) (by simpa using hT) (by simp) h1 hQ ord _ 0 a _ ⟨by simp [h2], fun j hj => ?_⟩ (fun j hj => by simp at hj) (fun p hp => h3 p hp) h4 hS (by simpa using h)
  rcases Nat.lt_or_ge j ord.length with h | h
  · simp [h]
  · simp [h]
end
end Go.Proofs.Ytdnkkeabimjbaaa
