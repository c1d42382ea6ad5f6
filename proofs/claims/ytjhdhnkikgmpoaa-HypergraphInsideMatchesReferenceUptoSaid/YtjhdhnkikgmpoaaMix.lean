/- A region that draws its order, walked once in a given order. Free operations (kind 0) yield one value in every world that meets S; forced ones (kind 1) are alone ready and keep S; the last ones (kind 2: the stores that end a statement) are alone ready, wait for all free ones and need not keep S. The check goes by bits. -/
import Derived.OrdersHeld
import Derived.Deep.RegionHeld3
import Derived.WalkKit
import Derived.Deep.QuietTactic
namespace Go.Proofs.Ytjhdhnkikgmpoaa
open Go.RowKit

/-- bits of a list of numbers -/
def bitsOf (l : List Nat) : Nat := l.foldl (fun m t => m ||| (1 <<< t)) 0
theorem bits_fold (l : List Nat) : ∀ (m j : Nat), (l.foldl (fun m t => m ||| (1 <<< t)) m).testBit j = (m.testBit j || decide (j ∈ l)) := by
  induction l with
  | nil => intro m j; simp
  | cons t l ih =>
    intro m j
    rw [List.foldl_cons, ih]
    rw [Nat.testBit_or, Nat.one_shiftLeft, Nat.testBit_two_pow]
    by_cases h : t = j
    · subst h; simp
    · have h' : ¬ j = t := fun e => h e.symm
      simp [h, h']
theorem bitsOf_test (l : List Nat) (j : Nat) : (bitsOf l).testBit j = decide (j ∈ l) := by unfold bitsOf; rw [bits_fold]; simp

def depsOf (o : Oper) : List Nat := (o.after.toList.filter fun e => Region.binds .any e).map (·.on)
def rowOf (ops : Array Oper) (o : Oper) : Nat × Nat × Nat := (bitsOf (depsOf o), bitsOf (o.looksAt ops), bitsOf o.dst.toList)

/-- the operation with these deps waits for i, over at most n others -/
def reachB (T : List ((Nat × Nat × Nat) × Nat)) (i : Nat) : Nat → Nat → Bool
  | 0, dep => dep.testBit i
  | n + 1, dep => dep.testBit i || T.any fun x => dep.testBit x.2 && reachB T i n x.1.1
/-- one step's check; L: the bits of what has come up; ds: the last operations -/
def stepB (T : List ((Nat × Nat × Nat) × Nat)) (ds : Nat) (i : Nat) (kind : Nat) (ri : Nat × Nat × Nat) (L : Nat) : Bool :=
  !L.testBit i && ((ri.1 &&& L) == ri.1) && (ds.testBit i == (kind == 2)) && T.all fun x => x.2 == i || L.testBit x.2 || (if kind == 0 then x.1.1.testBit i || (ds.testBit x.2 && reachB T i 6 x.1.1) || (!ds.testBit x.2 && ((ri.2.2 &&& x.1.2.1) == 0 && (ri.2.2 &&& x.1.2.2) == 0 && (x.1.2.2 &&& ri.2.1) == 0)) else !((x.1.1 &&& L) == x.1.1))
def fastB (n : Nat) (T : List ((Nat × Nat × Nat) × Nat)) (ds : Nat) : List (Nat × Nat × (Nat × Nat × Nat)) → Nat → Bool
  | [], L => L == 2 ^ n - 1
  | (i, b, ri) :: r, L => decide (b ≤ 2) && stepB T ds i b ri L && (!(b == 2) || r.all fun p => p.2.1 == 2) && fastB n T ds r (L ||| (1 <<< i))

theorem and_eq_sub {a L : Nat} (h : (a &&& L) = a) (j : Nat) (hj : a.testBit j = true) : L.testBit j = true := by
  rw [← h, Nat.testBit_and, Bool.and_eq_true] at hj
  exact hj.2
theorem sub_and_eq {a L : Nat} (h : ∀ j, a.testBit j = true → L.testBit j = true) : (a &&& L) = a := by
  apply Nat.eq_of_testBit_eq
  intro j
  rw [Nat.testBit_and]
  cases ha : a.testBit j
  · simp
  · rw [h j ha]; rfl
theorem and_zero_of {a b : Nat} (h : (a &&& b) = 0) (j : Nat) (ha : a.testBit j = true) (hb : b.testBit j = true) : False := by
  have : (a &&& b).testBit j = true := by rw [Nat.testBit_and, ha, hb]; rfl
  rw [h] at this
  simp at this

section
variable {P : Program} {ops : Array Oper} {Q : Exit → Act → World → Prop} {S : World → Prop}

/-- the listed array and its bits -/
structure Bits (n : Nat) (listed : Array Bool) (L : Nat) : Prop where
  size : listed.size = n
  get : ∀ j, j < n → listed.getD j false = L.testBit j
theorem Bits.getT {n : Nat} {listed : Array Bool} {L : Nat} (h : Bits n listed L) (j : Nat) (hj : j < n) : listed.getD j true = L.testBit j := by
  have := h.get j hj
  have hs : j < listed.size := by rw [h.size]; exact hj
  simp [hs] at this ⊢
  exact this
theorem Bits.set {n : Nat} {listed : Array Bool} {L i : Nat} (h : Bits n listed L) : Bits n (listed.setIfInBounds i true) (L ||| (1 <<< i)) := by
  refine ⟨by simp [h.size], fun j hj => ?_⟩
  rw [Nat.testBit_or, Nat.one_shiftLeft, Nat.testBit_two_pow, ← h.get j hj]
  by_cases hij : i = j
  · subst hij
    have hs : i < listed.size := by rw [h.size]; exact hj
    simp [hs]
  · rw [getD_set_ne false hij]
    simp [hij]

theorem ready_of {i n L : Nat} {o : Oper} {listed : Array Bool} (hn : ops.size = n) (hb : Bits n listed L) (hi : ops[i]? = some o) (hL : L.testBit i = false) (hd : (bitsOf (depsOf o) &&& L) = bitsOf (depsOf o)) (hlt : ∀ j, L.testBit j = true → j < n) :
    i ∈ Region.ready .any ops listed := by
  have hin : i < n := by rw [← hn]; exact (Array.getElem?_eq_some_iff.1 hi).1
  refine mem_ready.2 ⟨by rw [hb.getT i hin]; exact hL, o, hi, fun e he hbnd => ?_⟩
  have h1 : L.testBit e.on = true := and_eq_sub hd e.on (by
    rw [bitsOf_test, decide_eq_true_iff]
    simp only [depsOf, List.mem_map, List.mem_filter]
    exact ⟨e, ⟨by simpa using he, hbnd⟩, rfl⟩)
  rw [hb.get _ (hlt _ h1)]
  exact h1
theorem deps_of_ready {j n L : Nat} {o : Oper} {listed : Array Bool} (hn : ops.size = n) (hb : Bits n listed L) (ho : ops[j]? = some o) (h : j ∈ Region.ready .any ops listed) : L.testBit j = false ∧ (bitsOf (depsOf o) &&& L) = bitsOf (depsOf o) := by
  obtain ⟨h1, o', ho', hall⟩ := mem_ready.1 h
  have : o' = o := Option.some.inj (ho'.symm.trans ho)
  subst this
  have hin : j < n := by rw [← hn]; exact (Array.getElem?_eq_some_iff.1 ho).1
  refine ⟨by rw [← hb.getT j hin]; exact h1, sub_and_eq (fun k hk => ?_)⟩
  rw [bitsOf_test, decide_eq_true_iff] at hk
  simp only [depsOf, List.mem_map, List.mem_filter] at hk
  obtain ⟨e, ⟨he, hbnd⟩, rfl⟩ := hk
  have h2 := hall e (by simpa using he) hbnd
  have hlt : e.on < n := by
    rcases Nat.lt_or_ge e.on n with h' | h'
    · exact h'
    · exfalso
      rw [← hb.size] at h'
      simp [Array.getElem?_eq_none h'] at h2
  rw [← hb.get _ hlt]
  exact h2

theorem apart_of {x y : Oper} (h1 : (bitsOf x.dst.toList &&& bitsOf (y.looksAt ops)) = 0) (h2 : (bitsOf x.dst.toList &&& bitsOf y.dst.toList) = 0) (h3 : (bitsOf y.dst.toList &&& bitsOf (x.looksAt ops)) = 0) : x.apart ops y = true := by
  unfold Oper.apart
  rw [Bool.and_eq_true]
  constructor
  · cases hx : x.dst with
    | none => rfl
    | some d =>
      rw [hx] at h1 h2
      simp only [Bool.and_eq_true, Bool.not_eq_true', bne_iff_ne, ne_eq]
      refine ⟨?_, fun hy => ?_⟩
      · cases hc : (y.looksAt ops).contains d with
        | false => rfl
        | true => exact (and_zero_of h1 d (by rw [bitsOf_test]; simp) (by rw [bitsOf_test]; simpa using hc)).elim
      · exact and_zero_of h2 d (by rw [bitsOf_test]; simp) (by rw [bitsOf_test, hy]; simp)
  · cases hy : y.dst with
    | none => rfl
    | some d =>
      rw [hy] at h3
      simp only [Bool.not_eq_true']
      cases hc : (x.looksAt ops).contains d with
      | false => rfl
      | true => exact (and_zero_of h3 d (by rw [bitsOf_test]; simp) (by rw [bitsOf_test]; simpa using hc)).elim

theorem row_mem {T : List (Nat × Nat × Nat)} (hT : ops.toList.map (rowOf ops) = T) {j : Nat} {o : Oper} (ho : ops[j]? = some o) : (rowOf ops o, j) ∈ T.zipIdx := by
  rw [List.mem_zipIdx_iff_getElem?, ← hT, List.getElem?_map]
  simp only
  rw [Array.getElem?_toList, ho]; rfl

/-- what has come up waited for nothing that has not -/
def Closed (ops : Array Oper) (listed : Array Bool) : Prop := ∀ (k : Nat) (ok : Oper), ops[k]? = some ok → listed.getD k false = true → ∀ e ∈ ok.after, Region.binds .any e = true → listed.getD e.on false = true
theorem Closed.set {listed : Array Bool} {i : Nat} (h : Closed ops listed) (hi : i ∈ Region.ready .any ops listed) : Closed ops (listed.setIfInBounds i true) := by
  intro k ok hk hl e he hb
  obtain ⟨_, oi, hoi, hall⟩ := mem_ready.1 hi
  have keep : ∀ m, listed.getD m false = true → (listed.setIfInBounds i true).getD m false = true := fun m hm => by
    by_cases him : i = m
    · subst him
      rcases Nat.lt_or_ge i listed.size with h' | h'
      · simp [h']
      · simp [Array.getElem?_eq_none h'] at hm
    · rw [getD_set_ne false him]; exact hm
  by_cases hik : i = k
  · subst hik
    have : ok = oi := Option.some.inj (hk.symm.trans hoi)
    subst this
    exact keep _ (hall e he hb)
  · rw [getD_set_ne false hik] at hl
    exact keep _ (h k ok hk hl e he hb)
def ReachP (ops : Array Oper) (i : Nat) : Nat → Oper → Prop
  | 0, o => ∃ e ∈ o.after, Region.binds .any e = true ∧ e.on = i
  | n + 1, o => (∃ e ∈ o.after, Region.binds .any e = true ∧ e.on = i) ∨ ∃ e ∈ o.after, Region.binds .any e = true ∧ ∃ o', ops[e.on]? = some o' ∧ ReachP ops i n o'
theorem reach_listed {listed : Array Bool} {i : Nat} (h : Closed ops listed) : ∀ (n : Nat) (o : Oper), ReachP ops i n o → (∀ e ∈ o.after, Region.binds .any e = true → listed.getD e.on false = true) → listed.getD i false = true
  | 0, _, ⟨e, he, hb, hi⟩, hd => by rw [← hi]; exact hd e he hb
  | n + 1, _, Or.inl ⟨e, he, hb, hi⟩, hd => by rw [← hi]; exact hd e he hb
  | n + 1, _, Or.inr ⟨e, he, hb, o', ho', hr⟩, hd => reach_listed h n o' hr (fun e' he' hb' => h e.on o' ho' (hd e he hb) e' he' hb')
theorem test_deps {o : Oper} {j : Nat} (h : (bitsOf (depsOf o)).testBit j = true) : ∃ e ∈ o.after, Region.binds .any e = true ∧ e.on = j := by
  rw [bitsOf_test, decide_eq_true_iff] at h
  simp only [depsOf, List.mem_map, List.mem_filter] at h
  obtain ⟨e, ⟨he, hbnd⟩, heq⟩ := h
  exact ⟨e, by simpa using he, hbnd, heq⟩
theorem row_get {T : List (Nat × Nat × Nat)} (hT : ops.toList.map (rowOf ops) = T) {x : (Nat × Nat × Nat) × Nat} (hx : x ∈ T.zipIdx) : ∃ o, ops[x.2]? = some o ∧ x.1 = rowOf ops o := by
  rw [List.mem_zipIdx_iff_getElem?, ← hT, List.getElem?_map, Array.getElem?_toList] at hx
  cases ho : ops[x.2]? with
  | none => rw [ho] at hx; cases hx
  | some o => rw [ho] at hx; exact ⟨o, rfl, (Option.some.inj hx).symm⟩
theorem reachP_of {T : List (Nat × Nat × Nat)} (hT : ops.toList.map (rowOf ops) = T) {i : Nat} : ∀ (n : Nat) (o : Oper), reachB T.zipIdx i n (bitsOf (depsOf o)) = true → ReachP ops i n o
  | 0, o, h => test_deps h
  | n + 1, o, h => by
    simp only [reachB, Bool.or_eq_true, List.any_eq_true, Bool.and_eq_true] at h
    rcases h with h | ⟨x, hx, h1, h2⟩
    · exact Or.inl (test_deps h)
    · obtain ⟨o', ho', hrow⟩ := row_get hT hx
      obtain ⟨e, he, hb, hon⟩ := test_deps h1
      rw [hrow] at h2
      exact Or.inr ⟨e, he, hb, o', by rw [hon]; exact ho', reachP_of hT n o' h2⟩

/-- Whatever order is picked from here on; S holds behind every operation that is carried out, those of ds apart. -/
def wpAnyD (P : Program) (ops : Array Oper) (Q : Exit → Act → World → Prop) (S : World → Prop) (ds : Nat) : Nat → Array Bool → Act → World → Prop
  | 0, listed, a, w => Region.ready .any ops listed = [] ∧ Q .normal a w
  | fuel + 1, listed, a, w => (Region.ready .any ops listed = [] → Q .normal a w) ∧
    ∀ i ∈ Region.ready .any ops listed, wpOp P ops Q i (fun a' w' => (ds.testBit i = false → S w') ∧ wpAnyD P ops Q S ds fuel (listed.setIfInBounds i true) a' w') a w
theorem wpAny_of_d {ds : Nat} : ∀ (fuel : Nat) (listed : Array Bool) (a : Act) (w : World), wpAnyD P ops Q S ds fuel listed a w → wpAny P .any ops Q fuel listed a w
  | 0, _, _, _, h => h
  | fuel + 1, _, _, _, h => ⟨h.1, fun i hi => wpOp_mono (fun _ _ h' => wpAny_of_d fuel _ _ _ h'.2) (h.2 i hi)⟩

/-- A free operation may be taken first: every other one that has not come up waits for it or is apart from it, and the last ones wait for it. -/
theorem wpAnyD_first {ds i : Nat} {oi : Oper} {v : Value} (hi : ops[i]? = some oi) (hsel : ∀ (j : Nat) (o : Oper) cs b, ops[j]? = some o → o.op ≠ .select cs b)
    (hQ : ∀ c a w, Q (.panic c) (a.put oi.dst v) w → Q (.panic c) a w) (hdi : ds.testBit i = false) : ∀ (fuel : Nat) (listed : Array Bool) (a : Act) (w : World),
    (∀ j oj, ops[j]? = some oj → j ≠ i → listed.getD j true = false → (∀ e ∈ oj.after, Region.binds .any e = true → e.on ≠ i) → (oi.apart ops oj = true ∧ ds.testBit j = false) ∨ ReachP ops i 6 oj) → Closed ops listed →
    i ∈ Region.ready .any ops listed → YieldsIf P ops S oi v a → S w →
    wpAnyD P ops Q S ds fuel (listed.setIfInBounds i true) (a.put oi.dst v) w → wpAnyD P ops Q S ds (fuel + 1) listed a w := by
  intro fuel
  induction fuel with
  | zero =>
    intro listed a w _ _ hr hy hS H
    refine ⟨fun h => (by rw [h] at hr; cases hr), fun j hj => ?_⟩
    by_cases hji : j = i
    · subst hji; exact hy.wpOp hi hS ⟨fun _ => hS, H⟩
    · have := ready_mono hj hji
      rw [H.1] at this
      cases this
  | succ fuel ih =>
    intro listed a w hfree hcl hr hy hS H
    refine ⟨fun h => (by rw [h] at hr; cases hr), fun j hj => ?_⟩
    by_cases hji : j = i
    · subst hji; exact hy.wpOp hi hS ⟨fun _ => hS, H⟩
    · have h1 := H.2 j (ready_mono hj hji)
      obtain ⟨hjun, oj, hoj, hall⟩ := mem_ready.1 hj
      have hnot : ∀ e ∈ oj.after, Region.binds .any e = true → e.on ≠ i := fun e he hb heq => by
        have h1 := hall e he hb
        have h0 := (mem_ready.1 hr).1
        rw [heq] at h1
        rcases Nat.lt_or_ge i listed.size with h' | h'
        · simp [h'] at h0 h1; rw [h0] at h1; cases h1
        · simp [Array.getElem?_eq_none h'] at h1
      have hiun : listed.getD i false = false := by
        have h0 := (mem_ready.1 hr).1
        rcases Nat.lt_or_ge i listed.size with h' | h'
        · simp [h'] at h0 ⊢; exact h0
        · simp [Array.getElem?_eq_none h'] at h0
      obtain ⟨hap, hdj⟩ := (hfree j oj hoj hji hjun hnot).resolve_right (fun hre => by
        rw [reach_listed hcl 6 oj hre hall] at hiun; cases hiun)
      have h2 := wpOp_putIf hoj hap (fun cs b => hsel i oi cs b hi) (fun cs b => hsel j oj cs b hoj) hQ hy h1
      have hfree' : ∀ k ok, ops[k]? = some ok → k ≠ i → (listed.setIfInBounds j true).getD k true = false →
          (∀ e ∈ ok.after, Region.binds .any e = true → e.on ≠ i) → (oi.apart ops ok = true ∧ ds.testBit k = false) ∨ ReachP ops i 6 ok := fun k ok hk hki hun hno => by
        refine hfree k ok hk hki ?_ hno
        by_cases hjk : j = k
        · subst hjk; exact hjun
        · rw [getD_set_ne true hjk] at hun; exact hun
      refine wpOp_mono (fun a' w' h3 => ⟨h3.2.1, ih (listed.setIfInBounds j true) a' w' hfree' (hcl.set hj) (ready_mono hr (Ne.symm hji)) h3.1 (h3.2.1 hdj) ?_⟩) h2
      rw [Array.setIfInBounds_comm _ _ hji]
      exact h3.2.2

/-- The walk in the given order. -/
def wpMix (P : Program) (ops : Array Oper) (Q : Exit → Act → World → Prop) (S : World → Prop) : List (Option Oper × Nat) → Act → World → Prop
  | [], a, w => Q .normal a w
  | (none, _) :: _, _, _ => False
  | (some o, 0) :: r, a, w => if Region.wanted o (yielded ops a.tmps) = true then ∃ v, (∀ w', S w' → (execOp a.eval o).run P w' = .ok (.value v) w') ∧ wpMix P ops Q S r (a.put o.dst v) w else wpMix P ops Q S r (a.put o.dst undef) w
  | (some o, 1) :: r, a, w => if Region.wanted o (yielded ops a.tmps) = true then o.wp P a w (fun a' w' => S w' ∧ (S w' → wpMix P ops Q S r a' w')) Q else wpMix P ops Q S r (a.put o.dst undef) w
  | (some o, _ + 2) :: r, a, w => if Region.wanted o (yielded ops a.tmps) = true then o.wp P a w (wpMix P ops Q S r) Q else wpMix P ops Q S r (a.put o.dst undef) w

theorem mix_nil {a : Act} {w : World} (h : Q .normal a w) : wpMix P ops Q S [] a w := h
theorem mix_free {o : Oper} {r : List (Option Oper × Nat)} {a : Act} {w : World}
    (h : ∀ K : Act → Prop, (∀ a, wpMix P ops Q S r a w → K a) → if Region.wanted o (yielded ops a.tmps) = true then ∃ v, (∀ w', S w' → (execOp a.eval o).run P w' = .ok (.value v) w') ∧ K (a.put o.dst v) else K (a.put o.dst undef)) :
    wpMix P ops Q S ((some o, 0) :: r) a w := h _ (fun _ h => h)
theorem mix_forced {o : Oper} {r : List (Option Oper × Nat)} {a : Act} {w : World}
    (h : ∀ K : Act → World → Prop, Shut (∀ a w, S w → (S w → wpMix P ops Q S r a w) → K a w) → if Region.wanted o (yielded ops a.tmps) = true then o.wp P a w K Q else K (a.put o.dst undef) w) (hS : S w) :
    wpMix P ops Q S ((some o, 1) :: r) a w := by
  have h1 := h (fun a' w' => S w' ∧ (S w' → wpMix P ops Q S r a' w')) (fun a w hs hw => ⟨hs, hw⟩)
  show if _ then _ else _
  split
  · rename_i hw; rw [if_pos hw] at h1; exact h1
  · rename_i hw; rw [if_neg hw] at h1; exact h1.2 hS
theorem mix_last {o : Oper} {r : List (Option Oper × Nat)} {a : Act} {w : World}
    (h : ∀ K : Act → World → Prop, Shut (∀ a w, wpMix P ops Q S r a w → K a w) → if Region.wanted o (yielded ops a.tmps) = true then o.wp P a w K Q else K (a.put o.dst undef) w) :
    wpMix P ops Q S ((some o, 2) :: r) a w := h (wpMix P ops Q S r) (fun _ _ h => h)

theorem wpAnyD_fast {n ds : Nat} {T : List (Nat × Nat × Nat)} (hT : ops.toList.map (rowOf ops) = T) (hn : ops.size = n) (hsel : Region.noSelect ops = true) (hQ : ∀ c d v (a : Act) w, Q (.panic c) (a.put d v) w → Q (.panic c) a w) :
    ∀ (ord : List (Nat × Nat × (Nat × Nat × Nat))) (listed : Array Bool) (L : Nat) (a : Act) (w : World), Closed ops listed → Bits n listed L → (∀ j, L.testBit j = true → j < n) → (∀ p ∈ ord, T[p.1]? = some p.2.2) →
    fastB n T.zipIdx ds ord L = true → (S w ∨ (ord.all fun p => p.2.1 == 2) = true) → wpMix P ops Q S (ord.map fun p => (ops[p.1]?, p.2.1)) a w → wpAnyD P ops Q S ds ord.length listed a w
  | [], listed, L, a, w, _, hb, hlt, hr, hB, hS, h => by
    refine ⟨?_, h⟩
    refine List.eq_nil_iff_forall_not_mem.2 (fun j hj => ?_)
    obtain ⟨h1, o, ho, _⟩ := mem_ready.1 hj
    have hin : j < n := by rw [← hn]; exact (Array.getElem?_eq_some_iff.1 ho).1
    rw [hb.getT j hin] at h1
    simp only [fastB, beq_iff_eq] at hB
    rw [hB, Nat.testBit_two_pow_sub_one] at h1
    simp [hin] at h1
  | (i, b, ri) :: r, listed, L, a, w, hcl, hb, hlt, hr, hB, hS, h => by
    simp only [List.map_cons] at h
    have hri := hr _ (List.mem_cons_self ..)
    simp only at hri
    have hr' : ∀ p ∈ r, T[p.1]? = some p.2.2 := fun p hp => hr p (List.mem_cons_of_mem _ hp)
    cases hi : ops[i]? with
    | none => rw [hi] at h; exact h.elim
    | some o =>
      rw [hi] at h
      have hin : i < n := by rw [← hn]; exact (Array.getElem?_eq_some_iff.1 hi).1
      have hro : ri = rowOf ops o := by
        rw [← hT, List.getElem?_map, Array.getElem?_toList, hi] at hri
        simpa using hri.symm
      subst hro
      simp only [fastB, stepB, Bool.and_eq_true, Bool.not_eq_true', beq_iff_eq, List.all_eq_true, Bool.or_eq_true, decide_eq_true_eq] at hB
      obtain ⟨⟨⟨hb2, ⟨⟨hLi, hdeps⟩, hds⟩, hall⟩, h2s⟩, hrest⟩ := hB
      have hready := ready_of hn hb hi hLi hdeps hlt
      have hb' := hb.set (i := i)
      have hlt' : ∀ j, (L ||| (1 <<< i)).testBit j = true → j < n := fun j hj => by
        rw [Nat.testBit_or, Nat.one_shiftLeft, Nat.testBit_two_pow, Bool.or_eq_true, decide_eq_true_eq] at hj
        rcases hj with hj | hj
        · exact hlt j hj
        · omega
      match b, hb2, hds, hall, h2s, hS, h with
      | 0, _, hds, hall, h2s, hS, h =>
        have hdi : ds.testBit i = false := by rw [hds]; rfl
        have hSw : S w := by
          rcases hS with hS | hS
          · exact hS
          · simp at hS
        have hfree : ∀ j oj, ops[j]? = some oj → j ≠ i → listed.getD j true = false → (∀ e ∈ oj.after, Region.binds .any e = true → e.on ≠ i) → (o.apart ops oj = true ∧ ds.testBit j = false) ∨ ReachP ops i 6 oj := fun j oj hoj hne hun hno => by
          have hjn : j < n := by rw [← hn]; exact (Array.getElem?_eq_some_iff.1 hoj).1
          rw [hb.getT j hjn] at hun
          have h3 := hall _ (row_mem hT hoj)
          simp only [if_true, Bool.or_eq_true, Bool.and_eq_true, beq_iff_eq, Bool.not_eq_true'] at h3
          rcases h3 with (h3 | h3) | h3
          · exact absurd h3 hne
          · rw [hun] at h3; cases h3
          · rcases h3 with (h3 | ⟨_, h3⟩) | ⟨h7, ⟨h4, h5⟩, h6⟩
            · exfalso
              simp only [rowOf] at h3
              rw [bitsOf_test, decide_eq_true_iff] at h3
              simp only [depsOf, List.mem_map, List.mem_filter] at h3
              obtain ⟨e, ⟨he, hbnd⟩, heq⟩ := h3
              exact hno e (by simpa using he) hbnd heq
            · exact Or.inr (reachP_of hT 6 oj h3)
            · exact Or.inl ⟨apart_of h4 h5 h6, h7⟩
        change if _ then _ else _ at h
        by_cases hw : Region.wanted o (yielded ops a.tmps) = true
        · rw [if_pos hw] at h
          obtain ⟨v, hv, hrr⟩ := h
          exact wpAnyD_first hi (Region.noSelect_spec hsel) (fun c a w => hQ c _ _ a w) hdi _ listed a w hfree hcl hready (Or.inl ⟨hw, hv⟩) hSw (wpAnyD_fast hT hn hsel hQ r _ _ _ _ (hcl.set hready) hb' hlt' hr' hrest (Or.inl hSw) hrr)
        · rw [if_neg hw] at h
          exact wpAnyD_first hi (Region.noSelect_spec hsel) (fun c a w => hQ c _ _ a w) hdi _ listed a w hfree hcl hready (Or.inr ⟨by simpa using hw, rfl⟩) hSw (wpAnyD_fast hT hn hsel hQ r _ _ _ _ (hcl.set hready) hb' hlt' hr' hrest (Or.inl hSw) h)
      | m + 1, hb2, hds, hall, h2s, hS, h =>
        have honly : ∀ j ∈ Region.ready .any ops listed, j = i := fun j hj => by
          obtain ⟨_, oj, hoj, _⟩ := mem_ready.1 hj
          obtain ⟨h1, h2⟩ := deps_of_ready hn hb hoj hj
          have h3 := hall _ (row_mem hT hoj)
          have hne : ¬ (m + 1 = 0) := by omega
          simp only [hne, if_false, Bool.not_eq_true', beq_eq_false_iff_ne, ne_eq] at h3
          rcases h3 with (h3 | h3) | h3
          · exact h3
          · rw [h1] at h3; cases h3
          · exact absurd h2 h3
        refine ⟨fun h0 => (by rw [h0] at hready; cases hready), fun j hj => ?_⟩
        have hji := honly j hj
        subst hji
        match m, hb2, hds, h2s, hS, h with
        | 0, _, hds, h2s, hS, h =>
          have hSw : S w := by
            rcases hS with hS | hS
            · exact hS
            · simp at hS
          have h2 : wpOp P ops Q j (fun a' w' => S w' ∧ (S w' → wpMix P ops Q S (r.map fun p => (ops[p.1]?, p.2.1)) a' w')) a w := by
            unfold wpOp
            simp only [hi]
            change if _ then _ else _ at h
            split
            · rename_i hw; rw [if_pos hw] at h; exact Or.inl h
            · rename_i hw; rw [if_neg hw] at h; exact ⟨hSw, fun _ => h⟩
          exact wpOp_mono (fun a' w' h3 => ⟨fun _ => h3.1, wpAnyD_fast hT hn hsel hQ r _ _ a' w' (hcl.set hready) hb' hlt' hr' hrest (Or.inl h3.1) (h3.2 h3.1)⟩) h2
        | m + 1, hb2, hds, h2s, hS, h =>
          have hall2 : (r.all fun p => p.2.1 == 2) = true ∧ ds.testBit j = true := by
            have hm : m + 1 + 1 = 2 := by omega
            refine ⟨?_, by rw [hds, hm]; rfl⟩
            rcases h2s with h2s | h2s
            · rw [hm] at h2s; simp at h2s
            · simpa using h2s
          have h2 : wpOp P ops Q j (wpMix P ops Q S (r.map fun p => (ops[p.1]?, p.2.1))) a w := by
            unfold wpOp
            simp only [hi]
            change if _ then _ else _ at h
            split
            · rename_i hw; rw [if_pos hw] at h; exact Or.inl h
            · rename_i hw; rw [if_neg hw] at h; exact h
          exact wpOp_mono (fun a' w' h3 => ⟨fun hno => (by rw [hall2.2] at hno; cases hno), wpAnyD_fast hT hn hsel hQ r _ _ a' w' (hcl.set hready) hb' hlt' hr' hrest (Or.inr hall2.1) h3⟩) h2

/-- THE REGION. T: the rows of its operations; ord: the order, each with its kind and its row; ds: the bits of the last ones. -/
theorem wp_region_fast {id : Nat} {a : Act} {w : World} {l : List Oper} (T : List (Nat × Nat × Nat)) (ord : List (Nat × Nat × (Nat × Nat × Nat))) (ds : Nat) (hm : P.follows .mixedOrders = true)
    (hT : (l.map (rowOf l.toArray) == T) = true)
    (hB : (Region.noSelect l.toArray && (ord.length == l.length && (ord.all (fun p => T[p.1]? == some p.2.2) && fastB l.length T.zipIdx ds ord 0))) = true)
    (hQ : ∀ c d v (a : Act) w, Q (.panic c) (a.put d v) w → Q (.panic c) a w) (hS : S w.drew)
    (h : wpMix P l.toArray Q S (ord.map fun p => (l[p.1]?, p.2.1)) a w.drew) : (Code.region id l.toArray true).wp P Q a w := by
  simp only [Bool.and_eq_true, beq_iff_eq, List.all_eq_true] at hB hT
  obtain ⟨h1, h2, h3, h4⟩ := hB
  refine wp_region_any hm (wpAny_of_d (S := S) (ds := ds) _ _ _ _ ?_)
  rw [show l.toArray.size = ord.length by rw [h2]; simp]
  refine wpAnyD_fast (n := l.length) (by simpa using hT) (by simp) h1 hQ ord _ 0 a _ (fun k ok _ hl => ?_) ⟨by simp [h2], fun j hj => ?_⟩ (fun j hj => by simp at hj) (fun p hp => h3 p hp) h4 (Or.inl hS) (by simpa using h)
  · exfalso
    rcases Nat.lt_or_ge k ord.length with h | h
    · simp [h] at hl
    · simp [h] at hl
  · rcases Nat.lt_or_ge j ord.length with h | h
    · simp [h]
    · simp [h]
end
end Go.Proofs.Ytjhdhnkikgmpoaa
