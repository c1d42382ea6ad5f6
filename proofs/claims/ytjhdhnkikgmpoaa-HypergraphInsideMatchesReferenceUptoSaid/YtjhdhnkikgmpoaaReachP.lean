/- What the loops of Reachable hold, in plain Lean. -/
import Derived.Test.YtjhdhnkikgmpoaaEdges
import Derived.WalkSmall
namespace Go.Proofs.Ytjhdhnkikgmpoaa
open Go.RowKit Go.Deep

theorem mem_idx {es : List Ed} {i k : Nat} {v : Int} : (i : Int) ∈ idx es k v ↔ i < k ∧ ∃ e, es[i]? = some e ∧ e.head = v := by
  unfold idx
  rw [List.mem_map]
  constructor
  · rintro ⟨⟨e, j⟩, hp, hij⟩
    rw [List.mem_filter] at hp
    obtain ⟨h1, h2⟩ := hp
    rw [List.mem_zipIdx_iff_getElem?] at h1
    simp only at h1 hij h2
    have : j = i := by omega
    subst this
    rw [List.getElem?_take] at h1
    split at h1
    · rename_i hlt
      exact ⟨hlt, e, h1, by simpa using h2⟩
    · cases h1
  · rintro ⟨h1, e, h2, h3⟩
    refine ⟨(e, i), List.mem_filter.2 ⟨?_, by simpa using h3⟩, rfl⟩
    rw [List.mem_zipIdx_iff_getElem?]
    simp only
    rw [List.getElem?_take, if_pos h1, h2]
theorem idx_nat {es : List Ed} {k : Nat} {v x : Int} (h : x ∈ idx es k v) : ∃ i : Nat, x = i ∧ i < k ∧ ∃ e, es[i]? = some e ∧ e.head = v := by
  have h0 := h
  unfold idx at h
  rw [List.mem_map] at h
  obtain ⟨⟨e, j⟩, _, hij⟩ := h
  simp only at hij
  subst hij
  exact ⟨j, rfl, mem_idx.1 h0⟩

/-- what the loops of Reachable hold: every edge whose head is found waits on the stack, is closed, or belongs to v and is not among those done -/
structure RInv (es : List Ed) (root : Int) (n : Nat) (bs : List Bool) (td : List Int) (v : Int) (dn : List Int) : Prop where
  len : bs.length = n
  sound : SoundR bs es root
  rt : inB bs root = true
  stack : ∀ t ∈ td, 0 ≤ t ∧ t < n ∧ inB bs t = true
  edge : ∀ (i : Nat) e, es[i]? = some e → inB bs e.head = true → e.head ∈ td ∨ (∀ t ∈ e.tails, inB bs t = true) ∨ (e.head = v ∧ (i : Int) ∉ dn)
theorem RInv.pop {es : List Ed} {root : Int} {n : Nat} {bs : List Bool} {td : List Int} {v : Int} (h : RInv es root n bs (td ++ [v]) (-1) []) (h0 : ∀ e ∈ es, 0 ≤ e.head) : RInv es root n bs td v [] ∧ 0 ≤ v ∧ v < n ∧ inB bs v = true := by
  have hv := h.stack v (by simp)
  refine ⟨⟨h.len, h.sound, h.rt, fun t ht => h.stack t (by simp [ht]), fun i e hi hb => ?_⟩, hv⟩
  rcases h.edge i e hi hb with h1 | h1 | h1
  · rcases List.mem_append.1 h1 with h1 | h1
    · exact Or.inl h1
    · exact Or.inr (Or.inr ⟨by simpa using h1, by simp⟩)
  · exact Or.inr (Or.inl h1)
  · have := h0 e (List.mem_of_getElem? hi)
    omega
theorem RInv.done {es : List Ed} {root : Int} {n : Nat} {bs : List Bool} {td : List Int} {v : Int} (h : RInv es root n bs td v (idx es es.length v)) : RInv es root n bs td (-1) [] := by
  refine ⟨h.len, h.sound, h.rt, h.stack, fun i e hi hb => ?_⟩
  rcases h.edge i e hi hb with h1 | h1 | ⟨h1, h2⟩
  · exact Or.inl h1
  · exact Or.inr (Or.inl h1)
  · exact absurd (mem_idx.2 ⟨(List.getElem?_eq_some_iff.1 hi).1, e, hi, h1⟩) h2
theorem RInv.push {es : List Ed} {root : Int} {n : Nat} {bs : List Bool} {td : List Int} {v : Int} {dn : List Int} (h : RInv es root n bs td v dn) (h0 : ∀ e ∈ es, 0 ≤ e.head ∧ ∀ t ∈ e.tails, 0 ≤ t) {E : Ed} {t : Nat} (hE : E ∈ es) (hh : inB bs E.head = true)
    (ht : (t : Int) ∈ E.tails) (hl : t < bs.length) (hr : 0 ≤ root) : RInv es root n (bs.set t true) (td ++ [(t : Int)]) v dn := by
  have mono : ∀ x, 0 ≤ x → inB bs x = true → inB (bs.set t true) x = true := fun x hx hb => inB_set_mono hl hx hb
  refine ⟨by simpa using h.len, soundR_set h.sound hE (h0 E hE).1 hh ht hl, mono _ hr h.rt, fun x hx => ?_, fun i e hi hb => ?_⟩
  · rcases List.mem_append.1 hx with hx | hx
    · obtain ⟨a, b, c⟩ := h.stack x hx
      exact ⟨a, b, mono x a c⟩
    · rw [List.mem_singleton] at hx
      subst hx
      refine ⟨by omega, by have := h.len; omega, ?_⟩
      rw [inB_set _ _ _ hl (by omega)]
      simp
  · have he := h0 e (List.mem_of_getElem? hi)
    rw [inB_set _ _ _ hl he.1, Bool.or_eq_true, decide_eq_true_eq] at hb
    rcases hb with hb | hb
    · exact Or.inl (by rw [hb]; simp)
    · rcases h.edge i e hi hb with h1 | h1 | h1
      · exact Or.inl (by simp [h1])
      · exact Or.inr (Or.inl fun x hx => mono x (he.2 x hx) (h1 x hx))
      · exact Or.inr (Or.inr h1)
theorem RInv.close {es : List Ed} {root : Int} {n : Nat} {bs : List Bool} {td : List Int} {v : Int} {dn : List Int} (h : RInv es root n bs td v dn) {i : Nat} {E : Ed} (hE : es[i]? = some E) (hc : ∀ t ∈ E.tails, inB bs t = true) : RInv es root n bs td v (dn ++ [(i : Int)]) := by
  refine ⟨h.len, h.sound, h.rt, h.stack, fun j e hj hb => ?_⟩
  rcases h.edge j e hj hb with h1 | h1 | ⟨h1, h2⟩
  · exact Or.inl h1
  · exact Or.inr (Or.inl h1)
  · by_cases hij : j = i
    · subst hij
      have : e = E := Option.some.inj (hj.symm.trans hE)
      subst this
      exact Or.inr (Or.inl hc)
    · exact Or.inr (Or.inr ⟨h1, fun hm => by
        rcases List.mem_append.1 hm with hm | hm
        · exact h2 hm
        · rw [List.mem_singleton] at hm; omega⟩)
theorem RInv.final {es : List Ed} {root : Int} {n : Nat} {bs : List Bool} (h : RInv es root n bs [] (-1) []) (h0 : ∀ e ∈ es, 0 ≤ e.head) : bs = reachL n es root := by
  refine reachL_of h.len h.sound h.rt (fun e he hb => ?_)
  obtain ⟨i, hi, hie⟩ := List.mem_iff_getElem.1 he
  rcases h.edge i e (by rw [List.getElem?_eq_getElem hi, hie]) hb with h1 | h1 | h1
  · cases h1
  · exact h1
  · have := h0 e he; omega
theorem RInv.start {es : List Ed} {n r : Nat} (hr : r < n) (h0 : ∀ e ∈ es, 0 ≤ e.head) : RInv es r n ((List.replicate n false).set r true) [(r : Int)] (-1) [] := by
  have hl : r < (List.replicate n false).length := by simpa using hr
  refine ⟨by simp, soundR_root, by rw [inB_set _ _ _ hl (by omega)]; simp, fun t ht => ?_, fun i e hi hb => ?_⟩
  · rw [List.mem_singleton] at ht
    subst ht
    exact ⟨by omega, by omega, by rw [inB_set _ _ _ hl (by omega)]; simp⟩
  · rw [inB_set _ _ _ hl (h0 e (List.mem_of_getElem? hi)), Bool.or_eq_true, decide_eq_true_eq] at hb
    rcases hb with hb | hb
    · exact Or.inl (by simp [hb])
    · obtain ⟨m, hm⟩ := Int.eq_ofNat_of_zero_le (h0 e (List.mem_of_getElem? hi))
      rw [hm, inB_nat, List.getD_eq_getElem?_getD, List.getElem?_replicate] at hb
      split at hb <;> simp at hb

/-- the memory of Reachable: the set, the stack behind block T, and between them what edges made -/
structure RMem (W0 WE : World) (g B n : Nat) (bs : List Bool) (tv : Value) (td : List Int) (wr : World) : Prop where
  st : InSt W0 g n bs wr
  own : wr.ownsRow WE.heap.size 3 1 tv td.length (td.map (.int .i64))
  mid : ∀ k, B ≤ k → k < WE.heap.size → wr.heap[k]? = WE.heap[k]?
  le : WE.heap.size ≤ wr.heap.size
theorem RMem.set {W0 WE : World} {g B n : Nat} {bs : List Bool} {tv : Value} {td : List Int} {wr : World} (h : RMem W0 WE g B n bs tv td wr) (hgB : g < B) (hB : B ≤ WE.heap.size) (j : Nat) (b : Bool) : RMem W0 WE g B n (bs.set j b) tv td (wr.setCell ⟨g, j, none⟩ (.bool b)) := by
  have h2 := (World.ownsRow.stored h.st.own j (.bool b)).2
  exact ⟨h.st.set j b, ownsRow_setCell_below h.own (show g < WE.heap.size by omega) _, fun k h3 h4 => (h2.block k (by have := h.le; omega) (fun e => by cases e; omega)).trans (h.mid k h3 h4), Nat.le_trans h.le h2.size⟩
theorem RMem.push {W0 WE : World} {g B n : Nat} {bs : List Bool} {tv tv' : Value} {td : List Int} {wr w1 w2 : World} {x : Int} (h : RMem W0 WE g B n bs tv td wr) (hg0 : g < WE.heap.size) (h1 : wr.grownBy w1 none) (hg : w1.grownBy w2 tv.ownBlock)
    (ho : w2.ownsRow WE.heap.size 3 1 tv' (td.length + 1) (td.map (.int .i64) ++ [.int .i64 x])) : RMem W0 WE g B n bs tv' (td ++ [x]) w2 := by
  have h2 : wr.grownBy w2 tv.ownBlock := grown_trans (grown_any h1) hg
  have hlt : ∀ k, tv.ownBlock = some k → WE.heap.size ≤ k := fun k hk => (World.ownsRow.lt h.own k hk).1
  have hle := h.le
  refine ⟨⟨World.ownsRow.kept h.st.own h2 (Or.inr fun e => ?_), h.st.below.trans ⟨h2.os, h2.tape, h2.output, h2.size, fun k hk => h2.block k (by omega) (fun e => ?_)⟩, Nat.le_trans h.st.size h2.size⟩, by simpa using ho, fun k h3 h4 => (h2.block k (by omega) (fun e => ?_)).trans (h.mid k h3 h4), Nat.le_trans h.le h2.size⟩
  · have := hlt g e.symm; omega
  · have := hlt k e.symm; omega
  · have := hlt k e.symm; omega
theorem RMem.pop {W0 WE : World} {g B n gb cap : Nat} {bs : List Bool} {td : List Int} {v : Int} {wr : World} (h : RMem W0 WE g B n bs (.slice (some ⟨gb, 0, none⟩) (td.length + 1) cap) (td ++ [v]) wr) : RMem W0 WE g B n bs (.slice (some ⟨gb, 0, none⟩) td.length cap) td wr := by
  refine ⟨h.st, ownsRow_pop (last := [.int .i64 v]) (by simp) ?_, h.mid, h.le⟩
  simpa using h.own
theorem RMem.top {W0 WE : World} {g B n : Nat} {bs : List Bool} {tv : Value} {td : List Int} {v : Int} {wr : World} (h : RMem W0 WE g B n bs tv (td ++ [v]) wr) : ∃ gb cap, tv = .slice (some ⟨gb, 0, none⟩) (td.length + 1) cap ∧ td.length + 1 ≤ cap ∧ wr.cell? ⟨gb, td.length, none⟩ = some (.int .i64 v) := by
  have h1 := h.own
  have hl : (td ++ [v]).length = td.length + 1 := by simp
  rw [hl] at h1
  rcases h1.2 with ⟨_, h2⟩ | ⟨gb, cap, cur, hv, _, _, hc, _⟩
  · omega
  · refine ⟨gb, cap, hv, hc, ?_⟩
    rw [hv] at h1
    rw [World.ownsRow.cellAt h1 td.length (by omega)]
    simp

theorem GridAt.addr {w : World} {B : Nat} {A : Option Addr} {L : List (List Int)} (h : GridAt w B A L) (h0 : 0 < L.length) : ∃ b o, A = some ⟨b, o, none⟩ := by
  obtain ⟨b, o, _, _, hA, _⟩ := h.at h0
  exact ⟨b, o, hA⟩
theorem GridAt.cell {w : World} {B b o : Nat} {L : List (List Int)} (h : GridAt w B (some ⟨b, o, none⟩) L) {k : Nat} (hk : k < L.length) :
    ∃ Ak ck, B ≤ b ∧ b < w.heap.size ∧ w.cell? ⟨b, o + k, none⟩ = some (.slice Ak L[k].length ck) ∧ VRowB w B Ak (L[k].map (.int .i64)) := by
  obtain ⟨vs, h1, h2, h3⟩ := h
  obtain ⟨Ak, ck, h4, h5⟩ := h3 k hk
  rcases h2 with h2 | ⟨b', o', h6, hB, h7, h8⟩
  · subst h2; simp at h1; omega
  · cases h6
    have hkv : k < vs.length := by omega
    refine ⟨Ak, ck, hB, h7, ?_, h5⟩
    rw [h8 k hkv]
    rw [List.getElem?_eq_getElem hkv] at h4
    exact h4
theorem RMem.cell {W0 WE : World} {g B n : Nat} {bs : List Bool} {tv : Value} {td : List Int} {wr : World} (h : RMem W0 WE g B n bs tv td wr) {p : Addr} (h1 : B ≤ p.block) (h2 : p.block < WE.heap.size) : wr.cell? p = WE.cell? p :=
  World.cell?_of_block (w := WE) (h.mid p.block h1 h2)
theorem RMem.grid {W0 WE : World} {g B n : Nat} {bs : List Bool} {tv : Value} {td : List Int} {wr : World} {A : Option Addr} {L : List (List Int)} (h : RMem W0 WE g B n bs tv td wr) (hg : GridAt WE B A L) : GridAt wr B A L :=
  hg.keep h.mid h.le
theorem RMem.below {W0 WE : World} {g B n : Nat} {bs : List Bool} {tv : Value} {td : List Int} {wr : World} (h : RMem W0 WE g B n bs tv td wr) : Below g W0 wr := h.st.below
end Go.Proofs.Ytjhdhnkikgmpoaa
