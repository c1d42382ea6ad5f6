/- What the loops of Derivable hold, in plain Lean. -/
import Derived.Test.YtjhdhnkikgmpoaaOrd
namespace Go.Proofs.Ytjhdhnkikgmpoaa
open Go.RowKit Go.Deep

def tailsA (es : List Ed) (i : Nat) : List Int := (es[i]?.map (·.tails)).getD []
theorem tailsA_at (es : List Ed) (i : Nat) (h : i < es.length) : tailsA es i = es[i].tails := by simp [tailsA, h]
/-- each tail with its edge's number, in order -/
def occI (es : List Ed) (k : Nat) : List (Int × Int) := (List.range k).flatMap fun i => (tailsA es i).map fun t => (t, (i : Int))
theorem occI_step (es : List Ed) (k : Nat) : occI es (k + 1) = occI es k ++ (tailsA es k).map fun t => (t, (k : Int)) := by
  unfold occI
  rw [List.range_succ, List.flatMap_append]
  simp
theorem occI_len (es : List Ed) (k : Nat) (h : k ≤ es.length) : (occI es k).length ≤ (occ es).length := by
  have h1 : (occI es k).length = (occ (es.take k)).length := by
    induction k with
    | zero => simp [occI, occ]
    | succ k ih =>
      rw [occI_step, occ_step es k (by omega), List.length_append, List.length_append, ih (by omega), occE_len, tailsA_at es k (by omega)]
      simp
  rw [h1]
  exact occ_take_len es k
theorem usesO_append (A B : List (Int × Int)) (x : Int) : usesO (A ++ B) x = usesO A x ++ usesO B x := by
  unfold usesO
  rw [List.filter_append, List.map_append]
theorem usesO_mk (ts : List Int) (k x : Int) : usesO (ts.map fun t => (t, k)) x = List.replicate (ts.count x) k := by
  induction ts with
  | nil => rfl
  | cons t ts ih =>
    unfold usesO at ih ⊢
    rw [List.map_cons, List.filter_cons, List.count_cons]
    by_cases h : t = x
    · simp [h] at ih ⊢
      rw [ih, List.replicate_succ]
    · simp [h] at ih ⊢
      exact ih
theorem mem_occI {es : List Ed} {k : Nat} {t x : Int} (h : (t, x) ∈ occI es k) : ∃ i : Nat, x = i ∧ i < k ∧ t ∈ tailsA es i := by
  unfold occI at h
  rw [List.mem_flatMap] at h
  obtain ⟨i, hi, hp⟩ := h
  obtain ⟨t', ht', hq⟩ := List.mem_map.1 hp
  cases hq
  exact ⟨i, rfl, by simpa using hi, ht'⟩
theorem usesI_count (es : List Ed) (k : Nat) (v : Int) (i : Nat) (hi : i < k) : (usesO (occI es k) v).count (i : Int) = (tailsA es i).count v := by
  induction k with
  | zero => omega
  | succ k ih =>
    rw [occI_step, usesO_append, usesO_mk, List.count_append, List.count_replicate]
    by_cases h : i = k
    · subst h
      have h0 : (usesO (occI es i) v).count (i : Int) = 0 := by
        rw [List.count_eq_zero]
        intro hm
        obtain ⟨j, hj, hjk, _⟩ := mem_occI (mem_usesO.1 hm)
        omega
      rw [h0]
      simp
    · rw [ih (by omega)]
      have : ¬ ((k : Int) = (i : Int)) := by omega
      simp [this]
theorem count_split (ts ps : List Int) (v : Int) (h : v ∉ ps) : ts.countP (fun t => !ps.contains t) = ts.countP (fun t => !(v :: ps).contains t) + ts.count v := by
  induction ts with
  | nil => rfl
  | cons t ts ih =>
    rw [List.countP_cons, List.countP_cons, List.count_cons, ih]
    by_cases h1 : t = v
    · subst h1
      simp [h]
      omega
    · by_cases h2 : t ∈ ps
      · simp [h1, h2]
      · simp [h1, h2]
        omega

def fL (bs : List Bool) (ls : List Int) (v : Nat) : List Int := if bs.getD v false then ls else ls ++ [(v : Int)]
theorem fL_count (bs : List Bool) (ls : List Int) (v : Nat) (h : v < bs.length) : (fL bs ls v).length + (bs.set v true).count false = ls.length + bs.count false := by
  unfold fL
  have hg : bs.getD v false = bs[v] := by simp [h]
  rw [hg]
  cases hb : bs[v] with
  | true =>
    have : bs.set v true = bs := by rw [← hb]; exact List.set_getElem_self h
    rw [this]
    rfl
  | false =>
    have := count_set bs v h hb
    simp
    omega

/-- what holds between two steps: k edges are read, ls waits, ps is done, q is still to be counted -/
structure DI (n : Nat) (es : List Ed) (k : Nat) (bs : List Bool) (ls ps q : List Int) (ms : List Int) : Prop where
  blen : bs.length = n
  mlen : ms.length = es.length
  sound : SoundD bs es
  nd : (ls ++ ps).Nodup
  mem : ∀ v : Nat, (v : Int) ∈ ls ++ ps ↔ bs.getD v false = true
  nn : ∀ v ∈ ls ++ ps, 0 ≤ v
  miss : ∀ i, i < k → ms.getD i 0 = ((tailsA es i).countP (fun t => !ps.contains t) : Nat) + (q.count (i : Int) : Nat)
def DZ (es : List Ed) (k : Nat) (bs : List Bool) (ms : List Int) : Prop := ∀ i (h : i < es.length), i < k → ms.getD i 0 = 0 → inB bs es[i].head = true
theorem DI.start (n : Nat) (es : List Ed) : DI n es 0 (List.replicate n false) [] [] [] (List.replicate es.length 0) :=
  ⟨by simp, by simp, soundD_new n es, by simp, fun v => by
    rw [List.getD_eq_getElem?_getD, List.getElem?_replicate]
    by_cases hv : v < n <;> simp [hv], fun v h => (by cases h), fun i h => by omega⟩
theorem DZ.start (es : List Ed) (bs : List Bool) (ms : List Int) : DZ es 0 bs ms := fun i _ h => by omega
theorem DI.lt {n k : Nat} {es : List Ed} {bs : List Bool} {ls ps q ms : List Int} (h : DI n es k bs ls ps q ms) {v : Int} (hv : v ∈ ls ++ ps) : ∃ m : Nat, v = m ∧ m < n := by
  obtain ⟨m, rfl⟩ := Int.eq_ofNat_of_zero_le (h.nn v hv)
  have := (h.mem m).1 hv
  refine ⟨m, rfl, ?_⟩
  rw [← h.blen]
  rw [List.getD_eq_getElem?_getD] at this
  by_cases hm : m < bs.length
  · exact hm
  · rw [List.getElem?_eq_none (by omega)] at this
    cases this
theorem DI.found {n k hd : Nat} {es : List Ed} {bs : List Bool} {ls ps q ms : List Int} (h : DI n es k bs ls ps q ms) (hl : hd < n) (hD : Der es hd) : DI n es k (bs.set hd true) (fL bs ls hd) ps q ms := by
  have hlb : hd < bs.length := by rw [h.blen]; exact hl
  have hsound : SoundD (bs.set hd true) es := fun v hv => by
    rw [← inB_nat, inB_set _ _ _ hlb (by omega), Bool.or_eq_true, decide_eq_true_eq] at hv
    rcases hv with hv | hv
    · rw [hv]; exact hD
    · exact h.sound v (by rw [← inB_nat]; exact hv)
  unfold fL
  cases hb : bs.getD hd false with
  | true =>
    have hs : bs.set hd true = bs := by
      have : bs[hd] = true := by rw [← hb]; simp [hlb]
      rw [← this]; exact List.set_getElem_self hlb
    rw [hs]
    exact h
  | false =>
    have hmem0 : ((hd : Nat) : Int) ∉ ls ++ ps := fun hm => by rw [(h.mem hd).1 hm] at hb; cases hb
    refine ⟨by simpa using h.blen, h.mlen, hsound, ?_, fun v => ?_, fun v hv => ?_, h.miss⟩
    · have hp : (ls ++ [(hd : Int)] ++ ps).Perm ((hd : Int) :: (ls ++ ps)) := by
        rw [List.append_assoc]
        exact List.perm_middle
      exact hp.nodup_iff.2 (List.nodup_cons.2 ⟨hmem0, h.nd⟩)
    · have e1 : (bs.set hd true).getD v false = (decide ((v : Int) = hd) || bs.getD v false) := by
        rw [← inB_nat, inB_set _ _ _ hlb (by omega), inB_nat]
      rw [e1, Bool.or_eq_true, decide_eq_true_eq, ← h.mem v]
      simp only [Bool.false_eq_true, if_false, List.mem_append, List.mem_singleton]
      constructor
      · rintro ((h1 | h1) | h1)
        · exact Or.inr (Or.inl h1)
        · exact Or.inl h1
        · exact Or.inr (Or.inr h1)
      · rintro (h1 | h1 | h1)
        · exact Or.inl (Or.inr h1)
        · exact Or.inl (Or.inl h1)
        · exact Or.inr h1
    · simp only [Bool.false_eq_true, if_false, List.mem_append, List.mem_singleton] at hv
      rcases hv with (h1 | h1) | h1
      · exact h.nn v (List.mem_append_left _ h1)
      · omega
      · exact h.nn v (List.mem_append_right _ h1)
theorem DZ.found {n k hd : Nat} {es : List Ed} {bs : List Bool} {ms : List Int} (h : DZ es k bs ms) (hok : Ok n es) (hl : hd < bs.length) : DZ es k (bs.set hd true) ms := fun i hi hk h0 =>
  inB_set_mono hl (hok.e _ (List.getElem_mem hi)).h0 (h i hi hk h0)
theorem getD_set {ms : List Int} {k i : Nat} {x : Int} (h : k < ms.length) : (ms.set k x).getD i 0 = if i = k then x else ms.getD i 0 := by
  rw [List.getD_eq_getElem?_getD, List.getD_eq_getElem?_getD, List.getElem?_set]
  by_cases hi : k = i
  · subst hi; simp [h]
  · rw [if_neg hi, if_neg (Ne.symm hi)]
/-- an edge is read -/
theorem DI.edge {n k : Nat} {es : List Ed} {bs : List Bool} {ls ms : List Int} (h : DI n es k bs ls [] [] ms) (hk : k < es.length) : DI n es (k + 1) bs ls [] [] (ms.set k (es[k].tails.length : Nat)) := by
  refine ⟨h.blen, by simpa using h.mlen, h.sound, h.nd, h.mem, h.nn, fun i hi => ?_⟩
  rw [getD_set (by rw [h.mlen]; exact hk)]
  by_cases hik : i = k
  · rw [if_pos hik, hik, tailsA_at es k hk]
    simp
  · rw [if_neg hik]
    exact h.miss i (by omega)
theorem DZ.edge {k : Nat} {es : List Ed} {bs : List Bool} {ms : List Int} (h : DZ es k bs ms) (hm : ms.length = es.length) (hk : k < es.length) (hz : es[k].tails.length = 0 → inB bs es[k].head = true) : DZ es (k + 1) bs (ms.set k (es[k].tails.length : Nat)) := fun i hi hik h0 => by
  rw [getD_set (by rw [hm]; exact hk)] at h0
  by_cases he : i = k
  · subst he
    exact hz (by rw [if_pos rfl] at h0; omega)
  · rw [if_neg he] at h0
    exact h i hi (by omega) h0
/-- a node is taken -/
theorem DI.pop {n : Nat} {es : List Ed} {bs : List Bool} {ls ps ms : List Int} {v : Int} (h : DI n es es.length bs (ls ++ [v]) ps [] ms) : DI n es es.length bs ls (v :: ps) (usesO (occI es es.length) v) ms := by
  have e1 : ls ++ [v] ++ ps = ls ++ v :: ps := by simp
  have hnd := h.nd
  rw [e1] at hnd
  have hv : v ∉ ps := (List.nodup_cons.1 (List.nodup_append.1 hnd).2.1).1
  refine ⟨h.blen, h.mlen, h.sound, hnd, fun u => by rw [← e1]; exact h.mem u, fun u hu => h.nn u (by rw [e1]; exact hu), fun i hi => ?_⟩
  rw [h.miss i hi, usesI_count es es.length v i hi, count_split _ ps v hv]
  simp
/-- one of its edges is counted -/
theorem DI.step {n i : Nat} {es : List Ed} {bs : List Bool} {ls ps q ms : List Int} (h : DI n es es.length bs ls ps ((i : Int) :: q) ms) (hi : i < es.length) : DI n es es.length bs ls ps q (ms.set i (ms.getD i 0 - 1)) := by
  refine ⟨h.blen, by simpa using h.mlen, h.sound, h.nd, h.mem, h.nn, fun j hj => ?_⟩
  rw [getD_set (by rw [h.mlen]; exact hi)]
  by_cases hji : j = i
  · rw [if_pos hji, hji, h.miss i hi, List.count_cons_self]
    omega
  · rw [if_neg hji, h.miss j hj, List.count_cons_of_ne (by simp; omega)]
theorem DI.bound {n i k : Nat} {es : List Ed} {bs : List Bool} {ls ps q ms : List Int} (h : DI n es k bs ls ps q ms) (hi : i < k) : 0 ≤ ms.getD i 0 ∧ ms.getD i 0 ≤ (tailsA es i).length + q.length := by
  have h1 := h.miss i hi
  have h2 := List.countP_le_length (p := fun t => !ps.contains t) (l := tailsA es i)
  have h3 := List.count_le_length (a := (i : Int)) (l := q)
  omega
theorem DI.der {n i : Nat} {es : List Ed} {bs : List Bool} {ls ps q ms : List Int} (h : DI n es es.length bs ls ps q ms) (hok : Ok n es) (hi : i < es.length) (h0 : ms.getD i 0 = 0) : Der es es[i].head := by
  have h1 := h.miss i hi
  rw [tailsA_at es i hi] at h1
  have h2 : es[i].tails.countP (fun t => !ps.contains t) = 0 := by omega
  rw [List.countP_eq_zero] at h2
  refine Der.mk _ (List.getElem_mem hi) (fun t ht => ?_)
  have h3 : t ∈ ps := by simpa using h2 t ht
  obtain ⟨m, rfl⟩ := Int.eq_ofNat_of_zero_le ((hok.e _ (List.getElem_mem hi)).t t ht).1
  exact h.sound m ((h.mem m).1 (List.mem_append_right _ h3))
theorem DZ.step {i : Nat} {es : List Ed} {bs : List Bool} {ms : List Int} {x : Int} (h : DZ es es.length bs ms) (hm : ms.length = es.length) (hi : i < es.length) (hx : x = 0 → inB bs es[i].head = true) : DZ es es.length bs (ms.set i x) := fun j hj hk h0 => by
  rw [getD_set (by rw [hm]; exact hi)] at h0
  by_cases hji : j = i
  · subst hji
    rw [if_pos rfl] at h0
    exact hx h0
  · rw [if_neg hji] at h0
    exact h j hj hk h0
theorem DI.final {n : Nat} {es : List Ed} {bs : List Bool} {ps ms : List Int} (h : DI n es es.length bs [] ps [] ms) (hz : DZ es es.length bs ms) (hok : Ok n es) : bs = derL n es := by
  refine derL_of h.blen h.sound (fun e he hall => ?_)
  obtain ⟨i, hi, rfl⟩ := List.mem_iff_getElem.1 he
  refine hz i hi hi ?_
  rw [h.miss i hi, tailsA_at es i hi]
  have h2 : es[i].tails.countP (fun t => !ps.contains t) = 0 := by
    rw [List.countP_eq_zero]
    intro t ht
    obtain ⟨m, rfl⟩ := Int.eq_ofNat_of_zero_le ((hok.e _ he).t t ht).1
    have h3 := List.all_eq_true.1 hall _ ht
    rw [inB_nat] at h3
    have h4 := (h.mem m).2 h3
    simpa using h4
  rw [h2]
  simp
end Go.Proofs.Ytjhdhnkikgmpoaa
