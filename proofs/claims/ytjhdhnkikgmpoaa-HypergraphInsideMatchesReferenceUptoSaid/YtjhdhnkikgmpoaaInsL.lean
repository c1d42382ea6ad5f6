/- What Inside computes over truth values, and under doubled weights: in plain Lean. -/
import Derived.Test.YtjhdhnkikgmpoaaOrdT
namespace Go.Proofs.Ytjhdhnkikgmpoaa
open Go.RowKit Go.Deep

theorem insGo_snoc {α : Type} {add mul : α → α → α} {zero d : α} (es : List Ed) (ws out : List α) (ls : List Int) (v : Int) : insGo add mul zero d es ws out (ls ++ [v]) = (insGo add mul zero d es ws out ls).set v.toNat (sumV add mul zero d es ws (insGo add mul zero d es ws out ls) (idx es es.length v)) := by
  unfold insGo
  rw [List.foldl_append]
  rfl
theorem getDB_set {α : Type} {ms : List α} {k i : Nat} {x d : α} (h : k < ms.length) : (ms.set k x).getD i d = if i = k then x else ms.getD i d := by
  rw [List.getD_eq_getElem?_getD, List.getD_eq_getElem?_getD, List.getElem?_set]
  by_cases hi : k = i
  · subst hi; simp [h]
  · rw [if_neg hi, if_neg (Ne.symm hi)]
theorem mulB (out : List Bool) (x : Bool) (ts : List Int) : mulT and false out x ts = (x && ts.all (fun t => out.getD t.toNat false)) := by
  unfold mulT
  induction ts generalizing x with
  | nil => simp
  | cons t ts ih => rw [List.foldl_cons, ih, List.all_cons, Bool.and_assoc]
theorem sumB (es : List Ed) (ws out : List Bool) (l : List Int) : sumV or and false false es ws out l = l.any (fun i => mulT and false out (ws.getD i.toNat false) (tailsA es i.toNat)) := by
  have h : ∀ (s : Bool), l.foldl (fun s i => or s (mulT and false out (ws.getD i.toNat false) (tailsA es i.toNat))) s = (s || l.any (fun i => mulT and false out (ws.getD i.toNat false) (tailsA es i.toNat))) := by
    induction l with
    | nil => intro s; simp
    | cons i l ih => intro s; rw [List.foldl_cons, ih, List.any_cons, Bool.or_assoc]
  unfold sumV
  rw [h, Bool.false_or]
theorem der_inv {es : List Ed} {v : Int} (h : Der es v) : ∃ e ∈ es, e.head = v ∧ ∀ t ∈ e.tails, Der es t := by
  cases h with
  | mk e he ht => exact ⟨e, he, rfl, ht⟩
open Classical in
theorem insB_inv {n : Nat} {es : List Ed} {r : List Int} (hok : Ok n es) (h : ordL n es = some r) : ∀ (k : Nat), k ≤ r.length → ∀ v : Nat, (v : Int) ∈ r.take k → (insGo or and false false es (List.replicate es.length true) (List.replicate n false) (r.take k)).getD v false = decide (Der es (v : Int)) := by
  obtain ⟨hnd, hall, htopo⟩ := ord_all hok h
  intro k
  induction k with
  | zero => intro _ v hv; simp at hv
  | succ k ih =>
    intro hk v hv
    have hkl : k < r.length := by omega
    obtain ⟨u, hu, hun⟩ := ordL_mem h (List.getElem_mem hkl)
    rw [take_step r k hkl, hu] at hv ⊢
    rw [insGo_snoc]
    have hlen : (insGo or and false false es (List.replicate es.length true) (List.replicate n false) (r.take k)).length = n := by rw [insGo_len]; simp
    have hih := ih (by omega)
    generalize insGo or and false false es (List.replicate es.length true) (List.replicate n false) (r.take k) = out at *
    rw [Int.toNat_natCast, getDB_set (by omega)]
    by_cases hvu : v = u
    · rw [if_pos hvu, hvu, sumB, Bool.eq_iff_iff, List.any_eq_true, decide_eq_true_eq]
      have htp := htopo k u (by rw [List.getElem?_eq_getElem hkl, hu])
      constructor
      · rintro ⟨i, hi, hm⟩
        obtain ⟨m, hm1, hml, E, hE, hEv⟩ := idx_nat hi
        subst hm1
        rw [mulB, Bool.and_eq_true, List.all_eq_true] at hm
        have hEE : es[m] = E := by rw [List.getElem?_eq_getElem hml] at hE; exact Option.some.inj hE
        have hEm : E ∈ es := List.mem_of_getElem? hE
        rw [← hEv]
        refine Der.mk E hEm (fun t ht => ?_)
        have h1 := hm.2 t (by rw [Int.toNat_natCast, tailsA_at es m hml, hEE]; exact ht)
        obtain ⟨q, rfl⟩ := Int.eq_ofNat_of_zero_le ((hok.e E hEm).t t ht).1
        rw [Int.toNat_natCast, hih q (htp E hEm hEv _ ht)] at h1
        exact of_decide_eq_true h1
      · intro hd
        obtain ⟨e, he, heu, ht⟩ := der_inv hd
        obtain ⟨m, hm, hme⟩ := List.mem_iff_getElem.1 he
        refine ⟨(m : Int), mem_idx.2 ⟨hm, e, by rw [List.getElem?_eq_getElem hm, hme], heu⟩, ?_⟩
        rw [mulB, Bool.and_eq_true, List.all_eq_true, Int.toNat_natCast]
        refine ⟨by simp [hm], fun t htm => ?_⟩
        rw [tailsA_at es m hm, hme] at htm
        obtain ⟨q, rfl⟩ := Int.eq_ofNat_of_zero_le ((hok.e e he).t t htm).1
        rw [Int.toNat_natCast, hih q (htp e he heu _ htm)]
        exact decide_eq_true (ht _ htm)
    · rw [if_neg hvu]
      refine hih v ?_
      rcases List.mem_append.1 hv with h1 | h1
      · exact h1
      · rw [List.mem_singleton] at h1
        omega
open Classical in
theorem insB_der {n : Nat} {es : List Ed} {r : List Int} (hok : Ok n es) (h : ordL n es = some r) : insGo or and false false es (List.replicate es.length true) (List.replicate n false) r = derL n es := by
  obtain ⟨hnd, hall, htopo⟩ := ord_all hok h
  have hl : (insGo or and false false es (List.replicate es.length true) (List.replicate n false) r).length = n := by rw [insGo_len]; simp
  apply List.ext_getElem
  · rw [hl, derL_len]
  · intro v h1 h2
    have h3 := insB_inv hok h r.length (Nat.le_refl _) v (by rw [List.take_length]; exact hall v (by omega))
    rw [List.take_length, List.getD_eq_getElem?_getD, List.getElem?_eq_getElem h1] at h3
    simp only [derL, List.getElem_map, List.getElem_range]
    rw [Option.getD_some] at h3
    rw [h3]

/-- twice, modulo 2^16 -/
def Dbl (a b : Int) : Prop := a = 2 * b % 65536
theorem dbl_mul {a b : Int} (h : Dbl a b) (c : Int) : Dbl (nMul a c) (nMul b c) := by
  unfold Dbl nMul at *
  have h1 : a = 2 * b - 65536 * (2 * b / 65536) := by omega
  generalize 2 * b / 65536 = q at h1
  have h2 : a * c = 2 * (b * c) - 65536 * (q * c) := by rw [h1, Int.sub_mul, Int.mul_assoc, Int.mul_assoc]
  rw [h2]
  generalize b * c = p
  generalize q * c = s
  omega
theorem dbl_add {a b p q : Int} (h : Dbl a b) (h2 : Dbl p q) : Dbl (nAdd a p) (nAdd b q) := by
  unfold Dbl nAdd at *
  omega
theorem dbl_mulT {out : List Int} (ts : List Int) : ∀ {a b : Int}, Dbl a b → Dbl (mulT nMul 0 out a ts) (mulT nMul 0 out b ts) := by
  unfold mulT
  induction ts with
  | nil => intro a b h; exact h
  | cons t ts ih => intro a b h; exact ih (dbl_mul h _)
theorem dbl_sum {es : List Ed} {w1 w2 out : List Int} (l : List Int) (hw : ∀ i ∈ l, Dbl (w2.getD i.toNat 0) (w1.getD i.toNat 0)) : Dbl (sumV nAdd nMul 0 0 es w2 out l) (sumV nAdd nMul 0 0 es w1 out l) := by
  have h : ∀ (a b : Int), Dbl a b → Dbl (l.foldl (fun s i => nAdd s (mulT nMul 0 out (w2.getD i.toNat 0) (tailsA es i.toNat))) a) (l.foldl (fun s i => nAdd s (mulT nMul 0 out (w1.getD i.toNat 0) (tailsA es i.toNat))) b) := by
    induction l with
    | nil => intro a b h; exact h
    | cons i l ih =>
      intro a b h
      refine ih (fun j hj => hw j (List.mem_cons_of_mem _ hj)) _ _ ?_
      have h2 := dbl_mulT (out := out) (tailsA es i.toNat) (hw i (List.mem_cons_self ..))
      exact dbl_add h h2
  exact h 0 0 rfl
theorem sum_same {es : List Ed} {w1 w2 out : List Int} (l : List Int) (hw : ∀ i ∈ l, w2.getD i.toNat 0 = w1.getD i.toNat 0) : sumV nAdd nMul 0 0 es w2 out l = sumV nAdd nMul 0 0 es w1 out l := by
  have h : ∀ (a : Int), l.foldl (fun s i => nAdd s (mulT nMul 0 out (w2.getD i.toNat 0) (tailsA es i.toNat))) a = l.foldl (fun s i => nAdd s (mulT nMul 0 out (w1.getD i.toNat 0) (tailsA es i.toNat))) a := by
    induction l with
    | nil => intro a; rfl
    | cons i l ih =>
      intro a
      rw [List.foldl_cons, List.foldl_cons, hw i (List.mem_cons_self ..)]
      exact ih (fun j hj => hw j (List.mem_cons_of_mem _ hj)) _
  exact h 0
theorem insGo_same {n : Nat} {es : List Ed} {w1 w2 : List Int} (v : Int) (hw : ∀ i E, es[i]? = some E → E.head ≠ v → w2.getD i 0 = w1.getD i 0) (ls : List Int) (out : List Int) (hv : v ∉ ls) : insGo nAdd nMul 0 0 es w2 out ls = insGo nAdd nMul 0 0 es w1 out ls := by
  have _ := n
  unfold insGo
  induction ls generalizing out with
  | nil => rfl
  | cons u ls ih =>
    rw [List.foldl_cons, List.foldl_cons]
    have h1 : sumV nAdd nMul 0 0 es w2 out (idx es es.length u) = sumV nAdd nMul 0 0 es w1 out (idx es es.length u) := sum_same _ (fun i hi => by
      obtain ⟨m, rfl, hml, E, hE, hEu⟩ := idx_nat hi
      rw [Int.toNat_natCast]
      exact hw m E hE (fun h => hv (by rw [← h, hEu]; exact List.mem_cons_self ..)))
    rw [h1]
    exact ih _ (fun h => hv (List.mem_cons_of_mem _ h))
theorem insGo_keep {es : List Ed} {ws : List Int} (v : Nat) (ls : List Int) (out : List Int) (hr : ∀ x ∈ ls, ∃ u : Nat, x = u ∧ u < out.length) (hv : (v : Int) ∉ ls) : (insGo nAdd nMul 0 0 es ws out ls).getD v 0 = out.getD v 0 := by
  unfold insGo
  induction ls generalizing out with
  | nil => rfl
  | cons u ls ih =>
    rw [List.foldl_cons, ih _ (fun x hx => by obtain ⟨q, h1, h2⟩ := hr x (List.mem_cons_of_mem _ hx); exact ⟨q, h1, by simpa using h2⟩) (fun h => hv (List.mem_cons_of_mem _ h))]
    obtain ⟨q, h1, h2⟩ := hr u (List.mem_cons_self ..)
    subst h1
    rw [Int.toNat_natCast, getDB_set h2, if_neg (fun h => hv (by rw [h]; exact List.mem_cons_self ..))]
theorem ins_linear {n v : Nat} {es : List Ed} {w1 w2 r : List Int} (hok : Ok n es) (h : ordL n es = some r) (hv : v < n) (hw : ∀ i E, es[i]? = some E → E.head ≠ (v : Int) → w2.getD i 0 = w1.getD i 0) (hd : ∀ i E, es[i]? = some E → E.head = (v : Int) → Dbl (w2.getD i 0) (w1.getD i 0)) :
    (insGo nAdd nMul 0 0 es w2 (List.replicate n 0) r).getD v 0 = 2 * (insGo nAdd nMul 0 0 es w1 (List.replicate n 0) r).getD v 0 % 65536 := by
  obtain ⟨hnd, hall, _⟩ := ord_all hok h
  obtain ⟨A, B, hr⟩ := List.append_of_mem (hall v hv)
  have hmem := fun x hx => ordL_mem h (x := x) hx
  rw [hr] at hnd hmem ⊢
  have hA : (v : Int) ∉ A := fun hm => (List.nodup_append.1 hnd).2.2 _ hm _ (List.mem_cons_self ..) rfl
  have hB : (v : Int) ∉ B := (List.nodup_cons.1 (List.nodup_append.1 hnd).2.1).1
  have e1 : A ++ (v : Int) :: B = (A ++ [(v : Int)]) ++ B := by simp
  have split : ∀ ws : List Int, insGo nAdd nMul 0 0 es ws (List.replicate n 0) ((A ++ [(v : Int)]) ++ B) = insGo nAdd nMul 0 0 es ws (insGo nAdd nMul 0 0 es ws (List.replicate n 0) (A ++ [(v : Int)])) B := fun ws => by
    unfold insGo
    rw [List.foldl_append]
  rw [e1, split, split]
  have hlen : ∀ ws : List Int, (insGo nAdd nMul 0 0 es ws (List.replicate n 0) (A ++ [(v : Int)])).length = n := fun ws => by rw [insGo_len]; simp
  have hk : ∀ ws : List Int, (insGo nAdd nMul 0 0 es ws (insGo nAdd nMul 0 0 es ws (List.replicate n 0) (A ++ [(v : Int)])) B).getD v 0 = (insGo nAdd nMul 0 0 es ws (List.replicate n 0) (A ++ [(v : Int)])).getD v 0 := fun ws =>
    insGo_keep v B _ (fun x hx => by obtain ⟨q, h1, h2⟩ := hmem x (List.mem_append_right _ (List.mem_cons_of_mem _ hx)); exact ⟨q, h1, by rw [hlen]; exact h2⟩) hB
  rw [hk, hk, insGo_snoc, insGo_snoc, insGo_same (n := n) (v : Int) hw A _ hA]
  have hl2 : (insGo nAdd nMul 0 0 es w1 (List.replicate n 0) A).length = n := by rw [insGo_len]; simp
  rw [Int.toNat_natCast, getDB_set (by omega), getDB_set (by omega), if_pos rfl, if_pos rfl]
  exact dbl_sum _ (fun i hi => by
    obtain ⟨m, rfl, hml, E, hE, hEu⟩ := idx_nat hi
    rw [Int.toNat_natCast]
    exact hd m E hE hEu)
end Go.Proofs.Ytjhdhnkikgmpoaa
