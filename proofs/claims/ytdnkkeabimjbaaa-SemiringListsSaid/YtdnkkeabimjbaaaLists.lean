/- Sum and Product of lists are the repeated sums and products: the law's walk. Printed by gen26lists.py. -/
import Derived.Test.YtdnkkeabimjbaaaTo
import Derived.Test.YtdnkkeabimjbaaaMix3
namespace Go.Proofs.Ytdnkkeabimjbaaa
open Go.RowKit

set_option maxRecDepth 100000 in
set_option maxHeartbeats 2000000 in
theorem lists_no (w : World) (a a2 : Option Addr) (c c2 : Nat) (xs : List Int) (vs : List (Int × Int)) (hr : IntRow w a xs) (hr2 : ValRow w a2 vs) (hn : xs.length ≤ maxLen) (hn2 : vs.length ≤ maxLen)
    (h : 50 < xs.length ∨ 50 < vs.length ∨ xs.all intB = false ∨ (vs.all fun x => valB x.1 x.2) = false) :
    Calls Try.prog 4 #[.slice a xs.length c, .slice a2 vs.length c2] w fun e w' => e = .returned (.bool true) ∧ Below w.heap.size w w' := by
  have hia := ints_any w a c xs hr hn
  have hva := values_any w a2 c2 vs hr2 hn2
  have HT := fun w => awake_any w
  unfold maxLen at hn hn2
  clear hr hr2
  by_cases h1 : 50 < xs.length
  · clear h hia hva
    go_enter Try.func4, Try.ntmps4
    go_wp2_with (go_at_call 12; refine (HT _).mono ?_; rintro e w1 ⟨rfl, hb⟩)
    go_ret
    exact ⟨rfl, hb⟩
  · by_cases h2 : 50 < vs.length
    · clear h hia hva
      go_enter Try.func4, Try.ntmps4
      go_wp2_with (go_at_call 12; refine (HT _).mono ?_; rintro e w1 ⟨rfl, hb⟩)
      go_ret
      exact ⟨rfl, hb⟩
    · cases h3 : xs.all intB
      · rw [h3] at hia
        clear h hva h3
        go_enter Try.func4, Try.ntmps4
        go_wp2_with fail
        refine hia.mono ?_
        rintro e w1 ⟨rfl, rfl⟩
        go_wp2_with (go_at_call 12; refine (HT _).mono ?_; rintro e w1 ⟨rfl, hb⟩)
        go_ret
        exact ⟨rfl, hb⟩
      · rw [h3] at hia
        have h4 : (vs.all fun x => valB x.1 x.2) = false := by
          rcases h with h | h | h | h
          · exact absurd h h1
          · exact absurd h h2
          · rw [h3] at h; cases h
          · exact h
        rw [h4] at hva
        clear h h3 h4
        go_enter Try.func4, Try.ntmps4
        go_wp2_with fail
        refine hia.mono ?_
        rintro e w1 ⟨rfl, rfl⟩
        go_wp2_with fail
        refine hva.mono ?_
        rintro e w1 ⟨rfl, hb1⟩
        go_wp2_with (go_at_call 12; refine (HT _).mono ?_; rintro e w2 ⟨rfl, hb⟩)
        go_ret
        exact ⟨rfl, hb1.trans (hb.mono hb1.size)⟩

/-- two boxes of a value each, one behind the other -/
structure Two (B : Nat) (p q : Int × Int) (w : World) : Prop where
  c0 : w.cell? ⟨B, 0, none⟩ = some (.int .i64 p.1)
  c1 : w.cell? ⟨B, 1, none⟩ = some (.int .i64 p.2)
  d0 : w.cell? ⟨B + 1, 0, none⟩ = some (.int .i64 q.1)
  d1 : w.cell? ⟨B + 1, 1, none⟩ = some (.int .i64 q.2)
  f0 : w.frozen? ⟨B, 0, none⟩ = false
  f1 : w.frozen? ⟨B, 1, none⟩ = false
  g0 : w.frozen? ⟨B + 1, 0, none⟩ = false
  g1 : w.frozen? ⟨B + 1, 1, none⟩ = false
  sz : B + 1 < w.heap.size
theorem Two.start (w : World) : Two w.heap.size (1099511627776, 0) (0, 0) ((w.alloc (.cells #[.int .i64 1099511627776, .int .i64 0] 23)).alloc (.cells #[.int .i64 0, .int .i64 0] 23)) :=
  ⟨by simp [go_sem], by simp [go_sem], by simp [go_sem], by simp [go_sem], by simp [go_sem], by simp [go_sem], by simp [go_sem], by simp [go_sem], by simp⟩
theorem Two.below {B : Nat} {p q : Int × Int} {w w' : World} (h : Two B p q w) (hb : Below w.heap.size w w') : Two B p q w' :=
  have h0 : B < w.heap.size := by have := h.sz; omega
  ⟨(hb.cell (p := ⟨B, 0, none⟩) h0).trans h.c0, (hb.cell (p := ⟨B, 1, none⟩) h0).trans h.c1, (hb.cell (p := ⟨B + 1, 0, none⟩) h.sz).trans h.d0, (hb.cell (p := ⟨B + 1, 1, none⟩) h.sz).trans h.d1,
   (hb.frozen (p := ⟨B, 0, none⟩) h0).trans h.f0, (hb.frozen (p := ⟨B, 1, none⟩) h0).trans h.f1, (hb.frozen (p := ⟨B + 1, 0, none⟩) h.sz).trans h.g0, (hb.frozen (p := ⟨B + 1, 1, none⟩) h.sz).trans h.g1, Nat.lt_of_lt_of_le h.sz hb.size⟩
/-- what the second loop holds -/
def L2 (vs : List (Int × Int)) (w : World) (B : Nat) (k : Nat) (i : Value) (wr : World) : Prop :=
  k ≤ vs.length ∧ i = .int .i64 k ∧ Two B ((vs.take k).foldl vadd (1099511627776, 0)) ((vs.take k).foldl vmul (0, 0)) wr ∧ Below w.heap.size w wr
/-- what the first loop holds -/
def L1 (xs : List Int) (w : World) (k : Nat) (x5 x6 x7 x8 i : Value) (wr : World) : Prop :=
  k ≤ xs.length ∧ i = .int .i64 k ∧ x5 = .int .i64 ((xs.take k).foldl tadd 1099511627776) ∧ x6 = .int .i64 ((xs.take k).foldl tmul 0) ∧ x7 = .int .i64 ((xs.take k).foldl tmul 0) ∧ x8 = .int .i64 ((xs.take k).foldl cmul 1) ∧ Below w.heap.size w wr

set_option maxRecDepth 100000 in
set_option maxHeartbeats 8000000 in
theorem lists_core (w : World) (a a2 : Option Addr) (c c2 : Nat) (xs : List Int) (vs : List (Int × Int)) (hr : IntRow w a xs) (hr2 : ValRow w a2 vs) (h50 : xs.length ≤ 50) (h502 : vs.length ≤ 50)
    (hia : Calls Try.prog 19 #[.slice a xs.length c] w fun e w' => e = .returned (.bool true) ∧ w = w') (hva : Calls Try.prog 20 #[.slice a2 vs.length c2] w fun e w' => e = .returned (.bool true) ∧ Below w.heap.size w w')
    (hxs : ∀ x ∈ xs, 0 ≤ x ∧ x ≤ 1099511627776) (hvs : ∀ x ∈ vs, vok x) :
    Calls Try.prog 4 #[.slice a xs.length c, .slice a2 vs.length c2] w fun e w' => e = .returned (.bool true) ∧ Below w.heap.size w w' := by
  obtain ⟨S, hne, f, hf, hs⟩ := fam_of w.heap.size w
  have HX := Lib.hid hxs
  have HV := Lib.hid hvs
  have HR := Lib.hid hr
  have HR2 := Lib.hid hr2
  clear hxs hvs hr hr2
  go_enter Try.func4, Try.ntmps4
  go_wp2_with fail
  refine hia.mono ?_
  rintro e w1 ⟨rfl, rfl⟩
  go_wp2_with fail
  refine hva.mono ?_
  rintro e w1 ⟨rfl, hb1⟩
  clear hia hva
  go_wp2_with fail
  go_loopw [5, 6, 7, 8, 9] (fun x5 x6 x7 x8 i wr => ∃ k : Nat, L1 xs w k x5 x6 x7 x8 i wr) (fun _ _ _ _ i _ => xs.length - (intOf i).toNat)
  case atStart => exact ⟨0, Nat.zero_le _, rfl, rfl, rfl, rfl, rfl, hb1⟩
  case round =>
    obtain ⟨k, hk, rfl, rfl, rfl, rfl, rfl, hB⟩ := hrel
    obtain ⟨s, rfl⟩ := hs wr hB
    clear hb1
    by_cases hlt : k < xs.length
    · as_aux_lemma =>
      rcases HR.out with h | ⟨b, o, rfl, hb, hcell⟩
      · rw [h] at hlt; exact absurd hlt (by simp)
      · have hc : ∀ s, (f s).cell? ⟨b, o + k, none⟩ = some (.int .i64 xs[k]) := fun s => ((hf s).cell (p := ⟨b, o + k, none⟩) hb).trans (hcell k hlt)
        have hs5 := Lib.hid (foldl_snoc tadd 1099511627776 xs k hlt)
        have hs6 := Lib.hid (foldl_snoc tmul 0 xs k hlt)
        have hs8 := Lib.hid (foldl_snoc cmul 1 xs k hlt)
        obtain ⟨l6, u6⟩ := foldl_in tmul (fun _ _ h1 h2 => tmul_bd h1 h2) (xs.take k) 0 (by omega) (fun x hx => HX.out x (List.mem_of_mem_take hx))
        obtain ⟨l8, u8⟩ := foldl_in cmul (fun _ _ h1 h2 => cmul_bd h1 h2) (xs.take k) 1 (by omega) (fun x hx => HX.out x (List.mem_of_mem_take hx))
        obtain ⟨lx, ux⟩ := HX.out xs[k] (List.getElem_mem hlt)
        clear hcell hB
        generalize (xs.take k).foldl tadd 1099511627776 = F5 at *
        generalize (xs.take k).foldl tmul 0 = F6 at *
        generalize (xs.take k).foldl cmul 1 = F8 at *
        generalize xs[k] = X at *
        have ht5 : tadd F5 X = if X < F5 then X else F5 := rfl
        have HT5 := Lib.hid ht5
        clear ht5
        by_cases hx : X < F5
        all_goals
          go_wp2_with fail
          obtain ⟨s, h1⟩ := hs (f s).drew ((hf s).drew)
          refine M3.wp_region_fast (S := fun w' => ∃ s, w' = f s) [(0, 32, 2199023255552), (0, 1, 4398046511104), (0, 512, 8796093022208), (6, 13194139533312, 17592186044416), (8, 17592186044416, 35184372088832), (17, 37383395344384, 70368744177664), (0, 64, 140737488355328), (0, 1, 281474976710656), (0, 512, 562949953421312), (384, 844424930131968, 1125899906842624), (512, 1125899906842624, 2251799813685248), (1088, 2392537302040576, 4503599627370496), (2111, 70368744177664, 32), (8191, 4503599627370496, 64)] [(0, 0, (0, 32, 2199023255552)), (1, 0, (0, 1, 4398046511104)), (2, 0, (0, 512, 8796093022208)), (3, 0, (6, 13194139533312, 17592186044416)), (4, 0, (8, 17592186044416, 35184372088832)), (5, 0, (17, 37383395344384, 70368744177664)), (6, 0, (0, 64, 140737488355328)), (7, 0, (0, 1, 281474976710656)), (8, 0, (0, 512, 562949953421312)), (9, 0, (384, 844424930131968, 1125899906842624)), (10, 0, (512, 1125899906842624, 2251799813685248)), (11, 1, (1088, 2392537302040576, 4503599627370496)), (12, 0, (2111, 70368744177664, 32)), (13, 0, (8191, 4503599627370496, 64))] 0 (by as_aux_lemma => kernel_rfl) (by as_aux_lemma => kernel_rfl) (by as_aux_lemma => kernel_rfl) (fun _ d _ _ _ h => by cases d <;> exact h) ⟨s, h1⟩ ?_
          rw [h1]
          clear h1
          simp only [List.map_cons, List.map_nil, List.getElem?_cons_succ, List.getElem?_cons_zero]
          repeat ((with_reducible refine M3.mix_free (fun K hK => ?_)); go_simp; refine hK _ ?_; clear hK K)
          refine M3.mix_forced (fun K hK => ?_) ⟨_, rfl⟩
          go_simp
          refine (rtmul_any _ _ _ l6 lx u6 ux).mono ?_
          rintro e w1 ⟨rfl, hb⟩
          subst hb
          refine hK.out _ _ ⟨_, rfl⟩ (fun _ => ?_)
          clear hK K
          repeat ((with_reducible refine M3.mix_free (fun K hK => ?_)); go_simp; refine hK _ ?_; clear hK K)
          refine M3.mix_nil ?_
          go_wp2_with fail
          obtain ⟨s, h1⟩ := hs (f s).drew ((hf s).drew)
          refine M3.wp_region_fast (S := fun w' => ∃ s, w' = f s) [(0, 128, 9007199254740992), (0, 1, 18014398509481984), (0, 512, 36028797018963968), (6, 54043195528445952, 72057594037927936), (8, 72057594037927936, 144115188075855872), (17, 153122387330596864, 288230376151711744), (0, 256, 576460752303423488), (0, 1, 1152921504606846976), (0, 512, 2305843009213693952), (384, 3458764513820540928, 4611686018427387904), (512, 4611686018427387904, 9223372036854775808), (1120, 9799832789158199296, 18446744073709551616), (2111, 288230376151711744, 128), (8191, 18446744073709551616, 256)] [(0, 0, (0, 128, 9007199254740992)), (1, 0, (0, 1, 18014398509481984)), (2, 0, (0, 512, 36028797018963968)), (3, 0, (6, 54043195528445952, 72057594037927936)), (4, 0, (8, 72057594037927936, 144115188075855872)), (6, 0, (0, 256, 576460752303423488)), (7, 0, (0, 1, 1152921504606846976)), (8, 0, (0, 512, 2305843009213693952)), (9, 0, (384, 3458764513820540928, 4611686018427387904)), (10, 0, (512, 4611686018427387904, 9223372036854775808)), (5, 1, (17, 153122387330596864, 288230376151711744)), (11, 1, (1120, 9799832789158199296, 18446744073709551616)), (12, 0, (2111, 288230376151711744, 128)), (13, 0, (8191, 18446744073709551616, 256))] 0 (by as_aux_lemma => kernel_rfl) (by as_aux_lemma => kernel_rfl) (by as_aux_lemma => kernel_rfl) (fun _ d _ _ _ h => by cases d <;> exact h) ⟨s, h1⟩ ?_
          rw [h1]
          clear h1
          simp only [List.map_cons, List.map_nil, List.getElem?_cons_succ, List.getElem?_cons_zero]
          repeat ((with_reducible refine M3.mix_free (fun K hK => ?_)); go_simp; refine hK _ ?_; clear hK K)
          refine M3.mix_forced (fun K hK => ?_) ⟨_, rfl⟩
          go_simp
          refine (rcadd_any _ _ _ l6 lx u6 ux).mono ?_
          rintro e w1 ⟨rfl, hb⟩
          subst hb
          refine hK.out _ _ ⟨_, rfl⟩ (fun _ => ?_)
          clear hK K
          repeat ((with_reducible refine M3.mix_free (fun K hK => ?_)); go_simp; refine hK _ ?_; clear hK K)
          refine M3.mix_forced (fun K hK => ?_) ⟨_, rfl⟩
          go_simp
          refine (rcmul_any _ _ _ l8 lx u8 ux).mono ?_
          rintro e w1 ⟨rfl, hb⟩
          subst hb
          refine hK.out _ _ ⟨_, rfl⟩ (fun _ => ?_)
          clear hK K
          repeat ((with_reducible refine M3.mix_free (fun K hK => ?_)); go_simp; refine hK _ ?_; clear hK K)
          refine M3.mix_nil ?_
          go_wp2_with fail
          go_roundw
          case rel => exact ⟨k + 1, by omega, by go_num, by rw [hs5.out, HT5.out]; first | rw [if_pos hx] | rw [if_neg (by omega)], by rw [hs6.out], by rw [hs6.out], by rw [hs8.out], hf _⟩
          case measure => simp [intOf]; omega
    · as_aux_lemma =>
      have hkk : k = xs.length := by omega
      subst hkk
      rw [List.take_length]
      clear hk hlt
      generalize hB1 : (f s).heap.size = B1 at *
      have HB1 := Lib.hid hB1
      go_wp2_with fail
      clear hB1
      have hw1 := Two.start (f s)
      rw [HB1.out] at hw1
      have hbel1 : Below w.heap.size w (((f s).alloc (.cells #[.int .i64 1099511627776, .int .i64 0] 23)).alloc (.cells #[.int .i64 0, .int .i64 0] 23)) := ((hf s).alloc (hf s).size _).alloc (by have := (hf s).size; simp; omega) _
      have hBw : w.heap.size ≤ B1 := by rw [← HB1.out]; exact (hf s).size
      generalize ((f s).alloc (.cells #[.int .i64 1099511627776, .int .i64 0] 23)).alloc (.cells #[.int .i64 0, .int .i64 0] 23) = W1 at *
      clear hf hs hB
      obtain ⟨S, hne, f, hf, hs⟩ := fam_of w.heap.size w
      go_loopw [12] (fun i wr => ∃ k : Nat, L2 vs w B1 k i wr) (fun i _ => vs.length - (intOf i).toNat)
      case atStart => exact ⟨0, Nat.zero_le _, rfl, hw1, hbel1⟩
      case round =>
        obtain ⟨k, hk, rfl, h2, hB⟩ := hrel
        clear hw1 hbel1
        obtain ⟨S2, hne2, f2, hf2, hs2⟩ := fam_of wr.heap.size wr
        have t2 : ∀ s, Two B1 _ _ (f2 s) := fun s => h2.below (hf2 s)
        by_cases hlt : k < vs.length
        · as_aux_lemma =>
          rcases HR2.out with h | ⟨b, o, rfl, hb, hcell⟩
          · rw [h] at hlt; exact absurd hlt (by simp)
          · have hx0 : ∀ s, (f2 s).cell? ⟨b, o + k * 2, none⟩ = some (.int .i64 vs[k].1) := fun s => ((hB.trans ((hf2 s).mono hB.size)).cell (p := ⟨b, o + k * 2, none⟩) hb).trans (hcell k hlt).1
            have hx1 : ∀ s, (f2 s).cell? ⟨b, o + k * 2 + 1, none⟩ = some (.int .i64 vs[k].2) := fun s => ((hB.trans ((hf2 s).mono hB.size)).cell (p := ⟨b, o + k * 2 + 1, none⟩) hb).trans (hcell k hlt).2
            have hsa := Lib.hid (foldl_snoc vadd (1099511627776, 0) vs k hlt)
            have hsm := Lib.hid (foldl_snoc vmul (0, 0) vs k hlt)
            obtain ⟨m1, m2, m3, m4⟩ := vfoldl_ok vmul (fun _ _ h1 h2 => vmul_ok h1 h2) (vs.take k) (0, 0) (by unfold vok; simp) (fun x hx => HV.out x (List.mem_of_mem_take hx))
            obtain ⟨x1, x2, x3, x4⟩ := HV.out vs[k] (List.getElem_mem hlt)
            clear hcell h2
            generalize hP : (vs.take k).foldl vadd (1099511627776, 0) = Pr at *
            generalize hQ : (vs.take k).foldl vmul (0, 0) = Qr at *
            generalize hX : vs[k] = X at *
            clear hP hQ hX
            obtain ⟨P0, P1⟩ := Pr
            obtain ⟨Q0, Q1⟩ := Qr
            obtain ⟨X0, X1⟩ := X
            simp only at m1 m2 m3 m4 x1 x2 x3 x4 hx0 hx1
            have c0 := fun s => (t2 s).c0
            have c1 := fun s => (t2 s).c1
            have d0 := fun s => (t2 s).d0
            have d1 := fun s => (t2 s).d1
            have f0 := fun s => (t2 s).f0
            have f1 := fun s => (t2 s).f1
            have g0 := fun s => (t2 s).g0
            have g1 := fun s => (t2 s).g1
            simp only at c0 c1 d0 d1
            have hz2 : ∀ s, B1 + 1 < (f2 s).heap.size := fun s => (t2 s).sz
            have hbz : ∀ s, Below w.heap.size w (f2 s) := fun s => hB.trans ((hf2 s).mono hB.size)
            clear t2
            go_wp2_with fail
            obtain ⟨s, h1⟩ := hs2 wr.drew ((Below.refl _ _).drew)
            refine M3.wp_region_fast (S := fun w' => ∃ s, w' = f2 s) [(0, 1024, 9444732965739290427392), (0, 2, 18889465931478580854784), (0, 4096, 37778931862957161709568), (6, 56668397794435742564352, 75557863725914323419136), (8, 75557863725914323419136, 151115727451828646838272), (17, 160560460417567937265664, 302231454903657293676544), (0, 2048, 604462909807314587353088), (0, 2, 1208925819614629174706176), (0, 4096, 2417851639229258349412352), (384, 3626777458843887524118528, 4835703278458516698824704), (512, 4835703278458516698824704, 9671406556917033397649408), (1120, 10275869466724347985002496, 19342813113834066795298816), (2111, 302231454903657293677568, 0), (8191, 19342813113834066795300864, 0)] [(0, 0, (0, 1024, 9444732965739290427392)), (1, 0, (0, 2, 18889465931478580854784)), (2, 0, (0, 4096, 37778931862957161709568)), (3, 0, (6, 56668397794435742564352, 75557863725914323419136)), (4, 0, (8, 75557863725914323419136, 151115727451828646838272)), (6, 0, (0, 2048, 604462909807314587353088)), (7, 0, (0, 2, 1208925819614629174706176)), (8, 0, (0, 4096, 2417851639229258349412352)), (9, 0, (384, 3626777458843887524118528, 4835703278458516698824704)), (10, 0, (512, 4835703278458516698824704, 9671406556917033397649408)), (5, 1, (17, 160560460417567937265664, 302231454903657293676544)), (11, 1, (1120, 10275869466724347985002496, 19342813113834066795298816)), (12, 2, (2111, 302231454903657293677568, 0)), (13, 2, (8191, 19342813113834066795300864, 0))] 12288 (by as_aux_lemma => kernel_rfl) (by as_aux_lemma => kernel_rfl) (by as_aux_lemma => kernel_rfl) (fun _ d _ _ _ h => by cases d <;> exact h) ⟨s, h1⟩ ?_
            rw [h1]
            clear h1
            simp only [List.map_cons, List.map_nil, List.getElem?_cons_succ, List.getElem?_cons_zero]
            repeat ((with_reducible refine M3.mix_free (fun K hK => ?_)); go_simp; refine hK _ ?_; clear hK K)
            refine M3.mix_forced (fun K hK => ?_) ⟨_, rfl⟩
            go_simp
            refine (rvadd_any _ _ _ _ _).mono ?_
            rintro e w1 ⟨rfl, hb⟩
            obtain ⟨s, rfl⟩ := hs2 w1 ((hf2 _).trans (hb.mono ((hf2 _).size)))
            refine hK.out _ _ ⟨s, rfl⟩ (fun _ => ?_)
            clear hK K hb
            repeat ((with_reducible refine M3.mix_free (fun K hK => ?_)); go_simp; refine hK _ ?_; clear hK K)
            refine M3.mix_forced (fun K hK => ?_) ⟨_, rfl⟩
            go_simp
            refine (rvmul_any _ _ _ _ _ m1 m2 x1 x2 m3 m4 x3 x4).mono ?_
            rintro e w1 ⟨rfl, hb⟩
            obtain ⟨s, rfl⟩ := hs2 w1 ((hf2 _).trans (hb.mono ((hf2 _).size)))
            refine hK.out _ _ ⟨s, rfl⟩ (fun _ => ?_)
            clear hK K hb
            refine M3.mix_last (fun K hK => ?_)
            go_simp
            refine hK.out _ _ ?_
            clear hK K
            refine M3.mix_last (fun K hK => ?_)
            go_simp
            refine hK.out _ _ ?_
            clear hK K
            refine M3.mix_nil ?_
            go_wp2_with fail
            go_roundw
            case rel => exact ⟨k + 1, by omega, by go_num, by
              rw [hsa.out, hsm.out]
              exact ⟨by simp [go_sem, c0, vadd], by simp [go_sem, c1, vadd], by simp [go_sem, d0, vmul], by simp [go_sem, d1, vmul], by simp [go_sem, f0], by simp [go_sem, f1], by simp [go_sem, g0], by simp [go_sem, g1], by simpa using hz2 _⟩,
              ((((hbz _).setCell hBw _).setCell hBw _).setCell (by simp; omega) _).setCell (by simp; omega) _⟩
            case measure => simp [intOf]; omega
        · as_aux_lemma =>
          have hkk : k = vs.length := by omega
          subst hkk
          clear t2
          rw [List.take_length] at h2
          have t2 : ∀ s, Two B1 _ _ (f2 s) := fun s => h2.below (hf2 s)
          have c0 := fun s => (t2 s).c0
          have c1 := fun s => (t2 s).c1
          have d0 := fun s => (t2 s).d0
          have d1 := fun s => (t2 s).d1
          have hbz : ∀ s, Below w.heap.size w (f2 s) := fun s => hB.trans ((hf2 s).mono hB.size)
          clear t2 h2 hf hs hk hlt hBw
          have hm1 : xs.length ≤ maxLen := by unfold maxLen; omega
          have hm2 : vs.length ≤ maxLen := by unfold maxLen; omega
          go_wp2_with fail
          obtain ⟨s, h1⟩ := hs2 (((wr.alloc (.cells #[] 36)).alloc (.cells #[] 37)).alloc (.cells #[] 27)).drew (by refine Below.drew ?_; repeat (first | exact Below.refl _ _ | refine Below.alloc ?_ (by simp <;> omega) _))
          refine M3.wp_region_fast (S := fun w' => ∃ s, w' = f2 s) [(0, 0, 309485009821345068724781056), (1, 309485009821345068724781056, 618970019642690137449562112), (2, 618970019642690137449570304, 1237940039285380274899124224), (6, 1856910058928070412348686336, 2475880078570760549798248448), (2, 618970019642690137449562113, 4951760157141521099596496896), (26, 8046610255354971786844307456, 9903520314283042199192993792), (2, 618970019642690137449562144, 19807040628566084398385987584), (98, 30329530962491816735028543488, 39614081257132168796771975168), (130, 40233051276774858934221537280, 79228162514264337593543950336), (288, 79228162514264337593543950336, 158456325028528675187087900672), (512, 158456325028528675187087908864, 316912650057057350374175801344), (1536, 475368975085586025561263702016, 633825300114114700748351602688), (512, 158456325028528675187087900673, 1267650600228229401496703205376), (6656, 2059932225370872777432142708736, 2535301200456458802993406410752), (512, 158456325028528675187087900736, 5070602400912917605986812821504), (25088, 7764359926397905084167307132928, 10141204801825835211973625643008), (33280, 10299661126854363887160713543680, 20282409603651670423947251286016), (73728, 20282409603651670423947251286016, 40564819207303340847894502572032), (131072, 40564819207303340847894502588416, 81129638414606681695789005144064), (393216, 121694457621910022543683507716096, 162259276829213363391578010288128), (131072, 40564819207303340847894502572033, 324518553658426726783156020576256), (1703936, 527342649694943431022628533436416, 649037107316853453566312041152512), (131072, 40564819207303340847894502572160, 1298074214633706907132624082305024), (6422528, 1987676141157863701546830626029568, 2596148429267413814265248164610048), (8519680, 2636713248474717155113142667182080, 5192296858534827628530496329220096), (18874368, 5192296858534827628530496329220096, 10384593717069655257060992658440192), (33554432, 10384593717069655257060992658456576, 20769187434139310514121985316880384), (100663296, 31153781151208965771182977975320576, 41538374868278621028243970633760768), (33554432, 10384593717069655257060992658440193, 83076749736557242056487941267521536), (436207616, 134999718321905518341792904559722496, 166153499473114484112975882535043072), (33554432, 10384593717069655257060992658440448, 332306998946228968225951765070086144), (1644167168, 508845092136413107595988640263569408, 664613997892457936451903530140172288), (2181038080, 674998591609527591708964522798612480, 1329227995784915872903807060280344576), (4831838208, 1329227995784915872903807060280344576, 2658455991569831745807614120560689152), (8589934592, 2658455991569831745807614120560721920, 5316911983139663491615228241121378304), (25769803776, 7975367974709495237422842361682067456, 10633823966279326983230456482242756608), (8589934592, 2658455991569831745807614120560689154, 21267647932558653966460912964485513216), (111669149696, 34559927890407812695498983567288958976, 42535295865117307932921825928971026432), (8589934592, 2658455991569831745807614120560690176, 85070591730234615865843651857942052864), (420906795008, 130264343586921755544573091907473768448, 170141183460469231731687303715884105728), (558345748480, 172799639452039063477494917836444794880, 340282366920938463463374607431768211456), (1236950581248, 340282366920938463463374607431768211456, 680564733841876926926749214863536422912), (2199023255552, 680564733841876926926749214863536455680, 1361129467683753853853498429727072845824), (6597069766656, 2041694201525630780780247644590609268736, 2722258935367507707706996859454145691648), (2199023255552, 680564733841876926926749214863536422914, 5444517870735015415413993718908291383296), (28587302322176, 8847341539944400050047739793225973497856, 10889035741470030830827987437816582766592), (2199023255552, 680564733841876926926749214863536424960, 21778071482940061661655974875633165533184), (107752139522048, 33347671958251969419410711528313284722688, 43556142965880123323311949751266331066368), (142936511610880, 44236707699722000250238698966129867489280, 87112285931760246646623899502532662132736), (562949953421311, 87112285931760246646623899502532662132736, 16)] [(0, 1, (0, 0, 309485009821345068724781056)), (1, 0, (1, 309485009821345068724781056, 618970019642690137449562112)), (2, 0, (2, 618970019642690137449570304, 1237940039285380274899124224)), (3, 0, (6, 1856910058928070412348686336, 2475880078570760549798248448)), (4, 0, (2, 618970019642690137449562113, 4951760157141521099596496896)), (6, 0, (2, 618970019642690137449562144, 19807040628566084398385987584)), (5, 1, (26, 8046610255354971786844307456, 9903520314283042199192993792)), (7, 0, (98, 30329530962491816735028543488, 39614081257132168796771975168)), (8, 0, (130, 40233051276774858934221537280, 79228162514264337593543950336)), (9, 0, (288, 79228162514264337593543950336, 158456325028528675187087900672)), (10, 0, (512, 158456325028528675187087908864, 316912650057057350374175801344)), (11, 0, (1536, 475368975085586025561263702016, 633825300114114700748351602688)), (12, 0, (512, 158456325028528675187087900673, 1267650600228229401496703205376)), (14, 0, (512, 158456325028528675187087900736, 5070602400912917605986812821504)), (13, 1, (6656, 2059932225370872777432142708736, 2535301200456458802993406410752)), (15, 0, (25088, 7764359926397905084167307132928, 10141204801825835211973625643008)), (16, 0, (33280, 10299661126854363887160713543680, 20282409603651670423947251286016)), (17, 0, (73728, 20282409603651670423947251286016, 40564819207303340847894502572032)), (18, 0, (131072, 40564819207303340847894502588416, 81129638414606681695789005144064)), (19, 0, (393216, 121694457621910022543683507716096, 162259276829213363391578010288128)), (20, 0, (131072, 40564819207303340847894502572033, 324518553658426726783156020576256)), (22, 0, (131072, 40564819207303340847894502572160, 1298074214633706907132624082305024)), (21, 1, (1703936, 527342649694943431022628533436416, 649037107316853453566312041152512)), (23, 0, (6422528, 1987676141157863701546830626029568, 2596148429267413814265248164610048)), (24, 0, (8519680, 2636713248474717155113142667182080, 5192296858534827628530496329220096)), (25, 0, (18874368, 5192296858534827628530496329220096, 10384593717069655257060992658440192)), (26, 0, (33554432, 10384593717069655257060992658456576, 20769187434139310514121985316880384)), (27, 0, (100663296, 31153781151208965771182977975320576, 41538374868278621028243970633760768)), (28, 0, (33554432, 10384593717069655257060992658440193, 83076749736557242056487941267521536)), (30, 0, (33554432, 10384593717069655257060992658440448, 332306998946228968225951765070086144)), (29, 1, (436207616, 134999718321905518341792904559722496, 166153499473114484112975882535043072)), (31, 0, (1644167168, 508845092136413107595988640263569408, 664613997892457936451903530140172288)), (32, 0, (2181038080, 674998591609527591708964522798612480, 1329227995784915872903807060280344576)), (33, 0, (4831838208, 1329227995784915872903807060280344576, 2658455991569831745807614120560689152)), (34, 0, (8589934592, 2658455991569831745807614120560721920, 5316911983139663491615228241121378304)), (35, 0, (25769803776, 7975367974709495237422842361682067456, 10633823966279326983230456482242756608)), (36, 0, (8589934592, 2658455991569831745807614120560689154, 21267647932558653966460912964485513216)), (38, 0, (8589934592, 2658455991569831745807614120560690176, 85070591730234615865843651857942052864)), (37, 1, (111669149696, 34559927890407812695498983567288958976, 42535295865117307932921825928971026432)), (39, 0, (420906795008, 130264343586921755544573091907473768448, 170141183460469231731687303715884105728)), (40, 0, (558345748480, 172799639452039063477494917836444794880, 340282366920938463463374607431768211456)), (41, 0, (1236950581248, 340282366920938463463374607431768211456, 680564733841876926926749214863536422912)), (42, 0, (2199023255552, 680564733841876926926749214863536455680, 1361129467683753853853498429727072845824)), (43, 0, (6597069766656, 2041694201525630780780247644590609268736, 2722258935367507707706996859454145691648)), (44, 0, (2199023255552, 680564733841876926926749214863536422914, 5444517870735015415413993718908291383296)), (46, 0, (2199023255552, 680564733841876926926749214863536424960, 21778071482940061661655974875633165533184)), (45, 1, (28587302322176, 8847341539944400050047739793225973497856, 10889035741470030830827987437816582766592)), (47, 0, (107752139522048, 33347671958251969419410711528313284722688, 43556142965880123323311949751266331066368)), (48, 0, (142936511610880, 44236707699722000250238698966129867489280, 87112285931760246646623899502532662132736)), (49, 0, (562949953421311, 87112285931760246646623899502532662132736, 16))] 0 (by as_aux_lemma => kernel_rfl) (by as_aux_lemma => kernel_rfl) (by as_aux_lemma => kernel_rfl) (fun _ d _ _ _ h => by cases d <;> exact h) ⟨s, h1⟩ ?_
          rw [h1]
          clear h1
          simp only [List.map_cons, List.map_nil, List.getElem?_cons_succ, List.getElem?_cons_zero]
          as_aux_lemma =>
          repeat ((with_reducible refine M3.mix_free (fun K hK => ?_)); go_simp; refine hK _ ?_; clear hK K)
          refine M3.mix_forced (fun K hK => ?_) ⟨_, rfl⟩
          go_simp
          refine (awake_any _).mono ?_
          rintro e w1 ⟨rfl, hb⟩
          obtain ⟨s, rfl⟩ := hs2 w1 ((hf2 _).trans (hb.mono ((hf2 _).size)))
          refine hK.out _ _ ⟨s, rfl⟩ (fun _ => ?_)
          clear hK K hb
          repeat ((with_reducible refine M3.mix_free (fun K hK => ?_)); go_simp; refine hK _ ?_; clear hK K)
          refine M3.mix_forced (fun K hK => ?_) ⟨_, rfl⟩
          go_simp
          refine (sumT _ a c xs (HR.out.below (hbz _)) hm1).mono ?_
          rintro e w1 ⟨rfl, hb⟩
          obtain ⟨s, rfl⟩ := hs2 w1 ((hf2 _).trans (hb.mono ((hf2 _).size)))
          refine hK.out _ _ ⟨s, rfl⟩ (fun _ => ?_)
          clear hK K hb
          repeat ((with_reducible refine M3.mix_free (fun K hK => ?_)); go_simp; refine hK _ ?_; clear hK K)
          refine M3.mix_forced (fun K hK => ?_) ⟨_, rfl⟩
          go_simp
          refine (prodT _ a c xs (HR.out.below (hbz _)) hm1 HX.out).mono ?_
          rintro e w1 ⟨rfl, hb⟩
          obtain ⟨s, rfl⟩ := hs2 w1 ((hf2 _).trans (hb.mono ((hf2 _).size)))
          refine hK.out _ _ ⟨s, rfl⟩ (fun _ => ?_)
          clear hK K hb
          repeat ((with_reducible refine M3.mix_free (fun K hK => ?_)); go_simp; refine hK _ ?_; clear hK K)
          refine M3.mix_forced (fun K hK => ?_) ⟨_, rfl⟩
          go_simp
          refine (sumC _ a c xs (HR.out.below (hbz _)) hm1 HX.out).mono ?_
          rintro e w1 ⟨rfl, hb⟩
          obtain ⟨s, rfl⟩ := hs2 w1 ((hf2 _).trans (hb.mono ((hf2 _).size)))
          refine hK.out _ _ ⟨s, rfl⟩ (fun _ => ?_)
          clear hK K hb
          repeat ((with_reducible refine M3.mix_free (fun K hK => ?_)); go_simp; refine hK _ ?_; clear hK K)
          refine M3.mix_forced (fun K hK => ?_) ⟨_, rfl⟩
          go_simp
          refine (prodC _ a c xs (HR.out.below (hbz _)) hm1 HX.out).mono ?_
          rintro e w1 ⟨rfl, hb⟩
          obtain ⟨s, rfl⟩ := hs2 w1 ((hf2 _).trans (hb.mono ((hf2 _).size)))
          refine hK.out _ _ ⟨s, rfl⟩ (fun _ => ?_)
          clear hK K hb
          repeat ((with_reducible refine M3.mix_free (fun K hK => ?_)); go_simp; refine hK _ ?_; clear hK K)
          refine M3.mix_forced (fun K hK => ?_) ⟨_, rfl⟩
          go_simp
          refine (sumV _ a2 c2 vs (HR2.out.below (hbz _)) hm2).mono ?_
          rintro e w1 ⟨rfl, hb⟩
          obtain ⟨s, rfl⟩ := hs2 w1 ((hf2 _).trans (hb.mono ((hf2 _).size)))
          refine hK.out _ _ ⟨s, rfl⟩ (fun _ => ?_)
          clear hK K hb
          repeat ((with_reducible refine M3.mix_free (fun K hK => ?_)); go_simp; refine hK _ ?_; clear hK K)
          refine M3.mix_forced (fun K hK => ?_) ⟨_, rfl⟩
          go_simp
          refine (prodV _ a2 c2 vs (HR2.out.below (hbz _)) hm2 HV.out).mono ?_
          rintro e w1 ⟨rfl, hb⟩
          obtain ⟨s, rfl⟩ := hs2 w1 ((hf2 _).trans (hb.mono ((hf2 _).size)))
          refine hK.out _ _ ⟨s, rfl⟩ (fun _ => ?_)
          clear hK K hb
          repeat ((with_reducible refine M3.mix_free (fun K hK => ?_)); go_simp; refine hK _ ?_; clear hK K)
          refine M3.mix_nil ?_
          go_wp2_with fail
          go_ret
          exact ⟨rfl, hbz _⟩

theorem lists_any (w : World) (a a2 : Option Addr) (c c2 : Nat) (xs : List Int) (vs : List (Int × Int)) (hr : IntRow w a xs) (hr2 : ValRow w a2 vs) (hn : xs.length ≤ maxLen) (hn2 : vs.length ≤ maxLen) :
    Calls Try.prog 4 #[.slice a xs.length c, .slice a2 vs.length c2] w fun e w' => e = .returned (.bool true) ∧ Below w.heap.size w w' := by
  by_cases h : 50 < xs.length ∨ 50 < vs.length ∨ xs.all intB = false ∨ (vs.all fun x => valB x.1 x.2) = false
  · exact lists_no w a a2 c c2 xs vs hr hr2 hn hn2 h
  · have h1 : xs.length ≤ 50 := by omega
    have h2 : vs.length ≤ 50 := by omega
    have h3 : xs.all intB = true := by
      cases h3 : xs.all intB
      · exact absurd (Or.inr (Or.inr (Or.inl h3))) h
      · rfl
    have h4 : (vs.all fun x => valB x.1 x.2) = true := by
      cases h4 : (vs.all fun x => valB x.1 x.2)
      · exact absurd (Or.inr (Or.inr (Or.inr h4))) h
      · rfl
    have hia := ints_any w a c xs hr hn
    have hva := values_any w a2 c2 vs hr2 hn2
    rw [h3] at hia
    rw [h4] at hva
    refine lists_core w a a2 c c2 xs vs hr hr2 h1 h2 hia hva (fun x hx => intB_iff.1 (List.all_eq_true.1 h3 x hx)) (fun x hx => ?_)
    have h5 := List.all_eq_true.1 h4 x hx
    exact vel_ok (valB_vel h5)
end Go.Proofs.Ytdnkkeabimjbaaa
