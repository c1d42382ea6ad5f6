/- Cost turns sums and products of values into those of costs, and being different from zero turns them into those of truth values: the law's walk. Printed by gen26hom.py. -/
import Derived.Test.YtdnkkeabimjbaaaTo
import Derived.Test.YtdnkkeabimjbaaaMix2
namespace Go.Proofs.Ytdnkkeabimjbaaa
open Go.RowKit

theorem Try.field23 (x y : Int) (w : World) : (Instr.field 23 (.agg #[.int .i64 x, .int .i64 y]) 0).run Try.prog w = .ok (.int .i64 x) w := by kernel_rfl
theorem teq_to {a b : Int} {r : Bool} (h : (a == b) = r) (w : World) : Calls Try.prog 44 #[.agg #[], .int .i64 a, .int .i64 b] w fun e w' => e = .returned (.bool r) ∧ Below w.heap.size w w' := by
  subst h; exact teq_any a b w
theorem ceq_to {a b : Int} {r : Bool} (h : (a == b) = r) (w : World) : Calls Try.prog 45 #[.agg #[], .int .i64 a, .int .i64 b] w fun e w' => e = .returned (.bool r) ∧ Below w.heap.size w w' := by
  subst h; exact ceq_any a b w

set_option maxRecDepth 100000 in
set_option maxHeartbeats 1000000 in
theorem hom_no (ca sa cb sb : Int) (w : World) (h : (valB ca sa && valB cb sb) = false) :
    Calls Try.prog 10 #[.agg #[.int .i64 ca, .int .i64 sa], .agg #[.int .i64 cb, .int .i64 sb]] w fun e w' => e = .returned (.bool true) ∧ Below w.heap.size w w' := by
  have hva := fun w => value_any ca sa w
  have hvb := fun w => value_any cb sb w
  obtain ⟨S, hne, f, hf, hs⟩ := fam_of (w.heap.size + 1 + 1) ((w.alloc (.cells #[.int .i64 ca, .int .i64 sa] 23)).alloc (.cells #[.int .i64 cb, .int .i64 sb] 23))
  have hz : ∀ s, w.heap.size + 1 + 1 ≤ (f s).heap.size := fun s => by simpa using (hf s).size
  have k00 : ∀ s, (f s).cell? ⟨w.heap.size, 0, none⟩ = some (.int .i64 ca) := fun s => ((hf s).cell (p := ⟨w.heap.size, 0, none⟩) (by simp <;> omega)).trans (by simp [go_sem])
  have k01 : ∀ s, (f s).cell? ⟨w.heap.size, 1, none⟩ = some (.int .i64 sa) := fun s => ((hf s).cell (p := ⟨w.heap.size, 1, none⟩) (by simp <;> omega)).trans (by simp [go_sem])
  have k10 : ∀ s, (f s).cell? ⟨w.heap.size + 1, 0, none⟩ = some (.int .i64 cb) := fun s => ((hf s).cell (p := ⟨w.heap.size + 1, 0, none⟩) (by simp <;> omega)).trans (by simp [go_sem])
  have k11 : ∀ s, (f s).cell? ⟨w.heap.size + 1, 1, none⟩ = some (.int .i64 sb) := fun s => ((hf s).cell (p := ⟨w.heap.size + 1, 1, none⟩) (by simp <;> omega)).trans (by simp [go_sem])
  have hbel : ∀ s, Below w.heap.size w (f s) := fun s => (show Below w.heap.size w ((w.alloc (.cells #[.int .i64 ca, .int .i64 sa] 23)).alloc (.cells #[.int .i64 cb, .int .i64 sb] 23)) by repeat (first | exact Below.refl _ _ | refine Below.alloc ?_ (by simp <;> omega) _)).trans ((hf s).mono (by omega))
  obtain ⟨s, h0⟩ := hs ((w.alloc (.cells #[.int .i64 ca, .int .i64 sa] 23)).alloc (.cells #[.int .i64 cb, .int .i64 sb] 23)) (Below.refl _ _)
  have H0 := Lib.hid h0
  clear h0
  cases ha : valB ca sa
  · rw [ha] at hva
    clear hvb ha h
    go_enter Try.func10, Try.ntmps10
    go_wp2_with fail
    rw [H0.out]
    clear H0
    refine (hva _).mono ?_
    rintro e w1 ⟨rfl, hb⟩
    obtain ⟨s, rfl⟩ := hs w1 ((hf _).trans (hb.mono (hz _)))
    clear hb
    go_wp2_with (go_at_call 12; with_reducible refine (awake_any _).mono ?_; rintro e w1 ⟨rfl, hb⟩; obtain ⟨s, rfl⟩ := hs w1 ((hf _).trans (hb.mono (hz _))); clear hb)
    go_ret
    exact ⟨rfl, hbel s⟩
  · rw [ha] at hva h
    have hb : valB cb sb = false := by simpa using h
    rw [hb] at hvb
    clear hb ha h
    go_enter Try.func10, Try.ntmps10
    go_wp2_with fail
    rw [H0.out]
    clear H0
    refine (hva _).mono ?_
    rintro e w1 ⟨rfl, hb⟩
    obtain ⟨s, rfl⟩ := hs w1 ((hf _).trans (hb.mono (hz _)))
    clear hb
    go_wp2_with (first | (go_at_call 11; with_reducible refine (hvb _).mono ?_; rintro e w1 ⟨rfl, hb⟩; obtain ⟨s, rfl⟩ := hs w1 ((hf _).trans (hb.mono (hz _))); clear hb) | (go_at_call 12; with_reducible refine (awake_any _).mono ?_; rintro e w1 ⟨rfl, hb⟩; obtain ⟨s, rfl⟩ := hs w1 ((hf _).trans (hb.mono (hz _))); clear hb))
    go_ret
    exact ⟨rfl, hbel s⟩

set_option maxRecDepth 100000 in
set_option maxHeartbeats 8000000 in
theorem hom_ge (a0 a1 b0 b1 r0 r1 m0 m1 p : Int) (ea eb za zb : Bool) (w : World) (hva : ∀ w, Calls Try.prog 11 #[.agg #[.int .i64 a0, .int .i64 a1]] w fun e w' => e = .returned (.bool true) ∧ Below w.heap.size w w') (hvb : ∀ w, Calls Try.prog 11 #[.agg #[.int .i64 b0, .int .i64 b1]] w fun e w' => e = .returned (.bool true) ∧ Below w.heap.size w w')
    (ka : vel (a0, a1)) (kb : vel (b0, b1)) (ba : 0 ≤ a0 ∧ a0 ≤ 1099511627776) (bb : 0 ≤ b0 ∧ b0 ≤ 1099511627776) (_br : 0 ≤ m0 ∧ m0 ≤ 1099511627776)
    (hv : vadd (a0, a1) (b0, b1) = (r0, r1)) (ht : tadd a0 b0 = r0) (hm : vmul (a0, a1) (b0, b1) = (m0, m1)) (hmt : tmul a0 b0 = m0) (hp : cmul a0 b0 = p)
    (za_ : (a0 == 0) = za) (zb_ : (b0 == 0) = zb) (zs_ : (m0 == 0) = (za && zb)) (zp_ : (p == 0) = (za || zb))
    (ea_ : (a0 == 1099511627776) = ea) (eb_ : (b0 == 1099511627776) = eb) (es_ : (r0 == 1099511627776) = (ea && eb)) (hlt : 1099511627776 ≤ a0 + b0) :
    Calls Try.prog 10 #[.agg #[.int .i64 a0, .int .i64 a1], .agg #[.int .i64 b0, .int .i64 b1]] w fun e w' => e = .returned (.bool true) ∧ Below w.heap.size w w' := by
  have hfd := Try.field23
  obtain ⟨S, hne, f, hf, hs⟩ := fam_of (w.heap.size + 1 + 1) ((w.alloc (.cells #[.int .i64 a0, .int .i64 a1] 23)).alloc (.cells #[.int .i64 b0, .int .i64 b1] 23))
  have hz : ∀ s, w.heap.size + 1 + 1 ≤ (f s).heap.size := fun s => by simpa using (hf s).size
  have k00 : ∀ s, (f s).cell? ⟨w.heap.size, 0, none⟩ = some (.int .i64 a0) := fun s => ((hf s).cell (p := ⟨w.heap.size, 0, none⟩) (by simp <;> omega)).trans (by simp [go_sem])
  have k01 : ∀ s, (f s).cell? ⟨w.heap.size, 1, none⟩ = some (.int .i64 a1) := fun s => ((hf s).cell (p := ⟨w.heap.size, 1, none⟩) (by simp <;> omega)).trans (by simp [go_sem])
  have k10 : ∀ s, (f s).cell? ⟨w.heap.size + 1, 0, none⟩ = some (.int .i64 b0) := fun s => ((hf s).cell (p := ⟨w.heap.size + 1, 0, none⟩) (by simp <;> omega)).trans (by simp [go_sem])
  have k11 : ∀ s, (f s).cell? ⟨w.heap.size + 1, 1, none⟩ = some (.int .i64 b1) := fun s => ((hf s).cell (p := ⟨w.heap.size + 1, 1, none⟩) (by simp <;> omega)).trans (by simp [go_sem])
  have hbel : ∀ s, Below w.heap.size w (f s) := fun s => (show Below w.heap.size w ((w.alloc (.cells #[.int .i64 a0, .int .i64 a1] 23)).alloc (.cells #[.int .i64 b0, .int .i64 b1] 23)) by repeat (first | exact Below.refl _ _ | refine Below.alloc ?_ (by simp <;> omega) _)).trans ((hf s).mono (by omega))
  obtain ⟨s, h0⟩ := hs ((w.alloc (.cells #[.int .i64 a0, .int .i64 a1] 23)).alloc (.cells #[.int .i64 b0, .int .i64 b1] 23)) (Below.refl _ _)
  have H0 := Lib.hid h0
  clear h0
  have HL := Lib.hid hlt
  clear hlt
  go_enter Try.func10, Try.ntmps10
  go_wp2_with fail
  rw [H0.out]
  clear H0
  refine (hva _).mono ?_
  rintro e w1 ⟨rfl, hb⟩
  obtain ⟨s, rfl⟩ := hs w1 ((hf _).trans (hb.mono (hz _)))
  clear hb
  go_wp2_with (go_at_call 11; with_reducible refine (hvb _).mono ?_; rintro e w1 ⟨rfl, hb⟩; obtain ⟨s, rfl⟩ := hs w1 ((hf _).trans (hb.mono (hz _))); clear hb)
  clear hva hvb
  as_aux_lemma =>
   obtain ⟨s, h1⟩ := hs (((((f s).alloc (.cells #[] 27)).alloc (.cells #[] 36)).alloc (.cells #[] 37)).alloc (.cells #[] 45)).drew (((((hf s).alloc (hz s) _).alloc (by have := hz s; simp; omega) _).alloc (by have := hz s; simp; omega) _).alloc (by have := hz s; simp; omega) _).drew
   refine wp_region_fast (S := fun w' => ∃ s, w' = f s) [(0, 64, 536870912), (0, 4, 1073741824), (2, 1073741824, 2147483648), (0, 64, 4294967296), (8, 4294967296, 8589934592), (21, 11274289152, 17179869184), (32, 17179869184, 34359738368), (0, 64, 68719476736), (0, 8, 137438953472), (256, 137438953472, 274877906944), (0, 64, 549755813888), (1056, 549755813888, 1099511627776), (2688, 1443109011456, 2199023255552), (4096, 2199023255552, 4398046511104), (4223, 34359738368, 512), (32767, 4398046511104, 1024)] [(0, false, (0, 64, 536870912)), (1, false, (0, 4, 1073741824)), (2, false, (2, 1073741824, 2147483648)), (3, false, (0, 64, 4294967296)), (7, false, (0, 64, 68719476736)), (8, false, (0, 8, 137438953472)), (9, false, (256, 137438953472, 274877906944)), (10, false, (0, 64, 549755813888)), (4, true, (8, 4294967296, 8589934592)), (5, true, (21, 11274289152, 17179869184)), (6, false, (32, 17179869184, 34359738368)), (11, true, (1056, 549755813888, 1099511627776)), (12, true, (2688, 1443109011456, 2199023255552)), (13, false, (4096, 2199023255552, 4398046511104)), (14, false, (4223, 34359738368, 512)), (15, false, (32767, 4398046511104, 1024))] (by as_aux_lemma => kernel_rfl) (by as_aux_lemma => kernel_rfl) (by as_aux_lemma => kernel_rfl) (fun _ d _ _ _ h => by cases d <;> exact h) ⟨s, h1⟩ ?_
   rw [h1]
   clear h1
   simp only [List.map_cons, List.map_nil, List.getElem?_cons_succ, List.getElem?_cons_zero]
   as_aux_lemma =>
    repeat ((with_reducible refine mix_free (fun K hK => ?_)); go_simp; refine hK _ ?_; clear hK K)
    refine mix_forced (fun K hK => ?_) ⟨_, rfl⟩
    go_simp
    refine (tzero_any _).mono ?_
    rintro e w1 ⟨rfl, hb⟩
    obtain ⟨s, rfl⟩ := hs w1 ((hf _).trans (hb.mono (hz _)))
    refine hK.out _ _ ⟨s, rfl⟩ (fun _ => ?_)
    clear hK K hb
    repeat ((with_reducible refine mix_free (fun K hK => ?_)); go_simp; refine hK _ ?_; clear hK K)
    refine mix_forced (fun K hK => ?_) ⟨_, rfl⟩
    go_simp
    refine (teq_to ea_ _).mono ?_
    rintro e w1 ⟨rfl, hb⟩
    obtain ⟨s, rfl⟩ := hs w1 ((hf _).trans (hb.mono (hz _)))
    refine hK.out _ _ ⟨s, rfl⟩ (fun _ => ?_)
    clear hK K hb
    repeat ((with_reducible refine mix_free (fun K hK => ?_)); go_simp; refine hK _ ?_; clear hK K)
    refine mix_forced (fun K hK => ?_) ⟨_, rfl⟩
    go_simp
    refine (tzero_any _).mono ?_
    rintro e w1 ⟨rfl, hb⟩
    obtain ⟨s, rfl⟩ := hs w1 ((hf _).trans (hb.mono (hz _)))
    refine hK.out _ _ ⟨s, rfl⟩ (fun _ => ?_)
    clear hK K hb
    repeat ((with_reducible refine mix_free (fun K hK => ?_)); go_simp; refine hK _ ?_; clear hK K)
    refine mix_forced (fun K hK => ?_) ⟨_, rfl⟩
    go_simp
    refine (teq_to eb_ _).mono ?_
    rintro e w1 ⟨rfl, hb⟩
    obtain ⟨s, rfl⟩ := hs w1 ((hf _).trans (hb.mono (hz _)))
    refine hK.out _ _ ⟨s, rfl⟩ (fun _ => ?_)
    clear hK K hb
    as_aux_lemma =>
     repeat ((with_reducible refine mix_free (fun K hK => ?_)); go_simp; refine hK _ ?_; clear hK K)
     refine mix_nil ?_
     go_wp2_with fail
     as_aux_lemma =>
      obtain ⟨s, h1⟩ := hs ((f s)).drew ((hf s)).drew
      refine wp_region_fast (S := fun w' => ∃ s, w' = f s) [(0, 128, 8796093022208), (0, 4, 17592186044416), (2, 17592186044416, 35184372088832), (0, 128, 70368744177664), (8, 70368744177664, 140737488355328), (21, 184717953466368, 281474976710656), (32, 281474976710656, 562949953421312), (0, 128, 1125899906842624), (0, 8, 2251799813685248), (256, 2251799813685248, 4503599627370496), (0, 128, 9007199254740992), (1056, 9007199254740992, 18014398509481984), (2688, 23643898043695104, 36028797018963968), (4096, 36028797018963968, 72057594037927936), (4223, 562949953421312, 2048), (32767, 72057594037927936, 4096)] [(0, false, (0, 128, 8796093022208)), (1, false, (0, 4, 17592186044416)), (2, false, (2, 17592186044416, 35184372088832)), (3, false, (0, 128, 70368744177664)), (7, false, (0, 128, 1125899906842624)), (8, false, (0, 8, 2251799813685248)), (9, false, (256, 2251799813685248, 4503599627370496)), (10, false, (0, 128, 9007199254740992)), (4, true, (8, 70368744177664, 140737488355328)), (5, true, (21, 184717953466368, 281474976710656)), (6, false, (32, 281474976710656, 562949953421312)), (11, true, (1056, 9007199254740992, 18014398509481984)), (12, true, (2688, 23643898043695104, 36028797018963968)), (13, false, (4096, 36028797018963968, 72057594037927936)), (14, false, (4223, 562949953421312, 2048)), (15, false, (32767, 72057594037927936, 4096))] (by as_aux_lemma => kernel_rfl) (by as_aux_lemma => kernel_rfl) (by as_aux_lemma => kernel_rfl) (fun _ d _ _ _ h => by cases d <;> exact h) ⟨s, h1⟩ ?_
      rw [h1]
      clear h1
      simp only [List.map_cons, List.map_nil, List.getElem?_cons_succ, List.getElem?_cons_zero]
      as_aux_lemma =>
       repeat ((with_reducible refine mix_free (fun K hK => ?_)); go_simp; refine hK _ ?_; clear hK K)
       refine mix_forced (fun K hK => ?_) ⟨_, rfl⟩
       go_simp
       refine (czero_any _).mono ?_
       rintro e w1 ⟨rfl, hb⟩
       obtain ⟨s, rfl⟩ := hs w1 ((hf _).trans (hb.mono (hz _)))
       refine hK.out _ _ ⟨s, rfl⟩ (fun _ => ?_)
       clear hK K hb
       repeat ((with_reducible refine mix_free (fun K hK => ?_)); go_simp; refine hK _ ?_; clear hK K)
       refine mix_forced (fun K hK => ?_) ⟨_, rfl⟩
       go_simp
       refine (ceq_to za_ _).mono ?_
       rintro e w1 ⟨rfl, hb⟩
       obtain ⟨s, rfl⟩ := hs w1 ((hf _).trans (hb.mono (hz _)))
       refine hK.out _ _ ⟨s, rfl⟩ (fun _ => ?_)
       clear hK K hb
       repeat ((with_reducible refine mix_free (fun K hK => ?_)); go_simp; refine hK _ ?_; clear hK K)
       refine mix_forced (fun K hK => ?_) ⟨_, rfl⟩
       go_simp
       refine (czero_any _).mono ?_
       rintro e w1 ⟨rfl, hb⟩
       obtain ⟨s, rfl⟩ := hs w1 ((hf _).trans (hb.mono (hz _)))
       refine hK.out _ _ ⟨s, rfl⟩ (fun _ => ?_)
       clear hK K hb
       repeat ((with_reducible refine mix_free (fun K hK => ?_)); go_simp; refine hK _ ?_; clear hK K)
       refine mix_forced (fun K hK => ?_) ⟨_, rfl⟩
       go_simp
       refine (ceq_to zb_ _).mono ?_
       rintro e w1 ⟨rfl, hb⟩
       obtain ⟨s, rfl⟩ := hs w1 ((hf _).trans (hb.mono (hz _)))
       refine hK.out _ _ ⟨s, rfl⟩ (fun _ => ?_)
       clear hK K hb
       as_aux_lemma =>
        repeat ((with_reducible refine mix_free (fun K hK => ?_)); go_simp; refine hK _ ?_; clear hK K)
        refine mix_nil ?_
        go_wp2_with fail
        as_aux_lemma =>
         obtain ⟨s, h1⟩ := hs ((f s)).drew ((hf s)).drew
         refine wp_region_fast (S := fun w' => ∃ s, w' = f s) [(0, 32, 144115188075855872), (0, 4, 288230376151711744), (0, 8, 576460752303423488), (7, 1008806316530991104, 1152921504606846976), (8, 1152921504606846976, 2305843009213693952), (0, 64, 4611686018427387904), (0, 4, 9223372036854775808), (64, 9223372036854775808, 18446744073709551616), (0, 8, 36893488147419103232), (256, 36893488147419103232, 73786976294838206464), (680, 96845406386975145984, 147573952589676412928), (1040, 149879795598890106880, 295147905179352825856), (3072, 295147905179352825856, 590295810358705651712), (4096, 590295810358705651744, 1180591620717411303424), (4096, 590295810358705651716, 2361183241434822606848), (4096, 590295810358705651720, 4722366482869645213696), (61440, 8854437155380584775680, 9444732965739290427392), (69632, 10035028776097996079104, 18889465931478580854784), (4096, 590295810358705651776, 37778931862957161709568), (4096, 590295810358705651716, 75557863725914323419136), (528384, 76148159536273029070848, 151115727451828646838272), (4096, 590295810358705651720, 302231454903657293676544), (2101248, 302821750714015999328256, 604462909807314587353088), (5574656, 793947864932459101552640, 1208925819614629174706176), (8523776, 1228405581356466461212672, 2417851639229258349412352), (16781312, 2418441935039617055064064, 4835703278458516698824704), (67108863, 4835703278458516698824704, 8192)] [(0, false, (0, 32, 144115188075855872)), (1, false, (0, 4, 288230376151711744)), (2, false, (0, 8, 576460752303423488)), (5, false, (0, 64, 4611686018427387904)), (6, false, (0, 4, 9223372036854775808)), (7, false, (64, 9223372036854775808, 18446744073709551616)), (8, false, (0, 8, 36893488147419103232)), (9, false, (256, 36893488147419103232, 73786976294838206464)), (3, true, (7, 1008806316530991104, 1152921504606846976)), (4, false, (8, 1152921504606846976, 2305843009213693952)), (10, true, (680, 96845406386975145984, 147573952589676412928)), (11, false, (1040, 149879795598890106880, 295147905179352825856)), (12, false, (3072, 295147905179352825856, 590295810358705651712)), (13, false, (4096, 590295810358705651744, 1180591620717411303424)), (14, false, (4096, 590295810358705651716, 2361183241434822606848)), (15, false, (4096, 590295810358705651720, 4722366482869645213696)), (18, false, (4096, 590295810358705651776, 37778931862957161709568)), (19, false, (4096, 590295810358705651716, 75557863725914323419136)), (20, false, (528384, 76148159536273029070848, 151115727451828646838272)), (21, false, (4096, 590295810358705651720, 302231454903657293676544)), (22, false, (2101248, 302821750714015999328256, 604462909807314587353088)), (16, true, (61440, 8854437155380584775680, 9444732965739290427392)), (17, false, (69632, 10035028776097996079104, 18889465931478580854784)), (23, true, (5574656, 793947864932459101552640, 1208925819614629174706176)), (24, false, (8523776, 1228405581356466461212672, 2417851639229258349412352)), (25, false, (16781312, 2418441935039617055064064, 4835703278458516698824704)), (26, false, (67108863, 4835703278458516698824704, 8192))] (by as_aux_lemma => kernel_rfl) (by as_aux_lemma => kernel_rfl) (by as_aux_lemma => kernel_rfl) (fun _ d _ _ _ h => by cases d <;> exact h) ⟨s, h1⟩ ?_
         rw [h1]
         clear h1
         simp only [List.map_cons, List.map_nil, List.getElem?_cons_succ, List.getElem?_cons_zero]
         as_aux_lemma =>
          repeat ((with_reducible refine mix_free (fun K hK => ?_)); go_simp; refine hK _ ?_; clear hK K)
          refine mix_forced (fun K hK => ?_) ⟨_, rfl⟩
          go_simp
          refine (vadd_to hv _).mono ?_
          rintro e w1 ⟨rfl, hb⟩
          obtain ⟨s, rfl⟩ := hs w1 ((hf _).trans (hb.mono (hz _)))
          refine hK.out _ _ ⟨s, rfl⟩ (fun _ => ?_)
          clear hK K hb
          repeat ((with_reducible refine mix_free (fun K hK => ?_)); go_simp; refine hK _ ?_; clear hK K)
          refine mix_forced (fun K hK => ?_) ⟨_, rfl⟩
          go_simp
          refine (tadd_to ht _).mono ?_
          rintro e w1 ⟨rfl, hb⟩
          obtain ⟨s, rfl⟩ := hs w1 ((hf _).trans (hb.mono (hz _)))
          refine hK.out _ _ ⟨s, rfl⟩ (fun _ => ?_)
          clear hK K hb
          repeat ((with_reducible refine mix_free (fun K hK => ?_)); go_simp; refine hK _ ?_; clear hK K)
          refine mix_forced (fun K hK => ?_) ⟨_, rfl⟩
          go_simp
          refine (vmul_to hm _ ka kb).mono ?_
          rintro e w1 ⟨rfl, hb⟩
          obtain ⟨s, rfl⟩ := hs w1 ((hf _).trans (hb.mono (hz _)))
          refine hK.out _ _ ⟨s, rfl⟩ (fun _ => ?_)
          clear hK K hb
          repeat ((with_reducible refine mix_free (fun K hK => ?_)); go_simp; refine hK _ ?_; clear hK K)
          refine mix_forced (fun K hK => ?_) ⟨_, rfl⟩
          go_simp
          refine (tmul_to hmt _ ba bb).mono ?_
          rintro e w1 ⟨rfl, hb⟩
          obtain ⟨s, rfl⟩ := hs w1 ((hf _).trans (hb.mono (hz _)))
          refine hK.out _ _ ⟨s, rfl⟩ (fun _ => ?_)
          clear hK K hb
          as_aux_lemma =>
           repeat ((with_reducible refine mix_free (fun K hK => ?_)); go_simp; refine hK _ ?_; clear hK K)
           refine mix_nil ?_
           go_wp2_with fail
           as_aux_lemma =>
            obtain ⟨s, h1⟩ := hs ((f s)).drew ((hf s)).drew
            refine wp_region_fast (S := fun w' => ∃ s, w' = f s) [(0, 64, 9671406556917033397649408), (0, 64, 19342813113834066795298816), (0, 4, 38685626227668133590597632), (4, 38685626227668133590597632, 77371252455336267181195264), (0, 8, 154742504910672534362390528), (16, 154742504910672534362390528, 309485009821345068724781056), (42, 406199075390515402701275136, 618970019642690137449562112), (0, 64, 1237940039285380274899124224), (192, 1237940039285380274899124224, 2475880078570760549798248448), (321, 3104521504770367720645459968, 4951760157141521099596496896), (512, 4951760157141521099596496896, 9903520314283042199192993792), (0, 256, 19807040628566084398385987584), (0, 512, 39614081257132168796771975168), (0, 1024, 79228162514264337593543950336), (14848, 138649284399962590788701913088, 158456325028528675187087900672), (17408, 168359845342811717386280894464, 316912650057057350374175801344), (49152, 316912650057057350374175801344, 633825300114114700748351602688), (65536, 633825300114114700748351602816, 1267650600228229401496703205376), (65536, 633825300114114700748351602816, 2535301200456458802993406410752), (65536, 633825300114114700748351602692, 5070602400912917605986812821504), (589824, 5704427701027032306735164424192, 10141204801825835211973625643008), (65536, 633825300114114700748351602696, 20282409603651670423947251286016), (2162688, 20916234903765785124695602888704, 40564819207303340847894502572032), (5570560, 53875150509699749563609886228480, 81129638414606681695789005144064), (65536, 633825300114114700748351602816, 162259276829213363391578010288128), (25231360, 162893102129327478092326361890816, 324518553658426726783156020576256), (42139648, 407549667973375752581190080528384, 649037107316853453566312041152512), (67174400, 649670932616967568267060392755200, 1298074214633706907132624082305024), (65536, 633825300114114700748351602944, 2596148429267413814265248164610048), (65536, 633825300114114700748351604736, 5192296858534827628530496329220096), (65536, 633825300114114700748351606784, 10384593717069655257060992658440192), (1946222592, 18173672830172010814557485503873024, 20769187434139310514121985316880384), (2281766912, 22067895474073131535955357750788096, 41538374868278621028243970633760768), (4295032832, 41539008693578735142944718985363456, 83076749736557242056487941267521536), (17179869183, 83076749736557242056487941267521536, 16384)] [(0, false, (0, 64, 9671406556917033397649408)), (1, false, (0, 64, 19342813113834066795298816)), (2, false, (0, 4, 38685626227668133590597632)), (3, false, (4, 38685626227668133590597632, 77371252455336267181195264)), (4, false, (0, 8, 154742504910672534362390528)), (5, false, (16, 154742504910672534362390528, 309485009821345068724781056)), (7, false, (0, 64, 1237940039285380274899124224)), (11, false, (0, 256, 19807040628566084398385987584)), (12, false, (0, 512, 39614081257132168796771975168)), (13, false, (0, 1024, 79228162514264337593543950336)), (6, true, (42, 406199075390515402701275136, 618970019642690137449562112)), (8, true, (192, 1237940039285380274899124224, 2475880078570760549798248448)), (9, true, (321, 3104521504770367720645459968, 4951760157141521099596496896)), (10, false, (512, 4951760157141521099596496896, 9903520314283042199192993792)), (14, true, (14848, 138649284399962590788701913088, 158456325028528675187087900672)), (15, false, (17408, 168359845342811717386280894464, 316912650057057350374175801344)), (16, false, (49152, 316912650057057350374175801344, 633825300114114700748351602688)), (17, false, (65536, 633825300114114700748351602816, 1267650600228229401496703205376)), (18, false, (65536, 633825300114114700748351602816, 2535301200456458802993406410752)), (19, false, (65536, 633825300114114700748351602692, 5070602400912917605986812821504)), (20, false, (589824, 5704427701027032306735164424192, 10141204801825835211973625643008)), (21, false, (65536, 633825300114114700748351602696, 20282409603651670423947251286016)), (22, false, (2162688, 20916234903765785124695602888704, 40564819207303340847894502572032)), (24, false, (65536, 633825300114114700748351602816, 162259276829213363391578010288128)), (28, false, (65536, 633825300114114700748351602944, 2596148429267413814265248164610048)), (29, false, (65536, 633825300114114700748351604736, 5192296858534827628530496329220096)), (30, false, (65536, 633825300114114700748351606784, 10384593717069655257060992658440192)), (23, true, (5570560, 53875150509699749563609886228480, 81129638414606681695789005144064)), (25, true, (25231360, 162893102129327478092326361890816, 324518553658426726783156020576256)), (26, true, (42139648, 407549667973375752581190080528384, 649037107316853453566312041152512)), (27, false, (67174400, 649670932616967568267060392755200, 1298074214633706907132624082305024)), (31, true, (1946222592, 18173672830172010814557485503873024, 20769187434139310514121985316880384)), (32, false, (2281766912, 22067895474073131535955357750788096, 41538374868278621028243970633760768)), (33, false, (4295032832, 41539008693578735142944718985363456, 83076749736557242056487941267521536)), (34, false, (17179869183, 83076749736557242056487941267521536, 16384))] (by as_aux_lemma => kernel_rfl) (by as_aux_lemma => kernel_rfl) (by as_aux_lemma => kernel_rfl) (fun _ d _ _ _ h => by cases d <;> exact h) ⟨s, h1⟩ ?_
            rw [h1]
            clear h1
            simp only [List.map_cons, List.map_nil, List.getElem?_cons_succ, List.getElem?_cons_zero]
            as_aux_lemma =>
             repeat ((with_reducible refine mix_free (fun K hK => ?_)); go_simp; refine hK _ ?_; clear hK K)
             refine mix_forced (fun K hK => ?_) ⟨_, rfl⟩
             go_simp
             refine (tadd_to ht _).mono ?_
             rintro e w1 ⟨rfl, hb⟩
             obtain ⟨s, rfl⟩ := hs w1 ((hf _).trans (hb.mono (hz _)))
             refine hK.out _ _ ⟨s, rfl⟩ (fun _ => ?_)
             clear hK K hb
             repeat ((with_reducible refine mix_free (fun K hK => ?_)); go_simp; refine hK _ ?_; clear hK K)
             refine mix_forced (fun K hK => ?_) ⟨_, rfl⟩
             go_simp
             refine (tzero_any _).mono ?_
             rintro e w1 ⟨rfl, hb⟩
             obtain ⟨s, rfl⟩ := hs w1 ((hf _).trans (hb.mono (hz _)))
             refine hK.out _ _ ⟨s, rfl⟩ (fun _ => ?_)
             clear hK K hb
             repeat ((with_reducible refine mix_free (fun K hK => ?_)); go_simp; refine hK _ ?_; clear hK K)
             refine mix_forced (fun K hK => ?_) ⟨_, rfl⟩
             go_simp
             refine (teq_to es_ _).mono ?_
             rintro e w1 ⟨rfl, hb⟩
             obtain ⟨s, rfl⟩ := hs w1 ((hf _).trans (hb.mono (hz _)))
             refine hK.out _ _ ⟨s, rfl⟩ (fun _ => ?_)
             clear hK K hb
             repeat ((with_reducible refine mix_free (fun K hK => ?_)); go_simp; refine hK _ ?_; clear hK K)
             refine mix_forced (fun K hK => ?_) ⟨_, rfl⟩
             go_simp
             refine (badd_any _ _ _).mono ?_
             rintro e w1 ⟨rfl, hb⟩
             obtain ⟨s, rfl⟩ := hs w1 ((hf _).trans (hb.mono (hz _)))
             refine hK.out _ _ ⟨s, rfl⟩ (fun _ => ?_)
             clear hK K hb
             as_aux_lemma =>
              repeat ((with_reducible refine mix_free (fun K hK => ?_)); go_simp; refine hK _ ?_; clear hK K)
              refine mix_forced (fun K hK => ?_) ⟨_, rfl⟩
              go_simp
              refine (cadd_to hmt _ ba bb).mono ?_
              rintro e w1 ⟨rfl, hb⟩
              obtain ⟨s, rfl⟩ := hs w1 ((hf _).trans (hb.mono (hz _)))
              refine hK.out _ _ ⟨s, rfl⟩ (fun _ => ?_)
              clear hK K hb
              repeat ((with_reducible refine mix_free (fun K hK => ?_)); go_simp; refine hK _ ?_; clear hK K)
              refine mix_forced (fun K hK => ?_) ⟨_, rfl⟩
              go_simp
              refine (czero_any _).mono ?_
              rintro e w1 ⟨rfl, hb⟩
              obtain ⟨s, rfl⟩ := hs w1 ((hf _).trans (hb.mono (hz _)))
              refine hK.out _ _ ⟨s, rfl⟩ (fun _ => ?_)
              clear hK K hb
              repeat ((with_reducible refine mix_free (fun K hK => ?_)); go_simp; refine hK _ ?_; clear hK K)
              refine mix_forced (fun K hK => ?_) ⟨_, rfl⟩
              go_simp
              refine (ceq_to zs_ _).mono ?_
              rintro e w1 ⟨rfl, hb⟩
              obtain ⟨s, rfl⟩ := hs w1 ((hf _).trans (hb.mono (hz _)))
              refine hK.out _ _ ⟨s, rfl⟩ (fun _ => ?_)
              clear hK K hb
              repeat ((with_reducible refine mix_free (fun K hK => ?_)); go_simp; refine hK _ ?_; clear hK K)
              refine mix_forced (fun K hK => ?_) ⟨_, rfl⟩
              go_simp
              refine (badd_any _ _ _).mono ?_
              rintro e w1 ⟨rfl, hb⟩
              obtain ⟨s, rfl⟩ := hs w1 ((hf _).trans (hb.mono (hz _)))
              refine hK.out _ _ ⟨s, rfl⟩ (fun _ => ?_)
              clear hK K hb
              as_aux_lemma =>
               repeat ((with_reducible refine mix_free (fun K hK => ?_)); go_simp; refine hK _ ?_; clear hK K)
               refine mix_nil ?_
               go_wp2_with fail
               as_aux_lemma =>
                obtain ⟨s, h1⟩ := hs ((f s)).drew ((hf s)).drew
                refine wp_region_fast (S := fun w' => ∃ s, w' = f s) [(0, 128, 166153499473114484112975882535043072), (0, 128, 332306998946228968225951765070086144), (0, 4, 664613997892457936451903530140172288), (4, 664613997892457936451903530140172288, 1329227995784915872903807060280344576), (0, 8, 2658455991569831745807614120560689152), (16, 2658455991569831745807614120560689152, 5316911983139663491615228241121378304), (42, 6978446977870808332744987066471809024, 10633823966279326983230456482242756608), (0, 128, 21267647932558653966460912964485513216), (192, 21267647932558653966460912964485513216, 42535295865117307932921825928971026432), (321, 53335273330869749400265258293748826112, 85070591730234615865843651857942052864), (512, 85070591730234615865843651857942052864, 170141183460469231731687303715884105728), (0, 256, 340282366920938463463374607431768211456), (0, 2048, 680564733841876926926749214863536422912), (0, 4096, 1361129467683753853853498429727072845824), (14848, 2381976568446569244243622252022377480192, 2722258935367507707706996859454145691648), (17408, 2892400118827976939438684163170029797376, 5444517870735015415413993718908291383296), (65535, 5444517870735015415413993718908291383296, 32768)] [(0, false, (0, 128, 166153499473114484112975882535043072)), (1, false, (0, 128, 332306998946228968225951765070086144)), (2, false, (0, 4, 664613997892457936451903530140172288)), (3, false, (4, 664613997892457936451903530140172288, 1329227995784915872903807060280344576)), (4, false, (0, 8, 2658455991569831745807614120560689152)), (5, false, (16, 2658455991569831745807614120560689152, 5316911983139663491615228241121378304)), (7, false, (0, 128, 21267647932558653966460912964485513216)), (11, false, (0, 256, 340282366920938463463374607431768211456)), (12, false, (0, 2048, 680564733841876926926749214863536422912)), (13, false, (0, 4096, 1361129467683753853853498429727072845824)), (6, true, (42, 6978446977870808332744987066471809024, 10633823966279326983230456482242756608)), (8, true, (192, 21267647932558653966460912964485513216, 42535295865117307932921825928971026432)), (9, true, (321, 53335273330869749400265258293748826112, 85070591730234615865843651857942052864)), (10, false, (512, 85070591730234615865843651857942052864, 170141183460469231731687303715884105728)), (14, true, (14848, 2381976568446569244243622252022377480192, 2722258935367507707706996859454145691648)), (15, false, (17408, 2892400118827976939438684163170029797376, 5444517870735015415413993718908291383296)), (16, false, (65535, 5444517870735015415413993718908291383296, 32768))] (by as_aux_lemma => kernel_rfl) (by as_aux_lemma => kernel_rfl) (by as_aux_lemma => kernel_rfl) (fun _ d _ _ _ h => by cases d <;> exact h) ⟨s, h1⟩ ?_
                rw [h1]
                clear h1
                simp only [List.map_cons, List.map_nil, List.getElem?_cons_succ, List.getElem?_cons_zero]
                as_aux_lemma =>
                 repeat ((with_reducible refine mix_free (fun K hK => ?_)); go_simp; refine hK _ ?_; clear hK K)
                 refine mix_forced (fun K hK => ?_) ⟨_, rfl⟩
                 go_simp
                 refine (cmul_to hp _ ba bb).mono ?_
                 rintro e w1 ⟨rfl, hb⟩
                 obtain ⟨s, rfl⟩ := hs w1 ((hf _).trans (hb.mono (hz _)))
                 refine hK.out _ _ ⟨s, rfl⟩ (fun _ => ?_)
                 clear hK K hb
                 repeat ((with_reducible refine mix_free (fun K hK => ?_)); go_simp; refine hK _ ?_; clear hK K)
                 refine mix_forced (fun K hK => ?_) ⟨_, rfl⟩
                 go_simp
                 refine (czero_any _).mono ?_
                 rintro e w1 ⟨rfl, hb⟩
                 obtain ⟨s, rfl⟩ := hs w1 ((hf _).trans (hb.mono (hz _)))
                 refine hK.out _ _ ⟨s, rfl⟩ (fun _ => ?_)
                 clear hK K hb
                 repeat ((with_reducible refine mix_free (fun K hK => ?_)); go_simp; refine hK _ ?_; clear hK K)
                 refine mix_forced (fun K hK => ?_) ⟨_, rfl⟩
                 go_simp
                 refine (ceq_to zp_ _).mono ?_
                 rintro e w1 ⟨rfl, hb⟩
                 obtain ⟨s, rfl⟩ := hs w1 ((hf _).trans (hb.mono (hz _)))
                 refine hK.out _ _ ⟨s, rfl⟩ (fun _ => ?_)
                 clear hK K hb
                 repeat ((with_reducible refine mix_free (fun K hK => ?_)); go_simp; refine hK _ ?_; clear hK K)
                 refine mix_forced (fun K hK => ?_) ⟨_, rfl⟩
                 go_simp
                 refine (bmul_any _ _ _).mono ?_
                 rintro e w1 ⟨rfl, hb⟩
                 obtain ⟨s, rfl⟩ := hs w1 ((hf _).trans (hb.mono (hz _)))
                 refine hK.out _ _ ⟨s, rfl⟩ (fun _ => ?_)
                 clear hK K hb
                 as_aux_lemma =>
                  repeat ((with_reducible refine mix_free (fun K hK => ?_)); go_simp; refine hK _ ?_; clear hK K)
                  refine mix_nil ?_
                  go_wp2_with fail
                  as_aux_lemma =>
                   have hdec := HL.out
                   have hw : IntKind.i64.wrap (a0 + b0) = a0 + b0 := IntWalk.i64_in _ (by omega)
                   obtain ⟨s, h1⟩ := hs ((f s)).drew ((hf s)).drew
                   refine wp_region_fast (S := fun w' => ∃ s, w' = f s) [(0, 0, 10889035741470030830827987437816582766592), (1, 10889035741470030830827987437816582766592, 21778071482940061661655974875633165533184), (2, 21778071482940061661655974875633165541376, 43556142965880123323311949751266331066368), (6, 65334214448820184984967924626899496599552, 87112285931760246646623899502532662132736), (10, 87112285931760246646623899502532662132736, 174224571863520493293247799005065324265472), (16, 174224571863520493293247799005065324281856, 348449143727040986586495598010130648530944), (48, 522673715590561479879743397015195972796416, 696898287454081973172991196020261297061888), (80, 696898287454081973172991196020261297061888, 1393796574908163946345982392040522594123776), (128, 1393796574908163946345982392040522594156544, 2787593149816327892691964784081045188247552), (384, 4181389724724491839037947176121567782371328, 5575186299632655785383929568162090376495104), (640, 5575186299632655785383929568162090376495104, 11150372599265311570767859136324180752990208), (1024, 11150372599265311570767859136324180752990212, 22300745198530623141535718272648361505980416), (3072, 33451117797795934712303577408972542258970624, 44601490397061246283071436545296723011960832), (1024, 11150372599265311570767859136324180752990216, 89202980794122492566142873090593446023921664), (9216, 100353353393387804136910732226917626776911872, 178405961588244985132285746181186892047843328), (21504, 234157824584571542986125041862807795812794368, 356811923176489970264571492362373784095686656), (33792, 367962295775755281835339351498697964848676864, 713623846352979940529142984724747568191373312), (66560, 724774218952245252099910843861071748944363520, 1427247692705959881058285969449495136382746624), (131072, 1427247692705959881058285969449495136382746688, 2854495385411919762116571938898990272765493248), (131072, 1427247692705959881058285969449495136382746688, 5708990770823839524233143877797980545530986496), (131072, 1427247692705959881058285969449495136382746628, 11417981541647679048466287755595961091061972992), (1179648, 12845229234353638929524573725045456227444719616, 22835963083295358096932575511191922182123945984), (131072, 1427247692705959881058285969449495136382746632, 45671926166590716193865151022383844364247891968), (4325376, 47099173859296676074923436991833339500630638592, 91343852333181432387730302044767688728495783936), (11141120, 121316053880006589889954307403207086592533463040, 182687704666362864775460604089535377456991567872), (131072, 1427247692705959881058285969449495136382746688, 365375409332725729550921208179070754913983135744), (50462720, 366802657025431689431979494148520250050365882368, 730750818665451459101842416358141509827966271488), (84279296, 917720266409932203520477878356025372694106079232, 1461501637330902918203684832716283019655932542976), (134348800, 1462928885023608878084743118685732514792315289600, 2923003274661805836407369665432566039311865085952), (131072, 1427247692705959881058285969449495136382746880, 5846006549323611672814739330865132078623730171904), (131072, 1427247692705959881058285969449495136382747136, 11692013098647223345629478661730264157247460343808), (131072, 1427247692705959881058285969449495136382747648, 23384026197294446691258957323460528314494920687616), (3892445184, 40923473092957987669584233602025374045502493949952, 46768052394588893382517914646921056628989841375232), (4563533824, 49692482916943405178806342598323072163438089207808, 93536104789177786765035829293842113257979682750464), (8590066688, 93537543187243091990228458347670699077296818487296, 187072209578355573530071658587684226515959365500928), (17179870208, 187072220728728172795383229355543362840140118491136, 374144419156711147060143317175368453031918731001856), (68719476735, 374144419156711147060143317175368453031918731001856, 16)] [(0, true, (0, 0, 10889035741470030830827987437816582766592)), (1, false, (1, 10889035741470030830827987437816582766592, 21778071482940061661655974875633165533184)), (2, false, (2, 21778071482940061661655974875633165541376, 43556142965880123323311949751266331066368)), (3, false, (6, 65334214448820184984967924626899496599552, 87112285931760246646623899502532662132736)), (4, false, (10, 87112285931760246646623899502532662132736, 174224571863520493293247799005065324265472)), (5, false, (16, 174224571863520493293247799005065324281856, 348449143727040986586495598010130648530944)), (6, false, (48, 522673715590561479879743397015195972796416, 696898287454081973172991196020261297061888)), (7, false, (80, 696898287454081973172991196020261297061888, 1393796574908163946345982392040522594123776)), (8, false, (128, 1393796574908163946345982392040522594156544, 2787593149816327892691964784081045188247552)), (9, false, (384, 4181389724724491839037947176121567782371328, 5575186299632655785383929568162090376495104)), (10, false, (640, 5575186299632655785383929568162090376495104, 11150372599265311570767859136324180752990208)), (11, false, (1024, 11150372599265311570767859136324180752990212, 22300745198530623141535718272648361505980416)), (12, false, (3072, 33451117797795934712303577408972542258970624, 44601490397061246283071436545296723011960832)), (13, false, (1024, 11150372599265311570767859136324180752990216, 89202980794122492566142873090593446023921664)), (14, false, (9216, 100353353393387804136910732226917626776911872, 178405961588244985132285746181186892047843328)), (15, false, (21504, 234157824584571542986125041862807795812794368, 356811923176489970264571492362373784095686656)), (16, false, (33792, 367962295775755281835339351498697964848676864, 713623846352979940529142984724747568191373312)), (17, false, (66560, 724774218952245252099910843861071748944363520, 1427247692705959881058285969449495136382746624)), (18, false, (131072, 1427247692705959881058285969449495136382746688, 2854495385411919762116571938898990272765493248)), (19, false, (131072, 1427247692705959881058285969449495136382746688, 5708990770823839524233143877797980545530986496)), (20, false, (131072, 1427247692705959881058285969449495136382746628, 11417981541647679048466287755595961091061972992)), (21, false, (1179648, 12845229234353638929524573725045456227444719616, 22835963083295358096932575511191922182123945984)), (22, false, (131072, 1427247692705959881058285969449495136382746632, 45671926166590716193865151022383844364247891968)), (23, false, (4325376, 47099173859296676074923436991833339500630638592, 91343852333181432387730302044767688728495783936)), (25, false, (131072, 1427247692705959881058285969449495136382746688, 365375409332725729550921208179070754913983135744)), (29, false, (131072, 1427247692705959881058285969449495136382746880, 5846006549323611672814739330865132078623730171904)), (30, false, (131072, 1427247692705959881058285969449495136382747136, 11692013098647223345629478661730264157247460343808)), (31, false, (131072, 1427247692705959881058285969449495136382747648, 23384026197294446691258957323460528314494920687616)), (24, true, (11141120, 121316053880006589889954307403207086592533463040, 182687704666362864775460604089535377456991567872)), (26, true, (50462720, 366802657025431689431979494148520250050365882368, 730750818665451459101842416358141509827966271488)), (27, true, (84279296, 917720266409932203520477878356025372694106079232, 1461501637330902918203684832716283019655932542976)), (28, false, (134348800, 1462928885023608878084743118685732514792315289600, 2923003274661805836407369665432566039311865085952)), (32, true, (3892445184, 40923473092957987669584233602025374045502493949952, 46768052394588893382517914646921056628989841375232)), (33, false, (4563533824, 49692482916943405178806342598323072163438089207808, 93536104789177786765035829293842113257979682750464)), (34, false, (8590066688, 93537543187243091990228458347670699077296818487296, 187072209578355573530071658587684226515959365500928)), (35, false, (17179870208, 187072220728728172795383229355543362840140118491136, 374144419156711147060143317175368453031918731001856)), (36, false, (68719476735, 374144419156711147060143317175368453031918731001856, 16))] (by as_aux_lemma => kernel_rfl) (by as_aux_lemma => kernel_rfl) (by as_aux_lemma => kernel_rfl) (fun _ d _ _ _ h => by cases d <;> exact h) ⟨s, h1⟩ ?_
                   rw [h1]
                   clear h1
                   simp only [List.map_cons, List.map_nil, List.getElem?_cons_succ, List.getElem?_cons_zero]
                   as_aux_lemma =>
                    repeat ((with_reducible refine mix_free (fun K hK => ?_)); go_simp; refine hK _ ?_; clear hK K)
                    refine mix_forced (fun K hK => ?_) ⟨_, rfl⟩
                    go_simp
                    refine (awake_any _).mono ?_
                    rintro e w1 ⟨rfl, hb⟩
                    obtain ⟨s, rfl⟩ := hs w1 ((hf _).trans (hb.mono (hz _)))
                    refine hK.out _ _ ⟨s, rfl⟩ (fun _ => ?_)
                    clear hK K hb
                    repeat ((with_reducible refine mix_free (fun K hK => ?_)); go_simp; refine hK _ ?_; clear hK K)
                    (refine mix_forced (fun K hK => ?_) ⟨_, rfl⟩; go_simp; refine hK.out _ _ ⟨_, rfl⟩ (fun _ => ?_); clear hK K)
                    repeat ((with_reducible refine mix_free (fun K hK => ?_)); go_simp; refine hK _ ?_; clear hK K)
                    (refine mix_forced (fun K hK => ?_) ⟨_, rfl⟩; go_simp; refine hK.out _ _ ⟨_, rfl⟩ (fun _ => ?_); clear hK K)
                    repeat ((with_reducible refine mix_free (fun K hK => ?_)); go_simp; refine hK _ ?_; clear hK K)
                    (refine mix_forced (fun K hK => ?_) ⟨_, rfl⟩; go_simp; refine hK.out _ _ ⟨_, rfl⟩ (fun _ => ?_); clear hK K)
                    repeat ((with_reducible refine mix_free (fun K hK => ?_)); go_simp; refine hK _ ?_; clear hK K)
                    (refine mix_forced (fun K hK => ?_) ⟨_, rfl⟩; go_simp; refine hK.out _ _ ⟨_, rfl⟩ (fun _ => ?_); clear hK K)
                    repeat ((with_reducible refine mix_free (fun K hK => ?_)); go_simp; refine hK _ ?_; clear hK K)
                    refine mix_nil ?_
                    go_wp2
                    go_ret
                    exact ⟨rfl, hbel s⟩

set_option maxRecDepth 100000 in
set_option maxHeartbeats 8000000 in
theorem hom_lt (a0 a1 b0 b1 r0 r1 m0 m1 p : Int) (za zb : Bool) (w : World) (hva : ∀ w, Calls Try.prog 11 #[.agg #[.int .i64 a0, .int .i64 a1]] w fun e w' => e = .returned (.bool true) ∧ Below w.heap.size w w') (hvb : ∀ w, Calls Try.prog 11 #[.agg #[.int .i64 b0, .int .i64 b1]] w fun e w' => e = .returned (.bool true) ∧ Below w.heap.size w w')
    (ka : vel (a0, a1)) (kb : vel (b0, b1)) (ba : 0 ≤ a0 ∧ a0 ≤ 1099511627776) (bb : 0 ≤ b0 ∧ b0 ≤ 1099511627776) (_br : 0 ≤ m0 ∧ m0 ≤ 1099511627776)
    (hv : vadd (a0, a1) (b0, b1) = (r0, r1)) (ht : tadd a0 b0 = r0) (hm : vmul (a0, a1) (b0, b1) = (m0, m1)) (hmt : tmul a0 b0 = m0) (hp : cmul a0 b0 = p)
    (za_ : (a0 == 0) = za) (zb_ : (b0 == 0) = zb) (zs_ : (m0 == 0) = (za && zb)) (zp_ : (p == 0) = (za || zb))
    (ea_ : (a0 == 1099511627776) = false) (eb_ : (b0 == 1099511627776) = false) (es_ : (r0 == 1099511627776) = false) (em_ : (m0 == 1099511627776) = false) (hlt : ¬ 1099511627776 ≤ a0 + b0) :
    Calls Try.prog 10 #[.agg #[.int .i64 a0, .int .i64 a1], .agg #[.int .i64 b0, .int .i64 b1]] w fun e w' => e = .returned (.bool true) ∧ Below w.heap.size w w' := by
  have hfd := Try.field23
  obtain ⟨S, hne, f, hf, hs⟩ := fam_of (w.heap.size + 1 + 1) ((w.alloc (.cells #[.int .i64 a0, .int .i64 a1] 23)).alloc (.cells #[.int .i64 b0, .int .i64 b1] 23))
  have hz : ∀ s, w.heap.size + 1 + 1 ≤ (f s).heap.size := fun s => by simpa using (hf s).size
  have k00 : ∀ s, (f s).cell? ⟨w.heap.size, 0, none⟩ = some (.int .i64 a0) := fun s => ((hf s).cell (p := ⟨w.heap.size, 0, none⟩) (by simp <;> omega)).trans (by simp [go_sem])
  have k01 : ∀ s, (f s).cell? ⟨w.heap.size, 1, none⟩ = some (.int .i64 a1) := fun s => ((hf s).cell (p := ⟨w.heap.size, 1, none⟩) (by simp <;> omega)).trans (by simp [go_sem])
  have k10 : ∀ s, (f s).cell? ⟨w.heap.size + 1, 0, none⟩ = some (.int .i64 b0) := fun s => ((hf s).cell (p := ⟨w.heap.size + 1, 0, none⟩) (by simp <;> omega)).trans (by simp [go_sem])
  have k11 : ∀ s, (f s).cell? ⟨w.heap.size + 1, 1, none⟩ = some (.int .i64 b1) := fun s => ((hf s).cell (p := ⟨w.heap.size + 1, 1, none⟩) (by simp <;> omega)).trans (by simp [go_sem])
  have hbel : ∀ s, Below w.heap.size w (f s) := fun s => (show Below w.heap.size w ((w.alloc (.cells #[.int .i64 a0, .int .i64 a1] 23)).alloc (.cells #[.int .i64 b0, .int .i64 b1] 23)) by repeat (first | exact Below.refl _ _ | refine Below.alloc ?_ (by simp <;> omega) _)).trans ((hf s).mono (by omega))
  obtain ⟨s, h0⟩ := hs ((w.alloc (.cells #[.int .i64 a0, .int .i64 a1] 23)).alloc (.cells #[.int .i64 b0, .int .i64 b1] 23)) (Below.refl _ _)
  have H0 := Lib.hid h0
  clear h0
  have HL := Lib.hid hlt
  clear hlt
  go_enter Try.func10, Try.ntmps10
  go_wp2_with fail
  rw [H0.out]
  clear H0
  refine (hva _).mono ?_
  rintro e w1 ⟨rfl, hb⟩
  obtain ⟨s, rfl⟩ := hs w1 ((hf _).trans (hb.mono (hz _)))
  clear hb
  go_wp2_with (go_at_call 11; with_reducible refine (hvb _).mono ?_; rintro e w1 ⟨rfl, hb⟩; obtain ⟨s, rfl⟩ := hs w1 ((hf _).trans (hb.mono (hz _))); clear hb)
  clear hva hvb
  as_aux_lemma =>
   obtain ⟨s, h1⟩ := hs (((((f s).alloc (.cells #[] 27)).alloc (.cells #[] 36)).alloc (.cells #[] 37)).alloc (.cells #[] 45)).drew (((((hf s).alloc (hz s) _).alloc (by have := hz s; simp; omega) _).alloc (by have := hz s; simp; omega) _).alloc (by have := hz s; simp; omega) _).drew
   refine wp_region_fast (S := fun w' => ∃ s, w' = f s) [(0, 64, 536870912), (0, 4, 1073741824), (2, 1073741824, 2147483648), (0, 64, 4294967296), (8, 4294967296, 8589934592), (21, 11274289152, 17179869184), (32, 17179869184, 34359738368), (0, 64, 68719476736), (0, 8, 137438953472), (256, 137438953472, 274877906944), (0, 64, 549755813888), (1056, 549755813888, 1099511627776), (2688, 1443109011456, 2199023255552), (4096, 2199023255552, 4398046511104), (4223, 34359738368, 512), (32767, 4398046511104, 1024)] [(0, false, (0, 64, 536870912)), (1, false, (0, 4, 1073741824)), (2, false, (2, 1073741824, 2147483648)), (3, false, (0, 64, 4294967296)), (7, false, (0, 64, 68719476736)), (8, false, (0, 8, 137438953472)), (9, false, (256, 137438953472, 274877906944)), (10, false, (0, 64, 549755813888)), (4, true, (8, 4294967296, 8589934592)), (5, true, (21, 11274289152, 17179869184)), (6, false, (32, 17179869184, 34359738368)), (11, true, (1056, 549755813888, 1099511627776)), (12, true, (2688, 1443109011456, 2199023255552)), (13, false, (4096, 2199023255552, 4398046511104)), (14, false, (4223, 34359738368, 512)), (15, false, (32767, 4398046511104, 1024))] (by as_aux_lemma => kernel_rfl) (by as_aux_lemma => kernel_rfl) (by as_aux_lemma => kernel_rfl) (fun _ d _ _ _ h => by cases d <;> exact h) ⟨s, h1⟩ ?_
   rw [h1]
   clear h1
   simp only [List.map_cons, List.map_nil, List.getElem?_cons_succ, List.getElem?_cons_zero]
   as_aux_lemma =>
    repeat ((with_reducible refine mix_free (fun K hK => ?_)); go_simp; refine hK _ ?_; clear hK K)
    refine mix_forced (fun K hK => ?_) ⟨_, rfl⟩
    go_simp
    refine (tzero_any _).mono ?_
    rintro e w1 ⟨rfl, hb⟩
    obtain ⟨s, rfl⟩ := hs w1 ((hf _).trans (hb.mono (hz _)))
    refine hK.out _ _ ⟨s, rfl⟩ (fun _ => ?_)
    clear hK K hb
    repeat ((with_reducible refine mix_free (fun K hK => ?_)); go_simp; refine hK _ ?_; clear hK K)
    refine mix_forced (fun K hK => ?_) ⟨_, rfl⟩
    go_simp
    refine (teq_to ea_ _).mono ?_
    rintro e w1 ⟨rfl, hb⟩
    obtain ⟨s, rfl⟩ := hs w1 ((hf _).trans (hb.mono (hz _)))
    refine hK.out _ _ ⟨s, rfl⟩ (fun _ => ?_)
    clear hK K hb
    repeat ((with_reducible refine mix_free (fun K hK => ?_)); go_simp; refine hK _ ?_; clear hK K)
    refine mix_forced (fun K hK => ?_) ⟨_, rfl⟩
    go_simp
    refine (tzero_any _).mono ?_
    rintro e w1 ⟨rfl, hb⟩
    obtain ⟨s, rfl⟩ := hs w1 ((hf _).trans (hb.mono (hz _)))
    refine hK.out _ _ ⟨s, rfl⟩ (fun _ => ?_)
    clear hK K hb
    repeat ((with_reducible refine mix_free (fun K hK => ?_)); go_simp; refine hK _ ?_; clear hK K)
    refine mix_forced (fun K hK => ?_) ⟨_, rfl⟩
    go_simp
    refine (teq_to eb_ _).mono ?_
    rintro e w1 ⟨rfl, hb⟩
    obtain ⟨s, rfl⟩ := hs w1 ((hf _).trans (hb.mono (hz _)))
    refine hK.out _ _ ⟨s, rfl⟩ (fun _ => ?_)
    clear hK K hb
    as_aux_lemma =>
     repeat ((with_reducible refine mix_free (fun K hK => ?_)); go_simp; refine hK _ ?_; clear hK K)
     refine mix_nil ?_
     go_wp2_with fail
     as_aux_lemma =>
      obtain ⟨s, h1⟩ := hs ((f s)).drew ((hf s)).drew
      refine wp_region_fast (S := fun w' => ∃ s, w' = f s) [(0, 128, 8796093022208), (0, 4, 17592186044416), (2, 17592186044416, 35184372088832), (0, 128, 70368744177664), (8, 70368744177664, 140737488355328), (21, 184717953466368, 281474976710656), (32, 281474976710656, 562949953421312), (0, 128, 1125899906842624), (0, 8, 2251799813685248), (256, 2251799813685248, 4503599627370496), (0, 128, 9007199254740992), (1056, 9007199254740992, 18014398509481984), (2688, 23643898043695104, 36028797018963968), (4096, 36028797018963968, 72057594037927936), (4223, 562949953421312, 2048), (32767, 72057594037927936, 4096)] [(0, false, (0, 128, 8796093022208)), (1, false, (0, 4, 17592186044416)), (2, false, (2, 17592186044416, 35184372088832)), (3, false, (0, 128, 70368744177664)), (7, false, (0, 128, 1125899906842624)), (8, false, (0, 8, 2251799813685248)), (9, false, (256, 2251799813685248, 4503599627370496)), (10, false, (0, 128, 9007199254740992)), (4, true, (8, 70368744177664, 140737488355328)), (5, true, (21, 184717953466368, 281474976710656)), (6, false, (32, 281474976710656, 562949953421312)), (11, true, (1056, 9007199254740992, 18014398509481984)), (12, true, (2688, 23643898043695104, 36028797018963968)), (13, false, (4096, 36028797018963968, 72057594037927936)), (14, false, (4223, 562949953421312, 2048)), (15, false, (32767, 72057594037927936, 4096))] (by as_aux_lemma => kernel_rfl) (by as_aux_lemma => kernel_rfl) (by as_aux_lemma => kernel_rfl) (fun _ d _ _ _ h => by cases d <;> exact h) ⟨s, h1⟩ ?_
      rw [h1]
      clear h1
      simp only [List.map_cons, List.map_nil, List.getElem?_cons_succ, List.getElem?_cons_zero]
      as_aux_lemma =>
       repeat ((with_reducible refine mix_free (fun K hK => ?_)); go_simp; refine hK _ ?_; clear hK K)
       refine mix_forced (fun K hK => ?_) ⟨_, rfl⟩
       go_simp
       refine (czero_any _).mono ?_
       rintro e w1 ⟨rfl, hb⟩
       obtain ⟨s, rfl⟩ := hs w1 ((hf _).trans (hb.mono (hz _)))
       refine hK.out _ _ ⟨s, rfl⟩ (fun _ => ?_)
       clear hK K hb
       repeat ((with_reducible refine mix_free (fun K hK => ?_)); go_simp; refine hK _ ?_; clear hK K)
       refine mix_forced (fun K hK => ?_) ⟨_, rfl⟩
       go_simp
       refine (ceq_to za_ _).mono ?_
       rintro e w1 ⟨rfl, hb⟩
       obtain ⟨s, rfl⟩ := hs w1 ((hf _).trans (hb.mono (hz _)))
       refine hK.out _ _ ⟨s, rfl⟩ (fun _ => ?_)
       clear hK K hb
       repeat ((with_reducible refine mix_free (fun K hK => ?_)); go_simp; refine hK _ ?_; clear hK K)
       refine mix_forced (fun K hK => ?_) ⟨_, rfl⟩
       go_simp
       refine (czero_any _).mono ?_
       rintro e w1 ⟨rfl, hb⟩
       obtain ⟨s, rfl⟩ := hs w1 ((hf _).trans (hb.mono (hz _)))
       refine hK.out _ _ ⟨s, rfl⟩ (fun _ => ?_)
       clear hK K hb
       repeat ((with_reducible refine mix_free (fun K hK => ?_)); go_simp; refine hK _ ?_; clear hK K)
       refine mix_forced (fun K hK => ?_) ⟨_, rfl⟩
       go_simp
       refine (ceq_to zb_ _).mono ?_
       rintro e w1 ⟨rfl, hb⟩
       obtain ⟨s, rfl⟩ := hs w1 ((hf _).trans (hb.mono (hz _)))
       refine hK.out _ _ ⟨s, rfl⟩ (fun _ => ?_)
       clear hK K hb
       as_aux_lemma =>
        repeat ((with_reducible refine mix_free (fun K hK => ?_)); go_simp; refine hK _ ?_; clear hK K)
        refine mix_nil ?_
        go_wp2_with fail
        as_aux_lemma =>
         obtain ⟨s, h1⟩ := hs ((f s)).drew ((hf s)).drew
         refine wp_region_fast (S := fun w' => ∃ s, w' = f s) [(0, 32, 144115188075855872), (0, 4, 288230376151711744), (0, 8, 576460752303423488), (7, 1008806316530991104, 1152921504606846976), (8, 1152921504606846976, 2305843009213693952), (0, 64, 4611686018427387904), (0, 4, 9223372036854775808), (64, 9223372036854775808, 18446744073709551616), (0, 8, 36893488147419103232), (256, 36893488147419103232, 73786976294838206464), (680, 96845406386975145984, 147573952589676412928), (1040, 149879795598890106880, 295147905179352825856), (3072, 295147905179352825856, 590295810358705651712), (4096, 590295810358705651744, 1180591620717411303424), (4096, 590295810358705651716, 2361183241434822606848), (4096, 590295810358705651720, 4722366482869645213696), (61440, 8854437155380584775680, 9444732965739290427392), (69632, 10035028776097996079104, 18889465931478580854784), (4096, 590295810358705651776, 37778931862957161709568), (4096, 590295810358705651716, 75557863725914323419136), (528384, 76148159536273029070848, 151115727451828646838272), (4096, 590295810358705651720, 302231454903657293676544), (2101248, 302821750714015999328256, 604462909807314587353088), (5574656, 793947864932459101552640, 1208925819614629174706176), (8523776, 1228405581356466461212672, 2417851639229258349412352), (16781312, 2418441935039617055064064, 4835703278458516698824704), (67108863, 4835703278458516698824704, 8192)] [(0, false, (0, 32, 144115188075855872)), (1, false, (0, 4, 288230376151711744)), (2, false, (0, 8, 576460752303423488)), (5, false, (0, 64, 4611686018427387904)), (6, false, (0, 4, 9223372036854775808)), (7, false, (64, 9223372036854775808, 18446744073709551616)), (8, false, (0, 8, 36893488147419103232)), (9, false, (256, 36893488147419103232, 73786976294838206464)), (3, true, (7, 1008806316530991104, 1152921504606846976)), (4, false, (8, 1152921504606846976, 2305843009213693952)), (10, true, (680, 96845406386975145984, 147573952589676412928)), (11, false, (1040, 149879795598890106880, 295147905179352825856)), (12, false, (3072, 295147905179352825856, 590295810358705651712)), (13, false, (4096, 590295810358705651744, 1180591620717411303424)), (14, false, (4096, 590295810358705651716, 2361183241434822606848)), (15, false, (4096, 590295810358705651720, 4722366482869645213696)), (18, false, (4096, 590295810358705651776, 37778931862957161709568)), (19, false, (4096, 590295810358705651716, 75557863725914323419136)), (20, false, (528384, 76148159536273029070848, 151115727451828646838272)), (21, false, (4096, 590295810358705651720, 302231454903657293676544)), (22, false, (2101248, 302821750714015999328256, 604462909807314587353088)), (16, true, (61440, 8854437155380584775680, 9444732965739290427392)), (17, false, (69632, 10035028776097996079104, 18889465931478580854784)), (23, true, (5574656, 793947864932459101552640, 1208925819614629174706176)), (24, false, (8523776, 1228405581356466461212672, 2417851639229258349412352)), (25, false, (16781312, 2418441935039617055064064, 4835703278458516698824704)), (26, false, (67108863, 4835703278458516698824704, 8192))] (by as_aux_lemma => kernel_rfl) (by as_aux_lemma => kernel_rfl) (by as_aux_lemma => kernel_rfl) (fun _ d _ _ _ h => by cases d <;> exact h) ⟨s, h1⟩ ?_
         rw [h1]
         clear h1
         simp only [List.map_cons, List.map_nil, List.getElem?_cons_succ, List.getElem?_cons_zero]
         as_aux_lemma =>
          repeat ((with_reducible refine mix_free (fun K hK => ?_)); go_simp; refine hK _ ?_; clear hK K)
          refine mix_forced (fun K hK => ?_) ⟨_, rfl⟩
          go_simp
          refine (vadd_to hv _).mono ?_
          rintro e w1 ⟨rfl, hb⟩
          obtain ⟨s, rfl⟩ := hs w1 ((hf _).trans (hb.mono (hz _)))
          refine hK.out _ _ ⟨s, rfl⟩ (fun _ => ?_)
          clear hK K hb
          repeat ((with_reducible refine mix_free (fun K hK => ?_)); go_simp; refine hK _ ?_; clear hK K)
          refine mix_forced (fun K hK => ?_) ⟨_, rfl⟩
          go_simp
          refine (tadd_to ht _).mono ?_
          rintro e w1 ⟨rfl, hb⟩
          obtain ⟨s, rfl⟩ := hs w1 ((hf _).trans (hb.mono (hz _)))
          refine hK.out _ _ ⟨s, rfl⟩ (fun _ => ?_)
          clear hK K hb
          repeat ((with_reducible refine mix_free (fun K hK => ?_)); go_simp; refine hK _ ?_; clear hK K)
          refine mix_forced (fun K hK => ?_) ⟨_, rfl⟩
          go_simp
          refine (vmul_to hm _ ka kb).mono ?_
          rintro e w1 ⟨rfl, hb⟩
          obtain ⟨s, rfl⟩ := hs w1 ((hf _).trans (hb.mono (hz _)))
          refine hK.out _ _ ⟨s, rfl⟩ (fun _ => ?_)
          clear hK K hb
          repeat ((with_reducible refine mix_free (fun K hK => ?_)); go_simp; refine hK _ ?_; clear hK K)
          refine mix_forced (fun K hK => ?_) ⟨_, rfl⟩
          go_simp
          refine (tmul_to hmt _ ba bb).mono ?_
          rintro e w1 ⟨rfl, hb⟩
          obtain ⟨s, rfl⟩ := hs w1 ((hf _).trans (hb.mono (hz _)))
          refine hK.out _ _ ⟨s, rfl⟩ (fun _ => ?_)
          clear hK K hb
          as_aux_lemma =>
           repeat ((with_reducible refine mix_free (fun K hK => ?_)); go_simp; refine hK _ ?_; clear hK K)
           refine mix_nil ?_
           go_wp2_with fail
           as_aux_lemma =>
            obtain ⟨s, h1⟩ := hs ((f s)).drew ((hf s)).drew
            refine wp_region_fast (S := fun w' => ∃ s, w' = f s) [(0, 64, 9671406556917033397649408), (0, 64, 19342813113834066795298816), (0, 4, 38685626227668133590597632), (4, 38685626227668133590597632, 77371252455336267181195264), (0, 8, 154742504910672534362390528), (16, 154742504910672534362390528, 309485009821345068724781056), (42, 406199075390515402701275136, 618970019642690137449562112), (0, 64, 1237940039285380274899124224), (192, 1237940039285380274899124224, 2475880078570760549798248448), (321, 3104521504770367720645459968, 4951760157141521099596496896), (512, 4951760157141521099596496896, 9903520314283042199192993792), (0, 256, 19807040628566084398385987584), (0, 512, 39614081257132168796771975168), (0, 1024, 79228162514264337593543950336), (14848, 138649284399962590788701913088, 158456325028528675187087900672), (17408, 168359845342811717386280894464, 316912650057057350374175801344), (49152, 316912650057057350374175801344, 633825300114114700748351602688), (65536, 633825300114114700748351602816, 1267650600228229401496703205376), (65536, 633825300114114700748351602816, 2535301200456458802993406410752), (65536, 633825300114114700748351602692, 5070602400912917605986812821504), (589824, 5704427701027032306735164424192, 10141204801825835211973625643008), (65536, 633825300114114700748351602696, 20282409603651670423947251286016), (2162688, 20916234903765785124695602888704, 40564819207303340847894502572032), (5570560, 53875150509699749563609886228480, 81129638414606681695789005144064), (65536, 633825300114114700748351602816, 162259276829213363391578010288128), (25231360, 162893102129327478092326361890816, 324518553658426726783156020576256), (42139648, 407549667973375752581190080528384, 649037107316853453566312041152512), (67174400, 649670932616967568267060392755200, 1298074214633706907132624082305024), (65536, 633825300114114700748351602944, 2596148429267413814265248164610048), (65536, 633825300114114700748351604736, 5192296858534827628530496329220096), (65536, 633825300114114700748351606784, 10384593717069655257060992658440192), (1946222592, 18173672830172010814557485503873024, 20769187434139310514121985316880384), (2281766912, 22067895474073131535955357750788096, 41538374868278621028243970633760768), (4295032832, 41539008693578735142944718985363456, 83076749736557242056487941267521536), (17179869183, 83076749736557242056487941267521536, 16384)] [(0, false, (0, 64, 9671406556917033397649408)), (1, false, (0, 64, 19342813113834066795298816)), (2, false, (0, 4, 38685626227668133590597632)), (3, false, (4, 38685626227668133590597632, 77371252455336267181195264)), (4, false, (0, 8, 154742504910672534362390528)), (5, false, (16, 154742504910672534362390528, 309485009821345068724781056)), (7, false, (0, 64, 1237940039285380274899124224)), (11, false, (0, 256, 19807040628566084398385987584)), (12, false, (0, 512, 39614081257132168796771975168)), (13, false, (0, 1024, 79228162514264337593543950336)), (6, true, (42, 406199075390515402701275136, 618970019642690137449562112)), (8, true, (192, 1237940039285380274899124224, 2475880078570760549798248448)), (9, true, (321, 3104521504770367720645459968, 4951760157141521099596496896)), (10, false, (512, 4951760157141521099596496896, 9903520314283042199192993792)), (14, true, (14848, 138649284399962590788701913088, 158456325028528675187087900672)), (15, false, (17408, 168359845342811717386280894464, 316912650057057350374175801344)), (16, false, (49152, 316912650057057350374175801344, 633825300114114700748351602688)), (17, false, (65536, 633825300114114700748351602816, 1267650600228229401496703205376)), (18, false, (65536, 633825300114114700748351602816, 2535301200456458802993406410752)), (19, false, (65536, 633825300114114700748351602692, 5070602400912917605986812821504)), (20, false, (589824, 5704427701027032306735164424192, 10141204801825835211973625643008)), (21, false, (65536, 633825300114114700748351602696, 20282409603651670423947251286016)), (22, false, (2162688, 20916234903765785124695602888704, 40564819207303340847894502572032)), (24, false, (65536, 633825300114114700748351602816, 162259276829213363391578010288128)), (28, false, (65536, 633825300114114700748351602944, 2596148429267413814265248164610048)), (29, false, (65536, 633825300114114700748351604736, 5192296858534827628530496329220096)), (30, false, (65536, 633825300114114700748351606784, 10384593717069655257060992658440192)), (23, true, (5570560, 53875150509699749563609886228480, 81129638414606681695789005144064)), (25, true, (25231360, 162893102129327478092326361890816, 324518553658426726783156020576256)), (26, true, (42139648, 407549667973375752581190080528384, 649037107316853453566312041152512)), (27, false, (67174400, 649670932616967568267060392755200, 1298074214633706907132624082305024)), (31, true, (1946222592, 18173672830172010814557485503873024, 20769187434139310514121985316880384)), (32, false, (2281766912, 22067895474073131535955357750788096, 41538374868278621028243970633760768)), (33, false, (4295032832, 41539008693578735142944718985363456, 83076749736557242056487941267521536)), (34, false, (17179869183, 83076749736557242056487941267521536, 16384))] (by as_aux_lemma => kernel_rfl) (by as_aux_lemma => kernel_rfl) (by as_aux_lemma => kernel_rfl) (fun _ d _ _ _ h => by cases d <;> exact h) ⟨s, h1⟩ ?_
            rw [h1]
            clear h1
            simp only [List.map_cons, List.map_nil, List.getElem?_cons_succ, List.getElem?_cons_zero]
            as_aux_lemma =>
             repeat ((with_reducible refine mix_free (fun K hK => ?_)); go_simp; refine hK _ ?_; clear hK K)
             refine mix_forced (fun K hK => ?_) ⟨_, rfl⟩
             go_simp
             refine (tadd_to ht _).mono ?_
             rintro e w1 ⟨rfl, hb⟩
             obtain ⟨s, rfl⟩ := hs w1 ((hf _).trans (hb.mono (hz _)))
             refine hK.out _ _ ⟨s, rfl⟩ (fun _ => ?_)
             clear hK K hb
             repeat ((with_reducible refine mix_free (fun K hK => ?_)); go_simp; refine hK _ ?_; clear hK K)
             refine mix_forced (fun K hK => ?_) ⟨_, rfl⟩
             go_simp
             refine (tzero_any _).mono ?_
             rintro e w1 ⟨rfl, hb⟩
             obtain ⟨s, rfl⟩ := hs w1 ((hf _).trans (hb.mono (hz _)))
             refine hK.out _ _ ⟨s, rfl⟩ (fun _ => ?_)
             clear hK K hb
             repeat ((with_reducible refine mix_free (fun K hK => ?_)); go_simp; refine hK _ ?_; clear hK K)
             refine mix_forced (fun K hK => ?_) ⟨_, rfl⟩
             go_simp
             refine (teq_to es_ _).mono ?_
             rintro e w1 ⟨rfl, hb⟩
             obtain ⟨s, rfl⟩ := hs w1 ((hf _).trans (hb.mono (hz _)))
             refine hK.out _ _ ⟨s, rfl⟩ (fun _ => ?_)
             clear hK K hb
             repeat ((with_reducible refine mix_free (fun K hK => ?_)); go_simp; refine hK _ ?_; clear hK K)
             refine mix_forced (fun K hK => ?_) ⟨_, rfl⟩
             go_simp
             refine (badd_any _ _ _).mono ?_
             rintro e w1 ⟨rfl, hb⟩
             obtain ⟨s, rfl⟩ := hs w1 ((hf _).trans (hb.mono (hz _)))
             refine hK.out _ _ ⟨s, rfl⟩ (fun _ => ?_)
             clear hK K hb
             as_aux_lemma =>
              repeat ((with_reducible refine mix_free (fun K hK => ?_)); go_simp; refine hK _ ?_; clear hK K)
              refine mix_forced (fun K hK => ?_) ⟨_, rfl⟩
              go_simp
              refine (cadd_to hmt _ ba bb).mono ?_
              rintro e w1 ⟨rfl, hb⟩
              obtain ⟨s, rfl⟩ := hs w1 ((hf _).trans (hb.mono (hz _)))
              refine hK.out _ _ ⟨s, rfl⟩ (fun _ => ?_)
              clear hK K hb
              repeat ((with_reducible refine mix_free (fun K hK => ?_)); go_simp; refine hK _ ?_; clear hK K)
              refine mix_forced (fun K hK => ?_) ⟨_, rfl⟩
              go_simp
              refine (czero_any _).mono ?_
              rintro e w1 ⟨rfl, hb⟩
              obtain ⟨s, rfl⟩ := hs w1 ((hf _).trans (hb.mono (hz _)))
              refine hK.out _ _ ⟨s, rfl⟩ (fun _ => ?_)
              clear hK K hb
              repeat ((with_reducible refine mix_free (fun K hK => ?_)); go_simp; refine hK _ ?_; clear hK K)
              refine mix_forced (fun K hK => ?_) ⟨_, rfl⟩
              go_simp
              refine (ceq_to zs_ _).mono ?_
              rintro e w1 ⟨rfl, hb⟩
              obtain ⟨s, rfl⟩ := hs w1 ((hf _).trans (hb.mono (hz _)))
              refine hK.out _ _ ⟨s, rfl⟩ (fun _ => ?_)
              clear hK K hb
              repeat ((with_reducible refine mix_free (fun K hK => ?_)); go_simp; refine hK _ ?_; clear hK K)
              refine mix_forced (fun K hK => ?_) ⟨_, rfl⟩
              go_simp
              refine (badd_any _ _ _).mono ?_
              rintro e w1 ⟨rfl, hb⟩
              obtain ⟨s, rfl⟩ := hs w1 ((hf _).trans (hb.mono (hz _)))
              refine hK.out _ _ ⟨s, rfl⟩ (fun _ => ?_)
              clear hK K hb
              as_aux_lemma =>
               repeat ((with_reducible refine mix_free (fun K hK => ?_)); go_simp; refine hK _ ?_; clear hK K)
               refine mix_nil ?_
               go_wp2_with fail
               as_aux_lemma =>
                obtain ⟨s, h1⟩ := hs ((f s)).drew ((hf s)).drew
                refine wp_region_fast (S := fun w' => ∃ s, w' = f s) [(0, 128, 166153499473114484112975882535043072), (0, 128, 332306998946228968225951765070086144), (0, 4, 664613997892457936451903530140172288), (4, 664613997892457936451903530140172288, 1329227995784915872903807060280344576), (0, 8, 2658455991569831745807614120560689152), (16, 2658455991569831745807614120560689152, 5316911983139663491615228241121378304), (42, 6978446977870808332744987066471809024, 10633823966279326983230456482242756608), (0, 128, 21267647932558653966460912964485513216), (192, 21267647932558653966460912964485513216, 42535295865117307932921825928971026432), (321, 53335273330869749400265258293748826112, 85070591730234615865843651857942052864), (512, 85070591730234615865843651857942052864, 170141183460469231731687303715884105728), (0, 256, 340282366920938463463374607431768211456), (0, 2048, 680564733841876926926749214863536422912), (0, 4096, 1361129467683753853853498429727072845824), (14848, 2381976568446569244243622252022377480192, 2722258935367507707706996859454145691648), (17408, 2892400118827976939438684163170029797376, 5444517870735015415413993718908291383296), (65535, 5444517870735015415413993718908291383296, 32768)] [(0, false, (0, 128, 166153499473114484112975882535043072)), (1, false, (0, 128, 332306998946228968225951765070086144)), (2, false, (0, 4, 664613997892457936451903530140172288)), (3, false, (4, 664613997892457936451903530140172288, 1329227995784915872903807060280344576)), (4, false, (0, 8, 2658455991569831745807614120560689152)), (5, false, (16, 2658455991569831745807614120560689152, 5316911983139663491615228241121378304)), (7, false, (0, 128, 21267647932558653966460912964485513216)), (11, false, (0, 256, 340282366920938463463374607431768211456)), (12, false, (0, 2048, 680564733841876926926749214863536422912)), (13, false, (0, 4096, 1361129467683753853853498429727072845824)), (6, true, (42, 6978446977870808332744987066471809024, 10633823966279326983230456482242756608)), (8, true, (192, 21267647932558653966460912964485513216, 42535295865117307932921825928971026432)), (9, true, (321, 53335273330869749400265258293748826112, 85070591730234615865843651857942052864)), (10, false, (512, 85070591730234615865843651857942052864, 170141183460469231731687303715884105728)), (14, true, (14848, 2381976568446569244243622252022377480192, 2722258935367507707706996859454145691648)), (15, false, (17408, 2892400118827976939438684163170029797376, 5444517870735015415413993718908291383296)), (16, false, (65535, 5444517870735015415413993718908291383296, 32768))] (by as_aux_lemma => kernel_rfl) (by as_aux_lemma => kernel_rfl) (by as_aux_lemma => kernel_rfl) (fun _ d _ _ _ h => by cases d <;> exact h) ⟨s, h1⟩ ?_
                rw [h1]
                clear h1
                simp only [List.map_cons, List.map_nil, List.getElem?_cons_succ, List.getElem?_cons_zero]
                as_aux_lemma =>
                 repeat ((with_reducible refine mix_free (fun K hK => ?_)); go_simp; refine hK _ ?_; clear hK K)
                 refine mix_forced (fun K hK => ?_) ⟨_, rfl⟩
                 go_simp
                 refine (cmul_to hp _ ba bb).mono ?_
                 rintro e w1 ⟨rfl, hb⟩
                 obtain ⟨s, rfl⟩ := hs w1 ((hf _).trans (hb.mono (hz _)))
                 refine hK.out _ _ ⟨s, rfl⟩ (fun _ => ?_)
                 clear hK K hb
                 repeat ((with_reducible refine mix_free (fun K hK => ?_)); go_simp; refine hK _ ?_; clear hK K)
                 refine mix_forced (fun K hK => ?_) ⟨_, rfl⟩
                 go_simp
                 refine (czero_any _).mono ?_
                 rintro e w1 ⟨rfl, hb⟩
                 obtain ⟨s, rfl⟩ := hs w1 ((hf _).trans (hb.mono (hz _)))
                 refine hK.out _ _ ⟨s, rfl⟩ (fun _ => ?_)
                 clear hK K hb
                 repeat ((with_reducible refine mix_free (fun K hK => ?_)); go_simp; refine hK _ ?_; clear hK K)
                 refine mix_forced (fun K hK => ?_) ⟨_, rfl⟩
                 go_simp
                 refine (ceq_to zp_ _).mono ?_
                 rintro e w1 ⟨rfl, hb⟩
                 obtain ⟨s, rfl⟩ := hs w1 ((hf _).trans (hb.mono (hz _)))
                 refine hK.out _ _ ⟨s, rfl⟩ (fun _ => ?_)
                 clear hK K hb
                 repeat ((with_reducible refine mix_free (fun K hK => ?_)); go_simp; refine hK _ ?_; clear hK K)
                 refine mix_forced (fun K hK => ?_) ⟨_, rfl⟩
                 go_simp
                 refine (bmul_any _ _ _).mono ?_
                 rintro e w1 ⟨rfl, hb⟩
                 obtain ⟨s, rfl⟩ := hs w1 ((hf _).trans (hb.mono (hz _)))
                 refine hK.out _ _ ⟨s, rfl⟩ (fun _ => ?_)
                 clear hK K hb
                 as_aux_lemma =>
                  repeat ((with_reducible refine mix_free (fun K hK => ?_)); go_simp; refine hK _ ?_; clear hK K)
                  refine mix_nil ?_
                  go_wp2_with fail
                  as_aux_lemma =>
                   have hdec := HL.out
                   have hw : IntKind.i64.wrap (a0 + b0) = a0 + b0 := IntWalk.i64_in _ (by omega)
                   obtain ⟨s, h1⟩ := hs ((f s)).drew ((hf s)).drew
                   refine wp_region_fast (S := fun w' => ∃ s, w' = f s) [(0, 0, 10889035741470030830827987437816582766592), (1, 10889035741470030830827987437816582766592, 21778071482940061661655974875633165533184), (2, 21778071482940061661655974875633165541376, 43556142965880123323311949751266331066368), (6, 65334214448820184984967924626899496599552, 87112285931760246646623899502532662132736), (10, 87112285931760246646623899502532662132736, 174224571863520493293247799005065324265472), (16, 174224571863520493293247799005065324281856, 348449143727040986586495598010130648530944), (48, 522673715590561479879743397015195972796416, 696898287454081973172991196020261297061888), (80, 696898287454081973172991196020261297061888, 1393796574908163946345982392040522594123776), (128, 1393796574908163946345982392040522594156544, 2787593149816327892691964784081045188247552), (384, 4181389724724491839037947176121567782371328, 5575186299632655785383929568162090376495104), (640, 5575186299632655785383929568162090376495104, 11150372599265311570767859136324180752990208), (1024, 11150372599265311570767859136324180752990212, 22300745198530623141535718272648361505980416), (3072, 33451117797795934712303577408972542258970624, 44601490397061246283071436545296723011960832), (1024, 11150372599265311570767859136324180752990216, 89202980794122492566142873090593446023921664), (9216, 100353353393387804136910732226917626776911872, 178405961588244985132285746181186892047843328), (21504, 234157824584571542986125041862807795812794368, 356811923176489970264571492362373784095686656), (33792, 367962295775755281835339351498697964848676864, 713623846352979940529142984724747568191373312), (66560, 724774218952245252099910843861071748944363520, 1427247692705959881058285969449495136382746624), (131072, 1427247692705959881058285969449495136382746688, 2854495385411919762116571938898990272765493248), (131072, 1427247692705959881058285969449495136382746688, 5708990770823839524233143877797980545530986496), (131072, 1427247692705959881058285969449495136382746628, 11417981541647679048466287755595961091061972992), (1179648, 12845229234353638929524573725045456227444719616, 22835963083295358096932575511191922182123945984), (131072, 1427247692705959881058285969449495136382746632, 45671926166590716193865151022383844364247891968), (4325376, 47099173859296676074923436991833339500630638592, 91343852333181432387730302044767688728495783936), (11141120, 121316053880006589889954307403207086592533463040, 182687704666362864775460604089535377456991567872), (131072, 1427247692705959881058285969449495136382746688, 365375409332725729550921208179070754913983135744), (50462720, 366802657025431689431979494148520250050365882368, 730750818665451459101842416358141509827966271488), (84279296, 917720266409932203520477878356025372694106079232, 1461501637330902918203684832716283019655932542976), (134348800, 1462928885023608878084743118685732514792315289600, 2923003274661805836407369665432566039311865085952), (131072, 1427247692705959881058285969449495136382746880, 5846006549323611672814739330865132078623730171904), (131072, 1427247692705959881058285969449495136382747136, 11692013098647223345629478661730264157247460343808), (131072, 1427247692705959881058285969449495136382747648, 23384026197294446691258957323460528314494920687616), (3892445184, 40923473092957987669584233602025374045502493949952, 46768052394588893382517914646921056628989841375232), (4563533824, 49692482916943405178806342598323072163438089207808, 93536104789177786765035829293842113257979682750464), (8590066688, 93537543187243091990228458347670699077296818487296, 187072209578355573530071658587684226515959365500928), (17179870208, 187072220728728172795383229355543362840140118491136, 374144419156711147060143317175368453031918731001856), (68719476735, 374144419156711147060143317175368453031918731001856, 16)] [(0, true, (0, 0, 10889035741470030830827987437816582766592)), (1, false, (1, 10889035741470030830827987437816582766592, 21778071482940061661655974875633165533184)), (2, false, (2, 21778071482940061661655974875633165541376, 43556142965880123323311949751266331066368)), (3, false, (6, 65334214448820184984967924626899496599552, 87112285931760246646623899502532662132736)), (4, false, (10, 87112285931760246646623899502532662132736, 174224571863520493293247799005065324265472)), (5, false, (16, 174224571863520493293247799005065324281856, 348449143727040986586495598010130648530944)), (6, false, (48, 522673715590561479879743397015195972796416, 696898287454081973172991196020261297061888)), (7, false, (80, 696898287454081973172991196020261297061888, 1393796574908163946345982392040522594123776)), (8, false, (128, 1393796574908163946345982392040522594156544, 2787593149816327892691964784081045188247552)), (9, false, (384, 4181389724724491839037947176121567782371328, 5575186299632655785383929568162090376495104)), (10, false, (640, 5575186299632655785383929568162090376495104, 11150372599265311570767859136324180752990208)), (11, false, (1024, 11150372599265311570767859136324180752990212, 22300745198530623141535718272648361505980416)), (12, false, (3072, 33451117797795934712303577408972542258970624, 44601490397061246283071436545296723011960832)), (13, false, (1024, 11150372599265311570767859136324180752990216, 89202980794122492566142873090593446023921664)), (14, false, (9216, 100353353393387804136910732226917626776911872, 178405961588244985132285746181186892047843328)), (15, false, (21504, 234157824584571542986125041862807795812794368, 356811923176489970264571492362373784095686656)), (16, false, (33792, 367962295775755281835339351498697964848676864, 713623846352979940529142984724747568191373312)), (17, false, (66560, 724774218952245252099910843861071748944363520, 1427247692705959881058285969449495136382746624)), (18, false, (131072, 1427247692705959881058285969449495136382746688, 2854495385411919762116571938898990272765493248)), (19, false, (131072, 1427247692705959881058285969449495136382746688, 5708990770823839524233143877797980545530986496)), (20, false, (131072, 1427247692705959881058285969449495136382746628, 11417981541647679048466287755595961091061972992)), (21, false, (1179648, 12845229234353638929524573725045456227444719616, 22835963083295358096932575511191922182123945984)), (22, false, (131072, 1427247692705959881058285969449495136382746632, 45671926166590716193865151022383844364247891968)), (23, false, (4325376, 47099173859296676074923436991833339500630638592, 91343852333181432387730302044767688728495783936)), (25, false, (131072, 1427247692705959881058285969449495136382746688, 365375409332725729550921208179070754913983135744)), (29, false, (131072, 1427247692705959881058285969449495136382746880, 5846006549323611672814739330865132078623730171904)), (30, false, (131072, 1427247692705959881058285969449495136382747136, 11692013098647223345629478661730264157247460343808)), (31, false, (131072, 1427247692705959881058285969449495136382747648, 23384026197294446691258957323460528314494920687616)), (24, true, (11141120, 121316053880006589889954307403207086592533463040, 182687704666362864775460604089535377456991567872)), (26, true, (50462720, 366802657025431689431979494148520250050365882368, 730750818665451459101842416358141509827966271488)), (27, true, (84279296, 917720266409932203520477878356025372694106079232, 1461501637330902918203684832716283019655932542976)), (28, false, (134348800, 1462928885023608878084743118685732514792315289600, 2923003274661805836407369665432566039311865085952)), (32, true, (3892445184, 40923473092957987669584233602025374045502493949952, 46768052394588893382517914646921056628989841375232)), (33, false, (4563533824, 49692482916943405178806342598323072163438089207808, 93536104789177786765035829293842113257979682750464)), (34, false, (8590066688, 93537543187243091990228458347670699077296818487296, 187072209578355573530071658587684226515959365500928)), (35, false, (17179870208, 187072220728728172795383229355543362840140118491136, 374144419156711147060143317175368453031918731001856)), (36, false, (68719476735, 374144419156711147060143317175368453031918731001856, 16))] (by as_aux_lemma => kernel_rfl) (by as_aux_lemma => kernel_rfl) (by as_aux_lemma => kernel_rfl) (fun _ d _ _ _ h => by cases d <;> exact h) ⟨s, h1⟩ ?_
                   rw [h1]
                   clear h1
                   simp only [List.map_cons, List.map_nil, List.getElem?_cons_succ, List.getElem?_cons_zero]
                   as_aux_lemma =>
                    repeat ((with_reducible refine mix_free (fun K hK => ?_)); go_simp; refine hK _ ?_; clear hK K)
                    refine mix_forced (fun K hK => ?_) ⟨_, rfl⟩
                    go_simp
                    refine (awake_any _).mono ?_
                    rintro e w1 ⟨rfl, hb⟩
                    obtain ⟨s, rfl⟩ := hs w1 ((hf _).trans (hb.mono (hz _)))
                    refine hK.out _ _ ⟨s, rfl⟩ (fun _ => ?_)
                    clear hK K hb
                    repeat ((with_reducible refine mix_free (fun K hK => ?_)); go_simp; refine hK _ ?_; clear hK K)
                    refine mix_forced (fun K hK => ?_) ⟨_, rfl⟩
                    go_simp
                    refine (tmul_to hmt _ ba bb).mono ?_
                    rintro e w1 ⟨rfl, hb⟩
                    obtain ⟨s, rfl⟩ := hs w1 ((hf _).trans (hb.mono (hz _)))
                    refine hK.out _ _ ⟨s, rfl⟩ (fun _ => ?_)
                    clear hK K hb
                    repeat ((with_reducible refine mix_free (fun K hK => ?_)); go_simp; refine hK _ ?_; clear hK K)
                    refine mix_forced (fun K hK => ?_) ⟨_, rfl⟩
                    go_simp
                    refine (tzero_any _).mono ?_
                    rintro e w1 ⟨rfl, hb⟩
                    obtain ⟨s, rfl⟩ := hs w1 ((hf _).trans (hb.mono (hz _)))
                    refine hK.out _ _ ⟨s, rfl⟩ (fun _ => ?_)
                    clear hK K hb
                    repeat ((with_reducible refine mix_free (fun K hK => ?_)); go_simp; refine hK _ ?_; clear hK K)
                    refine mix_forced (fun K hK => ?_) ⟨_, rfl⟩
                    go_simp
                    refine (teq_to em_ _).mono ?_
                    rintro e w1 ⟨rfl, hb⟩
                    obtain ⟨s, rfl⟩ := hs w1 ((hf _).trans (hb.mono (hz _)))
                    refine hK.out _ _ ⟨s, rfl⟩ (fun _ => ?_)
                    clear hK K hb
                    as_aux_lemma =>
                     repeat ((with_reducible refine mix_free (fun K hK => ?_)); go_simp; refine hK _ ?_; clear hK K)
                     refine mix_forced (fun K hK => ?_) ⟨_, rfl⟩
                     go_simp
                     refine (bmul_any _ _ _).mono ?_
                     rintro e w1 ⟨rfl, hb⟩
                     obtain ⟨s, rfl⟩ := hs w1 ((hf _).trans (hb.mono (hz _)))
                     refine hK.out _ _ ⟨s, rfl⟩ (fun _ => ?_)
                     clear hK K hb
                     repeat ((with_reducible refine mix_free (fun K hK => ?_)); go_simp; refine hK _ ?_; clear hK K)
                     refine mix_nil ?_
                     go_wp2
                     go_ret
                     exact ⟨rfl, hbel s⟩

theorem beq_eq_and {a b c : Int} {k : Int} (h : a = k ↔ b = k ∧ c = k) : (a == k) = ((b == k) && (c == k)) := by
  rw [Bool.eq_iff_iff]; simp [h]
theorem beq_eq_or {a b c : Int} {k : Int} (h : a = k ↔ b = k ∨ c = k) : (a == k) = ((b == k) || (c == k)) := by
  rw [Bool.eq_iff_iff]; simp [h]
theorem hom_any (a0 a1 b0 b1 : Int) (w : World) : Calls Try.prog 10 #[.agg #[.int .i64 a0, .int .i64 a1], .agg #[.int .i64 b0, .int .i64 b1]] w fun e w' => e = .returned (.bool true) ∧ Below w.heap.size w w' := by
  cases h : (valB a0 a1 && valB b0 b1)
  · exact hom_no _ _ _ _ _ h
  · obtain ⟨ha, hb⟩ : valB a0 a1 = true ∧ valB b0 b1 = true := by simpa using h
    have ka := valB_vel ha
    have kb := valB_vel hb
    have hva := fun w => value_any a0 a1 w
    have hvb := fun w => value_any b0 b1 w
    rw [ha] at hva
    rw [hb] at hvb
    obtain ⟨x1, x2, x3, x4⟩ := vel_ok ka
    obtain ⟨y1, y2, y3, y4⟩ := vel_ok kb
    simp only at x1 x2 x3 x4 y1 y2 y3 y4
    have ev := vadd_if (a0, a1) (b0, b1)
    have em := vmul_if (a0, a1) (b0, b1)
    obtain ⟨r0, r1, hr⟩ := pair_ex (vadd (a0, a1) (b0, b1))
    obtain ⟨m0, m1, hm⟩ := pair_ex (vmul (a0, a1) (b0, b1))
    rw [hr] at ev
    rw [hm] at em
    have hr0 : r0 = min a0 b0 := by
      simp only at ev
      split at ev
      · simp only [Prod.mk.injEq] at ev; omega
      · simp only [Prod.mk.injEq] at ev; omega
    have hm0 : m0 = min (a0 + b0) 1099511627776 := by
      simp only at em
      split at em
      · simp only [Prod.mk.injEq] at em; omega
      · simp only [Prod.mk.injEq] at em; omega
    have ht : tadd a0 b0 = r0 := by rw [tadd_min, hr0]
    have hmt : tmul a0 b0 = m0 := by rw [tmul_min, hm0]
    have kp : (cmul a0 b0 == 0) = ((a0 == 0) || (b0 == 0)) := beq_eq_or (by
      rw [cmul_min]
      constructor
      · intro h0
        have h1 : 0 ≤ a0 * b0 := Int.mul_nonneg x1 y1
        have h2 : a0 * b0 = 0 := by omega
        exact Int.mul_eq_zero.1 h2
      · rintro (h0 | h0)
        · rw [h0, Int.zero_mul]; omega
        · rw [h0, Int.mul_zero]; omega)
    by_cases hlt : 1099511627776 ≤ a0 + b0
    · exact hom_ge a0 a1 b0 b1 r0 r1 m0 m1 _ _ _ _ _ w hva hvb ka kb ⟨x1, x2⟩ ⟨y1, y2⟩ (by omega) hr ht hm hmt rfl rfl rfl (beq_eq_and (by omega)) kp rfl rfl (beq_eq_and (by omega)) hlt
    · exact hom_lt a0 a1 b0 b1 r0 r1 m0 m1 _ _ _ w hva hvb ka kb ⟨x1, x2⟩ ⟨y1, y2⟩ (by omega) hr ht hm hmt rfl rfl rfl (beq_eq_and (by omega)) kp (by simp; omega) (by simp; omega) (by simp; omega) (by simp; omega) hlt
end Go.Proofs.Ytdnkkeabimjbaaa
