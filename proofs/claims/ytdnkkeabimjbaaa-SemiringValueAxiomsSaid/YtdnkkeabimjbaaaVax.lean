/- Lexicographic satisfies the axioms of semirings: the law's walk. Printed by gen26vax.py. -/
import Derived.Test.YtdnkkeabimjbaaaTo
import Derived.Test.YtdnkkeabimjbaaaMix2
namespace Go.Proofs.Ytdnkkeabimjbaaa
open Go.RowKit

set_option maxRecDepth 100000 in
set_option maxHeartbeats 2000000 in
theorem vax_no (a0 a1 b0 b1 c0 c1 : Int) (w : World) (h : (valB a0 a1 && (valB b0 b1 && valB c0 c1)) = false) : Calls Try.prog 6 #[.agg #[.int .i64 a0, .int .i64 a1], .agg #[.int .i64 b0, .int .i64 b1], .agg #[.int .i64 c0, .int .i64 c1]] w fun e w' => e = .returned (.bool true) ∧ Below w.heap.size w w' := by
  have hva := fun w => value_any a0 a1 w
  have hvb := fun w => value_any b0 b1 w
  have hvc := fun w => value_any c0 c1 w
  obtain ⟨S, hne, f, hf, hs⟩ := fam_of (w.heap.size + 1 + 1 + 1) (((w.alloc (.cells #[.int .i64 a0, .int .i64 a1] 23)).alloc (.cells #[.int .i64 b0, .int .i64 b1] 23)).alloc (.cells #[.int .i64 c0, .int .i64 c1] 23))
  have hz : ∀ s, w.heap.size + 1 + 1 + 1 ≤ (f s).heap.size := fun s => by simpa using (hf s).size
  have k00 : ∀ s, (f s).cell? ⟨w.heap.size, 0, none⟩ = some (.int .i64 a0) := fun s => ((hf s).cell (p := ⟨w.heap.size, 0, none⟩) (by simp <;> omega)).trans (by simp [go_sem])
  have k01 : ∀ s, (f s).cell? ⟨w.heap.size, 1, none⟩ = some (.int .i64 a1) := fun s => ((hf s).cell (p := ⟨w.heap.size, 1, none⟩) (by simp <;> omega)).trans (by simp [go_sem])
  have k10 : ∀ s, (f s).cell? ⟨w.heap.size + 1, 0, none⟩ = some (.int .i64 b0) := fun s => ((hf s).cell (p := ⟨w.heap.size + 1, 0, none⟩) (by simp <;> omega)).trans (by simp [go_sem])
  have k11 : ∀ s, (f s).cell? ⟨w.heap.size + 1, 1, none⟩ = some (.int .i64 b1) := fun s => ((hf s).cell (p := ⟨w.heap.size + 1, 1, none⟩) (by simp <;> omega)).trans (by simp [go_sem])
  have k20 : ∀ s, (f s).cell? ⟨w.heap.size + 1 + 1, 0, none⟩ = some (.int .i64 c0) := fun s => ((hf s).cell (p := ⟨w.heap.size + 1 + 1, 0, none⟩) (by simp <;> omega)).trans (by simp [go_sem])
  have k21 : ∀ s, (f s).cell? ⟨w.heap.size + 1 + 1, 1, none⟩ = some (.int .i64 c1) := fun s => ((hf s).cell (p := ⟨w.heap.size + 1 + 1, 1, none⟩) (by simp <;> omega)).trans (by simp [go_sem])
  have hbel : ∀ s, Below w.heap.size w (f s) := fun s => (show Below w.heap.size w (((w.alloc (.cells #[.int .i64 a0, .int .i64 a1] 23)).alloc (.cells #[.int .i64 b0, .int .i64 b1] 23)).alloc (.cells #[.int .i64 c0, .int .i64 c1] 23)) by repeat (first | exact Below.refl _ _ | refine Below.alloc ?_ (by simp <;> omega) _)).trans ((hf s).mono (by omega))
  obtain ⟨s, h0⟩ := hs (((w.alloc (.cells #[.int .i64 a0, .int .i64 a1] 23)).alloc (.cells #[.int .i64 b0, .int .i64 b1] 23)).alloc (.cells #[.int .i64 c0, .int .i64 c1] 23)) (Below.refl _ _)
  have H0 := Lib.hid h0
  clear h0
  cases ha : valB a0 a1
  · rw [ha] at hva
    clear hvb hvc ha h
    go_enter Try.func6, Try.ntmps6
    go_wp2_with fail
    rw [H0.out]
    clear H0
    refine (hva _).mono ?_
    rintro e w1 ⟨rfl, hb⟩
    obtain ⟨s, rfl⟩ := hs w1 ((hf _).trans (hb.mono (hz _)))
    clear hb
    go_wp2_with (go_at_call 12; with_reducible refine (awake_any _).mono ?_; rintro e w1 ⟨rfl, hb⟩; obtain ⟨s, rfl⟩ := hs w1 ((hf _).trans (hb.mono (hz _))); clear hb)
    go_ret
    exact ⟨rfl, hbel s⟩
  · rw [ha] at hva h
    cases hb : valB b0 b1
    · rw [hb] at hvb
      clear hvc hb ha h
      go_enter Try.func6, Try.ntmps6
      go_wp2_with fail
      rw [H0.out]
      clear H0
      refine (hva _).mono ?_
      rintro e w1 ⟨rfl, hb⟩
      obtain ⟨s, rfl⟩ := hs w1 ((hf _).trans (hb.mono (hz _)))
      clear hb
      go_wp2_with (first | (go_at_call 11; with_reducible refine (hvb _).mono ?_; rintro e w1 ⟨rfl, hb⟩; obtain ⟨s, rfl⟩ := hs w1 ((hf _).trans (hb.mono (hz _))); clear hb) | (go_at_call 12; with_reducible refine (awake_any _).mono ?_; rintro e w1 ⟨rfl, hb⟩; obtain ⟨s, rfl⟩ := hs w1 ((hf _).trans (hb.mono (hz _))); clear hb))
      go_ret
      exact ⟨rfl, hbel s⟩
    · rw [hb] at hvb h
      have hc : valB c0 c1 = false := by simpa using h
      rw [hc] at hvc
      clear hc hb ha h
      go_enter Try.func6, Try.ntmps6
      go_wp2_with fail
      rw [H0.out]
      clear H0
      refine (hva _).mono ?_
      rintro e w1 ⟨rfl, hb⟩
      obtain ⟨s, rfl⟩ := hs w1 ((hf _).trans (hb.mono (hz _)))
      clear hb
      go_wp2_with (first | (go_at_call 11; with_reducible refine (hvb _).mono ?_; rintro e w1 ⟨rfl, hb⟩; obtain ⟨s, rfl⟩ := hs w1 ((hf _).trans (hb.mono (hz _))); clear hb) | (go_at_call 11; with_reducible refine (hvc _).mono ?_; rintro e w1 ⟨rfl, hb⟩; obtain ⟨s, rfl⟩ := hs w1 ((hf _).trans (hb.mono (hz _))); clear hb) | (go_at_call 12; with_reducible refine (awake_any _).mono ?_; rintro e w1 ⟨rfl, hb⟩; obtain ⟨s, rfl⟩ := hs w1 ((hf _).trans (hb.mono (hz _))); clear hb))
      go_ret
      exact ⟨rfl, hbel s⟩

set_option maxRecDepth 100000 in
set_option maxHeartbeats 8000000 in
theorem vax_core (a0 a1 b0 b1 c0 c1 x0 x1 y0 y1 z0 z1 m0 m1 n0 n1 p0 p1 d0 d1 q0 q1 : Int) (w : World) (hva : ∀ w, Calls Try.prog 11 #[.agg #[.int .i64 a0, .int .i64 a1]] w fun e w' => e = .returned (.bool true) ∧ Below w.heap.size w w') (hvb : ∀ w, Calls Try.prog 11 #[.agg #[.int .i64 b0, .int .i64 b1]] w fun e w' => e = .returned (.bool true) ∧ Below w.heap.size w w') (hvc : ∀ w, Calls Try.prog 11 #[.agg #[.int .i64 c0, .int .i64 c1]] w fun e w' => e = .returned (.bool true) ∧ Below w.heap.size w w')
    (hbc : vadd (b0, b1) (c0, c1) = (x0, x1)) (ha_bc : vadd (a0, a1) (x0, x1) = (y0, y1)) (hab : vadd (a0, a1) (b0, b1) = (z0, z1)) (hab_c : vadd (z0, z1) (c0, c1) = (y0, y1)) (hba : vadd (b0, b1) (a0, a1) = (z0, z1)) (mbc : vmul (b0, b1) (c0, c1) = (m0, m1)) (ma_bc : vmul (a0, a1) (m0, m1) = (n0, n1)) (mab : vmul (a0, a1) (b0, b1) = (p0, p1)) (mab_c : vmul (p0, p1) (c0, c1) = (n0, n1)) (ma_x : vmul (a0, a1) (x0, x1) = (d0, d1)) (mac : vmul (a0, a1) (c0, c1) = (q0, q1)) (hd : vadd (p0, p1) (q0, q1) = (d0, d1)) (haz : vadd (a0, a1) (1099511627776, 0) = (a0, a1)) (haa : vadd (a0, a1) (a0, a1) = (a0, a1)) (ma1 : vmul (a0, a1) (0, 0) = (a0, a1)) (m1a : vmul (0, 0) (a0, a1) = (a0, a1)) (maz : vmul (a0, a1) (1099511627776, 0) = (1099511627776, 0)) (ka : vel (a0, a1)) (kb : vel (b0, b1)) (kc : vel (c0, c1)) (kx : vel (x0, x1)) (km : vel (m0, m1)) (kp : vel (p0, p1)) (k0 : vel (1099511627776, 0)) (k1 : vel (0, 0)) :
    Calls Try.prog 6 #[.agg #[.int .i64 a0, .int .i64 a1], .agg #[.int .i64 b0, .int .i64 b1], .agg #[.int .i64 c0, .int .i64 c1]] w fun e w' => e = .returned (.bool true) ∧ Below w.heap.size w w' := by
  obtain ⟨S, hne, f, hf, hs⟩ := fam_of (w.heap.size + 1 + 1 + 1) (((w.alloc (.cells #[.int .i64 a0, .int .i64 a1] 23)).alloc (.cells #[.int .i64 b0, .int .i64 b1] 23)).alloc (.cells #[.int .i64 c0, .int .i64 c1] 23))
  have hz : ∀ s, w.heap.size + 1 + 1 + 1 ≤ (f s).heap.size := fun s => by simpa using (hf s).size
  have k00 : ∀ s, (f s).cell? ⟨w.heap.size, 0, none⟩ = some (.int .i64 a0) := fun s => ((hf s).cell (p := ⟨w.heap.size, 0, none⟩) (by simp <;> omega)).trans (by simp [go_sem])
  have k01 : ∀ s, (f s).cell? ⟨w.heap.size, 1, none⟩ = some (.int .i64 a1) := fun s => ((hf s).cell (p := ⟨w.heap.size, 1, none⟩) (by simp <;> omega)).trans (by simp [go_sem])
  have k10 : ∀ s, (f s).cell? ⟨w.heap.size + 1, 0, none⟩ = some (.int .i64 b0) := fun s => ((hf s).cell (p := ⟨w.heap.size + 1, 0, none⟩) (by simp <;> omega)).trans (by simp [go_sem])
  have k11 : ∀ s, (f s).cell? ⟨w.heap.size + 1, 1, none⟩ = some (.int .i64 b1) := fun s => ((hf s).cell (p := ⟨w.heap.size + 1, 1, none⟩) (by simp <;> omega)).trans (by simp [go_sem])
  have k20 : ∀ s, (f s).cell? ⟨w.heap.size + 1 + 1, 0, none⟩ = some (.int .i64 c0) := fun s => ((hf s).cell (p := ⟨w.heap.size + 1 + 1, 0, none⟩) (by simp <;> omega)).trans (by simp [go_sem])
  have k21 : ∀ s, (f s).cell? ⟨w.heap.size + 1 + 1, 1, none⟩ = some (.int .i64 c1) := fun s => ((hf s).cell (p := ⟨w.heap.size + 1 + 1, 1, none⟩) (by simp <;> omega)).trans (by simp [go_sem])
  have hbel : ∀ s, Below w.heap.size w (f s) := fun s => (show Below w.heap.size w (((w.alloc (.cells #[.int .i64 a0, .int .i64 a1] 23)).alloc (.cells #[.int .i64 b0, .int .i64 b1] 23)).alloc (.cells #[.int .i64 c0, .int .i64 c1] 23)) by repeat (first | exact Below.refl _ _ | refine Below.alloc ?_ (by simp <;> omega) _)).trans ((hf s).mono (by omega))
  obtain ⟨s, h0⟩ := hs (((w.alloc (.cells #[.int .i64 a0, .int .i64 a1] 23)).alloc (.cells #[.int .i64 b0, .int .i64 b1] 23)).alloc (.cells #[.int .i64 c0, .int .i64 c1] 23)) (Below.refl _ _)
  have H0 := Lib.hid h0
  clear h0
  go_enter Try.func6, Try.ntmps6
  go_wp2_with fail
  rw [H0.out]
  clear H0
  refine (hva _).mono ?_
  rintro e w1 ⟨rfl, hb⟩
  obtain ⟨s, rfl⟩ := hs w1 ((hf _).trans (hb.mono (hz _)))
  clear hb
  go_wp2_with (first | (go_at_call 11; with_reducible refine (hvb _).mono ?_; rintro e w1 ⟨rfl, hb⟩; obtain ⟨s, rfl⟩ := hs w1 ((hf _).trans (hb.mono (hz _))); clear hb) | (go_at_call 11; with_reducible refine (hvc _).mono ?_; rintro e w1 ⟨rfl, hb⟩; obtain ⟨s, rfl⟩ := hs w1 ((hf _).trans (hb.mono (hz _))); clear hb))
  clear hva hvb hvc
  as_aux_lemma =>
   obtain ⟨s, h1⟩ := hs ((f s).alloc (.cells #[] 27)).drew ((hf s).alloc (hz s) _).drew
   refine wp_region_fast (S := fun w' => ∃ s, w' = f s) [(0, 0, 8388608), (1, 8388608, 16777216), (2, 16777344, 33554432), (2, 16777224, 67108864), (2, 16777344, 134217728), (2, 16777232, 268435456), (2, 16777248, 536870912), (114, 956301312, 1073741824), (142, 1191182336, 2147483648), (2, 16777344, 4294967296), (2, 16777344, 8589934592), (2, 16777224, 17179869184), (2, 16777232, 34359738368), (7426, 60146319360, 68719476736), (2, 16777248, 137438953472), (25090, 210470174720, 274877906944), (33026, 277042167808, 549755813888), (65538, 549772591104, 1099511627776), (163840, 1099511627776, 2199023255552), (262144, 2199023255680, 4398046511104), (262144, 2199023255560, 8796093022208), (262144, 2199023255568, 17592186044416), (3932160, 32985348833280, 35184372088832), (262144, 2199023255680, 70368744177664), (262144, 2199023255568, 140737488355328), (262144, 2199023255560, 281474976710656), (63176704, 494780232499200, 562949953421312), (71565312, 600333348765696, 1125899906842624), (134479872, 1128098930098176, 2251799813685248), (335544320, 2251799813685248, 4503599627370496), (536870912, 4503599627370624, 9007199254740992), (536870912, 4503599627370504, 18014398509481984), (536870912, 4503599627370624, 36028797018963968), (4831838208, 40532396646334464, 72057594037927936), (12348030976, 103582791429521408, 144115188075855872), (536870912, 4503599627370504, 288230376151711744), (52076478464, 436849163854938112, 576460752303423488), (69256347648, 580964351930793984, 1152921504606846976), (154618822656, 1152921504606846976, 2305843009213693952), (274877906944, 2305843009213694080, 4611686018427387904), (274877906944, 2305843009213693960, 9223372036854775808), (274877906944, 2305843009213694080, 18446744073709551616), (274877906944, 2305843009213693968, 36893488147419103232), (274877906944, 2305843009213693984, 73786976294838206464), (15668040695808, 131433051525180555264, 147573952589676412928), (19516331393024, 163714853654172270592, 295147905179352825856), (274877906944, 2305843009213694080, 590295810358705651712), (274877906944, 2305843009213694080, 1180591620717411303424), (274877906944, 2305843009213693960, 2361183241434822606848), (274877906944, 2305843009213693968, 4722366482869645213696), (1020621668483072, 8266447188031092817920, 9444732965739290427392), (274877906944, 2305843009213693984, 18889465931478580854784), (3448343342612480, 28926800550585790627840, 37778931862957161709568), (4539058877366272, 38076385611145728229376, 75557863725914323419136), (9007474132647936, 75560169568923537113088, 151115727451828646838272), (22517998136852480, 151115727451828646838272, 302231454903657293676544), (36028797018963968, 302231454903657293676672, 604462909807314587353088), (36028797018963968, 302231454903657293676552, 1208925819614629174706176), (36028797018963968, 302231454903657293676672, 2417851639229258349412352), (324259173170675712, 2720083094132915643088896, 4835703278458516698824704), (828662331436171264, 6951323462784117754560512, 9671406556917033397649408), (36028797018963968, 302231454903657293676552, 19342813113834066795298816), (3494793310839504896, 29316451125654757486624768, 38685626227668133590597632), (4647714815446351872, 38987857682571790884274176, 77371252455336267181195264), (10376293541461622784, 77371252455336267181195264, 154742504910672534362390528), (18446744073709551616, 154742504910672534362390656, 309485009821345068724781056), (18446744073709551616, 154742504910672534362390656, 618970019642690137449562112), (92233720368547758080, 773712524553362671811952640, 1237940039285380274899124224), (18446744073709551616, 154742504910672534362390536, 2475880078570760549798248448), (498062089990157893632, 4178047632588158427784544256, 4951760157141521099596496896), (18446744073709551616, 154742504910672534362390536, 9903520314283042199192993792), (1789334175149826506752, 15010022976335235833151881216, 19807040628566084398385987584), (2379629985508532158464, 19961783133476756932748378112, 39614081257132168796771975168), (5312662293228350865408, 39614081257132168796771975168, 79228162514264337593543950336), (9444732965739290427392, 79228162514264337593543950464, 158456325028528675187087900672), (9444732965739290427392, 79228162514264337593543950344, 316912650057057350374175801344), (9444732965739290427392, 79228162514264337593543950464, 633825300114114700748351602688), (85002596691653613846528, 713053462628379038341895553024, 1267650600228229401496703205376), (217228858212003679830016, 1822247737828079764651510857728, 2535301200456458802993406410752), (9444732965739290427392, 79228162514264337593543950464, 5070602400912917605986812821504), (916139097676711171457024, 5149830563427181943580356771840, 10141204801825835211973625643008), (1520602007484025758810112, 12755734164796558352560576004096, 20282409603651670423947251286016), (2427296372194997639839744, 20361637766165934761540795236352, 40564819207303340847894502572032), (6044629098073145873530880, 40564819207303340847894502572032, 81129638414606681695789005144064), (9671406556917033397649408, 81129638414606681695789005144192, 162259276829213363391578010288128), (9671406556917033397649408, 81129638414606681695789005144072, 324518553658426726783156020576256), (9671406556917033397649408, 81129638414606681695789005144192, 649037107316853453566312041152512), (9671406556917033397649408, 81129638414606681695789005144080, 1298074214633706907132624082305024), (9671406556917033397649408, 81129638414606681695789005144096, 2596148429267413814265248164610048), (551270173744270903666016256, 4624389389632580856659973293211648, 5192296858534827628530496329220096), (686669865541109371233107968, 5760204327437074400401019365228544, 10384593717069655257060992658440192), (9671406556917033397649408, 81129638414606681695789005144192, 20769187434139310514121985316880384), (9671406556917033397649408, 81129638414606681695789005144192, 41538374868278621028243970633760768), (9671406556917033397649408, 81129638414606681695789005144072, 83076749736557242056487941267521536), (9671406556917033397649408, 81129638414606681695789005144080, 166153499473114484112975882535043072), (35909932545832945005472251904, 290849753716364953879403583441469440, 332306998946228968225951765070086144), (9671406556917033397649408, 81129638414606681695789005144192, 664613997892457936451903530140172288), (9671406556917033397649408, 81129638414606681695789005144072, 1329227995784915872903807060280344576), (9671406556917033397649408, 81129638414606681695789005144096, 2658455991569831745807614120560689152), (594220890263539448984977276928, 4652379114885620161845020499986350080, 5316911983139663491615228241121378304), (675924932856374547128319475712, 5670069299158446377036997780513488896, 10633823966279326983230456482242756608), (1268898211674071698804999979008, 10644289689634811245169213263906340864, 21267647932558653966460912964485513216), (2535310871863015720026804060160, 21267729062197068573142608753490657280, 42535295865117307932921825928971026432), (6338253001141147007483516026880, 42535295865117307932921825928971026432, 85070591730234615865843651857942052864), (10141204801825835211973625643008, 85070591730234615865843651857942052992, 170141183460469231731687303715884105728), (10141204801825835211973625643008, 85070591730234615865843651857942052872, 340282366920938463463374607431768211456), (10141204801825835211973625643008, 85070591730234615865843651857942052872, 680564733841876926926749214863536422912), (152118072027387528179604384645120, 1276058875953519237987654777869130792960, 1361129467683753853853498429727072845824), (10141204801825835211973625643008, 85070591730234615865843651857942052872, 2722258935367507707706996859454145691648), (496919035289465925386707656507392, 4168458994781496177426338941039160590336, 5444517870735015415413993718908291383296), (659178312118679288778285666795520, 5529588462465250031279837370766233436160, 10889035741470030830827987437816582766592), (2596148429267413814265248164610047, 10889035741470030830827987437816582766592, 64)] [(0, true, (0, 0, 8388608)), (1, false, (1, 8388608, 16777216)), (2, false, (2, 16777344, 33554432)), (3, false, (2, 16777224, 67108864)), (4, false, (2, 16777344, 134217728)), (5, false, (2, 16777232, 268435456)), (6, false, (2, 16777248, 536870912)), (9, false, (2, 16777344, 4294967296)), (10, false, (2, 16777344, 8589934592)), (11, false, (2, 16777224, 17179869184)), (12, false, (2, 16777232, 34359738368)), (14, false, (2, 16777248, 137438953472)), (7, true, (114, 956301312, 1073741824)), (8, true, (142, 1191182336, 2147483648)), (13, true, (7426, 60146319360, 68719476736)), (15, true, (25090, 210470174720, 274877906944)), (16, false, (33026, 277042167808, 549755813888)), (17, false, (65538, 549772591104, 1099511627776)), (18, false, (163840, 1099511627776, 2199023255552)), (19, false, (262144, 2199023255680, 4398046511104)), (20, false, (262144, 2199023255560, 8796093022208)), (21, false, (262144, 2199023255568, 17592186044416)), (23, false, (262144, 2199023255680, 70368744177664)), (24, false, (262144, 2199023255568, 140737488355328)), (25, false, (262144, 2199023255560, 281474976710656)), (22, true, (3932160, 32985348833280, 35184372088832)), (26, true, (63176704, 494780232499200, 562949953421312)), (27, false, (71565312, 600333348765696, 1125899906842624)), (28, false, (134479872, 1128098930098176, 2251799813685248)), (29, false, (335544320, 2251799813685248, 4503599627370496)), (30, false, (536870912, 4503599627370624, 9007199254740992)), (31, false, (536870912, 4503599627370504, 18014398509481984)), (32, false, (536870912, 4503599627370624, 36028797018963968)), (35, false, (536870912, 4503599627370504, 288230376151711744)), (33, true, (4831838208, 40532396646334464, 72057594037927936)), (34, true, (12348030976, 103582791429521408, 144115188075855872)), (36, false, (52076478464, 436849163854938112, 576460752303423488)), (37, false, (69256347648, 580964351930793984, 1152921504606846976)), (38, false, (154618822656, 1152921504606846976, 2305843009213693952)), (39, false, (274877906944, 2305843009213694080, 4611686018427387904)), (40, false, (274877906944, 2305843009213693960, 9223372036854775808)), (41, false, (274877906944, 2305843009213694080, 18446744073709551616)), (42, false, (274877906944, 2305843009213693968, 36893488147419103232)), (43, false, (274877906944, 2305843009213693984, 73786976294838206464)), (46, false, (274877906944, 2305843009213694080, 590295810358705651712)), (47, false, (274877906944, 2305843009213694080, 1180591620717411303424)), (48, false, (274877906944, 2305843009213693960, 2361183241434822606848)), (49, false, (274877906944, 2305843009213693968, 4722366482869645213696)), (51, false, (274877906944, 2305843009213693984, 18889465931478580854784)), (44, true, (15668040695808, 131433051525180555264, 147573952589676412928)), (45, true, (19516331393024, 163714853654172270592, 295147905179352825856)), (50, true, (1020621668483072, 8266447188031092817920, 9444732965739290427392)), (52, true, (3448343342612480, 28926800550585790627840, 37778931862957161709568)), (53, false, (4539058877366272, 38076385611145728229376, 75557863725914323419136)), (54, false, (9007474132647936, 75560169568923537113088, 151115727451828646838272)), (55, false, (22517998136852480, 151115727451828646838272, 302231454903657293676544)), (56, false, (36028797018963968, 302231454903657293676672, 604462909807314587353088)), (57, false, (36028797018963968, 302231454903657293676552, 1208925819614629174706176)), (58, false, (36028797018963968, 302231454903657293676672, 2417851639229258349412352)), (61, false, (36028797018963968, 302231454903657293676552, 19342813113834066795298816)), (59, true, (324259173170675712, 2720083094132915643088896, 4835703278458516698824704)), (60, true, (828662331436171264, 6951323462784117754560512, 9671406556917033397649408)), (62, false, (3494793310839504896, 29316451125654757486624768, 38685626227668133590597632)), (63, false, (4647714815446351872, 38987857682571790884274176, 77371252455336267181195264)), (64, false, (10376293541461622784, 77371252455336267181195264, 154742504910672534362390528)), (65, false, (18446744073709551616, 154742504910672534362390656, 309485009821345068724781056)), (66, false, (18446744073709551616, 154742504910672534362390656, 618970019642690137449562112)), (68, false, (18446744073709551616, 154742504910672534362390536, 2475880078570760549798248448)), (70, false, (18446744073709551616, 154742504910672534362390536, 9903520314283042199192993792)), (67, true, (92233720368547758080, 773712524553362671811952640, 1237940039285380274899124224)), (69, true, (498062089990157893632, 4178047632588158427784544256, 4951760157141521099596496896)), (71, false, (1789334175149826506752, 15010022976335235833151881216, 19807040628566084398385987584)), (72, false, (2379629985508532158464, 19961783133476756932748378112, 39614081257132168796771975168)), (73, false, (5312662293228350865408, 39614081257132168796771975168, 79228162514264337593543950336)), (74, false, (9444732965739290427392, 79228162514264337593543950464, 158456325028528675187087900672)), (75, false, (9444732965739290427392, 79228162514264337593543950344, 316912650057057350374175801344)), (76, false, (9444732965739290427392, 79228162514264337593543950464, 633825300114114700748351602688)), (79, false, (9444732965739290427392, 79228162514264337593543950464, 5070602400912917605986812821504)), (77, true, (85002596691653613846528, 713053462628379038341895553024, 1267650600228229401496703205376)), (78, true, (217228858212003679830016, 1822247737828079764651510857728, 2535301200456458802993406410752)), (80, true, (916139097676711171457024, 5149830563427181943580356771840, 10141204801825835211973625643008)), (81, false, (1520602007484025758810112, 12755734164796558352560576004096, 20282409603651670423947251286016)), (82, false, (2427296372194997639839744, 20361637766165934761540795236352, 40564819207303340847894502572032)), (83, false, (6044629098073145873530880, 40564819207303340847894502572032, 81129638414606681695789005144064)), (84, false, (9671406556917033397649408, 81129638414606681695789005144192, 162259276829213363391578010288128)), (85, false, (9671406556917033397649408, 81129638414606681695789005144072, 324518553658426726783156020576256)), (86, false, (9671406556917033397649408, 81129638414606681695789005144192, 649037107316853453566312041152512)), (87, false, (9671406556917033397649408, 81129638414606681695789005144080, 1298074214633706907132624082305024)), (88, false, (9671406556917033397649408, 81129638414606681695789005144096, 2596148429267413814265248164610048)), (91, false, (9671406556917033397649408, 81129638414606681695789005144192, 20769187434139310514121985316880384)), (92, false, (9671406556917033397649408, 81129638414606681695789005144192, 41538374868278621028243970633760768)), (93, false, (9671406556917033397649408, 81129638414606681695789005144072, 83076749736557242056487941267521536)), (94, false, (9671406556917033397649408, 81129638414606681695789005144080, 166153499473114484112975882535043072)), (96, false, (9671406556917033397649408, 81129638414606681695789005144192, 664613997892457936451903530140172288)), (97, false, (9671406556917033397649408, 81129638414606681695789005144072, 1329227995784915872903807060280344576)), (98, false, (9671406556917033397649408, 81129638414606681695789005144096, 2658455991569831745807614120560689152)), (89, true, (551270173744270903666016256, 4624389389632580856659973293211648, 5192296858534827628530496329220096)), (90, true, (686669865541109371233107968, 5760204327437074400401019365228544, 10384593717069655257060992658440192)), (95, true, (35909932545832945005472251904, 290849753716364953879403583441469440, 332306998946228968225951765070086144)), (99, true, (594220890263539448984977276928, 4652379114885620161845020499986350080, 5316911983139663491615228241121378304)), (100, true, (675924932856374547128319475712, 5670069299158446377036997780513488896, 10633823966279326983230456482242756608)), (101, false, (1268898211674071698804999979008, 10644289689634811245169213263906340864, 21267647932558653966460912964485513216)), (102, false, (2535310871863015720026804060160, 21267729062197068573142608753490657280, 42535295865117307932921825928971026432)), (103, false, (6338253001141147007483516026880, 42535295865117307932921825928971026432, 85070591730234615865843651857942052864)), (104, false, (10141204801825835211973625643008, 85070591730234615865843651857942052992, 170141183460469231731687303715884105728)), (105, false, (10141204801825835211973625643008, 85070591730234615865843651857942052872, 340282366920938463463374607431768211456)), (106, false, (10141204801825835211973625643008, 85070591730234615865843651857942052872, 680564733841876926926749214863536422912)), (108, false, (10141204801825835211973625643008, 85070591730234615865843651857942052872, 2722258935367507707706996859454145691648)), (107, true, (152118072027387528179604384645120, 1276058875953519237987654777869130792960, 1361129467683753853853498429727072845824)), (109, false, (496919035289465925386707656507392, 4168458994781496177426338941039160590336, 5444517870735015415413993718908291383296)), (110, false, (659178312118679288778285666795520, 5529588462465250031279837370766233436160, 10889035741470030830827987437816582766592)), (111, false, (2596148429267413814265248164610047, 10889035741470030830827987437816582766592, 64))] (by as_aux_lemma => kernel_rfl) (by as_aux_lemma => kernel_rfl) (by as_aux_lemma => kernel_rfl) (fun _ d _ _ _ h => by cases d <;> exact h) ⟨s, h1⟩ ?_
   rw [h1]
   clear h1
   simp only [List.map_cons, List.map_nil, List.append_eq, List.cons_append, List.nil_append, List.getElem?_cons_succ, List.getElem?_cons_zero]
   as_aux_lemma =>
    repeat (refine mix_free (fun K hK => ?_); go_simp; refine hK _ ?_; clear hK K)
    refine mix_forced (fun K hK => ?_) ⟨_, rfl⟩
    go_simp
    refine (awake_any _).mono ?_
    rintro e w1 ⟨rfl, hb⟩
    obtain ⟨s, rfl⟩ := hs w1 ((hf _).trans (hb.mono (hz _)))
    refine hK.out _ _ ⟨s, rfl⟩ (fun _ => ?_)
    clear hK K hb
    repeat (refine mix_free (fun K hK => ?_); go_simp; refine hK _ ?_; clear hK K)
    refine mix_forced (fun K hK => ?_) ⟨_, rfl⟩
    go_simp
    refine (vadd_to hbc _).mono ?_
    rintro e w1 ⟨rfl, hb⟩
    obtain ⟨s, rfl⟩ := hs w1 ((hf _).trans (hb.mono (hz _)))
    refine hK.out _ _ ⟨s, rfl⟩ (fun _ => ?_)
    clear hK K hb
    repeat (refine mix_free (fun K hK => ?_); go_simp; refine hK _ ?_; clear hK K)
    refine mix_forced (fun K hK => ?_) ⟨_, rfl⟩
    go_simp
    refine (vadd_to ha_bc _).mono ?_
    rintro e w1 ⟨rfl, hb⟩
    obtain ⟨s, rfl⟩ := hs w1 ((hf _).trans (hb.mono (hz _)))
    refine hK.out _ _ ⟨s, rfl⟩ (fun _ => ?_)
    clear hK K hb
    as_aux_lemma =>
     repeat (refine mix_free (fun K hK => ?_); go_simp; refine hK _ ?_; clear hK K)
     refine mix_forced (fun K hK => ?_) ⟨_, rfl⟩
     go_simp
     refine (vadd_to hab _).mono ?_
     rintro e w1 ⟨rfl, hb⟩
     obtain ⟨s, rfl⟩ := hs w1 ((hf _).trans (hb.mono (hz _)))
     refine hK.out _ _ ⟨s, rfl⟩ (fun _ => ?_)
     clear hK K hb
     repeat (refine mix_free (fun K hK => ?_); go_simp; refine hK _ ?_; clear hK K)
     refine mix_forced (fun K hK => ?_) ⟨_, rfl⟩
     go_simp
     refine (vadd_to hab_c _).mono ?_
     rintro e w1 ⟨rfl, hb⟩
     obtain ⟨s, rfl⟩ := hs w1 ((hf _).trans (hb.mono (hz _)))
     refine hK.out _ _ ⟨s, rfl⟩ (fun _ => ?_)
     clear hK K hb
     repeat (refine mix_free (fun K hK => ?_); go_simp; refine hK _ ?_; clear hK K)
     refine mix_forced (fun K hK => ?_) ⟨_, rfl⟩
     go_simp
     refine (vadd_to hab _).mono ?_
     rintro e w1 ⟨rfl, hb⟩
     obtain ⟨s, rfl⟩ := hs w1 ((hf _).trans (hb.mono (hz _)))
     refine hK.out _ _ ⟨s, rfl⟩ (fun _ => ?_)
     clear hK K hb
     as_aux_lemma =>
      repeat (refine mix_free (fun K hK => ?_); go_simp; refine hK _ ?_; clear hK K)
      refine mix_forced (fun K hK => ?_) ⟨_, rfl⟩
      go_simp
      refine (vadd_to hba _).mono ?_
      rintro e w1 ⟨rfl, hb⟩
      obtain ⟨s, rfl⟩ := hs w1 ((hf _).trans (hb.mono (hz _)))
      refine hK.out _ _ ⟨s, rfl⟩ (fun _ => ?_)
      clear hK K hb
      repeat (refine mix_free (fun K hK => ?_); go_simp; refine hK _ ?_; clear hK K)
      refine mix_forced (fun K hK => ?_) ⟨_, rfl⟩
      go_simp
      refine (vzero_any _).mono ?_
      rintro e w1 ⟨rfl, hb⟩
      obtain ⟨s, rfl⟩ := hs w1 ((hf _).trans (hb.mono (hz _)))
      refine hK.out _ _ ⟨s, rfl⟩ (fun _ => ?_)
      clear hK K hb
      repeat (refine mix_free (fun K hK => ?_); go_simp; refine hK _ ?_; clear hK K)
      refine mix_forced (fun K hK => ?_) ⟨_, rfl⟩
      go_simp
      refine (vadd_to haz _).mono ?_
      rintro e w1 ⟨rfl, hb⟩
      obtain ⟨s, rfl⟩ := hs w1 ((hf _).trans (hb.mono (hz _)))
      refine hK.out _ _ ⟨s, rfl⟩ (fun _ => ?_)
      clear hK K hb
      as_aux_lemma =>
       repeat (refine mix_free (fun K hK => ?_); go_simp; refine hK _ ?_; clear hK K)
       refine mix_forced (fun K hK => ?_) ⟨_, rfl⟩
       go_simp
       refine (vmul_to mbc _ kb kc).mono ?_
       rintro e w1 ⟨rfl, hb⟩
       obtain ⟨s, rfl⟩ := hs w1 ((hf _).trans (hb.mono (hz _)))
       refine hK.out _ _ ⟨s, rfl⟩ (fun _ => ?_)
       clear hK K hb
       repeat (refine mix_free (fun K hK => ?_); go_simp; refine hK _ ?_; clear hK K)
       refine mix_forced (fun K hK => ?_) ⟨_, rfl⟩
       go_simp
       refine (vmul_to ma_bc _ ka km).mono ?_
       rintro e w1 ⟨rfl, hb⟩
       obtain ⟨s, rfl⟩ := hs w1 ((hf _).trans (hb.mono (hz _)))
       refine hK.out _ _ ⟨s, rfl⟩ (fun _ => ?_)
       clear hK K hb
       repeat (refine mix_free (fun K hK => ?_); go_simp; refine hK _ ?_; clear hK K)
       refine mix_forced (fun K hK => ?_) ⟨_, rfl⟩
       go_simp
       refine (vmul_to mab _ ka kb).mono ?_
       rintro e w1 ⟨rfl, hb⟩
       obtain ⟨s, rfl⟩ := hs w1 ((hf _).trans (hb.mono (hz _)))
       refine hK.out _ _ ⟨s, rfl⟩ (fun _ => ?_)
       clear hK K hb
       as_aux_lemma =>
        repeat (refine mix_free (fun K hK => ?_); go_simp; refine hK _ ?_; clear hK K)
        refine mix_forced (fun K hK => ?_) ⟨_, rfl⟩
        go_simp
        refine (vmul_to mab_c _ kp kc).mono ?_
        rintro e w1 ⟨rfl, hb⟩
        obtain ⟨s, rfl⟩ := hs w1 ((hf _).trans (hb.mono (hz _)))
        refine hK.out _ _ ⟨s, rfl⟩ (fun _ => ?_)
        clear hK K hb
        repeat (refine mix_free (fun K hK => ?_); go_simp; refine hK _ ?_; clear hK K)
        refine mix_forced (fun K hK => ?_) ⟨_, rfl⟩
        go_simp
        refine (vone_any _).mono ?_
        rintro e w1 ⟨rfl, hb⟩
        obtain ⟨s, rfl⟩ := hs w1 ((hf _).trans (hb.mono (hz _)))
        refine hK.out _ _ ⟨s, rfl⟩ (fun _ => ?_)
        clear hK K hb
        repeat (refine mix_free (fun K hK => ?_); go_simp; refine hK _ ?_; clear hK K)
        refine mix_forced (fun K hK => ?_) ⟨_, rfl⟩
        go_simp
        refine (vmul_to ma1 _ ka k1).mono ?_
        rintro e w1 ⟨rfl, hb⟩
        obtain ⟨s, rfl⟩ := hs w1 ((hf _).trans (hb.mono (hz _)))
        refine hK.out _ _ ⟨s, rfl⟩ (fun _ => ?_)
        clear hK K hb
        as_aux_lemma =>
         repeat (refine mix_free (fun K hK => ?_); go_simp; refine hK _ ?_; clear hK K)
         refine mix_forced (fun K hK => ?_) ⟨_, rfl⟩
         go_simp
         refine (vone_any _).mono ?_
         rintro e w1 ⟨rfl, hb⟩
         obtain ⟨s, rfl⟩ := hs w1 ((hf _).trans (hb.mono (hz _)))
         refine hK.out _ _ ⟨s, rfl⟩ (fun _ => ?_)
         clear hK K hb
         repeat (refine mix_free (fun K hK => ?_); go_simp; refine hK _ ?_; clear hK K)
         refine mix_forced (fun K hK => ?_) ⟨_, rfl⟩
         go_simp
         refine (vmul_to m1a _ k1 ka).mono ?_
         rintro e w1 ⟨rfl, hb⟩
         obtain ⟨s, rfl⟩ := hs w1 ((hf _).trans (hb.mono (hz _)))
         refine hK.out _ _ ⟨s, rfl⟩ (fun _ => ?_)
         clear hK K hb
         repeat (refine mix_free (fun K hK => ?_); go_simp; refine hK _ ?_; clear hK K)
         refine mix_forced (fun K hK => ?_) ⟨_, rfl⟩
         go_simp
         refine (vzero_any _).mono ?_
         rintro e w1 ⟨rfl, hb⟩
         obtain ⟨s, rfl⟩ := hs w1 ((hf _).trans (hb.mono (hz _)))
         refine hK.out _ _ ⟨s, rfl⟩ (fun _ => ?_)
         clear hK K hb
         as_aux_lemma =>
          repeat (refine mix_free (fun K hK => ?_); go_simp; refine hK _ ?_; clear hK K)
          refine mix_forced (fun K hK => ?_) ⟨_, rfl⟩
          go_simp
          refine (vmul_to maz _ ka k0).mono ?_
          rintro e w1 ⟨rfl, hb⟩
          obtain ⟨s, rfl⟩ := hs w1 ((hf _).trans (hb.mono (hz _)))
          refine hK.out _ _ ⟨s, rfl⟩ (fun _ => ?_)
          clear hK K hb
          repeat (refine mix_free (fun K hK => ?_); go_simp; refine hK _ ?_; clear hK K)
          refine mix_forced (fun K hK => ?_) ⟨_, rfl⟩
          go_simp
          refine (vzero_any _).mono ?_
          rintro e w1 ⟨rfl, hb⟩
          obtain ⟨s, rfl⟩ := hs w1 ((hf _).trans (hb.mono (hz _)))
          refine hK.out _ _ ⟨s, rfl⟩ (fun _ => ?_)
          clear hK K hb
          repeat (refine mix_free (fun K hK => ?_); go_simp; refine hK _ ?_; clear hK K)
          refine mix_forced (fun K hK => ?_) ⟨_, rfl⟩
          go_simp
          refine (vadd_to hbc _).mono ?_
          rintro e w1 ⟨rfl, hb⟩
          obtain ⟨s, rfl⟩ := hs w1 ((hf _).trans (hb.mono (hz _)))
          refine hK.out _ _ ⟨s, rfl⟩ (fun _ => ?_)
          clear hK K hb
          as_aux_lemma =>
           repeat (refine mix_free (fun K hK => ?_); go_simp; refine hK _ ?_; clear hK K)
           refine mix_forced (fun K hK => ?_) ⟨_, rfl⟩
           go_simp
           refine (vmul_to ma_x _ ka kx).mono ?_
           rintro e w1 ⟨rfl, hb⟩
           obtain ⟨s, rfl⟩ := hs w1 ((hf _).trans (hb.mono (hz _)))
           refine hK.out _ _ ⟨s, rfl⟩ (fun _ => ?_)
           clear hK K hb
           repeat (refine mix_free (fun K hK => ?_); go_simp; refine hK _ ?_; clear hK K)
           refine mix_forced (fun K hK => ?_) ⟨_, rfl⟩
           go_simp
           refine (vmul_to mab _ ka kb).mono ?_
           rintro e w1 ⟨rfl, hb⟩
           obtain ⟨s, rfl⟩ := hs w1 ((hf _).trans (hb.mono (hz _)))
           refine hK.out _ _ ⟨s, rfl⟩ (fun _ => ?_)
           clear hK K hb
           repeat (refine mix_free (fun K hK => ?_); go_simp; refine hK _ ?_; clear hK K)
           refine mix_forced (fun K hK => ?_) ⟨_, rfl⟩
           go_simp
           refine (vmul_to mac _ ka kc).mono ?_
           rintro e w1 ⟨rfl, hb⟩
           obtain ⟨s, rfl⟩ := hs w1 ((hf _).trans (hb.mono (hz _)))
           refine hK.out _ _ ⟨s, rfl⟩ (fun _ => ?_)
           clear hK K hb
           as_aux_lemma =>
            repeat (refine mix_free (fun K hK => ?_); go_simp; refine hK _ ?_; clear hK K)
            refine mix_forced (fun K hK => ?_) ⟨_, rfl⟩
            go_simp
            refine (vadd_to hd _).mono ?_
            rintro e w1 ⟨rfl, hb⟩
            obtain ⟨s, rfl⟩ := hs w1 ((hf _).trans (hb.mono (hz _)))
            refine hK.out _ _ ⟨s, rfl⟩ (fun _ => ?_)
            clear hK K hb
            repeat (refine mix_free (fun K hK => ?_); go_simp; refine hK _ ?_; clear hK K)
            refine mix_forced (fun K hK => ?_) ⟨_, rfl⟩
            go_simp
            refine (vadd_to haa _).mono ?_
            rintro e w1 ⟨rfl, hb⟩
            obtain ⟨s, rfl⟩ := hs w1 ((hf _).trans (hb.mono (hz _)))
            refine hK.out _ _ ⟨s, rfl⟩ (fun _ => ?_)
            clear hK K hb
            repeat (refine mix_free (fun K hK => ?_); go_simp; refine hK _ ?_; clear hK K)
            refine mix_nil ?_
            go_wp2
            go_ret
            exact ⟨rfl, hbel s⟩

theorem vax_any (a0 a1 b0 b1 c0 c1 : Int) (w : World) : Calls Try.prog 6 #[.agg #[.int .i64 a0, .int .i64 a1], .agg #[.int .i64 b0, .int .i64 b1], .agg #[.int .i64 c0, .int .i64 c1]] w fun e w' => e = .returned (.bool true) ∧ Below w.heap.size w w' := by
  cases h : (valB a0 a1 && (valB b0 b1 && valB c0 c1))
  · exact vax_no _ _ _ _ _ _ _ h
  · obtain ⟨ha, hb, hc⟩ : valB a0 a1 = true ∧ valB b0 b1 = true ∧ valB c0 c1 = true := by simpa using h
    have ka := valB_vel ha
    have kb := valB_vel hb
    have kc := valB_vel hc
    have hva := fun w => value_any a0 a1 w
    have hvb := fun w => value_any b0 b1 w
    have hvc := fun w => value_any c0 c1 w
    rw [ha] at hva
    rw [hb] at hvb
    rw [hc] at hvc
    have kx := vel_add kb kc
    have km := vel_mul kb kc
    have kp := vel_mul ka kb
    have e1 := vadd_assoc (a0, a1) (b0, b1) (c0, c1)
    have e2 := vadd_comm (b0, b1) (a0, a1)
    have e3 := vmul_assoc ka kb kc
    have e4 := vmul_vadd ka kb kc
    obtain ⟨x0, x1, hx⟩ := pair_ex (vadd (b0, b1) (c0, c1))
    obtain ⟨z0, z1, hz⟩ := pair_ex (vadd (a0, a1) (b0, b1))
    obtain ⟨m0, m1, hm⟩ := pair_ex (vmul (b0, b1) (c0, c1))
    obtain ⟨p0, p1, hp⟩ := pair_ex (vmul (a0, a1) (b0, b1))
    obtain ⟨q0, q1, hq⟩ := pair_ex (vmul (a0, a1) (c0, c1))
    rw [hx] at kx e1 e4
    rw [hz] at e1 e2
    rw [hm] at km e3
    rw [hp] at kp e3 e4
    rw [hq] at e4
    obtain ⟨y0, y1, hy⟩ := pair_ex (vadd (a0, a1) (x0, x1))
    obtain ⟨n0, n1, hn⟩ := pair_ex (vmul (a0, a1) (m0, m1))
    obtain ⟨d0, d1, hd⟩ := pair_ex (vmul (a0, a1) (x0, x1))
    rw [hy] at e1
    rw [hn] at e3
    rw [hd] at e4
    exact vax_core a0 a1 b0 b1 c0 c1 x0 x1 y0 y1 z0 z1 m0 m1 n0 n1 p0 p1 d0 d1 q0 q1 w hva hvb hvc hx hy hz e1.symm e2 hm hn hp e3.symm hd hq e4.symm
      (vadd_zero ka) (vadd_self _) (vmul_one ka) (one_vmul ka) (vmul_zero ka) ka kb kc kx km kp (Or.inl ⟨rfl, rfl⟩) (Or.inr ⟨by decide, by decide, by decide, by decide⟩)
end Go.Proofs.Ytdnkkeabimjbaaa
