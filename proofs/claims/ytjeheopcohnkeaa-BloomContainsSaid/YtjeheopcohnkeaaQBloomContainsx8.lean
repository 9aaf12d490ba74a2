-- Written by a program of this session (wip/pr2.sh): the walk of the Go text, function by function.
import Derived.Test.YtjeheopcohnkeaaQBloomContainsx0
import Derived.Test.YtjeheopcohnkeaaQBloomContainsx2
import Derived.Test.YtjeheopcohnkeaaQBloomContainsx3
import Derived.Test.YtjeheopcohnkeaaQBloomContainsx4
import Derived.Test.YtjeheopcohnkeaaQBloomContainsx5
import Derived.Test.YtjeheopcohnkeaaQBloomContainsx6
import Derived.Test.YtjeheopcohnkeaaQBloomContainsx7
namespace Go.Proofs.Ytjeheopcohnkeaa.QBloomContains
open Go.RowKit Go.Proofs.YtjeheopcohnkeaaW.PrintWords Go.Proofs.YtjeheopcohnkeaaW.PrintLast Go.Proofs.YtjeheopcohnkeaaW.PrintMore
open Go.Proofs.YtjeheopcohnkeaaM
attribute [local go_sem] max2_int min2_int max_two min_two max_three min_three max_four min_four   -- for this text's walks alone
set_option linter.unusedVariables false
set_option linter.unusedSimpArgs false

/-! ### laminalaw15_lives: function 10 -/
section
open Go.Shelf
attribute [local go_sem] Oper.semAt_some
def laminalaw15_lives.f : Option Bool := some true
theorem lv_C {k : IntKind} (t : TypeId) (w : World) (xs : List Int) (hx : xs.length ≤ 1000) : Kd.C (Kd.int k) (w.alloc (.cells (xs.map (Value.int k)).toArray t)) (some ⟨w.heap.size, 0, none⟩) xs.length xs := by
  have h0 : (w.alloc (.cells (xs.map (Value.int k)).toArray t)).ownsRow w.heap.size t 1 (.slice (some ⟨w.heap.size, 0, none⟩) xs.length xs.length) xs.length (xs.map (Value.int k)) :=
    ⟨by simp, .inr ⟨w.heap.size, xs.length, (xs.map (Value.int k)).toArray, rfl, Nat.le_refl _, World.alloc_heap_new w _, Nat.le_refl _, by simp only [maxLen]; omega, by simp, by simp [List.take_of_length_le]⟩⟩
  exact (Kd.R_reads' (Kd.R_of_own (enc := Value.int k) (h1 := fun _ => rfl) (ok := fun _ => True) h0 (fun _ _ => trivial))).2.2
def laminalaw15_lives.T8 : Bool × List (List Nat × List Nat) := (true, [([], []), ([0], [0]), ([1], [1]), ([2], [2]), ([3], [3]), ([4, 3], [3, 4]), ([5, 3], [3, 5]), ([6, 3], [3, 6]), ([3, 7], [3, 7]), ([8, 3], [8]), ([9], [9]), ([10, 9], [9, 10]), ([11, 9], [9, 11]), ([12, 9], [9, 12]), ([13, 9], [9, 13]), ([9, 14], [9, 14]), ([15, 9], [15]), ([16], [16]), ([17, 16], [16, 17]), ([18, 16], [16, 18]), ([19, 16], [16, 19]), ([20, 16], [16, 20]), ([21, 16], [16, 21]), ([16, 22], [16, 22]), ([23, 16], [23]), ([24], [24]), ([24, 24], [24]), ([25, 26, 26, 24], [24, 25, 26]), ([27, 24], [24, 27]), ([24, 28], [24, 28]), ([29, 27], [29]), ([30], [30]), ([30, 30], [30]), ([31, 32, 32, 30], [30, 31, 32]), ([30, 33], [30, 33]), ([34, 33], [34]), ([35], [35]), ([35, 35], [35]), ([36, 37, 37, 35], [35, 36, 37]), ([35, 38], [35, 38]), ([39, 38], [39]), ([40], [40]), ([41, 40, 40], [40, 41]), ([40, 42], [40, 42]), ([43, 42], [43]), ([44], [44]), ([45, 44, 44], [44, 45]), ([46, 44], [44, 46]), ([44, 47], [44, 47]), ([48, 46], [48]), ([49], [49]), ([50, 49], [49, 50]), ([51, 49], [49, 51]), ([49, 52], [49, 52]), ([53, 49], [53]), ([54], [54]), ([55, 54], [54, 55]), ([56, 54], [54, 56]), ([57, 54], [54, 57]), ([54, 58], [54, 58]), ([59, 54], [59]), ([60], [60]), ([61, 60], [60, 61]), ([62, 60], [60, 62]), ([63, 60], [60, 63]), ([60, 64], [60, 64]), ([65, 60], [65]), ([66], [66]), ([67, 66], [66, 67]), ([66, 68], [66, 68]), ([69, 66], [69]), ([70], [70]), ([71, 70], [70, 71]), ([70, 72], [70, 72]), ([73, 70], [73]), ([74], [74]), ([74], [74]), ([75, 76, 74, 74], [74, 75, 76]), ([74, 77], [74, 77]), ([78, 77], [78]), ([79], [79]), ([80, 79], [79, 80]), ([79, 81], [79, 81]), ([82, 79], [82]), ([83], [83]), ([83], [83]), ([84, 85, 83, 83], [83, 84, 85]), ([83, 86], [83, 86]), ([87, 86], [87]), ([88], [88]), ([89, 88], [88, 89]), ([88, 90], [88, 90]), ([91, 88], [91]), ([92], [92]), ([93, 92], [92, 93]), ([92, 94], [92, 94]), ([95, 92, 0, 1, 2, 3, 4, 5, 6, 7, 8, 9, 10, 11, 12, 13, 14, 15, 16, 17, 18, 19, 20, 21, 22, 23, 24, 25, 26, 27, 28, 29, 30, 31, 32, 33, 34, 35, 36, 37, 38, 39, 40, 41, 42, 43, 44, 45, 46, 47, 48, 49, 50, 51, 52, 53, 54, 55, 56, 57, 58, 59, 60, 61, 62, 63, 64, 65, 66, 67, 68, 69, 70, 71, 72, 73, 74, 75, 76, 77, 78, 79, 80, 81, 82, 83, 84, 85, 86, 87, 88, 89, 90, 91, 92, 93, 94, 95], [95])])
def laminalaw15_lives.B8 : List Nat := [0, 1, 3, 7, 15, 31, 63, 127, 255, 511, 1023, 2047, 4095, 8191, 16383, 32767, 65535, 131071, 262143, 524287, 1048575, 2097151, 4194303, 8388607, 16777215, 33554431, 33554431, 134217727, 268435455, 536870911, 1073741823, 2147483647, 2147483647, 8589934591, 17179869183, 34359738367, 68719476735, 68719476735, 274877906943, 549755813887, 1099511627775, 2199023255551, 4398046511103, 8796093022207, 17592186044415, 35184372088831, 70368744177663, 140737488355327, 281474976710655, 562949953421311, 1125899906842623, 2251799813685247, 4503599627370495, 9007199254740991, 18014398509481983, 36028797018963967, 72057594037927935, 144115188075855871, 288230376151711743, 576460752303423487, 1152921504606846975, 2305843009213693951, 4611686018427387903, 9223372036854775807, 18446744073709551615, 36893488147419103231, 73786976294838206463, 147573952589676412927, 295147905179352825855, 590295810358705651711, 1180591620717411303423, 2361183241434822606847, 4722366482869645213695, 9444732965739290427391, 18889465931478580854783, 37778931862957161709567, 37778931862957161709567, 151115727451828646838271, 302231454903657293676543, 604462909807314587353087, 1208925819614629174706175, 2417851639229258349412351, 4835703278458516698824703, 9671406556917033397649407, 19342813113834066795298815, 19342813113834066795298815, 77371252455336267181195263, 154742504910672534362390527, 309485009821345068724781055, 618970019642690137449562111, 1237940039285380274899124223, 2475880078570760549798248447, 4951760157141521099596496895, 9903520314283042199192993791, 19807040628566084398385987583, 39614081257132168796771975167, 79228162514264337593543950335]
theorem laminalaw15_lives.tab8 : rtab .any (opsOf Try.f10 8) = laminalaw15_lives.T8 := by kernel_rfl
theorem laminalaw15_lives.bits8 : waitsOk laminalaw15_lives.T8.2 laminalaw15_lives.B8 = true := by kernel_rfl
def dn (i : Nat) : Array Bool := (List.replicate i true ++ List.replicate (97 - i) false).toArray
/-- What the last line reads. -/
def LS (bf bg bh bu : Nat) (af ab : Addr) (vf vg vh vu : Value) (w' : World) : Prop :=
  w'.cell? ⟨bf, 0, none⟩ = some (.int .i64 5) ∧ w'.cell? ⟨bf, 1, none⟩ = some (.int .i64 64) ∧ w'.cell? ⟨bf, 2, none⟩ = some vf ∧ w'.cell? ⟨bg, 0, none⟩ = some (.int .i64 5) ∧ w'.cell? ⟨bg, 1, none⟩ = some (.int .i64 64) ∧ w'.cell? ⟨bg, 2, none⟩ = some vg ∧ w'.cell? ⟨bh, 0, none⟩ = some (.int .i64 5) ∧ w'.cell? ⟨bh, 1, none⟩ = some (.int .i64 64) ∧ w'.cell? ⟨bh, 2, none⟩ = some vh ∧ w'.cell? ⟨bu, 0, none⟩ = some (.int .i64 5) ∧ w'.cell? ⟨bu, 1, none⟩ = some (.int .i64 64) ∧ w'.cell? ⟨bu, 2, none⟩ = some vu ∧ w'.cell? af = some (.int .u64 0) ∧ w'.cell? ab = some (.int .u8 5) ∧ w'.cell? ⟨ab.block, ab.off + 1, none⟩ = some (.int .u8 64)
theorem LS.below {bf bg bh bu : Nat} {af ab : Addr} {vf vg vh vu : Value} {w w' : World} (h : LS bf bg bh bu af ab vf vg vh vu w) (hb : Below w.heap.size w w') : LS bf bg bh bu af ab vf vg vh vu w' := by
  obtain ⟨h0, h1, h2, h3, h4, h5, h6, h7, h8, h9, h10, h11, h12, h13, h14⟩ := h
  have hk : ∀ {a : Addr} {v : Value}, w.cell? a = some v → w'.cell? a = some v := fun {a} {v} e => (hb.cell (World.block_lt_of_cell? _ _ e)).trans e
  exact ⟨hk h0, hk h1, hk h2, hk h3, hk h4, hk h5, hk h6, hk h7, hk h8, hk h9, hk h10, hk h11, hk h12, hk h13, hk h14⟩
/-- A filter's box. -/
def FB (W : World) (b : Nat) (h n : Int) (s : Value) : Prop := W.heap[b]? = some (.cells #[.int .i64 h, .int .i64 n, s] 32 (0, 0))
theorem FB.below {W W' : World} {b : Nat} {h n : Int} {s : Value} {m : Nat} (hF : FB W b h n s) (hb : Below m W W') (hm : b < m) : FB W' b h n s := (hb.block _ hm).trans hF
theorem FB.lt {W : World} {b : Nat} {h n : Int} {s : Value} (hF : FB W b h n s) : b < W.heap.size := (Array.getElem?_eq_some_iff.1 hF).1
theorem FB.c0 {W : World} {b : Nat} {h n : Int} {s : Value} (hF : FB W b h n s) : W.cell? ⟨b, 0, none⟩ = some (.int .i64 h) := (blk_cell hF 0).trans rfl
theorem FB.c1 {W : World} {b : Nat} {h n : Int} {s : Value} (hF : FB W b h n s) : W.cell? ⟨b, 1, none⟩ = some (.int .i64 n) := (blk_cell hF 1).trans rfl
theorem FB.c2 {W : World} {b : Nat} {h n : Int} {s : Value} (hF : FB W b h n s) : W.cell? ⟨b, 2, none⟩ = some s := (blk_cell hF 2).trans rfl
theorem FB.new (W : World) (h n : Int) (s : Value) : FB (W.alloc (.cells #[.int .i64 h, .int .i64 n, s] 32)) W.heap.size h n s := blk_new W _
theorem mc0 (x : S24) (w : World) (h : bloom_MayContain.f 0 0 [] x.f0 x.f1 x.f2 = some true) : Calls Try.prog 14 #[.agg #[.int .i64 0, .int .i64 0, .slice none 0 0], .agg #[.int .i64 x.f0, .int .i64 x.f1, .string x.f2]] w fun e w' => e = .returned (.bool true) ∧ Below w.heap.size w w' := bloom_MayContain.calls 0 0 none 0 [] x.f0 x.f1 x.f2 true w (Kd.C_nil _ _) (Nat.le_refl _) h
theorem va0 (w : World) (h : bloom_Valid.f 1 0 [] = some false) : Calls Try.prog 16 #[.agg #[.int .i64 1, .int .i64 0, .slice none 0 0]] w fun e w' => e = .returned (.bool false) ∧ Below w.heap.size w w' := bloom_Valid.calls 1 0 none 0 [] false w (Kd.C_nil _ _) (Nat.le_refl _) h
set_option maxHeartbeats 8000000 in
set_option maxRecDepth 100000 in
theorem laminalaw15_lives.calls (r : Bool) (w : World) (h : laminalaw15_lives.f = some r) :
    Calls Try.prog 10 #[] w fun e w' => e = .returned (.bool r) ∧ Below w.heap.size w w' := by
  obtain rfl := Option.some.inj h
  clear h
  obtain ⟨zs, hzs⟩ : ∃ y : List Int, y = [0] := ⟨_, rfl⟩
  obtain ⟨ws, hws⟩ : ∃ y : List Int, y = [554189312] := ⟨_, rfl⟩
  obtain ⟨us, hus⟩ : ∃ y : List Int, y = [] := ⟨_, rfl⟩
  obtain ⟨bs, hbs⟩ : ∃ y : List Int, y = [5, 64, 0, 0, 0, 0, 0, 0, 0, 0] := ⟨_, rfl⟩
  obtain ⟨x1, hx1⟩ : ∃ y : S24, y = ⟨2, 1, ⟨#[]⟩⟩ := ⟨_, rfl⟩
  have D0 := Aside0.mk (show laminalaw15_one.f = some (x1.f0, x1.f1, x1.f2) by rw [hx1]; rfl)
  have D1 := Aside0.mk (show bloom_Build.f 200 [] 8 = some (5, 64, zs) by rw [hzs]; decide +kernel)
  have D2 := Aside0.mk (show bloom_Build.f 200 [x1] 8 = some (5, 64, ws) by rw [hws, hx1]; decide +kernel)
  have D3 := Aside0.mk (show bloom_Encode.f 200 5 64 zs = some bs by rw [hzs, hbs]; decide +kernel)
  have D4 := Aside0.mk (show bloom_Decode.f 200 bs 0 = some (5, 64, zs, 10, 0) by rw [hzs, hbs]; decide +kernel)
  have D5 := Aside0.mk (show bloom_Union.f 200 5 64 zs 5 64 ws = some (5, 64, ws, 0) by rw [hzs, hws]; decide +kernel)
  have D6 := Aside0.mk (show bloom_Union.f 200 5 64 zs 0 0 [] = some (0, 0, us, 1) by rw [hzs, hus]; decide +kernel)
  have D7 := Aside0.mk (show bloom_Decode.f 200 [1, 65] 0 = some (0, 0, us, 0, 4) by rw [hus]; decide +kernel)
  have D8 := Aside0.mk (show bloom_MayContain.f 5 64 zs x1.f0 x1.f1 x1.f2 = some false by rw [hzs, hx1]; decide +kernel)
  have D9 := Aside0.mk (show bloom_MayContain.f 5 64 ws x1.f0 x1.f1 x1.f2 = some true by rw [hws, hx1]; decide +kernel)
  have D10 := Aside0.mk (show bloom_MayContain.f 0 0 [] x1.f0 x1.f1 x1.f2 = some true by rfl)
  have D11 := Aside0.mk (show bloom_Valid.f 5 64 zs = some true by rw [hzs]; decide +kernel)
  have D12 := Aside0.mk (show bloom_Valid.f 1 0 [] = some false by decide +kernel)
  have D13 := Aside0.mk (show laminaref15_Equal.f 200 5 64 zs 5 64 zs = some true by rw [hzs]; decide +kernel)
  have D14 := Aside0.mk (show laminaref15_Equal.f 200 5 64 ws 5 64 ws = some true by rw [hws]; decide +kernel)
  have LZ := Aside0.mk (show zs.length = 1 by rw [hzs]; rfl)
  have LZ0 := Aside0.mk (show rd zs 0 = 0 by rw [hzs]; rfl)
  have LB := Aside0.mk (show bs.length = 10 by rw [hbs]; rfl)
  have LB0 := Aside0.mk (show rd bs 0 = 5 by rw [hbs]; rfl)
  have LB1 := Aside0.mk (show rd bs 1 = 64 by rw [hbs]; rfl)
  clear hzs hws hus hbs hx1
  have hro : Fence.wide.round = none := rfl
  refine (callsIn_wide (n := 9)).1 ?_
  refine callsIn_of_wp Try.func10 rfl trivial ?_ hro
  simp only [Try.ntmps10, List.size_toArray, List.length_cons, List.length_nil, Nat.reduceAdd, Nat.reduceSub, Array.replicate_succ, Array.replicate_zero, List.push_toArray, List.append_toArray, List.nil_append, List.cons_append]
  -- Build(nil, 8)
  gi_wp2
  refine ⟨trivial, ?_⟩
  gi_at_call 11
  refine (callsIn_wide.2 (bloom_Build.calls 200 none 0 [] 8 5 64 zs w (Kd.C_nil _ _) (Nat.le_refl _) D1.out)).mono ?_
  rintro e w1 ⟨v1, rfl, ho, hb⟩
  obtain ⟨Af, cf, rfl⟩ := Kd.R_slice ho
  obtain ⟨_, hcf, hC⟩ := Kd.R_reads' ho
  have F2 := FB.new w1 5 64 (.slice Af zs.length cf)
  obtain ⟨w2, hw2⟩ : ∃ w2, w2 = w1.alloc (.cells #[.int .i64 5, .int .i64 64, .slice Af zs.length cf] 32) := ⟨_, rfl⟩
  obtain ⟨bf, hbf⟩ : ∃ bf, bf = w1.heap.size := ⟨_, rfl⟩
  have HB2 := Aside0.mk (show Below w.heap.size w w2 by rw [hw2]; exact below_alloc hb _)
  have C2 := Aside0.mk (show Kd.C (Kd.int .u64) w2 Af zs.length zs by rw [hw2]; exact Kd.C_below hC (below_alloc (Below.refl _ _) _))
  rw [← hw2, ← hbf] at F2
  clear ho hb hC
  gi_wp2
  rw [← hbf, ← hw2]
  clear hw2 hbf
  -- one, Build([one], 8)
  refine ⟨trivial, ?_⟩
  gi_at_call 24
  refine (callsIn_wide.2 (laminalaw15_one.calls x1.f0 x1.f1 x1.f2 w2 D0.out)).mono ?_
  rintro e w3 ⟨rfl, hb⟩
  replace F2 := F2.below hb F2.lt
  replace C2 := Aside0.mk (Kd.C_below C2.out hb)
  replace HB2 := Aside0.mk (below_step HB2.out hb)
  clear hb
  gi_wp2
  refine ⟨trivial, ?_⟩
  gi_at_call 11
  have hL := lit1 w3 x1
  refine (callsIn_wide.2 (bloom_Build.calls 200 _ 1 [x1] 8 5 64 ws _ hL (Nat.le_refl _) D2.out)).mono ?_
  rintro e w4 ⟨v4, rfl, ho, hb0⟩
  have hb : Below w3.heap.size w3 w4 := below_step (below_alloc (Below.refl w3.heap.size w3) _) hb0
  clear hL hb0
  obtain ⟨Ag, cg, rfl⟩ := Kd.R_slice ho
  obtain ⟨_, hcg, hC_⟩ := Kd.R_reads' ho
  have C4 := Aside0.mk hC_
  clear ho hC_
  replace F2 := F2.below hb F2.lt
  replace C2 := Aside0.mk (Kd.C_below C2.out hb)
  replace HB2 := Aside0.mk (below_step HB2.out hb)
  clear hb
  have F5 := FB.new w4 5 64 (.slice Ag ws.length cg)
  obtain ⟨w5, hw5⟩ : ∃ w_, w_ = w4.alloc (.cells #[.int .i64 5, .int .i64 64, .slice Ag ws.length cg] 32) := ⟨_, rfl⟩
  have hb : Below w4.heap.size w4 w5 := by rw [hw5]; exact below_alloc (Below.refl _ _) _
  obtain ⟨bg, hbg⟩ : ∃ b_, b_ = w4.heap.size := ⟨_, rfl⟩
  rw [← hw5, ← hbg] at F5
  replace F2 := F2.below hb F2.lt
  replace C2 := Aside0.mk (Kd.C_below C2.out hb)
  replace C4 := Aside0.mk (Kd.C_below C4.out hb)
  replace HB2 := Aside0.mk (below_step HB2.out hb)
  clear hb
  have kF20 := F2.c0
  rw [hw5] at kF20
  have kF21 := F2.c1
  rw [hw5] at kF21
  have kF22 := F2.c2
  rw [hw5] at kF22
  gi_wp2
  rw [← hbg, ← hw5]
  clear hw5 hbg
  clear kF20 kF21 kF22
  -- Encode(f)
  refine ⟨trivial, ?_⟩
  gi_at_call 22
  refine (callsIn_wide.2 (bloom_Encode.calls 200 5 64 Af cf zs bs w5 C2.out hcf D3.out)).mono ?_
  rintro e w6 ⟨v6, rfl, ho, hb⟩
  obtain ⟨Ab, cb, rfl⟩ := Kd.R_slice ho
  obtain ⟨_, hcb, hC_⟩ := Kd.R_reads' ho
  have C6 := Aside0.mk hC_
  clear ho hC_
  replace F2 := F2.below hb F2.lt
  replace F5 := F5.below hb F5.lt
  replace C2 := Aside0.mk (Kd.C_below C2.out hb)
  replace C4 := Aside0.mk (Kd.C_below C4.out hb)
  replace HB2 := Aside0.mk (below_step HB2.out hb)
  clear hb
  gi_wp2
  -- Decode(b, 0)
  refine ⟨trivial, ?_⟩
  gi_at_call 20
  refine (callsIn_wide.2 (bloom_Decode.calls 200 Ab cb bs 0 5 64 zs 10 0 w6 C6.out hcb D4.out)).mono ?_
  rintro e w7 ⟨v7, rfl, ho, hb⟩
  obtain ⟨Ah, ch, rfl⟩ := Kd.R_slice ho
  obtain ⟨_, hch, hC_⟩ := Kd.R_reads' ho
  have C7 := Aside0.mk hC_
  clear ho hC_
  replace F2 := F2.below hb F2.lt
  replace F5 := F5.below hb F5.lt
  replace C2 := Aside0.mk (Kd.C_below C2.out hb)
  replace C4 := Aside0.mk (Kd.C_below C4.out hb)
  replace C6 := Aside0.mk (Kd.C_below C6.out hb)
  replace HB2 := Aside0.mk (below_step HB2.out hb)
  clear hb
  have F8 := FB.new w7 5 64 (.slice Ah zs.length ch)
  obtain ⟨w8, hw8⟩ : ∃ w_, w_ = w7.alloc (.cells #[.int .i64 5, .int .i64 64, .slice Ah zs.length ch] 32) := ⟨_, rfl⟩
  have hb : Below w7.heap.size w7 w8 := by rw [hw8]; exact below_alloc (Below.refl _ _) _
  obtain ⟨bh, hbh⟩ : ∃ b_, b_ = w7.heap.size := ⟨_, rfl⟩
  rw [← hw8, ← hbh] at F8
  replace F2 := F2.below hb F2.lt
  replace F5 := F5.below hb F5.lt
  replace C2 := Aside0.mk (Kd.C_below C2.out hb)
  replace C4 := Aside0.mk (Kd.C_below C4.out hb)
  replace C6 := Aside0.mk (Kd.C_below C6.out hb)
  replace C7 := Aside0.mk (Kd.C_below C7.out hb)
  replace HB2 := Aside0.mk (below_step HB2.out hb)
  clear hb
  have kF20 := F2.c0
  rw [hw8] at kF20
  have kF21 := F2.c1
  rw [hw8] at kF21
  have kF22 := F2.c2
  rw [hw8] at kF22
  have kF50 := F5.c0
  rw [hw8] at kF50
  have kF51 := F5.c1
  rw [hw8] at kF51
  have kF52 := F5.c2
  rw [hw8] at kF52
  gi_wp2
  rw [← hbh, ← hw8]
  clear hw8 hbh
  clear kF20 kF21 kF22
  clear kF50 kF51 kF52
  -- Union(f, g)
  refine ⟨trivial, ?_⟩
  gi_at_call 18
  refine (callsIn_wide.2 (bloom_Union.calls 200 5 64 Af cf zs 5 64 Ag cg ws 5 64 ws 0 w8 C2.out hcf C4.out hcg D5.out)).mono ?_
  rintro e w9 ⟨v9, rfl, ho, hb⟩
  obtain ⟨Au, cu, rfl⟩ := Kd.R_slice ho
  obtain ⟨_, hcu, hC_⟩ := Kd.R_reads' ho
  have C9 := Aside0.mk hC_
  clear ho hC_
  replace F2 := F2.below hb F2.lt
  replace F5 := F5.below hb F5.lt
  replace F8 := F8.below hb F8.lt
  replace C2 := Aside0.mk (Kd.C_below C2.out hb)
  replace C4 := Aside0.mk (Kd.C_below C4.out hb)
  replace C6 := Aside0.mk (Kd.C_below C6.out hb)
  replace C7 := Aside0.mk (Kd.C_below C7.out hb)
  replace HB2 := Aside0.mk (below_step HB2.out hb)
  clear hb
  have F10 := FB.new w9 5 64 (.slice Au ws.length cu)
  obtain ⟨w10, hw10⟩ : ∃ w_, w_ = w9.alloc (.cells #[.int .i64 5, .int .i64 64, .slice Au ws.length cu] 32) := ⟨_, rfl⟩
  have hb : Below w9.heap.size w9 w10 := by rw [hw10]; exact below_alloc (Below.refl _ _) _
  obtain ⟨bu, hbu⟩ : ∃ b_, b_ = w9.heap.size := ⟨_, rfl⟩
  rw [← hw10, ← hbu] at F10
  replace F2 := F2.below hb F2.lt
  replace F5 := F5.below hb F5.lt
  replace F8 := F8.below hb F8.lt
  replace C2 := Aside0.mk (Kd.C_below C2.out hb)
  replace C4 := Aside0.mk (Kd.C_below C4.out hb)
  replace C6 := Aside0.mk (Kd.C_below C6.out hb)
  replace C7 := Aside0.mk (Kd.C_below C7.out hb)
  replace C9 := Aside0.mk (Kd.C_below C9.out hb)
  replace HB2 := Aside0.mk (below_step HB2.out hb)
  clear hb
  have kF20 := F2.c0
  rw [hw10] at kF20
  have kF21 := F2.c1
  rw [hw10] at kF21
  have kF22 := F2.c2
  rw [hw10] at kF22
  gi_wp2
  rw [← hbu, ← hw10]
  clear hw10 hbu
  clear kF20 kF21 kF22
  -- Union(f, zero)
  refine ⟨trivial, ?_⟩
  gi_at_call 18
  refine (callsIn_wide.2 (bloom_Union.calls 200 5 64 Af cf zs 0 0 none 0 [] 0 0 us 1 w10 C2.out hcf (Kd.C_nil _ _) (Nat.le_refl _) D6.out)).mono ?_
  rintro e w11 ⟨v11, rfl, ho, hb⟩
  obtain ⟨Am, cm, rfl⟩ := Kd.R_slice ho
  obtain ⟨_, hcm, hC_⟩ := Kd.R_reads' ho
  have C11 := Aside0.mk hC_
  clear ho hC_
  replace F2 := F2.below hb F2.lt
  replace F5 := F5.below hb F5.lt
  replace F8 := F8.below hb F8.lt
  replace F10 := F10.below hb F10.lt
  replace C2 := Aside0.mk (Kd.C_below C2.out hb)
  replace C4 := Aside0.mk (Kd.C_below C4.out hb)
  replace C6 := Aside0.mk (Kd.C_below C6.out hb)
  replace C7 := Aside0.mk (Kd.C_below C7.out hb)
  replace C9 := Aside0.mk (Kd.C_below C9.out hb)
  replace HB2 := Aside0.mk (below_step HB2.out hb)
  clear hb
  have F12 := FB.new w11 0 0 (.slice Am us.length cm)
  obtain ⟨w12, hw12⟩ : ∃ w_, w_ = w11.alloc (.cells #[.int .i64 0, .int .i64 0, .slice Am us.length cm] 32) := ⟨_, rfl⟩
  have hb : Below w11.heap.size w11 w12 := by rw [hw12]; exact below_alloc (Below.refl _ _) _
  obtain ⟨bm, hbm⟩ : ∃ b_, b_ = w11.heap.size := ⟨_, rfl⟩
  rw [← hw12, ← hbm] at F12
  replace F2 := F2.below hb F2.lt
  replace F5 := F5.below hb F5.lt
  replace F8 := F8.below hb F8.lt
  replace F10 := F10.below hb F10.lt
  replace C2 := Aside0.mk (Kd.C_below C2.out hb)
  replace C4 := Aside0.mk (Kd.C_below C4.out hb)
  replace C6 := Aside0.mk (Kd.C_below C6.out hb)
  replace C7 := Aside0.mk (Kd.C_below C7.out hb)
  replace C9 := Aside0.mk (Kd.C_below C9.out hb)
  replace HB2 := Aside0.mk (below_step HB2.out hb)
  clear hb
  have hz : bm + 1 = w12.heap.size := by rw [hw12, hbm]; simp
  gi_wp2
  rw [← hbm, ← hw12]
  rw [hz]
  clear hz
  clear hw12 hbm
  -- Decode({1, 65}, 0)
  refine ⟨trivial, ?_⟩
  gi_at_call 20
  have hL : Kd.C (Kd.int .u8) (w12.alloc (.cells #[.int .u8 1, .int .u8 65] 5)) (some ⟨w12.heap.size, 0, none⟩) [(1 : Int), 65].length [1, 65] := lv_C (k := .u8) 5 w12 [1, 65] (by decide)
  have hcall := bloom_Decode.calls 200 (some ⟨w12.heap.size, 0, none⟩) 2 [1, 65] 0 0 0 us 0 4 _ hL (Nat.le_refl _) D7.out
  refine (callsIn_wide.2 hcall).mono ?_
  clear hL hcall
  rintro e w13 ⟨v13, rfl, ho, hb0⟩
  have hb : Below w12.heap.size w12 w13 := below_step (below_alloc (Below.refl w12.heap.size w12) _) hb0
  clear hb0
  obtain ⟨An, cn, rfl⟩ := Kd.R_slice ho
  obtain ⟨_, hcn, hC_⟩ := Kd.R_reads' ho
  have C13 := Aside0.mk hC_
  clear ho hC_
  replace F2 := F2.below hb F2.lt
  replace F5 := F5.below hb F5.lt
  replace F8 := F8.below hb F8.lt
  replace F10 := F10.below hb F10.lt
  replace F12 := F12.below hb F12.lt
  replace C2 := Aside0.mk (Kd.C_below C2.out hb)
  replace C4 := Aside0.mk (Kd.C_below C4.out hb)
  replace C6 := Aside0.mk (Kd.C_below C6.out hb)
  replace C7 := Aside0.mk (Kd.C_below C7.out hb)
  replace C9 := Aside0.mk (Kd.C_below C9.out hb)
  replace HB2 := Aside0.mk (below_step HB2.out hb)
  clear hb
  have F14 := FB.new w13 0 0 (.slice An us.length cn)
  obtain ⟨w14, hw14⟩ : ∃ w_, w_ = w13.alloc (.cells #[.int .i64 0, .int .i64 0, .slice An us.length cn] 32) := ⟨_, rfl⟩
  have hb : Below w13.heap.size w13 w14 := by rw [hw14]; exact below_alloc (Below.refl _ _) _
  obtain ⟨bn, hbn⟩ : ∃ b_, b_ = w13.heap.size := ⟨_, rfl⟩
  rw [← hw14, ← hbn] at F14
  replace F2 := F2.below hb F2.lt
  replace F5 := F5.below hb F5.lt
  replace F8 := F8.below hb F8.lt
  replace F10 := F10.below hb F10.lt
  replace F12 := F12.below hb F12.lt
  replace C2 := Aside0.mk (Kd.C_below C2.out hb)
  replace C4 := Aside0.mk (Kd.C_below C4.out hb)
  replace C6 := Aside0.mk (Kd.C_below C6.out hb)
  replace C7 := Aside0.mk (Kd.C_below C7.out hb)
  replace C9 := Aside0.mk (Kd.C_below C9.out hb)
  replace HB2 := Aside0.mk (below_step HB2.out hb)
  clear hb
  have kF20 := F2.c0
  rw [hw14] at kF20
  have kF21 := F2.c1
  rw [hw14] at kF21
  have kF22 := F2.c2
  rw [hw14] at kF22
  gi_wp2
  rw [← hbn, ← hw14]
  clear hw14 hbn
  clear kF20 kF21 kF22
  -- the last line
  have hbd : Below w14.heap.size w14 w14.drew := below_drew1 (Below.refl _ _)
  obtain ⟨af, hAf, qf⟩ := Kd.at_int C2.out 0 (by omega) (by have := LZ.out; omega)
  obtain ⟨ab, hAb, qb0⟩ := Kd.at_int C6.out 0 (by omega) (by have := LB.out; omega)
  obtain ⟨ab2, hAb2, qb1⟩ := Kd.at_int C6.out 1 (by omega) (by have := LB.out; omega)
  subst hAf hAb
  obtain rfl : ab = ab2 := by injection hAb2
  rw [LZ0.out] at qf
  rw [LB0.out] at qb0
  rw [LB1.out] at qb1
  (try rw [show ((0 : Int)).toNat = 0 from rfl] at qf qb0)
  (try rw [Addr.add_zero'] at qf)
  (try rw [Addr.add_zero'] at qb0)
  (try simp only [show (1 : Int).toNat = 1 from rfl, Nat.reduceMul, Nat.reduceEqDiff, Go.Addr.add, ↓reduceIte] at qb1)
  have hS0 : LS bf bg bh bu af ab (.slice (some af) zs.length cf) (.slice Ag ws.length cg) (.slice Ah zs.length ch) (.slice Au ws.length cu) w14 := ⟨F2.c0, F2.c1, F2.c2, F5.c0, F5.c1, F5.c2, F8.c0, F8.c1, F8.c2, F10.c0, F10.c1, F10.c2, qf, qb0, qb1⟩
  have HX := Aside0.mk hbd
  have lz : ((zs.length : Int) == 1) = true := by rw [LZ.out]; rfl
  have lb : ((bs.length : Int) == 10) = true := by rw [LB.out]; rfl
  have pz : (0 ≤ (0 : Int)) = True := eq_true (by omega)
  have qz : ((0 : Int) < (zs.length : Int)) = True := eq_true (by have := LZ.out; omega)
  have rz : (0 < zs.length) = True := eq_true (by have := LZ.out; omega)
  have qb : ((0 : Int) < (bs.length : Int)) = True := eq_true (by have := LB.out; omega)
  have rb : (0 < bs.length) = True := eq_true (by have := LB.out; omega)
  have qc : ((1 : Int) < (bs.length : Int)) = True := eq_true (by have := LB.out; omega)
  have rc : (1 < bs.length) = True := eq_true (by have := LB.out; omega)
  refine wpIn_wide.2 ?_
  refine start_ (n := 97) (S := LS bf bg bh bu af ab (.slice (some af) zs.length cf) (.slice Ag ws.length cg) (.slice Ah zs.length ch) (.slice Au ws.length cu)) (ds := []) (dn 0) (by kernel_rfl) rfl (by kernel_rfl) (hS0.below hbd) (fun hHeld => ?_); refine with_tabW laminalaw15_lives.tab8 laminalaw15_lives.bits8 (fun HT_ HW_ => ?_)
  generalize w14.drew = y0 at HX hHeld ⊢
  clear F2 F5 F8 F10 F12 F14 qf qb0 qb1 hS0 hbd
  refine pure_ (i := 0) (N := some 44) (v := ?_) (a' := ?_) (dn 1) rfl rfl (any_of HT_.out (by kernel_rfl)) (fun _ _ _ h => h) (Or.inl ⟨(by first | rfl | (simp only [*]; rfl) | (simp [*]; done)), ?_⟩) ?_ ?_
  rotate_left
  · intro w'; go_simp; with_reducible rfl
  rotate_left
  · (simp only [Act.put, List.setIfInBounds_toArray, List.set_cons_zero, List.set_cons_succ]; rfl)
  refine take_ (i := 1) (N := some 45) (v := ?_) (a' := ?_) (dn 2) rfl rfl (take_ofW HT_.out HW_.out (by kernel_rfl)) (fun _ _ _ h => h) (Or.inl ⟨(by first | rfl | (simp only [*]; rfl) | (simp [*]; done)), ?_⟩) hHeld ?_ ?_
  rotate_left
  · rintro w' ⟨s0, s1, s2, s3, s4, s5, s6, s7, s8, s9, s10, s11, s12, s13, s14⟩; go_simp; with_reducible rfl
  rotate_left
  · (simp only [Act.put, List.setIfInBounds_toArray, List.set_cons_zero, List.set_cons_succ]; rfl)
  refine pure_ (i := 2) (N := some 46) (v := ?_) (a' := ?_) (dn 3) rfl rfl (any_of HT_.out (by kernel_rfl)) (fun _ _ _ h => h) (Or.inl ⟨(by first | rfl | (simp only [*]; rfl) | (simp [*]; done)), ?_⟩) ?_ ?_
  rotate_left
  · intro w'; go_simp; with_reducible rfl
  rotate_left
  · (simp only [Act.put, List.setIfInBounds_toArray, List.set_cons_zero, List.set_cons_succ]; rfl)
  refine pure_ (i := 3) (N := some 47) (v := ?_) (a' := ?_) (dn 4) rfl rfl (any_of HT_.out (by kernel_rfl)) (fun _ _ _ h => h) (Or.inl ⟨(by first | rfl | (simp only [*]; rfl) | (simp [*]; done)), ?_⟩) ?_ ?_
  rotate_left
  · intro w'; go_simp; with_reducible rfl
  rotate_left
  · (simp only [Act.put, List.setIfInBounds_toArray, List.set_cons_zero, List.set_cons_succ]; rfl)
  refine pure_ (i := 4) (N := some 48) (v := ?_) (a' := ?_) (dn 5) rfl rfl (any_of HT_.out (by kernel_rfl)) (fun _ _ _ h => h) (Or.inl ⟨(by first | rfl | (simp only [*]; rfl) | (simp [*]; done)), ?_⟩) ?_ ?_
  rotate_left
  · intro w'; go_simp; with_reducible rfl
  rotate_left
  · (simp only [Act.put, List.setIfInBounds_toArray, List.set_cons_zero, List.set_cons_succ]; rfl)
  refine pure_ (i := 5) (N := some 49) (v := ?_) (a' := ?_) (dn 6) rfl rfl (any_of HT_.out (by kernel_rfl)) (fun _ _ _ h => h) (Or.inl ⟨(by first | rfl | (simp only [*]; rfl) | (simp [*]; done)), ?_⟩) ?_ ?_
  rotate_left
  · intro w'; go_simp; with_reducible rfl
  rotate_left
  · (simp only [Act.put, List.setIfInBounds_toArray, List.set_cons_zero, List.set_cons_succ]; rfl)
  refine take_ (i := 6) (N := some 50) (v := ?_) (a' := ?_) (dn 7) rfl rfl (take_ofW HT_.out HW_.out (by kernel_rfl)) (fun _ _ _ h => h) (Or.inl ⟨(by first | rfl | (simp only [*]; rfl) | (simp [*]; done)), ?_⟩) hHeld ?_ ?_
  rotate_left
  · rintro w' ⟨s0, s1, s2, s3, s4, s5, s6, s7, s8, s9, s10, s11, s12, s13, s14⟩; go_simp; with_reducible rfl
  rotate_left
  · (simp only [Act.put, List.setIfInBounds_toArray, List.set_cons_zero, List.set_cons_succ]; rfl)
  refine pure_ (i := 7) (N := some 51) (v := ?_) (a' := ?_) (dn 8) rfl rfl (any_of HT_.out (by kernel_rfl)) (fun _ _ _ h => h) (Or.inl ⟨(by first | rfl | (simp only [*]; rfl) | (simp [*]; done)), ?_⟩) ?_ ?_
  rotate_left
  · intro w'; go_simp; with_reducible rfl
  rotate_left
  · (simp only [Act.put, List.setIfInBounds_toArray, List.set_cons_zero, List.set_cons_succ]; rfl)
  refine pure_ (i := 8) (N := some 52) (v := ?_) (a' := ?_) (dn 9) rfl rfl (any_of HT_.out (by kernel_rfl)) (fun _ _ _ h => h) (Or.inl ⟨(by first | rfl | (simp only [*]; rfl) | (simp [*]; done)), ?_⟩) ?_ ?_
  rotate_left
  · intro w'; go_simp; with_reducible rfl
  rotate_left
  · (simp only [Act.put, List.setIfInBounds_toArray, List.set_cons_zero, List.set_cons_succ]; rfl)
  refine pure_ (i := 9) (N := some 53) (v := ?_) (a' := ?_) (dn 10) rfl rfl (any_of HT_.out (by kernel_rfl)) (fun _ _ _ h => h) (Or.inl ⟨(by first | rfl | (simp only [*]; rfl) | (simp [*]; done)), ?_⟩) ?_ ?_
  rotate_left
  · intro w'; go_simp; with_reducible rfl
  rotate_left
  · (simp only [Act.put, List.setIfInBounds_toArray, List.set_cons_zero, List.set_cons_succ]; rfl)
  refine pure_ (i := 10) (N := some 54) (v := ?_) (a' := ?_) (dn 11) rfl rfl (any_of HT_.out (by kernel_rfl)) (fun _ _ _ h => h) (Or.inl ⟨(by first | rfl | (simp only [*]; rfl) | (simp [*]; done)), ?_⟩) ?_ ?_
  rotate_left
  · intro w'; go_simp; with_reducible rfl
  rotate_left
  · (simp only [Act.put, List.setIfInBounds_toArray, List.set_cons_zero, List.set_cons_succ]; rfl)
  refine pure_ (i := 11) (N := some 55) (v := ?_) (a' := ?_) (dn 12) rfl rfl (any_of HT_.out (by kernel_rfl)) (fun _ _ _ h => h) (Or.inl ⟨(by first | rfl | (simp only [*]; rfl) | (simp [*]; done)), ?_⟩) ?_ ?_
  rotate_left
  · intro w'; go_simp; with_reducible rfl
  rotate_left
  · (simp only [Act.put, List.setIfInBounds_toArray, List.set_cons_zero, List.set_cons_succ]; rfl)
  refine take_ (i := 12) (N := some 56) (v := ?_) (a' := ?_) (dn 13) rfl rfl (take_ofW HT_.out HW_.out (by kernel_rfl)) (fun _ _ _ h => h) (Or.inl ⟨(by first | rfl | (simp only [*]; rfl) | (simp [*]; done)), ?_⟩) hHeld ?_ ?_
  rotate_left
  · rintro w' ⟨s0, s1, s2, s3, s4, s5, s6, s7, s8, s9, s10, s11, s12, s13, s14⟩; go_simp; with_reducible rfl
  rotate_left
  · (simp only [Act.put, List.setIfInBounds_toArray, List.set_cons_zero, List.set_cons_succ]; rfl)
  refine pure_ (i := 13) (N := some 57) (v := ?_) (a' := ?_) (dn 14) rfl rfl (any_of HT_.out (by kernel_rfl)) (fun _ _ _ h => h) (Or.inl ⟨(by first | rfl | (simp only [*]; rfl) | (simp [*]; done)), ?_⟩) ?_ ?_
  rotate_left
  · intro w'; go_simp; with_reducible rfl
  rotate_left
  · (simp only [Act.put, List.setIfInBounds_toArray, List.set_cons_zero, List.set_cons_succ]; rfl)
  refine pure_ (i := 14) (N := some 58) (v := ?_) (a' := ?_) (dn 15) rfl rfl (any_of HT_.out (by kernel_rfl)) (fun _ _ _ h => h) (Or.inl ⟨(by first | rfl | (simp only [*]; rfl) | (simp [*]; done)), ?_⟩) ?_ ?_
  rotate_left
  · intro w'; go_simp; with_reducible rfl
  rotate_left
  · (simp only [Act.put, List.setIfInBounds_toArray, List.set_cons_zero, List.set_cons_succ]; rfl)
  refine pure_ (i := 15) (N := some 59) (v := ?_) (a' := ?_) (dn 16) rfl rfl (any_of HT_.out (by kernel_rfl)) (fun _ _ _ h => h) (Or.inl ⟨(by first | rfl | (simp only [*]; rfl) | (simp [*]; done)), ?_⟩) ?_ ?_
  rotate_left
  · intro w'; go_simp; with_reducible rfl
  rotate_left
  · (simp only [Act.put, List.setIfInBounds_toArray, List.set_cons_zero, List.set_cons_succ]; rfl)
  refine pure_ (i := 16) (N := some 60) (v := ?_) (a' := ?_) (dn 17) rfl rfl (any_of HT_.out (by kernel_rfl)) (fun _ _ _ h => h) (Or.inl ⟨(by first | rfl | (simp only [*]; rfl) | (simp [*]; done)), ?_⟩) ?_ ?_
  rotate_left
  · intro w'; go_simp; with_reducible rfl
  rotate_left
  · (simp only [Act.put, List.setIfInBounds_toArray, List.set_cons_zero, List.set_cons_succ]; rfl)
  refine pure_ (i := 17) (N := some 61) (v := ?_) (a' := ?_) (dn 18) rfl rfl (any_of HT_.out (by kernel_rfl)) (fun _ _ _ h => h) (Or.inl ⟨(by first | rfl | (simp only [*]; rfl) | (simp [*]; done)), ?_⟩) ?_ ?_
  rotate_left
  · intro w'; go_simp; with_reducible rfl
  rotate_left
  · (simp only [Act.put, List.setIfInBounds_toArray, List.set_cons_zero, List.set_cons_succ]; rfl)
  refine pure_ (i := 18) (N := some 62) (v := ?_) (a' := ?_) (dn 19) rfl rfl (any_of HT_.out (by kernel_rfl)) (fun _ _ _ h => h) (Or.inl ⟨(by first | rfl | (simp only [*]; rfl) | (simp [*]; done)), ?_⟩) ?_ ?_
  rotate_left
  · intro w'; go_simp; with_reducible rfl
  rotate_left
  · (simp only [Act.put, List.setIfInBounds_toArray, List.set_cons_zero, List.set_cons_succ]; rfl)
  refine take_ (i := 19) (N := some 63) (v := ?_) (a' := ?_) (dn 20) rfl rfl (take_ofW HT_.out HW_.out (by kernel_rfl)) (fun _ _ _ h => h) (Or.inl ⟨(by first | rfl | (simp only [*]; rfl) | (simp [*]; done)), ?_⟩) hHeld ?_ ?_
  rotate_left
  · rintro w' ⟨s0, s1, s2, s3, s4, s5, s6, s7, s8, s9, s10, s11, s12, s13, s14⟩; go_simp; with_reducible rfl
  rotate_left
  · (simp only [Act.put, List.setIfInBounds_toArray, List.set_cons_zero, List.set_cons_succ]; rfl)
  refine pure_ (i := 20) (N := some 64) (v := ?_) (a' := ?_) (dn 21) rfl rfl (any_of HT_.out (by kernel_rfl)) (fun _ _ _ h => h) (Or.inl ⟨(by first | rfl | (simp only [*]; rfl) | (simp [*]; done)), ?_⟩) ?_ ?_
  rotate_left
  · intro w'; go_simp; with_reducible rfl
  rotate_left
  · (simp only [Act.put, List.setIfInBounds_toArray, List.set_cons_zero, List.set_cons_succ]; rfl)
  refine take_ (i := 21) (N := some 65) (v := ?_) (a' := ?_) (dn 22) rfl rfl (take_ofW HT_.out HW_.out (by kernel_rfl)) (fun _ _ _ h => h) (Or.inl ⟨(by first | rfl | (simp only [*]; rfl) | (simp [*]; done)), ?_⟩) hHeld ?_ ?_
  rotate_left
  · rintro w' ⟨s0, s1, s2, s3, s4, s5, s6, s7, s8, s9, s10, s11, s12, s13, s14⟩; go_simp; with_reducible rfl
  rotate_left
  · (simp only [Act.put, List.setIfInBounds_toArray, List.set_cons_zero, List.set_cons_succ]; rfl)
  refine pure_ (i := 22) (N := some 66) (v := ?_) (a' := ?_) (dn 23) rfl rfl (any_of HT_.out (by kernel_rfl)) (fun _ _ _ h => h) (Or.inl ⟨(by first | rfl | (simp only [*]; rfl) | (simp [*]; done)), ?_⟩) ?_ ?_
  rotate_left
  · intro w'; go_simp; with_reducible rfl
  rotate_left
  · (simp only [Act.put, List.setIfInBounds_toArray, List.set_cons_zero, List.set_cons_succ]; rfl)
  refine pure_ (i := 23) (N := some 67) (v := ?_) (a' := ?_) (dn 24) rfl rfl (any_of HT_.out (by kernel_rfl)) (fun _ _ _ h => h) (Or.inl ⟨(by first | rfl | (simp only [*]; rfl) | (simp [*]; done)), ?_⟩) ?_ ?_
  rotate_left
  · intro w'; go_simp; with_reducible rfl
  rotate_left
  · (simp only [Act.put, List.setIfInBounds_toArray, List.set_cons_zero, List.set_cons_succ]; rfl)
  refine pure_ (i := 24) (N := some 68) (v := ?_) (a' := ?_) (dn 25) rfl rfl (any_of HT_.out (by kernel_rfl)) (fun _ _ _ h => h) (Or.inl ⟨(by first | rfl | (simp only [*]; rfl) | (simp [*]; done)), ?_⟩) ?_ ?_
  rotate_left
  · intro w'; go_simp; with_reducible rfl
  rotate_left
  · (simp only [Act.put, List.setIfInBounds_toArray, List.set_cons_zero, List.set_cons_succ]; rfl)
  refine take_ (i := 25) (N := some 69) (v := ?_) (a' := ?_) (dn 26) rfl rfl (take_ofW HT_.out HW_.out (by kernel_rfl)) (fun _ _ _ h => h) (Or.inl ⟨(by first | rfl | (simp only [*]; rfl) | (simp [*]; done)), ?_⟩) hHeld ?_ ?_
  rotate_left
  · rintro w' ⟨s0, s1, s2, s3, s4, s5, s6, s7, s8, s9, s10, s11, s12, s13, s14⟩; go_simp; with_reducible rfl
  rotate_left
  · (simp only [Act.put, List.setIfInBounds_toArray, List.set_cons_zero, List.set_cons_succ]; rfl)
  refine one_ (i := 26) (N := some 70) (dn 27) rfl rfl (one_of HT_.out (by kernel_rfl)) (by decide) (fun K hK => ?_)
  refine goes_ Try.func24 (by kernel_rfl) rfl #[] (by first | rfl | (simp only [*]; rfl) | (simp [*]; done)) rfl rfl (by simp [Act.eval]) ?_
  (with_reducible refine (laminalaw15_one.calls x1.f0 x1.f1 x1.f2 y0 D0.out).mono ?_)
  rintro e y1 ⟨rfl, hb⟩
  refine ⟨_, rfl, ?_⟩
  replace HX := Aside0.mk (below_step HX.out hb)
  refine hK.out _ _ (hHeld.below hb) (fun hHeld2 => ?_)
  clear hHeld hb
  have hHeld := hHeld2
  clear hHeld2 hK K
  refine norm_ (a' := ?_) ?_ ?_
  rotate_left
  · show Act.put _ (some 70) _ = _
    simp only [Act.put, List.setIfInBounds_toArray, List.set_cons_zero, List.set_cons_succ]
    rfl
  refine one_ (i := 27) (N := some 71) (dn 28) rfl rfl (one_of HT_.out (by kernel_rfl)) (by decide) (fun K hK => ?_)
  refine goes_ Try.func14 (by kernel_rfl) rfl #[.agg #[.int .i64 5, .int .i64 64, .slice (some af) zs.length cf], .agg #[.int .i64 x1.f0, .int .i64 x1.f1, .string x1.f2]] (by first | rfl | (simp only [*]; rfl) | (simp [*]; done)) rfl rfl (by simp [Act.eval]) ?_
  (with_reducible refine (bloom_MayContain.calls 5 64 (some af) cf zs x1.f0 x1.f1 x1.f2 false y1 (Kd.C_below C2.out HX.out) hcf D8.out).mono ?_)
  rintro e y2 ⟨rfl, hb⟩
  refine ⟨_, rfl, ?_⟩
  replace HX := Aside0.mk (below_step HX.out hb)
  refine hK.out _ _ (hHeld.below hb) (fun hHeld2 => ?_)
  clear hHeld hb
  have hHeld := hHeld2
  clear hHeld2 hK K
  refine norm_ (a' := ?_) ?_ ?_
  rotate_left
  · show Act.put _ (some 71) _ = _
    simp only [Act.put, List.setIfInBounds_toArray, List.set_cons_zero, List.set_cons_succ]
    rfl
  refine pure_ (i := 28) (N := some 72) (v := ?_) (a' := ?_) (dn 29) rfl rfl (any_of HT_.out (by kernel_rfl)) (fun _ _ _ h => h) (Or.inl ⟨(by first | rfl | (simp only [*]; rfl) | (simp [*]; done)), ?_⟩) ?_ ?_
  rotate_left
  · intro w'; go_simp; with_reducible rfl
  rotate_left
  · (simp only [Act.put, List.setIfInBounds_toArray, List.set_cons_zero, List.set_cons_succ]; rfl)
  refine pure_ (i := 29) (N := some 73) (v := ?_) (a' := ?_) (dn 30) rfl rfl (any_of HT_.out (by kernel_rfl)) (fun _ _ _ h => h) (Or.inl ⟨(by first | rfl | (simp only [*]; rfl) | (simp [*]; done)), ?_⟩) ?_ ?_
  rotate_left
  · intro w'; go_simp; with_reducible rfl
  rotate_left
  · (simp only [Act.put, List.setIfInBounds_toArray, List.set_cons_zero, List.set_cons_succ]; rfl)
  refine pure_ (i := 30) (N := some 74) (v := ?_) (a' := ?_) (dn 31) rfl rfl (any_of HT_.out (by kernel_rfl)) (fun _ _ _ h => h) (Or.inl ⟨(by first | rfl | (simp only [*]; rfl) | (simp [*]; done)), ?_⟩) ?_ ?_
  rotate_left
  · intro w'; go_simp; with_reducible rfl
  rotate_left
  · (simp only [Act.put, List.setIfInBounds_toArray, List.set_cons_zero, List.set_cons_succ]; rfl)
  refine take_ (i := 31) (N := some 75) (v := ?_) (a' := ?_) (dn 32) rfl rfl (take_ofW HT_.out HW_.out (by kernel_rfl)) (fun _ _ _ h => h) (Or.inl ⟨(by first | rfl | (simp only [*]; rfl) | (simp [*]; done)), ?_⟩) hHeld ?_ ?_
  rotate_left
  · rintro w' ⟨s0, s1, s2, s3, s4, s5, s6, s7, s8, s9, s10, s11, s12, s13, s14⟩; go_simp; with_reducible rfl
  rotate_left
  · (simp only [Act.put, List.setIfInBounds_toArray, List.set_cons_zero, List.set_cons_succ]; rfl)
  refine one_ (i := 32) (N := some 76) (dn 33) rfl rfl (one_of HT_.out (by kernel_rfl)) (by decide) (fun K hK => ?_)
  refine goes_ Try.func24 (by kernel_rfl) rfl #[] (by first | rfl | (simp only [*]; rfl) | (simp [*]; done)) rfl rfl (by simp [Act.eval]) ?_
  (with_reducible refine (laminalaw15_one.calls x1.f0 x1.f1 x1.f2 y2 D0.out).mono ?_)
  rintro e y3 ⟨rfl, hb⟩
  refine ⟨_, rfl, ?_⟩
  replace HX := Aside0.mk (below_step HX.out hb)
  refine hK.out _ _ (hHeld.below hb) (fun hHeld2 => ?_)
  clear hHeld hb
  have hHeld := hHeld2
  clear hHeld2 hK K
  refine norm_ (a' := ?_) ?_ ?_
  rotate_left
  · show Act.put _ (some 76) _ = _
    simp only [Act.put, List.setIfInBounds_toArray, List.set_cons_zero, List.set_cons_succ]
    rfl
  refine one_ (i := 33) (N := some 77) (dn 34) rfl rfl (one_of HT_.out (by kernel_rfl)) (by decide) (fun K hK => ?_)
  refine goes_ Try.func14 (by kernel_rfl) rfl #[.agg #[.int .i64 5, .int .i64 64, .slice Ag ws.length cg], .agg #[.int .i64 x1.f0, .int .i64 x1.f1, .string x1.f2]] (by first | rfl | (simp only [*]; rfl) | (simp [*]; done)) rfl rfl (by simp [Act.eval]) ?_
  (with_reducible refine (bloom_MayContain.calls 5 64 Ag cg ws x1.f0 x1.f1 x1.f2 true y3 (Kd.C_below C4.out HX.out) hcg D9.out).mono ?_)
  rintro e y4 ⟨rfl, hb⟩
  refine ⟨_, rfl, ?_⟩
  replace HX := Aside0.mk (below_step HX.out hb)
  refine hK.out _ _ (hHeld.below hb) (fun hHeld2 => ?_)
  clear hHeld hb
  have hHeld := hHeld2
  clear hHeld2 hK K
  refine norm_ (a' := ?_) ?_ ?_
  rotate_left
  · show Act.put _ (some 77) _ = _
    simp only [Act.put, List.setIfInBounds_toArray, List.set_cons_zero, List.set_cons_succ]
    rfl
  refine pure_ (i := 34) (N := some 78) (v := ?_) (a' := ?_) (dn 35) rfl rfl (any_of HT_.out (by kernel_rfl)) (fun _ _ _ h => h) (Or.inl ⟨(by first | rfl | (simp only [*]; rfl) | (simp [*]; done)), ?_⟩) ?_ ?_
  rotate_left
  · intro w'; go_simp; with_reducible rfl
  rotate_left
  · (simp only [Act.put, List.setIfInBounds_toArray, List.set_cons_zero, List.set_cons_succ]; rfl)
  refine pure_ (i := 35) (N := some 79) (v := ?_) (a' := ?_) (dn 36) rfl rfl (any_of HT_.out (by kernel_rfl)) (fun _ _ _ h => h) (Or.inl ⟨(by first | rfl | (simp only [*]; rfl) | (simp [*]; done)), ?_⟩) ?_ ?_
  rotate_left
  · intro w'; go_simp; with_reducible rfl
  rotate_left
  · (simp only [Act.put, List.setIfInBounds_toArray, List.set_cons_zero, List.set_cons_succ]; rfl)
  refine pure_ (i := 36) (N := some 80) (v := ?_) (a' := ?_) (dn 37) rfl rfl (any_of HT_.out (by kernel_rfl)) (fun _ _ _ h => h) (Or.inl ⟨(by first | rfl | (simp only [*]; rfl) | (simp [*]; done)), ?_⟩) ?_ ?_
  rotate_left
  · intro w'; go_simp; with_reducible rfl
  rotate_left
  · (simp only [Act.put, List.setIfInBounds_toArray, List.set_cons_zero, List.set_cons_succ]; rfl)
  refine one_ (i := 37) (N := some 81) (dn 38) rfl rfl (one_of HT_.out (by kernel_rfl)) (by decide) (fun K hK => ?_)
  refine goes_ Try.func24 (by kernel_rfl) rfl #[] (by first | rfl | (simp only [*]; rfl) | (simp [*]; done)) rfl rfl (by simp [Act.eval]) ?_
  (with_reducible refine (laminalaw15_one.calls x1.f0 x1.f1 x1.f2 y4 D0.out).mono ?_)
  rintro e y5 ⟨rfl, hb⟩
  refine ⟨_, rfl, ?_⟩
  replace HX := Aside0.mk (below_step HX.out hb)
  refine hK.out _ _ (hHeld.below hb) (fun hHeld2 => ?_)
  clear hHeld hb
  have hHeld := hHeld2
  clear hHeld2 hK K
  refine norm_ (a' := ?_) ?_ ?_
  rotate_left
  · show Act.put _ (some 81) _ = _
    simp only [Act.put, List.setIfInBounds_toArray, List.set_cons_zero, List.set_cons_succ]
    rfl
  refine one_ (i := 38) (N := some 82) (dn 39) rfl rfl (one_of HT_.out (by kernel_rfl)) (by decide) (fun K hK => ?_)
  refine goes_ Try.func14 (by kernel_rfl) rfl #[.agg #[.int .i64 0, .int .i64 0, .slice none 0 0], .agg #[.int .i64 x1.f0, .int .i64 x1.f1, .string x1.f2]] (by first | rfl | (simp only [*]; rfl) | (simp [*]; done)) rfl rfl (by simp [Act.eval]) ?_
  (with_reducible refine (mc0 x1 y5 D10.out).mono ?_)
  rintro e y6 ⟨rfl, hb⟩
  refine ⟨_, rfl, ?_⟩
  replace HX := Aside0.mk (below_step HX.out hb)
  refine hK.out _ _ (hHeld.below hb) (fun hHeld2 => ?_)
  clear hHeld hb
  have hHeld := hHeld2
  clear hHeld2 hK K
  refine norm_ (a' := ?_) ?_ ?_
  rotate_left
  · show Act.put _ (some 82) _ = _
    simp only [Act.put, List.setIfInBounds_toArray, List.set_cons_zero, List.set_cons_succ]
    rfl
  refine pure_ (i := 39) (N := some 83) (v := ?_) (a' := ?_) (dn 40) rfl rfl (any_of HT_.out (by kernel_rfl)) (fun _ _ _ h => h) (Or.inl ⟨(by first | rfl | (simp only [*]; rfl) | (simp [*]; done)), ?_⟩) ?_ ?_
  rotate_left
  · intro w'; go_simp; with_reducible rfl
  rotate_left
  · (simp only [Act.put, List.setIfInBounds_toArray, List.set_cons_zero, List.set_cons_succ]; rfl)
  refine pure_ (i := 40) (N := some 84) (v := ?_) (a' := ?_) (dn 41) rfl rfl (any_of HT_.out (by kernel_rfl)) (fun _ _ _ h => h) (Or.inl ⟨(by first | rfl | (simp only [*]; rfl) | (simp [*]; done)), ?_⟩) ?_ ?_
  rotate_left
  · intro w'; go_simp; with_reducible rfl
  rotate_left
  · (simp only [Act.put, List.setIfInBounds_toArray, List.set_cons_zero, List.set_cons_succ]; rfl)
  refine take_ (i := 41) (N := some 85) (v := ?_) (a' := ?_) (dn 42) rfl rfl (take_ofW HT_.out HW_.out (by kernel_rfl)) (fun _ _ _ h => h) (Or.inl ⟨(by first | rfl | (simp only [*]; rfl) | (simp [*]; done)), ?_⟩) hHeld ?_ ?_
  rotate_left
  · rintro w' ⟨s0, s1, s2, s3, s4, s5, s6, s7, s8, s9, s10, s11, s12, s13, s14⟩; go_simp; with_reducible rfl
  rotate_left
  · (simp only [Act.put, List.setIfInBounds_toArray, List.set_cons_zero, List.set_cons_succ]; rfl)
  refine one_ (i := 42) (N := some 86) (dn 43) rfl rfl (one_of HT_.out (by kernel_rfl)) (by decide) (fun K hK => ?_)
  refine goes_ Try.func16 (by kernel_rfl) rfl #[.agg #[.int .i64 5, .int .i64 64, .slice (some af) zs.length cf]] (by first | rfl | (simp only [*]; rfl) | (simp [*]; done)) rfl rfl (by simp [Act.eval]) ?_
  (with_reducible refine (bloom_Valid.calls 5 64 (some af) cf zs true y6 (Kd.C_below C2.out HX.out) hcf D11.out).mono ?_)
  rintro e y7 ⟨rfl, hb⟩
  refine ⟨_, rfl, ?_⟩
  replace HX := Aside0.mk (below_step HX.out hb)
  refine hK.out _ _ (hHeld.below hb) (fun hHeld2 => ?_)
  clear hHeld hb
  have hHeld := hHeld2
  clear hHeld2 hK K
  refine norm_ (a' := ?_) ?_ ?_
  rotate_left
  · show Act.put _ (some 86) _ = _
    simp only [Act.put, List.setIfInBounds_toArray, List.set_cons_zero, List.set_cons_succ]
    rfl
  refine pure_ (i := 43) (N := some 87) (v := ?_) (a' := ?_) (dn 44) rfl rfl (any_of HT_.out (by kernel_rfl)) (fun _ _ _ h => h) (Or.inl ⟨(by first | rfl | (simp only [*]; rfl) | (simp [*]; done)), ?_⟩) ?_ ?_
  rotate_left
  · intro w'; go_simp; with_reducible rfl
  rotate_left
  · (simp only [Act.put, List.setIfInBounds_toArray, List.set_cons_zero, List.set_cons_succ]; rfl)
  refine pure_ (i := 44) (N := some 88) (v := ?_) (a' := ?_) (dn 45) rfl rfl (any_of HT_.out (by kernel_rfl)) (fun _ _ _ h => h) (Or.inl ⟨(by first | rfl | (simp only [*]; rfl) | (simp [*]; done)), ?_⟩) ?_ ?_
  rotate_left
  · intro w'; go_simp; with_reducible rfl
  rotate_left
  · (simp only [Act.put, List.setIfInBounds_toArray, List.set_cons_zero, List.set_cons_succ]; rfl)
  refine pure_ (i := 45) (N := some 89) (v := ?_) (a' := ?_) (dn 46) rfl rfl (any_of HT_.out (by kernel_rfl)) (fun _ _ _ h => h) (Or.inl ⟨(by first | rfl | (simp only [*]; rfl) | (simp [*]; done)), ?_⟩) ?_ ?_
  rotate_left
  · intro w'; go_simp; with_reducible rfl
  rotate_left
  · (simp only [Act.put, List.setIfInBounds_toArray, List.set_cons_zero, List.set_cons_succ]; rfl)
  refine one_ (i := 46) (N := some 90) (dn 47) rfl rfl (one_of HT_.out (by kernel_rfl)) (by decide) (fun K hK => ?_)
  refine goes_ Try.func16 (by kernel_rfl) rfl #[.agg #[.int .i64 1, .int .i64 0, .slice none 0 0]] (by first | rfl | (simp only [*]; rfl) | (simp [*]; done)) rfl rfl (by simp [Act.eval]) ?_
  (with_reducible refine (va0 y7 D12.out).mono ?_)
  rintro e y8 ⟨rfl, hb⟩
  refine ⟨_, rfl, ?_⟩
  replace HX := Aside0.mk (below_step HX.out hb)
  refine hK.out _ _ (hHeld.below hb) (fun hHeld2 => ?_)
  clear hHeld hb
  have hHeld := hHeld2
  clear hHeld2 hK K
  refine norm_ (a' := ?_) ?_ ?_
  rotate_left
  · show Act.put _ (some 90) _ = _
    simp only [Act.put, List.setIfInBounds_toArray, List.set_cons_zero, List.set_cons_succ]
    rfl
  refine pure_ (i := 47) (N := some 91) (v := ?_) (a' := ?_) (dn 48) rfl rfl (any_of HT_.out (by kernel_rfl)) (fun _ _ _ h => h) (Or.inl ⟨(by first | rfl | (simp only [*]; rfl) | (simp [*]; done)), ?_⟩) ?_ ?_
  rotate_left
  · intro w'; go_simp; with_reducible rfl
  rotate_left
  · (simp only [Act.put, List.setIfInBounds_toArray, List.set_cons_zero, List.set_cons_succ]; rfl)
  refine pure_ (i := 48) (N := some 92) (v := ?_) (a' := ?_) (dn 49) rfl rfl (any_of HT_.out (by kernel_rfl)) (fun _ _ _ h => h) (Or.inl ⟨(by first | rfl | (simp only [*]; rfl) | (simp [*]; done)), ?_⟩) ?_ ?_
  rotate_left
  · intro w'; go_simp; with_reducible rfl
  rotate_left
  · (simp only [Act.put, List.setIfInBounds_toArray, List.set_cons_zero, List.set_cons_succ]; rfl)
  refine pure_ (i := 49) (N := some 93) (v := ?_) (a' := ?_) (dn 50) rfl rfl (any_of HT_.out (by kernel_rfl)) (fun _ _ _ h => h) (Or.inl ⟨(by first | rfl | (simp only [*]; rfl) | (simp [*]; done)), ?_⟩) ?_ ?_
  rotate_left
  · intro w'; go_simp; with_reducible rfl
  rotate_left
  · (simp only [Act.put, List.setIfInBounds_toArray, List.set_cons_zero, List.set_cons_succ]; rfl)
  refine pure_ (i := 50) (N := some 94) (v := ?_) (a' := ?_) (dn 51) rfl rfl (any_of HT_.out (by kernel_rfl)) (fun _ _ _ h => h) (Or.inl ⟨(by first | rfl | (simp only [*]; rfl) | (simp [*]; done)), ?_⟩) ?_ ?_
  rotate_left
  · intro w'; go_simp; with_reducible rfl
  rotate_left
  · (simp only [Act.put, List.setIfInBounds_toArray, List.set_cons_zero, List.set_cons_succ]; rfl)
  refine pure_ (i := 51) (N := some 95) (v := ?_) (a' := ?_) (dn 52) rfl rfl (any_of HT_.out (by kernel_rfl)) (fun _ _ _ h => h) (Or.inl ⟨(by first | rfl | (simp only [*]; rfl) | (simp [*]; done)), ?_⟩) ?_ ?_
  rotate_left
  · intro w'; go_simp; with_reducible rfl
  rotate_left
  · (simp only [Act.put, List.setIfInBounds_toArray, List.set_cons_zero, List.set_cons_succ]; rfl)
  refine pure_ (i := 52) (N := some 96) (v := ?_) (a' := ?_) (dn 53) rfl rfl (any_of HT_.out (by kernel_rfl)) (fun _ _ _ h => h) (Or.inl ⟨(by first | rfl | (simp only [*]; rfl) | (simp [*]; done)), ?_⟩) ?_ ?_
  rotate_left
  · intro w'; go_simp; with_reducible rfl
  rotate_left
  · (simp only [Act.put, List.setIfInBounds_toArray, List.set_cons_zero, List.set_cons_succ]; rfl)
  refine pure_ (i := 53) (N := some 97) (v := ?_) (a' := ?_) (dn 54) rfl rfl (any_of HT_.out (by kernel_rfl)) (fun _ _ _ h => h) (Or.inl ⟨(by first | rfl | (simp only [*]; rfl) | (simp [*]; done)), ?_⟩) ?_ ?_
  rotate_left
  · intro w'; go_simp; with_reducible rfl
  rotate_left
  · (simp only [Act.put, List.setIfInBounds_toArray, List.set_cons_zero, List.set_cons_succ]; rfl)
  refine pure_ (i := 54) (N := some 98) (v := ?_) (a' := ?_) (dn 55) rfl rfl (any_of HT_.out (by kernel_rfl)) (fun _ _ _ h => h) (Or.inl ⟨(by first | rfl | (simp only [*]; rfl) | (simp [*]; done)), ?_⟩) ?_ ?_
  rotate_left
  · intro w'; go_simp; with_reducible rfl
  rotate_left
  · (simp only [Act.put, List.setIfInBounds_toArray, List.set_cons_zero, List.set_cons_succ]; rfl)
  refine pure_ (i := 55) (N := some 99) (v := ?_) (a' := ?_) (dn 56) rfl rfl (any_of HT_.out (by kernel_rfl)) (fun _ _ _ h => h) (Or.inl ⟨(by first | rfl | (simp only [*]; rfl) | (simp [*]; done)), ?_⟩) ?_ ?_
  rotate_left
  · intro w'; go_simp; with_reducible rfl
  rotate_left
  · (simp only [Act.put, List.setIfInBounds_toArray, List.set_cons_zero, List.set_cons_succ]; rfl)
  refine pure_ (i := 56) (N := some 100) (v := ?_) (a' := ?_) (dn 57) rfl rfl (any_of HT_.out (by kernel_rfl)) (fun _ _ _ h => h) (Or.inl ⟨(by first | rfl | (simp only [*]; rfl) | (simp [*]; done)), ?_⟩) ?_ ?_
  rotate_left
  · intro w'; go_simp; with_reducible rfl
  rotate_left
  · (simp only [Act.put, List.setIfInBounds_toArray, List.set_cons_zero, List.set_cons_succ]; rfl)
  refine take_ (i := 57) (N := some 101) (v := ?_) (a' := ?_) (dn 58) rfl rfl (take_ofW HT_.out HW_.out (by kernel_rfl)) (fun _ _ _ h => h) (Or.inl ⟨(by first | rfl | (simp only [*]; rfl) | (simp [*]; done)), ?_⟩) hHeld ?_ ?_
  rotate_left
  · rintro w' ⟨s0, s1, s2, s3, s4, s5, s6, s7, s8, s9, s10, s11, s12, s13, s14⟩; go_simp; with_reducible rfl
  rotate_left
  · (simp only [Act.put, List.setIfInBounds_toArray, List.set_cons_zero, List.set_cons_succ]; rfl)
  refine pure_ (i := 58) (N := some 102) (v := ?_) (a' := ?_) (dn 59) rfl rfl (any_of HT_.out (by kernel_rfl)) (fun _ _ _ h => h) (Or.inl ⟨(by first | rfl | (simp only [*]; rfl) | (simp [*]; done)), ?_⟩) ?_ ?_
  rotate_left
  · intro w'; go_simp; with_reducible rfl
  rotate_left
  · (simp only [Act.put, List.setIfInBounds_toArray, List.set_cons_zero, List.set_cons_succ]; rfl)
  refine pure_ (i := 59) (N := some 103) (v := ?_) (a' := ?_) (dn 60) rfl rfl (any_of HT_.out (by kernel_rfl)) (fun _ _ _ h => h) (Or.inl ⟨(by first | rfl | (simp only [*]; rfl) | (simp [*]; done)), ?_⟩) ?_ ?_
  rotate_left
  · intro w'; go_simp; with_reducible rfl
  rotate_left
  · (simp only [Act.put, List.setIfInBounds_toArray, List.set_cons_zero, List.set_cons_succ]; rfl)
  refine pure_ (i := 60) (N := some 104) (v := ?_) (a' := ?_) (dn 61) rfl rfl (any_of HT_.out (by kernel_rfl)) (fun _ _ _ h => h) (Or.inl ⟨(by first | rfl | (simp only [*]; rfl) | (simp [*]; done)), ?_⟩) ?_ ?_
  rotate_left
  · intro w'; go_simp; with_reducible rfl
  rotate_left
  · (simp only [Act.put, List.setIfInBounds_toArray, List.set_cons_zero, List.set_cons_succ]; rfl)
  refine pure_ (i := 61) (N := some 105) (v := ?_) (a' := ?_) (dn 62) rfl rfl (any_of HT_.out (by kernel_rfl)) (fun _ _ _ h => h) (Or.inl ⟨(by first | rfl | (simp only [*]; rfl) | (simp [*]; done)), ?_⟩) ?_ ?_
  rotate_left
  · intro w'; go_simp; with_reducible rfl
  rotate_left
  · (simp only [Act.put, List.setIfInBounds_toArray, List.set_cons_zero, List.set_cons_succ]; rfl)
  refine pure_ (i := 62) (N := some 106) (v := ?_) (a' := ?_) (dn 63) rfl rfl (any_of HT_.out (by kernel_rfl)) (fun _ _ _ h => h) (Or.inl ⟨(by first | rfl | (simp only [*]; rfl) | (simp [*]; done)), ?_⟩) ?_ ?_
  rotate_left
  · intro w'; go_simp; with_reducible rfl
  rotate_left
  · (simp only [Act.put, List.setIfInBounds_toArray, List.set_cons_zero, List.set_cons_succ]; rfl)
  refine take_ (i := 63) (N := some 107) (v := ?_) (a' := ?_) (dn 64) rfl rfl (take_ofW HT_.out HW_.out (by kernel_rfl)) (fun _ _ _ h => h) (Or.inl ⟨(by first | rfl | (simp only [*]; rfl) | (simp [*]; done)), ?_⟩) hHeld ?_ ?_
  rotate_left
  · rintro w' ⟨s0, s1, s2, s3, s4, s5, s6, s7, s8, s9, s10, s11, s12, s13, s14⟩; go_simp; with_reducible rfl
  rotate_left
  · (simp only [Act.put, List.setIfInBounds_toArray, List.set_cons_zero, List.set_cons_succ]; rfl)
  refine pure_ (i := 64) (N := some 108) (v := ?_) (a' := ?_) (dn 65) rfl rfl (any_of HT_.out (by kernel_rfl)) (fun _ _ _ h => h) (Or.inl ⟨(by first | rfl | (simp only [*]; rfl) | (simp [*]; done)), ?_⟩) ?_ ?_
  rotate_left
  · intro w'; go_simp; with_reducible rfl
  rotate_left
  · (simp only [Act.put, List.setIfInBounds_toArray, List.set_cons_zero, List.set_cons_succ]; rfl)
  refine pure_ (i := 65) (N := some 109) (v := ?_) (a' := ?_) (dn 66) rfl rfl (any_of HT_.out (by kernel_rfl)) (fun _ _ _ h => h) (Or.inl ⟨(by first | rfl | (simp only [*]; rfl) | (simp [*]; done)), ?_⟩) ?_ ?_
  rotate_left
  · intro w'; go_simp; with_reducible rfl
  rotate_left
  · (simp only [Act.put, List.setIfInBounds_toArray, List.set_cons_zero, List.set_cons_succ]; rfl)
  refine pure_ (i := 66) (N := some 110) (v := ?_) (a' := ?_) (dn 67) rfl rfl (any_of HT_.out (by kernel_rfl)) (fun _ _ _ h => h) (Or.inl ⟨(by first | rfl | (simp only [*]; rfl) | (simp [*]; done)), ?_⟩) ?_ ?_
  rotate_left
  · intro w'; go_simp; with_reducible rfl
  rotate_left
  · (simp only [Act.put, List.setIfInBounds_toArray, List.set_cons_zero, List.set_cons_succ]; rfl)
  refine pure_ (i := 67) (N := some 111) (v := ?_) (a' := ?_) (dn 68) rfl rfl (any_of HT_.out (by kernel_rfl)) (fun _ _ _ h => h) (Or.inl ⟨(by first | rfl | (simp only [*]; rfl) | (simp [*]; done)), ?_⟩) ?_ ?_
  rotate_left
  · intro w'; go_simp; with_reducible rfl
  rotate_left
  · (simp only [Act.put, List.setIfInBounds_toArray, List.set_cons_zero, List.set_cons_succ]; rfl)
  refine pure_ (i := 68) (N := some 112) (v := ?_) (a' := ?_) (dn 69) rfl rfl (any_of HT_.out (by kernel_rfl)) (fun _ _ _ h => h) (Or.inl ⟨(by first | rfl | (simp only [*]; rfl) | (simp [*]; done)), ?_⟩) ?_ ?_
  rotate_left
  · intro w'; go_simp; with_reducible rfl
  rotate_left
  · (simp only [Act.put, List.setIfInBounds_toArray, List.set_cons_zero, List.set_cons_succ]; rfl)
  refine pure_ (i := 69) (N := some 113) (v := ?_) (a' := ?_) (dn 70) rfl rfl (any_of HT_.out (by kernel_rfl)) (fun _ _ _ h => h) (Or.inl ⟨(by first | rfl | (simp only [*]; rfl) | (simp [*]; done)), ?_⟩) ?_ ?_
  rotate_left
  · intro w'; go_simp; with_reducible rfl
  rotate_left
  · (simp only [Act.put, List.setIfInBounds_toArray, List.set_cons_zero, List.set_cons_succ]; rfl)
  refine pure_ (i := 70) (N := some 114) (v := ?_) (a' := ?_) (dn 71) rfl rfl (any_of HT_.out (by kernel_rfl)) (fun _ _ _ h => h) (Or.inl ⟨(by first | rfl | (simp only [*]; rfl) | (simp [*]; done)), ?_⟩) ?_ ?_
  rotate_left
  · intro w'; go_simp; with_reducible rfl
  rotate_left
  · (simp only [Act.put, List.setIfInBounds_toArray, List.set_cons_zero, List.set_cons_succ]; rfl)
  refine pure_ (i := 71) (N := some 115) (v := ?_) (a' := ?_) (dn 72) rfl rfl (any_of HT_.out (by kernel_rfl)) (fun _ _ _ h => h) (Or.inl ⟨(by first | rfl | (simp only [*]; rfl) | (simp [*]; done)), ?_⟩) ?_ ?_
  rotate_left
  · intro w'; go_simp; with_reducible rfl
  rotate_left
  · (simp only [Act.put, List.setIfInBounds_toArray, List.set_cons_zero, List.set_cons_succ]; rfl)
  refine pure_ (i := 72) (N := some 116) (v := ?_) (a' := ?_) (dn 73) rfl rfl (any_of HT_.out (by kernel_rfl)) (fun _ _ _ h => h) (Or.inl ⟨(by first | rfl | (simp only [*]; rfl) | (simp [*]; done)), ?_⟩) ?_ ?_
  rotate_left
  · intro w'; go_simp; with_reducible rfl
  rotate_left
  · (simp only [Act.put, List.setIfInBounds_toArray, List.set_cons_zero, List.set_cons_succ]; rfl)
  refine pure_ (i := 73) (N := some 117) (v := ?_) (a' := ?_) (dn 74) rfl rfl (any_of HT_.out (by kernel_rfl)) (fun _ _ _ h => h) (Or.inl ⟨(by first | rfl | (simp only [*]; rfl) | (simp [*]; done)), ?_⟩) ?_ ?_
  rotate_left
  · intro w'; go_simp; with_reducible rfl
  rotate_left
  · (simp only [Act.put, List.setIfInBounds_toArray, List.set_cons_zero, List.set_cons_succ]; rfl)
  refine pure_ (i := 74) (N := some 118) (v := ?_) (a' := ?_) (dn 75) rfl rfl (any_of HT_.out (by kernel_rfl)) (fun _ _ _ h => h) (Or.inl ⟨(by first | rfl | (simp only [*]; rfl) | (simp [*]; done)), ?_⟩) ?_ ?_
  rotate_left
  · intro w'; go_simp; with_reducible rfl
  rotate_left
  · (simp only [Act.put, List.setIfInBounds_toArray, List.set_cons_zero, List.set_cons_succ]; rfl)
  refine take_ (i := 75) (N := some 119) (v := ?_) (a' := ?_) (dn 76) rfl rfl (take_ofW HT_.out HW_.out (by kernel_rfl)) (fun _ _ _ h => h) (Or.inl ⟨(by first | rfl | (simp only [*]; rfl) | (simp [*]; done)), ?_⟩) hHeld ?_ ?_
  rotate_left
  · rintro w' ⟨s0, s1, s2, s3, s4, s5, s6, s7, s8, s9, s10, s11, s12, s13, s14⟩; go_simp; with_reducible rfl
  rotate_left
  · (simp only [Act.put, List.setIfInBounds_toArray, List.set_cons_zero, List.set_cons_succ]; rfl)
  refine take_ (i := 76) (N := some 120) (v := ?_) (a' := ?_) (dn 77) rfl rfl (take_ofW HT_.out HW_.out (by kernel_rfl)) (fun _ _ _ h => h) (Or.inl ⟨(by first | rfl | (simp only [*]; rfl) | (simp [*]; done)), ?_⟩) hHeld ?_ ?_
  rotate_left
  · rintro w' ⟨s0, s1, s2, s3, s4, s5, s6, s7, s8, s9, s10, s11, s12, s13, s14⟩; go_simp; with_reducible rfl
  rotate_left
  · (simp only [Act.put, List.setIfInBounds_toArray, List.set_cons_zero, List.set_cons_succ]; rfl)
  refine one_ (i := 77) (N := some 121) (dn 78) rfl rfl (one_of HT_.out (by kernel_rfl)) (by decide) (fun K hK => ?_)
  refine goes_ Try.func13 (by kernel_rfl) rfl #[.agg #[.int .i64 5, .int .i64 64, .slice (some af) zs.length cf], .agg #[.int .i64 5, .int .i64 64, .slice Ah zs.length ch]] (by first | rfl | (simp only [*]; rfl) | (simp [*]; done)) rfl rfl (by simp [Act.eval]) ?_
  (with_reducible refine (laminaref15_Equal.calls 200 5 64 (some af) cf zs 5 64 Ah ch zs true y8 (Kd.C_below C2.out HX.out) hcf (Kd.C_below C7.out HX.out) hch D13.out).mono ?_)
  rintro e y9 ⟨rfl, hb⟩
  refine ⟨_, rfl, ?_⟩
  replace HX := Aside0.mk (below_step HX.out hb)
  refine hK.out _ _ (hHeld.below hb) (fun hHeld2 => ?_)
  clear hHeld hb
  have hHeld := hHeld2
  clear hHeld2 hK K
  refine norm_ (a' := ?_) ?_ ?_
  rotate_left
  · show Act.put _ (some 121) _ = _
    simp only [Act.put, List.setIfInBounds_toArray, List.set_cons_zero, List.set_cons_succ]
    rfl
  refine pure_ (i := 78) (N := some 122) (v := ?_) (a' := ?_) (dn 79) rfl rfl (any_of HT_.out (by kernel_rfl)) (fun _ _ _ h => h) (Or.inl ⟨(by first | rfl | (simp only [*]; rfl) | (simp [*]; done)), ?_⟩) ?_ ?_
  rotate_left
  · intro w'; go_simp; with_reducible rfl
  rotate_left
  · (simp only [Act.put, List.setIfInBounds_toArray, List.set_cons_zero, List.set_cons_succ]; rfl)
  refine pure_ (i := 79) (N := some 123) (v := ?_) (a' := ?_) (dn 80) rfl rfl (any_of HT_.out (by kernel_rfl)) (fun _ _ _ h => h) (Or.inl ⟨(by first | rfl | (simp only [*]; rfl) | (simp [*]; done)), ?_⟩) ?_ ?_
  rotate_left
  · intro w'; go_simp; with_reducible rfl
  rotate_left
  · (simp only [Act.put, List.setIfInBounds_toArray, List.set_cons_zero, List.set_cons_succ]; rfl)
  refine pure_ (i := 80) (N := some 124) (v := ?_) (a' := ?_) (dn 81) rfl rfl (any_of HT_.out (by kernel_rfl)) (fun _ _ _ h => h) (Or.inl ⟨(by first | rfl | (simp only [*]; rfl) | (simp [*]; done)), ?_⟩) ?_ ?_
  rotate_left
  · intro w'; go_simp; with_reducible rfl
  rotate_left
  · (simp only [Act.put, List.setIfInBounds_toArray, List.set_cons_zero, List.set_cons_succ]; rfl)
  refine pure_ (i := 81) (N := some 125) (v := ?_) (a' := ?_) (dn 82) rfl rfl (any_of HT_.out (by kernel_rfl)) (fun _ _ _ h => h) (Or.inl ⟨(by first | rfl | (simp only [*]; rfl) | (simp [*]; done)), ?_⟩) ?_ ?_
  rotate_left
  · intro w'; go_simp; with_reducible rfl
  rotate_left
  · (simp only [Act.put, List.setIfInBounds_toArray, List.set_cons_zero, List.set_cons_succ]; rfl)
  refine pure_ (i := 82) (N := some 126) (v := ?_) (a' := ?_) (dn 83) rfl rfl (any_of HT_.out (by kernel_rfl)) (fun _ _ _ h => h) (Or.inl ⟨(by first | rfl | (simp only [*]; rfl) | (simp [*]; done)), ?_⟩) ?_ ?_
  rotate_left
  · intro w'; go_simp; with_reducible rfl
  rotate_left
  · (simp only [Act.put, List.setIfInBounds_toArray, List.set_cons_zero, List.set_cons_succ]; rfl)
  refine pure_ (i := 83) (N := some 127) (v := ?_) (a' := ?_) (dn 84) rfl rfl (any_of HT_.out (by kernel_rfl)) (fun _ _ _ h => h) (Or.inl ⟨(by first | rfl | (simp only [*]; rfl) | (simp [*]; done)), ?_⟩) ?_ ?_
  rotate_left
  · intro w'; go_simp; with_reducible rfl
  rotate_left
  · (simp only [Act.put, List.setIfInBounds_toArray, List.set_cons_zero, List.set_cons_succ]; rfl)
  refine take_ (i := 84) (N := some 128) (v := ?_) (a' := ?_) (dn 85) rfl rfl (take_ofW HT_.out HW_.out (by kernel_rfl)) (fun _ _ _ h => h) (Or.inl ⟨(by first | rfl | (simp only [*]; rfl) | (simp [*]; done)), ?_⟩) hHeld ?_ ?_
  rotate_left
  · rintro w' ⟨s0, s1, s2, s3, s4, s5, s6, s7, s8, s9, s10, s11, s12, s13, s14⟩; go_simp; with_reducible rfl
  rotate_left
  · (simp only [Act.put, List.setIfInBounds_toArray, List.set_cons_zero, List.set_cons_succ]; rfl)
  refine take_ (i := 85) (N := some 129) (v := ?_) (a' := ?_) (dn 86) rfl rfl (take_ofW HT_.out HW_.out (by kernel_rfl)) (fun _ _ _ h => h) (Or.inl ⟨(by first | rfl | (simp only [*]; rfl) | (simp [*]; done)), ?_⟩) hHeld ?_ ?_
  rotate_left
  · rintro w' ⟨s0, s1, s2, s3, s4, s5, s6, s7, s8, s9, s10, s11, s12, s13, s14⟩; go_simp; with_reducible rfl
  rotate_left
  · (simp only [Act.put, List.setIfInBounds_toArray, List.set_cons_zero, List.set_cons_succ]; rfl)
  refine one_ (i := 86) (N := some 130) (dn 87) rfl rfl (one_of HT_.out (by kernel_rfl)) (by decide) (fun K hK => ?_)
  refine goes_ Try.func13 (by kernel_rfl) rfl #[.agg #[.int .i64 5, .int .i64 64, .slice Au ws.length cu], .agg #[.int .i64 5, .int .i64 64, .slice Ag ws.length cg]] (by first | rfl | (simp only [*]; rfl) | (simp [*]; done)) rfl rfl (by simp [Act.eval]) ?_
  (with_reducible refine (laminaref15_Equal.calls 200 5 64 Au cu ws 5 64 Ag cg ws true y9 (Kd.C_below C9.out HX.out) hcu (Kd.C_below C4.out HX.out) hcg D14.out).mono ?_)
  rintro e y10 ⟨rfl, hb⟩
  refine ⟨_, rfl, ?_⟩
  replace HX := Aside0.mk (below_step HX.out hb)
  refine hK.out _ _ (hHeld.below hb) (fun hHeld2 => ?_)
  clear hHeld hb
  have hHeld := hHeld2
  clear hHeld2 hK K
  refine norm_ (a' := ?_) ?_ ?_
  rotate_left
  · show Act.put _ (some 130) _ = _
    simp only [Act.put, List.setIfInBounds_toArray, List.set_cons_zero, List.set_cons_succ]
    rfl
  refine pure_ (i := 87) (N := some 131) (v := ?_) (a' := ?_) (dn 88) rfl rfl (any_of HT_.out (by kernel_rfl)) (fun _ _ _ h => h) (Or.inl ⟨(by first | rfl | (simp only [*]; rfl) | (simp [*]; done)), ?_⟩) ?_ ?_
  rotate_left
  · intro w'; go_simp; with_reducible rfl
  rotate_left
  · (simp only [Act.put, List.setIfInBounds_toArray, List.set_cons_zero, List.set_cons_succ]; rfl)
  refine pure_ (i := 88) (N := some 132) (v := ?_) (a' := ?_) (dn 89) rfl rfl (any_of HT_.out (by kernel_rfl)) (fun _ _ _ h => h) (Or.inl ⟨(by first | rfl | (simp only [*]; rfl) | (simp [*]; done)), ?_⟩) ?_ ?_
  rotate_left
  · intro w'; go_simp; with_reducible rfl
  rotate_left
  · (simp only [Act.put, List.setIfInBounds_toArray, List.set_cons_zero, List.set_cons_succ]; rfl)
  refine pure_ (i := 89) (N := some 133) (v := ?_) (a' := ?_) (dn 90) rfl rfl (any_of HT_.out (by kernel_rfl)) (fun _ _ _ h => h) (Or.inl ⟨(by first | rfl | (simp only [*]; rfl) | (simp [*]; done)), ?_⟩) ?_ ?_
  rotate_left
  · intro w'; go_simp; with_reducible rfl
  rotate_left
  · (simp only [Act.put, List.setIfInBounds_toArray, List.set_cons_zero, List.set_cons_succ]; rfl)
  refine pure_ (i := 90) (N := some 134) (v := ?_) (a' := ?_) (dn 91) rfl rfl (any_of HT_.out (by kernel_rfl)) (fun _ _ _ h => h) (Or.inl ⟨(by first | rfl | (simp only [*]; rfl) | (simp [*]; done)), ?_⟩) ?_ ?_
  rotate_left
  · intro w'; go_simp; with_reducible rfl
  rotate_left
  · (simp only [Act.put, List.setIfInBounds_toArray, List.set_cons_zero, List.set_cons_succ]; rfl)
  refine pure_ (i := 91) (N := some 135) (v := ?_) (a' := ?_) (dn 92) rfl rfl (any_of HT_.out (by kernel_rfl)) (fun _ _ _ h => h) (Or.inl ⟨(by first | rfl | (simp only [*]; rfl) | (simp [*]; done)), ?_⟩) ?_ ?_
  rotate_left
  · intro w'; go_simp; with_reducible rfl
  rotate_left
  · (simp only [Act.put, List.setIfInBounds_toArray, List.set_cons_zero, List.set_cons_succ]; rfl)
  refine pure_ (i := 92) (N := some 136) (v := ?_) (a' := ?_) (dn 93) rfl rfl (any_of HT_.out (by kernel_rfl)) (fun _ _ _ h => h) (Or.inl ⟨(by first | rfl | (simp only [*]; rfl) | (simp [*]; done)), ?_⟩) ?_ ?_
  rotate_left
  · intro w'; go_simp; with_reducible rfl
  rotate_left
  · (simp only [Act.put, List.setIfInBounds_toArray, List.set_cons_zero, List.set_cons_succ]; rfl)
  refine pure_ (i := 93) (N := some 137) (v := ?_) (a' := ?_) (dn 94) rfl rfl (any_of HT_.out (by kernel_rfl)) (fun _ _ _ h => h) (Or.inl ⟨(by first | rfl | (simp only [*]; rfl) | (simp [*]; done)), ?_⟩) ?_ ?_
  rotate_left
  · intro w'; go_simp; with_reducible rfl
  rotate_left
  · (simp only [Act.put, List.setIfInBounds_toArray, List.set_cons_zero, List.set_cons_succ]; rfl)
  refine pure_ (i := 94) (N := some 138) (v := ?_) (a' := ?_) (dn 95) rfl rfl (any_of HT_.out (by kernel_rfl)) (fun _ _ _ h => h) (Or.inl ⟨(by first | rfl | (simp only [*]; rfl) | (simp [*]; done)), ?_⟩) ?_ ?_
  rotate_left
  · intro w'; go_simp; with_reducible rfl
  rotate_left
  · (simp only [Act.put, List.setIfInBounds_toArray, List.set_cons_zero, List.set_cons_succ]; rfl)
  refine pure_ (i := 95) (N := some 139) (v := ?_) (a' := ?_) (dn 96) rfl rfl (any_of HT_.out (by kernel_rfl)) (fun _ _ _ h => h) (Or.inl ⟨(by first | rfl | (simp only [*]; rfl) | (simp [*]; done)), ?_⟩) ?_ ?_
  rotate_left
  · intro w'; go_simp; with_reducible rfl
  rotate_left
  · (simp only [Act.put, List.setIfInBounds_toArray, List.set_cons_zero, List.set_cons_succ]; rfl)
  refine pure_ (i := 96) (N := some 0) (v := ?_) (a' := ?_) (dn 97) rfl rfl (any_of HT_.out (by kernel_rfl)) (fun _ _ _ h => h) (Or.inl ⟨(by first | rfl | (simp only [*]; rfl) | (simp [*]; done)), ?_⟩) ?_ ?_
  rotate_left
  · intro w'; go_simp; with_reducible rfl
  rotate_left
  · (simp only [Act.put, List.setIfInBounds_toArray, List.set_cons_zero, List.set_cons_succ]; rfl)
  refine done_ (done_of HT_.out (by kernel_rfl)) ?_
  gi_wp2
  refine bodyPost_ret (results_tmp rfl _ _ _) rfl ?_
  exact ⟨rfl, HB2.out.trans (HX.out.mono HB2.out.size)⟩
end

end Go.Proofs.Ytjeheopcohnkeaa.QBloomContains
