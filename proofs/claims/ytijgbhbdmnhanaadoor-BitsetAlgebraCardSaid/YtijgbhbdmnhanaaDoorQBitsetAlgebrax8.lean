-- Written by a program of this session (wip/pr2.sh): the walk of the Go text, function by function.
import Derived.Test.YtijgbhbdmnhanaaDoorQBitsetAlgebrax0
import Derived.Test.YtijgbhbdmnhanaaDoorQBitsetAlgebrax1
import Derived.Test.YtijgbhbdmnhanaaDoorQBitsetAlgebrax2
import Derived.Test.YtijgbhbdmnhanaaDoorQBitsetAlgebrax3
import Derived.Test.YtijgbhbdmnhanaaDoorQBitsetAlgebrax4
import Derived.Test.YtijgbhbdmnhanaaDoorQBitsetAlgebrax6
import Derived.Test.YtijgbhbdmnhanaaDoorQBitsetAlgebrax7
namespace Go.Proofs.YtijgbhbdmnhanaaDoor.QBitsetAlgebra
open Go.RowKit Go.Proofs.YtijgbhbdmnhanaaDoorW.PrintWords Go.Proofs.YtijgbhbdmnhanaaDoorW.PrintLast Go.Proofs.YtijgbhbdmnhanaaDoorW.PrintMore
open Go.Proofs.YtijgbhbdmnhanaaDoorM
attribute [local go_sem] max2_int min2_int max_two min_two max_three min_three max_four min_four   -- for this text's walks alone
set_option linter.unusedVariables false
set_option linter.unusedSimpArgs false

/-! ### laminalaw03_BitsetAlgebra: function 11 -/
def laminalaw03_BitsetAlgebra.j0 : Nat → Bool → Int → List Int → Int → List Int → Option (Bool)
 | 0, _, _, _, _, _ => none
 | k + 1, x22, x247000, x247001, x248000, x248001 => if x22 = true then ((laminalaw03_lives.f).bind fun t250 => (some t250)) else ((bitset_And.f k x247000 x247001 x248000 x248001).bind fun bt251 => ((bitset_Not.f k bt251.1 bt251.2).bind fun bt255 => ((bitset_Not.f k x247000 x247001).bind fun bt260 => ((bitset_Not.f k x248000 x248001).bind fun bt264 => ((bitset_Or.f k bt260.1 bt260.2 bt264.1 bt264.2).bind fun bt268 => ((bitset_Not.f k x248000 x248001).bind fun bt273 => ((bitset_And.f k x247000 x247001 bt273.1 bt273.2).bind fun bt277 => ((laminaref03_Equal.f k bt255.1 bt255.2 bt268.1 bt268.2).bind fun t282 => (if t282 = true then ((bitset_AndNot.f k x247000 x247001 x248000 x248001).bind fun bt283 => ((laminaref03_Equal.f k bt277.1 bt277.2 bt283.1 bt283.2).bind fun t287 => (if t287 = true then ((bitset_Count.f k x247000 x247001).bind fun t288 => ((bitset_Count.f k x248000 x248001).bind fun t289 => ((bitset_And.f k x247000 x247001 x248000 x248001).bind fun bt290 => ((bitset_Count.f k bt290.1 bt290.2).bind fun t294 => ((bitset_Or.f k x247000 x247001 x248000 x248001).bind fun bt295 => ((bitset_Count.f k bt295.1 bt295.2).bind fun t299 => (if (wrap64 (t288 + t289)) = (wrap64 (t294 + t299)) then ((bitset_Not.f k x247000 x247001).bind fun bt300 => ((bitset_Not.f k bt300.1 bt300.2).bind fun bt304 => ((laminaref03_Equal.f k bt304.1 bt304.2 x247000 x247001).bind fun t308 => (if t308 = true then ((laminalaw03_lives.f).bind fun t309 => (some t309)) else (some false))))) else (some false)))))))) else (some false)))) else (some false))))))))))
def laminalaw03_BitsetAlgebra.f (k : Nat) (a0_0 : Int) (l0_1 : List Int) (a1_0 : Int) (l1_1 : List Int) : Option (Bool) := (laminalaw03_small.f a0_0 l0_1).bind fun t248 => (if t248 = true then ((laminalaw03_small.f a1_0 l1_1).bind fun t249 => (if t249 = true then (laminalaw03_BitsetAlgebra.j0 k (a0_0 != a1_0) a0_0 l0_1 a1_0 l1_1) else (laminalaw03_BitsetAlgebra.j0 k true a0_0 l0_1 a1_0 l1_1))) else (laminalaw03_BitsetAlgebra.j0 k true a0_0 l0_1 a1_0 l1_1))
theorem laminalaw03_BitsetAlgebra.mono_l : ∀ k, (∀ y0 y1 y2 y3 y4, LeO (laminalaw03_BitsetAlgebra.j0 k y0 y1 y2 y3 y4) (laminalaw03_BitsetAlgebra.j0 (k + 1) y0 y1 y2 y3 y4))
 | 0 => fun _ _ _ _ _ r h => by simp [laminalaw03_BitsetAlgebra.j0] at h
 | k + 1 => by
  have ih0 := laminalaw03_BitsetAlgebra.mono_l k
  ·intro y0 y1 y2 y3 y4
   unfold laminalaw03_BitsetAlgebra.j0
   repeat' first
   | (with_reducible exact ih0 _ _ _ _ _)
   | (with_reducible exact bitset_And.mono _ _ _ _ _)
   | (with_reducible exact bitset_AndNot.mono _ _ _ _ _)
   | (with_reducible exact bitset_Count.mono _ _ _)
   | (with_reducible exact bitset_Not.mono _ _ _)
   | (with_reducible exact bitset_Or.mono _ _ _ _ _)
   | (with_reducible exact laminaref03_Equal.mono _ _ _ _ _)
   | (with_reducible exact LeO.refl _)
   | (with_reducible exact LeO.none _)
   | (with_reducible refine LeO.ite ?_ ?_)
   | (with_reducible refine LeO.bind ?_ (fun _ => ?_))
   | exact ih0 _ _ _ _ _
   | exact bitset_And.mono _ _ _ _ _
   | exact bitset_AndNot.mono _ _ _ _ _
   | exact bitset_Count.mono _ _ _
   | exact bitset_Not.mono _ _ _
   | exact bitset_Or.mono _ _ _ _ _
   | exact laminaref03_Equal.mono _ _ _ _ _
   | exact LeO.none _
   | refine LeO.ite ?_ ?_
   | refine LeO.bind ?_ (fun _ => ?_)
theorem laminalaw03_BitsetAlgebra.mono : ∀ a0 a1 a2 a3 k, LeO (laminalaw03_BitsetAlgebra.f k a0 a1 a2 a3) (laminalaw03_BitsetAlgebra.f (k + 1) a0 a1 a2 a3) := by
 intro a0 a1 a2 a3 k
 have ih0 := laminalaw03_BitsetAlgebra.mono_l k
 unfold laminalaw03_BitsetAlgebra.f
 repeat' first
   | (with_reducible exact ih0 _ _ _ _ _)
   | (with_reducible exact bitset_And.mono _ _ _ _ _)
   | (with_reducible exact bitset_AndNot.mono _ _ _ _ _)
   | (with_reducible exact bitset_Count.mono _ _ _)
   | (with_reducible exact bitset_Not.mono _ _ _)
   | (with_reducible exact bitset_Or.mono _ _ _ _ _)
   | (with_reducible exact laminaref03_Equal.mono _ _ _ _ _)
   | (with_reducible exact LeO.refl _)
   | (with_reducible exact LeO.none _)
   | (with_reducible refine LeO.ite ?_ ?_)
   | (with_reducible refine LeO.bind ?_ (fun _ => ?_))
   | exact ih0 _ _ _ _ _
   | exact bitset_And.mono _ _ _ _ _
   | exact bitset_AndNot.mono _ _ _ _ _
   | exact bitset_Count.mono _ _ _
   | exact bitset_Not.mono _ _ _
   | exact bitset_Or.mono _ _ _ _ _
   | exact laminaref03_Equal.mono _ _ _ _ _
   | exact LeO.none _
   | refine LeO.ite ?_ ?_
   | refine LeO.bind ?_ (fun _ => ?_)
def laminalaw03_BitsetAlgebra.T6 : Bool × List (List Nat × List Nat) := (true, [([], []), ([], []), ([0, 1], [0, 1]), ([2, 2], [2]), ([3], [3]), ([3], [3]), ([3], [3]), ([5, 6, 3, 3], [3, 5, 6]), ([4, 7, 7, 3], [3, 4, 7]), ([3, 8], [3, 8]), ([9, 8], [9]), ([10], [10]), ([11, 10, 10], [10, 11]), ([10], [10]), ([13, 12, 10], [10, 13]), ([12, 14, 10], [10, 12, 14]), ([10], [10]), ([10], [10]), ([16, 17, 14, 10], [10, 16, 17]), ([18, 18, 10], [10, 18]), ([10], [10]), ([10], [10]), ([20, 21, 19, 10], [10, 20, 21]), ([22, 22, 10], [10, 22]), ([19, 23, 10], [10, 19, 23]), ([15, 24, 10], [10, 15, 24]), ([10, 25], [10, 25]), ([26, 23], [26]), ([27], [27]), ([28, 27, 27], [27, 28]), ([29, 29, 27], [27, 29]), ([27], [27]), ([30, 31, 30, 27], [27, 30, 31]), ([27, 32], [27, 32]), ([33, 32], [33]), ([34, 34], [34]), ([34, 35], [34, 35]), ([36, 35, 0, 1, 2, 3, 4, 5, 6, 7, 8, 9, 10, 11, 12, 13, 14, 15, 16, 17, 18, 19, 20, 21, 22, 23, 24, 25, 26, 27, 28, 29, 30, 31, 32, 33, 34, 35, 36], [36])])
def laminalaw03_BitsetAlgebra.B6 : List Nat := [0, 0, 3, 7, 15, 15, 15, 111, 255, 511, 1023, 2047, 4095, 2047, 16383, 32767, 2047, 2047, 229375, 491519, 2047, 2047, 4161535, 8355839, 16744447, 33554431, 67108863, 134217727, 268435455, 536870911, 1073741823, 268435455, 4294967295, 8589934591, 17179869183, 34359738367, 68719476735, 137438953471]
theorem laminalaw03_BitsetAlgebra.tab6 : rtab .any (opsOf Tryd.f11 6) = laminalaw03_BitsetAlgebra.T6 := by kernel_rfl
theorem laminalaw03_BitsetAlgebra.bits6 : waitsOk laminalaw03_BitsetAlgebra.T6.2 laminalaw03_BitsetAlgebra.B6 = true := by kernel_rfl
set_option maxHeartbeats 8000000 in
set_option maxRecDepth 100000 in
theorem laminalaw03_BitsetAlgebra.calls (k : Nat) (a0_0 : Int) (A0_1 : Option Addr) (c0_1 : Nat) (l0_1 : List Int) (a1_0 : Int) (A1_1 : Option Addr) (c1_1 : Nat) (l1_1 : List Int) (r : Bool) (w : World) (hr0_1 : Kd.C (Kd.int .u64) w A0_1 l0_1.length l0_1) (hc0_1 : l0_1.length ≤ c0_1) (hr1_1 : Kd.C (Kd.int .u64) w A1_1 l1_1.length l1_1) (hc1_1 : l1_1.length ≤ c1_1) (hT0 : TabAt w) (h : laminalaw03_BitsetAlgebra.f k a0_0 l0_1 a1_0 l1_1 = some r) (hr0 : r = true) :
  Calls Tryd.prog 11 #[.agg #[.int .i64 a0_0, .slice A0_1 l0_1.length c0_1], .agg #[.int .i64 a1_0, .slice A1_1 l1_1.length c1_1]] w fun e w' => e = .returned (.bool r) ∧ Below w.heap.size w w' := by
 have HT0_ := Aside0.mk hT0
 clear hT0
 have hr_ := Aside0.mk hr0
 clear hr0
 have hu25 := Tryd.underlying25
 have HR0_1 := Aside0.mk hr0_1
 have HC0_1 := Aside0.mk hc0_1
 clear hr0_1 hc0_1
 have HR1_1 := Aside0.mk hr1_1
 have HC1_1 := Aside0.mk hc1_1
 clear hr1_1 hc1_1
 have HB := Aside0.mk (Below.refl w.heap.size w)
 have H : ((laminalaw03_small.f a0_0 l0_1).bind fun t248 => (if t248 = true then ((laminalaw03_small.f a1_0 l1_1).bind fun t249 => (if t249 = true then (laminalaw03_BitsetAlgebra.j0 k (a0_0 != a1_0) a0_0 l0_1 a1_0 l1_1) else (laminalaw03_BitsetAlgebra.j0 k true a0_0 l0_1 a1_0 l1_1))) else (laminalaw03_BitsetAlgebra.j0 k true a0_0 l0_1 a1_0 l1_1))) = some r := h
 clear h
 have HC3 := Aside0.mk H
 clear H
 go_enter Tryd.func11, Tryd.ntmps11
 go_upto_region 1 with (first | ((with_reducible refine gate_dst (N := 2) rfl ?_); refine box_event ?hg (N := 2) ?hd (cs := #[.int .i64 a0_0, .slice A0_1 l0_1.length c0_1]) (t := 25) ?hr ?_; (case hd => rfl); (case hg => exact fs_); (case hr => first | (go_simp; done) | (go_simp; rfl)); intro gb246 hg w4 hbox hb; have n0_ := Aside0.mk (below_step (bb_ HB) hb); have n1_ := Aside0.mk (hbox); have n2_ := Aside0.mk ((by rw [hg]; exact (below_size (bb_ HB)) : w.heap.size ≤ gb246)); have n3_ := Aside0.mk ((by rw [hg]; exact (below_size (bb_ HB)) : w.heap.size ≤ gb246)); clear HB; have HB := n0_; have BK246 := n1_; have GW246 := n2_; have GE246 := n3_; clear n0_ n1_ n2_ n3_; clear hb hbox hg) | ((with_reducible refine gate_dst (N := 3) rfl ?_); refine box_event ?hg (N := 3) ?hd (cs := #[.int .i64 a1_0, .slice A1_1 l1_1.length c1_1]) (t := 25) ?hr ?_; (case hd => rfl); (case hg => exact fs_); (case hr => first | (go_simp; done) | (go_simp; rfl)); intro gb247 hg w5 hbox hb; have n0_ := Aside0.mk (blk_below (g := gb246) (o := .cells #[.int .i64 a0_0, .slice A0_1 l0_1.length c0_1] 25 (0, 0)) (bk_ BK246) hb); have n1_ := Aside0.mk (below_step (bg_ HB GE246) hb); have n2_ := Aside0.mk (hbox); have n3_ := Aside0.mk ((by rw [hg]; exact (below_size (bg_ HB GE246)) : w.heap.size ≤ gb247)); have n4_ := Aside0.mk ((by rw [hg]; exact (below_size (bg_ HB GE246)) : w.heap.size ≤ gb247)); have n5_ := Aside0.mk ((by rw [hg]; exact Nat.ne_of_lt (blk_lt (g := gb246) (o := .cells #[.int .i64 a0_0, .slice A0_1 l0_1.length c0_1] 25 (0, 0)) (bk_ BK246)) : gb246 ≠ gb247)); have n6_ := Aside0.mk ((by rw [hg]; exact Nat.ne_of_gt (blk_lt (g := gb246) (o := .cells #[.int .i64 a0_0, .slice A0_1 l0_1.length c0_1] 25 (0, 0)) (bk_ BK246)) : gb247 ≠ gb246)); clear BK246; clear HB; have BK246 := n0_; have HB := n1_; have BK247 := n2_; have GW247 := n3_; have GE247 := n4_; have NB246_247 := n5_; have NB247_246 := n6_; clear n0_ n1_ n2_ n3_ n4_ n5_ n6_; clear hb hbox hg))
 (try simp only [Act.put, List.setIfInBounds_toArray, List.set_cons_zero, List.set_cons_succ])
 go_cut [22] (fun v22 wc => ∃ (kq : Nat) (x22_2 : Bool), v22 = .bool x22_2 ∧ Aside0 (laminalaw03_BitsetAlgebra.j0 kq x22_2 a0_0 l0_1 a1_0 l1_1 = some r) ∧ Aside0 (kq ≤ k) ∧ Aside0 (wc.heap[gb246]? = some (.cells #[.int .i64 a0_0, (.slice A0_1 l0_1.length c0_1)] 25 (0, 0))) ∧ Aside0 (wc.heap[gb247]? = some (.cells #[.int .i64 a1_0, (.slice A1_1 l1_1.length c1_1)] 25 (0, 0))) ∧ Aside0 (Below w.heap.size w wc))
 case first =>
  have H := HC3.out
  clear HC3
  replace H := Option.bind_eq_some_iff.mp H
  obtain ⟨t248, A60, H⟩ := H
  try dsimp only at H
  have A6 := Aside0.mk A60
  clear A60
  by_cases c7 : t248 = true
  ·subst c7
   have H1 : ((laminalaw03_small.f a1_0 l1_1).bind fun t249 => (if t249 = true then (laminalaw03_BitsetAlgebra.j0 k (a0_0 != a1_0) a0_0 l0_1 a1_0 l1_1) else (laminalaw03_BitsetAlgebra.j0 k true a0_0 l0_1 a1_0 l1_1))) = some r := by rw [if_pos rfl] at H; exact H
   clear H
   have H := H1
   clear H1
   replace H := Option.bind_eq_some_iff.mp H
   obtain ⟨t249, A80, H⟩ := H
   try dsimp only at H
   have A8 := Aside0.mk A80
   clear A80
   by_cases c9 : t249 = true
   ·subst c9
    have H1 : (laminalaw03_BitsetAlgebra.j0 k (a0_0 != a1_0) a0_0 l0_1 a1_0 l1_1) = some r := by rw [if_pos rfl] at H; exact H
    clear H
    have H := H1
    clear H1
    have H' := Aside0.mk H
    clear H
    have hnb10 := NB246_247.out
    have hnc10 := NB247_246.out
    have hcz11_0 : w5.cell? ⟨gb246, 0, none⟩ = some (.int .i64 a0_0) := (blk_cell BK246.out 0).trans rfl
    have hcz11_1 : w5.cell? ⟨gb246, 1, none⟩ = some (.slice A0_1 l0_1.length c0_1) := (blk_cell BK246.out 1).trans rfl
    have hfz11_0 := blk_frozen BK246.out 0
    have hfz11_1 := blk_frozen BK246.out 1
    go_wp2_with (first | ((with_reducible refine gate_callee (f := 31) rfl ?_); refine goesL_ (some 9) rfl rfl Tryd.func31 (by kernel_rfl) rfl #[.agg #[.int .i64 a0_0, .slice A0_1 l0_1.length c0_1]] rfl ma_ ?_; (with_reducible refine (laminalaw03_small.calls a0_0 _ _ l0_1 true _ ?side1 ?side2 A6.out).mono ?_); (case side1 => exact ca_ (Kd.C_below HR0_1.out HB.out)); (case side2 => exact HC0_1.out); rintro e w12 ⟨rfl, hb⟩; refine ⟨_, rfl, ?_⟩; have n0_ := Aside0.mk (blk_below (g := gb246) (o := .cells #[.int .i64 a0_0, .slice A0_1 l0_1.length c0_1] 25 (0, 0)) (bk_ BK246) hb); have n1_ := Aside0.mk (blk_below (g := gb247) (o := .cells #[.int .i64 a1_0, .slice A1_1 l1_1.length c1_1] 25 (0, 0)) (bk_ BK247) hb); have n2_ := Aside0.mk (below_step (bh_ HB GE246 GE247) hb); clear BK246; clear BK247; clear HB; have BK246 := n0_; have BK247 := n1_; have HB := n2_; clear n0_ n1_ n2_; (try clear hb); (try clear hb2); (try clear hk); (try clear hi); have hcz13_0 : w12.cell? ⟨gb247, 0, none⟩ = some (.int .i64 a1_0) := (blk_cell BK247.out 0).trans rfl; have hcz13_1 : w12.cell? ⟨gb247, 1, none⟩ = some (.slice A1_1 l1_1.length c1_1) := (blk_cell BK247.out 1).trans rfl; have hfz13_0 := blk_frozen BK247.out 0; have hfz13_1 := blk_frozen BK247.out 1) | (go_at_call 31; (with_reducible refine (laminalaw03_small.calls a1_0 _ _ l1_1 true _ ?side1 ?side2 A8.out).mono ?_); (case side1 => exact ca_ (Kd.C_below HR1_1.out HB.out)); (case side2 => exact HC1_1.out); rintro e w14 ⟨rfl, hb⟩; have n0_ := Aside0.mk (blk_below (g := gb246) (o := .cells #[.int .i64 a0_0, .slice A0_1 l0_1.length c0_1] 25 (0, 0)) (bk_ BK246) hb); have n1_ := Aside0.mk (blk_below (g := gb247) (o := .cells #[.int .i64 a1_0, .slice A1_1 l1_1.length c1_1] 25 (0, 0)) (bk_ BK247) hb); have n2_ := Aside0.mk (below_step (bh_ HB GE246 GE247) hb); clear BK246; clear BK247; clear HB; have BK246 := n0_; have BK247 := n1_; have HB := n2_; clear n0_ n1_ n2_; (try clear hb); (try clear hb2); (try clear hk); (try clear hi); have hcz15_0 : w14.cell? ⟨gb246, 0, none⟩ = some (.int .i64 a0_0) := (blk_cell BK246.out 0).trans rfl; have hcz15_1 : w14.cell? ⟨gb246, 1, none⟩ = some (.slice A0_1 l0_1.length c0_1) := (blk_cell BK246.out 1).trans rfl; have hfz15_0 := blk_frozen BK246.out 0; have hfz15_1 := blk_frozen BK246.out 1; have hcz16_0 : w14.cell? ⟨gb247, 0, none⟩ = some (.int .i64 a1_0) := (blk_cell BK247.out 0).trans rfl; have hcz16_1 : w14.cell? ⟨gb247, 1, none⟩ = some (.slice A1_1 l1_1.length c1_1) := (blk_cell BK247.out 1).trans rfl; have hfz16_0 := blk_frozen BK247.out 0; have hfz16_1 := blk_frozen BK247.out 1))
    go_meet
    case rel => exact ⟨_, ((a0_0 != a1_0)), fr_, H', ⟨by first | omega | exact Nat.le_refl _⟩, ⟨by (with_reducible repeat (first | refine blk_drewN ?_ _ | refine blk_drew ?_ | refine blk_alloc ?_ _)); exact BK246.out⟩, ⟨by (with_reducible repeat (first | refine blk_drewN ?_ _ | refine blk_drew ?_ | refine blk_alloc ?_ _)); exact BK247.out⟩, ⟨by repeat (first | (with_reducible first | exact HB.out | apply below_alloc | apply pw_below_drewN | apply below_drew1 | refine below_set ?_ GE246.out | refine below_set ?_ GE247.out) | exact HB.out)⟩⟩
   ·replace c9 := Bool.eq_false_iff.mpr c9
    subst c9
    have H1 : (laminalaw03_BitsetAlgebra.j0 k true a0_0 l0_1 a1_0 l1_1) = some r := by rw [if_neg (show ¬ (false = true) by decide)] at H; exact H
    clear H
    have H := H1
    clear H1
    have H' := Aside0.mk H
    clear H
    have hnb17 := NB246_247.out
    have hnc17 := NB247_246.out
    have hcz18_0 : w5.cell? ⟨gb246, 0, none⟩ = some (.int .i64 a0_0) := (blk_cell BK246.out 0).trans rfl
    have hcz18_1 : w5.cell? ⟨gb246, 1, none⟩ = some (.slice A0_1 l0_1.length c0_1) := (blk_cell BK246.out 1).trans rfl
    have hfz18_0 := blk_frozen BK246.out 0
    have hfz18_1 := blk_frozen BK246.out 1
    go_wp2_with (first | ((with_reducible refine gate_callee (f := 31) rfl ?_); refine goesL_ (some 9) rfl rfl Tryd.func31 (by kernel_rfl) rfl #[.agg #[.int .i64 a0_0, .slice A0_1 l0_1.length c0_1]] rfl ma_ ?_; (with_reducible refine (laminalaw03_small.calls a0_0 _ _ l0_1 true _ ?side1 ?side2 A6.out).mono ?_); (case side1 => exact ca_ (Kd.C_below HR0_1.out HB.out)); (case side2 => exact HC0_1.out); rintro e w19 ⟨rfl, hb⟩; refine ⟨_, rfl, ?_⟩; have n0_ := Aside0.mk (blk_below (g := gb246) (o := .cells #[.int .i64 a0_0, .slice A0_1 l0_1.length c0_1] 25 (0, 0)) (bk_ BK246) hb); have n1_ := Aside0.mk (blk_below (g := gb247) (o := .cells #[.int .i64 a1_0, .slice A1_1 l1_1.length c1_1] 25 (0, 0)) (bk_ BK247) hb); have n2_ := Aside0.mk (below_step (bh_ HB GE246 GE247) hb); clear BK246; clear BK247; clear HB; have BK246 := n0_; have BK247 := n1_; have HB := n2_; clear n0_ n1_ n2_; (try clear hb); (try clear hb2); (try clear hk); (try clear hi); have hcz20_0 : w19.cell? ⟨gb247, 0, none⟩ = some (.int .i64 a1_0) := (blk_cell BK247.out 0).trans rfl; have hcz20_1 : w19.cell? ⟨gb247, 1, none⟩ = some (.slice A1_1 l1_1.length c1_1) := (blk_cell BK247.out 1).trans rfl; have hfz20_0 := blk_frozen BK247.out 0; have hfz20_1 := blk_frozen BK247.out 1) | (go_at_call 31; (with_reducible refine (laminalaw03_small.calls a1_0 _ _ l1_1 false _ ?side1 ?side2 A8.out).mono ?_); (case side1 => exact ca_ (Kd.C_below HR1_1.out HB.out)); (case side2 => exact HC1_1.out); rintro e w21 ⟨rfl, hb⟩; have n0_ := Aside0.mk (blk_below (g := gb246) (o := .cells #[.int .i64 a0_0, .slice A0_1 l0_1.length c0_1] 25 (0, 0)) (bk_ BK246) hb); have n1_ := Aside0.mk (blk_below (g := gb247) (o := .cells #[.int .i64 a1_0, .slice A1_1 l1_1.length c1_1] 25 (0, 0)) (bk_ BK247) hb); have n2_ := Aside0.mk (below_step (bh_ HB GE246 GE247) hb); clear BK246; clear BK247; clear HB; have BK246 := n0_; have BK247 := n1_; have HB := n2_; clear n0_ n1_ n2_; (try clear hb); (try clear hb2); (try clear hk); (try clear hi)))
    go_meet
    case rel => exact ⟨_, (true), fr_, H', ⟨by first | omega | exact Nat.le_refl _⟩, ⟨by (with_reducible repeat (first | refine blk_drewN ?_ _ | refine blk_drew ?_ | refine blk_alloc ?_ _)); exact BK246.out⟩, ⟨by (with_reducible repeat (first | refine blk_drewN ?_ _ | refine blk_drew ?_ | refine blk_alloc ?_ _)); exact BK247.out⟩, ⟨by repeat (first | (with_reducible first | exact HB.out | apply below_alloc | apply pw_below_drewN | apply below_drew1 | refine below_set ?_ GE246.out | refine below_set ?_ GE247.out) | exact HB.out)⟩⟩
  ·replace c7 := Bool.eq_false_iff.mpr c7
   subst c7
   have H1 : (laminalaw03_BitsetAlgebra.j0 k true a0_0 l0_1 a1_0 l1_1) = some r := by rw [if_neg (show ¬ (false = true) by decide)] at H; exact H
   clear H
   have H := H1
   clear H1
   have H' := Aside0.mk H
   clear H
   have hnb22 := NB246_247.out
   have hnc22 := NB247_246.out
   have hcz23_0 : w5.cell? ⟨gb246, 0, none⟩ = some (.int .i64 a0_0) := (blk_cell BK246.out 0).trans rfl
   have hcz23_1 : w5.cell? ⟨gb246, 1, none⟩ = some (.slice A0_1 l0_1.length c0_1) := (blk_cell BK246.out 1).trans rfl
   have hfz23_0 := blk_frozen BK246.out 0
   have hfz23_1 := blk_frozen BK246.out 1
   go_wp2_with (first | ((with_reducible refine gate_callee (f := 31) rfl ?_); refine goesL_ (some 9) rfl rfl Tryd.func31 (by kernel_rfl) rfl #[.agg #[.int .i64 a0_0, .slice A0_1 l0_1.length c0_1]] rfl ma_ ?_; (with_reducible refine (laminalaw03_small.calls a0_0 _ _ l0_1 false _ ?side1 ?side2 A6.out).mono ?_); (case side1 => exact ca_ (Kd.C_below HR0_1.out HB.out)); (case side2 => exact HC0_1.out); rintro e w24 ⟨rfl, hb⟩; refine ⟨_, rfl, ?_⟩; have n0_ := Aside0.mk (blk_below (g := gb246) (o := .cells #[.int .i64 a0_0, .slice A0_1 l0_1.length c0_1] 25 (0, 0)) (bk_ BK246) hb); have n1_ := Aside0.mk (blk_below (g := gb247) (o := .cells #[.int .i64 a1_0, .slice A1_1 l1_1.length c1_1] 25 (0, 0)) (bk_ BK247) hb); have n2_ := Aside0.mk (below_step (bh_ HB GE246 GE247) hb); clear BK246; clear BK247; clear HB; have BK246 := n0_; have BK247 := n1_; have HB := n2_; clear n0_ n1_ n2_; (try clear hb); (try clear hb2); (try clear hk); (try clear hi)))
   go_meet
   case rel => exact ⟨_, (true), fr_, H', ⟨by first | omega | exact Nat.le_refl _⟩, ⟨by (with_reducible repeat (first | refine blk_drewN ?_ _ | refine blk_drew ?_ | refine blk_alloc ?_ _)); exact BK246.out⟩, ⟨by (with_reducible repeat (first | refine blk_drewN ?_ _ | refine blk_drew ?_ | refine blk_alloc ?_ _)); exact BK247.out⟩, ⟨by repeat (first | (with_reducible first | exact HB.out | apply below_alloc | apply pw_below_drewN | apply below_drew1 | refine below_set ?_ GE246.out | refine below_set ?_ GE247.out) | exact HB.out)⟩⟩
 case rest =>
  clear HC3
  try clear c1
  try clear c2
  try clear p2
  try clear c3
  try clear c7
  try clear c9
  try clear c10
  try clear c11
  try clear c17
  try clear c22
  try clear hcz11_0
  try clear hcz11_1
  try clear hcz13_0
  try clear hcz13_1
  try clear hcz15_0
  try clear hcz15_1
  try clear hcz16_0
  try clear hcz16_1
  try clear hcz18_0
  try clear hcz18_1
  try clear hcz20_0
  try clear hcz20_1
  try clear hcz23_0
  try clear hcz23_1
  try clear hfz11_0
  try clear hfz11_1
  try clear hfz13_0
  try clear hfz13_1
  try clear hfz15_0
  try clear hfz15_1
  try clear hfz16_0
  try clear hfz16_1
  try clear hfz18_0
  try clear hfz18_1
  try clear hfz20_0
  try clear hfz20_1
  try clear hfz23_0
  try clear hfz23_1
  obtain ⟨kq, x22_2, rfl, HA, HJ2, BK246, BK247, HB⟩ := hcut
  cases kq with
  | zero => exact absurd HA.out (by simp [laminalaw03_BitsetAlgebra.j0])
  | succ kj2 =>
   have H := HA.out
   clear HA
   simp only [laminalaw03_BitsetAlgebra.j0] at H
   by_cases c25 : x22_2 = true
   ·subst c25
    have H1 : ((laminalaw03_lives.f).bind fun t250 => (some t250)) = some r := by rw [if_pos rfl] at H; exact H
    clear H
    have H := H1
    clear H1
    replace H := Option.bind_eq_some_iff.mp H
    obtain ⟨t250, A260, H⟩ := H
    try dsimp only at H
    have A26 := Aside0.mk A260
    clear A260
    obtain rfl := Option.some.inj H
    go_wp2_with (first | ((with_reducible refine gate_callee (f := 30) rfl ?_); refine goesL_ (some 23) rfl rfl Tryd.func30 (by kernel_rfl) rfl #[] rfl ma_ ?_; (with_reducible refine (laminalaw03_lives.calls  t250 _ ?sideT A26.out).mono ?_); (case sideT => exact TabAt.below HT0_.out (by repeat (first | (with_reducible first | exact HB.out | apply below_alloc | apply pw_below_drewN | apply below_drew1 | refine below_set ?_ GE246.out | refine below_set ?_ GE247.out | refine below_set ?_ GE259.out | refine below_set ?_ GE272.out | refine below_set ?_ GE281.out) | exact HB.out)) (TabAt.pos HT0_.out)); rintro e w27 ⟨rfl, hb⟩; refine ⟨_, rfl, ?_⟩; have n0_ := Aside0.mk (blk_below (g := gb246) (o := .cells #[.int .i64 a0_0, .slice A0_1 l0_1.length c0_1] 25 (0, 0)) (bk_ BK246) hb); have n1_ := Aside0.mk (blk_below (g := gb247) (o := .cells #[.int .i64 a1_0, .slice A1_1 l1_1.length c1_1] 25 (0, 0)) (bk_ BK247) hb); have n2_ := Aside0.mk (below_step (bh_ HB GE246 GE247) hb); clear BK246; clear BK247; clear HB; have BK246 := n0_; have BK247 := n1_; have HB := n2_; clear n0_ n1_ n2_; (try clear hb); (try clear hb2); (try clear hk); (try clear hi)))
    go_ret
    exact ⟨er_, by repeat (first | (with_reducible first | exact HB.out | apply below_alloc | apply pw_below_drewN | apply below_drew1 | refine below_set ?_ GE246.out | refine below_set ?_ GE247.out) | exact HB.out)⟩
   ·replace c25 := Bool.eq_false_iff.mpr c25
    subst c25
    have H1 : ((bitset_And.f kj2 a0_0 l0_1 a1_0 l1_1).bind fun bt251 => ((bitset_Not.f kj2 bt251.1 bt251.2).bind fun bt255 => ((bitset_Not.f kj2 a0_0 l0_1).bind fun bt260 => ((bitset_Not.f kj2 a1_0 l1_1).bind fun bt264 => ((bitset_Or.f kj2 bt260.1 bt260.2 bt264.1 bt264.2).bind fun bt268 => ((bitset_Not.f kj2 a1_0 l1_1).bind fun bt273 => ((bitset_And.f kj2 a0_0 l0_1 bt273.1 bt273.2).bind fun bt277 => ((laminaref03_Equal.f kj2 bt255.1 bt255.2 bt268.1 bt268.2).bind fun t282 => (if t282 = true then ((bitset_AndNot.f kj2 a0_0 l0_1 a1_0 l1_1).bind fun bt283 => ((laminaref03_Equal.f kj2 bt277.1 bt277.2 bt283.1 bt283.2).bind fun t287 => (if t287 = true then ((bitset_Count.f kj2 a0_0 l0_1).bind fun t288 => ((bitset_Count.f kj2 a1_0 l1_1).bind fun t289 => ((bitset_And.f kj2 a0_0 l0_1 a1_0 l1_1).bind fun bt290 => ((bitset_Count.f kj2 bt290.1 bt290.2).bind fun t294 => ((bitset_Or.f kj2 a0_0 l0_1 a1_0 l1_1).bind fun bt295 => ((bitset_Count.f kj2 bt295.1 bt295.2).bind fun t299 => (if (wrap64 (t288 + t289)) = (wrap64 (t294 + t299)) then ((bitset_Not.f kj2 a0_0 l0_1).bind fun bt300 => ((bitset_Not.f kj2 bt300.1 bt300.2).bind fun bt304 => ((laminaref03_Equal.f kj2 bt304.1 bt304.2 a0_0 l0_1).bind fun t308 => (if t308 = true then ((laminalaw03_lives.f).bind fun t309 => (some t309)) else (some false))))) else (some false)))))))) else (some false)))) else (some false)))))))))) = some r := by rw [if_neg (show ¬ (false = true) by decide)] at H; exact H
    clear H
    have H := H1
    clear H1
    replace H := Option.bind_eq_some_iff.mp H
    obtain ⟨⟨t251, t252⟩, A280, H⟩ := H
    try dsimp only at H
    have A28 := Aside0.mk A280
    clear A280
    replace H := Option.bind_eq_some_iff.mp H
    obtain ⟨⟨t255, t256⟩, A290, H⟩ := H
    try dsimp only at H
    have A29 := Aside0.mk A290
    clear A290
    replace H := Option.bind_eq_some_iff.mp H
    obtain ⟨⟨t260, t261⟩, A300, H⟩ := H
    try dsimp only at H
    have A30 := Aside0.mk A300
    clear A300
    replace H := Option.bind_eq_some_iff.mp H
    obtain ⟨⟨t264, t265⟩, A310, H⟩ := H
    try dsimp only at H
    have A31 := Aside0.mk A310
    clear A310
    replace H := Option.bind_eq_some_iff.mp H
    obtain ⟨⟨t268, t269⟩, A320, H⟩ := H
    try dsimp only at H
    have A32 := Aside0.mk A320
    clear A320
    replace H := Option.bind_eq_some_iff.mp H
    obtain ⟨⟨t273, t274⟩, A330, H⟩ := H
    try dsimp only at H
    have A33 := Aside0.mk A330
    clear A330
    replace H := Option.bind_eq_some_iff.mp H
    obtain ⟨⟨t277, t278⟩, A340, H⟩ := H
    try dsimp only at H
    have A34 := Aside0.mk A340
    clear A340
    replace H := Option.bind_eq_some_iff.mp H
    obtain ⟨t282, A350, H⟩ := H
    try dsimp only at H
    have A35 := Aside0.mk A350
    clear A350
    by_cases c36 : t282 = true
    ·subst c36
     have H1 : ((bitset_AndNot.f kj2 a0_0 l0_1 a1_0 l1_1).bind fun bt283 => ((laminaref03_Equal.f kj2 t277 t278 bt283.1 bt283.2).bind fun t287 => (if t287 = true then ((bitset_Count.f kj2 a0_0 l0_1).bind fun t288 => ((bitset_Count.f kj2 a1_0 l1_1).bind fun t289 => ((bitset_And.f kj2 a0_0 l0_1 a1_0 l1_1).bind fun bt290 => ((bitset_Count.f kj2 bt290.1 bt290.2).bind fun t294 => ((bitset_Or.f kj2 a0_0 l0_1 a1_0 l1_1).bind fun bt295 => ((bitset_Count.f kj2 bt295.1 bt295.2).bind fun t299 => (if (wrap64 (t288 + t289)) = (wrap64 (t294 + t299)) then ((bitset_Not.f kj2 a0_0 l0_1).bind fun bt300 => ((bitset_Not.f kj2 bt300.1 bt300.2).bind fun bt304 => ((laminaref03_Equal.f kj2 bt304.1 bt304.2 a0_0 l0_1).bind fun t308 => (if t308 = true then ((laminalaw03_lives.f).bind fun t309 => (some t309)) else (some false))))) else (some false)))))))) else (some false)))) = some r := by rw [if_pos rfl] at H; exact H
     clear H
     have H := H1
     clear H1
     replace H := Option.bind_eq_some_iff.mp H
     obtain ⟨⟨t283, t284⟩, A370, H⟩ := H
     try dsimp only at H
     have A37 := Aside0.mk A370
     clear A370
     replace H := Option.bind_eq_some_iff.mp H
     obtain ⟨t287, A380, H⟩ := H
     try dsimp only at H
     have A38 := Aside0.mk A380
     clear A380
     by_cases c39 : t287 = true
     ·subst c39
      have H1 : ((bitset_Count.f kj2 a0_0 l0_1).bind fun t288 => ((bitset_Count.f kj2 a1_0 l1_1).bind fun t289 => ((bitset_And.f kj2 a0_0 l0_1 a1_0 l1_1).bind fun bt290 => ((bitset_Count.f kj2 bt290.1 bt290.2).bind fun t294 => ((bitset_Or.f kj2 a0_0 l0_1 a1_0 l1_1).bind fun bt295 => ((bitset_Count.f kj2 bt295.1 bt295.2).bind fun t299 => (if (wrap64 (t288 + t289)) = (wrap64 (t294 + t299)) then ((bitset_Not.f kj2 a0_0 l0_1).bind fun bt300 => ((bitset_Not.f kj2 bt300.1 bt300.2).bind fun bt304 => ((laminaref03_Equal.f kj2 bt304.1 bt304.2 a0_0 l0_1).bind fun t308 => (if t308 = true then ((laminalaw03_lives.f).bind fun t309 => (some t309)) else (some false))))) else (some false)))))))) = some r := by rw [if_pos rfl] at H; exact H
      clear H
      have H := H1
      clear H1
      replace H := Option.bind_eq_some_iff.mp H
      obtain ⟨t288, A400, H⟩ := H
      try dsimp only at H
      have A40 := Aside0.mk A400
      clear A400
      replace H := Option.bind_eq_some_iff.mp H
      obtain ⟨t289, A410, H⟩ := H
      try dsimp only at H
      have A41 := Aside0.mk A410
      clear A410
      replace H := Option.bind_eq_some_iff.mp H
      obtain ⟨⟨t290, t291⟩, A420, H⟩ := H
      try dsimp only at H
      have A42 := Aside0.mk A420
      clear A420
      replace H := Option.bind_eq_some_iff.mp H
      obtain ⟨t294, A430, H⟩ := H
      try dsimp only at H
      have A43 := Aside0.mk A430
      clear A430
      replace H := Option.bind_eq_some_iff.mp H
      obtain ⟨⟨t295, t296⟩, A440, H⟩ := H
      try dsimp only at H
      have A44 := Aside0.mk A440
      clear A440
      replace H := Option.bind_eq_some_iff.mp H
      obtain ⟨t299, A450, H⟩ := H
      try dsimp only at H
      have A45 := Aside0.mk A450
      clear A450
      by_cases c46 : (wrap64 (t288 + t289)) = (wrap64 (t294 + t299))
      ·rw [if_pos c46] at H
       have c46b0 : ((wrap64 (t288 + t289)) == (wrap64 (t294 + t299))) = true := beq_iff_eq.mpr c46
       have c46b1 : ((wrap64 (t288 + t289)) != (wrap64 (t294 + t299))) = false := bne_eq_false_iff_eq.mpr c46
       clear c46
       replace H := Option.bind_eq_some_iff.mp H
       obtain ⟨⟨t300, t301⟩, A470, H⟩ := H
       try dsimp only at H
       have A47 := Aside0.mk A470
       clear A470
       replace H := Option.bind_eq_some_iff.mp H
       obtain ⟨⟨t304, t305⟩, A480, H⟩ := H
       try dsimp only at H
       have A48 := Aside0.mk A480
       clear A480
       replace H := Option.bind_eq_some_iff.mp H
       obtain ⟨t308, A490, H⟩ := H
       try dsimp only at H
       have A49 := Aside0.mk A490
       clear A490
       by_cases c50 : t308 = true
       ·subst c50
        have H1 : ((laminalaw03_lives.f).bind fun t309 => (some t309)) = some r := by rw [if_pos rfl] at H; exact H
        clear H
        have H := H1
        clear H1
        replace H := Option.bind_eq_some_iff.mp H
        obtain ⟨t309, A510, H⟩ := H
        try dsimp only at H
        have A51 := Aside0.mk A510
        clear A510
        obtain rfl := Option.some.inj H
        have hnb52 := NB246_247.out
        have hnc52 := NB247_246.out
        have hcz53_0 : wc.cell? ⟨gb246, 0, none⟩ = some (.int .i64 a0_0) := (blk_cell BK246.out 0).trans rfl
        have hcz53_1 : wc.cell? ⟨gb246, 1, none⟩ = some (.slice A0_1 l0_1.length c0_1) := (blk_cell BK246.out 1).trans rfl
        have hfz53_0 := blk_frozen BK246.out 0
        have hfz53_1 := blk_frozen BK246.out 1
        have hcz54_0 : wc.cell? ⟨gb247, 0, none⟩ = some (.int .i64 a1_0) := (blk_cell BK247.out 0).trans rfl
        have hcz54_1 : wc.cell? ⟨gb247, 1, none⟩ = some (.slice A1_1 l1_1.length c1_1) := (blk_cell BK247.out 1).trans rfl
        have hfz54_0 := blk_frozen BK247.out 0
        have hfz54_1 := blk_frozen BK247.out 1
        try go_wp2_with (first | ((with_reducible refine gate_callee (f := 21) rfl ?_); refine goesL_ (some 26) rfl rfl Tryd.func21 (by kernel_rfl) rfl #[.agg #[.int .i64 a0_0, .slice A0_1 l0_1.length c0_1], .agg #[.int .i64 a1_0, .slice A1_1 l1_1.length c1_1]] rfl ma_ ?_; (with_reducible refine (bitset_And.calls kj2 a0_0 _ _ l0_1 a1_0 _ _ l1_1 t251 t252 _ ?side1 ?side2 ?side3 ?side4 A28.out).mono ?_); (case side1 => exact ca_ (Kd.C_below HR0_1.out HB.out)); (case side2 => exact HC0_1.out); (case side3 => exact ca_ (Kd.C_below HR1_1.out HB.out)); (case side4 => exact HC1_1.out); rintro e w55 ⟨v253, rfl, ho0, hb⟩; refine ⟨_, rfl, ?_⟩; have n0_ := Aside0.mk (Kd.R_lower ho0 (below_size (bh_ HB GE246 GE247))); have n1_ := Aside0.mk (blk_below (g := gb246) (o := .cells #[.int .i64 a0_0, .slice A0_1 l0_1.length c0_1] 25 (0, 0)) (bk_ BK246) hb); have n2_ := Aside0.mk (blk_below (g := gb247) (o := .cells #[.int .i64 a1_0, .slice A1_1 l1_1.length c1_1] 25 (0, 0)) (bk_ BK247) hb); have n3_ := Aside0.mk (below_step (bh_ HB GE246 GE247) hb); clear BK246; clear BK247; clear HB; have HO254 := n0_; have BK246 := n1_; have BK247 := n2_; have HB := n3_; clear n0_ n1_ n2_ n3_; (try clear hb); (try clear hb2); (try clear hk); (try clear hi); (try clear ho0); obtain ⟨Ao56, co56, eo56⟩ := Kd.R_slice HO254.out; subst eo56) | ((with_reducible refine gate_callee (f := 27) rfl ?_); refine goesL_ (some 27) rfl rfl Tryd.func27 (by kernel_rfl) rfl #[.agg #[.int .i64 t251, .slice Ao56 t252.length co56]] rfl ma_ ?_; (with_reducible refine (bitset_Not.calls kj2 t251 _ _ t252 t255 t256 _ ?side1 ?side2 A29.out).mono ?_); (case side1 => exact ca_ (Kd.R_reads' HO254.out).2.2); (case side2 => exact (Kd.R_reads' HO254.out).2.1); rintro e w57 ⟨v257, rfl, ho0, hb⟩; refine ⟨_, rfl, ?_⟩; have n0_ := Aside0.mk (Kd.R_elder' (rb_ HO254) (Kd.R_base ho0) hb); have n1_ := Aside0.mk (Kd.R_lower (Kd.R_new' ho0 (Kd.R_lt (rb_ HO254))) (below_size (bh_ HB GE246 GE247))); have n2_ := Aside0.mk (blk_below (g := gb246) (o := .cells #[.int .i64 a0_0, .slice A0_1 l0_1.length c0_1] 25 (0, 0)) (bk_ BK246) hb); have n3_ := Aside0.mk (blk_below (g := gb247) (o := .cells #[.int .i64 a1_0, .slice A1_1 l1_1.length c1_1] 25 (0, 0)) (bk_ BK247) hb); have n4_ := Aside0.mk (below_step (bh_ HB GE246 GE247) hb); clear HO254; clear BK246; clear BK247; clear HB; have HO254 := n0_; have HO258 := n1_; have BK246 := n2_; have BK247 := n3_; have HB := n4_; clear n0_ n1_ n2_ n3_ n4_; (try clear hb); (try clear hb2); (try clear hk); (try clear hi); (try clear ho0)) | ((with_reducible refine gate_dst (N := 5) rfl ?_); refine box_event ?hg (N := 5) ?hd (cs := #[.int .i64 0, .slice none 0 0]) (t := 25) ?hr ?_; (case hd => rfl); (case hg => exact fs_); (case hr => first | (go_simp; done) | (go_simp; rfl)); intro gb259 hg w58 hbox hb; have n0_ := Aside0.mk (Kd.R_below (rb_ HO254) hb); have n1_ := Aside0.mk (Kd.R_below (rb_ HO258) hb); have n2_ := Aside0.mk (blk_below (g := gb246) (o := .cells #[.int .i64 a0_0, .slice A0_1 l0_1.length c0_1] 25 (0, 0)) (bk_ BK246) hb); have n3_ := Aside0.mk (blk_below (g := gb247) (o := .cells #[.int .i64 a1_0, .slice A1_1 l1_1.length c1_1] 25 (0, 0)) (bk_ BK247) hb); have n4_ := Aside0.mk (below_step (bh_ HB GE246 GE247) hb); have n5_ := Aside0.mk (hbox); have n6_ := Aside0.mk ((by rw [hg]; exact (below_size (bh_ HB GE246 GE247)) : w.heap.size ≤ gb259)); have n7_ := Aside0.mk ((by rw [hg]; exact (below_size (bh_ HB GE246 GE247)) : w.heap.size ≤ gb259)); have n8_ := Aside0.mk ((by rw [hg]; exact Nat.ne_of_lt (blk_lt (g := gb246) (o := .cells #[.int .i64 a0_0, .slice A0_1 l0_1.length c0_1] 25 (0, 0)) (bk_ BK246)) : gb246 ≠ gb259)); have n9_ := Aside0.mk ((by rw [hg]; exact Nat.ne_of_gt (blk_lt (g := gb246) (o := .cells #[.int .i64 a0_0, .slice A0_1 l0_1.length c0_1] 25 (0, 0)) (bk_ BK246)) : gb259 ≠ gb246)); have n10_ := Aside0.mk ((by rw [hg]; exact Nat.ne_of_lt (blk_lt (g := gb247) (o := .cells #[.int .i64 a1_0, .slice A1_1 l1_1.length c1_1] 25 (0, 0)) (bk_ BK247)) : gb247 ≠ gb259)); have n11_ := Aside0.mk ((by rw [hg]; exact Nat.ne_of_gt (blk_lt (g := gb247) (o := .cells #[.int .i64 a1_0, .slice A1_1 l1_1.length c1_1] 25 (0, 0)) (bk_ BK247)) : gb259 ≠ gb247)); clear HO254; clear HO258; clear BK246; clear BK247; clear HB; have HO254 := n0_; have HO258 := n1_; have BK246 := n2_; have BK247 := n3_; have HB := n4_; have BK259 := n5_; have GW259 := n6_; have GE259 := n7_; have NB246_259 := n8_; have NB259_246 := n9_; have NB247_259 := n10_; have NB259_247 := n11_; clear n0_ n1_ n2_ n3_ n4_ n5_ n6_ n7_ n8_ n9_ n10_ n11_; clear hb hbox hg; have hnb59 := NB259_246.out; have hnc59 := NB246_259.out; have hnb60 := NB259_247.out; have hnc60 := NB247_259.out; have hcz61_0 : w58.cell? ⟨gb259, 0, none⟩ = some (.int .i64 0) := (blk_cell BK259.out 0).trans rfl; have hcz61_1 : w58.cell? ⟨gb259, 1, none⟩ = some (.slice none 0 0) := (blk_cell BK259.out 1).trans rfl; have hfz61_0 := blk_frozen BK259.out 0; have hfz61_1 := blk_frozen BK259.out 1; obtain ⟨Ao62, co62, eo62⟩ := Kd.R_slice HO258.out; subst eo62))
        have n0_ : Aside0 (Kd.R (Kd.int .u64) 56 ((w58.setCell ⟨gb259, 0, none⟩ (.int .i64 t255)).setCell ⟨gb259, 1, none⟩ (.slice Ao62 t256.length co62)) w.heap.size (fun k_ => some k_ ≠ (.slice Ao62 t256.length co62 : Value).ownBlock) (.slice Ao56 t252.length co56) t252) := ⟨by (with_reducible repeat (first | apply Kd.R_alloc | apply Kd.R_drewN | apply Kd.R_drew)); exact Kd.R_mono (Kd.R_far (p := ⟨gb259, 1, none⟩) (Kd.R_far (p := ⟨gb259, 0, none⟩) (Kd.R_types HO254.out BK259.out (by decide)) (fun _ hk => hk.2) (.int .i64 t255)) (fun _ hk => hk.2) (.slice Ao62 t256.length co62)) (fun _ hk => hk.1.2)⟩
        have n1_ : Aside0 (Kd.R (Kd.int .u64) 56 ((w58.setCell ⟨gb259, 0, none⟩ (.int .i64 t255)).setCell ⟨gb259, 1, none⟩ (.slice Ao62 t256.length co62)) w.heap.size (fun k_ => some k_ ≠ (.slice Ao56 t252.length co56 : Value).ownBlock) (.slice Ao62 t256.length co62) t256) := ⟨by (with_reducible repeat (first | apply Kd.R_alloc | apply Kd.R_drewN | apply Kd.R_drew)); exact Kd.R_mono (Kd.R_far (p := ⟨gb259, 1, none⟩) (Kd.R_far (p := ⟨gb259, 0, none⟩) (Kd.R_types HO258.out BK259.out (by decide)) (fun _ hk => hk.2) (.int .i64 t255)) (fun _ hk => hk.2) (.slice Ao62 t256.length co62)) (fun _ hk => hk.1.2)⟩
        have n2_ : Aside0 (((w58.setCell ⟨gb259, 0, none⟩ (.int .i64 t255)).setCell ⟨gb259, 1, none⟩ (.slice Ao62 t256.length co62)).heap[gb246]? = some (.cells #[.int .i64 a0_0, .slice A0_1 l0_1.length c0_1] 25 (0, 0))) := ⟨by (with_reducible repeat (first | refine blk_drewN ?_ _ | refine blk_drew ?_ | refine blk_alloc ?_ _)); refine blk_far ?_ NB246_259.out _; (with_reducible repeat (first | refine blk_drewN ?_ _ | refine blk_drew ?_ | refine blk_alloc ?_ _)); refine blk_far ?_ NB246_259.out _; (with_reducible repeat (first | refine blk_drewN ?_ _ | refine blk_drew ?_ | refine blk_alloc ?_ _)); exact BK246.out⟩
        have n3_ : Aside0 (((w58.setCell ⟨gb259, 0, none⟩ (.int .i64 t255)).setCell ⟨gb259, 1, none⟩ (.slice Ao62 t256.length co62)).heap[gb247]? = some (.cells #[.int .i64 a1_0, .slice A1_1 l1_1.length c1_1] 25 (0, 0))) := ⟨by (with_reducible repeat (first | refine blk_drewN ?_ _ | refine blk_drew ?_ | refine blk_alloc ?_ _)); refine blk_far ?_ NB247_259.out _; (with_reducible repeat (first | refine blk_drewN ?_ _ | refine blk_drew ?_ | refine blk_alloc ?_ _)); refine blk_far ?_ NB247_259.out _; (with_reducible repeat (first | refine blk_drewN ?_ _ | refine blk_drew ?_ | refine blk_alloc ?_ _)); exact BK247.out⟩
        have n4_ : Aside0 (((w58.setCell ⟨gb259, 0, none⟩ (.int .i64 t255)).setCell ⟨gb259, 1, none⟩ (.slice Ao62 t256.length co62)).heap[gb259]? = some (.cells #[.int .i64 t255, .slice Ao62 t256.length co62] 25 (0, 0))) := ⟨by (with_reducible repeat (first | refine blk_drewN ?_ _ | refine blk_drew ?_ | refine blk_alloc ?_ _)); refine blk_put (cs := #[.int .i64 t255, .slice none 0 0]) ?_ 1 _ rfl; (with_reducible repeat (first | refine blk_drewN ?_ _ | refine blk_drew ?_ | refine blk_alloc ?_ _)); refine blk_put (cs := #[.int .i64 0, .slice none 0 0]) ?_ 0 _ rfl; (with_reducible repeat (first | refine blk_drewN ?_ _ | refine blk_drew ?_ | refine blk_alloc ?_ _)); exact BK259.out⟩
        have n5_ : Aside0 (Below w.heap.size w ((w58.setCell ⟨gb259, 0, none⟩ (.int .i64 t255)).setCell ⟨gb259, 1, none⟩ (.slice Ao62 t256.length co62))) := ⟨by repeat (first | (with_reducible first | exact HB.out | apply below_alloc | apply pw_below_drewN | apply below_drew1 | refine below_set ?_ GE246.out | refine below_set ?_ GE247.out | refine below_set ?_ GE259.out) | exact HB.out)⟩
        (try clear HO254)
        (try clear HO258)
        (try clear BK246)
        (try clear BK247)
        (try clear BK259)
        (try clear HB)
        generalize ((w58.setCell ⟨gb259, 0, none⟩ (.int .i64 t255)).setCell ⟨gb259, 1, none⟩ (.slice Ao62 t256.length co62)) = w63 at n0_ n1_ n2_ n3_ n4_ n5_ ⊢
        have HO254 := n0_
        have HO258 := n1_
        have BK246 := n2_
        have BK247 := n3_
        have BK259 := n4_
        have HB := n5_
        clear n0_ n1_ n2_ n3_ n4_ n5_
        have n0_ := Aside0.mk (Kd.R_drew HO254.out)
        have n1_ := Aside0.mk (Kd.R_drew HO258.out)
        have n2_ := Aside0.mk (blk_drew BK246.out)
        have n3_ := Aside0.mk (blk_drew BK247.out)
        have n4_ := Aside0.mk (blk_drew BK259.out)
        have n5_ := Aside0.mk (below_drew1 HB.out)
        clear HO254
        clear HO258
        clear BK246
        clear BK247
        clear BK259
        clear HB
        have HO254 := n0_
        have HO258 := n1_
        have BK246 := n2_
        have BK247 := n3_
        have BK259 := n4_
        have HB := n5_
        clear n0_ n1_ n2_ n3_ n4_ n5_
        refine start_ (n := 7) (S := fun w' => w'.cell? ⟨gb246, 0, none⟩ = some (.int .i64 a0_0) ∧ w'.cell? ⟨gb246, 1, none⟩ = some (.slice A0_1 l0_1.length c0_1) ∧ w'.cell? ⟨gb247, 0, none⟩ = some (.int .i64 a1_0) ∧ w'.cell? ⟨gb247, 1, none⟩ = some (.slice A1_1 l1_1.length c1_1)) (ds := []) #[false, false, false, false, false, false, false] (by kernel_rfl) rfl rfl ⟨(blk_cell BK246.out 0).trans rfl, (blk_cell BK246.out 1).trans rfl, (blk_cell BK247.out 0).trans rfl, (blk_cell BK247.out 1).trans rfl⟩ (fun hHeld => ?_)
        generalize w63.drew = w64 at HO254 HO258 BK246 BK247 BK259 HB hHeld ⊢
        refine take_ (i := 0) (N := some 28) (v := ?_) (a' := ?_) #[true, false, false, false, false, false, false] rfl rfl (by kernel_rfl) (fun _ _ _ h => h) (Or.inl ⟨by (first | rfl | (simp only [*]; rfl) | (simp [*]; done)), ?_⟩) hHeld ?_ ?_
        rotate_left
        ·rintro w' ⟨s0, s1, s2, s3⟩
         go_simp
         with_reducible rfl
        rotate_left
        ·simp only [Act.put, List.setIfInBounds_toArray, List.set_cons_zero, List.set_cons_succ, i64_w, i32_w]
         rfl
        refine take_ (i := 2) (N := some 30) (v := ?_) (a' := ?_) #[true, false, true, false, false, false, false] rfl rfl (by kernel_rfl) (fun _ _ _ h => h) (Or.inl ⟨by (first | rfl | (simp only [*]; rfl) | (simp [*]; done)), ?_⟩) hHeld ?_ ?_
        rotate_left
        ·rintro w' ⟨s0, s1, s2, s3⟩
         go_simp
         with_reducible rfl
        rotate_left
        ·simp only [Act.put, List.setIfInBounds_toArray, List.set_cons_zero, List.set_cons_succ, i64_w, i32_w]
         rfl
        refine join_ (σ := Value × Value × Value × Nat) 1 #[true, true, true, true, true, true, false] (fun s_ => [(29, .agg #[.int .i64 t260, s_.1]), (31, .agg #[.int .i64 t264, s_.2.1]), (32, .agg #[.int .i64 t268, s_.2.2.1]), (6, .pointer (some ⟨s_.2.2.2, 0, none⟩))]) (fun s_ w' => (w'.cell? ⟨gb246, 0, none⟩ = some (.int .i64 a0_0) ∧ w'.cell? ⟨gb246, 1, none⟩ = some (.slice A0_1 l0_1.length c0_1) ∧ w'.cell? ⟨gb247, 0, none⟩ = some (.int .i64 a1_0) ∧ w'.cell? ⟨gb247, 1, none⟩ = some (.slice A1_1 l1_1.length c1_1)) ∧ (Kd.R (Kd.int .u64) 56 w' w.heap.size (fun k_ => some k_ ≠ (.slice Ao62 t256.length co62 : Value).ownBlock ∧ some k_ ≠ (s_.1 : Value).ownBlock ∧ some k_ ≠ (s_.2.1 : Value).ownBlock ∧ some k_ ≠ (s_.2.2.1 : Value).ownBlock) (.slice Ao56 t252.length co56) t252) ∧ (Kd.R (Kd.int .u64) 56 w' w.heap.size (fun k_ => some k_ ≠ (.slice Ao56 t252.length co56 : Value).ownBlock ∧ some k_ ≠ (s_.1 : Value).ownBlock ∧ some k_ ≠ (s_.2.1 : Value).ownBlock ∧ some k_ ≠ (s_.2.2.1 : Value).ownBlock) (.slice Ao62 t256.length co62) t256) ∧ (Kd.R (Kd.int .u64) 56 w' w.heap.size (fun k_ => some k_ ≠ (.slice Ao56 t252.length co56 : Value).ownBlock ∧ some k_ ≠ (.slice Ao62 t256.length co62 : Value).ownBlock ∧ some k_ ≠ (s_.2.1 : Value).ownBlock ∧ some k_ ≠ (s_.2.2.1 : Value).ownBlock) s_.1 t261) ∧ (Kd.R (Kd.int .u64) 56 w' w.heap.size (fun k_ => some k_ ≠ (.slice Ao56 t252.length co56 : Value).ownBlock ∧ some k_ ≠ (.slice Ao62 t256.length co62 : Value).ownBlock ∧ some k_ ≠ (s_.1 : Value).ownBlock ∧ some k_ ≠ (s_.2.2.1 : Value).ownBlock) s_.2.1 t265) ∧ (Kd.R (Kd.int .u64) 56 w' w.heap.size (fun k_ => some k_ ≠ (.slice Ao56 t252.length co56 : Value).ownBlock ∧ some k_ ≠ (.slice Ao62 t256.length co62 : Value).ownBlock ∧ some k_ ≠ (s_.1 : Value).ownBlock ∧ some k_ ≠ (s_.2.1 : Value).ownBlock) s_.2.2.1 t269) ∧ (w'.heap[gb246]? = some (.cells #[.int .i64 a0_0, .slice A0_1 l0_1.length c0_1] 25 (0, 0))) ∧ (w'.heap[gb247]? = some (.cells #[.int .i64 a1_0, .slice A1_1 l1_1.length c1_1] 25 (0, 0))) ∧ (w'.heap[gb259]? = some (.cells #[.int .i64 t255, .slice Ao62 t256.length co62] 25 (0, 0))) ∧ (w'.heap[s_.2.2.2]? = some (.cells #[.int .i64 0, .slice none 0 0] 25 (0, 0))) ∧ (w.heap.size ≤ s_.2.2.2) ∧ (w.heap.size ≤ s_.2.2.2) ∧ (gb246 ≠ s_.2.2.2) ∧ (s_.2.2.2 ≠ gb246) ∧ (gb247 ≠ s_.2.2.2) ∧ (s_.2.2.2 ≠ gb247) ∧ (gb259 ≠ s_.2.2.2) ∧ (s_.2.2.2 ≠ gb259) ∧ (Below w.heap.size w w')) ?_ ?_
        rotate_left
        ·intro hCont
         refine two_ (i := 1) (j := 5) (Ni := some 29) (Nj := some 6) #[true, true, true, false, false, false, false] #[true, false, true, false, false, true, false] rfl rfl rfl rfl (by kernel_rfl) (by decide) (by decide) (fun K hK => ?_) (fun K hK => ?_)
         ·skip
          refine goes_ Tryd.func27 (by kernel_rfl) rfl #[.agg #[.int .i64 a0_0, .slice A0_1 l0_1.length c0_1]] (by (first | rfl | (simp only [*]; rfl) | (simp [*]; done))) rfl rfl ma_ ?_
          with_reducible refine (bitset_Not.calls kj2 a0_0 _ _ l0_1 t260 t261 _ ?side1 ?side2 A30.out).mono ?_
          (case side1 => exact ca_ (Kd.C_below HR0_1.out HB.out))
          (case side2 => exact HC0_1.out)
          rintro e w65 ⟨v262, rfl, ho0, hb⟩
          refine ⟨_, rfl, ?_⟩
          have n0_ := Aside0.mk (Kd.R_elder' (rb_ HO254) (Kd.R_base ho0) hb)
          have n1_ := Aside0.mk (Kd.R_elder' (rb_ HO258) (Kd.R_base ho0) hb)
          have n2_ := Aside0.mk (Kd.R_lower (Kd.R_new' (Kd.R_new' ho0 (Kd.R_lt (rb_ HO254))) (Kd.R_lt (rb_ HO258))) (below_size (by repeat (first | (with_reducible first | exact HB.out | apply below_alloc | apply pw_below_drewN | apply below_drew1 | refine below_set ?_ GE246.out | refine below_set ?_ GE247.out | refine below_set ?_ GE259.out) | exact HB.out))))
          have n3_ := Aside0.mk (blk_below (g := gb246) (o := .cells #[.int .i64 a0_0, .slice A0_1 l0_1.length c0_1] 25 (0, 0)) (bk_ BK246) hb)
          have n4_ := Aside0.mk (blk_below (g := gb247) (o := .cells #[.int .i64 a1_0, .slice A1_1 l1_1.length c1_1] 25 (0, 0)) (bk_ BK247) hb)
          have n5_ := Aside0.mk (blk_below (g := gb259) (o := .cells #[.int .i64 t255, .slice Ao62 t256.length co62] 25 (0, 0)) (bk_ BK259) hb)
          have n6_ := Aside0.mk (below_step (by repeat (first | (with_reducible first | exact HB.out | apply below_alloc | apply pw_below_drewN | apply below_drew1 | refine below_set ?_ GE246.out | refine below_set ?_ GE247.out | refine below_set ?_ GE259.out) | exact HB.out)) hb)
          clear HO254
          clear HO258
          clear BK246
          clear BK247
          clear BK259
          clear HB
          have HO254 := n0_
          have HO258 := n1_
          have HO263 := n2_
          have BK246 := n3_
          have BK247 := n4_
          have BK259 := n5_
          have HB := n6_
          clear n0_ n1_ n2_ n3_ n4_ n5_ n6_
          (try clear hb)
          (try clear hb2)
          (try clear hk)
          (try clear hi)
          (try clear ho0)
          refine hK.out _ _ ⟨(blk_cell BK246.out 0).trans rfl, (blk_cell BK246.out 1).trans rfl, (blk_cell BK247.out 0).trans rfl, (blk_cell BK247.out 1).trans rfl⟩ (fun hHeld => ?_)
          clear hK K
          refine norm_ (a' := ?_) ?_ ?_
          rotate_left
          ·show Act.put _ (some 29) _ = _
           simp only [Act.put, List.setIfInBounds_toArray, List.set_cons_zero, List.set_cons_succ, i64_w, i32_w]
           rfl
          refine two_ (i := 3) (j := 5) (Ni := some 31) (Nj := some 6) #[true, true, true, true, false, false, false] #[true, true, true, false, false, true, false] rfl rfl rfl rfl (by kernel_rfl) (by decide) (by decide) (fun K hK => ?_) (fun K hK => ?_)
          ·skip
           refine goes_ Tryd.func27 (by kernel_rfl) rfl #[.agg #[.int .i64 a1_0, .slice A1_1 l1_1.length c1_1]] (by (first | rfl | (simp only [*]; rfl) | (simp [*]; done))) rfl rfl ma_ ?_
           with_reducible refine (bitset_Not.calls kj2 a1_0 _ _ l1_1 t264 t265 _ ?side1 ?side2 A31.out).mono ?_
           (case side1 => exact ca_ (Kd.C_below HR1_1.out HB.out))
           (case side2 => exact HC1_1.out)
           rintro e w66 ⟨v266, rfl, ho0, hb⟩
           refine ⟨_, rfl, ?_⟩
           have n0_ := Aside0.mk (Kd.R_elder' (rb_ HO254) (Kd.R_base ho0) hb)
           have n1_ := Aside0.mk (Kd.R_elder' (rb_ HO258) (Kd.R_base ho0) hb)
           have n2_ := Aside0.mk (Kd.R_elder' (rb_ HO263) (Kd.R_base ho0) hb)
           have n3_ := Aside0.mk (Kd.R_lower (Kd.R_new' (Kd.R_new' (Kd.R_new' ho0 (Kd.R_lt (rb_ HO254))) (Kd.R_lt (rb_ HO258))) (Kd.R_lt (rb_ HO263))) (below_size (by repeat (first | (with_reducible first | exact HB.out | apply below_alloc | apply pw_below_drewN | apply below_drew1 | refine below_set ?_ GE246.out | refine below_set ?_ GE247.out | refine below_set ?_ GE259.out) | exact HB.out))))
           have n4_ := Aside0.mk (blk_below (g := gb246) (o := .cells #[.int .i64 a0_0, .slice A0_1 l0_1.length c0_1] 25 (0, 0)) (bk_ BK246) hb)
           have n5_ := Aside0.mk (blk_below (g := gb247) (o := .cells #[.int .i64 a1_0, .slice A1_1 l1_1.length c1_1] 25 (0, 0)) (bk_ BK247) hb)
           have n6_ := Aside0.mk (blk_below (g := gb259) (o := .cells #[.int .i64 t255, .slice Ao62 t256.length co62] 25 (0, 0)) (bk_ BK259) hb)
           have n7_ := Aside0.mk (below_step (by repeat (first | (with_reducible first | exact HB.out | apply below_alloc | apply pw_below_drewN | apply below_drew1 | refine below_set ?_ GE246.out | refine below_set ?_ GE247.out | refine below_set ?_ GE259.out) | exact HB.out)) hb)
           clear HO254
           clear HO258
           clear HO263
           clear BK246
           clear BK247
           clear BK259
           clear HB
           have HO254 := n0_
           have HO258 := n1_
           have HO263 := n2_
           have HO267 := n3_
           have BK246 := n4_
           have BK247 := n5_
           have BK259 := n6_
           have HB := n7_
           clear n0_ n1_ n2_ n3_ n4_ n5_ n6_ n7_
           (try clear hb)
           (try clear hb2)
           (try clear hk)
           (try clear hi)
           (try clear ho0)
           obtain ⟨Ao67, co67, eo67⟩ := Kd.R_slice HO263.out
           (first | subst eo67 | (injection eo67 with f1_ f2_ f3_; have f4_ := f1_.symm; have f5_ := f3_.symm; clear f1_ f2_ f3_; subst f4_; subst f5_))
           obtain ⟨Ao68, co68, eo68⟩ := Kd.R_slice HO267.out
           (first | subst eo68 | (injection eo68 with f1_ f2_ f3_; have f4_ := f1_.symm; have f5_ := f3_.symm; clear f1_ f2_ f3_; subst f4_; subst f5_))
           refine hK.out _ _ ⟨(blk_cell BK246.out 0).trans rfl, (blk_cell BK246.out 1).trans rfl, (blk_cell BK247.out 0).trans rfl, (blk_cell BK247.out 1).trans rfl⟩ (fun hHeld => ?_)
           clear hK K
           refine norm_ (a' := ?_) ?_ ?_
           rotate_left
           ·show Act.put _ (some 31) _ = _
            simp only [Act.put, List.setIfInBounds_toArray, List.set_cons_zero, List.set_cons_succ, i64_w, i32_w]
            rfl
           refine two_ (i := 4) (j := 5) (Ni := some 32) (Nj := some 6) #[true, true, true, true, true, false, false] #[true, true, true, true, false, true, false] rfl rfl rfl rfl (by kernel_rfl) (by decide) (by decide) (fun K hK => ?_) (fun K hK => ?_)
           ·skip
            refine goes_ Tryd.func23 (by kernel_rfl) rfl #[.agg #[.int .i64 t260, .slice Ao67 t261.length co67], .agg #[.int .i64 t264, .slice Ao68 t265.length co68]] (by (first | rfl | (simp only [*]; rfl) | (simp [*]; done))) rfl rfl ma_ ?_
            with_reducible refine (bitset_Or.calls kj2 t260 _ _ t261 t264 _ _ t265 t268 t269 _ ?side1 ?side2 ?side3 ?side4 A32.out).mono ?_
            (case side1 => exact ca_ (Kd.R_reads' HO263.out).2.2)
            (case side2 => exact (Kd.R_reads' HO263.out).2.1)
            (case side3 => exact ca_ (Kd.R_reads' HO267.out).2.2)
            (case side4 => exact (Kd.R_reads' HO267.out).2.1)
            rintro e w69 ⟨v270, rfl, ho0, hb⟩
            refine ⟨_, rfl, ?_⟩
            have n0_ := Aside0.mk (Kd.R_elder' (rb_ HO254) (Kd.R_base ho0) hb)
            have n1_ := Aside0.mk (Kd.R_elder' (rb_ HO258) (Kd.R_base ho0) hb)
            have n2_ := Aside0.mk (Kd.R_elder' (rb_ HO263) (Kd.R_base ho0) hb)
            have n3_ := Aside0.mk (Kd.R_elder' (rb_ HO267) (Kd.R_base ho0) hb)
            have n4_ := Aside0.mk (Kd.R_lower (Kd.R_new' (Kd.R_new' (Kd.R_new' (Kd.R_new' ho0 (Kd.R_lt (rb_ HO254))) (Kd.R_lt (rb_ HO258))) (Kd.R_lt (rb_ HO263))) (Kd.R_lt (rb_ HO267))) (below_size (by repeat (first | (with_reducible first | exact HB.out | apply below_alloc | apply pw_below_drewN | apply below_drew1 | refine below_set ?_ GE246.out | refine below_set ?_ GE247.out | refine below_set ?_ GE259.out) | exact HB.out))))
            have n5_ := Aside0.mk (blk_below (g := gb246) (o := .cells #[.int .i64 a0_0, .slice A0_1 l0_1.length c0_1] 25 (0, 0)) (bk_ BK246) hb)
            have n6_ := Aside0.mk (blk_below (g := gb247) (o := .cells #[.int .i64 a1_0, .slice A1_1 l1_1.length c1_1] 25 (0, 0)) (bk_ BK247) hb)
            have n7_ := Aside0.mk (blk_below (g := gb259) (o := .cells #[.int .i64 t255, .slice Ao62 t256.length co62] 25 (0, 0)) (bk_ BK259) hb)
            have n8_ := Aside0.mk (below_step (by repeat (first | (with_reducible first | exact HB.out | apply below_alloc | apply pw_below_drewN | apply below_drew1 | refine below_set ?_ GE246.out | refine below_set ?_ GE247.out | refine below_set ?_ GE259.out) | exact HB.out)) hb)
            clear HO254
            clear HO258
            clear HO263
            clear HO267
            clear BK246
            clear BK247
            clear BK259
            clear HB
            have HO254 := n0_
            have HO258 := n1_
            have HO263 := n2_
            have HO267 := n3_
            have HO271 := n4_
            have BK246 := n5_
            have BK247 := n6_
            have BK259 := n7_
            have HB := n8_
            clear n0_ n1_ n2_ n3_ n4_ n5_ n6_ n7_ n8_
            (try clear hb)
            (try clear hb2)
            (try clear hk)
            (try clear hi)
            (try clear ho0)
            refine hK.out _ _ ⟨(blk_cell BK246.out 0).trans rfl, (blk_cell BK246.out 1).trans rfl, (blk_cell BK247.out 0).trans rfl, (blk_cell BK247.out 1).trans rfl⟩ (fun hHeld => ?_)
            clear hK K
            refine norm_ (a' := ?_) ?_ ?_
            rotate_left
            ·show Act.put _ (some 32) _ = _
             simp only [Act.put, List.setIfInBounds_toArray, List.set_cons_zero, List.set_cons_succ, i64_w, i32_w]
             rfl
            refine one_ (i := 5) (N := some 6) #[true, true, true, true, true, true, false] rfl rfl (by kernel_rfl) (by decide) (fun K hK => ?_)
            refine box_step ?hg (N := 6) ?hd (cs := #[.int .i64 0, .slice none 0 0]) (t := 25) ?hr ?_; (case hd => rfl); (case hg => exact fs_); (case hr => first | (go_simp; done) | (go_simp; rfl))
            intro gb272 hg w70 hbox hb
            have n0_ := Aside0.mk (Kd.R_below (rb_ HO254) hb)
            have n1_ := Aside0.mk (Kd.R_below (rb_ HO258) hb)
            have n2_ := Aside0.mk (Kd.R_below (rb_ HO263) hb)
            have n3_ := Aside0.mk (Kd.R_below (rb_ HO267) hb)
            have n4_ := Aside0.mk (Kd.R_below (rb_ HO271) hb)
            have n5_ := Aside0.mk (blk_below (g := gb246) (o := .cells #[.int .i64 a0_0, .slice A0_1 l0_1.length c0_1] 25 (0, 0)) (bk_ BK246) hb)
            have n6_ := Aside0.mk (blk_below (g := gb247) (o := .cells #[.int .i64 a1_0, .slice A1_1 l1_1.length c1_1] 25 (0, 0)) (bk_ BK247) hb)
            have n7_ := Aside0.mk (blk_below (g := gb259) (o := .cells #[.int .i64 t255, .slice Ao62 t256.length co62] 25 (0, 0)) (bk_ BK259) hb)
            have n8_ := Aside0.mk (below_step (by repeat (first | (with_reducible first | exact HB.out | apply below_alloc | apply pw_below_drewN | apply below_drew1 | refine below_set ?_ GE246.out | refine below_set ?_ GE247.out | refine below_set ?_ GE259.out) | exact HB.out)) hb)
            have n9_ := Aside0.mk (hbox)
            have n10_ := Aside0.mk ((by rw [hg]; exact (below_size (by repeat (first | (with_reducible first | exact HB.out | apply below_alloc | apply pw_below_drewN | apply below_drew1 | refine below_set ?_ GE246.out | refine below_set ?_ GE247.out | refine below_set ?_ GE259.out) | exact HB.out))) : w.heap.size ≤ gb272))
            have n11_ := Aside0.mk ((by rw [hg]; exact (below_size (by repeat (first | (with_reducible first | exact HB.out | apply below_alloc | apply pw_below_drewN | apply below_drew1 | refine below_set ?_ GE246.out | refine below_set ?_ GE247.out | refine below_set ?_ GE259.out) | exact HB.out))) : w.heap.size ≤ gb272))
            have n12_ := Aside0.mk ((by rw [hg]; exact Nat.ne_of_lt (blk_lt (g := gb246) (o := .cells #[.int .i64 a0_0, .slice A0_1 l0_1.length c0_1] 25 (0, 0)) (bk_ BK246)) : gb246 ≠ gb272))
            have n13_ := Aside0.mk ((by rw [hg]; exact Nat.ne_of_gt (blk_lt (g := gb246) (o := .cells #[.int .i64 a0_0, .slice A0_1 l0_1.length c0_1] 25 (0, 0)) (bk_ BK246)) : gb272 ≠ gb246))
            have n14_ := Aside0.mk ((by rw [hg]; exact Nat.ne_of_lt (blk_lt (g := gb247) (o := .cells #[.int .i64 a1_0, .slice A1_1 l1_1.length c1_1] 25 (0, 0)) (bk_ BK247)) : gb247 ≠ gb272))
            have n15_ := Aside0.mk ((by rw [hg]; exact Nat.ne_of_gt (blk_lt (g := gb247) (o := .cells #[.int .i64 a1_0, .slice A1_1 l1_1.length c1_1] 25 (0, 0)) (bk_ BK247)) : gb272 ≠ gb247))
            have n16_ := Aside0.mk ((by rw [hg]; exact Nat.ne_of_lt (blk_lt (g := gb259) (o := .cells #[.int .i64 t255, .slice Ao62 t256.length co62] 25 (0, 0)) (bk_ BK259)) : gb259 ≠ gb272))
            have n17_ := Aside0.mk ((by rw [hg]; exact Nat.ne_of_gt (blk_lt (g := gb259) (o := .cells #[.int .i64 t255, .slice Ao62 t256.length co62] 25 (0, 0)) (bk_ BK259)) : gb272 ≠ gb259))
            clear HO254
            clear HO258
            clear HO263
            clear HO267
            clear HO271
            clear BK246
            clear BK247
            clear BK259
            clear HB
            have HO254 := n0_
            have HO258 := n1_
            have HO263 := n2_
            have HO267 := n3_
            have HO271 := n4_
            have BK246 := n5_
            have BK247 := n6_
            have BK259 := n7_
            have HB := n8_
            have BK272 := n9_
            have GW272 := n10_
            have GE272 := n11_
            have NB246_272 := n12_
            have NB272_246 := n13_
            have NB247_272 := n14_
            have NB272_247 := n15_
            have NB259_272 := n16_
            have NB272_259 := n17_
            clear n0_ n1_ n2_ n3_ n4_ n5_ n6_ n7_ n8_ n9_ n10_ n11_ n12_ n13_ n14_ n15_ n16_ n17_
            clear hb hbox hg
            refine hK.out _ _ ⟨(blk_cell BK246.out 0).trans rfl, (blk_cell BK246.out 1).trans rfl, (blk_cell BK247.out 0).trans rfl, (blk_cell BK247.out 1).trans rfl⟩ (fun hHeld => ?_)
            clear hK K
            refine norm_ (a' := ?_) ?_ ?_
            rotate_left
            ·show Act.put _ (some 6) _ = _
             simp only [Act.put, List.setIfInBounds_toArray, List.set_cons_zero, List.set_cons_succ, i64_w, i32_w]
             rfl
            exact norm_ (by simp only [putAll, Act.put, List.setIfInBounds_toArray, List.set_cons_zero, List.set_cons_succ]) (hCont (.slice Ao67 t261.length co67, .slice Ao68 t265.length co68, v270, gb272) _ ⟨hHeld, (by (with_reducible repeat (first | apply Kd.R_alloc | apply Kd.R_drewN | apply Kd.R_drew)); exact Kd.R_mono HO254.out (fun _ hk => ⟨hk.1.1.1, ⟨hk.1.1.2, ⟨hk.1.2, hk.2⟩⟩⟩)), (by (with_reducible repeat (first | apply Kd.R_alloc | apply Kd.R_drewN | apply Kd.R_drew)); exact Kd.R_mono HO258.out (fun _ hk => ⟨hk.1.1.1, ⟨hk.1.1.2, ⟨hk.1.2, hk.2⟩⟩⟩)), (by (with_reducible repeat (first | apply Kd.R_alloc | apply Kd.R_drewN | apply Kd.R_drew)); exact Kd.R_mono HO263.out (fun _ hk => ⟨hk.1.1.1.2, ⟨hk.1.1.2, ⟨hk.1.2, hk.2⟩⟩⟩)), (by (with_reducible repeat (first | apply Kd.R_alloc | apply Kd.R_drewN | apply Kd.R_drew)); exact Kd.R_mono HO267.out (fun _ hk => ⟨hk.1.1.1.2, ⟨hk.1.1.2, ⟨hk.1.2, hk.2⟩⟩⟩)), (by (with_reducible repeat (first | apply Kd.R_alloc | apply Kd.R_drewN | apply Kd.R_drew)); exact Kd.R_mono HO271.out (fun _ hk => ⟨hk.1.1.1.2, ⟨hk.1.1.2, ⟨hk.1.2, hk.2⟩⟩⟩)), (bk_ BK246), (bk_ BK247), (bk_ BK259), (bk_ BK272), GW272.out, GE272.out, NB246_272.out, NB272_246.out, NB247_272.out, NB272_247.out, NB259_272.out, NB272_259.out, (by repeat (first | (with_reducible first | exact HB.out | apply below_alloc | apply pw_below_drewN | apply below_drew1 | refine below_set ?_ GE246.out | refine below_set ?_ GE247.out | refine below_set ?_ GE259.out | refine below_set ?_ GE272.out) | exact HB.out))⟩)
           ·skip
            refine box_step ?hg (N := 6) ?hd (cs := #[.int .i64 0, .slice none 0 0]) (t := 25) ?hr ?_; (case hd => rfl); (case hg => exact fs_); (case hr => first | (go_simp; done) | (go_simp; rfl))
            intro gb272 hg w67 hbox hb
            have n0_ := Aside0.mk (Kd.R_below (rb_ HO254) hb)
            have n1_ := Aside0.mk (Kd.R_below (rb_ HO258) hb)
            have n2_ := Aside0.mk (Kd.R_below (rb_ HO263) hb)
            have n3_ := Aside0.mk (Kd.R_below (rb_ HO267) hb)
            have n4_ := Aside0.mk (blk_below (g := gb246) (o := .cells #[.int .i64 a0_0, .slice A0_1 l0_1.length c0_1] 25 (0, 0)) (bk_ BK246) hb)
            have n5_ := Aside0.mk (blk_below (g := gb247) (o := .cells #[.int .i64 a1_0, .slice A1_1 l1_1.length c1_1] 25 (0, 0)) (bk_ BK247) hb)
            have n6_ := Aside0.mk (blk_below (g := gb259) (o := .cells #[.int .i64 t255, .slice Ao62 t256.length co62] 25 (0, 0)) (bk_ BK259) hb)
            have n7_ := Aside0.mk (below_step (by repeat (first | (with_reducible first | exact HB.out | apply below_alloc | apply pw_below_drewN | apply below_drew1 | refine below_set ?_ GE246.out | refine below_set ?_ GE247.out | refine below_set ?_ GE259.out) | exact HB.out)) hb)
            have n8_ := Aside0.mk (hbox)
            have n9_ := Aside0.mk ((by rw [hg]; exact (below_size (by repeat (first | (with_reducible first | exact HB.out | apply below_alloc | apply pw_below_drewN | apply below_drew1 | refine below_set ?_ GE246.out | refine below_set ?_ GE247.out | refine below_set ?_ GE259.out) | exact HB.out))) : w.heap.size ≤ gb272))
            have n10_ := Aside0.mk ((by rw [hg]; exact (below_size (by repeat (first | (with_reducible first | exact HB.out | apply below_alloc | apply pw_below_drewN | apply below_drew1 | refine below_set ?_ GE246.out | refine below_set ?_ GE247.out | refine below_set ?_ GE259.out) | exact HB.out))) : w.heap.size ≤ gb272))
            have n11_ := Aside0.mk ((by rw [hg]; exact Nat.ne_of_lt (blk_lt (g := gb246) (o := .cells #[.int .i64 a0_0, .slice A0_1 l0_1.length c0_1] 25 (0, 0)) (bk_ BK246)) : gb246 ≠ gb272))
            have n12_ := Aside0.mk ((by rw [hg]; exact Nat.ne_of_gt (blk_lt (g := gb246) (o := .cells #[.int .i64 a0_0, .slice A0_1 l0_1.length c0_1] 25 (0, 0)) (bk_ BK246)) : gb272 ≠ gb246))
            have n13_ := Aside0.mk ((by rw [hg]; exact Nat.ne_of_lt (blk_lt (g := gb247) (o := .cells #[.int .i64 a1_0, .slice A1_1 l1_1.length c1_1] 25 (0, 0)) (bk_ BK247)) : gb247 ≠ gb272))
            have n14_ := Aside0.mk ((by rw [hg]; exact Nat.ne_of_gt (blk_lt (g := gb247) (o := .cells #[.int .i64 a1_0, .slice A1_1 l1_1.length c1_1] 25 (0, 0)) (bk_ BK247)) : gb272 ≠ gb247))
            have n15_ := Aside0.mk ((by rw [hg]; exact Nat.ne_of_lt (blk_lt (g := gb259) (o := .cells #[.int .i64 t255, .slice Ao62 t256.length co62] 25 (0, 0)) (bk_ BK259)) : gb259 ≠ gb272))
            have n16_ := Aside0.mk ((by rw [hg]; exact Nat.ne_of_gt (blk_lt (g := gb259) (o := .cells #[.int .i64 t255, .slice Ao62 t256.length co62] 25 (0, 0)) (bk_ BK259)) : gb272 ≠ gb259))
            clear HO254
            clear HO258
            clear HO263
            clear HO267
            clear BK246
            clear BK247
            clear BK259
            clear HB
            have HO254 := n0_
            have HO258 := n1_
            have HO263 := n2_
            have HO267 := n3_
            have BK246 := n4_
            have BK247 := n5_
            have BK259 := n6_
            have HB := n7_
            have BK272 := n8_
            have GW272 := n9_
            have GE272 := n10_
            have NB246_272 := n11_
            have NB272_246 := n12_
            have NB247_272 := n13_
            have NB272_247 := n14_
            have NB259_272 := n15_
            have NB272_259 := n16_
            clear n0_ n1_ n2_ n3_ n4_ n5_ n6_ n7_ n8_ n9_ n10_ n11_ n12_ n13_ n14_ n15_ n16_
            clear hb hbox hg
            obtain ⟨Ao68, co68, eo68⟩ := Kd.R_slice HO263.out
            (first | subst eo68 | (injection eo68 with f1_ f2_ f3_; have f4_ := f1_.symm; have f5_ := f3_.symm; clear f1_ f2_ f3_; subst f4_; subst f5_))
            obtain ⟨Ao69, co69, eo69⟩ := Kd.R_slice HO267.out
            (first | subst eo69 | (injection eo69 with f1_ f2_ f3_; have f4_ := f1_.symm; have f5_ := f3_.symm; clear f1_ f2_ f3_; subst f4_; subst f5_))
            refine hK.out _ _ ⟨(blk_cell BK246.out 0).trans rfl, (blk_cell BK246.out 1).trans rfl, (blk_cell BK247.out 0).trans rfl, (blk_cell BK247.out 1).trans rfl⟩ (fun hHeld => ?_)
            clear hK K
            refine norm_ (a' := ?_) ?_ ?_
            rotate_left
            ·show Act.put _ (some 6) _ = _
             simp only [Act.put, List.setIfInBounds_toArray, List.set_cons_zero, List.set_cons_succ, i64_w, i32_w]
             rfl
            refine one_ (i := 4) (N := some 32) #[true, true, true, true, true, true, false] rfl rfl (by kernel_rfl) (by decide) (fun K hK => ?_)
            refine goes_ Tryd.func23 (by kernel_rfl) rfl #[.agg #[.int .i64 t260, .slice Ao68 t261.length co68], .agg #[.int .i64 t264, .slice Ao69 t265.length co69]] (by (first | rfl | (simp only [*]; rfl) | (simp [*]; done))) rfl rfl ma_ ?_
            with_reducible refine (bitset_Or.calls kj2 t260 _ _ t261 t264 _ _ t265 t268 t269 _ ?side1 ?side2 ?side3 ?side4 A32.out).mono ?_
            (case side1 => exact ca_ (Kd.R_reads' HO263.out).2.2)
            (case side2 => exact (Kd.R_reads' HO263.out).2.1)
            (case side3 => exact ca_ (Kd.R_reads' HO267.out).2.2)
            (case side4 => exact (Kd.R_reads' HO267.out).2.1)
            rintro e w70 ⟨v270, rfl, ho0, hb⟩
            refine ⟨_, rfl, ?_⟩
            have n0_ := Aside0.mk (Kd.R_elder' (rb_ HO254) (Kd.R_base ho0) hb)
            have n1_ := Aside0.mk (Kd.R_elder' (rb_ HO258) (Kd.R_base ho0) hb)
            have n2_ := Aside0.mk (Kd.R_elder' (rb_ HO263) (Kd.R_base ho0) hb)
            have n3_ := Aside0.mk (Kd.R_elder' (rb_ HO267) (Kd.R_base ho0) hb)
            have n4_ := Aside0.mk (Kd.R_lower (Kd.R_new' (Kd.R_new' (Kd.R_new' (Kd.R_new' ho0 (Kd.R_lt (rb_ HO254))) (Kd.R_lt (rb_ HO258))) (Kd.R_lt (rb_ HO263))) (Kd.R_lt (rb_ HO267))) (below_size (by repeat (first | (with_reducible first | exact HB.out | apply below_alloc | apply pw_below_drewN | apply below_drew1 | refine below_set ?_ GE246.out | refine below_set ?_ GE247.out | refine below_set ?_ GE259.out | refine below_set ?_ GE272.out) | exact HB.out))))
            have n5_ := Aside0.mk (blk_below (g := gb246) (o := .cells #[.int .i64 a0_0, .slice A0_1 l0_1.length c0_1] 25 (0, 0)) (bk_ BK246) hb)
            have n6_ := Aside0.mk (blk_below (g := gb247) (o := .cells #[.int .i64 a1_0, .slice A1_1 l1_1.length c1_1] 25 (0, 0)) (bk_ BK247) hb)
            have n7_ := Aside0.mk (blk_below (g := gb259) (o := .cells #[.int .i64 t255, .slice Ao62 t256.length co62] 25 (0, 0)) (bk_ BK259) hb)
            have n8_ := Aside0.mk (blk_below (g := gb272) (o := .cells #[.int .i64 0, .slice none 0 0] 25 (0, 0)) (bk_ BK272) hb)
            have n9_ := Aside0.mk (below_step (by repeat (first | (with_reducible first | exact HB.out | apply below_alloc | apply pw_below_drewN | apply below_drew1 | refine below_set ?_ GE246.out | refine below_set ?_ GE247.out | refine below_set ?_ GE259.out | refine below_set ?_ GE272.out) | exact HB.out)) hb)
            clear HO254
            clear HO258
            clear HO263
            clear HO267
            clear BK246
            clear BK247
            clear BK259
            clear BK272
            clear HB
            have HO254 := n0_
            have HO258 := n1_
            have HO263 := n2_
            have HO267 := n3_
            have HO271 := n4_
            have BK246 := n5_
            have BK247 := n6_
            have BK259 := n7_
            have BK272 := n8_
            have HB := n9_
            clear n0_ n1_ n2_ n3_ n4_ n5_ n6_ n7_ n8_ n9_
            (try clear hb)
            (try clear hb2)
            (try clear hk)
            (try clear hi)
            (try clear ho0)
            refine hK.out _ _ ⟨(blk_cell BK246.out 0).trans rfl, (blk_cell BK246.out 1).trans rfl, (blk_cell BK247.out 0).trans rfl, (blk_cell BK247.out 1).trans rfl⟩ (fun hHeld => ?_)
            clear hK K
            refine norm_ (a' := ?_) ?_ ?_
            rotate_left
            ·show Act.put _ (some 32) _ = _
             simp only [Act.put, List.setIfInBounds_toArray, List.set_cons_zero, List.set_cons_succ, i64_w, i32_w]
             rfl
            exact norm_ (by simp only [putAll, Act.put, List.setIfInBounds_toArray, List.set_cons_zero, List.set_cons_succ]) (hCont (.slice Ao68 t261.length co68, .slice Ao69 t265.length co69, v270, gb272) _ ⟨hHeld, (by (with_reducible repeat (first | apply Kd.R_alloc | apply Kd.R_drewN | apply Kd.R_drew)); exact Kd.R_mono HO254.out (fun _ hk => ⟨hk.1.1.1, ⟨hk.1.1.2, ⟨hk.1.2, hk.2⟩⟩⟩)), (by (with_reducible repeat (first | apply Kd.R_alloc | apply Kd.R_drewN | apply Kd.R_drew)); exact Kd.R_mono HO258.out (fun _ hk => ⟨hk.1.1.1, ⟨hk.1.1.2, ⟨hk.1.2, hk.2⟩⟩⟩)), (by (with_reducible repeat (first | apply Kd.R_alloc | apply Kd.R_drewN | apply Kd.R_drew)); exact Kd.R_mono HO263.out (fun _ hk => ⟨hk.1.1.1.2, ⟨hk.1.1.2, ⟨hk.1.2, hk.2⟩⟩⟩)), (by (with_reducible repeat (first | apply Kd.R_alloc | apply Kd.R_drewN | apply Kd.R_drew)); exact Kd.R_mono HO267.out (fun _ hk => ⟨hk.1.1.1.2, ⟨hk.1.1.2, ⟨hk.1.2, hk.2⟩⟩⟩)), (by (with_reducible repeat (first | apply Kd.R_alloc | apply Kd.R_drewN | apply Kd.R_drew)); exact Kd.R_mono HO271.out (fun _ hk => ⟨hk.1.1.1.2, ⟨hk.1.1.2, ⟨hk.1.2, hk.2⟩⟩⟩)), (bk_ BK246), (bk_ BK247), (bk_ BK259), (bk_ BK272), GW272.out, GE272.out, NB246_272.out, NB272_246.out, NB247_272.out, NB272_247.out, NB259_272.out, NB272_259.out, (by repeat (first | (with_reducible first | exact HB.out | apply below_alloc | apply pw_below_drewN | apply below_drew1 | refine below_set ?_ GE246.out | refine below_set ?_ GE247.out | refine below_set ?_ GE259.out | refine below_set ?_ GE272.out) | exact HB.out))⟩)
          ·skip
           refine box_step ?hg (N := 6) ?hd (cs := #[.int .i64 0, .slice none 0 0]) (t := 25) ?hr ?_; (case hd => rfl); (case hg => exact fs_); (case hr => first | (go_simp; done) | (go_simp; rfl))
           intro gb272 hg w66 hbox hb
           have n0_ := Aside0.mk (Kd.R_below (rb_ HO254) hb)
           have n1_ := Aside0.mk (Kd.R_below (rb_ HO258) hb)
           have n2_ := Aside0.mk (Kd.R_below (rb_ HO263) hb)
           have n3_ := Aside0.mk (blk_below (g := gb246) (o := .cells #[.int .i64 a0_0, .slice A0_1 l0_1.length c0_1] 25 (0, 0)) (bk_ BK246) hb)
           have n4_ := Aside0.mk (blk_below (g := gb247) (o := .cells #[.int .i64 a1_0, .slice A1_1 l1_1.length c1_1] 25 (0, 0)) (bk_ BK247) hb)
           have n5_ := Aside0.mk (blk_below (g := gb259) (o := .cells #[.int .i64 t255, .slice Ao62 t256.length co62] 25 (0, 0)) (bk_ BK259) hb)
           have n6_ := Aside0.mk (below_step (by repeat (first | (with_reducible first | exact HB.out | apply below_alloc | apply pw_below_drewN | apply below_drew1 | refine below_set ?_ GE246.out | refine below_set ?_ GE247.out | refine below_set ?_ GE259.out) | exact HB.out)) hb)
           have n7_ := Aside0.mk (hbox)
           have n8_ := Aside0.mk ((by rw [hg]; exact (below_size (by repeat (first | (with_reducible first | exact HB.out | apply below_alloc | apply pw_below_drewN | apply below_drew1 | refine below_set ?_ GE246.out | refine below_set ?_ GE247.out | refine below_set ?_ GE259.out) | exact HB.out))) : w.heap.size ≤ gb272))
           have n9_ := Aside0.mk ((by rw [hg]; exact (below_size (by repeat (first | (with_reducible first | exact HB.out | apply below_alloc | apply pw_below_drewN | apply below_drew1 | refine below_set ?_ GE246.out | refine below_set ?_ GE247.out | refine below_set ?_ GE259.out) | exact HB.out))) : w.heap.size ≤ gb272))
           have n10_ := Aside0.mk ((by rw [hg]; exact Nat.ne_of_lt (blk_lt (g := gb246) (o := .cells #[.int .i64 a0_0, .slice A0_1 l0_1.length c0_1] 25 (0, 0)) (bk_ BK246)) : gb246 ≠ gb272))
           have n11_ := Aside0.mk ((by rw [hg]; exact Nat.ne_of_gt (blk_lt (g := gb246) (o := .cells #[.int .i64 a0_0, .slice A0_1 l0_1.length c0_1] 25 (0, 0)) (bk_ BK246)) : gb272 ≠ gb246))
           have n12_ := Aside0.mk ((by rw [hg]; exact Nat.ne_of_lt (blk_lt (g := gb247) (o := .cells #[.int .i64 a1_0, .slice A1_1 l1_1.length c1_1] 25 (0, 0)) (bk_ BK247)) : gb247 ≠ gb272))
           have n13_ := Aside0.mk ((by rw [hg]; exact Nat.ne_of_gt (blk_lt (g := gb247) (o := .cells #[.int .i64 a1_0, .slice A1_1 l1_1.length c1_1] 25 (0, 0)) (bk_ BK247)) : gb272 ≠ gb247))
           have n14_ := Aside0.mk ((by rw [hg]; exact Nat.ne_of_lt (blk_lt (g := gb259) (o := .cells #[.int .i64 t255, .slice Ao62 t256.length co62] 25 (0, 0)) (bk_ BK259)) : gb259 ≠ gb272))
           have n15_ := Aside0.mk ((by rw [hg]; exact Nat.ne_of_gt (blk_lt (g := gb259) (o := .cells #[.int .i64 t255, .slice Ao62 t256.length co62] 25 (0, 0)) (bk_ BK259)) : gb272 ≠ gb259))
           clear HO254
           clear HO258
           clear HO263
           clear BK246
           clear BK247
           clear BK259
           clear HB
           have HO254 := n0_
           have HO258 := n1_
           have HO263 := n2_
           have BK246 := n3_
           have BK247 := n4_
           have BK259 := n5_
           have HB := n6_
           have BK272 := n7_
           have GW272 := n8_
           have GE272 := n9_
           have NB246_272 := n10_
           have NB272_246 := n11_
           have NB247_272 := n12_
           have NB272_247 := n13_
           have NB259_272 := n14_
           have NB272_259 := n15_
           clear n0_ n1_ n2_ n3_ n4_ n5_ n6_ n7_ n8_ n9_ n10_ n11_ n12_ n13_ n14_ n15_
           clear hb hbox hg
           refine hK.out _ _ ⟨(blk_cell BK246.out 0).trans rfl, (blk_cell BK246.out 1).trans rfl, (blk_cell BK247.out 0).trans rfl, (blk_cell BK247.out 1).trans rfl⟩ (fun hHeld => ?_)
           clear hK K
           refine norm_ (a' := ?_) ?_ ?_
           rotate_left
           ·show Act.put _ (some 6) _ = _
            simp only [Act.put, List.setIfInBounds_toArray, List.set_cons_zero, List.set_cons_succ, i64_w, i32_w]
            rfl
           refine one_ (i := 3) (N := some 31) #[true, true, true, true, false, true, false] rfl rfl (by kernel_rfl) (by decide) (fun K hK => ?_)
           refine goes_ Tryd.func27 (by kernel_rfl) rfl #[.agg #[.int .i64 a1_0, .slice A1_1 l1_1.length c1_1]] (by (first | rfl | (simp only [*]; rfl) | (simp [*]; done))) rfl rfl ma_ ?_
           with_reducible refine (bitset_Not.calls kj2 a1_0 _ _ l1_1 t264 t265 _ ?side1 ?side2 A31.out).mono ?_
           (case side1 => exact ca_ (Kd.C_below HR1_1.out HB.out))
           (case side2 => exact HC1_1.out)
           rintro e w67 ⟨v266, rfl, ho0, hb⟩
           refine ⟨_, rfl, ?_⟩
           have n0_ := Aside0.mk (Kd.R_elder' (rb_ HO254) (Kd.R_base ho0) hb)
           have n1_ := Aside0.mk (Kd.R_elder' (rb_ HO258) (Kd.R_base ho0) hb)
           have n2_ := Aside0.mk (Kd.R_elder' (rb_ HO263) (Kd.R_base ho0) hb)
           have n3_ := Aside0.mk (Kd.R_lower (Kd.R_new' (Kd.R_new' (Kd.R_new' ho0 (Kd.R_lt (rb_ HO254))) (Kd.R_lt (rb_ HO258))) (Kd.R_lt (rb_ HO263))) (below_size (by repeat (first | (with_reducible first | exact HB.out | apply below_alloc | apply pw_below_drewN | apply below_drew1 | refine below_set ?_ GE246.out | refine below_set ?_ GE247.out | refine below_set ?_ GE259.out | refine below_set ?_ GE272.out) | exact HB.out))))
           have n4_ := Aside0.mk (blk_below (g := gb246) (o := .cells #[.int .i64 a0_0, .slice A0_1 l0_1.length c0_1] 25 (0, 0)) (bk_ BK246) hb)
           have n5_ := Aside0.mk (blk_below (g := gb247) (o := .cells #[.int .i64 a1_0, .slice A1_1 l1_1.length c1_1] 25 (0, 0)) (bk_ BK247) hb)
           have n6_ := Aside0.mk (blk_below (g := gb259) (o := .cells #[.int .i64 t255, .slice Ao62 t256.length co62] 25 (0, 0)) (bk_ BK259) hb)
           have n7_ := Aside0.mk (blk_below (g := gb272) (o := .cells #[.int .i64 0, .slice none 0 0] 25 (0, 0)) (bk_ BK272) hb)
           have n8_ := Aside0.mk (below_step (by repeat (first | (with_reducible first | exact HB.out | apply below_alloc | apply pw_below_drewN | apply below_drew1 | refine below_set ?_ GE246.out | refine below_set ?_ GE247.out | refine below_set ?_ GE259.out | refine below_set ?_ GE272.out) | exact HB.out)) hb)
           clear HO254
           clear HO258
           clear HO263
           clear BK246
           clear BK247
           clear BK259
           clear BK272
           clear HB
           have HO254 := n0_
           have HO258 := n1_
           have HO263 := n2_
           have HO267 := n3_
           have BK246 := n4_
           have BK247 := n5_
           have BK259 := n6_
           have BK272 := n7_
           have HB := n8_
           clear n0_ n1_ n2_ n3_ n4_ n5_ n6_ n7_ n8_
           (try clear hb)
           (try clear hb2)
           (try clear hk)
           (try clear hi)
           (try clear ho0)
           obtain ⟨Ao68, co68, eo68⟩ := Kd.R_slice HO263.out
           (first | subst eo68 | (injection eo68 with f1_ f2_ f3_; have f4_ := f1_.symm; have f5_ := f3_.symm; clear f1_ f2_ f3_; subst f4_; subst f5_))
           obtain ⟨Ao69, co69, eo69⟩ := Kd.R_slice HO267.out
           (first | subst eo69 | (injection eo69 with f1_ f2_ f3_; have f4_ := f1_.symm; have f5_ := f3_.symm; clear f1_ f2_ f3_; subst f4_; subst f5_))
           refine hK.out _ _ ⟨(blk_cell BK246.out 0).trans rfl, (blk_cell BK246.out 1).trans rfl, (blk_cell BK247.out 0).trans rfl, (blk_cell BK247.out 1).trans rfl⟩ (fun hHeld => ?_)
           clear hK K
           refine norm_ (a' := ?_) ?_ ?_
           rotate_left
           ·show Act.put _ (some 31) _ = _
            simp only [Act.put, List.setIfInBounds_toArray, List.set_cons_zero, List.set_cons_succ, i64_w, i32_w]
            rfl
           refine one_ (i := 4) (N := some 32) #[true, true, true, true, true, true, false] rfl rfl (by kernel_rfl) (by decide) (fun K hK => ?_)
           refine goes_ Tryd.func23 (by kernel_rfl) rfl #[.agg #[.int .i64 t260, .slice Ao68 t261.length co68], .agg #[.int .i64 t264, .slice Ao69 t265.length co69]] (by (first | rfl | (simp only [*]; rfl) | (simp [*]; done))) rfl rfl ma_ ?_
           with_reducible refine (bitset_Or.calls kj2 t260 _ _ t261 t264 _ _ t265 t268 t269 _ ?side1 ?side2 ?side3 ?side4 A32.out).mono ?_
           (case side1 => exact ca_ (Kd.R_reads' HO263.out).2.2)
           (case side2 => exact (Kd.R_reads' HO263.out).2.1)
           (case side3 => exact ca_ (Kd.R_reads' HO267.out).2.2)
           (case side4 => exact (Kd.R_reads' HO267.out).2.1)
           rintro e w70 ⟨v270, rfl, ho0, hb⟩
           refine ⟨_, rfl, ?_⟩
           have n0_ := Aside0.mk (Kd.R_elder' (rb_ HO254) (Kd.R_base ho0) hb)
           have n1_ := Aside0.mk (Kd.R_elder' (rb_ HO258) (Kd.R_base ho0) hb)
           have n2_ := Aside0.mk (Kd.R_elder' (rb_ HO263) (Kd.R_base ho0) hb)
           have n3_ := Aside0.mk (Kd.R_elder' (rb_ HO267) (Kd.R_base ho0) hb)
           have n4_ := Aside0.mk (Kd.R_lower (Kd.R_new' (Kd.R_new' (Kd.R_new' (Kd.R_new' ho0 (Kd.R_lt (rb_ HO254))) (Kd.R_lt (rb_ HO258))) (Kd.R_lt (rb_ HO263))) (Kd.R_lt (rb_ HO267))) (below_size (by repeat (first | (with_reducible first | exact HB.out | apply below_alloc | apply pw_below_drewN | apply below_drew1 | refine below_set ?_ GE246.out | refine below_set ?_ GE247.out | refine below_set ?_ GE259.out | refine below_set ?_ GE272.out) | exact HB.out))))
           have n5_ := Aside0.mk (blk_below (g := gb246) (o := .cells #[.int .i64 a0_0, .slice A0_1 l0_1.length c0_1] 25 (0, 0)) (bk_ BK246) hb)
           have n6_ := Aside0.mk (blk_below (g := gb247) (o := .cells #[.int .i64 a1_0, .slice A1_1 l1_1.length c1_1] 25 (0, 0)) (bk_ BK247) hb)
           have n7_ := Aside0.mk (blk_below (g := gb259) (o := .cells #[.int .i64 t255, .slice Ao62 t256.length co62] 25 (0, 0)) (bk_ BK259) hb)
           have n8_ := Aside0.mk (blk_below (g := gb272) (o := .cells #[.int .i64 0, .slice none 0 0] 25 (0, 0)) (bk_ BK272) hb)
           have n9_ := Aside0.mk (below_step (by repeat (first | (with_reducible first | exact HB.out | apply below_alloc | apply pw_below_drewN | apply below_drew1 | refine below_set ?_ GE246.out | refine below_set ?_ GE247.out | refine below_set ?_ GE259.out | refine below_set ?_ GE272.out) | exact HB.out)) hb)
           clear HO254
           clear HO258
           clear HO263
           clear HO267
           clear BK246
           clear BK247
           clear BK259
           clear BK272
           clear HB
           have HO254 := n0_
           have HO258 := n1_
           have HO263 := n2_
           have HO267 := n3_
           have HO271 := n4_
           have BK246 := n5_
           have BK247 := n6_
           have BK259 := n7_
           have BK272 := n8_
           have HB := n9_
           clear n0_ n1_ n2_ n3_ n4_ n5_ n6_ n7_ n8_ n9_
           (try clear hb)
           (try clear hb2)
           (try clear hk)
           (try clear hi)
           (try clear ho0)
           refine hK.out _ _ ⟨(blk_cell BK246.out 0).trans rfl, (blk_cell BK246.out 1).trans rfl, (blk_cell BK247.out 0).trans rfl, (blk_cell BK247.out 1).trans rfl⟩ (fun hHeld => ?_)
           clear hK K
           refine norm_ (a' := ?_) ?_ ?_
           rotate_left
           ·show Act.put _ (some 32) _ = _
            simp only [Act.put, List.setIfInBounds_toArray, List.set_cons_zero, List.set_cons_succ, i64_w, i32_w]
            rfl
           exact norm_ (by simp only [putAll, Act.put, List.setIfInBounds_toArray, List.set_cons_zero, List.set_cons_succ]) (hCont (.slice Ao68 t261.length co68, .slice Ao69 t265.length co69, v270, gb272) _ ⟨hHeld, (by (with_reducible repeat (first | apply Kd.R_alloc | apply Kd.R_drewN | apply Kd.R_drew)); exact Kd.R_mono HO254.out (fun _ hk => ⟨hk.1.1.1, ⟨hk.1.1.2, ⟨hk.1.2, hk.2⟩⟩⟩)), (by (with_reducible repeat (first | apply Kd.R_alloc | apply Kd.R_drewN | apply Kd.R_drew)); exact Kd.R_mono HO258.out (fun _ hk => ⟨hk.1.1.1, ⟨hk.1.1.2, ⟨hk.1.2, hk.2⟩⟩⟩)), (by (with_reducible repeat (first | apply Kd.R_alloc | apply Kd.R_drewN | apply Kd.R_drew)); exact Kd.R_mono HO263.out (fun _ hk => ⟨hk.1.1.1.2, ⟨hk.1.1.2, ⟨hk.1.2, hk.2⟩⟩⟩)), (by (with_reducible repeat (first | apply Kd.R_alloc | apply Kd.R_drewN | apply Kd.R_drew)); exact Kd.R_mono HO267.out (fun _ hk => ⟨hk.1.1.1.2, ⟨hk.1.1.2, ⟨hk.1.2, hk.2⟩⟩⟩)), (by (with_reducible repeat (first | apply Kd.R_alloc | apply Kd.R_drewN | apply Kd.R_drew)); exact Kd.R_mono HO271.out (fun _ hk => ⟨hk.1.1.1.2, ⟨hk.1.1.2, ⟨hk.1.2, hk.2⟩⟩⟩)), (bk_ BK246), (bk_ BK247), (bk_ BK259), (bk_ BK272), GW272.out, GE272.out, NB246_272.out, NB272_246.out, NB247_272.out, NB272_247.out, NB259_272.out, NB272_259.out, (by repeat (first | (with_reducible first | exact HB.out | apply below_alloc | apply pw_below_drewN | apply below_drew1 | refine below_set ?_ GE246.out | refine below_set ?_ GE247.out | refine below_set ?_ GE259.out | refine below_set ?_ GE272.out) | exact HB.out))⟩)
         ·skip
          refine box_step ?hg (N := 6) ?hd (cs := #[.int .i64 0, .slice none 0 0]) (t := 25) ?hr ?_; (case hd => rfl); (case hg => exact fs_); (case hr => first | (go_simp; done) | (go_simp; rfl))
          intro gb272 hg w65 hbox hb
          have n0_ := Aside0.mk (Kd.R_below (rb_ HO254) hb)
          have n1_ := Aside0.mk (Kd.R_below (rb_ HO258) hb)
          have n2_ := Aside0.mk (blk_below (g := gb246) (o := .cells #[.int .i64 a0_0, .slice A0_1 l0_1.length c0_1] 25 (0, 0)) (bk_ BK246) hb)
          have n3_ := Aside0.mk (blk_below (g := gb247) (o := .cells #[.int .i64 a1_0, .slice A1_1 l1_1.length c1_1] 25 (0, 0)) (bk_ BK247) hb)
          have n4_ := Aside0.mk (blk_below (g := gb259) (o := .cells #[.int .i64 t255, .slice Ao62 t256.length co62] 25 (0, 0)) (bk_ BK259) hb)
          have n5_ := Aside0.mk (below_step (by repeat (first | (with_reducible first | exact HB.out | apply below_alloc | apply pw_below_drewN | apply below_drew1 | refine below_set ?_ GE246.out | refine below_set ?_ GE247.out | refine below_set ?_ GE259.out) | exact HB.out)) hb)
          have n6_ := Aside0.mk (hbox)
          have n7_ := Aside0.mk ((by rw [hg]; exact (below_size (by repeat (first | (with_reducible first | exact HB.out | apply below_alloc | apply pw_below_drewN | apply below_drew1 | refine below_set ?_ GE246.out | refine below_set ?_ GE247.out | refine below_set ?_ GE259.out) | exact HB.out))) : w.heap.size ≤ gb272))
          have n8_ := Aside0.mk ((by rw [hg]; exact (below_size (by repeat (first | (with_reducible first | exact HB.out | apply below_alloc | apply pw_below_drewN | apply below_drew1 | refine below_set ?_ GE246.out | refine below_set ?_ GE247.out | refine below_set ?_ GE259.out) | exact HB.out))) : w.heap.size ≤ gb272))
          have n9_ := Aside0.mk ((by rw [hg]; exact Nat.ne_of_lt (blk_lt (g := gb246) (o := .cells #[.int .i64 a0_0, .slice A0_1 l0_1.length c0_1] 25 (0, 0)) (bk_ BK246)) : gb246 ≠ gb272))
          have n10_ := Aside0.mk ((by rw [hg]; exact Nat.ne_of_gt (blk_lt (g := gb246) (o := .cells #[.int .i64 a0_0, .slice A0_1 l0_1.length c0_1] 25 (0, 0)) (bk_ BK246)) : gb272 ≠ gb246))
          have n11_ := Aside0.mk ((by rw [hg]; exact Nat.ne_of_lt (blk_lt (g := gb247) (o := .cells #[.int .i64 a1_0, .slice A1_1 l1_1.length c1_1] 25 (0, 0)) (bk_ BK247)) : gb247 ≠ gb272))
          have n12_ := Aside0.mk ((by rw [hg]; exact Nat.ne_of_gt (blk_lt (g := gb247) (o := .cells #[.int .i64 a1_0, .slice A1_1 l1_1.length c1_1] 25 (0, 0)) (bk_ BK247)) : gb272 ≠ gb247))
          have n13_ := Aside0.mk ((by rw [hg]; exact Nat.ne_of_lt (blk_lt (g := gb259) (o := .cells #[.int .i64 t255, .slice Ao62 t256.length co62] 25 (0, 0)) (bk_ BK259)) : gb259 ≠ gb272))
          have n14_ := Aside0.mk ((by rw [hg]; exact Nat.ne_of_gt (blk_lt (g := gb259) (o := .cells #[.int .i64 t255, .slice Ao62 t256.length co62] 25 (0, 0)) (bk_ BK259)) : gb272 ≠ gb259))
          clear HO254
          clear HO258
          clear BK246
          clear BK247
          clear BK259
          clear HB
          have HO254 := n0_
          have HO258 := n1_
          have BK246 := n2_
          have BK247 := n3_
          have BK259 := n4_
          have HB := n5_
          have BK272 := n6_
          have GW272 := n7_
          have GE272 := n8_
          have NB246_272 := n9_
          have NB272_246 := n10_
          have NB247_272 := n11_
          have NB272_247 := n12_
          have NB259_272 := n13_
          have NB272_259 := n14_
          clear n0_ n1_ n2_ n3_ n4_ n5_ n6_ n7_ n8_ n9_ n10_ n11_ n12_ n13_ n14_
          clear hb hbox hg
          refine hK.out _ _ ⟨(blk_cell BK246.out 0).trans rfl, (blk_cell BK246.out 1).trans rfl, (blk_cell BK247.out 0).trans rfl, (blk_cell BK247.out 1).trans rfl⟩ (fun hHeld => ?_)
          clear hK K
          refine norm_ (a' := ?_) ?_ ?_
          rotate_left
          ·show Act.put _ (some 6) _ = _
           simp only [Act.put, List.setIfInBounds_toArray, List.set_cons_zero, List.set_cons_succ, i64_w, i32_w]
           rfl
          refine one_ (i := 1) (N := some 29) #[true, true, true, false, false, true, false] rfl rfl (by kernel_rfl) (by decide) (fun K hK => ?_)
          refine goes_ Tryd.func27 (by kernel_rfl) rfl #[.agg #[.int .i64 a0_0, .slice A0_1 l0_1.length c0_1]] (by (first | rfl | (simp only [*]; rfl) | (simp [*]; done))) rfl rfl ma_ ?_
          with_reducible refine (bitset_Not.calls kj2 a0_0 _ _ l0_1 t260 t261 _ ?side1 ?side2 A30.out).mono ?_
          (case side1 => exact ca_ (Kd.C_below HR0_1.out HB.out))
          (case side2 => exact HC0_1.out)
          rintro e w66 ⟨v262, rfl, ho0, hb⟩
          refine ⟨_, rfl, ?_⟩
          have n0_ := Aside0.mk (Kd.R_elder' (rb_ HO254) (Kd.R_base ho0) hb)
          have n1_ := Aside0.mk (Kd.R_elder' (rb_ HO258) (Kd.R_base ho0) hb)
          have n2_ := Aside0.mk (Kd.R_lower (Kd.R_new' (Kd.R_new' ho0 (Kd.R_lt (rb_ HO254))) (Kd.R_lt (rb_ HO258))) (below_size (by repeat (first | (with_reducible first | exact HB.out | apply below_alloc | apply pw_below_drewN | apply below_drew1 | refine below_set ?_ GE246.out | refine below_set ?_ GE247.out | refine below_set ?_ GE259.out | refine below_set ?_ GE272.out) | exact HB.out))))
          have n3_ := Aside0.mk (blk_below (g := gb246) (o := .cells #[.int .i64 a0_0, .slice A0_1 l0_1.length c0_1] 25 (0, 0)) (bk_ BK246) hb)
          have n4_ := Aside0.mk (blk_below (g := gb247) (o := .cells #[.int .i64 a1_0, .slice A1_1 l1_1.length c1_1] 25 (0, 0)) (bk_ BK247) hb)
          have n5_ := Aside0.mk (blk_below (g := gb259) (o := .cells #[.int .i64 t255, .slice Ao62 t256.length co62] 25 (0, 0)) (bk_ BK259) hb)
          have n6_ := Aside0.mk (blk_below (g := gb272) (o := .cells #[.int .i64 0, .slice none 0 0] 25 (0, 0)) (bk_ BK272) hb)
          have n7_ := Aside0.mk (below_step (by repeat (first | (with_reducible first | exact HB.out | apply below_alloc | apply pw_below_drewN | apply below_drew1 | refine below_set ?_ GE246.out | refine below_set ?_ GE247.out | refine below_set ?_ GE259.out | refine below_set ?_ GE272.out) | exact HB.out)) hb)
          clear HO254
          clear HO258
          clear BK246
          clear BK247
          clear BK259
          clear BK272
          clear HB
          have HO254 := n0_
          have HO258 := n1_
          have HO263 := n2_
          have BK246 := n3_
          have BK247 := n4_
          have BK259 := n5_
          have BK272 := n6_
          have HB := n7_
          clear n0_ n1_ n2_ n3_ n4_ n5_ n6_ n7_
          (try clear hb)
          (try clear hb2)
          (try clear hk)
          (try clear hi)
          (try clear ho0)
          refine hK.out _ _ ⟨(blk_cell BK246.out 0).trans rfl, (blk_cell BK246.out 1).trans rfl, (blk_cell BK247.out 0).trans rfl, (blk_cell BK247.out 1).trans rfl⟩ (fun hHeld => ?_)
          clear hK K
          refine norm_ (a' := ?_) ?_ ?_
          rotate_left
          ·show Act.put _ (some 29) _ = _
           simp only [Act.put, List.setIfInBounds_toArray, List.set_cons_zero, List.set_cons_succ, i64_w, i32_w]
           rfl
          refine one_ (i := 3) (N := some 31) #[true, true, true, true, false, true, false] rfl rfl (by kernel_rfl) (by decide) (fun K hK => ?_)
          refine goes_ Tryd.func27 (by kernel_rfl) rfl #[.agg #[.int .i64 a1_0, .slice A1_1 l1_1.length c1_1]] (by (first | rfl | (simp only [*]; rfl) | (simp [*]; done))) rfl rfl ma_ ?_
          with_reducible refine (bitset_Not.calls kj2 a1_0 _ _ l1_1 t264 t265 _ ?side1 ?side2 A31.out).mono ?_
          (case side1 => exact ca_ (Kd.C_below HR1_1.out HB.out))
          (case side2 => exact HC1_1.out)
          rintro e w67 ⟨v266, rfl, ho0, hb⟩
          refine ⟨_, rfl, ?_⟩
          have n0_ := Aside0.mk (Kd.R_elder' (rb_ HO254) (Kd.R_base ho0) hb)
          have n1_ := Aside0.mk (Kd.R_elder' (rb_ HO258) (Kd.R_base ho0) hb)
          have n2_ := Aside0.mk (Kd.R_elder' (rb_ HO263) (Kd.R_base ho0) hb)
          have n3_ := Aside0.mk (Kd.R_lower (Kd.R_new' (Kd.R_new' (Kd.R_new' ho0 (Kd.R_lt (rb_ HO254))) (Kd.R_lt (rb_ HO258))) (Kd.R_lt (rb_ HO263))) (below_size (by repeat (first | (with_reducible first | exact HB.out | apply below_alloc | apply pw_below_drewN | apply below_drew1 | refine below_set ?_ GE246.out | refine below_set ?_ GE247.out | refine below_set ?_ GE259.out | refine below_set ?_ GE272.out) | exact HB.out))))
          have n4_ := Aside0.mk (blk_below (g := gb246) (o := .cells #[.int .i64 a0_0, .slice A0_1 l0_1.length c0_1] 25 (0, 0)) (bk_ BK246) hb)
          have n5_ := Aside0.mk (blk_below (g := gb247) (o := .cells #[.int .i64 a1_0, .slice A1_1 l1_1.length c1_1] 25 (0, 0)) (bk_ BK247) hb)
          have n6_ := Aside0.mk (blk_below (g := gb259) (o := .cells #[.int .i64 t255, .slice Ao62 t256.length co62] 25 (0, 0)) (bk_ BK259) hb)
          have n7_ := Aside0.mk (blk_below (g := gb272) (o := .cells #[.int .i64 0, .slice none 0 0] 25 (0, 0)) (bk_ BK272) hb)
          have n8_ := Aside0.mk (below_step (by repeat (first | (with_reducible first | exact HB.out | apply below_alloc | apply pw_below_drewN | apply below_drew1 | refine below_set ?_ GE246.out | refine below_set ?_ GE247.out | refine below_set ?_ GE259.out | refine below_set ?_ GE272.out) | exact HB.out)) hb)
          clear HO254
          clear HO258
          clear HO263
          clear BK246
          clear BK247
          clear BK259
          clear BK272
          clear HB
          have HO254 := n0_
          have HO258 := n1_
          have HO263 := n2_
          have HO267 := n3_
          have BK246 := n4_
          have BK247 := n5_
          have BK259 := n6_
          have BK272 := n7_
          have HB := n8_
          clear n0_ n1_ n2_ n3_ n4_ n5_ n6_ n7_ n8_
          (try clear hb)
          (try clear hb2)
          (try clear hk)
          (try clear hi)
          (try clear ho0)
          obtain ⟨Ao68, co68, eo68⟩ := Kd.R_slice HO263.out
          (first | subst eo68 | (injection eo68 with f1_ f2_ f3_; have f4_ := f1_.symm; have f5_ := f3_.symm; clear f1_ f2_ f3_; subst f4_; subst f5_))
          obtain ⟨Ao69, co69, eo69⟩ := Kd.R_slice HO267.out
          (first | subst eo69 | (injection eo69 with f1_ f2_ f3_; have f4_ := f1_.symm; have f5_ := f3_.symm; clear f1_ f2_ f3_; subst f4_; subst f5_))
          refine hK.out _ _ ⟨(blk_cell BK246.out 0).trans rfl, (blk_cell BK246.out 1).trans rfl, (blk_cell BK247.out 0).trans rfl, (blk_cell BK247.out 1).trans rfl⟩ (fun hHeld => ?_)
          clear hK K
          refine norm_ (a' := ?_) ?_ ?_
          rotate_left
          ·show Act.put _ (some 31) _ = _
           simp only [Act.put, List.setIfInBounds_toArray, List.set_cons_zero, List.set_cons_succ, i64_w, i32_w]
           rfl
          refine one_ (i := 4) (N := some 32) #[true, true, true, true, true, true, false] rfl rfl (by kernel_rfl) (by decide) (fun K hK => ?_)
          refine goes_ Tryd.func23 (by kernel_rfl) rfl #[.agg #[.int .i64 t260, .slice Ao68 t261.length co68], .agg #[.int .i64 t264, .slice Ao69 t265.length co69]] (by (first | rfl | (simp only [*]; rfl) | (simp [*]; done))) rfl rfl ma_ ?_
          with_reducible refine (bitset_Or.calls kj2 t260 _ _ t261 t264 _ _ t265 t268 t269 _ ?side1 ?side2 ?side3 ?side4 A32.out).mono ?_
          (case side1 => exact ca_ (Kd.R_reads' HO263.out).2.2)
          (case side2 => exact (Kd.R_reads' HO263.out).2.1)
          (case side3 => exact ca_ (Kd.R_reads' HO267.out).2.2)
          (case side4 => exact (Kd.R_reads' HO267.out).2.1)
          rintro e w70 ⟨v270, rfl, ho0, hb⟩
          refine ⟨_, rfl, ?_⟩
          have n0_ := Aside0.mk (Kd.R_elder' (rb_ HO254) (Kd.R_base ho0) hb)
          have n1_ := Aside0.mk (Kd.R_elder' (rb_ HO258) (Kd.R_base ho0) hb)
          have n2_ := Aside0.mk (Kd.R_elder' (rb_ HO263) (Kd.R_base ho0) hb)
          have n3_ := Aside0.mk (Kd.R_elder' (rb_ HO267) (Kd.R_base ho0) hb)
          have n4_ := Aside0.mk (Kd.R_lower (Kd.R_new' (Kd.R_new' (Kd.R_new' (Kd.R_new' ho0 (Kd.R_lt (rb_ HO254))) (Kd.R_lt (rb_ HO258))) (Kd.R_lt (rb_ HO263))) (Kd.R_lt (rb_ HO267))) (below_size (by repeat (first | (with_reducible first | exact HB.out | apply below_alloc | apply pw_below_drewN | apply below_drew1 | refine below_set ?_ GE246.out | refine below_set ?_ GE247.out | refine below_set ?_ GE259.out | refine below_set ?_ GE272.out) | exact HB.out))))
          have n5_ := Aside0.mk (blk_below (g := gb246) (o := .cells #[.int .i64 a0_0, .slice A0_1 l0_1.length c0_1] 25 (0, 0)) (bk_ BK246) hb)
          have n6_ := Aside0.mk (blk_below (g := gb247) (o := .cells #[.int .i64 a1_0, .slice A1_1 l1_1.length c1_1] 25 (0, 0)) (bk_ BK247) hb)
          have n7_ := Aside0.mk (blk_below (g := gb259) (o := .cells #[.int .i64 t255, .slice Ao62 t256.length co62] 25 (0, 0)) (bk_ BK259) hb)
          have n8_ := Aside0.mk (blk_below (g := gb272) (o := .cells #[.int .i64 0, .slice none 0 0] 25 (0, 0)) (bk_ BK272) hb)
          have n9_ := Aside0.mk (below_step (by repeat (first | (with_reducible first | exact HB.out | apply below_alloc | apply pw_below_drewN | apply below_drew1 | refine below_set ?_ GE246.out | refine below_set ?_ GE247.out | refine below_set ?_ GE259.out | refine below_set ?_ GE272.out) | exact HB.out)) hb)
          clear HO254
          clear HO258
          clear HO263
          clear HO267
          clear BK246
          clear BK247
          clear BK259
          clear BK272
          clear HB
          have HO254 := n0_
          have HO258 := n1_
          have HO263 := n2_
          have HO267 := n3_
          have HO271 := n4_
          have BK246 := n5_
          have BK247 := n6_
          have BK259 := n7_
          have BK272 := n8_
          have HB := n9_
          clear n0_ n1_ n2_ n3_ n4_ n5_ n6_ n7_ n8_ n9_
          (try clear hb)
          (try clear hb2)
          (try clear hk)
          (try clear hi)
          (try clear ho0)
          refine hK.out _ _ ⟨(blk_cell BK246.out 0).trans rfl, (blk_cell BK246.out 1).trans rfl, (blk_cell BK247.out 0).trans rfl, (blk_cell BK247.out 1).trans rfl⟩ (fun hHeld => ?_)
          clear hK K
          refine norm_ (a' := ?_) ?_ ?_
          rotate_left
          ·show Act.put _ (some 32) _ = _
           simp only [Act.put, List.setIfInBounds_toArray, List.set_cons_zero, List.set_cons_succ, i64_w, i32_w]
           rfl
          exact norm_ (by simp only [putAll, Act.put, List.setIfInBounds_toArray, List.set_cons_zero, List.set_cons_succ]) (hCont (.slice Ao68 t261.length co68, .slice Ao69 t265.length co69, v270, gb272) _ ⟨hHeld, (by (with_reducible repeat (first | apply Kd.R_alloc | apply Kd.R_drewN | apply Kd.R_drew)); exact Kd.R_mono HO254.out (fun _ hk => ⟨hk.1.1.1, ⟨hk.1.1.2, ⟨hk.1.2, hk.2⟩⟩⟩)), (by (with_reducible repeat (first | apply Kd.R_alloc | apply Kd.R_drewN | apply Kd.R_drew)); exact Kd.R_mono HO258.out (fun _ hk => ⟨hk.1.1.1, ⟨hk.1.1.2, ⟨hk.1.2, hk.2⟩⟩⟩)), (by (with_reducible repeat (first | apply Kd.R_alloc | apply Kd.R_drewN | apply Kd.R_drew)); exact Kd.R_mono HO263.out (fun _ hk => ⟨hk.1.1.1.2, ⟨hk.1.1.2, ⟨hk.1.2, hk.2⟩⟩⟩)), (by (with_reducible repeat (first | apply Kd.R_alloc | apply Kd.R_drewN | apply Kd.R_drew)); exact Kd.R_mono HO267.out (fun _ hk => ⟨hk.1.1.1.2, ⟨hk.1.1.2, ⟨hk.1.2, hk.2⟩⟩⟩)), (by (with_reducible repeat (first | apply Kd.R_alloc | apply Kd.R_drewN | apply Kd.R_drew)); exact Kd.R_mono HO271.out (fun _ hk => ⟨hk.1.1.1.2, ⟨hk.1.1.2, ⟨hk.1.2, hk.2⟩⟩⟩)), (bk_ BK246), (bk_ BK247), (bk_ BK259), (bk_ BK272), GW272.out, GE272.out, NB246_272.out, NB272_246.out, NB247_272.out, NB272_247.out, NB259_272.out, NB272_259.out, (by repeat (first | (with_reducible first | exact HB.out | apply below_alloc | apply pw_below_drewN | apply below_drew1 | refine below_set ?_ GE246.out | refine below_set ?_ GE247.out | refine below_set ?_ GE259.out | refine below_set ?_ GE272.out) | exact HB.out))⟩)
        rintro ⟨v262, v266, v270, gb272⟩ w71 ⟨hS_, h0_, h1_, h2_, h3_, h4_, h5_, h6_, h7_, h8_, h9_, h10_, h11_, h12_, h13_, h14_, h15_, h16_, h17_⟩
        have n0_ : Aside0 (Kd.R (Kd.int .u64) 56 w71 w.heap.size (fun k_ => some k_ ≠ (.slice Ao62 t256.length co62 : Value).ownBlock ∧ some k_ ≠ (v262 : Value).ownBlock ∧ some k_ ≠ (v266 : Value).ownBlock ∧ some k_ ≠ (v270 : Value).ownBlock) (.slice Ao56 t252.length co56) t252) := ⟨h0_⟩
        have n1_ : Aside0 (Kd.R (Kd.int .u64) 56 w71 w.heap.size (fun k_ => some k_ ≠ (.slice Ao56 t252.length co56 : Value).ownBlock ∧ some k_ ≠ (v262 : Value).ownBlock ∧ some k_ ≠ (v266 : Value).ownBlock ∧ some k_ ≠ (v270 : Value).ownBlock) (.slice Ao62 t256.length co62) t256) := ⟨h1_⟩
        have n2_ : Aside0 (Kd.R (Kd.int .u64) 56 w71 w.heap.size (fun k_ => some k_ ≠ (.slice Ao56 t252.length co56 : Value).ownBlock ∧ some k_ ≠ (.slice Ao62 t256.length co62 : Value).ownBlock ∧ some k_ ≠ (v266 : Value).ownBlock ∧ some k_ ≠ (v270 : Value).ownBlock) v262 t261) := ⟨h2_⟩
        have n3_ : Aside0 (Kd.R (Kd.int .u64) 56 w71 w.heap.size (fun k_ => some k_ ≠ (.slice Ao56 t252.length co56 : Value).ownBlock ∧ some k_ ≠ (.slice Ao62 t256.length co62 : Value).ownBlock ∧ some k_ ≠ (v262 : Value).ownBlock ∧ some k_ ≠ (v270 : Value).ownBlock) v266 t265) := ⟨h3_⟩
        have n4_ : Aside0 (Kd.R (Kd.int .u64) 56 w71 w.heap.size (fun k_ => some k_ ≠ (.slice Ao56 t252.length co56 : Value).ownBlock ∧ some k_ ≠ (.slice Ao62 t256.length co62 : Value).ownBlock ∧ some k_ ≠ (v262 : Value).ownBlock ∧ some k_ ≠ (v266 : Value).ownBlock) v270 t269) := ⟨h4_⟩
        have n5_ : Aside0 (w71.heap[gb246]? = some (.cells #[.int .i64 a0_0, .slice A0_1 l0_1.length c0_1] 25 (0, 0))) := ⟨h5_⟩
        have n6_ : Aside0 (w71.heap[gb247]? = some (.cells #[.int .i64 a1_0, .slice A1_1 l1_1.length c1_1] 25 (0, 0))) := ⟨h6_⟩
        have n7_ : Aside0 (w71.heap[gb259]? = some (.cells #[.int .i64 t255, .slice Ao62 t256.length co62] 25 (0, 0))) := ⟨h7_⟩
        have n8_ : Aside0 (w71.heap[gb272]? = some (.cells #[.int .i64 0, .slice none 0 0] 25 (0, 0))) := ⟨h8_⟩
        have n9_ : Aside0 (w.heap.size ≤ gb272) := ⟨h9_⟩
        have n10_ : Aside0 (w.heap.size ≤ gb272) := ⟨h10_⟩
        have n11_ : Aside0 (gb246 ≠ gb272) := ⟨h11_⟩
        have n12_ : Aside0 (gb272 ≠ gb246) := ⟨h12_⟩
        have n13_ : Aside0 (gb247 ≠ gb272) := ⟨h13_⟩
        have n14_ : Aside0 (gb272 ≠ gb247) := ⟨h14_⟩
        have n15_ : Aside0 (gb259 ≠ gb272) := ⟨h15_⟩
        have n16_ : Aside0 (gb272 ≠ gb259) := ⟨h16_⟩
        have n17_ : Aside0 (Below w.heap.size w w71) := ⟨h17_⟩
        clear HO254
        clear HO258
        clear BK246
        clear BK247
        clear BK259
        clear HB
        clear h0_ h1_ h2_ h3_ h4_ h5_ h6_ h7_ h8_ h9_ h10_ h11_ h12_ h13_ h14_ h15_ h16_ h17_
        have HO254 := n0_
        have HO258 := n1_
        have HO263 := n2_
        have HO267 := n3_
        have HO271 := n4_
        have BK246 := n5_
        have BK247 := n6_
        have BK259 := n7_
        have BK272 := n8_
        have GW272 := n9_
        have GE272 := n10_
        have NB246_272 := n11_
        have NB272_246 := n12_
        have NB247_272 := n13_
        have NB272_247 := n14_
        have NB259_272 := n15_
        have NB272_259 := n16_
        have HB := n17_
        clear n0_ n1_ n2_ n3_ n4_ n5_ n6_ n7_ n8_ n9_ n10_ n11_ n12_ n13_ n14_ n15_ n16_ n17_
        have hHeld : w71.cell? ⟨gb246, 0, none⟩ = some (.int .i64 a0_0) ∧ w71.cell? ⟨gb246, 1, none⟩ = some (.slice A0_1 l0_1.length c0_1) ∧ w71.cell? ⟨gb247, 0, none⟩ = some (.int .i64 a1_0) ∧ w71.cell? ⟨gb247, 1, none⟩ = some (.slice A1_1 l1_1.length c1_1) := hS_
        obtain ⟨Ao73, co73, eo73⟩ := Kd.R_slice HO271.out
        (first | subst eo73 | (injection eo73 with f1_ f2_ f3_; have f4_ := f1_.symm; have f5_ := f3_.symm; clear f1_ f2_ f3_; subst f4_; subst f5_))
        refine norm_ (a' := ?_) ?_ ?_
        rotate_left
        ·simp only [putAll, Act.put, List.setIfInBounds_toArray, List.set_cons_zero, List.set_cons_succ]
         rfl
        refine one_ (i := 6) (N := none) #[true, true, true, true, true, true, true] rfl rfl (by kernel_rfl) (by decide) (fun K hK => ?_)
        have hs72 : w71.cell? ⟨gb272, 0, none⟩ = some (.int .i64 0) := (blk_cell BK272.out 0).trans rfl
        have hfs72 := blk_frozen BK272.out 0
        have hns72_0 := NB246_272.out
        have hns72_1 := NB247_272.out
        have hns72_2 := NB259_272.out
        have hms72_0 := NB272_246.out
        have hms72_1 := NB272_247.out
        have hms72_2 := NB272_259.out
        have hs74 : w71.cell? ⟨gb272, 1, none⟩ = some (.slice none 0 0) := (blk_cell BK272.out 1).trans rfl
        have hfs74 := blk_frozen BK272.out 1
        have hns74_0 := NB246_272.out
        have hns74_1 := NB247_272.out
        have hns74_2 := NB259_272.out
        have hms74_0 := NB272_246.out
        have hms74_1 := NB272_247.out
        have hms74_2 := NB272_259.out
        refine skip_ (w1 := ?_) (by rfl) rfl ?_ ?_
        rotate_left
        ·go_simp
         rfl
        refine hK.out _ _ ⟨((cell_far (p := ⟨gb272, _, none⟩) NB246_272.out _).trans (((cell_far (p := ⟨gb272, _, none⟩) NB246_272.out _).trans (hHeld.1)))), ((cell_far (p := ⟨gb272, _, none⟩) NB246_272.out _).trans (((cell_far (p := ⟨gb272, _, none⟩) NB246_272.out _).trans (hHeld.2.1)))), ((cell_far (p := ⟨gb272, _, none⟩) NB247_272.out _).trans (((cell_far (p := ⟨gb272, _, none⟩) NB247_272.out _).trans (hHeld.2.2.1)))), ((cell_far (p := ⟨gb272, _, none⟩) NB247_272.out _).trans (((cell_far (p := ⟨gb272, _, none⟩) NB247_272.out _).trans (hHeld.2.2.2))))⟩ (fun hHeld => ?_)
        clear hK K
        refine done_ (by kernel_rfl) ?_
        try go_wp2
        have n0_ : Aside0 (Kd.R (Kd.int .u64) 56 ((w71.setCell ⟨gb272, 0, none⟩ (.int .i64 t268)).setCell ⟨gb272, 1, none⟩ (.slice Ao73 t269.length co73)) w.heap.size (fun k_ => some k_ ≠ (.slice Ao62 t256.length co62 : Value).ownBlock ∧ some k_ ≠ (v262 : Value).ownBlock ∧ some k_ ≠ (v266 : Value).ownBlock ∧ some k_ ≠ (.slice Ao73 t269.length co73 : Value).ownBlock) (.slice Ao56 t252.length co56) t252) := ⟨by (with_reducible repeat (first | apply Kd.R_alloc | apply Kd.R_drewN | apply Kd.R_drew)); exact Kd.R_mono (Kd.R_far (p := ⟨gb272, 1, none⟩) (Kd.R_far (p := ⟨gb272, 0, none⟩) (Kd.R_types HO254.out BK272.out (by decide)) (fun _ hk => hk.2) (.int .i64 t268)) (fun _ hk => hk.2) (.slice Ao73 t269.length co73)) (fun _ hk => ⟨hk.1.1, ⟨hk.1.2.1, ⟨hk.1.2.2.1, hk.1.2.2.2⟩⟩⟩)⟩
        have n1_ : Aside0 (Kd.R (Kd.int .u64) 56 ((w71.setCell ⟨gb272, 0, none⟩ (.int .i64 t268)).setCell ⟨gb272, 1, none⟩ (.slice Ao73 t269.length co73)) w.heap.size (fun k_ => some k_ ≠ (.slice Ao56 t252.length co56 : Value).ownBlock ∧ some k_ ≠ (v262 : Value).ownBlock ∧ some k_ ≠ (v266 : Value).ownBlock ∧ some k_ ≠ (.slice Ao73 t269.length co73 : Value).ownBlock) (.slice Ao62 t256.length co62) t256) := ⟨by (with_reducible repeat (first | apply Kd.R_alloc | apply Kd.R_drewN | apply Kd.R_drew)); exact Kd.R_mono (Kd.R_far (p := ⟨gb272, 1, none⟩) (Kd.R_far (p := ⟨gb272, 0, none⟩) (Kd.R_types HO258.out BK272.out (by decide)) (fun _ hk => hk.2) (.int .i64 t268)) (fun _ hk => hk.2) (.slice Ao73 t269.length co73)) (fun _ hk => ⟨hk.1.1, ⟨hk.1.2.1, ⟨hk.1.2.2.1, hk.1.2.2.2⟩⟩⟩)⟩
        have n2_ : Aside0 (Kd.R (Kd.int .u64) 56 ((w71.setCell ⟨gb272, 0, none⟩ (.int .i64 t268)).setCell ⟨gb272, 1, none⟩ (.slice Ao73 t269.length co73)) w.heap.size (fun k_ => some k_ ≠ (.slice Ao56 t252.length co56 : Value).ownBlock ∧ some k_ ≠ (.slice Ao62 t256.length co62 : Value).ownBlock ∧ some k_ ≠ (v266 : Value).ownBlock ∧ some k_ ≠ (.slice Ao73 t269.length co73 : Value).ownBlock) v262 t261) := ⟨by (with_reducible repeat (first | apply Kd.R_alloc | apply Kd.R_drewN | apply Kd.R_drew)); exact Kd.R_mono (Kd.R_far (p := ⟨gb272, 1, none⟩) (Kd.R_far (p := ⟨gb272, 0, none⟩) (Kd.R_types HO263.out BK272.out (by decide)) (fun _ hk => hk.2) (.int .i64 t268)) (fun _ hk => hk.2) (.slice Ao73 t269.length co73)) (fun _ hk => ⟨hk.1.1, ⟨hk.1.2.1, ⟨hk.1.2.2.1, hk.1.2.2.2⟩⟩⟩)⟩
        have n3_ : Aside0 (Kd.R (Kd.int .u64) 56 ((w71.setCell ⟨gb272, 0, none⟩ (.int .i64 t268)).setCell ⟨gb272, 1, none⟩ (.slice Ao73 t269.length co73)) w.heap.size (fun k_ => some k_ ≠ (.slice Ao56 t252.length co56 : Value).ownBlock ∧ some k_ ≠ (.slice Ao62 t256.length co62 : Value).ownBlock ∧ some k_ ≠ (v262 : Value).ownBlock ∧ some k_ ≠ (.slice Ao73 t269.length co73 : Value).ownBlock) v266 t265) := ⟨by (with_reducible repeat (first | apply Kd.R_alloc | apply Kd.R_drewN | apply Kd.R_drew)); exact Kd.R_mono (Kd.R_far (p := ⟨gb272, 1, none⟩) (Kd.R_far (p := ⟨gb272, 0, none⟩) (Kd.R_types HO267.out BK272.out (by decide)) (fun _ hk => hk.2) (.int .i64 t268)) (fun _ hk => hk.2) (.slice Ao73 t269.length co73)) (fun _ hk => ⟨hk.1.1, ⟨hk.1.2.1, ⟨hk.1.2.2.1, hk.1.2.2.2⟩⟩⟩)⟩
        have n4_ : Aside0 (Kd.R (Kd.int .u64) 56 ((w71.setCell ⟨gb272, 0, none⟩ (.int .i64 t268)).setCell ⟨gb272, 1, none⟩ (.slice Ao73 t269.length co73)) w.heap.size (fun k_ => some k_ ≠ (.slice Ao56 t252.length co56 : Value).ownBlock ∧ some k_ ≠ (.slice Ao62 t256.length co62 : Value).ownBlock ∧ some k_ ≠ (v262 : Value).ownBlock ∧ some k_ ≠ (v266 : Value).ownBlock) (.slice Ao73 t269.length co73) t269) := ⟨by (with_reducible repeat (first | apply Kd.R_alloc | apply Kd.R_drewN | apply Kd.R_drew)); exact Kd.R_mono (Kd.R_far (p := ⟨gb272, 1, none⟩) (Kd.R_far (p := ⟨gb272, 0, none⟩) (Kd.R_types HO271.out BK272.out (by decide)) (fun _ hk => hk.2) (.int .i64 t268)) (fun _ hk => hk.2) (.slice Ao73 t269.length co73)) (fun _ hk => ⟨hk.1.1, ⟨hk.1.2.1, ⟨hk.1.2.2.1, hk.1.2.2.2⟩⟩⟩)⟩
        have n5_ : Aside0 (((w71.setCell ⟨gb272, 0, none⟩ (.int .i64 t268)).setCell ⟨gb272, 1, none⟩ (.slice Ao73 t269.length co73)).heap[gb246]? = some (.cells #[.int .i64 a0_0, .slice A0_1 l0_1.length c0_1] 25 (0, 0))) := ⟨by (with_reducible repeat (first | refine blk_drewN ?_ _ | refine blk_drew ?_ | refine blk_alloc ?_ _)); refine blk_far ?_ NB246_272.out _; (with_reducible repeat (first | refine blk_drewN ?_ _ | refine blk_drew ?_ | refine blk_alloc ?_ _)); refine blk_far ?_ NB246_272.out _; (with_reducible repeat (first | refine blk_drewN ?_ _ | refine blk_drew ?_ | refine blk_alloc ?_ _)); exact BK246.out⟩
        have n6_ : Aside0 (((w71.setCell ⟨gb272, 0, none⟩ (.int .i64 t268)).setCell ⟨gb272, 1, none⟩ (.slice Ao73 t269.length co73)).heap[gb247]? = some (.cells #[.int .i64 a1_0, .slice A1_1 l1_1.length c1_1] 25 (0, 0))) := ⟨by (with_reducible repeat (first | refine blk_drewN ?_ _ | refine blk_drew ?_ | refine blk_alloc ?_ _)); refine blk_far ?_ NB247_272.out _; (with_reducible repeat (first | refine blk_drewN ?_ _ | refine blk_drew ?_ | refine blk_alloc ?_ _)); refine blk_far ?_ NB247_272.out _; (with_reducible repeat (first | refine blk_drewN ?_ _ | refine blk_drew ?_ | refine blk_alloc ?_ _)); exact BK247.out⟩
        have n7_ : Aside0 (((w71.setCell ⟨gb272, 0, none⟩ (.int .i64 t268)).setCell ⟨gb272, 1, none⟩ (.slice Ao73 t269.length co73)).heap[gb259]? = some (.cells #[.int .i64 t255, .slice Ao62 t256.length co62] 25 (0, 0))) := ⟨by (with_reducible repeat (first | refine blk_drewN ?_ _ | refine blk_drew ?_ | refine blk_alloc ?_ _)); refine blk_far ?_ NB259_272.out _; (with_reducible repeat (first | refine blk_drewN ?_ _ | refine blk_drew ?_ | refine blk_alloc ?_ _)); refine blk_far ?_ NB259_272.out _; (with_reducible repeat (first | refine blk_drewN ?_ _ | refine blk_drew ?_ | refine blk_alloc ?_ _)); exact BK259.out⟩
        have n8_ : Aside0 (((w71.setCell ⟨gb272, 0, none⟩ (.int .i64 t268)).setCell ⟨gb272, 1, none⟩ (.slice Ao73 t269.length co73)).heap[gb272]? = some (.cells #[.int .i64 t268, .slice Ao73 t269.length co73] 25 (0, 0))) := ⟨by (with_reducible repeat (first | refine blk_drewN ?_ _ | refine blk_drew ?_ | refine blk_alloc ?_ _)); refine blk_put (cs := #[.int .i64 t268, .slice none 0 0]) ?_ 1 _ rfl; (with_reducible repeat (first | refine blk_drewN ?_ _ | refine blk_drew ?_ | refine blk_alloc ?_ _)); refine blk_put (cs := #[.int .i64 0, .slice none 0 0]) ?_ 0 _ rfl; (with_reducible repeat (first | refine blk_drewN ?_ _ | refine blk_drew ?_ | refine blk_alloc ?_ _)); exact BK272.out⟩
        have n9_ : Aside0 (Below w.heap.size w ((w71.setCell ⟨gb272, 0, none⟩ (.int .i64 t268)).setCell ⟨gb272, 1, none⟩ (.slice Ao73 t269.length co73))) := ⟨by repeat (first | (with_reducible first | exact HB.out | apply below_alloc | apply pw_below_drewN | apply below_drew1 | refine below_set ?_ GE246.out | refine below_set ?_ GE247.out | refine below_set ?_ GE259.out | refine below_set ?_ GE272.out) | exact HB.out)⟩
        (try clear HO254)
        (try clear HO258)
        (try clear HO263)
        (try clear HO267)
        (try clear HO271)
        (try clear BK246)
        (try clear BK247)
        (try clear BK259)
        (try clear BK272)
        (try clear HB)
        generalize ((w71.setCell ⟨gb272, 0, none⟩ (.int .i64 t268)).setCell ⟨gb272, 1, none⟩ (.slice Ao73 t269.length co73)) = w75 at n0_ n1_ n2_ n3_ n4_ n5_ n6_ n7_ n8_ n9_ ⊢
        have HO254 := n0_
        have HO258 := n1_
        have HO263 := n2_
        have HO267 := n3_
        have HO271 := n4_
        have BK246 := n5_
        have BK247 := n6_
        have BK259 := n7_
        have BK272 := n8_
        have HB := n9_
        clear n0_ n1_ n2_ n3_ n4_ n5_ n6_ n7_ n8_ n9_
        have n0_ := Aside0.mk (Kd.R_drew HO254.out)
        have n1_ := Aside0.mk (Kd.R_drew HO258.out)
        have n2_ := Aside0.mk (Kd.R_drew HO263.out)
        have n3_ := Aside0.mk (Kd.R_drew HO267.out)
        have n4_ := Aside0.mk (Kd.R_drew HO271.out)
        have n5_ := Aside0.mk (blk_drew BK246.out)
        have n6_ := Aside0.mk (blk_drew BK247.out)
        have n7_ := Aside0.mk (blk_drew BK259.out)
        have n8_ := Aside0.mk (blk_drew BK272.out)
        have n9_ := Aside0.mk (below_drew1 HB.out)
        clear HO254
        clear HO258
        clear HO263
        clear HO267
        clear HO271
        clear BK246
        clear BK247
        clear BK259
        clear BK272
        clear HB
        have HO254 := n0_
        have HO258 := n1_
        have HO263 := n2_
        have HO267 := n3_
        have HO271 := n4_
        have BK246 := n5_
        have BK247 := n6_
        have BK259 := n7_
        have BK272 := n8_
        have HB := n9_
        clear n0_ n1_ n2_ n3_ n4_ n5_ n6_ n7_ n8_ n9_
        refine start_ (n := 6) (S := fun w' => w'.cell? ⟨gb246, 0, none⟩ = some (.int .i64 a0_0) ∧ w'.cell? ⟨gb246, 1, none⟩ = some (.slice A0_1 l0_1.length c0_1) ∧ w'.cell? ⟨gb247, 0, none⟩ = some (.int .i64 a1_0) ∧ w'.cell? ⟨gb247, 1, none⟩ = some (.slice A1_1 l1_1.length c1_1)) (ds := []) #[false, false, false, false, false, false] (by kernel_rfl) rfl rfl ⟨(blk_cell BK246.out 0).trans rfl, (blk_cell BK246.out 1).trans rfl, (blk_cell BK247.out 0).trans rfl, (blk_cell BK247.out 1).trans rfl⟩ (fun hHeld => ?_)
        generalize w75.drew = w76 at HO254 HO258 HO263 HO267 HO271 BK246 BK247 BK259 BK272 HB hHeld ⊢
        refine take_ (i := 0) (N := some 33) (v := ?_) (a' := ?_) #[true, false, false, false, false, false] rfl rfl (by kernel_rfl) (fun _ _ _ h => h) (Or.inl ⟨by (first | rfl | (simp only [*]; rfl) | (simp [*]; done)), ?_⟩) hHeld ?_ ?_
        rotate_left
        ·rintro w' ⟨s0, s1, s2, s3⟩
         go_simp
         with_reducible rfl
        rotate_left
        ·simp only [Act.put, List.setIfInBounds_toArray, List.set_cons_zero, List.set_cons_succ, i64_w, i32_w]
         rfl
        refine take_ (i := 1) (N := some 34) (v := ?_) (a' := ?_) #[true, true, false, false, false, false] rfl rfl (by kernel_rfl) (fun _ _ _ h => h) (Or.inl ⟨by (first | rfl | (simp only [*]; rfl) | (simp [*]; done)), ?_⟩) hHeld ?_ ?_
        rotate_left
        ·rintro w' ⟨s0, s1, s2, s3⟩
         go_simp
         with_reducible rfl
        rotate_left
        ·simp only [Act.put, List.setIfInBounds_toArray, List.set_cons_zero, List.set_cons_succ, i64_w, i32_w]
         rfl
        refine join_ (σ := Value × Value × Nat) 1 #[true, true, true, true, true, false] (fun s_ => [(35, .agg #[.int .i64 t273, s_.1]), (36, .agg #[.int .i64 t277, s_.2.1]), (7, .pointer (some ⟨s_.2.2, 0, none⟩))]) (fun s_ w' => (w'.cell? ⟨gb246, 0, none⟩ = some (.int .i64 a0_0) ∧ w'.cell? ⟨gb246, 1, none⟩ = some (.slice A0_1 l0_1.length c0_1) ∧ w'.cell? ⟨gb247, 0, none⟩ = some (.int .i64 a1_0) ∧ w'.cell? ⟨gb247, 1, none⟩ = some (.slice A1_1 l1_1.length c1_1)) ∧ (Kd.R (Kd.int .u64) 56 w' w.heap.size (fun k_ => some k_ ≠ (.slice Ao62 t256.length co62 : Value).ownBlock ∧ some k_ ≠ (v262 : Value).ownBlock ∧ some k_ ≠ (v266 : Value).ownBlock ∧ some k_ ≠ (.slice Ao73 t269.length co73 : Value).ownBlock ∧ some k_ ≠ (s_.1 : Value).ownBlock ∧ some k_ ≠ (s_.2.1 : Value).ownBlock) (.slice Ao56 t252.length co56) t252) ∧ (Kd.R (Kd.int .u64) 56 w' w.heap.size (fun k_ => some k_ ≠ (.slice Ao56 t252.length co56 : Value).ownBlock ∧ some k_ ≠ (v262 : Value).ownBlock ∧ some k_ ≠ (v266 : Value).ownBlock ∧ some k_ ≠ (.slice Ao73 t269.length co73 : Value).ownBlock ∧ some k_ ≠ (s_.1 : Value).ownBlock ∧ some k_ ≠ (s_.2.1 : Value).ownBlock) (.slice Ao62 t256.length co62) t256) ∧ (Kd.R (Kd.int .u64) 56 w' w.heap.size (fun k_ => some k_ ≠ (.slice Ao56 t252.length co56 : Value).ownBlock ∧ some k_ ≠ (.slice Ao62 t256.length co62 : Value).ownBlock ∧ some k_ ≠ (v266 : Value).ownBlock ∧ some k_ ≠ (.slice Ao73 t269.length co73 : Value).ownBlock ∧ some k_ ≠ (s_.1 : Value).ownBlock ∧ some k_ ≠ (s_.2.1 : Value).ownBlock) v262 t261) ∧ (Kd.R (Kd.int .u64) 56 w' w.heap.size (fun k_ => some k_ ≠ (.slice Ao56 t252.length co56 : Value).ownBlock ∧ some k_ ≠ (.slice Ao62 t256.length co62 : Value).ownBlock ∧ some k_ ≠ (v262 : Value).ownBlock ∧ some k_ ≠ (.slice Ao73 t269.length co73 : Value).ownBlock ∧ some k_ ≠ (s_.1 : Value).ownBlock ∧ some k_ ≠ (s_.2.1 : Value).ownBlock) v266 t265) ∧ (Kd.R (Kd.int .u64) 56 w' w.heap.size (fun k_ => some k_ ≠ (.slice Ao56 t252.length co56 : Value).ownBlock ∧ some k_ ≠ (.slice Ao62 t256.length co62 : Value).ownBlock ∧ some k_ ≠ (v262 : Value).ownBlock ∧ some k_ ≠ (v266 : Value).ownBlock ∧ some k_ ≠ (s_.1 : Value).ownBlock ∧ some k_ ≠ (s_.2.1 : Value).ownBlock) (.slice Ao73 t269.length co73) t269) ∧ (Kd.R (Kd.int .u64) 56 w' w.heap.size (fun k_ => some k_ ≠ (.slice Ao56 t252.length co56 : Value).ownBlock ∧ some k_ ≠ (.slice Ao62 t256.length co62 : Value).ownBlock ∧ some k_ ≠ (v262 : Value).ownBlock ∧ some k_ ≠ (v266 : Value).ownBlock ∧ some k_ ≠ (.slice Ao73 t269.length co73 : Value).ownBlock ∧ some k_ ≠ (s_.2.1 : Value).ownBlock) s_.1 t274) ∧ (Kd.R (Kd.int .u64) 56 w' w.heap.size (fun k_ => some k_ ≠ (.slice Ao56 t252.length co56 : Value).ownBlock ∧ some k_ ≠ (.slice Ao62 t256.length co62 : Value).ownBlock ∧ some k_ ≠ (v262 : Value).ownBlock ∧ some k_ ≠ (v266 : Value).ownBlock ∧ some k_ ≠ (.slice Ao73 t269.length co73 : Value).ownBlock ∧ some k_ ≠ (s_.1 : Value).ownBlock) s_.2.1 t278) ∧ (w'.heap[gb246]? = some (.cells #[.int .i64 a0_0, .slice A0_1 l0_1.length c0_1] 25 (0, 0))) ∧ (w'.heap[gb247]? = some (.cells #[.int .i64 a1_0, .slice A1_1 l1_1.length c1_1] 25 (0, 0))) ∧ (w'.heap[gb259]? = some (.cells #[.int .i64 t255, .slice Ao62 t256.length co62] 25 (0, 0))) ∧ (w'.heap[gb272]? = some (.cells #[.int .i64 t268, .slice Ao73 t269.length co73] 25 (0, 0))) ∧ (w'.heap[s_.2.2]? = some (.cells #[.int .i64 0, .slice none 0 0] 25 (0, 0))) ∧ (w.heap.size ≤ s_.2.2) ∧ (w.heap.size ≤ s_.2.2) ∧ (gb246 ≠ s_.2.2) ∧ (s_.2.2 ≠ gb246) ∧ (gb247 ≠ s_.2.2) ∧ (s_.2.2 ≠ gb247) ∧ (gb259 ≠ s_.2.2) ∧ (s_.2.2 ≠ gb259) ∧ (gb272 ≠ s_.2.2) ∧ (s_.2.2 ≠ gb272) ∧ (Below w.heap.size w w')) ?_ ?_
        rotate_left
        ·intro hCont
         refine two_ (i := 2) (j := 4) (Ni := some 35) (Nj := some 7) #[true, true, true, false, false, false] #[true, true, false, false, true, false] rfl rfl rfl rfl (by kernel_rfl) (by decide) (by decide) (fun K hK => ?_) (fun K hK => ?_)
         ·skip
          refine goes_ Tryd.func27 (by kernel_rfl) rfl #[.agg #[.int .i64 a1_0, .slice A1_1 l1_1.length c1_1]] (by (first | rfl | (simp only [*]; rfl) | (simp [*]; done))) rfl rfl ma_ ?_
          with_reducible refine (bitset_Not.calls kj2 a1_0 _ _ l1_1 t273 t274 _ ?side1 ?side2 A33.out).mono ?_
          (case side1 => exact ca_ (Kd.C_below HR1_1.out HB.out))
          (case side2 => exact HC1_1.out)
          rintro e w77 ⟨v275, rfl, ho0, hb⟩
          refine ⟨_, rfl, ?_⟩
          have n0_ := Aside0.mk (Kd.R_elder' (rb_ HO254) (Kd.R_base ho0) hb)
          have n1_ := Aside0.mk (Kd.R_elder' (rb_ HO258) (Kd.R_base ho0) hb)
          have n2_ := Aside0.mk (Kd.R_elder' (rb_ HO263) (Kd.R_base ho0) hb)
          have n3_ := Aside0.mk (Kd.R_elder' (rb_ HO267) (Kd.R_base ho0) hb)
          have n4_ := Aside0.mk (Kd.R_elder' (rb_ HO271) (Kd.R_base ho0) hb)
          have n5_ := Aside0.mk (Kd.R_lower (Kd.R_new' (Kd.R_new' (Kd.R_new' (Kd.R_new' (Kd.R_new' ho0 (Kd.R_lt (rb_ HO254))) (Kd.R_lt (rb_ HO258))) (Kd.R_lt (rb_ HO263))) (Kd.R_lt (rb_ HO267))) (Kd.R_lt (rb_ HO271))) (below_size (by repeat (first | (with_reducible first | exact HB.out | apply below_alloc | apply pw_below_drewN | apply below_drew1 | refine below_set ?_ GE246.out | refine below_set ?_ GE247.out | refine below_set ?_ GE259.out | refine below_set ?_ GE272.out) | exact HB.out))))
          have n6_ := Aside0.mk (blk_below (g := gb246) (o := .cells #[.int .i64 a0_0, .slice A0_1 l0_1.length c0_1] 25 (0, 0)) (bk_ BK246) hb)
          have n7_ := Aside0.mk (blk_below (g := gb247) (o := .cells #[.int .i64 a1_0, .slice A1_1 l1_1.length c1_1] 25 (0, 0)) (bk_ BK247) hb)
          have n8_ := Aside0.mk (blk_below (g := gb259) (o := .cells #[.int .i64 t255, .slice Ao62 t256.length co62] 25 (0, 0)) (bk_ BK259) hb)
          have n9_ := Aside0.mk (blk_below (g := gb272) (o := .cells #[.int .i64 t268, .slice Ao73 t269.length co73] 25 (0, 0)) (bk_ BK272) hb)
          have n10_ := Aside0.mk (below_step (by repeat (first | (with_reducible first | exact HB.out | apply below_alloc | apply pw_below_drewN | apply below_drew1 | refine below_set ?_ GE246.out | refine below_set ?_ GE247.out | refine below_set ?_ GE259.out | refine below_set ?_ GE272.out) | exact HB.out)) hb)
          clear HO254
          clear HO258
          clear HO263
          clear HO267
          clear HO271
          clear BK246
          clear BK247
          clear BK259
          clear BK272
          clear HB
          have HO254 := n0_
          have HO258 := n1_
          have HO263 := n2_
          have HO267 := n3_
          have HO271 := n4_
          have HO276 := n5_
          have BK246 := n6_
          have BK247 := n7_
          have BK259 := n8_
          have BK272 := n9_
          have HB := n10_
          clear n0_ n1_ n2_ n3_ n4_ n5_ n6_ n7_ n8_ n9_ n10_
          (try clear hb)
          (try clear hb2)
          (try clear hk)
          (try clear hi)
          (try clear ho0)
          obtain ⟨Ao78, co78, eo78⟩ := Kd.R_slice HO276.out
          (first | subst eo78 | (injection eo78 with f1_ f2_ f3_; have f4_ := f1_.symm; have f5_ := f3_.symm; clear f1_ f2_ f3_; subst f4_; subst f5_))
          refine hK.out _ _ ⟨(blk_cell BK246.out 0).trans rfl, (blk_cell BK246.out 1).trans rfl, (blk_cell BK247.out 0).trans rfl, (blk_cell BK247.out 1).trans rfl⟩ (fun hHeld => ?_)
          clear hK K
          refine norm_ (a' := ?_) ?_ ?_
          rotate_left
          ·show Act.put _ (some 35) _ = _
           simp only [Act.put, List.setIfInBounds_toArray, List.set_cons_zero, List.set_cons_succ, i64_w, i32_w]
           rfl
          refine two_ (i := 3) (j := 4) (Ni := some 36) (Nj := some 7) #[true, true, true, true, false, false] #[true, true, true, false, true, false] rfl rfl rfl rfl (by kernel_rfl) (by decide) (by decide) (fun K hK => ?_) (fun K hK => ?_)
          ·skip
           refine goes_ Tryd.func21 (by kernel_rfl) rfl #[.agg #[.int .i64 a0_0, .slice A0_1 l0_1.length c0_1], .agg #[.int .i64 t273, .slice Ao78 t274.length co78]] (by (first | rfl | (simp only [*]; rfl) | (simp [*]; done))) rfl rfl ma_ ?_
           with_reducible refine (bitset_And.calls kj2 a0_0 _ _ l0_1 t273 _ _ t274 t277 t278 _ ?side1 ?side2 ?side3 ?side4 A34.out).mono ?_
           (case side1 => exact ca_ (Kd.C_below HR0_1.out HB.out))
           (case side2 => exact HC0_1.out)
           (case side3 => exact ca_ (Kd.R_reads' HO276.out).2.2)
           (case side4 => exact (Kd.R_reads' HO276.out).2.1)
           rintro e w79 ⟨v279, rfl, ho0, hb⟩
           refine ⟨_, rfl, ?_⟩
           have n0_ := Aside0.mk (Kd.R_elder' (rb_ HO254) (Kd.R_base ho0) hb)
           have n1_ := Aside0.mk (Kd.R_elder' (rb_ HO258) (Kd.R_base ho0) hb)
           have n2_ := Aside0.mk (Kd.R_elder' (rb_ HO263) (Kd.R_base ho0) hb)
           have n3_ := Aside0.mk (Kd.R_elder' (rb_ HO267) (Kd.R_base ho0) hb)
           have n4_ := Aside0.mk (Kd.R_elder' (rb_ HO271) (Kd.R_base ho0) hb)
           have n5_ := Aside0.mk (Kd.R_elder' (rb_ HO276) (Kd.R_base ho0) hb)
           have n6_ := Aside0.mk (Kd.R_lower (Kd.R_new' (Kd.R_new' (Kd.R_new' (Kd.R_new' (Kd.R_new' (Kd.R_new' ho0 (Kd.R_lt (rb_ HO254))) (Kd.R_lt (rb_ HO258))) (Kd.R_lt (rb_ HO263))) (Kd.R_lt (rb_ HO267))) (Kd.R_lt (rb_ HO271))) (Kd.R_lt (rb_ HO276))) (below_size (by repeat (first | (with_reducible first | exact HB.out | apply below_alloc | apply pw_below_drewN | apply below_drew1 | refine below_set ?_ GE246.out | refine below_set ?_ GE247.out | refine below_set ?_ GE259.out | refine below_set ?_ GE272.out) | exact HB.out))))
           have n7_ := Aside0.mk (blk_below (g := gb246) (o := .cells #[.int .i64 a0_0, .slice A0_1 l0_1.length c0_1] 25 (0, 0)) (bk_ BK246) hb)
           have n8_ := Aside0.mk (blk_below (g := gb247) (o := .cells #[.int .i64 a1_0, .slice A1_1 l1_1.length c1_1] 25 (0, 0)) (bk_ BK247) hb)
           have n9_ := Aside0.mk (blk_below (g := gb259) (o := .cells #[.int .i64 t255, .slice Ao62 t256.length co62] 25 (0, 0)) (bk_ BK259) hb)
           have n10_ := Aside0.mk (blk_below (g := gb272) (o := .cells #[.int .i64 t268, .slice Ao73 t269.length co73] 25 (0, 0)) (bk_ BK272) hb)
           have n11_ := Aside0.mk (below_step (by repeat (first | (with_reducible first | exact HB.out | apply below_alloc | apply pw_below_drewN | apply below_drew1 | refine below_set ?_ GE246.out | refine below_set ?_ GE247.out | refine below_set ?_ GE259.out | refine below_set ?_ GE272.out) | exact HB.out)) hb)
           clear HO254
           clear HO258
           clear HO263
           clear HO267
           clear HO271
           clear HO276
           clear BK246
           clear BK247
           clear BK259
           clear BK272
           clear HB
           have HO254 := n0_
           have HO258 := n1_
           have HO263 := n2_
           have HO267 := n3_
           have HO271 := n4_
           have HO276 := n5_
           have HO280 := n6_
           have BK246 := n7_
           have BK247 := n8_
           have BK259 := n9_
           have BK272 := n10_
           have HB := n11_
           clear n0_ n1_ n2_ n3_ n4_ n5_ n6_ n7_ n8_ n9_ n10_ n11_
           (try clear hb)
           (try clear hb2)
           (try clear hk)
           (try clear hi)
           (try clear ho0)
           refine hK.out _ _ ⟨(blk_cell BK246.out 0).trans rfl, (blk_cell BK246.out 1).trans rfl, (blk_cell BK247.out 0).trans rfl, (blk_cell BK247.out 1).trans rfl⟩ (fun hHeld => ?_)
           clear hK K
           refine norm_ (a' := ?_) ?_ ?_
           rotate_left
           ·show Act.put _ (some 36) _ = _
            simp only [Act.put, List.setIfInBounds_toArray, List.set_cons_zero, List.set_cons_succ, i64_w, i32_w]
            rfl
           refine one_ (i := 4) (N := some 7) #[true, true, true, true, true, false] rfl rfl (by kernel_rfl) (by decide) (fun K hK => ?_)
           refine box_step ?hg (N := 7) ?hd (cs := #[.int .i64 0, .slice none 0 0]) (t := 25) ?hr ?_; (case hd => rfl); (case hg => exact fs_); (case hr => first | (go_simp; done) | (go_simp; rfl))
           intro gb281 hg w80 hbox hb
           have n0_ := Aside0.mk (Kd.R_below (rb_ HO254) hb)
           have n1_ := Aside0.mk (Kd.R_below (rb_ HO258) hb)
           have n2_ := Aside0.mk (Kd.R_below (rb_ HO263) hb)
           have n3_ := Aside0.mk (Kd.R_below (rb_ HO267) hb)
           have n4_ := Aside0.mk (Kd.R_below (rb_ HO271) hb)
           have n5_ := Aside0.mk (Kd.R_below (rb_ HO276) hb)
           have n6_ := Aside0.mk (Kd.R_below (rb_ HO280) hb)
           have n7_ := Aside0.mk (blk_below (g := gb246) (o := .cells #[.int .i64 a0_0, .slice A0_1 l0_1.length c0_1] 25 (0, 0)) (bk_ BK246) hb)
           have n8_ := Aside0.mk (blk_below (g := gb247) (o := .cells #[.int .i64 a1_0, .slice A1_1 l1_1.length c1_1] 25 (0, 0)) (bk_ BK247) hb)
           have n9_ := Aside0.mk (blk_below (g := gb259) (o := .cells #[.int .i64 t255, .slice Ao62 t256.length co62] 25 (0, 0)) (bk_ BK259) hb)
           have n10_ := Aside0.mk (blk_below (g := gb272) (o := .cells #[.int .i64 t268, .slice Ao73 t269.length co73] 25 (0, 0)) (bk_ BK272) hb)
           have n11_ := Aside0.mk (below_step (by repeat (first | (with_reducible first | exact HB.out | apply below_alloc | apply pw_below_drewN | apply below_drew1 | refine below_set ?_ GE246.out | refine below_set ?_ GE247.out | refine below_set ?_ GE259.out | refine below_set ?_ GE272.out) | exact HB.out)) hb)
           have n12_ := Aside0.mk (hbox)
           have n13_ := Aside0.mk ((by rw [hg]; exact (below_size (by repeat (first | (with_reducible first | exact HB.out | apply below_alloc | apply pw_below_drewN | apply below_drew1 | refine below_set ?_ GE246.out | refine below_set ?_ GE247.out | refine below_set ?_ GE259.out | refine below_set ?_ GE272.out) | exact HB.out))) : w.heap.size ≤ gb281))
           have n14_ := Aside0.mk ((by rw [hg]; exact (below_size (by repeat (first | (with_reducible first | exact HB.out | apply below_alloc | apply pw_below_drewN | apply below_drew1 | refine below_set ?_ GE246.out | refine below_set ?_ GE247.out | refine below_set ?_ GE259.out | refine below_set ?_ GE272.out) | exact HB.out))) : w.heap.size ≤ gb281))
           have n15_ := Aside0.mk ((by rw [hg]; exact Nat.ne_of_lt (blk_lt (g := gb246) (o := .cells #[.int .i64 a0_0, .slice A0_1 l0_1.length c0_1] 25 (0, 0)) (bk_ BK246)) : gb246 ≠ gb281))
           have n16_ := Aside0.mk ((by rw [hg]; exact Nat.ne_of_gt (blk_lt (g := gb246) (o := .cells #[.int .i64 a0_0, .slice A0_1 l0_1.length c0_1] 25 (0, 0)) (bk_ BK246)) : gb281 ≠ gb246))
           have n17_ := Aside0.mk ((by rw [hg]; exact Nat.ne_of_lt (blk_lt (g := gb247) (o := .cells #[.int .i64 a1_0, .slice A1_1 l1_1.length c1_1] 25 (0, 0)) (bk_ BK247)) : gb247 ≠ gb281))
           have n18_ := Aside0.mk ((by rw [hg]; exact Nat.ne_of_gt (blk_lt (g := gb247) (o := .cells #[.int .i64 a1_0, .slice A1_1 l1_1.length c1_1] 25 (0, 0)) (bk_ BK247)) : gb281 ≠ gb247))
           have n19_ := Aside0.mk ((by rw [hg]; exact Nat.ne_of_lt (blk_lt (g := gb259) (o := .cells #[.int .i64 t255, .slice Ao62 t256.length co62] 25 (0, 0)) (bk_ BK259)) : gb259 ≠ gb281))
           have n20_ := Aside0.mk ((by rw [hg]; exact Nat.ne_of_gt (blk_lt (g := gb259) (o := .cells #[.int .i64 t255, .slice Ao62 t256.length co62] 25 (0, 0)) (bk_ BK259)) : gb281 ≠ gb259))
           have n21_ := Aside0.mk ((by rw [hg]; exact Nat.ne_of_lt (blk_lt (g := gb272) (o := .cells #[.int .i64 t268, .slice Ao73 t269.length co73] 25 (0, 0)) (bk_ BK272)) : gb272 ≠ gb281))
           have n22_ := Aside0.mk ((by rw [hg]; exact Nat.ne_of_gt (blk_lt (g := gb272) (o := .cells #[.int .i64 t268, .slice Ao73 t269.length co73] 25 (0, 0)) (bk_ BK272)) : gb281 ≠ gb272))
           clear HO254
           clear HO258
           clear HO263
           clear HO267
           clear HO271
           clear HO276
           clear HO280
           clear BK246
           clear BK247
           clear BK259
           clear BK272
           clear HB
           have HO254 := n0_
           have HO258 := n1_
           have HO263 := n2_
           have HO267 := n3_
           have HO271 := n4_
           have HO276 := n5_
           have HO280 := n6_
           have BK246 := n7_
           have BK247 := n8_
           have BK259 := n9_
           have BK272 := n10_
           have HB := n11_
           have BK281 := n12_
           have GW281 := n13_
           have GE281 := n14_
           have NB246_281 := n15_
           have NB281_246 := n16_
           have NB247_281 := n17_
           have NB281_247 := n18_
           have NB259_281 := n19_
           have NB281_259 := n20_
           have NB272_281 := n21_
           have NB281_272 := n22_
           clear n0_ n1_ n2_ n3_ n4_ n5_ n6_ n7_ n8_ n9_ n10_ n11_ n12_ n13_ n14_ n15_ n16_ n17_ n18_ n19_ n20_ n21_ n22_
           clear hb hbox hg
           refine hK.out _ _ ⟨(blk_cell BK246.out 0).trans rfl, (blk_cell BK246.out 1).trans rfl, (blk_cell BK247.out 0).trans rfl, (blk_cell BK247.out 1).trans rfl⟩ (fun hHeld => ?_)
           clear hK K
           refine norm_ (a' := ?_) ?_ ?_
           rotate_left
           ·show Act.put _ (some 7) _ = _
            simp only [Act.put, List.setIfInBounds_toArray, List.set_cons_zero, List.set_cons_succ, i64_w, i32_w]
            rfl
           exact norm_ (by simp only [putAll, Act.put, List.setIfInBounds_toArray, List.set_cons_zero, List.set_cons_succ]) (hCont (.slice Ao78 t274.length co78, v279, gb281) _ ⟨hHeld, (by (with_reducible repeat (first | apply Kd.R_alloc | apply Kd.R_drewN | apply Kd.R_drew)); exact Kd.R_mono HO254.out (fun _ hk => ⟨hk.1.1.1, ⟨hk.1.1.2.1, ⟨hk.1.1.2.2.1, ⟨hk.1.1.2.2.2, ⟨hk.1.2, hk.2⟩⟩⟩⟩⟩)), (by (with_reducible repeat (first | apply Kd.R_alloc | apply Kd.R_drewN | apply Kd.R_drew)); exact Kd.R_mono HO258.out (fun _ hk => ⟨hk.1.1.1, ⟨hk.1.1.2.1, ⟨hk.1.1.2.2.1, ⟨hk.1.1.2.2.2, ⟨hk.1.2, hk.2⟩⟩⟩⟩⟩)), (by (with_reducible repeat (first | apply Kd.R_alloc | apply Kd.R_drewN | apply Kd.R_drew)); exact Kd.R_mono HO263.out (fun _ hk => ⟨hk.1.1.1, ⟨hk.1.1.2.1, ⟨hk.1.1.2.2.1, ⟨hk.1.1.2.2.2, ⟨hk.1.2, hk.2⟩⟩⟩⟩⟩)), (by (with_reducible repeat (first | apply Kd.R_alloc | apply Kd.R_drewN | apply Kd.R_drew)); exact Kd.R_mono HO267.out (fun _ hk => ⟨hk.1.1.1, ⟨hk.1.1.2.1, ⟨hk.1.1.2.2.1, ⟨hk.1.1.2.2.2, ⟨hk.1.2, hk.2⟩⟩⟩⟩⟩)), (by (with_reducible repeat (first | apply Kd.R_alloc | apply Kd.R_drewN | apply Kd.R_drew)); exact Kd.R_mono HO271.out (fun _ hk => ⟨hk.1.1.1, ⟨hk.1.1.2.1, ⟨hk.1.1.2.2.1, ⟨hk.1.1.2.2.2, ⟨hk.1.2, hk.2⟩⟩⟩⟩⟩)), (by (with_reducible repeat (first | apply Kd.R_alloc | apply Kd.R_drewN | apply Kd.R_drew)); exact Kd.R_mono HO276.out (fun _ hk => ⟨hk.1.1.1.1.1.2, ⟨hk.1.1.1.1.2, ⟨hk.1.1.1.2, ⟨hk.1.1.2, ⟨hk.1.2, hk.2⟩⟩⟩⟩⟩)), (by (with_reducible repeat (first | apply Kd.R_alloc | apply Kd.R_drewN | apply Kd.R_drew)); exact Kd.R_mono HO280.out (fun _ hk => ⟨hk.1.1.1.1.1.2, ⟨hk.1.1.1.1.2, ⟨hk.1.1.1.2, ⟨hk.1.1.2, ⟨hk.1.2, hk.2⟩⟩⟩⟩⟩)), (bk_ BK246), (bk_ BK247), (bk_ BK259), (bk_ BK272), (bk_ BK281), GW281.out, GE281.out, NB246_281.out, NB281_246.out, NB247_281.out, NB281_247.out, NB259_281.out, NB281_259.out, NB272_281.out, NB281_272.out, (by repeat (first | (with_reducible first | exact HB.out | apply below_alloc | apply pw_below_drewN | apply below_drew1 | refine below_set ?_ GE246.out | refine below_set ?_ GE247.out | refine below_set ?_ GE259.out | refine below_set ?_ GE272.out | refine below_set ?_ GE281.out) | exact HB.out))⟩)
          ·skip
           refine box_step ?hg (N := 7) ?hd (cs := #[.int .i64 0, .slice none 0 0]) (t := 25) ?hr ?_; (case hd => rfl); (case hg => exact fs_); (case hr => first | (go_simp; done) | (go_simp; rfl))
           intro gb281 hg w78 hbox hb
           have n0_ := Aside0.mk (Kd.R_below (rb_ HO254) hb)
           have n1_ := Aside0.mk (Kd.R_below (rb_ HO258) hb)
           have n2_ := Aside0.mk (Kd.R_below (rb_ HO263) hb)
           have n3_ := Aside0.mk (Kd.R_below (rb_ HO267) hb)
           have n4_ := Aside0.mk (Kd.R_below (rb_ HO271) hb)
           have n5_ := Aside0.mk (Kd.R_below (rb_ HO276) hb)
           have n6_ := Aside0.mk (blk_below (g := gb246) (o := .cells #[.int .i64 a0_0, .slice A0_1 l0_1.length c0_1] 25 (0, 0)) (bk_ BK246) hb)
           have n7_ := Aside0.mk (blk_below (g := gb247) (o := .cells #[.int .i64 a1_0, .slice A1_1 l1_1.length c1_1] 25 (0, 0)) (bk_ BK247) hb)
           have n8_ := Aside0.mk (blk_below (g := gb259) (o := .cells #[.int .i64 t255, .slice Ao62 t256.length co62] 25 (0, 0)) (bk_ BK259) hb)
           have n9_ := Aside0.mk (blk_below (g := gb272) (o := .cells #[.int .i64 t268, .slice Ao73 t269.length co73] 25 (0, 0)) (bk_ BK272) hb)
           have n10_ := Aside0.mk (below_step (by repeat (first | (with_reducible first | exact HB.out | apply below_alloc | apply pw_below_drewN | apply below_drew1 | refine below_set ?_ GE246.out | refine below_set ?_ GE247.out | refine below_set ?_ GE259.out | refine below_set ?_ GE272.out) | exact HB.out)) hb)
           have n11_ := Aside0.mk (hbox)
           have n12_ := Aside0.mk ((by rw [hg]; exact (below_size (by repeat (first | (with_reducible first | exact HB.out | apply below_alloc | apply pw_below_drewN | apply below_drew1 | refine below_set ?_ GE246.out | refine below_set ?_ GE247.out | refine below_set ?_ GE259.out | refine below_set ?_ GE272.out) | exact HB.out))) : w.heap.size ≤ gb281))
           have n13_ := Aside0.mk ((by rw [hg]; exact (below_size (by repeat (first | (with_reducible first | exact HB.out | apply below_alloc | apply pw_below_drewN | apply below_drew1 | refine below_set ?_ GE246.out | refine below_set ?_ GE247.out | refine below_set ?_ GE259.out | refine below_set ?_ GE272.out) | exact HB.out))) : w.heap.size ≤ gb281))
           have n14_ := Aside0.mk ((by rw [hg]; exact Nat.ne_of_lt (blk_lt (g := gb246) (o := .cells #[.int .i64 a0_0, .slice A0_1 l0_1.length c0_1] 25 (0, 0)) (bk_ BK246)) : gb246 ≠ gb281))
           have n15_ := Aside0.mk ((by rw [hg]; exact Nat.ne_of_gt (blk_lt (g := gb246) (o := .cells #[.int .i64 a0_0, .slice A0_1 l0_1.length c0_1] 25 (0, 0)) (bk_ BK246)) : gb281 ≠ gb246))
           have n16_ := Aside0.mk ((by rw [hg]; exact Nat.ne_of_lt (blk_lt (g := gb247) (o := .cells #[.int .i64 a1_0, .slice A1_1 l1_1.length c1_1] 25 (0, 0)) (bk_ BK247)) : gb247 ≠ gb281))
           have n17_ := Aside0.mk ((by rw [hg]; exact Nat.ne_of_gt (blk_lt (g := gb247) (o := .cells #[.int .i64 a1_0, .slice A1_1 l1_1.length c1_1] 25 (0, 0)) (bk_ BK247)) : gb281 ≠ gb247))
           have n18_ := Aside0.mk ((by rw [hg]; exact Nat.ne_of_lt (blk_lt (g := gb259) (o := .cells #[.int .i64 t255, .slice Ao62 t256.length co62] 25 (0, 0)) (bk_ BK259)) : gb259 ≠ gb281))
           have n19_ := Aside0.mk ((by rw [hg]; exact Nat.ne_of_gt (blk_lt (g := gb259) (o := .cells #[.int .i64 t255, .slice Ao62 t256.length co62] 25 (0, 0)) (bk_ BK259)) : gb281 ≠ gb259))
           have n20_ := Aside0.mk ((by rw [hg]; exact Nat.ne_of_lt (blk_lt (g := gb272) (o := .cells #[.int .i64 t268, .slice Ao73 t269.length co73] 25 (0, 0)) (bk_ BK272)) : gb272 ≠ gb281))
           have n21_ := Aside0.mk ((by rw [hg]; exact Nat.ne_of_gt (blk_lt (g := gb272) (o := .cells #[.int .i64 t268, .slice Ao73 t269.length co73] 25 (0, 0)) (bk_ BK272)) : gb281 ≠ gb272))
           clear HO254
           clear HO258
           clear HO263
           clear HO267
           clear HO271
           clear HO276
           clear BK246
           clear BK247
           clear BK259
           clear BK272
           clear HB
           have HO254 := n0_
           have HO258 := n1_
           have HO263 := n2_
           have HO267 := n3_
           have HO271 := n4_
           have HO276 := n5_
           have BK246 := n6_
           have BK247 := n7_
           have BK259 := n8_
           have BK272 := n9_
           have HB := n10_
           have BK281 := n11_
           have GW281 := n12_
           have GE281 := n13_
           have NB246_281 := n14_
           have NB281_246 := n15_
           have NB247_281 := n16_
           have NB281_247 := n17_
           have NB259_281 := n18_
           have NB281_259 := n19_
           have NB272_281 := n20_
           have NB281_272 := n21_
           clear n0_ n1_ n2_ n3_ n4_ n5_ n6_ n7_ n8_ n9_ n10_ n11_ n12_ n13_ n14_ n15_ n16_ n17_ n18_ n19_ n20_ n21_
           clear hb hbox hg
           obtain ⟨Ao79, co79, eo79⟩ := Kd.R_slice HO276.out
           (first | subst eo79 | (injection eo79 with f1_ f2_ f3_; have f4_ := f1_.symm; have f5_ := f3_.symm; clear f1_ f2_ f3_; subst f4_; subst f5_))
           refine hK.out _ _ ⟨(blk_cell BK246.out 0).trans rfl, (blk_cell BK246.out 1).trans rfl, (blk_cell BK247.out 0).trans rfl, (blk_cell BK247.out 1).trans rfl⟩ (fun hHeld => ?_)
           clear hK K
           refine norm_ (a' := ?_) ?_ ?_
           rotate_left
           ·show Act.put _ (some 7) _ = _
            simp only [Act.put, List.setIfInBounds_toArray, List.set_cons_zero, List.set_cons_succ, i64_w, i32_w]
            rfl
           refine one_ (i := 3) (N := some 36) #[true, true, true, true, true, false] rfl rfl (by kernel_rfl) (by decide) (fun K hK => ?_)
           refine goes_ Tryd.func21 (by kernel_rfl) rfl #[.agg #[.int .i64 a0_0, .slice A0_1 l0_1.length c0_1], .agg #[.int .i64 t273, .slice Ao79 t274.length co79]] (by (first | rfl | (simp only [*]; rfl) | (simp [*]; done))) rfl rfl ma_ ?_
           with_reducible refine (bitset_And.calls kj2 a0_0 _ _ l0_1 t273 _ _ t274 t277 t278 _ ?side1 ?side2 ?side3 ?side4 A34.out).mono ?_
           (case side1 => exact ca_ (Kd.C_below HR0_1.out HB.out))
           (case side2 => exact HC0_1.out)
           (case side3 => exact ca_ (Kd.R_reads' HO276.out).2.2)
           (case side4 => exact (Kd.R_reads' HO276.out).2.1)
           rintro e w80 ⟨v279, rfl, ho0, hb⟩
           refine ⟨_, rfl, ?_⟩
           have n0_ := Aside0.mk (Kd.R_elder' (rb_ HO254) (Kd.R_base ho0) hb)
           have n1_ := Aside0.mk (Kd.R_elder' (rb_ HO258) (Kd.R_base ho0) hb)
           have n2_ := Aside0.mk (Kd.R_elder' (rb_ HO263) (Kd.R_base ho0) hb)
           have n3_ := Aside0.mk (Kd.R_elder' (rb_ HO267) (Kd.R_base ho0) hb)
           have n4_ := Aside0.mk (Kd.R_elder' (rb_ HO271) (Kd.R_base ho0) hb)
           have n5_ := Aside0.mk (Kd.R_elder' (rb_ HO276) (Kd.R_base ho0) hb)
           have n6_ := Aside0.mk (Kd.R_lower (Kd.R_new' (Kd.R_new' (Kd.R_new' (Kd.R_new' (Kd.R_new' (Kd.R_new' ho0 (Kd.R_lt (rb_ HO254))) (Kd.R_lt (rb_ HO258))) (Kd.R_lt (rb_ HO263))) (Kd.R_lt (rb_ HO267))) (Kd.R_lt (rb_ HO271))) (Kd.R_lt (rb_ HO276))) (below_size (by repeat (first | (with_reducible first | exact HB.out | apply below_alloc | apply pw_below_drewN | apply below_drew1 | refine below_set ?_ GE246.out | refine below_set ?_ GE247.out | refine below_set ?_ GE259.out | refine below_set ?_ GE272.out | refine below_set ?_ GE281.out) | exact HB.out))))
           have n7_ := Aside0.mk (blk_below (g := gb246) (o := .cells #[.int .i64 a0_0, .slice A0_1 l0_1.length c0_1] 25 (0, 0)) (bk_ BK246) hb)
           have n8_ := Aside0.mk (blk_below (g := gb247) (o := .cells #[.int .i64 a1_0, .slice A1_1 l1_1.length c1_1] 25 (0, 0)) (bk_ BK247) hb)
           have n9_ := Aside0.mk (blk_below (g := gb259) (o := .cells #[.int .i64 t255, .slice Ao62 t256.length co62] 25 (0, 0)) (bk_ BK259) hb)
           have n10_ := Aside0.mk (blk_below (g := gb272) (o := .cells #[.int .i64 t268, .slice Ao73 t269.length co73] 25 (0, 0)) (bk_ BK272) hb)
           have n11_ := Aside0.mk (blk_below (g := gb281) (o := .cells #[.int .i64 0, .slice none 0 0] 25 (0, 0)) (bk_ BK281) hb)
           have n12_ := Aside0.mk (below_step (by repeat (first | (with_reducible first | exact HB.out | apply below_alloc | apply pw_below_drewN | apply below_drew1 | refine below_set ?_ GE246.out | refine below_set ?_ GE247.out | refine below_set ?_ GE259.out | refine below_set ?_ GE272.out | refine below_set ?_ GE281.out) | exact HB.out)) hb)
           clear HO254
           clear HO258
           clear HO263
           clear HO267
           clear HO271
           clear HO276
           clear BK246
           clear BK247
           clear BK259
           clear BK272
           clear BK281
           clear HB
           have HO254 := n0_
           have HO258 := n1_
           have HO263 := n2_
           have HO267 := n3_
           have HO271 := n4_
           have HO276 := n5_
           have HO280 := n6_
           have BK246 := n7_
           have BK247 := n8_
           have BK259 := n9_
           have BK272 := n10_
           have BK281 := n11_
           have HB := n12_
           clear n0_ n1_ n2_ n3_ n4_ n5_ n6_ n7_ n8_ n9_ n10_ n11_ n12_
           (try clear hb)
           (try clear hb2)
           (try clear hk)
           (try clear hi)
           (try clear ho0)
           refine hK.out _ _ ⟨(blk_cell BK246.out 0).trans rfl, (blk_cell BK246.out 1).trans rfl, (blk_cell BK247.out 0).trans rfl, (blk_cell BK247.out 1).trans rfl⟩ (fun hHeld => ?_)
           clear hK K
           refine norm_ (a' := ?_) ?_ ?_
           rotate_left
           ·show Act.put _ (some 36) _ = _
            simp only [Act.put, List.setIfInBounds_toArray, List.set_cons_zero, List.set_cons_succ, i64_w, i32_w]
            rfl
           exact norm_ (by simp only [putAll, Act.put, List.setIfInBounds_toArray, List.set_cons_zero, List.set_cons_succ]) (hCont (.slice Ao79 t274.length co79, v279, gb281) _ ⟨hHeld, (by (with_reducible repeat (first | apply Kd.R_alloc | apply Kd.R_drewN | apply Kd.R_drew)); exact Kd.R_mono HO254.out (fun _ hk => ⟨hk.1.1.1, ⟨hk.1.1.2.1, ⟨hk.1.1.2.2.1, ⟨hk.1.1.2.2.2, ⟨hk.1.2, hk.2⟩⟩⟩⟩⟩)), (by (with_reducible repeat (first | apply Kd.R_alloc | apply Kd.R_drewN | apply Kd.R_drew)); exact Kd.R_mono HO258.out (fun _ hk => ⟨hk.1.1.1, ⟨hk.1.1.2.1, ⟨hk.1.1.2.2.1, ⟨hk.1.1.2.2.2, ⟨hk.1.2, hk.2⟩⟩⟩⟩⟩)), (by (with_reducible repeat (first | apply Kd.R_alloc | apply Kd.R_drewN | apply Kd.R_drew)); exact Kd.R_mono HO263.out (fun _ hk => ⟨hk.1.1.1, ⟨hk.1.1.2.1, ⟨hk.1.1.2.2.1, ⟨hk.1.1.2.2.2, ⟨hk.1.2, hk.2⟩⟩⟩⟩⟩)), (by (with_reducible repeat (first | apply Kd.R_alloc | apply Kd.R_drewN | apply Kd.R_drew)); exact Kd.R_mono HO267.out (fun _ hk => ⟨hk.1.1.1, ⟨hk.1.1.2.1, ⟨hk.1.1.2.2.1, ⟨hk.1.1.2.2.2, ⟨hk.1.2, hk.2⟩⟩⟩⟩⟩)), (by (with_reducible repeat (first | apply Kd.R_alloc | apply Kd.R_drewN | apply Kd.R_drew)); exact Kd.R_mono HO271.out (fun _ hk => ⟨hk.1.1.1, ⟨hk.1.1.2.1, ⟨hk.1.1.2.2.1, ⟨hk.1.1.2.2.2, ⟨hk.1.2, hk.2⟩⟩⟩⟩⟩)), (by (with_reducible repeat (first | apply Kd.R_alloc | apply Kd.R_drewN | apply Kd.R_drew)); exact Kd.R_mono HO276.out (fun _ hk => ⟨hk.1.1.1.1.1.2, ⟨hk.1.1.1.1.2, ⟨hk.1.1.1.2, ⟨hk.1.1.2, ⟨hk.1.2, hk.2⟩⟩⟩⟩⟩)), (by (with_reducible repeat (first | apply Kd.R_alloc | apply Kd.R_drewN | apply Kd.R_drew)); exact Kd.R_mono HO280.out (fun _ hk => ⟨hk.1.1.1.1.1.2, ⟨hk.1.1.1.1.2, ⟨hk.1.1.1.2, ⟨hk.1.1.2, ⟨hk.1.2, hk.2⟩⟩⟩⟩⟩)), (bk_ BK246), (bk_ BK247), (bk_ BK259), (bk_ BK272), (bk_ BK281), GW281.out, GE281.out, NB246_281.out, NB281_246.out, NB247_281.out, NB281_247.out, NB259_281.out, NB281_259.out, NB272_281.out, NB281_272.out, (by repeat (first | (with_reducible first | exact HB.out | apply below_alloc | apply pw_below_drewN | apply below_drew1 | refine below_set ?_ GE246.out | refine below_set ?_ GE247.out | refine below_set ?_ GE259.out | refine below_set ?_ GE272.out | refine below_set ?_ GE281.out) | exact HB.out))⟩)
         ·skip
          refine box_step ?hg (N := 7) ?hd (cs := #[.int .i64 0, .slice none 0 0]) (t := 25) ?hr ?_; (case hd => rfl); (case hg => exact fs_); (case hr => first | (go_simp; done) | (go_simp; rfl))
          intro gb281 hg w77 hbox hb
          have n0_ := Aside0.mk (Kd.R_below (rb_ HO254) hb)
          have n1_ := Aside0.mk (Kd.R_below (rb_ HO258) hb)
          have n2_ := Aside0.mk (Kd.R_below (rb_ HO263) hb)
          have n3_ := Aside0.mk (Kd.R_below (rb_ HO267) hb)
          have n4_ := Aside0.mk (Kd.R_below (rb_ HO271) hb)
          have n5_ := Aside0.mk (blk_below (g := gb246) (o := .cells #[.int .i64 a0_0, .slice A0_1 l0_1.length c0_1] 25 (0, 0)) (bk_ BK246) hb)
          have n6_ := Aside0.mk (blk_below (g := gb247) (o := .cells #[.int .i64 a1_0, .slice A1_1 l1_1.length c1_1] 25 (0, 0)) (bk_ BK247) hb)
          have n7_ := Aside0.mk (blk_below (g := gb259) (o := .cells #[.int .i64 t255, .slice Ao62 t256.length co62] 25 (0, 0)) (bk_ BK259) hb)
          have n8_ := Aside0.mk (blk_below (g := gb272) (o := .cells #[.int .i64 t268, .slice Ao73 t269.length co73] 25 (0, 0)) (bk_ BK272) hb)
          have n9_ := Aside0.mk (below_step (by repeat (first | (with_reducible first | exact HB.out | apply below_alloc | apply pw_below_drewN | apply below_drew1 | refine below_set ?_ GE246.out | refine below_set ?_ GE247.out | refine below_set ?_ GE259.out | refine below_set ?_ GE272.out) | exact HB.out)) hb)
          have n10_ := Aside0.mk (hbox)
          have n11_ := Aside0.mk ((by rw [hg]; exact (below_size (by repeat (first | (with_reducible first | exact HB.out | apply below_alloc | apply pw_below_drewN | apply below_drew1 | refine below_set ?_ GE246.out | refine below_set ?_ GE247.out | refine below_set ?_ GE259.out | refine below_set ?_ GE272.out) | exact HB.out))) : w.heap.size ≤ gb281))
          have n12_ := Aside0.mk ((by rw [hg]; exact (below_size (by repeat (first | (with_reducible first | exact HB.out | apply below_alloc | apply pw_below_drewN | apply below_drew1 | refine below_set ?_ GE246.out | refine below_set ?_ GE247.out | refine below_set ?_ GE259.out | refine below_set ?_ GE272.out) | exact HB.out))) : w.heap.size ≤ gb281))
          have n13_ := Aside0.mk ((by rw [hg]; exact Nat.ne_of_lt (blk_lt (g := gb246) (o := .cells #[.int .i64 a0_0, .slice A0_1 l0_1.length c0_1] 25 (0, 0)) (bk_ BK246)) : gb246 ≠ gb281))
          have n14_ := Aside0.mk ((by rw [hg]; exact Nat.ne_of_gt (blk_lt (g := gb246) (o := .cells #[.int .i64 a0_0, .slice A0_1 l0_1.length c0_1] 25 (0, 0)) (bk_ BK246)) : gb281 ≠ gb246))
          have n15_ := Aside0.mk ((by rw [hg]; exact Nat.ne_of_lt (blk_lt (g := gb247) (o := .cells #[.int .i64 a1_0, .slice A1_1 l1_1.length c1_1] 25 (0, 0)) (bk_ BK247)) : gb247 ≠ gb281))
          have n16_ := Aside0.mk ((by rw [hg]; exact Nat.ne_of_gt (blk_lt (g := gb247) (o := .cells #[.int .i64 a1_0, .slice A1_1 l1_1.length c1_1] 25 (0, 0)) (bk_ BK247)) : gb281 ≠ gb247))
          have n17_ := Aside0.mk ((by rw [hg]; exact Nat.ne_of_lt (blk_lt (g := gb259) (o := .cells #[.int .i64 t255, .slice Ao62 t256.length co62] 25 (0, 0)) (bk_ BK259)) : gb259 ≠ gb281))
          have n18_ := Aside0.mk ((by rw [hg]; exact Nat.ne_of_gt (blk_lt (g := gb259) (o := .cells #[.int .i64 t255, .slice Ao62 t256.length co62] 25 (0, 0)) (bk_ BK259)) : gb281 ≠ gb259))
          have n19_ := Aside0.mk ((by rw [hg]; exact Nat.ne_of_lt (blk_lt (g := gb272) (o := .cells #[.int .i64 t268, .slice Ao73 t269.length co73] 25 (0, 0)) (bk_ BK272)) : gb272 ≠ gb281))
          have n20_ := Aside0.mk ((by rw [hg]; exact Nat.ne_of_gt (blk_lt (g := gb272) (o := .cells #[.int .i64 t268, .slice Ao73 t269.length co73] 25 (0, 0)) (bk_ BK272)) : gb281 ≠ gb272))
          clear HO254
          clear HO258
          clear HO263
          clear HO267
          clear HO271
          clear BK246
          clear BK247
          clear BK259
          clear BK272
          clear HB
          have HO254 := n0_
          have HO258 := n1_
          have HO263 := n2_
          have HO267 := n3_
          have HO271 := n4_
          have BK246 := n5_
          have BK247 := n6_
          have BK259 := n7_
          have BK272 := n8_
          have HB := n9_
          have BK281 := n10_
          have GW281 := n11_
          have GE281 := n12_
          have NB246_281 := n13_
          have NB281_246 := n14_
          have NB247_281 := n15_
          have NB281_247 := n16_
          have NB259_281 := n17_
          have NB281_259 := n18_
          have NB272_281 := n19_
          have NB281_272 := n20_
          clear n0_ n1_ n2_ n3_ n4_ n5_ n6_ n7_ n8_ n9_ n10_ n11_ n12_ n13_ n14_ n15_ n16_ n17_ n18_ n19_ n20_
          clear hb hbox hg
          refine hK.out _ _ ⟨(blk_cell BK246.out 0).trans rfl, (blk_cell BK246.out 1).trans rfl, (blk_cell BK247.out 0).trans rfl, (blk_cell BK247.out 1).trans rfl⟩ (fun hHeld => ?_)
          clear hK K
          refine norm_ (a' := ?_) ?_ ?_
          rotate_left
          ·show Act.put _ (some 7) _ = _
           simp only [Act.put, List.setIfInBounds_toArray, List.set_cons_zero, List.set_cons_succ, i64_w, i32_w]
           rfl
          refine one_ (i := 2) (N := some 35) #[true, true, true, false, true, false] rfl rfl (by kernel_rfl) (by decide) (fun K hK => ?_)
          refine goes_ Tryd.func27 (by kernel_rfl) rfl #[.agg #[.int .i64 a1_0, .slice A1_1 l1_1.length c1_1]] (by (first | rfl | (simp only [*]; rfl) | (simp [*]; done))) rfl rfl ma_ ?_
          with_reducible refine (bitset_Not.calls kj2 a1_0 _ _ l1_1 t273 t274 _ ?side1 ?side2 A33.out).mono ?_
          (case side1 => exact ca_ (Kd.C_below HR1_1.out HB.out))
          (case side2 => exact HC1_1.out)
          rintro e w78 ⟨v275, rfl, ho0, hb⟩
          refine ⟨_, rfl, ?_⟩
          have n0_ := Aside0.mk (Kd.R_elder' (rb_ HO254) (Kd.R_base ho0) hb)
          have n1_ := Aside0.mk (Kd.R_elder' (rb_ HO258) (Kd.R_base ho0) hb)
          have n2_ := Aside0.mk (Kd.R_elder' (rb_ HO263) (Kd.R_base ho0) hb)
          have n3_ := Aside0.mk (Kd.R_elder' (rb_ HO267) (Kd.R_base ho0) hb)
          have n4_ := Aside0.mk (Kd.R_elder' (rb_ HO271) (Kd.R_base ho0) hb)
          have n5_ := Aside0.mk (Kd.R_lower (Kd.R_new' (Kd.R_new' (Kd.R_new' (Kd.R_new' (Kd.R_new' ho0 (Kd.R_lt (rb_ HO254))) (Kd.R_lt (rb_ HO258))) (Kd.R_lt (rb_ HO263))) (Kd.R_lt (rb_ HO267))) (Kd.R_lt (rb_ HO271))) (below_size (by repeat (first | (with_reducible first | exact HB.out | apply below_alloc | apply pw_below_drewN | apply below_drew1 | refine below_set ?_ GE246.out | refine below_set ?_ GE247.out | refine below_set ?_ GE259.out | refine below_set ?_ GE272.out | refine below_set ?_ GE281.out) | exact HB.out))))
          have n6_ := Aside0.mk (blk_below (g := gb246) (o := .cells #[.int .i64 a0_0, .slice A0_1 l0_1.length c0_1] 25 (0, 0)) (bk_ BK246) hb)
          have n7_ := Aside0.mk (blk_below (g := gb247) (o := .cells #[.int .i64 a1_0, .slice A1_1 l1_1.length c1_1] 25 (0, 0)) (bk_ BK247) hb)
          have n8_ := Aside0.mk (blk_below (g := gb259) (o := .cells #[.int .i64 t255, .slice Ao62 t256.length co62] 25 (0, 0)) (bk_ BK259) hb)
          have n9_ := Aside0.mk (blk_below (g := gb272) (o := .cells #[.int .i64 t268, .slice Ao73 t269.length co73] 25 (0, 0)) (bk_ BK272) hb)
          have n10_ := Aside0.mk (blk_below (g := gb281) (o := .cells #[.int .i64 0, .slice none 0 0] 25 (0, 0)) (bk_ BK281) hb)
          have n11_ := Aside0.mk (below_step (by repeat (first | (with_reducible first | exact HB.out | apply below_alloc | apply pw_below_drewN | apply below_drew1 | refine below_set ?_ GE246.out | refine below_set ?_ GE247.out | refine below_set ?_ GE259.out | refine below_set ?_ GE272.out | refine below_set ?_ GE281.out) | exact HB.out)) hb)
          clear HO254
          clear HO258
          clear HO263
          clear HO267
          clear HO271
          clear BK246
          clear BK247
          clear BK259
          clear BK272
          clear BK281
          clear HB
          have HO254 := n0_
          have HO258 := n1_
          have HO263 := n2_
          have HO267 := n3_
          have HO271 := n4_
          have HO276 := n5_
          have BK246 := n6_
          have BK247 := n7_
          have BK259 := n8_
          have BK272 := n9_
          have BK281 := n10_
          have HB := n11_
          clear n0_ n1_ n2_ n3_ n4_ n5_ n6_ n7_ n8_ n9_ n10_ n11_
          (try clear hb)
          (try clear hb2)
          (try clear hk)
          (try clear hi)
          (try clear ho0)
          obtain ⟨Ao79, co79, eo79⟩ := Kd.R_slice HO276.out
          (first | subst eo79 | (injection eo79 with f1_ f2_ f3_; have f4_ := f1_.symm; have f5_ := f3_.symm; clear f1_ f2_ f3_; subst f4_; subst f5_))
          refine hK.out _ _ ⟨(blk_cell BK246.out 0).trans rfl, (blk_cell BK246.out 1).trans rfl, (blk_cell BK247.out 0).trans rfl, (blk_cell BK247.out 1).trans rfl⟩ (fun hHeld => ?_)
          clear hK K
          refine norm_ (a' := ?_) ?_ ?_
          rotate_left
          ·show Act.put _ (some 35) _ = _
           simp only [Act.put, List.setIfInBounds_toArray, List.set_cons_zero, List.set_cons_succ, i64_w, i32_w]
           rfl
          refine one_ (i := 3) (N := some 36) #[true, true, true, true, true, false] rfl rfl (by kernel_rfl) (by decide) (fun K hK => ?_)
          refine goes_ Tryd.func21 (by kernel_rfl) rfl #[.agg #[.int .i64 a0_0, .slice A0_1 l0_1.length c0_1], .agg #[.int .i64 t273, .slice Ao79 t274.length co79]] (by (first | rfl | (simp only [*]; rfl) | (simp [*]; done))) rfl rfl ma_ ?_
          with_reducible refine (bitset_And.calls kj2 a0_0 _ _ l0_1 t273 _ _ t274 t277 t278 _ ?side1 ?side2 ?side3 ?side4 A34.out).mono ?_
          (case side1 => exact ca_ (Kd.C_below HR0_1.out HB.out))
          (case side2 => exact HC0_1.out)
          (case side3 => exact ca_ (Kd.R_reads' HO276.out).2.2)
          (case side4 => exact (Kd.R_reads' HO276.out).2.1)
          rintro e w80 ⟨v279, rfl, ho0, hb⟩
          refine ⟨_, rfl, ?_⟩
          have n0_ := Aside0.mk (Kd.R_elder' (rb_ HO254) (Kd.R_base ho0) hb)
          have n1_ := Aside0.mk (Kd.R_elder' (rb_ HO258) (Kd.R_base ho0) hb)
          have n2_ := Aside0.mk (Kd.R_elder' (rb_ HO263) (Kd.R_base ho0) hb)
          have n3_ := Aside0.mk (Kd.R_elder' (rb_ HO267) (Kd.R_base ho0) hb)
          have n4_ := Aside0.mk (Kd.R_elder' (rb_ HO271) (Kd.R_base ho0) hb)
          have n5_ := Aside0.mk (Kd.R_elder' (rb_ HO276) (Kd.R_base ho0) hb)
          have n6_ := Aside0.mk (Kd.R_lower (Kd.R_new' (Kd.R_new' (Kd.R_new' (Kd.R_new' (Kd.R_new' (Kd.R_new' ho0 (Kd.R_lt (rb_ HO254))) (Kd.R_lt (rb_ HO258))) (Kd.R_lt (rb_ HO263))) (Kd.R_lt (rb_ HO267))) (Kd.R_lt (rb_ HO271))) (Kd.R_lt (rb_ HO276))) (below_size (by repeat (first | (with_reducible first | exact HB.out | apply below_alloc | apply pw_below_drewN | apply below_drew1 | refine below_set ?_ GE246.out | refine below_set ?_ GE247.out | refine below_set ?_ GE259.out | refine below_set ?_ GE272.out | refine below_set ?_ GE281.out) | exact HB.out))))
          have n7_ := Aside0.mk (blk_below (g := gb246) (o := .cells #[.int .i64 a0_0, .slice A0_1 l0_1.length c0_1] 25 (0, 0)) (bk_ BK246) hb)
          have n8_ := Aside0.mk (blk_below (g := gb247) (o := .cells #[.int .i64 a1_0, .slice A1_1 l1_1.length c1_1] 25 (0, 0)) (bk_ BK247) hb)
          have n9_ := Aside0.mk (blk_below (g := gb259) (o := .cells #[.int .i64 t255, .slice Ao62 t256.length co62] 25 (0, 0)) (bk_ BK259) hb)
          have n10_ := Aside0.mk (blk_below (g := gb272) (o := .cells #[.int .i64 t268, .slice Ao73 t269.length co73] 25 (0, 0)) (bk_ BK272) hb)
          have n11_ := Aside0.mk (blk_below (g := gb281) (o := .cells #[.int .i64 0, .slice none 0 0] 25 (0, 0)) (bk_ BK281) hb)
          have n12_ := Aside0.mk (below_step (by repeat (first | (with_reducible first | exact HB.out | apply below_alloc | apply pw_below_drewN | apply below_drew1 | refine below_set ?_ GE246.out | refine below_set ?_ GE247.out | refine below_set ?_ GE259.out | refine below_set ?_ GE272.out | refine below_set ?_ GE281.out) | exact HB.out)) hb)
          clear HO254
          clear HO258
          clear HO263
          clear HO267
          clear HO271
          clear HO276
          clear BK246
          clear BK247
          clear BK259
          clear BK272
          clear BK281
          clear HB
          have HO254 := n0_
          have HO258 := n1_
          have HO263 := n2_
          have HO267 := n3_
          have HO271 := n4_
          have HO276 := n5_
          have HO280 := n6_
          have BK246 := n7_
          have BK247 := n8_
          have BK259 := n9_
          have BK272 := n10_
          have BK281 := n11_
          have HB := n12_
          clear n0_ n1_ n2_ n3_ n4_ n5_ n6_ n7_ n8_ n9_ n10_ n11_ n12_
          (try clear hb)
          (try clear hb2)
          (try clear hk)
          (try clear hi)
          (try clear ho0)
          refine hK.out _ _ ⟨(blk_cell BK246.out 0).trans rfl, (blk_cell BK246.out 1).trans rfl, (blk_cell BK247.out 0).trans rfl, (blk_cell BK247.out 1).trans rfl⟩ (fun hHeld => ?_)
          clear hK K
          refine norm_ (a' := ?_) ?_ ?_
          rotate_left
          ·show Act.put _ (some 36) _ = _
           simp only [Act.put, List.setIfInBounds_toArray, List.set_cons_zero, List.set_cons_succ, i64_w, i32_w]
           rfl
          exact norm_ (by simp only [putAll, Act.put, List.setIfInBounds_toArray, List.set_cons_zero, List.set_cons_succ]) (hCont (.slice Ao79 t274.length co79, v279, gb281) _ ⟨hHeld, (by (with_reducible repeat (first | apply Kd.R_alloc | apply Kd.R_drewN | apply Kd.R_drew)); exact Kd.R_mono HO254.out (fun _ hk => ⟨hk.1.1.1, ⟨hk.1.1.2.1, ⟨hk.1.1.2.2.1, ⟨hk.1.1.2.2.2, ⟨hk.1.2, hk.2⟩⟩⟩⟩⟩)), (by (with_reducible repeat (first | apply Kd.R_alloc | apply Kd.R_drewN | apply Kd.R_drew)); exact Kd.R_mono HO258.out (fun _ hk => ⟨hk.1.1.1, ⟨hk.1.1.2.1, ⟨hk.1.1.2.2.1, ⟨hk.1.1.2.2.2, ⟨hk.1.2, hk.2⟩⟩⟩⟩⟩)), (by (with_reducible repeat (first | apply Kd.R_alloc | apply Kd.R_drewN | apply Kd.R_drew)); exact Kd.R_mono HO263.out (fun _ hk => ⟨hk.1.1.1, ⟨hk.1.1.2.1, ⟨hk.1.1.2.2.1, ⟨hk.1.1.2.2.2, ⟨hk.1.2, hk.2⟩⟩⟩⟩⟩)), (by (with_reducible repeat (first | apply Kd.R_alloc | apply Kd.R_drewN | apply Kd.R_drew)); exact Kd.R_mono HO267.out (fun _ hk => ⟨hk.1.1.1, ⟨hk.1.1.2.1, ⟨hk.1.1.2.2.1, ⟨hk.1.1.2.2.2, ⟨hk.1.2, hk.2⟩⟩⟩⟩⟩)), (by (with_reducible repeat (first | apply Kd.R_alloc | apply Kd.R_drewN | apply Kd.R_drew)); exact Kd.R_mono HO271.out (fun _ hk => ⟨hk.1.1.1, ⟨hk.1.1.2.1, ⟨hk.1.1.2.2.1, ⟨hk.1.1.2.2.2, ⟨hk.1.2, hk.2⟩⟩⟩⟩⟩)), (by (with_reducible repeat (first | apply Kd.R_alloc | apply Kd.R_drewN | apply Kd.R_drew)); exact Kd.R_mono HO276.out (fun _ hk => ⟨hk.1.1.1.1.1.2, ⟨hk.1.1.1.1.2, ⟨hk.1.1.1.2, ⟨hk.1.1.2, ⟨hk.1.2, hk.2⟩⟩⟩⟩⟩)), (by (with_reducible repeat (first | apply Kd.R_alloc | apply Kd.R_drewN | apply Kd.R_drew)); exact Kd.R_mono HO280.out (fun _ hk => ⟨hk.1.1.1.1.1.2, ⟨hk.1.1.1.1.2, ⟨hk.1.1.1.2, ⟨hk.1.1.2, ⟨hk.1.2, hk.2⟩⟩⟩⟩⟩)), (bk_ BK246), (bk_ BK247), (bk_ BK259), (bk_ BK272), (bk_ BK281), GW281.out, GE281.out, NB246_281.out, NB281_246.out, NB247_281.out, NB281_247.out, NB259_281.out, NB281_259.out, NB272_281.out, NB281_272.out, (by repeat (first | (with_reducible first | exact HB.out | apply below_alloc | apply pw_below_drewN | apply below_drew1 | refine below_set ?_ GE246.out | refine below_set ?_ GE247.out | refine below_set ?_ GE259.out | refine below_set ?_ GE272.out | refine below_set ?_ GE281.out) | exact HB.out))⟩)
        rintro ⟨v275, v279, gb281⟩ w81 ⟨hS_, h0_, h1_, h2_, h3_, h4_, h5_, h6_, h7_, h8_, h9_, h10_, h11_, h12_, h13_, h14_, h15_, h16_, h17_, h18_, h19_, h20_, h21_, h22_⟩
        have n0_ : Aside0 (Kd.R (Kd.int .u64) 56 w81 w.heap.size (fun k_ => some k_ ≠ (.slice Ao62 t256.length co62 : Value).ownBlock ∧ some k_ ≠ (v262 : Value).ownBlock ∧ some k_ ≠ (v266 : Value).ownBlock ∧ some k_ ≠ (.slice Ao73 t269.length co73 : Value).ownBlock ∧ some k_ ≠ (v275 : Value).ownBlock ∧ some k_ ≠ (v279 : Value).ownBlock) (.slice Ao56 t252.length co56) t252) := ⟨h0_⟩
        have n1_ : Aside0 (Kd.R (Kd.int .u64) 56 w81 w.heap.size (fun k_ => some k_ ≠ (.slice Ao56 t252.length co56 : Value).ownBlock ∧ some k_ ≠ (v262 : Value).ownBlock ∧ some k_ ≠ (v266 : Value).ownBlock ∧ some k_ ≠ (.slice Ao73 t269.length co73 : Value).ownBlock ∧ some k_ ≠ (v275 : Value).ownBlock ∧ some k_ ≠ (v279 : Value).ownBlock) (.slice Ao62 t256.length co62) t256) := ⟨h1_⟩
        have n2_ : Aside0 (Kd.R (Kd.int .u64) 56 w81 w.heap.size (fun k_ => some k_ ≠ (.slice Ao56 t252.length co56 : Value).ownBlock ∧ some k_ ≠ (.slice Ao62 t256.length co62 : Value).ownBlock ∧ some k_ ≠ (v266 : Value).ownBlock ∧ some k_ ≠ (.slice Ao73 t269.length co73 : Value).ownBlock ∧ some k_ ≠ (v275 : Value).ownBlock ∧ some k_ ≠ (v279 : Value).ownBlock) v262 t261) := ⟨h2_⟩
        have n3_ : Aside0 (Kd.R (Kd.int .u64) 56 w81 w.heap.size (fun k_ => some k_ ≠ (.slice Ao56 t252.length co56 : Value).ownBlock ∧ some k_ ≠ (.slice Ao62 t256.length co62 : Value).ownBlock ∧ some k_ ≠ (v262 : Value).ownBlock ∧ some k_ ≠ (.slice Ao73 t269.length co73 : Value).ownBlock ∧ some k_ ≠ (v275 : Value).ownBlock ∧ some k_ ≠ (v279 : Value).ownBlock) v266 t265) := ⟨h3_⟩
        have n4_ : Aside0 (Kd.R (Kd.int .u64) 56 w81 w.heap.size (fun k_ => some k_ ≠ (.slice Ao56 t252.length co56 : Value).ownBlock ∧ some k_ ≠ (.slice Ao62 t256.length co62 : Value).ownBlock ∧ some k_ ≠ (v262 : Value).ownBlock ∧ some k_ ≠ (v266 : Value).ownBlock ∧ some k_ ≠ (v275 : Value).ownBlock ∧ some k_ ≠ (v279 : Value).ownBlock) (.slice Ao73 t269.length co73) t269) := ⟨h4_⟩
        have n5_ : Aside0 (Kd.R (Kd.int .u64) 56 w81 w.heap.size (fun k_ => some k_ ≠ (.slice Ao56 t252.length co56 : Value).ownBlock ∧ some k_ ≠ (.slice Ao62 t256.length co62 : Value).ownBlock ∧ some k_ ≠ (v262 : Value).ownBlock ∧ some k_ ≠ (v266 : Value).ownBlock ∧ some k_ ≠ (.slice Ao73 t269.length co73 : Value).ownBlock ∧ some k_ ≠ (v279 : Value).ownBlock) v275 t274) := ⟨h5_⟩
        have n6_ : Aside0 (Kd.R (Kd.int .u64) 56 w81 w.heap.size (fun k_ => some k_ ≠ (.slice Ao56 t252.length co56 : Value).ownBlock ∧ some k_ ≠ (.slice Ao62 t256.length co62 : Value).ownBlock ∧ some k_ ≠ (v262 : Value).ownBlock ∧ some k_ ≠ (v266 : Value).ownBlock ∧ some k_ ≠ (.slice Ao73 t269.length co73 : Value).ownBlock ∧ some k_ ≠ (v275 : Value).ownBlock) v279 t278) := ⟨h6_⟩
        have n7_ : Aside0 (w81.heap[gb246]? = some (.cells #[.int .i64 a0_0, .slice A0_1 l0_1.length c0_1] 25 (0, 0))) := ⟨h7_⟩
        have n8_ : Aside0 (w81.heap[gb247]? = some (.cells #[.int .i64 a1_0, .slice A1_1 l1_1.length c1_1] 25 (0, 0))) := ⟨h8_⟩
        have n9_ : Aside0 (w81.heap[gb259]? = some (.cells #[.int .i64 t255, .slice Ao62 t256.length co62] 25 (0, 0))) := ⟨h9_⟩
        have n10_ : Aside0 (w81.heap[gb272]? = some (.cells #[.int .i64 t268, .slice Ao73 t269.length co73] 25 (0, 0))) := ⟨h10_⟩
        have n11_ : Aside0 (w81.heap[gb281]? = some (.cells #[.int .i64 0, .slice none 0 0] 25 (0, 0))) := ⟨h11_⟩
        have n12_ : Aside0 (w.heap.size ≤ gb281) := ⟨h12_⟩
        have n13_ : Aside0 (w.heap.size ≤ gb281) := ⟨h13_⟩
        have n14_ : Aside0 (gb246 ≠ gb281) := ⟨h14_⟩
        have n15_ : Aside0 (gb281 ≠ gb246) := ⟨h15_⟩
        have n16_ : Aside0 (gb247 ≠ gb281) := ⟨h16_⟩
        have n17_ : Aside0 (gb281 ≠ gb247) := ⟨h17_⟩
        have n18_ : Aside0 (gb259 ≠ gb281) := ⟨h18_⟩
        have n19_ : Aside0 (gb281 ≠ gb259) := ⟨h19_⟩
        have n20_ : Aside0 (gb272 ≠ gb281) := ⟨h20_⟩
        have n21_ : Aside0 (gb281 ≠ gb272) := ⟨h21_⟩
        have n22_ : Aside0 (Below w.heap.size w w81) := ⟨h22_⟩
        clear HO254
        clear HO258
        clear HO263
        clear HO267
        clear HO271
        clear BK246
        clear BK247
        clear BK259
        clear BK272
        clear HB
        clear h0_ h1_ h2_ h3_ h4_ h5_ h6_ h7_ h8_ h9_ h10_ h11_ h12_ h13_ h14_ h15_ h16_ h17_ h18_ h19_ h20_ h21_ h22_
        have HO254 := n0_
        have HO258 := n1_
        have HO263 := n2_
        have HO267 := n3_
        have HO271 := n4_
        have HO276 := n5_
        have HO280 := n6_
        have BK246 := n7_
        have BK247 := n8_
        have BK259 := n9_
        have BK272 := n10_
        have BK281 := n11_
        have GW281 := n12_
        have GE281 := n13_
        have NB246_281 := n14_
        have NB281_246 := n15_
        have NB247_281 := n16_
        have NB281_247 := n17_
        have NB259_281 := n18_
        have NB281_259 := n19_
        have NB272_281 := n20_
        have NB281_272 := n21_
        have HB := n22_
        clear n0_ n1_ n2_ n3_ n4_ n5_ n6_ n7_ n8_ n9_ n10_ n11_ n12_ n13_ n14_ n15_ n16_ n17_ n18_ n19_ n20_ n21_ n22_
        have hHeld : w81.cell? ⟨gb246, 0, none⟩ = some (.int .i64 a0_0) ∧ w81.cell? ⟨gb246, 1, none⟩ = some (.slice A0_1 l0_1.length c0_1) ∧ w81.cell? ⟨gb247, 0, none⟩ = some (.int .i64 a1_0) ∧ w81.cell? ⟨gb247, 1, none⟩ = some (.slice A1_1 l1_1.length c1_1) := hS_
        obtain ⟨Ao83, co83, eo83⟩ := Kd.R_slice HO280.out
        (first | subst eo83 | (injection eo83 with f1_ f2_ f3_; have f4_ := f1_.symm; have f5_ := f3_.symm; clear f1_ f2_ f3_; subst f4_; subst f5_))
        refine norm_ (a' := ?_) ?_ ?_
        rotate_left
        ·simp only [putAll, Act.put, List.setIfInBounds_toArray, List.set_cons_zero, List.set_cons_succ]
         rfl
        refine one_ (i := 5) (N := none) #[true, true, true, true, true, true] rfl rfl (by kernel_rfl) (by decide) (fun K hK => ?_)
        have hs82 : w81.cell? ⟨gb281, 0, none⟩ = some (.int .i64 0) := (blk_cell BK281.out 0).trans rfl
        have hfs82 := blk_frozen BK281.out 0
        have hns82_0 := NB246_281.out
        have hns82_1 := NB247_281.out
        have hns82_2 := NB259_281.out
        have hns82_3 := NB272_281.out
        have hms82_0 := NB281_246.out
        have hms82_1 := NB281_247.out
        have hms82_2 := NB281_259.out
        have hms82_3 := NB281_272.out
        have hs84 : w81.cell? ⟨gb281, 1, none⟩ = some (.slice none 0 0) := (blk_cell BK281.out 1).trans rfl
        have hfs84 := blk_frozen BK281.out 1
        have hns84_0 := NB246_281.out
        have hns84_1 := NB247_281.out
        have hns84_2 := NB259_281.out
        have hns84_3 := NB272_281.out
        have hms84_0 := NB281_246.out
        have hms84_1 := NB281_247.out
        have hms84_2 := NB281_259.out
        have hms84_3 := NB281_272.out
        refine skip_ (w1 := ?_) (by rfl) rfl ?_ ?_
        rotate_left
        ·go_simp
         rfl
        refine hK.out _ _ ⟨((cell_far (p := ⟨gb281, _, none⟩) NB246_281.out _).trans (((cell_far (p := ⟨gb281, _, none⟩) NB246_281.out _).trans (hHeld.1)))), ((cell_far (p := ⟨gb281, _, none⟩) NB246_281.out _).trans (((cell_far (p := ⟨gb281, _, none⟩) NB246_281.out _).trans (hHeld.2.1)))), ((cell_far (p := ⟨gb281, _, none⟩) NB247_281.out _).trans (((cell_far (p := ⟨gb281, _, none⟩) NB247_281.out _).trans (hHeld.2.2.1)))), ((cell_far (p := ⟨gb281, _, none⟩) NB247_281.out _).trans (((cell_far (p := ⟨gb281, _, none⟩) NB247_281.out _).trans (hHeld.2.2.2))))⟩ (fun hHeld => ?_)
        clear hK K
        refine done_ (by kernel_rfl) ?_
        try go_wp2
        have n0_ : Aside0 (Kd.R (Kd.int .u64) 56 ((w81.setCell ⟨gb281, 0, none⟩ (.int .i64 t277)).setCell ⟨gb281, 1, none⟩ (.slice Ao83 t278.length co83)) w.heap.size (fun k_ => some k_ ≠ (.slice Ao62 t256.length co62 : Value).ownBlock ∧ some k_ ≠ (v262 : Value).ownBlock ∧ some k_ ≠ (v266 : Value).ownBlock ∧ some k_ ≠ (.slice Ao73 t269.length co73 : Value).ownBlock ∧ some k_ ≠ (v275 : Value).ownBlock ∧ some k_ ≠ (.slice Ao83 t278.length co83 : Value).ownBlock) (.slice Ao56 t252.length co56) t252) := ⟨by (with_reducible repeat (first | apply Kd.R_alloc | apply Kd.R_drewN | apply Kd.R_drew)); exact Kd.R_mono (Kd.R_far (p := ⟨gb281, 1, none⟩) (Kd.R_far (p := ⟨gb281, 0, none⟩) (Kd.R_types HO254.out BK281.out (by decide)) (fun _ hk => hk.2) (.int .i64 t277)) (fun _ hk => hk.2) (.slice Ao83 t278.length co83)) (fun _ hk => ⟨hk.1.1, ⟨hk.1.2.1, ⟨hk.1.2.2.1, ⟨hk.1.2.2.2.1, ⟨hk.1.2.2.2.2.1, hk.1.2.2.2.2.2⟩⟩⟩⟩⟩)⟩
        have n1_ : Aside0 (Kd.R (Kd.int .u64) 56 ((w81.setCell ⟨gb281, 0, none⟩ (.int .i64 t277)).setCell ⟨gb281, 1, none⟩ (.slice Ao83 t278.length co83)) w.heap.size (fun k_ => some k_ ≠ (.slice Ao56 t252.length co56 : Value).ownBlock ∧ some k_ ≠ (v262 : Value).ownBlock ∧ some k_ ≠ (v266 : Value).ownBlock ∧ some k_ ≠ (.slice Ao73 t269.length co73 : Value).ownBlock ∧ some k_ ≠ (v275 : Value).ownBlock ∧ some k_ ≠ (.slice Ao83 t278.length co83 : Value).ownBlock) (.slice Ao62 t256.length co62) t256) := ⟨by (with_reducible repeat (first | apply Kd.R_alloc | apply Kd.R_drewN | apply Kd.R_drew)); exact Kd.R_mono (Kd.R_far (p := ⟨gb281, 1, none⟩) (Kd.R_far (p := ⟨gb281, 0, none⟩) (Kd.R_types HO258.out BK281.out (by decide)) (fun _ hk => hk.2) (.int .i64 t277)) (fun _ hk => hk.2) (.slice Ao83 t278.length co83)) (fun _ hk => ⟨hk.1.1, ⟨hk.1.2.1, ⟨hk.1.2.2.1, ⟨hk.1.2.2.2.1, ⟨hk.1.2.2.2.2.1, hk.1.2.2.2.2.2⟩⟩⟩⟩⟩)⟩
        have n2_ : Aside0 (Kd.R (Kd.int .u64) 56 ((w81.setCell ⟨gb281, 0, none⟩ (.int .i64 t277)).setCell ⟨gb281, 1, none⟩ (.slice Ao83 t278.length co83)) w.heap.size (fun k_ => some k_ ≠ (.slice Ao56 t252.length co56 : Value).ownBlock ∧ some k_ ≠ (.slice Ao62 t256.length co62 : Value).ownBlock ∧ some k_ ≠ (v266 : Value).ownBlock ∧ some k_ ≠ (.slice Ao73 t269.length co73 : Value).ownBlock ∧ some k_ ≠ (v275 : Value).ownBlock ∧ some k_ ≠ (.slice Ao83 t278.length co83 : Value).ownBlock) v262 t261) := ⟨by (with_reducible repeat (first | apply Kd.R_alloc | apply Kd.R_drewN | apply Kd.R_drew)); exact Kd.R_mono (Kd.R_far (p := ⟨gb281, 1, none⟩) (Kd.R_far (p := ⟨gb281, 0, none⟩) (Kd.R_types HO263.out BK281.out (by decide)) (fun _ hk => hk.2) (.int .i64 t277)) (fun _ hk => hk.2) (.slice Ao83 t278.length co83)) (fun _ hk => ⟨hk.1.1, ⟨hk.1.2.1, ⟨hk.1.2.2.1, ⟨hk.1.2.2.2.1, ⟨hk.1.2.2.2.2.1, hk.1.2.2.2.2.2⟩⟩⟩⟩⟩)⟩
        have n3_ : Aside0 (Kd.R (Kd.int .u64) 56 ((w81.setCell ⟨gb281, 0, none⟩ (.int .i64 t277)).setCell ⟨gb281, 1, none⟩ (.slice Ao83 t278.length co83)) w.heap.size (fun k_ => some k_ ≠ (.slice Ao56 t252.length co56 : Value).ownBlock ∧ some k_ ≠ (.slice Ao62 t256.length co62 : Value).ownBlock ∧ some k_ ≠ (v262 : Value).ownBlock ∧ some k_ ≠ (.slice Ao73 t269.length co73 : Value).ownBlock ∧ some k_ ≠ (v275 : Value).ownBlock ∧ some k_ ≠ (.slice Ao83 t278.length co83 : Value).ownBlock) v266 t265) := ⟨by (with_reducible repeat (first | apply Kd.R_alloc | apply Kd.R_drewN | apply Kd.R_drew)); exact Kd.R_mono (Kd.R_far (p := ⟨gb281, 1, none⟩) (Kd.R_far (p := ⟨gb281, 0, none⟩) (Kd.R_types HO267.out BK281.out (by decide)) (fun _ hk => hk.2) (.int .i64 t277)) (fun _ hk => hk.2) (.slice Ao83 t278.length co83)) (fun _ hk => ⟨hk.1.1, ⟨hk.1.2.1, ⟨hk.1.2.2.1, ⟨hk.1.2.2.2.1, ⟨hk.1.2.2.2.2.1, hk.1.2.2.2.2.2⟩⟩⟩⟩⟩)⟩
        have n4_ : Aside0 (Kd.R (Kd.int .u64) 56 ((w81.setCell ⟨gb281, 0, none⟩ (.int .i64 t277)).setCell ⟨gb281, 1, none⟩ (.slice Ao83 t278.length co83)) w.heap.size (fun k_ => some k_ ≠ (.slice Ao56 t252.length co56 : Value).ownBlock ∧ some k_ ≠ (.slice Ao62 t256.length co62 : Value).ownBlock ∧ some k_ ≠ (v262 : Value).ownBlock ∧ some k_ ≠ (v266 : Value).ownBlock ∧ some k_ ≠ (v275 : Value).ownBlock ∧ some k_ ≠ (.slice Ao83 t278.length co83 : Value).ownBlock) (.slice Ao73 t269.length co73) t269) := ⟨by (with_reducible repeat (first | apply Kd.R_alloc | apply Kd.R_drewN | apply Kd.R_drew)); exact Kd.R_mono (Kd.R_far (p := ⟨gb281, 1, none⟩) (Kd.R_far (p := ⟨gb281, 0, none⟩) (Kd.R_types HO271.out BK281.out (by decide)) (fun _ hk => hk.2) (.int .i64 t277)) (fun _ hk => hk.2) (.slice Ao83 t278.length co83)) (fun _ hk => ⟨hk.1.1, ⟨hk.1.2.1, ⟨hk.1.2.2.1, ⟨hk.1.2.2.2.1, ⟨hk.1.2.2.2.2.1, hk.1.2.2.2.2.2⟩⟩⟩⟩⟩)⟩
        have n5_ : Aside0 (Kd.R (Kd.int .u64) 56 ((w81.setCell ⟨gb281, 0, none⟩ (.int .i64 t277)).setCell ⟨gb281, 1, none⟩ (.slice Ao83 t278.length co83)) w.heap.size (fun k_ => some k_ ≠ (.slice Ao56 t252.length co56 : Value).ownBlock ∧ some k_ ≠ (.slice Ao62 t256.length co62 : Value).ownBlock ∧ some k_ ≠ (v262 : Value).ownBlock ∧ some k_ ≠ (v266 : Value).ownBlock ∧ some k_ ≠ (.slice Ao73 t269.length co73 : Value).ownBlock ∧ some k_ ≠ (.slice Ao83 t278.length co83 : Value).ownBlock) v275 t274) := ⟨by (with_reducible repeat (first | apply Kd.R_alloc | apply Kd.R_drewN | apply Kd.R_drew)); exact Kd.R_mono (Kd.R_far (p := ⟨gb281, 1, none⟩) (Kd.R_far (p := ⟨gb281, 0, none⟩) (Kd.R_types HO276.out BK281.out (by decide)) (fun _ hk => hk.2) (.int .i64 t277)) (fun _ hk => hk.2) (.slice Ao83 t278.length co83)) (fun _ hk => ⟨hk.1.1, ⟨hk.1.2.1, ⟨hk.1.2.2.1, ⟨hk.1.2.2.2.1, ⟨hk.1.2.2.2.2.1, hk.1.2.2.2.2.2⟩⟩⟩⟩⟩)⟩
        have n6_ : Aside0 (Kd.R (Kd.int .u64) 56 ((w81.setCell ⟨gb281, 0, none⟩ (.int .i64 t277)).setCell ⟨gb281, 1, none⟩ (.slice Ao83 t278.length co83)) w.heap.size (fun k_ => some k_ ≠ (.slice Ao56 t252.length co56 : Value).ownBlock ∧ some k_ ≠ (.slice Ao62 t256.length co62 : Value).ownBlock ∧ some k_ ≠ (v262 : Value).ownBlock ∧ some k_ ≠ (v266 : Value).ownBlock ∧ some k_ ≠ (.slice Ao73 t269.length co73 : Value).ownBlock ∧ some k_ ≠ (v275 : Value).ownBlock) (.slice Ao83 t278.length co83) t278) := ⟨by (with_reducible repeat (first | apply Kd.R_alloc | apply Kd.R_drewN | apply Kd.R_drew)); exact Kd.R_mono (Kd.R_far (p := ⟨gb281, 1, none⟩) (Kd.R_far (p := ⟨gb281, 0, none⟩) (Kd.R_types HO280.out BK281.out (by decide)) (fun _ hk => hk.2) (.int .i64 t277)) (fun _ hk => hk.2) (.slice Ao83 t278.length co83)) (fun _ hk => ⟨hk.1.1, ⟨hk.1.2.1, ⟨hk.1.2.2.1, ⟨hk.1.2.2.2.1, ⟨hk.1.2.2.2.2.1, hk.1.2.2.2.2.2⟩⟩⟩⟩⟩)⟩
        have n7_ : Aside0 (((w81.setCell ⟨gb281, 0, none⟩ (.int .i64 t277)).setCell ⟨gb281, 1, none⟩ (.slice Ao83 t278.length co83)).heap[gb246]? = some (.cells #[.int .i64 a0_0, .slice A0_1 l0_1.length c0_1] 25 (0, 0))) := ⟨by (with_reducible repeat (first | refine blk_drewN ?_ _ | refine blk_drew ?_ | refine blk_alloc ?_ _)); refine blk_far ?_ NB246_281.out _; (with_reducible repeat (first | refine blk_drewN ?_ _ | refine blk_drew ?_ | refine blk_alloc ?_ _)); refine blk_far ?_ NB246_281.out _; (with_reducible repeat (first | refine blk_drewN ?_ _ | refine blk_drew ?_ | refine blk_alloc ?_ _)); exact BK246.out⟩
        have n8_ : Aside0 (((w81.setCell ⟨gb281, 0, none⟩ (.int .i64 t277)).setCell ⟨gb281, 1, none⟩ (.slice Ao83 t278.length co83)).heap[gb247]? = some (.cells #[.int .i64 a1_0, .slice A1_1 l1_1.length c1_1] 25 (0, 0))) := ⟨by (with_reducible repeat (first | refine blk_drewN ?_ _ | refine blk_drew ?_ | refine blk_alloc ?_ _)); refine blk_far ?_ NB247_281.out _; (with_reducible repeat (first | refine blk_drewN ?_ _ | refine blk_drew ?_ | refine blk_alloc ?_ _)); refine blk_far ?_ NB247_281.out _; (with_reducible repeat (first | refine blk_drewN ?_ _ | refine blk_drew ?_ | refine blk_alloc ?_ _)); exact BK247.out⟩
        have n9_ : Aside0 (((w81.setCell ⟨gb281, 0, none⟩ (.int .i64 t277)).setCell ⟨gb281, 1, none⟩ (.slice Ao83 t278.length co83)).heap[gb259]? = some (.cells #[.int .i64 t255, .slice Ao62 t256.length co62] 25 (0, 0))) := ⟨by (with_reducible repeat (first | refine blk_drewN ?_ _ | refine blk_drew ?_ | refine blk_alloc ?_ _)); refine blk_far ?_ NB259_281.out _; (with_reducible repeat (first | refine blk_drewN ?_ _ | refine blk_drew ?_ | refine blk_alloc ?_ _)); refine blk_far ?_ NB259_281.out _; (with_reducible repeat (first | refine blk_drewN ?_ _ | refine blk_drew ?_ | refine blk_alloc ?_ _)); exact BK259.out⟩
        have n10_ : Aside0 (((w81.setCell ⟨gb281, 0, none⟩ (.int .i64 t277)).setCell ⟨gb281, 1, none⟩ (.slice Ao83 t278.length co83)).heap[gb272]? = some (.cells #[.int .i64 t268, .slice Ao73 t269.length co73] 25 (0, 0))) := ⟨by (with_reducible repeat (first | refine blk_drewN ?_ _ | refine blk_drew ?_ | refine blk_alloc ?_ _)); refine blk_far ?_ NB272_281.out _; (with_reducible repeat (first | refine blk_drewN ?_ _ | refine blk_drew ?_ | refine blk_alloc ?_ _)); refine blk_far ?_ NB272_281.out _; (with_reducible repeat (first | refine blk_drewN ?_ _ | refine blk_drew ?_ | refine blk_alloc ?_ _)); exact BK272.out⟩
        have n11_ : Aside0 (((w81.setCell ⟨gb281, 0, none⟩ (.int .i64 t277)).setCell ⟨gb281, 1, none⟩ (.slice Ao83 t278.length co83)).heap[gb281]? = some (.cells #[.int .i64 t277, .slice Ao83 t278.length co83] 25 (0, 0))) := ⟨by (with_reducible repeat (first | refine blk_drewN ?_ _ | refine blk_drew ?_ | refine blk_alloc ?_ _)); refine blk_put (cs := #[.int .i64 t277, .slice none 0 0]) ?_ 1 _ rfl; (with_reducible repeat (first | refine blk_drewN ?_ _ | refine blk_drew ?_ | refine blk_alloc ?_ _)); refine blk_put (cs := #[.int .i64 0, .slice none 0 0]) ?_ 0 _ rfl; (with_reducible repeat (first | refine blk_drewN ?_ _ | refine blk_drew ?_ | refine blk_alloc ?_ _)); exact BK281.out⟩
        have n12_ : Aside0 (Below w.heap.size w ((w81.setCell ⟨gb281, 0, none⟩ (.int .i64 t277)).setCell ⟨gb281, 1, none⟩ (.slice Ao83 t278.length co83))) := ⟨by repeat (first | (with_reducible first | exact HB.out | apply below_alloc | apply pw_below_drewN | apply below_drew1 | refine below_set ?_ GE246.out | refine below_set ?_ GE247.out | refine below_set ?_ GE259.out | refine below_set ?_ GE272.out | refine below_set ?_ GE281.out) | exact HB.out)⟩
        (try clear HO254)
        (try clear HO258)
        (try clear HO263)
        (try clear HO267)
        (try clear HO271)
        (try clear HO276)
        (try clear HO280)
        (try clear BK246)
        (try clear BK247)
        (try clear BK259)
        (try clear BK272)
        (try clear BK281)
        (try clear HB)
        generalize ((w81.setCell ⟨gb281, 0, none⟩ (.int .i64 t277)).setCell ⟨gb281, 1, none⟩ (.slice Ao83 t278.length co83)) = w85 at n0_ n1_ n2_ n3_ n4_ n5_ n6_ n7_ n8_ n9_ n10_ n11_ n12_ ⊢
        have HO254 := n0_
        have HO258 := n1_
        have HO263 := n2_
        have HO267 := n3_
        have HO271 := n4_
        have HO276 := n5_
        have HO280 := n6_
        have BK246 := n7_
        have BK247 := n8_
        have BK259 := n9_
        have BK272 := n10_
        have BK281 := n11_
        have HB := n12_
        clear n0_ n1_ n2_ n3_ n4_ n5_ n6_ n7_ n8_ n9_ n10_ n11_ n12_
        have n0_ := Aside0.mk (Kd.R_drew HO254.out)
        have n1_ := Aside0.mk (Kd.R_drew HO258.out)
        have n2_ := Aside0.mk (Kd.R_drew HO263.out)
        have n3_ := Aside0.mk (Kd.R_drew HO267.out)
        have n4_ := Aside0.mk (Kd.R_drew HO271.out)
        have n5_ := Aside0.mk (Kd.R_drew HO276.out)
        have n6_ := Aside0.mk (Kd.R_drew HO280.out)
        have n7_ := Aside0.mk (blk_drew BK246.out)
        have n8_ := Aside0.mk (blk_drew BK247.out)
        have n9_ := Aside0.mk (blk_drew BK259.out)
        have n10_ := Aside0.mk (blk_drew BK272.out)
        have n11_ := Aside0.mk (blk_drew BK281.out)
        have n12_ := Aside0.mk (below_drew1 HB.out)
        clear HO254
        clear HO258
        clear HO263
        clear HO267
        clear HO271
        clear HO276
        clear HO280
        clear BK246
        clear BK247
        clear BK259
        clear BK272
        clear BK281
        clear HB
        have HO254 := n0_
        have HO258 := n1_
        have HO263 := n2_
        have HO267 := n3_
        have HO271 := n4_
        have HO276 := n5_
        have HO280 := n6_
        have BK246 := n7_
        have BK247 := n8_
        have BK259 := n9_
        have BK272 := n10_
        have BK281 := n11_
        have HB := n12_
        clear n0_ n1_ n2_ n3_ n4_ n5_ n6_ n7_ n8_ n9_ n10_ n11_ n12_
        refine start_ (n := 38) (S := fun w' => w'.cell? ⟨gb259, 0, none⟩ = some (.int .i64 t255) ∧ w'.cell? ⟨gb259, 1, none⟩ = some (.slice Ao62 t256.length co62) ∧ w'.cell? ⟨gb272, 0, none⟩ = some (.int .i64 t268) ∧ w'.cell? ⟨gb272, 1, none⟩ = some (.slice Ao73 t269.length co73) ∧ w'.cell? ⟨gb281, 0, none⟩ = some (.int .i64 t277) ∧ w'.cell? ⟨gb281, 1, none⟩ = some (.slice Ao83 t278.length co83) ∧ w'.cell? ⟨gb246, 0, none⟩ = some (.int .i64 a0_0) ∧ w'.cell? ⟨gb246, 1, none⟩ = some (.slice A0_1 l0_1.length c0_1) ∧ w'.cell? ⟨gb247, 0, none⟩ = some (.int .i64 a1_0) ∧ w'.cell? ⟨gb247, 1, none⟩ = some (.slice A1_1 l1_1.length c1_1)) (ds := []) #[false, false, false, false, false, false, false, false, false, false, false, false, false, false, false, false, false, false, false, false, false, false, false, false, false, false, false, false, false, false, false, false, false, false, false, false, false, false] (by kernel_rfl) rfl rfl ⟨(blk_cell BK259.out 0).trans rfl, (blk_cell BK259.out 1).trans rfl, (blk_cell BK272.out 0).trans rfl, (blk_cell BK272.out 1).trans rfl, (blk_cell BK281.out 0).trans rfl, (blk_cell BK281.out 1).trans rfl, (blk_cell BK246.out 0).trans rfl, (blk_cell BK246.out 1).trans rfl, (blk_cell BK247.out 0).trans rfl, (blk_cell BK247.out 1).trans rfl⟩ (fun hHeld => ?_); refine with_tabW laminalaw03_BitsetAlgebra.tab6 laminalaw03_BitsetAlgebra.bits6 (fun HT_ HW_ => ?_)
        generalize w85.drew = w86 at HO254 HO258 HO263 HO267 HO271 HO276 HO280 BK246 BK247 BK259 BK272 BK281 HB hHeld ⊢
        refine take_ (i := 0) (N := some 37) (v := ?_) (a' := ?_) #[true, false, false, false, false, false, false, false, false, false, false, false, false, false, false, false, false, false, false, false, false, false, false, false, false, false, false, false, false, false, false, false, false, false, false, false, false, false] rfl rfl (take_ofW HT_.out HW_.out (by kernel_rfl)) (fun _ _ _ h => h) (Or.inl ⟨by (first | rfl | (simp only [*]; rfl) | (simp [*]; done)), ?_⟩) hHeld ?_ ?_
        rotate_left
        ·rintro w' ⟨s0, s1, s2, s3, s4, s5, s6, s7, s8, s9⟩
         go_simp
         with_reducible rfl
        rotate_left
        ·simp only [Act.put, List.setIfInBounds_toArray, List.set_cons_zero, List.set_cons_succ, i64_w, i32_w]
         rfl
        refine take_ (i := 1) (N := some 38) (v := ?_) (a' := ?_) #[true, true, false, false, false, false, false, false, false, false, false, false, false, false, false, false, false, false, false, false, false, false, false, false, false, false, false, false, false, false, false, false, false, false, false, false, false, false] rfl rfl (take_ofW HT_.out HW_.out (by kernel_rfl)) (fun _ _ _ h => h) (Or.inl ⟨by (first | rfl | (simp only [*]; rfl) | (simp [*]; done)), ?_⟩) hHeld ?_ ?_
        rotate_left
        ·rintro w' ⟨s0, s1, s2, s3, s4, s5, s6, s7, s8, s9⟩
         go_simp
         with_reducible rfl
        rotate_left
        ·simp only [Act.put, List.setIfInBounds_toArray, List.set_cons_zero, List.set_cons_succ, i64_w, i32_w]
         rfl
        refine one_ (i := 2) (N := some 39) #[true, true, true, false, false, false, false, false, false, false, false, false, false, false, false, false, false, false, false, false, false, false, false, false, false, false, false, false, false, false, false, false, false, false, false, false, false, false] rfl rfl (one_of HT_.out (by kernel_rfl)) (by decide) (fun K hK => ?_)
        refine goes_ Tryd.func15 (by kernel_rfl) rfl #[.agg #[.int .i64 t255, .slice Ao62 t256.length co62], .agg #[.int .i64 t268, .slice Ao73 t269.length co73]] (by (first | rfl | (simp only [*]; rfl) | (simp [*]; done))) rfl rfl ma_ ?_
        with_reducible refine (laminaref03_Equal.calls kj2 t255 _ _ t256 t268 _ _ t269 true _ ?side1 ?side2 ?side3 ?side4 A35.out).mono ?_
        (case side1 => exact ca_ (Kd.R_reads' HO258.out).2.2)
        (case side2 => exact (Kd.R_reads' HO258.out).2.1)
        (case side3 => exact ca_ (Kd.R_reads' HO271.out).2.2)
        (case side4 => exact (Kd.R_reads' HO271.out).2.1)
        rintro e w87 ⟨rfl, hb⟩
        refine ⟨_, rfl, ?_⟩
        have n0_ := Aside0.mk (Kd.R_below (rb_ HO254) hb)
        have n1_ := Aside0.mk (Kd.R_below (rb_ HO258) hb)
        have n2_ := Aside0.mk (Kd.R_below (rb_ HO263) hb)
        have n3_ := Aside0.mk (Kd.R_below (rb_ HO267) hb)
        have n4_ := Aside0.mk (Kd.R_below (rb_ HO271) hb)
        have n5_ := Aside0.mk (Kd.R_below (rb_ HO276) hb)
        have n6_ := Aside0.mk (Kd.R_below (rb_ HO280) hb)
        have n7_ := Aside0.mk (blk_below (g := gb246) (o := .cells #[.int .i64 a0_0, .slice A0_1 l0_1.length c0_1] 25 (0, 0)) (bk_ BK246) hb)
        have n8_ := Aside0.mk (blk_below (g := gb247) (o := .cells #[.int .i64 a1_0, .slice A1_1 l1_1.length c1_1] 25 (0, 0)) (bk_ BK247) hb)
        have n9_ := Aside0.mk (blk_below (g := gb259) (o := .cells #[.int .i64 t255, .slice Ao62 t256.length co62] 25 (0, 0)) (bk_ BK259) hb)
        have n10_ := Aside0.mk (blk_below (g := gb272) (o := .cells #[.int .i64 t268, .slice Ao73 t269.length co73] 25 (0, 0)) (bk_ BK272) hb)
        have n11_ := Aside0.mk (blk_below (g := gb281) (o := .cells #[.int .i64 t277, .slice Ao83 t278.length co83] 25 (0, 0)) (bk_ BK281) hb)
        have n12_ := Aside0.mk (below_step (by repeat (first | (with_reducible first | exact HB.out | apply below_alloc | apply pw_below_drewN | apply below_drew1 | refine below_set ?_ GE246.out | refine below_set ?_ GE247.out | refine below_set ?_ GE259.out | refine below_set ?_ GE272.out | refine below_set ?_ GE281.out) | exact HB.out)) hb)
        clear HO254
        clear HO258
        clear HO263
        clear HO267
        clear HO271
        clear HO276
        clear HO280
        clear BK246
        clear BK247
        clear BK259
        clear BK272
        clear BK281
        clear HB
        have HO254 := n0_
        have HO258 := n1_
        have HO263 := n2_
        have HO267 := n3_
        have HO271 := n4_
        have HO276 := n5_
        have HO280 := n6_
        have BK246 := n7_
        have BK247 := n8_
        have BK259 := n9_
        have BK272 := n10_
        have BK281 := n11_
        have HB := n12_
        clear n0_ n1_ n2_ n3_ n4_ n5_ n6_ n7_ n8_ n9_ n10_ n11_ n12_
        (try clear hb)
        (try clear hb2)
        (try clear hk)
        (try clear hi)
        refine hK.out _ _ ⟨(blk_cell BK259.out 0).trans rfl, (blk_cell BK259.out 1).trans rfl, (blk_cell BK272.out 0).trans rfl, (blk_cell BK272.out 1).trans rfl, (blk_cell BK281.out 0).trans rfl, (blk_cell BK281.out 1).trans rfl, (blk_cell BK246.out 0).trans rfl, (blk_cell BK246.out 1).trans rfl, (blk_cell BK247.out 0).trans rfl, (blk_cell BK247.out 1).trans rfl⟩ (fun hHeld => ?_)
        clear hK K
        refine norm_ (a' := ?_) ?_ ?_
        rotate_left
        ·show Act.put _ (some 39) _ = _
         simp only [Act.put, List.setIfInBounds_toArray, List.set_cons_zero, List.set_cons_succ, i64_w, i32_w]
         rfl
        refine pure_ (i := 3) (N := some 40) (v := ?_) (a' := ?_) #[true, true, true, true, false, false, false, false, false, false, false, false, false, false, false, false, false, false, false, false, false, false, false, false, false, false, false, false, false, false, false, false, false, false, false, false, false, false] rfl rfl (any_of HT_.out (by kernel_rfl)) (fun _ _ _ h => h) (Or.inl ⟨by (first | rfl | (simp only [*]; rfl) | (simp [*]; done)), ?_⟩) ?_ ?_
        rotate_left
        ·intro w'
         go_simp
         with_reducible rfl
        rotate_left
        ·simp only [Act.put, List.setIfInBounds_toArray, List.set_cons_zero, List.set_cons_succ, i64_w, i32_w]
         rfl
        refine take_ (i := 4) (N := some 41) (v := ?_) (a' := ?_) #[true, true, true, true, true, false, false, false, false, false, false, false, false, false, false, false, false, false, false, false, false, false, false, false, false, false, false, false, false, false, false, false, false, false, false, false, false, false] rfl rfl (take_ofW HT_.out HW_.out (by kernel_rfl)) (fun _ _ _ h => h) (Or.inl ⟨by (first | rfl | (simp only [*]; rfl) | (simp [*]; done)), ?_⟩) hHeld ?_ ?_
        rotate_left
        ·rintro w' ⟨s0, s1, s2, s3, s4, s5, s6, s7, s8, s9⟩
         go_simp
         with_reducible rfl
        rotate_left
        ·simp only [Act.put, List.setIfInBounds_toArray, List.set_cons_zero, List.set_cons_succ, i64_w, i32_w]
         rfl
        refine take_ (i := 5) (N := some 42) (v := ?_) (a' := ?_) #[true, true, true, true, true, true, false, false, false, false, false, false, false, false, false, false, false, false, false, false, false, false, false, false, false, false, false, false, false, false, false, false, false, false, false, false, false, false] rfl rfl (take_ofW HT_.out HW_.out (by kernel_rfl)) (fun _ _ _ h => h) (Or.inl ⟨by (first | rfl | (simp only [*]; rfl) | (simp [*]; done)), ?_⟩) hHeld ?_ ?_
        rotate_left
        ·rintro w' ⟨s0, s1, s2, s3, s4, s5, s6, s7, s8, s9⟩
         go_simp
         with_reducible rfl
        rotate_left
        ·simp only [Act.put, List.setIfInBounds_toArray, List.set_cons_zero, List.set_cons_succ, i64_w, i32_w]
         rfl
        refine take_ (i := 6) (N := some 43) (v := ?_) (a' := ?_) #[true, true, true, true, true, true, true, false, false, false, false, false, false, false, false, false, false, false, false, false, false, false, false, false, false, false, false, false, false, false, false, false, false, false, false, false, false, false] rfl rfl (take_ofW HT_.out HW_.out (by kernel_rfl)) (fun _ _ _ h => h) (Or.inl ⟨by (first | rfl | (simp only [*]; rfl) | (simp [*]; done)), ?_⟩) hHeld ?_ ?_
        rotate_left
        ·rintro w' ⟨s0, s1, s2, s3, s4, s5, s6, s7, s8, s9⟩
         go_simp
         with_reducible rfl
        rotate_left
        ·simp only [Act.put, List.setIfInBounds_toArray, List.set_cons_zero, List.set_cons_succ, i64_w, i32_w]
         rfl
        refine one_ (i := 7) (N := some 44) #[true, true, true, true, true, true, true, true, false, false, false, false, false, false, false, false, false, false, false, false, false, false, false, false, false, false, false, false, false, false, false, false, false, false, false, false, false, false] rfl rfl (one_of HT_.out (by kernel_rfl)) (by decide) (fun K hK => ?_)
        refine goes_ Tryd.func25 (by kernel_rfl) rfl #[.agg #[.int .i64 a0_0, .slice A0_1 l0_1.length c0_1], .agg #[.int .i64 a1_0, .slice A1_1 l1_1.length c1_1]] (by (first | rfl | (simp only [*]; rfl) | (simp [*]; done))) rfl rfl ma_ ?_
        with_reducible refine (bitset_AndNot.calls kj2 a0_0 _ _ l0_1 a1_0 _ _ l1_1 t283 t284 _ ?side1 ?side2 ?side3 ?side4 A37.out).mono ?_
        (case side1 => exact ca_ (Kd.C_below HR0_1.out HB.out))
        (case side2 => exact HC0_1.out)
        (case side3 => exact ca_ (Kd.C_below HR1_1.out HB.out))
        (case side4 => exact HC1_1.out)
        rintro e w88 ⟨v285, rfl, ho0, hb⟩
        refine ⟨_, rfl, ?_⟩
        have n0_ := Aside0.mk (Kd.R_elder' (rb_ HO254) (Kd.R_base ho0) hb)
        have n1_ := Aside0.mk (Kd.R_elder' (rb_ HO258) (Kd.R_base ho0) hb)
        have n2_ := Aside0.mk (Kd.R_elder' (rb_ HO263) (Kd.R_base ho0) hb)
        have n3_ := Aside0.mk (Kd.R_elder' (rb_ HO267) (Kd.R_base ho0) hb)
        have n4_ := Aside0.mk (Kd.R_elder' (rb_ HO271) (Kd.R_base ho0) hb)
        have n5_ := Aside0.mk (Kd.R_elder' (rb_ HO276) (Kd.R_base ho0) hb)
        have n6_ := Aside0.mk (Kd.R_elder' (rb_ HO280) (Kd.R_base ho0) hb)
        have n7_ := Aside0.mk (Kd.R_lower (Kd.R_new' (Kd.R_new' (Kd.R_new' (Kd.R_new' (Kd.R_new' (Kd.R_new' (Kd.R_new' ho0 (Kd.R_lt (rb_ HO254))) (Kd.R_lt (rb_ HO258))) (Kd.R_lt (rb_ HO263))) (Kd.R_lt (rb_ HO267))) (Kd.R_lt (rb_ HO271))) (Kd.R_lt (rb_ HO276))) (Kd.R_lt (rb_ HO280))) (below_size (by repeat (first | (with_reducible first | exact HB.out | apply below_alloc | apply pw_below_drewN | apply below_drew1 | refine below_set ?_ GE246.out | refine below_set ?_ GE247.out | refine below_set ?_ GE259.out | refine below_set ?_ GE272.out | refine below_set ?_ GE281.out) | exact HB.out))))
        have n8_ := Aside0.mk (blk_below (g := gb246) (o := .cells #[.int .i64 a0_0, .slice A0_1 l0_1.length c0_1] 25 (0, 0)) (bk_ BK246) hb)
        have n9_ := Aside0.mk (blk_below (g := gb247) (o := .cells #[.int .i64 a1_0, .slice A1_1 l1_1.length c1_1] 25 (0, 0)) (bk_ BK247) hb)
        have n10_ := Aside0.mk (blk_below (g := gb259) (o := .cells #[.int .i64 t255, .slice Ao62 t256.length co62] 25 (0, 0)) (bk_ BK259) hb)
        have n11_ := Aside0.mk (blk_below (g := gb272) (o := .cells #[.int .i64 t268, .slice Ao73 t269.length co73] 25 (0, 0)) (bk_ BK272) hb)
        have n12_ := Aside0.mk (blk_below (g := gb281) (o := .cells #[.int .i64 t277, .slice Ao83 t278.length co83] 25 (0, 0)) (bk_ BK281) hb)
        have n13_ := Aside0.mk (below_step (by repeat (first | (with_reducible first | exact HB.out | apply below_alloc | apply pw_below_drewN | apply below_drew1 | refine below_set ?_ GE246.out | refine below_set ?_ GE247.out | refine below_set ?_ GE259.out | refine below_set ?_ GE272.out | refine below_set ?_ GE281.out) | exact HB.out)) hb)
        clear HO254
        clear HO258
        clear HO263
        clear HO267
        clear HO271
        clear HO276
        clear HO280
        clear BK246
        clear BK247
        clear BK259
        clear BK272
        clear BK281
        clear HB
        have HO254 := n0_
        have HO258 := n1_
        have HO263 := n2_
        have HO267 := n3_
        have HO271 := n4_
        have HO276 := n5_
        have HO280 := n6_
        have HO286 := n7_
        have BK246 := n8_
        have BK247 := n9_
        have BK259 := n10_
        have BK272 := n11_
        have BK281 := n12_
        have HB := n13_
        clear n0_ n1_ n2_ n3_ n4_ n5_ n6_ n7_ n8_ n9_ n10_ n11_ n12_ n13_
        (try clear hb)
        (try clear hb2)
        (try clear hk)
        (try clear hi)
        (try clear ho0)
        obtain ⟨Ao89, co89, eo89⟩ := Kd.R_slice HO286.out
        (first | subst eo89 | (injection eo89 with f1_ f2_ f3_; have f4_ := f1_.symm; have f5_ := f3_.symm; clear f1_ f2_ f3_; subst f4_; subst f5_))
        refine hK.out _ _ ⟨(blk_cell BK259.out 0).trans rfl, (blk_cell BK259.out 1).trans rfl, (blk_cell BK272.out 0).trans rfl, (blk_cell BK272.out 1).trans rfl, (blk_cell BK281.out 0).trans rfl, (blk_cell BK281.out 1).trans rfl, (blk_cell BK246.out 0).trans rfl, (blk_cell BK246.out 1).trans rfl, (blk_cell BK247.out 0).trans rfl, (blk_cell BK247.out 1).trans rfl⟩ (fun hHeld => ?_)
        clear hK K
        refine norm_ (a' := ?_) ?_ ?_
        rotate_left
        ·show Act.put _ (some 44) _ = _
         simp only [Act.put, List.setIfInBounds_toArray, List.set_cons_zero, List.set_cons_succ, i64_w, i32_w]
         rfl
        refine one_ (i := 8) (N := some 45) #[true, true, true, true, true, true, true, true, true, false, false, false, false, false, false, false, false, false, false, false, false, false, false, false, false, false, false, false, false, false, false, false, false, false, false, false, false, false] rfl rfl (one_of HT_.out (by kernel_rfl)) (by decide) (fun K hK => ?_)
        refine goes_ Tryd.func15 (by kernel_rfl) rfl #[.agg #[.int .i64 t277, .slice Ao83 t278.length co83], .agg #[.int .i64 t283, .slice Ao89 t284.length co89]] (by (first | rfl | (simp only [*]; rfl) | (simp [*]; done))) rfl rfl ma_ ?_
        with_reducible refine (laminaref03_Equal.calls kj2 t277 _ _ t278 t283 _ _ t284 true _ ?side1 ?side2 ?side3 ?side4 A38.out).mono ?_
        (case side1 => exact ca_ (Kd.R_reads' HO280.out).2.2)
        (case side2 => exact (Kd.R_reads' HO280.out).2.1)
        (case side3 => exact ca_ (Kd.R_reads' HO286.out).2.2)
        (case side4 => exact (Kd.R_reads' HO286.out).2.1)
        rintro e w90 ⟨rfl, hb⟩
        refine ⟨_, rfl, ?_⟩
        have n0_ := Aside0.mk (Kd.R_below (rb_ HO254) hb)
        have n1_ := Aside0.mk (Kd.R_below (rb_ HO258) hb)
        have n2_ := Aside0.mk (Kd.R_below (rb_ HO263) hb)
        have n3_ := Aside0.mk (Kd.R_below (rb_ HO267) hb)
        have n4_ := Aside0.mk (Kd.R_below (rb_ HO271) hb)
        have n5_ := Aside0.mk (Kd.R_below (rb_ HO276) hb)
        have n6_ := Aside0.mk (Kd.R_below (rb_ HO280) hb)
        have n7_ := Aside0.mk (Kd.R_below (rb_ HO286) hb)
        have n8_ := Aside0.mk (blk_below (g := gb246) (o := .cells #[.int .i64 a0_0, .slice A0_1 l0_1.length c0_1] 25 (0, 0)) (bk_ BK246) hb)
        have n9_ := Aside0.mk (blk_below (g := gb247) (o := .cells #[.int .i64 a1_0, .slice A1_1 l1_1.length c1_1] 25 (0, 0)) (bk_ BK247) hb)
        have n10_ := Aside0.mk (blk_below (g := gb259) (o := .cells #[.int .i64 t255, .slice Ao62 t256.length co62] 25 (0, 0)) (bk_ BK259) hb)
        have n11_ := Aside0.mk (blk_below (g := gb272) (o := .cells #[.int .i64 t268, .slice Ao73 t269.length co73] 25 (0, 0)) (bk_ BK272) hb)
        have n12_ := Aside0.mk (blk_below (g := gb281) (o := .cells #[.int .i64 t277, .slice Ao83 t278.length co83] 25 (0, 0)) (bk_ BK281) hb)
        have n13_ := Aside0.mk (below_step (by repeat (first | (with_reducible first | exact HB.out | apply below_alloc | apply pw_below_drewN | apply below_drew1 | refine below_set ?_ GE246.out | refine below_set ?_ GE247.out | refine below_set ?_ GE259.out | refine below_set ?_ GE272.out | refine below_set ?_ GE281.out) | exact HB.out)) hb)
        clear HO254
        clear HO258
        clear HO263
        clear HO267
        clear HO271
        clear HO276
        clear HO280
        clear HO286
        clear BK246
        clear BK247
        clear BK259
        clear BK272
        clear BK281
        clear HB
        have HO254 := n0_
        have HO258 := n1_
        have HO263 := n2_
        have HO267 := n3_
        have HO271 := n4_
        have HO276 := n5_
        have HO280 := n6_
        have HO286 := n7_
        have BK246 := n8_
        have BK247 := n9_
        have BK259 := n10_
        have BK272 := n11_
        have BK281 := n12_
        have HB := n13_
        clear n0_ n1_ n2_ n3_ n4_ n5_ n6_ n7_ n8_ n9_ n10_ n11_ n12_ n13_
        (try clear hb)
        (try clear hb2)
        (try clear hk)
        (try clear hi)
        refine hK.out _ _ ⟨(blk_cell BK259.out 0).trans rfl, (blk_cell BK259.out 1).trans rfl, (blk_cell BK272.out 0).trans rfl, (blk_cell BK272.out 1).trans rfl, (blk_cell BK281.out 0).trans rfl, (blk_cell BK281.out 1).trans rfl, (blk_cell BK246.out 0).trans rfl, (blk_cell BK246.out 1).trans rfl, (blk_cell BK247.out 0).trans rfl, (blk_cell BK247.out 1).trans rfl⟩ (fun hHeld => ?_)
        clear hK K
        refine norm_ (a' := ?_) ?_ ?_
        rotate_left
        ·show Act.put _ (some 45) _ = _
         simp only [Act.put, List.setIfInBounds_toArray, List.set_cons_zero, List.set_cons_succ, i64_w, i32_w]
         rfl
        refine pure_ (i := 9) (N := some 46) (v := ?_) (a' := ?_) #[true, true, true, true, true, true, true, true, true, true, false, false, false, false, false, false, false, false, false, false, false, false, false, false, false, false, false, false, false, false, false, false, false, false, false, false, false, false] rfl rfl (any_of HT_.out (by kernel_rfl)) (fun _ _ _ h => h) (Or.inl ⟨by (first | rfl | (simp only [*]; rfl) | (simp [*]; done)), ?_⟩) ?_ ?_
        rotate_left
        ·intro w'
         go_simp
         with_reducible rfl
        rotate_left
        ·simp only [Act.put, List.setIfInBounds_toArray, List.set_cons_zero, List.set_cons_succ, i64_w, i32_w]
         rfl
        refine pure_ (i := 10) (N := some 47) (v := ?_) (a' := ?_) #[true, true, true, true, true, true, true, true, true, true, true, false, false, false, false, false, false, false, false, false, false, false, false, false, false, false, false, false, false, false, false, false, false, false, false, false, false, false] rfl rfl (any_of HT_.out (by kernel_rfl)) (fun _ _ _ h => h) (Or.inl ⟨by (first | rfl | (simp only [*]; rfl) | (simp [*]; done)), ?_⟩) ?_ ?_
        rotate_left
        ·intro w'
         go_simp
         with_reducible rfl
        rotate_left
        ·simp only [Act.put, List.setIfInBounds_toArray, List.set_cons_zero, List.set_cons_succ, i64_w, i32_w]
         rfl
        refine take_ (i := 11) (N := some 48) (v := ?_) (a' := ?_) #[true, true, true, true, true, true, true, true, true, true, true, true, false, false, false, false, false, false, false, false, false, false, false, false, false, false, false, false, false, false, false, false, false, false, false, false, false, false] rfl rfl (take_ofW HT_.out HW_.out (by kernel_rfl)) (fun _ _ _ h => h) (Or.inl ⟨by (first | rfl | (simp only [*]; rfl) | (simp [*]; done)), ?_⟩) hHeld ?_ ?_
        rotate_left
        ·rintro w' ⟨s0, s1, s2, s3, s4, s5, s6, s7, s8, s9⟩
         go_simp
         with_reducible rfl
        rotate_left
        ·simp only [Act.put, List.setIfInBounds_toArray, List.set_cons_zero, List.set_cons_succ, i64_w, i32_w]
         rfl
        refine take_ (i := 13) (N := some 50) (v := ?_) (a' := ?_) #[true, true, true, true, true, true, true, true, true, true, true, true, false, true, false, false, false, false, false, false, false, false, false, false, false, false, false, false, false, false, false, false, false, false, false, false, false, false] rfl rfl (take_ofW HT_.out HW_.out (by kernel_rfl)) (fun _ _ _ h => h) (Or.inl ⟨by (first | rfl | (simp only [*]; rfl) | (simp [*]; done)), ?_⟩) hHeld ?_ ?_
        rotate_left
        ·rintro w' ⟨s0, s1, s2, s3, s4, s5, s6, s7, s8, s9⟩
         go_simp
         with_reducible rfl
        rotate_left
        ·simp only [Act.put, List.setIfInBounds_toArray, List.set_cons_zero, List.set_cons_succ, i64_w, i32_w]
         rfl
        refine take_ (i := 16) (N := some 53) (v := ?_) (a' := ?_) #[true, true, true, true, true, true, true, true, true, true, true, true, false, true, false, false, true, false, false, false, false, false, false, false, false, false, false, false, false, false, false, false, false, false, false, false, false, false] rfl rfl (take_ofW HT_.out HW_.out (by kernel_rfl)) (fun _ _ _ h => h) (Or.inl ⟨by (first | rfl | (simp only [*]; rfl) | (simp [*]; done)), ?_⟩) hHeld ?_ ?_
        rotate_left
        ·rintro w' ⟨s0, s1, s2, s3, s4, s5, s6, s7, s8, s9⟩
         go_simp
         with_reducible rfl
        rotate_left
        ·simp only [Act.put, List.setIfInBounds_toArray, List.set_cons_zero, List.set_cons_succ, i64_w, i32_w]
         rfl
        refine take_ (i := 17) (N := some 54) (v := ?_) (a' := ?_) #[true, true, true, true, true, true, true, true, true, true, true, true, false, true, false, false, true, true, false, false, false, false, false, false, false, false, false, false, false, false, false, false, false, false, false, false, false, false] rfl rfl (take_ofW HT_.out HW_.out (by kernel_rfl)) (fun _ _ _ h => h) (Or.inl ⟨by (first | rfl | (simp only [*]; rfl) | (simp [*]; done)), ?_⟩) hHeld ?_ ?_
        rotate_left
        ·rintro w' ⟨s0, s1, s2, s3, s4, s5, s6, s7, s8, s9⟩
         go_simp
         with_reducible rfl
        rotate_left
        ·simp only [Act.put, List.setIfInBounds_toArray, List.set_cons_zero, List.set_cons_succ, i64_w, i32_w]
         rfl
        refine take_ (i := 20) (N := some 57) (v := ?_) (a' := ?_) #[true, true, true, true, true, true, true, true, true, true, true, true, false, true, false, false, true, true, false, false, true, false, false, false, false, false, false, false, false, false, false, false, false, false, false, false, false, false] rfl rfl (take_ofW HT_.out HW_.out (by kernel_rfl)) (fun _ _ _ h => h) (Or.inl ⟨by (first | rfl | (simp only [*]; rfl) | (simp [*]; done)), ?_⟩) hHeld ?_ ?_
        rotate_left
        ·rintro w' ⟨s0, s1, s2, s3, s4, s5, s6, s7, s8, s9⟩
         go_simp
         with_reducible rfl
        rotate_left
        ·simp only [Act.put, List.setIfInBounds_toArray, List.set_cons_zero, List.set_cons_succ, i64_w, i32_w]
         rfl
        refine take_ (i := 21) (N := some 58) (v := ?_) (a' := ?_) #[true, true, true, true, true, true, true, true, true, true, true, true, false, true, false, false, true, true, false, false, true, true, false, false, false, false, false, false, false, false, false, false, false, false, false, false, false, false] rfl rfl (take_ofW HT_.out HW_.out (by kernel_rfl)) (fun _ _ _ h => h) (Or.inl ⟨by (first | rfl | (simp only [*]; rfl) | (simp [*]; done)), ?_⟩) hHeld ?_ ?_
        rotate_left
        ·rintro w' ⟨s0, s1, s2, s3, s4, s5, s6, s7, s8, s9⟩
         go_simp
         with_reducible rfl
        rotate_left
        ·simp only [Act.put, List.setIfInBounds_toArray, List.set_cons_zero, List.set_cons_succ, i64_w, i32_w]
         rfl
        refine one_ (i := 12) (N := some 49) #[true, true, true, true, true, true, true, true, true, true, true, true, true, true, false, false, true, true, false, false, true, true, false, false, false, false, false, false, false, false, false, false, false, false, false, false, false, false] rfl rfl (one_of HT_.out (by kernel_rfl)) (by decide) (fun K hK => ?_)
        refine goes_ Tryd.func37 (by kernel_rfl) rfl #[.agg #[.int .i64 a0_0, .slice A0_1 l0_1.length c0_1]] (by (first | rfl | (simp only [*]; rfl) | (simp [*]; done))) rfl rfl ma_ ?_
        with_reducible refine (bitset_Count.calls kj2 a0_0 _ _ l0_1 t288 _ ?side1 ?side2 A40.out).mono ?_
        (case side1 => exact ca_ (Kd.C_below HR0_1.out HB.out))
        (case side2 => exact HC0_1.out)
        rintro e w91 ⟨rfl, hb⟩
        refine ⟨_, rfl, ?_⟩
        have n0_ := Aside0.mk (Kd.R_below (rb_ HO254) hb)
        have n1_ := Aside0.mk (Kd.R_below (rb_ HO258) hb)
        have n2_ := Aside0.mk (Kd.R_below (rb_ HO263) hb)
        have n3_ := Aside0.mk (Kd.R_below (rb_ HO267) hb)
        have n4_ := Aside0.mk (Kd.R_below (rb_ HO271) hb)
        have n5_ := Aside0.mk (Kd.R_below (rb_ HO276) hb)
        have n6_ := Aside0.mk (Kd.R_below (rb_ HO280) hb)
        have n7_ := Aside0.mk (Kd.R_below (rb_ HO286) hb)
        have n8_ := Aside0.mk (blk_below (g := gb246) (o := .cells #[.int .i64 a0_0, .slice A0_1 l0_1.length c0_1] 25 (0, 0)) (bk_ BK246) hb)
        have n9_ := Aside0.mk (blk_below (g := gb247) (o := .cells #[.int .i64 a1_0, .slice A1_1 l1_1.length c1_1] 25 (0, 0)) (bk_ BK247) hb)
        have n10_ := Aside0.mk (blk_below (g := gb259) (o := .cells #[.int .i64 t255, .slice Ao62 t256.length co62] 25 (0, 0)) (bk_ BK259) hb)
        have n11_ := Aside0.mk (blk_below (g := gb272) (o := .cells #[.int .i64 t268, .slice Ao73 t269.length co73] 25 (0, 0)) (bk_ BK272) hb)
        have n12_ := Aside0.mk (blk_below (g := gb281) (o := .cells #[.int .i64 t277, .slice Ao83 t278.length co83] 25 (0, 0)) (bk_ BK281) hb)
        have n13_ := Aside0.mk (below_step (by repeat (first | (with_reducible first | exact HB.out | apply below_alloc | apply pw_below_drewN | apply below_drew1 | refine below_set ?_ GE246.out | refine below_set ?_ GE247.out | refine below_set ?_ GE259.out | refine below_set ?_ GE272.out | refine below_set ?_ GE281.out) | exact HB.out)) hb)
        clear HO254
        clear HO258
        clear HO263
        clear HO267
        clear HO271
        clear HO276
        clear HO280
        clear HO286
        clear BK246
        clear BK247
        clear BK259
        clear BK272
        clear BK281
        clear HB
        have HO254 := n0_
        have HO258 := n1_
        have HO263 := n2_
        have HO267 := n3_
        have HO271 := n4_
        have HO276 := n5_
        have HO280 := n6_
        have HO286 := n7_
        have BK246 := n8_
        have BK247 := n9_
        have BK259 := n10_
        have BK272 := n11_
        have BK281 := n12_
        have HB := n13_
        clear n0_ n1_ n2_ n3_ n4_ n5_ n6_ n7_ n8_ n9_ n10_ n11_ n12_ n13_
        (try clear hb)
        (try clear hb2)
        (try clear hk)
        (try clear hi)
        refine hK.out _ _ ⟨(blk_cell BK259.out 0).trans rfl, (blk_cell BK259.out 1).trans rfl, (blk_cell BK272.out 0).trans rfl, (blk_cell BK272.out 1).trans rfl, (blk_cell BK281.out 0).trans rfl, (blk_cell BK281.out 1).trans rfl, (blk_cell BK246.out 0).trans rfl, (blk_cell BK246.out 1).trans rfl, (blk_cell BK247.out 0).trans rfl, (blk_cell BK247.out 1).trans rfl⟩ (fun hHeld => ?_)
        clear hK K
        refine norm_ (a' := ?_) ?_ ?_
        rotate_left
        ·show Act.put _ (some 49) _ = _
         simp only [Act.put, List.setIfInBounds_toArray, List.set_cons_zero, List.set_cons_succ, i64_w, i32_w]
         rfl
        refine one_ (i := 14) (N := some 51) #[true, true, true, true, true, true, true, true, true, true, true, true, true, true, true, false, true, true, false, false, true, true, false, false, false, false, false, false, false, false, false, false, false, false, false, false, false, false] rfl rfl (one_of HT_.out (by kernel_rfl)) (by decide) (fun K hK => ?_)
        refine goes_ Tryd.func37 (by kernel_rfl) rfl #[.agg #[.int .i64 a1_0, .slice A1_1 l1_1.length c1_1]] (by (first | rfl | (simp only [*]; rfl) | (simp [*]; done))) rfl rfl ma_ ?_
        with_reducible refine (bitset_Count.calls kj2 a1_0 _ _ l1_1 t289 _ ?side1 ?side2 A41.out).mono ?_
        (case side1 => exact ca_ (Kd.C_below HR1_1.out HB.out))
        (case side2 => exact HC1_1.out)
        rintro e w92 ⟨rfl, hb⟩
        refine ⟨_, rfl, ?_⟩
        have n0_ := Aside0.mk (Kd.R_below (rb_ HO254) hb)
        have n1_ := Aside0.mk (Kd.R_below (rb_ HO258) hb)
        have n2_ := Aside0.mk (Kd.R_below (rb_ HO263) hb)
        have n3_ := Aside0.mk (Kd.R_below (rb_ HO267) hb)
        have n4_ := Aside0.mk (Kd.R_below (rb_ HO271) hb)
        have n5_ := Aside0.mk (Kd.R_below (rb_ HO276) hb)
        have n6_ := Aside0.mk (Kd.R_below (rb_ HO280) hb)
        have n7_ := Aside0.mk (Kd.R_below (rb_ HO286) hb)
        have n8_ := Aside0.mk (blk_below (g := gb246) (o := .cells #[.int .i64 a0_0, .slice A0_1 l0_1.length c0_1] 25 (0, 0)) (bk_ BK246) hb)
        have n9_ := Aside0.mk (blk_below (g := gb247) (o := .cells #[.int .i64 a1_0, .slice A1_1 l1_1.length c1_1] 25 (0, 0)) (bk_ BK247) hb)
        have n10_ := Aside0.mk (blk_below (g := gb259) (o := .cells #[.int .i64 t255, .slice Ao62 t256.length co62] 25 (0, 0)) (bk_ BK259) hb)
        have n11_ := Aside0.mk (blk_below (g := gb272) (o := .cells #[.int .i64 t268, .slice Ao73 t269.length co73] 25 (0, 0)) (bk_ BK272) hb)
        have n12_ := Aside0.mk (blk_below (g := gb281) (o := .cells #[.int .i64 t277, .slice Ao83 t278.length co83] 25 (0, 0)) (bk_ BK281) hb)
        have n13_ := Aside0.mk (below_step (by repeat (first | (with_reducible first | exact HB.out | apply below_alloc | apply pw_below_drewN | apply below_drew1 | refine below_set ?_ GE246.out | refine below_set ?_ GE247.out | refine below_set ?_ GE259.out | refine below_set ?_ GE272.out | refine below_set ?_ GE281.out) | exact HB.out)) hb)
        clear HO254
        clear HO258
        clear HO263
        clear HO267
        clear HO271
        clear HO276
        clear HO280
        clear HO286
        clear BK246
        clear BK247
        clear BK259
        clear BK272
        clear BK281
        clear HB
        have HO254 := n0_
        have HO258 := n1_
        have HO263 := n2_
        have HO267 := n3_
        have HO271 := n4_
        have HO276 := n5_
        have HO280 := n6_
        have HO286 := n7_
        have BK246 := n8_
        have BK247 := n9_
        have BK259 := n10_
        have BK272 := n11_
        have BK281 := n12_
        have HB := n13_
        clear n0_ n1_ n2_ n3_ n4_ n5_ n6_ n7_ n8_ n9_ n10_ n11_ n12_ n13_
        (try clear hb)
        (try clear hb2)
        (try clear hk)
        (try clear hi)
        refine hK.out _ _ ⟨(blk_cell BK259.out 0).trans rfl, (blk_cell BK259.out 1).trans rfl, (blk_cell BK272.out 0).trans rfl, (blk_cell BK272.out 1).trans rfl, (blk_cell BK281.out 0).trans rfl, (blk_cell BK281.out 1).trans rfl, (blk_cell BK246.out 0).trans rfl, (blk_cell BK246.out 1).trans rfl, (blk_cell BK247.out 0).trans rfl, (blk_cell BK247.out 1).trans rfl⟩ (fun hHeld => ?_)
        clear hK K
        refine norm_ (a' := ?_) ?_ ?_
        rotate_left
        ·show Act.put _ (some 51) _ = _
         simp only [Act.put, List.setIfInBounds_toArray, List.set_cons_zero, List.set_cons_succ, i64_w, i32_w]
         rfl
        refine pure_ (i := 15) (N := some 52) (v := ?_) (a' := ?_) #[true, true, true, true, true, true, true, true, true, true, true, true, true, true, true, true, true, true, false, false, true, true, false, false, false, false, false, false, false, false, false, false, false, false, false, false, false, false] rfl rfl (any_of HT_.out (by kernel_rfl)) (fun _ _ _ h => h) (Or.inl ⟨by (first | rfl | (simp only [*]; rfl) | (simp [*]; done)), ?_⟩) ?_ ?_
        rotate_left
        ·intro w'
         go_simp
         with_reducible rfl
        rotate_left
        ·simp only [Act.put, List.setIfInBounds_toArray, List.set_cons_zero, List.set_cons_succ, i64_w, i32_w]
         rfl
        refine one_ (i := 18) (N := some 55) #[true, true, true, true, true, true, true, true, true, true, true, true, true, true, true, true, true, true, true, false, true, true, false, false, false, false, false, false, false, false, false, false, false, false, false, false, false, false] rfl rfl (one_of HT_.out (by kernel_rfl)) (by decide) (fun K hK => ?_)
        refine goes_ Tryd.func21 (by kernel_rfl) rfl #[.agg #[.int .i64 a0_0, .slice A0_1 l0_1.length c0_1], .agg #[.int .i64 a1_0, .slice A1_1 l1_1.length c1_1]] (by (first | rfl | (simp only [*]; rfl) | (simp [*]; done))) rfl rfl ma_ ?_
        with_reducible refine (bitset_And.calls kj2 a0_0 _ _ l0_1 a1_0 _ _ l1_1 t290 t291 _ ?side1 ?side2 ?side3 ?side4 A42.out).mono ?_
        (case side1 => exact ca_ (Kd.C_below HR0_1.out HB.out))
        (case side2 => exact HC0_1.out)
        (case side3 => exact ca_ (Kd.C_below HR1_1.out HB.out))
        (case side4 => exact HC1_1.out)
        rintro e w93 ⟨v292, rfl, ho0, hb⟩
        refine ⟨_, rfl, ?_⟩
        have n0_ := Aside0.mk (Kd.R_elder' (rb_ HO254) (Kd.R_base ho0) hb)
        have n1_ := Aside0.mk (Kd.R_elder' (rb_ HO258) (Kd.R_base ho0) hb)
        have n2_ := Aside0.mk (Kd.R_elder' (rb_ HO263) (Kd.R_base ho0) hb)
        have n3_ := Aside0.mk (Kd.R_elder' (rb_ HO267) (Kd.R_base ho0) hb)
        have n4_ := Aside0.mk (Kd.R_elder' (rb_ HO271) (Kd.R_base ho0) hb)
        have n5_ := Aside0.mk (Kd.R_elder' (rb_ HO276) (Kd.R_base ho0) hb)
        have n6_ := Aside0.mk (Kd.R_elder' (rb_ HO280) (Kd.R_base ho0) hb)
        have n7_ := Aside0.mk (Kd.R_elder' (rb_ HO286) (Kd.R_base ho0) hb)
        have n8_ := Aside0.mk (Kd.R_lower (Kd.R_new' (Kd.R_new' (Kd.R_new' (Kd.R_new' (Kd.R_new' (Kd.R_new' (Kd.R_new' (Kd.R_new' ho0 (Kd.R_lt (rb_ HO254))) (Kd.R_lt (rb_ HO258))) (Kd.R_lt (rb_ HO263))) (Kd.R_lt (rb_ HO267))) (Kd.R_lt (rb_ HO271))) (Kd.R_lt (rb_ HO276))) (Kd.R_lt (rb_ HO280))) (Kd.R_lt (rb_ HO286))) (below_size (by repeat (first | (with_reducible first | exact HB.out | apply below_alloc | apply pw_below_drewN | apply below_drew1 | refine below_set ?_ GE246.out | refine below_set ?_ GE247.out | refine below_set ?_ GE259.out | refine below_set ?_ GE272.out | refine below_set ?_ GE281.out) | exact HB.out))))
        have n9_ := Aside0.mk (blk_below (g := gb246) (o := .cells #[.int .i64 a0_0, .slice A0_1 l0_1.length c0_1] 25 (0, 0)) (bk_ BK246) hb)
        have n10_ := Aside0.mk (blk_below (g := gb247) (o := .cells #[.int .i64 a1_0, .slice A1_1 l1_1.length c1_1] 25 (0, 0)) (bk_ BK247) hb)
        have n11_ := Aside0.mk (blk_below (g := gb259) (o := .cells #[.int .i64 t255, .slice Ao62 t256.length co62] 25 (0, 0)) (bk_ BK259) hb)
        have n12_ := Aside0.mk (blk_below (g := gb272) (o := .cells #[.int .i64 t268, .slice Ao73 t269.length co73] 25 (0, 0)) (bk_ BK272) hb)
        have n13_ := Aside0.mk (blk_below (g := gb281) (o := .cells #[.int .i64 t277, .slice Ao83 t278.length co83] 25 (0, 0)) (bk_ BK281) hb)
        have n14_ := Aside0.mk (below_step (by repeat (first | (with_reducible first | exact HB.out | apply below_alloc | apply pw_below_drewN | apply below_drew1 | refine below_set ?_ GE246.out | refine below_set ?_ GE247.out | refine below_set ?_ GE259.out | refine below_set ?_ GE272.out | refine below_set ?_ GE281.out) | exact HB.out)) hb)
        clear HO254
        clear HO258
        clear HO263
        clear HO267
        clear HO271
        clear HO276
        clear HO280
        clear HO286
        clear BK246
        clear BK247
        clear BK259
        clear BK272
        clear BK281
        clear HB
        have HO254 := n0_
        have HO258 := n1_
        have HO263 := n2_
        have HO267 := n3_
        have HO271 := n4_
        have HO276 := n5_
        have HO280 := n6_
        have HO286 := n7_
        have HO293 := n8_
        have BK246 := n9_
        have BK247 := n10_
        have BK259 := n11_
        have BK272 := n12_
        have BK281 := n13_
        have HB := n14_
        clear n0_ n1_ n2_ n3_ n4_ n5_ n6_ n7_ n8_ n9_ n10_ n11_ n12_ n13_ n14_
        (try clear hb)
        (try clear hb2)
        (try clear hk)
        (try clear hi)
        (try clear ho0)
        obtain ⟨Ao94, co94, eo94⟩ := Kd.R_slice HO293.out
        (first | subst eo94 | (injection eo94 with f1_ f2_ f3_; have f4_ := f1_.symm; have f5_ := f3_.symm; clear f1_ f2_ f3_; subst f4_; subst f5_))
        refine hK.out _ _ ⟨(blk_cell BK259.out 0).trans rfl, (blk_cell BK259.out 1).trans rfl, (blk_cell BK272.out 0).trans rfl, (blk_cell BK272.out 1).trans rfl, (blk_cell BK281.out 0).trans rfl, (blk_cell BK281.out 1).trans rfl, (blk_cell BK246.out 0).trans rfl, (blk_cell BK246.out 1).trans rfl, (blk_cell BK247.out 0).trans rfl, (blk_cell BK247.out 1).trans rfl⟩ (fun hHeld => ?_)
        clear hK K
        refine norm_ (a' := ?_) ?_ ?_
        rotate_left
        ·show Act.put _ (some 55) _ = _
         simp only [Act.put, List.setIfInBounds_toArray, List.set_cons_zero, List.set_cons_succ, i64_w, i32_w]
         rfl
        refine one_ (i := 19) (N := some 56) #[true, true, true, true, true, true, true, true, true, true, true, true, true, true, true, true, true, true, true, true, true, true, false, false, false, false, false, false, false, false, false, false, false, false, false, false, false, false] rfl rfl (one_of HT_.out (by kernel_rfl)) (by decide) (fun K hK => ?_)
        refine goes_ Tryd.func37 (by kernel_rfl) rfl #[.agg #[.int .i64 t290, .slice Ao94 t291.length co94]] (by (first | rfl | (simp only [*]; rfl) | (simp [*]; done))) rfl rfl ma_ ?_
        with_reducible refine (bitset_Count.calls kj2 t290 _ _ t291 t294 _ ?side1 ?side2 A43.out).mono ?_
        (case side1 => exact ca_ (Kd.R_reads' HO293.out).2.2)
        (case side2 => exact (Kd.R_reads' HO293.out).2.1)
        rintro e w95 ⟨rfl, hb⟩
        refine ⟨_, rfl, ?_⟩
        have n0_ := Aside0.mk (Kd.R_below (rb_ HO254) hb)
        have n1_ := Aside0.mk (Kd.R_below (rb_ HO258) hb)
        have n2_ := Aside0.mk (Kd.R_below (rb_ HO263) hb)
        have n3_ := Aside0.mk (Kd.R_below (rb_ HO267) hb)
        have n4_ := Aside0.mk (Kd.R_below (rb_ HO271) hb)
        have n5_ := Aside0.mk (Kd.R_below (rb_ HO276) hb)
        have n6_ := Aside0.mk (Kd.R_below (rb_ HO280) hb)
        have n7_ := Aside0.mk (Kd.R_below (rb_ HO286) hb)
        have n8_ := Aside0.mk (Kd.R_below (rb_ HO293) hb)
        have n9_ := Aside0.mk (blk_below (g := gb246) (o := .cells #[.int .i64 a0_0, .slice A0_1 l0_1.length c0_1] 25 (0, 0)) (bk_ BK246) hb)
        have n10_ := Aside0.mk (blk_below (g := gb247) (o := .cells #[.int .i64 a1_0, .slice A1_1 l1_1.length c1_1] 25 (0, 0)) (bk_ BK247) hb)
        have n11_ := Aside0.mk (blk_below (g := gb259) (o := .cells #[.int .i64 t255, .slice Ao62 t256.length co62] 25 (0, 0)) (bk_ BK259) hb)
        have n12_ := Aside0.mk (blk_below (g := gb272) (o := .cells #[.int .i64 t268, .slice Ao73 t269.length co73] 25 (0, 0)) (bk_ BK272) hb)
        have n13_ := Aside0.mk (blk_below (g := gb281) (o := .cells #[.int .i64 t277, .slice Ao83 t278.length co83] 25 (0, 0)) (bk_ BK281) hb)
        have n14_ := Aside0.mk (below_step (by repeat (first | (with_reducible first | exact HB.out | apply below_alloc | apply pw_below_drewN | apply below_drew1 | refine below_set ?_ GE246.out | refine below_set ?_ GE247.out | refine below_set ?_ GE259.out | refine below_set ?_ GE272.out | refine below_set ?_ GE281.out) | exact HB.out)) hb)
        clear HO254
        clear HO258
        clear HO263
        clear HO267
        clear HO271
        clear HO276
        clear HO280
        clear HO286
        clear HO293
        clear BK246
        clear BK247
        clear BK259
        clear BK272
        clear BK281
        clear HB
        have HO254 := n0_
        have HO258 := n1_
        have HO263 := n2_
        have HO267 := n3_
        have HO271 := n4_
        have HO276 := n5_
        have HO280 := n6_
        have HO286 := n7_
        have HO293 := n8_
        have BK246 := n9_
        have BK247 := n10_
        have BK259 := n11_
        have BK272 := n12_
        have BK281 := n13_
        have HB := n14_
        clear n0_ n1_ n2_ n3_ n4_ n5_ n6_ n7_ n8_ n9_ n10_ n11_ n12_ n13_ n14_
        (try clear hb)
        (try clear hb2)
        (try clear hk)
        (try clear hi)
        refine hK.out _ _ ⟨(blk_cell BK259.out 0).trans rfl, (blk_cell BK259.out 1).trans rfl, (blk_cell BK272.out 0).trans rfl, (blk_cell BK272.out 1).trans rfl, (blk_cell BK281.out 0).trans rfl, (blk_cell BK281.out 1).trans rfl, (blk_cell BK246.out 0).trans rfl, (blk_cell BK246.out 1).trans rfl, (blk_cell BK247.out 0).trans rfl, (blk_cell BK247.out 1).trans rfl⟩ (fun hHeld => ?_)
        clear hK K
        refine norm_ (a' := ?_) ?_ ?_
        rotate_left
        ·show Act.put _ (some 56) _ = _
         simp only [Act.put, List.setIfInBounds_toArray, List.set_cons_zero, List.set_cons_succ, i64_w, i32_w]
         rfl
        refine one_ (i := 22) (N := some 59) #[true, true, true, true, true, true, true, true, true, true, true, true, true, true, true, true, true, true, true, true, true, true, true, false, false, false, false, false, false, false, false, false, false, false, false, false, false, false] rfl rfl (one_of HT_.out (by kernel_rfl)) (by decide) (fun K hK => ?_)
        refine goes_ Tryd.func23 (by kernel_rfl) rfl #[.agg #[.int .i64 a0_0, .slice A0_1 l0_1.length c0_1], .agg #[.int .i64 a1_0, .slice A1_1 l1_1.length c1_1]] (by (first | rfl | (simp only [*]; rfl) | (simp [*]; done))) rfl rfl ma_ ?_
        with_reducible refine (bitset_Or.calls kj2 a0_0 _ _ l0_1 a1_0 _ _ l1_1 t295 t296 _ ?side1 ?side2 ?side3 ?side4 A44.out).mono ?_
        (case side1 => exact ca_ (Kd.C_below HR0_1.out HB.out))
        (case side2 => exact HC0_1.out)
        (case side3 => exact ca_ (Kd.C_below HR1_1.out HB.out))
        (case side4 => exact HC1_1.out)
        rintro e w96 ⟨v297, rfl, ho0, hb⟩
        refine ⟨_, rfl, ?_⟩
        have n0_ := Aside0.mk (Kd.R_elder' (rb_ HO254) (Kd.R_base ho0) hb)
        have n1_ := Aside0.mk (Kd.R_elder' (rb_ HO258) (Kd.R_base ho0) hb)
        have n2_ := Aside0.mk (Kd.R_elder' (rb_ HO263) (Kd.R_base ho0) hb)
        have n3_ := Aside0.mk (Kd.R_elder' (rb_ HO267) (Kd.R_base ho0) hb)
        have n4_ := Aside0.mk (Kd.R_elder' (rb_ HO271) (Kd.R_base ho0) hb)
        have n5_ := Aside0.mk (Kd.R_elder' (rb_ HO276) (Kd.R_base ho0) hb)
        have n6_ := Aside0.mk (Kd.R_elder' (rb_ HO280) (Kd.R_base ho0) hb)
        have n7_ := Aside0.mk (Kd.R_elder' (rb_ HO286) (Kd.R_base ho0) hb)
        have n8_ := Aside0.mk (Kd.R_elder' (rb_ HO293) (Kd.R_base ho0) hb)
        have n9_ := Aside0.mk (Kd.R_lower (Kd.R_new' (Kd.R_new' (Kd.R_new' (Kd.R_new' (Kd.R_new' (Kd.R_new' (Kd.R_new' (Kd.R_new' (Kd.R_new' ho0 (Kd.R_lt (rb_ HO254))) (Kd.R_lt (rb_ HO258))) (Kd.R_lt (rb_ HO263))) (Kd.R_lt (rb_ HO267))) (Kd.R_lt (rb_ HO271))) (Kd.R_lt (rb_ HO276))) (Kd.R_lt (rb_ HO280))) (Kd.R_lt (rb_ HO286))) (Kd.R_lt (rb_ HO293))) (below_size (by repeat (first | (with_reducible first | exact HB.out | apply below_alloc | apply pw_below_drewN | apply below_drew1 | refine below_set ?_ GE246.out | refine below_set ?_ GE247.out | refine below_set ?_ GE259.out | refine below_set ?_ GE272.out | refine below_set ?_ GE281.out) | exact HB.out))))
        have n10_ := Aside0.mk (blk_below (g := gb246) (o := .cells #[.int .i64 a0_0, .slice A0_1 l0_1.length c0_1] 25 (0, 0)) (bk_ BK246) hb)
        have n11_ := Aside0.mk (blk_below (g := gb247) (o := .cells #[.int .i64 a1_0, .slice A1_1 l1_1.length c1_1] 25 (0, 0)) (bk_ BK247) hb)
        have n12_ := Aside0.mk (blk_below (g := gb259) (o := .cells #[.int .i64 t255, .slice Ao62 t256.length co62] 25 (0, 0)) (bk_ BK259) hb)
        have n13_ := Aside0.mk (blk_below (g := gb272) (o := .cells #[.int .i64 t268, .slice Ao73 t269.length co73] 25 (0, 0)) (bk_ BK272) hb)
        have n14_ := Aside0.mk (blk_below (g := gb281) (o := .cells #[.int .i64 t277, .slice Ao83 t278.length co83] 25 (0, 0)) (bk_ BK281) hb)
        have n15_ := Aside0.mk (below_step (by repeat (first | (with_reducible first | exact HB.out | apply below_alloc | apply pw_below_drewN | apply below_drew1 | refine below_set ?_ GE246.out | refine below_set ?_ GE247.out | refine below_set ?_ GE259.out | refine below_set ?_ GE272.out | refine below_set ?_ GE281.out) | exact HB.out)) hb)
        clear HO254
        clear HO258
        clear HO263
        clear HO267
        clear HO271
        clear HO276
        clear HO280
        clear HO286
        clear HO293
        clear BK246
        clear BK247
        clear BK259
        clear BK272
        clear BK281
        clear HB
        have HO254 := n0_
        have HO258 := n1_
        have HO263 := n2_
        have HO267 := n3_
        have HO271 := n4_
        have HO276 := n5_
        have HO280 := n6_
        have HO286 := n7_
        have HO293 := n8_
        have HO298 := n9_
        have BK246 := n10_
        have BK247 := n11_
        have BK259 := n12_
        have BK272 := n13_
        have BK281 := n14_
        have HB := n15_
        clear n0_ n1_ n2_ n3_ n4_ n5_ n6_ n7_ n8_ n9_ n10_ n11_ n12_ n13_ n14_ n15_
        (try clear hb)
        (try clear hb2)
        (try clear hk)
        (try clear hi)
        (try clear ho0)
        obtain ⟨Ao97, co97, eo97⟩ := Kd.R_slice HO298.out
        (first | subst eo97 | (injection eo97 with f1_ f2_ f3_; have f4_ := f1_.symm; have f5_ := f3_.symm; clear f1_ f2_ f3_; subst f4_; subst f5_))
        refine hK.out _ _ ⟨(blk_cell BK259.out 0).trans rfl, (blk_cell BK259.out 1).trans rfl, (blk_cell BK272.out 0).trans rfl, (blk_cell BK272.out 1).trans rfl, (blk_cell BK281.out 0).trans rfl, (blk_cell BK281.out 1).trans rfl, (blk_cell BK246.out 0).trans rfl, (blk_cell BK246.out 1).trans rfl, (blk_cell BK247.out 0).trans rfl, (blk_cell BK247.out 1).trans rfl⟩ (fun hHeld => ?_)
        clear hK K
        refine norm_ (a' := ?_) ?_ ?_
        rotate_left
        ·show Act.put _ (some 59) _ = _
         simp only [Act.put, List.setIfInBounds_toArray, List.set_cons_zero, List.set_cons_succ, i64_w, i32_w]
         rfl
        refine one_ (i := 23) (N := some 60) #[true, true, true, true, true, true, true, true, true, true, true, true, true, true, true, true, true, true, true, true, true, true, true, true, false, false, false, false, false, false, false, false, false, false, false, false, false, false] rfl rfl (one_of HT_.out (by kernel_rfl)) (by decide) (fun K hK => ?_)
        refine goes_ Tryd.func37 (by kernel_rfl) rfl #[.agg #[.int .i64 t295, .slice Ao97 t296.length co97]] (by (first | rfl | (simp only [*]; rfl) | (simp [*]; done))) rfl rfl ma_ ?_
        with_reducible refine (bitset_Count.calls kj2 t295 _ _ t296 t299 _ ?side1 ?side2 A45.out).mono ?_
        (case side1 => exact ca_ (Kd.R_reads' HO298.out).2.2)
        (case side2 => exact (Kd.R_reads' HO298.out).2.1)
        rintro e w98 ⟨rfl, hb⟩
        refine ⟨_, rfl, ?_⟩
        have n0_ := Aside0.mk (Kd.R_below (rb_ HO254) hb)
        have n1_ := Aside0.mk (Kd.R_below (rb_ HO258) hb)
        have n2_ := Aside0.mk (Kd.R_below (rb_ HO263) hb)
        have n3_ := Aside0.mk (Kd.R_below (rb_ HO267) hb)
        have n4_ := Aside0.mk (Kd.R_below (rb_ HO271) hb)
        have n5_ := Aside0.mk (Kd.R_below (rb_ HO276) hb)
        have n6_ := Aside0.mk (Kd.R_below (rb_ HO280) hb)
        have n7_ := Aside0.mk (Kd.R_below (rb_ HO286) hb)
        have n8_ := Aside0.mk (Kd.R_below (rb_ HO293) hb)
        have n9_ := Aside0.mk (Kd.R_below (rb_ HO298) hb)
        have n10_ := Aside0.mk (blk_below (g := gb246) (o := .cells #[.int .i64 a0_0, .slice A0_1 l0_1.length c0_1] 25 (0, 0)) (bk_ BK246) hb)
        have n11_ := Aside0.mk (blk_below (g := gb247) (o := .cells #[.int .i64 a1_0, .slice A1_1 l1_1.length c1_1] 25 (0, 0)) (bk_ BK247) hb)
        have n12_ := Aside0.mk (blk_below (g := gb259) (o := .cells #[.int .i64 t255, .slice Ao62 t256.length co62] 25 (0, 0)) (bk_ BK259) hb)
        have n13_ := Aside0.mk (blk_below (g := gb272) (o := .cells #[.int .i64 t268, .slice Ao73 t269.length co73] 25 (0, 0)) (bk_ BK272) hb)
        have n14_ := Aside0.mk (blk_below (g := gb281) (o := .cells #[.int .i64 t277, .slice Ao83 t278.length co83] 25 (0, 0)) (bk_ BK281) hb)
        have n15_ := Aside0.mk (below_step (by repeat (first | (with_reducible first | exact HB.out | apply below_alloc | apply pw_below_drewN | apply below_drew1 | refine below_set ?_ GE246.out | refine below_set ?_ GE247.out | refine below_set ?_ GE259.out | refine below_set ?_ GE272.out | refine below_set ?_ GE281.out) | exact HB.out)) hb)
        clear HO254
        clear HO258
        clear HO263
        clear HO267
        clear HO271
        clear HO276
        clear HO280
        clear HO286
        clear HO293
        clear HO298
        clear BK246
        clear BK247
        clear BK259
        clear BK272
        clear BK281
        clear HB
        have HO254 := n0_
        have HO258 := n1_
        have HO263 := n2_
        have HO267 := n3_
        have HO271 := n4_
        have HO276 := n5_
        have HO280 := n6_
        have HO286 := n7_
        have HO293 := n8_
        have HO298 := n9_
        have BK246 := n10_
        have BK247 := n11_
        have BK259 := n12_
        have BK272 := n13_
        have BK281 := n14_
        have HB := n15_
        clear n0_ n1_ n2_ n3_ n4_ n5_ n6_ n7_ n8_ n9_ n10_ n11_ n12_ n13_ n14_ n15_
        (try clear hb)
        (try clear hb2)
        (try clear hk)
        (try clear hi)
        refine hK.out _ _ ⟨(blk_cell BK259.out 0).trans rfl, (blk_cell BK259.out 1).trans rfl, (blk_cell BK272.out 0).trans rfl, (blk_cell BK272.out 1).trans rfl, (blk_cell BK281.out 0).trans rfl, (blk_cell BK281.out 1).trans rfl, (blk_cell BK246.out 0).trans rfl, (blk_cell BK246.out 1).trans rfl, (blk_cell BK247.out 0).trans rfl, (blk_cell BK247.out 1).trans rfl⟩ (fun hHeld => ?_)
        clear hK K
        refine norm_ (a' := ?_) ?_ ?_
        rotate_left
        ·show Act.put _ (some 60) _ = _
         simp only [Act.put, List.setIfInBounds_toArray, List.set_cons_zero, List.set_cons_succ, i64_w, i32_w]
         rfl
        refine pure_ (i := 24) (N := some 61) (v := ?_) (a' := ?_) #[true, true, true, true, true, true, true, true, true, true, true, true, true, true, true, true, true, true, true, true, true, true, true, true, true, false, false, false, false, false, false, false, false, false, false, false, false, false] rfl rfl (any_of HT_.out (by kernel_rfl)) (fun _ _ _ h => h) (Or.inl ⟨by (first | rfl | (simp only [*]; rfl) | (simp [*]; done)), ?_⟩) ?_ ?_
        rotate_left
        ·intro w'
         go_simp
         with_reducible rfl
        rotate_left
        ·simp only [Act.put, List.setIfInBounds_toArray, List.set_cons_zero, List.set_cons_succ, i64_w, i32_w]
         rfl
        refine pure_ (i := 25) (N := some 62) (v := ?_) (a' := ?_) #[true, true, true, true, true, true, true, true, true, true, true, true, true, true, true, true, true, true, true, true, true, true, true, true, true, true, false, false, false, false, false, false, false, false, false, false, false, false] rfl rfl (any_of HT_.out (by kernel_rfl)) (fun _ _ _ h => h) (Or.inl ⟨by (first | rfl | (simp only [*]; rfl) | (simp [*]; done)), ?_⟩) ?_ ?_
        rotate_left
        ·intro w'
         go_simp
         with_reducible rfl
        rotate_left
        ·simp only [Act.put, List.setIfInBounds_toArray, List.set_cons_zero, List.set_cons_succ, i64_w, i32_w]
         rfl
        refine pure_ (i := 26) (N := some 63) (v := ?_) (a' := ?_) #[true, true, true, true, true, true, true, true, true, true, true, true, true, true, true, true, true, true, true, true, true, true, true, true, true, true, true, false, false, false, false, false, false, false, false, false, false, false] rfl rfl (any_of HT_.out (by kernel_rfl)) (fun _ _ _ h => h) (Or.inl ⟨by (first | rfl | (simp only [*]; rfl) | (simp [*]; done)), ?_⟩) ?_ ?_
        rotate_left
        ·intro w'
         go_simp
         with_reducible rfl
        rotate_left
        ·simp only [Act.put, List.setIfInBounds_toArray, List.set_cons_zero, List.set_cons_succ, i64_w, i32_w]
         rfl
        refine pure_ (i := 27) (N := some 64) (v := ?_) (a' := ?_) #[true, true, true, true, true, true, true, true, true, true, true, true, true, true, true, true, true, true, true, true, true, true, true, true, true, true, true, true, false, false, false, false, false, false, false, false, false, false] rfl rfl (any_of HT_.out (by kernel_rfl)) (fun _ _ _ h => h) (Or.inl ⟨by (first | rfl | (simp only [*]; rfl) | (simp [*]; done)), ?_⟩) ?_ ?_
        rotate_left
        ·intro w'
         go_simp
         with_reducible rfl
        rotate_left
        ·simp only [Act.put, List.setIfInBounds_toArray, List.set_cons_zero, List.set_cons_succ, i64_w, i32_w]
         rfl
        refine take_ (i := 28) (N := some 65) (v := ?_) (a' := ?_) #[true, true, true, true, true, true, true, true, true, true, true, true, true, true, true, true, true, true, true, true, true, true, true, true, true, true, true, true, true, false, false, false, false, false, false, false, false, false] rfl rfl (take_ofW HT_.out HW_.out (by kernel_rfl)) (fun _ _ _ h => h) (Or.inl ⟨by (first | rfl | (simp only [*]; rfl) | (simp [*]; done)), ?_⟩) hHeld ?_ ?_
        rotate_left
        ·rintro w' ⟨s0, s1, s2, s3, s4, s5, s6, s7, s8, s9⟩
         go_simp
         with_reducible rfl
        rotate_left
        ·simp only [Act.put, List.setIfInBounds_toArray, List.set_cons_zero, List.set_cons_succ, i64_w, i32_w]
         rfl
        refine take_ (i := 31) (N := some 68) (v := ?_) (a' := ?_) #[true, true, true, true, true, true, true, true, true, true, true, true, true, true, true, true, true, true, true, true, true, true, true, true, true, true, true, true, true, false, false, true, false, false, false, false, false, false] rfl rfl (take_ofW HT_.out HW_.out (by kernel_rfl)) (fun _ _ _ h => h) (Or.inl ⟨by (first | rfl | (simp only [*]; rfl) | (simp [*]; done)), ?_⟩) hHeld ?_ ?_
        rotate_left
        ·rintro w' ⟨s0, s1, s2, s3, s4, s5, s6, s7, s8, s9⟩
         go_simp
         with_reducible rfl
        rotate_left
        ·simp only [Act.put, List.setIfInBounds_toArray, List.set_cons_zero, List.set_cons_succ, i64_w, i32_w]
         rfl
        refine one_ (i := 29) (N := some 66) #[true, true, true, true, true, true, true, true, true, true, true, true, true, true, true, true, true, true, true, true, true, true, true, true, true, true, true, true, true, true, false, true, false, false, false, false, false, false] rfl rfl (one_of HT_.out (by kernel_rfl)) (by decide) (fun K hK => ?_)
        refine goes_ Tryd.func27 (by kernel_rfl) rfl #[.agg #[.int .i64 a0_0, .slice A0_1 l0_1.length c0_1]] (by (first | rfl | (simp only [*]; rfl) | (simp [*]; done))) rfl rfl ma_ ?_
        with_reducible refine (bitset_Not.calls kj2 a0_0 _ _ l0_1 t300 t301 _ ?side1 ?side2 A47.out).mono ?_
        (case side1 => exact ca_ (Kd.C_below HR0_1.out HB.out))
        (case side2 => exact HC0_1.out)
        rintro e w99 ⟨v302, rfl, ho0, hb⟩
        refine ⟨_, rfl, ?_⟩
        have n0_ := Aside0.mk (Kd.R_elder' (rb_ HO254) (Kd.R_base ho0) hb)
        have n1_ := Aside0.mk (Kd.R_elder' (rb_ HO258) (Kd.R_base ho0) hb)
        have n2_ := Aside0.mk (Kd.R_elder' (rb_ HO263) (Kd.R_base ho0) hb)
        have n3_ := Aside0.mk (Kd.R_elder' (rb_ HO267) (Kd.R_base ho0) hb)
        have n4_ := Aside0.mk (Kd.R_elder' (rb_ HO271) (Kd.R_base ho0) hb)
        have n5_ := Aside0.mk (Kd.R_elder' (rb_ HO276) (Kd.R_base ho0) hb)
        have n6_ := Aside0.mk (Kd.R_elder' (rb_ HO280) (Kd.R_base ho0) hb)
        have n7_ := Aside0.mk (Kd.R_elder' (rb_ HO286) (Kd.R_base ho0) hb)
        have n8_ := Aside0.mk (Kd.R_elder' (rb_ HO293) (Kd.R_base ho0) hb)
        have n9_ := Aside0.mk (Kd.R_elder' (rb_ HO298) (Kd.R_base ho0) hb)
        have n10_ := Aside0.mk (Kd.R_lower (Kd.R_new' (Kd.R_new' (Kd.R_new' (Kd.R_new' (Kd.R_new' (Kd.R_new' (Kd.R_new' (Kd.R_new' (Kd.R_new' (Kd.R_new' ho0 (Kd.R_lt (rb_ HO254))) (Kd.R_lt (rb_ HO258))) (Kd.R_lt (rb_ HO263))) (Kd.R_lt (rb_ HO267))) (Kd.R_lt (rb_ HO271))) (Kd.R_lt (rb_ HO276))) (Kd.R_lt (rb_ HO280))) (Kd.R_lt (rb_ HO286))) (Kd.R_lt (rb_ HO293))) (Kd.R_lt (rb_ HO298))) (below_size (by repeat (first | (with_reducible first | exact HB.out | apply below_alloc | apply pw_below_drewN | apply below_drew1 | refine below_set ?_ GE246.out | refine below_set ?_ GE247.out | refine below_set ?_ GE259.out | refine below_set ?_ GE272.out | refine below_set ?_ GE281.out) | exact HB.out))))
        have n11_ := Aside0.mk (blk_below (g := gb246) (o := .cells #[.int .i64 a0_0, .slice A0_1 l0_1.length c0_1] 25 (0, 0)) (bk_ BK246) hb)
        have n12_ := Aside0.mk (blk_below (g := gb247) (o := .cells #[.int .i64 a1_0, .slice A1_1 l1_1.length c1_1] 25 (0, 0)) (bk_ BK247) hb)
        have n13_ := Aside0.mk (blk_below (g := gb259) (o := .cells #[.int .i64 t255, .slice Ao62 t256.length co62] 25 (0, 0)) (bk_ BK259) hb)
        have n14_ := Aside0.mk (blk_below (g := gb272) (o := .cells #[.int .i64 t268, .slice Ao73 t269.length co73] 25 (0, 0)) (bk_ BK272) hb)
        have n15_ := Aside0.mk (blk_below (g := gb281) (o := .cells #[.int .i64 t277, .slice Ao83 t278.length co83] 25 (0, 0)) (bk_ BK281) hb)
        have n16_ := Aside0.mk (below_step (by repeat (first | (with_reducible first | exact HB.out | apply below_alloc | apply pw_below_drewN | apply below_drew1 | refine below_set ?_ GE246.out | refine below_set ?_ GE247.out | refine below_set ?_ GE259.out | refine below_set ?_ GE272.out | refine below_set ?_ GE281.out) | exact HB.out)) hb)
        clear HO254
        clear HO258
        clear HO263
        clear HO267
        clear HO271
        clear HO276
        clear HO280
        clear HO286
        clear HO293
        clear HO298
        clear BK246
        clear BK247
        clear BK259
        clear BK272
        clear BK281
        clear HB
        have HO254 := n0_
        have HO258 := n1_
        have HO263 := n2_
        have HO267 := n3_
        have HO271 := n4_
        have HO276 := n5_
        have HO280 := n6_
        have HO286 := n7_
        have HO293 := n8_
        have HO298 := n9_
        have HO303 := n10_
        have BK246 := n11_
        have BK247 := n12_
        have BK259 := n13_
        have BK272 := n14_
        have BK281 := n15_
        have HB := n16_
        clear n0_ n1_ n2_ n3_ n4_ n5_ n6_ n7_ n8_ n9_ n10_ n11_ n12_ n13_ n14_ n15_ n16_
        (try clear hb)
        (try clear hb2)
        (try clear hk)
        (try clear hi)
        (try clear ho0)
        obtain ⟨Ao100, co100, eo100⟩ := Kd.R_slice HO303.out
        (first | subst eo100 | (injection eo100 with f1_ f2_ f3_; have f4_ := f1_.symm; have f5_ := f3_.symm; clear f1_ f2_ f3_; subst f4_; subst f5_))
        refine hK.out _ _ ⟨(blk_cell BK259.out 0).trans rfl, (blk_cell BK259.out 1).trans rfl, (blk_cell BK272.out 0).trans rfl, (blk_cell BK272.out 1).trans rfl, (blk_cell BK281.out 0).trans rfl, (blk_cell BK281.out 1).trans rfl, (blk_cell BK246.out 0).trans rfl, (blk_cell BK246.out 1).trans rfl, (blk_cell BK247.out 0).trans rfl, (blk_cell BK247.out 1).trans rfl⟩ (fun hHeld => ?_)
        clear hK K
        refine norm_ (a' := ?_) ?_ ?_
        rotate_left
        ·show Act.put _ (some 66) _ = _
         simp only [Act.put, List.setIfInBounds_toArray, List.set_cons_zero, List.set_cons_succ, i64_w, i32_w]
         rfl
        refine one_ (i := 30) (N := some 67) #[true, true, true, true, true, true, true, true, true, true, true, true, true, true, true, true, true, true, true, true, true, true, true, true, true, true, true, true, true, true, true, true, false, false, false, false, false, false] rfl rfl (one_of HT_.out (by kernel_rfl)) (by decide) (fun K hK => ?_)
        refine goes_ Tryd.func27 (by kernel_rfl) rfl #[.agg #[.int .i64 t300, .slice Ao100 t301.length co100]] (by (first | rfl | (simp only [*]; rfl) | (simp [*]; done))) rfl rfl ma_ ?_
        with_reducible refine (bitset_Not.calls kj2 t300 _ _ t301 t304 t305 _ ?side1 ?side2 A48.out).mono ?_
        (case side1 => exact ca_ (Kd.R_reads' HO303.out).2.2)
        (case side2 => exact (Kd.R_reads' HO303.out).2.1)
        rintro e w101 ⟨v306, rfl, ho0, hb⟩
        refine ⟨_, rfl, ?_⟩
        have n0_ := Aside0.mk (Kd.R_elder' (rb_ HO254) (Kd.R_base ho0) hb)
        have n1_ := Aside0.mk (Kd.R_elder' (rb_ HO258) (Kd.R_base ho0) hb)
        have n2_ := Aside0.mk (Kd.R_elder' (rb_ HO263) (Kd.R_base ho0) hb)
        have n3_ := Aside0.mk (Kd.R_elder' (rb_ HO267) (Kd.R_base ho0) hb)
        have n4_ := Aside0.mk (Kd.R_elder' (rb_ HO271) (Kd.R_base ho0) hb)
        have n5_ := Aside0.mk (Kd.R_elder' (rb_ HO276) (Kd.R_base ho0) hb)
        have n6_ := Aside0.mk (Kd.R_elder' (rb_ HO280) (Kd.R_base ho0) hb)
        have n7_ := Aside0.mk (Kd.R_elder' (rb_ HO286) (Kd.R_base ho0) hb)
        have n8_ := Aside0.mk (Kd.R_elder' (rb_ HO293) (Kd.R_base ho0) hb)
        have n9_ := Aside0.mk (Kd.R_elder' (rb_ HO298) (Kd.R_base ho0) hb)
        have n10_ := Aside0.mk (Kd.R_elder' (rb_ HO303) (Kd.R_base ho0) hb)
        have n11_ := Aside0.mk (Kd.R_lower (Kd.R_new' (Kd.R_new' (Kd.R_new' (Kd.R_new' (Kd.R_new' (Kd.R_new' (Kd.R_new' (Kd.R_new' (Kd.R_new' (Kd.R_new' (Kd.R_new' ho0 (Kd.R_lt (rb_ HO254))) (Kd.R_lt (rb_ HO258))) (Kd.R_lt (rb_ HO263))) (Kd.R_lt (rb_ HO267))) (Kd.R_lt (rb_ HO271))) (Kd.R_lt (rb_ HO276))) (Kd.R_lt (rb_ HO280))) (Kd.R_lt (rb_ HO286))) (Kd.R_lt (rb_ HO293))) (Kd.R_lt (rb_ HO298))) (Kd.R_lt (rb_ HO303))) (below_size (by repeat (first | (with_reducible first | exact HB.out | apply below_alloc | apply pw_below_drewN | apply below_drew1 | refine below_set ?_ GE246.out | refine below_set ?_ GE247.out | refine below_set ?_ GE259.out | refine below_set ?_ GE272.out | refine below_set ?_ GE281.out) | exact HB.out))))
        have n12_ := Aside0.mk (blk_below (g := gb246) (o := .cells #[.int .i64 a0_0, .slice A0_1 l0_1.length c0_1] 25 (0, 0)) (bk_ BK246) hb)
        have n13_ := Aside0.mk (blk_below (g := gb247) (o := .cells #[.int .i64 a1_0, .slice A1_1 l1_1.length c1_1] 25 (0, 0)) (bk_ BK247) hb)
        have n14_ := Aside0.mk (blk_below (g := gb259) (o := .cells #[.int .i64 t255, .slice Ao62 t256.length co62] 25 (0, 0)) (bk_ BK259) hb)
        have n15_ := Aside0.mk (blk_below (g := gb272) (o := .cells #[.int .i64 t268, .slice Ao73 t269.length co73] 25 (0, 0)) (bk_ BK272) hb)
        have n16_ := Aside0.mk (blk_below (g := gb281) (o := .cells #[.int .i64 t277, .slice Ao83 t278.length co83] 25 (0, 0)) (bk_ BK281) hb)
        have n17_ := Aside0.mk (below_step (by repeat (first | (with_reducible first | exact HB.out | apply below_alloc | apply pw_below_drewN | apply below_drew1 | refine below_set ?_ GE246.out | refine below_set ?_ GE247.out | refine below_set ?_ GE259.out | refine below_set ?_ GE272.out | refine below_set ?_ GE281.out) | exact HB.out)) hb)
        clear HO254
        clear HO258
        clear HO263
        clear HO267
        clear HO271
        clear HO276
        clear HO280
        clear HO286
        clear HO293
        clear HO298
        clear HO303
        clear BK246
        clear BK247
        clear BK259
        clear BK272
        clear BK281
        clear HB
        have HO254 := n0_
        have HO258 := n1_
        have HO263 := n2_
        have HO267 := n3_
        have HO271 := n4_
        have HO276 := n5_
        have HO280 := n6_
        have HO286 := n7_
        have HO293 := n8_
        have HO298 := n9_
        have HO303 := n10_
        have HO307 := n11_
        have BK246 := n12_
        have BK247 := n13_
        have BK259 := n14_
        have BK272 := n15_
        have BK281 := n16_
        have HB := n17_
        clear n0_ n1_ n2_ n3_ n4_ n5_ n6_ n7_ n8_ n9_ n10_ n11_ n12_ n13_ n14_ n15_ n16_ n17_
        (try clear hb)
        (try clear hb2)
        (try clear hk)
        (try clear hi)
        (try clear ho0)
        obtain ⟨Ao102, co102, eo102⟩ := Kd.R_slice HO307.out
        (first | subst eo102 | (injection eo102 with f1_ f2_ f3_; have f4_ := f1_.symm; have f5_ := f3_.symm; clear f1_ f2_ f3_; subst f4_; subst f5_))
        refine hK.out _ _ ⟨(blk_cell BK259.out 0).trans rfl, (blk_cell BK259.out 1).trans rfl, (blk_cell BK272.out 0).trans rfl, (blk_cell BK272.out 1).trans rfl, (blk_cell BK281.out 0).trans rfl, (blk_cell BK281.out 1).trans rfl, (blk_cell BK246.out 0).trans rfl, (blk_cell BK246.out 1).trans rfl, (blk_cell BK247.out 0).trans rfl, (blk_cell BK247.out 1).trans rfl⟩ (fun hHeld => ?_)
        clear hK K
        refine norm_ (a' := ?_) ?_ ?_
        rotate_left
        ·show Act.put _ (some 67) _ = _
         simp only [Act.put, List.setIfInBounds_toArray, List.set_cons_zero, List.set_cons_succ, i64_w, i32_w]
         rfl
        refine one_ (i := 32) (N := some 69) #[true, true, true, true, true, true, true, true, true, true, true, true, true, true, true, true, true, true, true, true, true, true, true, true, true, true, true, true, true, true, true, true, true, false, false, false, false, false] rfl rfl (one_of HT_.out (by kernel_rfl)) (by decide) (fun K hK => ?_)
        refine goes_ Tryd.func15 (by kernel_rfl) rfl #[.agg #[.int .i64 t304, .slice Ao102 t305.length co102], .agg #[.int .i64 a0_0, .slice A0_1 l0_1.length c0_1]] (by (first | rfl | (simp only [*]; rfl) | (simp [*]; done))) rfl rfl ma_ ?_
        with_reducible refine (laminaref03_Equal.calls kj2 t304 _ _ t305 a0_0 _ _ l0_1 true _ ?side1 ?side2 ?side3 ?side4 A49.out).mono ?_
        (case side1 => exact ca_ (Kd.R_reads' HO307.out).2.2)
        (case side2 => exact (Kd.R_reads' HO307.out).2.1)
        (case side3 => exact ca_ (Kd.C_below HR0_1.out HB.out))
        (case side4 => exact HC0_1.out)
        rintro e w103 ⟨rfl, hb⟩
        refine ⟨_, rfl, ?_⟩
        have n0_ := Aside0.mk (Kd.R_below (rb_ HO254) hb)
        have n1_ := Aside0.mk (Kd.R_below (rb_ HO258) hb)
        have n2_ := Aside0.mk (Kd.R_below (rb_ HO263) hb)
        have n3_ := Aside0.mk (Kd.R_below (rb_ HO267) hb)
        have n4_ := Aside0.mk (Kd.R_below (rb_ HO271) hb)
        have n5_ := Aside0.mk (Kd.R_below (rb_ HO276) hb)
        have n6_ := Aside0.mk (Kd.R_below (rb_ HO280) hb)
        have n7_ := Aside0.mk (Kd.R_below (rb_ HO286) hb)
        have n8_ := Aside0.mk (Kd.R_below (rb_ HO293) hb)
        have n9_ := Aside0.mk (Kd.R_below (rb_ HO298) hb)
        have n10_ := Aside0.mk (Kd.R_below (rb_ HO303) hb)
        have n11_ := Aside0.mk (Kd.R_below (rb_ HO307) hb)
        have n12_ := Aside0.mk (blk_below (g := gb246) (o := .cells #[.int .i64 a0_0, .slice A0_1 l0_1.length c0_1] 25 (0, 0)) (bk_ BK246) hb)
        have n13_ := Aside0.mk (blk_below (g := gb247) (o := .cells #[.int .i64 a1_0, .slice A1_1 l1_1.length c1_1] 25 (0, 0)) (bk_ BK247) hb)
        have n14_ := Aside0.mk (blk_below (g := gb259) (o := .cells #[.int .i64 t255, .slice Ao62 t256.length co62] 25 (0, 0)) (bk_ BK259) hb)
        have n15_ := Aside0.mk (blk_below (g := gb272) (o := .cells #[.int .i64 t268, .slice Ao73 t269.length co73] 25 (0, 0)) (bk_ BK272) hb)
        have n16_ := Aside0.mk (blk_below (g := gb281) (o := .cells #[.int .i64 t277, .slice Ao83 t278.length co83] 25 (0, 0)) (bk_ BK281) hb)
        have n17_ := Aside0.mk (below_step (by repeat (first | (with_reducible first | exact HB.out | apply below_alloc | apply pw_below_drewN | apply below_drew1 | refine below_set ?_ GE246.out | refine below_set ?_ GE247.out | refine below_set ?_ GE259.out | refine below_set ?_ GE272.out | refine below_set ?_ GE281.out) | exact HB.out)) hb)
        clear HO254
        clear HO258
        clear HO263
        clear HO267
        clear HO271
        clear HO276
        clear HO280
        clear HO286
        clear HO293
        clear HO298
        clear HO303
        clear HO307
        clear BK246
        clear BK247
        clear BK259
        clear BK272
        clear BK281
        clear HB
        have HO254 := n0_
        have HO258 := n1_
        have HO263 := n2_
        have HO267 := n3_
        have HO271 := n4_
        have HO276 := n5_
        have HO280 := n6_
        have HO286 := n7_
        have HO293 := n8_
        have HO298 := n9_
        have HO303 := n10_
        have HO307 := n11_
        have BK246 := n12_
        have BK247 := n13_
        have BK259 := n14_
        have BK272 := n15_
        have BK281 := n16_
        have HB := n17_
        clear n0_ n1_ n2_ n3_ n4_ n5_ n6_ n7_ n8_ n9_ n10_ n11_ n12_ n13_ n14_ n15_ n16_ n17_
        (try clear hb)
        (try clear hb2)
        (try clear hk)
        (try clear hi)
        refine hK.out _ _ ⟨(blk_cell BK259.out 0).trans rfl, (blk_cell BK259.out 1).trans rfl, (blk_cell BK272.out 0).trans rfl, (blk_cell BK272.out 1).trans rfl, (blk_cell BK281.out 0).trans rfl, (blk_cell BK281.out 1).trans rfl, (blk_cell BK246.out 0).trans rfl, (blk_cell BK246.out 1).trans rfl, (blk_cell BK247.out 0).trans rfl, (blk_cell BK247.out 1).trans rfl⟩ (fun hHeld => ?_)
        clear hK K
        refine norm_ (a' := ?_) ?_ ?_
        rotate_left
        ·show Act.put _ (some 69) _ = _
         simp only [Act.put, List.setIfInBounds_toArray, List.set_cons_zero, List.set_cons_succ, i64_w, i32_w]
         rfl
        refine pure_ (i := 33) (N := some 70) (v := ?_) (a' := ?_) #[true, true, true, true, true, true, true, true, true, true, true, true, true, true, true, true, true, true, true, true, true, true, true, true, true, true, true, true, true, true, true, true, true, true, false, false, false, false] rfl rfl (any_of HT_.out (by kernel_rfl)) (fun _ _ _ h => h) (Or.inl ⟨by (first | rfl | (simp only [*]; rfl) | (simp [*]; done)), ?_⟩) ?_ ?_
        rotate_left
        ·intro w'
         go_simp
         with_reducible rfl
        rotate_left
        ·simp only [Act.put, List.setIfInBounds_toArray, List.set_cons_zero, List.set_cons_succ, i64_w, i32_w]
         rfl
        refine pure_ (i := 34) (N := some 71) (v := ?_) (a' := ?_) #[true, true, true, true, true, true, true, true, true, true, true, true, true, true, true, true, true, true, true, true, true, true, true, true, true, true, true, true, true, true, true, true, true, true, true, false, false, false] rfl rfl (any_of HT_.out (by kernel_rfl)) (fun _ _ _ h => h) (Or.inl ⟨by (first | rfl | (simp only [*]; rfl) | (simp [*]; done)), ?_⟩) ?_ ?_
        rotate_left
        ·intro w'
         go_simp
         with_reducible rfl
        rotate_left
        ·simp only [Act.put, List.setIfInBounds_toArray, List.set_cons_zero, List.set_cons_succ, i64_w, i32_w]
         rfl
        refine one_ (i := 35) (N := some 72) #[true, true, true, true, true, true, true, true, true, true, true, true, true, true, true, true, true, true, true, true, true, true, true, true, true, true, true, true, true, true, true, true, true, true, true, true, false, false] rfl rfl (one_of HT_.out (by kernel_rfl)) (by decide) (fun K hK => ?_)
        refine goes_ Tryd.func30 (by kernel_rfl) rfl #[] (by (first | rfl | (simp only [*]; rfl) | (simp [*]; done))) rfl rfl ma_ ?_
        with_reducible refine (laminalaw03_lives.calls  t309 _ ?sideT A51.out).mono ?_
        (case sideT => exact TabAt.below HT0_.out (by repeat (first | (with_reducible first | exact HB.out | apply below_alloc | apply pw_below_drewN | apply below_drew1 | refine below_set ?_ GE246.out | refine below_set ?_ GE247.out | refine below_set ?_ GE259.out | refine below_set ?_ GE272.out | refine below_set ?_ GE281.out) | exact HB.out)) (TabAt.pos HT0_.out))
        rintro e w104 ⟨rfl, hb⟩
        refine ⟨_, rfl, ?_⟩
        have n0_ := Aside0.mk (Kd.R_below (rb_ HO254) hb)
        have n1_ := Aside0.mk (Kd.R_below (rb_ HO258) hb)
        have n2_ := Aside0.mk (Kd.R_below (rb_ HO263) hb)
        have n3_ := Aside0.mk (Kd.R_below (rb_ HO267) hb)
        have n4_ := Aside0.mk (Kd.R_below (rb_ HO271) hb)
        have n5_ := Aside0.mk (Kd.R_below (rb_ HO276) hb)
        have n6_ := Aside0.mk (Kd.R_below (rb_ HO280) hb)
        have n7_ := Aside0.mk (Kd.R_below (rb_ HO286) hb)
        have n8_ := Aside0.mk (Kd.R_below (rb_ HO293) hb)
        have n9_ := Aside0.mk (Kd.R_below (rb_ HO298) hb)
        have n10_ := Aside0.mk (Kd.R_below (rb_ HO303) hb)
        have n11_ := Aside0.mk (Kd.R_below (rb_ HO307) hb)
        have n12_ := Aside0.mk (blk_below (g := gb246) (o := .cells #[.int .i64 a0_0, .slice A0_1 l0_1.length c0_1] 25 (0, 0)) (bk_ BK246) hb)
        have n13_ := Aside0.mk (blk_below (g := gb247) (o := .cells #[.int .i64 a1_0, .slice A1_1 l1_1.length c1_1] 25 (0, 0)) (bk_ BK247) hb)
        have n14_ := Aside0.mk (blk_below (g := gb259) (o := .cells #[.int .i64 t255, .slice Ao62 t256.length co62] 25 (0, 0)) (bk_ BK259) hb)
        have n15_ := Aside0.mk (blk_below (g := gb272) (o := .cells #[.int .i64 t268, .slice Ao73 t269.length co73] 25 (0, 0)) (bk_ BK272) hb)
        have n16_ := Aside0.mk (blk_below (g := gb281) (o := .cells #[.int .i64 t277, .slice Ao83 t278.length co83] 25 (0, 0)) (bk_ BK281) hb)
        have n17_ := Aside0.mk (below_step (by repeat (first | (with_reducible first | exact HB.out | apply below_alloc | apply pw_below_drewN | apply below_drew1 | refine below_set ?_ GE246.out | refine below_set ?_ GE247.out | refine below_set ?_ GE259.out | refine below_set ?_ GE272.out | refine below_set ?_ GE281.out) | exact HB.out)) hb)
        clear HO254
        clear HO258
        clear HO263
        clear HO267
        clear HO271
        clear HO276
        clear HO280
        clear HO286
        clear HO293
        clear HO298
        clear HO303
        clear HO307
        clear BK246
        clear BK247
        clear BK259
        clear BK272
        clear BK281
        clear HB
        have HO254 := n0_
        have HO258 := n1_
        have HO263 := n2_
        have HO267 := n3_
        have HO271 := n4_
        have HO276 := n5_
        have HO280 := n6_
        have HO286 := n7_
        have HO293 := n8_
        have HO298 := n9_
        have HO303 := n10_
        have HO307 := n11_
        have BK246 := n12_
        have BK247 := n13_
        have BK259 := n14_
        have BK272 := n15_
        have BK281 := n16_
        have HB := n17_
        clear n0_ n1_ n2_ n3_ n4_ n5_ n6_ n7_ n8_ n9_ n10_ n11_ n12_ n13_ n14_ n15_ n16_ n17_
        (try clear hb)
        (try clear hb2)
        (try clear hk)
        (try clear hi)
        refine hK.out _ _ ⟨(blk_cell BK259.out 0).trans rfl, (blk_cell BK259.out 1).trans rfl, (blk_cell BK272.out 0).trans rfl, (blk_cell BK272.out 1).trans rfl, (blk_cell BK281.out 0).trans rfl, (blk_cell BK281.out 1).trans rfl, (blk_cell BK246.out 0).trans rfl, (blk_cell BK246.out 1).trans rfl, (blk_cell BK247.out 0).trans rfl, (blk_cell BK247.out 1).trans rfl⟩ (fun hHeld => ?_)
        clear hK K
        refine norm_ (a' := ?_) ?_ ?_
        rotate_left
        ·show Act.put _ (some 72) _ = _
         simp only [Act.put, List.setIfInBounds_toArray, List.set_cons_zero, List.set_cons_succ, i64_w, i32_w]
         rfl
        refine pure_ (i := 36) (N := some 73) (v := ?_) (a' := ?_) #[true, true, true, true, true, true, true, true, true, true, true, true, true, true, true, true, true, true, true, true, true, true, true, true, true, true, true, true, true, true, true, true, true, true, true, true, true, false] rfl rfl (any_of HT_.out (by kernel_rfl)) (fun _ _ _ h => h) (Or.inl ⟨by (first | rfl | (simp only [*]; rfl) | (simp [*]; done)), ?_⟩) ?_ ?_
        rotate_left
        ·intro w'
         go_simp
         with_reducible rfl
        rotate_left
        ·simp only [Act.put, List.setIfInBounds_toArray, List.set_cons_zero, List.set_cons_succ, i64_w, i32_w]
         rfl
        refine pure_ (i := 37) (N := some 4) (v := ?_) (a' := ?_) #[true, true, true, true, true, true, true, true, true, true, true, true, true, true, true, true, true, true, true, true, true, true, true, true, true, true, true, true, true, true, true, true, true, true, true, true, true, true] rfl rfl (any_of HT_.out (by kernel_rfl)) (fun _ _ _ h => h) (Or.inl ⟨by (first | rfl | (simp only [*]; rfl) | (simp [*]; done)), ?_⟩) ?_ ?_
        rotate_left
        ·intro w'
         go_simp
         with_reducible rfl
        rotate_left
        ·simp only [Act.put, List.setIfInBounds_toArray, List.set_cons_zero, List.set_cons_succ, i64_w, i32_w]
         rfl
        refine done_ (done_of HT_.out (by kernel_rfl)) ?_
        try go_wp2
        go_ret
        exact ⟨er_, by repeat (first | (with_reducible first | exact HB.out | apply below_alloc | apply pw_below_drewN | apply below_drew1 | refine below_set ?_ GE246.out | refine below_set ?_ GE247.out | refine below_set ?_ GE259.out | refine below_set ?_ GE272.out | refine below_set ?_ GE281.out) | exact HB.out)⟩
       ·replace c50 := Bool.eq_false_iff.mpr c50
        subst c50
        have H1 : (some false) = some r := by rw [if_neg (show ¬ (false = true) by decide)] at H; exact H
        clear H
        have H := H1
        clear H1
        exact absurd (H.trans (congrArg some hr_.out)) (by simp)
      ·rw [if_neg c46] at H
       exact absurd (H.trans (congrArg some hr_.out)) (by simp)
     ·replace c39 := Bool.eq_false_iff.mpr c39
      subst c39
      have H1 : (some false) = some r := by rw [if_neg (show ¬ (false = true) by decide)] at H; exact H
      clear H
      have H := H1
      clear H1
      exact absurd (H.trans (congrArg some hr_.out)) (by simp)
    ·replace c36 := Bool.eq_false_iff.mpr c36
     subst c36
     have H1 : (some false) = some r := by rw [if_neg (show ¬ (false = true) by decide)] at H; exact H
     clear H
     have H := H1
     clear H1
     exact absurd (H.trans (congrArg some hr_.out)) (by simp)

end Go.Proofs.YtijgbhbdmnhanaaDoor.QBitsetAlgebra
