-- Written by a program of this session (wip/pr2.sh): the walk of the Go text, function by function.
import Derived.Test.YtjeheopcohnkeaaQBloomContainsx0
import Derived.Test.YtjeheopcohnkeaaQBloomContainsx2
namespace Go.Proofs.Ytjeheopcohnkeaa.QBloomContains
open Go.RowKit Go.Proofs.YtjeheopcohnkeaaW.PrintWords Go.Proofs.YtjeheopcohnkeaaW.PrintLast Go.Proofs.YtjeheopcohnkeaaW.PrintMore
open Go.Proofs.YtjeheopcohnkeaaM
attribute [local go_sem] max2_int min2_int max_two min_two max_three min_three max_four min_four   -- for this text's walks alone
set_option linter.unusedVariables false
set_option linter.unusedSimpArgs false

/-! ### bitset_New: function 25 -/
def bitset_New.f (a0 : Int) : Option (Int × List Int) := if a0 < 0 then ((bitset_wordCount.f 0).bind fun t105 => (if 0 ≤ t105 then (if (t105 : Int).toNat ≤ 35184372088832 then (some (0, (List.replicate (t105 : Int).toNat 0))) else (none)) else (none))) else (if a0 > 1048576 then ((bitset_wordCount.f 0).bind fun t109 => (if 0 ≤ t109 then (if (t109 : Int).toNat ≤ 35184372088832 then (some (0, (List.replicate (t109 : Int).toNat 0))) else (none)) else (none))) else ((bitset_wordCount.f a0).bind fun t113 => (if 0 ≤ t113 then (if (t113 : Int).toNat ≤ 35184372088832 then (some (a0, (List.replicate (t113 : Int).toNat 0))) else (none)) else (none))))
set_option maxHeartbeats 8000000 in
set_option maxRecDepth 100000 in
theorem bitset_New.calls (a0 : Int) (r1 : Int) (r2 : List Int) (w : World) (h : bitset_New.f a0 = some (r1, r2)) :
  Calls Try.prog 25 #[.int .i64 a0] w fun e w' => ∃ v1_ : Value, e = .returned (.agg #[.int .i64 r1, v1_]) ∧ Kd.R (Kd.int .u64) 53 w' w.heap.size (fun _ => True) v1_ r2 ∧ Below w.heap.size w w' := by
 have hu30 := Try.underlying30
 have HB := Aside0.mk (Below.refl w.heap.size w)
 have H : (if a0 < 0 then ((bitset_wordCount.f 0).bind fun t105 => (if 0 ≤ t105 then (if (t105 : Int).toNat ≤ 35184372088832 then (some (0, (List.replicate (t105 : Int).toNat 0))) else (none)) else (none))) else (if a0 > 1048576 then ((bitset_wordCount.f 0).bind fun t109 => (if 0 ≤ t109 then (if (t109 : Int).toNat ≤ 35184372088832 then (some (0, (List.replicate (t109 : Int).toNat 0))) else (none)) else (none))) else ((bitset_wordCount.f a0).bind fun t113 => (if 0 ≤ t113 then (if (t113 : Int).toNat ≤ 35184372088832 then (some (a0, (List.replicate (t113 : Int).toNat 0))) else (none)) else (none))))) = some (r1, r2) := h
 clear h
 by_cases c2 : a0 < 0
 ·rw [if_pos c2] at H
  have c2b0 : decide (a0 < 0) = true := decide_eq_true c2
  clear c2
  replace H := Option.bind_eq_some_iff.mp H
  obtain ⟨t105, A30, H⟩ := H
  replace H : (if 0 ≤ t105 then (if (t105 : Int).toNat ≤ 35184372088832 then (some (0, (List.replicate (t105 : Int).toNat 0))) else (none)) else (none)) = some (r1, r2) := H
  have A3 := Aside0.mk A30
  clear A30
  by_cases c4 : 0 ≤ t105
  ·rw [if_pos c4] at H
   have c4b0 := eq_true c4
   have c4b1 : decide (0 ≤ t105) = true := decide_eq_true c4
   clear c4
   by_cases c5 : (t105 : Int).toNat ≤ 35184372088832
   ·rw [if_pos c5] at H
    have c5b0 := eq_true c5
    have c5b1 : decide ((t105 : Int).toNat ≤ 35184372088832) = true := decide_eq_true c5
    clear c5
    obtain ⟨y106, hy106⟩ : ∃ y_ : List Int, y_ = (List.replicate (t105 : Int).toNat 0) := ⟨_, rfl⟩
    replace H : (some (0, y106)) = some (r1, r2) := by first | (rw [hy106]; with_reducible exact H) | (have H2_ := (Option.bind_some _ _).symm.trans H; rw [hy106]; with_reducible exact H2_) | (have H2_ := (Option.bind_some _ _).symm.trans H; with_reducible exact H2_) | with_reducible exact H | (rw [hy106]; exact H) | exact H
    have Ny106 := Aside0.mk hy106
    clear hy106
    simp only [Option.some.injEq, Prod.mk.injEq] at H
    obtain ⟨rfl, rfl⟩ := H
    go_enter Try.func25, Try.ntmps25
    go_wp2_with (first | ((with_reducible refine gate_dst (N := 2) rfl ?_); refine box_event ?hg (N := 2) ?hd (cs := #[.int .i64 0, .slice none 0 0]) (t := 30) ?hr ?_; (case hd => rfl); (case hg => (first | rfl | (simp only [*]; rfl) | (simp [*]; done))); (case hr => first | (go_simp; done) | (go_simp; rfl)); intro gb104 hg w6 hbox hb; have n0_ := Aside0.mk (below_step (by repeat (first | (with_reducible first | exact HB.out | apply below_alloc | apply pw_below_drewN | apply below_drew1) | exact HB.out)) hb); have n1_ := Aside0.mk (hbox); have n2_ := Aside0.mk ((by rw [hg]; exact (below_size (by repeat (first | (with_reducible first | exact HB.out | apply below_alloc | apply pw_below_drewN | apply below_drew1) | exact HB.out))) : w.heap.size ≤ gb104)); have n3_ := Aside0.mk ((by rw [hg]; exact (below_size (by repeat (first | (with_reducible first | exact HB.out | apply below_alloc | apply pw_below_drewN | apply below_drew1) | exact HB.out))) : w.heap.size ≤ gb104)); clear HB; have HB := n0_; have BK104 := n1_; have GW104 := n2_; have GE104 := n3_; clear n0_ n1_ n2_ n3_; clear hb hbox hg) | ((with_reducible refine gate_callee (f := 50) rfl ?_); refine goesL_ (some 11) rfl rfl Try.func50 (by kernel_rfl) rfl #[.int .i64 0] rfl (by (try simp only [List.map_toArray, List.map_cons, List.map_nil]); first | done | rfl | (simp only [List.length_drop, List.length_take]; rfl)) ?_; (with_reducible refine (bitset_wordCount.calls 0 t105 _ A3.out).mono ?_); rintro e w' ⟨rfl, ⟨nd, rfl⟩⟩; refine ⟨_, rfl, ?_⟩; (try (rw [drewN_self w6]; generalize hq_ : World.drewN w6 _ = w6; have n0_ : Aside0 (w6.heap[gb104]? = some (.cells #[.int .i64 0, .slice none 0 0] 30 (0, 0))) := ⟨by rw [← hq_]; exact (by (with_reducible repeat (first | refine blk_drewN ?_ _ | refine blk_drew ?_ | refine blk_alloc ?_ _)); exact BK104.out)⟩; have n1_ : Aside0 (Below w.heap.size w w6) := ⟨by rw [← hq_]; exact (by repeat (first | (with_reducible first | exact HB.out | apply below_alloc | apply pw_below_drewN | apply below_drew1 | refine below_set ?_ GE104.out) | exact HB.out))⟩; clear BK104 HB hq_; have BK104 := n0_; have HB := n1_; clear n0_ n1_))) | ((with_reducible refine gate_dst (N := 12) rfl ?_); refine Kd.R_make (Kd.int .u64) _ 53 rfl (N := 12) rfl 28 _ _ rfl t105 rfl rfl Try.underlying28 (.int .u64 0) 8 info53 rfl (by decide) (by omega) 0 (ok := fun _ => True) (okp := fun _ => True) rfl (fun _ hk => hk) trivial (of_decide_eq_true (by first | (with_reducible assumption) | assumption)) (Nat.le_trans (Nat.mul_le_mul_right _ (of_decide_eq_true (by first | (with_reducible assumption) | assumption) : t105.toNat ≤ 35184372088832)) (by omega)) (Below.refl _ _) (Nat.le_refl _) ?_; intro v107 w7 ho8 hb hg_ hnew_; clear hg_ hnew_; (first | rw [← Ny106.out] at ho8 | (simp only [Int.reduceToNat] at ho8; rw [← Ny106.out] at ho8)); have n0_ := Aside0.mk (Kd.R_lower ho8 (below_size (by repeat (first | (with_reducible first | exact HB.out | apply below_alloc | apply pw_below_drewN | apply below_drew1 | refine below_set ?_ GE104.out) | exact HB.out)))); have n1_ := Aside0.mk (blk_below (g := gb104) (o := .cells #[.int .i64 0, .slice none 0 0] 30 (0, 0)) (by (with_reducible repeat (first | refine blk_drewN ?_ _ | refine blk_drew ?_ | refine blk_alloc ?_ _)); exact BK104.out) hb); have n2_ := Aside0.mk (below_step (by repeat (first | (with_reducible first | exact HB.out | apply below_alloc | apply pw_below_drewN | apply below_drew1 | refine below_set ?_ GE104.out) | exact HB.out)) hb); clear BK104; clear HB; have HO108 := n0_; have BK104 := n1_; have HB := n2_; clear n0_ n1_ n2_; clear hb ho8; obtain ⟨Ao9, co9, eo9⟩ := Kd.R_slice HO108.out; subst eo9; have hcz10_0 : w7.cell? ⟨gb104, 0, none⟩ = some (.int .i64 0) := (blk_cell BK104.out 0).trans rfl; have hcz10_1 : w7.cell? ⟨gb104, 1, none⟩ = some (.slice none 0 0) := (blk_cell BK104.out 1).trans rfl; have hfz10_0 := blk_frozen BK104.out 0; have hfz10_1 := blk_frozen BK104.out 1))
    refine bodyPost_ret (results_cell_row rfl _ _ gb104 30 #[.int .i64 0, .slice Ao9 y106.length co9] (0, 0) _ rfl (by (with_reducible repeat (first | refine blk_drewN ?_ _ | refine blk_drew ?_ | refine blk_alloc ?_ _)); refine blk_put (cs := #[.int .i64 0, .slice none 0 0]) ?_ 1 _ rfl; (with_reducible repeat (first | refine blk_drewN ?_ _ | refine blk_drew ?_ | refine blk_alloc ?_ _)); refine blk_put (cs := #[.int .i64 0, .slice none 0 0]) ?_ 0 _ rfl; (with_reducible repeat (first | refine blk_drewN ?_ _ | refine blk_drew ?_ | refine blk_alloc ?_ _)); exact BK104.out) Try.underlying30 rfl (by kernel_rfl)) rfl ?_
    exact ⟨_, by first | rfl | (simp [errW_none, errW_some] <;> rfl) | (simp [*, errW_none, errW_some] <;> rfl), by (with_reducible repeat (first | apply Kd.R_alloc | apply Kd.R_drewN | apply Kd.R_drew)); exact Kd.R_mono (Kd.R_far (p := ⟨gb104, 1, none⟩) (Kd.R_far (p := ⟨gb104, 0, none⟩) (Kd.R_types HO108.out BK104.out (by decide)) (fun _ hk => hk.2) (.int .i64 0)) (fun _ hk => hk.2) (.slice Ao9 y106.length co9)) (fun _ hk => trivial), by repeat (first | (with_reducible first | exact HB.out | apply below_alloc | apply pw_below_drewN | apply below_drew1 | refine below_set ?_ GE104.out) | exact HB.out)⟩
   ·rw [if_neg c5] at H
    exact absurd H (by simp)
  ·rw [if_neg c4] at H
   exact absurd H (by simp)
 ·rw [if_neg c2] at H
  have c2b0 : decide (a0 < 0) = false := decide_eq_false c2
  clear c2
  by_cases c11 : a0 > 1048576
  ·rw [if_pos c11] at H
   have c11b0 : decide (1048576 < a0) = true := decide_eq_true c11
   clear c11
   replace H := Option.bind_eq_some_iff.mp H
   obtain ⟨t109, A120, H⟩ := H
   replace H : (if 0 ≤ t109 then (if (t109 : Int).toNat ≤ 35184372088832 then (some (0, (List.replicate (t109 : Int).toNat 0))) else (none)) else (none)) = some (r1, r2) := H
   have A12 := Aside0.mk A120
   clear A120
   by_cases c13 : 0 ≤ t109
   ·rw [if_pos c13] at H
    have c13b0 := eq_true c13
    have c13b1 : decide (0 ≤ t109) = true := decide_eq_true c13
    clear c13
    by_cases c14 : (t109 : Int).toNat ≤ 35184372088832
    ·rw [if_pos c14] at H
     have c14b0 := eq_true c14
     have c14b1 : decide ((t109 : Int).toNat ≤ 35184372088832) = true := decide_eq_true c14
     clear c14
     obtain ⟨y110, hy110⟩ : ∃ y_ : List Int, y_ = (List.replicate (t109 : Int).toNat 0) := ⟨_, rfl⟩
     replace H : (some (0, y110)) = some (r1, r2) := by first | (rw [hy110]; with_reducible exact H) | (have H2_ := (Option.bind_some _ _).symm.trans H; rw [hy110]; with_reducible exact H2_) | (have H2_ := (Option.bind_some _ _).symm.trans H; with_reducible exact H2_) | with_reducible exact H | (rw [hy110]; exact H) | exact H
     have Ny110 := Aside0.mk hy110
     clear hy110
     simp only [Option.some.injEq, Prod.mk.injEq] at H
     obtain ⟨rfl, rfl⟩ := H
     go_enter Try.func25, Try.ntmps25
     go_wp2_with (first | ((with_reducible refine gate_dst (N := 2) rfl ?_); refine box_event ?hg (N := 2) ?hd (cs := #[.int .i64 0, .slice none 0 0]) (t := 30) ?hr ?_; (case hd => rfl); (case hg => (first | rfl | (simp only [*]; rfl) | (simp [*]; done))); (case hr => first | (go_simp; done) | (go_simp; rfl)); intro gb104 hg w15 hbox hb; have n0_ := Aside0.mk (below_step (by repeat (first | (with_reducible first | exact HB.out | apply below_alloc | apply pw_below_drewN | apply below_drew1) | exact HB.out)) hb); have n1_ := Aside0.mk (hbox); have n2_ := Aside0.mk ((by rw [hg]; exact (below_size (by repeat (first | (with_reducible first | exact HB.out | apply below_alloc | apply pw_below_drewN | apply below_drew1) | exact HB.out))) : w.heap.size ≤ gb104)); have n3_ := Aside0.mk ((by rw [hg]; exact (below_size (by repeat (first | (with_reducible first | exact HB.out | apply below_alloc | apply pw_below_drewN | apply below_drew1) | exact HB.out))) : w.heap.size ≤ gb104)); clear HB; have HB := n0_; have BK104 := n1_; have GW104 := n2_; have GE104 := n3_; clear n0_ n1_ n2_ n3_; clear hb hbox hg) | ((with_reducible refine gate_callee (f := 50) rfl ?_); refine goesL_ (some 11) rfl rfl Try.func50 (by kernel_rfl) rfl #[.int .i64 0] rfl (by (try simp only [List.map_toArray, List.map_cons, List.map_nil]); first | done | rfl | (simp only [List.length_drop, List.length_take]; rfl)) ?_; (with_reducible refine (bitset_wordCount.calls 0 t109 _ A12.out).mono ?_); rintro e w' ⟨rfl, ⟨nd, rfl⟩⟩; refine ⟨_, rfl, ?_⟩; (try (rw [drewN_self w15]; generalize hq_ : World.drewN w15 _ = w15; have n0_ : Aside0 (w15.heap[gb104]? = some (.cells #[.int .i64 0, .slice none 0 0] 30 (0, 0))) := ⟨by rw [← hq_]; exact (by (with_reducible repeat (first | refine blk_drewN ?_ _ | refine blk_drew ?_ | refine blk_alloc ?_ _)); exact BK104.out)⟩; have n1_ : Aside0 (Below w.heap.size w w15) := ⟨by rw [← hq_]; exact (by repeat (first | (with_reducible first | exact HB.out | apply below_alloc | apply pw_below_drewN | apply below_drew1 | refine below_set ?_ GE104.out) | exact HB.out))⟩; clear BK104 HB hq_; have BK104 := n0_; have HB := n1_; clear n0_ n1_))) | ((with_reducible refine gate_dst (N := 12) rfl ?_); refine Kd.R_make (Kd.int .u64) _ 53 rfl (N := 12) rfl 28 _ _ rfl t109 rfl rfl Try.underlying28 (.int .u64 0) 8 info53 rfl (by decide) (by omega) 0 (ok := fun _ => True) (okp := fun _ => True) rfl (fun _ hk => hk) trivial (of_decide_eq_true (by first | (with_reducible assumption) | assumption)) (Nat.le_trans (Nat.mul_le_mul_right _ (of_decide_eq_true (by first | (with_reducible assumption) | assumption) : t109.toNat ≤ 35184372088832)) (by omega)) (Below.refl _ _) (Nat.le_refl _) ?_; intro v111 w16 ho17 hb hg_ hnew_; clear hg_ hnew_; (first | rw [← Ny110.out] at ho17 | (simp only [Int.reduceToNat] at ho17; rw [← Ny110.out] at ho17)); have n0_ := Aside0.mk (Kd.R_lower ho17 (below_size (by repeat (first | (with_reducible first | exact HB.out | apply below_alloc | apply pw_below_drewN | apply below_drew1 | refine below_set ?_ GE104.out) | exact HB.out)))); have n1_ := Aside0.mk (blk_below (g := gb104) (o := .cells #[.int .i64 0, .slice none 0 0] 30 (0, 0)) (by (with_reducible repeat (first | refine blk_drewN ?_ _ | refine blk_drew ?_ | refine blk_alloc ?_ _)); exact BK104.out) hb); have n2_ := Aside0.mk (below_step (by repeat (first | (with_reducible first | exact HB.out | apply below_alloc | apply pw_below_drewN | apply below_drew1 | refine below_set ?_ GE104.out) | exact HB.out)) hb); clear BK104; clear HB; have HO112 := n0_; have BK104 := n1_; have HB := n2_; clear n0_ n1_ n2_; clear hb ho17; obtain ⟨Ao18, co18, eo18⟩ := Kd.R_slice HO112.out; subst eo18; have hcz19_0 : w16.cell? ⟨gb104, 0, none⟩ = some (.int .i64 0) := (blk_cell BK104.out 0).trans rfl; have hcz19_1 : w16.cell? ⟨gb104, 1, none⟩ = some (.slice none 0 0) := (blk_cell BK104.out 1).trans rfl; have hfz19_0 := blk_frozen BK104.out 0; have hfz19_1 := blk_frozen BK104.out 1))
     refine bodyPost_ret (results_cell_row rfl _ _ gb104 30 #[.int .i64 0, .slice Ao18 y110.length co18] (0, 0) _ rfl (by (with_reducible repeat (first | refine blk_drewN ?_ _ | refine blk_drew ?_ | refine blk_alloc ?_ _)); refine blk_put (cs := #[.int .i64 0, .slice none 0 0]) ?_ 1 _ rfl; (with_reducible repeat (first | refine blk_drewN ?_ _ | refine blk_drew ?_ | refine blk_alloc ?_ _)); refine blk_put (cs := #[.int .i64 0, .slice none 0 0]) ?_ 0 _ rfl; (with_reducible repeat (first | refine blk_drewN ?_ _ | refine blk_drew ?_ | refine blk_alloc ?_ _)); exact BK104.out) Try.underlying30 rfl (by kernel_rfl)) rfl ?_
     exact ⟨_, by first | rfl | (simp [errW_none, errW_some] <;> rfl) | (simp [*, errW_none, errW_some] <;> rfl), by (with_reducible repeat (first | apply Kd.R_alloc | apply Kd.R_drewN | apply Kd.R_drew)); exact Kd.R_mono (Kd.R_far (p := ⟨gb104, 1, none⟩) (Kd.R_far (p := ⟨gb104, 0, none⟩) (Kd.R_types HO112.out BK104.out (by decide)) (fun _ hk => hk.2) (.int .i64 0)) (fun _ hk => hk.2) (.slice Ao18 y110.length co18)) (fun _ hk => trivial), by repeat (first | (with_reducible first | exact HB.out | apply below_alloc | apply pw_below_drewN | apply below_drew1 | refine below_set ?_ GE104.out) | exact HB.out)⟩
    ·rw [if_neg c14] at H
     exact absurd H (by simp)
   ·rw [if_neg c13] at H
    exact absurd H (by simp)
  ·rw [if_neg c11] at H
   have c11b0 : decide (1048576 < a0) = false := decide_eq_false c11
   clear c11
   replace H := Option.bind_eq_some_iff.mp H
   obtain ⟨t113, A200, H⟩ := H
   replace H : (if 0 ≤ t113 then (if (t113 : Int).toNat ≤ 35184372088832 then (some (a0, (List.replicate (t113 : Int).toNat 0))) else (none)) else (none)) = some (r1, r2) := H
   have A20 := Aside0.mk A200
   clear A200
   by_cases c21 : 0 ≤ t113
   ·rw [if_pos c21] at H
    have c21b0 := eq_true c21
    have c21b1 : decide (0 ≤ t113) = true := decide_eq_true c21
    clear c21
    by_cases c22 : (t113 : Int).toNat ≤ 35184372088832
    ·rw [if_pos c22] at H
     have c22b0 := eq_true c22
     have c22b1 : decide ((t113 : Int).toNat ≤ 35184372088832) = true := decide_eq_true c22
     clear c22
     obtain ⟨y114, hy114⟩ : ∃ y_ : List Int, y_ = (List.replicate (t113 : Int).toNat 0) := ⟨_, rfl⟩
     replace H : (some (a0, y114)) = some (r1, r2) := by first | (rw [hy114]; with_reducible exact H) | (have H2_ := (Option.bind_some _ _).symm.trans H; rw [hy114]; with_reducible exact H2_) | (have H2_ := (Option.bind_some _ _).symm.trans H; with_reducible exact H2_) | with_reducible exact H | (rw [hy114]; exact H) | exact H
     have Ny114 := Aside0.mk hy114
     clear hy114
     simp only [Option.some.injEq, Prod.mk.injEq] at H
     obtain ⟨rfl, rfl⟩ := H
     go_enter Try.func25, Try.ntmps25
     go_wp2_with (first | ((with_reducible refine gate_dst (N := 2) rfl ?_); refine box_event ?hg (N := 2) ?hd (cs := #[.int .i64 0, .slice none 0 0]) (t := 30) ?hr ?_; (case hd => rfl); (case hg => (first | rfl | (simp only [*]; rfl) | (simp [*]; done))); (case hr => first | (go_simp; done) | (go_simp; rfl)); intro gb104 hg w23 hbox hb; have n0_ := Aside0.mk (below_step (by repeat (first | (with_reducible first | exact HB.out | apply below_alloc | apply pw_below_drewN | apply below_drew1) | exact HB.out)) hb); have n1_ := Aside0.mk (hbox); have n2_ := Aside0.mk ((by rw [hg]; exact (below_size (by repeat (first | (with_reducible first | exact HB.out | apply below_alloc | apply pw_below_drewN | apply below_drew1) | exact HB.out))) : w.heap.size ≤ gb104)); have n3_ := Aside0.mk ((by rw [hg]; exact (below_size (by repeat (first | (with_reducible first | exact HB.out | apply below_alloc | apply pw_below_drewN | apply below_drew1) | exact HB.out))) : w.heap.size ≤ gb104)); clear HB; have HB := n0_; have BK104 := n1_; have GW104 := n2_; have GE104 := n3_; clear n0_ n1_ n2_ n3_; clear hb hbox hg) | ((with_reducible refine gate_callee (f := 50) rfl ?_); refine goesL_ (some 11) rfl rfl Try.func50 (by kernel_rfl) rfl #[.int .i64 a0] rfl (by (try simp only [List.map_toArray, List.map_cons, List.map_nil]); first | done | rfl | (simp only [List.length_drop, List.length_take]; rfl)) ?_; (with_reducible refine (bitset_wordCount.calls a0 t113 _ A20.out).mono ?_); rintro e w' ⟨rfl, ⟨nd, rfl⟩⟩; refine ⟨_, rfl, ?_⟩; (try (rw [drewN_self w23]; generalize hq_ : World.drewN w23 _ = w23; have n0_ : Aside0 (w23.heap[gb104]? = some (.cells #[.int .i64 0, .slice none 0 0] 30 (0, 0))) := ⟨by rw [← hq_]; exact (by (with_reducible repeat (first | refine blk_drewN ?_ _ | refine blk_drew ?_ | refine blk_alloc ?_ _)); exact BK104.out)⟩; have n1_ : Aside0 (Below w.heap.size w w23) := ⟨by rw [← hq_]; exact (by repeat (first | (with_reducible first | exact HB.out | apply below_alloc | apply pw_below_drewN | apply below_drew1 | refine below_set ?_ GE104.out) | exact HB.out))⟩; clear BK104 HB hq_; have BK104 := n0_; have HB := n1_; clear n0_ n1_))) | ((with_reducible refine gate_dst (N := 12) rfl ?_); refine Kd.R_make (Kd.int .u64) _ 53 rfl (N := 12) rfl 28 _ _ rfl t113 rfl rfl Try.underlying28 (.int .u64 0) 8 info53 rfl (by decide) (by omega) 0 (ok := fun _ => True) (okp := fun _ => True) rfl (fun _ hk => hk) trivial (of_decide_eq_true (by first | (with_reducible assumption) | assumption)) (Nat.le_trans (Nat.mul_le_mul_right _ (of_decide_eq_true (by first | (with_reducible assumption) | assumption) : t113.toNat ≤ 35184372088832)) (by omega)) (Below.refl _ _) (Nat.le_refl _) ?_; intro v115 w24 ho25 hb hg_ hnew_; clear hg_ hnew_; (first | rw [← Ny114.out] at ho25 | (simp only [Int.reduceToNat] at ho25; rw [← Ny114.out] at ho25)); have n0_ := Aside0.mk (Kd.R_lower ho25 (below_size (by repeat (first | (with_reducible first | exact HB.out | apply below_alloc | apply pw_below_drewN | apply below_drew1 | refine below_set ?_ GE104.out) | exact HB.out)))); have n1_ := Aside0.mk (blk_below (g := gb104) (o := .cells #[.int .i64 0, .slice none 0 0] 30 (0, 0)) (by (with_reducible repeat (first | refine blk_drewN ?_ _ | refine blk_drew ?_ | refine blk_alloc ?_ _)); exact BK104.out) hb); have n2_ := Aside0.mk (below_step (by repeat (first | (with_reducible first | exact HB.out | apply below_alloc | apply pw_below_drewN | apply below_drew1 | refine below_set ?_ GE104.out) | exact HB.out)) hb); clear BK104; clear HB; have HO116 := n0_; have BK104 := n1_; have HB := n2_; clear n0_ n1_ n2_; clear hb ho25; obtain ⟨Ao26, co26, eo26⟩ := Kd.R_slice HO116.out; subst eo26; have hcz27_0 : w24.cell? ⟨gb104, 0, none⟩ = some (.int .i64 0) := (blk_cell BK104.out 0).trans rfl; have hcz27_1 : w24.cell? ⟨gb104, 1, none⟩ = some (.slice none 0 0) := (blk_cell BK104.out 1).trans rfl; have hfz27_0 := blk_frozen BK104.out 0; have hfz27_1 := blk_frozen BK104.out 1))
     refine bodyPost_ret (results_cell_row rfl _ _ gb104 30 #[.int .i64 a0, .slice Ao26 y114.length co26] (0, 0) _ rfl (by (with_reducible repeat (first | refine blk_drewN ?_ _ | refine blk_drew ?_ | refine blk_alloc ?_ _)); refine blk_put (cs := #[.int .i64 a0, .slice none 0 0]) ?_ 1 _ rfl; (with_reducible repeat (first | refine blk_drewN ?_ _ | refine blk_drew ?_ | refine blk_alloc ?_ _)); refine blk_put (cs := #[.int .i64 0, .slice none 0 0]) ?_ 0 _ rfl; (with_reducible repeat (first | refine blk_drewN ?_ _ | refine blk_drew ?_ | refine blk_alloc ?_ _)); exact BK104.out) Try.underlying30 rfl (by kernel_rfl)) rfl ?_
     exact ⟨_, by first | rfl | (simp [errW_none, errW_some] <;> rfl) | (simp [*, errW_none, errW_some] <;> rfl), by (with_reducible repeat (first | apply Kd.R_alloc | apply Kd.R_drewN | apply Kd.R_drew)); exact Kd.R_mono (Kd.R_far (p := ⟨gb104, 1, none⟩) (Kd.R_far (p := ⟨gb104, 0, none⟩) (Kd.R_types HO116.out BK104.out (by decide)) (fun _ hk => hk.2) (.int .i64 a0)) (fun _ hk => hk.2) (.slice Ao26 y114.length co26)) (fun _ hk => trivial), by repeat (first | (with_reducible first | exact HB.out | apply below_alloc | apply pw_below_drewN | apply below_drew1 | refine below_set ?_ GE104.out) | exact HB.out)⟩
    ·rw [if_neg c22] at H
     exact absurd H (by simp)
   ·rw [if_neg c21] at H
    exact absurd H (by simp)

/-! ### bitset_Of: function 28 -/
def bitset_Of.l0 : Nat → List Int → Int → Int → Int → List Int → Option (Int × List Int)
 | 0, _, _, _, _, _ => none
 | k + 1, x10, x11, x12, x123000, x123001 => if x12 < x11 then (if 0 ≤ x12 then (if x12 < (x10.length : Int) then (if (rd x10 x12) ≥ 0 then (if (rd x10 x12) < x123000 then (if 0 ≤ (wrap64 (Int.tdiv (rd x10 x12) 64)) then (if (wrap64 (Int.tdiv (rd x10 x12) 64)) < (x123001.length : Int) then (if 0 ≤ (Int.tmod (rd x10 x12) 64) then (bitset_Of.l0 k x10 x11 (wrap64 (x12 + 1)) x123000 (x123001.set ((wrap64 (Int.tdiv (rd x10 x12) 64)) : Int).toNat (Go.bits .or .u64 (rd x123001 (wrap64 (Int.tdiv (rd x10 x12) 64))) (shl .u64 1 (Int.tmod (rd x10 x12) 64))))) else (none)) else (none)) else (none)) else (bitset_Of.l0 k x10 x11 (wrap64 (x12 + 1)) x123000 x123001)) else (bitset_Of.l0 k x10 x11 (wrap64 (x12 + 1)) x123000 x123001)) else (none)) else (none)) else (some (x123000, x123001))
def bitset_Of.f (k : Nat) (a0 : Int) (l1 : List Int) : Option (Int × List Int) := (bitset_New.f a0).bind fun bt118 => (bitset_Of.l0 k l1 (l1.length : Int) 0 bt118.1 bt118.2)
theorem bitset_Of.mono_l : ∀ k, (∀ y0 y1 y2 y3 y4, LeO (bitset_Of.l0 k y0 y1 y2 y3 y4) (bitset_Of.l0 (k + 1) y0 y1 y2 y3 y4))
 | 0 => fun _ _ _ _ _ r h => by simp [bitset_Of.l0] at h
 | k + 1 => by
  have ih0 := bitset_Of.mono_l k
  ·intro y0 y1 y2 y3 y4
   unfold bitset_Of.l0
   repeat' first
   | (with_reducible exact ih0 _ _ _ _ _)
   | (with_reducible exact LeO.refl _)
   | (with_reducible exact LeO.none _)
   | (with_reducible refine LeO.ite ?_ ?_)
   | (with_reducible refine LeO.bind ?_ (fun _ => ?_))
   | exact ih0 _ _ _ _ _
   | exact LeO.none _
   | refine LeO.ite ?_ ?_
   | refine LeO.bind ?_ (fun _ => ?_)
theorem bitset_Of.mono : ∀ a0 a1 k, LeO (bitset_Of.f k a0 a1) (bitset_Of.f (k + 1) a0 a1) := by
 intro a0 a1 k
 have ih0 := bitset_Of.mono_l k
 unfold bitset_Of.f
 repeat' first
   | (with_reducible exact ih0 _ _ _ _ _)
   | (with_reducible exact LeO.refl _)
   | (with_reducible exact LeO.none _)
   | (with_reducible refine LeO.ite ?_ ?_)
   | (with_reducible refine LeO.bind ?_ (fun _ => ?_))
   | exact ih0 _ _ _ _ _
   | exact LeO.none _
   | refine LeO.ite ?_ ?_
   | refine LeO.bind ?_ (fun _ => ?_)
def bitset_Of.T6 : Bool × List (List Nat × List Nat) := (true, [([], []), ([0], [0]), ([], []), ([2], [2]), ([1, 3], [1, 3]), ([4], [4]), ([], []), ([6], [6]), ([7], [7]), ([5, 8], [5, 8]), ([1, 3, 0, 1, 2, 3, 4, 5, 6, 7, 8, 9], [1, 3]), ([10, 9, 0, 1, 2, 3, 4, 5, 6, 7, 8, 9], [9, 10])])
def bitset_Of.B6 : List Nat := [0, 1, 0, 4, 15, 31, 0, 64, 192, 511, 1023, 2047]
theorem bitset_Of.tab6 : rtab .any (opsOf Try.f28 6) = bitset_Of.T6 := by kernel_rfl
theorem bitset_Of.bits6 : waitsOk bitset_Of.T6.2 bitset_Of.B6 = true := by kernel_rfl
set_option maxHeartbeats 8000000 in
set_option maxRecDepth 100000 in
theorem bitset_Of.calls (k : Nat) (a0 : Int) (A1 : Option Addr) (c1 : Nat) (l1 : List Int) (r1 : Int) (r2 : List Int) (w : World) (hr1 : Kd.C (Kd.int .i64) w A1 l1.length l1) (hc1 : l1.length ≤ c1) (h : bitset_Of.f k a0 l1 = some (r1, r2)) :
  Calls Try.prog 28 #[.int .i64 a0, .slice A1 l1.length c1] w fun e w' => ∃ v1_ : Value, e = .returned (.agg #[.int .i64 r1, v1_]) ∧ Kd.R (Kd.int .u64) 53 w' w.heap.size (fun _ => True) v1_ r2 ∧ Below w.heap.size w w' := by
 have hu30 := Try.underlying30
 have HR1 := Aside0.mk hr1
 have HC1 := Aside0.mk hc1
 clear hr1 hc1
 have HB := Aside0.mk (Below.refl w.heap.size w)
 have H : ((bitset_New.f a0).bind fun bt118 => (bitset_Of.l0 k l1 (l1.length : Int) 0 bt118.1 bt118.2)) = some (r1, r2) := h
 clear h
 replace H := Option.bind_eq_some_iff.mp H
 obtain ⟨⟨t118, t119⟩, A30, H⟩ := H
 replace H : (bitset_Of.l0 k l1 (l1.length : Int) 0 t118 t119) = some (r1, r2) := H
 have A3 := Aside0.mk A30
 clear A30
 have H' := Aside0.mk H
 clear H
 go_enter Try.func28, Try.ntmps28
 go_wp2_with (first | ((with_reducible refine gate_dst (N := 4) rfl ?_); refine box_event ?hg (N := 4) ?hd (cs := #[.int .i64 0, .slice none 0 0]) (t := 30) ?hr ?_; (case hd => rfl); (case hg => (first | rfl | (simp only [*]; rfl) | (simp [*]; done))); (case hr => first | (go_simp; done) | (go_simp; rfl)); intro gb117 hg w4 hbox hb; have n0_ := Aside0.mk (below_step (by repeat (first | (with_reducible first | exact HB.out | apply below_alloc | apply pw_below_drewN | apply below_drew1) | exact HB.out)) hb); have n1_ := Aside0.mk (hbox); have n2_ := Aside0.mk ((by rw [hg]; exact (below_size (by repeat (first | (with_reducible first | exact HB.out | apply below_alloc | apply pw_below_drewN | apply below_drew1) | exact HB.out))) : w.heap.size ≤ gb117)); have n3_ := Aside0.mk ((by rw [hg]; exact (below_size (by repeat (first | (with_reducible first | exact HB.out | apply below_alloc | apply pw_below_drewN | apply below_drew1) | exact HB.out))) : w.heap.size ≤ gb117)); clear HB; have HB := n0_; have BK117 := n1_; have GW117 := n2_; have GE117 := n3_; clear n0_ n1_ n2_ n3_; clear hb hbox hg) | ((with_reducible refine gate_callee (f := 25) rfl ?_); refine goesL_ (some 9) rfl rfl Try.func25 (by kernel_rfl) rfl #[.int .i64 a0] rfl (by (try simp only [List.map_toArray, List.map_cons, List.map_nil]); first | done | rfl | (simp only [List.length_drop, List.length_take]; rfl)) ?_; (with_reducible refine (bitset_New.calls a0 t118 t119 _ A3.out).mono ?_); rintro e w5 ⟨v120, rfl, ho0, hb⟩; refine ⟨_, rfl, ?_⟩; have n0_ := Aside0.mk (Kd.R_lower ho0 (below_size (by repeat (first | (with_reducible first | exact HB.out | apply below_alloc | apply pw_below_drewN | apply below_drew1 | refine below_set ?_ GE117.out) | exact HB.out)))); have n1_ := Aside0.mk (blk_below (g := gb117) (o := .cells #[.int .i64 0, .slice none 0 0] 30 (0, 0)) (by (with_reducible repeat (first | refine blk_drewN ?_ _ | refine blk_drew ?_ | refine blk_alloc ?_ _)); exact BK117.out) hb); have n2_ := Aside0.mk (below_step (by repeat (first | (with_reducible first | exact HB.out | apply below_alloc | apply pw_below_drewN | apply below_drew1 | refine below_set ?_ GE117.out) | exact HB.out)) hb); clear BK117; clear HB; have HO121 := n0_; have BK117 := n1_; have HB := n2_; clear n0_ n1_ n2_; (try clear hb); (try clear hb2); (try clear hk); (try clear hi); (try clear ho0)) | ((with_reducible refine gate_dst (N := 5) rfl ?_); refine box_event ?hg (N := 5) ?hd (cs := #[.int .i64 0, .slice none 0 0]) (t := 30) ?hr ?_; (case hd => rfl); (case hg => (first | rfl | (simp only [*]; rfl) | (simp [*]; done))); (case hr => first | (go_simp; done) | (go_simp; rfl)); intro gb122 hg w6 hbox hb; have n0_ := Aside0.mk (Kd.R_below (by (with_reducible repeat (first | apply Kd.R_alloc | apply Kd.R_drewN | apply Kd.R_drew)); exact HO121.out) hb); have n1_ := Aside0.mk (blk_below (g := gb117) (o := .cells #[.int .i64 0, .slice none 0 0] 30 (0, 0)) (by (with_reducible repeat (first | refine blk_drewN ?_ _ | refine blk_drew ?_ | refine blk_alloc ?_ _)); exact BK117.out) hb); have n2_ := Aside0.mk (below_step (by repeat (first | (with_reducible first | exact HB.out | apply below_alloc | apply pw_below_drewN | apply below_drew1 | refine below_set ?_ GE117.out) | exact HB.out)) hb); have n3_ := Aside0.mk (hbox); have n4_ := Aside0.mk ((by rw [hg]; exact (below_size (by repeat (first | (with_reducible first | exact HB.out | apply below_alloc | apply pw_below_drewN | apply below_drew1 | refine below_set ?_ GE117.out) | exact HB.out))) : w.heap.size ≤ gb122)); have n5_ := Aside0.mk ((by rw [hg]; exact (below_size (by repeat (first | (with_reducible first | exact HB.out | apply below_alloc | apply pw_below_drewN | apply below_drew1 | refine below_set ?_ GE117.out) | exact HB.out))) : w.heap.size ≤ gb122)); have n6_ := Aside0.mk ((by rw [hg]; exact Nat.ne_of_lt (blk_lt (g := gb117) (o := .cells #[.int .i64 0, .slice none 0 0] 30 (0, 0)) (by (with_reducible repeat (first | refine blk_drewN ?_ _ | refine blk_drew ?_ | refine blk_alloc ?_ _)); exact BK117.out)) : gb117 ≠ gb122)); have n7_ := Aside0.mk ((by rw [hg]; exact Nat.ne_of_gt (blk_lt (g := gb117) (o := .cells #[.int .i64 0, .slice none 0 0] 30 (0, 0)) (by (with_reducible repeat (first | refine blk_drewN ?_ _ | refine blk_drew ?_ | refine blk_alloc ?_ _)); exact BK117.out)) : gb122 ≠ gb117)); clear HO121; clear BK117; clear HB; have HO121 := n0_; have BK117 := n1_; have HB := n2_; have BK122 := n3_; have GW122 := n4_; have GE122 := n5_; have NB117_122 := n6_; have NB122_117 := n7_; clear n0_ n1_ n2_ n3_ n4_ n5_ n6_ n7_; clear hb hbox hg; have hnb7 := NB122_117.out; have hnc7 := NB117_122.out; have hcz8_0 : w6.cell? ⟨gb122, 0, none⟩ = some (.int .i64 0) := (blk_cell BK122.out 0).trans rfl; have hcz8_1 : w6.cell? ⟨gb122, 1, none⟩ = some (.slice none 0 0) := (blk_cell BK122.out 1).trans rfl; have hfz8_0 := blk_frozen BK122.out 0; have hfz8_1 := blk_frozen BK122.out 1; obtain ⟨Ao9, co9, eo9⟩ := Kd.R_slice HO121.out; subst eo9))
 go_loopg [12] k (fun kq v12 w' => ∃ (x12_1 : Int) (x123001_1 : List Int) (u123001 : Value), v12 = .int .i64 x12_1 ∧ Aside0 (bitset_Of.l0 kq l1 (l1.length : Int) x12_1 t118 x123001_1 = some (r1, r2)) ∧ Aside0 (kq ≤ k) ∧ Aside0 (Kd.R (Kd.int .u64) 53 w' w.heap.size (fun _ => True) u123001 x123001_1) ∧ Aside0 (w'.heap[gb117]? = some (.cells #[.int .i64 0, (.slice none 0 0)] 30 (0, 0))) ∧ Aside0 (w'.heap[gb122]? = some (.cells #[.int .i64 t118, u123001] 30 (0, 0))) ∧ Aside0 (Below w.heap.size w w'))
 case atStart => exact ⟨(0), (t119), (.slice Ao9 t119.length co9), (by first | rfl | (simp; done) | (simp [*]; done)), H', ⟨Nat.le_refl _⟩, ⟨by (with_reducible repeat (first | apply Kd.R_alloc | apply Kd.R_drewN | apply Kd.R_drew)); exact Kd.R_mono (Kd.R_far (p := ⟨gb122, 1, none⟩) (Kd.R_far (p := ⟨gb122, 0, none⟩) (Kd.R_types HO121.out BK122.out (by decide)) (fun _ hk => hk.2) (.int .i64 t118)) (fun _ hk => hk.2) (.slice Ao9 t119.length co9)) (fun _ hk => trivial)⟩, ⟨by (with_reducible repeat (first | refine blk_drewN ?_ _ | refine blk_drew ?_ | refine blk_alloc ?_ _)); refine blk_far ?_ NB117_122.out _; (with_reducible repeat (first | refine blk_drewN ?_ _ | refine blk_drew ?_ | refine blk_alloc ?_ _)); refine blk_far ?_ NB117_122.out _; (with_reducible repeat (first | refine blk_drewN ?_ _ | refine blk_drew ?_ | refine blk_alloc ?_ _)); exact BK117.out⟩, ⟨by (with_reducible repeat (first | refine blk_drewN ?_ _ | refine blk_drew ?_ | refine blk_alloc ?_ _)); refine blk_put (cs := #[.int .i64 t118, .slice none 0 0]) ?_ 1 _ rfl; (with_reducible repeat (first | refine blk_drewN ?_ _ | refine blk_drew ?_ | refine blk_alloc ?_ _)); refine blk_put (cs := #[.int .i64 0, .slice none 0 0]) ?_ 0 _ rfl; (with_reducible repeat (first | refine blk_drewN ?_ _ | refine blk_drew ?_ | refine blk_alloc ?_ _)); exact BK122.out⟩, ⟨by repeat (first | (with_reducible first | exact HB.out | apply below_alloc | apply pw_below_drewN | apply below_drew1 | refine below_set ?_ GE117.out | refine below_set ?_ GE122.out) | exact HB.out)⟩⟩
 case round =>
  clear H'
  try clear c1
  try clear c2
  try clear p2
  try clear c7
  try clear hcz8_0
  try clear hcz8_1
  try clear hfz8_0
  try clear hfz8_1
  obtain ⟨x12_1, x123001_1, u123001, rfl, HA, HK1, HO_123001, BK117, BK122, HB⟩ := hrel
  cases gk with
  | zero => exact absurd HA.out (by simp [bitset_Of.l0])
  | succ k1 =>
   have H := HA.out
   clear HA
   simp only [bitset_Of.l0] at H
   by_cases c10 : x12_1 < (l1.length : Int)
   ·rw [if_pos c10] at H
    have c10b0 : decide (x12_1 < (l1.length : Int)) = true := decide_eq_true c10
    clear c10
    by_cases c11 : 0 ≤ x12_1
    ·rw [if_pos c11] at H
     have c11b0 : decide (0 ≤ x12_1) = true := decide_eq_true c11
     clear c11
     by_cases c12 : x12_1 < (l1.length : Int)
     ·rw [if_pos c12] at H
      have c12b0 : decide (x12_1 < (l1.length : Int)) = true := decide_eq_true c12
      clear c12
      by_cases c13 : (rd l1 x12_1) ≥ 0
      ·rw [if_pos c13] at H
       have c13b0 : decide (0 ≤ (rd l1 x12_1)) = true := decide_eq_true c13
       clear c13
       by_cases c14 : (rd l1 x12_1) < t118
       ·rw [if_pos c14] at H
        have c14b0 : decide ((rd l1 x12_1) < t118) = true := decide_eq_true c14
        clear c14
        obtain ⟨ji15, hji15⟩ : ∃ j_ : Int, (wrap64 (Int.tdiv (rd l1 x12_1) 64)) = j_ := ⟨_, rfl⟩
        replace H : (if 0 ≤ (ji15) then (if (ji15) < (x123001_1.length : Int) then (if 0 ≤ (Int.tmod (rd l1 x12_1) 64) then (bitset_Of.l0 k1 l1 (l1.length : Int) (wrap64 (x12_1 + 1)) t118 (x123001_1.set ((ji15) : Int).toNat (Go.bits .or .u64 (rd x123001_1 (ji15)) (shl .u64 1 (Int.tmod (rd l1 x12_1) 64))))) else (none)) else (none)) else (none)) = some (r1, r2) := by first | (rw [hji15] at H; exact H) | (simp only [hji15] at H ⊢; exact H)
        have hji15w : (IntKind.i64.wrap (Int.tdiv (rd l1 x12_1) 64)) = ji15 := (i64_w _).trans hji15
        by_cases c16 : 0 ≤ (ji15)
        ·rw [if_pos c16] at H
         have c16b0 : decide (0 ≤ (ji15)) = true := decide_eq_true c16
         clear c16
         by_cases c17 : (ji15) < (x123001_1.length : Int)
         ·rw [if_pos c17] at H
          have c17b0 : decide ((ji15) < (x123001_1.length : Int)) = true := decide_eq_true c17
          clear c17
          obtain ⟨ji18, hji18⟩ : ∃ j_ : Int, (Int.tmod (rd l1 x12_1) 64) = j_ := ⟨_, rfl⟩
          replace H : (if 0 ≤ (ji18) then (bitset_Of.l0 k1 l1 (l1.length : Int) (wrap64 (x12_1 + 1)) t118 (x123001_1.set ((ji15) : Int).toNat (Go.bits .or .u64 (rd x123001_1 (ji15)) (shl .u64 1 (ji18))))) else (none)) = some (r1, r2) := by first | (rw [hji18] at H; exact H) | (simp only [hji18] at H ⊢; exact H)
          by_cases c19 : 0 ≤ (ji18)
          ·rw [if_pos c19] at H
           have c19b0 := eq_true c19
           have c19b1 : decide (0 ≤ (ji18)) = true := decide_eq_true c19
           clear c19
           obtain ⟨ji20, hji20⟩ : ∃ j_ : Int, (shl .u64 1 (ji18)) = j_ := ⟨_, rfl⟩
           replace H : (bitset_Of.l0 k1 l1 (l1.length : Int) (wrap64 (x12_1 + 1)) t118 (x123001_1.set ((ji15) : Int).toNat (Go.bits .or .u64 (rd x123001_1 (ji15)) (ji20)))) = some (r1, r2) := by first | (rw [hji20] at H; exact H) | (simp only [hji20] at H ⊢; exact H)
           have hji20_ : (IntKind.u64.wrap (1 * 2 ^ min (ji18).toNat 64)) = ji20 := hji20
           have hji20z : (ji18) ≤ 64 → (IntKind.u64.wrap (1 * 2 ^ (ji18).toNat)) = ji20 := shl_small hji20
           have hji20u : (IntKind.u64.wrap (2 ^ min (ji18).toNat 64)) = ji20 := by have h_ := hji20_; rw [Int.one_mul] at h_; exact h_
           have hji20v : (ji18) ≤ 64 → (IntKind.u64.wrap (2 ^ (ji18).toNat)) = ji20 := fun hle_ => by have h_ := hji20z hle_; rw [Int.one_mul] at h_; exact h_
           obtain ⟨y125, hy125⟩ : ∃ y_ : List Int, y_ = (x123001_1.set ((ji15) : Int).toNat (Go.bits .or .u64 (rd x123001_1 (ji15)) (ji20))) := ⟨_, rfl⟩
           replace H : (bitset_Of.l0 k1 l1 (l1.length : Int) (wrap64 (x12_1 + 1)) t118 y125) = some (r1, r2) := by first | (rw [hy125]; with_reducible exact H) | (have H2_ := (Option.bind_some _ _).symm.trans H; rw [hy125]; with_reducible exact H2_) | (have H2_ := (Option.bind_some _ _).symm.trans H; with_reducible exact H2_) | with_reducible exact H | (rw [hy125]; exact H) | exact H
           have Ny125 := Aside0.mk hy125
           clear hy125
           have H' := Aside0.mk H
           clear H
           have p123 : 0 ≤ (x12_1 : Int) := of_decide_eq_true (by first | (with_reducible assumption) | assumption)
           have q123 : x12_1 < (l1.length : Int) := of_decide_eq_true (by first | (with_reducible assumption) | assumption)
           obtain ⟨ad123, e123, hx123_0⟩ := Kd.at_int HR1.out x12_1 p123 q123
           cases e123
           replace hx123_0 := (HB.out.cell (World.block_lt_of_cell? w _ hx123_0)).trans hx123_0
           replace p123 := eq_true p123
           replace q123 := eq_true q123
           have hnb22 := NB122_117.out
           have hnc22 := NB117_122.out
           have hcz23_0 : wr.cell? ⟨gb122, 0, none⟩ = some (.int .i64 t118) := (blk_cell BK122.out 0).trans rfl
           have hcz23_1 : wr.cell? ⟨gb122, 1, none⟩ = some (u123001) := (blk_cell BK122.out 1).trans rfl
           have hfz23_0 := blk_frozen BK122.out 0
           have hfz23_1 := blk_frozen BK122.out 1
           try go_wp2
           have n0_ := Aside0.mk (Kd.R_drew HO_123001.out)
           have n1_ := Aside0.mk (blk_drew BK117.out)
           have n2_ := Aside0.mk (blk_drew BK122.out)
           have n3_ := Aside0.mk (below_drew1 HB.out)
           clear HO_123001
           clear BK117
           clear BK122
           clear HB
           have HO_123001 := n0_
           have BK117 := n1_
           have BK122 := n2_
           have HB := n3_
           clear n0_ n1_ n2_ n3_
           obtain ⟨Ao25, co25, eo25⟩ := Kd.R_slice HO_123001.out
           (first | subst eo25 | (injection eo25 with f1_ f2_ f3_; have f4_ := f1_.symm; have f5_ := f3_.symm; clear f1_ f2_ f3_; subst f4_; subst f5_))
           have p124 : 0 ≤ ((ji15) : Int) := of_decide_eq_true (by first | (with_reducible assumption) | assumption)
           have q124 : (ji15) < (x123001_1.length : Int) := of_decide_eq_true (by first | (with_reducible assumption) | assumption)
           obtain ⟨ad124, e124, hx124_0⟩ := Kd.at_int (Kd.R_reads' HO_123001.out).2.2 (ji15) p124 q124
           cases e124
           replace p124 := eq_true p124
           replace q124 := eq_true q124
           have p21 : 0 ≤ ((ji15) : Int) := of_decide_eq_true (by first | (with_reducible assumption) | assumption)
           have q21 : ((ji15) : Int) < ((x123001_1.length : Int) : Int) := of_decide_eq_true (by first | (with_reducible assumption) | assumption)
           obtain ⟨go21, co21, eo21, gb21, gl21, cl21, HG21⟩ := Kd.R_form HO_123001.out (by omega)
           (first | cases eo21 | (injection eo21 with ea_ en_ ec_; (first | subst ea_ | (injection ea_ with ea_; subst ea_)); subst ec_; clear en_))
           have GB21 := Aside0.mk gb21
           have GG21 := Aside0.mk HG21
           clear gb21 gl21 HG21
           (first | simp only [add_plain] at hx124_0 | skip)
           obtain ⟨hx21_0, hf21_0⟩ := Kd.R_celln 0 HO_123001.out ((ji15) : Int) p21 q21
           replace p21 := eq_true p21
           replace q21 := eq_true q21
           have HP26 := Kd.R_putn HO_123001.out ((ji15) : Int) (Go.bits .or .u64 (rd x123001_1 (ji15)) (ji20))
           rw [← Ny125.out] at HP26
           have HQ26 := Aside0.mk HP26
           clear HP26
           refine start_ (n := 12) (S := fun w' => w'.cell? ⟨gb122, 0, none⟩ = some (.int .i64 t118) ∧ w'.cell? ⟨gb122, 1, none⟩ = some (.slice (some ⟨go21, 0, none⟩) x123001_1.length co25) ∧ w'.cell? ⟨go21, ((ji15)).toNat, none⟩ = some (.int .u64 (rd x123001_1 (ji15)))) (ds := [11]) #[false, false, false, false, false, false, false, false, false, false, false, false] (by kernel_rfl) rfl rfl ⟨(blk_cell BK122.out 0).trans rfl, (blk_cell BK122.out 1).trans rfl, hx124_0⟩ (fun hHeld => ?_); refine with_tabW bitset_Of.tab6 bitset_Of.bits6 (fun HT_ HW_ => ?_)
           generalize wr.drew = w24 at HO_123001 BK117 BK122 HB GG21 HQ26 hf21_0 hx124_0 hx21_0 hHeld ⊢
           refine pure_ (i := 0) (N := some 24) (v := ?_) (a' := ?_) #[true, false, false, false, false, false, false, false, false, false, false, false] rfl rfl (any_of HT_.out (by kernel_rfl)) (fun _ _ _ h => h) (Or.inl ⟨by (first | rfl | (simp only [*]; rfl) | (simp [*]; done)), ?_⟩) ?_ ?_
           rotate_left
           ·intro w'
            go_simp
            with_reducible rfl
           rotate_left
           ·simp only [Act.put, List.setIfInBounds_toArray, List.set_cons_zero, List.set_cons_succ, i64_w, i32_w]
            rfl
           refine pure_ (i := 2) (N := some 26) (v := ?_) (a' := ?_) #[true, false, true, false, false, false, false, false, false, false, false, false] rfl rfl (any_of HT_.out (by kernel_rfl)) (fun _ _ _ h => h) (Or.inl ⟨by (first | rfl | (simp only [*]; rfl) | (simp [*]; done)), ?_⟩) ?_ ?_
           rotate_left
           ·intro w'
            go_simp
            with_reducible rfl
           rotate_left
           ·simp only [Act.put, List.setIfInBounds_toArray, List.set_cons_zero, List.set_cons_succ, i64_w, i32_w]
            rfl
           refine pure_ (i := 3) (N := some 27) (v := ?_) (a' := ?_) #[true, false, true, true, false, false, false, false, false, false, false, false] rfl rfl (any_of HT_.out (by kernel_rfl)) (fun _ _ _ h => h) (Or.inl ⟨by (first | rfl | (simp only [*]; rfl) | (simp [*]; done)), ?_⟩) ?_ ?_
           rotate_left
           ·intro w'
            go_simp
            with_reducible rfl
           rotate_left
           ·simp only [Act.put, List.setIfInBounds_toArray, List.set_cons_zero, List.set_cons_succ, i64_w, i32_w]
            rfl
           refine pure_ (i := 6) (N := some 30) (v := ?_) (a' := ?_) #[true, false, true, true, false, false, true, false, false, false, false, false] rfl rfl (any_of HT_.out (by kernel_rfl)) (fun _ _ _ h => h) (Or.inl ⟨by (first | rfl | (simp only [*]; rfl) | (simp [*]; done)), ?_⟩) ?_ ?_
           rotate_left
           ·intro w'
            go_simp
            with_reducible rfl
           rotate_left
           ·simp only [Act.put, List.setIfInBounds_toArray, List.set_cons_zero, List.set_cons_succ, i64_w, i32_w]
            rfl
           refine pure_ (i := 7) (N := some 31) (v := ?_) (a' := ?_) #[true, false, true, true, false, false, true, true, false, false, false, false] rfl rfl (any_of HT_.out (by kernel_rfl)) (fun _ _ _ h => h) (Or.inl ⟨by (first | rfl | (simp only [*]; rfl) | (simp [*]; done)), ?_⟩) ?_ ?_
           rotate_left
           ·intro w'
            go_simp
            with_reducible rfl
           rotate_left
           ·simp only [Act.put, List.setIfInBounds_toArray, List.set_cons_zero, List.set_cons_succ, i64_w, i32_w]
            rfl
           refine pure_ (i := 8) (N := some 32) (v := ?_) (a' := ?_) #[true, false, true, true, false, false, true, true, true, false, false, false] rfl rfl (any_of HT_.out (by kernel_rfl)) (fun _ _ _ h => h) (Or.inl ⟨by (first | rfl | (simp only [*]; rfl) | (simp [*]; done)), ?_⟩) ?_ ?_
           rotate_left
           ·intro w'
            go_simp
            with_reducible rfl
           rotate_left
           ·simp only [Act.put, List.setIfInBounds_toArray, List.set_cons_zero, List.set_cons_succ, i64_w, i32_w]
            rfl
           refine take_ (i := 1) (N := some 25) (v := ?_) (a' := ?_) #[true, true, true, true, false, false, true, true, true, false, false, false] rfl rfl (take_ofW HT_.out HW_.out (by kernel_rfl)) (fun _ _ _ h => h) (Or.inl ⟨by (first | rfl | (simp only [*]; rfl) | (simp [*]; done)), ?_⟩) hHeld ?_ ?_
           rotate_left
           ·rintro w' ⟨s0, s1, s2⟩
            go_simp
            with_reducible rfl
           rotate_left
           ·simp only [Act.put, List.setIfInBounds_toArray, List.set_cons_zero, List.set_cons_succ, i64_w, i32_w]
            rfl
           refine pure_ (i := 4) (N := some 28) (v := ?_) (a' := ?_) #[true, true, true, true, true, false, true, true, true, false, false, false] rfl rfl (any_of HT_.out (by kernel_rfl)) (fun _ _ _ h => h) (Or.inl ⟨by (first | rfl | (simp only [*]; rfl) | (simp [*]; done)), ?_⟩) ?_ ?_
           rotate_left
           ·intro w'
            go_simp
            with_reducible rfl
           rotate_left
           ·simp only [Act.put, List.setIfInBounds_toArray, List.set_cons_zero, List.set_cons_succ, i64_w, i32_w]
            rfl
           refine take_ (i := 5) (N := some 29) (v := ?_) (a' := ?_) #[true, true, true, true, true, true, true, true, true, false, false, false] rfl rfl (take_ofW HT_.out HW_.out (by kernel_rfl)) (fun _ _ _ h => h) (Or.inl ⟨by (first | rfl | (simp only [*]; rfl) | (simp [*]; done)), ?_⟩) hHeld ?_ ?_
           rotate_left
           ·rintro w' ⟨s0, s1, s2⟩
            go_simp
            with_reducible rfl
           rotate_left
           ·simp only [Act.put, List.setIfInBounds_toArray, List.set_cons_zero, List.set_cons_succ, i64_w, i32_w]
            rfl
           refine pure_ (i := 9) (N := some 33) (v := ?_) (a' := ?_) #[true, true, true, true, true, true, true, true, true, true, false, false] rfl rfl (any_of HT_.out (by kernel_rfl)) (fun _ _ _ h => h) (Or.inl ⟨by (first | rfl | (simp only [*]; rfl) | (simp [*]; done)), ?_⟩) ?_ ?_
           rotate_left
           ·intro w'
            go_simp
            with_reducible rfl
           rotate_left
           ·simp only [Act.put, List.setIfInBounds_toArray, List.set_cons_zero, List.set_cons_succ, i64_w, i32_w]
            rfl
           refine pure_ (i := 10) (N := some 34) (v := ?_) (a' := ?_) #[true, true, true, true, true, true, true, true, true, true, true, false] rfl rfl (any_of HT_.out (by kernel_rfl)) (fun _ _ _ h => h) (Or.inl ⟨by (first | rfl | (simp only [*]; rfl) | (simp [*]; done)), ?_⟩) ?_ ?_
           rotate_left
           ·intro w'
            go_simp
            with_reducible rfl
           rotate_left
           ·simp only [Act.put, List.setIfInBounds_toArray, List.set_cons_zero, List.set_cons_succ, i64_w, i32_w]
            rfl
           refine last_ (i := 11) (N := none) #[true, true, true, true, true, true, true, true, true, true, true, true] rfl rfl (one_of HT_.out (by kernel_rfl)) (by decide) (fun K hK => ?_)
           refine skip_ (w1 := ?_) (by rfl) rfl ?_ ?_
           rotate_left
           ·go_simp
            rfl
           refine hK.out _ _ ?_
           clear hK K
           refine done_ (done_of HT_.out (by kernel_rfl)) ?_
           try go_wp2
           go_roundg k1
           case measure => have := HK1.out; omega
           case rel => exact ⟨(wrap64 (x12_1 + 1)), (y125), (.slice (some ⟨go21, 0, none⟩) x123001_1.length co25), (by first | rfl | (simp; done) | (simp [*]; done)), H', ⟨by have := HK1.out; omega⟩, ⟨by (with_reducible repeat (first | apply Kd.R_alloc | apply Kd.R_drewN | apply Kd.R_drew)); exact HQ26.out⟩, ⟨by (with_reducible repeat (first | refine blk_drewN ?_ _ | refine blk_drew ?_ | refine blk_alloc ?_ _)); refine blk_far ?_ (by have h_ := Kd.R_ne HO_123001.out BK117.out (by decide); intro e_; exact h_ (by rw [e_]; rfl)) _; (with_reducible repeat (first | refine blk_drewN ?_ _ | refine blk_drew ?_ | refine blk_alloc ?_ _)); exact BK117.out⟩, ⟨by (with_reducible repeat (first | refine blk_drewN ?_ _ | refine blk_drew ?_ | refine blk_alloc ?_ _)); refine blk_far ?_ (by have h_ := Kd.R_ne HO_123001.out BK122.out (by decide); intro e_; exact h_ (by rw [e_]; rfl)) _; (with_reducible repeat (first | refine blk_drewN ?_ _ | refine blk_drew ?_ | refine blk_alloc ?_ _)); exact BK122.out⟩, ⟨by repeat (first | (with_reducible first | exact HB.out | apply below_alloc | apply pw_below_drewN | apply below_drew1 | refine below_set ?_ GB21.out | refine below_set ?_ GE117.out | refine below_set ?_ GE122.out) | exact HB.out)⟩⟩
          ·rw [if_neg c19] at H
           exact absurd H (by simp)
         ·rw [if_neg c17] at H
          exact absurd H (by simp)
        ·rw [if_neg c16] at H
         exact absurd H (by simp)
       ·rw [if_neg c14] at H
        have c14b0 : decide ((rd l1 x12_1) < t118) = false := decide_eq_false c14
        clear c14
        have H' := Aside0.mk H
        clear H
        have p123 : 0 ≤ (x12_1 : Int) := of_decide_eq_true (by first | (with_reducible assumption) | assumption)
        have q123 : x12_1 < (l1.length : Int) := of_decide_eq_true (by first | (with_reducible assumption) | assumption)
        obtain ⟨ad123, e123, hx123_0⟩ := Kd.at_int HR1.out x12_1 p123 q123
        cases e123
        replace hx123_0 := (HB.out.cell (World.block_lt_of_cell? w _ hx123_0)).trans hx123_0
        replace p123 := eq_true p123
        replace q123 := eq_true q123
        have hnb27 := NB122_117.out
        have hnc27 := NB117_122.out
        have hcz28_0 : wr.cell? ⟨gb122, 0, none⟩ = some (.int .i64 t118) := (blk_cell BK122.out 0).trans rfl
        have hcz28_1 : wr.cell? ⟨gb122, 1, none⟩ = some (u123001) := (blk_cell BK122.out 1).trans rfl
        have hfz28_0 := blk_frozen BK122.out 0
        have hfz28_1 := blk_frozen BK122.out 1
        go_wp2
        go_roundg k1
        case measure => have := HK1.out; omega
        case rel => exact ⟨(wrap64 (x12_1 + 1)), (x123001_1), (u123001), (by first | rfl | (simp; done) | (simp [*]; done)), H', ⟨by have := HK1.out; omega⟩, ⟨by (with_reducible repeat (first | apply Kd.R_alloc | apply Kd.R_drewN | apply Kd.R_drew)); exact HO_123001.out⟩, ⟨by (with_reducible repeat (first | refine blk_drewN ?_ _ | refine blk_drew ?_ | refine blk_alloc ?_ _)); exact BK117.out⟩, ⟨by (with_reducible repeat (first | refine blk_drewN ?_ _ | refine blk_drew ?_ | refine blk_alloc ?_ _)); exact BK122.out⟩, ⟨by repeat (first | (with_reducible first | exact HB.out | apply below_alloc | apply pw_below_drewN | apply below_drew1 | refine below_set ?_ GE117.out | refine below_set ?_ GE122.out) | exact HB.out)⟩⟩
      ·rw [if_neg c13] at H
       have c13b0 : decide (0 ≤ (rd l1 x12_1)) = false := decide_eq_false c13
       clear c13
       have H' := Aside0.mk H
       clear H
       have p123 : 0 ≤ (x12_1 : Int) := of_decide_eq_true (by first | (with_reducible assumption) | assumption)
       have q123 : x12_1 < (l1.length : Int) := of_decide_eq_true (by first | (with_reducible assumption) | assumption)
       obtain ⟨ad123, e123, hx123_0⟩ := Kd.at_int HR1.out x12_1 p123 q123
       cases e123
       replace hx123_0 := (HB.out.cell (World.block_lt_of_cell? w _ hx123_0)).trans hx123_0
       replace p123 := eq_true p123
       replace q123 := eq_true q123
       go_wp2
       go_roundg k1
       case measure => have := HK1.out; omega
       case rel => exact ⟨(wrap64 (x12_1 + 1)), (x123001_1), (u123001), (by first | rfl | (simp; done) | (simp [*]; done)), H', ⟨by have := HK1.out; omega⟩, ⟨by (with_reducible repeat (first | apply Kd.R_alloc | apply Kd.R_drewN | apply Kd.R_drew)); exact HO_123001.out⟩, ⟨by (with_reducible repeat (first | refine blk_drewN ?_ _ | refine blk_drew ?_ | refine blk_alloc ?_ _)); exact BK117.out⟩, ⟨by (with_reducible repeat (first | refine blk_drewN ?_ _ | refine blk_drew ?_ | refine blk_alloc ?_ _)); exact BK122.out⟩, ⟨by repeat (first | (with_reducible first | exact HB.out | apply below_alloc | apply pw_below_drewN | apply below_drew1 | refine below_set ?_ GE117.out | refine below_set ?_ GE122.out) | exact HB.out)⟩⟩
     ·rw [if_neg c12] at H
      exact absurd H (by simp)
    ·rw [if_neg c11] at H
     exact absurd H (by simp)
   ·rw [if_neg c10] at H
    have c10b0 : decide (x12_1 < (l1.length : Int)) = false := decide_eq_false c10
    clear c10
    simp only [Option.some.injEq, Prod.mk.injEq] at H
    obtain ⟨rfl, rfl⟩ := H
    have hnb29 := NB122_117.out
    have hnc29 := NB117_122.out
    have hcz30_0 : wr.cell? ⟨gb122, 0, none⟩ = some (.int .i64 t118) := (blk_cell BK122.out 0).trans rfl
    have hcz30_1 : wr.cell? ⟨gb122, 1, none⟩ = some (u123001) := (blk_cell BK122.out 1).trans rfl
    have hfz30_0 := blk_frozen BK122.out 0
    have hfz30_1 := blk_frozen BK122.out 1
    have hcz31_0 : wr.cell? ⟨gb117, 0, none⟩ = some (.int .i64 0) := (blk_cell BK117.out 0).trans rfl
    have hcz31_1 : wr.cell? ⟨gb117, 1, none⟩ = some (.slice none 0 0) := (blk_cell BK117.out 1).trans rfl
    have hfz31_0 := blk_frozen BK117.out 0
    have hfz31_1 := blk_frozen BK117.out 1
    obtain ⟨Ao32, co32, eo32⟩ := Kd.R_slice HO_123001.out
    subst eo32
    go_wp2
    refine bodyPost_ret (results_cell_row rfl _ _ gb117 30 #[.int .i64 t118, .slice Ao32 x123001_1.length co32] (0, 0) _ rfl (by (with_reducible repeat (first | refine blk_drewN ?_ _ | refine blk_drew ?_ | refine blk_alloc ?_ _)); refine blk_put (cs := #[.int .i64 t118, .slice none 0 0]) ?_ 1 _ rfl; (with_reducible repeat (first | refine blk_drewN ?_ _ | refine blk_drew ?_ | refine blk_alloc ?_ _)); refine blk_put (cs := #[.int .i64 0, .slice none 0 0]) ?_ 0 _ rfl; (with_reducible repeat (first | refine blk_drewN ?_ _ | refine blk_drew ?_ | refine blk_alloc ?_ _)); exact BK117.out) Try.underlying30 rfl (by kernel_rfl)) rfl ?_
    exact ⟨_, by first | rfl | (simp [errW_none, errW_some] <;> rfl) | (simp [*, errW_none, errW_some] <;> rfl), by (with_reducible repeat (first | apply Kd.R_alloc | apply Kd.R_drewN | apply Kd.R_drew)); exact Kd.R_mono (Kd.R_far (p := ⟨gb117, 1, none⟩) (Kd.R_far (p := ⟨gb117, 0, none⟩) (Kd.R_types HO_123001.out BK117.out (by decide)) (fun _ hk => hk.2) (.int .i64 t118)) (fun _ hk => hk.2) (.slice Ao32 x123001_1.length co32)) (fun _ hk => trivial), by repeat (first | (with_reducible first | exact HB.out | apply below_alloc | apply pw_below_drewN | apply below_drew1 | refine below_set ?_ GE117.out | refine below_set ?_ GE122.out) | exact HB.out)⟩

/-! ### bloom_Build: function 11 -/
section
open Go.Shelf
attribute [local go_sem] Oper.semAt_some
theorem wpListIn_append_at {F : Fence} {n : Nat} {P : Program} (w : World) {ops : Array Oper} {rest : List Oper} {o : Oper} {a : Act} {Q : Exit → Act → World → Prop}
    (hg : o.guard = none) (s x : Operand) (t : TypeId) (hop : o.op = Op.call { callee := Callee.builtin Builtin.append, args := #[s, x], argTypes := #[t, t] })
    (base : Nat) (e : TypeId) (i : TypeInfo) (z : Value) (size bytes : Nat) (h1 : P.underlying t = some (.slice e)) (h2 : P.info? e = some i) (h3 : i.zero = some z) (h4 : i.size = size) (h5 : i.bytes = bytes) (h6 : z.cells.size = size) (h7 : 0 < size)
    (v : Value) (k : Nat) (xs : List Value) (hs : a.eval s = v) (hown : w.ownsRow base e size v k xs) (ad : Addr) (m c : Nat) (news : List Value) (hx : a.eval x = .slice (some ad) m c) (hn : news.length = m * size)
    (hc : ∀ j u, news[j]? = some u → w.cell? (ad.add j) = some u) (h1c : ∀ u ∈ news, u.oneCell' = true) (b1 : k + m ≤ maxLen) (b2 : (k + m) * bytes ≤ 140737488355328) (b3 : base ≤ w.heap.size)
    (hK : ∀ v' w', w'.ownsRow base e size v' (k + m) (xs ++ news) → w.grownBy w' v.ownBlock → (v'.ownBlock = v.ownBlock ∨ v'.ownBlock = some w.heap.size) → wpListIn F n P ops Q rest (a.put o.dst v') w') :
    wpListIn F n P ops Q (o :: rest) a w := by
  refine wpListIn_plain hg fun K hK' => ?_
  obtain ⟨v', w', hrun, r1, r2, _, r4⟩ := run_append_own_at (P := P) w base t o.type e i z size bytes h1 h2 h3 h4 h5 h6 h7 v k xs hown ad m c news hn hc h1c b1 b2 b3
  unfold Oper.wpIn
  refine ⟨?_, ?_⟩
  · simp [Oper.about, hop, resolve, Target.leads, Sem.run_pure]
  · rw [Oper.semAt_plain F _ _ (by rw [hop]; intro c hc'; cases hc')]
    simp [execOp, hop, resolve, invoke, builtin, hs, hx, hrun, Result.andThen]
    exact hK' _ _ (hK v' w' r1 r2 r4)
theorem grow2 {W w1 : World} {B : Nat} {v v' : Value} {tmp : Obj} (hgrow : (W.alloc tmp).grownBy w1 v.ownBlock) (i : Nat) (hi : i < W.heap.size) (hiB : i ≠ B) (hio : some i ≠ v.ownBlock) : (w1.setCell ⟨B, 0, none⟩ v').heap[i]? = W.heap[i]? := by
  have e1 : (W.alloc tmp).heap[i]? = W.heap[i]? := Below.heap_alloc _ _ _ hi
  have e2 : w1.heap[i]? = (W.alloc tmp).heap[i]? := hgrow.block i (by simp; omega) hio
  have h3 : i < w1.heap.size := by
    have := hgrow.size
    simp at this
    omega
  exact ((grownBy_setCell' w1 B v').block i h3 (by simp; omega)).trans (e2.trans e1)
theorem as_info : (Try.prog.info? 3).map (fun i => (i.zero, i.size, i.bytes)) = some (some (.int .i64 0), 1, 8) := by kernel_rfl
set_option maxHeartbeats 4000000 in
set_option maxRecDepth 100000 in
/-- AppendSeq over the probes: the row grows, everything else lies as it lay. -/
theorem as_in (n₀ Bp : Nat) (v : S24) (hs n h0 g1 : Int) (hn0 : 0 < n) (hn1 : n < 9223372036854775808) (hh : hs ≤ 1000000) (hH1 : value_Hash.f 1 [v] = some h0) (hH2 : value_Hash.f 2 [v] = some g1) (r : List Int) (hr : r = prL n (Go.bits .or .u64 g1 1) hs.toNat h0)
    (xs : List Int) (vl : Value) (w : World) (hB1 : w.heap[Bp]? = some (.cells #[.int .i64 hs] 3 (0, 0))) (hB2 : w.heap[Bp + 1]? = some (.cells #[.int .i64 n] 3 (0, 0))) (hB3 : w.heap[Bp + 2]? = some (.cells #[.int .i64 v.f0, .int .i64 v.f1, .string v.f2] 24 (0, 0)))
    (hn : n₀ ≤ w.heap.size) (hrow : w.ownsRow n₀ 3 1 vl xs.length (xs.map (Value.int .i64))) (hne1 : some Bp ≠ vl.ownBlock) (hne2 : some (Bp + 1) ≠ vl.ownBlock) (hlen : xs.length + r.length ≤ 1000000) :
    CallsIn Fence.wide 9 Try.prog 26 #[vl, .func (.func 51) #[] #[.pointer (some ⟨Bp + 2, 0, none⟩), .pointer (some ⟨Bp, 0, none⟩), .pointer (some ⟨Bp + 1, 0, none⟩)]] w fun e W' =>
      ∃ v', e = .returned v' ∧ W'.ownsRow n₀ 3 1 v' (xs ++ r).length ((xs ++ r).map (Value.int .i64)) ∧ Below n₀ w W' ∧ (∀ k, k < w.heap.size → some k ≠ vl.ownBlock → W'.heap[k]? = w.heap[k]?) := by
  have hro : Fence.wide.round = none := rfl
  obtain ⟨i0, hi, hz0, hz1, hz2⟩ := info_parts as_info
  obtain ⟨A, cap, hvl⟩ := own_slice hrow
  have e1 : (Value.slice A xs.length cap).oneCell' = true := rfl
  subst hvl
  refine callsIn_of_wp_marks Try.func26 rfl trivial ?_ hro
  simp only [Try.ntmps26, List.size_toArray, List.length_cons, List.length_nil, Nat.reduceAdd, Nat.reduceSub, Array.replicate_succ, Array.replicate_zero, List.push_toArray, List.append_toArray, List.nil_append, List.cons_append]
  gi_wp2
  have hl1 := (Array.getElem?_eq_some_iff.1 hB1).1
  have hl2 := (Array.getElem?_eq_some_iff.1 hB2).1
  have hl3 := (Array.getElem?_eq_some_iff.1 hB3).1
  have bO := Boxed.new w 55 (Value.slice A xs.length cap)
  have hB0 : Below w.heap.size w (w.alloc (.cells #[(Value.slice A xs.length cap)] 55)) := (Below.refl _ w).alloc (Nat.le_refl _) _
  have hsz : (w.alloc (.cells #[(Value.slice A xs.length cap)] 55)).heap.size = w.heap.size + 1 := by simp
  have hro0 := hrow.alloc (.cells #[(Value.slice A xs.length cap)] 55)
  have y1 := (hB0.block _ hl1).trans hB1
  have y2 := (hB0.block _ hl2).trans hB2
  have y3 := (hB0.block _ hl3).trans hB3
  obtain ⟨W0, hW0⟩ : ∃ W0, W0 = w.alloc (.cells #[(Value.slice A xs.length cap)] 55) := ⟨_, rfl⟩
  rw [← hW0] at bO hB0 hsz hro0 y1 y2 y3 ⊢
  clear hW0
  refine wpIn_rangeFunc_ownG hro (by decide) (gf := 51) (lb := #[.pointer (some ⟨Bp + 2, 0, none⟩), .pointer (some ⟨Bp, 0, none⟩), .pointer (some ⟨Bp + 1, 0, none⟩)]) rfl trivial (enters_of Try.func51 (by kernel_rfl) rfl)
    (pr_stopsR Bp n₀ v hs n h0 g1 hn0 hn1 hh hH1 hH2 r hr W0 y1 y2 y3 (by omega))
    (fun h k => LK.trans h k) (LK.putObj (by omega) (by omega)) (Below.refl _ _) (fun _ => rfl)
    (fun pre W => ((∃ v, Boxed W w.heap.size 55 v ∧ W.ownsRow n₀ 3 1 v (xs.length + pre.length) (xs.map (Value.int .i64) ++ pre.map (fun x => Value.int .i64 x.1)) ∧ (v.ownBlock = (Value.slice A xs.length cap).ownBlock ∨ ∃ b, v.ownBlock = some b ∧ w.heap.size < b)) ∧ Below n₀ w W) ∧ ((∀ k, k < w.heap.size → some k ≠ (Value.slice A xs.length cap).ownBlock → W.heap[k]? = w.heap[k]?) ∧ w.heap.size + 1 ≤ W.heap.size))
    (fun _ _ _ => False)
    (OwnFrom.and (OwnFrom.and (Own.from (holdsRow_own n₀ w.heap.size 55 3 1 (fun pre : List { x : Int // x ∈ r } => xs.length + pre.length) (fun pre : List { x : Int // x ∈ r } => xs.map (Value.int .i64) ++ pre.map (fun x => Value.int .i64 x.1)) (fun _ v => v.ownBlock = (Value.slice A xs.length cap).ownBlock ∨ ∃ b, v.ownBlock = some b ∧ w.heap.size < b)) _) (ownFrom_below hn (by omega)))
      (fun s A B row hs hg hr => ⟨fun k hk hne => (hg.block k (by have := hs.2; omega) (fun e => by have := (hr k e.symm).1; omega)).trans (hs.1 k hk hne), Nat.le_trans hs.2 hg.size⟩))
    (fun _ _ _ _ _ hs _ _ => hs)
    ⟨⟨⟨_, bO, by simpa using hro0, .inl rfl⟩, hB0.mono hn⟩, fun k hk _ => hB0.block k hk, by omega⟩
    (fun x => { tmps := #[(Value.slice A xs.length cap), .func (.func 51) #[] #[.pointer (some ⟨Bp + 2, 0, none⟩), .pointer (some ⟨Bp, 0, none⟩), .pointer (some ⟨Bp + 1, 0, none⟩)], .pointer (some ⟨w.heap.size, 0, none⟩), undef, .slice none 0 0, .int .i64 x.1, .func (.func 51) #[] #[.pointer (some ⟨Bp + 2, 0, none⟩), .pointer (some ⟨Bp, 0, none⟩), .pointer (some ⟨Bp + 1, 0, none⟩)], .int .i64 x.1, undef, undef, undef, undef, undef], defers := [] }) ?assign ?body ?done ?stop
  case assign =>
    intro l x W K hK
    gi_wp2
    exact hK
  case body =>
    rintro l pre x W ⟨⟨⟨v, hv, hrow, hob⟩, hB⟩, hKp, hS⟩ hlt
    have hc := hv.cell
    have g1 : some Bp ≠ v.ownBlock := by rcases hob with h | ⟨b, h, hb⟩ <;> rw [h] <;> first | exact hne1 | (intro e; cases e; omega)
    have g2 : some (Bp + 1) ≠ v.ownBlock := by rcases hob with h | ⟨b, h, hb⟩ <;> rw [h] <;> first | exact hne2 | (intro e; cases e; omega)
    gi_wp2_with (gi_at_builtin; refine wpListIn_append_at _ rfl _ _ 55 rfl n₀ 3 i0 (.int .i64 0) 1 8 Try.underlying55 hi hz0 hz1 hz2 rfl (by decide) _ _ _ rfl (hrow.alloc _) ⟨W.heap.size, 0, none⟩ 1 1 [.int .i64 x.1] rfl rfl (cell_one_new _ _ _) (by simp [Value.oneCell']) (by simp only [maxLen]; omega) (by omega) (by simp; omega) ?_; intro v' w1 hown' hgrow hat; obtain ⟨g', cap', rfl⟩ := ownsRow_succ hown'; obtain ⟨hv1, hv2, hr2, hk2, hb2⟩ := hv.appended (by decide) hrow (by omega) hn hown' hgrow; have hc1 := hv1.cell; have hf1 := hv1.frozen)
    refine ⟨hk2.from _, ⟨hb2, grow2 hgrow Bp (by omega) (by omega) g1, grow2 hgrow (Bp + 1) (by omega) (by omega) g2⟩, ⟨⟨_, hv2, by simpa [Nat.add_assoc] using hr2, ?_⟩, hB.trans hb2⟩, fun k hk hne => (grow2 hgrow k (by omega) (by omega) ?_).trans (hKp k hk hne), Nat.le_trans hS hk2.size⟩
    · rcases hat with h | h
      · rw [h]; exact hob
      · exact .inr ⟨_, h, by simp; omega⟩
    · show some k ≠ v.ownBlock
      rcases hob with h | ⟨b, h, hb⟩
      · rw [h]; exact hne
      · rw [h]; intro e; cases e; omega
  case done =>
    rintro D ys W hD hys ⟨⟨⟨v, hv, hrow, hob⟩, hB⟩, hKp, hS⟩ hK
    have hc := hv.cell
    gi_wp2
    refine ⟨by simp, .inl ⟨_, _, rfl, run_takeDeferred hK, ?_⟩⟩
    have hy1 : ys.map (fun x => Value.int .i64 x.1) = r.map (Value.int .i64) := by
      have h := congrArg (List.map (Value.int .i64)) hys
      rwa [List.map_map] at h
    have hy2 : ys.length = r.length := by
      have h := congrArg List.length hys
      simpa using h
    have hgb := grownBy_putObj' W D (.deferred none)
    have hDo : some D ≠ v.ownBlock := by
      intro e
      rcases hrow.2 with ⟨rfl, _⟩ | ⟨g, cap, cur, rfl, _, hgb, _⟩
      · simp [Value.ownBlock] at e
      · obtain rfl : D = g := by simpa [Value.ownBlock] using e
        rw [hgb] at hK; cases hK
    refine ⟨_, results_tmp rfl _ _ _, v, rfl, ?_, hB.trans (belowK_b (w := w) hn W D _ _ (by omega) hK rfl rfl), fun k hk hne => (World.putObj_heap_other (by omega)).trans (hKp k hk hne)⟩
    rw [List.map_append, ← hy1, List.length_append, ← hy2]
    exact ownsRow_putObj hrow _ hK rfl
  case stop =>
    rintro D c pre W _ _ h _
    exact h.elim
end
theorem box3 (W : World) (o1 o2 o3 : Obj) : (((W.alloc o1).alloc o2).alloc o3).heap[W.heap.size]? = some o1 ∧ (((W.alloc o1).alloc o2).alloc o3).heap[W.heap.size + 1]? = some o2 ∧ (((W.alloc o1).alloc o2).alloc o3).heap[W.heap.size + 2]? = some o3 ∧ (((W.alloc o1).alloc o2).alloc o3).heap.size = W.heap.size + 3 ∧ Below W.heap.size W (((W.alloc o1).alloc o2).alloc o3) := by
  have e2 := World.alloc_heap_new (W.alloc o1) o2
  have e3 := World.alloc_heap_new ((W.alloc o1).alloc o2) o3
  simp only [World.size_alloc] at e2 e3
  refine ⟨(Below.heap_alloc _ _ _ (by simp; omega)).trans ((Below.heap_alloc _ _ _ (by simp)).trans (World.alloc_heap_new W o1)), (Below.heap_alloc _ _ _ (by simp)).trans e2, e3, by simp, (((Below.refl _ W).alloc (Nat.le_refl _) _).alloc (by simp) _).alloc (by simp; omega) _⟩
theorem own_lt2 {w : World} {base n : Nat} {e : TypeId} {size : Nat} {v : Value} {xs : List Value} (h : w.ownsRow base e size v n xs) {k : Nat} (hk : w.heap.size ≤ k) : some k ≠ v.ownBlock := by
  rcases h.2 with ⟨rfl, _⟩ | ⟨g, cap, cur, rfl, _, hgb, _⟩
  · simp [Value.ownBlock]
  · intro e
    obtain rfl : k = g := by simpa [Value.ownBlock] using e
    have := (Array.getElem?_eq_some_iff.1 hgb).1
    omega
def dblN : Nat → Int → Int → Int
  | 0, n, _ => n
  | k + 1, n, m => if n < m then dblN k (n * 2) m else n
def bvL (n h : Int) : List S24 → Option (List Int)
  | [] => some []
  | v :: l => (value_Hash.f 1 [v]).bind fun h0 => (value_Hash.f 2 [v]).bind fun g1 => (bvL n h l).bind fun r => some (prL n (Go.bits .or .u64 g1 1) h.toNat h0 ++ r)
def bldN (l0 : List S24) (p : Int) : Int := dblN 10 64 ((l0.length : Int) * p)
def bldH (p : Int) : Int := mx 1 (wrap64 (Int.tdiv (wrap64 (p * 7)) 10))
def bloom_Build.f (k : Nat) (l0 : List S24) (a1 : Int) : Option (Int × Int × List Int) :=
  if a1 < 1 then some (0, 0, ([] : List Int))
  else if l0.length ≤ 1000 then
    (bitset_New.f (bldN l0 (mn a1 16))).bind fun _ => (bvL (bldN l0 (mn a1 16)) (bldH (mn a1 16)) l0).bind fun l =>
      if l.length ≤ 1000000 then (bitset_Of.f k (bldN l0 (mn a1 16)) l).bind fun b => some (bldH (mn a1 16), b.1, b.2) else none
  else none
theorem bloom_Build.mono (l0 : List S24) (a1 : Int) (k : Nat) : LeO (bloom_Build.f k l0 a1) (bloom_Build.f (k + 1) l0 a1) := by
  unfold bloom_Build.f
  repeat' first
  | (with_reducible exact bitset_Of.mono _ _ _)
  | (with_reducible exact LeO.refl _)
  | (with_reducible exact LeO.none _)
  | (with_reducible refine LeO.ite ?_ ?_)
  | (with_reducible refine LeO.bind ?_ (fun _ => ?_))
theorem mn16 (a : Int) (h : ¬ a < 1) : 1 ≤ mn a 16 ∧ mn a 16 ≤ 16 := by unfold mn; split <;> omega
theorem bldH_in (p : Int) (h1 : 1 ≤ p) (h2 : p ≤ 16) : 1 ≤ bldH p ∧ bldH p ≤ 11 := by
  have e1 : wrap64 (p * 7) = p * 7 := by unfold wrap64; omega
  have e2 : Int.tdiv (p * 7) 10 = p * 7 / 10 := Int.tdiv_eq_ediv_of_nonneg (by omega)
  have e3 : wrap64 (p * 7 / 10) = p * 7 / 10 := by unfold wrap64; omega
  unfold bldH mx
  rw [e1, e2, e3]
  split <;> omega
theorem dblN_in : ∀ (k : Nat) (n m : Int), 0 < n → m ≤ 16000 → n ≤ 32000 → 0 < dblN k n m ∧ dblN k n m ≤ 32000
  | 0, n, m, h1, h2, h3 => ⟨h1, h3⟩
  | k + 1, n, m, h1, h2, h3 => by
    unfold dblN
    by_cases c : n < m
    · rw [if_pos c]; exact dblN_in k (n * 2) m (by omega) h2 (by omega)
    · rw [if_neg c]; exact ⟨h1, h3⟩
section
open Go.Shelf
set_option maxHeartbeats 4000000 in
set_option maxRecDepth 100000 in
theorem bloom_Build.calls (k : Nat) (A0 : Option Addr) (c0 : Nat) (l0 : List S24) (a1 : Int) (r1 : Int) (r2 : Int) (r3 : List Int) (w : World) (hr0 : Kd.C k24 w A0 l0.length l0) (hc0 : l0.length ≤ c0) (h : bloom_Build.f k l0 a1 = some (r1, r2, r3)) :
    Calls Try.prog 11 #[.slice A0 l0.length c0, .int .i64 a1] w fun e w' => ∃ v2_ : Value, e = .returned (.agg #[.int .i64 r1, .int .i64 r2, v2_]) ∧ Kd.R (Kd.int .u64) 53 w' w.heap.size (fun _ => True) v2_ r3 ∧ Below w.heap.size w w' := by
  unfold bloom_Build.f at h
  have hu32 := Try.underlying32
  have hu30 := Try.underlying30
  have hu24 := Try.underlying24
  have b0 := blk_new w (.cells #[.int .i64 0, .int .i64 0, .slice none 0 0] 32 (0, 0))
  by_cases ha : a1 < 1
  · rw [if_pos ha] at h
    simp only [Option.some.injEq, Prod.mk.injEq] at h
    obtain ⟨rfl, rfl, rfl⟩ := h
    have ea : decide (a1 < 1) = true := decide_eq_true ha
    go_enter Try.func11, Try.ntmps11
    go_wp2
    refine bodyPost_ret (results_cell_row rfl _ _ w.heap.size 32 #[.int .i64 0, .int .i64 0, .slice none 0 0] (0, 0) _ rfl b0 Try.underlying32 rfl (by kernel_rfl)) rfl ?_
    exact ⟨_, rfl, Kd.R_nil _ _ _ _ _, below_alloc (Below.refl _ _) _⟩
  · rw [if_neg ha] at h
    have ea : decide (a1 < 1) = false := decide_eq_false ha
    by_cases hl : l0.length ≤ 1000
    case neg => rw [if_neg hl] at h; cases h
    rw [if_pos hl] at h
    obtain ⟨hp1, hp2⟩ := mn16 a1 ha
    obtain ⟨p, hp⟩ : ∃ p, p = mn a1 16 := ⟨_, rfl⟩
    rw [← hp] at h hp1 hp2
    have hp' : (if 16 < a1 then 16 else a1) = p := hp.symm
    obtain ⟨hH1, hH2⟩ := bldH_in p hp1 hp2
    obtain ⟨m, hm⟩ : ∃ m, m = (l0.length : Int) * p := ⟨_, rfl⟩
    have hm1 : m ≤ 16000 := by
      rw [hm]
      have := Int.mul_le_mul (show (l0.length : Int) ≤ 1000 by omega) hp2 (by omega) (by omega)
      omega
    have hm0 : 0 ≤ m := by rw [hm]; exact Int.mul_nonneg (by omega) (by omega)
    have hmw : IntKind.i64.wrap ((l0.length : Int) * p) = m := by rw [← hm]; exact IntWalk.i64_in _ (by omega)
    obtain ⟨hN1, hN2⟩ := dblN_in 10 64 m (by omega) hm1 (by omega)
    unfold bldN at h
    rw [← hm] at h
    obtain ⟨N, hN⟩ : ∃ N, N = dblN 10 64 m := ⟨_, rfl⟩
    obtain ⟨H, hH⟩ : ∃ H, H = bldH p := ⟨_, rfl⟩
    rw [← hN] at h hN1 hN2
    rw [← hH] at h hH1 hH2
    replace h := Option.bind_eq_some_iff.mp h
    obtain ⟨⟨nb1, nb2⟩, hNew, h⟩ := h
    replace h := Option.bind_eq_some_iff.mp h
    obtain ⟨tot, hTot, h⟩ := h
    by_cases hT : tot.length ≤ 1000000
    case neg => rw [if_neg hT] at h; cases h
    rw [if_pos hT] at h
    replace h := Option.bind_eq_some_iff.mp h
    obtain ⟨⟨o1, o2⟩, hOf, h⟩ := h
    simp only [Option.some.injEq, Prod.mk.injEq] at h
    obtain ⟨rfl, rfl, rfl⟩ := h
    unfold bldH at hH
    have hHm : (if 1 < p * 7 / 10 then p * 7 / 10 else 1) = H := by
      have e1 : wrap64 (p * 7) = p * 7 := by unfold wrap64; omega
      have e2 : Int.tdiv (p * 7) 10 = p * 7 / 10 := Int.tdiv_eq_ediv_of_nonneg (by omega)
      have e3 : wrap64 (p * 7 / 10) = p * 7 / 10 := by unfold wrap64; omega
      rw [e1, e2, e3] at hH
      exact hH.symm
    have HNew := Aside0.mk hNew
    have HTot := Aside0.mk hTot
    have HOf := Aside0.mk hOf
    have HR := Aside0.mk hr0
    have HL := Aside0.mk hl
    have HT := Aside0.mk hT
    have HN := Aside0.mk hN
    have HH := Aside0.mk hH
    clear hNew hTot hOf hr0 hl hT hN hH hp hm ha
    go_enter Try.func11, Try.ntmps11
    have hB0 : Below w.heap.size w (w.alloc (.cells #[.int .i64 0, .int .i64 0, .slice none 0 0] 32)) := below_alloc (Below.refl _ _) _
    go_wp2
    go_loopw [6] (fun v6 wr => ∃ (j : Nat) (y : Int), v6 = .int .i64 y ∧ j ≤ 10 ∧ Aside0 (y * 2 ^ j = 65536) ∧ 0 < y ∧ Aside0 (dblN j y m = N) ∧ Aside0 (wr.heap[w.heap.size]? = some (.cells #[.int .i64 0, .int .i64 0, .slice none 0 0] 32 (0, 0))) ∧ Aside0 (Below w.heap.size w wr)) (fun v6 _ => 70000 - (intOf v6).toNat)
    case atStart => exact ⟨10, 64, rfl, by omega, ⟨by decide⟩, by omega, ⟨HN.out.symm⟩, ⟨b0⟩, ⟨hB0⟩⟩
    case round =>
      clear b0 hB0
      obtain ⟨j, y, rfl, hj, hpw, hy, hd, HK0, HB0⟩ := hrel
      by_cases c : y < m
      · cases j with
        | zero => exact absurd hpw.out (by simp; omega)
        | succ j =>
          have hd2 : Aside0 (dblN j (y * 2) m = N) := ⟨by have := hd.out; unfold dblN at this; rwa [if_pos c] at this⟩
          have hpw2 : Aside0 (y * 2 * 2 ^ j = 65536) := ⟨by have := hpw.out; rw [Int.pow_succ] at this; rw [← this, Int.mul_assoc, Int.mul_comm 2]⟩
          have ew : IntKind.i64.wrap (y * 2) = y * 2 := IntWalk.i64_in _ (by omega)
          clear hd hpw
          go_wp2
          go_roundw
          case rel => exact ⟨j, y * 2, by simp, by omega, hpw2, by omega, hd2, HK0, HB0⟩
          case measure => simp [intOf]; omega
      · have hyN : y = N := by
          have := hd.out
          cases j with
          | zero => exact this
          | succ j => unfold dblN at this; rwa [if_neg c] at this
        subst hyN
        clear hd hpw
        go_wp2_with (go_at_call 25; (with_reducible refine (bitset_New.calls _ nb1 nb2 _ HNew.out).mono ?_); rintro e w1 ⟨v1, rfl, hv1, hb1⟩; obtain ⟨A1, c1, rfl⟩ := Kd.R_slice hv1; have hk1 := blk_below HK0.out hb1)
        have hlt1 := blk_lt hk1
        have hB1 : Below w.heap.size w (w1.alloc (.cells #[.int .i64 H, .int .i64 nb1, .slice A1 nb2.length c1] 32)) := below_alloc (below_step HB0.out hb1) _
        have hkA := blk_alloc hk1 (.cells #[.int .i64 H, .int .i64 nb1, .slice A1 nb2.length c1] 32)
        have hkF := blk_new w1 (.cells #[.int .i64 H, .int .i64 nb1, .slice A1 nb2.length c1] 32)
        go_loopw [8, 33] (fun v8 v33 wr => ∃ (i : Nat) (xs rest : List Int), i ≤ l0.length ∧ v33 = .int .i64 (i : Int) ∧ Aside0 (bvL y H (l0.drop i) = some rest) ∧ Aside0 (xs ++ rest = tot) ∧ Aside0 (wr.ownsRow w.heap.size 3 1 v8 xs.length (xs.map (Value.int .i64))) ∧ Aside0 (wr.heap[w.heap.size]? = some (.cells #[.int .i64 0, .int .i64 0, .slice none 0 0] 32 (0, 0))) ∧ Aside0 (wr.heap[w1.heap.size]? = some (.cells #[.int .i64 H, .int .i64 nb1, .slice A1 nb2.length c1] 32 (0, 0))) ∧ Aside0 (Below w.heap.size w wr)) (fun _ v33 _ => l0.length - (intOf v33).toNat)
        case atStart => exact ⟨0, [], tot, by omega, rfl, ⟨by simpa using HTot.out⟩, ⟨rfl⟩, ⟨World.ownsRow_nil _ _ _ _⟩, ⟨hkA⟩, ⟨hkF⟩, ⟨hB1⟩⟩
        case round =>
          clear hk1 hB1 hkA hkF hb1 hv1 HNew HK0 HB0 HTot
          obtain ⟨i, xs, rest, hi, rfl, hbv, htot, hrow, HK0, HKF, HB⟩ := hrel
          by_cases hlt : i < l0.length
          · have hlt' : (i : Int) < (l0.length : Int) := by omega
            have hip : (0 : Int) ≤ (i : Int) := Int.natCast_nonneg i
            obtain ⟨ad, hA0, q0, q1, q2⟩ := at_T24 (Kd.C_below HR.out HB.out) (i : Int) hip hlt'
            subst hA0
            obtain ⟨x, hx⟩ : ∃ x, x = rd_T24 l0 (i : Int) := ⟨_, rfl⟩
            rw [← hx] at q0 q1 q2
            rw [Int.toNat_natCast] at q0 q1 q2
            have hdrop : l0.drop i = x :: l0.drop (i + 1) := by
              rw [List.drop_eq_getElem_cons hlt, hx]
              unfold rd_T24
              rw [Int.toNat_natCast, List.getD_eq_getElem?_getD, List.getElem?_eq_getElem hlt]
              rfl
            have hb1 := hbv.out
            rw [hdrop] at hb1
            simp only [bvL] at hb1
            replace hb1 := Option.bind_eq_some_iff.mp hb1
            obtain ⟨h0, hH1, hb1⟩ := hb1
            replace hb1 := Option.bind_eq_some_iff.mp hb1
            obtain ⟨g1, hH2, hb1⟩ := hb1
            replace hb1 := Option.bind_eq_some_iff.mp hb1
            obtain ⟨r2, hr2, hb1⟩ := hb1
            have hb2 := Option.some.inj hb1
            obtain ⟨pr, hpr⟩ : ∃ pr, pr = prL y (Go.bits .or .u64 g1 1) (Int.toNat H) h0 := ⟨_, rfl⟩
            rw [← hpr] at hb2
            subst hb2
            have HX1 := Aside0.mk hH1
            have HX2 := Aside0.mk hH2
            have HX3 := Aside0.mk hpr
            have HX4 := Aside0.mk hr2
            have ewi : IntKind.i64.wrap ((i : Int) + 1) = ((i + 1 : Nat) : Int) := by rw [IntWalk.i64_in _ (by have := HL.out; omega)]; omega
            have hfa := blk_alloc HKF.out (.cells #[.int .i64 x.f0, .int .i64 x.f1, .string x.f2] 24)
            have f0 := (blk_cell hfa 0).trans rfl
            clear hbv hb1 hdrop hx hH1 hH2 hpr hr2
            have hsz := HB.out.size
            obtain ⟨wa, hwa⟩ : ∃ wa, wa = wr.alloc (.cells #[.int .i64 x.f0, .int .i64 x.f1, .string x.f2] 24) := ⟨_, rfl⟩
            have hsa : wa.heap.size = wr.heap.size + 1 := by rw [hwa]; simp
            have hba : Below wr.heap.size wr wa := by rw [hwa]; exact (Below.refl _ _).alloc (Nat.le_refl _) _
            have hra := hrow.out.alloc (.cells #[.int .i64 x.f0, .int .i64 x.f1, .string x.f2] 24)
            rw [← hwa] at hra
            obtain ⟨z1, z2, z3, z4, z5⟩ := box3 wa (.cells #[.int .i64 H] 3) (.cells #[.int .i64 y] 3) (.cells #[.int .i64 x.f0, .int .i64 x.f1, .string x.f2] 24)
            have hrb := ((hra.alloc (.cells #[.int .i64 H] 3)).alloc (.cells #[.int .i64 y] 3)).alloc (.cells #[.int .i64 x.f0, .int .i64 x.f1, .string x.f2] 24)
            have hlen : xs.length + pr.length ≤ 1000000 := by have := HT.out; rw [← htot.out] at this; simp at this; omega
            have n1 : some (wr.heap.size + 1) ≠ u8.ownBlock := own_lt2 hrow.out (by omega)
            have n2 : some (wr.heap.size + 1 + 1) ≠ u8.ownBlock := own_lt2 hrow.out (by omega)
            have n3 : some w.heap.size ≠ u8.ownBlock := own_ne hrow.out HK0.out (by decide)
            have n4 : some w1.heap.size ≠ u8.ownBlock := own_ne hrow.out HKF.out (by decide)
            have lk0 := (Array.getElem?_eq_some_iff.1 HK0.out).1
            have lkF := (Array.getElem?_eq_some_iff.1 HKF.out).1
            rw [hsa] at z1 z2 z3 z4
            have has := (callsIn_wide (n := 9)).1 (as_in w.heap.size (wr.heap.size + 1) x H y h0 g1 (by omega) (by omega) (by omega) HX1.out HX2.out pr HX3.out xs u8 _ z1 z2 z3 (by omega) hrb n1 n2 hlen)
            rw [hwa] at has
            have HAS := Aside0.mk has
            have HZ4 := Aside0.mk z4
            have HZ5 := Aside0.mk z5
            have HBA := Aside0.mk hba
            clear z1 z2 z3 z4 z5 hra hrb has hba hlen n1 n2
            go_wp2_with (first
              | (go_at_call 27; (with_reducible refine ((callsIn_wide (n := 8)).1 (pr_in H y x _)).mono ?_); rintro e w2 ⟨rfl, rfl⟩)
              | (go_at_call 26; refine HAS.out.mono ?_; rintro e w3 ⟨v3, rfl, hrow3, hB3, hkeep3⟩))
            have hBW := HB.out.trans ((HBA.out.mono (by omega)).trans (HZ5.out.mono (by omega)))
            rw [hwa] at HZ5 HBA HZ4
            go_roundw
            case rel => exact ⟨i + 1, xs ++ pr, r2, by omega, by simp, HX4, ⟨by have := htot.out; simpa using this⟩, ⟨hrow3⟩, ⟨((hkeep3 _ (by have := HZ4.out; omega) n3).trans ((HZ5.out.block _ (by simp; omega)).trans (HBA.out.block _ lk0))).trans HK0.out⟩, ⟨((hkeep3 _ (by have := HZ4.out; omega) n4).trans ((HZ5.out.block _ (by simp; omega)).trans (HBA.out.block _ lkF))).trans HKF.out⟩, ⟨by rw [hwa] at hBW; exact hBW.trans hB3⟩⟩
            case measure => simp [intOf]; omega
          · obtain rfl : i = l0.length := by omega
            have hbv0 := hbv.out
            rw [List.drop_length] at hbv0
            have hrest := Option.some.inj hbv0
            subst hrest
            have htt := htot.out
            rw [List.append_nil] at htt
            subst htt
            obtain ⟨A8, c8, hu8⟩ := own_slice hrow.out
            subst hu8
            have hR8 : Kd.R (Kd.int .i64) 3 wr w.heap.size (fun _ => True) (.slice A8 xs.length c8) xs := Kd.R_of_own (enc := Value.int .i64) (h1 := fun _ => rfl) hrow.out (fun _ _ => trivial)
            obtain ⟨_, hle8, hC8⟩ := Kd.R_reads' hR8
            have HC8 := Aside0.mk hC8
            have HL8 := Aside0.mk hle8
            have hsz := HB.out.size
            have lk0 := (Array.getElem?_eq_some_iff.1 HK0.out).1
            have lkF := (Array.getElem?_eq_some_iff.1 HKF.out).1
            have hne1 : w.heap.size ≠ w1.heap.size := by omega
            have hne2 : w1.heap.size ≠ w.heap.size := by omega
            clear hbv hbv0 htot hC8 hle8 hR8 hrow
            go_wp2_with (go_at_call 28; (with_reducible refine (bitset_Of.calls k y A8 c8 xs o1 o2 _ HC8.out HL8.out HOf.out).mono ?_); rintro e w4 ⟨v4, rfl, hv4, hb4⟩; obtain ⟨A4, c4, rfl⟩ := Kd.R_slice hv4; have hk4 := blk_below HK0.out hb4; have hf4 := blk_below HKF.out hb4; have d0 := (blk_cell hk4 0).trans rfl; have d1 := (blk_cell hk4 1).trans rfl; have d2 := (blk_cell hk4 2).trans rfl; have g0 := blk_frozen hk4 0; have g1 := blk_frozen hk4 1; have g2 := blk_frozen hk4 2; have k0 := (blk_cell hf4 0).trans rfl; have k1 := (blk_cell hf4 1).trans rfl; have k2 := (blk_cell hf4 2).trans rfl; have l0_ := blk_frozen hf4 0; have l1_ := blk_frozen hf4 1; have l2_ := blk_frozen hf4 2)
            refine bodyPost_ret (results_cell_row rfl _ _ w.heap.size 32 #[.int .i64 H, .int .i64 o1, .slice A4 o2.length c4] (0, 0) _ rfl (by refine blk_put (cs := #[.int .i64 H, .int .i64 o1, .slice none 0 0]) ?_ 2 _ rfl; refine blk_put (cs := #[.int .i64 H, .int .i64 0, .slice none 0 0]) ?_ 1 _ rfl; refine blk_put (cs := #[.int .i64 0, .int .i64 0, .slice none 0 0]) ?_ 0 _ rfl; refine blk_far ?_ hne1 _; refine blk_far ?_ hne1 _; exact hk4) Try.underlying32 rfl (by kernel_rfl)) rfl ?_
            refine ⟨_, rfl, ?_, ?_⟩
            · have hR := Kd.R_types (Kd.R_types hv4 hk4 (by decide)) hf4 (by decide)
              have hR2 := Kd.R_far (p := ⟨w.heap.size, 2, none⟩) (Kd.R_far (p := ⟨w.heap.size, 1, none⟩) (Kd.R_far (p := ⟨w.heap.size, 0, none⟩) (Kd.R_far (p := ⟨w1.heap.size, 2, none⟩) (Kd.R_far (p := ⟨w1.heap.size, 1, none⟩) hR (fun _ hk => hk.2) (.int .i64 o1)) (fun _ hk => hk.2) (.slice A4 o2.length c4)) (fun _ hk => hk.1.2) (.int .i64 H)) (fun _ hk => hk.1.2) (.int .i64 o1)) (fun _ hk => hk.1.2) (.slice A4 o2.length c4)
              exact Kd.R_mono (Kd.R_lower hR2 hsz) (fun _ _ => trivial)
            · exact below_set (below_set (below_set (below_set (below_set (below_step HB.out hb4) (by omega)) (by omega)) (Nat.le_refl _)) (Nat.le_refl _)) (Nat.le_refl _)
end

/-! ### laminalaw15_one: function 24 -/
def laminalaw15_one.f  : Option (Int × Int × ByteArray) := some (2, 1, (⟨#[]⟩ : ByteArray))
set_option maxHeartbeats 8000000 in
set_option maxRecDepth 100000 in
theorem laminalaw15_one.calls  (r1 : Int) (r2 : Int) (r3 : ByteArray) (w : World) (h : laminalaw15_one.f  = some (r1, r2, r3)) :
  Calls Try.prog 24 #[] w fun e w' => e = .returned (.agg #[.int .i64 r1, .int .i64 r2, .string r3]) ∧ Below w.heap.size w w' := by
 have hu24 := Try.underlying24
 have HB := Aside0.mk (Below.refl w.heap.size w)
 have H : (some (2, 1, (⟨#[]⟩ : ByteArray))) = some (r1, r2, r3) := h
 clear h
 simp only [Option.some.injEq, Prod.mk.injEq] at H
 obtain ⟨rfl, rfl, rfl⟩ := H
 go_enter Try.func24, Try.ntmps24
 go_wp2_with (first | ((with_reducible refine gate_dst (N := 0) rfl ?_); refine box_event ?hg (N := 0) ?hd (cs := #[.int .i64 0, .int .i64 0, .string (⟨#[]⟩ : ByteArray)]) (t := 24) ?hr ?_; (case hd => rfl); (case hg => (first | rfl | (simp only [*]; rfl) | (simp [*]; done))); (case hr => first | (go_simp; done) | (go_simp; rfl)); intro gb126 hg w1 hbox hb; have n0_ := Aside0.mk (below_step (by repeat (first | (with_reducible first | exact HB.out | apply below_alloc | apply pw_below_drewN | apply below_drew1) | exact HB.out)) hb); have n1_ := Aside0.mk (hbox); have n2_ := Aside0.mk ((by rw [hg]; exact (below_size (by repeat (first | (with_reducible first | exact HB.out | apply below_alloc | apply pw_below_drewN | apply below_drew1) | exact HB.out))) : w.heap.size ≤ gb126)); have n3_ := Aside0.mk ((by rw [hg]; exact (below_size (by repeat (first | (with_reducible first | exact HB.out | apply below_alloc | apply pw_below_drewN | apply below_drew1) | exact HB.out))) : w.heap.size ≤ gb126)); clear HB; have HB := n0_; have BK126 := n1_; have GW126 := n2_; have GE126 := n3_; clear n0_ n1_ n2_ n3_; clear hb hbox hg; have hcz2_0 : w1.cell? ⟨gb126, 0, none⟩ = some (.int .i64 0) := (blk_cell BK126.out 0).trans rfl; have hcz2_1 : w1.cell? ⟨gb126, 1, none⟩ = some (.int .i64 0) := (blk_cell BK126.out 1).trans rfl; have hcz2_2 : w1.cell? ⟨gb126, 2, none⟩ = some (.string (⟨#[]⟩ : ByteArray)) := (blk_cell BK126.out 2).trans rfl; have hfz2_0 := blk_frozen BK126.out 0; have hfz2_1 := blk_frozen BK126.out 1; have hfz2_2 := blk_frozen BK126.out 2))
 refine bodyPost_ret (results_cell_row rfl _ _ gb126 24 #[.int .i64 2, .int .i64 1, .string (⟨#[]⟩ : ByteArray)] (0, 0) _ rfl (by (with_reducible repeat (first | refine blk_drewN ?_ _ | refine blk_drew ?_ | refine blk_alloc ?_ _)); refine blk_put (cs := #[.int .i64 2, .int .i64 1, .string (⟨#[]⟩ : ByteArray)]) ?_ 2 _ rfl; (with_reducible repeat (first | refine blk_drewN ?_ _ | refine blk_drew ?_ | refine blk_alloc ?_ _)); refine blk_put (cs := #[.int .i64 2, .int .i64 0, .string (⟨#[]⟩ : ByteArray)]) ?_ 1 _ rfl; (with_reducible repeat (first | refine blk_drewN ?_ _ | refine blk_drew ?_ | refine blk_alloc ?_ _)); refine blk_put (cs := #[.int .i64 0, .int .i64 0, .string (⟨#[]⟩ : ByteArray)]) ?_ 0 _ rfl; (with_reducible repeat (first | refine blk_drewN ?_ _ | refine blk_drew ?_ | refine blk_alloc ?_ _)); exact BK126.out) Try.underlying24 rfl (by kernel_rfl)) rfl ?_
 exact ⟨by first | rfl | (simp [errW_none, errW_some] <;> rfl) | (simp [*, errW_none, errW_some] <;> rfl), by repeat (first | (with_reducible first | exact HB.out | apply below_alloc | apply pw_below_drewN | apply below_drew1 | refine below_set ?_ GE126.out) | exact HB.out)⟩

end Go.Proofs.Ytjeheopcohnkeaa.QBloomContains
