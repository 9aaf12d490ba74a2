-- Written by a program of this session (wip/pr2.sh): the walk of the Go text, function by function.
import Derived.Test.YtfonjlolliiaeaaDoorQDelvecAppliesx0
namespace Go.Proofs.YtfonjlolliiaeaaDoor.QDelvecApplies
open Go.RowKit Go.Proofs.YtfonjlolliiaeaaDoorW.PrintWords Go.Proofs.YtfonjlolliiaeaaDoorW.PrintLast Go.Proofs.YtfonjlolliiaeaaDoorW.PrintMore
open Go.Proofs.YtfonjlolliiaeaaDoorM
attribute [local go_sem] max2_int min2_int max_two min_two max_three min_three max_four min_four   -- for this text's walks alone
set_option linter.unusedVariables false
set_option linter.unusedSimpArgs false

/-! ### laminaref03_Valid: function 26 -/
def laminaref03_Valid.f (a0_0 : Int) (l0_1 : List Int) : Option (Bool) := if a0_0 < 0 then (some false) else (if a0_0 > 1048576 then (some false) else (if (l0_1.length : Int) = (wrap64 (Int.tdiv (wrap64 (a0_0 + 63)) 64)) then (if (Int.tmod a0_0 64) = 0 then (some true) else (if 0 ≤ (wrap64 ((l0_1.length : Int) - 1)) then (if (wrap64 ((l0_1.length : Int) - 1)) < (l0_1.length : Int) then (if 0 ≤ (IntKind.u64.wrap (Int.tmod a0_0 64)) then (some ((shr .u64 (rd l0_1 (wrap64 ((l0_1.length : Int) - 1))) (IntKind.u64.wrap (Int.tmod a0_0 64))) == 0)) else (none)) else (none)) else (none))) else (some false)))
set_option maxHeartbeats 8000000 in
set_option maxRecDepth 100000 in
theorem laminaref03_Valid.calls (a0_0 : Int) (A0_1 : Option Addr) (c0_1 : Nat) (l0_1 : List Int) (r : Bool) (w : World) (hr0_1 : Kd.C (Kd.int .u64) w A0_1 l0_1.length l0_1) (hc0_1 : l0_1.length ≤ c0_1) (h : laminaref03_Valid.f a0_0 l0_1 = some r) :
  Calls Tryd.prog 26 #[.agg #[.int .i64 a0_0, .slice A0_1 l0_1.length c0_1]] w fun e w' => e = .returned (.bool r) ∧ Below w.heap.size w w' := by
 have hu24 := Tryd.underlying24
 have HR0_1 := Aside0.mk hr0_1
 have HC0_1 := Aside0.mk hc0_1
 clear hr0_1 hc0_1
 have HB := Aside0.mk (Below.refl w.heap.size w)
 have H : (if a0_0 < 0 then (some false) else (if a0_0 > 1048576 then (some false) else (if (l0_1.length : Int) = (wrap64 (Int.tdiv (wrap64 (a0_0 + 63)) 64)) then (if (Int.tmod a0_0 64) = 0 then (some true) else (if 0 ≤ (wrap64 ((l0_1.length : Int) - 1)) then (if (wrap64 ((l0_1.length : Int) - 1)) < (l0_1.length : Int) then (if 0 ≤ (IntKind.u64.wrap (Int.tmod a0_0 64)) then (some ((shr .u64 (rd l0_1 (wrap64 ((l0_1.length : Int) - 1))) (IntKind.u64.wrap (Int.tmod a0_0 64))) == 0)) else (none)) else (none)) else (none))) else (some false)))) = some r := h
 clear h
 by_cases c2 : a0_0 < 0
 ·rw [if_pos c2] at H
  have c2b0 : decide (a0_0 < 0) = true := decide_eq_true c2
  clear c2
  obtain rfl := Option.some.inj H
  go_enter Tryd.func26, Tryd.ntmps26
  go_wp2_with (first | ((with_reducible refine gate_dst (N := 1) rfl ?_); (try (refine gate_guard (by rfl) ?_; dsimp only)); refine box_event ?hg (N := 1) ?hd (cs := #[.int .i64 a0_0, .slice A0_1 l0_1.length c0_1]) (t := 24) ?hr ?_; (case hd => rfl); (case hg => (first | rfl | (simp only [*]; rfl) | (simp [*]; done))); (case hr => first | (go_simp; done) | (go_simp; rfl)); intro gb101 hg w3 hbox hb; have n0_ := Aside0.mk (below_step (by repeat (first | (with_reducible first | exact HB.out | apply below_alloc | apply pw_below_drewN | apply below_drew1) | exact HB.out)) hb); have n1_ := Aside0.mk (hbox); have n2_ := Aside0.mk ((by rw [hg]; exact (below_size (by repeat (first | (with_reducible first | exact HB.out | apply below_alloc | apply pw_below_drewN | apply below_drew1) | exact HB.out))) : w.heap.size ≤ gb101)); have n3_ := Aside0.mk ((by rw [hg]; exact (below_size (by repeat (first | (with_reducible first | exact HB.out | apply below_alloc | apply pw_below_drewN | apply below_drew1) | exact HB.out))) : w.heap.size ≤ gb101)); clear HB; have HB := n0_; have BK101 := n1_; have GW101 := n2_; have GE101 := n3_; clear n0_ n1_ n2_ n3_; clear hb hbox hg; have hcz4_0 : w3.cell? ⟨gb101, 0, none⟩ = some (.int .i64 a0_0) := (blk_cell BK101.out 0).trans rfl; have hcz4_1 : w3.cell? ⟨gb101, 1, none⟩ = some (.slice A0_1 l0_1.length c0_1) := (blk_cell BK101.out 1).trans rfl; have hfz4_0 := blk_frozen BK101.out 0; have hfz4_1 := blk_frozen BK101.out 1))
  repeat (go_quiet (first | ((with_reducible refine gate_dst (N := 1) rfl ?_); (try (refine gate_guard (by rfl) ?_; dsimp only)); refine box_event ?hg (N := 1) ?hd (cs := #[.int .i64 a0_0, .slice A0_1 l0_1.length c0_1]) (t := 24) ?hr ?_; (case hd => rfl); (case hg => (first | rfl | (simp only [*]; rfl) | (simp [*]; done))); (case hr => first | (go_simp; done) | (go_simp; rfl)); intro gb101 hg w3 hbox hb; have n0_ := Aside0.mk (below_step (by repeat (first | (with_reducible first | exact HB.out | apply below_alloc | apply pw_below_drewN | apply below_drew1) | exact HB.out)) hb); have n1_ := Aside0.mk (hbox); have n2_ := Aside0.mk ((by rw [hg]; exact (below_size (by repeat (first | (with_reducible first | exact HB.out | apply below_alloc | apply pw_below_drewN | apply below_drew1) | exact HB.out))) : w.heap.size ≤ gb101)); have n3_ := Aside0.mk ((by rw [hg]; exact (below_size (by repeat (first | (with_reducible first | exact HB.out | apply below_alloc | apply pw_below_drewN | apply below_drew1) | exact HB.out))) : w.heap.size ≤ gb101)); clear HB; have HB := n0_; have BK101 := n1_; have GW101 := n2_; have GE101 := n3_; clear n0_ n1_ n2_ n3_; clear hb hbox hg; have hcz4_0 : w3.cell? ⟨gb101, 0, none⟩ = some (.int .i64 a0_0) := (blk_cell BK101.out 0).trans rfl; have hcz4_1 : w3.cell? ⟨gb101, 1, none⟩ = some (.slice A0_1 l0_1.length c0_1) := (blk_cell BK101.out 1).trans rfl; have hfz4_0 := blk_frozen BK101.out 0; have hfz4_1 := blk_frozen BK101.out 1)); try go_wp2_with (first | ((with_reducible refine gate_dst (N := 1) rfl ?_); (try (refine gate_guard (by rfl) ?_; dsimp only)); refine box_event ?hg (N := 1) ?hd (cs := #[.int .i64 a0_0, .slice A0_1 l0_1.length c0_1]) (t := 24) ?hr ?_; (case hd => rfl); (case hg => (first | rfl | (simp only [*]; rfl) | (simp [*]; done))); (case hr => first | (go_simp; done) | (go_simp; rfl)); intro gb101 hg w3 hbox hb; have n0_ := Aside0.mk (below_step (by repeat (first | (with_reducible first | exact HB.out | apply below_alloc | apply pw_below_drewN | apply below_drew1) | exact HB.out)) hb); have n1_ := Aside0.mk (hbox); have n2_ := Aside0.mk ((by rw [hg]; exact (below_size (by repeat (first | (with_reducible first | exact HB.out | apply below_alloc | apply pw_below_drewN | apply below_drew1) | exact HB.out))) : w.heap.size ≤ gb101)); have n3_ := Aside0.mk ((by rw [hg]; exact (below_size (by repeat (first | (with_reducible first | exact HB.out | apply below_alloc | apply pw_below_drewN | apply below_drew1) | exact HB.out))) : w.heap.size ≤ gb101)); clear HB; have HB := n0_; have BK101 := n1_; have GW101 := n2_; have GE101 := n3_; clear n0_ n1_ n2_ n3_; clear hb hbox hg; have hcz4_0 : w3.cell? ⟨gb101, 0, none⟩ = some (.int .i64 a0_0) := (blk_cell BK101.out 0).trans rfl; have hcz4_1 : w3.cell? ⟨gb101, 1, none⟩ = some (.slice A0_1 l0_1.length c0_1) := (blk_cell BK101.out 1).trans rfl; have hfz4_0 := blk_frozen BK101.out 0; have hfz4_1 := blk_frozen BK101.out 1)))
  go_ret
  exact ⟨by first | rfl | (simp [errW_none, errW_some] <;> rfl) | (simp [*, errW_none, errW_some] <;> rfl), by repeat (first | (with_reducible first | exact HB.out | apply below_alloc | apply pw_below_drewN | apply below_drew1 | refine below_set ?_ GE101.out) | exact HB.out)⟩
 ·rw [if_neg c2] at H
  have c2b0 : decide (a0_0 < 0) = false := decide_eq_false c2
  clear c2
  by_cases c5 : a0_0 > 1048576
  ·rw [if_pos c5] at H
   have c5b0 : decide (1048576 < a0_0) = true := decide_eq_true c5
   clear c5
   obtain rfl := Option.some.inj H
   go_enter Tryd.func26, Tryd.ntmps26
   go_wp2_with (first | ((with_reducible refine gate_dst (N := 1) rfl ?_); (try (refine gate_guard (by rfl) ?_; dsimp only)); refine box_event ?hg (N := 1) ?hd (cs := #[.int .i64 a0_0, .slice A0_1 l0_1.length c0_1]) (t := 24) ?hr ?_; (case hd => rfl); (case hg => (first | rfl | (simp only [*]; rfl) | (simp [*]; done))); (case hr => first | (go_simp; done) | (go_simp; rfl)); intro gb101 hg w6 hbox hb; have n0_ := Aside0.mk (below_step (by repeat (first | (with_reducible first | exact HB.out | apply below_alloc | apply pw_below_drewN | apply below_drew1) | exact HB.out)) hb); have n1_ := Aside0.mk (hbox); have n2_ := Aside0.mk ((by rw [hg]; exact (below_size (by repeat (first | (with_reducible first | exact HB.out | apply below_alloc | apply pw_below_drewN | apply below_drew1) | exact HB.out))) : w.heap.size ≤ gb101)); have n3_ := Aside0.mk ((by rw [hg]; exact (below_size (by repeat (first | (with_reducible first | exact HB.out | apply below_alloc | apply pw_below_drewN | apply below_drew1) | exact HB.out))) : w.heap.size ≤ gb101)); clear HB; have HB := n0_; have BK101 := n1_; have GW101 := n2_; have GE101 := n3_; clear n0_ n1_ n2_ n3_; clear hb hbox hg; have hcz7_0 : w6.cell? ⟨gb101, 0, none⟩ = some (.int .i64 a0_0) := (blk_cell BK101.out 0).trans rfl; have hcz7_1 : w6.cell? ⟨gb101, 1, none⟩ = some (.slice A0_1 l0_1.length c0_1) := (blk_cell BK101.out 1).trans rfl; have hfz7_0 := blk_frozen BK101.out 0; have hfz7_1 := blk_frozen BK101.out 1))
   repeat (go_quiet (first | ((with_reducible refine gate_dst (N := 1) rfl ?_); (try (refine gate_guard (by rfl) ?_; dsimp only)); refine box_event ?hg (N := 1) ?hd (cs := #[.int .i64 a0_0, .slice A0_1 l0_1.length c0_1]) (t := 24) ?hr ?_; (case hd => rfl); (case hg => (first | rfl | (simp only [*]; rfl) | (simp [*]; done))); (case hr => first | (go_simp; done) | (go_simp; rfl)); intro gb101 hg w6 hbox hb; have n0_ := Aside0.mk (below_step (by repeat (first | (with_reducible first | exact HB.out | apply below_alloc | apply pw_below_drewN | apply below_drew1) | exact HB.out)) hb); have n1_ := Aside0.mk (hbox); have n2_ := Aside0.mk ((by rw [hg]; exact (below_size (by repeat (first | (with_reducible first | exact HB.out | apply below_alloc | apply pw_below_drewN | apply below_drew1) | exact HB.out))) : w.heap.size ≤ gb101)); have n3_ := Aside0.mk ((by rw [hg]; exact (below_size (by repeat (first | (with_reducible first | exact HB.out | apply below_alloc | apply pw_below_drewN | apply below_drew1) | exact HB.out))) : w.heap.size ≤ gb101)); clear HB; have HB := n0_; have BK101 := n1_; have GW101 := n2_; have GE101 := n3_; clear n0_ n1_ n2_ n3_; clear hb hbox hg; have hcz7_0 : w6.cell? ⟨gb101, 0, none⟩ = some (.int .i64 a0_0) := (blk_cell BK101.out 0).trans rfl; have hcz7_1 : w6.cell? ⟨gb101, 1, none⟩ = some (.slice A0_1 l0_1.length c0_1) := (blk_cell BK101.out 1).trans rfl; have hfz7_0 := blk_frozen BK101.out 0; have hfz7_1 := blk_frozen BK101.out 1)); try go_wp2_with (first | ((with_reducible refine gate_dst (N := 1) rfl ?_); (try (refine gate_guard (by rfl) ?_; dsimp only)); refine box_event ?hg (N := 1) ?hd (cs := #[.int .i64 a0_0, .slice A0_1 l0_1.length c0_1]) (t := 24) ?hr ?_; (case hd => rfl); (case hg => (first | rfl | (simp only [*]; rfl) | (simp [*]; done))); (case hr => first | (go_simp; done) | (go_simp; rfl)); intro gb101 hg w6 hbox hb; have n0_ := Aside0.mk (below_step (by repeat (first | (with_reducible first | exact HB.out | apply below_alloc | apply pw_below_drewN | apply below_drew1) | exact HB.out)) hb); have n1_ := Aside0.mk (hbox); have n2_ := Aside0.mk ((by rw [hg]; exact (below_size (by repeat (first | (with_reducible first | exact HB.out | apply below_alloc | apply pw_below_drewN | apply below_drew1) | exact HB.out))) : w.heap.size ≤ gb101)); have n3_ := Aside0.mk ((by rw [hg]; exact (below_size (by repeat (first | (with_reducible first | exact HB.out | apply below_alloc | apply pw_below_drewN | apply below_drew1) | exact HB.out))) : w.heap.size ≤ gb101)); clear HB; have HB := n0_; have BK101 := n1_; have GW101 := n2_; have GE101 := n3_; clear n0_ n1_ n2_ n3_; clear hb hbox hg; have hcz7_0 : w6.cell? ⟨gb101, 0, none⟩ = some (.int .i64 a0_0) := (blk_cell BK101.out 0).trans rfl; have hcz7_1 : w6.cell? ⟨gb101, 1, none⟩ = some (.slice A0_1 l0_1.length c0_1) := (blk_cell BK101.out 1).trans rfl; have hfz7_0 := blk_frozen BK101.out 0; have hfz7_1 := blk_frozen BK101.out 1)))
   go_ret
   exact ⟨by first | rfl | (simp [errW_none, errW_some] <;> rfl) | (simp [*, errW_none, errW_some] <;> rfl), by repeat (first | (with_reducible first | exact HB.out | apply below_alloc | apply pw_below_drewN | apply below_drew1 | refine below_set ?_ GE101.out) | exact HB.out)⟩
  ·rw [if_neg c5] at H
   have c5b0 : decide (1048576 < a0_0) = false := decide_eq_false c5
   clear c5
   by_cases c8 : (l0_1.length : Int) = (wrap64 (Int.tdiv (wrap64 (a0_0 + 63)) 64))
   ·rw [if_pos c8] at H
    have c8b0 : ((l0_1.length : Int) == (wrap64 (Int.tdiv (wrap64 (a0_0 + 63)) 64))) = true := beq_iff_eq.mpr c8
    have c8b1 : ((l0_1.length : Int) != (wrap64 (Int.tdiv (wrap64 (a0_0 + 63)) 64))) = false := bne_eq_false_iff_eq.mpr c8
    clear c8
    by_cases c9 : (Int.tmod a0_0 64) = 0
    ·rw [if_pos c9] at H
     have c9b0 : ((Int.tmod a0_0 64) == 0) = true := beq_iff_eq.mpr c9
     have c9b1 : ((Int.tmod a0_0 64) != 0) = false := bne_eq_false_iff_eq.mpr c9
     clear c9
     obtain rfl := Option.some.inj H
     go_enter Tryd.func26, Tryd.ntmps26
     go_wp2_with (first | ((with_reducible refine gate_dst (N := 1) rfl ?_); (try (refine gate_guard (by rfl) ?_; dsimp only)); refine box_event ?hg (N := 1) ?hd (cs := #[.int .i64 a0_0, .slice A0_1 l0_1.length c0_1]) (t := 24) ?hr ?_; (case hd => rfl); (case hg => (first | rfl | (simp only [*]; rfl) | (simp [*]; done))); (case hr => first | (go_simp; done) | (go_simp; rfl)); intro gb101 hg w10 hbox hb; have n0_ := Aside0.mk (below_step (by repeat (first | (with_reducible first | exact HB.out | apply below_alloc | apply pw_below_drewN | apply below_drew1) | exact HB.out)) hb); have n1_ := Aside0.mk (hbox); have n2_ := Aside0.mk ((by rw [hg]; exact (below_size (by repeat (first | (with_reducible first | exact HB.out | apply below_alloc | apply pw_below_drewN | apply below_drew1) | exact HB.out))) : w.heap.size ≤ gb101)); have n3_ := Aside0.mk ((by rw [hg]; exact (below_size (by repeat (first | (with_reducible first | exact HB.out | apply below_alloc | apply pw_below_drewN | apply below_drew1) | exact HB.out))) : w.heap.size ≤ gb101)); clear HB; have HB := n0_; have BK101 := n1_; have GW101 := n2_; have GE101 := n3_; clear n0_ n1_ n2_ n3_; clear hb hbox hg; have hcz11_0 : w10.cell? ⟨gb101, 0, none⟩ = some (.int .i64 a0_0) := (blk_cell BK101.out 0).trans rfl; have hcz11_1 : w10.cell? ⟨gb101, 1, none⟩ = some (.slice A0_1 l0_1.length c0_1) := (blk_cell BK101.out 1).trans rfl; have hfz11_0 := blk_frozen BK101.out 0; have hfz11_1 := blk_frozen BK101.out 1))
     repeat (go_quiet (first | ((with_reducible refine gate_dst (N := 1) rfl ?_); (try (refine gate_guard (by rfl) ?_; dsimp only)); refine box_event ?hg (N := 1) ?hd (cs := #[.int .i64 a0_0, .slice A0_1 l0_1.length c0_1]) (t := 24) ?hr ?_; (case hd => rfl); (case hg => (first | rfl | (simp only [*]; rfl) | (simp [*]; done))); (case hr => first | (go_simp; done) | (go_simp; rfl)); intro gb101 hg w10 hbox hb; have n0_ := Aside0.mk (below_step (by repeat (first | (with_reducible first | exact HB.out | apply below_alloc | apply pw_below_drewN | apply below_drew1) | exact HB.out)) hb); have n1_ := Aside0.mk (hbox); have n2_ := Aside0.mk ((by rw [hg]; exact (below_size (by repeat (first | (with_reducible first | exact HB.out | apply below_alloc | apply pw_below_drewN | apply below_drew1) | exact HB.out))) : w.heap.size ≤ gb101)); have n3_ := Aside0.mk ((by rw [hg]; exact (below_size (by repeat (first | (with_reducible first | exact HB.out | apply below_alloc | apply pw_below_drewN | apply below_drew1) | exact HB.out))) : w.heap.size ≤ gb101)); clear HB; have HB := n0_; have BK101 := n1_; have GW101 := n2_; have GE101 := n3_; clear n0_ n1_ n2_ n3_; clear hb hbox hg; have hcz11_0 : w10.cell? ⟨gb101, 0, none⟩ = some (.int .i64 a0_0) := (blk_cell BK101.out 0).trans rfl; have hcz11_1 : w10.cell? ⟨gb101, 1, none⟩ = some (.slice A0_1 l0_1.length c0_1) := (blk_cell BK101.out 1).trans rfl; have hfz11_0 := blk_frozen BK101.out 0; have hfz11_1 := blk_frozen BK101.out 1)); try go_wp2_with (first | ((with_reducible refine gate_dst (N := 1) rfl ?_); (try (refine gate_guard (by rfl) ?_; dsimp only)); refine box_event ?hg (N := 1) ?hd (cs := #[.int .i64 a0_0, .slice A0_1 l0_1.length c0_1]) (t := 24) ?hr ?_; (case hd => rfl); (case hg => (first | rfl | (simp only [*]; rfl) | (simp [*]; done))); (case hr => first | (go_simp; done) | (go_simp; rfl)); intro gb101 hg w10 hbox hb; have n0_ := Aside0.mk (below_step (by repeat (first | (with_reducible first | exact HB.out | apply below_alloc | apply pw_below_drewN | apply below_drew1) | exact HB.out)) hb); have n1_ := Aside0.mk (hbox); have n2_ := Aside0.mk ((by rw [hg]; exact (below_size (by repeat (first | (with_reducible first | exact HB.out | apply below_alloc | apply pw_below_drewN | apply below_drew1) | exact HB.out))) : w.heap.size ≤ gb101)); have n3_ := Aside0.mk ((by rw [hg]; exact (below_size (by repeat (first | (with_reducible first | exact HB.out | apply below_alloc | apply pw_below_drewN | apply below_drew1) | exact HB.out))) : w.heap.size ≤ gb101)); clear HB; have HB := n0_; have BK101 := n1_; have GW101 := n2_; have GE101 := n3_; clear n0_ n1_ n2_ n3_; clear hb hbox hg; have hcz11_0 : w10.cell? ⟨gb101, 0, none⟩ = some (.int .i64 a0_0) := (blk_cell BK101.out 0).trans rfl; have hcz11_1 : w10.cell? ⟨gb101, 1, none⟩ = some (.slice A0_1 l0_1.length c0_1) := (blk_cell BK101.out 1).trans rfl; have hfz11_0 := blk_frozen BK101.out 0; have hfz11_1 := blk_frozen BK101.out 1)))
     go_ret
     exact ⟨by first | rfl | (simp [errW_none, errW_some] <;> rfl) | (simp [*, errW_none, errW_some] <;> rfl), by repeat (first | (with_reducible first | exact HB.out | apply below_alloc | apply pw_below_drewN | apply below_drew1 | refine below_set ?_ GE101.out) | exact HB.out)⟩
    ·rw [if_neg c9] at H
     have c9b0 : ((Int.tmod a0_0 64) == 0) = false := beq_eq_false_iff_ne.mpr c9
     have c9b1 : ((Int.tmod a0_0 64) != 0) = true := bne_iff_ne.mpr c9
     obtain ⟨ji12, hji12⟩ : ∃ j_ : Int, (wrap64 ((l0_1.length : Int) - 1)) = j_ := ⟨_, rfl⟩
     replace H : (if 0 ≤ (ji12) then (if (ji12) < (l0_1.length : Int) then (if 0 ≤ (IntKind.u64.wrap (Int.tmod a0_0 64)) then (some ((shr .u64 (rd l0_1 (ji12)) (IntKind.u64.wrap (Int.tmod a0_0 64))) == 0)) else (none)) else (none)) else (none)) = some r := by first | (rw [hji12] at H; exact H) | (simp only [hji12] at H ⊢; exact H)
     have hji12w : (IntKind.i64.wrap ((l0_1.length : Int) - 1)) = ji12 := (i64_w _).trans hji12
     by_cases c13 : 0 ≤ (ji12)
     ·rw [if_pos c13] at H
      have c13b0 : decide (0 ≤ (ji12)) = true := decide_eq_true c13
      clear c13
      by_cases c14 : (ji12) < (l0_1.length : Int)
      ·rw [if_pos c14] at H
       have c14b0 : decide ((ji12) < (l0_1.length : Int)) = true := decide_eq_true c14
       clear c14
       obtain ⟨ji15, hji15⟩ : ∃ j_ : Int, (IntKind.u64.wrap (Int.tmod a0_0 64)) = j_ := ⟨_, rfl⟩
       replace H : (if 0 ≤ (ji15) then (some ((shr .u64 (rd l0_1 (ji12)) (ji15)) == 0)) else (none)) = some r := by first | (rw [hji15] at H; exact H) | (simp only [hji15] at H ⊢; exact H)
       by_cases c16 : 0 ≤ (ji15)
       ·rw [if_pos c16] at H
        have c16b0 := eq_true c16
        have c16b1 : decide (0 ≤ (ji15)) = true := decide_eq_true c16
        clear c16
        obtain ⟨ji17, hji17⟩ : ∃ j_ : Int, (shr .u64 (rd l0_1 (ji12)) (ji15)) = j_ := ⟨_, rfl⟩
        replace H : (some ((ji17) == 0)) = some r := by first | (rw [hji17] at H; exact H) | (simp only [hji17] at H ⊢; exact H)
        have hji17_ : ((rd l0_1 (ji12)) / 2 ^ min (ji15).toNat 64) = ji17 := hji17
        have hji17z : (ji15) ≤ 64 → ((rd l0_1 (ji12)) / 2 ^ (ji15).toNat) = ji17 := shr_small hji17
        obtain rfl := Option.some.inj H
        go_enter Tryd.func26, Tryd.ntmps26
        go_wp2_with (first | ((with_reducible refine gate_dst (N := 1) rfl ?_); (try (refine gate_guard (by rfl) ?_; dsimp only)); refine box_event ?hg (N := 1) ?hd (cs := #[.int .i64 a0_0, .slice A0_1 l0_1.length c0_1]) (t := 24) ?hr ?_; (case hd => rfl); (case hg => (first | rfl | (simp only [*]; rfl) | (simp [*]; done))); (case hr => first | (go_simp; done) | (go_simp; rfl)); intro gb101 hg w18 hbox hb; have n0_ := Aside0.mk (below_step (by repeat (first | (with_reducible first | exact HB.out | apply below_alloc | apply pw_below_drewN | apply below_drew1) | exact HB.out)) hb); have n1_ := Aside0.mk (hbox); have n2_ := Aside0.mk ((by rw [hg]; exact (below_size (by repeat (first | (with_reducible first | exact HB.out | apply below_alloc | apply pw_below_drewN | apply below_drew1) | exact HB.out))) : w.heap.size ≤ gb101)); have n3_ := Aside0.mk ((by rw [hg]; exact (below_size (by repeat (first | (with_reducible first | exact HB.out | apply below_alloc | apply pw_below_drewN | apply below_drew1) | exact HB.out))) : w.heap.size ≤ gb101)); clear HB; have HB := n0_; have BK101 := n1_; have GW101 := n2_; have GE101 := n3_; clear n0_ n1_ n2_ n3_; clear hb hbox hg; have hcz19_0 : w18.cell? ⟨gb101, 0, none⟩ = some (.int .i64 a0_0) := (blk_cell BK101.out 0).trans rfl; have hcz19_1 : w18.cell? ⟨gb101, 1, none⟩ = some (.slice A0_1 l0_1.length c0_1) := (blk_cell BK101.out 1).trans rfl; have hfz19_0 := blk_frozen BK101.out 0; have hfz19_1 := blk_frozen BK101.out 1; have p102 : 0 ≤ ((ji12) : Int) := of_decide_eq_true (by first | (with_reducible assumption) | assumption); have q102 : (ji12) < (l0_1.length : Int) := of_decide_eq_true (by first | (with_reducible assumption) | assumption); obtain ⟨ad102, e102, hx102_0⟩ := Kd.at_int HR0_1.out (ji12) p102 q102; cases e102; replace hx102_0 := (HB.out.cell (World.block_lt_of_cell? w _ hx102_0)).trans hx102_0; replace p102 := eq_true p102; replace q102 := eq_true q102))
        repeat (go_quiet (first | ((with_reducible refine gate_dst (N := 1) rfl ?_); (try (refine gate_guard (by rfl) ?_; dsimp only)); refine box_event ?hg (N := 1) ?hd (cs := #[.int .i64 a0_0, .slice A0_1 l0_1.length c0_1]) (t := 24) ?hr ?_; (case hd => rfl); (case hg => (first | rfl | (simp only [*]; rfl) | (simp [*]; done))); (case hr => first | (go_simp; done) | (go_simp; rfl)); intro gb101 hg w18 hbox hb; have n0_ := Aside0.mk (below_step (by repeat (first | (with_reducible first | exact HB.out | apply below_alloc | apply pw_below_drewN | apply below_drew1) | exact HB.out)) hb); have n1_ := Aside0.mk (hbox); have n2_ := Aside0.mk ((by rw [hg]; exact (below_size (by repeat (first | (with_reducible first | exact HB.out | apply below_alloc | apply pw_below_drewN | apply below_drew1) | exact HB.out))) : w.heap.size ≤ gb101)); have n3_ := Aside0.mk ((by rw [hg]; exact (below_size (by repeat (first | (with_reducible first | exact HB.out | apply below_alloc | apply pw_below_drewN | apply below_drew1) | exact HB.out))) : w.heap.size ≤ gb101)); clear HB; have HB := n0_; have BK101 := n1_; have GW101 := n2_; have GE101 := n3_; clear n0_ n1_ n2_ n3_; clear hb hbox hg; have hcz19_0 : w18.cell? ⟨gb101, 0, none⟩ = some (.int .i64 a0_0) := (blk_cell BK101.out 0).trans rfl; have hcz19_1 : w18.cell? ⟨gb101, 1, none⟩ = some (.slice A0_1 l0_1.length c0_1) := (blk_cell BK101.out 1).trans rfl; have hfz19_0 := blk_frozen BK101.out 0; have hfz19_1 := blk_frozen BK101.out 1; have p102 : 0 ≤ ((ji12) : Int) := of_decide_eq_true (by first | (with_reducible assumption) | assumption); have q102 : (ji12) < (l0_1.length : Int) := of_decide_eq_true (by first | (with_reducible assumption) | assumption); obtain ⟨ad102, e102, hx102_0⟩ := Kd.at_int HR0_1.out (ji12) p102 q102; cases e102; replace hx102_0 := (HB.out.cell (World.block_lt_of_cell? w _ hx102_0)).trans hx102_0; replace p102 := eq_true p102; replace q102 := eq_true q102)); try go_wp2_with (first | ((with_reducible refine gate_dst (N := 1) rfl ?_); (try (refine gate_guard (by rfl) ?_; dsimp only)); refine box_event ?hg (N := 1) ?hd (cs := #[.int .i64 a0_0, .slice A0_1 l0_1.length c0_1]) (t := 24) ?hr ?_; (case hd => rfl); (case hg => (first | rfl | (simp only [*]; rfl) | (simp [*]; done))); (case hr => first | (go_simp; done) | (go_simp; rfl)); intro gb101 hg w18 hbox hb; have n0_ := Aside0.mk (below_step (by repeat (first | (with_reducible first | exact HB.out | apply below_alloc | apply pw_below_drewN | apply below_drew1) | exact HB.out)) hb); have n1_ := Aside0.mk (hbox); have n2_ := Aside0.mk ((by rw [hg]; exact (below_size (by repeat (first | (with_reducible first | exact HB.out | apply below_alloc | apply pw_below_drewN | apply below_drew1) | exact HB.out))) : w.heap.size ≤ gb101)); have n3_ := Aside0.mk ((by rw [hg]; exact (below_size (by repeat (first | (with_reducible first | exact HB.out | apply below_alloc | apply pw_below_drewN | apply below_drew1) | exact HB.out))) : w.heap.size ≤ gb101)); clear HB; have HB := n0_; have BK101 := n1_; have GW101 := n2_; have GE101 := n3_; clear n0_ n1_ n2_ n3_; clear hb hbox hg; have hcz19_0 : w18.cell? ⟨gb101, 0, none⟩ = some (.int .i64 a0_0) := (blk_cell BK101.out 0).trans rfl; have hcz19_1 : w18.cell? ⟨gb101, 1, none⟩ = some (.slice A0_1 l0_1.length c0_1) := (blk_cell BK101.out 1).trans rfl; have hfz19_0 := blk_frozen BK101.out 0; have hfz19_1 := blk_frozen BK101.out 1; have p102 : 0 ≤ ((ji12) : Int) := of_decide_eq_true (by first | (with_reducible assumption) | assumption); have q102 : (ji12) < (l0_1.length : Int) := of_decide_eq_true (by first | (with_reducible assumption) | assumption); obtain ⟨ad102, e102, hx102_0⟩ := Kd.at_int HR0_1.out (ji12) p102 q102; cases e102; replace hx102_0 := (HB.out.cell (World.block_lt_of_cell? w _ hx102_0)).trans hx102_0; replace p102 := eq_true p102; replace q102 := eq_true q102)))
        go_ret
        exact ⟨by first | rfl | (simp [errW_none, errW_some] <;> rfl) | (simp only [← hji12, ← hji15, ← hji17]; first | rfl | (simp [errW_none, errW_some] <;> rfl)) | (simp [*, errW_none, errW_some] <;> rfl), by repeat (first | (with_reducible first | exact HB.out | apply below_alloc | apply pw_below_drewN | apply below_drew1 | refine below_set ?_ GE101.out) | exact HB.out)⟩
       ·rw [if_neg c16] at H
        exact absurd H (by simp)
      ·rw [if_neg c14] at H
       exact absurd H (by simp)
     ·rw [if_neg c13] at H
      exact absurd H (by simp)
   ·rw [if_neg c8] at H
    have c8b0 : ((l0_1.length : Int) == (wrap64 (Int.tdiv (wrap64 (a0_0 + 63)) 64))) = false := beq_eq_false_iff_ne.mpr c8
    have c8b1 : ((l0_1.length : Int) != (wrap64 (Int.tdiv (wrap64 (a0_0 + 63)) 64))) = true := bne_iff_ne.mpr c8
    obtain rfl := Option.some.inj H
    go_enter Tryd.func26, Tryd.ntmps26
    go_wp2_with (first | ((with_reducible refine gate_dst (N := 1) rfl ?_); (try (refine gate_guard (by rfl) ?_; dsimp only)); refine box_event ?hg (N := 1) ?hd (cs := #[.int .i64 a0_0, .slice A0_1 l0_1.length c0_1]) (t := 24) ?hr ?_; (case hd => rfl); (case hg => (first | rfl | (simp only [*]; rfl) | (simp [*]; done))); (case hr => first | (go_simp; done) | (go_simp; rfl)); intro gb101 hg w20 hbox hb; have n0_ := Aside0.mk (below_step (by repeat (first | (with_reducible first | exact HB.out | apply below_alloc | apply pw_below_drewN | apply below_drew1) | exact HB.out)) hb); have n1_ := Aside0.mk (hbox); have n2_ := Aside0.mk ((by rw [hg]; exact (below_size (by repeat (first | (with_reducible first | exact HB.out | apply below_alloc | apply pw_below_drewN | apply below_drew1) | exact HB.out))) : w.heap.size ≤ gb101)); have n3_ := Aside0.mk ((by rw [hg]; exact (below_size (by repeat (first | (with_reducible first | exact HB.out | apply below_alloc | apply pw_below_drewN | apply below_drew1) | exact HB.out))) : w.heap.size ≤ gb101)); clear HB; have HB := n0_; have BK101 := n1_; have GW101 := n2_; have GE101 := n3_; clear n0_ n1_ n2_ n3_; clear hb hbox hg; have hcz21_0 : w20.cell? ⟨gb101, 0, none⟩ = some (.int .i64 a0_0) := (blk_cell BK101.out 0).trans rfl; have hcz21_1 : w20.cell? ⟨gb101, 1, none⟩ = some (.slice A0_1 l0_1.length c0_1) := (blk_cell BK101.out 1).trans rfl; have hfz21_0 := blk_frozen BK101.out 0; have hfz21_1 := blk_frozen BK101.out 1))
    repeat (go_quiet (first | ((with_reducible refine gate_dst (N := 1) rfl ?_); (try (refine gate_guard (by rfl) ?_; dsimp only)); refine box_event ?hg (N := 1) ?hd (cs := #[.int .i64 a0_0, .slice A0_1 l0_1.length c0_1]) (t := 24) ?hr ?_; (case hd => rfl); (case hg => (first | rfl | (simp only [*]; rfl) | (simp [*]; done))); (case hr => first | (go_simp; done) | (go_simp; rfl)); intro gb101 hg w20 hbox hb; have n0_ := Aside0.mk (below_step (by repeat (first | (with_reducible first | exact HB.out | apply below_alloc | apply pw_below_drewN | apply below_drew1) | exact HB.out)) hb); have n1_ := Aside0.mk (hbox); have n2_ := Aside0.mk ((by rw [hg]; exact (below_size (by repeat (first | (with_reducible first | exact HB.out | apply below_alloc | apply pw_below_drewN | apply below_drew1) | exact HB.out))) : w.heap.size ≤ gb101)); have n3_ := Aside0.mk ((by rw [hg]; exact (below_size (by repeat (first | (with_reducible first | exact HB.out | apply below_alloc | apply pw_below_drewN | apply below_drew1) | exact HB.out))) : w.heap.size ≤ gb101)); clear HB; have HB := n0_; have BK101 := n1_; have GW101 := n2_; have GE101 := n3_; clear n0_ n1_ n2_ n3_; clear hb hbox hg; have hcz21_0 : w20.cell? ⟨gb101, 0, none⟩ = some (.int .i64 a0_0) := (blk_cell BK101.out 0).trans rfl; have hcz21_1 : w20.cell? ⟨gb101, 1, none⟩ = some (.slice A0_1 l0_1.length c0_1) := (blk_cell BK101.out 1).trans rfl; have hfz21_0 := blk_frozen BK101.out 0; have hfz21_1 := blk_frozen BK101.out 1)); try go_wp2_with (first | ((with_reducible refine gate_dst (N := 1) rfl ?_); (try (refine gate_guard (by rfl) ?_; dsimp only)); refine box_event ?hg (N := 1) ?hd (cs := #[.int .i64 a0_0, .slice A0_1 l0_1.length c0_1]) (t := 24) ?hr ?_; (case hd => rfl); (case hg => (first | rfl | (simp only [*]; rfl) | (simp [*]; done))); (case hr => first | (go_simp; done) | (go_simp; rfl)); intro gb101 hg w20 hbox hb; have n0_ := Aside0.mk (below_step (by repeat (first | (with_reducible first | exact HB.out | apply below_alloc | apply pw_below_drewN | apply below_drew1) | exact HB.out)) hb); have n1_ := Aside0.mk (hbox); have n2_ := Aside0.mk ((by rw [hg]; exact (below_size (by repeat (first | (with_reducible first | exact HB.out | apply below_alloc | apply pw_below_drewN | apply below_drew1) | exact HB.out))) : w.heap.size ≤ gb101)); have n3_ := Aside0.mk ((by rw [hg]; exact (below_size (by repeat (first | (with_reducible first | exact HB.out | apply below_alloc | apply pw_below_drewN | apply below_drew1) | exact HB.out))) : w.heap.size ≤ gb101)); clear HB; have HB := n0_; have BK101 := n1_; have GW101 := n2_; have GE101 := n3_; clear n0_ n1_ n2_ n3_; clear hb hbox hg; have hcz21_0 : w20.cell? ⟨gb101, 0, none⟩ = some (.int .i64 a0_0) := (blk_cell BK101.out 0).trans rfl; have hcz21_1 : w20.cell? ⟨gb101, 1, none⟩ = some (.slice A0_1 l0_1.length c0_1) := (blk_cell BK101.out 1).trans rfl; have hfz21_0 := blk_frozen BK101.out 0; have hfz21_1 := blk_frozen BK101.out 1)))
    go_ret
    exact ⟨by first | rfl | (simp [errW_none, errW_some] <;> rfl) | (simp [*, errW_none, errW_some] <;> rfl), by repeat (first | (with_reducible first | exact HB.out | apply below_alloc | apply pw_below_drewN | apply below_drew1 | refine below_set ?_ GE101.out) | exact HB.out)⟩

/-! ### laminalaw22_small: function 7 -/
def laminalaw22_small.f (a0_0 : Int) (l0_1 : List Int) : Option (Bool) := if a0_0 ≤ 5000 then ((laminaref03_Valid.f a0_0 l0_1).bind fun t104 => (some t104)) else (some false)
set_option maxHeartbeats 8000000 in
set_option maxRecDepth 100000 in
theorem laminalaw22_small.calls (a0_0 : Int) (A0_1 : Option Addr) (c0_1 : Nat) (l0_1 : List Int) (r : Bool) (w : World) (hr0_1 : Kd.C (Kd.int .u64) w A0_1 l0_1.length l0_1) (hc0_1 : l0_1.length ≤ c0_1) (h : laminalaw22_small.f a0_0 l0_1 = some r) :
  Calls Tryd.prog 7 #[.agg #[.int .i64 a0_0, .slice A0_1 l0_1.length c0_1]] w fun e w' => e = .returned (.bool r) ∧ Below w.heap.size w w' := by
 have hu24 := Tryd.underlying24
 have HR0_1 := Aside0.mk hr0_1
 have HC0_1 := Aside0.mk hc0_1
 clear hr0_1 hc0_1
 have HB := Aside0.mk (Below.refl w.heap.size w)
 have H : (if a0_0 ≤ 5000 then ((laminaref03_Valid.f a0_0 l0_1).bind fun t104 => (some t104)) else (some false)) = some r := h
 clear h
 by_cases c2 : a0_0 ≤ 5000
 ·rw [if_pos c2] at H
  have c2b0 : decide (a0_0 ≤ 5000) = true := decide_eq_true c2
  clear c2
  replace H := Option.bind_eq_some_iff.mp H
  obtain ⟨t104, A30, H⟩ := H
  replace H : (some t104) = some r := H
  have A3 := Aside0.mk A30
  clear A30
  obtain rfl := Option.some.inj H
  go_enter Tryd.func7, Tryd.ntmps7
  go_wp2_with (first | ((with_reducible refine gate_dst (N := 1) rfl ?_); refine box_event ?hg (N := 1) ?hd (cs := #[.int .i64 a0_0, .slice A0_1 l0_1.length c0_1]) (t := 24) ?hr ?_; (case hd => rfl); (case hg => (first | rfl | (simp only [*]; rfl) | (simp [*]; done))); (case hr => first | (go_simp; done) | (go_simp; rfl)); intro gb103 hg w4 hbox hb; have n0_ := Aside0.mk (below_step (by repeat (first | (with_reducible first | exact HB.out | apply below_alloc | apply pw_below_drewN | apply below_drew1) | exact HB.out)) hb); have n1_ := Aside0.mk (hbox); have n2_ := Aside0.mk ((by rw [hg]; exact (below_size (by repeat (first | (with_reducible first | exact HB.out | apply below_alloc | apply pw_below_drewN | apply below_drew1) | exact HB.out))) : w.heap.size ≤ gb103)); have n3_ := Aside0.mk ((by rw [hg]; exact (below_size (by repeat (first | (with_reducible first | exact HB.out | apply below_alloc | apply pw_below_drewN | apply below_drew1) | exact HB.out))) : w.heap.size ≤ gb103)); clear HB; have HB := n0_; have BK103 := n1_; have GW103 := n2_; have GE103 := n3_; clear n0_ n1_ n2_ n3_; clear hb hbox hg; have hcz5_0 : w4.cell? ⟨gb103, 0, none⟩ = some (.int .i64 a0_0) := (blk_cell BK103.out 0).trans rfl; have hcz5_1 : w4.cell? ⟨gb103, 1, none⟩ = some (.slice A0_1 l0_1.length c0_1) := (blk_cell BK103.out 1).trans rfl; have hfz5_0 := blk_frozen BK103.out 0; have hfz5_1 := blk_frozen BK103.out 1) | (go_at_call 26; (with_reducible refine (laminaref03_Valid.calls a0_0 _ _ l0_1 t104 _ ?side1 ?side2 A3.out).mono ?_); (case side1 => repeat (first | exact (Kd.C_below HR0_1.out HB.out) | (with_reducible refine Kd.C_alloc ?_ _) | (with_reducible refine Kd.C_drewN ?_ _) | (with_reducible refine Kd.C_drew ?_))); (case side2 => exact HC0_1.out); rintro e w6 ⟨rfl, hb⟩; have n0_ := Aside0.mk (blk_below (g := gb103) (o := .cells #[.int .i64 a0_0, .slice A0_1 l0_1.length c0_1] 24 (0, 0)) (by (with_reducible repeat (first | refine blk_drewN ?_ _ | refine blk_drew ?_ | refine blk_alloc ?_ _)); exact BK103.out) hb); have n1_ := Aside0.mk (below_step (by repeat (first | (with_reducible first | exact HB.out | apply below_alloc | apply pw_below_drewN | apply below_drew1 | refine below_set ?_ GE103.out) | exact HB.out)) hb); clear BK103; clear HB; have BK103 := n0_; have HB := n1_; clear n0_ n1_; (try clear hb); (try clear hb2); (try clear hk); (try clear hi)))
  go_ret
  exact ⟨by first | rfl | (simp [errW_none, errW_some] <;> rfl) | (simp [*, errW_none, errW_some] <;> rfl), by repeat (first | (with_reducible first | exact HB.out | apply below_alloc | apply pw_below_drewN | apply below_drew1 | refine below_set ?_ GE103.out) | exact HB.out)⟩
 ·rw [if_neg c2] at H
  have c2b0 : decide (a0_0 ≤ 5000) = false := decide_eq_false c2
  clear c2
  obtain rfl := Option.some.inj H
  go_enter Tryd.func7, Tryd.ntmps7
  go_wp2_with (first | ((with_reducible refine gate_dst (N := 1) rfl ?_); refine box_event ?hg (N := 1) ?hd (cs := #[.int .i64 a0_0, .slice A0_1 l0_1.length c0_1]) (t := 24) ?hr ?_; (case hd => rfl); (case hg => (first | rfl | (simp only [*]; rfl) | (simp [*]; done))); (case hr => first | (go_simp; done) | (go_simp; rfl)); intro gb103 hg w7 hbox hb; have n0_ := Aside0.mk (below_step (by repeat (first | (with_reducible first | exact HB.out | apply below_alloc | apply pw_below_drewN | apply below_drew1) | exact HB.out)) hb); have n1_ := Aside0.mk (hbox); have n2_ := Aside0.mk ((by rw [hg]; exact (below_size (by repeat (first | (with_reducible first | exact HB.out | apply below_alloc | apply pw_below_drewN | apply below_drew1) | exact HB.out))) : w.heap.size ≤ gb103)); have n3_ := Aside0.mk ((by rw [hg]; exact (below_size (by repeat (first | (with_reducible first | exact HB.out | apply below_alloc | apply pw_below_drewN | apply below_drew1) | exact HB.out))) : w.heap.size ≤ gb103)); clear HB; have HB := n0_; have BK103 := n1_; have GW103 := n2_; have GE103 := n3_; clear n0_ n1_ n2_ n3_; clear hb hbox hg; have hcz8_0 : w7.cell? ⟨gb103, 0, none⟩ = some (.int .i64 a0_0) := (blk_cell BK103.out 0).trans rfl; have hcz8_1 : w7.cell? ⟨gb103, 1, none⟩ = some (.slice A0_1 l0_1.length c0_1) := (blk_cell BK103.out 1).trans rfl; have hfz8_0 := blk_frozen BK103.out 0; have hfz8_1 := blk_frozen BK103.out 1))
  go_ret
  exact ⟨by first | rfl | (simp [errW_none, errW_some] <;> rfl) | (simp [*, errW_none, errW_some] <;> rfl), by repeat (first | (with_reducible first | exact HB.out | apply below_alloc | apply pw_below_drewN | apply below_drew1 | refine below_set ?_ GE103.out) | exact HB.out)⟩

/-! ### varint_Encode: function 29 -/
def varint_Encode.l0 : Nat → Int → List Int → Option (List Int)
 | 0, _, _ => none
 | k + 1, x0, x3 => if x0 ≥ 128 then (if x3.length < 140737488355328 then (varint_Encode.l0 k (x0 / 128) (x3 ++ [Go.bits .or .u8 ((x0) % 256) 128])) else (none)) else (if x3.length < 140737488355328 then (some (x3 ++ [(x0) % 256])) else (none))
def varint_Encode.f (k : Nat) (a0 : Int) : Option (List Int) := varint_Encode.l0 k a0 ([] : List Int)
theorem varint_Encode.mono_l : ∀ k, (∀ y0 y1, LeO (varint_Encode.l0 k y0 y1) (varint_Encode.l0 (k + 1) y0 y1))
 | 0 => fun _ _ r h => by simp [varint_Encode.l0] at h
 | k + 1 => by
  have ih0 := varint_Encode.mono_l k
  ·intro y0 y1
   unfold varint_Encode.l0
   repeat' first
   | (with_reducible exact ih0 _ _)
   | (with_reducible exact LeO.refl _)
   | (with_reducible exact LeO.none _)
   | (with_reducible refine LeO.ite ?_ ?_)
   | (with_reducible refine LeO.bind ?_ (fun _ => ?_))
   | exact ih0 _ _
   | exact LeO.none _
   | refine LeO.ite ?_ ?_
   | refine LeO.bind ?_ (fun _ => ?_)
theorem varint_Encode.mono : ∀ a0 k, LeO (varint_Encode.f k a0) (varint_Encode.f (k + 1) a0) := by
 intro a0 k
 have ih0 := varint_Encode.mono_l k
 unfold varint_Encode.f
 repeat' first
   | (with_reducible exact ih0 _ _)
   | (with_reducible exact LeO.refl _)
   | (with_reducible exact LeO.none _)
   | (with_reducible refine LeO.ite ?_ ?_)
   | (with_reducible refine LeO.bind ?_ (fun _ => ?_))
   | exact ih0 _ _
   | exact LeO.none _
   | refine LeO.ite ?_ ?_
   | refine LeO.bind ?_ (fun _ => ?_)
set_option maxHeartbeats 8000000 in
set_option maxRecDepth 100000 in
theorem varint_Encode.calls (k : Nat) (a0 : Int) (r : List Int) (w : World) (h : varint_Encode.f k a0 = some r) :
  Calls Tryd.prog 29 #[.int .u64 a0] w fun e w' => ∃ v0_ : Value, e = .returned (v0_) ∧ Kd.R (Kd.int .u8) 5 w' w.heap.size (fun _ => True) v0_ r ∧ Below w.heap.size w w' := by
 have HB := Aside0.mk (Below.refl w.heap.size w)
 have H : (varint_Encode.l0 k a0 ([] : List Int)) = some r := h
 clear h
 have H' := Aside0.mk H
 clear H
 go_enter Tryd.func29, Tryd.ntmps29
 go_wp2
 go_loopg [0, 3] k (fun kq v0 v3 w' => ∃ (x0_1 : Int) (x3_1 : List Int), v0 = .int .u64 x0_1 ∧ Aside0 (varint_Encode.l0 kq x0_1 x3_1 = some r) ∧ Aside0 (kq ≤ k) ∧ Aside0 (Kd.R (Kd.int .u8) 5 w' w.heap.size (fun _ => True) v3 x3_1) ∧ Aside0 (Below w.heap.size w w'))
 case atStart => exact ⟨(a0), (([] : List Int)), (by first | rfl | (simp; done) | (simp [*]; done)), H', ⟨Nat.le_refl _⟩, ⟨by first | exact Kd.R_nil _ _ _ _ _ | exact Kd.N_nil _ _ _ _ _ | exact Kd.V_nil _ _ _ _ _ | exact Kd.Q_nil _ _ _ _ _ | exact Kd.S_nil _ _ _ _ _⟩, ⟨by repeat (first | (with_reducible first | exact HB.out | apply below_alloc | apply pw_below_drewN | apply below_drew1) | exact HB.out)⟩⟩
 case round =>
  clear H'
  obtain ⟨x0_1, x3_1, rfl, HA, HK1, HO_3, HB⟩ := hrel
  cases gk with
  | zero => exact absurd HA.out (by simp [varint_Encode.l0])
  | succ k1 =>
   have H := HA.out
   clear HA
   simp only [varint_Encode.l0] at H
   by_cases c2 : x0_1 ≥ 128
   ·rw [if_pos c2] at H
    have c2b0 : decide (128 ≤ x0_1) = true := decide_eq_true c2
    clear c2
    by_cases c3 : x3_1.length < 140737488355328
    ·rw [if_pos c3] at H
     have LMc3 := Aside0.mk c3
     clear c3
     obtain ⟨y105, hy105⟩ : ∃ y_ : List Int, y_ = (x3_1 ++ [Go.bits .or .u8 ((x0_1) % 256) 128]) := ⟨_, rfl⟩
     replace H : (varint_Encode.l0 k1 (x0_1 / 128) y105) = some r := by first | (rw [hy105]; with_reducible exact H) | (have H2_ := (Option.bind_some _ _).symm.trans H; rw [hy105]; with_reducible exact H2_) | (have H2_ := (Option.bind_some _ _).symm.trans H; with_reducible exact H2_) | with_reducible exact H | (rw [hy105]; exact H) | exact H
     have Ny105 := Aside0.mk hy105
     clear hy105
     have H' := Aside0.mk H
     clear H
     go_wp2_with (first | ((with_reducible refine gate_builtin (b := .append) (xs := #[.tmp 6, .tmp 10]) rfl ?_); at_builtin; refine Kd.R_append (Kd.int .u8) (w0 := w) w.heap.size rfl (.tmp 6) (.tmp 10) 27 5 (.int .u8 0) 1 rfl Tryd.underlying27 info5 rfl (by decide) (by omega) u3 x3_1 (Go.bits .or .u8 ((x0_1) % 256) 128) [.int .u8 (Go.bits .or .u8 ((x0_1) % 256) 128)] (fun _ => True) (fun _ => False) rfl rfl ?aP (fun _ hk => hk.elim) ?aF ?aO ?aB ?aS ?aL ?_; (case aP => exact rfl); (case aB => exact (by repeat (first | (with_reducible first | exact HB.out | apply below_alloc | apply pw_below_drewN | apply below_drew1) | exact HB.out))); (case aF => exact (fun _ _ => trivial)); (case aO => exact (by (with_reducible repeat (first | apply Kd.R_alloc | apply Kd.R_drewN | apply Kd.R_drew)); exact HO_3.out)); (case aS => exact (below_size (by repeat (first | (with_reducible first | exact HB.out | apply below_alloc | apply pw_below_drewN | apply below_drew1) | exact HB.out)))); (case aL => have := LMc3.out; omega); intro v106 w4 ho hb hg hat; rw [← Ny105.out] at ho; have n0_ := Aside0.mk (hb); have n1_ := Aside0.mk (ho); clear HB; clear HO_3; have HB := n0_; have HO107 := n1_; clear n0_ n1_; clear ho hb hg hat))
     go_roundg k1
     case measure => have := HK1.out; omega
     case rel => exact ⟨(x0_1 / 128), (y105), (by first | rfl | (simp; done) | (simp [*]; done)), H', ⟨by have := HK1.out; omega⟩, ⟨by (with_reducible repeat (first | apply Kd.R_alloc | apply Kd.R_drewN | apply Kd.R_drew)); exact HO107.out⟩, ⟨by repeat (first | (with_reducible first | exact HB.out | apply below_alloc | apply pw_below_drewN | apply below_drew1) | exact HB.out)⟩⟩
    ·rw [if_neg c3] at H
     exact absurd H (by simp)
   ·rw [if_neg c2] at H
    have c2b0 : decide (128 ≤ x0_1) = false := decide_eq_false c2
    clear c2
    by_cases c5 : x3_1.length < 140737488355328
    ·rw [if_pos c5] at H
     have LMc5 := Aside0.mk c5
     clear c5
     obtain ⟨y108, hy108⟩ : ∃ y_ : List Int, y_ = (x3_1 ++ [(x0_1) % 256]) := ⟨_, rfl⟩
     replace H : (some y108) = some r := by first | (rw [hy108]; with_reducible exact H) | (have H2_ := (Option.bind_some _ _).symm.trans H; rw [hy108]; with_reducible exact H2_) | (have H2_ := (Option.bind_some _ _).symm.trans H; with_reducible exact H2_) | with_reducible exact H | (rw [hy108]; exact H) | exact H
     have Ny108 := Aside0.mk hy108
     clear hy108
     obtain rfl := Option.some.inj H
     go_wp2_with (first | ((with_reducible refine gate_builtin (b := .append) (xs := #[.tmp 14, .tmp 17]) rfl ?_); at_builtin; refine Kd.R_append (Kd.int .u8) (w0 := w) w.heap.size rfl (.tmp 14) (.tmp 17) 27 5 (.int .u8 0) 1 rfl Tryd.underlying27 info5 rfl (by decide) (by omega) u3 x3_1 ((x0_1) % 256) [.int .u8 ((x0_1) % 256)] (fun _ => True) (fun _ => False) rfl rfl ?aP (fun _ hk => hk.elim) ?aF ?aO ?aB ?aS ?aL ?_; (case aP => exact rfl); (case aB => exact (by repeat (first | (with_reducible first | exact HB.out | apply below_alloc | apply pw_below_drewN | apply below_drew1) | exact HB.out))); (case aF => exact (fun _ _ => trivial)); (case aO => exact (by (with_reducible repeat (first | apply Kd.R_alloc | apply Kd.R_drewN | apply Kd.R_drew)); exact HO_3.out)); (case aS => exact (below_size (by repeat (first | (with_reducible first | exact HB.out | apply below_alloc | apply pw_below_drewN | apply below_drew1) | exact HB.out)))); (case aL => have := LMc5.out; omega); intro v109 w6 ho hb hg hat; rw [← Ny108.out] at ho; have n0_ := Aside0.mk (hb); have n1_ := Aside0.mk (ho); clear HB; clear HO_3; have HB := n0_; have HO110 := n1_; clear n0_ n1_; clear ho hb hg hat))
     go_ret
     exact ⟨_, by first | rfl | (simp [errW_none, errW_some] <;> rfl) | (simp [*, errW_none, errW_some] <;> rfl), by (with_reducible repeat (first | apply Kd.R_alloc | apply Kd.R_drewN | apply Kd.R_drew)); exact HO110.out, by repeat (first | (with_reducible first | exact HB.out | apply below_alloc | apply pw_below_drewN | apply below_drew1) | exact HB.out)⟩
    ·rw [if_neg c5] at H
     exact absurd H (by simp)

/-! ### bitset_Encode: function 30 -/
section
open Go.Shelf
attribute [local go_sem] Oper.semAt_some
theorem be_l0 : ∀ (f n : Nat) (acc : List Int), n < 128 ^ (f + 1) → acc.length + f < 1000 → Ev (fun k => varint_Encode.l0 k (n : Int) acc) (acc ++ venc n) := by
  intro f
  induction f with
  | zero =>
    intro n acc hn ha
    have h : n < 128 := by simpa using hn
    refine Ev.succ ?_
    simp only [varint_Encode.l0]
    refine Ev.neg (by omega) ?_
    refine Ev.pos (by omega) ?_
    exact Ev.eq (Ev.now _) (by rw [venc_lt h, show (n : Int) % 256 = n by omega])
  | succ f ih =>
    intro n acc hn ha
    have hn2 : n / 128 < 128 ^ (f + 1) := by
      rw [Nat.div_lt_iff_lt_mul (by decide), ← Nat.pow_succ]; exact hn
    clear hn
    refine Ev.succ ?_
    simp only [varint_Encode.l0]
    by_cases h : n < 128
    · refine Ev.neg (by omega) ?_
      refine Ev.pos (by omega) ?_
      exact Ev.eq (Ev.now _) (by rw [venc_lt h, show (n : Int) % 256 = n by omega])
    · refine Ev.pos (by omega) ?_
      refine Ev.pos (by omega) ?_
      have e : bits .or .u8 ((n : Int) % 256) 128 = ((128 + n % 128 : Nat) : Int) := by
        rw [or_128 _ (by omega) (by omega)]; omega
      have e2 : (n : Int) / 128 = ((n / 128 : Nat) : Int) := by omega
      rw [e, e2]
      have := ih (n / 128) (acc ++ [((128 + n % 128 : Nat) : Int)]) hn2 (by simp; omega)
      rw [venc_ge h]
      simpa using this
theorem be_ev (n : Nat) (h : n < 18446744073709551616) : Ev (fun k => varint_Encode.f k (n : Int)) (venc n) := by
  have hp : (128 : Nat) ^ (9 + 1) = 1180591620717411303424 := by decide
  have := be_l0 9 n [] (by omega) (by decide)
  unfold varint_Encode.f
  simpa using this
theorem be_at (n : Nat) (h : n < 18446744073709551616) : ∃ k, varint_Encode.f k (n : Int) = some (venc n) := by
  obtain ⟨k, hk⟩ := be_ev n h
  exact ⟨k, hk k (Nat.le_refl _)⟩
theorem be_info : (Tryd.prog.info? 5).map (fun i => (i.zero, i.size, i.bytes)) = some (some (.int .u8 0), 1, 1) := by kernel_rfl
theorem be_own {e base : Nat} {ok : Nat → Prop} {v : Value} {xs : List Int} {W : World} (h : Kd.R (Kd.int .u8) e W base ok v xs) : W.ownsRow base e 1 v xs.length (xs.map (Value.int .u8)) := Kd.own_of_R (enc := Value.int .u8) (h1 := fun _ => rfl) h
set_option maxHeartbeats 2000000 in
set_option maxRecDepth 100000 in
theorem be_flush (b n0 : Nat) (s : ES) (fv : Value) (W : World) (hE : EB b n0 s fv W) (hn : n0 ≤ b) (hr0 : 0 ≤ s.run) (hr1 : s.run < 4611686018427387904) (hP : s.P.length ≤ 1000000000) :
    Calls Tryd.prog 51 #[.pointer (some ⟨b, 0, none⟩), .pointer (some ⟨b + 1 + 1, 0, none⟩), .pointer (some ⟨b + 1, 0, none⟩)] W fun e W' => e = .returned (.tuple #[]) ∧ EB b n0 (eflush s) fv W' ∧ Below n0 W W' ∧ KeepsOthers W W' := by
  have hE0 := Aside0.mk hE
  obtain ⟨v, h0, hrow, h1, h2, h3, h4⟩ := hE
  obtain ⟨i0, hi, hz0, hz1, hz2⟩ := info_parts be_info
  obtain ⟨rn, hrn⟩ : ∃ rn : Nat, s.run = (rn : Int) := ⟨s.run.toNat, by omega⟩
  obtain ⟨ke, hke⟩ := be_at rn (by omega)
  have hvl := venc_len10 rn (by omega)
  have hvp := venc_pos rn
  obtain ⟨y, hy⟩ : ∃ y, y = venc rn := ⟨_, rfl⟩
  have hwr : IntKind.u64.wrap (rn : Int) = (rn : Int) := wraps_u64 _ (by omega) (by omega)
  have hfl : eflush s = ⟨s.P ++ y, !s.on, 0, s.pos⟩ := by unfold eflush; rw [hrn, Int.toNat_natCast, hy]
  rw [← hy] at hke hvl hvp
  have c0 := h0.cell
  have f0 := h0.frozen
  have c1 := h1.cell
  have f1 := h1.frozen
  have c2 := h2.cell
  have f2 := h2.frozen
  rw [hrn] at c2
  have H0 := Aside0.mk h0
  have H1 := Aside0.mk h1
  have H2 := Aside0.mk h2
  have H3 := Aside0.mk h3
  have H4 := Aside0.mk h4
  have HR := Aside0.mk hrow
  have HK := Aside0.mk hke
  have HL := Aside0.mk (And.intro hvl hvp)
  have HF := Aside0.mk hfl
  have HP := Aside0.mk hP
  clear h0 h1 h2 h3 h4 hrow hke hvl hvp hfl hy hr0 hr1 hP
  go_enter Tryd.func51, Tryd.ntmps51
  go_wp2
  have d0 := H0.out.cell
  go_region_law
    (first
      | (go_simp; go_at_call 29; refine (varint_Encode.calls ke (rn : Int) y _ HK.out).mono ?_; rintro e w1 ⟨v1, rfl, ho, hb⟩; have hb1 : Below W.heap.size W w1 := ((Below.refl W.heap.size W).drew).trans hb; have HB1 := Aside0.mk hb1; have e0 := (boxed_below H0.out hb1).cell; have f0 := (boxed_below H0.out hb1).frozen; have e2 := (boxed_below H2.out hb1).cell; rw [hrn] at e2; obtain ⟨g1, cp1, rfl, hg1, hg2, hcs⟩ := own_cells (be_own ho) (by have := HL.out; omega); have HC := Aside0.mk hcs; have HN := Aside0.mk (show (y.map (Value.int .u8)).length = y.length * 1 by simp); have HO := Aside0.mk (own_below2 HR.out hb1); clear ho hb hb1 hcs)
      | (refine step_append_lies _ rfl _ _ _ (by rfl) n0 5 i0 (.int .u8 0) 1 1 Tryd.underlying27 hi hz0 hz1 hz2 rfl (by decide) v s.P.length _ (by rfl) HO.out ⟨g1, 0, none⟩ y.length cp1 _ (by rfl) HN.out HC.out (by simp [Value.oneCell']) (by have := HL.out; omega) (by have := HL.out; have := HP.out; simp only [maxLen]; omega) (by have := HL.out; have := HP.out; omega) (by have := HB1.out.size; have := H4.out.lt; omega) _ rfl ?_; intro g cap w2 hown hgrow hat hlt; have HW := EB.grew (y := y) H0.out HR.out H1.out H2.out H3.out H4.out hn HB1.out hgrow hown; have HW := Aside0.mk HW; have B0 := boxed_below H0.out HB1.out; have q0 := B0.kept hgrow (B0.not_row (by decide) HO.out); have e3 := q0.cell; have f3 := q0.frozen; clear hown hgrow hat hlt B0 q0))
  all_goals (
    obtain ⟨hE3, hB3, hK3⟩ := HW.out
    obtain ⟨W3, hW3⟩ : ∃ W3, W3 = w2.setCell ⟨b, 0, none⟩ (Value.slice (some ⟨g, 0, none⟩) (s.P.length + y.length) cap) := ⟨_, rfl⟩
    rw [← hW3] at hE3 hB3 hK3 ⊢
    have g1 := hE3.cells.1
    have g2 := hE3.onCells
    have g3 := hE3.cells.2.1
    have g4 := hE3.cells.2.2.1
    clear hW3
    go_wp2
    go_end0
    refine ⟨rfl, ?_, (hB3.setCell (p := ⟨b + 1, 0, none⟩) (by simp; omega) _).setCell (p := ⟨b + 1 + 1, 0, none⟩) (by simp; omega) _, (hK3.trans (KeepsOthers.setCell _ _ _)).trans (KeepsOthers.setCell _ _ _)⟩
    rw [HF.out]
    exact (hE3.setOn _).setRun _)
theorem be_chain (w w1 : World) (N0 : Int) (A : Option Addr) (len cap : Nat) (v fv : Value) (hb : Below (w.alloc (.cells #[.int .i64 N0, .slice A len cap] 24)).heap.size (w.alloc (.cells #[.int .i64 N0, .slice A len cap] 24)) w1) :
    (((((w1.alloc (.cells #[v] 27)).alloc (.cells #[.bool false] 4)).alloc (.cells #[.int .i64 0] 3)).alloc (.cells #[fv] 1)).alloc (.cells #[.int .i64 0] 3)).cell? ⟨w.heap.size, 0, none⟩ = some (.int .i64 N0) ∧
    (((((w1.alloc (.cells #[v] 27)).alloc (.cells #[.bool false] 4)).alloc (.cells #[.int .i64 0] 3)).alloc (.cells #[fv] 1)).alloc (.cells #[.int .i64 0] 3)).cell? ⟨w.heap.size, 1, none⟩ = some (.slice A len cap) := by
  have q0 : (w.alloc (.cells #[.int .i64 N0, .slice A len cap] 24)).cell? ⟨w.heap.size, 0, none⟩ = some (.int .i64 N0) := (blk_cell (blk_new w (.cells #[.int .i64 N0, .slice A len cap] 24)) 0).trans rfl
  have q1 := r_new2 w (.int .i64 N0) (.slice A len cap) 24
  have h0 := (hb.cell (p := ⟨w.heap.size, 0, none⟩) (by simp)).trans q0
  have h1 := (hb.cell (p := ⟨w.heap.size, 1, none⟩) (by simp)).trans q1
  exact ⟨r_alloc _ (r_alloc _ (r_alloc _ (r_alloc _ (r_alloc _ h0)))), r_alloc _ (r_alloc _ (r_alloc _ (r_alloc _ (r_alloc _ h1))))⟩
def bitset_Encode.f (a0_0 : Int) (l0_1 : List Int) : Option (List Int) := if wokB l0_1 = true ∧ l0_1.length ≤ 20000 ∧ 0 ≤ a0_0 ∧ a0_0 ≤ 2000000 then some (bencI a0_0 (elsI l0_1 (64 * l0_1.length))) else none
set_option maxHeartbeats 2000000 in
set_option maxRecDepth 100000 in
theorem bitset_Encode.calls (a0_0 : Int) (A0_1 : Option Addr) (c0_1 : Nat) (l0_1 : List Int) (r : List Int) (w : World) (hr0_1 : Kd.C (Kd.int .u64) w A0_1 l0_1.length l0_1) (hc0_1 : l0_1.length ≤ c0_1) (hT : TabAt w) (h : bitset_Encode.f a0_0 l0_1 = some r) :
    Calls Tryd.prog 30 #[.agg #[.int .i64 a0_0, .slice A0_1 l0_1.length c0_1]] w fun e w' => ∃ v0_ : Value, e = .returned (v0_) ∧ Kd.R (Kd.int .u8) 5 w' w.heap.size (fun _ => True) v0_ r ∧ Below w.heap.size w w' := by
  unfold bitset_Encode.f at h
  by_cases hsz : wokB l0_1 = true ∧ l0_1.length ≤ 20000 ∧ 0 ≤ a0_0 ∧ a0_0 ≤ 2000000
  case neg => rw [if_neg hsz] at h; cases h
  rw [if_pos hsz] at h
  obtain ⟨s1, s2, s3, s4⟩ := hsz
  have hrr := Option.some.inj h
  clear h
  obtain ⟨xs, hxs⟩ : ∃ xs, xs = elsI l0_1 (64 * l0_1.length) := ⟨_, rfl⟩
  have hpw := elsI_pw l0_1 (64 * l0_1.length)
  have hrg := elsI_rng l0_1 (64 * l0_1.length)
  have hxl : xs.length ≤ 64 * l0_1.length := by rw [hxs]; unfold elsI; rw [List.length_map]; exact els_len_le _ 0
  rw [← hxs] at hpw hrg hrr
  have HX := Aside0.mk (And.intro hpw hrg)
  have HRR := Aside0.mk hrr
  clear hpw hrg hrr
  have hwok := wokB_wok s1
  have hwds := words_at hr0_1
  have hpos := TabAt.pos hT
  have hro : Fence.wide.round = none := rfl
  obtain ⟨nn0, rfl⟩ := Int.eq_ofNat_of_zero_le s3
  obtain ⟨ke, hke⟩ := be_at nn0 (by omega)
  have hvp := venc_pos nn0
  obtain ⟨y, hy⟩ : ∃ y, y = venc nn0 := ⟨_, rfl⟩
  rw [← hy] at hke hvp
  have HK := Aside0.mk hke
  have HV := Aside0.mk hvp
  have HY := Aside0.mk hy
  have HXS := Aside0.mk hxs
  clear hke hvp hy hxs
  have hwr : IntKind.u64.wrap (nn0 : Int) = (nn0 : Int) := wraps_u64 _ (by omega) (by omega)
  refine (callsIn_wide (n := 8)).1 ?_
  refine callsIn_of_wp_marks Tryd.func30 rfl trivial ?_ hro
  simp only [Tryd.ntmps30, List.size_toArray, List.length_cons, List.length_nil, Nat.reduceAdd, Nat.reduceSub, Array.replicate_succ, Array.replicate_zero, List.push_toArray, List.append_toArray, List.nil_append, List.cons_append]
  gi_wp2_with (first
    | (refine ⟨trivial, ?_⟩; gi_at_call 29; refine (callsIn_wide.2 (varint_Encode.calls ke (nn0 : Int) y _ HK.out)).mono ?_; rintro e w1 ⟨v1, rfl, ho, hb⟩; obtain ⟨g1, cp1, rfl, hg1, hg2, hcs⟩ := own_cells (be_own ho) (by have := HV.out; omega); have HO := Aside0.mk (be_own ho); have HB := Aside0.mk hb; have z0 := be_chain w w1 (nn0 : Int) A0_1 l0_1.length c0_1 (.slice (some ⟨g1, 0, none⟩) y.length cp1) (.func (.func 51) #[] #[.pointer (some ⟨w1.heap.size, 0, none⟩), .pointer (some ⟨w1.heap.size + 1 + 1, 0, none⟩), .pointer (some ⟨w1.heap.size + 1, 0, none⟩)]) HB.out; have z1 := z0.1; have z2 := z0.2; clear z0 ho hb hcs)
    | (refine ⟨trivial, ?_⟩; gi_at_call 52; refine (all_in Fence.wide 7 trivial hro (nn0 : Int) A0_1 l0_1.length c0_1 _).mono ?_; rintro e w' ⟨rfl, rfl⟩))
  obtain ⟨b, hb⟩ : ∃ b, b = w1.heap.size := ⟨_, rfl⟩
  have hsz1 : w.heap.size + 1 ≤ b := by have := HB.out.size; simp at this; omega
  obtain ⟨fv, hfv⟩ : ∃ fv, fv = Value.func (.func 51) #[] #[.pointer (some ⟨b, 0, none⟩), .pointer (some ⟨b + 1 + 1, 0, none⟩), .pointer (some ⟨b + 1, 0, none⟩)] := ⟨_, rfl⟩
  rw [← hb] at z1 z2 ⊢
  rw [← hfv] at z1 z2 ⊢
  obtain ⟨ag, hag⟩ : ∃ ag, ag = Value.slice (some ⟨g1, 0, none⟩) y.length cp1 := ⟨_, rfl⟩
  have b0 := Boxed.new w1 27 ag
  have b1 := Boxed.new (w1.alloc (.cells #[ag] 27)) 4 (.bool false)
  have b2 := Boxed.new ((w1.alloc (.cells #[ag] 27)).alloc (.cells #[.bool false] 4)) 3 (.int .i64 0)
  have b3 := Boxed.new (((w1.alloc (.cells #[ag] 27)).alloc (.cells #[.bool false] 4)).alloc (.cells #[.int .i64 0] 3)) 1 fv
  have b4 := Boxed.new ((((w1.alloc (.cells #[ag] 27)).alloc (.cells #[.bool false] 4)).alloc (.cells #[.int .i64 0] 3)).alloc (.cells #[fv] 1)) 3 (.int .i64 0)
  have b5 := r_new2 (((((w1.alloc (.cells #[ag] 27)).alloc (.cells #[.bool false] 4)).alloc (.cells #[.int .i64 0] 3)).alloc (.cells #[fv] 1)).alloc (.cells #[.int .i64 0] 3)) (.int .i64 (nn0 : Int)) (.slice A0_1 l0_1.length c0_1) 24
  have z3 := r_alloc (.cells #[.int .i64 (nn0 : Int), .slice A0_1 l0_1.length c0_1] 24) z1
  simp only [World.size_alloc, ← hb] at b0 b1 b2 b3 b4 b5
  have HO2 := HO.out
  rw [World.size_alloc, ← hag] at HO2
  have hE0 : EB b (w.heap.size + 1) (efold (nn0 : Int) []) fv ((((((w1.alloc (.cells #[ag] 27)).alloc (.cells #[.bool false] 4)).alloc (.cells #[.int .i64 0] 3)).alloc (.cells #[fv] 1)).alloc (.cells #[.int .i64 0] 3)).alloc (.cells #[.int .i64 (nn0 : Int), .slice A0_1 l0_1.length c0_1] 24)) := by
    refine EB.alloc ⟨ag, (((b0.alloc _).alloc _).alloc _).alloc _, ?_, ((b1.alloc _).alloc _).alloc _, (b2.alloc _).alloc _, b3.alloc _, b4⟩ _
    have e0 : (efold (nn0 : Int) []).P = y := by rw [HY.out]; simp [efold]
    rw [e0]
    exact ((((HO2.alloc _).alloc _).alloc _).alloc _).alloc _
  have hBw : Below w.heap.size w ((((((w1.alloc (.cells #[ag] 27)).alloc (.cells #[.bool false] 4)).alloc (.cells #[.int .i64 0] 3)).alloc (.cells #[fv] 1)).alloc (.cells #[.int .i64 0] 3)).alloc (.cells #[.int .i64 (nn0 : Int), .slice A0_1 l0_1.length c0_1] 24)) := by
    have q1 : Below w.heap.size w w1 := ((Below.refl w.heap.size w).alloc (Nat.le_refl _) _).trans (HB.out.mono (by simp))
    exact (((((q1.alloc (by omega) _).alloc (by simp; omega) _).alloc (by simp; omega) _).alloc (by simp; omega) _).alloc (by simp; omega) _).alloc (by simp; omega) _
  have hsz0 : ((((((w1.alloc (.cells #[ag] 27)).alloc (.cells #[.bool false] 4)).alloc (.cells #[.int .i64 0] 3)).alloc (.cells #[fv] 1)).alloc (.cells #[.int .i64 0] 3)).alloc (.cells #[.int .i64 (nn0 : Int), .slice A0_1 l0_1.length c0_1] 24)).heap.size = b + 6 := by simp [hb]
  rw [← hag] at z3 ⊢
  obtain ⟨W0, hW0⟩ : ∃ W0, W0 = ((((((w1.alloc (.cells #[ag] 27)).alloc (.cells #[.bool false] 4)).alloc (.cells #[.int .i64 0] 3)).alloc (.cells #[fv] 1)).alloc (.cells #[.int .i64 0] 3)).alloc (.cells #[.int .i64 (nn0 : Int), .slice A0_1 l0_1.length c0_1] 24)) := ⟨_, rfl⟩
  rw [← hW0] at b5 hE0 hBw hsz0 z3 ⊢
  clear hW0 b0 b1 b2 b3 b4 z1 z2 HO2 hb hag
  subst hfv
  refine wpIn_rangeFunc_ownG hro (by decide) (gf := 70) (lb := #[.pointer (some ⟨b + 1 + 1 + 1 + 1 + 1, 0, none⟩)]) rfl trivial (enters_of Tryd.func70 (by kernel_rfl) rfl)
    (all_stopsR Fence.wide 7 trivial trivial hro (by decide) (b + 1 + 1 + 1 + 1 + 1) (w.heap.size + 1) l0_1.length c0_1 A0_1 l0_1 hwok rfl (by omega) (by omega) W0 (by omega) (by omega) b5 (fun j hj => by
      obtain ⟨ad, e1, e2, e3⟩ := hwds j hj
      exact ⟨ad, e1, by omega, (hBw.cell (p := ad.add j) ((addr_block ad j).symm ▸ e2)).trans e3⟩) (hT.below hBw hpos)) belowK_t (belowK_b (by omega)) (Below.refl _ _) (fun _ => rfl)
    (fun pre W => EB b (w.heap.size + 1) (efold (nn0 : Int) (pre.map (·.1))) (Value.func (.func 51) #[] #[.pointer (some ⟨b, 0, none⟩), .pointer (some ⟨b + 1 + 1, 0, none⟩), .pointer (some ⟨b + 1, 0, none⟩)]) W ∧ Below (w.heap.size + 1) W0 W)
    (fun _ _ _ => False)
    (OwnFrom.and (Own.from (EB.own b (w.heap.size + 1) (fun pre : List (SubR (64 * l0_1.length)) => efold (nn0 : Int) (pre.map (·.1))) (Value.func (.func 51) #[] #[.pointer (some ⟨b, 0, none⟩), .pointer (some ⟨b + 1 + 1, 0, none⟩), .pointer (some ⟨b + 1, 0, none⟩)])) _) (ownFrom_below (by omega) (by omega)))
    (fun _ _ _ _ _ hs _ _ => hs)
    ⟨hE0, Below.refl _ _⟩
    (fun x => { tmps := #[.agg #[.int .i64 (nn0 : Int), .slice A0_1 l0_1.length c0_1], .pointer (some ⟨w.heap.size, 0, none⟩), .slice none 0 0, .pointer (some ⟨b, 0, none⟩), .pointer (some ⟨b + 1, 0, none⟩), .pointer (some ⟨b + 1 + 1, 0, none⟩), .pointer (some ⟨b + 1 + 1 + 1, 0, none⟩), .pointer (some ⟨b + 1 + 1 + 1 + 1, 0, none⟩), .int .i64 x.1, .pointer (some ⟨w.heap.size, 0, none⟩), .int .i64 (nn0 : Int), .int .u64 (nn0 : Int), ag, (Value.func (.func 51) #[] #[.pointer (some ⟨b, 0, none⟩), .pointer (some ⟨b + 1 + 1, 0, none⟩), .pointer (some ⟨b + 1, 0, none⟩)]), .agg #[.int .i64 (nn0 : Int), .slice A0_1 l0_1.length c0_1], .func (.func 70) #[] #[.pointer (some ⟨b + 1 + 1 + 1 + 1 + 1, 0, none⟩)], .int .i64 x.1, undef, undef, undef, undef, undef, undef, undef, undef, undef, undef, undef, undef, undef, undef, undef, undef, undef, undef, undef, undef, undef, undef, undef, undef, undef, undef, undef, undef, undef, undef, undef, undef, undef, undef, undef, undef, undef, undef], defers := [] }) ?assign ?body ?done ?stop
  case assign =>
    intro l x W K hK
    gi_wp2
    exact hK
  case body =>
    rintro l pre ⟨x, hx⟩ W ⟨hE, hB⟩ hlt
    have hpl : pre.length ≤ 1300000 := by
      have h1 := elsI_len2 l0_1 (64 * l0_1.length)
      omega
    obtain ⟨hi1, hi2, hi3, hi4, hi5⟩ := efold_inv (nn0 : Int) (64 * l0_1.length) (by omega) (by omega) (by omega) (pre.map (·.1)) (fun z hz => by
      obtain ⟨u, _, rfl⟩ := List.mem_map.1 hz
      exact u.2) (by rw [List.length_map]; omega)
    rw [List.length_map] at hi4 hi5
    have hst : efold (nn0 : Int) ((pre ++ [(⟨x, hx⟩ : SubR (64 * l0_1.length))]).map (·.1)) = estep (efold (nn0 : Int) (pre.map (·.1))) x := by
      rw [List.map_append, List.map_cons, List.map_nil, efold_snoc]
    obtain ⟨s, hs⟩ : ∃ s, s = efold (nn0 : Int) (pre.map (·.1)) := ⟨_, rfl⟩
    rw [← hs] at hE hi1 hi2 hi3 hi4 hi5 hst
    obtain ⟨hx0, hx1⟩ := hx
    have ew3 : IntKind.i64.wrap (x + 1) = x + 1 := IntWalk.i64_in _ (by omega)
    obtain ⟨c1, c2, c3, c4, c5, c6, _⟩ := hE.cells
    have HE := Aside0.mk hE
    have HBB := Aside0.mk hB
    have HST := Aside0.mk hst
    have HI := Aside0.mk (And.intro hi3 (And.intro hi4 hi5))
    have HPL := Aside0.mk hpl
    have HI2 := Aside0.mk (show 0 ≤ s.pos ∧ s.pos ≤ 2000000 ∧ x ≤ 2000000 by omega)
    have hn0 : w.heap.size + 1 ≤ b := hsz1
    have HSZ := Aside0.mk hn0
    clear hE hB hst hs hn0 hpos hT hwds hwok b5 z3 hsz0 hBw hE0 s1 s2 s3 s4 hxl hwr hr0_1 hc0_1 hlt hpl hi5 hi4 hi3 hi2 hi1 hsz1
    by_cases d1 : s.pos < x
    · have e1 : decide (s.pos < x) = true := decide_eq_true d1
      obtain ⟨d, hd⟩ : ∃ d, d = x - s.pos := ⟨_, rfl⟩
      have hd0 : 0 ≤ d ∧ d ≤ 2000000 := by have := HI2.out; omega
      have ewd : IntKind.i64.wrap (x - s.pos) = d := by rw [IntWalk.i64_in _ (by omega), hd]
      have HD := Aside0.mk hd
      have HD0 := Aside0.mk hd0
      by_cases d2 : s.on = true
      · rw [d2] at c1
        have e1s : estep s x = ⟨s.P ++ venc s.run.toNat ++ venc d.toNat, true, 1, x + 1⟩ := by
          unfold estep
          rw [eadv_inv s x d1, if_pos d2]
          simp [eset, eflush, hd]
        have HES := Aside0.mk e1s
        have ewr : IntKind.i64.wrap d = d := IntWalk.i64_in _ (by omega)
        clear hd hd0 e1s
        gi_wp2_with (first
          | (refine ⟨trivial, ?_⟩; gi_at_call 51; with_reducible refine (CallsIn.inRound l (callsIn_wide.2 (be_flush b (w.heap.size + 1) s (Value.func (.func 51) #[] #[.pointer (some ⟨b, 0, none⟩), .pointer (some ⟨b + 1 + 1, 0, none⟩), .pointer (some ⟨b + 1, 0, none⟩)]) _ HE.out HSZ.out HI.out.1 (by have := HI.out; have := HPL.out; omega) (by have := HI.out; have := HPL.out; omega)))).mono ?_; rintro e w1_ ⟨rfl, hf1, hf2, hf3⟩; have HF1 := Aside0.mk (And.intro hf1 (And.intro hf2 hf3)); have h1_ := EB.setRun hf1 d; simp only [eflush, d2, Bool.not_true] at h1_; obtain ⟨k11, k12, k13, k14, k15, k16, _⟩ := EB.cells (hf1); obtain ⟨k21, k22, k23, k24, k25, k26, _⟩ := EB.cells (h1_); simp only [eflush, d2, Bool.not_true] at k11 k12 k15; have HG1 := Aside0.mk h1_; clear h1_; clear hf1 hf2 hf3)
          | (refine ⟨trivial, ?_⟩; gi_at_call 51; with_reducible refine (CallsIn.inRound l (callsIn_wide.2 (be_flush b (w.heap.size + 1) ⟨s.P ++ venc s.run.toNat, false, d, s.pos⟩ (Value.func (.func 51) #[] #[.pointer (some ⟨b, 0, none⟩), .pointer (some ⟨b + 1 + 1, 0, none⟩), .pointer (some ⟨b + 1, 0, none⟩)]) _ HG1.out HSZ.out HD0.out.1 (show d < 4611686018427387904 by have := HD0.out; omega) (show (s.P ++ venc s.run.toNat).length ≤ 1000000000 by have := HI.out; have := HPL.out; have := venc_len10 s.run.toNat (by omega); simp only [List.length_append]; omega)))).mono ?_; rintro e w2_ ⟨rfl, hf1, hf2, hf3⟩; have HF2 := Aside0.mk (And.intro hf1 (And.intro hf2 hf3)); have h2_ := EB.setRun hf1 1; simp only [eflush, Bool.not_false] at h2_; have h3_ := EB.setPos h2_ (x + 1); obtain ⟨k31, k32, k33, k34, k35, k36, _⟩ := EB.cells (hf1); obtain ⟨k41, k42, k43, k44, k45, k46, _⟩ := EB.cells (h2_); simp only [eflush, Bool.not_false] at k31 k32 k35; have HG2 := Aside0.mk h3_; clear h2_ h3_; clear hf1 hf2 hf3))
        exact ⟨(((((HF1.out.2.2.trans (KeepsOthers.setCell _ _ _)).trans HF2.out.2.2).trans (KeepsOthers.setCell _ _ _)).trans (KeepsOthers.setCell _ _ _))).from _, ((((HF1.out.2.1).setCell (p := ⟨b + 1 + 1, 0, none⟩) (by have := HSZ.out; simp; omega) _).trans HF2.out.2.1).setCell (p := ⟨b + 1 + 1, 0, none⟩) (by have := HSZ.out; simp; omega) _).setCell (p := ⟨b + 1 + 1 + 1 + 1, 0, none⟩) (by have := HSZ.out; simp; omega) _, Eq.mpr (congrArg (fun s_ => EB b (w.heap.size + 1) s_ _ _) (HST.out.trans HES.out)) HG2.out, HBB.out.trans (((((HF1.out.2.1).setCell (p := ⟨b + 1 + 1, 0, none⟩) (by have := HSZ.out; simp; omega) _).trans HF2.out.2.1).setCell (p := ⟨b + 1 + 1, 0, none⟩) (by have := HSZ.out; simp; omega) _).setCell (p := ⟨b + 1 + 1 + 1 + 1, 0, none⟩) (by have := HSZ.out; simp; omega) _)⟩
      · have d3 : s.on = false := by simpa using d2
        rw [d3] at c1
        obtain ⟨rr, hrr⟩ : ∃ rr, rr = s.run + d := ⟨_, rfl⟩
        have HRD := Aside0.mk hrr
        have ewr : IntKind.i64.wrap (s.run + d) = rr := by rw [hrr]; exact IntWalk.i64_in _ (by have := HI.out; have := HPL.out; omega)
        have e1s : estep s x = ⟨s.P ++ venc rr.toNat, true, 1, x + 1⟩ := by
          unfold estep
          rw [eadv_inv s x d1, if_neg d2, ← hd, ← hrr]
          simp [eset, eflush]
        have HES := Aside0.mk e1s
        have h1_ := EB.setRun HE.out rr
        rw [d3] at h1_
        obtain ⟨k11, k12, k13, k14, k15, k16, _⟩ := EB.cells (h1_)
        simp only at k11 k12 k15
        have HG1 := Aside0.mk h1_
        clear hd hd0 e1s hrr h1_
        gi_wp2_with (first
          | (refine ⟨trivial, ?_⟩; gi_at_call 51; with_reducible refine (CallsIn.inRound l (callsIn_wide.2 (be_flush b (w.heap.size + 1) ⟨s.P, false, rr, s.pos⟩ (Value.func (.func 51) #[] #[.pointer (some ⟨b, 0, none⟩), .pointer (some ⟨b + 1 + 1, 0, none⟩), .pointer (some ⟨b + 1, 0, none⟩)]) _ HG1.out HSZ.out (show 0 ≤ rr by have := HI.out; have := HD0.out; have := HRD.out; omega) (show rr < 4611686018427387904 by have := HI.out; have := HPL.out; have := HD0.out; have := HRD.out; omega) (show s.P.length ≤ 1000000000 by have := HI.out; have := HPL.out; omega)))).mono ?_; rintro e w2_ ⟨rfl, hf1, hf2, hf3⟩; have HF2 := Aside0.mk (And.intro hf1 (And.intro hf2 hf3)); have h2_ := EB.setRun hf1 1; simp only [eflush, Bool.not_false] at h2_; have h3_ := EB.setPos h2_ (x + 1); obtain ⟨k31, k32, k33, k34, k35, k36, _⟩ := EB.cells (hf1); obtain ⟨k41, k42, k43, k44, k45, k46, _⟩ := EB.cells (h2_); simp only [eflush, Bool.not_false] at k31 k32 k35; have HG2 := Aside0.mk h3_; clear h2_ h3_; clear hf1 hf2 hf3))
        exact ⟨(((((KeepsOthers.setCell _ _ _).trans HF2.out.2.2).trans (KeepsOthers.setCell _ _ _)).trans (KeepsOthers.setCell _ _ _))).from _, ((((Below.refl (w.heap.size + 1) W).setCell (p := ⟨b + 1 + 1, 0, none⟩) (by have := HSZ.out; simp; omega) _).trans HF2.out.2.1).setCell (p := ⟨b + 1 + 1, 0, none⟩) (by have := HSZ.out; simp; omega) _).setCell (p := ⟨b + 1 + 1 + 1 + 1, 0, none⟩) (by have := HSZ.out; simp; omega) _, Eq.mpr (congrArg (fun s_ => EB b (w.heap.size + 1) s_ _ _) (HST.out.trans HES.out)) HG2.out, HBB.out.trans (((((Below.refl (w.heap.size + 1) W).setCell (p := ⟨b + 1 + 1, 0, none⟩) (by have := HSZ.out; simp; omega) _).trans HF2.out.2.1).setCell (p := ⟨b + 1 + 1, 0, none⟩) (by have := HSZ.out; simp; omega) _).setCell (p := ⟨b + 1 + 1 + 1 + 1, 0, none⟩) (by have := HSZ.out; simp; omega) _)⟩
    · have e1 : decide (s.pos < x) = false := decide_eq_false d1
      by_cases d2 : s.on = true
      · rw [d2] at c1
        have ew1 : IntKind.i64.wrap (s.run + 1) = s.run + 1 := IntWalk.i64_in _ (by have := HI.out; have := HPL.out; omega)
        have e1s : estep s x = ⟨s.P, s.on, s.run + 1, x + 1⟩ := by
          unfold estep
          rw [eadv_same s x d1, eset, if_pos d2]
        gi_wp2
        exact ⟨((KeepsOthers.setCell _ _ _).trans (KeepsOthers.setCell _ _ _)).from _, ((Below.refl (w.heap.size + 1) W).setCell (p := ⟨b + 1 + 1, 0, none⟩) (by have := HSZ.out; simp; omega) _).setCell (p := ⟨b + 1 + 1 + 1 + 1, 0, none⟩) (by have := HSZ.out; simp; omega) _, Eq.mpr (congrArg (fun s_ => EB b (w.heap.size + 1) s_ _ _) (HST.out.trans e1s)) ((HE.out.setRun _).setPos _), (HBB.out.setCell (p := ⟨b + 1 + 1, 0, none⟩) (by have := HSZ.out; simp; omega) _).setCell (p := ⟨b + 1 + 1 + 1 + 1, 0, none⟩) (by have := HSZ.out; simp; omega) _⟩
      · have d3 : s.on = false := by simpa using d2
        rw [d3] at c1
        have e1s : estep s x = ⟨s.P ++ venc s.run.toNat, true, 1, x + 1⟩ := by
          unfold estep
          rw [eadv_same s x d1]
          simp [eset, eflush, d3]
        have HES := Aside0.mk e1s
        clear e1s
        gi_wp2_with (first
          | (refine ⟨trivial, ?_⟩; gi_at_call 51; with_reducible refine (CallsIn.inRound l (callsIn_wide.2 (be_flush b (w.heap.size + 1) s (Value.func (.func 51) #[] #[.pointer (some ⟨b, 0, none⟩), .pointer (some ⟨b + 1 + 1, 0, none⟩), .pointer (some ⟨b + 1, 0, none⟩)]) _ HE.out HSZ.out HI.out.1 (by have := HI.out; have := HPL.out; omega) (show s.P.length ≤ 1000000000 by have := HI.out; have := HPL.out; omega)))).mono ?_; rintro e w2_ ⟨rfl, hf1, hf2, hf3⟩; have HF2 := Aside0.mk (And.intro hf1 (And.intro hf2 hf3)); have h2_ := EB.setRun hf1 1; simp only [eflush, d3, Bool.not_false] at h2_; have h3_ := EB.setPos h2_ (x + 1); obtain ⟨k31, k32, k33, k34, k35, k36, _⟩ := EB.cells (hf1); obtain ⟨k41, k42, k43, k44, k45, k46, _⟩ := EB.cells (h2_); simp only [eflush, d3, Bool.not_false] at k31 k32 k35; have HG2 := Aside0.mk h3_; clear h2_ h3_; clear hf1 hf2 hf3))
        exact ⟨(((HF2.out.2.2.trans (KeepsOthers.setCell _ _ _)).trans (KeepsOthers.setCell _ _ _))).from _, ((HF2.out.2.1).setCell (p := ⟨b + 1 + 1, 0, none⟩) (by have := HSZ.out; simp; omega) _).setCell (p := ⟨b + 1 + 1 + 1 + 1, 0, none⟩) (by have := HSZ.out; simp; omega) _, Eq.mpr (congrArg (fun s_ => EB b (w.heap.size + 1) s_ _ _) (HST.out.trans HES.out)) HG2.out, HBB.out.trans (((HF2.out.2.1).setCell (p := ⟨b + 1 + 1, 0, none⟩) (by have := HSZ.out; simp; omega) _).setCell (p := ⟨b + 1 + 1 + 1 + 1, 0, none⟩) (by have := HSZ.out; simp; omega) _)⟩
  case done =>
    rintro D ys W hD hys ⟨hE, hB⟩ hK
    have hys2 : ys.map (·.1) = xs := hys.trans HXS.out.symm
    obtain ⟨hi1, hi2, hi3, hi4, hi5⟩ := efold_inv (nn0 : Int) (64 * l0_1.length) (by omega) (by omega) (by omega) xs HX.out.2 (by omega)
    rw [hys2] at hE
    obtain ⟨s, hs⟩ : ∃ s, s = efold (nn0 : Int) xs := ⟨_, rfl⟩
    rw [← hs] at hE hi1 hi2 hi3 hi4 hi5
    have HSS := Aside0.mk hs
    obtain ⟨c1, c2, c3, c4, c5, c6, _⟩ := hE.cells
    have cN := (hB.cell (p := ⟨w.heap.size, 0, none⟩) (by simp)).trans z3
    have HE := Aside0.mk hE
    have HI := Aside0.mk (And.intro hi3 (And.intro hi4 hi5))
    have HI2 := Aside0.mk (show 0 ≤ s.pos ∧ s.pos ≤ 2000000 ∧ xs.length ≤ 1300000 ∧ nn0 ≤ 2000000 by omega)
    have HSZ := Aside0.mk hsz1
    have HD := Aside0.mk (show w.heap.size + 1 ≤ D by omega)
    have HBT := Aside0.mk (hBw.trans (hB.mono (Nat.le_succ _)))
    have HXL := Aside0.mk hxl
    clear hE hB hs hpos hT hwds hwok b5 z3 hsz0 hBw hE0 s1 s2 s3 s4 hxl hwr hr0_1 hc0_1 hi5 hi4 hi3 hi2 hi1 hsz1 hys hys2 hD
    by_cases d1 : s.pos < (nn0 : Int)
    · have D1 := Aside0.mk d1
      have e1 : decide (s.pos < (nn0 : Int)) = true := decide_eq_true d1
      have hN : (0 : Int) < (nn0 : Int) := by have := HI2.out; omega
      have hNd : decide ((0 : Int) < (nn0 : Int)) = true := decide_eq_true hN
      have hNp : 0 < nn0 := by omega
      have HNN := Aside0.mk hNp
      obtain ⟨d, hd⟩ : ∃ d, d = (nn0 : Int) - s.pos := ⟨_, rfl⟩
      have hd0 : 0 ≤ d ∧ d ≤ 2000000 := by have := HI2.out; omega
      have ewd : IntKind.i64.wrap ((nn0 : Int) - s.pos) = d := by rw [IntWalk.i64_in _ (by omega), hd]
      have HDD := Aside0.mk hd
      have HD0 := Aside0.mk hd0
      by_cases d2 : s.on = true
      · have D2 := Aside0.mk d2
        rw [d2] at c1
        have ewr : IntKind.i64.wrap d = d := IntWalk.i64_in _ (by omega)
        clear hd hd0
        gi_wp2
        refine ⟨trivial, ?_⟩
        gi_at_call 51
        with_reducible refine (callsIn_wide.2 (be_flush b (w.heap.size + 1) s (Value.func (.func 51) #[] #[.pointer (some ⟨b, 0, none⟩), .pointer (some ⟨b + 1 + 1, 0, none⟩), .pointer (some ⟨b + 1, 0, none⟩)]) _ HE.out HSZ.out HI.out.1 (by have := HI.out; have := HI2.out; omega) (by have := HI.out; have := HI2.out; omega))).mono ?_
        rintro e w1_ ⟨rfl, hf1, hf2, hf3⟩
        have HF1 := Aside0.mk (And.intro hf1 (And.intro hf2 hf3))
        have h1_ := EB.setRun hf1 d
        simp only [eflush, d2, Bool.not_true] at h1_
        have z5 := (hf2.cell (p := ⟨w.heap.size, 0, none⟩) (by simp)).trans cN
        have z4 := r_other (a := ⟨b + 1 + 1, 0, none⟩) ((hf2.cell (p := ⟨w.heap.size, 0, none⟩) (by simp)).trans cN) (by have := HSZ.out; simp; omega) (.int .i64 d)
        obtain ⟨k11, k12, k13, k14, k15, k16, _⟩ := EB.cells (hf1)
        obtain ⟨k21, k22, k23, k24, k25, k26, _⟩ := EB.cells (h1_)
        simp only [eflush, d2, Bool.not_true] at k11 k12 k15
        have HG1 := Aside0.mk h1_
        clear h1_
        clear hf1 hf2 hf3
        gi_wp2
        refine ⟨trivial, ?_⟩
        gi_at_call 51
        with_reducible refine (callsIn_wide.2 (be_flush b (w.heap.size + 1) ⟨s.P ++ venc s.run.toNat, false, d, s.pos⟩ (Value.func (.func 51) #[] #[.pointer (some ⟨b, 0, none⟩), .pointer (some ⟨b + 1 + 1, 0, none⟩), .pointer (some ⟨b + 1, 0, none⟩)]) _ HG1.out HSZ.out HD0.out.1 (show d < 4611686018427387904 by have := HD0.out; omega) (show (s.P ++ venc s.run.toNat).length ≤ 1000000000 by have := HI.out; have := HI2.out; have := venc_len10 s.run.toNat (by omega); simp only [List.length_append]; omega))).mono ?_
        rintro e w2_ ⟨rfl, hf1, hf2, hf3⟩
        have HFE := Aside0.mk hf1
        obtain ⟨v9, q0_, q1_, _, _, _, _⟩ := hf1
        have q2_ := q0_.cell
        have HV9 := Aside0.mk q1_
        have HF2 := Aside0.mk (And.intro hf2 hf3)
        clear q0_ q1_ hf2 hf3
        gi_wp2
        have hK2 := (((HF1.out.2.2.trans (KeepsOthers.setCell _ _ _)).trans HF2.out.2)).same D _ hK rfl
        refine ⟨by simp, .inl ⟨_, _, rfl, run_takeDeferred hK2, ?_⟩⟩
        have hres : r = s.P ++ venc s.run.toNat ++ venc d.toNat := by rw [← HRR.out]; unfold bencI efin; rw [← HSS.out]; rw [if_pos (by have := HNN.out; omega), eadv_inv s _ D1.out, if_pos D2.out, ← HDD.out]; rfl
        refine ⟨_, results_tmp rfl _ _ _, v9, rfl, Kd.R_lower (Kd.R_of_own (enc := Value.int .u8) (h1 := fun _ => rfl) (base := w.heap.size + 1) (ownsRow_putObj (by rw [hres]; exact HV9.out) _ hK2 rfl) (fun _ _ => trivial)) (Nat.le_succ _), ?_⟩
        exact (HBT.out.trans ((((HF1.out.2.1).setCell (p := ⟨b + 1 + 1, 0, none⟩) (by have := HSZ.out; simp; omega) _).trans HF2.out.1).mono (Nat.le_succ _))).trans (belowK_b (w := w) (Nat.le_refl _) _ D _ _ (by have := HSZ.out; have := HD.out; omega) hK2 rfl rfl)
      · have D2 := Aside0.mk d2
        have d3 : s.on = false := by simpa using d2
        rw [d3] at c1
        obtain ⟨rr, hrr⟩ : ∃ rr, rr = s.run + d := ⟨_, rfl⟩
        have HRD := Aside0.mk hrr
        have ewr : IntKind.i64.wrap (s.run + d) = rr := by rw [hrr]; exact IntWalk.i64_in _ (by have := HI.out; have := HI2.out; omega)
        have h1_ := EB.setRun HE.out rr
        rw [d3] at h1_
        obtain ⟨k11, k12, k13, k14, k15, k16, _⟩ := EB.cells (h1_)
        simp only at k11 k12 k15
        have HG1 := Aside0.mk h1_
        have z4 := r_other (a := ⟨b + 1 + 1, 0, none⟩) cN (by have := HSZ.out; simp; omega) (.int .i64 rr)
        clear hd hd0 hrr h1_
        gi_wp2
        refine ⟨trivial, ?_⟩
        gi_at_call 51
        with_reducible refine (callsIn_wide.2 (be_flush b (w.heap.size + 1) ⟨s.P, false, rr, s.pos⟩ (Value.func (.func 51) #[] #[.pointer (some ⟨b, 0, none⟩), .pointer (some ⟨b + 1 + 1, 0, none⟩), .pointer (some ⟨b + 1, 0, none⟩)]) _ HG1.out HSZ.out (show 0 ≤ rr by have := HI.out; have := HD0.out; have := HRD.out; omega) (show rr < 4611686018427387904 by have := HI.out; have := HI2.out; have := HD0.out; have := HRD.out; omega) (show s.P.length ≤ 1000000000 by have := HI.out; have := HI2.out; omega))).mono ?_
        rintro e w2_ ⟨rfl, hf1, hf2, hf3⟩
        have HFE := Aside0.mk hf1
        obtain ⟨v9, q0_, q1_, _, _, _, _⟩ := hf1
        have q2_ := q0_.cell
        have HV9 := Aside0.mk q1_
        have HF2 := Aside0.mk (And.intro hf2 hf3)
        clear q0_ q1_ hf2 hf3
        gi_wp2
        have hK2 := (((KeepsOthers.setCell _ _ _).trans HF2.out.2)).same D _ hK rfl
        refine ⟨by simp, .inl ⟨_, _, rfl, run_takeDeferred hK2, ?_⟩⟩
        have hres : r = s.P ++ venc rr.toNat := by rw [← HRR.out]; unfold bencI efin; rw [← HSS.out]; rw [if_pos (by have := HNN.out; omega), eadv_inv s _ D1.out, if_neg D2.out, ← HDD.out, ← HRD.out]; rfl
        refine ⟨_, results_tmp rfl _ _ _, v9, rfl, Kd.R_lower (Kd.R_of_own (enc := Value.int .u8) (h1 := fun _ => rfl) (base := w.heap.size + 1) (ownsRow_putObj (by rw [hres]; exact HV9.out) _ hK2 rfl) (fun _ _ => trivial)) (Nat.le_succ _), ?_⟩
        exact (HBT.out.trans ((((Below.refl (w.heap.size + 1) W).setCell (p := ⟨b + 1 + 1, 0, none⟩) (by have := HSZ.out; simp; omega) _).trans HF2.out.1).mono (Nat.le_succ _))).trans (belowK_b (w := w) (Nat.le_refl _) _ D _ _ (by have := HSZ.out; have := HD.out; omega) hK2 rfl rfl)
    · have D1 := Aside0.mk d1
      have e1 : decide (s.pos < (nn0 : Int)) = false := decide_eq_false d1
      by_cases hN : (0 : Int) < (nn0 : Int)
      · have hNd : decide ((0 : Int) < (nn0 : Int)) = true := decide_eq_true hN
        have hNp : 0 < nn0 := by omega
        have HNN := Aside0.mk hNp
        gi_wp2
        refine ⟨trivial, ?_⟩
        gi_at_call 51
        with_reducible refine (callsIn_wide.2 (be_flush b (w.heap.size + 1) s (Value.func (.func 51) #[] #[.pointer (some ⟨b, 0, none⟩), .pointer (some ⟨b + 1 + 1, 0, none⟩), .pointer (some ⟨b + 1, 0, none⟩)]) _ HE.out HSZ.out HI.out.1 (by have := HI.out; have := HI2.out; omega) (by have := HI.out; have := HI2.out; omega))).mono ?_
        rintro e w2_ ⟨rfl, hf1, hf2, hf3⟩
        have HFE := Aside0.mk hf1
        obtain ⟨v9, q0_, q1_, _, _, _, _⟩ := hf1
        have q2_ := q0_.cell
        have HV9 := Aside0.mk q1_
        have HF2 := Aside0.mk (And.intro hf2 hf3)
        clear q0_ q1_ hf2 hf3
        gi_wp2
        have hK2 := (HF2.out.2).same D _ hK rfl
        refine ⟨by simp, .inl ⟨_, _, rfl, run_takeDeferred hK2, ?_⟩⟩
        have hres : r = s.P ++ venc s.run.toNat := by rw [← HRR.out]; unfold bencI efin; rw [← HSS.out]; rw [if_pos (by have := HNN.out; omega), eadv_same s _ (by have := D1.out; omega)]; rfl
        refine ⟨_, results_tmp rfl _ _ _, v9, rfl, Kd.R_lower (Kd.R_of_own (enc := Value.int .u8) (h1 := fun _ => rfl) (base := w.heap.size + 1) (ownsRow_putObj (by rw [hres]; exact HV9.out) _ hK2 rfl) (fun _ _ => trivial)) (Nat.le_succ _), ?_⟩
        exact (HBT.out.trans ((HF2.out.1).mono (Nat.le_succ _))).trans (belowK_b (w := w) (Nat.le_refl _) _ D _ _ (by have := HSZ.out; have := HD.out; omega) hK2 rfl rfl)
      · have hNd : decide ((0 : Int) < (nn0 : Int)) = false := decide_eq_false hN
        have hNp : nn0 = 0 := by omega
        have HNN := Aside0.mk hNp
        obtain ⟨v9, q0_, q1_, _, _, _, _⟩ := HE.out
        have q2_ := q0_.cell
        have HV9 := Aside0.mk q1_
        clear q0_ q1_
        gi_wp2
        have hK2 := (KeepsOthers.refl W).same D _ hK rfl
        refine ⟨by simp, .inl ⟨_, _, rfl, run_takeDeferred hK2, ?_⟩⟩
        have hres : r = s.P := by rw [← HRR.out]; unfold bencI efin; rw [← HSS.out]; rw [if_neg (by have := HNN.out; omega), eadv_same s _ (by have := D1.out; omega)]
        refine ⟨_, results_tmp rfl _ _ _, v9, rfl, Kd.R_lower (Kd.R_of_own (enc := Value.int .u8) (h1 := fun _ => rfl) (base := w.heap.size + 1) (ownsRow_putObj (by rw [hres]; exact HV9.out) _ hK2 rfl) (fun _ _ => trivial)) (Nat.le_succ _), ?_⟩
        exact (HBT.out.trans ((Below.refl (w.heap.size + 1) W).mono (Nat.le_succ _))).trans (belowK_b (w := w) (Nat.le_refl _) _ D _ _ (by have := HSZ.out; have := HD.out; omega) hK2 rfl rfl)
  case stop =>
    rintro D c pre W _ _ h _
    exact h.elim
end

/-! ### varint_Concat: function 28 -/
def varint_Concat.l0 : Nat → List Int → List (List Int) → Int → Int → Option (List Int)
 | 0, _, _, _, _ => none
 | k + 1, x3, x6, x7, x8 => if x8 < x7 then (if 0 ≤ x8 then (if x8 < (x6.length : Int) then (if x3.length + (rd_L5 x6 x8).length < 140737488355328 then (varint_Concat.l0 k (x3 ++ (rd_L5 x6 x8)) x6 x7 (wrap64 (x8 + 1))) else (none)) else (none)) else (none)) else (some x3)
def varint_Concat.f (k : Nat) (l0 : List (List Int)) : Option (List Int) := varint_Concat.l0 k ([] : List Int) l0 (l0.length : Int) 0
theorem varint_Concat.mono_l : ∀ k, (∀ y0 y1 y2 y3, LeO (varint_Concat.l0 k y0 y1 y2 y3) (varint_Concat.l0 (k + 1) y0 y1 y2 y3))
 | 0 => fun _ _ _ _ r h => by simp [varint_Concat.l0] at h
 | k + 1 => by
  have ih0 := varint_Concat.mono_l k
  ·intro y0 y1 y2 y3
   unfold varint_Concat.l0
   repeat' first
   | (with_reducible exact ih0 _ _ _ _)
   | (with_reducible exact LeO.refl _)
   | (with_reducible exact LeO.none _)
   | (with_reducible refine LeO.ite ?_ ?_)
   | (with_reducible refine LeO.bind ?_ (fun _ => ?_))
   | exact ih0 _ _ _ _
   | exact LeO.none _
   | refine LeO.ite ?_ ?_
   | refine LeO.bind ?_ (fun _ => ?_)
theorem varint_Concat.mono : ∀ a0 k, LeO (varint_Concat.f k a0) (varint_Concat.f (k + 1) a0) := by
 intro a0 k
 have ih0 := varint_Concat.mono_l k
 unfold varint_Concat.f
 repeat' first
   | (with_reducible exact ih0 _ _ _ _)
   | (with_reducible exact LeO.refl _)
   | (with_reducible exact LeO.none _)
   | (with_reducible refine LeO.ite ?_ ?_)
   | (with_reducible refine LeO.bind ?_ (fun _ => ?_))
   | exact ih0 _ _ _ _
   | exact LeO.none _
   | refine LeO.ite ?_ ?_
   | refine LeO.bind ?_ (fun _ => ?_)
set_option maxHeartbeats 8000000 in
set_option maxRecDepth 100000 in
theorem varint_Concat.calls (k : Nat) (A0 : Option Addr) (c0 : Nat) (l0 : List (List Int)) (r : List Int) (w : World) (hr0 : Kd.C (Kd.slice 5 (Kd.int .u8)) w A0 l0.length l0) (hc0 : l0.length ≤ c0) (h : varint_Concat.f k l0 = some r) :
  Calls Tryd.prog 28 #[.slice A0 l0.length c0] w fun e w' => ∃ v0_ : Value, e = .returned (v0_) ∧ Kd.R (Kd.int .u8) 5 w' w.heap.size (fun _ => True) v0_ r ∧ Below w.heap.size w w' := by
 have HR0 := Aside0.mk hr0
 have HC0 := Aside0.mk hc0
 clear hr0 hc0
 have HB := Aside0.mk (Below.refl w.heap.size w)
 have H : (varint_Concat.l0 k ([] : List Int) l0 (l0.length : Int) 0) = some r := h
 clear h
 have H' := Aside0.mk H
 clear H
 go_enter Tryd.func28, Tryd.ntmps28
 go_wp2
 go_loopg [3, 8] k (fun kq v3 v8 w' => ∃ (x3_1 : List Int) (x8_1 : Int), v8 = .int .i64 x8_1 ∧ Aside0 (varint_Concat.l0 kq x3_1 l0 (l0.length : Int) x8_1 = some r) ∧ Aside0 (kq ≤ k) ∧ Aside0 (Kd.R (Kd.int .u8) 5 w' w.heap.size (fun _ => True) v3 x3_1) ∧ Aside0 (Below w.heap.size w w'))
 case atStart => exact ⟨(([] : List Int)), (0), (by first | rfl | (simp; done) | (simp [*]; done)), H', ⟨Nat.le_refl _⟩, ⟨by first | exact Kd.R_nil _ _ _ _ _ | exact Kd.N_nil _ _ _ _ _ | exact Kd.V_nil _ _ _ _ _ | exact Kd.Q_nil _ _ _ _ _ | exact Kd.S_nil _ _ _ _ _⟩, ⟨by repeat (first | (with_reducible first | exact HB.out | apply below_alloc | apply pw_below_drewN | apply below_drew1) | exact HB.out)⟩⟩
 case round =>
  clear H'
  obtain ⟨x3_1, x8_1, rfl, HA, HK1, HO_3, HB⟩ := hrel
  cases gk with
  | zero => exact absurd HA.out (by simp [varint_Concat.l0])
  | succ k1 =>
   have H := HA.out
   clear HA
   simp only [varint_Concat.l0] at H
   by_cases c2 : x8_1 < (l0.length : Int)
   ·rw [if_pos c2] at H
    have c2b0 : decide (x8_1 < (l0.length : Int)) = true := decide_eq_true c2
    clear c2
    by_cases c3 : 0 ≤ x8_1
    ·rw [if_pos c3] at H
     have c3b0 : decide (0 ≤ x8_1) = true := decide_eq_true c3
     clear c3
     by_cases c4 : x8_1 < (l0.length : Int)
     ·rw [if_pos c4] at H
      have c4b0 : decide (x8_1 < (l0.length : Int)) = true := decide_eq_true c4
      clear c4
      by_cases c5 : x3_1.length + (rd_L5 l0 x8_1).length < 140737488355328
      ·rw [if_pos c5] at H
       have LMc5 := Aside0.mk c5
       clear c5
       obtain ⟨y112, hy112⟩ : ∃ y_ : List Int, y_ = (x3_1 ++ (rd_L5 l0 x8_1)) := ⟨_, rfl⟩
       replace H : (varint_Concat.l0 k1 y112 l0 (l0.length : Int) (wrap64 (x8_1 + 1))) = some r := by first | (rw [hy112]; with_reducible exact H) | (have H2_ := (Option.bind_some _ _).symm.trans H; rw [hy112]; with_reducible exact H2_) | (have H2_ := (Option.bind_some _ _).symm.trans H; with_reducible exact H2_) | with_reducible exact H | (rw [hy112]; exact H) | exact H
       have Ny112 := Aside0.mk hy112
       clear hy112
       have H' := Aside0.mk H
       clear H
       have p111 : 0 ≤ (x8_1 : Int) := of_decide_eq_true (by first | (with_reducible assumption) | assumption)
       have q111 : x8_1 < (l0.length : Int) := of_decide_eq_true (by first | (with_reducible assumption) | assumption)
       obtain ⟨ad111, A111_0, c111_0, e111, hx111_0, hl111_0, hi111_0⟩ := at_L5 HR0.out x8_1 p111 q111
       cases e111
       replace hx111_0 := (HB.out.cell (World.block_lt_of_cell? w _ hx111_0)).trans hx111_0
       have HR111_0 := Aside0.mk hi111_0
       have HC111_0 := Aside0.mk hl111_0
       clear hi111_0 hl111_0
       replace p111 := eq_true p111
       replace q111 := eq_true q111
       go_wp2_with (first | ((with_reducible refine gate_builtin (b := .append) (xs := #[.tmp 12, .tmp 13]) rfl ?_); at_builtin; refine Kd.R_append_rows (Kd.int .u8) (w0 := w) w.heap.size rfl (.tmp 12) (.tmp 13) 27 5 (.int .u8 0) 1 rfl Tryd.underlying27 info5 rfl (by decide) (by omega) u3 x3_1 (rd_L5 l0 x8_1) _ _ _ (fun _ => True) (fun _ => False) rfl rfl ?aO ?aR (fun _ _ h => h) (fun _ h => h.elim) ?aF ?aB ?aS ?aL ?_; (case aR => repeat (first | exact (Kd.C_below HR111_0.out HB.out) | (with_reducible refine Kd.C_alloc ?_ _) | (with_reducible refine Kd.C_drewN ?_ _) | (with_reducible refine Kd.C_drew ?_))); (case aB => exact (by repeat (first | (with_reducible first | exact HB.out | apply below_alloc | apply pw_below_drewN | apply below_drew1) | exact HB.out))); (case aF => exact (fun _ _ => trivial)); (case aO => exact (by (with_reducible repeat (first | apply Kd.R_alloc | apply Kd.R_drewN | apply Kd.R_drew)); exact HO_3.out)); (case aS => exact (below_size (by repeat (first | (with_reducible first | exact HB.out | apply below_alloc | apply pw_below_drewN | apply below_drew1) | exact HB.out)))); (case aL => have := LMc5.out; omega); intro v113 w6 ho hb hg hat; rw [← Ny112.out] at ho; have n0_ := Aside0.mk (hb); have n1_ := Aside0.mk (ho); clear HB; clear HO_3; have HB := n0_; have HO114 := n1_; clear n0_ n1_; clear ho hb hg hat))
       go_roundg k1
       case measure => have := HK1.out; omega
       case rel => exact ⟨(y112), (wrap64 (x8_1 + 1)), (by first | rfl | (simp; done) | (simp [*]; done)), H', ⟨by have := HK1.out; omega⟩, ⟨by (with_reducible repeat (first | apply Kd.R_alloc | apply Kd.R_drewN | apply Kd.R_drew)); exact HO114.out⟩, ⟨by repeat (first | (with_reducible first | exact HB.out | apply below_alloc | apply pw_below_drewN | apply below_drew1) | exact HB.out)⟩⟩
      ·rw [if_neg c5] at H
       exact absurd H (by simp)
     ·rw [if_neg c4] at H
      exact absurd H (by simp)
    ·rw [if_neg c3] at H
     exact absurd H (by simp)
   ·rw [if_neg c2] at H
    have c2b0 : decide (x8_1 < (l0.length : Int)) = false := decide_eq_false c2
    clear c2
    obtain rfl := Option.some.inj H
    go_wp2
    go_ret
    exact ⟨_, by first | rfl | (simp [errW_none, errW_some] <;> rfl) | (simp [*, errW_none, errW_some] <;> rfl), by (with_reducible repeat (first | apply Kd.R_alloc | apply Kd.R_drewN | apply Kd.R_drew)); exact HO_3.out, by repeat (first | (with_reducible first | exact HB.out | apply below_alloc | apply pw_below_drewN | apply below_drew1) | exact HB.out)⟩

end Go.Proofs.YtfonjlolliiaeaaDoor.QDelvecApplies
