-- Written by a program of this session (wip/pr2.sh): the walk of the Go text, function by function.
import Derived.Test.YtjeheopcohnkeaaQBloomContainsx0
namespace Go.Proofs.Ytjeheopcohnkeaa.QBloomContains
open Go.RowKit Go.Proofs.YtjeheopcohnkeaaW.PrintWords Go.Proofs.YtjeheopcohnkeaaW.PrintLast Go.Proofs.YtjeheopcohnkeaaW.PrintMore
open Go.Proofs.YtjeheopcohnkeaaM
attribute [local go_sem] max2_int min2_int max_two min_two max_three min_three max_four min_four   -- for this text's walks alone
set_option linter.unusedVariables false
set_option linter.unusedSimpArgs false

/-! ### laminaref04_Valid: function 9 -/
def laminaref04_Valid.f (a0_0 : Int) (a0_1 : Int) (a0_2 : ByteArray) : Option (Bool) := if a0_0 = 0 then (if a0_1 = 0 then (some (a0_2.toList == ([] : List UInt8))) else (some false)) else (if a0_0 = 1 then (if a0_1 = 0 then (some (a0_2.toList == ([] : List UInt8))) else (if a0_1 = 1 then (some (a0_2.toList == ([] : List UInt8))) else (some false))) else (if a0_0 = 2 then (some (a0_2.toList == ([] : List UInt8))) else (if a0_0 = 3 then (if a0_1 = 0 then (some (decide ((a0_2.size : Int) ≤ 4096))) else (some false)) else (some false))))
set_option maxHeartbeats 8000000 in
set_option maxRecDepth 100000 in
theorem laminaref04_Valid.calls (a0_0 : Int) (a0_1 : Int) (a0_2 : ByteArray) (r : Bool) (w : World) (h : laminaref04_Valid.f a0_0 a0_1 a0_2 = some r) :
  Calls Try.prog 9 #[.agg #[.int .i64 a0_0, .int .i64 a0_1, .string a0_2]] w fun e w' => e = .returned (.bool r) ∧ Below w.heap.size w w' := by
 have hu24 := Try.underlying24
 have HB := Aside0.mk (Below.refl w.heap.size w)
 have H : (if a0_0 = 0 then (if a0_1 = 0 then (some (a0_2.toList == ([] : List UInt8))) else (some false)) else (if a0_0 = 1 then (if a0_1 = 0 then (some (a0_2.toList == ([] : List UInt8))) else (if a0_1 = 1 then (some (a0_2.toList == ([] : List UInt8))) else (some false))) else (if a0_0 = 2 then (some (a0_2.toList == ([] : List UInt8))) else (if a0_0 = 3 then (if a0_1 = 0 then (some (decide ((a0_2.size : Int) ≤ 4096))) else (some false)) else (some false))))) = some r := h
 clear h
 by_cases c2 : a0_0 = 0
 ·rw [if_pos c2] at H
  have c2b0 : (a0_0 == 0) = true := beq_iff_eq.mpr c2
  have c2b1 : (a0_0 != 0) = false := bne_eq_false_iff_eq.mpr c2
  clear c2
  by_cases c3 : a0_1 = 0
  ·rw [if_pos c3] at H
   have c3b0 : (a0_1 == 0) = true := beq_iff_eq.mpr c3
   have c3b1 : (a0_1 != 0) = false := bne_eq_false_iff_eq.mpr c3
   clear c3
   obtain rfl := Option.some.inj H
   go_enter Try.func9, Try.ntmps9
   go_wp2_with (first | ((with_reducible refine gate_dst (N := 1) rfl ?_); (try (refine gate_guard (by rfl) ?_; dsimp only)); refine box_event ?hg (N := 1) ?hd (cs := #[.int .i64 a0_0, .int .i64 a0_1, .string a0_2]) (t := 24) ?hr ?_; (case hd => rfl); (case hg => (first | rfl | (simp only [*]; rfl) | (simp [*]; done))); (case hr => first | (go_simp; done) | (go_simp; rfl)); intro gb101 hg w4 hbox hb; have n0_ := Aside0.mk (below_step (by repeat (first | (with_reducible first | exact HB.out | apply below_alloc | apply pw_below_drewN | apply below_drew1) | exact HB.out)) hb); have n1_ := Aside0.mk (hbox); have n2_ := Aside0.mk ((by rw [hg]; exact (below_size (by repeat (first | (with_reducible first | exact HB.out | apply below_alloc | apply pw_below_drewN | apply below_drew1) | exact HB.out))) : w.heap.size ≤ gb101)); have n3_ := Aside0.mk ((by rw [hg]; exact (below_size (by repeat (first | (with_reducible first | exact HB.out | apply below_alloc | apply pw_below_drewN | apply below_drew1) | exact HB.out))) : w.heap.size ≤ gb101)); clear HB; have HB := n0_; have BK101 := n1_; have GW101 := n2_; have GE101 := n3_; clear n0_ n1_ n2_ n3_; clear hb hbox hg; have hcz5_0 : w4.cell? ⟨gb101, 0, none⟩ = some (.int .i64 a0_0) := (blk_cell BK101.out 0).trans rfl; have hcz5_1 : w4.cell? ⟨gb101, 1, none⟩ = some (.int .i64 a0_1) := (blk_cell BK101.out 1).trans rfl; have hcz5_2 : w4.cell? ⟨gb101, 2, none⟩ = some (.string a0_2) := (blk_cell BK101.out 2).trans rfl; have hfz5_0 := blk_frozen BK101.out 0; have hfz5_1 := blk_frozen BK101.out 1; have hfz5_2 := blk_frozen BK101.out 2))
   go_ret
   exact ⟨by first | rfl | (simp [errW_none, errW_some] <;> rfl) | (simp [*, errW_none, errW_some] <;> rfl), by repeat (first | (with_reducible first | exact HB.out | apply below_alloc | apply pw_below_drewN | apply below_drew1 | refine below_set ?_ GE101.out) | exact HB.out)⟩
  ·rw [if_neg c3] at H
   have c3b0 : (a0_1 == 0) = false := beq_eq_false_iff_ne.mpr c3
   have c3b1 : (a0_1 != 0) = true := bne_iff_ne.mpr c3
   obtain rfl := Option.some.inj H
   go_enter Try.func9, Try.ntmps9
   go_wp2_with (first | ((with_reducible refine gate_dst (N := 1) rfl ?_); (try (refine gate_guard (by rfl) ?_; dsimp only)); refine box_event ?hg (N := 1) ?hd (cs := #[.int .i64 a0_0, .int .i64 a0_1, .string a0_2]) (t := 24) ?hr ?_; (case hd => rfl); (case hg => (first | rfl | (simp only [*]; rfl) | (simp [*]; done))); (case hr => first | (go_simp; done) | (go_simp; rfl)); intro gb101 hg w6 hbox hb; have n0_ := Aside0.mk (below_step (by repeat (first | (with_reducible first | exact HB.out | apply below_alloc | apply pw_below_drewN | apply below_drew1) | exact HB.out)) hb); have n1_ := Aside0.mk (hbox); have n2_ := Aside0.mk ((by rw [hg]; exact (below_size (by repeat (first | (with_reducible first | exact HB.out | apply below_alloc | apply pw_below_drewN | apply below_drew1) | exact HB.out))) : w.heap.size ≤ gb101)); have n3_ := Aside0.mk ((by rw [hg]; exact (below_size (by repeat (first | (with_reducible first | exact HB.out | apply below_alloc | apply pw_below_drewN | apply below_drew1) | exact HB.out))) : w.heap.size ≤ gb101)); clear HB; have HB := n0_; have BK101 := n1_; have GW101 := n2_; have GE101 := n3_; clear n0_ n1_ n2_ n3_; clear hb hbox hg; have hcz7_0 : w6.cell? ⟨gb101, 0, none⟩ = some (.int .i64 a0_0) := (blk_cell BK101.out 0).trans rfl; have hcz7_1 : w6.cell? ⟨gb101, 1, none⟩ = some (.int .i64 a0_1) := (blk_cell BK101.out 1).trans rfl; have hcz7_2 : w6.cell? ⟨gb101, 2, none⟩ = some (.string a0_2) := (blk_cell BK101.out 2).trans rfl; have hfz7_0 := blk_frozen BK101.out 0; have hfz7_1 := blk_frozen BK101.out 1; have hfz7_2 := blk_frozen BK101.out 2))
   go_ret
   exact ⟨by first | rfl | (simp [errW_none, errW_some] <;> rfl) | (simp [*, errW_none, errW_some] <;> rfl), by repeat (first | (with_reducible first | exact HB.out | apply below_alloc | apply pw_below_drewN | apply below_drew1 | refine below_set ?_ GE101.out) | exact HB.out)⟩
 ·rw [if_neg c2] at H
  have c2b0 : (a0_0 == 0) = false := beq_eq_false_iff_ne.mpr c2
  have c2b1 : (a0_0 != 0) = true := bne_iff_ne.mpr c2
  by_cases c8 : a0_0 = 1
  ·rw [if_pos c8] at H
   have c8b0 : (a0_0 == 1) = true := beq_iff_eq.mpr c8
   have c8b1 : (a0_0 != 1) = false := bne_eq_false_iff_eq.mpr c8
   clear c8
   by_cases c9 : a0_1 = 0
   ·rw [if_pos c9] at H
    have c9b0 : (a0_1 == 0) = true := beq_iff_eq.mpr c9
    have c9b1 : (a0_1 != 0) = false := bne_eq_false_iff_eq.mpr c9
    clear c9
    obtain rfl := Option.some.inj H
    go_enter Try.func9, Try.ntmps9
    go_wp2_with (first | ((with_reducible refine gate_dst (N := 1) rfl ?_); (try (refine gate_guard (by rfl) ?_; dsimp only)); refine box_event ?hg (N := 1) ?hd (cs := #[.int .i64 a0_0, .int .i64 a0_1, .string a0_2]) (t := 24) ?hr ?_; (case hd => rfl); (case hg => (first | rfl | (simp only [*]; rfl) | (simp [*]; done))); (case hr => first | (go_simp; done) | (go_simp; rfl)); intro gb101 hg w10 hbox hb; have n0_ := Aside0.mk (below_step (by repeat (first | (with_reducible first | exact HB.out | apply below_alloc | apply pw_below_drewN | apply below_drew1) | exact HB.out)) hb); have n1_ := Aside0.mk (hbox); have n2_ := Aside0.mk ((by rw [hg]; exact (below_size (by repeat (first | (with_reducible first | exact HB.out | apply below_alloc | apply pw_below_drewN | apply below_drew1) | exact HB.out))) : w.heap.size ≤ gb101)); have n3_ := Aside0.mk ((by rw [hg]; exact (below_size (by repeat (first | (with_reducible first | exact HB.out | apply below_alloc | apply pw_below_drewN | apply below_drew1) | exact HB.out))) : w.heap.size ≤ gb101)); clear HB; have HB := n0_; have BK101 := n1_; have GW101 := n2_; have GE101 := n3_; clear n0_ n1_ n2_ n3_; clear hb hbox hg; have hcz11_0 : w10.cell? ⟨gb101, 0, none⟩ = some (.int .i64 a0_0) := (blk_cell BK101.out 0).trans rfl; have hcz11_1 : w10.cell? ⟨gb101, 1, none⟩ = some (.int .i64 a0_1) := (blk_cell BK101.out 1).trans rfl; have hcz11_2 : w10.cell? ⟨gb101, 2, none⟩ = some (.string a0_2) := (blk_cell BK101.out 2).trans rfl; have hfz11_0 := blk_frozen BK101.out 0; have hfz11_1 := blk_frozen BK101.out 1; have hfz11_2 := blk_frozen BK101.out 2))
    go_ret
    exact ⟨by first | rfl | (simp [errW_none, errW_some] <;> rfl) | (simp [*, errW_none, errW_some] <;> rfl), by repeat (first | (with_reducible first | exact HB.out | apply below_alloc | apply pw_below_drewN | apply below_drew1 | refine below_set ?_ GE101.out) | exact HB.out)⟩
   ·rw [if_neg c9] at H
    have c9b0 : (a0_1 == 0) = false := beq_eq_false_iff_ne.mpr c9
    have c9b1 : (a0_1 != 0) = true := bne_iff_ne.mpr c9
    by_cases c12 : a0_1 = 1
    ·rw [if_pos c12] at H
     have c12b0 : (a0_1 == 1) = true := beq_iff_eq.mpr c12
     have c12b1 : (a0_1 != 1) = false := bne_eq_false_iff_eq.mpr c12
     clear c12
     obtain rfl := Option.some.inj H
     go_enter Try.func9, Try.ntmps9
     go_wp2_with (first | ((with_reducible refine gate_dst (N := 1) rfl ?_); (try (refine gate_guard (by rfl) ?_; dsimp only)); refine box_event ?hg (N := 1) ?hd (cs := #[.int .i64 a0_0, .int .i64 a0_1, .string a0_2]) (t := 24) ?hr ?_; (case hd => rfl); (case hg => (first | rfl | (simp only [*]; rfl) | (simp [*]; done))); (case hr => first | (go_simp; done) | (go_simp; rfl)); intro gb101 hg w13 hbox hb; have n0_ := Aside0.mk (below_step (by repeat (first | (with_reducible first | exact HB.out | apply below_alloc | apply pw_below_drewN | apply below_drew1) | exact HB.out)) hb); have n1_ := Aside0.mk (hbox); have n2_ := Aside0.mk ((by rw [hg]; exact (below_size (by repeat (first | (with_reducible first | exact HB.out | apply below_alloc | apply pw_below_drewN | apply below_drew1) | exact HB.out))) : w.heap.size ≤ gb101)); have n3_ := Aside0.mk ((by rw [hg]; exact (below_size (by repeat (first | (with_reducible first | exact HB.out | apply below_alloc | apply pw_below_drewN | apply below_drew1) | exact HB.out))) : w.heap.size ≤ gb101)); clear HB; have HB := n0_; have BK101 := n1_; have GW101 := n2_; have GE101 := n3_; clear n0_ n1_ n2_ n3_; clear hb hbox hg; have hcz14_0 : w13.cell? ⟨gb101, 0, none⟩ = some (.int .i64 a0_0) := (blk_cell BK101.out 0).trans rfl; have hcz14_1 : w13.cell? ⟨gb101, 1, none⟩ = some (.int .i64 a0_1) := (blk_cell BK101.out 1).trans rfl; have hcz14_2 : w13.cell? ⟨gb101, 2, none⟩ = some (.string a0_2) := (blk_cell BK101.out 2).trans rfl; have hfz14_0 := blk_frozen BK101.out 0; have hfz14_1 := blk_frozen BK101.out 1; have hfz14_2 := blk_frozen BK101.out 2))
     go_ret
     exact ⟨by first | rfl | (simp [errW_none, errW_some] <;> rfl) | (simp [*, errW_none, errW_some] <;> rfl), by repeat (first | (with_reducible first | exact HB.out | apply below_alloc | apply pw_below_drewN | apply below_drew1 | refine below_set ?_ GE101.out) | exact HB.out)⟩
    ·rw [if_neg c12] at H
     have c12b0 : (a0_1 == 1) = false := beq_eq_false_iff_ne.mpr c12
     have c12b1 : (a0_1 != 1) = true := bne_iff_ne.mpr c12
     obtain rfl := Option.some.inj H
     go_enter Try.func9, Try.ntmps9
     go_wp2_with (first | ((with_reducible refine gate_dst (N := 1) rfl ?_); (try (refine gate_guard (by rfl) ?_; dsimp only)); refine box_event ?hg (N := 1) ?hd (cs := #[.int .i64 a0_0, .int .i64 a0_1, .string a0_2]) (t := 24) ?hr ?_; (case hd => rfl); (case hg => (first | rfl | (simp only [*]; rfl) | (simp [*]; done))); (case hr => first | (go_simp; done) | (go_simp; rfl)); intro gb101 hg w15 hbox hb; have n0_ := Aside0.mk (below_step (by repeat (first | (with_reducible first | exact HB.out | apply below_alloc | apply pw_below_drewN | apply below_drew1) | exact HB.out)) hb); have n1_ := Aside0.mk (hbox); have n2_ := Aside0.mk ((by rw [hg]; exact (below_size (by repeat (first | (with_reducible first | exact HB.out | apply below_alloc | apply pw_below_drewN | apply below_drew1) | exact HB.out))) : w.heap.size ≤ gb101)); have n3_ := Aside0.mk ((by rw [hg]; exact (below_size (by repeat (first | (with_reducible first | exact HB.out | apply below_alloc | apply pw_below_drewN | apply below_drew1) | exact HB.out))) : w.heap.size ≤ gb101)); clear HB; have HB := n0_; have BK101 := n1_; have GW101 := n2_; have GE101 := n3_; clear n0_ n1_ n2_ n3_; clear hb hbox hg; have hcz16_0 : w15.cell? ⟨gb101, 0, none⟩ = some (.int .i64 a0_0) := (blk_cell BK101.out 0).trans rfl; have hcz16_1 : w15.cell? ⟨gb101, 1, none⟩ = some (.int .i64 a0_1) := (blk_cell BK101.out 1).trans rfl; have hcz16_2 : w15.cell? ⟨gb101, 2, none⟩ = some (.string a0_2) := (blk_cell BK101.out 2).trans rfl; have hfz16_0 := blk_frozen BK101.out 0; have hfz16_1 := blk_frozen BK101.out 1; have hfz16_2 := blk_frozen BK101.out 2))
     go_ret
     exact ⟨by first | rfl | (simp [errW_none, errW_some] <;> rfl) | (simp [*, errW_none, errW_some] <;> rfl), by repeat (first | (with_reducible first | exact HB.out | apply below_alloc | apply pw_below_drewN | apply below_drew1 | refine below_set ?_ GE101.out) | exact HB.out)⟩
  ·rw [if_neg c8] at H
   have c8b0 : (a0_0 == 1) = false := beq_eq_false_iff_ne.mpr c8
   have c8b1 : (a0_0 != 1) = true := bne_iff_ne.mpr c8
   by_cases c17 : a0_0 = 2
   ·rw [if_pos c17] at H
    have c17b0 : (a0_0 == 2) = true := beq_iff_eq.mpr c17
    have c17b1 : (a0_0 != 2) = false := bne_eq_false_iff_eq.mpr c17
    clear c17
    obtain rfl := Option.some.inj H
    go_enter Try.func9, Try.ntmps9
    go_wp2_with (first | ((with_reducible refine gate_dst (N := 1) rfl ?_); (try (refine gate_guard (by rfl) ?_; dsimp only)); refine box_event ?hg (N := 1) ?hd (cs := #[.int .i64 a0_0, .int .i64 a0_1, .string a0_2]) (t := 24) ?hr ?_; (case hd => rfl); (case hg => (first | rfl | (simp only [*]; rfl) | (simp [*]; done))); (case hr => first | (go_simp; done) | (go_simp; rfl)); intro gb101 hg w18 hbox hb; have n0_ := Aside0.mk (below_step (by repeat (first | (with_reducible first | exact HB.out | apply below_alloc | apply pw_below_drewN | apply below_drew1) | exact HB.out)) hb); have n1_ := Aside0.mk (hbox); have n2_ := Aside0.mk ((by rw [hg]; exact (below_size (by repeat (first | (with_reducible first | exact HB.out | apply below_alloc | apply pw_below_drewN | apply below_drew1) | exact HB.out))) : w.heap.size ≤ gb101)); have n3_ := Aside0.mk ((by rw [hg]; exact (below_size (by repeat (first | (with_reducible first | exact HB.out | apply below_alloc | apply pw_below_drewN | apply below_drew1) | exact HB.out))) : w.heap.size ≤ gb101)); clear HB; have HB := n0_; have BK101 := n1_; have GW101 := n2_; have GE101 := n3_; clear n0_ n1_ n2_ n3_; clear hb hbox hg; have hcz19_0 : w18.cell? ⟨gb101, 0, none⟩ = some (.int .i64 a0_0) := (blk_cell BK101.out 0).trans rfl; have hcz19_1 : w18.cell? ⟨gb101, 1, none⟩ = some (.int .i64 a0_1) := (blk_cell BK101.out 1).trans rfl; have hcz19_2 : w18.cell? ⟨gb101, 2, none⟩ = some (.string a0_2) := (blk_cell BK101.out 2).trans rfl; have hfz19_0 := blk_frozen BK101.out 0; have hfz19_1 := blk_frozen BK101.out 1; have hfz19_2 := blk_frozen BK101.out 2))
    go_ret
    exact ⟨by first | rfl | (simp [errW_none, errW_some] <;> rfl) | (simp [*, errW_none, errW_some] <;> rfl), by repeat (first | (with_reducible first | exact HB.out | apply below_alloc | apply pw_below_drewN | apply below_drew1 | refine below_set ?_ GE101.out) | exact HB.out)⟩
   ·rw [if_neg c17] at H
    have c17b0 : (a0_0 == 2) = false := beq_eq_false_iff_ne.mpr c17
    have c17b1 : (a0_0 != 2) = true := bne_iff_ne.mpr c17
    by_cases c20 : a0_0 = 3
    ·rw [if_pos c20] at H
     have c20b0 : (a0_0 == 3) = true := beq_iff_eq.mpr c20
     have c20b1 : (a0_0 != 3) = false := bne_eq_false_iff_eq.mpr c20
     clear c20
     by_cases c21 : a0_1 = 0
     ·rw [if_pos c21] at H
      have c21b0 : (a0_1 == 0) = true := beq_iff_eq.mpr c21
      have c21b1 : (a0_1 != 0) = false := bne_eq_false_iff_eq.mpr c21
      clear c21
      obtain rfl := Option.some.inj H
      go_enter Try.func9, Try.ntmps9
      go_wp2_with (first | ((with_reducible refine gate_dst (N := 1) rfl ?_); (try (refine gate_guard (by rfl) ?_; dsimp only)); refine box_event ?hg (N := 1) ?hd (cs := #[.int .i64 a0_0, .int .i64 a0_1, .string a0_2]) (t := 24) ?hr ?_; (case hd => rfl); (case hg => (first | rfl | (simp only [*]; rfl) | (simp [*]; done))); (case hr => first | (go_simp; done) | (go_simp; rfl)); intro gb101 hg w22 hbox hb; have n0_ := Aside0.mk (below_step (by repeat (first | (with_reducible first | exact HB.out | apply below_alloc | apply pw_below_drewN | apply below_drew1) | exact HB.out)) hb); have n1_ := Aside0.mk (hbox); have n2_ := Aside0.mk ((by rw [hg]; exact (below_size (by repeat (first | (with_reducible first | exact HB.out | apply below_alloc | apply pw_below_drewN | apply below_drew1) | exact HB.out))) : w.heap.size ≤ gb101)); have n3_ := Aside0.mk ((by rw [hg]; exact (below_size (by repeat (first | (with_reducible first | exact HB.out | apply below_alloc | apply pw_below_drewN | apply below_drew1) | exact HB.out))) : w.heap.size ≤ gb101)); clear HB; have HB := n0_; have BK101 := n1_; have GW101 := n2_; have GE101 := n3_; clear n0_ n1_ n2_ n3_; clear hb hbox hg; have hcz23_0 : w22.cell? ⟨gb101, 0, none⟩ = some (.int .i64 a0_0) := (blk_cell BK101.out 0).trans rfl; have hcz23_1 : w22.cell? ⟨gb101, 1, none⟩ = some (.int .i64 a0_1) := (blk_cell BK101.out 1).trans rfl; have hcz23_2 : w22.cell? ⟨gb101, 2, none⟩ = some (.string a0_2) := (blk_cell BK101.out 2).trans rfl; have hfz23_0 := blk_frozen BK101.out 0; have hfz23_1 := blk_frozen BK101.out 1; have hfz23_2 := blk_frozen BK101.out 2))
      go_ret
      exact ⟨by first | rfl | (simp [errW_none, errW_some] <;> rfl) | (simp [*, errW_none, errW_some] <;> rfl), by repeat (first | (with_reducible first | exact HB.out | apply below_alloc | apply pw_below_drewN | apply below_drew1 | refine below_set ?_ GE101.out) | exact HB.out)⟩
     ·rw [if_neg c21] at H
      have c21b0 : (a0_1 == 0) = false := beq_eq_false_iff_ne.mpr c21
      have c21b1 : (a0_1 != 0) = true := bne_iff_ne.mpr c21
      obtain rfl := Option.some.inj H
      go_enter Try.func9, Try.ntmps9
      go_wp2_with (first | ((with_reducible refine gate_dst (N := 1) rfl ?_); (try (refine gate_guard (by rfl) ?_; dsimp only)); refine box_event ?hg (N := 1) ?hd (cs := #[.int .i64 a0_0, .int .i64 a0_1, .string a0_2]) (t := 24) ?hr ?_; (case hd => rfl); (case hg => (first | rfl | (simp only [*]; rfl) | (simp [*]; done))); (case hr => first | (go_simp; done) | (go_simp; rfl)); intro gb101 hg w24 hbox hb; have n0_ := Aside0.mk (below_step (by repeat (first | (with_reducible first | exact HB.out | apply below_alloc | apply pw_below_drewN | apply below_drew1) | exact HB.out)) hb); have n1_ := Aside0.mk (hbox); have n2_ := Aside0.mk ((by rw [hg]; exact (below_size (by repeat (first | (with_reducible first | exact HB.out | apply below_alloc | apply pw_below_drewN | apply below_drew1) | exact HB.out))) : w.heap.size ≤ gb101)); have n3_ := Aside0.mk ((by rw [hg]; exact (below_size (by repeat (first | (with_reducible first | exact HB.out | apply below_alloc | apply pw_below_drewN | apply below_drew1) | exact HB.out))) : w.heap.size ≤ gb101)); clear HB; have HB := n0_; have BK101 := n1_; have GW101 := n2_; have GE101 := n3_; clear n0_ n1_ n2_ n3_; clear hb hbox hg; have hcz25_0 : w24.cell? ⟨gb101, 0, none⟩ = some (.int .i64 a0_0) := (blk_cell BK101.out 0).trans rfl; have hcz25_1 : w24.cell? ⟨gb101, 1, none⟩ = some (.int .i64 a0_1) := (blk_cell BK101.out 1).trans rfl; have hcz25_2 : w24.cell? ⟨gb101, 2, none⟩ = some (.string a0_2) := (blk_cell BK101.out 2).trans rfl; have hfz25_0 := blk_frozen BK101.out 0; have hfz25_1 := blk_frozen BK101.out 1; have hfz25_2 := blk_frozen BK101.out 2))
      go_ret
      exact ⟨by first | rfl | (simp [errW_none, errW_some] <;> rfl) | (simp [*, errW_none, errW_some] <;> rfl), by repeat (first | (with_reducible first | exact HB.out | apply below_alloc | apply pw_below_drewN | apply below_drew1 | refine below_set ?_ GE101.out) | exact HB.out)⟩
    ·rw [if_neg c20] at H
     have c20b0 : (a0_0 == 3) = false := beq_eq_false_iff_ne.mpr c20
     have c20b1 : (a0_0 != 3) = true := bne_iff_ne.mpr c20
     obtain rfl := Option.some.inj H
     go_enter Try.func9, Try.ntmps9
     go_wp2_with (first | ((with_reducible refine gate_dst (N := 1) rfl ?_); (try (refine gate_guard (by rfl) ?_; dsimp only)); refine box_event ?hg (N := 1) ?hd (cs := #[.int .i64 a0_0, .int .i64 a0_1, .string a0_2]) (t := 24) ?hr ?_; (case hd => rfl); (case hg => (first | rfl | (simp only [*]; rfl) | (simp [*]; done))); (case hr => first | (go_simp; done) | (go_simp; rfl)); intro gb101 hg w26 hbox hb; have n0_ := Aside0.mk (below_step (by repeat (first | (with_reducible first | exact HB.out | apply below_alloc | apply pw_below_drewN | apply below_drew1) | exact HB.out)) hb); have n1_ := Aside0.mk (hbox); have n2_ := Aside0.mk ((by rw [hg]; exact (below_size (by repeat (first | (with_reducible first | exact HB.out | apply below_alloc | apply pw_below_drewN | apply below_drew1) | exact HB.out))) : w.heap.size ≤ gb101)); have n3_ := Aside0.mk ((by rw [hg]; exact (below_size (by repeat (first | (with_reducible first | exact HB.out | apply below_alloc | apply pw_below_drewN | apply below_drew1) | exact HB.out))) : w.heap.size ≤ gb101)); clear HB; have HB := n0_; have BK101 := n1_; have GW101 := n2_; have GE101 := n3_; clear n0_ n1_ n2_ n3_; clear hb hbox hg; have hcz27_0 : w26.cell? ⟨gb101, 0, none⟩ = some (.int .i64 a0_0) := (blk_cell BK101.out 0).trans rfl; have hcz27_1 : w26.cell? ⟨gb101, 1, none⟩ = some (.int .i64 a0_1) := (blk_cell BK101.out 1).trans rfl; have hcz27_2 : w26.cell? ⟨gb101, 2, none⟩ = some (.string a0_2) := (blk_cell BK101.out 2).trans rfl; have hfz27_0 := blk_frozen BK101.out 0; have hfz27_1 := blk_frozen BK101.out 1; have hfz27_2 := blk_frozen BK101.out 2))
     go_ret
     exact ⟨by first | rfl | (simp [errW_none, errW_some] <;> rfl) | (simp [*, errW_none, errW_some] <;> rfl), by repeat (first | (with_reducible first | exact HB.out | apply below_alloc | apply pw_below_drewN | apply below_drew1 | refine below_set ?_ GE101.out) | exact HB.out)⟩

/-! ### laminalaw15_valid: function 8 -/
def laminalaw15_valid.l0 : Nat → List (S24) → Int → Option (Bool)
 | 0, _, _ => none
 | k + 1, x0, x3 => if x3 < (x0.length : Int) then (if 0 ≤ x3 then ((laminaref04_Valid.f ((rd_T24 x0 x3).f0) ((rd_T24 x0 x3).f1) ((rd_T24 x0 x3).f2)).bind fun t103 => (if t103 = true then (laminalaw15_valid.l0 k x0 (wrap64 (x3 + 1))) else (some false))) else (none)) else (some (decide ((x0.length : Int) ≤ 200)))
def laminalaw15_valid.f (k : Nat) (l0 : List (S24)) : Option (Bool) := laminalaw15_valid.l0 k l0 0
theorem laminalaw15_valid.mono_l : ∀ k, (∀ y0 y1, LeO (laminalaw15_valid.l0 k y0 y1) (laminalaw15_valid.l0 (k + 1) y0 y1))
 | 0 => fun _ _ r h => by simp [laminalaw15_valid.l0] at h
 | k + 1 => by
  have ih0 := laminalaw15_valid.mono_l k
  ·intro y0 y1
   unfold laminalaw15_valid.l0
   repeat' first
   | (with_reducible exact ih0 _ _)
   | (with_reducible exact LeO.refl _)
   | (with_reducible exact LeO.none _)
   | (with_reducible refine LeO.ite ?_ ?_)
   | (with_reducible refine LeO.bind ?_ (fun _ => ?_))
   | exact ih0 _ _
   | exact LeO.none _
   | refine LeO.ite ?_ ?_
   | refine LeO.bind ?_ (fun _ => ?_)
theorem laminalaw15_valid.mono : ∀ a0 k, LeO (laminalaw15_valid.f k a0) (laminalaw15_valid.f (k + 1) a0) := by
 intro a0 k
 have ih0 := laminalaw15_valid.mono_l k
 unfold laminalaw15_valid.f
 repeat' first
   | (with_reducible exact ih0 _ _)
   | (with_reducible exact LeO.refl _)
   | (with_reducible exact LeO.none _)
   | (with_reducible refine LeO.ite ?_ ?_)
   | (with_reducible refine LeO.bind ?_ (fun _ => ?_))
   | exact ih0 _ _
   | exact LeO.none _
   | refine LeO.ite ?_ ?_
   | refine LeO.bind ?_ (fun _ => ?_)
set_option maxHeartbeats 8000000 in
set_option maxRecDepth 100000 in
theorem laminalaw15_valid.calls (k : Nat) (A0 : Option Addr) (c0 : Nat) (l0 : List (S24)) (r : Bool) (w : World) (hr0 : Kd.C k24 w A0 l0.length l0) (hc0 : l0.length ≤ c0) (h : laminalaw15_valid.f k l0 = some r) :
  Calls Try.prog 8 #[.slice A0 l0.length c0] w fun e w' => e = .returned (.bool r) ∧ Below w.heap.size w w' := by
 have hu24 := Try.underlying24
 have HR0 := Aside0.mk hr0
 have HC0 := Aside0.mk hc0
 clear hr0 hc0
 have HB := Aside0.mk (Below.refl w.heap.size w)
 have H : (laminalaw15_valid.l0 k l0 0) = some r := h
 clear h
 have H' := Aside0.mk H
 clear H
 go_enter Try.func8, Try.ntmps8
 go_wp2
 go_loopg [3] k (fun kq v3 w' => ∃ (x3_1 : Int), v3 = .int .i64 x3_1 ∧ Aside0 (laminalaw15_valid.l0 kq l0 x3_1 = some r) ∧ Aside0 (kq ≤ k) ∧ Aside0 (Below w.heap.size w w'))
 case atStart => exact ⟨(0), (by first | rfl | (simp; done) | (simp [*]; done)), H', ⟨Nat.le_refl _⟩, ⟨by repeat (first | (with_reducible first | exact HB.out | apply below_alloc | apply pw_below_drewN | apply below_drew1) | exact HB.out)⟩⟩
 case round =>
  clear H'
  obtain ⟨x3_1, rfl, HA, HK1, HB⟩ := hrel
  cases gk with
  | zero => exact absurd HA.out (by simp [laminalaw15_valid.l0])
  | succ k1 =>
   have H := HA.out
   clear HA
   simp only [laminalaw15_valid.l0] at H
   by_cases c2 : x3_1 < (l0.length : Int)
   ·rw [if_pos c2] at H
    have c2b0 : decide (x3_1 < (l0.length : Int)) = true := decide_eq_true c2
    clear c2
    by_cases c3 : 0 ≤ x3_1
    ·rw [if_pos c3] at H
     have c3b0 : decide (0 ≤ x3_1) = true := decide_eq_true c3
     clear c3
     replace H := Option.bind_eq_some_iff.mp H
     obtain ⟨t103, A40, H⟩ := H
     replace H : (if t103 = true then (laminalaw15_valid.l0 k1 l0 (wrap64 (x3_1 + 1))) else (some false)) = some r := H
     have A4 := Aside0.mk A40
     clear A40
     by_cases c5 : t103 = true
     ·subst c5
      have H1 : (laminalaw15_valid.l0 k1 l0 (wrap64 (x3_1 + 1))) = some r := by rw [if_pos rfl] at H; exact H
      clear H
      have H := H1
      clear H1
      have H' := Aside0.mk H
      clear H
      have p102 : 0 ≤ (x3_1 : Int) := of_decide_eq_true (by first | (with_reducible assumption) | assumption)
      have q102 : x3_1 < (l0.length : Int) := of_decide_eq_true (by first | (with_reducible assumption) | assumption)
      obtain ⟨ad102, e102, hx102_0, hx102_1, hx102_2⟩ := at_T24 HR0.out x3_1 p102 q102
      cases e102
      replace hx102_0 := (HB.out.cell (World.block_lt_of_cell? w _ hx102_0)).trans hx102_0
      replace hx102_1 := (HB.out.cell (World.block_lt_of_cell? w _ hx102_1)).trans hx102_1
      replace hx102_2 := (HB.out.cell (World.block_lt_of_cell? w _ hx102_2)).trans hx102_2
      replace p102 := eq_true p102
      replace q102 := eq_true q102
      go_wp2_with (first | ((with_reducible refine gate_callee (f := 9) rfl ?_); refine goesL_ (some 14) rfl rfl Try.func9 (by kernel_rfl) rfl #[.agg #[.int .i64 ((rd_T24 l0 x3_1).f0), .int .i64 ((rd_T24 l0 x3_1).f1), .string ((rd_T24 l0 x3_1).f2)]] rfl (by (try simp only [List.map_toArray, List.map_cons, List.map_nil]); first | done | rfl | (simp only [List.length_drop, List.length_take]; rfl)) ?_; (with_reducible refine (laminaref04_Valid.calls ((rd_T24 l0 x3_1).f0) ((rd_T24 l0 x3_1).f1) ((rd_T24 l0 x3_1).f2) true _ A4.out).mono ?_); rintro e w6 ⟨rfl, hb⟩; refine ⟨_, rfl, ?_⟩; have n0_ := Aside0.mk (below_step (by repeat (first | (with_reducible first | exact HB.out | apply below_alloc | apply pw_below_drewN | apply below_drew1) | exact HB.out)) hb); clear HB; have HB := n0_; clear n0_; (try clear hb); (try clear hb2); (try clear hk); (try clear hi)))
      go_roundg k1
      case measure => have := HK1.out; omega
      case rel => exact ⟨(wrap64 (x3_1 + 1)), (by first | rfl | (simp; done) | (simp [*]; done)), H', ⟨by have := HK1.out; omega⟩, ⟨by repeat (first | (with_reducible first | exact HB.out | apply below_alloc | apply pw_below_drewN | apply below_drew1) | exact HB.out)⟩⟩
     ·replace c5 := Bool.eq_false_iff.mpr c5
      subst c5
      have H1 : (some false) = some r := by rw [if_neg (show ¬ (false = true) by decide)] at H; exact H
      clear H
      have H := H1
      clear H1
      obtain rfl := Option.some.inj H
      have p102 : 0 ≤ (x3_1 : Int) := of_decide_eq_true (by first | (with_reducible assumption) | assumption)
      have q102 : x3_1 < (l0.length : Int) := of_decide_eq_true (by first | (with_reducible assumption) | assumption)
      obtain ⟨ad102, e102, hx102_0, hx102_1, hx102_2⟩ := at_T24 HR0.out x3_1 p102 q102
      cases e102
      replace hx102_0 := (HB.out.cell (World.block_lt_of_cell? w _ hx102_0)).trans hx102_0
      replace hx102_1 := (HB.out.cell (World.block_lt_of_cell? w _ hx102_1)).trans hx102_1
      replace hx102_2 := (HB.out.cell (World.block_lt_of_cell? w _ hx102_2)).trans hx102_2
      replace p102 := eq_true p102
      replace q102 := eq_true q102
      go_wp2_with (first | ((with_reducible refine gate_callee (f := 9) rfl ?_); refine goesL_ (some 14) rfl rfl Try.func9 (by kernel_rfl) rfl #[.agg #[.int .i64 ((rd_T24 l0 x3_1).f0), .int .i64 ((rd_T24 l0 x3_1).f1), .string ((rd_T24 l0 x3_1).f2)]] rfl (by (try simp only [List.map_toArray, List.map_cons, List.map_nil]); first | done | rfl | (simp only [List.length_drop, List.length_take]; rfl)) ?_; (with_reducible refine (laminaref04_Valid.calls ((rd_T24 l0 x3_1).f0) ((rd_T24 l0 x3_1).f1) ((rd_T24 l0 x3_1).f2) false _ A4.out).mono ?_); rintro e w7 ⟨rfl, hb⟩; refine ⟨_, rfl, ?_⟩; have n0_ := Aside0.mk (below_step (by repeat (first | (with_reducible first | exact HB.out | apply below_alloc | apply pw_below_drewN | apply below_drew1) | exact HB.out)) hb); clear HB; have HB := n0_; clear n0_; (try clear hb); (try clear hb2); (try clear hk); (try clear hi)))
      go_ret
      exact ⟨by first | rfl | (simp [errW_none, errW_some] <;> rfl) | (simp [*, errW_none, errW_some] <;> rfl), by repeat (first | (with_reducible first | exact HB.out | apply below_alloc | apply pw_below_drewN | apply below_drew1) | exact HB.out)⟩
    ·rw [if_neg c3] at H
     exact absurd H (by simp)
   ·rw [if_neg c2] at H
    have c2b0 : decide (x3_1 < (l0.length : Int)) = false := decide_eq_false c2
    clear c2
    obtain rfl := Option.some.inj H
    go_wp2
    go_ret
    exact ⟨by first | rfl | (simp [errW_none, errW_some] <;> rfl) | (simp [*, errW_none, errW_some] <;> rfl), by repeat (first | (with_reducible first | exact HB.out | apply below_alloc | apply pw_below_drewN | apply below_drew1) | exact HB.out)⟩

/-! ### checksum_Mix: function 57 -/
def checksum_Mix.f (a0 : Int) : Option (Int) := some (Go.bits .xor .u64 (IntKind.u64.wrap ((Go.bits .xor .u64 (IntKind.u64.wrap ((Go.bits .xor .u64 a0 (a0 / 1073741824)) * 13787848793156543929)) ((IntKind.u64.wrap ((Go.bits .xor .u64 a0 (a0 / 1073741824)) * 13787848793156543929)) / 134217728)) * 10723151780598845931)) ((IntKind.u64.wrap ((Go.bits .xor .u64 (IntKind.u64.wrap ((Go.bits .xor .u64 a0 (a0 / 1073741824)) * 13787848793156543929)) ((IntKind.u64.wrap ((Go.bits .xor .u64 a0 (a0 / 1073741824)) * 13787848793156543929)) / 134217728)) * 10723151780598845931)) / 2147483648))
set_option maxHeartbeats 8000000 in
set_option maxRecDepth 100000 in
theorem checksum_Mix.calls (a0 : Int) (r : Int) (w : World) (h : checksum_Mix.f a0 = some r) :
  Calls Try.prog 57 #[.int .u64 a0] w fun e w' => e = .returned (.int .u64 r) ∧ Drawn0 w w' := by
 have H : (some (Go.bits .xor .u64 (IntKind.u64.wrap ((Go.bits .xor .u64 (IntKind.u64.wrap ((Go.bits .xor .u64 a0 (a0 / 1073741824)) * 13787848793156543929)) ((IntKind.u64.wrap ((Go.bits .xor .u64 a0 (a0 / 1073741824)) * 13787848793156543929)) / 134217728)) * 10723151780598845931)) ((IntKind.u64.wrap ((Go.bits .xor .u64 (IntKind.u64.wrap ((Go.bits .xor .u64 a0 (a0 / 1073741824)) * 13787848793156543929)) ((IntKind.u64.wrap ((Go.bits .xor .u64 a0 (a0 / 1073741824)) * 13787848793156543929)) / 134217728)) * 10723151780598845931)) / 2147483648))) = some r := h
 clear h
 obtain rfl := Option.some.inj H
 go_enter Try.func57, Try.ntmps57
 go_wp2
 go_ret
 exact ⟨by first | rfl | (simp; done) | (simp [*]; done), by repeat (first | exact Drawn0.refl _ | apply Drawn0.step)⟩

/-! ### checksum_Hash: function 58 -/
def mixI (x : Int) : Int := (checksum_Mix.f x).getD 0
theorem mix_some (x : Int) : checksum_Mix.f x = some (mixI x) := rfl
/-- n groups of eight bytes. -/
def hashI : Nat → Int → List Int → Int
  | 0, h, _ => h
  | n + 1, h, b => hashI n (mixI (bits .xor .u64 h ((le (b.take 8) : Nat) : Int))) (b.drop 8)
def checksum_Hash.f (a0 : Int) (l1 : List Int) : Option Int := if (l1.all fun x => decide (0 ≤ x) && decide (x < 256)) = true ∧ l1.length ≤ 1000000000 then some (hashI ((l1.length + 7) / 8) (mixI (bits .xor .u64 a0 (l1.length : Int))) l1) else none
/-- Eight bytes: the list's, then zeros. -/
def grp (b : List Int) : List Int := b.take 8 ++ List.replicate (8 - b.length) 0
theorem grp_len (b : List Int) : (grp b).length = 8 := by simp [grp]; omega
theorem le_grp (b : List Int) : le (grp b) = le (b.take 8) := by
  unfold grp; rw [le_append, le_zeros]; simp
theorem grp_range {b : List Int} (h : ∀ x ∈ b, 0 ≤ x ∧ x < 256) : ∀ x ∈ grp b, 0 ≤ x ∧ x < 256 := by
  intro x hx
  rcases List.mem_append.1 hx with h1 | h1
  · exact h x (List.mem_of_mem_take h1)
  · have := List.eq_of_mem_replicate h1; omega
theorem le_take_succ (G : List Int) (j : Nat) (h : j < G.length) : le (G.take (j + 1)) = le (G.take j) + (G.getD j 0).toNat * 2 ^ (8 * j) := by
  rw [List.take_succ_eq_append_getElem h, le_append, List.length_take, Nat.min_eq_left (by omega), pow256]
  simp only [le, List.getD_eq_getElem?_getD, List.getElem?_eq_getElem h, Option.getD_some, Nat.mul_zero, Nat.add_zero]
  rw [Nat.mul_comm]
/-- The copy into an array of eight bytes. -/
theorem copy_arr {P : Program} {dT sT ty e g n sCap dCap : Nat} {A0 : Option Addr} {c : Nat} (W : World) (l0 : List Int) (at_ : Nat) (hu : P.underlying dT = some (.slice e)) (hs : (P.info? e).map (·.size) = some 1)
    (h : W.heap[g]? = some (.cells (Array.replicate 8 (.int .u8 0)) c (0, 0))) (hC : Kd.C (Kd.int .u8) W A0 l0.length l0) (hn : n = min 8 (l0.length - at_)) (h1 : 1 ≤ n) :
    ∃ w3, (Builtin.copy_ #[dT, sT] ty #[.slice (some ⟨g, 0, none⟩) 8 dCap, .slice (A0.map fun x => x.add at_) n sCap]).run P W = .ok (.int .i64 (n : Int)) w3 ∧ w3.heap[g]? = some (.cells (((grp (l0.drop at_)).map (Value.int .u8)).toArray) c (0, 0)) ∧ (∀ B, B ≤ g → Below B W w3) := by
  obtain ⟨ad, rfl, _⟩ := Kd.at_int hC 0 (by omega) (by omega)
  have hl : ((l0.drop at_).take 8).length = n := by rw [List.length_take, List.length_drop]; omega
  have hlm : (((l0.drop at_).take 8).map (Value.int .u8)).length = n := by rw [List.length_map, hl]
  have hr := run_copy_cells (P := P) W dT sT ty e g 0 8 dCap (ad.add at_) n sCap (((l0.drop at_).take 8).map (Value.int .u8)) hu hs (by rw [hlm]; exact (Nat.min_eq_left (by omega)).symm) ?_ ?_ ?_ (by intro v hv; obtain ⟨q, _, rfl⟩ := List.mem_map.1 hv; rfl)
  · rw [hlm] at hr
    obtain ⟨cur', q1, q2, q3⟩ := setCells_row (((l0.drop at_).take 8).map (Value.int .u8)) 0 W (Array.replicate 8 (.int .u8 0)) h (by rw [hlm]; simp; omega)
    refine ⟨_, hr, ?_, ?_⟩
    · rw [q1]
      congr 2
      apply Array.ext'
      rw [q3]
      unfold grp
      rw [List.map_append, List.map_replicate, Nat.zero_add, hlm, List.length_drop]
      simp only [List.take_zero, List.nil_append, Array.toList_replicate, List.drop_replicate]
      congr 2
      omega
    · intro B hB
      have h3 : ∀ (vs : List Value) (o : Nat) (W' : World), Below B W W' → Below B W (W'.setCells g o vs) := by
        intro vs
        induction vs with
        | nil => intro o W' h; exact h
        | cons v vs ih => intro o W' h; exact ih (o + 1) _ (h.setCell hB _)
      exact h3 _ _ _ (Below.refl _ _)
  · intro j v hv
    rw [List.getElem?_map] at hv
    obtain ⟨x, hx, rfl⟩ := Option.map_eq_some_iff.1 hv
    have hj : j < n := by
      rcases Nat.lt_or_ge j n with h1 | h1
      · exact h1
      · rw [List.getElem?_eq_none (by rw [hl]; exact h1)] at hx; cases hx
    obtain ⟨ad2, he, hc⟩ := Kd.at_int hC ((at_ + j : Nat) : Int) (by omega) (by omega)
    injection he with he
    subst he
    rw [Int.toNat_natCast] at hc
    rw [Addr.add_add, hc]
    rw [List.getElem?_take_of_lt (by omega), List.getElem?_drop] at hx
    rw [rd_nat, List.getD_eq_getElem?_getD, hx]; rfl
  · intro j hj
    rw [hlm] at hj
    rw [blk_cell h]; simp; omega
  · intro j hj
    exact blk_frozen h _
set_option maxHeartbeats 1000000 in
set_option maxRecDepth 100000 in
theorem checksum_Hash.calls (a0 : Int) (A1 : Option Addr) (c1 : Nat) (l1 : List Int) (r : Int) (w : World) (hr1 : Kd.C (Kd.int .u8) w A1 l1.length l1) (hc1 : l1.length ≤ c1) (h : checksum_Hash.f a0 l1 = some r) :
    Calls Try.prog 58 #[.int .u64 a0, .slice A1 l1.length c1] w fun e w' => e = .returned (.int .u64 r) ∧ Below w.heap.size w w' := by
  unfold checksum_Hash.f at h
  split at h
  case isFalse => cases h
  case isTrue hok =>
  have hres := (Option.some.inj h)
  obtain ⟨hb, hl9⟩ := hok
  have hl : ∀ x ∈ l1, 0 ≤ x ∧ x < 256 := by simpa only [List.all_eq_true, Bool.and_eq_true, decide_eq_true_eq] using hb
  have HR := Aside0.mk hr1
  have HL := Aside0.mk hl
  have HS := Aside0.mk hres
  have eln : IntKind.u64.wrap (l1.length : Int) = (l1.length : Int) := wraps_u64 _ (by omega) (by omega)
  clear hr1 hl hb h hres
  go_enter Try.func58, Try.ntmps58
  go_wp2_with (go_at_call 57; refine (checksum_Mix.calls _ _ _ (mix_some _)).mono ?_; rintro e w1 ⟨rfl, ⟨nd1, rfl⟩⟩)
  go_loopw [5, 6] (fun v5 v6 wr => ∃ (i : Nat) (h : Int), 8 * i ≤ l1.length + 7 ∧ Aside0 (hashI ((l1.length + 7) / 8 - i) h (l1.drop (8 * i)) = r) ∧ v5 = .int .u64 h ∧ v6 = .int .i64 ((8 * i : Nat) : Int) ∧ Below w.heap.size w wr) (fun _ v6 _ => l1.length + 8 - (intOf v6).toNat)
  case atStart => exact ⟨0, _, by omega, ⟨by simpa using HS.out⟩, rfl, rfl, pw_below_drewN (Below.refl _ _) _⟩
  case round =>
    obtain ⟨i, h, hi, hh, rfl, rfl, hB⟩ := hrel
    obtain ⟨o, ho⟩ : ∃ o, o = 8 * i := ⟨_, rfl⟩
    rw [← ho] at hh ⊢
    have HO := Aside0.mk ho
    by_cases hlt : o < l1.length
    · have hlt' : (o : Int) < (l1.length : Int) := by omega
      clear ho
      go_wp2_with ((with_reducible refine gate_dst (N := 7) rfl ?_); refine box_event ?hg (N := 7) ?hd (cs := Array.replicate 8 (.int .u8 0)) (t := 93) ?hr ?_; (case hd => rfl); (case hg => rfl); (case hr => first | (go_simp; done) | (go_simp; rfl)); intro g0 hg0 w2 hb0 hB0)
      subst hg0
      obtain ⟨o8, ho8⟩ : ∃ o8, o8 = o + 8 := ⟨_, rfl⟩
      have e8 : (o : Int) + 8 = (o8 : Int) := by omega
      have ew8 : IntKind.i64.wrap (o8 : Int) = (o8 : Int) := IntWalk.i64_in _ (by omega)
      have B2 : Aside0 (Below w.heap.size w w2) := ⟨below_then hB hB.size hB0⟩
      have hb2 : (w2.drew).heap[wr.heap.size]? = some (.cells (Array.replicate 8 (.int .u8 0)) 93 (0, 0)) := hb0
      obtain ⟨ad, hA1, _⟩ := Kd.at_int HR.out (o : Int) (by omega) (by omega)
      subst hA1
      have q3 : ¬ c1 = o := by omega
      have HB0 := Aside0.mk hb2
      have HO8 := Aside0.mk ho8
      have hol : o ≤ l1.length := by omega
      have hlc : (l1.length : Int) ≤ (c1 : Int) := by omega
      simp only [Act.put, List.setIfInBounds_toArray, List.set_cons_zero, List.set_cons_succ]
      by_cases hc8 : (l1.length : Int) < (o8 : Int)
      · obtain ⟨w3, hrun, hw3, hB3⟩ := copy_arr (dT := 43) (sT := 43) (ty := 3) (n := l1.length - o) (sCap := c1 - o) (dCap := 8) w2.drew l1 o Try.underlying43 (by kernel_rfl) hb2 (Kd.C_drew (Kd.C_below HR.out B2.out)) (by omega) (by omega)
        have HB3 := Aside0.mk hB3
        have HW3 := Aside0.mk hw3
        rw [Option.map_some] at hrun
        clear ho8 hB3 hw3 hb2 hb0
        go_region
        have HG := Aside0.mk (grp_range (b := l1.drop o) (fun x hx => HL.out x (List.mem_of_mem_drop hx)))
        have HGL := Aside0.mk (grp_len (l1.drop o))
        have HGE := Aside0.mk (le_grp (l1.drop o))
        obtain ⟨G, hG⟩ : ∃ G, G = grp (l1.drop o) := ⟨_, rfl⟩
        rw [← hG] at HW3 HG HGL HGE
        have HGG := Aside0.mk hG
        clear hG
        go_wp2
        go_loopw [8, 32] (fun v8 v32 wr' => ∃ (j acc : Nat), j ≤ 8 ∧ Aside0 (acc = le (G.take j)) ∧ v8 = .int .u64 (acc : Int) ∧ v32 = .int .i64 (j : Int) ∧ w3 = wr') (fun _ v32 _ => 8 - (intOf v32).toNat)
        case atStart => exact ⟨0, 0, by omega, ⟨by simp [le]⟩, rfl, rfl, rfl⟩
        case round =>
          obtain ⟨j, acc, hj, ha, rfl, rfl, rfl⟩ := hrel
          by_cases hj8 : j < 8
          · have hx := getD_range HG.out (show j < G.length by rw [HGL.out]; exact hj8)
            obtain ⟨x, hxe⟩ : ∃ x : Nat, G.getD j 0 = (x : Int) := ⟨(G.getD j 0).toNat, by omega⟩
            have hck : w3.cell? ⟨wr.heap.size, j, none⟩ = some (.int .u8 (x : Int)) := by
              rw [blk_cell HW3.out]
              have h1 : j < G.length := by rw [HGL.out]; exact hj8
              simp only [List.getElem?_toArray, List.getElem?_map, List.getElem?_eq_getElem h1, Option.map_some]
              rw [← hxe, List.getD_eq_getElem?_getD, List.getElem?_eq_getElem h1]; rfl
            have hx256 : x < 256 := by omega
            have hstep : le (G.take (j + 1)) = acc + x * 2 ^ (8 * j) := by
              rw [le_take_succ _ _ (by rw [HGL.out]; exact hj8), ← ha.out, hxe, Int.toNat_natCast]
            have hacc : acc < 2 ^ (8 * j) := by
              have h1 := le_lt (G.take j) (fun y hy => HG.out y (List.mem_of_mem_take hy))
              rw [List.length_take, HGL.out, Nat.min_eq_left (by omega), pow256, ← ha.out] at h1
              exact h1
            have hp : (2 : Nat) ^ (8 * j) ≤ 72057594037927936 := Nat.pow_le_pow_right (by decide) (show 8 * j ≤ 56 by omega)
            have hxm : x * 2 ^ (8 * j) ≤ 255 * 72057594037927936 := Nat.mul_le_mul (by omega) hp
            have eor : bits .or .u64 (acc : Int) ((x * 2 ^ (8 * j) : Nat) : Int) = ((acc + x * 2 ^ (8 * j) : Nat) : Int) := or_u64 (8 * j) acc x hacc (by omega) (by omega)
            have eww : IntKind.u64.wrap ((x * 2 ^ (8 * j) : Nat) : Int) = ((x * 2 ^ (8 * j) : Nat) : Int) := wraps_u64 _ (by omega) (by omega)
            have E1 := Aside0.mk eor
            have E2 := Aside0.mk eww
            have E3 := Aside0.mk hstep
            have hxi : (x : Int) < 256 := by omega
            have hji : (j : Int) < 8 := by omega
            clear eor eww hstep hp hxm hacc hxe hx
            go_wp2
            refine ⟨⟨j + 1, le (G.take (j + 1)), by omega, ⟨rfl⟩, ?_, by simp, by first | rfl | simp⟩, ?_⟩
            · rw [E3.out, ← pow_cast, ← Int.natCast_mul, E2.out, E1.out]
            · simp [intOf]; omega
          · obtain rfl : j = 8 := by omega
            have hf := ha.out
            rw [List.take_of_length_le (by rw [HGL.out]; exact Nat.le_refl 8), HGE.out] at hf
            have HF := Aside0.mk hf
            clear hf
            go_wp2_with (go_at_call 57; refine (checksum_Mix.calls _ _ _ (mix_some _)).mono ?_; rintro e w4 ⟨rfl, ⟨nd4, rfl⟩⟩)
            refine ⟨⟨i + 1, _, by have := HO.out; omega, ⟨?_⟩, rfl, ?_, ?_⟩, ?_⟩
            · have e1 := hh.out
              rw [show (l1.length + 7) / 8 - i = ((l1.length + 7) / 8 - (i + 1)) + 1 by have := HO.out; omega] at e1
              rw [← e1]
              show _ = hashI _ (mixI (bits .xor .u64 h ((le ((l1.drop o).take 8) : Nat) : Int))) ((l1.drop o).drop 8)
              rw [List.drop_drop, ← HF.out, show o + 8 = 8 * (i + 1) by have := HO.out; omega]
            · rw [show o8 = 8 * (i + 1) by have := HO.out; have := HO8.out; omega]
            · exact pw_below_drewN ((pw_below_drewN B2.out 1).trans (HB3.out _ hB.size)) _
            · have := HO8.out
              simp [intOf]; omega
      · obtain ⟨w3, hrun, hw3, hB3⟩ := copy_arr (dT := 43) (sT := 43) (ty := 3) (n := o8 - o) (sCap := c1 - o) (dCap := 8) w2.drew l1 o Try.underlying43 (by kernel_rfl) hb2 (Kd.C_drew (Kd.C_below HR.out B2.out)) (by omega) (by omega)
        have q4 : o ≤ o8 := by omega
        have q5 : (o8 : Int) ≤ (c1 : Int) := by omega
        have q6 : (0 : Int) ≤ (o8 : Int) := by omega
        have HB3 := Aside0.mk hB3
        have HW3 := Aside0.mk hw3
        rw [Option.map_some] at hrun
        clear ho8 hB3 hw3 hb2 hb0
        go_region
        have HG := Aside0.mk (grp_range (b := l1.drop o) (fun x hx => HL.out x (List.mem_of_mem_drop hx)))
        have HGL := Aside0.mk (grp_len (l1.drop o))
        have HGE := Aside0.mk (le_grp (l1.drop o))
        obtain ⟨G, hG⟩ : ∃ G, G = grp (l1.drop o) := ⟨_, rfl⟩
        rw [← hG] at HW3 HG HGL HGE
        have HGG := Aside0.mk hG
        clear hG
        go_wp2
        go_loopw [8, 32] (fun v8 v32 wr' => ∃ (j acc : Nat), j ≤ 8 ∧ Aside0 (acc = le (G.take j)) ∧ v8 = .int .u64 (acc : Int) ∧ v32 = .int .i64 (j : Int) ∧ w3 = wr') (fun _ v32 _ => 8 - (intOf v32).toNat)
        case atStart => exact ⟨0, 0, by omega, ⟨by simp [le]⟩, rfl, rfl, rfl⟩
        case round =>
          obtain ⟨j, acc, hj, ha, rfl, rfl, rfl⟩ := hrel
          by_cases hj8 : j < 8
          · have hx := getD_range HG.out (show j < G.length by rw [HGL.out]; exact hj8)
            obtain ⟨x, hxe⟩ : ∃ x : Nat, G.getD j 0 = (x : Int) := ⟨(G.getD j 0).toNat, by omega⟩
            have hck : w3.cell? ⟨wr.heap.size, j, none⟩ = some (.int .u8 (x : Int)) := by
              rw [blk_cell HW3.out]
              have h1 : j < G.length := by rw [HGL.out]; exact hj8
              simp only [List.getElem?_toArray, List.getElem?_map, List.getElem?_eq_getElem h1, Option.map_some]
              rw [← hxe, List.getD_eq_getElem?_getD, List.getElem?_eq_getElem h1]; rfl
            have hx256 : x < 256 := by omega
            have hstep : le (G.take (j + 1)) = acc + x * 2 ^ (8 * j) := by
              rw [le_take_succ _ _ (by rw [HGL.out]; exact hj8), ← ha.out, hxe, Int.toNat_natCast]
            have hacc : acc < 2 ^ (8 * j) := by
              have h1 := le_lt (G.take j) (fun y hy => HG.out y (List.mem_of_mem_take hy))
              rw [List.length_take, HGL.out, Nat.min_eq_left (by omega), pow256, ← ha.out] at h1
              exact h1
            have hp : (2 : Nat) ^ (8 * j) ≤ 72057594037927936 := Nat.pow_le_pow_right (by decide) (show 8 * j ≤ 56 by omega)
            have hxm : x * 2 ^ (8 * j) ≤ 255 * 72057594037927936 := Nat.mul_le_mul (by omega) hp
            have eor : bits .or .u64 (acc : Int) ((x * 2 ^ (8 * j) : Nat) : Int) = ((acc + x * 2 ^ (8 * j) : Nat) : Int) := or_u64 (8 * j) acc x hacc (by omega) (by omega)
            have eww : IntKind.u64.wrap ((x * 2 ^ (8 * j) : Nat) : Int) = ((x * 2 ^ (8 * j) : Nat) : Int) := wraps_u64 _ (by omega) (by omega)
            have E1 := Aside0.mk eor
            have E2 := Aside0.mk eww
            have E3 := Aside0.mk hstep
            have hxi : (x : Int) < 256 := by omega
            have hji : (j : Int) < 8 := by omega
            clear eor eww hstep hp hxm hacc hxe hx
            go_wp2
            refine ⟨⟨j + 1, le (G.take (j + 1)), by omega, ⟨rfl⟩, ?_, by simp, by first | rfl | simp⟩, ?_⟩
            · rw [E3.out, ← pow_cast, ← Int.natCast_mul, E2.out, E1.out]
            · simp [intOf]; omega
          · obtain rfl : j = 8 := by omega
            have hf := ha.out
            rw [List.take_of_length_le (by rw [HGL.out]; exact Nat.le_refl 8), HGE.out] at hf
            have HF := Aside0.mk hf
            clear hf
            go_wp2_with (go_at_call 57; refine (checksum_Mix.calls _ _ _ (mix_some _)).mono ?_; rintro e w4 ⟨rfl, ⟨nd4, rfl⟩⟩)
            refine ⟨⟨i + 1, _, by have := HO.out; omega, ⟨?_⟩, rfl, ?_, ?_⟩, ?_⟩
            · have e1 := hh.out
              rw [show (l1.length + 7) / 8 - i = ((l1.length + 7) / 8 - (i + 1)) + 1 by have := HO.out; omega] at e1
              rw [← e1]
              show _ = hashI _ (mixI (bits .xor .u64 h ((le ((l1.drop o).take 8) : Nat) : Int))) ((l1.drop o).drop 8)
              rw [List.drop_drop, ← HF.out, show o + 8 = 8 * (i + 1) by have := HO.out; omega]
            · rw [show o8 = 8 * (i + 1) by have := HO.out; have := HO8.out; omega]
            · exact pw_below_drewN ((pw_below_drewN B2.out 1).trans (HB3.out _ hB.size)) _
            · have := HO8.out
              simp [intOf]; omega
    · have q0 : ¬ ((o : Int) < (l1.length : Int)) := by omega
      have hf := hh.out
      rw [show (l1.length + 7) / 8 - i = 0 by omega] at hf
      have HF := Aside0.mk hf
      clear hf hh ho
      go_wp2
      go_ret
      exact ⟨by rw [← HF.out]; rfl, hB⟩

end Go.Proofs.Ytjeheopcohnkeaa.QBloomContains
