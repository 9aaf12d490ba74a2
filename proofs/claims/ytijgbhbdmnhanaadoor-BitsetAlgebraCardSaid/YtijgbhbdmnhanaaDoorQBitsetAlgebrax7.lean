-- Written by a program of this session (wip/pr2.sh): the walk of the Go text, function by function.
import Derived.Test.YtijgbhbdmnhanaaDoorQBitsetAlgebrax0
import Derived.Test.YtijgbhbdmnhanaaDoorQBitsetAlgebrax1
import Derived.Test.YtijgbhbdmnhanaaDoorQBitsetAlgebrax4
import Derived.Test.YtijgbhbdmnhanaaDoorQBitsetAlgebrax5
import Derived.Test.YtijgbhbdmnhanaaDoorQBitsetAlgebrax6
namespace Go.Proofs.YtijgbhbdmnhanaaDoor.QBitsetAlgebra
open Go.RowKit Go.Proofs.YtijgbhbdmnhanaaDoorW.PrintWords Go.Proofs.YtijgbhbdmnhanaaDoorW.PrintLast Go.Proofs.YtijgbhbdmnhanaaDoorW.PrintMore
open Go.Proofs.YtijgbhbdmnhanaaDoorM
attribute [local go_sem] max2_int min2_int max_two min_two max_three min_three max_four min_four   -- for this text's walks alone
set_option linter.unusedVariables false
set_option linter.unusedSimpArgs false

/-! ### bitset_Rank: function 39 -/
def bitset_Rank.l0 : Nat → Int → Int → List Int → Int → Int → Int → List Int → Option (Int)
 | 0, _, _, _, _, _, _, _ => none
 | k + 1, x1, x5, x17, x18, x19, x235000, x235001 => if x19 < x18 then (if 0 ≤ x19 then (if x19 < (x17.length : Int) then ((bits_OnesCount64.f (rd x17 x19)).bind fun t237 => (bitset_Rank.l0 k x1 (wrap64 (x5 + t237)) x17 x18 (wrap64 (x19 + 1)) x235000 x235001)) else (none)) else (none)) else (if (Int.tmod x1 64) = 0 then (some x5) else (if 0 ≤ (wrap64 (Int.tdiv x1 64)) then (if (wrap64 (Int.tdiv x1 64)) < (x235001.length : Int) then (if 0 ≤ (Int.tmod x1 64) then ((bits_OnesCount64.f (Go.bits .and .u64 (rd x235001 (wrap64 (Int.tdiv x1 64))) (IntKind.u64.wrap ((shl .u64 1 (Int.tmod x1 64)) - 1)))).bind fun t239 => (some (wrap64 (x5 + t239)))) else (none)) else (none)) else (none)))
def bitset_Rank.f (k : Nat) (a0_0 : Int) (l0_1 : List Int) (a1 : Int) : Option (Int) := if 0 ≤ (wrap64 (Int.tdiv (mn (mx a1 0) a0_0) 64)) then (if (wrap64 (Int.tdiv (mn (mx a1 0) a0_0) 64)) ≤ (l0_1.length : Int) then (bitset_Rank.l0 k (mn (mx a1 0) a0_0) 0 (l0_1.take ((wrap64 (Int.tdiv (mn (mx a1 0) a0_0) 64)) : Int).toNat) ((l0_1.take ((wrap64 (Int.tdiv (mn (mx a1 0) a0_0) 64)) : Int).toNat).length : Int) 0 a0_0 l0_1) else (none)) else (none)
theorem bitset_Rank.mono_l : ∀ k, (∀ y0 y1 y2 y3 y4 y5 y6, LeO (bitset_Rank.l0 k y0 y1 y2 y3 y4 y5 y6) (bitset_Rank.l0 (k + 1) y0 y1 y2 y3 y4 y5 y6))
 | 0 => fun _ _ _ _ _ _ _ r h => by simp [bitset_Rank.l0] at h
 | k + 1 => by
  have ih0 := bitset_Rank.mono_l k
  ·intro y0 y1 y2 y3 y4 y5 y6
   unfold bitset_Rank.l0
   repeat' first
   | (with_reducible exact ih0 _ _ _ _ _ _ _)
   | (with_reducible exact LeO.refl _)
   | (with_reducible exact LeO.none _)
   | (with_reducible refine LeO.ite ?_ ?_)
   | (with_reducible refine LeO.bind ?_ (fun _ => ?_))
   | exact ih0 _ _ _ _ _ _ _
   | exact LeO.none _
   | refine LeO.ite ?_ ?_
   | refine LeO.bind ?_ (fun _ => ?_)
theorem bitset_Rank.mono : ∀ a0 a1 a2 k, LeO (bitset_Rank.f k a0 a1 a2) (bitset_Rank.f (k + 1) a0 a1 a2) := by
 intro a0 a1 a2 k
 have ih0 := bitset_Rank.mono_l k
 unfold bitset_Rank.f
 repeat' first
   | (with_reducible exact ih0 _ _ _ _ _ _ _)
   | (with_reducible exact LeO.refl _)
   | (with_reducible exact LeO.none _)
   | (with_reducible refine LeO.ite ?_ ?_)
   | (with_reducible refine LeO.bind ?_ (fun _ => ?_))
   | exact ih0 _ _ _ _ _ _ _
   | exact LeO.none _
   | refine LeO.ite ?_ ?_
   | refine LeO.bind ?_ (fun _ => ?_)
set_option maxHeartbeats 8000000 in
set_option maxRecDepth 100000 in
theorem bitset_Rank.calls (k : Nat) (a0_0 : Int) (A0_1 : Option Addr) (c0_1 : Nat) (l0_1 : List Int) (a1 : Int) (r : Int) (w : World) (hr0_1 : Kd.C (Kd.int .u64) w A0_1 l0_1.length l0_1) (hc0_1 : l0_1.length ≤ c0_1) (h : bitset_Rank.f k a0_0 l0_1 a1 = some r) :
  Calls Tryd.prog 39 #[.agg #[.int .i64 a0_0, .slice A0_1 l0_1.length c0_1], .int .i64 a1] w fun e w' => e = .returned (.int .i64 r) ∧ Below w.heap.size w w' := by
 have hu25 := Tryd.underlying25
 have HR0_1 := Aside0.mk hr0_1
 have HC0_1 := Aside0.mk hc0_1
 clear hr0_1 hc0_1
 have HB := Aside0.mk (Below.refl w.heap.size w)
 have H : (if 0 ≤ (wrap64 (Int.tdiv (mn (mx a1 0) a0_0) 64)) then (if (wrap64 (Int.tdiv (mn (mx a1 0) a0_0) 64)) ≤ (l0_1.length : Int) then (bitset_Rank.l0 k (mn (mx a1 0) a0_0) 0 (l0_1.take ((wrap64 (Int.tdiv (mn (mx a1 0) a0_0) 64)) : Int).toNat) ((l0_1.take ((wrap64 (Int.tdiv (mn (mx a1 0) a0_0) 64)) : Int).toNat).length : Int) 0 a0_0 l0_1) else (none)) else (none)) = some r := h
 clear h
 obtain ⟨ji3, hji3⟩ : ∃ j_ : Int, (mx a1 0) = j_ := ⟨_, rfl⟩
 replace H : (if 0 ≤ (wrap64 (Int.tdiv (mn (ji3) a0_0) 64)) then (if (wrap64 (Int.tdiv (mn (ji3) a0_0) 64)) ≤ (l0_1.length : Int) then (bitset_Rank.l0 k (mn (ji3) a0_0) 0 (l0_1.take ((wrap64 (Int.tdiv (mn (ji3) a0_0) 64)) : Int).toNat) ((l0_1.take ((wrap64 (Int.tdiv (mn (ji3) a0_0) 64)) : Int).toNat).length : Int) 0 a0_0 l0_1) else (none)) else (none)) = some r := by first | (rw [hji3] at H; exact H) | (simp only [hji3] at H ⊢; exact H)
 (try (have hji3l : 0 ≤ ji3 := by (rw [← hji3]; unfold mx; (repeat' split) <;> omega)))
 (try (have hji3m : 0 ≤ ji3 := by omega))
 have hji3_ : (if a1 < 0 then 0 else a1) = ji3 := hji3
 obtain ⟨ji4, hji4⟩ : ∃ j_ : Int, (mn (ji3) a0_0) = j_ := ⟨_, rfl⟩
 replace H : (if 0 ≤ (wrap64 (Int.tdiv (ji4) 64)) then (if (wrap64 (Int.tdiv (ji4) 64)) ≤ (l0_1.length : Int) then (bitset_Rank.l0 k ji4 0 (l0_1.take ((wrap64 (Int.tdiv (ji4) 64)) : Int).toNat) ((l0_1.take ((wrap64 (Int.tdiv (ji4) 64)) : Int).toNat).length : Int) 0 a0_0 l0_1) else (none)) else (none)) = some r := by first | (rw [hji4] at H; exact H) | (simp only [hji4] at H ⊢; exact H)
 have hji4_ : (if a0_0 < (ji3) then a0_0 else (ji3)) = ji4 := hji4
 obtain ⟨ji5, hji5⟩ : ∃ j_ : Int, (wrap64 (Int.tdiv (ji4) 64)) = j_ := ⟨_, rfl⟩
 replace H : (if 0 ≤ (ji5) then (if (ji5) ≤ (l0_1.length : Int) then (bitset_Rank.l0 k ji4 0 (l0_1.take ((ji5) : Int).toNat) ((l0_1.take ((ji5) : Int).toNat).length : Int) 0 a0_0 l0_1) else (none)) else (none)) = some r := by first | (rw [hji5] at H; exact H) | (simp only [hji5] at H ⊢; exact H)
 have hji5w : (IntKind.i64.wrap (Int.tdiv (ji4) 64)) = ji5 := (i64_w _).trans hji5
 by_cases c6 : 0 ≤ (ji5)
 ·rw [if_pos c6] at H
  have c6b0 := eq_true c6
  have c6b1 : decide (0 ≤ (ji5)) = true := decide_eq_true c6
  clear c6
  by_cases c7 : (ji5) ≤ (l0_1.length : Int)
  ·rw [if_pos c7] at H
   have c7b0 := eq_true c7
   have c7b1 : decide ((ji5) ≤ (l0_1.length : Int)) = true := decide_eq_true c7
   have HCUT_ := Aside0.mk (show ((l0_1.take ((ji5) : Int).toNat).length : Int) = max ji5 0 by have h1_ := of_decide_eq_true c6b1; have h2_ := of_decide_eq_true c7b1; rw [List.length_take]; omega)
   clear c7
   have H' := Aside0.mk H
   clear H
   go_enter Tryd.func39, Tryd.ntmps39
   go_wp2_with (first | ((with_reducible refine gate_dst (N := 2) rfl ?_); refine box_event ?hg (N := 2) ?hd (cs := #[.int .i64 a0_0, .slice A0_1 l0_1.length c0_1]) (t := 25) ?hr ?_; (case hd => rfl); (case hg => exact fs_); (case hr => first | (go_simp; done) | (go_simp; rfl)); intro gb234 hg w8 hbox hb; have n0_ := Aside0.mk (below_step (bb_ HB) hb); have n1_ := Aside0.mk (hbox); have n2_ := Aside0.mk ((by rw [hg]; exact (below_size (bb_ HB)) : w.heap.size ≤ gb234)); have n3_ := Aside0.mk ((by rw [hg]; exact (below_size (bb_ HB)) : w.heap.size ≤ gb234)); clear HB; have HB := n0_; have BK234 := n1_; have GW234 := n2_; have GE234 := n3_; clear n0_ n1_ n2_ n3_; clear hb hbox hg; have hcz9_0 : w8.cell? ⟨gb234, 0, none⟩ = some (.int .i64 a0_0) := (blk_cell BK234.out 0).trans rfl; have hcz9_1 : w8.cell? ⟨gb234, 1, none⟩ = some (.slice A0_1 l0_1.length c0_1) := (blk_cell BK234.out 1).trans rfl; have hfz9_0 := blk_frozen BK234.out 0; have hfz9_1 := blk_frozen BK234.out 1; obtain ⟨i010, hi010, _, hsz10, _⟩ := info_parts info56; obtain ⟨hcut10, hA10, hC10⟩ := print_take_of (P := Tryd.prog) (Value.int .u64) 0 23 56 .i64 Tryd.underlying23 hi010 hsz10 A0_1 c0_1 l0_1 (ji5) (of_decide_eq_true as_) (of_decide_eq_true as_) HC0_1.out; have HR235 := Aside0.mk (Kd.C_of_reads (h1 := fun _ => rfl) (hA10 _ (Kd.reads_of_C HR0_1.out))); have HC235 := Aside0.mk hC10; clear hA10 hC10 hi010 hsz10))
   repeat (go_quiet (first | ((with_reducible refine gate_dst (N := 2) rfl ?_); refine box_event ?hg (N := 2) ?hd (cs := #[.int .i64 a0_0, .slice A0_1 l0_1.length c0_1]) (t := 25) ?hr ?_; (case hd => rfl); (case hg => exact fs_); (case hr => first | (go_simp; done) | (go_simp; rfl)); intro gb234 hg w8 hbox hb; have n0_ := Aside0.mk (below_step (bb_ HB) hb); have n1_ := Aside0.mk (hbox); have n2_ := Aside0.mk ((by rw [hg]; exact (below_size (bb_ HB)) : w.heap.size ≤ gb234)); have n3_ := Aside0.mk ((by rw [hg]; exact (below_size (bb_ HB)) : w.heap.size ≤ gb234)); clear HB; have HB := n0_; have BK234 := n1_; have GW234 := n2_; have GE234 := n3_; clear n0_ n1_ n2_ n3_; clear hb hbox hg; have hcz9_0 : w8.cell? ⟨gb234, 0, none⟩ = some (.int .i64 a0_0) := (blk_cell BK234.out 0).trans rfl; have hcz9_1 : w8.cell? ⟨gb234, 1, none⟩ = some (.slice A0_1 l0_1.length c0_1) := (blk_cell BK234.out 1).trans rfl; have hfz9_0 := blk_frozen BK234.out 0; have hfz9_1 := blk_frozen BK234.out 1; obtain ⟨i010, hi010, _, hsz10, _⟩ := info_parts info56; obtain ⟨hcut10, hA10, hC10⟩ := print_take_of (P := Tryd.prog) (Value.int .u64) 0 23 56 .i64 Tryd.underlying23 hi010 hsz10 A0_1 c0_1 l0_1 (ji5) (of_decide_eq_true as_) (of_decide_eq_true as_) HC0_1.out; have HR235 := Aside0.mk (Kd.C_of_reads (h1 := fun _ => rfl) (hA10 _ (Kd.reads_of_C HR0_1.out))); have HC235 := Aside0.mk hC10; clear hA10 hC10 hi010 hsz10)); try go_wp2_with (first | ((with_reducible refine gate_dst (N := 2) rfl ?_); refine box_event ?hg (N := 2) ?hd (cs := #[.int .i64 a0_0, .slice A0_1 l0_1.length c0_1]) (t := 25) ?hr ?_; (case hd => rfl); (case hg => exact fs_); (case hr => first | (go_simp; done) | (go_simp; rfl)); intro gb234 hg w8 hbox hb; have n0_ := Aside0.mk (below_step (bb_ HB) hb); have n1_ := Aside0.mk (hbox); have n2_ := Aside0.mk ((by rw [hg]; exact (below_size (bb_ HB)) : w.heap.size ≤ gb234)); have n3_ := Aside0.mk ((by rw [hg]; exact (below_size (bb_ HB)) : w.heap.size ≤ gb234)); clear HB; have HB := n0_; have BK234 := n1_; have GW234 := n2_; have GE234 := n3_; clear n0_ n1_ n2_ n3_; clear hb hbox hg; have hcz9_0 : w8.cell? ⟨gb234, 0, none⟩ = some (.int .i64 a0_0) := (blk_cell BK234.out 0).trans rfl; have hcz9_1 : w8.cell? ⟨gb234, 1, none⟩ = some (.slice A0_1 l0_1.length c0_1) := (blk_cell BK234.out 1).trans rfl; have hfz9_0 := blk_frozen BK234.out 0; have hfz9_1 := blk_frozen BK234.out 1; obtain ⟨i010, hi010, _, hsz10, _⟩ := info_parts info56; obtain ⟨hcut10, hA10, hC10⟩ := print_take_of (P := Tryd.prog) (Value.int .u64) 0 23 56 .i64 Tryd.underlying23 hi010 hsz10 A0_1 c0_1 l0_1 (ji5) (of_decide_eq_true as_) (of_decide_eq_true as_) HC0_1.out; have HR235 := Aside0.mk (Kd.C_of_reads (h1 := fun _ => rfl) (hA10 _ (Kd.reads_of_C HR0_1.out))); have HC235 := Aside0.mk hC10; clear hA10 hC10 hi010 hsz10)))
   go_loopg [5, 19] k (fun kq v5 v19 w' => ∃ (x5_1 : Int) (x19_1 : Int), v5 = .int .i64 x5_1 ∧ v19 = .int .i64 x19_1 ∧ Aside0 (bitset_Rank.l0 kq ji4 x5_1 (l0_1.take ((ji5) : Int).toNat) ((l0_1.take ((ji5) : Int).toNat).length : Int) x19_1 a0_0 l0_1 = some r) ∧ Aside0 (kq ≤ k) ∧ Aside0 (w'.heap[gb234]? = some (.cells #[.int .i64 a0_0, (.slice A0_1 l0_1.length c0_1)] 25 (0, 0))) ∧ Aside0 (Below w.heap.size w w'))
   case atStart => exact ⟨(0), (0), fr_, fr_, H', ⟨Nat.le_refl _⟩, ⟨by (with_reducible repeat (first | refine blk_drewN ?_ _ | refine blk_drew ?_ | refine blk_alloc ?_ _)); exact BK234.out⟩, ⟨by repeat (first | (with_reducible first | exact HB.out | apply below_alloc | apply pw_below_drewN | apply below_drew1 | refine below_set ?_ GE234.out) | exact HB.out)⟩⟩
   case round =>
    clear H'
    try clear p2
    try clear c3
    try clear c6
    try clear c6b0
    try clear c6b1
    try clear p6
    try clear c7
    try clear c7b0
    try clear c7b1
    try clear hcz9_0
    try clear hcz9_1
    try clear hfz9_0
    try clear hfz9_1
    obtain ⟨x5_1, x19_1, rfl, rfl, HA, HK1, BK234, HB⟩ := hrel
    cases gk with
    | zero => exact absurd HA.out (by simp [bitset_Rank.l0])
    | succ k1 =>
     have H := HA.out
     clear HA
     simp only [bitset_Rank.l0] at H
     by_cases c11 : x19_1 < ((l0_1.take ((ji5) : Int).toNat).length : Int)
     ·rw [if_pos c11] at H
      have c11b0 : decide (x19_1 < ((l0_1.take ((ji5) : Int).toNat).length : Int)) = true := decide_eq_true c11
      have c11m := c11b0
      rw [HCUT_.out] at c11m
      clear c11
      by_cases c12 : 0 ≤ x19_1
      ·rw [if_pos c12] at H
       have c12b0 : decide (0 ≤ x19_1) = true := decide_eq_true c12
       clear c12
       by_cases c13 : x19_1 < ((l0_1.take ((ji5) : Int).toNat).length : Int)
       ·rw [if_pos c13] at H
        have c13b0 : decide (x19_1 < ((l0_1.take ((ji5) : Int).toNat).length : Int)) = true := decide_eq_true c13
        have c13m := c13b0
        rw [HCUT_.out] at c13m
        clear c13
        replace H := Option.bind_eq_some_iff.mp H
        obtain ⟨t237, A140, H⟩ := H
        try dsimp only at H
        have A14 := Aside0.mk A140
        clear A140
        have H' := Aside0.mk H
        clear H
        have p236 : 0 ≤ (x19_1 : Int) := of_decide_eq_true as_
        have q236 : x19_1 < ((l0_1.take ((ji5) : Int).toNat).length : Int) := of_decide_eq_true as_
        obtain ⟨ad236, e236, hx236_0⟩ := Kd.at_int HR235.out x19_1 p236 q236
        cases e236
        replace hx236_0 := (HB.out.cell (World.block_lt_of_cell? w _ hx236_0)).trans hx236_0
        replace p236 := eq_true p236
        replace q236 := eq_true q236
        have qm_ := eq_true (of_decide_eq_true c13m)
        go_wp2_with (first | (go_at_call 78; (with_reducible refine (bits_OnesCount64.calls (rd (l0_1.take ((ji5) : Int).toNat) x19_1) t237 _ A14.out).mono ?_); rintro e w' ⟨rfl, ⟨nd, rfl⟩⟩; (try first | exact ⟨rfl, _, World.drewN_drewN _ _ _⟩ | exact ⟨rfl, _, Eq.trans (World.drewN_drewN _ _ _) (congrArg (World.drewN _) (Nat.add_assoc _ _ _))⟩)))
        repeat (go_quiet (first | (go_at_call 78; (with_reducible refine (bits_OnesCount64.calls (rd (l0_1.take ((ji5) : Int).toNat) x19_1) t237 _ A14.out).mono ?_); rintro e w' ⟨rfl, ⟨nd, rfl⟩⟩; (try first | exact ⟨rfl, _, World.drewN_drewN _ _ _⟩ | exact ⟨rfl, _, Eq.trans (World.drewN_drewN _ _ _) (congrArg (World.drewN _) (Nat.add_assoc _ _ _))⟩))); try go_wp2_with (first | (go_at_call 78; (with_reducible refine (bits_OnesCount64.calls (rd (l0_1.take ((ji5) : Int).toNat) x19_1) t237 _ A14.out).mono ?_); rintro e w' ⟨rfl, ⟨nd, rfl⟩⟩; (try first | exact ⟨rfl, _, World.drewN_drewN _ _ _⟩ | exact ⟨rfl, _, Eq.trans (World.drewN_drewN _ _ _) (congrArg (World.drewN _) (Nat.add_assoc _ _ _))⟩))))
        go_roundg k1
        case measure => have := HK1.out; omega
        case rel => exact ⟨(wrap64 (x5_1 + t237)), (wrap64 (x19_1 + 1)), fr_, fr_, H', ⟨by have := HK1.out; omega⟩, ⟨by (with_reducible repeat (first | refine blk_drewN ?_ _ | refine blk_drew ?_ | refine blk_alloc ?_ _)); exact BK234.out⟩, ⟨by repeat (first | (with_reducible first | exact HB.out | apply below_alloc | apply pw_below_drewN | apply below_drew1 | refine below_set ?_ GE234.out) | exact HB.out)⟩⟩
       ·rw [if_neg c13] at H
        exact absurd H (by simp)
      ·rw [if_neg c12] at H
       exact absurd H (by simp)
     ·rw [if_neg c11] at H
      have c11b0 : decide (x19_1 < ((l0_1.take ((ji5) : Int).toNat).length : Int)) = false := decide_eq_false c11
      have c11m := c11b0
      rw [HCUT_.out] at c11m
      clear c11
      by_cases c15 : (Int.tmod ji4 64) = 0
      ·rw [if_pos c15] at H
       have c15b0 : ((Int.tmod ji4 64) == 0) = true := beq_iff_eq.mpr c15
       have c15b1 : ((Int.tmod ji4 64) != 0) = false := bne_eq_false_iff_eq.mpr c15
       clear c15
       obtain rfl := Option.some.inj H
       go_wp2
       repeat (go_quiet (fail); try go_wp2)
       go_ret
       exact ⟨by first | rfl | (simp [errW_none, errW_some] <;> rfl) | (simp only [← hji3, ← hji4, ← hji5]; first | rfl | (simp [errW_none, errW_some] <;> rfl)) | (simp [*, errW_none, errW_some] <;> rfl), by repeat (first | (with_reducible first | exact HB.out | apply below_alloc | apply pw_below_drewN | apply below_drew1 | refine below_set ?_ GE234.out) | exact HB.out)⟩
      ·rw [if_neg c15] at H
       have c15b0 : ((Int.tmod ji4 64) == 0) = false := beq_eq_false_iff_ne.mpr c15
       have c15b1 : ((Int.tmod ji4 64) != 0) = true := bne_iff_ne.mpr c15
       obtain ⟨ji16, hji16⟩ : ∃ j_ : Int, (wrap64 (Int.tdiv ji4 64)) = j_ := ⟨_, rfl⟩
       replace H : (if 0 ≤ (ji16) then (if (ji16) < (l0_1.length : Int) then (if 0 ≤ (Int.tmod ji4 64) then ((bits_OnesCount64.f (Go.bits .and .u64 (rd l0_1 (ji16)) (IntKind.u64.wrap ((shl .u64 1 (Int.tmod ji4 64)) - 1)))).bind fun t239 => (some (wrap64 (x5_1 + t239)))) else (none)) else (none)) else (none)) = some r := by first | (rw [hji16] at H; exact H) | (simp only [hji16] at H ⊢; exact H)
       have hji16w : (IntKind.i64.wrap (Int.tdiv ji4 64)) = ji16 := (i64_w _).trans hji16
       have h56_ : ji16 = ji5 := hji16.symm.trans hji5
       subst h56_
       by_cases c17 : 0 ≤ (ji16)
       ·rw [if_pos c17] at H
        have c17b0 : decide (0 ≤ (ji16)) = true := decide_eq_true c17
        clear c17
        by_cases c18 : (ji16) < (l0_1.length : Int)
        ·rw [if_pos c18] at H
         have c18b0 : decide ((ji16) < (l0_1.length : Int)) = true := decide_eq_true c18
         clear c18
         obtain ⟨ji19, hji19⟩ : ∃ j_ : Int, (Int.tmod ji4 64) = j_ := ⟨_, rfl⟩
         replace H : (if 0 ≤ (ji19) then ((bits_OnesCount64.f (Go.bits .and .u64 (rd l0_1 (ji16)) (IntKind.u64.wrap ((shl .u64 1 (ji19)) - 1)))).bind fun t239 => (some (wrap64 (x5_1 + t239)))) else (none)) = some r := by first | (rw [hji19] at H; exact H) | (simp only [hji19] at H ⊢; exact H)
         (try rw [hji19] at c15b0)
         (try rw [hji19] at c15b1)
         by_cases c20 : 0 ≤ (ji19)
         ·rw [if_pos c20] at H
          have c20b0 := eq_true c20
          have c20b1 : decide (0 ≤ (ji19)) = true := decide_eq_true c20
          clear c20
          obtain ⟨ji21, hji21⟩ : ∃ j_ : Int, (shl .u64 1 (ji19)) = j_ := ⟨_, rfl⟩
          replace H : ((bits_OnesCount64.f (Go.bits .and .u64 (rd l0_1 (ji16)) (IntKind.u64.wrap ((ji21) - 1)))).bind fun t239 => (some (wrap64 (x5_1 + t239)))) = some r := by first | (rw [hji21] at H; exact H) | (simp only [hji21] at H ⊢; exact H)
          have hji21_ : (IntKind.u64.wrap (1 * 2 ^ min (ji19).toNat 64)) = ji21 := hji21
          have hji21z : (ji19) ≤ 64 → (IntKind.u64.wrap (1 * 2 ^ (ji19).toNat)) = ji21 := shl_small hji21
          have hji21u : (IntKind.u64.wrap (2 ^ min (ji19).toNat 64)) = ji21 := by have h_ := hji21_; rw [Int.one_mul] at h_; exact h_
          have hji21v : (ji19) ≤ 64 → (IntKind.u64.wrap (2 ^ (ji19).toNat)) = ji21 := fun hle_ => by have h_ := hji21z hle_; rw [Int.one_mul] at h_; exact h_
          replace H := Option.bind_eq_some_iff.mp H
          obtain ⟨t239, A220, H⟩ := H
          try dsimp only at H
          have A22 := Aside0.mk A220
          clear A220
          obtain rfl := Option.some.inj H
          have hcz23_0 : wr.cell? ⟨gb234, 0, none⟩ = some (.int .i64 a0_0) := (blk_cell BK234.out 0).trans rfl
          have hcz23_1 : wr.cell? ⟨gb234, 1, none⟩ = some (.slice A0_1 l0_1.length c0_1) := (blk_cell BK234.out 1).trans rfl
          have hfz23_0 := blk_frozen BK234.out 0
          have hfz23_1 := blk_frozen BK234.out 1
          have p238 : 0 ≤ ((ji16) : Int) := of_decide_eq_true as_
          have q238 : (ji16) < (l0_1.length : Int) := of_decide_eq_true as_
          obtain ⟨ad238, e238, hx238_0⟩ := Kd.at_int HR0_1.out (ji16) p238 q238
          cases e238
          replace hx238_0 := (HB.out.cell (World.block_lt_of_cell? w _ hx238_0)).trans hx238_0
          replace p238 := eq_true p238
          replace q238 := eq_true q238
          go_wp2_with (first | (go_at_call 78; (with_reducible refine (bits_OnesCount64.calls (Go.bits .and .u64 (rd l0_1 (ji16)) (IntKind.u64.wrap ((ji21) - 1))) t239 _ A22.out).mono ?_); rintro e w' ⟨rfl, ⟨nd, rfl⟩⟩; (try first | exact ⟨rfl, _, World.drewN_drewN _ _ _⟩ | exact ⟨rfl, _, Eq.trans (World.drewN_drewN _ _ _) (congrArg (World.drewN _) (Nat.add_assoc _ _ _))⟩)))
          repeat (go_quiet (first | (go_at_call 78; (with_reducible refine (bits_OnesCount64.calls (Go.bits .and .u64 (rd l0_1 (ji16)) (IntKind.u64.wrap ((ji21) - 1))) t239 _ A22.out).mono ?_); rintro e w' ⟨rfl, ⟨nd, rfl⟩⟩; (try first | exact ⟨rfl, _, World.drewN_drewN _ _ _⟩ | exact ⟨rfl, _, Eq.trans (World.drewN_drewN _ _ _) (congrArg (World.drewN _) (Nat.add_assoc _ _ _))⟩))); try go_wp2_with (first | (go_at_call 78; (with_reducible refine (bits_OnesCount64.calls (Go.bits .and .u64 (rd l0_1 (ji16)) (IntKind.u64.wrap ((ji21) - 1))) t239 _ A22.out).mono ?_); rintro e w' ⟨rfl, ⟨nd, rfl⟩⟩; (try first | exact ⟨rfl, _, World.drewN_drewN _ _ _⟩ | exact ⟨rfl, _, Eq.trans (World.drewN_drewN _ _ _) (congrArg (World.drewN _) (Nat.add_assoc _ _ _))⟩))))
          go_ret
          exact ⟨by first | rfl | (simp [errW_none, errW_some] <;> rfl) | (simp only [← hji3, ← hji4, ← hji5, ← hji16, ← hji19, ← hji21]; first | rfl | (simp [errW_none, errW_some] <;> rfl)) | (simp [*, errW_none, errW_some] <;> rfl), by repeat (first | (with_reducible first | exact HB.out | apply below_alloc | apply pw_below_drewN | apply below_drew1 | refine below_set ?_ GE234.out) | exact HB.out)⟩
         ·rw [if_neg c20] at H
          exact absurd H (by simp)
        ·rw [if_neg c18] at H
         exact absurd H (by simp)
       ·rw [if_neg c17] at H
        exact absurd H (by simp)
  ·rw [if_neg c7] at H
   exact absurd H (by simp)
 ·rw [if_neg c6] at H
  exact absurd H (by simp)

/-! ### bitset_Select: function 40 -/
section
open Go.Shelf
attribute [local go_sem] Oper.semAt_some
def bitset_Select.f (a0_0 : Int) (l0_1 : List Int) (a1 : Int) : Option Int := if wokB l0_1 = true ∧ l0_1.length ≤ 10000000 ∧ a1 < 9223372036854775808 then some (selI l0_1 a1) else none
set_option maxHeartbeats 2000000 in
set_option maxRecDepth 100000 in
theorem bitset_Select.calls (a0_0 : Int) (A0_1 : Option Addr) (c0_1 : Nat) (l0_1 : List Int) (a1 : Int) (r : Int) (w : World) (hr0_1 : Kd.C (Kd.int .u64) w A0_1 l0_1.length l0_1) (hc0_1 : l0_1.length ≤ c0_1) (hT : TabAt w) (h : bitset_Select.f a0_0 l0_1 a1 = some r) :
    Calls Tryd.prog 40 #[.agg #[.int .i64 a0_0, .slice A0_1 l0_1.length c0_1], .int .i64 a1] w fun e w' => e = .returned (.int .i64 r) ∧ Below w.heap.size w w' := by
  unfold bitset_Select.f at h
  by_cases hsz : wokB l0_1 = true ∧ l0_1.length ≤ 10000000 ∧ a1 < 9223372036854775808
  case neg => rw [if_neg hsz] at h; cases h
  rw [if_pos hsz] at h
  obtain ⟨s1, s2, s3⟩ := hsz
  have hrr := Option.some.inj h
  subst hrr
  clear h
  have hwok := wokB_wok s1
  have hwds := words_at hr0_1
  have hpos := TabAt.pos hT
  have hro : Fence.wide.round = none := rfl
  refine (callsIn_wide (n := 8)).1 ?_
  refine callsIn_of_wp_marks Tryd.func40 rfl trivial ?_ hro
  simp only [Tryd.ntmps40, List.size_toArray, List.length_cons, List.length_nil, Nat.reduceAdd, Nat.reduceSub, Array.replicate_succ, Array.replicate_zero, List.push_toArray, List.append_toArray, List.nil_append, List.cons_append]
  by_cases hneg : a1 < 0
  · have e0 : decide (a1 < 0) = true := decide_eq_true hneg
    gi_wp2
    have hB0 : Below w.heap.size w (((w.alloc (.cells #[.int .i64 a0_0, .slice A0_1 l0_1.length c0_1] 25)).alloc (.cells #[.int .i64 a1] 3)).alloc (.cells #[.int .i64 (-1)] 3)) := (((Below.refl _ w).alloc (Nat.le_refl _) _).alloc (by simp) _).alloc (by simp; omega) _
    have c2 := r_new ((w.alloc (.cells #[.int .i64 a0_0, .slice A0_1 l0_1.length c0_1] 25)).alloc (.cells #[.int .i64 a1] 3)) (.int .i64 (-1)) 3
    simp only [World.size_alloc] at c2
    refine ⟨.int .i64 (-1), ?_, by unfold selI; rw [if_pos hneg], hB0⟩
    simp [results, Tryd.f40, go_sem, c2.1]
  · have e0 : decide (a1 < 0) = false := decide_eq_false hneg
    gi_wp2_with (refine ⟨trivial, ?_⟩; gi_at_call 59; refine (all_in Fence.wide 7 trivial hro a0_0 A0_1 l0_1.length c0_1 _).mono ?_; rintro e w' ⟨rfl, rfl⟩)
    have b0 := r_new (w.alloc (.cells #[.int .i64 a0_0, .slice A0_1 l0_1.length c0_1] 25)) (.int .i64 a1) 3
    have b1 := r_new ((w.alloc (.cells #[.int .i64 a0_0, .slice A0_1 l0_1.length c0_1] 25)).alloc (.cells #[.int .i64 a1] 3)) (.int .i64 0) 3
    have b2 := r_new2 (((w.alloc (.cells #[.int .i64 a0_0, .slice A0_1 l0_1.length c0_1] 25)).alloc (.cells #[.int .i64 a1] 3)).alloc (.cells #[.int .i64 0] 3)) (.int .i64 a0_0) (.slice A0_1 l0_1.length c0_1) 25
    have d0 := r_alloc (.cells #[.int .i64 0] 3) b0.1
    have d1 := r_falloc (.cells #[.int .i64 0] 3) b0.1 b0.2
    have k0 := r_alloc (.cells #[.int .i64 a0_0, .slice A0_1 l0_1.length c0_1] 25) d0
    have k1 := r_falloc (.cells #[.int .i64 a0_0, .slice A0_1 l0_1.length c0_1] 25) d0 d1
    have k2 := r_alloc (.cells #[.int .i64 a0_0, .slice A0_1 l0_1.length c0_1] 25) b1.1
    have k3 := r_falloc (.cells #[.int .i64 a0_0, .slice A0_1 l0_1.length c0_1] 25) b1.1 b1.2
    have hB0 : Below w.heap.size w ((((w.alloc (.cells #[.int .i64 a0_0, .slice A0_1 l0_1.length c0_1] 25)).alloc (.cells #[.int .i64 a1] 3)).alloc (.cells #[.int .i64 0] 3)).alloc (.cells #[.int .i64 a0_0, .slice A0_1 l0_1.length c0_1] 25)) := ((((Below.refl _ w).alloc (Nat.le_refl _) _).alloc (by simp) _).alloc (by simp; omega) _).alloc (by simp; omega) _
    have hsz : ((((w.alloc (.cells #[.int .i64 a0_0, .slice A0_1 l0_1.length c0_1] 25)).alloc (.cells #[.int .i64 a1] 3)).alloc (.cells #[.int .i64 0] 3)).alloc (.cells #[.int .i64 a0_0, .slice A0_1 l0_1.length c0_1] 25)).heap.size = w.heap.size + 4 := by simp
    simp only [World.size_alloc] at b2 k0 k1 k2 k3
    clear b0 b1 d0 d1
    obtain ⟨W0, hW0⟩ : ∃ W0, W0 = ((((w.alloc (.cells #[.int .i64 a0_0, .slice A0_1 l0_1.length c0_1] 25)).alloc (.cells #[.int .i64 a1] 3)).alloc (.cells #[.int .i64 0] 3)).alloc (.cells #[.int .i64 a0_0, .slice A0_1 l0_1.length c0_1] 25)) := ⟨_, rfl⟩
    rw [← hW0] at b2 k0 k1 k2 k3 hB0 hsz ⊢
    clear hW0
    refine wpIn_rangeFunc_ownF hro (by decide) (gf := 81) (lb := #[.pointer (some ⟨w.heap.size + 1 + 1 + 1, 0, none⟩)]) rfl trivial (enters_of Tryd.func81 (by kernel_rfl) rfl)
      (all_stops Fence.wide 7 trivial trivial hro (by decide) (w.heap.size + 1 + 1 + 1) w.heap.size l0_1.length c0_1 A0_1 l0_1 hwok rfl s2 hpos W0 (by omega) (by omega) b2 (fun j hj => by
        obtain ⟨ad, e1, e2, e3⟩ := hwds j hj
        exact ⟨ad, e1, e2, (hB0.cell (p := ad.add j) ((addr_block ad j).symm ▸ e2)).trans e3⟩) (hT.below hB0 hpos)) belowK_t (belowK_b (by omega)) (Below.refl _ _) (fun _ => rfl)
      (fun pre W => ((pre.length : Int) ≤ a1 ∧ W.cell? ⟨w.heap.size + 1, 0, none⟩ = some (.int .i64 (a1 - pre.length)) ∧ W.frozen? ⟨w.heap.size + 1, 0, none⟩ = false ∧ W.cell? ⟨w.heap.size + 1 + 1, 0, none⟩ = some (.int .i64 0) ∧ W.frozen? ⟨w.heap.size + 1 + 1, 0, none⟩ = false) ∧ Below w.heap.size w W)
      (fun c pre W => (c = .ret ∧ ∃ (q : List Int) (x : Int), pre = q ++ [x] ∧ (q.length : Int) = a1 ∧ W.cell? ⟨w.heap.size + 1 + 1, 0, none⟩ = some (.int .i64 x)) ∧ Below w.heap.size w W)
      (OwnFrom.and (Own.from (fun s A B row hs hg hr => ⟨hs.1, _root_.Go.cell_kept hs.2.1 hg hr, (_root_.Go.frozen_kept hs.2.1 hg hr).trans hs.2.2.1, _root_.Go.cell_kept hs.2.2.2.1 hg hr, (_root_.Go.frozen_kept hs.2.2.2.1 hg hr).trans hs.2.2.2.2⟩) _) (ownFrom_below (Nat.le_refl _) (by omega)))
      (fun c => OwnFrom.and (Own.from (fun s A B row hs hg hr => ⟨hs.1, by obtain ⟨q, x, e1, e2, e3⟩ := hs.2; exact ⟨q, x, e1, e2, _root_.Go.cell_kept e3 hg hr⟩⟩) _) (ownFrom_below (Nat.le_refl _) (by omega)))
      ⟨⟨by simp; omega, by simpa using k0, k1, k2, k3⟩, hB0⟩
      (fun x => { tmps := #[.agg #[.int .i64 a0_0, .slice A0_1 l0_1.length c0_1], .int .i64 a1, .pointer (some ⟨w.heap.size, 0, none⟩), .pointer (some ⟨w.heap.size + 1, 0, none⟩), .pointer (some ⟨w.heap.size + 1 + 1, 0, none⟩), .int .i64 x, .int .i64 a1, .bool false, .agg #[.int .i64 a0_0, .slice A0_1 l0_1.length c0_1], .func (.func 81) #[] #[.pointer (some ⟨w.heap.size + 1 + 1 + 1, 0, none⟩)], .int .i64 x, undef, undef, undef, undef, undef], defers := [] }) ?assign ?body ?done ?stop
    case assign =>
      intro l x W K hK
      gi_wp2
      exact hK
    case body =>
      rintro l pre x W ⟨⟨hle, hk1, hf1, hk2, hf2⟩, hB⟩ _
      by_cases hz : (pre.length : Int) = a1
      · have e1 : (a1 - (pre.length : Int) == 0) = true := by simp; omega
        gi_wp2
        exact ⟨KeepsOthers.setCell _ _ _, ⟨rfl, pre, x, rfl, hz, World.cell?_setCell_same' _ _ _ (by rw [hk2]; rfl)⟩, hB.setCell (p := ⟨w.heap.size + 1 + 1, 0, none⟩) (by simp; omega) _⟩
      · have e1 : (a1 - (pre.length : Int) == 0) = false := by simp; omega
        have e2 : IntKind.i64.wrap (a1 - (pre.length : Int) - 1) = a1 - ((pre.length + 1 : Nat) : Int) := by rw [IntWalk.i64_in _ (by omega)]; omega
        gi_wp2
        refine ⟨KeepsOthers.setCell _ _ _, (Below.refl w.heap.size W).setCell (p := ⟨w.heap.size + 1, 0, none⟩) (by simp) _, ⟨by simp; omega, ?_, by rw [World.frozen?_setCell]; exact hf1, ?_, by rw [World.frozen?_setCell]; exact hf2⟩, hB.setCell (p := ⟨w.heap.size + 1, 0, none⟩) (by simp) _⟩
        · have := World.cell?_setCell_same' W ⟨w.heap.size + 1, 0, none⟩ (.int .i64 (a1 - ((pre.length : Int) + 1))) (by rw [hk1]; rfl)
          simpa using this
        · exact (r_other hk2 (by simp) _)
    case done =>
      rintro D ys W hD rfl ⟨⟨hle, _, _, hk2, hf2⟩, hB⟩ hK
      gi_wp2
      have hK' := (KeepsOthers.setCell W ⟨w.heap.size + 1 + 1, 0, none⟩ (.int .i64 (-1))).same D _ hK rfl
      refine ⟨by simp, .inl ⟨_, _, rfl, run_takeDeferred hK', ?_⟩⟩
      have hc5 := _root_.Go.cell_kept (World.cell?_setCell_same' W ⟨w.heap.size + 1 + 1, 0, none⟩ (.int .i64 (-1)) (by rw [hk2]; rfl)) (grownBy_putObj' _ D (.deferred none)) (fun r e => by cases e; exact ⟨_, hK', rfl⟩)
      refine ⟨.int .i64 (-1), ?_, ?_, (hB.setCell (p := ⟨w.heap.size + 1 + 1, 0, none⟩) (by simp; omega) _).trans (belowK_b (w := w) (Nat.le_refl _) _ D _ _ (by omega) hK' rfl rfl)⟩
      · simp [results, Tryd.f40, go_sem, hc5]
      · unfold selI
        rw [if_neg (show ¬ a1 < 0 by omega), List.getD_eq_getElem?_getD, List.getElem?_eq_none (by omega)]
        rfl
    case stop =>
      rintro D c pre W hD hpre ⟨⟨rfl, q, x, rfl, hq, hcr⟩, hB⟩ hK
      gi_wp2
      refine ⟨by simp, .inl ⟨_, _, rfl, run_takeDeferred hK, ?_⟩⟩
      have hc5 := _root_.Go.cell_kept hcr (grownBy_putObj' _ D (.deferred none)) (fun r e => by cases e; exact ⟨_, hK, rfl⟩)
      refine ⟨.int .i64 x, ?_, ?_, hB.trans (belowK_b (w := w) (Nat.le_refl _) W D _ _ (by omega) hK rfl rfl)⟩
      · simp [results, Tryd.f40, go_sem, hc5]
      · unfold selI
        obtain ⟨s, hs⟩ := hpre
        rw [if_neg (show ¬ a1 < 0 by omega), ← hs, List.getD_eq_getElem?_getD, List.append_assoc, List.getElem?_append_right (by omega), show a1.toNat - q.length = 0 by omega]
        rfl
end

/-! ### bitset_Contains: function 38 -/
def bitset_Contains.f (a0_0 : Int) (l0_1 : List Int) (a1 : Int) : Option (Bool) := if a1 ≥ 0 then (if a1 < a0_0 then (if 0 ≤ (wrap64 (Int.tdiv a1 64)) then (if (wrap64 (Int.tdiv a1 64)) < (l0_1.length : Int) then (if 0 ≤ (Int.tmod a1 64) then (some ((Go.bits .and .u64 (shr .u64 (rd l0_1 (wrap64 (Int.tdiv a1 64))) (Int.tmod a1 64)) 1) == 1)) else (none)) else (none)) else (none)) else (some false)) else (some false)
set_option maxHeartbeats 8000000 in
set_option maxRecDepth 100000 in
theorem bitset_Contains.calls (a0_0 : Int) (A0_1 : Option Addr) (c0_1 : Nat) (l0_1 : List Int) (a1 : Int) (r : Bool) (w : World) (hr0_1 : Kd.C (Kd.int .u64) w A0_1 l0_1.length l0_1) (hc0_1 : l0_1.length ≤ c0_1) (h : bitset_Contains.f a0_0 l0_1 a1 = some r) :
  Calls Tryd.prog 38 #[.agg #[.int .i64 a0_0, .slice A0_1 l0_1.length c0_1], .int .i64 a1] w fun e w' => e = .returned (.bool r) ∧ Below w.heap.size w w' := by
 have hu25 := Tryd.underlying25
 have HR0_1 := Aside0.mk hr0_1
 have HC0_1 := Aside0.mk hc0_1
 clear hr0_1 hc0_1
 have HB := Aside0.mk (Below.refl w.heap.size w)
 have H : (if a1 ≥ 0 then (if a1 < a0_0 then (if 0 ≤ (wrap64 (Int.tdiv a1 64)) then (if (wrap64 (Int.tdiv a1 64)) < (l0_1.length : Int) then (if 0 ≤ (Int.tmod a1 64) then (some ((Go.bits .and .u64 (shr .u64 (rd l0_1 (wrap64 (Int.tdiv a1 64))) (Int.tmod a1 64)) 1) == 1)) else (none)) else (none)) else (none)) else (some false)) else (some false)) = some r := h
 clear h
 by_cases c3 : a1 ≥ 0
 ·rw [if_pos c3] at H
  have c3b0 : decide (0 ≤ a1) = true := decide_eq_true c3
  clear c3
  by_cases c4 : a1 < a0_0
  ·rw [if_pos c4] at H
   have c4b0 : decide (a1 < a0_0) = true := decide_eq_true c4
   clear c4
   obtain ⟨ji5, hji5⟩ : ∃ j_ : Int, (wrap64 (Int.tdiv a1 64)) = j_ := ⟨_, rfl⟩
   replace H : (if 0 ≤ (ji5) then (if (ji5) < (l0_1.length : Int) then (if 0 ≤ (Int.tmod a1 64) then (some ((Go.bits .and .u64 (shr .u64 (rd l0_1 (ji5)) (Int.tmod a1 64)) 1) == 1)) else (none)) else (none)) else (none)) = some r := by first | (rw [hji5] at H; exact H) | (simp only [hji5] at H ⊢; exact H)
   have hji5w : (IntKind.i64.wrap (Int.tdiv a1 64)) = ji5 := (i64_w _).trans hji5
   by_cases c6 : 0 ≤ (ji5)
   ·rw [if_pos c6] at H
    have c6b0 : decide (0 ≤ (ji5)) = true := decide_eq_true c6
    clear c6
    by_cases c7 : (ji5) < (l0_1.length : Int)
    ·rw [if_pos c7] at H
     have c7b0 : decide ((ji5) < (l0_1.length : Int)) = true := decide_eq_true c7
     clear c7
     obtain ⟨ji8, hji8⟩ : ∃ j_ : Int, (Int.tmod a1 64) = j_ := ⟨_, rfl⟩
     replace H : (if 0 ≤ (ji8) then (some ((Go.bits .and .u64 (shr .u64 (rd l0_1 (ji5)) (ji8)) 1) == 1)) else (none)) = some r := by first | (rw [hji8] at H; exact H) | (simp only [hji8] at H ⊢; exact H)
     by_cases c9 : 0 ≤ (ji8)
     ·rw [if_pos c9] at H
      have c9b0 := eq_true c9
      have c9b1 : decide (0 ≤ (ji8)) = true := decide_eq_true c9
      clear c9
      obtain ⟨ji10, hji10⟩ : ∃ j_ : Int, (shr .u64 (rd l0_1 (ji5)) (ji8)) = j_ := ⟨_, rfl⟩
      replace H : (some ((Go.bits .and .u64 (ji10) 1) == 1)) = some r := by first | (rw [hji10] at H; exact H) | (simp only [hji10] at H ⊢; exact H)
      have hji10_ : ((rd l0_1 (ji5)) / 2 ^ min (ji8).toNat 64) = ji10 := hji10
      have hji10z : (ji8) ≤ 64 → ((rd l0_1 (ji5)) / 2 ^ (ji8).toNat) = ji10 := shr_small hji10
      obtain rfl := Option.some.inj H
      go_enter Tryd.func38, Tryd.ntmps38
      go_wp2_with (first | ((with_reducible refine gate_dst (N := 2) rfl ?_); refine box_event ?hg (N := 2) ?hd (cs := #[.int .i64 a0_0, .slice A0_1 l0_1.length c0_1]) (t := 25) ?hr ?_; (case hd => rfl); (case hg => exact fs_); (case hr => first | (go_simp; done) | (go_simp; rfl)); intro gb240 hg w11 hbox hb; have n0_ := Aside0.mk (below_step (bb_ HB) hb); have n1_ := Aside0.mk (hbox); have n2_ := Aside0.mk ((by rw [hg]; exact (below_size (bb_ HB)) : w.heap.size ≤ gb240)); have n3_ := Aside0.mk ((by rw [hg]; exact (below_size (bb_ HB)) : w.heap.size ≤ gb240)); clear HB; have HB := n0_; have BK240 := n1_; have GW240 := n2_; have GE240 := n3_; clear n0_ n1_ n2_ n3_; clear hb hbox hg; have hcz12_0 : w11.cell? ⟨gb240, 0, none⟩ = some (.int .i64 a0_0) := (blk_cell BK240.out 0).trans rfl; have hcz12_1 : w11.cell? ⟨gb240, 1, none⟩ = some (.slice A0_1 l0_1.length c0_1) := (blk_cell BK240.out 1).trans rfl; have hfz12_0 := blk_frozen BK240.out 0; have hfz12_1 := blk_frozen BK240.out 1; have p241 : 0 ≤ ((ji5) : Int) := of_decide_eq_true as_; have q241 : (ji5) < (l0_1.length : Int) := of_decide_eq_true as_; obtain ⟨ad241, e241, hx241_0⟩ := Kd.at_int HR0_1.out (ji5) p241 q241; cases e241; replace hx241_0 := (HB.out.cell (World.block_lt_of_cell? w _ hx241_0)).trans hx241_0; replace p241 := eq_true p241; replace q241 := eq_true q241))
      go_ret
      exact ⟨by first | rfl | (simp [errW_none, errW_some] <;> rfl) | (simp only [← hji5, ← hji8, ← hji10]; first | rfl | (simp [errW_none, errW_some] <;> rfl)) | (simp [*, errW_none, errW_some] <;> rfl), by repeat (first | (with_reducible first | exact HB.out | apply below_alloc | apply pw_below_drewN | apply below_drew1 | refine below_set ?_ GE240.out) | exact HB.out)⟩
     ·rw [if_neg c9] at H
      exact absurd H (by simp)
    ·rw [if_neg c7] at H
     exact absurd H (by simp)
   ·rw [if_neg c6] at H
    exact absurd H (by simp)
  ·rw [if_neg c4] at H
   have c4b0 : decide (a1 < a0_0) = false := decide_eq_false c4
   clear c4
   obtain rfl := Option.some.inj H
   go_enter Tryd.func38, Tryd.ntmps38
   go_wp2_with (first | ((with_reducible refine gate_dst (N := 2) rfl ?_); refine box_event ?hg (N := 2) ?hd (cs := #[.int .i64 a0_0, .slice A0_1 l0_1.length c0_1]) (t := 25) ?hr ?_; (case hd => rfl); (case hg => exact fs_); (case hr => first | (go_simp; done) | (go_simp; rfl)); intro gb240 hg w13 hbox hb; have n0_ := Aside0.mk (below_step (bb_ HB) hb); have n1_ := Aside0.mk (hbox); have n2_ := Aside0.mk ((by rw [hg]; exact (below_size (bb_ HB)) : w.heap.size ≤ gb240)); have n3_ := Aside0.mk ((by rw [hg]; exact (below_size (bb_ HB)) : w.heap.size ≤ gb240)); clear HB; have HB := n0_; have BK240 := n1_; have GW240 := n2_; have GE240 := n3_; clear n0_ n1_ n2_ n3_; clear hb hbox hg; have hcz14_0 : w13.cell? ⟨gb240, 0, none⟩ = some (.int .i64 a0_0) := (blk_cell BK240.out 0).trans rfl; have hcz14_1 : w13.cell? ⟨gb240, 1, none⟩ = some (.slice A0_1 l0_1.length c0_1) := (blk_cell BK240.out 1).trans rfl; have hfz14_0 := blk_frozen BK240.out 0; have hfz14_1 := blk_frozen BK240.out 1))
   go_ret
   exact ⟨er_, by repeat (first | (with_reducible first | exact HB.out | apply below_alloc | apply pw_below_drewN | apply below_drew1 | refine below_set ?_ GE240.out) | exact HB.out)⟩
 ·rw [if_neg c3] at H
  have c3b0 : decide (0 ≤ a1) = false := decide_eq_false c3
  clear c3
  obtain rfl := Option.some.inj H
  go_enter Tryd.func38, Tryd.ntmps38
  go_wp2_with (first | ((with_reducible refine gate_dst (N := 2) rfl ?_); refine box_event ?hg (N := 2) ?hd (cs := #[.int .i64 a0_0, .slice A0_1 l0_1.length c0_1]) (t := 25) ?hr ?_; (case hd => rfl); (case hg => exact fs_); (case hr => first | (go_simp; done) | (go_simp; rfl)); intro gb240 hg w15 hbox hb; have n0_ := Aside0.mk (below_step (bb_ HB) hb); have n1_ := Aside0.mk (hbox); have n2_ := Aside0.mk ((by rw [hg]; exact (below_size (bb_ HB)) : w.heap.size ≤ gb240)); have n3_ := Aside0.mk ((by rw [hg]; exact (below_size (bb_ HB)) : w.heap.size ≤ gb240)); clear HB; have HB := n0_; have BK240 := n1_; have GW240 := n2_; have GE240 := n3_; clear n0_ n1_ n2_ n3_; clear hb hbox hg))
  go_ret
  exact ⟨er_, by repeat (first | (with_reducible first | exact HB.out | apply below_alloc | apply pw_below_drewN | apply below_drew1 | refine below_set ?_ GE240.out) | exact HB.out)⟩

/-! ### laminalaw03_lives: function 30 -/
section
open Go.Shelf
attribute [local go_sem] Oper.semAt_some
def laminalaw03_lives.f : Option Bool := some true
theorem lv_cmp (p : Value) (W : World) : Sem.run Tryd.prog (binOp BinOp.eql 63 (Value.func (Fn.func 81) #[] #[p]) Value.nilFunc) W = .ok (.bool false) W := rfl
theorem lv_C {k : IntKind} (t : TypeId) (w : World) (xs : List Int) (hx : xs.length ≤ 1000) : Kd.C (Kd.int k) (w.alloc (.cells (xs.map (Value.int k)).toArray t)) (some ⟨w.heap.size, 0, none⟩) xs.length xs := by
  have h0 : (w.alloc (.cells (xs.map (Value.int k)).toArray t)).ownsRow w.heap.size t 1 (.slice (some ⟨w.heap.size, 0, none⟩) xs.length xs.length) xs.length (xs.map (Value.int k)) :=
    ⟨by simp, .inr ⟨w.heap.size, xs.length, (xs.map (Value.int k)).toArray, rfl, Nat.le_refl _, World.alloc_heap_new w _, Nat.le_refl _, by simp only [maxLen]; omega, by simp, by simp [List.take_of_length_le]⟩⟩
  exact (Kd.R_reads' (Kd.R_of_own (enc := Value.int k) (h1 := fun _ => rfl) (ok := fun _ => True) h0 (fun _ _ => trivial))).2.2
theorem lv_fld (a : Int) (v : Value) (W : World) : Sem.run Tryd.prog (Instr.field 25 (.agg #[.int .i64 a, v]) 0) W = .ok (.int .i64 a) W := rfl
def lv_sum : List Int → Int := List.foldl (fun s v => wrap64 (s + v)) 0
theorem lv_snoc (pre : List Int) (x : Int) : lv_sum (pre ++ [x]) = wrap64 (lv_sum pre + x) := by simp [lv_sum]
theorem lv_two (w : World) (u v : Value) (t : TypeId) : (w.alloc (.cells #[u, v] t)).cell? ⟨w.heap.size, 0, none⟩ = some u ∧ (w.alloc (.cells #[u, v] t)).cell? ⟨w.heap.size, 1, none⟩ = some v := ⟨(blk_cell (blk_new w (.cells #[u, v] t)) 0).trans rfl, (blk_cell (blk_new w (.cells #[u, v] t)) 1).trans rfl⟩
theorem lv_enc : bitset_Encode.f 5 [10] = some [5, 1, 1, 1, 1, 1] := by
  have he : elsI [10] (64 * [(10 : Int)].length) = [1, 3] := by decide +kernel
  have hw : wokB [10] = true := by decide +kernel
  unfold bitset_Encode.f
  rw [if_pos ⟨hw, by decide, by decide, by decide⟩, he]
  have v1 : venc 1 = [1] := venc_lt (by decide)
  have v5 : venc 5 = [5] := venc_lt (by decide)
  simp [bencI, efin, efold, estep, eadv, eset, eflush, v1, v5]
theorem lv_new : ∃ l, bitset_New.f 1048576 = some (1048576, l) := by
  have h1 : bitset_wordCount.f 1048576 = some 16384 := by decide +kernel
  unfold bitset_New.f
  rw [if_neg (by decide), if_neg (by decide), h1]
  exact ⟨_, rfl⟩
set_option maxHeartbeats 8000000 in
set_option maxRecDepth 100000 in
theorem laminalaw03_lives.calls (r : Bool) (w : World) (hT : TabAt w) (h : laminalaw03_lives.f = some r) :
    Calls Tryd.prog 30 #[] w fun e w' => e = .returned (.bool r) ∧ Below w.heap.size w w' := by
  obtain rfl := Option.some.inj h
  clear h
  obtain ⟨ys, hys⟩ : ∃ y : List Int, y = [10] := ⟨_, rfl⟩
  obtain ⟨zs, hzs⟩ : ∃ y : List Int, y = [3] := ⟨_, rfl⟩
  obtain ⟨us, hus⟩ : ∃ y : List Int, y = [] := ⟨_, rfl⟩
  obtain ⟨bs, hbs⟩ : ∃ y : List Int, y = [5, 1, 1, 1, 1, 1] := ⟨_, rfl⟩
  obtain ⟨nl, hnl⟩ := lv_new
  have D1 := Aside0.mk (show bitset_Of.f 200 5 [1, 3, 9] = some (5, ys) by rw [hys]; decide +kernel)
  have D2 := Aside0.mk (show bitset_Encode.f 5 ys = some bs by rw [hys, hbs]; exact lv_enc)
  have D3 := Aside0.mk (show bitset_Decode.f 200 [2, 0, 2, 7] 0 = some (2, zs, 3, 0) by rw [hzs]; decide +kernel)
  have D4 := Aside0.mk (show bitset_Decode.f 200 [2, 0, 0] 0 = some (0, us, 0, 4) by rw [hus]; decide +kernel)
  have D5 := Aside0.mk (show bitset_Valid.f 5 ys = some true by rw [hys]; decide +kernel)
  have D6 := Aside0.mk (show bitset_Count.f 200 5 ys = some 2 by rw [hys]; decide +kernel)
  have D7 := Aside0.mk (show bitset_Rank.f 200 5 ys 3 = some 1 by rw [hys]; decide +kernel)
  have D8 := Aside0.mk (show bitset_Select.f 5 ys 1 = some 3 by rw [hys]; decide +kernel)
  have D9 := Aside0.mk (show bitset_Select.f 5 ys 2 = some (-1) by rw [hys]; decide +kernel)
  have D10 := Aside0.mk (show bitset_Count.f 200 2 zs = some 2 by rw [hzs]; decide +kernel)
  have D11 := Aside0.mk (show bitset_New.f (-1) = some (0, us) by rw [hus]; decide +kernel)
  have D12 := Aside0.mk hnl
  have D13 := Aside0.mk (show bitset_New.f 1048577 = some (0, us) by rw [hus]; decide +kernel)
  have D14 := Aside0.mk (show bitset_Contains.f 5 ys 1 = some true by rw [hys]; decide +kernel)
  have D15 := Aside0.mk (show bitset_Contains.f 5 ys 0 = some false by rw [hys]; decide +kernel)
  have D16 := Aside0.mk (show bitset_Valid.f 1 [] = some false by decide +kernel)
  have E1 : ((strOfNums bs) == (⟨#[5, 1, 1, 1, 1, 1]⟩ : ByteArray)) = true := by rw [hbs]; decide +kernel
  have E2 : ((strOfNums bs).toList == ([5, 1, 1, 1, 1, 1] : List UInt8)) = true := by rw [hbs]; decide +kernel
  have L1 := Aside0.mk (show ys.length ≤ 10000000 by rw [hys]; decide)
  have L2 := Aside0.mk (show elsI ys (64 * ys.length) = [1, 3] by rw [hys]; decide +kernel)
  have L3 := Aside0.mk (show wok ys by rw [hys]; intro x hx; simp at hx; omega)
  have LB := Aside0.mk (show 0 < bs.length by rw [hbs]; decide)
  have hfld := fun (a : Int) (v : Value) (W : World) => lv_fld a v W
  have hcmp := fun (p : Value) (W : World) => lv_cmp p W
  clear hys hzs hus hbs hnl
  have hpos := TabAt.pos hT
  have HT := Aside0.mk hT
  have hro : Fence.wide.round = none := rfl
  refine (callsIn_wide (n := 8)).1 ?_
  refine callsIn_of_wp_marks Tryd.func30 rfl trivial ?_ hro
  simp only [Tryd.ntmps30, List.size_toArray, List.length_cons, List.length_nil, Nat.reduceAdd, Nat.reduceSub, Array.replicate_succ, Array.replicate_zero, List.push_toArray, List.append_toArray, List.nil_append, List.cons_append]
  -- Of
  gi_wp2
  refine ⟨trivial, ?_⟩
  gi_at_call 41
  refine (callsIn_wide.2 (bitset_Of.calls 200 5 _ _ [1, 3, 9] 5 ys _ (lv_C 3 w [1, 3, 9] (by decide)) (Nat.le_refl _) D1.out)).mono ?_
  rintro e w1 ⟨v1, rfl, ho, hb⟩
  obtain ⟨As, cs, rfl⟩ := Kd.R_slice ho
  have hC1 := Kd.R_reads' ho
  have HB1 := Aside0.mk (below_step (below_alloc (Below.refl _ w) _) hb)
  obtain ⟨s0, s1⟩ := lv_two w1 (.int .i64 5) (.slice As ys.length cs) 25
  obtain ⟨w2, hw2⟩ : ∃ w2, w2 = w1.alloc (.cells #[.int .i64 5, .slice As ys.length cs] 25) := ⟨_, rfl⟩
  obtain ⟨bx, hbx⟩ : ∃ bx, bx = w1.heap.size := ⟨_, rfl⟩
  have HB2 := Aside0.mk (show Below w.heap.size w w2 by rw [hw2]; exact below_alloc HB1.out _)
  have C2 := Aside0.mk (show Kd.C (Kd.int .u64) w2 As ys.length ys by rw [hw2]; exact Kd.C_below hC1.2.2 (below_alloc (Below.refl _ _) _))
  have hx2 : bx < w2.heap.size := by rw [hw2, hbx]; simp
  have hcs := hC1.2.1
  rw [← hw2, ← hbx] at s0 s1
  clear ho hb hC1
  -- Encode
  gi_wp2
  rw [← hbx, ← hw2]
  clear hw2 hbx HB1
  gi_wp2
  refine ⟨trivial, ?_⟩
  gi_at_call 34
  refine (callsIn_wide.2 (bitset_Encode.calls 5 As cs ys bs w2 C2.out hcs (HT.out.below HB2.out hpos) D2.out)).mono ?_
  rintro e w3 ⟨v3, rfl, ho, hb⟩
  obtain ⟨Ab, cb, rfl⟩ := Kd.R_slice ho
  have HB3 := Aside0.mk (below_step HB2.out hb)
  have C3 := Aside0.mk (Kd.C_below C2.out hb)
  have CB3 := Aside0.mk (Kd.R_reads' ho).2.2
  have hx3 : bx < w3.heap.size := Nat.lt_of_lt_of_le hx2 hb.size
  replace s0 := (hb.cell (p := ⟨bx, 0, none⟩) hx2).trans s0
  replace s1 := (hb.cell (p := ⟨bx, 1, none⟩) hx2).trans s1
  clear ho hb hx2 C2 HB2
  -- Decode
  gi_wp2
  refine ⟨trivial, ?_⟩
  gi_at_call 32
  refine (callsIn_wide.2 (bitset_Decode.calls 200 _ _ [2, 0, 2, 7] 0 2 zs 3 0 _ (lv_C 5 w3 [2, 0, 2, 7] (by decide)) (Nat.le_refl _) D3.out)).mono ?_
  rintro e w4 ⟨v4, rfl, ho, hb0⟩
  obtain ⟨At, ct, rfl⟩ := Kd.R_slice ho
  have hb : Below w3.heap.size w3 w4 := below_step (below_alloc (Below.refl _ w3) _) hb0
  have hC4 := Kd.R_reads' ho
  have HB4 := Aside0.mk (below_step HB3.out hb)
  have C4 := Aside0.mk (Kd.C_below C3.out hb)
  have CB4 := Aside0.mk (Kd.C_below CB3.out hb)
  have hx4 : bx < w4.heap.size := Nat.lt_of_lt_of_le hx3 hb.size
  replace s0 := (hb.cell (p := ⟨bx, 0, none⟩) hx3).trans s0
  replace s1 := (hb.cell (p := ⟨bx, 1, none⟩) hx3).trans s1
  clear ho hb0 hb hx3 C3 CB3 HB3
  obtain ⟨t0, t1⟩ := lv_two w4 (.int .i64 2) (.slice At zs.length ct) 25
  obtain ⟨w5, hw5⟩ : ∃ w5, w5 = w4.alloc (.cells #[.int .i64 2, .slice At zs.length ct] 25) := ⟨_, rfl⟩
  obtain ⟨bt, hbt⟩ : ∃ bt, bt = w4.heap.size := ⟨_, rfl⟩
  have hz5 : bt + 1 = w5.heap.size := by rw [hw5, hbt]; simp
  have HB5 := Aside0.mk (show Below w.heap.size w w5 by rw [hw5]; exact below_alloc HB4.out _)
  have C5 := Aside0.mk (show Kd.C (Kd.int .u64) w5 As ys.length ys by rw [hw5]; exact Kd.C_below C4.out (below_alloc (Below.refl _ _) _))
  have CB5 := Aside0.mk (show Kd.C (Kd.int .u8) w5 Ab bs.length bs by rw [hw5]; exact Kd.C_below CB4.out (below_alloc (Below.refl _ _) _))
  have CT5 := Aside0.mk (show Kd.C (Kd.int .u64) w5 At zs.length zs by rw [hw5]; exact Kd.C_below hC4.2.2 (below_alloc (Below.refl _ _) _))
  have hct := hC4.2.1
  replace s0 := r_alloc (.cells #[.int .i64 2, .slice At zs.length ct] 25) s0
  replace s1 := r_alloc (.cells #[.int .i64 2, .slice At zs.length ct] 25) s1
  rw [← hw5] at s0 s1 t0 t1
  rw [← hbt] at t0 t1 hx4
  have hx5 : bx < w5.heap.size := by omega
  have ht5 : bt < w5.heap.size := by omega
  clear hC4 hx4 C4 CB4 HB4
  -- Decode again
  gi_wp2
  rw [← hbt, ← hw5]
  try rw [hz5]
  clear hw5 hbt
  refine ⟨trivial, ?_⟩
  gi_at_call 32
  refine (callsIn_wide.2 (bitset_Decode.calls 200 _ _ [2, 0, 0] 0 0 us 0 4 _ (lv_C 5 w5 [2, 0, 0] (by decide)) (Nat.le_refl _) D4.out)).mono ?_
  rintro e w6 ⟨v6, rfl, ho, hb0⟩
  obtain ⟨Au, cu, rfl⟩ := Kd.R_slice ho
  have hb : Below w5.heap.size w5 w6 := below_step (below_alloc (Below.refl _ w5) _) hb0
  have HB6 := Aside0.mk (below_step HB5.out hb)
  have C6 := Aside0.mk (Kd.C_below C5.out hb)
  have CB6 := Aside0.mk (Kd.C_below CB5.out hb)
  have CT6 := Aside0.mk (Kd.C_below CT5.out hb)
  have hx6 : bx < w6.heap.size := Nat.lt_of_lt_of_le hx5 hb.size
  have ht6 : bt < w6.heap.size := Nat.lt_of_lt_of_le ht5 hb.size
  replace s0 := (hb.cell (p := ⟨bx, 0, none⟩) hx5).trans s0
  replace s1 := (hb.cell (p := ⟨bx, 1, none⟩) hx5).trans s1
  replace t0 := (hb.cell (p := ⟨bt, 0, none⟩) ht5).trans t0
  replace t1 := (hb.cell (p := ⟨bt, 1, none⟩) ht5).trans t1
  clear ho hb0 hb hx5 ht5 hz5 C5 CB5 CT5 HB5
  have q0 := r_alloc (.cells #[.int .i64 0] 3) (r_alloc (.cells #[.int .i64 0, .slice Au us.length cu] 25) s0)
  have q1 := r_alloc (.cells #[.int .i64 0] 3) (r_alloc (.cells #[.int .i64 0, .slice Au us.length cu] 25) s1)
  -- All
  gi_wp2_with (refine ⟨trivial, ?_⟩; gi_at_call 59; refine (all_in Fence.wide 7 trivial hro 5 As ys.length cs _).mono ?_; rintro e w' ⟨rfl, rfl⟩)
  have n0 := r_new (w6.alloc (.cells #[.int .i64 0, .slice Au us.length cu] 25)) (.int .i64 0) 3
  have cp := r_new2 ((w6.alloc (.cells #[.int .i64 0, .slice Au us.length cu] 25)).alloc (.cells #[.int .i64 0] 3)) (.int .i64 5) (.slice As ys.length cs) 25
  have n1 := r_alloc (.cells #[.int .i64 5, .slice As ys.length cs] 25) n0.1
  have n2 := r_falloc (.cells #[.int .i64 5, .slice As ys.length cs] 25) n0.1 n0.2
  replace q0 := r_alloc (.cells #[.int .i64 5, .slice As ys.length cs] 25) q0
  replace q1 := r_alloc (.cells #[.int .i64 5, .slice As ys.length cs] 25) q1
  have p0 := r_alloc (.cells #[.int .i64 5, .slice As ys.length cs] 25) (r_alloc (.cells #[.int .i64 0] 3) (r_alloc (.cells #[.int .i64 0, .slice Au us.length cu] 25) t0))
  have p1 := r_alloc (.cells #[.int .i64 5, .slice As ys.length cs] 25) (r_alloc (.cells #[.int .i64 0] 3) (r_alloc (.cells #[.int .i64 0, .slice Au us.length cu] 25) t1))
  simp only [World.size_alloc] at n1 n2 cp
  have hb : Below w6.heap.size w6 (((w6.alloc (.cells #[.int .i64 0, .slice Au us.length cu] 25)).alloc (.cells #[.int .i64 0] 3)).alloc (.cells #[.int .i64 5, .slice As ys.length cs] 25)) := below_alloc (below_alloc (below_alloc (Below.refl _ _) _) _) _
  have hsz0 : (((w6.alloc (.cells #[.int .i64 0, .slice Au us.length cu] 25)).alloc (.cells #[.int .i64 0] 3)).alloc (.cells #[.int .i64 5, .slice As ys.length cs] 25)).heap.size = w6.heap.size + 3 := by simp
  obtain ⟨W0, hW0⟩ : ∃ W0, W0 = (((w6.alloc (.cells #[.int .i64 0, .slice Au us.length cu] 25)).alloc (.cells #[.int .i64 0] 3)).alloc (.cells #[.int .i64 5, .slice As ys.length cs] 25)) := ⟨_, rfl⟩
  obtain ⟨bu, hbu⟩ : ∃ bu, bu = w6.heap.size := ⟨_, rfl⟩
  rw [← hW0] at n1 n2 cp q0 q1 p0 p1 hb hsz0 ⊢
  rw [← hbu] at n1 n2 cp hsz0 hx6 ht6 ⊢
  have HB7 := Aside0.mk (below_step HB6.out hb)
  have C7 := Aside0.mk (Kd.C_below C6.out hb)
  have CB7 := Aside0.mk (Kd.C_below CB6.out hb)
  have CT7 := Aside0.mk (Kd.C_below CT6.out hb)
  have HWD := Aside0.mk (show ∀ j : Nat, j < ys.length → ∃ ad : Addr, As = some ad ∧ ad.block < bu + 1 ∧ W0.cell? (ad.add j) = some (.int .u64 (ys.getD j 0)) by
    intro j hj
    obtain ⟨ad, e1, e2, e3⟩ := words_at C6.out j hj
    exact ⟨ad, e1, by omega, (hb.cell (p := ad.add j) ((addr_block ad j).symm ▸ e2)).trans e3⟩)
  have HLW := Aside0.mk (show w.heap.size ≤ bu by have := HB6.out.size; omega)
  have H6 := Aside0.mk hb
  have HBU := Aside0.mk hbu
  clear hW0 hbu n0 s0 s1 t0 t1 HB6 hb C7 CB7 CT7
  refine wpIn_rangeFunc_ownG hro (by decide) (gf := 81) (lb := #[.pointer (some ⟨bu + 1 + 1, 0, none⟩)]) rfl trivial (enters_of Tryd.func81 (by kernel_rfl) rfl)
    (all_stops Fence.wide 7 trivial trivial hro (by decide) (bu + 1 + 1) (bu + 1) ys.length cs As ys L3.out rfl L1.out (by omega) W0 (by omega) (by omega) cp HWD.out (HT.out.below HB7.out hpos)) belowK_t (belowK_b (by omega)) (Below.refl _ _) (fun _ => rfl)
    (fun pre W => (W.cell? ⟨bu + 1, 0, none⟩ = some (.int .i64 (lv_sum pre)) ∧ W.frozen? ⟨bu + 1, 0, none⟩ = false) ∧ Below (bu + 1) W0 W)
    (fun _ _ _ => False)
    (OwnFrom.and (Own.from (fun s A B row hs hg hr => ⟨_root_.Go.cell_kept hs.1 hg hr, (_root_.Go.frozen_kept hs.1 hg hr).trans hs.2⟩) _) (ownFrom_below (by omega) (by omega)))
    (fun _ _ _ _ _ hs _ _ => hs)
    ⟨⟨n1, n2⟩, Below.refl _ _⟩
    (fun x => { tmps := #[.bool false, .pointer (some ⟨bx, 0, none⟩), .slice Ab bs.length cb, .pointer (some ⟨bt, 0, none⟩), .int .i64 3, .int .i64 0, .pointer (some ⟨bu, 0, none⟩), .int .i64 0, .int .i64 4, .pointer (some ⟨bu + 1, 0, none⟩), (.func (.func 81) #[] #[.pointer (some ⟨bu + 1 + 1, 0, none⟩)]), .int .i64 x, .slice (some ⟨w.heap.size, 0, none⟩) 3 3, (.agg #[.int .i64 5, .slice As ys.length cs]), (.agg #[.int .i64 5, .slice As ys.length cs]), .slice Ab bs.length cb, (.tuple #[.agg #[.int .i64 2, .slice At zs.length ct], .int .i64 3, .int .i64 0]), .slice (some ⟨w3.heap.size, 0, none⟩) 4 4, (.tuple #[.agg #[.int .i64 2, .slice At zs.length ct], .int .i64 3, .int .i64 0]), .agg #[.int .i64 2, .slice At zs.length ct], .int .i64 3, .int .i64 0, (.tuple #[.agg #[.int .i64 0, .slice Au us.length cu], .int .i64 0, .int .i64 4]), .slice (some ⟨w5.heap.size, 0, none⟩) 3 3, (.tuple #[.agg #[.int .i64 0, .slice Au us.length cu], .int .i64 0, .int .i64 4]), .agg #[.int .i64 0, .slice Au us.length cu], .int .i64 0, .int .i64 4, (.agg #[.int .i64 5, .slice As ys.length cs]), (.func (.func 81) #[] #[.pointer (some ⟨bu + 1 + 1, 0, none⟩)]), (.func (.func 81) #[] #[.pointer (some ⟨bu + 1 + 1, 0, none⟩)]), .bool false, (.func (.func 81) #[] #[.pointer (some ⟨bu + 1 + 1, 0, none⟩)]), .int .i64 x, undef, undef, undef, undef, undef, undef, undef, undef, undef, undef, undef, undef, undef, undef, undef, undef, undef, undef, undef, undef, undef, undef, undef, undef, undef, undef, undef, undef, undef, undef, undef, undef, undef, undef, undef, undef, undef, undef, undef, undef, undef, undef, undef, undef, undef, undef, undef, undef, undef, undef, undef, undef, undef, undef, undef, undef, undef, undef, undef, undef, undef, undef, undef, undef, undef, undef, undef, undef, undef, undef, undef, undef, undef, undef, undef, undef, undef, undef, undef, undef, undef, undef, undef, undef, undef], defers := [] }) ?assign ?body ?done ?stop
  case assign =>
    intro l x W K hK
    gi_wp2
    exact hK
  case body =>
    rintro l pre x W ⟨⟨h1, h2⟩, hB⟩ _
    gi_wp2
    exact ⟨(KeepsOthers.setCell _ _ _).from _, (Below.refl (bu + 1) W).setCell (p := ⟨bu + 1, 0, none⟩) (Nat.le_refl _) _, ⟨by rw [lv_snoc]; exact World.cell?_setCell_same' _ _ _ (by rw [h1]; rfl), by rw [World.frozen?_setCell]; exact h2⟩, hB.setCell (p := ⟨bu + 1, 0, none⟩) (Nat.le_refl _) _⟩
  case stop =>
    rintro D c pre W _ _ h _
    exact h.elim
  case done =>
    rintro D es W hD hes ⟨⟨h1, h2⟩, hB⟩ hK
    have hsum : lv_sum es = 4 := by rw [hes, L2.out]; decide +kernel
    rw [hsum] at h1
    replace q0 := (hB.cell (p := ⟨bx, 0, none⟩) (by simp; omega)).trans q0
    replace q1 := (hB.cell (p := ⟨bx, 1, none⟩) (by simp; omega)).trans q1
    replace p0 := (hB.cell (p := ⟨bt, 0, none⟩) (by simp; omega)).trans p0
    replace p1 := (hB.cell (p := ⟨bt, 1, none⟩) (by simp; omega)).trans p1
    have hszW : bu + 3 ≤ W.heap.size := by have := hB.size; omega
    have HD := Aside0.mk (show w.heap.size ≤ D by have := HB7.out.size; omega)
    have b6 : Below w6.heap.size w6 W := H6.out.trans (hB.mono (by have := HBU.out; omega))
    have CX0 := Aside0.mk (Kd.C_below C6.out b6)
    have CB0 := Aside0.mk (Kd.C_below CB6.out b6)
    have CT0 := Aside0.mk (Kd.C_below CT6.out b6)
    have HBW := Aside0.mk (HB7.out.trans (hB.mono (by have := HLW.out; omega)))
    have HX0 := Aside0.mk (Below.refl W.heap.size W)
    have hbxW : bx < W.heap.size := by omega
    have hbtW : bt < W.heap.size := by omega
    have hbnW : bu + 1 < W.heap.size := by omega
    have G := Aside0.mk (And.intro q0 (And.intro q1 (And.intro p0 (And.intro p1 h1))))
    clear hB hes hsum n1 n2 cp b6 hszW
    gi_wp2
    refine ⟨trivial, ?_⟩
    gi_at_call 29
    refine (callsIn_wide.2 (bitset_Valid.calls 5 As cs ys true _ CX0.out hcs D5.out)).mono ?_
    rintro e x1 ⟨rfl, hb⟩
    have HX1 := Aside0.mk (below_step HX0.out hb)
    clear hb
    have a10 := (HX1.out.cell (p := ⟨bx, 0, none⟩) hbxW).trans G.out.1
    have a11 := (HX1.out.cell (p := ⟨bx, 1, none⟩) hbxW).trans G.out.2.1
    have b10 := (HX1.out.cell (p := ⟨bt, 0, none⟩) hbtW).trans G.out.2.2.1
    have b11 := (HX1.out.cell (p := ⟨bt, 1, none⟩) hbtW).trans G.out.2.2.2.1
    have c10 := (HX1.out.cell (p := ⟨bu + 1, 0, none⟩) hbnW).trans G.out.2.2.2.2
    gi_wp2
    refine ⟨trivial, ?_⟩
    gi_at_call 37
    refine (callsIn_wide.2 (bitset_Count.calls 200 5 As cs ys 2 _ (Kd.C_below CX0.out HX1.out) hcs D6.out)).mono ?_
    rintro e x2 ⟨rfl, hb⟩
    have HX2 := Aside0.mk (below_step HX1.out hb)
    clear hb
    have a20 := (HX2.out.cell (p := ⟨bx, 0, none⟩) hbxW).trans G.out.1
    have a21 := (HX2.out.cell (p := ⟨bx, 1, none⟩) hbxW).trans G.out.2.1
    have b20 := (HX2.out.cell (p := ⟨bt, 0, none⟩) hbtW).trans G.out.2.2.1
    have b21 := (HX2.out.cell (p := ⟨bt, 1, none⟩) hbtW).trans G.out.2.2.2.1
    have c20 := (HX2.out.cell (p := ⟨bu + 1, 0, none⟩) hbnW).trans G.out.2.2.2.2
    gi_wp2
    refine ⟨trivial, ?_⟩
    gi_at_call 39
    refine (callsIn_wide.2 (bitset_Rank.calls 200 5 As cs ys 3 1 _ (Kd.C_below CX0.out HX2.out) hcs D7.out)).mono ?_
    rintro e x3 ⟨rfl, hb⟩
    have HX3 := Aside0.mk (below_step HX2.out hb)
    clear hb
    have a30 := (HX3.out.cell (p := ⟨bx, 0, none⟩) hbxW).trans G.out.1
    have a31 := (HX3.out.cell (p := ⟨bx, 1, none⟩) hbxW).trans G.out.2.1
    have b30 := (HX3.out.cell (p := ⟨bt, 0, none⟩) hbtW).trans G.out.2.2.1
    have b31 := (HX3.out.cell (p := ⟨bt, 1, none⟩) hbtW).trans G.out.2.2.2.1
    have c30 := (HX3.out.cell (p := ⟨bu + 1, 0, none⟩) hbnW).trans G.out.2.2.2.2
    gi_wp2
    refine ⟨trivial, ?_⟩
    gi_at_call 40
    refine (callsIn_wide.2 (bitset_Select.calls 5 As cs ys 1 3 _ (Kd.C_below CX0.out HX3.out) hcs (HT.out.below (HBW.out.trans (HX3.out.mono HBW.out.size)) hpos) D8.out)).mono ?_
    rintro e x4 ⟨rfl, hb⟩
    have HX4 := Aside0.mk (below_step HX3.out hb)
    clear hb
    have a40 := (HX4.out.cell (p := ⟨bx, 0, none⟩) hbxW).trans G.out.1
    have a41 := (HX4.out.cell (p := ⟨bx, 1, none⟩) hbxW).trans G.out.2.1
    have b40 := (HX4.out.cell (p := ⟨bt, 0, none⟩) hbtW).trans G.out.2.2.1
    have b41 := (HX4.out.cell (p := ⟨bt, 1, none⟩) hbtW).trans G.out.2.2.2.1
    have c40 := (HX4.out.cell (p := ⟨bu + 1, 0, none⟩) hbnW).trans G.out.2.2.2.2
    gi_wp2
    refine ⟨trivial, ?_⟩
    gi_at_call 40
    refine (callsIn_wide.2 (bitset_Select.calls 5 As cs ys 2 (-1) _ (Kd.C_below CX0.out HX4.out) hcs (HT.out.below (HBW.out.trans (HX4.out.mono HBW.out.size)) hpos) D9.out)).mono ?_
    rintro e x5 ⟨rfl, hb⟩
    have HX5 := Aside0.mk (below_step HX4.out hb)
    clear hb
    have a50 := (HX5.out.cell (p := ⟨bx, 0, none⟩) hbxW).trans G.out.1
    have a51 := (HX5.out.cell (p := ⟨bx, 1, none⟩) hbxW).trans G.out.2.1
    have b50 := (HX5.out.cell (p := ⟨bt, 0, none⟩) hbtW).trans G.out.2.2.1
    have b51 := (HX5.out.cell (p := ⟨bt, 1, none⟩) hbtW).trans G.out.2.2.2.1
    have c50 := (HX5.out.cell (p := ⟨bu + 1, 0, none⟩) hbnW).trans G.out.2.2.2.2
    have hcv5 := Kd.C_string (P := Tryd.prog) (A := Ab) (c := cb) Tryd.underlying39 Tryd.underlying5 Tryd.underlying9 (Kd.C_below CB0.out HX5.out)
    gi_wp2
    refine ⟨trivial, ?_⟩
    gi_at_call 37
    refine (callsIn_wide.2 (bitset_Count.calls 200 2 At ct zs 2 _ (Kd.C_below CT0.out HX5.out) hct D10.out)).mono ?_
    rintro e x6 ⟨rfl, hb⟩
    have HX6 := Aside0.mk (below_step HX5.out hb)
    clear hb
    have a60 := (HX6.out.cell (p := ⟨bx, 0, none⟩) hbxW).trans G.out.1
    have a61 := (HX6.out.cell (p := ⟨bx, 1, none⟩) hbxW).trans G.out.2.1
    have b60 := (HX6.out.cell (p := ⟨bt, 0, none⟩) hbtW).trans G.out.2.2.1
    have b61 := (HX6.out.cell (p := ⟨bt, 1, none⟩) hbtW).trans G.out.2.2.2.1
    have c60 := (HX6.out.cell (p := ⟨bu + 1, 0, none⟩) hbnW).trans G.out.2.2.2.2
    gi_wp2
    refine ⟨trivial, ?_⟩
    gi_at_call 43
    refine (callsIn_wide.2 (bitset_New.calls (-1) 0 us _ D11.out)).mono ?_
    rintro e x7 ⟨v7, rfl, _, hb⟩
    have HX7 := Aside0.mk (below_step HX6.out hb)
    clear hb
    have a70 := (HX7.out.cell (p := ⟨bx, 0, none⟩) hbxW).trans G.out.1
    have a71 := (HX7.out.cell (p := ⟨bx, 1, none⟩) hbxW).trans G.out.2.1
    have b70 := (HX7.out.cell (p := ⟨bt, 0, none⟩) hbtW).trans G.out.2.2.1
    have b71 := (HX7.out.cell (p := ⟨bt, 1, none⟩) hbtW).trans G.out.2.2.2.1
    have c70 := (HX7.out.cell (p := ⟨bu + 1, 0, none⟩) hbnW).trans G.out.2.2.2.2
    gi_wp2
    refine ⟨trivial, ?_⟩
    gi_at_call 43
    refine (callsIn_wide.2 (bitset_New.calls 1048576 1048576 nl _ D12.out)).mono ?_
    rintro e x8 ⟨v8, rfl, _, hb⟩
    have HX8 := Aside0.mk (below_step HX7.out hb)
    clear hb
    have a80 := (HX8.out.cell (p := ⟨bx, 0, none⟩) hbxW).trans G.out.1
    have a81 := (HX8.out.cell (p := ⟨bx, 1, none⟩) hbxW).trans G.out.2.1
    have b80 := (HX8.out.cell (p := ⟨bt, 0, none⟩) hbtW).trans G.out.2.2.1
    have b81 := (HX8.out.cell (p := ⟨bt, 1, none⟩) hbtW).trans G.out.2.2.2.1
    have c80 := (HX8.out.cell (p := ⟨bu + 1, 0, none⟩) hbnW).trans G.out.2.2.2.2
    gi_wp2
    refine ⟨trivial, ?_⟩
    gi_at_call 43
    refine (callsIn_wide.2 (bitset_New.calls 1048577 0 us _ D13.out)).mono ?_
    rintro e x9 ⟨v9, rfl, _, hb⟩
    have HX9 := Aside0.mk (below_step HX8.out hb)
    clear hb
    have a90 := (HX9.out.cell (p := ⟨bx, 0, none⟩) hbxW).trans G.out.1
    have a91 := (HX9.out.cell (p := ⟨bx, 1, none⟩) hbxW).trans G.out.2.1
    have b90 := (HX9.out.cell (p := ⟨bt, 0, none⟩) hbtW).trans G.out.2.2.1
    have b91 := (HX9.out.cell (p := ⟨bt, 1, none⟩) hbtW).trans G.out.2.2.2.1
    have c90 := (HX9.out.cell (p := ⟨bu + 1, 0, none⟩) hbnW).trans G.out.2.2.2.2
    gi_wp2
    refine ⟨trivial, ?_⟩
    gi_at_call 38
    refine (callsIn_wide.2 (bitset_Contains.calls 5 As cs ys 1 true _ (Kd.C_below CX0.out HX9.out) hcs D14.out)).mono ?_
    rintro e x10 ⟨rfl, hb⟩
    have HX10 := Aside0.mk (below_step HX9.out hb)
    clear hb
    have a100 := (HX10.out.cell (p := ⟨bx, 0, none⟩) hbxW).trans G.out.1
    have a101 := (HX10.out.cell (p := ⟨bx, 1, none⟩) hbxW).trans G.out.2.1
    have b100 := (HX10.out.cell (p := ⟨bt, 0, none⟩) hbtW).trans G.out.2.2.1
    have b101 := (HX10.out.cell (p := ⟨bt, 1, none⟩) hbtW).trans G.out.2.2.2.1
    have c100 := (HX10.out.cell (p := ⟨bu + 1, 0, none⟩) hbnW).trans G.out.2.2.2.2
    gi_wp2
    refine ⟨trivial, ?_⟩
    gi_at_call 38
    refine (callsIn_wide.2 (bitset_Contains.calls 5 As cs ys 0 false _ (Kd.C_below CX0.out HX10.out) hcs D15.out)).mono ?_
    rintro e x11 ⟨rfl, hb⟩
    have HX11 := Aside0.mk (below_step HX10.out hb)
    clear hb
    have a110 := (HX11.out.cell (p := ⟨bx, 0, none⟩) hbxW).trans G.out.1
    have a111 := (HX11.out.cell (p := ⟨bx, 1, none⟩) hbxW).trans G.out.2.1
    have b110 := (HX11.out.cell (p := ⟨bt, 0, none⟩) hbtW).trans G.out.2.2.1
    have b111 := (HX11.out.cell (p := ⟨bt, 1, none⟩) hbtW).trans G.out.2.2.2.1
    have c110 := (HX11.out.cell (p := ⟨bu + 1, 0, none⟩) hbnW).trans G.out.2.2.2.2
    gi_wp2
    refine ⟨trivial, ?_⟩
    gi_at_call 29
    refine (callsIn_wide.2 (bitset_Valid.calls 1 none 0 [] false _ (Kd.C_nil _ _) (Nat.le_refl _) D16.out)).mono ?_
    rintro e x12 ⟨rfl, hb⟩
    have HX12 := Aside0.mk (below_step HX11.out hb)
    clear hb
    have a120 := (HX12.out.cell (p := ⟨bx, 0, none⟩) hbxW).trans G.out.1
    have a121 := (HX12.out.cell (p := ⟨bx, 1, none⟩) hbxW).trans G.out.2.1
    have b120 := (HX12.out.cell (p := ⟨bt, 0, none⟩) hbtW).trans G.out.2.2.1
    have b121 := (HX12.out.cell (p := ⟨bt, 1, none⟩) hbtW).trans G.out.2.2.2.1
    have c120 := (HX12.out.cell (p := ⟨bu + 1, 0, none⟩) hbnW).trans G.out.2.2.2.2
    gi_wp2
    refine ⟨by simp, .inl ⟨_, _, rfl, run_takeDeferred ((below_others HX12.out).same D _ hK rfl), ?_⟩⟩
    exact ⟨_, results_tmp rfl _ _ _, rfl, (HBW.out.trans (HX12.out.mono HBW.out.size)).trans (belowK_b (w := w) (Nat.le_refl _) _ D _ _ HD.out ((below_others HX12.out).same D _ hK rfl) rfl rfl)⟩
end

/-! ### laminaref03_Valid: function 13 -/
def laminaref03_Valid.f (a0_0 : Int) (l0_1 : List Int) : Option (Bool) := if a0_0 < 0 then (some false) else (if a0_0 > 1048576 then (some false) else (if (l0_1.length : Int) = (wrap64 (Int.tdiv (wrap64 (a0_0 + 63)) 64)) then (if (Int.tmod a0_0 64) = 0 then (some true) else (if 0 ≤ (wrap64 ((l0_1.length : Int) - 1)) then (if (wrap64 ((l0_1.length : Int) - 1)) < (l0_1.length : Int) then (if 0 ≤ (IntKind.u64.wrap (Int.tmod a0_0 64)) then (some ((shr .u64 (rd l0_1 (wrap64 ((l0_1.length : Int) - 1))) (IntKind.u64.wrap (Int.tmod a0_0 64))) == 0)) else (none)) else (none)) else (none))) else (some false)))
set_option maxHeartbeats 8000000 in
set_option maxRecDepth 100000 in
theorem laminaref03_Valid.calls (a0_0 : Int) (A0_1 : Option Addr) (c0_1 : Nat) (l0_1 : List Int) (r : Bool) (w : World) (hr0_1 : Kd.C (Kd.int .u64) w A0_1 l0_1.length l0_1) (hc0_1 : l0_1.length ≤ c0_1) (h : laminaref03_Valid.f a0_0 l0_1 = some r) :
  Calls Tryd.prog 13 #[.agg #[.int .i64 a0_0, .slice A0_1 l0_1.length c0_1]] w fun e w' => e = .returned (.bool r) ∧ Below w.heap.size w w' := by
 have hu25 := Tryd.underlying25
 have HR0_1 := Aside0.mk hr0_1
 have HC0_1 := Aside0.mk hc0_1
 clear hr0_1 hc0_1
 have HB := Aside0.mk (Below.refl w.heap.size w)
 have H : (if a0_0 < 0 then (some false) else (if a0_0 > 1048576 then (some false) else (if (l0_1.length : Int) = (wrap64 (Int.tdiv (wrap64 (a0_0 + 63)) 64)) then (if (Int.tmod a0_0 64) = 0 then (some true) else (if 0 ≤ (wrap64 ((l0_1.length : Int) - 1)) then (if (wrap64 ((l0_1.length : Int) - 1)) < (l0_1.length : Int) then (if 0 ≤ (IntKind.u64.wrap (Int.tmod a0_0 64)) then (some ((shr .u64 (rd l0_1 (wrap64 ((l0_1.length : Int) - 1))) (IntKind.u64.wrap (Int.tmod a0_0 64))) == 0)) else (none)) else (none)) else (none))) else (some false)))) = some r := h
 clear h
 by_cases c2 : a0_0 < 0
 ·rw [if_pos c2] at H
  have c2b0 : decide (a0_0 < 0) = true := decide_eq_true c2
  clear c2
  obtain rfl := Option.some.inj H
  go_enter Tryd.func13, Tryd.ntmps13
  go_wp2_with (first | ((with_reducible refine gate_dst (N := 1) rfl ?_); (try (refine gate_guard (by rfl) ?_; dsimp only)); refine box_event ?hg (N := 1) ?hd (cs := #[.int .i64 a0_0, .slice A0_1 l0_1.length c0_1]) (t := 25) ?hr ?_; (case hd => rfl); (case hg => exact fs_); (case hr => first | (go_simp; done) | (go_simp; rfl)); intro gb242 hg w3 hbox hb; have n0_ := Aside0.mk (below_step (bb_ HB) hb); have n1_ := Aside0.mk (hbox); have n2_ := Aside0.mk ((by rw [hg]; exact (below_size (bb_ HB)) : w.heap.size ≤ gb242)); have n3_ := Aside0.mk ((by rw [hg]; exact (below_size (bb_ HB)) : w.heap.size ≤ gb242)); clear HB; have HB := n0_; have BK242 := n1_; have GW242 := n2_; have GE242 := n3_; clear n0_ n1_ n2_ n3_; clear hb hbox hg; have hcz4_0 : w3.cell? ⟨gb242, 0, none⟩ = some (.int .i64 a0_0) := (blk_cell BK242.out 0).trans rfl; have hcz4_1 : w3.cell? ⟨gb242, 1, none⟩ = some (.slice A0_1 l0_1.length c0_1) := (blk_cell BK242.out 1).trans rfl; have hfz4_0 := blk_frozen BK242.out 0; have hfz4_1 := blk_frozen BK242.out 1))
  repeat (go_quiet (first | ((with_reducible refine gate_dst (N := 1) rfl ?_); (try (refine gate_guard (by rfl) ?_; dsimp only)); refine box_event ?hg (N := 1) ?hd (cs := #[.int .i64 a0_0, .slice A0_1 l0_1.length c0_1]) (t := 25) ?hr ?_; (case hd => rfl); (case hg => exact fs_); (case hr => first | (go_simp; done) | (go_simp; rfl)); intro gb242 hg w3 hbox hb; have n0_ := Aside0.mk (below_step (bb_ HB) hb); have n1_ := Aside0.mk (hbox); have n2_ := Aside0.mk ((by rw [hg]; exact (below_size (bb_ HB)) : w.heap.size ≤ gb242)); have n3_ := Aside0.mk ((by rw [hg]; exact (below_size (bb_ HB)) : w.heap.size ≤ gb242)); clear HB; have HB := n0_; have BK242 := n1_; have GW242 := n2_; have GE242 := n3_; clear n0_ n1_ n2_ n3_; clear hb hbox hg; have hcz4_0 : w3.cell? ⟨gb242, 0, none⟩ = some (.int .i64 a0_0) := (blk_cell BK242.out 0).trans rfl; have hcz4_1 : w3.cell? ⟨gb242, 1, none⟩ = some (.slice A0_1 l0_1.length c0_1) := (blk_cell BK242.out 1).trans rfl; have hfz4_0 := blk_frozen BK242.out 0; have hfz4_1 := blk_frozen BK242.out 1)); try go_wp2_with (first | ((with_reducible refine gate_dst (N := 1) rfl ?_); (try (refine gate_guard (by rfl) ?_; dsimp only)); refine box_event ?hg (N := 1) ?hd (cs := #[.int .i64 a0_0, .slice A0_1 l0_1.length c0_1]) (t := 25) ?hr ?_; (case hd => rfl); (case hg => exact fs_); (case hr => first | (go_simp; done) | (go_simp; rfl)); intro gb242 hg w3 hbox hb; have n0_ := Aside0.mk (below_step (bb_ HB) hb); have n1_ := Aside0.mk (hbox); have n2_ := Aside0.mk ((by rw [hg]; exact (below_size (bb_ HB)) : w.heap.size ≤ gb242)); have n3_ := Aside0.mk ((by rw [hg]; exact (below_size (bb_ HB)) : w.heap.size ≤ gb242)); clear HB; have HB := n0_; have BK242 := n1_; have GW242 := n2_; have GE242 := n3_; clear n0_ n1_ n2_ n3_; clear hb hbox hg; have hcz4_0 : w3.cell? ⟨gb242, 0, none⟩ = some (.int .i64 a0_0) := (blk_cell BK242.out 0).trans rfl; have hcz4_1 : w3.cell? ⟨gb242, 1, none⟩ = some (.slice A0_1 l0_1.length c0_1) := (blk_cell BK242.out 1).trans rfl; have hfz4_0 := blk_frozen BK242.out 0; have hfz4_1 := blk_frozen BK242.out 1)))
  go_ret
  exact ⟨er_, by repeat (first | (with_reducible first | exact HB.out | apply below_alloc | apply pw_below_drewN | apply below_drew1 | refine below_set ?_ GE242.out) | exact HB.out)⟩
 ·rw [if_neg c2] at H
  have c2b0 : decide (a0_0 < 0) = false := decide_eq_false c2
  clear c2
  by_cases c5 : a0_0 > 1048576
  ·rw [if_pos c5] at H
   have c5b0 : decide (1048576 < a0_0) = true := decide_eq_true c5
   clear c5
   obtain rfl := Option.some.inj H
   go_enter Tryd.func13, Tryd.ntmps13
   go_wp2_with (first | ((with_reducible refine gate_dst (N := 1) rfl ?_); (try (refine gate_guard (by rfl) ?_; dsimp only)); refine box_event ?hg (N := 1) ?hd (cs := #[.int .i64 a0_0, .slice A0_1 l0_1.length c0_1]) (t := 25) ?hr ?_; (case hd => rfl); (case hg => exact fs_); (case hr => first | (go_simp; done) | (go_simp; rfl)); intro gb242 hg w6 hbox hb; have n0_ := Aside0.mk (below_step (bb_ HB) hb); have n1_ := Aside0.mk (hbox); have n2_ := Aside0.mk ((by rw [hg]; exact (below_size (bb_ HB)) : w.heap.size ≤ gb242)); have n3_ := Aside0.mk ((by rw [hg]; exact (below_size (bb_ HB)) : w.heap.size ≤ gb242)); clear HB; have HB := n0_; have BK242 := n1_; have GW242 := n2_; have GE242 := n3_; clear n0_ n1_ n2_ n3_; clear hb hbox hg; have hcz7_0 : w6.cell? ⟨gb242, 0, none⟩ = some (.int .i64 a0_0) := (blk_cell BK242.out 0).trans rfl; have hcz7_1 : w6.cell? ⟨gb242, 1, none⟩ = some (.slice A0_1 l0_1.length c0_1) := (blk_cell BK242.out 1).trans rfl; have hfz7_0 := blk_frozen BK242.out 0; have hfz7_1 := blk_frozen BK242.out 1))
   repeat (go_quiet (first | ((with_reducible refine gate_dst (N := 1) rfl ?_); (try (refine gate_guard (by rfl) ?_; dsimp only)); refine box_event ?hg (N := 1) ?hd (cs := #[.int .i64 a0_0, .slice A0_1 l0_1.length c0_1]) (t := 25) ?hr ?_; (case hd => rfl); (case hg => exact fs_); (case hr => first | (go_simp; done) | (go_simp; rfl)); intro gb242 hg w6 hbox hb; have n0_ := Aside0.mk (below_step (bb_ HB) hb); have n1_ := Aside0.mk (hbox); have n2_ := Aside0.mk ((by rw [hg]; exact (below_size (bb_ HB)) : w.heap.size ≤ gb242)); have n3_ := Aside0.mk ((by rw [hg]; exact (below_size (bb_ HB)) : w.heap.size ≤ gb242)); clear HB; have HB := n0_; have BK242 := n1_; have GW242 := n2_; have GE242 := n3_; clear n0_ n1_ n2_ n3_; clear hb hbox hg; have hcz7_0 : w6.cell? ⟨gb242, 0, none⟩ = some (.int .i64 a0_0) := (blk_cell BK242.out 0).trans rfl; have hcz7_1 : w6.cell? ⟨gb242, 1, none⟩ = some (.slice A0_1 l0_1.length c0_1) := (blk_cell BK242.out 1).trans rfl; have hfz7_0 := blk_frozen BK242.out 0; have hfz7_1 := blk_frozen BK242.out 1)); try go_wp2_with (first | ((with_reducible refine gate_dst (N := 1) rfl ?_); (try (refine gate_guard (by rfl) ?_; dsimp only)); refine box_event ?hg (N := 1) ?hd (cs := #[.int .i64 a0_0, .slice A0_1 l0_1.length c0_1]) (t := 25) ?hr ?_; (case hd => rfl); (case hg => exact fs_); (case hr => first | (go_simp; done) | (go_simp; rfl)); intro gb242 hg w6 hbox hb; have n0_ := Aside0.mk (below_step (bb_ HB) hb); have n1_ := Aside0.mk (hbox); have n2_ := Aside0.mk ((by rw [hg]; exact (below_size (bb_ HB)) : w.heap.size ≤ gb242)); have n3_ := Aside0.mk ((by rw [hg]; exact (below_size (bb_ HB)) : w.heap.size ≤ gb242)); clear HB; have HB := n0_; have BK242 := n1_; have GW242 := n2_; have GE242 := n3_; clear n0_ n1_ n2_ n3_; clear hb hbox hg; have hcz7_0 : w6.cell? ⟨gb242, 0, none⟩ = some (.int .i64 a0_0) := (blk_cell BK242.out 0).trans rfl; have hcz7_1 : w6.cell? ⟨gb242, 1, none⟩ = some (.slice A0_1 l0_1.length c0_1) := (blk_cell BK242.out 1).trans rfl; have hfz7_0 := blk_frozen BK242.out 0; have hfz7_1 := blk_frozen BK242.out 1)))
   go_ret
   exact ⟨er_, by repeat (first | (with_reducible first | exact HB.out | apply below_alloc | apply pw_below_drewN | apply below_drew1 | refine below_set ?_ GE242.out) | exact HB.out)⟩
  ·rw [if_neg c5] at H
   have c5b0 : decide (1048576 < a0_0) = false := decide_eq_false c5
   clear c5
   by_cases c8 : (l0_1.length : Int) = (wrap64 (Int.tdiv (wrap64 (a0_0 + 63)) 64))
   ·rw [if_pos c8] at H
    have c8b0 : ((l0_1.length : Int) == (wrap64 (Int.tdiv (wrap64 (a0_0 + 63)) 64))) = true := beq_iff_eq.mpr c8
    have c8b1 : ((l0_1.length : Int) != (wrap64 (Int.tdiv (wrap64 (a0_0 + 63)) 64))) = false := bne_eq_false_iff_eq.mpr c8
    clear c8
    by_cases c9 : (Int.tmod a0_0 64) = 0
    ·rw [if_pos c9] at H
     have c9b0 : ((Int.tmod a0_0 64) == 0) = true := beq_iff_eq.mpr c9
     have c9b1 : ((Int.tmod a0_0 64) != 0) = false := bne_eq_false_iff_eq.mpr c9
     clear c9
     obtain rfl := Option.some.inj H
     go_enter Tryd.func13, Tryd.ntmps13
     go_wp2_with (first | ((with_reducible refine gate_dst (N := 1) rfl ?_); (try (refine gate_guard (by rfl) ?_; dsimp only)); refine box_event ?hg (N := 1) ?hd (cs := #[.int .i64 a0_0, .slice A0_1 l0_1.length c0_1]) (t := 25) ?hr ?_; (case hd => rfl); (case hg => exact fs_); (case hr => first | (go_simp; done) | (go_simp; rfl)); intro gb242 hg w10 hbox hb; have n0_ := Aside0.mk (below_step (bb_ HB) hb); have n1_ := Aside0.mk (hbox); have n2_ := Aside0.mk ((by rw [hg]; exact (below_size (bb_ HB)) : w.heap.size ≤ gb242)); have n3_ := Aside0.mk ((by rw [hg]; exact (below_size (bb_ HB)) : w.heap.size ≤ gb242)); clear HB; have HB := n0_; have BK242 := n1_; have GW242 := n2_; have GE242 := n3_; clear n0_ n1_ n2_ n3_; clear hb hbox hg; have hcz11_0 : w10.cell? ⟨gb242, 0, none⟩ = some (.int .i64 a0_0) := (blk_cell BK242.out 0).trans rfl; have hcz11_1 : w10.cell? ⟨gb242, 1, none⟩ = some (.slice A0_1 l0_1.length c0_1) := (blk_cell BK242.out 1).trans rfl; have hfz11_0 := blk_frozen BK242.out 0; have hfz11_1 := blk_frozen BK242.out 1))
     repeat (go_quiet (first | ((with_reducible refine gate_dst (N := 1) rfl ?_); (try (refine gate_guard (by rfl) ?_; dsimp only)); refine box_event ?hg (N := 1) ?hd (cs := #[.int .i64 a0_0, .slice A0_1 l0_1.length c0_1]) (t := 25) ?hr ?_; (case hd => rfl); (case hg => exact fs_); (case hr => first | (go_simp; done) | (go_simp; rfl)); intro gb242 hg w10 hbox hb; have n0_ := Aside0.mk (below_step (bb_ HB) hb); have n1_ := Aside0.mk (hbox); have n2_ := Aside0.mk ((by rw [hg]; exact (below_size (bb_ HB)) : w.heap.size ≤ gb242)); have n3_ := Aside0.mk ((by rw [hg]; exact (below_size (bb_ HB)) : w.heap.size ≤ gb242)); clear HB; have HB := n0_; have BK242 := n1_; have GW242 := n2_; have GE242 := n3_; clear n0_ n1_ n2_ n3_; clear hb hbox hg; have hcz11_0 : w10.cell? ⟨gb242, 0, none⟩ = some (.int .i64 a0_0) := (blk_cell BK242.out 0).trans rfl; have hcz11_1 : w10.cell? ⟨gb242, 1, none⟩ = some (.slice A0_1 l0_1.length c0_1) := (blk_cell BK242.out 1).trans rfl; have hfz11_0 := blk_frozen BK242.out 0; have hfz11_1 := blk_frozen BK242.out 1)); try go_wp2_with (first | ((with_reducible refine gate_dst (N := 1) rfl ?_); (try (refine gate_guard (by rfl) ?_; dsimp only)); refine box_event ?hg (N := 1) ?hd (cs := #[.int .i64 a0_0, .slice A0_1 l0_1.length c0_1]) (t := 25) ?hr ?_; (case hd => rfl); (case hg => exact fs_); (case hr => first | (go_simp; done) | (go_simp; rfl)); intro gb242 hg w10 hbox hb; have n0_ := Aside0.mk (below_step (bb_ HB) hb); have n1_ := Aside0.mk (hbox); have n2_ := Aside0.mk ((by rw [hg]; exact (below_size (bb_ HB)) : w.heap.size ≤ gb242)); have n3_ := Aside0.mk ((by rw [hg]; exact (below_size (bb_ HB)) : w.heap.size ≤ gb242)); clear HB; have HB := n0_; have BK242 := n1_; have GW242 := n2_; have GE242 := n3_; clear n0_ n1_ n2_ n3_; clear hb hbox hg; have hcz11_0 : w10.cell? ⟨gb242, 0, none⟩ = some (.int .i64 a0_0) := (blk_cell BK242.out 0).trans rfl; have hcz11_1 : w10.cell? ⟨gb242, 1, none⟩ = some (.slice A0_1 l0_1.length c0_1) := (blk_cell BK242.out 1).trans rfl; have hfz11_0 := blk_frozen BK242.out 0; have hfz11_1 := blk_frozen BK242.out 1)))
     go_ret
     exact ⟨er_, by repeat (first | (with_reducible first | exact HB.out | apply below_alloc | apply pw_below_drewN | apply below_drew1 | refine below_set ?_ GE242.out) | exact HB.out)⟩
    ·rw [if_neg c9] at H
     have c9b0 : ((Int.tmod a0_0 64) == 0) = false := beq_eq_false_iff_ne.mpr c9
     have c9b1 : ((Int.tmod a0_0 64) != 0) = true := bne_iff_ne.mpr c9
     obtain ⟨ji12, hji12⟩ : ∃ j_ : Int, (wrap64 ((l0_1.length : Int) - 1)) = j_ := ⟨_, rfl⟩
     replace H : (if 0 ≤ (ji12) then (if (ji12) < (l0_1.length : Int) then (if 0 ≤ (IntKind.u64.wrap (Int.tmod a0_0 64)) then (some ((shr .u64 (rd l0_1 (ji12)) (IntKind.u64.wrap (Int.tmod a0_0 64))) == 0)) else (none)) else (none)) else (none)) = some r := by first | (rw [hji12] at H; exact H) | (simp only [hji12] at H ⊢; exact H)
     have hji12w : (IntKind.i64.wrap ((l0_1.length : Int) - 1)) = ji12 := (i64_w _).trans hji12
     by_cases c13 : 0 ≤ (ji12)
     ·rw [if_pos c13] at H
      have c13b0 : decide (0 ≤ (ji12)) = true := decide_eq_true c13
      clear c13
      by_cases c14 : (ji12) < (l0_1.length : Int)
      ·rw [if_pos c14] at H
       have c14b0 : decide ((ji12) < (l0_1.length : Int)) = true := decide_eq_true c14
       clear c14
       obtain ⟨ji15, hji15⟩ : ∃ j_ : Int, (IntKind.u64.wrap (Int.tmod a0_0 64)) = j_ := ⟨_, rfl⟩
       replace H : (if 0 ≤ (ji15) then (some ((shr .u64 (rd l0_1 (ji12)) (ji15)) == 0)) else (none)) = some r := by first | (rw [hji15] at H; exact H) | (simp only [hji15] at H ⊢; exact H)
       by_cases c16 : 0 ≤ (ji15)
       ·rw [if_pos c16] at H
        have c16b0 := eq_true c16
        have c16b1 : decide (0 ≤ (ji15)) = true := decide_eq_true c16
        clear c16
        obtain ⟨ji17, hji17⟩ : ∃ j_ : Int, (shr .u64 (rd l0_1 (ji12)) (ji15)) = j_ := ⟨_, rfl⟩
        replace H : (some ((ji17) == 0)) = some r := by first | (rw [hji17] at H; exact H) | (simp only [hji17] at H ⊢; exact H)
        have hji17_ : ((rd l0_1 (ji12)) / 2 ^ min (ji15).toNat 64) = ji17 := hji17
        have hji17z : (ji15) ≤ 64 → ((rd l0_1 (ji12)) / 2 ^ (ji15).toNat) = ji17 := shr_small hji17
        obtain rfl := Option.some.inj H
        go_enter Tryd.func13, Tryd.ntmps13
        go_wp2_with (first | ((with_reducible refine gate_dst (N := 1) rfl ?_); (try (refine gate_guard (by rfl) ?_; dsimp only)); refine box_event ?hg (N := 1) ?hd (cs := #[.int .i64 a0_0, .slice A0_1 l0_1.length c0_1]) (t := 25) ?hr ?_; (case hd => rfl); (case hg => exact fs_); (case hr => first | (go_simp; done) | (go_simp; rfl)); intro gb242 hg w18 hbox hb; have n0_ := Aside0.mk (below_step (bb_ HB) hb); have n1_ := Aside0.mk (hbox); have n2_ := Aside0.mk ((by rw [hg]; exact (below_size (bb_ HB)) : w.heap.size ≤ gb242)); have n3_ := Aside0.mk ((by rw [hg]; exact (below_size (bb_ HB)) : w.heap.size ≤ gb242)); clear HB; have HB := n0_; have BK242 := n1_; have GW242 := n2_; have GE242 := n3_; clear n0_ n1_ n2_ n3_; clear hb hbox hg; have hcz19_0 : w18.cell? ⟨gb242, 0, none⟩ = some (.int .i64 a0_0) := (blk_cell BK242.out 0).trans rfl; have hcz19_1 : w18.cell? ⟨gb242, 1, none⟩ = some (.slice A0_1 l0_1.length c0_1) := (blk_cell BK242.out 1).trans rfl; have hfz19_0 := blk_frozen BK242.out 0; have hfz19_1 := blk_frozen BK242.out 1; have p243 : 0 ≤ ((ji12) : Int) := of_decide_eq_true as_; have q243 : (ji12) < (l0_1.length : Int) := of_decide_eq_true as_; obtain ⟨ad243, e243, hx243_0⟩ := Kd.at_int HR0_1.out (ji12) p243 q243; cases e243; replace hx243_0 := (HB.out.cell (World.block_lt_of_cell? w _ hx243_0)).trans hx243_0; replace p243 := eq_true p243; replace q243 := eq_true q243))
        repeat (go_quiet (first | ((with_reducible refine gate_dst (N := 1) rfl ?_); (try (refine gate_guard (by rfl) ?_; dsimp only)); refine box_event ?hg (N := 1) ?hd (cs := #[.int .i64 a0_0, .slice A0_1 l0_1.length c0_1]) (t := 25) ?hr ?_; (case hd => rfl); (case hg => exact fs_); (case hr => first | (go_simp; done) | (go_simp; rfl)); intro gb242 hg w18 hbox hb; have n0_ := Aside0.mk (below_step (bb_ HB) hb); have n1_ := Aside0.mk (hbox); have n2_ := Aside0.mk ((by rw [hg]; exact (below_size (bb_ HB)) : w.heap.size ≤ gb242)); have n3_ := Aside0.mk ((by rw [hg]; exact (below_size (bb_ HB)) : w.heap.size ≤ gb242)); clear HB; have HB := n0_; have BK242 := n1_; have GW242 := n2_; have GE242 := n3_; clear n0_ n1_ n2_ n3_; clear hb hbox hg; have hcz19_0 : w18.cell? ⟨gb242, 0, none⟩ = some (.int .i64 a0_0) := (blk_cell BK242.out 0).trans rfl; have hcz19_1 : w18.cell? ⟨gb242, 1, none⟩ = some (.slice A0_1 l0_1.length c0_1) := (blk_cell BK242.out 1).trans rfl; have hfz19_0 := blk_frozen BK242.out 0; have hfz19_1 := blk_frozen BK242.out 1; have p243 : 0 ≤ ((ji12) : Int) := of_decide_eq_true as_; have q243 : (ji12) < (l0_1.length : Int) := of_decide_eq_true as_; obtain ⟨ad243, e243, hx243_0⟩ := Kd.at_int HR0_1.out (ji12) p243 q243; cases e243; replace hx243_0 := (HB.out.cell (World.block_lt_of_cell? w _ hx243_0)).trans hx243_0; replace p243 := eq_true p243; replace q243 := eq_true q243)); try go_wp2_with (first | ((with_reducible refine gate_dst (N := 1) rfl ?_); (try (refine gate_guard (by rfl) ?_; dsimp only)); refine box_event ?hg (N := 1) ?hd (cs := #[.int .i64 a0_0, .slice A0_1 l0_1.length c0_1]) (t := 25) ?hr ?_; (case hd => rfl); (case hg => exact fs_); (case hr => first | (go_simp; done) | (go_simp; rfl)); intro gb242 hg w18 hbox hb; have n0_ := Aside0.mk (below_step (bb_ HB) hb); have n1_ := Aside0.mk (hbox); have n2_ := Aside0.mk ((by rw [hg]; exact (below_size (bb_ HB)) : w.heap.size ≤ gb242)); have n3_ := Aside0.mk ((by rw [hg]; exact (below_size (bb_ HB)) : w.heap.size ≤ gb242)); clear HB; have HB := n0_; have BK242 := n1_; have GW242 := n2_; have GE242 := n3_; clear n0_ n1_ n2_ n3_; clear hb hbox hg; have hcz19_0 : w18.cell? ⟨gb242, 0, none⟩ = some (.int .i64 a0_0) := (blk_cell BK242.out 0).trans rfl; have hcz19_1 : w18.cell? ⟨gb242, 1, none⟩ = some (.slice A0_1 l0_1.length c0_1) := (blk_cell BK242.out 1).trans rfl; have hfz19_0 := blk_frozen BK242.out 0; have hfz19_1 := blk_frozen BK242.out 1; have p243 : 0 ≤ ((ji12) : Int) := of_decide_eq_true as_; have q243 : (ji12) < (l0_1.length : Int) := of_decide_eq_true as_; obtain ⟨ad243, e243, hx243_0⟩ := Kd.at_int HR0_1.out (ji12) p243 q243; cases e243; replace hx243_0 := (HB.out.cell (World.block_lt_of_cell? w _ hx243_0)).trans hx243_0; replace p243 := eq_true p243; replace q243 := eq_true q243)))
        go_ret
        exact ⟨by first | rfl | (simp [errW_none, errW_some] <;> rfl) | (simp only [← hji12, ← hji15, ← hji17]; first | rfl | (simp [errW_none, errW_some] <;> rfl)) | (simp [*, errW_none, errW_some] <;> rfl), by repeat (first | (with_reducible first | exact HB.out | apply below_alloc | apply pw_below_drewN | apply below_drew1 | refine below_set ?_ GE242.out) | exact HB.out)⟩
       ·rw [if_neg c16] at H
        exact absurd H (by simp)
      ·rw [if_neg c14] at H
       exact absurd H (by simp)
     ·rw [if_neg c13] at H
      exact absurd H (by simp)
   ·rw [if_neg c8] at H
    have c8b0 : ((l0_1.length : Int) == (wrap64 (Int.tdiv (wrap64 (a0_0 + 63)) 64))) = false := beq_eq_false_iff_ne.mpr c8
    have c8b1 : ((l0_1.length : Int) != (wrap64 (Int.tdiv (wrap64 (a0_0 + 63)) 64))) = true := bne_iff_ne.mpr c8
    obtain rfl := Option.some.inj H
    go_enter Tryd.func13, Tryd.ntmps13
    go_wp2_with (first | ((with_reducible refine gate_dst (N := 1) rfl ?_); (try (refine gate_guard (by rfl) ?_; dsimp only)); refine box_event ?hg (N := 1) ?hd (cs := #[.int .i64 a0_0, .slice A0_1 l0_1.length c0_1]) (t := 25) ?hr ?_; (case hd => rfl); (case hg => exact fs_); (case hr => first | (go_simp; done) | (go_simp; rfl)); intro gb242 hg w20 hbox hb; have n0_ := Aside0.mk (below_step (bb_ HB) hb); have n1_ := Aside0.mk (hbox); have n2_ := Aside0.mk ((by rw [hg]; exact (below_size (bb_ HB)) : w.heap.size ≤ gb242)); have n3_ := Aside0.mk ((by rw [hg]; exact (below_size (bb_ HB)) : w.heap.size ≤ gb242)); clear HB; have HB := n0_; have BK242 := n1_; have GW242 := n2_; have GE242 := n3_; clear n0_ n1_ n2_ n3_; clear hb hbox hg; have hcz21_0 : w20.cell? ⟨gb242, 0, none⟩ = some (.int .i64 a0_0) := (blk_cell BK242.out 0).trans rfl; have hcz21_1 : w20.cell? ⟨gb242, 1, none⟩ = some (.slice A0_1 l0_1.length c0_1) := (blk_cell BK242.out 1).trans rfl; have hfz21_0 := blk_frozen BK242.out 0; have hfz21_1 := blk_frozen BK242.out 1))
    repeat (go_quiet (first | ((with_reducible refine gate_dst (N := 1) rfl ?_); (try (refine gate_guard (by rfl) ?_; dsimp only)); refine box_event ?hg (N := 1) ?hd (cs := #[.int .i64 a0_0, .slice A0_1 l0_1.length c0_1]) (t := 25) ?hr ?_; (case hd => rfl); (case hg => exact fs_); (case hr => first | (go_simp; done) | (go_simp; rfl)); intro gb242 hg w20 hbox hb; have n0_ := Aside0.mk (below_step (bb_ HB) hb); have n1_ := Aside0.mk (hbox); have n2_ := Aside0.mk ((by rw [hg]; exact (below_size (bb_ HB)) : w.heap.size ≤ gb242)); have n3_ := Aside0.mk ((by rw [hg]; exact (below_size (bb_ HB)) : w.heap.size ≤ gb242)); clear HB; have HB := n0_; have BK242 := n1_; have GW242 := n2_; have GE242 := n3_; clear n0_ n1_ n2_ n3_; clear hb hbox hg; have hcz21_0 : w20.cell? ⟨gb242, 0, none⟩ = some (.int .i64 a0_0) := (blk_cell BK242.out 0).trans rfl; have hcz21_1 : w20.cell? ⟨gb242, 1, none⟩ = some (.slice A0_1 l0_1.length c0_1) := (blk_cell BK242.out 1).trans rfl; have hfz21_0 := blk_frozen BK242.out 0; have hfz21_1 := blk_frozen BK242.out 1)); try go_wp2_with (first | ((with_reducible refine gate_dst (N := 1) rfl ?_); (try (refine gate_guard (by rfl) ?_; dsimp only)); refine box_event ?hg (N := 1) ?hd (cs := #[.int .i64 a0_0, .slice A0_1 l0_1.length c0_1]) (t := 25) ?hr ?_; (case hd => rfl); (case hg => exact fs_); (case hr => first | (go_simp; done) | (go_simp; rfl)); intro gb242 hg w20 hbox hb; have n0_ := Aside0.mk (below_step (bb_ HB) hb); have n1_ := Aside0.mk (hbox); have n2_ := Aside0.mk ((by rw [hg]; exact (below_size (bb_ HB)) : w.heap.size ≤ gb242)); have n3_ := Aside0.mk ((by rw [hg]; exact (below_size (bb_ HB)) : w.heap.size ≤ gb242)); clear HB; have HB := n0_; have BK242 := n1_; have GW242 := n2_; have GE242 := n3_; clear n0_ n1_ n2_ n3_; clear hb hbox hg; have hcz21_0 : w20.cell? ⟨gb242, 0, none⟩ = some (.int .i64 a0_0) := (blk_cell BK242.out 0).trans rfl; have hcz21_1 : w20.cell? ⟨gb242, 1, none⟩ = some (.slice A0_1 l0_1.length c0_1) := (blk_cell BK242.out 1).trans rfl; have hfz21_0 := blk_frozen BK242.out 0; have hfz21_1 := blk_frozen BK242.out 1)))
    go_ret
    exact ⟨er_, by repeat (first | (with_reducible first | exact HB.out | apply below_alloc | apply pw_below_drewN | apply below_drew1 | refine below_set ?_ GE242.out) | exact HB.out)⟩

/-! ### laminalaw03_small: function 31 -/
def laminalaw03_small.f (a0_0 : Int) (l0_1 : List Int) : Option (Bool) := if a0_0 ≤ 3000 then ((laminaref03_Valid.f a0_0 l0_1).bind fun t245 => (some t245)) else (some false)
set_option maxHeartbeats 8000000 in
set_option maxRecDepth 100000 in
theorem laminalaw03_small.calls (a0_0 : Int) (A0_1 : Option Addr) (c0_1 : Nat) (l0_1 : List Int) (r : Bool) (w : World) (hr0_1 : Kd.C (Kd.int .u64) w A0_1 l0_1.length l0_1) (hc0_1 : l0_1.length ≤ c0_1) (h : laminalaw03_small.f a0_0 l0_1 = some r) :
  Calls Tryd.prog 31 #[.agg #[.int .i64 a0_0, .slice A0_1 l0_1.length c0_1]] w fun e w' => e = .returned (.bool r) ∧ Below w.heap.size w w' := by
 have hu25 := Tryd.underlying25
 have HR0_1 := Aside0.mk hr0_1
 have HC0_1 := Aside0.mk hc0_1
 clear hr0_1 hc0_1
 have HB := Aside0.mk (Below.refl w.heap.size w)
 have H : (if a0_0 ≤ 3000 then ((laminaref03_Valid.f a0_0 l0_1).bind fun t245 => (some t245)) else (some false)) = some r := h
 clear h
 by_cases c2 : a0_0 ≤ 3000
 ·rw [if_pos c2] at H
  have c2b0 : decide (a0_0 ≤ 3000) = true := decide_eq_true c2
  clear c2
  replace H := Option.bind_eq_some_iff.mp H
  obtain ⟨t245, A30, H⟩ := H
  try dsimp only at H
  have A3 := Aside0.mk A30
  clear A30
  obtain rfl := Option.some.inj H
  go_enter Tryd.func31, Tryd.ntmps31
  go_wp2_with (first | ((with_reducible refine gate_dst (N := 1) rfl ?_); refine box_event ?hg (N := 1) ?hd (cs := #[.int .i64 a0_0, .slice A0_1 l0_1.length c0_1]) (t := 25) ?hr ?_; (case hd => rfl); (case hg => exact fs_); (case hr => first | (go_simp; done) | (go_simp; rfl)); intro gb244 hg w4 hbox hb; have n0_ := Aside0.mk (below_step (bb_ HB) hb); have n1_ := Aside0.mk (hbox); have n2_ := Aside0.mk ((by rw [hg]; exact (below_size (bb_ HB)) : w.heap.size ≤ gb244)); have n3_ := Aside0.mk ((by rw [hg]; exact (below_size (bb_ HB)) : w.heap.size ≤ gb244)); clear HB; have HB := n0_; have BK244 := n1_; have GW244 := n2_; have GE244 := n3_; clear n0_ n1_ n2_ n3_; clear hb hbox hg; have hcz5_0 : w4.cell? ⟨gb244, 0, none⟩ = some (.int .i64 a0_0) := (blk_cell BK244.out 0).trans rfl; have hcz5_1 : w4.cell? ⟨gb244, 1, none⟩ = some (.slice A0_1 l0_1.length c0_1) := (blk_cell BK244.out 1).trans rfl; have hfz5_0 := blk_frozen BK244.out 0; have hfz5_1 := blk_frozen BK244.out 1) | (go_at_call 13; (with_reducible refine (laminaref03_Valid.calls a0_0 _ _ l0_1 t245 _ ?side1 ?side2 A3.out).mono ?_); (case side1 => exact ca_ (Kd.C_below HR0_1.out HB.out)); (case side2 => exact HC0_1.out); rintro e w6 ⟨rfl, hb⟩; have n0_ := Aside0.mk (blk_below (g := gb244) (o := .cells #[.int .i64 a0_0, .slice A0_1 l0_1.length c0_1] 25 (0, 0)) (bk_ BK244) hb); have n1_ := Aside0.mk (below_step (bg_ HB GE244) hb); clear BK244; clear HB; have BK244 := n0_; have HB := n1_; clear n0_ n1_; (try clear hb); (try clear hb2); (try clear hk); (try clear hi)))
  go_ret
  exact ⟨er_, by repeat (first | (with_reducible first | exact HB.out | apply below_alloc | apply pw_below_drewN | apply below_drew1 | refine below_set ?_ GE244.out) | exact HB.out)⟩
 ·rw [if_neg c2] at H
  have c2b0 : decide (a0_0 ≤ 3000) = false := decide_eq_false c2
  clear c2
  obtain rfl := Option.some.inj H
  go_enter Tryd.func31, Tryd.ntmps31
  go_wp2_with (first | ((with_reducible refine gate_dst (N := 1) rfl ?_); refine box_event ?hg (N := 1) ?hd (cs := #[.int .i64 a0_0, .slice A0_1 l0_1.length c0_1]) (t := 25) ?hr ?_; (case hd => rfl); (case hg => exact fs_); (case hr => first | (go_simp; done) | (go_simp; rfl)); intro gb244 hg w7 hbox hb; have n0_ := Aside0.mk (below_step (bb_ HB) hb); have n1_ := Aside0.mk (hbox); have n2_ := Aside0.mk ((by rw [hg]; exact (below_size (bb_ HB)) : w.heap.size ≤ gb244)); have n3_ := Aside0.mk ((by rw [hg]; exact (below_size (bb_ HB)) : w.heap.size ≤ gb244)); clear HB; have HB := n0_; have BK244 := n1_; have GW244 := n2_; have GE244 := n3_; clear n0_ n1_ n2_ n3_; clear hb hbox hg; have hcz8_0 : w7.cell? ⟨gb244, 0, none⟩ = some (.int .i64 a0_0) := (blk_cell BK244.out 0).trans rfl; have hcz8_1 : w7.cell? ⟨gb244, 1, none⟩ = some (.slice A0_1 l0_1.length c0_1) := (blk_cell BK244.out 1).trans rfl; have hfz8_0 := blk_frozen BK244.out 0; have hfz8_1 := blk_frozen BK244.out 1))
  go_ret
  exact ⟨er_, by repeat (first | (with_reducible first | exact HB.out | apply below_alloc | apply pw_below_drewN | apply below_drew1 | refine below_set ?_ GE244.out) | exact HB.out)⟩

end Go.Proofs.YtijgbhbdmnhanaaDoor.QBitsetAlgebra
