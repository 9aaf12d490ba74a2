-- Written by a program of this session (wip/pr2.sh): the walk of the Go text, function by function.
import Derived.Test.YtijgbhbdmnhanaaDoorQBitsetElementsx0
import Derived.Test.YtijgbhbdmnhanaaDoorQBitsetElementsx1
namespace Go.Proofs.YtijgbhbdmnhanaaDoor.QBitsetElements
open Go.RowKit Go.Proofs.YtijgbhbdmnhanaaDoorW.PrintWords Go.Proofs.YtijgbhbdmnhanaaDoorW.PrintLast Go.Proofs.YtijgbhbdmnhanaaDoorW.PrintMore
open Go.Proofs.YtijgbhbdmnhanaaDoorM
attribute [local go_sem] max2_int min2_int max_two min_two max_three min_three max_four min_four   -- for this text's walks alone
set_option linter.unusedVariables false
set_option linter.unusedSimpArgs false

/-! ### bitset_Of: function 41 -/
def bitset_Of.l0 : Nat → List Int → Int → Int → Int → List Int → Option (Int × List Int)
 | 0, _, _, _, _, _ => none
 | k + 1, x10, x11, x12, x124000, x124001 => if x12 < x11 then (if 0 ≤ x12 then (if x12 < (x10.length : Int) then (if (rd x10 x12) ≥ 0 then (if (rd x10 x12) < x124000 then (if 0 ≤ (wrap64 (Int.tdiv (rd x10 x12) 64)) then (if (wrap64 (Int.tdiv (rd x10 x12) 64)) < (x124001.length : Int) then (if 0 ≤ (Int.tmod (rd x10 x12) 64) then (bitset_Of.l0 k x10 x11 (wrap64 (x12 + 1)) x124000 (x124001.set ((wrap64 (Int.tdiv (rd x10 x12) 64)) : Int).toNat (Go.bits .or .u64 (rd x124001 (wrap64 (Int.tdiv (rd x10 x12) 64))) (shl .u64 1 (Int.tmod (rd x10 x12) 64))))) else (none)) else (none)) else (none)) else (bitset_Of.l0 k x10 x11 (wrap64 (x12 + 1)) x124000 x124001)) else (bitset_Of.l0 k x10 x11 (wrap64 (x12 + 1)) x124000 x124001)) else (none)) else (none)) else (some (x124000, x124001))
def bitset_Of.f (k : Nat) (a0 : Int) (l1 : List Int) : Option (Int × List Int) := (bitset_New.f a0).bind fun bt119 => (bitset_Of.l0 k l1 (l1.length : Int) 0 bt119.1 bt119.2)
theorem bitset_Of.mono_l : ∀ k, (∀ y0 y1 y2 y3 y4, LeO (bitset_Of.l0 k y0 y1 y2 y3 y4) (bitset_Of.l0 (k + 1) y0 y1 y2 y3 y4))
 | 0 => fun _ _ _ _ _ r h => by simp [bitset_Of.l0] at h
 | k + 1 => by
  have ih0 := bitset_Of.mono_l k
  ·intro y0 y1 y2 y3 y4
   unfold bitset_Of.l0
   repeat' first
   | (with_reducible exact ih0 _ _ _ _ _)
   | (with_reducible exact LeO.refl _)
   | (with_reducible exact LeO.none _)
   | (with_reducible refine LeO.ite ?_ ?_)
   | (with_reducible refine LeO.bind ?_ (fun _ => ?_))
   | exact ih0 _ _ _ _ _
   | exact LeO.none _
   | refine LeO.ite ?_ ?_
   | refine LeO.bind ?_ (fun _ => ?_)
theorem bitset_Of.mono : ∀ a0 a1 k, LeO (bitset_Of.f k a0 a1) (bitset_Of.f (k + 1) a0 a1) := by
 intro a0 a1 k
 have ih0 := bitset_Of.mono_l k
 unfold bitset_Of.f
 repeat' first
   | (with_reducible exact ih0 _ _ _ _ _)
   | (with_reducible exact LeO.refl _)
   | (with_reducible exact LeO.none _)
   | (with_reducible refine LeO.ite ?_ ?_)
   | (with_reducible refine LeO.bind ?_ (fun _ => ?_))
   | exact ih0 _ _ _ _ _
   | exact LeO.none _
   | refine LeO.ite ?_ ?_
   | refine LeO.bind ?_ (fun _ => ?_)
def bitset_Of.T6 : Bool × List (List Nat × List Nat) := (true, [([], []), ([0], [0]), ([], []), ([2], [2]), ([1, 3], [1, 3]), ([4], [4]), ([], []), ([6], [6]), ([7], [7]), ([5, 8], [5, 8]), ([1, 3, 0, 1, 2, 3, 4, 5, 6, 7, 8, 9], [1, 3]), ([10, 9, 0, 1, 2, 3, 4, 5, 6, 7, 8, 9], [9, 10])])
def bitset_Of.B6 : List Nat := [0, 1, 0, 4, 15, 31, 0, 64, 192, 511, 1023, 2047]
theorem bitset_Of.tab6 : rtab .any (opsOf Tryd.f41 6) = bitset_Of.T6 := by kernel_rfl
theorem bitset_Of.bits6 : waitsOk bitset_Of.T6.2 bitset_Of.B6 = true := by kernel_rfl
set_option maxHeartbeats 8000000 in
set_option maxRecDepth 100000 in
theorem bitset_Of.calls (k : Nat) (a0 : Int) (A1 : Option Addr) (c1 : Nat) (l1 : List Int) (r1 : Int) (r2 : List Int) (w : World) (hr1 : Kd.C (Kd.int .i64) w A1 l1.length l1) (hc1 : l1.length ≤ c1) (h : bitset_Of.f k a0 l1 = some (r1, r2)) :
  Calls Tryd.prog 41 #[.int .i64 a0, .slice A1 l1.length c1] w fun e w' => ∃ v1_ : Value, e = .returned (.agg #[.int .i64 r1, v1_]) ∧ Kd.R (Kd.int .u64) 56 w' w.heap.size (fun _ => True) v1_ r2 ∧ Below w.heap.size w w' := by
 have hu25 := Tryd.underlying25
 have HR1 := Aside0.mk hr1
 have HC1 := Aside0.mk hc1
 clear hr1 hc1
 have HB := Aside0.mk (Below.refl w.heap.size w)
 have H : ((bitset_New.f a0).bind fun bt119 => (bitset_Of.l0 k l1 (l1.length : Int) 0 bt119.1 bt119.2)) = some (r1, r2) := h
 clear h
 replace H := Option.bind_eq_some_iff.mp H
 obtain ⟨⟨t119, t120⟩, A30, H⟩ := H
 replace H : (bitset_Of.l0 k l1 (l1.length : Int) 0 t119 t120) = some (r1, r2) := H
 have A3 := Aside0.mk A30
 clear A30
 have H' := Aside0.mk H
 clear H
 go_enter Tryd.func41, Tryd.ntmps41
 go_wp2_with (first | ((with_reducible refine gate_dst (N := 4) rfl ?_); refine box_event ?hg (N := 4) ?hd (cs := #[.int .i64 0, .slice none 0 0]) (t := 25) ?hr ?_; (case hd => rfl); (case hg => (first | rfl | (simp only [*]; rfl) | (simp [*]; done))); (case hr => first | (go_simp; done) | (go_simp; rfl)); intro gb118 hg w4 hbox hb; have n0_ := Aside0.mk (below_step (by repeat (first | (with_reducible first | exact HB.out | apply below_alloc | apply pw_below_drewN | apply below_drew1) | exact HB.out)) hb); have n1_ := Aside0.mk (hbox); have n2_ := Aside0.mk ((by rw [hg]; exact (below_size (by repeat (first | (with_reducible first | exact HB.out | apply below_alloc | apply pw_below_drewN | apply below_drew1) | exact HB.out))) : w.heap.size ≤ gb118)); have n3_ := Aside0.mk ((by rw [hg]; exact (below_size (by repeat (first | (with_reducible first | exact HB.out | apply below_alloc | apply pw_below_drewN | apply below_drew1) | exact HB.out))) : w.heap.size ≤ gb118)); clear HB; have HB := n0_; have BK118 := n1_; have GW118 := n2_; have GE118 := n3_; clear n0_ n1_ n2_ n3_; clear hb hbox hg) | ((with_reducible refine gate_callee (f := 43) rfl ?_); refine goesL_ (some 9) rfl rfl Tryd.func43 (by kernel_rfl) rfl #[.int .i64 a0] rfl (by (try simp only [List.map_toArray, List.map_cons, List.map_nil]); first | done | rfl | (simp only [List.length_drop, List.length_take]; rfl)) ?_; (with_reducible refine (bitset_New.calls a0 t119 t120 _ A3.out).mono ?_); rintro e w5 ⟨v121, rfl, ho0, hb⟩; refine ⟨_, rfl, ?_⟩; have n0_ := Aside0.mk (Kd.R_lower ho0 (below_size (by repeat (first | (with_reducible first | exact HB.out | apply below_alloc | apply pw_below_drewN | apply below_drew1 | refine below_set ?_ GE118.out) | exact HB.out)))); have n1_ := Aside0.mk (blk_below (g := gb118) (o := .cells #[.int .i64 0, .slice none 0 0] 25 (0, 0)) (by (with_reducible repeat (first | refine blk_drewN ?_ _ | refine blk_drew ?_ | refine blk_alloc ?_ _)); exact BK118.out) hb); have n2_ := Aside0.mk (below_step (by repeat (first | (with_reducible first | exact HB.out | apply below_alloc | apply pw_below_drewN | apply below_drew1 | refine below_set ?_ GE118.out) | exact HB.out)) hb); clear BK118; clear HB; have HO122 := n0_; have BK118 := n1_; have HB := n2_; clear n0_ n1_ n2_; (try clear hb); (try clear hb2); (try clear hk); (try clear hi); (try clear ho0)) | ((with_reducible refine gate_dst (N := 5) rfl ?_); refine box_event ?hg (N := 5) ?hd (cs := #[.int .i64 0, .slice none 0 0]) (t := 25) ?hr ?_; (case hd => rfl); (case hg => (first | rfl | (simp only [*]; rfl) | (simp [*]; done))); (case hr => first | (go_simp; done) | (go_simp; rfl)); intro gb123 hg w6 hbox hb; have n0_ := Aside0.mk (Kd.R_below (by (with_reducible repeat (first | apply Kd.R_alloc | apply Kd.R_drewN | apply Kd.R_drew)); exact HO122.out) hb); have n1_ := Aside0.mk (blk_below (g := gb118) (o := .cells #[.int .i64 0, .slice none 0 0] 25 (0, 0)) (by (with_reducible repeat (first | refine blk_drewN ?_ _ | refine blk_drew ?_ | refine blk_alloc ?_ _)); exact BK118.out) hb); have n2_ := Aside0.mk (below_step (by repeat (first | (with_reducible first | exact HB.out | apply below_alloc | apply pw_below_drewN | apply below_drew1 | refine below_set ?_ GE118.out) | exact HB.out)) hb); have n3_ := Aside0.mk (hbox); have n4_ := Aside0.mk ((by rw [hg]; exact (below_size (by repeat (first | (with_reducible first | exact HB.out | apply below_alloc | apply pw_below_drewN | apply below_drew1 | refine below_set ?_ GE118.out) | exact HB.out))) : w.heap.size ≤ gb123)); have n5_ := Aside0.mk ((by rw [hg]; exact (below_size (by repeat (first | (with_reducible first | exact HB.out | apply below_alloc | apply pw_below_drewN | apply below_drew1 | refine below_set ?_ GE118.out) | exact HB.out))) : w.heap.size ≤ gb123)); have n6_ := Aside0.mk ((by rw [hg]; exact Nat.ne_of_lt (blk_lt (g := gb118) (o := .cells #[.int .i64 0, .slice none 0 0] 25 (0, 0)) (by (with_reducible repeat (first | refine blk_drewN ?_ _ | refine blk_drew ?_ | refine blk_alloc ?_ _)); exact BK118.out)) : gb118 ≠ gb123)); have n7_ := Aside0.mk ((by rw [hg]; exact Nat.ne_of_gt (blk_lt (g := gb118) (o := .cells #[.int .i64 0, .slice none 0 0] 25 (0, 0)) (by (with_reducible repeat (first | refine blk_drewN ?_ _ | refine blk_drew ?_ | refine blk_alloc ?_ _)); exact BK118.out)) : gb123 ≠ gb118)); clear HO122; clear BK118; clear HB; have HO122 := n0_; have BK118 := n1_; have HB := n2_; have BK123 := n3_; have GW123 := n4_; have GE123 := n5_; have NB118_123 := n6_; have NB123_118 := n7_; clear n0_ n1_ n2_ n3_ n4_ n5_ n6_ n7_; clear hb hbox hg; have hnb7 := NB123_118.out; have hnc7 := NB118_123.out; have hcz8_0 : w6.cell? ⟨gb123, 0, none⟩ = some (.int .i64 0) := (blk_cell BK123.out 0).trans rfl; have hcz8_1 : w6.cell? ⟨gb123, 1, none⟩ = some (.slice none 0 0) := (blk_cell BK123.out 1).trans rfl; have hfz8_0 := blk_frozen BK123.out 0; have hfz8_1 := blk_frozen BK123.out 1; obtain ⟨Ao9, co9, eo9⟩ := Kd.R_slice HO122.out; subst eo9))
 go_loopg [12] k (fun kq v12 w' => ∃ (x12_1 : Int) (x124001_1 : List Int) (u124001 : Value), v12 = .int .i64 x12_1 ∧ Aside0 (bitset_Of.l0 kq l1 (l1.length : Int) x12_1 t119 x124001_1 = some (r1, r2)) ∧ Aside0 (kq ≤ k) ∧ Aside0 (Kd.R (Kd.int .u64) 56 w' w.heap.size (fun _ => True) u124001 x124001_1) ∧ Aside0 (w'.heap[gb118]? = some (.cells #[.int .i64 0, (.slice none 0 0)] 25 (0, 0))) ∧ Aside0 (w'.heap[gb123]? = some (.cells #[.int .i64 t119, u124001] 25 (0, 0))) ∧ Aside0 (Below w.heap.size w w'))
 case atStart => exact ⟨(0), (t120), (.slice Ao9 t120.length co9), (by first | rfl | (simp; done) | (simp [*]; done)), H', ⟨Nat.le_refl _⟩, ⟨by (with_reducible repeat (first | apply Kd.R_alloc | apply Kd.R_drewN | apply Kd.R_drew)); exact Kd.R_mono (Kd.R_far (p := ⟨gb123, 1, none⟩) (Kd.R_far (p := ⟨gb123, 0, none⟩) (Kd.R_types HO122.out BK123.out (by decide)) (fun _ hk => hk.2) (.int .i64 t119)) (fun _ hk => hk.2) (.slice Ao9 t120.length co9)) (fun _ hk => trivial)⟩, ⟨by (with_reducible repeat (first | refine blk_drewN ?_ _ | refine blk_drew ?_ | refine blk_alloc ?_ _)); refine blk_far ?_ NB118_123.out _; (with_reducible repeat (first | refine blk_drewN ?_ _ | refine blk_drew ?_ | refine blk_alloc ?_ _)); refine blk_far ?_ NB118_123.out _; (with_reducible repeat (first | refine blk_drewN ?_ _ | refine blk_drew ?_ | refine blk_alloc ?_ _)); exact BK118.out⟩, ⟨by (with_reducible repeat (first | refine blk_drewN ?_ _ | refine blk_drew ?_ | refine blk_alloc ?_ _)); refine blk_put (cs := #[.int .i64 t119, .slice none 0 0]) ?_ 1 _ rfl; (with_reducible repeat (first | refine blk_drewN ?_ _ | refine blk_drew ?_ | refine blk_alloc ?_ _)); refine blk_put (cs := #[.int .i64 0, .slice none 0 0]) ?_ 0 _ rfl; (with_reducible repeat (first | refine blk_drewN ?_ _ | refine blk_drew ?_ | refine blk_alloc ?_ _)); exact BK123.out⟩, ⟨by repeat (first | (with_reducible first | exact HB.out | apply below_alloc | apply pw_below_drewN | apply below_drew1 | refine below_set ?_ GE118.out | refine below_set ?_ GE123.out) | exact HB.out)⟩⟩
 case round =>
  clear H'
  try clear c1
  try clear p2
  try clear c4
  try clear c7
  try clear hcz8_0
  try clear hcz8_1
  try clear hfz8_0
  try clear hfz8_1
  obtain ⟨x12_1, x124001_1, u124001, rfl, HA, HK1, HO_124001, BK118, BK123, HB⟩ := hrel
  cases gk with
  | zero => exact absurd HA.out (by simp [bitset_Of.l0])
  | succ k1 =>
   have H := HA.out
   clear HA
   simp only [bitset_Of.l0] at H
   by_cases c10 : x12_1 < (l1.length : Int)
   ·rw [if_pos c10] at H
    have c10b0 : decide (x12_1 < (l1.length : Int)) = true := decide_eq_true c10
    clear c10
    by_cases c11 : 0 ≤ x12_1
    ·rw [if_pos c11] at H
     have c11b0 : decide (0 ≤ x12_1) = true := decide_eq_true c11
     clear c11
     by_cases c12 : x12_1 < (l1.length : Int)
     ·rw [if_pos c12] at H
      have c12b0 : decide (x12_1 < (l1.length : Int)) = true := decide_eq_true c12
      clear c12
      by_cases c13 : (rd l1 x12_1) ≥ 0
      ·rw [if_pos c13] at H
       have c13b0 : decide (0 ≤ (rd l1 x12_1)) = true := decide_eq_true c13
       clear c13
       by_cases c14 : (rd l1 x12_1) < t119
       ·rw [if_pos c14] at H
        have c14b0 : decide ((rd l1 x12_1) < t119) = true := decide_eq_true c14
        clear c14
        obtain ⟨ji15, hji15⟩ : ∃ j_ : Int, (wrap64 (Int.tdiv (rd l1 x12_1) 64)) = j_ := ⟨_, rfl⟩
        replace H : (if 0 ≤ (ji15) then (if (ji15) < (x124001_1.length : Int) then (if 0 ≤ (Int.tmod (rd l1 x12_1) 64) then (bitset_Of.l0 k1 l1 (l1.length : Int) (wrap64 (x12_1 + 1)) t119 (x124001_1.set ((ji15) : Int).toNat (Go.bits .or .u64 (rd x124001_1 (ji15)) (shl .u64 1 (Int.tmod (rd l1 x12_1) 64))))) else (none)) else (none)) else (none)) = some (r1, r2) := by first | (rw [hji15] at H; exact H) | (simp only [hji15] at H ⊢; exact H)
        have hji15w : (IntKind.i64.wrap (Int.tdiv (rd l1 x12_1) 64)) = ji15 := (i64_w _).trans hji15
        by_cases c16 : 0 ≤ (ji15)
        ·rw [if_pos c16] at H
         have c16b0 : decide (0 ≤ (ji15)) = true := decide_eq_true c16
         clear c16
         by_cases c17 : (ji15) < (x124001_1.length : Int)
         ·rw [if_pos c17] at H
          have c17b0 : decide ((ji15) < (x124001_1.length : Int)) = true := decide_eq_true c17
          clear c17
          obtain ⟨ji18, hji18⟩ : ∃ j_ : Int, (Int.tmod (rd l1 x12_1) 64) = j_ := ⟨_, rfl⟩
          replace H : (if 0 ≤ (ji18) then (bitset_Of.l0 k1 l1 (l1.length : Int) (wrap64 (x12_1 + 1)) t119 (x124001_1.set ((ji15) : Int).toNat (Go.bits .or .u64 (rd x124001_1 (ji15)) (shl .u64 1 (ji18))))) else (none)) = some (r1, r2) := by first | (rw [hji18] at H; exact H) | (simp only [hji18] at H ⊢; exact H)
          by_cases c19 : 0 ≤ (ji18)
          ·rw [if_pos c19] at H
           have c19b0 := eq_true c19
           have c19b1 : decide (0 ≤ (ji18)) = true := decide_eq_true c19
           clear c19
           obtain ⟨ji20, hji20⟩ : ∃ j_ : Int, (shl .u64 1 (ji18)) = j_ := ⟨_, rfl⟩
           replace H : (bitset_Of.l0 k1 l1 (l1.length : Int) (wrap64 (x12_1 + 1)) t119 (x124001_1.set ((ji15) : Int).toNat (Go.bits .or .u64 (rd x124001_1 (ji15)) (ji20)))) = some (r1, r2) := by first | (rw [hji20] at H; exact H) | (simp only [hji20] at H ⊢; exact H)
           have hji20_ : (IntKind.u64.wrap (1 * 2 ^ min (ji18).toNat 64)) = ji20 := hji20
           have hji20z : (ji18) ≤ 64 → (IntKind.u64.wrap (1 * 2 ^ (ji18).toNat)) = ji20 := shl_small hji20
           have hji20u : (IntKind.u64.wrap (2 ^ min (ji18).toNat 64)) = ji20 := by have h_ := hji20_; rw [Int.one_mul] at h_; exact h_
           have hji20v : (ji18) ≤ 64 → (IntKind.u64.wrap (2 ^ (ji18).toNat)) = ji20 := fun hle_ => by have h_ := hji20z hle_; rw [Int.one_mul] at h_; exact h_
           obtain ⟨y126, hy126⟩ : ∃ y_ : List Int, y_ = (x124001_1.set ((ji15) : Int).toNat (Go.bits .or .u64 (rd x124001_1 (ji15)) (ji20))) := ⟨_, rfl⟩
           replace H : (bitset_Of.l0 k1 l1 (l1.length : Int) (wrap64 (x12_1 + 1)) t119 y126) = some (r1, r2) := by first | (rw [hy126]; with_reducible exact H) | (have H2_ := (Option.bind_some _ _).symm.trans H; rw [hy126]; with_reducible exact H2_) | (have H2_ := (Option.bind_some _ _).symm.trans H; with_reducible exact H2_) | with_reducible exact H | (rw [hy126]; exact H) | exact H
           have Ny126 := Aside0.mk hy126
           clear hy126
           have H' := Aside0.mk H
           clear H
           have p124 : 0 ≤ (x12_1 : Int) := of_decide_eq_true (by first | (with_reducible assumption) | assumption)
           have q124 : x12_1 < (l1.length : Int) := of_decide_eq_true (by first | (with_reducible assumption) | assumption)
           obtain ⟨ad124, e124, hx124_0⟩ := Kd.at_int HR1.out x12_1 p124 q124
           cases e124
           replace hx124_0 := (HB.out.cell (World.block_lt_of_cell? w _ hx124_0)).trans hx124_0
           replace p124 := eq_true p124
           replace q124 := eq_true q124
           have hnb22 := NB123_118.out
           have hnc22 := NB118_123.out
           have hcz23_0 : wr.cell? ⟨gb123, 0, none⟩ = some (.int .i64 t119) := (blk_cell BK123.out 0).trans rfl
           have hcz23_1 : wr.cell? ⟨gb123, 1, none⟩ = some (u124001) := (blk_cell BK123.out 1).trans rfl
           have hfz23_0 := blk_frozen BK123.out 0
           have hfz23_1 := blk_frozen BK123.out 1
           try go_wp2
           have n0_ := Aside0.mk (Kd.R_drew HO_124001.out)
           have n1_ := Aside0.mk (blk_drew BK118.out)
           have n2_ := Aside0.mk (blk_drew BK123.out)
           have n3_ := Aside0.mk (below_drew1 HB.out)
           clear HO_124001
           clear BK118
           clear BK123
           clear HB
           have HO_124001 := n0_
           have BK118 := n1_
           have BK123 := n2_
           have HB := n3_
           clear n0_ n1_ n2_ n3_
           obtain ⟨Ao25, co25, eo25⟩ := Kd.R_slice HO_124001.out
           (first | subst eo25 | (injection eo25 with f1_ f2_ f3_; have f4_ := f1_.symm; have f5_ := f3_.symm; clear f1_ f2_ f3_; subst f4_; subst f5_))
           have p125 : 0 ≤ ((ji15) : Int) := of_decide_eq_true (by first | (with_reducible assumption) | assumption)
           have q125 : (ji15) < (x124001_1.length : Int) := of_decide_eq_true (by first | (with_reducible assumption) | assumption)
           obtain ⟨ad125, e125, hx125_0⟩ := Kd.at_int (Kd.R_reads' HO_124001.out).2.2 (ji15) p125 q125
           cases e125
           replace p125 := eq_true p125
           replace q125 := eq_true q125
           have p21 : 0 ≤ ((ji15) : Int) := of_decide_eq_true (by first | (with_reducible assumption) | assumption)
           have q21 : ((ji15) : Int) < ((x124001_1.length : Int) : Int) := of_decide_eq_true (by first | (with_reducible assumption) | assumption)
           obtain ⟨go21, co21, eo21, gb21, gl21, cl21, HG21⟩ := Kd.R_form HO_124001.out (by omega)
           (first | cases eo21 | (injection eo21 with ea_ en_ ec_; (first | subst ea_ | (injection ea_ with ea_; subst ea_)); subst ec_; clear en_))
           have GB21 := Aside0.mk gb21
           have GG21 := Aside0.mk HG21
           clear gb21 gl21 HG21
           (first | simp only [add_plain] at hx125_0 | skip)
           obtain ⟨hx21_0, hf21_0⟩ := Kd.R_celln 0 HO_124001.out ((ji15) : Int) p21 q21
           replace p21 := eq_true p21
           replace q21 := eq_true q21
           have HP26 := Kd.R_putn HO_124001.out ((ji15) : Int) (Go.bits .or .u64 (rd x124001_1 (ji15)) (ji20))
           rw [← Ny126.out] at HP26
           have HQ26 := Aside0.mk HP26
           clear HP26
           refine start_ (n := 12) (S := fun w' => w'.cell? ⟨gb123, 0, none⟩ = some (.int .i64 t119) ∧ w'.cell? ⟨gb123, 1, none⟩ = some (.slice (some ⟨go21, 0, none⟩) x124001_1.length co25) ∧ w'.cell? ⟨go21, ((ji15)).toNat, none⟩ = some (.int .u64 (rd x124001_1 (ji15)))) (ds := [11]) #[false, false, false, false, false, false, false, false, false, false, false, false] (by kernel_rfl) rfl rfl ⟨(blk_cell BK123.out 0).trans rfl, (blk_cell BK123.out 1).trans rfl, hx125_0⟩ (fun hHeld => ?_); refine with_tabW bitset_Of.tab6 bitset_Of.bits6 (fun HT_ HW_ => ?_)
           generalize wr.drew = w24 at HO_124001 BK118 BK123 HB GG21 HQ26 hf21_0 hx125_0 hx21_0 hHeld ⊢
           refine pure_ (i := 0) (N := some 24) (v := ?_) (a' := ?_) #[true, false, false, false, false, false, false, false, false, false, false, false] rfl rfl (any_of HT_.out (by kernel_rfl)) (fun _ _ _ h => h) (Or.inl ⟨by (first | rfl | (simp only [*]; rfl) | (simp [*]; done)), ?_⟩) ?_ ?_
           rotate_left
           ·intro w'
            go_simp
            with_reducible rfl
           rotate_left
           ·simp only [Act.put, List.setIfInBounds_toArray, List.set_cons_zero, List.set_cons_succ, i64_w, i32_w]
            rfl
           refine pure_ (i := 2) (N := some 26) (v := ?_) (a' := ?_) #[true, false, true, false, false, false, false, false, false, false, false, false] rfl rfl (any_of HT_.out (by kernel_rfl)) (fun _ _ _ h => h) (Or.inl ⟨by (first | rfl | (simp only [*]; rfl) | (simp [*]; done)), ?_⟩) ?_ ?_
           rotate_left
           ·intro w'
            go_simp
            with_reducible rfl
           rotate_left
           ·simp only [Act.put, List.setIfInBounds_toArray, List.set_cons_zero, List.set_cons_succ, i64_w, i32_w]
            rfl
           refine pure_ (i := 3) (N := some 27) (v := ?_) (a' := ?_) #[true, false, true, true, false, false, false, false, false, false, false, false] rfl rfl (any_of HT_.out (by kernel_rfl)) (fun _ _ _ h => h) (Or.inl ⟨by (first | rfl | (simp only [*]; rfl) | (simp [*]; done)), ?_⟩) ?_ ?_
           rotate_left
           ·intro w'
            go_simp
            with_reducible rfl
           rotate_left
           ·simp only [Act.put, List.setIfInBounds_toArray, List.set_cons_zero, List.set_cons_succ, i64_w, i32_w]
            rfl
           refine pure_ (i := 6) (N := some 30) (v := ?_) (a' := ?_) #[true, false, true, true, false, false, true, false, false, false, false, false] rfl rfl (any_of HT_.out (by kernel_rfl)) (fun _ _ _ h => h) (Or.inl ⟨by (first | rfl | (simp only [*]; rfl) | (simp [*]; done)), ?_⟩) ?_ ?_
           rotate_left
           ·intro w'
            go_simp
            with_reducible rfl
           rotate_left
           ·simp only [Act.put, List.setIfInBounds_toArray, List.set_cons_zero, List.set_cons_succ, i64_w, i32_w]
            rfl
           refine pure_ (i := 7) (N := some 31) (v := ?_) (a' := ?_) #[true, false, true, true, false, false, true, true, false, false, false, false] rfl rfl (any_of HT_.out (by kernel_rfl)) (fun _ _ _ h => h) (Or.inl ⟨by (first | rfl | (simp only [*]; rfl) | (simp [*]; done)), ?_⟩) ?_ ?_
           rotate_left
           ·intro w'
            go_simp
            with_reducible rfl
           rotate_left
           ·simp only [Act.put, List.setIfInBounds_toArray, List.set_cons_zero, List.set_cons_succ, i64_w, i32_w]
            rfl
           refine pure_ (i := 8) (N := some 32) (v := ?_) (a' := ?_) #[true, false, true, true, false, false, true, true, true, false, false, false] rfl rfl (any_of HT_.out (by kernel_rfl)) (fun _ _ _ h => h) (Or.inl ⟨by (first | rfl | (simp only [*]; rfl) | (simp [*]; done)), ?_⟩) ?_ ?_
           rotate_left
           ·intro w'
            go_simp
            with_reducible rfl
           rotate_left
           ·simp only [Act.put, List.setIfInBounds_toArray, List.set_cons_zero, List.set_cons_succ, i64_w, i32_w]
            rfl
           refine take_ (i := 1) (N := some 25) (v := ?_) (a' := ?_) #[true, true, true, true, false, false, true, true, true, false, false, false] rfl rfl (take_ofW HT_.out HW_.out (by kernel_rfl)) (fun _ _ _ h => h) (Or.inl ⟨by (first | rfl | (simp only [*]; rfl) | (simp [*]; done)), ?_⟩) hHeld ?_ ?_
           rotate_left
           ·rintro w' ⟨s0, s1, s2⟩
            go_simp
            with_reducible rfl
           rotate_left
           ·simp only [Act.put, List.setIfInBounds_toArray, List.set_cons_zero, List.set_cons_succ, i64_w, i32_w]
            rfl
           refine pure_ (i := 4) (N := some 28) (v := ?_) (a' := ?_) #[true, true, true, true, true, false, true, true, true, false, false, false] rfl rfl (any_of HT_.out (by kernel_rfl)) (fun _ _ _ h => h) (Or.inl ⟨by (first | rfl | (simp only [*]; rfl) | (simp [*]; done)), ?_⟩) ?_ ?_
           rotate_left
           ·intro w'
            go_simp
            with_reducible rfl
           rotate_left
           ·simp only [Act.put, List.setIfInBounds_toArray, List.set_cons_zero, List.set_cons_succ, i64_w, i32_w]
            rfl
           refine take_ (i := 5) (N := some 29) (v := ?_) (a' := ?_) #[true, true, true, true, true, true, true, true, true, false, false, false] rfl rfl (take_ofW HT_.out HW_.out (by kernel_rfl)) (fun _ _ _ h => h) (Or.inl ⟨by (first | rfl | (simp only [*]; rfl) | (simp [*]; done)), ?_⟩) hHeld ?_ ?_
           rotate_left
           ·rintro w' ⟨s0, s1, s2⟩
            go_simp
            with_reducible rfl
           rotate_left
           ·simp only [Act.put, List.setIfInBounds_toArray, List.set_cons_zero, List.set_cons_succ, i64_w, i32_w]
            rfl
           refine pure_ (i := 9) (N := some 33) (v := ?_) (a' := ?_) #[true, true, true, true, true, true, true, true, true, true, false, false] rfl rfl (any_of HT_.out (by kernel_rfl)) (fun _ _ _ h => h) (Or.inl ⟨by (first | rfl | (simp only [*]; rfl) | (simp [*]; done)), ?_⟩) ?_ ?_
           rotate_left
           ·intro w'
            go_simp
            with_reducible rfl
           rotate_left
           ·simp only [Act.put, List.setIfInBounds_toArray, List.set_cons_zero, List.set_cons_succ, i64_w, i32_w]
            rfl
           refine pure_ (i := 10) (N := some 34) (v := ?_) (a' := ?_) #[true, true, true, true, true, true, true, true, true, true, true, false] rfl rfl (any_of HT_.out (by kernel_rfl)) (fun _ _ _ h => h) (Or.inl ⟨by (first | rfl | (simp only [*]; rfl) | (simp [*]; done)), ?_⟩) ?_ ?_
           rotate_left
           ·intro w'
            go_simp
            with_reducible rfl
           rotate_left
           ·simp only [Act.put, List.setIfInBounds_toArray, List.set_cons_zero, List.set_cons_succ, i64_w, i32_w]
            rfl
           refine last_ (i := 11) (N := none) #[true, true, true, true, true, true, true, true, true, true, true, true] rfl rfl (one_of HT_.out (by kernel_rfl)) (by decide) (fun K hK => ?_)
           refine skip_ (w1 := ?_) (by rfl) rfl ?_ ?_
           rotate_left
           ·go_simp
            rfl
           refine hK.out _ _ ?_
           clear hK K
           refine done_ (done_of HT_.out (by kernel_rfl)) ?_
           try go_wp2
           go_roundg k1
           case measure => have := HK1.out; omega
           case rel => exact ⟨(wrap64 (x12_1 + 1)), (y126), (.slice (some ⟨go21, 0, none⟩) x124001_1.length co25), (by first | rfl | (simp; done) | (simp [*]; done)), H', ⟨by have := HK1.out; omega⟩, ⟨by (with_reducible repeat (first | apply Kd.R_alloc | apply Kd.R_drewN | apply Kd.R_drew)); exact HQ26.out⟩, ⟨by (with_reducible repeat (first | refine blk_drewN ?_ _ | refine blk_drew ?_ | refine blk_alloc ?_ _)); refine blk_far ?_ (by have h_ := Kd.R_ne HO_124001.out BK118.out (by decide); intro e_; exact h_ (by rw [e_]; rfl)) _; (with_reducible repeat (first | refine blk_drewN ?_ _ | refine blk_drew ?_ | refine blk_alloc ?_ _)); exact BK118.out⟩, ⟨by (with_reducible repeat (first | refine blk_drewN ?_ _ | refine blk_drew ?_ | refine blk_alloc ?_ _)); refine blk_far ?_ (by have h_ := Kd.R_ne HO_124001.out BK123.out (by decide); intro e_; exact h_ (by rw [e_]; rfl)) _; (with_reducible repeat (first | refine blk_drewN ?_ _ | refine blk_drew ?_ | refine blk_alloc ?_ _)); exact BK123.out⟩, ⟨by repeat (first | (with_reducible first | exact HB.out | apply below_alloc | apply pw_below_drewN | apply below_drew1 | refine below_set ?_ GB21.out | refine below_set ?_ GE118.out | refine below_set ?_ GE123.out) | exact HB.out)⟩⟩
          ·rw [if_neg c19] at H
           exact absurd H (by simp)
         ·rw [if_neg c17] at H
          exact absurd H (by simp)
        ·rw [if_neg c16] at H
         exact absurd H (by simp)
       ·rw [if_neg c14] at H
        have c14b0 : decide ((rd l1 x12_1) < t119) = false := decide_eq_false c14
        clear c14
        have H' := Aside0.mk H
        clear H
        have p124 : 0 ≤ (x12_1 : Int) := of_decide_eq_true (by first | (with_reducible assumption) | assumption)
        have q124 : x12_1 < (l1.length : Int) := of_decide_eq_true (by first | (with_reducible assumption) | assumption)
        obtain ⟨ad124, e124, hx124_0⟩ := Kd.at_int HR1.out x12_1 p124 q124
        cases e124
        replace hx124_0 := (HB.out.cell (World.block_lt_of_cell? w _ hx124_0)).trans hx124_0
        replace p124 := eq_true p124
        replace q124 := eq_true q124
        have hnb27 := NB123_118.out
        have hnc27 := NB118_123.out
        have hcz28_0 : wr.cell? ⟨gb123, 0, none⟩ = some (.int .i64 t119) := (blk_cell BK123.out 0).trans rfl
        have hcz28_1 : wr.cell? ⟨gb123, 1, none⟩ = some (u124001) := (blk_cell BK123.out 1).trans rfl
        have hfz28_0 := blk_frozen BK123.out 0
        have hfz28_1 := blk_frozen BK123.out 1
        go_wp2
        go_roundg k1
        case measure => have := HK1.out; omega
        case rel => exact ⟨(wrap64 (x12_1 + 1)), (x124001_1), (u124001), (by first | rfl | (simp; done) | (simp [*]; done)), H', ⟨by have := HK1.out; omega⟩, ⟨by (with_reducible repeat (first | apply Kd.R_alloc | apply Kd.R_drewN | apply Kd.R_drew)); exact HO_124001.out⟩, ⟨by (with_reducible repeat (first | refine blk_drewN ?_ _ | refine blk_drew ?_ | refine blk_alloc ?_ _)); exact BK118.out⟩, ⟨by (with_reducible repeat (first | refine blk_drewN ?_ _ | refine blk_drew ?_ | refine blk_alloc ?_ _)); exact BK123.out⟩, ⟨by repeat (first | (with_reducible first | exact HB.out | apply below_alloc | apply pw_below_drewN | apply below_drew1 | refine below_set ?_ GE118.out | refine below_set ?_ GE123.out) | exact HB.out)⟩⟩
      ·rw [if_neg c13] at H
       have c13b0 : decide (0 ≤ (rd l1 x12_1)) = false := decide_eq_false c13
       clear c13
       have H' := Aside0.mk H
       clear H
       have p124 : 0 ≤ (x12_1 : Int) := of_decide_eq_true (by first | (with_reducible assumption) | assumption)
       have q124 : x12_1 < (l1.length : Int) := of_decide_eq_true (by first | (with_reducible assumption) | assumption)
       obtain ⟨ad124, e124, hx124_0⟩ := Kd.at_int HR1.out x12_1 p124 q124
       cases e124
       replace hx124_0 := (HB.out.cell (World.block_lt_of_cell? w _ hx124_0)).trans hx124_0
       replace p124 := eq_true p124
       replace q124 := eq_true q124
       go_wp2
       go_roundg k1
       case measure => have := HK1.out; omega
       case rel => exact ⟨(wrap64 (x12_1 + 1)), (x124001_1), (u124001), (by first | rfl | (simp; done) | (simp [*]; done)), H', ⟨by have := HK1.out; omega⟩, ⟨by (with_reducible repeat (first | apply Kd.R_alloc | apply Kd.R_drewN | apply Kd.R_drew)); exact HO_124001.out⟩, ⟨by (with_reducible repeat (first | refine blk_drewN ?_ _ | refine blk_drew ?_ | refine blk_alloc ?_ _)); exact BK118.out⟩, ⟨by (with_reducible repeat (first | refine blk_drewN ?_ _ | refine blk_drew ?_ | refine blk_alloc ?_ _)); exact BK123.out⟩, ⟨by repeat (first | (with_reducible first | exact HB.out | apply below_alloc | apply pw_below_drewN | apply below_drew1 | refine below_set ?_ GE118.out | refine below_set ?_ GE123.out) | exact HB.out)⟩⟩
     ·rw [if_neg c12] at H
      exact absurd H (by simp)
    ·rw [if_neg c11] at H
     exact absurd H (by simp)
   ·rw [if_neg c10] at H
    have c10b0 : decide (x12_1 < (l1.length : Int)) = false := decide_eq_false c10
    clear c10
    simp only [Option.some.injEq, Prod.mk.injEq] at H
    obtain ⟨rfl, rfl⟩ := H
    have hnb29 := NB123_118.out
    have hnc29 := NB118_123.out
    have hcz30_0 : wr.cell? ⟨gb123, 0, none⟩ = some (.int .i64 t119) := (blk_cell BK123.out 0).trans rfl
    have hcz30_1 : wr.cell? ⟨gb123, 1, none⟩ = some (u124001) := (blk_cell BK123.out 1).trans rfl
    have hfz30_0 := blk_frozen BK123.out 0
    have hfz30_1 := blk_frozen BK123.out 1
    have hcz31_0 : wr.cell? ⟨gb118, 0, none⟩ = some (.int .i64 0) := (blk_cell BK118.out 0).trans rfl
    have hcz31_1 : wr.cell? ⟨gb118, 1, none⟩ = some (.slice none 0 0) := (blk_cell BK118.out 1).trans rfl
    have hfz31_0 := blk_frozen BK118.out 0
    have hfz31_1 := blk_frozen BK118.out 1
    obtain ⟨Ao32, co32, eo32⟩ := Kd.R_slice HO_124001.out
    subst eo32
    go_wp2
    refine bodyPost_ret (results_cell_row rfl _ _ gb118 25 #[.int .i64 t119, .slice Ao32 x124001_1.length co32] (0, 0) _ rfl (by (with_reducible repeat (first | refine blk_drewN ?_ _ | refine blk_drew ?_ | refine blk_alloc ?_ _)); refine blk_put (cs := #[.int .i64 t119, .slice none 0 0]) ?_ 1 _ rfl; (with_reducible repeat (first | refine blk_drewN ?_ _ | refine blk_drew ?_ | refine blk_alloc ?_ _)); refine blk_put (cs := #[.int .i64 0, .slice none 0 0]) ?_ 0 _ rfl; (with_reducible repeat (first | refine blk_drewN ?_ _ | refine blk_drew ?_ | refine blk_alloc ?_ _)); exact BK118.out) Tryd.underlying25 rfl (by kernel_rfl)) rfl ?_
    exact ⟨_, by first | rfl | (simp [errW_none, errW_some] <;> rfl) | (simp [*, errW_none, errW_some] <;> rfl), by (with_reducible repeat (first | apply Kd.R_alloc | apply Kd.R_drewN | apply Kd.R_drew)); exact Kd.R_mono (Kd.R_far (p := ⟨gb118, 1, none⟩) (Kd.R_far (p := ⟨gb118, 0, none⟩) (Kd.R_types HO_124001.out BK118.out (by decide)) (fun _ hk => hk.2) (.int .i64 t119)) (fun _ hk => hk.2) (.slice Ao32 x124001_1.length co32)) (fun _ hk => trivial), by repeat (first | (with_reducible first | exact HB.out | apply below_alloc | apply pw_below_drewN | apply below_drew1 | refine below_set ?_ GE118.out | refine below_set ?_ GE123.out) | exact HB.out)⟩

/-! ### varint_Encode: function 74 -/
def varint_Encode.l0 : Nat → Int → List Int → Option (List Int)
 | 0, _, _ => none
 | k + 1, x0, x3 => if x0 ≥ 128 then (if x3.length < 140737488355328 then (varint_Encode.l0 k (x0 / 128) (x3 ++ [Go.bits .or .u8 ((x0) % 256) 128])) else (none)) else (if x3.length < 140737488355328 then (some (x3 ++ [(x0) % 256])) else (none))
def varint_Encode.f (k : Nat) (a0 : Int) : Option (List Int) := varint_Encode.l0 k a0 ([] : List Int)
theorem varint_Encode.mono_l : ∀ k, (∀ y0 y1, LeO (varint_Encode.l0 k y0 y1) (varint_Encode.l0 (k + 1) y0 y1))
 | 0 => fun _ _ r h => by simp [varint_Encode.l0] at h
 | k + 1 => by
  have ih0 := varint_Encode.mono_l k
  ·intro y0 y1
   unfold varint_Encode.l0
   repeat' first
   | (with_reducible exact ih0 _ _)
   | (with_reducible exact LeO.refl _)
   | (with_reducible exact LeO.none _)
   | (with_reducible refine LeO.ite ?_ ?_)
   | (with_reducible refine LeO.bind ?_ (fun _ => ?_))
   | exact ih0 _ _
   | exact LeO.none _
   | refine LeO.ite ?_ ?_
   | refine LeO.bind ?_ (fun _ => ?_)
theorem varint_Encode.mono : ∀ a0 k, LeO (varint_Encode.f k a0) (varint_Encode.f (k + 1) a0) := by
 intro a0 k
 have ih0 := varint_Encode.mono_l k
 unfold varint_Encode.f
 repeat' first
   | (with_reducible exact ih0 _ _)
   | (with_reducible exact LeO.refl _)
   | (with_reducible exact LeO.none _)
   | (with_reducible refine LeO.ite ?_ ?_)
   | (with_reducible refine LeO.bind ?_ (fun _ => ?_))
   | exact ih0 _ _
   | exact LeO.none _
   | refine LeO.ite ?_ ?_
   | refine LeO.bind ?_ (fun _ => ?_)
set_option maxHeartbeats 8000000 in
set_option maxRecDepth 100000 in
theorem varint_Encode.calls (k : Nat) (a0 : Int) (r : List Int) (w : World) (h : varint_Encode.f k a0 = some r) :
  Calls Tryd.prog 74 #[.int .u64 a0] w fun e w' => ∃ v0_ : Value, e = .returned (v0_) ∧ Kd.R (Kd.int .u8) 5 w' w.heap.size (fun _ => True) v0_ r ∧ Below w.heap.size w w' := by
 have HB := Aside0.mk (Below.refl w.heap.size w)
 have H : (varint_Encode.l0 k a0 ([] : List Int)) = some r := h
 clear h
 have H' := Aside0.mk H
 clear H
 go_enter Tryd.func74, Tryd.ntmps74
 go_wp2
 go_loopg [0, 3] k (fun kq v0 v3 w' => ∃ (x0_1 : Int) (x3_1 : List Int), v0 = .int .u64 x0_1 ∧ Aside0 (varint_Encode.l0 kq x0_1 x3_1 = some r) ∧ Aside0 (kq ≤ k) ∧ Aside0 (Kd.R (Kd.int .u8) 5 w' w.heap.size (fun _ => True) v3 x3_1) ∧ Aside0 (Below w.heap.size w w'))
 case atStart => exact ⟨(a0), (([] : List Int)), (by first | rfl | (simp; done) | (simp [*]; done)), H', ⟨Nat.le_refl _⟩, ⟨by first | exact Kd.R_nil _ _ _ _ _ | exact Kd.N_nil _ _ _ _ _ | exact Kd.V_nil _ _ _ _ _ | exact Kd.Q_nil _ _ _ _ _ | exact Kd.S_nil _ _ _ _ _⟩, ⟨by repeat (first | (with_reducible first | exact HB.out | apply below_alloc | apply pw_below_drewN | apply below_drew1) | exact HB.out)⟩⟩
 case round =>
  clear H'
  obtain ⟨x0_1, x3_1, rfl, HA, HK1, HO_3, HB⟩ := hrel
  cases gk with
  | zero => exact absurd HA.out (by simp [varint_Encode.l0])
  | succ k1 =>
   have H := HA.out
   clear HA
   simp only [varint_Encode.l0] at H
   by_cases c2 : x0_1 ≥ 128
   ·rw [if_pos c2] at H
    have c2b0 : decide (128 ≤ x0_1) = true := decide_eq_true c2
    clear c2
    by_cases c3 : x3_1.length < 140737488355328
    ·rw [if_pos c3] at H
     have LMc3 := Aside0.mk c3
     clear c3
     obtain ⟨y127, hy127⟩ : ∃ y_ : List Int, y_ = (x3_1 ++ [Go.bits .or .u8 ((x0_1) % 256) 128]) := ⟨_, rfl⟩
     replace H : (varint_Encode.l0 k1 (x0_1 / 128) y127) = some r := by first | (rw [hy127]; with_reducible exact H) | (have H2_ := (Option.bind_some _ _).symm.trans H; rw [hy127]; with_reducible exact H2_) | (have H2_ := (Option.bind_some _ _).symm.trans H; with_reducible exact H2_) | with_reducible exact H | (rw [hy127]; exact H) | exact H
     have Ny127 := Aside0.mk hy127
     clear hy127
     have H' := Aside0.mk H
     clear H
     go_wp2_with (first | ((with_reducible refine gate_builtin (b := .append) (xs := #[.tmp 6, .tmp 10]) rfl ?_); at_builtin; refine Kd.R_append (Kd.int .u8) (w0 := w) w.heap.size rfl (.tmp 6) (.tmp 10) 39 5 (.int .u8 0) 1 rfl Tryd.underlying39 info5 rfl (by decide) (by omega) u3 x3_1 (Go.bits .or .u8 ((x0_1) % 256) 128) [.int .u8 (Go.bits .or .u8 ((x0_1) % 256) 128)] (fun _ => True) (fun _ => False) rfl rfl ?aP (fun _ hk => hk.elim) ?aF ?aO ?aB ?aS ?aL ?_; (case aP => exact rfl); (case aB => exact (by repeat (first | (with_reducible first | exact HB.out | apply below_alloc | apply pw_below_drewN | apply below_drew1) | exact HB.out))); (case aF => exact (fun _ _ => trivial)); (case aO => exact (by (with_reducible repeat (first | apply Kd.R_alloc | apply Kd.R_drewN | apply Kd.R_drew)); exact HO_3.out)); (case aS => exact (below_size (by repeat (first | (with_reducible first | exact HB.out | apply below_alloc | apply pw_below_drewN | apply below_drew1) | exact HB.out)))); (case aL => have := LMc3.out; omega); intro v128 w4 ho hb hg hat; rw [← Ny127.out] at ho; have n0_ := Aside0.mk (hb); have n1_ := Aside0.mk (ho); clear HB; clear HO_3; have HB := n0_; have HO129 := n1_; clear n0_ n1_; clear ho hb hg hat))
     go_roundg k1
     case measure => have := HK1.out; omega
     case rel => exact ⟨(x0_1 / 128), (y127), (by first | rfl | (simp; done) | (simp [*]; done)), H', ⟨by have := HK1.out; omega⟩, ⟨by (with_reducible repeat (first | apply Kd.R_alloc | apply Kd.R_drewN | apply Kd.R_drew)); exact HO129.out⟩, ⟨by repeat (first | (with_reducible first | exact HB.out | apply below_alloc | apply pw_below_drewN | apply below_drew1) | exact HB.out)⟩⟩
    ·rw [if_neg c3] at H
     exact absurd H (by simp)
   ·rw [if_neg c2] at H
    have c2b0 : decide (128 ≤ x0_1) = false := decide_eq_false c2
    clear c2
    by_cases c5 : x3_1.length < 140737488355328
    ·rw [if_pos c5] at H
     have LMc5 := Aside0.mk c5
     clear c5
     obtain ⟨y130, hy130⟩ : ∃ y_ : List Int, y_ = (x3_1 ++ [(x0_1) % 256]) := ⟨_, rfl⟩
     replace H : (some y130) = some r := by first | (rw [hy130]; with_reducible exact H) | (have H2_ := (Option.bind_some _ _).symm.trans H; rw [hy130]; with_reducible exact H2_) | (have H2_ := (Option.bind_some _ _).symm.trans H; with_reducible exact H2_) | with_reducible exact H | (rw [hy130]; exact H) | exact H
     have Ny130 := Aside0.mk hy130
     clear hy130
     obtain rfl := Option.some.inj H
     go_wp2_with (first | ((with_reducible refine gate_builtin (b := .append) (xs := #[.tmp 14, .tmp 17]) rfl ?_); at_builtin; refine Kd.R_append (Kd.int .u8) (w0 := w) w.heap.size rfl (.tmp 14) (.tmp 17) 39 5 (.int .u8 0) 1 rfl Tryd.underlying39 info5 rfl (by decide) (by omega) u3 x3_1 ((x0_1) % 256) [.int .u8 ((x0_1) % 256)] (fun _ => True) (fun _ => False) rfl rfl ?aP (fun _ hk => hk.elim) ?aF ?aO ?aB ?aS ?aL ?_; (case aP => exact rfl); (case aB => exact (by repeat (first | (with_reducible first | exact HB.out | apply below_alloc | apply pw_below_drewN | apply below_drew1) | exact HB.out))); (case aF => exact (fun _ _ => trivial)); (case aO => exact (by (with_reducible repeat (first | apply Kd.R_alloc | apply Kd.R_drewN | apply Kd.R_drew)); exact HO_3.out)); (case aS => exact (below_size (by repeat (first | (with_reducible first | exact HB.out | apply below_alloc | apply pw_below_drewN | apply below_drew1) | exact HB.out)))); (case aL => have := LMc5.out; omega); intro v131 w6 ho hb hg hat; rw [← Ny130.out] at ho; have n0_ := Aside0.mk (hb); have n1_ := Aside0.mk (ho); clear HB; clear HO_3; have HB := n0_; have HO132 := n1_; clear n0_ n1_; clear ho hb hg hat))
     go_ret
     exact ⟨_, by first | rfl | (simp [errW_none, errW_some] <;> rfl) | (simp [*, errW_none, errW_some] <;> rfl), by (with_reducible repeat (first | apply Kd.R_alloc | apply Kd.R_drewN | apply Kd.R_drew)); exact HO132.out, by repeat (first | (with_reducible first | exact HB.out | apply below_alloc | apply pw_below_drewN | apply below_drew1) | exact HB.out)⟩
    ·rw [if_neg c5] at H
     exact absurd H (by simp)

/-! ### bitset_Encode: function 34 -/
section
open Go.Shelf
attribute [local go_sem] Oper.semAt_some
theorem be_l0 : ∀ (f n : Nat) (acc : List Int), n < 128 ^ (f + 1) → acc.length + f < 1000 → Ev (fun k => varint_Encode.l0 k (n : Int) acc) (acc ++ venc n) := by
  intro f
  induction f with
  | zero =>
    intro n acc hn ha
    have h : n < 128 := by simpa using hn
    refine Ev.succ ?_
    simp only [varint_Encode.l0]
    refine Ev.neg (by omega) ?_
    refine Ev.pos (by omega) ?_
    exact Ev.eq (Ev.now _) (by rw [venc_lt h, show (n : Int) % 256 = n by omega])
  | succ f ih =>
    intro n acc hn ha
    have hn2 : n / 128 < 128 ^ (f + 1) := by
      rw [Nat.div_lt_iff_lt_mul (by decide), ← Nat.pow_succ]; exact hn
    clear hn
    refine Ev.succ ?_
    simp only [varint_Encode.l0]
    by_cases h : n < 128
    · refine Ev.neg (by omega) ?_
      refine Ev.pos (by omega) ?_
      exact Ev.eq (Ev.now _) (by rw [venc_lt h, show (n : Int) % 256 = n by omega])
    · refine Ev.pos (by omega) ?_
      refine Ev.pos (by omega) ?_
      have e : bits .or .u8 ((n : Int) % 256) 128 = ((128 + n % 128 : Nat) : Int) := by
        rw [or_128 _ (by omega) (by omega)]; omega
      have e2 : (n : Int) / 128 = ((n / 128 : Nat) : Int) := by omega
      rw [e, e2]
      have := ih (n / 128) (acc ++ [((128 + n % 128 : Nat) : Int)]) hn2 (by simp; omega)
      rw [venc_ge h]
      simpa using this
theorem be_ev (n : Nat) (h : n < 18446744073709551616) : Ev (fun k => varint_Encode.f k (n : Int)) (venc n) := by
  have hp : (128 : Nat) ^ (9 + 1) = 1180591620717411303424 := by decide
  have := be_l0 9 n [] (by omega) (by decide)
  unfold varint_Encode.f
  simpa using this
theorem be_at (n : Nat) (h : n < 18446744073709551616) : ∃ k, varint_Encode.f k (n : Int) = some (venc n) := by
  obtain ⟨k, hk⟩ := be_ev n h
  exact ⟨k, hk k (Nat.le_refl _)⟩
theorem be_info : (Tryd.prog.info? 5).map (fun i => (i.zero, i.size, i.bytes)) = some (some (.int .u8 0), 1, 1) := by kernel_rfl
theorem be_own {e base : Nat} {ok : Nat → Prop} {v : Value} {xs : List Int} {W : World} (h : Kd.R (Kd.int .u8) e W base ok v xs) : W.ownsRow base e 1 v xs.length (xs.map (Value.int .u8)) := Kd.own_of_R (enc := Value.int .u8) (h1 := fun _ => rfl) h
set_option maxHeartbeats 2000000 in
set_option maxRecDepth 100000 in
theorem be_flush (b n0 : Nat) (s : ES) (fv : Value) (W : World) (hE : EB b n0 s fv W) (hn : n0 ≤ b) (hr0 : 0 ≤ s.run) (hr1 : s.run < 4611686018427387904) (hP : s.P.length ≤ 1000000000) :
    Calls Tryd.prog 75 #[.pointer (some ⟨b, 0, none⟩), .pointer (some ⟨b + 1 + 1, 0, none⟩), .pointer (some ⟨b + 1, 0, none⟩)] W fun e W' => e = .returned (.tuple #[]) ∧ EB b n0 (eflush s) fv W' ∧ Below n0 W W' ∧ KeepsOthers W W' := by
  have hE0 := Aside0.mk hE
  obtain ⟨v, h0, hrow, h1, h2, h3, h4⟩ := hE
  obtain ⟨i0, hi, hz0, hz1, hz2⟩ := info_parts be_info
  obtain ⟨rn, hrn⟩ : ∃ rn : Nat, s.run = (rn : Int) := ⟨s.run.toNat, by omega⟩
  obtain ⟨ke, hke⟩ := be_at rn (by omega)
  have hvl := venc_len10 rn (by omega)
  have hvp := venc_pos rn
  obtain ⟨y, hy⟩ : ∃ y, y = venc rn := ⟨_, rfl⟩
  have hwr : IntKind.u64.wrap (rn : Int) = (rn : Int) := wraps_u64 _ (by omega) (by omega)
  have hfl : eflush s = ⟨s.P ++ y, !s.on, 0, s.pos⟩ := by unfold eflush; rw [hrn, Int.toNat_natCast, hy]
  rw [← hy] at hke hvl hvp
  have c0 := h0.cell
  have f0 := h0.frozen
  have c1 := h1.cell
  have f1 := h1.frozen
  have c2 := h2.cell
  have f2 := h2.frozen
  rw [hrn] at c2
  have H0 := Aside0.mk h0
  have H1 := Aside0.mk h1
  have H2 := Aside0.mk h2
  have H3 := Aside0.mk h3
  have H4 := Aside0.mk h4
  have HR := Aside0.mk hrow
  have HK := Aside0.mk hke
  have HL := Aside0.mk (And.intro hvl hvp)
  have HF := Aside0.mk hfl
  have HP := Aside0.mk hP
  clear h0 h1 h2 h3 h4 hrow hke hvl hvp hfl hy hr0 hr1 hP
  go_enter Tryd.func75, Tryd.ntmps75
  go_wp2
  have d0 := H0.out.cell
  go_region_law
    (first
      | (go_simp; go_at_call 74; refine (varint_Encode.calls ke (rn : Int) y _ HK.out).mono ?_; rintro e w1 ⟨v1, rfl, ho, hb⟩; have hb1 : Below W.heap.size W w1 := ((Below.refl W.heap.size W).drew).trans hb; have HB1 := Aside0.mk hb1; have e0 := (boxed_below H0.out hb1).cell; have f0 := (boxed_below H0.out hb1).frozen; have e2 := (boxed_below H2.out hb1).cell; rw [hrn] at e2; obtain ⟨g1, cp1, rfl, hg1, hg2, hcs⟩ := own_cells (be_own ho) (by have := HL.out; omega); have HC := Aside0.mk hcs; have HN := Aside0.mk (show (y.map (Value.int .u8)).length = y.length * 1 by simp); have HO := Aside0.mk (own_below2 HR.out hb1); clear ho hb hb1 hcs)
      | (refine step_append_lies _ rfl _ _ _ (by rfl) n0 5 i0 (.int .u8 0) 1 1 Tryd.underlying39 hi hz0 hz1 hz2 rfl (by decide) v s.P.length _ (by rfl) HO.out ⟨g1, 0, none⟩ y.length cp1 _ (by rfl) HN.out HC.out (by simp [Value.oneCell']) (by have := HL.out; omega) (by have := HL.out; have := HP.out; simp only [maxLen]; omega) (by have := HL.out; have := HP.out; omega) (by have := HB1.out.size; have := H4.out.lt; omega) _ rfl ?_; intro g cap w2 hown hgrow hat hlt; have HW := EB.grew (y := y) H0.out HR.out H1.out H2.out H3.out H4.out hn HB1.out hgrow hown; have HW := Aside0.mk HW; have B0 := boxed_below H0.out HB1.out; have q0 := B0.kept hgrow (B0.not_row (by decide) HO.out); have e3 := q0.cell; have f3 := q0.frozen; clear hown hgrow hat hlt B0 q0))
  all_goals (
    obtain ⟨hE3, hB3, hK3⟩ := HW.out
    obtain ⟨W3, hW3⟩ : ∃ W3, W3 = w2.setCell ⟨b, 0, none⟩ (Value.slice (some ⟨g, 0, none⟩) (s.P.length + y.length) cap) := ⟨_, rfl⟩
    rw [← hW3] at hE3 hB3 hK3 ⊢
    have g1 := hE3.cells.1
    have g2 := hE3.onCells
    have g3 := hE3.cells.2.1
    have g4 := hE3.cells.2.2.1
    clear hW3
    go_wp2
    go_end0
    refine ⟨rfl, ?_, (hB3.setCell (p := ⟨b + 1, 0, none⟩) (by simp; omega) _).setCell (p := ⟨b + 1 + 1, 0, none⟩) (by simp; omega) _, (hK3.trans (KeepsOthers.setCell _ _ _)).trans (KeepsOthers.setCell _ _ _)⟩
    rw [HF.out]
    exact (hE3.setOn _).setRun _)
theorem be_chain (w w1 : World) (N0 : Int) (A : Option Addr) (len cap : Nat) (v fv : Value) (hb : Below (w.alloc (.cells #[.int .i64 N0, .slice A len cap] 25)).heap.size (w.alloc (.cells #[.int .i64 N0, .slice A len cap] 25)) w1) :
    (((((w1.alloc (.cells #[v] 39)).alloc (.cells #[.bool false] 4)).alloc (.cells #[.int .i64 0] 3)).alloc (.cells #[fv] 1)).alloc (.cells #[.int .i64 0] 3)).cell? ⟨w.heap.size, 0, none⟩ = some (.int .i64 N0) ∧
    (((((w1.alloc (.cells #[v] 39)).alloc (.cells #[.bool false] 4)).alloc (.cells #[.int .i64 0] 3)).alloc (.cells #[fv] 1)).alloc (.cells #[.int .i64 0] 3)).cell? ⟨w.heap.size, 1, none⟩ = some (.slice A len cap) := by
  have q0 : (w.alloc (.cells #[.int .i64 N0, .slice A len cap] 25)).cell? ⟨w.heap.size, 0, none⟩ = some (.int .i64 N0) := (blk_cell (blk_new w (.cells #[.int .i64 N0, .slice A len cap] 25)) 0).trans rfl
  have q1 := r_new2 w (.int .i64 N0) (.slice A len cap) 25
  have h0 := (hb.cell (p := ⟨w.heap.size, 0, none⟩) (by simp)).trans q0
  have h1 := (hb.cell (p := ⟨w.heap.size, 1, none⟩) (by simp)).trans q1
  exact ⟨r_alloc _ (r_alloc _ (r_alloc _ (r_alloc _ (r_alloc _ h0)))), r_alloc _ (r_alloc _ (r_alloc _ (r_alloc _ (r_alloc _ h1))))⟩
def bitset_Encode.f (a0_0 : Int) (l0_1 : List Int) : Option (List Int) := if wokB l0_1 = true ∧ l0_1.length ≤ 20000 ∧ 0 ≤ a0_0 ∧ a0_0 ≤ 2000000 then some (bencI a0_0 (elsI l0_1 (64 * l0_1.length))) else none
set_option maxHeartbeats 2000000 in
set_option maxRecDepth 100000 in
theorem bitset_Encode.calls (a0_0 : Int) (A0_1 : Option Addr) (c0_1 : Nat) (l0_1 : List Int) (r : List Int) (w : World) (hr0_1 : Kd.C (Kd.int .u64) w A0_1 l0_1.length l0_1) (hc0_1 : l0_1.length ≤ c0_1) (hT : TabAt w) (h : bitset_Encode.f a0_0 l0_1 = some r) :
    Calls Tryd.prog 34 #[.agg #[.int .i64 a0_0, .slice A0_1 l0_1.length c0_1]] w fun e w' => ∃ v0_ : Value, e = .returned (v0_) ∧ Kd.R (Kd.int .u8) 5 w' w.heap.size (fun _ => True) v0_ r ∧ Below w.heap.size w w' := by
  unfold bitset_Encode.f at h
  by_cases hsz : wokB l0_1 = true ∧ l0_1.length ≤ 20000 ∧ 0 ≤ a0_0 ∧ a0_0 ≤ 2000000
  case neg => rw [if_neg hsz] at h; cases h
  rw [if_pos hsz] at h
  obtain ⟨s1, s2, s3, s4⟩ := hsz
  have hrr := Option.some.inj h
  clear h
  obtain ⟨xs, hxs⟩ : ∃ xs, xs = elsI l0_1 (64 * l0_1.length) := ⟨_, rfl⟩
  have hpw := elsI_pw l0_1 (64 * l0_1.length)
  have hrg := elsI_rng l0_1 (64 * l0_1.length)
  have hxl : xs.length ≤ 64 * l0_1.length := by rw [hxs]; unfold elsI; rw [List.length_map]; exact els_len_le _ 0
  rw [← hxs] at hpw hrg hrr
  have HX := Aside0.mk (And.intro hpw hrg)
  have HRR := Aside0.mk hrr
  clear hpw hrg hrr
  have hwok := wokB_wok s1
  have hwds := words_at hr0_1
  have hpos := TabAt.pos hT
  have hro : Fence.wide.round = none := rfl
  obtain ⟨nn0, rfl⟩ := Int.eq_ofNat_of_zero_le s3
  obtain ⟨ke, hke⟩ := be_at nn0 (by omega)
  have hvp := venc_pos nn0
  obtain ⟨y, hy⟩ : ∃ y, y = venc nn0 := ⟨_, rfl⟩
  rw [← hy] at hke hvp
  have HK := Aside0.mk hke
  have HV := Aside0.mk hvp
  have HY := Aside0.mk hy
  have HXS := Aside0.mk hxs
  clear hke hvp hy hxs
  have hwr : IntKind.u64.wrap (nn0 : Int) = (nn0 : Int) := wraps_u64 _ (by omega) (by omega)
  refine (callsIn_wide (n := 8)).1 ?_
  refine callsIn_of_wp_marks Tryd.func34 rfl trivial ?_ hro
  simp only [Tryd.ntmps34, List.size_toArray, List.length_cons, List.length_nil, Nat.reduceAdd, Nat.reduceSub, Array.replicate_succ, Array.replicate_zero, List.push_toArray, List.append_toArray, List.nil_append, List.cons_append]
  gi_wp2_with (first
    | (refine ⟨trivial, ?_⟩; gi_at_call 74; refine (callsIn_wide.2 (varint_Encode.calls ke (nn0 : Int) y _ HK.out)).mono ?_; rintro e w1 ⟨v1, rfl, ho, hb⟩; obtain ⟨g1, cp1, rfl, hg1, hg2, hcs⟩ := own_cells (be_own ho) (by have := HV.out; omega); have HO := Aside0.mk (be_own ho); have HB := Aside0.mk hb; have z0 := be_chain w w1 (nn0 : Int) A0_1 l0_1.length c0_1 (.slice (some ⟨g1, 0, none⟩) y.length cp1) (.func (.func 75) #[] #[.pointer (some ⟨w1.heap.size, 0, none⟩), .pointer (some ⟨w1.heap.size + 1 + 1, 0, none⟩), .pointer (some ⟨w1.heap.size + 1, 0, none⟩)]) HB.out; have z1 := z0.1; have z2 := z0.2; clear z0 ho hb hcs)
    | (refine ⟨trivial, ?_⟩; gi_at_call 59; refine (all_in Fence.wide 7 trivial hro (nn0 : Int) A0_1 l0_1.length c0_1 _).mono ?_; rintro e w' ⟨rfl, rfl⟩))
  obtain ⟨b, hb⟩ : ∃ b, b = w1.heap.size := ⟨_, rfl⟩
  have hsz1 : w.heap.size + 1 ≤ b := by have := HB.out.size; simp at this; omega
  obtain ⟨fv, hfv⟩ : ∃ fv, fv = Value.func (.func 75) #[] #[.pointer (some ⟨b, 0, none⟩), .pointer (some ⟨b + 1 + 1, 0, none⟩), .pointer (some ⟨b + 1, 0, none⟩)] := ⟨_, rfl⟩
  rw [← hb] at z1 z2 ⊢
  rw [← hfv] at z1 z2 ⊢
  obtain ⟨ag, hag⟩ : ∃ ag, ag = Value.slice (some ⟨g1, 0, none⟩) y.length cp1 := ⟨_, rfl⟩
  have b0 := Boxed.new w1 39 ag
  have b1 := Boxed.new (w1.alloc (.cells #[ag] 39)) 4 (.bool false)
  have b2 := Boxed.new ((w1.alloc (.cells #[ag] 39)).alloc (.cells #[.bool false] 4)) 3 (.int .i64 0)
  have b3 := Boxed.new (((w1.alloc (.cells #[ag] 39)).alloc (.cells #[.bool false] 4)).alloc (.cells #[.int .i64 0] 3)) 1 fv
  have b4 := Boxed.new ((((w1.alloc (.cells #[ag] 39)).alloc (.cells #[.bool false] 4)).alloc (.cells #[.int .i64 0] 3)).alloc (.cells #[fv] 1)) 3 (.int .i64 0)
  have b5 := r_new2 (((((w1.alloc (.cells #[ag] 39)).alloc (.cells #[.bool false] 4)).alloc (.cells #[.int .i64 0] 3)).alloc (.cells #[fv] 1)).alloc (.cells #[.int .i64 0] 3)) (.int .i64 (nn0 : Int)) (.slice A0_1 l0_1.length c0_1) 25
  have z3 := r_alloc (.cells #[.int .i64 (nn0 : Int), .slice A0_1 l0_1.length c0_1] 25) z1
  simp only [World.size_alloc, ← hb] at b0 b1 b2 b3 b4 b5
  have HO2 := HO.out
  rw [World.size_alloc, ← hag] at HO2
  have hE0 : EB b (w.heap.size + 1) (efold (nn0 : Int) []) fv ((((((w1.alloc (.cells #[ag] 39)).alloc (.cells #[.bool false] 4)).alloc (.cells #[.int .i64 0] 3)).alloc (.cells #[fv] 1)).alloc (.cells #[.int .i64 0] 3)).alloc (.cells #[.int .i64 (nn0 : Int), .slice A0_1 l0_1.length c0_1] 25)) := by
    refine EB.alloc ⟨ag, (((b0.alloc _).alloc _).alloc _).alloc _, ?_, ((b1.alloc _).alloc _).alloc _, (b2.alloc _).alloc _, b3.alloc _, b4⟩ _
    have e0 : (efold (nn0 : Int) []).P = y := by rw [HY.out]; simp [efold]
    rw [e0]
    exact ((((HO2.alloc _).alloc _).alloc _).alloc _).alloc _
  have hBw : Below w.heap.size w ((((((w1.alloc (.cells #[ag] 39)).alloc (.cells #[.bool false] 4)).alloc (.cells #[.int .i64 0] 3)).alloc (.cells #[fv] 1)).alloc (.cells #[.int .i64 0] 3)).alloc (.cells #[.int .i64 (nn0 : Int), .slice A0_1 l0_1.length c0_1] 25)) := by
    have q1 : Below w.heap.size w w1 := ((Below.refl w.heap.size w).alloc (Nat.le_refl _) _).trans (HB.out.mono (by simp))
    exact (((((q1.alloc (by omega) _).alloc (by simp; omega) _).alloc (by simp; omega) _).alloc (by simp; omega) _).alloc (by simp; omega) _).alloc (by simp; omega) _
  have hsz0 : ((((((w1.alloc (.cells #[ag] 39)).alloc (.cells #[.bool false] 4)).alloc (.cells #[.int .i64 0] 3)).alloc (.cells #[fv] 1)).alloc (.cells #[.int .i64 0] 3)).alloc (.cells #[.int .i64 (nn0 : Int), .slice A0_1 l0_1.length c0_1] 25)).heap.size = b + 6 := by simp [hb]
  rw [← hag] at z3 ⊢
  obtain ⟨W0, hW0⟩ : ∃ W0, W0 = ((((((w1.alloc (.cells #[ag] 39)).alloc (.cells #[.bool false] 4)).alloc (.cells #[.int .i64 0] 3)).alloc (.cells #[fv] 1)).alloc (.cells #[.int .i64 0] 3)).alloc (.cells #[.int .i64 (nn0 : Int), .slice A0_1 l0_1.length c0_1] 25)) := ⟨_, rfl⟩
  rw [← hW0] at b5 hE0 hBw hsz0 z3 ⊢
  clear hW0 b0 b1 b2 b3 b4 z1 z2 HO2 hb hag
  subst hfv
  refine wpIn_rangeFunc_ownG hro (by decide) (gf := 81) (lb := #[.pointer (some ⟨b + 1 + 1 + 1 + 1 + 1, 0, none⟩)]) rfl trivial (enters_of Tryd.func81 (by kernel_rfl) rfl)
    (all_stopsR Fence.wide 7 trivial trivial hro (by decide) (b + 1 + 1 + 1 + 1 + 1) (w.heap.size + 1) l0_1.length c0_1 A0_1 l0_1 hwok rfl (by omega) (by omega) W0 (by omega) (by omega) b5 (fun j hj => by
      obtain ⟨ad, e1, e2, e3⟩ := hwds j hj
      exact ⟨ad, e1, by omega, (hBw.cell (p := ad.add j) ((addr_block ad j).symm ▸ e2)).trans e3⟩) (hT.below hBw hpos)) belowK_t (belowK_b (by omega)) (Below.refl _ _) (fun _ => rfl)
    (fun pre W => EB b (w.heap.size + 1) (efold (nn0 : Int) (pre.map (·.1))) (Value.func (.func 75) #[] #[.pointer (some ⟨b, 0, none⟩), .pointer (some ⟨b + 1 + 1, 0, none⟩), .pointer (some ⟨b + 1, 0, none⟩)]) W ∧ Below (w.heap.size + 1) W0 W)
    (fun _ _ _ => False)
    (OwnFrom.and (Own.from (EB.own b (w.heap.size + 1) (fun pre : List (SubR (64 * l0_1.length)) => efold (nn0 : Int) (pre.map (·.1))) (Value.func (.func 75) #[] #[.pointer (some ⟨b, 0, none⟩), .pointer (some ⟨b + 1 + 1, 0, none⟩), .pointer (some ⟨b + 1, 0, none⟩)])) _) (ownFrom_below (by omega) (by omega)))
    (fun _ _ _ _ _ hs _ _ => hs)
    ⟨hE0, Below.refl _ _⟩
    (fun x => { tmps := #[.agg #[.int .i64 (nn0 : Int), .slice A0_1 l0_1.length c0_1], .pointer (some ⟨w.heap.size, 0, none⟩), .slice none 0 0, .pointer (some ⟨b, 0, none⟩), .pointer (some ⟨b + 1, 0, none⟩), .pointer (some ⟨b + 1 + 1, 0, none⟩), .pointer (some ⟨b + 1 + 1 + 1, 0, none⟩), .pointer (some ⟨b + 1 + 1 + 1 + 1, 0, none⟩), .int .i64 x.1, .pointer (some ⟨w.heap.size, 0, none⟩), .int .i64 (nn0 : Int), .int .u64 (nn0 : Int), ag, (Value.func (.func 75) #[] #[.pointer (some ⟨b, 0, none⟩), .pointer (some ⟨b + 1 + 1, 0, none⟩), .pointer (some ⟨b + 1, 0, none⟩)]), .agg #[.int .i64 (nn0 : Int), .slice A0_1 l0_1.length c0_1], .func (.func 81) #[] #[.pointer (some ⟨b + 1 + 1 + 1 + 1 + 1, 0, none⟩)], .int .i64 x.1, undef, undef, undef, undef, undef, undef, undef, undef, undef, undef, undef, undef, undef, undef, undef, undef, undef, undef, undef, undef, undef, undef, undef, undef, undef, undef, undef, undef, undef, undef, undef, undef, undef, undef, undef, undef, undef, undef], defers := [] }) ?assign ?body ?done ?stop
  case assign =>
    intro l x W K hK
    gi_wp2
    exact hK
  case body =>
    rintro l pre ⟨x, hx⟩ W ⟨hE, hB⟩ hlt
    have hpl : pre.length ≤ 1300000 := by
      have h1 := elsI_len2 l0_1 (64 * l0_1.length)
      omega
    obtain ⟨hi1, hi2, hi3, hi4, hi5⟩ := efold_inv (nn0 : Int) (64 * l0_1.length) (by omega) (by omega) (by omega) (pre.map (·.1)) (fun z hz => by
      obtain ⟨u, _, rfl⟩ := List.mem_map.1 hz
      exact u.2) (by rw [List.length_map]; omega)
    rw [List.length_map] at hi4 hi5
    have hst : efold (nn0 : Int) ((pre ++ [(⟨x, hx⟩ : SubR (64 * l0_1.length))]).map (·.1)) = estep (efold (nn0 : Int) (pre.map (·.1))) x := by
      rw [List.map_append, List.map_cons, List.map_nil, efold_snoc]
    obtain ⟨s, hs⟩ : ∃ s, s = efold (nn0 : Int) (pre.map (·.1)) := ⟨_, rfl⟩
    rw [← hs] at hE hi1 hi2 hi3 hi4 hi5 hst
    obtain ⟨hx0, hx1⟩ := hx
    have ew3 : IntKind.i64.wrap (x + 1) = x + 1 := IntWalk.i64_in _ (by omega)
    obtain ⟨c1, c2, c3, c4, c5, c6, _⟩ := hE.cells
    have HE := Aside0.mk hE
    have HBB := Aside0.mk hB
    have HST := Aside0.mk hst
    have HI := Aside0.mk (And.intro hi3 (And.intro hi4 hi5))
    have HPL := Aside0.mk hpl
    have HI2 := Aside0.mk (show 0 ≤ s.pos ∧ s.pos ≤ 2000000 ∧ x ≤ 2000000 by omega)
    have hn0 : w.heap.size + 1 ≤ b := hsz1
    have HSZ := Aside0.mk hn0
    clear hE hB hst hs hn0 hpos hT hwds hwok b5 z3 hsz0 hBw hE0 s1 s2 s3 s4 hxl hwr hr0_1 hc0_1 hlt hpl hi5 hi4 hi3 hi2 hi1 hsz1
    by_cases d1 : s.pos < x
    · have e1 : decide (s.pos < x) = true := decide_eq_true d1
      obtain ⟨d, hd⟩ : ∃ d, d = x - s.pos := ⟨_, rfl⟩
      have hd0 : 0 ≤ d ∧ d ≤ 2000000 := by have := HI2.out; omega
      have ewd : IntKind.i64.wrap (x - s.pos) = d := by rw [IntWalk.i64_in _ (by omega), hd]
      have HD := Aside0.mk hd
      have HD0 := Aside0.mk hd0
      by_cases d2 : s.on = true
      · rw [d2] at c1
        have e1s : estep s x = ⟨s.P ++ venc s.run.toNat ++ venc d.toNat, true, 1, x + 1⟩ := by
          unfold estep
          rw [eadv_inv s x d1, if_pos d2]
          simp [eset, eflush, hd]
        have HES := Aside0.mk e1s
        have ewr : IntKind.i64.wrap d = d := IntWalk.i64_in _ (by omega)
        clear hd hd0 e1s
        gi_wp2_with (first
          | (refine ⟨trivial, ?_⟩; gi_at_call 75; with_reducible refine (CallsIn.inRound l (callsIn_wide.2 (be_flush b (w.heap.size + 1) s (Value.func (.func 75) #[] #[.pointer (some ⟨b, 0, none⟩), .pointer (some ⟨b + 1 + 1, 0, none⟩), .pointer (some ⟨b + 1, 0, none⟩)]) _ HE.out HSZ.out HI.out.1 (by have := HI.out; have := HPL.out; omega) (by have := HI.out; have := HPL.out; omega)))).mono ?_; rintro e w1_ ⟨rfl, hf1, hf2, hf3⟩; have HF1 := Aside0.mk (And.intro hf1 (And.intro hf2 hf3)); have h1_ := EB.setRun hf1 d; simp only [eflush, d2, Bool.not_true] at h1_; obtain ⟨k11, k12, k13, k14, k15, k16, _⟩ := EB.cells (hf1); obtain ⟨k21, k22, k23, k24, k25, k26, _⟩ := EB.cells (h1_); simp only [eflush, d2, Bool.not_true] at k11 k12 k15; have HG1 := Aside0.mk h1_; clear h1_; clear hf1 hf2 hf3)
          | (refine ⟨trivial, ?_⟩; gi_at_call 75; with_reducible refine (CallsIn.inRound l (callsIn_wide.2 (be_flush b (w.heap.size + 1) ⟨s.P ++ venc s.run.toNat, false, d, s.pos⟩ (Value.func (.func 75) #[] #[.pointer (some ⟨b, 0, none⟩), .pointer (some ⟨b + 1 + 1, 0, none⟩), .pointer (some ⟨b + 1, 0, none⟩)]) _ HG1.out HSZ.out HD0.out.1 (show d < 4611686018427387904 by have := HD0.out; omega) (show (s.P ++ venc s.run.toNat).length ≤ 1000000000 by have := HI.out; have := HPL.out; have := venc_len10 s.run.toNat (by omega); simp only [List.length_append]; omega)))).mono ?_; rintro e w2_ ⟨rfl, hf1, hf2, hf3⟩; have HF2 := Aside0.mk (And.intro hf1 (And.intro hf2 hf3)); have h2_ := EB.setRun hf1 1; simp only [eflush, Bool.not_false] at h2_; have h3_ := EB.setPos h2_ (x + 1); obtain ⟨k31, k32, k33, k34, k35, k36, _⟩ := EB.cells (hf1); obtain ⟨k41, k42, k43, k44, k45, k46, _⟩ := EB.cells (h2_); simp only [eflush, Bool.not_false] at k31 k32 k35; have HG2 := Aside0.mk h3_; clear h2_ h3_; clear hf1 hf2 hf3))
        exact ⟨(((((HF1.out.2.2.trans (KeepsOthers.setCell _ _ _)).trans HF2.out.2.2).trans (KeepsOthers.setCell _ _ _)).trans (KeepsOthers.setCell _ _ _))).from _, ((((HF1.out.2.1).setCell (p := ⟨b + 1 + 1, 0, none⟩) (by have := HSZ.out; simp; omega) _).trans HF2.out.2.1).setCell (p := ⟨b + 1 + 1, 0, none⟩) (by have := HSZ.out; simp; omega) _).setCell (p := ⟨b + 1 + 1 + 1 + 1, 0, none⟩) (by have := HSZ.out; simp; omega) _, Eq.mpr (congrArg (fun s_ => EB b (w.heap.size + 1) s_ _ _) (HST.out.trans HES.out)) HG2.out, HBB.out.trans (((((HF1.out.2.1).setCell (p := ⟨b + 1 + 1, 0, none⟩) (by have := HSZ.out; simp; omega) _).trans HF2.out.2.1).setCell (p := ⟨b + 1 + 1, 0, none⟩) (by have := HSZ.out; simp; omega) _).setCell (p := ⟨b + 1 + 1 + 1 + 1, 0, none⟩) (by have := HSZ.out; simp; omega) _)⟩
      · have d3 : s.on = false := by simpa using d2
        rw [d3] at c1
        obtain ⟨rr, hrr⟩ : ∃ rr, rr = s.run + d := ⟨_, rfl⟩
        have HRD := Aside0.mk hrr
        have ewr : IntKind.i64.wrap (s.run + d) = rr := by rw [hrr]; exact IntWalk.i64_in _ (by have := HI.out; have := HPL.out; omega)
        have e1s : estep s x = ⟨s.P ++ venc rr.toNat, true, 1, x + 1⟩ := by
          unfold estep
          rw [eadv_inv s x d1, if_neg d2, ← hd, ← hrr]
          simp [eset, eflush]
        have HES := Aside0.mk e1s
        have h1_ := EB.setRun HE.out rr
        rw [d3] at h1_
        obtain ⟨k11, k12, k13, k14, k15, k16, _⟩ := EB.cells (h1_)
        simp only at k11 k12 k15
        have HG1 := Aside0.mk h1_
        clear hd hd0 e1s hrr h1_
        gi_wp2_with (first
          | (refine ⟨trivial, ?_⟩; gi_at_call 75; with_reducible refine (CallsIn.inRound l (callsIn_wide.2 (be_flush b (w.heap.size + 1) ⟨s.P, false, rr, s.pos⟩ (Value.func (.func 75) #[] #[.pointer (some ⟨b, 0, none⟩), .pointer (some ⟨b + 1 + 1, 0, none⟩), .pointer (some ⟨b + 1, 0, none⟩)]) _ HG1.out HSZ.out (show 0 ≤ rr by have := HI.out; have := HD0.out; have := HRD.out; omega) (show rr < 4611686018427387904 by have := HI.out; have := HPL.out; have := HD0.out; have := HRD.out; omega) (show s.P.length ≤ 1000000000 by have := HI.out; have := HPL.out; omega)))).mono ?_; rintro e w2_ ⟨rfl, hf1, hf2, hf3⟩; have HF2 := Aside0.mk (And.intro hf1 (And.intro hf2 hf3)); have h2_ := EB.setRun hf1 1; simp only [eflush, Bool.not_false] at h2_; have h3_ := EB.setPos h2_ (x + 1); obtain ⟨k31, k32, k33, k34, k35, k36, _⟩ := EB.cells (hf1); obtain ⟨k41, k42, k43, k44, k45, k46, _⟩ := EB.cells (h2_); simp only [eflush, Bool.not_false] at k31 k32 k35; have HG2 := Aside0.mk h3_; clear h2_ h3_; clear hf1 hf2 hf3))
        exact ⟨(((((KeepsOthers.setCell _ _ _).trans HF2.out.2.2).trans (KeepsOthers.setCell _ _ _)).trans (KeepsOthers.setCell _ _ _))).from _, ((((Below.refl (w.heap.size + 1) W).setCell (p := ⟨b + 1 + 1, 0, none⟩) (by have := HSZ.out; simp; omega) _).trans HF2.out.2.1).setCell (p := ⟨b + 1 + 1, 0, none⟩) (by have := HSZ.out; simp; omega) _).setCell (p := ⟨b + 1 + 1 + 1 + 1, 0, none⟩) (by have := HSZ.out; simp; omega) _, Eq.mpr (congrArg (fun s_ => EB b (w.heap.size + 1) s_ _ _) (HST.out.trans HES.out)) HG2.out, HBB.out.trans (((((Below.refl (w.heap.size + 1) W).setCell (p := ⟨b + 1 + 1, 0, none⟩) (by have := HSZ.out; simp; omega) _).trans HF2.out.2.1).setCell (p := ⟨b + 1 + 1, 0, none⟩) (by have := HSZ.out; simp; omega) _).setCell (p := ⟨b + 1 + 1 + 1 + 1, 0, none⟩) (by have := HSZ.out; simp; omega) _)⟩
    · have e1 : decide (s.pos < x) = false := decide_eq_false d1
      by_cases d2 : s.on = true
      · rw [d2] at c1
        have ew1 : IntKind.i64.wrap (s.run + 1) = s.run + 1 := IntWalk.i64_in _ (by have := HI.out; have := HPL.out; omega)
        have e1s : estep s x = ⟨s.P, s.on, s.run + 1, x + 1⟩ := by
          unfold estep
          rw [eadv_same s x d1, eset, if_pos d2]
        gi_wp2
        exact ⟨((KeepsOthers.setCell _ _ _).trans (KeepsOthers.setCell _ _ _)).from _, ((Below.refl (w.heap.size + 1) W).setCell (p := ⟨b + 1 + 1, 0, none⟩) (by have := HSZ.out; simp; omega) _).setCell (p := ⟨b + 1 + 1 + 1 + 1, 0, none⟩) (by have := HSZ.out; simp; omega) _, Eq.mpr (congrArg (fun s_ => EB b (w.heap.size + 1) s_ _ _) (HST.out.trans e1s)) ((HE.out.setRun _).setPos _), (HBB.out.setCell (p := ⟨b + 1 + 1, 0, none⟩) (by have := HSZ.out; simp; omega) _).setCell (p := ⟨b + 1 + 1 + 1 + 1, 0, none⟩) (by have := HSZ.out; simp; omega) _⟩
      · have d3 : s.on = false := by simpa using d2
        rw [d3] at c1
        have e1s : estep s x = ⟨s.P ++ venc s.run.toNat, true, 1, x + 1⟩ := by
          unfold estep
          rw [eadv_same s x d1]
          simp [eset, eflush, d3]
        have HES := Aside0.mk e1s
        clear e1s
        gi_wp2_with (first
          | (refine ⟨trivial, ?_⟩; gi_at_call 75; with_reducible refine (CallsIn.inRound l (callsIn_wide.2 (be_flush b (w.heap.size + 1) s (Value.func (.func 75) #[] #[.pointer (some ⟨b, 0, none⟩), .pointer (some ⟨b + 1 + 1, 0, none⟩), .pointer (some ⟨b + 1, 0, none⟩)]) _ HE.out HSZ.out HI.out.1 (by have := HI.out; have := HPL.out; omega) (show s.P.length ≤ 1000000000 by have := HI.out; have := HPL.out; omega)))).mono ?_; rintro e w2_ ⟨rfl, hf1, hf2, hf3⟩; have HF2 := Aside0.mk (And.intro hf1 (And.intro hf2 hf3)); have h2_ := EB.setRun hf1 1; simp only [eflush, d3, Bool.not_false] at h2_; have h3_ := EB.setPos h2_ (x + 1); obtain ⟨k31, k32, k33, k34, k35, k36, _⟩ := EB.cells (hf1); obtain ⟨k41, k42, k43, k44, k45, k46, _⟩ := EB.cells (h2_); simp only [eflush, d3, Bool.not_false] at k31 k32 k35; have HG2 := Aside0.mk h3_; clear h2_ h3_; clear hf1 hf2 hf3))
        exact ⟨(((HF2.out.2.2.trans (KeepsOthers.setCell _ _ _)).trans (KeepsOthers.setCell _ _ _))).from _, ((HF2.out.2.1).setCell (p := ⟨b + 1 + 1, 0, none⟩) (by have := HSZ.out; simp; omega) _).setCell (p := ⟨b + 1 + 1 + 1 + 1, 0, none⟩) (by have := HSZ.out; simp; omega) _, Eq.mpr (congrArg (fun s_ => EB b (w.heap.size + 1) s_ _ _) (HST.out.trans HES.out)) HG2.out, HBB.out.trans (((HF2.out.2.1).setCell (p := ⟨b + 1 + 1, 0, none⟩) (by have := HSZ.out; simp; omega) _).setCell (p := ⟨b + 1 + 1 + 1 + 1, 0, none⟩) (by have := HSZ.out; simp; omega) _)⟩
  case done =>
    rintro D ys W hD hys ⟨hE, hB⟩ hK
    have hys2 : ys.map (·.1) = xs := hys.trans HXS.out.symm
    obtain ⟨hi1, hi2, hi3, hi4, hi5⟩ := efold_inv (nn0 : Int) (64 * l0_1.length) (by omega) (by omega) (by omega) xs HX.out.2 (by omega)
    rw [hys2] at hE
    obtain ⟨s, hs⟩ : ∃ s, s = efold (nn0 : Int) xs := ⟨_, rfl⟩
    rw [← hs] at hE hi1 hi2 hi3 hi4 hi5
    have HSS := Aside0.mk hs
    obtain ⟨c1, c2, c3, c4, c5, c6, _⟩ := hE.cells
    have cN := (hB.cell (p := ⟨w.heap.size, 0, none⟩) (by simp)).trans z3
    have HE := Aside0.mk hE
    have HI := Aside0.mk (And.intro hi3 (And.intro hi4 hi5))
    have HI2 := Aside0.mk (show 0 ≤ s.pos ∧ s.pos ≤ 2000000 ∧ xs.length ≤ 1300000 ∧ nn0 ≤ 2000000 by omega)
    have HSZ := Aside0.mk hsz1
    have HD := Aside0.mk (show w.heap.size + 1 ≤ D by omega)
    have HBT := Aside0.mk (hBw.trans (hB.mono (Nat.le_succ _)))
    have HXL := Aside0.mk hxl
    clear hE hB hs hpos hT hwds hwok b5 z3 hsz0 hBw hE0 s1 s2 s3 s4 hxl hwr hr0_1 hc0_1 hi5 hi4 hi3 hi2 hi1 hsz1 hys hys2 hD
    by_cases d1 : s.pos < (nn0 : Int)
    · have D1 := Aside0.mk d1
      have e1 : decide (s.pos < (nn0 : Int)) = true := decide_eq_true d1
      have hN : (0 : Int) < (nn0 : Int) := by have := HI2.out; omega
      have hNd : decide ((0 : Int) < (nn0 : Int)) = true := decide_eq_true hN
      have hNp : 0 < nn0 := by omega
      have HNN := Aside0.mk hNp
      obtain ⟨d, hd⟩ : ∃ d, d = (nn0 : Int) - s.pos := ⟨_, rfl⟩
      have hd0 : 0 ≤ d ∧ d ≤ 2000000 := by have := HI2.out; omega
      have ewd : IntKind.i64.wrap ((nn0 : Int) - s.pos) = d := by rw [IntWalk.i64_in _ (by omega), hd]
      have HDD := Aside0.mk hd
      have HD0 := Aside0.mk hd0
      by_cases d2 : s.on = true
      · have D2 := Aside0.mk d2
        rw [d2] at c1
        have ewr : IntKind.i64.wrap d = d := IntWalk.i64_in _ (by omega)
        clear hd hd0
        gi_wp2
        refine ⟨trivial, ?_⟩
        gi_at_call 75
        with_reducible refine (callsIn_wide.2 (be_flush b (w.heap.size + 1) s (Value.func (.func 75) #[] #[.pointer (some ⟨b, 0, none⟩), .pointer (some ⟨b + 1 + 1, 0, none⟩), .pointer (some ⟨b + 1, 0, none⟩)]) _ HE.out HSZ.out HI.out.1 (by have := HI.out; have := HI2.out; omega) (by have := HI.out; have := HI2.out; omega))).mono ?_
        rintro e w1_ ⟨rfl, hf1, hf2, hf3⟩
        have HF1 := Aside0.mk (And.intro hf1 (And.intro hf2 hf3))
        have h1_ := EB.setRun hf1 d
        simp only [eflush, d2, Bool.not_true] at h1_
        have z5 := (hf2.cell (p := ⟨w.heap.size, 0, none⟩) (by simp)).trans cN
        have z4 := r_other (a := ⟨b + 1 + 1, 0, none⟩) ((hf2.cell (p := ⟨w.heap.size, 0, none⟩) (by simp)).trans cN) (by have := HSZ.out; simp; omega) (.int .i64 d)
        obtain ⟨k11, k12, k13, k14, k15, k16, _⟩ := EB.cells (hf1)
        obtain ⟨k21, k22, k23, k24, k25, k26, _⟩ := EB.cells (h1_)
        simp only [eflush, d2, Bool.not_true] at k11 k12 k15
        have HG1 := Aside0.mk h1_
        clear h1_
        clear hf1 hf2 hf3
        gi_wp2
        refine ⟨trivial, ?_⟩
        gi_at_call 75
        with_reducible refine (callsIn_wide.2 (be_flush b (w.heap.size + 1) ⟨s.P ++ venc s.run.toNat, false, d, s.pos⟩ (Value.func (.func 75) #[] #[.pointer (some ⟨b, 0, none⟩), .pointer (some ⟨b + 1 + 1, 0, none⟩), .pointer (some ⟨b + 1, 0, none⟩)]) _ HG1.out HSZ.out HD0.out.1 (show d < 4611686018427387904 by have := HD0.out; omega) (show (s.P ++ venc s.run.toNat).length ≤ 1000000000 by have := HI.out; have := HI2.out; have := venc_len10 s.run.toNat (by omega); simp only [List.length_append]; omega))).mono ?_
        rintro e w2_ ⟨rfl, hf1, hf2, hf3⟩
        have HFE := Aside0.mk hf1
        obtain ⟨v9, q0_, q1_, _, _, _, _⟩ := hf1
        have q2_ := q0_.cell
        have HV9 := Aside0.mk q1_
        have HF2 := Aside0.mk (And.intro hf2 hf3)
        clear q0_ q1_ hf2 hf3
        gi_wp2
        have hK2 := (((HF1.out.2.2.trans (KeepsOthers.setCell _ _ _)).trans HF2.out.2)).same D _ hK rfl
        refine ⟨by simp, .inl ⟨_, _, rfl, run_takeDeferred hK2, ?_⟩⟩
        have hres : r = s.P ++ venc s.run.toNat ++ venc d.toNat := by rw [← HRR.out]; unfold bencI efin; rw [← HSS.out]; rw [if_pos (by have := HNN.out; omega), eadv_inv s _ D1.out, if_pos D2.out, ← HDD.out]; rfl
        refine ⟨_, results_tmp rfl _ _ _, v9, rfl, Kd.R_lower (Kd.R_of_own (enc := Value.int .u8) (h1 := fun _ => rfl) (base := w.heap.size + 1) (ownsRow_putObj (by rw [hres]; exact HV9.out) _ hK2 rfl) (fun _ _ => trivial)) (Nat.le_succ _), ?_⟩
        exact (HBT.out.trans ((((HF1.out.2.1).setCell (p := ⟨b + 1 + 1, 0, none⟩) (by have := HSZ.out; simp; omega) _).trans HF2.out.1).mono (Nat.le_succ _))).trans (belowK_b (w := w) (Nat.le_refl _) _ D _ _ (by have := HSZ.out; have := HD.out; omega) hK2 rfl rfl)
      · have D2 := Aside0.mk d2
        have d3 : s.on = false := by simpa using d2
        rw [d3] at c1
        obtain ⟨rr, hrr⟩ : ∃ rr, rr = s.run + d := ⟨_, rfl⟩
        have HRD := Aside0.mk hrr
        have ewr : IntKind.i64.wrap (s.run + d) = rr := by rw [hrr]; exact IntWalk.i64_in _ (by have := HI.out; have := HI2.out; omega)
        have h1_ := EB.setRun HE.out rr
        rw [d3] at h1_
        obtain ⟨k11, k12, k13, k14, k15, k16, _⟩ := EB.cells (h1_)
        simp only at k11 k12 k15
        have HG1 := Aside0.mk h1_
        have z4 := r_other (a := ⟨b + 1 + 1, 0, none⟩) cN (by have := HSZ.out; simp; omega) (.int .i64 rr)
        clear hd hd0 hrr h1_
        gi_wp2
        refine ⟨trivial, ?_⟩
        gi_at_call 75
        with_reducible refine (callsIn_wide.2 (be_flush b (w.heap.size + 1) ⟨s.P, false, rr, s.pos⟩ (Value.func (.func 75) #[] #[.pointer (some ⟨b, 0, none⟩), .pointer (some ⟨b + 1 + 1, 0, none⟩), .pointer (some ⟨b + 1, 0, none⟩)]) _ HG1.out HSZ.out (show 0 ≤ rr by have := HI.out; have := HD0.out; have := HRD.out; omega) (show rr < 4611686018427387904 by have := HI.out; have := HI2.out; have := HD0.out; have := HRD.out; omega) (show s.P.length ≤ 1000000000 by have := HI.out; have := HI2.out; omega))).mono ?_
        rintro e w2_ ⟨rfl, hf1, hf2, hf3⟩
        have HFE := Aside0.mk hf1
        obtain ⟨v9, q0_, q1_, _, _, _, _⟩ := hf1
        have q2_ := q0_.cell
        have HV9 := Aside0.mk q1_
        have HF2 := Aside0.mk (And.intro hf2 hf3)
        clear q0_ q1_ hf2 hf3
        gi_wp2
        have hK2 := (((KeepsOthers.setCell _ _ _).trans HF2.out.2)).same D _ hK rfl
        refine ⟨by simp, .inl ⟨_, _, rfl, run_takeDeferred hK2, ?_⟩⟩
        have hres : r = s.P ++ venc rr.toNat := by rw [← HRR.out]; unfold bencI efin; rw [← HSS.out]; rw [if_pos (by have := HNN.out; omega), eadv_inv s _ D1.out, if_neg D2.out, ← HDD.out, ← HRD.out]; rfl
        refine ⟨_, results_tmp rfl _ _ _, v9, rfl, Kd.R_lower (Kd.R_of_own (enc := Value.int .u8) (h1 := fun _ => rfl) (base := w.heap.size + 1) (ownsRow_putObj (by rw [hres]; exact HV9.out) _ hK2 rfl) (fun _ _ => trivial)) (Nat.le_succ _), ?_⟩
        exact (HBT.out.trans ((((Below.refl (w.heap.size + 1) W).setCell (p := ⟨b + 1 + 1, 0, none⟩) (by have := HSZ.out; simp; omega) _).trans HF2.out.1).mono (Nat.le_succ _))).trans (belowK_b (w := w) (Nat.le_refl _) _ D _ _ (by have := HSZ.out; have := HD.out; omega) hK2 rfl rfl)
    · have D1 := Aside0.mk d1
      have e1 : decide (s.pos < (nn0 : Int)) = false := decide_eq_false d1
      by_cases hN : (0 : Int) < (nn0 : Int)
      · have hNd : decide ((0 : Int) < (nn0 : Int)) = true := decide_eq_true hN
        have hNp : 0 < nn0 := by omega
        have HNN := Aside0.mk hNp
        gi_wp2
        refine ⟨trivial, ?_⟩
        gi_at_call 75
        with_reducible refine (callsIn_wide.2 (be_flush b (w.heap.size + 1) s (Value.func (.func 75) #[] #[.pointer (some ⟨b, 0, none⟩), .pointer (some ⟨b + 1 + 1, 0, none⟩), .pointer (some ⟨b + 1, 0, none⟩)]) _ HE.out HSZ.out HI.out.1 (by have := HI.out; have := HI2.out; omega) (by have := HI.out; have := HI2.out; omega))).mono ?_
        rintro e w2_ ⟨rfl, hf1, hf2, hf3⟩
        have HFE := Aside0.mk hf1
        obtain ⟨v9, q0_, q1_, _, _, _, _⟩ := hf1
        have q2_ := q0_.cell
        have HV9 := Aside0.mk q1_
        have HF2 := Aside0.mk (And.intro hf2 hf3)
        clear q0_ q1_ hf2 hf3
        gi_wp2
        have hK2 := (HF2.out.2).same D _ hK rfl
        refine ⟨by simp, .inl ⟨_, _, rfl, run_takeDeferred hK2, ?_⟩⟩
        have hres : r = s.P ++ venc s.run.toNat := by rw [← HRR.out]; unfold bencI efin; rw [← HSS.out]; rw [if_pos (by have := HNN.out; omega), eadv_same s _ (by have := D1.out; omega)]; rfl
        refine ⟨_, results_tmp rfl _ _ _, v9, rfl, Kd.R_lower (Kd.R_of_own (enc := Value.int .u8) (h1 := fun _ => rfl) (base := w.heap.size + 1) (ownsRow_putObj (by rw [hres]; exact HV9.out) _ hK2 rfl) (fun _ _ => trivial)) (Nat.le_succ _), ?_⟩
        exact (HBT.out.trans ((HF2.out.1).mono (Nat.le_succ _))).trans (belowK_b (w := w) (Nat.le_refl _) _ D _ _ (by have := HSZ.out; have := HD.out; omega) hK2 rfl rfl)
      · have hNd : decide ((0 : Int) < (nn0 : Int)) = false := decide_eq_false hN
        have hNp : nn0 = 0 := by omega
        have HNN := Aside0.mk hNp
        obtain ⟨v9, q0_, q1_, _, _, _, _⟩ := HE.out
        have q2_ := q0_.cell
        have HV9 := Aside0.mk q1_
        clear q0_ q1_
        gi_wp2
        have hK2 := (KeepsOthers.refl W).same D _ hK rfl
        refine ⟨by simp, .inl ⟨_, _, rfl, run_takeDeferred hK2, ?_⟩⟩
        have hres : r = s.P := by rw [← HRR.out]; unfold bencI efin; rw [← HSS.out]; rw [if_neg (by have := HNN.out; omega), eadv_same s _ (by have := D1.out; omega)]
        refine ⟨_, results_tmp rfl _ _ _, v9, rfl, Kd.R_lower (Kd.R_of_own (enc := Value.int .u8) (h1 := fun _ => rfl) (base := w.heap.size + 1) (ownsRow_putObj (by rw [hres]; exact HV9.out) _ hK2 rfl) (fun _ _ => trivial)) (Nat.le_succ _), ?_⟩
        exact (HBT.out.trans ((Below.refl (w.heap.size + 1) W).mono (Nat.le_succ _))).trans (belowK_b (w := w) (Nat.le_refl _) _ D _ _ (by have := HSZ.out; have := HD.out; omega) hK2 rfl rfl)
  case stop =>
    rintro D c pre W _ _ h _
    exact h.elim
end

end Go.Proofs.YtijgbhbdmnhanaaDoor.QBitsetElements
