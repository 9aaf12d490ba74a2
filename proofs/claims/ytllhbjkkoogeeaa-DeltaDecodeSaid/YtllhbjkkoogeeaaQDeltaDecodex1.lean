-- Written by a program of this session (wip/pr2.sh): the walk of the Go text, function by function.
import Derived.Test.YtllhbjkkoogeeaaQDeltaDecodex0
namespace Go.Proofs.Ytllhbjkkoogeeaa.QDeltaDecode
open Go.RowKit Go.Proofs.YtllhbjkkoogeeaaW.PrintWords Go.Proofs.YtllhbjkkoogeeaaW.PrintLast Go.Proofs.YtllhbjkkoogeeaaW.PrintMore
open Go.Proofs.YtllhbjkkoogeeaaM
attribute [local go_sem] max2_int min2_int max_two min_two max_three min_three max_four min_four   -- for this text's walks alone
set_option linter.unusedVariables false
set_option linter.unusedSimpArgs false

/-! ### delta_Differences: function 48 -/
def delta_Differences.l0 : Nat → List Int → List Int → Int → Int → Option (List Int)
 | 0, _, _, _, _ => none
 | k + 1, x0, x3, x13, x14 => if x14 < x13 then (if 0 ≤ (wrap64 (x14 + 1)) then (if (wrap64 (x14 + 1)) < (x0.length : Int) then (if 0 ≤ x14 then (if x14 < (x0.length : Int) then (if x14 < (x3.length : Int) then (delta_Differences.l0 k x0 (x3.set (x14 : Int).toNat (wrap64 ((rd x0 (wrap64 (x14 + 1))) - (rd x0 x14)))) x13 (wrap64 (x14 + 1))) else (none)) else (none)) else (none)) else (none)) else (none)) else (some x3)
def delta_Differences.f (k : Nat) (l0 : List Int) : Option (List Int) := if (l0.length : Int) < 2 then (some ([] : List Int)) else (if 0 ≤ (wrap64 ((l0.length : Int) - 1)) then (if (wrap64 ((l0.length : Int) - 1) : Int).toNat ≤ 35184372088832 then ((some (List.replicate (wrap64 ((l0.length : Int) - 1) : Int).toNat 0 : List Int)).bind fun y101 => (delta_Differences.l0 k l0 y101 (y101.length : Int) 0)) else (none)) else (none))
theorem delta_Differences.mono_l : ∀ k, (∀ y0 y1 y2 y3, LeO (delta_Differences.l0 k y0 y1 y2 y3) (delta_Differences.l0 (k + 1) y0 y1 y2 y3))
 | 0 => fun _ _ _ _ r h => by simp [delta_Differences.l0] at h
 | k + 1 => by
  have ih0 := delta_Differences.mono_l k
  ·intro y0 y1 y2 y3
   unfold delta_Differences.l0
   repeat' first
   | (with_reducible exact ih0 _ _ _ _)
   | (with_reducible exact LeO.refl _)
   | (with_reducible exact LeO.none _)
   | (with_reducible refine LeO.ite ?_ ?_)
   | (with_reducible refine LeO.bind ?_ (fun _ => ?_))
   | exact ih0 _ _ _ _
   | exact LeO.none _
   | refine LeO.ite ?_ ?_
   | refine LeO.bind ?_ (fun _ => ?_)
theorem delta_Differences.mono : ∀ a0 k, LeO (delta_Differences.f k a0) (delta_Differences.f (k + 1) a0) := by
 intro a0 k
 have ih0 := delta_Differences.mono_l k
 unfold delta_Differences.f
 repeat' first
   | (with_reducible exact ih0 _ _ _ _)
   | (with_reducible exact LeO.refl _)
   | (with_reducible exact LeO.none _)
   | (with_reducible refine LeO.ite ?_ ?_)
   | (with_reducible refine LeO.bind ?_ (fun _ => ?_))
   | exact ih0 _ _ _ _
   | exact LeO.none _
   | refine LeO.ite ?_ ?_
   | refine LeO.bind ?_ (fun _ => ?_)
def delta_Differences.T7 : Bool × List (List Nat × List Nat) := (true, [([], []), ([], []), ([], []), ([], []), ([3], [3]), ([2, 4], [2, 4]), ([5], [5]), ([], []), ([], []), ([7, 8], [7, 8]), ([9], [9]), ([6, 10], [6, 10]), ([0, 1, 0, 1, 2, 3, 4, 5, 6, 7, 8, 9, 10, 11], [0, 1]), ([12, 11, 0, 1, 2, 3, 4, 5, 6, 7, 8, 9, 10, 11], [11, 12])])
def delta_Differences.B7 : List Nat := [0, 0, 0, 0, 8, 28, 60, 0, 0, 384, 896, 2044, 4095, 8191]
theorem delta_Differences.tab7 : rtab .any (opsOf Try.f48 7) = delta_Differences.T7 := by kernel_rfl
theorem delta_Differences.bits7 : waitsOk delta_Differences.T7.2 delta_Differences.B7 = true := by kernel_rfl
set_option maxHeartbeats 8000000 in
set_option maxRecDepth 100000 in
theorem delta_Differences.calls (k : Nat) (A0 : Option Addr) (c0 : Nat) (l0 : List Int) (r : List Int) (w : World) (hr0 : Kd.C (Kd.int .i64) w A0 l0.length l0) (hc0 : l0.length ≤ c0) (h : delta_Differences.f k l0 = some r) :
  Calls Try.prog 48 #[.slice A0 l0.length c0] w fun e w' => ∃ v0_ : Value, e = .returned (v0_) ∧ Kd.R (Kd.int .i64) 2 w' w.heap.size (fun _ => True) v0_ r ∧ Below w.heap.size w w' := by
 have HR0 := Aside0.mk hr0
 have HC0 := Aside0.mk hc0
 clear hr0 hc0
 have HB := Aside0.mk (Below.refl w.heap.size w)
 have H : (if (l0.length : Int) < 2 then (some ([] : List Int)) else (if 0 ≤ (wrap64 ((l0.length : Int) - 1)) then (if (wrap64 ((l0.length : Int) - 1) : Int).toNat ≤ 35184372088832 then ((some (List.replicate (wrap64 ((l0.length : Int) - 1) : Int).toNat 0 : List Int)).bind fun y101 => (delta_Differences.l0 k l0 y101 (y101.length : Int) 0)) else (none)) else (none))) = some r := h
 clear h
 by_cases c2 : (l0.length : Int) < 2
 ·rw [if_pos c2] at H
  have c2b0 : decide ((l0.length : Int) < 2) = true := decide_eq_true c2
  have c2b1 : decide (l0.length < 2) = true := decide_eq_true (by omega)
  clear c2
  obtain rfl := Option.some.inj H
  go_enter Try.func48, Try.ntmps48
  go_wp2
  go_ret
  exact ⟨_, er_, by first | exact Kd.R_nil _ _ _ _ _ | exact Kd.N_nil _ _ _ _ _ | exact Kd.V_nil _ _ _ _ _ | exact Kd.Q_nil _ _ _ _ _ | exact Kd.S_nil _ _ _ _ _, by repeat (first | (with_reducible first | exact HB.out | apply below_alloc | apply pw_below_drewN | apply below_drew1) | exact HB.out)⟩
 ·rw [if_neg c2] at H
  have c2b0 : decide ((l0.length : Int) < 2) = false := decide_eq_false c2
  have c2b1 : decide (l0.length < 2) = false := decide_eq_false (by omega)
  clear c2
  obtain ⟨ji3, hji3⟩ : ∃ j_ : Int, (wrap64 ((l0.length : Int) - 1)) = j_ := ⟨_, rfl⟩
  replace H : (if 0 ≤ (ji3) then (if (ji3 : Int).toNat ≤ 35184372088832 then ((some (List.replicate (ji3 : Int).toNat 0 : List Int)).bind fun y101 => (delta_Differences.l0 k l0 y101 (y101.length : Int) 0)) else (none)) else (none)) = some r := by first | (rw [hji3] at H; exact H) | (simp only [hji3] at H ⊢; exact H)
  have hji3w : (IntKind.i64.wrap ((l0.length : Int) - 1)) = ji3 := (i64_w _).trans hji3
  by_cases c4 : 0 ≤ (ji3)
  ·rw [if_pos c4] at H
   have c4b0 := eq_true c4
   have c4b1 : decide (0 ≤ (ji3)) = true := decide_eq_true c4
   clear c4
   by_cases c5 : (ji3 : Int).toNat ≤ 35184372088832
   ·rw [if_pos c5] at H
    have c5b0 := eq_true c5
    have c5b1 : decide ((ji3 : Int).toNat ≤ 35184372088832) = true := decide_eq_true c5
    clear c5
    obtain ⟨y101, hy101⟩ : ∃ y_ : List Int, y_ = (List.replicate (ji3 : Int).toNat 0) := ⟨_, rfl⟩
    replace H : (delta_Differences.l0 k l0 y101 (y101.length : Int) 0) = some r := hx_ hy101 H
    have Ny101 := Aside0.mk hy101
    clear hy101
    have H' := Aside0.mk H
    clear H
    go_enter Try.func48, Try.ntmps48
    go_wp2_with (first | ((with_reducible refine gate_dst (N := 11) rfl ?_); refine Kd.R_make (Kd.int .i64) _ 2 rfl (N := 11) rfl 38 _ _ rfl ji3 rfl rfl Try.underlying38 (.int .i64 0) 8 info2 rfl (by decide) (by omega) 0 (ok := fun _ => True) (okp := fun _ => True) rfl (fun _ hk => hk) trivial (of_decide_eq_true as_) (Nat.le_trans (Nat.mul_le_mul_right _ (of_decide_eq_true as_ : ji3.toNat ≤ 35184372088832)) (by omega)) (Below.refl _ _) (Nat.le_refl _) ?_; intro v102 w6 ho7 hb hg_ hnew_; clear hg_ hnew_; (first | rw [← Ny101.out] at ho7 | (simp only [Int.reduceToNat] at ho7; rw [← Ny101.out] at ho7)); have n0_ := Aside0.mk (Kd.R_lower ho7 (below_size (bb_ HB))); have n1_ := Aside0.mk (below_step (bb_ HB) hb); clear HB; have HO103 := n0_; have HB := n1_; clear n0_ n1_; clear hb ho7; obtain ⟨Ao8, co8, eo8⟩ := Kd.R_slice HO103.out; subst eo8))
    go_loopg [14] k (fun kq v14 w' => ∃ (x3_1 : List Int) (x14_1 : Int), v14 = .int .i64 x14_1 ∧ Aside0 (delta_Differences.l0 kq l0 x3_1 (y101.length : Int) x14_1 = some r) ∧ Aside0 (kq ≤ k) ∧ Aside0 (Kd.R (Kd.int .i64) 2 w' w.heap.size (fun _ => True) (.slice Ao8 y101.length co8) x3_1) ∧ Aside0 (Below w.heap.size w w'))
    case atStart => exact ⟨(y101), (0), fr_, H', ⟨Nat.le_refl _⟩, ⟨by (with_reducible repeat (first | apply Kd.R_alloc | apply Kd.R_drewN | apply Kd.R_drew)); exact HO103.out⟩, ⟨by repeat (first | (with_reducible first | exact HB.out | apply below_alloc | apply pw_below_drewN | apply below_drew1) | exact HB.out)⟩⟩
    case round =>
     clear H'
     try clear c2
     try clear c2b0
     try clear c2b1
     try clear p2
     try clear c4
     try clear c4b0
     try clear c4b1
     try clear c5
     try clear c5b0
     try clear c5b1
     try clear p6
     obtain ⟨x3_1, x14_1, rfl, HA, HK1, HO_3, HB⟩ := hrel
     have hl3_1 := (Kd.R_reads' HO_3.out).1
     rw [hl3_1] at HO_3
     (try simp only [hl3_1])
     cases gk with
     | zero => exact absurd HA.out (by simp [delta_Differences.l0])
     | succ k1 =>
      have H := HA.out
      clear HA
      simp only [delta_Differences.l0] at H
      by_cases c9 : x14_1 < (y101.length : Int)
      ·rw [if_pos c9] at H
       have c9b0 : decide (x14_1 < (y101.length : Int)) = true := decide_eq_true c9
       clear c9
       obtain ⟨ji10, hji10⟩ : ∃ j_ : Int, (wrap64 (x14_1 + 1)) = j_ := ⟨_, rfl⟩
       replace H : (if 0 ≤ (ji10) then (if (ji10) < (l0.length : Int) then (if 0 ≤ x14_1 then (if x14_1 < (l0.length : Int) then (if x14_1 < (x3_1.length : Int) then (delta_Differences.l0 k1 l0 (x3_1.set (x14_1 : Int).toNat (wrap64 ((rd l0 (ji10)) - (rd l0 x14_1)))) (y101.length : Int) ji10) else (none)) else (none)) else (none)) else (none)) else (none)) = some r := by first | (rw [hji10] at H; exact H) | (simp only [hji10] at H ⊢; exact H)
       have hji10w : (IntKind.i64.wrap (x14_1 + 1)) = ji10 := (i64_w _).trans hji10
       by_cases c11 : 0 ≤ (ji10)
       ·rw [if_pos c11] at H
        have c11b0 : decide (0 ≤ (ji10)) = true := decide_eq_true c11
        clear c11
        by_cases c12 : (ji10) < (l0.length : Int)
        ·rw [if_pos c12] at H
         have c12b0 : decide ((ji10) < (l0.length : Int)) = true := decide_eq_true c12
         clear c12
         by_cases c13 : 0 ≤ x14_1
         ·rw [if_pos c13] at H
          have c13b0 : decide (0 ≤ x14_1) = true := decide_eq_true c13
          clear c13
          by_cases c14 : x14_1 < (l0.length : Int)
          ·rw [if_pos c14] at H
           have c14b0 : decide (x14_1 < (l0.length : Int)) = true := decide_eq_true c14
           clear c14
           by_cases c15 : x14_1 < (x3_1.length : Int)
           ·rw [if_pos c15] at H
            have c15b0 : decide (x14_1 < (x3_1.length : Int)) = true := decide_eq_true c15
            clear c15
            obtain ⟨y106, hy106⟩ : ∃ y_ : List Int, y_ = (x3_1.set (x14_1 : Int).toNat (wrap64 ((rd l0 (ji10)) - (rd l0 x14_1)))) := ⟨_, rfl⟩
            replace H : (delta_Differences.l0 k1 l0 y106 (y101.length : Int) ji10) = some r := hx_ hy106 H
            have Ny106 := Aside0.mk hy106
            clear hy106
            have H' := Aside0.mk H
            clear H
            try go_wp2
            have n0_ := Aside0.mk (Kd.R_drew HO_3.out)
            have n1_ := Aside0.mk (below_drew1 HB.out)
            clear HO_3
            clear HB
            have HO_3 := n0_
            have HB := n1_
            clear n0_ n1_
            have p104 : 0 ≤ ((ji10) : Int) := of_decide_eq_true as_
            have q104 : (ji10) < (l0.length : Int) := of_decide_eq_true as_
            obtain ⟨ad104, e104, hx104_0⟩ := Kd.at_int HR0.out (ji10) p104 q104
            have hw104_0 := hx104_0
            cases e104
            replace hx104_0 := (HB.out.cell (World.block_lt_of_cell? w _ hx104_0)).trans hx104_0
            replace p104 := eq_true p104
            replace q104 := eq_true q104
            have p105 : 0 ≤ (x14_1 : Int) := of_decide_eq_true as_
            have q105 : x14_1 < (l0.length : Int) := of_decide_eq_true as_
            obtain ⟨ad105, e105, hx105_0⟩ := Kd.at_int HR0.out x14_1 p105 q105
            have hw105_0 := hx105_0
            obtain rfl : ad104 = ad105 := (by injection e105)
            replace hx105_0 := (HB.out.cell (World.block_lt_of_cell? w _ hx105_0)).trans hx105_0
            replace p105 := eq_true p105
            replace q105 := eq_true q105
            have p16 : 0 ≤ (x14_1 : Int) := of_decide_eq_true as_
            have q16 : (x14_1 : Int) < ((x3_1.length : Int) : Int) := of_decide_eq_true as_
            obtain ⟨go16, co16, eo16, gb16, gl16, cl16, HG16⟩ := Kd.R_form HO_3.out (by omega)
            (first | cases eo16 | (injection eo16 with ea_ en_ ec_; (first | subst ea_ | (injection ea_ with ea_; subst ea_)); subst ec_; clear en_))
            have GB16 := Aside0.mk gb16
            have GG16 := Aside0.mk HG16
            clear gb16 gl16 HG16
            obtain ⟨hx16_0, hf16_0⟩ := Kd.R_celln 0 HO_3.out (x14_1 : Int) p16 q16
            replace p16 := eq_true p16
            replace q16 := eq_true q16
            have HP18 := Kd.R_putn HO_3.out (x14_1 : Int) (wrap64 ((rd l0 (ji10)) - (rd l0 x14_1)))
            rw [← Ny106.out] at HP18
            have HQ18 := Aside0.mk HP18
            clear HP18
            refine start_ (n := 14) (S := fun w' => w'.cell? (ad104.add ((ji10)).toNat) = some (.int .i64 (rd l0 (ji10))) ∧ w'.cell? (ad104.add (x14_1).toNat) = some (.int .i64 (rd l0 x14_1))) (ds := [13]) #[false, false, false, false, false, false, false, false, false, false, false, false, false, false] (by kernel_rfl) rfl rfl ⟨((HB.out.cell (World.block_lt_of_cell? w _ hw104_0)).trans hw104_0), ((HB.out.cell (World.block_lt_of_cell? w _ hw105_0)).trans hw105_0)⟩ (fun hHeld => ?_); refine with_tabW delta_Differences.tab7 delta_Differences.bits7 (fun HT_ HW_ => ?_)
            generalize wr.drew = w17 at HO_3 HB GG16 HQ18 hf16_0 hx104_0 hx105_0 hx16_0 hHeld ⊢
            refine pure_ (i := 0) (N := some 17) (v := ?_) (a' := ?_) #[true, false, false, false, false, false, false, false, false, false, false, false, false, false] rfl rfl (any_of HT_.out (by kernel_rfl)) (fun _ _ _ h => h) (Or.inl ⟨by (first | rfl | (simp only [*]; rfl) | (simp [*]; done)), ?_⟩) ?_ ?_
            rotate_left
            ·intro w'
             go_simp
             with_reducible rfl
            rotate_left
            ·simp only [Act.put, List.setIfInBounds_toArray, List.set_cons_zero, List.set_cons_succ, i64_w, i32_w]
             rfl
            refine pure_ (i := 1) (N := some 18) (v := ?_) (a' := ?_) #[true, true, false, false, false, false, false, false, false, false, false, false, false, false] rfl rfl (any_of HT_.out (by kernel_rfl)) (fun _ _ _ h => h) (Or.inl ⟨by (first | rfl | (simp only [*]; rfl) | (simp [*]; done)), ?_⟩) ?_ ?_
            rotate_left
            ·intro w'
             go_simp
             with_reducible rfl
            rotate_left
            ·simp only [Act.put, List.setIfInBounds_toArray, List.set_cons_zero, List.set_cons_succ, i64_w, i32_w]
             rfl
            refine pure_ (i := 2) (N := some 19) (v := ?_) (a' := ?_) #[true, true, true, false, false, false, false, false, false, false, false, false, false, false] rfl rfl (any_of HT_.out (by kernel_rfl)) (fun _ _ _ h => h) (Or.inl ⟨by (first | rfl | (simp only [*]; rfl) | (simp [*]; done)), ?_⟩) ?_ ?_
            rotate_left
            ·intro w'
             go_simp
             with_reducible rfl
            rotate_left
            ·simp only [Act.put, List.setIfInBounds_toArray, List.set_cons_zero, List.set_cons_succ, i64_w, i32_w]
             rfl
            refine pure_ (i := 3) (N := some 20) (v := ?_) (a' := ?_) #[true, true, true, true, false, false, false, false, false, false, false, false, false, false] rfl rfl (any_of HT_.out (by kernel_rfl)) (fun _ _ _ h => h) (Or.inl ⟨by (first | rfl | (simp only [*]; rfl) | (simp [*]; done)), ?_⟩) ?_ ?_
            rotate_left
            ·intro w'
             go_simp
             with_reducible rfl
            rotate_left
            ·simp only [Act.put, List.setIfInBounds_toArray, List.set_cons_zero, List.set_cons_succ, i64_w, i32_w]
             rfl
            refine pure_ (i := 4) (N := some 21) (v := ?_) (a' := ?_) #[true, true, true, true, true, false, false, false, false, false, false, false, false, false] rfl rfl (any_of HT_.out (by kernel_rfl)) (fun _ _ _ h => h) (Or.inl ⟨by (first | rfl | (simp only [*]; rfl) | (simp [*]; done)), ?_⟩) ?_ ?_
            rotate_left
            ·intro w'
             go_simp
             with_reducible rfl
            rotate_left
            ·simp only [Act.put, List.setIfInBounds_toArray, List.set_cons_zero, List.set_cons_succ, i64_w, i32_w]
             rfl
            refine pure_ (i := 5) (N := some 22) (v := ?_) (a' := ?_) #[true, true, true, true, true, true, false, false, false, false, false, false, false, false] rfl rfl (any_of HT_.out (by kernel_rfl)) (fun _ _ _ h => h) (Or.inl ⟨by (first | rfl | (simp only [*]; rfl) | (simp [*]; done)), ?_⟩) ?_ ?_
            rotate_left
            ·intro w'
             go_simp
             with_reducible rfl
            rotate_left
            ·simp only [Act.put, List.setIfInBounds_toArray, List.set_cons_zero, List.set_cons_succ, i64_w, i32_w]
             rfl
            refine pure_ (i := 7) (N := some 24) (v := ?_) (a' := ?_) #[true, true, true, true, true, true, false, true, false, false, false, false, false, false] rfl rfl (any_of HT_.out (by kernel_rfl)) (fun _ _ _ h => h) (Or.inl ⟨by (first | rfl | (simp only [*]; rfl) | (simp [*]; done)), ?_⟩) ?_ ?_
            rotate_left
            ·intro w'
             go_simp
             with_reducible rfl
            rotate_left
            ·simp only [Act.put, List.setIfInBounds_toArray, List.set_cons_zero, List.set_cons_succ, i64_w, i32_w]
             rfl
            refine pure_ (i := 8) (N := some 25) (v := ?_) (a' := ?_) #[true, true, true, true, true, true, false, true, true, false, false, false, false, false] rfl rfl (any_of HT_.out (by kernel_rfl)) (fun _ _ _ h => h) (Or.inl ⟨by (first | rfl | (simp only [*]; rfl) | (simp [*]; done)), ?_⟩) ?_ ?_
            rotate_left
            ·intro w'
             go_simp
             with_reducible rfl
            rotate_left
            ·simp only [Act.put, List.setIfInBounds_toArray, List.set_cons_zero, List.set_cons_succ, i64_w, i32_w]
             rfl
            refine pure_ (i := 9) (N := some 26) (v := ?_) (a' := ?_) #[true, true, true, true, true, true, false, true, true, true, false, false, false, false] rfl rfl (any_of HT_.out (by kernel_rfl)) (fun _ _ _ h => h) (Or.inl ⟨by (first | rfl | (simp only [*]; rfl) | (simp [*]; done)), ?_⟩) ?_ ?_
            rotate_left
            ·intro w'
             go_simp
             with_reducible rfl
            rotate_left
            ·simp only [Act.put, List.setIfInBounds_toArray, List.set_cons_zero, List.set_cons_succ, i64_w, i32_w]
             rfl
            refine take_ (i := 6) (N := some 23) (v := ?_) (a' := ?_) #[true, true, true, true, true, true, true, true, true, true, false, false, false, false] rfl rfl (take_ofW HT_.out HW_.out (by kernel_rfl)) (fun _ _ _ h => h) (Or.inl ⟨by (first | rfl | (simp only [*]; rfl) | (simp [*]; done)), ?_⟩) hHeld ?_ ?_
            rotate_left
            ·rintro w' ⟨s0, s1⟩
             go_simp
             with_reducible rfl
            rotate_left
            ·simp only [Act.put, List.setIfInBounds_toArray, List.set_cons_zero, List.set_cons_succ, i64_w, i32_w]
             rfl
            refine take_ (i := 10) (N := some 27) (v := ?_) (a' := ?_) #[true, true, true, true, true, true, true, true, true, true, true, false, false, false] rfl rfl (take_ofW HT_.out HW_.out (by kernel_rfl)) (fun _ _ _ h => h) (Or.inl ⟨by (first | rfl | (simp only [*]; rfl) | (simp [*]; done)), ?_⟩) hHeld ?_ ?_
            rotate_left
            ·rintro w' ⟨s0, s1⟩
             go_simp
             with_reducible rfl
            rotate_left
            ·simp only [Act.put, List.setIfInBounds_toArray, List.set_cons_zero, List.set_cons_succ, i64_w, i32_w]
             rfl
            refine pure_ (i := 11) (N := some 28) (v := ?_) (a' := ?_) #[true, true, true, true, true, true, true, true, true, true, true, true, false, false] rfl rfl (any_of HT_.out (by kernel_rfl)) (fun _ _ _ h => h) (Or.inl ⟨by (first | rfl | (simp only [*]; rfl) | (simp [*]; done)), ?_⟩) ?_ ?_
            rotate_left
            ·intro w'
             go_simp
             with_reducible rfl
            rotate_left
            ·simp only [Act.put, List.setIfInBounds_toArray, List.set_cons_zero, List.set_cons_succ, i64_w, i32_w]
             rfl
            refine pure_ (i := 12) (N := some 29) (v := ?_) (a' := ?_) #[true, true, true, true, true, true, true, true, true, true, true, true, true, false] rfl rfl (any_of HT_.out (by kernel_rfl)) (fun _ _ _ h => h) (Or.inl ⟨by (first | rfl | (simp only [*]; rfl) | (simp [*]; done)), ?_⟩) ?_ ?_
            rotate_left
            ·intro w'
             go_simp
             with_reducible rfl
            rotate_left
            ·simp only [Act.put, List.setIfInBounds_toArray, List.set_cons_zero, List.set_cons_succ, i64_w, i32_w]
             rfl
            refine last_ (i := 13) (N := none) #[true, true, true, true, true, true, true, true, true, true, true, true, true, true] rfl rfl (one_of HT_.out (by kernel_rfl)) (by decide) (fun K hK => ?_)
            refine skip_ (w1 := ?_) (by rfl) rfl ?_ ?_
            rotate_left
            ·go_simp
             rfl
            refine hK.out _ _ ?_
            clear hK K
            refine done_ (done_of HT_.out (by kernel_rfl)) ?_
            try go_wp2
            (try simp only [← hl3_1])
            go_roundg k1
            case measure => have := HK1.out; omega
            case rel => exact ⟨(y106), (ji10), (by first | rfl | (simp; done) | (simp only [← hji10] <;> (first | rfl | simp)) | (simp [*]; done)), H', ⟨by have := HK1.out; omega⟩, ⟨by (try simp only [hl3_1]); (with_reducible repeat (first | apply Kd.R_alloc | apply Kd.R_drewN | apply Kd.R_drew)); exact HQ18.out⟩, ⟨by repeat (first | (with_reducible first | exact HB.out | apply below_alloc | apply pw_below_drewN | apply below_drew1 | refine below_set ?_ GB16.out) | exact HB.out)⟩⟩
           ·rw [if_neg c15] at H
            exact absurd H (by simp)
          ·rw [if_neg c14] at H
           exact absurd H (by simp)
         ·rw [if_neg c13] at H
          exact absurd H (by simp)
        ·rw [if_neg c12] at H
         exact absurd H (by simp)
       ·rw [if_neg c11] at H
        exact absurd H (by simp)
      ·rw [if_neg c9] at H
       have c9b0 : decide (x14_1 < (y101.length : Int)) = false := decide_eq_false c9
       have c9b9 : decide (x14_1 < (x3_1.length : Int)) = false := by rw [← hl3_1]; exact c9b0
       clear c9
       obtain rfl := Option.some.inj H
       go_wp2
       go_ret
       exact ⟨_, by first | rfl | (simp [errW_none, errW_some] <;> rfl) | (simp only [← hji3]; first | rfl | (simp [errW_none, errW_some] <;> rfl)) | (simp [*, errW_none, errW_some] <;> rfl), by (with_reducible repeat (first | apply Kd.R_alloc | apply Kd.R_drewN | apply Kd.R_drew)); exact HO_3.out, by repeat (first | (with_reducible first | exact HB.out | apply below_alloc | apply pw_below_drewN | apply below_drew1) | exact HB.out)⟩
   ·rw [if_neg c5] at H
    exact absurd H (by simp)
  ·rw [if_neg c4] at H
   exact absurd H (by simp)

/-! ### varint_ZigZag: function 65 -/
def varint_ZigZag.f (a0 : Int) : Option (Int) := some (Go.bits .xor .u64 (IntKind.u64.wrap ((IntKind.u64.wrap (a0)) * 2)) (IntKind.u64.wrap (a0 / 9223372036854775808)))
set_option maxHeartbeats 8000000 in
set_option maxRecDepth 100000 in
theorem varint_ZigZag.calls (a0 : Int) (r : Int) (w : World) (h : varint_ZigZag.f a0 = some r) :
  Calls Try.prog 65 #[.int .i64 a0] w fun e w' => e = .returned (.int .u64 r) ∧ Drawn0 w w' := by
 have H : (some (Go.bits .xor .u64 (IntKind.u64.wrap ((IntKind.u64.wrap (a0)) * 2)) (IntKind.u64.wrap (a0 / 9223372036854775808)))) = some r := h
 clear h
 obtain rfl := Option.some.inj H
 go_enter Try.func65, Try.ntmps65
 go_wp2
 go_ret
 exact ⟨fr_, dr_⟩

/-! ### varint_Encode: function 64 -/
def varint_Encode.l0 : Nat → Int → List Int → Option (List Int)
 | 0, _, _ => none
 | k + 1, x0, x3 => if x0 ≥ 128 then (if x3.length < 140737488355328 then (varint_Encode.l0 k (x0 / 128) (x3 ++ [Go.bits .or .u8 ((x0) % 256) 128])) else (none)) else (if x3.length < 140737488355328 then (some (x3 ++ [(x0) % 256])) else (none))
def varint_Encode.f (k : Nat) (a0 : Int) : Option (List Int) := varint_Encode.l0 k a0 ([] : List Int)
theorem varint_Encode.mono_l : ∀ k, (∀ y0 y1, LeO (varint_Encode.l0 k y0 y1) (varint_Encode.l0 (k + 1) y0 y1))
 | 0 => fun _ _ r h => by simp [varint_Encode.l0] at h
 | k + 1 => by
  have ih0 := varint_Encode.mono_l k
  ·intro y0 y1
   unfold varint_Encode.l0
   repeat' first
   | (with_reducible exact ih0 _ _)
   | (with_reducible exact LeO.refl _)
   | (with_reducible exact LeO.none _)
   | (with_reducible refine LeO.ite ?_ ?_)
   | (with_reducible refine LeO.bind ?_ (fun _ => ?_))
   | exact ih0 _ _
   | exact LeO.none _
   | refine LeO.ite ?_ ?_
   | refine LeO.bind ?_ (fun _ => ?_)
theorem varint_Encode.mono : ∀ a0 k, LeO (varint_Encode.f k a0) (varint_Encode.f (k + 1) a0) := by
 intro a0 k
 have ih0 := varint_Encode.mono_l k
 unfold varint_Encode.f
 repeat' first
   | (with_reducible exact ih0 _ _)
   | (with_reducible exact LeO.refl _)
   | (with_reducible exact LeO.none _)
   | (with_reducible refine LeO.ite ?_ ?_)
   | (with_reducible refine LeO.bind ?_ (fun _ => ?_))
   | exact ih0 _ _
   | exact LeO.none _
   | refine LeO.ite ?_ ?_
   | refine LeO.bind ?_ (fun _ => ?_)
set_option maxHeartbeats 8000000 in
set_option maxRecDepth 100000 in
theorem varint_Encode.calls (k : Nat) (a0 : Int) (r : List Int) (w : World) (h : varint_Encode.f k a0 = some r) :
  Calls Try.prog 64 #[.int .u64 a0] w fun e w' => ∃ v0_ : Value, e = .returned (v0_) ∧ Kd.R (Kd.int .u8) 5 w' w.heap.size (fun _ => True) v0_ r ∧ Below w.heap.size w w' := by
 have HB := Aside0.mk (Below.refl w.heap.size w)
 have H : (varint_Encode.l0 k a0 ([] : List Int)) = some r := h
 clear h
 have H' := Aside0.mk H
 clear H
 go_enter Try.func64, Try.ntmps64
 go_wp2
 go_loopg [0, 3] k (fun kq v0 v3 w' => ∃ (x0_1 : Int) (x3_1 : List Int), v0 = .int .u64 x0_1 ∧ Aside0 (varint_Encode.l0 kq x0_1 x3_1 = some r) ∧ Aside0 (kq ≤ k) ∧ Aside0 (Kd.R (Kd.int .u8) 5 w' w.heap.size (fun _ => True) v3 x3_1) ∧ Aside0 (Below w.heap.size w w'))
 case atStart => exact ⟨(a0), (([] : List Int)), fr_, H', ⟨Nat.le_refl _⟩, ⟨by first | exact Kd.R_nil _ _ _ _ _ | exact Kd.N_nil _ _ _ _ _ | exact Kd.V_nil _ _ _ _ _ | exact Kd.Q_nil _ _ _ _ _ | exact Kd.S_nil _ _ _ _ _⟩, ⟨by repeat (first | (with_reducible first | exact HB.out | apply below_alloc | apply pw_below_drewN | apply below_drew1) | exact HB.out)⟩⟩
 case round =>
  clear H'
  obtain ⟨x0_1, x3_1, rfl, HA, HK1, HO_3, HB⟩ := hrel
  cases gk with
  | zero => exact absurd HA.out (by simp [varint_Encode.l0])
  | succ k1 =>
   have H := HA.out
   clear HA
   simp only [varint_Encode.l0] at H
   by_cases c2 : x0_1 ≥ 128
   ·rw [if_pos c2] at H
    have c2b0 : decide (128 ≤ x0_1) = true := decide_eq_true c2
    clear c2
    by_cases c3 : x3_1.length < 140737488355328
    ·rw [if_pos c3] at H
     have LMc3 := Aside0.mk c3
     clear c3
     obtain ⟨y107, hy107⟩ : ∃ y_ : List Int, y_ = (x3_1 ++ [Go.bits .or .u8 ((x0_1) % 256) 128]) := ⟨_, rfl⟩
     replace H : (varint_Encode.l0 k1 (x0_1 / 128) y107) = some r := hx_ hy107 H
     have Ny107 := Aside0.mk hy107
     clear hy107
     have H' := Aside0.mk H
     clear H
     go_wp2_with (first | ((with_reducible refine gate_builtin (b := .append) (xs := #[.tmp 6, .tmp 10]) rfl ?_); at_builtin; refine Kd.R_append (Kd.int .u8) (w0 := w) w.heap.size rfl (.tmp 6) (.tmp 10) 26 5 (.int .u8 0) 1 rfl Try.underlying26 info5 rfl (by decide) (by omega) u3 x3_1 (Go.bits .or .u8 ((x0_1) % 256) 128) [.int .u8 (Go.bits .or .u8 ((x0_1) % 256) 128)] (fun _ => True) (fun _ => False) rfl rfl ?aP (fun _ hk => hk.elim) ?aF ?aO ?aB ?aS ?aL ?_; (case aP => exact rfl); (case aB => exact (bb_ HB)); (case aF => exact (fun _ _ => trivial)); (case aO => exact (rb_ HO_3)); (case aS => exact (below_size (bb_ HB))); (case aL => have := LMc3.out; omega); intro v108 w4 ho hb hg hat; rw [← Ny107.out] at ho; have n0_ := Aside0.mk (hb); have n1_ := Aside0.mk (ho); clear HB; clear HO_3; have HB := n0_; have HO109 := n1_; clear n0_ n1_; clear ho hb hg hat))
     go_roundg k1
     case measure => have := HK1.out; omega
     case rel => exact ⟨(x0_1 / 128), (y107), fr_, H', ⟨by have := HK1.out; omega⟩, ⟨by (with_reducible repeat (first | apply Kd.R_alloc | apply Kd.R_drewN | apply Kd.R_drew)); exact HO109.out⟩, ⟨by repeat (first | (with_reducible first | exact HB.out | apply below_alloc | apply pw_below_drewN | apply below_drew1) | exact HB.out)⟩⟩
    ·rw [if_neg c3] at H
     exact absurd H (by simp)
   ·rw [if_neg c2] at H
    have c2b0 : decide (128 ≤ x0_1) = false := decide_eq_false c2
    clear c2
    by_cases c5 : x3_1.length < 140737488355328
    ·rw [if_pos c5] at H
     have LMc5 := Aside0.mk c5
     clear c5
     obtain ⟨y110, hy110⟩ : ∃ y_ : List Int, y_ = (x3_1 ++ [(x0_1) % 256]) := ⟨_, rfl⟩
     replace H : (some y110) = some r := hx_ hy110 H
     have Ny110 := Aside0.mk hy110
     clear hy110
     obtain rfl := Option.some.inj H
     go_wp2_with (first | ((with_reducible refine gate_builtin (b := .append) (xs := #[.tmp 14, .tmp 17]) rfl ?_); at_builtin; refine Kd.R_append (Kd.int .u8) (w0 := w) w.heap.size rfl (.tmp 14) (.tmp 17) 26 5 (.int .u8 0) 1 rfl Try.underlying26 info5 rfl (by decide) (by omega) u3 x3_1 ((x0_1) % 256) [.int .u8 ((x0_1) % 256)] (fun _ => True) (fun _ => False) rfl rfl ?aP (fun _ hk => hk.elim) ?aF ?aO ?aB ?aS ?aL ?_; (case aP => exact rfl); (case aB => exact (bb_ HB)); (case aF => exact (fun _ _ => trivial)); (case aO => exact (rb_ HO_3)); (case aS => exact (below_size (bb_ HB))); (case aL => have := LMc5.out; omega); intro v111 w6 ho hb hg hat; rw [← Ny110.out] at ho; have n0_ := Aside0.mk (hb); have n1_ := Aside0.mk (ho); clear HB; clear HO_3; have HB := n0_; have HO112 := n1_; clear n0_ n1_; clear ho hb hg hat))
     go_ret
     exact ⟨_, er_, by (with_reducible repeat (first | apply Kd.R_alloc | apply Kd.R_drewN | apply Kd.R_drew)); exact HO112.out, by repeat (first | (with_reducible first | exact HB.out | apply below_alloc | apply pw_below_drewN | apply below_drew1) | exact HB.out)⟩
    ·rw [if_neg c5] at H
     exact absurd H (by simp)

/-! ### varint_Concat: function 78 -/
def varint_Concat.l0 : Nat → List Int → List (List Int) → Int → Int → Option (List Int)
 | 0, _, _, _, _ => none
 | k + 1, x3, x6, x7, x8 => if x8 < x7 then (if 0 ≤ x8 then (if x8 < (x6.length : Int) then (if x3.length + (rd_L2 x6 x8).length < 140737488355328 then (varint_Concat.l0 k (x3 ++ (rd_L2 x6 x8)) x6 x7 (wrap64 (x8 + 1))) else (none)) else (none)) else (none)) else (some x3)
def varint_Concat.f (k : Nat) (l0 : List (List Int)) : Option (List Int) := varint_Concat.l0 k ([] : List Int) l0 (l0.length : Int) 0
theorem varint_Concat.mono_l : ∀ k, (∀ y0 y1 y2 y3, LeO (varint_Concat.l0 k y0 y1 y2 y3) (varint_Concat.l0 (k + 1) y0 y1 y2 y3))
 | 0 => fun _ _ _ _ r h => by simp [varint_Concat.l0] at h
 | k + 1 => by
  have ih0 := varint_Concat.mono_l k
  ·intro y0 y1 y2 y3
   unfold varint_Concat.l0
   repeat' first
   | (with_reducible exact ih0 _ _ _ _)
   | (with_reducible exact LeO.refl _)
   | (with_reducible exact LeO.none _)
   | (with_reducible refine LeO.ite ?_ ?_)
   | (with_reducible refine LeO.bind ?_ (fun _ => ?_))
   | exact ih0 _ _ _ _
   | exact LeO.none _
   | refine LeO.ite ?_ ?_
   | refine LeO.bind ?_ (fun _ => ?_)
theorem varint_Concat.mono : ∀ a0 k, LeO (varint_Concat.f k a0) (varint_Concat.f (k + 1) a0) := by
 intro a0 k
 have ih0 := varint_Concat.mono_l k
 unfold varint_Concat.f
 repeat' first
   | (with_reducible exact ih0 _ _ _ _)
   | (with_reducible exact LeO.refl _)
   | (with_reducible exact LeO.none _)
   | (with_reducible refine LeO.ite ?_ ?_)
   | (with_reducible refine LeO.bind ?_ (fun _ => ?_))
   | exact ih0 _ _ _ _
   | exact LeO.none _
   | refine LeO.ite ?_ ?_
   | refine LeO.bind ?_ (fun _ => ?_)
set_option maxHeartbeats 8000000 in
set_option maxRecDepth 100000 in
theorem varint_Concat.calls (k : Nat) (A0 : Option Addr) (c0 : Nat) (l0 : List (List Int)) (r : List Int) (w : World) (hr0 : Kd.C (Kd.slice 5 (Kd.int .u8)) w A0 l0.length l0) (hc0 : l0.length ≤ c0) (h : varint_Concat.f k l0 = some r) :
  Calls Try.prog 78 #[.slice A0 l0.length c0] w fun e w' => ∃ v0_ : Value, e = .returned (v0_) ∧ Kd.R (Kd.int .u8) 5 w' w.heap.size (fun _ => True) v0_ r ∧ Below w.heap.size w w' := by
 have HR0 := Aside0.mk hr0
 have HC0 := Aside0.mk hc0
 clear hr0 hc0
 have HB := Aside0.mk (Below.refl w.heap.size w)
 have H : (varint_Concat.l0 k ([] : List Int) l0 (l0.length : Int) 0) = some r := h
 clear h
 have H' := Aside0.mk H
 clear H
 go_enter Try.func78, Try.ntmps78
 go_wp2
 go_loopg [3, 8] k (fun kq v3 v8 w' => ∃ (x3_1 : List Int) (x8_1 : Int), v8 = .int .i64 x8_1 ∧ Aside0 (varint_Concat.l0 kq x3_1 l0 (l0.length : Int) x8_1 = some r) ∧ Aside0 (kq ≤ k) ∧ Aside0 (Kd.R (Kd.int .u8) 5 w' w.heap.size (fun _ => True) v3 x3_1) ∧ Aside0 (Below w.heap.size w w'))
 case atStart => exact ⟨(([] : List Int)), (0), fr_, H', ⟨Nat.le_refl _⟩, ⟨by first | exact Kd.R_nil _ _ _ _ _ | exact Kd.N_nil _ _ _ _ _ | exact Kd.V_nil _ _ _ _ _ | exact Kd.Q_nil _ _ _ _ _ | exact Kd.S_nil _ _ _ _ _⟩, ⟨by repeat (first | (with_reducible first | exact HB.out | apply below_alloc | apply pw_below_drewN | apply below_drew1) | exact HB.out)⟩⟩
 case round =>
  clear H'
  obtain ⟨x3_1, x8_1, rfl, HA, HK1, HO_3, HB⟩ := hrel
  cases gk with
  | zero => exact absurd HA.out (by simp [varint_Concat.l0])
  | succ k1 =>
   have H := HA.out
   clear HA
   simp only [varint_Concat.l0] at H
   by_cases c2 : x8_1 < (l0.length : Int)
   ·rw [if_pos c2] at H
    have c2b0 : decide (x8_1 < (l0.length : Int)) = true := decide_eq_true c2
    clear c2
    by_cases c3 : 0 ≤ x8_1
    ·rw [if_pos c3] at H
     have c3b0 : decide (0 ≤ x8_1) = true := decide_eq_true c3
     clear c3
     by_cases c4 : x8_1 < (l0.length : Int)
     ·rw [if_pos c4] at H
      have c4b0 : decide (x8_1 < (l0.length : Int)) = true := decide_eq_true c4
      clear c4
      by_cases c5 : x3_1.length + (rd_L2 l0 x8_1).length < 140737488355328
      ·rw [if_pos c5] at H
       have LMc5 := Aside0.mk c5
       clear c5
       obtain ⟨y114, hy114⟩ : ∃ y_ : List Int, y_ = (x3_1 ++ (rd_L2 l0 x8_1)) := ⟨_, rfl⟩
       replace H : (varint_Concat.l0 k1 y114 l0 (l0.length : Int) (wrap64 (x8_1 + 1))) = some r := hx_ hy114 H
       have Ny114 := Aside0.mk hy114
       clear hy114
       have H' := Aside0.mk H
       clear H
       have p113 : 0 ≤ (x8_1 : Int) := of_decide_eq_true as_
       have q113 : x8_1 < (l0.length : Int) := of_decide_eq_true as_
       obtain ⟨ad113, A113_0, c113_0, e113, hx113_0, hl113_0, hi113_0⟩ := at_L2 HR0.out x8_1 p113 q113
       cases e113
       replace hx113_0 := (HB.out.cell (World.block_lt_of_cell? w _ hx113_0)).trans hx113_0
       have HR113_0 := Aside0.mk hi113_0
       have HC113_0 := Aside0.mk hl113_0
       clear hi113_0 hl113_0
       replace p113 := eq_true p113
       replace q113 := eq_true q113
       go_wp2_with (first | ((with_reducible refine gate_builtin (b := .append) (xs := #[.tmp 12, .tmp 13]) rfl ?_); at_builtin; refine Kd.R_append_rows (Kd.int .u8) (w0 := w) w.heap.size rfl (.tmp 12) (.tmp 13) 26 5 (.int .u8 0) 1 rfl Try.underlying26 info5 rfl (by decide) (by omega) u3 x3_1 (rd_L2 l0 x8_1) _ _ _ (fun _ => True) (fun _ => False) rfl rfl ?aO ?aR (fun _ _ h => h) (fun _ h => h.elim) ?aF ?aB ?aS ?aL ?_; (case aR => exact ca_ (Kd.C_below HR113_0.out HB.out)); (case aB => exact (bb_ HB)); (case aF => exact (fun _ _ => trivial)); (case aO => exact (rb_ HO_3)); (case aS => exact (below_size (bb_ HB))); (case aL => have := LMc5.out; omega); intro v115 w6 ho hb hg hat; rw [← Ny114.out] at ho; have n0_ := Aside0.mk (hb); have n1_ := Aside0.mk (ho); clear HB; clear HO_3; have HB := n0_; have HO116 := n1_; clear n0_ n1_; clear ho hb hg hat))
       go_roundg k1
       case measure => have := HK1.out; omega
       case rel => exact ⟨(y114), (wrap64 (x8_1 + 1)), fr_, H', ⟨by have := HK1.out; omega⟩, ⟨by (with_reducible repeat (first | apply Kd.R_alloc | apply Kd.R_drewN | apply Kd.R_drew)); exact HO116.out⟩, ⟨by repeat (first | (with_reducible first | exact HB.out | apply below_alloc | apply pw_below_drewN | apply below_drew1) | exact HB.out)⟩⟩
      ·rw [if_neg c5] at H
       exact absurd H (by simp)
     ·rw [if_neg c4] at H
      exact absurd H (by simp)
    ·rw [if_neg c3] at H
     exact absurd H (by simp)
   ·rw [if_neg c2] at H
    have c2b0 : decide (x8_1 < (l0.length : Int)) = false := decide_eq_false c2
    clear c2
    obtain rfl := Option.some.inj H
    go_wp2
    go_ret
    exact ⟨_, er_, by (with_reducible repeat (first | apply Kd.R_alloc | apply Kd.R_drewN | apply Kd.R_drew)); exact HO_3.out, by repeat (first | (with_reducible first | exact HB.out | apply below_alloc | apply pw_below_drewN | apply below_drew1) | exact HB.out)⟩

/-! ### bitpack_inRange: function 57 -/
def bitpack_inRange.f (a0 : Int) (a1 : Int) : Option (Bool) := if a0 ≥ 0 then (if a0 ≤ 1048576 then (if a1 ≥ 0 then (some (decide (a1 ≤ 64))) else (some false)) else (some false)) else (some false)
set_option maxHeartbeats 8000000 in
set_option maxRecDepth 100000 in
theorem bitpack_inRange.calls (a0 : Int) (a1 : Int) (r : Bool) (w : World) (h : bitpack_inRange.f a0 a1 = some r) :
  Calls Try.prog 57 #[.int .i64 a0, .int .i64 a1] w fun e w' => e = .returned (.bool r) ∧ Drawn0 w w' := by
 have H : (if a0 ≥ 0 then (if a0 ≤ 1048576 then (if a1 ≥ 0 then (some (decide (a1 ≤ 64))) else (some false)) else (some false)) else (some false)) = some r := h
 clear h
 by_cases c3 : a0 ≥ 0
 ·rw [if_pos c3] at H
  have c3b0 : decide (0 ≤ a0) = true := decide_eq_true c3
  clear c3
  by_cases c4 : a0 ≤ 1048576
  ·rw [if_pos c4] at H
   have c4b0 : decide (a0 ≤ 1048576) = true := decide_eq_true c4
   clear c4
   by_cases c5 : a1 ≥ 0
   ·rw [if_pos c5] at H
    have c5b0 : decide (0 ≤ a1) = true := decide_eq_true c5
    clear c5
    obtain rfl := Option.some.inj H
    go_enter Try.func57, Try.ntmps57
    go_wp2
    go_ret
    exact ⟨fr_, dr_⟩
   ·rw [if_neg c5] at H
    have c5b0 : decide (0 ≤ a1) = false := decide_eq_false c5
    clear c5
    obtain rfl := Option.some.inj H
    go_enter Try.func57, Try.ntmps57
    go_wp2
    go_ret
    exact ⟨fr_, dr_⟩
  ·rw [if_neg c4] at H
   have c4b0 : decide (a0 ≤ 1048576) = false := decide_eq_false c4
   clear c4
   obtain rfl := Option.some.inj H
   go_enter Try.func57, Try.ntmps57
   go_wp2
   go_ret
   exact ⟨fr_, dr_⟩
 ·rw [if_neg c3] at H
  have c3b0 : decide (0 ≤ a0) = false := decide_eq_false c3
  clear c3
  obtain rfl := Option.some.inj H
  go_enter Try.func57, Try.ntmps57
  go_wp2
  go_ret
  exact ⟨fr_, dr_⟩

/-! ### bitpack_Size: function 21 -/
def bitpack_Size.f (a0 : Int) (a1 : Int) : Option (Int) := (bitpack_inRange.f a0 a1).bind fun t117 => (if t117 = true then (some (wrap64 (Int.tdiv (wrap64 ((wrap64 (a0 * a1)) + 7)) 8))) else (some 0))
set_option maxHeartbeats 8000000 in
set_option maxRecDepth 100000 in
theorem bitpack_Size.calls (a0 : Int) (a1 : Int) (r : Int) (w : World) (h : bitpack_Size.f a0 a1 = some r) :
  Calls Try.prog 21 #[.int .i64 a0, .int .i64 a1] w fun e w' => e = .returned (.int .i64 r) ∧ Drawn0 w w' := by
 have H : ((bitpack_inRange.f a0 a1).bind fun t117 => (if t117 = true then (some (wrap64 (Int.tdiv (wrap64 ((wrap64 (a0 * a1)) + 7)) 8))) else (some 0))) = some r := h
 clear h
 replace H := Option.bind_eq_some_iff.mp H
 obtain ⟨t117, A30, H⟩ := H
 try dsimp only at H
 have A3 := Aside0.mk A30
 clear A30
 by_cases c4 : t117 = true
 ·subst c4
  have H1 : (some (wrap64 (Int.tdiv (wrap64 ((wrap64 (a0 * a1)) + 7)) 8))) = some r := by rw [if_pos rfl] at H; exact H
  clear H
  have H := H1
  clear H1
  obtain rfl := Option.some.inj H
  go_enter Try.func21, Try.ntmps21
  go_wp2_with (first | ((with_reducible refine gate_callee (f := 57) rfl ?_); refine goesL_ (some 7) rfl rfl Try.func57 (by kernel_rfl) rfl #[.int .i64 a0, .int .i64 a1] rfl ma_ ?_; (with_reducible refine (bitpack_inRange.calls a0 a1 true _ A3.out).mono ?_); rintro e w' ⟨rfl, ⟨nd, rfl⟩⟩; refine ⟨_, rfl, ?_⟩))
  go_ret
  exact ⟨fr_, dr_⟩
 ·replace c4 := Bool.eq_false_iff.mpr c4
  subst c4
  have H1 : (some 0) = some r := by rw [if_neg (show ¬ (false = true) by decide)] at H; exact H
  clear H
  have H := H1
  clear H1
  obtain rfl := Option.some.inj H
  go_enter Try.func21, Try.ntmps21
  go_wp2_with (first | ((with_reducible refine gate_callee (f := 57) rfl ?_); refine goesL_ (some 7) rfl rfl Try.func57 (by kernel_rfl) rfl #[.int .i64 a0, .int .i64 a1] rfl ma_ ?_; (with_reducible refine (bitpack_inRange.calls a0 a1 false _ A3.out).mono ?_); rintro e w' ⟨rfl, ⟨nd, rfl⟩⟩; refine ⟨_, rfl, ?_⟩))
  go_ret
  exact ⟨fr_, dr_⟩

/-! ### bitpack_Pack: function 23 -/
def bitpack_Pack.f (l0 : List Int) (a1 : Int) : Option (List Int) := if 0 ≤ a1 ∧ a1 ≤ 64 ∧ l0.length ≤ 1048576 then (if l0.all (fun x => decide (0 ≤ x) && decide (x < 18446744073709551616)) = true then some (packed l0 a1.toNat) else none) else some []
set_option maxHeartbeats 1000000 in
set_option maxRecDepth 100000 in
theorem bitpack_put (base bW bA bO width at_ : Nat) (n : Nat) (A : Option Addr) (cap : Nat) (xs : List Int) (w : World)
    (hW : w.heap[bW]? = some (.cells #[.int .i64 (width : Int)] 3 (0, 0))) (hA : w.heap[bA]? = some (.cells #[.int .i64 (at_ : Int)] 3 (0, 0))) (hO : w.heap[bO]? = some (.cells #[.slice A xs.length cap] 26 (0, 0)))
    (hR : Kd.R (Kd.int .u8) 5 w base (fun k => k ≠ bW ∧ k ≠ bA ∧ k ≠ bO) (.slice A xs.length cap) xs) (h1 : bW ≠ bA) (h2 : bW ≠ bO) (h3 : bA ≠ bO) (hbA : base ≤ bA)
    (hx : ∀ x ∈ xs, 0 ≤ x ∧ x < 256) (hle : le xs < 2 ^ at_) (hsz : at_ + width ≤ 8 * xs.length) (hmax : xs.length ≤ 140737488355328) (hw : width ≤ 64) (hn : n < 18446744073709551616) :
    Calls Try.prog 59 #[.int .u64 (n : Int), .pointer (some ⟨bW, 0, none⟩), .pointer (some ⟨bA, 0, none⟩), .pointer (some ⟨bO, 0, none⟩)] w fun e w' => e = .returned (.tuple #[]) ∧ ∃ ys : List Int, ys.length = xs.length ∧ (∀ x ∈ ys, 0 ≤ x ∧ x < 256) ∧ le ys = le xs + n % 2 ^ width * 2 ^ at_ ∧
      w'.heap[bW]? = some (.cells #[.int .i64 (width : Int)] 3 (0, 0)) ∧ w'.heap[bA]? = some (.cells #[.int .i64 ((at_ + width : Nat) : Int)] 3 (0, 0)) ∧ w'.heap[bO]? = some (.cells #[.slice A xs.length cap] 26 (0, 0)) ∧
      Kd.R (Kd.int .u8) 5 w' base (fun k => k ≠ bW ∧ k ≠ bA ∧ k ≠ bO) (.slice A xs.length cap) ys ∧ Below base w w' := by
  have HX := Aside0.mk hx
  have HR := Aside0.mk hR
  have HLE := Aside0.mk hle
  have cW : w.cell? ⟨bW, 0, none⟩ = some (.int .i64 (width : Int)) := by rw [blk_cell hW]; rfl
  clear hx hR hle
  go_enter Try.func59, Try.ntmps59
  go_wp2
  clear cW
  go_loopw [0, 5] (fun v0 v5 wr => ∃ d l a m : Nat, ∃ ys : List Int, Aside0 (d + l = width) ∧ l ≤ 64 ∧ Aside0 (a = at_ + d) ∧ Aside0 (m = n / 2 ^ d) ∧ m < 18446744073709551616 ∧ v0 = .int .u64 (m : Int) ∧ v5 = .int .i64 (l : Int) ∧ Aside0 (ys.length = xs.length) ∧ Aside0 (∀ x ∈ ys, 0 ≤ x ∧ x < 256) ∧ Aside0 (le ys = le xs + n % 2 ^ d * 2 ^ at_) ∧
      wr.heap[bW]? = some (.cells #[.int .i64 (width : Int)] 3 (0, 0)) ∧ wr.heap[bA]? = some (.cells #[.int .i64 (a : Int)] 3 (0, 0)) ∧ wr.heap[bO]? = some (.cells #[.slice A xs.length cap] 26 (0, 0)) ∧
      Aside0 (Kd.R (Kd.int .u8) 5 wr base (fun k => k ≠ bW ∧ k ≠ bA ∧ k ≠ bO) (.slice A xs.length cap) ys) ∧ Below base w wr) (fun _ v5 _ => (intOf v5).toNat)
  case atStart => exact ⟨0, width, at_, n, xs, ⟨by omega⟩, hw, ⟨rfl⟩, ⟨by simp⟩, hn, rfl, rfl, ⟨rfl⟩, HX, ⟨by simp [Nat.mod_one]⟩, hW, hA, hO, HR, Below.refl _ _⟩
  case round =>
    obtain ⟨d, l, a, m, ys, hd, hl, ha, hm, hm64, rfl, rfl, hyl, HY, HL, kW, kA, kO, HRy, hb⟩ := hrel
    by_cases hlt : 0 < l
    · obtain ⟨r, hr⟩ : ∃ r : Nat, r = a % 8 := ⟨_, rfl⟩
      obtain ⟨j, hj⟩ : ∃ j : Nat, j = a / 8 := ⟨_, rfl⟩
      have hr7 : r ≤ 7 := by omega
      have hjl : j < xs.length := by have := ha.out; have := hd.out; omega
      have ham : a ≤ 8 * xs.length := by have := ha.out; have := hd.out; omega
      have er : (a : Int) % 8 = (r : Int) := by omega
      have ej : (a : Int) / 8 = (j : Int) := by omega
      have HRJ := Aside0.mk (And.intro hr hj)
      clear hr hj
      obtain ⟨g, c0, hv, _, hglt, _⟩ := Kd.R_form HRy.out (by have := hyl.out; omega)
      obtain ⟨rfl, rfl⟩ : A = some ⟨g, 0, none⟩ ∧ cap = c0 := by injection hv with e1 e2 e3; exact ⟨e1, e3⟩
      clear hv
      have hyv : ys.getD j 0 = ((le ys / 256 ^ j % 256 : Nat) : Int) := le_get ys j HY.out
      obtain ⟨hcy, hfy⟩ := Kd.R_cell (0 : Int) (show Kd.R (Kd.int .u8) 5 wr base (fun k => k ≠ bW ∧ k ≠ bA ∧ k ≠ bO) (.slice (some ⟨g, 0, none⟩) ys.length cap) ys by rw [hyl.out]; exact HRy.out) (j : Int) (by omega) (by have := hyl.out; omega)
      obtain ⟨y, hy⟩ : ∃ y : Nat, y = le ys / 256 ^ j % 256 := ⟨_, rfl⟩
      have hcy' : wr.cell? ⟨g, j, none⟩ = some (.int .u8 (y : Int)) := by
        have : rdOf (0 : Int) ys (j : Int) = (y : Int) := by rw [hy, ← hyv]; simp [rdOf]
        rw [← this]; simpa using hcy
      have hfy' : wr.frozen? ⟨g, j, none⟩ = false := by simpa using hfy
      have HYV := Aside0.mk hy
      clear hcy hfy hyv hy
      have cA : wr.cell? ⟨bA, 0, none⟩ = some (.int .i64 (a : Int)) := by rw [blk_cell kA]; rfl
      have cO : wr.cell? ⟨bO, 0, none⟩ = some (.slice (some ⟨g, 0, none⟩) xs.length cap) := by rw [blk_cell kO]; rfl
      have fA : wr.frozen? ⟨bA, 0, none⟩ = false := blk_frozen kA 0
      have ew : IntKind.i64.wrap (j : Int) = (j : Int) := IntWalk.i64_in _ (by omega)
      have hg := HRy.out.1 g (by simp [Value.ownBlock])
      have hgn : g ≠ bA := hg.2.1
      have hgb := Kd.R_base HRy.out g (by simp [Value.ownBlock])
      have fin : ∀ t : Nat, r + t ≤ 8 → t ≤ l → 1 ≤ t → ∃ (d l_1 a_1 m_1 : Nat) (ys : List Int), Aside0 (d + l_1 = width) ∧ l_1 ≤ 64 ∧ Aside0 (a_1 = at_ + d) ∧ Aside0 (m_1 = n / 2 ^ d) ∧ m_1 < 18446744073709551616 ∧ Value.int .u64 ((m : Int) / 2 ^ t) = .int .u64 (m_1 : Int) ∧ Value.int .i64 ((l : Int) - t) = .int .i64 (l_1 : Int) ∧ Aside0 (ys.length = xs.length) ∧ Aside0 (∀ x ∈ ys, 0 ≤ x ∧ x < 256) ∧ Aside0 (le ys = le xs + n % 2 ^ d * 2 ^ at_) ∧
          ((wr.setCell ⟨g, j, none⟩ (.int .u8 (bits .or .u8 (y : Int) (bits .and .u64 (m : Int) (IntKind.u64.wrap (IntKind.u64.wrap (2 ^ t) - 1)) % 256 * 2 ^ r % 256)))).setCell ⟨bA, 0, none⟩ (.int .i64 ((a : Int) + t))).drew.heap[bW]? = some (.cells #[.int .i64 (width : Int)] 3 (0, 0)) ∧
          ((wr.setCell ⟨g, j, none⟩ (.int .u8 (bits .or .u8 (y : Int) (bits .and .u64 (m : Int) (IntKind.u64.wrap (IntKind.u64.wrap (2 ^ t) - 1)) % 256 * 2 ^ r % 256)))).setCell ⟨bA, 0, none⟩ (.int .i64 ((a : Int) + t))).drew.heap[bA]? = some (.cells #[.int .i64 (a_1 : Int)] 3 (0, 0)) ∧
          ((wr.setCell ⟨g, j, none⟩ (.int .u8 (bits .or .u8 (y : Int) (bits .and .u64 (m : Int) (IntKind.u64.wrap (IntKind.u64.wrap (2 ^ t) - 1)) % 256 * 2 ^ r % 256)))).setCell ⟨bA, 0, none⟩ (.int .i64 ((a : Int) + t))).drew.heap[bO]? = some (.cells #[.slice (some ⟨g, 0, none⟩) xs.length cap] 26 (0, 0)) ∧
          Aside0 (Kd.R (Kd.int .u8) 5 ((wr.setCell ⟨g, j, none⟩ (.int .u8 (bits .or .u8 (y : Int) (bits .and .u64 (m : Int) (IntKind.u64.wrap (IntKind.u64.wrap (2 ^ t) - 1)) % 256 * 2 ^ r % 256)))).setCell ⟨bA, 0, none⟩ (.int .i64 ((a : Int) + t))).drew base (fun k => k ≠ bW ∧ k ≠ bA ∧ k ≠ bO) (.slice (some ⟨g, 0, none⟩) xs.length cap) ys) ∧
          Below base w ((wr.setCell ⟨g, j, none⟩ (.int .u8 (bits .or .u8 (y : Int) (bits .and .u64 (m : Int) (IntKind.u64.wrap (IntKind.u64.wrap (2 ^ t) - 1)) % 256 * 2 ^ r % 256)))).setCell ⟨bA, 0, none⟩ (.int .i64 ((a : Int) + t))).drew := by
        intro t k3 k1 k4
        have hylt : y < 2 ^ r := by
          rw [HYV.out, HRJ.out.1, HRJ.out.2]
          exact byte_lt _ _ (by rw [HL.out]; exact put_lt _ _ _ _ _ HLE.out ha.out)
        obtain ⟨hb1, hb2⟩ := put_byte m y r t hm64 k3 hylt
        rw [hb1]
        have hjl2 : j < ys.length := by have := hyl.out; omega
        have hle2 := put_le ys (le xs) n at_ d a r j t y m HRJ.out.1 HRJ.out.2 ha.out hm.out HL.out hjl2 HYV.out HY.out
        have hRp := (Kd.R_put (enc := Value.int .u8) (h1 := fun _ => rfl) (show Kd.R (Kd.int .u8) 5 wr base (fun k => k ≠ bW ∧ k ≠ bA ∧ k ≠ bO) (.slice (some ⟨g, 0, none⟩) ys.length cap) ys by rw [hyl.out]; exact HRy.out) (j : Int) ((y + m % 2 ^ t * 2 ^ r : Nat) : Int)).1
        rw [Int.toNat_natCast, hyl.out] at hRp
        refine ⟨d + t, l - t, a + t, m / 2 ^ t, ys.set j ((y + m % 2 ^ t * 2 ^ r : Nat) : Int), ⟨by have := hd.out; omega⟩, by omega, ⟨by have := ha.out; omega⟩, ⟨by rw [hm.out, Nat.div_div_eq_div_mul, Nat.pow_add]⟩, Nat.lt_of_le_of_lt (Nat.div_le_self _ _) hm64, by simp, by rw [Int.natCast_sub k1], ⟨by rw [List.length_set]; exact hyl.out⟩, ⟨?_⟩, ⟨hle2⟩, ?_, ?_, ?_, ⟨?_⟩, ?_⟩
        · intro x hx
          rcases List.mem_or_eq_of_mem_set hx with h | h
          · exact HY.out x h
          · rw [h]; omega
        · exact blk_drew (blk_far (blk_far kW (Ne.symm hg.1) _) h1 _)
        · rw [show ((a + t : Nat) : Int) = (a : Int) + t by simp]
          exact blk_drew (blk_put (blk_far kA (Ne.symm hg.2.1) _) 0 _ rfl)
        · exact blk_drew (blk_far (blk_far kO (Ne.symm hg.2.2) _) (Ne.symm h3) _)
        · exact Kd.R_drew (Kd.R_far hRp (p := ⟨bA, 0, none⟩) (fun k hk => hk.2.1) _)
        · exact below_drew ((hb.setCell hgb _).setCell hbA _)
      have FIN := Aside0.mk fin
      clear fin
      by_cases hmn : 8 - r ≤ l
      · obtain ⟨t, ht⟩ : ∃ t : Nat, t = 8 - r := ⟨_, rfl⟩
        have et : 8 - (r : Int) = (t : Int) := by omega
        have k1 : (t : Int) ≤ (l : Int) := by omega
        have k2 : t ≤ 8 := by omega
        have k3 : r + t ≤ 8 := by omega
        have k4 : 1 ≤ t := by omega
        clear ht hmn
        go_wp2
        go_region
        go_wp2
        refine ⟨FIN.out t k3 (by omega) k4, ?_⟩
        simp [intOf]; omega
      · obtain ⟨t, ht⟩ : ∃ t : Nat, t = l := ⟨_, rfl⟩
        have et : (t : Int) < 8 - (r : Int) := by omega
        have k1 : t ≤ l := by omega
        have k2 : t ≤ 8 := by omega
        have k3 : r + t ≤ 8 := by omega
        have k4 : 1 ≤ t := by omega
        have hF := FIN.out t k3 k1 k4
        subst ht
        have HF := Aside0.mk hF
        clear hmn hF
        go_wp2
        go_region
        go_wp2
        refine ⟨by have h9 := HF.out; simp only [Int.sub_self] at h9; exact h9, ?_⟩
        simp [intOf]; omega
    · obtain rfl : l = 0 := by omega
      go_wp2
      go_end0
      have hdw : d = width := by have := hd.out; omega
      subst hdw
      exact ⟨rfl, ys, hyl.out, HY.out, HL.out, kW, by rw [ha.out] at kA; exact kA, kO, HRy.out, hb⟩
theorem blk_at (w : World) (o : Obj) (g : Nat) (h : g = w.heap.size) : (w.alloc o).heap[g]? = some o := by subst h; exact blk_new w o
theorem take_snoc (l : List Int) (i : Nat) (h : i < l.length) : l.take (i + 1) = l.take i ++ [l.getD i 0] := by
  rw [List.take_succ_eq_append_getElem h]; simp [List.getD, List.getElem?_eq_getElem h]
theorem pack_size (n w : Nat) (hn : n ≤ 1048576) (hw : w ≤ 64) : bitpack_inRange.f (n : Int) (w : Int) = some true ∧ bitpack_Size.f (n : Int) (w : Int) = some ((pbytes n w : Nat) : Int) := by
  have h1 : bitpack_inRange.f (n : Int) (w : Int) = some true := by
    unfold bitpack_inRange.f
    rw [if_pos (by omega), if_pos (by omega), if_pos (by omega), decide_eq_true (by omega)]
  refine ⟨h1, ?_⟩
  have hm : n * w ≤ 1048576 * 64 := Nat.mul_le_mul hn hw
  have e1 : ((n : Int) * (w : Int)) = ((n * w : Nat) : Int) := by simp
  unfold bitpack_Size.f
  rw [h1]
  simp only [Option.bind_some, if_true]
  rw [e1, w64 ((n * w : Nat) : Int) (by omega) (by omega), w64 (((n * w : Nat) : Int) + 7) (by omega) (by omega), Int.tdiv_eq_ediv_of_nonneg (by omega), w64 _ (by omega) (by omega)]
  unfold pbytes
  congr 1
theorem pbytes_le (n w : Nat) (hn : n ≤ 1048576) (hw : w ≤ 64) : pbytes n w ≤ 8388608 := by
  have hm : n * w ≤ 1048576 * 64 := Nat.mul_le_mul hn hw
  unfold pbytes; omega
set_option maxHeartbeats 1000000 in
set_option maxRecDepth 100000 in
theorem bitpack_Pack.calls (A0 : Option Addr) (c0 : Nat) (l0 : List Int) (a1 : Int) (r : List Int) (w : World) (hr0 : Kd.C (Kd.int .u64) w A0 l0.length l0) (hc0 : l0.length ≤ c0) (h : bitpack_Pack.f l0 a1 = some r) :
    Calls Try.prog 23 #[.slice A0 l0.length c0, .int .i64 a1] w fun e w' => ∃ v0_ : Value, e = .returned (v0_) ∧ Kd.R (Kd.int .u8) 5 w' w.heap.size (fun _ => True) v0_ r ∧ Below w.heap.size w w' := by
  have hmf : ∀ (fn : Fn) (first cap : Array Value) (w : World), (Instr.makeFunc fn first cap).run Try.prog w = .ok (.func fn first cap) w := fun _ _ _ _ => rfl
  have hmx := Kd.C_max hr0
  by_cases hc : 0 ≤ a1 ∧ a1 ≤ 64 ∧ l0.length ≤ 1048576
  · unfold bitpack_Pack.f at h
    rw [if_pos hc] at h
    split at h
    case isFalse => cases h
    case isTrue hu =>
    obtain rfl := Option.some.inj h
    obtain ⟨hc1, hc2, hc3⟩ := hc
    obtain ⟨W, rfl⟩ := Int.eq_ofNat_of_zero_le hc1
    obtain ⟨hi1, hi2⟩ := pack_size l0.length W hc3 (by omega)
    have hpl := pbytes_le l0.length W hc3 (by omega)
    obtain ⟨S, hS⟩ : ∃ S : Nat, S = pbytes l0.length W := ⟨_, rfl⟩
    rw [← hS] at hi2 hpl
    have HS := Aside0.mk hS
    have HI1 := Aside0.mk hi1
    have HI2 := Aside0.mk hi2
    have HR := Aside0.mk hr0
    have HU := Aside0.mk hu
    rw [Int.toNat_natCast]
    clear hr0 h hi1 hi2 hS hu hc1
    go_enter Try.func23, Try.ntmps23
    go_wp2_with (first
      | (go_at_call 57; refine (bitpack_inRange.calls _ _ true _ HI1.out).mono ?_; rintro e w' ⟨rfl, ⟨nd, rfl⟩⟩)
      | (go_at_call 21; refine (bitpack_Size.calls _ _ _ _ HI2.out).mono ?_; rintro e w' ⟨rfl, ⟨nd2, rfl⟩⟩)
      | ((with_reducible refine gate_dst (N := 18) rfl ?_); refine Kd.R_make (Kd.int .u8) (w.heap.size + 1) 5 rfl (N := 18) rfl 26 _ _ rfl (S : Int) rfl rfl Try.underlying26 (.int .u8 0) 1 info5 rfl (by decide) (by omega) 0 (ok := fun k => w.heap.size + 1 ≤ k) (okp := fun _ => False) rfl (fun _ h => h.elim) (by simp) (by omega) (by omega) (Below.refl _ _) (by simp) ?_; intro v1 w1 hR1 hb1 hg1 hat1; (generalize hz : List.replicate (S : Int).toNat (0 : Int) = zs at hR1); have HZ := Aside0.mk hz; clear hz; obtain ⟨vA, vc, rfl⟩ := Kd.R_slice hR1))
    have hH := hb1.size
    have hHs : w.heap.size + 1 ≤ w1.heap.size := by have := hg1.size; simpa using this
    have hB0 : w1.heap[w.heap.size]? = some (.cells #[.int .i64 (W : Int)] 3 (0, 0)) := blk_grown (blk_drewN (blk_new _ _) _) hg1 (by simp)
    go_loopw [22] (fun v22 wr => ∃ (i p : Nat) (ys : List Int), i ≤ l0.length ∧ v22 = .int .i64 (i : Int) ∧ Aside0 (p = W * i) ∧ Aside0 (ys.length = zs.length) ∧ Aside0 (∀ x ∈ ys, 0 ≤ x ∧ x < 256) ∧ Aside0 (le ys = packN W (l0.take i)) ∧
      wr.heap[w.heap.size]? = some (.cells #[.int .i64 (W : Int)] 3 (0, 0)) ∧ wr.heap[w1.heap.size + 1]? = some (.cells #[.int .i64 (p : Int)] 3 (0, 0)) ∧ wr.heap[w1.heap.size]? = some (.cells #[.slice vA zs.length vc] 26 (0, 0)) ∧
      Aside0 (Kd.R (Kd.int .u8) 5 wr w.heap.size (fun k => k ≠ w.heap.size ∧ k ≠ w1.heap.size + 1 ∧ k ≠ w1.heap.size) (.slice vA zs.length vc) ys) ∧ Below w.heap.size w wr) (fun v22 _ => l0.length - (intOf v22).toNat)
    case atStart =>
      refine ⟨0, 0, zs, Nat.zero_le _, rfl, ⟨by simp⟩, ⟨rfl⟩, ⟨?_⟩, ⟨?_⟩, blk_alloc (blk_alloc hB0 _) _, blk_at _ _ _ (by simp), blk_alloc (blk_at _ _ _ rfl) _, ⟨Kd.R_alloc (Kd.R_alloc (Kd.R_lower (Kd.R_mono (Kd.R_bound hR1) (fun k hk => by omega)) (by omega)) _) _⟩, ?_⟩
      · intro x hx; rw [← HZ.out] at hx; have := List.eq_of_mem_replicate hx; omega
      · rw [← HZ.out, le_zeros]; rfl
      · exact below_alloc (below_alloc ((pw_below_drewN (below_alloc (Below.refl _ _) _) _).trans (hb1.mono (by omega))) _) _
    case round =>
      obtain ⟨i, p, ys, hi, rfl, hp, hyl, HY, HL, kW, kA, kO, HRy, hb⟩ := hrel
      by_cases hlt : i < l0.length
      · obtain ⟨ad, rfl, hcx⟩ := Kd.at_int HR.out (i : Int) (by omega) (by omega)
        have hcx' := pw_cell_below hb hcx
        rw [Int.toNat_natCast] at hcx'
        have hu1 : 0 ≤ rd l0 (i : Int) ∧ rd l0 (i : Int) < 18446744073709551616 := by
          have h1 := HU.out
          simp only [List.all_eq_true, Bool.and_eq_true, decide_eq_true_eq] at h1
          exact h1 _ (by rw [rd_nat, List.getD_eq_getElem?_getD, List.getElem?_eq_getElem hlt]; exact List.getElem_mem _)
        obtain ⟨n, hn⟩ : ∃ n : Nat, rd l0 (i : Int) = (n : Int) := ⟨(rd l0 (i : Int)).toNat, by omega⟩
        have hn64 : n < 18446744073709551616 := by omega
        rw [hn] at hcx'
        have HN := Aside0.mk hn
        clear hcx hu1 hn
        have hlt' : (i : Int) < (l0.length : Int) := by omega
        have hzS : zs.length = S := by rw [← HZ.out]; simp
        have HZS := Aside0.mk hzS
        clear hzS
        go_wp2_with (go_at_call 59; refine (bitpack_put w.heap.size w.heap.size (w1.heap.size + 1) w1.heap.size W p n vA vc ys _ kW kA (by rw [hyl.out]; exact kO) (by rw [hyl.out]; exact HRy.out) (by omega) (by omega) (by omega) (by omega) HY.out ?c1 ?c2 ?c3 (by omega) hn64).mono ?_)
        case c1 =>
          rw [HL.out, hp.out]
          have := packN_lt W (l0.take i)
          rwa [List.length_take, Nat.min_eq_left (by omega)] at this
        case c2 =>
          have h1 := hp.out; have h2 := hyl.out; have h3 := HZS.out; have h4 := HS.out
          rw [h2, h3, h4, h1]
          unfold pbytes
          have h5 : W * i + W ≤ l0.length * W := by rw [← Nat.mul_succ, Nat.mul_comm]; exact Nat.mul_le_mul_right _ hlt
          omega
        case c3 => have h2 := hyl.out; have h3 := HZS.out; omega
        rintro e w2 ⟨rfl, ys2, q1, q2, q3, q4, q5, q6, q7, q8⟩
        go_wp2
        go_roundw
        case rel =>
          refine ⟨i + 1, p + W, ys2, by omega, by go_num, ⟨by rw [hp.out, Nat.mul_succ]⟩, ⟨by rw [q1, hyl.out]⟩, ⟨q2⟩, ⟨?_⟩, q4, q5, by rw [hyl.out] at q6; exact q6, ⟨by rw [hyl.out] at q7; exact q7⟩, hb.trans q8⟩
          rw [q3, HL.out, take_snoc l0 i hlt, packN_snoc, hp.out, List.length_take, Nat.min_eq_left (by omega)]
          have h1 := HN.out
          rw [rd_nat] at h1
          rw [h1, Int.toNat_natCast]
        case measure => simp [intOf]; omega
      · have hil : i = l0.length := by omega
        subst hil
        have cO : wr.cell? ⟨w1.heap.size, 0, none⟩ = some (.slice vA zs.length vc) := by rw [blk_cell kO]; rfl
        have hpk : ys = packed l0 W := by
          unfold packed
          have h1 := HL.out
          rw [List.take_length] at h1
          rw [← h1, ← HS.out, ← show ys.length = S by rw [hyl.out, ← HZ.out]; simp]
          exact (fixed_le ys HY.out).symm
        have HPK := Aside0.mk hpk
        clear hpk
        go_wp2
        go_ret
        exact ⟨_, rfl, by rw [← HPK.out]; exact Kd.R_mono HRy.out (fun _ _ => trivial), hb⟩
  · unfold bitpack_Pack.f at h
    rw [if_neg hc] at h
    obtain rfl := Option.some.inj h
    have hi1 : bitpack_inRange.f (l0.length : Int) a1 = some false := by
      unfold bitpack_inRange.f
      rw [if_pos (by omega)]
      by_cases k1 : (l0.length : Int) ≤ 1048576
      · rw [if_pos k1]
        by_cases k2 : a1 ≥ 0
        · rw [if_pos k2, decide_eq_false (by omega)]
        · rw [if_neg k2]
      · rw [if_neg k1]
    have HI1 := Aside0.mk hi1
    clear hi1 h hc
    go_enter Try.func23, Try.ntmps23
    go_wp2_with (go_at_call 57; refine (bitpack_inRange.calls _ _ false _ HI1.out).mono ?_; rintro e w' ⟨rfl, ⟨nd, rfl⟩⟩)
    go_ret
    exact ⟨_, rfl, Kd.R_nil _ _ _ _ _, pw_below_drewN (below_alloc (Below.refl _ _) _) _⟩

end Go.Proofs.Ytllhbjkkoogeeaa.QDeltaDecode
