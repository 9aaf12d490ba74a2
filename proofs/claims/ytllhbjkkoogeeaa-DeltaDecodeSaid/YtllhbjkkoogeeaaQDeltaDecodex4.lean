-- Written by a program of this session (wip/pr2.sh): the walk of the Go text, function by function.
import Derived.Test.YtllhbjkkoogeeaaQDeltaDecodex0
import Derived.Test.YtllhbjkkoogeeaaQDeltaDecodex1
import Derived.Test.YtllhbjkkoogeeaaQDeltaDecodex3
namespace Go.Proofs.Ytllhbjkkoogeeaa.QDeltaDecode
open Go.RowKit Go.Proofs.YtllhbjkkoogeeaaW.PrintWords Go.Proofs.YtllhbjkkoogeeaaW.PrintLast Go.Proofs.YtllhbjkkoogeeaaW.PrintMore
open Go.Proofs.YtllhbjkkoogeeaaM
attribute [local go_sem] max2_int min2_int max_two min_two max_three min_three max_four min_four   -- for this text's walks alone
set_option linter.unusedVariables false
set_option linter.unusedSimpArgs false

/-! ### delta_Encode: function 31 -/
theorem goesV_ {P : Program} {ops : Array Oper} {Q : Exit → Act → World → Prop} {oi : Oper} {N : Option Tmp} {a : Act} {w : World} {K : Act → World → Prop} {f : FuncId} {fn : Func} {sa : Array Operand} {ts : Array TypeId} (n : Tmp) (hf : P.funcs[f]? = some fn) (hname : (fn.name == "runtime.NumGoroutine") = false) (hb : fn.body.isSome = true) (args : Array Value)
  (hw : Region.wanted oi (yielded ops a.tmps) = true) (hN : oi.dst = N) (hop : oi.op = .call { callee := .value (.tmp n), args := sa, argTypes := ts }) (hv : a.eval (.tmp n) = .func (.func f) #[] #[]) (hargs : sa.map a.eval = args)
  (h : Calls P f args w fun e w' => ∃ v, e = .returned v ∧ K (a.put N v) w') : if Region.wanted oi (yielded ops a.tmps) = true then Oper.wp P oi a w K Q else K (a.put N undef) w := by
 refine call_ f args hw hN ?_ h
 have he := enters_ hf hname hb args w
 unfold execOp
 simp [hop, resolve, Deferred.ofValue, invoke, hv, hargs, he]
def delta_Encode.f (k : Nat) (l0 : List Int) : Option (List Int) := if (l0.length : Int) > 65536 then (some ([] : List Int)) else ((delta_Differences.f k l0).bind fun t126 => (if 0 ≤ (mn 1 (l0.length : Int)) then (if (mn 1 (l0.length : Int)) ≤ (l0.length : Int) then ((delta_Encode_1.f 1 (l0.take ((mn 1 (l0.length : Int)) : Int).toNat) t126).bind fun t130 => (if (l0.length : Int) < 2 then (some t130) else (if 0 < (l0.length : Int) then (if 0 < (t126.length : Int) then ((delta_Differences.f k t126).bind fun t138 => ((delta_Encode_1.f 2 (([rd l0 0, rd t126 0] : List Int)) t138).bind fun t141 => (if (t141.length : Int) < (t130.length : Int) then (some t141) else (some t130)))) else (none)) else (none)))) else (none)) else (none)))
theorem delta_Encode.mono : ∀ a0 k, LeO (delta_Encode.f k a0) (delta_Encode.f (k + 1) a0) := by
 intro a0 k
 unfold delta_Encode.f
 repeat' first
   | (with_reducible exact delta_Differences.mono _ _)
   | (with_reducible exact LeO.refl _)
   | (with_reducible exact LeO.none _)
   | (with_reducible refine LeO.ite ?_ ?_)
   | (with_reducible refine LeO.bind ?_ (fun _ => ?_))
   | exact delta_Differences.mono _ _
   | exact LeO.none _
   | refine LeO.ite ?_ ?_
   | refine LeO.bind ?_ (fun _ => ?_)
def delta_Encode.T8 : Bool × List (List Nat × List Nat) := (true, [([], []), ([], []), ([1], [1]), ([2], [2]), ([], []), ([4], [4]), ([5], [5]), ([3, 6], [3, 6]), ([], []), ([8], [8]), ([0, 7, 9, 9], [0, 7, 9]), ([10, 10, 0, 1, 2, 3, 4, 5, 6, 7, 8, 9, 10], [10])])
def delta_Encode.B8 : List Nat := [0, 0, 2, 6, 0, 16, 48, 126, 0, 256, 1023, 2047]
theorem delta_Encode.tab8 : rtab .any (opsOf Try.f31 8) = delta_Encode.T8 := by kernel_rfl
theorem delta_Encode.bits8 : waitsOk delta_Encode.T8.2 delta_Encode.B8 = true := by kernel_rfl
set_option maxHeartbeats 8000000 in
set_option maxRecDepth 100000 in
theorem delta_Encode.calls (k : Nat) (A0 : Option Addr) (c0 : Nat) (l0 : List Int) (r : List Int) (w : World) (hr0 : Kd.C (Kd.int .i64) w A0 l0.length l0) (hc0 : l0.length ≤ c0) (h : delta_Encode.f k l0 = some r) :
  Calls Try.prog 31 #[.slice A0 l0.length c0] w fun e w' => ∃ v0_ : Value, e = .returned (v0_) ∧ Kd.R (Kd.int .u8) 5 w' w.heap.size (fun _ => True) v0_ r ∧ Below w.heap.size w w' := by
 have HR0 := Aside0.mk hr0
 have HC0 := Aside0.mk hc0
 clear hr0 hc0
 have HB := Aside0.mk (Below.refl w.heap.size w)
 have H : (if (l0.length : Int) > 65536 then (some ([] : List Int)) else ((delta_Differences.f k l0).bind fun t126 => (if 0 ≤ (mn 1 (l0.length : Int)) then (if (mn 1 (l0.length : Int)) ≤ (l0.length : Int) then ((delta_Encode_1.f 1 (l0.take ((mn 1 (l0.length : Int)) : Int).toNat) t126).bind fun t130 => (if (l0.length : Int) < 2 then (some t130) else (if 0 < (l0.length : Int) then (if 0 < (t126.length : Int) then ((delta_Differences.f k t126).bind fun t138 => ((delta_Encode_1.f 2 (([rd l0 0, rd t126 0] : List Int)) t138).bind fun t141 => (if (t141.length : Int) < (t130.length : Int) then (some t141) else (some t130)))) else (none)) else (none)))) else (none)) else (none)))) = some r := h
 clear h
 by_cases c2 : (l0.length : Int) > 65536
 ·rw [if_pos c2] at H
  have c2b0 : decide (65536 < (l0.length : Int)) = true := decide_eq_true c2
  have c2b1 : decide (65536 < l0.length) = true := decide_eq_true (by omega)
  clear c2
  obtain rfl := Option.some.inj H
  go_enter Try.func31, Try.ntmps31
  go_wp2
  go_ret
  exact ⟨_, er_, by first | exact Kd.R_nil _ _ _ _ _ | exact Kd.N_nil _ _ _ _ _ | exact Kd.V_nil _ _ _ _ _ | exact Kd.Q_nil _ _ _ _ _ | exact Kd.S_nil _ _ _ _ _, by repeat (first | (with_reducible first | exact HB.out | apply below_alloc | apply pw_below_drewN | apply below_drew1) | exact HB.out)⟩
 ·rw [if_neg c2] at H
  have c2b0 : decide (65536 < (l0.length : Int)) = false := decide_eq_false c2
  have c2b1 : decide (65536 < l0.length) = false := decide_eq_false (by omega)
  clear c2
  replace H := Option.bind_eq_some_iff.mp H
  obtain ⟨t126, A30, H⟩ := H
  try dsimp only at H
  have A3 := Aside0.mk A30
  clear A30
  obtain ⟨ji4, hji4⟩ : ∃ j_ : Int, (mn 1 (l0.length : Int)) = j_ := ⟨_, rfl⟩
  replace H : (if 0 ≤ (ji4) then (if (ji4) ≤ (l0.length : Int) then ((delta_Encode_1.f 1 (l0.take ((ji4) : Int).toNat) t126).bind fun t130 => (if (l0.length : Int) < 2 then (some t130) else (if 0 < (l0.length : Int) then (if 0 < (t126.length : Int) then ((delta_Differences.f k t126).bind fun t138 => ((delta_Encode_1.f 2 (([rd l0 0, rd t126 0] : List Int)) t138).bind fun t141 => (if (t141.length : Int) < (t130.length : Int) then (some t141) else (some t130)))) else (none)) else (none)))) else (none)) else (none)) = some r := by first | (rw [hji4] at H; exact H) | (simp only [hji4] at H ⊢; exact H)
  (try rw [hji4] at A3)
  (try (have hji4h : ji4 ≤ 1 := by (rw [← hji4]; unfold mn; (repeat' split) <;> omega)))
  (try (have hji4g : ji4 ≤ 64 := by omega))
  (try (have hji4l : 0 ≤ ji4 := by (rw [← hji4]; unfold mn; (repeat' split) <;> omega)))
  (try (have hji4m : 0 ≤ ji4 := by omega))
  have hji4_ : (if (l0.length : Int) < 1 then (l0.length : Int) else 1) = ji4 := hji4
  by_cases c5 : 0 ≤ (ji4)
  ·rw [if_pos c5] at H
   have c5b0 := eq_true c5
   have c5b1 : decide (0 ≤ (ji4)) = true := decide_eq_true c5
   clear c5
   by_cases c6 : (ji4) ≤ (l0.length : Int)
   ·rw [if_pos c6] at H
    have c6b0 := eq_true c6
    have c6b1 : decide ((ji4) ≤ (l0.length : Int)) = true := decide_eq_true c6
    clear c6
    replace H := Option.bind_eq_some_iff.mp H
    obtain ⟨t130, A70, H⟩ := H
    try dsimp only at H
    have A7 := Aside0.mk A70
    clear A70
    by_cases c8 : (l0.length : Int) < 2
    ·rw [if_pos c8] at H
     have c8b0 : decide ((l0.length : Int) < 2) = true := decide_eq_true c8
     have c8b1 : decide (l0.length < 2) = true := decide_eq_true (by omega)
     clear c8
     obtain rfl := Option.some.inj H
     go_enter Try.func31, Try.ntmps31
     go_wp2_with (first | ((with_reducible refine gate_callee (f := 48) rfl ?_); refine goesL_ (some 11) rfl rfl Try.func48 (by kernel_rfl) rfl #[.slice A0 l0.length c0] rfl ma_ ?_; (with_reducible refine (delta_Differences.calls k _ _ l0 t126 _ ?side1 ?side2 A3.out).mono ?_); (case side1 => exact ca_ HR0.out); (case side2 => exact HC0.out); rintro e w9 ⟨v127, rfl, ho0, hb⟩; refine ⟨_, rfl, ?_⟩; have n0_ := Aside0.mk (Kd.R_lower ho0 (below_size (bb_ HB))); have n1_ := Aside0.mk (below_step (bb_ HB) hb); clear HB; have HO128 := n0_; have HB := n1_; clear n0_ n1_; (try clear hb); (try clear hb2); (try clear hk); (try clear hi); (try clear ho0); obtain ⟨i010, hi010, _, hsz10, _⟩ := info_parts info2; obtain ⟨hcut10, hA10, hC10⟩ := print_take_of (P := Try.prog) (Value.int .i64) 0 38 2 .i64 Try.underlying38 hi010 hsz10 A0 c0 l0 (ji4) (of_decide_eq_true as_) (of_decide_eq_true as_) HC0.out; have HR129 := Aside0.mk (Kd.C_of_reads (h1 := fun _ => rfl) (hA10 _ (Kd.reads_of_C HR0.out))); have HC129 := Aside0.mk hC10; clear hA10 hC10 hi010 hsz10; obtain ⟨S10, hS10⟩ : ∃ s_ : List Int, s_ = (l0.take ((ji4) : Int).toNat) := ⟨_, rfl⟩; have g0_ := HR129.out; rw [← hS10] at g0_; clear HR129; have HR129 := Aside0.mk g0_; clear g0_; have g0_ := HC129.out; rw [← hS10] at g0_; clear HC129; have HC129 := Aside0.mk g0_; clear g0_; have g0_ := A7.out; rw [← hS10] at g0_; clear A7; have A7 := Aside0.mk g0_; clear g0_; rw [← hS10] at hcut10; have NS10 := Aside0.mk hS10; clear hS10; obtain ⟨Ao11, co11, eo11⟩ := Kd.R_slice HO128.out; subst eo11) | (go_at_call 63; (with_reducible refine (delta_Encode_1.calls 1 _ _ S10 _ _ t126 t130 _ ?side1 ?side2 ?side3 ?side4 A7.out).mono ?_); (case side1 => exact ca_ (Kd.C_below HR129.out HB.out)); (case side2 => exact HC129.out); (case side3 => exact ca_ (Kd.R_reads' HO128.out).2.2); (case side4 => exact (Kd.R_reads' HO128.out).2.1); rintro e w12 ⟨v131, rfl, ho0, hb⟩; have n0_ := Aside0.mk (Kd.R_below (rb_ HO128) hb); have n1_ := Aside0.mk (Kd.R_lower ho0 (below_size (bb_ HB))); have n2_ := Aside0.mk (below_step (bb_ HB) hb); clear HO128; clear HB; have HO128 := n0_; have HO132 := n1_; have HB := n2_; clear n0_ n1_ n2_; (try clear hb); (try clear hb2); (try clear hk); (try clear hi); (try clear ho0)))
     go_ret
     exact ⟨_, by first | rfl | (simp [errW_none, errW_some] <;> rfl) | (simp only [← hji4]; first | rfl | (simp [errW_none, errW_some] <;> rfl)) | (simp [*, errW_none, errW_some] <;> rfl), by (with_reducible repeat (first | apply Kd.R_alloc | apply Kd.R_drewN | apply Kd.R_drew)); exact HO132.out, by repeat (first | (with_reducible first | exact HB.out | apply below_alloc | apply pw_below_drewN | apply below_drew1) | exact HB.out)⟩
    ·rw [if_neg c8] at H
     have c8b0 : decide ((l0.length : Int) < 2) = false := decide_eq_false c8
     have c8b1 : decide (l0.length < 2) = false := decide_eq_false (by omega)
     clear c8
     by_cases c13 : 0 < (l0.length : Int)
     ·rw [if_pos c13] at H
      have c13b0 : decide (0 < (l0.length : Int)) = true := decide_eq_true c13
      have c13b1 : decide (0 < l0.length) = true := decide_eq_true (by omega)
      clear c13
      by_cases c14 : 0 < (t126.length : Int)
      ·rw [if_pos c14] at H
       have c14b0 : decide (0 < (t126.length : Int)) = true := decide_eq_true c14
       have c14b1 : decide (0 < t126.length) = true := decide_eq_true (by omega)
       clear c14
       obtain ⟨y135, hy135⟩ : ∃ y_ : List Int, y_ = (([rd l0 0, rd t126 0] : List Int)) := ⟨_, rfl⟩
       replace H : ((delta_Differences.f k t126).bind fun t138 => ((delta_Encode_1.f 2 y135 t138).bind fun t141 => (if (t141.length : Int) < (t130.length : Int) then (some t141) else (some t130)))) = some r := hx_ hy135 H
       have Ny135 := Aside0.mk hy135
       clear hy135
       replace H := Option.bind_eq_some_iff.mp H
       obtain ⟨t138, A150, H⟩ := H
       try dsimp only at H
       have A15 := Aside0.mk A150
       clear A150
       replace H := Option.bind_eq_some_iff.mp H
       obtain ⟨t141, A160, H⟩ := H
       try dsimp only at H
       have A16 := Aside0.mk A160
       clear A160
       by_cases c17 : (t141.length : Int) < (t130.length : Int)
       ·rw [if_pos c17] at H
        have c17b0 : decide ((t141.length : Int) < (t130.length : Int)) = true := decide_eq_true c17
        have c17b1 : decide (t141.length < t130.length) = true := decide_eq_true (Int.ofNat_lt.mp c17)
        clear c17
        obtain rfl := Option.some.inj H
        go_enter Try.func31, Try.ntmps31
        try go_wp2_with (first | ((with_reducible refine gate_callee (f := 48) rfl ?_); refine goesL_ (some 11) rfl rfl Try.func48 (by kernel_rfl) rfl #[.slice A0 l0.length c0] rfl ma_ ?_; (with_reducible refine (delta_Differences.calls k _ _ l0 t126 _ ?side1 ?side2 A3.out).mono ?_); (case side1 => exact ca_ HR0.out); (case side2 => exact HC0.out); rintro e w18 ⟨v127, rfl, ho0, hb⟩; refine ⟨_, rfl, ?_⟩; have n0_ := Aside0.mk (Kd.R_lower ho0 (below_size (bb_ HB))); have n1_ := Aside0.mk (below_step (bb_ HB) hb); clear HB; have HO128 := n0_; have HB := n1_; clear n0_ n1_; (try clear hb); (try clear hb2); (try clear hk); (try clear hi); (try clear ho0); obtain ⟨i019, hi019, _, hsz19, _⟩ := info_parts info2; obtain ⟨hcut19, hA19, hC19⟩ := print_take_of (P := Try.prog) (Value.int .i64) 0 38 2 .i64 Try.underlying38 hi019 hsz19 A0 c0 l0 (ji4) (of_decide_eq_true as_) (of_decide_eq_true as_) HC0.out; have HR129 := Aside0.mk (Kd.C_of_reads (h1 := fun _ => rfl) (hA19 _ (Kd.reads_of_C HR0.out))); have HC129 := Aside0.mk hC19; clear hA19 hC19 hi019 hsz19; obtain ⟨S19, hS19⟩ : ∃ s_ : List Int, s_ = (l0.take ((ji4) : Int).toNat) := ⟨_, rfl⟩; have g0_ := HR129.out; rw [← hS19] at g0_; clear HR129; have HR129 := Aside0.mk g0_; clear g0_; have g0_ := HC129.out; rw [← hS19] at g0_; clear HC129; have HC129 := Aside0.mk g0_; clear g0_; have g0_ := A7.out; rw [← hS19] at g0_; clear A7; have A7 := Aside0.mk g0_; clear g0_; rw [← hS19] at hcut19; have NS19 := Aside0.mk hS19; clear hS19; obtain ⟨Ao20, co20, eo20⟩ := Kd.R_slice HO128.out; subst eo20) | (go_at_call 63; (with_reducible refine (delta_Encode_1.calls 1 _ _ S19 _ _ t126 t130 _ ?side1 ?side2 ?side3 ?side4 A7.out).mono ?_); (case side1 => exact ca_ (Kd.C_below HR129.out HB.out)); (case side2 => exact HC129.out); (case side3 => exact ca_ (Kd.R_reads' HO128.out).2.2); (case side4 => exact (Kd.R_reads' HO128.out).2.1); rintro e w21 ⟨v131, rfl, ho0, hb⟩; have n0_ := Aside0.mk (Kd.R_below (rb_ HO128) hb); have n1_ := Aside0.mk (Kd.R_lower ho0 (below_size (bb_ HB))); have n2_ := Aside0.mk (below_step (bb_ HB) hb); clear HO128; clear HB; have HO128 := n0_; have HO132 := n1_; have HB := n2_; clear n0_ n1_ n2_; (try clear hb); (try clear hb2); (try clear hk); (try clear hi); (try clear ho0)))
        have n0_ := Aside0.mk (Kd.R_drew HO128.out)
        have n1_ := Aside0.mk (Kd.R_drew HO132.out)
        have n2_ := Aside0.mk (below_drew1 HB.out)
        clear HO128
        clear HO132
        clear HB
        have HO128 := n0_
        have HO132 := n1_
        have HB := n2_
        clear n0_ n1_ n2_
        have p133 : 0 ≤ (0 : Int) := (by omega)
        have q133 : 0 < (l0.length : Int) := of_decide_eq_true as_
        obtain ⟨ad133, e133, hx133_0⟩ := Kd.at_int HR0.out 0 p133 q133
        have hw133_0 := hx133_0
        (try rw [show ((0 : Int)).toNat = 0 from rfl] at hw133_0)
        (try rw [show 0 * 1 = 0 from rfl] at hw133_0)
        (try rw [Addr.add_zero'] at hw133_0)
        cases e133
        have qi133 : (0 < l0.length) = True := eq_true (by omega)
        (try rw [show ((0 : Int)).toNat = 0 from rfl] at hx133_0)
        (try rw [Addr.add_zero'] at hx133_0)
        replace hx133_0 := (HB.out.cell (World.block_lt_of_cell? w _ hx133_0)).trans hx133_0
        replace p133 := eq_true p133
        replace q133 := eq_true q133
        have p134 : 0 ≤ (0 : Int) := (by omega)
        have q134 : 0 < (t126.length : Int) := of_decide_eq_true as_
        obtain ⟨ad134, e134, hx134_0⟩ := Kd.at_int (Kd.R_reads' HO128.out).2.2 0 p134 q134
        cases e134
        have qi134 : (0 < t126.length) = True := eq_true (by omega)
        (try rw [show ((0 : Int)).toNat = 0 from rfl] at hx134_0)
        (try rw [Addr.add_zero'] at hx134_0)
        replace p134 := eq_true p134
        replace q134 := eq_true q134
        refine start_ (n := 12) (S := fun w' => True) (ds := []) #[false, false, false, false, false, false, false, false, false, false, false, false] (by kernel_rfl) rfl rfl trivial (fun hHeld => ?_); refine with_tabW delta_Encode.tab8 delta_Encode.bits8 (fun HT_ HW_ => ?_)
        generalize w21.drew = w22 at HO128 HO132 HB hx133_0 hx134_0 hHeld ⊢
        refine pure_ (i := 0) (N := some 24) (v := ?_) (a' := ?_) #[true, false, false, false, false, false, false, false, false, false, false, false] rfl rfl (any_of HT_.out (by kernel_rfl)) (fun _ _ _ h => h) (Or.inl ⟨by rfl, ?_⟩) ?_ ?_
        rotate_left
        ·intro w'
         go_simp
         with_reducible rfl
        rotate_left
        ·simp only [Act.put, List.setIfInBounds_toArray, List.set_cons_zero, List.set_cons_succ, i64_w, i32_w]
         rfl
        refine pure_ (i := 1) (N := some 25) (v := ?_) (a' := ?_) #[true, true, false, false, false, false, false, false, false, false, false, false] rfl rfl (any_of HT_.out (by kernel_rfl)) (fun _ _ _ h => h) (Or.inl ⟨by rfl, ?_⟩) ?_ ?_
        rotate_left
        ·intro w'
         go_simp
         with_reducible rfl
        rotate_left
        ·simp only [Act.put, List.setIfInBounds_toArray, List.set_cons_zero, List.set_cons_succ, i64_w, i32_w]
         rfl
        refine pure_ (i := 4) (N := some 28) (v := ?_) (a' := ?_) #[true, true, false, false, true, false, false, false, false, false, false, false] rfl rfl (any_of HT_.out (by kernel_rfl)) (fun _ _ _ h => h) (Or.inl ⟨by rfl, ?_⟩) ?_ ?_
        rotate_left
        ·intro w'
         go_simp
         with_reducible rfl
        rotate_left
        ·simp only [Act.put, List.setIfInBounds_toArray, List.set_cons_zero, List.set_cons_succ, i64_w, i32_w]
         rfl
        refine pure_ (i := 8) (N := some 32) (v := ?_) (a' := ?_) #[true, true, false, false, true, false, false, false, true, false, false, false] rfl rfl (any_of HT_.out (by kernel_rfl)) (fun _ _ _ h => h) (Or.inl ⟨by rfl, ?_⟩) ?_ ?_
        rotate_left
        ·intro w'
         go_simp
         with_reducible rfl
        rotate_left
        ·simp only [Act.put, List.setIfInBounds_toArray, List.set_cons_zero, List.set_cons_succ, i64_w, i32_w]
         rfl
        refine inv_at [2, 3, 5, 6, 7, 9, 10, 11] (fun a0_ b a w' => ∃ (v136 : Value) (v139 : Value) (v142 : Value) (m11_ : Value), a = putSel a0_ b [(2, 26, .pointer (some ad133)), (3, 27, .int .i64 (rd l0 0)), (5, 29, .pointer (some ad134)), (6, 30, .int .i64 (rd t126 0)), (7, 31, v136), (9, 33, v139), (10, 34, v142), (11, 6, m11_)] ∧ (Kd.R (Kd.int .i64) 2 w' w.heap.size (fun _ => True) (.slice (some ad134) t126.length co20) t126) ∧ (Kd.R (Kd.int .u8) 5 w' w.heap.size (fun _ => True) v131 t130) ∧ (Below w.heap.size w w') ∧ (b 7 = true → Kd.R (Kd.int .i64) 2 w' w.heap.size (fun k_ => some k_ ≠ (.slice (some ad134) t126.length co20 : Value).ownBlock) v136 y135) ∧ (b 9 = true → Kd.R (Kd.int .i64) 2 w' w.heap.size (fun k_ => some k_ ≠ (.slice (some ad134) t126.length co20 : Value).ownBlock) v139 t138) ∧ (b 10 = true → Kd.R (Kd.int .u8) 5 w' w.heap.size (fun k_ => some k_ ≠ (v131 : Value).ownBlock) v142 t141) ∧ (b 11 = true → (m11_ : Value) = v142)) HT_.out HW_.out (by kernel_rfl) (by kernel_rfl) ?_ ?_ ?_
        ·exact ⟨.bool false, .bool false, .bool false, .bool false, by simp only [putSel, Bool.false_eq_true, if_false], HO128.out, HO132.out, HB.out, fun h_ => absurd h_ (by decide), fun h_ => absurd h_ (by decide), fun h_ => absurd h_ (by decide), fun h_ => absurd h_ (by decide)⟩
        ·skip
         clear HB HO128 HO132
         refine steps_cons ?_ ?_
         ·rintro b a w' ⟨v136, v139, v142, m11_, ha, Q_HO128, Q_HO132, Q_HB, Q_HO137, Q_HO140, Q_HO143, Q_X11_⟩ hb_ hon hoff
          refine ⟨_, rfl, fun K hK => ?_⟩
          have e25 : a.tmps[25]? = some (.slice (some ad133) l0.length c0) := by rw [ha]; exact (putSel_off rfl).trans rfl
          replace ha := Aside0.mk ha
          have HO128 := Aside0.mk Q_HO128
          have HO132 := Aside0.mk Q_HO132
          have HB := Aside0.mk Q_HB
          have hs0_ : w'.cell? ad133 = some (.int .i64 (rd l0 0)) := ((HB.out.cell (World.block_lt_of_cell? w _ hw133_0)).trans hw133_0)
          refine value_ (w1 := w') (v := .pointer (some ad133)) (by rfl) rfl ?_ ?_
          ·go_simp
           (try simp only [i64_w])
           try rfl
          refine hK.out _ _ ⟨v136, v139, v142, m11_, (by rw [ha.out]; exact putSel_upk 0 hb_ rfl rfl rfl), Q_HO128, Q_HO132, Q_HB, fun h0_ => absurd ((hoff 7 (by kernel_rfl)).symm.trans h0_) (by decide), Q_HO140, fun h0_ => absurd ((hoff 10 (by kernel_rfl)).symm.trans h0_) (by decide), fun h0_ => absurd ((hoff 11 (by kernel_rfl)).symm.trans h0_) (by decide)⟩
         refine steps_cons ?_ ?_
         ·rintro b a w' ⟨v136, v139, v142, m11_, ha, Q_HO128, Q_HO132, Q_HB, Q_HO137, Q_HO140, Q_HO143, Q_X11_⟩ hb_ hon hoff
          refine ⟨_, rfl, fun K hK => ?_⟩
          have e26 : a.tmps[26]? = some (.pointer (some ad133)) := by rw [ha]; exact putSel_on (e := (2, 26, .pointer (some ad133))) 0 rfl rfl (hon 2 (by kernel_rfl)) rfl
          replace ha := Aside0.mk ha
          have HO128 := Aside0.mk Q_HO128
          have HO132 := Aside0.mk Q_HO132
          have HB := Aside0.mk Q_HB
          have hs0_ : w'.cell? ad133 = some (.int .i64 (rd l0 0)) := ((HB.out.cell (World.block_lt_of_cell? w _ hw133_0)).trans hw133_0)
          refine value_ (w1 := w') (v := .int .i64 (rd l0 0)) (by rfl) rfl ?_ ?_
          ·go_simp
           (try simp only [i64_w])
           try rfl
          refine hK.out _ _ ⟨v136, v139, v142, m11_, (by rw [ha.out]; exact putSel_upk 1 hb_ rfl rfl rfl), Q_HO128, Q_HO132, Q_HB, fun h0_ => absurd ((hoff 7 (by kernel_rfl)).symm.trans h0_) (by decide), Q_HO140, fun h0_ => absurd ((hoff 10 (by kernel_rfl)).symm.trans h0_) (by decide), fun h0_ => absurd ((hoff 11 (by kernel_rfl)).symm.trans h0_) (by decide)⟩
         refine steps_cons ?_ ?_
         ·rintro b a w' ⟨v136, v139, v142, m11_, ha, Q_HO128, Q_HO132, Q_HB, Q_HO137, Q_HO140, Q_HO143, Q_X11_⟩ hb_ hon hoff
          refine ⟨_, rfl, fun K hK => ?_⟩
          have e28 : a.tmps[28]? = some (.slice (some ad134) t126.length co20) := by rw [ha]; exact (putSel_off rfl).trans rfl
          replace ha := Aside0.mk ha
          have HO128 := Aside0.mk Q_HO128
          have HO132 := Aside0.mk Q_HO132
          have HB := Aside0.mk Q_HB
          refine value_ (w1 := w') (v := .pointer (some ad134)) (by rfl) rfl ?_ ?_
          ·go_simp
           (try simp only [i64_w])
           try rfl
          refine hK.out _ _ ⟨v136, v139, v142, m11_, (by rw [ha.out]; exact putSel_upk 2 hb_ rfl rfl rfl), Q_HO128, Q_HO132, Q_HB, fun h0_ => absurd ((hoff 7 (by kernel_rfl)).symm.trans h0_) (by decide), Q_HO140, fun h0_ => absurd ((hoff 10 (by kernel_rfl)).symm.trans h0_) (by decide), fun h0_ => absurd ((hoff 11 (by kernel_rfl)).symm.trans h0_) (by decide)⟩
         refine steps_cons ?_ ?_
         ·rintro b a w' ⟨v136, v139, v142, m11_, ha, Q_HO128, Q_HO132, Q_HB, Q_HO137, Q_HO140, Q_HO143, Q_X11_⟩ hb_ hon hoff
          refine ⟨_, rfl, fun K hK => ?_⟩
          have e29 : a.tmps[29]? = some (.pointer (some ad134)) := by rw [ha]; exact putSel_on (e := (5, 29, .pointer (some ad134))) 2 rfl rfl (hon 5 (by kernel_rfl)) rfl
          replace ha := Aside0.mk ha
          have HO128 := Aside0.mk Q_HO128
          have HO132 := Aside0.mk Q_HO132
          have HB := Aside0.mk Q_HB
          obtain ⟨ad134_z, e134_z, hx134_0_z⟩ := Kd.at_int (Kd.R_reads' HO128.out).2.2 0 (of_eq_true p134) (of_eq_true q134)
          cases e134_z
          have hs1_ : w'.cell? ad134 = some (.int .i64 (rd t126 0)) := (by first | exact hx134_0_z | (have h_ := hx134_0_z; (try simp only [Int.reduceToNat, Nat.zero_mul, Nat.reduceMul, Nat.reduceEqDiff, Go.Addr.add, ↓reduceIte, Addr.add_zero'] at h_); exact h_))
          refine value_ (w1 := w') (v := .int .i64 (rd t126 0)) (by rfl) rfl ?_ ?_
          ·go_simp
           (try simp only [i64_w])
           try rfl
          refine hK.out _ _ ⟨v136, v139, v142, m11_, (by rw [ha.out]; exact putSel_upk 3 hb_ rfl rfl rfl), Q_HO128, Q_HO132, Q_HB, fun h0_ => absurd ((hoff 7 (by kernel_rfl)).symm.trans h0_) (by decide), Q_HO140, fun h0_ => absurd ((hoff 10 (by kernel_rfl)).symm.trans h0_) (by decide), fun h0_ => absurd ((hoff 11 (by kernel_rfl)).symm.trans h0_) (by decide)⟩
         refine steps_cons ?_ ?_
         ·rintro b a w' ⟨v136, v139, v142, m11_, ha, Q_HO128, Q_HO132, Q_HB, Q_HO137, Q_HO140, Q_HO143, Q_X11_⟩ hb_ hon hoff
          refine ⟨_, rfl, fun K hK => ?_⟩
          have e27 : a.tmps[27]? = some (.int .i64 (rd l0 0)) := by rw [ha]; exact putSel_on (e := (3, 27, .int .i64 (rd l0 0))) 1 rfl rfl (hon 3 (by kernel_rfl)) rfl
          have e30 : a.tmps[30]? = some (.int .i64 (rd t126 0)) := by rw [ha]; exact putSel_on (e := (6, 30, .int .i64 (rd t126 0))) 3 rfl rfl (hon 6 (by kernel_rfl)) rfl
          replace ha := Aside0.mk ha
          have HO128 := Aside0.mk Q_HO128
          have HO132 := Aside0.mk Q_HO132
          have HB := Aside0.mk Q_HB
          refine Kd.R_lit_step (Kd.int .i64) _ 2 ?hg (N := 31) ?hd (xs := ([rd l0 0, rd t126 0] : List Int)) (inner := [.int .i64 (rd l0 0), .int .i64 (rd t126 0)]) (ok := fun _ => True) (okp := fun _ => True) ?hr ?hp (fun _ hk => hk) trivial (Below.refl _ _) (Nat.le_refl _) (by simp) ?_; (case hd => rfl); (case hg => exact fs_); (case hr => first | (go_simp; done) | (go_simp; rfl)); (case hp => exact (Reps.one (show Kd.M (Kd.int .i64) _ _ _ (rd l0 0) [.int .i64 (rd l0 0)] from rfl) (Reps.one (show Kd.M (Kd.int .i64) _ _ _ (rd t126 0) [.int .i64 (rd t126 0)] from rfl) (Reps.none _ _))))
          intro v136 w23 ho24 hb hg_ hnew_
          clear hg_ hnew_
          (first | rw [← Ny135.out] at ho24 | (simp only [Int.reduceToNat] at ho24; rw [← Ny135.out] at ho24))
          have n0_ := Aside0.mk (Kd.R_elder' (rb_ HO128) (Kd.R_base ho24) hb)
          have n1_ := Aside0.mk (Kd.R_below (rb_ HO132) hb)
          have n2_ := Aside0.mk (Kd.R_lower (Kd.R_new' ho24 (Kd.R_lt (rb_ HO128))) (below_size (bb_ HB)))
          have n3_ := Aside0.mk (below_step (bb_ HB) hb)
          have z_HO140 := fun (h0_ : b 9 = true) => (show Kd.R (Kd.int .i64) 2 w23 w.heap.size (fun k_ => some k_ ≠ (.slice (some ad134) t126.length co20 : Value).ownBlock) v139 t138 from by first | exact (Kd.R_elder' (by (with_reducible repeat (first | apply Kd.R_alloc | apply Kd.R_drewN | apply Kd.R_drew)); exact (Q_HO140 h0_)) (Kd.R_base ho24) hb) | exact Kd.R_mono (Kd.R_elder' (by (with_reducible repeat (first | apply Kd.R_alloc | apply Kd.R_drewN | apply Kd.R_drew)); exact (Q_HO140 h0_)) (Kd.R_base ho24) hb) (fun _ h_ => by first | trivial | exact h_ | exact h_.1))
          clear HO128
          clear HO132
          clear HB
          have HO128 := n0_
          have HO132 := n1_
          have HO137 := n2_
          have HB := n3_
          clear n0_ n1_ n2_ n3_
          clear hb ho24
          refine hK.out _ _ ⟨v136, v139, v142, m11_, (by rw [ha.out]; exact putSel_upk 4 hb_ rfl rfl rfl), (by (with_reducible repeat (first | apply Kd.R_alloc | apply Kd.R_drewN | apply Kd.R_drew)); exact Kd.R_mono HO128.out (fun _ hk => by first | trivial | exact hk.2)), (rb_ HO132), (bb_ HB), fun _ => (by (with_reducible repeat (first | apply Kd.R_alloc | apply Kd.R_drewN | apply Kd.R_drew)); exact Kd.R_mono HO137.out (fun _ hk => by first | trivial | exact hk.2)), z_HO140, fun h0_ => absurd ((hoff 10 (by kernel_rfl)).symm.trans h0_) (by decide), fun h0_ => absurd ((hoff 11 (by kernel_rfl)).symm.trans h0_) (by decide)⟩
         refine steps_cons ?_ ?_
         ·rintro b a w' ⟨v136, v139, v142, m11_, ha, Q_HO128, Q_HO132, Q_HB, Q_HO137, Q_HO140, Q_HO143, Q_X11_⟩ hb_ hon hoff
          refine ⟨_, rfl, fun K hK => ?_⟩
          have e32 : a.tmps[32]? = some (.slice (some ad134) t126.length co20) := by rw [ha]; exact (putSel_off rfl).trans rfl
          replace ha := Aside0.mk ha
          have HO128 := Aside0.mk Q_HO128
          have HO132 := Aside0.mk Q_HO132
          have HB := Aside0.mk Q_HB
          refine goes_ Try.func48 (by kernel_rfl) rfl #[.slice (some ad134) t126.length co20] (by (first | rfl | (simp only [*]; rfl) | (simp [*]; done))) rfl rfl (by first | (simp only [List.map_toArray, List.map_cons, List.map_nil, Act.eval, Array.getD_eq_getD_getElem?, Option.getD_some, e32]; done) | (simp only [List.map_toArray, List.map_cons, List.map_nil, Act.eval, Array.getD_eq_getD_getElem?, Option.getD_some, e32]; rfl)) ?_
          with_reducible refine (delta_Differences.calls k _ _ t126 t138 _ ?side1 ?side2 A15.out).mono ?_
          (case side1 => exact ca_ (Kd.R_reads' HO128.out).2.2)
          (case side2 => exact (Kd.R_reads' HO128.out).2.1)
          rintro e w23 ⟨v139, rfl, ho0, hb⟩
          refine ⟨_, rfl, ?_⟩
          have n0_ := Aside0.mk (Kd.R_elder' (rb_ HO128) (Kd.R_base ho0) hb)
          have n1_ := Aside0.mk (Kd.R_below (rb_ HO132) hb)
          have n2_ := Aside0.mk (Kd.R_lower (Kd.R_new' ho0 (Kd.R_lt (rb_ HO128))) (below_size (bb_ HB)))
          have n3_ := Aside0.mk (below_step (bb_ HB) hb)
          have z_HO137 := fun (h0_ : b 7 = true) => (show Kd.R (Kd.int .i64) 2 w23 w.heap.size (fun k_ => some k_ ≠ (.slice (some ad134) t126.length co20 : Value).ownBlock) v136 y135 from by first | exact (Kd.R_elder' (by (with_reducible repeat (first | apply Kd.R_alloc | apply Kd.R_drewN | apply Kd.R_drew)); exact (Q_HO137 h0_)) (Kd.R_base ho0) hb) | exact Kd.R_mono (Kd.R_elder' (by (with_reducible repeat (first | apply Kd.R_alloc | apply Kd.R_drewN | apply Kd.R_drew)); exact (Q_HO137 h0_)) (Kd.R_base ho0) hb) (fun _ h_ => by first | trivial | exact h_ | exact h_.1))
          clear HO128
          clear HO132
          clear HB
          have HO128 := n0_
          have HO132 := n1_
          have HO140 := n2_
          have HB := n3_
          clear n0_ n1_ n2_ n3_
          (try clear hb)
          (try clear hb2)
          (try clear hk)
          (try clear hi)
          (try clear ho0)
          refine hK.out _ _ ⟨v136, v139, v142, m11_, (by rw [ha.out]; exact putSel_upk 5 hb_ rfl rfl rfl), (by (with_reducible repeat (first | apply Kd.R_alloc | apply Kd.R_drewN | apply Kd.R_drew)); exact Kd.R_mono HO128.out (fun _ hk => by first | trivial | exact hk.2)), (rb_ HO132), (bb_ HB), z_HO137, fun _ => (by (with_reducible repeat (first | apply Kd.R_alloc | apply Kd.R_drewN | apply Kd.R_drew)); exact Kd.R_mono HO140.out (fun _ hk => by first | trivial | exact hk.2)), fun h0_ => absurd ((hoff 10 (by kernel_rfl)).symm.trans h0_) (by decide), fun h0_ => absurd ((hoff 11 (by kernel_rfl)).symm.trans h0_) (by decide)⟩
         refine steps_cons ?_ ?_
         ·rintro b a w' ⟨v136, v139, v142, m11_, ha, Q_HO128, Q_HO132, Q_HB, Q_HO137, Q_HO140, Q_HO143, Q_X11_⟩ hb_ hon hoff
          refine ⟨_, rfl, fun K hK => ?_⟩
          have e24 : a.tmps[24]? = some (.func (.func 63) #[] #[]) := by rw [ha]; exact (putSel_off rfl).trans rfl
          have e31 : a.tmps[31]? = some (v136) := by rw [ha]; exact putSel_on (e := (7, 31, v136)) 4 rfl rfl (hon 7 (by kernel_rfl)) rfl
          have e33 : a.tmps[33]? = some (v139) := by rw [ha]; exact putSel_on (e := (9, 33, v139)) 5 rfl rfl (hon 9 (by kernel_rfl)) rfl
          replace ha := Aside0.mk ha
          have HO128 := Aside0.mk Q_HO128
          have HO132 := Aside0.mk Q_HO132
          have HB := Aside0.mk Q_HB
          have HO137 := Aside0.mk (Q_HO137 (hon 7 (by kernel_rfl)))
          have HO140 := Aside0.mk (Q_HO140 (hon 9 (by kernel_rfl)))
          obtain ⟨Ao27, co27, eo27⟩ := Kd.R_slice HO137.out
          (first | subst eo27 | (injection eo27 with f1_ f2_ f3_; have f4_ := f1_.symm; have f5_ := f3_.symm; clear f1_ f2_ f3_; subst f4_; subst f5_))
          obtain ⟨Ao28, co28, eo28⟩ := Kd.R_slice HO140.out
          (first | subst eo28 | (injection eo28 with f1_ f2_ f3_; have f4_ := f1_.symm; have f5_ := f3_.symm; clear f1_ f2_ f3_; subst f4_; subst f5_))
          refine goesV_ 24 Try.func63 (by kernel_rfl) rfl #[.int .u8 2, .slice Ao27 y135.length co27, .slice Ao28 t138.length co28] (by (first | rfl | (simp only [*]; rfl) | (simp [*]; done))) rfl rfl (by simp only [Act.eval, Array.getD_eq_getD_getElem?, Option.getD_some, e24]) (by first | (simp only [List.map_toArray, List.map_cons, List.map_nil, Act.eval, Array.getD_eq_getD_getElem?, Option.getD_some, e24, e31, e33]; done) | (simp only [List.map_toArray, List.map_cons, List.map_nil, Act.eval, Array.getD_eq_getD_getElem?, Option.getD_some, e24, e31, e33]; rfl)) ?_
          with_reducible refine (delta_Encode_1.calls 2 _ _ y135 _ _ t138 t141 _ ?side1 ?side2 ?side3 ?side4 A16.out).mono ?_
          (case side1 => exact ca_ (Kd.R_reads' HO137.out).2.2)
          (case side2 => exact (Kd.R_reads' HO137.out).2.1)
          (case side3 => exact ca_ (Kd.R_reads' HO140.out).2.2)
          (case side4 => exact (Kd.R_reads' HO140.out).2.1)
          rintro e w29 ⟨v142, rfl, ho0, hb⟩
          refine ⟨_, rfl, ?_⟩
          have n0_ := Aside0.mk (Kd.R_below (rb_ HO128) hb)
          have n1_ := Aside0.mk (Kd.R_elder' (rb_ HO132) (Kd.R_base ho0) hb)
          have n2_ := Aside0.mk (Kd.R_below (rb_ HO137) hb)
          have n3_ := Aside0.mk (Kd.R_below (rb_ HO140) hb)
          have n4_ := Aside0.mk (Kd.R_lower (Kd.R_new' ho0 (Kd.R_lt (rb_ HO132))) (below_size (bb_ HB)))
          have n5_ := Aside0.mk (below_step (bb_ HB) hb)
          clear HO128
          clear HO132
          clear HO137
          clear HO140
          clear HB
          have HO128 := n0_
          have HO132 := n1_
          have HO137 := n2_
          have HO140 := n3_
          have HO143 := n4_
          have HB := n5_
          clear n0_ n1_ n2_ n3_ n4_ n5_
          (try clear hb)
          (try clear hb2)
          (try clear hk)
          (try clear hi)
          (try clear ho0)
          refine hK.out _ _ ⟨.slice Ao27 y135.length co27, .slice Ao28 t138.length co28, v142, m11_, (by rw [ha.out]; exact putSel_upk 6 hb_ rfl rfl rfl), (rb_ HO128), (by (with_reducible repeat (first | apply Kd.R_alloc | apply Kd.R_drewN | apply Kd.R_drew)); exact Kd.R_mono HO132.out (fun _ hk => by first | trivial | exact hk.2)), (bb_ HB), fun _ => (rb_ HO137), fun _ => (rb_ HO140), fun _ => (by (with_reducible repeat (first | apply Kd.R_alloc | apply Kd.R_drewN | apply Kd.R_drew)); exact Kd.R_mono HO143.out (fun _ hk => by first | trivial | exact hk.2)), fun h0_ => absurd ((hoff 11 (by kernel_rfl)).symm.trans h0_) (by decide)⟩
         refine steps_cons ?_ ?_
         ·rintro b a w' ⟨v136, v139, v142, m11_, ha, Q_HO128, Q_HO132, Q_HB, Q_HO137, Q_HO140, Q_HO143, Q_X11_⟩ hb_ hon hoff
          refine ⟨_, rfl, fun K hK => ?_⟩
          have e34 : a.tmps[34]? = some (v142) := by rw [ha]; exact putSel_on (e := (10, 34, v142)) 6 rfl rfl (hon 10 (by kernel_rfl)) rfl
          replace ha := Aside0.mk ha
          have HO128 := Aside0.mk Q_HO128
          have HO132 := Aside0.mk Q_HO132
          have HB := Aside0.mk Q_HB
          have HO137 := Aside0.mk (Q_HO137 (hon 7 (by kernel_rfl)))
          have HO140 := Aside0.mk (Q_HO140 (hon 9 (by kernel_rfl)))
          have HO143 := Aside0.mk (Q_HO143 (hon 10 (by kernel_rfl)))
          refine value_ (w1 := w') (v := v142) (by rfl) rfl ?_ ?_
          ·go_simp
           (try simp only [i64_w])
           try rfl
          refine hK.out _ _ ⟨v136, v139, v142, (v142), (by rw [ha.out]; exact putSel_upk 7 hb_ rfl rfl rfl), Q_HO128, Q_HO132, Q_HB, Q_HO137, Q_HO140, Q_HO143, fun _ => rfl⟩
         exact steps_nil
        rintro b a w29 hall ⟨v136, v139, v142, m11_, ha, Q_HO128, Q_HO132, Q_HB, Q_HO137, Q_HO140, Q_HO143, Q_X11_⟩
        clear HB HO128 HO132
        have hb2_ := hall 2 (by kernel_rfl)
        have hb3_ := hall 3 (by kernel_rfl)
        have hb5_ := hall 5 (by kernel_rfl)
        have hb6_ := hall 6 (by kernel_rfl)
        have hb7_ := hall 7 (by kernel_rfl)
        have hb9_ := hall 9 (by kernel_rfl)
        have hb10_ := hall 10 (by kernel_rfl)
        have hb11_ := hall 11 (by kernel_rfl)
        subst ha
        obtain rfl := Q_X11_ hb11_
        simp only [putSel, hb2_, hb3_, hb5_, hb6_, hb7_, hb9_, hb10_, hb11_, if_true, Act.put, List.setIfInBounds_toArray, List.set_cons_zero, List.set_cons_succ]
        have HO128 := Aside0.mk Q_HO128
        clear Q_HO128
        have HO132 := Aside0.mk Q_HO132
        clear Q_HO132
        have HB := Aside0.mk Q_HB
        clear Q_HB
        have HO137 := Aside0.mk (Q_HO137 hb7_)
        clear Q_HO137
        have HO140 := Aside0.mk (Q_HO140 hb9_)
        clear Q_HO140
        have HO143 := Aside0.mk (Q_HO143 hb10_)
        clear Q_HO143
        clear hall hb2_ hb3_ hb5_ hb6_ hb7_ hb9_ hb10_ hb11_
        obtain ⟨Ao30, co30, eo30⟩ := Kd.R_slice HO143.out
        subst eo30
        obtain ⟨Ao31, co31, eo31⟩ := Kd.R_slice HO132.out
        subst eo31
        try go_wp2
        go_ret
        exact ⟨_, by first | rfl | (simp [errW_none, errW_some] <;> rfl) | (simp only [← hji4]; first | rfl | (simp [errW_none, errW_some] <;> rfl)) | (simp [*, errW_none, errW_some] <;> rfl), by (with_reducible repeat (first | apply Kd.R_alloc | apply Kd.R_drewN | apply Kd.R_drew)); exact Kd.R_mono HO143.out (fun _ hk => trivial), by repeat (first | (with_reducible first | exact HB.out | apply below_alloc | apply pw_below_drewN | apply below_drew1) | exact HB.out)⟩
       ·rw [if_neg c17] at H
        have c17b0 : decide ((t141.length : Int) < (t130.length : Int)) = false := decide_eq_false c17
        have c17b1 : decide (t141.length < t130.length) = false := decide_eq_false (fun h => c17 (Int.ofNat_lt.mpr h))
        clear c17
        obtain rfl := Option.some.inj H
        go_enter Try.func31, Try.ntmps31
        try go_wp2_with (first | ((with_reducible refine gate_callee (f := 48) rfl ?_); refine goesL_ (some 11) rfl rfl Try.func48 (by kernel_rfl) rfl #[.slice A0 l0.length c0] rfl ma_ ?_; (with_reducible refine (delta_Differences.calls k _ _ l0 t126 _ ?side1 ?side2 A3.out).mono ?_); (case side1 => exact ca_ HR0.out); (case side2 => exact HC0.out); rintro e w32 ⟨v127, rfl, ho0, hb⟩; refine ⟨_, rfl, ?_⟩; have n0_ := Aside0.mk (Kd.R_lower ho0 (below_size (bb_ HB))); have n1_ := Aside0.mk (below_step (bb_ HB) hb); clear HB; have HO128 := n0_; have HB := n1_; clear n0_ n1_; (try clear hb); (try clear hb2); (try clear hk); (try clear hi); (try clear ho0); obtain ⟨i033, hi033, _, hsz33, _⟩ := info_parts info2; obtain ⟨hcut33, hA33, hC33⟩ := print_take_of (P := Try.prog) (Value.int .i64) 0 38 2 .i64 Try.underlying38 hi033 hsz33 A0 c0 l0 (ji4) (of_decide_eq_true as_) (of_decide_eq_true as_) HC0.out; have HR129 := Aside0.mk (Kd.C_of_reads (h1 := fun _ => rfl) (hA33 _ (Kd.reads_of_C HR0.out))); have HC129 := Aside0.mk hC33; clear hA33 hC33 hi033 hsz33; obtain ⟨S33, hS33⟩ : ∃ s_ : List Int, s_ = (l0.take ((ji4) : Int).toNat) := ⟨_, rfl⟩; have g0_ := HR129.out; rw [← hS33] at g0_; clear HR129; have HR129 := Aside0.mk g0_; clear g0_; have g0_ := HC129.out; rw [← hS33] at g0_; clear HC129; have HC129 := Aside0.mk g0_; clear g0_; have g0_ := A7.out; rw [← hS33] at g0_; clear A7; have A7 := Aside0.mk g0_; clear g0_; rw [← hS33] at hcut33; have NS33 := Aside0.mk hS33; clear hS33; obtain ⟨Ao34, co34, eo34⟩ := Kd.R_slice HO128.out; subst eo34) | (go_at_call 63; (with_reducible refine (delta_Encode_1.calls 1 _ _ S33 _ _ t126 t130 _ ?side1 ?side2 ?side3 ?side4 A7.out).mono ?_); (case side1 => exact ca_ (Kd.C_below HR129.out HB.out)); (case side2 => exact HC129.out); (case side3 => exact ca_ (Kd.R_reads' HO128.out).2.2); (case side4 => exact (Kd.R_reads' HO128.out).2.1); rintro e w35 ⟨v131, rfl, ho0, hb⟩; have n0_ := Aside0.mk (Kd.R_below (rb_ HO128) hb); have n1_ := Aside0.mk (Kd.R_lower ho0 (below_size (bb_ HB))); have n2_ := Aside0.mk (below_step (bb_ HB) hb); clear HO128; clear HB; have HO128 := n0_; have HO132 := n1_; have HB := n2_; clear n0_ n1_ n2_; (try clear hb); (try clear hb2); (try clear hk); (try clear hi); (try clear ho0)))
        have n0_ := Aside0.mk (Kd.R_drew HO128.out)
        have n1_ := Aside0.mk (Kd.R_drew HO132.out)
        have n2_ := Aside0.mk (below_drew1 HB.out)
        clear HO128
        clear HO132
        clear HB
        have HO128 := n0_
        have HO132 := n1_
        have HB := n2_
        clear n0_ n1_ n2_
        have p133 : 0 ≤ (0 : Int) := (by omega)
        have q133 : 0 < (l0.length : Int) := of_decide_eq_true as_
        obtain ⟨ad133, e133, hx133_0⟩ := Kd.at_int HR0.out 0 p133 q133
        have hw133_0 := hx133_0
        (try rw [show ((0 : Int)).toNat = 0 from rfl] at hw133_0)
        (try rw [show 0 * 1 = 0 from rfl] at hw133_0)
        (try rw [Addr.add_zero'] at hw133_0)
        cases e133
        have qi133 : (0 < l0.length) = True := eq_true (by omega)
        (try rw [show ((0 : Int)).toNat = 0 from rfl] at hx133_0)
        (try rw [Addr.add_zero'] at hx133_0)
        replace hx133_0 := (HB.out.cell (World.block_lt_of_cell? w _ hx133_0)).trans hx133_0
        replace p133 := eq_true p133
        replace q133 := eq_true q133
        have p134 : 0 ≤ (0 : Int) := (by omega)
        have q134 : 0 < (t126.length : Int) := of_decide_eq_true as_
        obtain ⟨ad134, e134, hx134_0⟩ := Kd.at_int (Kd.R_reads' HO128.out).2.2 0 p134 q134
        cases e134
        have qi134 : (0 < t126.length) = True := eq_true (by omega)
        (try rw [show ((0 : Int)).toNat = 0 from rfl] at hx134_0)
        (try rw [Addr.add_zero'] at hx134_0)
        replace p134 := eq_true p134
        replace q134 := eq_true q134
        refine start_ (n := 12) (S := fun w' => True) (ds := []) #[false, false, false, false, false, false, false, false, false, false, false, false] (by kernel_rfl) rfl rfl trivial (fun hHeld => ?_); refine with_tabW delta_Encode.tab8 delta_Encode.bits8 (fun HT_ HW_ => ?_)
        generalize w35.drew = w36 at HO128 HO132 HB hx133_0 hx134_0 hHeld ⊢
        refine pure_ (i := 0) (N := some 24) (v := ?_) (a' := ?_) #[true, false, false, false, false, false, false, false, false, false, false, false] rfl rfl (any_of HT_.out (by kernel_rfl)) (fun _ _ _ h => h) (Or.inl ⟨by rfl, ?_⟩) ?_ ?_
        rotate_left
        ·intro w'
         go_simp
         with_reducible rfl
        rotate_left
        ·simp only [Act.put, List.setIfInBounds_toArray, List.set_cons_zero, List.set_cons_succ, i64_w, i32_w]
         rfl
        refine pure_ (i := 1) (N := some 25) (v := ?_) (a' := ?_) #[true, true, false, false, false, false, false, false, false, false, false, false] rfl rfl (any_of HT_.out (by kernel_rfl)) (fun _ _ _ h => h) (Or.inl ⟨by rfl, ?_⟩) ?_ ?_
        rotate_left
        ·intro w'
         go_simp
         with_reducible rfl
        rotate_left
        ·simp only [Act.put, List.setIfInBounds_toArray, List.set_cons_zero, List.set_cons_succ, i64_w, i32_w]
         rfl
        refine pure_ (i := 4) (N := some 28) (v := ?_) (a' := ?_) #[true, true, false, false, true, false, false, false, false, false, false, false] rfl rfl (any_of HT_.out (by kernel_rfl)) (fun _ _ _ h => h) (Or.inl ⟨by rfl, ?_⟩) ?_ ?_
        rotate_left
        ·intro w'
         go_simp
         with_reducible rfl
        rotate_left
        ·simp only [Act.put, List.setIfInBounds_toArray, List.set_cons_zero, List.set_cons_succ, i64_w, i32_w]
         rfl
        refine pure_ (i := 8) (N := some 32) (v := ?_) (a' := ?_) #[true, true, false, false, true, false, false, false, true, false, false, false] rfl rfl (any_of HT_.out (by kernel_rfl)) (fun _ _ _ h => h) (Or.inl ⟨by rfl, ?_⟩) ?_ ?_
        rotate_left
        ·intro w'
         go_simp
         with_reducible rfl
        rotate_left
        ·simp only [Act.put, List.setIfInBounds_toArray, List.set_cons_zero, List.set_cons_succ, i64_w, i32_w]
         rfl
        refine inv_at [2, 3, 5, 6, 7, 9, 10, 11] (fun a0_ b a w' => ∃ (v136 : Value) (v139 : Value) (v142 : Value) (m11_ : Value), a = putSel a0_ b [(2, 26, .pointer (some ad133)), (3, 27, .int .i64 (rd l0 0)), (5, 29, .pointer (some ad134)), (6, 30, .int .i64 (rd t126 0)), (7, 31, v136), (9, 33, v139), (10, 34, v142), (11, 6, m11_)] ∧ (Kd.R (Kd.int .i64) 2 w' w.heap.size (fun _ => True) (.slice (some ad134) t126.length co34) t126) ∧ (Kd.R (Kd.int .u8) 5 w' w.heap.size (fun _ => True) v131 t130) ∧ (Below w.heap.size w w') ∧ (b 7 = true → Kd.R (Kd.int .i64) 2 w' w.heap.size (fun k_ => some k_ ≠ (.slice (some ad134) t126.length co34 : Value).ownBlock) v136 y135) ∧ (b 9 = true → Kd.R (Kd.int .i64) 2 w' w.heap.size (fun k_ => some k_ ≠ (.slice (some ad134) t126.length co34 : Value).ownBlock) v139 t138) ∧ (b 10 = true → Kd.R (Kd.int .u8) 5 w' w.heap.size (fun k_ => some k_ ≠ (v131 : Value).ownBlock) v142 t141) ∧ (b 11 = true → (m11_ : Value) = v142)) HT_.out HW_.out (by kernel_rfl) (by kernel_rfl) ?_ ?_ ?_
        ·exact ⟨.bool false, .bool false, .bool false, .bool false, by simp only [putSel, Bool.false_eq_true, if_false], HO128.out, HO132.out, HB.out, fun h_ => absurd h_ (by decide), fun h_ => absurd h_ (by decide), fun h_ => absurd h_ (by decide), fun h_ => absurd h_ (by decide)⟩
        ·skip
         clear HB HO128 HO132
         refine steps_cons ?_ ?_
         ·rintro b a w' ⟨v136, v139, v142, m11_, ha, Q_HO128, Q_HO132, Q_HB, Q_HO137, Q_HO140, Q_HO143, Q_X11_⟩ hb_ hon hoff
          refine ⟨_, rfl, fun K hK => ?_⟩
          have e25 : a.tmps[25]? = some (.slice (some ad133) l0.length c0) := by rw [ha]; exact (putSel_off rfl).trans rfl
          replace ha := Aside0.mk ha
          have HO128 := Aside0.mk Q_HO128
          have HO132 := Aside0.mk Q_HO132
          have HB := Aside0.mk Q_HB
          have hs0_ : w'.cell? ad133 = some (.int .i64 (rd l0 0)) := ((HB.out.cell (World.block_lt_of_cell? w _ hw133_0)).trans hw133_0)
          refine value_ (w1 := w') (v := .pointer (some ad133)) (by rfl) rfl ?_ ?_
          ·go_simp
           (try simp only [i64_w])
           try rfl
          refine hK.out _ _ ⟨v136, v139, v142, m11_, (by rw [ha.out]; exact putSel_upk 0 hb_ rfl rfl rfl), Q_HO128, Q_HO132, Q_HB, fun h0_ => absurd ((hoff 7 (by kernel_rfl)).symm.trans h0_) (by decide), Q_HO140, fun h0_ => absurd ((hoff 10 (by kernel_rfl)).symm.trans h0_) (by decide), fun h0_ => absurd ((hoff 11 (by kernel_rfl)).symm.trans h0_) (by decide)⟩
         refine steps_cons ?_ ?_
         ·rintro b a w' ⟨v136, v139, v142, m11_, ha, Q_HO128, Q_HO132, Q_HB, Q_HO137, Q_HO140, Q_HO143, Q_X11_⟩ hb_ hon hoff
          refine ⟨_, rfl, fun K hK => ?_⟩
          have e26 : a.tmps[26]? = some (.pointer (some ad133)) := by rw [ha]; exact putSel_on (e := (2, 26, .pointer (some ad133))) 0 rfl rfl (hon 2 (by kernel_rfl)) rfl
          replace ha := Aside0.mk ha
          have HO128 := Aside0.mk Q_HO128
          have HO132 := Aside0.mk Q_HO132
          have HB := Aside0.mk Q_HB
          have hs0_ : w'.cell? ad133 = some (.int .i64 (rd l0 0)) := ((HB.out.cell (World.block_lt_of_cell? w _ hw133_0)).trans hw133_0)
          refine value_ (w1 := w') (v := .int .i64 (rd l0 0)) (by rfl) rfl ?_ ?_
          ·go_simp
           (try simp only [i64_w])
           try rfl
          refine hK.out _ _ ⟨v136, v139, v142, m11_, (by rw [ha.out]; exact putSel_upk 1 hb_ rfl rfl rfl), Q_HO128, Q_HO132, Q_HB, fun h0_ => absurd ((hoff 7 (by kernel_rfl)).symm.trans h0_) (by decide), Q_HO140, fun h0_ => absurd ((hoff 10 (by kernel_rfl)).symm.trans h0_) (by decide), fun h0_ => absurd ((hoff 11 (by kernel_rfl)).symm.trans h0_) (by decide)⟩
         refine steps_cons ?_ ?_
         ·rintro b a w' ⟨v136, v139, v142, m11_, ha, Q_HO128, Q_HO132, Q_HB, Q_HO137, Q_HO140, Q_HO143, Q_X11_⟩ hb_ hon hoff
          refine ⟨_, rfl, fun K hK => ?_⟩
          have e28 : a.tmps[28]? = some (.slice (some ad134) t126.length co34) := by rw [ha]; exact (putSel_off rfl).trans rfl
          replace ha := Aside0.mk ha
          have HO128 := Aside0.mk Q_HO128
          have HO132 := Aside0.mk Q_HO132
          have HB := Aside0.mk Q_HB
          refine value_ (w1 := w') (v := .pointer (some ad134)) (by rfl) rfl ?_ ?_
          ·go_simp
           (try simp only [i64_w])
           try rfl
          refine hK.out _ _ ⟨v136, v139, v142, m11_, (by rw [ha.out]; exact putSel_upk 2 hb_ rfl rfl rfl), Q_HO128, Q_HO132, Q_HB, fun h0_ => absurd ((hoff 7 (by kernel_rfl)).symm.trans h0_) (by decide), Q_HO140, fun h0_ => absurd ((hoff 10 (by kernel_rfl)).symm.trans h0_) (by decide), fun h0_ => absurd ((hoff 11 (by kernel_rfl)).symm.trans h0_) (by decide)⟩
         refine steps_cons ?_ ?_
         ·rintro b a w' ⟨v136, v139, v142, m11_, ha, Q_HO128, Q_HO132, Q_HB, Q_HO137, Q_HO140, Q_HO143, Q_X11_⟩ hb_ hon hoff
          refine ⟨_, rfl, fun K hK => ?_⟩
          have e29 : a.tmps[29]? = some (.pointer (some ad134)) := by rw [ha]; exact putSel_on (e := (5, 29, .pointer (some ad134))) 2 rfl rfl (hon 5 (by kernel_rfl)) rfl
          replace ha := Aside0.mk ha
          have HO128 := Aside0.mk Q_HO128
          have HO132 := Aside0.mk Q_HO132
          have HB := Aside0.mk Q_HB
          obtain ⟨ad134_z, e134_z, hx134_0_z⟩ := Kd.at_int (Kd.R_reads' HO128.out).2.2 0 (of_eq_true p134) (of_eq_true q134)
          cases e134_z
          have hs1_ : w'.cell? ad134 = some (.int .i64 (rd t126 0)) := (by first | exact hx134_0_z | (have h_ := hx134_0_z; (try simp only [Int.reduceToNat, Nat.zero_mul, Nat.reduceMul, Nat.reduceEqDiff, Go.Addr.add, ↓reduceIte, Addr.add_zero'] at h_); exact h_))
          refine value_ (w1 := w') (v := .int .i64 (rd t126 0)) (by rfl) rfl ?_ ?_
          ·go_simp
           (try simp only [i64_w])
           try rfl
          refine hK.out _ _ ⟨v136, v139, v142, m11_, (by rw [ha.out]; exact putSel_upk 3 hb_ rfl rfl rfl), Q_HO128, Q_HO132, Q_HB, fun h0_ => absurd ((hoff 7 (by kernel_rfl)).symm.trans h0_) (by decide), Q_HO140, fun h0_ => absurd ((hoff 10 (by kernel_rfl)).symm.trans h0_) (by decide), fun h0_ => absurd ((hoff 11 (by kernel_rfl)).symm.trans h0_) (by decide)⟩
         refine steps_cons ?_ ?_
         ·rintro b a w' ⟨v136, v139, v142, m11_, ha, Q_HO128, Q_HO132, Q_HB, Q_HO137, Q_HO140, Q_HO143, Q_X11_⟩ hb_ hon hoff
          refine ⟨_, rfl, fun K hK => ?_⟩
          have e27 : a.tmps[27]? = some (.int .i64 (rd l0 0)) := by rw [ha]; exact putSel_on (e := (3, 27, .int .i64 (rd l0 0))) 1 rfl rfl (hon 3 (by kernel_rfl)) rfl
          have e30 : a.tmps[30]? = some (.int .i64 (rd t126 0)) := by rw [ha]; exact putSel_on (e := (6, 30, .int .i64 (rd t126 0))) 3 rfl rfl (hon 6 (by kernel_rfl)) rfl
          replace ha := Aside0.mk ha
          have HO128 := Aside0.mk Q_HO128
          have HO132 := Aside0.mk Q_HO132
          have HB := Aside0.mk Q_HB
          refine Kd.R_lit_step (Kd.int .i64) _ 2 ?hg (N := 31) ?hd (xs := ([rd l0 0, rd t126 0] : List Int)) (inner := [.int .i64 (rd l0 0), .int .i64 (rd t126 0)]) (ok := fun _ => True) (okp := fun _ => True) ?hr ?hp (fun _ hk => hk) trivial (Below.refl _ _) (Nat.le_refl _) (by simp) ?_; (case hd => rfl); (case hg => exact fs_); (case hr => first | (go_simp; done) | (go_simp; rfl)); (case hp => exact (Reps.one (show Kd.M (Kd.int .i64) _ _ _ (rd l0 0) [.int .i64 (rd l0 0)] from rfl) (Reps.one (show Kd.M (Kd.int .i64) _ _ _ (rd t126 0) [.int .i64 (rd t126 0)] from rfl) (Reps.none _ _))))
          intro v136 w37 ho38 hb hg_ hnew_
          clear hg_ hnew_
          (first | rw [← Ny135.out] at ho38 | (simp only [Int.reduceToNat] at ho38; rw [← Ny135.out] at ho38))
          have n0_ := Aside0.mk (Kd.R_elder' (rb_ HO128) (Kd.R_base ho38) hb)
          have n1_ := Aside0.mk (Kd.R_below (rb_ HO132) hb)
          have n2_ := Aside0.mk (Kd.R_lower (Kd.R_new' ho38 (Kd.R_lt (rb_ HO128))) (below_size (bb_ HB)))
          have n3_ := Aside0.mk (below_step (bb_ HB) hb)
          have z_HO140 := fun (h0_ : b 9 = true) => (show Kd.R (Kd.int .i64) 2 w37 w.heap.size (fun k_ => some k_ ≠ (.slice (some ad134) t126.length co34 : Value).ownBlock) v139 t138 from by first | exact (Kd.R_elder' (by (with_reducible repeat (first | apply Kd.R_alloc | apply Kd.R_drewN | apply Kd.R_drew)); exact (Q_HO140 h0_)) (Kd.R_base ho38) hb) | exact Kd.R_mono (Kd.R_elder' (by (with_reducible repeat (first | apply Kd.R_alloc | apply Kd.R_drewN | apply Kd.R_drew)); exact (Q_HO140 h0_)) (Kd.R_base ho38) hb) (fun _ h_ => by first | trivial | exact h_ | exact h_.1))
          clear HO128
          clear HO132
          clear HB
          have HO128 := n0_
          have HO132 := n1_
          have HO137 := n2_
          have HB := n3_
          clear n0_ n1_ n2_ n3_
          clear hb ho38
          refine hK.out _ _ ⟨v136, v139, v142, m11_, (by rw [ha.out]; exact putSel_upk 4 hb_ rfl rfl rfl), (by (with_reducible repeat (first | apply Kd.R_alloc | apply Kd.R_drewN | apply Kd.R_drew)); exact Kd.R_mono HO128.out (fun _ hk => by first | trivial | exact hk.2)), (rb_ HO132), (bb_ HB), fun _ => (by (with_reducible repeat (first | apply Kd.R_alloc | apply Kd.R_drewN | apply Kd.R_drew)); exact Kd.R_mono HO137.out (fun _ hk => by first | trivial | exact hk.2)), z_HO140, fun h0_ => absurd ((hoff 10 (by kernel_rfl)).symm.trans h0_) (by decide), fun h0_ => absurd ((hoff 11 (by kernel_rfl)).symm.trans h0_) (by decide)⟩
         refine steps_cons ?_ ?_
         ·rintro b a w' ⟨v136, v139, v142, m11_, ha, Q_HO128, Q_HO132, Q_HB, Q_HO137, Q_HO140, Q_HO143, Q_X11_⟩ hb_ hon hoff
          refine ⟨_, rfl, fun K hK => ?_⟩
          have e32 : a.tmps[32]? = some (.slice (some ad134) t126.length co34) := by rw [ha]; exact (putSel_off rfl).trans rfl
          replace ha := Aside0.mk ha
          have HO128 := Aside0.mk Q_HO128
          have HO132 := Aside0.mk Q_HO132
          have HB := Aside0.mk Q_HB
          refine goes_ Try.func48 (by kernel_rfl) rfl #[.slice (some ad134) t126.length co34] (by (first | rfl | (simp only [*]; rfl) | (simp [*]; done))) rfl rfl (by first | (simp only [List.map_toArray, List.map_cons, List.map_nil, Act.eval, Array.getD_eq_getD_getElem?, Option.getD_some, e32]; done) | (simp only [List.map_toArray, List.map_cons, List.map_nil, Act.eval, Array.getD_eq_getD_getElem?, Option.getD_some, e32]; rfl)) ?_
          with_reducible refine (delta_Differences.calls k _ _ t126 t138 _ ?side1 ?side2 A15.out).mono ?_
          (case side1 => exact ca_ (Kd.R_reads' HO128.out).2.2)
          (case side2 => exact (Kd.R_reads' HO128.out).2.1)
          rintro e w37 ⟨v139, rfl, ho0, hb⟩
          refine ⟨_, rfl, ?_⟩
          have n0_ := Aside0.mk (Kd.R_elder' (rb_ HO128) (Kd.R_base ho0) hb)
          have n1_ := Aside0.mk (Kd.R_below (rb_ HO132) hb)
          have n2_ := Aside0.mk (Kd.R_lower (Kd.R_new' ho0 (Kd.R_lt (rb_ HO128))) (below_size (bb_ HB)))
          have n3_ := Aside0.mk (below_step (bb_ HB) hb)
          have z_HO137 := fun (h0_ : b 7 = true) => (show Kd.R (Kd.int .i64) 2 w37 w.heap.size (fun k_ => some k_ ≠ (.slice (some ad134) t126.length co34 : Value).ownBlock) v136 y135 from by first | exact (Kd.R_elder' (by (with_reducible repeat (first | apply Kd.R_alloc | apply Kd.R_drewN | apply Kd.R_drew)); exact (Q_HO137 h0_)) (Kd.R_base ho0) hb) | exact Kd.R_mono (Kd.R_elder' (by (with_reducible repeat (first | apply Kd.R_alloc | apply Kd.R_drewN | apply Kd.R_drew)); exact (Q_HO137 h0_)) (Kd.R_base ho0) hb) (fun _ h_ => by first | trivial | exact h_ | exact h_.1))
          clear HO128
          clear HO132
          clear HB
          have HO128 := n0_
          have HO132 := n1_
          have HO140 := n2_
          have HB := n3_
          clear n0_ n1_ n2_ n3_
          (try clear hb)
          (try clear hb2)
          (try clear hk)
          (try clear hi)
          (try clear ho0)
          refine hK.out _ _ ⟨v136, v139, v142, m11_, (by rw [ha.out]; exact putSel_upk 5 hb_ rfl rfl rfl), (by (with_reducible repeat (first | apply Kd.R_alloc | apply Kd.R_drewN | apply Kd.R_drew)); exact Kd.R_mono HO128.out (fun _ hk => by first | trivial | exact hk.2)), (rb_ HO132), (bb_ HB), z_HO137, fun _ => (by (with_reducible repeat (first | apply Kd.R_alloc | apply Kd.R_drewN | apply Kd.R_drew)); exact Kd.R_mono HO140.out (fun _ hk => by first | trivial | exact hk.2)), fun h0_ => absurd ((hoff 10 (by kernel_rfl)).symm.trans h0_) (by decide), fun h0_ => absurd ((hoff 11 (by kernel_rfl)).symm.trans h0_) (by decide)⟩
         refine steps_cons ?_ ?_
         ·rintro b a w' ⟨v136, v139, v142, m11_, ha, Q_HO128, Q_HO132, Q_HB, Q_HO137, Q_HO140, Q_HO143, Q_X11_⟩ hb_ hon hoff
          refine ⟨_, rfl, fun K hK => ?_⟩
          have e24 : a.tmps[24]? = some (.func (.func 63) #[] #[]) := by rw [ha]; exact (putSel_off rfl).trans rfl
          have e31 : a.tmps[31]? = some (v136) := by rw [ha]; exact putSel_on (e := (7, 31, v136)) 4 rfl rfl (hon 7 (by kernel_rfl)) rfl
          have e33 : a.tmps[33]? = some (v139) := by rw [ha]; exact putSel_on (e := (9, 33, v139)) 5 rfl rfl (hon 9 (by kernel_rfl)) rfl
          replace ha := Aside0.mk ha
          have HO128 := Aside0.mk Q_HO128
          have HO132 := Aside0.mk Q_HO132
          have HB := Aside0.mk Q_HB
          have HO137 := Aside0.mk (Q_HO137 (hon 7 (by kernel_rfl)))
          have HO140 := Aside0.mk (Q_HO140 (hon 9 (by kernel_rfl)))
          obtain ⟨Ao41, co41, eo41⟩ := Kd.R_slice HO137.out
          (first | subst eo41 | (injection eo41 with f1_ f2_ f3_; have f4_ := f1_.symm; have f5_ := f3_.symm; clear f1_ f2_ f3_; subst f4_; subst f5_))
          obtain ⟨Ao42, co42, eo42⟩ := Kd.R_slice HO140.out
          (first | subst eo42 | (injection eo42 with f1_ f2_ f3_; have f4_ := f1_.symm; have f5_ := f3_.symm; clear f1_ f2_ f3_; subst f4_; subst f5_))
          refine goesV_ 24 Try.func63 (by kernel_rfl) rfl #[.int .u8 2, .slice Ao41 y135.length co41, .slice Ao42 t138.length co42] (by (first | rfl | (simp only [*]; rfl) | (simp [*]; done))) rfl rfl (by simp only [Act.eval, Array.getD_eq_getD_getElem?, Option.getD_some, e24]) (by first | (simp only [List.map_toArray, List.map_cons, List.map_nil, Act.eval, Array.getD_eq_getD_getElem?, Option.getD_some, e24, e31, e33]; done) | (simp only [List.map_toArray, List.map_cons, List.map_nil, Act.eval, Array.getD_eq_getD_getElem?, Option.getD_some, e24, e31, e33]; rfl)) ?_
          with_reducible refine (delta_Encode_1.calls 2 _ _ y135 _ _ t138 t141 _ ?side1 ?side2 ?side3 ?side4 A16.out).mono ?_
          (case side1 => exact ca_ (Kd.R_reads' HO137.out).2.2)
          (case side2 => exact (Kd.R_reads' HO137.out).2.1)
          (case side3 => exact ca_ (Kd.R_reads' HO140.out).2.2)
          (case side4 => exact (Kd.R_reads' HO140.out).2.1)
          rintro e w43 ⟨v142, rfl, ho0, hb⟩
          refine ⟨_, rfl, ?_⟩
          have n0_ := Aside0.mk (Kd.R_below (rb_ HO128) hb)
          have n1_ := Aside0.mk (Kd.R_elder' (rb_ HO132) (Kd.R_base ho0) hb)
          have n2_ := Aside0.mk (Kd.R_below (rb_ HO137) hb)
          have n3_ := Aside0.mk (Kd.R_below (rb_ HO140) hb)
          have n4_ := Aside0.mk (Kd.R_lower (Kd.R_new' ho0 (Kd.R_lt (rb_ HO132))) (below_size (bb_ HB)))
          have n5_ := Aside0.mk (below_step (bb_ HB) hb)
          clear HO128
          clear HO132
          clear HO137
          clear HO140
          clear HB
          have HO128 := n0_
          have HO132 := n1_
          have HO137 := n2_
          have HO140 := n3_
          have HO143 := n4_
          have HB := n5_
          clear n0_ n1_ n2_ n3_ n4_ n5_
          (try clear hb)
          (try clear hb2)
          (try clear hk)
          (try clear hi)
          (try clear ho0)
          refine hK.out _ _ ⟨.slice Ao41 y135.length co41, .slice Ao42 t138.length co42, v142, m11_, (by rw [ha.out]; exact putSel_upk 6 hb_ rfl rfl rfl), (rb_ HO128), (by (with_reducible repeat (first | apply Kd.R_alloc | apply Kd.R_drewN | apply Kd.R_drew)); exact Kd.R_mono HO132.out (fun _ hk => by first | trivial | exact hk.2)), (bb_ HB), fun _ => (rb_ HO137), fun _ => (rb_ HO140), fun _ => (by (with_reducible repeat (first | apply Kd.R_alloc | apply Kd.R_drewN | apply Kd.R_drew)); exact Kd.R_mono HO143.out (fun _ hk => by first | trivial | exact hk.2)), fun h0_ => absurd ((hoff 11 (by kernel_rfl)).symm.trans h0_) (by decide)⟩
         refine steps_cons ?_ ?_
         ·rintro b a w' ⟨v136, v139, v142, m11_, ha, Q_HO128, Q_HO132, Q_HB, Q_HO137, Q_HO140, Q_HO143, Q_X11_⟩ hb_ hon hoff
          refine ⟨_, rfl, fun K hK => ?_⟩
          have e34 : a.tmps[34]? = some (v142) := by rw [ha]; exact putSel_on (e := (10, 34, v142)) 6 rfl rfl (hon 10 (by kernel_rfl)) rfl
          replace ha := Aside0.mk ha
          have HO128 := Aside0.mk Q_HO128
          have HO132 := Aside0.mk Q_HO132
          have HB := Aside0.mk Q_HB
          have HO137 := Aside0.mk (Q_HO137 (hon 7 (by kernel_rfl)))
          have HO140 := Aside0.mk (Q_HO140 (hon 9 (by kernel_rfl)))
          have HO143 := Aside0.mk (Q_HO143 (hon 10 (by kernel_rfl)))
          refine value_ (w1 := w') (v := v142) (by rfl) rfl ?_ ?_
          ·go_simp
           (try simp only [i64_w])
           try rfl
          refine hK.out _ _ ⟨v136, v139, v142, (v142), (by rw [ha.out]; exact putSel_upk 7 hb_ rfl rfl rfl), Q_HO128, Q_HO132, Q_HB, Q_HO137, Q_HO140, Q_HO143, fun _ => rfl⟩
         exact steps_nil
        rintro b a w43 hall ⟨v136, v139, v142, m11_, ha, Q_HO128, Q_HO132, Q_HB, Q_HO137, Q_HO140, Q_HO143, Q_X11_⟩
        clear HB HO128 HO132
        have hb2_ := hall 2 (by kernel_rfl)
        have hb3_ := hall 3 (by kernel_rfl)
        have hb5_ := hall 5 (by kernel_rfl)
        have hb6_ := hall 6 (by kernel_rfl)
        have hb7_ := hall 7 (by kernel_rfl)
        have hb9_ := hall 9 (by kernel_rfl)
        have hb10_ := hall 10 (by kernel_rfl)
        have hb11_ := hall 11 (by kernel_rfl)
        subst ha
        obtain rfl := Q_X11_ hb11_
        simp only [putSel, hb2_, hb3_, hb5_, hb6_, hb7_, hb9_, hb10_, hb11_, if_true, Act.put, List.setIfInBounds_toArray, List.set_cons_zero, List.set_cons_succ]
        have HO128 := Aside0.mk Q_HO128
        clear Q_HO128
        have HO132 := Aside0.mk Q_HO132
        clear Q_HO132
        have HB := Aside0.mk Q_HB
        clear Q_HB
        have HO137 := Aside0.mk (Q_HO137 hb7_)
        clear Q_HO137
        have HO140 := Aside0.mk (Q_HO140 hb9_)
        clear Q_HO140
        have HO143 := Aside0.mk (Q_HO143 hb10_)
        clear Q_HO143
        clear hall hb2_ hb3_ hb5_ hb6_ hb7_ hb9_ hb10_ hb11_
        obtain ⟨Ao44, co44, eo44⟩ := Kd.R_slice HO143.out
        subst eo44
        obtain ⟨Ao45, co45, eo45⟩ := Kd.R_slice HO132.out
        subst eo45
        try go_wp2
        go_ret
        exact ⟨_, by first | rfl | (simp [errW_none, errW_some] <;> rfl) | (simp only [← hji4]; first | rfl | (simp [errW_none, errW_some] <;> rfl)) | (simp [*, errW_none, errW_some] <;> rfl), by (with_reducible repeat (first | apply Kd.R_alloc | apply Kd.R_drewN | apply Kd.R_drew)); exact Kd.R_mono HO132.out (fun _ hk => trivial), by repeat (first | (with_reducible first | exact HB.out | apply below_alloc | apply pw_below_drewN | apply below_drew1) | exact HB.out)⟩
      ·rw [if_neg c14] at H
       exact absurd H (by simp)
     ·rw [if_neg c13] at H
      exact absurd H (by simp)
   ·rw [if_neg c6] at H
    exact absurd H (by simp)
  ·rw [if_neg c5] at H
   exact absurd H (by simp)

/-! ### bitpack_read: function 60 -/
def okbytes (l : List Int) : Bool := l.all fun x => decide (0 ≤ x) && decide (x < 256)
theorem okbytes_all {l : List Int} (h : okbytes l = true) : ∀ x ∈ l, 0 ≤ x ∧ x < 256 := by
  intro x hx
  simp only [okbytes, List.all_eq_true, Bool.and_eq_true, decide_eq_true_eq] at h
  exact h x hx
def bitpack_read.f (l0 : List Int) (a1 : Int) (a2 : Int) : Option (Int) := if okbytes l0 = true ∧ 0 ≤ a1 ∧ 0 ≤ a2 ∧ a2 ≤ 64 ∧ a1 + a2 ≤ 8 * (l0.length : Int) ∧ (l0.length : Int) ≤ 140737488355328 then some ((le l0 / 2 ^ a1.toNat % 2 ^ a2.toNat : Nat) : Int) else none
set_option maxHeartbeats 1000000 in
set_option maxRecDepth 100000 in
theorem bitpack_read.calls (A0 : Option Addr) (c0 : Nat) (l0 : List Int) (a1 : Int) (a2 : Int) (r : Int) (w : World) (hr0 : Kd.C (Kd.int .u8) w A0 l0.length l0) (hc0 : l0.length ≤ c0) (h : bitpack_read.f l0 a1 a2 = some r) :
    Calls Try.prog 60 #[.slice A0 l0.length c0, .int .i64 a1, .int .i64 a2] w fun e w' => e = .returned (.int .u64 r) ∧ Drawn0 w w' := by
  unfold bitpack_read.f at h
  split at h
  case isFalse => cases h
  case isTrue hc =>
  obtain ⟨hok, h1, h2, h3, h4, h5⟩ := hc
  obtain rfl := Option.some.inj h
  obtain ⟨p, rfl⟩ := Int.eq_ofNat_of_zero_le h1
  obtain ⟨W, rfl⟩ := Int.eq_ofNat_of_zero_le h2
  simp only [Int.toNat_natCast]
  have HR := Aside0.mk hr0
  have HOK := Aside0.mk (okbytes_all hok)
  clear hr0 hok h h1 h2
  go_enter Try.func60, Try.ntmps60
  go_wp2
  go_loopw [1, 7, 8] (fun v1 v7 v8 wr => Drawn0 w wr ∧ ∃ g a : Nat, ∃ x : Int, g ≤ W ∧ Aside0 (a = p + g) ∧ Aside0 (x = ((le l0 / 2 ^ p % 2 ^ g : Nat) : Int)) ∧ v1 = .int .i64 (a : Int) ∧ v8 = .int .i64 (g : Int) ∧ v7 = .int .u64 x) (fun _ _ v8 _ => W - (intOf v8).toNat)
  case atStart => exact ⟨Drawn0.refl _, 0, p, 0, Nat.zero_le _, ⟨rfl⟩, ⟨by simp [Nat.mod_one]⟩, rfl, rfl, rfl⟩
  case round =>
    obtain ⟨⟨m, rfl⟩, g, a, x, hg, ha, hx, rfl, rfl, rfl⟩ := hrel
    by_cases hlt : g < W
    · obtain ⟨r, hr⟩ : ∃ r : Nat, r = a % 8 := ⟨_, rfl⟩
      obtain ⟨j, hj⟩ : ∃ j : Nat, j = a / 8 := ⟨_, rfl⟩
      have hr7 : r ≤ 7 := by omega
      have hjl : j < l0.length := by have := ha.out; omega
      have ham : a ≤ 8 * l0.length := by have := ha.out; omega
      have er : (a : Int) % 8 = (r : Int) := by omega
      have ej : (a : Int) / 8 = (j : Int) := by omega
      have HRJ := Aside0.mk (And.intro hr hj)
      clear hr hj
      obtain ⟨ad, rfl, hcx⟩ := Kd.at_int HR.out (j : Int) (by omega) (by omega)
      have hcx' : w.cell? (ad.add j) = some (.int .u8 (rd l0 (j : Int))) := by simpa using hcx
      obtain ⟨y, hy⟩ : ∃ y : Int, y = rd l0 (j : Int) := ⟨_, rfl⟩
      rw [← hy] at hcx'
      have HY := Aside0.mk hy
      clear hcx hy
      have ew : IntKind.i64.wrap (j : Int) = (j : Int) := IntWalk.i64_in _ (by omega)
      have hyv : y = ((le l0 / 256 ^ j % 256 : Nat) : Int) := by
        rw [HY.out, ← le_get l0 j HOK.out]; simp [rd]
      have HYV := Aside0.mk hyv
      clear hyv
      by_cases hmn : 8 - r ≤ W - g
      · obtain ⟨t, ht⟩ : ∃ t : Nat, t = 8 - r := ⟨_, rfl⟩
        have et : 8 - (r : Int) = (t : Int) := by omega
        have k1 : (t : Int) ≤ (W : Int) - g := by omega
        have k2 : t ≤ 8 := by omega
        have k3 : r + t ≤ 8 := by omega
        have k4 : 1 ≤ t := by omega
        clear ht hmn
        go_wp2
        go_quiet (fail)
        go_wp2
        refine ⟨⟨(Drawn0.refl _).step _, g + t, a + t, _, by omega, ⟨by rw [ha.out, Nat.add_assoc]⟩, ⟨read_step (le l0) p g a r j t x y ha.out HRJ.out.1 HRJ.out.2 hx.out HYV.out k3 (by omega)⟩, by simp, by simp, rfl⟩, ?_⟩
        simp [intOf]; omega
      · obtain ⟨t, ht⟩ : ∃ t : Nat, t = W - g := ⟨_, rfl⟩
        have et : (W : Int) - (g : Int) = (t : Int) := by omega
        have k1 : (t : Int) < 8 - (r : Int) := by omega
        have k2 : t ≤ 8 := by omega
        have k3 : r + t ≤ 8 := by omega
        have k4 : 1 ≤ t := by omega
        clear ht hmn
        go_wp2
        go_quiet (fail)
        go_wp2
        refine ⟨⟨(Drawn0.refl _).step _, g + t, a + t, _, by omega, ⟨by rw [ha.out, Nat.add_assoc]⟩, ⟨read_step (le l0) p g a r j t x y ha.out HRJ.out.1 HRJ.out.2 hx.out HYV.out k3 (by omega)⟩, by simp, by simp, rfl⟩, ?_⟩
        simp [intOf]; omega
    · have : g = W := by omega
      subst this
      go_wp2
      go_ret
      exact ⟨by rw [hx.out]; first | rfl | simp, (Drawn0.refl _).step _⟩

end Go.Proofs.Ytllhbjkkoogeeaa.QDeltaDecode
