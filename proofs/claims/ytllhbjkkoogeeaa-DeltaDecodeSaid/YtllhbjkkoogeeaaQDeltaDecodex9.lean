-- Written by a program of this session (wip/pr2.sh): the walk of the Go text, function by function.
import Derived.Test.YtllhbjkkoogeeaaQDeltaDecodex0
import Derived.Test.YtllhbjkkoogeeaaQDeltaDecodex1
import Derived.Test.YtllhbjkkoogeeaaQDeltaDecodex4
import Derived.Test.YtllhbjkkoogeeaaQDeltaDecodex7
import Derived.Test.YtllhbjkkoogeeaaQDeltaDecodex8
namespace Go.Proofs.Ytllhbjkkoogeeaa.QDeltaDecode
open Go.RowKit Go.Proofs.YtllhbjkkoogeeaaW.PrintWords Go.Proofs.YtllhbjkkoogeeaaW.PrintLast Go.Proofs.YtllhbjkkoogeeaaW.PrintMore
open Go.Proofs.YtllhbjkkoogeeaaM
attribute [local go_sem] max2_int min2_int max_two min_two max_three min_three max_four min_four   -- for this text's walks alone
set_option linter.unusedVariables false
set_option linter.unusedSimpArgs false

/-! ### laminaref09_Equal: function 33 -/
mutual
def laminaref09_Equal.l0 : Nat → List Int → List Int → Int → Option (Bool)
 | 0, _, _, _ => none
 | k + 1, x0, x1, x5 => if x5 < (x0.length : Int) then (laminaref09_Equal.j1 k x0 x1 x5 (decide (x5 < (x1.length : Int)))) else (laminaref09_Equal.j1 k x0 x1 x5 false)
def laminaref09_Equal.j1 : Nat → List Int → List Int → Int → Bool → Option (Bool)
 | 0, _, _, _, _ => none
 | k + 1, x0, x1, x5, x20 => if x20 = true then (if 0 ≤ x5 then (if x5 < (x0.length : Int) then (if x5 < (x1.length : Int) then (if (rd x0 x5) = (rd x1 x5) then (laminaref09_Equal.l0 k x0 x1 (wrap64 (x5 + 1))) else (some false)) else (none)) else (none)) else (none)) else (some true)
end
def laminaref09_Equal.f (k : Nat) (l0 : List Int) (l1 : List Int) : Option (Bool) := if (l0.length : Int) = (l1.length : Int) then (laminaref09_Equal.l0 k l0 l1 0) else (some false)
theorem laminaref09_Equal.mono_l : ∀ k, (∀ y0 y1 y2, LeO (laminaref09_Equal.l0 k y0 y1 y2) (laminaref09_Equal.l0 (k + 1) y0 y1 y2)) ∧ (∀ y0 y1 y2 y3, LeO (laminaref09_Equal.j1 k y0 y1 y2 y3) (laminaref09_Equal.j1 (k + 1) y0 y1 y2 y3))
 | 0 => ⟨fun _ _ _ r h => by simp [laminaref09_Equal.l0] at h, fun _ _ _ _ r h => by simp [laminaref09_Equal.j1] at h⟩
 | k + 1 => by
  obtain ⟨ih0, ih1⟩ := laminaref09_Equal.mono_l k
  refine ⟨?_, ?_⟩
  ·intro y0 y1 y2
   unfold laminaref09_Equal.l0
   repeat' first
   | (with_reducible exact ih0 _ _ _)
   | (with_reducible exact ih1 _ _ _ _)
   | (with_reducible exact LeO.refl _)
   | (with_reducible exact LeO.none _)
   | (with_reducible refine LeO.ite ?_ ?_)
   | (with_reducible refine LeO.bind ?_ (fun _ => ?_))
   | exact ih0 _ _ _
   | exact ih1 _ _ _ _
   | exact LeO.none _
   | refine LeO.ite ?_ ?_
   | refine LeO.bind ?_ (fun _ => ?_)
  ·intro y0 y1 y2 y3
   unfold laminaref09_Equal.j1
   repeat' first
   | (with_reducible exact ih0 _ _ _)
   | (with_reducible exact ih1 _ _ _ _)
   | (with_reducible exact LeO.refl _)
   | (with_reducible exact LeO.none _)
   | (with_reducible refine LeO.ite ?_ ?_)
   | (with_reducible refine LeO.bind ?_ (fun _ => ?_))
   | exact ih0 _ _ _
   | exact ih1 _ _ _ _
   | exact LeO.none _
   | refine LeO.ite ?_ ?_
   | refine LeO.bind ?_ (fun _ => ?_)
theorem laminaref09_Equal.mono : ∀ a0 a1 k, LeO (laminaref09_Equal.f k a0 a1) (laminaref09_Equal.f (k + 1) a0 a1) := by
 intro a0 a1 k
 obtain ⟨ih0, ih1⟩ := laminaref09_Equal.mono_l k
 unfold laminaref09_Equal.f
 repeat' first
   | (with_reducible exact ih0 _ _ _)
   | (with_reducible exact ih1 _ _ _ _)
   | (with_reducible exact LeO.refl _)
   | (with_reducible exact LeO.none _)
   | (with_reducible refine LeO.ite ?_ ?_)
   | (with_reducible refine LeO.bind ?_ (fun _ => ?_))
   | exact ih0 _ _ _
   | exact ih1 _ _ _ _
   | exact LeO.none _
   | refine LeO.ite ?_ ?_
   | refine LeO.bind ?_ (fun _ => ?_)
set_option maxHeartbeats 8000000 in
set_option maxRecDepth 100000 in
theorem laminaref09_Equal.calls (k : Nat) (A0 : Option Addr) (c0 : Nat) (l0 : List Int) (A1 : Option Addr) (c1 : Nat) (l1 : List Int) (r : Bool) (w : World) (hr0 : Kd.C (Kd.int .i64) w A0 l0.length l0) (hc0 : l0.length ≤ c0) (hr1 : Kd.C (Kd.int .i64) w A1 l1.length l1) (hc1 : l1.length ≤ c1) (h : laminaref09_Equal.f k l0 l1 = some r) :
  Calls Try.prog 33 #[.slice A0 l0.length c0, .slice A1 l1.length c1] w fun e w' => e = .returned (.bool r) ∧ Drawn0 w w' := by
 have HR0 := Aside0.mk hr0
 have HC0 := Aside0.mk hc0
 clear hr0 hc0
 have HR1 := Aside0.mk hr1
 have HC1 := Aside0.mk hc1
 clear hr1 hc1
 have H : (if (l0.length : Int) = (l1.length : Int) then (laminaref09_Equal.l0 k l0 l1 0) else (some false)) = some r := h
 clear h
 by_cases c3 : (l0.length : Int) = (l1.length : Int)
 ·rw [if_pos c3] at H
  have c3b0 : ((l0.length : Int) == (l1.length : Int)) = true := beq_iff_eq.mpr c3
  have c3b1 : ((l0.length : Int) != (l1.length : Int)) = false := bne_eq_false_iff_eq.mpr c3
  have c3b2 : (l0.length == l1.length) = true := by first | simpa using c3 | (simp at c3 ⊢; omega)
  clear c3
  have H' := Aside0.mk H
  clear H
  go_enter Try.func33, Try.ntmps33
  go_wp2
  repeat (go_quiet (fail); try go_wp2)
  go_loopg [5] k (fun kq v5 w' => ∃ (x5_1 : Int), v5 = .int .i64 x5_1 ∧ Aside0 (laminaref09_Equal.l0 kq l0 l1 x5_1 = some r) ∧ Aside0 (kq ≤ k) ∧ Drawn0 w w')
  case atStart => exact ⟨(0), fr_, H', ⟨Nat.le_refl _⟩, by repeat (first | exact Drawn0.refl _ | apply Drawn0.step)⟩
  case round =>
   clear H'
   try clear c1
   try clear p2
   try clear c3
   try clear c3b0
   try clear c3b1
   try clear c3b2
   obtain ⟨x5_1, rfl, HA, HK1, ⟨m1, rfl⟩⟩ := hrel
   cases gk with
   | zero => exact absurd HA.out (by simp [laminaref09_Equal.l0])
   | succ k1 =>
    have H := HA.out
    clear HA
    simp only [laminaref09_Equal.l0] at H
    have HC4 := Aside0.mk H
    clear H
    go_upto_region 4 with (fail)
    repeat (go_quiet (fail); go_upto_region 4 with (fail))
    go_cut [20] (fun v20 wc => ∃ (kq : Nat) (x20_3 : Bool), v20 = .bool x20_3 ∧ Aside0 (laminaref09_Equal.j1 kq l0 l1 x5_1 x20_3 = some r) ∧ Aside0 (kq ≤ k1) ∧ Drawn0 w wc)
    case first =>
     have H := HC4.out
     clear HC4
     by_cases c5 : x5_1 < (l0.length : Int)
     ·rw [if_pos c5] at H
      have c5b0 : decide (x5_1 < (l0.length : Int)) = true := decide_eq_true c5
      clear c5
      (first | rw [c5b0] | (simp only [i64_w, i32_w]; rw [c5b0]) | skip)
      have H' := Aside0.mk H
      clear H
      go_wp2
      repeat (go_quiet (fail); try go_wp2)
      go_meet
      case rel => exact ⟨_, (decide (x5_1 < (l1.length : Int))), fr_, H', ⟨by have := HK1.out; first | omega | exact Nat.le_refl _⟩, by repeat (first | exact Drawn0.refl _ | apply Drawn0.step)⟩
     ·rw [if_neg c5] at H
      have c5b0 : decide (x5_1 < (l0.length : Int)) = false := decide_eq_false c5
      clear c5
      (first | rw [c5b0] | (simp only [i64_w, i32_w]; rw [c5b0]) | skip)
      have H' := Aside0.mk H
      clear H
      go_wp2
      repeat (go_quiet (fail); try go_wp2)
      go_meet
      case rel => exact ⟨_, (false), fr_, H', ⟨by have := HK1.out; first | omega | exact Nat.le_refl _⟩, by repeat (first | exact Drawn0.refl _ | apply Drawn0.step)⟩
    case rest =>
     clear HC4
     try clear c1
     try clear p2
     try clear c3
     try clear c3b0
     try clear c3b1
     try clear c3b2
     try clear c5
     try clear c5b0
     try clear p2
     obtain ⟨kq, x20_3, rfl, HA, HJ3, ⟨mc3, rfl⟩⟩ := hcut
     cases kq with
     | zero => exact absurd HA.out (by simp [laminaref09_Equal.j1])
     | succ kj3 =>
      have H := HA.out
      clear HA
      simp only [laminaref09_Equal.j1] at H
      by_cases c6 : x20_3 = true
      ·subst c6
       have H1 : (if 0 ≤ x5_1 then (if x5_1 < (l0.length : Int) then (if x5_1 < (l1.length : Int) then (if (rd l0 x5_1) = (rd l1 x5_1) then (laminaref09_Equal.l0 kj3 l0 l1 (wrap64 (x5_1 + 1))) else (some false)) else (none)) else (none)) else (none)) = some r := by rw [if_pos rfl] at H; exact H
       clear H
       have H := H1
       clear H1
       by_cases c7 : 0 ≤ x5_1
       ·rw [if_pos c7] at H
        have c7b0 : decide (0 ≤ x5_1) = true := decide_eq_true c7
        clear c7
        by_cases c8 : x5_1 < (l0.length : Int)
        ·rw [if_pos c8] at H
         have c8b0 : decide (x5_1 < (l0.length : Int)) = true := decide_eq_true c8
         clear c8
         by_cases c9 : x5_1 < (l1.length : Int)
         ·rw [if_pos c9] at H
          have c9b0 : decide (x5_1 < (l1.length : Int)) = true := decide_eq_true c9
          clear c9
          by_cases c10 : (rd l0 x5_1) = (rd l1 x5_1)
          ·rw [if_pos c10] at H
           have c10b0 : ((rd l0 x5_1) == (rd l1 x5_1)) = true := beq_iff_eq.mpr c10
           have c10b1 : ((rd l0 x5_1) != (rd l1 x5_1)) = false := bne_eq_false_iff_eq.mpr c10
           clear c10
           have H' := Aside0.mk H
           clear H
           have p224 : 0 ≤ (x5_1 : Int) := of_decide_eq_true as_
           have q224 : x5_1 < (l0.length : Int) := of_decide_eq_true as_
           obtain ⟨ad224, e224, hx224_0⟩ := Kd.at_int HR0.out x5_1 p224 q224
           cases e224
           replace p224 := eq_true p224
           replace q224 := eq_true q224
           have p225 : 0 ≤ (x5_1 : Int) := of_decide_eq_true as_
           have q225 : x5_1 < (l1.length : Int) := of_decide_eq_true as_
           obtain ⟨ad225, e225, hx225_0⟩ := Kd.at_int HR1.out x5_1 p225 q225
           cases e225
           replace p225 := eq_true p225
           replace q225 := eq_true q225
           go_wp2
           repeat (go_quiet (fail); try go_wp2)
           go_roundg kj3
           case measure => have := HK1.out; have := HJ3.out; omega
           case rel => exact ⟨(wrap64 (x5_1 + 1)), fr_, H', ⟨by have := HK1.out; have := HJ3.out; omega⟩, by repeat (first | exact Drawn0.refl _ | apply Drawn0.step)⟩
          ·rw [if_neg c10] at H
           have c10b0 : ((rd l0 x5_1) == (rd l1 x5_1)) = false := beq_eq_false_iff_ne.mpr c10
           have c10b1 : ((rd l0 x5_1) != (rd l1 x5_1)) = true := bne_iff_ne.mpr c10
           obtain rfl := Option.some.inj H
           have p224 : 0 ≤ (x5_1 : Int) := of_decide_eq_true as_
           have q224 : x5_1 < (l0.length : Int) := of_decide_eq_true as_
           obtain ⟨ad224, e224, hx224_0⟩ := Kd.at_int HR0.out x5_1 p224 q224
           cases e224
           replace p224 := eq_true p224
           replace q224 := eq_true q224
           have p225 : 0 ≤ (x5_1 : Int) := of_decide_eq_true as_
           have q225 : x5_1 < (l1.length : Int) := of_decide_eq_true as_
           obtain ⟨ad225, e225, hx225_0⟩ := Kd.at_int HR1.out x5_1 p225 q225
           cases e225
           replace p225 := eq_true p225
           replace q225 := eq_true q225
           go_wp2
           repeat (go_quiet (fail); try go_wp2)
           go_ret
           exact ⟨fr_, dr_⟩
         ·rw [if_neg c9] at H
          exact absurd H (by simp)
        ·rw [if_neg c8] at H
         exact absurd H (by simp)
       ·rw [if_neg c7] at H
        exact absurd H (by simp)
      ·replace c6 := Bool.eq_false_iff.mpr c6
       subst c6
       have H1 : (some true) = some r := by rw [if_neg (show ¬ (false = true) by decide)] at H; exact H
       clear H
       have H := H1
       clear H1
       obtain rfl := Option.some.inj H
       go_wp2
       repeat (go_quiet (fail); try go_wp2)
       go_ret
       exact ⟨fr_, dr_⟩
 ·rw [if_neg c3] at H
  have c3b0 : ((l0.length : Int) == (l1.length : Int)) = false := beq_eq_false_iff_ne.mpr c3
  have c3b1 : ((l0.length : Int) != (l1.length : Int)) = true := bne_iff_ne.mpr c3
  have c3b2 : (l0.length == l1.length) = false := by first | simpa using c3 | (simp at c3 ⊢; omega)
  obtain rfl := Option.some.inj H
  go_enter Try.func33, Try.ntmps33
  go_wp2
  repeat (go_quiet (fail); try go_wp2)
  go_ret
  exact ⟨fr_, dr_⟩

/-! ### delta_Size: function 34 -/
def delta_Size.f (k : Nat) (l0 : List Int) : Option (Int) := (delta_Encode.f k l0).bind fun t226 => (some (t226.length : Int))
theorem delta_Size.mono : ∀ a0 k, LeO (delta_Size.f k a0) (delta_Size.f (k + 1) a0) := by
 intro a0 k
 unfold delta_Size.f
 repeat' first
   | (with_reducible exact delta_Encode.mono _ _)
   | (with_reducible exact LeO.refl _)
   | (with_reducible exact LeO.none _)
   | (with_reducible refine LeO.ite ?_ ?_)
   | (with_reducible refine LeO.bind ?_ (fun _ => ?_))
   | exact delta_Encode.mono _ _
   | exact LeO.none _
   | refine LeO.ite ?_ ?_
   | refine LeO.bind ?_ (fun _ => ?_)
set_option maxHeartbeats 8000000 in
set_option maxRecDepth 100000 in
theorem delta_Size.calls (k : Nat) (A0 : Option Addr) (c0 : Nat) (l0 : List Int) (r : Int) (w : World) (hr0 : Kd.C (Kd.int .i64) w A0 l0.length l0) (hc0 : l0.length ≤ c0) (h : delta_Size.f k l0 = some r) :
  Calls Try.prog 34 #[.slice A0 l0.length c0] w fun e w' => e = .returned (.int .i64 r) ∧ Below w.heap.size w w' := by
 have HR0 := Aside0.mk hr0
 have HC0 := Aside0.mk hc0
 clear hr0 hc0
 have HB := Aside0.mk (Below.refl w.heap.size w)
 have H : ((delta_Encode.f k l0).bind fun t226 => (some (t226.length : Int))) = some r := h
 clear h
 replace H := Option.bind_eq_some_iff.mp H
 obtain ⟨t226, A20, H⟩ := H
 try dsimp only at H
 have A2 := Aside0.mk A20
 clear A20
 obtain rfl := Option.some.inj H
 go_enter Try.func34, Try.ntmps34
 go_wp2_with (first | ((with_reducible refine gate_callee (f := 31) rfl ?_); refine goesL_ (some 4) rfl rfl Try.func31 (by kernel_rfl) rfl #[.slice A0 l0.length c0] rfl ma_ ?_; (with_reducible refine (delta_Encode.calls k _ _ l0 t226 _ ?side1 ?side2 A2.out).mono ?_); (case side1 => exact ca_ HR0.out); (case side2 => exact HC0.out); rintro e w3 ⟨v227, rfl, ho0, hb⟩; refine ⟨_, rfl, ?_⟩; have n0_ := Aside0.mk (Kd.R_lower ho0 (below_size (bb_ HB))); have n1_ := Aside0.mk (below_step (bb_ HB) hb); clear HB; have HO228 := n0_; have HB := n1_; clear n0_ n1_; (try clear hb); (try clear hb2); (try clear hk); (try clear hi); (try clear ho0); obtain ⟨Ao4, co4, eo4⟩ := Kd.R_slice HO228.out; subst eo4))
 go_ret
 exact ⟨er_, by repeat (first | (with_reducible first | exact HB.out | apply below_alloc | apply pw_below_drewN | apply below_drew1) | exact HB.out)⟩

/-! ### laminalaw09_lives: function 30 -/
def laminalaw09_lives.f (k : Nat)  : Option (Bool) := (delta_Encode.f k (([7] : List Int))).bind fun t232 => ((delta_Decode.f k t232 0 1).bind fun bt235 => ((delta_Decode.f k (([3] : List Int)) 0 1).bind fun bt243 => ((delta_Decode.f k ([] : List Int) 0 0).bind fun bt248 => ((delta_Decode.f k t232 0 (-1)).bind fun bt253 => ((delta_Differences.f k (([3, 5, 4] : List Int))).bind fun t261 => ((laminaref09_Equal.f k t261 (([2, (-1)] : List Int))).bind fun t267 => (if t267 = true then ((delta_PrefixSums.f 3 (([2, (-1)] : List Int))).bind fun t271 => ((laminaref09_Equal.f k t271 (([3, 5, 4] : List Int))).bind fun t277 => (if t277 = true then (if (t232.length : Int) > 2 then (if 0 < (t232.length : Int) then (if (rd t232 0) = 1 then (if 1 < (t232.length : Int) then (if (rd t232 1) = 14 then ((delta_Size.f k (([7] : List Int))).bind fun t283 => (if t283 = (t232.length : Int) then (if bt235.2.2 = 0 then (if bt235.2.1 = (t232.length : Int) then ((laminaref09_Equal.f k bt235.1 (([7] : List Int))).bind fun t287 => (if t287 = true then (if bt243.2.2 = 4 then (if bt248.2.2 = 2 then (some (bt253.2.2 == 1)) else (some false)) else (some false)) else (some false))) else (some false)) else (some false)) else (some false))) else (some false)) else (none)) else (some false)) else (none)) else (some false)) else (some false)))) else (some false))))))))
theorem laminalaw09_lives.mono : ∀ k, LeO (laminalaw09_lives.f k ) (laminalaw09_lives.f (k + 1) ) := by
 intro  k
 unfold laminalaw09_lives.f
 repeat' first
   | (with_reducible exact delta_Decode.mono _ _ _ _)
   | (with_reducible exact delta_Differences.mono _ _)
   | (with_reducible exact delta_Encode.mono _ _)
   | (with_reducible exact delta_Size.mono _ _)
   | (with_reducible exact laminaref09_Equal.mono _ _ _)
   | (with_reducible exact LeO.refl _)
   | (with_reducible exact LeO.none _)
   | (with_reducible refine LeO.ite ?_ ?_)
   | (with_reducible refine LeO.bind ?_ (fun _ => ?_))
   | exact delta_Decode.mono _ _ _ _
   | exact delta_Differences.mono _ _
   | exact delta_Encode.mono _ _
   | exact delta_Size.mono _ _
   | exact laminaref09_Equal.mono _ _ _
   | exact LeO.none _
   | refine LeO.ite ?_ ?_
   | refine LeO.bind ?_ (fun _ => ?_)
theorem laminalaw09_lives.val (k : Nat) (r : Bool) (h : laminalaw09_lives.f k = some r) : r = true := by
 have h1 : laminalaw09_lives.f 200 = some true := by decide +kernel
 rcases Nat.le_total k 200 with hk | hk
 ·have := at_rounds laminalaw09_lives.mono hk h
  rw [h1] at this
  exact (Option.some.inj this).symm
 ·have := at_rounds laminalaw09_lives.mono hk h1
  rw [h] at this
  exact Option.some.inj this
set_option maxHeartbeats 8000000 in
set_option maxRecDepth 100000 in
theorem laminalaw09_lives.calls (k : Nat)  (r : Bool) (w : World) (h : laminalaw09_lives.f k  = some r) :
  Calls Try.prog 30 #[] w fun e w' => e = .returned (.bool r) ∧ Below w.heap.size w w' := by
 have hr_ := Aside0.mk (laminalaw09_lives.val k r h)
 have HB := Aside0.mk (Below.refl w.heap.size w)
 have H : ((delta_Encode.f k (([7] : List Int))).bind fun t232 => ((delta_Decode.f k t232 0 1).bind fun bt235 => ((delta_Decode.f k (([3] : List Int)) 0 1).bind fun bt243 => ((delta_Decode.f k ([] : List Int) 0 0).bind fun bt248 => ((delta_Decode.f k t232 0 (-1)).bind fun bt253 => ((delta_Differences.f k (([3, 5, 4] : List Int))).bind fun t261 => ((laminaref09_Equal.f k t261 (([2, (-1)] : List Int))).bind fun t267 => (if t267 = true then ((delta_PrefixSums.f 3 (([2, (-1)] : List Int))).bind fun t271 => ((laminaref09_Equal.f k t271 (([3, 5, 4] : List Int))).bind fun t277 => (if t277 = true then (if (t232.length : Int) > 2 then (if 0 < (t232.length : Int) then (if (rd t232 0) = 1 then (if 1 < (t232.length : Int) then (if (rd t232 1) = 14 then ((delta_Size.f k (([7] : List Int))).bind fun t283 => (if t283 = (t232.length : Int) then (if bt235.2.2 = 0 then (if bt235.2.1 = (t232.length : Int) then ((laminaref09_Equal.f k bt235.1 (([7] : List Int))).bind fun t287 => (if t287 = true then (if bt243.2.2 = 4 then (if bt248.2.2 = 2 then (some (bt253.2.2 == 1)) else (some false)) else (some false)) else (some false))) else (some false)) else (some false)) else (some false))) else (some false)) else (none)) else (some false)) else (none)) else (some false)) else (some false)))) else (some false))))))))) = some r := h
 clear h
 obtain ⟨y229, hy229⟩ : ∃ y_ : List Int, y_ = (([7] : List Int)) := ⟨_, rfl⟩
 replace H : ((delta_Encode.f k y229).bind fun t232 => ((delta_Decode.f k t232 0 1).bind fun bt235 => ((delta_Decode.f k (([3] : List Int)) 0 1).bind fun bt243 => ((delta_Decode.f k ([] : List Int) 0 0).bind fun bt248 => ((delta_Decode.f k t232 0 (-1)).bind fun bt253 => ((delta_Differences.f k (([3, 5, 4] : List Int))).bind fun t261 => ((laminaref09_Equal.f k t261 (([2, (-1)] : List Int))).bind fun t267 => (if t267 = true then ((delta_PrefixSums.f 3 (([2, (-1)] : List Int))).bind fun t271 => ((laminaref09_Equal.f k t271 (([3, 5, 4] : List Int))).bind fun t277 => (if t277 = true then (if (t232.length : Int) > 2 then (if 0 < (t232.length : Int) then (if (rd t232 0) = 1 then (if 1 < (t232.length : Int) then (if (rd t232 1) = 14 then ((delta_Size.f k (([7] : List Int))).bind fun t283 => (if t283 = (t232.length : Int) then (if bt235.2.2 = 0 then (if bt235.2.1 = (t232.length : Int) then ((laminaref09_Equal.f k bt235.1 (([7] : List Int))).bind fun t287 => (if t287 = true then (if bt243.2.2 = 4 then (if bt248.2.2 = 2 then (some (bt253.2.2 == 1)) else (some false)) else (some false)) else (some false))) else (some false)) else (some false)) else (some false))) else (some false)) else (none)) else (some false)) else (none)) else (some false)) else (some false)))) else (some false))))))))) = some r := hx_ hy229 H
 have Ny229 := Aside0.mk hy229
 clear hy229
 replace H := Option.bind_eq_some_iff.mp H
 obtain ⟨t232, A10, H⟩ := H
 try dsimp only at H
 have A1 := Aside0.mk A10
 clear A10
 replace H := Option.bind_eq_some_iff.mp H
 obtain ⟨⟨t235, t236, t237⟩, A20, H⟩ := H
 try dsimp only at H
 have A2 := Aside0.mk A20
 clear A20
 obtain ⟨y240, hy240⟩ : ∃ y_ : List Int, y_ = (([3] : List Int)) := ⟨_, rfl⟩
 replace H : ((delta_Decode.f k y240 0 1).bind fun bt243 => ((delta_Decode.f k ([] : List Int) 0 0).bind fun bt248 => ((delta_Decode.f k t232 0 (-1)).bind fun bt253 => ((delta_Differences.f k (([3, 5, 4] : List Int))).bind fun t261 => ((laminaref09_Equal.f k t261 (([2, (-1)] : List Int))).bind fun t267 => (if t267 = true then ((delta_PrefixSums.f 3 (([2, (-1)] : List Int))).bind fun t271 => ((laminaref09_Equal.f k t271 (([3, 5, 4] : List Int))).bind fun t277 => (if t277 = true then (if (t232.length : Int) > 2 then (if 0 < (t232.length : Int) then (if (rd t232 0) = 1 then (if 1 < (t232.length : Int) then (if (rd t232 1) = 14 then ((delta_Size.f k (([7] : List Int))).bind fun t283 => (if t283 = (t232.length : Int) then (if t237 = 0 then (if t236 = (t232.length : Int) then ((laminaref09_Equal.f k t235 (([7] : List Int))).bind fun t287 => (if t287 = true then (if bt243.2.2 = 4 then (if bt248.2.2 = 2 then (some (bt253.2.2 == 1)) else (some false)) else (some false)) else (some false))) else (some false)) else (some false)) else (some false))) else (some false)) else (none)) else (some false)) else (none)) else (some false)) else (some false)))) else (some false))))))) = some r := hx_ hy240 H
 have Ny240 := Aside0.mk hy240
 clear hy240
 replace H := Option.bind_eq_some_iff.mp H
 obtain ⟨⟨t243, t244, t245⟩, A30, H⟩ := H
 try dsimp only at H
 have A3 := Aside0.mk A30
 clear A30
 replace H := Option.bind_eq_some_iff.mp H
 obtain ⟨⟨t248, t249, t250⟩, A40, H⟩ := H
 try dsimp only at H
 have A4 := Aside0.mk A40
 have cn_ := fun w_ : World => delta_Decode.calls k none 0 ([] : List Int) 0 0 t248 t249 t250 w_ (Kd.C_nil _ _) (Nat.le_refl _) A40
 simp only [List.length_nil] at cn_
 have CNA4 := Aside0.mk cn_
 clear cn_
 clear A40
 replace H := Option.bind_eq_some_iff.mp H
 obtain ⟨⟨t253, t254, t255⟩, A50, H⟩ := H
 try dsimp only at H
 have A5 := Aside0.mk A50
 clear A50
 obtain ⟨y258, hy258⟩ : ∃ y_ : List Int, y_ = (([3, 5, 4] : List Int)) := ⟨_, rfl⟩
 replace H : ((delta_Differences.f k y258).bind fun t261 => ((laminaref09_Equal.f k t261 (([2, (-1)] : List Int))).bind fun t267 => (if t267 = true then ((delta_PrefixSums.f 3 (([2, (-1)] : List Int))).bind fun t271 => ((laminaref09_Equal.f k t271 (([3, 5, 4] : List Int))).bind fun t277 => (if t277 = true then (if (t232.length : Int) > 2 then (if 0 < (t232.length : Int) then (if (rd t232 0) = 1 then (if 1 < (t232.length : Int) then (if (rd t232 1) = 14 then ((delta_Size.f k (([7] : List Int))).bind fun t283 => (if t283 = (t232.length : Int) then (if t237 = 0 then (if t236 = (t232.length : Int) then ((laminaref09_Equal.f k t235 (([7] : List Int))).bind fun t287 => (if t287 = true then (if t245 = 4 then (if t250 = 2 then (some (t255 == 1)) else (some false)) else (some false)) else (some false))) else (some false)) else (some false)) else (some false))) else (some false)) else (none)) else (some false)) else (none)) else (some false)) else (some false)))) else (some false)))) = some r := hx_ hy258 H
 have Ny258 := Aside0.mk hy258
 clear hy258
 replace H := Option.bind_eq_some_iff.mp H
 obtain ⟨t261, A60, H⟩ := H
 try dsimp only at H
 have A6 := Aside0.mk A60
 clear A60
 obtain ⟨y264, hy264⟩ : ∃ y_ : List Int, y_ = (([2, (-1)] : List Int)) := ⟨_, rfl⟩
 replace H : ((laminaref09_Equal.f k t261 y264).bind fun t267 => (if t267 = true then ((delta_PrefixSums.f 3 (([2, (-1)] : List Int))).bind fun t271 => ((laminaref09_Equal.f k t271 (([3, 5, 4] : List Int))).bind fun t277 => (if t277 = true then (if (t232.length : Int) > 2 then (if 0 < (t232.length : Int) then (if (rd t232 0) = 1 then (if 1 < (t232.length : Int) then (if (rd t232 1) = 14 then ((delta_Size.f k (([7] : List Int))).bind fun t283 => (if t283 = (t232.length : Int) then (if t237 = 0 then (if t236 = (t232.length : Int) then ((laminaref09_Equal.f k t235 (([7] : List Int))).bind fun t287 => (if t287 = true then (if t245 = 4 then (if t250 = 2 then (some (t255 == 1)) else (some false)) else (some false)) else (some false))) else (some false)) else (some false)) else (some false))) else (some false)) else (none)) else (some false)) else (none)) else (some false)) else (some false)))) else (some false))) = some r := hx_ hy264 H
 have Ny264 := Aside0.mk hy264
 clear hy264
 replace H := Option.bind_eq_some_iff.mp H
 obtain ⟨t267, A70, H⟩ := H
 try dsimp only at H
 have A7 := Aside0.mk A70
 clear A70
 by_cases c8 : t267 = true
 ·subst c8
  have H1 : ((delta_PrefixSums.f 3 (([2, (-1)] : List Int))).bind fun t271 => ((laminaref09_Equal.f k t271 (([3, 5, 4] : List Int))).bind fun t277 => (if t277 = true then (if (t232.length : Int) > 2 then (if 0 < (t232.length : Int) then (if (rd t232 0) = 1 then (if 1 < (t232.length : Int) then (if (rd t232 1) = 14 then ((delta_Size.f k (([7] : List Int))).bind fun t283 => (if t283 = (t232.length : Int) then (if t237 = 0 then (if t236 = (t232.length : Int) then ((laminaref09_Equal.f k t235 (([7] : List Int))).bind fun t287 => (if t287 = true then (if t245 = 4 then (if t250 = 2 then (some (t255 == 1)) else (some false)) else (some false)) else (some false))) else (some false)) else (some false)) else (some false))) else (some false)) else (none)) else (some false)) else (none)) else (some false)) else (some false)))) = some r := by rw [if_pos rfl] at H; exact H
  clear H
  have H := H1
  clear H1
  obtain ⟨y268, hy268⟩ : ∃ y_ : List Int, y_ = (([2, (-1)] : List Int)) := ⟨_, rfl⟩
  replace H : ((delta_PrefixSums.f 3 y268).bind fun t271 => ((laminaref09_Equal.f k t271 (([3, 5, 4] : List Int))).bind fun t277 => (if t277 = true then (if (t232.length : Int) > 2 then (if 0 < (t232.length : Int) then (if (rd t232 0) = 1 then (if 1 < (t232.length : Int) then (if (rd t232 1) = 14 then ((delta_Size.f k (([7] : List Int))).bind fun t283 => (if t283 = (t232.length : Int) then (if t237 = 0 then (if t236 = (t232.length : Int) then ((laminaref09_Equal.f k t235 (([7] : List Int))).bind fun t287 => (if t287 = true then (if t245 = 4 then (if t250 = 2 then (some (t255 == 1)) else (some false)) else (some false)) else (some false))) else (some false)) else (some false)) else (some false))) else (some false)) else (none)) else (some false)) else (none)) else (some false)) else (some false)))) = some r := hx_ hy268 H
  have Ny268 := Aside0.mk hy268
  clear hy268
  replace H := Option.bind_eq_some_iff.mp H
  obtain ⟨t271, A90, H⟩ := H
  try dsimp only at H
  have A9 := Aside0.mk A90
  clear A90
  obtain ⟨y274, hy274⟩ : ∃ y_ : List Int, y_ = (([3, 5, 4] : List Int)) := ⟨_, rfl⟩
  replace H : ((laminaref09_Equal.f k t271 y274).bind fun t277 => (if t277 = true then (if (t232.length : Int) > 2 then (if 0 < (t232.length : Int) then (if (rd t232 0) = 1 then (if 1 < (t232.length : Int) then (if (rd t232 1) = 14 then ((delta_Size.f k (([7] : List Int))).bind fun t283 => (if t283 = (t232.length : Int) then (if t237 = 0 then (if t236 = (t232.length : Int) then ((laminaref09_Equal.f k t235 (([7] : List Int))).bind fun t287 => (if t287 = true then (if t245 = 4 then (if t250 = 2 then (some (t255 == 1)) else (some false)) else (some false)) else (some false))) else (some false)) else (some false)) else (some false))) else (some false)) else (none)) else (some false)) else (none)) else (some false)) else (some false))) = some r := hx_ hy274 H
  have Ny274 := Aside0.mk hy274
  clear hy274
  replace H := Option.bind_eq_some_iff.mp H
  obtain ⟨t277, A100, H⟩ := H
  try dsimp only at H
  have A10 := Aside0.mk A100
  clear A100
  by_cases c11 : t277 = true
  ·subst c11
   have H1 : (if (t232.length : Int) > 2 then (if 0 < (t232.length : Int) then (if (rd t232 0) = 1 then (if 1 < (t232.length : Int) then (if (rd t232 1) = 14 then ((delta_Size.f k (([7] : List Int))).bind fun t283 => (if t283 = (t232.length : Int) then (if t237 = 0 then (if t236 = (t232.length : Int) then ((laminaref09_Equal.f k t235 (([7] : List Int))).bind fun t287 => (if t287 = true then (if t245 = 4 then (if t250 = 2 then (some (t255 == 1)) else (some false)) else (some false)) else (some false))) else (some false)) else (some false)) else (some false))) else (some false)) else (none)) else (some false)) else (none)) else (some false)) = some r := by rw [if_pos rfl] at H; exact H
   clear H
   have H := H1
   clear H1
   by_cases c12 : (t232.length : Int) > 2
   ·rw [if_pos c12] at H
    have c12b0 : decide (2 < (t232.length : Int)) = true := decide_eq_true c12
    have c12b1 : decide (2 < t232.length) = true := decide_eq_true (by omega)
    clear c12
    by_cases c13 : 0 < (t232.length : Int)
    ·rw [if_pos c13] at H
     have c13b0 : decide (0 < (t232.length : Int)) = true := decide_eq_true c13
     have c13b1 : decide (0 < t232.length) = true := decide_eq_true (by omega)
     clear c13
     by_cases c14 : (rd t232 0) = 1
     ·rw [if_pos c14] at H
      have c14b0 : ((rd t232 0) == 1) = true := beq_iff_eq.mpr c14
      have c14b1 : ((rd t232 0) != 1) = false := bne_eq_false_iff_eq.mpr c14
      clear c14
      by_cases c15 : 1 < (t232.length : Int)
      ·rw [if_pos c15] at H
       have c15b0 : decide (1 < (t232.length : Int)) = true := decide_eq_true c15
       have c15b1 : decide (1 < t232.length) = true := decide_eq_true (by omega)
       clear c15
       by_cases c16 : (rd t232 1) = 14
       ·rw [if_pos c16] at H
        have c16b0 : ((rd t232 1) == 14) = true := beq_iff_eq.mpr c16
        have c16b1 : ((rd t232 1) != 14) = false := bne_eq_false_iff_eq.mpr c16
        clear c16
        obtain ⟨y280, hy280⟩ : ∃ y_ : List Int, y_ = (([7] : List Int)) := ⟨_, rfl⟩
        replace H : ((delta_Size.f k y280).bind fun t283 => (if t283 = (t232.length : Int) then (if t237 = 0 then (if t236 = (t232.length : Int) then ((laminaref09_Equal.f k t235 (([7] : List Int))).bind fun t287 => (if t287 = true then (if t245 = 4 then (if t250 = 2 then (some (t255 == 1)) else (some false)) else (some false)) else (some false))) else (some false)) else (some false)) else (some false))) = some r := hx_ hy280 H
        have Ny280 := Aside0.mk hy280
        clear hy280
        replace H := Option.bind_eq_some_iff.mp H
        obtain ⟨t283, A170, H⟩ := H
        try dsimp only at H
        have A17 := Aside0.mk A170
        clear A170
        by_cases c18 : t283 = (t232.length : Int)
        ·rw [if_pos c18] at H
         have c18b0 : (t283 == (t232.length : Int)) = true := beq_iff_eq.mpr c18
         have c18b1 : (t283 != (t232.length : Int)) = false := bne_eq_false_iff_eq.mpr c18
         clear c18
         by_cases c19 : t237 = 0
         ·rw [if_pos c19] at H
          have c19b0 : (t237 == 0) = true := beq_iff_eq.mpr c19
          have c19b1 : (t237 != 0) = false := bne_eq_false_iff_eq.mpr c19
          clear c19
          by_cases c20 : t236 = (t232.length : Int)
          ·rw [if_pos c20] at H
           have c20b0 : (t236 == (t232.length : Int)) = true := beq_iff_eq.mpr c20
           have c20b1 : (t236 != (t232.length : Int)) = false := bne_eq_false_iff_eq.mpr c20
           clear c20
           obtain ⟨y284, hy284⟩ : ∃ y_ : List Int, y_ = (([7] : List Int)) := ⟨_, rfl⟩
           replace H : ((laminaref09_Equal.f k t235 y284).bind fun t287 => (if t287 = true then (if t245 = 4 then (if t250 = 2 then (some (t255 == 1)) else (some false)) else (some false)) else (some false))) = some r := hx_ hy284 H
           have Ny284 := Aside0.mk hy284
           clear hy284
           replace H := Option.bind_eq_some_iff.mp H
           obtain ⟨t287, A210, H⟩ := H
           try dsimp only at H
           have A21 := Aside0.mk A210
           clear A210
           by_cases c22 : t287 = true
           ·subst c22
            have H1 : (if t245 = 4 then (if t250 = 2 then (some (t255 == 1)) else (some false)) else (some false)) = some r := by rw [if_pos rfl] at H; exact H
            clear H
            have H := H1
            clear H1
            by_cases c23 : t245 = 4
            ·rw [if_pos c23] at H
             have c23b0 : (t245 == 4) = true := beq_iff_eq.mpr c23
             have c23b1 : (t245 != 4) = false := bne_eq_false_iff_eq.mpr c23
             clear c23
             by_cases c24 : t250 = 2
             ·rw [if_pos c24] at H
              have c24b0 : (t250 == 2) = true := beq_iff_eq.mpr c24
              have c24b1 : (t250 != 2) = false := bne_eq_false_iff_eq.mpr c24
              clear c24
              obtain rfl := Option.some.inj H
              go_enter Try.func30, Try.ntmps30
              go_wp2_with (first | ((with_reducible refine gate_dst (N := 14) rfl ?_); (try (refine gate_guard (by rfl) ?_; dsimp only)); refine Kd.R_lit (Kd.int .i64) _ 2 ?hg (N := 14) ?hd (xs := ([7] : List Int)) (inner := [.int .i64 7]) (ok := fun _ => True) (okp := fun _ => True) ?hr ?hp (fun _ hk => hk) trivial (Below.refl _ _) (Nat.le_refl _) (by simp) ?_; (case hd => rfl); (case hg => exact fs_); (case hr => first | (go_simp; done) | (go_simp; rfl)); (case hp => exact (Reps.one (show Kd.M (Kd.int .i64) _ _ _ 7 [.int .i64 7] from rfl) (Reps.none _ _))); intro v230 w25 ho26 hb hg_ hnew_; clear hg_ hnew_; (first | rw [← Ny229.out] at ho26 | (simp only [Int.reduceToNat] at ho26; rw [← Ny229.out] at ho26)); have n0_ := Aside0.mk (Kd.R_lower ho26 (below_size (bb_ HB))); have n1_ := Aside0.mk (below_step (bb_ HB) hb); clear HB; have HO231 := n0_; have HB := n1_; clear n0_ n1_; clear hb ho26; obtain ⟨Ao27, co27, eo27⟩ := Kd.R_slice HO231.out; subst eo27) | ((with_reducible refine gate_callee (f := 31) rfl ?_); refine goesL_ (some 15) rfl rfl Try.func31 (by kernel_rfl) rfl #[.slice Ao27 y229.length co27] rfl ma_ ?_; (with_reducible refine (delta_Encode.calls k _ _ y229 t232 _ ?side1 ?side2 A1.out).mono ?_); (case side1 => exact ca_ (Kd.R_reads' HO231.out).2.2); (case side2 => exact (Kd.R_reads' HO231.out).2.1); rintro e w28 ⟨v233, rfl, ho0, hb⟩; refine ⟨_, rfl, ?_⟩; have n0_ := Aside0.mk (Kd.R_below (rb_ HO231) hb); have n1_ := Aside0.mk (Kd.R_lower ho0 (below_size (bb_ HB))); have n2_ := Aside0.mk (below_step (bb_ HB) hb); clear HO231; clear HB; have HO231 := n0_; have HO234 := n1_; have HB := n2_; clear n0_ n1_ n2_; (try clear hb); (try clear hb2); (try clear hk); (try clear hi); (try clear ho0); obtain ⟨Ao29, co29, eo29⟩ := Kd.R_slice HO234.out; subst eo29) | ((with_reducible refine gate_callee (f := 32) rfl ?_); refine goesL_ (some 18) rfl rfl Try.func32 (by kernel_rfl) rfl #[.slice Ao29 t232.length co29, .int .i64 0, .int .i64 1] rfl ma_ ?_; (with_reducible refine (delta_Decode.calls k _ _ t232 0 1 t235 t236 t237 _ ?side1 ?side2 A2.out).mono ?_); (case side1 => exact ca_ (Kd.R_reads' HO234.out).2.2); (case side2 => exact (Kd.R_reads' HO234.out).2.1); rintro e w30 ⟨v238, rfl, ho0, hb⟩; refine ⟨_, rfl, ?_⟩; have n0_ := Aside0.mk (Kd.R_elder' (rb_ HO231) (Kd.R_base ho0) hb); have n1_ := Aside0.mk (Kd.R_below (rb_ HO234) hb); have n2_ := Aside0.mk (Kd.R_lower (Kd.R_new' ho0 (Kd.R_lt (rb_ HO231))) (below_size (bb_ HB))); have n3_ := Aside0.mk (below_step (bb_ HB) hb); clear HO231; clear HO234; clear HB; have HO231 := n0_; have HO234 := n1_; have HO239 := n2_; have HB := n3_; clear n0_ n1_ n2_ n3_; (try clear hb); (try clear hb2); (try clear hk); (try clear hi); (try clear ho0)) | ((with_reducible refine gate_dst (N := 23) rfl ?_); (try (refine gate_guard (by rfl) ?_; dsimp only)); refine Kd.R_lit (Kd.int .u8) _ 5 ?hg (N := 23) ?hd (xs := ([3] : List Int)) (inner := [.int .u8 3]) (ok := fun _ => True) (okp := fun _ => True) ?hr ?hp (fun _ hk => hk) trivial (Below.refl _ _) (Nat.le_refl _) (by simp) ?_; (case hd => rfl); (case hg => exact fs_); (case hr => first | (go_simp; done) | (go_simp; rfl)); (case hp => exact (Reps.one (show Kd.M (Kd.int .u8) _ _ _ 3 [.int .u8 3] from rfl) (Reps.none _ _))); intro v241 w31 ho32 hb hg_ hnew_; clear hg_ hnew_; (first | rw [← Ny240.out] at ho32 | (simp only [Int.reduceToNat] at ho32; rw [← Ny240.out] at ho32)); have n0_ := Aside0.mk (Kd.R_below (rb_ HO231) hb); have n1_ := Aside0.mk (Kd.R_elder' (rb_ HO234) (Kd.R_base ho32) hb); have n2_ := Aside0.mk (Kd.R_below (rb_ HO239) hb); have n3_ := Aside0.mk (Kd.R_lower (Kd.R_new' ho32 (Kd.R_lt (rb_ HO234))) (below_size (bb_ HB))); have n4_ := Aside0.mk (below_step (bb_ HB) hb); clear HO231; clear HO234; clear HO239; clear HB; have HO231 := n0_; have HO234 := n1_; have HO239 := n2_; have HO242 := n3_; have HB := n4_; clear n0_ n1_ n2_ n3_ n4_; clear hb ho32; obtain ⟨Ao33, co33, eo33⟩ := Kd.R_slice HO242.out; subst eo33) | ((with_reducible refine gate_callee (f := 32) rfl ?_); refine goesL_ (some 24) rfl rfl Try.func32 (by kernel_rfl) rfl #[.slice Ao33 y240.length co33, .int .i64 0, .int .i64 1] rfl ma_ ?_; (with_reducible refine (delta_Decode.calls k _ _ y240 0 1 t243 t244 t245 _ ?side1 ?side2 A3.out).mono ?_); (case side1 => exact ca_ (Kd.R_reads' HO242.out).2.2); (case side2 => exact (Kd.R_reads' HO242.out).2.1); rintro e w34 ⟨v246, rfl, ho0, hb⟩; refine ⟨_, rfl, ?_⟩; have n0_ := Aside0.mk (Kd.R_elder' (rb_ HO231) (Kd.R_base ho0) hb); have n1_ := Aside0.mk (Kd.R_below (rb_ HO234) hb); have n2_ := Aside0.mk (Kd.R_elder' (rb_ HO239) (Kd.R_base ho0) hb); have n3_ := Aside0.mk (Kd.R_below (rb_ HO242) hb); have n4_ := Aside0.mk (Kd.R_lower (Kd.R_new' (Kd.R_new' ho0 (Kd.R_lt (rb_ HO231))) (Kd.R_lt (rb_ HO239))) (below_size (bb_ HB))); have n5_ := Aside0.mk (below_step (bb_ HB) hb); clear HO231; clear HO234; clear HO239; clear HO242; clear HB; have HO231 := n0_; have HO234 := n1_; have HO239 := n2_; have HO242 := n3_; have HO247 := n4_; have HB := n5_; clear n0_ n1_ n2_ n3_ n4_ n5_; (try clear hb); (try clear hb2); (try clear hk); (try clear hi); (try clear ho0)) | ((with_reducible refine gate_callee (f := 32) rfl ?_); refine goesL_ (some 29) rfl rfl Try.func32 (by kernel_rfl) rfl #[.slice none 0 0, .int .i64 0, .int .i64 0] rfl ma_ ?_; (with_reducible refine (CNA4.out _).mono ?_); rintro e w35 ⟨v251, rfl, ho0, hb⟩; refine ⟨_, rfl, ?_⟩; have n0_ := Aside0.mk (Kd.R_elder' (rb_ HO231) (Kd.R_base ho0) hb); have n1_ := Aside0.mk (Kd.R_below (rb_ HO234) hb); have n2_ := Aside0.mk (Kd.R_elder' (rb_ HO239) (Kd.R_base ho0) hb); have n3_ := Aside0.mk (Kd.R_below (rb_ HO242) hb); have n4_ := Aside0.mk (Kd.R_elder' (rb_ HO247) (Kd.R_base ho0) hb); have n5_ := Aside0.mk (Kd.R_lower (Kd.R_new' (Kd.R_new' (Kd.R_new' ho0 (Kd.R_lt (rb_ HO231))) (Kd.R_lt (rb_ HO239))) (Kd.R_lt (rb_ HO247))) (below_size (bb_ HB))); have n6_ := Aside0.mk (below_step (bb_ HB) hb); clear HO231; clear HO234; clear HO239; clear HO242; clear HO247; clear HB; have HO231 := n0_; have HO234 := n1_; have HO239 := n2_; have HO242 := n3_; have HO247 := n4_; have HO252 := n5_; have HB := n6_; clear n0_ n1_ n2_ n3_ n4_ n5_ n6_; (try clear hb); (try clear hb2); (try clear hk); (try clear hi); (try clear ho0)) | ((with_reducible refine gate_callee (f := 32) rfl ?_); refine goesL_ (some 35) rfl rfl Try.func32 (by kernel_rfl) rfl #[.slice Ao29 t232.length co29, .int .i64 0, .int .i64 (-1)] rfl ma_ ?_; (with_reducible refine (delta_Decode.calls k _ _ t232 0 (-1) t253 t254 t255 _ ?side1 ?side2 A5.out).mono ?_); (case side1 => exact ca_ (Kd.R_reads' HO234.out).2.2); (case side2 => exact (Kd.R_reads' HO234.out).2.1); rintro e w36 ⟨v256, rfl, ho0, hb⟩; refine ⟨_, rfl, ?_⟩; have n0_ := Aside0.mk (Kd.R_elder' (rb_ HO231) (Kd.R_base ho0) hb); have n1_ := Aside0.mk (Kd.R_below (rb_ HO234) hb); have n2_ := Aside0.mk (Kd.R_elder' (rb_ HO239) (Kd.R_base ho0) hb); have n3_ := Aside0.mk (Kd.R_below (rb_ HO242) hb); have n4_ := Aside0.mk (Kd.R_elder' (rb_ HO247) (Kd.R_base ho0) hb); have n5_ := Aside0.mk (Kd.R_elder' (rb_ HO252) (Kd.R_base ho0) hb); have n6_ := Aside0.mk (Kd.R_lower (Kd.R_new' (Kd.R_new' (Kd.R_new' (Kd.R_new' ho0 (Kd.R_lt (rb_ HO231))) (Kd.R_lt (rb_ HO239))) (Kd.R_lt (rb_ HO247))) (Kd.R_lt (rb_ HO252))) (below_size (bb_ HB))); have n7_ := Aside0.mk (below_step (bb_ HB) hb); clear HO231; clear HO234; clear HO239; clear HO242; clear HO247; clear HO252; clear HB; have HO231 := n0_; have HO234 := n1_; have HO239 := n2_; have HO242 := n3_; have HO247 := n4_; have HO252 := n5_; have HO257 := n6_; have HB := n7_; clear n0_ n1_ n2_ n3_ n4_ n5_ n6_ n7_; (try clear hb); (try clear hb2); (try clear hk); (try clear hi); (try clear ho0)) | ((with_reducible refine gate_dst (N := 39) rfl ?_); (try (refine gate_guard (by rfl) ?_; dsimp only)); refine Kd.R_lit (Kd.int .i64) _ 2 ?hg (N := 39) ?hd (xs := ([3, 5, 4] : List Int)) (inner := [.int .i64 3, .int .i64 5, .int .i64 4]) (ok := fun _ => True) (okp := fun _ => True) ?hr ?hp (fun _ hk => hk) trivial (Below.refl _ _) (Nat.le_refl _) (by simp) ?_; (case hd => rfl); (case hg => exact fs_); (case hr => first | (go_simp; done) | (go_simp; rfl)); (case hp => exact (Reps.one (show Kd.M (Kd.int .i64) _ _ _ 3 [.int .i64 3] from rfl) (Reps.one (show Kd.M (Kd.int .i64) _ _ _ 5 [.int .i64 5] from rfl) (Reps.one (show Kd.M (Kd.int .i64) _ _ _ 4 [.int .i64 4] from rfl) (Reps.none _ _))))); intro v259 w37 ho38 hb hg_ hnew_; clear hg_ hnew_; (first | rw [← Ny258.out] at ho38 | (simp only [Int.reduceToNat] at ho38; rw [← Ny258.out] at ho38)); have n0_ := Aside0.mk (Kd.R_elder' (rb_ HO231) (Kd.R_base ho38) hb); have n1_ := Aside0.mk (Kd.R_below (rb_ HO234) hb); have n2_ := Aside0.mk (Kd.R_elder' (rb_ HO239) (Kd.R_base ho38) hb); have n3_ := Aside0.mk (Kd.R_below (rb_ HO242) hb); have n4_ := Aside0.mk (Kd.R_elder' (rb_ HO247) (Kd.R_base ho38) hb); have n5_ := Aside0.mk (Kd.R_elder' (rb_ HO252) (Kd.R_base ho38) hb); have n6_ := Aside0.mk (Kd.R_elder' (rb_ HO257) (Kd.R_base ho38) hb); have n7_ := Aside0.mk (Kd.R_lower (Kd.R_new' (Kd.R_new' (Kd.R_new' (Kd.R_new' (Kd.R_new' ho38 (Kd.R_lt (rb_ HO231))) (Kd.R_lt (rb_ HO239))) (Kd.R_lt (rb_ HO247))) (Kd.R_lt (rb_ HO252))) (Kd.R_lt (rb_ HO257))) (below_size (bb_ HB))); have n8_ := Aside0.mk (below_step (bb_ HB) hb); clear HO231; clear HO234; clear HO239; clear HO242; clear HO247; clear HO252; clear HO257; clear HB; have HO231 := n0_; have HO234 := n1_; have HO239 := n2_; have HO242 := n3_; have HO247 := n4_; have HO252 := n5_; have HO257 := n6_; have HO260 := n7_; have HB := n8_; clear n0_ n1_ n2_ n3_ n4_ n5_ n6_ n7_ n8_; clear hb ho38; obtain ⟨Ao39, co39, eo39⟩ := Kd.R_slice HO260.out; subst eo39) | ((with_reducible refine gate_callee (f := 48) rfl ?_); refine goesL_ (some 40) rfl rfl Try.func48 (by kernel_rfl) rfl #[.slice Ao39 y258.length co39] rfl ma_ ?_; (with_reducible refine (delta_Differences.calls k _ _ y258 t261 _ ?side1 ?side2 A6.out).mono ?_); (case side1 => exact ca_ (Kd.R_reads' HO260.out).2.2); (case side2 => exact (Kd.R_reads' HO260.out).2.1); rintro e w40 ⟨v262, rfl, ho0, hb⟩; refine ⟨_, rfl, ?_⟩; have n0_ := Aside0.mk (Kd.R_elder' (rb_ HO231) (Kd.R_base ho0) hb); have n1_ := Aside0.mk (Kd.R_below (rb_ HO234) hb); have n2_ := Aside0.mk (Kd.R_elder' (rb_ HO239) (Kd.R_base ho0) hb); have n3_ := Aside0.mk (Kd.R_below (rb_ HO242) hb); have n4_ := Aside0.mk (Kd.R_elder' (rb_ HO247) (Kd.R_base ho0) hb); have n5_ := Aside0.mk (Kd.R_elder' (rb_ HO252) (Kd.R_base ho0) hb); have n6_ := Aside0.mk (Kd.R_elder' (rb_ HO257) (Kd.R_base ho0) hb); have n7_ := Aside0.mk (Kd.R_elder' (rb_ HO260) (Kd.R_base ho0) hb); have n8_ := Aside0.mk (Kd.R_lower (Kd.R_new' (Kd.R_new' (Kd.R_new' (Kd.R_new' (Kd.R_new' (Kd.R_new' ho0 (Kd.R_lt (rb_ HO231))) (Kd.R_lt (rb_ HO239))) (Kd.R_lt (rb_ HO247))) (Kd.R_lt (rb_ HO252))) (Kd.R_lt (rb_ HO257))) (Kd.R_lt (rb_ HO260))) (below_size (bb_ HB))); have n9_ := Aside0.mk (below_step (bb_ HB) hb); clear HO231; clear HO234; clear HO239; clear HO242; clear HO247; clear HO252; clear HO257; clear HO260; clear HB; have HO231 := n0_; have HO234 := n1_; have HO239 := n2_; have HO242 := n3_; have HO247 := n4_; have HO252 := n5_; have HO257 := n6_; have HO260 := n7_; have HO263 := n8_; have HB := n9_; clear n0_ n1_ n2_ n3_ n4_ n5_ n6_ n7_ n8_ n9_; (try clear hb); (try clear hb2); (try clear hk); (try clear hi); (try clear ho0)) | ((with_reducible refine gate_dst (N := 41) rfl ?_); (try (refine gate_guard (by rfl) ?_; dsimp only)); refine Kd.R_lit (Kd.int .i64) _ 2 ?hg (N := 41) ?hd (xs := ([2, (-1)] : List Int)) (inner := [.int .i64 2, .int .i64 (-1)]) (ok := fun _ => True) (okp := fun _ => True) ?hr ?hp (fun _ hk => hk) trivial (Below.refl _ _) (Nat.le_refl _) (by simp) ?_; (case hd => rfl); (case hg => exact fs_); (case hr => first | (go_simp; done) | (go_simp; rfl)); (case hp => exact (Reps.one (show Kd.M (Kd.int .i64) _ _ _ 2 [.int .i64 2] from rfl) (Reps.one (show Kd.M (Kd.int .i64) _ _ _ (-1) [.int .i64 (-1)] from rfl) (Reps.none _ _)))); intro v265 w41 ho42 hb hg_ hnew_; clear hg_ hnew_; (first | rw [← Ny264.out] at ho42 | (simp only [Int.reduceToNat] at ho42; rw [← Ny264.out] at ho42)); have n0_ := Aside0.mk (Kd.R_elder' (rb_ HO231) (Kd.R_base ho42) hb); have n1_ := Aside0.mk (Kd.R_below (rb_ HO234) hb); have n2_ := Aside0.mk (Kd.R_elder' (rb_ HO239) (Kd.R_base ho42) hb); have n3_ := Aside0.mk (Kd.R_below (rb_ HO242) hb); have n4_ := Aside0.mk (Kd.R_elder' (rb_ HO247) (Kd.R_base ho42) hb); have n5_ := Aside0.mk (Kd.R_elder' (rb_ HO252) (Kd.R_base ho42) hb); have n6_ := Aside0.mk (Kd.R_elder' (rb_ HO257) (Kd.R_base ho42) hb); have n7_ := Aside0.mk (Kd.R_elder' (rb_ HO260) (Kd.R_base ho42) hb); have n8_ := Aside0.mk (Kd.R_elder' (rb_ HO263) (Kd.R_base ho42) hb); have n9_ := Aside0.mk (Kd.R_lower (Kd.R_new' (Kd.R_new' (Kd.R_new' (Kd.R_new' (Kd.R_new' (Kd.R_new' (Kd.R_new' ho42 (Kd.R_lt (rb_ HO231))) (Kd.R_lt (rb_ HO239))) (Kd.R_lt (rb_ HO247))) (Kd.R_lt (rb_ HO252))) (Kd.R_lt (rb_ HO257))) (Kd.R_lt (rb_ HO260))) (Kd.R_lt (rb_ HO263))) (below_size (bb_ HB))); have n10_ := Aside0.mk (below_step (bb_ HB) hb); clear HO231; clear HO234; clear HO239; clear HO242; clear HO247; clear HO252; clear HO257; clear HO260; clear HO263; clear HB; have HO231 := n0_; have HO234 := n1_; have HO239 := n2_; have HO242 := n3_; have HO247 := n4_; have HO252 := n5_; have HO257 := n6_; have HO260 := n7_; have HO263 := n8_; have HO266 := n9_; have HB := n10_; clear n0_ n1_ n2_ n3_ n4_ n5_ n6_ n7_ n8_ n9_ n10_; clear hb ho42; obtain ⟨Ao43, co43, eo43⟩ := Kd.R_slice HO263.out; subst eo43; obtain ⟨Ao44, co44, eo44⟩ := Kd.R_slice HO266.out; subst eo44) | ((with_reducible refine gate_callee (f := 33) rfl ?_); refine goesL_ (some 42) rfl rfl Try.func33 (by kernel_rfl) rfl #[.slice Ao43 t261.length co43, .slice Ao44 y264.length co44] rfl ma_ ?_; (with_reducible refine (laminaref09_Equal.calls k _ _ t261 _ _ y264 true _ ?side1 ?side2 ?side3 ?side4 A7.out).mono ?_); (case side1 => exact ca_ (Kd.R_reads' HO263.out).2.2); (case side2 => exact (Kd.R_reads' HO263.out).2.1); (case side3 => exact ca_ (Kd.R_reads' HO266.out).2.2); (case side4 => exact (Kd.R_reads' HO266.out).2.1); rintro e w' ⟨rfl, ⟨nd, rfl⟩⟩; refine ⟨_, rfl, ?_⟩) | ((with_reducible refine gate_dst (N := 44) rfl ?_); (try (refine gate_guard (by rfl) ?_; dsimp only)); refine Kd.R_lit (Kd.int .i64) _ 2 ?hg (N := 44) ?hd (xs := ([2, (-1)] : List Int)) (inner := [.int .i64 2, .int .i64 (-1)]) (ok := fun _ => True) (okp := fun _ => True) ?hr ?hp (fun _ hk => hk) trivial (Below.refl _ _) (Nat.le_refl _) (by simp) ?_; (case hd => rfl); (case hg => exact fs_); (case hr => first | (go_simp; done) | (go_simp; rfl)); (case hp => exact (Reps.one (show Kd.M (Kd.int .i64) _ _ _ 2 [.int .i64 2] from rfl) (Reps.one (show Kd.M (Kd.int .i64) _ _ _ (-1) [.int .i64 (-1)] from rfl) (Reps.none _ _)))); intro v269 w45 ho46 hb hg_ hnew_; clear hg_ hnew_; (first | rw [← Ny268.out] at ho46 | (simp only [Int.reduceToNat] at ho46; rw [← Ny268.out] at ho46)); have n0_ := Aside0.mk (Kd.R_elder' (rb_ HO231) (Kd.R_base ho46) hb); have n1_ := Aside0.mk (Kd.R_below (rb_ HO234) hb); have n2_ := Aside0.mk (Kd.R_elder' (rb_ HO239) (Kd.R_base ho46) hb); have n3_ := Aside0.mk (Kd.R_below (rb_ HO242) hb); have n4_ := Aside0.mk (Kd.R_elder' (rb_ HO247) (Kd.R_base ho46) hb); have n5_ := Aside0.mk (Kd.R_elder' (rb_ HO252) (Kd.R_base ho46) hb); have n6_ := Aside0.mk (Kd.R_elder' (rb_ HO257) (Kd.R_base ho46) hb); have n7_ := Aside0.mk (Kd.R_elder' (rb_ HO260) (Kd.R_base ho46) hb); have n8_ := Aside0.mk (Kd.R_elder' (rb_ HO263) (Kd.R_base ho46) hb); have n9_ := Aside0.mk (Kd.R_elder' (rb_ HO266) (Kd.R_base ho46) hb); have n10_ := Aside0.mk (Kd.R_lower (Kd.R_new' (Kd.R_new' (Kd.R_new' (Kd.R_new' (Kd.R_new' (Kd.R_new' (Kd.R_new' (Kd.R_new' ho46 (Kd.R_lt (rb_ HO231))) (Kd.R_lt (rb_ HO239))) (Kd.R_lt (rb_ HO247))) (Kd.R_lt (rb_ HO252))) (Kd.R_lt (rb_ HO257))) (Kd.R_lt (rb_ HO260))) (Kd.R_lt (rb_ HO263))) (Kd.R_lt (rb_ HO266))) (below_size (bb_ HB))); have n11_ := Aside0.mk (below_step (bb_ HB) hb); clear HO231; clear HO234; clear HO239; clear HO242; clear HO247; clear HO252; clear HO257; clear HO260; clear HO263; clear HO266; clear HB; have HO231 := n0_; have HO234 := n1_; have HO239 := n2_; have HO242 := n3_; have HO247 := n4_; have HO252 := n5_; have HO257 := n6_; have HO260 := n7_; have HO263 := n8_; have HO266 := n9_; have HO270 := n10_; have HB := n11_; clear n0_ n1_ n2_ n3_ n4_ n5_ n6_ n7_ n8_ n9_ n10_ n11_; clear hb ho46; obtain ⟨Ao47, co47, eo47⟩ := Kd.R_slice HO270.out; subst eo47) | (go_at_call 50; (with_reducible refine (delta_PrefixSums.calls 3 _ _ y268 t271 _ ?side1 ?side2 A9.out).mono ?_); (case side1 => exact ca_ (Kd.R_reads' HO270.out).2.2); (case side2 => exact (Kd.R_reads' HO270.out).2.1); rintro e w48 ⟨v272, rfl, ho0, hb⟩; have n0_ := Aside0.mk (Kd.R_elder' (rb_ HO231) (Kd.R_base ho0) hb); have n1_ := Aside0.mk (Kd.R_below (rb_ HO234) hb); have n2_ := Aside0.mk (Kd.R_elder' (rb_ HO239) (Kd.R_base ho0) hb); have n3_ := Aside0.mk (Kd.R_below (rb_ HO242) hb); have n4_ := Aside0.mk (Kd.R_elder' (rb_ HO247) (Kd.R_base ho0) hb); have n5_ := Aside0.mk (Kd.R_elder' (rb_ HO252) (Kd.R_base ho0) hb); have n6_ := Aside0.mk (Kd.R_elder' (rb_ HO257) (Kd.R_base ho0) hb); have n7_ := Aside0.mk (Kd.R_elder' (rb_ HO260) (Kd.R_base ho0) hb); have n8_ := Aside0.mk (Kd.R_elder' (rb_ HO263) (Kd.R_base ho0) hb); have n9_ := Aside0.mk (Kd.R_elder' (rb_ HO266) (Kd.R_base ho0) hb); have n10_ := Aside0.mk (Kd.R_elder' (rb_ HO270) (Kd.R_base ho0) hb); have n11_ := Aside0.mk (Kd.R_lower (Kd.R_new' (Kd.R_new' (Kd.R_new' (Kd.R_new' (Kd.R_new' (Kd.R_new' (Kd.R_new' (Kd.R_new' (Kd.R_new' ho0 (Kd.R_lt (rb_ HO231))) (Kd.R_lt (rb_ HO239))) (Kd.R_lt (rb_ HO247))) (Kd.R_lt (rb_ HO252))) (Kd.R_lt (rb_ HO257))) (Kd.R_lt (rb_ HO260))) (Kd.R_lt (rb_ HO263))) (Kd.R_lt (rb_ HO266))) (Kd.R_lt (rb_ HO270))) (below_size (bb_ HB))); have n12_ := Aside0.mk (below_step (bb_ HB) hb); clear HO231; clear HO234; clear HO239; clear HO242; clear HO247; clear HO252; clear HO257; clear HO260; clear HO263; clear HO266; clear HO270; clear HB; have HO231 := n0_; have HO234 := n1_; have HO239 := n2_; have HO242 := n3_; have HO247 := n4_; have HO252 := n5_; have HO257 := n6_; have HO260 := n7_; have HO263 := n8_; have HO266 := n9_; have HO270 := n10_; have HO273 := n11_; have HB := n12_; clear n0_ n1_ n2_ n3_ n4_ n5_ n6_ n7_ n8_ n9_ n10_ n11_ n12_; (try clear hb); (try clear hb2); (try clear hk); (try clear hi); (try clear ho0)) | ((with_reducible refine gate_dst (N := 46) rfl ?_); (try (refine gate_guard (by rfl) ?_; dsimp only)); refine Kd.R_lit (Kd.int .i64) _ 2 ?hg (N := 46) ?hd (xs := ([3, 5, 4] : List Int)) (inner := [.int .i64 3, .int .i64 5, .int .i64 4]) (ok := fun _ => True) (okp := fun _ => True) ?hr ?hp (fun _ hk => hk) trivial (Below.refl _ _) (Nat.le_refl _) (by simp) ?_; (case hd => rfl); (case hg => exact fs_); (case hr => first | (go_simp; done) | (go_simp; rfl)); (case hp => exact (Reps.one (show Kd.M (Kd.int .i64) _ _ _ 3 [.int .i64 3] from rfl) (Reps.one (show Kd.M (Kd.int .i64) _ _ _ 5 [.int .i64 5] from rfl) (Reps.one (show Kd.M (Kd.int .i64) _ _ _ 4 [.int .i64 4] from rfl) (Reps.none _ _))))); intro v275 w49 ho50 hb hg_ hnew_; clear hg_ hnew_; (first | rw [← Ny274.out] at ho50 | (simp only [Int.reduceToNat] at ho50; rw [← Ny274.out] at ho50)); have n0_ := Aside0.mk (Kd.R_elder' (rb_ HO231) (Kd.R_base ho50) hb); have n1_ := Aside0.mk (Kd.R_below (rb_ HO234) hb); have n2_ := Aside0.mk (Kd.R_elder' (rb_ HO239) (Kd.R_base ho50) hb); have n3_ := Aside0.mk (Kd.R_below (rb_ HO242) hb); have n4_ := Aside0.mk (Kd.R_elder' (rb_ HO247) (Kd.R_base ho50) hb); have n5_ := Aside0.mk (Kd.R_elder' (rb_ HO252) (Kd.R_base ho50) hb); have n6_ := Aside0.mk (Kd.R_elder' (rb_ HO257) (Kd.R_base ho50) hb); have n7_ := Aside0.mk (Kd.R_elder' (rb_ HO260) (Kd.R_base ho50) hb); have n8_ := Aside0.mk (Kd.R_elder' (rb_ HO263) (Kd.R_base ho50) hb); have n9_ := Aside0.mk (Kd.R_elder' (rb_ HO266) (Kd.R_base ho50) hb); have n10_ := Aside0.mk (Kd.R_elder' (rb_ HO270) (Kd.R_base ho50) hb); have n11_ := Aside0.mk (Kd.R_elder' (rb_ HO273) (Kd.R_base ho50) hb); have n12_ := Aside0.mk (Kd.R_lower (Kd.R_new' (Kd.R_new' (Kd.R_new' (Kd.R_new' (Kd.R_new' (Kd.R_new' (Kd.R_new' (Kd.R_new' (Kd.R_new' (Kd.R_new' ho50 (Kd.R_lt (rb_ HO231))) (Kd.R_lt (rb_ HO239))) (Kd.R_lt (rb_ HO247))) (Kd.R_lt (rb_ HO252))) (Kd.R_lt (rb_ HO257))) (Kd.R_lt (rb_ HO260))) (Kd.R_lt (rb_ HO263))) (Kd.R_lt (rb_ HO266))) (Kd.R_lt (rb_ HO270))) (Kd.R_lt (rb_ HO273))) (below_size (bb_ HB))); have n13_ := Aside0.mk (below_step (bb_ HB) hb); clear HO231; clear HO234; clear HO239; clear HO242; clear HO247; clear HO252; clear HO257; clear HO260; clear HO263; clear HO266; clear HO270; clear HO273; clear HB; have HO231 := n0_; have HO234 := n1_; have HO239 := n2_; have HO242 := n3_; have HO247 := n4_; have HO252 := n5_; have HO257 := n6_; have HO260 := n7_; have HO263 := n8_; have HO266 := n9_; have HO270 := n10_; have HO273 := n11_; have HO276 := n12_; have HB := n13_; clear n0_ n1_ n2_ n3_ n4_ n5_ n6_ n7_ n8_ n9_ n10_ n11_ n12_ n13_; clear hb ho50; obtain ⟨Ao51, co51, eo51⟩ := Kd.R_slice HO273.out; subst eo51; obtain ⟨Ao52, co52, eo52⟩ := Kd.R_slice HO276.out; subst eo52) | (go_at_call 33; (with_reducible refine (laminaref09_Equal.calls k _ _ t271 _ _ y274 true _ ?side1 ?side2 ?side3 ?side4 A10.out).mono ?_); (case side1 => exact ca_ (Kd.R_reads' HO273.out).2.2); (case side2 => exact (Kd.R_reads' HO273.out).2.1); (case side3 => exact ca_ (Kd.R_reads' HO276.out).2.2); (case side4 => exact (Kd.R_reads' HO276.out).2.1); rintro e w' ⟨rfl, ⟨nd, rfl⟩⟩; (try clear A10); have p278 : 0 ≤ (0 : Int) := (by omega); have q278 : 0 < (t232.length : Int) := of_decide_eq_true as_; obtain ⟨ad278, e278, hx278_0⟩ := Kd.at_int (Kd.R_reads' HO234.out).2.2 0 p278 q278; cases e278; have qi278 : (0 < t232.length) = True := eq_true (by omega); (try rw [show ((0 : Int)).toNat = 0 from rfl] at hx278_0); (try rw [Addr.add_zero'] at hx278_0); replace p278 := eq_true p278; replace q278 := eq_true q278; have p279 : 0 ≤ (1 : Int) := (by omega); have q279 : 1 < (t232.length : Int) := of_decide_eq_true as_; obtain ⟨ad279, e279, hx279_0⟩ := Kd.at_int (Kd.R_reads' HO234.out).2.2 1 p279 q279; obtain rfl : ad278 = ad279 := (by injection e279); (try simp only [show (1 : Int).toNat = 1 from rfl, Nat.reduceMul, Nat.reduceEqDiff, Go.Addr.add, ↓reduceIte] at hx279_0); have qi279 : (1 < t232.length) = True := eq_true (by omega); (try rw [show ((1 : Int)).toNat = 1 from rfl] at hx279_0); replace p279 := eq_true p279; replace q279 := eq_true q279) | ((with_reducible refine gate_dst (N := 67) rfl ?_); (try (refine gate_guard (by rfl) ?_; dsimp only)); refine Kd.R_lit (Kd.int .i64) _ 2 ?hg (N := 67) ?hd (xs := ([7] : List Int)) (inner := [.int .i64 7]) (ok := fun _ => True) (okp := fun _ => True) ?hr ?hp (fun _ hk => hk) trivial (Below.refl _ _) (Nat.le_refl _) (by simp) ?_; (case hd => rfl); (case hg => exact fs_); (case hr => first | (go_simp; done) | (go_simp; rfl)); (case hp => exact (Reps.one (show Kd.M (Kd.int .i64) _ _ _ 7 [.int .i64 7] from rfl) (Reps.none _ _))); intro v281 w53 ho54 hb hg_ hnew_; clear hg_ hnew_; (first | rw [← Ny280.out] at ho54 | (simp only [Int.reduceToNat] at ho54; rw [← Ny280.out] at ho54)); have n0_ := Aside0.mk (Kd.R_elder' (rb_ HO231) (Kd.R_base ho54) hb); have n1_ := Aside0.mk (Kd.R_below (rb_ HO234) hb); have n2_ := Aside0.mk (Kd.R_elder' (rb_ HO239) (Kd.R_base ho54) hb); have n3_ := Aside0.mk (Kd.R_below (rb_ HO242) hb); have n4_ := Aside0.mk (Kd.R_elder' (rb_ HO247) (Kd.R_base ho54) hb); have n5_ := Aside0.mk (Kd.R_elder' (rb_ HO252) (Kd.R_base ho54) hb); have n6_ := Aside0.mk (Kd.R_elder' (rb_ HO257) (Kd.R_base ho54) hb); have n7_ := Aside0.mk (Kd.R_elder' (rb_ HO260) (Kd.R_base ho54) hb); have n8_ := Aside0.mk (Kd.R_elder' (rb_ HO263) (Kd.R_base ho54) hb); have n9_ := Aside0.mk (Kd.R_elder' (rb_ HO266) (Kd.R_base ho54) hb); have n10_ := Aside0.mk (Kd.R_elder' (rb_ HO270) (Kd.R_base ho54) hb); have n11_ := Aside0.mk (Kd.R_elder' (rb_ HO273) (Kd.R_base ho54) hb); have n12_ := Aside0.mk (Kd.R_elder' (rb_ HO276) (Kd.R_base ho54) hb); have n13_ := Aside0.mk (Kd.R_lower (Kd.R_new' (Kd.R_new' (Kd.R_new' (Kd.R_new' (Kd.R_new' (Kd.R_new' (Kd.R_new' (Kd.R_new' (Kd.R_new' (Kd.R_new' (Kd.R_new' ho54 (Kd.R_lt (rb_ HO231))) (Kd.R_lt (rb_ HO239))) (Kd.R_lt (rb_ HO247))) (Kd.R_lt (rb_ HO252))) (Kd.R_lt (rb_ HO257))) (Kd.R_lt (rb_ HO260))) (Kd.R_lt (rb_ HO263))) (Kd.R_lt (rb_ HO266))) (Kd.R_lt (rb_ HO270))) (Kd.R_lt (rb_ HO273))) (Kd.R_lt (rb_ HO276))) (below_size (bb_ HB))); have n14_ := Aside0.mk (below_step (bb_ HB) hb); clear HO231; clear HO234; clear HO239; clear HO242; clear HO247; clear HO252; clear HO257; clear HO260; clear HO263; clear HO266; clear HO270; clear HO273; clear HO276; clear HB; have HO231 := n0_; have HO234 := n1_; have HO239 := n2_; have HO242 := n3_; have HO247 := n4_; have HO252 := n5_; have HO257 := n6_; have HO260 := n7_; have HO263 := n8_; have HO266 := n9_; have HO270 := n10_; have HO273 := n11_; have HO276 := n12_; have HO282 := n13_; have HB := n14_; clear n0_ n1_ n2_ n3_ n4_ n5_ n6_ n7_ n8_ n9_ n10_ n11_ n12_ n13_ n14_; clear hb ho54; obtain ⟨Ao55, co55, eo55⟩ := Kd.R_slice HO282.out; subst eo55) | (go_at_call 34; (with_reducible refine (delta_Size.calls k _ _ y280 t283 _ ?side1 ?side2 A17.out).mono ?_); (case side1 => exact ca_ (Kd.R_reads' HO282.out).2.2); (case side2 => exact (Kd.R_reads' HO282.out).2.1); rintro e w56 ⟨rfl, hb⟩; have n0_ := Aside0.mk (Kd.R_below (rb_ HO231) hb); have n1_ := Aside0.mk (Kd.R_below (rb_ HO234) hb); have n2_ := Aside0.mk (Kd.R_below (rb_ HO239) hb); have n3_ := Aside0.mk (Kd.R_below (rb_ HO242) hb); have n4_ := Aside0.mk (Kd.R_below (rb_ HO247) hb); have n5_ := Aside0.mk (Kd.R_below (rb_ HO252) hb); have n6_ := Aside0.mk (Kd.R_below (rb_ HO257) hb); have n7_ := Aside0.mk (Kd.R_below (rb_ HO260) hb); have n8_ := Aside0.mk (Kd.R_below (rb_ HO263) hb); have n9_ := Aside0.mk (Kd.R_below (rb_ HO266) hb); have n10_ := Aside0.mk (Kd.R_below (rb_ HO270) hb); have n11_ := Aside0.mk (Kd.R_below (rb_ HO273) hb); have n12_ := Aside0.mk (Kd.R_below (rb_ HO276) hb); have n13_ := Aside0.mk (Kd.R_below (rb_ HO282) hb); have n14_ := Aside0.mk (below_step (bb_ HB) hb); clear HO231; clear HO234; clear HO239; clear HO242; clear HO247; clear HO252; clear HO257; clear HO260; clear HO263; clear HO266; clear HO270; clear HO273; clear HO276; clear HO282; clear HB; have HO231 := n0_; have HO234 := n1_; have HO239 := n2_; have HO242 := n3_; have HO247 := n4_; have HO252 := n5_; have HO257 := n6_; have HO260 := n7_; have HO263 := n8_; have HO266 := n9_; have HO270 := n10_; have HO273 := n11_; have HO276 := n12_; have HO282 := n13_; have HB := n14_; clear n0_ n1_ n2_ n3_ n4_ n5_ n6_ n7_ n8_ n9_ n10_ n11_ n12_ n13_ n14_; (try clear hb); (try clear hb2); (try clear hk); (try clear hi)) | ((with_reducible refine gate_dst (N := 85) rfl ?_); (try (refine gate_guard (by rfl) ?_; dsimp only)); refine Kd.R_lit (Kd.int .i64) _ 2 ?hg (N := 85) ?hd (xs := ([7] : List Int)) (inner := [.int .i64 7]) (ok := fun _ => True) (okp := fun _ => True) ?hr ?hp (fun _ hk => hk) trivial (Below.refl _ _) (Nat.le_refl _) (by simp) ?_; (case hd => rfl); (case hg => exact fs_); (case hr => first | (go_simp; done) | (go_simp; rfl)); (case hp => exact (Reps.one (show Kd.M (Kd.int .i64) _ _ _ 7 [.int .i64 7] from rfl) (Reps.none _ _))); intro v285 w57 ho58 hb hg_ hnew_; clear hg_ hnew_; (first | rw [← Ny284.out] at ho58 | (simp only [Int.reduceToNat] at ho58; rw [← Ny284.out] at ho58)); have n0_ := Aside0.mk (Kd.R_elder' (rb_ HO231) (Kd.R_base ho58) hb); have n1_ := Aside0.mk (Kd.R_below (rb_ HO234) hb); have n2_ := Aside0.mk (Kd.R_elder' (rb_ HO239) (Kd.R_base ho58) hb); have n3_ := Aside0.mk (Kd.R_below (rb_ HO242) hb); have n4_ := Aside0.mk (Kd.R_elder' (rb_ HO247) (Kd.R_base ho58) hb); have n5_ := Aside0.mk (Kd.R_elder' (rb_ HO252) (Kd.R_base ho58) hb); have n6_ := Aside0.mk (Kd.R_elder' (rb_ HO257) (Kd.R_base ho58) hb); have n7_ := Aside0.mk (Kd.R_elder' (rb_ HO260) (Kd.R_base ho58) hb); have n8_ := Aside0.mk (Kd.R_elder' (rb_ HO263) (Kd.R_base ho58) hb); have n9_ := Aside0.mk (Kd.R_elder' (rb_ HO266) (Kd.R_base ho58) hb); have n10_ := Aside0.mk (Kd.R_elder' (rb_ HO270) (Kd.R_base ho58) hb); have n11_ := Aside0.mk (Kd.R_elder' (rb_ HO273) (Kd.R_base ho58) hb); have n12_ := Aside0.mk (Kd.R_elder' (rb_ HO276) (Kd.R_base ho58) hb); have n13_ := Aside0.mk (Kd.R_elder' (rb_ HO282) (Kd.R_base ho58) hb); have n14_ := Aside0.mk (Kd.R_lower (Kd.R_new' (Kd.R_new' (Kd.R_new' (Kd.R_new' (Kd.R_new' (Kd.R_new' (Kd.R_new' (Kd.R_new' (Kd.R_new' (Kd.R_new' (Kd.R_new' (Kd.R_new' ho58 (Kd.R_lt (rb_ HO231))) (Kd.R_lt (rb_ HO239))) (Kd.R_lt (rb_ HO247))) (Kd.R_lt (rb_ HO252))) (Kd.R_lt (rb_ HO257))) (Kd.R_lt (rb_ HO260))) (Kd.R_lt (rb_ HO263))) (Kd.R_lt (rb_ HO266))) (Kd.R_lt (rb_ HO270))) (Kd.R_lt (rb_ HO273))) (Kd.R_lt (rb_ HO276))) (Kd.R_lt (rb_ HO282))) (below_size (bb_ HB))); have n15_ := Aside0.mk (below_step (bb_ HB) hb); clear HO231; clear HO234; clear HO239; clear HO242; clear HO247; clear HO252; clear HO257; clear HO260; clear HO263; clear HO266; clear HO270; clear HO273; clear HO276; clear HO282; clear HB; have HO231 := n0_; have HO234 := n1_; have HO239 := n2_; have HO242 := n3_; have HO247 := n4_; have HO252 := n5_; have HO257 := n6_; have HO260 := n7_; have HO263 := n8_; have HO266 := n9_; have HO270 := n10_; have HO273 := n11_; have HO276 := n12_; have HO282 := n13_; have HO286 := n14_; have HB := n15_; clear n0_ n1_ n2_ n3_ n4_ n5_ n6_ n7_ n8_ n9_ n10_ n11_ n12_ n13_ n14_ n15_; clear hb ho58; obtain ⟨Ao59, co59, eo59⟩ := Kd.R_slice HO239.out; subst eo59; obtain ⟨Ao60, co60, eo60⟩ := Kd.R_slice HO286.out; subst eo60) | (go_at_call 33; (with_reducible refine (laminaref09_Equal.calls k _ _ t235 _ _ y284 true _ ?side1 ?side2 ?side3 ?side4 A21.out).mono ?_); (case side1 => exact ca_ (Kd.R_reads' HO239.out).2.2); (case side2 => exact (Kd.R_reads' HO239.out).2.1); (case side3 => exact ca_ (Kd.R_reads' HO286.out).2.2); (case side4 => exact (Kd.R_reads' HO286.out).2.1); rintro e w' ⟨rfl, ⟨nd, rfl⟩⟩; (try clear A21)))
              go_ret
              exact ⟨er_, by repeat (first | (with_reducible first | exact HB.out | apply below_alloc | apply pw_below_drewN | apply below_drew1) | exact HB.out)⟩
             ·rw [if_neg c24] at H
              exact absurd (H.trans (congrArg some hr_.out)) (by simp)
            ·rw [if_neg c23] at H
             exact absurd (H.trans (congrArg some hr_.out)) (by simp)
           ·replace c22 := Bool.eq_false_iff.mpr c22
            subst c22
            have H1 : (some false) = some r := by rw [if_neg (show ¬ (false = true) by decide)] at H; exact H
            clear H
            have H := H1
            clear H1
            exact absurd (H.trans (congrArg some hr_.out)) (by simp)
          ·rw [if_neg c20] at H
           exact absurd (H.trans (congrArg some hr_.out)) (by simp)
         ·rw [if_neg c19] at H
          exact absurd (H.trans (congrArg some hr_.out)) (by simp)
        ·rw [if_neg c18] at H
         exact absurd (H.trans (congrArg some hr_.out)) (by simp)
       ·rw [if_neg c16] at H
        exact absurd (H.trans (congrArg some hr_.out)) (by simp)
      ·rw [if_neg c15] at H
       exact absurd H (by simp)
     ·rw [if_neg c14] at H
      exact absurd (H.trans (congrArg some hr_.out)) (by simp)
    ·rw [if_neg c13] at H
     exact absurd H (by simp)
   ·rw [if_neg c12] at H
    exact absurd (H.trans (congrArg some hr_.out)) (by simp)
  ·replace c11 := Bool.eq_false_iff.mpr c11
   subst c11
   have H1 : (some false) = some r := by rw [if_neg (show ¬ (false = true) by decide)] at H; exact H
   clear H
   have H := H1
   clear H1
   exact absurd (H.trans (congrArg some hr_.out)) (by simp)
 ·replace c8 := Bool.eq_false_iff.mpr c8
  subst c8
  have H1 : (some false) = some r := by rw [if_neg (show ¬ (false = true) by decide)] at H; exact H
  clear H
  have H := H1
  clear H1
  exact absurd (H.trans (congrArg some hr_.out)) (by simp)

/-! ### laminaref06_ok: function 58 -/
def laminaref06_ok.f (a0 : Int) (a1 : Int) : Option (Bool) := if a0 ≥ 0 then (if a0 ≤ 1048576 then (if a1 ≥ 0 then (some (decide (a1 ≤ 64))) else (some false)) else (some false)) else (some false)
set_option maxHeartbeats 8000000 in
set_option maxRecDepth 100000 in
theorem laminaref06_ok.calls (a0 : Int) (a1 : Int) (r : Bool) (w : World) (h : laminaref06_ok.f a0 a1 = some r) :
  Calls Try.prog 58 #[.int .i64 a0, .int .i64 a1] w fun e w' => e = .returned (.bool r) ∧ Drawn0 w w' := by
 have H : (if a0 ≥ 0 then (if a0 ≤ 1048576 then (if a1 ≥ 0 then (some (decide (a1 ≤ 64))) else (some false)) else (some false)) else (some false)) = some r := h
 clear h
 by_cases c3 : a0 ≥ 0
 ·rw [if_pos c3] at H
  have c3b0 : decide (0 ≤ a0) = true := decide_eq_true c3
  clear c3
  by_cases c4 : a0 ≤ 1048576
  ·rw [if_pos c4] at H
   have c4b0 : decide (a0 ≤ 1048576) = true := decide_eq_true c4
   clear c4
   by_cases c5 : a1 ≥ 0
   ·rw [if_pos c5] at H
    have c5b0 : decide (0 ≤ a1) = true := decide_eq_true c5
    clear c5
    obtain rfl := Option.some.inj H
    go_enter Try.func58, Try.ntmps58
    go_wp2
    go_ret
    exact ⟨fr_, dr_⟩
   ·rw [if_neg c5] at H
    have c5b0 : decide (0 ≤ a1) = false := decide_eq_false c5
    clear c5
    obtain rfl := Option.some.inj H
    go_enter Try.func58, Try.ntmps58
    go_wp2
    go_ret
    exact ⟨fr_, dr_⟩
  ·rw [if_neg c4] at H
   have c4b0 : decide (a0 ≤ 1048576) = false := decide_eq_false c4
   clear c4
   obtain rfl := Option.some.inj H
   go_enter Try.func58, Try.ntmps58
   go_wp2
   go_ret
   exact ⟨fr_, dr_⟩
 ·rw [if_neg c3] at H
  have c3b0 : decide (0 ≤ a0) = false := decide_eq_false c3
  clear c3
  obtain rfl := Option.some.inj H
  go_enter Try.func58, Try.ntmps58
  go_wp2
  go_ret
  exact ⟨fr_, dr_⟩

/-! ### laminaref06_Size: function 22 -/
def laminaref06_Size.f (a0 : Int) (a1 : Int) : Option (Int) := (laminaref06_ok.f a0 a1).bind fun t288 => (if t288 = true then (some (wrap64 (Int.tdiv (wrap64 ((wrap64 (a0 * a1)) + 7)) 8))) else (some 0))
set_option maxHeartbeats 8000000 in
set_option maxRecDepth 100000 in
theorem laminaref06_Size.calls (a0 : Int) (a1 : Int) (r : Int) (w : World) (h : laminaref06_Size.f a0 a1 = some r) :
  Calls Try.prog 22 #[.int .i64 a0, .int .i64 a1] w fun e w' => e = .returned (.int .i64 r) ∧ Drawn0 w w' := by
 have H : ((laminaref06_ok.f a0 a1).bind fun t288 => (if t288 = true then (some (wrap64 (Int.tdiv (wrap64 ((wrap64 (a0 * a1)) + 7)) 8))) else (some 0))) = some r := h
 clear h
 replace H := Option.bind_eq_some_iff.mp H
 obtain ⟨t288, A30, H⟩ := H
 try dsimp only at H
 have A3 := Aside0.mk A30
 clear A30
 by_cases c4 : t288 = true
 ·subst c4
  have H1 : (some (wrap64 (Int.tdiv (wrap64 ((wrap64 (a0 * a1)) + 7)) 8))) = some r := by rw [if_pos rfl] at H; exact H
  clear H
  have H := H1
  clear H1
  obtain rfl := Option.some.inj H
  go_enter Try.func22, Try.ntmps22
  go_wp2_with (first | ((with_reducible refine gate_callee (f := 58) rfl ?_); refine goesL_ (some 7) rfl rfl Try.func58 (by kernel_rfl) rfl #[.int .i64 a0, .int .i64 a1] rfl ma_ ?_; (with_reducible refine (laminaref06_ok.calls a0 a1 true _ A3.out).mono ?_); rintro e w' ⟨rfl, ⟨nd, rfl⟩⟩; refine ⟨_, rfl, ?_⟩))
  go_ret
  exact ⟨fr_, dr_⟩
 ·replace c4 := Bool.eq_false_iff.mpr c4
  subst c4
  have H1 : (some 0) = some r := by rw [if_neg (show ¬ (false = true) by decide)] at H; exact H
  clear H
  have H := H1
  clear H1
  obtain rfl := Option.some.inj H
  go_enter Try.func22, Try.ntmps22
  go_wp2_with (first | ((with_reducible refine gate_callee (f := 58) rfl ?_); refine goesL_ (some 7) rfl rfl Try.func58 (by kernel_rfl) rfl #[.int .i64 a0, .int .i64 a1] rfl ma_ ?_; (with_reducible refine (laminaref06_ok.calls a0 a1 false _ A3.out).mono ?_); rintro e w' ⟨rfl, ⟨nd, rfl⟩⟩; refine ⟨_, rfl, ?_⟩))
  go_ret
  exact ⟨fr_, dr_⟩

/-! ### laminaref06_bit: function 61 -/
def laminaref06_bit.f (l0 : List Int) (a1 : Int) : Option (Int) := if 0 ≤ (wrap64 (Int.tdiv a1 8)) then (if (wrap64 (Int.tdiv a1 8)) < (l0.length : Int) then (if 0 ≤ (IntKind.u64.wrap (Int.tmod a1 8)) then (some (Go.bits .and .u64 (IntKind.u64.wrap (shr .u8 (rd l0 (wrap64 (Int.tdiv a1 8))) (IntKind.u64.wrap (Int.tmod a1 8)))) 1)) else (none)) else (none)) else (none)
set_option maxHeartbeats 8000000 in
set_option maxRecDepth 100000 in
theorem laminaref06_bit.calls (A0 : Option Addr) (c0 : Nat) (l0 : List Int) (a1 : Int) (r : Int) (w : World) (hr0 : Kd.C (Kd.int .u8) w A0 l0.length l0) (hc0 : l0.length ≤ c0) (h : laminaref06_bit.f l0 a1 = some r) :
  Calls Try.prog 61 #[.slice A0 l0.length c0, .int .i64 a1] w fun e w' => e = .returned (.int .u64 r) ∧ Drawn0 w w' := by
 have HR0 := Aside0.mk hr0
 have HC0 := Aside0.mk hc0
 clear hr0 hc0
 have H : (if 0 ≤ (wrap64 (Int.tdiv a1 8)) then (if (wrap64 (Int.tdiv a1 8)) < (l0.length : Int) then (if 0 ≤ (IntKind.u64.wrap (Int.tmod a1 8)) then (some (Go.bits .and .u64 (IntKind.u64.wrap (shr .u8 (rd l0 (wrap64 (Int.tdiv a1 8))) (IntKind.u64.wrap (Int.tmod a1 8)))) 1)) else (none)) else (none)) else (none)) = some r := h
 clear h
 obtain ⟨ji3, hji3⟩ : ∃ j_ : Int, (wrap64 (Int.tdiv a1 8)) = j_ := ⟨_, rfl⟩
 replace H : (if 0 ≤ (ji3) then (if (ji3) < (l0.length : Int) then (if 0 ≤ (IntKind.u64.wrap (Int.tmod a1 8)) then (some (Go.bits .and .u64 (IntKind.u64.wrap (shr .u8 (rd l0 (ji3)) (IntKind.u64.wrap (Int.tmod a1 8)))) 1)) else (none)) else (none)) else (none)) = some r := by first | (rw [hji3] at H; exact H) | (simp only [hji3] at H ⊢; exact H)
 have hji3w : (IntKind.i64.wrap (Int.tdiv a1 8)) = ji3 := (i64_w _).trans hji3
 by_cases c4 : 0 ≤ (ji3)
 ·rw [if_pos c4] at H
  have c4b0 : decide (0 ≤ (ji3)) = true := decide_eq_true c4
  clear c4
  by_cases c5 : (ji3) < (l0.length : Int)
  ·rw [if_pos c5] at H
   have c5b0 : decide ((ji3) < (l0.length : Int)) = true := decide_eq_true c5
   clear c5
   obtain ⟨ji6, hji6⟩ : ∃ j_ : Int, (IntKind.u64.wrap (Int.tmod a1 8)) = j_ := ⟨_, rfl⟩
   replace H : (if 0 ≤ (ji6) then (some (Go.bits .and .u64 (IntKind.u64.wrap (shr .u8 (rd l0 (ji3)) (ji6))) 1)) else (none)) = some r := by first | (rw [hji6] at H; exact H) | (simp only [hji6] at H ⊢; exact H)
   by_cases c7 : 0 ≤ (ji6)
   ·rw [if_pos c7] at H
    have c7b0 := eq_true c7
    have c7b1 : decide (0 ≤ (ji6)) = true := decide_eq_true c7
    clear c7
    obtain ⟨ji8, hji8⟩ : ∃ j_ : Int, (shr .u8 (rd l0 (ji3)) (ji6)) = j_ := ⟨_, rfl⟩
    replace H : (some (Go.bits .and .u64 (IntKind.u64.wrap (ji8)) 1)) = some r := by first | (rw [hji8] at H; exact H) | (simp only [hji8] at H ⊢; exact H)
    have hji8_ : ((rd l0 (ji3)) / 2 ^ min (ji6).toNat 8) = ji8 := hji8
    have hji8z : (ji6) ≤ 8 → ((rd l0 (ji3)) / 2 ^ (ji6).toNat) = ji8 := shr_small hji8
    obtain rfl := Option.some.inj H
    have p289 : 0 ≤ ((ji3) : Int) := of_decide_eq_true as_
    have q289 : (ji3) < (l0.length : Int) := of_decide_eq_true as_
    obtain ⟨ad289, e289, hx289_0⟩ := Kd.at_int HR0.out (ji3) p289 q289
    cases e289
    replace p289 := eq_true p289
    replace q289 := eq_true q289
    go_enter Try.func61, Try.ntmps61
    go_wp2
    go_ret
    exact ⟨by first | rfl | (simp; done) | (simp only [← hji3, ← hji6, ← hji8] <;> (first | rfl | simp)) | (simp [*]; done), by repeat (first | exact Drawn0.refl _ | apply Drawn0.step)⟩
   ·rw [if_neg c7] at H
    exact absurd H (by simp)
  ·rw [if_neg c5] at H
   exact absurd H (by simp)
 ·rw [if_neg c4] at H
  exact absurd H (by simp)

/-! ### laminaref06_number: function 62 -/
def laminaref06_number.l0 : Nat → List Int → Int → Int → Int → Int → Option (Int)
 | 0, _, _, _, _, _ => none
 | k + 1, x0, x1, x2, x7, x8 => if x8 < x2 then ((laminaref06_bit.f x0 (wrap64 ((wrap64 (x1 * x2)) + x8))).bind fun t290 => (if 0 ≤ (IntKind.u64.wrap (x8)) then (laminaref06_number.l0 k x0 x1 x2 (Go.bits .or .u64 x7 (shl .u64 t290 (IntKind.u64.wrap (x8)))) (wrap64 (x8 + 1))) else (none))) else (some x7)
def laminaref06_number.f (k : Nat) (l0 : List Int) (a1 : Int) (a2 : Int) : Option (Int) := laminaref06_number.l0 k l0 a1 a2 0 0
theorem laminaref06_number.mono_l : ∀ k, (∀ y0 y1 y2 y3 y4, LeO (laminaref06_number.l0 k y0 y1 y2 y3 y4) (laminaref06_number.l0 (k + 1) y0 y1 y2 y3 y4))
 | 0 => fun _ _ _ _ _ r h => by simp [laminaref06_number.l0] at h
 | k + 1 => by
  have ih0 := laminaref06_number.mono_l k
  ·intro y0 y1 y2 y3 y4
   unfold laminaref06_number.l0
   repeat' first
   | (with_reducible exact ih0 _ _ _ _ _)
   | (with_reducible exact LeO.refl _)
   | (with_reducible exact LeO.none _)
   | (with_reducible refine LeO.ite ?_ ?_)
   | (with_reducible refine LeO.bind ?_ (fun _ => ?_))
   | exact ih0 _ _ _ _ _
   | exact LeO.none _
   | refine LeO.ite ?_ ?_
   | refine LeO.bind ?_ (fun _ => ?_)
theorem laminaref06_number.mono : ∀ a0 a1 a2 k, LeO (laminaref06_number.f k a0 a1 a2) (laminaref06_number.f (k + 1) a0 a1 a2) := by
 intro a0 a1 a2 k
 have ih0 := laminaref06_number.mono_l k
 unfold laminaref06_number.f
 repeat' first
   | (with_reducible exact ih0 _ _ _ _ _)
   | (with_reducible exact LeO.refl _)
   | (with_reducible exact LeO.none _)
   | (with_reducible refine LeO.ite ?_ ?_)
   | (with_reducible refine LeO.bind ?_ (fun _ => ?_))
   | exact ih0 _ _ _ _ _
   | exact LeO.none _
   | refine LeO.ite ?_ ?_
   | refine LeO.bind ?_ (fun _ => ?_)
set_option maxHeartbeats 8000000 in
set_option maxRecDepth 100000 in
theorem laminaref06_number.calls (k : Nat) (A0 : Option Addr) (c0 : Nat) (l0 : List Int) (a1 : Int) (a2 : Int) (r : Int) (w : World) (hr0 : Kd.C (Kd.int .u8) w A0 l0.length l0) (hc0 : l0.length ≤ c0) (h : laminaref06_number.f k l0 a1 a2 = some r) :
  Calls Try.prog 62 #[.slice A0 l0.length c0, .int .i64 a1, .int .i64 a2] w fun e w' => e = .returned (.int .u64 r) ∧ Drawn0 w w' := by
 have HR0 := Aside0.mk hr0
 have HC0 := Aside0.mk hc0
 clear hr0 hc0
 have H : (laminaref06_number.l0 k l0 a1 a2 0 0) = some r := h
 clear h
 have H' := Aside0.mk H
 clear H
 go_enter Try.func62, Try.ntmps62
 go_wp2
 go_loopg [7, 8] k (fun kq v7 v8 w' => ∃ (x7_1 : Int) (x8_1 : Int), v7 = .int .u64 x7_1 ∧ v8 = .int .i64 x8_1 ∧ Aside0 (laminaref06_number.l0 kq l0 a1 a2 x7_1 x8_1 = some r) ∧ Aside0 (kq ≤ k) ∧ Drawn0 w w')
 case atStart => exact ⟨(0), (0), fr_, fr_, H', ⟨Nat.le_refl _⟩, by repeat (first | exact Drawn0.refl _ | apply Drawn0.step)⟩
 case round =>
  clear H'
  try clear p2
  obtain ⟨x7_1, x8_1, rfl, rfl, HA, HK1, ⟨m1, rfl⟩⟩ := hrel
  cases gk with
  | zero => exact absurd HA.out (by simp [laminaref06_number.l0])
  | succ k1 =>
   have H := HA.out
   clear HA
   simp only [laminaref06_number.l0] at H
   by_cases c4 : x8_1 < a2
   ·rw [if_pos c4] at H
    have c4b0 : decide (x8_1 < a2) = true := decide_eq_true c4
    clear c4
    replace H := Option.bind_eq_some_iff.mp H
    obtain ⟨t290, A50, H⟩ := H
    try dsimp only at H
    have A5 := Aside0.mk A50
    clear A50
    obtain ⟨ji6, hji6⟩ : ∃ j_ : Int, (IntKind.u64.wrap (x8_1)) = j_ := ⟨_, rfl⟩
    replace H : (if 0 ≤ (ji6) then (laminaref06_number.l0 k1 l0 a1 a2 (Go.bits .or .u64 x7_1 (shl .u64 t290 (ji6))) (wrap64 (x8_1 + 1))) else (none)) = some r := by first | (rw [hji6] at H; exact H) | (simp only [hji6] at H ⊢; exact H)
    (try rw [hji6] at A5)
    by_cases c7 : 0 ≤ (ji6)
    ·rw [if_pos c7] at H
     have c7b0 := eq_true c7
     have c7b1 : decide (0 ≤ (ji6)) = true := decide_eq_true c7
     clear c7
     obtain ⟨ji8, hji8⟩ : ∃ j_ : Int, (shl .u64 t290 (ji6)) = j_ := ⟨_, rfl⟩
     replace H : (laminaref06_number.l0 k1 l0 a1 a2 (Go.bits .or .u64 x7_1 (ji8)) (wrap64 (x8_1 + 1))) = some r := by first | (rw [hji8] at H; exact H) | (simp only [hji8] at H ⊢; exact H)
     (try rw [hji8] at A5)
     have hji8_ : (IntKind.u64.wrap (t290 * 2 ^ min (ji6).toNat 64)) = ji8 := hji8
     have hji8z : (ji6) ≤ 64 → (IntKind.u64.wrap (t290 * 2 ^ (ji6).toNat)) = ji8 := shl_small hji8
     have H' := Aside0.mk H
     clear H
     go_wp2_with (first | ((with_reducible refine gate_callee (f := 61) rfl ?_); refine goesL_ (some 21) rfl rfl Try.func61 (by kernel_rfl) rfl #[.slice A0 l0.length c0, .int .i64 (wrap64 ((wrap64 (a1 * a2)) + x8_1))] rfl ma_ ?_; (with_reducible refine (laminaref06_bit.calls _ _ l0 (wrap64 ((wrap64 (a1 * a2)) + x8_1)) t290 _ ?side1 ?side2 A5.out).mono ?_); (case side1 => exact ca_ HR0.out); (case side2 => exact HC0.out); rintro e w' ⟨rfl, ⟨nd, rfl⟩⟩; refine ⟨_, rfl, ?_⟩))
     go_roundg k1
     case measure => have := HK1.out; omega
     case rel => exact ⟨(Go.bits .or .u64 x7_1 (ji8)), (wrap64 (x8_1 + 1)), (by first | rfl | (simp; done) | (simp only [← hji8] <;> (first | rfl | simp)) | (simp [*]; done)), fr_, H', ⟨by have := HK1.out; omega⟩, by repeat (first | exact Drawn0.refl _ | apply Drawn0.step)⟩
    ·rw [if_neg c7] at H
     exact absurd H (by simp)
   ·rw [if_neg c4] at H
    have c4b0 : decide (x8_1 < a2) = false := decide_eq_false c4
    clear c4
    obtain rfl := Option.some.inj H
    go_wp2
    go_ret
    exact ⟨fr_, dr_⟩

/-! ### laminaref06_At: function 29 -/
def laminaref06_At.f (k : Nat) (l0 : List Int) (a1 : Int) (a2 : Int) : Option (Int) := if a2 < 1 then (some 0) else (if a2 > 64 then (some 0) else (if a1 < 0 then (some 0) else (if a2 = 0 then (none) else (if a1 ≥ (wrap64 (Int.tdiv (wrap64 (8 * (l0.length : Int))) a2)) then (some 0) else ((laminaref06_number.f k l0 a1 a2).bind fun t291 => (some t291))))))
theorem laminaref06_At.mono : ∀ a0 a1 a2 k, LeO (laminaref06_At.f k a0 a1 a2) (laminaref06_At.f (k + 1) a0 a1 a2) := by
 intro a0 a1 a2 k
 unfold laminaref06_At.f
 repeat' first
   | (with_reducible exact laminaref06_number.mono _ _ _ _)
   | (with_reducible exact LeO.refl _)
   | (with_reducible exact LeO.none _)
   | (with_reducible refine LeO.ite ?_ ?_)
   | (with_reducible refine LeO.bind ?_ (fun _ => ?_))
   | exact laminaref06_number.mono _ _ _ _
   | exact LeO.none _
   | refine LeO.ite ?_ ?_
   | refine LeO.bind ?_ (fun _ => ?_)
set_option maxHeartbeats 8000000 in
set_option maxRecDepth 100000 in
theorem laminaref06_At.calls (k : Nat) (A0 : Option Addr) (c0 : Nat) (l0 : List Int) (a1 : Int) (a2 : Int) (r : Int) (w : World) (hr0 : Kd.C (Kd.int .u8) w A0 l0.length l0) (hc0 : l0.length ≤ c0) (h : laminaref06_At.f k l0 a1 a2 = some r) :
  Calls Try.prog 29 #[.slice A0 l0.length c0, .int .i64 a1, .int .i64 a2] w fun e w' => e = .returned (.int .u64 r) ∧ Drawn0 w w' := by
 have HR0 := Aside0.mk hr0
 have HC0 := Aside0.mk hc0
 clear hr0 hc0
 have H : (if a2 < 1 then (some 0) else (if a2 > 64 then (some 0) else (if a1 < 0 then (some 0) else (if a2 = 0 then (none) else (if a1 ≥ (wrap64 (Int.tdiv (wrap64 (8 * (l0.length : Int))) a2)) then (some 0) else ((laminaref06_number.f k l0 a1 a2).bind fun t291 => (some t291))))))) = some r := h
 clear h
 by_cases c4 : a2 < 1
 ·rw [if_pos c4] at H
  have c4b0 : decide (a2 < 1) = true := decide_eq_true c4
  clear c4
  obtain rfl := Option.some.inj H
  go_enter Try.func29, Try.ntmps29
  go_wp2
  go_ret
  exact ⟨fr_, dr_⟩
 ·rw [if_neg c4] at H
  have c4b0 : decide (a2 < 1) = false := decide_eq_false c4
  clear c4
  by_cases c5 : a2 > 64
  ·rw [if_pos c5] at H
   have c5b0 : decide (64 < a2) = true := decide_eq_true c5
   clear c5
   obtain rfl := Option.some.inj H
   go_enter Try.func29, Try.ntmps29
   go_wp2
   go_ret
   exact ⟨fr_, dr_⟩
  ·rw [if_neg c5] at H
   have c5b0 : decide (64 < a2) = false := decide_eq_false c5
   clear c5
   by_cases c6 : a1 < 0
   ·rw [if_pos c6] at H
    have c6b0 : decide (a1 < 0) = true := decide_eq_true c6
    clear c6
    obtain rfl := Option.some.inj H
    go_enter Try.func29, Try.ntmps29
    go_wp2
    go_ret
    exact ⟨fr_, dr_⟩
   ·rw [if_neg c6] at H
    have c6b0 : decide (a1 < 0) = false := decide_eq_false c6
    clear c6
    by_cases c7 : a2 = 0
    ·rw [if_pos c7] at H
     exact absurd H (by simp)
    ·rw [if_neg c7] at H
     have c7b0 : (a2 == 0) = false := beq_eq_false_iff_ne.mpr c7
     have c7b1 : (a2 != 0) = true := bne_iff_ne.mpr c7
     by_cases c8 : a1 ≥ (wrap64 (Int.tdiv (wrap64 (8 * (l0.length : Int))) a2))
     ·rw [if_pos c8] at H
      have c8b0 : decide ((wrap64 (Int.tdiv (wrap64 (8 * (l0.length : Int))) a2)) ≤ a1) = true := decide_eq_true c8
      clear c8
      obtain rfl := Option.some.inj H
      go_enter Try.func29, Try.ntmps29
      go_wp2
      go_ret
      exact ⟨fr_, dr_⟩
     ·rw [if_neg c8] at H
      have c8b0 : decide ((wrap64 (Int.tdiv (wrap64 (8 * (l0.length : Int))) a2)) ≤ a1) = false := decide_eq_false c8
      clear c8
      replace H := Option.bind_eq_some_iff.mp H
      obtain ⟨t291, A90, H⟩ := H
      try dsimp only at H
      have A9 := Aside0.mk A90
      clear A90
      obtain rfl := Option.some.inj H
      go_enter Try.func29, Try.ntmps29
      go_wp2_with (first | ((with_reducible refine gate_callee (f := 62) rfl ?_); refine goesL_ (some 29) rfl rfl Try.func62 (by kernel_rfl) rfl #[.slice A0 l0.length c0, .int .i64 a1, .int .i64 a2] rfl ma_ ?_; (with_reducible refine (laminaref06_number.calls k _ _ l0 a1 a2 t291 _ ?side1 ?side2 A9.out).mono ?_); (case side1 => exact ca_ HR0.out); (case side2 => exact HC0.out); rintro e w' ⟨rfl, ⟨nd, rfl⟩⟩; refine ⟨_, rfl, ?_⟩))
      go_ret
      exact ⟨fr_, dr_⟩

end Go.Proofs.Ytllhbjkkoogeeaa.QDeltaDecode
