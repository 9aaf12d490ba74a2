-- Written by a program of this session (wip/pr2.sh): the walk of the Go text, function by function.
import Derived.Test.YtllhbjkkoogeeaaQDeltaRoundTripx0
import Derived.Test.YtllhbjkkoogeeaaQDeltaRoundTripx4
import Derived.Test.YtllhbjkkoogeeaaQDeltaRoundTripx8
import Derived.Test.YtllhbjkkoogeeaaQDeltaRoundTripx9
namespace Go.Proofs.Ytllhbjkkoogeeaa.QDeltaRoundTrip
open Go.RowKit Go.Proofs.YtllhbjkkoogeeaaW.PrintWords Go.Proofs.YtllhbjkkoogeeaaW.PrintLast Go.Proofs.YtllhbjkkoogeeaaW.PrintMore
open Go.Proofs.YtllhbjkkoogeeaaM
attribute [local go_sem] max2_int min2_int max_two min_two max_three min_three max_four min_four   -- for this text's walks alone
set_option linter.unusedVariables false
set_option linter.unusedSimpArgs false

/-! ### laminalaw09_DeltaRoundTrip: function 5 -/
mutual
def laminalaw09_DeltaRoundTrip.j0 : Nat → List Int → List Int → List Int → Bool → Option (Bool)
 | 0, _, _, _, _ => none
 | k + 1, x0, x1, x2, x27 => if x27 = true then ((laminalaw09_lives.f k).bind fun t288 => (some t288)) else ((delta_Encode.f k x0).bind fun t289 => ((some (([] : List Int) : List Int)).bind fun y292 => (if y292.length + x1.length < 140737488355328 then ((some (y292 ++ x1 : List Int)).bind fun y295 => (if y295.length + t289.length < 140737488355328 then ((some (y295 ++ t289 : List Int)).bind fun y298 => (if y298.length + x2.length < 140737488355328 then ((delta_Decode.f k (y298 ++ x2) (x1.length : Int) (x0.length : Int)).bind fun bt304 => (if bt304.2.2 = 0 then (if bt304.2.1 = (wrap64 ((x1.length : Int) + (t289.length : Int))) then ((laminaref09_Equal.f k bt304.1 x0).bind fun t309 => (if t309 = true then (laminalaw09_DeltaRoundTrip.j1 k x0 t289 (decide ((t289.length : Int) < 1))) else (laminalaw09_DeltaRoundTrip.j1 k x0 t289 true))) else (laminalaw09_DeltaRoundTrip.j1 k x0 t289 true)) else (laminalaw09_DeltaRoundTrip.j1 k x0 t289 true))) else (none))) else (none))) else (none))))
def laminalaw09_DeltaRoundTrip.j1 : Nat → List Int → List Int → Bool → Option (Bool)
 | 0, _, _, _ => none
 | k + 1, x0, x7, x69 => if x69 = true then (some false) else (if 0 ≤ (wrap64 ((x7.length : Int) - 1)) then (if (wrap64 ((x7.length : Int) - 1)) ≤ (x7.length : Int) then ((delta_Decode.f k (x7.take ((wrap64 ((x7.length : Int) - 1)) : Int).toNat) 0 (x0.length : Int)).bind fun bt314 => (if bt314.2.2 = 0 then (some false) else ((laminalaw09_lives.f k).bind fun t319 => (some t319)))) else (none)) else (none))
end
def laminalaw09_DeltaRoundTrip.f (k : Nat) (l0 : List Int) (l1 : List Int) (l2 : List Int) : Option (Bool) := if (l0.length : Int) > 300 then (laminalaw09_DeltaRoundTrip.j0 k l0 l1 l2 true) else (if (l1.length : Int) > 100 then (laminalaw09_DeltaRoundTrip.j0 k l0 l1 l2 true) else (laminalaw09_DeltaRoundTrip.j0 k l0 l1 l2 (decide ((l2.length : Int) > 100))))
theorem laminalaw09_DeltaRoundTrip.mono_l : ∀ k, (∀ y0 y1 y2 y3, LeO (laminalaw09_DeltaRoundTrip.j0 k y0 y1 y2 y3) (laminalaw09_DeltaRoundTrip.j0 (k + 1) y0 y1 y2 y3)) ∧ (∀ y0 y1 y2, LeO (laminalaw09_DeltaRoundTrip.j1 k y0 y1 y2) (laminalaw09_DeltaRoundTrip.j1 (k + 1) y0 y1 y2))
 | 0 => ⟨fun _ _ _ _ r h => by simp [laminalaw09_DeltaRoundTrip.j0] at h, fun _ _ _ r h => by simp [laminalaw09_DeltaRoundTrip.j1] at h⟩
 | k + 1 => by
  obtain ⟨ih0, ih1⟩ := laminalaw09_DeltaRoundTrip.mono_l k
  refine ⟨?_, ?_⟩
  ·intro y0 y1 y2 y3
   unfold laminalaw09_DeltaRoundTrip.j0
   repeat' first
   | (with_reducible exact ih0 _ _ _ _)
   | (with_reducible exact ih1 _ _ _)
   | (with_reducible exact delta_Decode.mono _ _ _ _)
   | (with_reducible exact delta_Encode.mono _ _)
   | (with_reducible exact laminalaw09_lives.mono _)
   | (with_reducible exact laminaref09_Equal.mono _ _ _)
   | (with_reducible exact LeO.refl _)
   | (with_reducible exact LeO.none _)
   | (with_reducible refine LeO.ite ?_ ?_)
   | (with_reducible refine LeO.bind ?_ (fun _ => ?_))
   | exact ih0 _ _ _ _
   | exact ih1 _ _ _
   | exact delta_Decode.mono _ _ _ _
   | exact delta_Encode.mono _ _
   | exact laminalaw09_lives.mono _
   | exact laminaref09_Equal.mono _ _ _
   | exact LeO.none _
   | refine LeO.ite ?_ ?_
   | refine LeO.bind ?_ (fun _ => ?_)
  ·intro y0 y1 y2
   unfold laminalaw09_DeltaRoundTrip.j1
   repeat' first
   | (with_reducible exact ih0 _ _ _ _)
   | (with_reducible exact ih1 _ _ _)
   | (with_reducible exact delta_Decode.mono _ _ _ _)
   | (with_reducible exact delta_Encode.mono _ _)
   | (with_reducible exact laminalaw09_lives.mono _)
   | (with_reducible exact laminaref09_Equal.mono _ _ _)
   | (with_reducible exact LeO.refl _)
   | (with_reducible exact LeO.none _)
   | (with_reducible refine LeO.ite ?_ ?_)
   | (with_reducible refine LeO.bind ?_ (fun _ => ?_))
   | exact ih0 _ _ _ _
   | exact ih1 _ _ _
   | exact delta_Decode.mono _ _ _ _
   | exact delta_Encode.mono _ _
   | exact laminalaw09_lives.mono _
   | exact laminaref09_Equal.mono _ _ _
   | exact LeO.none _
   | refine LeO.ite ?_ ?_
   | refine LeO.bind ?_ (fun _ => ?_)
theorem laminalaw09_DeltaRoundTrip.mono : ∀ a0 a1 a2 k, LeO (laminalaw09_DeltaRoundTrip.f k a0 a1 a2) (laminalaw09_DeltaRoundTrip.f (k + 1) a0 a1 a2) := by
 intro a0 a1 a2 k
 obtain ⟨ih0, ih1⟩ := laminalaw09_DeltaRoundTrip.mono_l k
 unfold laminalaw09_DeltaRoundTrip.f
 repeat' first
   | (with_reducible exact ih0 _ _ _ _)
   | (with_reducible exact ih1 _ _ _)
   | (with_reducible exact delta_Decode.mono _ _ _ _)
   | (with_reducible exact delta_Encode.mono _ _)
   | (with_reducible exact laminalaw09_lives.mono _)
   | (with_reducible exact laminaref09_Equal.mono _ _ _)
   | (with_reducible exact LeO.refl _)
   | (with_reducible exact LeO.none _)
   | (with_reducible refine LeO.ite ?_ ?_)
   | (with_reducible refine LeO.bind ?_ (fun _ => ?_))
   | exact ih0 _ _ _ _
   | exact ih1 _ _ _
   | exact delta_Decode.mono _ _ _ _
   | exact delta_Encode.mono _ _
   | exact laminalaw09_lives.mono _
   | exact laminaref09_Equal.mono _ _ _
   | exact LeO.none _
   | refine LeO.ite ?_ ?_
   | refine LeO.bind ?_ (fun _ => ?_)
set_option maxHeartbeats 8000000 in
set_option maxRecDepth 100000 in
theorem laminalaw09_DeltaRoundTrip.calls (k : Nat) (A0 : Option Addr) (c0 : Nat) (l0 : List Int) (A1 : Option Addr) (c1 : Nat) (l1 : List Int) (A2 : Option Addr) (c2 : Nat) (l2 : List Int) (r : Bool) (w : World) (hr0 : Kd.C (Kd.int .i64) w A0 l0.length l0) (hc0 : l0.length ≤ c0) (hr1 : Kd.C (Kd.int .u8) w A1 l1.length l1) (hc1 : l1.length ≤ c1) (hr2 : Kd.C (Kd.int .u8) w A2 l2.length l2) (hc2 : l2.length ≤ c2) (h : laminalaw09_DeltaRoundTrip.f k l0 l1 l2 = some r) (hr0 : r = true) :
  Calls Try.prog 5 #[.slice A0 l0.length c0, .slice A1 l1.length c1, .slice A2 l2.length c2] w fun e w' => e = .returned (.bool r) ∧ Below w.heap.size w w' := by
 have hr_ := Aside0.mk hr0
 clear hr0
 have HR0 := Aside0.mk hr0
 have HC0 := Aside0.mk hc0
 clear hr0 hc0
 have HR1 := Aside0.mk hr1
 have HC1 := Aside0.mk hc1
 clear hr1 hc1
 have HR2 := Aside0.mk hr2
 have HC2 := Aside0.mk hc2
 clear hr2 hc2
 have HB := Aside0.mk (Below.refl w.heap.size w)
 have H : (if (l0.length : Int) > 300 then (laminalaw09_DeltaRoundTrip.j0 k l0 l1 l2 true) else (if (l1.length : Int) > 100 then (laminalaw09_DeltaRoundTrip.j0 k l0 l1 l2 true) else (laminalaw09_DeltaRoundTrip.j0 k l0 l1 l2 (decide ((l2.length : Int) > 100))))) = some r := h
 clear h
 have HC4 := Aside0.mk H
 clear H
 go_enter Try.func5, Try.ntmps5
 go_upto_region 1 with (fail)
 go_cut [27] (fun v27 wc => ∃ (kq : Nat) (x27_3 : Bool), v27 = .bool x27_3 ∧ Aside0 (laminalaw09_DeltaRoundTrip.j0 kq l0 l1 l2 x27_3 = some r) ∧ Aside0 (kq ≤ k) ∧ Aside0 (Below w.heap.size w wc))
 case first =>
  have H := HC4.out
  clear HC4
  by_cases c5 : (l0.length : Int) > 300
  ·rw [if_pos c5] at H
   have c5b0 : decide (300 < (l0.length : Int)) = true := decide_eq_true c5
   have c5b1 : decide (300 < l0.length) = true := decide_eq_true (by omega)
   clear c5
   (first | rw [c5b0] | (simp only [i64_w, i32_w]; rw [c5b0]) | skip)
   have H' := Aside0.mk H
   clear H
   go_wp2
   go_meet
   case rel => exact ⟨_, (true), (by first | rfl | (simp; done) | (simp [*]; done)), H', ⟨by first | omega | exact Nat.le_refl _⟩, ⟨by repeat (first | (with_reducible first | exact HB.out | apply below_alloc | apply pw_below_drewN | apply below_drew1) | exact HB.out)⟩⟩
  ·rw [if_neg c5] at H
   have c5b0 : decide (300 < (l0.length : Int)) = false := decide_eq_false c5
   have c5b1 : decide (300 < l0.length) = false := decide_eq_false (by omega)
   clear c5
   (first | rw [c5b0] | (simp only [i64_w, i32_w]; rw [c5b0]) | skip)
   by_cases c6 : (l1.length : Int) > 100
   ·rw [if_pos c6] at H
    have c6b0 : decide (100 < (l1.length : Int)) = true := decide_eq_true c6
    have c6b1 : decide (100 < l1.length) = true := decide_eq_true (by omega)
    clear c6
    have H' := Aside0.mk H
    clear H
    go_wp2
    go_meet
    case rel => exact ⟨_, (true), (by first | rfl | (simp; done) | (simp [*]; done)), H', ⟨by first | omega | exact Nat.le_refl _⟩, ⟨by repeat (first | (with_reducible first | exact HB.out | apply below_alloc | apply pw_below_drewN | apply below_drew1) | exact HB.out)⟩⟩
   ·rw [if_neg c6] at H
    have c6b0 : decide (100 < (l1.length : Int)) = false := decide_eq_false c6
    have c6b1 : decide (100 < l1.length) = false := decide_eq_false (by omega)
    clear c6
    have H' := Aside0.mk H
    clear H
    go_wp2
    go_meet
    case rel => exact ⟨_, (decide ((l2.length : Int) > 100)), (by first | rfl | (simp; done) | (simp [*]; done)), H', ⟨by first | omega | exact Nat.le_refl _⟩, ⟨by repeat (first | (with_reducible first | exact HB.out | apply below_alloc | apply pw_below_drewN | apply below_drew1) | exact HB.out)⟩⟩
 case rest =>
  clear HC4
  try clear c1
  try clear c2
  try clear p2
  try clear c5
  try clear c5b0
  try clear c5b1
  try clear c6
  try clear c6b0
  try clear c6b1
  obtain ⟨kq, x27_3, rfl, HA, HJ3, HB⟩ := hcut
  cases kq with
  | zero => exact absurd HA.out (by simp [laminalaw09_DeltaRoundTrip.j0])
  | succ kj3 =>
   have H := HA.out
   clear HA
   simp only [laminalaw09_DeltaRoundTrip.j0] at H
   by_cases c7 : x27_3 = true
   ·subst c7
    have H1 : ((laminalaw09_lives.f kj3).bind fun t288 => (some t288)) = some r := by rw [if_pos rfl] at H; exact H
    clear H
    have H := H1
    clear H1
    replace H := Option.bind_eq_some_iff.mp H
    obtain ⟨t288, A80, H⟩ := H
    replace H : (some t288) = some r := H
    have A8 := Aside0.mk A80
    clear A80
    obtain rfl := Option.some.inj H
    go_wp2_with (first | ((with_reducible refine gate_callee (f := 30) rfl ?_); refine goesL_ (some 28) rfl rfl Try.func30 (by kernel_rfl) rfl #[] rfl (by (try simp only [List.map_toArray, List.map_cons, List.map_nil]); first | done | rfl | (simp only [List.length_drop, List.length_take]; rfl)) ?_; (with_reducible refine (laminalaw09_lives.calls kj3  t288 _ A8.out).mono ?_); rintro e w9 ⟨rfl, hb⟩; refine ⟨_, rfl, ?_⟩; have n0_ := Aside0.mk (below_step (by repeat (first | (with_reducible first | exact HB.out | apply below_alloc | apply pw_below_drewN | apply below_drew1) | exact HB.out)) hb); clear HB; have HB := n0_; clear n0_; (try clear hb); (try clear hb2); (try clear hk); (try clear hi)))
    go_ret
    exact ⟨by first | rfl | (simp [errW_none, errW_some] <;> rfl) | (simp [*, errW_none, errW_some] <;> rfl), by repeat (first | (with_reducible first | exact HB.out | apply below_alloc | apply pw_below_drewN | apply below_drew1) | exact HB.out)⟩
   ·replace c7 := Bool.eq_false_iff.mpr c7
    subst c7
    have H1 : ((delta_Encode.f kj3 l0).bind fun t289 => ((some (([] : List Int) : List Int)).bind fun y292 => (if y292.length + l1.length < 140737488355328 then ((some (y292 ++ l1 : List Int)).bind fun y295 => (if y295.length + t289.length < 140737488355328 then ((some (y295 ++ t289 : List Int)).bind fun y298 => (if y298.length + l2.length < 140737488355328 then ((delta_Decode.f kj3 (y298 ++ l2) (l1.length : Int) (l0.length : Int)).bind fun bt304 => (if bt304.2.2 = 0 then (if bt304.2.1 = (wrap64 ((l1.length : Int) + (t289.length : Int))) then ((laminaref09_Equal.f kj3 bt304.1 l0).bind fun t309 => (if t309 = true then (laminalaw09_DeltaRoundTrip.j1 kj3 l0 t289 (decide ((t289.length : Int) < 1))) else (laminalaw09_DeltaRoundTrip.j1 kj3 l0 t289 true))) else (laminalaw09_DeltaRoundTrip.j1 kj3 l0 t289 true)) else (laminalaw09_DeltaRoundTrip.j1 kj3 l0 t289 true))) else (none))) else (none))) else (none)))) = some r := by rw [if_neg (show ¬ (false = true) by decide)] at H; exact H
    clear H
    have H := H1
    clear H1
    replace H := Option.bind_eq_some_iff.mp H
    obtain ⟨t289, A100, H⟩ := H
    replace H : ((some (([] : List Int) : List Int)).bind fun y292 => (if y292.length + l1.length < 140737488355328 then ((some (y292 ++ l1 : List Int)).bind fun y295 => (if y295.length + t289.length < 140737488355328 then ((some (y295 ++ t289 : List Int)).bind fun y298 => (if y298.length + l2.length < 140737488355328 then ((delta_Decode.f kj3 (y298 ++ l2) (l1.length : Int) (l0.length : Int)).bind fun bt304 => (if bt304.2.2 = 0 then (if bt304.2.1 = (wrap64 ((l1.length : Int) + (t289.length : Int))) then ((laminaref09_Equal.f kj3 bt304.1 l0).bind fun t309 => (if t309 = true then (laminalaw09_DeltaRoundTrip.j1 kj3 l0 t289 (decide ((t289.length : Int) < 1))) else (laminalaw09_DeltaRoundTrip.j1 kj3 l0 t289 true))) else (laminalaw09_DeltaRoundTrip.j1 kj3 l0 t289 true)) else (laminalaw09_DeltaRoundTrip.j1 kj3 l0 t289 true))) else (none))) else (none))) else (none))) = some r := H
    have A10 := Aside0.mk A100
    clear A100
    obtain ⟨y292, hy292⟩ : ∃ y_ : List Int, y_ = (([] : List Int)) := ⟨_, rfl⟩
    replace H : (if y292.length + l1.length < 140737488355328 then ((some (y292 ++ l1 : List Int)).bind fun y295 => (if y295.length + t289.length < 140737488355328 then ((some (y295 ++ t289 : List Int)).bind fun y298 => (if y298.length + l2.length < 140737488355328 then ((delta_Decode.f kj3 (y298 ++ l2) (l1.length : Int) (l0.length : Int)).bind fun bt304 => (if bt304.2.2 = 0 then (if bt304.2.1 = (wrap64 ((l1.length : Int) + (t289.length : Int))) then ((laminaref09_Equal.f kj3 bt304.1 l0).bind fun t309 => (if t309 = true then (laminalaw09_DeltaRoundTrip.j1 kj3 l0 t289 (decide ((t289.length : Int) < 1))) else (laminalaw09_DeltaRoundTrip.j1 kj3 l0 t289 true))) else (laminalaw09_DeltaRoundTrip.j1 kj3 l0 t289 true)) else (laminalaw09_DeltaRoundTrip.j1 kj3 l0 t289 true))) else (none))) else (none))) else (none)) = some r := by first | (rw [hy292]; with_reducible exact H) | (have H2_ := (Option.bind_some _ _).symm.trans H; rw [hy292]; with_reducible exact H2_) | (have H2_ := (Option.bind_some _ _).symm.trans H; with_reducible exact H2_) | with_reducible exact H | (rw [hy292]; exact H) | exact H
    have Ny292 := Aside0.mk hy292
    clear hy292
    by_cases c11 : y292.length + l1.length < 140737488355328
    ·rw [if_pos c11] at H
     have LMc11 := Aside0.mk c11
     clear c11
     obtain ⟨y295, hy295⟩ : ∃ y_ : List Int, y_ = (y292 ++ l1) := ⟨_, rfl⟩
     replace H : (if y295.length + t289.length < 140737488355328 then ((some (y295 ++ t289 : List Int)).bind fun y298 => (if y298.length + l2.length < 140737488355328 then ((delta_Decode.f kj3 (y298 ++ l2) (l1.length : Int) (l0.length : Int)).bind fun bt304 => (if bt304.2.2 = 0 then (if bt304.2.1 = (wrap64 ((l1.length : Int) + (t289.length : Int))) then ((laminaref09_Equal.f kj3 bt304.1 l0).bind fun t309 => (if t309 = true then (laminalaw09_DeltaRoundTrip.j1 kj3 l0 t289 (decide ((t289.length : Int) < 1))) else (laminalaw09_DeltaRoundTrip.j1 kj3 l0 t289 true))) else (laminalaw09_DeltaRoundTrip.j1 kj3 l0 t289 true)) else (laminalaw09_DeltaRoundTrip.j1 kj3 l0 t289 true))) else (none))) else (none)) = some r := by first | (rw [hy295]; with_reducible exact H) | (have H2_ := (Option.bind_some _ _).symm.trans H; rw [hy295]; with_reducible exact H2_) | (have H2_ := (Option.bind_some _ _).symm.trans H; with_reducible exact H2_) | with_reducible exact H | (rw [hy295]; exact H) | exact H
     have Ny295 := Aside0.mk hy295
     clear hy295
     by_cases c12 : y295.length + t289.length < 140737488355328
     ·rw [if_pos c12] at H
      have LMc12 := Aside0.mk c12
      clear c12
      obtain ⟨y298, hy298⟩ : ∃ y_ : List Int, y_ = (y295 ++ t289) := ⟨_, rfl⟩
      replace H : (if y298.length + l2.length < 140737488355328 then ((delta_Decode.f kj3 (y298 ++ l2) (l1.length : Int) (l0.length : Int)).bind fun bt304 => (if bt304.2.2 = 0 then (if bt304.2.1 = (wrap64 ((l1.length : Int) + (t289.length : Int))) then ((laminaref09_Equal.f kj3 bt304.1 l0).bind fun t309 => (if t309 = true then (laminalaw09_DeltaRoundTrip.j1 kj3 l0 t289 (decide ((t289.length : Int) < 1))) else (laminalaw09_DeltaRoundTrip.j1 kj3 l0 t289 true))) else (laminalaw09_DeltaRoundTrip.j1 kj3 l0 t289 true)) else (laminalaw09_DeltaRoundTrip.j1 kj3 l0 t289 true))) else (none)) = some r := by first | (rw [hy298]; with_reducible exact H) | (have H2_ := (Option.bind_some _ _).symm.trans H; rw [hy298]; with_reducible exact H2_) | (have H2_ := (Option.bind_some _ _).symm.trans H; with_reducible exact H2_) | with_reducible exact H | (rw [hy298]; exact H) | exact H
      have Ny298 := Aside0.mk hy298
      clear hy298
      by_cases c13 : y298.length + l2.length < 140737488355328
      ·rw [if_pos c13] at H
       have LMc13 := Aside0.mk c13
       clear c13
       obtain ⟨y301, hy301⟩ : ∃ y_ : List Int, y_ = (y298 ++ l2) := ⟨_, rfl⟩
       replace H : ((delta_Decode.f kj3 y301 (l1.length : Int) (l0.length : Int)).bind fun bt304 => (if bt304.2.2 = 0 then (if bt304.2.1 = (wrap64 ((l1.length : Int) + (t289.length : Int))) then ((laminaref09_Equal.f kj3 bt304.1 l0).bind fun t309 => (if t309 = true then (laminalaw09_DeltaRoundTrip.j1 kj3 l0 t289 (decide ((t289.length : Int) < 1))) else (laminalaw09_DeltaRoundTrip.j1 kj3 l0 t289 true))) else (laminalaw09_DeltaRoundTrip.j1 kj3 l0 t289 true)) else (laminalaw09_DeltaRoundTrip.j1 kj3 l0 t289 true))) = some r := by first | (rw [hy301]; with_reducible exact H) | (have H2_ := (Option.bind_some _ _).symm.trans H; rw [hy301]; with_reducible exact H2_) | (have H2_ := (Option.bind_some _ _).symm.trans H; with_reducible exact H2_) | with_reducible exact H | (rw [hy301]; exact H) | exact H
       have Ny301 := Aside0.mk hy301
       clear hy301
       replace H := Option.bind_eq_some_iff.mp H
       obtain ⟨⟨t304, t305, t306⟩, A140, H⟩ := H
       replace H : (if t306 = 0 then (if t305 = (wrap64 ((l1.length : Int) + (t289.length : Int))) then ((laminaref09_Equal.f kj3 t304 l0).bind fun t309 => (if t309 = true then (laminalaw09_DeltaRoundTrip.j1 kj3 l0 t289 (decide ((t289.length : Int) < 1))) else (laminalaw09_DeltaRoundTrip.j1 kj3 l0 t289 true))) else (laminalaw09_DeltaRoundTrip.j1 kj3 l0 t289 true)) else (laminalaw09_DeltaRoundTrip.j1 kj3 l0 t289 true)) = some r := H
       have A14 := Aside0.mk A140
       clear A140
       have HC15 := Aside0.mk H
       clear H
       go_upto_region 6 with (first | ((with_reducible refine gate_callee (f := 31) rfl ?_); refine goesL_ (some 30) rfl rfl Try.func31 (by kernel_rfl) rfl #[.slice A0 l0.length c0] rfl (by (try simp only [List.map_toArray, List.map_cons, List.map_nil]); first | done | rfl | (simp only [List.length_drop, List.length_take]; rfl)) ?_; (with_reducible refine (delta_Encode.calls kj3 _ _ l0 t289 _ ?side1 ?side2 A10.out).mono ?_); (case side1 => repeat (first | exact (Kd.C_below HR0.out HB.out) | (with_reducible refine Kd.C_alloc ?_ _) | (with_reducible refine Kd.C_drewN ?_ _) | (with_reducible refine Kd.C_drew ?_))); (case side2 => exact HC0.out); rintro e w16 ⟨v290, rfl, ho0, hb⟩; refine ⟨_, rfl, ?_⟩; have n0_ := Aside0.mk (Kd.R_lower ho0 (below_size (by repeat (first | (with_reducible first | exact HB.out | apply below_alloc | apply pw_below_drewN | apply below_drew1) | exact HB.out)))); have n1_ := Aside0.mk (below_step (by repeat (first | (with_reducible first | exact HB.out | apply below_alloc | apply pw_below_drewN | apply below_drew1) | exact HB.out)) hb); clear HB; have HO291 := n0_; have HB := n1_; clear n0_ n1_; (try clear hb); (try clear hb2); (try clear hk); (try clear hi); (try clear ho0)) | ((with_reducible refine gate_dst (N := 31) rfl ?_); (try (refine gate_guard (by rfl) ?_; dsimp only)); refine Kd.R_lit (Kd.int .u8) _ 5 ?hg (N := 31) ?hd (xs := ([] : List Int)) (inner := []) (ok := fun _ => True) (okp := fun _ => True) ?hr ?hp (fun _ hk => hk) trivial (Below.refl _ _) (Nat.le_refl _) (by simp) ?_; (case hd => rfl); (case hg => (first | rfl | (simp only [*]; rfl) | (simp [*]; done))); (case hr => first | (go_simp; done) | (go_simp; rfl)); (case hp => exact (Reps.none _ _)); intro v293 w17 ho18 hb hg_ hnew_; clear hg_ hnew_; (first | rw [← Ny292.out] at ho18 | (simp only [Int.reduceToNat] at ho18; rw [← Ny292.out] at ho18)); have n0_ := Aside0.mk (Kd.R_elder' (by (with_reducible repeat (first | apply Kd.R_alloc | apply Kd.R_drewN | apply Kd.R_drew)); exact HO291.out) (Kd.R_base ho18) hb); have n1_ := Aside0.mk (Kd.R_lower (Kd.R_new' ho18 (Kd.R_lt (by (with_reducible repeat (first | apply Kd.R_alloc | apply Kd.R_drewN | apply Kd.R_drew)); exact HO291.out))) (below_size (by repeat (first | (with_reducible first | exact HB.out | apply below_alloc | apply pw_below_drewN | apply below_drew1) | exact HB.out)))); have n2_ := Aside0.mk (below_step (by repeat (first | (with_reducible first | exact HB.out | apply below_alloc | apply pw_below_drewN | apply below_drew1) | exact HB.out)) hb); clear HO291; clear HB; have HO291 := n0_; have HO294 := n1_; have HB := n2_; clear n0_ n1_ n2_; clear hb ho18) | ((with_reducible refine gate_builtin (b := .append) (xs := #[.tmp 31, .tmp 32]) rfl ?_); (try (refine gate_guard (by rfl) ?_; dsimp only)); at_builtin; refine Kd.R_append_rows (Kd.int .u8) (w0 := w) w.heap.size rfl (.tmp 31) (.tmp 32) 26 5 (.int .u8 0) 1 rfl Try.underlying26 info5 rfl (by decide) (by omega) v293 y292 l1 _ _ _ (fun k_ => some k_ ≠ (v290 : Value).ownBlock) (fun _ => False) rfl rfl ?aO ?aR (fun _ _ h => h) (fun _ h => h.elim) ?aF ?aB ?aS ?aL ?_; (case aR => repeat (first | exact (Kd.C_below HR1.out HB.out) | (with_reducible refine Kd.C_alloc ?_ _) | (with_reducible refine Kd.C_drewN ?_ _) | (with_reducible refine Kd.C_drew ?_))); (case aB => exact (by repeat (first | (with_reducible first | exact HB.out | apply below_alloc | apply pw_below_drewN | apply below_drew1) | exact HB.out))); (case aF => exact (fun k_ hk => Kd.fresh' (Kd.R_lt (by (with_reducible repeat (first | apply Kd.R_alloc | apply Kd.R_drewN | apply Kd.R_drew)); exact HO291.out)) k_ hk)); (case aO => exact (by (with_reducible repeat (first | apply Kd.R_alloc | apply Kd.R_drewN | apply Kd.R_drew)); exact Kd.R_mono HO294.out (fun _ hk => hk.2))); (case aS => exact (below_size (by repeat (first | (with_reducible first | exact HB.out | apply below_alloc | apply pw_below_drewN | apply below_drew1) | exact HB.out)))); (case aL => have := LMc11.out; omega); intro v296 w19 ho hb hg hat; rw [← Ny295.out] at ho; have n0_ := Aside0.mk (Kd.R_after (ok := (fun _ => True)) (by (with_reducible repeat (first | apply Kd.R_alloc | apply Kd.R_drewN | apply Kd.R_drew)); exact HO291.out) hg hat); have n1_ := Aside0.mk (hb); have n2_ := Aside0.mk (ho); clear HO291; clear HB; clear HO294; have HO291 := n0_; have HB := n1_; have HO297 := n2_; clear n0_ n1_ n2_; clear ho hb hg hat; obtain ⟨Ao21, co21, eo21⟩ := Kd.R_slice HO291.out; subst eo21) | ((with_reducible refine gate_builtin (b := .append) (xs := #[.tmp 33, .tmp 34]) rfl ?_); (try (refine gate_guard (by rfl) ?_; dsimp only)); at_builtin; refine Kd.R_append_rows (Kd.int .u8) (w0 := w) w.heap.size rfl (.tmp 33) (.tmp 34) 26 5 (.int .u8 0) 1 rfl Try.underlying26 info5 rfl (by decide) (by omega) v296 y295 t289 _ _ _ (fun k_ => some k_ ≠ (.slice Ao21 t289.length co21 : Value).ownBlock) (fun _ => False) rfl rfl ?aO ?aR (fun _ _ h => h) (fun _ h => h.elim) ?aF ?aB ?aS ?aL ?_; (case aR => repeat (first | exact (Kd.R_reads' HO291.out).2.2 | (with_reducible refine Kd.C_alloc ?_ _) | (with_reducible refine Kd.C_drewN ?_ _) | (with_reducible refine Kd.C_drew ?_))); (case aB => exact (by repeat (first | (with_reducible first | exact HB.out | apply below_alloc | apply pw_below_drewN | apply below_drew1) | exact HB.out))); (case aF => exact (fun k_ hk => Kd.fresh' (Kd.R_lt (by (with_reducible repeat (first | apply Kd.R_alloc | apply Kd.R_drewN | apply Kd.R_drew)); exact HO291.out)) k_ hk)); (case aO => exact (by (with_reducible repeat (first | apply Kd.R_alloc | apply Kd.R_drewN | apply Kd.R_drew)); exact HO297.out)); (case aS => exact (below_size (by repeat (first | (with_reducible first | exact HB.out | apply below_alloc | apply pw_below_drewN | apply below_drew1) | exact HB.out)))); (case aL => have := LMc12.out; omega); intro v299 w20 ho hb hg hat; rw [← Ny298.out] at ho; have n0_ := Aside0.mk (Kd.R_after (ok := (fun _ => True)) (by (with_reducible repeat (first | apply Kd.R_alloc | apply Kd.R_drewN | apply Kd.R_drew)); exact HO291.out) hg hat); have n1_ := Aside0.mk (hb); have n2_ := Aside0.mk (ho); clear HO291; clear HB; clear HO297; have HO291 := n0_; have HB := n1_; have HO300 := n2_; clear n0_ n1_ n2_; clear ho hb hg hat) | ((with_reducible refine gate_builtin (b := .append) (xs := #[.tmp 35, .tmp 36]) rfl ?_); (try (refine gate_guard (by rfl) ?_; dsimp only)); at_builtin; refine Kd.R_append_rows (Kd.int .u8) (w0 := w) w.heap.size rfl (.tmp 35) (.tmp 36) 26 5 (.int .u8 0) 1 rfl Try.underlying26 info5 rfl (by decide) (by omega) v299 y298 l2 _ _ _ (fun k_ => some k_ ≠ (.slice Ao21 t289.length co21 : Value).ownBlock) (fun _ => False) rfl rfl ?aO ?aR (fun _ _ h => h) (fun _ h => h.elim) ?aF ?aB ?aS ?aL ?_; (case aR => repeat (first | exact (Kd.C_below HR2.out HB.out) | (with_reducible refine Kd.C_alloc ?_ _) | (with_reducible refine Kd.C_drewN ?_ _) | (with_reducible refine Kd.C_drew ?_))); (case aB => exact (by repeat (first | (with_reducible first | exact HB.out | apply below_alloc | apply pw_below_drewN | apply below_drew1) | exact HB.out))); (case aF => exact (fun k_ hk => Kd.fresh' (Kd.R_lt (by (with_reducible repeat (first | apply Kd.R_alloc | apply Kd.R_drewN | apply Kd.R_drew)); exact HO291.out)) k_ hk)); (case aO => exact (by (with_reducible repeat (first | apply Kd.R_alloc | apply Kd.R_drewN | apply Kd.R_drew)); exact HO300.out)); (case aS => exact (below_size (by repeat (first | (with_reducible first | exact HB.out | apply below_alloc | apply pw_below_drewN | apply below_drew1) | exact HB.out)))); (case aL => have := LMc13.out; omega); intro v302 w22 ho hb hg hat; rw [← Ny301.out] at ho; have n0_ := Aside0.mk (Kd.R_after (ok := (fun _ => True)) (by (with_reducible repeat (first | apply Kd.R_alloc | apply Kd.R_drewN | apply Kd.R_drew)); exact HO291.out) hg hat); have n1_ := Aside0.mk (hb); have n2_ := Aside0.mk (ho); clear HO291; clear HB; clear HO300; have HO291 := n0_; have HB := n1_; have HO303 := n2_; clear n0_ n1_ n2_; clear ho hb hg hat; obtain ⟨Ao23, co23, eo23⟩ := Kd.R_slice HO303.out; subst eo23) | ((with_reducible refine gate_callee (f := 32) rfl ?_); refine goesL_ (some 44) rfl rfl Try.func32 (by kernel_rfl) rfl #[.slice Ao23 y301.length co23, .int .i64 (l1.length : Int), .int .i64 (l0.length : Int)] rfl (by (try simp only [List.map_toArray, List.map_cons, List.map_nil]); first | done | rfl | (simp only [List.length_drop, List.length_take]; rfl)) ?_; (with_reducible refine (delta_Decode.calls kj3 _ _ y301 (l1.length : Int) (l0.length : Int) t304 t305 t306 _ ?side1 ?side2 A14.out).mono ?_); (case side1 => repeat (first | exact (Kd.R_reads' HO303.out).2.2 | (with_reducible refine Kd.C_alloc ?_ _) | (with_reducible refine Kd.C_drewN ?_ _) | (with_reducible refine Kd.C_drew ?_))); (case side2 => exact (Kd.R_reads' HO303.out).2.1); rintro e w24 ⟨v307, rfl, ho0, hb⟩; refine ⟨_, rfl, ?_⟩; have n0_ := Aside0.mk (Kd.R_below (by (with_reducible repeat (first | apply Kd.R_alloc | apply Kd.R_drewN | apply Kd.R_drew)); exact HO291.out) hb); have n1_ := Aside0.mk (Kd.R_below (by (with_reducible repeat (first | apply Kd.R_alloc | apply Kd.R_drewN | apply Kd.R_drew)); exact HO303.out) hb); have n2_ := Aside0.mk (Kd.R_lower ho0 (below_size (by repeat (first | (with_reducible first | exact HB.out | apply below_alloc | apply pw_below_drewN | apply below_drew1) | exact HB.out)))); have n3_ := Aside0.mk (below_step (by repeat (first | (with_reducible first | exact HB.out | apply below_alloc | apply pw_below_drewN | apply below_drew1) | exact HB.out)) hb); clear HO291; clear HO303; clear HB; have HO291 := n0_; have HO303 := n1_; have HO308 := n2_; have HB := n3_; clear n0_ n1_ n2_ n3_; (try clear hb); (try clear hb2); (try clear hk); (try clear hi); (try clear ho0)))
       (try simp only [Act.put, List.setIfInBounds_toArray, List.set_cons_zero, List.set_cons_succ])
       go_cut [69] (fun v69 wc => ∃ (kq : Nat) (x69_14 : Bool), v69 = .bool x69_14 ∧ Aside0 (laminalaw09_DeltaRoundTrip.j1 kq l0 t289 x69_14 = some r) ∧ Aside0 (kq ≤ kj3) ∧ Aside0 (Kd.R (Kd.int .u8) 5 wc w.heap.size (fun _ => True) (.slice Ao21 t289.length co21) t289) ∧ Aside0 (Below w.heap.size w wc))
       case first =>
        have H := HC15.out
        clear HC15
        by_cases c25 : t306 = 0
        ·rw [if_pos c25] at H
         have c25b0 : (t306 == 0) = true := beq_iff_eq.mpr c25
         have c25b1 : (t306 != 0) = false := bne_eq_false_iff_eq.mpr c25
         clear c25
         (first | rw [c25b0] | (simp only [i64_w, i32_w]; rw [c25b0]) | skip)
         by_cases c26 : t305 = (wrap64 ((l1.length : Int) + (t289.length : Int)))
         ·rw [if_pos c26] at H
          have c26b0 : (t305 == (wrap64 ((l1.length : Int) + (t289.length : Int)))) = true := beq_iff_eq.mpr c26
          have c26b1 : (t305 != (wrap64 ((l1.length : Int) + (t289.length : Int)))) = false := bne_eq_false_iff_eq.mpr c26
          clear c26
          replace H := Option.bind_eq_some_iff.mp H
          obtain ⟨t309, A270, H⟩ := H
          replace H : (if t309 = true then (laminalaw09_DeltaRoundTrip.j1 kj3 l0 t289 (decide ((t289.length : Int) < 1))) else (laminalaw09_DeltaRoundTrip.j1 kj3 l0 t289 true)) = some r := H
          have A27 := Aside0.mk A270
          clear A270
          by_cases c28 : t309 = true
          ·subst c28
           have H1 : (laminalaw09_DeltaRoundTrip.j1 kj3 l0 t289 (decide ((t289.length : Int) < 1))) = some r := by rw [if_pos rfl] at H; exact H
           clear H
           have H := H1
           clear H1
           have H' := Aside0.mk H
           clear H
           obtain ⟨Ao29, co29, eo29⟩ := Kd.R_slice HO308.out
           subst eo29
           go_wp2_with (first | (go_at_call 33; (with_reducible refine (laminaref09_Equal.calls kj3 _ _ t304 _ _ l0 true _ ?side1 ?side2 ?side3 ?side4 A27.out).mono ?_); (case side1 => repeat (first | exact (Kd.R_reads' HO308.out).2.2 | (with_reducible refine Kd.C_alloc ?_ _) | (with_reducible refine Kd.C_drewN ?_ _) | (with_reducible refine Kd.C_drew ?_))); (case side2 => exact (Kd.R_reads' HO308.out).2.1); (case side3 => repeat (first | exact (Kd.C_below HR0.out HB.out) | (with_reducible refine Kd.C_alloc ?_ _) | (with_reducible refine Kd.C_drewN ?_ _) | (with_reducible refine Kd.C_drew ?_))); (case side4 => exact HC0.out); rintro e w' ⟨rfl, ⟨nd, rfl⟩⟩; (try clear A27)))
           go_meet
           case rel => exact ⟨_, (decide ((t289.length : Int) < 1)), (by first | rfl | (simp; done) | (simp [*]; done)), H', ⟨by have := HJ3.out; first | omega | exact Nat.le_refl _⟩, ⟨by (with_reducible repeat (first | apply Kd.R_alloc | apply Kd.R_drewN | apply Kd.R_drew)); exact Kd.R_mono HO291.out (fun _ hk => trivial)⟩, ⟨by repeat (first | (with_reducible first | exact HB.out | apply below_alloc | apply pw_below_drewN | apply below_drew1) | exact HB.out)⟩⟩
          ·replace c28 := Bool.eq_false_iff.mpr c28
           subst c28
           have H1 : (laminalaw09_DeltaRoundTrip.j1 kj3 l0 t289 true) = some r := by rw [if_neg (show ¬ (false = true) by decide)] at H; exact H
           clear H
           have H := H1
           clear H1
           have H' := Aside0.mk H
           clear H
           obtain ⟨Ao30, co30, eo30⟩ := Kd.R_slice HO308.out
           subst eo30
           go_wp2_with (first | (go_at_call 33; (with_reducible refine (laminaref09_Equal.calls kj3 _ _ t304 _ _ l0 false _ ?side1 ?side2 ?side3 ?side4 A27.out).mono ?_); (case side1 => repeat (first | exact (Kd.R_reads' HO308.out).2.2 | (with_reducible refine Kd.C_alloc ?_ _) | (with_reducible refine Kd.C_drewN ?_ _) | (with_reducible refine Kd.C_drew ?_))); (case side2 => exact (Kd.R_reads' HO308.out).2.1); (case side3 => repeat (first | exact (Kd.C_below HR0.out HB.out) | (with_reducible refine Kd.C_alloc ?_ _) | (with_reducible refine Kd.C_drewN ?_ _) | (with_reducible refine Kd.C_drew ?_))); (case side4 => exact HC0.out); rintro e w' ⟨rfl, ⟨nd, rfl⟩⟩; (try clear A27)))
           go_meet
           case rel => exact ⟨_, (true), (by first | rfl | (simp; done) | (simp [*]; done)), H', ⟨by have := HJ3.out; first | omega | exact Nat.le_refl _⟩, ⟨by (with_reducible repeat (first | apply Kd.R_alloc | apply Kd.R_drewN | apply Kd.R_drew)); exact Kd.R_mono HO291.out (fun _ hk => trivial)⟩, ⟨by repeat (first | (with_reducible first | exact HB.out | apply below_alloc | apply pw_below_drewN | apply below_drew1) | exact HB.out)⟩⟩
         ·rw [if_neg c26] at H
          have c26b0 : (t305 == (wrap64 ((l1.length : Int) + (t289.length : Int)))) = false := beq_eq_false_iff_ne.mpr c26
          have c26b1 : (t305 != (wrap64 ((l1.length : Int) + (t289.length : Int)))) = true := bne_iff_ne.mpr c26
          have H' := Aside0.mk H
          clear H
          go_wp2
          go_meet
          case rel => exact ⟨_, (true), (by first | rfl | (simp; done) | (simp [*]; done)), H', ⟨by have := HJ3.out; first | omega | exact Nat.le_refl _⟩, ⟨by (with_reducible repeat (first | apply Kd.R_alloc | apply Kd.R_drewN | apply Kd.R_drew)); exact Kd.R_mono HO291.out (fun _ hk => trivial)⟩, ⟨by repeat (first | (with_reducible first | exact HB.out | apply below_alloc | apply pw_below_drewN | apply below_drew1) | exact HB.out)⟩⟩
        ·rw [if_neg c25] at H
         have c25b0 : (t306 == 0) = false := beq_eq_false_iff_ne.mpr c25
         have c25b1 : (t306 != 0) = true := bne_iff_ne.mpr c25
         (first | rw [c25b0] | (simp only [i64_w, i32_w]; rw [c25b0]) | skip)
         have H' := Aside0.mk H
         clear H
         go_wp2
         go_meet
         case rel => exact ⟨_, (true), (by first | rfl | (simp; done) | (simp [*]; done)), H', ⟨by have := HJ3.out; first | omega | exact Nat.le_refl _⟩, ⟨by (with_reducible repeat (first | apply Kd.R_alloc | apply Kd.R_drewN | apply Kd.R_drew)); exact Kd.R_mono HO291.out (fun _ hk => trivial)⟩, ⟨by repeat (first | (with_reducible first | exact HB.out | apply below_alloc | apply pw_below_drewN | apply below_drew1) | exact HB.out)⟩⟩
       case rest =>
        clear HC15
        try clear c1
        try clear c2
        try clear p2
        try clear c3
        try clear c5
        try clear c5b0
        try clear c5b1
        try clear c6
        try clear c6b0
        try clear c6b1
        try clear p6
        try clear c7
        try clear c11
        try clear c12
        try clear c13
        try clear c25
        try clear c25b0
        try clear c25b1
        try clear c26
        try clear c26b0
        try clear c26b1
        try clear c28
        try clear c30
        try clear p2
        obtain ⟨kq, x69_14, rfl, HA, HJ14, HO_7, HB⟩ := hcut
        cases kq with
        | zero => exact absurd HA.out (by simp [laminalaw09_DeltaRoundTrip.j1])
        | succ kj14 =>
         have H := HA.out
         clear HA
         simp only [laminalaw09_DeltaRoundTrip.j1] at H
         by_cases c31 : x69_14 = true
         ·subst c31
          have H1 : (some false) = some r := by rw [if_pos rfl] at H; exact H
          clear H
          have H := H1
          clear H1
          exact absurd (H.trans (congrArg some hr_.out)) (by simp)
         ·replace c31 := Bool.eq_false_iff.mpr c31
          subst c31
          have H1 : (if 0 ≤ (wrap64 ((t289.length : Int) - 1)) then (if (wrap64 ((t289.length : Int) - 1)) ≤ (t289.length : Int) then ((delta_Decode.f kj14 (t289.take ((wrap64 ((t289.length : Int) - 1)) : Int).toNat) 0 (l0.length : Int)).bind fun bt314 => (if bt314.2.2 = 0 then (some false) else ((laminalaw09_lives.f kj14).bind fun t319 => (some t319)))) else (none)) else (none)) = some r := by rw [if_neg (show ¬ (false = true) by decide)] at H; exact H
          clear H
          have H := H1
          clear H1
          obtain ⟨ji32, hji32⟩ : ∃ j_ : Int, (wrap64 ((t289.length : Int) - 1)) = j_ := ⟨_, rfl⟩
          replace H : (if 0 ≤ (ji32) then (if (ji32) ≤ (t289.length : Int) then ((delta_Decode.f kj14 (t289.take ((ji32) : Int).toNat) 0 (l0.length : Int)).bind fun bt314 => (if bt314.2.2 = 0 then (some false) else ((laminalaw09_lives.f kj14).bind fun t319 => (some t319)))) else (none)) else (none)) = some r := by first | (rw [hji32] at H; exact H) | (simp only [hji32] at H ⊢; exact H)
          have hji32w : (IntKind.i64.wrap ((t289.length : Int) - 1)) = ji32 := (i64_w _).trans hji32
          by_cases c33 : 0 ≤ (ji32)
          ·rw [if_pos c33] at H
           have c33b0 := eq_true c33
           have c33b1 : decide (0 ≤ (ji32)) = true := decide_eq_true c33
           clear c33
           by_cases c34 : (ji32) ≤ (t289.length : Int)
           ·rw [if_pos c34] at H
            have c34b0 := eq_true c34
            have c34b1 : decide ((ji32) ≤ (t289.length : Int)) = true := decide_eq_true c34
            clear c34
            obtain ⟨y310, hy310⟩ : ∃ y_ : List Int, y_ = (t289.take ((ji32) : Int).toNat) := ⟨_, rfl⟩
            replace H : ((delta_Decode.f kj14 y310 0 (l0.length : Int)).bind fun bt314 => (if bt314.2.2 = 0 then (some false) else ((laminalaw09_lives.f kj14).bind fun t319 => (some t319)))) = some r := by first | (rw [hy310]; with_reducible exact H) | (have H2_ := (Option.bind_some _ _).symm.trans H; rw [hy310]; with_reducible exact H2_) | (have H2_ := (Option.bind_some _ _).symm.trans H; with_reducible exact H2_) | with_reducible exact H | (rw [hy310]; exact H) | exact H
            have Ny310 := Aside0.mk hy310
            clear hy310
            replace H := Option.bind_eq_some_iff.mp H
            obtain ⟨⟨t314, t315, t316⟩, A350, H⟩ := H
            replace H : (if t316 = 0 then (some false) else ((laminalaw09_lives.f kj14).bind fun t319 => (some t319))) = some r := H
            have A35 := Aside0.mk A350
            clear A350
            by_cases c36 : t316 = 0
            ·rw [if_pos c36] at H
             exact absurd (H.trans (congrArg some hr_.out)) (by simp)
            ·rw [if_neg c36] at H
             have c36b0 : (t316 == 0) = false := beq_eq_false_iff_ne.mpr c36
             have c36b1 : (t316 != 0) = true := bne_iff_ne.mpr c36
             replace H := Option.bind_eq_some_iff.mp H
             obtain ⟨t319, A370, H⟩ := H
             replace H : (some t319) = some r := H
             have A37 := Aside0.mk A370
             clear A370
             obtain rfl := Option.some.inj H
             have q38 : ((ji32) : Int) ≤ ((t289.length : Int) : Int) := of_decide_eq_true (by first | (with_reducible assumption) | assumption)
             obtain ⟨i038, hi038, _, hsz38, _⟩ := info_parts info5
             have hroom38 : t289.length ≤ co21 := (Kd.R_reads' HO_7.out).2.1
             have hC38 : Kd.C (Kd.int .u8) _ Ao21 t289.length t289 := (Kd.R_reads' HO_7.out).2.2
             have hcut38 := cut_to (P := Try.prog) 26 5 .i64 Try.underlying26 hi038 Ao21 t289.length co21 (ji32) (of_decide_eq_true (by first | (with_reducible assumption) | assumption)) q38 hroom38
             have hr38 := Kd.C_take (m := ((ji32) : Int).toNat) hC38 (by omega)
             have hy38 : y310.length = ((ji32) : Int).toNat := (by rw [Ny310.out, List.length_take]; omega)
             rw [← Ny310.out] at hr38
             rw [← hy38] at hcut38
             have HR313 := Aside0.mk hr38
             have HC313 := Aside0.mk (show y310.length ≤ co21 from by omega)
             clear hr38 hC38 hroom38 hi038 hsz38
             have KY38 := Aside0.mk hy38
             clear hy38
             have KL38 := Aside0.mk (show ((ji32) : Int).toNat ≤ t289.length from by omega)
             replace q38 := eq_true q38
             go_wp2_with (first | ((with_reducible refine gate_callee (f := 32) rfl ?_); refine goesL_ (some 78) rfl rfl Try.func32 (by kernel_rfl) rfl #[.slice Ao21 y310.length co21, .int .i64 0, .int .i64 (l0.length : Int)] rfl (by (try simp only [List.map_toArray, List.map_cons, List.map_nil]); first | done | rfl | (simp only [List.length_drop, List.length_take]; rfl)) ?_; (with_reducible refine (delta_Decode.calls kj14 _ _ y310 0 (l0.length : Int) t314 t315 t316 _ ?side1 ?side2 A35.out).mono ?_); (case side1 => repeat (first | exact (by repeat (first | (with_reducible exact HR313.out) | (with_reducible refine Kd.C_alloc ?_ _) | (with_reducible refine Kd.C_drewN ?_ _) | (with_reducible refine Kd.C_drew ?_) | exact HR313.out)) | (with_reducible refine Kd.C_alloc ?_ _) | (with_reducible refine Kd.C_drewN ?_ _) | (with_reducible refine Kd.C_drew ?_))); (case side2 => exact HC313.out); rintro e w39 ⟨v317, rfl, ho0, hb⟩; refine ⟨_, rfl, ?_⟩; have n0_ := Aside0.mk (Kd.R_below (by (with_reducible repeat (first | apply Kd.R_alloc | apply Kd.R_drewN | apply Kd.R_drew)); exact HO_7.out) hb); have n1_ := Aside0.mk (Kd.R_lower ho0 (below_size (by repeat (first | (with_reducible first | exact HB.out | apply below_alloc | apply pw_below_drewN | apply below_drew1) | exact HB.out)))); have n2_ := Aside0.mk (Kd.C_below (by repeat (first | (with_reducible exact HR313.out) | (with_reducible refine Kd.C_alloc ?_ _) | (with_reducible refine Kd.C_drewN ?_ _) | (with_reducible refine Kd.C_drew ?_) | exact HR313.out)) hb); have n3_ := Aside0.mk (below_step (by repeat (first | (with_reducible first | exact HB.out | apply below_alloc | apply pw_below_drewN | apply below_drew1) | exact HB.out)) hb); clear HO_7; clear HR313; clear HB; have HO_7 := n0_; have HO318 := n1_; have HR313 := n2_; have HB := n3_; clear n0_ n1_ n2_ n3_; (try clear hb); (try clear hb2); (try clear hk); (try clear hi); (try clear ho0)) | (go_at_call 30; (with_reducible refine (laminalaw09_lives.calls kj14  t319 _ A37.out).mono ?_); rintro e w40 ⟨rfl, hb⟩; have n0_ := Aside0.mk (Kd.R_below (by (with_reducible repeat (first | apply Kd.R_alloc | apply Kd.R_drewN | apply Kd.R_drew)); exact HO_7.out) hb); have n1_ := Aside0.mk (Kd.R_below (by (with_reducible repeat (first | apply Kd.R_alloc | apply Kd.R_drewN | apply Kd.R_drew)); exact HO318.out) hb); have n2_ := Aside0.mk (Kd.C_below (by repeat (first | (with_reducible exact HR313.out) | (with_reducible refine Kd.C_alloc ?_ _) | (with_reducible refine Kd.C_drewN ?_ _) | (with_reducible refine Kd.C_drew ?_) | exact HR313.out)) hb); have n3_ := Aside0.mk (below_step (by repeat (first | (with_reducible first | exact HB.out | apply below_alloc | apply pw_below_drewN | apply below_drew1) | exact HB.out)) hb); clear HO_7; clear HO318; clear HR313; clear HB; have HO_7 := n0_; have HO318 := n1_; have HR313 := n2_; have HB := n3_; clear n0_ n1_ n2_ n3_; (try clear hb); (try clear hb2); (try clear hk); (try clear hi)))
             go_ret
             exact ⟨by first | rfl | (simp [errW_none, errW_some] <;> rfl) | (simp only [← hji32]; first | rfl | (simp [errW_none, errW_some] <;> rfl)) | (simp [*, errW_none, errW_some] <;> rfl), by repeat (first | (with_reducible first | exact HB.out | apply below_alloc | apply pw_below_drewN | apply below_drew1) | exact HB.out)⟩
           ·rw [if_neg c34] at H
            exact absurd H (by simp)
          ·rw [if_neg c33] at H
           exact absurd H (by simp)
      ·rw [if_neg c13] at H
       exact absurd H (by simp)
     ·rw [if_neg c12] at H
      exact absurd H (by simp)
    ·rw [if_neg c11] at H
     exact absurd H (by simp)

/-- THE ONE PURE STATEMENT of laminalaw09_DeltaRoundTrip: yours. -/
def laminalaw09_DeltaRoundTrip.Pure : Prop := ∀ (l0 : List Int) (l1 : List Int) (l2 : List Int), l0.length ≤ maxLen → l0.length * 8 ≤ 140737488351232 → (∀ x ∈ l0, (Lit.int .i64 x).wf = true) → l1.length ≤ maxLen → l1.length * 1 ≤ 140737488351232 → (∀ x ∈ l1, (Lit.int .u8 x).wf = true) → l2.length ≤ maxLen → l2.length * 1 ≤ 140737488351232 → (∀ x ∈ l2, (Lit.int .u8 x).wf = true) → ∃ k, laminalaw09_DeltaRoundTrip.f k l0 l1 l2 = some true
theorem laminalaw09_DeltaRoundTrip.walk (P : laminalaw09_DeltaRoundTrip.Pure) (a0 : Option Addr) (len0 cap0 : Nat) (z0 : List Int) (a1 : Option Addr) (len1 cap1 : Nat) (z1 : List Int) (a2 : Option Addr) (len2 cap2 : Nat) (z2 : List Int) (w : World) (w0 : (a0 = none ∧ len0 = 0 ∧ cap0 = 0 ∧ z0 = []) ∨ ∃ x, a0 = some x ∧ len0 ≤ cap0 ∧ cap0 ≤ maxLen ∧ z0.length = cap0 ∧ (∀ i, i < z0.length → w.cell? (x.add i) = some (.int .i64 (z0.getD i 0))) ∧ ∀ n ∈ z0, (Lit.int .i64 n).wf = true) (y0 : len0 * 8 ≤ 140737488351232) (w1 : (a1 = none ∧ len1 = 0 ∧ cap1 = 0 ∧ z1 = []) ∨ ∃ x, a1 = some x ∧ len1 ≤ cap1 ∧ cap1 ≤ maxLen ∧ z1.length = cap1 ∧ (∀ i, i < z1.length → w.cell? (x.add i) = some (.int .u8 (z1.getD i 0))) ∧ ∀ n ∈ z1, (Lit.int .u8 n).wf = true) (y1 : len1 * 1 ≤ 140737488351232) (w2 : (a2 = none ∧ len2 = 0 ∧ cap2 = 0 ∧ z2 = []) ∨ ∃ x, a2 = some x ∧ len2 ≤ cap2 ∧ cap2 ≤ maxLen ∧ z2.length = cap2 ∧ (∀ i, i < z2.length → w.cell? (x.add i) = some (.int .u8 (z2.getD i 0))) ∧ ∀ n ∈ z2, (Lit.int .u8 n).wf = true) (y2 : len2 * 1 ≤ 140737488351232) :
  Calls Try.prog 5 #[.slice a0 len0 cap0, .slice a1 len1 cap1, .slice a2 len2 cap2] w fun e w' => e = .returned (.bool true) ∧ Below w.heap.size w w' := by
 obtain ⟨l0, rfl, hr0, hm0, hw0, hc0⟩ := ReadsInt.ofRowC w0
 obtain ⟨l1, rfl, hr1, hm1, hw1, hc1⟩ := ReadsInt.ofRowC w1
 obtain ⟨l2, rfl, hr2, hm2, hw2, hc2⟩ := ReadsInt.ofRowC w2
 obtain ⟨k, h⟩ := P l0 l1 l2 hm0 y0 hw0 hm1 y1 hw1 hm2 y2 hw2
 refine (laminalaw09_DeltaRoundTrip.calls k _ _ l0 _ _ l1 _ _ l2 true w (Kd.C_of_reads (d := (0 : Int)) (h1 := fun _ => rfl) hr0) hc0 (Kd.C_of_reads (d := (0 : Int)) (h1 := fun _ => rfl) hr1) hc1 (Kd.C_of_reads (d := (0 : Int)) (h1 := fun _ => rfl) hr2) hc2 h rfl).mono ?_
 rintro e w' ⟨rfl, hd⟩
 exact ⟨rfl, hd⟩

end Go.Proofs.Ytllhbjkkoogeeaa.QDeltaRoundTrip
