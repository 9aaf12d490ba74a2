-- Written by a program of this session (wip/pr2.sh): the walk of the Go text, function by function.
import Derived.Test.YtllhbjkkoogeeaaQDeltaDecodex0
import Derived.Test.YtllhbjkkoogeeaaQDeltaDecodex9
import Derived.Test.YtllhbjkkoogeeaaQDeltaDecodex11
namespace Go.Proofs.Ytllhbjkkoogeeaa.QDeltaDecode
open Go.RowKit Go.Proofs.YtllhbjkkoogeeaaW.PrintWords Go.Proofs.YtllhbjkkoogeeaaW.PrintLast Go.Proofs.YtllhbjkkoogeeaaW.PrintMore
open Go.Proofs.YtllhbjkkoogeeaaM
attribute [local go_sem] max2_int min2_int max_two min_two max_three min_three max_four min_four   -- for this text's walks alone
set_option linter.unusedVariables false
set_option linter.unusedSimpArgs false

/-! ### laminaref08_Decode: function 37 -/
mutual
def laminaref08_Decode.j0 : Nat → List Int → Int → Int → Bool → Option (List Int × Int × Int)
 | 0, _, _, _, _ => none
 | k + 1, x0, x1, x2, x38 => if x38 = true then (some (([] : List Int), 0, 1)) else ((laminaref01_Decode.f k x0 x1).bind fun bt366 => (if bt366.2.2 = 0 then ((laminaref01_Decode.f k x0 bt366.2.1).bind fun bt369 => (if bt369.2.2 = 0 then (if bt369.1 > 64 then (some (([] : List Int), 0, 4)) else ((laminaref01_Decode.f k x0 bt369.2.1).bind fun bt372 => (if bt372.2.2 = 0 then (if bt372.1 > (IntKind.u64.wrap (x2)) then (some (([] : List Int), 0, 4)) else ((laminaref06_Size.f x2 (wrap64 (bt369.1))).bind fun t375 => (if (wrap64 ((x0.length : Int) - bt372.2.1)) < t375 then (some (([] : List Int), 0, 2)) else (laminaref08_Decode.l0 k x0 x1 x2 bt366.1 bt372.2.1 bt369.1 bt372.1 t375 ([] : List Int) 0)))) else (some (([] : List Int), 0, bt372.2.2))))) else (some (([] : List Int), 0, bt369.2.2)))) else (some (([] : List Int), 0, bt366.2.2))))
def laminaref08_Decode.l0 : Nat → List Int → Int → Int → Int → Int → Int → Int → Int → List Int → Int → Option (List Int × Int × Int)
 | 0, _, _, _, _, _, _, _, _, _, _ => none
 | k + 1, x0, x1, x2, x9, x10, x12, x13, x14, x15, x16 => if x16 < x2 then (if 0 ≤ x10 then (if x10 ≤ (wrap64 (x10 + x14)) then (if (wrap64 (x10 + x14)) ≤ (x0.length : Int) then ((laminaref06_At.f k ((x0.take ((wrap64 (x10 + x14)) : Int).toNat).drop (x10 : Int).toNat) x16 (wrap64 (x12))).bind fun t377 => (if x15.length < 17592186044416 then (laminaref08_Decode.l0 k x0 x1 x2 x9 x10 x12 x13 x14 (x15 ++ [t377]) (wrap64 (x16 + 1))) else (none))) else (none)) else (none)) else (none)) else ((laminaref08_exceptions.f k x0 (wrap64 (x10 + x14)) (wrap64 (x13)) (wrap64 (x12)) x15).bind fun bt381 => (if bt381.2.1 = 0 then ((laminaref01_UnZigZag.f x9).bind fun t384 => (laminaref08_Decode.l1 k x0 x1 x2 bt381.2.2 bt381.1 (IntKind.u64.wrap (t384)) ([] : List Int) 0)) else (some (([] : List Int), 0, bt381.2.1))))
def laminaref08_Decode.l1 : Nat → List Int → Int → Int → List Int → Int → Int → List Int → Int → Option (List Int × Int × Int)
 | 0, _, _, _, _, _, _, _, _ => none
 | k + 1, x0, x1, x2, x15, x17, x18, x19, x20 => if x20 < x2 then (if 0 ≤ x20 then (if x20 < (x15.length : Int) then (if x19.length < 17592186044416 then (laminaref08_Decode.l1 k x0 x1 x2 x15 x17 x18 (x19 ++ [wrap64 (IntKind.u64.wrap (x18 + (rd x15 x20)))]) (wrap64 (x20 + 1))) else (none)) else (none)) else (none)) else ((laminaref08_Encode.f k x19).bind fun t389 => (if (t389.length : Int) = (wrap64 (x17 - x1)) then (laminaref08_Decode.l2 k x0 x1 x17 x19 t389 0) else (some (([] : List Int), 0, 4))))
def laminaref08_Decode.l2 : Nat → List Int → Int → Int → List Int → List Int → Int → Option (List Int × Int × Int)
 | 0, _, _, _, _, _, _ => none
 | k + 1, x0, x1, x17, x19, x21, x22 => if x22 < (x21.length : Int) then (if 0 ≤ x22 then (if 0 ≤ (wrap64 (x1 + x22)) then (if (wrap64 (x1 + x22)) < (x0.length : Int) then (if (rd x21 x22) = (rd x0 (wrap64 (x1 + x22))) then (laminaref08_Decode.l2 k x0 x1 x17 x19 x21 (wrap64 (x22 + 1))) else (some (([] : List Int), 0, 4))) else (none)) else (none)) else (none)) else (some (x19, x17, 0))
end
def laminaref08_Decode.f (k : Nat) (l0 : List Int) (a1 : Int) (a2 : Int) : Option (List Int × Int × Int) := if a1 < 0 then (laminaref08_Decode.j0 k l0 a1 a2 true) else (if a1 > (l0.length : Int) then (laminaref08_Decode.j0 k l0 a1 a2 true) else (if a2 < 0 then (laminaref08_Decode.j0 k l0 a1 a2 true) else (laminaref08_Decode.j0 k l0 a1 a2 (decide (a2 > 65536)))))
theorem laminaref08_Decode.mono_l : ∀ k, (∀ y0 y1 y2 y3, LeO (laminaref08_Decode.j0 k y0 y1 y2 y3) (laminaref08_Decode.j0 (k + 1) y0 y1 y2 y3)) ∧ (∀ y0 y1 y2 y3 y4 y5 y6 y7 y8 y9, LeO (laminaref08_Decode.l0 k y0 y1 y2 y3 y4 y5 y6 y7 y8 y9) (laminaref08_Decode.l0 (k + 1) y0 y1 y2 y3 y4 y5 y6 y7 y8 y9)) ∧ (∀ y0 y1 y2 y3 y4 y5 y6 y7, LeO (laminaref08_Decode.l1 k y0 y1 y2 y3 y4 y5 y6 y7) (laminaref08_Decode.l1 (k + 1) y0 y1 y2 y3 y4 y5 y6 y7)) ∧ (∀ y0 y1 y2 y3 y4 y5, LeO (laminaref08_Decode.l2 k y0 y1 y2 y3 y4 y5) (laminaref08_Decode.l2 (k + 1) y0 y1 y2 y3 y4 y5))
 | 0 => ⟨fun _ _ _ _ r h => by simp [laminaref08_Decode.j0] at h, fun _ _ _ _ _ _ _ _ _ _ r h => by simp [laminaref08_Decode.l0] at h, fun _ _ _ _ _ _ _ _ r h => by simp [laminaref08_Decode.l1] at h, fun _ _ _ _ _ _ r h => by simp [laminaref08_Decode.l2] at h⟩
 | k + 1 => by
  obtain ⟨ih0, ih1, ih2, ih3⟩ := laminaref08_Decode.mono_l k
  refine ⟨?_, ?_, ?_, ?_⟩
  ·intro y0 y1 y2 y3
   unfold laminaref08_Decode.j0
   repeat' first
   | (with_reducible exact ih0 _ _ _ _)
   | (with_reducible exact ih1 _ _ _ _ _ _ _ _ _ _)
   | (with_reducible exact ih2 _ _ _ _ _ _ _ _)
   | (with_reducible exact ih3 _ _ _ _ _ _)
   | (with_reducible exact laminaref01_Decode.mono _ _ _)
   | (with_reducible exact laminaref06_At.mono _ _ _ _)
   | (with_reducible exact laminaref08_Encode.mono _ _)
   | (with_reducible exact laminaref08_exceptions.mono _ _ _ _ _ _)
   | (with_reducible exact LeO.refl _)
   | (with_reducible exact LeO.none _)
   | (with_reducible refine LeO.ite ?_ ?_)
   | (with_reducible refine LeO.bind ?_ (fun _ => ?_))
   | exact ih0 _ _ _ _
   | exact ih1 _ _ _ _ _ _ _ _ _ _
   | exact ih2 _ _ _ _ _ _ _ _
   | exact ih3 _ _ _ _ _ _
   | exact laminaref01_Decode.mono _ _ _
   | exact laminaref06_At.mono _ _ _ _
   | exact laminaref08_Encode.mono _ _
   | exact laminaref08_exceptions.mono _ _ _ _ _ _
   | exact LeO.none _
   | refine LeO.ite ?_ ?_
   | refine LeO.bind ?_ (fun _ => ?_)
  ·intro y0 y1 y2 y3 y4 y5 y6 y7 y8 y9
   unfold laminaref08_Decode.l0
   repeat' first
   | (with_reducible exact ih0 _ _ _ _)
   | (with_reducible exact ih1 _ _ _ _ _ _ _ _ _ _)
   | (with_reducible exact ih2 _ _ _ _ _ _ _ _)
   | (with_reducible exact ih3 _ _ _ _ _ _)
   | (with_reducible exact laminaref01_Decode.mono _ _ _)
   | (with_reducible exact laminaref06_At.mono _ _ _ _)
   | (with_reducible exact laminaref08_Encode.mono _ _)
   | (with_reducible exact laminaref08_exceptions.mono _ _ _ _ _ _)
   | (with_reducible exact LeO.refl _)
   | (with_reducible exact LeO.none _)
   | (with_reducible refine LeO.ite ?_ ?_)
   | (with_reducible refine LeO.bind ?_ (fun _ => ?_))
   | exact ih0 _ _ _ _
   | exact ih1 _ _ _ _ _ _ _ _ _ _
   | exact ih2 _ _ _ _ _ _ _ _
   | exact ih3 _ _ _ _ _ _
   | exact laminaref01_Decode.mono _ _ _
   | exact laminaref06_At.mono _ _ _ _
   | exact laminaref08_Encode.mono _ _
   | exact laminaref08_exceptions.mono _ _ _ _ _ _
   | exact LeO.none _
   | refine LeO.ite ?_ ?_
   | refine LeO.bind ?_ (fun _ => ?_)
  ·intro y0 y1 y2 y3 y4 y5 y6 y7
   unfold laminaref08_Decode.l1
   repeat' first
   | (with_reducible exact ih0 _ _ _ _)
   | (with_reducible exact ih1 _ _ _ _ _ _ _ _ _ _)
   | (with_reducible exact ih2 _ _ _ _ _ _ _ _)
   | (with_reducible exact ih3 _ _ _ _ _ _)
   | (with_reducible exact laminaref01_Decode.mono _ _ _)
   | (with_reducible exact laminaref06_At.mono _ _ _ _)
   | (with_reducible exact laminaref08_Encode.mono _ _)
   | (with_reducible exact laminaref08_exceptions.mono _ _ _ _ _ _)
   | (with_reducible exact LeO.refl _)
   | (with_reducible exact LeO.none _)
   | (with_reducible refine LeO.ite ?_ ?_)
   | (with_reducible refine LeO.bind ?_ (fun _ => ?_))
   | exact ih0 _ _ _ _
   | exact ih1 _ _ _ _ _ _ _ _ _ _
   | exact ih2 _ _ _ _ _ _ _ _
   | exact ih3 _ _ _ _ _ _
   | exact laminaref01_Decode.mono _ _ _
   | exact laminaref06_At.mono _ _ _ _
   | exact laminaref08_Encode.mono _ _
   | exact laminaref08_exceptions.mono _ _ _ _ _ _
   | exact LeO.none _
   | refine LeO.ite ?_ ?_
   | refine LeO.bind ?_ (fun _ => ?_)
  ·intro y0 y1 y2 y3 y4 y5
   unfold laminaref08_Decode.l2
   repeat' first
   | (with_reducible exact ih0 _ _ _ _)
   | (with_reducible exact ih1 _ _ _ _ _ _ _ _ _ _)
   | (with_reducible exact ih2 _ _ _ _ _ _ _ _)
   | (with_reducible exact ih3 _ _ _ _ _ _)
   | (with_reducible exact laminaref01_Decode.mono _ _ _)
   | (with_reducible exact laminaref06_At.mono _ _ _ _)
   | (with_reducible exact laminaref08_Encode.mono _ _)
   | (with_reducible exact laminaref08_exceptions.mono _ _ _ _ _ _)
   | (with_reducible exact LeO.refl _)
   | (with_reducible exact LeO.none _)
   | (with_reducible refine LeO.ite ?_ ?_)
   | (with_reducible refine LeO.bind ?_ (fun _ => ?_))
   | exact ih0 _ _ _ _
   | exact ih1 _ _ _ _ _ _ _ _ _ _
   | exact ih2 _ _ _ _ _ _ _ _
   | exact ih3 _ _ _ _ _ _
   | exact laminaref01_Decode.mono _ _ _
   | exact laminaref06_At.mono _ _ _ _
   | exact laminaref08_Encode.mono _ _
   | exact laminaref08_exceptions.mono _ _ _ _ _ _
   | exact LeO.none _
   | refine LeO.ite ?_ ?_
   | refine LeO.bind ?_ (fun _ => ?_)
theorem laminaref08_Decode.mono : ∀ a0 a1 a2 k, LeO (laminaref08_Decode.f k a0 a1 a2) (laminaref08_Decode.f (k + 1) a0 a1 a2) := by
 intro a0 a1 a2 k
 obtain ⟨ih0, ih1, ih2, ih3⟩ := laminaref08_Decode.mono_l k
 unfold laminaref08_Decode.f
 repeat' first
   | (with_reducible exact ih0 _ _ _ _)
   | (with_reducible exact ih1 _ _ _ _ _ _ _ _ _ _)
   | (with_reducible exact ih2 _ _ _ _ _ _ _ _)
   | (with_reducible exact ih3 _ _ _ _ _ _)
   | (with_reducible exact laminaref01_Decode.mono _ _ _)
   | (with_reducible exact laminaref06_At.mono _ _ _ _)
   | (with_reducible exact laminaref08_Encode.mono _ _)
   | (with_reducible exact laminaref08_exceptions.mono _ _ _ _ _ _)
   | (with_reducible exact LeO.refl _)
   | (with_reducible exact LeO.none _)
   | (with_reducible refine LeO.ite ?_ ?_)
   | (with_reducible refine LeO.bind ?_ (fun _ => ?_))
   | exact ih0 _ _ _ _
   | exact ih1 _ _ _ _ _ _ _ _ _ _
   | exact ih2 _ _ _ _ _ _ _ _
   | exact ih3 _ _ _ _ _ _
   | exact laminaref01_Decode.mono _ _ _
   | exact laminaref06_At.mono _ _ _ _
   | exact laminaref08_Encode.mono _ _
   | exact laminaref08_exceptions.mono _ _ _ _ _ _
   | exact LeO.none _
   | refine LeO.ite ?_ ?_
   | refine LeO.bind ?_ (fun _ => ?_)
set_option maxHeartbeats 8000000 in
set_option maxRecDepth 100000 in
theorem laminaref08_Decode.calls (k : Nat) (A0 : Option Addr) (c0 : Nat) (l0 : List Int) (a1 : Int) (a2 : Int) (r1 : List Int) (r2 : Int) (r3 : Int) (w : World) (hr0 : Kd.C (Kd.int .u8) w A0 l0.length l0) (hc0 : l0.length ≤ c0) (h : laminaref08_Decode.f k l0 a1 a2 = some (r1, r2, r3)) :
  Calls Try.prog 37 #[.slice A0 l0.length c0, .int .i64 a1, .int .i64 a2] w fun e w' => ∃ v0_ : Value, e = .returned (.tuple #[v0_, .int .i64 r2, .int .i64 r3]) ∧ Kd.R (Kd.int .i64) 2 w' w.heap.size (fun _ => True) v0_ r1 ∧ Below w.heap.size w w' := by
 have HR0 := Aside0.mk hr0
 have HC0 := Aside0.mk hc0
 clear hr0 hc0
 have HB := Aside0.mk (Below.refl w.heap.size w)
 have H : (if a1 < 0 then (laminaref08_Decode.j0 k l0 a1 a2 true) else (if a1 > (l0.length : Int) then (laminaref08_Decode.j0 k l0 a1 a2 true) else (if a2 < 0 then (laminaref08_Decode.j0 k l0 a1 a2 true) else (laminaref08_Decode.j0 k l0 a1 a2 (decide (a2 > 65536)))))) = some (r1, r2, r3) := h
 clear h
 have HC4 := Aside0.mk H
 clear H
 go_enter Try.func37, Try.ntmps37
 go_upto_region 1 with (fail)
 repeat (go_quiet (fail); go_upto_region 1 with (fail))
 go_cut [38] (fun v38 wc => ∃ (kq : Nat) (x38_3 : Bool), v38 = .bool x38_3 ∧ Aside0 (laminaref08_Decode.j0 kq l0 a1 a2 x38_3 = some (r1, r2, r3)) ∧ Aside0 (kq ≤ k) ∧ Aside0 (Below w.heap.size w wc))
 case first =>
  have H := HC4.out
  clear HC4
  by_cases c5 : a1 < 0
  ·rw [if_pos c5] at H
   have c5b0 : decide (a1 < 0) = true := decide_eq_true c5
   clear c5
   (first | rw [c5b0] | (simp only [i64_w, i32_w]; rw [c5b0]) | skip)
   have H' := Aside0.mk H
   clear H
   go_wp2
   repeat (go_quiet (fail); try go_wp2)
   go_meet
   case rel => exact ⟨_, (true), fr_, H', ⟨by first | omega | exact Nat.le_refl _⟩, ⟨by repeat (first | (with_reducible first | exact HB.out | apply below_alloc | apply pw_below_drewN | apply below_drew1) | exact HB.out)⟩⟩
  ·rw [if_neg c5] at H
   have c5b0 : decide (a1 < 0) = false := decide_eq_false c5
   clear c5
   (first | rw [c5b0] | (simp only [i64_w, i32_w]; rw [c5b0]) | skip)
   by_cases c6 : a1 > (l0.length : Int)
   ·rw [if_pos c6] at H
    have c6b0 : decide ((l0.length : Int) < a1) = true := decide_eq_true c6
    clear c6
    have H' := Aside0.mk H
    clear H
    go_wp2
    repeat (go_quiet (fail); try go_wp2)
    go_meet
    case rel => exact ⟨_, (true), fr_, H', ⟨by first | omega | exact Nat.le_refl _⟩, ⟨by repeat (first | (with_reducible first | exact HB.out | apply below_alloc | apply pw_below_drewN | apply below_drew1) | exact HB.out)⟩⟩
   ·rw [if_neg c6] at H
    have c6b0 : decide ((l0.length : Int) < a1) = false := decide_eq_false c6
    clear c6
    by_cases c7 : a2 < 0
    ·rw [if_pos c7] at H
     have c7b0 : decide (a2 < 0) = true := decide_eq_true c7
     clear c7
     have H' := Aside0.mk H
     clear H
     go_wp2
     repeat (go_quiet (fail); try go_wp2)
     go_meet
     case rel => exact ⟨_, (true), fr_, H', ⟨by first | omega | exact Nat.le_refl _⟩, ⟨by repeat (first | (with_reducible first | exact HB.out | apply below_alloc | apply pw_below_drewN | apply below_drew1) | exact HB.out)⟩⟩
    ·rw [if_neg c7] at H
     have c7b0 : decide (a2 < 0) = false := decide_eq_false c7
     clear c7
     have H' := Aside0.mk H
     clear H
     go_wp2
     repeat (go_quiet (fail); try go_wp2)
     go_meet
     case rel => exact ⟨_, (decide (a2 > 65536)), fr_, H', ⟨by first | omega | exact Nat.le_refl _⟩, ⟨by repeat (first | (with_reducible first | exact HB.out | apply below_alloc | apply pw_below_drewN | apply below_drew1) | exact HB.out)⟩⟩
 case rest =>
  clear HC4
  try clear p2
  try clear c3
  try clear c5
  try clear c5b0
  try clear c6
  try clear c6b0
  try clear c7
  try clear c7b0
  obtain ⟨kq, x38_3, rfl, HA, HJ3, HB⟩ := hcut
  cases kq with
  | zero => exact absurd HA.out (by simp [laminaref08_Decode.j0])
  | succ kj3 =>
   have H := HA.out
   clear HA
   simp only [laminaref08_Decode.j0] at H
   by_cases c8 : x38_3 = true
   ·subst c8
    have H1 : (some (([] : List Int), 0, 1)) = some (r1, r2, r3) := by rw [if_pos rfl] at H; exact H
    clear H
    have H := H1
    clear H1
    simp only [Option.some.injEq, Prod.mk.injEq] at H
    obtain ⟨rfl, rfl, rfl⟩ := H
    go_wp2
    repeat (go_quiet (fail); try go_wp2)
    go_ret3
    exact ⟨_, er_, by first | exact Kd.R_nil _ _ _ _ _ | exact Kd.N_nil _ _ _ _ _ | exact Kd.V_nil _ _ _ _ _ | exact Kd.Q_nil _ _ _ _ _ | exact Kd.S_nil _ _ _ _ _, by repeat (first | (with_reducible first | exact HB.out | apply below_alloc | apply pw_below_drewN | apply below_drew1) | exact HB.out)⟩
   ·replace c8 := Bool.eq_false_iff.mpr c8
    subst c8
    have H1 : ((laminaref01_Decode.f kj3 l0 a1).bind fun bt366 => (if bt366.2.2 = 0 then ((laminaref01_Decode.f kj3 l0 bt366.2.1).bind fun bt369 => (if bt369.2.2 = 0 then (if bt369.1 > 64 then (some (([] : List Int), 0, 4)) else ((laminaref01_Decode.f kj3 l0 bt369.2.1).bind fun bt372 => (if bt372.2.2 = 0 then (if bt372.1 > (IntKind.u64.wrap (a2)) then (some (([] : List Int), 0, 4)) else ((laminaref06_Size.f a2 (wrap64 (bt369.1))).bind fun t375 => (if (wrap64 ((l0.length : Int) - bt372.2.1)) < t375 then (some (([] : List Int), 0, 2)) else (laminaref08_Decode.l0 kj3 l0 a1 a2 bt366.1 bt372.2.1 bt369.1 bt372.1 t375 ([] : List Int) 0)))) else (some (([] : List Int), 0, bt372.2.2))))) else (some (([] : List Int), 0, bt369.2.2)))) else (some (([] : List Int), 0, bt366.2.2)))) = some (r1, r2, r3) := by rw [if_neg (show ¬ (false = true) by decide)] at H; exact H
    clear H
    have H := H1
    clear H1
    replace H := Option.bind_eq_some_iff.mp H
    obtain ⟨⟨t366, t367, t368⟩, A90, H⟩ := H
    try dsimp only at H
    have A9 := Aside0.mk A90
    clear A90
    by_cases c10 : t368 = 0
    ·rw [if_pos c10] at H
     have c10b0 : (t368 == 0) = true := beq_iff_eq.mpr c10
     have c10b1 : (t368 != 0) = false := bne_eq_false_iff_eq.mpr c10
     clear c10
     replace H := Option.bind_eq_some_iff.mp H
     obtain ⟨⟨t369, t370, t371⟩, A110, H⟩ := H
     try dsimp only at H
     have A11 := Aside0.mk A110
     clear A110
     by_cases c12 : t371 = 0
     ·rw [if_pos c12] at H
      have c12b0 : (t371 == 0) = true := beq_iff_eq.mpr c12
      have c12b1 : (t371 != 0) = false := bne_eq_false_iff_eq.mpr c12
      clear c12
      by_cases c13 : t369 > 64
      ·rw [if_pos c13] at H
       have c13b0 : decide (64 < t369) = true := decide_eq_true c13
       clear c13
       simp only [Option.some.injEq, Prod.mk.injEq] at H
       obtain ⟨rfl, rfl, rfl⟩ := H
       go_wp2_with (first | (go_at_call 70; (with_reducible refine (laminaref01_Decode.calls kj3 _ _ l0 a1 t366 t367 t368 _ ?side1 ?side2 A9.out).mono ?_); (case side1 => exact ca_ (Kd.C_below HR0.out HB.out)); (case side2 => exact HC0.out); rintro e w' ⟨rfl, ⟨nd, rfl⟩⟩; (try first | exact ⟨rfl, _, World.drewN_drewN _ _ _⟩ | exact ⟨rfl, _, Eq.trans (World.drewN_drewN _ _ _) (congrArg (World.drewN _) (Nat.add_assoc _ _ _))⟩)) | (go_at_call 70; (with_reducible refine (laminaref01_Decode.calls kj3 _ _ l0 t367 t369 t370 t371 _ ?side1 ?side2 A11.out).mono ?_); (case side1 => repeat (first | exact (Kd.C_below HR0.out (bb_ HB)) | (with_reducible refine Kd.C_alloc ?_ _) | (with_reducible refine Kd.C_drewN ?_ _) | (with_reducible refine Kd.C_drew ?_))); (case side2 => exact HC0.out); rintro e w' ⟨rfl, ⟨nd, rfl⟩⟩; (try first | exact ⟨rfl, _, World.drewN_drewN _ _ _⟩ | exact ⟨rfl, _, Eq.trans (World.drewN_drewN _ _ _) (congrArg (World.drewN _) (Nat.add_assoc _ _ _))⟩)))
       repeat (go_quiet (first | (go_at_call 70; (with_reducible refine (laminaref01_Decode.calls kj3 _ _ l0 a1 t366 t367 t368 _ ?side1 ?side2 A9.out).mono ?_); (case side1 => exact ca_ (Kd.C_below HR0.out HB.out)); (case side2 => exact HC0.out); rintro e w' ⟨rfl, ⟨nd, rfl⟩⟩; (try first | exact ⟨rfl, _, World.drewN_drewN _ _ _⟩ | exact ⟨rfl, _, Eq.trans (World.drewN_drewN _ _ _) (congrArg (World.drewN _) (Nat.add_assoc _ _ _))⟩)) | (go_at_call 70; (with_reducible refine (laminaref01_Decode.calls kj3 _ _ l0 t367 t369 t370 t371 _ ?side1 ?side2 A11.out).mono ?_); (case side1 => repeat (first | exact (Kd.C_below HR0.out (bb_ HB)) | (with_reducible refine Kd.C_alloc ?_ _) | (with_reducible refine Kd.C_drewN ?_ _) | (with_reducible refine Kd.C_drew ?_))); (case side2 => exact HC0.out); rintro e w' ⟨rfl, ⟨nd, rfl⟩⟩; (try first | exact ⟨rfl, _, World.drewN_drewN _ _ _⟩ | exact ⟨rfl, _, Eq.trans (World.drewN_drewN _ _ _) (congrArg (World.drewN _) (Nat.add_assoc _ _ _))⟩))); try go_wp2_with (first | (go_at_call 70; (with_reducible refine (laminaref01_Decode.calls kj3 _ _ l0 a1 t366 t367 t368 _ ?side1 ?side2 A9.out).mono ?_); (case side1 => exact ca_ (Kd.C_below HR0.out HB.out)); (case side2 => exact HC0.out); rintro e w' ⟨rfl, ⟨nd, rfl⟩⟩; (try first | exact ⟨rfl, _, World.drewN_drewN _ _ _⟩ | exact ⟨rfl, _, Eq.trans (World.drewN_drewN _ _ _) (congrArg (World.drewN _) (Nat.add_assoc _ _ _))⟩)) | (go_at_call 70; (with_reducible refine (laminaref01_Decode.calls kj3 _ _ l0 t367 t369 t370 t371 _ ?side1 ?side2 A11.out).mono ?_); (case side1 => repeat (first | exact (Kd.C_below HR0.out (bb_ HB)) | (with_reducible refine Kd.C_alloc ?_ _) | (with_reducible refine Kd.C_drewN ?_ _) | (with_reducible refine Kd.C_drew ?_))); (case side2 => exact HC0.out); rintro e w' ⟨rfl, ⟨nd, rfl⟩⟩; (try first | exact ⟨rfl, _, World.drewN_drewN _ _ _⟩ | exact ⟨rfl, _, Eq.trans (World.drewN_drewN _ _ _) (congrArg (World.drewN _) (Nat.add_assoc _ _ _))⟩))))
       go_ret3
       exact ⟨_, er_, by first | exact Kd.R_nil _ _ _ _ _ | exact Kd.N_nil _ _ _ _ _ | exact Kd.V_nil _ _ _ _ _ | exact Kd.Q_nil _ _ _ _ _ | exact Kd.S_nil _ _ _ _ _, by repeat (first | (with_reducible first | exact HB.out | apply below_alloc | apply pw_below_drewN | apply below_drew1) | exact HB.out)⟩
      ·rw [if_neg c13] at H
       have c13b0 : decide (64 < t369) = false := decide_eq_false c13
       clear c13
       replace H := Option.bind_eq_some_iff.mp H
       obtain ⟨⟨t372, t373, t374⟩, A140, H⟩ := H
       try dsimp only at H
       have A14 := Aside0.mk A140
       clear A140
       by_cases c15 : t374 = 0
       ·rw [if_pos c15] at H
        have c15b0 : (t374 == 0) = true := beq_iff_eq.mpr c15
        have c15b1 : (t374 != 0) = false := bne_eq_false_iff_eq.mpr c15
        clear c15
        by_cases c16 : t372 > (IntKind.u64.wrap (a2))
        ·rw [if_pos c16] at H
         have c16b0 : decide ((IntKind.u64.wrap (a2)) < t372) = true := decide_eq_true c16
         clear c16
         simp only [Option.some.injEq, Prod.mk.injEq] at H
         obtain ⟨rfl, rfl, rfl⟩ := H
         go_wp2_with (first | (go_at_call 70; (with_reducible refine (laminaref01_Decode.calls kj3 _ _ l0 a1 t366 t367 t368 _ ?side1 ?side2 A9.out).mono ?_); (case side1 => exact ca_ (Kd.C_below HR0.out HB.out)); (case side2 => exact HC0.out); rintro e w' ⟨rfl, ⟨nd, rfl⟩⟩; (try first | exact ⟨rfl, _, World.drewN_drewN _ _ _⟩ | exact ⟨rfl, _, Eq.trans (World.drewN_drewN _ _ _) (congrArg (World.drewN _) (Nat.add_assoc _ _ _))⟩)) | (go_at_call 70; (with_reducible refine (laminaref01_Decode.calls kj3 _ _ l0 t367 t369 t370 t371 _ ?side1 ?side2 A11.out).mono ?_); (case side1 => repeat (first | exact (Kd.C_below HR0.out (bb_ HB)) | (with_reducible refine Kd.C_alloc ?_ _) | (with_reducible refine Kd.C_drewN ?_ _) | (with_reducible refine Kd.C_drew ?_))); (case side2 => exact HC0.out); rintro e w' ⟨rfl, ⟨nd, rfl⟩⟩; (try first | exact ⟨rfl, _, World.drewN_drewN _ _ _⟩ | exact ⟨rfl, _, Eq.trans (World.drewN_drewN _ _ _) (congrArg (World.drewN _) (Nat.add_assoc _ _ _))⟩)) | (go_at_call 70; (with_reducible refine (laminaref01_Decode.calls kj3 _ _ l0 t370 t372 t373 t374 _ ?side1 ?side2 A14.out).mono ?_); (case side1 => repeat (first | exact (Kd.C_below HR0.out (bb_ HB)) | (with_reducible refine Kd.C_alloc ?_ _) | (with_reducible refine Kd.C_drewN ?_ _) | (with_reducible refine Kd.C_drew ?_))); (case side2 => exact HC0.out); rintro e w' ⟨rfl, ⟨nd, rfl⟩⟩; (try first | exact ⟨rfl, _, World.drewN_drewN _ _ _⟩ | exact ⟨rfl, _, Eq.trans (World.drewN_drewN _ _ _) (congrArg (World.drewN _) (Nat.add_assoc _ _ _))⟩)))
         repeat (go_quiet (first | (go_at_call 70; (with_reducible refine (laminaref01_Decode.calls kj3 _ _ l0 a1 t366 t367 t368 _ ?side1 ?side2 A9.out).mono ?_); (case side1 => exact ca_ (Kd.C_below HR0.out HB.out)); (case side2 => exact HC0.out); rintro e w' ⟨rfl, ⟨nd, rfl⟩⟩; (try first | exact ⟨rfl, _, World.drewN_drewN _ _ _⟩ | exact ⟨rfl, _, Eq.trans (World.drewN_drewN _ _ _) (congrArg (World.drewN _) (Nat.add_assoc _ _ _))⟩)) | (go_at_call 70; (with_reducible refine (laminaref01_Decode.calls kj3 _ _ l0 t367 t369 t370 t371 _ ?side1 ?side2 A11.out).mono ?_); (case side1 => repeat (first | exact (Kd.C_below HR0.out (bb_ HB)) | (with_reducible refine Kd.C_alloc ?_ _) | (with_reducible refine Kd.C_drewN ?_ _) | (with_reducible refine Kd.C_drew ?_))); (case side2 => exact HC0.out); rintro e w' ⟨rfl, ⟨nd, rfl⟩⟩; (try first | exact ⟨rfl, _, World.drewN_drewN _ _ _⟩ | exact ⟨rfl, _, Eq.trans (World.drewN_drewN _ _ _) (congrArg (World.drewN _) (Nat.add_assoc _ _ _))⟩)) | (go_at_call 70; (with_reducible refine (laminaref01_Decode.calls kj3 _ _ l0 t370 t372 t373 t374 _ ?side1 ?side2 A14.out).mono ?_); (case side1 => repeat (first | exact (Kd.C_below HR0.out (bb_ HB)) | (with_reducible refine Kd.C_alloc ?_ _) | (with_reducible refine Kd.C_drewN ?_ _) | (with_reducible refine Kd.C_drew ?_))); (case side2 => exact HC0.out); rintro e w' ⟨rfl, ⟨nd, rfl⟩⟩; (try first | exact ⟨rfl, _, World.drewN_drewN _ _ _⟩ | exact ⟨rfl, _, Eq.trans (World.drewN_drewN _ _ _) (congrArg (World.drewN _) (Nat.add_assoc _ _ _))⟩))); try go_wp2_with (first | (go_at_call 70; (with_reducible refine (laminaref01_Decode.calls kj3 _ _ l0 a1 t366 t367 t368 _ ?side1 ?side2 A9.out).mono ?_); (case side1 => exact ca_ (Kd.C_below HR0.out HB.out)); (case side2 => exact HC0.out); rintro e w' ⟨rfl, ⟨nd, rfl⟩⟩; (try first | exact ⟨rfl, _, World.drewN_drewN _ _ _⟩ | exact ⟨rfl, _, Eq.trans (World.drewN_drewN _ _ _) (congrArg (World.drewN _) (Nat.add_assoc _ _ _))⟩)) | (go_at_call 70; (with_reducible refine (laminaref01_Decode.calls kj3 _ _ l0 t367 t369 t370 t371 _ ?side1 ?side2 A11.out).mono ?_); (case side1 => repeat (first | exact (Kd.C_below HR0.out (bb_ HB)) | (with_reducible refine Kd.C_alloc ?_ _) | (with_reducible refine Kd.C_drewN ?_ _) | (with_reducible refine Kd.C_drew ?_))); (case side2 => exact HC0.out); rintro e w' ⟨rfl, ⟨nd, rfl⟩⟩; (try first | exact ⟨rfl, _, World.drewN_drewN _ _ _⟩ | exact ⟨rfl, _, Eq.trans (World.drewN_drewN _ _ _) (congrArg (World.drewN _) (Nat.add_assoc _ _ _))⟩)) | (go_at_call 70; (with_reducible refine (laminaref01_Decode.calls kj3 _ _ l0 t370 t372 t373 t374 _ ?side1 ?side2 A14.out).mono ?_); (case side1 => repeat (first | exact (Kd.C_below HR0.out (bb_ HB)) | (with_reducible refine Kd.C_alloc ?_ _) | (with_reducible refine Kd.C_drewN ?_ _) | (with_reducible refine Kd.C_drew ?_))); (case side2 => exact HC0.out); rintro e w' ⟨rfl, ⟨nd, rfl⟩⟩; (try first | exact ⟨rfl, _, World.drewN_drewN _ _ _⟩ | exact ⟨rfl, _, Eq.trans (World.drewN_drewN _ _ _) (congrArg (World.drewN _) (Nat.add_assoc _ _ _))⟩))))
         go_ret3
         exact ⟨_, er_, by first | exact Kd.R_nil _ _ _ _ _ | exact Kd.N_nil _ _ _ _ _ | exact Kd.V_nil _ _ _ _ _ | exact Kd.Q_nil _ _ _ _ _ | exact Kd.S_nil _ _ _ _ _, by repeat (first | (with_reducible first | exact HB.out | apply below_alloc | apply pw_below_drewN | apply below_drew1) | exact HB.out)⟩
        ·rw [if_neg c16] at H
         have c16b0 : decide ((IntKind.u64.wrap (a2)) < t372) = false := decide_eq_false c16
         clear c16
         replace H := Option.bind_eq_some_iff.mp H
         obtain ⟨t375, A170, H⟩ := H
         try dsimp only at H
         have A17 := Aside0.mk A170
         clear A170
         by_cases c18 : (wrap64 ((l0.length : Int) - t373)) < t375
         ·rw [if_pos c18] at H
          have c18b0 : decide ((wrap64 ((l0.length : Int) - t373)) < t375) = true := decide_eq_true c18
          clear c18
          simp only [Option.some.injEq, Prod.mk.injEq] at H
          obtain ⟨rfl, rfl, rfl⟩ := H
          go_wp2_with (first | (go_at_call 70; (with_reducible refine (laminaref01_Decode.calls kj3 _ _ l0 a1 t366 t367 t368 _ ?side1 ?side2 A9.out).mono ?_); (case side1 => exact ca_ (Kd.C_below HR0.out HB.out)); (case side2 => exact HC0.out); rintro e w' ⟨rfl, ⟨nd, rfl⟩⟩; (try first | exact ⟨rfl, _, World.drewN_drewN _ _ _⟩ | exact ⟨rfl, _, Eq.trans (World.drewN_drewN _ _ _) (congrArg (World.drewN _) (Nat.add_assoc _ _ _))⟩)) | (go_at_call 70; (with_reducible refine (laminaref01_Decode.calls kj3 _ _ l0 t367 t369 t370 t371 _ ?side1 ?side2 A11.out).mono ?_); (case side1 => repeat (first | exact (Kd.C_below HR0.out (bb_ HB)) | (with_reducible refine Kd.C_alloc ?_ _) | (with_reducible refine Kd.C_drewN ?_ _) | (with_reducible refine Kd.C_drew ?_))); (case side2 => exact HC0.out); rintro e w' ⟨rfl, ⟨nd, rfl⟩⟩; (try first | exact ⟨rfl, _, World.drewN_drewN _ _ _⟩ | exact ⟨rfl, _, Eq.trans (World.drewN_drewN _ _ _) (congrArg (World.drewN _) (Nat.add_assoc _ _ _))⟩)) | (go_at_call 70; (with_reducible refine (laminaref01_Decode.calls kj3 _ _ l0 t370 t372 t373 t374 _ ?side1 ?side2 A14.out).mono ?_); (case side1 => repeat (first | exact (Kd.C_below HR0.out (bb_ HB)) | (with_reducible refine Kd.C_alloc ?_ _) | (with_reducible refine Kd.C_drewN ?_ _) | (with_reducible refine Kd.C_drew ?_))); (case side2 => exact HC0.out); rintro e w' ⟨rfl, ⟨nd, rfl⟩⟩; (try first | exact ⟨rfl, _, World.drewN_drewN _ _ _⟩ | exact ⟨rfl, _, Eq.trans (World.drewN_drewN _ _ _) (congrArg (World.drewN _) (Nat.add_assoc _ _ _))⟩)) | (go_at_call 22; (with_reducible refine (laminaref06_Size.calls a2 (wrap64 (t369)) t375 _ A17.out).mono ?_); rintro e w' ⟨rfl, ⟨nd, rfl⟩⟩; (try first | exact ⟨rfl, _, World.drewN_drewN _ _ _⟩ | exact ⟨rfl, _, Eq.trans (World.drewN_drewN _ _ _) (congrArg (World.drewN _) (Nat.add_assoc _ _ _))⟩)))
          repeat (go_quiet (first | (go_at_call 70; (with_reducible refine (laminaref01_Decode.calls kj3 _ _ l0 a1 t366 t367 t368 _ ?side1 ?side2 A9.out).mono ?_); (case side1 => exact ca_ (Kd.C_below HR0.out HB.out)); (case side2 => exact HC0.out); rintro e w' ⟨rfl, ⟨nd, rfl⟩⟩; (try first | exact ⟨rfl, _, World.drewN_drewN _ _ _⟩ | exact ⟨rfl, _, Eq.trans (World.drewN_drewN _ _ _) (congrArg (World.drewN _) (Nat.add_assoc _ _ _))⟩)) | (go_at_call 70; (with_reducible refine (laminaref01_Decode.calls kj3 _ _ l0 t367 t369 t370 t371 _ ?side1 ?side2 A11.out).mono ?_); (case side1 => repeat (first | exact (Kd.C_below HR0.out (bb_ HB)) | (with_reducible refine Kd.C_alloc ?_ _) | (with_reducible refine Kd.C_drewN ?_ _) | (with_reducible refine Kd.C_drew ?_))); (case side2 => exact HC0.out); rintro e w' ⟨rfl, ⟨nd, rfl⟩⟩; (try first | exact ⟨rfl, _, World.drewN_drewN _ _ _⟩ | exact ⟨rfl, _, Eq.trans (World.drewN_drewN _ _ _) (congrArg (World.drewN _) (Nat.add_assoc _ _ _))⟩)) | (go_at_call 70; (with_reducible refine (laminaref01_Decode.calls kj3 _ _ l0 t370 t372 t373 t374 _ ?side1 ?side2 A14.out).mono ?_); (case side1 => repeat (first | exact (Kd.C_below HR0.out (bb_ HB)) | (with_reducible refine Kd.C_alloc ?_ _) | (with_reducible refine Kd.C_drewN ?_ _) | (with_reducible refine Kd.C_drew ?_))); (case side2 => exact HC0.out); rintro e w' ⟨rfl, ⟨nd, rfl⟩⟩; (try first | exact ⟨rfl, _, World.drewN_drewN _ _ _⟩ | exact ⟨rfl, _, Eq.trans (World.drewN_drewN _ _ _) (congrArg (World.drewN _) (Nat.add_assoc _ _ _))⟩)) | (go_at_call 22; (with_reducible refine (laminaref06_Size.calls a2 (wrap64 (t369)) t375 _ A17.out).mono ?_); rintro e w' ⟨rfl, ⟨nd, rfl⟩⟩; (try first | exact ⟨rfl, _, World.drewN_drewN _ _ _⟩ | exact ⟨rfl, _, Eq.trans (World.drewN_drewN _ _ _) (congrArg (World.drewN _) (Nat.add_assoc _ _ _))⟩))); try go_wp2_with (first | (go_at_call 70; (with_reducible refine (laminaref01_Decode.calls kj3 _ _ l0 a1 t366 t367 t368 _ ?side1 ?side2 A9.out).mono ?_); (case side1 => exact ca_ (Kd.C_below HR0.out HB.out)); (case side2 => exact HC0.out); rintro e w' ⟨rfl, ⟨nd, rfl⟩⟩; (try first | exact ⟨rfl, _, World.drewN_drewN _ _ _⟩ | exact ⟨rfl, _, Eq.trans (World.drewN_drewN _ _ _) (congrArg (World.drewN _) (Nat.add_assoc _ _ _))⟩)) | (go_at_call 70; (with_reducible refine (laminaref01_Decode.calls kj3 _ _ l0 t367 t369 t370 t371 _ ?side1 ?side2 A11.out).mono ?_); (case side1 => repeat (first | exact (Kd.C_below HR0.out (bb_ HB)) | (with_reducible refine Kd.C_alloc ?_ _) | (with_reducible refine Kd.C_drewN ?_ _) | (with_reducible refine Kd.C_drew ?_))); (case side2 => exact HC0.out); rintro e w' ⟨rfl, ⟨nd, rfl⟩⟩; (try first | exact ⟨rfl, _, World.drewN_drewN _ _ _⟩ | exact ⟨rfl, _, Eq.trans (World.drewN_drewN _ _ _) (congrArg (World.drewN _) (Nat.add_assoc _ _ _))⟩)) | (go_at_call 70; (with_reducible refine (laminaref01_Decode.calls kj3 _ _ l0 t370 t372 t373 t374 _ ?side1 ?side2 A14.out).mono ?_); (case side1 => repeat (first | exact (Kd.C_below HR0.out (bb_ HB)) | (with_reducible refine Kd.C_alloc ?_ _) | (with_reducible refine Kd.C_drewN ?_ _) | (with_reducible refine Kd.C_drew ?_))); (case side2 => exact HC0.out); rintro e w' ⟨rfl, ⟨nd, rfl⟩⟩; (try first | exact ⟨rfl, _, World.drewN_drewN _ _ _⟩ | exact ⟨rfl, _, Eq.trans (World.drewN_drewN _ _ _) (congrArg (World.drewN _) (Nat.add_assoc _ _ _))⟩)) | (go_at_call 22; (with_reducible refine (laminaref06_Size.calls a2 (wrap64 (t369)) t375 _ A17.out).mono ?_); rintro e w' ⟨rfl, ⟨nd, rfl⟩⟩; (try first | exact ⟨rfl, _, World.drewN_drewN _ _ _⟩ | exact ⟨rfl, _, Eq.trans (World.drewN_drewN _ _ _) (congrArg (World.drewN _) (Nat.add_assoc _ _ _))⟩))))
          go_ret3
          exact ⟨_, er_, by first | exact Kd.R_nil _ _ _ _ _ | exact Kd.N_nil _ _ _ _ _ | exact Kd.V_nil _ _ _ _ _ | exact Kd.Q_nil _ _ _ _ _ | exact Kd.S_nil _ _ _ _ _, by repeat (first | (with_reducible first | exact HB.out | apply below_alloc | apply pw_below_drewN | apply below_drew1) | exact HB.out)⟩
         ·rw [if_neg c18] at H
          have c18b0 : decide ((wrap64 ((l0.length : Int) - t373)) < t375) = false := decide_eq_false c18
          clear c18
          have H' := Aside0.mk H
          clear H
          go_wp2_with (first | (go_at_call 70; (with_reducible refine (laminaref01_Decode.calls kj3 _ _ l0 a1 t366 t367 t368 _ ?side1 ?side2 A9.out).mono ?_); (case side1 => exact ca_ (Kd.C_below HR0.out HB.out)); (case side2 => exact HC0.out); rintro e w' ⟨rfl, ⟨nd, rfl⟩⟩; (try first | exact ⟨rfl, _, World.drewN_drewN _ _ _⟩ | exact ⟨rfl, _, Eq.trans (World.drewN_drewN _ _ _) (congrArg (World.drewN _) (Nat.add_assoc _ _ _))⟩)) | (go_at_call 70; (with_reducible refine (laminaref01_Decode.calls kj3 _ _ l0 t367 t369 t370 t371 _ ?side1 ?side2 A11.out).mono ?_); (case side1 => repeat (first | exact (Kd.C_below HR0.out (bb_ HB)) | (with_reducible refine Kd.C_alloc ?_ _) | (with_reducible refine Kd.C_drewN ?_ _) | (with_reducible refine Kd.C_drew ?_))); (case side2 => exact HC0.out); rintro e w' ⟨rfl, ⟨nd, rfl⟩⟩; (try first | exact ⟨rfl, _, World.drewN_drewN _ _ _⟩ | exact ⟨rfl, _, Eq.trans (World.drewN_drewN _ _ _) (congrArg (World.drewN _) (Nat.add_assoc _ _ _))⟩)) | (go_at_call 70; (with_reducible refine (laminaref01_Decode.calls kj3 _ _ l0 t370 t372 t373 t374 _ ?side1 ?side2 A14.out).mono ?_); (case side1 => repeat (first | exact (Kd.C_below HR0.out (bb_ HB)) | (with_reducible refine Kd.C_alloc ?_ _) | (with_reducible refine Kd.C_drewN ?_ _) | (with_reducible refine Kd.C_drew ?_))); (case side2 => exact HC0.out); rintro e w' ⟨rfl, ⟨nd, rfl⟩⟩; (try first | exact ⟨rfl, _, World.drewN_drewN _ _ _⟩ | exact ⟨rfl, _, Eq.trans (World.drewN_drewN _ _ _) (congrArg (World.drewN _) (Nat.add_assoc _ _ _))⟩)) | (go_at_call 22; (with_reducible refine (laminaref06_Size.calls a2 (wrap64 (t369)) t375 _ A17.out).mono ?_); rintro e w' ⟨rfl, ⟨nd, rfl⟩⟩; (try first | exact ⟨rfl, _, World.drewN_drewN _ _ _⟩ | exact ⟨rfl, _, Eq.trans (World.drewN_drewN _ _ _) (congrArg (World.drewN _) (Nat.add_assoc _ _ _))⟩)))
          repeat (go_quiet (first | (go_at_call 70; (with_reducible refine (laminaref01_Decode.calls kj3 _ _ l0 a1 t366 t367 t368 _ ?side1 ?side2 A9.out).mono ?_); (case side1 => exact ca_ (Kd.C_below HR0.out HB.out)); (case side2 => exact HC0.out); rintro e w' ⟨rfl, ⟨nd, rfl⟩⟩; (try first | exact ⟨rfl, _, World.drewN_drewN _ _ _⟩ | exact ⟨rfl, _, Eq.trans (World.drewN_drewN _ _ _) (congrArg (World.drewN _) (Nat.add_assoc _ _ _))⟩)) | (go_at_call 70; (with_reducible refine (laminaref01_Decode.calls kj3 _ _ l0 t367 t369 t370 t371 _ ?side1 ?side2 A11.out).mono ?_); (case side1 => repeat (first | exact (Kd.C_below HR0.out (bb_ HB)) | (with_reducible refine Kd.C_alloc ?_ _) | (with_reducible refine Kd.C_drewN ?_ _) | (with_reducible refine Kd.C_drew ?_))); (case side2 => exact HC0.out); rintro e w' ⟨rfl, ⟨nd, rfl⟩⟩; (try first | exact ⟨rfl, _, World.drewN_drewN _ _ _⟩ | exact ⟨rfl, _, Eq.trans (World.drewN_drewN _ _ _) (congrArg (World.drewN _) (Nat.add_assoc _ _ _))⟩)) | (go_at_call 70; (with_reducible refine (laminaref01_Decode.calls kj3 _ _ l0 t370 t372 t373 t374 _ ?side1 ?side2 A14.out).mono ?_); (case side1 => repeat (first | exact (Kd.C_below HR0.out (bb_ HB)) | (with_reducible refine Kd.C_alloc ?_ _) | (with_reducible refine Kd.C_drewN ?_ _) | (with_reducible refine Kd.C_drew ?_))); (case side2 => exact HC0.out); rintro e w' ⟨rfl, ⟨nd, rfl⟩⟩; (try first | exact ⟨rfl, _, World.drewN_drewN _ _ _⟩ | exact ⟨rfl, _, Eq.trans (World.drewN_drewN _ _ _) (congrArg (World.drewN _) (Nat.add_assoc _ _ _))⟩)) | (go_at_call 22; (with_reducible refine (laminaref06_Size.calls a2 (wrap64 (t369)) t375 _ A17.out).mono ?_); rintro e w' ⟨rfl, ⟨nd, rfl⟩⟩; (try first | exact ⟨rfl, _, World.drewN_drewN _ _ _⟩ | exact ⟨rfl, _, Eq.trans (World.drewN_drewN _ _ _) (congrArg (World.drewN _) (Nat.add_assoc _ _ _))⟩))); try go_wp2_with (first | (go_at_call 70; (with_reducible refine (laminaref01_Decode.calls kj3 _ _ l0 a1 t366 t367 t368 _ ?side1 ?side2 A9.out).mono ?_); (case side1 => exact ca_ (Kd.C_below HR0.out HB.out)); (case side2 => exact HC0.out); rintro e w' ⟨rfl, ⟨nd, rfl⟩⟩; (try first | exact ⟨rfl, _, World.drewN_drewN _ _ _⟩ | exact ⟨rfl, _, Eq.trans (World.drewN_drewN _ _ _) (congrArg (World.drewN _) (Nat.add_assoc _ _ _))⟩)) | (go_at_call 70; (with_reducible refine (laminaref01_Decode.calls kj3 _ _ l0 t367 t369 t370 t371 _ ?side1 ?side2 A11.out).mono ?_); (case side1 => repeat (first | exact (Kd.C_below HR0.out (bb_ HB)) | (with_reducible refine Kd.C_alloc ?_ _) | (with_reducible refine Kd.C_drewN ?_ _) | (with_reducible refine Kd.C_drew ?_))); (case side2 => exact HC0.out); rintro e w' ⟨rfl, ⟨nd, rfl⟩⟩; (try first | exact ⟨rfl, _, World.drewN_drewN _ _ _⟩ | exact ⟨rfl, _, Eq.trans (World.drewN_drewN _ _ _) (congrArg (World.drewN _) (Nat.add_assoc _ _ _))⟩)) | (go_at_call 70; (with_reducible refine (laminaref01_Decode.calls kj3 _ _ l0 t370 t372 t373 t374 _ ?side1 ?side2 A14.out).mono ?_); (case side1 => repeat (first | exact (Kd.C_below HR0.out (bb_ HB)) | (with_reducible refine Kd.C_alloc ?_ _) | (with_reducible refine Kd.C_drewN ?_ _) | (with_reducible refine Kd.C_drew ?_))); (case side2 => exact HC0.out); rintro e w' ⟨rfl, ⟨nd, rfl⟩⟩; (try first | exact ⟨rfl, _, World.drewN_drewN _ _ _⟩ | exact ⟨rfl, _, Eq.trans (World.drewN_drewN _ _ _) (congrArg (World.drewN _) (Nat.add_assoc _ _ _))⟩)) | (go_at_call 22; (with_reducible refine (laminaref06_Size.calls a2 (wrap64 (t369)) t375 _ A17.out).mono ?_); rintro e w' ⟨rfl, ⟨nd, rfl⟩⟩; (try first | exact ⟨rfl, _, World.drewN_drewN _ _ _⟩ | exact ⟨rfl, _, Eq.trans (World.drewN_drewN _ _ _) (congrArg (World.drewN _) (Nat.add_assoc _ _ _))⟩))))
          go_loopg [15, 16] kj3 (fun kq v15 v16 w' => ∃ (x15_2 : List Int) (x16_2 : Int), v16 = .int .i64 x16_2 ∧ Aside0 (laminaref08_Decode.l0 kq l0 a1 a2 t366 t373 t369 t372 t375 x15_2 x16_2 = some (r1, r2, r3)) ∧ Aside0 (kq ≤ kj3) ∧ Aside0 (Kd.R (Kd.int .u64) 35 w' w.heap.size (fun _ => True) v15 x15_2) ∧ Aside0 (Below w.heap.size w w'))
          case atStart => exact ⟨(([] : List Int)), (0), fr_, H', ⟨Nat.le_refl _⟩, ⟨by first | exact Kd.R_nil _ _ _ _ _ | exact Kd.N_nil _ _ _ _ _ | exact Kd.V_nil _ _ _ _ _ | exact Kd.Q_nil _ _ _ _ _ | exact Kd.S_nil _ _ _ _ _⟩, ⟨by repeat (first | (with_reducible first | exact HB.out | apply below_alloc | apply pw_below_drewN | apply below_drew1) | exact HB.out)⟩⟩
          case round =>
           clear H'
           try clear c1
           try clear p2
           try clear c3
           try clear c5
           try clear c5b0
           try clear c6
           try clear c6b0
           try clear p6
           try clear c7
           try clear c7b0
           try clear c8
           try clear c10
           try clear c10b0
           try clear c10b1
           try clear c12
           try clear c12b0
           try clear c12b1
           try clear c13
           try clear c13b0
           try clear c15
           try clear c15b0
           try clear c15b1
           try clear c16
           try clear c16b0
           try clear c18
           try clear c18b0
           try clear p2
           obtain ⟨x15_2, x16_2, rfl, HA, HK2, HO_15, HB⟩ := hrel
           cases gk with
           | zero => exact absurd HA.out (by simp [laminaref08_Decode.l0])
           | succ k2 =>
            have H := HA.out
            clear HA
            simp only [laminaref08_Decode.l0] at H
            by_cases c19 : x16_2 < a2
            ·rw [if_pos c19] at H
             have c19b0 : decide (x16_2 < a2) = true := decide_eq_true c19
             clear c19
             by_cases c20 : 0 ≤ t373
             ·rw [if_pos c20] at H
              have c20b0 := eq_true c20
              have c20b1 : decide (0 ≤ t373) = true := decide_eq_true c20
              clear c20
              by_cases c21 : t373 ≤ (wrap64 (t373 + t375))
              ·rw [if_pos c21] at H
               have c21b0 := eq_true c21
               have c21b1 : decide (t373 ≤ (wrap64 (t373 + t375))) = true := decide_eq_true c21
               by_cases c22 : (wrap64 (t373 + t375)) ≤ (l0.length : Int)
               ·rw [if_pos c22] at H
                have c22b0 := eq_true c22
                have c22b1 : decide ((wrap64 (t373 + t375)) ≤ (l0.length : Int)) = true := decide_eq_true c22
                replace H := Option.bind_eq_some_iff.mp H
                obtain ⟨t377, A230, H⟩ := H
                try dsimp only at H
                have A23 := Aside0.mk A230
                clear A230
                by_cases c24 : x15_2.length < 17592186044416
                ·rw [if_pos c24] at H
                 have LMc24 := Aside0.mk c24
                 clear c24
                 obtain ⟨y378, hy378⟩ : ∃ y_ : List Int, y_ = (x15_2 ++ [t377]) := ⟨_, rfl⟩
                 replace H : (laminaref08_Decode.l0 k2 l0 a1 a2 t366 t373 t369 t372 t375 y378 (wrap64 (x16_2 + 1))) = some (r1, r2, r3) := hx_ hy378 H
                 have Ny378 := Aside0.mk hy378
                 clear hy378
                 have H' := Aside0.mk H
                 clear H
                 obtain ⟨i025, hi025, _, hsz25, _⟩ := info_parts info5
                 obtain ⟨A25, hcut25, hA25, hC25⟩ := print_mid_of (P := Try.prog) (Value.int .u8) 0 26 5 .i64 .i64 Try.underlying26 hi025 hsz25 A0 c0 l0 t373 (wrap64 (t373 + t375)) (of_decide_eq_true as_) (by first | omega | exact of_decide_eq_true as_) (of_decide_eq_true as_) HC0.out
                 have HR376 := Aside0.mk (Kd.C_of_reads (h1 := fun _ => rfl) (hA25 _ (Kd.reads_of_C HR0.out)))
                 have HC376 := Aside0.mk hC25
                 clear hA25 hC25 hi025 hsz25
                 obtain ⟨S25, hS25⟩ : ∃ s_ : List Int, s_ = ((l0.take ((wrap64 (t373 + t375)) : Int).toNat).drop (t373 : Int).toNat) := ⟨_, rfl⟩
                 have g0_ := HR376.out
                 rw [← hS25] at g0_
                 clear HR376
                 have HR376 := Aside0.mk g0_
                 clear g0_
                 have g0_ := HC376.out
                 rw [← hS25] at g0_
                 clear HC376
                 have HC376 := Aside0.mk g0_
                 clear g0_
                 have g0_ := A23.out
                 rw [← hS25] at g0_
                 clear A23
                 have A23 := Aside0.mk g0_
                 clear g0_
                 rw [← hS25] at hcut25
                 have NS25 := Aside0.mk hS25
                 clear hS25
                 go_wp2_with (first | (go_at_call 29; (with_reducible refine (laminaref06_At.calls k2 _ _ S25 x16_2 (wrap64 (t369)) t377 _ ?side1 ?side2 A23.out).mono ?_); (case side1 => exact ca_ (Kd.C_below HR376.out HB.out)); (case side2 => exact HC376.out); rintro e w' ⟨rfl, ⟨nd, rfl⟩⟩; (try first | exact ⟨rfl, _, World.drewN_drewN _ _ _⟩ | exact ⟨rfl, _, Eq.trans (World.drewN_drewN _ _ _) (congrArg (World.drewN _) (Nat.add_assoc _ _ _))⟩)) | ((with_reducible refine gate_builtin (b := .append) (xs := #[.tmp 90, .tmp 101]) rfl ?_); (try (refine gate_guard (by rfl) ?_; dsimp only)); at_builtin; refine Kd.R_append (Kd.int .u64) (w0 := w) w.heap.size rfl (.tmp 90) (.tmp 101) 22 35 (.int .u64 0) 8 rfl Try.underlying22 info35 rfl (by decide) (by omega) u15 x15_2 t377 [.int .u64 t377] (fun _ => True) (fun _ => False) rfl rfl ?aP (fun _ hk => hk.elim) ?aF ?aO ?aB ?aS ?aL ?_; (case aP => exact rfl); (case aB => exact (bb_ HB)); (case aF => exact (fun _ _ => trivial)); (case aO => exact (rb_ HO_15)); (case aS => exact (below_size (bb_ HB))); (case aL => have := LMc24.out; omega); intro v379 w26 ho hb hg hat; rw [← Ny378.out] at ho; have n0_ := Aside0.mk (hb); have n1_ := Aside0.mk (ho); clear HB; clear HO_15; have HB := n0_; have HO380 := n1_; clear n0_ n1_; clear ho hb hg hat))
                 repeat (go_quiet (first | (go_at_call 29; (with_reducible refine (laminaref06_At.calls k2 _ _ S25 x16_2 (wrap64 (t369)) t377 _ ?side1 ?side2 A23.out).mono ?_); (case side1 => exact ca_ (Kd.C_below HR376.out HB.out)); (case side2 => exact HC376.out); rintro e w' ⟨rfl, ⟨nd, rfl⟩⟩; (try first | exact ⟨rfl, _, World.drewN_drewN _ _ _⟩ | exact ⟨rfl, _, Eq.trans (World.drewN_drewN _ _ _) (congrArg (World.drewN _) (Nat.add_assoc _ _ _))⟩)) | ((with_reducible refine gate_builtin (b := .append) (xs := #[.tmp 90, .tmp 101]) rfl ?_); (try (refine gate_guard (by rfl) ?_; dsimp only)); at_builtin; refine Kd.R_append (Kd.int .u64) (w0 := w) w.heap.size rfl (.tmp 90) (.tmp 101) 22 35 (.int .u64 0) 8 rfl Try.underlying22 info35 rfl (by decide) (by omega) u15 x15_2 t377 [.int .u64 t377] (fun _ => True) (fun _ => False) rfl rfl ?aP (fun _ hk => hk.elim) ?aF ?aO ?aB ?aS ?aL ?_; (case aP => exact rfl); (case aB => exact (bb_ HB)); (case aF => exact (fun _ _ => trivial)); (case aO => exact (rb_ HO_15)); (case aS => exact (below_size (bb_ HB))); (case aL => have := LMc24.out; omega); intro v379 w26 ho hb hg hat; rw [← Ny378.out] at ho; have n0_ := Aside0.mk (hb); have n1_ := Aside0.mk (ho); clear HB; clear HO_15; have HB := n0_; have HO380 := n1_; clear n0_ n1_; clear ho hb hg hat)); try go_wp2_with (first | (go_at_call 29; (with_reducible refine (laminaref06_At.calls k2 _ _ S25 x16_2 (wrap64 (t369)) t377 _ ?side1 ?side2 A23.out).mono ?_); (case side1 => exact ca_ (Kd.C_below HR376.out HB.out)); (case side2 => exact HC376.out); rintro e w' ⟨rfl, ⟨nd, rfl⟩⟩; (try first | exact ⟨rfl, _, World.drewN_drewN _ _ _⟩ | exact ⟨rfl, _, Eq.trans (World.drewN_drewN _ _ _) (congrArg (World.drewN _) (Nat.add_assoc _ _ _))⟩)) | ((with_reducible refine gate_builtin (b := .append) (xs := #[.tmp 90, .tmp 101]) rfl ?_); (try (refine gate_guard (by rfl) ?_; dsimp only)); at_builtin; refine Kd.R_append (Kd.int .u64) (w0 := w) w.heap.size rfl (.tmp 90) (.tmp 101) 22 35 (.int .u64 0) 8 rfl Try.underlying22 info35 rfl (by decide) (by omega) u15 x15_2 t377 [.int .u64 t377] (fun _ => True) (fun _ => False) rfl rfl ?aP (fun _ hk => hk.elim) ?aF ?aO ?aB ?aS ?aL ?_; (case aP => exact rfl); (case aB => exact (bb_ HB)); (case aF => exact (fun _ _ => trivial)); (case aO => exact (rb_ HO_15)); (case aS => exact (below_size (bb_ HB))); (case aL => have := LMc24.out; omega); intro v379 w26 ho hb hg hat; rw [← Ny378.out] at ho; have n0_ := Aside0.mk (hb); have n1_ := Aside0.mk (ho); clear HB; clear HO_15; have HB := n0_; have HO380 := n1_; clear n0_ n1_; clear ho hb hg hat)))
                 go_roundg k2
                 case measure => have := HJ3.out; have := HK2.out; omega
                 case rel => exact ⟨(y378), (wrap64 (x16_2 + 1)), fr_, H', ⟨by have := HJ3.out; have := HK2.out; omega⟩, ⟨by (with_reducible repeat (first | apply Kd.R_alloc | apply Kd.R_drewN | apply Kd.R_drew)); exact HO380.out⟩, ⟨by repeat (first | (with_reducible first | exact HB.out | apply below_alloc | apply pw_below_drewN | apply below_drew1) | exact HB.out)⟩⟩
                ·rw [if_neg c24] at H
                 exact absurd H (by simp)
               ·rw [if_neg c22] at H
                exact absurd H (by simp)
              ·rw [if_neg c21] at H
               exact absurd H (by simp)
             ·rw [if_neg c20] at H
              exact absurd H (by simp)
            ·rw [if_neg c19] at H
             have c19b0 : decide (x16_2 < a2) = false := decide_eq_false c19
             clear c19
             replace H := Option.bind_eq_some_iff.mp H
             obtain ⟨⟨t381, t382, t383⟩, A270, H⟩ := H
             try dsimp only at H
             have A27 := Aside0.mk A270
             clear A270
             by_cases c28 : t382 = 0
             ·rw [if_pos c28] at H
              have c28b0 : (t382 == 0) = true := beq_iff_eq.mpr c28
              have c28b1 : (t382 != 0) = false := bne_eq_false_iff_eq.mpr c28
              clear c28
              replace H := Option.bind_eq_some_iff.mp H
              obtain ⟨t384, A290, H⟩ := H
              try dsimp only at H
              have A29 := Aside0.mk A290
              clear A290
              have H' := Aside0.mk H
              clear H
              obtain ⟨Ao30, co30, eo30⟩ := Kd.R_slice HO_15.out
              subst eo30
              go_wp2_with (first | (go_at_call 71; (with_reducible refine (laminaref08_exceptions.calls k2 _ _ l0 (wrap64 (t373 + t375)) (wrap64 (t372)) (wrap64 (t369)) (fun k_ => some k_ = (.slice Ao30 x15_2.length co30 : Value).ownBlock) (.slice Ao30 x15_2.length co30) x15_2 t381 t382 t383 w _ ?side1 ?side2 ?side3 ?side4 A27.out).mono ?_); (case side1 => repeat (first | (with_reducible first | exact HB.out | apply below_alloc | apply pw_below_drewN | apply below_drew1) | exact HB.out)); (case side2 => exact Kd.C_kept_came (Kd.heap_int .u8) HR0.out (bb_ HB) (fun k_ hs_ => (fun e_ => Kd.R_base HO_15.out k_ e_.symm) hs_)); (case side3 => exact HC0.out); (case side4 => exact Kd.R_tight rfl HO_15.out); rintro e w31 ⟨rfl, hy0, hb, hkp⟩; have n0_ := Aside0.mk (Kd.R_reok rfl hy0 (fun k_ e_ => HO_15.out.1 k_ e_)); have n1_ := Aside0.mk (hb); clear HO_15; clear HB; have HO_15 := n0_; have HB := n1_; clear n0_ n1_; (try clear hb); (try clear hkp); (try clear hy0)) | (go_at_call 72; (with_reducible refine (laminaref01_UnZigZag.calls t366 t384 _ A29.out).mono ?_); rintro e w' ⟨rfl, ⟨nd, rfl⟩⟩; (try first | exact ⟨rfl, _, World.drewN_drewN _ _ _⟩ | exact ⟨rfl, _, Eq.trans (World.drewN_drewN _ _ _) (congrArg (World.drewN _) (Nat.add_assoc _ _ _))⟩)))
              repeat (go_quiet (first | (go_at_call 71; (with_reducible refine (laminaref08_exceptions.calls k2 _ _ l0 (wrap64 (t373 + t375)) (wrap64 (t372)) (wrap64 (t369)) (fun k_ => some k_ = (.slice Ao30 x15_2.length co30 : Value).ownBlock) (.slice Ao30 x15_2.length co30) x15_2 t381 t382 t383 w _ ?side1 ?side2 ?side3 ?side4 A27.out).mono ?_); (case side1 => repeat (first | (with_reducible first | exact HB.out | apply below_alloc | apply pw_below_drewN | apply below_drew1) | exact HB.out)); (case side2 => exact Kd.C_kept_came (Kd.heap_int .u8) HR0.out (bb_ HB) (fun k_ hs_ => (fun e_ => Kd.R_base HO_15.out k_ e_.symm) hs_)); (case side3 => exact HC0.out); (case side4 => exact Kd.R_tight rfl HO_15.out); rintro e w31 ⟨rfl, hy0, hb, hkp⟩; have n0_ := Aside0.mk (Kd.R_reok rfl hy0 (fun k_ e_ => HO_15.out.1 k_ e_)); have n1_ := Aside0.mk (hb); clear HO_15; clear HB; have HO_15 := n0_; have HB := n1_; clear n0_ n1_; (try clear hb); (try clear hkp); (try clear hy0)) | (go_at_call 72; (with_reducible refine (laminaref01_UnZigZag.calls t366 t384 _ A29.out).mono ?_); rintro e w' ⟨rfl, ⟨nd, rfl⟩⟩; (try first | exact ⟨rfl, _, World.drewN_drewN _ _ _⟩ | exact ⟨rfl, _, Eq.trans (World.drewN_drewN _ _ _) (congrArg (World.drewN _) (Nat.add_assoc _ _ _))⟩))); try go_wp2_with (first | (go_at_call 71; (with_reducible refine (laminaref08_exceptions.calls k2 _ _ l0 (wrap64 (t373 + t375)) (wrap64 (t372)) (wrap64 (t369)) (fun k_ => some k_ = (.slice Ao30 x15_2.length co30 : Value).ownBlock) (.slice Ao30 x15_2.length co30) x15_2 t381 t382 t383 w _ ?side1 ?side2 ?side3 ?side4 A27.out).mono ?_); (case side1 => repeat (first | (with_reducible first | exact HB.out | apply below_alloc | apply pw_below_drewN | apply below_drew1) | exact HB.out)); (case side2 => exact Kd.C_kept_came (Kd.heap_int .u8) HR0.out (bb_ HB) (fun k_ hs_ => (fun e_ => Kd.R_base HO_15.out k_ e_.symm) hs_)); (case side3 => exact HC0.out); (case side4 => exact Kd.R_tight rfl HO_15.out); rintro e w31 ⟨rfl, hy0, hb, hkp⟩; have n0_ := Aside0.mk (Kd.R_reok rfl hy0 (fun k_ e_ => HO_15.out.1 k_ e_)); have n1_ := Aside0.mk (hb); clear HO_15; clear HB; have HO_15 := n0_; have HB := n1_; clear n0_ n1_; (try clear hb); (try clear hkp); (try clear hy0)) | (go_at_call 72; (with_reducible refine (laminaref01_UnZigZag.calls t366 t384 _ A29.out).mono ?_); rintro e w' ⟨rfl, ⟨nd, rfl⟩⟩; (try first | exact ⟨rfl, _, World.drewN_drewN _ _ _⟩ | exact ⟨rfl, _, Eq.trans (World.drewN_drewN _ _ _) (congrArg (World.drewN _) (Nat.add_assoc _ _ _))⟩))))
              go_loopg [19, 20] k2 (fun kq v19 v20 w' => ∃ (x19_3 : List Int) (x20_3 : Int), v20 = .int .i64 x20_3 ∧ Aside0 (laminaref08_Decode.l1 kq l0 a1 a2 t383 t381 (IntKind.u64.wrap (t384)) x19_3 x20_3 = some (r1, r2, r3)) ∧ Aside0 (kq ≤ k2) ∧ Aside0 (Kd.R (Kd.int .u64) 35 w' w.heap.size (fun _ => True) (.slice Ao30 x15_2.length co30) t383) ∧ Aside0 (Kd.R (Kd.int .i64) 2 w' w.heap.size (fun _ => True) v19 x19_3) ∧ Aside0 (Below w.heap.size w w'))
              case atStart => exact ⟨(([] : List Int)), (0), fr_, H', ⟨Nat.le_refl _⟩, ⟨by (with_reducible repeat (first | apply Kd.R_alloc | apply Kd.R_drewN | apply Kd.R_drew)); exact HO_15.out⟩, ⟨by first | exact Kd.R_nil _ _ _ _ _ | exact Kd.N_nil _ _ _ _ _ | exact Kd.V_nil _ _ _ _ _ | exact Kd.Q_nil _ _ _ _ _ | exact Kd.S_nil _ _ _ _ _⟩, ⟨by repeat (first | (with_reducible first | exact HB.out | apply below_alloc | apply pw_below_drewN | apply below_drew1) | exact HB.out)⟩⟩
              case round =>
               clear H'
               try clear c1
               try clear c2
               try clear p2
               try clear c3
               try clear c5
               try clear c5b0
               try clear c6
               try clear c6b0
               try clear p6
               try clear c7
               try clear c7b0
               try clear c8
               try clear c10
               try clear c10b0
               try clear c10b1
               try clear c12
               try clear c12b0
               try clear c12b1
               try clear c13
               try clear c13b0
               try clear c15
               try clear c15b0
               try clear c15b1
               try clear c16
               try clear c16b0
               try clear c18
               try clear c18b0
               try clear c19
               try clear c19b0
               try clear c20
               try clear c20b0
               try clear c20b1
               try clear c21
               try clear c21b0
               try clear c21b1
               try clear c22
               try clear c22b0
               try clear c22b1
               try clear c24
               try clear c28
               try clear c28b0
               try clear c28b1
               try clear p2
               try clear p6
               obtain ⟨x19_3, x20_3, rfl, HA, HK3, HO_15, HO_19, HB⟩ := hrel
               have hl15_3 := (Kd.R_reads' HO_15.out).1
               rw [hl15_3] at HO_15
               (try simp only [hl15_3])
               (try simp only [hl15_3] at HO_19)
               cases gk with
               | zero => exact absurd HA.out (by simp [laminaref08_Decode.l1])
               | succ k3 =>
                have H := HA.out
                clear HA
                simp only [laminaref08_Decode.l1] at H
                by_cases c32 : x20_3 < a2
                ·rw [if_pos c32] at H
                 have c32b0 : decide (x20_3 < a2) = true := decide_eq_true c32
                 clear c32
                 by_cases c33 : 0 ≤ x20_3
                 ·rw [if_pos c33] at H
                  have c33b0 : decide (0 ≤ x20_3) = true := decide_eq_true c33
                  clear c33
                  by_cases c34 : x20_3 < (t383.length : Int)
                  ·rw [if_pos c34] at H
                   have c34b0 : decide (x20_3 < (t383.length : Int)) = true := decide_eq_true c34
                   clear c34
                   by_cases c35 : x19_3.length < 17592186044416
                   ·rw [if_pos c35] at H
                    have LMc35 := Aside0.mk c35
                    clear c35
                    obtain ⟨y386, hy386⟩ : ∃ y_ : List Int, y_ = (x19_3 ++ [wrap64 (IntKind.u64.wrap ((IntKind.u64.wrap (t384)) + (rd t383 x20_3)))]) := ⟨_, rfl⟩
                    replace H : (laminaref08_Decode.l1 k3 l0 a1 a2 t383 t381 (IntKind.u64.wrap (t384)) y386 (wrap64 (x20_3 + 1))) = some (r1, r2, r3) := hx_ hy386 H
                    have Ny386 := Aside0.mk hy386
                    clear hy386
                    have H' := Aside0.mk H
                    clear H
                    have p385 : 0 ≤ (x20_3 : Int) := of_decide_eq_true as_
                    have q385 : x20_3 < (t383.length : Int) := of_decide_eq_true as_
                    obtain ⟨ad385, e385, hx385_0⟩ := Kd.at_int (Kd.R_reads' HO_15.out).2.2 x20_3 p385 q385
                    cases e385
                    replace p385 := eq_true p385
                    replace q385 := eq_true q385
                    go_wp2_with (first | ((with_reducible refine gate_builtin (b := .append) (xs := #[.tmp 127, .tmp 135]) rfl ?_); (try (refine gate_guard (by rfl) ?_; dsimp only)); at_builtin; refine Kd.R_append (Kd.int .i64) (w0 := w) w.heap.size rfl (.tmp 127) (.tmp 135) 38 2 (.int .i64 0) 8 rfl Try.underlying38 info2 rfl (by decide) (by omega) u19 x19_3 (wrap64 (IntKind.u64.wrap ((IntKind.u64.wrap (t384)) + (rd t383 x20_3)))) [.int .i64 (wrap64 (IntKind.u64.wrap ((IntKind.u64.wrap (t384)) + (rd t383 x20_3))))] (fun _ => True) (fun _ => False) rfl rfl ?aP (fun _ hk => hk.elim) ?aF ?aO ?aB ?aS ?aL ?_; (case aP => exact rfl); (case aB => exact (bb_ HB)); (case aF => exact (fun _ _ => trivial)); (case aO => exact (rb_ HO_19)); (case aS => exact (below_size (bb_ HB))); (case aL => have := LMc35.out; omega); intro v387 w36 ho hb hg hat; rw [← Ny386.out] at ho; have n0_ := Aside0.mk (Kd.R_over' (rb_ HO_15) (Kd.R_typed (rb_ HO_19)) (by decide) hg); have n1_ := Aside0.mk (hb); have n2_ := Aside0.mk (ho); clear HO_15; clear HB; clear HO_19; have HO_15 := n0_; have HB := n1_; have HO388 := n2_; clear n0_ n1_ n2_; clear ho hb hg hat))
                    repeat (go_quiet (first | ((with_reducible refine gate_builtin (b := .append) (xs := #[.tmp 127, .tmp 135]) rfl ?_); (try (refine gate_guard (by rfl) ?_; dsimp only)); at_builtin; refine Kd.R_append (Kd.int .i64) (w0 := w) w.heap.size rfl (.tmp 127) (.tmp 135) 38 2 (.int .i64 0) 8 rfl Try.underlying38 info2 rfl (by decide) (by omega) u19 x19_3 (wrap64 (IntKind.u64.wrap ((IntKind.u64.wrap (t384)) + (rd t383 x20_3)))) [.int .i64 (wrap64 (IntKind.u64.wrap ((IntKind.u64.wrap (t384)) + (rd t383 x20_3))))] (fun _ => True) (fun _ => False) rfl rfl ?aP (fun _ hk => hk.elim) ?aF ?aO ?aB ?aS ?aL ?_; (case aP => exact rfl); (case aB => exact (bb_ HB)); (case aF => exact (fun _ _ => trivial)); (case aO => exact (rb_ HO_19)); (case aS => exact (below_size (bb_ HB))); (case aL => have := LMc35.out; omega); intro v387 w36 ho hb hg hat; rw [← Ny386.out] at ho; have n0_ := Aside0.mk (Kd.R_over' (rb_ HO_15) (Kd.R_typed (rb_ HO_19)) (by decide) hg); have n1_ := Aside0.mk (hb); have n2_ := Aside0.mk (ho); clear HO_15; clear HB; clear HO_19; have HO_15 := n0_; have HB := n1_; have HO388 := n2_; clear n0_ n1_ n2_; clear ho hb hg hat)); try go_wp2_with (first | ((with_reducible refine gate_builtin (b := .append) (xs := #[.tmp 127, .tmp 135]) rfl ?_); (try (refine gate_guard (by rfl) ?_; dsimp only)); at_builtin; refine Kd.R_append (Kd.int .i64) (w0 := w) w.heap.size rfl (.tmp 127) (.tmp 135) 38 2 (.int .i64 0) 8 rfl Try.underlying38 info2 rfl (by decide) (by omega) u19 x19_3 (wrap64 (IntKind.u64.wrap ((IntKind.u64.wrap (t384)) + (rd t383 x20_3)))) [.int .i64 (wrap64 (IntKind.u64.wrap ((IntKind.u64.wrap (t384)) + (rd t383 x20_3))))] (fun _ => True) (fun _ => False) rfl rfl ?aP (fun _ hk => hk.elim) ?aF ?aO ?aB ?aS ?aL ?_; (case aP => exact rfl); (case aB => exact (bb_ HB)); (case aF => exact (fun _ _ => trivial)); (case aO => exact (rb_ HO_19)); (case aS => exact (below_size (bb_ HB))); (case aL => have := LMc35.out; omega); intro v387 w36 ho hb hg hat; rw [← Ny386.out] at ho; have n0_ := Aside0.mk (Kd.R_over' (rb_ HO_15) (Kd.R_typed (rb_ HO_19)) (by decide) hg); have n1_ := Aside0.mk (hb); have n2_ := Aside0.mk (ho); clear HO_15; clear HB; clear HO_19; have HO_15 := n0_; have HB := n1_; have HO388 := n2_; clear n0_ n1_ n2_; clear ho hb hg hat)))
                    (try simp only [← hl15_3])
                    go_roundg k3
                    case measure => have := HJ3.out; have := HK2.out; have := HK3.out; omega
                    case rel => exact ⟨(y386), (wrap64 (x20_3 + 1)), fr_, H', ⟨by have := HJ3.out; have := HK2.out; have := HK3.out; omega⟩, ⟨by (try simp only [hl15_3]); (with_reducible repeat (first | apply Kd.R_alloc | apply Kd.R_drewN | apply Kd.R_drew)); exact HO_15.out⟩, ⟨by (try simp only [hl15_3]); (with_reducible repeat (first | apply Kd.R_alloc | apply Kd.R_drewN | apply Kd.R_drew)); exact HO388.out⟩, ⟨by repeat (first | (with_reducible first | exact HB.out | apply below_alloc | apply pw_below_drewN | apply below_drew1) | exact HB.out)⟩⟩
                   ·rw [if_neg c35] at H
                    exact absurd H (by simp)
                  ·rw [if_neg c34] at H
                   exact absurd H (by simp)
                 ·rw [if_neg c33] at H
                  exact absurd H (by simp)
                ·rw [if_neg c32] at H
                 have c32b0 : decide (x20_3 < a2) = false := decide_eq_false c32
                 clear c32
                 replace H := Option.bind_eq_some_iff.mp H
                 obtain ⟨t389, A370, H⟩ := H
                 try dsimp only at H
                 have A37 := Aside0.mk A370
                 clear A370
                 by_cases c38 : (t389.length : Int) = (wrap64 (t381 - a1))
                 ·rw [if_pos c38] at H
                  have c38b0 : ((t389.length : Int) == (wrap64 (t381 - a1))) = true := beq_iff_eq.mpr c38
                  have c38b1 : ((t389.length : Int) != (wrap64 (t381 - a1))) = false := bne_eq_false_iff_eq.mpr c38
                  clear c38
                  have H' := Aside0.mk H
                  clear H
                  obtain ⟨Ao39, co39, eo39⟩ := Kd.R_slice HO_19.out
                  subst eo39
                  go_wp2_with (first | (go_at_call 42; (with_reducible refine (laminaref08_Encode.calls k3 _ _ x19_3 t389 _ ?side1 ?side2 A37.out).mono ?_); (case side1 => exact ca_ (Kd.R_reads' HO_19.out).2.2); (case side2 => exact (Kd.R_reads' HO_19.out).2.1); rintro e w40 ⟨v390, rfl, ho0, hb⟩; have n0_ := Aside0.mk (Kd.R_below (rb_ HO_15) hb); have n1_ := Aside0.mk (Kd.R_below (rb_ HO_19) hb); have n2_ := Aside0.mk (Kd.R_lower ho0 (below_size (bb_ HB))); have n3_ := Aside0.mk (below_step (bb_ HB) hb); clear HO_15; clear HO_19; clear HB; have HO_15 := n0_; have HO_19 := n1_; have HO391 := n2_; have HB := n3_; clear n0_ n1_ n2_ n3_; (try clear hb); (try clear hb2); (try clear hk); (try clear hi); (try clear ho0); obtain ⟨Ao41, co41, eo41⟩ := Kd.R_slice HO391.out; subst eo41))
                  repeat (go_quiet (first | (go_at_call 42; (with_reducible refine (laminaref08_Encode.calls k3 _ _ x19_3 t389 _ ?side1 ?side2 A37.out).mono ?_); (case side1 => exact ca_ (Kd.R_reads' HO_19.out).2.2); (case side2 => exact (Kd.R_reads' HO_19.out).2.1); rintro e w40 ⟨v390, rfl, ho0, hb⟩; have n0_ := Aside0.mk (Kd.R_below (rb_ HO_15) hb); have n1_ := Aside0.mk (Kd.R_below (rb_ HO_19) hb); have n2_ := Aside0.mk (Kd.R_lower ho0 (below_size (bb_ HB))); have n3_ := Aside0.mk (below_step (bb_ HB) hb); clear HO_15; clear HO_19; clear HB; have HO_15 := n0_; have HO_19 := n1_; have HO391 := n2_; have HB := n3_; clear n0_ n1_ n2_ n3_; (try clear hb); (try clear hb2); (try clear hk); (try clear hi); (try clear ho0); obtain ⟨Ao41, co41, eo41⟩ := Kd.R_slice HO391.out; subst eo41)); try go_wp2_with (first | (go_at_call 42; (with_reducible refine (laminaref08_Encode.calls k3 _ _ x19_3 t389 _ ?side1 ?side2 A37.out).mono ?_); (case side1 => exact ca_ (Kd.R_reads' HO_19.out).2.2); (case side2 => exact (Kd.R_reads' HO_19.out).2.1); rintro e w40 ⟨v390, rfl, ho0, hb⟩; have n0_ := Aside0.mk (Kd.R_below (rb_ HO_15) hb); have n1_ := Aside0.mk (Kd.R_below (rb_ HO_19) hb); have n2_ := Aside0.mk (Kd.R_lower ho0 (below_size (bb_ HB))); have n3_ := Aside0.mk (below_step (bb_ HB) hb); clear HO_15; clear HO_19; clear HB; have HO_15 := n0_; have HO_19 := n1_; have HO391 := n2_; have HB := n3_; clear n0_ n1_ n2_ n3_; (try clear hb); (try clear hb2); (try clear hk); (try clear hi); (try clear ho0); obtain ⟨Ao41, co41, eo41⟩ := Kd.R_slice HO391.out; subst eo41)))
                  go_loopg [22] k3 (fun kq v22 w' => ∃ (x22_4 : Int), v22 = .int .i64 x22_4 ∧ Aside0 (laminaref08_Decode.l2 kq l0 a1 t381 x19_3 t389 x22_4 = some (r1, r2, r3)) ∧ Aside0 (kq ≤ k3) ∧ Aside0 (Kd.R (Kd.int .i64) 2 w' w.heap.size (fun _ => True) (.slice Ao39 x19_3.length co39) x19_3) ∧ Aside0 (Kd.R (Kd.int .u8) 5 w' w.heap.size (fun _ => True) (.slice Ao41 t389.length co41) t389) ∧ Aside0 (Below w.heap.size w w'))
                  case atStart => exact ⟨(0), fr_, H', ⟨Nat.le_refl _⟩, ⟨by (try simp only [hl15_3]); (with_reducible repeat (first | apply Kd.R_alloc | apply Kd.R_drewN | apply Kd.R_drew)); exact HO_19.out⟩, ⟨by (try simp only [hl15_3]); (with_reducible repeat (first | apply Kd.R_alloc | apply Kd.R_drewN | apply Kd.R_drew)); exact HO391.out⟩, ⟨by repeat (first | (with_reducible first | exact HB.out | apply below_alloc | apply pw_below_drewN | apply below_drew1) | exact HB.out)⟩⟩
                  case round =>
                   clear H'
                   try clear c1
                   try clear c2
                   try clear p2
                   try clear c3
                   try clear p3
                   try clear q3
                   try clear hx3
                   try clear c5
                   try clear c5b0
                   try clear c6
                   try clear c6b0
                   try clear p6
                   try clear c7
                   try clear c7b0
                   try clear c8
                   try clear c10
                   try clear c10b0
                   try clear c10b1
                   try clear c12
                   try clear c12b0
                   try clear c12b1
                   try clear c13
                   try clear c13b0
                   try clear c15
                   try clear c15b0
                   try clear c15b1
                   try clear c16
                   try clear c16b0
                   try clear c18
                   try clear c18b0
                   try clear c19
                   try clear c19b0
                   try clear c20
                   try clear c20b0
                   try clear c20b1
                   try clear c21
                   try clear c21b0
                   try clear c21b1
                   try clear c22
                   try clear c22b0
                   try clear c22b1
                   try clear c24
                   try clear c28
                   try clear c28b0
                   try clear c28b1
                   try clear c32
                   try clear c32b0
                   try clear c33
                   try clear c33b0
                   try clear c34
                   try clear c34b0
                   try clear c35
                   try clear c37
                   try clear c38
                   try clear c38b0
                   try clear c38b1
                   try clear p38
                   try clear q38
                   try clear hx38
                   try clear hx385_0
                   try clear p2
                   try clear p385
                   try clear p6
                   try clear q385
                   obtain ⟨x22_4, rfl, HA, HK4, HO_19, HO_21, HB⟩ := hrel
                   cases gk with
                   | zero => exact absurd HA.out (by simp [laminaref08_Decode.l2])
                   | succ k4 =>
                    have H := HA.out
                    clear HA
                    simp only [laminaref08_Decode.l2] at H
                    by_cases c42 : x22_4 < (t389.length : Int)
                    ·rw [if_pos c42] at H
                     have c42b0 : decide (x22_4 < (t389.length : Int)) = true := decide_eq_true c42
                     clear c42
                     by_cases c43 : 0 ≤ x22_4
                     ·rw [if_pos c43] at H
                      have c43b0 : decide (0 ≤ x22_4) = true := decide_eq_true c43
                      clear c43
                      obtain ⟨ji44, hji44⟩ : ∃ j_ : Int, (wrap64 (a1 + x22_4)) = j_ := ⟨_, rfl⟩
                      replace H : (if 0 ≤ (ji44) then (if (ji44) < (l0.length : Int) then (if (rd t389 x22_4) = (rd l0 (ji44)) then (laminaref08_Decode.l2 k4 l0 a1 t381 x19_3 t389 (wrap64 (x22_4 + 1))) else (some (([] : List Int), 0, 4))) else (none)) else (none)) = some (r1, r2, r3) := by first | (rw [hji44] at H; exact H) | (simp only [hji44] at H ⊢; exact H)
                      have hji44w : (IntKind.i64.wrap (a1 + x22_4)) = ji44 := (i64_w _).trans hji44
                      by_cases c45 : 0 ≤ (ji44)
                      ·rw [if_pos c45] at H
                       have c45b0 : decide (0 ≤ (ji44)) = true := decide_eq_true c45
                       clear c45
                       by_cases c46 : (ji44) < (l0.length : Int)
                       ·rw [if_pos c46] at H
                        have c46b0 : decide ((ji44) < (l0.length : Int)) = true := decide_eq_true c46
                        clear c46
                        by_cases c47 : (rd t389 x22_4) = (rd l0 (ji44))
                        ·rw [if_pos c47] at H
                         have c47b0 : ((rd t389 x22_4) == (rd l0 (ji44))) = true := beq_iff_eq.mpr c47
                         have c47b1 : ((rd t389 x22_4) != (rd l0 (ji44))) = false := bne_eq_false_iff_eq.mpr c47
                         clear c47
                         have H' := Aside0.mk H
                         clear H
                         have p392 : 0 ≤ (x22_4 : Int) := of_decide_eq_true as_
                         have q392 : x22_4 < (t389.length : Int) := of_decide_eq_true as_
                         obtain ⟨ad392, e392, hx392_0⟩ := Kd.at_int (Kd.R_reads' HO_21.out).2.2 x22_4 p392 q392
                         cases e392
                         replace p392 := eq_true p392
                         replace q392 := eq_true q392
                         have p393 : 0 ≤ ((ji44) : Int) := of_decide_eq_true as_
                         have q393 : (ji44) < (l0.length : Int) := of_decide_eq_true as_
                         obtain ⟨ad393, e393, hx393_0⟩ := Kd.at_int HR0.out (ji44) p393 q393
                         cases e393
                         replace hx393_0 := (HB.out.cell (World.block_lt_of_cell? w _ hx393_0)).trans hx393_0
                         replace p393 := eq_true p393
                         replace q393 := eq_true q393
                         go_wp2
                         repeat (go_quiet (fail); try go_wp2)
                         go_roundg k4
                         case measure => have := HJ3.out; have := HK2.out; have := HK3.out; have := HK4.out; omega
                         case rel => exact ⟨(wrap64 (x22_4 + 1)), fr_, H', ⟨by have := HJ3.out; have := HK2.out; have := HK3.out; have := HK4.out; omega⟩, ⟨by (try simp only [hl15_3]); (with_reducible repeat (first | apply Kd.R_alloc | apply Kd.R_drewN | apply Kd.R_drew)); exact HO_19.out⟩, ⟨by (try simp only [hl15_3]); (with_reducible repeat (first | apply Kd.R_alloc | apply Kd.R_drewN | apply Kd.R_drew)); exact HO_21.out⟩, ⟨by repeat (first | (with_reducible first | exact HB.out | apply below_alloc | apply pw_below_drewN | apply below_drew1) | exact HB.out)⟩⟩
                        ·rw [if_neg c47] at H
                         have c47b0 : ((rd t389 x22_4) == (rd l0 (ji44))) = false := beq_eq_false_iff_ne.mpr c47
                         have c47b1 : ((rd t389 x22_4) != (rd l0 (ji44))) = true := bne_iff_ne.mpr c47
                         simp only [Option.some.injEq, Prod.mk.injEq] at H
                         obtain ⟨rfl, rfl, rfl⟩ := H
                         have p392 : 0 ≤ (x22_4 : Int) := of_decide_eq_true as_
                         have q392 : x22_4 < (t389.length : Int) := of_decide_eq_true as_
                         obtain ⟨ad392, e392, hx392_0⟩ := Kd.at_int (Kd.R_reads' HO_21.out).2.2 x22_4 p392 q392
                         cases e392
                         replace p392 := eq_true p392
                         replace q392 := eq_true q392
                         have p393 : 0 ≤ ((ji44) : Int) := of_decide_eq_true as_
                         have q393 : (ji44) < (l0.length : Int) := of_decide_eq_true as_
                         obtain ⟨ad393, e393, hx393_0⟩ := Kd.at_int HR0.out (ji44) p393 q393
                         cases e393
                         replace hx393_0 := (HB.out.cell (World.block_lt_of_cell? w _ hx393_0)).trans hx393_0
                         replace p393 := eq_true p393
                         replace q393 := eq_true q393
                         go_wp2
                         repeat (go_quiet (fail); try go_wp2)
                         go_ret3
                         exact ⟨_, by first | rfl | (simp [errW_none, errW_some] <;> rfl) | (simp only [← hji44]; first | rfl | (simp [errW_none, errW_some] <;> rfl)) | (simp [*, errW_none, errW_some] <;> rfl), by first | exact Kd.R_nil _ _ _ _ _ | exact Kd.N_nil _ _ _ _ _ | exact Kd.V_nil _ _ _ _ _ | exact Kd.Q_nil _ _ _ _ _ | exact Kd.S_nil _ _ _ _ _, by repeat (first | (with_reducible first | exact HB.out | apply below_alloc | apply pw_below_drewN | apply below_drew1) | exact HB.out)⟩
                       ·rw [if_neg c46] at H
                        exact absurd H (by simp)
                      ·rw [if_neg c45] at H
                       exact absurd H (by simp)
                     ·rw [if_neg c43] at H
                      exact absurd H (by simp)
                    ·rw [if_neg c42] at H
                     have c42b0 : decide (x22_4 < (t389.length : Int)) = false := decide_eq_false c42
                     clear c42
                     simp only [Option.some.injEq, Prod.mk.injEq] at H
                     obtain ⟨rfl, rfl, rfl⟩ := H
                     go_wp2
                     repeat (go_quiet (fail); try go_wp2)
                     go_ret3
                     exact ⟨_, er_, by (with_reducible repeat (first | apply Kd.R_alloc | apply Kd.R_drewN | apply Kd.R_drew)); exact HO_19.out, by repeat (first | (with_reducible first | exact HB.out | apply below_alloc | apply pw_below_drewN | apply below_drew1) | exact HB.out)⟩
                 ·rw [if_neg c38] at H
                  have c38b0 : ((t389.length : Int) == (wrap64 (t381 - a1))) = false := beq_eq_false_iff_ne.mpr c38
                  have c38b1 : ((t389.length : Int) != (wrap64 (t381 - a1))) = true := bne_iff_ne.mpr c38
                  simp only [Option.some.injEq, Prod.mk.injEq] at H
                  obtain ⟨rfl, rfl, rfl⟩ := H
                  obtain ⟨Ao48, co48, eo48⟩ := Kd.R_slice HO_19.out
                  subst eo48
                  go_wp2_with (first | (go_at_call 42; (with_reducible refine (laminaref08_Encode.calls k3 _ _ x19_3 t389 _ ?side1 ?side2 A37.out).mono ?_); (case side1 => exact ca_ (Kd.R_reads' HO_19.out).2.2); (case side2 => exact (Kd.R_reads' HO_19.out).2.1); rintro e w49 ⟨v390, rfl, ho0, hb⟩; have n0_ := Aside0.mk (Kd.R_below (rb_ HO_15) hb); have n1_ := Aside0.mk (Kd.R_below (rb_ HO_19) hb); have n2_ := Aside0.mk (Kd.R_lower ho0 (below_size (bb_ HB))); have n3_ := Aside0.mk (below_step (bb_ HB) hb); clear HO_15; clear HO_19; clear HB; have HO_15 := n0_; have HO_19 := n1_; have HO391 := n2_; have HB := n3_; clear n0_ n1_ n2_ n3_; (try clear hb); (try clear hb2); (try clear hk); (try clear hi); (try clear ho0); obtain ⟨Ao50, co50, eo50⟩ := Kd.R_slice HO391.out; subst eo50))
                  repeat (go_quiet (first | (go_at_call 42; (with_reducible refine (laminaref08_Encode.calls k3 _ _ x19_3 t389 _ ?side1 ?side2 A37.out).mono ?_); (case side1 => exact ca_ (Kd.R_reads' HO_19.out).2.2); (case side2 => exact (Kd.R_reads' HO_19.out).2.1); rintro e w49 ⟨v390, rfl, ho0, hb⟩; have n0_ := Aside0.mk (Kd.R_below (rb_ HO_15) hb); have n1_ := Aside0.mk (Kd.R_below (rb_ HO_19) hb); have n2_ := Aside0.mk (Kd.R_lower ho0 (below_size (bb_ HB))); have n3_ := Aside0.mk (below_step (bb_ HB) hb); clear HO_15; clear HO_19; clear HB; have HO_15 := n0_; have HO_19 := n1_; have HO391 := n2_; have HB := n3_; clear n0_ n1_ n2_ n3_; (try clear hb); (try clear hb2); (try clear hk); (try clear hi); (try clear ho0); obtain ⟨Ao50, co50, eo50⟩ := Kd.R_slice HO391.out; subst eo50)); try go_wp2_with (first | (go_at_call 42; (with_reducible refine (laminaref08_Encode.calls k3 _ _ x19_3 t389 _ ?side1 ?side2 A37.out).mono ?_); (case side1 => exact ca_ (Kd.R_reads' HO_19.out).2.2); (case side2 => exact (Kd.R_reads' HO_19.out).2.1); rintro e w49 ⟨v390, rfl, ho0, hb⟩; have n0_ := Aside0.mk (Kd.R_below (rb_ HO_15) hb); have n1_ := Aside0.mk (Kd.R_below (rb_ HO_19) hb); have n2_ := Aside0.mk (Kd.R_lower ho0 (below_size (bb_ HB))); have n3_ := Aside0.mk (below_step (bb_ HB) hb); clear HO_15; clear HO_19; clear HB; have HO_15 := n0_; have HO_19 := n1_; have HO391 := n2_; have HB := n3_; clear n0_ n1_ n2_ n3_; (try clear hb); (try clear hb2); (try clear hk); (try clear hi); (try clear ho0); obtain ⟨Ao50, co50, eo50⟩ := Kd.R_slice HO391.out; subst eo50)))
                  go_ret3
                  exact ⟨_, er_, by first | exact Kd.R_nil _ _ _ _ _ | exact Kd.N_nil _ _ _ _ _ | exact Kd.V_nil _ _ _ _ _ | exact Kd.Q_nil _ _ _ _ _ | exact Kd.S_nil _ _ _ _ _, by repeat (first | (with_reducible first | exact HB.out | apply below_alloc | apply pw_below_drewN | apply below_drew1) | exact HB.out)⟩
             ·rw [if_neg c28] at H
              have c28b0 : (t382 == 0) = false := beq_eq_false_iff_ne.mpr c28
              have c28b1 : (t382 != 0) = true := bne_iff_ne.mpr c28
              simp only [Option.some.injEq, Prod.mk.injEq] at H
              obtain ⟨rfl, rfl, rfl⟩ := H
              obtain ⟨Ao51, co51, eo51⟩ := Kd.R_slice HO_15.out
              subst eo51
              go_wp2_with (first | (go_at_call 71; (with_reducible refine (laminaref08_exceptions.calls k2 _ _ l0 (wrap64 (t373 + t375)) (wrap64 (t372)) (wrap64 (t369)) (fun k_ => some k_ = (.slice Ao51 x15_2.length co51 : Value).ownBlock) (.slice Ao51 x15_2.length co51) x15_2 t381 t382 t383 w _ ?side1 ?side2 ?side3 ?side4 A27.out).mono ?_); (case side1 => repeat (first | (with_reducible first | exact HB.out | apply below_alloc | apply pw_below_drewN | apply below_drew1) | exact HB.out)); (case side2 => exact Kd.C_kept_came (Kd.heap_int .u8) HR0.out (bb_ HB) (fun k_ hs_ => (fun e_ => Kd.R_base HO_15.out k_ e_.symm) hs_)); (case side3 => exact HC0.out); (case side4 => exact Kd.R_tight rfl HO_15.out); rintro e w52 ⟨rfl, hy0, hb, hkp⟩; have n0_ := Aside0.mk (Kd.R_reok rfl hy0 (fun k_ e_ => HO_15.out.1 k_ e_)); have n1_ := Aside0.mk (hb); clear HO_15; clear HB; have HO_15 := n0_; have HB := n1_; clear n0_ n1_; (try clear hb); (try clear hkp); (try clear hy0)))
              repeat (go_quiet (first | (go_at_call 71; (with_reducible refine (laminaref08_exceptions.calls k2 _ _ l0 (wrap64 (t373 + t375)) (wrap64 (t372)) (wrap64 (t369)) (fun k_ => some k_ = (.slice Ao51 x15_2.length co51 : Value).ownBlock) (.slice Ao51 x15_2.length co51) x15_2 t381 t382 t383 w _ ?side1 ?side2 ?side3 ?side4 A27.out).mono ?_); (case side1 => repeat (first | (with_reducible first | exact HB.out | apply below_alloc | apply pw_below_drewN | apply below_drew1) | exact HB.out)); (case side2 => exact Kd.C_kept_came (Kd.heap_int .u8) HR0.out (bb_ HB) (fun k_ hs_ => (fun e_ => Kd.R_base HO_15.out k_ e_.symm) hs_)); (case side3 => exact HC0.out); (case side4 => exact Kd.R_tight rfl HO_15.out); rintro e w52 ⟨rfl, hy0, hb, hkp⟩; have n0_ := Aside0.mk (Kd.R_reok rfl hy0 (fun k_ e_ => HO_15.out.1 k_ e_)); have n1_ := Aside0.mk (hb); clear HO_15; clear HB; have HO_15 := n0_; have HB := n1_; clear n0_ n1_; (try clear hb); (try clear hkp); (try clear hy0))); try go_wp2_with (first | (go_at_call 71; (with_reducible refine (laminaref08_exceptions.calls k2 _ _ l0 (wrap64 (t373 + t375)) (wrap64 (t372)) (wrap64 (t369)) (fun k_ => some k_ = (.slice Ao51 x15_2.length co51 : Value).ownBlock) (.slice Ao51 x15_2.length co51) x15_2 t381 t382 t383 w _ ?side1 ?side2 ?side3 ?side4 A27.out).mono ?_); (case side1 => repeat (first | (with_reducible first | exact HB.out | apply below_alloc | apply pw_below_drewN | apply below_drew1) | exact HB.out)); (case side2 => exact Kd.C_kept_came (Kd.heap_int .u8) HR0.out (bb_ HB) (fun k_ hs_ => (fun e_ => Kd.R_base HO_15.out k_ e_.symm) hs_)); (case side3 => exact HC0.out); (case side4 => exact Kd.R_tight rfl HO_15.out); rintro e w52 ⟨rfl, hy0, hb, hkp⟩; have n0_ := Aside0.mk (Kd.R_reok rfl hy0 (fun k_ e_ => HO_15.out.1 k_ e_)); have n1_ := Aside0.mk (hb); clear HO_15; clear HB; have HO_15 := n0_; have HB := n1_; clear n0_ n1_; (try clear hb); (try clear hkp); (try clear hy0))))
              go_ret3
              exact ⟨_, er_, by first | exact Kd.R_nil _ _ _ _ _ | exact Kd.N_nil _ _ _ _ _ | exact Kd.V_nil _ _ _ _ _ | exact Kd.Q_nil _ _ _ _ _ | exact Kd.S_nil _ _ _ _ _, by repeat (first | (with_reducible first | exact HB.out | apply below_alloc | apply pw_below_drewN | apply below_drew1) | exact HB.out)⟩
       ·rw [if_neg c15] at H
        have c15b0 : (t374 == 0) = false := beq_eq_false_iff_ne.mpr c15
        have c15b1 : (t374 != 0) = true := bne_iff_ne.mpr c15
        simp only [Option.some.injEq, Prod.mk.injEq] at H
        obtain ⟨rfl, rfl, rfl⟩ := H
        go_wp2_with (first | (go_at_call 70; (with_reducible refine (laminaref01_Decode.calls kj3 _ _ l0 a1 t366 t367 t368 _ ?side1 ?side2 A9.out).mono ?_); (case side1 => exact ca_ (Kd.C_below HR0.out HB.out)); (case side2 => exact HC0.out); rintro e w' ⟨rfl, ⟨nd, rfl⟩⟩; (try first | exact ⟨rfl, _, World.drewN_drewN _ _ _⟩ | exact ⟨rfl, _, Eq.trans (World.drewN_drewN _ _ _) (congrArg (World.drewN _) (Nat.add_assoc _ _ _))⟩)) | (go_at_call 70; (with_reducible refine (laminaref01_Decode.calls kj3 _ _ l0 t367 t369 t370 t371 _ ?side1 ?side2 A11.out).mono ?_); (case side1 => repeat (first | exact (Kd.C_below HR0.out (bb_ HB)) | (with_reducible refine Kd.C_alloc ?_ _) | (with_reducible refine Kd.C_drewN ?_ _) | (with_reducible refine Kd.C_drew ?_))); (case side2 => exact HC0.out); rintro e w' ⟨rfl, ⟨nd, rfl⟩⟩; (try first | exact ⟨rfl, _, World.drewN_drewN _ _ _⟩ | exact ⟨rfl, _, Eq.trans (World.drewN_drewN _ _ _) (congrArg (World.drewN _) (Nat.add_assoc _ _ _))⟩)) | (go_at_call 70; (with_reducible refine (laminaref01_Decode.calls kj3 _ _ l0 t370 t372 t373 t374 _ ?side1 ?side2 A14.out).mono ?_); (case side1 => repeat (first | exact (Kd.C_below HR0.out (bb_ HB)) | (with_reducible refine Kd.C_alloc ?_ _) | (with_reducible refine Kd.C_drewN ?_ _) | (with_reducible refine Kd.C_drew ?_))); (case side2 => exact HC0.out); rintro e w' ⟨rfl, ⟨nd, rfl⟩⟩; (try first | exact ⟨rfl, _, World.drewN_drewN _ _ _⟩ | exact ⟨rfl, _, Eq.trans (World.drewN_drewN _ _ _) (congrArg (World.drewN _) (Nat.add_assoc _ _ _))⟩)))
        repeat (go_quiet (first | (go_at_call 70; (with_reducible refine (laminaref01_Decode.calls kj3 _ _ l0 a1 t366 t367 t368 _ ?side1 ?side2 A9.out).mono ?_); (case side1 => exact ca_ (Kd.C_below HR0.out HB.out)); (case side2 => exact HC0.out); rintro e w' ⟨rfl, ⟨nd, rfl⟩⟩; (try first | exact ⟨rfl, _, World.drewN_drewN _ _ _⟩ | exact ⟨rfl, _, Eq.trans (World.drewN_drewN _ _ _) (congrArg (World.drewN _) (Nat.add_assoc _ _ _))⟩)) | (go_at_call 70; (with_reducible refine (laminaref01_Decode.calls kj3 _ _ l0 t367 t369 t370 t371 _ ?side1 ?side2 A11.out).mono ?_); (case side1 => repeat (first | exact (Kd.C_below HR0.out (bb_ HB)) | (with_reducible refine Kd.C_alloc ?_ _) | (with_reducible refine Kd.C_drewN ?_ _) | (with_reducible refine Kd.C_drew ?_))); (case side2 => exact HC0.out); rintro e w' ⟨rfl, ⟨nd, rfl⟩⟩; (try first | exact ⟨rfl, _, World.drewN_drewN _ _ _⟩ | exact ⟨rfl, _, Eq.trans (World.drewN_drewN _ _ _) (congrArg (World.drewN _) (Nat.add_assoc _ _ _))⟩)) | (go_at_call 70; (with_reducible refine (laminaref01_Decode.calls kj3 _ _ l0 t370 t372 t373 t374 _ ?side1 ?side2 A14.out).mono ?_); (case side1 => repeat (first | exact (Kd.C_below HR0.out (bb_ HB)) | (with_reducible refine Kd.C_alloc ?_ _) | (with_reducible refine Kd.C_drewN ?_ _) | (with_reducible refine Kd.C_drew ?_))); (case side2 => exact HC0.out); rintro e w' ⟨rfl, ⟨nd, rfl⟩⟩; (try first | exact ⟨rfl, _, World.drewN_drewN _ _ _⟩ | exact ⟨rfl, _, Eq.trans (World.drewN_drewN _ _ _) (congrArg (World.drewN _) (Nat.add_assoc _ _ _))⟩))); try go_wp2_with (first | (go_at_call 70; (with_reducible refine (laminaref01_Decode.calls kj3 _ _ l0 a1 t366 t367 t368 _ ?side1 ?side2 A9.out).mono ?_); (case side1 => exact ca_ (Kd.C_below HR0.out HB.out)); (case side2 => exact HC0.out); rintro e w' ⟨rfl, ⟨nd, rfl⟩⟩; (try first | exact ⟨rfl, _, World.drewN_drewN _ _ _⟩ | exact ⟨rfl, _, Eq.trans (World.drewN_drewN _ _ _) (congrArg (World.drewN _) (Nat.add_assoc _ _ _))⟩)) | (go_at_call 70; (with_reducible refine (laminaref01_Decode.calls kj3 _ _ l0 t367 t369 t370 t371 _ ?side1 ?side2 A11.out).mono ?_); (case side1 => repeat (first | exact (Kd.C_below HR0.out (bb_ HB)) | (with_reducible refine Kd.C_alloc ?_ _) | (with_reducible refine Kd.C_drewN ?_ _) | (with_reducible refine Kd.C_drew ?_))); (case side2 => exact HC0.out); rintro e w' ⟨rfl, ⟨nd, rfl⟩⟩; (try first | exact ⟨rfl, _, World.drewN_drewN _ _ _⟩ | exact ⟨rfl, _, Eq.trans (World.drewN_drewN _ _ _) (congrArg (World.drewN _) (Nat.add_assoc _ _ _))⟩)) | (go_at_call 70; (with_reducible refine (laminaref01_Decode.calls kj3 _ _ l0 t370 t372 t373 t374 _ ?side1 ?side2 A14.out).mono ?_); (case side1 => repeat (first | exact (Kd.C_below HR0.out (bb_ HB)) | (with_reducible refine Kd.C_alloc ?_ _) | (with_reducible refine Kd.C_drewN ?_ _) | (with_reducible refine Kd.C_drew ?_))); (case side2 => exact HC0.out); rintro e w' ⟨rfl, ⟨nd, rfl⟩⟩; (try first | exact ⟨rfl, _, World.drewN_drewN _ _ _⟩ | exact ⟨rfl, _, Eq.trans (World.drewN_drewN _ _ _) (congrArg (World.drewN _) (Nat.add_assoc _ _ _))⟩))))
        go_ret3
        exact ⟨_, er_, by first | exact Kd.R_nil _ _ _ _ _ | exact Kd.N_nil _ _ _ _ _ | exact Kd.V_nil _ _ _ _ _ | exact Kd.Q_nil _ _ _ _ _ | exact Kd.S_nil _ _ _ _ _, by repeat (first | (with_reducible first | exact HB.out | apply below_alloc | apply pw_below_drewN | apply below_drew1) | exact HB.out)⟩
     ·rw [if_neg c12] at H
      have c12b0 : (t371 == 0) = false := beq_eq_false_iff_ne.mpr c12
      have c12b1 : (t371 != 0) = true := bne_iff_ne.mpr c12
      simp only [Option.some.injEq, Prod.mk.injEq] at H
      obtain ⟨rfl, rfl, rfl⟩ := H
      go_wp2_with (first | (go_at_call 70; (with_reducible refine (laminaref01_Decode.calls kj3 _ _ l0 a1 t366 t367 t368 _ ?side1 ?side2 A9.out).mono ?_); (case side1 => exact ca_ (Kd.C_below HR0.out HB.out)); (case side2 => exact HC0.out); rintro e w' ⟨rfl, ⟨nd, rfl⟩⟩; (try first | exact ⟨rfl, _, World.drewN_drewN _ _ _⟩ | exact ⟨rfl, _, Eq.trans (World.drewN_drewN _ _ _) (congrArg (World.drewN _) (Nat.add_assoc _ _ _))⟩)) | (go_at_call 70; (with_reducible refine (laminaref01_Decode.calls kj3 _ _ l0 t367 t369 t370 t371 _ ?side1 ?side2 A11.out).mono ?_); (case side1 => repeat (first | exact (Kd.C_below HR0.out (bb_ HB)) | (with_reducible refine Kd.C_alloc ?_ _) | (with_reducible refine Kd.C_drewN ?_ _) | (with_reducible refine Kd.C_drew ?_))); (case side2 => exact HC0.out); rintro e w' ⟨rfl, ⟨nd, rfl⟩⟩; (try first | exact ⟨rfl, _, World.drewN_drewN _ _ _⟩ | exact ⟨rfl, _, Eq.trans (World.drewN_drewN _ _ _) (congrArg (World.drewN _) (Nat.add_assoc _ _ _))⟩)))
      repeat (go_quiet (first | (go_at_call 70; (with_reducible refine (laminaref01_Decode.calls kj3 _ _ l0 a1 t366 t367 t368 _ ?side1 ?side2 A9.out).mono ?_); (case side1 => exact ca_ (Kd.C_below HR0.out HB.out)); (case side2 => exact HC0.out); rintro e w' ⟨rfl, ⟨nd, rfl⟩⟩; (try first | exact ⟨rfl, _, World.drewN_drewN _ _ _⟩ | exact ⟨rfl, _, Eq.trans (World.drewN_drewN _ _ _) (congrArg (World.drewN _) (Nat.add_assoc _ _ _))⟩)) | (go_at_call 70; (with_reducible refine (laminaref01_Decode.calls kj3 _ _ l0 t367 t369 t370 t371 _ ?side1 ?side2 A11.out).mono ?_); (case side1 => repeat (first | exact (Kd.C_below HR0.out (bb_ HB)) | (with_reducible refine Kd.C_alloc ?_ _) | (with_reducible refine Kd.C_drewN ?_ _) | (with_reducible refine Kd.C_drew ?_))); (case side2 => exact HC0.out); rintro e w' ⟨rfl, ⟨nd, rfl⟩⟩; (try first | exact ⟨rfl, _, World.drewN_drewN _ _ _⟩ | exact ⟨rfl, _, Eq.trans (World.drewN_drewN _ _ _) (congrArg (World.drewN _) (Nat.add_assoc _ _ _))⟩))); try go_wp2_with (first | (go_at_call 70; (with_reducible refine (laminaref01_Decode.calls kj3 _ _ l0 a1 t366 t367 t368 _ ?side1 ?side2 A9.out).mono ?_); (case side1 => exact ca_ (Kd.C_below HR0.out HB.out)); (case side2 => exact HC0.out); rintro e w' ⟨rfl, ⟨nd, rfl⟩⟩; (try first | exact ⟨rfl, _, World.drewN_drewN _ _ _⟩ | exact ⟨rfl, _, Eq.trans (World.drewN_drewN _ _ _) (congrArg (World.drewN _) (Nat.add_assoc _ _ _))⟩)) | (go_at_call 70; (with_reducible refine (laminaref01_Decode.calls kj3 _ _ l0 t367 t369 t370 t371 _ ?side1 ?side2 A11.out).mono ?_); (case side1 => repeat (first | exact (Kd.C_below HR0.out (bb_ HB)) | (with_reducible refine Kd.C_alloc ?_ _) | (with_reducible refine Kd.C_drewN ?_ _) | (with_reducible refine Kd.C_drew ?_))); (case side2 => exact HC0.out); rintro e w' ⟨rfl, ⟨nd, rfl⟩⟩; (try first | exact ⟨rfl, _, World.drewN_drewN _ _ _⟩ | exact ⟨rfl, _, Eq.trans (World.drewN_drewN _ _ _) (congrArg (World.drewN _) (Nat.add_assoc _ _ _))⟩))))
      go_ret3
      exact ⟨_, er_, by first | exact Kd.R_nil _ _ _ _ _ | exact Kd.N_nil _ _ _ _ _ | exact Kd.V_nil _ _ _ _ _ | exact Kd.Q_nil _ _ _ _ _ | exact Kd.S_nil _ _ _ _ _, by repeat (first | (with_reducible first | exact HB.out | apply below_alloc | apply pw_below_drewN | apply below_drew1) | exact HB.out)⟩
    ·rw [if_neg c10] at H
     have c10b0 : (t368 == 0) = false := beq_eq_false_iff_ne.mpr c10
     have c10b1 : (t368 != 0) = true := bne_iff_ne.mpr c10
     simp only [Option.some.injEq, Prod.mk.injEq] at H
     obtain ⟨rfl, rfl, rfl⟩ := H
     go_wp2_with (first | (go_at_call 70; (with_reducible refine (laminaref01_Decode.calls kj3 _ _ l0 a1 t366 t367 t368 _ ?side1 ?side2 A9.out).mono ?_); (case side1 => exact ca_ (Kd.C_below HR0.out HB.out)); (case side2 => exact HC0.out); rintro e w' ⟨rfl, ⟨nd, rfl⟩⟩; (try first | exact ⟨rfl, _, World.drewN_drewN _ _ _⟩ | exact ⟨rfl, _, Eq.trans (World.drewN_drewN _ _ _) (congrArg (World.drewN _) (Nat.add_assoc _ _ _))⟩)))
     repeat (go_quiet (first | (go_at_call 70; (with_reducible refine (laminaref01_Decode.calls kj3 _ _ l0 a1 t366 t367 t368 _ ?side1 ?side2 A9.out).mono ?_); (case side1 => exact ca_ (Kd.C_below HR0.out HB.out)); (case side2 => exact HC0.out); rintro e w' ⟨rfl, ⟨nd, rfl⟩⟩; (try first | exact ⟨rfl, _, World.drewN_drewN _ _ _⟩ | exact ⟨rfl, _, Eq.trans (World.drewN_drewN _ _ _) (congrArg (World.drewN _) (Nat.add_assoc _ _ _))⟩))); try go_wp2_with (first | (go_at_call 70; (with_reducible refine (laminaref01_Decode.calls kj3 _ _ l0 a1 t366 t367 t368 _ ?side1 ?side2 A9.out).mono ?_); (case side1 => exact ca_ (Kd.C_below HR0.out HB.out)); (case side2 => exact HC0.out); rintro e w' ⟨rfl, ⟨nd, rfl⟩⟩; (try first | exact ⟨rfl, _, World.drewN_drewN _ _ _⟩ | exact ⟨rfl, _, Eq.trans (World.drewN_drewN _ _ _) (congrArg (World.drewN _) (Nat.add_assoc _ _ _))⟩))))
     go_ret3
     exact ⟨_, er_, by first | exact Kd.R_nil _ _ _ _ _ | exact Kd.N_nil _ _ _ _ _ | exact Kd.V_nil _ _ _ _ _ | exact Kd.Q_nil _ _ _ _ _ | exact Kd.S_nil _ _ _ _ _, by repeat (first | (with_reducible first | exact HB.out | apply below_alloc | apply pw_below_drewN | apply below_drew1) | exact HB.out)⟩

end Go.Proofs.Ytllhbjkkoogeeaa.QDeltaDecode
