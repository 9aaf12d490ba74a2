-- Written by a program of this session (wip/pr2.sh): the walk of the Go text, function by function.
import Derived.Test.YtllhbjkkoogeeaaQDeltaDecodex0
import Derived.Test.YtllhbjkkoogeeaaQDeltaDecodex12
import Derived.Test.YtllhbjkkoogeeaaQDeltaDecodex13
import Derived.Test.YtllhbjkkoogeeaaQDeltaDecodex14
namespace Go.Proofs.Ytllhbjkkoogeeaa.QDeltaDecode
open Go.RowKit Go.Proofs.YtllhbjkkoogeeaaW.PrintWords Go.Proofs.YtllhbjkkoogeeaaW.PrintLast Go.Proofs.YtllhbjkkoogeeaaW.PrintMore
open Go.Proofs.YtllhbjkkoogeeaaM
attribute [local go_sem] max2_int min2_int max_two min_two max_three min_three max_four min_four   -- for this text's walks alone
set_option linter.unusedVariables false
set_option linter.unusedSimpArgs false

/-! ### laminaref09_Decode: function 54 -/
mutual
def laminaref09_Decode.j0 : Nat → List Int → Int → Int → Bool → Option (List Int × Int × Int)
 | 0, _, _, _, _ => none
 | k + 1, x0, x1, x2, x26 => if x26 = true then (some (([] : List Int), 0, 1)) else (if x1 ≥ (x0.length : Int) then (some (([] : List Int), 0, 2)) else (if 0 ≤ x1 then (if x1 < (x0.length : Int) then (if (wrap64 (rd x0 x1)) = 1 then (laminaref09_Decode.j1 k x0 x1 x2 (wrap64 (rd x0 x1)) false) else (if (wrap64 (rd x0 x1)) = 2 then (laminaref09_Decode.j1 k x0 x1 x2 (wrap64 (rd x0 x1)) (decide (x2 < 2))) else (laminaref09_Decode.j1 k x0 x1 x2 (wrap64 (rd x0 x1)) true))) else (none)) else (none)))
def laminaref09_Decode.j1 : Nat → List Int → Int → Int → Int → Bool → Option (List Int × Int × Int)
 | 0, _, _, _, _, _ => none
 | k + 1, x0, x1, x2, x9, x45 => if x45 = true then (some (([] : List Int), 0, 4)) else ((laminaref09_heads.f k x0 (wrap64 (x1 + 1)) (mn x9 x2)).bind fun bt441 => (if bt441.2.2 = 0 then ((laminaref08_Decode.f k x0 bt441.2.1 (mx (wrap64 (x2 - x9)) 0)).bind fun bt446 => (if bt446.2.2 = 0 then (laminaref09_Decode.l0 k x0 x1 bt441.1 bt446.2.1 bt446.1 (wrap64 ((bt441.1.length : Int) - 1))) else (some (([] : List Int), 0, bt446.2.2)))) else (some (([] : List Int), 0, bt441.2.2))))
def laminaref09_Decode.l0 : Nat → List Int → Int → List Int → Int → List Int → Int → Option (List Int × Int × Int)
 | 0, _, _, _, _, _, _ => none
 | k + 1, x0, x1, x10, x14, x15, x16 => if x16 ≥ 0 then (if 0 ≤ x16 then (if x16 < (x10.length : Int) then ((laminaref09_PrefixSums.f k (rd x10 x16) x15).bind fun t452 => (laminaref09_Decode.l0 k x0 x1 x10 x14 t452 (wrap64 (x16 - 1)))) else (none)) else (none)) else ((laminaref09_Encode.f k x15).bind fun t455 => (if 0 ≤ x1 then (if x1 ≤ x14 then (if x14 ≤ (x0.length : Int) then (if (strOfNums t455).toList = (strOfNums ((x0.take (x14 : Int).toNat).drop (x1 : Int).toNat)).toList then (some (x15, x14, 0)) else (some (([] : List Int), 0, 4))) else (none)) else (none)) else (none)))
end
def laminaref09_Decode.f (k : Nat) (l0 : List Int) (a1 : Int) (a2 : Int) : Option (List Int × Int × Int) := if a2 < 0 then (laminaref09_Decode.j0 k l0 a1 a2 true) else (if a2 > 65536 then (laminaref09_Decode.j0 k l0 a1 a2 true) else (laminaref09_Decode.j0 k l0 a1 a2 (decide (a1 < 0))))
theorem laminaref09_Decode.mono_l : ∀ k, (∀ y0 y1 y2 y3, LeO (laminaref09_Decode.j0 k y0 y1 y2 y3) (laminaref09_Decode.j0 (k + 1) y0 y1 y2 y3)) ∧ (∀ y0 y1 y2 y3 y4, LeO (laminaref09_Decode.j1 k y0 y1 y2 y3 y4) (laminaref09_Decode.j1 (k + 1) y0 y1 y2 y3 y4)) ∧ (∀ y0 y1 y2 y3 y4 y5, LeO (laminaref09_Decode.l0 k y0 y1 y2 y3 y4 y5) (laminaref09_Decode.l0 (k + 1) y0 y1 y2 y3 y4 y5))
 | 0 => ⟨fun _ _ _ _ r h => by simp [laminaref09_Decode.j0] at h, fun _ _ _ _ _ r h => by simp [laminaref09_Decode.j1] at h, fun _ _ _ _ _ _ r h => by simp [laminaref09_Decode.l0] at h⟩
 | k + 1 => by
  obtain ⟨ih0, ih1, ih2⟩ := laminaref09_Decode.mono_l k
  refine ⟨?_, ?_, ?_⟩
  ·intro y0 y1 y2 y3
   unfold laminaref09_Decode.j0
   repeat' first
   | (with_reducible exact ih0 _ _ _ _)
   | (with_reducible exact ih1 _ _ _ _ _)
   | (with_reducible exact ih2 _ _ _ _ _ _)
   | (with_reducible exact laminaref08_Decode.mono _ _ _ _)
   | (with_reducible exact laminaref09_Encode.mono _ _)
   | (with_reducible exact laminaref09_PrefixSums.mono _ _ _)
   | (with_reducible exact laminaref09_heads.mono _ _ _ _)
   | (with_reducible exact LeO.refl _)
   | (with_reducible exact LeO.none _)
   | (with_reducible refine LeO.ite ?_ ?_)
   | (with_reducible refine LeO.bind ?_ (fun _ => ?_))
   | exact ih0 _ _ _ _
   | exact ih1 _ _ _ _ _
   | exact ih2 _ _ _ _ _ _
   | exact laminaref08_Decode.mono _ _ _ _
   | exact laminaref09_Encode.mono _ _
   | exact laminaref09_PrefixSums.mono _ _ _
   | exact laminaref09_heads.mono _ _ _ _
   | exact LeO.none _
   | refine LeO.ite ?_ ?_
   | refine LeO.bind ?_ (fun _ => ?_)
  ·intro y0 y1 y2 y3 y4
   unfold laminaref09_Decode.j1
   repeat' first
   | (with_reducible exact ih0 _ _ _ _)
   | (with_reducible exact ih1 _ _ _ _ _)
   | (with_reducible exact ih2 _ _ _ _ _ _)
   | (with_reducible exact laminaref08_Decode.mono _ _ _ _)
   | (with_reducible exact laminaref09_Encode.mono _ _)
   | (with_reducible exact laminaref09_PrefixSums.mono _ _ _)
   | (with_reducible exact laminaref09_heads.mono _ _ _ _)
   | (with_reducible exact LeO.refl _)
   | (with_reducible exact LeO.none _)
   | (with_reducible refine LeO.ite ?_ ?_)
   | (with_reducible refine LeO.bind ?_ (fun _ => ?_))
   | exact ih0 _ _ _ _
   | exact ih1 _ _ _ _ _
   | exact ih2 _ _ _ _ _ _
   | exact laminaref08_Decode.mono _ _ _ _
   | exact laminaref09_Encode.mono _ _
   | exact laminaref09_PrefixSums.mono _ _ _
   | exact laminaref09_heads.mono _ _ _ _
   | exact LeO.none _
   | refine LeO.ite ?_ ?_
   | refine LeO.bind ?_ (fun _ => ?_)
  ·intro y0 y1 y2 y3 y4 y5
   unfold laminaref09_Decode.l0
   repeat' first
   | (with_reducible exact ih0 _ _ _ _)
   | (with_reducible exact ih1 _ _ _ _ _)
   | (with_reducible exact ih2 _ _ _ _ _ _)
   | (with_reducible exact laminaref08_Decode.mono _ _ _ _)
   | (with_reducible exact laminaref09_Encode.mono _ _)
   | (with_reducible exact laminaref09_PrefixSums.mono _ _ _)
   | (with_reducible exact laminaref09_heads.mono _ _ _ _)
   | (with_reducible exact LeO.refl _)
   | (with_reducible exact LeO.none _)
   | (with_reducible refine LeO.ite ?_ ?_)
   | (with_reducible refine LeO.bind ?_ (fun _ => ?_))
   | exact ih0 _ _ _ _
   | exact ih1 _ _ _ _ _
   | exact ih2 _ _ _ _ _ _
   | exact laminaref08_Decode.mono _ _ _ _
   | exact laminaref09_Encode.mono _ _
   | exact laminaref09_PrefixSums.mono _ _ _
   | exact laminaref09_heads.mono _ _ _ _
   | exact LeO.none _
   | refine LeO.ite ?_ ?_
   | refine LeO.bind ?_ (fun _ => ?_)
theorem laminaref09_Decode.mono : ∀ a0 a1 a2 k, LeO (laminaref09_Decode.f k a0 a1 a2) (laminaref09_Decode.f (k + 1) a0 a1 a2) := by
 intro a0 a1 a2 k
 obtain ⟨ih0, ih1, ih2⟩ := laminaref09_Decode.mono_l k
 unfold laminaref09_Decode.f
 repeat' first
   | (with_reducible exact ih0 _ _ _ _)
   | (with_reducible exact ih1 _ _ _ _ _)
   | (with_reducible exact ih2 _ _ _ _ _ _)
   | (with_reducible exact laminaref08_Decode.mono _ _ _ _)
   | (with_reducible exact laminaref09_Encode.mono _ _)
   | (with_reducible exact laminaref09_PrefixSums.mono _ _ _)
   | (with_reducible exact laminaref09_heads.mono _ _ _ _)
   | (with_reducible exact LeO.refl _)
   | (with_reducible exact LeO.none _)
   | (with_reducible refine LeO.ite ?_ ?_)
   | (with_reducible refine LeO.bind ?_ (fun _ => ?_))
   | exact ih0 _ _ _ _
   | exact ih1 _ _ _ _ _
   | exact ih2 _ _ _ _ _ _
   | exact laminaref08_Decode.mono _ _ _ _
   | exact laminaref09_Encode.mono _ _
   | exact laminaref09_PrefixSums.mono _ _ _
   | exact laminaref09_heads.mono _ _ _ _
   | exact LeO.none _
   | refine LeO.ite ?_ ?_
   | refine LeO.bind ?_ (fun _ => ?_)
def laminaref09_Decode.T19 : Bool × List (List Nat × List Nat) := (true, [([], []), ([0], [0]), ([1], [1]), ([], []), ([], []), ([], []), ([3, 4, 5], [3, 4, 5]), ([6], [6]), ([2, 7], [2, 7])])
def laminaref09_Decode.B19 : List Nat := [0, 1, 3, 0, 0, 0, 56, 120, 255]
theorem laminaref09_Decode.tab19 : rtab .any (opsOf Try.f54 19) = laminaref09_Decode.T19 := by kernel_rfl
theorem laminaref09_Decode.bits19 : waitsOk laminaref09_Decode.T19.2 laminaref09_Decode.B19 = true := by kernel_rfl
set_option maxHeartbeats 8000000 in
set_option maxRecDepth 100000 in
theorem laminaref09_Decode.calls (k : Nat) (A0 : Option Addr) (c0 : Nat) (l0 : List Int) (a1 : Int) (a2 : Int) (r1 : List Int) (r2 : Int) (r3 : Int) (w : World) (hr0 : Kd.C (Kd.int .u8) w A0 l0.length l0) (hc0 : l0.length ≤ c0) (h : laminaref09_Decode.f k l0 a1 a2 = some (r1, r2, r3)) :
  Calls Try.prog 54 #[.slice A0 l0.length c0, .int .i64 a1, .int .i64 a2] w fun e w' => ∃ v0_ : Value, e = .returned (.tuple #[v0_, .int .i64 r2, .int .i64 r3]) ∧ Kd.R (Kd.int .i64) 2 w' w.heap.size (fun _ => True) v0_ r1 ∧ Below w.heap.size w w' := by
 have HR0 := Aside0.mk hr0
 have HC0 := Aside0.mk hc0
 clear hr0 hc0
 have HB := Aside0.mk (Below.refl w.heap.size w)
 have H : (if a2 < 0 then (laminaref09_Decode.j0 k l0 a1 a2 true) else (if a2 > 65536 then (laminaref09_Decode.j0 k l0 a1 a2 true) else (laminaref09_Decode.j0 k l0 a1 a2 (decide (a1 < 0))))) = some (r1, r2, r3) := h
 clear h
 have HC4 := Aside0.mk H
 clear H
 go_enter Try.func54, Try.ntmps54
 go_upto_region 1 with (fail)
 go_cut [26] (fun v26 wc => ∃ (kq : Nat) (x26_3 : Bool), v26 = .bool x26_3 ∧ Aside0 (laminaref09_Decode.j0 kq l0 a1 a2 x26_3 = some (r1, r2, r3)) ∧ Aside0 (kq ≤ k) ∧ Aside0 (Below w.heap.size w wc))
 case first =>
  have H := HC4.out
  clear HC4
  by_cases c5 : a2 < 0
  ·rw [if_pos c5] at H
   have c5b0 : decide (a2 < 0) = true := decide_eq_true c5
   clear c5
   (first | rw [c5b0] | (simp only [i64_w, i32_w]; rw [c5b0]) | skip)
   have H' := Aside0.mk H
   clear H
   go_wp2
   go_meet
   case rel => exact ⟨_, (true), fr_, H', ⟨by first | omega | exact Nat.le_refl _⟩, ⟨by repeat (first | (with_reducible first | exact HB.out | apply below_alloc | apply pw_below_drewN | apply below_drew1) | exact HB.out)⟩⟩
  ·rw [if_neg c5] at H
   have c5b0 : decide (a2 < 0) = false := decide_eq_false c5
   clear c5
   (first | rw [c5b0] | (simp only [i64_w, i32_w]; rw [c5b0]) | skip)
   by_cases c6 : a2 > 65536
   ·rw [if_pos c6] at H
    have c6b0 : decide (65536 < a2) = true := decide_eq_true c6
    clear c6
    have H' := Aside0.mk H
    clear H
    go_wp2
    go_meet
    case rel => exact ⟨_, (true), fr_, H', ⟨by first | omega | exact Nat.le_refl _⟩, ⟨by repeat (first | (with_reducible first | exact HB.out | apply below_alloc | apply pw_below_drewN | apply below_drew1) | exact HB.out)⟩⟩
   ·rw [if_neg c6] at H
    have c6b0 : decide (65536 < a2) = false := decide_eq_false c6
    clear c6
    have H' := Aside0.mk H
    clear H
    go_wp2
    go_meet
    case rel => exact ⟨_, (decide (a1 < 0)), fr_, H', ⟨by first | omega | exact Nat.le_refl _⟩, ⟨by repeat (first | (with_reducible first | exact HB.out | apply below_alloc | apply pw_below_drewN | apply below_drew1) | exact HB.out)⟩⟩
 case rest =>
  clear HC4
  try clear p2
  try clear c5
  try clear c5b0
  try clear c6
  try clear c6b0
  obtain ⟨kq, x26_3, rfl, HA, HJ3, HB⟩ := hcut
  cases kq with
  | zero => exact absurd HA.out (by simp [laminaref09_Decode.j0])
  | succ kj3 =>
   have H := HA.out
   clear HA
   simp only [laminaref09_Decode.j0] at H
   by_cases c7 : x26_3 = true
   ·subst c7
    have H1 : (some (([] : List Int), 0, 1)) = some (r1, r2, r3) := by rw [if_pos rfl] at H; exact H
    clear H
    have H := H1
    clear H1
    simp only [Option.some.injEq, Prod.mk.injEq] at H
    obtain ⟨rfl, rfl, rfl⟩ := H
    go_wp2
    go_ret3
    exact ⟨_, er_, by first | exact Kd.R_nil _ _ _ _ _ | exact Kd.N_nil _ _ _ _ _ | exact Kd.V_nil _ _ _ _ _ | exact Kd.Q_nil _ _ _ _ _ | exact Kd.S_nil _ _ _ _ _, by repeat (first | (with_reducible first | exact HB.out | apply below_alloc | apply pw_below_drewN | apply below_drew1) | exact HB.out)⟩
   ·replace c7 := Bool.eq_false_iff.mpr c7
    subst c7
    have H1 : (if a1 ≥ (l0.length : Int) then (some (([] : List Int), 0, 2)) else (if 0 ≤ a1 then (if a1 < (l0.length : Int) then (if (wrap64 (rd l0 a1)) = 1 then (laminaref09_Decode.j1 kj3 l0 a1 a2 (wrap64 (rd l0 a1)) false) else (if (wrap64 (rd l0 a1)) = 2 then (laminaref09_Decode.j1 kj3 l0 a1 a2 (wrap64 (rd l0 a1)) (decide (a2 < 2))) else (laminaref09_Decode.j1 kj3 l0 a1 a2 (wrap64 (rd l0 a1)) true))) else (none)) else (none))) = some (r1, r2, r3) := by rw [if_neg (show ¬ (false = true) by decide)] at H; exact H
    clear H
    have H := H1
    clear H1
    by_cases c8 : a1 ≥ (l0.length : Int)
    ·rw [if_pos c8] at H
     have c8b0 : decide ((l0.length : Int) ≤ a1) = true := decide_eq_true c8
     clear c8
     simp only [Option.some.injEq, Prod.mk.injEq] at H
     obtain ⟨rfl, rfl, rfl⟩ := H
     go_wp2
     go_ret3
     exact ⟨_, er_, by first | exact Kd.R_nil _ _ _ _ _ | exact Kd.N_nil _ _ _ _ _ | exact Kd.V_nil _ _ _ _ _ | exact Kd.Q_nil _ _ _ _ _ | exact Kd.S_nil _ _ _ _ _, by repeat (first | (with_reducible first | exact HB.out | apply below_alloc | apply pw_below_drewN | apply below_drew1) | exact HB.out)⟩
    ·rw [if_neg c8] at H
     have c8b0 : decide ((l0.length : Int) ≤ a1) = false := decide_eq_false c8
     clear c8
     by_cases c9 : 0 ≤ a1
     ·rw [if_pos c9] at H
      have c9b0 : decide (0 ≤ a1) = true := decide_eq_true c9
      clear c9
      by_cases c10 : a1 < (l0.length : Int)
      ·rw [if_pos c10] at H
       have c10b0 : decide (a1 < (l0.length : Int)) = true := decide_eq_true c10
       clear c10
       have HC11 := Aside0.mk H
       clear H
       have p440 : 0 ≤ (a1 : Int) := of_decide_eq_true as_
       have q440 : a1 < (l0.length : Int) := of_decide_eq_true as_
       obtain ⟨ad440, e440, hx440_0⟩ := Kd.at_int HR0.out a1 p440 q440
       cases e440
       replace hx440_0 := (HB.out.cell (World.block_lt_of_cell? w _ hx440_0)).trans hx440_0
       replace p440 := eq_true p440
       replace q440 := eq_true q440
       go_upto_region 6 with (fail)
       go_cut [45] (fun v45 wc => ∃ (kq : Nat) (x45_10 : Bool), v45 = .bool x45_10 ∧ Aside0 (laminaref09_Decode.j1 kq l0 a1 a2 (wrap64 (rd l0 a1)) x45_10 = some (r1, r2, r3)) ∧ Aside0 (kq ≤ kj3) ∧ Aside0 (Below w.heap.size w wc))
       case first =>
        have H := HC11.out
        clear HC11
        by_cases c12 : (wrap64 (rd l0 a1)) = 1
        ·rw [if_pos c12] at H
         have c12b0 : ((wrap64 (rd l0 a1)) == 1) = true := beq_iff_eq.mpr c12
         have c12b1 : ((wrap64 (rd l0 a1)) != 1) = false := bne_eq_false_iff_eq.mpr c12
         clear c12
         (first | rw [c12b0] | (simp only [i64_w, i32_w]; rw [c12b0]) | skip)
         have H' := Aside0.mk H
         clear H
         go_wp2
         go_meet
         case rel => exact ⟨_, (false), fr_, H', ⟨by have := HJ3.out; first | omega | exact Nat.le_refl _⟩, ⟨by repeat (first | (with_reducible first | exact HB.out | apply below_alloc | apply pw_below_drewN | apply below_drew1) | exact HB.out)⟩⟩
        ·rw [if_neg c12] at H
         have c12b0 : ((wrap64 (rd l0 a1)) == 1) = false := beq_eq_false_iff_ne.mpr c12
         have c12b1 : ((wrap64 (rd l0 a1)) != 1) = true := bne_iff_ne.mpr c12
         (first | rw [c12b0] | (simp only [i64_w, i32_w]; rw [c12b0]) | skip)
         by_cases c13 : (wrap64 (rd l0 a1)) = 2
         ·rw [if_pos c13] at H
          have c13b0 : ((wrap64 (rd l0 a1)) == 2) = true := beq_iff_eq.mpr c13
          have c13b1 : ((wrap64 (rd l0 a1)) != 2) = false := bne_eq_false_iff_eq.mpr c13
          clear c13
          have H' := Aside0.mk H
          clear H
          go_wp2
          go_meet
          case rel => exact ⟨_, (decide (a2 < 2)), fr_, H', ⟨by have := HJ3.out; first | omega | exact Nat.le_refl _⟩, ⟨by repeat (first | (with_reducible first | exact HB.out | apply below_alloc | apply pw_below_drewN | apply below_drew1) | exact HB.out)⟩⟩
         ·rw [if_neg c13] at H
          have c13b0 : ((wrap64 (rd l0 a1)) == 2) = false := beq_eq_false_iff_ne.mpr c13
          have c13b1 : ((wrap64 (rd l0 a1)) != 2) = true := bne_iff_ne.mpr c13
          have H' := Aside0.mk H
          clear H
          go_wp2
          go_meet
          case rel => exact ⟨_, (true), fr_, H', ⟨by have := HJ3.out; first | omega | exact Nat.le_refl _⟩, ⟨by repeat (first | (with_reducible first | exact HB.out | apply below_alloc | apply pw_below_drewN | apply below_drew1) | exact HB.out)⟩⟩
       case rest =>
        clear HC11
        try clear c1
        try clear p2
        try clear p4
        try clear q4
        try clear hx4
        try clear c5
        try clear c5b0
        try clear c6
        try clear c6b0
        try clear p6
        try clear c7
        try clear c8
        try clear c8b0
        try clear c9
        try clear c9b0
        try clear c10
        try clear c10b0
        try clear c12
        try clear c12b0
        try clear c12b1
        try clear c13
        try clear c13b0
        try clear c13b1
        try clear hx440_0
        try clear p2
        try clear p440
        try clear q440
        obtain ⟨kq, x45_10, rfl, HA, HJ10, HB⟩ := hcut
        cases kq with
        | zero => exact absurd HA.out (by simp [laminaref09_Decode.j1])
        | succ kj10 =>
         have H := HA.out
         clear HA
         simp only [laminaref09_Decode.j1] at H
         by_cases c14 : x45_10 = true
         ·subst c14
          have H1 : (some (([] : List Int), 0, 4)) = some (r1, r2, r3) := by rw [if_pos rfl] at H; exact H
          clear H
          have H := H1
          clear H1
          simp only [Option.some.injEq, Prod.mk.injEq] at H
          obtain ⟨rfl, rfl, rfl⟩ := H
          go_wp2
          go_ret3
          exact ⟨_, er_, by first | exact Kd.R_nil _ _ _ _ _ | exact Kd.N_nil _ _ _ _ _ | exact Kd.V_nil _ _ _ _ _ | exact Kd.Q_nil _ _ _ _ _ | exact Kd.S_nil _ _ _ _ _, by repeat (first | (with_reducible first | exact HB.out | apply below_alloc | apply pw_below_drewN | apply below_drew1) | exact HB.out)⟩
         ·replace c14 := Bool.eq_false_iff.mpr c14
          subst c14
          have H1 : ((laminaref09_heads.f kj10 l0 (wrap64 (a1 + 1)) (mn (wrap64 (rd l0 a1)) a2)).bind fun bt441 => (if bt441.2.2 = 0 then ((laminaref08_Decode.f kj10 l0 bt441.2.1 (mx (wrap64 (a2 - (wrap64 (rd l0 a1)))) 0)).bind fun bt446 => (if bt446.2.2 = 0 then (laminaref09_Decode.l0 kj10 l0 a1 bt441.1 bt446.2.1 bt446.1 (wrap64 ((bt441.1.length : Int) - 1))) else (some (([] : List Int), 0, bt446.2.2)))) else (some (([] : List Int), 0, bt441.2.2)))) = some (r1, r2, r3) := by rw [if_neg (show ¬ (false = true) by decide)] at H; exact H
          clear H
          have H := H1
          clear H1
          obtain ⟨ji15, hji15⟩ : ∃ j_ : Int, (mn (wrap64 (rd l0 a1)) a2) = j_ := ⟨_, rfl⟩
          replace H : ((laminaref09_heads.f kj10 l0 (wrap64 (a1 + 1)) (ji15)).bind fun bt441 => (if bt441.2.2 = 0 then ((laminaref08_Decode.f kj10 l0 bt441.2.1 (mx (wrap64 (a2 - (wrap64 (rd l0 a1)))) 0)).bind fun bt446 => (if bt446.2.2 = 0 then (laminaref09_Decode.l0 kj10 l0 a1 bt441.1 bt446.2.1 bt446.1 (wrap64 ((bt441.1.length : Int) - 1))) else (some (([] : List Int), 0, bt446.2.2)))) else (some (([] : List Int), 0, bt441.2.2)))) = some (r1, r2, r3) := by first | (rw [hji15] at H; exact H) | (simp only [hji15] at H ⊢; exact H)
          have hji15_ : (if a2 < (wrap64 (rd l0 a1)) then a2 else (wrap64 (rd l0 a1))) = ji15 := hji15
          replace H := Option.bind_eq_some_iff.mp H
          obtain ⟨⟨t441, t442, t443⟩, A160, H⟩ := H
          try dsimp only at H
          have A16 := Aside0.mk A160
          clear A160
          by_cases c17 : t443 = 0
          ·rw [if_pos c17] at H
           have c17b0 : (t443 == 0) = true := beq_iff_eq.mpr c17
           have c17b1 : (t443 != 0) = false := bne_eq_false_iff_eq.mpr c17
           clear c17
           obtain ⟨ji18, hji18⟩ : ∃ j_ : Int, (mx (wrap64 (a2 - (wrap64 (rd l0 a1)))) 0) = j_ := ⟨_, rfl⟩
           replace H : ((laminaref08_Decode.f kj10 l0 t442 (ji18)).bind fun bt446 => (if bt446.2.2 = 0 then (laminaref09_Decode.l0 kj10 l0 a1 t441 bt446.2.1 bt446.1 (wrap64 ((t441.length : Int) - 1))) else (some (([] : List Int), 0, bt446.2.2)))) = some (r1, r2, r3) := by first | (rw [hji18] at H; exact H) | (simp only [hji18] at H ⊢; exact H)
           (try rw [hji18] at A16)
           have hji18_ : (if (wrap64 (a2 - (wrap64 (rd l0 a1)))) < 0 then 0 else (wrap64 (a2 - (wrap64 (rd l0 a1))))) = ji18 := hji18
           replace H := Option.bind_eq_some_iff.mp H
           obtain ⟨⟨t446, t447, t448⟩, A190, H⟩ := H
           try dsimp only at H
           have A19 := Aside0.mk A190
           clear A190
           by_cases c20 : t448 = 0
           ·rw [if_pos c20] at H
            have c20b0 : (t448 == 0) = true := beq_iff_eq.mpr c20
            have c20b1 : (t448 != 0) = false := bne_eq_false_iff_eq.mpr c20
            clear c20
            have H' := Aside0.mk H
            clear H
            go_wp2_with (first | ((with_reducible refine gate_callee (f := 84) rfl ?_); refine goesL_ (some 53) rfl rfl Try.func84 (by kernel_rfl) rfl #[.slice (some ad440) l0.length c0, .int .i64 (wrap64 (a1 + 1)), .int .i64 ji15] rfl (by (try simp only [List.map_toArray, List.map_cons, List.map_nil]); first | done | (simp only [hji15]; rfl) | rfl | (simp only [List.length_drop, List.length_take]; rfl)) ?_; (with_reducible refine (laminaref09_heads.calls kj10 _ _ l0 (wrap64 (a1 + 1)) ji15 t441 t442 t443 _ ?side1 ?side2 A16.out).mono ?_); (case side1 => exact ca_ (Kd.C_below HR0.out HB.out)); (case side2 => exact HC0.out); rintro e w21 ⟨v444, rfl, ho0, hb⟩; refine ⟨_, rfl, ?_⟩; have n0_ := Aside0.mk (Kd.R_lower ho0 (below_size (bb_ HB))); have n1_ := Aside0.mk (below_step (bb_ HB) hb); clear HB; have HO445 := n0_; have HB := n1_; clear n0_ n1_; (try clear hb); (try clear hb2); (try clear hk); (try clear hi); (try clear ho0)) | ((with_reducible refine gate_callee (f := 37) rfl ?_); refine goesL_ (some 67) rfl rfl Try.func37 (by kernel_rfl) rfl #[.slice (some ad440) l0.length c0, .int .i64 t442, .int .i64 ji18] rfl (by (try simp only [List.map_toArray, List.map_cons, List.map_nil]); first | done | (simp only [hji18]; rfl) | rfl | (simp only [List.length_drop, List.length_take]; rfl)) ?_; (with_reducible refine (laminaref08_Decode.calls kj10 _ _ l0 t442 ji18 t446 t447 t448 _ ?side1 ?side2 A19.out).mono ?_); (case side1 => exact ca_ (Kd.C_below HR0.out HB.out)); (case side2 => exact HC0.out); rintro e w22 ⟨v449, rfl, ho0, hb⟩; refine ⟨_, rfl, ?_⟩; have n0_ := Aside0.mk (Kd.R_elder' (rb_ HO445) (Kd.R_base ho0) hb); have n1_ := Aside0.mk (Kd.R_lower (Kd.R_new' ho0 (Kd.R_lt (rb_ HO445))) (below_size (bb_ HB))); have n2_ := Aside0.mk (below_step (bb_ HB) hb); clear HO445; clear HB; have HO445 := n0_; have HO450 := n1_; have HB := n2_; clear n0_ n1_ n2_; (try clear hb); (try clear hb2); (try clear hk); (try clear hi); (try clear ho0); obtain ⟨Ao23, co23, eo23⟩ := Kd.R_slice HO445.out; subst eo23))
            go_loopg [15, 16] kj10 (fun kq v15 v16 w' => ∃ (x15_3 : List Int) (x16_3 : Int), v16 = .int .i64 x16_3 ∧ Aside0 (laminaref09_Decode.l0 kq l0 a1 t441 t447 x15_3 x16_3 = some (r1, r2, r3)) ∧ Aside0 (kq ≤ kj10) ∧ Aside0 (Kd.R (Kd.int .i64) 2 w' w.heap.size (fun k_ => some k_ ≠ (v15 : Value).ownBlock) (.slice Ao23 t441.length co23) t441) ∧ Aside0 (Kd.R (Kd.int .i64) 2 w' w.heap.size (fun k_ => some k_ ≠ ((.slice Ao23 t441.length co23) : Value).ownBlock) v15 x15_3) ∧ Aside0 (Below w.heap.size w w'))
            case atStart => exact ⟨(t446), (wrap64 ((t441.length : Int) - 1)), fr_, H', ⟨Nat.le_refl _⟩, ⟨by (with_reducible repeat (first | apply Kd.R_alloc | apply Kd.R_drewN | apply Kd.R_drew)); exact Kd.R_mono HO445.out (fun _ hk => hk.2)⟩, ⟨by (with_reducible repeat (first | apply Kd.R_alloc | apply Kd.R_drewN | apply Kd.R_drew)); exact Kd.R_mono HO450.out (fun _ hk => hk.2)⟩, ⟨by repeat (first | (with_reducible first | exact HB.out | apply below_alloc | apply pw_below_drewN | apply below_drew1) | exact HB.out)⟩⟩
            case round =>
             clear H'
             try clear c1
             try clear c2
             try clear p2
             try clear c3
             try clear p4
             try clear q4
             try clear hx4
             try clear c5
             try clear c5b0
             try clear c6
             try clear c6b0
             try clear p6
             try clear c7
             try clear c8
             try clear c8b0
             try clear c9
             try clear c9b0
             try clear c10
             try clear c10b0
             try clear c12
             try clear c12b0
             try clear c12b1
             try clear c13
             try clear c13b0
             try clear c13b1
             try clear c14
             try clear c17
             try clear c17b0
             try clear c17b1
             try clear c20
             try clear c20b0
             try clear c20b1
             try clear hx440_0
             try clear p2
             try clear p4
             try clear p440
             try clear p6
             try clear q4
             try clear q440
             obtain ⟨x15_3, x16_3, rfl, HA, HK3, HO_10, HO_15, HB⟩ := hrel
             cases gk with
             | zero => exact absurd HA.out (by simp [laminaref09_Decode.l0])
             | succ k3 =>
              have H := HA.out
              clear HA
              simp only [laminaref09_Decode.l0] at H
              by_cases c24 : x16_3 ≥ 0
              ·rw [if_pos c24] at H
               have c24b0 : decide (0 ≤ x16_3) = true := decide_eq_true c24
               clear c24
               by_cases c25 : 0 ≤ x16_3
               ·rw [if_pos c25] at H
                have c25b0 : decide (0 ≤ x16_3) = true := decide_eq_true c25
                clear c25
                by_cases c26 : x16_3 < (t441.length : Int)
                ·rw [if_pos c26] at H
                 have c26b0 : decide (x16_3 < (t441.length : Int)) = true := decide_eq_true c26
                 clear c26
                 replace H := Option.bind_eq_some_iff.mp H
                 obtain ⟨t452, A270, H⟩ := H
                 try dsimp only at H
                 have A27 := Aside0.mk A270
                 clear A270
                 have H' := Aside0.mk H
                 clear H
                 have p451 : 0 ≤ (x16_3 : Int) := of_decide_eq_true as_
                 have q451 : x16_3 < (t441.length : Int) := of_decide_eq_true as_
                 obtain ⟨ad451, e451, hx451_0⟩ := Kd.at_int (Kd.R_reads' HO_10.out).2.2 x16_3 p451 q451
                 cases e451
                 replace p451 := eq_true p451
                 replace q451 := eq_true q451
                 obtain ⟨Ao28, co28, eo28⟩ := Kd.R_slice HO_15.out
                 subst eo28
                 go_wp2_with (first | ((with_reducible refine gate_callee (f := 51) rfl ?_); refine goesL_ (some 87) rfl rfl Try.func51 (by kernel_rfl) rfl #[.int .i64 (rd t441 x16_3), .slice Ao28 x15_3.length co28] rfl ma_ ?_; (with_reducible refine (laminaref09_PrefixSums.calls k3 (rd t441 x16_3) _ _ x15_3 t452 _ ?side1 ?side2 A27.out).mono ?_); (case side1 => exact ca_ (Kd.R_reads' HO_15.out).2.2); (case side2 => exact (Kd.R_reads' HO_15.out).2.1); rintro e w29 ⟨v453, rfl, ho0, hb⟩; refine ⟨_, rfl, ?_⟩; have n0_ := Aside0.mk (Kd.R_elder' (rb_ HO_10) (Kd.R_base ho0) hb); have n1_ := Aside0.mk (Kd.R_elder' (rb_ HO_15) (Kd.R_base ho0) hb); have n2_ := Aside0.mk (Kd.R_lower (Kd.R_new' (Kd.R_new' ho0 (Kd.R_lt (rb_ HO_10))) (Kd.R_lt (rb_ HO_15))) (below_size (bb_ HB))); have n3_ := Aside0.mk (below_step (bb_ HB) hb); clear HO_10; clear HO_15; clear HB; have HO_10 := n0_; have HO_15 := n1_; have HO454 := n2_; have HB := n3_; clear n0_ n1_ n2_ n3_; (try clear hb); (try clear hb2); (try clear hk); (try clear hi); (try clear ho0)))
                 go_roundg k3
                 case measure => have := HJ3.out; have := HJ10.out; have := HK3.out; omega
                 case rel => exact ⟨(t452), (wrap64 (x16_3 - 1)), fr_, H', ⟨by have := HJ3.out; have := HJ10.out; have := HK3.out; omega⟩, ⟨by (with_reducible repeat (first | apply Kd.R_alloc | apply Kd.R_drewN | apply Kd.R_drew)); exact Kd.R_mono HO_10.out (fun _ hk => hk.2)⟩, ⟨by (with_reducible repeat (first | apply Kd.R_alloc | apply Kd.R_drewN | apply Kd.R_drew)); exact Kd.R_mono HO454.out (fun _ hk => hk.1.2)⟩, ⟨by repeat (first | (with_reducible first | exact HB.out | apply below_alloc | apply pw_below_drewN | apply below_drew1) | exact HB.out)⟩⟩
                ·rw [if_neg c26] at H
                 exact absurd H (by simp)
               ·rw [if_neg c25] at H
                exact absurd H (by simp)
              ·rw [if_neg c24] at H
               have c24b0 : decide (0 ≤ x16_3) = false := decide_eq_false c24
               clear c24
               replace H := Option.bind_eq_some_iff.mp H
               obtain ⟨t455, A300, H⟩ := H
               try dsimp only at H
               have A30 := Aside0.mk A300
               clear A300
               by_cases c31 : 0 ≤ a1
               ·rw [if_pos c31] at H
                have c31b0 := eq_true c31
                have c31b1 : decide (0 ≤ a1) = true := decide_eq_true c31
                clear c31
                by_cases c32 : a1 ≤ t447
                ·rw [if_pos c32] at H
                 have c32b0 := eq_true c32
                 have c32b1 : decide (a1 ≤ t447) = true := decide_eq_true c32
                 clear c32
                 by_cases c33 : t447 ≤ (l0.length : Int)
                 ·rw [if_pos c33] at H
                  have c33b0 := eq_true c33
                  have c33b1 : decide (t447 ≤ (l0.length : Int)) = true := decide_eq_true c33
                  clear c33
                  by_cases c34 : (strOfNums t455).toList = (strOfNums ((l0.take (t447 : Int).toNat).drop (a1 : Int).toNat)).toList
                  ·rw [if_pos c34] at H
                   have c34b0 : ((strOfNums t455).toList == (strOfNums ((l0.take (t447 : Int).toNat).drop (a1 : Int).toNat)).toList) = true := beq_iff_eq.mpr c34
                   have c34b1 : ((strOfNums t455).toList != (strOfNums ((l0.take (t447 : Int).toNat).drop (a1 : Int).toNat)).toList) = false := bne_eq_false_iff_eq.mpr c34
                   clear c34
                   simp only [Option.some.injEq, Prod.mk.injEq] at H
                   obtain ⟨rfl, rfl, rfl⟩ := H
                   obtain ⟨Ao35, co35, eo35⟩ := Kd.R_slice HO_15.out
                   subst eo35
                   try go_wp2
                   have n0_ := Aside0.mk (Kd.R_drew HO_10.out)
                   have n1_ := Aside0.mk (Kd.R_drew HO_15.out)
                   have n2_ := Aside0.mk (below_drew1 HB.out)
                   clear HO_10
                   clear HO_15
                   clear HB
                   have HO_10 := n0_
                   have HO_15 := n1_
                   have HB := n2_
                   clear n0_ n1_ n2_
                   obtain ⟨i037, hi037, _, hsz37, _⟩ := info_parts info5
                   obtain ⟨A37, hcut37, hA37, hC37⟩ := print_mid_of (P := Try.prog) (Value.int .u8) 0 26 5 .i64 .i64 Try.underlying26 hi037 hsz37 (some ad440) c0 l0 a1 t447 (of_decide_eq_true as_) (by first | omega | exact of_decide_eq_true as_) (of_decide_eq_true as_) HC0.out
                   have HR458 := Aside0.mk (Kd.C_of_reads (h1 := fun _ => rfl) (hA37 _ (Kd.reads_of_C HR0.out)))
                   have HC458 := Aside0.mk hC37
                   clear hA37 hC37 hi037 hsz37
                   refine start_ (n := 9) (S := fun w' => True) (ds := []) #[false, false, false, false, false, false, false, false, false] (by kernel_rfl) rfl rfl trivial (fun hHeld => ?_); refine with_tabW laminaref09_Decode.tab19 laminaref09_Decode.bits19 (fun HT_ HW_ => ?_)
                   generalize wr.drew = w36 at HO_10 HO_15 HB HR458 hHeld ⊢
                   refine pure_ (i := 0) (N := some 88) (v := ?_) (a' := ?_) #[true, false, false, false, false, false, false, false, false] rfl rfl (any_of HT_.out (by kernel_rfl)) (fun _ _ _ h => h) (Or.inl ⟨by (first | rfl | (simp only [*]; rfl) | (simp [*]; done)), ?_⟩) ?_ ?_
                   rotate_left
                   ·intro w'
                    go_simp
                    with_reducible rfl
                   rotate_left
                   ·simp only [Act.put, List.setIfInBounds_toArray, List.set_cons_zero, List.set_cons_succ, i64_w, i32_w]
                    rfl
                   refine pure_ (i := 3) (N := some 91) (v := ?_) (a' := ?_) #[true, false, false, true, false, false, false, false, false] rfl rfl (any_of HT_.out (by kernel_rfl)) (fun _ _ _ h => h) (Or.inl ⟨by (first | rfl | (simp only [*]; rfl) | (simp [*]; done)), ?_⟩) ?_ ?_
                   rotate_left
                   ·intro w'
                    go_simp
                    with_reducible rfl
                   rotate_left
                   ·simp only [Act.put, List.setIfInBounds_toArray, List.set_cons_zero, List.set_cons_succ, i64_w, i32_w]
                    rfl
                   refine pure_ (i := 4) (N := some 92) (v := ?_) (a' := ?_) #[true, false, false, true, true, false, false, false, false] rfl rfl (any_of HT_.out (by kernel_rfl)) (fun _ _ _ h => h) (Or.inl ⟨by (first | rfl | (simp only [*]; rfl) | (simp [*]; done)), ?_⟩) ?_ ?_
                   rotate_left
                   ·intro w'
                    go_simp
                    with_reducible rfl
                   rotate_left
                   ·simp only [Act.put, List.setIfInBounds_toArray, List.set_cons_zero, List.set_cons_succ, i64_w, i32_w]
                    rfl
                   refine pure_ (i := 5) (N := some 93) (v := ?_) (a' := ?_) #[true, false, false, true, true, true, false, false, false] rfl rfl (any_of HT_.out (by kernel_rfl)) (fun _ _ _ h => h) (Or.inl ⟨by (first | rfl | (simp only [*]; rfl) | (simp [*]; done)), ?_⟩) ?_ ?_
                   rotate_left
                   ·intro w'
                    go_simp
                    with_reducible rfl
                   rotate_left
                   ·simp only [Act.put, List.setIfInBounds_toArray, List.set_cons_zero, List.set_cons_succ, i64_w, i32_w]
                    rfl
                   refine pure_ (i := 6) (N := some 94) (v := ?_) (a' := ?_) #[true, false, false, true, true, true, true, false, false] rfl rfl (any_of HT_.out (by kernel_rfl)) (fun _ _ _ h => h) (Or.inl ⟨by (first | rfl | (simp only [*]; rfl) | (simp [*]; done)), ?_⟩) ?_ ?_
                   rotate_left
                   ·intro w'
                    go_simp
                    with_reducible rfl
                   rotate_left
                   ·simp only [Act.put, List.setIfInBounds_toArray, List.set_cons_zero, List.set_cons_succ, i64_w, i32_w]
                    rfl
                   refine join_ (σ := Value) 1 #[true, true, true, true, true, true, true, true, false] (fun s_ => [(89, s_), (90, .string (strOfNums t455)), (95, .string (strOfNums ((l0.take (t447 : Int).toNat).drop (a1 : Int).toNat)))]) (fun s_ w' => (Kd.R (Kd.int .u8) 5 w' w.heap.size (fun _ => True) s_ t455) ∧ (Kd.R (Kd.int .i64) 2 w' w.heap.size (fun k_ => some k_ ≠ (.slice Ao35 x15_3.length co35 : Value).ownBlock) (.slice Ao23 t441.length co23) t441) ∧ (Kd.R (Kd.int .i64) 2 w' w.heap.size (fun k_ => some k_ ≠ (.slice Ao23 t441.length co23 : Value).ownBlock) (.slice Ao35 x15_3.length co35) x15_3) ∧ (Below w.heap.size w w')) ?_ ?_
                   rotate_left
                   ·intro hCont
                    refine two_ (i := 1) (j := 7) (Ni := some 89) (Nj := some 95) #[true, true, false, true, true, true, true, false, false] #[true, false, false, true, true, true, true, true, false] rfl rfl rfl rfl (two_of HT_.out (by kernel_rfl)) (by decide) (by decide) (fun K hK => ?_) (fun K hK => ?_)
                    ·skip
                     refine goes_ Try.func52 (by kernel_rfl) rfl #[.slice Ao35 x15_3.length co35] (by (first | rfl | (simp only [*]; rfl) | (simp [*]; done))) rfl rfl ma_ ?_
                     with_reducible refine (laminaref09_Encode.calls k3 _ _ x15_3 t455 _ ?side1 ?side2 A30.out).mono ?_
                     (case side1 => exact ca_ (Kd.R_reads' HO_15.out).2.2)
                     (case side2 => exact (Kd.R_reads' HO_15.out).2.1)
                     rintro e w38 ⟨v456, rfl, ho0, hb⟩
                     refine ⟨_, rfl, ?_⟩
                     have n0_ := Aside0.mk (Kd.R_below (rb_ HO_10) hb)
                     have n1_ := Aside0.mk (Kd.R_below (rb_ HO_15) hb)
                     have n2_ := Aside0.mk (Kd.R_lower ho0 (below_size (bb_ HB)))
                     have n3_ := Aside0.mk (below_step (bb_ HB) hb)
                     clear HO_10
                     clear HO_15
                     clear HB
                     have HO_10 := n0_
                     have HO_15 := n1_
                     have HO457 := n2_
                     have HB := n3_
                     clear n0_ n1_ n2_ n3_
                     (try clear hb)
                     (try clear hb2)
                     (try clear hk)
                     (try clear hi)
                     (try clear ho0)
                     refine hK.out _ _ trivial (fun hHeld => ?_)
                     clear hK K
                     refine norm_ (a' := ?_) ?_ ?_
                     rotate_left
                     ·show Act.put _ (some 89) _ = _
                      simp only [Act.put, List.setIfInBounds_toArray, List.set_cons_zero, List.set_cons_succ, i64_w, i32_w]
                      rfl
                     refine two_ (i := 2) (j := 7) (Ni := some 90) (Nj := some 95) #[true, true, true, true, true, true, true, false, false] #[true, true, false, true, true, true, true, true, false] rfl rfl rfl rfl (two_of HT_.out (by kernel_rfl)) (by decide) (by decide) (fun K hK => ?_) (fun K hK => ?_)
                     ·skip
                      have hcv39 := own_string (P := Try.prog) Try.underlying26 Try.underlying5 Try.underlying9 (Kd.own_of_R HO457.out); have hcv39d := fun m_ => own_string (P := Try.prog) Try.underlying26 Try.underlying5 Try.underlying9 (Kd.own_of_R (Kd.R_drewN HO457.out m_))
                      refine value_ (w1 := ?_) (v := ?_) (by rfl) rfl ?_ ?_
                      rotate_left 2
                      ·go_simp
                       constructor
                       ·rfl
                       ·rfl
                      clear hcv39 hcv39d
                      refine hK.out _ _ trivial (fun hHeld => ?_)
                      clear hK K
                      refine norm_ (a' := ?_) ?_ ?_
                      rotate_left
                      ·show Act.put _ (some 90) _ = _
                       simp only [Act.put, List.setIfInBounds_toArray, List.set_cons_zero, List.set_cons_succ, i64_w, i32_w]
                       rfl
                      refine one_ (i := 7) (N := some 95) #[true, true, true, true, true, true, true, true, false] rfl rfl (one_of HT_.out (by kernel_rfl)) (by decide) (fun K hK => ?_)
                      have hcv40 := Kd.C_string (P := Try.prog) (A := A37) (c := (c0 - a1.toNat)) Try.underlying26 Try.underlying5 Try.underlying9 (Kd.C_below HR458.out HB.out); (rw [show ((l0.take (t447 : Int).toNat).drop (a1 : Int).toNat).length = (t447.toNat - a1.toNat) from (by rw [List.length_drop, List.length_take]; have h_ : (t447 : Int) ≤ (l0.length : Int) := of_decide_eq_true as_; omega)] at hcv40); have hcv40d := fun m_ => Kd.C_string (P := Try.prog) (A := A37) (c := (c0 - a1.toNat)) Try.underlying26 Try.underlying5 Try.underlying9 (Kd.C_drewN (Kd.C_below HR458.out HB.out) m_); (rw [show ((l0.take (t447 : Int).toNat).drop (a1 : Int).toNat).length = (t447.toNat - a1.toNat) from (by rw [List.length_drop, List.length_take]; have h_ : (t447 : Int) ≤ (l0.length : Int) := of_decide_eq_true as_; omega)] at hcv40d)
                      refine value_ (w1 := ?_) (v := ?_) (by rfl) rfl ?_ ?_
                      rotate_left 2
                      ·go_simp
                       constructor
                       ·rfl
                       ·rfl
                      clear hcv40 hcv40d
                      refine hK.out _ _ trivial (fun hHeld => ?_)
                      clear hK K
                      refine norm_ (a' := ?_) ?_ ?_
                      rotate_left
                      ·show Act.put _ (some 95) _ = _
                       simp only [Act.put, List.setIfInBounds_toArray, List.set_cons_zero, List.set_cons_succ, i64_w, i32_w]
                       rfl
                      exact norm_ (by simp only [putAll, Act.put, List.setIfInBounds_toArray, List.set_cons_zero, List.set_cons_succ]) (hCont (v456) _ ⟨(rb_ HO457), (rb_ HO_10), (rb_ HO_15), (bb_ HB)⟩)
                     ·skip
                      have hcv39 := Kd.C_string (P := Try.prog) (A := A37) (c := (c0 - a1.toNat)) Try.underlying26 Try.underlying5 Try.underlying9 (Kd.C_below HR458.out HB.out); (rw [show ((l0.take (t447 : Int).toNat).drop (a1 : Int).toNat).length = (t447.toNat - a1.toNat) from (by rw [List.length_drop, List.length_take]; have h_ : (t447 : Int) ≤ (l0.length : Int) := of_decide_eq_true as_; omega)] at hcv39); have hcv39d := fun m_ => Kd.C_string (P := Try.prog) (A := A37) (c := (c0 - a1.toNat)) Try.underlying26 Try.underlying5 Try.underlying9 (Kd.C_drewN (Kd.C_below HR458.out HB.out) m_); (rw [show ((l0.take (t447 : Int).toNat).drop (a1 : Int).toNat).length = (t447.toNat - a1.toNat) from (by rw [List.length_drop, List.length_take]; have h_ : (t447 : Int) ≤ (l0.length : Int) := of_decide_eq_true as_; omega)] at hcv39d)
                      refine value_ (w1 := ?_) (v := ?_) (by rfl) rfl ?_ ?_
                      rotate_left 2
                      ·go_simp
                       constructor
                       ·rfl
                       ·rfl
                      clear hcv39 hcv39d
                      refine hK.out _ _ trivial (fun hHeld => ?_)
                      clear hK K
                      refine norm_ (a' := ?_) ?_ ?_
                      rotate_left
                      ·show Act.put _ (some 95) _ = _
                       simp only [Act.put, List.setIfInBounds_toArray, List.set_cons_zero, List.set_cons_succ, i64_w, i32_w]
                       rfl
                      refine one_ (i := 2) (N := some 90) #[true, true, true, true, true, true, true, true, false] rfl rfl (one_of HT_.out (by kernel_rfl)) (by decide) (fun K hK => ?_)
                      have hcv40 := own_string (P := Try.prog) Try.underlying26 Try.underlying5 Try.underlying9 (Kd.own_of_R HO457.out); have hcv40d := fun m_ => own_string (P := Try.prog) Try.underlying26 Try.underlying5 Try.underlying9 (Kd.own_of_R (Kd.R_drewN HO457.out m_))
                      refine value_ (w1 := ?_) (v := ?_) (by rfl) rfl ?_ ?_
                      rotate_left 2
                      ·go_simp
                       constructor
                       ·rfl
                       ·rfl
                      clear hcv40 hcv40d
                      refine hK.out _ _ trivial (fun hHeld => ?_)
                      clear hK K
                      refine norm_ (a' := ?_) ?_ ?_
                      rotate_left
                      ·show Act.put _ (some 90) _ = _
                       simp only [Act.put, List.setIfInBounds_toArray, List.set_cons_zero, List.set_cons_succ, i64_w, i32_w]
                       rfl
                      exact norm_ (by simp only [putAll, Act.put, List.setIfInBounds_toArray, List.set_cons_zero, List.set_cons_succ]) (hCont (v456) _ ⟨(rb_ HO457), (rb_ HO_10), (rb_ HO_15), (bb_ HB)⟩)
                    ·skip
                     have hcv38 := Kd.C_string (P := Try.prog) (A := A37) (c := (c0 - a1.toNat)) Try.underlying26 Try.underlying5 Try.underlying9 (Kd.C_below HR458.out HB.out); (rw [show ((l0.take (t447 : Int).toNat).drop (a1 : Int).toNat).length = (t447.toNat - a1.toNat) from (by rw [List.length_drop, List.length_take]; have h_ : (t447 : Int) ≤ (l0.length : Int) := of_decide_eq_true as_; omega)] at hcv38); have hcv38d := fun m_ => Kd.C_string (P := Try.prog) (A := A37) (c := (c0 - a1.toNat)) Try.underlying26 Try.underlying5 Try.underlying9 (Kd.C_drewN (Kd.C_below HR458.out HB.out) m_); (rw [show ((l0.take (t447 : Int).toNat).drop (a1 : Int).toNat).length = (t447.toNat - a1.toNat) from (by rw [List.length_drop, List.length_take]; have h_ : (t447 : Int) ≤ (l0.length : Int) := of_decide_eq_true as_; omega)] at hcv38d)
                     refine value_ (w1 := ?_) (v := ?_) (by rfl) rfl ?_ ?_
                     rotate_left 2
                     ·go_simp
                      constructor
                      ·rfl
                      ·rfl
                     clear hcv38 hcv38d
                     refine hK.out _ _ trivial (fun hHeld => ?_)
                     clear hK K
                     refine norm_ (a' := ?_) ?_ ?_
                     rotate_left
                     ·show Act.put _ (some 95) _ = _
                      simp only [Act.put, List.setIfInBounds_toArray, List.set_cons_zero, List.set_cons_succ, i64_w, i32_w]
                      rfl
                     refine one_ (i := 1) (N := some 89) #[true, true, false, true, true, true, true, true, false] rfl rfl (one_of HT_.out (by kernel_rfl)) (by decide) (fun K hK => ?_)
                     refine goes_ Try.func52 (by kernel_rfl) rfl #[.slice Ao35 x15_3.length co35] (by (first | rfl | (simp only [*]; rfl) | (simp [*]; done))) rfl rfl ma_ ?_
                     with_reducible refine (laminaref09_Encode.calls k3 _ _ x15_3 t455 _ ?side1 ?side2 A30.out).mono ?_
                     (case side1 => exact ca_ (Kd.R_reads' HO_15.out).2.2)
                     (case side2 => exact (Kd.R_reads' HO_15.out).2.1)
                     rintro e w39 ⟨v456, rfl, ho0, hb⟩
                     refine ⟨_, rfl, ?_⟩
                     have n0_ := Aside0.mk (Kd.R_below (rb_ HO_10) hb)
                     have n1_ := Aside0.mk (Kd.R_below (rb_ HO_15) hb)
                     have n2_ := Aside0.mk (Kd.R_lower ho0 (below_size (bb_ HB)))
                     have n3_ := Aside0.mk (below_step (bb_ HB) hb)
                     clear HO_10
                     clear HO_15
                     clear HB
                     have HO_10 := n0_
                     have HO_15 := n1_
                     have HO457 := n2_
                     have HB := n3_
                     clear n0_ n1_ n2_ n3_
                     (try clear hb)
                     (try clear hb2)
                     (try clear hk)
                     (try clear hi)
                     (try clear ho0)
                     refine hK.out _ _ trivial (fun hHeld => ?_)
                     clear hK K
                     refine norm_ (a' := ?_) ?_ ?_
                     rotate_left
                     ·show Act.put _ (some 89) _ = _
                      simp only [Act.put, List.setIfInBounds_toArray, List.set_cons_zero, List.set_cons_succ, i64_w, i32_w]
                      rfl
                     refine one_ (i := 2) (N := some 90) #[true, true, true, true, true, true, true, true, false] rfl rfl (one_of HT_.out (by kernel_rfl)) (by decide) (fun K hK => ?_)
                     have hcv40 := own_string (P := Try.prog) Try.underlying26 Try.underlying5 Try.underlying9 (Kd.own_of_R HO457.out); have hcv40d := fun m_ => own_string (P := Try.prog) Try.underlying26 Try.underlying5 Try.underlying9 (Kd.own_of_R (Kd.R_drewN HO457.out m_))
                     refine value_ (w1 := ?_) (v := ?_) (by rfl) rfl ?_ ?_
                     rotate_left 2
                     ·go_simp
                      constructor
                      ·rfl
                      ·rfl
                     clear hcv40 hcv40d
                     refine hK.out _ _ trivial (fun hHeld => ?_)
                     clear hK K
                     refine norm_ (a' := ?_) ?_ ?_
                     rotate_left
                     ·show Act.put _ (some 90) _ = _
                      simp only [Act.put, List.setIfInBounds_toArray, List.set_cons_zero, List.set_cons_succ, i64_w, i32_w]
                      rfl
                     exact norm_ (by simp only [putAll, Act.put, List.setIfInBounds_toArray, List.set_cons_zero, List.set_cons_succ]) (hCont (v456) _ ⟨(rb_ HO457), (rb_ HO_10), (rb_ HO_15), (bb_ HB)⟩)
                   rintro v456 w41 ⟨h0_, h1_, h2_, h3_⟩
                   have n0_ : Aside0 (Kd.R (Kd.int .u8) 5 w41 w.heap.size (fun _ => True) v456 t455) := ⟨h0_⟩
                   have n1_ : Aside0 (Kd.R (Kd.int .i64) 2 w41 w.heap.size (fun k_ => some k_ ≠ (.slice Ao35 x15_3.length co35 : Value).ownBlock) (.slice Ao23 t441.length co23) t441) := ⟨h1_⟩
                   have n2_ : Aside0 (Kd.R (Kd.int .i64) 2 w41 w.heap.size (fun k_ => some k_ ≠ (.slice Ao23 t441.length co23 : Value).ownBlock) (.slice Ao35 x15_3.length co35) x15_3) := ⟨h2_⟩
                   have n3_ : Aside0 (Below w.heap.size w w41) := ⟨h3_⟩
                   clear HO_10
                   clear HO_15
                   clear HB
                   clear h0_ h1_ h2_ h3_
                   have HO457 := n0_
                   have HO_10 := n1_
                   have HO_15 := n2_
                   have HB := n3_
                   clear n0_ n1_ n2_ n3_
                   have hHeld := trivial
                   refine norm_ (a' := ?_) ?_ ?_
                   rotate_left
                   ·simp only [putAll, Act.put, List.setIfInBounds_toArray, List.set_cons_zero, List.set_cons_succ]
                    rfl
                   refine pure_ (i := 8) (N := some 96) (v := ?_) (a' := ?_) #[true, true, true, true, true, true, true, true, true] rfl rfl (any_of HT_.out (by kernel_rfl)) (fun _ _ _ h => h) (Or.inl ⟨by (first | rfl | (simp only [*]; rfl) | (simp [*]; done)), ?_⟩) ?_ ?_
                   rotate_left
                   ·intro w'
                    go_simp
                    with_reducible rfl
                   rotate_left
                   ·simp only [Act.put, List.setIfInBounds_toArray, List.set_cons_zero, List.set_cons_succ, i64_w, i32_w]
                    rfl
                   refine done_ (done_of HT_.out (by kernel_rfl)) ?_
                   try go_wp2
                   go_ret3
                   exact ⟨_, by first | rfl | (simp [errW_none, errW_some] <;> rfl) | (simp only [← hji15, ← hji18]; first | rfl | (simp [errW_none, errW_some] <;> rfl)) | (simp [*, errW_none, errW_some] <;> rfl), by (with_reducible repeat (first | apply Kd.R_alloc | apply Kd.R_drewN | apply Kd.R_drew)); exact Kd.R_mono HO_15.out (fun _ hk => trivial), by repeat (first | (with_reducible first | exact HB.out | apply below_alloc | apply pw_below_drewN | apply below_drew1) | exact HB.out)⟩
                  ·rw [if_neg c34] at H
                   have c34b0 : ((strOfNums t455).toList == (strOfNums ((l0.take (t447 : Int).toNat).drop (a1 : Int).toNat)).toList) = false := beq_eq_false_iff_ne.mpr c34
                   have c34b1 : ((strOfNums t455).toList != (strOfNums ((l0.take (t447 : Int).toNat).drop (a1 : Int).toNat)).toList) = true := bne_iff_ne.mpr c34
                   simp only [Option.some.injEq, Prod.mk.injEq] at H
                   obtain ⟨rfl, rfl, rfl⟩ := H
                   obtain ⟨Ao42, co42, eo42⟩ := Kd.R_slice HO_15.out
                   subst eo42
                   try go_wp2
                   have n0_ := Aside0.mk (Kd.R_drew HO_10.out)
                   have n1_ := Aside0.mk (Kd.R_drew HO_15.out)
                   have n2_ := Aside0.mk (below_drew1 HB.out)
                   clear HO_10
                   clear HO_15
                   clear HB
                   have HO_10 := n0_
                   have HO_15 := n1_
                   have HB := n2_
                   clear n0_ n1_ n2_
                   obtain ⟨i044, hi044, _, hsz44, _⟩ := info_parts info5
                   obtain ⟨A44, hcut44, hA44, hC44⟩ := print_mid_of (P := Try.prog) (Value.int .u8) 0 26 5 .i64 .i64 Try.underlying26 hi044 hsz44 (some ad440) c0 l0 a1 t447 (of_decide_eq_true as_) (by first | omega | exact of_decide_eq_true as_) (of_decide_eq_true as_) HC0.out
                   have HR458 := Aside0.mk (Kd.C_of_reads (h1 := fun _ => rfl) (hA44 _ (Kd.reads_of_C HR0.out)))
                   have HC458 := Aside0.mk hC44
                   clear hA44 hC44 hi044 hsz44
                   refine start_ (n := 9) (S := fun w' => True) (ds := []) #[false, false, false, false, false, false, false, false, false] (by kernel_rfl) rfl rfl trivial (fun hHeld => ?_); refine with_tabW laminaref09_Decode.tab19 laminaref09_Decode.bits19 (fun HT_ HW_ => ?_)
                   generalize wr.drew = w43 at HO_10 HO_15 HB HR458 hHeld ⊢
                   refine pure_ (i := 0) (N := some 88) (v := ?_) (a' := ?_) #[true, false, false, false, false, false, false, false, false] rfl rfl (any_of HT_.out (by kernel_rfl)) (fun _ _ _ h => h) (Or.inl ⟨by (first | rfl | (simp only [*]; rfl) | (simp [*]; done)), ?_⟩) ?_ ?_
                   rotate_left
                   ·intro w'
                    go_simp
                    with_reducible rfl
                   rotate_left
                   ·simp only [Act.put, List.setIfInBounds_toArray, List.set_cons_zero, List.set_cons_succ, i64_w, i32_w]
                    rfl
                   refine pure_ (i := 3) (N := some 91) (v := ?_) (a' := ?_) #[true, false, false, true, false, false, false, false, false] rfl rfl (any_of HT_.out (by kernel_rfl)) (fun _ _ _ h => h) (Or.inl ⟨by (first | rfl | (simp only [*]; rfl) | (simp [*]; done)), ?_⟩) ?_ ?_
                   rotate_left
                   ·intro w'
                    go_simp
                    with_reducible rfl
                   rotate_left
                   ·simp only [Act.put, List.setIfInBounds_toArray, List.set_cons_zero, List.set_cons_succ, i64_w, i32_w]
                    rfl
                   refine pure_ (i := 4) (N := some 92) (v := ?_) (a' := ?_) #[true, false, false, true, true, false, false, false, false] rfl rfl (any_of HT_.out (by kernel_rfl)) (fun _ _ _ h => h) (Or.inl ⟨by (first | rfl | (simp only [*]; rfl) | (simp [*]; done)), ?_⟩) ?_ ?_
                   rotate_left
                   ·intro w'
                    go_simp
                    with_reducible rfl
                   rotate_left
                   ·simp only [Act.put, List.setIfInBounds_toArray, List.set_cons_zero, List.set_cons_succ, i64_w, i32_w]
                    rfl
                   refine pure_ (i := 5) (N := some 93) (v := ?_) (a' := ?_) #[true, false, false, true, true, true, false, false, false] rfl rfl (any_of HT_.out (by kernel_rfl)) (fun _ _ _ h => h) (Or.inl ⟨by (first | rfl | (simp only [*]; rfl) | (simp [*]; done)), ?_⟩) ?_ ?_
                   rotate_left
                   ·intro w'
                    go_simp
                    with_reducible rfl
                   rotate_left
                   ·simp only [Act.put, List.setIfInBounds_toArray, List.set_cons_zero, List.set_cons_succ, i64_w, i32_w]
                    rfl
                   refine pure_ (i := 6) (N := some 94) (v := ?_) (a' := ?_) #[true, false, false, true, true, true, true, false, false] rfl rfl (any_of HT_.out (by kernel_rfl)) (fun _ _ _ h => h) (Or.inl ⟨by (first | rfl | (simp only [*]; rfl) | (simp [*]; done)), ?_⟩) ?_ ?_
                   rotate_left
                   ·intro w'
                    go_simp
                    with_reducible rfl
                   rotate_left
                   ·simp only [Act.put, List.setIfInBounds_toArray, List.set_cons_zero, List.set_cons_succ, i64_w, i32_w]
                    rfl
                   refine join_ (σ := Value) 1 #[true, true, true, true, true, true, true, true, false] (fun s_ => [(89, s_), (90, .string (strOfNums t455)), (95, .string (strOfNums ((l0.take (t447 : Int).toNat).drop (a1 : Int).toNat)))]) (fun s_ w' => (Kd.R (Kd.int .u8) 5 w' w.heap.size (fun _ => True) s_ t455) ∧ (Kd.R (Kd.int .i64) 2 w' w.heap.size (fun k_ => some k_ ≠ (.slice Ao42 x15_3.length co42 : Value).ownBlock) (.slice Ao23 t441.length co23) t441) ∧ (Kd.R (Kd.int .i64) 2 w' w.heap.size (fun k_ => some k_ ≠ (.slice Ao23 t441.length co23 : Value).ownBlock) (.slice Ao42 x15_3.length co42) x15_3) ∧ (Below w.heap.size w w')) ?_ ?_
                   rotate_left
                   ·intro hCont
                    refine two_ (i := 1) (j := 7) (Ni := some 89) (Nj := some 95) #[true, true, false, true, true, true, true, false, false] #[true, false, false, true, true, true, true, true, false] rfl rfl rfl rfl (two_of HT_.out (by kernel_rfl)) (by decide) (by decide) (fun K hK => ?_) (fun K hK => ?_)
                    ·skip
                     refine goes_ Try.func52 (by kernel_rfl) rfl #[.slice Ao42 x15_3.length co42] (by (first | rfl | (simp only [*]; rfl) | (simp [*]; done))) rfl rfl ma_ ?_
                     with_reducible refine (laminaref09_Encode.calls k3 _ _ x15_3 t455 _ ?side1 ?side2 A30.out).mono ?_
                     (case side1 => exact ca_ (Kd.R_reads' HO_15.out).2.2)
                     (case side2 => exact (Kd.R_reads' HO_15.out).2.1)
                     rintro e w45 ⟨v456, rfl, ho0, hb⟩
                     refine ⟨_, rfl, ?_⟩
                     have n0_ := Aside0.mk (Kd.R_below (rb_ HO_10) hb)
                     have n1_ := Aside0.mk (Kd.R_below (rb_ HO_15) hb)
                     have n2_ := Aside0.mk (Kd.R_lower ho0 (below_size (bb_ HB)))
                     have n3_ := Aside0.mk (below_step (bb_ HB) hb)
                     clear HO_10
                     clear HO_15
                     clear HB
                     have HO_10 := n0_
                     have HO_15 := n1_
                     have HO457 := n2_
                     have HB := n3_
                     clear n0_ n1_ n2_ n3_
                     (try clear hb)
                     (try clear hb2)
                     (try clear hk)
                     (try clear hi)
                     (try clear ho0)
                     refine hK.out _ _ trivial (fun hHeld => ?_)
                     clear hK K
                     refine norm_ (a' := ?_) ?_ ?_
                     rotate_left
                     ·show Act.put _ (some 89) _ = _
                      simp only [Act.put, List.setIfInBounds_toArray, List.set_cons_zero, List.set_cons_succ, i64_w, i32_w]
                      rfl
                     refine two_ (i := 2) (j := 7) (Ni := some 90) (Nj := some 95) #[true, true, true, true, true, true, true, false, false] #[true, true, false, true, true, true, true, true, false] rfl rfl rfl rfl (two_of HT_.out (by kernel_rfl)) (by decide) (by decide) (fun K hK => ?_) (fun K hK => ?_)
                     ·skip
                      have hcv46 := own_string (P := Try.prog) Try.underlying26 Try.underlying5 Try.underlying9 (Kd.own_of_R HO457.out); have hcv46d := fun m_ => own_string (P := Try.prog) Try.underlying26 Try.underlying5 Try.underlying9 (Kd.own_of_R (Kd.R_drewN HO457.out m_))
                      refine value_ (w1 := ?_) (v := ?_) (by rfl) rfl ?_ ?_
                      rotate_left 2
                      ·go_simp
                       constructor
                       ·rfl
                       ·rfl
                      clear hcv46 hcv46d
                      refine hK.out _ _ trivial (fun hHeld => ?_)
                      clear hK K
                      refine norm_ (a' := ?_) ?_ ?_
                      rotate_left
                      ·show Act.put _ (some 90) _ = _
                       simp only [Act.put, List.setIfInBounds_toArray, List.set_cons_zero, List.set_cons_succ, i64_w, i32_w]
                       rfl
                      refine one_ (i := 7) (N := some 95) #[true, true, true, true, true, true, true, true, false] rfl rfl (one_of HT_.out (by kernel_rfl)) (by decide) (fun K hK => ?_)
                      have hcv47 := Kd.C_string (P := Try.prog) (A := A44) (c := (c0 - a1.toNat)) Try.underlying26 Try.underlying5 Try.underlying9 (Kd.C_below HR458.out HB.out); (rw [show ((l0.take (t447 : Int).toNat).drop (a1 : Int).toNat).length = (t447.toNat - a1.toNat) from (by rw [List.length_drop, List.length_take]; have h_ : (t447 : Int) ≤ (l0.length : Int) := of_decide_eq_true as_; omega)] at hcv47); have hcv47d := fun m_ => Kd.C_string (P := Try.prog) (A := A44) (c := (c0 - a1.toNat)) Try.underlying26 Try.underlying5 Try.underlying9 (Kd.C_drewN (Kd.C_below HR458.out HB.out) m_); (rw [show ((l0.take (t447 : Int).toNat).drop (a1 : Int).toNat).length = (t447.toNat - a1.toNat) from (by rw [List.length_drop, List.length_take]; have h_ : (t447 : Int) ≤ (l0.length : Int) := of_decide_eq_true as_; omega)] at hcv47d)
                      refine value_ (w1 := ?_) (v := ?_) (by rfl) rfl ?_ ?_
                      rotate_left 2
                      ·go_simp
                       constructor
                       ·rfl
                       ·rfl
                      clear hcv47 hcv47d
                      refine hK.out _ _ trivial (fun hHeld => ?_)
                      clear hK K
                      refine norm_ (a' := ?_) ?_ ?_
                      rotate_left
                      ·show Act.put _ (some 95) _ = _
                       simp only [Act.put, List.setIfInBounds_toArray, List.set_cons_zero, List.set_cons_succ, i64_w, i32_w]
                       rfl
                      exact norm_ (by simp only [putAll, Act.put, List.setIfInBounds_toArray, List.set_cons_zero, List.set_cons_succ]) (hCont (v456) _ ⟨(rb_ HO457), (rb_ HO_10), (rb_ HO_15), (bb_ HB)⟩)
                     ·skip
                      have hcv46 := Kd.C_string (P := Try.prog) (A := A44) (c := (c0 - a1.toNat)) Try.underlying26 Try.underlying5 Try.underlying9 (Kd.C_below HR458.out HB.out); (rw [show ((l0.take (t447 : Int).toNat).drop (a1 : Int).toNat).length = (t447.toNat - a1.toNat) from (by rw [List.length_drop, List.length_take]; have h_ : (t447 : Int) ≤ (l0.length : Int) := of_decide_eq_true as_; omega)] at hcv46); have hcv46d := fun m_ => Kd.C_string (P := Try.prog) (A := A44) (c := (c0 - a1.toNat)) Try.underlying26 Try.underlying5 Try.underlying9 (Kd.C_drewN (Kd.C_below HR458.out HB.out) m_); (rw [show ((l0.take (t447 : Int).toNat).drop (a1 : Int).toNat).length = (t447.toNat - a1.toNat) from (by rw [List.length_drop, List.length_take]; have h_ : (t447 : Int) ≤ (l0.length : Int) := of_decide_eq_true as_; omega)] at hcv46d)
                      refine value_ (w1 := ?_) (v := ?_) (by rfl) rfl ?_ ?_
                      rotate_left 2
                      ·go_simp
                       constructor
                       ·rfl
                       ·rfl
                      clear hcv46 hcv46d
                      refine hK.out _ _ trivial (fun hHeld => ?_)
                      clear hK K
                      refine norm_ (a' := ?_) ?_ ?_
                      rotate_left
                      ·show Act.put _ (some 95) _ = _
                       simp only [Act.put, List.setIfInBounds_toArray, List.set_cons_zero, List.set_cons_succ, i64_w, i32_w]
                       rfl
                      refine one_ (i := 2) (N := some 90) #[true, true, true, true, true, true, true, true, false] rfl rfl (one_of HT_.out (by kernel_rfl)) (by decide) (fun K hK => ?_)
                      have hcv47 := own_string (P := Try.prog) Try.underlying26 Try.underlying5 Try.underlying9 (Kd.own_of_R HO457.out); have hcv47d := fun m_ => own_string (P := Try.prog) Try.underlying26 Try.underlying5 Try.underlying9 (Kd.own_of_R (Kd.R_drewN HO457.out m_))
                      refine value_ (w1 := ?_) (v := ?_) (by rfl) rfl ?_ ?_
                      rotate_left 2
                      ·go_simp
                       constructor
                       ·rfl
                       ·rfl
                      clear hcv47 hcv47d
                      refine hK.out _ _ trivial (fun hHeld => ?_)
                      clear hK K
                      refine norm_ (a' := ?_) ?_ ?_
                      rotate_left
                      ·show Act.put _ (some 90) _ = _
                       simp only [Act.put, List.setIfInBounds_toArray, List.set_cons_zero, List.set_cons_succ, i64_w, i32_w]
                       rfl
                      exact norm_ (by simp only [putAll, Act.put, List.setIfInBounds_toArray, List.set_cons_zero, List.set_cons_succ]) (hCont (v456) _ ⟨(rb_ HO457), (rb_ HO_10), (rb_ HO_15), (bb_ HB)⟩)
                    ·skip
                     have hcv45 := Kd.C_string (P := Try.prog) (A := A44) (c := (c0 - a1.toNat)) Try.underlying26 Try.underlying5 Try.underlying9 (Kd.C_below HR458.out HB.out); (rw [show ((l0.take (t447 : Int).toNat).drop (a1 : Int).toNat).length = (t447.toNat - a1.toNat) from (by rw [List.length_drop, List.length_take]; have h_ : (t447 : Int) ≤ (l0.length : Int) := of_decide_eq_true as_; omega)] at hcv45); have hcv45d := fun m_ => Kd.C_string (P := Try.prog) (A := A44) (c := (c0 - a1.toNat)) Try.underlying26 Try.underlying5 Try.underlying9 (Kd.C_drewN (Kd.C_below HR458.out HB.out) m_); (rw [show ((l0.take (t447 : Int).toNat).drop (a1 : Int).toNat).length = (t447.toNat - a1.toNat) from (by rw [List.length_drop, List.length_take]; have h_ : (t447 : Int) ≤ (l0.length : Int) := of_decide_eq_true as_; omega)] at hcv45d)
                     refine value_ (w1 := ?_) (v := ?_) (by rfl) rfl ?_ ?_
                     rotate_left 2
                     ·go_simp
                      constructor
                      ·rfl
                      ·rfl
                     clear hcv45 hcv45d
                     refine hK.out _ _ trivial (fun hHeld => ?_)
                     clear hK K
                     refine norm_ (a' := ?_) ?_ ?_
                     rotate_left
                     ·show Act.put _ (some 95) _ = _
                      simp only [Act.put, List.setIfInBounds_toArray, List.set_cons_zero, List.set_cons_succ, i64_w, i32_w]
                      rfl
                     refine one_ (i := 1) (N := some 89) #[true, true, false, true, true, true, true, true, false] rfl rfl (one_of HT_.out (by kernel_rfl)) (by decide) (fun K hK => ?_)
                     refine goes_ Try.func52 (by kernel_rfl) rfl #[.slice Ao42 x15_3.length co42] (by (first | rfl | (simp only [*]; rfl) | (simp [*]; done))) rfl rfl ma_ ?_
                     with_reducible refine (laminaref09_Encode.calls k3 _ _ x15_3 t455 _ ?side1 ?side2 A30.out).mono ?_
                     (case side1 => exact ca_ (Kd.R_reads' HO_15.out).2.2)
                     (case side2 => exact (Kd.R_reads' HO_15.out).2.1)
                     rintro e w46 ⟨v456, rfl, ho0, hb⟩
                     refine ⟨_, rfl, ?_⟩
                     have n0_ := Aside0.mk (Kd.R_below (rb_ HO_10) hb)
                     have n1_ := Aside0.mk (Kd.R_below (rb_ HO_15) hb)
                     have n2_ := Aside0.mk (Kd.R_lower ho0 (below_size (bb_ HB)))
                     have n3_ := Aside0.mk (below_step (bb_ HB) hb)
                     clear HO_10
                     clear HO_15
                     clear HB
                     have HO_10 := n0_
                     have HO_15 := n1_
                     have HO457 := n2_
                     have HB := n3_
                     clear n0_ n1_ n2_ n3_
                     (try clear hb)
                     (try clear hb2)
                     (try clear hk)
                     (try clear hi)
                     (try clear ho0)
                     refine hK.out _ _ trivial (fun hHeld => ?_)
                     clear hK K
                     refine norm_ (a' := ?_) ?_ ?_
                     rotate_left
                     ·show Act.put _ (some 89) _ = _
                      simp only [Act.put, List.setIfInBounds_toArray, List.set_cons_zero, List.set_cons_succ, i64_w, i32_w]
                      rfl
                     refine one_ (i := 2) (N := some 90) #[true, true, true, true, true, true, true, true, false] rfl rfl (one_of HT_.out (by kernel_rfl)) (by decide) (fun K hK => ?_)
                     have hcv47 := own_string (P := Try.prog) Try.underlying26 Try.underlying5 Try.underlying9 (Kd.own_of_R HO457.out); have hcv47d := fun m_ => own_string (P := Try.prog) Try.underlying26 Try.underlying5 Try.underlying9 (Kd.own_of_R (Kd.R_drewN HO457.out m_))
                     refine value_ (w1 := ?_) (v := ?_) (by rfl) rfl ?_ ?_
                     rotate_left 2
                     ·go_simp
                      constructor
                      ·rfl
                      ·rfl
                     clear hcv47 hcv47d
                     refine hK.out _ _ trivial (fun hHeld => ?_)
                     clear hK K
                     refine norm_ (a' := ?_) ?_ ?_
                     rotate_left
                     ·show Act.put _ (some 90) _ = _
                      simp only [Act.put, List.setIfInBounds_toArray, List.set_cons_zero, List.set_cons_succ, i64_w, i32_w]
                      rfl
                     exact norm_ (by simp only [putAll, Act.put, List.setIfInBounds_toArray, List.set_cons_zero, List.set_cons_succ]) (hCont (v456) _ ⟨(rb_ HO457), (rb_ HO_10), (rb_ HO_15), (bb_ HB)⟩)
                   rintro v456 w48 ⟨h0_, h1_, h2_, h3_⟩
                   have n0_ : Aside0 (Kd.R (Kd.int .u8) 5 w48 w.heap.size (fun _ => True) v456 t455) := ⟨h0_⟩
                   have n1_ : Aside0 (Kd.R (Kd.int .i64) 2 w48 w.heap.size (fun k_ => some k_ ≠ (.slice Ao42 x15_3.length co42 : Value).ownBlock) (.slice Ao23 t441.length co23) t441) := ⟨h1_⟩
                   have n2_ : Aside0 (Kd.R (Kd.int .i64) 2 w48 w.heap.size (fun k_ => some k_ ≠ (.slice Ao23 t441.length co23 : Value).ownBlock) (.slice Ao42 x15_3.length co42) x15_3) := ⟨h2_⟩
                   have n3_ : Aside0 (Below w.heap.size w w48) := ⟨h3_⟩
                   clear HO_10
                   clear HO_15
                   clear HB
                   clear h0_ h1_ h2_ h3_
                   have HO457 := n0_
                   have HO_10 := n1_
                   have HO_15 := n2_
                   have HB := n3_
                   clear n0_ n1_ n2_ n3_
                   have hHeld := trivial
                   refine norm_ (a' := ?_) ?_ ?_
                   rotate_left
                   ·simp only [putAll, Act.put, List.setIfInBounds_toArray, List.set_cons_zero, List.set_cons_succ]
                    rfl
                   refine pure_ (i := 8) (N := some 96) (v := ?_) (a' := ?_) #[true, true, true, true, true, true, true, true, true] rfl rfl (any_of HT_.out (by kernel_rfl)) (fun _ _ _ h => h) (Or.inl ⟨by (first | rfl | (simp only [*]; rfl) | (simp [*]; done)), ?_⟩) ?_ ?_
                   rotate_left
                   ·intro w'
                    go_simp
                    with_reducible rfl
                   rotate_left
                   ·simp only [Act.put, List.setIfInBounds_toArray, List.set_cons_zero, List.set_cons_succ, i64_w, i32_w]
                    rfl
                   refine done_ (done_of HT_.out (by kernel_rfl)) ?_
                   try go_wp2
                   go_ret3
                   exact ⟨_, by first | rfl | (simp [errW_none, errW_some] <;> rfl) | (simp only [← hji15, ← hji18]; first | rfl | (simp [errW_none, errW_some] <;> rfl)) | (simp [*, errW_none, errW_some] <;> rfl), by first | exact Kd.R_nil _ _ _ _ _ | exact Kd.N_nil _ _ _ _ _ | exact Kd.V_nil _ _ _ _ _ | exact Kd.Q_nil _ _ _ _ _ | exact Kd.S_nil _ _ _ _ _, by repeat (first | (with_reducible first | exact HB.out | apply below_alloc | apply pw_below_drewN | apply below_drew1) | exact HB.out)⟩
                 ·rw [if_neg c33] at H
                  exact absurd H (by simp)
                ·rw [if_neg c32] at H
                 exact absurd H (by simp)
               ·rw [if_neg c31] at H
                exact absurd H (by simp)
           ·rw [if_neg c20] at H
            have c20b0 : (t448 == 0) = false := beq_eq_false_iff_ne.mpr c20
            have c20b1 : (t448 != 0) = true := bne_iff_ne.mpr c20
            simp only [Option.some.injEq, Prod.mk.injEq] at H
            obtain ⟨rfl, rfl, rfl⟩ := H
            go_wp2_with (first | ((with_reducible refine gate_callee (f := 84) rfl ?_); refine goesL_ (some 53) rfl rfl Try.func84 (by kernel_rfl) rfl #[.slice (some ad440) l0.length c0, .int .i64 (wrap64 (a1 + 1)), .int .i64 ji15] rfl (by (try simp only [List.map_toArray, List.map_cons, List.map_nil]); first | done | (simp only [hji15]; rfl) | rfl | (simp only [List.length_drop, List.length_take]; rfl)) ?_; (with_reducible refine (laminaref09_heads.calls kj10 _ _ l0 (wrap64 (a1 + 1)) ji15 t441 t442 t443 _ ?side1 ?side2 A16.out).mono ?_); (case side1 => exact ca_ (Kd.C_below HR0.out HB.out)); (case side2 => exact HC0.out); rintro e w49 ⟨v444, rfl, ho0, hb⟩; refine ⟨_, rfl, ?_⟩; have n0_ := Aside0.mk (Kd.R_lower ho0 (below_size (bb_ HB))); have n1_ := Aside0.mk (below_step (bb_ HB) hb); clear HB; have HO445 := n0_; have HB := n1_; clear n0_ n1_; (try clear hb); (try clear hb2); (try clear hk); (try clear hi); (try clear ho0)) | ((with_reducible refine gate_callee (f := 37) rfl ?_); refine goesL_ (some 67) rfl rfl Try.func37 (by kernel_rfl) rfl #[.slice (some ad440) l0.length c0, .int .i64 t442, .int .i64 ji18] rfl (by (try simp only [List.map_toArray, List.map_cons, List.map_nil]); first | done | (simp only [hji18]; rfl) | rfl | (simp only [List.length_drop, List.length_take]; rfl)) ?_; (with_reducible refine (laminaref08_Decode.calls kj10 _ _ l0 t442 ji18 t446 t447 t448 _ ?side1 ?side2 A19.out).mono ?_); (case side1 => exact ca_ (Kd.C_below HR0.out HB.out)); (case side2 => exact HC0.out); rintro e w50 ⟨v449, rfl, ho0, hb⟩; refine ⟨_, rfl, ?_⟩; have n0_ := Aside0.mk (Kd.R_elder' (rb_ HO445) (Kd.R_base ho0) hb); have n1_ := Aside0.mk (Kd.R_lower (Kd.R_new' ho0 (Kd.R_lt (rb_ HO445))) (below_size (bb_ HB))); have n2_ := Aside0.mk (below_step (bb_ HB) hb); clear HO445; clear HB; have HO445 := n0_; have HO450 := n1_; have HB := n2_; clear n0_ n1_ n2_; (try clear hb); (try clear hb2); (try clear hk); (try clear hi); (try clear ho0)))
            go_ret3
            exact ⟨_, by first | rfl | (simp [errW_none, errW_some] <;> rfl) | (simp only [← hji15, ← hji18]; first | rfl | (simp [errW_none, errW_some] <;> rfl)) | (simp [*, errW_none, errW_some] <;> rfl), by first | exact Kd.R_nil _ _ _ _ _ | exact Kd.N_nil _ _ _ _ _ | exact Kd.V_nil _ _ _ _ _ | exact Kd.Q_nil _ _ _ _ _ | exact Kd.S_nil _ _ _ _ _, by repeat (first | (with_reducible first | exact HB.out | apply below_alloc | apply pw_below_drewN | apply below_drew1) | exact HB.out)⟩
          ·rw [if_neg c17] at H
           have c17b0 : (t443 == 0) = false := beq_eq_false_iff_ne.mpr c17
           have c17b1 : (t443 != 0) = true := bne_iff_ne.mpr c17
           simp only [Option.some.injEq, Prod.mk.injEq] at H
           obtain ⟨rfl, rfl, rfl⟩ := H
           go_wp2_with (first | ((with_reducible refine gate_callee (f := 84) rfl ?_); refine goesL_ (some 53) rfl rfl Try.func84 (by kernel_rfl) rfl #[.slice (some ad440) l0.length c0, .int .i64 (wrap64 (a1 + 1)), .int .i64 ji15] rfl (by (try simp only [List.map_toArray, List.map_cons, List.map_nil]); first | done | (simp only [hji15]; rfl) | rfl | (simp only [List.length_drop, List.length_take]; rfl)) ?_; (with_reducible refine (laminaref09_heads.calls kj10 _ _ l0 (wrap64 (a1 + 1)) ji15 t441 t442 t443 _ ?side1 ?side2 A16.out).mono ?_); (case side1 => exact ca_ (Kd.C_below HR0.out HB.out)); (case side2 => exact HC0.out); rintro e w51 ⟨v444, rfl, ho0, hb⟩; refine ⟨_, rfl, ?_⟩; have n0_ := Aside0.mk (Kd.R_lower ho0 (below_size (bb_ HB))); have n1_ := Aside0.mk (below_step (bb_ HB) hb); clear HB; have HO445 := n0_; have HB := n1_; clear n0_ n1_; (try clear hb); (try clear hb2); (try clear hk); (try clear hi); (try clear ho0)))
           go_ret3
           exact ⟨_, by first | rfl | (simp [errW_none, errW_some] <;> rfl) | (simp only [← hji15]; first | rfl | (simp [errW_none, errW_some] <;> rfl)) | (simp [*, errW_none, errW_some] <;> rfl), by first | exact Kd.R_nil _ _ _ _ _ | exact Kd.N_nil _ _ _ _ _ | exact Kd.V_nil _ _ _ _ _ | exact Kd.Q_nil _ _ _ _ _ | exact Kd.S_nil _ _ _ _ _, by repeat (first | (with_reducible first | exact HB.out | apply below_alloc | apply pw_below_drewN | apply below_drew1) | exact HB.out)⟩
      ·rw [if_neg c10] at H
       exact absurd H (by simp)
     ·rw [if_neg c9] at H
      exact absurd H (by simp)

end Go.Proofs.Ytllhbjkkoogeeaa.QDeltaDecode
