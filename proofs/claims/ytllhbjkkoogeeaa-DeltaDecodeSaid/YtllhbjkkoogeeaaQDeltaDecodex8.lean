-- Written by a program of this session (wip/pr2.sh): the walk of the Go text, function by function.
import Derived.Test.YtllhbjkkoogeeaaQDeltaDecodex0
import Derived.Test.YtllhbjkkoogeeaaQDeltaDecodex4
import Derived.Test.YtllhbjkkoogeeaaQDeltaDecodex5
import Derived.Test.YtllhbjkkoogeeaaQDeltaDecodex6
import Derived.Test.YtllhbjkkoogeeaaQDeltaDecodex7
namespace Go.Proofs.Ytllhbjkkoogeeaa.QDeltaDecode
open Go.RowKit Go.Proofs.YtllhbjkkoogeeaaW.PrintWords Go.Proofs.YtllhbjkkoogeeaaW.PrintLast Go.Proofs.YtllhbjkkoogeeaaW.PrintMore
open Go.Proofs.YtllhbjkkoogeeaaM
attribute [local go_sem] max2_int min2_int max_two min_two max_three min_three max_four min_four   -- for this text's walks alone
set_option linter.unusedVariables false
set_option linter.unusedSimpArgs false

/-! ### delta_Decode: function 32 -/
mutual
def delta_Decode.j0 : Nat → List Int → Int → Int → Bool → Option (List Int × Int × Int)
 | 0, _, _, _, _ => none
 | k + 1, x0, x1, x2, x27 => if x27 = true then (some (([] : List Int), 0, 1)) else (if x1 ≥ (x0.length : Int) then (some (([] : List Int), 0, 2)) else (if 0 ≤ x1 then (if x1 < (x0.length : Int) then (if (wrap64 (rd x0 x1)) = 1 then (delta_Decode.j1 k x0 x1 x2 (wrap64 (rd x0 x1)) false) else (if (wrap64 (rd x0 x1)) = 2 then (delta_Decode.j1 k x0 x1 x2 (wrap64 (rd x0 x1)) (decide (x2 < 2))) else (delta_Decode.j1 k x0 x1 x2 (wrap64 (rd x0 x1)) true))) else (none)) else (none)))
def delta_Decode.j1 : Nat → List Int → Int → Int → Int → Bool → Option (List Int × Int × Int)
 | 0, _, _, _, _, _ => none
 | k + 1, x0, x1, x2, x9, x46 => if x46 = true then (some (([] : List Int), 0, 4)) else (delta_Decode.l0 k x0 x1 x2 (wrap64 (x1 + 1)) ([] : List Int) (mn x9 x2) 0)
def delta_Decode.l0 : Nat → List Int → Int → Int → Int → List Int → Int → Int → Option (List Int × Int × Int)
 | 0, _, _, _, _, _, _, _ => none
 | k + 1, x0, x1, x2, x10, x11, x51, x52 => if x52 < x51 then ((varint_Decode.f k x0 x10).bind fun bt203 => (if bt203.2.2 = 0 then ((varint_UnZigZag.f bt203.1).bind fun t206 => (if x11.length < 17592186044416 then (delta_Decode.l0 k x0 x1 x2 bt203.2.1 (x11 ++ [t206]) x51 (wrap64 (x52 + 1))) else (none))) else (some (([] : List Int), 0, bt203.2.2)))) else ((frameref_Decode.f k x0 x10 (wrap64 (x2 - (x11.length : Int)))).bind fun bt210 => (if bt210.2.2 = 0 then (delta_Decode.l1 k x0 x1 bt210.2.1 x11 bt210.1 (wrap64 ((x11.length : Int) - 1))) else (some (([] : List Int), 0, bt210.2.2))))
def delta_Decode.l1 : Nat → List Int → Int → Int → List Int → List Int → Int → Option (List Int × Int × Int)
 | 0, _, _, _, _, _, _ => none
 | k + 1, x0, x1, x10, x11, x15, x17 => if x17 ≥ 0 then (if 0 ≤ x17 then (if x17 < (x11.length : Int) then ((delta_PrefixSums.f (rd x11 x17) x15).bind fun t216 => (delta_Decode.l1 k x0 x1 x10 x11 t216 (wrap64 (x17 - 1)))) else (none)) else (none)) else ((delta_Encode.f k x15).bind fun t219 => (if 0 ≤ x1 then (if x1 ≤ x10 then (if x10 ≤ (x0.length : Int) then ((bytes_Equal.f t219 ((x0.take (x10 : Int).toNat).drop (x1 : Int).toNat)).bind fun t223 => (if t223 = true then (some (x15, x10, 0)) else (some (([] : List Int), 0, 4)))) else (none)) else (none)) else (none)))
end
def delta_Decode.f (k : Nat) (l0 : List Int) (a1 : Int) (a2 : Int) : Option (List Int × Int × Int) := if a2 < 0 then (delta_Decode.j0 k l0 a1 a2 true) else (if a2 > 65536 then (delta_Decode.j0 k l0 a1 a2 true) else (delta_Decode.j0 k l0 a1 a2 (decide (a1 < 0))))
theorem delta_Decode.mono_l : ∀ k, (∀ y0 y1 y2 y3, LeO (delta_Decode.j0 k y0 y1 y2 y3) (delta_Decode.j0 (k + 1) y0 y1 y2 y3)) ∧ (∀ y0 y1 y2 y3 y4, LeO (delta_Decode.j1 k y0 y1 y2 y3 y4) (delta_Decode.j1 (k + 1) y0 y1 y2 y3 y4)) ∧ (∀ y0 y1 y2 y3 y4 y5 y6, LeO (delta_Decode.l0 k y0 y1 y2 y3 y4 y5 y6) (delta_Decode.l0 (k + 1) y0 y1 y2 y3 y4 y5 y6)) ∧ (∀ y0 y1 y2 y3 y4 y5, LeO (delta_Decode.l1 k y0 y1 y2 y3 y4 y5) (delta_Decode.l1 (k + 1) y0 y1 y2 y3 y4 y5))
 | 0 => ⟨fun _ _ _ _ r h => by simp [delta_Decode.j0] at h, fun _ _ _ _ _ r h => by simp [delta_Decode.j1] at h, fun _ _ _ _ _ _ _ r h => by simp [delta_Decode.l0] at h, fun _ _ _ _ _ _ r h => by simp [delta_Decode.l1] at h⟩
 | k + 1 => by
  obtain ⟨ih0, ih1, ih2, ih3⟩ := delta_Decode.mono_l k
  refine ⟨?_, ?_, ?_, ?_⟩
  ·intro y0 y1 y2 y3
   unfold delta_Decode.j0
   repeat' first
   | (with_reducible exact ih0 _ _ _ _)
   | (with_reducible exact ih1 _ _ _ _ _)
   | (with_reducible exact ih2 _ _ _ _ _ _ _)
   | (with_reducible exact ih3 _ _ _ _ _ _)
   | (with_reducible exact delta_Encode.mono _ _)
   | (with_reducible exact frameref_Decode.mono _ _ _ _)
   | (with_reducible exact varint_Decode.mono _ _ _)
   | (with_reducible exact LeO.refl _)
   | (with_reducible exact LeO.none _)
   | (with_reducible refine LeO.ite ?_ ?_)
   | (with_reducible refine LeO.bind ?_ (fun _ => ?_))
   | exact ih0 _ _ _ _
   | exact ih1 _ _ _ _ _
   | exact ih2 _ _ _ _ _ _ _
   | exact ih3 _ _ _ _ _ _
   | exact delta_Encode.mono _ _
   | exact frameref_Decode.mono _ _ _ _
   | exact varint_Decode.mono _ _ _
   | exact LeO.none _
   | refine LeO.ite ?_ ?_
   | refine LeO.bind ?_ (fun _ => ?_)
  ·intro y0 y1 y2 y3 y4
   unfold delta_Decode.j1
   repeat' first
   | (with_reducible exact ih0 _ _ _ _)
   | (with_reducible exact ih1 _ _ _ _ _)
   | (with_reducible exact ih2 _ _ _ _ _ _ _)
   | (with_reducible exact ih3 _ _ _ _ _ _)
   | (with_reducible exact delta_Encode.mono _ _)
   | (with_reducible exact frameref_Decode.mono _ _ _ _)
   | (with_reducible exact varint_Decode.mono _ _ _)
   | (with_reducible exact LeO.refl _)
   | (with_reducible exact LeO.none _)
   | (with_reducible refine LeO.ite ?_ ?_)
   | (with_reducible refine LeO.bind ?_ (fun _ => ?_))
   | exact ih0 _ _ _ _
   | exact ih1 _ _ _ _ _
   | exact ih2 _ _ _ _ _ _ _
   | exact ih3 _ _ _ _ _ _
   | exact delta_Encode.mono _ _
   | exact frameref_Decode.mono _ _ _ _
   | exact varint_Decode.mono _ _ _
   | exact LeO.none _
   | refine LeO.ite ?_ ?_
   | refine LeO.bind ?_ (fun _ => ?_)
  ·intro y0 y1 y2 y3 y4 y5 y6
   unfold delta_Decode.l0
   repeat' first
   | (with_reducible exact ih0 _ _ _ _)
   | (with_reducible exact ih1 _ _ _ _ _)
   | (with_reducible exact ih2 _ _ _ _ _ _ _)
   | (with_reducible exact ih3 _ _ _ _ _ _)
   | (with_reducible exact delta_Encode.mono _ _)
   | (with_reducible exact frameref_Decode.mono _ _ _ _)
   | (with_reducible exact varint_Decode.mono _ _ _)
   | (with_reducible exact LeO.refl _)
   | (with_reducible exact LeO.none _)
   | (with_reducible refine LeO.ite ?_ ?_)
   | (with_reducible refine LeO.bind ?_ (fun _ => ?_))
   | exact ih0 _ _ _ _
   | exact ih1 _ _ _ _ _
   | exact ih2 _ _ _ _ _ _ _
   | exact ih3 _ _ _ _ _ _
   | exact delta_Encode.mono _ _
   | exact frameref_Decode.mono _ _ _ _
   | exact varint_Decode.mono _ _ _
   | exact LeO.none _
   | refine LeO.ite ?_ ?_
   | refine LeO.bind ?_ (fun _ => ?_)
  ·intro y0 y1 y2 y3 y4 y5
   unfold delta_Decode.l1
   repeat' first
   | (with_reducible exact ih0 _ _ _ _)
   | (with_reducible exact ih1 _ _ _ _ _)
   | (with_reducible exact ih2 _ _ _ _ _ _ _)
   | (with_reducible exact ih3 _ _ _ _ _ _)
   | (with_reducible exact delta_Encode.mono _ _)
   | (with_reducible exact frameref_Decode.mono _ _ _ _)
   | (with_reducible exact varint_Decode.mono _ _ _)
   | (with_reducible exact LeO.refl _)
   | (with_reducible exact LeO.none _)
   | (with_reducible refine LeO.ite ?_ ?_)
   | (with_reducible refine LeO.bind ?_ (fun _ => ?_))
   | exact ih0 _ _ _ _
   | exact ih1 _ _ _ _ _
   | exact ih2 _ _ _ _ _ _ _
   | exact ih3 _ _ _ _ _ _
   | exact delta_Encode.mono _ _
   | exact frameref_Decode.mono _ _ _ _
   | exact varint_Decode.mono _ _ _
   | exact LeO.none _
   | refine LeO.ite ?_ ?_
   | refine LeO.bind ?_ (fun _ => ?_)
theorem delta_Decode.mono : ∀ a0 a1 a2 k, LeO (delta_Decode.f k a0 a1 a2) (delta_Decode.f (k + 1) a0 a1 a2) := by
 intro a0 a1 a2 k
 obtain ⟨ih0, ih1, ih2, ih3⟩ := delta_Decode.mono_l k
 unfold delta_Decode.f
 repeat' first
   | (with_reducible exact ih0 _ _ _ _)
   | (with_reducible exact ih1 _ _ _ _ _)
   | (with_reducible exact ih2 _ _ _ _ _ _ _)
   | (with_reducible exact ih3 _ _ _ _ _ _)
   | (with_reducible exact delta_Encode.mono _ _)
   | (with_reducible exact frameref_Decode.mono _ _ _ _)
   | (with_reducible exact varint_Decode.mono _ _ _)
   | (with_reducible exact LeO.refl _)
   | (with_reducible exact LeO.none _)
   | (with_reducible refine LeO.ite ?_ ?_)
   | (with_reducible refine LeO.bind ?_ (fun _ => ?_))
   | exact ih0 _ _ _ _
   | exact ih1 _ _ _ _ _
   | exact ih2 _ _ _ _ _ _ _
   | exact ih3 _ _ _ _ _ _
   | exact delta_Encode.mono _ _
   | exact frameref_Decode.mono _ _ _ _
   | exact varint_Decode.mono _ _ _
   | exact LeO.none _
   | refine LeO.ite ?_ ?_
   | refine LeO.bind ?_ (fun _ => ?_)
def delta_Decode.T25 : Bool × List (List Nat × List Nat) := (true, [([], []), ([0], [0]), ([], []), ([], []), ([], []), ([2, 3, 4], [2, 3, 4]), ([1, 5, 1], [1, 5]), ([6], [6])])
def delta_Decode.B25 : List Nat := [0, 1, 0, 0, 0, 28, 63, 127]
theorem delta_Decode.tab25 : rtab .any (opsOf Try.f32 25) = delta_Decode.T25 := by kernel_rfl
theorem delta_Decode.bits25 : waitsOk delta_Decode.T25.2 delta_Decode.B25 = true := by kernel_rfl
set_option maxHeartbeats 8000000 in
set_option maxRecDepth 100000 in
theorem delta_Decode.calls (k : Nat) (A0 : Option Addr) (c0 : Nat) (l0 : List Int) (a1 : Int) (a2 : Int) (r1 : List Int) (r2 : Int) (r3 : Int) (w : World) (hr0 : Kd.C (Kd.int .u8) w A0 l0.length l0) (hc0 : l0.length ≤ c0) (h : delta_Decode.f k l0 a1 a2 = some (r1, r2, r3)) :
  Calls Try.prog 32 #[.slice A0 l0.length c0, .int .i64 a1, .int .i64 a2] w fun e w' => ∃ v0_ : Value, e = .returned (.tuple #[v0_, .int .i64 r2, .int .i64 r3]) ∧ Kd.R (Kd.int .i64) 2 w' w.heap.size (fun _ => True) v0_ r1 ∧ Below w.heap.size w w' := by
 have HR0 := Aside0.mk hr0
 have HC0 := Aside0.mk hc0
 clear hr0 hc0
 have HB := Aside0.mk (Below.refl w.heap.size w)
 have H : (if a2 < 0 then (delta_Decode.j0 k l0 a1 a2 true) else (if a2 > 65536 then (delta_Decode.j0 k l0 a1 a2 true) else (delta_Decode.j0 k l0 a1 a2 (decide (a1 < 0))))) = some (r1, r2, r3) := h
 clear h
 have HC4 := Aside0.mk H
 clear H
 go_enter Try.func32, Try.ntmps32
 go_upto_region 1 with (fail)
 go_cut [27] (fun v27 wc => ∃ (kq : Nat) (x27_3 : Bool), v27 = .bool x27_3 ∧ Aside0 (delta_Decode.j0 kq l0 a1 a2 x27_3 = some (r1, r2, r3)) ∧ Aside0 (kq ≤ k) ∧ Aside0 (Below w.heap.size w wc))
 case first =>
  have H := HC4.out
  clear HC4
  by_cases c5 : a2 < 0
  ·rw [if_pos c5] at H
   have c5b0 : decide (a2 < 0) = true := decide_eq_true c5
   clear c5
   (first | rw [c5b0] | (simp only [i64_w, i32_w]; rw [c5b0]) | skip)
   have H' := Aside0.mk H
   clear H
   go_wp2
   go_meet
   case rel => exact ⟨_, (true), fr_, H', ⟨by first | omega | exact Nat.le_refl _⟩, ⟨by repeat (first | (with_reducible first | exact HB.out | apply below_alloc | apply pw_below_drewN | apply below_drew1) | exact HB.out)⟩⟩
  ·rw [if_neg c5] at H
   have c5b0 : decide (a2 < 0) = false := decide_eq_false c5
   clear c5
   (first | rw [c5b0] | (simp only [i64_w, i32_w]; rw [c5b0]) | skip)
   by_cases c6 : a2 > 65536
   ·rw [if_pos c6] at H
    have c6b0 : decide (65536 < a2) = true := decide_eq_true c6
    clear c6
    have H' := Aside0.mk H
    clear H
    go_wp2
    go_meet
    case rel => exact ⟨_, (true), fr_, H', ⟨by first | omega | exact Nat.le_refl _⟩, ⟨by repeat (first | (with_reducible first | exact HB.out | apply below_alloc | apply pw_below_drewN | apply below_drew1) | exact HB.out)⟩⟩
   ·rw [if_neg c6] at H
    have c6b0 : decide (65536 < a2) = false := decide_eq_false c6
    clear c6
    have H' := Aside0.mk H
    clear H
    go_wp2
    go_meet
    case rel => exact ⟨_, (decide (a1 < 0)), fr_, H', ⟨by first | omega | exact Nat.le_refl _⟩, ⟨by repeat (first | (with_reducible first | exact HB.out | apply below_alloc | apply pw_below_drewN | apply below_drew1) | exact HB.out)⟩⟩
 case rest =>
  clear HC4
  try clear p2
  try clear c3
  try clear c5
  try clear c5b0
  try clear c6
  try clear c6b0
  obtain ⟨kq, x27_3, rfl, HA, HJ3, HB⟩ := hcut
  cases kq with
  | zero => exact absurd HA.out (by simp [delta_Decode.j0])
  | succ kj3 =>
   have H := HA.out
   clear HA
   simp only [delta_Decode.j0] at H
   by_cases c7 : x27_3 = true
   ·subst c7
    have H1 : (some (([] : List Int), 0, 1)) = some (r1, r2, r3) := by rw [if_pos rfl] at H; exact H
    clear H
    have H := H1
    clear H1
    simp only [Option.some.injEq, Prod.mk.injEq] at H
    obtain ⟨rfl, rfl, rfl⟩ := H
    go_wp2
    go_ret3
    exact ⟨_, er_, by first | exact Kd.R_nil _ _ _ _ _ | exact Kd.N_nil _ _ _ _ _ | exact Kd.V_nil _ _ _ _ _ | exact Kd.Q_nil _ _ _ _ _ | exact Kd.S_nil _ _ _ _ _, by repeat (first | (with_reducible first | exact HB.out | apply below_alloc | apply pw_below_drewN | apply below_drew1) | exact HB.out)⟩
   ·replace c7 := Bool.eq_false_iff.mpr c7
    subst c7
    have H1 : (if a1 ≥ (l0.length : Int) then (some (([] : List Int), 0, 2)) else (if 0 ≤ a1 then (if a1 < (l0.length : Int) then (if (wrap64 (rd l0 a1)) = 1 then (delta_Decode.j1 kj3 l0 a1 a2 (wrap64 (rd l0 a1)) false) else (if (wrap64 (rd l0 a1)) = 2 then (delta_Decode.j1 kj3 l0 a1 a2 (wrap64 (rd l0 a1)) (decide (a2 < 2))) else (delta_Decode.j1 kj3 l0 a1 a2 (wrap64 (rd l0 a1)) true))) else (none)) else (none))) = some (r1, r2, r3) := by rw [if_neg (show ¬ (false = true) by decide)] at H; exact H
    clear H
    have H := H1
    clear H1
    by_cases c8 : a1 ≥ (l0.length : Int)
    ·rw [if_pos c8] at H
     have c8b0 : decide ((l0.length : Int) ≤ a1) = true := decide_eq_true c8
     clear c8
     simp only [Option.some.injEq, Prod.mk.injEq] at H
     obtain ⟨rfl, rfl, rfl⟩ := H
     go_wp2
     go_ret3
     exact ⟨_, er_, by first | exact Kd.R_nil _ _ _ _ _ | exact Kd.N_nil _ _ _ _ _ | exact Kd.V_nil _ _ _ _ _ | exact Kd.Q_nil _ _ _ _ _ | exact Kd.S_nil _ _ _ _ _, by repeat (first | (with_reducible first | exact HB.out | apply below_alloc | apply pw_below_drewN | apply below_drew1) | exact HB.out)⟩
    ·rw [if_neg c8] at H
     have c8b0 : decide ((l0.length : Int) ≤ a1) = false := decide_eq_false c8
     clear c8
     by_cases c9 : 0 ≤ a1
     ·rw [if_pos c9] at H
      have c9b0 : decide (0 ≤ a1) = true := decide_eq_true c9
      clear c9
      by_cases c10 : a1 < (l0.length : Int)
      ·rw [if_pos c10] at H
       have c10b0 : decide (a1 < (l0.length : Int)) = true := decide_eq_true c10
       clear c10
       have HC11 := Aside0.mk H
       clear H
       have p202 : 0 ≤ (a1 : Int) := of_decide_eq_true as_
       have q202 : a1 < (l0.length : Int) := of_decide_eq_true as_
       obtain ⟨ad202, e202, hx202_0⟩ := Kd.at_int HR0.out a1 p202 q202
       cases e202
       replace hx202_0 := (HB.out.cell (World.block_lt_of_cell? w _ hx202_0)).trans hx202_0
       replace p202 := eq_true p202
       replace q202 := eq_true q202
       go_upto_region 6 with (fail)
       go_cut [46] (fun v46 wc => ∃ (kq : Nat) (x46_10 : Bool), v46 = .bool x46_10 ∧ Aside0 (delta_Decode.j1 kq l0 a1 a2 (wrap64 (rd l0 a1)) x46_10 = some (r1, r2, r3)) ∧ Aside0 (kq ≤ kj3) ∧ Aside0 (Below w.heap.size w wc))
       case first =>
        have H := HC11.out
        clear HC11
        by_cases c12 : (wrap64 (rd l0 a1)) = 1
        ·rw [if_pos c12] at H
         have c12b0 : ((wrap64 (rd l0 a1)) == 1) = true := beq_iff_eq.mpr c12
         have c12b1 : ((wrap64 (rd l0 a1)) != 1) = false := bne_eq_false_iff_eq.mpr c12
         clear c12
         (first | rw [c12b0] | (simp only [i64_w, i32_w]; rw [c12b0]) | skip)
         have H' := Aside0.mk H
         clear H
         go_wp2
         go_meet
         case rel => exact ⟨_, (false), fr_, H', ⟨by have := HJ3.out; first | omega | exact Nat.le_refl _⟩, ⟨by repeat (first | (with_reducible first | exact HB.out | apply below_alloc | apply pw_below_drewN | apply below_drew1) | exact HB.out)⟩⟩
        ·rw [if_neg c12] at H
         have c12b0 : ((wrap64 (rd l0 a1)) == 1) = false := beq_eq_false_iff_ne.mpr c12
         have c12b1 : ((wrap64 (rd l0 a1)) != 1) = true := bne_iff_ne.mpr c12
         (first | rw [c12b0] | (simp only [i64_w, i32_w]; rw [c12b0]) | skip)
         by_cases c13 : (wrap64 (rd l0 a1)) = 2
         ·rw [if_pos c13] at H
          have c13b0 : ((wrap64 (rd l0 a1)) == 2) = true := beq_iff_eq.mpr c13
          have c13b1 : ((wrap64 (rd l0 a1)) != 2) = false := bne_eq_false_iff_eq.mpr c13
          clear c13
          have H' := Aside0.mk H
          clear H
          go_wp2
          go_meet
          case rel => exact ⟨_, (decide (a2 < 2)), fr_, H', ⟨by have := HJ3.out; first | omega | exact Nat.le_refl _⟩, ⟨by repeat (first | (with_reducible first | exact HB.out | apply below_alloc | apply pw_below_drewN | apply below_drew1) | exact HB.out)⟩⟩
         ·rw [if_neg c13] at H
          have c13b0 : ((wrap64 (rd l0 a1)) == 2) = false := beq_eq_false_iff_ne.mpr c13
          have c13b1 : ((wrap64 (rd l0 a1)) != 2) = true := bne_iff_ne.mpr c13
          have H' := Aside0.mk H
          clear H
          go_wp2
          go_meet
          case rel => exact ⟨_, (true), fr_, H', ⟨by have := HJ3.out; first | omega | exact Nat.le_refl _⟩, ⟨by repeat (first | (with_reducible first | exact HB.out | apply below_alloc | apply pw_below_drewN | apply below_drew1) | exact HB.out)⟩⟩
       case rest =>
        clear HC11
        try clear c1
        try clear p2
        try clear q2
        try clear hx2
        try clear c3
        try clear c5
        try clear c5b0
        try clear c6
        try clear c6b0
        try clear p6
        try clear c7
        try clear c8
        try clear c8b0
        try clear c9
        try clear c9b0
        try clear c10
        try clear c10b0
        try clear c12
        try clear c12b0
        try clear c12b1
        try clear c13
        try clear c13b0
        try clear c13b1
        try clear hx202_0
        try clear p2
        try clear p202
        try clear q202
        obtain ⟨kq, x46_10, rfl, HA, HJ10, HB⟩ := hcut
        cases kq with
        | zero => exact absurd HA.out (by simp [delta_Decode.j1])
        | succ kj10 =>
         have H := HA.out
         clear HA
         simp only [delta_Decode.j1] at H
         by_cases c14 : x46_10 = true
         ·subst c14
          have H1 : (some (([] : List Int), 0, 4)) = some (r1, r2, r3) := by rw [if_pos rfl] at H; exact H
          clear H
          have H := H1
          clear H1
          simp only [Option.some.injEq, Prod.mk.injEq] at H
          obtain ⟨rfl, rfl, rfl⟩ := H
          go_wp2
          go_ret3
          exact ⟨_, er_, by first | exact Kd.R_nil _ _ _ _ _ | exact Kd.N_nil _ _ _ _ _ | exact Kd.V_nil _ _ _ _ _ | exact Kd.Q_nil _ _ _ _ _ | exact Kd.S_nil _ _ _ _ _, by repeat (first | (with_reducible first | exact HB.out | apply below_alloc | apply pw_below_drewN | apply below_drew1) | exact HB.out)⟩
         ·replace c14 := Bool.eq_false_iff.mpr c14
          subst c14
          have H1 : (delta_Decode.l0 kj10 l0 a1 a2 (wrap64 (a1 + 1)) ([] : List Int) (mn (wrap64 (rd l0 a1)) a2) 0) = some (r1, r2, r3) := by rw [if_neg (show ¬ (false = true) by decide)] at H; exact H
          clear H
          have H := H1
          clear H1
          obtain ⟨ji15, hji15⟩ : ∃ j_ : Int, (mn (wrap64 (rd l0 a1)) a2) = j_ := ⟨_, rfl⟩
          replace H : (delta_Decode.l0 kj10 l0 a1 a2 (wrap64 (a1 + 1)) ([] : List Int) ji15 0) = some (r1, r2, r3) := by first | (rw [hji15] at H; exact H) | (simp only [hji15] at H ⊢; exact H)
          have hji15_ : (if a2 < (wrap64 (rd l0 a1)) then a2 else (wrap64 (rd l0 a1))) = ji15 := hji15
          have H' := Aside0.mk H
          clear H
          go_wp2
          go_loopg [10, 11, 52] kj10 (fun kq v10 v11 v52 w' => ∃ (x10_3 : Int) (x11_3 : List Int) (x52_3 : Int), v10 = .int .i64 x10_3 ∧ v52 = .int .i64 x52_3 ∧ Aside0 (delta_Decode.l0 kq l0 a1 a2 x10_3 x11_3 ji15 x52_3 = some (r1, r2, r3)) ∧ Aside0 (kq ≤ kj10) ∧ Aside0 (Kd.R (Kd.int .i64) 2 w' w.heap.size (fun _ => True) v11 x11_3) ∧ Aside0 (Below w.heap.size w w'))
          case atStart => exact ⟨(wrap64 (a1 + 1)), (([] : List Int)), (0), fr_, fr_, H', ⟨Nat.le_refl _⟩, ⟨by first | exact Kd.R_nil _ _ _ _ _ | exact Kd.N_nil _ _ _ _ _ | exact Kd.V_nil _ _ _ _ _ | exact Kd.Q_nil _ _ _ _ _ | exact Kd.S_nil _ _ _ _ _⟩, ⟨by repeat (first | (with_reducible first | exact HB.out | apply below_alloc | apply pw_below_drewN | apply below_drew1) | exact HB.out)⟩⟩
          case round =>
           clear H'
           try clear c1
           try clear p2
           try clear q2
           try clear hx2
           try clear c3
           try clear c5
           try clear c5b0
           try clear c6
           try clear c6b0
           try clear p6
           try clear c7
           try clear c8
           try clear c8b0
           try clear c9
           try clear c9b0
           try clear c10
           try clear c10b0
           try clear c12
           try clear c12b0
           try clear c12b1
           try clear c13
           try clear c13b0
           try clear c13b1
           try clear c14
           try clear hx202_0
           try clear p2
           try clear p202
           try clear p6
           try clear q2
           try clear q202
           obtain ⟨x10_3, x11_3, x52_3, rfl, rfl, HA, HK3, HO_11, HB⟩ := hrel
           cases gk with
           | zero => exact absurd HA.out (by simp [delta_Decode.l0])
           | succ k3 =>
            have H := HA.out
            clear HA
            simp only [delta_Decode.l0] at H
            by_cases c16 : x52_3 < ji15
            ·rw [if_pos c16] at H
             have c16b0 : decide (x52_3 < ji15) = true := decide_eq_true c16
             clear c16
             replace H := Option.bind_eq_some_iff.mp H
             obtain ⟨⟨t203, t204, t205⟩, A170, H⟩ := H
             try dsimp only at H
             have A17 := Aside0.mk A170
             clear A170
             by_cases c18 : t205 = 0
             ·rw [if_pos c18] at H
              have c18b0 : (t205 == 0) = true := beq_iff_eq.mpr c18
              have c18b1 : (t205 != 0) = false := bne_eq_false_iff_eq.mpr c18
              clear c18
              replace H := Option.bind_eq_some_iff.mp H
              obtain ⟨t206, A190, H⟩ := H
              try dsimp only at H
              have A19 := Aside0.mk A190
              clear A190
              by_cases c20 : x11_3.length < 17592186044416
              ·rw [if_pos c20] at H
               have LMc20 := Aside0.mk c20
               clear c20
               obtain ⟨y207, hy207⟩ : ∃ y_ : List Int, y_ = (x11_3 ++ [t206]) := ⟨_, rfl⟩
               replace H : (delta_Decode.l0 k3 l0 a1 a2 t204 y207 ji15 (wrap64 (x52_3 + 1))) = some (r1, r2, r3) := hx_ hy207 H
               have Ny207 := Aside0.mk hy207
               clear hy207
               have H' := Aside0.mk H
               clear H
               go_wp2_with (first | ((with_reducible refine gate_callee (f := 66) rfl ?_); refine goesL_ (some 57) rfl rfl Try.func66 (by kernel_rfl) rfl #[.slice (some ad202) l0.length c0, .int .i64 x10_3] rfl ma_ ?_; (with_reducible refine (varint_Decode.calls k3 _ _ l0 x10_3 t203 t204 t205 _ ?side1 ?side2 A17.out).mono ?_); (case side1 => exact ca_ (Kd.C_below HR0.out HB.out)); (case side2 => exact HC0.out); rintro e w' ⟨rfl, ⟨nd, rfl⟩⟩; refine ⟨_, rfl, ?_⟩) | ((with_reducible refine gate_callee (f := 67) rfl ?_); refine goesL_ (some 66) rfl rfl Try.func67 (by kernel_rfl) rfl #[.int .u64 t203] rfl ma_ ?_; (with_reducible refine (varint_UnZigZag.calls t203 t206 _ A19.out).mono ?_); rintro e w' ⟨rfl, ⟨nd, rfl⟩⟩; refine ⟨_, rfl, ?_⟩) | ((with_reducible refine gate_builtin (b := .append) (xs := #[.tmp 64, .tmp 67]) rfl ?_); at_builtin; refine Kd.R_append (Kd.int .i64) (w0 := w) w.heap.size rfl (.tmp 64) (.tmp 67) 38 2 (.int .i64 0) 8 rfl Try.underlying38 info2 rfl (by decide) (by omega) u11 x11_3 t206 [.int .i64 t206] (fun _ => True) (fun _ => False) rfl rfl ?aP (fun _ hk => hk.elim) ?aF ?aO ?aB ?aS ?aL ?_; (case aP => exact rfl); (case aB => exact (bb_ HB)); (case aF => exact (fun _ _ => trivial)); (case aO => exact (rb_ HO_11)); (case aS => exact (below_size (bb_ HB))); (case aL => have := LMc20.out; omega); intro v208 w21 ho hb hg hat; rw [← Ny207.out] at ho; have n0_ := Aside0.mk (hb); have n1_ := Aside0.mk (ho); clear HB; clear HO_11; have HB := n0_; have HO209 := n1_; clear n0_ n1_; clear ho hb hg hat))
               go_roundg k3
               case measure => have := HJ3.out; have := HJ10.out; have := HK3.out; omega
               case rel => exact ⟨(t204), (y207), (wrap64 (x52_3 + 1)), fr_, fr_, H', ⟨by have := HJ3.out; have := HJ10.out; have := HK3.out; omega⟩, ⟨by (with_reducible repeat (first | apply Kd.R_alloc | apply Kd.R_drewN | apply Kd.R_drew)); exact HO209.out⟩, ⟨by repeat (first | (with_reducible first | exact HB.out | apply below_alloc | apply pw_below_drewN | apply below_drew1) | exact HB.out)⟩⟩
              ·rw [if_neg c20] at H
               exact absurd H (by simp)
             ·rw [if_neg c18] at H
              have c18b0 : (t205 == 0) = false := beq_eq_false_iff_ne.mpr c18
              have c18b1 : (t205 != 0) = true := bne_iff_ne.mpr c18
              simp only [Option.some.injEq, Prod.mk.injEq] at H
              obtain ⟨rfl, rfl, rfl⟩ := H
              go_wp2_with (first | ((with_reducible refine gate_callee (f := 66) rfl ?_); refine goesL_ (some 57) rfl rfl Try.func66 (by kernel_rfl) rfl #[.slice (some ad202) l0.length c0, .int .i64 x10_3] rfl ma_ ?_; (with_reducible refine (varint_Decode.calls k3 _ _ l0 x10_3 t203 t204 t205 _ ?side1 ?side2 A17.out).mono ?_); (case side1 => exact ca_ (Kd.C_below HR0.out HB.out)); (case side2 => exact HC0.out); rintro e w' ⟨rfl, ⟨nd, rfl⟩⟩; refine ⟨_, rfl, ?_⟩))
              go_ret3
              exact ⟨_, by first | rfl | (simp [errW_none, errW_some] <;> rfl) | (simp only [← hji15]; first | rfl | (simp [errW_none, errW_some] <;> rfl)) | (simp [*, errW_none, errW_some] <;> rfl), by first | exact Kd.R_nil _ _ _ _ _ | exact Kd.N_nil _ _ _ _ _ | exact Kd.V_nil _ _ _ _ _ | exact Kd.Q_nil _ _ _ _ _ | exact Kd.S_nil _ _ _ _ _, by repeat (first | (with_reducible first | exact HB.out | apply below_alloc | apply pw_below_drewN | apply below_drew1) | exact HB.out)⟩
            ·rw [if_neg c16] at H
             have c16b0 : decide (x52_3 < ji15) = false := decide_eq_false c16
             clear c16
             replace H := Option.bind_eq_some_iff.mp H
             obtain ⟨⟨t210, t211, t212⟩, A220, H⟩ := H
             try dsimp only at H
             have A22 := Aside0.mk A220
             clear A220
             by_cases c23 : t212 = 0
             ·rw [if_pos c23] at H
              have c23b0 : (t212 == 0) = true := beq_iff_eq.mpr c23
              have c23b1 : (t212 != 0) = false := bne_eq_false_iff_eq.mpr c23
              clear c23
              have H' := Aside0.mk H
              clear H
              obtain ⟨Ao24, co24, eo24⟩ := Kd.R_slice HO_11.out
              subst eo24
              go_wp2_with (first | ((with_reducible refine gate_callee (f := 36) rfl ?_); refine goesL_ (some 78) rfl rfl Try.func36 (by kernel_rfl) rfl #[.slice (some ad202) l0.length c0, .int .i64 x10_3, .int .i64 (wrap64 (a2 - (x11_3.length : Int)))] rfl ma_ ?_; (with_reducible refine (frameref_Decode.calls k3 _ _ l0 x10_3 (wrap64 (a2 - (x11_3.length : Int))) t210 t211 t212 _ ?side1 ?side2 A22.out).mono ?_); (case side1 => exact ca_ (Kd.C_below HR0.out HB.out)); (case side2 => exact HC0.out); rintro e w25 ⟨v213, rfl, ho0, hb⟩; refine ⟨_, rfl, ?_⟩; have n0_ := Aside0.mk (Kd.R_elder' (rb_ HO_11) (Kd.R_base ho0) hb); have n1_ := Aside0.mk (Kd.R_lower (Kd.R_new' ho0 (Kd.R_lt (rb_ HO_11))) (below_size (bb_ HB))); have n2_ := Aside0.mk (below_step (bb_ HB) hb); clear HO_11; clear HB; have HO_11 := n0_; have HO214 := n1_; have HB := n2_; clear n0_ n1_ n2_; (try clear hb); (try clear hb2); (try clear hk); (try clear hi); (try clear ho0)))
              go_loopg [15, 17] k3 (fun kq v15 v17 w' => ∃ (x15_4 : List Int) (x17_4 : Int), v17 = .int .i64 x17_4 ∧ Aside0 (delta_Decode.l1 kq l0 a1 t211 x11_3 x15_4 x17_4 = some (r1, r2, r3)) ∧ Aside0 (kq ≤ k3) ∧ Aside0 (Kd.R (Kd.int .i64) 2 w' w.heap.size (fun k_ => some k_ ≠ (v15 : Value).ownBlock) (.slice Ao24 x11_3.length co24) x11_3) ∧ Aside0 (Kd.R (Kd.int .i64) 2 w' w.heap.size (fun k_ => some k_ ≠ ((.slice Ao24 x11_3.length co24) : Value).ownBlock) v15 x15_4) ∧ Aside0 (Below w.heap.size w w'))
              case atStart => exact ⟨(t210), (wrap64 ((x11_3.length : Int) - 1)), fr_, H', ⟨Nat.le_refl _⟩, ⟨by (with_reducible repeat (first | apply Kd.R_alloc | apply Kd.R_drewN | apply Kd.R_drew)); exact Kd.R_mono HO_11.out (fun _ hk => hk.2)⟩, ⟨by (with_reducible repeat (first | apply Kd.R_alloc | apply Kd.R_drewN | apply Kd.R_drew)); exact Kd.R_mono HO214.out (fun _ hk => hk.2)⟩, ⟨by repeat (first | (with_reducible first | exact HB.out | apply below_alloc | apply pw_below_drewN | apply below_drew1) | exact HB.out)⟩⟩
              case round =>
               clear H'
               try clear c1
               try clear c2
               try clear p2
               try clear q2
               try clear hx2
               try clear c3
               try clear c5
               try clear c5b0
               try clear c6
               try clear c6b0
               try clear p6
               try clear c7
               try clear c8
               try clear c8b0
               try clear c9
               try clear c9b0
               try clear c10
               try clear c10b0
               try clear c12
               try clear c12b0
               try clear c12b1
               try clear c13
               try clear c13b0
               try clear c13b1
               try clear c14
               try clear c16
               try clear c16b0
               try clear c18
               try clear c18b0
               try clear c18b1
               try clear c20
               try clear p20
               try clear q20
               try clear hx20
               try clear c23
               try clear c23b0
               try clear c23b1
               try clear hx202_0
               try clear p2
               try clear p202
               try clear p6
               try clear q2
               try clear q202
               obtain ⟨x15_4, x17_4, rfl, HA, HK4, HO_11, HO_15, HB⟩ := hrel
               cases gk with
               | zero => exact absurd HA.out (by simp [delta_Decode.l1])
               | succ k4 =>
                have H := HA.out
                clear HA
                simp only [delta_Decode.l1] at H
                by_cases c26 : x17_4 ≥ 0
                ·rw [if_pos c26] at H
                 have c26b0 : decide (0 ≤ x17_4) = true := decide_eq_true c26
                 clear c26
                 by_cases c27 : 0 ≤ x17_4
                 ·rw [if_pos c27] at H
                  have c27b0 : decide (0 ≤ x17_4) = true := decide_eq_true c27
                  clear c27
                  by_cases c28 : x17_4 < (x11_3.length : Int)
                  ·rw [if_pos c28] at H
                   have c28b0 : decide (x17_4 < (x11_3.length : Int)) = true := decide_eq_true c28
                   clear c28
                   replace H := Option.bind_eq_some_iff.mp H
                   obtain ⟨t216, A290, H⟩ := H
                   try dsimp only at H
                   have A29 := Aside0.mk A290
                   clear A290
                   have H' := Aside0.mk H
                   clear H
                   have p215 : 0 ≤ (x17_4 : Int) := of_decide_eq_true as_
                   have q215 : x17_4 < (x11_3.length : Int) := of_decide_eq_true as_
                   obtain ⟨ad215, e215, hx215_0⟩ := Kd.at_int (Kd.R_reads' HO_11.out).2.2 x17_4 p215 q215
                   cases e215
                   replace p215 := eq_true p215
                   replace q215 := eq_true q215
                   obtain ⟨Ao30, co30, eo30⟩ := Kd.R_slice HO_15.out
                   subst eo30
                   go_wp2_with (first | ((with_reducible refine gate_callee (f := 50) rfl ?_); refine goesL_ (some 97) rfl rfl Try.func50 (by kernel_rfl) rfl #[.int .i64 (rd x11_3 x17_4), .slice Ao30 x15_4.length co30] rfl ma_ ?_; (with_reducible refine (delta_PrefixSums.calls (rd x11_3 x17_4) _ _ x15_4 t216 _ ?side1 ?side2 A29.out).mono ?_); (case side1 => exact ca_ (Kd.R_reads' HO_15.out).2.2); (case side2 => exact (Kd.R_reads' HO_15.out).2.1); rintro e w31 ⟨v217, rfl, ho0, hb⟩; refine ⟨_, rfl, ?_⟩; have n0_ := Aside0.mk (Kd.R_elder' (rb_ HO_11) (Kd.R_base ho0) hb); have n1_ := Aside0.mk (Kd.R_elder' (rb_ HO_15) (Kd.R_base ho0) hb); have n2_ := Aside0.mk (Kd.R_lower (Kd.R_new' (Kd.R_new' ho0 (Kd.R_lt (rb_ HO_11))) (Kd.R_lt (rb_ HO_15))) (below_size (bb_ HB))); have n3_ := Aside0.mk (below_step (bb_ HB) hb); clear HO_11; clear HO_15; clear HB; have HO_11 := n0_; have HO_15 := n1_; have HO218 := n2_; have HB := n3_; clear n0_ n1_ n2_ n3_; (try clear hb); (try clear hb2); (try clear hk); (try clear hi); (try clear ho0)))
                   go_roundg k4
                   case measure => have := HJ3.out; have := HJ10.out; have := HK3.out; have := HK4.out; omega
                   case rel => exact ⟨(t216), (wrap64 (x17_4 - 1)), fr_, H', ⟨by have := HJ3.out; have := HJ10.out; have := HK3.out; have := HK4.out; omega⟩, ⟨by (with_reducible repeat (first | apply Kd.R_alloc | apply Kd.R_drewN | apply Kd.R_drew)); exact Kd.R_mono HO_11.out (fun _ hk => hk.2)⟩, ⟨by (with_reducible repeat (first | apply Kd.R_alloc | apply Kd.R_drewN | apply Kd.R_drew)); exact Kd.R_mono HO218.out (fun _ hk => hk.1.2)⟩, ⟨by repeat (first | (with_reducible first | exact HB.out | apply below_alloc | apply pw_below_drewN | apply below_drew1) | exact HB.out)⟩⟩
                  ·rw [if_neg c28] at H
                   exact absurd H (by simp)
                 ·rw [if_neg c27] at H
                  exact absurd H (by simp)
                ·rw [if_neg c26] at H
                 have c26b0 : decide (0 ≤ x17_4) = false := decide_eq_false c26
                 clear c26
                 replace H := Option.bind_eq_some_iff.mp H
                 obtain ⟨t219, A320, H⟩ := H
                 try dsimp only at H
                 have A32 := Aside0.mk A320
                 clear A320
                 by_cases c33 : 0 ≤ a1
                 ·rw [if_pos c33] at H
                  have c33b0 := eq_true c33
                  have c33b1 : decide (0 ≤ a1) = true := decide_eq_true c33
                  clear c33
                  by_cases c34 : a1 ≤ t211
                  ·rw [if_pos c34] at H
                   have c34b0 := eq_true c34
                   have c34b1 : decide (a1 ≤ t211) = true := decide_eq_true c34
                   clear c34
                   by_cases c35 : t211 ≤ (l0.length : Int)
                   ·rw [if_pos c35] at H
                    have c35b0 := eq_true c35
                    have c35b1 : decide (t211 ≤ (l0.length : Int)) = true := decide_eq_true c35
                    clear c35
                    replace H := Option.bind_eq_some_iff.mp H
                    obtain ⟨t223, A360, H⟩ := H
                    try dsimp only at H
                    have A36 := Aside0.mk A360
                    clear A360
                    by_cases c37 : t223 = true
                    ·subst c37
                     have H1 : (some (x15_4, t211, 0)) = some (r1, r2, r3) := by rw [if_pos rfl] at H; exact H
                     clear H
                     have H := H1
                     clear H1
                     simp only [Option.some.injEq, Prod.mk.injEq] at H
                     obtain ⟨rfl, rfl, rfl⟩ := H
                     try go_wp2
                     have n0_ := Aside0.mk (Kd.R_drew HO_11.out)
                     have n1_ := Aside0.mk (Kd.R_drew HO_15.out)
                     have n2_ := Aside0.mk (below_drew1 HB.out)
                     clear HO_11
                     clear HO_15
                     clear HB
                     have HO_11 := n0_
                     have HO_15 := n1_
                     have HB := n2_
                     clear n0_ n1_ n2_
                     obtain ⟨i039, hi039, _, hsz39, _⟩ := info_parts info5
                     obtain ⟨A39, hcut39, hA39, hC39⟩ := print_mid_of (P := Try.prog) (Value.int .u8) 0 26 5 .i64 .i64 Try.underlying26 hi039 hsz39 (some ad202) c0 l0 a1 t211 (of_decide_eq_true as_) (by first | omega | exact of_decide_eq_true as_) (of_decide_eq_true as_) HC0.out
                     have HR222 := Aside0.mk (Kd.C_of_reads (h1 := fun _ => rfl) (hA39 _ (Kd.reads_of_C HR0.out)))
                     have HC222 := Aside0.mk hC39
                     clear hA39 hC39 hi039 hsz39
                     obtain ⟨Ao40, co40, eo40⟩ := Kd.R_slice HO_15.out
                     (first | subst eo40 | (injection eo40 with f1_ f2_ f3_; have f4_ := f1_.symm; have f5_ := f3_.symm; clear f1_ f2_ f3_; subst f4_; subst f5_))
                     refine start_ (n := 8) (S := fun w' => True) (ds := []) #[false, false, false, false, false, false, false, false] (by kernel_rfl) rfl rfl trivial (fun hHeld => ?_); refine with_tabW delta_Decode.tab25 delta_Decode.bits25 (fun HT_ HW_ => ?_)
                     generalize wr.drew = w38 at HO_11 HO_15 HB HR222 hHeld ⊢
                     refine pure_ (i := 0) (N := some 98) (v := ?_) (a' := ?_) #[true, false, false, false, false, false, false, false] rfl rfl (any_of HT_.out (by kernel_rfl)) (fun _ _ _ h => h) (Or.inl ⟨by (first | rfl | (simp only [*]; rfl) | (simp [*]; done)), ?_⟩) ?_ ?_
                     rotate_left
                     ·intro w'
                      go_simp
                      with_reducible rfl
                     rotate_left
                     ·simp only [Act.put, List.setIfInBounds_toArray, List.set_cons_zero, List.set_cons_succ, i64_w, i32_w]
                      rfl
                     refine pure_ (i := 2) (N := some 100) (v := ?_) (a' := ?_) #[true, false, true, false, false, false, false, false] rfl rfl (any_of HT_.out (by kernel_rfl)) (fun _ _ _ h => h) (Or.inl ⟨by (first | rfl | (simp only [*]; rfl) | (simp [*]; done)), ?_⟩) ?_ ?_
                     rotate_left
                     ·intro w'
                      go_simp
                      with_reducible rfl
                     rotate_left
                     ·simp only [Act.put, List.setIfInBounds_toArray, List.set_cons_zero, List.set_cons_succ, i64_w, i32_w]
                      rfl
                     refine pure_ (i := 3) (N := some 101) (v := ?_) (a' := ?_) #[true, false, true, true, false, false, false, false] rfl rfl (any_of HT_.out (by kernel_rfl)) (fun _ _ _ h => h) (Or.inl ⟨by (first | rfl | (simp only [*]; rfl) | (simp [*]; done)), ?_⟩) ?_ ?_
                     rotate_left
                     ·intro w'
                      go_simp
                      with_reducible rfl
                     rotate_left
                     ·simp only [Act.put, List.setIfInBounds_toArray, List.set_cons_zero, List.set_cons_succ, i64_w, i32_w]
                      rfl
                     refine pure_ (i := 4) (N := some 102) (v := ?_) (a' := ?_) #[true, false, true, true, true, false, false, false] rfl rfl (any_of HT_.out (by kernel_rfl)) (fun _ _ _ h => h) (Or.inl ⟨by (first | rfl | (simp only [*]; rfl) | (simp [*]; done)), ?_⟩) ?_ ?_
                     rotate_left
                     ·intro w'
                      go_simp
                      with_reducible rfl
                     rotate_left
                     ·simp only [Act.put, List.setIfInBounds_toArray, List.set_cons_zero, List.set_cons_succ, i64_w, i32_w]
                      rfl
                     refine pure_ (i := 5) (N := some 103) (v := ?_) (a' := ?_) #[true, false, true, true, true, true, false, false] rfl rfl (any_of HT_.out (by kernel_rfl)) (fun _ _ _ h => h) (Or.inl ⟨by (first | rfl | (simp only [*]; rfl) | (simp [*]; done)), ?_⟩) ?_ ?_
                     rotate_left
                     ·intro w'
                      go_simp
                      with_reducible rfl
                     rotate_left
                     ·simp only [Act.put, List.setIfInBounds_toArray, List.set_cons_zero, List.set_cons_succ, i64_w, i32_w]
                      rfl
                     refine one_ (i := 1) (N := some 99) #[true, true, true, true, true, true, false, false] rfl rfl (one_of HT_.out (by kernel_rfl)) (by decide) (fun K hK => ?_)
                     refine goes_ Try.func31 (by kernel_rfl) rfl #[.slice Ao40 x15_4.length co40] (by (first | rfl | (simp only [*]; rfl) | (simp [*]; done))) rfl rfl ma_ ?_
                     with_reducible refine (delta_Encode.calls k4 _ _ x15_4 t219 _ ?side1 ?side2 A32.out).mono ?_
                     (case side1 => exact ca_ (Kd.R_reads' HO_15.out).2.2)
                     (case side2 => exact (Kd.R_reads' HO_15.out).2.1)
                     rintro e w41 ⟨v220, rfl, ho0, hb⟩
                     refine ⟨_, rfl, ?_⟩
                     have n0_ := Aside0.mk (Kd.R_below (rb_ HO_11) hb)
                     have n1_ := Aside0.mk (Kd.R_below (rb_ HO_15) hb)
                     have n2_ := Aside0.mk (Kd.R_lower ho0 (below_size (bb_ HB)))
                     have n3_ := Aside0.mk (below_step (bb_ HB) hb)
                     clear HO_11
                     clear HO_15
                     clear HB
                     have HO_11 := n0_
                     have HO_15 := n1_
                     have HO221 := n2_
                     have HB := n3_
                     clear n0_ n1_ n2_ n3_
                     (try clear hb)
                     (try clear hb2)
                     (try clear hk)
                     (try clear hi)
                     (try clear ho0)
                     obtain ⟨Ao42, co42, eo42⟩ := Kd.R_slice HO221.out
                     (first | subst eo42 | (injection eo42 with f1_ f2_ f3_; have f4_ := f1_.symm; have f5_ := f3_.symm; clear f1_ f2_ f3_; subst f4_; subst f5_))
                     refine hK.out _ _ trivial (fun hHeld => ?_)
                     clear hK K
                     refine norm_ (a' := ?_) ?_ ?_
                     rotate_left
                     ·show Act.put _ (some 99) _ = _
                      simp only [Act.put, List.setIfInBounds_toArray, List.set_cons_zero, List.set_cons_succ, i64_w, i32_w]
                      rfl
                     refine one_ (i := 6) (N := some 104) #[true, true, true, true, true, true, true, false] rfl rfl (one_of HT_.out (by kernel_rfl)) (by decide) (fun K hK => ?_)
                     refine goes_ Try.func68 (by kernel_rfl) rfl #[.slice Ao42 t219.length co42, .slice A39 ((l0.take (t211 : Int).toNat).drop (a1 : Int).toNat).length (c0 - a1.toNat)] (by (first | rfl | (simp only [*]; rfl) | (simp [*]; done))) rfl rfl (by (try simp only [List.map_toArray, List.map_cons, List.map_nil]); first | done | (rw [show ((l0.take (t211 : Int).toNat).drop (a1 : Int).toNat).length = (t211.toNat - a1.toNat) from (by rw [List.length_drop, List.length_take]; have h_ : (t211 : Int) ≤ (l0.length : Int) := of_decide_eq_true as_; omega)] <;> rfl) | rfl | (simp only [List.length_drop, List.length_take]; rfl)) ?_
                     with_reducible refine (bytes_Equal.calls _ _ t219 _ _ ((l0.take (t211 : Int).toNat).drop (a1 : Int).toNat) true _ ?side1 ?side2 ?side3 ?side4 A36.out).mono ?_
                     (case side1 => exact ca_ (Kd.R_reads' HO221.out).2.2)
                     (case side2 => exact (Kd.R_reads' HO221.out).2.1)
                     (case side3 => exact ca_ (Kd.C_below HR222.out HB.out))
                     (case side4 => exact HC222.out)
                     rintro e w' ⟨rfl, ⟨nd, rfl⟩⟩
                     refine ⟨_, rfl, ?_⟩
                     refine hK.out _ _ trivial (fun hHeld => ?_)
                     clear hK K
                     refine norm_ (a' := ?_) ?_ ?_
                     rotate_left
                     ·show Act.put _ (some 104) _ = _
                      simp only [Act.put, List.setIfInBounds_toArray, List.set_cons_zero, List.set_cons_succ, i64_w, i32_w]
                      rfl
                     refine pure_ (i := 7) (N := some 105) (v := ?_) (a' := ?_) #[true, true, true, true, true, true, true, true] rfl rfl (any_of HT_.out (by kernel_rfl)) (fun _ _ _ h => h) (Or.inl ⟨by (first | rfl | (simp only [*]; rfl) | (simp [*]; done)), ?_⟩) ?_ ?_
                     rotate_left
                     ·intro w'
                      go_simp
                      with_reducible rfl
                     rotate_left
                     ·simp only [Act.put, List.setIfInBounds_toArray, List.set_cons_zero, List.set_cons_succ, i64_w, i32_w]
                      rfl
                     refine done_ (done_of HT_.out (by kernel_rfl)) ?_
                     try go_wp2
                     go_ret3
                     exact ⟨_, by first | rfl | (simp [errW_none, errW_some] <;> rfl) | (simp only [← hji15]; first | rfl | (simp [errW_none, errW_some] <;> rfl)) | (simp [*, errW_none, errW_some] <;> rfl), by (with_reducible repeat (first | apply Kd.R_alloc | apply Kd.R_drewN | apply Kd.R_drew)); exact Kd.R_mono HO_15.out (fun _ hk => trivial), by repeat (first | (with_reducible first | exact HB.out | apply below_alloc | apply pw_below_drewN | apply below_drew1) | exact HB.out)⟩
                    ·replace c37 := Bool.eq_false_iff.mpr c37
                     subst c37
                     have H1 : (some (([] : List Int), 0, 4)) = some (r1, r2, r3) := by rw [if_neg (show ¬ (false = true) by decide)] at H; exact H
                     clear H
                     have H := H1
                     clear H1
                     simp only [Option.some.injEq, Prod.mk.injEq] at H
                     obtain ⟨rfl, rfl, rfl⟩ := H
                     try go_wp2
                     have n0_ := Aside0.mk (Kd.R_drew HO_11.out)
                     have n1_ := Aside0.mk (Kd.R_drew HO_15.out)
                     have n2_ := Aside0.mk (below_drew1 HB.out)
                     clear HO_11
                     clear HO_15
                     clear HB
                     have HO_11 := n0_
                     have HO_15 := n1_
                     have HB := n2_
                     clear n0_ n1_ n2_
                     obtain ⟨i044, hi044, _, hsz44, _⟩ := info_parts info5
                     obtain ⟨A44, hcut44, hA44, hC44⟩ := print_mid_of (P := Try.prog) (Value.int .u8) 0 26 5 .i64 .i64 Try.underlying26 hi044 hsz44 (some ad202) c0 l0 a1 t211 (of_decide_eq_true as_) (by first | omega | exact of_decide_eq_true as_) (of_decide_eq_true as_) HC0.out
                     have HR222 := Aside0.mk (Kd.C_of_reads (h1 := fun _ => rfl) (hA44 _ (Kd.reads_of_C HR0.out)))
                     have HC222 := Aside0.mk hC44
                     clear hA44 hC44 hi044 hsz44
                     obtain ⟨Ao45, co45, eo45⟩ := Kd.R_slice HO_15.out
                     (first | subst eo45 | (injection eo45 with f1_ f2_ f3_; have f4_ := f1_.symm; have f5_ := f3_.symm; clear f1_ f2_ f3_; subst f4_; subst f5_))
                     refine start_ (n := 8) (S := fun w' => True) (ds := []) #[false, false, false, false, false, false, false, false] (by kernel_rfl) rfl rfl trivial (fun hHeld => ?_); refine with_tabW delta_Decode.tab25 delta_Decode.bits25 (fun HT_ HW_ => ?_)
                     generalize wr.drew = w43 at HO_11 HO_15 HB HR222 hHeld ⊢
                     refine pure_ (i := 0) (N := some 98) (v := ?_) (a' := ?_) #[true, false, false, false, false, false, false, false] rfl rfl (any_of HT_.out (by kernel_rfl)) (fun _ _ _ h => h) (Or.inl ⟨by (first | rfl | (simp only [*]; rfl) | (simp [*]; done)), ?_⟩) ?_ ?_
                     rotate_left
                     ·intro w'
                      go_simp
                      with_reducible rfl
                     rotate_left
                     ·simp only [Act.put, List.setIfInBounds_toArray, List.set_cons_zero, List.set_cons_succ, i64_w, i32_w]
                      rfl
                     refine pure_ (i := 2) (N := some 100) (v := ?_) (a' := ?_) #[true, false, true, false, false, false, false, false] rfl rfl (any_of HT_.out (by kernel_rfl)) (fun _ _ _ h => h) (Or.inl ⟨by (first | rfl | (simp only [*]; rfl) | (simp [*]; done)), ?_⟩) ?_ ?_
                     rotate_left
                     ·intro w'
                      go_simp
                      with_reducible rfl
                     rotate_left
                     ·simp only [Act.put, List.setIfInBounds_toArray, List.set_cons_zero, List.set_cons_succ, i64_w, i32_w]
                      rfl
                     refine pure_ (i := 3) (N := some 101) (v := ?_) (a' := ?_) #[true, false, true, true, false, false, false, false] rfl rfl (any_of HT_.out (by kernel_rfl)) (fun _ _ _ h => h) (Or.inl ⟨by (first | rfl | (simp only [*]; rfl) | (simp [*]; done)), ?_⟩) ?_ ?_
                     rotate_left
                     ·intro w'
                      go_simp
                      with_reducible rfl
                     rotate_left
                     ·simp only [Act.put, List.setIfInBounds_toArray, List.set_cons_zero, List.set_cons_succ, i64_w, i32_w]
                      rfl
                     refine pure_ (i := 4) (N := some 102) (v := ?_) (a' := ?_) #[true, false, true, true, true, false, false, false] rfl rfl (any_of HT_.out (by kernel_rfl)) (fun _ _ _ h => h) (Or.inl ⟨by (first | rfl | (simp only [*]; rfl) | (simp [*]; done)), ?_⟩) ?_ ?_
                     rotate_left
                     ·intro w'
                      go_simp
                      with_reducible rfl
                     rotate_left
                     ·simp only [Act.put, List.setIfInBounds_toArray, List.set_cons_zero, List.set_cons_succ, i64_w, i32_w]
                      rfl
                     refine pure_ (i := 5) (N := some 103) (v := ?_) (a' := ?_) #[true, false, true, true, true, true, false, false] rfl rfl (any_of HT_.out (by kernel_rfl)) (fun _ _ _ h => h) (Or.inl ⟨by (first | rfl | (simp only [*]; rfl) | (simp [*]; done)), ?_⟩) ?_ ?_
                     rotate_left
                     ·intro w'
                      go_simp
                      with_reducible rfl
                     rotate_left
                     ·simp only [Act.put, List.setIfInBounds_toArray, List.set_cons_zero, List.set_cons_succ, i64_w, i32_w]
                      rfl
                     refine one_ (i := 1) (N := some 99) #[true, true, true, true, true, true, false, false] rfl rfl (one_of HT_.out (by kernel_rfl)) (by decide) (fun K hK => ?_)
                     refine goes_ Try.func31 (by kernel_rfl) rfl #[.slice Ao45 x15_4.length co45] (by (first | rfl | (simp only [*]; rfl) | (simp [*]; done))) rfl rfl ma_ ?_
                     with_reducible refine (delta_Encode.calls k4 _ _ x15_4 t219 _ ?side1 ?side2 A32.out).mono ?_
                     (case side1 => exact ca_ (Kd.R_reads' HO_15.out).2.2)
                     (case side2 => exact (Kd.R_reads' HO_15.out).2.1)
                     rintro e w46 ⟨v220, rfl, ho0, hb⟩
                     refine ⟨_, rfl, ?_⟩
                     have n0_ := Aside0.mk (Kd.R_below (rb_ HO_11) hb)
                     have n1_ := Aside0.mk (Kd.R_below (rb_ HO_15) hb)
                     have n2_ := Aside0.mk (Kd.R_lower ho0 (below_size (bb_ HB)))
                     have n3_ := Aside0.mk (below_step (bb_ HB) hb)
                     clear HO_11
                     clear HO_15
                     clear HB
                     have HO_11 := n0_
                     have HO_15 := n1_
                     have HO221 := n2_
                     have HB := n3_
                     clear n0_ n1_ n2_ n3_
                     (try clear hb)
                     (try clear hb2)
                     (try clear hk)
                     (try clear hi)
                     (try clear ho0)
                     obtain ⟨Ao47, co47, eo47⟩ := Kd.R_slice HO221.out
                     (first | subst eo47 | (injection eo47 with f1_ f2_ f3_; have f4_ := f1_.symm; have f5_ := f3_.symm; clear f1_ f2_ f3_; subst f4_; subst f5_))
                     refine hK.out _ _ trivial (fun hHeld => ?_)
                     clear hK K
                     refine norm_ (a' := ?_) ?_ ?_
                     rotate_left
                     ·show Act.put _ (some 99) _ = _
                      simp only [Act.put, List.setIfInBounds_toArray, List.set_cons_zero, List.set_cons_succ, i64_w, i32_w]
                      rfl
                     refine one_ (i := 6) (N := some 104) #[true, true, true, true, true, true, true, false] rfl rfl (one_of HT_.out (by kernel_rfl)) (by decide) (fun K hK => ?_)
                     refine goes_ Try.func68 (by kernel_rfl) rfl #[.slice Ao47 t219.length co47, .slice A44 ((l0.take (t211 : Int).toNat).drop (a1 : Int).toNat).length (c0 - a1.toNat)] (by (first | rfl | (simp only [*]; rfl) | (simp [*]; done))) rfl rfl (by (try simp only [List.map_toArray, List.map_cons, List.map_nil]); first | done | (rw [show ((l0.take (t211 : Int).toNat).drop (a1 : Int).toNat).length = (t211.toNat - a1.toNat) from (by rw [List.length_drop, List.length_take]; have h_ : (t211 : Int) ≤ (l0.length : Int) := of_decide_eq_true as_; omega)] <;> rfl) | rfl | (simp only [List.length_drop, List.length_take]; rfl)) ?_
                     with_reducible refine (bytes_Equal.calls _ _ t219 _ _ ((l0.take (t211 : Int).toNat).drop (a1 : Int).toNat) false _ ?side1 ?side2 ?side3 ?side4 A36.out).mono ?_
                     (case side1 => exact ca_ (Kd.R_reads' HO221.out).2.2)
                     (case side2 => exact (Kd.R_reads' HO221.out).2.1)
                     (case side3 => exact ca_ (Kd.C_below HR222.out HB.out))
                     (case side4 => exact HC222.out)
                     rintro e w' ⟨rfl, ⟨nd, rfl⟩⟩
                     refine ⟨_, rfl, ?_⟩
                     refine hK.out _ _ trivial (fun hHeld => ?_)
                     clear hK K
                     refine norm_ (a' := ?_) ?_ ?_
                     rotate_left
                     ·show Act.put _ (some 104) _ = _
                      simp only [Act.put, List.setIfInBounds_toArray, List.set_cons_zero, List.set_cons_succ, i64_w, i32_w]
                      rfl
                     refine pure_ (i := 7) (N := some 105) (v := ?_) (a' := ?_) #[true, true, true, true, true, true, true, true] rfl rfl (any_of HT_.out (by kernel_rfl)) (fun _ _ _ h => h) (Or.inl ⟨by (first | rfl | (simp only [*]; rfl) | (simp [*]; done)), ?_⟩) ?_ ?_
                     rotate_left
                     ·intro w'
                      go_simp
                      with_reducible rfl
                     rotate_left
                     ·simp only [Act.put, List.setIfInBounds_toArray, List.set_cons_zero, List.set_cons_succ, i64_w, i32_w]
                      rfl
                     refine done_ (done_of HT_.out (by kernel_rfl)) ?_
                     try go_wp2
                     go_ret3
                     exact ⟨_, by first | rfl | (simp [errW_none, errW_some] <;> rfl) | (simp only [← hji15]; first | rfl | (simp [errW_none, errW_some] <;> rfl)) | (simp [*, errW_none, errW_some] <;> rfl), by first | exact Kd.R_nil _ _ _ _ _ | exact Kd.N_nil _ _ _ _ _ | exact Kd.V_nil _ _ _ _ _ | exact Kd.Q_nil _ _ _ _ _ | exact Kd.S_nil _ _ _ _ _, by repeat (first | (with_reducible first | exact HB.out | apply below_alloc | apply pw_below_drewN | apply below_drew1) | exact HB.out)⟩
                   ·rw [if_neg c35] at H
                    exact absurd H (by simp)
                  ·rw [if_neg c34] at H
                   exact absurd H (by simp)
                 ·rw [if_neg c33] at H
                  exact absurd H (by simp)
             ·rw [if_neg c23] at H
              have c23b0 : (t212 == 0) = false := beq_eq_false_iff_ne.mpr c23
              have c23b1 : (t212 != 0) = true := bne_iff_ne.mpr c23
              simp only [Option.some.injEq, Prod.mk.injEq] at H
              obtain ⟨rfl, rfl, rfl⟩ := H
              obtain ⟨Ao48, co48, eo48⟩ := Kd.R_slice HO_11.out
              subst eo48
              go_wp2_with (first | ((with_reducible refine gate_callee (f := 36) rfl ?_); refine goesL_ (some 78) rfl rfl Try.func36 (by kernel_rfl) rfl #[.slice (some ad202) l0.length c0, .int .i64 x10_3, .int .i64 (wrap64 (a2 - (x11_3.length : Int)))] rfl ma_ ?_; (with_reducible refine (frameref_Decode.calls k3 _ _ l0 x10_3 (wrap64 (a2 - (x11_3.length : Int))) t210 t211 t212 _ ?side1 ?side2 A22.out).mono ?_); (case side1 => exact ca_ (Kd.C_below HR0.out HB.out)); (case side2 => exact HC0.out); rintro e w49 ⟨v213, rfl, ho0, hb⟩; refine ⟨_, rfl, ?_⟩; have n0_ := Aside0.mk (Kd.R_elder' (rb_ HO_11) (Kd.R_base ho0) hb); have n1_ := Aside0.mk (Kd.R_lower (Kd.R_new' ho0 (Kd.R_lt (rb_ HO_11))) (below_size (bb_ HB))); have n2_ := Aside0.mk (below_step (bb_ HB) hb); clear HO_11; clear HB; have HO_11 := n0_; have HO214 := n1_; have HB := n2_; clear n0_ n1_ n2_; (try clear hb); (try clear hb2); (try clear hk); (try clear hi); (try clear ho0)))
              go_ret3
              exact ⟨_, by first | rfl | (simp [errW_none, errW_some] <;> rfl) | (simp only [← hji15]; first | rfl | (simp [errW_none, errW_some] <;> rfl)) | (simp [*, errW_none, errW_some] <;> rfl), by first | exact Kd.R_nil _ _ _ _ _ | exact Kd.N_nil _ _ _ _ _ | exact Kd.V_nil _ _ _ _ _ | exact Kd.Q_nil _ _ _ _ _ | exact Kd.S_nil _ _ _ _ _, by repeat (first | (with_reducible first | exact HB.out | apply below_alloc | apply pw_below_drewN | apply below_drew1) | exact HB.out)⟩
      ·rw [if_neg c10] at H
       exact absurd H (by simp)
     ·rw [if_neg c9] at H
      exact absurd H (by simp)

end Go.Proofs.Ytllhbjkkoogeeaa.QDeltaDecode
