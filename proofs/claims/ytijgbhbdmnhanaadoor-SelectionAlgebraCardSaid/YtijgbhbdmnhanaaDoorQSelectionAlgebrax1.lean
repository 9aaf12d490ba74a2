-- Written by a program of this session (wip/pr2.sh): the walk of the Go text, function by function.
import Derived.Test.YtijgbhbdmnhanaaDoorQSelectionAlgebrax0
namespace Go.Proofs.YtijgbhbdmnhanaaDoor.QSelectionAlgebra
open Go.RowKit Go.Proofs.YtijgbhbdmnhanaaDoorW.PrintWords Go.Proofs.YtijgbhbdmnhanaaDoorW.PrintLast Go.Proofs.YtijgbhbdmnhanaaDoorW.PrintMore
open Go.Proofs.YtijgbhbdmnhanaaDoorM
attribute [local go_sem] max2_int min2_int max_two min_two max_three min_three max_four min_four   -- for this text's walks alone
set_option linter.unusedVariables false
set_option linter.unusedSimpArgs false

/-! ### laminaref41_Valid: function 57 -/
def laminaref41_Valid.l0 : Nat → List Int → Int → Int → Option (Bool)
 | 0, _, _, _ => none
 | k + 1, x0, x1, x5 => if x5 < (x0.length : Int) then (if 0 ≤ x5 then (if (rd x0 x5) < 0 then (some false) else (if (rd x0 x5) ≥ x1 then (some false) else (if x5 > 0 then (if 0 ≤ (wrap64 (x5 - 1)) then (if (wrap64 (x5 - 1)) < (x0.length : Int) then (if (rd x0 x5) ≤ (rd x0 (wrap64 (x5 - 1))) then (some false) else (laminaref41_Valid.l0 k x0 x1 (wrap64 (x5 + 1)))) else (none)) else (none)) else (laminaref41_Valid.l0 k x0 x1 (wrap64 (x5 + 1)))))) else (none)) else (some true)
def laminaref41_Valid.f (k : Nat) (l0 : List Int) (a1 : Int) : Option (Bool) := laminaref41_Valid.l0 k l0 a1 0
theorem laminaref41_Valid.mono_l : ∀ k, (∀ y0 y1 y2, LeO (laminaref41_Valid.l0 k y0 y1 y2) (laminaref41_Valid.l0 (k + 1) y0 y1 y2))
 | 0 => fun _ _ _ r h => by simp [laminaref41_Valid.l0] at h
 | k + 1 => by
  have ih0 := laminaref41_Valid.mono_l k
  ·intro y0 y1 y2
   unfold laminaref41_Valid.l0
   repeat' first
   | (with_reducible exact ih0 _ _ _)
   | (with_reducible exact LeO.refl _)
   | (with_reducible exact LeO.none _)
   | (with_reducible refine LeO.ite ?_ ?_)
   | (with_reducible refine LeO.bind ?_ (fun _ => ?_))
   | exact ih0 _ _ _
   | exact LeO.none _
   | refine LeO.ite ?_ ?_
   | refine LeO.bind ?_ (fun _ => ?_)
theorem laminaref41_Valid.mono : ∀ a0 a1 k, LeO (laminaref41_Valid.f k a0 a1) (laminaref41_Valid.f (k + 1) a0 a1) := by
 intro a0 a1 k
 have ih0 := laminaref41_Valid.mono_l k
 unfold laminaref41_Valid.f
 repeat' first
   | (with_reducible exact ih0 _ _ _)
   | (with_reducible exact LeO.refl _)
   | (with_reducible exact LeO.none _)
   | (with_reducible refine LeO.ite ?_ ?_)
   | (with_reducible refine LeO.bind ?_ (fun _ => ?_))
   | exact ih0 _ _ _
   | exact LeO.none _
   | refine LeO.ite ?_ ?_
   | refine LeO.bind ?_ (fun _ => ?_)
set_option maxHeartbeats 8000000 in
set_option maxRecDepth 100000 in
theorem laminaref41_Valid.calls (k : Nat) (A0 : Option Addr) (c0 : Nat) (l0 : List Int) (a1 : Int) (r : Bool) (w : World) (hr0 : Kd.C (Kd.int .i64) w A0 l0.length l0) (hc0 : l0.length ≤ c0) (h : laminaref41_Valid.f k l0 a1 = some r) :
  Calls Tryd.prog 57 #[.slice A0 l0.length c0, .int .i64 a1] w fun e w' => e = .returned (.bool r) ∧ Drawn0 w w' := by
 have HR0 := Aside0.mk hr0
 have HC0 := Aside0.mk hc0
 clear hr0 hc0
 have H : (laminaref41_Valid.l0 k l0 a1 0) = some r := h
 clear h
 have H' := Aside0.mk H
 clear H
 go_enter Tryd.func57, Tryd.ntmps57
 go_wp2
 repeat (go_quiet (fail); try go_wp2)
 go_loopg [5] k (fun kq v5 w' => ∃ (x5_1 : Int), v5 = .int .i64 x5_1 ∧ Aside0 (laminaref41_Valid.l0 kq l0 a1 x5_1 = some r) ∧ Aside0 (kq ≤ k) ∧ Drawn0 w w')
 case atStart => exact ⟨(0), (by first | rfl | (simp; done) | (simp [*]; done)), H', ⟨Nat.le_refl _⟩, by repeat (first | exact Drawn0.refl _ | apply Drawn0.step)⟩
 case round =>
  clear H'
  try clear p2
  obtain ⟨x5_1, rfl, HA, HK1, ⟨m1, rfl⟩⟩ := hrel
  cases gk with
  | zero => exact absurd HA.out (by simp [laminaref41_Valid.l0])
  | succ k1 =>
   have H := HA.out
   clear HA
   simp only [laminaref41_Valid.l0] at H
   by_cases c3 : x5_1 < (l0.length : Int)
   ·rw [if_pos c3] at H
    have c3b0 : decide (x5_1 < (l0.length : Int)) = true := decide_eq_true c3
    clear c3
    by_cases c4 : 0 ≤ x5_1
    ·rw [if_pos c4] at H
     have c4b0 : decide (0 ≤ x5_1) = true := decide_eq_true c4
     clear c4
     by_cases c5 : (rd l0 x5_1) < 0
     ·rw [if_pos c5] at H
      have c5b0 : decide ((rd l0 x5_1) < 0) = true := decide_eq_true c5
      clear c5
      obtain rfl := Option.some.inj H
      have p101 : 0 ≤ (x5_1 : Int) := of_decide_eq_true (by first | (with_reducible assumption) | assumption)
      have q101 : x5_1 < (l0.length : Int) := of_decide_eq_true (by first | (with_reducible assumption) | assumption)
      obtain ⟨ad101, e101, hx101_0⟩ := Kd.at_int HR0.out x5_1 p101 q101
      cases e101
      replace p101 := eq_true p101
      replace q101 := eq_true q101
      go_wp2
      repeat (go_quiet (fail); try go_wp2)
      go_ret
      exact ⟨by first | rfl | (simp; done) | (simp [*]; done), by repeat (first | exact Drawn0.refl _ | apply Drawn0.step)⟩
     ·rw [if_neg c5] at H
      have c5b0 : decide ((rd l0 x5_1) < 0) = false := decide_eq_false c5
      clear c5
      by_cases c6 : (rd l0 x5_1) ≥ a1
      ·rw [if_pos c6] at H
       have c6b0 : decide (a1 ≤ (rd l0 x5_1)) = true := decide_eq_true c6
       clear c6
       obtain rfl := Option.some.inj H
       have p101 : 0 ≤ (x5_1 : Int) := of_decide_eq_true (by first | (with_reducible assumption) | assumption)
       have q101 : x5_1 < (l0.length : Int) := of_decide_eq_true (by first | (with_reducible assumption) | assumption)
       obtain ⟨ad101, e101, hx101_0⟩ := Kd.at_int HR0.out x5_1 p101 q101
       cases e101
       replace p101 := eq_true p101
       replace q101 := eq_true q101
       have p102 : 0 ≤ (x5_1 : Int) := of_decide_eq_true (by first | (with_reducible assumption) | assumption)
       have q102 : x5_1 < (l0.length : Int) := of_decide_eq_true (by first | (with_reducible assumption) | assumption)
       obtain ⟨ad102, e102, hx102_0⟩ := Kd.at_int HR0.out x5_1 p102 q102
       obtain rfl : ad101 = ad102 := (by injection e102)
       replace p102 := eq_true p102
       replace q102 := eq_true q102
       go_wp2
       repeat (go_quiet (fail); try go_wp2)
       go_ret
       exact ⟨by first | rfl | (simp; done) | (simp [*]; done), by repeat (first | exact Drawn0.refl _ | apply Drawn0.step)⟩
      ·rw [if_neg c6] at H
       have c6b0 : decide (a1 ≤ (rd l0 x5_1)) = false := decide_eq_false c6
       clear c6
       by_cases c7 : x5_1 > 0
       ·rw [if_pos c7] at H
        have c7b0 : decide (0 < x5_1) = true := decide_eq_true c7
        clear c7
        obtain ⟨ji8, hji8⟩ : ∃ j_ : Int, (wrap64 (x5_1 - 1)) = j_ := ⟨_, rfl⟩
        replace H : (if 0 ≤ (ji8) then (if (ji8) < (l0.length : Int) then (if (rd l0 x5_1) ≤ (rd l0 (ji8)) then (some false) else (laminaref41_Valid.l0 k1 l0 a1 (wrap64 (x5_1 + 1)))) else (none)) else (none)) = some r := by first | (rw [hji8] at H; exact H) | (simp only [hji8] at H ⊢; exact H)
        have hji8w : (IntKind.i64.wrap (x5_1 - 1)) = ji8 := (i64_w _).trans hji8
        by_cases c9 : 0 ≤ (ji8)
        ·rw [if_pos c9] at H
         have c9b0 : decide (0 ≤ (ji8)) = true := decide_eq_true c9
         clear c9
         by_cases c10 : (ji8) < (l0.length : Int)
         ·rw [if_pos c10] at H
          have c10b0 : decide ((ji8) < (l0.length : Int)) = true := decide_eq_true c10
          clear c10
          by_cases c11 : (rd l0 x5_1) ≤ (rd l0 (ji8))
          ·rw [if_pos c11] at H
           have c11b0 : decide ((rd l0 x5_1) ≤ (rd l0 (ji8))) = true := decide_eq_true c11
           clear c11
           obtain rfl := Option.some.inj H
           have p101 : 0 ≤ (x5_1 : Int) := of_decide_eq_true (by first | (with_reducible assumption) | assumption)
           have q101 : x5_1 < (l0.length : Int) := of_decide_eq_true (by first | (with_reducible assumption) | assumption)
           obtain ⟨ad101, e101, hx101_0⟩ := Kd.at_int HR0.out x5_1 p101 q101
           cases e101
           replace p101 := eq_true p101
           replace q101 := eq_true q101
           have p102 : 0 ≤ (x5_1 : Int) := of_decide_eq_true (by first | (with_reducible assumption) | assumption)
           have q102 : x5_1 < (l0.length : Int) := of_decide_eq_true (by first | (with_reducible assumption) | assumption)
           obtain ⟨ad102, e102, hx102_0⟩ := Kd.at_int HR0.out x5_1 p102 q102
           obtain rfl : ad101 = ad102 := (by injection e102)
           replace p102 := eq_true p102
           replace q102 := eq_true q102
           have p103 : 0 ≤ (x5_1 : Int) := of_decide_eq_true (by first | (with_reducible assumption) | assumption)
           have q103 : x5_1 < (l0.length : Int) := of_decide_eq_true (by first | (with_reducible assumption) | assumption)
           obtain ⟨ad103, e103, hx103_0⟩ := Kd.at_int HR0.out x5_1 p103 q103
           obtain rfl : ad101 = ad103 := (by injection e103)
           replace p103 := eq_true p103
           replace q103 := eq_true q103
           have p104 : 0 ≤ ((ji8) : Int) := of_decide_eq_true (by first | (with_reducible assumption) | assumption)
           have q104 : (ji8) < (l0.length : Int) := of_decide_eq_true (by first | (with_reducible assumption) | assumption)
           obtain ⟨ad104, e104, hx104_0⟩ := Kd.at_int HR0.out (ji8) p104 q104
           obtain rfl : ad101 = ad104 := (by injection e104)
           replace p104 := eq_true p104
           replace q104 := eq_true q104
           go_wp2
           repeat (go_quiet (fail); try go_wp2)
           go_ret
           exact ⟨by first | rfl | (simp; done) | (simp only [← hji8] <;> (first | rfl | simp)) | (simp [*]; done), by repeat (first | exact Drawn0.refl _ | apply Drawn0.step)⟩
          ·rw [if_neg c11] at H
           have c11b0 : decide ((rd l0 x5_1) ≤ (rd l0 (ji8))) = false := decide_eq_false c11
           clear c11
           have H' := Aside0.mk H
           clear H
           have p101 : 0 ≤ (x5_1 : Int) := of_decide_eq_true (by first | (with_reducible assumption) | assumption)
           have q101 : x5_1 < (l0.length : Int) := of_decide_eq_true (by first | (with_reducible assumption) | assumption)
           obtain ⟨ad101, e101, hx101_0⟩ := Kd.at_int HR0.out x5_1 p101 q101
           cases e101
           replace p101 := eq_true p101
           replace q101 := eq_true q101
           have p102 : 0 ≤ (x5_1 : Int) := of_decide_eq_true (by first | (with_reducible assumption) | assumption)
           have q102 : x5_1 < (l0.length : Int) := of_decide_eq_true (by first | (with_reducible assumption) | assumption)
           obtain ⟨ad102, e102, hx102_0⟩ := Kd.at_int HR0.out x5_1 p102 q102
           obtain rfl : ad101 = ad102 := (by injection e102)
           replace p102 := eq_true p102
           replace q102 := eq_true q102
           have p103 : 0 ≤ (x5_1 : Int) := of_decide_eq_true (by first | (with_reducible assumption) | assumption)
           have q103 : x5_1 < (l0.length : Int) := of_decide_eq_true (by first | (with_reducible assumption) | assumption)
           obtain ⟨ad103, e103, hx103_0⟩ := Kd.at_int HR0.out x5_1 p103 q103
           obtain rfl : ad101 = ad103 := (by injection e103)
           replace p103 := eq_true p103
           replace q103 := eq_true q103
           have p104 : 0 ≤ ((ji8) : Int) := of_decide_eq_true (by first | (with_reducible assumption) | assumption)
           have q104 : (ji8) < (l0.length : Int) := of_decide_eq_true (by first | (with_reducible assumption) | assumption)
           obtain ⟨ad104, e104, hx104_0⟩ := Kd.at_int HR0.out (ji8) p104 q104
           obtain rfl : ad101 = ad104 := (by injection e104)
           replace p104 := eq_true p104
           replace q104 := eq_true q104
           go_wp2
           repeat (go_quiet (fail); try go_wp2)
           go_roundg k1
           case measure => have := HK1.out; omega
           case rel => exact ⟨(wrap64 (x5_1 + 1)), (by first | rfl | (simp; done) | (simp [*]; done)), H', ⟨by have := HK1.out; omega⟩, by repeat (first | exact Drawn0.refl _ | apply Drawn0.step)⟩
         ·rw [if_neg c10] at H
          exact absurd H (by simp)
        ·rw [if_neg c9] at H
         exact absurd H (by simp)
       ·rw [if_neg c7] at H
        have c7b0 : decide (0 < x5_1) = false := decide_eq_false c7
        clear c7
        have H' := Aside0.mk H
        clear H
        have p101 : 0 ≤ (x5_1 : Int) := of_decide_eq_true (by first | (with_reducible assumption) | assumption)
        have q101 : x5_1 < (l0.length : Int) := of_decide_eq_true (by first | (with_reducible assumption) | assumption)
        obtain ⟨ad101, e101, hx101_0⟩ := Kd.at_int HR0.out x5_1 p101 q101
        cases e101
        replace p101 := eq_true p101
        replace q101 := eq_true q101
        have p102 : 0 ≤ (x5_1 : Int) := of_decide_eq_true (by first | (with_reducible assumption) | assumption)
        have q102 : x5_1 < (l0.length : Int) := of_decide_eq_true (by first | (with_reducible assumption) | assumption)
        obtain ⟨ad102, e102, hx102_0⟩ := Kd.at_int HR0.out x5_1 p102 q102
        obtain rfl : ad101 = ad102 := (by injection e102)
        replace p102 := eq_true p102
        replace q102 := eq_true q102
        go_wp2
        repeat (go_quiet (fail); try go_wp2)
        go_roundg k1
        case measure => have := HK1.out; omega
        case rel => exact ⟨(wrap64 (x5_1 + 1)), (by first | rfl | (simp; done) | (simp [*]; done)), H', ⟨by have := HK1.out; omega⟩, by repeat (first | exact Drawn0.refl _ | apply Drawn0.step)⟩
    ·rw [if_neg c4] at H
     exact absurd H (by simp)
   ·rw [if_neg c3] at H
    have c3b0 : decide (x5_1 < (l0.length : Int)) = false := decide_eq_false c3
    clear c3
    obtain rfl := Option.some.inj H
    go_wp2
    repeat (go_quiet (fail); try go_wp2)
    go_ret
    exact ⟨by first | rfl | (simp; done) | (simp [*]; done), by repeat (first | exact Drawn0.refl _ | apply Drawn0.step)⟩

/-! ### laminalaw41_small: function 12 -/
def laminalaw41_small.f (k : Nat) (l0 : List Int) (a1 : Int) : Option (Bool) := if a1 ≤ 300 then ((laminaref41_Valid.f k l0 a1).bind fun t105 => (some t105)) else (some false)
theorem laminalaw41_small.mono : ∀ a0 a1 k, LeO (laminalaw41_small.f k a0 a1) (laminalaw41_small.f (k + 1) a0 a1) := by
 intro a0 a1 k
 unfold laminalaw41_small.f
 repeat' first
   | (with_reducible exact laminaref41_Valid.mono _ _ _)
   | (with_reducible exact LeO.refl _)
   | (with_reducible exact LeO.none _)
   | (with_reducible refine LeO.ite ?_ ?_)
   | (with_reducible refine LeO.bind ?_ (fun _ => ?_))
   | exact laminaref41_Valid.mono _ _ _
   | exact LeO.none _
   | refine LeO.ite ?_ ?_
   | refine LeO.bind ?_ (fun _ => ?_)
set_option maxHeartbeats 8000000 in
set_option maxRecDepth 100000 in
theorem laminalaw41_small.calls (k : Nat) (A0 : Option Addr) (c0 : Nat) (l0 : List Int) (a1 : Int) (r : Bool) (w : World) (hr0 : Kd.C (Kd.int .i64) w A0 l0.length l0) (hc0 : l0.length ≤ c0) (h : laminalaw41_small.f k l0 a1 = some r) :
  Calls Tryd.prog 12 #[.slice A0 l0.length c0, .int .i64 a1] w fun e w' => e = .returned (.bool r) ∧ Drawn0 w w' := by
 have HR0 := Aside0.mk hr0
 have HC0 := Aside0.mk hc0
 clear hr0 hc0
 have H : (if a1 ≤ 300 then ((laminaref41_Valid.f k l0 a1).bind fun t105 => (some t105)) else (some false)) = some r := h
 clear h
 by_cases c3 : a1 ≤ 300
 ·rw [if_pos c3] at H
  have c3b0 : decide (a1 ≤ 300) = true := decide_eq_true c3
  clear c3
  replace H := Option.bind_eq_some_iff.mp H
  obtain ⟨t105, A40, H⟩ := H
  replace H : (some t105) = some r := H
  have A4 := Aside0.mk A40
  clear A40
  obtain rfl := Option.some.inj H
  go_enter Tryd.func12, Tryd.ntmps12
  go_wp2_with (first | (go_at_call 57; (with_reducible refine (laminaref41_Valid.calls k _ _ l0 a1 t105 _ ?side1 ?side2 A4.out).mono ?_); (case side1 => repeat (first | exact HR0.out | (with_reducible refine Kd.C_alloc ?_ _) | (with_reducible refine Kd.C_drewN ?_ _) | (with_reducible refine Kd.C_drew ?_))); (case side2 => exact HC0.out); rintro e w' ⟨rfl, ⟨nd, rfl⟩⟩; (try clear A4)))
  go_ret
  exact ⟨by first | rfl | (simp; done) | (simp [*]; done), by repeat (first | exact Drawn0.refl _ | apply Drawn0.step)⟩
 ·rw [if_neg c3] at H
  have c3b0 : decide (a1 ≤ 300) = false := decide_eq_false c3
  clear c3
  obtain rfl := Option.some.inj H
  go_enter Tryd.func12, Tryd.ntmps12
  go_wp2
  go_ret
  exact ⟨by first | rfl | (simp; done) | (simp [*]; done), by repeat (first | exact Drawn0.refl _ | apply Drawn0.step)⟩

/-! ### laminaref17_Ints: function 18 -/
def laminaref17_Ints.l0 : Nat → List Int → List Int → Int → Option (Bool)
 | 0, _, _, _ => none
 | k + 1, x0, x1, x5 => if x5 < (x0.length : Int) then (if 0 ≤ x5 then (if x5 < (x1.length : Int) then (if (rd x0 x5) = (rd x1 x5) then (laminaref17_Ints.l0 k x0 x1 (wrap64 (x5 + 1))) else (some false)) else (none)) else (none)) else (some true)
def laminaref17_Ints.f (k : Nat) (l0 : List Int) (l1 : List Int) : Option (Bool) := if (l0.length : Int) = (l1.length : Int) then (laminaref17_Ints.l0 k l0 l1 0) else (some false)
theorem laminaref17_Ints.mono_l : ∀ k, (∀ y0 y1 y2, LeO (laminaref17_Ints.l0 k y0 y1 y2) (laminaref17_Ints.l0 (k + 1) y0 y1 y2))
 | 0 => fun _ _ _ r h => by simp [laminaref17_Ints.l0] at h
 | k + 1 => by
  have ih0 := laminaref17_Ints.mono_l k
  ·intro y0 y1 y2
   unfold laminaref17_Ints.l0
   repeat' first
   | (with_reducible exact ih0 _ _ _)
   | (with_reducible exact LeO.refl _)
   | (with_reducible exact LeO.none _)
   | (with_reducible refine LeO.ite ?_ ?_)
   | (with_reducible refine LeO.bind ?_ (fun _ => ?_))
   | exact ih0 _ _ _
   | exact LeO.none _
   | refine LeO.ite ?_ ?_
   | refine LeO.bind ?_ (fun _ => ?_)
theorem laminaref17_Ints.mono : ∀ a0 a1 k, LeO (laminaref17_Ints.f k a0 a1) (laminaref17_Ints.f (k + 1) a0 a1) := by
 intro a0 a1 k
 have ih0 := laminaref17_Ints.mono_l k
 unfold laminaref17_Ints.f
 repeat' first
   | (with_reducible exact ih0 _ _ _)
   | (with_reducible exact LeO.refl _)
   | (with_reducible exact LeO.none _)
   | (with_reducible refine LeO.ite ?_ ?_)
   | (with_reducible refine LeO.bind ?_ (fun _ => ?_))
   | exact ih0 _ _ _
   | exact LeO.none _
   | refine LeO.ite ?_ ?_
   | refine LeO.bind ?_ (fun _ => ?_)
set_option maxHeartbeats 8000000 in
set_option maxRecDepth 100000 in
theorem laminaref17_Ints.calls (k : Nat) (A0 : Option Addr) (c0 : Nat) (l0 : List Int) (A1 : Option Addr) (c1 : Nat) (l1 : List Int) (r : Bool) (w : World) (hr0 : Kd.C (Kd.int .i64) w A0 l0.length l0) (hc0 : l0.length ≤ c0) (hr1 : Kd.C (Kd.int .i64) w A1 l1.length l1) (hc1 : l1.length ≤ c1) (h : laminaref17_Ints.f k l0 l1 = some r) :
  Calls Tryd.prog 18 #[.slice A0 l0.length c0, .slice A1 l1.length c1] w fun e w' => e = .returned (.bool r) ∧ Drawn0 w w' := by
 have HR0 := Aside0.mk hr0
 have HC0 := Aside0.mk hc0
 clear hr0 hc0
 have HR1 := Aside0.mk hr1
 have HC1 := Aside0.mk hc1
 clear hr1 hc1
 have H : (if (l0.length : Int) = (l1.length : Int) then (laminaref17_Ints.l0 k l0 l1 0) else (some false)) = some r := h
 clear h
 by_cases c3 : (l0.length : Int) = (l1.length : Int)
 ·rw [if_pos c3] at H
  have c3b0 : ((l0.length : Int) == (l1.length : Int)) = true := beq_iff_eq.mpr c3
  have c3b1 : ((l0.length : Int) != (l1.length : Int)) = false := bne_eq_false_iff_eq.mpr c3
  have c3b2 : (l0.length == l1.length) = true := by first | simpa using c3 | (simp at c3 ⊢; omega)
  clear c3
  have H' := Aside0.mk H
  clear H
  go_enter Tryd.func18, Tryd.ntmps18
  go_wp2
  repeat (go_quiet (fail); try go_wp2)
  go_loopg [5] k (fun kq v5 w' => ∃ (x5_1 : Int), v5 = .int .i64 x5_1 ∧ Aside0 (laminaref17_Ints.l0 kq l0 l1 x5_1 = some r) ∧ Aside0 (kq ≤ k) ∧ Drawn0 w w')
  case atStart => exact ⟨(0), (by first | rfl | (simp; done) | (simp [*]; done)), H', ⟨Nat.le_refl _⟩, by repeat (first | exact Drawn0.refl _ | apply Drawn0.step)⟩
  case round =>
   clear H'
   try clear c1
   try clear p2
   try clear c3
   try clear c3b0
   try clear c3b1
   try clear c3b2
   obtain ⟨x5_1, rfl, HA, HK1, ⟨m1, rfl⟩⟩ := hrel
   cases gk with
   | zero => exact absurd HA.out (by simp [laminaref17_Ints.l0])
   | succ k1 =>
    have H := HA.out
    clear HA
    simp only [laminaref17_Ints.l0] at H
    by_cases c4 : x5_1 < (l0.length : Int)
    ·rw [if_pos c4] at H
     have c4b0 : decide (x5_1 < (l0.length : Int)) = true := decide_eq_true c4
     clear c4
     by_cases c5 : 0 ≤ x5_1
     ·rw [if_pos c5] at H
      have c5b0 : decide (0 ≤ x5_1) = true := decide_eq_true c5
      clear c5
      by_cases c6 : x5_1 < (l1.length : Int)
      ·rw [if_pos c6] at H
       have c6b0 : decide (x5_1 < (l1.length : Int)) = true := decide_eq_true c6
       clear c6
       by_cases c7 : (rd l0 x5_1) = (rd l1 x5_1)
       ·rw [if_pos c7] at H
        have c7b0 : ((rd l0 x5_1) == (rd l1 x5_1)) = true := beq_iff_eq.mpr c7
        have c7b1 : ((rd l0 x5_1) != (rd l1 x5_1)) = false := bne_eq_false_iff_eq.mpr c7
        clear c7
        have H' := Aside0.mk H
        clear H
        have p106 : 0 ≤ (x5_1 : Int) := of_decide_eq_true (by first | (with_reducible assumption) | assumption)
        have q106 : x5_1 < (l0.length : Int) := of_decide_eq_true (by first | (with_reducible assumption) | assumption)
        obtain ⟨ad106, e106, hx106_0⟩ := Kd.at_int HR0.out x5_1 p106 q106
        cases e106
        replace p106 := eq_true p106
        replace q106 := eq_true q106
        have p107 : 0 ≤ (x5_1 : Int) := of_decide_eq_true (by first | (with_reducible assumption) | assumption)
        have q107 : x5_1 < (l1.length : Int) := of_decide_eq_true (by first | (with_reducible assumption) | assumption)
        obtain ⟨ad107, e107, hx107_0⟩ := Kd.at_int HR1.out x5_1 p107 q107
        cases e107
        replace p107 := eq_true p107
        replace q107 := eq_true q107
        go_wp2
        repeat (go_quiet (fail); try go_wp2)
        go_roundg k1
        case measure => have := HK1.out; omega
        case rel => exact ⟨(wrap64 (x5_1 + 1)), (by first | rfl | (simp; done) | (simp [*]; done)), H', ⟨by have := HK1.out; omega⟩, by repeat (first | exact Drawn0.refl _ | apply Drawn0.step)⟩
       ·rw [if_neg c7] at H
        have c7b0 : ((rd l0 x5_1) == (rd l1 x5_1)) = false := beq_eq_false_iff_ne.mpr c7
        have c7b1 : ((rd l0 x5_1) != (rd l1 x5_1)) = true := bne_iff_ne.mpr c7
        obtain rfl := Option.some.inj H
        have p106 : 0 ≤ (x5_1 : Int) := of_decide_eq_true (by first | (with_reducible assumption) | assumption)
        have q106 : x5_1 < (l0.length : Int) := of_decide_eq_true (by first | (with_reducible assumption) | assumption)
        obtain ⟨ad106, e106, hx106_0⟩ := Kd.at_int HR0.out x5_1 p106 q106
        cases e106
        replace p106 := eq_true p106
        replace q106 := eq_true q106
        have p107 : 0 ≤ (x5_1 : Int) := of_decide_eq_true (by first | (with_reducible assumption) | assumption)
        have q107 : x5_1 < (l1.length : Int) := of_decide_eq_true (by first | (with_reducible assumption) | assumption)
        obtain ⟨ad107, e107, hx107_0⟩ := Kd.at_int HR1.out x5_1 p107 q107
        cases e107
        replace p107 := eq_true p107
        replace q107 := eq_true q107
        go_wp2
        repeat (go_quiet (fail); try go_wp2)
        go_ret
        exact ⟨by first | rfl | (simp; done) | (simp [*]; done), by repeat (first | exact Drawn0.refl _ | apply Drawn0.step)⟩
      ·rw [if_neg c6] at H
       exact absurd H (by simp)
     ·rw [if_neg c5] at H
      exact absurd H (by simp)
    ·rw [if_neg c4] at H
     have c4b0 : decide (x5_1 < (l0.length : Int)) = false := decide_eq_false c4
     clear c4
     obtain rfl := Option.some.inj H
     go_wp2
     repeat (go_quiet (fail); try go_wp2)
     go_ret
     exact ⟨by first | rfl | (simp; done) | (simp [*]; done), by repeat (first | exact Drawn0.refl _ | apply Drawn0.step)⟩
 ·rw [if_neg c3] at H
  have c3b0 : ((l0.length : Int) == (l1.length : Int)) = false := beq_eq_false_iff_ne.mpr c3
  have c3b1 : ((l0.length : Int) != (l1.length : Int)) = true := bne_iff_ne.mpr c3
  have c3b2 : (l0.length == l1.length) = false := by first | simpa using c3 | (simp at c3 ⊢; omega)
  obtain rfl := Option.some.inj H
  go_enter Tryd.func18, Tryd.ntmps18
  go_wp2
  repeat (go_quiet (fail); try go_wp2)
  go_ret
  exact ⟨by first | rfl | (simp; done) | (simp [*]; done), by repeat (first | exact Drawn0.refl _ | apply Drawn0.step)⟩

/-! ### selection_Intersect: function 22 -/
theorem C_cut (A : Option Addr) (la : List Int) (c : Nat) (hp : 0 < la.length) (hc : la.length ≤ c) : ∃ (A' : Option Addr) (ra : List Int), Aside0 (la = rd la 0 :: ra) ∧ (∀ W : World, (Instr.slice 22 (.slice A la.length c) (some (.int .i64 1)) none none).run Tryd.prog W = .ok (.slice A' ra.length (c - 1)) W) ∧ Aside0 (∀ w : World, Kd.C (Kd.int .i64) w A la.length la → Kd.C (Kd.int .i64) w A' ra.length ra) ∧ ra.length ≤ c - 1 ∧ ra.length + 1 = la.length := by
  obtain ⟨i0, hi, _, hz1, _⟩ := info_parts info3
  obtain ⟨A', h1, h2, h3⟩ := print_drop_of (P := Tryd.prog) (Value.int .i64) (0 : Int) 22 3 .i64 Tryd.underlying22 hi hz1 A c la 1 (by omega) (by omega) hc
  refine ⟨A', la.drop 1, ⟨?_⟩, h1, ⟨fun w h => Kd.C_of_reads (d := (0 : Int)) (h1 := fun _ => rfl) (h2 w (Kd.reads_of_C h))⟩, h3, by rw [List.length_drop]; omega⟩
  cases la with
  | nil => simp at hp
  | cons x l => simp [rd]
theorem C_head (w : World) (A : Option Addr) (la : List Int) (n : Nat) (h : Kd.C (Kd.int .i64) w A n la) (hp : 0 < n) : ∃ ad, A = some ad ∧ w.cell? ad = some (.int .i64 (rd la 0)) := by
  obtain ⟨ad, rfl, hx⟩ := Kd.at_int h 0 (by omega) (by omega)
  exact ⟨ad, rfl, by simpa [Addr.add] using hx⟩
theorem mrg_a (K : Bool → Bool → Bool) (x : Int) (a : List Int) : mrg K (x :: a) [] = (if K true false then [x] else []) ++ mrg K a [] := by
  rw [mrg]; split <;> rfl
theorem mrg_b (K : Bool → Bool → Bool) (y : Int) (b : List Int) : mrg K [] (y :: b) = (if K false true then [y] else []) ++ mrg K [] b := by
  rw [mrg]; split <;> rfl
theorem mrg_lt (K : Bool → Bool → Bool) (x y : Int) (a b : List Int) (h : x < y) : mrg K (x :: a) (y :: b) = (if K true false then [x] else []) ++ mrg K a (y :: b) := by
  rw [mrg, if_pos h]; split <;> rfl
theorem mrg_gt (K : Bool → Bool → Bool) (x y : Int) (a b : List Int) (h : y < x) : mrg K (x :: a) (y :: b) = (if K false true then [y] else []) ++ mrg K (x :: a) b := by
  rw [mrg, if_neg (by omega), if_pos h]; split <;> rfl
theorem mrg_eq (K : Bool → Bool → Bool) (x y : Int) (a b : List Int) (h : x = y) : mrg K (x :: a) (y :: b) = (if K true true then [y] else []) ++ mrg K a b := by
  rw [mrg, if_neg (by omega), if_neg (by omega)]; split <;> rfl
def selection_Intersect.f (l0 l1 : List Int) : Option (List Int) := if l0.length + l1.length < 17592186044416 then some (mrgN kAnd (l0.length + l1.length) l0 l1) else none
set_option maxHeartbeats 1000000 in
set_option maxRecDepth 100000 in
theorem merge_And (A0 : Option Addr) (c0 : Nat) (l0 : List Int) (A1 : Option Addr) (c1 : Nat) (l1 : List Int) (w : World) (hr0 : Kd.C (Kd.int .i64) w A0 l0.length l0) (hc0 : l0.length ≤ c0) (hr1 : Kd.C (Kd.int .i64) w A1 l1.length l1) (hc1 : l1.length ≤ c1) (hlim : l0.length + l1.length < 17592186044416) :
    Calls Tryd.prog 62 #[.slice A0 l0.length c0, .slice A1 l1.length c1, .func (.func 63) #[] #[]] w fun e w' => ∃ v0_ : Value, e = .returned v0_ ∧ Kd.R (Kd.int .i64) 3 w' w.heap.size (fun k_ => w.heap.size ≤ k_) v0_ (mrg kAnd l0 l1) ∧ Below w.heap.size w w' := by
  have HR0 := Aside0.mk hr0
  have HR1 := Aside0.mk hr1
  clear hr0 hr1
  go_enter Tryd.func62, Tryd.ntmps62
  go_wp2
  go_loopg [0, 1, 7] (l0.length + l1.length) (fun q v0 v1 v7 wr => ∃ (B0 B1 : Option Addr) (d0 d1 : Nat) (la lb acc : List Int), v0 = .slice B0 la.length d0 ∧ v1 = .slice B1 lb.length d1 ∧ Aside0 (Kd.C (Kd.int .i64) w B0 la.length la) ∧ Aside0 (Kd.C (Kd.int .i64) w B1 lb.length lb) ∧ la.length ≤ d0 ∧ lb.length ≤ d1 ∧ Aside0 (Kd.R (Kd.int .i64) 3 wr w.heap.size (fun k_ => w.heap.size ≤ k_) v7 acc) ∧ Aside0 (acc ++ mrg kAnd la lb = mrg kAnd l0 l1) ∧ la.length + lb.length ≤ q ∧ acc.length + la.length + lb.length ≤ l0.length + l1.length ∧ Below w.heap.size w wr)
  case atStart => exact ⟨_, _, _, _, l0, l1, [], rfl, rfl, HR0, HR1, hc0, hc1, ⟨Kd.R_nil _ _ _ _ _⟩, ⟨rfl⟩, Nat.le_refl _, by simp, Below.refl _ _⟩
  case round =>
    obtain ⟨B0, B1, d0, d1, la, lb, acc, rfl, rfl, HA, HB, hd0, hd1, HO, HE, hq, hn, hb⟩ := hrel
    obtain ⟨vA, vc, rfl⟩ := Kd.R_slice HO.out
    have hs := hb.size
    by_cases ha : 0 < la.length
    · obtain ⟨ad, rfl, hx⟩ := C_head _ _ _ _ (Kd.C_below HA.out hb) ha
      obtain ⟨A', ra, hra, rA, cA, hrd, hrl⟩ := C_cut (some ad) la d0 ha hd0
      have g2 : ((la.length : Int) == 0) = false := beq_eq_false_iff_ne.mpr (by omega)
      by_cases hbb : 0 < lb.length
      · obtain ⟨bd, rfl, hy⟩ := C_head _ _ _ _ (Kd.C_below HB.out hb) hbb
        obtain ⟨B', rb, hrb, rB, cB, hsd, hsl⟩ := C_cut (some bd) lb d1 hbb hd1
        have g1 : ((lb.length : Int) == 0) = false := beq_eq_false_iff_ne.mpr (by omega)
        by_cases hxy : rd la 0 < rd lb 0
        · have k1 : decide (rd la 0 ≤ rd lb 0) = true := decide_eq_true (by omega)
          have k2 : decide (rd lb 0 ≤ rd la 0) = false := decide_eq_false (by omega)
          cases gk with
          | zero => exfalso; omega
          | succ gk =>
            go_wp2
            go_quiet (fail)
            go_wp2
            go_quiet (fail)
            go_wp2
            go_quiet (fail)
            go_wp2
            go_roundg gk
            have hm := mrg_lt kAnd (rd la 0) (rd lb 0) ra rb hxy
            rw [← hra.out, ← hrb.out] at hm
            case measure => omega
            case rel => exact ⟨_, _, _, _, ra, lb, acc, rfl, rfl, ⟨cA.out _ HA.out⟩, HB, hrd, hd1, ⟨(Kd.R_drewN HO.out _)⟩, ⟨by rw [← HE.out, hm]; simp [kAnd]⟩, by first | omega | (simp only [List.length_nil] at *; omega), by first | omega | (simp only [List.length_nil, List.length_append, List.length_cons] at *; omega), pw_below_drewN hb _⟩
        · by_cases hyx : rd lb 0 < rd la 0
          · have k1 : decide (rd la 0 ≤ rd lb 0) = false := decide_eq_false (by omega)
            have k2 : decide (rd lb 0 ≤ rd la 0) = true := decide_eq_true (by omega)
            cases gk with
            | zero => exfalso; omega
            | succ gk =>
              go_wp2
              go_quiet (fail)
              go_wp2
              go_quiet (fail)
              go_wp2
              go_quiet (fail)
              go_wp2
              go_roundg gk
              have hm := mrg_gt kAnd (rd la 0) (rd lb 0) ra rb hyx
              rw [← hra.out, ← hrb.out] at hm
              case measure => omega
              case rel => exact ⟨_, _, _, _, la, rb, acc, rfl, rfl, HA, ⟨cB.out _ HB.out⟩, hd0, hsd, ⟨(Kd.R_drewN HO.out _)⟩, ⟨by rw [← HE.out, hm]; simp [kAnd]⟩, by first | omega | (simp only [List.length_nil] at *; omega), by first | omega | (simp only [List.length_nil, List.length_append, List.length_cons] at *; omega), pw_below_drewN hb _⟩
          · have k1 : decide (rd la 0 ≤ rd lb 0) = true := decide_eq_true (by omega)
            have k2 : decide (rd lb 0 ≤ rd la 0) = true := decide_eq_true (by omega)
            cases gk with
            | zero => exfalso; omega
            | succ gk =>
              go_wp2
              go_quiet (fail)
              go_wp2
              go_quiet (fail)
              go_wp2
              go_quiet (fail)
              go_wp2
              go_quiet (fail)
              go_wp2_with (first | (at_builtin; (refine Kd.R_append (Kd.int .i64) w.heap.size rfl _ _ 22 3 (.int .i64 0) 8 rfl Tryd.underlying22 info3 rfl (by decide) (by decide) (.slice vA acc.length vc) acc (rd lb 0) [.int .i64 (rd lb 0)] (fun k_ => w.heap.size ≤ k_) (fun _ => False) rfl rfl rfl (fun _ h => h.elim) (fun k hk => Nat.le_trans hs hk) (Kd.R_drewN HO.out _) (Below.refl _ _) hs (by omega) ?_; intro v1 w1 hR1 hb1 hg1 hat1)) | go_in)
              go_roundg gk
              have hm := mrg_eq kAnd (rd la 0) (rd lb 0) ra rb (by omega)
              rw [← hra.out, ← hrb.out] at hm
              case measure => omega
              case rel => exact ⟨_, _, _, _, ra, rb, (acc ++ [rd lb 0]), rfl, rfl, ⟨cA.out _ HA.out⟩, ⟨cB.out _ HB.out⟩, hrd, hsd, ⟨hR1⟩, ⟨by rw [← HE.out, hm]; simp [kAnd]⟩, by first | omega | (simp only [List.length_nil] at *; omega), by first | omega | (simp only [List.length_nil, List.length_append, List.length_cons] at *; omega), (pw_below_drewN hb _).trans hb1⟩
      · obtain rfl : lb = [] := List.eq_nil_of_length_eq_zero (by omega)
        cases gk with
        | zero => exfalso; simp only [List.length_nil] at hq; omega
        | succ gk =>
          go_wp2
          go_quiet (fail)
          go_wp2
          go_quiet (fail)
          go_wp2
          go_quiet (fail)
          go_wp2
          go_roundg gk
          have hm := mrg_a kAnd (rd la 0) ra
          rw [← hra.out] at hm
          case measure => omega
          case rel => exact ⟨_, _, _, _, ra, [], acc, rfl, rfl, ⟨cA.out _ HA.out⟩, HB, hrd, hd1, ⟨(Kd.R_drewN HO.out _)⟩, ⟨by rw [← HE.out, hm]; simp [kAnd]⟩, by first | omega | (simp only [List.length_nil] at *; omega), by first | omega | (simp only [List.length_nil, List.length_append, List.length_cons] at *; omega), pw_below_drewN hb _⟩
    · obtain rfl : la = [] := List.eq_nil_of_length_eq_zero (by omega)
      by_cases hbb : 0 < lb.length
      · obtain ⟨bd, rfl, hy⟩ := C_head _ _ _ _ (Kd.C_below HB.out hb) hbb
        obtain ⟨B', rb, hrb, rB, cB, hsd, hsl⟩ := C_cut (some bd) lb d1 hbb hd1
        have g1 : ((lb.length : Int) == 0) = false := beq_eq_false_iff_ne.mpr (by omega)
        cases gk with
        | zero => exfalso; simp only [List.length_nil] at hq; omega
        | succ gk =>
          go_wp2
          go_quiet (fail)
          go_wp2
          go_quiet (fail)
          go_wp2
          go_quiet (fail)
          go_wp2
          go_roundg gk
          have hm := mrg_b kAnd (rd lb 0) rb
          rw [← hrb.out] at hm
          case measure => omega
          case rel => exact ⟨_, _, _, _, [], rb, acc, rfl, rfl, HA, ⟨cB.out _ HB.out⟩, hd0, hsd, ⟨(Kd.R_drewN HO.out _)⟩, ⟨by rw [← HE.out, hm]; simp [kAnd]⟩, by first | omega | (simp only [List.length_nil] at *; omega), by first | omega | (simp only [List.length_nil, List.length_append, List.length_cons] at *; omega), pw_below_drewN hb _⟩
      · obtain rfl : lb = [] := List.eq_nil_of_length_eq_zero (by omega)
        have he := HE.out
        rw [show mrg kAnd [] [] = [] by rw [mrg], List.append_nil] at he
        have HX := Aside0.mk he
        clear he
        go_wp2
        go_ret
        exact ⟨_, rfl, by rw [← HX.out]; exact HO.out, hb⟩
set_option maxHeartbeats 1000000 in
set_option maxRecDepth 100000 in
theorem selection_Intersect.calls (A0 : Option Addr) (c0 : Nat) (l0 : List Int) (A1 : Option Addr) (c1 : Nat) (l1 : List Int) (r : List Int) (w : World) (hr0 : Kd.C (Kd.int .i64) w A0 l0.length l0) (hc0 : l0.length ≤ c0) (hr1 : Kd.C (Kd.int .i64) w A1 l1.length l1) (hc1 : l1.length ≤ c1) (h : selection_Intersect.f l0 l1 = some r) :
    Calls Tryd.prog 22 #[.slice A0 l0.length c0, .slice A1 l1.length c1] w fun e w' => ∃ v0_ : Value, e = .returned (v0_) ∧ Kd.R (Kd.int .i64) 3 w' w.heap.size (fun k_ => True) v0_ r ∧ Below w.heap.size w w' := by
  unfold selection_Intersect.f at h
  split at h
  case isFalse => cases h
  case isTrue hlim =>
  rw [mrgN_eq _ _ _ _ (Nat.le_refl _)] at h
  obtain rfl := Option.some.inj h
  go_enter Tryd.func22, Tryd.ntmps22
  go_wp2_with (go_at_call 62; refine (merge_And A0 c0 l0 A1 c1 l1 _ hr0 hc0 hr1 hc1 hlim).mono ?_; rintro e w1 ⟨v, rfl, hR, hb⟩)
  go_ret
  exact ⟨_, rfl, Kd.R_mono hR (fun _ _ => trivial), hb⟩

/-! ### selection_Union: function 24 -/
def selection_Union.f (l0 l1 : List Int) : Option (List Int) := if l0.length + l1.length < 17592186044416 then some (mrgN kOr (l0.length + l1.length) l0 l1) else none
set_option maxHeartbeats 1000000 in
set_option maxRecDepth 100000 in
theorem merge_Or (A0 : Option Addr) (c0 : Nat) (l0 : List Int) (A1 : Option Addr) (c1 : Nat) (l1 : List Int) (w : World) (hr0 : Kd.C (Kd.int .i64) w A0 l0.length l0) (hc0 : l0.length ≤ c0) (hr1 : Kd.C (Kd.int .i64) w A1 l1.length l1) (hc1 : l1.length ≤ c1) (hlim : l0.length + l1.length < 17592186044416) :
    Calls Tryd.prog 62 #[.slice A0 l0.length c0, .slice A1 l1.length c1, .func (.func 65) #[] #[]] w fun e w' => ∃ v0_ : Value, e = .returned v0_ ∧ Kd.R (Kd.int .i64) 3 w' w.heap.size (fun k_ => w.heap.size ≤ k_) v0_ (mrg kOr l0 l1) ∧ Below w.heap.size w w' := by
  have HR0 := Aside0.mk hr0
  have HR1 := Aside0.mk hr1
  clear hr0 hr1
  go_enter Tryd.func62, Tryd.ntmps62
  go_wp2
  go_loopg [0, 1, 7] (l0.length + l1.length) (fun q v0 v1 v7 wr => ∃ (B0 B1 : Option Addr) (d0 d1 : Nat) (la lb acc : List Int), v0 = .slice B0 la.length d0 ∧ v1 = .slice B1 lb.length d1 ∧ Aside0 (Kd.C (Kd.int .i64) w B0 la.length la) ∧ Aside0 (Kd.C (Kd.int .i64) w B1 lb.length lb) ∧ la.length ≤ d0 ∧ lb.length ≤ d1 ∧ Aside0 (Kd.R (Kd.int .i64) 3 wr w.heap.size (fun k_ => w.heap.size ≤ k_) v7 acc) ∧ Aside0 (acc ++ mrg kOr la lb = mrg kOr l0 l1) ∧ la.length + lb.length ≤ q ∧ acc.length + la.length + lb.length ≤ l0.length + l1.length ∧ Below w.heap.size w wr)
  case atStart => exact ⟨_, _, _, _, l0, l1, [], rfl, rfl, HR0, HR1, hc0, hc1, ⟨Kd.R_nil _ _ _ _ _⟩, ⟨rfl⟩, Nat.le_refl _, by simp, Below.refl _ _⟩
  case round =>
    obtain ⟨B0, B1, d0, d1, la, lb, acc, rfl, rfl, HA, HB, hd0, hd1, HO, HE, hq, hn, hb⟩ := hrel
    obtain ⟨vA, vc, rfl⟩ := Kd.R_slice HO.out
    have hs := hb.size
    by_cases ha : 0 < la.length
    · obtain ⟨ad, rfl, hx⟩ := C_head _ _ _ _ (Kd.C_below HA.out hb) ha
      obtain ⟨A', ra, hra, rA, cA, hrd, hrl⟩ := C_cut (some ad) la d0 ha hd0
      have g2 : ((la.length : Int) == 0) = false := beq_eq_false_iff_ne.mpr (by omega)
      by_cases hbb : 0 < lb.length
      · obtain ⟨bd, rfl, hy⟩ := C_head _ _ _ _ (Kd.C_below HB.out hb) hbb
        obtain ⟨B', rb, hrb, rB, cB, hsd, hsl⟩ := C_cut (some bd) lb d1 hbb hd1
        have g1 : ((lb.length : Int) == 0) = false := beq_eq_false_iff_ne.mpr (by omega)
        by_cases hxy : rd la 0 < rd lb 0
        · have k1 : decide (rd la 0 ≤ rd lb 0) = true := decide_eq_true (by omega)
          have k2 : decide (rd lb 0 ≤ rd la 0) = false := decide_eq_false (by omega)
          cases gk with
          | zero => exfalso; omega
          | succ gk =>
            go_wp2
            go_quiet (fail)
            go_wp2
            go_quiet (fail)
            go_wp2
            go_quiet (fail)
            go_wp2_with (first | (at_builtin; (refine Kd.R_append (Kd.int .i64) w.heap.size rfl _ _ 22 3 (.int .i64 0) 8 rfl Tryd.underlying22 info3 rfl (by decide) (by decide) (.slice vA acc.length vc) acc (rd la 0) [.int .i64 (rd la 0)] (fun k_ => w.heap.size ≤ k_) (fun _ => False) rfl rfl rfl (fun _ h => h.elim) (fun k hk => Nat.le_trans hs hk) (Kd.R_drewN HO.out _) (Below.refl _ _) hs (by omega) ?_; intro v1 w1 hR1 hb1 hg1 hat1)) | go_in)
            go_roundg gk
            have hm := mrg_lt kOr (rd la 0) (rd lb 0) ra rb hxy
            rw [← hra.out, ← hrb.out] at hm
            case measure => omega
            case rel => exact ⟨_, _, _, _, ra, lb, (acc ++ [rd la 0]), rfl, rfl, ⟨cA.out _ HA.out⟩, HB, hrd, hd1, ⟨hR1⟩, ⟨by rw [← HE.out, hm]; simp [kOr]⟩, by first | omega | (simp only [List.length_nil] at *; omega), by first | omega | (simp only [List.length_nil, List.length_append, List.length_cons] at *; omega), (pw_below_drewN hb _).trans hb1⟩
        · by_cases hyx : rd lb 0 < rd la 0
          · have k1 : decide (rd la 0 ≤ rd lb 0) = false := decide_eq_false (by omega)
            have k2 : decide (rd lb 0 ≤ rd la 0) = true := decide_eq_true (by omega)
            cases gk with
            | zero => exfalso; omega
            | succ gk =>
              go_wp2
              go_quiet (fail)
              go_wp2
              go_quiet (fail)
              go_wp2
              go_quiet (fail)
              go_wp2_with (first | (at_builtin; (refine Kd.R_append (Kd.int .i64) w.heap.size rfl _ _ 22 3 (.int .i64 0) 8 rfl Tryd.underlying22 info3 rfl (by decide) (by decide) (.slice vA acc.length vc) acc (rd lb 0) [.int .i64 (rd lb 0)] (fun k_ => w.heap.size ≤ k_) (fun _ => False) rfl rfl rfl (fun _ h => h.elim) (fun k hk => Nat.le_trans hs hk) (Kd.R_drewN HO.out _) (Below.refl _ _) hs (by omega) ?_; intro v1 w1 hR1 hb1 hg1 hat1)) | go_in)
              go_roundg gk
              have hm := mrg_gt kOr (rd la 0) (rd lb 0) ra rb hyx
              rw [← hra.out, ← hrb.out] at hm
              case measure => omega
              case rel => exact ⟨_, _, _, _, la, rb, (acc ++ [rd lb 0]), rfl, rfl, HA, ⟨cB.out _ HB.out⟩, hd0, hsd, ⟨hR1⟩, ⟨by rw [← HE.out, hm]; simp [kOr]⟩, by first | omega | (simp only [List.length_nil] at *; omega), by first | omega | (simp only [List.length_nil, List.length_append, List.length_cons] at *; omega), (pw_below_drewN hb _).trans hb1⟩
          · have k1 : decide (rd la 0 ≤ rd lb 0) = true := decide_eq_true (by omega)
            have k2 : decide (rd lb 0 ≤ rd la 0) = true := decide_eq_true (by omega)
            cases gk with
            | zero => exfalso; omega
            | succ gk =>
              go_wp2
              go_quiet (fail)
              go_wp2
              go_quiet (fail)
              go_wp2
              go_quiet (fail)
              go_wp2
              go_quiet (fail)
              go_wp2_with (first | (at_builtin; (refine Kd.R_append (Kd.int .i64) w.heap.size rfl _ _ 22 3 (.int .i64 0) 8 rfl Tryd.underlying22 info3 rfl (by decide) (by decide) (.slice vA acc.length vc) acc (rd lb 0) [.int .i64 (rd lb 0)] (fun k_ => w.heap.size ≤ k_) (fun _ => False) rfl rfl rfl (fun _ h => h.elim) (fun k hk => Nat.le_trans hs hk) (Kd.R_drewN HO.out _) (Below.refl _ _) hs (by omega) ?_; intro v1 w1 hR1 hb1 hg1 hat1)) | go_in)
              go_roundg gk
              have hm := mrg_eq kOr (rd la 0) (rd lb 0) ra rb (by omega)
              rw [← hra.out, ← hrb.out] at hm
              case measure => omega
              case rel => exact ⟨_, _, _, _, ra, rb, (acc ++ [rd lb 0]), rfl, rfl, ⟨cA.out _ HA.out⟩, ⟨cB.out _ HB.out⟩, hrd, hsd, ⟨hR1⟩, ⟨by rw [← HE.out, hm]; simp [kOr]⟩, by first | omega | (simp only [List.length_nil] at *; omega), by first | omega | (simp only [List.length_nil, List.length_append, List.length_cons] at *; omega), (pw_below_drewN hb _).trans hb1⟩
      · obtain rfl : lb = [] := List.eq_nil_of_length_eq_zero (by omega)
        cases gk with
        | zero => exfalso; simp only [List.length_nil] at hq; omega
        | succ gk =>
          go_wp2
          go_quiet (fail)
          go_wp2
          go_quiet (fail)
          go_wp2
          go_quiet (fail)
          go_wp2_with (first | (at_builtin; (refine Kd.R_append (Kd.int .i64) w.heap.size rfl _ _ 22 3 (.int .i64 0) 8 rfl Tryd.underlying22 info3 rfl (by decide) (by decide) (.slice vA acc.length vc) acc (rd la 0) [.int .i64 (rd la 0)] (fun k_ => w.heap.size ≤ k_) (fun _ => False) rfl rfl rfl (fun _ h => h.elim) (fun k hk => Nat.le_trans hs hk) (Kd.R_drewN HO.out _) (Below.refl _ _) hs (by omega) ?_; intro v1 w1 hR1 hb1 hg1 hat1)) | go_in)
          go_roundg gk
          have hm := mrg_a kOr (rd la 0) ra
          rw [← hra.out] at hm
          case measure => omega
          case rel => exact ⟨_, _, _, _, ra, [], (acc ++ [rd la 0]), rfl, rfl, ⟨cA.out _ HA.out⟩, HB, hrd, hd1, ⟨hR1⟩, ⟨by rw [← HE.out, hm]; simp [kOr]⟩, by first | omega | (simp only [List.length_nil] at *; omega), by first | omega | (simp only [List.length_nil, List.length_append, List.length_cons] at *; omega), (pw_below_drewN hb _).trans hb1⟩
    · obtain rfl : la = [] := List.eq_nil_of_length_eq_zero (by omega)
      by_cases hbb : 0 < lb.length
      · obtain ⟨bd, rfl, hy⟩ := C_head _ _ _ _ (Kd.C_below HB.out hb) hbb
        obtain ⟨B', rb, hrb, rB, cB, hsd, hsl⟩ := C_cut (some bd) lb d1 hbb hd1
        have g1 : ((lb.length : Int) == 0) = false := beq_eq_false_iff_ne.mpr (by omega)
        cases gk with
        | zero => exfalso; simp only [List.length_nil] at hq; omega
        | succ gk =>
          go_wp2
          go_quiet (fail)
          go_wp2
          go_quiet (fail)
          go_wp2
          go_quiet (fail)
          go_wp2_with (first | (at_builtin; (refine Kd.R_append (Kd.int .i64) w.heap.size rfl _ _ 22 3 (.int .i64 0) 8 rfl Tryd.underlying22 info3 rfl (by decide) (by decide) (.slice vA acc.length vc) acc (rd lb 0) [.int .i64 (rd lb 0)] (fun k_ => w.heap.size ≤ k_) (fun _ => False) rfl rfl rfl (fun _ h => h.elim) (fun k hk => Nat.le_trans hs hk) (Kd.R_drewN HO.out _) (Below.refl _ _) hs (by omega) ?_; intro v1 w1 hR1 hb1 hg1 hat1)) | go_in)
          go_roundg gk
          have hm := mrg_b kOr (rd lb 0) rb
          rw [← hrb.out] at hm
          case measure => omega
          case rel => exact ⟨_, _, _, _, [], rb, (acc ++ [rd lb 0]), rfl, rfl, HA, ⟨cB.out _ HB.out⟩, hd0, hsd, ⟨hR1⟩, ⟨by rw [← HE.out, hm]; simp [kOr]⟩, by first | omega | (simp only [List.length_nil] at *; omega), by first | omega | (simp only [List.length_nil, List.length_append, List.length_cons] at *; omega), (pw_below_drewN hb _).trans hb1⟩
      · obtain rfl : lb = [] := List.eq_nil_of_length_eq_zero (by omega)
        have he := HE.out
        rw [show mrg kOr [] [] = [] by rw [mrg], List.append_nil] at he
        have HX := Aside0.mk he
        clear he
        go_wp2
        go_ret
        exact ⟨_, rfl, by rw [← HX.out]; exact HO.out, hb⟩
set_option maxHeartbeats 1000000 in
set_option maxRecDepth 100000 in
theorem selection_Union.calls (A0 : Option Addr) (c0 : Nat) (l0 : List Int) (A1 : Option Addr) (c1 : Nat) (l1 : List Int) (r : List Int) (w : World) (hr0 : Kd.C (Kd.int .i64) w A0 l0.length l0) (hc0 : l0.length ≤ c0) (hr1 : Kd.C (Kd.int .i64) w A1 l1.length l1) (hc1 : l1.length ≤ c1) (h : selection_Union.f l0 l1 = some r) :
    Calls Tryd.prog 24 #[.slice A0 l0.length c0, .slice A1 l1.length c1] w fun e w' => ∃ v0_ : Value, e = .returned (v0_) ∧ Kd.R (Kd.int .i64) 3 w' w.heap.size (fun k_ => True) v0_ r ∧ Below w.heap.size w w' := by
  unfold selection_Union.f at h
  split at h
  case isFalse => cases h
  case isTrue hlim =>
  rw [mrgN_eq _ _ _ _ (Nat.le_refl _)] at h
  obtain rfl := Option.some.inj h
  go_enter Tryd.func24, Tryd.ntmps24
  go_wp2_with (go_at_call 62; refine (merge_Or A0 c0 l0 A1 c1 l1 _ hr0 hc0 hr1 hc1 hlim).mono ?_; rintro e w1 ⟨v, rfl, hR, hb⟩)
  go_ret
  exact ⟨_, rfl, Kd.R_mono hR (fun _ _ => trivial), hb⟩

/-! ### selection_Difference: function 26 -/
def selection_Difference.f (l0 l1 : List Int) : Option (List Int) := if l0.length + l1.length < 17592186044416 then some (mrgN kNot (l0.length + l1.length) l0 l1) else none
set_option maxHeartbeats 1000000 in
set_option maxRecDepth 100000 in
theorem merge_Not (A0 : Option Addr) (c0 : Nat) (l0 : List Int) (A1 : Option Addr) (c1 : Nat) (l1 : List Int) (w : World) (hr0 : Kd.C (Kd.int .i64) w A0 l0.length l0) (hc0 : l0.length ≤ c0) (hr1 : Kd.C (Kd.int .i64) w A1 l1.length l1) (hc1 : l1.length ≤ c1) (hlim : l0.length + l1.length < 17592186044416) :
    Calls Tryd.prog 62 #[.slice A0 l0.length c0, .slice A1 l1.length c1, .func (.func 67) #[] #[]] w fun e w' => ∃ v0_ : Value, e = .returned v0_ ∧ Kd.R (Kd.int .i64) 3 w' w.heap.size (fun k_ => w.heap.size ≤ k_) v0_ (mrg kNot l0 l1) ∧ Below w.heap.size w w' := by
  have HR0 := Aside0.mk hr0
  have HR1 := Aside0.mk hr1
  clear hr0 hr1
  go_enter Tryd.func62, Tryd.ntmps62
  go_wp2
  go_loopg [0, 1, 7] (l0.length + l1.length) (fun q v0 v1 v7 wr => ∃ (B0 B1 : Option Addr) (d0 d1 : Nat) (la lb acc : List Int), v0 = .slice B0 la.length d0 ∧ v1 = .slice B1 lb.length d1 ∧ Aside0 (Kd.C (Kd.int .i64) w B0 la.length la) ∧ Aside0 (Kd.C (Kd.int .i64) w B1 lb.length lb) ∧ la.length ≤ d0 ∧ lb.length ≤ d1 ∧ Aside0 (Kd.R (Kd.int .i64) 3 wr w.heap.size (fun k_ => w.heap.size ≤ k_) v7 acc) ∧ Aside0 (acc ++ mrg kNot la lb = mrg kNot l0 l1) ∧ la.length + lb.length ≤ q ∧ acc.length + la.length + lb.length ≤ l0.length + l1.length ∧ Below w.heap.size w wr)
  case atStart => exact ⟨_, _, _, _, l0, l1, [], rfl, rfl, HR0, HR1, hc0, hc1, ⟨Kd.R_nil _ _ _ _ _⟩, ⟨rfl⟩, Nat.le_refl _, by simp, Below.refl _ _⟩
  case round =>
    obtain ⟨B0, B1, d0, d1, la, lb, acc, rfl, rfl, HA, HB, hd0, hd1, HO, HE, hq, hn, hb⟩ := hrel
    obtain ⟨vA, vc, rfl⟩ := Kd.R_slice HO.out
    have hs := hb.size
    by_cases ha : 0 < la.length
    · obtain ⟨ad, rfl, hx⟩ := C_head _ _ _ _ (Kd.C_below HA.out hb) ha
      obtain ⟨A', ra, hra, rA, cA, hrd, hrl⟩ := C_cut (some ad) la d0 ha hd0
      have g2 : ((la.length : Int) == 0) = false := beq_eq_false_iff_ne.mpr (by omega)
      by_cases hbb : 0 < lb.length
      · obtain ⟨bd, rfl, hy⟩ := C_head _ _ _ _ (Kd.C_below HB.out hb) hbb
        obtain ⟨B', rb, hrb, rB, cB, hsd, hsl⟩ := C_cut (some bd) lb d1 hbb hd1
        have g1 : ((lb.length : Int) == 0) = false := beq_eq_false_iff_ne.mpr (by omega)
        by_cases hxy : rd la 0 < rd lb 0
        · have k1 : decide (rd la 0 ≤ rd lb 0) = true := decide_eq_true (by omega)
          have k2 : decide (rd lb 0 ≤ rd la 0) = false := decide_eq_false (by omega)
          cases gk with
          | zero => exfalso; omega
          | succ gk =>
            go_wp2
            go_quiet (fail)
            go_wp2
            go_quiet (fail)
            go_wp2
            go_quiet (fail)
            go_wp2_with (first | (at_builtin; (refine Kd.R_append (Kd.int .i64) w.heap.size rfl _ _ 22 3 (.int .i64 0) 8 rfl Tryd.underlying22 info3 rfl (by decide) (by decide) (.slice vA acc.length vc) acc (rd la 0) [.int .i64 (rd la 0)] (fun k_ => w.heap.size ≤ k_) (fun _ => False) rfl rfl rfl (fun _ h => h.elim) (fun k hk => Nat.le_trans hs hk) (Kd.R_drewN HO.out _) (Below.refl _ _) hs (by omega) ?_; intro v1 w1 hR1 hb1 hg1 hat1)) | go_in)
            go_roundg gk
            have hm := mrg_lt kNot (rd la 0) (rd lb 0) ra rb hxy
            rw [← hra.out, ← hrb.out] at hm
            case measure => omega
            case rel => exact ⟨_, _, _, _, ra, lb, (acc ++ [rd la 0]), rfl, rfl, ⟨cA.out _ HA.out⟩, HB, hrd, hd1, ⟨hR1⟩, ⟨by rw [← HE.out, hm]; simp [kNot]⟩, by first | omega | (simp only [List.length_nil] at *; omega), by first | omega | (simp only [List.length_nil, List.length_append, List.length_cons] at *; omega), (pw_below_drewN hb _).trans hb1⟩
        · by_cases hyx : rd lb 0 < rd la 0
          · have k1 : decide (rd la 0 ≤ rd lb 0) = false := decide_eq_false (by omega)
            have k2 : decide (rd lb 0 ≤ rd la 0) = true := decide_eq_true (by omega)
            cases gk with
            | zero => exfalso; omega
            | succ gk =>
              go_wp2
              go_quiet (fail)
              go_wp2
              go_quiet (fail)
              go_wp2
              go_quiet (fail)
              go_wp2
              go_roundg gk
              have hm := mrg_gt kNot (rd la 0) (rd lb 0) ra rb hyx
              rw [← hra.out, ← hrb.out] at hm
              case measure => omega
              case rel => exact ⟨_, _, _, _, la, rb, acc, rfl, rfl, HA, ⟨cB.out _ HB.out⟩, hd0, hsd, ⟨(Kd.R_drewN HO.out _)⟩, ⟨by rw [← HE.out, hm]; simp [kNot]⟩, by first | omega | (simp only [List.length_nil] at *; omega), by first | omega | (simp only [List.length_nil, List.length_append, List.length_cons] at *; omega), pw_below_drewN hb _⟩
          · have k1 : decide (rd la 0 ≤ rd lb 0) = true := decide_eq_true (by omega)
            have k2 : decide (rd lb 0 ≤ rd la 0) = true := decide_eq_true (by omega)
            cases gk with
            | zero => exfalso; omega
            | succ gk =>
              go_wp2
              go_quiet (fail)
              go_wp2
              go_quiet (fail)
              go_wp2
              go_quiet (fail)
              go_wp2
              go_quiet (fail)
              go_wp2
              go_roundg gk
              have hm := mrg_eq kNot (rd la 0) (rd lb 0) ra rb (by omega)
              rw [← hra.out, ← hrb.out] at hm
              case measure => omega
              case rel => exact ⟨_, _, _, _, ra, rb, acc, rfl, rfl, ⟨cA.out _ HA.out⟩, ⟨cB.out _ HB.out⟩, hrd, hsd, ⟨(Kd.R_drewN HO.out _)⟩, ⟨by rw [← HE.out, hm]; simp [kNot]⟩, by first | omega | (simp only [List.length_nil] at *; omega), by first | omega | (simp only [List.length_nil, List.length_append, List.length_cons] at *; omega), pw_below_drewN hb _⟩
      · obtain rfl : lb = [] := List.eq_nil_of_length_eq_zero (by omega)
        cases gk with
        | zero => exfalso; simp only [List.length_nil] at hq; omega
        | succ gk =>
          go_wp2
          go_quiet (fail)
          go_wp2
          go_quiet (fail)
          go_wp2
          go_quiet (fail)
          go_wp2_with (first | (at_builtin; (refine Kd.R_append (Kd.int .i64) w.heap.size rfl _ _ 22 3 (.int .i64 0) 8 rfl Tryd.underlying22 info3 rfl (by decide) (by decide) (.slice vA acc.length vc) acc (rd la 0) [.int .i64 (rd la 0)] (fun k_ => w.heap.size ≤ k_) (fun _ => False) rfl rfl rfl (fun _ h => h.elim) (fun k hk => Nat.le_trans hs hk) (Kd.R_drewN HO.out _) (Below.refl _ _) hs (by omega) ?_; intro v1 w1 hR1 hb1 hg1 hat1)) | go_in)
          go_roundg gk
          have hm := mrg_a kNot (rd la 0) ra
          rw [← hra.out] at hm
          case measure => omega
          case rel => exact ⟨_, _, _, _, ra, [], (acc ++ [rd la 0]), rfl, rfl, ⟨cA.out _ HA.out⟩, HB, hrd, hd1, ⟨hR1⟩, ⟨by rw [← HE.out, hm]; simp [kNot]⟩, by first | omega | (simp only [List.length_nil] at *; omega), by first | omega | (simp only [List.length_nil, List.length_append, List.length_cons] at *; omega), (pw_below_drewN hb _).trans hb1⟩
    · obtain rfl : la = [] := List.eq_nil_of_length_eq_zero (by omega)
      by_cases hbb : 0 < lb.length
      · obtain ⟨bd, rfl, hy⟩ := C_head _ _ _ _ (Kd.C_below HB.out hb) hbb
        obtain ⟨B', rb, hrb, rB, cB, hsd, hsl⟩ := C_cut (some bd) lb d1 hbb hd1
        have g1 : ((lb.length : Int) == 0) = false := beq_eq_false_iff_ne.mpr (by omega)
        cases gk with
        | zero => exfalso; simp only [List.length_nil] at hq; omega
        | succ gk =>
          go_wp2
          go_quiet (fail)
          go_wp2
          go_quiet (fail)
          go_wp2
          go_quiet (fail)
          go_wp2
          go_roundg gk
          have hm := mrg_b kNot (rd lb 0) rb
          rw [← hrb.out] at hm
          case measure => omega
          case rel => exact ⟨_, _, _, _, [], rb, acc, rfl, rfl, HA, ⟨cB.out _ HB.out⟩, hd0, hsd, ⟨(Kd.R_drewN HO.out _)⟩, ⟨by rw [← HE.out, hm]; simp [kNot]⟩, by first | omega | (simp only [List.length_nil] at *; omega), by first | omega | (simp only [List.length_nil, List.length_append, List.length_cons] at *; omega), pw_below_drewN hb _⟩
      · obtain rfl : lb = [] := List.eq_nil_of_length_eq_zero (by omega)
        have he := HE.out
        rw [show mrg kNot [] [] = [] by rw [mrg], List.append_nil] at he
        have HX := Aside0.mk he
        clear he
        go_wp2
        go_ret
        exact ⟨_, rfl, by rw [← HX.out]; exact HO.out, hb⟩
set_option maxHeartbeats 1000000 in
set_option maxRecDepth 100000 in
theorem selection_Difference.calls (A0 : Option Addr) (c0 : Nat) (l0 : List Int) (A1 : Option Addr) (c1 : Nat) (l1 : List Int) (r : List Int) (w : World) (hr0 : Kd.C (Kd.int .i64) w A0 l0.length l0) (hc0 : l0.length ≤ c0) (hr1 : Kd.C (Kd.int .i64) w A1 l1.length l1) (hc1 : l1.length ≤ c1) (h : selection_Difference.f l0 l1 = some r) :
    Calls Tryd.prog 26 #[.slice A0 l0.length c0, .slice A1 l1.length c1] w fun e w' => ∃ v0_ : Value, e = .returned (v0_) ∧ Kd.R (Kd.int .i64) 3 w' w.heap.size (fun k_ => True) v0_ r ∧ Below w.heap.size w w' := by
  unfold selection_Difference.f at h
  split at h
  case isFalse => cases h
  case isTrue hlim =>
  rw [mrgN_eq _ _ _ _ (Nat.le_refl _)] at h
  obtain rfl := Option.some.inj h
  go_enter Tryd.func26, Tryd.ntmps26
  go_wp2_with (go_at_call 62; refine (merge_Not A0 c0 l0 A1 c1 l1 _ hr0 hc0 hr1 hc1 hlim).mono ?_; rintro e w1 ⟨v, rfl, hR, hb⟩)
  go_ret
  exact ⟨_, rfl, Kd.R_mono hR (fun _ _ => trivial), hb⟩

end Go.Proofs.YtijgbhbdmnhanaaDoor.QSelectionAlgebra
