-- Written by a program of this session (wip/pr2.sh): the walk of the Go text, function by function.
import Derived.Test.YtllhbjkkoogeeaaQBitpackCanonicalx0
namespace Go.Proofs.Ytllhbjkkoogeeaa.QBitpackCanonical
open Go.RowKit Go.Proofs.YtllhbjkkoogeeaaW.PrintWords Go.Proofs.YtllhbjkkoogeeaaW.PrintLast Go.Proofs.YtllhbjkkoogeeaaW.PrintMore
open Go.Proofs.YtllhbjkkoogeeaaM
attribute [local go_sem] max2_int min2_int max_two min_two max_three min_three max_four min_four   -- for this text's walks alone
set_option linter.unusedVariables false
set_option linter.unusedSimpArgs false

/-! ### bits_Len64: function 85 -/
def bits_Len64.j0 : Nat → Int → Int → Option (Int)
 | 0, _, _ => none
 | k + 1, x0, x2 => if x0 ≥ 65536 then (if (x0 / 65536) ≥ 256 then (if 0 ≤ (((x0 / 65536) / 256) % 256) then (if (((x0 / 65536) / 256) % 256) < 256 then (some (wrap64 ((wrap64 ((wrap64 (x2 + 16)) + 8)) + (wrap64 (bt (⟨#[0, 1, 2, 2, 3, 3, 3, 3, 4, 4, 4, 4, 4, 4, 4, 4, 5, 5, 5, 5, 5, 5, 5, 5, 5, 5, 5, 5, 5, 5, 5, 5, 6, 6, 6, 6, 6, 6, 6, 6, 6, 6, 6, 6, 6, 6, 6, 6, 6, 6, 6, 6, 6, 6, 6, 6, 6, 6, 6, 6, 6, 6, 6, 6, 7, 7, 7, 7, 7, 7, 7, 7, 7, 7, 7, 7, 7, 7, 7, 7, 7, 7, 7, 7, 7, 7, 7, 7, 7, 7, 7, 7, 7, 7, 7, 7, 7, 7, 7, 7, 7, 7, 7, 7, 7, 7, 7, 7, 7, 7, 7, 7, 7, 7, 7, 7, 7, 7, 7, 7, 7, 7, 7, 7, 7, 7, 7, 7, 8, 8, 8, 8, 8, 8, 8, 8, 8, 8, 8, 8, 8, 8, 8, 8, 8, 8, 8, 8, 8, 8, 8, 8, 8, 8, 8, 8, 8, 8, 8, 8, 8, 8, 8, 8, 8, 8, 8, 8, 8, 8, 8, 8, 8, 8, 8, 8, 8, 8, 8, 8, 8, 8, 8, 8, 8, 8, 8, 8, 8, 8, 8, 8, 8, 8, 8, 8, 8, 8, 8, 8, 8, 8, 8, 8, 8, 8, 8, 8, 8, 8, 8, 8, 8, 8, 8, 8, 8, 8, 8, 8, 8, 8, 8, 8, 8, 8, 8, 8, 8, 8, 8, 8, 8, 8, 8, 8, 8, 8, 8, 8, 8, 8, 8, 8, 8, 8, 8, 8, 8, 8, 8, 8, 8, 8, 8, 8]⟩ : ByteArray) (((x0 / 65536) / 256) % 256)))))) else (none)) else (none)) else (if 0 ≤ ((x0 / 65536) % 256) then (if ((x0 / 65536) % 256) < 256 then (some (wrap64 ((wrap64 (x2 + 16)) + (wrap64 (bt (⟨#[0, 1, 2, 2, 3, 3, 3, 3, 4, 4, 4, 4, 4, 4, 4, 4, 5, 5, 5, 5, 5, 5, 5, 5, 5, 5, 5, 5, 5, 5, 5, 5, 6, 6, 6, 6, 6, 6, 6, 6, 6, 6, 6, 6, 6, 6, 6, 6, 6, 6, 6, 6, 6, 6, 6, 6, 6, 6, 6, 6, 6, 6, 6, 6, 7, 7, 7, 7, 7, 7, 7, 7, 7, 7, 7, 7, 7, 7, 7, 7, 7, 7, 7, 7, 7, 7, 7, 7, 7, 7, 7, 7, 7, 7, 7, 7, 7, 7, 7, 7, 7, 7, 7, 7, 7, 7, 7, 7, 7, 7, 7, 7, 7, 7, 7, 7, 7, 7, 7, 7, 7, 7, 7, 7, 7, 7, 7, 7, 8, 8, 8, 8, 8, 8, 8, 8, 8, 8, 8, 8, 8, 8, 8, 8, 8, 8, 8, 8, 8, 8, 8, 8, 8, 8, 8, 8, 8, 8, 8, 8, 8, 8, 8, 8, 8, 8, 8, 8, 8, 8, 8, 8, 8, 8, 8, 8, 8, 8, 8, 8, 8, 8, 8, 8, 8, 8, 8, 8, 8, 8, 8, 8, 8, 8, 8, 8, 8, 8, 8, 8, 8, 8, 8, 8, 8, 8, 8, 8, 8, 8, 8, 8, 8, 8, 8, 8, 8, 8, 8, 8, 8, 8, 8, 8, 8, 8, 8, 8, 8, 8, 8, 8, 8, 8, 8, 8, 8, 8, 8, 8, 8, 8, 8, 8, 8, 8, 8, 8, 8, 8, 8, 8, 8, 8, 8, 8]⟩ : ByteArray) ((x0 / 65536) % 256)))))) else (none)) else (none))) else (if x0 ≥ 256 then (if 0 ≤ ((x0 / 256) % 256) then (if ((x0 / 256) % 256) < 256 then (some (wrap64 ((wrap64 (x2 + 8)) + (wrap64 (bt (⟨#[0, 1, 2, 2, 3, 3, 3, 3, 4, 4, 4, 4, 4, 4, 4, 4, 5, 5, 5, 5, 5, 5, 5, 5, 5, 5, 5, 5, 5, 5, 5, 5, 6, 6, 6, 6, 6, 6, 6, 6, 6, 6, 6, 6, 6, 6, 6, 6, 6, 6, 6, 6, 6, 6, 6, 6, 6, 6, 6, 6, 6, 6, 6, 6, 7, 7, 7, 7, 7, 7, 7, 7, 7, 7, 7, 7, 7, 7, 7, 7, 7, 7, 7, 7, 7, 7, 7, 7, 7, 7, 7, 7, 7, 7, 7, 7, 7, 7, 7, 7, 7, 7, 7, 7, 7, 7, 7, 7, 7, 7, 7, 7, 7, 7, 7, 7, 7, 7, 7, 7, 7, 7, 7, 7, 7, 7, 7, 7, 8, 8, 8, 8, 8, 8, 8, 8, 8, 8, 8, 8, 8, 8, 8, 8, 8, 8, 8, 8, 8, 8, 8, 8, 8, 8, 8, 8, 8, 8, 8, 8, 8, 8, 8, 8, 8, 8, 8, 8, 8, 8, 8, 8, 8, 8, 8, 8, 8, 8, 8, 8, 8, 8, 8, 8, 8, 8, 8, 8, 8, 8, 8, 8, 8, 8, 8, 8, 8, 8, 8, 8, 8, 8, 8, 8, 8, 8, 8, 8, 8, 8, 8, 8, 8, 8, 8, 8, 8, 8, 8, 8, 8, 8, 8, 8, 8, 8, 8, 8, 8, 8, 8, 8, 8, 8, 8, 8, 8, 8, 8, 8, 8, 8, 8, 8, 8, 8, 8, 8, 8, 8, 8, 8, 8, 8, 8, 8]⟩ : ByteArray) ((x0 / 256) % 256)))))) else (none)) else (none)) else (if 0 ≤ ((x0) % 256) then (if ((x0) % 256) < 256 then (some (wrap64 (x2 + (wrap64 (bt (⟨#[0, 1, 2, 2, 3, 3, 3, 3, 4, 4, 4, 4, 4, 4, 4, 4, 5, 5, 5, 5, 5, 5, 5, 5, 5, 5, 5, 5, 5, 5, 5, 5, 6, 6, 6, 6, 6, 6, 6, 6, 6, 6, 6, 6, 6, 6, 6, 6, 6, 6, 6, 6, 6, 6, 6, 6, 6, 6, 6, 6, 6, 6, 6, 6, 7, 7, 7, 7, 7, 7, 7, 7, 7, 7, 7, 7, 7, 7, 7, 7, 7, 7, 7, 7, 7, 7, 7, 7, 7, 7, 7, 7, 7, 7, 7, 7, 7, 7, 7, 7, 7, 7, 7, 7, 7, 7, 7, 7, 7, 7, 7, 7, 7, 7, 7, 7, 7, 7, 7, 7, 7, 7, 7, 7, 7, 7, 7, 7, 8, 8, 8, 8, 8, 8, 8, 8, 8, 8, 8, 8, 8, 8, 8, 8, 8, 8, 8, 8, 8, 8, 8, 8, 8, 8, 8, 8, 8, 8, 8, 8, 8, 8, 8, 8, 8, 8, 8, 8, 8, 8, 8, 8, 8, 8, 8, 8, 8, 8, 8, 8, 8, 8, 8, 8, 8, 8, 8, 8, 8, 8, 8, 8, 8, 8, 8, 8, 8, 8, 8, 8, 8, 8, 8, 8, 8, 8, 8, 8, 8, 8, 8, 8, 8, 8, 8, 8, 8, 8, 8, 8, 8, 8, 8, 8, 8, 8, 8, 8, 8, 8, 8, 8, 8, 8, 8, 8, 8, 8, 8, 8, 8, 8, 8, 8, 8, 8, 8, 8, 8, 8, 8, 8, 8, 8, 8, 8]⟩ : ByteArray) ((x0) % 256)))))) else (none)) else (none)))
def bits_Len64.f (k : Nat) (a0 : Int) : Option (Int) := if a0 ≥ 4294967296 then (bits_Len64.j0 k (a0 / 4294967296) 32) else (bits_Len64.j0 k a0 0)
theorem bits_Len64.mono_l : ∀ k, (∀ y0 y1, LeO (bits_Len64.j0 k y0 y1) (bits_Len64.j0 (k + 1) y0 y1))
 | 0 => fun _ _ r h => by simp [bits_Len64.j0] at h
 | k + 1 => by
  have ih0 := bits_Len64.mono_l k
  ·intro y0 y1
   unfold bits_Len64.j0
   repeat' first
   | (with_reducible exact ih0 _ _)
   | (with_reducible exact LeO.refl _)
   | (with_reducible exact LeO.none _)
   | (with_reducible refine LeO.ite ?_ ?_)
   | (with_reducible refine LeO.bind ?_ (fun _ => ?_))
   | exact ih0 _ _
   | exact LeO.none _
   | refine LeO.ite ?_ ?_
   | refine LeO.bind ?_ (fun _ => ?_)
theorem bits_Len64.mono : ∀ a0 k, LeO (bits_Len64.f k a0) (bits_Len64.f (k + 1) a0) := by
 intro a0 k
 have ih0 := bits_Len64.mono_l k
 unfold bits_Len64.f
 repeat' first
   | (with_reducible exact ih0 _ _)
   | (with_reducible exact LeO.refl _)
   | (with_reducible exact LeO.none _)
   | (with_reducible refine LeO.ite ?_ ?_)
   | (with_reducible refine LeO.bind ?_ (fun _ => ?_))
   | exact ih0 _ _
   | exact LeO.none _
   | refine LeO.ite ?_ ?_
   | refine LeO.bind ?_ (fun _ => ?_)
set_option maxHeartbeats 8000000 in
set_option maxRecDepth 100000 in
theorem bits_Len64.calls (k : Nat) (a0 : Int) (r : Int) (w : World) (h : bits_Len64.f k a0 = some r) :
  Calls Try.prog 85 #[.int .u64 a0] w fun e w' => e = .returned (.int .i64 r) ∧ Drawn0 w w' := by
 have H : (if a0 ≥ 4294967296 then (bits_Len64.j0 k (a0 / 4294967296) 32) else (bits_Len64.j0 k a0 0)) = some r := h
 clear h
 have HC2 := Aside0.mk H
 clear H
 go_enter Try.func85, Try.ntmps85
 go_upto_if 4 with (fail)
 go_cut [0, 2] (fun v0 v2 wc => ∃ (kq : Nat) (x0_1 : Int) (x2_1 : Int), v0 = .int .u64 x0_1 ∧ v2 = .int .i64 x2_1 ∧ Aside0 (bits_Len64.j0 kq x0_1 x2_1 = some r) ∧ Aside0 (kq ≤ k) ∧ Drawn0 w wc)
 case first =>
  have H := HC2.out
  clear HC2
  by_cases c3 : a0 ≥ 4294967296
  ·rw [if_pos c3] at H
   have c3b0 : decide (4294967296 ≤ a0) = true := decide_eq_true c3
   clear c3
   (first | rw [c3b0] | (simp only [i64_w, i32_w]; rw [c3b0]) | skip)
   have H' := Aside0.mk H
   clear H
   go_wp2
   go_meet
   case rel => exact ⟨_, (a0 / 4294967296), (32), (by first | rfl | (simp; done) | (simp [*]; done)), (by first | rfl | (simp; done) | (simp [*]; done)), H', ⟨by first | omega | exact Nat.le_refl _⟩, by repeat (first | exact Drawn0.refl _ | apply Drawn0.step)⟩
  ·rw [if_neg c3] at H
   have c3b0 : decide (4294967296 ≤ a0) = false := decide_eq_false c3
   clear c3
   (first | rw [c3b0] | (simp only [i64_w, i32_w]; rw [c3b0]) | skip)
   have H' := Aside0.mk H
   clear H
   go_wp2
   go_meet
   case rel => exact ⟨_, (a0), (0), (by first | rfl | (simp; done) | (simp [*]; done)), (by first | rfl | (simp; done) | (simp [*]; done)), H', ⟨by first | omega | exact Nat.le_refl _⟩, by repeat (first | exact Drawn0.refl _ | apply Drawn0.step)⟩
 case rest =>
  clear HC2
  try clear p2
  try clear c3
  try clear c3b0
  obtain ⟨kq, x0_1, x2_1, rfl, rfl, HA, HJ1, ⟨mc1, rfl⟩⟩ := hcut
  cases kq with
  | zero => exact absurd HA.out (by simp [bits_Len64.j0])
  | succ kj1 =>
   have H := HA.out
   clear HA
   simp only [bits_Len64.j0] at H
   by_cases c4 : x0_1 ≥ 65536
   ·rw [if_pos c4] at H
    have c4b0 : decide (65536 ≤ x0_1) = true := decide_eq_true c4
    clear c4
    by_cases c5 : (x0_1 / 65536) ≥ 256
    ·rw [if_pos c5] at H
     have c5b0 : decide (256 ≤ (x0_1 / 65536)) = true := decide_eq_true c5
     clear c5
     obtain ⟨ji6, hji6⟩ : ∃ j_ : Int, (((x0_1 / 65536) / 256) % 256) = j_ := ⟨_, rfl⟩
     replace H : (if 0 ≤ (ji6) then (if (ji6) < 256 then (some (wrap64 ((wrap64 ((wrap64 (x2_1 + 16)) + 8)) + (wrap64 (bt (⟨#[0, 1, 2, 2, 3, 3, 3, 3, 4, 4, 4, 4, 4, 4, 4, 4, 5, 5, 5, 5, 5, 5, 5, 5, 5, 5, 5, 5, 5, 5, 5, 5, 6, 6, 6, 6, 6, 6, 6, 6, 6, 6, 6, 6, 6, 6, 6, 6, 6, 6, 6, 6, 6, 6, 6, 6, 6, 6, 6, 6, 6, 6, 6, 6, 7, 7, 7, 7, 7, 7, 7, 7, 7, 7, 7, 7, 7, 7, 7, 7, 7, 7, 7, 7, 7, 7, 7, 7, 7, 7, 7, 7, 7, 7, 7, 7, 7, 7, 7, 7, 7, 7, 7, 7, 7, 7, 7, 7, 7, 7, 7, 7, 7, 7, 7, 7, 7, 7, 7, 7, 7, 7, 7, 7, 7, 7, 7, 7, 8, 8, 8, 8, 8, 8, 8, 8, 8, 8, 8, 8, 8, 8, 8, 8, 8, 8, 8, 8, 8, 8, 8, 8, 8, 8, 8, 8, 8, 8, 8, 8, 8, 8, 8, 8, 8, 8, 8, 8, 8, 8, 8, 8, 8, 8, 8, 8, 8, 8, 8, 8, 8, 8, 8, 8, 8, 8, 8, 8, 8, 8, 8, 8, 8, 8, 8, 8, 8, 8, 8, 8, 8, 8, 8, 8, 8, 8, 8, 8, 8, 8, 8, 8, 8, 8, 8, 8, 8, 8, 8, 8, 8, 8, 8, 8, 8, 8, 8, 8, 8, 8, 8, 8, 8, 8, 8, 8, 8, 8, 8, 8, 8, 8, 8, 8, 8, 8, 8, 8, 8, 8, 8, 8, 8, 8, 8, 8]⟩ : ByteArray) (ji6)))))) else (none)) else (none)) = some r := by first | (rw [hji6] at H; exact H) | (simp only [hji6] at H ⊢; exact H)
     by_cases c7 : 0 ≤ (ji6)
     ·rw [if_pos c7] at H
      have c7b0 : decide (0 ≤ (ji6)) = true := decide_eq_true c7
      clear c7
      by_cases c8 : (ji6) < 256
      ·rw [if_pos c8] at H
       have c8b0 : decide ((ji6) < 256) = true := decide_eq_true c8
       clear c8
       obtain rfl := Option.some.inj H
       have p9 : 0 ≤ ((ji6) : Int) := of_decide_eq_true (by first | (with_reducible assumption) | assumption)
       have q9 : (ji6) < (256 : Int) := of_decide_eq_true (by first | (with_reducible assumption) | assumption)
       have hx9 := bt_at (⟨#[0, 1, 2, 2, 3, 3, 3, 3, 4, 4, 4, 4, 4, 4, 4, 4, 5, 5, 5, 5, 5, 5, 5, 5, 5, 5, 5, 5, 5, 5, 5, 5, 6, 6, 6, 6, 6, 6, 6, 6, 6, 6, 6, 6, 6, 6, 6, 6, 6, 6, 6, 6, 6, 6, 6, 6, 6, 6, 6, 6, 6, 6, 6, 6, 7, 7, 7, 7, 7, 7, 7, 7, 7, 7, 7, 7, 7, 7, 7, 7, 7, 7, 7, 7, 7, 7, 7, 7, 7, 7, 7, 7, 7, 7, 7, 7, 7, 7, 7, 7, 7, 7, 7, 7, 7, 7, 7, 7, 7, 7, 7, 7, 7, 7, 7, 7, 7, 7, 7, 7, 7, 7, 7, 7, 7, 7, 7, 7, 8, 8, 8, 8, 8, 8, 8, 8, 8, 8, 8, 8, 8, 8, 8, 8, 8, 8, 8, 8, 8, 8, 8, 8, 8, 8, 8, 8, 8, 8, 8, 8, 8, 8, 8, 8, 8, 8, 8, 8, 8, 8, 8, 8, 8, 8, 8, 8, 8, 8, 8, 8, 8, 8, 8, 8, 8, 8, 8, 8, 8, 8, 8, 8, 8, 8, 8, 8, 8, 8, 8, 8, 8, 8, 8, 8, 8, 8, 8, 8, 8, 8, 8, 8, 8, 8, 8, 8, 8, 8, 8, 8, 8, 8, 8, 8, 8, 8, 8, 8, 8, 8, 8, 8, 8, 8, 8, 8, 8, 8, 8, 8, 8, 8, 8, 8, 8, 8, 8, 8, 8, 8, 8, 8, 8, 8, 8, 8]⟩ : ByteArray) (ji6)
       replace p9 := eq_true p9
       replace q9 := eq_true q9
       go_wp2
       go_ret
       exact ⟨by first | rfl | (simp; done) | (simp only [← hji6] <;> (first | rfl | simp)) | (simp [*]; done), by repeat (first | exact Drawn0.refl _ | apply Drawn0.step)⟩
      ·rw [if_neg c8] at H
       exact absurd H (by simp)
     ·rw [if_neg c7] at H
      exact absurd H (by simp)
    ·rw [if_neg c5] at H
     have c5b0 : decide (256 ≤ (x0_1 / 65536)) = false := decide_eq_false c5
     clear c5
     obtain ⟨ji10, hji10⟩ : ∃ j_ : Int, ((x0_1 / 65536) % 256) = j_ := ⟨_, rfl⟩
     replace H : (if 0 ≤ (ji10) then (if (ji10) < 256 then (some (wrap64 ((wrap64 (x2_1 + 16)) + (wrap64 (bt (⟨#[0, 1, 2, 2, 3, 3, 3, 3, 4, 4, 4, 4, 4, 4, 4, 4, 5, 5, 5, 5, 5, 5, 5, 5, 5, 5, 5, 5, 5, 5, 5, 5, 6, 6, 6, 6, 6, 6, 6, 6, 6, 6, 6, 6, 6, 6, 6, 6, 6, 6, 6, 6, 6, 6, 6, 6, 6, 6, 6, 6, 6, 6, 6, 6, 7, 7, 7, 7, 7, 7, 7, 7, 7, 7, 7, 7, 7, 7, 7, 7, 7, 7, 7, 7, 7, 7, 7, 7, 7, 7, 7, 7, 7, 7, 7, 7, 7, 7, 7, 7, 7, 7, 7, 7, 7, 7, 7, 7, 7, 7, 7, 7, 7, 7, 7, 7, 7, 7, 7, 7, 7, 7, 7, 7, 7, 7, 7, 7, 8, 8, 8, 8, 8, 8, 8, 8, 8, 8, 8, 8, 8, 8, 8, 8, 8, 8, 8, 8, 8, 8, 8, 8, 8, 8, 8, 8, 8, 8, 8, 8, 8, 8, 8, 8, 8, 8, 8, 8, 8, 8, 8, 8, 8, 8, 8, 8, 8, 8, 8, 8, 8, 8, 8, 8, 8, 8, 8, 8, 8, 8, 8, 8, 8, 8, 8, 8, 8, 8, 8, 8, 8, 8, 8, 8, 8, 8, 8, 8, 8, 8, 8, 8, 8, 8, 8, 8, 8, 8, 8, 8, 8, 8, 8, 8, 8, 8, 8, 8, 8, 8, 8, 8, 8, 8, 8, 8, 8, 8, 8, 8, 8, 8, 8, 8, 8, 8, 8, 8, 8, 8, 8, 8, 8, 8, 8, 8]⟩ : ByteArray) (ji10)))))) else (none)) else (none)) = some r := by first | (rw [hji10] at H; exact H) | (simp only [hji10] at H ⊢; exact H)
     by_cases c11 : 0 ≤ (ji10)
     ·rw [if_pos c11] at H
      have c11b0 : decide (0 ≤ (ji10)) = true := decide_eq_true c11
      clear c11
      by_cases c12 : (ji10) < 256
      ·rw [if_pos c12] at H
       have c12b0 : decide ((ji10) < 256) = true := decide_eq_true c12
       clear c12
       obtain rfl := Option.some.inj H
       have p13 : 0 ≤ ((ji10) : Int) := of_decide_eq_true (by first | (with_reducible assumption) | assumption)
       have q13 : (ji10) < (256 : Int) := of_decide_eq_true (by first | (with_reducible assumption) | assumption)
       have hx13 := bt_at (⟨#[0, 1, 2, 2, 3, 3, 3, 3, 4, 4, 4, 4, 4, 4, 4, 4, 5, 5, 5, 5, 5, 5, 5, 5, 5, 5, 5, 5, 5, 5, 5, 5, 6, 6, 6, 6, 6, 6, 6, 6, 6, 6, 6, 6, 6, 6, 6, 6, 6, 6, 6, 6, 6, 6, 6, 6, 6, 6, 6, 6, 6, 6, 6, 6, 7, 7, 7, 7, 7, 7, 7, 7, 7, 7, 7, 7, 7, 7, 7, 7, 7, 7, 7, 7, 7, 7, 7, 7, 7, 7, 7, 7, 7, 7, 7, 7, 7, 7, 7, 7, 7, 7, 7, 7, 7, 7, 7, 7, 7, 7, 7, 7, 7, 7, 7, 7, 7, 7, 7, 7, 7, 7, 7, 7, 7, 7, 7, 7, 8, 8, 8, 8, 8, 8, 8, 8, 8, 8, 8, 8, 8, 8, 8, 8, 8, 8, 8, 8, 8, 8, 8, 8, 8, 8, 8, 8, 8, 8, 8, 8, 8, 8, 8, 8, 8, 8, 8, 8, 8, 8, 8, 8, 8, 8, 8, 8, 8, 8, 8, 8, 8, 8, 8, 8, 8, 8, 8, 8, 8, 8, 8, 8, 8, 8, 8, 8, 8, 8, 8, 8, 8, 8, 8, 8, 8, 8, 8, 8, 8, 8, 8, 8, 8, 8, 8, 8, 8, 8, 8, 8, 8, 8, 8, 8, 8, 8, 8, 8, 8, 8, 8, 8, 8, 8, 8, 8, 8, 8, 8, 8, 8, 8, 8, 8, 8, 8, 8, 8, 8, 8, 8, 8, 8, 8, 8, 8]⟩ : ByteArray) (ji10)
       replace p13 := eq_true p13
       replace q13 := eq_true q13
       go_wp2
       go_ret
       exact ⟨by first | rfl | (simp; done) | (simp only [← hji10] <;> (first | rfl | simp)) | (simp [*]; done), by repeat (first | exact Drawn0.refl _ | apply Drawn0.step)⟩
      ·rw [if_neg c12] at H
       exact absurd H (by simp)
     ·rw [if_neg c11] at H
      exact absurd H (by simp)
   ·rw [if_neg c4] at H
    have c4b0 : decide (65536 ≤ x0_1) = false := decide_eq_false c4
    clear c4
    by_cases c14 : x0_1 ≥ 256
    ·rw [if_pos c14] at H
     have c14b0 : decide (256 ≤ x0_1) = true := decide_eq_true c14
     clear c14
     obtain ⟨ji15, hji15⟩ : ∃ j_ : Int, ((x0_1 / 256) % 256) = j_ := ⟨_, rfl⟩
     replace H : (if 0 ≤ (ji15) then (if (ji15) < 256 then (some (wrap64 ((wrap64 (x2_1 + 8)) + (wrap64 (bt (⟨#[0, 1, 2, 2, 3, 3, 3, 3, 4, 4, 4, 4, 4, 4, 4, 4, 5, 5, 5, 5, 5, 5, 5, 5, 5, 5, 5, 5, 5, 5, 5, 5, 6, 6, 6, 6, 6, 6, 6, 6, 6, 6, 6, 6, 6, 6, 6, 6, 6, 6, 6, 6, 6, 6, 6, 6, 6, 6, 6, 6, 6, 6, 6, 6, 7, 7, 7, 7, 7, 7, 7, 7, 7, 7, 7, 7, 7, 7, 7, 7, 7, 7, 7, 7, 7, 7, 7, 7, 7, 7, 7, 7, 7, 7, 7, 7, 7, 7, 7, 7, 7, 7, 7, 7, 7, 7, 7, 7, 7, 7, 7, 7, 7, 7, 7, 7, 7, 7, 7, 7, 7, 7, 7, 7, 7, 7, 7, 7, 8, 8, 8, 8, 8, 8, 8, 8, 8, 8, 8, 8, 8, 8, 8, 8, 8, 8, 8, 8, 8, 8, 8, 8, 8, 8, 8, 8, 8, 8, 8, 8, 8, 8, 8, 8, 8, 8, 8, 8, 8, 8, 8, 8, 8, 8, 8, 8, 8, 8, 8, 8, 8, 8, 8, 8, 8, 8, 8, 8, 8, 8, 8, 8, 8, 8, 8, 8, 8, 8, 8, 8, 8, 8, 8, 8, 8, 8, 8, 8, 8, 8, 8, 8, 8, 8, 8, 8, 8, 8, 8, 8, 8, 8, 8, 8, 8, 8, 8, 8, 8, 8, 8, 8, 8, 8, 8, 8, 8, 8, 8, 8, 8, 8, 8, 8, 8, 8, 8, 8, 8, 8, 8, 8, 8, 8, 8, 8]⟩ : ByteArray) (ji15)))))) else (none)) else (none)) = some r := by first | (rw [hji15] at H; exact H) | (simp only [hji15] at H ⊢; exact H)
     by_cases c16 : 0 ≤ (ji15)
     ·rw [if_pos c16] at H
      have c16b0 : decide (0 ≤ (ji15)) = true := decide_eq_true c16
      clear c16
      by_cases c17 : (ji15) < 256
      ·rw [if_pos c17] at H
       have c17b0 : decide ((ji15) < 256) = true := decide_eq_true c17
       clear c17
       obtain rfl := Option.some.inj H
       have p18 : 0 ≤ ((ji15) : Int) := of_decide_eq_true (by first | (with_reducible assumption) | assumption)
       have q18 : (ji15) < (256 : Int) := of_decide_eq_true (by first | (with_reducible assumption) | assumption)
       have hx18 := bt_at (⟨#[0, 1, 2, 2, 3, 3, 3, 3, 4, 4, 4, 4, 4, 4, 4, 4, 5, 5, 5, 5, 5, 5, 5, 5, 5, 5, 5, 5, 5, 5, 5, 5, 6, 6, 6, 6, 6, 6, 6, 6, 6, 6, 6, 6, 6, 6, 6, 6, 6, 6, 6, 6, 6, 6, 6, 6, 6, 6, 6, 6, 6, 6, 6, 6, 7, 7, 7, 7, 7, 7, 7, 7, 7, 7, 7, 7, 7, 7, 7, 7, 7, 7, 7, 7, 7, 7, 7, 7, 7, 7, 7, 7, 7, 7, 7, 7, 7, 7, 7, 7, 7, 7, 7, 7, 7, 7, 7, 7, 7, 7, 7, 7, 7, 7, 7, 7, 7, 7, 7, 7, 7, 7, 7, 7, 7, 7, 7, 7, 8, 8, 8, 8, 8, 8, 8, 8, 8, 8, 8, 8, 8, 8, 8, 8, 8, 8, 8, 8, 8, 8, 8, 8, 8, 8, 8, 8, 8, 8, 8, 8, 8, 8, 8, 8, 8, 8, 8, 8, 8, 8, 8, 8, 8, 8, 8, 8, 8, 8, 8, 8, 8, 8, 8, 8, 8, 8, 8, 8, 8, 8, 8, 8, 8, 8, 8, 8, 8, 8, 8, 8, 8, 8, 8, 8, 8, 8, 8, 8, 8, 8, 8, 8, 8, 8, 8, 8, 8, 8, 8, 8, 8, 8, 8, 8, 8, 8, 8, 8, 8, 8, 8, 8, 8, 8, 8, 8, 8, 8, 8, 8, 8, 8, 8, 8, 8, 8, 8, 8, 8, 8, 8, 8, 8, 8, 8, 8]⟩ : ByteArray) (ji15)
       replace p18 := eq_true p18
       replace q18 := eq_true q18
       go_wp2
       go_ret
       exact ⟨by first | rfl | (simp; done) | (simp only [← hji15] <;> (first | rfl | simp)) | (simp [*]; done), by repeat (first | exact Drawn0.refl _ | apply Drawn0.step)⟩
      ·rw [if_neg c17] at H
       exact absurd H (by simp)
     ·rw [if_neg c16] at H
      exact absurd H (by simp)
    ·rw [if_neg c14] at H
     have c14b0 : decide (256 ≤ x0_1) = false := decide_eq_false c14
     clear c14
     obtain ⟨ji19, hji19⟩ : ∃ j_ : Int, ((x0_1) % 256) = j_ := ⟨_, rfl⟩
     replace H : (if 0 ≤ (ji19) then (if (ji19) < 256 then (some (wrap64 (x2_1 + (wrap64 (bt (⟨#[0, 1, 2, 2, 3, 3, 3, 3, 4, 4, 4, 4, 4, 4, 4, 4, 5, 5, 5, 5, 5, 5, 5, 5, 5, 5, 5, 5, 5, 5, 5, 5, 6, 6, 6, 6, 6, 6, 6, 6, 6, 6, 6, 6, 6, 6, 6, 6, 6, 6, 6, 6, 6, 6, 6, 6, 6, 6, 6, 6, 6, 6, 6, 6, 7, 7, 7, 7, 7, 7, 7, 7, 7, 7, 7, 7, 7, 7, 7, 7, 7, 7, 7, 7, 7, 7, 7, 7, 7, 7, 7, 7, 7, 7, 7, 7, 7, 7, 7, 7, 7, 7, 7, 7, 7, 7, 7, 7, 7, 7, 7, 7, 7, 7, 7, 7, 7, 7, 7, 7, 7, 7, 7, 7, 7, 7, 7, 7, 8, 8, 8, 8, 8, 8, 8, 8, 8, 8, 8, 8, 8, 8, 8, 8, 8, 8, 8, 8, 8, 8, 8, 8, 8, 8, 8, 8, 8, 8, 8, 8, 8, 8, 8, 8, 8, 8, 8, 8, 8, 8, 8, 8, 8, 8, 8, 8, 8, 8, 8, 8, 8, 8, 8, 8, 8, 8, 8, 8, 8, 8, 8, 8, 8, 8, 8, 8, 8, 8, 8, 8, 8, 8, 8, 8, 8, 8, 8, 8, 8, 8, 8, 8, 8, 8, 8, 8, 8, 8, 8, 8, 8, 8, 8, 8, 8, 8, 8, 8, 8, 8, 8, 8, 8, 8, 8, 8, 8, 8, 8, 8, 8, 8, 8, 8, 8, 8, 8, 8, 8, 8, 8, 8, 8, 8, 8, 8]⟩ : ByteArray) (ji19)))))) else (none)) else (none)) = some r := by first | (rw [hji19] at H; exact H) | (simp only [hji19] at H ⊢; exact H)
     by_cases c20 : 0 ≤ (ji19)
     ·rw [if_pos c20] at H
      have c20b0 : decide (0 ≤ (ji19)) = true := decide_eq_true c20
      clear c20
      by_cases c21 : (ji19) < 256
      ·rw [if_pos c21] at H
       have c21b0 : decide ((ji19) < 256) = true := decide_eq_true c21
       clear c21
       obtain rfl := Option.some.inj H
       have p22 : 0 ≤ ((ji19) : Int) := of_decide_eq_true (by first | (with_reducible assumption) | assumption)
       have q22 : (ji19) < (256 : Int) := of_decide_eq_true (by first | (with_reducible assumption) | assumption)
       have hx22 := bt_at (⟨#[0, 1, 2, 2, 3, 3, 3, 3, 4, 4, 4, 4, 4, 4, 4, 4, 5, 5, 5, 5, 5, 5, 5, 5, 5, 5, 5, 5, 5, 5, 5, 5, 6, 6, 6, 6, 6, 6, 6, 6, 6, 6, 6, 6, 6, 6, 6, 6, 6, 6, 6, 6, 6, 6, 6, 6, 6, 6, 6, 6, 6, 6, 6, 6, 7, 7, 7, 7, 7, 7, 7, 7, 7, 7, 7, 7, 7, 7, 7, 7, 7, 7, 7, 7, 7, 7, 7, 7, 7, 7, 7, 7, 7, 7, 7, 7, 7, 7, 7, 7, 7, 7, 7, 7, 7, 7, 7, 7, 7, 7, 7, 7, 7, 7, 7, 7, 7, 7, 7, 7, 7, 7, 7, 7, 7, 7, 7, 7, 8, 8, 8, 8, 8, 8, 8, 8, 8, 8, 8, 8, 8, 8, 8, 8, 8, 8, 8, 8, 8, 8, 8, 8, 8, 8, 8, 8, 8, 8, 8, 8, 8, 8, 8, 8, 8, 8, 8, 8, 8, 8, 8, 8, 8, 8, 8, 8, 8, 8, 8, 8, 8, 8, 8, 8, 8, 8, 8, 8, 8, 8, 8, 8, 8, 8, 8, 8, 8, 8, 8, 8, 8, 8, 8, 8, 8, 8, 8, 8, 8, 8, 8, 8, 8, 8, 8, 8, 8, 8, 8, 8, 8, 8, 8, 8, 8, 8, 8, 8, 8, 8, 8, 8, 8, 8, 8, 8, 8, 8, 8, 8, 8, 8, 8, 8, 8, 8, 8, 8, 8, 8, 8, 8, 8, 8, 8, 8]⟩ : ByteArray) (ji19)
       replace p22 := eq_true p22
       replace q22 := eq_true q22
       go_wp2
       go_ret
       exact ⟨by first | rfl | (simp; done) | (simp only [← hji19] <;> (first | rfl | simp)) | (simp [*]; done), by repeat (first | exact Drawn0.refl _ | apply Drawn0.step)⟩
      ·rw [if_neg c21] at H
       exact absurd H (by simp)
     ·rw [if_neg c20] at H
      exact absurd H (by simp)

/-! ### varint_BitWidth: function 55 -/
def varint_BitWidth.f (k : Nat) (a0 : Int) : Option (Int) := (bits_Len64.f k a0).bind fun t101 => (some t101)
theorem varint_BitWidth.mono : ∀ a0 k, LeO (varint_BitWidth.f k a0) (varint_BitWidth.f (k + 1) a0) := by
 intro a0 k
 unfold varint_BitWidth.f
 repeat' first
   | (with_reducible exact bits_Len64.mono _ _)
   | (with_reducible exact LeO.refl _)
   | (with_reducible exact LeO.none _)
   | (with_reducible refine LeO.ite ?_ ?_)
   | (with_reducible refine LeO.bind ?_ (fun _ => ?_))
   | exact bits_Len64.mono _ _
   | exact LeO.none _
   | refine LeO.ite ?_ ?_
   | refine LeO.bind ?_ (fun _ => ?_)
set_option maxHeartbeats 8000000 in
set_option maxRecDepth 100000 in
theorem varint_BitWidth.calls (k : Nat) (a0 : Int) (r : Int) (w : World) (h : varint_BitWidth.f k a0 = some r) :
  Calls Try.prog 55 #[.int .u64 a0] w fun e w' => e = .returned (.int .i64 r) ∧ Drawn0 w w' := by
 have H : ((bits_Len64.f k a0).bind fun t101 => (some t101)) = some r := h
 clear h
 replace H := Option.bind_eq_some_iff.mp H
 obtain ⟨t101, A20, H⟩ := H
 replace H : (some t101) = some r := H
 have A2 := Aside0.mk A20
 clear A20
 obtain rfl := Option.some.inj H
 go_enter Try.func55, Try.ntmps55
 go_wp2_with (first | ((with_reducible refine gate_callee (f := 85) rfl ?_); refine goesL_ (some 4) rfl rfl Try.func85 (by kernel_rfl) rfl #[.int .u64 a0] rfl (by (try simp only [List.map_toArray, List.map_cons, List.map_nil]); first | done | rfl | (simp only [List.length_drop, List.length_take]; rfl)) ?_; (with_reducible refine (bits_Len64.calls k a0 t101 _ A2.out).mono ?_); rintro e w' ⟨rfl, ⟨nd, rfl⟩⟩; refine ⟨_, rfl, ?_⟩))
 go_ret
 exact ⟨by first | rfl | (simp; done) | (simp [*]; done), by repeat (first | exact Drawn0.refl _ | apply Drawn0.step)⟩

/-! ### bitpack_Width: function 19 -/
def bitpack_Width.l0 : Nat → List Int → Int → Int → Int → Option (Int)
 | 0, _, _, _, _ => none
 | k + 1, x0, x3, x6, x7 => if x7 < x6 then (if 0 ≤ x7 then (if x7 < (x0.length : Int) then ((varint_BitWidth.f k (rd x0 x7)).bind fun t103 => (bitpack_Width.l0 k x0 (mx x3 t103) x6 (wrap64 (x7 + 1)))) else (none)) else (none)) else (some x3)
def bitpack_Width.f (k : Nat) (l0 : List Int) : Option (Int) := bitpack_Width.l0 k l0 0 (l0.length : Int) 0
theorem bitpack_Width.mono_l : ∀ k, (∀ y0 y1 y2 y3, LeO (bitpack_Width.l0 k y0 y1 y2 y3) (bitpack_Width.l0 (k + 1) y0 y1 y2 y3))
 | 0 => fun _ _ _ _ r h => by simp [bitpack_Width.l0] at h
 | k + 1 => by
  have ih0 := bitpack_Width.mono_l k
  ·intro y0 y1 y2 y3
   unfold bitpack_Width.l0
   repeat' first
   | (with_reducible exact ih0 _ _ _ _)
   | (with_reducible exact varint_BitWidth.mono _ _)
   | (with_reducible exact LeO.refl _)
   | (with_reducible exact LeO.none _)
   | (with_reducible refine LeO.ite ?_ ?_)
   | (with_reducible refine LeO.bind ?_ (fun _ => ?_))
   | exact ih0 _ _ _ _
   | exact varint_BitWidth.mono _ _
   | exact LeO.none _
   | refine LeO.ite ?_ ?_
   | refine LeO.bind ?_ (fun _ => ?_)
theorem bitpack_Width.mono : ∀ a0 k, LeO (bitpack_Width.f k a0) (bitpack_Width.f (k + 1) a0) := by
 intro a0 k
 have ih0 := bitpack_Width.mono_l k
 unfold bitpack_Width.f
 repeat' first
   | (with_reducible exact ih0 _ _ _ _)
   | (with_reducible exact varint_BitWidth.mono _ _)
   | (with_reducible exact LeO.refl _)
   | (with_reducible exact LeO.none _)
   | (with_reducible refine LeO.ite ?_ ?_)
   | (with_reducible refine LeO.bind ?_ (fun _ => ?_))
   | exact ih0 _ _ _ _
   | exact varint_BitWidth.mono _ _
   | exact LeO.none _
   | refine LeO.ite ?_ ?_
   | refine LeO.bind ?_ (fun _ => ?_)
set_option maxHeartbeats 8000000 in
set_option maxRecDepth 100000 in
theorem bitpack_Width.calls (k : Nat) (A0 : Option Addr) (c0 : Nat) (l0 : List Int) (r : Int) (w : World) (hr0 : Kd.C (Kd.int .u64) w A0 l0.length l0) (hc0 : l0.length ≤ c0) (h : bitpack_Width.f k l0 = some r) :
  Calls Try.prog 19 #[.slice A0 l0.length c0] w fun e w' => e = .returned (.int .i64 r) ∧ Below w.heap.size w w' := by
 have HR0 := Aside0.mk hr0
 have HC0 := Aside0.mk hc0
 clear hr0 hc0
 have HB := Aside0.mk (Below.refl w.heap.size w)
 have H : (bitpack_Width.l0 k l0 0 (l0.length : Int) 0) = some r := h
 clear h
 have H' := Aside0.mk H
 clear H
 go_enter Try.func19, Try.ntmps19
 go_wp2
 go_loopg [3, 7] k (fun kq v3 v7 w' => ∃ (x3_1 : Int) (x7_1 : Int), v3 = .int .i64 x3_1 ∧ v7 = .int .i64 x7_1 ∧ Aside0 (bitpack_Width.l0 kq l0 x3_1 (l0.length : Int) x7_1 = some r) ∧ Aside0 (kq ≤ k) ∧ Aside0 (Below w.heap.size w w'))
 case atStart => exact ⟨(0), (0), (by first | rfl | (simp; done) | (simp [*]; done)), (by first | rfl | (simp; done) | (simp [*]; done)), H', ⟨Nat.le_refl _⟩, ⟨by repeat (first | (with_reducible first | exact HB.out | apply below_alloc | apply pw_below_drewN | apply below_drew1) | exact HB.out)⟩⟩
 case round =>
  clear H'
  try clear c1
  obtain ⟨x3_1, x7_1, rfl, rfl, HA, HK1, HB⟩ := hrel
  cases gk with
  | zero => exact absurd HA.out (by simp [bitpack_Width.l0])
  | succ k1 =>
   have H := HA.out
   clear HA
   simp only [bitpack_Width.l0] at H
   by_cases c2 : x7_1 < (l0.length : Int)
   ·rw [if_pos c2] at H
    have c2b0 : decide (x7_1 < (l0.length : Int)) = true := decide_eq_true c2
    clear c2
    by_cases c3 : 0 ≤ x7_1
    ·rw [if_pos c3] at H
     have c3b0 : decide (0 ≤ x7_1) = true := decide_eq_true c3
     clear c3
     by_cases c4 : x7_1 < (l0.length : Int)
     ·rw [if_pos c4] at H
      have c4b0 : decide (x7_1 < (l0.length : Int)) = true := decide_eq_true c4
      clear c4
      replace H := Option.bind_eq_some_iff.mp H
      obtain ⟨t103, A50, H⟩ := H
      replace H : (bitpack_Width.l0 k1 l0 (mx x3_1 t103) (l0.length : Int) (wrap64 (x7_1 + 1))) = some r := H
      have A5 := Aside0.mk A50
      clear A50
      obtain ⟨ji6, hji6⟩ : ∃ j_ : Int, (mx x3_1 t103) = j_ := ⟨_, rfl⟩
      replace H : (bitpack_Width.l0 k1 l0 ji6 (l0.length : Int) (wrap64 (x7_1 + 1))) = some r := by first | (rw [hji6] at H; exact H) | (simp only [hji6] at H ⊢; exact H)
      (try rw [hji6] at A5)
      have hji6_ : (if x3_1 < t103 then t103 else x3_1) = ji6 := hji6
      have H' := Aside0.mk H
      clear H
      have p102 : 0 ≤ (x7_1 : Int) := of_decide_eq_true (by first | (with_reducible assumption) | assumption)
      have q102 : x7_1 < (l0.length : Int) := of_decide_eq_true (by first | (with_reducible assumption) | assumption)
      obtain ⟨ad102, e102, hx102_0⟩ := Kd.at_int HR0.out x7_1 p102 q102
      cases e102
      replace hx102_0 := (HB.out.cell (World.block_lt_of_cell? w _ hx102_0)).trans hx102_0
      replace p102 := eq_true p102
      replace q102 := eq_true q102
      go_wp2_with (first | ((with_reducible refine gate_callee (f := 55) rfl ?_); refine goesL_ (some 15) rfl rfl Try.func55 (by kernel_rfl) rfl #[.int .u64 (rd l0 x7_1)] rfl (by (try simp only [List.map_toArray, List.map_cons, List.map_nil]); first | done | rfl | (simp only [List.length_drop, List.length_take]; rfl)) ?_; (with_reducible refine (varint_BitWidth.calls k1 (rd l0 x7_1) t103 _ A5.out).mono ?_); rintro e w' ⟨rfl, ⟨nd, rfl⟩⟩; refine ⟨_, rfl, ?_⟩))
      go_roundg k1
      case measure => have := HK1.out; omega
      case rel => exact ⟨(ji6), (wrap64 (x7_1 + 1)), (by first | rfl | (simp; done) | (simp only [← hji6] <;> (first | rfl | simp)) | (simp [*]; done)), (by first | rfl | (simp; done) | (simp [*]; done)), H', ⟨by have := HK1.out; omega⟩, ⟨by repeat (first | (with_reducible first | exact HB.out | apply below_alloc | apply pw_below_drewN | apply below_drew1) | exact HB.out)⟩⟩
     ·rw [if_neg c4] at H
      exact absurd H (by simp)
    ·rw [if_neg c3] at H
     exact absurd H (by simp)
   ·rw [if_neg c2] at H
    have c2b0 : decide (x7_1 < (l0.length : Int)) = false := decide_eq_false c2
    clear c2
    obtain rfl := Option.some.inj H
    go_wp2
    go_ret
    exact ⟨by first | rfl | (simp [errW_none, errW_some] <;> rfl) | (simp [*, errW_none, errW_some] <;> rfl), by repeat (first | (with_reducible first | exact HB.out | apply below_alloc | apply pw_below_drewN | apply below_drew1) | exact HB.out)⟩

/-! ### bitpack_inRange: function 57 -/
def bitpack_inRange.f (a0 : Int) (a1 : Int) : Option (Bool) := if a0 ≥ 0 then (if a0 ≤ 1048576 then (if a1 ≥ 0 then (some (decide (a1 ≤ 64))) else (some false)) else (some false)) else (some false)
set_option maxHeartbeats 8000000 in
set_option maxRecDepth 100000 in
theorem bitpack_inRange.calls (a0 : Int) (a1 : Int) (r : Bool) (w : World) (h : bitpack_inRange.f a0 a1 = some r) :
  Calls Try.prog 57 #[.int .i64 a0, .int .i64 a1] w fun e w' => e = .returned (.bool r) ∧ Drawn0 w w' := by
 have H : (if a0 ≥ 0 then (if a0 ≤ 1048576 then (if a1 ≥ 0 then (some (decide (a1 ≤ 64))) else (some false)) else (some false)) else (some false)) = some r := h
 clear h
 by_cases c3 : a0 ≥ 0
 ·rw [if_pos c3] at H
  have c3b0 : decide (0 ≤ a0) = true := decide_eq_true c3
  clear c3
  by_cases c4 : a0 ≤ 1048576
  ·rw [if_pos c4] at H
   have c4b0 : decide (a0 ≤ 1048576) = true := decide_eq_true c4
   clear c4
   by_cases c5 : a1 ≥ 0
   ·rw [if_pos c5] at H
    have c5b0 : decide (0 ≤ a1) = true := decide_eq_true c5
    clear c5
    obtain rfl := Option.some.inj H
    go_enter Try.func57, Try.ntmps57
    go_wp2
    go_ret
    exact ⟨by first | rfl | (simp; done) | (simp [*]; done), by repeat (first | exact Drawn0.refl _ | apply Drawn0.step)⟩
   ·rw [if_neg c5] at H
    have c5b0 : decide (0 ≤ a1) = false := decide_eq_false c5
    clear c5
    obtain rfl := Option.some.inj H
    go_enter Try.func57, Try.ntmps57
    go_wp2
    go_ret
    exact ⟨by first | rfl | (simp; done) | (simp [*]; done), by repeat (first | exact Drawn0.refl _ | apply Drawn0.step)⟩
  ·rw [if_neg c4] at H
   have c4b0 : decide (a0 ≤ 1048576) = false := decide_eq_false c4
   clear c4
   obtain rfl := Option.some.inj H
   go_enter Try.func57, Try.ntmps57
   go_wp2
   go_ret
   exact ⟨by first | rfl | (simp; done) | (simp [*]; done), by repeat (first | exact Drawn0.refl _ | apply Drawn0.step)⟩
 ·rw [if_neg c3] at H
  have c3b0 : decide (0 ≤ a0) = false := decide_eq_false c3
  clear c3
  obtain rfl := Option.some.inj H
  go_enter Try.func57, Try.ntmps57
  go_wp2
  go_ret
  exact ⟨by first | rfl | (simp; done) | (simp [*]; done), by repeat (first | exact Drawn0.refl _ | apply Drawn0.step)⟩

/-! ### bitpack_Size: function 21 -/
def bitpack_Size.f (a0 : Int) (a1 : Int) : Option (Int) := (bitpack_inRange.f a0 a1).bind fun t104 => (if t104 = true then (some (wrap64 (Int.tdiv (wrap64 ((wrap64 (a0 * a1)) + 7)) 8))) else (some 0))
set_option maxHeartbeats 8000000 in
set_option maxRecDepth 100000 in
theorem bitpack_Size.calls (a0 : Int) (a1 : Int) (r : Int) (w : World) (h : bitpack_Size.f a0 a1 = some r) :
  Calls Try.prog 21 #[.int .i64 a0, .int .i64 a1] w fun e w' => e = .returned (.int .i64 r) ∧ Drawn0 w w' := by
 have H : ((bitpack_inRange.f a0 a1).bind fun t104 => (if t104 = true then (some (wrap64 (Int.tdiv (wrap64 ((wrap64 (a0 * a1)) + 7)) 8))) else (some 0))) = some r := h
 clear h
 replace H := Option.bind_eq_some_iff.mp H
 obtain ⟨t104, A30, H⟩ := H
 replace H : (if t104 = true then (some (wrap64 (Int.tdiv (wrap64 ((wrap64 (a0 * a1)) + 7)) 8))) else (some 0)) = some r := H
 have A3 := Aside0.mk A30
 clear A30
 by_cases c4 : t104 = true
 ·subst c4
  have H1 : (some (wrap64 (Int.tdiv (wrap64 ((wrap64 (a0 * a1)) + 7)) 8))) = some r := by rw [if_pos rfl] at H; exact H
  clear H
  have H := H1
  clear H1
  obtain rfl := Option.some.inj H
  go_enter Try.func21, Try.ntmps21
  go_wp2_with (first | ((with_reducible refine gate_callee (f := 57) rfl ?_); refine goesL_ (some 7) rfl rfl Try.func57 (by kernel_rfl) rfl #[.int .i64 a0, .int .i64 a1] rfl (by (try simp only [List.map_toArray, List.map_cons, List.map_nil]); first | done | rfl | (simp only [List.length_drop, List.length_take]; rfl)) ?_; (with_reducible refine (bitpack_inRange.calls a0 a1 true _ A3.out).mono ?_); rintro e w' ⟨rfl, ⟨nd, rfl⟩⟩; refine ⟨_, rfl, ?_⟩))
  go_ret
  exact ⟨by first | rfl | (simp; done) | (simp [*]; done), by repeat (first | exact Drawn0.refl _ | apply Drawn0.step)⟩
 ·replace c4 := Bool.eq_false_iff.mpr c4
  subst c4
  have H1 : (some 0) = some r := by rw [if_neg (show ¬ (false = true) by decide)] at H; exact H
  clear H
  have H := H1
  clear H1
  obtain rfl := Option.some.inj H
  go_enter Try.func21, Try.ntmps21
  go_wp2_with (first | ((with_reducible refine gate_callee (f := 57) rfl ?_); refine goesL_ (some 7) rfl rfl Try.func57 (by kernel_rfl) rfl #[.int .i64 a0, .int .i64 a1] rfl (by (try simp only [List.map_toArray, List.map_cons, List.map_nil]); first | done | rfl | (simp only [List.length_drop, List.length_take]; rfl)) ?_; (with_reducible refine (bitpack_inRange.calls a0 a1 false _ A3.out).mono ?_); rintro e w' ⟨rfl, ⟨nd, rfl⟩⟩; refine ⟨_, rfl, ?_⟩))
  go_ret
  exact ⟨by first | rfl | (simp; done) | (simp [*]; done), by repeat (first | exact Drawn0.refl _ | apply Drawn0.step)⟩

/-! ### bitpack_Pack: function 23 -/
def bitpack_Pack.f (l0 : List Int) (a1 : Int) : Option (List Int) := if 0 ≤ a1 ∧ a1 ≤ 64 ∧ l0.length ≤ 1048576 then (if l0.all (fun x => decide (0 ≤ x) && decide (x < 18446744073709551616)) = true then some (packed l0 a1.toNat) else none) else some []
set_option maxHeartbeats 1000000 in
set_option maxRecDepth 100000 in
theorem bitpack_put (base bW bA bO width at_ : Nat) (n : Nat) (A : Option Addr) (cap : Nat) (xs : List Int) (w : World)
    (hW : w.heap[bW]? = some (.cells #[.int .i64 (width : Int)] 3 (0, 0))) (hA : w.heap[bA]? = some (.cells #[.int .i64 (at_ : Int)] 3 (0, 0))) (hO : w.heap[bO]? = some (.cells #[.slice A xs.length cap] 26 (0, 0)))
    (hR : Kd.R (Kd.int .u8) 5 w base (fun k => k ≠ bW ∧ k ≠ bA ∧ k ≠ bO) (.slice A xs.length cap) xs) (h1 : bW ≠ bA) (h2 : bW ≠ bO) (h3 : bA ≠ bO) (hbA : base ≤ bA)
    (hx : ∀ x ∈ xs, 0 ≤ x ∧ x < 256) (hle : le xs < 2 ^ at_) (hsz : at_ + width ≤ 8 * xs.length) (hmax : xs.length ≤ 140737488355328) (hw : width ≤ 64) (hn : n < 18446744073709551616) :
    Calls Try.prog 59 #[.int .u64 (n : Int), .pointer (some ⟨bW, 0, none⟩), .pointer (some ⟨bA, 0, none⟩), .pointer (some ⟨bO, 0, none⟩)] w fun e w' => e = .returned (.tuple #[]) ∧ ∃ ys : List Int, ys.length = xs.length ∧ (∀ x ∈ ys, 0 ≤ x ∧ x < 256) ∧ le ys = le xs + n % 2 ^ width * 2 ^ at_ ∧
      w'.heap[bW]? = some (.cells #[.int .i64 (width : Int)] 3 (0, 0)) ∧ w'.heap[bA]? = some (.cells #[.int .i64 ((at_ + width : Nat) : Int)] 3 (0, 0)) ∧ w'.heap[bO]? = some (.cells #[.slice A xs.length cap] 26 (0, 0)) ∧
      Kd.R (Kd.int .u8) 5 w' base (fun k => k ≠ bW ∧ k ≠ bA ∧ k ≠ bO) (.slice A xs.length cap) ys ∧ Below base w w' := by
  have HX := Aside0.mk hx
  have HR := Aside0.mk hR
  have HLE := Aside0.mk hle
  have cW : w.cell? ⟨bW, 0, none⟩ = some (.int .i64 (width : Int)) := by rw [blk_cell hW]; rfl
  clear hx hR hle
  go_enter Try.func59, Try.ntmps59
  go_wp2
  clear cW
  go_loopw [0, 5] (fun v0 v5 wr => ∃ d l a m : Nat, ∃ ys : List Int, Aside0 (d + l = width) ∧ l ≤ 64 ∧ Aside0 (a = at_ + d) ∧ Aside0 (m = n / 2 ^ d) ∧ m < 18446744073709551616 ∧ v0 = .int .u64 (m : Int) ∧ v5 = .int .i64 (l : Int) ∧ Aside0 (ys.length = xs.length) ∧ Aside0 (∀ x ∈ ys, 0 ≤ x ∧ x < 256) ∧ Aside0 (le ys = le xs + n % 2 ^ d * 2 ^ at_) ∧
      wr.heap[bW]? = some (.cells #[.int .i64 (width : Int)] 3 (0, 0)) ∧ wr.heap[bA]? = some (.cells #[.int .i64 (a : Int)] 3 (0, 0)) ∧ wr.heap[bO]? = some (.cells #[.slice A xs.length cap] 26 (0, 0)) ∧
      Aside0 (Kd.R (Kd.int .u8) 5 wr base (fun k => k ≠ bW ∧ k ≠ bA ∧ k ≠ bO) (.slice A xs.length cap) ys) ∧ Below base w wr) (fun _ v5 _ => (intOf v5).toNat)
  case atStart => exact ⟨0, width, at_, n, xs, ⟨by omega⟩, hw, ⟨rfl⟩, ⟨by simp⟩, hn, rfl, rfl, ⟨rfl⟩, HX, ⟨by simp [Nat.mod_one]⟩, hW, hA, hO, HR, Below.refl _ _⟩
  case round =>
    obtain ⟨d, l, a, m, ys, hd, hl, ha, hm, hm64, rfl, rfl, hyl, HY, HL, kW, kA, kO, HRy, hb⟩ := hrel
    by_cases hlt : 0 < l
    · obtain ⟨r, hr⟩ : ∃ r : Nat, r = a % 8 := ⟨_, rfl⟩
      obtain ⟨j, hj⟩ : ∃ j : Nat, j = a / 8 := ⟨_, rfl⟩
      have hr7 : r ≤ 7 := by omega
      have hjl : j < xs.length := by have := ha.out; have := hd.out; omega
      have ham : a ≤ 8 * xs.length := by have := ha.out; have := hd.out; omega
      have er : (a : Int) % 8 = (r : Int) := by omega
      have ej : (a : Int) / 8 = (j : Int) := by omega
      have HRJ := Aside0.mk (And.intro hr hj)
      clear hr hj
      obtain ⟨g, c0, hv, _, hglt, _⟩ := Kd.R_form HRy.out (by have := hyl.out; omega)
      obtain ⟨rfl, rfl⟩ : A = some ⟨g, 0, none⟩ ∧ cap = c0 := by injection hv with e1 e2 e3; exact ⟨e1, e3⟩
      clear hv
      have hyv : ys.getD j 0 = ((le ys / 256 ^ j % 256 : Nat) : Int) := le_get ys j HY.out
      obtain ⟨hcy, hfy⟩ := Kd.R_cell (0 : Int) (show Kd.R (Kd.int .u8) 5 wr base (fun k => k ≠ bW ∧ k ≠ bA ∧ k ≠ bO) (.slice (some ⟨g, 0, none⟩) ys.length cap) ys by rw [hyl.out]; exact HRy.out) (j : Int) (by omega) (by have := hyl.out; omega)
      obtain ⟨y, hy⟩ : ∃ y : Nat, y = le ys / 256 ^ j % 256 := ⟨_, rfl⟩
      have hcy' : wr.cell? ⟨g, j, none⟩ = some (.int .u8 (y : Int)) := by
        have : rdOf (0 : Int) ys (j : Int) = (y : Int) := by rw [hy, ← hyv]; simp [rdOf]
        rw [← this]; simpa using hcy
      have hfy' : wr.frozen? ⟨g, j, none⟩ = false := by simpa using hfy
      have HYV := Aside0.mk hy
      clear hcy hfy hyv hy
      have cA : wr.cell? ⟨bA, 0, none⟩ = some (.int .i64 (a : Int)) := by rw [blk_cell kA]; rfl
      have cO : wr.cell? ⟨bO, 0, none⟩ = some (.slice (some ⟨g, 0, none⟩) xs.length cap) := by rw [blk_cell kO]; rfl
      have fA : wr.frozen? ⟨bA, 0, none⟩ = false := blk_frozen kA 0
      have ew : IntKind.i64.wrap (j : Int) = (j : Int) := IntWalk.i64_in _ (by omega)
      have hg := HRy.out.1 g (by simp [Value.ownBlock])
      have hgn : g ≠ bA := hg.2.1
      have hgb := Kd.R_base HRy.out g (by simp [Value.ownBlock])
      have fin : ∀ t : Nat, r + t ≤ 8 → t ≤ l → 1 ≤ t → ∃ (d l_1 a_1 m_1 : Nat) (ys : List Int), Aside0 (d + l_1 = width) ∧ l_1 ≤ 64 ∧ Aside0 (a_1 = at_ + d) ∧ Aside0 (m_1 = n / 2 ^ d) ∧ m_1 < 18446744073709551616 ∧ Value.int .u64 ((m : Int) / 2 ^ t) = .int .u64 (m_1 : Int) ∧ Value.int .i64 ((l : Int) - t) = .int .i64 (l_1 : Int) ∧ Aside0 (ys.length = xs.length) ∧ Aside0 (∀ x ∈ ys, 0 ≤ x ∧ x < 256) ∧ Aside0 (le ys = le xs + n % 2 ^ d * 2 ^ at_) ∧
          ((wr.setCell ⟨g, j, none⟩ (.int .u8 (bits .or .u8 (y : Int) (bits .and .u64 (m : Int) (IntKind.u64.wrap (IntKind.u64.wrap (2 ^ t) - 1)) % 256 * 2 ^ r % 256)))).setCell ⟨bA, 0, none⟩ (.int .i64 ((a : Int) + t))).drew.heap[bW]? = some (.cells #[.int .i64 (width : Int)] 3 (0, 0)) ∧
          ((wr.setCell ⟨g, j, none⟩ (.int .u8 (bits .or .u8 (y : Int) (bits .and .u64 (m : Int) (IntKind.u64.wrap (IntKind.u64.wrap (2 ^ t) - 1)) % 256 * 2 ^ r % 256)))).setCell ⟨bA, 0, none⟩ (.int .i64 ((a : Int) + t))).drew.heap[bA]? = some (.cells #[.int .i64 (a_1 : Int)] 3 (0, 0)) ∧
          ((wr.setCell ⟨g, j, none⟩ (.int .u8 (bits .or .u8 (y : Int) (bits .and .u64 (m : Int) (IntKind.u64.wrap (IntKind.u64.wrap (2 ^ t) - 1)) % 256 * 2 ^ r % 256)))).setCell ⟨bA, 0, none⟩ (.int .i64 ((a : Int) + t))).drew.heap[bO]? = some (.cells #[.slice (some ⟨g, 0, none⟩) xs.length cap] 26 (0, 0)) ∧
          Aside0 (Kd.R (Kd.int .u8) 5 ((wr.setCell ⟨g, j, none⟩ (.int .u8 (bits .or .u8 (y : Int) (bits .and .u64 (m : Int) (IntKind.u64.wrap (IntKind.u64.wrap (2 ^ t) - 1)) % 256 * 2 ^ r % 256)))).setCell ⟨bA, 0, none⟩ (.int .i64 ((a : Int) + t))).drew base (fun k => k ≠ bW ∧ k ≠ bA ∧ k ≠ bO) (.slice (some ⟨g, 0, none⟩) xs.length cap) ys) ∧
          Below base w ((wr.setCell ⟨g, j, none⟩ (.int .u8 (bits .or .u8 (y : Int) (bits .and .u64 (m : Int) (IntKind.u64.wrap (IntKind.u64.wrap (2 ^ t) - 1)) % 256 * 2 ^ r % 256)))).setCell ⟨bA, 0, none⟩ (.int .i64 ((a : Int) + t))).drew := by
        intro t k3 k1 k4
        have hylt : y < 2 ^ r := by
          rw [HYV.out, HRJ.out.1, HRJ.out.2]
          exact byte_lt _ _ (by rw [HL.out]; exact put_lt _ _ _ _ _ HLE.out ha.out)
        obtain ⟨hb1, hb2⟩ := put_byte m y r t hm64 k3 hylt
        rw [hb1]
        have hjl2 : j < ys.length := by have := hyl.out; omega
        have hle2 := put_le ys (le xs) n at_ d a r j t y m HRJ.out.1 HRJ.out.2 ha.out hm.out HL.out hjl2 HYV.out HY.out
        have hRp := (Kd.R_put (enc := Value.int .u8) (h1 := fun _ => rfl) (show Kd.R (Kd.int .u8) 5 wr base (fun k => k ≠ bW ∧ k ≠ bA ∧ k ≠ bO) (.slice (some ⟨g, 0, none⟩) ys.length cap) ys by rw [hyl.out]; exact HRy.out) (j : Int) ((y + m % 2 ^ t * 2 ^ r : Nat) : Int)).1
        rw [Int.toNat_natCast, hyl.out] at hRp
        refine ⟨d + t, l - t, a + t, m / 2 ^ t, ys.set j ((y + m % 2 ^ t * 2 ^ r : Nat) : Int), ⟨by have := hd.out; omega⟩, by omega, ⟨by have := ha.out; omega⟩, ⟨by rw [hm.out, Nat.div_div_eq_div_mul, Nat.pow_add]⟩, Nat.lt_of_le_of_lt (Nat.div_le_self _ _) hm64, by simp, by rw [Int.natCast_sub k1], ⟨by rw [List.length_set]; exact hyl.out⟩, ⟨?_⟩, ⟨hle2⟩, ?_, ?_, ?_, ⟨?_⟩, ?_⟩
        · intro x hx
          rcases List.mem_or_eq_of_mem_set hx with h | h
          · exact HY.out x h
          · rw [h]; omega
        · exact blk_drew (blk_far (blk_far kW (Ne.symm hg.1) _) h1 _)
        · rw [show ((a + t : Nat) : Int) = (a : Int) + t by simp]
          exact blk_drew (blk_put (blk_far kA (Ne.symm hg.2.1) _) 0 _ rfl)
        · exact blk_drew (blk_far (blk_far kO (Ne.symm hg.2.2) _) (Ne.symm h3) _)
        · exact Kd.R_drew (Kd.R_far hRp (p := ⟨bA, 0, none⟩) (fun k hk => hk.2.1) _)
        · exact below_drew ((hb.setCell hgb _).setCell hbA _)
      have FIN := Aside0.mk fin
      clear fin
      by_cases hmn : 8 - r ≤ l
      · obtain ⟨t, ht⟩ : ∃ t : Nat, t = 8 - r := ⟨_, rfl⟩
        have et : 8 - (r : Int) = (t : Int) := by omega
        have k1 : (t : Int) ≤ (l : Int) := by omega
        have k2 : t ≤ 8 := by omega
        have k3 : r + t ≤ 8 := by omega
        have k4 : 1 ≤ t := by omega
        clear ht hmn
        go_wp2
        go_region
        go_wp2
        refine ⟨FIN.out t k3 (by omega) k4, ?_⟩
        simp [intOf]; omega
      · obtain ⟨t, ht⟩ : ∃ t : Nat, t = l := ⟨_, rfl⟩
        have et : (t : Int) < 8 - (r : Int) := by omega
        have k1 : t ≤ l := by omega
        have k2 : t ≤ 8 := by omega
        have k3 : r + t ≤ 8 := by omega
        have k4 : 1 ≤ t := by omega
        have hF := FIN.out t k3 k1 k4
        subst ht
        have HF := Aside0.mk hF
        clear hmn hF
        go_wp2
        go_region
        go_wp2
        refine ⟨by have h9 := HF.out; simp only [Int.sub_self] at h9; exact h9, ?_⟩
        simp [intOf]; omega
    · obtain rfl : l = 0 := by omega
      go_wp2
      go_end0
      have hdw : d = width := by have := hd.out; omega
      subst hdw
      exact ⟨rfl, ys, hyl.out, HY.out, HL.out, kW, by rw [ha.out] at kA; exact kA, kO, HRy.out, hb⟩
theorem blk_at (w : World) (o : Obj) (g : Nat) (h : g = w.heap.size) : (w.alloc o).heap[g]? = some o := by subst h; exact blk_new w o
theorem take_snoc (l : List Int) (i : Nat) (h : i < l.length) : l.take (i + 1) = l.take i ++ [l.getD i 0] := by
  rw [List.take_succ_eq_append_getElem h]; simp [List.getD, List.getElem?_eq_getElem h]
theorem pack_size (n w : Nat) (hn : n ≤ 1048576) (hw : w ≤ 64) : bitpack_inRange.f (n : Int) (w : Int) = some true ∧ bitpack_Size.f (n : Int) (w : Int) = some ((pbytes n w : Nat) : Int) := by
  have h1 : bitpack_inRange.f (n : Int) (w : Int) = some true := by
    unfold bitpack_inRange.f
    rw [if_pos (by omega), if_pos (by omega), if_pos (by omega), decide_eq_true (by omega)]
  refine ⟨h1, ?_⟩
  have hm : n * w ≤ 1048576 * 64 := Nat.mul_le_mul hn hw
  have e1 : ((n : Int) * (w : Int)) = ((n * w : Nat) : Int) := by simp
  unfold bitpack_Size.f
  rw [h1]
  simp only [Option.bind_some, if_true]
  rw [e1, w64 ((n * w : Nat) : Int) (by omega) (by omega), w64 (((n * w : Nat) : Int) + 7) (by omega) (by omega), Int.tdiv_eq_ediv_of_nonneg (by omega), w64 _ (by omega) (by omega)]
  unfold pbytes
  congr 1
theorem pbytes_le (n w : Nat) (hn : n ≤ 1048576) (hw : w ≤ 64) : pbytes n w ≤ 8388608 := by
  have hm : n * w ≤ 1048576 * 64 := Nat.mul_le_mul hn hw
  unfold pbytes; omega
set_option maxHeartbeats 1000000 in
set_option maxRecDepth 100000 in
theorem bitpack_Pack.calls (A0 : Option Addr) (c0 : Nat) (l0 : List Int) (a1 : Int) (r : List Int) (w : World) (hr0 : Kd.C (Kd.int .u64) w A0 l0.length l0) (hc0 : l0.length ≤ c0) (h : bitpack_Pack.f l0 a1 = some r) :
    Calls Try.prog 23 #[.slice A0 l0.length c0, .int .i64 a1] w fun e w' => ∃ v0_ : Value, e = .returned (v0_) ∧ Kd.R (Kd.int .u8) 5 w' w.heap.size (fun _ => True) v0_ r ∧ Below w.heap.size w w' := by
  have hmf : ∀ (fn : Fn) (first cap : Array Value) (w : World), (Instr.makeFunc fn first cap).run Try.prog w = .ok (.func fn first cap) w := fun _ _ _ _ => rfl
  have hmx := Kd.C_max hr0
  by_cases hc : 0 ≤ a1 ∧ a1 ≤ 64 ∧ l0.length ≤ 1048576
  · unfold bitpack_Pack.f at h
    rw [if_pos hc] at h
    split at h
    case isFalse => cases h
    case isTrue hu =>
    obtain rfl := Option.some.inj h
    obtain ⟨hc1, hc2, hc3⟩ := hc
    obtain ⟨W, rfl⟩ := Int.eq_ofNat_of_zero_le hc1
    obtain ⟨hi1, hi2⟩ := pack_size l0.length W hc3 (by omega)
    have hpl := pbytes_le l0.length W hc3 (by omega)
    obtain ⟨S, hS⟩ : ∃ S : Nat, S = pbytes l0.length W := ⟨_, rfl⟩
    rw [← hS] at hi2 hpl
    have HS := Aside0.mk hS
    have HI1 := Aside0.mk hi1
    have HI2 := Aside0.mk hi2
    have HR := Aside0.mk hr0
    have HU := Aside0.mk hu
    rw [Int.toNat_natCast]
    clear hr0 h hi1 hi2 hS hu hc1
    go_enter Try.func23, Try.ntmps23
    go_wp2_with (first
      | (go_at_call 57; refine (bitpack_inRange.calls _ _ true _ HI1.out).mono ?_; rintro e w' ⟨rfl, ⟨nd, rfl⟩⟩)
      | (go_at_call 21; refine (bitpack_Size.calls _ _ _ _ HI2.out).mono ?_; rintro e w' ⟨rfl, ⟨nd2, rfl⟩⟩)
      | ((with_reducible refine gate_dst (N := 18) rfl ?_); refine Kd.R_make (Kd.int .u8) (w.heap.size + 1) 5 rfl (N := 18) rfl 26 _ _ rfl (S : Int) rfl rfl Try.underlying26 (.int .u8 0) 1 info5 rfl (by decide) (by omega) 0 (ok := fun k => w.heap.size + 1 ≤ k) (okp := fun _ => False) rfl (fun _ h => h.elim) (by simp) (by omega) (by omega) (Below.refl _ _) (by simp) ?_; intro v1 w1 hR1 hb1 hg1 hat1; (generalize hz : List.replicate (S : Int).toNat (0 : Int) = zs at hR1); have HZ := Aside0.mk hz; clear hz; obtain ⟨vA, vc, rfl⟩ := Kd.R_slice hR1))
    have hH := hb1.size
    have hHs : w.heap.size + 1 ≤ w1.heap.size := by have := hg1.size; simpa using this
    have hB0 : w1.heap[w.heap.size]? = some (.cells #[.int .i64 (W : Int)] 3 (0, 0)) := blk_grown (blk_drewN (blk_new _ _) _) hg1 (by simp)
    go_loopw [22] (fun v22 wr => ∃ (i p : Nat) (ys : List Int), i ≤ l0.length ∧ v22 = .int .i64 (i : Int) ∧ Aside0 (p = W * i) ∧ Aside0 (ys.length = zs.length) ∧ Aside0 (∀ x ∈ ys, 0 ≤ x ∧ x < 256) ∧ Aside0 (le ys = packN W (l0.take i)) ∧
      wr.heap[w.heap.size]? = some (.cells #[.int .i64 (W : Int)] 3 (0, 0)) ∧ wr.heap[w1.heap.size + 1]? = some (.cells #[.int .i64 (p : Int)] 3 (0, 0)) ∧ wr.heap[w1.heap.size]? = some (.cells #[.slice vA zs.length vc] 26 (0, 0)) ∧
      Aside0 (Kd.R (Kd.int .u8) 5 wr w.heap.size (fun k => k ≠ w.heap.size ∧ k ≠ w1.heap.size + 1 ∧ k ≠ w1.heap.size) (.slice vA zs.length vc) ys) ∧ Below w.heap.size w wr) (fun v22 _ => l0.length - (intOf v22).toNat)
    case atStart =>
      refine ⟨0, 0, zs, Nat.zero_le _, rfl, ⟨by simp⟩, ⟨rfl⟩, ⟨?_⟩, ⟨?_⟩, blk_alloc (blk_alloc hB0 _) _, blk_at _ _ _ (by simp), blk_alloc (blk_at _ _ _ rfl) _, ⟨Kd.R_alloc (Kd.R_alloc (Kd.R_lower (Kd.R_mono (Kd.R_bound hR1) (fun k hk => by omega)) (by omega)) _) _⟩, ?_⟩
      · intro x hx; rw [← HZ.out] at hx; have := List.eq_of_mem_replicate hx; omega
      · rw [← HZ.out, le_zeros]; rfl
      · exact below_alloc (below_alloc ((pw_below_drewN (below_alloc (Below.refl _ _) _) _).trans (hb1.mono (by omega))) _) _
    case round =>
      obtain ⟨i, p, ys, hi, rfl, hp, hyl, HY, HL, kW, kA, kO, HRy, hb⟩ := hrel
      by_cases hlt : i < l0.length
      · obtain ⟨ad, rfl, hcx⟩ := Kd.at_int HR.out (i : Int) (by omega) (by omega)
        have hcx' := pw_cell_below hb hcx
        rw [Int.toNat_natCast] at hcx'
        have hu1 : 0 ≤ rd l0 (i : Int) ∧ rd l0 (i : Int) < 18446744073709551616 := by
          have h1 := HU.out
          simp only [List.all_eq_true, Bool.and_eq_true, decide_eq_true_eq] at h1
          exact h1 _ (by rw [rd_nat, List.getD_eq_getElem?_getD, List.getElem?_eq_getElem hlt]; exact List.getElem_mem _)
        obtain ⟨n, hn⟩ : ∃ n : Nat, rd l0 (i : Int) = (n : Int) := ⟨(rd l0 (i : Int)).toNat, by omega⟩
        have hn64 : n < 18446744073709551616 := by omega
        rw [hn] at hcx'
        have HN := Aside0.mk hn
        clear hcx hu1 hn
        have hlt' : (i : Int) < (l0.length : Int) := by omega
        have hzS : zs.length = S := by rw [← HZ.out]; simp
        have HZS := Aside0.mk hzS
        clear hzS
        go_wp2_with (go_at_call 59; refine (bitpack_put w.heap.size w.heap.size (w1.heap.size + 1) w1.heap.size W p n vA vc ys _ kW kA (by rw [hyl.out]; exact kO) (by rw [hyl.out]; exact HRy.out) (by omega) (by omega) (by omega) (by omega) HY.out ?c1 ?c2 ?c3 (by omega) hn64).mono ?_)
        case c1 =>
          rw [HL.out, hp.out]
          have := packN_lt W (l0.take i)
          rwa [List.length_take, Nat.min_eq_left (by omega)] at this
        case c2 =>
          have h1 := hp.out; have h2 := hyl.out; have h3 := HZS.out; have h4 := HS.out
          rw [h2, h3, h4, h1]
          unfold pbytes
          have h5 : W * i + W ≤ l0.length * W := by rw [← Nat.mul_succ, Nat.mul_comm]; exact Nat.mul_le_mul_right _ hlt
          omega
        case c3 => have h2 := hyl.out; have h3 := HZS.out; omega
        rintro e w2 ⟨rfl, ys2, q1, q2, q3, q4, q5, q6, q7, q8⟩
        go_wp2
        go_roundw
        case rel =>
          refine ⟨i + 1, p + W, ys2, by omega, by go_num, ⟨by rw [hp.out, Nat.mul_succ]⟩, ⟨by rw [q1, hyl.out]⟩, ⟨q2⟩, ⟨?_⟩, q4, q5, by rw [hyl.out] at q6; exact q6, ⟨by rw [hyl.out] at q7; exact q7⟩, hb.trans q8⟩
          rw [q3, HL.out, take_snoc l0 i hlt, packN_snoc, hp.out, List.length_take, Nat.min_eq_left (by omega)]
          have h1 := HN.out
          rw [rd_nat] at h1
          rw [h1, Int.toNat_natCast]
        case measure => simp [intOf]; omega
      · have hil : i = l0.length := by omega
        subst hil
        have cO : wr.cell? ⟨w1.heap.size, 0, none⟩ = some (.slice vA zs.length vc) := by rw [blk_cell kO]; rfl
        have hpk : ys = packed l0 W := by
          unfold packed
          have h1 := HL.out
          rw [List.take_length] at h1
          rw [← h1, ← HS.out, ← show ys.length = S by rw [hyl.out, ← HZ.out]; simp]
          exact (fixed_le ys HY.out).symm
        have HPK := Aside0.mk hpk
        clear hpk
        go_wp2
        go_ret
        exact ⟨_, rfl, by rw [← HPK.out]; exact Kd.R_mono HRy.out (fun _ _ => trivial), hb⟩
  · unfold bitpack_Pack.f at h
    rw [if_neg hc] at h
    obtain rfl := Option.some.inj h
    have hi1 : bitpack_inRange.f (l0.length : Int) a1 = some false := by
      unfold bitpack_inRange.f
      rw [if_pos (by omega)]
      by_cases k1 : (l0.length : Int) ≤ 1048576
      · rw [if_pos k1]
        by_cases k2 : a1 ≥ 0
        · rw [if_pos k2, decide_eq_false (by omega)]
        · rw [if_neg k2]
      · rw [if_neg k1]
    have HI1 := Aside0.mk hi1
    clear hi1 h hc
    go_enter Try.func23, Try.ntmps23
    go_wp2_with (go_at_call 57; refine (bitpack_inRange.calls _ _ false _ HI1.out).mono ?_; rintro e w' ⟨rfl, ⟨nd, rfl⟩⟩)
    go_ret
    exact ⟨_, rfl, Kd.R_nil _ _ _ _ _, pw_below_drewN (below_alloc (Below.refl _ _) _) _⟩

/-! ### bitpack_read: function 60 -/
def okbytes (l : List Int) : Bool := l.all fun x => decide (0 ≤ x) && decide (x < 256)
theorem okbytes_all {l : List Int} (h : okbytes l = true) : ∀ x ∈ l, 0 ≤ x ∧ x < 256 := by
  intro x hx
  simp only [okbytes, List.all_eq_true, Bool.and_eq_true, decide_eq_true_eq] at h
  exact h x hx
def bitpack_read.f (l0 : List Int) (a1 : Int) (a2 : Int) : Option (Int) := if okbytes l0 = true ∧ 0 ≤ a1 ∧ 0 ≤ a2 ∧ a2 ≤ 64 ∧ a1 + a2 ≤ 8 * (l0.length : Int) ∧ (l0.length : Int) ≤ 140737488355328 then some ((le l0 / 2 ^ a1.toNat % 2 ^ a2.toNat : Nat) : Int) else none
set_option maxHeartbeats 1000000 in
set_option maxRecDepth 100000 in
theorem bitpack_read.calls (A0 : Option Addr) (c0 : Nat) (l0 : List Int) (a1 : Int) (a2 : Int) (r : Int) (w : World) (hr0 : Kd.C (Kd.int .u8) w A0 l0.length l0) (hc0 : l0.length ≤ c0) (h : bitpack_read.f l0 a1 a2 = some r) :
    Calls Try.prog 60 #[.slice A0 l0.length c0, .int .i64 a1, .int .i64 a2] w fun e w' => e = .returned (.int .u64 r) ∧ Drawn0 w w' := by
  unfold bitpack_read.f at h
  split at h
  case isFalse => cases h
  case isTrue hc =>
  obtain ⟨hok, h1, h2, h3, h4, h5⟩ := hc
  obtain rfl := Option.some.inj h
  obtain ⟨p, rfl⟩ := Int.eq_ofNat_of_zero_le h1
  obtain ⟨W, rfl⟩ := Int.eq_ofNat_of_zero_le h2
  simp only [Int.toNat_natCast]
  have HR := Aside0.mk hr0
  have HOK := Aside0.mk (okbytes_all hok)
  clear hr0 hok h h1 h2
  go_enter Try.func60, Try.ntmps60
  go_wp2
  go_loopw [1, 7, 8] (fun v1 v7 v8 wr => Drawn0 w wr ∧ ∃ g a : Nat, ∃ x : Int, g ≤ W ∧ Aside0 (a = p + g) ∧ Aside0 (x = ((le l0 / 2 ^ p % 2 ^ g : Nat) : Int)) ∧ v1 = .int .i64 (a : Int) ∧ v8 = .int .i64 (g : Int) ∧ v7 = .int .u64 x) (fun _ _ v8 _ => W - (intOf v8).toNat)
  case atStart => exact ⟨Drawn0.refl _, 0, p, 0, Nat.zero_le _, ⟨rfl⟩, ⟨by simp [Nat.mod_one]⟩, rfl, rfl, rfl⟩
  case round =>
    obtain ⟨⟨m, rfl⟩, g, a, x, hg, ha, hx, rfl, rfl, rfl⟩ := hrel
    by_cases hlt : g < W
    · obtain ⟨r, hr⟩ : ∃ r : Nat, r = a % 8 := ⟨_, rfl⟩
      obtain ⟨j, hj⟩ : ∃ j : Nat, j = a / 8 := ⟨_, rfl⟩
      have hr7 : r ≤ 7 := by omega
      have hjl : j < l0.length := by have := ha.out; omega
      have ham : a ≤ 8 * l0.length := by have := ha.out; omega
      have er : (a : Int) % 8 = (r : Int) := by omega
      have ej : (a : Int) / 8 = (j : Int) := by omega
      have HRJ := Aside0.mk (And.intro hr hj)
      clear hr hj
      obtain ⟨ad, rfl, hcx⟩ := Kd.at_int HR.out (j : Int) (by omega) (by omega)
      have hcx' : w.cell? (ad.add j) = some (.int .u8 (rd l0 (j : Int))) := by simpa using hcx
      obtain ⟨y, hy⟩ : ∃ y : Int, y = rd l0 (j : Int) := ⟨_, rfl⟩
      rw [← hy] at hcx'
      have HY := Aside0.mk hy
      clear hcx hy
      have ew : IntKind.i64.wrap (j : Int) = (j : Int) := IntWalk.i64_in _ (by omega)
      have hyv : y = ((le l0 / 256 ^ j % 256 : Nat) : Int) := by
        rw [HY.out, ← le_get l0 j HOK.out]; simp [rd]
      have HYV := Aside0.mk hyv
      clear hyv
      by_cases hmn : 8 - r ≤ W - g
      · obtain ⟨t, ht⟩ : ∃ t : Nat, t = 8 - r := ⟨_, rfl⟩
        have et : 8 - (r : Int) = (t : Int) := by omega
        have k1 : (t : Int) ≤ (W : Int) - g := by omega
        have k2 : t ≤ 8 := by omega
        have k3 : r + t ≤ 8 := by omega
        have k4 : 1 ≤ t := by omega
        clear ht hmn
        go_wp2
        go_quiet (fail)
        go_wp2
        refine ⟨⟨(Drawn0.refl _).step _, g + t, a + t, _, by omega, ⟨by rw [ha.out, Nat.add_assoc]⟩, ⟨read_step (le l0) p g a r j t x y ha.out HRJ.out.1 HRJ.out.2 hx.out HYV.out k3 (by omega)⟩, by simp, by simp, rfl⟩, ?_⟩
        simp [intOf]; omega
      · obtain ⟨t, ht⟩ : ∃ t : Nat, t = W - g := ⟨_, rfl⟩
        have et : (W : Int) - (g : Int) = (t : Int) := by omega
        have k1 : (t : Int) < 8 - (r : Int) := by omega
        have k2 : t ≤ 8 := by omega
        have k3 : r + t ≤ 8 := by omega
        have k4 : 1 ≤ t := by omega
        clear ht hmn
        go_wp2
        go_quiet (fail)
        go_wp2
        refine ⟨⟨(Drawn0.refl _).step _, g + t, a + t, _, by omega, ⟨by rw [ha.out, Nat.add_assoc]⟩, ⟨read_step (le l0) p g a r j t x y ha.out HRJ.out.1 HRJ.out.2 hx.out HYV.out k3 (by omega)⟩, by simp, by simp, rfl⟩, ?_⟩
        simp [intOf]; omega
    · have : g = W := by omega
      subst this
      go_wp2
      go_ret
      exact ⟨by rw [hx.out]; first | rfl | simp, (Drawn0.refl _).step _⟩

end Go.Proofs.Ytllhbjkkoogeeaa.QBitpackCanonical
