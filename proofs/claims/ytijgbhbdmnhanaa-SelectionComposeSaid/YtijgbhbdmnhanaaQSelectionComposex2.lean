-- Written by a program of this session (wip/pr2.sh): the walk of the Go text, function by function.
import Derived.Test.YtijgbhbdmnhanaaQSelectionComposex0
namespace Go.Proofs.Ytijgbhbdmnhanaa.QSelectionCompose
open Go.RowKit Go.Proofs.YtijgbhbdmnhanaaW.PrintWords Go.Proofs.YtijgbhbdmnhanaaW.PrintLast Go.Proofs.YtijgbhbdmnhanaaW.PrintMore
open Go.Proofs.YtijgbhbdmnhanaaM
attribute [local go_sem] max2_int min2_int max_two min_two max_three min_three max_four min_four   -- for this text's walks alone
set_option linter.unusedVariables false
set_option linter.unusedSimpArgs false

/-! ### laminaref17_Ints: function 9 -/
def laminaref17_Ints.l0 : Nat → List Int → List Int → Int → Option (Bool)
 | 0, _, _, _ => none
 | k + 1, x0, x1, x5 => if x5 < (x0.length : Int) then (if 0 ≤ x5 then (if x5 < (x1.length : Int) then (if (rd x0 x5) = (rd x1 x5) then (laminaref17_Ints.l0 k x0 x1 (wrap64 (x5 + 1))) else (some false)) else (none)) else (none)) else (some true)
def laminaref17_Ints.f (k : Nat) (l0 : List Int) (l1 : List Int) : Option (Bool) := if (l0.length : Int) = (l1.length : Int) then (laminaref17_Ints.l0 k l0 l1 0) else (some false)
theorem laminaref17_Ints.mono_l : ∀ k, (∀ y0 y1 y2, LeO (laminaref17_Ints.l0 k y0 y1 y2) (laminaref17_Ints.l0 (k + 1) y0 y1 y2))
 | 0 => fun _ _ _ r h => by simp [laminaref17_Ints.l0] at h
 | k + 1 => by
  have ih0 := laminaref17_Ints.mono_l k
  ·intro y0 y1 y2
   unfold laminaref17_Ints.l0
   repeat' first
   | (with_reducible exact ih0 _ _ _)
   | (with_reducible exact LeO.refl _)
   | (with_reducible exact LeO.none _)
   | (with_reducible refine LeO.ite ?_ ?_)
   | (with_reducible refine LeO.bind ?_ (fun _ => ?_))
   | exact ih0 _ _ _
   | exact LeO.none _
   | refine LeO.ite ?_ ?_
   | refine LeO.bind ?_ (fun _ => ?_)
theorem laminaref17_Ints.mono : ∀ a0 a1 k, LeO (laminaref17_Ints.f k a0 a1) (laminaref17_Ints.f (k + 1) a0 a1) := by
 intro a0 a1 k
 have ih0 := laminaref17_Ints.mono_l k
 unfold laminaref17_Ints.f
 repeat' first
   | (with_reducible exact ih0 _ _ _)
   | (with_reducible exact LeO.refl _)
   | (with_reducible exact LeO.none _)
   | (with_reducible refine LeO.ite ?_ ?_)
   | (with_reducible refine LeO.bind ?_ (fun _ => ?_))
   | exact ih0 _ _ _
   | exact LeO.none _
   | refine LeO.ite ?_ ?_
   | refine LeO.bind ?_ (fun _ => ?_)
set_option maxHeartbeats 8000000 in
set_option maxRecDepth 100000 in
theorem laminaref17_Ints.calls (k : Nat) (A0 : Option Addr) (c0 : Nat) (l0 : List Int) (A1 : Option Addr) (c1 : Nat) (l1 : List Int) (r : Bool) (w : World) (hr0 : Kd.C (Kd.int .i64) w A0 l0.length l0) (hc0 : l0.length ≤ c0) (hr1 : Kd.C (Kd.int .i64) w A1 l1.length l1) (hc1 : l1.length ≤ c1) (h : laminaref17_Ints.f k l0 l1 = some r) :
  Calls Try.prog 9 #[.slice A0 l0.length c0, .slice A1 l1.length c1] w fun e w' => e = .returned (.bool r) ∧ Drawn0 w w' := by
 have HR0 := Aside0.mk hr0
 have HC0 := Aside0.mk hc0
 clear hr0 hc0
 have HR1 := Aside0.mk hr1
 have HC1 := Aside0.mk hc1
 clear hr1 hc1
 have H : (if (l0.length : Int) = (l1.length : Int) then (laminaref17_Ints.l0 k l0 l1 0) else (some false)) = some r := h
 clear h
 by_cases c3 : (l0.length : Int) = (l1.length : Int)
 ·rw [if_pos c3] at H
  have c3b0 : ((l0.length : Int) == (l1.length : Int)) = true := beq_iff_eq.mpr c3
  have c3b1 : ((l0.length : Int) != (l1.length : Int)) = false := bne_eq_false_iff_eq.mpr c3
  have c3b2 : (l0.length == l1.length) = true := by first | simpa using c3 | (simp at c3 ⊢; omega)
  clear c3
  have H' := Aside0.mk H
  clear H
  go_enter Try.func9, Try.ntmps9
  go_wp2
  repeat (go_quiet (fail); try go_wp2)
  go_loopg [5] k (fun kq v5 w' => ∃ (x5_1 : Int), v5 = .int .i64 x5_1 ∧ Aside0 (laminaref17_Ints.l0 kq l0 l1 x5_1 = some r) ∧ Aside0 (kq ≤ k) ∧ Drawn0 w w')
  case atStart => exact ⟨(0), (by first | rfl | (simp; done) | (simp [*]; done)), H', ⟨Nat.le_refl _⟩, by repeat (first | exact Drawn0.refl _ | apply Drawn0.step)⟩
  case round =>
   clear H'
   try clear c1
   try clear p2
   try clear c3
   try clear c3b0
   try clear c3b1
   try clear c3b2
   obtain ⟨x5_1, rfl, HA, HK1, ⟨m1, rfl⟩⟩ := hrel
   cases gk with
   | zero => exact absurd HA.out (by simp [laminaref17_Ints.l0])
   | succ k1 =>
    have H := HA.out
    clear HA
    simp only [laminaref17_Ints.l0] at H
    by_cases c4 : x5_1 < (l0.length : Int)
    ·rw [if_pos c4] at H
     have c4b0 : decide (x5_1 < (l0.length : Int)) = true := decide_eq_true c4
     clear c4
     by_cases c5 : 0 ≤ x5_1
     ·rw [if_pos c5] at H
      have c5b0 : decide (0 ≤ x5_1) = true := decide_eq_true c5
      clear c5
      by_cases c6 : x5_1 < (l1.length : Int)
      ·rw [if_pos c6] at H
       have c6b0 : decide (x5_1 < (l1.length : Int)) = true := decide_eq_true c6
       clear c6
       by_cases c7 : (rd l0 x5_1) = (rd l1 x5_1)
       ·rw [if_pos c7] at H
        have c7b0 : ((rd l0 x5_1) == (rd l1 x5_1)) = true := beq_iff_eq.mpr c7
        have c7b1 : ((rd l0 x5_1) != (rd l1 x5_1)) = false := bne_eq_false_iff_eq.mpr c7
        clear c7
        have H' := Aside0.mk H
        clear H
        have p101 : 0 ≤ (x5_1 : Int) := of_decide_eq_true (by first | (with_reducible assumption) | assumption)
        have q101 : x5_1 < (l0.length : Int) := of_decide_eq_true (by first | (with_reducible assumption) | assumption)
        obtain ⟨ad101, e101, hx101_0⟩ := Kd.at_int HR0.out x5_1 p101 q101
        cases e101
        replace p101 := eq_true p101
        replace q101 := eq_true q101
        have p102 : 0 ≤ (x5_1 : Int) := of_decide_eq_true (by first | (with_reducible assumption) | assumption)
        have q102 : x5_1 < (l1.length : Int) := of_decide_eq_true (by first | (with_reducible assumption) | assumption)
        obtain ⟨ad102, e102, hx102_0⟩ := Kd.at_int HR1.out x5_1 p102 q102
        cases e102
        replace p102 := eq_true p102
        replace q102 := eq_true q102
        go_wp2
        repeat (go_quiet (fail); try go_wp2)
        go_roundg k1
        case measure => have := HK1.out; omega
        case rel => exact ⟨(wrap64 (x5_1 + 1)), (by first | rfl | (simp; done) | (simp [*]; done)), H', ⟨by have := HK1.out; omega⟩, by repeat (first | exact Drawn0.refl _ | apply Drawn0.step)⟩
       ·rw [if_neg c7] at H
        have c7b0 : ((rd l0 x5_1) == (rd l1 x5_1)) = false := beq_eq_false_iff_ne.mpr c7
        have c7b1 : ((rd l0 x5_1) != (rd l1 x5_1)) = true := bne_iff_ne.mpr c7
        obtain rfl := Option.some.inj H
        have p101 : 0 ≤ (x5_1 : Int) := of_decide_eq_true (by first | (with_reducible assumption) | assumption)
        have q101 : x5_1 < (l0.length : Int) := of_decide_eq_true (by first | (with_reducible assumption) | assumption)
        obtain ⟨ad101, e101, hx101_0⟩ := Kd.at_int HR0.out x5_1 p101 q101
        cases e101
        replace p101 := eq_true p101
        replace q101 := eq_true q101
        have p102 : 0 ≤ (x5_1 : Int) := of_decide_eq_true (by first | (with_reducible assumption) | assumption)
        have q102 : x5_1 < (l1.length : Int) := of_decide_eq_true (by first | (with_reducible assumption) | assumption)
        obtain ⟨ad102, e102, hx102_0⟩ := Kd.at_int HR1.out x5_1 p102 q102
        cases e102
        replace p102 := eq_true p102
        replace q102 := eq_true q102
        go_wp2
        repeat (go_quiet (fail); try go_wp2)
        go_ret
        exact ⟨by first | rfl | (simp; done) | (simp [*]; done), by repeat (first | exact Drawn0.refl _ | apply Drawn0.step)⟩
      ·rw [if_neg c6] at H
       exact absurd H (by simp)
     ·rw [if_neg c5] at H
      exact absurd H (by simp)
    ·rw [if_neg c4] at H
     have c4b0 : decide (x5_1 < (l0.length : Int)) = false := decide_eq_false c4
     clear c4
     obtain rfl := Option.some.inj H
     go_wp2
     repeat (go_quiet (fail); try go_wp2)
     go_ret
     exact ⟨by first | rfl | (simp; done) | (simp [*]; done), by repeat (first | exact Drawn0.refl _ | apply Drawn0.step)⟩
 ·rw [if_neg c3] at H
  have c3b0 : ((l0.length : Int) == (l1.length : Int)) = false := beq_eq_false_iff_ne.mpr c3
  have c3b1 : ((l0.length : Int) != (l1.length : Int)) = true := bne_iff_ne.mpr c3
  have c3b2 : (l0.length == l1.length) = false := by first | simpa using c3 | (simp at c3 ⊢; omega)
  obtain rfl := Option.some.inj H
  go_enter Try.func9, Try.ntmps9
  go_wp2
  repeat (go_quiet (fail); try go_wp2)
  go_ret
  exact ⟨by first | rfl | (simp; done) | (simp [*]; done), by repeat (first | exact Drawn0.refl _ | apply Drawn0.step)⟩

/-! ### selection_Intersect: function 10 -/
theorem C_cut (A : Option Addr) (la : List Int) (c : Nat) (hp : 0 < la.length) (hc : la.length ≤ c) : ∃ (A' : Option Addr) (ra : List Int), Aside0 (la = rd la 0 :: ra) ∧ (∀ W : World, (Instr.slice 22 (.slice A la.length c) (some (.int .i64 1)) none none).run Try.prog W = .ok (.slice A' ra.length (c - 1)) W) ∧ Aside0 (∀ w : World, Kd.C (Kd.int .i64) w A la.length la → Kd.C (Kd.int .i64) w A' ra.length ra) ∧ ra.length ≤ c - 1 ∧ ra.length + 1 = la.length := by
  obtain ⟨i0, hi, _, hz1, _⟩ := info_parts info3
  obtain ⟨A', h1, h2, h3⟩ := print_drop_of (P := Try.prog) (Value.int .i64) (0 : Int) 22 3 .i64 Try.underlying22 hi hz1 A c la 1 (by omega) (by omega) hc
  refine ⟨A', la.drop 1, ⟨?_⟩, h1, ⟨fun w h => Kd.C_of_reads (d := (0 : Int)) (h1 := fun _ => rfl) (h2 w (Kd.reads_of_C h))⟩, h3, by rw [List.length_drop]; omega⟩
  cases la with
  | nil => simp at hp
  | cons x l => simp [rd]
theorem C_head (w : World) (A : Option Addr) (la : List Int) (n : Nat) (h : Kd.C (Kd.int .i64) w A n la) (hp : 0 < n) : ∃ ad, A = some ad ∧ w.cell? ad = some (.int .i64 (rd la 0)) := by
  obtain ⟨ad, rfl, hx⟩ := Kd.at_int h 0 (by omega) (by omega)
  exact ⟨ad, rfl, by simpa [Addr.add] using hx⟩
theorem mrg_a (K : Bool → Bool → Bool) (x : Int) (a : List Int) : mrg K (x :: a) [] = (if K true false then [x] else []) ++ mrg K a [] := by
  rw [mrg]; split <;> rfl
theorem mrg_b (K : Bool → Bool → Bool) (y : Int) (b : List Int) : mrg K [] (y :: b) = (if K false true then [y] else []) ++ mrg K [] b := by
  rw [mrg]; split <;> rfl
theorem mrg_lt (K : Bool → Bool → Bool) (x y : Int) (a b : List Int) (h : x < y) : mrg K (x :: a) (y :: b) = (if K true false then [x] else []) ++ mrg K a (y :: b) := by
  rw [mrg, if_pos h]; split <;> rfl
theorem mrg_gt (K : Bool → Bool → Bool) (x y : Int) (a b : List Int) (h : y < x) : mrg K (x :: a) (y :: b) = (if K false true then [y] else []) ++ mrg K (x :: a) b := by
  rw [mrg, if_neg (by omega), if_pos h]; split <;> rfl
theorem mrg_eq (K : Bool → Bool → Bool) (x y : Int) (a b : List Int) (h : x = y) : mrg K (x :: a) (y :: b) = (if K true true then [y] else []) ++ mrg K a b := by
  rw [mrg, if_neg (by omega), if_neg (by omega)]; split <;> rfl
def selection_Intersect.f (l0 l1 : List Int) : Option (List Int) := if l0.length + l1.length < 17592186044416 then some (mrgN kAnd (l0.length + l1.length) l0 l1) else none
set_option maxHeartbeats 1000000 in
set_option maxRecDepth 100000 in
theorem merge_And (A0 : Option Addr) (c0 : Nat) (l0 : List Int) (A1 : Option Addr) (c1 : Nat) (l1 : List Int) (w : World) (hr0 : Kd.C (Kd.int .i64) w A0 l0.length l0) (hc0 : l0.length ≤ c0) (hr1 : Kd.C (Kd.int .i64) w A1 l1.length l1) (hc1 : l1.length ≤ c1) (hlim : l0.length + l1.length < 17592186044416) :
    Calls Try.prog 31 #[.slice A0 l0.length c0, .slice A1 l1.length c1, .func (.func 32) #[] #[]] w fun e w' => ∃ v0_ : Value, e = .returned v0_ ∧ Kd.R (Kd.int .i64) 3 w' w.heap.size (fun k_ => w.heap.size ≤ k_) v0_ (mrg kAnd l0 l1) ∧ Below w.heap.size w w' := by
  have HR0 := Aside0.mk hr0
  have HR1 := Aside0.mk hr1
  clear hr0 hr1
  go_enter Try.func31, Try.ntmps31
  go_wp2
  go_loopg [0, 1, 7] (l0.length + l1.length) (fun q v0 v1 v7 wr => ∃ (B0 B1 : Option Addr) (d0 d1 : Nat) (la lb acc : List Int), v0 = .slice B0 la.length d0 ∧ v1 = .slice B1 lb.length d1 ∧ Aside0 (Kd.C (Kd.int .i64) w B0 la.length la) ∧ Aside0 (Kd.C (Kd.int .i64) w B1 lb.length lb) ∧ la.length ≤ d0 ∧ lb.length ≤ d1 ∧ Aside0 (Kd.R (Kd.int .i64) 3 wr w.heap.size (fun k_ => w.heap.size ≤ k_) v7 acc) ∧ Aside0 (acc ++ mrg kAnd la lb = mrg kAnd l0 l1) ∧ la.length + lb.length ≤ q ∧ acc.length + la.length + lb.length ≤ l0.length + l1.length ∧ Below w.heap.size w wr)
  case atStart => exact ⟨_, _, _, _, l0, l1, [], rfl, rfl, HR0, HR1, hc0, hc1, ⟨Kd.R_nil _ _ _ _ _⟩, ⟨rfl⟩, Nat.le_refl _, by simp, Below.refl _ _⟩
  case round =>
    obtain ⟨B0, B1, d0, d1, la, lb, acc, rfl, rfl, HA, HB, hd0, hd1, HO, HE, hq, hn, hb⟩ := hrel
    obtain ⟨vA, vc, rfl⟩ := Kd.R_slice HO.out
    have hs := hb.size
    by_cases ha : 0 < la.length
    · obtain ⟨ad, rfl, hx⟩ := C_head _ _ _ _ (Kd.C_below HA.out hb) ha
      obtain ⟨A', ra, hra, rA, cA, hrd, hrl⟩ := C_cut (some ad) la d0 ha hd0
      have g2 : ((la.length : Int) == 0) = false := beq_eq_false_iff_ne.mpr (by omega)
      by_cases hbb : 0 < lb.length
      · obtain ⟨bd, rfl, hy⟩ := C_head _ _ _ _ (Kd.C_below HB.out hb) hbb
        obtain ⟨B', rb, hrb, rB, cB, hsd, hsl⟩ := C_cut (some bd) lb d1 hbb hd1
        have g1 : ((lb.length : Int) == 0) = false := beq_eq_false_iff_ne.mpr (by omega)
        by_cases hxy : rd la 0 < rd lb 0
        · have k1 : decide (rd la 0 ≤ rd lb 0) = true := decide_eq_true (by omega)
          have k2 : decide (rd lb 0 ≤ rd la 0) = false := decide_eq_false (by omega)
          cases gk with
          | zero => exfalso; omega
          | succ gk =>
            go_wp2
            go_quiet (fail)
            go_wp2
            go_quiet (fail)
            go_wp2
            go_quiet (fail)
            go_wp2
            go_roundg gk
            have hm := mrg_lt kAnd (rd la 0) (rd lb 0) ra rb hxy
            rw [← hra.out, ← hrb.out] at hm
            case measure => omega
            case rel => exact ⟨_, _, _, _, ra, lb, acc, rfl, rfl, ⟨cA.out _ HA.out⟩, HB, hrd, hd1, ⟨(Kd.R_drewN HO.out _)⟩, ⟨by rw [← HE.out, hm]; simp [kAnd]⟩, by first | omega | (simp only [List.length_nil] at *; omega), by first | omega | (simp only [List.length_nil, List.length_append, List.length_cons] at *; omega), pw_below_drewN hb _⟩
        · by_cases hyx : rd lb 0 < rd la 0
          · have k1 : decide (rd la 0 ≤ rd lb 0) = false := decide_eq_false (by omega)
            have k2 : decide (rd lb 0 ≤ rd la 0) = true := decide_eq_true (by omega)
            cases gk with
            | zero => exfalso; omega
            | succ gk =>
              go_wp2
              go_quiet (fail)
              go_wp2
              go_quiet (fail)
              go_wp2
              go_quiet (fail)
              go_wp2
              go_roundg gk
              have hm := mrg_gt kAnd (rd la 0) (rd lb 0) ra rb hyx
              rw [← hra.out, ← hrb.out] at hm
              case measure => omega
              case rel => exact ⟨_, _, _, _, la, rb, acc, rfl, rfl, HA, ⟨cB.out _ HB.out⟩, hd0, hsd, ⟨(Kd.R_drewN HO.out _)⟩, ⟨by rw [← HE.out, hm]; simp [kAnd]⟩, by first | omega | (simp only [List.length_nil] at *; omega), by first | omega | (simp only [List.length_nil, List.length_append, List.length_cons] at *; omega), pw_below_drewN hb _⟩
          · have k1 : decide (rd la 0 ≤ rd lb 0) = true := decide_eq_true (by omega)
            have k2 : decide (rd lb 0 ≤ rd la 0) = true := decide_eq_true (by omega)
            cases gk with
            | zero => exfalso; omega
            | succ gk =>
              go_wp2
              go_quiet (fail)
              go_wp2
              go_quiet (fail)
              go_wp2
              go_quiet (fail)
              go_wp2
              go_quiet (fail)
              go_wp2_with (first | (at_builtin; (refine Kd.R_append (Kd.int .i64) w.heap.size rfl _ _ 22 3 (.int .i64 0) 8 rfl Try.underlying22 info3 rfl (by decide) (by decide) (.slice vA acc.length vc) acc (rd lb 0) [.int .i64 (rd lb 0)] (fun k_ => w.heap.size ≤ k_) (fun _ => False) rfl rfl rfl (fun _ h => h.elim) (fun k hk => Nat.le_trans hs hk) (Kd.R_drewN HO.out _) (Below.refl _ _) hs (by omega) ?_; intro v1 w1 hR1 hb1 hg1 hat1)) | go_in)
              go_roundg gk
              have hm := mrg_eq kAnd (rd la 0) (rd lb 0) ra rb (by omega)
              rw [← hra.out, ← hrb.out] at hm
              case measure => omega
              case rel => exact ⟨_, _, _, _, ra, rb, (acc ++ [rd lb 0]), rfl, rfl, ⟨cA.out _ HA.out⟩, ⟨cB.out _ HB.out⟩, hrd, hsd, ⟨hR1⟩, ⟨by rw [← HE.out, hm]; simp [kAnd]⟩, by first | omega | (simp only [List.length_nil] at *; omega), by first | omega | (simp only [List.length_nil, List.length_append, List.length_cons] at *; omega), (pw_below_drewN hb _).trans hb1⟩
      · obtain rfl : lb = [] := List.eq_nil_of_length_eq_zero (by omega)
        cases gk with
        | zero => exfalso; simp only [List.length_nil] at hq; omega
        | succ gk =>
          go_wp2
          go_quiet (fail)
          go_wp2
          go_quiet (fail)
          go_wp2
          go_quiet (fail)
          go_wp2
          go_roundg gk
          have hm := mrg_a kAnd (rd la 0) ra
          rw [← hra.out] at hm
          case measure => omega
          case rel => exact ⟨_, _, _, _, ra, [], acc, rfl, rfl, ⟨cA.out _ HA.out⟩, HB, hrd, hd1, ⟨(Kd.R_drewN HO.out _)⟩, ⟨by rw [← HE.out, hm]; simp [kAnd]⟩, by first | omega | (simp only [List.length_nil] at *; omega), by first | omega | (simp only [List.length_nil, List.length_append, List.length_cons] at *; omega), pw_below_drewN hb _⟩
    · obtain rfl : la = [] := List.eq_nil_of_length_eq_zero (by omega)
      by_cases hbb : 0 < lb.length
      · obtain ⟨bd, rfl, hy⟩ := C_head _ _ _ _ (Kd.C_below HB.out hb) hbb
        obtain ⟨B', rb, hrb, rB, cB, hsd, hsl⟩ := C_cut (some bd) lb d1 hbb hd1
        have g1 : ((lb.length : Int) == 0) = false := beq_eq_false_iff_ne.mpr (by omega)
        cases gk with
        | zero => exfalso; simp only [List.length_nil] at hq; omega
        | succ gk =>
          go_wp2
          go_quiet (fail)
          go_wp2
          go_quiet (fail)
          go_wp2
          go_quiet (fail)
          go_wp2
          go_roundg gk
          have hm := mrg_b kAnd (rd lb 0) rb
          rw [← hrb.out] at hm
          case measure => omega
          case rel => exact ⟨_, _, _, _, [], rb, acc, rfl, rfl, HA, ⟨cB.out _ HB.out⟩, hd0, hsd, ⟨(Kd.R_drewN HO.out _)⟩, ⟨by rw [← HE.out, hm]; simp [kAnd]⟩, by first | omega | (simp only [List.length_nil] at *; omega), by first | omega | (simp only [List.length_nil, List.length_append, List.length_cons] at *; omega), pw_below_drewN hb _⟩
      · obtain rfl : lb = [] := List.eq_nil_of_length_eq_zero (by omega)
        have he := HE.out
        rw [show mrg kAnd [] [] = [] by rw [mrg], List.append_nil] at he
        have HX := Aside0.mk he
        clear he
        go_wp2
        go_ret
        exact ⟨_, rfl, by rw [← HX.out]; exact HO.out, hb⟩
set_option maxHeartbeats 1000000 in
set_option maxRecDepth 100000 in
theorem selection_Intersect.calls (A0 : Option Addr) (c0 : Nat) (l0 : List Int) (A1 : Option Addr) (c1 : Nat) (l1 : List Int) (r : List Int) (w : World) (hr0 : Kd.C (Kd.int .i64) w A0 l0.length l0) (hc0 : l0.length ≤ c0) (hr1 : Kd.C (Kd.int .i64) w A1 l1.length l1) (hc1 : l1.length ≤ c1) (h : selection_Intersect.f l0 l1 = some r) :
    Calls Try.prog 10 #[.slice A0 l0.length c0, .slice A1 l1.length c1] w fun e w' => ∃ v0_ : Value, e = .returned (v0_) ∧ Kd.R (Kd.int .i64) 3 w' w.heap.size (fun k_ => True) v0_ r ∧ Below w.heap.size w w' := by
  unfold selection_Intersect.f at h
  split at h
  case isFalse => cases h
  case isTrue hlim =>
  rw [mrgN_eq _ _ _ _ (Nat.le_refl _)] at h
  obtain rfl := Option.some.inj h
  go_enter Try.func10, Try.ntmps10
  go_wp2_with (go_at_call 31; refine (merge_And A0 c0 l0 A1 c1 l1 _ hr0 hc0 hr1 hc1 hlim).mono ?_; rintro e w1 ⟨v, rfl, hR, hb⟩)
  go_ret
  exact ⟨_, rfl, Kd.R_mono hR (fun _ _ => trivial), hb⟩

/-! ### selection_Union: function 12 -/
def selection_Union.f (l0 l1 : List Int) : Option (List Int) := if l0.length + l1.length < 17592186044416 then some (mrgN kOr (l0.length + l1.length) l0 l1) else none
set_option maxHeartbeats 1000000 in
set_option maxRecDepth 100000 in
theorem merge_Or (A0 : Option Addr) (c0 : Nat) (l0 : List Int) (A1 : Option Addr) (c1 : Nat) (l1 : List Int) (w : World) (hr0 : Kd.C (Kd.int .i64) w A0 l0.length l0) (hc0 : l0.length ≤ c0) (hr1 : Kd.C (Kd.int .i64) w A1 l1.length l1) (hc1 : l1.length ≤ c1) (hlim : l0.length + l1.length < 17592186044416) :
    Calls Try.prog 31 #[.slice A0 l0.length c0, .slice A1 l1.length c1, .func (.func 34) #[] #[]] w fun e w' => ∃ v0_ : Value, e = .returned v0_ ∧ Kd.R (Kd.int .i64) 3 w' w.heap.size (fun k_ => w.heap.size ≤ k_) v0_ (mrg kOr l0 l1) ∧ Below w.heap.size w w' := by
  have HR0 := Aside0.mk hr0
  have HR1 := Aside0.mk hr1
  clear hr0 hr1
  go_enter Try.func31, Try.ntmps31
  go_wp2
  go_loopg [0, 1, 7] (l0.length + l1.length) (fun q v0 v1 v7 wr => ∃ (B0 B1 : Option Addr) (d0 d1 : Nat) (la lb acc : List Int), v0 = .slice B0 la.length d0 ∧ v1 = .slice B1 lb.length d1 ∧ Aside0 (Kd.C (Kd.int .i64) w B0 la.length la) ∧ Aside0 (Kd.C (Kd.int .i64) w B1 lb.length lb) ∧ la.length ≤ d0 ∧ lb.length ≤ d1 ∧ Aside0 (Kd.R (Kd.int .i64) 3 wr w.heap.size (fun k_ => w.heap.size ≤ k_) v7 acc) ∧ Aside0 (acc ++ mrg kOr la lb = mrg kOr l0 l1) ∧ la.length + lb.length ≤ q ∧ acc.length + la.length + lb.length ≤ l0.length + l1.length ∧ Below w.heap.size w wr)
  case atStart => exact ⟨_, _, _, _, l0, l1, [], rfl, rfl, HR0, HR1, hc0, hc1, ⟨Kd.R_nil _ _ _ _ _⟩, ⟨rfl⟩, Nat.le_refl _, by simp, Below.refl _ _⟩
  case round =>
    obtain ⟨B0, B1, d0, d1, la, lb, acc, rfl, rfl, HA, HB, hd0, hd1, HO, HE, hq, hn, hb⟩ := hrel
    obtain ⟨vA, vc, rfl⟩ := Kd.R_slice HO.out
    have hs := hb.size
    by_cases ha : 0 < la.length
    · obtain ⟨ad, rfl, hx⟩ := C_head _ _ _ _ (Kd.C_below HA.out hb) ha
      obtain ⟨A', ra, hra, rA, cA, hrd, hrl⟩ := C_cut (some ad) la d0 ha hd0
      have g2 : ((la.length : Int) == 0) = false := beq_eq_false_iff_ne.mpr (by omega)
      by_cases hbb : 0 < lb.length
      · obtain ⟨bd, rfl, hy⟩ := C_head _ _ _ _ (Kd.C_below HB.out hb) hbb
        obtain ⟨B', rb, hrb, rB, cB, hsd, hsl⟩ := C_cut (some bd) lb d1 hbb hd1
        have g1 : ((lb.length : Int) == 0) = false := beq_eq_false_iff_ne.mpr (by omega)
        by_cases hxy : rd la 0 < rd lb 0
        · have k1 : decide (rd la 0 ≤ rd lb 0) = true := decide_eq_true (by omega)
          have k2 : decide (rd lb 0 ≤ rd la 0) = false := decide_eq_false (by omega)
          cases gk with
          | zero => exfalso; omega
          | succ gk =>
            go_wp2
            go_quiet (fail)
            go_wp2
            go_quiet (fail)
            go_wp2
            go_quiet (fail)
            go_wp2_with (first | (at_builtin; (refine Kd.R_append (Kd.int .i64) w.heap.size rfl _ _ 22 3 (.int .i64 0) 8 rfl Try.underlying22 info3 rfl (by decide) (by decide) (.slice vA acc.length vc) acc (rd la 0) [.int .i64 (rd la 0)] (fun k_ => w.heap.size ≤ k_) (fun _ => False) rfl rfl rfl (fun _ h => h.elim) (fun k hk => Nat.le_trans hs hk) (Kd.R_drewN HO.out _) (Below.refl _ _) hs (by omega) ?_; intro v1 w1 hR1 hb1 hg1 hat1)) | go_in)
            go_roundg gk
            have hm := mrg_lt kOr (rd la 0) (rd lb 0) ra rb hxy
            rw [← hra.out, ← hrb.out] at hm
            case measure => omega
            case rel => exact ⟨_, _, _, _, ra, lb, (acc ++ [rd la 0]), rfl, rfl, ⟨cA.out _ HA.out⟩, HB, hrd, hd1, ⟨hR1⟩, ⟨by rw [← HE.out, hm]; simp [kOr]⟩, by first | omega | (simp only [List.length_nil] at *; omega), by first | omega | (simp only [List.length_nil, List.length_append, List.length_cons] at *; omega), (pw_below_drewN hb _).trans hb1⟩
        · by_cases hyx : rd lb 0 < rd la 0
          · have k1 : decide (rd la 0 ≤ rd lb 0) = false := decide_eq_false (by omega)
            have k2 : decide (rd lb 0 ≤ rd la 0) = true := decide_eq_true (by omega)
            cases gk with
            | zero => exfalso; omega
            | succ gk =>
              go_wp2
              go_quiet (fail)
              go_wp2
              go_quiet (fail)
              go_wp2
              go_quiet (fail)
              go_wp2_with (first | (at_builtin; (refine Kd.R_append (Kd.int .i64) w.heap.size rfl _ _ 22 3 (.int .i64 0) 8 rfl Try.underlying22 info3 rfl (by decide) (by decide) (.slice vA acc.length vc) acc (rd lb 0) [.int .i64 (rd lb 0)] (fun k_ => w.heap.size ≤ k_) (fun _ => False) rfl rfl rfl (fun _ h => h.elim) (fun k hk => Nat.le_trans hs hk) (Kd.R_drewN HO.out _) (Below.refl _ _) hs (by omega) ?_; intro v1 w1 hR1 hb1 hg1 hat1)) | go_in)
              go_roundg gk
              have hm := mrg_gt kOr (rd la 0) (rd lb 0) ra rb hyx
              rw [← hra.out, ← hrb.out] at hm
              case measure => omega
              case rel => exact ⟨_, _, _, _, la, rb, (acc ++ [rd lb 0]), rfl, rfl, HA, ⟨cB.out _ HB.out⟩, hd0, hsd, ⟨hR1⟩, ⟨by rw [← HE.out, hm]; simp [kOr]⟩, by first | omega | (simp only [List.length_nil] at *; omega), by first | omega | (simp only [List.length_nil, List.length_append, List.length_cons] at *; omega), (pw_below_drewN hb _).trans hb1⟩
          · have k1 : decide (rd la 0 ≤ rd lb 0) = true := decide_eq_true (by omega)
            have k2 : decide (rd lb 0 ≤ rd la 0) = true := decide_eq_true (by omega)
            cases gk with
            | zero => exfalso; omega
            | succ gk =>
              go_wp2
              go_quiet (fail)
              go_wp2
              go_quiet (fail)
              go_wp2
              go_quiet (fail)
              go_wp2
              go_quiet (fail)
              go_wp2_with (first | (at_builtin; (refine Kd.R_append (Kd.int .i64) w.heap.size rfl _ _ 22 3 (.int .i64 0) 8 rfl Try.underlying22 info3 rfl (by decide) (by decide) (.slice vA acc.length vc) acc (rd lb 0) [.int .i64 (rd lb 0)] (fun k_ => w.heap.size ≤ k_) (fun _ => False) rfl rfl rfl (fun _ h => h.elim) (fun k hk => Nat.le_trans hs hk) (Kd.R_drewN HO.out _) (Below.refl _ _) hs (by omega) ?_; intro v1 w1 hR1 hb1 hg1 hat1)) | go_in)
              go_roundg gk
              have hm := mrg_eq kOr (rd la 0) (rd lb 0) ra rb (by omega)
              rw [← hra.out, ← hrb.out] at hm
              case measure => omega
              case rel => exact ⟨_, _, _, _, ra, rb, (acc ++ [rd lb 0]), rfl, rfl, ⟨cA.out _ HA.out⟩, ⟨cB.out _ HB.out⟩, hrd, hsd, ⟨hR1⟩, ⟨by rw [← HE.out, hm]; simp [kOr]⟩, by first | omega | (simp only [List.length_nil] at *; omega), by first | omega | (simp only [List.length_nil, List.length_append, List.length_cons] at *; omega), (pw_below_drewN hb _).trans hb1⟩
      · obtain rfl : lb = [] := List.eq_nil_of_length_eq_zero (by omega)
        cases gk with
        | zero => exfalso; simp only [List.length_nil] at hq; omega
        | succ gk =>
          go_wp2
          go_quiet (fail)
          go_wp2
          go_quiet (fail)
          go_wp2
          go_quiet (fail)
          go_wp2_with (first | (at_builtin; (refine Kd.R_append (Kd.int .i64) w.heap.size rfl _ _ 22 3 (.int .i64 0) 8 rfl Try.underlying22 info3 rfl (by decide) (by decide) (.slice vA acc.length vc) acc (rd la 0) [.int .i64 (rd la 0)] (fun k_ => w.heap.size ≤ k_) (fun _ => False) rfl rfl rfl (fun _ h => h.elim) (fun k hk => Nat.le_trans hs hk) (Kd.R_drewN HO.out _) (Below.refl _ _) hs (by omega) ?_; intro v1 w1 hR1 hb1 hg1 hat1)) | go_in)
          go_roundg gk
          have hm := mrg_a kOr (rd la 0) ra
          rw [← hra.out] at hm
          case measure => omega
          case rel => exact ⟨_, _, _, _, ra, [], (acc ++ [rd la 0]), rfl, rfl, ⟨cA.out _ HA.out⟩, HB, hrd, hd1, ⟨hR1⟩, ⟨by rw [← HE.out, hm]; simp [kOr]⟩, by first | omega | (simp only [List.length_nil] at *; omega), by first | omega | (simp only [List.length_nil, List.length_append, List.length_cons] at *; omega), (pw_below_drewN hb _).trans hb1⟩
    · obtain rfl : la = [] := List.eq_nil_of_length_eq_zero (by omega)
      by_cases hbb : 0 < lb.length
      · obtain ⟨bd, rfl, hy⟩ := C_head _ _ _ _ (Kd.C_below HB.out hb) hbb
        obtain ⟨B', rb, hrb, rB, cB, hsd, hsl⟩ := C_cut (some bd) lb d1 hbb hd1
        have g1 : ((lb.length : Int) == 0) = false := beq_eq_false_iff_ne.mpr (by omega)
        cases gk with
        | zero => exfalso; simp only [List.length_nil] at hq; omega
        | succ gk =>
          go_wp2
          go_quiet (fail)
          go_wp2
          go_quiet (fail)
          go_wp2
          go_quiet (fail)
          go_wp2_with (first | (at_builtin; (refine Kd.R_append (Kd.int .i64) w.heap.size rfl _ _ 22 3 (.int .i64 0) 8 rfl Try.underlying22 info3 rfl (by decide) (by decide) (.slice vA acc.length vc) acc (rd lb 0) [.int .i64 (rd lb 0)] (fun k_ => w.heap.size ≤ k_) (fun _ => False) rfl rfl rfl (fun _ h => h.elim) (fun k hk => Nat.le_trans hs hk) (Kd.R_drewN HO.out _) (Below.refl _ _) hs (by omega) ?_; intro v1 w1 hR1 hb1 hg1 hat1)) | go_in)
          go_roundg gk
          have hm := mrg_b kOr (rd lb 0) rb
          rw [← hrb.out] at hm
          case measure => omega
          case rel => exact ⟨_, _, _, _, [], rb, (acc ++ [rd lb 0]), rfl, rfl, HA, ⟨cB.out _ HB.out⟩, hd0, hsd, ⟨hR1⟩, ⟨by rw [← HE.out, hm]; simp [kOr]⟩, by first | omega | (simp only [List.length_nil] at *; omega), by first | omega | (simp only [List.length_nil, List.length_append, List.length_cons] at *; omega), (pw_below_drewN hb _).trans hb1⟩
      · obtain rfl : lb = [] := List.eq_nil_of_length_eq_zero (by omega)
        have he := HE.out
        rw [show mrg kOr [] [] = [] by rw [mrg], List.append_nil] at he
        have HX := Aside0.mk he
        clear he
        go_wp2
        go_ret
        exact ⟨_, rfl, by rw [← HX.out]; exact HO.out, hb⟩
set_option maxHeartbeats 1000000 in
set_option maxRecDepth 100000 in
theorem selection_Union.calls (A0 : Option Addr) (c0 : Nat) (l0 : List Int) (A1 : Option Addr) (c1 : Nat) (l1 : List Int) (r : List Int) (w : World) (hr0 : Kd.C (Kd.int .i64) w A0 l0.length l0) (hc0 : l0.length ≤ c0) (hr1 : Kd.C (Kd.int .i64) w A1 l1.length l1) (hc1 : l1.length ≤ c1) (h : selection_Union.f l0 l1 = some r) :
    Calls Try.prog 12 #[.slice A0 l0.length c0, .slice A1 l1.length c1] w fun e w' => ∃ v0_ : Value, e = .returned (v0_) ∧ Kd.R (Kd.int .i64) 3 w' w.heap.size (fun k_ => True) v0_ r ∧ Below w.heap.size w w' := by
  unfold selection_Union.f at h
  split at h
  case isFalse => cases h
  case isTrue hlim =>
  rw [mrgN_eq _ _ _ _ (Nat.le_refl _)] at h
  obtain rfl := Option.some.inj h
  go_enter Try.func12, Try.ntmps12
  go_wp2_with (go_at_call 31; refine (merge_Or A0 c0 l0 A1 c1 l1 _ hr0 hc0 hr1 hc1 hlim).mono ?_; rintro e w1 ⟨v, rfl, hR, hb⟩)
  go_ret
  exact ⟨_, rfl, Kd.R_mono hR (fun _ _ => trivial), hb⟩

/-! ### selection_Difference: function 14 -/
def selection_Difference.f (l0 l1 : List Int) : Option (List Int) := if l0.length + l1.length < 17592186044416 then some (mrgN kNot (l0.length + l1.length) l0 l1) else none
set_option maxHeartbeats 1000000 in
set_option maxRecDepth 100000 in
theorem merge_Not (A0 : Option Addr) (c0 : Nat) (l0 : List Int) (A1 : Option Addr) (c1 : Nat) (l1 : List Int) (w : World) (hr0 : Kd.C (Kd.int .i64) w A0 l0.length l0) (hc0 : l0.length ≤ c0) (hr1 : Kd.C (Kd.int .i64) w A1 l1.length l1) (hc1 : l1.length ≤ c1) (hlim : l0.length + l1.length < 17592186044416) :
    Calls Try.prog 31 #[.slice A0 l0.length c0, .slice A1 l1.length c1, .func (.func 35) #[] #[]] w fun e w' => ∃ v0_ : Value, e = .returned v0_ ∧ Kd.R (Kd.int .i64) 3 w' w.heap.size (fun k_ => w.heap.size ≤ k_) v0_ (mrg kNot l0 l1) ∧ Below w.heap.size w w' := by
  have HR0 := Aside0.mk hr0
  have HR1 := Aside0.mk hr1
  clear hr0 hr1
  go_enter Try.func31, Try.ntmps31
  go_wp2
  go_loopg [0, 1, 7] (l0.length + l1.length) (fun q v0 v1 v7 wr => ∃ (B0 B1 : Option Addr) (d0 d1 : Nat) (la lb acc : List Int), v0 = .slice B0 la.length d0 ∧ v1 = .slice B1 lb.length d1 ∧ Aside0 (Kd.C (Kd.int .i64) w B0 la.length la) ∧ Aside0 (Kd.C (Kd.int .i64) w B1 lb.length lb) ∧ la.length ≤ d0 ∧ lb.length ≤ d1 ∧ Aside0 (Kd.R (Kd.int .i64) 3 wr w.heap.size (fun k_ => w.heap.size ≤ k_) v7 acc) ∧ Aside0 (acc ++ mrg kNot la lb = mrg kNot l0 l1) ∧ la.length + lb.length ≤ q ∧ acc.length + la.length + lb.length ≤ l0.length + l1.length ∧ Below w.heap.size w wr)
  case atStart => exact ⟨_, _, _, _, l0, l1, [], rfl, rfl, HR0, HR1, hc0, hc1, ⟨Kd.R_nil _ _ _ _ _⟩, ⟨rfl⟩, Nat.le_refl _, by simp, Below.refl _ _⟩
  case round =>
    obtain ⟨B0, B1, d0, d1, la, lb, acc, rfl, rfl, HA, HB, hd0, hd1, HO, HE, hq, hn, hb⟩ := hrel
    obtain ⟨vA, vc, rfl⟩ := Kd.R_slice HO.out
    have hs := hb.size
    by_cases ha : 0 < la.length
    · obtain ⟨ad, rfl, hx⟩ := C_head _ _ _ _ (Kd.C_below HA.out hb) ha
      obtain ⟨A', ra, hra, rA, cA, hrd, hrl⟩ := C_cut (some ad) la d0 ha hd0
      have g2 : ((la.length : Int) == 0) = false := beq_eq_false_iff_ne.mpr (by omega)
      by_cases hbb : 0 < lb.length
      · obtain ⟨bd, rfl, hy⟩ := C_head _ _ _ _ (Kd.C_below HB.out hb) hbb
        obtain ⟨B', rb, hrb, rB, cB, hsd, hsl⟩ := C_cut (some bd) lb d1 hbb hd1
        have g1 : ((lb.length : Int) == 0) = false := beq_eq_false_iff_ne.mpr (by omega)
        by_cases hxy : rd la 0 < rd lb 0
        · have k1 : decide (rd la 0 ≤ rd lb 0) = true := decide_eq_true (by omega)
          have k2 : decide (rd lb 0 ≤ rd la 0) = false := decide_eq_false (by omega)
          cases gk with
          | zero => exfalso; omega
          | succ gk =>
            go_wp2
            go_quiet (fail)
            go_wp2
            go_quiet (fail)
            go_wp2
            go_quiet (fail)
            go_wp2_with (first | (at_builtin; (refine Kd.R_append (Kd.int .i64) w.heap.size rfl _ _ 22 3 (.int .i64 0) 8 rfl Try.underlying22 info3 rfl (by decide) (by decide) (.slice vA acc.length vc) acc (rd la 0) [.int .i64 (rd la 0)] (fun k_ => w.heap.size ≤ k_) (fun _ => False) rfl rfl rfl (fun _ h => h.elim) (fun k hk => Nat.le_trans hs hk) (Kd.R_drewN HO.out _) (Below.refl _ _) hs (by omega) ?_; intro v1 w1 hR1 hb1 hg1 hat1)) | go_in)
            go_roundg gk
            have hm := mrg_lt kNot (rd la 0) (rd lb 0) ra rb hxy
            rw [← hra.out, ← hrb.out] at hm
            case measure => omega
            case rel => exact ⟨_, _, _, _, ra, lb, (acc ++ [rd la 0]), rfl, rfl, ⟨cA.out _ HA.out⟩, HB, hrd, hd1, ⟨hR1⟩, ⟨by rw [← HE.out, hm]; simp [kNot]⟩, by first | omega | (simp only [List.length_nil] at *; omega), by first | omega | (simp only [List.length_nil, List.length_append, List.length_cons] at *; omega), (pw_below_drewN hb _).trans hb1⟩
        · by_cases hyx : rd lb 0 < rd la 0
          · have k1 : decide (rd la 0 ≤ rd lb 0) = false := decide_eq_false (by omega)
            have k2 : decide (rd lb 0 ≤ rd la 0) = true := decide_eq_true (by omega)
            cases gk with
            | zero => exfalso; omega
            | succ gk =>
              go_wp2
              go_quiet (fail)
              go_wp2
              go_quiet (fail)
              go_wp2
              go_quiet (fail)
              go_wp2
              go_roundg gk
              have hm := mrg_gt kNot (rd la 0) (rd lb 0) ra rb hyx
              rw [← hra.out, ← hrb.out] at hm
              case measure => omega
              case rel => exact ⟨_, _, _, _, la, rb, acc, rfl, rfl, HA, ⟨cB.out _ HB.out⟩, hd0, hsd, ⟨(Kd.R_drewN HO.out _)⟩, ⟨by rw [← HE.out, hm]; simp [kNot]⟩, by first | omega | (simp only [List.length_nil] at *; omega), by first | omega | (simp only [List.length_nil, List.length_append, List.length_cons] at *; omega), pw_below_drewN hb _⟩
          · have k1 : decide (rd la 0 ≤ rd lb 0) = true := decide_eq_true (by omega)
            have k2 : decide (rd lb 0 ≤ rd la 0) = true := decide_eq_true (by omega)
            cases gk with
            | zero => exfalso; omega
            | succ gk =>
              go_wp2
              go_quiet (fail)
              go_wp2
              go_quiet (fail)
              go_wp2
              go_quiet (fail)
              go_wp2
              go_quiet (fail)
              go_wp2
              go_roundg gk
              have hm := mrg_eq kNot (rd la 0) (rd lb 0) ra rb (by omega)
              rw [← hra.out, ← hrb.out] at hm
              case measure => omega
              case rel => exact ⟨_, _, _, _, ra, rb, acc, rfl, rfl, ⟨cA.out _ HA.out⟩, ⟨cB.out _ HB.out⟩, hrd, hsd, ⟨(Kd.R_drewN HO.out _)⟩, ⟨by rw [← HE.out, hm]; simp [kNot]⟩, by first | omega | (simp only [List.length_nil] at *; omega), by first | omega | (simp only [List.length_nil, List.length_append, List.length_cons] at *; omega), pw_below_drewN hb _⟩
      · obtain rfl : lb = [] := List.eq_nil_of_length_eq_zero (by omega)
        cases gk with
        | zero => exfalso; simp only [List.length_nil] at hq; omega
        | succ gk =>
          go_wp2
          go_quiet (fail)
          go_wp2
          go_quiet (fail)
          go_wp2
          go_quiet (fail)
          go_wp2_with (first | (at_builtin; (refine Kd.R_append (Kd.int .i64) w.heap.size rfl _ _ 22 3 (.int .i64 0) 8 rfl Try.underlying22 info3 rfl (by decide) (by decide) (.slice vA acc.length vc) acc (rd la 0) [.int .i64 (rd la 0)] (fun k_ => w.heap.size ≤ k_) (fun _ => False) rfl rfl rfl (fun _ h => h.elim) (fun k hk => Nat.le_trans hs hk) (Kd.R_drewN HO.out _) (Below.refl _ _) hs (by omega) ?_; intro v1 w1 hR1 hb1 hg1 hat1)) | go_in)
          go_roundg gk
          have hm := mrg_a kNot (rd la 0) ra
          rw [← hra.out] at hm
          case measure => omega
          case rel => exact ⟨_, _, _, _, ra, [], (acc ++ [rd la 0]), rfl, rfl, ⟨cA.out _ HA.out⟩, HB, hrd, hd1, ⟨hR1⟩, ⟨by rw [← HE.out, hm]; simp [kNot]⟩, by first | omega | (simp only [List.length_nil] at *; omega), by first | omega | (simp only [List.length_nil, List.length_append, List.length_cons] at *; omega), (pw_below_drewN hb _).trans hb1⟩
    · obtain rfl : la = [] := List.eq_nil_of_length_eq_zero (by omega)
      by_cases hbb : 0 < lb.length
      · obtain ⟨bd, rfl, hy⟩ := C_head _ _ _ _ (Kd.C_below HB.out hb) hbb
        obtain ⟨B', rb, hrb, rB, cB, hsd, hsl⟩ := C_cut (some bd) lb d1 hbb hd1
        have g1 : ((lb.length : Int) == 0) = false := beq_eq_false_iff_ne.mpr (by omega)
        cases gk with
        | zero => exfalso; simp only [List.length_nil] at hq; omega
        | succ gk =>
          go_wp2
          go_quiet (fail)
          go_wp2
          go_quiet (fail)
          go_wp2
          go_quiet (fail)
          go_wp2
          go_roundg gk
          have hm := mrg_b kNot (rd lb 0) rb
          rw [← hrb.out] at hm
          case measure => omega
          case rel => exact ⟨_, _, _, _, [], rb, acc, rfl, rfl, HA, ⟨cB.out _ HB.out⟩, hd0, hsd, ⟨(Kd.R_drewN HO.out _)⟩, ⟨by rw [← HE.out, hm]; simp [kNot]⟩, by first | omega | (simp only [List.length_nil] at *; omega), by first | omega | (simp only [List.length_nil, List.length_append, List.length_cons] at *; omega), pw_below_drewN hb _⟩
      · obtain rfl : lb = [] := List.eq_nil_of_length_eq_zero (by omega)
        have he := HE.out
        rw [show mrg kNot [] [] = [] by rw [mrg], List.append_nil] at he
        have HX := Aside0.mk he
        clear he
        go_wp2
        go_ret
        exact ⟨_, rfl, by rw [← HX.out]; exact HO.out, hb⟩
set_option maxHeartbeats 1000000 in
set_option maxRecDepth 100000 in
theorem selection_Difference.calls (A0 : Option Addr) (c0 : Nat) (l0 : List Int) (A1 : Option Addr) (c1 : Nat) (l1 : List Int) (r : List Int) (w : World) (hr0 : Kd.C (Kd.int .i64) w A0 l0.length l0) (hc0 : l0.length ≤ c0) (hr1 : Kd.C (Kd.int .i64) w A1 l1.length l1) (hc1 : l1.length ≤ c1) (h : selection_Difference.f l0 l1 = some r) :
    Calls Try.prog 14 #[.slice A0 l0.length c0, .slice A1 l1.length c1] w fun e w' => ∃ v0_ : Value, e = .returned (v0_) ∧ Kd.R (Kd.int .i64) 3 w' w.heap.size (fun k_ => True) v0_ r ∧ Below w.heap.size w w' := by
  unfold selection_Difference.f at h
  split at h
  case isFalse => cases h
  case isTrue hlim =>
  rw [mrgN_eq _ _ _ _ (Nat.le_refl _)] at h
  obtain rfl := Option.some.inj h
  go_enter Try.func14, Try.ntmps14
  go_wp2_with (go_at_call 31; refine (merge_Not A0 c0 l0 A1 c1 l1 _ hr0 hc0 hr1 hc1 hlim).mono ?_; rintro e w1 ⟨v, rfl, hR, hb⟩)
  go_ret
  exact ⟨_, rfl, Kd.R_mono hR (fun _ _ => trivial), hb⟩

/-! ### selection_All: function 25 -/
def selection_All.l0 : Nat → Int → List Int → Int → Option (List Int)
 | 0, _, _, _ => none
 | k + 1, x0, x3, x4 => if x4 < x0 then (if x3.length < 17592186044416 then (selection_All.l0 k x0 (x3 ++ [x4]) (wrap64 (x4 + 1))) else (none)) else (some x3)
def selection_All.f (k : Nat) (a0 : Int) : Option (List Int) := selection_All.l0 k a0 ([] : List Int) 0
theorem selection_All.mono_l : ∀ k, (∀ y0 y1 y2, LeO (selection_All.l0 k y0 y1 y2) (selection_All.l0 (k + 1) y0 y1 y2))
 | 0 => fun _ _ _ r h => by simp [selection_All.l0] at h
 | k + 1 => by
  have ih0 := selection_All.mono_l k
  ·intro y0 y1 y2
   unfold selection_All.l0
   repeat' first
   | (with_reducible exact ih0 _ _ _)
   | (with_reducible exact LeO.refl _)
   | (with_reducible exact LeO.none _)
   | (with_reducible refine LeO.ite ?_ ?_)
   | (with_reducible refine LeO.bind ?_ (fun _ => ?_))
   | exact ih0 _ _ _
   | exact LeO.none _
   | refine LeO.ite ?_ ?_
   | refine LeO.bind ?_ (fun _ => ?_)
theorem selection_All.mono : ∀ a0 k, LeO (selection_All.f k a0) (selection_All.f (k + 1) a0) := by
 intro a0 k
 have ih0 := selection_All.mono_l k
 unfold selection_All.f
 repeat' first
   | (with_reducible exact ih0 _ _ _)
   | (with_reducible exact LeO.refl _)
   | (with_reducible exact LeO.none _)
   | (with_reducible refine LeO.ite ?_ ?_)
   | (with_reducible refine LeO.bind ?_ (fun _ => ?_))
   | exact ih0 _ _ _
   | exact LeO.none _
   | refine LeO.ite ?_ ?_
   | refine LeO.bind ?_ (fun _ => ?_)
set_option maxHeartbeats 8000000 in
set_option maxRecDepth 100000 in
theorem selection_All.calls (k : Nat) (a0 : Int) (r : List Int) (w : World) (h : selection_All.f k a0 = some r) :
  Calls Try.prog 25 #[.int .i64 a0] w fun e w' => ∃ v0_ : Value, e = .returned (v0_) ∧ Kd.R (Kd.int .i64) 3 w' w.heap.size (fun _ => True) v0_ r ∧ Below w.heap.size w w' := by
 have HB := Aside0.mk (Below.refl w.heap.size w)
 have H : (selection_All.l0 k a0 ([] : List Int) 0) = some r := h
 clear h
 have H' := Aside0.mk H
 clear H
 go_enter Try.func25, Try.ntmps25
 go_wp2
 go_loopg [3, 4] k (fun kq v3 v4 w' => ∃ (x3_1 : List Int) (x4_1 : Int), v4 = .int .i64 x4_1 ∧ Aside0 (selection_All.l0 kq a0 x3_1 x4_1 = some r) ∧ Aside0 (kq ≤ k) ∧ Aside0 (Kd.R (Kd.int .i64) 3 w' w.heap.size (fun _ => True) v3 x3_1) ∧ Aside0 (Below w.heap.size w w'))
 case atStart => exact ⟨(([] : List Int)), (0), (by first | rfl | (simp; done) | (simp [*]; done)), H', ⟨Nat.le_refl _⟩, ⟨by first | exact Kd.R_nil _ _ _ _ _ | exact Kd.N_nil _ _ _ _ _ | exact Kd.V_nil _ _ _ _ _ | exact Kd.Q_nil _ _ _ _ _ | exact Kd.S_nil _ _ _ _ _⟩, ⟨by repeat (first | (with_reducible first | exact HB.out | apply below_alloc | apply pw_below_drewN | apply below_drew1) | exact HB.out)⟩⟩
 case round =>
  clear H'
  obtain ⟨x3_1, x4_1, rfl, HA, HK1, HO_3, HB⟩ := hrel
  cases gk with
  | zero => exact absurd HA.out (by simp [selection_All.l0])
  | succ k1 =>
   have H := HA.out
   clear HA
   simp only [selection_All.l0] at H
   by_cases c2 : x4_1 < a0
   ·rw [if_pos c2] at H
    have c2b0 : decide (x4_1 < a0) = true := decide_eq_true c2
    clear c2
    by_cases c3 : x3_1.length < 17592186044416
    ·rw [if_pos c3] at H
     have LMc3 := Aside0.mk c3
     clear c3
     obtain ⟨y103, hy103⟩ : ∃ y_ : List Int, y_ = (x3_1 ++ [x4_1]) := ⟨_, rfl⟩
     replace H : (selection_All.l0 k1 a0 y103 (wrap64 (x4_1 + 1))) = some r := by first | (rw [hy103]; with_reducible exact H) | (have H2_ := (Option.bind_some _ _).symm.trans H; rw [hy103]; with_reducible exact H2_) | (have H2_ := (Option.bind_some _ _).symm.trans H; with_reducible exact H2_) | with_reducible exact H | (rw [hy103]; exact H) | exact H
     have Ny103 := Aside0.mk hy103
     clear hy103
     have H' := Aside0.mk H
     clear H
     go_wp2_with (first | ((with_reducible refine gate_builtin (b := .append) (xs := #[.tmp 10, .tmp 12]) rfl ?_); at_builtin; refine Kd.R_append (Kd.int .i64) (w0 := w) w.heap.size rfl (.tmp 10) (.tmp 12) 22 3 (.int .i64 0) 8 rfl Try.underlying22 info3 rfl (by decide) (by omega) u3 x3_1 x4_1 [.int .i64 x4_1] (fun _ => True) (fun _ => False) rfl rfl ?aP (fun _ hk => hk.elim) ?aF ?aO ?aB ?aS ?aL ?_; (case aP => exact rfl); (case aB => exact (by repeat (first | (with_reducible first | exact HB.out | apply below_alloc | apply pw_below_drewN | apply below_drew1) | exact HB.out))); (case aF => exact (fun _ _ => trivial)); (case aO => exact (by (with_reducible repeat (first | apply Kd.R_alloc | apply Kd.R_drewN | apply Kd.R_drew)); exact HO_3.out)); (case aS => exact (below_size (by repeat (first | (with_reducible first | exact HB.out | apply below_alloc | apply pw_below_drewN | apply below_drew1) | exact HB.out)))); (case aL => have := LMc3.out; omega); intro v104 w4 ho hb hg hat; rw [← Ny103.out] at ho; have n0_ := Aside0.mk (hb); have n1_ := Aside0.mk (ho); clear HB; clear HO_3; have HB := n0_; have HO105 := n1_; clear n0_ n1_; clear ho hb hg hat))
     go_roundg k1
     case measure => have := HK1.out; omega
     case rel => exact ⟨(y103), (wrap64 (x4_1 + 1)), (by first | rfl | (simp; done) | (simp [*]; done)), H', ⟨by have := HK1.out; omega⟩, ⟨by (with_reducible repeat (first | apply Kd.R_alloc | apply Kd.R_drewN | apply Kd.R_drew)); exact HO105.out⟩, ⟨by repeat (first | (with_reducible first | exact HB.out | apply below_alloc | apply pw_below_drewN | apply below_drew1) | exact HB.out)⟩⟩
    ·rw [if_neg c3] at H
     exact absurd H (by simp)
   ·rw [if_neg c2] at H
    have c2b0 : decide (x4_1 < a0) = false := decide_eq_false c2
    clear c2
    obtain rfl := Option.some.inj H
    go_wp2
    go_ret
    exact ⟨_, by first | rfl | (simp [errW_none, errW_some] <;> rfl) | (simp [*, errW_none, errW_some] <;> rfl), by (with_reducible repeat (first | apply Kd.R_alloc | apply Kd.R_drewN | apply Kd.R_drew)); exact HO_3.out, by repeat (first | (with_reducible first | exact HB.out | apply below_alloc | apply pw_below_drewN | apply below_drew1) | exact HB.out)⟩

/-! ### selection_Complement: function 16 -/
def selection_Complement.f (k : Nat) (l0 : List Int) (a1 : Int) : Option (List Int) := (selection_All.f k a1).bind fun t106 => ((selection_Difference.f t106 l0).bind fun t109 => (some t109))
theorem selection_Complement.mono : ∀ a0 a1 k, LeO (selection_Complement.f k a0 a1) (selection_Complement.f (k + 1) a0 a1) := by
 intro a0 a1 k
 unfold selection_Complement.f
 repeat' first
   | (with_reducible exact selection_All.mono _ _)
   | (with_reducible exact LeO.refl _)
   | (with_reducible exact LeO.none _)
   | (with_reducible refine LeO.ite ?_ ?_)
   | (with_reducible refine LeO.bind ?_ (fun _ => ?_))
   | exact selection_All.mono _ _
   | exact LeO.none _
   | refine LeO.ite ?_ ?_
   | refine LeO.bind ?_ (fun _ => ?_)
set_option maxHeartbeats 8000000 in
set_option maxRecDepth 100000 in
theorem selection_Complement.calls (k : Nat) (A0 : Option Addr) (c0 : Nat) (l0 : List Int) (a1 : Int) (r : List Int) (w : World) (hr0 : Kd.C (Kd.int .i64) w A0 l0.length l0) (hc0 : l0.length ≤ c0) (h : selection_Complement.f k l0 a1 = some r) :
  Calls Try.prog 16 #[.slice A0 l0.length c0, .int .i64 a1] w fun e w' => ∃ v0_ : Value, e = .returned (v0_) ∧ Kd.R (Kd.int .i64) 3 w' w.heap.size (fun _ => True) v0_ r ∧ Below w.heap.size w w' := by
 have HR0 := Aside0.mk hr0
 have HC0 := Aside0.mk hc0
 clear hr0 hc0
 have HB := Aside0.mk (Below.refl w.heap.size w)
 have H : ((selection_All.f k a1).bind fun t106 => ((selection_Difference.f t106 l0).bind fun t109 => (some t109))) = some r := h
 clear h
 replace H := Option.bind_eq_some_iff.mp H
 obtain ⟨t106, A30, H⟩ := H
 replace H : ((selection_Difference.f t106 l0).bind fun t109 => (some t109)) = some r := H
 have A3 := Aside0.mk A30
 clear A30
 replace H := Option.bind_eq_some_iff.mp H
 obtain ⟨t109, A40, H⟩ := H
 replace H : (some t109) = some r := H
 have A4 := Aside0.mk A40
 clear A40
 obtain rfl := Option.some.inj H
 go_enter Try.func16, Try.ntmps16
 go_wp2_with (first | ((with_reducible refine gate_callee (f := 25) rfl ?_); refine goesL_ (some 6) rfl rfl Try.func25 (by kernel_rfl) rfl #[.int .i64 a1] rfl (by (try simp only [List.map_toArray, List.map_cons, List.map_nil]); first | done | rfl | (simp only [List.length_drop, List.length_take]; rfl)) ?_; (with_reducible refine (selection_All.calls k a1 t106 _ A3.out).mono ?_); rintro e w5 ⟨v107, rfl, ho0, hb⟩; refine ⟨_, rfl, ?_⟩; have n0_ := Aside0.mk (Kd.R_lower ho0 (below_size (by repeat (first | (with_reducible first | exact HB.out | apply below_alloc | apply pw_below_drewN | apply below_drew1) | exact HB.out)))); have n1_ := Aside0.mk (below_step (by repeat (first | (with_reducible first | exact HB.out | apply below_alloc | apply pw_below_drewN | apply below_drew1) | exact HB.out)) hb); clear HB; have HO108 := n0_; have HB := n1_; clear n0_ n1_; (try clear hb); (try clear hb2); (try clear hk); (try clear hi); (try clear ho0); obtain ⟨Ao6, co6, eo6⟩ := Kd.R_slice HO108.out; subst eo6) | ((with_reducible refine gate_callee (f := 14) rfl ?_); refine goesL_ (some 8) rfl rfl Try.func14 (by kernel_rfl) rfl #[.slice Ao6 t106.length co6, .slice A0 l0.length c0] rfl (by (try simp only [List.map_toArray, List.map_cons, List.map_nil]); first | done | rfl | (simp only [List.length_drop, List.length_take]; rfl)) ?_; (with_reducible refine (selection_Difference.calls _ _ t106 _ _ l0 t109 _ ?side1 ?side2 ?side3 ?side4 A4.out).mono ?_); (case side1 => repeat (first | exact (Kd.R_reads' HO108.out).2.2 | (with_reducible refine Kd.C_alloc ?_ _) | (with_reducible refine Kd.C_drewN ?_ _) | (with_reducible refine Kd.C_drew ?_))); (case side2 => exact (Kd.R_reads' HO108.out).2.1); (case side3 => repeat (first | exact (Kd.C_below HR0.out HB.out) | (with_reducible refine Kd.C_alloc ?_ _) | (with_reducible refine Kd.C_drewN ?_ _) | (with_reducible refine Kd.C_drew ?_))); (case side4 => exact HC0.out); rintro e w7 ⟨v110, rfl, ho0, hb⟩; refine ⟨_, rfl, ?_⟩; have n0_ := Aside0.mk (Kd.R_elder' (by (with_reducible repeat (first | apply Kd.R_alloc | apply Kd.R_drewN | apply Kd.R_drew)); exact HO108.out) (Kd.R_base ho0) hb); have n1_ := Aside0.mk (Kd.R_lower (Kd.R_new' ho0 (Kd.R_lt (by (with_reducible repeat (first | apply Kd.R_alloc | apply Kd.R_drewN | apply Kd.R_drew)); exact HO108.out))) (below_size (by repeat (first | (with_reducible first | exact HB.out | apply below_alloc | apply pw_below_drewN | apply below_drew1) | exact HB.out)))); have n2_ := Aside0.mk (below_step (by repeat (first | (with_reducible first | exact HB.out | apply below_alloc | apply pw_below_drewN | apply below_drew1) | exact HB.out)) hb); clear HO108; clear HB; have HO108 := n0_; have HO111 := n1_; have HB := n2_; clear n0_ n1_ n2_; (try clear hb); (try clear hb2); (try clear hk); (try clear hi); (try clear ho0)))
 go_ret
 exact ⟨_, by first | rfl | (simp [errW_none, errW_some] <;> rfl) | (simp [*, errW_none, errW_some] <;> rfl), by (with_reducible repeat (first | apply Kd.R_alloc | apply Kd.R_drewN | apply Kd.R_drew)); exact Kd.R_mono HO111.out (fun _ hk => trivial), by repeat (first | (with_reducible first | exact HB.out | apply below_alloc | apply pw_below_drewN | apply below_drew1) | exact HB.out)⟩

/-! ### selection_Apply: function 21 -/
def selection_Apply.g (all : Bool) (sel : List Int) (i : Int) : Int := if all = true then i else rd sel i
def selection_Apply.ok (all : Bool) (sel l1 : List Int) : Bool := decide (l1.length ≤ 17592186044416) && (all || l1.all fun i => decide (0 ≤ i) && decide (i < (sel.length : Int)))
def selection_Apply.f (l0_0 : List (S48)) (a0_1 : Int) (a0_2 : Bool) (l0_3 : List Int) (l1 : List Int) : Option ((List (S48)) × Int × Bool × List Int) := if (l1.length : Int) = a0_1 then (some (l0_0, a0_1, true, ([] : List Int))) else if selection_Apply.ok a0_2 l0_3 l1 = true then some (l0_0, a0_1, false, l1.map (selection_Apply.g a0_2 l0_3)) else none
theorem blk_at (w : World) (o : Obj) (g : Nat) (h : g = w.heap.size) : (w.alloc o).heap[g]? = some o := by subst h; exact blk_new w o
theorem take_map_succ {α β : Type} (g : α → β) (l : List α) (n : Nat) (d : α) (h : n < l.length) : (l.take (n + 1)).map g = (l.take n).map g ++ [g (l.getD n d)] := by
  rw [List.take_succ_eq_append_getElem h, List.map_append]; simp [List.getD, List.getElem?_eq_getElem h]
set_option maxHeartbeats 1000000 in
set_option maxRecDepth 100000 in
theorem selection_Apply.calls (P0_0_ : Nat → Prop) (A0_0 : Option Addr) (c0_0 : Nat) (l0_0 : List (S48)) (a0_1 : Int) (a0_2 : Bool) (A0_3 : Option Addr) (c0_3 : Nat) (l0_3 : List Int) (A1 : Option Addr) (c1 : Nat) (l1 : List Int) (r1 : List (S48)) (r2 : Int) (r3 : Bool) (r4 : List Int) (w : World) (hs0_0 : Kd.V k48 48 w w.heap.size (fun k_ => P0_0_ k_) (.slice A0_0 l0_0.length c0_0) l0_0) (hr0_3 : Kd.C (Kd.int .i64) w A0_3 l0_3.length l0_3) (hc0_3 : l0_3.length ≤ c0_3) (hr1 : Kd.C (Kd.int .i64) w A1 l1.length l1) (hc1 : l1.length ≤ c1) (h : selection_Apply.f l0_0 a0_1 a0_2 l0_3 l1 = some (r1, r2, r3, r4)) :
    Calls Try.prog 21 #[.agg #[.slice A0_0 l0_0.length c0_0, .int .i64 a0_1, .bool a0_2, .slice A0_3 l0_3.length c0_3], .slice A1 l1.length c1] w fun e w' => ∃ v0_ v3_ : Value, e = .returned (.agg #[v0_, .int .i64 r2, .bool r3, v3_]) ∧ Kd.V k48 48 w' w.heap.size (fun k_ => (P0_0_ k_ ∨ w.heap.size ≤ k_) ∧ some k_ ≠ (v3_ : Value).ownBlock) v0_ r1 ∧ Kd.R (Kd.int .i64) 3 w' w.heap.size (fun k_ => (w.heap.size ≤ k_)) v3_ r4 ∧ Below w.heap.size w w' := by
  have hub := Try.underlying31
  have hV := Kd.V_bound hs0_0
  by_cases c3 : (l1.length : Int) = a0_1
  · have c3b0 : ((l1.length : Int) == a0_1) = true := beq_iff_eq.mpr c3
    simp only [selection_Apply.f, if_pos c3, Option.some.injEq, Prod.mk.injEq] at h
    obtain ⟨rfl, rfl, rfl, rfl⟩ := h
    clear c3
    go_enter Try.func21, Try.ntmps21
    go_wp2
    refine bodyPost_ret (v := .agg #[.slice A0_0 l0_0.length c0_0, .int .i64 a0_1, .bool true, .slice none 0 0]) (by simp [results, Try.results21, go_sem]) rfl ⟨_, _, rfl, ?_, Kd.R_nil _ _ _ _ _, below_alloc (below_alloc (below_alloc (Below.refl _ _) _) _) _⟩
    exact Kd.V_mono (Kd.V_alloc (Kd.V_alloc (Kd.V_alloc hV _) _) _) (fun k hk => ⟨.inl hk.1, by simp [Value.ownBlock]⟩)
  · have c3b0 : ((l1.length : Int) == a0_1) = false := beq_eq_false_iff_ne.mpr c3
    simp only [selection_Apply.f, if_neg c3] at h
    split at h
    case isFalse => cases h
    case isTrue hok =>
    simp only [Option.some.injEq, Prod.mk.injEq] at h
    obtain ⟨rfl, rfl, rfl, rfl⟩ := h
    have hlim : l1.length ≤ 17592186044416 := by
      simp only [selection_Apply.ok, Bool.and_eq_true, decide_eq_true_eq] at hok
      exact hok.1
    have HOK := Aside0.mk hok
    have HV := Aside0.mk hV
    have HC := Aside0.mk hr0_3
    have HR1 := Aside0.mk hr1
    clear hok hV hr0_3 hr1 hs0_0 c3
    go_enter Try.func21, Try.ntmps21
    go_wp2
    go_loopw [22] (fun i wr => ∃ n : Nat, n ≤ l1.length ∧ i = .int .i64 n ∧ ∃ v, Kd.R (Kd.int .i64) 3 wr (w.heap.size + 3) (fun k_ => w.heap.size + 3 ≤ k_) v ((l1.take n).map (selection_Apply.g a0_2 l0_3)) ∧ wr.heap[w.heap.size]? = some (.cells #[.slice A0_0 l0_0.length c0_0, .int .i64 a0_1, .bool a0_2, .slice A0_3 l0_3.length c0_3] 31 (0, 0)) ∧ wr.heap[w.heap.size + 1]? = some (.cells #[.slice none 0 0, .int .i64 0, .bool false, .slice none 0 0] 31 (0, 0)) ∧ wr.heap[w.heap.size + 2]? = some (.cells #[.slice A0_0 l0_0.length c0_0, .int .i64 a0_1, .bool false, v] 31 (0, 0)) ∧ Below w.heap.size w wr)
      (fun i _ => l1.length - (intOf i).toNat)
    case atStart =>
      refine ⟨0, Nat.zero_le _, rfl, .slice none 0 0, Kd.R_nil _ _ _ _ _, ?_, ?_, ?_, below_alloc (below_alloc (below_alloc (Below.refl _ _) _) _) _⟩
      · exact blk_alloc (blk_alloc (blk_new _ _) _) _
      · exact blk_alloc (blk_at _ _ _ (by simp)) _
      · exact blk_at _ _ _ (by simp)
    case round =>
      obtain ⟨n, hn, rfl, v, hR, hB0, hB1, hB2, hb⟩ := hrel
      generalize hxs : (l1.take n).map (selection_Apply.g a0_2 l0_3) = xs at hR
      have hxl : xs.length = n := by rw [← hxs]; simp; omega
      have HXL := Aside0.mk hxl
      have HX := Aside0.mk hxs
      clear hxs hxl
      obtain ⟨vA, vc, rfl⟩ := Kd.R_slice hR
      have hcl := Kd.C_max HR1.out
      by_cases hlt : n < l1.length
      · obtain ⟨ad, rfl, hcx⟩ := Kd.at_int HR1.out (n : Int) (by omega) (by omega)
        have hcx' := pw_cell_below hb hcx
        rw [Int.toNat_natCast] at hcx'
        clear hcx
        have hlt' : (n : Int) < (l1.length : Int) := by omega
        have hs0 := hb.size
        have hs3 := blk_lt hB2
        have q0 : wr.cell? ⟨w.heap.size, 2, none⟩ = some (.bool a0_2) := by rw [blk_cell hB0]; rfl
        have q1 : wr.cell? ⟨w.heap.size, 3, none⟩ = some (.slice A0_3 l0_3.length c0_3) := by rw [blk_cell hB0]; rfl
        have q2 : wr.cell? ⟨w.heap.size + 1 + 1, 3, none⟩ = some (.slice vA xs.length vc) := by rw [blk_cell hB2]; rfl
        have f2 : wr.frozen? ⟨w.heap.size + 1 + 1, 3, none⟩ = false := blk_frozen hB2 3
        have hne : ∀ g, g < w.heap.size + 3 → some g ≠ ((.slice vA xs.length vc) : Value).ownBlock := fun g hg e => by have := Kd.R_base hR g e.symm; omega
        have hgd : (l1.take (n + 1)).map (selection_Apply.g a0_2 l0_3) = (l1.take n).map (selection_Apply.g a0_2 l0_3) ++ [selection_Apply.g a0_2 l0_3 (rd l1 n)] := by
          rw [take_map_succ _ _ _ 0 hlt]; simp [rd]
        have hin : a0_2 = false → 0 ≤ rd l1 n ∧ rd l1 n < (l0_3.length : Int) := by
          intro hf
          have ho := HOK.out
          subst hf
          simp only [selection_Apply.ok, Bool.and_eq_true, Bool.false_or, List.all_eq_true, decide_eq_true_eq] at ho
          exact ho.2 _ (by simp [rd, List.getD, List.getElem?_eq_getElem hlt])
        have HG := Aside0.mk hgd
        clear hgd
        have fin : ∀ (w1 : World) (x : Int) (vA' : Option Addr) (vc' : Nat), Kd.R (Kd.int .i64) 3 w1 (w.heap.size + 3) (fun k_ => w.heap.size + 3 ≤ k_) (.slice vA' (xs ++ [x]).length vc') (xs ++ [x]) → Below (w.heap.size + 3) wr w1 → w.heap.size + 2 < w1.heap.size → w1.heap[w.heap.size]? = some (.cells #[.slice A0_0 l0_0.length c0_0, .int .i64 a0_1, .bool a0_2, .slice A0_3 l0_3.length c0_3] 31 (0, 0)) → w1.heap[w.heap.size + 1]? = some (.cells #[.slice none 0 0, .int .i64 0, .bool false, .slice none 0 0] 31 (0, 0)) → w1.heap[w.heap.size + 2]? = some (.cells #[.slice A0_0 l0_0.length c0_0, .int .i64 a0_1, .bool false, .slice vA xs.length vc] 31 (0, 0)) → x = selection_Apply.g a0_2 l0_3 (rd l1 n) →
            ∃ v, Kd.R (Kd.int .i64) 3 (w1.setCell ⟨w.heap.size + 1 + 1, 3, none⟩ (.slice vA' (xs.length + 1) vc')) (w.heap.size + 3) (fun k_ => w.heap.size + 3 ≤ k_) v ((l1.take (n + 1)).map (selection_Apply.g a0_2 l0_3)) ∧ (w1.setCell ⟨w.heap.size + 1 + 1, 3, none⟩ (.slice vA' (xs.length + 1) vc')).heap[w.heap.size]? = some (.cells #[.slice A0_0 l0_0.length c0_0, .int .i64 a0_1, .bool a0_2, .slice A0_3 l0_3.length c0_3] 31 (0, 0)) ∧ (w1.setCell ⟨w.heap.size + 1 + 1, 3, none⟩ (.slice vA' (xs.length + 1) vc')).heap[w.heap.size + 1]? = some (.cells #[.slice none 0 0, .int .i64 0, .bool false, .slice none 0 0] 31 (0, 0)) ∧ (w1.setCell ⟨w.heap.size + 1 + 1, 3, none⟩ (.slice vA' (xs.length + 1) vc')).heap[w.heap.size + 2]? = some (.cells #[.slice A0_0 l0_0.length c0_0, .int .i64 a0_1, .bool false, v] 31 (0, 0)) ∧ Below w.heap.size w (w1.setCell ⟨w.heap.size + 1 + 1, 3, none⟩ (.slice vA' (xs.length + 1) vc')) := by
          intro w1 x vA' vc' hR1 hb1 hs1 k0 k1 k2 hx
          refine ⟨.slice vA' (xs.length + 1) vc', ?_, blk_far k0 (by simp; omega) _, blk_far k1 (by simp) _, blk_put k2 3 _ rfl, below_set ((hb.trans (hb1.mono (by omega)))) (by omega)⟩
          rw [HG.out, HX.out, ← hx]
          have hR2 := Kd.R_far hR1 (p := ⟨w.heap.size + 1 + 1, 3, none⟩) (fun k hk => by simp; omega) (.slice vA' (xs.length + 1) vc')
          rwa [show (xs ++ [x]).length = xs.length + 1 by simp] at hR2
        have HF := Aside0.mk fin
        clear fin
        cases a0_2
        · obtain ⟨hi0, hi1⟩ := hin rfl
          obtain ⟨ad2, rfl, hcy⟩ := Kd.at_int HC.out (rd l1 n) hi0 hi1
          have hcy' := pw_cell_below hb hcy
          clear hcy hin
          go_wp2_with (at_builtin; (refine Kd.R_append (Kd.int .i64) (w0 := wr) (w.heap.size + 3) rfl _ _ 22 3 (.int .i64 0) 8 rfl Try.underlying22 info3 rfl (by decide) (by decide) (.slice vA xs.length vc) xs (rd l0_3 (rd l1 n)) [.int .i64 (rd l0_3 (rd l1 n))] (fun k_ => w.heap.size + 3 ≤ k_) (fun _ => False) rfl rfl rfl (fun _ h => h.elim) (fun k hk => by omega) hR (Below.refl _ _) ?c1 ?c2 ?_))
          case c1 => omega
          case c2 => have := HXL.out; omega
          intro v1 w1 hR1 hb1 hg1 hat1
          obtain ⟨vA', vc', rfl⟩ := Kd.R_slice hR1
          have k0 := blk_grown hB0 hg1 (hne _ (by omega))
          have k1 := blk_grown hB1 hg1 (hne _ (by omega))
          have k2 := blk_grown hB2 hg1 (hne _ (by omega))
          have p2 : w1.cell? ⟨w.heap.size + 1 + 1, 3, none⟩ = some (.slice vA xs.length vc) := by rw [blk_cell k2]; rfl
          have pf : w1.frozen? ⟨w.heap.size + 1 + 1, 3, none⟩ = false := blk_frozen k2 3
          have hlt1 := blk_lt k2
          clear q0 q1 q2 f2
          go_wp2
          go_roundw
          case rel => exact ⟨n + 1, by omega, by go_num, HF.out _ _ _ _ hR1 hb1 hlt1 k0 k1 k2 rfl⟩
          case measure => simp [intOf]; omega
        · clear hin
          go_wp2_with (at_builtin; (refine Kd.R_append (Kd.int .i64) (w0 := wr) (w.heap.size + 3) rfl _ _ 22 3 (.int .i64 0) 8 rfl Try.underlying22 info3 rfl (by decide) (by decide) (.slice vA xs.length vc) xs (rd l1 n) [.int .i64 (rd l1 n)] (fun k_ => w.heap.size + 3 ≤ k_) (fun _ => False) rfl rfl rfl (fun _ h => h.elim) (fun k hk => by omega) hR (Below.refl _ _) ?c1 ?c2 ?_))
          case c1 => omega
          case c2 => have := HXL.out; omega
          intro v1 w1 hR1 hb1 hg1 hat1
          obtain ⟨vA', vc', rfl⟩ := Kd.R_slice hR1
          have k0 := blk_grown hB0 hg1 (hne _ (by omega))
          have k1 := blk_grown hB1 hg1 (hne _ (by omega))
          have k2 := blk_grown hB2 hg1 (hne _ (by omega))
          have p2 : w1.cell? ⟨w.heap.size + 1 + 1, 3, none⟩ = some (.slice vA xs.length vc) := by rw [blk_cell k2]; rfl
          have pf : w1.frozen? ⟨w.heap.size + 1 + 1, 3, none⟩ = false := blk_frozen k2 3
          have hlt1 := blk_lt k2
          clear q0 q1 q2 f2
          go_wp2
          go_roundw
          case rel => exact ⟨n + 1, by omega, by go_num, HF.out _ _ _ _ hR1 hb1 hlt1 k0 k1 k2 rfl⟩
          case measure => simp [intOf]; omega
      · have hnl : n = l1.length := by omega
        subst hnl
        have e0 : wr.cell? ⟨w.heap.size + 1 + 1, 0, none⟩ = some (.slice A0_0 l0_0.length c0_0) := by rw [blk_cell hB2]; rfl
        have e1 : wr.cell? ⟨w.heap.size + 1 + 1, 1, none⟩ = some (.int .i64 a0_1) := by rw [blk_cell hB2]; rfl
        have e2 : wr.cell? ⟨w.heap.size + 1 + 1, 2, none⟩ = some (.bool false) := by rw [blk_cell hB2]; rfl
        have e3 : wr.cell? ⟨w.heap.size + 1 + 1, 3, none⟩ = some (.slice vA xs.length vc) := by rw [blk_cell hB2]; rfl
        have d0 : wr.cell? ⟨w.heap.size + 1, 0, none⟩ = some (.slice none 0 0) := by rw [blk_cell hB1]; rfl
        have d1 : wr.cell? ⟨w.heap.size + 1, 1, none⟩ = some (.int .i64 0) := by rw [blk_cell hB1]; rfl
        have d2 : wr.cell? ⟨w.heap.size + 1, 2, none⟩ = some (.bool false) := by rw [blk_cell hB1]; rfl
        have d3 : wr.cell? ⟨w.heap.size + 1, 3, none⟩ = some (.slice none 0 0) := by rw [blk_cell hB1]; rfl
        have g0 : wr.frozen? ⟨w.heap.size + 1, 0, none⟩ = false := blk_frozen hB1 0
        have g1 : wr.frozen? ⟨w.heap.size + 1, 1, none⟩ = false := blk_frozen hB1 1
        have g2 : wr.frozen? ⟨w.heap.size + 1, 2, none⟩ = false := blk_frozen hB1 2
        have g3 : wr.frozen? ⟨w.heap.size + 1, 3, none⟩ = false := blk_frozen hB1 3
        go_wp2
        have hx := HX.out
        rw [List.take_length] at hx
        refine bodyPost_ret (v := .agg #[.slice A0_0 l0_0.length c0_0, .int .i64 a0_1, .bool false, .slice vA xs.length vc]) (by simp [results, Try.results21, go_sem, g0, g1, g2, g3, d0, d1, d2, d3]) rfl ⟨_, _, rfl, ?_, ?_, ?_⟩
        · refine Kd.V_mono (Kd.V_far (p := ⟨w.heap.size + 1, 3, none⟩) (Kd.V_far (p := ⟨w.heap.size + 1, 2, none⟩) (Kd.V_far (p := ⟨w.heap.size + 1, 1, none⟩) (Kd.V_far (p := ⟨w.heap.size + 1, 0, none⟩) (Kd.V_below HV.out hb) ?_ _) ?_ _) ?_ _) ?_ _) (fun k hk => ⟨.inl hk.1, fun e => by have := Kd.R_base hR k e.symm; omega⟩)
          all_goals (intro k hk; simp; omega)
        · rw [hx]
          refine Kd.R_mono (Kd.R_lower (Kd.R_far (p := ⟨w.heap.size + 1, 3, none⟩) (Kd.R_far (p := ⟨w.heap.size + 1, 2, none⟩) (Kd.R_far (p := ⟨w.heap.size + 1, 1, none⟩) (Kd.R_far (p := ⟨w.heap.size + 1, 0, none⟩) hR ?_ _) ?_ _) ?_ _) ?_ _) (by omega)) (fun k hk => by omega)
          all_goals (intro k hk; simp; omega)
        · exact below_set (below_set (below_set (below_set hb (by omega)) (by omega)) (by omega)) (by omega)

end Go.Proofs.Ytijgbhbdmnhanaa.QSelectionCompose
