-- Written by a program of this session (wip/pr2.sh): the walk of the Go text, function by function.
import Derived.Test.YtllhbjkkoogeeaaQBitpackPackx0
import Derived.Test.YtllhbjkkoogeeaaQBitpackPackx1
namespace Go.Proofs.Ytllhbjkkoogeeaa.QBitpackPack
open Go.RowKit Go.Proofs.YtllhbjkkoogeeaaW.PrintWords Go.Proofs.YtllhbjkkoogeeaaW.PrintLast Go.Proofs.YtllhbjkkoogeeaaW.PrintMore
open Go.Proofs.YtllhbjkkoogeeaaM
attribute [local go_sem] max2_int min2_int max_two min_two max_three min_three max_four min_four   -- for this text's walks alone
set_option linter.unusedVariables false
set_option linter.unusedSimpArgs false

/-! ### laminaref01_BitWidth: function 56 -/
def laminaref01_BitWidth.l0 : Nat → Int → Int → Option (Int)
 | 0, _, _ => none
 | k + 1, x0, x3 => if x0 > 0 then (laminaref01_BitWidth.l0 k (IntKind.u64.wrap (Int.tdiv x0 2)) (wrap64 (x3 + 1))) else (some x3)
def laminaref01_BitWidth.f (k : Nat) (a0 : Int) : Option (Int) := laminaref01_BitWidth.l0 k a0 0
theorem laminaref01_BitWidth.mono_l : ∀ k, (∀ y0 y1, LeO (laminaref01_BitWidth.l0 k y0 y1) (laminaref01_BitWidth.l0 (k + 1) y0 y1))
 | 0 => fun _ _ r h => by simp [laminaref01_BitWidth.l0] at h
 | k + 1 => by
  have ih0 := laminaref01_BitWidth.mono_l k
  ·intro y0 y1
   unfold laminaref01_BitWidth.l0
   repeat' first
   | (with_reducible exact ih0 _ _)
   | (with_reducible exact LeO.refl _)
   | (with_reducible exact LeO.none _)
   | (with_reducible refine LeO.ite ?_ ?_)
   | (with_reducible refine LeO.bind ?_ (fun _ => ?_))
   | exact ih0 _ _
   | exact LeO.none _
   | refine LeO.ite ?_ ?_
   | refine LeO.bind ?_ (fun _ => ?_)
theorem laminaref01_BitWidth.mono : ∀ a0 k, LeO (laminaref01_BitWidth.f k a0) (laminaref01_BitWidth.f (k + 1) a0) := by
 intro a0 k
 have ih0 := laminaref01_BitWidth.mono_l k
 unfold laminaref01_BitWidth.f
 repeat' first
   | (with_reducible exact ih0 _ _)
   | (with_reducible exact LeO.refl _)
   | (with_reducible exact LeO.none _)
   | (with_reducible refine LeO.ite ?_ ?_)
   | (with_reducible refine LeO.bind ?_ (fun _ => ?_))
   | exact ih0 _ _
   | exact LeO.none _
   | refine LeO.ite ?_ ?_
   | refine LeO.bind ?_ (fun _ => ?_)
set_option maxHeartbeats 8000000 in
set_option maxRecDepth 100000 in
theorem laminaref01_BitWidth.calls (k : Nat) (a0 : Int) (r : Int) (w : World) (h : laminaref01_BitWidth.f k a0 = some r) :
  Calls Try.prog 56 #[.int .u64 a0] w fun e w' => e = .returned (.int .i64 r) ∧ Drawn0 w w' := by
 have H : (laminaref01_BitWidth.l0 k a0 0) = some r := h
 clear h
 have H' := Aside0.mk H
 clear H
 go_enter Try.func56, Try.ntmps56
 go_wp2
 go_loopg [0, 3] k (fun kq v0 v3 w' => ∃ (x0_1 : Int) (x3_1 : Int), v0 = .int .u64 x0_1 ∧ v3 = .int .i64 x3_1 ∧ Aside0 (laminaref01_BitWidth.l0 kq x0_1 x3_1 = some r) ∧ Aside0 (kq ≤ k) ∧ Drawn0 w w')
 case atStart => exact ⟨(a0), (0), (by first | rfl | (simp; done) | (simp [*]; done)), (by first | rfl | (simp; done) | (simp [*]; done)), H', ⟨Nat.le_refl _⟩, by repeat (first | exact Drawn0.refl _ | apply Drawn0.step)⟩
 case round =>
  clear H'
  obtain ⟨x0_1, x3_1, rfl, rfl, HA, HK1, ⟨m1, rfl⟩⟩ := hrel
  cases gk with
  | zero => exact absurd HA.out (by simp [laminaref01_BitWidth.l0])
  | succ k1 =>
   have H := HA.out
   clear HA
   simp only [laminaref01_BitWidth.l0] at H
   by_cases c2 : x0_1 > 0
   ·rw [if_pos c2] at H
    have c2b0 : decide (0 < x0_1) = true := decide_eq_true c2
    clear c2
    have H' := Aside0.mk H
    clear H
    go_wp2
    go_roundg k1
    case measure => have := HK1.out; omega
    case rel => exact ⟨(IntKind.u64.wrap (Int.tdiv x0_1 2)), (wrap64 (x3_1 + 1)), (by first | rfl | (simp; done) | (simp [*]; done)), (by first | rfl | (simp; done) | (simp [*]; done)), H', ⟨by have := HK1.out; omega⟩, by repeat (first | exact Drawn0.refl _ | apply Drawn0.step)⟩
   ·rw [if_neg c2] at H
    have c2b0 : decide (0 < x0_1) = false := decide_eq_false c2
    clear c2
    obtain rfl := Option.some.inj H
    go_wp2
    go_ret
    exact ⟨by first | rfl | (simp; done) | (simp [*]; done), by repeat (first | exact Drawn0.refl _ | apply Drawn0.step)⟩

/-! ### laminaref06_Width: function 20 -/
def laminaref06_Width.l0 : Nat → List Int → Int → Int → Option (Int)
 | 0, _, _, _ => none
 | k + 1, x0, x3, x4 => if x4 < (x0.length : Int) then (if 0 ≤ x4 then ((laminaref01_BitWidth.f k (rd x0 x4)).bind fun t160 => (laminaref06_Width.l0 k x0 (mx x3 t160) (wrap64 (x4 + 1)))) else (none)) else (some x3)
def laminaref06_Width.f (k : Nat) (l0 : List Int) : Option (Int) := laminaref06_Width.l0 k l0 0 0
theorem laminaref06_Width.mono_l : ∀ k, (∀ y0 y1 y2, LeO (laminaref06_Width.l0 k y0 y1 y2) (laminaref06_Width.l0 (k + 1) y0 y1 y2))
 | 0 => fun _ _ _ r h => by simp [laminaref06_Width.l0] at h
 | k + 1 => by
  have ih0 := laminaref06_Width.mono_l k
  ·intro y0 y1 y2
   unfold laminaref06_Width.l0
   repeat' first
   | (with_reducible exact ih0 _ _ _)
   | (with_reducible exact laminaref01_BitWidth.mono _ _)
   | (with_reducible exact LeO.refl _)
   | (with_reducible exact LeO.none _)
   | (with_reducible refine LeO.ite ?_ ?_)
   | (with_reducible refine LeO.bind ?_ (fun _ => ?_))
   | exact ih0 _ _ _
   | exact laminaref01_BitWidth.mono _ _
   | exact LeO.none _
   | refine LeO.ite ?_ ?_
   | refine LeO.bind ?_ (fun _ => ?_)
theorem laminaref06_Width.mono : ∀ a0 k, LeO (laminaref06_Width.f k a0) (laminaref06_Width.f (k + 1) a0) := by
 intro a0 k
 have ih0 := laminaref06_Width.mono_l k
 unfold laminaref06_Width.f
 repeat' first
   | (with_reducible exact ih0 _ _ _)
   | (with_reducible exact laminaref01_BitWidth.mono _ _)
   | (with_reducible exact LeO.refl _)
   | (with_reducible exact LeO.none _)
   | (with_reducible refine LeO.ite ?_ ?_)
   | (with_reducible refine LeO.bind ?_ (fun _ => ?_))
   | exact ih0 _ _ _
   | exact laminaref01_BitWidth.mono _ _
   | exact LeO.none _
   | refine LeO.ite ?_ ?_
   | refine LeO.bind ?_ (fun _ => ?_)
set_option maxHeartbeats 8000000 in
set_option maxRecDepth 100000 in
theorem laminaref06_Width.calls (k : Nat) (A0 : Option Addr) (c0 : Nat) (l0 : List Int) (r : Int) (w : World) (hr0 : Kd.C (Kd.int .u64) w A0 l0.length l0) (hc0 : l0.length ≤ c0) (h : laminaref06_Width.f k l0 = some r) :
  Calls Try.prog 20 #[.slice A0 l0.length c0] w fun e w' => e = .returned (.int .i64 r) ∧ Below w.heap.size w w' := by
 have HR0 := Aside0.mk hr0
 have HC0 := Aside0.mk hc0
 clear hr0 hc0
 have HB := Aside0.mk (Below.refl w.heap.size w)
 have H : (laminaref06_Width.l0 k l0 0 0) = some r := h
 clear h
 have H' := Aside0.mk H
 clear H
 go_enter Try.func20, Try.ntmps20
 go_wp2
 go_loopg [3, 4] k (fun kq v3 v4 w' => ∃ (x3_1 : Int) (x4_1 : Int), v3 = .int .i64 x3_1 ∧ v4 = .int .i64 x4_1 ∧ Aside0 (laminaref06_Width.l0 kq l0 x3_1 x4_1 = some r) ∧ Aside0 (kq ≤ k) ∧ Aside0 (Below w.heap.size w w'))
 case atStart => exact ⟨(0), (0), (by first | rfl | (simp; done) | (simp [*]; done)), (by first | rfl | (simp; done) | (simp [*]; done)), H', ⟨Nat.le_refl _⟩, ⟨by repeat (first | (with_reducible first | exact HB.out | apply below_alloc | apply pw_below_drewN | apply below_drew1) | exact HB.out)⟩⟩
 case round =>
  clear H'
  obtain ⟨x3_1, x4_1, rfl, rfl, HA, HK1, HB⟩ := hrel
  cases gk with
  | zero => exact absurd HA.out (by simp [laminaref06_Width.l0])
  | succ k1 =>
   have H := HA.out
   clear HA
   simp only [laminaref06_Width.l0] at H
   by_cases c2 : x4_1 < (l0.length : Int)
   ·rw [if_pos c2] at H
    have c2b0 : decide (x4_1 < (l0.length : Int)) = true := decide_eq_true c2
    clear c2
    by_cases c3 : 0 ≤ x4_1
    ·rw [if_pos c3] at H
     have c3b0 : decide (0 ≤ x4_1) = true := decide_eq_true c3
     clear c3
     replace H := Option.bind_eq_some_iff.mp H
     obtain ⟨t160, A40, H⟩ := H
     replace H : (laminaref06_Width.l0 k1 l0 (mx x3_1 t160) (wrap64 (x4_1 + 1))) = some r := H
     have A4 := Aside0.mk A40
     clear A40
     obtain ⟨ji5, hji5⟩ : ∃ j_ : Int, (mx x3_1 t160) = j_ := ⟨_, rfl⟩
     replace H : (laminaref06_Width.l0 k1 l0 ji5 (wrap64 (x4_1 + 1))) = some r := by first | (rw [hji5] at H; exact H) | (simp only [hji5] at H ⊢; exact H)
     (try rw [hji5] at A4)
     have hji5_ : (if x3_1 < t160 then t160 else x3_1) = ji5 := hji5
     have H' := Aside0.mk H
     clear H
     have p159 : 0 ≤ (x4_1 : Int) := of_decide_eq_true (by first | (with_reducible assumption) | assumption)
     have q159 : x4_1 < (l0.length : Int) := of_decide_eq_true (by first | (with_reducible assumption) | assumption)
     obtain ⟨ad159, e159, hx159_0⟩ := Kd.at_int HR0.out x4_1 p159 q159
     cases e159
     replace hx159_0 := (HB.out.cell (World.block_lt_of_cell? w _ hx159_0)).trans hx159_0
     replace p159 := eq_true p159
     replace q159 := eq_true q159
     go_wp2_with (first | ((with_reducible refine gate_callee (f := 56) rfl ?_); refine goesL_ (some 16) rfl rfl Try.func56 (by kernel_rfl) rfl #[.int .u64 (rd l0 x4_1)] rfl (by (try simp only [List.map_toArray, List.map_cons, List.map_nil]); first | done | rfl | (simp only [List.length_drop, List.length_take]; rfl)) ?_; (with_reducible refine (laminaref01_BitWidth.calls k1 (rd l0 x4_1) t160 _ A4.out).mono ?_); rintro e w' ⟨rfl, ⟨nd, rfl⟩⟩; refine ⟨_, rfl, ?_⟩))
     go_roundg k1
     case measure => have := HK1.out; omega
     case rel => exact ⟨(ji5), (wrap64 (x4_1 + 1)), (by first | rfl | (simp; done) | (simp only [← hji5] <;> (first | rfl | simp)) | (simp [*]; done)), (by first | rfl | (simp; done) | (simp [*]; done)), H', ⟨by have := HK1.out; omega⟩, ⟨by repeat (first | (with_reducible first | exact HB.out | apply below_alloc | apply pw_below_drewN | apply below_drew1) | exact HB.out)⟩⟩
    ·rw [if_neg c3] at H
     exact absurd H (by simp)
   ·rw [if_neg c2] at H
    have c2b0 : decide (x4_1 < (l0.length : Int)) = false := decide_eq_false c2
    clear c2
    obtain rfl := Option.some.inj H
    go_wp2
    go_ret
    exact ⟨by first | rfl | (simp [errW_none, errW_some] <;> rfl) | (simp [*, errW_none, errW_some] <;> rfl), by repeat (first | (with_reducible first | exact HB.out | apply below_alloc | apply pw_below_drewN | apply below_drew1) | exact HB.out)⟩

/-! ### laminaref06_ok: function 58 -/
def laminaref06_ok.f (a0 : Int) (a1 : Int) : Option (Bool) := if a0 ≥ 0 then (if a0 ≤ 1048576 then (if a1 ≥ 0 then (some (decide (a1 ≤ 64))) else (some false)) else (some false)) else (some false)
set_option maxHeartbeats 8000000 in
set_option maxRecDepth 100000 in
theorem laminaref06_ok.calls (a0 : Int) (a1 : Int) (r : Bool) (w : World) (h : laminaref06_ok.f a0 a1 = some r) :
  Calls Try.prog 58 #[.int .i64 a0, .int .i64 a1] w fun e w' => e = .returned (.bool r) ∧ Drawn0 w w' := by
 have H : (if a0 ≥ 0 then (if a0 ≤ 1048576 then (if a1 ≥ 0 then (some (decide (a1 ≤ 64))) else (some false)) else (some false)) else (some false)) = some r := h
 clear h
 by_cases c3 : a0 ≥ 0
 ·rw [if_pos c3] at H
  have c3b0 : decide (0 ≤ a0) = true := decide_eq_true c3
  clear c3
  by_cases c4 : a0 ≤ 1048576
  ·rw [if_pos c4] at H
   have c4b0 : decide (a0 ≤ 1048576) = true := decide_eq_true c4
   clear c4
   by_cases c5 : a1 ≥ 0
   ·rw [if_pos c5] at H
    have c5b0 : decide (0 ≤ a1) = true := decide_eq_true c5
    clear c5
    obtain rfl := Option.some.inj H
    go_enter Try.func58, Try.ntmps58
    go_wp2
    go_ret
    exact ⟨by first | rfl | (simp; done) | (simp [*]; done), by repeat (first | exact Drawn0.refl _ | apply Drawn0.step)⟩
   ·rw [if_neg c5] at H
    have c5b0 : decide (0 ≤ a1) = false := decide_eq_false c5
    clear c5
    obtain rfl := Option.some.inj H
    go_enter Try.func58, Try.ntmps58
    go_wp2
    go_ret
    exact ⟨by first | rfl | (simp; done) | (simp [*]; done), by repeat (first | exact Drawn0.refl _ | apply Drawn0.step)⟩
  ·rw [if_neg c4] at H
   have c4b0 : decide (a0 ≤ 1048576) = false := decide_eq_false c4
   clear c4
   obtain rfl := Option.some.inj H
   go_enter Try.func58, Try.ntmps58
   go_wp2
   go_ret
   exact ⟨by first | rfl | (simp; done) | (simp [*]; done), by repeat (first | exact Drawn0.refl _ | apply Drawn0.step)⟩
 ·rw [if_neg c3] at H
  have c3b0 : decide (0 ≤ a0) = false := decide_eq_false c3
  clear c3
  obtain rfl := Option.some.inj H
  go_enter Try.func58, Try.ntmps58
  go_wp2
  go_ret
  exact ⟨by first | rfl | (simp; done) | (simp [*]; done), by repeat (first | exact Drawn0.refl _ | apply Drawn0.step)⟩

/-! ### laminaref06_Size: function 22 -/
def laminaref06_Size.f (a0 : Int) (a1 : Int) : Option (Int) := (laminaref06_ok.f a0 a1).bind fun t161 => (if t161 = true then (some (wrap64 (Int.tdiv (wrap64 ((wrap64 (a0 * a1)) + 7)) 8))) else (some 0))
set_option maxHeartbeats 8000000 in
set_option maxRecDepth 100000 in
theorem laminaref06_Size.calls (a0 : Int) (a1 : Int) (r : Int) (w : World) (h : laminaref06_Size.f a0 a1 = some r) :
  Calls Try.prog 22 #[.int .i64 a0, .int .i64 a1] w fun e w' => e = .returned (.int .i64 r) ∧ Drawn0 w w' := by
 have H : ((laminaref06_ok.f a0 a1).bind fun t161 => (if t161 = true then (some (wrap64 (Int.tdiv (wrap64 ((wrap64 (a0 * a1)) + 7)) 8))) else (some 0))) = some r := h
 clear h
 replace H := Option.bind_eq_some_iff.mp H
 obtain ⟨t161, A30, H⟩ := H
 replace H : (if t161 = true then (some (wrap64 (Int.tdiv (wrap64 ((wrap64 (a0 * a1)) + 7)) 8))) else (some 0)) = some r := H
 have A3 := Aside0.mk A30
 clear A30
 by_cases c4 : t161 = true
 ·subst c4
  have H1 : (some (wrap64 (Int.tdiv (wrap64 ((wrap64 (a0 * a1)) + 7)) 8))) = some r := by rw [if_pos rfl] at H; exact H
  clear H
  have H := H1
  clear H1
  obtain rfl := Option.some.inj H
  go_enter Try.func22, Try.ntmps22
  go_wp2_with (first | ((with_reducible refine gate_callee (f := 58) rfl ?_); refine goesL_ (some 7) rfl rfl Try.func58 (by kernel_rfl) rfl #[.int .i64 a0, .int .i64 a1] rfl (by (try simp only [List.map_toArray, List.map_cons, List.map_nil]); first | done | rfl | (simp only [List.length_drop, List.length_take]; rfl)) ?_; (with_reducible refine (laminaref06_ok.calls a0 a1 true _ A3.out).mono ?_); rintro e w' ⟨rfl, ⟨nd, rfl⟩⟩; refine ⟨_, rfl, ?_⟩))
  go_ret
  exact ⟨by first | rfl | (simp; done) | (simp [*]; done), by repeat (first | exact Drawn0.refl _ | apply Drawn0.step)⟩
 ·replace c4 := Bool.eq_false_iff.mpr c4
  subst c4
  have H1 : (some 0) = some r := by rw [if_neg (show ¬ (false = true) by decide)] at H; exact H
  clear H
  have H := H1
  clear H1
  obtain rfl := Option.some.inj H
  go_enter Try.func22, Try.ntmps22
  go_wp2_with (first | ((with_reducible refine gate_callee (f := 58) rfl ?_); refine goesL_ (some 7) rfl rfl Try.func58 (by kernel_rfl) rfl #[.int .i64 a0, .int .i64 a1] rfl (by (try simp only [List.map_toArray, List.map_cons, List.map_nil]); first | done | rfl | (simp only [List.length_drop, List.length_take]; rfl)) ?_; (with_reducible refine (laminaref06_ok.calls a0 a1 false _ A3.out).mono ?_); rintro e w' ⟨rfl, ⟨nd, rfl⟩⟩; refine ⟨_, rfl, ?_⟩))
  go_ret
  exact ⟨by first | rfl | (simp; done) | (simp [*]; done), by repeat (first | exact Drawn0.refl _ | apply Drawn0.step)⟩

/-! ### laminaref06_Pack: function 24 -/
def laminaref06_Pack.f (l0 : List Int) (a1 : Int) : Option (List Int) := bitpack_Pack.f l0 a1
theorem rpack_size (n w : Nat) (hn : n ≤ 1048576) (hw : w ≤ 64) : laminaref06_ok.f (n : Int) (w : Int) = some true ∧ laminaref06_Size.f (n : Int) (w : Int) = some ((pbytes n w : Nat) : Int) := by
  have h1 : laminaref06_ok.f (n : Int) (w : Int) = some true := by
    unfold laminaref06_ok.f
    rw [if_pos (by omega), if_pos (by omega), if_pos (by omega), decide_eq_true (by omega)]
  refine ⟨h1, ?_⟩
  have hm : n * w ≤ 1048576 * 64 := Nat.mul_le_mul hn hw
  have e1 : ((n : Int) * (w : Int)) = ((n * w : Nat) : Int) := by simp
  unfold laminaref06_Size.f
  rw [h1]
  simp only [Option.bind_some, if_true]
  rw [e1, w64 ((n * w : Nat) : Int) (by omega) (by omega), w64 (((n * w : Nat) : Int) + 7) (by omega) (by omega), Int.tdiv_eq_ediv_of_nonneg (by omega), w64 _ (by omega) (by omega)]
  unfold pbytes
  congr 1
theorem rput_bit (n y g c : Nat) (hn : n < 18446744073709551616) (hc : c ≤ 7) (hy : y < 2 ^ c) :
    bits .or .u8 (y : Int) (bits .and .u64 ((n : Int) / 2 ^ g) 1 % 256 * 2 ^ c % 256) = ((y + n / 2 ^ g % 2 ^ 1 * 2 ^ c : Nat) : Int) ∧ y + n / 2 ^ g % 2 ^ 1 * 2 ^ c < 256 := by
  have h := put_byte (n / 2 ^ g) y c 1 (Nat.lt_of_le_of_lt (Nat.div_le_self _ _) hn) (by omega) hy
  rw [show IntKind.u64.wrap (IntKind.u64.wrap (2 ^ 1) - 1) = 1 by decide] at h
  rw [show ((n / 2 ^ g : Nat) : Int) = (n : Int) / 2 ^ g by simp] at h
  exact h
set_option maxHeartbeats 1000000 in
set_option maxRecDepth 100000 in
theorem laminaref06_Pack.calls (A0 : Option Addr) (c0 : Nat) (l0 : List Int) (a1 : Int) (r : List Int) (w : World) (hr0 : Kd.C (Kd.int .u64) w A0 l0.length l0) (hc0 : l0.length ≤ c0) (h : laminaref06_Pack.f l0 a1 = some r) :
    Calls Try.prog 24 #[.slice A0 l0.length c0, .int .i64 a1] w fun e w' => ∃ v0_ : Value, e = .returned (v0_) ∧ Kd.R (Kd.int .u8) 5 w' w.heap.size (fun _ => True) v0_ r ∧ Below w.heap.size w w' := by
  have hmx := Kd.C_max hr0
  unfold laminaref06_Pack.f at h
  by_cases hc : 0 ≤ a1 ∧ a1 ≤ 64 ∧ l0.length ≤ 1048576
  · unfold bitpack_Pack.f at h
    rw [if_pos hc] at h
    split at h
    case isFalse => cases h
    case isTrue hu =>
    obtain rfl := Option.some.inj h
    obtain ⟨hc1, hc2, hc3⟩ := hc
    obtain ⟨W, rfl⟩ := Int.eq_ofNat_of_zero_le hc1
    obtain ⟨hi1, hi2⟩ := rpack_size l0.length W hc3 (by omega)
    have hpl := pbytes_le l0.length W hc3 (by omega)
    obtain ⟨S, hS⟩ : ∃ S : Nat, S = pbytes l0.length W := ⟨_, rfl⟩
    rw [← hS] at hi2 hpl
    have HS := Aside0.mk hS
    have HI1 := Aside0.mk hi1
    have HI2 := Aside0.mk hi2
    have HR := Aside0.mk hr0
    have HU := Aside0.mk hu
    rw [Int.toNat_natCast]
    clear hr0 h hi1 hi2 hS hu hc1
    go_enter Try.func24, Try.ntmps24
    go_wp2_with (first
      | (go_at_call 58; refine (laminaref06_ok.calls _ _ true _ HI1.out).mono ?_; rintro e w' ⟨rfl, ⟨nd, rfl⟩⟩)
      | (go_at_call 22; refine (laminaref06_Size.calls _ _ _ _ HI2.out).mono ?_; rintro e w' ⟨rfl, ⟨nd2, rfl⟩⟩)
      | ((with_reducible refine gate_dst (N := 17) rfl ?_); refine Kd.R_make (Kd.int .u8) w.heap.size 5 rfl (N := 17) rfl 26 _ _ rfl (S : Int) rfl rfl Try.underlying26 (.int .u8 0) 1 info5 rfl (by decide) (by omega) 0 (ok := fun k => w.heap.size ≤ k) (okp := fun _ => False) rfl (fun _ h => h.elim) (by simp) (by omega) (by omega) (Below.refl _ _) (by simp) ?_; intro v1 w1 hR1 hb1 hg1 hat1; (generalize hz : List.replicate (S : Int).toNat (0 : Int) = zs at hR1); have HZ := Aside0.mk hz; clear hz; obtain ⟨vA, vc, rfl⟩ := Kd.R_slice hR1))
    go_loopw [6, 7] (fun v6 v7 wr => ∃ (i : Nat) (ys : List Int), i ≤ l0.length ∧ v6 = .int .i64 (i : Int) ∧ Aside0 (ys.length = zs.length) ∧ Aside0 (∀ x ∈ ys, 0 ≤ x ∧ x < 256) ∧ Aside0 (le ys = packN W (l0.take i)) ∧
      Aside0 (Kd.R (Kd.int .u8) 5 wr w.heap.size (fun _ => True) (.slice vA zs.length vc) ys) ∧ Below w.heap.size w wr) (fun v6 _ _ => l0.length - (intOf v6).toNat)
    case atStart =>
      refine ⟨0, zs, Nat.zero_le _, rfl, ⟨rfl⟩, ⟨?_⟩, ⟨?_⟩, ⟨Kd.R_mono hR1 (fun _ _ => trivial)⟩, ?_⟩
      · intro x hx; rw [← HZ.out] at hx; have := List.eq_of_mem_replicate hx; omega
      · rw [← HZ.out, le_zeros]; rfl
      · exact (pw_below_drewN (Below.refl _ _) _).trans hb1
    case round =>
      obtain ⟨i, ys, hi, rfl, hyl, HY, HL, HRy, hb⟩ := hrel
      by_cases hlt : i < l0.length
      · obtain ⟨wo, hwo⟩ : ∃ wo : World, wo = wr := ⟨_, rfl⟩
        subst hwo
        obtain ⟨ad, rfl, hcx⟩ := Kd.at_int HR.out (i : Int) (by omega) (by omega)
        have hu1 : 0 ≤ rd l0 (i : Int) ∧ rd l0 (i : Int) < 18446744073709551616 := by
          have h1 := HU.out
          simp only [List.all_eq_true, Bool.and_eq_true, decide_eq_true_eq] at h1
          exact h1 _ (by rw [rd_nat, List.getD_eq_getElem?_getD, List.getElem?_eq_getElem hlt]; exact List.getElem_mem _)
        obtain ⟨n, hn⟩ : ∃ n : Nat, rd l0 (i : Int) = (n : Int) := ⟨(rd l0 (i : Int)).toNat, by omega⟩
        have hn64 : n < 18446744073709551616 := by omega
        rw [Int.toNat_natCast, hn] at hcx
        have HCX := Aside0.mk hcx
        have HN := Aside0.mk hn
        clear hcx hu1 hn
        have hlt' : (i : Int) < (l0.length : Int) := by omega
        have hzS : zs.length = S := by rw [← HZ.out]; simp
        have HZS := Aside0.mk hzS
        clear hzS
        go_wp2
        go_loopw [7] (fun v7 wr => ∃ (g : Nat) (us : List Int), g ≤ W ∧ v7 = .int .i64 (g : Int) ∧ Aside0 (us.length = zs.length) ∧ Aside0 (∀ x ∈ us, 0 ≤ x ∧ x < 256) ∧ Aside0 (le us = packN W (l0.take i) + n % 2 ^ g * 2 ^ (W * i)) ∧
          Aside0 (Kd.R (Kd.int .u8) 5 wr w.heap.size (fun _ => True) (.slice vA zs.length vc) us) ∧ Below w.heap.size w wr) (fun v7 _ => W - (intOf v7).toNat)
        case atStart => exact ⟨0, ys, Nat.zero_le _, rfl, hyl, HY, ⟨by rw [HL.out]; simp [Nat.mod_one]⟩, HRy, hb⟩
        case round =>
          obtain ⟨g, us, hg, rfl, hul, HU2, HL2, HRu, hb2⟩ := hrel
          by_cases hgt : g < W
          · obtain ⟨q, hq⟩ : ∃ q : Nat, q = i * W := ⟨_, rfl⟩
            obtain ⟨p, hp⟩ : ∃ p : Nat, p = q + g := ⟨_, rfl⟩
            obtain ⟨c, hc⟩ : ∃ c : Nat, c = p % 8 := ⟨_, rfl⟩
            obtain ⟨j, hj⟩ : ∃ j : Nat, j = p / 8 := ⟨_, rfl⟩
            have hq1 : q ≤ 67108864 := by rw [hq]; exact Nat.mul_le_mul (show i ≤ 1048576 by omega) (show W ≤ 64 by omega)
            have hjl : j < zs.length := by
              have h3 := HZS.out; have h4 := HS.out
              have h5 : i * W + W ≤ l0.length * W := by rw [← Nat.succ_mul]; exact Nat.mul_le_mul_right _ hlt
              rw [h3, h4]; unfold pbytes; omega
            have hc7 : c ≤ 7 := by omega
            have hp1 : p ≤ 67109000 := by omega
            have eq1 : (i : Int) * (W : Int) = (q : Int) := by rw [hq]; simp
            have eq2 : (q : Int) + (g : Int) = (p : Int) := by omega
            have eq3 : (p : Int) % 8 = (c : Int) := by omega
            have eq4 : (p : Int) / 8 = (j : Int) := by omega
            have HQ := Aside0.mk (And.intro hq (And.intro hp (And.intro hc hj)))
            clear hq hp hc hj
            have ewq : IntKind.i64.wrap (q : Int) = (q : Int) := IntWalk.i64_in _ (by omega)
            have ewp : IntKind.i64.wrap (p : Int) = (p : Int) := IntWalk.i64_in _ (by omega)
            have ewj : IntKind.i64.wrap (j : Int) = (j : Int) := IntWalk.i64_in _ (by omega)
            have ewg : IntKind.u64.wrap (g : Int) = (g : Int) := wraps_u64 _ (by omega) (by omega)
            have ewc : IntKind.u64.wrap (c : Int) = (c : Int) := wraps_u64 _ (by omega) (by omega)
            have hcx' := pw_cell_below hb2 HCX.out
            obtain ⟨gb, c0', hv, _, hglt, _⟩ := Kd.R_form HRu.out (by have := hul.out; omega)
            obtain ⟨rfl, rfl⟩ : vA = some ⟨gb, 0, none⟩ ∧ vc = c0' := by injection hv with e1 e2 e3; exact ⟨e1, e3⟩
            clear hv
            have hyv : us.getD j 0 = ((le us / 256 ^ j % 256 : Nat) : Int) := le_get us j HU2.out
            obtain ⟨hcy, hfy⟩ := Kd.R_cell (0 : Int) (show Kd.R (Kd.int .u8) 5 wr w.heap.size (fun _ => True) (.slice (some ⟨gb, 0, none⟩) us.length vc) us by rw [hul.out]; exact HRu.out) (j : Int) (by omega) (by have := hul.out; omega)
            obtain ⟨y, hy⟩ : ∃ y : Nat, y = le us / 256 ^ j % 256 := ⟨_, rfl⟩
            have hcy' : wr.cell? ⟨gb, j, none⟩ = some (.int .u8 (y : Int)) := by
              have : rdOf (0 : Int) us (j : Int) = (y : Int) := by rw [hy, ← hyv]; simp [rdOf]
              rw [← this]; simpa using hcy
            have hfy' : wr.frozen? ⟨gb, j, none⟩ = false := by simpa using hfy
            have HYV := Aside0.mk hy
            have hgb := Kd.R_base HRu.out gb (by simp [Value.ownBlock])
            clear hcy hfy hyv hy
            go_wp2
            go_region
            go_wp2
            have hylt : y < 2 ^ c := by
              have h1 := HQ.out
              rw [HYV.out, h1.2.2.1, h1.2.2.2]
              refine byte_lt _ _ ?_
              rw [HL2.out]
              have h2 := packN_lt W (l0.take i)
              rw [List.length_take, Nat.min_eq_left (by omega)] at h2
              exact put_lt _ n g (W * i) p h2 (by rw [h1.2.1, h1.1, Nat.mul_comm])
            obtain ⟨hb1, hb3⟩ := rput_bit n y g c hn64 hc7 hylt
            rw [hb1]
            have hjl2 : j < us.length := by have := hul.out; omega
            have hle2 := put_le us (packN W (l0.take i)) n (W * i) g p c j 1 y (n / 2 ^ g) HQ.out.2.2.1 HQ.out.2.2.2 (by rw [HQ.out.2.1, HQ.out.1, Nat.mul_comm]) rfl HL2.out hjl2 HYV.out HU2.out
            have hRp := (Kd.R_put (enc := Value.int .u8) (h1 := fun _ => rfl) (show Kd.R (Kd.int .u8) 5 wr w.heap.size (fun _ => True) (.slice (some ⟨gb, 0, none⟩) us.length vc) us by rw [hul.out]; exact HRu.out) (j : Int) ((y + n / 2 ^ g % 2 ^ 1 * 2 ^ c : Nat) : Int)).1
            rw [Int.toNat_natCast, hul.out] at hRp
            refine ⟨⟨g + 1, us.set j ((y + n / 2 ^ g % 2 ^ 1 * 2 ^ c : Nat) : Int), by omega, rfl, ⟨by rw [List.length_set]; exact hul.out⟩, ⟨?_⟩, ⟨hle2⟩, ⟨Kd.R_drew hRp⟩, below_drew (hb2.setCell hgb _)⟩, by simp [intOf]; omega⟩
            intro x hx
            rcases List.mem_or_eq_of_mem_set hx with h | h
            · exact HU2.out x h
            · rw [h]; omega
          · obtain rfl : g = W := by omega
            go_wp2
            refine ⟨⟨i + 1, us, by omega, by go_num, hul, HU2, ⟨?_⟩, HRu, hb2⟩, by simp [intOf]; omega⟩
            rw [HL2.out, take_snoc l0 i hlt, packN_snoc, List.length_take, Nat.min_eq_left (by omega)]
            have h1 := HN.out
            rw [rd_nat] at h1
            rw [h1, Int.toNat_natCast]
      · have hil : i = l0.length := by omega
        subst hil
        have hpk : ys = packed l0 W := by
          unfold packed
          have h1 := HL.out
          rw [List.take_length] at h1
          rw [← h1, ← HS.out, ← show ys.length = S by rw [hyl.out, ← HZ.out]; simp]
          exact (fixed_le ys HY.out).symm
        have HPK := Aside0.mk hpk
        clear hpk
        go_wp2
        go_ret
        exact ⟨_, rfl, by rw [← HPK.out]; exact HRy.out, hb⟩
  · unfold bitpack_Pack.f at h
    rw [if_neg hc] at h
    obtain rfl := Option.some.inj h
    have hi1 : laminaref06_ok.f (l0.length : Int) a1 = some false := by
      unfold laminaref06_ok.f
      rw [if_pos (by omega)]
      by_cases k1 : (l0.length : Int) ≤ 1048576
      · rw [if_pos k1]
        by_cases k2 : a1 ≥ 0
        · rw [if_pos k2, decide_eq_false (by omega)]
        · rw [if_neg k2]
      · rw [if_neg k1]
    have HI1 := Aside0.mk hi1
    clear hi1 h hc
    go_enter Try.func24, Try.ntmps24
    go_wp2_with (go_at_call 58; refine (laminaref06_ok.calls _ _ false _ HI1.out).mono ?_; rintro e w' ⟨rfl, ⟨nd, rfl⟩⟩)
    go_ret
    exact ⟨_, rfl, Kd.R_nil _ _ _ _ _, pw_below_drewN (Below.refl _ _) _⟩

end Go.Proofs.Ytllhbjkkoogeeaa.QBitpackPack
