-- Written by a program of this session (wip/pr2.sh): the walk of the Go text, function by function.
import Derived.Test.YtfonjlolliiaeaaDoorQDelvecAppliesx0
import Derived.Test.YtfonjlolliiaeaaDoorQDelvecAppliesx1
namespace Go.Proofs.YtfonjlolliiaeaaDoor.QDelvecApplies
open Go.RowKit Go.Proofs.YtfonjlolliiaeaaDoorW.PrintWords Go.Proofs.YtfonjlolliiaeaaDoorW.PrintLast Go.Proofs.YtfonjlolliiaeaaDoorW.PrintMore
open Go.Proofs.YtfonjlolliiaeaaDoorM
attribute [local go_sem] max2_int min2_int max_two min_two max_three min_three max_four min_four   -- for this text's walks alone
set_option linter.unusedVariables false
set_option linter.unusedSimpArgs false

/-! ### varint_Fixed: function 49 -/
mutual
def varint_Fixed.j0 : Nat → Int → Int → Bool → Option (List Int)
 | 0, _, _, _ => none
 | k + 1, x0, x1, x12 => if x12 = true then (some ([] : List Int)) else (if 0 ≤ x1 then (if (x1 : Int).toNat ≤ 281474976710656 then (varint_Fixed.l0 k x0 (List.replicate (x1 : Int).toNat 0) x1 0) else (none)) else (none))
def varint_Fixed.l0 : Nat → Int → List Int → Int → Int → Option (List Int)
 | 0, _, _, _, _ => none
 | k + 1, x0, x5, x15, x16 => if x16 < x15 then (if 0 ≤ (wrap64 (8 * x16)) then (if 0 ≤ x16 then (if x16 < (x5.length : Int) then (varint_Fixed.l0 k x0 (x5.set (x16 : Int).toNat ((shr .u64 x0 (wrap64 (8 * x16))) % 256)) x15 (wrap64 (x16 + 1))) else (none)) else (none)) else (none)) else (some x5)
end
def varint_Fixed.f (k : Nat) (a0 : Int) (a1 : Int) : Option (List Int) := if a1 < 1 then (varint_Fixed.j0 k a0 a1 true) else (varint_Fixed.j0 k a0 a1 (decide (a1 > 8)))
theorem varint_Fixed.mono_l : ∀ k, (∀ y0 y1 y2, LeO (varint_Fixed.j0 k y0 y1 y2) (varint_Fixed.j0 (k + 1) y0 y1 y2)) ∧ (∀ y0 y1 y2 y3, LeO (varint_Fixed.l0 k y0 y1 y2 y3) (varint_Fixed.l0 (k + 1) y0 y1 y2 y3))
 | 0 => ⟨fun _ _ _ r h => by simp [varint_Fixed.j0] at h, fun _ _ _ _ r h => by simp [varint_Fixed.l0] at h⟩
 | k + 1 => by
  obtain ⟨ih0, ih1⟩ := varint_Fixed.mono_l k
  refine ⟨?_, ?_⟩
  ·intro y0 y1 y2
   unfold varint_Fixed.j0
   repeat' first
   | (with_reducible exact ih0 _ _ _)
   | (with_reducible exact ih1 _ _ _ _)
   | (with_reducible exact LeO.refl _)
   | (with_reducible exact LeO.none _)
   | (with_reducible refine LeO.ite ?_ ?_)
   | (with_reducible refine LeO.bind ?_ (fun _ => ?_))
   | exact ih0 _ _ _
   | exact ih1 _ _ _ _
   | exact LeO.none _
   | refine LeO.ite ?_ ?_
   | refine LeO.bind ?_ (fun _ => ?_)
  ·intro y0 y1 y2 y3
   unfold varint_Fixed.l0
   repeat' first
   | (with_reducible exact ih0 _ _ _)
   | (with_reducible exact ih1 _ _ _ _)
   | (with_reducible exact LeO.refl _)
   | (with_reducible exact LeO.none _)
   | (with_reducible refine LeO.ite ?_ ?_)
   | (with_reducible refine LeO.bind ?_ (fun _ => ?_))
   | exact ih0 _ _ _
   | exact ih1 _ _ _ _
   | exact LeO.none _
   | refine LeO.ite ?_ ?_
   | refine LeO.bind ?_ (fun _ => ?_)
theorem varint_Fixed.mono : ∀ a0 a1 k, LeO (varint_Fixed.f k a0 a1) (varint_Fixed.f (k + 1) a0 a1) := by
 intro a0 a1 k
 obtain ⟨ih0, ih1⟩ := varint_Fixed.mono_l k
 unfold varint_Fixed.f
 repeat' first
   | (with_reducible exact ih0 _ _ _)
   | (with_reducible exact ih1 _ _ _ _)
   | (with_reducible exact LeO.refl _)
   | (with_reducible exact LeO.none _)
   | (with_reducible refine LeO.ite ?_ ?_)
   | (with_reducible refine LeO.bind ?_ (fun _ => ?_))
   | exact ih0 _ _ _
   | exact ih1 _ _ _ _
   | exact LeO.none _
   | refine LeO.ite ?_ ?_
   | refine LeO.bind ?_ (fun _ => ?_)
set_option maxHeartbeats 8000000 in
set_option maxRecDepth 100000 in
theorem varint_Fixed.calls (k : Nat) (a0 : Int) (a1 : Int) (r : List Int) (w : World) (h : varint_Fixed.f k a0 a1 = some r) :
  Calls Tryd.prog 49 #[.int .u64 a0, .int .i64 a1] w fun e w' => ∃ v0_ : Value, e = .returned (v0_) ∧ Kd.R (Kd.int .u8) 5 w' w.heap.size (fun _ => True) v0_ r ∧ Below w.heap.size w w' := by
 have HB := Aside0.mk (Below.refl w.heap.size w)
 have H : (if a1 < 1 then (varint_Fixed.j0 k a0 a1 true) else (varint_Fixed.j0 k a0 a1 (decide (a1 > 8)))) = some r := h
 clear h
 have HC3 := Aside0.mk H
 clear H
 go_enter Tryd.func49, Tryd.ntmps49
 go_upto_region 1 with (fail)
 go_cut [12] (fun v12 wc => ∃ (kq : Nat) (x12_2 : Bool), v12 = .bool x12_2 ∧ Aside0 (varint_Fixed.j0 kq a0 a1 x12_2 = some r) ∧ Aside0 (kq ≤ k) ∧ Aside0 (Below w.heap.size w wc))
 case first =>
  have H := HC3.out
  clear HC3
  by_cases c4 : a1 < 1
  ·rw [if_pos c4] at H
   have c4b0 : decide (a1 < 1) = true := decide_eq_true c4
   clear c4
   (first | rw [c4b0] | (simp only [i64_w, i32_w]; rw [c4b0]) | skip)
   have H' := Aside0.mk H
   clear H
   go_wp2
   go_meet
   case rel => exact ⟨_, (true), (by first | rfl | (simp; done) | (simp [*]; done)), H', ⟨by first | omega | exact Nat.le_refl _⟩, ⟨by repeat (first | (with_reducible first | exact HB.out | apply below_alloc | apply pw_below_drewN | apply below_drew1) | exact HB.out)⟩⟩
  ·rw [if_neg c4] at H
   have c4b0 : decide (a1 < 1) = false := decide_eq_false c4
   clear c4
   (first | rw [c4b0] | (simp only [i64_w, i32_w]; rw [c4b0]) | skip)
   have H' := Aside0.mk H
   clear H
   go_wp2
   go_meet
   case rel => exact ⟨_, (decide (a1 > 8)), (by first | rfl | (simp; done) | (simp [*]; done)), H', ⟨by first | omega | exact Nat.le_refl _⟩, ⟨by repeat (first | (with_reducible first | exact HB.out | apply below_alloc | apply pw_below_drewN | apply below_drew1) | exact HB.out)⟩⟩
 case rest =>
  clear HC3
  try clear p2
  try clear c4
  try clear c4b0
  obtain ⟨kq, x12_2, rfl, HA, HJ2, HB⟩ := hcut
  cases kq with
  | zero => exact absurd HA.out (by simp [varint_Fixed.j0])
  | succ kj2 =>
   have H := HA.out
   clear HA
   simp only [varint_Fixed.j0] at H
   by_cases c5 : x12_2 = true
   ·subst c5
    have H1 : (some ([] : List Int)) = some r := by rw [if_pos rfl] at H; exact H
    clear H
    have H := H1
    clear H1
    obtain rfl := Option.some.inj H
    go_wp2
    go_ret
    exact ⟨_, by first | rfl | (simp [errW_none, errW_some] <;> rfl) | (simp [*, errW_none, errW_some] <;> rfl), by first | exact Kd.R_nil _ _ _ _ _ | exact Kd.N_nil _ _ _ _ _ | exact Kd.V_nil _ _ _ _ _ | exact Kd.Q_nil _ _ _ _ _ | exact Kd.S_nil _ _ _ _ _, by repeat (first | (with_reducible first | exact HB.out | apply below_alloc | apply pw_below_drewN | apply below_drew1) | exact HB.out)⟩
   ·replace c5 := Bool.eq_false_iff.mpr c5
    subst c5
    have H1 : (if 0 ≤ a1 then (if (a1 : Int).toNat ≤ 281474976710656 then (varint_Fixed.l0 kj2 a0 (List.replicate (a1 : Int).toNat 0) a1 0) else (none)) else (none)) = some r := by rw [if_neg (show ¬ (false = true) by decide)] at H; exact H
    clear H
    have H := H1
    clear H1
    by_cases c6 : 0 ≤ a1
    ·rw [if_pos c6] at H
     have c6b0 := eq_true c6
     have c6b1 : decide (0 ≤ a1) = true := decide_eq_true c6
     clear c6
     by_cases c7 : (a1 : Int).toNat ≤ 281474976710656
     ·rw [if_pos c7] at H
      have c7b0 := eq_true c7
      have c7b1 : decide ((a1 : Int).toNat ≤ 281474976710656) = true := decide_eq_true c7
      clear c7
      obtain ⟨y115, hy115⟩ : ∃ y_ : List Int, y_ = (List.replicate (a1 : Int).toNat 0) := ⟨_, rfl⟩
      replace H : (varint_Fixed.l0 kj2 a0 y115 a1 0) = some r := by first | (rw [hy115]; with_reducible exact H) | (have H2_ := (Option.bind_some _ _).symm.trans H; rw [hy115]; with_reducible exact H2_) | (have H2_ := (Option.bind_some _ _).symm.trans H; with_reducible exact H2_) | with_reducible exact H | (rw [hy115]; exact H) | exact H
      have Ny115 := Aside0.mk hy115
      clear hy115
      have H' := Aside0.mk H
      clear H
      go_wp2_with (first | ((with_reducible refine gate_dst (N := 14) rfl ?_); refine Kd.R_make (Kd.int .u8) _ 5 rfl (N := 14) rfl 27 _ _ rfl a1 rfl rfl Tryd.underlying27 (.int .u8 0) 1 info5 rfl (by decide) (by omega) 0 (ok := fun _ => True) (okp := fun _ => True) rfl (fun _ hk => hk) trivial (of_decide_eq_true (by first | (with_reducible assumption) | assumption)) (Nat.le_trans (Nat.mul_le_mul_right _ (of_decide_eq_true (by first | (with_reducible assumption) | assumption) : a1.toNat ≤ 281474976710656)) (by omega)) (Below.refl _ _) (Nat.le_refl _) ?_; intro v116 w8 ho9 hb hg_ hnew_; clear hg_ hnew_; (first | rw [← Ny115.out] at ho9 | (simp only [Int.reduceToNat] at ho9; rw [← Ny115.out] at ho9)); have n0_ := Aside0.mk (Kd.R_lower ho9 (below_size (by repeat (first | (with_reducible first | exact HB.out | apply below_alloc | apply pw_below_drewN | apply below_drew1) | exact HB.out)))); have n1_ := Aside0.mk (below_step (by repeat (first | (with_reducible first | exact HB.out | apply below_alloc | apply pw_below_drewN | apply below_drew1) | exact HB.out)) hb); clear HB; have HO117 := n0_; have HB := n1_; clear n0_ n1_; clear hb ho9))
      go_loopg [16] kj2 (fun kq v16 w' => ∃ (x5_2 : List Int) (x16_2 : Int), v16 = .int .i64 x16_2 ∧ Aside0 (varint_Fixed.l0 kq a0 x5_2 a1 x16_2 = some r) ∧ Aside0 (kq ≤ kj2) ∧ Aside0 (Kd.R (Kd.int .u8) 5 w' w.heap.size (fun _ => True) v116 x5_2) ∧ Aside0 (Below w.heap.size w w'))
      case atStart => exact ⟨(y115), (0), (by first | rfl | (simp; done) | (simp [*]; done)), H', ⟨Nat.le_refl _⟩, ⟨by (with_reducible repeat (first | apply Kd.R_alloc | apply Kd.R_drewN | apply Kd.R_drew)); exact HO117.out⟩, ⟨by repeat (first | (with_reducible first | exact HB.out | apply below_alloc | apply pw_below_drewN | apply below_drew1) | exact HB.out)⟩⟩
      case round =>
       clear H'
       try clear p2
       try clear c4
       try clear c4b0
       try clear c5
       try clear c6
       try clear c6b0
       try clear c6b1
       try clear c7
       try clear c7b0
       try clear c7b1
       try clear p2
       obtain ⟨x5_2, x16_2, rfl, HA, HK2, HO_5, HB⟩ := hrel
       cases gk with
       | zero => exact absurd HA.out (by simp [varint_Fixed.l0])
       | succ k2 =>
        have H := HA.out
        clear HA
        simp only [varint_Fixed.l0] at H
        by_cases c10 : x16_2 < a1
        ·rw [if_pos c10] at H
         have c10b0 : decide (x16_2 < a1) = true := decide_eq_true c10
         clear c10
         obtain ⟨ji11, hji11⟩ : ∃ j_ : Int, (wrap64 (8 * x16_2)) = j_ := ⟨_, rfl⟩
         replace H : (if 0 ≤ (ji11) then (if 0 ≤ x16_2 then (if x16_2 < (x5_2.length : Int) then (varint_Fixed.l0 k2 a0 (x5_2.set (x16_2 : Int).toNat ((shr .u64 a0 (ji11)) % 256)) a1 (wrap64 (x16_2 + 1))) else (none)) else (none)) else (none)) = some r := by first | (rw [hji11] at H; exact H) | (simp only [hji11] at H ⊢; exact H)
         have hji11w : (IntKind.i64.wrap (8 * x16_2)) = ji11 := (i64_w _).trans hji11
         by_cases c12 : 0 ≤ (ji11)
         ·rw [if_pos c12] at H
          have c12b0 := eq_true c12
          have c12b1 : decide (0 ≤ (ji11)) = true := decide_eq_true c12
          clear c12
          obtain ⟨ji13, hji13⟩ : ∃ j_ : Int, (shr .u64 a0 (ji11)) = j_ := ⟨_, rfl⟩
          replace H : (if 0 ≤ x16_2 then (if x16_2 < (x5_2.length : Int) then (varint_Fixed.l0 k2 a0 (x5_2.set (x16_2 : Int).toNat ((ji13) % 256)) a1 (wrap64 (x16_2 + 1))) else (none)) else (none)) = some r := by first | (rw [hji13] at H; exact H) | (simp only [hji13] at H ⊢; exact H)
          have hji13_ : (a0 / 2 ^ min (ji11).toNat 64) = ji13 := hji13
          have hji13z : (ji11) ≤ 64 → (a0 / 2 ^ (ji11).toNat) = ji13 := shr_small hji13
          by_cases c14 : 0 ≤ x16_2
          ·rw [if_pos c14] at H
           have c14b0 : decide (0 ≤ x16_2) = true := decide_eq_true c14
           clear c14
           by_cases c15 : x16_2 < (x5_2.length : Int)
           ·rw [if_pos c15] at H
            have c15b0 : decide (x16_2 < (x5_2.length : Int)) = true := decide_eq_true c15
            clear c15
            obtain ⟨y118, hy118⟩ : ∃ y_ : List Int, y_ = (x5_2.set (x16_2 : Int).toNat ((ji13) % 256)) := ⟨_, rfl⟩
            replace H : (varint_Fixed.l0 k2 a0 y118 a1 (wrap64 (x16_2 + 1))) = some r := by first | (rw [hy118]; with_reducible exact H) | (have H2_ := (Option.bind_some _ _).symm.trans H; rw [hy118]; with_reducible exact H2_) | (have H2_ := (Option.bind_some _ _).symm.trans H; with_reducible exact H2_) | with_reducible exact H | (rw [hy118]; exact H) | exact H
            have Ny118 := Aside0.mk hy118
            clear hy118
            have H' := Aside0.mk H
            clear H
            have p16 : 0 ≤ (x16_2 : Int) := of_decide_eq_true (by first | (with_reducible assumption) | assumption)
            have q16 : (x16_2 : Int) < ((x5_2.length : Int) : Int) := of_decide_eq_true (by first | (with_reducible assumption) | assumption)
            obtain ⟨go16, co16, eo16, gb16, gl16, cl16, HG16⟩ := Kd.R_form HO_5.out (by omega)
            (first | cases eo16 | (injection eo16 with ea_ en_ ec_; (first | subst ea_ | (injection ea_ with ea_; subst ea_)); subst ec_; clear en_))
            have GB16 := Aside0.mk gb16
            have GG16 := Aside0.mk HG16
            clear gb16 gl16 HG16
            obtain ⟨hx16_0, hf16_0⟩ := Kd.R_celln 0 HO_5.out (x16_2 : Int) p16 q16
            replace p16 := eq_true p16
            replace q16 := eq_true q16
            have HP17 := Kd.R_putg HO_5.out (x16_2 : Int) ((ji13) % 256)
            go_wp2_with (first | ((with_reducible refine gate_store (t := 5) (p := 26) rfl ?_); refine store_event (t := 5) (p := 26) (v := ?vo_w18) (w1 := (wr.setCell ⟨go16, (x16_2 : Int).toNat, none⟩ (.int .u8 ((ji13) % 256)))) ?hg ?ho ?hn ?hr ?_; (case ho => rfl); (case hg => (first | rfl | (simp only [*]; rfl) | (simp [*]; done))); (case hn => rfl); (case hr => first | (go_simp; done) | (go_simp; rfl)); intro w18 hw; have hg : wr.grownBy w18 (some go16) := (by rw [hw]; exact HP17.2); have hp_ : Kd.R (Kd.int .u8) 5 w18 w.heap.size (fun _ => True) (.slice (some ⟨go16, 0, none⟩) x5_2.length co16) y118 := (by rw [hw, Ny118.out]; exact HP17.1); clear HP17; have n0_ := Aside0.mk (hp_); have n1_ := Aside0.mk ((by rw [hw]; exact below_set (HB.out) GB16.out : Below w.heap.size w w18)); clear HO_5; clear HB; have HO_5 := n0_; have HB := n1_; clear n0_ n1_; clear hg hw hp_))
            go_roundg k2
            case measure => have := HJ2.out; have := HK2.out; omega
            case rel => exact ⟨(y118), (wrap64 (x16_2 + 1)), (by first | rfl | (simp; done) | (simp [*]; done)), H', ⟨by have := HJ2.out; have := HK2.out; omega⟩, ⟨by (with_reducible repeat (first | apply Kd.R_alloc | apply Kd.R_drewN | apply Kd.R_drew)); exact HO_5.out⟩, ⟨by repeat (first | (with_reducible first | exact HB.out | apply below_alloc | apply pw_below_drewN | apply below_drew1) | exact HB.out)⟩⟩
           ·rw [if_neg c15] at H
            exact absurd H (by simp)
          ·rw [if_neg c14] at H
           exact absurd H (by simp)
         ·rw [if_neg c12] at H
          exact absurd H (by simp)
        ·rw [if_neg c10] at H
         have c10b0 : decide (x16_2 < a1) = false := decide_eq_false c10
         clear c10
         obtain rfl := Option.some.inj H
         go_wp2
         go_ret
         exact ⟨_, by first | rfl | (simp [errW_none, errW_some] <;> rfl) | (simp [*, errW_none, errW_some] <;> rfl), by (with_reducible repeat (first | apply Kd.R_alloc | apply Kd.R_drewN | apply Kd.R_drew)); exact HO_5.out, by repeat (first | (with_reducible first | exact HB.out | apply below_alloc | apply pw_below_drewN | apply below_drew1) | exact HB.out)⟩
     ·rw [if_neg c7] at H
      exact absurd H (by simp)
    ·rw [if_neg c6] at H
     exact absurd H (by simp)

/-! ### checksum_remainders: function 68 -/
theorem Tn_last (k x : Nat) : Tn (k + 1) x = T (Tn k x) := by rw [Tn_add]; rfl
/-- The table of remainders. -/
def tabL : List Int := (List.range 256).map fun i => ((Tn 8 i : Nat) : Int)
def tabA : Array Value := (encs (Value.int .u32) tabL).toArray
def checksum_remainders.f : Option Unit := some ()
theorem tab_get (i : Nat) (h : i < 256) : tabA[i]? = some (.int .u32 ((Tn 8 i : Nat) : Int)) := by
  simp [tabA, tabL, encs, h]
theorem below_row {B g : Nat} {w0 w : World} (hb : Below B w0 w) (hg : B ≤ g) (cs : Array Value) : Below B w0 (w.setRow g cs) :=
  ⟨hb.os, hb.tape, hb.output, by rw [size_setRow]; exact hb.size, fun k hk => (setRow_other w g k cs (by omega)).trans (hb.block k hk)⟩
theorem and_nat32 (a b : Nat) (ha : a < 2 ^ 32) (hb : b < 2 ^ 32) : bits .and .u32 a b = ((a &&& b : Nat) : Int) := by
  have ha' : a % 2 ^ IntKind.u32.bits = a := Nat.mod_eq_of_lt ha
  have hb' : b % 2 ^ IntKind.u32.bits = b := Nat.mod_eq_of_lt hb
  have h : a &&& b < 2 ^ 32 := Nat.and_lt_two_pow a hb
  simp only [bits, BitVec.ofInt_natCast, BitVec.toNat_and, BitVec.toNat_ofNat, ha', hb']
  rw [IntKind.wrap_u32]; omega
theorem and1_32 (r : Nat) (h : r < 2 ^ 32) : bits .and .u32 (r : Int) 1 = ((r % 2 : Nat) : Int) := by
  have := and_nat32 r 1 h (by decide)
  rw [Nat.and_one_is_mod] at this
  exact this
theorem xor_nat32 (a b : Nat) (ha : a < 2 ^ 32) (hb : b < 2 ^ 32) : bits .xor .u32 a b = ((a ^^^ b : Nat) : Int) := by
  have ha' : a % 2 ^ IntKind.u32.bits = a := Nat.mod_eq_of_lt ha
  have hb' : b % 2 ^ IntKind.u32.bits = b := Nat.mod_eq_of_lt hb
  have h : a ^^^ b < 2 ^ 32 := Nat.xor_lt_two_pow ha hb
  simp only [bits, BitVec.ofInt_natCast, BitVec.toNat_xor, BitVec.toNat_ofNat, ha', hb']
  rw [IntKind.wrap_u32]; omega
set_option maxHeartbeats 1000000 in
set_option maxRecDepth 100000 in
theorem checksum_remainders.calls (w : World) :
    Calls Tryd.prog 68 #[] w fun e w' => e = .returned (.agg tabA) ∧ Below w.heap.size w w' := by
  go_enter Tryd.func68, Tryd.ntmps68
  go_wp2_with (first
    | ((with_reducible refine gate_dst (N := 0) rfl ?_); refine box_event ?hg (N := 0) ?hd (cs := Array.replicate 256 (.int .u32 0)) (t := 97) ?hr ?_; (case hd => rfl); (case hg => rfl); (case hr => first | (go_simp; done) | (go_simp; rfl)); intro g0 hg0 w1 hb0 hB0)
    | ((with_reducible refine gate_dst (N := 1) rfl ?_); refine box_event ?hg (N := 1) ?hd (cs := Array.replicate 256 (.int .u32 0)) (t := 97) ?hr ?_; (case hd => rfl); (case hg => rfl); (case hr => first | (go_simp; done) | (go_simp; rfl)); intro g1 hg1 w2 hb1 hB1))
  go_loopw [4] (fun v4 wr => ∃ (i : Nat) (cs : Array Value), i ≤ 256 ∧ v4 = .int .i64 (i : Int) ∧ wr.heap[w.heap.size]? = some (.cells (Array.replicate 256 (.int .u32 0)) 97 (0, 0)) ∧ wr.heap[w1.heap.size]? = some (.cells cs 97 (0, 0)) ∧ Aside0 (cs.size = 256 ∧ (∀ j, j < i → cs[j]? = some (.int .u32 ((Tn 8 j : Nat) : Int))) ∧ ∀ j, j < 256 → ∃ x, cs[j]? = some (.int .u32 x)) ∧ Below w.heap.size w wr) (fun v4 _ => 256 - (intOf v4).toNat)
  case atStart =>
    exact ⟨0, _, by omega, rfl, by rw [← hg0]; exact blk_below hb0 hB1, by rw [← hg1]; exact hb1, ⟨by simp, fun j hj => by omega, fun j hj => ⟨0, by simp [hj]⟩⟩, below_then hB0 hB0.size hB1⟩
  case round =>
    obtain ⟨i, cs, hi, rfl, hT, hS, HC, hB⟩ := hrel
    by_cases hlt : i < 256
    · have hlt' : (i : Int) < 256 := by omega
      have hi32 : i < 4294967296 := by omega
      go_wp2
      go_loopw [3, 9] (fun v3 v9 wq => ∃ (j r : Nat), j ≤ 8 ∧ Aside0 (r = Tn j i) ∧ r < 4294967296 ∧ v3 = .int .u32 (r : Int) ∧ v9 = .int .i64 (j : Int) ∧ wq = wr) (fun _ v9 _ => 8 - (intOf v9).toNat)
      case atStart => exact ⟨0, i, by omega, ⟨rfl⟩, hi32, rfl, rfl, rfl⟩
      case round =>
        obtain ⟨j, r, hj, hr, hr32, rfl, rfl, rfl⟩ := hrel
        by_cases hjl : j < 8
        · have hjl' : (j : Int) < 8 := by omega
          by_cases ho : r % 2 = 1
          · have e1 : bits .and .u32 (r : Int) 1 = 1 := by rw [and1_32 r (by omega), ho]; rfl
            have e2 : bits .xor .u32 ((r : Int) / 2) 2197175160 = ((Tn (j + 1) i : Nat) : Int) := by
              have h3 := xor_nat32 (r / 2) 2197175160 (by omega) (by decide)
              rw [Tn_last, ← hr.out]
              unfold T
              rw [if_pos ho]
              have h4 : (((r / 2 : Nat) : Int)) = (r : Int) / 2 := by omega
              rw [← h4]
              exact h3
            have E2 := Aside0.mk e2
            clear e2
            go_wp2
            refine ⟨⟨j + 1, Tn (j + 1) i, by omega, ⟨rfl⟩, Tn_lt _ _ hi32, by rw [E2.out], by simp, trivial⟩, ?_⟩
            simp [intOf]; omega
          · have e1 : ¬ bits .and .u32 (r : Int) 1 = 1 := by rw [and1_32 r (by omega)]; omega
            go_wp2
            refine ⟨⟨j + 1, Tn (j + 1) i, by omega, ⟨rfl⟩, Tn_lt _ _ hi32, ?_, by simp, trivial⟩, ?_⟩
            · rw [Tn_last, ← hr.out]
              unfold T
              rw [if_neg ho]
              simp
            · simp [intOf]; omega
        · obtain rfl : j = 8 := by omega
          have hb1' := HC.out.2.2 i hlt
          obtain ⟨xo, hxo⟩ := hb1'
          have hcx : wr.cell? ⟨w1.heap.size, i, none⟩ = some (.int .u32 xo) := by rw [blk_cell hS]; exact hxo
          have hfx : wr.frozen? ⟨w1.heap.size, i, none⟩ = false := blk_frozen hS i
          have hi0 : (0 : Int) ≤ (i : Int) := by omega
          have hne : w1.heap.size ≠ w.heap.size := by have := blk_lt hb0; omega
          have ew : IntKind.i64.wrap (i : Int) = (i : Int) := IntWalk.i64_in _ (by omega)
          go_wp2
          go_roundw
          case rel =>
            refine ⟨i + 1, cs.setIfInBounds i (.int .u32 (r : Int)), by omega, by simp, blk_far hT (Ne.symm hne) _, blk_put hS i _ rfl, ⟨by simp [HC.out.1], fun j hj => ?_, fun j hj => ?_⟩, hB.setCell (p := ⟨w1.heap.size, i, none⟩) hB0.size _⟩
            · by_cases e : j = i
              · subst e; rw [Array.getElem?_setIfInBounds_self_of_lt (by have := HC.out.1; omega), hr.out]
              · rw [Array.getElem?_setIfInBounds_ne (Ne.symm e)]; exact HC.out.2.1 j (by omega)
            · by_cases e : j = i
              · subst e; exact ⟨_, Array.getElem?_setIfInBounds_self_of_lt (by have := HC.out.1; omega)⟩
              · rw [Array.getElem?_setIfInBounds_ne (Ne.symm e)]; exact HC.out.2.2 j hj
          case measure => simp [intOf]; omega
    · obtain rfl : i = 256 := by omega
      have hcs : cs = tabA := by
        apply Array.ext_getElem?
        intro j
        by_cases hj : j < 256
        · rw [HC.out.2.1 j hj, tab_get j hj]
        · rw [Array.getElem?_eq_none (by have := HC.out.1; omega), Array.getElem?_eq_none (by simp [tabA, tabL, encs]; omega)]
      subst hcs
      have hsz : tabA.size = 256 := by simp [tabA, tabL, encs]
      have hi : (Tryd.prog.info? 97).map (·.size) = some 256 := by kernel_rfl
      go_wp2_with (first
        | ((with_reducible refine gate_dst (N := 24) rfl ?_); refine wpList_load_row rfl 97 _ rfl w1.heap.size rfl 97 tabA (0, 0) _ hS Tryd.underlying97 rfl (by rw [hsz]; exact hi) ?_)
        | (refine wpList_store_row rfl 97 _ _ rfl w.heap.size tabA rfl rfl 97 _ hT (by rw [hsz]; exact hi) (by rw [hsz]; simp) (by decide +kernel) ?_))
      exact bodyPost_ret (results_cell_row rfl _ _ w.heap.size 97 tabA (0, 0) _ rfl (setRow_heap _ _ _ _ _ _ hT) Tryd.underlying97 rfl (by rw [hsz]; exact hi)) rfl ⟨rfl, below_row hB (Nat.le_refl _) _⟩

/-! ### checksum_advance: function 69 -/
def checksum_advance.f : Option Unit := some ()
theorem tab_step (r : Nat) (x : Nat) (hr : r < 2 ^ 32) (hx : x < 256) : (r / 256) ^^^ Tn 8 ((r ^^^ x) % 256) = Tn 8 (r ^^^ x) := by
  have e : r ^^^ x = ((r ^^^ x) % 256) ^^^ (256 * (r / 256)) := by
    have h1 : r ^^^ x = (r ^^^ x) % 2 ^ 8 + 2 ^ 8 * ((r ^^^ x) / 2 ^ 8) := by omega
    have h2 : (r ^^^ x) / 2 ^ 8 = r / 256 := by
      rw [Nat.xor_div_two_pow, show x / 2 ^ 8 = 0 by omega, Nat.xor_zero]
    conv => lhs; rw [h1]
    rw [h2, add_eq_xor _ _ 8 (Nat.mod_lt _ (by decide))]
  conv => rhs; rw [e]
  rw [Tn_xor, show 256 = 2 ^ 8 by rfl, Tn_shift, Nat.xor_comm]
theorem xor_nat8 (a b : Nat) (ha : a < 2 ^ 8) (hb : b < 2 ^ 8) : bits .xor .u8 a b = ((a ^^^ b : Nat) : Int) := by
  have ha' : a % 2 ^ IntKind.u8.bits = a := Nat.mod_eq_of_lt ha
  have hb' : b % 2 ^ IntKind.u8.bits = b := Nat.mod_eq_of_lt hb
  have h : a ^^^ b < 2 ^ 8 := Nat.xor_lt_two_pow ha hb
  simp only [bits, BitVec.ofInt_natCast, BitVec.toNat_xor, BitVec.toNat_ofNat, ha', hb']
  exact wraps_u8' _ (by omega) (by omega)
theorem crcR_take (r0 : Nat) (l : List Int) (i : Nat) (h : i < l.length) : crcR r0 (l.take (i + 1)) = stp (crcR r0 (l.take i)) (l.getD i 0) := by
  rw [List.take_succ_eq_append_getElem h, crcR_append]
  simp [crcR, List.getD, List.getElem?_eq_getElem h]
set_option maxHeartbeats 1000000 in
set_option maxRecDepth 100000 in
theorem checksum_advance.calls (g : Nat) (A0 : Option Addr) (c0 : Nat) (l : List Int) (r0 : Nat) (w : World) (hT : w.heap[g]? = some (.cells tabA 97 (0, 0))) (hr0 : Kd.C (Kd.int .u8) w A0 l.length l) (hl : ∀ x ∈ l, 0 ≤ x ∧ x < 256) (hr : r0 < 4294967296) :
    Calls Tryd.prog 69 #[.pointer (some ⟨g, 0, none⟩), .int .u32 (r0 : Int), .slice A0 l.length c0] w fun e w' => e = .returned (.int .u32 ((crcR r0 l : Nat) : Int)) ∧ Drawn0 w w' := by
  have hmx := Kd.C_max hr0
  have HR := Aside0.mk hr0
  have HL := Aside0.mk hl
  clear hr0 hl
  go_enter Tryd.func69, Tryd.ntmps69
  go_wp2
  go_loopw [1, 11] (fun v1 v11 wr => ∃ (i r : Nat), i ≤ l.length ∧ Aside0 (r = crcR r0 (l.take i)) ∧ r < 4294967296 ∧ v1 = .int .u32 (r : Int) ∧ v11 = .int .i64 (i : Int) ∧ Drawn0 w wr) (fun _ v11 _ => l.length - (intOf v11).toNat)
  case atStart => exact ⟨0, r0, Nat.zero_le _, ⟨rfl⟩, hr, rfl, rfl, Drawn0.refl _⟩
  case round =>
    obtain ⟨i, r, hi, hrr, hr32, rfl, rfl, ⟨m, rfl⟩⟩ := hrel
    by_cases hlt : i < l.length
    · obtain ⟨ad, rfl, hcx⟩ := Kd.at_int HR.out (i : Int) (by omega) (by omega)
      rw [Int.toNat_natCast, rd_nat] at hcx
      have hx := getD_range HL.out hlt
      obtain ⟨x, hxe⟩ : ∃ x : Nat, l.getD i 0 = (x : Int) := ⟨(l.getD i 0).toNat, by omega⟩
      rw [hxe] at hcx hx
      have hcx' : (w.drewN m).cell? (ad.add i) = some (.int .u8 (x : Int)) := hcx
      have HXE := Aside0.mk hxe
      have hx256 : x < 256 := by omega
      clear hcx hxe hx
      have hlt' : (i : Int) < (l.length : Int) := by omega
      obtain ⟨k, hk⟩ : ∃ k : Nat, k = (r ^^^ x) % 256 := ⟨_, rfl⟩
      have hk256 : k < 256 := by omega
      have e1 : bits .xor .u8 ((r : Int) % 256) (x : Int) = (k : Int) := by
        have h1 := xor_nat8 (r % 256) x (by omega) hx256
        rw [show (r % 256) ^^^ x = k by rw [hk, show 256 = 2 ^ 8 by rfl, Nat.xor_mod_two_pow, Nat.mod_eq_of_lt (show x < 2 ^ 8 by omega)]] at h1
        rw [← h1]; congr 1
      have hck : (w.drewN m).cell? ⟨g, k, none⟩ = some (.int .u32 ((Tn 8 k : Nat) : Int)) := by
        have : (w.drewN m).heap[g]? = some (.cells tabA 97 (0, 0)) := hT
        rw [blk_cell this]; exact tab_get k hk256
      have e2 : bits .xor .u32 ((r : Int) / 256) ((Tn 8 k : Nat) : Int) = ((crcR r0 (l.take (i + 1)) : Nat) : Int) := by
        have h1 := xor_nat32 (r / 256) (Tn 8 k) (by omega) (Tn_lt 8 k (by omega))
        rw [crcR_take r0 l i hlt, ← hrr.out, HXE.out]
        unfold stp
        rw [Int.toNat_natCast, ← tab_step r x (by omega) hx256, ← hk, ← h1]
        congr 1
      have hlt2 : crcR r0 (l.take (i + 1)) < 4294967296 := crcR_lt _ _ (by omega) (fun y hy => HL.out y (List.mem_of_mem_take hy))
      have E2 := Aside0.mk e2
      have HK := Aside0.mk hk
      have hk256' : (k : Int) < 256 := by omega
      have hk0 : (0 : Int) ≤ (k : Int) := by omega
      clear e2 hk
      go_wp2
      refine ⟨⟨i + 1, crcR r0 (l.take (i + 1)), by omega, ⟨rfl⟩, hlt2, by rw [E2.out], by simp, ⟨m, rfl⟩⟩, ?_⟩
      simp [intOf]; omega
    · obtain rfl : i = l.length := by omega
      have hf := hrr.out
      rw [List.take_length] at hf
      have HF := Aside0.mk hf
      clear hf
      go_wp2
      go_ret
      exact ⟨by rw [← HF.out]; rfl, m, rfl⟩

/-! ### checksum_CRC: function 50 -/
/-- What CRC answers, for bytes. -/
def crcF (r : Nat) (ls : List (List Int)) : Nat := ls.foldl crcR r
def checksum_CRC.f (l0 : List (List Int)) : Option Int := if (l0.all fun l => l.all fun x => decide (0 ≤ x) && decide (x < 256)) = true then some ((4294967295 ^^^ crcF 4294967295 l0 : Nat) : Int) else none
theorem crcF_take (r0 : Nat) (ls : List (List Int)) (i : Nat) (h : i < ls.length) : crcF r0 (ls.take (i + 1)) = crcR (crcF r0 (ls.take i)) (ls.getD i []) := by
  unfold crcF
  rw [List.take_succ_eq_append_getElem h, List.foldl_append]
  simp [List.getD, List.getElem?_eq_getElem h]
theorem crcF_lt : ∀ (ls : List (List Int)) (r : Nat), r < 2 ^ 32 → (∀ l ∈ ls, ∀ x ∈ l, 0 ≤ x ∧ x < 256) → crcF r ls < 2 ^ 32 := by
  intro ls
  induction ls with
  | nil => intro r h _; exact h
  | cons l ls ih =>
    intro r h hl
    exact ih _ (crcR_lt l r h (hl l List.mem_cons_self)) (fun x hx => hl x (List.mem_cons_of_mem _ hx))
theorem at_bss {w : World} {A : Option Addr} {n : Nat} {xs : List (List Int)} (h : Kd.C (Kd.slice 5 (Kd.int .u8)) w A n xs) (i : Int) (h0 : 0 ≤ i) (h1 : i < n) : ∃ ad A0 c0, A = some ad ∧ w.cell? (ad.add i.toNat) = some (.slice A0 (xs.getD i.toNat []).length c0) ∧ (xs.getD i.toNat []).length ≤ c0 ∧ (Kd.int .u8).C w A0 (xs.getD i.toNat []).length (xs.getD i.toNat []) := by
  obtain ⟨ad, c, e, _, ⟨A0, c0, hc, hl, hr⟩, hcell⟩ := Kd.C_get h [] i h0 h1
  subst hc
  refine ⟨ad, A0, c0, e, ?_, hl, hr⟩
  have := hcell 0 _ rfl
  simpa [Kd.slice] using this
theorem not32 (r : Nat) (h : r < 2 ^ 32) : bits .xor .u32 4294967295 (r : Int) = ((4294967295 ^^^ r : Nat) : Int) := xor_nat32 4294967295 r (by decide) h
set_option maxHeartbeats 1000000 in
set_option maxRecDepth 100000 in
theorem checksum_CRC.calls (A0 : Option Addr) (c0 : Nat) (l0 : List (List Int)) (r : Int) (w : World) (hr0 : Kd.C (Kd.slice 5 (Kd.int .u8)) w A0 l0.length l0) (hc0 : l0.length ≤ c0) (h : checksum_CRC.f l0 = some r) :
    Calls Tryd.prog 50 #[.slice A0 l0.length c0] w fun e w' => e = .returned (.int .u32 r) ∧ Below w.heap.size w w' := by
  have hmx := Kd.C_max hr0
  unfold checksum_CRC.f at h
  split at h
  case isFalse => cases h
  case isTrue hok =>
  obtain rfl := Option.some.inj h
  have hl : ∀ l ∈ l0, ∀ x ∈ l, 0 ≤ x ∧ x < 256 := by
    simpa only [List.all_eq_true, Bool.and_eq_true, decide_eq_true_eq] using hok
  have HR := Aside0.mk hr0
  have HL := Aside0.mk hl
  have hsz : tabA.size = 256 := by simp [tabA, tabL, encs]
  have HZ := Aside0.mk hsz
  clear hr0 hl hok h hsz
  go_enter Tryd.func50, Tryd.ntmps50
  go_wp2_with (first
    | (go_at_call 68; refine (checksum_remainders.calls _).mono ?_; rintro e w1 ⟨rfl, hB1⟩; have HB1 := Aside0.mk hB1; clear hB1)
    | ((with_reducible refine gate_dst (N := 3) rfl ?_); refine box_event ?hg (N := 3) ?hd (cs := Array.replicate 256 (.int .u32 0)) (t := 97) ?hr ?_; (case hd => rfl); (case hg => rfl); (case hr => first | (go_simp; done) | (go_simp; rfl)); intro g0 hg0 w2 hb0 hB0)
    | (refine wpList_store_row rfl 97 _ _ rfl g0 tabA (by first | rfl | (rw [hg0]; rfl)) rfl 97 _ hb0 (by rw [HZ.out]; kernel_rfl) (by rw [HZ.out]; simp) (by decide +kernel) ?_))
  obtain ⟨w3, hw3⟩ : ∃ w3, w3 = w2.setRow w1.heap.size tabA := ⟨_, rfl⟩
  rw [← hw3]
  subst hg0
  have k3 : Aside0 (w3.heap[w1.heap.size]? = some (.cells tabA 97 (0, 0))) := ⟨by rw [hw3]; exact setRow_heap _ _ _ _ _ _ hb0⟩
  have B3 : Aside0 (Below w.heap.size w w3) := ⟨by rw [hw3]; exact below_row (below_then HB1.out HB1.out.size hB0) HB1.out.size _⟩
  have C3 : Aside0 (Kd.C (Kd.slice 5 (Kd.int .u8)) w3 A0 l0.length l0) := ⟨Kd.C_below HR.out B3.out⟩
  clear hw3 hb0 hB0
  go_loopw [4, 10] (fun v4 v10 wr => ∃ (i r : Nat), i ≤ l0.length ∧ Aside0 (r = crcF 4294967295 (l0.take i)) ∧ r < 4294967296 ∧ v4 = .int .u32 (r : Int) ∧ v10 = .int .i64 (i : Int) ∧ Drawn0 w3 wr) (fun _ v10 _ => l0.length - (intOf v10).toNat)
  case atStart => exact ⟨0, 4294967295, Nat.zero_le _, ⟨rfl⟩, by decide, rfl, rfl, Drawn0.refl _⟩
  case round =>
    obtain ⟨i, r, hi, hrr, hr32, rfl, rfl, ⟨m, rfl⟩⟩ := hrel
    by_cases hlt : i < l0.length
    · obtain ⟨ad, A1, c1, rfl, hcx, hc1, hr1⟩ := at_bss C3.out (i : Int) (by omega) (by omega)
      rw [Int.toNat_natCast] at hcx hc1 hr1
      obtain ⟨b, hb⟩ : ∃ b, b = l0.getD i [] := ⟨_, rfl⟩
      rw [← hb] at hcx hc1 hr1
      have hbb : ∀ x ∈ b, 0 ≤ x ∧ x < 256 := by
        have h1 : l0.getD i [] ∈ l0 := by rw [List.getD_eq_getElem?_getD, List.getElem?_eq_getElem hlt]; exact List.getElem_mem _
        rw [hb]; exact HL.out _ h1
      have HBB := Aside0.mk hbb
      have HBE := Aside0.mk hb
      have HR1 := Aside0.mk hr1
      have hcx' : (w3.drewN m).cell? (ad.add i) = some (.slice A1 b.length c1) := hcx
      clear hbb hb hr1 hcx
      have hlt' : (i : Int) < (l0.length : Int) := by omega
      go_wp2_with (go_at_call 69; go_loud (refine (checksum_advance.calls w1.heap.size A1 c1 b r (w3.drewN m) k3.out (Kd.C_drewN HR1.out _) HBB.out hr32).mono ?_; rintro e w4 ⟨rfl, ⟨m2, rfl⟩⟩))
      have e1 : crcF 4294967295 (l0.take (i + 1)) = crcR r b := by rw [crcF_take _ _ _ hlt, ← hrr.out, ← HBE.out]
      refine ⟨⟨i + 1, crcR r b, by omega, ⟨e1.symm⟩, crcR_lt _ _ (by omega) HBB.out, by simp, by simp, ⟨m + m2, rfl⟩⟩, ?_⟩
      simp [intOf]; omega
    · obtain rfl : i = l0.length := by omega
      have hf := hrr.out
      rw [List.take_length] at hf
      have e1 := not32 r (by omega)
      have HF := Aside0.mk hf
      clear hf
      go_wp2
      go_ret
      exact ⟨by rw [← HF.out, ← e1]; rfl, pw_below_drewN B3.out _⟩

/-! ### checksum_Seal: function 27 -/
def checksum_Seal.f (k : Nat) (l0 : List Int) : Option (List Int) := (checksum_CRC.f (([l0] : List (List Int)))).bind fun t122 => ((varint_Fixed.f k (IntKind.u64.wrap (t122)) 4).bind fun t123 => ((varint_Concat.f k (([l0, t123] : List (List Int)))).bind fun t129 => (some t129)))
theorem checksum_Seal.mono : ∀ a0 k, LeO (checksum_Seal.f k a0) (checksum_Seal.f (k + 1) a0) := by
 intro a0 k
 unfold checksum_Seal.f
 repeat' first
   | (with_reducible exact varint_Concat.mono _ _)
   | (with_reducible exact varint_Fixed.mono _ _ _)
   | (with_reducible exact LeO.refl _)
   | (with_reducible exact LeO.none _)
   | (with_reducible refine LeO.ite ?_ ?_)
   | (with_reducible refine LeO.bind ?_ (fun _ => ?_))
   | exact varint_Concat.mono _ _
   | exact varint_Fixed.mono _ _ _
   | exact LeO.none _
   | refine LeO.ite ?_ ?_
   | refine LeO.bind ?_ (fun _ => ?_)
set_option maxHeartbeats 8000000 in
set_option maxRecDepth 100000 in
theorem checksum_Seal.calls (k : Nat) (P0_ : Nat → Prop) (A0 : Option Addr) (c0 : Nat) (l0 : List Int) (r : List Int) (w : World) (hs0 : Kd.V (Kd.int .u8) 5 w w.heap.size (fun k_ => P0_ k_) (.slice A0 l0.length c0) l0) (h : checksum_Seal.f k l0 = some r) :
  Calls Tryd.prog 27 #[.slice A0 l0.length c0] w fun e w' => ∃ v0_ : Value, e = .returned (v0_) ∧ Kd.R (Kd.int .u8) 5 w' w.heap.size (fun k_ => (w.heap.size ≤ k_)) v0_ r ∧ Below w.heap.size w w' := by
 have HO0 := Aside0.mk (show Kd.V (Kd.int .u8) 5 w w.heap.size (fun k_ => (P0_ k_ ∨ w.heap.size ≤ k_)) (.slice A0 l0.length c0) l0 from Kd.V_mono hs0 (fun k_ hk => .inl hk))
 have HB := Aside0.mk (Below.refl w.heap.size w)
 have H : ((checksum_CRC.f (([l0] : List (List Int)))).bind fun t122 => ((varint_Fixed.f k (IntKind.u64.wrap (t122)) 4).bind fun t123 => ((varint_Concat.f k (([l0, t123] : List (List Int)))).bind fun t129 => (some t129)))) = some r := h
 clear h
 obtain ⟨y119, hy119⟩ : ∃ y_ : List (List Int), y_ = (([l0] : List (List Int))) := ⟨_, rfl⟩
 replace H : ((checksum_CRC.f y119).bind fun t122 => ((varint_Fixed.f k (IntKind.u64.wrap (t122)) 4).bind fun t123 => ((varint_Concat.f k (([l0, t123] : List (List Int)))).bind fun t129 => (some t129)))) = some r := by first | (rw [hy119]; with_reducible exact H) | (have H2_ := (Option.bind_some _ _).symm.trans H; rw [hy119]; with_reducible exact H2_) | (have H2_ := (Option.bind_some _ _).symm.trans H; with_reducible exact H2_) | with_reducible exact H | (rw [hy119]; exact H) | exact H
 have Ny119 := Aside0.mk hy119
 clear hy119
 replace H := Option.bind_eq_some_iff.mp H
 obtain ⟨t122, A20, H⟩ := H
 replace H : ((varint_Fixed.f k (IntKind.u64.wrap (t122)) 4).bind fun t123 => ((varint_Concat.f k (([l0, t123] : List (List Int)))).bind fun t129 => (some t129))) = some r := H
 have A2 := Aside0.mk A20
 clear A20
 replace H := Option.bind_eq_some_iff.mp H
 obtain ⟨t123, A30, H⟩ := H
 replace H : ((varint_Concat.f k (([l0, t123] : List (List Int)))).bind fun t129 => (some t129)) = some r := H
 have A3 := Aside0.mk A30
 clear A30
 obtain ⟨y126, hy126⟩ : ∃ y_ : List (List Int), y_ = (([l0, t123] : List (List Int))) := ⟨_, rfl⟩
 replace H : ((varint_Concat.f k y126).bind fun t129 => (some t129)) = some r := by first | (rw [hy126]; with_reducible exact H) | (have H2_ := (Option.bind_some _ _).symm.trans H; rw [hy126]; with_reducible exact H2_) | (have H2_ := (Option.bind_some _ _).symm.trans H; with_reducible exact H2_) | with_reducible exact H | (rw [hy126]; exact H) | exact H
 have Ny126 := Aside0.mk hy126
 clear hy126
 replace H := Option.bind_eq_some_iff.mp H
 obtain ⟨t129, A40, H⟩ := H
 replace H : (some t129) = some r := H
 have A4 := Aside0.mk A40
 clear A40
 obtain rfl := Option.some.inj H
 go_enter Tryd.func27, Tryd.ntmps27
 go_wp2_with (first | ((with_reducible refine gate_dst (N := 5) rfl ?_); refine Kd.N_lit (Kd.slice 5 (Kd.int .u8)) _ 27 ?hg (N' := 5) ?hd (xs := ([l0] : List (List Int))) (inner := [.slice A0 l0.length c0]) (ok := (fun k_ => (P0_ k_ ∨ w.heap.size ≤ k_))) (okp := (fun k_ => (P0_ k_ ∨ w.heap.size ≤ k_))) ?hr ?hp (fun _ hk => hk) ((show ∀ k_, w.heap.size ≤ k_ → (fun k_ => (P0_ k_ ∨ w.heap.size ≤ k_)) k_ from fun k_ hk => (.inr (Nat.le_trans (below_size (by repeat (first | (with_reducible first | exact HB.out | apply below_alloc | apply pw_below_drewN | apply below_drew1) | exact HB.out))) hk))) _ (Nat.le_refl _)) (Below.refl _ _) (Nat.le_refl _) (by simp) ?_; (case hd => rfl); (case hg => (first | rfl | (simp only [*]; rfl) | (simp [*]; done))); (case hr => first | (go_simp; done) | (go_simp; rfl)); (case hp => exact (Reps.one (show Kd.FK (Kd.slice 5 (Kd.int .u8)) _ _ l0 [.slice A0 l0.length c0] from (Kd.FK_slice_mk (Kd.V_reads' (Kd.V_mono (ok' := (fun k_ => (P0_ k_ ∨ w.heap.size ≤ k_))) (HO0.out) (fun k_ hk => hk))).2.1 (Kd.V_F (Kd.V_mono (ok' := (fun k_ => (P0_ k_ ∨ w.heap.size ≤ k_))) (HO0.out) (fun k_ hk => hk))))) (Reps.none _ _))); intro v120 w5 ho6 hb hg_ hnew_; clear hg_ hnew_; (first | rw [← Ny119.out] at ho6 | (simp only [Int.reduceToNat] at ho6; rw [← Ny119.out] at ho6)); have n0_ := Aside0.mk (Kd.V_elder' (by (with_reducible repeat (first | apply Kd.V_alloc | apply Kd.V_drewN | apply Kd.V_drew)); exact HO0.out) (Kd.N_base ho6) hb); have n1_ := Aside0.mk (Kd.N_lower ho6 (below_size (by repeat (first | (with_reducible first | exact HB.out | apply below_alloc | apply pw_below_drewN | apply below_drew1) | exact HB.out)))); have n2_ := Aside0.mk (below_step (by repeat (first | (with_reducible first | exact HB.out | apply below_alloc | apply pw_below_drewN | apply below_drew1) | exact HB.out)) hb); clear HO0; clear HB; have HO0 := n0_; have HO121 := n1_; have HB := n2_; clear n0_ n1_ n2_; clear hb ho6; obtain ⟨Ao7, co7, eo7⟩ := Kd.N_slice HO121.out; subst eo7) | ((with_reducible refine gate_callee (f := 50) rfl ?_); refine goesL_ (some 6) rfl rfl Tryd.func50 (by kernel_rfl) rfl #[.slice Ao7 y119.length co7] rfl (by (try simp only [List.map_toArray, List.map_cons, List.map_nil]); first | done | rfl | (simp only [List.length_drop, List.length_take]; rfl)) ?_; (with_reducible refine (checksum_CRC.calls _ _ y119 t122 _ ?side1 ?side2 A2.out).mono ?_); (case side1 => repeat (first | exact (Kd.N_reads' HO121.out).2.2 | (with_reducible refine Kd.C_alloc ?_ _) | (with_reducible refine Kd.C_drewN ?_ _) | (with_reducible refine Kd.C_drew ?_))); (case side2 => exact (Kd.N_reads' HO121.out).2.1); rintro e w8 ⟨rfl, hb⟩; refine ⟨_, rfl, ?_⟩; have n0_ := Aside0.mk (Kd.V_below (by (with_reducible repeat (first | apply Kd.V_alloc | apply Kd.V_drewN | apply Kd.V_drew)); exact HO0.out) hb); have n1_ := Aside0.mk (Kd.N_below (by (with_reducible repeat (first | apply Kd.N_alloc | apply Kd.N_drewN | apply Kd.N_drew)); exact HO121.out) hb); have n2_ := Aside0.mk (below_step (by repeat (first | (with_reducible first | exact HB.out | apply below_alloc | apply pw_below_drewN | apply below_drew1) | exact HB.out)) hb); clear HO0; clear HO121; clear HB; have HO0 := n0_; have HO121 := n1_; have HB := n2_; clear n0_ n1_ n2_; (try clear hb); (try clear hb2); (try clear hk); (try clear hi)) | ((with_reducible refine gate_callee (f := 49) rfl ?_); refine goesL_ (some 8) rfl rfl Tryd.func49 (by kernel_rfl) rfl #[.int .u64 (IntKind.u64.wrap (t122)), .int .i64 4] rfl (by (try simp only [List.map_toArray, List.map_cons, List.map_nil]); first | done | rfl | (simp only [List.length_drop, List.length_take]; rfl)) ?_; (with_reducible refine (varint_Fixed.calls k (IntKind.u64.wrap (t122)) 4 t123 _ A3.out).mono ?_); rintro e w9 ⟨v124, rfl, ho0, hb⟩; refine ⟨_, rfl, ?_⟩; have n0_ := Aside0.mk (Kd.V_elder' (by (with_reducible repeat (first | apply Kd.V_alloc | apply Kd.V_drewN | apply Kd.V_drew)); exact HO0.out) (Kd.R_base ho0) hb); have n1_ := Aside0.mk (Kd.N_elder' (by (with_reducible repeat (first | apply Kd.N_alloc | apply Kd.N_drewN | apply Kd.N_drew)); exact HO121.out) (Kd.R_base ho0) hb); have n2_ := Aside0.mk (Kd.R_lower (Kd.R_newM (M := fun k_ => (w.heap.size ≤ k_)) ho0 (below_size (by repeat (first | (with_reducible first | exact HB.out | apply below_alloc | apply pw_below_drewN | apply below_drew1) | exact HB.out))) (fun k_ h_ => h_)) (below_size (by repeat (first | (with_reducible first | exact HB.out | apply below_alloc | apply pw_below_drewN | apply below_drew1) | exact HB.out)))); have n3_ := Aside0.mk (below_step (by repeat (first | (with_reducible first | exact HB.out | apply below_alloc | apply pw_below_drewN | apply below_drew1) | exact HB.out)) hb); clear HO0; clear HO121; clear HB; have HO0 := n0_; have HO121 := n1_; have HO125 := n2_; have HB := n3_; clear n0_ n1_ n2_ n3_; (try clear hb); (try clear hb2); (try clear hk); (try clear hi); (try clear ho0); obtain ⟨Ao10, co10, eo10⟩ := Kd.R_slice HO125.out; subst eo10) | ((with_reducible refine gate_dst (N := 9) rfl ?_); refine Kd.N_lit (Kd.slice 5 (Kd.int .u8)) _ 27 ?hg (N' := 9) ?hd (xs := ([l0, t123] : List (List Int))) (inner := [.slice A0 l0.length c0, .slice Ao10 t123.length co10]) (ok := (fun k_ => (P0_ k_ ∨ w.heap.size ≤ k_) ∧ some k_ ≠ (.slice Ao7 y119.length co7 : Value).ownBlock)) (okp := (fun k_ => (P0_ k_ ∨ w.heap.size ≤ k_) ∧ some k_ ≠ (.slice Ao7 y119.length co7 : Value).ownBlock)) ?hr ?hp (fun _ hk => hk) ((show ∀ k_, w9.heap.size ≤ k_ → (fun k_ => (P0_ k_ ∨ w.heap.size ≤ k_) ∧ some k_ ≠ (.slice Ao7 y119.length co7 : Value).ownBlock) k_ from fun k_ hk => ⟨(.inr (Nat.le_trans (below_size (by repeat (first | (with_reducible first | exact HB.out | apply below_alloc | apply pw_below_drewN | apply below_drew1) | exact HB.out))) hk)), Kd.fresh' (Kd.N_lt (by (with_reducible repeat (first | apply Kd.N_alloc | apply Kd.N_drewN | apply Kd.N_drew)); exact HO121.out)) k_ hk⟩) _ (Nat.le_refl _)) (Below.refl _ _) (Nat.le_refl _) (by simp) ?_; (case hd => rfl); (case hg => (first | rfl | (simp only [*]; rfl) | (simp [*]; done))); (case hr => first | (go_simp; done) | (go_simp; rfl)); (case hp => exact (Reps.one (show Kd.FK (Kd.slice 5 (Kd.int .u8)) _ _ l0 [.slice A0 l0.length c0] from (Kd.FK_slice_mk (Kd.V_reads' (Kd.V_mono (ok' := (fun k_ => (P0_ k_ ∨ w.heap.size ≤ k_) ∧ some k_ ≠ (.slice Ao7 y119.length co7 : Value).ownBlock)) (HO0.out) (fun k_ hk => ⟨hk.1.1, hk.1.2⟩))).2.1 (Kd.V_F (Kd.V_mono (ok' := (fun k_ => (P0_ k_ ∨ w.heap.size ≤ k_) ∧ some k_ ≠ (.slice Ao7 y119.length co7 : Value).ownBlock)) (HO0.out) (fun k_ hk => ⟨hk.1.1, hk.1.2⟩))))) (Reps.one (show Kd.FK (Kd.slice 5 (Kd.int .u8)) _ _ t123 [.slice Ao10 t123.length co10] from (Kd.FK_slice_mk (Kd.R_reads' (Kd.R_mono (ok' := (fun k_ => (P0_ k_ ∨ w.heap.size ≤ k_) ∧ some k_ ≠ (.slice Ao7 y119.length co7 : Value).ownBlock)) (Kd.R_apart' (HO125.out) (Kd.N_typed HO121.out) (by decide)) (fun k_ hk => ⟨(.inr (hk.1.1)), hk.2⟩))).2.1 (Kd.R_F (Kd.R_mono (ok' := (fun k_ => (P0_ k_ ∨ w.heap.size ≤ k_) ∧ some k_ ≠ (.slice Ao7 y119.length co7 : Value).ownBlock)) (Kd.R_apart' (HO125.out) (Kd.N_typed HO121.out) (by decide)) (fun k_ hk => ⟨(.inr (hk.1.1)), hk.2⟩))))) (Reps.none _ _)))); intro v127 w11 ho12 hb hg_ hnew_; clear hg_ hnew_; (first | rw [← Ny126.out] at ho12 | (simp only [Int.reduceToNat] at ho12; rw [← Ny126.out] at ho12)); have n0_ := Aside0.mk (Kd.V_elder' (by (with_reducible repeat (first | apply Kd.V_alloc | apply Kd.V_drewN | apply Kd.V_drew)); exact HO0.out) (Kd.N_base ho12) hb); have n1_ := Aside0.mk (Kd.N_elder' (by (with_reducible repeat (first | apply Kd.N_alloc | apply Kd.N_drewN | apply Kd.N_drew)); exact HO121.out) (Kd.N_base ho12) hb); have n2_ := Aside0.mk (Kd.N_lower ho12 (below_size (by repeat (first | (with_reducible first | exact HB.out | apply below_alloc | apply pw_below_drewN | apply below_drew1) | exact HB.out)))); have n3_ := Aside0.mk (below_step (by repeat (first | (with_reducible first | exact HB.out | apply below_alloc | apply pw_below_drewN | apply below_drew1) | exact HB.out)) hb); clear HO0; clear HO121; clear HB; clear HO125; have HO0 := n0_; have HO121 := n1_; have HO128 := n2_; have HB := n3_; clear n0_ n1_ n2_ n3_; clear hb ho12; obtain ⟨Ao13, co13, eo13⟩ := Kd.N_slice HO128.out; subst eo13) | ((with_reducible refine gate_callee (f := 28) rfl ?_); refine goesL_ (some 10) rfl rfl Tryd.func28 (by kernel_rfl) rfl #[.slice Ao13 y126.length co13] rfl (by (try simp only [List.map_toArray, List.map_cons, List.map_nil]); first | done | rfl | (simp only [List.length_drop, List.length_take]; rfl)) ?_; (with_reducible refine (varint_Concat.calls k _ _ y126 t129 _ ?side1 ?side2 A4.out).mono ?_); (case side1 => repeat (first | exact (Kd.N_reads' HO128.out).2.2 | (with_reducible refine Kd.C_alloc ?_ _) | (with_reducible refine Kd.C_drewN ?_ _) | (with_reducible refine Kd.C_drew ?_))); (case side2 => exact (Kd.N_reads' HO128.out).2.1); rintro e w14 ⟨v130, rfl, ho0, hb⟩; refine ⟨_, rfl, ?_⟩; have n0_ := Aside0.mk (Kd.V_elder' (by (with_reducible repeat (first | apply Kd.V_alloc | apply Kd.V_drewN | apply Kd.V_drew)); exact HO0.out) (Kd.R_base ho0) hb); have n1_ := Aside0.mk (Kd.N_elder' (by (with_reducible repeat (first | apply Kd.N_alloc | apply Kd.N_drewN | apply Kd.N_drew)); exact HO121.out) (Kd.R_base ho0) hb); have n2_ := Aside0.mk (Kd.N_elder' (by (with_reducible repeat (first | apply Kd.N_alloc | apply Kd.N_drewN | apply Kd.N_drew)); exact HO128.out) (Kd.R_base ho0) hb); have n3_ := Aside0.mk (Kd.R_lower (Kd.R_newM (M := fun k_ => (w.heap.size ≤ k_)) ho0 (below_size (by repeat (first | (with_reducible first | exact HB.out | apply below_alloc | apply pw_below_drewN | apply below_drew1) | exact HB.out))) (fun k_ h_ => h_)) (below_size (by repeat (first | (with_reducible first | exact HB.out | apply below_alloc | apply pw_below_drewN | apply below_drew1) | exact HB.out)))); have n4_ := Aside0.mk (below_step (by repeat (first | (with_reducible first | exact HB.out | apply below_alloc | apply pw_below_drewN | apply below_drew1) | exact HB.out)) hb); clear HO0; clear HO121; clear HO128; clear HB; have HO0 := n0_; have HO121 := n1_; have HO128 := n2_; have HO131 := n3_; have HB := n4_; clear n0_ n1_ n2_ n3_ n4_; (try clear hb); (try clear hb2); (try clear hk); (try clear hi); (try clear ho0)))
 go_ret
 exact ⟨_, by first | rfl | (simp [errW_none, errW_some] <;> rfl) | (simp [*, errW_none, errW_some] <;> rfl), by (with_reducible repeat (first | apply Kd.R_alloc | apply Kd.R_drewN | apply Kd.R_drew)); exact Kd.R_mono HO131.out (fun _ hk => hk.1), by repeat (first | (with_reducible first | exact HB.out | apply below_alloc | apply pw_below_drewN | apply below_drew1) | exact HB.out)⟩

/-! ### delvec_Encode: function 9 -/
def delvec_Encode.f (k : Nat) (a0 : ByteArray) (a1_0 : Int) (l1_1 : List Int) : Option (List Int) :=
  if a0.size ≤ 1000000000 then (varint_Encode.f k (a0.size : Int)).bind fun e1 => (bitset_Encode.f a1_0 l1_1).bind fun e2 => (varint_Concat.f k [e1, bytesOf a0, e2]).bind fun c => checksum_Seal.f k c else none
theorem delvec_Encode.mono (k : Nat) (a0 : ByteArray) (a1_0 : Int) (l1_1 : List Int) : LeO (delvec_Encode.f k a0 a1_0 l1_1) (delvec_Encode.f (k + 1) a0 a1_0 l1_1) := by
  unfold delvec_Encode.f
  repeat' first
  | (with_reducible exact varint_Encode.mono _ _)
  | (with_reducible exact varint_Concat.mono _ _)
  | (with_reducible exact checksum_Seal.mono _ _)
  | (with_reducible exact LeO.refl _)
  | (with_reducible exact LeO.none _)
  | (with_reducible refine LeO.ite ?_ ?_)
  | (with_reducible refine LeO.bind ?_ (fun _ => ?_))
/-- What is known throughout: the parameter's box. -/
structure DEat (w : World) (N : Int) (A : Option Addr) (len cap : Nat) (W : World) : Prop where
  below : Below w.heap.size w W
  blk : W.heap[w.heap.size]? = some (.cells #[.int .i64 N, .slice A len cap] 24 (0, 0))
theorem DEat.step {w W W' : World} {N : Int} {A : Option Addr} {len cap : Nat} (h : DEat w N A len cap W) (hb : Below W.heap.size W W') : DEat w N A len cap W' := ⟨below_step h.below hb, blk_below h.blk hb⟩
theorem DEat.cells {w W : World} {N : Int} {A : Option Addr} {len cap : Nat} (h : DEat w N A len cap W) : W.cell? ⟨w.heap.size, 0, none⟩ = some (.int .i64 N) ∧ W.cell? ⟨w.heap.size, 1, none⟩ = some (.slice A len cap) := ⟨(blk_cell h.blk 0).trans rfl, (blk_cell h.blk 1).trans rfl⟩
/-- A row of bytes that a value leads to. -/
def HasB (W : World) (v : Value) (xs : List Int) : Prop := ∃ A c, v = .slice A xs.length c ∧ xs.length ≤ c ∧ Kd.C (Kd.int .u8) W A xs.length xs
theorem HasB.step {W W' : World} {v : Value} {xs : List Int} (h : HasB W v xs) (hb : Below W.heap.size W W') : HasB W' v xs := by
  obtain ⟨A, c, h1, h2, h3⟩ := h
  exact ⟨A, c, h1, h2, Kd.C_below h3 hb⟩
theorem HasB.of_R {W : World} {e base : Nat} {ok : Nat → Prop} {v : Value} {xs : List Int} (h : Kd.R (Kd.int .u8) e W base ok v xs) : HasB W v xs := by
  obtain ⟨A, c, rfl⟩ := Kd.R_slice h
  exact ⟨A, c, rfl, (Kd.R_reads' h).2.1, (Kd.R_reads' h).2.2⟩
set_option maxHeartbeats 4000000 in
set_option maxRecDepth 100000 in
theorem delvec_Encode.calls (k : Nat) (a0 : ByteArray) (a1_0 : Int) (A1_1 : Option Addr) (c1_1 : Nat) (l1_1 : List Int) (r : List Int) (w : World) (hr1_1 : Kd.C (Kd.int .u64) w A1_1 l1_1.length l1_1) (hc1_1 : l1_1.length ≤ c1_1) (hT : TabAt w) (h : delvec_Encode.f k a0 a1_0 l1_1 = some r) :
    Calls Tryd.prog 9 #[.string a0, .agg #[.int .i64 a1_0, .slice A1_1 l1_1.length c1_1]] w fun e w' => ∃ v0_ : Value, e = .returned (v0_) ∧ Kd.R (Kd.int .u8) 5 w' w.heap.size (fun _ => True) v0_ r ∧ Below w.heap.size w w' := by
  have hu24 := Tryd.underlying24
  unfold delvec_Encode.f at h
  by_cases hsz : a0.size ≤ 1000000000
  case neg => rw [if_neg hsz] at h; cases h
  rw [if_pos hsz] at h
  replace h := Option.bind_eq_some_iff.mp h
  obtain ⟨x1, hE1, h⟩ := h
  replace h := Option.bind_eq_some_iff.mp h
  obtain ⟨x3, hE3, h⟩ := h
  replace h := Option.bind_eq_some_iff.mp h
  obtain ⟨y, hC, h⟩ := h
  have ewz : IntKind.u64.wrap (a0.size : Int) = (a0.size : Int) := wraps_u64 _ (by omega) (by omega)
  have E1 := Aside0.mk hE1
  have E3 := Aside0.mk hE3
  have HC := Aside0.mk hC
  have HS := Aside0.mk h
  have HZ := Aside0.mk hsz
  have HR := Aside0.mk hr1_1
  have HT := Aside0.mk hT
  have HTp := Aside0.mk (TabAt.pos hT)
  clear hE1 hE3 hC h hsz hr1_1 hT
  go_enter Tryd.func9, Tryd.ntmps9
  try go_wp2
  have hA0 : DEat w a1_0 A1_1 l1_1.length c1_1 (w.alloc (.cells #[.int .i64 a1_0, .slice A1_1 l1_1.length c1_1] 24)) := ⟨below_alloc (Below.refl _ w) _, blk_new w _⟩
  generalize (w.alloc (.cells #[.int .i64 a1_0, .slice A1_1 l1_1.length c1_1] 24)) = W1 at hA0 ⊢
  refine start_ (n := 12) (S := fun w' => w'.cell? ⟨w.heap.size, 0, none⟩ = some (.int .i64 a1_0) ∧ w'.cell? ⟨w.heap.size, 1, none⟩ = some (.slice A1_1 l1_1.length c1_1)) (ds := []) #[false, false, false, false, false, false, false, false, false, false, false, false] (by kernel_rfl) rfl rfl hA0.cells (fun hHeld => ?_)
  have hA1 : DEat w a1_0 A1_1 l1_1.length c1_1 W1.drew := hA0.step (below_drew (Below.refl _ _))
  clear hA0
  generalize W1.drew = W2 at hA1 hHeld ⊢
  refine pure_ (i := 0) (N := some 5) (v := ?_) (a' := ?_) #[true, false, false, false, false, false, false, false, false, false, false, false] rfl rfl (by kernel_rfl) (fun _ _ _ h => h) (Or.inl ⟨by (first | rfl | (simp only [*]; rfl) | (simp [*]; done)), ?_⟩) ?_ ?_
  rotate_left
  · intro w'
    go_simp
    with_reducible rfl
  rotate_left
  · simp only [Act.put, List.setIfInBounds_toArray, List.set_cons_zero, List.set_cons_succ]
    rfl
  refine pure_ (i := 1) (N := some 6) (v := ?_) (a' := ?_) #[true, true, false, false, false, false, false, false, false, false, false, false] rfl rfl (by kernel_rfl) (fun _ _ _ h => h) (Or.inl ⟨by (first | rfl | (simp only [*]; rfl) | (simp [*]; done)), ?_⟩) ?_ ?_
  rotate_left
  · intro w'
    go_simp
    with_reducible rfl
  rotate_left
  · simp only [Act.put, List.setIfInBounds_toArray, List.set_cons_zero, List.set_cons_succ]
    rfl
  try rw [ewz]
  refine pure_ (i := 2) (N := some 7) (v := ?_) (a' := ?_) #[true, true, true, false, false, false, false, false, false, false, false, false] rfl rfl (by kernel_rfl) (fun _ _ _ h => h) (Or.inl ⟨by (first | rfl | (simp only [*]; rfl) | (simp [*]; done)), ?_⟩) ?_ ?_
  rotate_left
  · intro w'
    go_simp
    with_reducible rfl
  rotate_left
  · simp only [Act.put, List.setIfInBounds_toArray, List.set_cons_zero, List.set_cons_succ]
    rfl
  refine pure_ (i := 4) (N := some 9) (v := ?_) (a' := ?_) #[true, true, true, false, true, false, false, false, false, false, false, false] rfl rfl (by kernel_rfl) (fun _ _ _ h => h) (Or.inl ⟨by (first | rfl | (simp only [*]; rfl) | (simp [*]; done)), ?_⟩) ?_ ?_
  rotate_left
  · intro w'
    go_simp
    with_reducible rfl
  rotate_left
  · simp only [Act.put, List.setIfInBounds_toArray, List.set_cons_zero, List.set_cons_succ]
    rfl
  refine take_ (i := 6) (N := some 11) (v := ?_) (a' := ?_) #[true, true, true, false, true, false, true, false, false, false, false, false] rfl rfl (by kernel_rfl) (fun _ _ _ h => h) (Or.inl ⟨by (first | rfl | (simp only [*]; rfl) | (simp [*]; done)), ?_⟩) hHeld ?_ ?_
  rotate_left
  · rintro w' ⟨s0, s1⟩
    go_simp
    with_reducible rfl
  rotate_left
  · simp only [Act.put, List.setIfInBounds_toArray, List.set_cons_zero, List.set_cons_succ]
    rfl
  refine join_ (σ := Value × Value × Value) 4 #[true, true, true, true, true, true, true, true, false, false, false, false] (fun s_ => [(8, s_.1), (10, s_.2.1), (12, s_.2.2)]) (fun s_ w' => DEat w a1_0 A1_1 l1_1.length c1_1 w' ∧ HasB w' s_.1 x1 ∧ HasB w' s_.2.1 (bytesOf a0) ∧ HasB w' s_.2.2 x3) ?_ ?_
  rotate_left
  · intro hCont
    refine two_ (i := 3) (j := 5) (Ni := some 8) (Nj := some 10) #[true, true, true, true, true, false, true, false, false, false, false, false] #[true, true, true, false, true, true, true, false, false, false, false, false] rfl rfl rfl rfl (by kernel_rfl) (by decide) (by decide) (fun K hK => ?_) (fun K hK => ?_)
    · skip
      refine goes_ Tryd.func29 (by kernel_rfl) rfl #[.int .u64 (a0.size : Int)] (by (first | rfl | (simp only [*]; rfl) | (simp [*]; done))) rfl rfl (by simp [Act.eval]) ?_
      (with_reducible refine (varint_Encode.calls k (a0.size : Int) x1 _ E1.out).mono ?_)
      rintro e W3 ⟨v1, rfl, hv1, hb⟩
      have h1 := HasB.of_R hv1
      replace hA1 := hA1.step hb
      refine ⟨_, rfl, ?_⟩
      refine hK.out _ _ hA1.cells (fun hHeld => ?_)
      clear hK K
      refine norm_ (a' := ?_) ?_ ?_
      rotate_left
      · show Act.put _ (some 8) _ = _
        simp only [Act.put, List.setIfInBounds_toArray, List.set_cons_zero, List.set_cons_succ]
        rfl
      refine two_ (i := 5) (j := 7) (Ni := some 10) (Nj := some 12) #[true, true, true, true, true, true, true, false, false, false, false, false] #[true, true, true, true, true, false, true, true, false, false, false, false] rfl rfl rfl rfl (by kernel_rfl) (by decide) (by decide) (fun K hK => ?_) (fun K hK => ?_)
      · skip
        obtain ⟨A5, c5, W4, hrun, hl5, hC5, hb⟩ := conv_run (P := Tryd.prog) (src := 9) (dst := 27) Tryd.underlying9 Tryd.underlying27 Tryd.underlying5 a0 (by have := HZ.out; omega) W3
        refine value_ (v := .slice A5 (bytesOf a0).length c5) (w1 := W4) (by (first | rfl | (simp only [*]; rfl) | (simp [*]; done))) rfl (by first | (go_simp; done) | (go_simp; exact hrun) | (simp [execOp, Act.eval]; exact hrun)) ?_
        have h2 : HasB W4 (.slice A5 (bytesOf a0).length c5) (bytesOf a0) := ⟨A5, c5, rfl, hl5, hC5⟩
        clear hrun
        replace hA1 := hA1.step hb
        replace h1 := h1.step hb
        refine hK.out _ _ hA1.cells (fun hHeld => ?_)
        clear hK K
        refine norm_ (a' := ?_) ?_ ?_
        rotate_left
        · show Act.put _ (some 10) _ = _
          simp only [Act.put, List.setIfInBounds_toArray, List.set_cons_zero, List.set_cons_succ]
          rfl
        refine one_ (i := 7) (N := some 12) #[true, true, true, true, true, true, true, true, false, false, false, false] rfl rfl (by kernel_rfl) (by decide) (fun K hK => ?_)
        refine goes_ Tryd.func30 (by kernel_rfl) rfl #[.agg #[.int .i64 a1_0, .slice A1_1 l1_1.length c1_1]] (by (first | rfl | (simp only [*]; rfl) | (simp [*]; done))) rfl rfl (by simp [Act.eval]) ?_
        (with_reducible refine (bitset_Encode.calls a1_0 A1_1 c1_1 l1_1 x3 _ (Kd.C_below HR.out hA1.below) hc1_1 (TabAt.below HT.out hA1.below HTp.out) E3.out).mono ?_)
        rintro e W5 ⟨v3, rfl, hv3, hb⟩
        have h3 := HasB.of_R hv3
        replace hA1 := hA1.step hb
        replace h1 := h1.step hb
        replace h2 := h2.step hb
        refine ⟨_, rfl, ?_⟩
        refine hK.out _ _ hA1.cells (fun hHeld => ?_)
        clear hK K
        refine norm_ (a' := ?_) ?_ ?_
        rotate_left
        · show Act.put _ (some 12) _ = _
          simp only [Act.put, List.setIfInBounds_toArray, List.set_cons_zero, List.set_cons_succ]
          rfl
        exact norm_ (by simp only [putAll, Act.put, List.setIfInBounds_toArray, List.set_cons_zero, List.set_cons_succ]) (hCont (v1, .slice A5 (bytesOf a0).length c5, v3) _ ⟨hA1, h1, h2, h3⟩)
      · skip
        refine goes_ Tryd.func30 (by kernel_rfl) rfl #[.agg #[.int .i64 a1_0, .slice A1_1 l1_1.length c1_1]] (by (first | rfl | (simp only [*]; rfl) | (simp [*]; done))) rfl rfl (by simp [Act.eval]) ?_
        (with_reducible refine (bitset_Encode.calls a1_0 A1_1 c1_1 l1_1 x3 _ (Kd.C_below HR.out hA1.below) hc1_1 (TabAt.below HT.out hA1.below HTp.out) E3.out).mono ?_)
        rintro e W4 ⟨v3, rfl, hv3, hb⟩
        have h3 := HasB.of_R hv3
        replace hA1 := hA1.step hb
        replace h1 := h1.step hb
        refine ⟨_, rfl, ?_⟩
        refine hK.out _ _ hA1.cells (fun hHeld => ?_)
        clear hK K
        refine norm_ (a' := ?_) ?_ ?_
        rotate_left
        · show Act.put _ (some 12) _ = _
          simp only [Act.put, List.setIfInBounds_toArray, List.set_cons_zero, List.set_cons_succ]
          rfl
        refine one_ (i := 5) (N := some 10) #[true, true, true, true, true, true, true, true, false, false, false, false] rfl rfl (by kernel_rfl) (by decide) (fun K hK => ?_)
        obtain ⟨A5, c5, W5, hrun, hl5, hC5, hb⟩ := conv_run (P := Tryd.prog) (src := 9) (dst := 27) Tryd.underlying9 Tryd.underlying27 Tryd.underlying5 a0 (by have := HZ.out; omega) W4
        refine value_ (v := .slice A5 (bytesOf a0).length c5) (w1 := W5) (by (first | rfl | (simp only [*]; rfl) | (simp [*]; done))) rfl (by first | (go_simp; done) | (go_simp; exact hrun) | (simp [execOp, Act.eval]; exact hrun)) ?_
        have h2 : HasB W5 (.slice A5 (bytesOf a0).length c5) (bytesOf a0) := ⟨A5, c5, rfl, hl5, hC5⟩
        clear hrun
        replace hA1 := hA1.step hb
        replace h1 := h1.step hb
        replace h3 := h3.step hb
        refine hK.out _ _ hA1.cells (fun hHeld => ?_)
        clear hK K
        refine norm_ (a' := ?_) ?_ ?_
        rotate_left
        · show Act.put _ (some 10) _ = _
          simp only [Act.put, List.setIfInBounds_toArray, List.set_cons_zero, List.set_cons_succ]
          rfl
        exact norm_ (by simp only [putAll, Act.put, List.setIfInBounds_toArray, List.set_cons_zero, List.set_cons_succ]) (hCont (v1, .slice A5 (bytesOf a0).length c5, v3) _ ⟨hA1, h1, h2, h3⟩)
    · skip
      obtain ⟨A5, c5, W3, hrun, hl5, hC5, hb⟩ := conv_run (P := Tryd.prog) (src := 9) (dst := 27) Tryd.underlying9 Tryd.underlying27 Tryd.underlying5 a0 (by have := HZ.out; omega) W2
      refine value_ (v := .slice A5 (bytesOf a0).length c5) (w1 := W3) (by (first | rfl | (simp only [*]; rfl) | (simp [*]; done))) rfl (by first | (go_simp; done) | (go_simp; exact hrun) | (simp [execOp, Act.eval]; exact hrun)) ?_
      have h2 : HasB W3 (.slice A5 (bytesOf a0).length c5) (bytesOf a0) := ⟨A5, c5, rfl, hl5, hC5⟩
      clear hrun
      replace hA1 := hA1.step hb
      refine hK.out _ _ hA1.cells (fun hHeld => ?_)
      clear hK K
      refine norm_ (a' := ?_) ?_ ?_
      rotate_left
      · show Act.put _ (some 10) _ = _
        simp only [Act.put, List.setIfInBounds_toArray, List.set_cons_zero, List.set_cons_succ]
        rfl
      refine one_ (i := 3) (N := some 8) #[true, true, true, true, true, true, true, false, false, false, false, false] rfl rfl (by kernel_rfl) (by decide) (fun K hK => ?_)
      refine goes_ Tryd.func29 (by kernel_rfl) rfl #[.int .u64 (a0.size : Int)] (by (first | rfl | (simp only [*]; rfl) | (simp [*]; done))) rfl rfl (by simp [Act.eval]) ?_
      (with_reducible refine (varint_Encode.calls k (a0.size : Int) x1 _ E1.out).mono ?_)
      rintro e W4 ⟨v1, rfl, hv1, hb⟩
      have h1 := HasB.of_R hv1
      replace hA1 := hA1.step hb
      replace h2 := h2.step hb
      refine ⟨_, rfl, ?_⟩
      refine hK.out _ _ hA1.cells (fun hHeld => ?_)
      clear hK K
      refine norm_ (a' := ?_) ?_ ?_
      rotate_left
      · show Act.put _ (some 8) _ = _
        simp only [Act.put, List.setIfInBounds_toArray, List.set_cons_zero, List.set_cons_succ]
        rfl
      refine one_ (i := 7) (N := some 12) #[true, true, true, true, true, true, true, true, false, false, false, false] rfl rfl (by kernel_rfl) (by decide) (fun K hK => ?_)
      refine goes_ Tryd.func30 (by kernel_rfl) rfl #[.agg #[.int .i64 a1_0, .slice A1_1 l1_1.length c1_1]] (by (first | rfl | (simp only [*]; rfl) | (simp [*]; done))) rfl rfl (by simp [Act.eval]) ?_
      (with_reducible refine (bitset_Encode.calls a1_0 A1_1 c1_1 l1_1 x3 _ (Kd.C_below HR.out hA1.below) hc1_1 (TabAt.below HT.out hA1.below HTp.out) E3.out).mono ?_)
      rintro e W5 ⟨v3, rfl, hv3, hb⟩
      have h3 := HasB.of_R hv3
      replace hA1 := hA1.step hb
      replace h1 := h1.step hb
      replace h2 := h2.step hb
      refine ⟨_, rfl, ?_⟩
      refine hK.out _ _ hA1.cells (fun hHeld => ?_)
      clear hK K
      refine norm_ (a' := ?_) ?_ ?_
      rotate_left
      · show Act.put _ (some 12) _ = _
        simp only [Act.put, List.setIfInBounds_toArray, List.set_cons_zero, List.set_cons_succ]
        rfl
      exact norm_ (by simp only [putAll, Act.put, List.setIfInBounds_toArray, List.set_cons_zero, List.set_cons_succ]) (hCont (v1, .slice A5 (bytesOf a0).length c5, v3) _ ⟨hA1, h1, h2, h3⟩)
  clear hHeld hA1
  rintro ⟨v1, v2, v3⟩ W6 ⟨hA1, ⟨A1, c1, rfl, hl1, hC1⟩, ⟨A2, c2, rfl, hl2, hC2⟩, ⟨A3, c3, rfl, hl3, hC3⟩⟩
  refine norm_ (a' := ?_) ?_ ?_
  rotate_left
  · simp only [putAll, Act.put, List.setIfInBounds_toArray, List.set_cons_zero, List.set_cons_succ]
    rfl
  refine one_ (i := 8) (N := some 13) #[true, true, true, true, true, true, true, true, true, false, false, false] rfl rfl (by kernel_rfl) (by decide) (fun K hK => ?_)
  refine Kd.N_lit_step (Kd.slice 5 (Kd.int .u8)) _ 27 ?hw (N' := 13) rfl (xs := ([x1, bytesOf a0, x3] : List (List Int))) (inner := [.slice A1 x1.length c1, .slice A2 (bytesOf a0).length c2, .slice A3 x3.length c3]) (ok := fun _ => True) (okp := fun k_ => k_ < W6.heap.size) ?hr ?hp (fun _ _ => trivial) trivial (Below.refl _ _) (Nat.le_refl _) (by simp) ?_
  case hw => first | rfl | (simp only [*]; rfl) | (simp [*]; done)
  case hr => first | (go_simp; done) | (go_simp; rfl)
  case hp => exact (Reps.one (show Kd.FK (Kd.slice 5 (Kd.int .u8)) _ _ x1 [.slice A1 x1.length c1] from (Kd.FK_slice_mk hl1 (Kd.C_F (Kd.heap_int .u8) hC1))) (Reps.one (show Kd.FK (Kd.slice 5 (Kd.int .u8)) _ _ (bytesOf a0) [.slice A2 (bytesOf a0).length c2] from (Kd.FK_slice_mk hl2 (Kd.C_F (Kd.heap_int .u8) hC2))) (Reps.one (show Kd.FK (Kd.slice 5 (Kd.int .u8)) _ _ x3 [.slice A3 x3.length c3] from (Kd.FK_slice_mk hl3 (Kd.C_F (Kd.heap_int .u8) hC3))) (Reps.none _ _))))
  intro v_ W7 ho hb hg_ hnew_
  clear hg_ hnew_ hl1 hl2 hl3 hC1 hC2 hC3
  obtain ⟨A7, c7, e_⟩ := Kd.N_slice ho
  subst e_
  have h7 := Kd.N_reads' ho
  replace hA1 := hA1.step hb
  clear ho hb
  refine hK.out _ _ hA1.cells (fun hHeld => ?_)
  clear hK K
  refine norm_ (a' := ?_) ?_ ?_
  rotate_left
  · show Act.put _ (some 13) _ = _
    simp only [Act.put, List.setIfInBounds_toArray, List.set_cons_zero, List.set_cons_succ]
    rfl
  refine one_ (i := 9) (N := some 14) #[true, true, true, true, true, true, true, true, true, true, false, false] rfl rfl (by kernel_rfl) (by decide) (fun K hK => ?_)
  refine goes_ Tryd.func28 (by kernel_rfl) rfl #[.slice A7 [x1, bytesOf a0, x3].length c7] (by (first | rfl | (simp only [*]; rfl) | (simp [*]; done))) rfl rfl (by simp [Act.eval]) ?_
  (with_reducible refine (varint_Concat.calls k A7 c7 [x1, bytesOf a0, x3] y _ h7.2.2 h7.2.1 HC.out).mono ?_)
  rintro e W8 ⟨v8, rfl, hv8, hb⟩
  obtain ⟨A8, c8, hC8, h8l, h8C⟩ := HasB.of_R hv8
  subst hC8
  clear hv8
  replace hA1 := hA1.step hb
  clear hb h7
  refine ⟨_, rfl, ?_⟩
  refine hK.out _ _ hA1.cells (fun hHeld => ?_)
  clear hK K
  refine norm_ (a' := ?_) ?_ ?_
  rotate_left
  · show Act.put _ (some 14) _ = _
    simp only [Act.put, List.setIfInBounds_toArray, List.set_cons_zero, List.set_cons_succ]
    rfl
  refine one_ (i := 10) (N := some 15) #[true, true, true, true, true, true, true, true, true, true, true, false] rfl rfl (by kernel_rfl) (by decide) (fun K hK => ?_)
  refine goes_ Tryd.func27 (by kernel_rfl) rfl #[.slice A8 y.length c8] (by (first | rfl | (simp only [*]; rfl) | (simp [*]; done))) rfl rfl (by simp [Act.eval]) ?_
  (with_reducible refine (checksum_Seal.calls k (fun k_ => k_ < W8.heap.size) A8 c8 y r _ (Kd.V_mk h8l (Kd.C_F (Kd.heap_int .u8) h8C)) HS.out).mono ?_)
  rintro e W9 ⟨v9, rfl, hv9, hb⟩
  have hv := Kd.R_mono (Kd.R_lower hv9 hA1.below.size) (ok' := fun _ => True) (fun _ _ => trivial)
  replace hA1 := hA1.step hb
  clear hb hv9
  refine ⟨_, rfl, ?_⟩
  refine hK.out _ _ hA1.cells (fun hHeld => ?_)
  clear hK K
  refine norm_ (a' := ?_) ?_ ?_
  rotate_left
  · show Act.put _ (some 15) _ = _
    simp only [Act.put, List.setIfInBounds_toArray, List.set_cons_zero, List.set_cons_succ]
    rfl
  refine pure_ (i := 11) (N := some 4) (v := ?_) (a' := ?_) #[true, true, true, true, true, true, true, true, true, true, true, true] rfl rfl (by kernel_rfl) (fun _ _ _ h => h) (Or.inl ⟨by (first | rfl | (simp only [*]; rfl) | (simp [*]; done)), ?_⟩) ?_ ?_
  rotate_left
  · intro w'
    go_simp
    with_reducible rfl
  rotate_left
  · simp only [Act.put, List.setIfInBounds_toArray, List.set_cons_zero, List.set_cons_succ]
    rfl
  refine done_ (by kernel_rfl) ?_
  try go_wp2
  go_ret
  exact ⟨_, rfl, hv, hA1.below⟩

end Go.Proofs.YtfonjlolliiaeaaDoor.QDelvecApplies
