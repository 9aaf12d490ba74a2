-- Written by a program of this session (wip/pr2.sh): the walk of the Go text, function by function.
import Derived.Test.YtfonjlolliiaeaaQChecksumPartsx0
import Derived.Test.YtfonjlolliiaeaaQChecksumPartsx1
namespace Go.Proofs.Ytfonjlolliiaeaa.QChecksumParts
open Go.RowKit Go.Proofs.YtfonjlolliiaeaaW.PrintWords Go.Proofs.YtfonjlolliiaeaaW.PrintLast Go.Proofs.YtfonjlolliiaeaaW.PrintMore
open Go.Proofs.YtfonjlolliiaeaaM
attribute [local go_sem] max2_int min2_int max_two min_two max_three min_three max_four min_four   -- for this text's walks alone
set_option linter.unusedVariables false
set_option linter.unusedSimpArgs false

/-! ### varint_Fixed: function 28 -/
mutual
def varint_Fixed.j0 : Nat → Int → Int → Bool → Option (List Int)
 | 0, _, _, _ => none
 | k + 1, x0, x1, x12 => if x12 = true then (some ([] : List Int)) else (if 0 ≤ x1 then (if (x1 : Int).toNat ≤ 281474976710656 then (varint_Fixed.l0 k x0 (List.replicate (x1 : Int).toNat 0) x1 0) else (none)) else (none))
def varint_Fixed.l0 : Nat → Int → List Int → Int → Int → Option (List Int)
 | 0, _, _, _, _ => none
 | k + 1, x0, x5, x15, x16 => if x16 < x15 then (if 0 ≤ (wrap64 (8 * x16)) then (if 0 ≤ x16 then (if x16 < (x5.length : Int) then (varint_Fixed.l0 k x0 (x5.set (x16 : Int).toNat ((shr .u64 x0 (wrap64 (8 * x16))) % 256)) x15 (wrap64 (x16 + 1))) else (none)) else (none)) else (none)) else (some x5)
end
def varint_Fixed.f (k : Nat) (a0 : Int) (a1 : Int) : Option (List Int) := if a1 < 1 then (varint_Fixed.j0 k a0 a1 true) else (varint_Fixed.j0 k a0 a1 (decide (a1 > 8)))
theorem varint_Fixed.mono_l : ∀ k, (∀ y0 y1 y2, LeO (varint_Fixed.j0 k y0 y1 y2) (varint_Fixed.j0 (k + 1) y0 y1 y2)) ∧ (∀ y0 y1 y2 y3, LeO (varint_Fixed.l0 k y0 y1 y2 y3) (varint_Fixed.l0 (k + 1) y0 y1 y2 y3))
 | 0 => ⟨fun _ _ _ r h => by simp [varint_Fixed.j0] at h, fun _ _ _ _ r h => by simp [varint_Fixed.l0] at h⟩
 | k + 1 => by
  obtain ⟨ih0, ih1⟩ := varint_Fixed.mono_l k
  refine ⟨?_, ?_⟩
  ·intro y0 y1 y2
   unfold varint_Fixed.j0
   repeat' first
   | (with_reducible exact ih0 _ _ _)
   | (with_reducible exact ih1 _ _ _ _)
   | (with_reducible exact LeO.refl _)
   | (with_reducible exact LeO.none _)
   | (with_reducible refine LeO.ite ?_ ?_)
   | (with_reducible refine LeO.bind ?_ (fun _ => ?_))
   | exact ih0 _ _ _
   | exact ih1 _ _ _ _
   | exact LeO.none _
   | refine LeO.ite ?_ ?_
   | refine LeO.bind ?_ (fun _ => ?_)
  ·intro y0 y1 y2 y3
   unfold varint_Fixed.l0
   repeat' first
   | (with_reducible exact ih0 _ _ _)
   | (with_reducible exact ih1 _ _ _ _)
   | (with_reducible exact LeO.refl _)
   | (with_reducible exact LeO.none _)
   | (with_reducible refine LeO.ite ?_ ?_)
   | (with_reducible refine LeO.bind ?_ (fun _ => ?_))
   | exact ih0 _ _ _
   | exact ih1 _ _ _ _
   | exact LeO.none _
   | refine LeO.ite ?_ ?_
   | refine LeO.bind ?_ (fun _ => ?_)
theorem varint_Fixed.mono : ∀ a0 a1 k, LeO (varint_Fixed.f k a0 a1) (varint_Fixed.f (k + 1) a0 a1) := by
 intro a0 a1 k
 obtain ⟨ih0, ih1⟩ := varint_Fixed.mono_l k
 unfold varint_Fixed.f
 repeat' first
   | (with_reducible exact ih0 _ _ _)
   | (with_reducible exact ih1 _ _ _ _)
   | (with_reducible exact LeO.refl _)
   | (with_reducible exact LeO.none _)
   | (with_reducible refine LeO.ite ?_ ?_)
   | (with_reducible refine LeO.bind ?_ (fun _ => ?_))
   | exact ih0 _ _ _
   | exact ih1 _ _ _ _
   | exact LeO.none _
   | refine LeO.ite ?_ ?_
   | refine LeO.bind ?_ (fun _ => ?_)
set_option maxHeartbeats 8000000 in
set_option maxRecDepth 100000 in
theorem varint_Fixed.calls (k : Nat) (a0 : Int) (a1 : Int) (r : List Int) (w : World) (h : varint_Fixed.f k a0 a1 = some r) :
  Calls Try.prog 28 #[.int .u64 a0, .int .i64 a1] w fun e w' => ∃ v0_ : Value, e = .returned (v0_) ∧ Kd.R (Kd.int .u8) 5 w' w.heap.size (fun _ => True) v0_ r ∧ Below w.heap.size w w' := by
 have HB := Aside0.mk (Below.refl w.heap.size w)
 have H : (if a1 < 1 then (varint_Fixed.j0 k a0 a1 true) else (varint_Fixed.j0 k a0 a1 (decide (a1 > 8)))) = some r := h
 clear h
 have HC3 := Aside0.mk H
 clear H
 go_enter Try.func28, Try.ntmps28
 go_upto_region 1 with (fail)
 go_cut [12] (fun v12 wc => ∃ (kq : Nat) (x12_2 : Bool), v12 = .bool x12_2 ∧ Aside0 (varint_Fixed.j0 kq a0 a1 x12_2 = some r) ∧ Aside0 (kq ≤ k) ∧ Aside0 (Below w.heap.size w wc))
 case first =>
  have H := HC3.out
  clear HC3
  by_cases c4 : a1 < 1
  ·rw [if_pos c4] at H
   have c4b0 : decide (a1 < 1) = true := decide_eq_true c4
   clear c4
   (first | rw [c4b0] | (simp only [i64_w, i32_w]; rw [c4b0]) | skip)
   have H' := Aside0.mk H
   clear H
   go_wp2
   go_meet
   case rel => exact ⟨_, (true), (by first | rfl | (simp; done) | (simp [*]; done)), H', ⟨by first | omega | exact Nat.le_refl _⟩, ⟨by repeat (first | (with_reducible first | exact HB.out | apply below_alloc | apply pw_below_drewN | apply below_drew1) | exact HB.out)⟩⟩
  ·rw [if_neg c4] at H
   have c4b0 : decide (a1 < 1) = false := decide_eq_false c4
   clear c4
   (first | rw [c4b0] | (simp only [i64_w, i32_w]; rw [c4b0]) | skip)
   have H' := Aside0.mk H
   clear H
   go_wp2
   go_meet
   case rel => exact ⟨_, (decide (a1 > 8)), (by first | rfl | (simp; done) | (simp [*]; done)), H', ⟨by first | omega | exact Nat.le_refl _⟩, ⟨by repeat (first | (with_reducible first | exact HB.out | apply below_alloc | apply pw_below_drewN | apply below_drew1) | exact HB.out)⟩⟩
 case rest =>
  clear HC3
  try clear c2
  try clear p2
  try clear c4
  try clear c4b0
  obtain ⟨kq, x12_2, rfl, HA, HJ2, HB⟩ := hcut
  cases kq with
  | zero => exact absurd HA.out (by simp [varint_Fixed.j0])
  | succ kj2 =>
   have H := HA.out
   clear HA
   simp only [varint_Fixed.j0] at H
   by_cases c5 : x12_2 = true
   ·subst c5
    have H1 : (some ([] : List Int)) = some r := by rw [if_pos rfl] at H; exact H
    clear H
    have H := H1
    clear H1
    obtain rfl := Option.some.inj H
    go_wp2
    go_ret
    exact ⟨_, by first | rfl | (simp [errW_none, errW_some] <;> rfl) | (simp [*, errW_none, errW_some] <;> rfl), by first | exact Kd.R_nil _ _ _ _ _ | exact Kd.N_nil _ _ _ _ _ | exact Kd.V_nil _ _ _ _ _ | exact Kd.Q_nil _ _ _ _ _ | exact Kd.S_nil _ _ _ _ _, by repeat (first | (with_reducible first | exact HB.out | apply below_alloc | apply pw_below_drewN | apply below_drew1) | exact HB.out)⟩
   ·replace c5 := Bool.eq_false_iff.mpr c5
    subst c5
    have H1 : (if 0 ≤ a1 then (if (a1 : Int).toNat ≤ 281474976710656 then (varint_Fixed.l0 kj2 a0 (List.replicate (a1 : Int).toNat 0) a1 0) else (none)) else (none)) = some r := by rw [if_neg (show ¬ (false = true) by decide)] at H; exact H
    clear H
    have H := H1
    clear H1
    by_cases c6 : 0 ≤ a1
    ·rw [if_pos c6] at H
     have c6b0 := eq_true c6
     have c6b1 : decide (0 ≤ a1) = true := decide_eq_true c6
     clear c6
     by_cases c7 : (a1 : Int).toNat ≤ 281474976710656
     ·rw [if_pos c7] at H
      have c7b0 := eq_true c7
      have c7b1 : decide ((a1 : Int).toNat ≤ 281474976710656) = true := decide_eq_true c7
      clear c7
      obtain ⟨y125, hy125⟩ : ∃ y_ : List Int, y_ = (List.replicate (a1 : Int).toNat 0) := ⟨_, rfl⟩
      replace H : (varint_Fixed.l0 kj2 a0 y125 a1 0) = some r := by first | (rw [hy125]; with_reducible exact H) | (have H2_ := (Option.bind_some _ _).symm.trans H; rw [hy125]; with_reducible exact H2_) | (have H2_ := (Option.bind_some _ _).symm.trans H; with_reducible exact H2_) | with_reducible exact H | (rw [hy125]; exact H) | exact H
      have Ny125 := Aside0.mk hy125
      clear hy125
      have H' := Aside0.mk H
      clear H
      go_wp2_with (first | ((with_reducible refine gate_dst (N := 14) rfl ?_); refine Kd.R_make (Kd.int .u8) _ 5 rfl (N := 14) rfl 22 _ _ rfl a1 rfl rfl Try.underlying22 (.int .u8 0) 1 info5 rfl (by decide) (by omega) 0 (ok := fun _ => True) (okp := fun _ => True) rfl (fun _ hk => hk) trivial (of_decide_eq_true (by first | (with_reducible assumption) | assumption)) (Nat.le_trans (Nat.mul_le_mul_right _ (of_decide_eq_true (by first | (with_reducible assumption) | assumption) : a1.toNat ≤ 281474976710656)) (by omega)) (Below.refl _ _) (Nat.le_refl _) ?_; intro v126 w8 ho9 hb hg_ hnew_; clear hg_ hnew_; (first | rw [← Ny125.out] at ho9 | (simp only [Int.reduceToNat] at ho9; rw [← Ny125.out] at ho9)); have n0_ := Aside0.mk (Kd.R_lower ho9 (below_size (by repeat (first | (with_reducible first | exact HB.out | apply below_alloc | apply pw_below_drewN | apply below_drew1) | exact HB.out)))); have n1_ := Aside0.mk (below_step (by repeat (first | (with_reducible first | exact HB.out | apply below_alloc | apply pw_below_drewN | apply below_drew1) | exact HB.out)) hb); clear HB; have HO127 := n0_; have HB := n1_; clear n0_ n1_; clear hb ho9))
      go_loopg [16] kj2 (fun kq v16 w' => ∃ (x5_2 : List Int) (x16_2 : Int), v16 = .int .i64 x16_2 ∧ Aside0 (varint_Fixed.l0 kq a0 x5_2 a1 x16_2 = some r) ∧ Aside0 (kq ≤ kj2) ∧ Aside0 (Kd.R (Kd.int .u8) 5 w' w.heap.size (fun _ => True) v126 x5_2) ∧ Aside0 (Below w.heap.size w w'))
      case atStart => exact ⟨(y125), (0), (by first | rfl | (simp; done) | (simp [*]; done)), H', ⟨Nat.le_refl _⟩, ⟨by (with_reducible repeat (first | apply Kd.R_alloc | apply Kd.R_drewN | apply Kd.R_drew)); exact HO127.out⟩, ⟨by repeat (first | (with_reducible first | exact HB.out | apply below_alloc | apply pw_below_drewN | apply below_drew1) | exact HB.out)⟩⟩
      case round =>
       clear H'
       try clear c2
       try clear p2
       try clear c4
       try clear c4b0
       try clear c5
       try clear c6
       try clear c6b0
       try clear c6b1
       try clear c7
       try clear c7b0
       try clear c7b1
       try clear p2
       obtain ⟨x5_2, x16_2, rfl, HA, HK2, HO_5, HB⟩ := hrel
       cases gk with
       | zero => exact absurd HA.out (by simp [varint_Fixed.l0])
       | succ k2 =>
        have H := HA.out
        clear HA
        simp only [varint_Fixed.l0] at H
        by_cases c10 : x16_2 < a1
        ·rw [if_pos c10] at H
         have c10b0 : decide (x16_2 < a1) = true := decide_eq_true c10
         clear c10
         obtain ⟨ji11, hji11⟩ : ∃ j_ : Int, (wrap64 (8 * x16_2)) = j_ := ⟨_, rfl⟩
         replace H : (if 0 ≤ (ji11) then (if 0 ≤ x16_2 then (if x16_2 < (x5_2.length : Int) then (varint_Fixed.l0 k2 a0 (x5_2.set (x16_2 : Int).toNat ((shr .u64 a0 (ji11)) % 256)) a1 (wrap64 (x16_2 + 1))) else (none)) else (none)) else (none)) = some r := by first | (rw [hji11] at H; exact H) | (simp only [hji11] at H ⊢; exact H)
         have hji11w : (IntKind.i64.wrap (8 * x16_2)) = ji11 := (i64_w _).trans hji11
         by_cases c12 : 0 ≤ (ji11)
         ·rw [if_pos c12] at H
          have c12b0 := eq_true c12
          have c12b1 : decide (0 ≤ (ji11)) = true := decide_eq_true c12
          clear c12
          obtain ⟨ji13, hji13⟩ : ∃ j_ : Int, (shr .u64 a0 (ji11)) = j_ := ⟨_, rfl⟩
          replace H : (if 0 ≤ x16_2 then (if x16_2 < (x5_2.length : Int) then (varint_Fixed.l0 k2 a0 (x5_2.set (x16_2 : Int).toNat ((ji13) % 256)) a1 (wrap64 (x16_2 + 1))) else (none)) else (none)) = some r := by first | (rw [hji13] at H; exact H) | (simp only [hji13] at H ⊢; exact H)
          have hji13_ : (a0 / 2 ^ min (ji11).toNat 64) = ji13 := hji13
          have hji13z : (ji11) ≤ 64 → (a0 / 2 ^ (ji11).toNat) = ji13 := shr_small hji13
          by_cases c14 : 0 ≤ x16_2
          ·rw [if_pos c14] at H
           have c14b0 : decide (0 ≤ x16_2) = true := decide_eq_true c14
           clear c14
           by_cases c15 : x16_2 < (x5_2.length : Int)
           ·rw [if_pos c15] at H
            have c15b0 : decide (x16_2 < (x5_2.length : Int)) = true := decide_eq_true c15
            clear c15
            obtain ⟨y128, hy128⟩ : ∃ y_ : List Int, y_ = (x5_2.set (x16_2 : Int).toNat ((ji13) % 256)) := ⟨_, rfl⟩
            replace H : (varint_Fixed.l0 k2 a0 y128 a1 (wrap64 (x16_2 + 1))) = some r := by first | (rw [hy128]; with_reducible exact H) | (have H2_ := (Option.bind_some _ _).symm.trans H; rw [hy128]; with_reducible exact H2_) | (have H2_ := (Option.bind_some _ _).symm.trans H; with_reducible exact H2_) | with_reducible exact H | (rw [hy128]; exact H) | exact H
            have Ny128 := Aside0.mk hy128
            clear hy128
            have H' := Aside0.mk H
            clear H
            have p16 : 0 ≤ (x16_2 : Int) := of_decide_eq_true (by first | (with_reducible assumption) | assumption)
            have q16 : (x16_2 : Int) < ((x5_2.length : Int) : Int) := of_decide_eq_true (by first | (with_reducible assumption) | assumption)
            obtain ⟨go16, co16, eo16, gb16, gl16, cl16, HG16⟩ := Kd.R_form HO_5.out (by omega)
            (first | cases eo16 | (injection eo16 with ea_ en_ ec_; (first | subst ea_ | (injection ea_ with ea_; subst ea_)); subst ec_; clear en_))
            have GB16 := Aside0.mk gb16
            have GG16 := Aside0.mk HG16
            clear gb16 gl16 HG16
            obtain ⟨hx16_0, hf16_0⟩ := Kd.R_celln 0 HO_5.out (x16_2 : Int) p16 q16
            replace p16 := eq_true p16
            replace q16 := eq_true q16
            have HP17 := Kd.R_putg HO_5.out (x16_2 : Int) ((ji13) % 256)
            go_wp2_with (first | ((with_reducible refine gate_store (t := 5) (p := 26) rfl ?_); refine store_event (t := 5) (p := 26) (v := ?vo_w18) (w1 := (wr.setCell ⟨go16, (x16_2 : Int).toNat, none⟩ (.int .u8 ((ji13) % 256)))) ?hg ?ho ?hn ?hr ?_; (case ho => rfl); (case hg => (first | rfl | (simp only [*]; rfl) | (simp [*]; done))); (case hn => rfl); (case hr => first | (go_simp; done) | (go_simp; rfl)); intro w18 hw; have hg : wr.grownBy w18 (some go16) := (by rw [hw]; exact HP17.2); have hp_ : Kd.R (Kd.int .u8) 5 w18 w.heap.size (fun _ => True) (.slice (some ⟨go16, 0, none⟩) x5_2.length co16) y128 := (by rw [hw, Ny128.out]; exact HP17.1); clear HP17; have n0_ := Aside0.mk (hp_); have n1_ := Aside0.mk ((by rw [hw]; exact below_set (HB.out) GB16.out : Below w.heap.size w w18)); clear HO_5; clear HB; have HO_5 := n0_; have HB := n1_; clear n0_ n1_; clear hg hw hp_))
            go_roundg k2
            case measure => have := HJ2.out; have := HK2.out; omega
            case rel => exact ⟨(y128), (wrap64 (x16_2 + 1)), (by first | rfl | (simp; done) | (simp [*]; done)), H', ⟨by have := HJ2.out; have := HK2.out; omega⟩, ⟨by (with_reducible repeat (first | apply Kd.R_alloc | apply Kd.R_drewN | apply Kd.R_drew)); exact HO_5.out⟩, ⟨by repeat (first | (with_reducible first | exact HB.out | apply below_alloc | apply pw_below_drewN | apply below_drew1) | exact HB.out)⟩⟩
           ·rw [if_neg c15] at H
            exact absurd H (by simp)
          ·rw [if_neg c14] at H
           exact absurd H (by simp)
         ·rw [if_neg c12] at H
          exact absurd H (by simp)
        ·rw [if_neg c10] at H
         have c10b0 : decide (x16_2 < a1) = false := decide_eq_false c10
         clear c10
         obtain rfl := Option.some.inj H
         go_wp2
         go_ret
         exact ⟨_, by first | rfl | (simp [errW_none, errW_some] <;> rfl) | (simp [*, errW_none, errW_some] <;> rfl), by (with_reducible repeat (first | apply Kd.R_alloc | apply Kd.R_drewN | apply Kd.R_drew)); exact HO_5.out, by repeat (first | (with_reducible first | exact HB.out | apply below_alloc | apply pw_below_drewN | apply below_drew1) | exact HB.out)⟩
     ·rw [if_neg c7] at H
      exact absurd H (by simp)
    ·rw [if_neg c6] at H
     exact absurd H (by simp)

/-! ### checksum_Seal: function 15 -/
def checksum_Seal.f (k : Nat) (l0 : List Int) : Option (List Int) := (checksum_CRC.f (([l0] : List (List Int)))).bind fun t132 => ((varint_Fixed.f k (IntKind.u64.wrap (t132)) 4).bind fun t133 => ((varint_Concat.f k (([l0, t133] : List (List Int)))).bind fun t139 => (some t139)))
theorem checksum_Seal.mono : ∀ a0 k, LeO (checksum_Seal.f k a0) (checksum_Seal.f (k + 1) a0) := by
 intro a0 k
 unfold checksum_Seal.f
 repeat' first
   | (with_reducible exact varint_Concat.mono _ _)
   | (with_reducible exact varint_Fixed.mono _ _ _)
   | (with_reducible exact LeO.refl _)
   | (with_reducible exact LeO.none _)
   | (with_reducible refine LeO.ite ?_ ?_)
   | (with_reducible refine LeO.bind ?_ (fun _ => ?_))
   | exact varint_Concat.mono _ _
   | exact varint_Fixed.mono _ _ _
   | exact LeO.none _
   | refine LeO.ite ?_ ?_
   | refine LeO.bind ?_ (fun _ => ?_)
set_option maxHeartbeats 8000000 in
set_option maxRecDepth 100000 in
theorem checksum_Seal.calls (k : Nat) (P0_ : Nat → Prop) (A0 : Option Addr) (c0 : Nat) (l0 : List Int) (r : List Int) (w : World) (hs0 : Kd.V (Kd.int .u8) 5 w w.heap.size (fun k_ => P0_ k_) (.slice A0 l0.length c0) l0) (h : checksum_Seal.f k l0 = some r) :
  Calls Try.prog 15 #[.slice A0 l0.length c0] w fun e w' => ∃ v0_ : Value, e = .returned (v0_) ∧ Kd.R (Kd.int .u8) 5 w' w.heap.size (fun k_ => (w.heap.size ≤ k_)) v0_ r ∧ Below w.heap.size w w' := by
 have HO0 := Aside0.mk (show Kd.V (Kd.int .u8) 5 w w.heap.size (fun k_ => (P0_ k_ ∨ w.heap.size ≤ k_)) (.slice A0 l0.length c0) l0 from Kd.V_mono hs0 (fun k_ hk => .inl hk))
 have HB := Aside0.mk (Below.refl w.heap.size w)
 have H : ((checksum_CRC.f (([l0] : List (List Int)))).bind fun t132 => ((varint_Fixed.f k (IntKind.u64.wrap (t132)) 4).bind fun t133 => ((varint_Concat.f k (([l0, t133] : List (List Int)))).bind fun t139 => (some t139)))) = some r := h
 clear h
 obtain ⟨y129, hy129⟩ : ∃ y_ : List (List Int), y_ = (([l0] : List (List Int))) := ⟨_, rfl⟩
 replace H : ((checksum_CRC.f y129).bind fun t132 => ((varint_Fixed.f k (IntKind.u64.wrap (t132)) 4).bind fun t133 => ((varint_Concat.f k (([l0, t133] : List (List Int)))).bind fun t139 => (some t139)))) = some r := by first | (rw [hy129]; with_reducible exact H) | (have H2_ := (Option.bind_some _ _).symm.trans H; rw [hy129]; with_reducible exact H2_) | (have H2_ := (Option.bind_some _ _).symm.trans H; with_reducible exact H2_) | with_reducible exact H | (rw [hy129]; exact H) | exact H
 have Ny129 := Aside0.mk hy129
 clear hy129
 replace H := Option.bind_eq_some_iff.mp H
 obtain ⟨t132, A20, H⟩ := H
 replace H : ((varint_Fixed.f k (IntKind.u64.wrap (t132)) 4).bind fun t133 => ((varint_Concat.f k (([l0, t133] : List (List Int)))).bind fun t139 => (some t139))) = some r := H
 have A2 := Aside0.mk A20
 clear A20
 replace H := Option.bind_eq_some_iff.mp H
 obtain ⟨t133, A30, H⟩ := H
 replace H : ((varint_Concat.f k (([l0, t133] : List (List Int)))).bind fun t139 => (some t139)) = some r := H
 have A3 := Aside0.mk A30
 clear A30
 obtain ⟨y136, hy136⟩ : ∃ y_ : List (List Int), y_ = (([l0, t133] : List (List Int))) := ⟨_, rfl⟩
 replace H : ((varint_Concat.f k y136).bind fun t139 => (some t139)) = some r := by first | (rw [hy136]; with_reducible exact H) | (have H2_ := (Option.bind_some _ _).symm.trans H; rw [hy136]; with_reducible exact H2_) | (have H2_ := (Option.bind_some _ _).symm.trans H; with_reducible exact H2_) | with_reducible exact H | (rw [hy136]; exact H) | exact H
 have Ny136 := Aside0.mk hy136
 clear hy136
 replace H := Option.bind_eq_some_iff.mp H
 obtain ⟨t139, A40, H⟩ := H
 replace H : (some t139) = some r := H
 have A4 := Aside0.mk A40
 clear A40
 obtain rfl := Option.some.inj H
 go_enter Try.func15, Try.ntmps15
 go_wp2_with (first | ((with_reducible refine gate_dst (N := 5) rfl ?_); refine Kd.N_lit (Kd.slice 5 (Kd.int .u8)) _ 22 ?hg (N' := 5) ?hd (xs := ([l0] : List (List Int))) (inner := [.slice A0 l0.length c0]) (ok := (fun k_ => (P0_ k_ ∨ w.heap.size ≤ k_))) (okp := (fun k_ => (P0_ k_ ∨ w.heap.size ≤ k_))) ?hr ?hp (fun _ hk => hk) ((show ∀ k_, w.heap.size ≤ k_ → (fun k_ => (P0_ k_ ∨ w.heap.size ≤ k_)) k_ from fun k_ hk => (.inr (Nat.le_trans (below_size (by repeat (first | (with_reducible first | exact HB.out | apply below_alloc | apply pw_below_drewN | apply below_drew1) | exact HB.out))) hk))) _ (Nat.le_refl _)) (Below.refl _ _) (Nat.le_refl _) (by simp) ?_; (case hd => rfl); (case hg => (first | rfl | (simp only [*]; rfl) | (simp [*]; done))); (case hr => first | (go_simp; done) | (go_simp; rfl)); (case hp => exact (Reps.one (show Kd.FK (Kd.slice 5 (Kd.int .u8)) _ _ l0 [.slice A0 l0.length c0] from (Kd.FK_slice_mk (Kd.V_reads' (Kd.V_mono (ok' := (fun k_ => (P0_ k_ ∨ w.heap.size ≤ k_))) (HO0.out) (fun k_ hk => hk))).2.1 (Kd.V_F (Kd.V_mono (ok' := (fun k_ => (P0_ k_ ∨ w.heap.size ≤ k_))) (HO0.out) (fun k_ hk => hk))))) (Reps.none _ _))); intro v130 w5 ho6 hb hg_ hnew_; clear hg_ hnew_; (first | rw [← Ny129.out] at ho6 | (simp only [Int.reduceToNat] at ho6; rw [← Ny129.out] at ho6)); have n0_ := Aside0.mk (Kd.V_elder' (by (with_reducible repeat (first | apply Kd.V_alloc | apply Kd.V_drewN | apply Kd.V_drew)); exact HO0.out) (Kd.N_base ho6) hb); have n1_ := Aside0.mk (Kd.N_lower ho6 (below_size (by repeat (first | (with_reducible first | exact HB.out | apply below_alloc | apply pw_below_drewN | apply below_drew1) | exact HB.out)))); have n2_ := Aside0.mk (below_step (by repeat (first | (with_reducible first | exact HB.out | apply below_alloc | apply pw_below_drewN | apply below_drew1) | exact HB.out)) hb); clear HO0; clear HB; have HO0 := n0_; have HO131 := n1_; have HB := n2_; clear n0_ n1_ n2_; clear hb ho6; obtain ⟨Ao7, co7, eo7⟩ := Kd.N_slice HO131.out; subst eo7) | ((with_reducible refine gate_callee (f := 16) rfl ?_); refine goesL_ (some 6) rfl rfl Try.func16 (by kernel_rfl) rfl #[.slice Ao7 y129.length co7] rfl (by (try simp only [List.map_toArray, List.map_cons, List.map_nil]); first | done | rfl | (simp only [List.length_drop, List.length_take]; rfl)) ?_; (with_reducible refine (checksum_CRC.calls _ _ y129 t132 _ ?side1 ?side2 A2.out).mono ?_); (case side1 => repeat (first | exact (Kd.N_reads' HO131.out).2.2 | (with_reducible refine Kd.C_alloc ?_ _) | (with_reducible refine Kd.C_drewN ?_ _) | (with_reducible refine Kd.C_drew ?_))); (case side2 => exact (Kd.N_reads' HO131.out).2.1); rintro e w8 ⟨rfl, hb⟩; refine ⟨_, rfl, ?_⟩; have n0_ := Aside0.mk (Kd.V_below (by (with_reducible repeat (first | apply Kd.V_alloc | apply Kd.V_drewN | apply Kd.V_drew)); exact HO0.out) hb); have n1_ := Aside0.mk (Kd.N_below (by (with_reducible repeat (first | apply Kd.N_alloc | apply Kd.N_drewN | apply Kd.N_drew)); exact HO131.out) hb); have n2_ := Aside0.mk (below_step (by repeat (first | (with_reducible first | exact HB.out | apply below_alloc | apply pw_below_drewN | apply below_drew1) | exact HB.out)) hb); clear HO0; clear HO131; clear HB; have HO0 := n0_; have HO131 := n1_; have HB := n2_; clear n0_ n1_ n2_; (try clear hb); (try clear hb2); (try clear hk); (try clear hi)) | ((with_reducible refine gate_callee (f := 28) rfl ?_); refine goesL_ (some 8) rfl rfl Try.func28 (by kernel_rfl) rfl #[.int .u64 (IntKind.u64.wrap (t132)), .int .i64 4] rfl (by (try simp only [List.map_toArray, List.map_cons, List.map_nil]); first | done | rfl | (simp only [List.length_drop, List.length_take]; rfl)) ?_; (with_reducible refine (varint_Fixed.calls k (IntKind.u64.wrap (t132)) 4 t133 _ A3.out).mono ?_); rintro e w9 ⟨v134, rfl, ho0, hb⟩; refine ⟨_, rfl, ?_⟩; have n0_ := Aside0.mk (Kd.V_elder' (by (with_reducible repeat (first | apply Kd.V_alloc | apply Kd.V_drewN | apply Kd.V_drew)); exact HO0.out) (Kd.R_base ho0) hb); have n1_ := Aside0.mk (Kd.N_elder' (by (with_reducible repeat (first | apply Kd.N_alloc | apply Kd.N_drewN | apply Kd.N_drew)); exact HO131.out) (Kd.R_base ho0) hb); have n2_ := Aside0.mk (Kd.R_lower (Kd.R_newM (M := fun k_ => (w.heap.size ≤ k_)) ho0 (below_size (by repeat (first | (with_reducible first | exact HB.out | apply below_alloc | apply pw_below_drewN | apply below_drew1) | exact HB.out))) (fun k_ h_ => h_)) (below_size (by repeat (first | (with_reducible first | exact HB.out | apply below_alloc | apply pw_below_drewN | apply below_drew1) | exact HB.out)))); have n3_ := Aside0.mk (below_step (by repeat (first | (with_reducible first | exact HB.out | apply below_alloc | apply pw_below_drewN | apply below_drew1) | exact HB.out)) hb); clear HO0; clear HO131; clear HB; have HO0 := n0_; have HO131 := n1_; have HO135 := n2_; have HB := n3_; clear n0_ n1_ n2_ n3_; (try clear hb); (try clear hb2); (try clear hk); (try clear hi); (try clear ho0); obtain ⟨Ao10, co10, eo10⟩ := Kd.R_slice HO135.out; subst eo10) | ((with_reducible refine gate_dst (N := 9) rfl ?_); refine Kd.N_lit (Kd.slice 5 (Kd.int .u8)) _ 22 ?hg (N' := 9) ?hd (xs := ([l0, t133] : List (List Int))) (inner := [.slice A0 l0.length c0, .slice Ao10 t133.length co10]) (ok := (fun k_ => (P0_ k_ ∨ w.heap.size ≤ k_) ∧ some k_ ≠ (.slice Ao7 y129.length co7 : Value).ownBlock)) (okp := (fun k_ => (P0_ k_ ∨ w.heap.size ≤ k_) ∧ some k_ ≠ (.slice Ao7 y129.length co7 : Value).ownBlock)) ?hr ?hp (fun _ hk => hk) ((show ∀ k_, w9.heap.size ≤ k_ → (fun k_ => (P0_ k_ ∨ w.heap.size ≤ k_) ∧ some k_ ≠ (.slice Ao7 y129.length co7 : Value).ownBlock) k_ from fun k_ hk => ⟨(.inr (Nat.le_trans (below_size (by repeat (first | (with_reducible first | exact HB.out | apply below_alloc | apply pw_below_drewN | apply below_drew1) | exact HB.out))) hk)), Kd.fresh' (Kd.N_lt (by (with_reducible repeat (first | apply Kd.N_alloc | apply Kd.N_drewN | apply Kd.N_drew)); exact HO131.out)) k_ hk⟩) _ (Nat.le_refl _)) (Below.refl _ _) (Nat.le_refl _) (by simp) ?_; (case hd => rfl); (case hg => (first | rfl | (simp only [*]; rfl) | (simp [*]; done))); (case hr => first | (go_simp; done) | (go_simp; rfl)); (case hp => exact (Reps.one (show Kd.FK (Kd.slice 5 (Kd.int .u8)) _ _ l0 [.slice A0 l0.length c0] from (Kd.FK_slice_mk (Kd.V_reads' (Kd.V_mono (ok' := (fun k_ => (P0_ k_ ∨ w.heap.size ≤ k_) ∧ some k_ ≠ (.slice Ao7 y129.length co7 : Value).ownBlock)) (HO0.out) (fun k_ hk => ⟨hk.1.1, hk.1.2⟩))).2.1 (Kd.V_F (Kd.V_mono (ok' := (fun k_ => (P0_ k_ ∨ w.heap.size ≤ k_) ∧ some k_ ≠ (.slice Ao7 y129.length co7 : Value).ownBlock)) (HO0.out) (fun k_ hk => ⟨hk.1.1, hk.1.2⟩))))) (Reps.one (show Kd.FK (Kd.slice 5 (Kd.int .u8)) _ _ t133 [.slice Ao10 t133.length co10] from (Kd.FK_slice_mk (Kd.R_reads' (Kd.R_mono (ok' := (fun k_ => (P0_ k_ ∨ w.heap.size ≤ k_) ∧ some k_ ≠ (.slice Ao7 y129.length co7 : Value).ownBlock)) (Kd.R_apart' (HO135.out) (Kd.N_typed HO131.out) (by decide)) (fun k_ hk => ⟨(.inr (hk.1.1)), hk.2⟩))).2.1 (Kd.R_F (Kd.R_mono (ok' := (fun k_ => (P0_ k_ ∨ w.heap.size ≤ k_) ∧ some k_ ≠ (.slice Ao7 y129.length co7 : Value).ownBlock)) (Kd.R_apart' (HO135.out) (Kd.N_typed HO131.out) (by decide)) (fun k_ hk => ⟨(.inr (hk.1.1)), hk.2⟩))))) (Reps.none _ _)))); intro v137 w11 ho12 hb hg_ hnew_; clear hg_ hnew_; (first | rw [← Ny136.out] at ho12 | (simp only [Int.reduceToNat] at ho12; rw [← Ny136.out] at ho12)); have n0_ := Aside0.mk (Kd.V_elder' (by (with_reducible repeat (first | apply Kd.V_alloc | apply Kd.V_drewN | apply Kd.V_drew)); exact HO0.out) (Kd.N_base ho12) hb); have n1_ := Aside0.mk (Kd.N_elder' (by (with_reducible repeat (first | apply Kd.N_alloc | apply Kd.N_drewN | apply Kd.N_drew)); exact HO131.out) (Kd.N_base ho12) hb); have n2_ := Aside0.mk (Kd.N_lower ho12 (below_size (by repeat (first | (with_reducible first | exact HB.out | apply below_alloc | apply pw_below_drewN | apply below_drew1) | exact HB.out)))); have n3_ := Aside0.mk (below_step (by repeat (first | (with_reducible first | exact HB.out | apply below_alloc | apply pw_below_drewN | apply below_drew1) | exact HB.out)) hb); clear HO0; clear HO131; clear HB; clear HO135; have HO0 := n0_; have HO131 := n1_; have HO138 := n2_; have HB := n3_; clear n0_ n1_ n2_ n3_; clear hb ho12; obtain ⟨Ao13, co13, eo13⟩ := Kd.N_slice HO138.out; subst eo13) | ((with_reducible refine gate_callee (f := 27) rfl ?_); refine goesL_ (some 10) rfl rfl Try.func27 (by kernel_rfl) rfl #[.slice Ao13 y136.length co13] rfl (by (try simp only [List.map_toArray, List.map_cons, List.map_nil]); first | done | rfl | (simp only [List.length_drop, List.length_take]; rfl)) ?_; (with_reducible refine (varint_Concat.calls k _ _ y136 t139 _ ?side1 ?side2 A4.out).mono ?_); (case side1 => repeat (first | exact (Kd.N_reads' HO138.out).2.2 | (with_reducible refine Kd.C_alloc ?_ _) | (with_reducible refine Kd.C_drewN ?_ _) | (with_reducible refine Kd.C_drew ?_))); (case side2 => exact (Kd.N_reads' HO138.out).2.1); rintro e w14 ⟨v140, rfl, ho0, hb⟩; refine ⟨_, rfl, ?_⟩; have n0_ := Aside0.mk (Kd.V_elder' (by (with_reducible repeat (first | apply Kd.V_alloc | apply Kd.V_drewN | apply Kd.V_drew)); exact HO0.out) (Kd.R_base ho0) hb); have n1_ := Aside0.mk (Kd.N_elder' (by (with_reducible repeat (first | apply Kd.N_alloc | apply Kd.N_drewN | apply Kd.N_drew)); exact HO131.out) (Kd.R_base ho0) hb); have n2_ := Aside0.mk (Kd.N_elder' (by (with_reducible repeat (first | apply Kd.N_alloc | apply Kd.N_drewN | apply Kd.N_drew)); exact HO138.out) (Kd.R_base ho0) hb); have n3_ := Aside0.mk (Kd.R_lower (Kd.R_newM (M := fun k_ => (w.heap.size ≤ k_)) ho0 (below_size (by repeat (first | (with_reducible first | exact HB.out | apply below_alloc | apply pw_below_drewN | apply below_drew1) | exact HB.out))) (fun k_ h_ => h_)) (below_size (by repeat (first | (with_reducible first | exact HB.out | apply below_alloc | apply pw_below_drewN | apply below_drew1) | exact HB.out)))); have n4_ := Aside0.mk (below_step (by repeat (first | (with_reducible first | exact HB.out | apply below_alloc | apply pw_below_drewN | apply below_drew1) | exact HB.out)) hb); clear HO0; clear HO131; clear HO138; clear HB; have HO0 := n0_; have HO131 := n1_; have HO138 := n2_; have HO141 := n3_; have HB := n4_; clear n0_ n1_ n2_ n3_ n4_; (try clear hb); (try clear hb2); (try clear hk); (try clear hi); (try clear ho0)))
 go_ret
 exact ⟨_, by first | rfl | (simp [errW_none, errW_some] <;> rfl) | (simp [*, errW_none, errW_some] <;> rfl), by (with_reducible repeat (first | apply Kd.R_alloc | apply Kd.R_drewN | apply Kd.R_drew)); exact Kd.R_mono HO141.out (fun _ hk => hk.1), by repeat (first | (with_reducible first | exact HB.out | apply below_alloc | apply pw_below_drewN | apply below_drew1) | exact HB.out)⟩

/-! ### checksum_Mix: function 21 -/
def checksum_Mix.f (a0 : Int) : Option (Int) := some (Go.bits .xor .u64 (IntKind.u64.wrap ((Go.bits .xor .u64 (IntKind.u64.wrap ((Go.bits .xor .u64 a0 (a0 / 1073741824)) * 13787848793156543929)) ((IntKind.u64.wrap ((Go.bits .xor .u64 a0 (a0 / 1073741824)) * 13787848793156543929)) / 134217728)) * 10723151780598845931)) ((IntKind.u64.wrap ((Go.bits .xor .u64 (IntKind.u64.wrap ((Go.bits .xor .u64 a0 (a0 / 1073741824)) * 13787848793156543929)) ((IntKind.u64.wrap ((Go.bits .xor .u64 a0 (a0 / 1073741824)) * 13787848793156543929)) / 134217728)) * 10723151780598845931)) / 2147483648))
set_option maxHeartbeats 8000000 in
set_option maxRecDepth 100000 in
theorem checksum_Mix.calls (a0 : Int) (r : Int) (w : World) (h : checksum_Mix.f a0 = some r) :
  Calls Try.prog 21 #[.int .u64 a0] w fun e w' => e = .returned (.int .u64 r) ∧ Drawn0 w w' := by
 have H : (some (Go.bits .xor .u64 (IntKind.u64.wrap ((Go.bits .xor .u64 (IntKind.u64.wrap ((Go.bits .xor .u64 a0 (a0 / 1073741824)) * 13787848793156543929)) ((IntKind.u64.wrap ((Go.bits .xor .u64 a0 (a0 / 1073741824)) * 13787848793156543929)) / 134217728)) * 10723151780598845931)) ((IntKind.u64.wrap ((Go.bits .xor .u64 (IntKind.u64.wrap ((Go.bits .xor .u64 a0 (a0 / 1073741824)) * 13787848793156543929)) ((IntKind.u64.wrap ((Go.bits .xor .u64 a0 (a0 / 1073741824)) * 13787848793156543929)) / 134217728)) * 10723151780598845931)) / 2147483648))) = some r := h
 clear h
 obtain rfl := Option.some.inj H
 go_enter Try.func21, Try.ntmps21
 go_wp2
 go_ret
 exact ⟨by first | rfl | (simp; done) | (simp [*]; done), by repeat (first | exact Drawn0.refl _ | apply Drawn0.step)⟩

/-! ### checksum_Hash: function 13 -/
def mixI (x : Int) : Int := (checksum_Mix.f x).getD 0
theorem mix_some (x : Int) : checksum_Mix.f x = some (mixI x) := rfl
/-- n groups of eight bytes. -/
def hashI : Nat → Int → List Int → Int
  | 0, h, _ => h
  | n + 1, h, b => hashI n (mixI (bits .xor .u64 h ((le (b.take 8) : Nat) : Int))) (b.drop 8)
def checksum_Hash.f (a0 : Int) (l1 : List Int) : Option Int := if (l1.all fun x => decide (0 ≤ x) && decide (x < 256)) = true ∧ l1.length ≤ 1000000000 then some (hashI ((l1.length + 7) / 8) (mixI (bits .xor .u64 a0 (l1.length : Int))) l1) else none
/-- Eight bytes: the list's, then zeros. -/
def grp (b : List Int) : List Int := b.take 8 ++ List.replicate (8 - b.length) 0
theorem grp_len (b : List Int) : (grp b).length = 8 := by simp [grp]; omega
theorem le_grp (b : List Int) : le (grp b) = le (b.take 8) := by
  unfold grp; rw [le_append, le_zeros]; simp
theorem grp_range {b : List Int} (h : ∀ x ∈ b, 0 ≤ x ∧ x < 256) : ∀ x ∈ grp b, 0 ≤ x ∧ x < 256 := by
  intro x hx
  rcases List.mem_append.1 hx with h1 | h1
  · exact h x (List.mem_of_mem_take h1)
  · have := List.eq_of_mem_replicate h1; omega
theorem le_take_succ (G : List Int) (j : Nat) (h : j < G.length) : le (G.take (j + 1)) = le (G.take j) + (G.getD j 0).toNat * 2 ^ (8 * j) := by
  rw [List.take_succ_eq_append_getElem h, le_append, List.length_take, Nat.min_eq_left (by omega), pow256]
  simp only [le, List.getD_eq_getElem?_getD, List.getElem?_eq_getElem h, Option.getD_some, Nat.mul_zero, Nat.add_zero]
  rw [Nat.mul_comm]
/-- The copy into an array of eight bytes. -/
theorem copy_arr {P : Program} {dT sT ty e g n sCap dCap : Nat} {A0 : Option Addr} {c : Nat} (W : World) (l0 : List Int) (at_ : Nat) (hu : P.underlying dT = some (.slice e)) (hs : (P.info? e).map (·.size) = some 1)
    (h : W.heap[g]? = some (.cells (Array.replicate 8 (.int .u8 0)) c (0, 0))) (hC : Kd.C (Kd.int .u8) W A0 l0.length l0) (hn : n = min 8 (l0.length - at_)) (h1 : 1 ≤ n) :
    ∃ w3, (Builtin.copy_ #[dT, sT] ty #[.slice (some ⟨g, 0, none⟩) 8 dCap, .slice (A0.map fun x => x.add at_) n sCap]).run P W = .ok (.int .i64 (n : Int)) w3 ∧ w3.heap[g]? = some (.cells (((grp (l0.drop at_)).map (Value.int .u8)).toArray) c (0, 0)) ∧ (∀ B, B ≤ g → Below B W w3) := by
  obtain ⟨ad, rfl, _⟩ := Kd.at_int hC 0 (by omega) (by omega)
  have hl : ((l0.drop at_).take 8).length = n := by rw [List.length_take, List.length_drop]; omega
  have hlm : (((l0.drop at_).take 8).map (Value.int .u8)).length = n := by rw [List.length_map, hl]
  have hr := run_copy_cells (P := P) W dT sT ty e g 0 8 dCap (ad.add at_) n sCap (((l0.drop at_).take 8).map (Value.int .u8)) hu hs (by rw [hlm]; exact (Nat.min_eq_left (by omega)).symm) ?_ ?_ ?_ (by intro v hv; obtain ⟨q, _, rfl⟩ := List.mem_map.1 hv; rfl)
  · rw [hlm] at hr
    obtain ⟨cur', q1, q2, q3⟩ := setCells_row (((l0.drop at_).take 8).map (Value.int .u8)) 0 W (Array.replicate 8 (.int .u8 0)) h (by rw [hlm]; simp; omega)
    refine ⟨_, hr, ?_, ?_⟩
    · rw [q1]
      congr 2
      apply Array.ext'
      rw [q3]
      unfold grp
      rw [List.map_append, List.map_replicate, Nat.zero_add, hlm, List.length_drop]
      simp only [List.take_zero, List.nil_append, Array.toList_replicate, List.drop_replicate]
      congr 2
      omega
    · intro B hB
      have h3 : ∀ (vs : List Value) (o : Nat) (W' : World), Below B W W' → Below B W (W'.setCells g o vs) := by
        intro vs
        induction vs with
        | nil => intro o W' h; exact h
        | cons v vs ih => intro o W' h; exact ih (o + 1) _ (h.setCell hB _)
      exact h3 _ _ _ (Below.refl _ _)
  · intro j v hv
    rw [List.getElem?_map] at hv
    obtain ⟨x, hx, rfl⟩ := Option.map_eq_some_iff.1 hv
    have hj : j < n := by
      rcases Nat.lt_or_ge j n with h1 | h1
      · exact h1
      · rw [List.getElem?_eq_none (by rw [hl]; exact h1)] at hx; cases hx
    obtain ⟨ad2, he, hc⟩ := Kd.at_int hC ((at_ + j : Nat) : Int) (by omega) (by omega)
    injection he with he
    subst he
    rw [Int.toNat_natCast] at hc
    rw [Addr.add_add, hc]
    rw [List.getElem?_take_of_lt (by omega), List.getElem?_drop] at hx
    rw [rd_nat, List.getD_eq_getElem?_getD, hx]; rfl
  · intro j hj
    rw [hlm] at hj
    rw [blk_cell h]; simp; omega
  · intro j hj
    exact blk_frozen h _
set_option maxHeartbeats 1000000 in
set_option maxRecDepth 100000 in
theorem checksum_Hash.calls (a0 : Int) (A1 : Option Addr) (c1 : Nat) (l1 : List Int) (r : Int) (w : World) (hr1 : Kd.C (Kd.int .u8) w A1 l1.length l1) (hc1 : l1.length ≤ c1) (h : checksum_Hash.f a0 l1 = some r) :
    Calls Try.prog 13 #[.int .u64 a0, .slice A1 l1.length c1] w fun e w' => e = .returned (.int .u64 r) ∧ Below w.heap.size w w' := by
  unfold checksum_Hash.f at h
  split at h
  case isFalse => cases h
  case isTrue hok =>
  have hres := (Option.some.inj h)
  obtain ⟨hb, hl9⟩ := hok
  have hl : ∀ x ∈ l1, 0 ≤ x ∧ x < 256 := by simpa only [List.all_eq_true, Bool.and_eq_true, decide_eq_true_eq] using hb
  have HR := Aside0.mk hr1
  have HL := Aside0.mk hl
  have HS := Aside0.mk hres
  have eln : IntKind.u64.wrap (l1.length : Int) = (l1.length : Int) := wraps_u64 _ (by omega) (by omega)
  clear hr1 hl hb h hres
  go_enter Try.func13, Try.ntmps13
  go_wp2_with (go_at_call 21; refine (checksum_Mix.calls _ _ _ (mix_some _)).mono ?_; rintro e w1 ⟨rfl, ⟨nd1, rfl⟩⟩)
  go_loopw [5, 6] (fun v5 v6 wr => ∃ (i : Nat) (h : Int), 8 * i ≤ l1.length + 7 ∧ Aside0 (hashI ((l1.length + 7) / 8 - i) h (l1.drop (8 * i)) = r) ∧ v5 = .int .u64 h ∧ v6 = .int .i64 ((8 * i : Nat) : Int) ∧ Below w.heap.size w wr) (fun _ v6 _ => l1.length + 8 - (intOf v6).toNat)
  case atStart => exact ⟨0, _, by omega, ⟨by simpa using HS.out⟩, rfl, rfl, pw_below_drewN (Below.refl _ _) _⟩
  case round =>
    obtain ⟨i, h, hi, hh, rfl, rfl, hB⟩ := hrel
    obtain ⟨o, ho⟩ : ∃ o, o = 8 * i := ⟨_, rfl⟩
    rw [← ho] at hh ⊢
    have HO := Aside0.mk ho
    by_cases hlt : o < l1.length
    · have hlt' : (o : Int) < (l1.length : Int) := by omega
      clear ho
      go_wp2_with ((with_reducible refine gate_dst (N := 7) rfl ?_); refine box_event ?hg (N := 7) ?hd (cs := Array.replicate 8 (.int .u8 0)) (t := 49) ?hr ?_; (case hd => rfl); (case hg => rfl); (case hr => first | (go_simp; done) | (go_simp; rfl)); intro g0 hg0 w2 hb0 hB0)
      subst hg0
      obtain ⟨o8, ho8⟩ : ∃ o8, o8 = o + 8 := ⟨_, rfl⟩
      have e8 : (o : Int) + 8 = (o8 : Int) := by omega
      have ew8 : IntKind.i64.wrap (o8 : Int) = (o8 : Int) := IntWalk.i64_in _ (by omega)
      have B2 : Aside0 (Below w.heap.size w w2) := ⟨below_then hB hB.size hB0⟩
      have hb2 : (w2.drew).heap[wr.heap.size]? = some (.cells (Array.replicate 8 (.int .u8 0)) 49 (0, 0)) := hb0
      obtain ⟨ad, hA1, _⟩ := Kd.at_int HR.out (o : Int) (by omega) (by omega)
      subst hA1
      have q3 : ¬ c1 = o := by omega
      have HB0 := Aside0.mk hb2
      have HO8 := Aside0.mk ho8
      have hol : o ≤ l1.length := by omega
      have hlc : (l1.length : Int) ≤ (c1 : Int) := by omega
      simp only [Act.put, List.setIfInBounds_toArray, List.set_cons_zero, List.set_cons_succ]
      by_cases hc8 : (l1.length : Int) < (o8 : Int)
      · obtain ⟨w3, hrun, hw3, hB3⟩ := copy_arr (dT := 22) (sT := 22) (ty := 3) (n := l1.length - o) (sCap := c1 - o) (dCap := 8) w2.drew l1 o Try.underlying22 (by kernel_rfl) hb2 (Kd.C_drew (Kd.C_below HR.out B2.out)) (by omega) (by omega)
        have HB3 := Aside0.mk hB3
        have HW3 := Aside0.mk hw3
        rw [Option.map_some] at hrun
        clear ho8 hB3 hw3 hb2 hb0
        go_region
        have HG := Aside0.mk (grp_range (b := l1.drop o) (fun x hx => HL.out x (List.mem_of_mem_drop hx)))
        have HGL := Aside0.mk (grp_len (l1.drop o))
        have HGE := Aside0.mk (le_grp (l1.drop o))
        obtain ⟨G, hG⟩ : ∃ G, G = grp (l1.drop o) := ⟨_, rfl⟩
        rw [← hG] at HW3 HG HGL HGE
        have HGG := Aside0.mk hG
        clear hG
        go_wp2
        go_loopw [8, 32] (fun v8 v32 wr' => ∃ (j acc : Nat), j ≤ 8 ∧ Aside0 (acc = le (G.take j)) ∧ v8 = .int .u64 (acc : Int) ∧ v32 = .int .i64 (j : Int) ∧ w3 = wr') (fun _ v32 _ => 8 - (intOf v32).toNat)
        case atStart => exact ⟨0, 0, by omega, ⟨by simp [le]⟩, rfl, rfl, rfl⟩
        case round =>
          obtain ⟨j, acc, hj, ha, rfl, rfl, rfl⟩ := hrel
          by_cases hj8 : j < 8
          · have hx := getD_range HG.out (show j < G.length by rw [HGL.out]; exact hj8)
            obtain ⟨x, hxe⟩ : ∃ x : Nat, G.getD j 0 = (x : Int) := ⟨(G.getD j 0).toNat, by omega⟩
            have hck : w3.cell? ⟨wr.heap.size, j, none⟩ = some (.int .u8 (x : Int)) := by
              rw [blk_cell HW3.out]
              have h1 : j < G.length := by rw [HGL.out]; exact hj8
              simp only [List.getElem?_toArray, List.getElem?_map, List.getElem?_eq_getElem h1, Option.map_some]
              rw [← hxe, List.getD_eq_getElem?_getD, List.getElem?_eq_getElem h1]; rfl
            have hx256 : x < 256 := by omega
            have hstep : le (G.take (j + 1)) = acc + x * 2 ^ (8 * j) := by
              rw [le_take_succ _ _ (by rw [HGL.out]; exact hj8), ← ha.out, hxe, Int.toNat_natCast]
            have hacc : acc < 2 ^ (8 * j) := by
              have h1 := le_lt (G.take j) (fun y hy => HG.out y (List.mem_of_mem_take hy))
              rw [List.length_take, HGL.out, Nat.min_eq_left (by omega), pow256, ← ha.out] at h1
              exact h1
            have hp : (2 : Nat) ^ (8 * j) ≤ 72057594037927936 := Nat.pow_le_pow_right (by decide) (show 8 * j ≤ 56 by omega)
            have hxm : x * 2 ^ (8 * j) ≤ 255 * 72057594037927936 := Nat.mul_le_mul (by omega) hp
            have eor : bits .or .u64 (acc : Int) ((x * 2 ^ (8 * j) : Nat) : Int) = ((acc + x * 2 ^ (8 * j) : Nat) : Int) := or_u64 (8 * j) acc x hacc (by omega) (by omega)
            have eww : IntKind.u64.wrap ((x * 2 ^ (8 * j) : Nat) : Int) = ((x * 2 ^ (8 * j) : Nat) : Int) := wraps_u64 _ (by omega) (by omega)
            have E1 := Aside0.mk eor
            have E2 := Aside0.mk eww
            have E3 := Aside0.mk hstep
            have hxi : (x : Int) < 256 := by omega
            have hji : (j : Int) < 8 := by omega
            clear eor eww hstep hp hxm hacc hxe hx
            go_wp2
            refine ⟨⟨j + 1, le (G.take (j + 1)), by omega, ⟨rfl⟩, ?_, by simp, by first | rfl | simp⟩, ?_⟩
            · rw [E3.out, ← pow_cast, ← Int.natCast_mul, E2.out, E1.out]
            · simp [intOf]; omega
          · obtain rfl : j = 8 := by omega
            have hf := ha.out
            rw [List.take_of_length_le (by rw [HGL.out]; exact Nat.le_refl 8), HGE.out] at hf
            have HF := Aside0.mk hf
            clear hf
            go_wp2_with (go_at_call 21; refine (checksum_Mix.calls _ _ _ (mix_some _)).mono ?_; rintro e w4 ⟨rfl, ⟨nd4, rfl⟩⟩)
            refine ⟨⟨i + 1, _, by have := HO.out; omega, ⟨?_⟩, rfl, ?_, ?_⟩, ?_⟩
            · have e1 := hh.out
              rw [show (l1.length + 7) / 8 - i = ((l1.length + 7) / 8 - (i + 1)) + 1 by have := HO.out; omega] at e1
              rw [← e1]
              show _ = hashI _ (mixI (bits .xor .u64 h ((le ((l1.drop o).take 8) : Nat) : Int))) ((l1.drop o).drop 8)
              rw [List.drop_drop, ← HF.out, show o + 8 = 8 * (i + 1) by have := HO.out; omega]
            · rw [show o8 = 8 * (i + 1) by have := HO.out; have := HO8.out; omega]
            · exact pw_below_drewN ((pw_below_drewN B2.out 1).trans (HB3.out _ hB.size)) _
            · have := HO8.out
              simp [intOf]; omega
      · obtain ⟨w3, hrun, hw3, hB3⟩ := copy_arr (dT := 22) (sT := 22) (ty := 3) (n := o8 - o) (sCap := c1 - o) (dCap := 8) w2.drew l1 o Try.underlying22 (by kernel_rfl) hb2 (Kd.C_drew (Kd.C_below HR.out B2.out)) (by omega) (by omega)
        have q4 : o ≤ o8 := by omega
        have q5 : (o8 : Int) ≤ (c1 : Int) := by omega
        have q6 : (0 : Int) ≤ (o8 : Int) := by omega
        have HB3 := Aside0.mk hB3
        have HW3 := Aside0.mk hw3
        rw [Option.map_some] at hrun
        clear ho8 hB3 hw3 hb2 hb0
        go_region
        have HG := Aside0.mk (grp_range (b := l1.drop o) (fun x hx => HL.out x (List.mem_of_mem_drop hx)))
        have HGL := Aside0.mk (grp_len (l1.drop o))
        have HGE := Aside0.mk (le_grp (l1.drop o))
        obtain ⟨G, hG⟩ : ∃ G, G = grp (l1.drop o) := ⟨_, rfl⟩
        rw [← hG] at HW3 HG HGL HGE
        have HGG := Aside0.mk hG
        clear hG
        go_wp2
        go_loopw [8, 32] (fun v8 v32 wr' => ∃ (j acc : Nat), j ≤ 8 ∧ Aside0 (acc = le (G.take j)) ∧ v8 = .int .u64 (acc : Int) ∧ v32 = .int .i64 (j : Int) ∧ w3 = wr') (fun _ v32 _ => 8 - (intOf v32).toNat)
        case atStart => exact ⟨0, 0, by omega, ⟨by simp [le]⟩, rfl, rfl, rfl⟩
        case round =>
          obtain ⟨j, acc, hj, ha, rfl, rfl, rfl⟩ := hrel
          by_cases hj8 : j < 8
          · have hx := getD_range HG.out (show j < G.length by rw [HGL.out]; exact hj8)
            obtain ⟨x, hxe⟩ : ∃ x : Nat, G.getD j 0 = (x : Int) := ⟨(G.getD j 0).toNat, by omega⟩
            have hck : w3.cell? ⟨wr.heap.size, j, none⟩ = some (.int .u8 (x : Int)) := by
              rw [blk_cell HW3.out]
              have h1 : j < G.length := by rw [HGL.out]; exact hj8
              simp only [List.getElem?_toArray, List.getElem?_map, List.getElem?_eq_getElem h1, Option.map_some]
              rw [← hxe, List.getD_eq_getElem?_getD, List.getElem?_eq_getElem h1]; rfl
            have hx256 : x < 256 := by omega
            have hstep : le (G.take (j + 1)) = acc + x * 2 ^ (8 * j) := by
              rw [le_take_succ _ _ (by rw [HGL.out]; exact hj8), ← ha.out, hxe, Int.toNat_natCast]
            have hacc : acc < 2 ^ (8 * j) := by
              have h1 := le_lt (G.take j) (fun y hy => HG.out y (List.mem_of_mem_take hy))
              rw [List.length_take, HGL.out, Nat.min_eq_left (by omega), pow256, ← ha.out] at h1
              exact h1
            have hp : (2 : Nat) ^ (8 * j) ≤ 72057594037927936 := Nat.pow_le_pow_right (by decide) (show 8 * j ≤ 56 by omega)
            have hxm : x * 2 ^ (8 * j) ≤ 255 * 72057594037927936 := Nat.mul_le_mul (by omega) hp
            have eor : bits .or .u64 (acc : Int) ((x * 2 ^ (8 * j) : Nat) : Int) = ((acc + x * 2 ^ (8 * j) : Nat) : Int) := or_u64 (8 * j) acc x hacc (by omega) (by omega)
            have eww : IntKind.u64.wrap ((x * 2 ^ (8 * j) : Nat) : Int) = ((x * 2 ^ (8 * j) : Nat) : Int) := wraps_u64 _ (by omega) (by omega)
            have E1 := Aside0.mk eor
            have E2 := Aside0.mk eww
            have E3 := Aside0.mk hstep
            have hxi : (x : Int) < 256 := by omega
            have hji : (j : Int) < 8 := by omega
            clear eor eww hstep hp hxm hacc hxe hx
            go_wp2
            refine ⟨⟨j + 1, le (G.take (j + 1)), by omega, ⟨rfl⟩, ?_, by simp, by first | rfl | simp⟩, ?_⟩
            · rw [E3.out, ← pow_cast, ← Int.natCast_mul, E2.out, E1.out]
            · simp [intOf]; omega
          · obtain rfl : j = 8 := by omega
            have hf := ha.out
            rw [List.take_of_length_le (by rw [HGL.out]; exact Nat.le_refl 8), HGE.out] at hf
            have HF := Aside0.mk hf
            clear hf
            go_wp2_with (go_at_call 21; refine (checksum_Mix.calls _ _ _ (mix_some _)).mono ?_; rintro e w4 ⟨rfl, ⟨nd4, rfl⟩⟩)
            refine ⟨⟨i + 1, _, by have := HO.out; omega, ⟨?_⟩, rfl, ?_, ?_⟩, ?_⟩
            · have e1 := hh.out
              rw [show (l1.length + 7) / 8 - i = ((l1.length + 7) / 8 - (i + 1)) + 1 by have := HO.out; omega] at e1
              rw [← e1]
              show _ = hashI _ (mixI (bits .xor .u64 h ((le ((l1.drop o).take 8) : Nat) : Int))) ((l1.drop o).drop 8)
              rw [List.drop_drop, ← HF.out, show o + 8 = 8 * (i + 1) by have := HO.out; omega]
            · rw [show o8 = 8 * (i + 1) by have := HO.out; have := HO8.out; omega]
            · exact pw_below_drewN ((pw_below_drewN B2.out 1).trans (HB3.out _ hB.size)) _
            · have := HO8.out
              simp [intOf]; omega
    · have q0 : ¬ ((o : Int) < (l1.length : Int)) := by omega
      have hf := hh.out
      rw [show (l1.length + 7) / 8 - i = 0 by omega] at hf
      have HF := Aside0.mk hf
      clear hf hh ho
      go_wp2
      go_ret
      exact ⟨by rw [← HF.out]; rfl, hB⟩

/-! ### laminalaw02_awake: function 9 -/
def laminalaw02_awake.f : Option Bool := some true
theorem aw_freeze_below {B : Nat} {a w : World} (h : Below B a w) {p : Addr} (hp : B ≤ p.block) (n : Nat) : Below B a (w.freeze p n) := by
  refine h.trans ?_
  unfold World.freeze
  split
  · exact Below.refl _ _
  · refine ⟨rfl, rfl, rfl, by simp, fun i hi => ?_⟩
    have : ¬ p.block = i := by omega
    simp [Array.getElem?_modify, this]
theorem aw_freeze_cell (w : World) (p a : Addr) (n : Nat) : (w.freeze p n).cell? a = w.cell? a := by
  unfold World.freeze
  split
  · rfl
  · unfold World.cell?
    by_cases h : p.block = a.block
    · cases ho : w.heap[a.block]? with
      | none => simp [Array.getElem?_modify, h, ho]
      | some o => cases o <;> simp [Array.getElem?_modify, h, ho]
    · simp [Array.getElem?_modify, h]
theorem lit_mark {P : Program} {t e base : Nat} {ok : Nat → Prop} {v : Value} {xs : List Int} {W : World} (ht : P.underlying t = some (.slice e)) (he : P.underlying e = some (.int .u8)) (h : Kd.R (Kd.int .u8) e W base ok v xs) (hp : 0 < xs.length) :
    ∃ (A : Option Addr) (c : Nat) (W' : World), v = .slice A xs.length c ∧ xs.length ≤ c ∧ (convert t t v).run P W = .ok v W' ∧ Kd.C (Kd.int .u8) W' A xs.length xs ∧ Below base W W' := by
  obtain ⟨g, cap, rfl, hb, hlt, cells, hc⟩ := Kd.R_form h hp
  obtain ⟨_, hcap, hC⟩ := Kd.R_reads' h
  have hsh : W.shape? g = some (e, cells.size) := by unfold World.shape?; rw [hc]
  refine ⟨_, _, W.freeze ⟨g, cells.size, none⟩ 1, rfl, hcap, ?_, ?_, aw_freeze_below (Below.refl _ _) hb _⟩
  · simp [convert, run_underlying ht, run_underlying he, markStringish, hsh]
  · have h2 := Kd.reads_of_C (enc := Value.int .u8) (d := (0 : Int)) (h1 := fun _ => rfl) hC
    refine Kd.C_of_reads (enc := Value.int .u8) (d := (0 : Int)) (h1 := fun _ => rfl) ⟨h2.1, h2.2.1, fun hn => ?_⟩
    obtain ⟨ad, e1, e2⟩ := h2.2.2 hn
    exact ⟨ad, e1, fun j hj => by rw [aw_freeze_cell]; exact e2 j hj⟩
set_option maxHeartbeats 1000000 in
set_option maxRecDepth 100000 in
theorem laminalaw02_awake.calls (r : Bool) (w : World) (h : laminalaw02_awake.f = some r) :
    Calls Try.prog 9 #[] w fun e w' => e = .returned (.bool r) ∧ Below w.heap.size w w' := by
  obtain rfl := Option.some.inj h
  clear h
  obtain ⟨y1, hy1⟩ : ∃ y : List Int, y = [1, 2, 3] := ⟨_, rfl⟩
  obtain ⟨y3, hy3⟩ : ∃ y : List Int, y = [0, 0, 0, 0] := ⟨_, rfl⟩
  obtain ⟨y4, hy4⟩ : ∃ y : List Int, y = [49, 50, 51, 52, 53, 54, 55, 56, 57] := ⟨_, rfl⟩
  obtain ⟨y5, hy5⟩ : ∃ y : List (List Int), y = [y4] := ⟨_, rfl⟩
  obtain ⟨m1, hm1⟩ : ∃ y : Int, y = mixI 1 := ⟨_, rfl⟩
  obtain ⟨m5, hm5⟩ : ∃ y : Int, y = mixI 5 := ⟨_, rfl⟩
  have D1 := Aside0.mk (show checksum_Open.f 40 y1 = some ([], 2) by rw [hy1]; decide +kernel)
  have D2 := Aside0.mk (show checksum_Seal.f 40 [] = some y3 by rw [hy3]; decide +kernel)
  have D3 := Aside0.mk (show checksum_CRC.f y5 = some 3808858755 by rw [hy5, hy4]; decide +kernel)
  have D4 := Aside0.mk (show checksum_CRC.f [] = some 0 by decide +kernel)
  have D5 := Aside0.mk (show checksum_Mix.f 1 = some m1 by rw [hm1]; exact mix_some 1)
  have D6 := Aside0.mk (show checksum_Hash.f 5 [] = some m5 by rw [hm5]; decide +kernel)
  have D7 := Aside0.mk (show checksum_Mix.f 5 = some m5 by rw [hm5]; exact mix_some 5)
  have N1 : (m1 != 0) = true := by rw [hm1]; decide +kernel
  have L3 := Aside0.mk (show y3.length = 4 by rw [hy3]; rfl)
  have l3 : (y3.length : Int) = 4 := by rw [L3.out]; rfl
  have L4 := Aside0.mk (show y4.length = 9 by rw [hy4]; rfl)
  have L5 := Aside0.mk (show y5.length = 1 by rw [hy5]; rfl)
  have G0 := Aside0.mk (show rd y3 0 = 0 by rw [hy3]; rfl)
  have G3 := Aside0.mk (show rd y3 3 = 0 by rw [hy3]; rfl)
  have HY1 := Aside0.mk hy1
  have HY4 := Aside0.mk hy4
  have HY5 := Aside0.mk hy5
  clear hy1 hy3 hy4 hy5 hm1 hm5
  go_enter Try.func9, Try.ntmps9
  go_wp2_with (first
    | ((with_reducible refine gate_dst (N := 5) rfl ?_); go_loud (refine Kd.R_lit (Kd.int .u8) _ 5 ?hg (N := 5) ?hd (xs := ([1, 2, 3] : List Int)) (inner := [.int .u8 1, .int .u8 2, .int .u8 3]) (ok := fun _ => True) (okp := fun _ => True) ?hr ?hp (fun _ hk => hk) trivial (Below.refl _ _) (Nat.le_refl _) (by simp) ?_; (case hd => rfl); (case hg => (first | rfl | (simp only [*]; rfl) | (simp [*]; done))); (case hr => first | (go_simp; done) | (go_simp; rfl)); (case hp => exact (Reps.one (show Kd.M (Kd.int .u8) _ _ _ 1 [.int .u8 1] from rfl) (Reps.one (show Kd.M (Kd.int .u8) _ _ _ 2 [.int .u8 2] from rfl) (Reps.one (show Kd.M (Kd.int .u8) _ _ _ 3 [.int .u8 3] from rfl) (Reps.none _ _))))); intro v1 w1 ho hb hg_ hnew_; clear hg_ hnew_; rw [← HY1.out] at ho; obtain ⟨A1, c1, e1⟩ := Kd.R_slice ho; subst e1; have HO1 := Aside0.mk ho; have HB1 := Aside0.mk hb; clear ho hb))
    | (go_at_call 10; go_loud (refine (checksum_Open.calls 40 (fun k_ => some k_ = (.slice A1 y1.length c1 : Value).ownBlock) A1 c1 y1 [] 2 w1 (Kd.R_V (Kd.R_tight rfl HO1.out)) D1.out).mono ?_; rintro e w2 ⟨v2, rfl, ho, hb⟩; have HB2 := Aside0.mk (below_then HB1.out HB1.out.size hb); clear ho hb))
    | (go_at_call 15; go_loud (refine (checksum_Seal.calls 40 (fun _ => False) none 0 [] y3 w2 (Kd.V_nil _ _ _ _ _) D2.out).mono ?_; rintro e w3 ⟨v3, rfl, ho, hb⟩; obtain ⟨A3, c3, e3⟩ := Kd.R_slice ho; subst e3; have HB3 := Aside0.mk (below_then HB2.out HB2.out.size hb); have C3 := Aside0.mk (Kd.R_reads' ho).2.2; clear ho hb))
    | ((with_reducible refine gate_dst (N := 10) rfl ?_); go_loud (refine Kd.R_lit (Kd.int .u8) _ 5 ?hg (N := 10) ?hd (xs := ([49, 50, 51, 52, 53, 54, 55, 56, 57] : List Int)) (inner := [.int .u8 49, .int .u8 50, .int .u8 51, .int .u8 52, .int .u8 53, .int .u8 54, .int .u8 55, .int .u8 56, .int .u8 57]) (ok := fun _ => True) (okp := fun _ => True) ?hr ?hp (fun _ hk => hk) trivial (Below.refl _ _) (Nat.le_refl _) (by simp) ?_; (case hd => rfl); (case hg => (first | rfl | (simp only [*]; rfl) | (simp [*]; done))); (case hr => first | (go_simp; done) | (go_simp; rfl)); (case hp => exact (Reps.one (show Kd.M (Kd.int .u8) _ _ _ 49 [.int .u8 49] from rfl) (Reps.one (show Kd.M (Kd.int .u8) _ _ _ 50 [.int .u8 50] from rfl) (Reps.one (show Kd.M (Kd.int .u8) _ _ _ 51 [.int .u8 51] from rfl) (Reps.one (show Kd.M (Kd.int .u8) _ _ _ 52 [.int .u8 52] from rfl) (Reps.one (show Kd.M (Kd.int .u8) _ _ _ 53 [.int .u8 53] from rfl) (Reps.one (show Kd.M (Kd.int .u8) _ _ _ 54 [.int .u8 54] from rfl) (Reps.one (show Kd.M (Kd.int .u8) _ _ _ 55 [.int .u8 55] from rfl) (Reps.one (show Kd.M (Kd.int .u8) _ _ _ 56 [.int .u8 56] from rfl) (Reps.one (show Kd.M (Kd.int .u8) _ _ _ 57 [.int .u8 57] from rfl) (Reps.none _ _))))))))))); intro v4 w4 ho hb hg_ hnew_; clear hg_ hnew_; rw [← HY4.out] at ho; obtain ⟨A4, c4, w5, e4, hc4, hcv, hC4, hb5⟩ := lit_mark (P := Try.prog) Try.underlying22 Try.underlying5 ho (by rw [L4.out]; decide); subst e4; have C4 := Aside0.mk hC4; have Q4 := Aside0.mk hc4; have hb45 := hb.trans hb5; have HB5 := Aside0.mk (below_then HB3.out HB3.out.size hb45); have C35 := Aside0.mk (Kd.C_below C3.out hb45); clear ho hb hb5 hb45 hC4 hc4))
    | ((with_reducible refine gate_dst (N := 12) rfl ?_); go_loud (refine Kd.N_lit (Kd.slice 5 (Kd.int .u8)) _ 22 ?hg (N' := 12) ?hd (xs := ([y4] : List (List Int))) (inner := [.slice A4 y4.length c4]) (ok := fun _ => True) (okp := fun k_ => k_ < w5.heap.size) ?hr ?hp (fun _ _ => trivial) trivial (Below.refl _ _) (Nat.le_refl _) (by simp) ?_; (case hd => rfl); (case hg => (first | rfl | (simp only [*]; rfl) | (simp [*]; done))); (case hr => first | (go_simp; done) | (go_simp; rfl)); (case hp => exact (Reps.one (show Kd.FK (Kd.slice 5 (Kd.int .u8)) _ _ y4 [.slice A4 y4.length c4] from (Kd.FK_slice_mk Q4.out (Kd.C_F (Kd.heap_int .u8) C4.out))) (Reps.none _ _))); intro v6 w6 ho hb hg_ hnew_; clear hg_ hnew_; rw [← HY5.out] at ho; obtain ⟨A6, c6, e6⟩ := Kd.N_slice ho; subst e6; have C6 := Aside0.mk (Kd.N_reads' ho).2; have HB6 := Aside0.mk (below_then HB5.out HB5.out.size hb); have C36 := Aside0.mk (Kd.C_below C35.out hb); clear ho hb))
    | (go_at_call 16; with_reducible refine (checksum_CRC.calls A6 c6 y5 3808858755 w6 C6.out.2 C6.out.1 D3.out).mono ?_; rintro e w7 ⟨rfl, hb⟩; have HB7 := Aside0.mk (below_then HB6.out HB6.out.size hb); have C37 := Aside0.mk (Kd.C_below C36.out hb); clear hb)
    | (go_at_call 16; go_loud (refine (checksum_CRC.calls none 0 [] 0 w7 (Kd.C_nil _ _) (Nat.le_refl _) D4.out).mono ?_; rintro e w8 ⟨rfl, hb⟩; have HB8 := Aside0.mk (below_then HB7.out HB7.out.size hb); have C38 := Kd.C_below C37.out hb; obtain ⟨ad, hA3, hx0⟩ := Kd.at_int C38 0 (by omega) (by rw [L3.out]; decide); subst hA3; obtain ⟨_, hA3, hx3⟩ := Kd.at_int C38 3 (by omega) (by rw [L3.out]; decide); cases hA3; rw [G0.out] at hx0; rw [G3.out] at hx3; rw [show ((0 : Int)).toNat = 0 from rfl, Addr.add_zero'] at hx0; have hx3' : w8.cell? { block := ad.block, off := ad.off + 3 } = some (.int .u8 0) := hx3; clear C38 hx3 hb))
    | (go_at_call 21; with_reducible refine (checksum_Mix.calls _ _ _ D5.out).mono ?_; rintro e w9 ⟨rfl, ⟨n9, rfl⟩⟩)
    | (go_at_call 13; refine (checksum_Hash.calls _ none 0 [] _ _ (Kd.C_nil _ _) (Nat.le_refl _) D6.out).mono ?_; rintro e w10 ⟨rfl, hb10⟩)
    | (go_at_call 21; with_reducible refine (checksum_Mix.calls _ _ _ D7.out).mono ?_; rintro e w11 ⟨rfl, ⟨n11, rfl⟩⟩))
  go_ret
  have B9 := pw_below_drewN HB8.out n9
  exact ⟨rfl, pw_below_drewN (below_then B9 B9.size hb10) _⟩

/-! ### laminaref02_Same: function 12 -/
def laminaref02_Same.l0 : Nat → List Int → List Int → Int → Option (Bool)
 | 0, _, _, _ => none
 | k + 1, x0, x1, x5 => if x5 < (x0.length : Int) then (if 0 ≤ x5 then (if x5 < (x1.length : Int) then (if (rd x0 x5) = (rd x1 x5) then (laminaref02_Same.l0 k x0 x1 (wrap64 (x5 + 1))) else (some false)) else (none)) else (none)) else (some true)
def laminaref02_Same.f (k : Nat) (l0 : List Int) (l1 : List Int) : Option (Bool) := if (l0.length : Int) = (l1.length : Int) then (laminaref02_Same.l0 k l0 l1 0) else (some false)
theorem laminaref02_Same.mono_l : ∀ k, (∀ y0 y1 y2, LeO (laminaref02_Same.l0 k y0 y1 y2) (laminaref02_Same.l0 (k + 1) y0 y1 y2))
 | 0 => fun _ _ _ r h => by simp [laminaref02_Same.l0] at h
 | k + 1 => by
  have ih0 := laminaref02_Same.mono_l k
  ·intro y0 y1 y2
   unfold laminaref02_Same.l0
   repeat' first
   | (with_reducible exact ih0 _ _ _)
   | (with_reducible exact LeO.refl _)
   | (with_reducible exact LeO.none _)
   | (with_reducible refine LeO.ite ?_ ?_)
   | (with_reducible refine LeO.bind ?_ (fun _ => ?_))
   | exact ih0 _ _ _
   | exact LeO.none _
   | refine LeO.ite ?_ ?_
   | refine LeO.bind ?_ (fun _ => ?_)
theorem laminaref02_Same.mono : ∀ a0 a1 k, LeO (laminaref02_Same.f k a0 a1) (laminaref02_Same.f (k + 1) a0 a1) := by
 intro a0 a1 k
 have ih0 := laminaref02_Same.mono_l k
 unfold laminaref02_Same.f
 repeat' first
   | (with_reducible exact ih0 _ _ _)
   | (with_reducible exact LeO.refl _)
   | (with_reducible exact LeO.none _)
   | (with_reducible refine LeO.ite ?_ ?_)
   | (with_reducible refine LeO.bind ?_ (fun _ => ?_))
   | exact ih0 _ _ _
   | exact LeO.none _
   | refine LeO.ite ?_ ?_
   | refine LeO.bind ?_ (fun _ => ?_)
set_option maxHeartbeats 8000000 in
set_option maxRecDepth 100000 in
theorem laminaref02_Same.calls (k : Nat) (A0 : Option Addr) (c0 : Nat) (l0 : List Int) (A1 : Option Addr) (c1 : Nat) (l1 : List Int) (r : Bool) (w : World) (hr0 : Kd.C (Kd.int .u8) w A0 l0.length l0) (hc0 : l0.length ≤ c0) (hr1 : Kd.C (Kd.int .u8) w A1 l1.length l1) (hc1 : l1.length ≤ c1) (h : laminaref02_Same.f k l0 l1 = some r) :
  Calls Try.prog 12 #[.slice A0 l0.length c0, .slice A1 l1.length c1] w fun e w' => e = .returned (.bool r) ∧ Drawn0 w w' := by
 have HR0 := Aside0.mk hr0
 have HC0 := Aside0.mk hc0
 clear hr0 hc0
 have HR1 := Aside0.mk hr1
 have HC1 := Aside0.mk hc1
 clear hr1 hc1
 have H : (if (l0.length : Int) = (l1.length : Int) then (laminaref02_Same.l0 k l0 l1 0) else (some false)) = some r := h
 clear h
 by_cases c3 : (l0.length : Int) = (l1.length : Int)
 ·rw [if_pos c3] at H
  have c3b0 : ((l0.length : Int) == (l1.length : Int)) = true := beq_iff_eq.mpr c3
  have c3b1 : ((l0.length : Int) != (l1.length : Int)) = false := bne_eq_false_iff_eq.mpr c3
  have c3b2 : (l0.length == l1.length) = true := by first | simpa using c3 | (simp at c3 ⊢; omega)
  clear c3
  have H' := Aside0.mk H
  clear H
  go_enter Try.func12, Try.ntmps12
  go_wp2
  repeat (go_quiet (fail); try go_wp2)
  go_loopg [5] k (fun kq v5 w' => ∃ (x5_1 : Int), v5 = .int .i64 x5_1 ∧ Aside0 (laminaref02_Same.l0 kq l0 l1 x5_1 = some r) ∧ Aside0 (kq ≤ k) ∧ Drawn0 w w')
  case atStart => exact ⟨(0), (by first | rfl | (simp; done) | (simp [*]; done)), H', ⟨Nat.le_refl _⟩, by repeat (first | exact Drawn0.refl _ | apply Drawn0.step)⟩
  case round =>
   clear H'
   try clear c1
   try clear p2
   try clear c3
   try clear c3b0
   try clear c3b1
   try clear c3b2
   obtain ⟨x5_1, rfl, HA, HK1, ⟨m1, rfl⟩⟩ := hrel
   cases gk with
   | zero => exact absurd HA.out (by simp [laminaref02_Same.l0])
   | succ k1 =>
    have H := HA.out
    clear HA
    simp only [laminaref02_Same.l0] at H
    by_cases c4 : x5_1 < (l0.length : Int)
    ·rw [if_pos c4] at H
     have c4b0 : decide (x5_1 < (l0.length : Int)) = true := decide_eq_true c4
     clear c4
     by_cases c5 : 0 ≤ x5_1
     ·rw [if_pos c5] at H
      have c5b0 : decide (0 ≤ x5_1) = true := decide_eq_true c5
      clear c5
      by_cases c6 : x5_1 < (l1.length : Int)
      ·rw [if_pos c6] at H
       have c6b0 : decide (x5_1 < (l1.length : Int)) = true := decide_eq_true c6
       clear c6
       by_cases c7 : (rd l0 x5_1) = (rd l1 x5_1)
       ·rw [if_pos c7] at H
        have c7b0 : ((rd l0 x5_1) == (rd l1 x5_1)) = true := beq_iff_eq.mpr c7
        have c7b1 : ((rd l0 x5_1) != (rd l1 x5_1)) = false := bne_eq_false_iff_eq.mpr c7
        clear c7
        have H' := Aside0.mk H
        clear H
        have p142 : 0 ≤ (x5_1 : Int) := of_decide_eq_true (by first | (with_reducible assumption) | assumption)
        have q142 : x5_1 < (l0.length : Int) := of_decide_eq_true (by first | (with_reducible assumption) | assumption)
        obtain ⟨ad142, e142, hx142_0⟩ := Kd.at_int HR0.out x5_1 p142 q142
        cases e142
        replace p142 := eq_true p142
        replace q142 := eq_true q142
        have p143 : 0 ≤ (x5_1 : Int) := of_decide_eq_true (by first | (with_reducible assumption) | assumption)
        have q143 : x5_1 < (l1.length : Int) := of_decide_eq_true (by first | (with_reducible assumption) | assumption)
        obtain ⟨ad143, e143, hx143_0⟩ := Kd.at_int HR1.out x5_1 p143 q143
        cases e143
        replace p143 := eq_true p143
        replace q143 := eq_true q143
        go_wp2
        repeat (go_quiet (fail); try go_wp2)
        go_roundg k1
        case measure => have := HK1.out; omega
        case rel => exact ⟨(wrap64 (x5_1 + 1)), (by first | rfl | (simp; done) | (simp [*]; done)), H', ⟨by have := HK1.out; omega⟩, by repeat (first | exact Drawn0.refl _ | apply Drawn0.step)⟩
       ·rw [if_neg c7] at H
        have c7b0 : ((rd l0 x5_1) == (rd l1 x5_1)) = false := beq_eq_false_iff_ne.mpr c7
        have c7b1 : ((rd l0 x5_1) != (rd l1 x5_1)) = true := bne_iff_ne.mpr c7
        obtain rfl := Option.some.inj H
        have p142 : 0 ≤ (x5_1 : Int) := of_decide_eq_true (by first | (with_reducible assumption) | assumption)
        have q142 : x5_1 < (l0.length : Int) := of_decide_eq_true (by first | (with_reducible assumption) | assumption)
        obtain ⟨ad142, e142, hx142_0⟩ := Kd.at_int HR0.out x5_1 p142 q142
        cases e142
        replace p142 := eq_true p142
        replace q142 := eq_true q142
        have p143 : 0 ≤ (x5_1 : Int) := of_decide_eq_true (by first | (with_reducible assumption) | assumption)
        have q143 : x5_1 < (l1.length : Int) := of_decide_eq_true (by first | (with_reducible assumption) | assumption)
        obtain ⟨ad143, e143, hx143_0⟩ := Kd.at_int HR1.out x5_1 p143 q143
        cases e143
        replace p143 := eq_true p143
        replace q143 := eq_true q143
        go_wp2
        repeat (go_quiet (fail); try go_wp2)
        go_ret
        exact ⟨by first | rfl | (simp; done) | (simp [*]; done), by repeat (first | exact Drawn0.refl _ | apply Drawn0.step)⟩
      ·rw [if_neg c6] at H
       exact absurd H (by simp)
     ·rw [if_neg c5] at H
      exact absurd H (by simp)
    ·rw [if_neg c4] at H
     have c4b0 : decide (x5_1 < (l0.length : Int)) = false := decide_eq_false c4
     clear c4
     obtain rfl := Option.some.inj H
     go_wp2
     repeat (go_quiet (fail); try go_wp2)
     go_ret
     exact ⟨by first | rfl | (simp; done) | (simp [*]; done), by repeat (first | exact Drawn0.refl _ | apply Drawn0.step)⟩
 ·rw [if_neg c3] at H
  have c3b0 : ((l0.length : Int) == (l1.length : Int)) = false := beq_eq_false_iff_ne.mpr c3
  have c3b1 : ((l0.length : Int) != (l1.length : Int)) = true := bne_iff_ne.mpr c3
  have c3b2 : (l0.length == l1.length) = false := by first | simpa using c3 | (simp at c3 ⊢; omega)
  obtain rfl := Option.some.inj H
  go_enter Try.func12, Try.ntmps12
  go_wp2
  repeat (go_quiet (fail); try go_wp2)
  go_ret
  exact ⟨by first | rfl | (simp; done) | (simp [*]; done), by repeat (first | exact Drawn0.refl _ | apply Drawn0.step)⟩

/-! ### checksum_Update: function 18 -/
def checksum_Update.f (a0 : Int) (l1 : List Int) : Option Int := if 0 ≤ a0 ∧ a0 < 4294967296 ∧ (l1.all fun x => decide (0 ≤ x) && decide (x < 256)) = true then some ((4294967295 ^^^ crcR (4294967295 ^^^ a0.toNat) l1 : Nat) : Int) else none
set_option maxHeartbeats 1000000 in
set_option maxRecDepth 100000 in
theorem checksum_Update.calls (a0 : Int) (A1 : Option Addr) (c1 : Nat) (l1 : List Int) (r : Int) (w : World) (hr1 : Kd.C (Kd.int .u8) w A1 l1.length l1) (hc1 : l1.length ≤ c1) (h : checksum_Update.f a0 l1 = some r) :
    Calls Try.prog 18 #[.int .u32 a0, .slice A1 l1.length c1] w fun e w' => e = .returned (.int .u32 r) ∧ Below w.heap.size w w' := by
  unfold checksum_Update.f at h
  split at h
  case isFalse => cases h
  case isTrue hok =>
  obtain rfl := Option.some.inj h
  obtain ⟨h0, h1, hb⟩ := hok
  obtain ⟨c, rfl⟩ := Int.eq_ofNat_of_zero_le h0
  have hl : ∀ x ∈ l1, 0 ≤ x ∧ x < 256 := by simpa only [List.all_eq_true, Bool.and_eq_true, decide_eq_true_eq] using hb
  have hc32 : c < 2 ^ 32 := by omega
  obtain ⟨q, hq⟩ : ∃ q : Nat, q = 4294967295 ^^^ c := ⟨_, rfl⟩
  have hq32 : q < 4294967296 := by rw [hq]; exact Nat.xor_lt_two_pow (by decide) hc32
  have e1 : bits .xor .u32 IntKind.u32.max (c : Int) = (q : Int) := by rw [hq]; exact not32 c hc32
  have e2 : bits .xor .u32 4294967295 ((crcR q l1 : Nat) : Int) = ((4294967295 ^^^ crcR q l1 : Nat) : Int) := not32 _ (crcR_lt _ _ hq32 hl)
  have E2 := Aside0.mk e2
  have hsz : tabA.size = 256 := by simp [tabA, tabL, encs]
  have HZ := Aside0.mk hsz
  have HR := Aside0.mk hr1
  have HL := Aside0.mk hl
  rw [Int.toNat_natCast, ← hq]
  clear hr1 hl hb h h0 h1 hsz hq e2
  go_enter Try.func18, Try.ntmps18
  go_wp2_with (first
    | (go_at_call 29; refine (checksum_remainders.calls _).mono ?_; rintro e w1 ⟨rfl, hB1⟩; have HB1 := Aside0.mk hB1; clear hB1)
    | ((with_reducible refine gate_dst (N := 5) rfl ?_); refine box_event ?hg (N := 5) ?hd (cs := Array.replicate 256 (.int .u32 0)) (t := 53) ?hr ?_; (case hd => rfl); (case hg => rfl); (case hr => first | (go_simp; done) | (go_simp; rfl)); intro g0 hg0 w2 hb0 hB0)
    | (refine wpList_store_row rfl 53 _ _ rfl g0 tabA (by first | rfl | (rw [hg0]; rfl)) rfl 53 _ hb0 (by rw [HZ.out]; kernel_rfl) (by rw [HZ.out]; simp) (by decide +kernel) ?_))
  obtain ⟨w3, hw3⟩ : ∃ w3, w3 = w2.setRow w1.heap.size tabA := ⟨_, rfl⟩
  rw [← hw3]
  subst hg0
  have k3 : Aside0 (w3.heap[w1.heap.size]? = some (.cells tabA 53 (0, 0))) := ⟨by rw [hw3]; exact setRow_heap _ _ _ _ _ _ hb0⟩
  have B3 : Aside0 (Below w.heap.size w w3) := ⟨by rw [hw3]; exact below_row (below_then HB1.out HB1.out.size hB0) HB1.out.size _⟩
  clear hw3 hb0 hB0
  refine (checksum_advance.calls w1.heap.size A1 c1 l1 q w3 k3.out (Kd.C_below HR.out B3.out) HL.out hq32).mono ?_
  rintro e w4 ⟨rfl, ⟨m2, rfl⟩⟩
  go_wp2
  go_ret
  exact ⟨by rw [← E2.out]; rfl, pw_below_drewN B3.out _⟩

-- NOT PRINTED: function 7 (laminalaw02_ChecksumParts)

end Go.Proofs.Ytfonjlolliiaeaa.QChecksumParts
