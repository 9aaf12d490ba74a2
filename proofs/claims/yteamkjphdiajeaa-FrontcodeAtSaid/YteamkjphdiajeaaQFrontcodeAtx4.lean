-- Written by a program of this session (wip/pr2.sh): the walk of the Go text, function by function.
import Derived.Test.YteamkjphdiajeaaQFrontcodeAtx0
import Derived.Test.YteamkjphdiajeaaQFrontcodeAtx3
namespace Go.Proofs.Yteamkjphdiajeaa.QFrontcodeAt
open Go.RowKit Go.Proofs.YteamkjphdiajeaaW.PrintWords Go.Proofs.YteamkjphdiajeaaW.PrintLast Go.Proofs.YteamkjphdiajeaaW.PrintMore
open Go.Proofs.YteamkjphdiajeaaM
attribute [local go_sem] max2_int min2_int max_two min_two max_three min_three max_four min_four   -- for this text's walks alone
set_option linter.unusedVariables false
set_option linter.unusedSimpArgs false

/-! ### laminaref11_CommonPrefix: function 35 -/
def laminaref11_CommonPrefix.l0 : Nat → ByteArray → ByteArray → Int → Option (Int)
 | 0, _, _, _ => none
 | k + 1, x0, x1, x5 => if x5 < (x0.size : Int) then (if x5 < (x1.size : Int) then (if 0 ≤ x5 then (if (bt x0 x5) = (bt x1 x5) then (laminaref11_CommonPrefix.l0 k x0 x1 (wrap64 (x5 + 1))) else (some x5)) else (none)) else (some x5)) else (some x5)
def laminaref11_CommonPrefix.f (k : Nat) (a0 : ByteArray) (a1 : ByteArray) : Option (Int) := laminaref11_CommonPrefix.l0 k a0 a1 0
theorem laminaref11_CommonPrefix.mono_l : ∀ k, (∀ y0 y1 y2, LeO (laminaref11_CommonPrefix.l0 k y0 y1 y2) (laminaref11_CommonPrefix.l0 (k + 1) y0 y1 y2))
 | 0 => fun _ _ _ r h => by simp [laminaref11_CommonPrefix.l0] at h
 | k + 1 => by
  have ih0 := laminaref11_CommonPrefix.mono_l k
  ·intro y0 y1 y2
   unfold laminaref11_CommonPrefix.l0
   repeat' first
   | (with_reducible exact ih0 _ _ _)
   | (with_reducible exact LeO.refl _)
   | (with_reducible exact LeO.none _)
   | (with_reducible refine LeO.ite ?_ ?_)
   | (with_reducible refine LeO.bind ?_ (fun _ => ?_))
   | exact ih0 _ _ _
   | exact LeO.none _
   | refine LeO.ite ?_ ?_
   | refine LeO.bind ?_ (fun _ => ?_)
theorem laminaref11_CommonPrefix.mono : ∀ a0 a1 k, LeO (laminaref11_CommonPrefix.f k a0 a1) (laminaref11_CommonPrefix.f (k + 1) a0 a1) := by
 intro a0 a1 k
 have ih0 := laminaref11_CommonPrefix.mono_l k
 unfold laminaref11_CommonPrefix.f
 repeat' first
   | (with_reducible exact ih0 _ _ _)
   | (with_reducible exact LeO.refl _)
   | (with_reducible exact LeO.none _)
   | (with_reducible refine LeO.ite ?_ ?_)
   | (with_reducible refine LeO.bind ?_ (fun _ => ?_))
   | exact ih0 _ _ _
   | exact LeO.none _
   | refine LeO.ite ?_ ?_
   | refine LeO.bind ?_ (fun _ => ?_)
set_option maxHeartbeats 8000000 in
set_option maxRecDepth 100000 in
theorem laminaref11_CommonPrefix.calls (k : Nat) (a0 : ByteArray) (a1 : ByteArray) (r : Int) (w : World) (h : laminaref11_CommonPrefix.f k a0 a1 = some r) :
  Calls Try.prog 35 #[.string a0, .string a1] w fun e w' => e = .returned (.int .i64 r) ∧ Drawn0 w w' := by
 have H : (laminaref11_CommonPrefix.l0 k a0 a1 0) = some r := h
 clear h
 have H' := Aside0.mk H
 clear H
 go_enter Try.func35, Try.ntmps35
 go_wp2
 repeat (go_quiet (fail); try go_wp2)
 go_loopg [5] k (fun kq v5 w' => ∃ (x5_1 : Int), v5 = .int .i64 x5_1 ∧ Aside0 (laminaref11_CommonPrefix.l0 kq a0 a1 x5_1 = some r) ∧ Aside0 (kq ≤ k) ∧ Drawn0 w w')
 case atStart => exact ⟨(0), (by first | rfl | (simp; done) | (simp [*]; done)), H', ⟨Nat.le_refl _⟩, by repeat (first | exact Drawn0.refl _ | apply Drawn0.step)⟩
 case round =>
  clear H'
  try clear p2
  obtain ⟨x5_1, rfl, HA, HK1, ⟨m1, rfl⟩⟩ := hrel
  cases gk with
  | zero => exact absurd HA.out (by simp [laminaref11_CommonPrefix.l0])
  | succ k1 =>
   have H := HA.out
   clear HA
   simp only [laminaref11_CommonPrefix.l0] at H
   by_cases c3 : x5_1 < (a0.size : Int)
   ·rw [if_pos c3] at H
    have c3b0 : decide (x5_1 < (a0.size : Int)) = true := decide_eq_true c3
    clear c3
    by_cases c4 : x5_1 < (a1.size : Int)
    ·rw [if_pos c4] at H
     have c4b0 : decide (x5_1 < (a1.size : Int)) = true := decide_eq_true c4
     clear c4
     by_cases c5 : 0 ≤ x5_1
     ·rw [if_pos c5] at H
      have c5b0 : decide (0 ≤ x5_1) = true := decide_eq_true c5
      clear c5
      by_cases c8 : (bt a0 x5_1) = (bt a1 x5_1)
      ·rw [if_pos c8] at H
       have c8b0 : ((bt a0 x5_1) == (bt a1 x5_1)) = true := beq_iff_eq.mpr c8
       have c8b1 : ((bt a0 x5_1) != (bt a1 x5_1)) = false := bne_eq_false_iff_eq.mpr c8
       clear c8
       have H' := Aside0.mk H
       clear H
       have p6 : 0 ≤ (x5_1 : Int) := of_decide_eq_true (by first | (with_reducible assumption) | assumption)
       have q6 : x5_1 < (a0.size : Int) := of_decide_eq_true (by first | (with_reducible assumption) | assumption)
       have hx6 := bt_at a0 x5_1
       replace p6 := eq_true p6
       replace q6 := eq_true q6
       have p7 : 0 ≤ (x5_1 : Int) := of_decide_eq_true (by first | (with_reducible assumption) | assumption)
       have q7 : x5_1 < (a1.size : Int) := of_decide_eq_true (by first | (with_reducible assumption) | assumption)
       have hx7 := bt_at a1 x5_1
       replace p7 := eq_true p7
       replace q7 := eq_true q7
       go_wp2
       repeat (go_quiet (fail); try go_wp2)
       go_roundg k1
       case measure => have := HK1.out; omega
       case rel => exact ⟨(wrap64 (x5_1 + 1)), (by first | rfl | (simp; done) | (simp [*]; done)), H', ⟨by have := HK1.out; omega⟩, by repeat (first | exact Drawn0.refl _ | apply Drawn0.step)⟩
      ·rw [if_neg c8] at H
       have c8b0 : ((bt a0 x5_1) == (bt a1 x5_1)) = false := beq_eq_false_iff_ne.mpr c8
       have c8b1 : ((bt a0 x5_1) != (bt a1 x5_1)) = true := bne_iff_ne.mpr c8
       obtain rfl := Option.some.inj H
       have p6 : 0 ≤ (x5_1 : Int) := of_decide_eq_true (by first | (with_reducible assumption) | assumption)
       have q6 : x5_1 < (a0.size : Int) := of_decide_eq_true (by first | (with_reducible assumption) | assumption)
       have hx6 := bt_at a0 x5_1
       replace p6 := eq_true p6
       replace q6 := eq_true q6
       have p7 : 0 ≤ (x5_1 : Int) := of_decide_eq_true (by first | (with_reducible assumption) | assumption)
       have q7 : x5_1 < (a1.size : Int) := of_decide_eq_true (by first | (with_reducible assumption) | assumption)
       have hx7 := bt_at a1 x5_1
       replace p7 := eq_true p7
       replace q7 := eq_true q7
       go_wp2
       repeat (go_quiet (fail); try go_wp2)
       go_ret
       exact ⟨by first | rfl | (simp; done) | (simp [*]; done), by repeat (first | exact Drawn0.refl _ | apply Drawn0.step)⟩
     ·rw [if_neg c5] at H
      exact absurd H (by simp)
    ·rw [if_neg c4] at H
     have c4b0 : decide (x5_1 < (a1.size : Int)) = false := decide_eq_false c4
     clear c4
     obtain rfl := Option.some.inj H
     go_wp2
     repeat (go_quiet (fail); try go_wp2)
     go_ret
     exact ⟨by first | rfl | (simp; done) | (simp [*]; done), by repeat (first | exact Drawn0.refl _ | apply Drawn0.step)⟩
   ·rw [if_neg c3] at H
    have c3b0 : decide (x5_1 < (a0.size : Int)) = false := decide_eq_false c3
    clear c3
    obtain rfl := Option.some.inj H
    go_wp2
    repeat (go_quiet (fail); try go_wp2)
    go_ret
    exact ⟨by first | rfl | (simp; done) | (simp [*]; done), by repeat (first | exact Drawn0.refl _ | apply Drawn0.step)⟩

/-! ### laminaref11_next: function 58 -/
def nextTextR (l0 : List Int) (a3 : ByteArray) (k m at_ : Int) : ByteArray := a3.extract 0 k.toNat ++ strOfNums ((l0.take (at_ + m).toNat).drop at_.toNat)
def laminaref11_next.f (k : Nat) (l0 : List Int) (a1 a2 : Int) (a3 : ByteArray) : Option (ByteArray × Int × Int) :=
  if a3.size ≤ 1000000000 ∧ l0.length ≤ 1000000000 ∧ 0 ≤ a2 ∧ a2 ≤ 1000000000 then
    (laminaref01_Decode.f k l0 a1).bind fun d1 => if d1.2.2 = 0 then
      (if 0 ≤ d1.1 ∧ d1.1 < 18446744073709551616 then
        (if d1.1 > (a3.size : Int) ∨ (Int.tmod a2 16 = 0 ∧ d1.1 > 0) then some (⟨#[]⟩, 0, 4) else
          (laminaref01_Decode.f k l0 d1.2.1).bind fun d2 => if d2.2.2 = 0 then
            (if 0 ≤ d2.1 ∧ d2.1 < 18446744073709551616 ∧ 0 ≤ d2.2.1 ∧ d2.2.1 ≤ (l0.length : Int) then
              (if d2.1 > (l0.length : Int) - d2.2.1 then some (⟨#[]⟩, 0, 2) else
                (if Int.tmod a2 16 = 0 then some (nextTextR l0 a3 d1.1 d2.1 d2.2.1, d2.2.1 + d2.1, 0) else
                  (laminaref11_CommonPrefix.f k a3 (nextTextR l0 a3 d1.1 d2.1 d2.2.1)).bind fun c => if c = d1.1 then some (nextTextR l0 a3 d1.1 d2.1 d2.2.1, d2.2.1 + d2.1, 0) else some (⟨#[]⟩, 0, 4)))
            else none)
          else some (⟨#[]⟩, 0, d2.2.2))
      else none)
    else some (⟨#[]⟩, 0, d1.2.2)
  else none
theorem strOfNums_size (l : List Int) : (strOfNums l).size = l.length := by simp [strOfNums, ByteArray.size]
theorem laminaref11_next.mono (k : Nat) (l0 : List Int) (a1 a2 : Int) (a3 : ByteArray) : LeO (laminaref11_next.f k l0 a1 a2 a3) (laminaref11_next.f (k + 1) l0 a1 a2 a3) := by
  unfold laminaref11_next.f
  repeat' first
  | (with_reducible exact laminaref01_Decode.mono _ _ _)
  | (with_reducible exact laminaref11_CommonPrefix.mono _ _ _)
  | (with_reducible exact LeO.refl _)
  | (with_reducible exact LeO.none _)
  | (with_reducible refine LeO.ite ?_ ?_)
  | (with_reducible refine LeO.bind ?_ (fun _ => ?_))
set_option maxHeartbeats 1000000 in
set_option maxRecDepth 100000 in
theorem laminaref11_next.calls (k : Nat) (A0 : Option Addr) (c0 : Nat) (l0 : List Int) (a1 : Int) (a2 : Int) (a3 : ByteArray) (r1 : ByteArray) (r2 : Int) (r3 : Int) (w : World) (hr0 : Kd.C (Kd.int .u8) w A0 l0.length l0) (hc0 : l0.length ≤ c0) (h : laminaref11_next.f k l0 a1 a2 a3 = some (r1, r2, r3)) :
    Calls Try.prog 58 #[.slice A0 l0.length c0, .int .i64 a1, .int .i64 a2, .string a3] w fun e w' => e = .returned (.tuple #[.string r1, .int .i64 r2, .int .i64 r3]) ∧ Drawn0 w w' := by
  have hmx := Kd.C_max hr0
  unfold laminaref11_next.f at h
  by_cases hsz : a3.size ≤ 1000000000 ∧ l0.length ≤ 1000000000 ∧ 0 ≤ a2 ∧ a2 ≤ 1000000000
  case neg => rw [if_neg hsz] at h; cases h
  rw [if_pos hsz] at h
  obtain ⟨hs1, hs2, hs3, hs4⟩ := hsz
  obtain ⟨q, rfl⟩ := Int.eq_ofNat_of_zero_le hs3
  obtain ⟨t, ht⟩ : ∃ t : Nat, t = q % 16 := ⟨_, rfl⟩
  have htm : Int.tmod (q : Int) 16 = (t : Int) := by rw [Int.tmod_eq_emod_of_nonneg (by omega)]; omega
  have ht2 : (q : Int) % 16 = (t : Int) := by omega
  rw [htm] at h
  have HS := Aside0.mk (And.intro hs1 (And.intro hs2 hs4))
  clear ht htm hs3 hs4
  replace h := Option.bind_eq_some_iff.mp h
  obtain ⟨⟨d1, d2, d3⟩, hD, h⟩ := h
  have HR := Aside0.mk hr0
  have HD := Aside0.mk hD
  clear hr0 hD
  by_cases e1 : d3 = 0
  case neg =>
    rw [if_neg e1] at h
    simp only [Option.some.injEq, Prod.mk.injEq] at h
    obtain ⟨rfl, rfl, rfl⟩ := h
    have e1b : (d3 != 0) = true := by simpa using e1
    clear e1
    go_enter Try.func58, Try.ntmps58
    go_wp2_with (first | (go_at_call 64; with_reducible refine (laminaref01_Decode.calls _ _ _ l0 a1 _ _ _ _ HR.out hc0 HD.out).mono ?_; rintro e w' ⟨rfl, ⟨nd, rfl⟩⟩) | (go_at_call 64; with_reducible refine (laminaref01_Decode.calls _ _ _ l0 d2 _ _ _ _ (Kd.C_drewN HR.out _) hc0 HG.out).mono ?_; rintro e w' ⟨rfl, ⟨nd2, rfl⟩⟩))
    go_ret3
    exact ⟨rfl, ⟨_, rfl⟩⟩
  subst e1
  rw [if_pos rfl] at h
  by_cases e2 : 0 ≤ d1 ∧ d1 < 18446744073709551616
  case neg => rw [if_neg e2] at h; cases h
  rw [if_pos e2] at h
  obtain ⟨e2, e3⟩ := e2
  obtain ⟨kk, rfl⟩ := Int.eq_ofNat_of_zero_le e2
  have ewk : IntKind.u64.wrap (a3.size : Int) = (a3.size : Int) := wraps_u64 _ (by omega) (by omega)
  have E3 := Aside0.mk e3
  clear e2 e3
  by_cases e4 : (kk : Int) > (a3.size : Int) ∨ ((t : Int) = 0 ∧ (kk : Int) > 0)
  case pos =>
    rw [if_pos e4] at h
    simp only [Option.some.injEq, Prod.mk.injEq] at h
    obtain ⟨rfl, rfl, rfl⟩ := h
    go_enter Try.func58, Try.ntmps58
    by_cases e5 : t = 0 ∧ 0 < kk
    · obtain ⟨rfl, e8⟩ := e5
      have e9 : ¬ ((kk : Int) = 0) := by omega
      clear e4 e8
      go_wp2_with (first | (go_at_call 64; with_reducible refine (laminaref01_Decode.calls _ _ _ l0 a1 _ _ _ _ HR.out hc0 HD.out).mono ?_; rintro e w' ⟨rfl, ⟨nd, rfl⟩⟩) | (go_at_call 64; with_reducible refine (laminaref01_Decode.calls _ _ _ l0 d2 _ _ _ _ (Kd.C_drewN HR.out _) hc0 HG.out).mono ?_; rintro e w' ⟨rfl, ⟨nd2, rfl⟩⟩))
      go_ret3
      exact ⟨rfl, ⟨_, rfl⟩⟩
    · have e7 : (a3.size : Int) < (kk : Int) := by omega
      by_cases e8 : t = 0
      · subst e8
        obtain rfl : kk = 0 := by omega
        exfalso; omega
      · have z1 : ¬ (t : Int) = 0 := by omega
        clear e4 e5 e8
        go_wp2_with (first | (go_at_call 64; with_reducible refine (laminaref01_Decode.calls _ _ _ l0 a1 _ _ _ _ HR.out hc0 HD.out).mono ?_; rintro e w' ⟨rfl, ⟨nd, rfl⟩⟩) | (go_at_call 64; with_reducible refine (laminaref01_Decode.calls _ _ _ l0 d2 _ _ _ _ (Kd.C_drewN HR.out _) hc0 HG.out).mono ?_; rintro e w' ⟨rfl, ⟨nd2, rfl⟩⟩))
        go_ret3
        exact ⟨rfl, ⟨_, rfl⟩⟩
  rw [if_neg e4] at h
  have e5 : ¬ (a3.size : Int) < (kk : Int) := fun h => e4 (.inl h)
  have e6 : kk ≤ a3.size := by omega
  have e7 : t = 0 → (kk : Int) = 0 := fun h1 => by omega
  clear e4
  replace h := Option.bind_eq_some_iff.mp h
  obtain ⟨⟨g1, g2, g3⟩, hG, h⟩ := h
  have HG := Aside0.mk hG
  clear hG
  by_cases z0 : t = 0
  · have z1 := e7 z0
    have z2 : ((kk : Int) != 0) = false := by rw [z1]; rfl
    subst z0
    clear e7 z1
    by_cases f1 : g3 = 0
    case neg =>
      rw [if_neg f1] at h
      simp only [Option.some.injEq, Prod.mk.injEq] at h
      obtain ⟨rfl, rfl, rfl⟩ := h
      have f1b : (g3 != 0) = true := by simpa using f1
      clear f1
      go_enter Try.func58, Try.ntmps58
      go_wp2_with (first | (go_at_call 64; with_reducible refine (laminaref01_Decode.calls _ _ _ l0 a1 _ _ _ _ HR.out hc0 HD.out).mono ?_; rintro e w' ⟨rfl, ⟨nd, rfl⟩⟩) | (go_at_call 64; with_reducible refine (laminaref01_Decode.calls _ _ _ l0 d2 _ _ _ _ (Kd.C_drewN HR.out _) hc0 HG.out).mono ?_; rintro e w' ⟨rfl, ⟨nd2, rfl⟩⟩))
      go_ret3
      exact ⟨rfl, ⟨_, rfl⟩⟩
    subst f1
    rw [if_pos rfl] at h
    by_cases f2 : 0 ≤ g1 ∧ g1 < 18446744073709551616 ∧ 0 ≤ g2 ∧ g2 ≤ (l0.length : Int)
    case neg => rw [if_neg f2] at h; cases h
    rw [if_pos f2] at h
    obtain ⟨f2, f3, f4, f5⟩ := f2
    obtain ⟨mm, rfl⟩ := Int.eq_ofNat_of_zero_le f2
    obtain ⟨at_, rfl⟩ := Int.eq_ofNat_of_zero_le f4
    obtain ⟨lm, hlm⟩ : ∃ lm : Nat, lm = l0.length - at_ := ⟨_, rfl⟩
    have ewl : (l0.length : Int) - (at_ : Int) = (lm : Int) := by omega
    have ewm : IntKind.u64.wrap (lm : Int) = (lm : Int) := wraps_u64 _ (by omega) (by omega)
    rw [ewl] at h
    have HL := Aside0.mk (And.intro hlm (And.intro f3 f5))
    clear f2 f3 f4 f5 hlm
    by_cases f6 : (mm : Int) > (lm : Int)
    case pos =>
      rw [if_pos f6] at h
      simp only [Option.some.injEq, Prod.mk.injEq] at h
      obtain ⟨rfl, rfl, rfl⟩ := h
      have f7 : (lm : Int) < (mm : Int) := f6
      clear f6
      go_enter Try.func58, Try.ntmps58
      go_wp2_with (first | (go_at_call 64; with_reducible refine (laminaref01_Decode.calls _ _ _ l0 a1 _ _ _ _ HR.out hc0 HD.out).mono ?_; rintro e w' ⟨rfl, ⟨nd, rfl⟩⟩) | (go_at_call 64; with_reducible refine (laminaref01_Decode.calls _ _ _ l0 d2 _ _ _ _ (Kd.C_drewN HR.out _) hc0 HG.out).mono ?_; rintro e w' ⟨rfl, ⟨nd2, rfl⟩⟩))
      go_ret3
      exact ⟨rfl, ⟨_, rfl⟩⟩
    rw [if_neg f6] at h
    have f7 : ¬ (lm : Int) < (mm : Int) := f6
    have HS2 := HS.out
    have HL2 := HL.out
    have ew1 : IntKind.i64.wrap (kk : Int) = (kk : Int) := IntWalk.i64_in _ (by omega)
    have ew2 : IntKind.i64.wrap (mm : Int) = (mm : Int) := IntWalk.i64_in _ (by omega)
    obtain ⟨u, hu⟩ : ∃ u : Nat, u = at_ + mm := ⟨_, rfl⟩
    have eu : (at_ : Int) + (mm : Int) = (u : Int) := by omega
    have ew4 : IntKind.i64.wrap (u : Int) = (u : Int) := IntWalk.i64_in _ (by omega)
    have HU := Aside0.mk (And.intro hu (show u ≤ l0.length by omega))
    clear f6 HS2 HL2 hu
    obtain ⟨n22, hi22, _, hsz22, _⟩ := info_parts info5
    obtain ⟨A22, hcut22, hA22, hC22⟩ := print_mid_of (P := Try.prog) (Value.int .u8) 0 51 5 .i64 .i64 Try.underlying51 hi22 hsz22 A0 c0 l0 (at_ : Int) (u : Int) (by omega) (by have := HU.out; omega) (by have := HU.out; omega) hc0
    have hcv : ∀ m : Nat, (convert 51 9 (.slice A22 ((l0.take (u : Int).toNat).drop (at_ : Int).toNat).length (c0 - (at_ : Int).toNat))).run Try.prog (w.drewN m) = .ok (.string (strOfNums ((l0.take (u : Int).toNat).drop (at_ : Int).toNat))) (w.drewN m) := fun m => Kd.C_string (P := Try.prog) (A := A22) (c := (c0 - (at_ : Int).toNat)) Try.underlying51 Try.underlying5 Try.underlying9 (Kd.C_drewN (Kd.C_of_reads (h1 := fun _ => rfl) (hA22 _ (Kd.reads_of_C HR.out))) _)
    have hcvd : ∀ m : Nat, (convert 51 9 (.slice A22 ((l0.take (u : Int).toNat).drop (at_ : Int).toNat).length (c0 - (at_ : Int).toNat))).run Try.prog (w.drewN m).drew = .ok (.string (strOfNums ((l0.take (u : Int).toNat).drop (at_ : Int).toNat))) (w.drewN m).drew := fun m => hcv (m + 1)
    simp only [Int.toNat_natCast] at hcut22 hcv hcvd
    generalize hln : ((l0.take u).drop at_).length = ln at hcut22 hcv hcvd
    obtain ⟨T2, hT2⟩ : ∃ T2 : ByteArray, T2 = strOfNums ((l0.take u).drop at_) := ⟨_, rfl⟩
    rw [← hT2] at hcv hcvd
    have hT2s : T2.size ≤ l0.length := by rw [hT2, strOfNums_size, List.length_drop, List.length_take]; omega
    have hbd : (a3.extract 0 kk).size + T2.size ≤ 9223372036854775807 := by rw [ByteArray.size_extract]; omega
    obtain ⟨T, hT⟩ : ∃ T : ByteArray, T = a3.extract 0 kk ++ T2 := ⟨_, rfl⟩
    have hT3 : nextTextR l0 a3 (kk : Int) (mm : Int) (at_ : Int) = T := by unfold nextTextR; rw [hT, hT2, eu, Int.toNat_natCast, Int.toNat_natCast, Int.toNat_natCast]
    rw [hT3, eu] at h
    have HT := Aside0.mk (And.intro hT (And.intro hT2 (And.intro hT3 hln)))
    have hTT : a3.extract 0 kk ++ T2 = T := hT.symm
    clear hT hT2 hT3 hln hA22 hC22 hi22 hsz22 hT2s
    rw [if_pos (show ((0 : Nat) : Int) = 0 from rfl)] at h
    simp only [Option.some.injEq, Prod.mk.injEq] at h
    obtain ⟨rfl, rfl, rfl⟩ := h
    go_enter Try.func58, Try.ntmps58
    go_wp2_with (first | (go_at_call 64; with_reducible refine (laminaref01_Decode.calls _ _ _ l0 a1 _ _ _ _ HR.out hc0 HD.out).mono ?_; rintro e w' ⟨rfl, ⟨nd, rfl⟩⟩) | (go_at_call 64; with_reducible refine (laminaref01_Decode.calls _ _ _ l0 d2 _ _ _ _ (Kd.C_drewN HR.out _) hc0 HG.out).mono ?_; rintro e w' ⟨rfl, ⟨nd2, rfl⟩⟩))
    go_region
    go_wp2
    go_ret3
    exact ⟨rfl, ⟨_, rfl⟩⟩
  · clear e7
    have z1 : ¬ (t : Int) = 0 := by omega
    clear z0
    by_cases f1 : g3 = 0
    case neg =>
      rw [if_neg f1] at h
      simp only [Option.some.injEq, Prod.mk.injEq] at h
      obtain ⟨rfl, rfl, rfl⟩ := h
      have f1b : (g3 != 0) = true := by simpa using f1
      clear f1
      go_enter Try.func58, Try.ntmps58
      go_wp2_with (first | (go_at_call 64; with_reducible refine (laminaref01_Decode.calls _ _ _ l0 a1 _ _ _ _ HR.out hc0 HD.out).mono ?_; rintro e w' ⟨rfl, ⟨nd, rfl⟩⟩) | (go_at_call 64; with_reducible refine (laminaref01_Decode.calls _ _ _ l0 d2 _ _ _ _ (Kd.C_drewN HR.out _) hc0 HG.out).mono ?_; rintro e w' ⟨rfl, ⟨nd2, rfl⟩⟩))
      go_ret3
      exact ⟨rfl, ⟨_, rfl⟩⟩
    subst f1
    rw [if_pos rfl] at h
    by_cases f2 : 0 ≤ g1 ∧ g1 < 18446744073709551616 ∧ 0 ≤ g2 ∧ g2 ≤ (l0.length : Int)
    case neg => rw [if_neg f2] at h; cases h
    rw [if_pos f2] at h
    obtain ⟨f2, f3, f4, f5⟩ := f2
    obtain ⟨mm, rfl⟩ := Int.eq_ofNat_of_zero_le f2
    obtain ⟨at_, rfl⟩ := Int.eq_ofNat_of_zero_le f4
    obtain ⟨lm, hlm⟩ : ∃ lm : Nat, lm = l0.length - at_ := ⟨_, rfl⟩
    have ewl : (l0.length : Int) - (at_ : Int) = (lm : Int) := by omega
    have ewm : IntKind.u64.wrap (lm : Int) = (lm : Int) := wraps_u64 _ (by omega) (by omega)
    rw [ewl] at h
    have HL := Aside0.mk (And.intro hlm (And.intro f3 f5))
    clear f2 f3 f4 f5 hlm
    by_cases f6 : (mm : Int) > (lm : Int)
    case pos =>
      rw [if_pos f6] at h
      simp only [Option.some.injEq, Prod.mk.injEq] at h
      obtain ⟨rfl, rfl, rfl⟩ := h
      have f7 : (lm : Int) < (mm : Int) := f6
      clear f6
      go_enter Try.func58, Try.ntmps58
      go_wp2_with (first | (go_at_call 64; with_reducible refine (laminaref01_Decode.calls _ _ _ l0 a1 _ _ _ _ HR.out hc0 HD.out).mono ?_; rintro e w' ⟨rfl, ⟨nd, rfl⟩⟩) | (go_at_call 64; with_reducible refine (laminaref01_Decode.calls _ _ _ l0 d2 _ _ _ _ (Kd.C_drewN HR.out _) hc0 HG.out).mono ?_; rintro e w' ⟨rfl, ⟨nd2, rfl⟩⟩))
      go_ret3
      exact ⟨rfl, ⟨_, rfl⟩⟩
    rw [if_neg f6] at h
    have f7 : ¬ (lm : Int) < (mm : Int) := f6
    have HS2 := HS.out
    have HL2 := HL.out
    have ew1 : IntKind.i64.wrap (kk : Int) = (kk : Int) := IntWalk.i64_in _ (by omega)
    have ew2 : IntKind.i64.wrap (mm : Int) = (mm : Int) := IntWalk.i64_in _ (by omega)
    obtain ⟨u, hu⟩ : ∃ u : Nat, u = at_ + mm := ⟨_, rfl⟩
    have eu : (at_ : Int) + (mm : Int) = (u : Int) := by omega
    have ew4 : IntKind.i64.wrap (u : Int) = (u : Int) := IntWalk.i64_in _ (by omega)
    have HU := Aside0.mk (And.intro hu (show u ≤ l0.length by omega))
    clear f6 HS2 HL2 hu
    obtain ⟨n22, hi22, _, hsz22, _⟩ := info_parts info5
    obtain ⟨A22, hcut22, hA22, hC22⟩ := print_mid_of (P := Try.prog) (Value.int .u8) 0 51 5 .i64 .i64 Try.underlying51 hi22 hsz22 A0 c0 l0 (at_ : Int) (u : Int) (by omega) (by have := HU.out; omega) (by have := HU.out; omega) hc0
    have hcv : ∀ m : Nat, (convert 51 9 (.slice A22 ((l0.take (u : Int).toNat).drop (at_ : Int).toNat).length (c0 - (at_ : Int).toNat))).run Try.prog (w.drewN m) = .ok (.string (strOfNums ((l0.take (u : Int).toNat).drop (at_ : Int).toNat))) (w.drewN m) := fun m => Kd.C_string (P := Try.prog) (A := A22) (c := (c0 - (at_ : Int).toNat)) Try.underlying51 Try.underlying5 Try.underlying9 (Kd.C_drewN (Kd.C_of_reads (h1 := fun _ => rfl) (hA22 _ (Kd.reads_of_C HR.out))) _)
    have hcvd : ∀ m : Nat, (convert 51 9 (.slice A22 ((l0.take (u : Int).toNat).drop (at_ : Int).toNat).length (c0 - (at_ : Int).toNat))).run Try.prog (w.drewN m).drew = .ok (.string (strOfNums ((l0.take (u : Int).toNat).drop (at_ : Int).toNat))) (w.drewN m).drew := fun m => hcv (m + 1)
    simp only [Int.toNat_natCast] at hcut22 hcv hcvd
    generalize hln : ((l0.take u).drop at_).length = ln at hcut22 hcv hcvd
    obtain ⟨T2, hT2⟩ : ∃ T2 : ByteArray, T2 = strOfNums ((l0.take u).drop at_) := ⟨_, rfl⟩
    rw [← hT2] at hcv hcvd
    have hT2s : T2.size ≤ l0.length := by rw [hT2, strOfNums_size, List.length_drop, List.length_take]; omega
    have hbd : (a3.extract 0 kk).size + T2.size ≤ 9223372036854775807 := by rw [ByteArray.size_extract]; omega
    obtain ⟨T, hT⟩ : ∃ T : ByteArray, T = a3.extract 0 kk ++ T2 := ⟨_, rfl⟩
    have hT3 : nextTextR l0 a3 (kk : Int) (mm : Int) (at_ : Int) = T := by unfold nextTextR; rw [hT, hT2, eu, Int.toNat_natCast, Int.toNat_natCast, Int.toNat_natCast]
    rw [hT3, eu] at h
    have HT := Aside0.mk (And.intro hT (And.intro hT2 (And.intro hT3 hln)))
    have hTT : a3.extract 0 kk ++ T2 = T := hT.symm
    clear hT hT2 hT3 hln hA22 hC22 hi22 hsz22 hT2s
    rw [if_neg z1] at h
    replace h := Option.bind_eq_some_iff.mp h
    obtain ⟨c, hP, h⟩ := h
    have HP := Aside0.mk hP
    clear hP
    by_cases y1 : c = (kk : Int)
    · rw [if_pos y1] at h
      simp only [Option.some.injEq, Prod.mk.injEq] at h
      obtain ⟨rfl, rfl, rfl⟩ := h
      subst y1
      go_enter Try.func58, Try.ntmps58
      go_wp2_with (first | (go_at_call 64; with_reducible refine (laminaref01_Decode.calls _ _ _ l0 a1 _ _ _ _ HR.out hc0 HD.out).mono ?_; rintro e w' ⟨rfl, ⟨nd, rfl⟩⟩) | (go_at_call 64; with_reducible refine (laminaref01_Decode.calls _ _ _ l0 d2 _ _ _ _ (Kd.C_drewN HR.out _) hc0 HG.out).mono ?_; rintro e w' ⟨rfl, ⟨nd2, rfl⟩⟩))
      go_region
      go_wp2_with (go_at_call 35; with_reducible refine (laminaref11_CommonPrefix.calls _ _ _ _ _ HP.out).mono ?_; rintro e w' ⟨rfl, ⟨nd3, rfl⟩⟩)
      go_ret3
      exact ⟨rfl, ⟨_, rfl⟩⟩
    · rw [if_neg y1] at h
      simp only [Option.some.injEq, Prod.mk.injEq] at h
      obtain ⟨rfl, rfl, rfl⟩ := h
      have y2 : (c != (kk : Int)) = true := by simpa using y1
      clear y1
      go_enter Try.func58, Try.ntmps58
      go_wp2_with (first | (go_at_call 64; with_reducible refine (laminaref01_Decode.calls _ _ _ l0 a1 _ _ _ _ HR.out hc0 HD.out).mono ?_; rintro e w' ⟨rfl, ⟨nd, rfl⟩⟩) | (go_at_call 64; with_reducible refine (laminaref01_Decode.calls _ _ _ l0 d2 _ _ _ _ (Kd.C_drewN HR.out _) hc0 HG.out).mono ?_; rintro e w' ⟨rfl, ⟨nd2, rfl⟩⟩))
      go_region
      go_wp2_with (go_at_call 35; with_reducible refine (laminaref11_CommonPrefix.calls _ _ _ _ _ HP.out).mono ?_; rintro e w' ⟨rfl, ⟨nd3, rfl⟩⟩)
      go_ret3
      exact ⟨rfl, ⟨_, rfl⟩⟩

/-! ### laminaref11_Decode: function 41 -/
mutual
def laminaref11_Decode.j0 : Nat → List Int → Int → Int → Bool → Option (List ByteArray × Int × Int)
 | 0, _, _, _, _ => none
 | k + 1, x0, x1, x2, x30 => if x30 = true then (some (([] : List ByteArray), 0, 1)) else (laminaref11_Decode.l0 k x0 x1 x2 ([] : List ByteArray) (⟨#[]⟩ : ByteArray) 0)
def laminaref11_Decode.l0 : Nat → List Int → Int → Int → List ByteArray → ByteArray → Int → Option (List ByteArray × Int × Int)
 | 0, _, _, _, _, _, _ => none
 | k + 1, x0, x1, x2, x9, x10, x11 => if x11 < x2 then ((laminaref11_next.f k x0 x1 x11 x10).bind fun bt131 => (if bt131.2.2 = 0 then (if x9.length < 8796093022208 then (laminaref11_Decode.l0 k x0 bt131.2.1 x2 (x9 ++ [bt131.1]) bt131.1 (wrap64 (x11 + 1))) else (none)) else (some (([] : List ByteArray), 0, bt131.2.2)))) else (some (x9, x1, 0))
end
def laminaref11_Decode.f (k : Nat) (l0 : List Int) (a1 : Int) (a2 : Int) : Option (List ByteArray × Int × Int) := if a1 < 0 then (laminaref11_Decode.j0 k l0 a1 a2 true) else (if a1 > (l0.length : Int) then (laminaref11_Decode.j0 k l0 a1 a2 true) else (if a2 < 0 then (laminaref11_Decode.j0 k l0 a1 a2 true) else (laminaref11_Decode.j0 k l0 a1 a2 (decide (a2 > 65536)))))
theorem laminaref11_Decode.mono_l : ∀ k, (∀ y0 y1 y2 y3, LeO (laminaref11_Decode.j0 k y0 y1 y2 y3) (laminaref11_Decode.j0 (k + 1) y0 y1 y2 y3)) ∧ (∀ y0 y1 y2 y3 y4 y5, LeO (laminaref11_Decode.l0 k y0 y1 y2 y3 y4 y5) (laminaref11_Decode.l0 (k + 1) y0 y1 y2 y3 y4 y5))
 | 0 => ⟨fun _ _ _ _ r h => by simp [laminaref11_Decode.j0] at h, fun _ _ _ _ _ _ r h => by simp [laminaref11_Decode.l0] at h⟩
 | k + 1 => by
  obtain ⟨ih0, ih1⟩ := laminaref11_Decode.mono_l k
  refine ⟨?_, ?_⟩
  ·intro y0 y1 y2 y3
   unfold laminaref11_Decode.j0
   repeat' first
   | (with_reducible exact ih0 _ _ _ _)
   | (with_reducible exact ih1 _ _ _ _ _ _)
   | (with_reducible exact laminaref11_next.mono _ _ _ _ _)
   | (with_reducible exact LeO.refl _)
   | (with_reducible exact LeO.none _)
   | (with_reducible refine LeO.ite ?_ ?_)
   | (with_reducible refine LeO.bind ?_ (fun _ => ?_))
   | exact ih0 _ _ _ _
   | exact ih1 _ _ _ _ _ _
   | exact laminaref11_next.mono _ _ _ _ _
   | exact LeO.none _
   | refine LeO.ite ?_ ?_
   | refine LeO.bind ?_ (fun _ => ?_)
  ·intro y0 y1 y2 y3 y4 y5
   unfold laminaref11_Decode.l0
   repeat' first
   | (with_reducible exact ih0 _ _ _ _)
   | (with_reducible exact ih1 _ _ _ _ _ _)
   | (with_reducible exact laminaref11_next.mono _ _ _ _ _)
   | (with_reducible exact LeO.refl _)
   | (with_reducible exact LeO.none _)
   | (with_reducible refine LeO.ite ?_ ?_)
   | (with_reducible refine LeO.bind ?_ (fun _ => ?_))
   | exact ih0 _ _ _ _
   | exact ih1 _ _ _ _ _ _
   | exact laminaref11_next.mono _ _ _ _ _
   | exact LeO.none _
   | refine LeO.ite ?_ ?_
   | refine LeO.bind ?_ (fun _ => ?_)
theorem laminaref11_Decode.mono : ∀ a0 a1 a2 k, LeO (laminaref11_Decode.f k a0 a1 a2) (laminaref11_Decode.f (k + 1) a0 a1 a2) := by
 intro a0 a1 a2 k
 obtain ⟨ih0, ih1⟩ := laminaref11_Decode.mono_l k
 unfold laminaref11_Decode.f
 repeat' first
   | (with_reducible exact ih0 _ _ _ _)
   | (with_reducible exact ih1 _ _ _ _ _ _)
   | (with_reducible exact laminaref11_next.mono _ _ _ _ _)
   | (with_reducible exact LeO.refl _)
   | (with_reducible exact LeO.none _)
   | (with_reducible refine LeO.ite ?_ ?_)
   | (with_reducible refine LeO.bind ?_ (fun _ => ?_))
   | exact ih0 _ _ _ _
   | exact ih1 _ _ _ _ _ _
   | exact laminaref11_next.mono _ _ _ _ _
   | exact LeO.none _
   | refine LeO.ite ?_ ?_
   | refine LeO.bind ?_ (fun _ => ?_)
set_option maxHeartbeats 8000000 in
set_option maxRecDepth 100000 in
theorem laminaref11_Decode.calls (k : Nat) (A0 : Option Addr) (c0 : Nat) (l0 : List Int) (a1 : Int) (a2 : Int) (r1 : List ByteArray) (r2 : Int) (r3 : Int) (w : World) (hr0 : Kd.C (Kd.int .u8) w A0 l0.length l0) (hc0 : l0.length ≤ c0) (h : laminaref11_Decode.f k l0 a1 a2 = some (r1, r2, r3)) :
  Calls Try.prog 41 #[.slice A0 l0.length c0, .int .i64 a1, .int .i64 a2] w fun e w' => ∃ v0_ : Value, e = .returned (.tuple #[v0_, .int .i64 r2, .int .i64 r3]) ∧ Kd.R Kd.string 9 w' w.heap.size (fun _ => True) v0_ r1 ∧ Below w.heap.size w w' := by
 have HR0 := Aside0.mk hr0
 have HC0 := Aside0.mk hc0
 clear hr0 hc0
 have HB := Aside0.mk (Below.refl w.heap.size w)
 have H : (if a1 < 0 then (laminaref11_Decode.j0 k l0 a1 a2 true) else (if a1 > (l0.length : Int) then (laminaref11_Decode.j0 k l0 a1 a2 true) else (if a2 < 0 then (laminaref11_Decode.j0 k l0 a1 a2 true) else (laminaref11_Decode.j0 k l0 a1 a2 (decide (a2 > 65536)))))) = some (r1, r2, r3) := h
 clear h
 have HC4 := Aside0.mk H
 clear H
 go_enter Try.func41, Try.ntmps41
 go_upto_region 1 with (fail)
 go_cut [30] (fun v30 wc => ∃ (kq : Nat) (x30_3 : Bool), v30 = .bool x30_3 ∧ Aside0 (laminaref11_Decode.j0 kq l0 a1 a2 x30_3 = some (r1, r2, r3)) ∧ Aside0 (kq ≤ k) ∧ Aside0 (Below w.heap.size w wc))
 case first =>
  have H := HC4.out
  clear HC4
  by_cases c5 : a1 < 0
  ·rw [if_pos c5] at H
   have c5b0 : decide (a1 < 0) = true := decide_eq_true c5
   clear c5
   (first | rw [c5b0] | (simp only [i64_w, i32_w]; rw [c5b0]) | skip)
   have H' := Aside0.mk H
   clear H
   go_wp2
   go_meet
   case rel => exact ⟨_, (true), (by first | rfl | (simp; done) | (simp [*]; done)), H', ⟨by first | omega | exact Nat.le_refl _⟩, ⟨by repeat (first | (with_reducible first | exact HB.out | apply below_alloc | apply pw_below_drewN | apply below_drew1) | exact HB.out)⟩⟩
  ·rw [if_neg c5] at H
   have c5b0 : decide (a1 < 0) = false := decide_eq_false c5
   clear c5
   (first | rw [c5b0] | (simp only [i64_w, i32_w]; rw [c5b0]) | skip)
   by_cases c6 : a1 > (l0.length : Int)
   ·rw [if_pos c6] at H
    have c6b0 : decide ((l0.length : Int) < a1) = true := decide_eq_true c6
    clear c6
    have H' := Aside0.mk H
    clear H
    go_wp2
    go_meet
    case rel => exact ⟨_, (true), (by first | rfl | (simp; done) | (simp [*]; done)), H', ⟨by first | omega | exact Nat.le_refl _⟩, ⟨by repeat (first | (with_reducible first | exact HB.out | apply below_alloc | apply pw_below_drewN | apply below_drew1) | exact HB.out)⟩⟩
   ·rw [if_neg c6] at H
    have c6b0 : decide ((l0.length : Int) < a1) = false := decide_eq_false c6
    clear c6
    by_cases c7 : a2 < 0
    ·rw [if_pos c7] at H
     have c7b0 : decide (a2 < 0) = true := decide_eq_true c7
     clear c7
     have H' := Aside0.mk H
     clear H
     go_wp2
     go_meet
     case rel => exact ⟨_, (true), (by first | rfl | (simp; done) | (simp [*]; done)), H', ⟨by first | omega | exact Nat.le_refl _⟩, ⟨by repeat (first | (with_reducible first | exact HB.out | apply below_alloc | apply pw_below_drewN | apply below_drew1) | exact HB.out)⟩⟩
    ·rw [if_neg c7] at H
     have c7b0 : decide (a2 < 0) = false := decide_eq_false c7
     clear c7
     have H' := Aside0.mk H
     clear H
     go_wp2
     go_meet
     case rel => exact ⟨_, (decide (a2 > 65536)), (by first | rfl | (simp; done) | (simp [*]; done)), H', ⟨by first | omega | exact Nat.le_refl _⟩, ⟨by repeat (first | (with_reducible first | exact HB.out | apply below_alloc | apply pw_below_drewN | apply below_drew1) | exact HB.out)⟩⟩
 case rest =>
  clear HC4
  try clear p2
  try clear c4
  try clear c5
  try clear c5b0
  try clear c6
  try clear c6b0
  try clear c7
  try clear c7b0
  obtain ⟨kq, x30_3, rfl, HA, HJ3, HB⟩ := hcut
  cases kq with
  | zero => exact absurd HA.out (by simp [laminaref11_Decode.j0])
  | succ kj3 =>
   have H := HA.out
   clear HA
   simp only [laminaref11_Decode.j0] at H
   by_cases c8 : x30_3 = true
   ·subst c8
    have H1 : (some (([] : List ByteArray), 0, 1)) = some (r1, r2, r3) := by rw [if_pos rfl] at H; exact H
    clear H
    have H := H1
    clear H1
    simp only [Option.some.injEq, Prod.mk.injEq] at H
    obtain ⟨rfl, rfl, rfl⟩ := H
    go_wp2
    go_ret3
    exact ⟨_, by first | rfl | (simp [errW_none, errW_some] <;> rfl) | (simp [*, errW_none, errW_some] <;> rfl), by first | exact Kd.R_nil _ _ _ _ _ | exact Kd.N_nil _ _ _ _ _ | exact Kd.V_nil _ _ _ _ _ | exact Kd.Q_nil _ _ _ _ _ | exact Kd.S_nil _ _ _ _ _, by repeat (first | (with_reducible first | exact HB.out | apply below_alloc | apply pw_below_drewN | apply below_drew1) | exact HB.out)⟩
   ·replace c8 := Bool.eq_false_iff.mpr c8
    subst c8
    have H1 : (laminaref11_Decode.l0 kj3 l0 a1 a2 ([] : List ByteArray) (⟨#[]⟩ : ByteArray) 0) = some (r1, r2, r3) := by rw [if_neg (show ¬ (false = true) by decide)] at H; exact H
    clear H
    have H := H1
    clear H1
    have H' := Aside0.mk H
    clear H
    go_wp2
    go_loopg [1, 9, 10, 11] kj3 (fun kq v1 v9 v10 v11 w' => ∃ (x1_2 : Int) (x9_2 : List ByteArray) (x10_2 : ByteArray) (x11_2 : Int), v1 = .int .i64 x1_2 ∧ v10 = .string x10_2 ∧ v11 = .int .i64 x11_2 ∧ Aside0 (laminaref11_Decode.l0 kq l0 x1_2 a2 x9_2 x10_2 x11_2 = some (r1, r2, r3)) ∧ Aside0 (kq ≤ kj3) ∧ Aside0 (Kd.R Kd.string 9 w' w.heap.size (fun _ => True) v9 x9_2) ∧ Aside0 (Below w.heap.size w w'))
    case atStart => exact ⟨(a1), (([] : List ByteArray)), ((⟨#[]⟩ : ByteArray)), (0), (by first | rfl | (simp; done) | (simp [*]; done)), (by first | rfl | (simp; done) | (simp [*]; done)), (by first | rfl | (simp; done) | (simp [*]; done)), H', ⟨Nat.le_refl _⟩, ⟨by first | exact Kd.R_nil _ _ _ _ _ | exact Kd.N_nil _ _ _ _ _ | exact Kd.V_nil _ _ _ _ _ | exact Kd.Q_nil _ _ _ _ _ | exact Kd.S_nil _ _ _ _ _⟩, ⟨by repeat (first | (with_reducible first | exact HB.out | apply below_alloc | apply pw_below_drewN | apply below_drew1) | exact HB.out)⟩⟩
    case round =>
     clear H'
     try clear p2
     try clear c4
     try clear c5
     try clear c5b0
     try clear c6
     try clear c6b0
     try clear c7
     try clear c7b0
     try clear c8
     try clear p2
     obtain ⟨x1_2, x9_2, x10_2, x11_2, rfl, rfl, rfl, HA, HK2, HO_9, HB⟩ := hrel
     cases gk with
     | zero => exact absurd HA.out (by simp [laminaref11_Decode.l0])
     | succ k2 =>
      have H := HA.out
      clear HA
      simp only [laminaref11_Decode.l0] at H
      by_cases c9 : x11_2 < a2
      ·rw [if_pos c9] at H
       have c9b0 : decide (x11_2 < a2) = true := decide_eq_true c9
       clear c9
       replace H := Option.bind_eq_some_iff.mp H
       obtain ⟨⟨t131, t132, t133⟩, A100, H⟩ := H
       replace H : (if t133 = 0 then (if x9_2.length < 8796093022208 then (laminaref11_Decode.l0 k2 l0 t132 a2 (x9_2 ++ [t131]) t131 (wrap64 (x11_2 + 1))) else (none)) else (some (([] : List ByteArray), 0, t133))) = some (r1, r2, r3) := H
       have A10 := Aside0.mk A100
       clear A100
       by_cases c11 : t133 = 0
       ·rw [if_pos c11] at H
        have c11b0 : (t133 == 0) = true := beq_iff_eq.mpr c11
        have c11b1 : (t133 != 0) = false := bne_eq_false_iff_eq.mpr c11
        clear c11
        by_cases c12 : x9_2.length < 8796093022208
        ·rw [if_pos c12] at H
         have LMc12 := Aside0.mk c12
         clear c12
         obtain ⟨y134, hy134⟩ : ∃ y_ : List ByteArray, y_ = (x9_2 ++ [t131]) := ⟨_, rfl⟩
         replace H : (laminaref11_Decode.l0 k2 l0 t132 a2 y134 t131 (wrap64 (x11_2 + 1))) = some (r1, r2, r3) := by first | (rw [hy134]; with_reducible exact H) | (have H2_ := (Option.bind_some _ _).symm.trans H; rw [hy134]; with_reducible exact H2_) | (have H2_ := (Option.bind_some _ _).symm.trans H; with_reducible exact H2_) | with_reducible exact H | (rw [hy134]; exact H) | exact H
         have Ny134 := Aside0.mk hy134
         clear hy134
         have H' := Aside0.mk H
         clear H
         go_wp2_with (first | ((with_reducible refine gate_callee (f := 58) rfl ?_); refine goesL_ (some 41) rfl rfl Try.func58 (by kernel_rfl) rfl #[.slice A0 l0.length c0, .int .i64 x1_2, .int .i64 x11_2, .string x10_2] rfl (by (try simp only [List.map_toArray, List.map_cons, List.map_nil]); first | done | rfl | (simp only [List.length_drop, List.length_take]; rfl)) ?_; (with_reducible refine (laminaref11_next.calls k2 _ _ l0 x1_2 x11_2 x10_2 t131 t132 t133 _ ?side1 ?side2 A10.out).mono ?_); (case side1 => repeat (first | exact (Kd.C_below HR0.out HB.out) | (with_reducible refine Kd.C_alloc ?_ _) | (with_reducible refine Kd.C_drewN ?_ _) | (with_reducible refine Kd.C_drew ?_))); (case side2 => exact HC0.out); rintro e w' ⟨rfl, ⟨nd, rfl⟩⟩; refine ⟨_, rfl, ?_⟩) | ((with_reducible refine gate_builtin (b := .append) (xs := #[.tmp 48, .tmp 50]) rfl ?_); (try (refine gate_guard (by rfl) ?_; dsimp only)); at_builtin; refine Kd.R_append Kd.string (w0 := w) w.heap.size rfl (.tmp 48) (.tmp 50) 48 9 (.string ⟨#[]⟩) 16 rfl Try.underlying48 info9 rfl (by decide) (by omega) u9 x9_2 t131 [.string t131] (fun _ => True) (fun _ => False) rfl rfl ?aP (fun _ hk => hk.elim) ?aF ?aO ?aB ?aS ?aL ?_; (case aP => exact rfl); (case aB => exact (by repeat (first | (with_reducible first | exact HB.out | apply below_alloc | apply pw_below_drewN | apply below_drew1) | exact HB.out))); (case aF => exact (fun _ _ => trivial)); (case aO => exact (by (with_reducible repeat (first | apply Kd.R_alloc | apply Kd.R_drewN | apply Kd.R_drew)); exact HO_9.out)); (case aS => exact (below_size (by repeat (first | (with_reducible first | exact HB.out | apply below_alloc | apply pw_below_drewN | apply below_drew1) | exact HB.out)))); (case aL => have := LMc12.out; omega); intro v135 w13 ho hb hg hat; rw [← Ny134.out] at ho; have n0_ := Aside0.mk (hb); have n1_ := Aside0.mk (ho); clear HB; clear HO_9; have HB := n0_; have HO136 := n1_; clear n0_ n1_; clear ho hb hg hat))
         go_roundg k2
         case measure => have := HJ3.out; have := HK2.out; omega
         case rel => exact ⟨(t132), (y134), (t131), (wrap64 (x11_2 + 1)), (by first | rfl | (simp; done) | (simp [*]; done)), (by first | rfl | (simp; done) | (simp [*]; done)), (by first | rfl | (simp; done) | (simp [*]; done)), H', ⟨by have := HJ3.out; have := HK2.out; omega⟩, ⟨by (with_reducible repeat (first | apply Kd.R_alloc | apply Kd.R_drewN | apply Kd.R_drew)); exact HO136.out⟩, ⟨by repeat (first | (with_reducible first | exact HB.out | apply below_alloc | apply pw_below_drewN | apply below_drew1) | exact HB.out)⟩⟩
        ·rw [if_neg c12] at H
         exact absurd H (by simp)
       ·rw [if_neg c11] at H
        have c11b0 : (t133 == 0) = false := beq_eq_false_iff_ne.mpr c11
        have c11b1 : (t133 != 0) = true := bne_iff_ne.mpr c11
        simp only [Option.some.injEq, Prod.mk.injEq] at H
        obtain ⟨rfl, rfl, rfl⟩ := H
        go_wp2_with (first | ((with_reducible refine gate_callee (f := 58) rfl ?_); refine goesL_ (some 41) rfl rfl Try.func58 (by kernel_rfl) rfl #[.slice A0 l0.length c0, .int .i64 x1_2, .int .i64 x11_2, .string x10_2] rfl (by (try simp only [List.map_toArray, List.map_cons, List.map_nil]); first | done | rfl | (simp only [List.length_drop, List.length_take]; rfl)) ?_; (with_reducible refine (laminaref11_next.calls k2 _ _ l0 x1_2 x11_2 x10_2 t131 t132 t133 _ ?side1 ?side2 A10.out).mono ?_); (case side1 => repeat (first | exact (Kd.C_below HR0.out HB.out) | (with_reducible refine Kd.C_alloc ?_ _) | (with_reducible refine Kd.C_drewN ?_ _) | (with_reducible refine Kd.C_drew ?_))); (case side2 => exact HC0.out); rintro e w' ⟨rfl, ⟨nd, rfl⟩⟩; refine ⟨_, rfl, ?_⟩))
        go_ret3
        exact ⟨_, by first | rfl | (simp [errW_none, errW_some] <;> rfl) | (simp [*, errW_none, errW_some] <;> rfl), by first | exact Kd.R_nil _ _ _ _ _ | exact Kd.N_nil _ _ _ _ _ | exact Kd.V_nil _ _ _ _ _ | exact Kd.Q_nil _ _ _ _ _ | exact Kd.S_nil _ _ _ _ _, by repeat (first | (with_reducible first | exact HB.out | apply below_alloc | apply pw_below_drewN | apply below_drew1) | exact HB.out)⟩
      ·rw [if_neg c9] at H
       have c9b0 : decide (x11_2 < a2) = false := decide_eq_false c9
       clear c9
       simp only [Option.some.injEq, Prod.mk.injEq] at H
       obtain ⟨rfl, rfl, rfl⟩ := H
       go_wp2
       go_ret3
       exact ⟨_, by first | rfl | (simp [errW_none, errW_some] <;> rfl) | (simp [*, errW_none, errW_some] <;> rfl), by (with_reducible repeat (first | apply Kd.R_alloc | apply Kd.R_drewN | apply Kd.R_drew)); exact HO_9.out, by repeat (first | (with_reducible first | exact HB.out | apply below_alloc | apply pw_below_drewN | apply below_drew1) | exact HB.out)⟩

/-! ### laminaref11_At: function 44 -/
def laminaref11_At.j0 : Nat → List Int → Int → Int → Bool → Option (ByteArray × Int)
 | 0, _, _, _, _ => none
 | k + 1, x0, x1, x3, x37 => if x37 = true then (some ((⟨#[]⟩ : ByteArray), 1)) else ((laminaref11_Decode.f k x0 x1 (wrap64 (x3 + 1))).bind fun bt137 => (if bt137.2.2 = 0 then (if 0 ≤ x3 then (if x3 < (bt137.1.length : Int) then (some (rdOf ByteArray.empty bt137.1 x3, 0)) else (none)) else (none)) else (some ((⟨#[]⟩ : ByteArray), bt137.2.2))))
def laminaref11_At.f (k : Nat) (l0 : List Int) (a1 : Int) (a2 : Int) (a3 : Int) : Option (ByteArray × Int) := if a1 < 0 then (laminaref11_At.j0 k l0 a1 a3 true) else (if a1 > (l0.length : Int) then (laminaref11_At.j0 k l0 a1 a3 true) else (if a2 < 0 then (laminaref11_At.j0 k l0 a1 a3 true) else (if a2 > 65536 then (laminaref11_At.j0 k l0 a1 a3 true) else (if a3 < 0 then (laminaref11_At.j0 k l0 a1 a3 true) else (laminaref11_At.j0 k l0 a1 a3 (decide (a3 ≥ a2)))))))
theorem laminaref11_At.mono_l : ∀ k, (∀ y0 y1 y2 y3, LeO (laminaref11_At.j0 k y0 y1 y2 y3) (laminaref11_At.j0 (k + 1) y0 y1 y2 y3))
 | 0 => fun _ _ _ _ r h => by simp [laminaref11_At.j0] at h
 | k + 1 => by
  have ih0 := laminaref11_At.mono_l k
  ·intro y0 y1 y2 y3
   unfold laminaref11_At.j0
   repeat' first
   | (with_reducible exact ih0 _ _ _ _)
   | (with_reducible exact laminaref11_Decode.mono _ _ _ _)
   | (with_reducible exact LeO.refl _)
   | (with_reducible exact LeO.none _)
   | (with_reducible refine LeO.ite ?_ ?_)
   | (with_reducible refine LeO.bind ?_ (fun _ => ?_))
   | exact ih0 _ _ _ _
   | exact laminaref11_Decode.mono _ _ _ _
   | exact LeO.none _
   | refine LeO.ite ?_ ?_
   | refine LeO.bind ?_ (fun _ => ?_)
theorem laminaref11_At.mono : ∀ a0 a1 a2 a3 k, LeO (laminaref11_At.f k a0 a1 a2 a3) (laminaref11_At.f (k + 1) a0 a1 a2 a3) := by
 intro a0 a1 a2 a3 k
 have ih0 := laminaref11_At.mono_l k
 unfold laminaref11_At.f
 repeat' first
   | (with_reducible exact ih0 _ _ _ _)
   | (with_reducible exact laminaref11_Decode.mono _ _ _ _)
   | (with_reducible exact LeO.refl _)
   | (with_reducible exact LeO.none _)
   | (with_reducible refine LeO.ite ?_ ?_)
   | (with_reducible refine LeO.bind ?_ (fun _ => ?_))
   | exact ih0 _ _ _ _
   | exact laminaref11_Decode.mono _ _ _ _
   | exact LeO.none _
   | refine LeO.ite ?_ ?_
   | refine LeO.bind ?_ (fun _ => ?_)
set_option maxHeartbeats 8000000 in
set_option maxRecDepth 100000 in
theorem laminaref11_At.calls (k : Nat) (A0 : Option Addr) (c0 : Nat) (l0 : List Int) (a1 : Int) (a2 : Int) (a3 : Int) (r1 : ByteArray) (r2 : Int) (w : World) (hr0 : Kd.C (Kd.int .u8) w A0 l0.length l0) (hc0 : l0.length ≤ c0) (h : laminaref11_At.f k l0 a1 a2 a3 = some (r1, r2)) :
  Calls Try.prog 44 #[.slice A0 l0.length c0, .int .i64 a1, .int .i64 a2, .int .i64 a3] w fun e w' => e = .returned (.tuple #[.string r1, .int .i64 r2]) ∧ Below w.heap.size w w' := by
 have HR0 := Aside0.mk hr0
 have HC0 := Aside0.mk hc0
 clear hr0 hc0
 have HB := Aside0.mk (Below.refl w.heap.size w)
 have H : (if a1 < 0 then (laminaref11_At.j0 k l0 a1 a3 true) else (if a1 > (l0.length : Int) then (laminaref11_At.j0 k l0 a1 a3 true) else (if a2 < 0 then (laminaref11_At.j0 k l0 a1 a3 true) else (if a2 > 65536 then (laminaref11_At.j0 k l0 a1 a3 true) else (if a3 < 0 then (laminaref11_At.j0 k l0 a1 a3 true) else (laminaref11_At.j0 k l0 a1 a3 (decide (a3 ≥ a2)))))))) = some (r1, r2) := h
 clear h
 have HC5 := Aside0.mk H
 clear H
 go_enter Try.func44, Try.ntmps44
 go_upto_region 1 with (fail)
 go_cut [37] (fun v37 wc => ∃ (kq : Nat) (x37_4 : Bool), v37 = .bool x37_4 ∧ Aside0 (laminaref11_At.j0 kq l0 a1 a3 x37_4 = some (r1, r2)) ∧ Aside0 (kq ≤ k) ∧ Aside0 (Below w.heap.size w wc))
 case first =>
  have H := HC5.out
  clear HC5
  by_cases c6 : a1 < 0
  ·rw [if_pos c6] at H
   have c6b0 : decide (a1 < 0) = true := decide_eq_true c6
   clear c6
   (first | rw [c6b0] | (simp only [i64_w, i32_w]; rw [c6b0]) | skip)
   have H' := Aside0.mk H
   clear H
   go_wp2
   go_meet
   case rel => exact ⟨_, (true), (by first | rfl | (simp; done) | (simp [*]; done)), H', ⟨by first | omega | exact Nat.le_refl _⟩, ⟨by repeat (first | (with_reducible first | exact HB.out | apply below_alloc | apply pw_below_drewN | apply below_drew1) | exact HB.out)⟩⟩
  ·rw [if_neg c6] at H
   have c6b0 : decide (a1 < 0) = false := decide_eq_false c6
   clear c6
   (first | rw [c6b0] | (simp only [i64_w, i32_w]; rw [c6b0]) | skip)
   by_cases c7 : a1 > (l0.length : Int)
   ·rw [if_pos c7] at H
    have c7b0 : decide ((l0.length : Int) < a1) = true := decide_eq_true c7
    clear c7
    have H' := Aside0.mk H
    clear H
    go_wp2
    go_meet
    case rel => exact ⟨_, (true), (by first | rfl | (simp; done) | (simp [*]; done)), H', ⟨by first | omega | exact Nat.le_refl _⟩, ⟨by repeat (first | (with_reducible first | exact HB.out | apply below_alloc | apply pw_below_drewN | apply below_drew1) | exact HB.out)⟩⟩
   ·rw [if_neg c7] at H
    have c7b0 : decide ((l0.length : Int) < a1) = false := decide_eq_false c7
    clear c7
    by_cases c8 : a2 < 0
    ·rw [if_pos c8] at H
     have c8b0 : decide (a2 < 0) = true := decide_eq_true c8
     clear c8
     have H' := Aside0.mk H
     clear H
     go_wp2
     go_meet
     case rel => exact ⟨_, (true), (by first | rfl | (simp; done) | (simp [*]; done)), H', ⟨by first | omega | exact Nat.le_refl _⟩, ⟨by repeat (first | (with_reducible first | exact HB.out | apply below_alloc | apply pw_below_drewN | apply below_drew1) | exact HB.out)⟩⟩
    ·rw [if_neg c8] at H
     have c8b0 : decide (a2 < 0) = false := decide_eq_false c8
     clear c8
     by_cases c9 : a2 > 65536
     ·rw [if_pos c9] at H
      have c9b0 : decide (65536 < a2) = true := decide_eq_true c9
      clear c9
      have H' := Aside0.mk H
      clear H
      go_wp2
      go_meet
      case rel => exact ⟨_, (true), (by first | rfl | (simp; done) | (simp [*]; done)), H', ⟨by first | omega | exact Nat.le_refl _⟩, ⟨by repeat (first | (with_reducible first | exact HB.out | apply below_alloc | apply pw_below_drewN | apply below_drew1) | exact HB.out)⟩⟩
     ·rw [if_neg c9] at H
      have c9b0 : decide (65536 < a2) = false := decide_eq_false c9
      clear c9
      by_cases c10 : a3 < 0
      ·rw [if_pos c10] at H
       have c10b0 : decide (a3 < 0) = true := decide_eq_true c10
       clear c10
       have H' := Aside0.mk H
       clear H
       go_wp2
       go_meet
       case rel => exact ⟨_, (true), (by first | rfl | (simp; done) | (simp [*]; done)), H', ⟨by first | omega | exact Nat.le_refl _⟩, ⟨by repeat (first | (with_reducible first | exact HB.out | apply below_alloc | apply pw_below_drewN | apply below_drew1) | exact HB.out)⟩⟩
      ·rw [if_neg c10] at H
       have c10b0 : decide (a3 < 0) = false := decide_eq_false c10
       clear c10
       have H' := Aside0.mk H
       clear H
       go_wp2
       go_meet
       case rel => exact ⟨_, (decide (a3 ≥ a2)), (by first | rfl | (simp; done) | (simp [*]; done)), H', ⟨by first | omega | exact Nat.le_refl _⟩, ⟨by repeat (first | (with_reducible first | exact HB.out | apply below_alloc | apply pw_below_drewN | apply below_drew1) | exact HB.out)⟩⟩
 case rest =>
  clear HC5
  try clear c1
  try clear p2
  try clear c4
  try clear c6
  try clear c6b0
  try clear c7
  try clear c7b0
  try clear c8
  try clear c8b0
  try clear c9
  try clear c9b0
  try clear c10
  try clear c10b0
  obtain ⟨kq, x37_4, rfl, HA, HJ4, HB⟩ := hcut
  cases kq with
  | zero => exact absurd HA.out (by simp [laminaref11_At.j0])
  | succ kj4 =>
   have H := HA.out
   clear HA
   simp only [laminaref11_At.j0] at H
   by_cases c11 : x37_4 = true
   ·subst c11
    have H1 : (some ((⟨#[]⟩ : ByteArray), 1)) = some (r1, r2) := by rw [if_pos rfl] at H; exact H
    clear H
    have H := H1
    clear H1
    simp only [Option.some.injEq, Prod.mk.injEq] at H
    obtain ⟨rfl, rfl⟩ := H
    go_wp2
    go_ret2
    exact ⟨by first | rfl | (simp [errW_none, errW_some] <;> rfl) | (simp [*, errW_none, errW_some] <;> rfl), by repeat (first | (with_reducible first | exact HB.out | apply below_alloc | apply pw_below_drewN | apply below_drew1) | exact HB.out)⟩
   ·replace c11 := Bool.eq_false_iff.mpr c11
    subst c11
    have H1 : ((laminaref11_Decode.f kj4 l0 a1 (wrap64 (a3 + 1))).bind fun bt137 => (if bt137.2.2 = 0 then (if 0 ≤ a3 then (if a3 < (bt137.1.length : Int) then (some (rdOf ByteArray.empty bt137.1 a3, 0)) else (none)) else (none)) else (some ((⟨#[]⟩ : ByteArray), bt137.2.2)))) = some (r1, r2) := by rw [if_neg (show ¬ (false = true) by decide)] at H; exact H
    clear H
    have H := H1
    clear H1
    replace H := Option.bind_eq_some_iff.mp H
    obtain ⟨⟨t137, t138, t139⟩, A120, H⟩ := H
    replace H : (if t139 = 0 then (if 0 ≤ a3 then (if a3 < (t137.length : Int) then (some (rdOf ByteArray.empty t137 a3, 0)) else (none)) else (none)) else (some ((⟨#[]⟩ : ByteArray), t139))) = some (r1, r2) := H
    have A12 := Aside0.mk A120
    clear A120
    by_cases c13 : t139 = 0
    ·rw [if_pos c13] at H
     have c13b0 : (t139 == 0) = true := beq_iff_eq.mpr c13
     have c13b1 : (t139 != 0) = false := bne_eq_false_iff_eq.mpr c13
     clear c13
     by_cases c14 : 0 ≤ a3
     ·rw [if_pos c14] at H
      have c14b0 : decide (0 ≤ a3) = true := decide_eq_true c14
      clear c14
      by_cases c15 : a3 < (t137.length : Int)
      ·rw [if_pos c15] at H
       have c15b0 : decide (a3 < (t137.length : Int)) = true := decide_eq_true c15
       clear c15
       simp only [Option.some.injEq, Prod.mk.injEq] at H
       obtain ⟨rfl, rfl⟩ := H
       go_wp2_with (first | ((with_reducible refine gate_callee (f := 41) rfl ?_); refine goesL_ (some 43) rfl rfl Try.func41 (by kernel_rfl) rfl #[.slice A0 l0.length c0, .int .i64 a1, .int .i64 (wrap64 (a3 + 1))] rfl (by (try simp only [List.map_toArray, List.map_cons, List.map_nil]); first | done | rfl | (simp only [List.length_drop, List.length_take]; rfl)) ?_; (with_reducible refine (laminaref11_Decode.calls kj4 _ _ l0 a1 (wrap64 (a3 + 1)) t137 t138 t139 _ ?side1 ?side2 A12.out).mono ?_); (case side1 => repeat (first | exact (Kd.C_below HR0.out HB.out) | (with_reducible refine Kd.C_alloc ?_ _) | (with_reducible refine Kd.C_drewN ?_ _) | (with_reducible refine Kd.C_drew ?_))); (case side2 => exact HC0.out); rintro e w16 ⟨v140, rfl, ho0, hb⟩; refine ⟨_, rfl, ?_⟩; have n0_ := Aside0.mk (Kd.R_lower ho0 (below_size (by repeat (first | (with_reducible first | exact HB.out | apply below_alloc | apply pw_below_drewN | apply below_drew1) | exact HB.out)))); have n1_ := Aside0.mk (below_step (by repeat (first | (with_reducible first | exact HB.out | apply below_alloc | apply pw_below_drewN | apply below_drew1) | exact HB.out)) hb); clear HB; have HO141 := n0_; have HB := n1_; clear n0_ n1_; (try clear hb); (try clear hb2); (try clear hk); (try clear hi); (try clear ho0); obtain ⟨Ao17, co17, eo17⟩ := Kd.R_slice HO141.out; subst eo17; have p142 : 0 ≤ (a3 : Int) := of_decide_eq_true (by first | (with_reducible assumption) | assumption); have q142 : a3 < (t137.length : Int) := of_decide_eq_true (by first | (with_reducible assumption) | assumption); obtain ⟨ad142, e142, hx142_0⟩ := Kd.at_string (Kd.R_reads' HO141.out).2.2 a3 p142 q142; cases e142; replace p142 := eq_true p142; replace q142 := eq_true q142))
       go_ret2
       exact ⟨by first | rfl | (simp [errW_none, errW_some] <;> rfl) | (simp [*, errW_none, errW_some] <;> rfl), by repeat (first | (with_reducible first | exact HB.out | apply below_alloc | apply pw_below_drewN | apply below_drew1) | exact HB.out)⟩
      ·rw [if_neg c15] at H
       exact absurd H (by simp)
     ·rw [if_neg c14] at H
      exact absurd H (by simp)
    ·rw [if_neg c13] at H
     have c13b0 : (t139 == 0) = false := beq_eq_false_iff_ne.mpr c13
     have c13b1 : (t139 != 0) = true := bne_iff_ne.mpr c13
     simp only [Option.some.injEq, Prod.mk.injEq] at H
     obtain ⟨rfl, rfl⟩ := H
     go_wp2_with (first | ((with_reducible refine gate_callee (f := 41) rfl ?_); refine goesL_ (some 43) rfl rfl Try.func41 (by kernel_rfl) rfl #[.slice A0 l0.length c0, .int .i64 a1, .int .i64 (wrap64 (a3 + 1))] rfl (by (try simp only [List.map_toArray, List.map_cons, List.map_nil]); first | done | rfl | (simp only [List.length_drop, List.length_take]; rfl)) ?_; (with_reducible refine (laminaref11_Decode.calls kj4 _ _ l0 a1 (wrap64 (a3 + 1)) t137 t138 t139 _ ?side1 ?side2 A12.out).mono ?_); (case side1 => repeat (first | exact (Kd.C_below HR0.out HB.out) | (with_reducible refine Kd.C_alloc ?_ _) | (with_reducible refine Kd.C_drewN ?_ _) | (with_reducible refine Kd.C_drew ?_))); (case side2 => exact HC0.out); rintro e w18 ⟨v140, rfl, ho0, hb⟩; refine ⟨_, rfl, ?_⟩; have n0_ := Aside0.mk (Kd.R_lower ho0 (below_size (by repeat (first | (with_reducible first | exact HB.out | apply below_alloc | apply pw_below_drewN | apply below_drew1) | exact HB.out)))); have n1_ := Aside0.mk (below_step (by repeat (first | (with_reducible first | exact HB.out | apply below_alloc | apply pw_below_drewN | apply below_drew1) | exact HB.out)) hb); clear HB; have HO141 := n0_; have HB := n1_; clear n0_ n1_; (try clear hb); (try clear hb2); (try clear hk); (try clear hi); (try clear ho0)))
     go_ret2
     exact ⟨by first | rfl | (simp [errW_none, errW_some] <;> rfl) | (simp [*, errW_none, errW_some] <;> rfl), by repeat (first | (with_reducible first | exact HB.out | apply below_alloc | apply pw_below_drewN | apply below_drew1) | exact HB.out)⟩

-- NOT PRINTED: function 9 (laminalaw11_FrontcodeAt)

end Go.Proofs.Yteamkjphdiajeaa.QFrontcodeAt
