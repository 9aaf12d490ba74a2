-- Written by a program of this session (wip/pr2.sh): the walk of the Go text, function by function.
import Derived.Test.YteamkjphdiajeaaQFrontcodeRoundTripx0
import Derived.Test.YteamkjphdiajeaaQFrontcodeRoundTripx1
import Derived.Test.YteamkjphdiajeaaQFrontcodeRoundTripx2
import Derived.Test.YteamkjphdiajeaaQFrontcodeRoundTripx3
namespace Go.Proofs.Yteamkjphdiajeaa.QFrontcodeRoundTrip
open Go.RowKit Go.Proofs.YteamkjphdiajeaaW.PrintWords Go.Proofs.YteamkjphdiajeaaW.PrintLast Go.Proofs.YteamkjphdiajeaaW.PrintMore
open Go.Proofs.YteamkjphdiajeaaM
attribute [local go_sem] max2_int min2_int max_two min_two max_three min_three max_four min_four   -- for this text's walks alone
set_option linter.unusedVariables false
set_option linter.unusedSimpArgs false

/-! ### laminalaw11_FrontcodeRoundTrip: function 10 -/
mutual
def laminalaw11_FrontcodeRoundTrip.j0 : Nat → List Int → List ByteArray → List Int → Bool → Option (Bool)
 | 0, _, _, _, _ => none
 | k + 1, x0, x1, x2, x27 => if x27 = true then ((laminalaw11_awake.f).bind fun t134 => (some t134)) else (if ([] : List Int).length + x0.length < 140737488355328 then ((some (([] : List Int) ++ x0 : List Int)).bind fun y135 => ((frontcode_Encode.f k x1).bind fun t138 => (if y135.length + t138.length < 140737488355328 then ((some (y135 ++ t138 : List Int)).bind fun y141 => (if y141.length + x2.length < 140737488355328 then ((some (y141 ++ x2 : List Int)).bind fun y144 => ((frontcode_Decode.f k y144 (x0.length : Int) (x1.length : Int)).bind fun bt147 => (if bt147.2.2 = 0 then ((laminaref11_Same.f k bt147.1 x1).bind fun t152 => (if t152 = true then (if bt147.2.1 = (wrap64 ((y144.length : Int) - (x2.length : Int))) then ((frontcode_Size.f k x1).bind fun t153 => (laminalaw11_FrontcodeRoundTrip.j1 k x0 x1 y144 (t153 != (wrap64 (bt147.2.1 - (x0.length : Int)))))) else (laminalaw11_FrontcodeRoundTrip.j1 k x0 x1 y144 true)) else (laminalaw11_FrontcodeRoundTrip.j1 k x0 x1 y144 true))) else (laminalaw11_FrontcodeRoundTrip.j1 k x0 x1 y144 true)))) else (none))) else (none)))) else (none))
def laminalaw11_FrontcodeRoundTrip.j1 : Nat → List Int → List ByteArray → List Int → Bool → Option (Bool)
 | 0, _, _, _, _ => none
 | k + 1, x0, x1, x7, x74 => if x74 = true then (some false) else (laminalaw11_FrontcodeRoundTrip.l0 k x0 x1 x7 x1 (x1.length : Int) 0)
def laminalaw11_FrontcodeRoundTrip.l0 : Nat → List Int → List ByteArray → List Int → List ByteArray → Int → Int → Option (Bool)
 | 0, _, _, _, _, _, _ => none
 | k + 1, x0, x1, x7, x75, x76, x77 => if x77 < x76 then (if 0 ≤ x77 then (if x77 < (x75.length : Int) then ((frontcode_At.f k x7 (x0.length : Int) (x1.length : Int) x77).bind fun bt155 => (if bt155.2 = 0 then (if bt155.1.toList = (rdOf ByteArray.empty x75 x77).toList then (laminalaw11_FrontcodeRoundTrip.l0 k x0 x1 x7 x75 x76 (wrap64 (x77 + 1))) else (some false)) else (some false))) else (none)) else (none)) else ((laminalaw11_awake.f).bind fun t157 => (some t157))
end
def laminalaw11_FrontcodeRoundTrip.f (k : Nat) (l0 : List Int) (l1 : List ByteArray) (l2 : List Int) : Option (Bool) := (laminalaw11_small.f k l1).bind fun t133 => (if t133 = true then (if (l0.length : Int) > 300 then (laminalaw11_FrontcodeRoundTrip.j0 k l0 l1 l2 true) else (laminalaw11_FrontcodeRoundTrip.j0 k l0 l1 l2 (decide ((l2.length : Int) > 300)))) else (laminalaw11_FrontcodeRoundTrip.j0 k l0 l1 l2 true))
theorem laminalaw11_FrontcodeRoundTrip.mono_l : ∀ k, (∀ y0 y1 y2 y3, LeO (laminalaw11_FrontcodeRoundTrip.j0 k y0 y1 y2 y3) (laminalaw11_FrontcodeRoundTrip.j0 (k + 1) y0 y1 y2 y3)) ∧ (∀ y0 y1 y2 y3, LeO (laminalaw11_FrontcodeRoundTrip.j1 k y0 y1 y2 y3) (laminalaw11_FrontcodeRoundTrip.j1 (k + 1) y0 y1 y2 y3)) ∧ (∀ y0 y1 y2 y3 y4 y5, LeO (laminalaw11_FrontcodeRoundTrip.l0 k y0 y1 y2 y3 y4 y5) (laminalaw11_FrontcodeRoundTrip.l0 (k + 1) y0 y1 y2 y3 y4 y5))
 | 0 => ⟨fun _ _ _ _ r h => by simp [laminalaw11_FrontcodeRoundTrip.j0] at h, fun _ _ _ _ r h => by simp [laminalaw11_FrontcodeRoundTrip.j1] at h, fun _ _ _ _ _ _ r h => by simp [laminalaw11_FrontcodeRoundTrip.l0] at h⟩
 | k + 1 => by
  obtain ⟨ih0, ih1, ih2⟩ := laminalaw11_FrontcodeRoundTrip.mono_l k
  refine ⟨?_, ?_, ?_⟩
  ·intro y0 y1 y2 y3
   unfold laminalaw11_FrontcodeRoundTrip.j0
   repeat' first
   | (with_reducible exact ih0 _ _ _ _)
   | (with_reducible exact ih1 _ _ _ _)
   | (with_reducible exact ih2 _ _ _ _ _ _)
   | (with_reducible exact frontcode_At.mono _ _ _ _ _)
   | (with_reducible exact frontcode_Decode.mono _ _ _ _)
   | (with_reducible exact frontcode_Encode.mono _ _)
   | (with_reducible exact frontcode_Size.mono _ _)
   | (with_reducible exact laminalaw11_small.mono _ _)
   | (with_reducible exact laminaref11_Same.mono _ _ _)
   | (with_reducible exact LeO.refl _)
   | (with_reducible exact LeO.none _)
   | (with_reducible refine LeO.ite ?_ ?_)
   | (with_reducible refine LeO.bind ?_ (fun _ => ?_))
   | exact ih0 _ _ _ _
   | exact ih1 _ _ _ _
   | exact ih2 _ _ _ _ _ _
   | exact frontcode_At.mono _ _ _ _ _
   | exact frontcode_Decode.mono _ _ _ _
   | exact frontcode_Encode.mono _ _
   | exact frontcode_Size.mono _ _
   | exact laminalaw11_small.mono _ _
   | exact laminaref11_Same.mono _ _ _
   | exact LeO.none _
   | refine LeO.ite ?_ ?_
   | refine LeO.bind ?_ (fun _ => ?_)
  ·intro y0 y1 y2 y3
   unfold laminalaw11_FrontcodeRoundTrip.j1
   repeat' first
   | (with_reducible exact ih0 _ _ _ _)
   | (with_reducible exact ih1 _ _ _ _)
   | (with_reducible exact ih2 _ _ _ _ _ _)
   | (with_reducible exact frontcode_At.mono _ _ _ _ _)
   | (with_reducible exact frontcode_Decode.mono _ _ _ _)
   | (with_reducible exact frontcode_Encode.mono _ _)
   | (with_reducible exact frontcode_Size.mono _ _)
   | (with_reducible exact laminalaw11_small.mono _ _)
   | (with_reducible exact laminaref11_Same.mono _ _ _)
   | (with_reducible exact LeO.refl _)
   | (with_reducible exact LeO.none _)
   | (with_reducible refine LeO.ite ?_ ?_)
   | (with_reducible refine LeO.bind ?_ (fun _ => ?_))
   | exact ih0 _ _ _ _
   | exact ih1 _ _ _ _
   | exact ih2 _ _ _ _ _ _
   | exact frontcode_At.mono _ _ _ _ _
   | exact frontcode_Decode.mono _ _ _ _
   | exact frontcode_Encode.mono _ _
   | exact frontcode_Size.mono _ _
   | exact laminalaw11_small.mono _ _
   | exact laminaref11_Same.mono _ _ _
   | exact LeO.none _
   | refine LeO.ite ?_ ?_
   | refine LeO.bind ?_ (fun _ => ?_)
  ·intro y0 y1 y2 y3 y4 y5
   unfold laminalaw11_FrontcodeRoundTrip.l0
   repeat' first
   | (with_reducible exact ih0 _ _ _ _)
   | (with_reducible exact ih1 _ _ _ _)
   | (with_reducible exact ih2 _ _ _ _ _ _)
   | (with_reducible exact frontcode_At.mono _ _ _ _ _)
   | (with_reducible exact frontcode_Decode.mono _ _ _ _)
   | (with_reducible exact frontcode_Encode.mono _ _)
   | (with_reducible exact frontcode_Size.mono _ _)
   | (with_reducible exact laminalaw11_small.mono _ _)
   | (with_reducible exact laminaref11_Same.mono _ _ _)
   | (with_reducible exact LeO.refl _)
   | (with_reducible exact LeO.none _)
   | (with_reducible refine LeO.ite ?_ ?_)
   | (with_reducible refine LeO.bind ?_ (fun _ => ?_))
   | exact ih0 _ _ _ _
   | exact ih1 _ _ _ _
   | exact ih2 _ _ _ _ _ _
   | exact frontcode_At.mono _ _ _ _ _
   | exact frontcode_Decode.mono _ _ _ _
   | exact frontcode_Encode.mono _ _
   | exact frontcode_Size.mono _ _
   | exact laminalaw11_small.mono _ _
   | exact laminaref11_Same.mono _ _ _
   | exact LeO.none _
   | refine LeO.ite ?_ ?_
   | refine LeO.bind ?_ (fun _ => ?_)
theorem laminalaw11_FrontcodeRoundTrip.mono : ∀ a0 a1 a2 k, LeO (laminalaw11_FrontcodeRoundTrip.f k a0 a1 a2) (laminalaw11_FrontcodeRoundTrip.f (k + 1) a0 a1 a2) := by
 intro a0 a1 a2 k
 obtain ⟨ih0, ih1, ih2⟩ := laminalaw11_FrontcodeRoundTrip.mono_l k
 unfold laminalaw11_FrontcodeRoundTrip.f
 repeat' first
   | (with_reducible exact ih0 _ _ _ _)
   | (with_reducible exact ih1 _ _ _ _)
   | (with_reducible exact ih2 _ _ _ _ _ _)
   | (with_reducible exact frontcode_At.mono _ _ _ _ _)
   | (with_reducible exact frontcode_Decode.mono _ _ _ _)
   | (with_reducible exact frontcode_Encode.mono _ _)
   | (with_reducible exact frontcode_Size.mono _ _)
   | (with_reducible exact laminalaw11_small.mono _ _)
   | (with_reducible exact laminaref11_Same.mono _ _ _)
   | (with_reducible exact LeO.refl _)
   | (with_reducible exact LeO.none _)
   | (with_reducible refine LeO.ite ?_ ?_)
   | (with_reducible refine LeO.bind ?_ (fun _ => ?_))
   | exact ih0 _ _ _ _
   | exact ih1 _ _ _ _
   | exact ih2 _ _ _ _ _ _
   | exact frontcode_At.mono _ _ _ _ _
   | exact frontcode_Decode.mono _ _ _ _
   | exact frontcode_Encode.mono _ _
   | exact frontcode_Size.mono _ _
   | exact laminalaw11_small.mono _ _
   | exact laminaref11_Same.mono _ _ _
   | exact LeO.none _
   | refine LeO.ite ?_ ?_
   | refine LeO.bind ?_ (fun _ => ?_)
set_option maxHeartbeats 8000000 in
set_option maxRecDepth 100000 in
theorem laminalaw11_FrontcodeRoundTrip.calls (k : Nat) (A0 : Option Addr) (c0 : Nat) (l0 : List Int) (A1 : Option Addr) (c1 : Nat) (l1 : List ByteArray) (A2 : Option Addr) (c2 : Nat) (l2 : List Int) (r : Bool) (w : World) (hr0 : Kd.C (Kd.int .u8) w A0 l0.length l0) (hc0 : l0.length ≤ c0) (hr1 : Kd.C Kd.string w A1 l1.length l1) (hc1 : l1.length ≤ c1) (hr2 : Kd.C (Kd.int .u8) w A2 l2.length l2) (hc2 : l2.length ≤ c2) (h : laminalaw11_FrontcodeRoundTrip.f k l0 l1 l2 = some r) (hr0 : r = true) :
  Calls Try.prog 10 #[.slice A0 l0.length c0, .slice A1 l1.length c1, .slice A2 l2.length c2] w fun e w' => e = .returned (.bool r) ∧ Below w.heap.size w w' := by
 have hr_ := Aside0.mk hr0
 clear hr0
 have HR0 := Aside0.mk hr0
 have HC0 := Aside0.mk hc0
 clear hr0 hc0
 have HR1 := Aside0.mk hr1
 have HC1 := Aside0.mk hc1
 clear hr1 hc1
 have HR2 := Aside0.mk hr2
 have HC2 := Aside0.mk hc2
 clear hr2 hc2
 have HB := Aside0.mk (Below.refl w.heap.size w)
 have H : ((laminalaw11_small.f k l1).bind fun t133 => (if t133 = true then (if (l0.length : Int) > 300 then (laminalaw11_FrontcodeRoundTrip.j0 k l0 l1 l2 true) else (laminalaw11_FrontcodeRoundTrip.j0 k l0 l1 l2 (decide ((l2.length : Int) > 300)))) else (laminalaw11_FrontcodeRoundTrip.j0 k l0 l1 l2 true))) = some r := h
 clear h
 have HC4 := Aside0.mk H
 clear H
 go_enter Try.func10, Try.ntmps10
 go_upto_region 1 with (fail)
 go_cut [27] (fun v27 wc => ∃ (kq : Nat) (x27_3 : Bool), v27 = .bool x27_3 ∧ Aside0 (laminalaw11_FrontcodeRoundTrip.j0 kq l0 l1 l2 x27_3 = some r) ∧ Aside0 (kq ≤ k) ∧ Aside0 (Below w.heap.size w wc))
 case first =>
  have H := HC4.out
  clear HC4
  replace H := Option.bind_eq_some_iff.mp H
  obtain ⟨t133, A50, H⟩ := H
  replace H : (if t133 = true then (if (l0.length : Int) > 300 then (laminalaw11_FrontcodeRoundTrip.j0 k l0 l1 l2 true) else (laminalaw11_FrontcodeRoundTrip.j0 k l0 l1 l2 (decide ((l2.length : Int) > 300)))) else (laminalaw11_FrontcodeRoundTrip.j0 k l0 l1 l2 true)) = some r := H
  have A5 := Aside0.mk A50
  clear A50
  by_cases c6 : t133 = true
  ·subst c6
   have H1 : (if (l0.length : Int) > 300 then (laminalaw11_FrontcodeRoundTrip.j0 k l0 l1 l2 true) else (laminalaw11_FrontcodeRoundTrip.j0 k l0 l1 l2 (decide ((l2.length : Int) > 300)))) = some r := by rw [if_pos rfl] at H; exact H
   clear H
   have H := H1
   clear H1
   by_cases c7 : (l0.length : Int) > 300
   ·rw [if_pos c7] at H
    have c7b0 : decide (300 < (l0.length : Int)) = true := decide_eq_true c7
    have c7b1 : decide (300 < l0.length) = true := decide_eq_true (by omega)
    clear c7
    (first | rw [c7b0] | (simp only [i64_w, i32_w]; rw [c7b0]) | skip)
    have H' := Aside0.mk H
    clear H
    go_wp2_with (first | ((with_reducible refine gate_callee (f := 32) rfl ?_); refine goesL_ (some 16) rfl rfl Try.func32 (by kernel_rfl) rfl #[.slice A1 l1.length c1] rfl (by (try simp only [List.map_toArray, List.map_cons, List.map_nil]); first | done | rfl | (simp only [List.length_drop, List.length_take]; rfl)) ?_; (with_reducible refine (laminalaw11_small.calls k _ _ l1 true _ ?side1 ?side2 A5.out).mono ?_); (case side1 => repeat (first | exact (Kd.C_below HR1.out HB.out) | (with_reducible refine Kd.C_alloc ?_ _) | (with_reducible refine Kd.C_drewN ?_ _) | (with_reducible refine Kd.C_drew ?_))); (case side2 => exact HC1.out); rintro e w' ⟨rfl, ⟨nd, rfl⟩⟩; refine ⟨_, rfl, ?_⟩))
    go_meet
    case rel => exact ⟨_, (true), (by first | rfl | (simp; done) | (simp [*]; done)), H', ⟨by first | omega | exact Nat.le_refl _⟩, ⟨by repeat (first | (with_reducible first | exact HB.out | apply below_alloc | apply pw_below_drewN | apply below_drew1) | exact HB.out)⟩⟩
   ·rw [if_neg c7] at H
    have c7b0 : decide (300 < (l0.length : Int)) = false := decide_eq_false c7
    have c7b1 : decide (300 < l0.length) = false := decide_eq_false (by omega)
    clear c7
    (first | rw [c7b0] | (simp only [i64_w, i32_w]; rw [c7b0]) | skip)
    have H' := Aside0.mk H
    clear H
    go_wp2_with (first | ((with_reducible refine gate_callee (f := 32) rfl ?_); refine goesL_ (some 16) rfl rfl Try.func32 (by kernel_rfl) rfl #[.slice A1 l1.length c1] rfl (by (try simp only [List.map_toArray, List.map_cons, List.map_nil]); first | done | rfl | (simp only [List.length_drop, List.length_take]; rfl)) ?_; (with_reducible refine (laminalaw11_small.calls k _ _ l1 true _ ?side1 ?side2 A5.out).mono ?_); (case side1 => repeat (first | exact (Kd.C_below HR1.out HB.out) | (with_reducible refine Kd.C_alloc ?_ _) | (with_reducible refine Kd.C_drewN ?_ _) | (with_reducible refine Kd.C_drew ?_))); (case side2 => exact HC1.out); rintro e w' ⟨rfl, ⟨nd, rfl⟩⟩; refine ⟨_, rfl, ?_⟩))
    go_meet
    case rel => exact ⟨_, (decide ((l2.length : Int) > 300)), (by first | rfl | (simp; done) | (simp [*]; done)), H', ⟨by first | omega | exact Nat.le_refl _⟩, ⟨by repeat (first | (with_reducible first | exact HB.out | apply below_alloc | apply pw_below_drewN | apply below_drew1) | exact HB.out)⟩⟩
  ·replace c6 := Bool.eq_false_iff.mpr c6
   subst c6
   have H1 : (laminalaw11_FrontcodeRoundTrip.j0 k l0 l1 l2 true) = some r := by rw [if_neg (show ¬ (false = true) by decide)] at H; exact H
   clear H
   have H := H1
   clear H1
   have H' := Aside0.mk H
   clear H
   go_wp2_with (first | ((with_reducible refine gate_callee (f := 32) rfl ?_); refine goesL_ (some 16) rfl rfl Try.func32 (by kernel_rfl) rfl #[.slice A1 l1.length c1] rfl (by (try simp only [List.map_toArray, List.map_cons, List.map_nil]); first | done | rfl | (simp only [List.length_drop, List.length_take]; rfl)) ?_; (with_reducible refine (laminalaw11_small.calls k _ _ l1 false _ ?side1 ?side2 A5.out).mono ?_); (case side1 => repeat (first | exact (Kd.C_below HR1.out HB.out) | (with_reducible refine Kd.C_alloc ?_ _) | (with_reducible refine Kd.C_drewN ?_ _) | (with_reducible refine Kd.C_drew ?_))); (case side2 => exact HC1.out); rintro e w' ⟨rfl, ⟨nd, rfl⟩⟩; refine ⟨_, rfl, ?_⟩))
   go_meet
   case rel => exact ⟨_, (true), (by first | rfl | (simp; done) | (simp [*]; done)), H', ⟨by first | omega | exact Nat.le_refl _⟩, ⟨by repeat (first | (with_reducible first | exact HB.out | apply below_alloc | apply pw_below_drewN | apply below_drew1) | exact HB.out)⟩⟩
 case rest =>
  clear HC4
  try clear c1
  try clear c2
  try clear p2
  try clear c3
  try clear c6
  try clear c7
  try clear c7b0
  try clear c7b1
  obtain ⟨kq, x27_3, rfl, HA, HJ3, HB⟩ := hcut
  cases kq with
  | zero => exact absurd HA.out (by simp [laminalaw11_FrontcodeRoundTrip.j0])
  | succ kj3 =>
   have H := HA.out
   clear HA
   simp only [laminalaw11_FrontcodeRoundTrip.j0] at H
   by_cases c8 : x27_3 = true
   ·subst c8
    have H1 : ((laminalaw11_awake.f).bind fun t134 => (some t134)) = some r := by rw [if_pos rfl] at H; exact H
    clear H
    have H := H1
    clear H1
    replace H := Option.bind_eq_some_iff.mp H
    obtain ⟨t134, A90, H⟩ := H
    replace H : (some t134) = some r := H
    have A9 := Aside0.mk A90
    clear A90
    obtain rfl := Option.some.inj H
    go_wp2_with (first | ((with_reducible refine gate_callee (f := 33) rfl ?_); refine goesL_ (some 28) rfl rfl Try.func33 (by kernel_rfl) rfl #[] rfl (by (try simp only [List.map_toArray, List.map_cons, List.map_nil]); first | done | rfl | (simp only [List.length_drop, List.length_take]; rfl)) ?_; (with_reducible refine (laminalaw11_awake.calls  t134 _ A9.out).mono ?_); rintro e w10 ⟨rfl, hb⟩; refine ⟨_, rfl, ?_⟩; have n0_ := Aside0.mk (below_step (by repeat (first | (with_reducible first | exact HB.out | apply below_alloc | apply pw_below_drewN | apply below_drew1) | exact HB.out)) hb); clear HB; have HB := n0_; clear n0_; (try clear hb); (try clear hb2); (try clear hk); (try clear hi)))
    go_ret
    exact ⟨by first | rfl | (simp [errW_none, errW_some] <;> rfl) | (simp [*, errW_none, errW_some] <;> rfl), by repeat (first | (with_reducible first | exact HB.out | apply below_alloc | apply pw_below_drewN | apply below_drew1) | exact HB.out)⟩
   ·replace c8 := Bool.eq_false_iff.mpr c8
    subst c8
    have H1 : (if ([] : List Int).length + l0.length < 140737488355328 then ((some (([] : List Int) ++ l0 : List Int)).bind fun y135 => ((frontcode_Encode.f kj3 l1).bind fun t138 => (if y135.length + t138.length < 140737488355328 then ((some (y135 ++ t138 : List Int)).bind fun y141 => (if y141.length + l2.length < 140737488355328 then ((some (y141 ++ l2 : List Int)).bind fun y144 => ((frontcode_Decode.f kj3 y144 (l0.length : Int) (l1.length : Int)).bind fun bt147 => (if bt147.2.2 = 0 then ((laminaref11_Same.f kj3 bt147.1 l1).bind fun t152 => (if t152 = true then (if bt147.2.1 = (wrap64 ((y144.length : Int) - (l2.length : Int))) then ((frontcode_Size.f kj3 l1).bind fun t153 => (laminalaw11_FrontcodeRoundTrip.j1 kj3 l0 l1 y144 (t153 != (wrap64 (bt147.2.1 - (l0.length : Int)))))) else (laminalaw11_FrontcodeRoundTrip.j1 kj3 l0 l1 y144 true)) else (laminalaw11_FrontcodeRoundTrip.j1 kj3 l0 l1 y144 true))) else (laminalaw11_FrontcodeRoundTrip.j1 kj3 l0 l1 y144 true)))) else (none))) else (none)))) else (none)) = some r := by rw [if_neg (show ¬ (false = true) by decide)] at H; exact H
    clear H
    have H := H1
    clear H1
    by_cases c11 : ([] : List Int).length + l0.length < 140737488355328
    ·rw [if_pos c11] at H
     have LMc11 := Aside0.mk c11
     clear c11
     obtain ⟨y135, hy135⟩ : ∃ y_ : List Int, y_ = (([] : List Int) ++ l0) := ⟨_, rfl⟩
     replace H : ((frontcode_Encode.f kj3 l1).bind fun t138 => (if y135.length + t138.length < 140737488355328 then ((some (y135 ++ t138 : List Int)).bind fun y141 => (if y141.length + l2.length < 140737488355328 then ((some (y141 ++ l2 : List Int)).bind fun y144 => ((frontcode_Decode.f kj3 y144 (l0.length : Int) (l1.length : Int)).bind fun bt147 => (if bt147.2.2 = 0 then ((laminaref11_Same.f kj3 bt147.1 l1).bind fun t152 => (if t152 = true then (if bt147.2.1 = (wrap64 ((y144.length : Int) - (l2.length : Int))) then ((frontcode_Size.f kj3 l1).bind fun t153 => (laminalaw11_FrontcodeRoundTrip.j1 kj3 l0 l1 y144 (t153 != (wrap64 (bt147.2.1 - (l0.length : Int)))))) else (laminalaw11_FrontcodeRoundTrip.j1 kj3 l0 l1 y144 true)) else (laminalaw11_FrontcodeRoundTrip.j1 kj3 l0 l1 y144 true))) else (laminalaw11_FrontcodeRoundTrip.j1 kj3 l0 l1 y144 true)))) else (none))) else (none))) = some r := by first | (rw [hy135]; with_reducible exact H) | (have H2_ := (Option.bind_some _ _).symm.trans H; rw [hy135]; with_reducible exact H2_) | (have H2_ := (Option.bind_some _ _).symm.trans H; with_reducible exact H2_) | with_reducible exact H | (rw [hy135]; exact H) | exact H
     have Ny135 := Aside0.mk hy135
     clear hy135
     replace H := Option.bind_eq_some_iff.mp H
     obtain ⟨t138, A120, H⟩ := H
     replace H : (if y135.length + t138.length < 140737488355328 then ((some (y135 ++ t138 : List Int)).bind fun y141 => (if y141.length + l2.length < 140737488355328 then ((some (y141 ++ l2 : List Int)).bind fun y144 => ((frontcode_Decode.f kj3 y144 (l0.length : Int) (l1.length : Int)).bind fun bt147 => (if bt147.2.2 = 0 then ((laminaref11_Same.f kj3 bt147.1 l1).bind fun t152 => (if t152 = true then (if bt147.2.1 = (wrap64 ((y144.length : Int) - (l2.length : Int))) then ((frontcode_Size.f kj3 l1).bind fun t153 => (laminalaw11_FrontcodeRoundTrip.j1 kj3 l0 l1 y144 (t153 != (wrap64 (bt147.2.1 - (l0.length : Int)))))) else (laminalaw11_FrontcodeRoundTrip.j1 kj3 l0 l1 y144 true)) else (laminalaw11_FrontcodeRoundTrip.j1 kj3 l0 l1 y144 true))) else (laminalaw11_FrontcodeRoundTrip.j1 kj3 l0 l1 y144 true)))) else (none))) else (none)) = some r := H
     have A12 := Aside0.mk A120
     clear A120
     by_cases c13 : y135.length + t138.length < 140737488355328
     ·rw [if_pos c13] at H
      have LMc13 := Aside0.mk c13
      clear c13
      obtain ⟨y141, hy141⟩ : ∃ y_ : List Int, y_ = (y135 ++ t138) := ⟨_, rfl⟩
      replace H : (if y141.length + l2.length < 140737488355328 then ((some (y141 ++ l2 : List Int)).bind fun y144 => ((frontcode_Decode.f kj3 y144 (l0.length : Int) (l1.length : Int)).bind fun bt147 => (if bt147.2.2 = 0 then ((laminaref11_Same.f kj3 bt147.1 l1).bind fun t152 => (if t152 = true then (if bt147.2.1 = (wrap64 ((y144.length : Int) - (l2.length : Int))) then ((frontcode_Size.f kj3 l1).bind fun t153 => (laminalaw11_FrontcodeRoundTrip.j1 kj3 l0 l1 y144 (t153 != (wrap64 (bt147.2.1 - (l0.length : Int)))))) else (laminalaw11_FrontcodeRoundTrip.j1 kj3 l0 l1 y144 true)) else (laminalaw11_FrontcodeRoundTrip.j1 kj3 l0 l1 y144 true))) else (laminalaw11_FrontcodeRoundTrip.j1 kj3 l0 l1 y144 true)))) else (none)) = some r := by first | (rw [hy141]; with_reducible exact H) | (have H2_ := (Option.bind_some _ _).symm.trans H; rw [hy141]; with_reducible exact H2_) | (have H2_ := (Option.bind_some _ _).symm.trans H; with_reducible exact H2_) | with_reducible exact H | (rw [hy141]; exact H) | exact H
      have Ny141 := Aside0.mk hy141
      clear hy141
      by_cases c14 : y141.length + l2.length < 140737488355328
      ·rw [if_pos c14] at H
       have LMc14 := Aside0.mk c14
       clear c14
       obtain ⟨y144, hy144⟩ : ∃ y_ : List Int, y_ = (y141 ++ l2) := ⟨_, rfl⟩
       replace H : ((frontcode_Decode.f kj3 y144 (l0.length : Int) (l1.length : Int)).bind fun bt147 => (if bt147.2.2 = 0 then ((laminaref11_Same.f kj3 bt147.1 l1).bind fun t152 => (if t152 = true then (if bt147.2.1 = (wrap64 ((y144.length : Int) - (l2.length : Int))) then ((frontcode_Size.f kj3 l1).bind fun t153 => (laminalaw11_FrontcodeRoundTrip.j1 kj3 l0 l1 y144 (t153 != (wrap64 (bt147.2.1 - (l0.length : Int)))))) else (laminalaw11_FrontcodeRoundTrip.j1 kj3 l0 l1 y144 true)) else (laminalaw11_FrontcodeRoundTrip.j1 kj3 l0 l1 y144 true))) else (laminalaw11_FrontcodeRoundTrip.j1 kj3 l0 l1 y144 true))) = some r := by first | (rw [hy144]; with_reducible exact H) | (have H2_ := (Option.bind_some _ _).symm.trans H; rw [hy144]; with_reducible exact H2_) | (have H2_ := (Option.bind_some _ _).symm.trans H; with_reducible exact H2_) | with_reducible exact H | (rw [hy144]; exact H) | exact H
       have Ny144 := Aside0.mk hy144
       clear hy144
       replace H := Option.bind_eq_some_iff.mp H
       obtain ⟨⟨t147, t148, t149⟩, A150, H⟩ := H
       replace H : (if t149 = 0 then ((laminaref11_Same.f kj3 t147 l1).bind fun t152 => (if t152 = true then (if t148 = (wrap64 ((y144.length : Int) - (l2.length : Int))) then ((frontcode_Size.f kj3 l1).bind fun t153 => (laminalaw11_FrontcodeRoundTrip.j1 kj3 l0 l1 y144 (t153 != (wrap64 (t148 - (l0.length : Int)))))) else (laminalaw11_FrontcodeRoundTrip.j1 kj3 l0 l1 y144 true)) else (laminalaw11_FrontcodeRoundTrip.j1 kj3 l0 l1 y144 true))) else (laminalaw11_FrontcodeRoundTrip.j1 kj3 l0 l1 y144 true)) = some r := H
       have A15 := Aside0.mk A150
       clear A150
       have HC16 := Aside0.mk H
       clear H
       go_upto_region 8 with (first | ((with_reducible refine gate_builtin (b := .append) (xs := #[.tmp 29, .tmp 30]) rfl ?_); (try (refine gate_guard (by rfl) ?_; dsimp only)); at_builtin; refine Kd.R_append_rows (Kd.int .u8) (w0 := w) w.heap.size rfl (.tmp 29) (.tmp 30) 51 5 (.int .u8 0) 1 rfl Try.underlying51 info5 rfl (by decide) (by omega) (.slice none 0 0) ([] : List Int) l0 _ _ _ (fun _ => True) (fun _ => False) rfl rfl ?aO ?aR (fun _ _ h => h) (fun _ h => h.elim) ?aF ?aB ?aS ?aL ?_; (case aR => repeat (first | exact (Kd.C_below HR0.out HB.out) | (with_reducible refine Kd.C_alloc ?_ _) | (with_reducible refine Kd.C_drewN ?_ _) | (with_reducible refine Kd.C_drew ?_))); (case aB => exact (by repeat (first | (with_reducible first | exact HB.out | apply below_alloc | apply pw_below_drewN | apply below_drew1) | exact HB.out))); (case aF => exact (fun _ _ => trivial)); (case aO => exact ((Kd.R_nil _ _ _ _ (fun _ => True)))); (case aS => exact (below_size (by repeat (first | (with_reducible first | exact HB.out | apply below_alloc | apply pw_below_drewN | apply below_drew1) | exact HB.out)))); (case aL => have := LMc11.out; omega); intro v136 w17 ho hb hg hat; rw [← Ny135.out] at ho; have n0_ := Aside0.mk (hb); have n1_ := Aside0.mk (ho); clear HB; have HB := n0_; have HO137 := n1_; clear n0_ n1_; clear ho hb hg hat) | ((with_reducible refine gate_callee (f := 36) rfl ?_); refine goesL_ (some 34) rfl rfl Try.func36 (by kernel_rfl) rfl #[.slice A1 l1.length c1] rfl (by (try simp only [List.map_toArray, List.map_cons, List.map_nil]); first | done | rfl | (simp only [List.length_drop, List.length_take]; rfl)) ?_; (with_reducible refine (frontcode_Encode.calls kj3 _ _ l1 t138 _ ?side1 ?side2 A12.out).mono ?_); (case side1 => repeat (first | exact (Kd.C_below HR1.out HB.out) | (with_reducible refine Kd.C_alloc ?_ _) | (with_reducible refine Kd.C_drewN ?_ _) | (with_reducible refine Kd.C_drew ?_))); (case side2 => exact HC1.out); rintro e w18 ⟨v139, rfl, ho0, hb⟩; refine ⟨_, rfl, ?_⟩; have n0_ := Aside0.mk (Kd.R_elder' (by (with_reducible repeat (first | apply Kd.R_alloc | apply Kd.R_drewN | apply Kd.R_drew)); exact HO137.out) (Kd.R_base ho0) hb); have n1_ := Aside0.mk (Kd.R_lower (Kd.R_new' ho0 (Kd.R_lt (by (with_reducible repeat (first | apply Kd.R_alloc | apply Kd.R_drewN | apply Kd.R_drew)); exact HO137.out))) (below_size (by repeat (first | (with_reducible first | exact HB.out | apply below_alloc | apply pw_below_drewN | apply below_drew1) | exact HB.out)))); have n2_ := Aside0.mk (below_step (by repeat (first | (with_reducible first | exact HB.out | apply below_alloc | apply pw_below_drewN | apply below_drew1) | exact HB.out)) hb); clear HO137; clear HB; have HO137 := n0_; have HO140 := n1_; have HB := n2_; clear n0_ n1_ n2_; (try clear hb); (try clear hb2); (try clear hk); (try clear hi); (try clear ho0); obtain ⟨Ao20, co20, eo20⟩ := Kd.R_slice HO140.out; subst eo20) | ((with_reducible refine gate_builtin (b := .append) (xs := #[.tmp 32, .tmp 34]) rfl ?_); (try (refine gate_guard (by rfl) ?_; dsimp only)); at_builtin; refine Kd.R_append_rows (Kd.int .u8) (w0 := w) w.heap.size rfl (.tmp 32) (.tmp 34) 51 5 (.int .u8 0) 1 rfl Try.underlying51 info5 rfl (by decide) (by omega) v136 y135 t138 _ _ _ (fun k_ => some k_ ≠ (.slice Ao20 t138.length co20 : Value).ownBlock) (fun _ => False) rfl rfl ?aO ?aR (fun _ _ h => h) (fun _ h => h.elim) ?aF ?aB ?aS ?aL ?_; (case aR => repeat (first | exact (Kd.R_reads' HO140.out).2.2 | (with_reducible refine Kd.C_alloc ?_ _) | (with_reducible refine Kd.C_drewN ?_ _) | (with_reducible refine Kd.C_drew ?_))); (case aB => exact (by repeat (first | (with_reducible first | exact HB.out | apply below_alloc | apply pw_below_drewN | apply below_drew1) | exact HB.out))); (case aF => exact (fun k_ hk => Kd.fresh' (Kd.R_lt (by (with_reducible repeat (first | apply Kd.R_alloc | apply Kd.R_drewN | apply Kd.R_drew)); exact HO140.out)) k_ hk)); (case aO => exact (by (with_reducible repeat (first | apply Kd.R_alloc | apply Kd.R_drewN | apply Kd.R_drew)); exact Kd.R_mono HO137.out (fun _ hk => hk.2))); (case aS => exact (below_size (by repeat (first | (with_reducible first | exact HB.out | apply below_alloc | apply pw_below_drewN | apply below_drew1) | exact HB.out)))); (case aL => have := LMc13.out; omega); intro v142 w19 ho hb hg hat; rw [← Ny141.out] at ho; have n0_ := Aside0.mk (Kd.R_after (ok := (fun _ => True)) (by (with_reducible repeat (first | apply Kd.R_alloc | apply Kd.R_drewN | apply Kd.R_drew)); exact HO140.out) hg hat); have n1_ := Aside0.mk (hb); have n2_ := Aside0.mk (ho); clear HO140; clear HB; clear HO137; have HO140 := n0_; have HB := n1_; have HO143 := n2_; clear n0_ n1_ n2_; clear ho hb hg hat) | ((with_reducible refine gate_builtin (b := .append) (xs := #[.tmp 36, .tmp 37]) rfl ?_); (try (refine gate_guard (by rfl) ?_; dsimp only)); at_builtin; refine Kd.R_append_rows (Kd.int .u8) (w0 := w) w.heap.size rfl (.tmp 36) (.tmp 37) 51 5 (.int .u8 0) 1 rfl Try.underlying51 info5 rfl (by decide) (by omega) v142 y141 l2 _ _ _ (fun k_ => some k_ ≠ (.slice Ao20 t138.length co20 : Value).ownBlock) (fun _ => False) rfl rfl ?aO ?aR (fun _ _ h => h) (fun _ h => h.elim) ?aF ?aB ?aS ?aL ?_; (case aR => repeat (first | exact (Kd.C_below HR2.out HB.out) | (with_reducible refine Kd.C_alloc ?_ _) | (with_reducible refine Kd.C_drewN ?_ _) | (with_reducible refine Kd.C_drew ?_))); (case aB => exact (by repeat (first | (with_reducible first | exact HB.out | apply below_alloc | apply pw_below_drewN | apply below_drew1) | exact HB.out))); (case aF => exact (fun k_ hk => Kd.fresh' (Kd.R_lt (by (with_reducible repeat (first | apply Kd.R_alloc | apply Kd.R_drewN | apply Kd.R_drew)); exact HO140.out)) k_ hk)); (case aO => exact (by (with_reducible repeat (first | apply Kd.R_alloc | apply Kd.R_drewN | apply Kd.R_drew)); exact HO143.out)); (case aS => exact (below_size (by repeat (first | (with_reducible first | exact HB.out | apply below_alloc | apply pw_below_drewN | apply below_drew1) | exact HB.out)))); (case aL => have := LMc14.out; omega); intro v145 w21 ho hb hg hat; rw [← Ny144.out] at ho; have n0_ := Aside0.mk (Kd.R_after (ok := (fun _ => True)) (by (with_reducible repeat (first | apply Kd.R_alloc | apply Kd.R_drewN | apply Kd.R_drew)); exact HO140.out) hg hat); have n1_ := Aside0.mk (hb); have n2_ := Aside0.mk (ho); clear HO140; clear HB; clear HO143; have HO140 := n0_; have HB := n1_; have HO146 := n2_; clear n0_ n1_ n2_; clear ho hb hg hat; obtain ⟨Ao22, co22, eo22⟩ := Kd.R_slice HO146.out; subst eo22) | ((with_reducible refine gate_callee (f := 40) rfl ?_); refine goesL_ (some 45) rfl rfl Try.func40 (by kernel_rfl) rfl #[.slice Ao22 y144.length co22, .int .i64 (l0.length : Int), .int .i64 (l1.length : Int)] rfl (by (try simp only [List.map_toArray, List.map_cons, List.map_nil]); first | done | rfl | (simp only [List.length_drop, List.length_take]; rfl)) ?_; (with_reducible refine (frontcode_Decode.calls kj3 _ _ y144 (l0.length : Int) (l1.length : Int) t147 t148 t149 _ ?side1 ?side2 A15.out).mono ?_); (case side1 => repeat (first | exact (Kd.R_reads' HO146.out).2.2 | (with_reducible refine Kd.C_alloc ?_ _) | (with_reducible refine Kd.C_drewN ?_ _) | (with_reducible refine Kd.C_drew ?_))); (case side2 => exact (Kd.R_reads' HO146.out).2.1); rintro e w23 ⟨v150, rfl, ho0, hb⟩; refine ⟨_, rfl, ?_⟩; have n0_ := Aside0.mk (Kd.R_below (by (with_reducible repeat (first | apply Kd.R_alloc | apply Kd.R_drewN | apply Kd.R_drew)); exact HO140.out) hb); have n1_ := Aside0.mk (Kd.R_below (by (with_reducible repeat (first | apply Kd.R_alloc | apply Kd.R_drewN | apply Kd.R_drew)); exact HO146.out) hb); have n2_ := Aside0.mk (Kd.R_lower ho0 (below_size (by repeat (first | (with_reducible first | exact HB.out | apply below_alloc | apply pw_below_drewN | apply below_drew1) | exact HB.out)))); have n3_ := Aside0.mk (below_step (by repeat (first | (with_reducible first | exact HB.out | apply below_alloc | apply pw_below_drewN | apply below_drew1) | exact HB.out)) hb); clear HO140; clear HO146; clear HB; have HO140 := n0_; have HO146 := n1_; have HO151 := n2_; have HB := n3_; clear n0_ n1_ n2_ n3_; (try clear hb); (try clear hb2); (try clear hk); (try clear hi); (try clear ho0)))
       (try simp only [Act.put, List.setIfInBounds_toArray, List.set_cons_zero, List.set_cons_succ])
       go_cut [74] (fun v74 wc => ∃ (kq : Nat) (x74_15 : Bool), v74 = .bool x74_15 ∧ Aside0 (laminalaw11_FrontcodeRoundTrip.j1 kq l0 l1 y144 x74_15 = some r) ∧ Aside0 (kq ≤ kj3) ∧ Aside0 (Kd.R (Kd.int .u8) 5 wc w.heap.size (fun _ => True) (.slice Ao22 y144.length co22) y144) ∧ Aside0 (Below w.heap.size w wc))
       case first =>
        have H := HC16.out
        clear HC16
        by_cases c24 : t149 = 0
        ·rw [if_pos c24] at H
         have c24b0 : (t149 == 0) = true := beq_iff_eq.mpr c24
         have c24b1 : (t149 != 0) = false := bne_eq_false_iff_eq.mpr c24
         clear c24
         (first | rw [c24b0] | (simp only [i64_w, i32_w]; rw [c24b0]) | skip)
         replace H := Option.bind_eq_some_iff.mp H
         obtain ⟨t152, A250, H⟩ := H
         replace H : (if t152 = true then (if t148 = (wrap64 ((y144.length : Int) - (l2.length : Int))) then ((frontcode_Size.f kj3 l1).bind fun t153 => (laminalaw11_FrontcodeRoundTrip.j1 kj3 l0 l1 y144 (t153 != (wrap64 (t148 - (l0.length : Int)))))) else (laminalaw11_FrontcodeRoundTrip.j1 kj3 l0 l1 y144 true)) else (laminalaw11_FrontcodeRoundTrip.j1 kj3 l0 l1 y144 true)) = some r := H
         have A25 := Aside0.mk A250
         clear A250
         by_cases c26 : t152 = true
         ·subst c26
          have H1 : (if t148 = (wrap64 ((y144.length : Int) - (l2.length : Int))) then ((frontcode_Size.f kj3 l1).bind fun t153 => (laminalaw11_FrontcodeRoundTrip.j1 kj3 l0 l1 y144 (t153 != (wrap64 (t148 - (l0.length : Int)))))) else (laminalaw11_FrontcodeRoundTrip.j1 kj3 l0 l1 y144 true)) = some r := by rw [if_pos rfl] at H; exact H
          clear H
          have H := H1
          clear H1
          by_cases c27 : t148 = (wrap64 ((y144.length : Int) - (l2.length : Int)))
          ·rw [if_pos c27] at H
           have c27b0 : (t148 == (wrap64 ((y144.length : Int) - (l2.length : Int)))) = true := beq_iff_eq.mpr c27
           have c27b1 : (t148 != (wrap64 ((y144.length : Int) - (l2.length : Int)))) = false := bne_eq_false_iff_eq.mpr c27
           clear c27
           replace H := Option.bind_eq_some_iff.mp H
           obtain ⟨t153, A280, H⟩ := H
           replace H : (laminalaw11_FrontcodeRoundTrip.j1 kj3 l0 l1 y144 (t153 != (wrap64 (t148 - (l0.length : Int))))) = some r := H
           have A28 := Aside0.mk A280
           clear A280
           have H' := Aside0.mk H
           clear H
           obtain ⟨Ao29, co29, eo29⟩ := Kd.R_slice HO151.out
           subst eo29
           go_wp2_with (first | (go_at_call 42; (with_reducible refine (laminaref11_Same.calls kj3 _ _ t147 _ _ l1 true _ ?side1 ?side2 ?side3 ?side4 A25.out).mono ?_); (case side1 => repeat (first | exact (Kd.R_reads' HO151.out).2.2 | (with_reducible refine Kd.C_alloc ?_ _) | (with_reducible refine Kd.C_drewN ?_ _) | (with_reducible refine Kd.C_drew ?_))); (case side2 => exact (Kd.R_reads' HO151.out).2.1); (case side3 => repeat (first | exact (Kd.C_below HR1.out HB.out) | (with_reducible refine Kd.C_alloc ?_ _) | (with_reducible refine Kd.C_drewN ?_ _) | (with_reducible refine Kd.C_drew ?_))); (case side4 => exact HC1.out); rintro e w' ⟨rfl, ⟨nd, rfl⟩⟩; (try clear A25)) | (go_at_call 38; (with_reducible refine (frontcode_Size.calls kj3 _ _ l1 t153 _ ?side1 ?side2 A28.out).mono ?_); (case side1 => repeat (first | exact (Kd.C_below HR1.out (by repeat (first | (with_reducible first | exact HB.out | apply below_alloc | apply pw_below_drewN | apply below_drew1) | exact HB.out))) | (with_reducible refine Kd.C_alloc ?_ _) | (with_reducible refine Kd.C_drewN ?_ _) | (with_reducible refine Kd.C_drew ?_))); (case side2 => exact HC1.out); rintro e w30 ⟨rfl, hb⟩; have n0_ := Aside0.mk (Kd.R_below (by (with_reducible repeat (first | apply Kd.R_alloc | apply Kd.R_drewN | apply Kd.R_drew)); exact HO140.out) hb); have n1_ := Aside0.mk (Kd.R_below (by (with_reducible repeat (first | apply Kd.R_alloc | apply Kd.R_drewN | apply Kd.R_drew)); exact HO146.out) hb); have n2_ := Aside0.mk (Kd.R_below (by (with_reducible repeat (first | apply Kd.R_alloc | apply Kd.R_drewN | apply Kd.R_drew)); exact HO151.out) hb); have n3_ := Aside0.mk (below_step (by repeat (first | (with_reducible first | exact HB.out | apply below_alloc | apply pw_below_drewN | apply below_drew1) | exact HB.out)) hb); clear HO140; clear HO146; clear HO151; clear HB; have HO140 := n0_; have HO146 := n1_; have HO151 := n2_; have HB := n3_; clear n0_ n1_ n2_ n3_; (try clear hb); (try clear hb2); (try clear hk); (try clear hi)))
           go_meet
           case rel => exact ⟨_, ((t153 != (wrap64 (t148 - (l0.length : Int))))), (by first | rfl | (simp; done) | (simp [*]; done)), H', ⟨by have := HJ3.out; first | omega | exact Nat.le_refl _⟩, ⟨by (with_reducible repeat (first | apply Kd.R_alloc | apply Kd.R_drewN | apply Kd.R_drew)); exact Kd.R_mono HO146.out (fun _ hk => trivial)⟩, ⟨by repeat (first | (with_reducible first | exact HB.out | apply below_alloc | apply pw_below_drewN | apply below_drew1) | exact HB.out)⟩⟩
          ·rw [if_neg c27] at H
           have c27b0 : (t148 == (wrap64 ((y144.length : Int) - (l2.length : Int)))) = false := beq_eq_false_iff_ne.mpr c27
           have c27b1 : (t148 != (wrap64 ((y144.length : Int) - (l2.length : Int)))) = true := bne_iff_ne.mpr c27
           have H' := Aside0.mk H
           clear H
           obtain ⟨Ao31, co31, eo31⟩ := Kd.R_slice HO151.out
           subst eo31
           go_wp2_with (first | (go_at_call 42; (with_reducible refine (laminaref11_Same.calls kj3 _ _ t147 _ _ l1 true _ ?side1 ?side2 ?side3 ?side4 A25.out).mono ?_); (case side1 => repeat (first | exact (Kd.R_reads' HO151.out).2.2 | (with_reducible refine Kd.C_alloc ?_ _) | (with_reducible refine Kd.C_drewN ?_ _) | (with_reducible refine Kd.C_drew ?_))); (case side2 => exact (Kd.R_reads' HO151.out).2.1); (case side3 => repeat (first | exact (Kd.C_below HR1.out HB.out) | (with_reducible refine Kd.C_alloc ?_ _) | (with_reducible refine Kd.C_drewN ?_ _) | (with_reducible refine Kd.C_drew ?_))); (case side4 => exact HC1.out); rintro e w' ⟨rfl, ⟨nd, rfl⟩⟩; (try clear A25)))
           go_meet
           case rel => exact ⟨_, (true), (by first | rfl | (simp; done) | (simp [*]; done)), H', ⟨by have := HJ3.out; first | omega | exact Nat.le_refl _⟩, ⟨by (with_reducible repeat (first | apply Kd.R_alloc | apply Kd.R_drewN | apply Kd.R_drew)); exact Kd.R_mono HO146.out (fun _ hk => trivial)⟩, ⟨by repeat (first | (with_reducible first | exact HB.out | apply below_alloc | apply pw_below_drewN | apply below_drew1) | exact HB.out)⟩⟩
         ·replace c26 := Bool.eq_false_iff.mpr c26
          subst c26
          have H1 : (laminalaw11_FrontcodeRoundTrip.j1 kj3 l0 l1 y144 true) = some r := by rw [if_neg (show ¬ (false = true) by decide)] at H; exact H
          clear H
          have H := H1
          clear H1
          have H' := Aside0.mk H
          clear H
          obtain ⟨Ao32, co32, eo32⟩ := Kd.R_slice HO151.out
          subst eo32
          go_wp2_with (first | (go_at_call 42; (with_reducible refine (laminaref11_Same.calls kj3 _ _ t147 _ _ l1 false _ ?side1 ?side2 ?side3 ?side4 A25.out).mono ?_); (case side1 => repeat (first | exact (Kd.R_reads' HO151.out).2.2 | (with_reducible refine Kd.C_alloc ?_ _) | (with_reducible refine Kd.C_drewN ?_ _) | (with_reducible refine Kd.C_drew ?_))); (case side2 => exact (Kd.R_reads' HO151.out).2.1); (case side3 => repeat (first | exact (Kd.C_below HR1.out HB.out) | (with_reducible refine Kd.C_alloc ?_ _) | (with_reducible refine Kd.C_drewN ?_ _) | (with_reducible refine Kd.C_drew ?_))); (case side4 => exact HC1.out); rintro e w' ⟨rfl, ⟨nd, rfl⟩⟩; (try clear A25)))
          go_meet
          case rel => exact ⟨_, (true), (by first | rfl | (simp; done) | (simp [*]; done)), H', ⟨by have := HJ3.out; first | omega | exact Nat.le_refl _⟩, ⟨by (with_reducible repeat (first | apply Kd.R_alloc | apply Kd.R_drewN | apply Kd.R_drew)); exact Kd.R_mono HO146.out (fun _ hk => trivial)⟩, ⟨by repeat (first | (with_reducible first | exact HB.out | apply below_alloc | apply pw_below_drewN | apply below_drew1) | exact HB.out)⟩⟩
        ·rw [if_neg c24] at H
         have c24b0 : (t149 == 0) = false := beq_eq_false_iff_ne.mpr c24
         have c24b1 : (t149 != 0) = true := bne_iff_ne.mpr c24
         (first | rw [c24b0] | (simp only [i64_w, i32_w]; rw [c24b0]) | skip)
         have H' := Aside0.mk H
         clear H
         go_wp2
         go_meet
         case rel => exact ⟨_, (true), (by first | rfl | (simp; done) | (simp [*]; done)), H', ⟨by have := HJ3.out; first | omega | exact Nat.le_refl _⟩, ⟨by (with_reducible repeat (first | apply Kd.R_alloc | apply Kd.R_drewN | apply Kd.R_drew)); exact Kd.R_mono HO146.out (fun _ hk => trivial)⟩, ⟨by repeat (first | (with_reducible first | exact HB.out | apply below_alloc | apply pw_below_drewN | apply below_drew1) | exact HB.out)⟩⟩
       case rest =>
        clear HC16
        try clear c1
        try clear c2
        try clear p2
        try clear c3
        try clear c4
        try clear c6
        try clear p6
        try clear c7
        try clear c7b0
        try clear c7b1
        try clear c8
        try clear c10
        try clear c11
        try clear c13
        try clear c14
        try clear c24
        try clear c24b0
        try clear c24b1
        try clear c26
        try clear c27
        try clear c27b0
        try clear c27b1
        try clear c32
        try clear p2
        obtain ⟨kq, x74_15, rfl, HA, HJ15, HO_7, HB⟩ := hcut
        cases kq with
        | zero => exact absurd HA.out (by simp [laminalaw11_FrontcodeRoundTrip.j1])
        | succ kj15 =>
         have H := HA.out
         clear HA
         simp only [laminalaw11_FrontcodeRoundTrip.j1] at H
         by_cases c33 : x74_15 = true
         ·subst c33
          have H1 : (some false) = some r := by rw [if_pos rfl] at H; exact H
          clear H
          have H := H1
          clear H1
          exact absurd (H.trans (congrArg some hr_.out)) (by simp)
         ·replace c33 := Bool.eq_false_iff.mpr c33
          subst c33
          have H1 : (laminalaw11_FrontcodeRoundTrip.l0 kj15 l0 l1 y144 l1 (l1.length : Int) 0) = some r := by rw [if_neg (show ¬ (false = true) by decide)] at H; exact H
          clear H
          have H := H1
          clear H1
          have H' := Aside0.mk H
          clear H
          go_wp2
          go_loopg [77] kj15 (fun kq v77 w' => ∃ (x77_3 : Int), v77 = .int .i64 x77_3 ∧ Aside0 (laminalaw11_FrontcodeRoundTrip.l0 kq l0 l1 y144 l1 (l1.length : Int) x77_3 = some r) ∧ Aside0 (kq ≤ kj15) ∧ Aside0 (Kd.R (Kd.int .u8) 5 w' w.heap.size (fun _ => True) (.slice Ao22 y144.length co22) y144) ∧ Aside0 (Below w.heap.size w w'))
          case atStart => exact ⟨(0), (by first | rfl | (simp; done) | (simp [*]; done)), H', ⟨Nat.le_refl _⟩, ⟨by (with_reducible repeat (first | apply Kd.R_alloc | apply Kd.R_drewN | apply Kd.R_drew)); exact HO_7.out⟩, ⟨by repeat (first | (with_reducible first | exact HB.out | apply below_alloc | apply pw_below_drewN | apply below_drew1) | exact HB.out)⟩⟩
          case round =>
           clear H'
           try clear c1
           try clear c2
           try clear p2
           try clear c3
           try clear c4
           try clear c6
           try clear p6
           try clear c7
           try clear c7b0
           try clear c7b1
           try clear c8
           try clear c10
           try clear c11
           try clear c13
           try clear c14
           try clear c24
           try clear c24b0
           try clear c24b1
           try clear c26
           try clear c27
           try clear c27b0
           try clear c27b1
           try clear c32
           try clear c33
           try clear p2
           try clear p6
           obtain ⟨x77_3, rfl, HA, HK3, HO_7, HB⟩ := hrel
           cases gk with
           | zero => exact absurd HA.out (by simp [laminalaw11_FrontcodeRoundTrip.l0])
           | succ k3 =>
            have H := HA.out
            clear HA
            simp only [laminalaw11_FrontcodeRoundTrip.l0] at H
            by_cases c34 : x77_3 < (l1.length : Int)
            ·rw [if_pos c34] at H
             have c34b0 : decide (x77_3 < (l1.length : Int)) = true := decide_eq_true c34
             clear c34
             by_cases c35 : 0 ≤ x77_3
             ·rw [if_pos c35] at H
              have c35b0 : decide (0 ≤ x77_3) = true := decide_eq_true c35
              clear c35
              by_cases c36 : x77_3 < (l1.length : Int)
              ·rw [if_pos c36] at H
               have c36b0 : decide (x77_3 < (l1.length : Int)) = true := decide_eq_true c36
               clear c36
               replace H := Option.bind_eq_some_iff.mp H
               obtain ⟨⟨t155, t156⟩, A370, H⟩ := H
               replace H : (if t156 = 0 then (if t155.toList = (rdOf ByteArray.empty l1 x77_3).toList then (laminalaw11_FrontcodeRoundTrip.l0 k3 l0 l1 y144 l1 (l1.length : Int) (wrap64 (x77_3 + 1))) else (some false)) else (some false)) = some r := H
               have A37 := Aside0.mk A370
               clear A370
               by_cases c38 : t156 = 0
               ·rw [if_pos c38] at H
                have c38b0 : (t156 == 0) = true := beq_iff_eq.mpr c38
                have c38b1 : (t156 != 0) = false := bne_eq_false_iff_eq.mpr c38
                clear c38
                by_cases c39 : t155.toList = (rdOf ByteArray.empty l1 x77_3).toList
                ·rw [if_pos c39] at H
                 have c39b0 : (t155.toList == (rdOf ByteArray.empty l1 x77_3).toList) = true := beq_iff_eq.mpr c39
                 have c39b1 : (t155.toList != (rdOf ByteArray.empty l1 x77_3).toList) = false := bne_eq_false_iff_eq.mpr c39
                 clear c39
                 have H' := Aside0.mk H
                 clear H
                 have p154 : 0 ≤ (x77_3 : Int) := of_decide_eq_true (by first | (with_reducible assumption) | assumption)
                 have q154 : x77_3 < (l1.length : Int) := of_decide_eq_true (by first | (with_reducible assumption) | assumption)
                 obtain ⟨ad154, e154, hx154_0⟩ := Kd.at_string HR1.out x77_3 p154 q154
                 cases e154
                 replace hx154_0 := (HB.out.cell (World.block_lt_of_cell? w _ hx154_0)).trans hx154_0
                 replace p154 := eq_true p154
                 replace q154 := eq_true q154
                 go_wp2_with (first | ((with_reducible refine gate_callee (f := 43) rfl ?_); refine goesL_ (some 89) rfl rfl Try.func43 (by kernel_rfl) rfl #[.slice Ao22 y144.length co22, .int .i64 (l0.length : Int), .int .i64 (l1.length : Int), .int .i64 x77_3] rfl (by (try simp only [List.map_toArray, List.map_cons, List.map_nil]); first | done | rfl | (simp only [List.length_drop, List.length_take]; rfl)) ?_; (with_reducible refine (frontcode_At.calls k3 _ _ y144 (l0.length : Int) (l1.length : Int) x77_3 t155 t156 _ ?side1 ?side2 A37.out).mono ?_); (case side1 => repeat (first | exact (Kd.R_reads' HO_7.out).2.2 | (with_reducible refine Kd.C_alloc ?_ _) | (with_reducible refine Kd.C_drewN ?_ _) | (with_reducible refine Kd.C_drew ?_))); (case side2 => exact (Kd.R_reads' HO_7.out).2.1); rintro e w40 ⟨rfl, hb⟩; refine ⟨_, rfl, ?_⟩; have n0_ := Aside0.mk (Kd.R_below (by (with_reducible repeat (first | apply Kd.R_alloc | apply Kd.R_drewN | apply Kd.R_drew)); exact HO_7.out) hb); have n1_ := Aside0.mk (below_step (by repeat (first | (with_reducible first | exact HB.out | apply below_alloc | apply pw_below_drewN | apply below_drew1) | exact HB.out)) hb); clear HO_7; clear HB; have HO_7 := n0_; have HB := n1_; clear n0_ n1_; (try clear hb); (try clear hb2); (try clear hk); (try clear hi)))
                 go_roundg k3
                 case measure => have := HJ3.out; have := HJ15.out; have := HK3.out; omega
                 case rel => exact ⟨(wrap64 (x77_3 + 1)), (by first | rfl | (simp; done) | (simp [*]; done)), H', ⟨by have := HJ3.out; have := HJ15.out; have := HK3.out; omega⟩, ⟨by (with_reducible repeat (first | apply Kd.R_alloc | apply Kd.R_drewN | apply Kd.R_drew)); exact HO_7.out⟩, ⟨by repeat (first | (with_reducible first | exact HB.out | apply below_alloc | apply pw_below_drewN | apply below_drew1) | exact HB.out)⟩⟩
                ·rw [if_neg c39] at H
                 exact absurd (H.trans (congrArg some hr_.out)) (by simp)
               ·rw [if_neg c38] at H
                exact absurd (H.trans (congrArg some hr_.out)) (by simp)
              ·rw [if_neg c36] at H
               exact absurd H (by simp)
             ·rw [if_neg c35] at H
              exact absurd H (by simp)
            ·rw [if_neg c34] at H
             have c34b0 : decide (x77_3 < (l1.length : Int)) = false := decide_eq_false c34
             clear c34
             replace H := Option.bind_eq_some_iff.mp H
             obtain ⟨t157, A410, H⟩ := H
             replace H : (some t157) = some r := H
             have A41 := Aside0.mk A410
             clear A410
             obtain rfl := Option.some.inj H
             go_wp2_with (first | ((with_reducible refine gate_callee (f := 33) rfl ?_); refine goesL_ (some 100) rfl rfl Try.func33 (by kernel_rfl) rfl #[] rfl (by (try simp only [List.map_toArray, List.map_cons, List.map_nil]); first | done | rfl | (simp only [List.length_drop, List.length_take]; rfl)) ?_; (with_reducible refine (laminalaw11_awake.calls  t157 _ A41.out).mono ?_); rintro e w42 ⟨rfl, hb⟩; refine ⟨_, rfl, ?_⟩; have n0_ := Aside0.mk (Kd.R_below (by (with_reducible repeat (first | apply Kd.R_alloc | apply Kd.R_drewN | apply Kd.R_drew)); exact HO_7.out) hb); have n1_ := Aside0.mk (below_step (by repeat (first | (with_reducible first | exact HB.out | apply below_alloc | apply pw_below_drewN | apply below_drew1) | exact HB.out)) hb); clear HO_7; clear HB; have HO_7 := n0_; have HB := n1_; clear n0_ n1_; (try clear hb); (try clear hb2); (try clear hk); (try clear hi)))
             go_ret
             exact ⟨by first | rfl | (simp [errW_none, errW_some] <;> rfl) | (simp [*, errW_none, errW_some] <;> rfl), by repeat (first | (with_reducible first | exact HB.out | apply below_alloc | apply pw_below_drewN | apply below_drew1) | exact HB.out)⟩
      ·rw [if_neg c14] at H
       exact absurd H (by simp)
     ·rw [if_neg c13] at H
      exact absurd H (by simp)
    ·rw [if_neg c11] at H
     exact absurd H (by simp)

end Go.Proofs.Yteamkjphdiajeaa.QFrontcodeRoundTrip
