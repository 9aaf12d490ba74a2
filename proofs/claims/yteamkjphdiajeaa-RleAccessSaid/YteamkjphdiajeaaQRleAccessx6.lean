-- Written by a program of this session (wip/pr2.sh): the walk of the Go text, function by function.
import Derived.Test.YteamkjphdiajeaaQRleAccessx0
import Derived.Test.YteamkjphdiajeaaQRleAccessx4
import Derived.Test.YteamkjphdiajeaaQRleAccessx5
namespace Go.Proofs.Yteamkjphdiajeaa.QRleAccess
open Go.RowKit Go.Proofs.YteamkjphdiajeaaW.PrintWords Go.Proofs.YteamkjphdiajeaaW.PrintLast Go.Proofs.YteamkjphdiajeaaW.PrintMore

attribute [local go_sem] max2_int min2_int max_two min_two max_three min_three max_four min_four   -- for this text's walks alone
set_option linter.unusedVariables false
set_option linter.unusedSimpArgs false

/-! ### laminaref07_Matching: function 28 -/
def laminaref07_Matching.l0 : Nat → Int → Int → List Int → Int → Int → List Int → Option (Int × List Int)
 | 0, _, _, _, _, _, _ => none
 | k + 1, x1, x2, x7, x10, x242000, x242001 => if x10 < (x7.length : Int) then (if x1 = 1 then (if 0 ≤ x10 then (if (rd x7 x10) = x2 then ((laminaref03_Set.f k x242000 x242001 x10 true).bind fun bt243 => (laminaref07_Matching.l0 k x1 x2 x7 (wrap64 (x10 + 1)) bt243.1 bt243.2)) else (if x1 = 3 then (if (rd x7 x10) < x2 then ((laminaref03_Set.f k x242000 x242001 x10 true).bind fun bt248 => (laminaref07_Matching.l0 k x1 x2 x7 (wrap64 (x10 + 1)) bt248.1 bt248.2)) else (if x1 = 5 then (if (rd x7 x10) > x2 then ((laminaref03_Set.f k x242000 x242001 x10 true).bind fun bt253 => (laminaref07_Matching.l0 k x1 x2 x7 (wrap64 (x10 + 1)) bt253.1 bt253.2)) else (laminaref07_Matching.l0 k x1 x2 x7 (wrap64 (x10 + 1)) x242000 x242001)) else (laminaref07_Matching.l0 k x1 x2 x7 (wrap64 (x10 + 1)) x242000 x242001))) else (if x1 = 5 then (if (rd x7 x10) > x2 then ((laminaref03_Set.f k x242000 x242001 x10 true).bind fun bt258 => (laminaref07_Matching.l0 k x1 x2 x7 (wrap64 (x10 + 1)) bt258.1 bt258.2)) else (laminaref07_Matching.l0 k x1 x2 x7 (wrap64 (x10 + 1)) x242000 x242001)) else (laminaref07_Matching.l0 k x1 x2 x7 (wrap64 (x10 + 1)) x242000 x242001)))) else (none)) else (if x1 = 3 then (if 0 ≤ x10 then (if (rd x7 x10) < x2 then ((laminaref03_Set.f k x242000 x242001 x10 true).bind fun bt263 => (laminaref07_Matching.l0 k x1 x2 x7 (wrap64 (x10 + 1)) bt263.1 bt263.2)) else (if x1 = 5 then (if (rd x7 x10) > x2 then ((laminaref03_Set.f k x242000 x242001 x10 true).bind fun bt268 => (laminaref07_Matching.l0 k x1 x2 x7 (wrap64 (x10 + 1)) bt268.1 bt268.2)) else (laminaref07_Matching.l0 k x1 x2 x7 (wrap64 (x10 + 1)) x242000 x242001)) else (laminaref07_Matching.l0 k x1 x2 x7 (wrap64 (x10 + 1)) x242000 x242001))) else (none)) else (if x1 = 5 then (if 0 ≤ x10 then (if (rd x7 x10) > x2 then ((laminaref03_Set.f k x242000 x242001 x10 true).bind fun bt273 => (laminaref07_Matching.l0 k x1 x2 x7 (wrap64 (x10 + 1)) bt273.1 bt273.2)) else (laminaref07_Matching.l0 k x1 x2 x7 (wrap64 (x10 + 1)) x242000 x242001)) else (none)) else (laminaref07_Matching.l0 k x1 x2 x7 (wrap64 (x10 + 1)) x242000 x242001)))) else (some (x242000, x242001))
def laminaref07_Matching.f (k : Nat) (l0 : List (S77)) (a1 : Int) (a2 : Int) : Option (Int × List Int) := (laminaref07_Expand.f k l0).bind fun bt233 => ((laminaref03_New.f (bt233.1.length : Int)).bind fun bt237 => (laminaref07_Matching.l0 k a1 a2 bt233.1 0 bt237.1 bt237.2))
theorem laminaref07_Matching.mono_l : ∀ k, (∀ y0 y1 y2 y3 y4 y5, LeO (laminaref07_Matching.l0 k y0 y1 y2 y3 y4 y5) (laminaref07_Matching.l0 (k + 1) y0 y1 y2 y3 y4 y5))
 | 0 => fun _ _ _ _ _ _ r h => by simp [laminaref07_Matching.l0] at h
 | k + 1 => by
  have ih0 := laminaref07_Matching.mono_l k
  ·intro y0 y1 y2 y3 y4 y5
   unfold laminaref07_Matching.l0
   repeat' first
   | (with_reducible exact ih0 _ _ _ _ _ _)
   | (with_reducible exact laminaref03_Set.mono _ _ _ _ _)
   | (with_reducible exact laminaref07_Expand.mono _ _)
   | (with_reducible exact LeO.refl _)
   | (with_reducible exact LeO.none _)
   | (with_reducible refine LeO.ite ?_ ?_)
   | (with_reducible refine LeO.bind ?_ (fun _ => ?_))
   | exact ih0 _ _ _ _ _ _
   | exact laminaref03_Set.mono _ _ _ _ _
   | exact laminaref07_Expand.mono _ _
   | exact LeO.none _
   | refine LeO.ite ?_ ?_
   | refine LeO.bind ?_ (fun _ => ?_)
theorem laminaref07_Matching.mono : ∀ a0 a1 a2 k, LeO (laminaref07_Matching.f k a0 a1 a2) (laminaref07_Matching.f (k + 1) a0 a1 a2) := by
 intro a0 a1 a2 k
 have ih0 := laminaref07_Matching.mono_l k
 unfold laminaref07_Matching.f
 repeat' first
   | (with_reducible exact ih0 _ _ _ _ _ _)
   | (with_reducible exact laminaref03_Set.mono _ _ _ _ _)
   | (with_reducible exact laminaref07_Expand.mono _ _)
   | (with_reducible exact LeO.refl _)
   | (with_reducible exact LeO.none _)
   | (with_reducible refine LeO.ite ?_ ?_)
   | (with_reducible refine LeO.bind ?_ (fun _ => ?_))
   | exact ih0 _ _ _ _ _ _
   | exact laminaref03_Set.mono _ _ _ _ _
   | exact laminaref07_Expand.mono _ _
   | exact LeO.none _
   | refine LeO.ite ?_ ?_
   | refine LeO.bind ?_ (fun _ => ?_)
set_option maxHeartbeats 8000000 in
set_option maxRecDepth 100000 in
theorem laminaref07_Matching.calls (k : Nat) (A0 : Option Addr) (c0 : Nat) (l0 : List (S77)) (a1 : Int) (a2 : Int) (r1 : Int) (r2 : List Int) (w : World) (hr0 : Kd.C k77 w A0 l0.length l0) (hc0 : l0.length ≤ c0) (h : laminaref07_Matching.f k l0 a1 a2 = some (r1, r2)) :
  Calls Try.prog 28 #[.slice A0 l0.length c0, .int .i64 a1, .int .i64 a2] w fun e w' => ∃ v1_ : Value, e = .returned (.agg #[.int .i64 r1, v1_]) ∧ Kd.R (Kd.int .u64) 78 w' w.heap.size (fun _ => True) v1_ r2 ∧ Below w.heap.size w w' := by
 have hu39 := Try.underlying39
 have HR0 := Aside0.mk hr0
 have HC0 := Aside0.mk hc0
 clear hr0 hc0
 have HB := Aside0.mk (Below.refl w.heap.size w)
 have H : ((laminaref07_Expand.f k l0).bind fun bt233 => ((laminaref03_New.f (bt233.1.length : Int)).bind fun bt237 => (laminaref07_Matching.l0 k a1 a2 bt233.1 0 bt237.1 bt237.2))) = some (r1, r2) := h
 clear h
 replace H := Option.bind_eq_some_iff.mp H
 obtain ⟨⟨t233, t234⟩, A40, H⟩ := H
 replace H : ((laminaref03_New.f (t233.length : Int)).bind fun bt237 => (laminaref07_Matching.l0 k a1 a2 t233 0 bt237.1 bt237.2)) = some (r1, r2) := H
 have A4 := Aside0.mk A40
 clear A40
 replace H := Option.bind_eq_some_iff.mp H
 obtain ⟨⟨t237, t238⟩, A50, H⟩ := H
 replace H : (laminaref07_Matching.l0 k a1 a2 t233 0 t237 t238) = some (r1, r2) := H
 have A5 := Aside0.mk A50
 clear A50
 have H' := Aside0.mk H
 clear H
 go_enter Try.func28, Try.ntmps28
 go_wp2_with (first | ((with_reducible refine gate_dst (N := 6) rfl ?_); refine box_event ?hg (N := 6) ?hd (cs := #[.int .i64 0, .slice none 0 0]) (t := 39) ?hr ?_; (case hd => rfl); (case hg => (first | rfl | (simp only [*]; rfl) | (simp [*]; done))); (case hr => first | (go_simp; done) | (go_simp; rfl)); intro gb232 hg w6 hbox hb; have n0_ := Aside0.mk (below_step (by repeat (first | (with_reducible first | exact HB.out | apply below_alloc | apply pw_below_drewN | apply below_drew1) | exact HB.out)) hb); have n1_ := Aside0.mk (hbox); have n2_ := Aside0.mk ((by rw [hg]; exact (below_size (by repeat (first | (with_reducible first | exact HB.out | apply below_alloc | apply pw_below_drewN | apply below_drew1) | exact HB.out))) : w.heap.size ≤ gb232)); have n3_ := Aside0.mk ((by rw [hg]; exact (below_size (by repeat (first | (with_reducible first | exact HB.out | apply below_alloc | apply pw_below_drewN | apply below_drew1) | exact HB.out))) : w.heap.size ≤ gb232)); clear HB; have HB := n0_; have BK232 := n1_; have GW232 := n2_; have GE232 := n3_; clear n0_ n1_ n2_ n3_; clear hb hbox hg) | ((with_reducible refine gate_callee (f := 22) rfl ?_); refine goesL_ (some 13) rfl rfl Try.func22 (by kernel_rfl) rfl #[.slice A0 l0.length c0] rfl (by (try simp only [List.map_toArray, List.map_cons, List.map_nil]); first | done | rfl | (simp only [List.length_drop, List.length_take]; rfl)) ?_; (with_reducible refine (laminaref07_Expand.calls k _ _ l0 t233 t234 _ ?side1 ?side2 A4.out).mono ?_); (case side1 => repeat (first | exact (Kd.C_below HR0.out HB.out) | (with_reducible refine Kd.C_alloc ?_ _) | (with_reducible refine Kd.C_drewN ?_ _) | (with_reducible refine Kd.C_drew ?_))); (case side2 => exact HC0.out); rintro e w7 ⟨v235, rfl, ho0, hb⟩; refine ⟨_, rfl, ?_⟩; have n0_ := Aside0.mk (Kd.R_lower ho0 (below_size (by repeat (first | (with_reducible first | exact HB.out | apply below_alloc | apply pw_below_drewN | apply below_drew1 | refine below_set ?_ GE232.out) | exact HB.out)))); have n1_ := Aside0.mk (blk_below (g := gb232) (o := .cells #[.int .i64 0, .slice none 0 0] 39 (0, 0)) (by (with_reducible repeat (first | refine blk_drewN ?_ _ | refine blk_drew ?_ | refine blk_alloc ?_ _)); exact BK232.out) hb); have n2_ := Aside0.mk (below_step (by repeat (first | (with_reducible first | exact HB.out | apply below_alloc | apply pw_below_drewN | apply below_drew1 | refine below_set ?_ GE232.out) | exact HB.out)) hb); clear BK232; clear HB; have HO236 := n0_; have BK232 := n1_; have HB := n2_; clear n0_ n1_ n2_; (try clear hb); (try clear hb2); (try clear hk); (try clear hi); (try clear ho0); obtain ⟨Ao8, co8, eo8⟩ := Kd.R_slice HO236.out; subst eo8) | ((with_reducible refine gate_callee (f := 50) rfl ?_); refine goesL_ (some 18) rfl rfl Try.func50 (by kernel_rfl) rfl #[.int .i64 (t233.length : Int)] rfl (by (try simp only [List.map_toArray, List.map_cons, List.map_nil]); first | done | rfl | (simp only [List.length_drop, List.length_take]; rfl)) ?_; (with_reducible refine (laminaref03_New.calls (t233.length : Int) t237 t238 _ A5.out).mono ?_); rintro e w9 ⟨v239, rfl, ho0, hb⟩; refine ⟨_, rfl, ?_⟩; have n0_ := Aside0.mk (Kd.R_below (by (with_reducible repeat (first | apply Kd.R_alloc | apply Kd.R_drewN | apply Kd.R_drew)); exact HO236.out) hb); have n1_ := Aside0.mk (Kd.R_lower ho0 (below_size (by repeat (first | (with_reducible first | exact HB.out | apply below_alloc | apply pw_below_drewN | apply below_drew1 | refine below_set ?_ GE232.out) | exact HB.out)))); have n2_ := Aside0.mk (blk_below (g := gb232) (o := .cells #[.int .i64 0, .slice none 0 0] 39 (0, 0)) (by (with_reducible repeat (first | refine blk_drewN ?_ _ | refine blk_drew ?_ | refine blk_alloc ?_ _)); exact BK232.out) hb); have n3_ := Aside0.mk (below_step (by repeat (first | (with_reducible first | exact HB.out | apply below_alloc | apply pw_below_drewN | apply below_drew1 | refine below_set ?_ GE232.out) | exact HB.out)) hb); clear HO236; clear BK232; clear HB; have HO236 := n0_; have HO240 := n1_; have BK232 := n2_; have HB := n3_; clear n0_ n1_ n2_ n3_; (try clear hb); (try clear hb2); (try clear hk); (try clear hi); (try clear ho0)) | ((with_reducible refine gate_dst (N := 9) rfl ?_); refine box_event ?hg (N := 9) ?hd (cs := #[.int .i64 0, .slice none 0 0]) (t := 39) ?hr ?_; (case hd => rfl); (case hg => (first | rfl | (simp only [*]; rfl) | (simp [*]; done))); (case hr => first | (go_simp; done) | (go_simp; rfl)); intro gb241 hg w10 hbox hb; have n0_ := Aside0.mk (Kd.R_below (by (with_reducible repeat (first | apply Kd.R_alloc | apply Kd.R_drewN | apply Kd.R_drew)); exact HO236.out) hb); have n1_ := Aside0.mk (Kd.R_below (by (with_reducible repeat (first | apply Kd.R_alloc | apply Kd.R_drewN | apply Kd.R_drew)); exact HO240.out) hb); have n2_ := Aside0.mk (blk_below (g := gb232) (o := .cells #[.int .i64 0, .slice none 0 0] 39 (0, 0)) (by (with_reducible repeat (first | refine blk_drewN ?_ _ | refine blk_drew ?_ | refine blk_alloc ?_ _)); exact BK232.out) hb); have n3_ := Aside0.mk (below_step (by repeat (first | (with_reducible first | exact HB.out | apply below_alloc | apply pw_below_drewN | apply below_drew1 | refine below_set ?_ GE232.out) | exact HB.out)) hb); have n4_ := Aside0.mk (hbox); have n5_ := Aside0.mk ((by rw [hg]; exact (below_size (by repeat (first | (with_reducible first | exact HB.out | apply below_alloc | apply pw_below_drewN | apply below_drew1 | refine below_set ?_ GE232.out) | exact HB.out))) : w.heap.size ≤ gb241)); have n6_ := Aside0.mk ((by rw [hg]; exact (below_size (by repeat (first | (with_reducible first | exact HB.out | apply below_alloc | apply pw_below_drewN | apply below_drew1 | refine below_set ?_ GE232.out) | exact HB.out))) : w.heap.size ≤ gb241)); have n7_ := Aside0.mk ((by rw [hg]; exact Nat.ne_of_lt (blk_lt (g := gb232) (o := .cells #[.int .i64 0, .slice none 0 0] 39 (0, 0)) (by (with_reducible repeat (first | refine blk_drewN ?_ _ | refine blk_drew ?_ | refine blk_alloc ?_ _)); exact BK232.out)) : gb232 ≠ gb241)); have n8_ := Aside0.mk ((by rw [hg]; exact Nat.ne_of_gt (blk_lt (g := gb232) (o := .cells #[.int .i64 0, .slice none 0 0] 39 (0, 0)) (by (with_reducible repeat (first | refine blk_drewN ?_ _ | refine blk_drew ?_ | refine blk_alloc ?_ _)); exact BK232.out)) : gb241 ≠ gb232)); clear HO236; clear HO240; clear BK232; clear HB; have HO236 := n0_; have HO240 := n1_; have BK232 := n2_; have HB := n3_; have BK241 := n4_; have GW241 := n5_; have GE241 := n6_; have NB232_241 := n7_; have NB241_232 := n8_; clear n0_ n1_ n2_ n3_ n4_ n5_ n6_ n7_ n8_; clear hb hbox hg; have hnb11 := NB241_232.out; have hnc11 := NB232_241.out; have hcz12_0 : w10.cell? ⟨gb241, 0, none⟩ = some (.int .i64 0) := (blk_cell BK241.out 0).trans rfl; have hcz12_1 : w10.cell? ⟨gb241, 1, none⟩ = some (.slice none 0 0) := (blk_cell BK241.out 1).trans rfl; have hfz12_0 := blk_frozen BK241.out 0; have hfz12_1 := blk_frozen BK241.out 1; obtain ⟨Ao13, co13, eo13⟩ := Kd.R_slice HO240.out; subst eo13))
 go_loopg [10] k (fun kq v10 w' => ∃ (x10_1 : Int) (x242000_1 : Int) (x242001_1 : List Int) (u242001 : Value), v10 = .int .i64 x10_1 ∧ Aside0 (laminaref07_Matching.l0 kq a1 a2 t233 x10_1 x242000_1 x242001_1 = some (r1, r2)) ∧ Aside0 (kq ≤ k) ∧ Aside0 (Kd.R (Kd.int .i64) 2 w' w.heap.size (fun _ => True) (.slice Ao8 t233.length co8) t233) ∧ Aside0 (Kd.R (Kd.int .u64) 78 w' w.heap.size (fun _ => True) u242001 x242001_1) ∧ Aside0 (w'.heap[gb232]? = some (.cells #[.int .i64 0, (.slice none 0 0)] 39 (0, 0))) ∧ Aside0 (w'.heap[gb241]? = some (.cells #[.int .i64 x242000_1, u242001] 39 (0, 0))) ∧ Aside0 (Below w.heap.size w w'))
 case atStart => exact ⟨(0), (t237), (t238), (.slice Ao13 t238.length co13), (by first | rfl | (simp; done) | (simp [*]; done)), H', ⟨Nat.le_refl _⟩, ⟨by (with_reducible repeat (first | apply Kd.R_alloc | apply Kd.R_drewN | apply Kd.R_drew)); exact Kd.R_mono (Kd.R_far (p := ⟨gb241, 1, none⟩) (Kd.R_far (p := ⟨gb241, 0, none⟩) (Kd.R_types HO236.out BK241.out (by decide)) (fun _ hk => hk.2) (.int .i64 t237)) (fun _ hk => hk.2) (.slice Ao13 t238.length co13)) (fun _ hk => trivial)⟩, ⟨by (with_reducible repeat (first | apply Kd.R_alloc | apply Kd.R_drewN | apply Kd.R_drew)); exact Kd.R_mono (Kd.R_far (p := ⟨gb241, 1, none⟩) (Kd.R_far (p := ⟨gb241, 0, none⟩) (Kd.R_types HO240.out BK241.out (by decide)) (fun _ hk => hk.2) (.int .i64 t237)) (fun _ hk => hk.2) (.slice Ao13 t238.length co13)) (fun _ hk => trivial)⟩, ⟨by (with_reducible repeat (first | refine blk_drewN ?_ _ | refine blk_drew ?_ | refine blk_alloc ?_ _)); refine blk_far ?_ NB232_241.out _; (with_reducible repeat (first | refine blk_drewN ?_ _ | refine blk_drew ?_ | refine blk_alloc ?_ _)); refine blk_far ?_ NB232_241.out _; (with_reducible repeat (first | refine blk_drewN ?_ _ | refine blk_drew ?_ | refine blk_alloc ?_ _)); exact BK232.out⟩, ⟨by (with_reducible repeat (first | refine blk_drewN ?_ _ | refine blk_drew ?_ | refine blk_alloc ?_ _)); refine blk_put (cs := #[.int .i64 t237, .slice none 0 0]) ?_ 1 _ rfl; (with_reducible repeat (first | refine blk_drewN ?_ _ | refine blk_drew ?_ | refine blk_alloc ?_ _)); refine blk_put (cs := #[.int .i64 0, .slice none 0 0]) ?_ 0 _ rfl; (with_reducible repeat (first | refine blk_drewN ?_ _ | refine blk_drew ?_ | refine blk_alloc ?_ _)); exact BK241.out⟩, ⟨by repeat (first | (with_reducible first | exact HB.out | apply below_alloc | apply pw_below_drewN | apply below_drew1 | refine below_set ?_ GE232.out | refine below_set ?_ GE241.out) | exact HB.out)⟩⟩
 case round =>
  clear H'
  try clear c1
  try clear c2
  try clear p2
  try clear c5
  try clear c11
  try clear hcz12_0
  try clear hcz12_1
  try clear hfz12_0
  try clear hfz12_1
  obtain ⟨x10_1, x242000_1, x242001_1, u242001, rfl, HA, HK1, HO_7, HO_242001, BK232, BK241, HB⟩ := hrel
  cases gk with
  | zero => exact absurd HA.out (by simp [laminaref07_Matching.l0])
  | succ k1 =>
   have H := HA.out
   clear HA
   simp only [laminaref07_Matching.l0] at H
   by_cases c14 : x10_1 < (t233.length : Int)
   ·rw [if_pos c14] at H
    have c14b0 : decide (x10_1 < (t233.length : Int)) = true := decide_eq_true c14
    clear c14
    by_cases c15 : a1 = 1
    ·rw [if_pos c15] at H
     have c15b0 : (a1 == 1) = true := beq_iff_eq.mpr c15
     have c15b1 : (a1 != 1) = false := bne_eq_false_iff_eq.mpr c15
     clear c15
     by_cases c16 : 0 ≤ x10_1
     ·rw [if_pos c16] at H
      have c16b0 : decide (0 ≤ x10_1) = true := decide_eq_true c16
      clear c16
      by_cases c17 : (rd t233 x10_1) = a2
      ·rw [if_pos c17] at H
       have c17b0 : ((rd t233 x10_1) == a2) = true := beq_iff_eq.mpr c17
       have c17b1 : ((rd t233 x10_1) != a2) = false := bne_eq_false_iff_eq.mpr c17
       clear c17
       replace H := Option.bind_eq_some_iff.mp H
       obtain ⟨⟨t243, t244⟩, A180, H⟩ := H
       replace H : (laminaref07_Matching.l0 k1 a1 a2 t233 (wrap64 (x10_1 + 1)) t243 t244) = some (r1, r2) := H
       have A18 := Aside0.mk A180
       clear A180
       have H' := Aside0.mk H
       clear H
       have p242 : 0 ≤ (x10_1 : Int) := of_decide_eq_true (by first | (with_reducible assumption) | assumption)
       have q242 : x10_1 < (t233.length : Int) := of_decide_eq_true (by first | (with_reducible assumption) | assumption)
       obtain ⟨ad242, e242, hx242_0⟩ := Kd.at_int (Kd.R_reads' HO_7.out).2.2 x10_1 p242 q242
       cases e242
       replace p242 := eq_true p242
       replace q242 := eq_true q242
       have hnb19 := NB241_232.out
       have hnc19 := NB232_241.out
       have hcz20_0 : wr.cell? ⟨gb241, 0, none⟩ = some (.int .i64 x242000_1) := (blk_cell BK241.out 0).trans rfl
       have hcz20_1 : wr.cell? ⟨gb241, 1, none⟩ = some (u242001) := (blk_cell BK241.out 1).trans rfl
       have hfz20_0 := blk_frozen BK241.out 0
       have hfz20_1 := blk_frozen BK241.out 1
       obtain ⟨Ao21, co21, eo21⟩ := Kd.R_slice HO_242001.out
       subst eo21
       go_wp2_with (first | ((with_reducible refine gate_callee (f := 51) rfl ?_); refine goesL_ (some 61) rfl rfl Try.func51 (by kernel_rfl) rfl #[.agg #[.int .i64 x242000_1, .slice Ao21 x242001_1.length co21], .int .i64 x10_1, .bool true] rfl (by (try simp only [List.map_toArray, List.map_cons, List.map_nil]); first | done | rfl | (simp only [List.length_drop, List.length_take]; rfl)) ?_; (with_reducible refine (laminaref03_Set.calls k1 x242000_1 _ _ x242001_1 x10_1 true t243 t244 _ ?side1 ?side2 A18.out).mono ?_); (case side1 => repeat (first | exact (Kd.R_reads' HO_242001.out).2.2 | (with_reducible refine Kd.C_alloc ?_ _) | (with_reducible refine Kd.C_drewN ?_ _) | (with_reducible refine Kd.C_drew ?_))); (case side2 => exact (Kd.R_reads' HO_242001.out).2.1); rintro e w22 ⟨v245, rfl, ho0, hb⟩; refine ⟨_, rfl, ?_⟩; have n0_ := Aside0.mk (Kd.R_below (by (with_reducible repeat (first | apply Kd.R_alloc | apply Kd.R_drewN | apply Kd.R_drew)); exact HO_7.out) hb); have n1_ := Aside0.mk (Kd.R_elder' (by (with_reducible repeat (first | apply Kd.R_alloc | apply Kd.R_drewN | apply Kd.R_drew)); exact HO_242001.out) (Kd.R_base ho0) hb); have n2_ := Aside0.mk (Kd.R_lower (Kd.R_new' ho0 (Kd.R_lt (by (with_reducible repeat (first | apply Kd.R_alloc | apply Kd.R_drewN | apply Kd.R_drew)); exact HO_242001.out))) (below_size (by repeat (first | (with_reducible first | exact HB.out | apply below_alloc | apply pw_below_drewN | apply below_drew1 | refine below_set ?_ GE232.out | refine below_set ?_ GE241.out) | exact HB.out)))); have n3_ := Aside0.mk (blk_below (g := gb232) (o := .cells #[.int .i64 0, .slice none 0 0] 39 (0, 0)) (by (with_reducible repeat (first | refine blk_drewN ?_ _ | refine blk_drew ?_ | refine blk_alloc ?_ _)); exact BK232.out) hb); have n4_ := Aside0.mk (blk_below (g := gb241) (o := .cells #[.int .i64 x242000_1, .slice Ao21 x242001_1.length co21] 39 (0, 0)) (by (with_reducible repeat (first | refine blk_drewN ?_ _ | refine blk_drew ?_ | refine blk_alloc ?_ _)); exact BK241.out) hb); have n5_ := Aside0.mk (below_step (by repeat (first | (with_reducible first | exact HB.out | apply below_alloc | apply pw_below_drewN | apply below_drew1 | refine below_set ?_ GE232.out | refine below_set ?_ GE241.out) | exact HB.out)) hb); clear HO_7; clear HO_242001; clear BK232; clear BK241; clear HB; have HO_7 := n0_; have HO_242001 := n1_; have HO246 := n2_; have BK232 := n3_; have BK241 := n4_; have HB := n5_; clear n0_ n1_ n2_ n3_ n4_ n5_; (try clear hb); (try clear hb2); (try clear hk); (try clear hi); (try clear ho0); have hcz23_0 : w22.cell? ⟨gb241, 0, none⟩ = some (.int .i64 x242000_1) := (blk_cell BK241.out 0).trans rfl; have hcz23_1 : w22.cell? ⟨gb241, 1, none⟩ = some (.slice Ao21 x242001_1.length co21) := (blk_cell BK241.out 1).trans rfl; have hfz23_0 := blk_frozen BK241.out 0; have hfz23_1 := blk_frozen BK241.out 1; obtain ⟨Ao24, co24, eo24⟩ := Kd.R_slice HO246.out; subst eo24))
       go_roundg k1
       case measure => have := HK1.out; omega
       case rel => exact ⟨(wrap64 (x10_1 + 1)), (t243), (t244), (.slice Ao24 t244.length co24), (by first | rfl | (simp; done) | (simp [*]; done)), H', ⟨by have := HK1.out; omega⟩, ⟨by (with_reducible repeat (first | apply Kd.R_alloc | apply Kd.R_drewN | apply Kd.R_drew)); exact Kd.R_mono (Kd.R_far (p := ⟨gb241, 1, none⟩) (Kd.R_far (p := ⟨gb241, 0, none⟩) (Kd.R_types HO_7.out BK241.out (by decide)) (fun _ hk => hk.2) (.int .i64 t243)) (fun _ hk => hk.2) (.slice Ao24 t244.length co24)) (fun _ hk => trivial)⟩, ⟨by (with_reducible repeat (first | apply Kd.R_alloc | apply Kd.R_drewN | apply Kd.R_drew)); exact Kd.R_mono (Kd.R_far (p := ⟨gb241, 1, none⟩) (Kd.R_far (p := ⟨gb241, 0, none⟩) (Kd.R_types HO246.out BK241.out (by decide)) (fun _ hk => hk.2) (.int .i64 t243)) (fun _ hk => hk.2) (.slice Ao24 t244.length co24)) (fun _ hk => trivial)⟩, ⟨by (with_reducible repeat (first | refine blk_drewN ?_ _ | refine blk_drew ?_ | refine blk_alloc ?_ _)); refine blk_far ?_ NB232_241.out _; (with_reducible repeat (first | refine blk_drewN ?_ _ | refine blk_drew ?_ | refine blk_alloc ?_ _)); refine blk_far ?_ NB232_241.out _; (with_reducible repeat (first | refine blk_drewN ?_ _ | refine blk_drew ?_ | refine blk_alloc ?_ _)); exact BK232.out⟩, ⟨by (with_reducible repeat (first | refine blk_drewN ?_ _ | refine blk_drew ?_ | refine blk_alloc ?_ _)); refine blk_put (cs := #[.int .i64 t243, .slice Ao21 x242001_1.length co21]) ?_ 1 _ rfl; (with_reducible repeat (first | refine blk_drewN ?_ _ | refine blk_drew ?_ | refine blk_alloc ?_ _)); refine blk_put (cs := #[.int .i64 x242000_1, .slice Ao21 x242001_1.length co21]) ?_ 0 _ rfl; (with_reducible repeat (first | refine blk_drewN ?_ _ | refine blk_drew ?_ | refine blk_alloc ?_ _)); exact BK241.out⟩, ⟨by repeat (first | (with_reducible first | exact HB.out | apply below_alloc | apply pw_below_drewN | apply below_drew1 | refine below_set ?_ GE232.out | refine below_set ?_ GE241.out) | exact HB.out)⟩⟩
      ·rw [if_neg c17] at H
       have c17b0 : ((rd t233 x10_1) == a2) = false := beq_eq_false_iff_ne.mpr c17
       have c17b1 : ((rd t233 x10_1) != a2) = true := bne_iff_ne.mpr c17
       by_cases c25 : a1 = 3
       ·rw [if_pos c25] at H
        have c25b0 : (a1 == 3) = true := beq_iff_eq.mpr c25
        have c25b1 : (a1 != 3) = false := bne_eq_false_iff_eq.mpr c25
        clear c25
        by_cases c26 : (rd t233 x10_1) < a2
        ·rw [if_pos c26] at H
         have c26b0 : decide ((rd t233 x10_1) < a2) = true := decide_eq_true c26
         clear c26
         replace H := Option.bind_eq_some_iff.mp H
         obtain ⟨⟨t248, t249⟩, A270, H⟩ := H
         replace H : (laminaref07_Matching.l0 k1 a1 a2 t233 (wrap64 (x10_1 + 1)) t248 t249) = some (r1, r2) := H
         have A27 := Aside0.mk A270
         clear A270
         have H' := Aside0.mk H
         clear H
         have p242 : 0 ≤ (x10_1 : Int) := of_decide_eq_true (by first | (with_reducible assumption) | assumption)
         have q242 : x10_1 < (t233.length : Int) := of_decide_eq_true (by first | (with_reducible assumption) | assumption)
         obtain ⟨ad242, e242, hx242_0⟩ := Kd.at_int (Kd.R_reads' HO_7.out).2.2 x10_1 p242 q242
         cases e242
         replace p242 := eq_true p242
         replace q242 := eq_true q242
         have p247 : 0 ≤ (x10_1 : Int) := of_decide_eq_true (by first | (with_reducible assumption) | assumption)
         have q247 : x10_1 < (t233.length : Int) := of_decide_eq_true (by first | (with_reducible assumption) | assumption)
         obtain ⟨ad247, e247, hx247_0⟩ := Kd.at_int (Kd.R_reads' HO_7.out).2.2 x10_1 p247 q247
         obtain rfl : ad242 = ad247 := (by injection e247)
         replace p247 := eq_true p247
         replace q247 := eq_true q247
         have hnb28 := NB241_232.out
         have hnc28 := NB232_241.out
         have hcz29_0 : wr.cell? ⟨gb241, 0, none⟩ = some (.int .i64 x242000_1) := (blk_cell BK241.out 0).trans rfl
         have hcz29_1 : wr.cell? ⟨gb241, 1, none⟩ = some (u242001) := (blk_cell BK241.out 1).trans rfl
         have hfz29_0 := blk_frozen BK241.out 0
         have hfz29_1 := blk_frozen BK241.out 1
         obtain ⟨Ao30, co30, eo30⟩ := Kd.R_slice HO_242001.out
         subst eo30
         go_wp2_with (first | ((with_reducible refine gate_callee (f := 51) rfl ?_); refine goesL_ (some 61) rfl rfl Try.func51 (by kernel_rfl) rfl #[.agg #[.int .i64 x242000_1, .slice Ao30 x242001_1.length co30], .int .i64 x10_1, .bool true] rfl (by (try simp only [List.map_toArray, List.map_cons, List.map_nil]); first | done | rfl | (simp only [List.length_drop, List.length_take]; rfl)) ?_; (with_reducible refine (laminaref03_Set.calls k1 x242000_1 _ _ x242001_1 x10_1 true t248 t249 _ ?side1 ?side2 A27.out).mono ?_); (case side1 => repeat (first | exact (Kd.R_reads' HO_242001.out).2.2 | (with_reducible refine Kd.C_alloc ?_ _) | (with_reducible refine Kd.C_drewN ?_ _) | (with_reducible refine Kd.C_drew ?_))); (case side2 => exact (Kd.R_reads' HO_242001.out).2.1); rintro e w31 ⟨v250, rfl, ho0, hb⟩; refine ⟨_, rfl, ?_⟩; have n0_ := Aside0.mk (Kd.R_below (by (with_reducible repeat (first | apply Kd.R_alloc | apply Kd.R_drewN | apply Kd.R_drew)); exact HO_7.out) hb); have n1_ := Aside0.mk (Kd.R_elder' (by (with_reducible repeat (first | apply Kd.R_alloc | apply Kd.R_drewN | apply Kd.R_drew)); exact HO_242001.out) (Kd.R_base ho0) hb); have n2_ := Aside0.mk (Kd.R_lower (Kd.R_new' ho0 (Kd.R_lt (by (with_reducible repeat (first | apply Kd.R_alloc | apply Kd.R_drewN | apply Kd.R_drew)); exact HO_242001.out))) (below_size (by repeat (first | (with_reducible first | exact HB.out | apply below_alloc | apply pw_below_drewN | apply below_drew1 | refine below_set ?_ GE232.out | refine below_set ?_ GE241.out) | exact HB.out)))); have n3_ := Aside0.mk (blk_below (g := gb232) (o := .cells #[.int .i64 0, .slice none 0 0] 39 (0, 0)) (by (with_reducible repeat (first | refine blk_drewN ?_ _ | refine blk_drew ?_ | refine blk_alloc ?_ _)); exact BK232.out) hb); have n4_ := Aside0.mk (blk_below (g := gb241) (o := .cells #[.int .i64 x242000_1, .slice Ao30 x242001_1.length co30] 39 (0, 0)) (by (with_reducible repeat (first | refine blk_drewN ?_ _ | refine blk_drew ?_ | refine blk_alloc ?_ _)); exact BK241.out) hb); have n5_ := Aside0.mk (below_step (by repeat (first | (with_reducible first | exact HB.out | apply below_alloc | apply pw_below_drewN | apply below_drew1 | refine below_set ?_ GE232.out | refine below_set ?_ GE241.out) | exact HB.out)) hb); clear HO_7; clear HO_242001; clear BK232; clear BK241; clear HB; have HO_7 := n0_; have HO_242001 := n1_; have HO251 := n2_; have BK232 := n3_; have BK241 := n4_; have HB := n5_; clear n0_ n1_ n2_ n3_ n4_ n5_; (try clear hb); (try clear hb2); (try clear hk); (try clear hi); (try clear ho0); have hcz32_0 : w31.cell? ⟨gb241, 0, none⟩ = some (.int .i64 x242000_1) := (blk_cell BK241.out 0).trans rfl; have hcz32_1 : w31.cell? ⟨gb241, 1, none⟩ = some (.slice Ao30 x242001_1.length co30) := (blk_cell BK241.out 1).trans rfl; have hfz32_0 := blk_frozen BK241.out 0; have hfz32_1 := blk_frozen BK241.out 1; obtain ⟨Ao33, co33, eo33⟩ := Kd.R_slice HO251.out; subst eo33))
         go_roundg k1
         case measure => have := HK1.out; omega
         case rel => exact ⟨(wrap64 (x10_1 + 1)), (t248), (t249), (.slice Ao33 t249.length co33), (by first | rfl | (simp; done) | (simp [*]; done)), H', ⟨by have := HK1.out; omega⟩, ⟨by (with_reducible repeat (first | apply Kd.R_alloc | apply Kd.R_drewN | apply Kd.R_drew)); exact Kd.R_mono (Kd.R_far (p := ⟨gb241, 1, none⟩) (Kd.R_far (p := ⟨gb241, 0, none⟩) (Kd.R_types HO_7.out BK241.out (by decide)) (fun _ hk => hk.2) (.int .i64 t248)) (fun _ hk => hk.2) (.slice Ao33 t249.length co33)) (fun _ hk => trivial)⟩, ⟨by (with_reducible repeat (first | apply Kd.R_alloc | apply Kd.R_drewN | apply Kd.R_drew)); exact Kd.R_mono (Kd.R_far (p := ⟨gb241, 1, none⟩) (Kd.R_far (p := ⟨gb241, 0, none⟩) (Kd.R_types HO251.out BK241.out (by decide)) (fun _ hk => hk.2) (.int .i64 t248)) (fun _ hk => hk.2) (.slice Ao33 t249.length co33)) (fun _ hk => trivial)⟩, ⟨by (with_reducible repeat (first | refine blk_drewN ?_ _ | refine blk_drew ?_ | refine blk_alloc ?_ _)); refine blk_far ?_ NB232_241.out _; (with_reducible repeat (first | refine blk_drewN ?_ _ | refine blk_drew ?_ | refine blk_alloc ?_ _)); refine blk_far ?_ NB232_241.out _; (with_reducible repeat (first | refine blk_drewN ?_ _ | refine blk_drew ?_ | refine blk_alloc ?_ _)); exact BK232.out⟩, ⟨by (with_reducible repeat (first | refine blk_drewN ?_ _ | refine blk_drew ?_ | refine blk_alloc ?_ _)); refine blk_put (cs := #[.int .i64 t248, .slice Ao30 x242001_1.length co30]) ?_ 1 _ rfl; (with_reducible repeat (first | refine blk_drewN ?_ _ | refine blk_drew ?_ | refine blk_alloc ?_ _)); refine blk_put (cs := #[.int .i64 x242000_1, .slice Ao30 x242001_1.length co30]) ?_ 0 _ rfl; (with_reducible repeat (first | refine blk_drewN ?_ _ | refine blk_drew ?_ | refine blk_alloc ?_ _)); exact BK241.out⟩, ⟨by repeat (first | (with_reducible first | exact HB.out | apply below_alloc | apply pw_below_drewN | apply below_drew1 | refine below_set ?_ GE232.out | refine below_set ?_ GE241.out) | exact HB.out)⟩⟩
        ·rw [if_neg c26] at H
         have c26b0 : decide ((rd t233 x10_1) < a2) = false := decide_eq_false c26
         clear c26
         by_cases c34 : a1 = 5
         ·rw [if_pos c34] at H
          have c34b0 : (a1 == 5) = true := beq_iff_eq.mpr c34
          have c34b1 : (a1 != 5) = false := bne_eq_false_iff_eq.mpr c34
          clear c34
          by_cases c35 : (rd t233 x10_1) > a2
          ·rw [if_pos c35] at H
           have c35b0 : decide (a2 < (rd t233 x10_1)) = true := decide_eq_true c35
           clear c35
           replace H := Option.bind_eq_some_iff.mp H
           obtain ⟨⟨t253, t254⟩, A360, H⟩ := H
           replace H : (laminaref07_Matching.l0 k1 a1 a2 t233 (wrap64 (x10_1 + 1)) t253 t254) = some (r1, r2) := H
           have A36 := Aside0.mk A360
           clear A360
           have H' := Aside0.mk H
           clear H
           have p242 : 0 ≤ (x10_1 : Int) := of_decide_eq_true (by first | (with_reducible assumption) | assumption)
           have q242 : x10_1 < (t233.length : Int) := of_decide_eq_true (by first | (with_reducible assumption) | assumption)
           obtain ⟨ad242, e242, hx242_0⟩ := Kd.at_int (Kd.R_reads' HO_7.out).2.2 x10_1 p242 q242
           cases e242
           replace p242 := eq_true p242
           replace q242 := eq_true q242
           have p247 : 0 ≤ (x10_1 : Int) := of_decide_eq_true (by first | (with_reducible assumption) | assumption)
           have q247 : x10_1 < (t233.length : Int) := of_decide_eq_true (by first | (with_reducible assumption) | assumption)
           obtain ⟨ad247, e247, hx247_0⟩ := Kd.at_int (Kd.R_reads' HO_7.out).2.2 x10_1 p247 q247
           obtain rfl : ad242 = ad247 := (by injection e247)
           replace p247 := eq_true p247
           replace q247 := eq_true q247
           have p252 : 0 ≤ (x10_1 : Int) := of_decide_eq_true (by first | (with_reducible assumption) | assumption)
           have q252 : x10_1 < (t233.length : Int) := of_decide_eq_true (by first | (with_reducible assumption) | assumption)
           obtain ⟨ad252, e252, hx252_0⟩ := Kd.at_int (Kd.R_reads' HO_7.out).2.2 x10_1 p252 q252
           obtain rfl : ad242 = ad252 := (by injection e252)
           replace p252 := eq_true p252
           replace q252 := eq_true q252
           have hnb37 := NB241_232.out
           have hnc37 := NB232_241.out
           have hcz38_0 : wr.cell? ⟨gb241, 0, none⟩ = some (.int .i64 x242000_1) := (blk_cell BK241.out 0).trans rfl
           have hcz38_1 : wr.cell? ⟨gb241, 1, none⟩ = some (u242001) := (blk_cell BK241.out 1).trans rfl
           have hfz38_0 := blk_frozen BK241.out 0
           have hfz38_1 := blk_frozen BK241.out 1
           obtain ⟨Ao39, co39, eo39⟩ := Kd.R_slice HO_242001.out
           subst eo39
           go_wp2_with (first | ((with_reducible refine gate_callee (f := 51) rfl ?_); refine goesL_ (some 61) rfl rfl Try.func51 (by kernel_rfl) rfl #[.agg #[.int .i64 x242000_1, .slice Ao39 x242001_1.length co39], .int .i64 x10_1, .bool true] rfl (by (try simp only [List.map_toArray, List.map_cons, List.map_nil]); first | done | rfl | (simp only [List.length_drop, List.length_take]; rfl)) ?_; (with_reducible refine (laminaref03_Set.calls k1 x242000_1 _ _ x242001_1 x10_1 true t253 t254 _ ?side1 ?side2 A36.out).mono ?_); (case side1 => repeat (first | exact (Kd.R_reads' HO_242001.out).2.2 | (with_reducible refine Kd.C_alloc ?_ _) | (with_reducible refine Kd.C_drewN ?_ _) | (with_reducible refine Kd.C_drew ?_))); (case side2 => exact (Kd.R_reads' HO_242001.out).2.1); rintro e w40 ⟨v255, rfl, ho0, hb⟩; refine ⟨_, rfl, ?_⟩; have n0_ := Aside0.mk (Kd.R_below (by (with_reducible repeat (first | apply Kd.R_alloc | apply Kd.R_drewN | apply Kd.R_drew)); exact HO_7.out) hb); have n1_ := Aside0.mk (Kd.R_elder' (by (with_reducible repeat (first | apply Kd.R_alloc | apply Kd.R_drewN | apply Kd.R_drew)); exact HO_242001.out) (Kd.R_base ho0) hb); have n2_ := Aside0.mk (Kd.R_lower (Kd.R_new' ho0 (Kd.R_lt (by (with_reducible repeat (first | apply Kd.R_alloc | apply Kd.R_drewN | apply Kd.R_drew)); exact HO_242001.out))) (below_size (by repeat (first | (with_reducible first | exact HB.out | apply below_alloc | apply pw_below_drewN | apply below_drew1 | refine below_set ?_ GE232.out | refine below_set ?_ GE241.out) | exact HB.out)))); have n3_ := Aside0.mk (blk_below (g := gb232) (o := .cells #[.int .i64 0, .slice none 0 0] 39 (0, 0)) (by (with_reducible repeat (first | refine blk_drewN ?_ _ | refine blk_drew ?_ | refine blk_alloc ?_ _)); exact BK232.out) hb); have n4_ := Aside0.mk (blk_below (g := gb241) (o := .cells #[.int .i64 x242000_1, .slice Ao39 x242001_1.length co39] 39 (0, 0)) (by (with_reducible repeat (first | refine blk_drewN ?_ _ | refine blk_drew ?_ | refine blk_alloc ?_ _)); exact BK241.out) hb); have n5_ := Aside0.mk (below_step (by repeat (first | (with_reducible first | exact HB.out | apply below_alloc | apply pw_below_drewN | apply below_drew1 | refine below_set ?_ GE232.out | refine below_set ?_ GE241.out) | exact HB.out)) hb); clear HO_7; clear HO_242001; clear BK232; clear BK241; clear HB; have HO_7 := n0_; have HO_242001 := n1_; have HO256 := n2_; have BK232 := n3_; have BK241 := n4_; have HB := n5_; clear n0_ n1_ n2_ n3_ n4_ n5_; (try clear hb); (try clear hb2); (try clear hk); (try clear hi); (try clear ho0); have hcz41_0 : w40.cell? ⟨gb241, 0, none⟩ = some (.int .i64 x242000_1) := (blk_cell BK241.out 0).trans rfl; have hcz41_1 : w40.cell? ⟨gb241, 1, none⟩ = some (.slice Ao39 x242001_1.length co39) := (blk_cell BK241.out 1).trans rfl; have hfz41_0 := blk_frozen BK241.out 0; have hfz41_1 := blk_frozen BK241.out 1; obtain ⟨Ao42, co42, eo42⟩ := Kd.R_slice HO256.out; subst eo42))
           go_roundg k1
           case measure => have := HK1.out; omega
           case rel => exact ⟨(wrap64 (x10_1 + 1)), (t253), (t254), (.slice Ao42 t254.length co42), (by first | rfl | (simp; done) | (simp [*]; done)), H', ⟨by have := HK1.out; omega⟩, ⟨by (with_reducible repeat (first | apply Kd.R_alloc | apply Kd.R_drewN | apply Kd.R_drew)); exact Kd.R_mono (Kd.R_far (p := ⟨gb241, 1, none⟩) (Kd.R_far (p := ⟨gb241, 0, none⟩) (Kd.R_types HO_7.out BK241.out (by decide)) (fun _ hk => hk.2) (.int .i64 t253)) (fun _ hk => hk.2) (.slice Ao42 t254.length co42)) (fun _ hk => trivial)⟩, ⟨by (with_reducible repeat (first | apply Kd.R_alloc | apply Kd.R_drewN | apply Kd.R_drew)); exact Kd.R_mono (Kd.R_far (p := ⟨gb241, 1, none⟩) (Kd.R_far (p := ⟨gb241, 0, none⟩) (Kd.R_types HO256.out BK241.out (by decide)) (fun _ hk => hk.2) (.int .i64 t253)) (fun _ hk => hk.2) (.slice Ao42 t254.length co42)) (fun _ hk => trivial)⟩, ⟨by (with_reducible repeat (first | refine blk_drewN ?_ _ | refine blk_drew ?_ | refine blk_alloc ?_ _)); refine blk_far ?_ NB232_241.out _; (with_reducible repeat (first | refine blk_drewN ?_ _ | refine blk_drew ?_ | refine blk_alloc ?_ _)); refine blk_far ?_ NB232_241.out _; (with_reducible repeat (first | refine blk_drewN ?_ _ | refine blk_drew ?_ | refine blk_alloc ?_ _)); exact BK232.out⟩, ⟨by (with_reducible repeat (first | refine blk_drewN ?_ _ | refine blk_drew ?_ | refine blk_alloc ?_ _)); refine blk_put (cs := #[.int .i64 t253, .slice Ao39 x242001_1.length co39]) ?_ 1 _ rfl; (with_reducible repeat (first | refine blk_drewN ?_ _ | refine blk_drew ?_ | refine blk_alloc ?_ _)); refine blk_put (cs := #[.int .i64 x242000_1, .slice Ao39 x242001_1.length co39]) ?_ 0 _ rfl; (with_reducible repeat (first | refine blk_drewN ?_ _ | refine blk_drew ?_ | refine blk_alloc ?_ _)); exact BK241.out⟩, ⟨by repeat (first | (with_reducible first | exact HB.out | apply below_alloc | apply pw_below_drewN | apply below_drew1 | refine below_set ?_ GE232.out | refine below_set ?_ GE241.out) | exact HB.out)⟩⟩
          ·rw [if_neg c35] at H
           have c35b0 : decide (a2 < (rd t233 x10_1)) = false := decide_eq_false c35
           clear c35
           have H' := Aside0.mk H
           clear H
           have p242 : 0 ≤ (x10_1 : Int) := of_decide_eq_true (by first | (with_reducible assumption) | assumption)
           have q242 : x10_1 < (t233.length : Int) := of_decide_eq_true (by first | (with_reducible assumption) | assumption)
           obtain ⟨ad242, e242, hx242_0⟩ := Kd.at_int (Kd.R_reads' HO_7.out).2.2 x10_1 p242 q242
           cases e242
           replace p242 := eq_true p242
           replace q242 := eq_true q242
           have p247 : 0 ≤ (x10_1 : Int) := of_decide_eq_true (by first | (with_reducible assumption) | assumption)
           have q247 : x10_1 < (t233.length : Int) := of_decide_eq_true (by first | (with_reducible assumption) | assumption)
           obtain ⟨ad247, e247, hx247_0⟩ := Kd.at_int (Kd.R_reads' HO_7.out).2.2 x10_1 p247 q247
           obtain rfl : ad242 = ad247 := (by injection e247)
           replace p247 := eq_true p247
           replace q247 := eq_true q247
           have p252 : 0 ≤ (x10_1 : Int) := of_decide_eq_true (by first | (with_reducible assumption) | assumption)
           have q252 : x10_1 < (t233.length : Int) := of_decide_eq_true (by first | (with_reducible assumption) | assumption)
           obtain ⟨ad252, e252, hx252_0⟩ := Kd.at_int (Kd.R_reads' HO_7.out).2.2 x10_1 p252 q252
           obtain rfl : ad242 = ad252 := (by injection e252)
           replace p252 := eq_true p252
           replace q252 := eq_true q252
           go_wp2
           go_roundg k1
           case measure => have := HK1.out; omega
           case rel => exact ⟨(wrap64 (x10_1 + 1)), (x242000_1), (x242001_1), (u242001), (by first | rfl | (simp; done) | (simp [*]; done)), H', ⟨by have := HK1.out; omega⟩, ⟨by (with_reducible repeat (first | apply Kd.R_alloc | apply Kd.R_drewN | apply Kd.R_drew)); exact HO_7.out⟩, ⟨by (with_reducible repeat (first | apply Kd.R_alloc | apply Kd.R_drewN | apply Kd.R_drew)); exact HO_242001.out⟩, ⟨by (with_reducible repeat (first | refine blk_drewN ?_ _ | refine blk_drew ?_ | refine blk_alloc ?_ _)); exact BK232.out⟩, ⟨by (with_reducible repeat (first | refine blk_drewN ?_ _ | refine blk_drew ?_ | refine blk_alloc ?_ _)); exact BK241.out⟩, ⟨by repeat (first | (with_reducible first | exact HB.out | apply below_alloc | apply pw_below_drewN | apply below_drew1 | refine below_set ?_ GE232.out | refine below_set ?_ GE241.out) | exact HB.out)⟩⟩
         ·rw [if_neg c34] at H
          have c34b0 : (a1 == 5) = false := beq_eq_false_iff_ne.mpr c34
          have c34b1 : (a1 != 5) = true := bne_iff_ne.mpr c34
          have H' := Aside0.mk H
          clear H
          have p242 : 0 ≤ (x10_1 : Int) := of_decide_eq_true (by first | (with_reducible assumption) | assumption)
          have q242 : x10_1 < (t233.length : Int) := of_decide_eq_true (by first | (with_reducible assumption) | assumption)
          obtain ⟨ad242, e242, hx242_0⟩ := Kd.at_int (Kd.R_reads' HO_7.out).2.2 x10_1 p242 q242
          cases e242
          replace p242 := eq_true p242
          replace q242 := eq_true q242
          have p247 : 0 ≤ (x10_1 : Int) := of_decide_eq_true (by first | (with_reducible assumption) | assumption)
          have q247 : x10_1 < (t233.length : Int) := of_decide_eq_true (by first | (with_reducible assumption) | assumption)
          obtain ⟨ad247, e247, hx247_0⟩ := Kd.at_int (Kd.R_reads' HO_7.out).2.2 x10_1 p247 q247
          obtain rfl : ad242 = ad247 := (by injection e247)
          replace p247 := eq_true p247
          replace q247 := eq_true q247
          go_wp2
          go_roundg k1
          case measure => have := HK1.out; omega
          case rel => exact ⟨(wrap64 (x10_1 + 1)), (x242000_1), (x242001_1), (u242001), (by first | rfl | (simp; done) | (simp [*]; done)), H', ⟨by have := HK1.out; omega⟩, ⟨by (with_reducible repeat (first | apply Kd.R_alloc | apply Kd.R_drewN | apply Kd.R_drew)); exact HO_7.out⟩, ⟨by (with_reducible repeat (first | apply Kd.R_alloc | apply Kd.R_drewN | apply Kd.R_drew)); exact HO_242001.out⟩, ⟨by (with_reducible repeat (first | refine blk_drewN ?_ _ | refine blk_drew ?_ | refine blk_alloc ?_ _)); exact BK232.out⟩, ⟨by (with_reducible repeat (first | refine blk_drewN ?_ _ | refine blk_drew ?_ | refine blk_alloc ?_ _)); exact BK241.out⟩, ⟨by repeat (first | (with_reducible first | exact HB.out | apply below_alloc | apply pw_below_drewN | apply below_drew1 | refine below_set ?_ GE232.out | refine below_set ?_ GE241.out) | exact HB.out)⟩⟩
       ·rw [if_neg c25] at H
        have c25b0 : (a1 == 3) = false := beq_eq_false_iff_ne.mpr c25
        have c25b1 : (a1 != 3) = true := bne_iff_ne.mpr c25
        by_cases c43 : a1 = 5
        ·rw [if_pos c43] at H
         have c43b0 : (a1 == 5) = true := beq_iff_eq.mpr c43
         have c43b1 : (a1 != 5) = false := bne_eq_false_iff_eq.mpr c43
         clear c43
         by_cases c44 : (rd t233 x10_1) > a2
         ·rw [if_pos c44] at H
          have c44b0 : decide (a2 < (rd t233 x10_1)) = true := decide_eq_true c44
          clear c44
          replace H := Option.bind_eq_some_iff.mp H
          obtain ⟨⟨t258, t259⟩, A450, H⟩ := H
          replace H : (laminaref07_Matching.l0 k1 a1 a2 t233 (wrap64 (x10_1 + 1)) t258 t259) = some (r1, r2) := H
          have A45 := Aside0.mk A450
          clear A450
          have H' := Aside0.mk H
          clear H
          have p242 : 0 ≤ (x10_1 : Int) := of_decide_eq_true (by first | (with_reducible assumption) | assumption)
          have q242 : x10_1 < (t233.length : Int) := of_decide_eq_true (by first | (with_reducible assumption) | assumption)
          obtain ⟨ad242, e242, hx242_0⟩ := Kd.at_int (Kd.R_reads' HO_7.out).2.2 x10_1 p242 q242
          cases e242
          replace p242 := eq_true p242
          replace q242 := eq_true q242
          have p257 : 0 ≤ (x10_1 : Int) := of_decide_eq_true (by first | (with_reducible assumption) | assumption)
          have q257 : x10_1 < (t233.length : Int) := of_decide_eq_true (by first | (with_reducible assumption) | assumption)
          obtain ⟨ad257, e257, hx257_0⟩ := Kd.at_int (Kd.R_reads' HO_7.out).2.2 x10_1 p257 q257
          obtain rfl : ad242 = ad257 := (by injection e257)
          replace p257 := eq_true p257
          replace q257 := eq_true q257
          have hnb46 := NB241_232.out
          have hnc46 := NB232_241.out
          have hcz47_0 : wr.cell? ⟨gb241, 0, none⟩ = some (.int .i64 x242000_1) := (blk_cell BK241.out 0).trans rfl
          have hcz47_1 : wr.cell? ⟨gb241, 1, none⟩ = some (u242001) := (blk_cell BK241.out 1).trans rfl
          have hfz47_0 := blk_frozen BK241.out 0
          have hfz47_1 := blk_frozen BK241.out 1
          obtain ⟨Ao48, co48, eo48⟩ := Kd.R_slice HO_242001.out
          subst eo48
          go_wp2_with (first | ((with_reducible refine gate_callee (f := 51) rfl ?_); refine goesL_ (some 61) rfl rfl Try.func51 (by kernel_rfl) rfl #[.agg #[.int .i64 x242000_1, .slice Ao48 x242001_1.length co48], .int .i64 x10_1, .bool true] rfl (by (try simp only [List.map_toArray, List.map_cons, List.map_nil]); first | done | rfl | (simp only [List.length_drop, List.length_take]; rfl)) ?_; (with_reducible refine (laminaref03_Set.calls k1 x242000_1 _ _ x242001_1 x10_1 true t258 t259 _ ?side1 ?side2 A45.out).mono ?_); (case side1 => repeat (first | exact (Kd.R_reads' HO_242001.out).2.2 | (with_reducible refine Kd.C_alloc ?_ _) | (with_reducible refine Kd.C_drewN ?_ _) | (with_reducible refine Kd.C_drew ?_))); (case side2 => exact (Kd.R_reads' HO_242001.out).2.1); rintro e w49 ⟨v260, rfl, ho0, hb⟩; refine ⟨_, rfl, ?_⟩; have n0_ := Aside0.mk (Kd.R_below (by (with_reducible repeat (first | apply Kd.R_alloc | apply Kd.R_drewN | apply Kd.R_drew)); exact HO_7.out) hb); have n1_ := Aside0.mk (Kd.R_elder' (by (with_reducible repeat (first | apply Kd.R_alloc | apply Kd.R_drewN | apply Kd.R_drew)); exact HO_242001.out) (Kd.R_base ho0) hb); have n2_ := Aside0.mk (Kd.R_lower (Kd.R_new' ho0 (Kd.R_lt (by (with_reducible repeat (first | apply Kd.R_alloc | apply Kd.R_drewN | apply Kd.R_drew)); exact HO_242001.out))) (below_size (by repeat (first | (with_reducible first | exact HB.out | apply below_alloc | apply pw_below_drewN | apply below_drew1 | refine below_set ?_ GE232.out | refine below_set ?_ GE241.out) | exact HB.out)))); have n3_ := Aside0.mk (blk_below (g := gb232) (o := .cells #[.int .i64 0, .slice none 0 0] 39 (0, 0)) (by (with_reducible repeat (first | refine blk_drewN ?_ _ | refine blk_drew ?_ | refine blk_alloc ?_ _)); exact BK232.out) hb); have n4_ := Aside0.mk (blk_below (g := gb241) (o := .cells #[.int .i64 x242000_1, .slice Ao48 x242001_1.length co48] 39 (0, 0)) (by (with_reducible repeat (first | refine blk_drewN ?_ _ | refine blk_drew ?_ | refine blk_alloc ?_ _)); exact BK241.out) hb); have n5_ := Aside0.mk (below_step (by repeat (first | (with_reducible first | exact HB.out | apply below_alloc | apply pw_below_drewN | apply below_drew1 | refine below_set ?_ GE232.out | refine below_set ?_ GE241.out) | exact HB.out)) hb); clear HO_7; clear HO_242001; clear BK232; clear BK241; clear HB; have HO_7 := n0_; have HO_242001 := n1_; have HO261 := n2_; have BK232 := n3_; have BK241 := n4_; have HB := n5_; clear n0_ n1_ n2_ n3_ n4_ n5_; (try clear hb); (try clear hb2); (try clear hk); (try clear hi); (try clear ho0); have hcz50_0 : w49.cell? ⟨gb241, 0, none⟩ = some (.int .i64 x242000_1) := (blk_cell BK241.out 0).trans rfl; have hcz50_1 : w49.cell? ⟨gb241, 1, none⟩ = some (.slice Ao48 x242001_1.length co48) := (blk_cell BK241.out 1).trans rfl; have hfz50_0 := blk_frozen BK241.out 0; have hfz50_1 := blk_frozen BK241.out 1; obtain ⟨Ao51, co51, eo51⟩ := Kd.R_slice HO261.out; subst eo51))
          go_roundg k1
          case measure => have := HK1.out; omega
          case rel => exact ⟨(wrap64 (x10_1 + 1)), (t258), (t259), (.slice Ao51 t259.length co51), (by first | rfl | (simp; done) | (simp [*]; done)), H', ⟨by have := HK1.out; omega⟩, ⟨by (with_reducible repeat (first | apply Kd.R_alloc | apply Kd.R_drewN | apply Kd.R_drew)); exact Kd.R_mono (Kd.R_far (p := ⟨gb241, 1, none⟩) (Kd.R_far (p := ⟨gb241, 0, none⟩) (Kd.R_types HO_7.out BK241.out (by decide)) (fun _ hk => hk.2) (.int .i64 t258)) (fun _ hk => hk.2) (.slice Ao51 t259.length co51)) (fun _ hk => trivial)⟩, ⟨by (with_reducible repeat (first | apply Kd.R_alloc | apply Kd.R_drewN | apply Kd.R_drew)); exact Kd.R_mono (Kd.R_far (p := ⟨gb241, 1, none⟩) (Kd.R_far (p := ⟨gb241, 0, none⟩) (Kd.R_types HO261.out BK241.out (by decide)) (fun _ hk => hk.2) (.int .i64 t258)) (fun _ hk => hk.2) (.slice Ao51 t259.length co51)) (fun _ hk => trivial)⟩, ⟨by (with_reducible repeat (first | refine blk_drewN ?_ _ | refine blk_drew ?_ | refine blk_alloc ?_ _)); refine blk_far ?_ NB232_241.out _; (with_reducible repeat (first | refine blk_drewN ?_ _ | refine blk_drew ?_ | refine blk_alloc ?_ _)); refine blk_far ?_ NB232_241.out _; (with_reducible repeat (first | refine blk_drewN ?_ _ | refine blk_drew ?_ | refine blk_alloc ?_ _)); exact BK232.out⟩, ⟨by (with_reducible repeat (first | refine blk_drewN ?_ _ | refine blk_drew ?_ | refine blk_alloc ?_ _)); refine blk_put (cs := #[.int .i64 t258, .slice Ao48 x242001_1.length co48]) ?_ 1 _ rfl; (with_reducible repeat (first | refine blk_drewN ?_ _ | refine blk_drew ?_ | refine blk_alloc ?_ _)); refine blk_put (cs := #[.int .i64 x242000_1, .slice Ao48 x242001_1.length co48]) ?_ 0 _ rfl; (with_reducible repeat (first | refine blk_drewN ?_ _ | refine blk_drew ?_ | refine blk_alloc ?_ _)); exact BK241.out⟩, ⟨by repeat (first | (with_reducible first | exact HB.out | apply below_alloc | apply pw_below_drewN | apply below_drew1 | refine below_set ?_ GE232.out | refine below_set ?_ GE241.out) | exact HB.out)⟩⟩
         ·rw [if_neg c44] at H
          have c44b0 : decide (a2 < (rd t233 x10_1)) = false := decide_eq_false c44
          clear c44
          have H' := Aside0.mk H
          clear H
          have p242 : 0 ≤ (x10_1 : Int) := of_decide_eq_true (by first | (with_reducible assumption) | assumption)
          have q242 : x10_1 < (t233.length : Int) := of_decide_eq_true (by first | (with_reducible assumption) | assumption)
          obtain ⟨ad242, e242, hx242_0⟩ := Kd.at_int (Kd.R_reads' HO_7.out).2.2 x10_1 p242 q242
          cases e242
          replace p242 := eq_true p242
          replace q242 := eq_true q242
          have p257 : 0 ≤ (x10_1 : Int) := of_decide_eq_true (by first | (with_reducible assumption) | assumption)
          have q257 : x10_1 < (t233.length : Int) := of_decide_eq_true (by first | (with_reducible assumption) | assumption)
          obtain ⟨ad257, e257, hx257_0⟩ := Kd.at_int (Kd.R_reads' HO_7.out).2.2 x10_1 p257 q257
          obtain rfl : ad242 = ad257 := (by injection e257)
          replace p257 := eq_true p257
          replace q257 := eq_true q257
          go_wp2
          go_roundg k1
          case measure => have := HK1.out; omega
          case rel => exact ⟨(wrap64 (x10_1 + 1)), (x242000_1), (x242001_1), (u242001), (by first | rfl | (simp; done) | (simp [*]; done)), H', ⟨by have := HK1.out; omega⟩, ⟨by (with_reducible repeat (first | apply Kd.R_alloc | apply Kd.R_drewN | apply Kd.R_drew)); exact HO_7.out⟩, ⟨by (with_reducible repeat (first | apply Kd.R_alloc | apply Kd.R_drewN | apply Kd.R_drew)); exact HO_242001.out⟩, ⟨by (with_reducible repeat (first | refine blk_drewN ?_ _ | refine blk_drew ?_ | refine blk_alloc ?_ _)); exact BK232.out⟩, ⟨by (with_reducible repeat (first | refine blk_drewN ?_ _ | refine blk_drew ?_ | refine blk_alloc ?_ _)); exact BK241.out⟩, ⟨by repeat (first | (with_reducible first | exact HB.out | apply below_alloc | apply pw_below_drewN | apply below_drew1 | refine below_set ?_ GE232.out | refine below_set ?_ GE241.out) | exact HB.out)⟩⟩
        ·rw [if_neg c43] at H
         have c43b0 : (a1 == 5) = false := beq_eq_false_iff_ne.mpr c43
         have c43b1 : (a1 != 5) = true := bne_iff_ne.mpr c43
         have H' := Aside0.mk H
         clear H
         have p242 : 0 ≤ (x10_1 : Int) := of_decide_eq_true (by first | (with_reducible assumption) | assumption)
         have q242 : x10_1 < (t233.length : Int) := of_decide_eq_true (by first | (with_reducible assumption) | assumption)
         obtain ⟨ad242, e242, hx242_0⟩ := Kd.at_int (Kd.R_reads' HO_7.out).2.2 x10_1 p242 q242
         cases e242
         replace p242 := eq_true p242
         replace q242 := eq_true q242
         go_wp2
         go_roundg k1
         case measure => have := HK1.out; omega
         case rel => exact ⟨(wrap64 (x10_1 + 1)), (x242000_1), (x242001_1), (u242001), (by first | rfl | (simp; done) | (simp [*]; done)), H', ⟨by have := HK1.out; omega⟩, ⟨by (with_reducible repeat (first | apply Kd.R_alloc | apply Kd.R_drewN | apply Kd.R_drew)); exact HO_7.out⟩, ⟨by (with_reducible repeat (first | apply Kd.R_alloc | apply Kd.R_drewN | apply Kd.R_drew)); exact HO_242001.out⟩, ⟨by (with_reducible repeat (first | refine blk_drewN ?_ _ | refine blk_drew ?_ | refine blk_alloc ?_ _)); exact BK232.out⟩, ⟨by (with_reducible repeat (first | refine blk_drewN ?_ _ | refine blk_drew ?_ | refine blk_alloc ?_ _)); exact BK241.out⟩, ⟨by repeat (first | (with_reducible first | exact HB.out | apply below_alloc | apply pw_below_drewN | apply below_drew1 | refine below_set ?_ GE232.out | refine below_set ?_ GE241.out) | exact HB.out)⟩⟩
     ·rw [if_neg c16] at H
      exact absurd H (by simp)
    ·rw [if_neg c15] at H
     have c15b0 : (a1 == 1) = false := beq_eq_false_iff_ne.mpr c15
     have c15b1 : (a1 != 1) = true := bne_iff_ne.mpr c15
     by_cases c52 : a1 = 3
     ·rw [if_pos c52] at H
      have c52b0 : (a1 == 3) = true := beq_iff_eq.mpr c52
      have c52b1 : (a1 != 3) = false := bne_eq_false_iff_eq.mpr c52
      clear c52
      by_cases c53 : 0 ≤ x10_1
      ·rw [if_pos c53] at H
       have c53b0 : decide (0 ≤ x10_1) = true := decide_eq_true c53
       clear c53
       by_cases c54 : (rd t233 x10_1) < a2
       ·rw [if_pos c54] at H
        have c54b0 : decide ((rd t233 x10_1) < a2) = true := decide_eq_true c54
        clear c54
        replace H := Option.bind_eq_some_iff.mp H
        obtain ⟨⟨t263, t264⟩, A550, H⟩ := H
        replace H : (laminaref07_Matching.l0 k1 a1 a2 t233 (wrap64 (x10_1 + 1)) t263 t264) = some (r1, r2) := H
        have A55 := Aside0.mk A550
        clear A550
        have H' := Aside0.mk H
        clear H
        have p262 : 0 ≤ (x10_1 : Int) := of_decide_eq_true (by first | (with_reducible assumption) | assumption)
        have q262 : x10_1 < (t233.length : Int) := of_decide_eq_true (by first | (with_reducible assumption) | assumption)
        obtain ⟨ad262, e262, hx262_0⟩ := Kd.at_int (Kd.R_reads' HO_7.out).2.2 x10_1 p262 q262
        cases e262
        replace p262 := eq_true p262
        replace q262 := eq_true q262
        have hnb56 := NB241_232.out
        have hnc56 := NB232_241.out
        have hcz57_0 : wr.cell? ⟨gb241, 0, none⟩ = some (.int .i64 x242000_1) := (blk_cell BK241.out 0).trans rfl
        have hcz57_1 : wr.cell? ⟨gb241, 1, none⟩ = some (u242001) := (blk_cell BK241.out 1).trans rfl
        have hfz57_0 := blk_frozen BK241.out 0
        have hfz57_1 := blk_frozen BK241.out 1
        obtain ⟨Ao58, co58, eo58⟩ := Kd.R_slice HO_242001.out
        subst eo58
        go_wp2_with (first | ((with_reducible refine gate_callee (f := 51) rfl ?_); refine goesL_ (some 61) rfl rfl Try.func51 (by kernel_rfl) rfl #[.agg #[.int .i64 x242000_1, .slice Ao58 x242001_1.length co58], .int .i64 x10_1, .bool true] rfl (by (try simp only [List.map_toArray, List.map_cons, List.map_nil]); first | done | rfl | (simp only [List.length_drop, List.length_take]; rfl)) ?_; (with_reducible refine (laminaref03_Set.calls k1 x242000_1 _ _ x242001_1 x10_1 true t263 t264 _ ?side1 ?side2 A55.out).mono ?_); (case side1 => repeat (first | exact (Kd.R_reads' HO_242001.out).2.2 | (with_reducible refine Kd.C_alloc ?_ _) | (with_reducible refine Kd.C_drewN ?_ _) | (with_reducible refine Kd.C_drew ?_))); (case side2 => exact (Kd.R_reads' HO_242001.out).2.1); rintro e w59 ⟨v265, rfl, ho0, hb⟩; refine ⟨_, rfl, ?_⟩; have n0_ := Aside0.mk (Kd.R_below (by (with_reducible repeat (first | apply Kd.R_alloc | apply Kd.R_drewN | apply Kd.R_drew)); exact HO_7.out) hb); have n1_ := Aside0.mk (Kd.R_elder' (by (with_reducible repeat (first | apply Kd.R_alloc | apply Kd.R_drewN | apply Kd.R_drew)); exact HO_242001.out) (Kd.R_base ho0) hb); have n2_ := Aside0.mk (Kd.R_lower (Kd.R_new' ho0 (Kd.R_lt (by (with_reducible repeat (first | apply Kd.R_alloc | apply Kd.R_drewN | apply Kd.R_drew)); exact HO_242001.out))) (below_size (by repeat (first | (with_reducible first | exact HB.out | apply below_alloc | apply pw_below_drewN | apply below_drew1 | refine below_set ?_ GE232.out | refine below_set ?_ GE241.out) | exact HB.out)))); have n3_ := Aside0.mk (blk_below (g := gb232) (o := .cells #[.int .i64 0, .slice none 0 0] 39 (0, 0)) (by (with_reducible repeat (first | refine blk_drewN ?_ _ | refine blk_drew ?_ | refine blk_alloc ?_ _)); exact BK232.out) hb); have n4_ := Aside0.mk (blk_below (g := gb241) (o := .cells #[.int .i64 x242000_1, .slice Ao58 x242001_1.length co58] 39 (0, 0)) (by (with_reducible repeat (first | refine blk_drewN ?_ _ | refine blk_drew ?_ | refine blk_alloc ?_ _)); exact BK241.out) hb); have n5_ := Aside0.mk (below_step (by repeat (first | (with_reducible first | exact HB.out | apply below_alloc | apply pw_below_drewN | apply below_drew1 | refine below_set ?_ GE232.out | refine below_set ?_ GE241.out) | exact HB.out)) hb); clear HO_7; clear HO_242001; clear BK232; clear BK241; clear HB; have HO_7 := n0_; have HO_242001 := n1_; have HO266 := n2_; have BK232 := n3_; have BK241 := n4_; have HB := n5_; clear n0_ n1_ n2_ n3_ n4_ n5_; (try clear hb); (try clear hb2); (try clear hk); (try clear hi); (try clear ho0); have hcz60_0 : w59.cell? ⟨gb241, 0, none⟩ = some (.int .i64 x242000_1) := (blk_cell BK241.out 0).trans rfl; have hcz60_1 : w59.cell? ⟨gb241, 1, none⟩ = some (.slice Ao58 x242001_1.length co58) := (blk_cell BK241.out 1).trans rfl; have hfz60_0 := blk_frozen BK241.out 0; have hfz60_1 := blk_frozen BK241.out 1; obtain ⟨Ao61, co61, eo61⟩ := Kd.R_slice HO266.out; subst eo61))
        go_roundg k1
        case measure => have := HK1.out; omega
        case rel => exact ⟨(wrap64 (x10_1 + 1)), (t263), (t264), (.slice Ao61 t264.length co61), (by first | rfl | (simp; done) | (simp [*]; done)), H', ⟨by have := HK1.out; omega⟩, ⟨by (with_reducible repeat (first | apply Kd.R_alloc | apply Kd.R_drewN | apply Kd.R_drew)); exact Kd.R_mono (Kd.R_far (p := ⟨gb241, 1, none⟩) (Kd.R_far (p := ⟨gb241, 0, none⟩) (Kd.R_types HO_7.out BK241.out (by decide)) (fun _ hk => hk.2) (.int .i64 t263)) (fun _ hk => hk.2) (.slice Ao61 t264.length co61)) (fun _ hk => trivial)⟩, ⟨by (with_reducible repeat (first | apply Kd.R_alloc | apply Kd.R_drewN | apply Kd.R_drew)); exact Kd.R_mono (Kd.R_far (p := ⟨gb241, 1, none⟩) (Kd.R_far (p := ⟨gb241, 0, none⟩) (Kd.R_types HO266.out BK241.out (by decide)) (fun _ hk => hk.2) (.int .i64 t263)) (fun _ hk => hk.2) (.slice Ao61 t264.length co61)) (fun _ hk => trivial)⟩, ⟨by (with_reducible repeat (first | refine blk_drewN ?_ _ | refine blk_drew ?_ | refine blk_alloc ?_ _)); refine blk_far ?_ NB232_241.out _; (with_reducible repeat (first | refine blk_drewN ?_ _ | refine blk_drew ?_ | refine blk_alloc ?_ _)); refine blk_far ?_ NB232_241.out _; (with_reducible repeat (first | refine blk_drewN ?_ _ | refine blk_drew ?_ | refine blk_alloc ?_ _)); exact BK232.out⟩, ⟨by (with_reducible repeat (first | refine blk_drewN ?_ _ | refine blk_drew ?_ | refine blk_alloc ?_ _)); refine blk_put (cs := #[.int .i64 t263, .slice Ao58 x242001_1.length co58]) ?_ 1 _ rfl; (with_reducible repeat (first | refine blk_drewN ?_ _ | refine blk_drew ?_ | refine blk_alloc ?_ _)); refine blk_put (cs := #[.int .i64 x242000_1, .slice Ao58 x242001_1.length co58]) ?_ 0 _ rfl; (with_reducible repeat (first | refine blk_drewN ?_ _ | refine blk_drew ?_ | refine blk_alloc ?_ _)); exact BK241.out⟩, ⟨by repeat (first | (with_reducible first | exact HB.out | apply below_alloc | apply pw_below_drewN | apply below_drew1 | refine below_set ?_ GE232.out | refine below_set ?_ GE241.out) | exact HB.out)⟩⟩
       ·rw [if_neg c54] at H
        have c54b0 : decide ((rd t233 x10_1) < a2) = false := decide_eq_false c54
        clear c54
        by_cases c62 : a1 = 5
        ·rw [if_pos c62] at H
         have c62b0 : (a1 == 5) = true := beq_iff_eq.mpr c62
         have c62b1 : (a1 != 5) = false := bne_eq_false_iff_eq.mpr c62
         clear c62
         by_cases c63 : (rd t233 x10_1) > a2
         ·rw [if_pos c63] at H
          have c63b0 : decide (a2 < (rd t233 x10_1)) = true := decide_eq_true c63
          clear c63
          replace H := Option.bind_eq_some_iff.mp H
          obtain ⟨⟨t268, t269⟩, A640, H⟩ := H
          replace H : (laminaref07_Matching.l0 k1 a1 a2 t233 (wrap64 (x10_1 + 1)) t268 t269) = some (r1, r2) := H
          have A64 := Aside0.mk A640
          clear A640
          have H' := Aside0.mk H
          clear H
          have p262 : 0 ≤ (x10_1 : Int) := of_decide_eq_true (by first | (with_reducible assumption) | assumption)
          have q262 : x10_1 < (t233.length : Int) := of_decide_eq_true (by first | (with_reducible assumption) | assumption)
          obtain ⟨ad262, e262, hx262_0⟩ := Kd.at_int (Kd.R_reads' HO_7.out).2.2 x10_1 p262 q262
          cases e262
          replace p262 := eq_true p262
          replace q262 := eq_true q262
          have p267 : 0 ≤ (x10_1 : Int) := of_decide_eq_true (by first | (with_reducible assumption) | assumption)
          have q267 : x10_1 < (t233.length : Int) := of_decide_eq_true (by first | (with_reducible assumption) | assumption)
          obtain ⟨ad267, e267, hx267_0⟩ := Kd.at_int (Kd.R_reads' HO_7.out).2.2 x10_1 p267 q267
          obtain rfl : ad262 = ad267 := (by injection e267)
          replace p267 := eq_true p267
          replace q267 := eq_true q267
          have hnb65 := NB241_232.out
          have hnc65 := NB232_241.out
          have hcz66_0 : wr.cell? ⟨gb241, 0, none⟩ = some (.int .i64 x242000_1) := (blk_cell BK241.out 0).trans rfl
          have hcz66_1 : wr.cell? ⟨gb241, 1, none⟩ = some (u242001) := (blk_cell BK241.out 1).trans rfl
          have hfz66_0 := blk_frozen BK241.out 0
          have hfz66_1 := blk_frozen BK241.out 1
          obtain ⟨Ao67, co67, eo67⟩ := Kd.R_slice HO_242001.out
          subst eo67
          go_wp2_with (first | ((with_reducible refine gate_callee (f := 51) rfl ?_); refine goesL_ (some 61) rfl rfl Try.func51 (by kernel_rfl) rfl #[.agg #[.int .i64 x242000_1, .slice Ao67 x242001_1.length co67], .int .i64 x10_1, .bool true] rfl (by (try simp only [List.map_toArray, List.map_cons, List.map_nil]); first | done | rfl | (simp only [List.length_drop, List.length_take]; rfl)) ?_; (with_reducible refine (laminaref03_Set.calls k1 x242000_1 _ _ x242001_1 x10_1 true t268 t269 _ ?side1 ?side2 A64.out).mono ?_); (case side1 => repeat (first | exact (Kd.R_reads' HO_242001.out).2.2 | (with_reducible refine Kd.C_alloc ?_ _) | (with_reducible refine Kd.C_drewN ?_ _) | (with_reducible refine Kd.C_drew ?_))); (case side2 => exact (Kd.R_reads' HO_242001.out).2.1); rintro e w68 ⟨v270, rfl, ho0, hb⟩; refine ⟨_, rfl, ?_⟩; have n0_ := Aside0.mk (Kd.R_below (by (with_reducible repeat (first | apply Kd.R_alloc | apply Kd.R_drewN | apply Kd.R_drew)); exact HO_7.out) hb); have n1_ := Aside0.mk (Kd.R_elder' (by (with_reducible repeat (first | apply Kd.R_alloc | apply Kd.R_drewN | apply Kd.R_drew)); exact HO_242001.out) (Kd.R_base ho0) hb); have n2_ := Aside0.mk (Kd.R_lower (Kd.R_new' ho0 (Kd.R_lt (by (with_reducible repeat (first | apply Kd.R_alloc | apply Kd.R_drewN | apply Kd.R_drew)); exact HO_242001.out))) (below_size (by repeat (first | (with_reducible first | exact HB.out | apply below_alloc | apply pw_below_drewN | apply below_drew1 | refine below_set ?_ GE232.out | refine below_set ?_ GE241.out) | exact HB.out)))); have n3_ := Aside0.mk (blk_below (g := gb232) (o := .cells #[.int .i64 0, .slice none 0 0] 39 (0, 0)) (by (with_reducible repeat (first | refine blk_drewN ?_ _ | refine blk_drew ?_ | refine blk_alloc ?_ _)); exact BK232.out) hb); have n4_ := Aside0.mk (blk_below (g := gb241) (o := .cells #[.int .i64 x242000_1, .slice Ao67 x242001_1.length co67] 39 (0, 0)) (by (with_reducible repeat (first | refine blk_drewN ?_ _ | refine blk_drew ?_ | refine blk_alloc ?_ _)); exact BK241.out) hb); have n5_ := Aside0.mk (below_step (by repeat (first | (with_reducible first | exact HB.out | apply below_alloc | apply pw_below_drewN | apply below_drew1 | refine below_set ?_ GE232.out | refine below_set ?_ GE241.out) | exact HB.out)) hb); clear HO_7; clear HO_242001; clear BK232; clear BK241; clear HB; have HO_7 := n0_; have HO_242001 := n1_; have HO271 := n2_; have BK232 := n3_; have BK241 := n4_; have HB := n5_; clear n0_ n1_ n2_ n3_ n4_ n5_; (try clear hb); (try clear hb2); (try clear hk); (try clear hi); (try clear ho0); have hcz69_0 : w68.cell? ⟨gb241, 0, none⟩ = some (.int .i64 x242000_1) := (blk_cell BK241.out 0).trans rfl; have hcz69_1 : w68.cell? ⟨gb241, 1, none⟩ = some (.slice Ao67 x242001_1.length co67) := (blk_cell BK241.out 1).trans rfl; have hfz69_0 := blk_frozen BK241.out 0; have hfz69_1 := blk_frozen BK241.out 1; obtain ⟨Ao70, co70, eo70⟩ := Kd.R_slice HO271.out; subst eo70))
          go_roundg k1
          case measure => have := HK1.out; omega
          case rel => exact ⟨(wrap64 (x10_1 + 1)), (t268), (t269), (.slice Ao70 t269.length co70), (by first | rfl | (simp; done) | (simp [*]; done)), H', ⟨by have := HK1.out; omega⟩, ⟨by (with_reducible repeat (first | apply Kd.R_alloc | apply Kd.R_drewN | apply Kd.R_drew)); exact Kd.R_mono (Kd.R_far (p := ⟨gb241, 1, none⟩) (Kd.R_far (p := ⟨gb241, 0, none⟩) (Kd.R_types HO_7.out BK241.out (by decide)) (fun _ hk => hk.2) (.int .i64 t268)) (fun _ hk => hk.2) (.slice Ao70 t269.length co70)) (fun _ hk => trivial)⟩, ⟨by (with_reducible repeat (first | apply Kd.R_alloc | apply Kd.R_drewN | apply Kd.R_drew)); exact Kd.R_mono (Kd.R_far (p := ⟨gb241, 1, none⟩) (Kd.R_far (p := ⟨gb241, 0, none⟩) (Kd.R_types HO271.out BK241.out (by decide)) (fun _ hk => hk.2) (.int .i64 t268)) (fun _ hk => hk.2) (.slice Ao70 t269.length co70)) (fun _ hk => trivial)⟩, ⟨by (with_reducible repeat (first | refine blk_drewN ?_ _ | refine blk_drew ?_ | refine blk_alloc ?_ _)); refine blk_far ?_ NB232_241.out _; (with_reducible repeat (first | refine blk_drewN ?_ _ | refine blk_drew ?_ | refine blk_alloc ?_ _)); refine blk_far ?_ NB232_241.out _; (with_reducible repeat (first | refine blk_drewN ?_ _ | refine blk_drew ?_ | refine blk_alloc ?_ _)); exact BK232.out⟩, ⟨by (with_reducible repeat (first | refine blk_drewN ?_ _ | refine blk_drew ?_ | refine blk_alloc ?_ _)); refine blk_put (cs := #[.int .i64 t268, .slice Ao67 x242001_1.length co67]) ?_ 1 _ rfl; (with_reducible repeat (first | refine blk_drewN ?_ _ | refine blk_drew ?_ | refine blk_alloc ?_ _)); refine blk_put (cs := #[.int .i64 x242000_1, .slice Ao67 x242001_1.length co67]) ?_ 0 _ rfl; (with_reducible repeat (first | refine blk_drewN ?_ _ | refine blk_drew ?_ | refine blk_alloc ?_ _)); exact BK241.out⟩, ⟨by repeat (first | (with_reducible first | exact HB.out | apply below_alloc | apply pw_below_drewN | apply below_drew1 | refine below_set ?_ GE232.out | refine below_set ?_ GE241.out) | exact HB.out)⟩⟩
         ·rw [if_neg c63] at H
          have c63b0 : decide (a2 < (rd t233 x10_1)) = false := decide_eq_false c63
          clear c63
          have H' := Aside0.mk H
          clear H
          have p262 : 0 ≤ (x10_1 : Int) := of_decide_eq_true (by first | (with_reducible assumption) | assumption)
          have q262 : x10_1 < (t233.length : Int) := of_decide_eq_true (by first | (with_reducible assumption) | assumption)
          obtain ⟨ad262, e262, hx262_0⟩ := Kd.at_int (Kd.R_reads' HO_7.out).2.2 x10_1 p262 q262
          cases e262
          replace p262 := eq_true p262
          replace q262 := eq_true q262
          have p267 : 0 ≤ (x10_1 : Int) := of_decide_eq_true (by first | (with_reducible assumption) | assumption)
          have q267 : x10_1 < (t233.length : Int) := of_decide_eq_true (by first | (with_reducible assumption) | assumption)
          obtain ⟨ad267, e267, hx267_0⟩ := Kd.at_int (Kd.R_reads' HO_7.out).2.2 x10_1 p267 q267
          obtain rfl : ad262 = ad267 := (by injection e267)
          replace p267 := eq_true p267
          replace q267 := eq_true q267
          go_wp2
          go_roundg k1
          case measure => have := HK1.out; omega
          case rel => exact ⟨(wrap64 (x10_1 + 1)), (x242000_1), (x242001_1), (u242001), (by first | rfl | (simp; done) | (simp [*]; done)), H', ⟨by have := HK1.out; omega⟩, ⟨by (with_reducible repeat (first | apply Kd.R_alloc | apply Kd.R_drewN | apply Kd.R_drew)); exact HO_7.out⟩, ⟨by (with_reducible repeat (first | apply Kd.R_alloc | apply Kd.R_drewN | apply Kd.R_drew)); exact HO_242001.out⟩, ⟨by (with_reducible repeat (first | refine blk_drewN ?_ _ | refine blk_drew ?_ | refine blk_alloc ?_ _)); exact BK232.out⟩, ⟨by (with_reducible repeat (first | refine blk_drewN ?_ _ | refine blk_drew ?_ | refine blk_alloc ?_ _)); exact BK241.out⟩, ⟨by repeat (first | (with_reducible first | exact HB.out | apply below_alloc | apply pw_below_drewN | apply below_drew1 | refine below_set ?_ GE232.out | refine below_set ?_ GE241.out) | exact HB.out)⟩⟩
        ·rw [if_neg c62] at H
         have c62b0 : (a1 == 5) = false := beq_eq_false_iff_ne.mpr c62
         have c62b1 : (a1 != 5) = true := bne_iff_ne.mpr c62
         have H' := Aside0.mk H
         clear H
         have p262 : 0 ≤ (x10_1 : Int) := of_decide_eq_true (by first | (with_reducible assumption) | assumption)
         have q262 : x10_1 < (t233.length : Int) := of_decide_eq_true (by first | (with_reducible assumption) | assumption)
         obtain ⟨ad262, e262, hx262_0⟩ := Kd.at_int (Kd.R_reads' HO_7.out).2.2 x10_1 p262 q262
         cases e262
         replace p262 := eq_true p262
         replace q262 := eq_true q262
         go_wp2
         go_roundg k1
         case measure => have := HK1.out; omega
         case rel => exact ⟨(wrap64 (x10_1 + 1)), (x242000_1), (x242001_1), (u242001), (by first | rfl | (simp; done) | (simp [*]; done)), H', ⟨by have := HK1.out; omega⟩, ⟨by (with_reducible repeat (first | apply Kd.R_alloc | apply Kd.R_drewN | apply Kd.R_drew)); exact HO_7.out⟩, ⟨by (with_reducible repeat (first | apply Kd.R_alloc | apply Kd.R_drewN | apply Kd.R_drew)); exact HO_242001.out⟩, ⟨by (with_reducible repeat (first | refine blk_drewN ?_ _ | refine blk_drew ?_ | refine blk_alloc ?_ _)); exact BK232.out⟩, ⟨by (with_reducible repeat (first | refine blk_drewN ?_ _ | refine blk_drew ?_ | refine blk_alloc ?_ _)); exact BK241.out⟩, ⟨by repeat (first | (with_reducible first | exact HB.out | apply below_alloc | apply pw_below_drewN | apply below_drew1 | refine below_set ?_ GE232.out | refine below_set ?_ GE241.out) | exact HB.out)⟩⟩
      ·rw [if_neg c53] at H
       exact absurd H (by simp)
     ·rw [if_neg c52] at H
      have c52b0 : (a1 == 3) = false := beq_eq_false_iff_ne.mpr c52
      have c52b1 : (a1 != 3) = true := bne_iff_ne.mpr c52
      by_cases c71 : a1 = 5
      ·rw [if_pos c71] at H
       have c71b0 : (a1 == 5) = true := beq_iff_eq.mpr c71
       have c71b1 : (a1 != 5) = false := bne_eq_false_iff_eq.mpr c71
       clear c71
       by_cases c72 : 0 ≤ x10_1
       ·rw [if_pos c72] at H
        have c72b0 : decide (0 ≤ x10_1) = true := decide_eq_true c72
        clear c72
        by_cases c73 : (rd t233 x10_1) > a2
        ·rw [if_pos c73] at H
         have c73b0 : decide (a2 < (rd t233 x10_1)) = true := decide_eq_true c73
         clear c73
         replace H := Option.bind_eq_some_iff.mp H
         obtain ⟨⟨t273, t274⟩, A740, H⟩ := H
         replace H : (laminaref07_Matching.l0 k1 a1 a2 t233 (wrap64 (x10_1 + 1)) t273 t274) = some (r1, r2) := H
         have A74 := Aside0.mk A740
         clear A740
         have H' := Aside0.mk H
         clear H
         have p272 : 0 ≤ (x10_1 : Int) := of_decide_eq_true (by first | (with_reducible assumption) | assumption)
         have q272 : x10_1 < (t233.length : Int) := of_decide_eq_true (by first | (with_reducible assumption) | assumption)
         obtain ⟨ad272, e272, hx272_0⟩ := Kd.at_int (Kd.R_reads' HO_7.out).2.2 x10_1 p272 q272
         cases e272
         replace p272 := eq_true p272
         replace q272 := eq_true q272
         have hnb75 := NB241_232.out
         have hnc75 := NB232_241.out
         have hcz76_0 : wr.cell? ⟨gb241, 0, none⟩ = some (.int .i64 x242000_1) := (blk_cell BK241.out 0).trans rfl
         have hcz76_1 : wr.cell? ⟨gb241, 1, none⟩ = some (u242001) := (blk_cell BK241.out 1).trans rfl
         have hfz76_0 := blk_frozen BK241.out 0
         have hfz76_1 := blk_frozen BK241.out 1
         obtain ⟨Ao77, co77, eo77⟩ := Kd.R_slice HO_242001.out
         subst eo77
         go_wp2_with (first | ((with_reducible refine gate_callee (f := 51) rfl ?_); refine goesL_ (some 61) rfl rfl Try.func51 (by kernel_rfl) rfl #[.agg #[.int .i64 x242000_1, .slice Ao77 x242001_1.length co77], .int .i64 x10_1, .bool true] rfl (by (try simp only [List.map_toArray, List.map_cons, List.map_nil]); first | done | rfl | (simp only [List.length_drop, List.length_take]; rfl)) ?_; (with_reducible refine (laminaref03_Set.calls k1 x242000_1 _ _ x242001_1 x10_1 true t273 t274 _ ?side1 ?side2 A74.out).mono ?_); (case side1 => repeat (first | exact (Kd.R_reads' HO_242001.out).2.2 | (with_reducible refine Kd.C_alloc ?_ _) | (with_reducible refine Kd.C_drewN ?_ _) | (with_reducible refine Kd.C_drew ?_))); (case side2 => exact (Kd.R_reads' HO_242001.out).2.1); rintro e w78 ⟨v275, rfl, ho0, hb⟩; refine ⟨_, rfl, ?_⟩; have n0_ := Aside0.mk (Kd.R_below (by (with_reducible repeat (first | apply Kd.R_alloc | apply Kd.R_drewN | apply Kd.R_drew)); exact HO_7.out) hb); have n1_ := Aside0.mk (Kd.R_elder' (by (with_reducible repeat (first | apply Kd.R_alloc | apply Kd.R_drewN | apply Kd.R_drew)); exact HO_242001.out) (Kd.R_base ho0) hb); have n2_ := Aside0.mk (Kd.R_lower (Kd.R_new' ho0 (Kd.R_lt (by (with_reducible repeat (first | apply Kd.R_alloc | apply Kd.R_drewN | apply Kd.R_drew)); exact HO_242001.out))) (below_size (by repeat (first | (with_reducible first | exact HB.out | apply below_alloc | apply pw_below_drewN | apply below_drew1 | refine below_set ?_ GE232.out | refine below_set ?_ GE241.out) | exact HB.out)))); have n3_ := Aside0.mk (blk_below (g := gb232) (o := .cells #[.int .i64 0, .slice none 0 0] 39 (0, 0)) (by (with_reducible repeat (first | refine blk_drewN ?_ _ | refine blk_drew ?_ | refine blk_alloc ?_ _)); exact BK232.out) hb); have n4_ := Aside0.mk (blk_below (g := gb241) (o := .cells #[.int .i64 x242000_1, .slice Ao77 x242001_1.length co77] 39 (0, 0)) (by (with_reducible repeat (first | refine blk_drewN ?_ _ | refine blk_drew ?_ | refine blk_alloc ?_ _)); exact BK241.out) hb); have n5_ := Aside0.mk (below_step (by repeat (first | (with_reducible first | exact HB.out | apply below_alloc | apply pw_below_drewN | apply below_drew1 | refine below_set ?_ GE232.out | refine below_set ?_ GE241.out) | exact HB.out)) hb); clear HO_7; clear HO_242001; clear BK232; clear BK241; clear HB; have HO_7 := n0_; have HO_242001 := n1_; have HO276 := n2_; have BK232 := n3_; have BK241 := n4_; have HB := n5_; clear n0_ n1_ n2_ n3_ n4_ n5_; (try clear hb); (try clear hb2); (try clear hk); (try clear hi); (try clear ho0); have hcz79_0 : w78.cell? ⟨gb241, 0, none⟩ = some (.int .i64 x242000_1) := (blk_cell BK241.out 0).trans rfl; have hcz79_1 : w78.cell? ⟨gb241, 1, none⟩ = some (.slice Ao77 x242001_1.length co77) := (blk_cell BK241.out 1).trans rfl; have hfz79_0 := blk_frozen BK241.out 0; have hfz79_1 := blk_frozen BK241.out 1; obtain ⟨Ao80, co80, eo80⟩ := Kd.R_slice HO276.out; subst eo80))
         go_roundg k1
         case measure => have := HK1.out; omega
         case rel => exact ⟨(wrap64 (x10_1 + 1)), (t273), (t274), (.slice Ao80 t274.length co80), (by first | rfl | (simp; done) | (simp [*]; done)), H', ⟨by have := HK1.out; omega⟩, ⟨by (with_reducible repeat (first | apply Kd.R_alloc | apply Kd.R_drewN | apply Kd.R_drew)); exact Kd.R_mono (Kd.R_far (p := ⟨gb241, 1, none⟩) (Kd.R_far (p := ⟨gb241, 0, none⟩) (Kd.R_types HO_7.out BK241.out (by decide)) (fun _ hk => hk.2) (.int .i64 t273)) (fun _ hk => hk.2) (.slice Ao80 t274.length co80)) (fun _ hk => trivial)⟩, ⟨by (with_reducible repeat (first | apply Kd.R_alloc | apply Kd.R_drewN | apply Kd.R_drew)); exact Kd.R_mono (Kd.R_far (p := ⟨gb241, 1, none⟩) (Kd.R_far (p := ⟨gb241, 0, none⟩) (Kd.R_types HO276.out BK241.out (by decide)) (fun _ hk => hk.2) (.int .i64 t273)) (fun _ hk => hk.2) (.slice Ao80 t274.length co80)) (fun _ hk => trivial)⟩, ⟨by (with_reducible repeat (first | refine blk_drewN ?_ _ | refine blk_drew ?_ | refine blk_alloc ?_ _)); refine blk_far ?_ NB232_241.out _; (with_reducible repeat (first | refine blk_drewN ?_ _ | refine blk_drew ?_ | refine blk_alloc ?_ _)); refine blk_far ?_ NB232_241.out _; (with_reducible repeat (first | refine blk_drewN ?_ _ | refine blk_drew ?_ | refine blk_alloc ?_ _)); exact BK232.out⟩, ⟨by (with_reducible repeat (first | refine blk_drewN ?_ _ | refine blk_drew ?_ | refine blk_alloc ?_ _)); refine blk_put (cs := #[.int .i64 t273, .slice Ao77 x242001_1.length co77]) ?_ 1 _ rfl; (with_reducible repeat (first | refine blk_drewN ?_ _ | refine blk_drew ?_ | refine blk_alloc ?_ _)); refine blk_put (cs := #[.int .i64 x242000_1, .slice Ao77 x242001_1.length co77]) ?_ 0 _ rfl; (with_reducible repeat (first | refine blk_drewN ?_ _ | refine blk_drew ?_ | refine blk_alloc ?_ _)); exact BK241.out⟩, ⟨by repeat (first | (with_reducible first | exact HB.out | apply below_alloc | apply pw_below_drewN | apply below_drew1 | refine below_set ?_ GE232.out | refine below_set ?_ GE241.out) | exact HB.out)⟩⟩
        ·rw [if_neg c73] at H
         have c73b0 : decide (a2 < (rd t233 x10_1)) = false := decide_eq_false c73
         clear c73
         have H' := Aside0.mk H
         clear H
         have p272 : 0 ≤ (x10_1 : Int) := of_decide_eq_true (by first | (with_reducible assumption) | assumption)
         have q272 : x10_1 < (t233.length : Int) := of_decide_eq_true (by first | (with_reducible assumption) | assumption)
         obtain ⟨ad272, e272, hx272_0⟩ := Kd.at_int (Kd.R_reads' HO_7.out).2.2 x10_1 p272 q272
         cases e272
         replace p272 := eq_true p272
         replace q272 := eq_true q272
         go_wp2
         go_roundg k1
         case measure => have := HK1.out; omega
         case rel => exact ⟨(wrap64 (x10_1 + 1)), (x242000_1), (x242001_1), (u242001), (by first | rfl | (simp; done) | (simp [*]; done)), H', ⟨by have := HK1.out; omega⟩, ⟨by (with_reducible repeat (first | apply Kd.R_alloc | apply Kd.R_drewN | apply Kd.R_drew)); exact HO_7.out⟩, ⟨by (with_reducible repeat (first | apply Kd.R_alloc | apply Kd.R_drewN | apply Kd.R_drew)); exact HO_242001.out⟩, ⟨by (with_reducible repeat (first | refine blk_drewN ?_ _ | refine blk_drew ?_ | refine blk_alloc ?_ _)); exact BK232.out⟩, ⟨by (with_reducible repeat (first | refine blk_drewN ?_ _ | refine blk_drew ?_ | refine blk_alloc ?_ _)); exact BK241.out⟩, ⟨by repeat (first | (with_reducible first | exact HB.out | apply below_alloc | apply pw_below_drewN | apply below_drew1 | refine below_set ?_ GE232.out | refine below_set ?_ GE241.out) | exact HB.out)⟩⟩
       ·rw [if_neg c72] at H
        exact absurd H (by simp)
      ·rw [if_neg c71] at H
       have c71b0 : (a1 == 5) = false := beq_eq_false_iff_ne.mpr c71
       have c71b1 : (a1 != 5) = true := bne_iff_ne.mpr c71
       have H' := Aside0.mk H
       clear H
       go_wp2
       go_roundg k1
       case measure => have := HK1.out; omega
       case rel => exact ⟨(wrap64 (x10_1 + 1)), (x242000_1), (x242001_1), (u242001), (by first | rfl | (simp; done) | (simp [*]; done)), H', ⟨by have := HK1.out; omega⟩, ⟨by (with_reducible repeat (first | apply Kd.R_alloc | apply Kd.R_drewN | apply Kd.R_drew)); exact HO_7.out⟩, ⟨by (with_reducible repeat (first | apply Kd.R_alloc | apply Kd.R_drewN | apply Kd.R_drew)); exact HO_242001.out⟩, ⟨by (with_reducible repeat (first | refine blk_drewN ?_ _ | refine blk_drew ?_ | refine blk_alloc ?_ _)); exact BK232.out⟩, ⟨by (with_reducible repeat (first | refine blk_drewN ?_ _ | refine blk_drew ?_ | refine blk_alloc ?_ _)); exact BK241.out⟩, ⟨by repeat (first | (with_reducible first | exact HB.out | apply below_alloc | apply pw_below_drewN | apply below_drew1 | refine below_set ?_ GE232.out | refine below_set ?_ GE241.out) | exact HB.out)⟩⟩
   ·rw [if_neg c14] at H
    have c14b0 : decide (x10_1 < (t233.length : Int)) = false := decide_eq_false c14
    clear c14
    simp only [Option.some.injEq, Prod.mk.injEq] at H
    obtain ⟨rfl, rfl⟩ := H
    have hnb81 := NB241_232.out
    have hnc81 := NB232_241.out
    have hcz82_0 : wr.cell? ⟨gb241, 0, none⟩ = some (.int .i64 x242000_1) := (blk_cell BK241.out 0).trans rfl
    have hcz82_1 : wr.cell? ⟨gb241, 1, none⟩ = some (u242001) := (blk_cell BK241.out 1).trans rfl
    have hfz82_0 := blk_frozen BK241.out 0
    have hfz82_1 := blk_frozen BK241.out 1
    have hcz83_0 : wr.cell? ⟨gb232, 0, none⟩ = some (.int .i64 0) := (blk_cell BK232.out 0).trans rfl
    have hcz83_1 : wr.cell? ⟨gb232, 1, none⟩ = some (.slice none 0 0) := (blk_cell BK232.out 1).trans rfl
    have hfz83_0 := blk_frozen BK232.out 0
    have hfz83_1 := blk_frozen BK232.out 1
    obtain ⟨Ao84, co84, eo84⟩ := Kd.R_slice HO_242001.out
    subst eo84
    go_wp2
    refine bodyPost_ret (results_cell_row rfl _ _ gb232 39 #[.int .i64 x242000_1, .slice Ao84 x242001_1.length co84] (0, 0) _ rfl (by (with_reducible repeat (first | refine blk_drewN ?_ _ | refine blk_drew ?_ | refine blk_alloc ?_ _)); refine blk_put (cs := #[.int .i64 x242000_1, .slice none 0 0]) ?_ 1 _ rfl; (with_reducible repeat (first | refine blk_drewN ?_ _ | refine blk_drew ?_ | refine blk_alloc ?_ _)); refine blk_put (cs := #[.int .i64 0, .slice none 0 0]) ?_ 0 _ rfl; (with_reducible repeat (first | refine blk_drewN ?_ _ | refine blk_drew ?_ | refine blk_alloc ?_ _)); exact BK232.out) Try.underlying39 rfl (by kernel_rfl)) rfl ?_
    exact ⟨_, by first | rfl | (simp [errW_none, errW_some] <;> rfl) | (simp [*, errW_none, errW_some] <;> rfl), by (with_reducible repeat (first | apply Kd.R_alloc | apply Kd.R_drewN | apply Kd.R_drew)); exact Kd.R_mono (Kd.R_far (p := ⟨gb232, 1, none⟩) (Kd.R_far (p := ⟨gb232, 0, none⟩) (Kd.R_types HO_242001.out BK232.out (by decide)) (fun _ hk => hk.2) (.int .i64 x242000_1)) (fun _ hk => hk.2) (.slice Ao84 x242001_1.length co84)) (fun _ hk => trivial), by repeat (first | (with_reducible first | exact HB.out | apply below_alloc | apply pw_below_drewN | apply below_drew1 | refine below_set ?_ GE232.out | refine below_set ?_ GE241.out) | exact HB.out)⟩

-- NOT PRINTED: function 4 (laminalaw07_RleAccess)

end Go.Proofs.Yteamkjphdiajeaa.QRleAccess
