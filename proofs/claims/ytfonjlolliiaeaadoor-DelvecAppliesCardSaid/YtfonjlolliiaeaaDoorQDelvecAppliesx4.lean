-- Written by a program of this session (wip/pr2.sh): the walk of the Go text, function by function.
import Derived.Test.YtfonjlolliiaeaaDoorQDelvecAppliesx0
import Derived.Test.YtfonjlolliiaeaaDoorQDelvecAppliesx3
namespace Go.Proofs.YtfonjlolliiaeaaDoor.QDelvecApplies
open Go.RowKit Go.Proofs.YtfonjlolliiaeaaDoorW.PrintWords Go.Proofs.YtfonjlolliiaeaaDoorW.PrintLast Go.Proofs.YtfonjlolliiaeaaDoorW.PrintMore
open Go.Proofs.YtfonjlolliiaeaaDoorM
attribute [local go_sem] max2_int min2_int max_two min_two max_three min_three max_four min_four   -- for this text's walks alone
set_option linter.unusedVariables false
set_option linter.unusedSimpArgs false

/-! ### bitset_Decode: function 33 -/
mutual
def bitset_Decode.l0 : Nat → List Int → Int → Bool → Int → Int → List Int → Option (Int × List Int × Int × Int)
 | 0, _, _, _, _, _, _ => none
 | k + 1, x0, x8, x11, x12, x175000, x175001 => if x12 < x175000 then ((varint_Decode.f k x0 x8).bind fun bt175 => (if bt175.2.2 = 0 then (if bt175.1 = 0 then (if x11 = true then (bitset_Decode.j1 k x0 x11 x12 bt175.1 bt175.2.1 true x175000 x175001) else (if x12 > 0 then (bitset_Decode.j1 k x0 x11 x12 bt175.1 bt175.2.1 true x175000 x175001) else (bitset_Decode.j1 k x0 x11 x12 bt175.1 bt175.2.1 (decide (bt175.1 > (IntKind.u64.wrap (wrap64 (x175000 - x12))))) x175000 x175001))) else (bitset_Decode.j1 k x0 x11 x12 bt175.1 bt175.2.1 (decide (bt175.1 > (IntKind.u64.wrap (wrap64 (x175000 - x12))))) x175000 x175001)) else (some (0, ([] : List Int), 0, bt175.2.2)))) else (some (x175000, x175001, x8, 0))
def bitset_Decode.j1 : Nat → List Int → Bool → Int → Int → Int → Bool → Int → List Int → Option (Int × List Int × Int × Int)
 | 0, _, _, _, _, _, _, _, _ => none
 | k + 1, x0, x11, x12, x13, x14, x67, x175000, x175001 => if x67 = true then (some (0, ([] : List Int), 0, 4)) else (bitset_Decode.l1 k x0 x11 x12 x14 (wrap64 (x13)) 0 x175000 x175001)
def bitset_Decode.l1 : Nat → List Int → Bool → Int → Int → Int → Int → Int → List Int → Option (Int × List Int × Int × Int)
 | 0, _, _, _, _, _, _, _, _ => none
 | k + 1, x0, x11, x12, x14, x70, x71, x175000, x175001 => if x71 < x70 then (if x11 = true then (if 0 ≤ (wrap64 (Int.tdiv x12 64)) then (if (wrap64 (Int.tdiv x12 64)) < (x175001.length : Int) then (if 0 ≤ (Int.tmod x12 64) then (bitset_Decode.l1 k x0 x11 (wrap64 (x12 + 1)) x14 x70 (wrap64 (x71 + 1)) x175000 (x175001.set ((wrap64 (Int.tdiv x12 64)) : Int).toNat (Go.bits .or .u64 (rd x175001 (wrap64 (Int.tdiv x12 64))) (shl .u64 1 (Int.tmod x12 64))))) else (none)) else (none)) else (none)) else (bitset_Decode.l1 k x0 x11 (wrap64 (x12 + 1)) x14 x70 (wrap64 (x71 + 1)) x175000 x175001)) else (bitset_Decode.l0 k x0 x14 (!x11) x12 x175000 x175001)
end
def bitset_Decode.f (k : Nat) (l0 : List Int) (a1 : Int) : Option (Int × List Int × Int × Int) := (varint_Decode.f k l0 a1).bind fun bt167 => (if bt167.2.2 = 0 then (if bt167.1 > 1048576 then (some (0, ([] : List Int), 0, 6)) else ((bitset_New.f (wrap64 (bt167.1))).bind fun bt170 => (bitset_Decode.l0 k l0 bt167.2.1 false 0 bt170.1 bt170.2))) else (some (0, ([] : List Int), 0, bt167.2.2)))
theorem bitset_Decode.mono_l : ∀ k, (∀ y0 y1 y2 y3 y4 y5, LeO (bitset_Decode.l0 k y0 y1 y2 y3 y4 y5) (bitset_Decode.l0 (k + 1) y0 y1 y2 y3 y4 y5)) ∧ (∀ y0 y1 y2 y3 y4 y5 y6 y7, LeO (bitset_Decode.j1 k y0 y1 y2 y3 y4 y5 y6 y7) (bitset_Decode.j1 (k + 1) y0 y1 y2 y3 y4 y5 y6 y7)) ∧ (∀ y0 y1 y2 y3 y4 y5 y6 y7, LeO (bitset_Decode.l1 k y0 y1 y2 y3 y4 y5 y6 y7) (bitset_Decode.l1 (k + 1) y0 y1 y2 y3 y4 y5 y6 y7))
 | 0 => ⟨fun _ _ _ _ _ _ r h => by simp [bitset_Decode.l0] at h, fun _ _ _ _ _ _ _ _ r h => by simp [bitset_Decode.j1] at h, fun _ _ _ _ _ _ _ _ r h => by simp [bitset_Decode.l1] at h⟩
 | k + 1 => by
  obtain ⟨ih0, ih1, ih2⟩ := bitset_Decode.mono_l k
  refine ⟨?_, ?_, ?_⟩
  ·intro y0 y1 y2 y3 y4 y5
   unfold bitset_Decode.l0
   repeat' first
   | (with_reducible exact ih0 _ _ _ _ _ _)
   | (with_reducible exact ih1 _ _ _ _ _ _ _ _)
   | (with_reducible exact ih2 _ _ _ _ _ _ _ _)
   | (with_reducible exact varint_Decode.mono _ _ _)
   | (with_reducible exact LeO.refl _)
   | (with_reducible exact LeO.none _)
   | (with_reducible refine LeO.ite ?_ ?_)
   | (with_reducible refine LeO.bind ?_ (fun _ => ?_))
   | exact ih0 _ _ _ _ _ _
   | exact ih1 _ _ _ _ _ _ _ _
   | exact ih2 _ _ _ _ _ _ _ _
   | exact varint_Decode.mono _ _ _
   | exact LeO.none _
   | refine LeO.ite ?_ ?_
   | refine LeO.bind ?_ (fun _ => ?_)
  ·intro y0 y1 y2 y3 y4 y5 y6 y7
   unfold bitset_Decode.j1
   repeat' first
   | (with_reducible exact ih0 _ _ _ _ _ _)
   | (with_reducible exact ih1 _ _ _ _ _ _ _ _)
   | (with_reducible exact ih2 _ _ _ _ _ _ _ _)
   | (with_reducible exact varint_Decode.mono _ _ _)
   | (with_reducible exact LeO.refl _)
   | (with_reducible exact LeO.none _)
   | (with_reducible refine LeO.ite ?_ ?_)
   | (with_reducible refine LeO.bind ?_ (fun _ => ?_))
   | exact ih0 _ _ _ _ _ _
   | exact ih1 _ _ _ _ _ _ _ _
   | exact ih2 _ _ _ _ _ _ _ _
   | exact varint_Decode.mono _ _ _
   | exact LeO.none _
   | refine LeO.ite ?_ ?_
   | refine LeO.bind ?_ (fun _ => ?_)
  ·intro y0 y1 y2 y3 y4 y5 y6 y7
   unfold bitset_Decode.l1
   repeat' first
   | (with_reducible exact ih0 _ _ _ _ _ _)
   | (with_reducible exact ih1 _ _ _ _ _ _ _ _)
   | (with_reducible exact ih2 _ _ _ _ _ _ _ _)
   | (with_reducible exact varint_Decode.mono _ _ _)
   | (with_reducible exact LeO.refl _)
   | (with_reducible exact LeO.none _)
   | (with_reducible refine LeO.ite ?_ ?_)
   | (with_reducible refine LeO.bind ?_ (fun _ => ?_))
   | exact ih0 _ _ _ _ _ _
   | exact ih1 _ _ _ _ _ _ _ _
   | exact ih2 _ _ _ _ _ _ _ _
   | exact varint_Decode.mono _ _ _
   | exact LeO.none _
   | refine LeO.ite ?_ ?_
   | refine LeO.bind ?_ (fun _ => ?_)
theorem bitset_Decode.mono : ∀ a0 a1 k, LeO (bitset_Decode.f k a0 a1) (bitset_Decode.f (k + 1) a0 a1) := by
 intro a0 a1 k
 obtain ⟨ih0, ih1, ih2⟩ := bitset_Decode.mono_l k
 unfold bitset_Decode.f
 repeat' first
   | (with_reducible exact ih0 _ _ _ _ _ _)
   | (with_reducible exact ih1 _ _ _ _ _ _ _ _)
   | (with_reducible exact ih2 _ _ _ _ _ _ _ _)
   | (with_reducible exact varint_Decode.mono _ _ _)
   | (with_reducible exact LeO.refl _)
   | (with_reducible exact LeO.none _)
   | (with_reducible refine LeO.ite ?_ ?_)
   | (with_reducible refine LeO.bind ?_ (fun _ => ?_))
   | exact ih0 _ _ _ _ _ _
   | exact ih1 _ _ _ _ _ _ _ _
   | exact ih2 _ _ _ _ _ _ _ _
   | exact varint_Decode.mono _ _ _
   | exact LeO.none _
   | refine LeO.ite ?_ ?_
   | refine LeO.bind ?_ (fun _ => ?_)
def bitset_Decode.T19 : Bool × List (List Nat × List Nat) := (true, [([], []), ([0], [0]), ([], []), ([2], [2]), ([1, 3], [1, 3]), ([4], [4]), ([], []), ([6], [6]), ([7], [7]), ([5, 8], [5, 8]), ([1, 3, 0, 1, 2, 3, 4, 5, 6, 7, 8, 9], [1, 3]), ([10, 9, 0, 1, 2, 3, 4, 5, 6, 7, 8, 9], [9, 10])])
def bitset_Decode.B19 : List Nat := [0, 1, 0, 4, 15, 31, 0, 64, 192, 511, 1023, 2047]
theorem bitset_Decode.tab19 : rtab .any (opsOf Tryd.f33 19) = bitset_Decode.T19 := by kernel_rfl
theorem bitset_Decode.bits19 : waitsOk bitset_Decode.T19.2 bitset_Decode.B19 = true := by kernel_rfl
set_option maxHeartbeats 8000000 in
set_option maxRecDepth 100000 in
theorem bitset_Decode.calls (k : Nat) (A0 : Option Addr) (c0 : Nat) (l0 : List Int) (a1 : Int) (r1 : Int) (r2 : List Int) (r3 : Int) (r4 : Int) (w : World) (hr0 : Kd.C (Kd.int .u8) w A0 l0.length l0) (hc0 : l0.length ≤ c0) (h : bitset_Decode.f k l0 a1 = some (r1, r2, r3, r4)) :
  Calls Tryd.prog 33 #[.slice A0 l0.length c0, .int .i64 a1] w fun e w' => ∃ v1_ : Value, e = .returned (.tuple #[.agg #[.int .i64 r1, v1_], .int .i64 r3, .int .i64 r4]) ∧ Kd.R (Kd.int .u64) 51 w' w.heap.size (fun _ => True) v1_ r2 ∧ Below w.heap.size w w' := by
 have hu24 := Tryd.underlying24
 have HR0 := Aside0.mk hr0
 have HC0 := Aside0.mk hc0
 clear hr0 hc0
 have HB := Aside0.mk (Below.refl w.heap.size w)
 have H : ((varint_Decode.f k l0 a1).bind fun bt167 => (if bt167.2.2 = 0 then (if bt167.1 > 1048576 then (some (0, ([] : List Int), 0, 6)) else ((bitset_New.f (wrap64 (bt167.1))).bind fun bt170 => (bitset_Decode.l0 k l0 bt167.2.1 false 0 bt170.1 bt170.2))) else (some (0, ([] : List Int), 0, bt167.2.2)))) = some (r1, r2, r3, r4) := h
 clear h
 replace H := Option.bind_eq_some_iff.mp H
 obtain ⟨⟨t167, t168, t169⟩, A30, H⟩ := H
 replace H : (if t169 = 0 then (if t167 > 1048576 then (some (0, ([] : List Int), 0, 6)) else ((bitset_New.f (wrap64 (t167))).bind fun bt170 => (bitset_Decode.l0 k l0 t168 false 0 bt170.1 bt170.2))) else (some (0, ([] : List Int), 0, t169))) = some (r1, r2, r3, r4) := H
 have A3 := Aside0.mk A30
 clear A30
 by_cases c4 : t169 = 0
 ·rw [if_pos c4] at H
  have c4b0 : (t169 == 0) = true := beq_iff_eq.mpr c4
  have c4b1 : (t169 != 0) = false := bne_eq_false_iff_eq.mpr c4
  clear c4
  by_cases c5 : t167 > 1048576
  ·rw [if_pos c5] at H
   have c5b0 : decide (1048576 < t167) = true := decide_eq_true c5
   clear c5
   simp only [Option.some.injEq, Prod.mk.injEq] at H
   obtain ⟨rfl, rfl, rfl, rfl⟩ := H
   go_enter Tryd.func33, Tryd.ntmps33
   go_wp2_with (first | ((with_reducible refine gate_dst (N := 4) rfl ?_); refine box_event ?hg (N := 4) ?hd (cs := #[.int .i64 0, .slice none 0 0]) (t := 24) ?hr ?_; (case hd => rfl); (case hg => (first | rfl | (simp only [*]; rfl) | (simp [*]; done))); (case hr => first | (go_simp; done) | (go_simp; rfl)); intro gb166 hg w6 hbox hb; have n0_ := Aside0.mk (below_step (by repeat (first | (with_reducible first | exact HB.out | apply below_alloc | apply pw_below_drewN | apply below_drew1) | exact HB.out)) hb); have n1_ := Aside0.mk (hbox); have n2_ := Aside0.mk ((by rw [hg]; exact (below_size (by repeat (first | (with_reducible first | exact HB.out | apply below_alloc | apply pw_below_drewN | apply below_drew1) | exact HB.out))) : w.heap.size ≤ gb166)); have n3_ := Aside0.mk ((by rw [hg]; exact (below_size (by repeat (first | (with_reducible first | exact HB.out | apply below_alloc | apply pw_below_drewN | apply below_drew1) | exact HB.out))) : w.heap.size ≤ gb166)); clear HB; have HB := n0_; have BK166 := n1_; have GW166 := n2_; have GE166 := n3_; clear n0_ n1_ n2_ n3_; clear hb hbox hg) | ((with_reducible refine gate_callee (f := 32) rfl ?_); refine goesL_ (some 19) rfl rfl Tryd.func32 (by kernel_rfl) rfl #[.slice A0 l0.length c0, .int .i64 a1] rfl (by (try simp only [List.map_toArray, List.map_cons, List.map_nil]); first | done | rfl | (simp only [List.length_drop, List.length_take]; rfl)) ?_; (with_reducible refine (varint_Decode.calls k _ _ l0 a1 t167 t168 t169 _ ?side1 ?side2 A3.out).mono ?_); (case side1 => repeat (first | exact (Kd.C_below HR0.out HB.out) | (with_reducible refine Kd.C_alloc ?_ _) | (with_reducible refine Kd.C_drewN ?_ _) | (with_reducible refine Kd.C_drew ?_))); (case side2 => exact HC0.out); rintro e w' ⟨rfl, ⟨nd, rfl⟩⟩; refine ⟨_, rfl, ?_⟩; (try (rw [drewN_self w6]; generalize hq_ : World.drewN w6 _ = w6; have n0_ : Aside0 (w6.heap[gb166]? = some (.cells #[.int .i64 0, .slice none 0 0] 24 (0, 0))) := ⟨by rw [← hq_]; exact (by (with_reducible repeat (first | refine blk_drewN ?_ _ | refine blk_drew ?_ | refine blk_alloc ?_ _)); exact BK166.out)⟩; have n1_ : Aside0 (Below w.heap.size w w6) := ⟨by rw [← hq_]; exact (by repeat (first | (with_reducible first | exact HB.out | apply below_alloc | apply pw_below_drewN | apply below_drew1 | refine below_set ?_ GE166.out) | exact HB.out))⟩; clear BK166 HB hq_; have BK166 := n0_; have HB := n1_; clear n0_ n1_)); have hcz7_0 : w6.cell? ⟨gb166, 0, none⟩ = some (.int .i64 0) := (blk_cell BK166.out 0).trans rfl; have hcz7_1 : w6.cell? ⟨gb166, 1, none⟩ = some (.slice none 0 0) := (blk_cell BK166.out 1).trans rfl; have hfz7_0 := blk_frozen BK166.out 0; have hfz7_1 := blk_frozen BK166.out 1))
   refine bodyPost_ret (results_ctt rfl _ _ gb166 24 #[.int .i64 0, .slice none 0 0] (0, 0) _ rfl (by (with_reducible repeat (first | refine blk_drewN ?_ _ | refine blk_drew ?_ | refine blk_alloc ?_ _)); refine blk_put (cs := #[.int .i64 0, .slice none 0 0]) ?_ 1 _ rfl; (with_reducible repeat (first | refine blk_drewN ?_ _ | refine blk_drew ?_ | refine blk_alloc ?_ _)); refine blk_put (cs := #[.int .i64 0, .slice none 0 0]) ?_ 0 _ rfl; (with_reducible repeat (first | refine blk_drewN ?_ _ | refine blk_drew ?_ | refine blk_alloc ?_ _)); exact BK166.out) Tryd.underlying24 rfl (by kernel_rfl)) rfl ?_
   exact ⟨_, by first | rfl | (simp [errW_none, errW_some] <;> rfl) | (simp [*, errW_none, errW_some] <;> rfl), by first | exact Kd.R_nil _ _ _ _ _ | exact Kd.N_nil _ _ _ _ _ | exact Kd.V_nil _ _ _ _ _ | exact Kd.Q_nil _ _ _ _ _ | exact Kd.S_nil _ _ _ _ _, by repeat (first | (with_reducible first | exact HB.out | apply below_alloc | apply pw_below_drewN | apply below_drew1 | refine below_set ?_ GE166.out) | exact HB.out)⟩
  ·rw [if_neg c5] at H
   have c5b0 : decide (1048576 < t167) = false := decide_eq_false c5
   clear c5
   replace H := Option.bind_eq_some_iff.mp H
   obtain ⟨⟨t170, t171⟩, A80, H⟩ := H
   replace H : (bitset_Decode.l0 k l0 t168 false 0 t170 t171) = some (r1, r2, r3, r4) := H
   have A8 := Aside0.mk A80
   clear A80
   have H' := Aside0.mk H
   clear H
   go_enter Tryd.func33, Tryd.ntmps33
   go_wp2_with (first | ((with_reducible refine gate_dst (N := 4) rfl ?_); refine box_event ?hg (N := 4) ?hd (cs := #[.int .i64 0, .slice none 0 0]) (t := 24) ?hr ?_; (case hd => rfl); (case hg => (first | rfl | (simp only [*]; rfl) | (simp [*]; done))); (case hr => first | (go_simp; done) | (go_simp; rfl)); intro gb166 hg w9 hbox hb; have n0_ := Aside0.mk (below_step (by repeat (first | (with_reducible first | exact HB.out | apply below_alloc | apply pw_below_drewN | apply below_drew1) | exact HB.out)) hb); have n1_ := Aside0.mk (hbox); have n2_ := Aside0.mk ((by rw [hg]; exact (below_size (by repeat (first | (with_reducible first | exact HB.out | apply below_alloc | apply pw_below_drewN | apply below_drew1) | exact HB.out))) : w.heap.size ≤ gb166)); have n3_ := Aside0.mk ((by rw [hg]; exact (below_size (by repeat (first | (with_reducible first | exact HB.out | apply below_alloc | apply pw_below_drewN | apply below_drew1) | exact HB.out))) : w.heap.size ≤ gb166)); clear HB; have HB := n0_; have BK166 := n1_; have GW166 := n2_; have GE166 := n3_; clear n0_ n1_ n2_ n3_; clear hb hbox hg) | ((with_reducible refine gate_callee (f := 32) rfl ?_); refine goesL_ (some 19) rfl rfl Tryd.func32 (by kernel_rfl) rfl #[.slice A0 l0.length c0, .int .i64 a1] rfl (by (try simp only [List.map_toArray, List.map_cons, List.map_nil]); first | done | rfl | (simp only [List.length_drop, List.length_take]; rfl)) ?_; (with_reducible refine (varint_Decode.calls k _ _ l0 a1 t167 t168 t169 _ ?side1 ?side2 A3.out).mono ?_); (case side1 => repeat (first | exact (Kd.C_below HR0.out HB.out) | (with_reducible refine Kd.C_alloc ?_ _) | (with_reducible refine Kd.C_drewN ?_ _) | (with_reducible refine Kd.C_drew ?_))); (case side2 => exact HC0.out); rintro e w' ⟨rfl, ⟨nd, rfl⟩⟩; refine ⟨_, rfl, ?_⟩; (try (rw [drewN_self w9]; generalize hq_ : World.drewN w9 _ = w9; have n0_ : Aside0 (w9.heap[gb166]? = some (.cells #[.int .i64 0, .slice none 0 0] 24 (0, 0))) := ⟨by rw [← hq_]; exact (by (with_reducible repeat (first | refine blk_drewN ?_ _ | refine blk_drew ?_ | refine blk_alloc ?_ _)); exact BK166.out)⟩; have n1_ : Aside0 (Below w.heap.size w w9) := ⟨by rw [← hq_]; exact (by repeat (first | (with_reducible first | exact HB.out | apply below_alloc | apply pw_below_drewN | apply below_drew1 | refine below_set ?_ GE166.out) | exact HB.out))⟩; clear BK166 HB hq_; have BK166 := n0_; have HB := n1_; clear n0_ n1_))) | ((with_reducible refine gate_callee (f := 54) rfl ?_); refine goesL_ (some 32) rfl rfl Tryd.func54 (by kernel_rfl) rfl #[.int .i64 (wrap64 (t167))] rfl (by (try simp only [List.map_toArray, List.map_cons, List.map_nil]); first | done | rfl | (simp only [List.length_drop, List.length_take]; rfl)) ?_; (with_reducible refine (bitset_New.calls (wrap64 (t167)) t170 t171 _ A8.out).mono ?_); rintro e w10 ⟨v172, rfl, ho0, hb⟩; refine ⟨_, rfl, ?_⟩; have n0_ := Aside0.mk (Kd.R_lower ho0 (below_size (by repeat (first | (with_reducible first | exact HB.out | apply below_alloc | apply pw_below_drewN | apply below_drew1 | refine below_set ?_ GE166.out) | exact HB.out)))); have n1_ := Aside0.mk (blk_below (g := gb166) (o := .cells #[.int .i64 0, .slice none 0 0] 24 (0, 0)) (by (with_reducible repeat (first | refine blk_drewN ?_ _ | refine blk_drew ?_ | refine blk_alloc ?_ _)); exact BK166.out) hb); have n2_ := Aside0.mk (below_step (by repeat (first | (with_reducible first | exact HB.out | apply below_alloc | apply pw_below_drewN | apply below_drew1 | refine below_set ?_ GE166.out) | exact HB.out)) hb); clear BK166; clear HB; have HO173 := n0_; have BK166 := n1_; have HB := n2_; clear n0_ n1_ n2_; (try clear hb); (try clear hb2); (try clear hk); (try clear hi); (try clear ho0)) | ((with_reducible refine gate_dst (N := 10) rfl ?_); refine box_event ?hg (N := 10) ?hd (cs := #[.int .i64 0, .slice none 0 0]) (t := 24) ?hr ?_; (case hd => rfl); (case hg => (first | rfl | (simp only [*]; rfl) | (simp [*]; done))); (case hr => first | (go_simp; done) | (go_simp; rfl)); intro gb174 hg w11 hbox hb; have n0_ := Aside0.mk (Kd.R_below (by (with_reducible repeat (first | apply Kd.R_alloc | apply Kd.R_drewN | apply Kd.R_drew)); exact HO173.out) hb); have n1_ := Aside0.mk (blk_below (g := gb166) (o := .cells #[.int .i64 0, .slice none 0 0] 24 (0, 0)) (by (with_reducible repeat (first | refine blk_drewN ?_ _ | refine blk_drew ?_ | refine blk_alloc ?_ _)); exact BK166.out) hb); have n2_ := Aside0.mk (below_step (by repeat (first | (with_reducible first | exact HB.out | apply below_alloc | apply pw_below_drewN | apply below_drew1 | refine below_set ?_ GE166.out) | exact HB.out)) hb); have n3_ := Aside0.mk (hbox); have n4_ := Aside0.mk ((by rw [hg]; exact (below_size (by repeat (first | (with_reducible first | exact HB.out | apply below_alloc | apply pw_below_drewN | apply below_drew1 | refine below_set ?_ GE166.out) | exact HB.out))) : w.heap.size ≤ gb174)); have n5_ := Aside0.mk ((by rw [hg]; exact (below_size (by repeat (first | (with_reducible first | exact HB.out | apply below_alloc | apply pw_below_drewN | apply below_drew1 | refine below_set ?_ GE166.out) | exact HB.out))) : w.heap.size ≤ gb174)); have n6_ := Aside0.mk ((by rw [hg]; exact Nat.ne_of_lt (blk_lt (g := gb166) (o := .cells #[.int .i64 0, .slice none 0 0] 24 (0, 0)) (by (with_reducible repeat (first | refine blk_drewN ?_ _ | refine blk_drew ?_ | refine blk_alloc ?_ _)); exact BK166.out)) : gb166 ≠ gb174)); have n7_ := Aside0.mk ((by rw [hg]; exact Nat.ne_of_gt (blk_lt (g := gb166) (o := .cells #[.int .i64 0, .slice none 0 0] 24 (0, 0)) (by (with_reducible repeat (first | refine blk_drewN ?_ _ | refine blk_drew ?_ | refine blk_alloc ?_ _)); exact BK166.out)) : gb174 ≠ gb166)); clear HO173; clear BK166; clear HB; have HO173 := n0_; have BK166 := n1_; have HB := n2_; have BK174 := n3_; have GW174 := n4_; have GE174 := n5_; have NB166_174 := n6_; have NB174_166 := n7_; clear n0_ n1_ n2_ n3_ n4_ n5_ n6_ n7_; clear hb hbox hg; have hnb12 := NB174_166.out; have hnc12 := NB166_174.out; have hcz13_0 : w11.cell? ⟨gb174, 0, none⟩ = some (.int .i64 0) := (blk_cell BK174.out 0).trans rfl; have hcz13_1 : w11.cell? ⟨gb174, 1, none⟩ = some (.slice none 0 0) := (blk_cell BK174.out 1).trans rfl; have hfz13_0 := blk_frozen BK174.out 0; have hfz13_1 := blk_frozen BK174.out 1; obtain ⟨Ao14, co14, eo14⟩ := Kd.R_slice HO173.out; subst eo14))
   go_loopg [8, 11, 12] k (fun kq v8 v11 v12 w' => ∃ (x8_1 : Int) (x11_1 : Bool) (x12_1 : Int) (x167000_1 : Int) (x175001_1 : List Int) (u175001 : Value), v8 = .int .i64 x8_1 ∧ v11 = .bool x11_1 ∧ v12 = .int .i64 x12_1 ∧ Aside0 (bitset_Decode.l0 kq l0 x8_1 x11_1 x12_1 t170 x175001_1 = some (r1, r2, r3, r4)) ∧ Aside0 (kq ≤ k) ∧ Aside0 (Kd.R (Kd.int .u64) 51 w' w.heap.size (fun _ => True) u175001 x175001_1) ∧ Aside0 (w'.heap[gb166]? = some (.cells #[.int .i64 x167000_1, (.slice none 0 0)] 24 (0, 0))) ∧ Aside0 (w'.heap[gb174]? = some (.cells #[.int .i64 t170, u175001] 24 (0, 0))) ∧ Aside0 (Below w.heap.size w w'))
   case atStart => exact ⟨(t168), (false), (0), (0), (t171), (.slice Ao14 t171.length co14), (by first | rfl | (simp; done) | (simp [*]; done)), (by first | rfl | (simp; done) | (simp [*]; done)), (by first | rfl | (simp; done) | (simp [*]; done)), H', ⟨Nat.le_refl _⟩, ⟨by (with_reducible repeat (first | apply Kd.R_alloc | apply Kd.R_drewN | apply Kd.R_drew)); exact Kd.R_mono (Kd.R_far (p := ⟨gb174, 1, none⟩) (Kd.R_far (p := ⟨gb174, 0, none⟩) (Kd.R_types HO173.out BK174.out (by decide)) (fun _ hk => hk.2) (.int .i64 t170)) (fun _ hk => hk.2) (.slice Ao14 t171.length co14)) (fun _ hk => trivial)⟩, ⟨by (with_reducible repeat (first | refine blk_drewN ?_ _ | refine blk_drew ?_ | refine blk_alloc ?_ _)); refine blk_far ?_ NB166_174.out _; (with_reducible repeat (first | refine blk_drewN ?_ _ | refine blk_drew ?_ | refine blk_alloc ?_ _)); refine blk_far ?_ NB166_174.out _; (with_reducible repeat (first | refine blk_drewN ?_ _ | refine blk_drew ?_ | refine blk_alloc ?_ _)); exact BK166.out⟩, ⟨by (with_reducible repeat (first | refine blk_drewN ?_ _ | refine blk_drew ?_ | refine blk_alloc ?_ _)); refine blk_put (cs := #[.int .i64 t170, .slice none 0 0]) ?_ 1 _ rfl; (with_reducible repeat (first | refine blk_drewN ?_ _ | refine blk_drew ?_ | refine blk_alloc ?_ _)); refine blk_put (cs := #[.int .i64 0, .slice none 0 0]) ?_ 0 _ rfl; (with_reducible repeat (first | refine blk_drewN ?_ _ | refine blk_drew ?_ | refine blk_alloc ?_ _)); exact BK174.out⟩, ⟨by repeat (first | (with_reducible first | exact HB.out | apply below_alloc | apply pw_below_drewN | apply below_drew1 | refine below_set ?_ GE166.out | refine below_set ?_ GE174.out) | exact HB.out)⟩⟩
   case round =>
    clear H'
    try clear c1
    try clear p2
    try clear c3
    try clear c4
    try clear c4b0
    try clear c4b1
    try clear c5
    try clear c5b0
    try clear p6
    try clear c12
    try clear hcz13_0
    try clear hcz13_1
    try clear hcz7_0
    try clear hcz7_1
    try clear hfz13_0
    try clear hfz13_1
    try clear hfz7_0
    try clear hfz7_1
    obtain ⟨x8_1, x11_1, x12_1, x167000_1, x175001_1, u175001, rfl, rfl, rfl, HA, HK1, HO_175001, BK166, BK174, HB⟩ := hrel
    cases gk with
    | zero => exact absurd HA.out (by simp [bitset_Decode.l0])
    | succ k1 =>
     have H := HA.out
     clear HA
     simp only [bitset_Decode.l0] at H
     by_cases c15 : x12_1 < t170
     ·rw [if_pos c15] at H
      have c15b0 : decide (x12_1 < t170) = true := decide_eq_true c15
      clear c15
      replace H := Option.bind_eq_some_iff.mp H
      obtain ⟨⟨t175, t176, t177⟩, A160, H⟩ := H
      replace H : (if t177 = 0 then (if t175 = 0 then (if x11_1 = true then (bitset_Decode.j1 k1 l0 x11_1 x12_1 t175 t176 true t170 x175001_1) else (if x12_1 > 0 then (bitset_Decode.j1 k1 l0 x11_1 x12_1 t175 t176 true t170 x175001_1) else (bitset_Decode.j1 k1 l0 x11_1 x12_1 t175 t176 (decide (t175 > (IntKind.u64.wrap (wrap64 (t170 - x12_1))))) t170 x175001_1))) else (bitset_Decode.j1 k1 l0 x11_1 x12_1 t175 t176 (decide (t175 > (IntKind.u64.wrap (wrap64 (t170 - x12_1))))) t170 x175001_1)) else (some (0, ([] : List Int), 0, t177))) = some (r1, r2, r3, r4) := H
      have A16 := Aside0.mk A160
      clear A160
      by_cases c17 : t177 = 0
      ·rw [if_pos c17] at H
       have c17b0 : (t177 == 0) = true := beq_iff_eq.mpr c17
       have c17b1 : (t177 != 0) = false := bne_eq_false_iff_eq.mpr c17
       clear c17
       have HC18 := Aside0.mk H
       clear H
       have hnb19 := NB174_166.out
       have hnc19 := NB166_174.out
       have hcz20_0 : wr.cell? ⟨gb174, 0, none⟩ = some (.int .i64 t170) := (blk_cell BK174.out 0).trans rfl
       have hcz20_1 : wr.cell? ⟨gb174, 1, none⟩ = some (u175001) := (blk_cell BK174.out 1).trans rfl
       have hfz20_0 := blk_frozen BK174.out 0
       have hfz20_1 := blk_frozen BK174.out 1
       go_upto_region 14 with (first | ((with_reducible refine gate_callee (f := 32) rfl ?_); refine goesL_ (some 42) rfl rfl Tryd.func32 (by kernel_rfl) rfl #[.slice A0 l0.length c0, .int .i64 x8_1] rfl (by (try simp only [List.map_toArray, List.map_cons, List.map_nil]); first | done | rfl | (simp only [List.length_drop, List.length_take]; rfl)) ?_; (with_reducible refine (varint_Decode.calls k1 _ _ l0 x8_1 t175 t176 t177 _ ?side1 ?side2 A16.out).mono ?_); (case side1 => repeat (first | exact (Kd.C_below HR0.out HB.out) | (with_reducible refine Kd.C_alloc ?_ _) | (with_reducible refine Kd.C_drewN ?_ _) | (with_reducible refine Kd.C_drew ?_))); (case side2 => exact HC0.out); rintro e w' ⟨rfl, ⟨nd, rfl⟩⟩; refine ⟨_, rfl, ?_⟩))
       (try simp only [Act.put, List.setIfInBounds_toArray, List.set_cons_zero, List.set_cons_succ])
       go_cut [67] (fun v67 wc => ∃ (kq : Nat) (x67_17 : Bool), v67 = .bool x67_17 ∧ Aside0 (bitset_Decode.j1 kq l0 x11_1 x12_1 t175 t176 x67_17 t170 x175001_1 = some (r1, r2, r3, r4)) ∧ Aside0 (kq ≤ k1) ∧ Aside0 (Kd.R (Kd.int .u64) 51 wc w.heap.size (fun _ => True) u175001 x175001_1) ∧ Aside0 (wc.heap[gb166]? = some (.cells #[.int .i64 x167000_1, (.slice none 0 0)] 24 (0, 0))) ∧ Aside0 (wc.heap[gb174]? = some (.cells #[.int .i64 t170, u175001] 24 (0, 0))) ∧ Aside0 (Below w.heap.size w wc))
       case first =>
        have H := HC18.out
        clear HC18
        by_cases c21 : t175 = 0
        ·rw [if_pos c21] at H
         have c21b0 : (t175 == 0) = true := beq_iff_eq.mpr c21
         have c21b1 : (t175 != 0) = false := bne_eq_false_iff_eq.mpr c21
         clear c21
         (first | rw [c21b0] | (simp only [i64_w, i32_w]; rw [c21b0]) | skip)
         by_cases c22 : x11_1 = true
         ·subst c22
          have H1 : (bitset_Decode.j1 k1 l0 true x12_1 t175 t176 true t170 x175001_1) = some (r1, r2, r3, r4) := by rw [if_pos rfl] at H; exact H
          clear H
          have H := H1
          clear H1
          have H' := Aside0.mk H
          clear H
          go_wp2
          go_meet
          case rel => exact ⟨_, (true), (by first | rfl | (simp; done) | (simp [*]; done)), H', ⟨by have := HK1.out; first | omega | exact Nat.le_refl _⟩, ⟨by (with_reducible repeat (first | apply Kd.R_alloc | apply Kd.R_drewN | apply Kd.R_drew)); exact HO_175001.out⟩, ⟨by (with_reducible repeat (first | refine blk_drewN ?_ _ | refine blk_drew ?_ | refine blk_alloc ?_ _)); exact BK166.out⟩, ⟨by (with_reducible repeat (first | refine blk_drewN ?_ _ | refine blk_drew ?_ | refine blk_alloc ?_ _)); exact BK174.out⟩, ⟨by repeat (first | (with_reducible first | exact HB.out | apply below_alloc | apply pw_below_drewN | apply below_drew1 | refine below_set ?_ GE166.out | refine below_set ?_ GE174.out) | exact HB.out)⟩⟩
         ·replace c22 := Bool.eq_false_iff.mpr c22
          subst c22
          have H1 : (if x12_1 > 0 then (bitset_Decode.j1 k1 l0 false x12_1 t175 t176 true t170 x175001_1) else (bitset_Decode.j1 k1 l0 false x12_1 t175 t176 (decide (t175 > (IntKind.u64.wrap (wrap64 (t170 - x12_1))))) t170 x175001_1)) = some (r1, r2, r3, r4) := by rw [if_neg (show ¬ (false = true) by decide)] at H; exact H
          clear H
          have H := H1
          clear H1
          by_cases c23 : x12_1 > 0
          ·rw [if_pos c23] at H
           have c23b0 : decide (0 < x12_1) = true := decide_eq_true c23
           clear c23
           have H' := Aside0.mk H
           clear H
           go_wp2
           go_meet
           case rel => exact ⟨_, (true), (by first | rfl | (simp; done) | (simp [*]; done)), H', ⟨by have := HK1.out; first | omega | exact Nat.le_refl _⟩, ⟨by (with_reducible repeat (first | apply Kd.R_alloc | apply Kd.R_drewN | apply Kd.R_drew)); exact HO_175001.out⟩, ⟨by (with_reducible repeat (first | refine blk_drewN ?_ _ | refine blk_drew ?_ | refine blk_alloc ?_ _)); exact BK166.out⟩, ⟨by (with_reducible repeat (first | refine blk_drewN ?_ _ | refine blk_drew ?_ | refine blk_alloc ?_ _)); exact BK174.out⟩, ⟨by repeat (first | (with_reducible first | exact HB.out | apply below_alloc | apply pw_below_drewN | apply below_drew1 | refine below_set ?_ GE166.out | refine below_set ?_ GE174.out) | exact HB.out)⟩⟩
          ·rw [if_neg c23] at H
           have c23b0 : decide (0 < x12_1) = false := decide_eq_false c23
           clear c23
           have H' := Aside0.mk H
           clear H
           have hnb24 := NB174_166.out
           have hnc24 := NB166_174.out
           have hcz25_0 : wr.cell? ⟨gb174, 0, none⟩ = some (.int .i64 t170) := (blk_cell BK174.out 0).trans rfl
           have hcz25_1 : wr.cell? ⟨gb174, 1, none⟩ = some (u175001) := (blk_cell BK174.out 1).trans rfl
           have hfz25_0 := blk_frozen BK174.out 0
           have hfz25_1 := blk_frozen BK174.out 1
           go_wp2
           go_meet
           case rel => exact ⟨_, (decide (t175 > (IntKind.u64.wrap (wrap64 (t170 - x12_1))))), (by first | rfl | (simp; done) | (simp [*]; done)), H', ⟨by have := HK1.out; first | omega | exact Nat.le_refl _⟩, ⟨by (with_reducible repeat (first | apply Kd.R_alloc | apply Kd.R_drewN | apply Kd.R_drew)); exact HO_175001.out⟩, ⟨by (with_reducible repeat (first | refine blk_drewN ?_ _ | refine blk_drew ?_ | refine blk_alloc ?_ _)); exact BK166.out⟩, ⟨by (with_reducible repeat (first | refine blk_drewN ?_ _ | refine blk_drew ?_ | refine blk_alloc ?_ _)); exact BK174.out⟩, ⟨by repeat (first | (with_reducible first | exact HB.out | apply below_alloc | apply pw_below_drewN | apply below_drew1 | refine below_set ?_ GE166.out | refine below_set ?_ GE174.out) | exact HB.out)⟩⟩
        ·rw [if_neg c21] at H
         have c21b0 : (t175 == 0) = false := beq_eq_false_iff_ne.mpr c21
         have c21b1 : (t175 != 0) = true := bne_iff_ne.mpr c21
         (first | rw [c21b0] | (simp only [i64_w, i32_w]; rw [c21b0]) | skip)
         have H' := Aside0.mk H
         clear H
         have hnb26 := NB174_166.out
         have hnc26 := NB166_174.out
         have hcz27_0 : wr.cell? ⟨gb174, 0, none⟩ = some (.int .i64 t170) := (blk_cell BK174.out 0).trans rfl
         have hcz27_1 : wr.cell? ⟨gb174, 1, none⟩ = some (u175001) := (blk_cell BK174.out 1).trans rfl
         have hfz27_0 := blk_frozen BK174.out 0
         have hfz27_1 := blk_frozen BK174.out 1
         go_wp2
         go_meet
         case rel => exact ⟨_, (decide (t175 > (IntKind.u64.wrap (wrap64 (t170 - x12_1))))), (by first | rfl | (simp; done) | (simp [*]; done)), H', ⟨by have := HK1.out; first | omega | exact Nat.le_refl _⟩, ⟨by (with_reducible repeat (first | apply Kd.R_alloc | apply Kd.R_drewN | apply Kd.R_drew)); exact HO_175001.out⟩, ⟨by (with_reducible repeat (first | refine blk_drewN ?_ _ | refine blk_drew ?_ | refine blk_alloc ?_ _)); exact BK166.out⟩, ⟨by (with_reducible repeat (first | refine blk_drewN ?_ _ | refine blk_drew ?_ | refine blk_alloc ?_ _)); exact BK174.out⟩, ⟨by repeat (first | (with_reducible first | exact HB.out | apply below_alloc | apply pw_below_drewN | apply below_drew1 | refine below_set ?_ GE166.out | refine below_set ?_ GE174.out) | exact HB.out)⟩⟩
       case rest =>
        clear HC18
        try clear c1
        try clear c2
        try clear p2
        try clear c3
        try clear c4
        try clear c4b0
        try clear c4b1
        try clear c5
        try clear c5b0
        try clear p6
        try clear c12
        try clear c15
        try clear c15b0
        try clear c17
        try clear c17b0
        try clear c17b1
        try clear c19
        try clear c21
        try clear c21b0
        try clear c21b1
        try clear c22
        try clear c23
        try clear c23b0
        try clear c24
        try clear c26
        try clear hcz13_0
        try clear hcz13_1
        try clear hcz20_0
        try clear hcz20_1
        try clear hcz25_0
        try clear hcz25_1
        try clear hcz27_0
        try clear hcz27_1
        try clear hcz7_0
        try clear hcz7_1
        try clear hfz13_0
        try clear hfz13_1
        try clear hfz20_0
        try clear hfz20_1
        try clear hfz25_0
        try clear hfz25_1
        try clear hfz27_0
        try clear hfz27_1
        try clear hfz7_0
        try clear hfz7_1
        try clear p2
        try clear p6
        obtain ⟨kq, x67_17, rfl, HA, HJ17, HO_175001, BK166, BK174, HB⟩ := hcut
        cases kq with
        | zero => exact absurd HA.out (by simp [bitset_Decode.j1])
        | succ kj17 =>
         have H := HA.out
         clear HA
         simp only [bitset_Decode.j1] at H
         by_cases c28 : x67_17 = true
         ·subst c28
          have H1 : (some (0, ([] : List Int), 0, 4)) = some (r1, r2, r3, r4) := by rw [if_pos rfl] at H; exact H
          clear H
          have H := H1
          clear H1
          simp only [Option.some.injEq, Prod.mk.injEq] at H
          obtain ⟨rfl, rfl, rfl, rfl⟩ := H
          have hnb29 := NB166_174.out
          have hnc29 := NB174_166.out
          have hcz30_0 : wc.cell? ⟨gb166, 0, none⟩ = some (.int .i64 x167000_1) := (blk_cell BK166.out 0).trans rfl
          have hcz30_1 : wc.cell? ⟨gb166, 1, none⟩ = some (.slice none 0 0) := (blk_cell BK166.out 1).trans rfl
          have hfz30_0 := blk_frozen BK166.out 0
          have hfz30_1 := blk_frozen BK166.out 1
          go_wp2
          refine bodyPost_ret (results_ctt rfl _ _ gb166 24 #[.int .i64 0, .slice none 0 0] (0, 0) _ rfl (by (with_reducible repeat (first | refine blk_drewN ?_ _ | refine blk_drew ?_ | refine blk_alloc ?_ _)); refine blk_put (cs := #[.int .i64 0, .slice none 0 0]) ?_ 1 _ rfl; (with_reducible repeat (first | refine blk_drewN ?_ _ | refine blk_drew ?_ | refine blk_alloc ?_ _)); refine blk_put (cs := #[.int .i64 x167000_1, .slice none 0 0]) ?_ 0 _ rfl; (with_reducible repeat (first | refine blk_drewN ?_ _ | refine blk_drew ?_ | refine blk_alloc ?_ _)); exact BK166.out) Tryd.underlying24 rfl (by kernel_rfl)) rfl ?_
          exact ⟨_, by first | rfl | (simp [errW_none, errW_some] <;> rfl) | (simp [*, errW_none, errW_some] <;> rfl), by first | exact Kd.R_nil _ _ _ _ _ | exact Kd.N_nil _ _ _ _ _ | exact Kd.V_nil _ _ _ _ _ | exact Kd.Q_nil _ _ _ _ _ | exact Kd.S_nil _ _ _ _ _, by repeat (first | (with_reducible first | exact HB.out | apply below_alloc | apply pw_below_drewN | apply below_drew1 | refine below_set ?_ GE166.out | refine below_set ?_ GE174.out) | exact HB.out)⟩
         ·replace c28 := Bool.eq_false_iff.mpr c28
          subst c28
          have H1 : (bitset_Decode.l1 kj17 l0 x11_1 x12_1 t176 (wrap64 (t175)) 0 t170 x175001_1) = some (r1, r2, r3, r4) := by rw [if_neg (show ¬ (false = true) by decide)] at H; exact H
          clear H
          have H := H1
          clear H1
          have H' := Aside0.mk H
          clear H
          go_wp2
          go_loopg [12, 71] kj17 (fun kq v12 v71 w' => ∃ (x12_3 : Int) (x71_3 : Int) (x175001_3 : List Int) (u175001 : Value), v12 = .int .i64 x12_3 ∧ v71 = .int .i64 x71_3 ∧ Aside0 (bitset_Decode.l1 kq l0 x11_1 x12_3 t176 (wrap64 (t175)) x71_3 t170 x175001_3 = some (r1, r2, r3, r4)) ∧ Aside0 (kq ≤ kj17) ∧ Aside0 (Kd.R (Kd.int .u64) 51 w' w.heap.size (fun _ => True) u175001 x175001_3) ∧ Aside0 (w'.heap[gb166]? = some (.cells #[.int .i64 x167000_1, (.slice none 0 0)] 24 (0, 0))) ∧ Aside0 (w'.heap[gb174]? = some (.cells #[.int .i64 t170, u175001] 24 (0, 0))) ∧ Aside0 (Below w.heap.size w w'))
          case atStart => exact ⟨(x12_1), (0), (x175001_1), (u175001), (by first | rfl | (simp; done) | (simp [*]; done)), (by first | rfl | (simp; done) | (simp [*]; done)), H', ⟨Nat.le_refl _⟩, ⟨by (with_reducible repeat (first | apply Kd.R_alloc | apply Kd.R_drewN | apply Kd.R_drew)); exact HO_175001.out⟩, ⟨by (with_reducible repeat (first | refine blk_drewN ?_ _ | refine blk_drew ?_ | refine blk_alloc ?_ _)); exact BK166.out⟩, ⟨by (with_reducible repeat (first | refine blk_drewN ?_ _ | refine blk_drew ?_ | refine blk_alloc ?_ _)); exact BK174.out⟩, ⟨by repeat (first | (with_reducible first | exact HB.out | apply below_alloc | apply pw_below_drewN | apply below_drew1 | refine below_set ?_ GE166.out | refine below_set ?_ GE174.out) | exact HB.out)⟩⟩
          case round =>
           clear H'
           try clear c1
           try clear c2
           try clear p2
           try clear c3
           try clear c4
           try clear c4b0
           try clear c4b1
           try clear c5
           try clear c5b0
           try clear p6
           try clear c12
           try clear c15
           try clear c15b0
           try clear c17
           try clear c17b0
           try clear c17b1
           try clear c19
           try clear c21
           try clear c21b0
           try clear c21b1
           try clear c22
           try clear c23
           try clear c23b0
           try clear c24
           try clear c26
           try clear c28
           try clear c29
           try clear hcz13_0
           try clear hcz13_1
           try clear hcz20_0
           try clear hcz20_1
           try clear hcz25_0
           try clear hcz25_1
           try clear hcz27_0
           try clear hcz27_1
           try clear hcz30_0
           try clear hcz30_1
           try clear hcz7_0
           try clear hcz7_1
           try clear hfz13_0
           try clear hfz13_1
           try clear hfz20_0
           try clear hfz20_1
           try clear hfz25_0
           try clear hfz25_1
           try clear hfz27_0
           try clear hfz27_1
           try clear hfz30_0
           try clear hfz30_1
           try clear hfz7_0
           try clear hfz7_1
           try clear p2
           try clear p6
           obtain ⟨x12_3, x71_3, x175001_3, u175001, rfl, rfl, HA, HK3, HO_175001, BK166, BK174, HB⟩ := hrel
           cases gk with
           | zero => exact absurd HA.out (by simp [bitset_Decode.l1])
           | succ k3 =>
            have H := HA.out
            clear HA
            simp only [bitset_Decode.l1] at H
            by_cases c31 : x71_3 < (wrap64 (t175))
            ·rw [if_pos c31] at H
             have c31b0 : decide (x71_3 < (wrap64 (t175))) = true := decide_eq_true c31
             clear c31
             by_cases c32 : x11_1 = true
             ·subst c32
              have H1 : (if 0 ≤ (wrap64 (Int.tdiv x12_3 64)) then (if (wrap64 (Int.tdiv x12_3 64)) < (x175001_3.length : Int) then (if 0 ≤ (Int.tmod x12_3 64) then (bitset_Decode.l1 k3 l0 true (wrap64 (x12_3 + 1)) t176 (wrap64 (t175)) (wrap64 (x71_3 + 1)) t170 (x175001_3.set ((wrap64 (Int.tdiv x12_3 64)) : Int).toNat (Go.bits .or .u64 (rd x175001_3 (wrap64 (Int.tdiv x12_3 64))) (shl .u64 1 (Int.tmod x12_3 64))))) else (none)) else (none)) else (none)) = some (r1, r2, r3, r4) := by rw [if_pos rfl] at H; exact H
              clear H
              have H := H1
              clear H1
              obtain ⟨ji33, hji33⟩ : ∃ j_ : Int, (wrap64 (Int.tdiv x12_3 64)) = j_ := ⟨_, rfl⟩
              replace H : (if 0 ≤ (ji33) then (if (ji33) < (x175001_3.length : Int) then (if 0 ≤ (Int.tmod x12_3 64) then (bitset_Decode.l1 k3 l0 true (wrap64 (x12_3 + 1)) t176 (wrap64 (t175)) (wrap64 (x71_3 + 1)) t170 (x175001_3.set ((ji33) : Int).toNat (Go.bits .or .u64 (rd x175001_3 (ji33)) (shl .u64 1 (Int.tmod x12_3 64))))) else (none)) else (none)) else (none)) = some (r1, r2, r3, r4) := by first | (rw [hji33] at H; exact H) | (simp only [hji33] at H ⊢; exact H)
              have hji33w : (IntKind.i64.wrap (Int.tdiv x12_3 64)) = ji33 := (i64_w _).trans hji33
              by_cases c34 : 0 ≤ (ji33)
              ·rw [if_pos c34] at H
               have c34b0 : decide (0 ≤ (ji33)) = true := decide_eq_true c34
               clear c34
               by_cases c35 : (ji33) < (x175001_3.length : Int)
               ·rw [if_pos c35] at H
                have c35b0 : decide ((ji33) < (x175001_3.length : Int)) = true := decide_eq_true c35
                clear c35
                obtain ⟨ji36, hji36⟩ : ∃ j_ : Int, (Int.tmod x12_3 64) = j_ := ⟨_, rfl⟩
                replace H : (if 0 ≤ (ji36) then (bitset_Decode.l1 k3 l0 true (wrap64 (x12_3 + 1)) t176 (wrap64 (t175)) (wrap64 (x71_3 + 1)) t170 (x175001_3.set ((ji33) : Int).toNat (Go.bits .or .u64 (rd x175001_3 (ji33)) (shl .u64 1 (ji36))))) else (none)) = some (r1, r2, r3, r4) := by first | (rw [hji36] at H; exact H) | (simp only [hji36] at H ⊢; exact H)
                by_cases c37 : 0 ≤ (ji36)
                ·rw [if_pos c37] at H
                 have c37b0 := eq_true c37
                 have c37b1 : decide (0 ≤ (ji36)) = true := decide_eq_true c37
                 clear c37
                 obtain ⟨ji38, hji38⟩ : ∃ j_ : Int, (shl .u64 1 (ji36)) = j_ := ⟨_, rfl⟩
                 replace H : (bitset_Decode.l1 k3 l0 true (wrap64 (x12_3 + 1)) t176 (wrap64 (t175)) (wrap64 (x71_3 + 1)) t170 (x175001_3.set ((ji33) : Int).toNat (Go.bits .or .u64 (rd x175001_3 (ji33)) (ji38)))) = some (r1, r2, r3, r4) := by first | (rw [hji38] at H; exact H) | (simp only [hji38] at H ⊢; exact H)
                 have hji38_ : (IntKind.u64.wrap (1 * 2 ^ min (ji36).toNat 64)) = ji38 := hji38
                 have hji38z : (ji36) ≤ 64 → (IntKind.u64.wrap (1 * 2 ^ (ji36).toNat)) = ji38 := shl_small hji38
                 have hji38u : (IntKind.u64.wrap (2 ^ min (ji36).toNat 64)) = ji38 := by have h_ := hji38_; rw [Int.one_mul] at h_; exact h_
                 have hji38v : (ji36) ≤ 64 → (IntKind.u64.wrap (2 ^ (ji36).toNat)) = ji38 := fun hle_ => by have h_ := hji38z hle_; rw [Int.one_mul] at h_; exact h_
                 obtain ⟨y179, hy179⟩ : ∃ y_ : List Int, y_ = (x175001_3.set ((ji33) : Int).toNat (Go.bits .or .u64 (rd x175001_3 (ji33)) (ji38))) := ⟨_, rfl⟩
                 replace H : (bitset_Decode.l1 k3 l0 true (wrap64 (x12_3 + 1)) t176 (wrap64 (t175)) (wrap64 (x71_3 + 1)) t170 y179) = some (r1, r2, r3, r4) := by first | (rw [hy179]; with_reducible exact H) | (have H2_ := (Option.bind_some _ _).symm.trans H; rw [hy179]; with_reducible exact H2_) | (have H2_ := (Option.bind_some _ _).symm.trans H; with_reducible exact H2_) | with_reducible exact H | (rw [hy179]; exact H) | exact H
                 have Ny179 := Aside0.mk hy179
                 clear hy179
                 have H' := Aside0.mk H
                 clear H
                 try go_wp2
                 have n0_ := Aside0.mk (Kd.R_drew HO_175001.out)
                 have n1_ := Aside0.mk (blk_drew BK166.out)
                 have n2_ := Aside0.mk (blk_drew BK174.out)
                 have n3_ := Aside0.mk (below_drew1 HB.out)
                 clear HO_175001
                 clear BK166
                 clear BK174
                 clear HB
                 have HO_175001 := n0_
                 have BK166 := n1_
                 have BK174 := n2_
                 have HB := n3_
                 clear n0_ n1_ n2_ n3_
                 obtain ⟨Ao41, co41, eo41⟩ := Kd.R_slice HO_175001.out
                 (first | subst eo41 | (injection eo41 with f1_ f2_ f3_; have f4_ := f1_.symm; have f5_ := f3_.symm; clear f1_ f2_ f3_; subst f4_; subst f5_))
                 have p178 : 0 ≤ ((ji33) : Int) := of_decide_eq_true (by first | (with_reducible assumption) | assumption)
                 have q178 : (ji33) < (x175001_3.length : Int) := of_decide_eq_true (by first | (with_reducible assumption) | assumption)
                 obtain ⟨ad178, e178, hx178_0⟩ := Kd.at_int (Kd.R_reads' HO_175001.out).2.2 (ji33) p178 q178
                 cases e178
                 replace p178 := eq_true p178
                 replace q178 := eq_true q178
                 have p39 : 0 ≤ ((ji33) : Int) := of_decide_eq_true (by first | (with_reducible assumption) | assumption)
                 have q39 : ((ji33) : Int) < ((x175001_3.length : Int) : Int) := of_decide_eq_true (by first | (with_reducible assumption) | assumption)
                 obtain ⟨go39, co39, eo39, gb39, gl39, cl39, HG39⟩ := Kd.R_form HO_175001.out (by omega)
                 (first | cases eo39 | (injection eo39 with ea_ en_ ec_; (first | subst ea_ | (injection ea_ with ea_; subst ea_)); subst ec_; clear en_))
                 have GB39 := Aside0.mk gb39
                 have GG39 := Aside0.mk HG39
                 clear gb39 gl39 HG39
                 (first | simp only [add_plain] at hx178_0 | skip)
                 obtain ⟨hx39_0, hf39_0⟩ := Kd.R_celln 0 HO_175001.out ((ji33) : Int) p39 q39
                 replace p39 := eq_true p39
                 replace q39 := eq_true q39
                 have HP42 := Kd.R_putn HO_175001.out ((ji33) : Int) (Go.bits .or .u64 (rd x175001_3 (ji33)) (ji38))
                 rw [← Ny179.out] at HP42
                 have HQ42 := Aside0.mk HP42
                 clear HP42
                 refine start_ (n := 12) (S := fun w' => w'.cell? ⟨gb174, 0, none⟩ = some (.int .i64 t170) ∧ w'.cell? ⟨gb174, 1, none⟩ = some (.slice (some ⟨go39, 0, none⟩) x175001_3.length co41) ∧ w'.cell? ⟨go39, ((ji33)).toNat, none⟩ = some (.int .u64 (rd x175001_3 (ji33)))) (ds := [11]) #[false, false, false, false, false, false, false, false, false, false, false, false] (by kernel_rfl) rfl rfl ⟨(blk_cell BK174.out 0).trans rfl, (blk_cell BK174.out 1).trans rfl, hx178_0⟩ (fun hHeld => ?_); refine with_tabW bitset_Decode.tab19 bitset_Decode.bits19 (fun HT_ HW_ => ?_)
                 generalize wr.drew = w40 at HO_175001 BK166 BK174 HB GG39 HQ42 hf39_0 hx178_0 hx39_0 hHeld ⊢
                 refine pure_ (i := 0) (N := some 74) (v := ?_) (a' := ?_) #[true, false, false, false, false, false, false, false, false, false, false, false] rfl rfl (any_of HT_.out (by kernel_rfl)) (fun _ _ _ h => h) (Or.inl ⟨by (first | rfl | (simp only [*]; rfl) | (simp [*]; done)), ?_⟩) ?_ ?_
                 rotate_left
                 ·intro w'
                  go_simp
                  with_reducible rfl
                 rotate_left
                 ·simp only [Act.put, List.setIfInBounds_toArray, List.set_cons_zero, List.set_cons_succ, i64_w, i32_w]
                  rfl
                 refine pure_ (i := 2) (N := some 76) (v := ?_) (a' := ?_) #[true, false, true, false, false, false, false, false, false, false, false, false] rfl rfl (any_of HT_.out (by kernel_rfl)) (fun _ _ _ h => h) (Or.inl ⟨by (first | rfl | (simp only [*]; rfl) | (simp [*]; done)), ?_⟩) ?_ ?_
                 rotate_left
                 ·intro w'
                  go_simp
                  with_reducible rfl
                 rotate_left
                 ·simp only [Act.put, List.setIfInBounds_toArray, List.set_cons_zero, List.set_cons_succ, i64_w, i32_w]
                  rfl
                 refine pure_ (i := 3) (N := some 77) (v := ?_) (a' := ?_) #[true, false, true, true, false, false, false, false, false, false, false, false] rfl rfl (any_of HT_.out (by kernel_rfl)) (fun _ _ _ h => h) (Or.inl ⟨by (first | rfl | (simp only [*]; rfl) | (simp [*]; done)), ?_⟩) ?_ ?_
                 rotate_left
                 ·intro w'
                  go_simp
                  with_reducible rfl
                 rotate_left
                 ·simp only [Act.put, List.setIfInBounds_toArray, List.set_cons_zero, List.set_cons_succ, i64_w, i32_w]
                  rfl
                 refine pure_ (i := 6) (N := some 80) (v := ?_) (a' := ?_) #[true, false, true, true, false, false, true, false, false, false, false, false] rfl rfl (any_of HT_.out (by kernel_rfl)) (fun _ _ _ h => h) (Or.inl ⟨by (first | rfl | (simp only [*]; rfl) | (simp [*]; done)), ?_⟩) ?_ ?_
                 rotate_left
                 ·intro w'
                  go_simp
                  with_reducible rfl
                 rotate_left
                 ·simp only [Act.put, List.setIfInBounds_toArray, List.set_cons_zero, List.set_cons_succ, i64_w, i32_w]
                  rfl
                 refine pure_ (i := 7) (N := some 81) (v := ?_) (a' := ?_) #[true, false, true, true, false, false, true, true, false, false, false, false] rfl rfl (any_of HT_.out (by kernel_rfl)) (fun _ _ _ h => h) (Or.inl ⟨by (first | rfl | (simp only [*]; rfl) | (simp [*]; done)), ?_⟩) ?_ ?_
                 rotate_left
                 ·intro w'
                  go_simp
                  with_reducible rfl
                 rotate_left
                 ·simp only [Act.put, List.setIfInBounds_toArray, List.set_cons_zero, List.set_cons_succ, i64_w, i32_w]
                  rfl
                 refine pure_ (i := 8) (N := some 82) (v := ?_) (a' := ?_) #[true, false, true, true, false, false, true, true, true, false, false, false] rfl rfl (any_of HT_.out (by kernel_rfl)) (fun _ _ _ h => h) (Or.inl ⟨by (first | rfl | (simp only [*]; rfl) | (simp [*]; done)), ?_⟩) ?_ ?_
                 rotate_left
                 ·intro w'
                  go_simp
                  with_reducible rfl
                 rotate_left
                 ·simp only [Act.put, List.setIfInBounds_toArray, List.set_cons_zero, List.set_cons_succ, i64_w, i32_w]
                  rfl
                 refine take_ (i := 1) (N := some 75) (v := ?_) (a' := ?_) #[true, true, true, true, false, false, true, true, true, false, false, false] rfl rfl (take_ofW HT_.out HW_.out (by kernel_rfl)) (fun _ _ _ h => h) (Or.inl ⟨by (first | rfl | (simp only [*]; rfl) | (simp [*]; done)), ?_⟩) hHeld ?_ ?_
                 rotate_left
                 ·rintro w' ⟨s0, s1, s2⟩
                  go_simp
                  with_reducible rfl
                 rotate_left
                 ·simp only [Act.put, List.setIfInBounds_toArray, List.set_cons_zero, List.set_cons_succ, i64_w, i32_w]
                  rfl
                 refine pure_ (i := 4) (N := some 78) (v := ?_) (a' := ?_) #[true, true, true, true, true, false, true, true, true, false, false, false] rfl rfl (any_of HT_.out (by kernel_rfl)) (fun _ _ _ h => h) (Or.inl ⟨by (first | rfl | (simp only [*]; rfl) | (simp [*]; done)), ?_⟩) ?_ ?_
                 rotate_left
                 ·intro w'
                  go_simp
                  with_reducible rfl
                 rotate_left
                 ·simp only [Act.put, List.setIfInBounds_toArray, List.set_cons_zero, List.set_cons_succ, i64_w, i32_w]
                  rfl
                 refine take_ (i := 5) (N := some 79) (v := ?_) (a' := ?_) #[true, true, true, true, true, true, true, true, true, false, false, false] rfl rfl (take_ofW HT_.out HW_.out (by kernel_rfl)) (fun _ _ _ h => h) (Or.inl ⟨by (first | rfl | (simp only [*]; rfl) | (simp [*]; done)), ?_⟩) hHeld ?_ ?_
                 rotate_left
                 ·rintro w' ⟨s0, s1, s2⟩
                  go_simp
                  with_reducible rfl
                 rotate_left
                 ·simp only [Act.put, List.setIfInBounds_toArray, List.set_cons_zero, List.set_cons_succ, i64_w, i32_w]
                  rfl
                 refine pure_ (i := 9) (N := some 83) (v := ?_) (a' := ?_) #[true, true, true, true, true, true, true, true, true, true, false, false] rfl rfl (any_of HT_.out (by kernel_rfl)) (fun _ _ _ h => h) (Or.inl ⟨by (first | rfl | (simp only [*]; rfl) | (simp [*]; done)), ?_⟩) ?_ ?_
                 rotate_left
                 ·intro w'
                  go_simp
                  with_reducible rfl
                 rotate_left
                 ·simp only [Act.put, List.setIfInBounds_toArray, List.set_cons_zero, List.set_cons_succ, i64_w, i32_w]
                  rfl
                 refine pure_ (i := 10) (N := some 84) (v := ?_) (a' := ?_) #[true, true, true, true, true, true, true, true, true, true, true, false] rfl rfl (any_of HT_.out (by kernel_rfl)) (fun _ _ _ h => h) (Or.inl ⟨by (first | rfl | (simp only [*]; rfl) | (simp [*]; done)), ?_⟩) ?_ ?_
                 rotate_left
                 ·intro w'
                  go_simp
                  with_reducible rfl
                 rotate_left
                 ·simp only [Act.put, List.setIfInBounds_toArray, List.set_cons_zero, List.set_cons_succ, i64_w, i32_w]
                  rfl
                 refine last_ (i := 11) (N := none) #[true, true, true, true, true, true, true, true, true, true, true, true] rfl rfl (one_of HT_.out (by kernel_rfl)) (by decide) (fun K hK => ?_)
                 refine skip_ (w1 := ?_) (by rfl) rfl ?_ ?_
                 rotate_left
                 ·go_simp
                  rfl
                 refine hK.out _ _ ?_
                 clear hK K
                 refine done_ (done_of HT_.out (by kernel_rfl)) ?_
                 try go_wp2
                 go_roundg k3
                 case measure => have := HK1.out; have := HJ17.out; have := HK3.out; omega
                 case rel => exact ⟨(wrap64 (x12_3 + 1)), (wrap64 (x71_3 + 1)), (y179), (.slice (some ⟨go39, 0, none⟩) x175001_3.length co41), (by first | rfl | (simp; done) | (simp [*]; done)), (by first | rfl | (simp; done) | (simp [*]; done)), H', ⟨by have := HK1.out; have := HJ17.out; have := HK3.out; omega⟩, ⟨by (with_reducible repeat (first | apply Kd.R_alloc | apply Kd.R_drewN | apply Kd.R_drew)); exact HQ42.out⟩, ⟨by (with_reducible repeat (first | refine blk_drewN ?_ _ | refine blk_drew ?_ | refine blk_alloc ?_ _)); refine blk_far ?_ (by have h_ := Kd.R_ne HO_175001.out BK166.out (by decide); intro e_; exact h_ (by rw [e_]; rfl)) _; (with_reducible repeat (first | refine blk_drewN ?_ _ | refine blk_drew ?_ | refine blk_alloc ?_ _)); exact BK166.out⟩, ⟨by (with_reducible repeat (first | refine blk_drewN ?_ _ | refine blk_drew ?_ | refine blk_alloc ?_ _)); refine blk_far ?_ (by have h_ := Kd.R_ne HO_175001.out BK174.out (by decide); intro e_; exact h_ (by rw [e_]; rfl)) _; (with_reducible repeat (first | refine blk_drewN ?_ _ | refine blk_drew ?_ | refine blk_alloc ?_ _)); exact BK174.out⟩, ⟨by repeat (first | (with_reducible first | exact HB.out | apply below_alloc | apply pw_below_drewN | apply below_drew1 | refine below_set ?_ GB39.out | refine below_set ?_ GE166.out | refine below_set ?_ GE174.out) | exact HB.out)⟩⟩
                ·rw [if_neg c37] at H
                 exact absurd H (by simp)
               ·rw [if_neg c35] at H
                exact absurd H (by simp)
              ·rw [if_neg c34] at H
               exact absurd H (by simp)
             ·replace c32 := Bool.eq_false_iff.mpr c32
              subst c32
              have H1 : (bitset_Decode.l1 k3 l0 false (wrap64 (x12_3 + 1)) t176 (wrap64 (t175)) (wrap64 (x71_3 + 1)) t170 x175001_3) = some (r1, r2, r3, r4) := by rw [if_neg (show ¬ (false = true) by decide)] at H; exact H
              clear H
              have H := H1
              clear H1
              have H' := Aside0.mk H
              clear H
              go_wp2
              go_roundg k3
              case measure => have := HK1.out; have := HJ17.out; have := HK3.out; omega
              case rel => exact ⟨(wrap64 (x12_3 + 1)), (wrap64 (x71_3 + 1)), (x175001_3), (u175001), (by first | rfl | (simp; done) | (simp [*]; done)), (by first | rfl | (simp; done) | (simp [*]; done)), H', ⟨by have := HK1.out; have := HJ17.out; have := HK3.out; omega⟩, ⟨by (with_reducible repeat (first | apply Kd.R_alloc | apply Kd.R_drewN | apply Kd.R_drew)); exact HO_175001.out⟩, ⟨by (with_reducible repeat (first | refine blk_drewN ?_ _ | refine blk_drew ?_ | refine blk_alloc ?_ _)); exact BK166.out⟩, ⟨by (with_reducible repeat (first | refine blk_drewN ?_ _ | refine blk_drew ?_ | refine blk_alloc ?_ _)); exact BK174.out⟩, ⟨by repeat (first | (with_reducible first | exact HB.out | apply below_alloc | apply pw_below_drewN | apply below_drew1 | refine below_set ?_ GE166.out | refine below_set ?_ GE174.out) | exact HB.out)⟩⟩
            ·rw [if_neg c31] at H
             have c31b0 : decide (x71_3 < (wrap64 (t175))) = false := decide_eq_false c31
             clear c31
             have H' := Aside0.mk H
             clear H
             go_wp2
             go_roundg k3
             case measure => have := HK1.out; have := HJ17.out; have := HK3.out; omega
             case rel => exact ⟨(t176), (!x11_1), (x12_3), (x167000_1), (x175001_3), (u175001), (by first | rfl | (simp; done) | (simp [*]; done)), (by first | rfl | (simp; done) | (simp [*]; done)), (by first | rfl | (simp; done) | (simp [*]; done)), H', ⟨by have := HK1.out; have := HJ17.out; have := HK3.out; omega⟩, ⟨by (with_reducible repeat (first | apply Kd.R_alloc | apply Kd.R_drewN | apply Kd.R_drew)); exact HO_175001.out⟩, ⟨by (with_reducible repeat (first | refine blk_drewN ?_ _ | refine blk_drew ?_ | refine blk_alloc ?_ _)); exact BK166.out⟩, ⟨by (with_reducible repeat (first | refine blk_drewN ?_ _ | refine blk_drew ?_ | refine blk_alloc ?_ _)); exact BK174.out⟩, ⟨by repeat (first | (with_reducible first | exact HB.out | apply below_alloc | apply pw_below_drewN | apply below_drew1 | refine below_set ?_ GE166.out | refine below_set ?_ GE174.out) | exact HB.out)⟩⟩
      ·rw [if_neg c17] at H
       have c17b0 : (t177 == 0) = false := beq_eq_false_iff_ne.mpr c17
       have c17b1 : (t177 != 0) = true := bne_iff_ne.mpr c17
       simp only [Option.some.injEq, Prod.mk.injEq] at H
       obtain ⟨rfl, rfl, rfl, rfl⟩ := H
       have hnb43 := NB174_166.out
       have hnc43 := NB166_174.out
       have hcz44_0 : wr.cell? ⟨gb174, 0, none⟩ = some (.int .i64 t170) := (blk_cell BK174.out 0).trans rfl
       have hcz44_1 : wr.cell? ⟨gb174, 1, none⟩ = some (u175001) := (blk_cell BK174.out 1).trans rfl
       have hfz44_0 := blk_frozen BK174.out 0
       have hfz44_1 := blk_frozen BK174.out 1
       go_wp2_with (first | ((with_reducible refine gate_callee (f := 32) rfl ?_); refine goesL_ (some 42) rfl rfl Tryd.func32 (by kernel_rfl) rfl #[.slice A0 l0.length c0, .int .i64 x8_1] rfl (by (try simp only [List.map_toArray, List.map_cons, List.map_nil]); first | done | rfl | (simp only [List.length_drop, List.length_take]; rfl)) ?_; (with_reducible refine (varint_Decode.calls k1 _ _ l0 x8_1 t175 t176 t177 _ ?side1 ?side2 A16.out).mono ?_); (case side1 => repeat (first | exact (Kd.C_below HR0.out HB.out) | (with_reducible refine Kd.C_alloc ?_ _) | (with_reducible refine Kd.C_drewN ?_ _) | (with_reducible refine Kd.C_drew ?_))); (case side2 => exact HC0.out); rintro e w' ⟨rfl, ⟨nd, rfl⟩⟩; refine ⟨_, rfl, ?_⟩; (try (rw [drewN_self wr]; generalize hq_ : World.drewN wr _ = wr; have n0_ : Aside0 (Kd.R (Kd.int .u64) 51 wr w.heap.size (fun _ => True) u175001 x175001_1) := ⟨by rw [← hq_]; exact (by (with_reducible repeat (first | apply Kd.R_alloc | apply Kd.R_drewN | apply Kd.R_drew)); exact HO_175001.out)⟩; have n1_ : Aside0 (wr.heap[gb166]? = some (.cells #[.int .i64 x167000_1, .slice none 0 0] 24 (0, 0))) := ⟨by rw [← hq_]; exact (by (with_reducible repeat (first | refine blk_drewN ?_ _ | refine blk_drew ?_ | refine blk_alloc ?_ _)); exact BK166.out)⟩; have n2_ : Aside0 (wr.heap[gb174]? = some (.cells #[.int .i64 t170, u175001] 24 (0, 0))) := ⟨by rw [← hq_]; exact (by (with_reducible repeat (first | refine blk_drewN ?_ _ | refine blk_drew ?_ | refine blk_alloc ?_ _)); exact BK174.out)⟩; have n3_ : Aside0 (Below w.heap.size w wr) := ⟨by rw [← hq_]; exact (by repeat (first | (with_reducible first | exact HB.out | apply below_alloc | apply pw_below_drewN | apply below_drew1 | refine below_set ?_ GE166.out | refine below_set ?_ GE174.out) | exact HB.out))⟩; clear HO_175001 BK166 BK174 HB hq_; have HO_175001 := n0_; have BK166 := n1_; have BK174 := n2_; have HB := n3_; clear n0_ n1_ n2_ n3_)); have hcz45_0 : wr.cell? ⟨gb166, 0, none⟩ = some (.int .i64 x167000_1) := (blk_cell BK166.out 0).trans rfl; have hcz45_1 : wr.cell? ⟨gb166, 1, none⟩ = some (.slice none 0 0) := (blk_cell BK166.out 1).trans rfl; have hfz45_0 := blk_frozen BK166.out 0; have hfz45_1 := blk_frozen BK166.out 1))
       refine bodyPost_ret (results_ctt rfl _ _ gb166 24 #[.int .i64 0, .slice none 0 0] (0, 0) _ rfl (by (with_reducible repeat (first | refine blk_drewN ?_ _ | refine blk_drew ?_ | refine blk_alloc ?_ _)); refine blk_put (cs := #[.int .i64 0, .slice none 0 0]) ?_ 1 _ rfl; (with_reducible repeat (first | refine blk_drewN ?_ _ | refine blk_drew ?_ | refine blk_alloc ?_ _)); refine blk_put (cs := #[.int .i64 x167000_1, .slice none 0 0]) ?_ 0 _ rfl; (with_reducible repeat (first | refine blk_drewN ?_ _ | refine blk_drew ?_ | refine blk_alloc ?_ _)); exact BK166.out) Tryd.underlying24 rfl (by kernel_rfl)) rfl ?_
       exact ⟨_, by first | rfl | (simp [errW_none, errW_some] <;> rfl) | (simp [*, errW_none, errW_some] <;> rfl), by first | exact Kd.R_nil _ _ _ _ _ | exact Kd.N_nil _ _ _ _ _ | exact Kd.V_nil _ _ _ _ _ | exact Kd.Q_nil _ _ _ _ _ | exact Kd.S_nil _ _ _ _ _, by repeat (first | (with_reducible first | exact HB.out | apply below_alloc | apply pw_below_drewN | apply below_drew1 | refine below_set ?_ GE166.out | refine below_set ?_ GE174.out) | exact HB.out)⟩
     ·rw [if_neg c15] at H
      have c15b0 : decide (x12_1 < t170) = false := decide_eq_false c15
      clear c15
      simp only [Option.some.injEq, Prod.mk.injEq] at H
      obtain ⟨rfl, rfl, rfl, rfl⟩ := H
      have hnb46 := NB174_166.out
      have hnc46 := NB166_174.out
      have hcz47_0 : wr.cell? ⟨gb174, 0, none⟩ = some (.int .i64 t170) := (blk_cell BK174.out 0).trans rfl
      have hcz47_1 : wr.cell? ⟨gb174, 1, none⟩ = some (u175001) := (blk_cell BK174.out 1).trans rfl
      have hfz47_0 := blk_frozen BK174.out 0
      have hfz47_1 := blk_frozen BK174.out 1
      have hcz48_0 : wr.cell? ⟨gb166, 0, none⟩ = some (.int .i64 x167000_1) := (blk_cell BK166.out 0).trans rfl
      have hcz48_1 : wr.cell? ⟨gb166, 1, none⟩ = some (.slice none 0 0) := (blk_cell BK166.out 1).trans rfl
      have hfz48_0 := blk_frozen BK166.out 0
      have hfz48_1 := blk_frozen BK166.out 1
      obtain ⟨Ao49, co49, eo49⟩ := Kd.R_slice HO_175001.out
      subst eo49
      go_wp2
      refine bodyPost_ret (results_ctt rfl _ _ gb166 24 #[.int .i64 t170, .slice Ao49 x175001_1.length co49] (0, 0) _ rfl (by (with_reducible repeat (first | refine blk_drewN ?_ _ | refine blk_drew ?_ | refine blk_alloc ?_ _)); refine blk_put (cs := #[.int .i64 t170, .slice none 0 0]) ?_ 1 _ rfl; (with_reducible repeat (first | refine blk_drewN ?_ _ | refine blk_drew ?_ | refine blk_alloc ?_ _)); refine blk_put (cs := #[.int .i64 x167000_1, .slice none 0 0]) ?_ 0 _ rfl; (with_reducible repeat (first | refine blk_drewN ?_ _ | refine blk_drew ?_ | refine blk_alloc ?_ _)); exact BK166.out) Tryd.underlying24 rfl (by kernel_rfl)) rfl ?_
      exact ⟨_, by first | rfl | (simp [errW_none, errW_some] <;> rfl) | (simp [*, errW_none, errW_some] <;> rfl), by (with_reducible repeat (first | apply Kd.R_alloc | apply Kd.R_drewN | apply Kd.R_drew)); exact Kd.R_mono (Kd.R_far (p := ⟨gb166, 1, none⟩) (Kd.R_far (p := ⟨gb166, 0, none⟩) (Kd.R_types HO_175001.out BK166.out (by decide)) (fun _ hk => hk.2) (.int .i64 t170)) (fun _ hk => hk.2) (.slice Ao49 x175001_1.length co49)) (fun _ hk => trivial), by repeat (first | (with_reducible first | exact HB.out | apply below_alloc | apply pw_below_drewN | apply below_drew1 | refine below_set ?_ GE166.out | refine below_set ?_ GE174.out) | exact HB.out)⟩
 ·rw [if_neg c4] at H
  have c4b0 : (t169 == 0) = false := beq_eq_false_iff_ne.mpr c4
  have c4b1 : (t169 != 0) = true := bne_iff_ne.mpr c4
  simp only [Option.some.injEq, Prod.mk.injEq] at H
  obtain ⟨rfl, rfl, rfl, rfl⟩ := H
  go_enter Tryd.func33, Tryd.ntmps33
  go_wp2_with (first | ((with_reducible refine gate_dst (N := 4) rfl ?_); refine box_event ?hg (N := 4) ?hd (cs := #[.int .i64 0, .slice none 0 0]) (t := 24) ?hr ?_; (case hd => rfl); (case hg => (first | rfl | (simp only [*]; rfl) | (simp [*]; done))); (case hr => first | (go_simp; done) | (go_simp; rfl)); intro gb166 hg w50 hbox hb; have n0_ := Aside0.mk (below_step (by repeat (first | (with_reducible first | exact HB.out | apply below_alloc | apply pw_below_drewN | apply below_drew1) | exact HB.out)) hb); have n1_ := Aside0.mk (hbox); have n2_ := Aside0.mk ((by rw [hg]; exact (below_size (by repeat (first | (with_reducible first | exact HB.out | apply below_alloc | apply pw_below_drewN | apply below_drew1) | exact HB.out))) : w.heap.size ≤ gb166)); have n3_ := Aside0.mk ((by rw [hg]; exact (below_size (by repeat (first | (with_reducible first | exact HB.out | apply below_alloc | apply pw_below_drewN | apply below_drew1) | exact HB.out))) : w.heap.size ≤ gb166)); clear HB; have HB := n0_; have BK166 := n1_; have GW166 := n2_; have GE166 := n3_; clear n0_ n1_ n2_ n3_; clear hb hbox hg) | ((with_reducible refine gate_callee (f := 32) rfl ?_); refine goesL_ (some 19) rfl rfl Tryd.func32 (by kernel_rfl) rfl #[.slice A0 l0.length c0, .int .i64 a1] rfl (by (try simp only [List.map_toArray, List.map_cons, List.map_nil]); first | done | rfl | (simp only [List.length_drop, List.length_take]; rfl)) ?_; (with_reducible refine (varint_Decode.calls k _ _ l0 a1 t167 t168 t169 _ ?side1 ?side2 A3.out).mono ?_); (case side1 => repeat (first | exact (Kd.C_below HR0.out HB.out) | (with_reducible refine Kd.C_alloc ?_ _) | (with_reducible refine Kd.C_drewN ?_ _) | (with_reducible refine Kd.C_drew ?_))); (case side2 => exact HC0.out); rintro e w' ⟨rfl, ⟨nd, rfl⟩⟩; refine ⟨_, rfl, ?_⟩; (try (rw [drewN_self w50]; generalize hq_ : World.drewN w50 _ = w50; have n0_ : Aside0 (w50.heap[gb166]? = some (.cells #[.int .i64 0, .slice none 0 0] 24 (0, 0))) := ⟨by rw [← hq_]; exact (by (with_reducible repeat (first | refine blk_drewN ?_ _ | refine blk_drew ?_ | refine blk_alloc ?_ _)); exact BK166.out)⟩; have n1_ : Aside0 (Below w.heap.size w w50) := ⟨by rw [← hq_]; exact (by repeat (first | (with_reducible first | exact HB.out | apply below_alloc | apply pw_below_drewN | apply below_drew1 | refine below_set ?_ GE166.out) | exact HB.out))⟩; clear BK166 HB hq_; have BK166 := n0_; have HB := n1_; clear n0_ n1_)); have hcz51_0 : w50.cell? ⟨gb166, 0, none⟩ = some (.int .i64 0) := (blk_cell BK166.out 0).trans rfl; have hcz51_1 : w50.cell? ⟨gb166, 1, none⟩ = some (.slice none 0 0) := (blk_cell BK166.out 1).trans rfl; have hfz51_0 := blk_frozen BK166.out 0; have hfz51_1 := blk_frozen BK166.out 1))
  refine bodyPost_ret (results_ctt rfl _ _ gb166 24 #[.int .i64 0, .slice none 0 0] (0, 0) _ rfl (by (with_reducible repeat (first | refine blk_drewN ?_ _ | refine blk_drew ?_ | refine blk_alloc ?_ _)); refine blk_put (cs := #[.int .i64 0, .slice none 0 0]) ?_ 1 _ rfl; (with_reducible repeat (first | refine blk_drewN ?_ _ | refine blk_drew ?_ | refine blk_alloc ?_ _)); refine blk_put (cs := #[.int .i64 0, .slice none 0 0]) ?_ 0 _ rfl; (with_reducible repeat (first | refine blk_drewN ?_ _ | refine blk_drew ?_ | refine blk_alloc ?_ _)); exact BK166.out) Tryd.underlying24 rfl (by kernel_rfl)) rfl ?_
  exact ⟨_, by first | rfl | (simp [errW_none, errW_some] <;> rfl) | (simp [*, errW_none, errW_some] <;> rfl), by first | exact Kd.R_nil _ _ _ _ _ | exact Kd.N_nil _ _ _ _ _ | exact Kd.V_nil _ _ _ _ _ | exact Kd.Q_nil _ _ _ _ _ | exact Kd.S_nil _ _ _ _ _, by repeat (first | (with_reducible first | exact HB.out | apply below_alloc | apply pw_below_drewN | apply below_drew1 | refine below_set ?_ GE166.out) | exact HB.out)⟩

/-! ### delvec_Decode: function 10 -/
def delvec_Decode.f (k : Nat) (l0 : List Int) : Option (ByteArray × Int × List Int × Int) :=
  (checksum_Open.f k l0).bind fun o => if o.2 = 0 then
    (varint_Decode.f k o.1 0).bind fun d => if d.2.2 = 0 then
      (if d.1 > 32 then some (⟨#[]⟩, 0, [], 3) else
        (if 0 ≤ d.1 ∧ 0 ≤ d.2.1 ∧ d.2.1 ≤ (o.1.length : Int) ∧ o.1.length ≤ 140737488355328 then
          (if d.1 > (o.1.length : Int) - d.2.1 then some (⟨#[]⟩, 0, [], 2) else
            (bitset_Decode.f k o.1 (d.2.1 + d.1)).bind fun s => if s.2.2.2 = 0 then
              (if s.2.2.1 < (o.1.length : Int) then some (⟨#[]⟩, 0, [], 3) else some (strOfNums ((o.1.take (d.2.1 + d.1).toNat).drop d.2.1.toNat), s.1, s.2.1, 0))
            else some (⟨#[]⟩, 0, [], s.2.2.2))
        else none))
    else some (⟨#[]⟩, 0, [], d.2.2)
  else some (⟨#[]⟩, 0, [], o.2)
theorem delvec_Decode.mono (k : Nat) (l0 : List Int) : LeO (delvec_Decode.f k l0) (delvec_Decode.f (k + 1) l0) := by
  unfold delvec_Decode.f
  repeat' first
  | (with_reducible exact checksum_Open.mono _ _)
  | (with_reducible exact varint_Decode.mono _ _ _)
  | (with_reducible exact bitset_Decode.mono _ _ _)
  | (with_reducible exact LeO.refl _)
  | (with_reducible exact LeO.none _)
  | (with_reducible refine LeO.ite ?_ ?_)
  | (with_reducible refine LeO.bind ?_ (fun _ => ?_))
theorem dd_info : (Tryd.prog.info? 5).map (fun i => (i.zero, i.size, i.bytes)) = some (some (.int .u8 0), 1, 1) := by kernel_rfl
set_option maxHeartbeats 4000000 in
set_option maxRecDepth 100000 in
theorem delvec_Decode.calls (k : Nat) (A0 : Option Addr) (c0 : Nat) (l0 : List Int) (r1 : ByteArray) (r2 : Int) (r3 : List Int) (r4 : Int) (w : World) (hr0 : Kd.C (Kd.int .u8) w A0 l0.length l0) (hc0 : l0.length ≤ c0) (h : delvec_Decode.f k l0 = some (r1, r2, r3, r4)) :
    Calls Tryd.prog 10 #[.slice A0 l0.length c0] w fun e w' => ∃ v1_ : Value, e = .returned (.tuple #[.string r1, .agg #[.int .i64 r2, v1_], .int .i64 r4]) ∧ Kd.R (Kd.int .u64) 51 w' w.heap.size (fun _ => True) v1_ r3 ∧ Below w.heap.size w w' := by
  have hu24 := Tryd.underlying24
  have HV := Aside0.mk (show Kd.V (Kd.int .u8) 5 (w.alloc (.cells #[.int .i64 0, .slice none 0 0] 24)) (w.alloc (.cells #[.int .i64 0, .slice none 0 0] 24)).heap.size (fun k_ => k_ < (w.alloc (.cells #[.int .i64 0, .slice none 0 0] 24)).heap.size) (.slice A0 l0.length c0) l0 from Kd.V_mk hc0 (Kd.C_F (Kd.heap_int .u8) (Kd.C_alloc hr0 _)))
  clear hr0 hc0
  unfold delvec_Decode.f at h
  replace h := Option.bind_eq_some_iff.mp h
  obtain ⟨⟨o1, o2⟩, hO, h⟩ := h
  have HO := Aside0.mk hO
  clear hO
  have hz : (w.alloc (.cells #[.int .i64 0, .slice none 0 0] 24)).cell? ⟨w.heap.size, 0, none⟩ = some (.int .i64 0) := (blk_cell (blk_new w _) 0).trans rfl
  by_cases e1 : o2 = 0
  case neg =>
    rw [if_neg e1] at h
    simp only [Option.some.injEq, Prod.mk.injEq] at h
    obtain ⟨rfl, rfl, rfl, rfl⟩ := h
    have e1b : (o2 != 0) = true := by simpa using e1
    go_enter Tryd.func10, Tryd.ntmps10
    go_wp2_with (first
      | (go_at_call 31; (with_reducible refine (checksum_Open.calls k (fun k_ => k_ < (w.alloc (.cells #[.int .i64 0, .slice none 0 0] 24)).heap.size) A0 c0 l0 o1 _ (w.alloc (.cells #[.int .i64 0, .slice none 0 0] 24)) HV.out HO.out).mono ?_); rintro e w1 ⟨v1, rfl, hv1, hb1⟩; obtain ⟨A1, c1, rfl⟩ := Kd.R_slice hv1; have hk1 := blk_below (blk_new w (.cells #[.int .i64 0, .slice none 0 0] 24)) hb1; have c0_1 := (blk_cell hk1 0).trans rfl; have c1_1 := (blk_cell hk1 1).trans rfl; have f0_1 := blk_frozen hk1 0; have f1_1 := blk_frozen hk1 1; have HK1 := Aside0.mk hk1; have HV1 := Aside0.mk hv1; have HB1 := Aside0.mk (show Below w.heap.size w w1 from below_step (below_alloc (Below.refl _ w) _) hb1); clear hk1 hv1 hb1))
    refine bodyPost_ret (results_list (rs := [.tmp 2, .cell 3 24, .tmp 4]) rfl (by simp) (.tmp (.cell w.heap.size 24 #[.int .i64 0, .slice none 0 0] (0, 0) _ rfl (blk_put (cs := #[.int .i64 0, .slice none 0 0]) (blk_put (cs := #[.int .i64 0, .slice none 0 0]) HK1.out 0 _ rfl) 1 _ rfl) Tryd.underlying24 rfl (by kernel_rfl) (.tmp .nil)))) rfl ?_
    exact ⟨_, rfl, Kd.R_nil _ _ _ _ _, below_set (below_set HB1.out (Nat.le_refl _)) (Nat.le_refl _)⟩
  subst e1
  rw [if_pos rfl] at h
  replace h := Option.bind_eq_some_iff.mp h
  obtain ⟨⟨d1, d2, d3⟩, hD, h⟩ := h
  have HD := Aside0.mk hD
  clear hD
  by_cases e2 : d3 = 0
  case neg =>
    rw [if_neg e2] at h
    simp only [Option.some.injEq, Prod.mk.injEq] at h
    obtain ⟨rfl, rfl, rfl, rfl⟩ := h
    have e2b : (d3 != 0) = true := by simpa using e2
    go_enter Tryd.func10, Tryd.ntmps10
    go_wp2_with (first
      | (go_at_call 31; (with_reducible refine (checksum_Open.calls k (fun k_ => k_ < (w.alloc (.cells #[.int .i64 0, .slice none 0 0] 24)).heap.size) A0 c0 l0 o1 _ (w.alloc (.cells #[.int .i64 0, .slice none 0 0] 24)) HV.out HO.out).mono ?_); rintro e w1 ⟨v1, rfl, hv1, hb1⟩; obtain ⟨A1, c1, rfl⟩ := Kd.R_slice hv1; have hk1 := blk_below (blk_new w (.cells #[.int .i64 0, .slice none 0 0] 24)) hb1; have c0_1 := (blk_cell hk1 0).trans rfl; have c1_1 := (blk_cell hk1 1).trans rfl; have f0_1 := blk_frozen hk1 0; have f1_1 := blk_frozen hk1 1; have HK1 := Aside0.mk hk1; have HV1 := Aside0.mk hv1; have HB1 := Aside0.mk (show Below w.heap.size w w1 from below_step (below_alloc (Below.refl _ w) _) hb1); clear hk1 hv1 hb1)
      | (go_at_call 32; (with_reducible refine (varint_Decode.calls k A1 c1 o1 0 _ _ _ w1 (Kd.R_reads' HV1.out).2.2 (Kd.R_reads' HV1.out).2.1 HD.out).mono ?_); rintro e w2 ⟨rfl, hd⟩; have hb2 := hd.below; have hk2 := blk_below HK1.out hb2; have c0_2 := (blk_cell hk2 0).trans rfl; have c1_2 := (blk_cell hk2 1).trans rfl; have f0_2 := blk_frozen hk2 0; have f1_2 := blk_frozen hk2 1; have HK2 := Aside0.mk hk2; have HC2 := Aside0.mk (Kd.C_below (Kd.R_reads' HV1.out).2.2 hb2); have HR2 := Aside0.mk (Kd.R_reads' HV1.out).2.1; have HB2 := Aside0.mk (below_step HB1.out hb2); clear hk2 hb2 hd))
    refine bodyPost_ret (results_list (rs := [.tmp 2, .cell 3 24, .tmp 4]) rfl (by simp) (.tmp (.cell w.heap.size 24 #[.int .i64 0, .slice none 0 0] (0, 0) _ rfl (blk_put (cs := #[.int .i64 0, .slice none 0 0]) (blk_put (cs := #[.int .i64 0, .slice none 0 0]) HK2.out 0 _ rfl) 1 _ rfl) Tryd.underlying24 rfl (by kernel_rfl) (.tmp .nil)))) rfl ?_
    exact ⟨_, rfl, Kd.R_nil _ _ _ _ _, below_set (below_set HB2.out (Nat.le_refl _)) (Nat.le_refl _)⟩
  subst e2
  rw [if_pos rfl] at h
  by_cases e3 : d1 > 32
  case pos =>
    rw [if_pos e3] at h
    simp only [Option.some.injEq, Prod.mk.injEq] at h
    obtain ⟨rfl, rfl, rfl, rfl⟩ := h
    have e3b : (32 : Int) < d1 := e3
    go_enter Tryd.func10, Tryd.ntmps10
    go_wp2_with (first
      | (go_at_call 31; (with_reducible refine (checksum_Open.calls k (fun k_ => k_ < (w.alloc (.cells #[.int .i64 0, .slice none 0 0] 24)).heap.size) A0 c0 l0 o1 _ (w.alloc (.cells #[.int .i64 0, .slice none 0 0] 24)) HV.out HO.out).mono ?_); rintro e w1 ⟨v1, rfl, hv1, hb1⟩; obtain ⟨A1, c1, rfl⟩ := Kd.R_slice hv1; have hk1 := blk_below (blk_new w (.cells #[.int .i64 0, .slice none 0 0] 24)) hb1; have c0_1 := (blk_cell hk1 0).trans rfl; have c1_1 := (blk_cell hk1 1).trans rfl; have f0_1 := blk_frozen hk1 0; have f1_1 := blk_frozen hk1 1; have HK1 := Aside0.mk hk1; have HV1 := Aside0.mk hv1; have HB1 := Aside0.mk (show Below w.heap.size w w1 from below_step (below_alloc (Below.refl _ w) _) hb1); clear hk1 hv1 hb1)
      | (go_at_call 32; (with_reducible refine (varint_Decode.calls k A1 c1 o1 0 _ _ _ w1 (Kd.R_reads' HV1.out).2.2 (Kd.R_reads' HV1.out).2.1 HD.out).mono ?_); rintro e w2 ⟨rfl, hd⟩; have hb2 := hd.below; have hk2 := blk_below HK1.out hb2; have c0_2 := (blk_cell hk2 0).trans rfl; have c1_2 := (blk_cell hk2 1).trans rfl; have f0_2 := blk_frozen hk2 0; have f1_2 := blk_frozen hk2 1; have HK2 := Aside0.mk hk2; have HC2 := Aside0.mk (Kd.C_below (Kd.R_reads' HV1.out).2.2 hb2); have HR2 := Aside0.mk (Kd.R_reads' HV1.out).2.1; have HB2 := Aside0.mk (below_step HB1.out hb2); clear hk2 hb2 hd))
    refine bodyPost_ret (results_list (rs := [.tmp 2, .cell 3 24, .tmp 4]) rfl (by simp) (.tmp (.cell w.heap.size 24 #[.int .i64 0, .slice none 0 0] (0, 0) _ rfl (blk_put (cs := #[.int .i64 0, .slice none 0 0]) (blk_put (cs := #[.int .i64 0, .slice none 0 0]) HK2.out 0 _ rfl) 1 _ rfl) Tryd.underlying24 rfl (by kernel_rfl) (.tmp .nil)))) rfl ?_
    exact ⟨_, rfl, Kd.R_nil _ _ _ _ _, below_set (below_set HB2.out (Nat.le_refl _)) (Nat.le_refl _)⟩
  rw [if_neg e3] at h
  by_cases e4 : 0 ≤ d1 ∧ 0 ≤ d2 ∧ d2 ≤ (o1.length : Int) ∧ o1.length ≤ 140737488355328
  case neg => rw [if_neg e4] at h; cases h
  rw [if_pos e4] at h
  obtain ⟨e4, e5, e6, e7⟩ := e4
  obtain ⟨n, rfl⟩ := Int.eq_ofNat_of_zero_le e4
  obtain ⟨a, rfl⟩ := Int.eq_ofNat_of_zero_le e5
  obtain ⟨m, hm⟩ : ∃ m : Nat, m = o1.length - a := ⟨_, rfl⟩
  have em : IntKind.i64.wrap ((o1.length : Int) - (a : Int)) = (m : Int) := by rw [IntWalk.i64_in _ (by omega)]; omega
  have en : IntKind.i64.wrap (n : Int) = (n : Int) := IntWalk.i64_in _ (by omega)
  have e3b : ¬ (32 : Int) < (n : Int) := e3
  rw [show (o1.length : Int) - (a : Int) = (m : Int) by omega] at h
  by_cases e8 : (n : Int) > (m : Int)
  case pos =>
    rw [if_pos e8] at h
    simp only [Option.some.injEq, Prod.mk.injEq] at h
    obtain ⟨rfl, rfl, rfl, rfl⟩ := h
    have e8b : (m : Int) < (n : Int) := e8
    clear e3 e4 e5 e6 e7 e8 hm
    go_enter Tryd.func10, Tryd.ntmps10
    go_wp2_with (first
      | (go_at_call 31; (with_reducible refine (checksum_Open.calls k (fun k_ => k_ < (w.alloc (.cells #[.int .i64 0, .slice none 0 0] 24)).heap.size) A0 c0 l0 o1 _ (w.alloc (.cells #[.int .i64 0, .slice none 0 0] 24)) HV.out HO.out).mono ?_); rintro e w1 ⟨v1, rfl, hv1, hb1⟩; obtain ⟨A1, c1, rfl⟩ := Kd.R_slice hv1; have hk1 := blk_below (blk_new w (.cells #[.int .i64 0, .slice none 0 0] 24)) hb1; have c0_1 := (blk_cell hk1 0).trans rfl; have c1_1 := (blk_cell hk1 1).trans rfl; have f0_1 := blk_frozen hk1 0; have f1_1 := blk_frozen hk1 1; have HK1 := Aside0.mk hk1; have HV1 := Aside0.mk hv1; have HB1 := Aside0.mk (show Below w.heap.size w w1 from below_step (below_alloc (Below.refl _ w) _) hb1); clear hk1 hv1 hb1)
      | (go_at_call 32; (with_reducible refine (varint_Decode.calls k A1 c1 o1 0 _ _ _ w1 (Kd.R_reads' HV1.out).2.2 (Kd.R_reads' HV1.out).2.1 HD.out).mono ?_); rintro e w2 ⟨rfl, hd⟩; have hb2 := hd.below; have hk2 := blk_below HK1.out hb2; have c0_2 := (blk_cell hk2 0).trans rfl; have c1_2 := (blk_cell hk2 1).trans rfl; have f0_2 := blk_frozen hk2 0; have f1_2 := blk_frozen hk2 1; have HK2 := Aside0.mk hk2; have HC2 := Aside0.mk (Kd.C_below (Kd.R_reads' HV1.out).2.2 hb2); have HR2 := Aside0.mk (Kd.R_reads' HV1.out).2.1; have HB2 := Aside0.mk (below_step HB1.out hb2); clear hk2 hb2 hd))
    refine bodyPost_ret (results_list (rs := [.tmp 2, .cell 3 24, .tmp 4]) rfl (by simp) (.tmp (.cell w.heap.size 24 #[.int .i64 0, .slice none 0 0] (0, 0) _ rfl (blk_put (cs := #[.int .i64 0, .slice none 0 0]) (blk_put (cs := #[.int .i64 0, .slice none 0 0]) HK2.out 0 _ rfl) 1 _ rfl) Tryd.underlying24 rfl (by kernel_rfl) (.tmp .nil)))) rfl ?_
    exact ⟨_, rfl, Kd.R_nil _ _ _ _ _, below_set (below_set HB2.out (Nat.le_refl _)) (Nat.le_refl _)⟩
  rw [if_neg e8] at h
  obtain ⟨u, hu⟩ : ∃ u : Nat, u = a + n := ⟨_, rfl⟩
  have eu : IntKind.i64.wrap ((a : Int) + (n : Int)) = (u : Int) := by rw [IntWalk.i64_in _ (by omega)]; omega
  rw [show (a : Int) + (n : Int) = (u : Int) by omega, Int.toNat_natCast, Int.toNat_natCast] at h
  have e8b : ¬ (m : Int) < (n : Int) := e8
  have HU := Aside0.mk (show a ≤ u ∧ u ≤ o1.length by omega)
  obtain ⟨y, hy⟩ : ∃ y, y = (o1.take u).drop a := ⟨_, rfl⟩
  rw [← hy] at h
  have HY := Aside0.mk hy
  clear hy e3 e4 e5 e6 e7 e8 hm hu
  replace h := Option.bind_eq_some_iff.mp h
  obtain ⟨⟨s1, s2, s3, s4⟩, hS, h⟩ := h
  have HS := Aside0.mk hS
  clear hS
  by_cases e9 : s4 = 0
  case neg =>
    rw [if_neg e9] at h
    simp only [Option.some.injEq, Prod.mk.injEq] at h
    obtain ⟨rfl, rfl, rfl, rfl⟩ := h
    have e9b : (s4 != 0) = true := by simpa using e9
    have e9c : (s4 == 0) = false := by simpa using e9
    go_enter Tryd.func10, Tryd.ntmps10
    go_wp2_with (first
      | (go_at_call 31; (with_reducible refine (checksum_Open.calls k (fun k_ => k_ < (w.alloc (.cells #[.int .i64 0, .slice none 0 0] 24)).heap.size) A0 c0 l0 o1 _ (w.alloc (.cells #[.int .i64 0, .slice none 0 0] 24)) HV.out HO.out).mono ?_); rintro e w1 ⟨v1, rfl, hv1, hb1⟩; obtain ⟨A1, c1, rfl⟩ := Kd.R_slice hv1; have hk1 := blk_below (blk_new w (.cells #[.int .i64 0, .slice none 0 0] 24)) hb1; have c0_1 := (blk_cell hk1 0).trans rfl; have c1_1 := (blk_cell hk1 1).trans rfl; have f0_1 := blk_frozen hk1 0; have f1_1 := blk_frozen hk1 1; have HK1 := Aside0.mk hk1; have HV1 := Aside0.mk hv1; have HB1 := Aside0.mk (show Below w.heap.size w w1 from below_step (below_alloc (Below.refl _ w) _) hb1); clear hk1 hv1 hb1)
      | (go_at_call 32; (with_reducible refine (varint_Decode.calls k A1 c1 o1 0 _ _ _ w1 (Kd.R_reads' HV1.out).2.2 (Kd.R_reads' HV1.out).2.1 HD.out).mono ?_); rintro e w2 ⟨rfl, hd⟩; have hb2 := hd.below; have hk2 := blk_below HK1.out hb2; have c0_2 := (blk_cell hk2 0).trans rfl; have c1_2 := (blk_cell hk2 1).trans rfl; have f0_2 := blk_frozen hk2 0; have f1_2 := blk_frozen hk2 1; have HK2 := Aside0.mk hk2; have HC2 := Aside0.mk (Kd.C_below (Kd.R_reads' HV1.out).2.2 hb2); have HR2 := Aside0.mk (Kd.R_reads' HV1.out).2.1; have HB2 := Aside0.mk (below_step HB1.out hb2); clear hk2 hb2 hd; obtain ⟨i36, hi36, _, hsz36, _⟩ := info_parts dd_info; have hcut := cut_mid (P := Tryd.prog) 27 5 .i64 .i64 Tryd.underlying27 hi36 1 hsz36 A1 o1.length c1 (a : Int) (u : Int) (by omega) (by have := HU.out; omega) (by have := HU.out; omega) HR2.out; simp only [Int.toNat_natCast, Nat.mul_one] at hcut; have hcc := Kd.C_mid (lo := a) (hi := u) (c := c1) HC2.out (by have := HU.out; omega) (by have := HU.out; omega) HR2.out; have hle : ((o1.take u).drop a).length = u - a := (by have := HU.out; rw [List.length_drop, List.length_take]; omega); rw [show ((o1.take u).drop a) = y from HY.out.symm] at hcc hle; rw [hle, show a * (Kd.int IntKind.u8).sz = a from Nat.mul_one a] at hcc; obtain ⟨A3, hA3⟩ : ∃ A3, A3 = (if c1 = a then A1 else A1.map (·.add a)) := ⟨_, rfl⟩; obtain ⟨c3, hc3⟩ : ∃ c3, c3 = c1 - a := ⟨_, rfl⟩; obtain ⟨n3, hn3⟩ : ∃ n3, n3 = u - a := ⟨_, rfl⟩; replace hcc : Kd.C (Kd.int .u8) w2 A3 n3 y := (by rw [hA3, hn3]; exact hcc); rw [← hA3, ← hc3, ← hn3] at hcut; have hcv := Kd.C_string (P := Tryd.prog) (c := c3) Tryd.underlying27 Tryd.underlying5 Tryd.underlying9 hcc; clear hA3 hc3 hn3 hcc hle hi36 hsz36)
      | (go_at_call 33; (with_reducible refine (bitset_Decode.calls k A1 c1 o1 (u : Int) _ _ _ _ w2 HC2.out HR2.out HS.out).mono ?_); rintro e w3 ⟨v3, rfl, hv3, hb3⟩; have hk3 := blk_below HK2.out hb3; obtain ⟨A4, c4, rfl⟩ := Kd.R_slice hv3; have c0_3 := (blk_cell hk3 0).trans rfl; have c1_3 := (blk_cell hk3 1).trans rfl; have f0_3 := blk_frozen hk3 0; have f1_3 := blk_frozen hk3 1; have HK3 := Aside0.mk hk3; have HV3 := Aside0.mk hv3; have HB3 := Aside0.mk (below_step HB2.out hb3); clear hk3 hv3 hb3))
    refine bodyPost_ret (results_list (rs := [.tmp 2, .cell 3 24, .tmp 4]) rfl (by simp) (.tmp (.cell w.heap.size 24 #[.int .i64 0, .slice none 0 0] (0, 0) _ rfl (blk_put (cs := #[.int .i64 0, .slice A4 s2.length c4]) (blk_put (cs := #[.int .i64 s1, .slice A4 s2.length c4]) (blk_put (cs := #[.int .i64 s1, .slice none 0 0]) (blk_put (cs := #[.int .i64 0, .slice none 0 0]) HK3.out 0 _ rfl) 1 _ rfl) 0 _ rfl) 1 _ rfl) Tryd.underlying24 rfl (by kernel_rfl) (.tmp .nil)))) rfl ?_
    exact ⟨_, rfl, Kd.R_nil _ _ _ _ _, below_set (below_set (below_set (below_set HB3.out (Nat.le_refl _)) (Nat.le_refl _)) (Nat.le_refl _)) (Nat.le_refl _)⟩
  subst e9
  rw [if_pos rfl] at h
  by_cases e10 : s3 < (o1.length : Int)
  case pos =>
    rw [if_pos e10] at h
    simp only [Option.some.injEq, Prod.mk.injEq] at h
    obtain ⟨rfl, rfl, rfl, rfl⟩ := h
    go_enter Tryd.func10, Tryd.ntmps10
    go_wp2_with (first
      | (go_at_call 31; (with_reducible refine (checksum_Open.calls k (fun k_ => k_ < (w.alloc (.cells #[.int .i64 0, .slice none 0 0] 24)).heap.size) A0 c0 l0 o1 _ (w.alloc (.cells #[.int .i64 0, .slice none 0 0] 24)) HV.out HO.out).mono ?_); rintro e w1 ⟨v1, rfl, hv1, hb1⟩; obtain ⟨A1, c1, rfl⟩ := Kd.R_slice hv1; have hk1 := blk_below (blk_new w (.cells #[.int .i64 0, .slice none 0 0] 24)) hb1; have c0_1 := (blk_cell hk1 0).trans rfl; have c1_1 := (blk_cell hk1 1).trans rfl; have f0_1 := blk_frozen hk1 0; have f1_1 := blk_frozen hk1 1; have HK1 := Aside0.mk hk1; have HV1 := Aside0.mk hv1; have HB1 := Aside0.mk (show Below w.heap.size w w1 from below_step (below_alloc (Below.refl _ w) _) hb1); clear hk1 hv1 hb1)
      | (go_at_call 32; (with_reducible refine (varint_Decode.calls k A1 c1 o1 0 _ _ _ w1 (Kd.R_reads' HV1.out).2.2 (Kd.R_reads' HV1.out).2.1 HD.out).mono ?_); rintro e w2 ⟨rfl, hd⟩; have hb2 := hd.below; have hk2 := blk_below HK1.out hb2; have c0_2 := (blk_cell hk2 0).trans rfl; have c1_2 := (blk_cell hk2 1).trans rfl; have f0_2 := blk_frozen hk2 0; have f1_2 := blk_frozen hk2 1; have HK2 := Aside0.mk hk2; have HC2 := Aside0.mk (Kd.C_below (Kd.R_reads' HV1.out).2.2 hb2); have HR2 := Aside0.mk (Kd.R_reads' HV1.out).2.1; have HB2 := Aside0.mk (below_step HB1.out hb2); clear hk2 hb2 hd; obtain ⟨i36, hi36, _, hsz36, _⟩ := info_parts dd_info; have hcut := cut_mid (P := Tryd.prog) 27 5 .i64 .i64 Tryd.underlying27 hi36 1 hsz36 A1 o1.length c1 (a : Int) (u : Int) (by omega) (by have := HU.out; omega) (by have := HU.out; omega) HR2.out; simp only [Int.toNat_natCast, Nat.mul_one] at hcut; have hcc := Kd.C_mid (lo := a) (hi := u) (c := c1) HC2.out (by have := HU.out; omega) (by have := HU.out; omega) HR2.out; have hle : ((o1.take u).drop a).length = u - a := (by have := HU.out; rw [List.length_drop, List.length_take]; omega); rw [show ((o1.take u).drop a) = y from HY.out.symm] at hcc hle; rw [hle, show a * (Kd.int IntKind.u8).sz = a from Nat.mul_one a] at hcc; obtain ⟨A3, hA3⟩ : ∃ A3, A3 = (if c1 = a then A1 else A1.map (·.add a)) := ⟨_, rfl⟩; obtain ⟨c3, hc3⟩ : ∃ c3, c3 = c1 - a := ⟨_, rfl⟩; obtain ⟨n3, hn3⟩ : ∃ n3, n3 = u - a := ⟨_, rfl⟩; replace hcc : Kd.C (Kd.int .u8) w2 A3 n3 y := (by rw [hA3, hn3]; exact hcc); rw [← hA3, ← hc3, ← hn3] at hcut; have hcv := Kd.C_string (P := Tryd.prog) (c := c3) Tryd.underlying27 Tryd.underlying5 Tryd.underlying9 hcc; clear hA3 hc3 hn3 hcc hle hi36 hsz36)
      | (go_at_call 33; (with_reducible refine (bitset_Decode.calls k A1 c1 o1 (u : Int) _ _ _ _ w2 HC2.out HR2.out HS.out).mono ?_); rintro e w3 ⟨v3, rfl, hv3, hb3⟩; have hk3 := blk_below HK2.out hb3; obtain ⟨A4, c4, rfl⟩ := Kd.R_slice hv3; have c0_3 := (blk_cell hk3 0).trans rfl; have c1_3 := (blk_cell hk3 1).trans rfl; have f0_3 := blk_frozen hk3 0; have f1_3 := blk_frozen hk3 1; have HK3 := Aside0.mk hk3; have HV3 := Aside0.mk hv3; have HB3 := Aside0.mk (below_step HB2.out hb3); clear hk3 hv3 hb3))
    refine bodyPost_ret (results_list (rs := [.tmp 2, .cell 3 24, .tmp 4]) rfl (by simp) (.tmp (.cell w.heap.size 24 #[.int .i64 0, .slice none 0 0] (0, 0) _ rfl (blk_put (cs := #[.int .i64 0, .slice A4 s2.length c4]) (blk_put (cs := #[.int .i64 s1, .slice A4 s2.length c4]) (blk_put (cs := #[.int .i64 s1, .slice none 0 0]) (blk_put (cs := #[.int .i64 0, .slice none 0 0]) HK3.out 0 _ rfl) 1 _ rfl) 0 _ rfl) 1 _ rfl) Tryd.underlying24 rfl (by kernel_rfl) (.tmp .nil)))) rfl ?_
    exact ⟨_, rfl, Kd.R_nil _ _ _ _ _, below_set (below_set (below_set (below_set HB3.out (Nat.le_refl _)) (Nat.le_refl _)) (Nat.le_refl _)) (Nat.le_refl _)⟩
  rw [if_neg e10] at h
  simp only [Option.some.injEq, Prod.mk.injEq] at h
  obtain ⟨rfl, rfl, rfl, rfl⟩ := h
  go_enter Tryd.func10, Tryd.ntmps10
  go_wp2_with (first
      | (go_at_call 31; (with_reducible refine (checksum_Open.calls k (fun k_ => k_ < (w.alloc (.cells #[.int .i64 0, .slice none 0 0] 24)).heap.size) A0 c0 l0 o1 _ (w.alloc (.cells #[.int .i64 0, .slice none 0 0] 24)) HV.out HO.out).mono ?_); rintro e w1 ⟨v1, rfl, hv1, hb1⟩; obtain ⟨A1, c1, rfl⟩ := Kd.R_slice hv1; have hk1 := blk_below (blk_new w (.cells #[.int .i64 0, .slice none 0 0] 24)) hb1; have c0_1 := (blk_cell hk1 0).trans rfl; have c1_1 := (blk_cell hk1 1).trans rfl; have f0_1 := blk_frozen hk1 0; have f1_1 := blk_frozen hk1 1; have HK1 := Aside0.mk hk1; have HV1 := Aside0.mk hv1; have HB1 := Aside0.mk (show Below w.heap.size w w1 from below_step (below_alloc (Below.refl _ w) _) hb1); clear hk1 hv1 hb1)
      | (go_at_call 32; (with_reducible refine (varint_Decode.calls k A1 c1 o1 0 _ _ _ w1 (Kd.R_reads' HV1.out).2.2 (Kd.R_reads' HV1.out).2.1 HD.out).mono ?_); rintro e w2 ⟨rfl, hd⟩; have hb2 := hd.below; have hk2 := blk_below HK1.out hb2; have c0_2 := (blk_cell hk2 0).trans rfl; have c1_2 := (blk_cell hk2 1).trans rfl; have f0_2 := blk_frozen hk2 0; have f1_2 := blk_frozen hk2 1; have HK2 := Aside0.mk hk2; have HC2 := Aside0.mk (Kd.C_below (Kd.R_reads' HV1.out).2.2 hb2); have HR2 := Aside0.mk (Kd.R_reads' HV1.out).2.1; have HB2 := Aside0.mk (below_step HB1.out hb2); clear hk2 hb2 hd; obtain ⟨i36, hi36, _, hsz36, _⟩ := info_parts dd_info; have hcut := cut_mid (P := Tryd.prog) 27 5 .i64 .i64 Tryd.underlying27 hi36 1 hsz36 A1 o1.length c1 (a : Int) (u : Int) (by omega) (by have := HU.out; omega) (by have := HU.out; omega) HR2.out; simp only [Int.toNat_natCast, Nat.mul_one] at hcut; have hcc := Kd.C_mid (lo := a) (hi := u) (c := c1) HC2.out (by have := HU.out; omega) (by have := HU.out; omega) HR2.out; have hle : ((o1.take u).drop a).length = u - a := (by have := HU.out; rw [List.length_drop, List.length_take]; omega); rw [show ((o1.take u).drop a) = y from HY.out.symm] at hcc hle; rw [hle, show a * (Kd.int IntKind.u8).sz = a from Nat.mul_one a] at hcc; obtain ⟨A3, hA3⟩ : ∃ A3, A3 = (if c1 = a then A1 else A1.map (·.add a)) := ⟨_, rfl⟩; obtain ⟨c3, hc3⟩ : ∃ c3, c3 = c1 - a := ⟨_, rfl⟩; obtain ⟨n3, hn3⟩ : ∃ n3, n3 = u - a := ⟨_, rfl⟩; replace hcc : Kd.C (Kd.int .u8) w2 A3 n3 y := (by rw [hA3, hn3]; exact hcc); rw [← hA3, ← hc3, ← hn3] at hcut; have hcv := Kd.C_string (P := Tryd.prog) (c := c3) Tryd.underlying27 Tryd.underlying5 Tryd.underlying9 hcc; clear hA3 hc3 hn3 hcc hle hi36 hsz36)
      | (go_at_call 33; (with_reducible refine (bitset_Decode.calls k A1 c1 o1 (u : Int) _ _ _ _ w2 HC2.out HR2.out HS.out).mono ?_); rintro e w3 ⟨v3, rfl, hv3, hb3⟩; have hk3 := blk_below HK2.out hb3; obtain ⟨A4, c4, rfl⟩ := Kd.R_slice hv3; have c0_3 := (blk_cell hk3 0).trans rfl; have c1_3 := (blk_cell hk3 1).trans rfl; have f0_3 := blk_frozen hk3 0; have f1_3 := blk_frozen hk3 1; have HK3 := Aside0.mk hk3; have HV3 := Aside0.mk hv3; have HB3 := Aside0.mk (below_step HB2.out hb3); clear hk3 hv3 hb3))
  have hk4 : ((w3.setCell ⟨w.heap.size, 0, none⟩ (.int .i64 s1)).setCell ⟨w.heap.size, 1, none⟩ (.slice A4 s2.length c4)).heap[w.heap.size]? = some (.cells #[.int .i64 s1, .slice A4 s2.length c4] 24 (0, 0)) := blk_put (cs := #[.int .i64 s1, .slice none 0 0]) (blk_put (cs := #[.int .i64 0, .slice none 0 0]) HK3.out 0 _ rfl) 1 _ rfl
  have hb4 : Below w.heap.size w ((w3.setCell ⟨w.heap.size, 0, none⟩ (.int .i64 s1)).setCell ⟨w.heap.size, 1, none⟩ (.slice A4 s2.length c4)) := below_set (below_set HB3.out (Nat.le_refl _)) (Nat.le_refl _)
  have hv4 : Kd.R (Kd.int .u64) 51 ((w3.setCell ⟨w.heap.size, 0, none⟩ (.int .i64 s1)).setCell ⟨w.heap.size, 1, none⟩ (.slice A4 s2.length c4)) w.heap.size (fun _ => True) (.slice A4 s2.length c4) s2 := by
    have hlt : w.heap.size < w2.heap.size := (Array.getElem?_eq_some_iff.1 HK2.out).1
    have h1 := Kd.R_lower (base' := w.heap.size) HV3.out (Nat.le_of_lt hlt)
    have h2 := Kd.R_types h1 HK3.out (by decide)
    exact Kd.R_mono (Kd.R_far (p := ⟨w.heap.size, 1, none⟩) (Kd.R_far (p := ⟨w.heap.size, 0, none⟩) h2 (fun _ hk => hk.2) _) (fun _ hk => hk.2) _) (fun _ _ => trivial)
  clear HV HV1 HK1 HB1 HK2 HC2 HR2 HB2 HK3 HV3 HB3 c0_1 c1_1 f0_1 f1_1 c0_2 c1_2 f0_2 f1_2 c0_3 c1_3 f0_3 f1_3 hcut hcv hz
  generalize ((w3.setCell ⟨w.heap.size, 0, none⟩ (.int .i64 s1)).setCell ⟨w.heap.size, 1, none⟩ (.slice A4 s2.length c4)) = w4 at hk4 hb4 hv4 ⊢
  have HK4 := Aside0.mk (blk_drew hk4)
  have HB4 := Aside0.mk (below_drew1 hb4)
  have HV4 := Aside0.mk (Kd.R_drew hv4)
  clear hb4 hv4
  refine start_ (n := 5) (S := fun w' => w'.cell? ⟨w.heap.size, 0, none⟩ = some (.int .i64 s1) ∧ w'.cell? ⟨w.heap.size, 1, none⟩ = some (.slice A4 s2.length c4)) (ds := []) #[false, false, false, false, false] (by kernel_rfl) rfl rfl ⟨(blk_cell hk4 0).trans rfl, (blk_cell hk4 1).trans rfl⟩ (fun hHeld => ?_)
  clear hk4
  generalize w4.drew = w5 at HK4 HB4 HV4 hHeld ⊢
  
  refine pure_ (i := 0) (N := some 71) (v := ?_) (a' := ?_) #[true, false, false, false, false] rfl rfl (by kernel_rfl) (fun _ _ _ h => h) (Or.inl ⟨by (first | rfl | (simp only [*]; rfl) | (simp [*]; done)), ?_⟩) ?_ ?_
  rotate_left
  · intro w'
    go_simp
    with_reducible rfl
  rotate_left
  · simp only [Act.put, List.setIfInBounds_toArray, List.set_cons_zero, List.set_cons_succ, i64_w, i32_w]
    rfl
  refine pure_ (i := 2) (N := some 2) (v := ?_) (a' := ?_) #[true, false, true, false, false] rfl rfl (by kernel_rfl) (fun _ _ _ h => h) (Or.inl ⟨by (first | rfl | (simp only [*]; rfl) | (simp [*]; done)), ?_⟩) ?_ ?_
  rotate_left
  · intro w'
    go_simp
    with_reducible rfl
  rotate_left
  · simp only [Act.put, List.setIfInBounds_toArray, List.set_cons_zero, List.set_cons_succ, i64_w, i32_w]
    rfl
  refine take_ (i := 1) (N := some 72) (v := ?_) (a' := ?_) #[true, true, true, false, false] rfl rfl (by kernel_rfl) (fun _ _ _ h => h) (Or.inl ⟨by (first | rfl | (simp only [*]; rfl) | (simp [*]; done)), ?_⟩) hHeld ?_ ?_
  rotate_left
  · rintro w' ⟨s0, s1⟩
    go_simp
    with_reducible rfl
  rotate_left
  · simp only [Act.put, List.setIfInBounds_toArray, List.set_cons_zero, List.set_cons_succ, i64_w, i32_w]
    rfl
  refine one_ (i := 3) (N := none) #[true, true, true, true, false] rfl rfl (by kernel_rfl) (by decide) (fun K hK => ?_)
  have d0 := hHeld.1
  have d1 := hHeld.2
  have g0 := blk_frozen HK4.out 0
  have g1 := blk_frozen HK4.out 1
  refine skip_ (w1 := ?_) (by rfl) rfl ?_ ?_
  rotate_left
  · go_simp
    rfl
  have hk5 : ((w5.setCell ⟨w.heap.size, 0, none⟩ (.int .i64 s1)).setCell ⟨w.heap.size, 1, none⟩ (.slice A4 s2.length c4)).heap[w.heap.size]? = some (.cells #[.int .i64 s1, .slice A4 s2.length c4] 24 (0, 0)) := blk_put (cs := #[.int .i64 s1, .slice A4 s2.length c4]) (blk_put (cs := #[.int .i64 s1, .slice A4 s2.length c4]) HK4.out 0 _ rfl) 1 _ rfl
  refine hK.out _ _ ⟨(blk_cell hk5 0).trans rfl, (blk_cell hk5 1).trans rfl⟩ (fun hHeld => ?_)
  clear hK K
  refine pure_ (i := 4) (N := some 4) (v := ?_) (a' := ?_) #[true, true, true, true, true] rfl rfl (by kernel_rfl) (fun _ _ _ h => h) (Or.inl ⟨by (first | rfl | (simp only [*]; rfl) | (simp [*]; done)), ?_⟩) ?_ ?_
  rotate_left
  · intro w'
    go_simp
    with_reducible rfl
  rotate_left
  · simp only [Act.put, List.setIfInBounds_toArray, List.set_cons_zero, List.set_cons_succ, i64_w, i32_w]
    rfl
  refine done_ (by kernel_rfl) ?_
  try go_wp2
  refine bodyPost_ret (results_list (rs := [.tmp 2, .cell 3 24, .tmp 4]) rfl (by simp) (.tmp (.cell w.heap.size 24 #[.int .i64 s1, .slice A4 s2.length c4] (0, 0) _ rfl hk5 Tryd.underlying24 rfl (by kernel_rfl) (.tmp .nil)))) rfl ?_
  exact ⟨_, rfl, Kd.R_mono (Kd.R_far (p := ⟨w.heap.size, 1, none⟩) (Kd.R_far (p := ⟨w.heap.size, 0, none⟩) (Kd.R_types HV4.out HK4.out (by decide)) (fun _ hk => hk.2) _) (fun _ hk => hk.2) _) (fun _ _ => trivial), below_set (below_set HB4.out (Nat.le_refl _)) (Nat.le_refl _)⟩

end Go.Proofs.YtfonjlolliiaeaaDoor.QDelvecApplies
