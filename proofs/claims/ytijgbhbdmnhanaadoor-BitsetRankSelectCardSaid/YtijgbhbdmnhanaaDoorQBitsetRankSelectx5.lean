-- Written by a program of this session (wip/pr2.sh): the walk of the Go text, function by function.
import Derived.Test.YtijgbhbdmnhanaaDoorQBitsetRankSelectx0
namespace Go.Proofs.YtijgbhbdmnhanaaDoor.QBitsetRankSelect
open Go.RowKit Go.Proofs.YtijgbhbdmnhanaaDoorW.PrintWords Go.Proofs.YtijgbhbdmnhanaaDoorW.PrintLast Go.Proofs.YtijgbhbdmnhanaaDoorW.PrintMore
open Go.Proofs.YtijgbhbdmnhanaaDoorM
attribute [local go_sem] max2_int min2_int max_two min_two max_three min_three max_four min_four   -- for this text's walks alone
set_option linter.unusedVariables false
set_option linter.unusedSimpArgs false

/-! ### laminalaw03_elements: function 36 -/
section
open Go.Shelf
attribute [local go_sem] Oper.semAt_some
def laminalaw03_elements.f (a0_0 : Int) (l0_1 : List Int) : Option (List Int) := if wokB l0_1 = true ∧ l0_1.length ≤ 10000000 ∧ (elsI l0_1 (64 * l0_1.length)).length ≤ 4000 then some (elsI l0_1 (64 * l0_1.length)) else none
theorem el_info : (Tryd.prog.info? 3).map (fun i => (i.zero, i.size, i.bytes)) = some (some (.int .i64 0), 1, 8) := by kernel_rfl
theorem cmp_nil (p : Value) (W : World) : Sem.run Tryd.prog (binOp BinOp.eql 63 (Value.func (Fn.func 81) #[] #[p]) Value.nilFunc) W = .ok (.bool false) W := rfl
set_option maxHeartbeats 2000000 in
set_option maxRecDepth 100000 in
theorem laminalaw03_elements.calls (a0_0 : Int) (A0_1 : Option Addr) (c0_1 : Nat) (l0_1 : List Int) (r : List Int) (w : World) (hr0_1 : Kd.C (Kd.int .u64) w A0_1 l0_1.length l0_1) (hc0_1 : l0_1.length ≤ c0_1) (hT : TabAt w) (h : laminalaw03_elements.f a0_0 l0_1 = some r) :
    Calls Tryd.prog 36 #[.agg #[.int .i64 a0_0, .slice A0_1 l0_1.length c0_1]] w fun e w' => ∃ v0_ : Value, e = .returned (v0_) ∧ Kd.R (Kd.int .i64) 3 w' w.heap.size (fun _ => True) v0_ r ∧ Below w.heap.size w w' := by
  unfold laminalaw03_elements.f at h
  by_cases hsz : wokB l0_1 = true ∧ l0_1.length ≤ 10000000 ∧ (elsI l0_1 (64 * l0_1.length)).length ≤ 4000
  case neg => rw [if_neg hsz] at h; cases h
  rw [if_pos hsz] at h
  obtain ⟨s1, s2, s3⟩ := hsz
  have hrr := Option.some.inj h
  subst hrr
  clear h
  obtain ⟨xs, hxs⟩ : ∃ xs, xs = elsI l0_1 (64 * l0_1.length) := ⟨_, rfl⟩
  rw [← hxs] at s3
  have hwok := wokB_wok s1
  have hwds := words_at hr0_1
  have hpos := TabAt.pos hT
  have hro : Fence.wide.round = none := rfl
  obtain ⟨i0, hi, hz0, hz1, hz2⟩ := info_parts el_info
  refine (callsIn_wide (n := 8)).1 ?_
  refine callsIn_of_wp_marks Tryd.func36 rfl trivial ?_ hro
  simp only [Tryd.ntmps36, List.size_toArray, List.length_cons, List.length_nil, Nat.reduceAdd, Nat.reduceSub, Array.replicate_succ, Array.replicate_zero, List.push_toArray, List.append_toArray, List.nil_append, List.cons_append]
  have hcmp := fun W => cmp_nil (.pointer (some ⟨w.heap.size + 1 + 1, 0, none⟩)) W
  gi_wp2_with (refine ⟨trivial, ?_⟩; gi_at_call 59; refine (all_in Fence.wide 7 trivial hro a0_0 A0_1 l0_1.length c0_1 _).mono ?_; rintro e w' ⟨rfl, rfl⟩)
  have bO := Boxed.new (w.alloc (.cells #[.int .i64 a0_0, .slice A0_1 l0_1.length c0_1] 25)) 22 (.slice none 0 0)
  have b2 := r_new2 ((w.alloc (.cells #[.int .i64 a0_0, .slice A0_1 l0_1.length c0_1] 25)).alloc (.cells #[.slice none 0 0] 22)) (.int .i64 a0_0) (.slice A0_1 l0_1.length c0_1) 25
  simp only [World.size_alloc] at bO b2
  have hB0 : Below w.heap.size w (((w.alloc (.cells #[.int .i64 a0_0, .slice A0_1 l0_1.length c0_1] 25)).alloc (.cells #[.slice none 0 0] 22)).alloc (.cells #[.int .i64 a0_0, .slice A0_1 l0_1.length c0_1] 25)) := (((Below.refl _ w).alloc (Nat.le_refl _) _).alloc (by simp) _).alloc (by simp; omega) _
  have bA := bO.alloc (.cells #[.int .i64 a0_0, .slice A0_1 l0_1.length c0_1] 25)
  have hsz : (((w.alloc (.cells #[.int .i64 a0_0, .slice A0_1 l0_1.length c0_1] 25)).alloc (.cells #[.slice none 0 0] 22)).alloc (.cells #[.int .i64 a0_0, .slice A0_1 l0_1.length c0_1] 25)).heap.size = w.heap.size + 3 := by simp
  obtain ⟨W0, hW0⟩ : ∃ W0, W0 = (((w.alloc (.cells #[.int .i64 a0_0, .slice A0_1 l0_1.length c0_1] 25)).alloc (.cells #[.slice none 0 0] 22)).alloc (.cells #[.int .i64 a0_0, .slice A0_1 l0_1.length c0_1] 25)) := ⟨_, rfl⟩
  rw [← hW0] at b2 bA hB0 hsz ⊢
  clear hW0 bO
  refine wpIn_rangeFunc_ownG hro (by decide) (gf := 81) (lb := #[.pointer (some ⟨w.heap.size + 1 + 1, 0, none⟩)]) rfl trivial (enters_of Tryd.func81 (by kernel_rfl) rfl)
    (all_stops Fence.wide 7 trivial trivial hro (by decide) (w.heap.size + 1 + 1) w.heap.size l0_1.length c0_1 A0_1 l0_1 hwok rfl s2 hpos W0 (by omega) (by omega) b2 (fun j hj => by
      obtain ⟨ad, e1, e2, e3⟩ := hwds j hj
      exact ⟨ad, e1, e2, (hB0.cell (p := ad.add j) ((addr_block ad j).symm ▸ e2)).trans e3⟩) (hT.below hB0 hpos)) belowK_t (belowK_b (by omega)) (Below.refl _ _) (fun _ => rfl)
    (fun pre W => (∃ v, Boxed W (w.heap.size + 1) 22 v ∧ W.ownsRow w.heap.size 3 1 v pre.length (pre.map (Value.int .i64)) ∧ True) ∧ Below w.heap.size w W)
    (fun _ _ _ => False)
    (OwnFrom.and (Own.from (holdsRow_own w.heap.size (w.heap.size + 1) 22 3 1 (fun pre : List Int => pre.length) (fun pre : List Int => pre.map (Value.int .i64)) (fun (_ : List Int) _ => True)) _) (ownFrom_below (Nat.le_refl _) (by omega)))
    (fun _ _ _ _ _ hs _ _ => hs)
    ⟨⟨_, bA, World.ownsRow_nil _ _ _ _, trivial⟩, hB0⟩
    (fun x => { tmps := #[.agg #[.int .i64 a0_0, .slice A0_1 l0_1.length c0_1], .pointer (some ⟨w.heap.size, 0, none⟩), .slice none 0 0, .pointer (some ⟨w.heap.size + 1, 0, none⟩), .func (.func 81) #[] #[.pointer (some ⟨w.heap.size + 1 + 1, 0, none⟩)], .int .i64 x, .agg #[.int .i64 a0_0, .slice A0_1 l0_1.length c0_1], .func (.func 81) #[] #[.pointer (some ⟨w.heap.size + 1 + 1, 0, none⟩)], .func (.func 81) #[] #[.pointer (some ⟨w.heap.size + 1 + 1, 0, none⟩)], .bool false, undef, .func (.func 81) #[] #[.pointer (some ⟨w.heap.size + 1 + 1, 0, none⟩)], .int .i64 x, undef, undef, undef, undef, undef, undef, undef, undef], defers := [] }) ?assign ?body ?done ?stop
  case assign =>
    intro l x W K hK
    gi_wp2
    exact hK
  case body =>
    rintro l pre x W ⟨⟨v, hv, hrow, _⟩, hB⟩ hlt
    have hc := hv.cell
    rw [← hxs] at hlt
    have hgt : decide ((4000 : Int) < ((pre.length + 1 : Nat) : Int)) = false := decide_eq_false (by omega)
    gi_wp2_with (gi_at_builtin; refine wpListIn_append_own _ rfl _ _ 22 rfl w.heap.size 3 i0 (.int .i64 0) 1 8 Tryd.underlying22 hi hz0 hz1 hz2 rfl (by decide) _ _ _ rfl (hrow.alloc _) ⟨W.heap.size, 0, none⟩ 1 1 [.int .i64 x] rfl rfl (cell_one_new _ _ _) (by simp [Value.oneCell']) (by simp only [maxLen]; omega) (by omega) (by have := hB.size; simp; omega) ?_; intro v' w1 hown' hgrow _; obtain ⟨g', cap', rfl⟩ := ownsRow_succ hown'; obtain ⟨hv1, hv2, hr2, hk2, hb2⟩ := hv.appended (by decide) hrow hB.size (by omega) hown' hgrow; have hc1 := hv1.cell; have hf1 := hv1.frozen)
    exact ⟨hk2.from _, hb2, ⟨_, hv2, by simpa using hr2, trivial⟩, hB.trans hb2⟩
  case done =>
    rintro D ys W hD rfl ⟨⟨v, hv, hrow, _⟩, hB⟩ hK
    have hc := hv.cell
    gi_wp2
    refine ⟨by simp, .inl ⟨_, _, rfl, run_takeDeferred hK, ?_⟩⟩
    exact ⟨_, results_tmp rfl _ _ _, v, rfl, Kd.R_of_own (enc := Value.int .i64) (h1 := fun _ => rfl) (ownsRow_putObj hrow _ hK rfl) (fun _ _ => trivial), hB.trans (belowK_b (w := w) (Nat.le_refl _) W D _ _ (by omega) hK rfl rfl)⟩
  case stop =>
    rintro D c pre W _ _ h _
    exact h.elim
end

end Go.Proofs.YtijgbhbdmnhanaaDoor.QBitsetRankSelect
