-- Written by a program of this session (wip/pr2.sh): the walk of the Go text, function by function.
import Derived.Test.YtijgbhbdmnhanaaDoorQBitsetAlgebrax0
import Derived.Test.YtijgbhbdmnhanaaDoorQBitsetAlgebrax4
namespace Go.Proofs.YtijgbhbdmnhanaaDoor.QBitsetAlgebra
open Go.RowKit Go.Proofs.YtijgbhbdmnhanaaDoorW.PrintWords Go.Proofs.YtijgbhbdmnhanaaDoorW.PrintLast Go.Proofs.YtijgbhbdmnhanaaDoorW.PrintMore
open Go.Proofs.YtijgbhbdmnhanaaDoorM
attribute [local go_sem] max2_int min2_int max_two min_two max_three min_three max_four min_four   -- for this text's walks alone
set_option linter.unusedVariables false
set_option linter.unusedSimpArgs false

/-! ### bitset_Encode: function 34 -/
section
open Go.Shelf
attribute [local go_sem] Oper.semAt_some
theorem be_l0 : ∀ (f n : Nat) (acc : List Int), n < 128 ^ (f + 1) → acc.length + f < 1000 → Ev (fun k => varint_Encode.l0 k (n : Int) acc) (acc ++ venc n) := by
  intro f
  induction f with
  | zero =>
    intro n acc hn ha
    have h : n < 128 := by simpa using hn
    refine Ev.succ ?_
    simp only [varint_Encode.l0]
    refine Ev.neg (by omega) ?_
    refine Ev.pos (by omega) ?_
    exact Ev.eq (Ev.now _) (by rw [venc_lt h, show (n : Int) % 256 = n by omega])
  | succ f ih =>
    intro n acc hn ha
    have hn2 : n / 128 < 128 ^ (f + 1) := by
      rw [Nat.div_lt_iff_lt_mul (by decide), ← Nat.pow_succ]; exact hn
    clear hn
    refine Ev.succ ?_
    simp only [varint_Encode.l0]
    by_cases h : n < 128
    · refine Ev.neg (by omega) ?_
      refine Ev.pos (by omega) ?_
      exact Ev.eq (Ev.now _) (by rw [venc_lt h, show (n : Int) % 256 = n by omega])
    · refine Ev.pos (by omega) ?_
      refine Ev.pos (by omega) ?_
      have e : bits .or .u8 ((n : Int) % 256) 128 = ((128 + n % 128 : Nat) : Int) := by
        rw [or_128 _ (by omega) (by omega)]; omega
      have e2 : (n : Int) / 128 = ((n / 128 : Nat) : Int) := by omega
      rw [e, e2]
      have := ih (n / 128) (acc ++ [((128 + n % 128 : Nat) : Int)]) hn2 (by simp; omega)
      rw [venc_ge h]
      simpa using this
theorem be_ev (n : Nat) (h : n < 18446744073709551616) : Ev (fun k => varint_Encode.f k (n : Int)) (venc n) := by
  have hp : (128 : Nat) ^ (9 + 1) = 1180591620717411303424 := by decide
  have := be_l0 9 n [] (by omega) (by decide)
  unfold varint_Encode.f
  simpa using this
theorem be_at (n : Nat) (h : n < 18446744073709551616) : ∃ k, varint_Encode.f k (n : Int) = some (venc n) := by
  obtain ⟨k, hk⟩ := be_ev n h
  exact ⟨k, hk k (Nat.le_refl _)⟩
theorem be_info : (Tryd.prog.info? 5).map (fun i => (i.zero, i.size, i.bytes)) = some (some (.int .u8 0), 1, 1) := by kernel_rfl
theorem be_own {e base : Nat} {ok : Nat → Prop} {v : Value} {xs : List Int} {W : World} (h : Kd.R (Kd.int .u8) e W base ok v xs) : W.ownsRow base e 1 v xs.length (xs.map (Value.int .u8)) := Kd.own_of_R (enc := Value.int .u8) (h1 := fun _ => rfl) h
set_option maxHeartbeats 2000000 in
set_option maxRecDepth 100000 in
theorem be_flush (b n0 : Nat) (s : ES) (fv : Value) (W : World) (hE : EB b n0 s fv W) (hn : n0 ≤ b) (hr0 : 0 ≤ s.run) (hr1 : s.run < 4611686018427387904) (hP : s.P.length ≤ 1000000000) :
    Calls Tryd.prog 75 #[.pointer (some ⟨b, 0, none⟩), .pointer (some ⟨b + 1 + 1, 0, none⟩), .pointer (some ⟨b + 1, 0, none⟩)] W fun e W' => e = .returned (.tuple #[]) ∧ EB b n0 (eflush s) fv W' ∧ Below n0 W W' ∧ KeepsOthers W W' := by
  have hE0 := Aside0.mk hE
  obtain ⟨v, h0, hrow, h1, h2, h3, h4⟩ := hE
  obtain ⟨i0, hi, hz0, hz1, hz2⟩ := info_parts be_info
  obtain ⟨rn, hrn⟩ : ∃ rn : Nat, s.run = (rn : Int) := ⟨s.run.toNat, by omega⟩
  obtain ⟨ke, hke⟩ := be_at rn (by omega)
  have hvl := venc_len10 rn (by omega)
  have hvp := venc_pos rn
  obtain ⟨y, hy⟩ : ∃ y, y = venc rn := ⟨_, rfl⟩
  have hwr : IntKind.u64.wrap (rn : Int) = (rn : Int) := wraps_u64 _ (by omega) (by omega)
  have hfl : eflush s = ⟨s.P ++ y, !s.on, 0, s.pos⟩ := by unfold eflush; rw [hrn, Int.toNat_natCast, hy]
  rw [← hy] at hke hvl hvp
  have c0 := h0.cell
  have f0 := h0.frozen
  have c1 := h1.cell
  have f1 := h1.frozen
  have c2 := h2.cell
  have f2 := h2.frozen
  rw [hrn] at c2
  have H0 := Aside0.mk h0
  have H1 := Aside0.mk h1
  have H2 := Aside0.mk h2
  have H3 := Aside0.mk h3
  have H4 := Aside0.mk h4
  have HR := Aside0.mk hrow
  have HK := Aside0.mk hke
  have HL := Aside0.mk (And.intro hvl hvp)
  have HF := Aside0.mk hfl
  have HP := Aside0.mk hP
  clear h0 h1 h2 h3 h4 hrow hke hvl hvp hfl hy hr0 hr1 hP
  go_enter Tryd.func75, Tryd.ntmps75
  go_wp2
  have d0 := H0.out.cell
  go_region_law
    (first
      | (go_simp; go_at_call 74; refine (varint_Encode.calls ke (rn : Int) y _ HK.out).mono ?_; rintro e w1 ⟨v1, rfl, ho, hb⟩; have hb1 : Below W.heap.size W w1 := ((Below.refl W.heap.size W).drew).trans hb; have HB1 := Aside0.mk hb1; have e0 := (boxed_below H0.out hb1).cell; have f0 := (boxed_below H0.out hb1).frozen; have e2 := (boxed_below H2.out hb1).cell; rw [hrn] at e2; obtain ⟨g1, cp1, rfl, hg1, hg2, hcs⟩ := own_cells (be_own ho) (by have := HL.out; omega); have HC := Aside0.mk hcs; have HN := Aside0.mk (show (y.map (Value.int .u8)).length = y.length * 1 by simp); have HO := Aside0.mk (own_below2 HR.out hb1); clear ho hb hb1 hcs)
      | (refine step_append_lies _ rfl _ _ _ (by rfl) n0 5 i0 (.int .u8 0) 1 1 Tryd.underlying39 hi hz0 hz1 hz2 rfl (by decide) v s.P.length _ (by rfl) HO.out ⟨g1, 0, none⟩ y.length cp1 _ (by rfl) HN.out HC.out (by simp [Value.oneCell']) (by have := HL.out; omega) (by have := HL.out; have := HP.out; simp only [maxLen]; omega) (by have := HL.out; have := HP.out; omega) (by have := HB1.out.size; have := H4.out.lt; omega) _ rfl ?_; intro g cap w2 hown hgrow hat hlt; have HW := EB.grew (y := y) H0.out HR.out H1.out H2.out H3.out H4.out hn HB1.out hgrow hown; have HW := Aside0.mk HW; have B0 := boxed_below H0.out HB1.out; have q0 := B0.kept hgrow (B0.not_row (by decide) HO.out); have e3 := q0.cell; have f3 := q0.frozen; clear hown hgrow hat hlt B0 q0))
  all_goals (
    obtain ⟨hE3, hB3, hK3⟩ := HW.out
    obtain ⟨W3, hW3⟩ : ∃ W3, W3 = w2.setCell ⟨b, 0, none⟩ (Value.slice (some ⟨g, 0, none⟩) (s.P.length + y.length) cap) := ⟨_, rfl⟩
    rw [← hW3] at hE3 hB3 hK3 ⊢
    have g1 := hE3.cells.1
    have g2 := hE3.onCells
    have g3 := hE3.cells.2.1
    have g4 := hE3.cells.2.2.1
    clear hW3
    go_wp2
    go_end0
    refine ⟨rfl, ?_, (hB3.setCell (p := ⟨b + 1, 0, none⟩) (by simp; omega) _).setCell (p := ⟨b + 1 + 1, 0, none⟩) (by simp; omega) _, (hK3.trans (KeepsOthers.setCell _ _ _)).trans (KeepsOthers.setCell _ _ _)⟩
    rw [HF.out]
    exact (hE3.setOn _).setRun _)
theorem be_chain (w w1 : World) (N0 : Int) (A : Option Addr) (len cap : Nat) (v fv : Value) (hb : Below (w.alloc (.cells #[.int .i64 N0, .slice A len cap] 25)).heap.size (w.alloc (.cells #[.int .i64 N0, .slice A len cap] 25)) w1) :
    (((((w1.alloc (.cells #[v] 39)).alloc (.cells #[.bool false] 4)).alloc (.cells #[.int .i64 0] 3)).alloc (.cells #[fv] 1)).alloc (.cells #[.int .i64 0] 3)).cell? ⟨w.heap.size, 0, none⟩ = some (.int .i64 N0) ∧
    (((((w1.alloc (.cells #[v] 39)).alloc (.cells #[.bool false] 4)).alloc (.cells #[.int .i64 0] 3)).alloc (.cells #[fv] 1)).alloc (.cells #[.int .i64 0] 3)).cell? ⟨w.heap.size, 1, none⟩ = some (.slice A len cap) := by
  have q0 : (w.alloc (.cells #[.int .i64 N0, .slice A len cap] 25)).cell? ⟨w.heap.size, 0, none⟩ = some (.int .i64 N0) := (blk_cell (blk_new w (.cells #[.int .i64 N0, .slice A len cap] 25)) 0).trans rfl
  have q1 := r_new2 w (.int .i64 N0) (.slice A len cap) 25
  have h0 := (hb.cell (p := ⟨w.heap.size, 0, none⟩) (by simp)).trans q0
  have h1 := (hb.cell (p := ⟨w.heap.size, 1, none⟩) (by simp)).trans q1
  exact ⟨r_alloc _ (r_alloc _ (r_alloc _ (r_alloc _ (r_alloc _ h0)))), r_alloc _ (r_alloc _ (r_alloc _ (r_alloc _ (r_alloc _ h1))))⟩
def bitset_Encode.f (a0_0 : Int) (l0_1 : List Int) : Option (List Int) := if wokB l0_1 = true ∧ l0_1.length ≤ 20000 ∧ 0 ≤ a0_0 ∧ a0_0 ≤ 2000000 then some (bencI a0_0 (elsI l0_1 (64 * l0_1.length))) else none
set_option maxHeartbeats 2000000 in
set_option maxRecDepth 100000 in
theorem bitset_Encode.calls (a0_0 : Int) (A0_1 : Option Addr) (c0_1 : Nat) (l0_1 : List Int) (r : List Int) (w : World) (hr0_1 : Kd.C (Kd.int .u64) w A0_1 l0_1.length l0_1) (hc0_1 : l0_1.length ≤ c0_1) (hT : TabAt w) (h : bitset_Encode.f a0_0 l0_1 = some r) :
    Calls Tryd.prog 34 #[.agg #[.int .i64 a0_0, .slice A0_1 l0_1.length c0_1]] w fun e w' => ∃ v0_ : Value, e = .returned (v0_) ∧ Kd.R (Kd.int .u8) 5 w' w.heap.size (fun _ => True) v0_ r ∧ Below w.heap.size w w' := by
  unfold bitset_Encode.f at h
  by_cases hsz : wokB l0_1 = true ∧ l0_1.length ≤ 20000 ∧ 0 ≤ a0_0 ∧ a0_0 ≤ 2000000
  case neg => rw [if_neg hsz] at h; cases h
  rw [if_pos hsz] at h
  obtain ⟨s1, s2, s3, s4⟩ := hsz
  have hrr := Option.some.inj h
  clear h
  obtain ⟨xs, hxs⟩ : ∃ xs, xs = elsI l0_1 (64 * l0_1.length) := ⟨_, rfl⟩
  have hpw := elsI_pw l0_1 (64 * l0_1.length)
  have hrg := elsI_rng l0_1 (64 * l0_1.length)
  have hxl : xs.length ≤ 64 * l0_1.length := by rw [hxs]; unfold elsI; rw [List.length_map]; exact els_len_le _ 0
  rw [← hxs] at hpw hrg hrr
  have HX := Aside0.mk (And.intro hpw hrg)
  have HRR := Aside0.mk hrr
  clear hpw hrg hrr
  have hwok := wokB_wok s1
  have hwds := words_at hr0_1
  have hpos := TabAt.pos hT
  have hro : Fence.wide.round = none := rfl
  obtain ⟨nn0, rfl⟩ := Int.eq_ofNat_of_zero_le s3
  obtain ⟨ke, hke⟩ := be_at nn0 (by omega)
  have hvp := venc_pos nn0
  obtain ⟨y, hy⟩ : ∃ y, y = venc nn0 := ⟨_, rfl⟩
  rw [← hy] at hke hvp
  have HK := Aside0.mk hke
  have HV := Aside0.mk hvp
  have HY := Aside0.mk hy
  have HXS := Aside0.mk hxs
  clear hke hvp hy hxs
  have hwr : IntKind.u64.wrap (nn0 : Int) = (nn0 : Int) := wraps_u64 _ (by omega) (by omega)
  refine (callsIn_wide (n := 8)).1 ?_
  refine callsIn_of_wp_marks Tryd.func34 rfl trivial ?_ hro
  simp only [Tryd.ntmps34, List.size_toArray, List.length_cons, List.length_nil, Nat.reduceAdd, Nat.reduceSub, Array.replicate_succ, Array.replicate_zero, List.push_toArray, List.append_toArray, List.nil_append, List.cons_append]
  gi_wp2_with (first
    | (refine ⟨trivial, ?_⟩; gi_at_call 74; refine (callsIn_wide.2 (varint_Encode.calls ke (nn0 : Int) y _ HK.out)).mono ?_; rintro e w1 ⟨v1, rfl, ho, hb⟩; obtain ⟨g1, cp1, rfl, hg1, hg2, hcs⟩ := own_cells (be_own ho) (by have := HV.out; omega); have HO := Aside0.mk (be_own ho); have HB := Aside0.mk hb; have z0 := be_chain w w1 (nn0 : Int) A0_1 l0_1.length c0_1 (.slice (some ⟨g1, 0, none⟩) y.length cp1) (.func (.func 75) #[] #[.pointer (some ⟨w1.heap.size, 0, none⟩), .pointer (some ⟨w1.heap.size + 1 + 1, 0, none⟩), .pointer (some ⟨w1.heap.size + 1, 0, none⟩)]) HB.out; have z1 := z0.1; have z2 := z0.2; clear z0 ho hb hcs)
    | (refine ⟨trivial, ?_⟩; gi_at_call 59; refine (all_in Fence.wide 7 trivial hro (nn0 : Int) A0_1 l0_1.length c0_1 _).mono ?_; rintro e w' ⟨rfl, rfl⟩))
  obtain ⟨b, hb⟩ : ∃ b, b = w1.heap.size := ⟨_, rfl⟩
  have hsz1 : w.heap.size + 1 ≤ b := by have := HB.out.size; simp at this; omega
  obtain ⟨fv, hfv⟩ : ∃ fv, fv = Value.func (.func 75) #[] #[.pointer (some ⟨b, 0, none⟩), .pointer (some ⟨b + 1 + 1, 0, none⟩), .pointer (some ⟨b + 1, 0, none⟩)] := ⟨_, rfl⟩
  rw [← hb] at z1 z2 ⊢
  rw [← hfv] at z1 z2 ⊢
  obtain ⟨ag, hag⟩ : ∃ ag, ag = Value.slice (some ⟨g1, 0, none⟩) y.length cp1 := ⟨_, rfl⟩
  have b0 := Boxed.new w1 39 ag
  have b1 := Boxed.new (w1.alloc (.cells #[ag] 39)) 4 (.bool false)
  have b2 := Boxed.new ((w1.alloc (.cells #[ag] 39)).alloc (.cells #[.bool false] 4)) 3 (.int .i64 0)
  have b3 := Boxed.new (((w1.alloc (.cells #[ag] 39)).alloc (.cells #[.bool false] 4)).alloc (.cells #[.int .i64 0] 3)) 1 fv
  have b4 := Boxed.new ((((w1.alloc (.cells #[ag] 39)).alloc (.cells #[.bool false] 4)).alloc (.cells #[.int .i64 0] 3)).alloc (.cells #[fv] 1)) 3 (.int .i64 0)
  have b5 := r_new2 (((((w1.alloc (.cells #[ag] 39)).alloc (.cells #[.bool false] 4)).alloc (.cells #[.int .i64 0] 3)).alloc (.cells #[fv] 1)).alloc (.cells #[.int .i64 0] 3)) (.int .i64 (nn0 : Int)) (.slice A0_1 l0_1.length c0_1) 25
  have z3 := r_alloc (.cells #[.int .i64 (nn0 : Int), .slice A0_1 l0_1.length c0_1] 25) z1
  simp only [World.size_alloc, ← hb] at b0 b1 b2 b3 b4 b5
  have HO2 := HO.out
  rw [World.size_alloc, ← hag] at HO2
  have hE0 : EB b (w.heap.size + 1) (efold (nn0 : Int) []) fv ((((((w1.alloc (.cells #[ag] 39)).alloc (.cells #[.bool false] 4)).alloc (.cells #[.int .i64 0] 3)).alloc (.cells #[fv] 1)).alloc (.cells #[.int .i64 0] 3)).alloc (.cells #[.int .i64 (nn0 : Int), .slice A0_1 l0_1.length c0_1] 25)) := by
    refine EB.alloc ⟨ag, (((b0.alloc _).alloc _).alloc _).alloc _, ?_, ((b1.alloc _).alloc _).alloc _, (b2.alloc _).alloc _, b3.alloc _, b4⟩ _
    have e0 : (efold (nn0 : Int) []).P = y := by rw [HY.out]; simp [efold]
    rw [e0]
    exact ((((HO2.alloc _).alloc _).alloc _).alloc _).alloc _
  have hBw : Below w.heap.size w ((((((w1.alloc (.cells #[ag] 39)).alloc (.cells #[.bool false] 4)).alloc (.cells #[.int .i64 0] 3)).alloc (.cells #[fv] 1)).alloc (.cells #[.int .i64 0] 3)).alloc (.cells #[.int .i64 (nn0 : Int), .slice A0_1 l0_1.length c0_1] 25)) := by
    have q1 : Below w.heap.size w w1 := ((Below.refl w.heap.size w).alloc (Nat.le_refl _) _).trans (HB.out.mono (by simp))
    exact (((((q1.alloc (by omega) _).alloc (by simp; omega) _).alloc (by simp; omega) _).alloc (by simp; omega) _).alloc (by simp; omega) _).alloc (by simp; omega) _
  have hsz0 : ((((((w1.alloc (.cells #[ag] 39)).alloc (.cells #[.bool false] 4)).alloc (.cells #[.int .i64 0] 3)).alloc (.cells #[fv] 1)).alloc (.cells #[.int .i64 0] 3)).alloc (.cells #[.int .i64 (nn0 : Int), .slice A0_1 l0_1.length c0_1] 25)).heap.size = b + 6 := by simp [hb]
  rw [← hag] at z3 ⊢
  obtain ⟨W0, hW0⟩ : ∃ W0, W0 = ((((((w1.alloc (.cells #[ag] 39)).alloc (.cells #[.bool false] 4)).alloc (.cells #[.int .i64 0] 3)).alloc (.cells #[fv] 1)).alloc (.cells #[.int .i64 0] 3)).alloc (.cells #[.int .i64 (nn0 : Int), .slice A0_1 l0_1.length c0_1] 25)) := ⟨_, rfl⟩
  rw [← hW0] at b5 hE0 hBw hsz0 z3 ⊢
  clear hW0 b0 b1 b2 b3 b4 z1 z2 HO2 hb hag
  subst hfv
  refine wpIn_rangeFunc_ownG hro (by decide) (gf := 81) (lb := #[.pointer (some ⟨b + 1 + 1 + 1 + 1 + 1, 0, none⟩)]) rfl trivial (enters_of Tryd.func81 (by kernel_rfl) rfl)
    (all_stopsR Fence.wide 7 trivial trivial hro (by decide) (b + 1 + 1 + 1 + 1 + 1) (w.heap.size + 1) l0_1.length c0_1 A0_1 l0_1 hwok rfl (by omega) (by omega) W0 (by omega) (by omega) b5 (fun j hj => by
      obtain ⟨ad, e1, e2, e3⟩ := hwds j hj
      exact ⟨ad, e1, by omega, (hBw.cell (p := ad.add j) ((addr_block ad j).symm ▸ e2)).trans e3⟩) (hT.below hBw hpos)) belowK_t (belowK_b (by omega)) (Below.refl _ _) (fun _ => rfl)
    (fun pre W => EB b (w.heap.size + 1) (efold (nn0 : Int) (pre.map (·.1))) (Value.func (.func 75) #[] #[.pointer (some ⟨b, 0, none⟩), .pointer (some ⟨b + 1 + 1, 0, none⟩), .pointer (some ⟨b + 1, 0, none⟩)]) W ∧ Below (w.heap.size + 1) W0 W)
    (fun _ _ _ => False)
    (OwnFrom.and (Own.from (EB.own b (w.heap.size + 1) (fun pre : List (SubR (64 * l0_1.length)) => efold (nn0 : Int) (pre.map (·.1))) (Value.func (.func 75) #[] #[.pointer (some ⟨b, 0, none⟩), .pointer (some ⟨b + 1 + 1, 0, none⟩), .pointer (some ⟨b + 1, 0, none⟩)])) _) (ownFrom_below (by omega) (by omega)))
    (fun _ _ _ _ _ hs _ _ => hs)
    ⟨hE0, Below.refl _ _⟩
    (fun x => { tmps := #[.agg #[.int .i64 (nn0 : Int), .slice A0_1 l0_1.length c0_1], .pointer (some ⟨w.heap.size, 0, none⟩), .slice none 0 0, .pointer (some ⟨b, 0, none⟩), .pointer (some ⟨b + 1, 0, none⟩), .pointer (some ⟨b + 1 + 1, 0, none⟩), .pointer (some ⟨b + 1 + 1 + 1, 0, none⟩), .pointer (some ⟨b + 1 + 1 + 1 + 1, 0, none⟩), .int .i64 x.1, .pointer (some ⟨w.heap.size, 0, none⟩), .int .i64 (nn0 : Int), .int .u64 (nn0 : Int), ag, (Value.func (.func 75) #[] #[.pointer (some ⟨b, 0, none⟩), .pointer (some ⟨b + 1 + 1, 0, none⟩), .pointer (some ⟨b + 1, 0, none⟩)]), .agg #[.int .i64 (nn0 : Int), .slice A0_1 l0_1.length c0_1], .func (.func 81) #[] #[.pointer (some ⟨b + 1 + 1 + 1 + 1 + 1, 0, none⟩)], .int .i64 x.1, undef, undef, undef, undef, undef, undef, undef, undef, undef, undef, undef, undef, undef, undef, undef, undef, undef, undef, undef, undef, undef, undef, undef, undef, undef, undef, undef, undef, undef, undef, undef, undef, undef, undef, undef, undef, undef, undef], defers := [] }) ?assign ?body ?done ?stop
  case assign =>
    intro l x W K hK
    gi_wp2
    exact hK
  case body =>
    rintro l pre ⟨x, hx⟩ W ⟨hE, hB⟩ hlt
    have hpl : pre.length ≤ 1300000 := by
      have h1 := elsI_len2 l0_1 (64 * l0_1.length)
      omega
    obtain ⟨hi1, hi2, hi3, hi4, hi5⟩ := efold_inv (nn0 : Int) (64 * l0_1.length) (by omega) (by omega) (by omega) (pre.map (·.1)) (fun z hz => by
      obtain ⟨u, _, rfl⟩ := List.mem_map.1 hz
      exact u.2) (by rw [List.length_map]; omega)
    rw [List.length_map] at hi4 hi5
    have hst : efold (nn0 : Int) ((pre ++ [(⟨x, hx⟩ : SubR (64 * l0_1.length))]).map (·.1)) = estep (efold (nn0 : Int) (pre.map (·.1))) x := by
      rw [List.map_append, List.map_cons, List.map_nil, efold_snoc]
    obtain ⟨s, hs⟩ : ∃ s, s = efold (nn0 : Int) (pre.map (·.1)) := ⟨_, rfl⟩
    rw [← hs] at hE hi1 hi2 hi3 hi4 hi5 hst
    obtain ⟨hx0, hx1⟩ := hx
    have ew3 : IntKind.i64.wrap (x + 1) = x + 1 := IntWalk.i64_in _ (by omega)
    obtain ⟨c1, c2, c3, c4, c5, c6, _⟩ := hE.cells
    have HE := Aside0.mk hE
    have HBB := Aside0.mk hB
    have HST := Aside0.mk hst
    have HI := Aside0.mk (And.intro hi3 (And.intro hi4 hi5))
    have HPL := Aside0.mk hpl
    have HI2 := Aside0.mk (show 0 ≤ s.pos ∧ s.pos ≤ 2000000 ∧ x ≤ 2000000 by omega)
    have hn0 : w.heap.size + 1 ≤ b := hsz1
    have HSZ := Aside0.mk hn0
    clear hE hB hst hs hn0 hpos hT hwds hwok b5 z3 hsz0 hBw hE0 s1 s2 s3 s4 hxl hwr hr0_1 hc0_1 hlt hpl hi5 hi4 hi3 hi2 hi1 hsz1
    by_cases d1 : s.pos < x
    · have e1 : decide (s.pos < x) = true := decide_eq_true d1
      obtain ⟨d, hd⟩ : ∃ d, d = x - s.pos := ⟨_, rfl⟩
      have hd0 : 0 ≤ d ∧ d ≤ 2000000 := by have := HI2.out; omega
      have ewd : IntKind.i64.wrap (x - s.pos) = d := by rw [IntWalk.i64_in _ (by omega), hd]
      have HD := Aside0.mk hd
      have HD0 := Aside0.mk hd0
      by_cases d2 : s.on = true
      · rw [d2] at c1
        have e1s : estep s x = ⟨s.P ++ venc s.run.toNat ++ venc d.toNat, true, 1, x + 1⟩ := by
          unfold estep
          rw [eadv_inv s x d1, if_pos d2]
          simp [eset, eflush, hd]
        have HES := Aside0.mk e1s
        have ewr : IntKind.i64.wrap d = d := IntWalk.i64_in _ (by omega)
        clear hd hd0 e1s
        gi_wp2_with (first
          | (refine ⟨trivial, ?_⟩; gi_at_call 75; with_reducible refine (CallsIn.inRound l (callsIn_wide.2 (be_flush b (w.heap.size + 1) s (Value.func (.func 75) #[] #[.pointer (some ⟨b, 0, none⟩), .pointer (some ⟨b + 1 + 1, 0, none⟩), .pointer (some ⟨b + 1, 0, none⟩)]) _ HE.out HSZ.out HI.out.1 (by have := HI.out; have := HPL.out; omega) (by have := HI.out; have := HPL.out; omega)))).mono ?_; rintro e w1_ ⟨rfl, hf1, hf2, hf3⟩; have HF1 := Aside0.mk (And.intro hf1 (And.intro hf2 hf3)); have h1_ := EB.setRun hf1 d; simp only [eflush, d2, Bool.not_true] at h1_; obtain ⟨k11, k12, k13, k14, k15, k16, _⟩ := EB.cells (hf1); obtain ⟨k21, k22, k23, k24, k25, k26, _⟩ := EB.cells (h1_); simp only [eflush, d2, Bool.not_true] at k11 k12 k15; have HG1 := Aside0.mk h1_; clear h1_; clear hf1 hf2 hf3)
          | (refine ⟨trivial, ?_⟩; gi_at_call 75; with_reducible refine (CallsIn.inRound l (callsIn_wide.2 (be_flush b (w.heap.size + 1) ⟨s.P ++ venc s.run.toNat, false, d, s.pos⟩ (Value.func (.func 75) #[] #[.pointer (some ⟨b, 0, none⟩), .pointer (some ⟨b + 1 + 1, 0, none⟩), .pointer (some ⟨b + 1, 0, none⟩)]) _ HG1.out HSZ.out HD0.out.1 (show d < 4611686018427387904 by have := HD0.out; omega) (show (s.P ++ venc s.run.toNat).length ≤ 1000000000 by have := HI.out; have := HPL.out; have := venc_len10 s.run.toNat (by omega); simp only [List.length_append]; omega)))).mono ?_; rintro e w2_ ⟨rfl, hf1, hf2, hf3⟩; have HF2 := Aside0.mk (And.intro hf1 (And.intro hf2 hf3)); have h2_ := EB.setRun hf1 1; simp only [eflush, Bool.not_false] at h2_; have h3_ := EB.setPos h2_ (x + 1); obtain ⟨k31, k32, k33, k34, k35, k36, _⟩ := EB.cells (hf1); obtain ⟨k41, k42, k43, k44, k45, k46, _⟩ := EB.cells (h2_); simp only [eflush, Bool.not_false] at k31 k32 k35; have HG2 := Aside0.mk h3_; clear h2_ h3_; clear hf1 hf2 hf3))
        exact ⟨(((((HF1.out.2.2.trans (KeepsOthers.setCell _ _ _)).trans HF2.out.2.2).trans (KeepsOthers.setCell _ _ _)).trans (KeepsOthers.setCell _ _ _))).from _, ((((HF1.out.2.1).setCell (p := ⟨b + 1 + 1, 0, none⟩) (by have := HSZ.out; simp; omega) _).trans HF2.out.2.1).setCell (p := ⟨b + 1 + 1, 0, none⟩) (by have := HSZ.out; simp; omega) _).setCell (p := ⟨b + 1 + 1 + 1 + 1, 0, none⟩) (by have := HSZ.out; simp; omega) _, Eq.mpr (congrArg (fun s_ => EB b (w.heap.size + 1) s_ _ _) (HST.out.trans HES.out)) HG2.out, HBB.out.trans (((((HF1.out.2.1).setCell (p := ⟨b + 1 + 1, 0, none⟩) (by have := HSZ.out; simp; omega) _).trans HF2.out.2.1).setCell (p := ⟨b + 1 + 1, 0, none⟩) (by have := HSZ.out; simp; omega) _).setCell (p := ⟨b + 1 + 1 + 1 + 1, 0, none⟩) (by have := HSZ.out; simp; omega) _)⟩
      · have d3 : s.on = false := by simpa using d2
        rw [d3] at c1
        obtain ⟨rr, hrr⟩ : ∃ rr, rr = s.run + d := ⟨_, rfl⟩
        have HRD := Aside0.mk hrr
        have ewr : IntKind.i64.wrap (s.run + d) = rr := by rw [hrr]; exact IntWalk.i64_in _ (by have := HI.out; have := HPL.out; omega)
        have e1s : estep s x = ⟨s.P ++ venc rr.toNat, true, 1, x + 1⟩ := by
          unfold estep
          rw [eadv_inv s x d1, if_neg d2, ← hd, ← hrr]
          simp [eset, eflush]
        have HES := Aside0.mk e1s
        have h1_ := EB.setRun HE.out rr
        rw [d3] at h1_
        obtain ⟨k11, k12, k13, k14, k15, k16, _⟩ := EB.cells (h1_)
        simp only at k11 k12 k15
        have HG1 := Aside0.mk h1_
        clear hd hd0 e1s hrr h1_
        gi_wp2_with (first
          | (refine ⟨trivial, ?_⟩; gi_at_call 75; with_reducible refine (CallsIn.inRound l (callsIn_wide.2 (be_flush b (w.heap.size + 1) ⟨s.P, false, rr, s.pos⟩ (Value.func (.func 75) #[] #[.pointer (some ⟨b, 0, none⟩), .pointer (some ⟨b + 1 + 1, 0, none⟩), .pointer (some ⟨b + 1, 0, none⟩)]) _ HG1.out HSZ.out (show 0 ≤ rr by have := HI.out; have := HD0.out; have := HRD.out; omega) (show rr < 4611686018427387904 by have := HI.out; have := HPL.out; have := HD0.out; have := HRD.out; omega) (show s.P.length ≤ 1000000000 by have := HI.out; have := HPL.out; omega)))).mono ?_; rintro e w2_ ⟨rfl, hf1, hf2, hf3⟩; have HF2 := Aside0.mk (And.intro hf1 (And.intro hf2 hf3)); have h2_ := EB.setRun hf1 1; simp only [eflush, Bool.not_false] at h2_; have h3_ := EB.setPos h2_ (x + 1); obtain ⟨k31, k32, k33, k34, k35, k36, _⟩ := EB.cells (hf1); obtain ⟨k41, k42, k43, k44, k45, k46, _⟩ := EB.cells (h2_); simp only [eflush, Bool.not_false] at k31 k32 k35; have HG2 := Aside0.mk h3_; clear h2_ h3_; clear hf1 hf2 hf3))
        exact ⟨(((((KeepsOthers.setCell _ _ _).trans HF2.out.2.2).trans (KeepsOthers.setCell _ _ _)).trans (KeepsOthers.setCell _ _ _))).from _, ((((Below.refl (w.heap.size + 1) W).setCell (p := ⟨b + 1 + 1, 0, none⟩) (by have := HSZ.out; simp; omega) _).trans HF2.out.2.1).setCell (p := ⟨b + 1 + 1, 0, none⟩) (by have := HSZ.out; simp; omega) _).setCell (p := ⟨b + 1 + 1 + 1 + 1, 0, none⟩) (by have := HSZ.out; simp; omega) _, Eq.mpr (congrArg (fun s_ => EB b (w.heap.size + 1) s_ _ _) (HST.out.trans HES.out)) HG2.out, HBB.out.trans (((((Below.refl (w.heap.size + 1) W).setCell (p := ⟨b + 1 + 1, 0, none⟩) (by have := HSZ.out; simp; omega) _).trans HF2.out.2.1).setCell (p := ⟨b + 1 + 1, 0, none⟩) (by have := HSZ.out; simp; omega) _).setCell (p := ⟨b + 1 + 1 + 1 + 1, 0, none⟩) (by have := HSZ.out; simp; omega) _)⟩
    · have e1 : decide (s.pos < x) = false := decide_eq_false d1
      by_cases d2 : s.on = true
      · rw [d2] at c1
        have ew1 : IntKind.i64.wrap (s.run + 1) = s.run + 1 := IntWalk.i64_in _ (by have := HI.out; have := HPL.out; omega)
        have e1s : estep s x = ⟨s.P, s.on, s.run + 1, x + 1⟩ := by
          unfold estep
          rw [eadv_same s x d1, eset, if_pos d2]
        gi_wp2
        exact ⟨((KeepsOthers.setCell _ _ _).trans (KeepsOthers.setCell _ _ _)).from _, ((Below.refl (w.heap.size + 1) W).setCell (p := ⟨b + 1 + 1, 0, none⟩) (by have := HSZ.out; simp; omega) _).setCell (p := ⟨b + 1 + 1 + 1 + 1, 0, none⟩) (by have := HSZ.out; simp; omega) _, Eq.mpr (congrArg (fun s_ => EB b (w.heap.size + 1) s_ _ _) (HST.out.trans e1s)) ((HE.out.setRun _).setPos _), (HBB.out.setCell (p := ⟨b + 1 + 1, 0, none⟩) (by have := HSZ.out; simp; omega) _).setCell (p := ⟨b + 1 + 1 + 1 + 1, 0, none⟩) (by have := HSZ.out; simp; omega) _⟩
      · have d3 : s.on = false := by simpa using d2
        rw [d3] at c1
        have e1s : estep s x = ⟨s.P ++ venc s.run.toNat, true, 1, x + 1⟩ := by
          unfold estep
          rw [eadv_same s x d1]
          simp [eset, eflush, d3]
        have HES := Aside0.mk e1s
        clear e1s
        gi_wp2_with (first
          | (refine ⟨trivial, ?_⟩; gi_at_call 75; with_reducible refine (CallsIn.inRound l (callsIn_wide.2 (be_flush b (w.heap.size + 1) s (Value.func (.func 75) #[] #[.pointer (some ⟨b, 0, none⟩), .pointer (some ⟨b + 1 + 1, 0, none⟩), .pointer (some ⟨b + 1, 0, none⟩)]) _ HE.out HSZ.out HI.out.1 (by have := HI.out; have := HPL.out; omega) (show s.P.length ≤ 1000000000 by have := HI.out; have := HPL.out; omega)))).mono ?_; rintro e w2_ ⟨rfl, hf1, hf2, hf3⟩; have HF2 := Aside0.mk (And.intro hf1 (And.intro hf2 hf3)); have h2_ := EB.setRun hf1 1; simp only [eflush, d3, Bool.not_false] at h2_; have h3_ := EB.setPos h2_ (x + 1); obtain ⟨k31, k32, k33, k34, k35, k36, _⟩ := EB.cells (hf1); obtain ⟨k41, k42, k43, k44, k45, k46, _⟩ := EB.cells (h2_); simp only [eflush, d3, Bool.not_false] at k31 k32 k35; have HG2 := Aside0.mk h3_; clear h2_ h3_; clear hf1 hf2 hf3))
        exact ⟨(((HF2.out.2.2.trans (KeepsOthers.setCell _ _ _)).trans (KeepsOthers.setCell _ _ _))).from _, ((HF2.out.2.1).setCell (p := ⟨b + 1 + 1, 0, none⟩) (by have := HSZ.out; simp; omega) _).setCell (p := ⟨b + 1 + 1 + 1 + 1, 0, none⟩) (by have := HSZ.out; simp; omega) _, Eq.mpr (congrArg (fun s_ => EB b (w.heap.size + 1) s_ _ _) (HST.out.trans HES.out)) HG2.out, HBB.out.trans (((HF2.out.2.1).setCell (p := ⟨b + 1 + 1, 0, none⟩) (by have := HSZ.out; simp; omega) _).setCell (p := ⟨b + 1 + 1 + 1 + 1, 0, none⟩) (by have := HSZ.out; simp; omega) _)⟩
  case done =>
    rintro D ys W hD hys ⟨hE, hB⟩ hK
    have hys2 : ys.map (·.1) = xs := hys.trans HXS.out.symm
    obtain ⟨hi1, hi2, hi3, hi4, hi5⟩ := efold_inv (nn0 : Int) (64 * l0_1.length) (by omega) (by omega) (by omega) xs HX.out.2 (by omega)
    rw [hys2] at hE
    obtain ⟨s, hs⟩ : ∃ s, s = efold (nn0 : Int) xs := ⟨_, rfl⟩
    rw [← hs] at hE hi1 hi2 hi3 hi4 hi5
    have HSS := Aside0.mk hs
    obtain ⟨c1, c2, c3, c4, c5, c6, _⟩ := hE.cells
    have cN := (hB.cell (p := ⟨w.heap.size, 0, none⟩) (by simp)).trans z3
    have HE := Aside0.mk hE
    have HI := Aside0.mk (And.intro hi3 (And.intro hi4 hi5))
    have HI2 := Aside0.mk (show 0 ≤ s.pos ∧ s.pos ≤ 2000000 ∧ xs.length ≤ 1300000 ∧ nn0 ≤ 2000000 by omega)
    have HSZ := Aside0.mk hsz1
    have HD := Aside0.mk (show w.heap.size + 1 ≤ D by omega)
    have HBT := Aside0.mk (hBw.trans (hB.mono (Nat.le_succ _)))
    have HXL := Aside0.mk hxl
    clear hE hB hs hpos hT hwds hwok b5 z3 hsz0 hBw hE0 s1 s2 s3 s4 hxl hwr hr0_1 hc0_1 hi5 hi4 hi3 hi2 hi1 hsz1 hys hys2 hD
    by_cases d1 : s.pos < (nn0 : Int)
    · have D1 := Aside0.mk d1
      have e1 : decide (s.pos < (nn0 : Int)) = true := decide_eq_true d1
      have hN : (0 : Int) < (nn0 : Int) := by have := HI2.out; omega
      have hNd : decide ((0 : Int) < (nn0 : Int)) = true := decide_eq_true hN
      have hNp : 0 < nn0 := by omega
      have HNN := Aside0.mk hNp
      obtain ⟨d, hd⟩ : ∃ d, d = (nn0 : Int) - s.pos := ⟨_, rfl⟩
      have hd0 : 0 ≤ d ∧ d ≤ 2000000 := by have := HI2.out; omega
      have ewd : IntKind.i64.wrap ((nn0 : Int) - s.pos) = d := by rw [IntWalk.i64_in _ (by omega), hd]
      have HDD := Aside0.mk hd
      have HD0 := Aside0.mk hd0
      by_cases d2 : s.on = true
      · have D2 := Aside0.mk d2
        rw [d2] at c1
        have ewr : IntKind.i64.wrap d = d := IntWalk.i64_in _ (by omega)
        clear hd hd0
        gi_wp2
        refine ⟨trivial, ?_⟩
        gi_at_call 75
        with_reducible refine (callsIn_wide.2 (be_flush b (w.heap.size + 1) s (Value.func (.func 75) #[] #[.pointer (some ⟨b, 0, none⟩), .pointer (some ⟨b + 1 + 1, 0, none⟩), .pointer (some ⟨b + 1, 0, none⟩)]) _ HE.out HSZ.out HI.out.1 (by have := HI.out; have := HI2.out; omega) (by have := HI.out; have := HI2.out; omega))).mono ?_
        rintro e w1_ ⟨rfl, hf1, hf2, hf3⟩
        have HF1 := Aside0.mk (And.intro hf1 (And.intro hf2 hf3))
        have h1_ := EB.setRun hf1 d
        simp only [eflush, d2, Bool.not_true] at h1_
        have z5 := (hf2.cell (p := ⟨w.heap.size, 0, none⟩) (by simp)).trans cN
        have z4 := r_other (a := ⟨b + 1 + 1, 0, none⟩) ((hf2.cell (p := ⟨w.heap.size, 0, none⟩) (by simp)).trans cN) (by have := HSZ.out; simp; omega) (.int .i64 d)
        obtain ⟨k11, k12, k13, k14, k15, k16, _⟩ := EB.cells (hf1)
        obtain ⟨k21, k22, k23, k24, k25, k26, _⟩ := EB.cells (h1_)
        simp only [eflush, d2, Bool.not_true] at k11 k12 k15
        have HG1 := Aside0.mk h1_
        clear h1_
        clear hf1 hf2 hf3
        gi_wp2
        refine ⟨trivial, ?_⟩
        gi_at_call 75
        with_reducible refine (callsIn_wide.2 (be_flush b (w.heap.size + 1) ⟨s.P ++ venc s.run.toNat, false, d, s.pos⟩ (Value.func (.func 75) #[] #[.pointer (some ⟨b, 0, none⟩), .pointer (some ⟨b + 1 + 1, 0, none⟩), .pointer (some ⟨b + 1, 0, none⟩)]) _ HG1.out HSZ.out HD0.out.1 (show d < 4611686018427387904 by have := HD0.out; omega) (show (s.P ++ venc s.run.toNat).length ≤ 1000000000 by have := HI.out; have := HI2.out; have := venc_len10 s.run.toNat (by omega); simp only [List.length_append]; omega))).mono ?_
        rintro e w2_ ⟨rfl, hf1, hf2, hf3⟩
        have HFE := Aside0.mk hf1
        obtain ⟨v9, q0_, q1_, _, _, _, _⟩ := hf1
        have q2_ := q0_.cell
        have HV9 := Aside0.mk q1_
        have HF2 := Aside0.mk (And.intro hf2 hf3)
        clear q0_ q1_ hf2 hf3
        gi_wp2
        have hK2 := (((HF1.out.2.2.trans (KeepsOthers.setCell _ _ _)).trans HF2.out.2)).same D _ hK rfl
        refine ⟨by simp, .inl ⟨_, _, rfl, run_takeDeferred hK2, ?_⟩⟩
        have hres : r = s.P ++ venc s.run.toNat ++ venc d.toNat := by rw [← HRR.out]; unfold bencI efin; rw [← HSS.out]; rw [if_pos (by have := HNN.out; omega), eadv_inv s _ D1.out, if_pos D2.out, ← HDD.out]; rfl
        refine ⟨_, results_tmp rfl _ _ _, v9, rfl, Kd.R_lower (Kd.R_of_own (enc := Value.int .u8) (h1 := fun _ => rfl) (base := w.heap.size + 1) (ownsRow_putObj (by rw [hres]; exact HV9.out) _ hK2 rfl) (fun _ _ => trivial)) (Nat.le_succ _), ?_⟩
        exact (HBT.out.trans ((((HF1.out.2.1).setCell (p := ⟨b + 1 + 1, 0, none⟩) (by have := HSZ.out; simp; omega) _).trans HF2.out.1).mono (Nat.le_succ _))).trans (belowK_b (w := w) (Nat.le_refl _) _ D _ _ (by have := HSZ.out; have := HD.out; omega) hK2 rfl rfl)
      · have D2 := Aside0.mk d2
        have d3 : s.on = false := by simpa using d2
        rw [d3] at c1
        obtain ⟨rr, hrr⟩ : ∃ rr, rr = s.run + d := ⟨_, rfl⟩
        have HRD := Aside0.mk hrr
        have ewr : IntKind.i64.wrap (s.run + d) = rr := by rw [hrr]; exact IntWalk.i64_in _ (by have := HI.out; have := HI2.out; omega)
        have h1_ := EB.setRun HE.out rr
        rw [d3] at h1_
        obtain ⟨k11, k12, k13, k14, k15, k16, _⟩ := EB.cells (h1_)
        simp only at k11 k12 k15
        have HG1 := Aside0.mk h1_
        have z4 := r_other (a := ⟨b + 1 + 1, 0, none⟩) cN (by have := HSZ.out; simp; omega) (.int .i64 rr)
        clear hd hd0 hrr h1_
        gi_wp2
        refine ⟨trivial, ?_⟩
        gi_at_call 75
        with_reducible refine (callsIn_wide.2 (be_flush b (w.heap.size + 1) ⟨s.P, false, rr, s.pos⟩ (Value.func (.func 75) #[] #[.pointer (some ⟨b, 0, none⟩), .pointer (some ⟨b + 1 + 1, 0, none⟩), .pointer (some ⟨b + 1, 0, none⟩)]) _ HG1.out HSZ.out (show 0 ≤ rr by have := HI.out; have := HD0.out; have := HRD.out; omega) (show rr < 4611686018427387904 by have := HI.out; have := HI2.out; have := HD0.out; have := HRD.out; omega) (show s.P.length ≤ 1000000000 by have := HI.out; have := HI2.out; omega))).mono ?_
        rintro e w2_ ⟨rfl, hf1, hf2, hf3⟩
        have HFE := Aside0.mk hf1
        obtain ⟨v9, q0_, q1_, _, _, _, _⟩ := hf1
        have q2_ := q0_.cell
        have HV9 := Aside0.mk q1_
        have HF2 := Aside0.mk (And.intro hf2 hf3)
        clear q0_ q1_ hf2 hf3
        gi_wp2
        have hK2 := (((KeepsOthers.setCell _ _ _).trans HF2.out.2)).same D _ hK rfl
        refine ⟨by simp, .inl ⟨_, _, rfl, run_takeDeferred hK2, ?_⟩⟩
        have hres : r = s.P ++ venc rr.toNat := by rw [← HRR.out]; unfold bencI efin; rw [← HSS.out]; rw [if_pos (by have := HNN.out; omega), eadv_inv s _ D1.out, if_neg D2.out, ← HDD.out, ← HRD.out]; rfl
        refine ⟨_, results_tmp rfl _ _ _, v9, rfl, Kd.R_lower (Kd.R_of_own (enc := Value.int .u8) (h1 := fun _ => rfl) (base := w.heap.size + 1) (ownsRow_putObj (by rw [hres]; exact HV9.out) _ hK2 rfl) (fun _ _ => trivial)) (Nat.le_succ _), ?_⟩
        exact (HBT.out.trans ((((Below.refl (w.heap.size + 1) W).setCell (p := ⟨b + 1 + 1, 0, none⟩) (by have := HSZ.out; simp; omega) _).trans HF2.out.1).mono (Nat.le_succ _))).trans (belowK_b (w := w) (Nat.le_refl _) _ D _ _ (by have := HSZ.out; have := HD.out; omega) hK2 rfl rfl)
    · have D1 := Aside0.mk d1
      have e1 : decide (s.pos < (nn0 : Int)) = false := decide_eq_false d1
      by_cases hN : (0 : Int) < (nn0 : Int)
      · have hNd : decide ((0 : Int) < (nn0 : Int)) = true := decide_eq_true hN
        have hNp : 0 < nn0 := by omega
        have HNN := Aside0.mk hNp
        gi_wp2
        refine ⟨trivial, ?_⟩
        gi_at_call 75
        with_reducible refine (callsIn_wide.2 (be_flush b (w.heap.size + 1) s (Value.func (.func 75) #[] #[.pointer (some ⟨b, 0, none⟩), .pointer (some ⟨b + 1 + 1, 0, none⟩), .pointer (some ⟨b + 1, 0, none⟩)]) _ HE.out HSZ.out HI.out.1 (by have := HI.out; have := HI2.out; omega) (by have := HI.out; have := HI2.out; omega))).mono ?_
        rintro e w2_ ⟨rfl, hf1, hf2, hf3⟩
        have HFE := Aside0.mk hf1
        obtain ⟨v9, q0_, q1_, _, _, _, _⟩ := hf1
        have q2_ := q0_.cell
        have HV9 := Aside0.mk q1_
        have HF2 := Aside0.mk (And.intro hf2 hf3)
        clear q0_ q1_ hf2 hf3
        gi_wp2
        have hK2 := (HF2.out.2).same D _ hK rfl
        refine ⟨by simp, .inl ⟨_, _, rfl, run_takeDeferred hK2, ?_⟩⟩
        have hres : r = s.P ++ venc s.run.toNat := by rw [← HRR.out]; unfold bencI efin; rw [← HSS.out]; rw [if_pos (by have := HNN.out; omega), eadv_same s _ (by have := D1.out; omega)]; rfl
        refine ⟨_, results_tmp rfl _ _ _, v9, rfl, Kd.R_lower (Kd.R_of_own (enc := Value.int .u8) (h1 := fun _ => rfl) (base := w.heap.size + 1) (ownsRow_putObj (by rw [hres]; exact HV9.out) _ hK2 rfl) (fun _ _ => trivial)) (Nat.le_succ _), ?_⟩
        exact (HBT.out.trans ((HF2.out.1).mono (Nat.le_succ _))).trans (belowK_b (w := w) (Nat.le_refl _) _ D _ _ (by have := HSZ.out; have := HD.out; omega) hK2 rfl rfl)
      · have hNd : decide ((0 : Int) < (nn0 : Int)) = false := decide_eq_false hN
        have hNp : nn0 = 0 := by omega
        have HNN := Aside0.mk hNp
        obtain ⟨v9, q0_, q1_, _, _, _, _⟩ := HE.out
        have q2_ := q0_.cell
        have HV9 := Aside0.mk q1_
        clear q0_ q1_
        gi_wp2
        have hK2 := (KeepsOthers.refl W).same D _ hK rfl
        refine ⟨by simp, .inl ⟨_, _, rfl, run_takeDeferred hK2, ?_⟩⟩
        have hres : r = s.P := by rw [← HRR.out]; unfold bencI efin; rw [← HSS.out]; rw [if_neg (by have := HNN.out; omega), eadv_same s _ (by have := D1.out; omega)]
        refine ⟨_, results_tmp rfl _ _ _, v9, rfl, Kd.R_lower (Kd.R_of_own (enc := Value.int .u8) (h1 := fun _ => rfl) (base := w.heap.size + 1) (ownsRow_putObj (by rw [hres]; exact HV9.out) _ hK2 rfl) (fun _ _ => trivial)) (Nat.le_succ _), ?_⟩
        exact (HBT.out.trans ((Below.refl (w.heap.size + 1) W).mono (Nat.le_succ _))).trans (belowK_b (w := w) (Nat.le_refl _) _ D _ _ (by have := HSZ.out; have := HD.out; omega) hK2 rfl rfl)
  case stop =>
    rintro D c pre W _ _ h _
    exact h.elim
end

/-! ### varint_Decode: function 71 -/
mutual
def varint_Decode.j0 : Nat → List Int → Int → Bool → Option (Int × Int × Int)
 | 0, _, _, _ => none
 | k + 1, x0, x1, x17 => if x17 = true then (some (0, 0, 1)) else (varint_Decode.l0 k x0 x1 0 0)
def varint_Decode.l0 : Nat → List Int → Int → Int → Int → Option (Int × Int × Int)
 | 0, _, _, _, _ => none
 | k + 1, x0, x1, x7, x18 => if x18 < 10 then (if (wrap64 (x1 + x18)) ≥ (x0.length : Int) then (some (0, 0, 2)) else (if 0 ≤ (wrap64 (x1 + x18)) then (if (wrap64 (x1 + x18)) < (x0.length : Int) then (if x18 = 9 then (varint_Decode.j2 k x0 x1 x7 x18 (rd x0 (wrap64 (x1 + x18))) x18 (decide ((rd x0 (wrap64 (x1 + x18))) > 1))) else (varint_Decode.j2 k x0 x1 x7 x18 (rd x0 (wrap64 (x1 + x18))) x18 false)) else (none)) else (none))) else (some (0, 0, 4))
def varint_Decode.j2 : Nat → List Int → Int → Int → Int → Int → Int → Bool → Option (Int × Int × Int)
 | 0, _, _, _, _, _, _, _ => none
 | k + 1, x0, x1, x7, x8, x9, x18, x38 => if x38 = true then (some (0, 0, 4)) else (if 0 ≤ (wrap64 (7 * x8)) then (if x9 ≥ 128 then (varint_Decode.l0 k x0 x1 (Go.bits .or .u64 x7 (shl .u64 (IntKind.u64.wrap (Go.bits .and .u8 x9 127)) (wrap64 (7 * x8)))) (wrap64 (x18 + 1))) else (if x9 = 0 then (if x8 > 0 then (some (0, 0, 4)) else (some (Go.bits .or .u64 x7 (shl .u64 (IntKind.u64.wrap (Go.bits .and .u8 x9 127)) (wrap64 (7 * x8))), wrap64 ((wrap64 (x1 + x8)) + 1), 0))) else (some (Go.bits .or .u64 x7 (shl .u64 (IntKind.u64.wrap (Go.bits .and .u8 x9 127)) (wrap64 (7 * x8))), wrap64 ((wrap64 (x1 + x8)) + 1), 0)))) else (none))
end
def varint_Decode.f (k : Nat) (l0 : List Int) (a1 : Int) : Option (Int × Int × Int) := if a1 < 0 then (varint_Decode.j0 k l0 a1 true) else (varint_Decode.j0 k l0 a1 (decide (a1 > (l0.length : Int))))
theorem varint_Decode.mono_l : ∀ k, (∀ y0 y1 y2, LeO (varint_Decode.j0 k y0 y1 y2) (varint_Decode.j0 (k + 1) y0 y1 y2)) ∧ (∀ y0 y1 y2 y3, LeO (varint_Decode.l0 k y0 y1 y2 y3) (varint_Decode.l0 (k + 1) y0 y1 y2 y3)) ∧ (∀ y0 y1 y2 y3 y4 y5 y6, LeO (varint_Decode.j2 k y0 y1 y2 y3 y4 y5 y6) (varint_Decode.j2 (k + 1) y0 y1 y2 y3 y4 y5 y6))
 | 0 => ⟨fun _ _ _ r h => by simp [varint_Decode.j0] at h, fun _ _ _ _ r h => by simp [varint_Decode.l0] at h, fun _ _ _ _ _ _ _ r h => by simp [varint_Decode.j2] at h⟩
 | k + 1 => by
  obtain ⟨ih0, ih1, ih2⟩ := varint_Decode.mono_l k
  refine ⟨?_, ?_, ?_⟩
  ·intro y0 y1 y2
   unfold varint_Decode.j0
   repeat' first
   | (with_reducible exact ih0 _ _ _)
   | (with_reducible exact ih1 _ _ _ _)
   | (with_reducible exact ih2 _ _ _ _ _ _ _)
   | (with_reducible exact LeO.refl _)
   | (with_reducible exact LeO.none _)
   | (with_reducible refine LeO.ite ?_ ?_)
   | (with_reducible refine LeO.bind ?_ (fun _ => ?_))
   | exact ih0 _ _ _
   | exact ih1 _ _ _ _
   | exact ih2 _ _ _ _ _ _ _
   | exact LeO.none _
   | refine LeO.ite ?_ ?_
   | refine LeO.bind ?_ (fun _ => ?_)
  ·intro y0 y1 y2 y3
   unfold varint_Decode.l0
   repeat' first
   | (with_reducible exact ih0 _ _ _)
   | (with_reducible exact ih1 _ _ _ _)
   | (with_reducible exact ih2 _ _ _ _ _ _ _)
   | (with_reducible exact LeO.refl _)
   | (with_reducible exact LeO.none _)
   | (with_reducible refine LeO.ite ?_ ?_)
   | (with_reducible refine LeO.bind ?_ (fun _ => ?_))
   | exact ih0 _ _ _
   | exact ih1 _ _ _ _
   | exact ih2 _ _ _ _ _ _ _
   | exact LeO.none _
   | refine LeO.ite ?_ ?_
   | refine LeO.bind ?_ (fun _ => ?_)
  ·intro y0 y1 y2 y3 y4 y5 y6
   unfold varint_Decode.j2
   repeat' first
   | (with_reducible exact ih0 _ _ _)
   | (with_reducible exact ih1 _ _ _ _)
   | (with_reducible exact ih2 _ _ _ _ _ _ _)
   | (with_reducible exact LeO.refl _)
   | (with_reducible exact LeO.none _)
   | (with_reducible refine LeO.ite ?_ ?_)
   | (with_reducible refine LeO.bind ?_ (fun _ => ?_))
   | exact ih0 _ _ _
   | exact ih1 _ _ _ _
   | exact ih2 _ _ _ _ _ _ _
   | exact LeO.none _
   | refine LeO.ite ?_ ?_
   | refine LeO.bind ?_ (fun _ => ?_)
theorem varint_Decode.mono : ∀ a0 a1 k, LeO (varint_Decode.f k a0 a1) (varint_Decode.f (k + 1) a0 a1) := by
 intro a0 a1 k
 obtain ⟨ih0, ih1, ih2⟩ := varint_Decode.mono_l k
 unfold varint_Decode.f
 repeat' first
   | (with_reducible exact ih0 _ _ _)
   | (with_reducible exact ih1 _ _ _ _)
   | (with_reducible exact ih2 _ _ _ _ _ _ _)
   | (with_reducible exact LeO.refl _)
   | (with_reducible exact LeO.none _)
   | (with_reducible refine LeO.ite ?_ ?_)
   | (with_reducible refine LeO.bind ?_ (fun _ => ?_))
   | exact ih0 _ _ _
   | exact ih1 _ _ _ _
   | exact ih2 _ _ _ _ _ _ _
   | exact LeO.none _
   | refine LeO.ite ?_ ?_
   | refine LeO.bind ?_ (fun _ => ?_)
set_option maxHeartbeats 8000000 in
set_option maxRecDepth 100000 in
theorem varint_Decode.calls (k : Nat) (A0 : Option Addr) (c0 : Nat) (l0 : List Int) (a1 : Int) (r1 : Int) (r2 : Int) (r3 : Int) (w : World) (hr0 : Kd.C (Kd.int .u8) w A0 l0.length l0) (hc0 : l0.length ≤ c0) (h : varint_Decode.f k l0 a1 = some (r1, r2, r3)) :
  Calls Tryd.prog 71 #[.slice A0 l0.length c0, .int .i64 a1] w fun e w' => e = .returned (.tuple #[.int .u64 r1, .int .i64 r2, .int .i64 r3]) ∧ Drawn0 w w' := by
 have HR0 := Aside0.mk hr0
 have HC0 := Aside0.mk hc0
 clear hr0 hc0
 have H : (if a1 < 0 then (varint_Decode.j0 k l0 a1 true) else (varint_Decode.j0 k l0 a1 (decide (a1 > (l0.length : Int))))) = some (r1, r2, r3) := h
 clear h
 have HC3 := Aside0.mk H
 clear H
 go_enter Tryd.func71, Tryd.ntmps71
 go_upto_region 1 with (fail)
 go_cut [17] (fun v17 wc => ∃ (kq : Nat) (x17_2 : Bool), v17 = .bool x17_2 ∧ Aside0 (varint_Decode.j0 kq l0 a1 x17_2 = some (r1, r2, r3)) ∧ Aside0 (kq ≤ k) ∧ Drawn0 w wc)
 case first =>
  have H := HC3.out
  clear HC3
  by_cases c4 : a1 < 0
  ·rw [if_pos c4] at H
   have c4b0 : decide (a1 < 0) = true := decide_eq_true c4
   clear c4
   (first | rw [c4b0] | (simp only [i64_w, i32_w]; rw [c4b0]) | skip)
   have H' := Aside0.mk H
   clear H
   go_wp2
   go_meet
   case rel => exact ⟨_, (true), fr_, H', ⟨by first | omega | exact Nat.le_refl _⟩, by repeat (first | exact Drawn0.refl _ | apply Drawn0.step)⟩
  ·rw [if_neg c4] at H
   have c4b0 : decide (a1 < 0) = false := decide_eq_false c4
   clear c4
   (first | rw [c4b0] | (simp only [i64_w, i32_w]; rw [c4b0]) | skip)
   have H' := Aside0.mk H
   clear H
   go_wp2
   go_meet
   case rel => exact ⟨_, (decide (a1 > (l0.length : Int))), fr_, H', ⟨by first | omega | exact Nat.le_refl _⟩, by repeat (first | exact Drawn0.refl _ | apply Drawn0.step)⟩
 case rest =>
  clear HC3
  try clear p2
  try clear c4
  try clear c4b0
  obtain ⟨kq, x17_2, rfl, HA, HJ2, ⟨mc2, rfl⟩⟩ := hcut
  cases kq with
  | zero => exact absurd HA.out (by simp [varint_Decode.j0])
  | succ kj2 =>
   have H := HA.out
   clear HA
   simp only [varint_Decode.j0] at H
   by_cases c5 : x17_2 = true
   ·subst c5
    have H1 : (some (0, 0, 1)) = some (r1, r2, r3) := by rw [if_pos rfl] at H; exact H
    clear H
    have H := H1
    clear H1
    simp only [Option.some.injEq, Prod.mk.injEq] at H
    obtain ⟨rfl, rfl, rfl⟩ := H
    go_wp2
    go_ret3
    exact ⟨fr_, dr_⟩
   ·replace c5 := Bool.eq_false_iff.mpr c5
    subst c5
    have H1 : (varint_Decode.l0 kj2 l0 a1 0 0) = some (r1, r2, r3) := by rw [if_neg (show ¬ (false = true) by decide)] at H; exact H
    clear H
    have H := H1
    clear H1
    have H' := Aside0.mk H
    clear H
    go_wp2
    go_loopg [7, 18] kj2 (fun kq v7 v18 w' => ∃ (x7_2 : Int) (x18_2 : Int), v7 = .int .u64 x7_2 ∧ v18 = .int .i64 x18_2 ∧ Aside0 (varint_Decode.l0 kq l0 a1 x7_2 x18_2 = some (r1, r2, r3)) ∧ Aside0 (kq ≤ kj2) ∧ Drawn0 w w')
    case atStart => exact ⟨(0), (0), fr_, fr_, H', ⟨Nat.le_refl _⟩, by repeat (first | exact Drawn0.refl _ | apply Drawn0.step)⟩
    case round =>
     clear H'
     try clear c2
     try clear p2
     try clear c4
     try clear c4b0
     try clear c5
     try clear p2
     obtain ⟨x7_2, x18_2, rfl, rfl, HA, HK2, ⟨m2, rfl⟩⟩ := hrel
     cases gk with
     | zero => exact absurd HA.out (by simp [varint_Decode.l0])
     | succ k2 =>
      have H := HA.out
      clear HA
      simp only [varint_Decode.l0] at H
      by_cases c6 : x18_2 < 10
      ·rw [if_pos c6] at H
       have c6b0 : decide (x18_2 < 10) = true := decide_eq_true c6
       clear c6
       by_cases c7 : (wrap64 (a1 + x18_2)) ≥ (l0.length : Int)
       ·rw [if_pos c7] at H
        have c7b0 : decide ((l0.length : Int) ≤ (wrap64 (a1 + x18_2))) = true := decide_eq_true c7
        clear c7
        simp only [Option.some.injEq, Prod.mk.injEq] at H
        obtain ⟨rfl, rfl, rfl⟩ := H
        go_wp2
        go_ret3
        exact ⟨fr_, dr_⟩
       ·rw [if_neg c7] at H
        have c7b0 : decide ((l0.length : Int) ≤ (wrap64 (a1 + x18_2))) = false := decide_eq_false c7
        clear c7
        obtain ⟨ji8, hji8⟩ : ∃ j_ : Int, (wrap64 (a1 + x18_2)) = j_ := ⟨_, rfl⟩
        replace H : (if 0 ≤ (ji8) then (if (ji8) < (l0.length : Int) then (if x18_2 = 9 then (varint_Decode.j2 k2 l0 a1 x7_2 x18_2 (rd l0 (ji8)) x18_2 (decide ((rd l0 (ji8)) > 1))) else (varint_Decode.j2 k2 l0 a1 x7_2 x18_2 (rd l0 (ji8)) x18_2 false)) else (none)) else (none)) = some (r1, r2, r3) := by first | (rw [hji8] at H; exact H) | (simp only [hji8] at H ⊢; exact H)
        (try rw [hji8] at c7b0)
        have hji8w : (IntKind.i64.wrap (a1 + x18_2)) = ji8 := (i64_w _).trans hji8
        by_cases c9 : 0 ≤ (ji8)
        ·rw [if_pos c9] at H
         have c9b0 : decide (0 ≤ (ji8)) = true := decide_eq_true c9
         clear c9
         by_cases c10 : (ji8) < (l0.length : Int)
         ·rw [if_pos c10] at H
          have c10b0 : decide ((ji8) < (l0.length : Int)) = true := decide_eq_true c10
          clear c10
          have HC11 := Aside0.mk H
          clear H
          have p213 : 0 ≤ ((ji8) : Int) := of_decide_eq_true as_
          have q213 : (ji8) < (l0.length : Int) := of_decide_eq_true as_
          obtain ⟨ad213, e213, hx213_0⟩ := Kd.at_int HR0.out (ji8) p213 q213
          cases e213
          replace p213 := eq_true p213
          replace q213 := eq_true q213
          go_upto_region 10 with (fail)
          go_cut [38] (fun v38 wc => ∃ (kq : Nat) (x38_10 : Bool), v38 = .bool x38_10 ∧ Aside0 (varint_Decode.j2 kq l0 a1 x7_2 x18_2 (rd l0 (ji8)) x18_2 x38_10 = some (r1, r2, r3)) ∧ Aside0 (kq ≤ k2) ∧ Drawn0 w wc)
          case first =>
           have H := HC11.out
           clear HC11
           by_cases c12 : x18_2 = 9
           ·rw [if_pos c12] at H
            have c12b0 : (x18_2 == 9) = true := beq_iff_eq.mpr c12
            have c12b1 : (x18_2 != 9) = false := bne_eq_false_iff_eq.mpr c12
            clear c12
            (first | rw [c12b0] | (simp only [i64_w, i32_w]; rw [c12b0]) | skip)
            have H' := Aside0.mk H
            clear H
            go_wp2
            go_meet
            case rel => exact ⟨_, (decide ((rd l0 (ji8)) > 1)), (by first | rfl | (simp; done) | (simp only [← hji8] <;> (first | rfl | simp)) | (simp [*]; done)), H', ⟨by have := HJ2.out; have := HK2.out; first | omega | exact Nat.le_refl _⟩, by repeat (first | exact Drawn0.refl _ | apply Drawn0.step)⟩
           ·rw [if_neg c12] at H
            have c12b0 : (x18_2 == 9) = false := beq_eq_false_iff_ne.mpr c12
            have c12b1 : (x18_2 != 9) = true := bne_iff_ne.mpr c12
            (first | rw [c12b0] | (simp only [i64_w, i32_w]; rw [c12b0]) | skip)
            have H' := Aside0.mk H
            clear H
            go_wp2
            go_meet
            case rel => exact ⟨_, (false), fr_, H', ⟨by have := HJ2.out; have := HK2.out; first | omega | exact Nat.le_refl _⟩, by repeat (first | exact Drawn0.refl _ | apply Drawn0.step)⟩
          case rest =>
           clear HC11
           try clear c1
           try clear c2
           try clear p2
           try clear q2
           try clear hx2
           try clear c4
           try clear c4b0
           try clear c5
           try clear c6
           try clear c6b0
           try clear p6
           try clear c7
           try clear c7b0
           try clear c9
           try clear c9b0
           try clear c10
           try clear c10b0
           try clear c12
           try clear c12b0
           try clear c12b1
           try clear hx213_0
           try clear p2
           try clear p213
           try clear q213
           obtain ⟨kq, x38_10, rfl, HA, HJ10, ⟨mc10, rfl⟩⟩ := hcut
           cases kq with
           | zero => exact absurd HA.out (by simp [varint_Decode.j2])
           | succ kj10 =>
            have H := HA.out
            clear HA
            simp only [varint_Decode.j2] at H
            by_cases c13 : x38_10 = true
            ·subst c13
             have H1 : (some (0, 0, 4)) = some (r1, r2, r3) := by rw [if_pos rfl] at H; exact H
             clear H
             have H := H1
             clear H1
             simp only [Option.some.injEq, Prod.mk.injEq] at H
             obtain ⟨rfl, rfl, rfl⟩ := H
             go_wp2
             go_ret3
             exact ⟨by first | rfl | (simp; done) | (simp only [← hji8] <;> (first | rfl | simp)) | (simp [*]; done), by repeat (first | exact Drawn0.refl _ | apply Drawn0.step)⟩
            ·replace c13 := Bool.eq_false_iff.mpr c13
             subst c13
             have H1 : (if 0 ≤ (wrap64 (7 * x18_2)) then (if (rd l0 (ji8)) ≥ 128 then (varint_Decode.l0 kj10 l0 a1 (Go.bits .or .u64 x7_2 (shl .u64 (IntKind.u64.wrap (Go.bits .and .u8 (rd l0 (ji8)) 127)) (wrap64 (7 * x18_2)))) (wrap64 (x18_2 + 1))) else (if (rd l0 (ji8)) = 0 then (if x18_2 > 0 then (some (0, 0, 4)) else (some (Go.bits .or .u64 x7_2 (shl .u64 (IntKind.u64.wrap (Go.bits .and .u8 (rd l0 (ji8)) 127)) (wrap64 (7 * x18_2))), wrap64 ((wrap64 (a1 + x18_2)) + 1), 0))) else (some (Go.bits .or .u64 x7_2 (shl .u64 (IntKind.u64.wrap (Go.bits .and .u8 (rd l0 (ji8)) 127)) (wrap64 (7 * x18_2))), wrap64 ((wrap64 (a1 + x18_2)) + 1), 0)))) else (none)) = some (r1, r2, r3) := by rw [if_neg (show ¬ (false = true) by decide)] at H; exact H
             clear H
             have H := H1
             clear H1
             obtain ⟨ji14, hji14⟩ : ∃ j_ : Int, (wrap64 (7 * x18_2)) = j_ := ⟨_, rfl⟩
             replace H : (if 0 ≤ (ji14) then (if (rd l0 (ji8)) ≥ 128 then (varint_Decode.l0 kj10 l0 a1 (Go.bits .or .u64 x7_2 (shl .u64 (IntKind.u64.wrap (Go.bits .and .u8 (rd l0 (ji8)) 127)) (ji14))) (wrap64 (x18_2 + 1))) else (if (rd l0 (ji8)) = 0 then (if x18_2 > 0 then (some (0, 0, 4)) else (some (Go.bits .or .u64 x7_2 (shl .u64 (IntKind.u64.wrap (Go.bits .and .u8 (rd l0 (ji8)) 127)) (ji14)), wrap64 ((wrap64 (a1 + x18_2)) + 1), 0))) else (some (Go.bits .or .u64 x7_2 (shl .u64 (IntKind.u64.wrap (Go.bits .and .u8 (rd l0 (ji8)) 127)) (ji14)), wrap64 ((wrap64 (a1 + x18_2)) + 1), 0)))) else (none)) = some (r1, r2, r3) := by first | (rw [hji14] at H; exact H) | (simp only [hji14] at H ⊢; exact H)
             have hji14w : (IntKind.i64.wrap (7 * x18_2)) = ji14 := (i64_w _).trans hji14
             by_cases c15 : 0 ≤ (ji14)
             ·rw [if_pos c15] at H
              have c15b0 := eq_true c15
              have c15b1 : decide (0 ≤ (ji14)) = true := decide_eq_true c15
              clear c15
              obtain ⟨ji16, hji16⟩ : ∃ j_ : Int, (shl .u64 (IntKind.u64.wrap (Go.bits .and .u8 (rd l0 (ji8)) 127)) (ji14)) = j_ := ⟨_, rfl⟩
              replace H : (if (rd l0 (ji8)) ≥ 128 then (varint_Decode.l0 kj10 l0 a1 (Go.bits .or .u64 x7_2 (ji16)) (wrap64 (x18_2 + 1))) else (if (rd l0 (ji8)) = 0 then (if x18_2 > 0 then (some (0, 0, 4)) else (some (Go.bits .or .u64 x7_2 (ji16), wrap64 ((wrap64 (a1 + x18_2)) + 1), 0))) else (some (Go.bits .or .u64 x7_2 (ji16), wrap64 ((wrap64 (a1 + x18_2)) + 1), 0)))) = some (r1, r2, r3) := by first | (rw [hji16] at H; exact H) | (simp only [hji16] at H ⊢; exact H)
              have hji16_ : (IntKind.u64.wrap ((IntKind.u64.wrap (Go.bits .and .u8 (rd l0 (ji8)) 127)) * 2 ^ min (ji14).toNat 64)) = ji16 := hji16
              have hji16z : (ji14) ≤ 64 → (IntKind.u64.wrap ((IntKind.u64.wrap (Go.bits .and .u8 (rd l0 (ji8)) 127)) * 2 ^ (ji14).toNat)) = ji16 := shl_small hji16
              by_cases c17 : (rd l0 (ji8)) ≥ 128
              ·rw [if_pos c17] at H
               have c17b0 : decide (128 ≤ (rd l0 (ji8))) = true := decide_eq_true c17
               clear c17
               have H' := Aside0.mk H
               clear H
               go_wp2
               go_roundg kj10
               case measure => have := HJ2.out; have := HK2.out; have := HJ10.out; omega
               case rel => exact ⟨(Go.bits .or .u64 x7_2 (ji16)), (wrap64 (x18_2 + 1)), (by first | rfl | (simp; done) | (simp only [← hji16] <;> (first | rfl | simp)) | (simp [*]; done)), fr_, H', ⟨by have := HJ2.out; have := HK2.out; have := HJ10.out; omega⟩, by repeat (first | exact Drawn0.refl _ | apply Drawn0.step)⟩
              ·rw [if_neg c17] at H
               have c17b0 : decide (128 ≤ (rd l0 (ji8))) = false := decide_eq_false c17
               clear c17
               by_cases c18 : (rd l0 (ji8)) = 0
               ·rw [if_pos c18] at H
                have c18b0 : ((rd l0 (ji8)) == 0) = true := beq_iff_eq.mpr c18
                have c18b1 : ((rd l0 (ji8)) != 0) = false := bne_eq_false_iff_eq.mpr c18
                clear c18
                by_cases c19 : x18_2 > 0
                ·rw [if_pos c19] at H
                 have c19b0 : decide (0 < x18_2) = true := decide_eq_true c19
                 clear c19
                 simp only [Option.some.injEq, Prod.mk.injEq] at H
                 obtain ⟨rfl, rfl, rfl⟩ := H
                 go_wp2
                 go_ret3
                 exact ⟨by first | rfl | (simp; done) | (simp only [← hji8, ← hji14, ← hji16] <;> (first | rfl | simp)) | (simp [*]; done), by repeat (first | exact Drawn0.refl _ | apply Drawn0.step)⟩
                ·rw [if_neg c19] at H
                 have c19b0 : decide (0 < x18_2) = false := decide_eq_false c19
                 clear c19
                 simp only [Option.some.injEq, Prod.mk.injEq] at H
                 obtain ⟨rfl, rfl, rfl⟩ := H
                 go_wp2
                 go_ret3
                 exact ⟨by first | rfl | (simp; done) | (simp only [← hji8, ← hji14, ← hji16] <;> (first | rfl | simp)) | (simp [*]; done), by repeat (first | exact Drawn0.refl _ | apply Drawn0.step)⟩
               ·rw [if_neg c18] at H
                have c18b0 : ((rd l0 (ji8)) == 0) = false := beq_eq_false_iff_ne.mpr c18
                have c18b1 : ((rd l0 (ji8)) != 0) = true := bne_iff_ne.mpr c18
                simp only [Option.some.injEq, Prod.mk.injEq] at H
                obtain ⟨rfl, rfl, rfl⟩ := H
                go_wp2
                go_ret3
                exact ⟨by first | rfl | (simp; done) | (simp only [← hji8, ← hji14, ← hji16] <;> (first | rfl | simp)) | (simp [*]; done), by repeat (first | exact Drawn0.refl _ | apply Drawn0.step)⟩
             ·rw [if_neg c15] at H
              exact absurd H (by simp)
         ·rw [if_neg c10] at H
          exact absurd H (by simp)
        ·rw [if_neg c9] at H
         exact absurd H (by simp)
      ·rw [if_neg c6] at H
       have c6b0 : decide (x18_2 < 10) = false := decide_eq_false c6
       clear c6
       simp only [Option.some.injEq, Prod.mk.injEq] at H
       obtain ⟨rfl, rfl, rfl⟩ := H
       go_wp2
       go_ret3
       exact ⟨fr_, dr_⟩

end Go.Proofs.YtijgbhbdmnhanaaDoor.QBitsetAlgebra
