-- Written by a program of this session (wip/pr2.sh): the walk of the Go text, function by function.
import Derived.Test.YtjeheopcohnkeaaQBloomRoundTripx0
import Derived.Test.YtjeheopcohnkeaaQBloomRoundTripx1
namespace Go.Proofs.Ytjeheopcohnkeaa.QBloomRoundTrip
open Go.RowKit Go.Proofs.YtjeheopcohnkeaaW.PrintWords Go.Proofs.YtjeheopcohnkeaaW.PrintLast Go.Proofs.YtjeheopcohnkeaaW.PrintMore
open Go.Proofs.YtjeheopcohnkeaaM
attribute [local go_sem] max2_int min2_int max_two min_two max_three min_three max_four min_four   -- for this text's walks alone
set_option linter.unusedVariables false
set_option linter.unusedSimpArgs false

/-! ### bloom_probes: function 27 -/
section
open Go.Shelf
attribute [local go_sem] Oper.semAt_some
/-- The probes: positions, from h on by steps of g. -/
def prL (n g : Int) : Nat → Int → List Int
  | 0, _ => []
  | k + 1, h => IntKind.i64.wrap (Int.tmod h (IntKind.u64.wrap n)) :: prL n g k (IntKind.u64.wrap (h + g))
theorem lit1 (W : World) (v : S24) : Kd.C k24 (W.alloc (.cells #[.int .i64 v.f0, .int .i64 v.f1, .string v.f2] 24)) (some ⟨W.heap.size, 0, none⟩) 1 [v] := by
  have hr : Reps (k24.K (W.alloc (.cells #[.int .i64 v.f0, .int .i64 v.f1, .string v.f2] 24))) 3 [v] [.int .i64 v.f0, .int .i64 v.f1, .string v.f2] := by
    refine ⟨rfl, fun j p hj => ?_⟩
    cases j with
    | zero => obtain rfl : v = p := by simpa using hj
              exact k24_mk _ _
    | succ j => simp at hj
  obtain ⟨A, c, e, _, h⟩ := (OwnRow.lit (e := 24) (ps := [v]) W 0 hr (Nat.zero_le _) (by simp)).reads
  cases e
  exact h
theorem vh1 (s : Int) (A : Option Addr) (v : S24) (r : Int) (w : World) (h : Kd.C k24 w A 1 [v]) (hf : value_Hash.f s [v] = some r) :
    Calls Try.prog 52 #[.int .u64 s, .slice A 1 1] w fun e w' => e = .returned (.int .u64 r) ∧ Below w.heap.size w w' := value_Hash.calls s A 1 [v] r w h (Nat.le_refl _) hf
set_option maxRecDepth 100000 in
set_option maxHeartbeats 2000000 in
theorem pr1_in (l Bp n₀ : Nat) (v : S24) (hs n h0 g1 : Int) (hn0 : 0 < n) (hn1 : n < 9223372036854775808) (hh : hs ≤ 1000000) (hH1 : value_Hash.f 1 [v] = some h0) (hH2 : value_Hash.f 2 [v] = some g1) (J Jx : List Int → World → Prop)
    (hY : ∀ pre x W, J pre W → pre ++ [x] <+: prL n (Go.bits .or .u64 g1 1) hs.toNat h0 → YieldAt Fence.wide 7 Try.prog l #[.int .i64 x] W fun e W' =>
      (e = .returned (.bool true) ∧ J (pre ++ [x]) W' ∧ LK n₀ Bp W W') ∨ (e = .returned (.bool false) ∧ Jx (pre ++ [x]) W'))
    (hJ : ∀ pre W W', J pre W → Below W.heap.size W W' → J pre W')
    (W : World) (hB1 : W.heap[Bp]? = some (.cells #[.int .i64 hs] 3 (0, 0))) (hB2 : W.heap[Bp + 1]? = some (.cells #[.int .i64 n] 3 (0, 0))) (hB3 : W.heap[Bp + 2]? = some (.cells #[.int .i64 v.f0, .int .i64 v.f1, .string v.f2] 24 (0, 0)))
    (hn : n₀ ≤ W.heap.size) (h0_ : J [] W) :
    CallsIn Fence.wide 8 Try.prog 51 #[.func (.yield l) #[] #[], .pointer (some ⟨Bp + 2, 0, none⟩), .pointer (some ⟨Bp, 0, none⟩), .pointer (some ⟨Bp + 1, 0, none⟩)] W fun e W' => (∃ v, e = .returned v) ∧
      ((∃ ys, ys = prL n (Go.bits .or .u64 g1 1) hs.toNat h0 ∧ J ys W') ∨ (∃ pre, pre <+: prL n (Go.bits .or .u64 g1 1) hs.toNat h0 ∧ Jx pre W')) := by
  have hro : Fence.wide.round = none := rfl
  have HM1 := Aside0.mk hH1
  have HM2 := Aside0.mk hH2
  have HY := Aside0.mk hY
  have HJ := Aside0.mk hJ
  have HB1 := Aside0.mk hB1
  have HB2 := Aside0.mk hB2
  have HN0 := Aside0.mk hn0
  have HN1 := Aside0.mk hn1
  clear hH1 hH2 hY hJ hB1 hB2 hn0 hn1
  refine callsIn_of_wp Try.func51 rfl trivial ?_ hro
  simp only [Try.ntmps51, List.size_toArray, List.length_cons, List.length_nil, Nat.reduceAdd, Nat.reduceSub, Array.replicate_succ, Array.replicate_zero, List.push_toArray, List.append_toArray, List.nil_append, List.cons_append]
  gi_wp2
  refine wpIn_wide.2 ?_
  have hA0 : W.drew.heap[Bp + 2]? = some (.cells #[.int .i64 v.f0, .int .i64 v.f1, .string v.f2] 24 (0, 0)) := hB3
  have hB0 : Below W.heap.size W W.drew := below_drew1 (Below.refl _ _)
  have hlt3 : Bp + 2 < W.heap.size := (Array.getElem?_eq_some_iff.1 hB3).1
  refine start_ (n := 9) (S := fun w' => w'.cell? ⟨Bp + 2, 0, none⟩ = some (.int .i64 v.f0) ∧ w'.cell? ⟨Bp + 2, 1, none⟩ = some (.int .i64 v.f1) ∧ w'.cell? ⟨Bp + 2, 2, none⟩ = some (.string v.f2)) (ds := []) #[false, false, false, false, false, false, false, false, false] (by kernel_rfl) rfl rfl ⟨(blk_cell hA0 0).trans rfl, (blk_cell hA0 1).trans rfl, (blk_cell hA0 2).trans rfl⟩ (fun hHeld => ?_)
  clear hB3
  have hA1 := hA0
  clear hA0
  have hW0 : W.drew.heap.size = W.heap.size := rfl
  generalize W.drew = W2 at hA1 hB0 hHeld hW0 ⊢
  refine take_ (i := 0) (N := some 7) (v := ?_) (a' := ?_) #[true, false, false, false, false, false, false, false, false] rfl rfl (by kernel_rfl) (fun _ _ _ h => h) (Or.inl ⟨by (first | rfl | (simp only [*]; rfl) | (simp [*]; done)), ?_⟩) hHeld ?_ ?_
  rotate_left
  · rintro w' ⟨s0, s1, s2⟩
    go_simp
    with_reducible rfl
  rotate_left
  · simp only [Act.put, List.setIfInBounds_toArray, List.set_cons_zero, List.set_cons_succ]
    rfl
  refine take_ (i := 3) (N := some 10) (v := ?_) (a' := ?_) #[true, false, false, true, false, false, false, false, false] rfl rfl (by kernel_rfl) (fun _ _ _ h => h) (Or.inl ⟨by (first | rfl | (simp only [*]; rfl) | (simp [*]; done)), ?_⟩) hHeld ?_ ?_
  rotate_left
  · rintro w' ⟨s0, s1, s2⟩
    go_simp
    with_reducible rfl
  rotate_left
  · simp only [Act.put, List.setIfInBounds_toArray, List.set_cons_zero, List.set_cons_succ]
    rfl
  refine join_ (σ := Option Addr × Option Addr) 4 #[true, true, true, true, true, false, false, false, false] (fun s_ => [(8, .slice s_.1 1 1), (9, .int .u64 h0), (11, .slice s_.2 1 1)]) (fun s_ w' => Below W.heap.size W w' ∧ w'.heap[Bp + 2]? = some (.cells #[.int .i64 v.f0, .int .i64 v.f1, .string v.f2] 24 (0, 0)) ∧ Kd.C k24 w' s_.2 1 [v]) ?_ ?_
  rotate_left
  · intro hCont
    refine two_ (i := 1) (j := 4) (Ni := some 8) (Nj := some 11) #[true, true, false, true, false, false, false, false, false] #[true, false, false, true, true, false, false, false, false] rfl rfl rfl rfl (by kernel_rfl) (by decide) (by decide) (fun K hK => ?_) (fun K hK => ?_)
    · skip
      refine value_ (v := .slice (some ⟨W2.heap.size, 0, none⟩) 1 1) (w1 := W2.alloc (.cells #[.int .i64 v.f0, .int .i64 v.f1, .string v.f2] 24)) (by (first | rfl | (simp only [*]; rfl) | (simp [*]; done))) rfl (by first | (go_simp; done) | (go_simp; rfl)) ?_
      have hLW2a := lit1 W2 v
      have hbW2a : Below W2.heap.size W2 (W2.alloc (.cells #[.int .i64 v.f0, .int .i64 v.f1, .string v.f2] 24)) := below_alloc (Below.refl _ _) _
      obtain ⟨W2a, hW2a⟩ : ∃ w', w' = W2.alloc (.cells #[.int .i64 v.f0, .int .i64 v.f1, .string v.f2] 24) := ⟨_, rfl⟩
      rw [← hW2a] at hLW2a hbW2a ⊢
      clear hW2a
      replace hB0 := below_step hB0 hbW2a
      replace hA1 := blk_below hA1 hbW2a
      refine hK.out _ _ ⟨(blk_cell hA1 0).trans rfl, (blk_cell hA1 1).trans rfl, (blk_cell hA1 2).trans rfl⟩ (fun hHeld => ?_)
      have hL1 := hLW2a
      clear hK K
      refine norm_ (a' := ?_) ?_ ?_
      rotate_left
      · show Act.put _ (some 8) _ = _
        simp only [Act.put, List.setIfInBounds_toArray, List.set_cons_zero, List.set_cons_succ]
        rfl
      refine two_ (i := 2) (j := 4) (Ni := some 9) (Nj := some 11) #[true, true, true, true, false, false, false, false, false] #[true, true, false, true, true, false, false, false, false] rfl rfl rfl rfl (by kernel_rfl) (by decide) (by decide) (fun K hK => ?_) (fun K hK => ?_)
      · skip
        refine goes_ Try.func52 (by kernel_rfl) rfl #[.int .u64 1, .slice (some ⟨W2.heap.size, 0, none⟩) 1 1] (by (first | rfl | (simp only [*]; rfl) | (simp [*]; done))) rfl rfl (by simp [Act.eval]) ?_
        (with_reducible refine (vh1 1 (some ⟨W2.heap.size, 0, none⟩) v h0 W2a hL1 HM1.out).mono ?_)
        rintro e W2ab ⟨rfl, hbW2ab⟩
        refine ⟨_, rfl, ?_⟩
        replace hB0 := below_step hB0 hbW2ab
        replace hA1 := blk_below hA1 hbW2ab
        refine hK.out _ _ ⟨(blk_cell hA1 0).trans rfl, (blk_cell hA1 1).trans rfl, (blk_cell hA1 2).trans rfl⟩ (fun hHeld => ?_)
        clear hK K
        refine norm_ (a' := ?_) ?_ ?_
        rotate_left
        · show Act.put _ (some 9) _ = _
          simp only [Act.put, List.setIfInBounds_toArray, List.set_cons_zero, List.set_cons_succ]
          rfl
        refine one_ (i := 4) (N := some 11) #[true, true, true, true, true, false, false, false, false] rfl rfl (by kernel_rfl) (by decide) (fun K hK => ?_)
        refine value_ (v := .slice (some ⟨W2ab.heap.size, 0, none⟩) 1 1) (w1 := W2ab.alloc (.cells #[.int .i64 v.f0, .int .i64 v.f1, .string v.f2] 24)) (by (first | rfl | (simp only [*]; rfl) | (simp [*]; done))) rfl (by first | (go_simp; done) | (go_simp; rfl)) ?_
        have hLW2aba := lit1 W2ab v
        have hbW2aba : Below W2ab.heap.size W2ab (W2ab.alloc (.cells #[.int .i64 v.f0, .int .i64 v.f1, .string v.f2] 24)) := below_alloc (Below.refl _ _) _
        obtain ⟨W2aba, hW2aba⟩ : ∃ w', w' = W2ab.alloc (.cells #[.int .i64 v.f0, .int .i64 v.f1, .string v.f2] 24) := ⟨_, rfl⟩
        rw [← hW2aba] at hLW2aba hbW2aba ⊢
        clear hW2aba
        replace hB0 := below_step hB0 hbW2aba
        replace hA1 := blk_below hA1 hbW2aba
        refine hK.out _ _ ⟨(blk_cell hA1 0).trans rfl, (blk_cell hA1 1).trans rfl, (blk_cell hA1 2).trans rfl⟩ (fun hHeld => ?_)
        have hL2 := hLW2aba
        clear hK K
        refine norm_ (a' := ?_) ?_ ?_
        rotate_left
        · show Act.put _ (some 11) _ = _
          simp only [Act.put, List.setIfInBounds_toArray, List.set_cons_zero, List.set_cons_succ]
          rfl
        exact norm_ (by simp only [putAll, Act.put, List.setIfInBounds_toArray, List.set_cons_zero, List.set_cons_succ]) (hCont (some ⟨W2.heap.size, 0, none⟩, some ⟨W2ab.heap.size, 0, none⟩) W2aba ⟨hB0, hA1, hL2⟩)
      · skip
        refine value_ (v := .slice (some ⟨W2a.heap.size, 0, none⟩) 1 1) (w1 := W2a.alloc (.cells #[.int .i64 v.f0, .int .i64 v.f1, .string v.f2] 24)) (by (first | rfl | (simp only [*]; rfl) | (simp [*]; done))) rfl (by first | (go_simp; done) | (go_simp; rfl)) ?_
        have hLW2aa := lit1 W2a v
        have hbW2aa : Below W2a.heap.size W2a (W2a.alloc (.cells #[.int .i64 v.f0, .int .i64 v.f1, .string v.f2] 24)) := below_alloc (Below.refl _ _) _
        obtain ⟨W2aa, hW2aa⟩ : ∃ w', w' = W2a.alloc (.cells #[.int .i64 v.f0, .int .i64 v.f1, .string v.f2] 24) := ⟨_, rfl⟩
        rw [← hW2aa] at hLW2aa hbW2aa ⊢
        clear hW2aa
        replace hB0 := below_step hB0 hbW2aa
        replace hA1 := blk_below hA1 hbW2aa
        replace hL1 := Kd.C_below hL1 hbW2aa
        refine hK.out _ _ ⟨(blk_cell hA1 0).trans rfl, (blk_cell hA1 1).trans rfl, (blk_cell hA1 2).trans rfl⟩ (fun hHeld => ?_)
        have hL2 := hLW2aa
        clear hK K
        refine norm_ (a' := ?_) ?_ ?_
        rotate_left
        · show Act.put _ (some 11) _ = _
          simp only [Act.put, List.setIfInBounds_toArray, List.set_cons_zero, List.set_cons_succ]
          rfl
        refine one_ (i := 2) (N := some 9) #[true, true, true, true, true, false, false, false, false] rfl rfl (by kernel_rfl) (by decide) (fun K hK => ?_)
        refine goes_ Try.func52 (by kernel_rfl) rfl #[.int .u64 1, .slice (some ⟨W2.heap.size, 0, none⟩) 1 1] (by (first | rfl | (simp only [*]; rfl) | (simp [*]; done))) rfl rfl (by simp [Act.eval]) ?_
        (with_reducible refine (vh1 1 (some ⟨W2.heap.size, 0, none⟩) v h0 W2aa hL1 HM1.out).mono ?_)
        rintro e W2aab ⟨rfl, hbW2aab⟩
        refine ⟨_, rfl, ?_⟩
        replace hB0 := below_step hB0 hbW2aab
        replace hA1 := blk_below hA1 hbW2aab
        replace hL2 := Kd.C_below hL2 hbW2aab
        refine hK.out _ _ ⟨(blk_cell hA1 0).trans rfl, (blk_cell hA1 1).trans rfl, (blk_cell hA1 2).trans rfl⟩ (fun hHeld => ?_)
        clear hK K
        refine norm_ (a' := ?_) ?_ ?_
        rotate_left
        · show Act.put _ (some 9) _ = _
          simp only [Act.put, List.setIfInBounds_toArray, List.set_cons_zero, List.set_cons_succ]
          rfl
        exact norm_ (by simp only [putAll, Act.put, List.setIfInBounds_toArray, List.set_cons_zero, List.set_cons_succ]) (hCont (some ⟨W2.heap.size, 0, none⟩, some ⟨W2a.heap.size, 0, none⟩) W2aab ⟨hB0, hA1, hL2⟩)
    · skip
      refine value_ (v := .slice (some ⟨W2.heap.size, 0, none⟩) 1 1) (w1 := W2.alloc (.cells #[.int .i64 v.f0, .int .i64 v.f1, .string v.f2] 24)) (by (first | rfl | (simp only [*]; rfl) | (simp [*]; done))) rfl (by first | (go_simp; done) | (go_simp; rfl)) ?_
      have hLW2a := lit1 W2 v
      have hbW2a : Below W2.heap.size W2 (W2.alloc (.cells #[.int .i64 v.f0, .int .i64 v.f1, .string v.f2] 24)) := below_alloc (Below.refl _ _) _
      obtain ⟨W2a, hW2a⟩ : ∃ w', w' = W2.alloc (.cells #[.int .i64 v.f0, .int .i64 v.f1, .string v.f2] 24) := ⟨_, rfl⟩
      rw [← hW2a] at hLW2a hbW2a ⊢
      clear hW2a
      replace hB0 := below_step hB0 hbW2a
      replace hA1 := blk_below hA1 hbW2a
      refine hK.out _ _ ⟨(blk_cell hA1 0).trans rfl, (blk_cell hA1 1).trans rfl, (blk_cell hA1 2).trans rfl⟩ (fun hHeld => ?_)
      have hL2 := hLW2a
      clear hK K
      refine norm_ (a' := ?_) ?_ ?_
      rotate_left
      · show Act.put _ (some 11) _ = _
        simp only [Act.put, List.setIfInBounds_toArray, List.set_cons_zero, List.set_cons_succ]
        rfl
      refine one_ (i := 1) (N := some 8) #[true, true, false, true, true, false, false, false, false] rfl rfl (by kernel_rfl) (by decide) (fun K hK => ?_)
      refine value_ (v := .slice (some ⟨W2a.heap.size, 0, none⟩) 1 1) (w1 := W2a.alloc (.cells #[.int .i64 v.f0, .int .i64 v.f1, .string v.f2] 24)) (by (first | rfl | (simp only [*]; rfl) | (simp [*]; done))) rfl (by first | (go_simp; done) | (go_simp; rfl)) ?_
      have hLW2aa := lit1 W2a v
      have hbW2aa : Below W2a.heap.size W2a (W2a.alloc (.cells #[.int .i64 v.f0, .int .i64 v.f1, .string v.f2] 24)) := below_alloc (Below.refl _ _) _
      obtain ⟨W2aa, hW2aa⟩ : ∃ w', w' = W2a.alloc (.cells #[.int .i64 v.f0, .int .i64 v.f1, .string v.f2] 24) := ⟨_, rfl⟩
      rw [← hW2aa] at hLW2aa hbW2aa ⊢
      clear hW2aa
      replace hB0 := below_step hB0 hbW2aa
      replace hA1 := blk_below hA1 hbW2aa
      replace hL2 := Kd.C_below hL2 hbW2aa
      refine hK.out _ _ ⟨(blk_cell hA1 0).trans rfl, (blk_cell hA1 1).trans rfl, (blk_cell hA1 2).trans rfl⟩ (fun hHeld => ?_)
      have hL1 := hLW2aa
      clear hK K
      refine norm_ (a' := ?_) ?_ ?_
      rotate_left
      · show Act.put _ (some 8) _ = _
        simp only [Act.put, List.setIfInBounds_toArray, List.set_cons_zero, List.set_cons_succ]
        rfl
      refine one_ (i := 2) (N := some 9) #[true, true, true, true, true, false, false, false, false] rfl rfl (by kernel_rfl) (by decide) (fun K hK => ?_)
      refine goes_ Try.func52 (by kernel_rfl) rfl #[.int .u64 1, .slice (some ⟨W2a.heap.size, 0, none⟩) 1 1] (by (first | rfl | (simp only [*]; rfl) | (simp [*]; done))) rfl rfl (by simp [Act.eval]) ?_
      (with_reducible refine (vh1 1 (some ⟨W2a.heap.size, 0, none⟩) v h0 W2aa hL1 HM1.out).mono ?_)
      rintro e W2aab ⟨rfl, hbW2aab⟩
      refine ⟨_, rfl, ?_⟩
      replace hB0 := below_step hB0 hbW2aab
      replace hA1 := blk_below hA1 hbW2aab
      replace hL2 := Kd.C_below hL2 hbW2aab
      refine hK.out _ _ ⟨(blk_cell hA1 0).trans rfl, (blk_cell hA1 1).trans rfl, (blk_cell hA1 2).trans rfl⟩ (fun hHeld => ?_)
      clear hK K
      refine norm_ (a' := ?_) ?_ ?_
      rotate_left
      · show Act.put _ (some 9) _ = _
        simp only [Act.put, List.setIfInBounds_toArray, List.set_cons_zero, List.set_cons_succ]
        rfl
      exact norm_ (by simp only [putAll, Act.put, List.setIfInBounds_toArray, List.set_cons_zero, List.set_cons_succ]) (hCont (some ⟨W2a.heap.size, 0, none⟩, some ⟨W2.heap.size, 0, none⟩) W2aab ⟨hB0, hA1, hL2⟩)
  clear hHeld hA1 hB0 hW0
  rintro ⟨A8, A11⟩ W6 ⟨hB0, hA1, hL2⟩
  refine norm_ (a' := ?_) ?_ ?_
  rotate_left
  · simp only [putAll, Act.put, List.setIfInBounds_toArray, List.set_cons_zero, List.set_cons_succ]
    rfl
  refine one_ (i := 5) (N := some 12) #[true, true, true, true, true, true, false, false, false] rfl rfl (by kernel_rfl) (by decide) (fun K hK => ?_)
  refine goes_ Try.func52 (by kernel_rfl) rfl #[.int .u64 2, .slice A11 1 1] (by (first | rfl | (simp only [*]; rfl) | (simp [*]; done))) rfl rfl (by simp [Act.eval]) ?_
  (with_reducible refine (vh1 2 A11 v g1 W6 hL2 HM2.out).mono ?_)
  rintro e W6b ⟨rfl, hbW6b⟩
  refine ⟨_, rfl, ?_⟩
  replace hB0 := below_step hB0 hbW6b
  replace hA1 := blk_below hA1 hbW6b
  refine hK.out _ _ ⟨(blk_cell hA1 0).trans rfl, (blk_cell hA1 1).trans rfl, (blk_cell hA1 2).trans rfl⟩ (fun hHeld => ?_)
  clear hK K
  refine norm_ (a' := ?_) ?_ ?_
  rotate_left
  · show Act.put _ (some 12) _ = _
    simp only [Act.put, List.setIfInBounds_toArray, List.set_cons_zero, List.set_cons_succ]
    rfl
  refine pure_ (i := 6) (N := some 13) (v := ?_) (a' := ?_) #[true, true, true, true, true, true, true, false, false] rfl rfl (by kernel_rfl) (fun _ _ _ h => h) (Or.inl ⟨by (first | rfl | (simp only [*]; rfl) | (simp [*]; done)), ?_⟩) ?_ ?_
  rotate_left
  · intro w'
    go_simp
    with_reducible rfl
  rotate_left
  · simp only [Act.put, List.setIfInBounds_toArray, List.set_cons_zero, List.set_cons_succ]
    rfl
  refine pure_ (i := 7) (N := some 5) (v := ?_) (a' := ?_) #[true, true, true, true, true, true, true, true, false] rfl rfl (by kernel_rfl) (fun _ _ _ h => h) (Or.inl ⟨by (first | rfl | (simp only [*]; rfl) | (simp [*]; done)), ?_⟩) ?_ ?_
  rotate_left
  · intro w'
    go_simp
    with_reducible rfl
  rotate_left
  · simp only [Act.put, List.setIfInBounds_toArray, List.set_cons_zero, List.set_cons_succ]
    rfl
  refine pure_ (i := 8) (N := some 6) (v := ?_) (a' := ?_) #[true, true, true, true, true, true, true, true, true] rfl rfl (by kernel_rfl) (fun _ _ _ h => h) (Or.inl ⟨by (first | rfl | (simp only [*]; rfl) | (simp [*]; done)), ?_⟩) ?_ ?_
  rotate_left
  · intro w'
    go_simp
    with_reducible rfl
  rotate_left
  · simp only [Act.put, List.setIfInBounds_toArray, List.set_cons_zero, List.set_cons_succ]
    rfl
  refine done_ (by kernel_rfl) ?_
  have hC1 : W6b.heap[Bp]? = some (.cells #[.int .i64 hs] 3 (0, 0)) := (hB0.block _ (by omega)).trans HB1.out
  have hC2 : W6b.heap[Bp + 1]? = some (.cells #[.int .i64 n] 3 (0, 0)) := (hB0.block _ (by omega)).trans HB2.out
  have hJ6 := HJ.out _ _ _ h0_ hB0
  have hK6 : LK n₀ Bp W W6b := LK.of_below hB0 hn (by omega)
  obtain ⟨hC1c, hC1f⟩ := r_box hC1
  clear HM1 HM2 hHeld hA1 hL2 hbW6b HJ h0_
  gi_wp2
  gi_loopw [5, 15] (fun v5 v15 wr => ∃ (k : Nat) (h : Int) (pre : List Int), k ≤ hs.toNat ∧ v5 = .int .u64 h ∧ v15 = .int .i64 (k : Int) ∧ Aside0 (pre ++ prL n (Go.bits .or .u64 g1 1) (hs.toNat - k) h = prL n (Go.bits .or .u64 g1 1) hs.toNat h0) ∧ J pre wr ∧ LK n₀ Bp W wr) (fun _ v15 _ => hs.toNat - (intOf v15).toNat)
  case atStart => exact ⟨0, h0, [], Nat.zero_le _, rfl, rfl, ⟨by simp⟩, hJ6, hK6⟩
  case round =>
    clear hC1 hC2 hC1c hC1f hJ6 hK6
    obtain ⟨k, h, pre, hk, rfl, rfl, hp, hJp, hnx⟩ := hrel
    obtain ⟨hb2c, hb2f⟩ := r_box (hnx.b2.trans HB2.out)
    by_cases hlt : (k : Int) < hs
    · have e1 : IntKind.u64.wrap n = n := wraps_u64 _ (by have := HN0.out; omega) (by have := HN1.out; omega)
      have e2 : (n == 0) = false := by simp; have := HN0.out; omega
      have e3 : (n != 0) = true := by simp; have := HN0.out; omega
      have e4 : ¬ n = 0 := by have := HN0.out; omega
      have ek : IntKind.i64.wrap ((k : Int) + 1) = ((k + 1 : Nat) : Int) := by rw [IntWalk.i64_in _ (by omega)]; omega
      have hp1 := hp.out
      rw [show hs.toNat - k = (hs.toNat - (k + 1)) + 1 by omega] at hp1
      simp only [prL] at hp1
      rw [e1] at hp1
      obtain ⟨x, hx⟩ : ∃ x, x = IntKind.i64.wrap (Int.tmod h n) := ⟨_, rfl⟩
      rw [← hx] at hp1
      have hpre : pre ++ [x] <+: prL n (Go.bits .or .u64 g1 1) hs.toNat h0 := ⟨prL n (Go.bits .or .u64 g1 1) (hs.toNat - (k + 1)) (IntKind.u64.wrap (h + Go.bits .or .u64 g1 1)), by rw [← hp1]; simp⟩
      have hp2 : Aside0 ((pre ++ [x]) ++ prL n (Go.bits .or .u64 g1 1) (hs.toNat - (k + 1)) (IntKind.u64.wrap (h + Go.bits .or .u64 g1 1)) = prL n (Go.bits .or .u64 g1 1) hs.toNat h0) := ⟨by rw [← hp1]; simp⟩
      obtain ⟨fn, tmps, assign, body, hy, hR⟩ := HY.out pre x wr hJp hpre
      have hx' := hx.symm
      clear hx hp1 hp
      gi_wp2
      refine hR.mono ?_
      rintro e9 W3 (⟨rfl, hJ3, hk3⟩ | ⟨rfl, hJx3⟩)
      · gi_wp2
        go_roundw
        case rel => exact ⟨k + 1, _, _, by omega, rfl, by simp, hp2, hJ3, hnx.trans hk3⟩
        case measure => simp [intOf]; omega
      · gi_wp2
        refine bodyPost_ret (results_none rfl _ _ _) rfl ?_
        exact ⟨⟨_, rfl⟩, .inr ⟨_, hpre, hJx3⟩⟩
    · have hk2 : hs.toNat - k = 0 := by omega
      have hp1 := hp.out
      rw [hk2] at hp1
      simp only [prL, List.append_nil] at hp1
      subst hp1
      gi_wp2
      go_end0
      first | exact ⟨⟨_, rfl⟩, .inl ⟨_, rfl, hJp⟩⟩ | exact ⟨⟨_, rfl⟩, .inl hJp⟩
theorem prL_len (n g : Int) : ∀ (k : Nat) (h : Int), (prL n g k h).length = k
  | 0, _ => rfl
  | k + 1, h => by simp [prL, prL_len n g k]
/-- The contract of what probes hands back: the body is told that what it is handed is a probe. -/
theorem pr_stopsR (Bp n₀ : Nat) (v : S24) (hs n h0 g1 : Int) (hn0 : 0 < n) (hn1 : n < 9223372036854775808) (hh : hs ≤ 1000000) (hH1 : value_Hash.f 1 [v] = some h0) (hH2 : value_Hash.f 2 [v] = some g1) (r : List Int) (hr : r = prL n (Go.bits .or .u64 g1 1) hs.toNat h0)
    (w : World) (hB1 : w.heap[Bp]? = some (.cells #[.int .i64 hs] 3 (0, 0))) (hB2 : w.heap[Bp + 1]? = some (.cells #[.int .i64 n] 3 (0, 0))) (hB3 : w.heap[Bp + 2]? = some (.cells #[.int .i64 v.f0, .int .i64 v.f1, .string v.f2] 24 (0, 0)))
    (hn : n₀ ≤ w.heap.size) :
    SeqStopsK Fence.wide 8 Try.prog 51 #[.pointer (some ⟨Bp + 2, 0, none⟩), .pointer (some ⟨Bp, 0, none⟩), .pointer (some ⟨Bp + 1, 0, none⟩)] (fun x : { x : Int // x ∈ r } => #[Value.int .i64 x.1]) (LK n₀ Bp) (fun ys => ys.map (·.1) = r) (fun pre => pre.map (·.1) <+: r) r.length w := fun l J Jx W hW hJ _ hY h0_ => by
  have h1 := (Array.getElem?_eq_some_iff.1 hB1).1
  have h2 := (Array.getElem?_eq_some_iff.1 hB2).1
  have h3 := (Array.getElem?_eq_some_iff.1 hB3).1
  subst hr
  refine (pr1_in l Bp n₀ v hs n h0 g1 hn0 hn1 hh hH1 hH2 (fun pre W => ∃ p : List { x : Int // x ∈ prL n (Go.bits .or .u64 g1 1) hs.toNat h0 }, p.map (·.1) = pre ∧ J p W) (fun pre W => ∃ p : List { x : Int // x ∈ prL n (Go.bits .or .u64 g1 1) hs.toNat h0 }, p.map (·.1) = pre ∧ Jx p W) ?_ ?_ W ((hW.block _ h1).trans hB1) ((hW.block _ h2).trans hB2) ((hW.block _ h3).trans hB3) (Nat.le_trans hn hW.size) ⟨[], rfl, h0_⟩).mono ?_
  · rintro pre x W1 ⟨p, rfl, hj⟩ hp
    have hx := hp.subset (List.mem_append_right _ List.mem_cons_self)
    refine (hY p ⟨x, hx⟩ W1 hj (by have := hp.length_le; simp at this ⊢; omega)).mono ?_
    rintro e W2 (⟨h1, h2, h3⟩ | ⟨h1, h2⟩)
    · exact .inl ⟨h1, ⟨p ++ [⟨x, hx⟩], by simp, h2⟩, h3⟩
    · exact .inr ⟨h1, ⟨p ++ [⟨x, hx⟩], by simp, h2⟩⟩
  · rintro pre W1 W2 ⟨p, e, hj⟩ hb
    exact ⟨p, e, hJ p W1 W2 none hj ⟨hb.os, hb.tape, hb.output, hb.size, fun k hk _ => hb.block k hk⟩ (fun r e => by cases e)⟩
  · rintro e W1 ⟨hv, (⟨ys, rfl, p, hp, hj⟩ | ⟨pre, hpre, p, rfl, hj⟩)⟩
    · exact ⟨hv, .inl ⟨p, hp, hj⟩⟩
    · exact ⟨hv, .inr ⟨p, hpre, hj⟩⟩
set_option maxRecDepth 100000 in
set_option maxHeartbeats 2000000 in
theorem pr_in (hs n : Int) (v : S24) (w : World) :
    CallsIn Fence.wide 8 Try.prog 27 #[.int .i64 hs, .int .i64 n, .agg #[.int .i64 v.f0, .int .i64 v.f1, .string v.f2]] w fun e W' => e = .returned (.func (.func 51) #[] #[.pointer (some ⟨w.heap.size + 2, 0, none⟩), .pointer (some ⟨w.heap.size, 0, none⟩), .pointer (some ⟨w.heap.size + 1, 0, none⟩)]) ∧ W' = ((w.alloc (.cells #[.int .i64 hs] 3)).alloc (.cells #[.int .i64 n] 3)).alloc (.cells #[.int .i64 v.f0, .int .i64 v.f1, .string v.f2] 24) := by
  refine callsIn_of_wp Try.func27 rfl trivial ?_ rfl
  simp only [Try.ntmps27, List.size_toArray, List.length_cons, List.length_nil, Nat.reduceAdd, Nat.reduceSub, Array.replicate_succ, Array.replicate_zero, List.push_toArray, List.append_toArray, List.nil_append, List.cons_append]
  gi_wp2
  go_ret
  simp
end

/-! ### bitset_wordCount: function 50 -/
def bitset_wordCount.f (a0 : Int) : Option (Int) := some (wrap64 (Int.tdiv (wrap64 (a0 + 63)) 64))
set_option maxHeartbeats 8000000 in
set_option maxRecDepth 100000 in
theorem bitset_wordCount.calls (a0 : Int) (r : Int) (w : World) (h : bitset_wordCount.f a0 = some r) :
  Calls Try.prog 50 #[.int .i64 a0] w fun e w' => e = .returned (.int .i64 r) ∧ Drawn0 w w' := by
 have H : (some (wrap64 (Int.tdiv (wrap64 (a0 + 63)) 64))) = some r := h
 clear h
 obtain rfl := Option.some.inj H
 go_enter Try.func50, Try.ntmps50
 go_wp2
 go_ret
 exact ⟨by first | rfl | (simp; done) | (simp [*]; done), by repeat (first | exact Drawn0.refl _ | apply Drawn0.step)⟩

/-! ### bitset_New: function 25 -/
def bitset_New.f (a0 : Int) : Option (Int × List Int) := if a0 < 0 then ((bitset_wordCount.f 0).bind fun t102 => (if 0 ≤ t102 then (if (t102 : Int).toNat ≤ 35184372088832 then (some (0, (List.replicate (t102 : Int).toNat 0))) else (none)) else (none))) else (if a0 > 1048576 then ((bitset_wordCount.f 0).bind fun t106 => (if 0 ≤ t106 then (if (t106 : Int).toNat ≤ 35184372088832 then (some (0, (List.replicate (t106 : Int).toNat 0))) else (none)) else (none))) else ((bitset_wordCount.f a0).bind fun t110 => (if 0 ≤ t110 then (if (t110 : Int).toNat ≤ 35184372088832 then (some (a0, (List.replicate (t110 : Int).toNat 0))) else (none)) else (none))))
set_option maxHeartbeats 8000000 in
set_option maxRecDepth 100000 in
theorem bitset_New.calls (a0 : Int) (r1 : Int) (r2 : List Int) (w : World) (h : bitset_New.f a0 = some (r1, r2)) :
  Calls Try.prog 25 #[.int .i64 a0] w fun e w' => ∃ v1_ : Value, e = .returned (.agg #[.int .i64 r1, v1_]) ∧ Kd.R (Kd.int .u64) 53 w' w.heap.size (fun _ => True) v1_ r2 ∧ Below w.heap.size w w' := by
 have hu30 := Try.underlying30
 have HB := Aside0.mk (Below.refl w.heap.size w)
 have H : (if a0 < 0 then ((bitset_wordCount.f 0).bind fun t102 => (if 0 ≤ t102 then (if (t102 : Int).toNat ≤ 35184372088832 then (some (0, (List.replicate (t102 : Int).toNat 0))) else (none)) else (none))) else (if a0 > 1048576 then ((bitset_wordCount.f 0).bind fun t106 => (if 0 ≤ t106 then (if (t106 : Int).toNat ≤ 35184372088832 then (some (0, (List.replicate (t106 : Int).toNat 0))) else (none)) else (none))) else ((bitset_wordCount.f a0).bind fun t110 => (if 0 ≤ t110 then (if (t110 : Int).toNat ≤ 35184372088832 then (some (a0, (List.replicate (t110 : Int).toNat 0))) else (none)) else (none))))) = some (r1, r2) := h
 clear h
 by_cases c2 : a0 < 0
 ·rw [if_pos c2] at H
  have c2b0 : decide (a0 < 0) = true := decide_eq_true c2
  clear c2
  replace H := Option.bind_eq_some_iff.mp H
  obtain ⟨t102, A30, H⟩ := H
  replace H : (if 0 ≤ t102 then (if (t102 : Int).toNat ≤ 35184372088832 then (some (0, (List.replicate (t102 : Int).toNat 0))) else (none)) else (none)) = some (r1, r2) := H
  have A3 := Aside0.mk A30
  clear A30
  by_cases c4 : 0 ≤ t102
  ·rw [if_pos c4] at H
   have c4b0 := eq_true c4
   have c4b1 : decide (0 ≤ t102) = true := decide_eq_true c4
   clear c4
   by_cases c5 : (t102 : Int).toNat ≤ 35184372088832
   ·rw [if_pos c5] at H
    have c5b0 := eq_true c5
    have c5b1 : decide ((t102 : Int).toNat ≤ 35184372088832) = true := decide_eq_true c5
    clear c5
    obtain ⟨y103, hy103⟩ : ∃ y_ : List Int, y_ = (List.replicate (t102 : Int).toNat 0) := ⟨_, rfl⟩
    replace H : (some (0, y103)) = some (r1, r2) := by first | (rw [hy103]; with_reducible exact H) | (have H2_ := (Option.bind_some _ _).symm.trans H; rw [hy103]; with_reducible exact H2_) | (have H2_ := (Option.bind_some _ _).symm.trans H; with_reducible exact H2_) | with_reducible exact H | (rw [hy103]; exact H) | exact H
    have Ny103 := Aside0.mk hy103
    clear hy103
    simp only [Option.some.injEq, Prod.mk.injEq] at H
    obtain ⟨rfl, rfl⟩ := H
    go_enter Try.func25, Try.ntmps25
    go_wp2_with (first | ((with_reducible refine gate_dst (N := 2) rfl ?_); refine box_event ?hg (N := 2) ?hd (cs := #[.int .i64 0, .slice none 0 0]) (t := 30) ?hr ?_; (case hd => rfl); (case hg => (first | rfl | (simp only [*]; rfl) | (simp [*]; done))); (case hr => first | (go_simp; done) | (go_simp; rfl)); intro gb101 hg w6 hbox hb; have n0_ := Aside0.mk (below_step (by repeat (first | (with_reducible first | exact HB.out | apply below_alloc | apply pw_below_drewN | apply below_drew1) | exact HB.out)) hb); have n1_ := Aside0.mk (hbox); have n2_ := Aside0.mk ((by rw [hg]; exact (below_size (by repeat (first | (with_reducible first | exact HB.out | apply below_alloc | apply pw_below_drewN | apply below_drew1) | exact HB.out))) : w.heap.size ≤ gb101)); have n3_ := Aside0.mk ((by rw [hg]; exact (below_size (by repeat (first | (with_reducible first | exact HB.out | apply below_alloc | apply pw_below_drewN | apply below_drew1) | exact HB.out))) : w.heap.size ≤ gb101)); clear HB; have HB := n0_; have BK101 := n1_; have GW101 := n2_; have GE101 := n3_; clear n0_ n1_ n2_ n3_; clear hb hbox hg) | ((with_reducible refine gate_callee (f := 50) rfl ?_); refine goesL_ (some 11) rfl rfl Try.func50 (by kernel_rfl) rfl #[.int .i64 0] rfl (by (try simp only [List.map_toArray, List.map_cons, List.map_nil]); first | done | rfl | (simp only [List.length_drop, List.length_take]; rfl)) ?_; (with_reducible refine (bitset_wordCount.calls 0 t102 _ A3.out).mono ?_); rintro e w' ⟨rfl, ⟨nd, rfl⟩⟩; refine ⟨_, rfl, ?_⟩; (try (rw [drewN_self w6]; generalize hq_ : World.drewN w6 _ = w6; have n0_ : Aside0 (w6.heap[gb101]? = some (.cells #[.int .i64 0, .slice none 0 0] 30 (0, 0))) := ⟨by rw [← hq_]; exact (by (with_reducible repeat (first | refine blk_drewN ?_ _ | refine blk_drew ?_ | refine blk_alloc ?_ _)); exact BK101.out)⟩; have n1_ : Aside0 (Below w.heap.size w w6) := ⟨by rw [← hq_]; exact (by repeat (first | (with_reducible first | exact HB.out | apply below_alloc | apply pw_below_drewN | apply below_drew1 | refine below_set ?_ GE101.out) | exact HB.out))⟩; clear BK101 HB hq_; have BK101 := n0_; have HB := n1_; clear n0_ n1_))) | ((with_reducible refine gate_dst (N := 12) rfl ?_); refine Kd.R_make (Kd.int .u64) _ 53 rfl (N := 12) rfl 28 _ _ rfl t102 rfl rfl Try.underlying28 (.int .u64 0) 8 info53 rfl (by decide) (by omega) 0 (ok := fun _ => True) (okp := fun _ => True) rfl (fun _ hk => hk) trivial (of_decide_eq_true (by first | (with_reducible assumption) | assumption)) (Nat.le_trans (Nat.mul_le_mul_right _ (of_decide_eq_true (by first | (with_reducible assumption) | assumption) : t102.toNat ≤ 35184372088832)) (by omega)) (Below.refl _ _) (Nat.le_refl _) ?_; intro v104 w7 ho8 hb hg_ hnew_; clear hg_ hnew_; (first | rw [← Ny103.out] at ho8 | (simp only [Int.reduceToNat] at ho8; rw [← Ny103.out] at ho8)); have n0_ := Aside0.mk (Kd.R_lower ho8 (below_size (by repeat (first | (with_reducible first | exact HB.out | apply below_alloc | apply pw_below_drewN | apply below_drew1 | refine below_set ?_ GE101.out) | exact HB.out)))); have n1_ := Aside0.mk (blk_below (g := gb101) (o := .cells #[.int .i64 0, .slice none 0 0] 30 (0, 0)) (by (with_reducible repeat (first | refine blk_drewN ?_ _ | refine blk_drew ?_ | refine blk_alloc ?_ _)); exact BK101.out) hb); have n2_ := Aside0.mk (below_step (by repeat (first | (with_reducible first | exact HB.out | apply below_alloc | apply pw_below_drewN | apply below_drew1 | refine below_set ?_ GE101.out) | exact HB.out)) hb); clear BK101; clear HB; have HO105 := n0_; have BK101 := n1_; have HB := n2_; clear n0_ n1_ n2_; clear hb ho8; obtain ⟨Ao9, co9, eo9⟩ := Kd.R_slice HO105.out; subst eo9; have hcz10_0 : w7.cell? ⟨gb101, 0, none⟩ = some (.int .i64 0) := (blk_cell BK101.out 0).trans rfl; have hcz10_1 : w7.cell? ⟨gb101, 1, none⟩ = some (.slice none 0 0) := (blk_cell BK101.out 1).trans rfl; have hfz10_0 := blk_frozen BK101.out 0; have hfz10_1 := blk_frozen BK101.out 1))
    refine bodyPost_ret (results_cell_row rfl _ _ gb101 30 #[.int .i64 0, .slice Ao9 y103.length co9] (0, 0) _ rfl (by (with_reducible repeat (first | refine blk_drewN ?_ _ | refine blk_drew ?_ | refine blk_alloc ?_ _)); refine blk_put (cs := #[.int .i64 0, .slice none 0 0]) ?_ 1 _ rfl; (with_reducible repeat (first | refine blk_drewN ?_ _ | refine blk_drew ?_ | refine blk_alloc ?_ _)); refine blk_put (cs := #[.int .i64 0, .slice none 0 0]) ?_ 0 _ rfl; (with_reducible repeat (first | refine blk_drewN ?_ _ | refine blk_drew ?_ | refine blk_alloc ?_ _)); exact BK101.out) Try.underlying30 rfl (by kernel_rfl)) rfl ?_
    exact ⟨_, by first | rfl | (simp [errW_none, errW_some] <;> rfl) | (simp [*, errW_none, errW_some] <;> rfl), by (with_reducible repeat (first | apply Kd.R_alloc | apply Kd.R_drewN | apply Kd.R_drew)); exact Kd.R_mono (Kd.R_far (p := ⟨gb101, 1, none⟩) (Kd.R_far (p := ⟨gb101, 0, none⟩) (Kd.R_types HO105.out BK101.out (by decide)) (fun _ hk => hk.2) (.int .i64 0)) (fun _ hk => hk.2) (.slice Ao9 y103.length co9)) (fun _ hk => trivial), by repeat (first | (with_reducible first | exact HB.out | apply below_alloc | apply pw_below_drewN | apply below_drew1 | refine below_set ?_ GE101.out) | exact HB.out)⟩
   ·rw [if_neg c5] at H
    exact absurd H (by simp)
  ·rw [if_neg c4] at H
   exact absurd H (by simp)
 ·rw [if_neg c2] at H
  have c2b0 : decide (a0 < 0) = false := decide_eq_false c2
  clear c2
  by_cases c11 : a0 > 1048576
  ·rw [if_pos c11] at H
   have c11b0 : decide (1048576 < a0) = true := decide_eq_true c11
   clear c11
   replace H := Option.bind_eq_some_iff.mp H
   obtain ⟨t106, A120, H⟩ := H
   replace H : (if 0 ≤ t106 then (if (t106 : Int).toNat ≤ 35184372088832 then (some (0, (List.replicate (t106 : Int).toNat 0))) else (none)) else (none)) = some (r1, r2) := H
   have A12 := Aside0.mk A120
   clear A120
   by_cases c13 : 0 ≤ t106
   ·rw [if_pos c13] at H
    have c13b0 := eq_true c13
    have c13b1 : decide (0 ≤ t106) = true := decide_eq_true c13
    clear c13
    by_cases c14 : (t106 : Int).toNat ≤ 35184372088832
    ·rw [if_pos c14] at H
     have c14b0 := eq_true c14
     have c14b1 : decide ((t106 : Int).toNat ≤ 35184372088832) = true := decide_eq_true c14
     clear c14
     obtain ⟨y107, hy107⟩ : ∃ y_ : List Int, y_ = (List.replicate (t106 : Int).toNat 0) := ⟨_, rfl⟩
     replace H : (some (0, y107)) = some (r1, r2) := by first | (rw [hy107]; with_reducible exact H) | (have H2_ := (Option.bind_some _ _).symm.trans H; rw [hy107]; with_reducible exact H2_) | (have H2_ := (Option.bind_some _ _).symm.trans H; with_reducible exact H2_) | with_reducible exact H | (rw [hy107]; exact H) | exact H
     have Ny107 := Aside0.mk hy107
     clear hy107
     simp only [Option.some.injEq, Prod.mk.injEq] at H
     obtain ⟨rfl, rfl⟩ := H
     go_enter Try.func25, Try.ntmps25
     go_wp2_with (first | ((with_reducible refine gate_dst (N := 2) rfl ?_); refine box_event ?hg (N := 2) ?hd (cs := #[.int .i64 0, .slice none 0 0]) (t := 30) ?hr ?_; (case hd => rfl); (case hg => (first | rfl | (simp only [*]; rfl) | (simp [*]; done))); (case hr => first | (go_simp; done) | (go_simp; rfl)); intro gb101 hg w15 hbox hb; have n0_ := Aside0.mk (below_step (by repeat (first | (with_reducible first | exact HB.out | apply below_alloc | apply pw_below_drewN | apply below_drew1) | exact HB.out)) hb); have n1_ := Aside0.mk (hbox); have n2_ := Aside0.mk ((by rw [hg]; exact (below_size (by repeat (first | (with_reducible first | exact HB.out | apply below_alloc | apply pw_below_drewN | apply below_drew1) | exact HB.out))) : w.heap.size ≤ gb101)); have n3_ := Aside0.mk ((by rw [hg]; exact (below_size (by repeat (first | (with_reducible first | exact HB.out | apply below_alloc | apply pw_below_drewN | apply below_drew1) | exact HB.out))) : w.heap.size ≤ gb101)); clear HB; have HB := n0_; have BK101 := n1_; have GW101 := n2_; have GE101 := n3_; clear n0_ n1_ n2_ n3_; clear hb hbox hg) | ((with_reducible refine gate_callee (f := 50) rfl ?_); refine goesL_ (some 11) rfl rfl Try.func50 (by kernel_rfl) rfl #[.int .i64 0] rfl (by (try simp only [List.map_toArray, List.map_cons, List.map_nil]); first | done | rfl | (simp only [List.length_drop, List.length_take]; rfl)) ?_; (with_reducible refine (bitset_wordCount.calls 0 t106 _ A12.out).mono ?_); rintro e w' ⟨rfl, ⟨nd, rfl⟩⟩; refine ⟨_, rfl, ?_⟩; (try (rw [drewN_self w15]; generalize hq_ : World.drewN w15 _ = w15; have n0_ : Aside0 (w15.heap[gb101]? = some (.cells #[.int .i64 0, .slice none 0 0] 30 (0, 0))) := ⟨by rw [← hq_]; exact (by (with_reducible repeat (first | refine blk_drewN ?_ _ | refine blk_drew ?_ | refine blk_alloc ?_ _)); exact BK101.out)⟩; have n1_ : Aside0 (Below w.heap.size w w15) := ⟨by rw [← hq_]; exact (by repeat (first | (with_reducible first | exact HB.out | apply below_alloc | apply pw_below_drewN | apply below_drew1 | refine below_set ?_ GE101.out) | exact HB.out))⟩; clear BK101 HB hq_; have BK101 := n0_; have HB := n1_; clear n0_ n1_))) | ((with_reducible refine gate_dst (N := 12) rfl ?_); refine Kd.R_make (Kd.int .u64) _ 53 rfl (N := 12) rfl 28 _ _ rfl t106 rfl rfl Try.underlying28 (.int .u64 0) 8 info53 rfl (by decide) (by omega) 0 (ok := fun _ => True) (okp := fun _ => True) rfl (fun _ hk => hk) trivial (of_decide_eq_true (by first | (with_reducible assumption) | assumption)) (Nat.le_trans (Nat.mul_le_mul_right _ (of_decide_eq_true (by first | (with_reducible assumption) | assumption) : t106.toNat ≤ 35184372088832)) (by omega)) (Below.refl _ _) (Nat.le_refl _) ?_; intro v108 w16 ho17 hb hg_ hnew_; clear hg_ hnew_; (first | rw [← Ny107.out] at ho17 | (simp only [Int.reduceToNat] at ho17; rw [← Ny107.out] at ho17)); have n0_ := Aside0.mk (Kd.R_lower ho17 (below_size (by repeat (first | (with_reducible first | exact HB.out | apply below_alloc | apply pw_below_drewN | apply below_drew1 | refine below_set ?_ GE101.out) | exact HB.out)))); have n1_ := Aside0.mk (blk_below (g := gb101) (o := .cells #[.int .i64 0, .slice none 0 0] 30 (0, 0)) (by (with_reducible repeat (first | refine blk_drewN ?_ _ | refine blk_drew ?_ | refine blk_alloc ?_ _)); exact BK101.out) hb); have n2_ := Aside0.mk (below_step (by repeat (first | (with_reducible first | exact HB.out | apply below_alloc | apply pw_below_drewN | apply below_drew1 | refine below_set ?_ GE101.out) | exact HB.out)) hb); clear BK101; clear HB; have HO109 := n0_; have BK101 := n1_; have HB := n2_; clear n0_ n1_ n2_; clear hb ho17; obtain ⟨Ao18, co18, eo18⟩ := Kd.R_slice HO109.out; subst eo18; have hcz19_0 : w16.cell? ⟨gb101, 0, none⟩ = some (.int .i64 0) := (blk_cell BK101.out 0).trans rfl; have hcz19_1 : w16.cell? ⟨gb101, 1, none⟩ = some (.slice none 0 0) := (blk_cell BK101.out 1).trans rfl; have hfz19_0 := blk_frozen BK101.out 0; have hfz19_1 := blk_frozen BK101.out 1))
     refine bodyPost_ret (results_cell_row rfl _ _ gb101 30 #[.int .i64 0, .slice Ao18 y107.length co18] (0, 0) _ rfl (by (with_reducible repeat (first | refine blk_drewN ?_ _ | refine blk_drew ?_ | refine blk_alloc ?_ _)); refine blk_put (cs := #[.int .i64 0, .slice none 0 0]) ?_ 1 _ rfl; (with_reducible repeat (first | refine blk_drewN ?_ _ | refine blk_drew ?_ | refine blk_alloc ?_ _)); refine blk_put (cs := #[.int .i64 0, .slice none 0 0]) ?_ 0 _ rfl; (with_reducible repeat (first | refine blk_drewN ?_ _ | refine blk_drew ?_ | refine blk_alloc ?_ _)); exact BK101.out) Try.underlying30 rfl (by kernel_rfl)) rfl ?_
     exact ⟨_, by first | rfl | (simp [errW_none, errW_some] <;> rfl) | (simp [*, errW_none, errW_some] <;> rfl), by (with_reducible repeat (first | apply Kd.R_alloc | apply Kd.R_drewN | apply Kd.R_drew)); exact Kd.R_mono (Kd.R_far (p := ⟨gb101, 1, none⟩) (Kd.R_far (p := ⟨gb101, 0, none⟩) (Kd.R_types HO109.out BK101.out (by decide)) (fun _ hk => hk.2) (.int .i64 0)) (fun _ hk => hk.2) (.slice Ao18 y107.length co18)) (fun _ hk => trivial), by repeat (first | (with_reducible first | exact HB.out | apply below_alloc | apply pw_below_drewN | apply below_drew1 | refine below_set ?_ GE101.out) | exact HB.out)⟩
    ·rw [if_neg c14] at H
     exact absurd H (by simp)
   ·rw [if_neg c13] at H
    exact absurd H (by simp)
  ·rw [if_neg c11] at H
   have c11b0 : decide (1048576 < a0) = false := decide_eq_false c11
   clear c11
   replace H := Option.bind_eq_some_iff.mp H
   obtain ⟨t110, A200, H⟩ := H
   replace H : (if 0 ≤ t110 then (if (t110 : Int).toNat ≤ 35184372088832 then (some (a0, (List.replicate (t110 : Int).toNat 0))) else (none)) else (none)) = some (r1, r2) := H
   have A20 := Aside0.mk A200
   clear A200
   by_cases c21 : 0 ≤ t110
   ·rw [if_pos c21] at H
    have c21b0 := eq_true c21
    have c21b1 : decide (0 ≤ t110) = true := decide_eq_true c21
    clear c21
    by_cases c22 : (t110 : Int).toNat ≤ 35184372088832
    ·rw [if_pos c22] at H
     have c22b0 := eq_true c22
     have c22b1 : decide ((t110 : Int).toNat ≤ 35184372088832) = true := decide_eq_true c22
     clear c22
     obtain ⟨y111, hy111⟩ : ∃ y_ : List Int, y_ = (List.replicate (t110 : Int).toNat 0) := ⟨_, rfl⟩
     replace H : (some (a0, y111)) = some (r1, r2) := by first | (rw [hy111]; with_reducible exact H) | (have H2_ := (Option.bind_some _ _).symm.trans H; rw [hy111]; with_reducible exact H2_) | (have H2_ := (Option.bind_some _ _).symm.trans H; with_reducible exact H2_) | with_reducible exact H | (rw [hy111]; exact H) | exact H
     have Ny111 := Aside0.mk hy111
     clear hy111
     simp only [Option.some.injEq, Prod.mk.injEq] at H
     obtain ⟨rfl, rfl⟩ := H
     go_enter Try.func25, Try.ntmps25
     go_wp2_with (first | ((with_reducible refine gate_dst (N := 2) rfl ?_); refine box_event ?hg (N := 2) ?hd (cs := #[.int .i64 0, .slice none 0 0]) (t := 30) ?hr ?_; (case hd => rfl); (case hg => (first | rfl | (simp only [*]; rfl) | (simp [*]; done))); (case hr => first | (go_simp; done) | (go_simp; rfl)); intro gb101 hg w23 hbox hb; have n0_ := Aside0.mk (below_step (by repeat (first | (with_reducible first | exact HB.out | apply below_alloc | apply pw_below_drewN | apply below_drew1) | exact HB.out)) hb); have n1_ := Aside0.mk (hbox); have n2_ := Aside0.mk ((by rw [hg]; exact (below_size (by repeat (first | (with_reducible first | exact HB.out | apply below_alloc | apply pw_below_drewN | apply below_drew1) | exact HB.out))) : w.heap.size ≤ gb101)); have n3_ := Aside0.mk ((by rw [hg]; exact (below_size (by repeat (first | (with_reducible first | exact HB.out | apply below_alloc | apply pw_below_drewN | apply below_drew1) | exact HB.out))) : w.heap.size ≤ gb101)); clear HB; have HB := n0_; have BK101 := n1_; have GW101 := n2_; have GE101 := n3_; clear n0_ n1_ n2_ n3_; clear hb hbox hg) | ((with_reducible refine gate_callee (f := 50) rfl ?_); refine goesL_ (some 11) rfl rfl Try.func50 (by kernel_rfl) rfl #[.int .i64 a0] rfl (by (try simp only [List.map_toArray, List.map_cons, List.map_nil]); first | done | rfl | (simp only [List.length_drop, List.length_take]; rfl)) ?_; (with_reducible refine (bitset_wordCount.calls a0 t110 _ A20.out).mono ?_); rintro e w' ⟨rfl, ⟨nd, rfl⟩⟩; refine ⟨_, rfl, ?_⟩; (try (rw [drewN_self w23]; generalize hq_ : World.drewN w23 _ = w23; have n0_ : Aside0 (w23.heap[gb101]? = some (.cells #[.int .i64 0, .slice none 0 0] 30 (0, 0))) := ⟨by rw [← hq_]; exact (by (with_reducible repeat (first | refine blk_drewN ?_ _ | refine blk_drew ?_ | refine blk_alloc ?_ _)); exact BK101.out)⟩; have n1_ : Aside0 (Below w.heap.size w w23) := ⟨by rw [← hq_]; exact (by repeat (first | (with_reducible first | exact HB.out | apply below_alloc | apply pw_below_drewN | apply below_drew1 | refine below_set ?_ GE101.out) | exact HB.out))⟩; clear BK101 HB hq_; have BK101 := n0_; have HB := n1_; clear n0_ n1_))) | ((with_reducible refine gate_dst (N := 12) rfl ?_); refine Kd.R_make (Kd.int .u64) _ 53 rfl (N := 12) rfl 28 _ _ rfl t110 rfl rfl Try.underlying28 (.int .u64 0) 8 info53 rfl (by decide) (by omega) 0 (ok := fun _ => True) (okp := fun _ => True) rfl (fun _ hk => hk) trivial (of_decide_eq_true (by first | (with_reducible assumption) | assumption)) (Nat.le_trans (Nat.mul_le_mul_right _ (of_decide_eq_true (by first | (with_reducible assumption) | assumption) : t110.toNat ≤ 35184372088832)) (by omega)) (Below.refl _ _) (Nat.le_refl _) ?_; intro v112 w24 ho25 hb hg_ hnew_; clear hg_ hnew_; (first | rw [← Ny111.out] at ho25 | (simp only [Int.reduceToNat] at ho25; rw [← Ny111.out] at ho25)); have n0_ := Aside0.mk (Kd.R_lower ho25 (below_size (by repeat (first | (with_reducible first | exact HB.out | apply below_alloc | apply pw_below_drewN | apply below_drew1 | refine below_set ?_ GE101.out) | exact HB.out)))); have n1_ := Aside0.mk (blk_below (g := gb101) (o := .cells #[.int .i64 0, .slice none 0 0] 30 (0, 0)) (by (with_reducible repeat (first | refine blk_drewN ?_ _ | refine blk_drew ?_ | refine blk_alloc ?_ _)); exact BK101.out) hb); have n2_ := Aside0.mk (below_step (by repeat (first | (with_reducible first | exact HB.out | apply below_alloc | apply pw_below_drewN | apply below_drew1 | refine below_set ?_ GE101.out) | exact HB.out)) hb); clear BK101; clear HB; have HO113 := n0_; have BK101 := n1_; have HB := n2_; clear n0_ n1_ n2_; clear hb ho25; obtain ⟨Ao26, co26, eo26⟩ := Kd.R_slice HO113.out; subst eo26; have hcz27_0 : w24.cell? ⟨gb101, 0, none⟩ = some (.int .i64 0) := (blk_cell BK101.out 0).trans rfl; have hcz27_1 : w24.cell? ⟨gb101, 1, none⟩ = some (.slice none 0 0) := (blk_cell BK101.out 1).trans rfl; have hfz27_0 := blk_frozen BK101.out 0; have hfz27_1 := blk_frozen BK101.out 1))
     refine bodyPost_ret (results_cell_row rfl _ _ gb101 30 #[.int .i64 a0, .slice Ao26 y111.length co26] (0, 0) _ rfl (by (with_reducible repeat (first | refine blk_drewN ?_ _ | refine blk_drew ?_ | refine blk_alloc ?_ _)); refine blk_put (cs := #[.int .i64 a0, .slice none 0 0]) ?_ 1 _ rfl; (with_reducible repeat (first | refine blk_drewN ?_ _ | refine blk_drew ?_ | refine blk_alloc ?_ _)); refine blk_put (cs := #[.int .i64 0, .slice none 0 0]) ?_ 0 _ rfl; (with_reducible repeat (first | refine blk_drewN ?_ _ | refine blk_drew ?_ | refine blk_alloc ?_ _)); exact BK101.out) Try.underlying30 rfl (by kernel_rfl)) rfl ?_
     exact ⟨_, by first | rfl | (simp [errW_none, errW_some] <;> rfl) | (simp [*, errW_none, errW_some] <;> rfl), by (with_reducible repeat (first | apply Kd.R_alloc | apply Kd.R_drewN | apply Kd.R_drew)); exact Kd.R_mono (Kd.R_far (p := ⟨gb101, 1, none⟩) (Kd.R_far (p := ⟨gb101, 0, none⟩) (Kd.R_types HO113.out BK101.out (by decide)) (fun _ hk => hk.2) (.int .i64 a0)) (fun _ hk => hk.2) (.slice Ao26 y111.length co26)) (fun _ hk => trivial), by repeat (first | (with_reducible first | exact HB.out | apply below_alloc | apply pw_below_drewN | apply below_drew1 | refine below_set ?_ GE101.out) | exact HB.out)⟩
    ·rw [if_neg c22] at H
     exact absurd H (by simp)
   ·rw [if_neg c21] at H
    exact absurd H (by simp)

/-! ### bitset_Of: function 28 -/
def bitset_Of.l0 : Nat → List Int → Int → Int → Int → List Int → Option (Int × List Int)
 | 0, _, _, _, _, _ => none
 | k + 1, x10, x11, x12, x120000, x120001 => if x12 < x11 then (if 0 ≤ x12 then (if x12 < (x10.length : Int) then (if (rd x10 x12) ≥ 0 then (if (rd x10 x12) < x120000 then (if 0 ≤ (wrap64 (Int.tdiv (rd x10 x12) 64)) then (if (wrap64 (Int.tdiv (rd x10 x12) 64)) < (x120001.length : Int) then (if 0 ≤ (Int.tmod (rd x10 x12) 64) then (bitset_Of.l0 k x10 x11 (wrap64 (x12 + 1)) x120000 (x120001.set ((wrap64 (Int.tdiv (rd x10 x12) 64)) : Int).toNat (Go.bits .or .u64 (rd x120001 (wrap64 (Int.tdiv (rd x10 x12) 64))) (shl .u64 1 (Int.tmod (rd x10 x12) 64))))) else (none)) else (none)) else (none)) else (bitset_Of.l0 k x10 x11 (wrap64 (x12 + 1)) x120000 x120001)) else (bitset_Of.l0 k x10 x11 (wrap64 (x12 + 1)) x120000 x120001)) else (none)) else (none)) else (some (x120000, x120001))
def bitset_Of.f (k : Nat) (a0 : Int) (l1 : List Int) : Option (Int × List Int) := (bitset_New.f a0).bind fun bt115 => (bitset_Of.l0 k l1 (l1.length : Int) 0 bt115.1 bt115.2)
theorem bitset_Of.mono_l : ∀ k, (∀ y0 y1 y2 y3 y4, LeO (bitset_Of.l0 k y0 y1 y2 y3 y4) (bitset_Of.l0 (k + 1) y0 y1 y2 y3 y4))
 | 0 => fun _ _ _ _ _ r h => by simp [bitset_Of.l0] at h
 | k + 1 => by
  have ih0 := bitset_Of.mono_l k
  ·intro y0 y1 y2 y3 y4
   unfold bitset_Of.l0
   repeat' first
   | (with_reducible exact ih0 _ _ _ _ _)
   | (with_reducible exact LeO.refl _)
   | (with_reducible exact LeO.none _)
   | (with_reducible refine LeO.ite ?_ ?_)
   | (with_reducible refine LeO.bind ?_ (fun _ => ?_))
   | exact ih0 _ _ _ _ _
   | exact LeO.none _
   | refine LeO.ite ?_ ?_
   | refine LeO.bind ?_ (fun _ => ?_)
theorem bitset_Of.mono : ∀ a0 a1 k, LeO (bitset_Of.f k a0 a1) (bitset_Of.f (k + 1) a0 a1) := by
 intro a0 a1 k
 have ih0 := bitset_Of.mono_l k
 unfold bitset_Of.f
 repeat' first
   | (with_reducible exact ih0 _ _ _ _ _)
   | (with_reducible exact LeO.refl _)
   | (with_reducible exact LeO.none _)
   | (with_reducible refine LeO.ite ?_ ?_)
   | (with_reducible refine LeO.bind ?_ (fun _ => ?_))
   | exact ih0 _ _ _ _ _
   | exact LeO.none _
   | refine LeO.ite ?_ ?_
   | refine LeO.bind ?_ (fun _ => ?_)
def bitset_Of.T6 : Bool × List (List Nat × List Nat) := (true, [([], []), ([0], [0]), ([], []), ([2], [2]), ([1, 3], [1, 3]), ([4], [4]), ([], []), ([6], [6]), ([7], [7]), ([5, 8], [5, 8]), ([1, 3, 0, 1, 2, 3, 4, 5, 6, 7, 8, 9], [1, 3]), ([10, 9, 0, 1, 2, 3, 4, 5, 6, 7, 8, 9], [9, 10])])
def bitset_Of.B6 : List Nat := [0, 1, 0, 4, 15, 31, 0, 64, 192, 511, 1023, 2047]
theorem bitset_Of.tab6 : rtab .any (opsOf Try.f28 6) = bitset_Of.T6 := by kernel_rfl
theorem bitset_Of.bits6 : waitsOk bitset_Of.T6.2 bitset_Of.B6 = true := by kernel_rfl
set_option maxHeartbeats 8000000 in
set_option maxRecDepth 100000 in
theorem bitset_Of.calls (k : Nat) (a0 : Int) (A1 : Option Addr) (c1 : Nat) (l1 : List Int) (r1 : Int) (r2 : List Int) (w : World) (hr1 : Kd.C (Kd.int .i64) w A1 l1.length l1) (hc1 : l1.length ≤ c1) (h : bitset_Of.f k a0 l1 = some (r1, r2)) :
  Calls Try.prog 28 #[.int .i64 a0, .slice A1 l1.length c1] w fun e w' => ∃ v1_ : Value, e = .returned (.agg #[.int .i64 r1, v1_]) ∧ Kd.R (Kd.int .u64) 53 w' w.heap.size (fun _ => True) v1_ r2 ∧ Below w.heap.size w w' := by
 have hu30 := Try.underlying30
 have HR1 := Aside0.mk hr1
 have HC1 := Aside0.mk hc1
 clear hr1 hc1
 have HB := Aside0.mk (Below.refl w.heap.size w)
 have H : ((bitset_New.f a0).bind fun bt115 => (bitset_Of.l0 k l1 (l1.length : Int) 0 bt115.1 bt115.2)) = some (r1, r2) := h
 clear h
 replace H := Option.bind_eq_some_iff.mp H
 obtain ⟨⟨t115, t116⟩, A30, H⟩ := H
 replace H : (bitset_Of.l0 k l1 (l1.length : Int) 0 t115 t116) = some (r1, r2) := H
 have A3 := Aside0.mk A30
 clear A30
 have H' := Aside0.mk H
 clear H
 go_enter Try.func28, Try.ntmps28
 go_wp2_with (first | ((with_reducible refine gate_dst (N := 4) rfl ?_); refine box_event ?hg (N := 4) ?hd (cs := #[.int .i64 0, .slice none 0 0]) (t := 30) ?hr ?_; (case hd => rfl); (case hg => (first | rfl | (simp only [*]; rfl) | (simp [*]; done))); (case hr => first | (go_simp; done) | (go_simp; rfl)); intro gb114 hg w4 hbox hb; have n0_ := Aside0.mk (below_step (by repeat (first | (with_reducible first | exact HB.out | apply below_alloc | apply pw_below_drewN | apply below_drew1) | exact HB.out)) hb); have n1_ := Aside0.mk (hbox); have n2_ := Aside0.mk ((by rw [hg]; exact (below_size (by repeat (first | (with_reducible first | exact HB.out | apply below_alloc | apply pw_below_drewN | apply below_drew1) | exact HB.out))) : w.heap.size ≤ gb114)); have n3_ := Aside0.mk ((by rw [hg]; exact (below_size (by repeat (first | (with_reducible first | exact HB.out | apply below_alloc | apply pw_below_drewN | apply below_drew1) | exact HB.out))) : w.heap.size ≤ gb114)); clear HB; have HB := n0_; have BK114 := n1_; have GW114 := n2_; have GE114 := n3_; clear n0_ n1_ n2_ n3_; clear hb hbox hg) | ((with_reducible refine gate_callee (f := 25) rfl ?_); refine goesL_ (some 9) rfl rfl Try.func25 (by kernel_rfl) rfl #[.int .i64 a0] rfl (by (try simp only [List.map_toArray, List.map_cons, List.map_nil]); first | done | rfl | (simp only [List.length_drop, List.length_take]; rfl)) ?_; (with_reducible refine (bitset_New.calls a0 t115 t116 _ A3.out).mono ?_); rintro e w5 ⟨v117, rfl, ho0, hb⟩; refine ⟨_, rfl, ?_⟩; have n0_ := Aside0.mk (Kd.R_lower ho0 (below_size (by repeat (first | (with_reducible first | exact HB.out | apply below_alloc | apply pw_below_drewN | apply below_drew1 | refine below_set ?_ GE114.out) | exact HB.out)))); have n1_ := Aside0.mk (blk_below (g := gb114) (o := .cells #[.int .i64 0, .slice none 0 0] 30 (0, 0)) (by (with_reducible repeat (first | refine blk_drewN ?_ _ | refine blk_drew ?_ | refine blk_alloc ?_ _)); exact BK114.out) hb); have n2_ := Aside0.mk (below_step (by repeat (first | (with_reducible first | exact HB.out | apply below_alloc | apply pw_below_drewN | apply below_drew1 | refine below_set ?_ GE114.out) | exact HB.out)) hb); clear BK114; clear HB; have HO118 := n0_; have BK114 := n1_; have HB := n2_; clear n0_ n1_ n2_; (try clear hb); (try clear hb2); (try clear hk); (try clear hi); (try clear ho0)) | ((with_reducible refine gate_dst (N := 5) rfl ?_); refine box_event ?hg (N := 5) ?hd (cs := #[.int .i64 0, .slice none 0 0]) (t := 30) ?hr ?_; (case hd => rfl); (case hg => (first | rfl | (simp only [*]; rfl) | (simp [*]; done))); (case hr => first | (go_simp; done) | (go_simp; rfl)); intro gb119 hg w6 hbox hb; have n0_ := Aside0.mk (Kd.R_below (by (with_reducible repeat (first | apply Kd.R_alloc | apply Kd.R_drewN | apply Kd.R_drew)); exact HO118.out) hb); have n1_ := Aside0.mk (blk_below (g := gb114) (o := .cells #[.int .i64 0, .slice none 0 0] 30 (0, 0)) (by (with_reducible repeat (first | refine blk_drewN ?_ _ | refine blk_drew ?_ | refine blk_alloc ?_ _)); exact BK114.out) hb); have n2_ := Aside0.mk (below_step (by repeat (first | (with_reducible first | exact HB.out | apply below_alloc | apply pw_below_drewN | apply below_drew1 | refine below_set ?_ GE114.out) | exact HB.out)) hb); have n3_ := Aside0.mk (hbox); have n4_ := Aside0.mk ((by rw [hg]; exact (below_size (by repeat (first | (with_reducible first | exact HB.out | apply below_alloc | apply pw_below_drewN | apply below_drew1 | refine below_set ?_ GE114.out) | exact HB.out))) : w.heap.size ≤ gb119)); have n5_ := Aside0.mk ((by rw [hg]; exact (below_size (by repeat (first | (with_reducible first | exact HB.out | apply below_alloc | apply pw_below_drewN | apply below_drew1 | refine below_set ?_ GE114.out) | exact HB.out))) : w.heap.size ≤ gb119)); have n6_ := Aside0.mk ((by rw [hg]; exact Nat.ne_of_lt (blk_lt (g := gb114) (o := .cells #[.int .i64 0, .slice none 0 0] 30 (0, 0)) (by (with_reducible repeat (first | refine blk_drewN ?_ _ | refine blk_drew ?_ | refine blk_alloc ?_ _)); exact BK114.out)) : gb114 ≠ gb119)); have n7_ := Aside0.mk ((by rw [hg]; exact Nat.ne_of_gt (blk_lt (g := gb114) (o := .cells #[.int .i64 0, .slice none 0 0] 30 (0, 0)) (by (with_reducible repeat (first | refine blk_drewN ?_ _ | refine blk_drew ?_ | refine blk_alloc ?_ _)); exact BK114.out)) : gb119 ≠ gb114)); clear HO118; clear BK114; clear HB; have HO118 := n0_; have BK114 := n1_; have HB := n2_; have BK119 := n3_; have GW119 := n4_; have GE119 := n5_; have NB114_119 := n6_; have NB119_114 := n7_; clear n0_ n1_ n2_ n3_ n4_ n5_ n6_ n7_; clear hb hbox hg; have hnb7 := NB119_114.out; have hnc7 := NB114_119.out; have hcz8_0 : w6.cell? ⟨gb119, 0, none⟩ = some (.int .i64 0) := (blk_cell BK119.out 0).trans rfl; have hcz8_1 : w6.cell? ⟨gb119, 1, none⟩ = some (.slice none 0 0) := (blk_cell BK119.out 1).trans rfl; have hfz8_0 := blk_frozen BK119.out 0; have hfz8_1 := blk_frozen BK119.out 1; obtain ⟨Ao9, co9, eo9⟩ := Kd.R_slice HO118.out; subst eo9))
 go_loopg [12] k (fun kq v12 w' => ∃ (x12_1 : Int) (x120001_1 : List Int) (u120001 : Value), v12 = .int .i64 x12_1 ∧ Aside0 (bitset_Of.l0 kq l1 (l1.length : Int) x12_1 t115 x120001_1 = some (r1, r2)) ∧ Aside0 (kq ≤ k) ∧ Aside0 (Kd.R (Kd.int .u64) 53 w' w.heap.size (fun _ => True) u120001 x120001_1) ∧ Aside0 (w'.heap[gb114]? = some (.cells #[.int .i64 0, (.slice none 0 0)] 30 (0, 0))) ∧ Aside0 (w'.heap[gb119]? = some (.cells #[.int .i64 t115, u120001] 30 (0, 0))) ∧ Aside0 (Below w.heap.size w w'))
 case atStart => exact ⟨(0), (t116), (.slice Ao9 t116.length co9), (by first | rfl | (simp; done) | (simp [*]; done)), H', ⟨Nat.le_refl _⟩, ⟨by (with_reducible repeat (first | apply Kd.R_alloc | apply Kd.R_drewN | apply Kd.R_drew)); exact Kd.R_mono (Kd.R_far (p := ⟨gb119, 1, none⟩) (Kd.R_far (p := ⟨gb119, 0, none⟩) (Kd.R_types HO118.out BK119.out (by decide)) (fun _ hk => hk.2) (.int .i64 t115)) (fun _ hk => hk.2) (.slice Ao9 t116.length co9)) (fun _ hk => trivial)⟩, ⟨by (with_reducible repeat (first | refine blk_drewN ?_ _ | refine blk_drew ?_ | refine blk_alloc ?_ _)); refine blk_far ?_ NB114_119.out _; (with_reducible repeat (first | refine blk_drewN ?_ _ | refine blk_drew ?_ | refine blk_alloc ?_ _)); refine blk_far ?_ NB114_119.out _; (with_reducible repeat (first | refine blk_drewN ?_ _ | refine blk_drew ?_ | refine blk_alloc ?_ _)); exact BK114.out⟩, ⟨by (with_reducible repeat (first | refine blk_drewN ?_ _ | refine blk_drew ?_ | refine blk_alloc ?_ _)); refine blk_put (cs := #[.int .i64 t115, .slice none 0 0]) ?_ 1 _ rfl; (with_reducible repeat (first | refine blk_drewN ?_ _ | refine blk_drew ?_ | refine blk_alloc ?_ _)); refine blk_put (cs := #[.int .i64 0, .slice none 0 0]) ?_ 0 _ rfl; (with_reducible repeat (first | refine blk_drewN ?_ _ | refine blk_drew ?_ | refine blk_alloc ?_ _)); exact BK119.out⟩, ⟨by repeat (first | (with_reducible first | exact HB.out | apply below_alloc | apply pw_below_drewN | apply below_drew1 | refine below_set ?_ GE114.out | refine below_set ?_ GE119.out) | exact HB.out)⟩⟩
 case round =>
  clear H'
  try clear c1
  try clear c2
  try clear p2
  try clear c7
  try clear hcz8_0
  try clear hcz8_1
  try clear hfz8_0
  try clear hfz8_1
  obtain ⟨x12_1, x120001_1, u120001, rfl, HA, HK1, HO_120001, BK114, BK119, HB⟩ := hrel
  cases gk with
  | zero => exact absurd HA.out (by simp [bitset_Of.l0])
  | succ k1 =>
   have H := HA.out
   clear HA
   simp only [bitset_Of.l0] at H
   by_cases c10 : x12_1 < (l1.length : Int)
   ·rw [if_pos c10] at H
    have c10b0 : decide (x12_1 < (l1.length : Int)) = true := decide_eq_true c10
    clear c10
    by_cases c11 : 0 ≤ x12_1
    ·rw [if_pos c11] at H
     have c11b0 : decide (0 ≤ x12_1) = true := decide_eq_true c11
     clear c11
     by_cases c12 : x12_1 < (l1.length : Int)
     ·rw [if_pos c12] at H
      have c12b0 : decide (x12_1 < (l1.length : Int)) = true := decide_eq_true c12
      clear c12
      by_cases c13 : (rd l1 x12_1) ≥ 0
      ·rw [if_pos c13] at H
       have c13b0 : decide (0 ≤ (rd l1 x12_1)) = true := decide_eq_true c13
       clear c13
       by_cases c14 : (rd l1 x12_1) < t115
       ·rw [if_pos c14] at H
        have c14b0 : decide ((rd l1 x12_1) < t115) = true := decide_eq_true c14
        clear c14
        obtain ⟨ji15, hji15⟩ : ∃ j_ : Int, (wrap64 (Int.tdiv (rd l1 x12_1) 64)) = j_ := ⟨_, rfl⟩
        replace H : (if 0 ≤ (ji15) then (if (ji15) < (x120001_1.length : Int) then (if 0 ≤ (Int.tmod (rd l1 x12_1) 64) then (bitset_Of.l0 k1 l1 (l1.length : Int) (wrap64 (x12_1 + 1)) t115 (x120001_1.set ((ji15) : Int).toNat (Go.bits .or .u64 (rd x120001_1 (ji15)) (shl .u64 1 (Int.tmod (rd l1 x12_1) 64))))) else (none)) else (none)) else (none)) = some (r1, r2) := by first | (rw [hji15] at H; exact H) | (simp only [hji15] at H ⊢; exact H)
        have hji15w : (IntKind.i64.wrap (Int.tdiv (rd l1 x12_1) 64)) = ji15 := (i64_w _).trans hji15
        by_cases c16 : 0 ≤ (ji15)
        ·rw [if_pos c16] at H
         have c16b0 : decide (0 ≤ (ji15)) = true := decide_eq_true c16
         clear c16
         by_cases c17 : (ji15) < (x120001_1.length : Int)
         ·rw [if_pos c17] at H
          have c17b0 : decide ((ji15) < (x120001_1.length : Int)) = true := decide_eq_true c17
          clear c17
          obtain ⟨ji18, hji18⟩ : ∃ j_ : Int, (Int.tmod (rd l1 x12_1) 64) = j_ := ⟨_, rfl⟩
          replace H : (if 0 ≤ (ji18) then (bitset_Of.l0 k1 l1 (l1.length : Int) (wrap64 (x12_1 + 1)) t115 (x120001_1.set ((ji15) : Int).toNat (Go.bits .or .u64 (rd x120001_1 (ji15)) (shl .u64 1 (ji18))))) else (none)) = some (r1, r2) := by first | (rw [hji18] at H; exact H) | (simp only [hji18] at H ⊢; exact H)
          by_cases c19 : 0 ≤ (ji18)
          ·rw [if_pos c19] at H
           have c19b0 := eq_true c19
           have c19b1 : decide (0 ≤ (ji18)) = true := decide_eq_true c19
           clear c19
           obtain ⟨ji20, hji20⟩ : ∃ j_ : Int, (shl .u64 1 (ji18)) = j_ := ⟨_, rfl⟩
           replace H : (bitset_Of.l0 k1 l1 (l1.length : Int) (wrap64 (x12_1 + 1)) t115 (x120001_1.set ((ji15) : Int).toNat (Go.bits .or .u64 (rd x120001_1 (ji15)) (ji20)))) = some (r1, r2) := by first | (rw [hji20] at H; exact H) | (simp only [hji20] at H ⊢; exact H)
           have hji20_ : (IntKind.u64.wrap (1 * 2 ^ min (ji18).toNat 64)) = ji20 := hji20
           have hji20z : (ji18) ≤ 64 → (IntKind.u64.wrap (1 * 2 ^ (ji18).toNat)) = ji20 := shl_small hji20
           have hji20u : (IntKind.u64.wrap (2 ^ min (ji18).toNat 64)) = ji20 := by have h_ := hji20_; rw [Int.one_mul] at h_; exact h_
           have hji20v : (ji18) ≤ 64 → (IntKind.u64.wrap (2 ^ (ji18).toNat)) = ji20 := fun hle_ => by have h_ := hji20z hle_; rw [Int.one_mul] at h_; exact h_
           obtain ⟨y122, hy122⟩ : ∃ y_ : List Int, y_ = (x120001_1.set ((ji15) : Int).toNat (Go.bits .or .u64 (rd x120001_1 (ji15)) (ji20))) := ⟨_, rfl⟩
           replace H : (bitset_Of.l0 k1 l1 (l1.length : Int) (wrap64 (x12_1 + 1)) t115 y122) = some (r1, r2) := by first | (rw [hy122]; with_reducible exact H) | (have H2_ := (Option.bind_some _ _).symm.trans H; rw [hy122]; with_reducible exact H2_) | (have H2_ := (Option.bind_some _ _).symm.trans H; with_reducible exact H2_) | with_reducible exact H | (rw [hy122]; exact H) | exact H
           have Ny122 := Aside0.mk hy122
           clear hy122
           have H' := Aside0.mk H
           clear H
           have p120 : 0 ≤ (x12_1 : Int) := of_decide_eq_true (by first | (with_reducible assumption) | assumption)
           have q120 : x12_1 < (l1.length : Int) := of_decide_eq_true (by first | (with_reducible assumption) | assumption)
           obtain ⟨ad120, e120, hx120_0⟩ := Kd.at_int HR1.out x12_1 p120 q120
           cases e120
           replace hx120_0 := (HB.out.cell (World.block_lt_of_cell? w _ hx120_0)).trans hx120_0
           replace p120 := eq_true p120
           replace q120 := eq_true q120
           have hnb22 := NB119_114.out
           have hnc22 := NB114_119.out
           have hcz23_0 : wr.cell? ⟨gb119, 0, none⟩ = some (.int .i64 t115) := (blk_cell BK119.out 0).trans rfl
           have hcz23_1 : wr.cell? ⟨gb119, 1, none⟩ = some (u120001) := (blk_cell BK119.out 1).trans rfl
           have hfz23_0 := blk_frozen BK119.out 0
           have hfz23_1 := blk_frozen BK119.out 1
           try go_wp2
           have n0_ := Aside0.mk (Kd.R_drew HO_120001.out)
           have n1_ := Aside0.mk (blk_drew BK114.out)
           have n2_ := Aside0.mk (blk_drew BK119.out)
           have n3_ := Aside0.mk (below_drew1 HB.out)
           clear HO_120001
           clear BK114
           clear BK119
           clear HB
           have HO_120001 := n0_
           have BK114 := n1_
           have BK119 := n2_
           have HB := n3_
           clear n0_ n1_ n2_ n3_
           obtain ⟨Ao25, co25, eo25⟩ := Kd.R_slice HO_120001.out
           (first | subst eo25 | (injection eo25 with f1_ f2_ f3_; have f4_ := f1_.symm; have f5_ := f3_.symm; clear f1_ f2_ f3_; subst f4_; subst f5_))
           have p121 : 0 ≤ ((ji15) : Int) := of_decide_eq_true (by first | (with_reducible assumption) | assumption)
           have q121 : (ji15) < (x120001_1.length : Int) := of_decide_eq_true (by first | (with_reducible assumption) | assumption)
           obtain ⟨ad121, e121, hx121_0⟩ := Kd.at_int (Kd.R_reads' HO_120001.out).2.2 (ji15) p121 q121
           cases e121
           replace p121 := eq_true p121
           replace q121 := eq_true q121
           have p21 : 0 ≤ ((ji15) : Int) := of_decide_eq_true (by first | (with_reducible assumption) | assumption)
           have q21 : ((ji15) : Int) < ((x120001_1.length : Int) : Int) := of_decide_eq_true (by first | (with_reducible assumption) | assumption)
           obtain ⟨go21, co21, eo21, gb21, gl21, cl21, HG21⟩ := Kd.R_form HO_120001.out (by omega)
           (first | cases eo21 | (injection eo21 with ea_ en_ ec_; (first | subst ea_ | (injection ea_ with ea_; subst ea_)); subst ec_; clear en_))
           have GB21 := Aside0.mk gb21
           have GG21 := Aside0.mk HG21
           clear gb21 gl21 HG21
           (first | simp only [add_plain] at hx121_0 | skip)
           obtain ⟨hx21_0, hf21_0⟩ := Kd.R_celln 0 HO_120001.out ((ji15) : Int) p21 q21
           replace p21 := eq_true p21
           replace q21 := eq_true q21
           have HP26 := Kd.R_putn HO_120001.out ((ji15) : Int) (Go.bits .or .u64 (rd x120001_1 (ji15)) (ji20))
           rw [← Ny122.out] at HP26
           have HQ26 := Aside0.mk HP26
           clear HP26
           refine start_ (n := 12) (S := fun w' => w'.cell? ⟨gb119, 0, none⟩ = some (.int .i64 t115) ∧ w'.cell? ⟨gb119, 1, none⟩ = some (.slice (some ⟨go21, 0, none⟩) x120001_1.length co25) ∧ w'.cell? ⟨go21, ((ji15)).toNat, none⟩ = some (.int .u64 (rd x120001_1 (ji15)))) (ds := [11]) #[false, false, false, false, false, false, false, false, false, false, false, false] (by kernel_rfl) rfl rfl ⟨(blk_cell BK119.out 0).trans rfl, (blk_cell BK119.out 1).trans rfl, hx121_0⟩ (fun hHeld => ?_); refine with_tabW bitset_Of.tab6 bitset_Of.bits6 (fun HT_ HW_ => ?_)
           generalize wr.drew = w24 at HO_120001 BK114 BK119 HB GG21 HQ26 hf21_0 hx121_0 hx21_0 hHeld ⊢
           refine pure_ (i := 0) (N := some 24) (v := ?_) (a' := ?_) #[true, false, false, false, false, false, false, false, false, false, false, false] rfl rfl (any_of HT_.out (by kernel_rfl)) (fun _ _ _ h => h) (Or.inl ⟨by (first | rfl | (simp only [*]; rfl) | (simp [*]; done)), ?_⟩) ?_ ?_
           rotate_left
           ·intro w'
            go_simp
            with_reducible rfl
           rotate_left
           ·simp only [Act.put, List.setIfInBounds_toArray, List.set_cons_zero, List.set_cons_succ, i64_w, i32_w]
            rfl
           refine pure_ (i := 2) (N := some 26) (v := ?_) (a' := ?_) #[true, false, true, false, false, false, false, false, false, false, false, false] rfl rfl (any_of HT_.out (by kernel_rfl)) (fun _ _ _ h => h) (Or.inl ⟨by (first | rfl | (simp only [*]; rfl) | (simp [*]; done)), ?_⟩) ?_ ?_
           rotate_left
           ·intro w'
            go_simp
            with_reducible rfl
           rotate_left
           ·simp only [Act.put, List.setIfInBounds_toArray, List.set_cons_zero, List.set_cons_succ, i64_w, i32_w]
            rfl
           refine pure_ (i := 3) (N := some 27) (v := ?_) (a' := ?_) #[true, false, true, true, false, false, false, false, false, false, false, false] rfl rfl (any_of HT_.out (by kernel_rfl)) (fun _ _ _ h => h) (Or.inl ⟨by (first | rfl | (simp only [*]; rfl) | (simp [*]; done)), ?_⟩) ?_ ?_
           rotate_left
           ·intro w'
            go_simp
            with_reducible rfl
           rotate_left
           ·simp only [Act.put, List.setIfInBounds_toArray, List.set_cons_zero, List.set_cons_succ, i64_w, i32_w]
            rfl
           refine pure_ (i := 6) (N := some 30) (v := ?_) (a' := ?_) #[true, false, true, true, false, false, true, false, false, false, false, false] rfl rfl (any_of HT_.out (by kernel_rfl)) (fun _ _ _ h => h) (Or.inl ⟨by (first | rfl | (simp only [*]; rfl) | (simp [*]; done)), ?_⟩) ?_ ?_
           rotate_left
           ·intro w'
            go_simp
            with_reducible rfl
           rotate_left
           ·simp only [Act.put, List.setIfInBounds_toArray, List.set_cons_zero, List.set_cons_succ, i64_w, i32_w]
            rfl
           refine pure_ (i := 7) (N := some 31) (v := ?_) (a' := ?_) #[true, false, true, true, false, false, true, true, false, false, false, false] rfl rfl (any_of HT_.out (by kernel_rfl)) (fun _ _ _ h => h) (Or.inl ⟨by (first | rfl | (simp only [*]; rfl) | (simp [*]; done)), ?_⟩) ?_ ?_
           rotate_left
           ·intro w'
            go_simp
            with_reducible rfl
           rotate_left
           ·simp only [Act.put, List.setIfInBounds_toArray, List.set_cons_zero, List.set_cons_succ, i64_w, i32_w]
            rfl
           refine pure_ (i := 8) (N := some 32) (v := ?_) (a' := ?_) #[true, false, true, true, false, false, true, true, true, false, false, false] rfl rfl (any_of HT_.out (by kernel_rfl)) (fun _ _ _ h => h) (Or.inl ⟨by (first | rfl | (simp only [*]; rfl) | (simp [*]; done)), ?_⟩) ?_ ?_
           rotate_left
           ·intro w'
            go_simp
            with_reducible rfl
           rotate_left
           ·simp only [Act.put, List.setIfInBounds_toArray, List.set_cons_zero, List.set_cons_succ, i64_w, i32_w]
            rfl
           refine take_ (i := 1) (N := some 25) (v := ?_) (a' := ?_) #[true, true, true, true, false, false, true, true, true, false, false, false] rfl rfl (take_ofW HT_.out HW_.out (by kernel_rfl)) (fun _ _ _ h => h) (Or.inl ⟨by (first | rfl | (simp only [*]; rfl) | (simp [*]; done)), ?_⟩) hHeld ?_ ?_
           rotate_left
           ·rintro w' ⟨s0, s1, s2⟩
            go_simp
            with_reducible rfl
           rotate_left
           ·simp only [Act.put, List.setIfInBounds_toArray, List.set_cons_zero, List.set_cons_succ, i64_w, i32_w]
            rfl
           refine pure_ (i := 4) (N := some 28) (v := ?_) (a' := ?_) #[true, true, true, true, true, false, true, true, true, false, false, false] rfl rfl (any_of HT_.out (by kernel_rfl)) (fun _ _ _ h => h) (Or.inl ⟨by (first | rfl | (simp only [*]; rfl) | (simp [*]; done)), ?_⟩) ?_ ?_
           rotate_left
           ·intro w'
            go_simp
            with_reducible rfl
           rotate_left
           ·simp only [Act.put, List.setIfInBounds_toArray, List.set_cons_zero, List.set_cons_succ, i64_w, i32_w]
            rfl
           refine take_ (i := 5) (N := some 29) (v := ?_) (a' := ?_) #[true, true, true, true, true, true, true, true, true, false, false, false] rfl rfl (take_ofW HT_.out HW_.out (by kernel_rfl)) (fun _ _ _ h => h) (Or.inl ⟨by (first | rfl | (simp only [*]; rfl) | (simp [*]; done)), ?_⟩) hHeld ?_ ?_
           rotate_left
           ·rintro w' ⟨s0, s1, s2⟩
            go_simp
            with_reducible rfl
           rotate_left
           ·simp only [Act.put, List.setIfInBounds_toArray, List.set_cons_zero, List.set_cons_succ, i64_w, i32_w]
            rfl
           refine pure_ (i := 9) (N := some 33) (v := ?_) (a' := ?_) #[true, true, true, true, true, true, true, true, true, true, false, false] rfl rfl (any_of HT_.out (by kernel_rfl)) (fun _ _ _ h => h) (Or.inl ⟨by (first | rfl | (simp only [*]; rfl) | (simp [*]; done)), ?_⟩) ?_ ?_
           rotate_left
           ·intro w'
            go_simp
            with_reducible rfl
           rotate_left
           ·simp only [Act.put, List.setIfInBounds_toArray, List.set_cons_zero, List.set_cons_succ, i64_w, i32_w]
            rfl
           refine pure_ (i := 10) (N := some 34) (v := ?_) (a' := ?_) #[true, true, true, true, true, true, true, true, true, true, true, false] rfl rfl (any_of HT_.out (by kernel_rfl)) (fun _ _ _ h => h) (Or.inl ⟨by (first | rfl | (simp only [*]; rfl) | (simp [*]; done)), ?_⟩) ?_ ?_
           rotate_left
           ·intro w'
            go_simp
            with_reducible rfl
           rotate_left
           ·simp only [Act.put, List.setIfInBounds_toArray, List.set_cons_zero, List.set_cons_succ, i64_w, i32_w]
            rfl
           refine last_ (i := 11) (N := none) #[true, true, true, true, true, true, true, true, true, true, true, true] rfl rfl (one_of HT_.out (by kernel_rfl)) (by decide) (fun K hK => ?_)
           refine skip_ (w1 := ?_) (by rfl) rfl ?_ ?_
           rotate_left
           ·go_simp
            rfl
           refine hK.out _ _ ?_
           clear hK K
           refine done_ (done_of HT_.out (by kernel_rfl)) ?_
           try go_wp2
           go_roundg k1
           case measure => have := HK1.out; omega
           case rel => exact ⟨(wrap64 (x12_1 + 1)), (y122), (.slice (some ⟨go21, 0, none⟩) x120001_1.length co25), (by first | rfl | (simp; done) | (simp [*]; done)), H', ⟨by have := HK1.out; omega⟩, ⟨by (with_reducible repeat (first | apply Kd.R_alloc | apply Kd.R_drewN | apply Kd.R_drew)); exact HQ26.out⟩, ⟨by (with_reducible repeat (first | refine blk_drewN ?_ _ | refine blk_drew ?_ | refine blk_alloc ?_ _)); refine blk_far ?_ (by have h_ := Kd.R_ne HO_120001.out BK114.out (by decide); intro e_; exact h_ (by rw [e_]; rfl)) _; (with_reducible repeat (first | refine blk_drewN ?_ _ | refine blk_drew ?_ | refine blk_alloc ?_ _)); exact BK114.out⟩, ⟨by (with_reducible repeat (first | refine blk_drewN ?_ _ | refine blk_drew ?_ | refine blk_alloc ?_ _)); refine blk_far ?_ (by have h_ := Kd.R_ne HO_120001.out BK119.out (by decide); intro e_; exact h_ (by rw [e_]; rfl)) _; (with_reducible repeat (first | refine blk_drewN ?_ _ | refine blk_drew ?_ | refine blk_alloc ?_ _)); exact BK119.out⟩, ⟨by repeat (first | (with_reducible first | exact HB.out | apply below_alloc | apply pw_below_drewN | apply below_drew1 | refine below_set ?_ GB21.out | refine below_set ?_ GE114.out | refine below_set ?_ GE119.out) | exact HB.out)⟩⟩
          ·rw [if_neg c19] at H
           exact absurd H (by simp)
         ·rw [if_neg c17] at H
          exact absurd H (by simp)
        ·rw [if_neg c16] at H
         exact absurd H (by simp)
       ·rw [if_neg c14] at H
        have c14b0 : decide ((rd l1 x12_1) < t115) = false := decide_eq_false c14
        clear c14
        have H' := Aside0.mk H
        clear H
        have p120 : 0 ≤ (x12_1 : Int) := of_decide_eq_true (by first | (with_reducible assumption) | assumption)
        have q120 : x12_1 < (l1.length : Int) := of_decide_eq_true (by first | (with_reducible assumption) | assumption)
        obtain ⟨ad120, e120, hx120_0⟩ := Kd.at_int HR1.out x12_1 p120 q120
        cases e120
        replace hx120_0 := (HB.out.cell (World.block_lt_of_cell? w _ hx120_0)).trans hx120_0
        replace p120 := eq_true p120
        replace q120 := eq_true q120
        have hnb27 := NB119_114.out
        have hnc27 := NB114_119.out
        have hcz28_0 : wr.cell? ⟨gb119, 0, none⟩ = some (.int .i64 t115) := (blk_cell BK119.out 0).trans rfl
        have hcz28_1 : wr.cell? ⟨gb119, 1, none⟩ = some (u120001) := (blk_cell BK119.out 1).trans rfl
        have hfz28_0 := blk_frozen BK119.out 0
        have hfz28_1 := blk_frozen BK119.out 1
        go_wp2
        go_roundg k1
        case measure => have := HK1.out; omega
        case rel => exact ⟨(wrap64 (x12_1 + 1)), (x120001_1), (u120001), (by first | rfl | (simp; done) | (simp [*]; done)), H', ⟨by have := HK1.out; omega⟩, ⟨by (with_reducible repeat (first | apply Kd.R_alloc | apply Kd.R_drewN | apply Kd.R_drew)); exact HO_120001.out⟩, ⟨by (with_reducible repeat (first | refine blk_drewN ?_ _ | refine blk_drew ?_ | refine blk_alloc ?_ _)); exact BK114.out⟩, ⟨by (with_reducible repeat (first | refine blk_drewN ?_ _ | refine blk_drew ?_ | refine blk_alloc ?_ _)); exact BK119.out⟩, ⟨by repeat (first | (with_reducible first | exact HB.out | apply below_alloc | apply pw_below_drewN | apply below_drew1 | refine below_set ?_ GE114.out | refine below_set ?_ GE119.out) | exact HB.out)⟩⟩
      ·rw [if_neg c13] at H
       have c13b0 : decide (0 ≤ (rd l1 x12_1)) = false := decide_eq_false c13
       clear c13
       have H' := Aside0.mk H
       clear H
       have p120 : 0 ≤ (x12_1 : Int) := of_decide_eq_true (by first | (with_reducible assumption) | assumption)
       have q120 : x12_1 < (l1.length : Int) := of_decide_eq_true (by first | (with_reducible assumption) | assumption)
       obtain ⟨ad120, e120, hx120_0⟩ := Kd.at_int HR1.out x12_1 p120 q120
       cases e120
       replace hx120_0 := (HB.out.cell (World.block_lt_of_cell? w _ hx120_0)).trans hx120_0
       replace p120 := eq_true p120
       replace q120 := eq_true q120
       go_wp2
       go_roundg k1
       case measure => have := HK1.out; omega
       case rel => exact ⟨(wrap64 (x12_1 + 1)), (x120001_1), (u120001), (by first | rfl | (simp; done) | (simp [*]; done)), H', ⟨by have := HK1.out; omega⟩, ⟨by (with_reducible repeat (first | apply Kd.R_alloc | apply Kd.R_drewN | apply Kd.R_drew)); exact HO_120001.out⟩, ⟨by (with_reducible repeat (first | refine blk_drewN ?_ _ | refine blk_drew ?_ | refine blk_alloc ?_ _)); exact BK114.out⟩, ⟨by (with_reducible repeat (first | refine blk_drewN ?_ _ | refine blk_drew ?_ | refine blk_alloc ?_ _)); exact BK119.out⟩, ⟨by repeat (first | (with_reducible first | exact HB.out | apply below_alloc | apply pw_below_drewN | apply below_drew1 | refine below_set ?_ GE114.out | refine below_set ?_ GE119.out) | exact HB.out)⟩⟩
     ·rw [if_neg c12] at H
      exact absurd H (by simp)
    ·rw [if_neg c11] at H
     exact absurd H (by simp)
   ·rw [if_neg c10] at H
    have c10b0 : decide (x12_1 < (l1.length : Int)) = false := decide_eq_false c10
    clear c10
    simp only [Option.some.injEq, Prod.mk.injEq] at H
    obtain ⟨rfl, rfl⟩ := H
    have hnb29 := NB119_114.out
    have hnc29 := NB114_119.out
    have hcz30_0 : wr.cell? ⟨gb119, 0, none⟩ = some (.int .i64 t115) := (blk_cell BK119.out 0).trans rfl
    have hcz30_1 : wr.cell? ⟨gb119, 1, none⟩ = some (u120001) := (blk_cell BK119.out 1).trans rfl
    have hfz30_0 := blk_frozen BK119.out 0
    have hfz30_1 := blk_frozen BK119.out 1
    have hcz31_0 : wr.cell? ⟨gb114, 0, none⟩ = some (.int .i64 0) := (blk_cell BK114.out 0).trans rfl
    have hcz31_1 : wr.cell? ⟨gb114, 1, none⟩ = some (.slice none 0 0) := (blk_cell BK114.out 1).trans rfl
    have hfz31_0 := blk_frozen BK114.out 0
    have hfz31_1 := blk_frozen BK114.out 1
    obtain ⟨Ao32, co32, eo32⟩ := Kd.R_slice HO_120001.out
    subst eo32
    go_wp2
    refine bodyPost_ret (results_cell_row rfl _ _ gb114 30 #[.int .i64 t115, .slice Ao32 x120001_1.length co32] (0, 0) _ rfl (by (with_reducible repeat (first | refine blk_drewN ?_ _ | refine blk_drew ?_ | refine blk_alloc ?_ _)); refine blk_put (cs := #[.int .i64 t115, .slice none 0 0]) ?_ 1 _ rfl; (with_reducible repeat (first | refine blk_drewN ?_ _ | refine blk_drew ?_ | refine blk_alloc ?_ _)); refine blk_put (cs := #[.int .i64 0, .slice none 0 0]) ?_ 0 _ rfl; (with_reducible repeat (first | refine blk_drewN ?_ _ | refine blk_drew ?_ | refine blk_alloc ?_ _)); exact BK114.out) Try.underlying30 rfl (by kernel_rfl)) rfl ?_
    exact ⟨_, by first | rfl | (simp [errW_none, errW_some] <;> rfl) | (simp [*, errW_none, errW_some] <;> rfl), by (with_reducible repeat (first | apply Kd.R_alloc | apply Kd.R_drewN | apply Kd.R_drew)); exact Kd.R_mono (Kd.R_far (p := ⟨gb114, 1, none⟩) (Kd.R_far (p := ⟨gb114, 0, none⟩) (Kd.R_types HO_120001.out BK114.out (by decide)) (fun _ hk => hk.2) (.int .i64 t115)) (fun _ hk => hk.2) (.slice Ao32 x120001_1.length co32)) (fun _ hk => trivial), by repeat (first | (with_reducible first | exact HB.out | apply below_alloc | apply pw_below_drewN | apply below_drew1 | refine below_set ?_ GE114.out | refine below_set ?_ GE119.out) | exact HB.out)⟩

end Go.Proofs.Ytjeheopcohnkeaa.QBloomRoundTrip
