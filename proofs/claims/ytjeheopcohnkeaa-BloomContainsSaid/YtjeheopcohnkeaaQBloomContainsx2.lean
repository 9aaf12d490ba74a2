-- Written by a program of this session (wip/pr2.sh): the walk of the Go text, function by function.
import Derived.Test.YtjeheopcohnkeaaQBloomContainsx0
import Derived.Test.YtjeheopcohnkeaaQBloomContainsx1
namespace Go.Proofs.Ytjeheopcohnkeaa.QBloomContains
open Go.RowKit Go.Proofs.YtjeheopcohnkeaaW.PrintWords Go.Proofs.YtjeheopcohnkeaaW.PrintLast Go.Proofs.YtjeheopcohnkeaaW.PrintMore
open Go.Proofs.YtjeheopcohnkeaaM
attribute [local go_sem] max2_int min2_int max_two min_two max_three min_three max_four min_four   -- for this text's walks alone
set_option linter.unusedVariables false
set_option linter.unusedSimpArgs false

/-! ### value_Hash: function 52 -/
def vhI (h : Int) (v : S24) : Option Int :=
  if v.f0 = 0 then checksum_Mix.f (Go.bits .xor .u64 h 1)
  else if v.f0 = 1 then (checksum_Mix.f (Go.bits .xor .u64 h 2)).bind fun m => checksum_Mix.f (Go.bits .xor .u64 m (IntKind.u64.wrap v.f1))
  else if v.f0 = 2 then (checksum_Mix.f (Go.bits .xor .u64 h 3)).bind fun m => checksum_Mix.f (Go.bits .xor .u64 m (IntKind.u64.wrap v.f1))
  else if v.f0 = 3 then (if v.f2.size ≤ 1000000000 then (checksum_Mix.f (Go.bits .xor .u64 h 4)).bind fun m => checksum_Hash.f m (bytesOf v.f2) else none)
  else some h
def vhL : List S24 → Int → Option Int
  | [], h => some h
  | v :: l, h => (vhI h v).bind (vhL l)
def value_Hash.f (a0 : Int) (l1 : List S24) : Option Int := (checksum_Mix.f a0).bind (vhL l1)
set_option maxHeartbeats 4000000 in
set_option maxRecDepth 100000 in
theorem value_Hash.calls (a0 : Int) (A1 : Option Addr) (c1 : Nat) (l1 : List S24) (r : Int) (w : World) (hr1 : Kd.C k24 w A1 l1.length l1) (hc1 : l1.length ≤ c1) (h : value_Hash.f a0 l1 = some r) :
    Calls Try.prog 52 #[.int .u64 a0, .slice A1 l1.length c1] w fun e w' => e = .returned (.int .u64 r) ∧ Below w.heap.size w w' := by
  unfold value_Hash.f at h
  replace h := Option.bind_eq_some_iff.mp h
  obtain ⟨h0, hM, h⟩ := h
  have HM := Aside0.mk hM
  have HS := Aside0.mk h
  have HR := Aside0.mk hr1
  have hmx := Kd.C_max hr1
  clear hr1 hM h
  go_enter Try.func52, Try.ntmps52
  go_wp2_with (go_at_call 57; (with_reducible refine (checksum_Mix.calls _ _ _ HM.out).mono ?_); rintro e w1 ⟨rfl, ⟨nd1, rfl⟩⟩)
  go_loopw [5, 12] (fun v5 v12 wr => ∃ (k : Nat) (h : Int), k ≤ l1.length ∧ Aside0 (vhL (l1.drop k) h = some r) ∧ v5 = .int .u64 h ∧ v12 = .int .i64 (k : Int) ∧ Below w.heap.size w wr) (fun _ v12 _ => l1.length - (intOf v12).toNat)
  case atStart => exact ⟨0, _, by omega, ⟨by simpa using HS.out⟩, rfl, rfl, pw_below_drewN (Below.refl _ _) _⟩
  case round =>
    obtain ⟨k, h, hk, hh, rfl, rfl, hB⟩ := hrel
    by_cases hlt : k < l1.length
    · have hlt' : (k : Int) < (l1.length : Int) := by omega
      have hkp : (0 : Int) ≤ (k : Int) := Int.natCast_nonneg k
      obtain ⟨ad, hA1, c0, c1_, c2⟩ := at_T24 (Kd.C_below HR.out hB) (k : Int) hkp hlt'
      subst hA1
      obtain ⟨x, hx⟩ : ∃ x, x = rd_T24 l1 (k : Int) := ⟨_, rfl⟩
      rw [← hx] at c0 c1_ c2
      rw [Int.toNat_natCast] at c0 c1_ c2
      have hdrop : l1.drop k = x :: l1.drop (k + 1) := by
        rw [List.drop_eq_getElem_cons hlt, hx]
        unfold rd_T24
        rw [Int.toNat_natCast, List.getD_eq_getElem?_getD, List.getElem?_eq_getElem hlt]
        rfl
      have hh1 := hh.out
      rw [hdrop] at hh1
      simp only [vhL] at hh1
      replace hh1 := Option.bind_eq_some_iff.mp hh1
      obtain ⟨h2, hv, hh2⟩ := hh1
      have HH := Aside0.mk hh2
      have ewk : IntKind.i64.wrap ((k : Int) + 1) = ((k + 1 : Nat) : Int) := by rw [IntWalk.i64_in _ (by omega)]; omega
      clear hh hh2 hdrop hx
      unfold vhI at hv
      by_cases z0 : x.f0 = 0
      · rw [if_pos z0] at hv
        have e0 : (x.f0 == 0) = true := by simpa using z0
        have HV := Aside0.mk hv
        clear hv z0
        go_wp2_with (go_at_call 57; (with_reducible refine (checksum_Mix.calls _ _ _ HV.out).mono ?_); rintro e w1 ⟨rfl, ⟨nd2, rfl⟩⟩)
        go_roundw
        case rel => exact ⟨k + 1, h2, by omega, HH, rfl, by simp, pw_below_drewN (below_alloc hB _) _⟩
        case measure => simp [intOf]; omega
      rw [if_neg z0] at hv
      have n0 : (x.f0 == 0) = false := by simpa using z0
      by_cases z1 : x.f0 = 1
      · have e1 : (x.f0 == 1) = true := by simpa using z1
        rw [if_pos z1] at hv
        replace hv := Option.bind_eq_some_iff.mp hv
        obtain ⟨m, hm, hv⟩ := hv
        have HM1 := Aside0.mk hm
        have HV := Aside0.mk hv
        clear hv hm z1
        try go_wp2
        have hA0 : (wr.alloc (.cells #[.int .i64 x.f0, .int .i64 x.f1, .string x.f2] 24)).heap[wr.heap.size]? = some (.cells #[.int .i64 x.f0, .int .i64 x.f1, .string x.f2] 24 (0, 0)) := blk_new wr _
        have hB2 : Below w.heap.size w (wr.alloc (.cells #[.int .i64 x.f0, .int .i64 x.f1, .string x.f2] 24)) := below_alloc hB _
        generalize (wr.alloc (.cells #[.int .i64 x.f0, .int .i64 x.f1, .string x.f2] 24)) = W1 at hA0 hB2 ⊢
        refine start_ (n := 9) (S := fun w' => w'.cell? ⟨wr.heap.size, 1, none⟩ = some (.int .i64 x.f1)) (ds := []) #[false, false, false, false, false, false, false, false, false] (by kernel_rfl) rfl rfl ((blk_cell hA0 1).trans rfl) (fun hHeld => ?_)
        have hA1 : W1.drew.heap[wr.heap.size]? = some (.cells #[.int .i64 x.f0, .int .i64 x.f1, .string x.f2] 24 (0, 0)) := hA0
        have hB3 : Below w.heap.size w W1.drew := below_drew1 hB2
        clear hA0 hB2
        generalize W1.drew = W2 at hA1 hB3 hHeld ⊢
        refine pure_ (i := 0) (N := some 25) (v := ?_) (a' := ?_) #[true, false, false, false, false, false, false, false, false] rfl rfl (by kernel_rfl) (fun _ _ _ h => h) (Or.inl ⟨by (first | rfl | (simp only [*]; rfl) | (simp [*]; done)), ?_⟩) ?_ ?_
        rotate_left
        · intro w'
          go_simp
          with_reducible rfl
        rotate_left
        · simp only [Act.put, List.setIfInBounds_toArray, List.set_cons_zero, List.set_cons_succ]
          rfl
        refine pure_ (i := 1) (N := some 26) (v := ?_) (a' := ?_) #[true, true, false, false, false, false, false, false, false] rfl rfl (by kernel_rfl) (fun _ _ _ h => h) (Or.inl ⟨by (first | rfl | (simp only [*]; rfl) | (simp [*]; done)), ?_⟩) ?_ ?_
        rotate_left
        · intro w'
          go_simp
          with_reducible rfl
        rotate_left
        · simp only [Act.put, List.setIfInBounds_toArray, List.set_cons_zero, List.set_cons_succ]
          rfl
        refine pure_ (i := 3) (N := some 28) (v := ?_) (a' := ?_) #[true, true, false, true, false, false, false, false, false] rfl rfl (by kernel_rfl) (fun _ _ _ h => h) (Or.inl ⟨by (first | rfl | (simp only [*]; rfl) | (simp [*]; done)), ?_⟩) ?_ ?_
        rotate_left
        · intro w'
          go_simp
          with_reducible rfl
        rotate_left
        · simp only [Act.put, List.setIfInBounds_toArray, List.set_cons_zero, List.set_cons_succ]
          rfl
        refine take_ (i := 4) (N := some 29) (v := ?_) (a' := ?_) #[true, true, false, true, true, false, false, false, false] rfl rfl (by kernel_rfl) (fun _ _ _ h => h) (Or.inl ⟨by (first | rfl | (simp only [*]; rfl) | (simp [*]; done)), ?_⟩) hHeld ?_ ?_
        rotate_left
        · intro w' s0
          go_simp
          with_reducible rfl
        rotate_left
        · simp only [Act.put, List.setIfInBounds_toArray, List.set_cons_zero, List.set_cons_succ]
          rfl
        refine pure_ (i := 5) (N := some 30) (v := ?_) (a' := ?_) #[true, true, false, true, true, true, false, false, false] rfl rfl (by kernel_rfl) (fun _ _ _ h => h) (Or.inl ⟨by (first | rfl | (simp only [*]; rfl) | (simp [*]; done)), ?_⟩) ?_ ?_
        rotate_left
        · intro w'
          go_simp
          with_reducible rfl
        rotate_left
        · simp only [Act.put, List.setIfInBounds_toArray, List.set_cons_zero, List.set_cons_succ]
          rfl
        refine one_ (i := 2) (N := some 27) #[true, true, true, true, true, true, false, false, false] rfl rfl (by kernel_rfl) (by decide) (fun K hK => ?_)
        refine goes_ Try.func57 (by kernel_rfl) rfl #[.int .u64 (Go.bits .xor .u64 h 2)] (by (first | rfl | (simp only [*]; rfl) | (simp [*]; done))) rfl rfl (by simp [Act.eval]) ?_
        (with_reducible refine (checksum_Mix.calls _ m _ HM1.out).mono ?_)
        rintro e W3 ⟨rfl, hd⟩
        refine ⟨_, rfl, ?_⟩
        replace hB3 := below_step hB3 hd.below
        replace hA1 := blk_below hA1 hd.below
        refine hK.out _ _ ((blk_cell hA1 1).trans rfl) (fun hHeld => ?_)
        clear hK K
        refine norm_ (a' := ?_) ?_ ?_
        rotate_left
        · show Act.put _ (some 27) _ = _
          simp only [Act.put, List.setIfInBounds_toArray, List.set_cons_zero, List.set_cons_succ]
          rfl
        refine pure_ (i := 6) (N := some 31) (v := ?_) (a' := ?_) #[true, true, true, true, true, true, true, false, false] rfl rfl (by kernel_rfl) (fun _ _ _ h => h) (Or.inl ⟨by (first | rfl | (simp only [*]; rfl) | (simp [*]; done)), ?_⟩) ?_ ?_
        rotate_left
        · intro w'
          go_simp
          with_reducible rfl
        rotate_left
        · simp only [Act.put, List.setIfInBounds_toArray, List.set_cons_zero, List.set_cons_succ]
          rfl
        refine one_ (i := 7) (N := some 32) #[true, true, true, true, true, true, true, true, false] rfl rfl (by kernel_rfl) (by decide) (fun K hK => ?_)
        refine goes_ Try.func57 (by kernel_rfl) rfl #[.int .u64 (Go.bits .xor .u64 m (IntKind.u64.wrap x.f1))] (by (first | rfl | (simp only [*]; rfl) | (simp [*]; done))) rfl rfl (by simp [Act.eval]) ?_
        (with_reducible refine (checksum_Mix.calls _ h2 _ HV.out).mono ?_)
        rintro e W4 ⟨rfl, hd2⟩
        refine ⟨_, rfl, ?_⟩
        replace hB3 := below_step hB3 hd2.below
        replace hA1 := blk_below hA1 hd2.below
        refine hK.out _ _ ((blk_cell hA1 1).trans rfl) (fun hHeld => ?_)
        clear hK K
        refine norm_ (a' := ?_) ?_ ?_
        rotate_left
        · show Act.put _ (some 32) _ = _
          simp only [Act.put, List.setIfInBounds_toArray, List.set_cons_zero, List.set_cons_succ]
          rfl
        refine pure_ (i := 8) (N := some 5) (v := ?_) (a' := ?_) #[true, true, true, true, true, true, true, true, true] rfl rfl (by kernel_rfl) (fun _ _ _ h => h) (Or.inl ⟨by (first | rfl | (simp only [*]; rfl) | (simp [*]; done)), ?_⟩) ?_ ?_
        rotate_left
        · intro w'
          go_simp
          with_reducible rfl
        rotate_left
        · simp only [Act.put, List.setIfInBounds_toArray, List.set_cons_zero, List.set_cons_succ]
          rfl
        refine done_ (by kernel_rfl) ?_
        try go_wp2
        go_roundw
        case rel => exact ⟨k + 1, h2, by omega, HH, rfl, by simp, hB3⟩
        case measure => simp [intOf]; omega
      rw [if_neg z1] at hv
      have n1 : (x.f0 == 1) = false := by simpa using z1
      by_cases z2 : x.f0 = 2
      · have e2 : (x.f0 == 2) = true := by simpa using z2
        rw [if_pos z2] at hv
        replace hv := Option.bind_eq_some_iff.mp hv
        obtain ⟨m, hm, hv⟩ := hv
        have HM1 := Aside0.mk hm
        have HV := Aside0.mk hv
        clear hv hm z2
        try go_wp2
        have hA0 : (wr.alloc (.cells #[.int .i64 x.f0, .int .i64 x.f1, .string x.f2] 24)).heap[wr.heap.size]? = some (.cells #[.int .i64 x.f0, .int .i64 x.f1, .string x.f2] 24 (0, 0)) := blk_new wr _
        have hB2 : Below w.heap.size w (wr.alloc (.cells #[.int .i64 x.f0, .int .i64 x.f1, .string x.f2] 24)) := below_alloc hB _
        generalize (wr.alloc (.cells #[.int .i64 x.f0, .int .i64 x.f1, .string x.f2] 24)) = W1 at hA0 hB2 ⊢
        refine start_ (n := 9) (S := fun w' => w'.cell? ⟨wr.heap.size, 1, none⟩ = some (.int .i64 x.f1)) (ds := []) #[false, false, false, false, false, false, false, false, false] (by kernel_rfl) rfl rfl ((blk_cell hA0 1).trans rfl) (fun hHeld => ?_)
        have hA1 : W1.drew.heap[wr.heap.size]? = some (.cells #[.int .i64 x.f0, .int .i64 x.f1, .string x.f2] 24 (0, 0)) := hA0
        have hB3 : Below w.heap.size w W1.drew := below_drew1 hB2
        clear hA0 hB2
        generalize W1.drew = W2 at hA1 hB3 hHeld ⊢
        refine pure_ (i := 0) (N := some 35) (v := ?_) (a' := ?_) #[true, false, false, false, false, false, false, false, false] rfl rfl (by kernel_rfl) (fun _ _ _ h => h) (Or.inl ⟨by (first | rfl | (simp only [*]; rfl) | (simp [*]; done)), ?_⟩) ?_ ?_
        rotate_left
        · intro w'
          go_simp
          with_reducible rfl
        rotate_left
        · simp only [Act.put, List.setIfInBounds_toArray, List.set_cons_zero, List.set_cons_succ]
          rfl
        refine pure_ (i := 1) (N := some 36) (v := ?_) (a' := ?_) #[true, true, false, false, false, false, false, false, false] rfl rfl (by kernel_rfl) (fun _ _ _ h => h) (Or.inl ⟨by (first | rfl | (simp only [*]; rfl) | (simp [*]; done)), ?_⟩) ?_ ?_
        rotate_left
        · intro w'
          go_simp
          with_reducible rfl
        rotate_left
        · simp only [Act.put, List.setIfInBounds_toArray, List.set_cons_zero, List.set_cons_succ]
          rfl
        refine pure_ (i := 3) (N := some 38) (v := ?_) (a' := ?_) #[true, true, false, true, false, false, false, false, false] rfl rfl (by kernel_rfl) (fun _ _ _ h => h) (Or.inl ⟨by (first | rfl | (simp only [*]; rfl) | (simp [*]; done)), ?_⟩) ?_ ?_
        rotate_left
        · intro w'
          go_simp
          with_reducible rfl
        rotate_left
        · simp only [Act.put, List.setIfInBounds_toArray, List.set_cons_zero, List.set_cons_succ]
          rfl
        refine take_ (i := 4) (N := some 39) (v := ?_) (a' := ?_) #[true, true, false, true, true, false, false, false, false] rfl rfl (by kernel_rfl) (fun _ _ _ h => h) (Or.inl ⟨by (first | rfl | (simp only [*]; rfl) | (simp [*]; done)), ?_⟩) hHeld ?_ ?_
        rotate_left
        · intro w' s0
          go_simp
          with_reducible rfl
        rotate_left
        · simp only [Act.put, List.setIfInBounds_toArray, List.set_cons_zero, List.set_cons_succ]
          rfl
        refine pure_ (i := 5) (N := some 40) (v := ?_) (a' := ?_) #[true, true, false, true, true, true, false, false, false] rfl rfl (by kernel_rfl) (fun _ _ _ h => h) (Or.inl ⟨by (first | rfl | (simp only [*]; rfl) | (simp [*]; done)), ?_⟩) ?_ ?_
        rotate_left
        · intro w'
          go_simp
          with_reducible rfl
        rotate_left
        · simp only [Act.put, List.setIfInBounds_toArray, List.set_cons_zero, List.set_cons_succ]
          rfl
        refine one_ (i := 2) (N := some 37) #[true, true, true, true, true, true, false, false, false] rfl rfl (by kernel_rfl) (by decide) (fun K hK => ?_)
        refine goes_ Try.func57 (by kernel_rfl) rfl #[.int .u64 (Go.bits .xor .u64 h 3)] (by (first | rfl | (simp only [*]; rfl) | (simp [*]; done))) rfl rfl (by simp [Act.eval]) ?_
        (with_reducible refine (checksum_Mix.calls _ m _ HM1.out).mono ?_)
        rintro e W3 ⟨rfl, hd⟩
        refine ⟨_, rfl, ?_⟩
        replace hB3 := below_step hB3 hd.below
        replace hA1 := blk_below hA1 hd.below
        refine hK.out _ _ ((blk_cell hA1 1).trans rfl) (fun hHeld => ?_)
        clear hK K
        refine norm_ (a' := ?_) ?_ ?_
        rotate_left
        · show Act.put _ (some 37) _ = _
          simp only [Act.put, List.setIfInBounds_toArray, List.set_cons_zero, List.set_cons_succ]
          rfl
        refine pure_ (i := 6) (N := some 41) (v := ?_) (a' := ?_) #[true, true, true, true, true, true, true, false, false] rfl rfl (by kernel_rfl) (fun _ _ _ h => h) (Or.inl ⟨by (first | rfl | (simp only [*]; rfl) | (simp [*]; done)), ?_⟩) ?_ ?_
        rotate_left
        · intro w'
          go_simp
          with_reducible rfl
        rotate_left
        · simp only [Act.put, List.setIfInBounds_toArray, List.set_cons_zero, List.set_cons_succ]
          rfl
        refine one_ (i := 7) (N := some 42) #[true, true, true, true, true, true, true, true, false] rfl rfl (by kernel_rfl) (by decide) (fun K hK => ?_)
        refine goes_ Try.func57 (by kernel_rfl) rfl #[.int .u64 (Go.bits .xor .u64 m (IntKind.u64.wrap x.f1))] (by (first | rfl | (simp only [*]; rfl) | (simp [*]; done))) rfl rfl (by simp [Act.eval]) ?_
        (with_reducible refine (checksum_Mix.calls _ h2 _ HV.out).mono ?_)
        rintro e W4 ⟨rfl, hd2⟩
        refine ⟨_, rfl, ?_⟩
        replace hB3 := below_step hB3 hd2.below
        replace hA1 := blk_below hA1 hd2.below
        refine hK.out _ _ ((blk_cell hA1 1).trans rfl) (fun hHeld => ?_)
        clear hK K
        refine norm_ (a' := ?_) ?_ ?_
        rotate_left
        · show Act.put _ (some 42) _ = _
          simp only [Act.put, List.setIfInBounds_toArray, List.set_cons_zero, List.set_cons_succ]
          rfl
        refine pure_ (i := 8) (N := some 5) (v := ?_) (a' := ?_) #[true, true, true, true, true, true, true, true, true] rfl rfl (by kernel_rfl) (fun _ _ _ h => h) (Or.inl ⟨by (first | rfl | (simp only [*]; rfl) | (simp [*]; done)), ?_⟩) ?_ ?_
        rotate_left
        · intro w'
          go_simp
          with_reducible rfl
        rotate_left
        · simp only [Act.put, List.setIfInBounds_toArray, List.set_cons_zero, List.set_cons_succ]
          rfl
        refine done_ (by kernel_rfl) ?_
        try go_wp2
        go_roundw
        case rel => exact ⟨k + 1, h2, by omega, HH, rfl, by simp, hB3⟩
        case measure => simp [intOf]; omega
      rw [if_neg z2] at hv
      have n2 : (x.f0 == 2) = false := by simpa using z2
      by_cases z3 : x.f0 = 3
      · have e3 : (x.f0 == 3) = true := by simpa using z3
        rw [if_pos z3] at hv
        by_cases hsz : x.f2.size ≤ 1000000000
        case neg => rw [if_neg hsz] at hv; cases hv
        rw [if_pos hsz] at hv
        replace hv := Option.bind_eq_some_iff.mp hv
        obtain ⟨m, hm, hv⟩ := hv
        have HM1 := Aside0.mk hm
        have HV := Aside0.mk hv
        have HZ := Aside0.mk hsz
        clear hv hm z3 hsz
        try go_wp2
        have hA0 : (wr.alloc (.cells #[.int .i64 x.f0, .int .i64 x.f1, .string x.f2] 24)).heap[wr.heap.size]? = some (.cells #[.int .i64 x.f0, .int .i64 x.f1, .string x.f2] 24 (0, 0)) := blk_new wr _
        have hB2 : Below w.heap.size w (wr.alloc (.cells #[.int .i64 x.f0, .int .i64 x.f1, .string x.f2] 24)) := below_alloc hB _
        generalize (wr.alloc (.cells #[.int .i64 x.f0, .int .i64 x.f1, .string x.f2] 24)) = W1 at hA0 hB2 ⊢
        refine start_ (n := 8) (S := fun w' => w'.cell? ⟨wr.heap.size, 2, none⟩ = some (.string x.f2)) (ds := []) #[false, false, false, false, false, false, false, false] (by kernel_rfl) rfl rfl ((blk_cell hA0 2).trans rfl) (fun hHeld => ?_)
        have hA1 : W1.drew.heap[wr.heap.size]? = some (.cells #[.int .i64 x.f0, .int .i64 x.f1, .string x.f2] 24 (0, 0)) := hA0
        have hB3 : Below w.heap.size w W1.drew := below_drew1 hB2
        clear hA0 hB2
        generalize W1.drew = W2 at hA1 hB3 hHeld ⊢
        refine pure_ (i := 0) (N := some 45) (v := ?_) (a' := ?_) #[true, false, false, false, false, false, false, false] rfl rfl (by kernel_rfl) (fun _ _ _ h => h) (Or.inl ⟨by (first | rfl | (simp only [*]; rfl) | (simp [*]; done)), ?_⟩) ?_ ?_
        rotate_left
        · intro w'
          go_simp
          with_reducible rfl
        rotate_left
        · simp only [Act.put, List.setIfInBounds_toArray, List.set_cons_zero, List.set_cons_succ]
          rfl
        refine pure_ (i := 1) (N := some 46) (v := ?_) (a' := ?_) #[true, true, false, false, false, false, false, false] rfl rfl (by kernel_rfl) (fun _ _ _ h => h) (Or.inl ⟨by (first | rfl | (simp only [*]; rfl) | (simp [*]; done)), ?_⟩) ?_ ?_
        rotate_left
        · intro w'
          go_simp
          with_reducible rfl
        rotate_left
        · simp only [Act.put, List.setIfInBounds_toArray, List.set_cons_zero, List.set_cons_succ]
          rfl
        refine pure_ (i := 3) (N := some 48) (v := ?_) (a' := ?_) #[true, true, false, true, false, false, false, false] rfl rfl (by kernel_rfl) (fun _ _ _ h => h) (Or.inl ⟨by (first | rfl | (simp only [*]; rfl) | (simp [*]; done)), ?_⟩) ?_ ?_
        rotate_left
        · intro w'
          go_simp
          with_reducible rfl
        rotate_left
        · simp only [Act.put, List.setIfInBounds_toArray, List.set_cons_zero, List.set_cons_succ]
          rfl
        refine take_ (i := 4) (N := some 49) (v := ?_) (a' := ?_) #[true, true, false, true, true, false, false, false] rfl rfl (by kernel_rfl) (fun _ _ _ h => h) (Or.inl ⟨by (first | rfl | (simp only [*]; rfl) | (simp [*]; done)), ?_⟩) hHeld ?_ ?_
        rotate_left
        · intro w' s0
          go_simp
          with_reducible rfl
        rotate_left
        · simp only [Act.put, List.setIfInBounds_toArray, List.set_cons_zero, List.set_cons_succ]
          rfl
        refine join_ (σ := Value) 2 #[true, true, true, true, true, true, false, false] (fun s_ => [(47, .int .u64 m), (50, s_)]) (fun s_ w' => Below w.heap.size w w' ∧ w'.heap[wr.heap.size]? = some (.cells #[.int .i64 x.f0, .int .i64 x.f1, .string x.f2] 24 (0, 0)) ∧ ∃ A c, s_ = .slice A (bytesOf x.f2).length c ∧ (bytesOf x.f2).length ≤ c ∧ Kd.C (Kd.int .u8) w' A (bytesOf x.f2).length (bytesOf x.f2)) ?_ ?_
        rotate_left
        · intro hCont
          refine two_ (i := 2) (j := 5) (Ni := some 47) (Nj := some 50) #[true, true, true, true, true, false, false, false] #[true, true, false, true, true, true, false, false] rfl rfl rfl rfl (by kernel_rfl) (by decide) (by decide) (fun K hK => ?_) (fun K hK => ?_)
          · skip
            refine goes_ Try.func57 (by kernel_rfl) rfl #[.int .u64 (Go.bits .xor .u64 h 4)] (by (first | rfl | (simp only [*]; rfl) | (simp [*]; done))) rfl rfl (by simp [Act.eval]) ?_
            (with_reducible refine (checksum_Mix.calls _ m _ HM1.out).mono ?_)
            rintro e W3 ⟨rfl, hd⟩
            refine ⟨_, rfl, ?_⟩
            have hb := hd.below
            replace hB3 := below_step hB3 hb
            replace hA1 := blk_below hA1 hb
            refine hK.out _ _ ((blk_cell hA1 2).trans rfl) (fun hHeld => ?_)
            clear hK K
            refine norm_ (a' := ?_) ?_ ?_
            rotate_left
            · show Act.put _ (some 47) _ = _
              simp only [Act.put, List.setIfInBounds_toArray, List.set_cons_zero, List.set_cons_succ]
              rfl
            refine one_ (i := 5) (N := some 50) #[true, true, true, true, true, true, false, false] rfl rfl (by kernel_rfl) (by decide) (fun K hK => ?_)
            obtain ⟨A5, c5, W5, hrun, hl5, hC5, hb5⟩ := conv_run (P := Try.prog) (src := 9) (dst := 43) Try.underlying9 Try.underlying43 Try.underlying5 x.f2 (by have := HZ.out; omega) W3
            refine value_ (v := .slice A5 (bytesOf x.f2).length c5) (w1 := W5) (by (first | rfl | (simp only [*]; rfl) | (simp [*]; done))) rfl (by first | (go_simp; done) | (go_simp; exact hrun) | (simp [execOp, Act.eval]; exact hrun)) ?_
            clear hrun
            replace hB3 := below_step hB3 hb5
            replace hA1 := blk_below hA1 hb5
            refine hK.out _ _ ((blk_cell hA1 2).trans rfl) (fun hHeld => ?_)
            clear hK K
            refine norm_ (a' := ?_) ?_ ?_
            rotate_left
            · show Act.put _ (some 50) _ = _
              simp only [Act.put, List.setIfInBounds_toArray, List.set_cons_zero, List.set_cons_succ]
              rfl
            exact norm_ (by simp only [putAll, Act.put, List.setIfInBounds_toArray, List.set_cons_zero, List.set_cons_succ]) (hCont (.slice A5 (bytesOf x.f2).length c5) _ ⟨hB3, hA1, A5, c5, rfl, hl5, hC5⟩)
          · skip
            obtain ⟨A5, c5, W5, hrun, hl5, hC5, hb5⟩ := conv_run (P := Try.prog) (src := 9) (dst := 43) Try.underlying9 Try.underlying43 Try.underlying5 x.f2 (by have := HZ.out; omega) W2
            refine value_ (v := .slice A5 (bytesOf x.f2).length c5) (w1 := W5) (by (first | rfl | (simp only [*]; rfl) | (simp [*]; done))) rfl (by first | (go_simp; done) | (go_simp; exact hrun) | (simp [execOp, Act.eval]; exact hrun)) ?_
            clear hrun
            replace hB3 := below_step hB3 hb5
            replace hA1 := blk_below hA1 hb5
            refine hK.out _ _ ((blk_cell hA1 2).trans rfl) (fun hHeld => ?_)
            clear hK K
            refine norm_ (a' := ?_) ?_ ?_
            rotate_left
            · show Act.put _ (some 50) _ = _
              simp only [Act.put, List.setIfInBounds_toArray, List.set_cons_zero, List.set_cons_succ]
              rfl
            refine one_ (i := 2) (N := some 47) #[true, true, true, true, true, true, false, false] rfl rfl (by kernel_rfl) (by decide) (fun K hK => ?_)
            refine goes_ Try.func57 (by kernel_rfl) rfl #[.int .u64 (Go.bits .xor .u64 h 4)] (by (first | rfl | (simp only [*]; rfl) | (simp [*]; done))) rfl rfl (by simp [Act.eval]) ?_
            (with_reducible refine (checksum_Mix.calls _ m _ HM1.out).mono ?_)
            rintro e W3 ⟨rfl, hd⟩
            refine ⟨_, rfl, ?_⟩
            have hb := hd.below
            replace hB3 := below_step hB3 hb
            replace hA1 := blk_below hA1 hb
            replace hC5 := Kd.C_below hC5 hb
            refine hK.out _ _ ((blk_cell hA1 2).trans rfl) (fun hHeld => ?_)
            clear hK K
            refine norm_ (a' := ?_) ?_ ?_
            rotate_left
            · show Act.put _ (some 47) _ = _
              simp only [Act.put, List.setIfInBounds_toArray, List.set_cons_zero, List.set_cons_succ]
              rfl
            exact norm_ (by simp only [putAll, Act.put, List.setIfInBounds_toArray, List.set_cons_zero, List.set_cons_succ]) (hCont (.slice A5 (bytesOf x.f2).length c5) _ ⟨hB3, hA1, A5, c5, rfl, hl5, hC5⟩)
        clear hHeld hA1 hB3
        rintro _ W6 ⟨hB3, hA1, A6, c6, rfl, hl6, hC6⟩
        refine norm_ (a' := ?_) ?_ ?_
        rotate_left
        · simp only [putAll, Act.put, List.setIfInBounds_toArray, List.set_cons_zero, List.set_cons_succ]
          rfl
        refine one_ (i := 6) (N := some 51) #[true, true, true, true, true, true, true, false] rfl rfl (by kernel_rfl) (by decide) (fun K hK => ?_)
        refine goes_ Try.func58 (by kernel_rfl) rfl #[.int .u64 m, .slice A6 (bytesOf x.f2).length c6] (by (first | rfl | (simp only [*]; rfl) | (simp [*]; done))) rfl rfl (by simp [Act.eval]) ?_
        (with_reducible refine (checksum_Hash.calls m A6 c6 (bytesOf x.f2) h2 _ hC6 hl6 HV.out).mono ?_)
        rintro e W7 ⟨rfl, hb7⟩
        refine ⟨_, rfl, ?_⟩
        replace hB3 := below_step hB3 hb7
        replace hA1 := blk_below hA1 hb7
        refine hK.out _ _ ((blk_cell hA1 2).trans rfl) (fun hHeld => ?_)
        clear hK K
        refine norm_ (a' := ?_) ?_ ?_
        rotate_left
        · show Act.put _ (some 51) _ = _
          simp only [Act.put, List.setIfInBounds_toArray, List.set_cons_zero, List.set_cons_succ]
          rfl
        refine pure_ (i := 7) (N := some 5) (v := ?_) (a' := ?_) #[true, true, true, true, true, true, true, true] rfl rfl (by kernel_rfl) (fun _ _ _ h => h) (Or.inl ⟨by (first | rfl | (simp only [*]; rfl) | (simp [*]; done)), ?_⟩) ?_ ?_
        rotate_left
        · intro w'
          go_simp
          with_reducible rfl
        rotate_left
        · simp only [Act.put, List.setIfInBounds_toArray, List.set_cons_zero, List.set_cons_succ]
          rfl
        refine done_ (by kernel_rfl) ?_
        try go_wp2
        go_roundw
        case rel => exact ⟨k + 1, h2, by omega, HH, rfl, by simp, hB3⟩
        case measure => simp [intOf]; omega
      rw [if_neg z3] at hv
      have n3 : (x.f0 == 3) = false := by simpa using z3
      have hv2 := Option.some.inj hv
      subst hv2
      try go_wp2
      go_roundw
      case rel => exact ⟨k + 1, _, by omega, HH, rfl, by simp, below_alloc hB _⟩
      case measure => simp [intOf]; omega
    · obtain rfl : k = l1.length := by omega
      have he := hh.out
      rw [List.drop_length] at he
      cases he
      go_wp2
      go_ret
      exact ⟨rfl, hB⟩

/-! ### bloom_probes: function 27 -/
section
open Go.Shelf
attribute [local go_sem] Oper.semAt_some
/-- The probes: positions, from h on by steps of g. -/
def prL (n g : Int) : Nat → Int → List Int
  | 0, _ => []
  | k + 1, h => IntKind.i64.wrap (Int.tmod h (IntKind.u64.wrap n)) :: prL n g k (IntKind.u64.wrap (h + g))
theorem lit1 (W : World) (v : S24) : Kd.C k24 (W.alloc (.cells #[.int .i64 v.f0, .int .i64 v.f1, .string v.f2] 24)) (some ⟨W.heap.size, 0, none⟩) 1 [v] := by
  have hr : Reps (k24.K (W.alloc (.cells #[.int .i64 v.f0, .int .i64 v.f1, .string v.f2] 24))) 3 [v] [.int .i64 v.f0, .int .i64 v.f1, .string v.f2] := by
    refine ⟨rfl, fun j p hj => ?_⟩
    cases j with
    | zero => obtain rfl : v = p := by simpa using hj
              exact k24_mk _ _
    | succ j => simp at hj
  obtain ⟨A, c, e, _, h⟩ := (OwnRow.lit (e := 24) (ps := [v]) W 0 hr (Nat.zero_le _) (by simp)).reads
  cases e
  exact h
theorem vh1 (s : Int) (A : Option Addr) (v : S24) (r : Int) (w : World) (h : Kd.C k24 w A 1 [v]) (hf : value_Hash.f s [v] = some r) :
    Calls Try.prog 52 #[.int .u64 s, .slice A 1 1] w fun e w' => e = .returned (.int .u64 r) ∧ Below w.heap.size w w' := value_Hash.calls s A 1 [v] r w h (Nat.le_refl _) hf
set_option maxRecDepth 100000 in
set_option maxHeartbeats 2000000 in
theorem pr1_in (l Bp n₀ : Nat) (v : S24) (hs n h0 g1 : Int) (hn0 : 0 < n) (hn1 : n < 9223372036854775808) (hh : hs ≤ 1000000) (hH1 : value_Hash.f 1 [v] = some h0) (hH2 : value_Hash.f 2 [v] = some g1) (J Jx : List Int → World → Prop)
    (hY : ∀ pre x W, J pre W → pre ++ [x] <+: prL n (Go.bits .or .u64 g1 1) hs.toNat h0 → YieldAt Fence.wide 7 Try.prog l #[.int .i64 x] W fun e W' =>
      (e = .returned (.bool true) ∧ J (pre ++ [x]) W' ∧ LK n₀ Bp W W') ∨ (e = .returned (.bool false) ∧ Jx (pre ++ [x]) W'))
    (hJ : ∀ pre W W', J pre W → Below W.heap.size W W' → J pre W')
    (W : World) (hB1 : W.heap[Bp]? = some (.cells #[.int .i64 hs] 3 (0, 0))) (hB2 : W.heap[Bp + 1]? = some (.cells #[.int .i64 n] 3 (0, 0))) (hB3 : W.heap[Bp + 2]? = some (.cells #[.int .i64 v.f0, .int .i64 v.f1, .string v.f2] 24 (0, 0)))
    (hn : n₀ ≤ W.heap.size) (h0_ : J [] W) :
    CallsIn Fence.wide 8 Try.prog 51 #[.func (.yield l) #[] #[], .pointer (some ⟨Bp + 2, 0, none⟩), .pointer (some ⟨Bp, 0, none⟩), .pointer (some ⟨Bp + 1, 0, none⟩)] W fun e W' => (∃ v, e = .returned v) ∧
      ((∃ ys, ys = prL n (Go.bits .or .u64 g1 1) hs.toNat h0 ∧ J ys W') ∨ (∃ pre, pre <+: prL n (Go.bits .or .u64 g1 1) hs.toNat h0 ∧ Jx pre W')) := by
  have hro : Fence.wide.round = none := rfl
  have HM1 := Aside0.mk hH1
  have HM2 := Aside0.mk hH2
  have HY := Aside0.mk hY
  have HJ := Aside0.mk hJ
  have HB1 := Aside0.mk hB1
  have HB2 := Aside0.mk hB2
  have HN0 := Aside0.mk hn0
  have HN1 := Aside0.mk hn1
  clear hH1 hH2 hY hJ hB1 hB2 hn0 hn1
  refine callsIn_of_wp Try.func51 rfl trivial ?_ hro
  simp only [Try.ntmps51, List.size_toArray, List.length_cons, List.length_nil, Nat.reduceAdd, Nat.reduceSub, Array.replicate_succ, Array.replicate_zero, List.push_toArray, List.append_toArray, List.nil_append, List.cons_append]
  gi_wp2
  refine wpIn_wide.2 ?_
  have hA0 : W.drew.heap[Bp + 2]? = some (.cells #[.int .i64 v.f0, .int .i64 v.f1, .string v.f2] 24 (0, 0)) := hB3
  have hB0 : Below W.heap.size W W.drew := below_drew1 (Below.refl _ _)
  have hlt3 : Bp + 2 < W.heap.size := (Array.getElem?_eq_some_iff.1 hB3).1
  refine start_ (n := 9) (S := fun w' => w'.cell? ⟨Bp + 2, 0, none⟩ = some (.int .i64 v.f0) ∧ w'.cell? ⟨Bp + 2, 1, none⟩ = some (.int .i64 v.f1) ∧ w'.cell? ⟨Bp + 2, 2, none⟩ = some (.string v.f2)) (ds := []) #[false, false, false, false, false, false, false, false, false] (by kernel_rfl) rfl rfl ⟨(blk_cell hA0 0).trans rfl, (blk_cell hA0 1).trans rfl, (blk_cell hA0 2).trans rfl⟩ (fun hHeld => ?_)
  clear hB3
  have hA1 := hA0
  clear hA0
  have hW0 : W.drew.heap.size = W.heap.size := rfl
  generalize W.drew = W2 at hA1 hB0 hHeld hW0 ⊢
  refine take_ (i := 0) (N := some 7) (v := ?_) (a' := ?_) #[true, false, false, false, false, false, false, false, false] rfl rfl (by kernel_rfl) (fun _ _ _ h => h) (Or.inl ⟨by (first | rfl | (simp only [*]; rfl) | (simp [*]; done)), ?_⟩) hHeld ?_ ?_
  rotate_left
  · rintro w' ⟨s0, s1, s2⟩
    go_simp
    with_reducible rfl
  rotate_left
  · simp only [Act.put, List.setIfInBounds_toArray, List.set_cons_zero, List.set_cons_succ]
    rfl
  refine take_ (i := 3) (N := some 10) (v := ?_) (a' := ?_) #[true, false, false, true, false, false, false, false, false] rfl rfl (by kernel_rfl) (fun _ _ _ h => h) (Or.inl ⟨by (first | rfl | (simp only [*]; rfl) | (simp [*]; done)), ?_⟩) hHeld ?_ ?_
  rotate_left
  · rintro w' ⟨s0, s1, s2⟩
    go_simp
    with_reducible rfl
  rotate_left
  · simp only [Act.put, List.setIfInBounds_toArray, List.set_cons_zero, List.set_cons_succ]
    rfl
  refine join_ (σ := Option Addr × Option Addr) 4 #[true, true, true, true, true, false, false, false, false] (fun s_ => [(8, .slice s_.1 1 1), (9, .int .u64 h0), (11, .slice s_.2 1 1)]) (fun s_ w' => Below W.heap.size W w' ∧ w'.heap[Bp + 2]? = some (.cells #[.int .i64 v.f0, .int .i64 v.f1, .string v.f2] 24 (0, 0)) ∧ Kd.C k24 w' s_.2 1 [v]) ?_ ?_
  rotate_left
  · intro hCont
    refine two_ (i := 1) (j := 4) (Ni := some 8) (Nj := some 11) #[true, true, false, true, false, false, false, false, false] #[true, false, false, true, true, false, false, false, false] rfl rfl rfl rfl (by kernel_rfl) (by decide) (by decide) (fun K hK => ?_) (fun K hK => ?_)
    · skip
      refine value_ (v := .slice (some ⟨W2.heap.size, 0, none⟩) 1 1) (w1 := W2.alloc (.cells #[.int .i64 v.f0, .int .i64 v.f1, .string v.f2] 24)) (by (first | rfl | (simp only [*]; rfl) | (simp [*]; done))) rfl (by first | (go_simp; done) | (go_simp; rfl)) ?_
      have hLW2a := lit1 W2 v
      have hbW2a : Below W2.heap.size W2 (W2.alloc (.cells #[.int .i64 v.f0, .int .i64 v.f1, .string v.f2] 24)) := below_alloc (Below.refl _ _) _
      obtain ⟨W2a, hW2a⟩ : ∃ w', w' = W2.alloc (.cells #[.int .i64 v.f0, .int .i64 v.f1, .string v.f2] 24) := ⟨_, rfl⟩
      rw [← hW2a] at hLW2a hbW2a ⊢
      clear hW2a
      replace hB0 := below_step hB0 hbW2a
      replace hA1 := blk_below hA1 hbW2a
      refine hK.out _ _ ⟨(blk_cell hA1 0).trans rfl, (blk_cell hA1 1).trans rfl, (blk_cell hA1 2).trans rfl⟩ (fun hHeld => ?_)
      have hL1 := hLW2a
      clear hK K
      refine norm_ (a' := ?_) ?_ ?_
      rotate_left
      · show Act.put _ (some 8) _ = _
        simp only [Act.put, List.setIfInBounds_toArray, List.set_cons_zero, List.set_cons_succ]
        rfl
      refine two_ (i := 2) (j := 4) (Ni := some 9) (Nj := some 11) #[true, true, true, true, false, false, false, false, false] #[true, true, false, true, true, false, false, false, false] rfl rfl rfl rfl (by kernel_rfl) (by decide) (by decide) (fun K hK => ?_) (fun K hK => ?_)
      · skip
        refine goes_ Try.func52 (by kernel_rfl) rfl #[.int .u64 1, .slice (some ⟨W2.heap.size, 0, none⟩) 1 1] (by (first | rfl | (simp only [*]; rfl) | (simp [*]; done))) rfl rfl (by simp [Act.eval]) ?_
        (with_reducible refine (vh1 1 (some ⟨W2.heap.size, 0, none⟩) v h0 W2a hL1 HM1.out).mono ?_)
        rintro e W2ab ⟨rfl, hbW2ab⟩
        refine ⟨_, rfl, ?_⟩
        replace hB0 := below_step hB0 hbW2ab
        replace hA1 := blk_below hA1 hbW2ab
        refine hK.out _ _ ⟨(blk_cell hA1 0).trans rfl, (blk_cell hA1 1).trans rfl, (blk_cell hA1 2).trans rfl⟩ (fun hHeld => ?_)
        clear hK K
        refine norm_ (a' := ?_) ?_ ?_
        rotate_left
        · show Act.put _ (some 9) _ = _
          simp only [Act.put, List.setIfInBounds_toArray, List.set_cons_zero, List.set_cons_succ]
          rfl
        refine one_ (i := 4) (N := some 11) #[true, true, true, true, true, false, false, false, false] rfl rfl (by kernel_rfl) (by decide) (fun K hK => ?_)
        refine value_ (v := .slice (some ⟨W2ab.heap.size, 0, none⟩) 1 1) (w1 := W2ab.alloc (.cells #[.int .i64 v.f0, .int .i64 v.f1, .string v.f2] 24)) (by (first | rfl | (simp only [*]; rfl) | (simp [*]; done))) rfl (by first | (go_simp; done) | (go_simp; rfl)) ?_
        have hLW2aba := lit1 W2ab v
        have hbW2aba : Below W2ab.heap.size W2ab (W2ab.alloc (.cells #[.int .i64 v.f0, .int .i64 v.f1, .string v.f2] 24)) := below_alloc (Below.refl _ _) _
        obtain ⟨W2aba, hW2aba⟩ : ∃ w', w' = W2ab.alloc (.cells #[.int .i64 v.f0, .int .i64 v.f1, .string v.f2] 24) := ⟨_, rfl⟩
        rw [← hW2aba] at hLW2aba hbW2aba ⊢
        clear hW2aba
        replace hB0 := below_step hB0 hbW2aba
        replace hA1 := blk_below hA1 hbW2aba
        refine hK.out _ _ ⟨(blk_cell hA1 0).trans rfl, (blk_cell hA1 1).trans rfl, (blk_cell hA1 2).trans rfl⟩ (fun hHeld => ?_)
        have hL2 := hLW2aba
        clear hK K
        refine norm_ (a' := ?_) ?_ ?_
        rotate_left
        · show Act.put _ (some 11) _ = _
          simp only [Act.put, List.setIfInBounds_toArray, List.set_cons_zero, List.set_cons_succ]
          rfl
        exact norm_ (by simp only [putAll, Act.put, List.setIfInBounds_toArray, List.set_cons_zero, List.set_cons_succ]) (hCont (some ⟨W2.heap.size, 0, none⟩, some ⟨W2ab.heap.size, 0, none⟩) W2aba ⟨hB0, hA1, hL2⟩)
      · skip
        refine value_ (v := .slice (some ⟨W2a.heap.size, 0, none⟩) 1 1) (w1 := W2a.alloc (.cells #[.int .i64 v.f0, .int .i64 v.f1, .string v.f2] 24)) (by (first | rfl | (simp only [*]; rfl) | (simp [*]; done))) rfl (by first | (go_simp; done) | (go_simp; rfl)) ?_
        have hLW2aa := lit1 W2a v
        have hbW2aa : Below W2a.heap.size W2a (W2a.alloc (.cells #[.int .i64 v.f0, .int .i64 v.f1, .string v.f2] 24)) := below_alloc (Below.refl _ _) _
        obtain ⟨W2aa, hW2aa⟩ : ∃ w', w' = W2a.alloc (.cells #[.int .i64 v.f0, .int .i64 v.f1, .string v.f2] 24) := ⟨_, rfl⟩
        rw [← hW2aa] at hLW2aa hbW2aa ⊢
        clear hW2aa
        replace hB0 := below_step hB0 hbW2aa
        replace hA1 := blk_below hA1 hbW2aa
        replace hL1 := Kd.C_below hL1 hbW2aa
        refine hK.out _ _ ⟨(blk_cell hA1 0).trans rfl, (blk_cell hA1 1).trans rfl, (blk_cell hA1 2).trans rfl⟩ (fun hHeld => ?_)
        have hL2 := hLW2aa
        clear hK K
        refine norm_ (a' := ?_) ?_ ?_
        rotate_left
        · show Act.put _ (some 11) _ = _
          simp only [Act.put, List.setIfInBounds_toArray, List.set_cons_zero, List.set_cons_succ]
          rfl
        refine one_ (i := 2) (N := some 9) #[true, true, true, true, true, false, false, false, false] rfl rfl (by kernel_rfl) (by decide) (fun K hK => ?_)
        refine goes_ Try.func52 (by kernel_rfl) rfl #[.int .u64 1, .slice (some ⟨W2.heap.size, 0, none⟩) 1 1] (by (first | rfl | (simp only [*]; rfl) | (simp [*]; done))) rfl rfl (by simp [Act.eval]) ?_
        (with_reducible refine (vh1 1 (some ⟨W2.heap.size, 0, none⟩) v h0 W2aa hL1 HM1.out).mono ?_)
        rintro e W2aab ⟨rfl, hbW2aab⟩
        refine ⟨_, rfl, ?_⟩
        replace hB0 := below_step hB0 hbW2aab
        replace hA1 := blk_below hA1 hbW2aab
        replace hL2 := Kd.C_below hL2 hbW2aab
        refine hK.out _ _ ⟨(blk_cell hA1 0).trans rfl, (blk_cell hA1 1).trans rfl, (blk_cell hA1 2).trans rfl⟩ (fun hHeld => ?_)
        clear hK K
        refine norm_ (a' := ?_) ?_ ?_
        rotate_left
        · show Act.put _ (some 9) _ = _
          simp only [Act.put, List.setIfInBounds_toArray, List.set_cons_zero, List.set_cons_succ]
          rfl
        exact norm_ (by simp only [putAll, Act.put, List.setIfInBounds_toArray, List.set_cons_zero, List.set_cons_succ]) (hCont (some ⟨W2.heap.size, 0, none⟩, some ⟨W2a.heap.size, 0, none⟩) W2aab ⟨hB0, hA1, hL2⟩)
    · skip
      refine value_ (v := .slice (some ⟨W2.heap.size, 0, none⟩) 1 1) (w1 := W2.alloc (.cells #[.int .i64 v.f0, .int .i64 v.f1, .string v.f2] 24)) (by (first | rfl | (simp only [*]; rfl) | (simp [*]; done))) rfl (by first | (go_simp; done) | (go_simp; rfl)) ?_
      have hLW2a := lit1 W2 v
      have hbW2a : Below W2.heap.size W2 (W2.alloc (.cells #[.int .i64 v.f0, .int .i64 v.f1, .string v.f2] 24)) := below_alloc (Below.refl _ _) _
      obtain ⟨W2a, hW2a⟩ : ∃ w', w' = W2.alloc (.cells #[.int .i64 v.f0, .int .i64 v.f1, .string v.f2] 24) := ⟨_, rfl⟩
      rw [← hW2a] at hLW2a hbW2a ⊢
      clear hW2a
      replace hB0 := below_step hB0 hbW2a
      replace hA1 := blk_below hA1 hbW2a
      refine hK.out _ _ ⟨(blk_cell hA1 0).trans rfl, (blk_cell hA1 1).trans rfl, (blk_cell hA1 2).trans rfl⟩ (fun hHeld => ?_)
      have hL2 := hLW2a
      clear hK K
      refine norm_ (a' := ?_) ?_ ?_
      rotate_left
      · show Act.put _ (some 11) _ = _
        simp only [Act.put, List.setIfInBounds_toArray, List.set_cons_zero, List.set_cons_succ]
        rfl
      refine one_ (i := 1) (N := some 8) #[true, true, false, true, true, false, false, false, false] rfl rfl (by kernel_rfl) (by decide) (fun K hK => ?_)
      refine value_ (v := .slice (some ⟨W2a.heap.size, 0, none⟩) 1 1) (w1 := W2a.alloc (.cells #[.int .i64 v.f0, .int .i64 v.f1, .string v.f2] 24)) (by (first | rfl | (simp only [*]; rfl) | (simp [*]; done))) rfl (by first | (go_simp; done) | (go_simp; rfl)) ?_
      have hLW2aa := lit1 W2a v
      have hbW2aa : Below W2a.heap.size W2a (W2a.alloc (.cells #[.int .i64 v.f0, .int .i64 v.f1, .string v.f2] 24)) := below_alloc (Below.refl _ _) _
      obtain ⟨W2aa, hW2aa⟩ : ∃ w', w' = W2a.alloc (.cells #[.int .i64 v.f0, .int .i64 v.f1, .string v.f2] 24) := ⟨_, rfl⟩
      rw [← hW2aa] at hLW2aa hbW2aa ⊢
      clear hW2aa
      replace hB0 := below_step hB0 hbW2aa
      replace hA1 := blk_below hA1 hbW2aa
      replace hL2 := Kd.C_below hL2 hbW2aa
      refine hK.out _ _ ⟨(blk_cell hA1 0).trans rfl, (blk_cell hA1 1).trans rfl, (blk_cell hA1 2).trans rfl⟩ (fun hHeld => ?_)
      have hL1 := hLW2aa
      clear hK K
      refine norm_ (a' := ?_) ?_ ?_
      rotate_left
      · show Act.put _ (some 8) _ = _
        simp only [Act.put, List.setIfInBounds_toArray, List.set_cons_zero, List.set_cons_succ]
        rfl
      refine one_ (i := 2) (N := some 9) #[true, true, true, true, true, false, false, false, false] rfl rfl (by kernel_rfl) (by decide) (fun K hK => ?_)
      refine goes_ Try.func52 (by kernel_rfl) rfl #[.int .u64 1, .slice (some ⟨W2a.heap.size, 0, none⟩) 1 1] (by (first | rfl | (simp only [*]; rfl) | (simp [*]; done))) rfl rfl (by simp [Act.eval]) ?_
      (with_reducible refine (vh1 1 (some ⟨W2a.heap.size, 0, none⟩) v h0 W2aa hL1 HM1.out).mono ?_)
      rintro e W2aab ⟨rfl, hbW2aab⟩
      refine ⟨_, rfl, ?_⟩
      replace hB0 := below_step hB0 hbW2aab
      replace hA1 := blk_below hA1 hbW2aab
      replace hL2 := Kd.C_below hL2 hbW2aab
      refine hK.out _ _ ⟨(blk_cell hA1 0).trans rfl, (blk_cell hA1 1).trans rfl, (blk_cell hA1 2).trans rfl⟩ (fun hHeld => ?_)
      clear hK K
      refine norm_ (a' := ?_) ?_ ?_
      rotate_left
      · show Act.put _ (some 9) _ = _
        simp only [Act.put, List.setIfInBounds_toArray, List.set_cons_zero, List.set_cons_succ]
        rfl
      exact norm_ (by simp only [putAll, Act.put, List.setIfInBounds_toArray, List.set_cons_zero, List.set_cons_succ]) (hCont (some ⟨W2a.heap.size, 0, none⟩, some ⟨W2.heap.size, 0, none⟩) W2aab ⟨hB0, hA1, hL2⟩)
  clear hHeld hA1 hB0 hW0
  rintro ⟨A8, A11⟩ W6 ⟨hB0, hA1, hL2⟩
  refine norm_ (a' := ?_) ?_ ?_
  rotate_left
  · simp only [putAll, Act.put, List.setIfInBounds_toArray, List.set_cons_zero, List.set_cons_succ]
    rfl
  refine one_ (i := 5) (N := some 12) #[true, true, true, true, true, true, false, false, false] rfl rfl (by kernel_rfl) (by decide) (fun K hK => ?_)
  refine goes_ Try.func52 (by kernel_rfl) rfl #[.int .u64 2, .slice A11 1 1] (by (first | rfl | (simp only [*]; rfl) | (simp [*]; done))) rfl rfl (by simp [Act.eval]) ?_
  (with_reducible refine (vh1 2 A11 v g1 W6 hL2 HM2.out).mono ?_)
  rintro e W6b ⟨rfl, hbW6b⟩
  refine ⟨_, rfl, ?_⟩
  replace hB0 := below_step hB0 hbW6b
  replace hA1 := blk_below hA1 hbW6b
  refine hK.out _ _ ⟨(blk_cell hA1 0).trans rfl, (blk_cell hA1 1).trans rfl, (blk_cell hA1 2).trans rfl⟩ (fun hHeld => ?_)
  clear hK K
  refine norm_ (a' := ?_) ?_ ?_
  rotate_left
  · show Act.put _ (some 12) _ = _
    simp only [Act.put, List.setIfInBounds_toArray, List.set_cons_zero, List.set_cons_succ]
    rfl
  refine pure_ (i := 6) (N := some 13) (v := ?_) (a' := ?_) #[true, true, true, true, true, true, true, false, false] rfl rfl (by kernel_rfl) (fun _ _ _ h => h) (Or.inl ⟨by (first | rfl | (simp only [*]; rfl) | (simp [*]; done)), ?_⟩) ?_ ?_
  rotate_left
  · intro w'
    go_simp
    with_reducible rfl
  rotate_left
  · simp only [Act.put, List.setIfInBounds_toArray, List.set_cons_zero, List.set_cons_succ]
    rfl
  refine pure_ (i := 7) (N := some 5) (v := ?_) (a' := ?_) #[true, true, true, true, true, true, true, true, false] rfl rfl (by kernel_rfl) (fun _ _ _ h => h) (Or.inl ⟨by (first | rfl | (simp only [*]; rfl) | (simp [*]; done)), ?_⟩) ?_ ?_
  rotate_left
  · intro w'
    go_simp
    with_reducible rfl
  rotate_left
  · simp only [Act.put, List.setIfInBounds_toArray, List.set_cons_zero, List.set_cons_succ]
    rfl
  refine pure_ (i := 8) (N := some 6) (v := ?_) (a' := ?_) #[true, true, true, true, true, true, true, true, true] rfl rfl (by kernel_rfl) (fun _ _ _ h => h) (Or.inl ⟨by (first | rfl | (simp only [*]; rfl) | (simp [*]; done)), ?_⟩) ?_ ?_
  rotate_left
  · intro w'
    go_simp
    with_reducible rfl
  rotate_left
  · simp only [Act.put, List.setIfInBounds_toArray, List.set_cons_zero, List.set_cons_succ]
    rfl
  refine done_ (by kernel_rfl) ?_
  have hC1 : W6b.heap[Bp]? = some (.cells #[.int .i64 hs] 3 (0, 0)) := (hB0.block _ (by omega)).trans HB1.out
  have hC2 : W6b.heap[Bp + 1]? = some (.cells #[.int .i64 n] 3 (0, 0)) := (hB0.block _ (by omega)).trans HB2.out
  have hJ6 := HJ.out _ _ _ h0_ hB0
  have hK6 : LK n₀ Bp W W6b := LK.of_below hB0 hn (by omega)
  obtain ⟨hC1c, hC1f⟩ := r_box hC1
  clear HM1 HM2 hHeld hA1 hL2 hbW6b HJ h0_
  gi_wp2
  gi_loopw [5, 15] (fun v5 v15 wr => ∃ (k : Nat) (h : Int) (pre : List Int), k ≤ hs.toNat ∧ v5 = .int .u64 h ∧ v15 = .int .i64 (k : Int) ∧ Aside0 (pre ++ prL n (Go.bits .or .u64 g1 1) (hs.toNat - k) h = prL n (Go.bits .or .u64 g1 1) hs.toNat h0) ∧ J pre wr ∧ LK n₀ Bp W wr) (fun _ v15 _ => hs.toNat - (intOf v15).toNat)
  case atStart => exact ⟨0, h0, [], Nat.zero_le _, rfl, rfl, ⟨by simp⟩, hJ6, hK6⟩
  case round =>
    clear hC1 hC2 hC1c hC1f hJ6 hK6
    obtain ⟨k, h, pre, hk, rfl, rfl, hp, hJp, hnx⟩ := hrel
    obtain ⟨hb2c, hb2f⟩ := r_box (hnx.b2.trans HB2.out)
    by_cases hlt : (k : Int) < hs
    · have e1 : IntKind.u64.wrap n = n := wraps_u64 _ (by have := HN0.out; omega) (by have := HN1.out; omega)
      have e2 : (n == 0) = false := by simp; have := HN0.out; omega
      have e3 : (n != 0) = true := by simp; have := HN0.out; omega
      have e4 : ¬ n = 0 := by have := HN0.out; omega
      have ek : IntKind.i64.wrap ((k : Int) + 1) = ((k + 1 : Nat) : Int) := by rw [IntWalk.i64_in _ (by omega)]; omega
      have hp1 := hp.out
      rw [show hs.toNat - k = (hs.toNat - (k + 1)) + 1 by omega] at hp1
      simp only [prL] at hp1
      rw [e1] at hp1
      obtain ⟨x, hx⟩ : ∃ x, x = IntKind.i64.wrap (Int.tmod h n) := ⟨_, rfl⟩
      rw [← hx] at hp1
      have hpre : pre ++ [x] <+: prL n (Go.bits .or .u64 g1 1) hs.toNat h0 := ⟨prL n (Go.bits .or .u64 g1 1) (hs.toNat - (k + 1)) (IntKind.u64.wrap (h + Go.bits .or .u64 g1 1)), by rw [← hp1]; simp⟩
      have hp2 : Aside0 ((pre ++ [x]) ++ prL n (Go.bits .or .u64 g1 1) (hs.toNat - (k + 1)) (IntKind.u64.wrap (h + Go.bits .or .u64 g1 1)) = prL n (Go.bits .or .u64 g1 1) hs.toNat h0) := ⟨by rw [← hp1]; simp⟩
      obtain ⟨fn, tmps, assign, body, hy, hR⟩ := HY.out pre x wr hJp hpre
      have hx' := hx.symm
      clear hx hp1 hp
      gi_wp2
      refine hR.mono ?_
      rintro e9 W3 (⟨rfl, hJ3, hk3⟩ | ⟨rfl, hJx3⟩)
      · gi_wp2
        go_roundw
        case rel => exact ⟨k + 1, _, _, by omega, rfl, by simp, hp2, hJ3, hnx.trans hk3⟩
        case measure => simp [intOf]; omega
      · gi_wp2
        refine bodyPost_ret (results_none rfl _ _ _) rfl ?_
        exact ⟨⟨_, rfl⟩, .inr ⟨_, hpre, hJx3⟩⟩
    · have hk2 : hs.toNat - k = 0 := by omega
      have hp1 := hp.out
      rw [hk2] at hp1
      simp only [prL, List.append_nil] at hp1
      subst hp1
      gi_wp2
      go_end0
      first | exact ⟨⟨_, rfl⟩, .inl ⟨_, rfl, hJp⟩⟩ | exact ⟨⟨_, rfl⟩, .inl hJp⟩
theorem prL_len (n g : Int) : ∀ (k : Nat) (h : Int), (prL n g k h).length = k
  | 0, _ => rfl
  | k + 1, h => by simp [prL, prL_len n g k]
/-- The contract of what probes hands back: the body is told that what it is handed is a probe. -/
theorem pr_stopsR (Bp n₀ : Nat) (v : S24) (hs n h0 g1 : Int) (hn0 : 0 < n) (hn1 : n < 9223372036854775808) (hh : hs ≤ 1000000) (hH1 : value_Hash.f 1 [v] = some h0) (hH2 : value_Hash.f 2 [v] = some g1) (r : List Int) (hr : r = prL n (Go.bits .or .u64 g1 1) hs.toNat h0)
    (w : World) (hB1 : w.heap[Bp]? = some (.cells #[.int .i64 hs] 3 (0, 0))) (hB2 : w.heap[Bp + 1]? = some (.cells #[.int .i64 n] 3 (0, 0))) (hB3 : w.heap[Bp + 2]? = some (.cells #[.int .i64 v.f0, .int .i64 v.f1, .string v.f2] 24 (0, 0)))
    (hn : n₀ ≤ w.heap.size) :
    SeqStopsK Fence.wide 8 Try.prog 51 #[.pointer (some ⟨Bp + 2, 0, none⟩), .pointer (some ⟨Bp, 0, none⟩), .pointer (some ⟨Bp + 1, 0, none⟩)] (fun x : { x : Int // x ∈ r } => #[Value.int .i64 x.1]) (LK n₀ Bp) (fun ys => ys.map (·.1) = r) (fun pre => pre.map (·.1) <+: r) r.length w := fun l J Jx W hW hJ _ hY h0_ => by
  have h1 := (Array.getElem?_eq_some_iff.1 hB1).1
  have h2 := (Array.getElem?_eq_some_iff.1 hB2).1
  have h3 := (Array.getElem?_eq_some_iff.1 hB3).1
  subst hr
  refine (pr1_in l Bp n₀ v hs n h0 g1 hn0 hn1 hh hH1 hH2 (fun pre W => ∃ p : List { x : Int // x ∈ prL n (Go.bits .or .u64 g1 1) hs.toNat h0 }, p.map (·.1) = pre ∧ J p W) (fun pre W => ∃ p : List { x : Int // x ∈ prL n (Go.bits .or .u64 g1 1) hs.toNat h0 }, p.map (·.1) = pre ∧ Jx p W) ?_ ?_ W ((hW.block _ h1).trans hB1) ((hW.block _ h2).trans hB2) ((hW.block _ h3).trans hB3) (Nat.le_trans hn hW.size) ⟨[], rfl, h0_⟩).mono ?_
  · rintro pre x W1 ⟨p, rfl, hj⟩ hp
    have hx := hp.subset (List.mem_append_right _ List.mem_cons_self)
    refine (hY p ⟨x, hx⟩ W1 hj (by have := hp.length_le; simp at this ⊢; omega)).mono ?_
    rintro e W2 (⟨h1, h2, h3⟩ | ⟨h1, h2⟩)
    · exact .inl ⟨h1, ⟨p ++ [⟨x, hx⟩], by simp, h2⟩, h3⟩
    · exact .inr ⟨h1, ⟨p ++ [⟨x, hx⟩], by simp, h2⟩⟩
  · rintro pre W1 W2 ⟨p, e, hj⟩ hb
    exact ⟨p, e, hJ p W1 W2 none hj ⟨hb.os, hb.tape, hb.output, hb.size, fun k hk _ => hb.block k hk⟩ (fun r e => by cases e)⟩
  · rintro e W1 ⟨hv, (⟨ys, rfl, p, hp, hj⟩ | ⟨pre, hpre, p, rfl, hj⟩)⟩
    · exact ⟨hv, .inl ⟨p, hp, hj⟩⟩
    · exact ⟨hv, .inr ⟨p, hpre, hj⟩⟩
set_option maxRecDepth 100000 in
set_option maxHeartbeats 2000000 in
theorem pr_in (hs n : Int) (v : S24) (w : World) :
    CallsIn Fence.wide 8 Try.prog 27 #[.int .i64 hs, .int .i64 n, .agg #[.int .i64 v.f0, .int .i64 v.f1, .string v.f2]] w fun e W' => e = .returned (.func (.func 51) #[] #[.pointer (some ⟨w.heap.size + 2, 0, none⟩), .pointer (some ⟨w.heap.size, 0, none⟩), .pointer (some ⟨w.heap.size + 1, 0, none⟩)]) ∧ W' = ((w.alloc (.cells #[.int .i64 hs] 3)).alloc (.cells #[.int .i64 n] 3)).alloc (.cells #[.int .i64 v.f0, .int .i64 v.f1, .string v.f2] 24) := by
  refine callsIn_of_wp Try.func27 rfl trivial ?_ rfl
  simp only [Try.ntmps27, List.size_toArray, List.length_cons, List.length_nil, Nat.reduceAdd, Nat.reduceSub, Array.replicate_succ, Array.replicate_zero, List.push_toArray, List.append_toArray, List.nil_append, List.cons_append]
  gi_wp2
  go_ret
  simp
end

/-! ### bitset_wordCount: function 50 -/
def bitset_wordCount.f (a0 : Int) : Option (Int) := some (wrap64 (Int.tdiv (wrap64 (a0 + 63)) 64))
set_option maxHeartbeats 8000000 in
set_option maxRecDepth 100000 in
theorem bitset_wordCount.calls (a0 : Int) (r : Int) (w : World) (h : bitset_wordCount.f a0 = some r) :
  Calls Try.prog 50 #[.int .i64 a0] w fun e w' => e = .returned (.int .i64 r) ∧ Drawn0 w w' := by
 have H : (some (wrap64 (Int.tdiv (wrap64 (a0 + 63)) 64))) = some r := h
 clear h
 obtain rfl := Option.some.inj H
 go_enter Try.func50, Try.ntmps50
 go_wp2
 go_ret
 exact ⟨by first | rfl | (simp; done) | (simp [*]; done), by repeat (first | exact Drawn0.refl _ | apply Drawn0.step)⟩

end Go.Proofs.Ytjeheopcohnkeaa.QBloomContains
