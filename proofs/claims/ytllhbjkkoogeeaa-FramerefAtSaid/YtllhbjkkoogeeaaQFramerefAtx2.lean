-- Written by a program of this session (wip/pr2.sh): the walk of the Go text, function by function.
import Derived.Test.YtllhbjkkoogeeaaQFramerefAtx0
import Derived.Test.YtllhbjkkoogeeaaQFramerefAtx1
namespace Go.Proofs.Ytllhbjkkoogeeaa.QFramerefAt
open Go.RowKit Go.Proofs.YtllhbjkkoogeeaaW.PrintWords Go.Proofs.YtllhbjkkoogeeaaW.PrintLast Go.Proofs.YtllhbjkkoogeeaaW.PrintMore
open Go.Proofs.YtllhbjkkoogeeaaM
attribute [local go_sem] max2_int min2_int max_two min_two max_three min_three max_four min_four   -- for this text's walks alone
set_option linter.unusedVariables false
set_option linter.unusedSimpArgs false

/-! ### bitpack_Pack: function 23 -/
def bitpack_Pack.f (l0 : List Int) (a1 : Int) : Option (List Int) := if 0 ≤ a1 ∧ a1 ≤ 64 ∧ l0.length ≤ 1048576 then (if l0.all (fun x => decide (0 ≤ x) && decide (x < 18446744073709551616)) = true then some (packed l0 a1.toNat) else none) else some []
set_option maxHeartbeats 1000000 in
set_option maxRecDepth 100000 in
theorem bitpack_put (base bW bA bO width at_ : Nat) (n : Nat) (A : Option Addr) (cap : Nat) (xs : List Int) (w : World)
    (hW : w.heap[bW]? = some (.cells #[.int .i64 (width : Int)] 3 (0, 0))) (hA : w.heap[bA]? = some (.cells #[.int .i64 (at_ : Int)] 3 (0, 0))) (hO : w.heap[bO]? = some (.cells #[.slice A xs.length cap] 26 (0, 0)))
    (hR : Kd.R (Kd.int .u8) 5 w base (fun k => k ≠ bW ∧ k ≠ bA ∧ k ≠ bO) (.slice A xs.length cap) xs) (h1 : bW ≠ bA) (h2 : bW ≠ bO) (h3 : bA ≠ bO) (hbA : base ≤ bA)
    (hx : ∀ x ∈ xs, 0 ≤ x ∧ x < 256) (hle : le xs < 2 ^ at_) (hsz : at_ + width ≤ 8 * xs.length) (hmax : xs.length ≤ 140737488355328) (hw : width ≤ 64) (hn : n < 18446744073709551616) :
    Calls Try.prog 59 #[.int .u64 (n : Int), .pointer (some ⟨bW, 0, none⟩), .pointer (some ⟨bA, 0, none⟩), .pointer (some ⟨bO, 0, none⟩)] w fun e w' => e = .returned (.tuple #[]) ∧ ∃ ys : List Int, ys.length = xs.length ∧ (∀ x ∈ ys, 0 ≤ x ∧ x < 256) ∧ le ys = le xs + n % 2 ^ width * 2 ^ at_ ∧
      w'.heap[bW]? = some (.cells #[.int .i64 (width : Int)] 3 (0, 0)) ∧ w'.heap[bA]? = some (.cells #[.int .i64 ((at_ + width : Nat) : Int)] 3 (0, 0)) ∧ w'.heap[bO]? = some (.cells #[.slice A xs.length cap] 26 (0, 0)) ∧
      Kd.R (Kd.int .u8) 5 w' base (fun k => k ≠ bW ∧ k ≠ bA ∧ k ≠ bO) (.slice A xs.length cap) ys ∧ Below base w w' := by
  have HX := Aside0.mk hx
  have HR := Aside0.mk hR
  have HLE := Aside0.mk hle
  have cW : w.cell? ⟨bW, 0, none⟩ = some (.int .i64 (width : Int)) := by rw [blk_cell hW]; rfl
  clear hx hR hle
  go_enter Try.func59, Try.ntmps59
  go_wp2
  clear cW
  go_loopw [0, 5] (fun v0 v5 wr => ∃ d l a m : Nat, ∃ ys : List Int, Aside0 (d + l = width) ∧ l ≤ 64 ∧ Aside0 (a = at_ + d) ∧ Aside0 (m = n / 2 ^ d) ∧ m < 18446744073709551616 ∧ v0 = .int .u64 (m : Int) ∧ v5 = .int .i64 (l : Int) ∧ Aside0 (ys.length = xs.length) ∧ Aside0 (∀ x ∈ ys, 0 ≤ x ∧ x < 256) ∧ Aside0 (le ys = le xs + n % 2 ^ d * 2 ^ at_) ∧
      wr.heap[bW]? = some (.cells #[.int .i64 (width : Int)] 3 (0, 0)) ∧ wr.heap[bA]? = some (.cells #[.int .i64 (a : Int)] 3 (0, 0)) ∧ wr.heap[bO]? = some (.cells #[.slice A xs.length cap] 26 (0, 0)) ∧
      Aside0 (Kd.R (Kd.int .u8) 5 wr base (fun k => k ≠ bW ∧ k ≠ bA ∧ k ≠ bO) (.slice A xs.length cap) ys) ∧ Below base w wr) (fun _ v5 _ => (intOf v5).toNat)
  case atStart => exact ⟨0, width, at_, n, xs, ⟨by omega⟩, hw, ⟨rfl⟩, ⟨by simp⟩, hn, rfl, rfl, ⟨rfl⟩, HX, ⟨by simp [Nat.mod_one]⟩, hW, hA, hO, HR, Below.refl _ _⟩
  case round =>
    obtain ⟨d, l, a, m, ys, hd, hl, ha, hm, hm64, rfl, rfl, hyl, HY, HL, kW, kA, kO, HRy, hb⟩ := hrel
    by_cases hlt : 0 < l
    · obtain ⟨r, hr⟩ : ∃ r : Nat, r = a % 8 := ⟨_, rfl⟩
      obtain ⟨j, hj⟩ : ∃ j : Nat, j = a / 8 := ⟨_, rfl⟩
      have hr7 : r ≤ 7 := by omega
      have hjl : j < xs.length := by have := ha.out; have := hd.out; omega
      have ham : a ≤ 8 * xs.length := by have := ha.out; have := hd.out; omega
      have er : (a : Int) % 8 = (r : Int) := by omega
      have ej : (a : Int) / 8 = (j : Int) := by omega
      have HRJ := Aside0.mk (And.intro hr hj)
      clear hr hj
      obtain ⟨g, c0, hv, _, hglt, _⟩ := Kd.R_form HRy.out (by have := hyl.out; omega)
      obtain ⟨rfl, rfl⟩ : A = some ⟨g, 0, none⟩ ∧ cap = c0 := by injection hv with e1 e2 e3; exact ⟨e1, e3⟩
      clear hv
      have hyv : ys.getD j 0 = ((le ys / 256 ^ j % 256 : Nat) : Int) := le_get ys j HY.out
      obtain ⟨hcy, hfy⟩ := Kd.R_cell (0 : Int) (show Kd.R (Kd.int .u8) 5 wr base (fun k => k ≠ bW ∧ k ≠ bA ∧ k ≠ bO) (.slice (some ⟨g, 0, none⟩) ys.length cap) ys by rw [hyl.out]; exact HRy.out) (j : Int) (by omega) (by have := hyl.out; omega)
      obtain ⟨y, hy⟩ : ∃ y : Nat, y = le ys / 256 ^ j % 256 := ⟨_, rfl⟩
      have hcy' : wr.cell? ⟨g, j, none⟩ = some (.int .u8 (y : Int)) := by
        have : rdOf (0 : Int) ys (j : Int) = (y : Int) := by rw [hy, ← hyv]; simp [rdOf]
        rw [← this]; simpa using hcy
      have hfy' : wr.frozen? ⟨g, j, none⟩ = false := by simpa using hfy
      have HYV := Aside0.mk hy
      clear hcy hfy hyv hy
      have cA : wr.cell? ⟨bA, 0, none⟩ = some (.int .i64 (a : Int)) := by rw [blk_cell kA]; rfl
      have cO : wr.cell? ⟨bO, 0, none⟩ = some (.slice (some ⟨g, 0, none⟩) xs.length cap) := by rw [blk_cell kO]; rfl
      have fA : wr.frozen? ⟨bA, 0, none⟩ = false := blk_frozen kA 0
      have ew : IntKind.i64.wrap (j : Int) = (j : Int) := IntWalk.i64_in _ (by omega)
      have hg := HRy.out.1 g (by simp [Value.ownBlock])
      have hgn : g ≠ bA := hg.2.1
      have hgb := Kd.R_base HRy.out g (by simp [Value.ownBlock])
      have fin : ∀ t : Nat, r + t ≤ 8 → t ≤ l → 1 ≤ t → ∃ (d l_1 a_1 m_1 : Nat) (ys : List Int), Aside0 (d + l_1 = width) ∧ l_1 ≤ 64 ∧ Aside0 (a_1 = at_ + d) ∧ Aside0 (m_1 = n / 2 ^ d) ∧ m_1 < 18446744073709551616 ∧ Value.int .u64 ((m : Int) / 2 ^ t) = .int .u64 (m_1 : Int) ∧ Value.int .i64 ((l : Int) - t) = .int .i64 (l_1 : Int) ∧ Aside0 (ys.length = xs.length) ∧ Aside0 (∀ x ∈ ys, 0 ≤ x ∧ x < 256) ∧ Aside0 (le ys = le xs + n % 2 ^ d * 2 ^ at_) ∧
          ((wr.setCell ⟨g, j, none⟩ (.int .u8 (bits .or .u8 (y : Int) (bits .and .u64 (m : Int) (IntKind.u64.wrap (IntKind.u64.wrap (2 ^ t) - 1)) % 256 * 2 ^ r % 256)))).setCell ⟨bA, 0, none⟩ (.int .i64 ((a : Int) + t))).drew.heap[bW]? = some (.cells #[.int .i64 (width : Int)] 3 (0, 0)) ∧
          ((wr.setCell ⟨g, j, none⟩ (.int .u8 (bits .or .u8 (y : Int) (bits .and .u64 (m : Int) (IntKind.u64.wrap (IntKind.u64.wrap (2 ^ t) - 1)) % 256 * 2 ^ r % 256)))).setCell ⟨bA, 0, none⟩ (.int .i64 ((a : Int) + t))).drew.heap[bA]? = some (.cells #[.int .i64 (a_1 : Int)] 3 (0, 0)) ∧
          ((wr.setCell ⟨g, j, none⟩ (.int .u8 (bits .or .u8 (y : Int) (bits .and .u64 (m : Int) (IntKind.u64.wrap (IntKind.u64.wrap (2 ^ t) - 1)) % 256 * 2 ^ r % 256)))).setCell ⟨bA, 0, none⟩ (.int .i64 ((a : Int) + t))).drew.heap[bO]? = some (.cells #[.slice (some ⟨g, 0, none⟩) xs.length cap] 26 (0, 0)) ∧
          Aside0 (Kd.R (Kd.int .u8) 5 ((wr.setCell ⟨g, j, none⟩ (.int .u8 (bits .or .u8 (y : Int) (bits .and .u64 (m : Int) (IntKind.u64.wrap (IntKind.u64.wrap (2 ^ t) - 1)) % 256 * 2 ^ r % 256)))).setCell ⟨bA, 0, none⟩ (.int .i64 ((a : Int) + t))).drew base (fun k => k ≠ bW ∧ k ≠ bA ∧ k ≠ bO) (.slice (some ⟨g, 0, none⟩) xs.length cap) ys) ∧
          Below base w ((wr.setCell ⟨g, j, none⟩ (.int .u8 (bits .or .u8 (y : Int) (bits .and .u64 (m : Int) (IntKind.u64.wrap (IntKind.u64.wrap (2 ^ t) - 1)) % 256 * 2 ^ r % 256)))).setCell ⟨bA, 0, none⟩ (.int .i64 ((a : Int) + t))).drew := by
        intro t k3 k1 k4
        have hylt : y < 2 ^ r := by
          rw [HYV.out, HRJ.out.1, HRJ.out.2]
          exact byte_lt _ _ (by rw [HL.out]; exact put_lt _ _ _ _ _ HLE.out ha.out)
        obtain ⟨hb1, hb2⟩ := put_byte m y r t hm64 k3 hylt
        rw [hb1]
        have hjl2 : j < ys.length := by have := hyl.out; omega
        have hle2 := put_le ys (le xs) n at_ d a r j t y m HRJ.out.1 HRJ.out.2 ha.out hm.out HL.out hjl2 HYV.out HY.out
        have hRp := (Kd.R_put (enc := Value.int .u8) (h1 := fun _ => rfl) (show Kd.R (Kd.int .u8) 5 wr base (fun k => k ≠ bW ∧ k ≠ bA ∧ k ≠ bO) (.slice (some ⟨g, 0, none⟩) ys.length cap) ys by rw [hyl.out]; exact HRy.out) (j : Int) ((y + m % 2 ^ t * 2 ^ r : Nat) : Int)).1
        rw [Int.toNat_natCast, hyl.out] at hRp
        refine ⟨d + t, l - t, a + t, m / 2 ^ t, ys.set j ((y + m % 2 ^ t * 2 ^ r : Nat) : Int), ⟨by have := hd.out; omega⟩, by omega, ⟨by have := ha.out; omega⟩, ⟨by rw [hm.out, Nat.div_div_eq_div_mul, Nat.pow_add]⟩, Nat.lt_of_le_of_lt (Nat.div_le_self _ _) hm64, by simp, by rw [Int.natCast_sub k1], ⟨by rw [List.length_set]; exact hyl.out⟩, ⟨?_⟩, ⟨hle2⟩, ?_, ?_, ?_, ⟨?_⟩, ?_⟩
        · intro x hx
          rcases List.mem_or_eq_of_mem_set hx with h | h
          · exact HY.out x h
          · rw [h]; omega
        · exact blk_drew (blk_far (blk_far kW (Ne.symm hg.1) _) h1 _)
        · rw [show ((a + t : Nat) : Int) = (a : Int) + t by simp]
          exact blk_drew (blk_put (blk_far kA (Ne.symm hg.2.1) _) 0 _ rfl)
        · exact blk_drew (blk_far (blk_far kO (Ne.symm hg.2.2) _) (Ne.symm h3) _)
        · exact Kd.R_drew (Kd.R_far hRp (p := ⟨bA, 0, none⟩) (fun k hk => hk.2.1) _)
        · exact below_drew ((hb.setCell hgb _).setCell hbA _)
      have FIN := Aside0.mk fin
      clear fin
      by_cases hmn : 8 - r ≤ l
      · obtain ⟨t, ht⟩ : ∃ t : Nat, t = 8 - r := ⟨_, rfl⟩
        have et : 8 - (r : Int) = (t : Int) := by omega
        have k1 : (t : Int) ≤ (l : Int) := by omega
        have k2 : t ≤ 8 := by omega
        have k3 : r + t ≤ 8 := by omega
        have k4 : 1 ≤ t := by omega
        clear ht hmn
        go_wp2
        go_region
        go_wp2
        refine ⟨FIN.out t k3 (by omega) k4, ?_⟩
        simp [intOf]; omega
      · obtain ⟨t, ht⟩ : ∃ t : Nat, t = l := ⟨_, rfl⟩
        have et : (t : Int) < 8 - (r : Int) := by omega
        have k1 : t ≤ l := by omega
        have k2 : t ≤ 8 := by omega
        have k3 : r + t ≤ 8 := by omega
        have k4 : 1 ≤ t := by omega
        have hF := FIN.out t k3 k1 k4
        subst ht
        have HF := Aside0.mk hF
        clear hmn hF
        go_wp2
        go_region
        go_wp2
        refine ⟨by have h9 := HF.out; simp only [Int.sub_self] at h9; exact h9, ?_⟩
        simp [intOf]; omega
    · obtain rfl : l = 0 := by omega
      go_wp2
      go_end0
      have hdw : d = width := by have := hd.out; omega
      subst hdw
      exact ⟨rfl, ys, hyl.out, HY.out, HL.out, kW, by rw [ha.out] at kA; exact kA, kO, HRy.out, hb⟩
theorem blk_at (w : World) (o : Obj) (g : Nat) (h : g = w.heap.size) : (w.alloc o).heap[g]? = some o := by subst h; exact blk_new w o
theorem take_snoc (l : List Int) (i : Nat) (h : i < l.length) : l.take (i + 1) = l.take i ++ [l.getD i 0] := by
  rw [List.take_succ_eq_append_getElem h]; simp [List.getD, List.getElem?_eq_getElem h]
theorem pack_size (n w : Nat) (hn : n ≤ 1048576) (hw : w ≤ 64) : bitpack_inRange.f (n : Int) (w : Int) = some true ∧ bitpack_Size.f (n : Int) (w : Int) = some ((pbytes n w : Nat) : Int) := by
  have h1 : bitpack_inRange.f (n : Int) (w : Int) = some true := by
    unfold bitpack_inRange.f
    rw [if_pos (by omega), if_pos (by omega), if_pos (by omega), decide_eq_true (by omega)]
  refine ⟨h1, ?_⟩
  have hm : n * w ≤ 1048576 * 64 := Nat.mul_le_mul hn hw
  have e1 : ((n : Int) * (w : Int)) = ((n * w : Nat) : Int) := by simp
  unfold bitpack_Size.f
  rw [h1]
  simp only [Option.bind_some, if_true]
  rw [e1, w64 ((n * w : Nat) : Int) (by omega) (by omega), w64 (((n * w : Nat) : Int) + 7) (by omega) (by omega), Int.tdiv_eq_ediv_of_nonneg (by omega), w64 _ (by omega) (by omega)]
  unfold pbytes
  congr 1
theorem pbytes_le (n w : Nat) (hn : n ≤ 1048576) (hw : w ≤ 64) : pbytes n w ≤ 8388608 := by
  have hm : n * w ≤ 1048576 * 64 := Nat.mul_le_mul hn hw
  unfold pbytes; omega
set_option maxHeartbeats 1000000 in
set_option maxRecDepth 100000 in
theorem bitpack_Pack.calls (A0 : Option Addr) (c0 : Nat) (l0 : List Int) (a1 : Int) (r : List Int) (w : World) (hr0 : Kd.C (Kd.int .u64) w A0 l0.length l0) (hc0 : l0.length ≤ c0) (h : bitpack_Pack.f l0 a1 = some r) :
    Calls Try.prog 23 #[.slice A0 l0.length c0, .int .i64 a1] w fun e w' => ∃ v0_ : Value, e = .returned (v0_) ∧ Kd.R (Kd.int .u8) 5 w' w.heap.size (fun _ => True) v0_ r ∧ Below w.heap.size w w' := by
  have hmf : ∀ (fn : Fn) (first cap : Array Value) (w : World), (Instr.makeFunc fn first cap).run Try.prog w = .ok (.func fn first cap) w := fun _ _ _ _ => rfl
  have hmx := Kd.C_max hr0
  by_cases hc : 0 ≤ a1 ∧ a1 ≤ 64 ∧ l0.length ≤ 1048576
  · unfold bitpack_Pack.f at h
    rw [if_pos hc] at h
    split at h
    case isFalse => cases h
    case isTrue hu =>
    obtain rfl := Option.some.inj h
    obtain ⟨hc1, hc2, hc3⟩ := hc
    obtain ⟨W, rfl⟩ := Int.eq_ofNat_of_zero_le hc1
    obtain ⟨hi1, hi2⟩ := pack_size l0.length W hc3 (by omega)
    have hpl := pbytes_le l0.length W hc3 (by omega)
    obtain ⟨S, hS⟩ : ∃ S : Nat, S = pbytes l0.length W := ⟨_, rfl⟩
    rw [← hS] at hi2 hpl
    have HS := Aside0.mk hS
    have HI1 := Aside0.mk hi1
    have HI2 := Aside0.mk hi2
    have HR := Aside0.mk hr0
    have HU := Aside0.mk hu
    rw [Int.toNat_natCast]
    clear hr0 h hi1 hi2 hS hu hc1
    go_enter Try.func23, Try.ntmps23
    go_wp2_with (first
      | (go_at_call 57; refine (bitpack_inRange.calls _ _ true _ HI1.out).mono ?_; rintro e w' ⟨rfl, ⟨nd, rfl⟩⟩)
      | (go_at_call 21; refine (bitpack_Size.calls _ _ _ _ HI2.out).mono ?_; rintro e w' ⟨rfl, ⟨nd2, rfl⟩⟩)
      | ((with_reducible refine gate_dst (N := 18) rfl ?_); refine Kd.R_make (Kd.int .u8) (w.heap.size + 1) 5 rfl (N := 18) rfl 26 _ _ rfl (S : Int) rfl rfl Try.underlying26 (.int .u8 0) 1 info5 rfl (by decide) (by omega) 0 (ok := fun k => w.heap.size + 1 ≤ k) (okp := fun _ => False) rfl (fun _ h => h.elim) (by simp) (by omega) (by omega) (Below.refl _ _) (by simp) ?_; intro v1 w1 hR1 hb1 hg1 hat1; (generalize hz : List.replicate (S : Int).toNat (0 : Int) = zs at hR1); have HZ := Aside0.mk hz; clear hz; obtain ⟨vA, vc, rfl⟩ := Kd.R_slice hR1))
    have hH := hb1.size
    have hHs : w.heap.size + 1 ≤ w1.heap.size := by have := hg1.size; simpa using this
    have hB0 : w1.heap[w.heap.size]? = some (.cells #[.int .i64 (W : Int)] 3 (0, 0)) := blk_grown (blk_drewN (blk_new _ _) _) hg1 (by simp)
    go_loopw [22] (fun v22 wr => ∃ (i p : Nat) (ys : List Int), i ≤ l0.length ∧ v22 = .int .i64 (i : Int) ∧ Aside0 (p = W * i) ∧ Aside0 (ys.length = zs.length) ∧ Aside0 (∀ x ∈ ys, 0 ≤ x ∧ x < 256) ∧ Aside0 (le ys = packN W (l0.take i)) ∧
      wr.heap[w.heap.size]? = some (.cells #[.int .i64 (W : Int)] 3 (0, 0)) ∧ wr.heap[w1.heap.size + 1]? = some (.cells #[.int .i64 (p : Int)] 3 (0, 0)) ∧ wr.heap[w1.heap.size]? = some (.cells #[.slice vA zs.length vc] 26 (0, 0)) ∧
      Aside0 (Kd.R (Kd.int .u8) 5 wr w.heap.size (fun k => k ≠ w.heap.size ∧ k ≠ w1.heap.size + 1 ∧ k ≠ w1.heap.size) (.slice vA zs.length vc) ys) ∧ Below w.heap.size w wr) (fun v22 _ => l0.length - (intOf v22).toNat)
    case atStart =>
      refine ⟨0, 0, zs, Nat.zero_le _, rfl, ⟨by simp⟩, ⟨rfl⟩, ⟨?_⟩, ⟨?_⟩, blk_alloc (blk_alloc hB0 _) _, blk_at _ _ _ (by simp), blk_alloc (blk_at _ _ _ rfl) _, ⟨Kd.R_alloc (Kd.R_alloc (Kd.R_lower (Kd.R_mono (Kd.R_bound hR1) (fun k hk => by omega)) (by omega)) _) _⟩, ?_⟩
      · intro x hx; rw [← HZ.out] at hx; have := List.eq_of_mem_replicate hx; omega
      · rw [← HZ.out, le_zeros]; rfl
      · exact below_alloc (below_alloc ((pw_below_drewN (below_alloc (Below.refl _ _) _) _).trans (hb1.mono (by omega))) _) _
    case round =>
      obtain ⟨i, p, ys, hi, rfl, hp, hyl, HY, HL, kW, kA, kO, HRy, hb⟩ := hrel
      by_cases hlt : i < l0.length
      · obtain ⟨ad, rfl, hcx⟩ := Kd.at_int HR.out (i : Int) (by omega) (by omega)
        have hcx' := pw_cell_below hb hcx
        rw [Int.toNat_natCast] at hcx'
        have hu1 : 0 ≤ rd l0 (i : Int) ∧ rd l0 (i : Int) < 18446744073709551616 := by
          have h1 := HU.out
          simp only [List.all_eq_true, Bool.and_eq_true, decide_eq_true_eq] at h1
          exact h1 _ (by rw [rd_nat, List.getD_eq_getElem?_getD, List.getElem?_eq_getElem hlt]; exact List.getElem_mem _)
        obtain ⟨n, hn⟩ : ∃ n : Nat, rd l0 (i : Int) = (n : Int) := ⟨(rd l0 (i : Int)).toNat, by omega⟩
        have hn64 : n < 18446744073709551616 := by omega
        rw [hn] at hcx'
        have HN := Aside0.mk hn
        clear hcx hu1 hn
        have hlt' : (i : Int) < (l0.length : Int) := by omega
        have hzS : zs.length = S := by rw [← HZ.out]; simp
        have HZS := Aside0.mk hzS
        clear hzS
        go_wp2_with (go_at_call 59; refine (bitpack_put w.heap.size w.heap.size (w1.heap.size + 1) w1.heap.size W p n vA vc ys _ kW kA (by rw [hyl.out]; exact kO) (by rw [hyl.out]; exact HRy.out) (by omega) (by omega) (by omega) (by omega) HY.out ?c1 ?c2 ?c3 (by omega) hn64).mono ?_)
        case c1 =>
          rw [HL.out, hp.out]
          have := packN_lt W (l0.take i)
          rwa [List.length_take, Nat.min_eq_left (by omega)] at this
        case c2 =>
          have h1 := hp.out; have h2 := hyl.out; have h3 := HZS.out; have h4 := HS.out
          rw [h2, h3, h4, h1]
          unfold pbytes
          have h5 : W * i + W ≤ l0.length * W := by rw [← Nat.mul_succ, Nat.mul_comm]; exact Nat.mul_le_mul_right _ hlt
          omega
        case c3 => have h2 := hyl.out; have h3 := HZS.out; omega
        rintro e w2 ⟨rfl, ys2, q1, q2, q3, q4, q5, q6, q7, q8⟩
        go_wp2
        go_roundw
        case rel =>
          refine ⟨i + 1, p + W, ys2, by omega, by go_num, ⟨by rw [hp.out, Nat.mul_succ]⟩, ⟨by rw [q1, hyl.out]⟩, ⟨q2⟩, ⟨?_⟩, q4, q5, by rw [hyl.out] at q6; exact q6, ⟨by rw [hyl.out] at q7; exact q7⟩, hb.trans q8⟩
          rw [q3, HL.out, take_snoc l0 i hlt, packN_snoc, hp.out, List.length_take, Nat.min_eq_left (by omega)]
          have h1 := HN.out
          rw [rd_nat] at h1
          rw [h1, Int.toNat_natCast]
        case measure => simp [intOf]; omega
      · have hil : i = l0.length := by omega
        subst hil
        have cO : wr.cell? ⟨w1.heap.size, 0, none⟩ = some (.slice vA zs.length vc) := by rw [blk_cell kO]; rfl
        have hpk : ys = packed l0 W := by
          unfold packed
          have h1 := HL.out
          rw [List.take_length] at h1
          rw [← h1, ← HS.out, ← show ys.length = S by rw [hyl.out, ← HZ.out]; simp]
          exact (fixed_le ys HY.out).symm
        have HPK := Aside0.mk hpk
        clear hpk
        go_wp2
        go_ret
        exact ⟨_, rfl, by rw [← HPK.out]; exact Kd.R_mono HRy.out (fun _ _ => trivial), hb⟩
  · unfold bitpack_Pack.f at h
    rw [if_neg hc] at h
    obtain rfl := Option.some.inj h
    have hi1 : bitpack_inRange.f (l0.length : Int) a1 = some false := by
      unfold bitpack_inRange.f
      rw [if_pos (by omega)]
      by_cases k1 : (l0.length : Int) ≤ 1048576
      · rw [if_pos k1]
        by_cases k2 : a1 ≥ 0
        · rw [if_pos k2, decide_eq_false (by omega)]
        · rw [if_neg k2]
      · rw [if_neg k1]
    have HI1 := Aside0.mk hi1
    clear hi1 h hc
    go_enter Try.func23, Try.ntmps23
    go_wp2_with (go_at_call 57; refine (bitpack_inRange.calls _ _ false _ HI1.out).mono ?_; rintro e w' ⟨rfl, ⟨nd, rfl⟩⟩)
    go_ret
    exact ⟨_, rfl, Kd.R_nil _ _ _ _ _, pw_below_drewN (below_alloc (Below.refl _ _) _) _⟩

/-! ### frameref_high: function 77 -/
def frameref_high.f (a0 : Int) (a1 : Int) : Option (Int) := if a1 ≥ 64 then (some 0) else (if 0 ≤ (IntKind.u64.wrap (a1)) then (some (shr .u64 a0 (IntKind.u64.wrap (a1)))) else (none))
set_option maxHeartbeats 8000000 in
set_option maxRecDepth 100000 in
theorem frameref_high.calls (a0 : Int) (a1 : Int) (r : Int) (w : World) (h : frameref_high.f a0 a1 = some r) :
  Calls Try.prog 77 #[.int .u64 a0, .int .i64 a1] w fun e w' => e = .returned (.int .u64 r) ∧ Drawn0 w w' := by
 have H : (if a1 ≥ 64 then (some 0) else (if 0 ≤ (IntKind.u64.wrap (a1)) then (some (shr .u64 a0 (IntKind.u64.wrap (a1)))) else (none))) = some r := h
 clear h
 by_cases c3 : a1 ≥ 64
 ·rw [if_pos c3] at H
  have c3b0 : decide (64 ≤ a1) = true := decide_eq_true c3
  clear c3
  obtain rfl := Option.some.inj H
  go_enter Try.func77, Try.ntmps77
  go_wp2
  go_ret
  exact ⟨by first | rfl | (simp; done) | (simp [*]; done), by repeat (first | exact Drawn0.refl _ | apply Drawn0.step)⟩
 ·rw [if_neg c3] at H
  have c3b0 : decide (64 ≤ a1) = false := decide_eq_false c3
  clear c3
  obtain ⟨ji4, hji4⟩ : ∃ j_ : Int, (IntKind.u64.wrap (a1)) = j_ := ⟨_, rfl⟩
  replace H : (if 0 ≤ (ji4) then (some (shr .u64 a0 (ji4))) else (none)) = some r := by first | (rw [hji4] at H; exact H) | (simp only [hji4] at H ⊢; exact H)
  by_cases c5 : 0 ≤ (ji4)
  ·rw [if_pos c5] at H
   have c5b0 := eq_true c5
   have c5b1 : decide (0 ≤ (ji4)) = true := decide_eq_true c5
   clear c5
   obtain ⟨ji6, hji6⟩ : ∃ j_ : Int, (shr .u64 a0 (ji4)) = j_ := ⟨_, rfl⟩
   replace H : (some ji6) = some r := by first | (rw [hji6] at H; exact H) | (simp only [hji6] at H ⊢; exact H)
   have hji6_ : (a0 / 2 ^ min (ji4).toNat 64) = ji6 := hji6
   have hji6z : (ji4) ≤ 64 → (a0 / 2 ^ (ji4).toNat) = ji6 := shr_small hji6
   obtain rfl := Option.some.inj H
   go_enter Try.func77, Try.ntmps77
   go_wp2
   go_ret
   exact ⟨by first | rfl | (simp; done) | (simp only [← hji4, ← hji6] <;> (first | rfl | simp)) | (simp [*]; done), by repeat (first | exact Drawn0.refl _ | apply Drawn0.step)⟩
  ·rw [if_neg c5] at H
   exact absurd H (by simp)

/-! ### frameref_differences: function 73 -/
mutual
def frameref_differences.l0 : Nat → List Int → Int → List Int → Int → Int → Option (Int × List Int)
 | 0, _, _, _, _, _ => none
 | k + 1, x0, x4, x10, x11, x12 => if x12 < x11 then (if 0 ≤ x12 then (if x12 < (x10.length : Int) then (if x12 = 0 then (frameref_differences.l0 k x0 (rd x10 x12) x10 x11 (wrap64 (x12 + 1))) else (if (rd x10 x12) < x4 then (frameref_differences.l0 k x0 (rd x10 x12) x10 x11 (wrap64 (x12 + 1))) else (frameref_differences.l0 k x0 x4 x10 x11 (wrap64 (x12 + 1))))) else (none)) else (none)) else (if 0 ≤ (x0.length : Int) then (if ((x0.length : Int) : Int).toNat ≤ 35184372088832 then (frameref_differences.l1 k x4 (List.replicate ((x0.length : Int) : Int).toNat 0) x0 (x0.length : Int) 0) else (none)) else (none))
def frameref_differences.l1 : Nat → Int → List Int → List Int → Int → Int → Option (Int × List Int)
 | 0, _, _, _, _, _ => none
 | k + 1, x4, x7, x29, x30, x31 => if x31 < x30 then (if 0 ≤ x31 then (if x31 < (x29.length : Int) then (if x31 < (x7.length : Int) then (frameref_differences.l1 k x4 (x7.set (x31 : Int).toNat (IntKind.u64.wrap ((IntKind.u64.wrap (rd x29 x31)) - (IntKind.u64.wrap (x4))))) x29 x30 (wrap64 (x31 + 1))) else (none)) else (none)) else (none)) else (some (x4, x7))
end
def frameref_differences.f (k : Nat) (l0 : List Int) : Option (Int × List Int) := frameref_differences.l0 k l0 0 l0 (l0.length : Int) 0
theorem frameref_differences.mono_l : ∀ k, (∀ y0 y1 y2 y3 y4, LeO (frameref_differences.l0 k y0 y1 y2 y3 y4) (frameref_differences.l0 (k + 1) y0 y1 y2 y3 y4)) ∧ (∀ y0 y1 y2 y3 y4, LeO (frameref_differences.l1 k y0 y1 y2 y3 y4) (frameref_differences.l1 (k + 1) y0 y1 y2 y3 y4))
 | 0 => ⟨fun _ _ _ _ _ r h => by simp [frameref_differences.l0] at h, fun _ _ _ _ _ r h => by simp [frameref_differences.l1] at h⟩
 | k + 1 => by
  obtain ⟨ih0, ih1⟩ := frameref_differences.mono_l k
  refine ⟨?_, ?_⟩
  ·intro y0 y1 y2 y3 y4
   unfold frameref_differences.l0
   repeat' first
   | (with_reducible exact ih0 _ _ _ _ _)
   | (with_reducible exact ih1 _ _ _ _ _)
   | (with_reducible exact LeO.refl _)
   | (with_reducible exact LeO.none _)
   | (with_reducible refine LeO.ite ?_ ?_)
   | (with_reducible refine LeO.bind ?_ (fun _ => ?_))
   | exact ih0 _ _ _ _ _
   | exact ih1 _ _ _ _ _
   | exact LeO.none _
   | refine LeO.ite ?_ ?_
   | refine LeO.bind ?_ (fun _ => ?_)
  ·intro y0 y1 y2 y3 y4
   unfold frameref_differences.l1
   repeat' first
   | (with_reducible exact ih0 _ _ _ _ _)
   | (with_reducible exact ih1 _ _ _ _ _)
   | (with_reducible exact LeO.refl _)
   | (with_reducible exact LeO.none _)
   | (with_reducible refine LeO.ite ?_ ?_)
   | (with_reducible refine LeO.bind ?_ (fun _ => ?_))
   | exact ih0 _ _ _ _ _
   | exact ih1 _ _ _ _ _
   | exact LeO.none _
   | refine LeO.ite ?_ ?_
   | refine LeO.bind ?_ (fun _ => ?_)
theorem frameref_differences.mono : ∀ a0 k, LeO (frameref_differences.f k a0) (frameref_differences.f (k + 1) a0) := by
 intro a0 k
 obtain ⟨ih0, ih1⟩ := frameref_differences.mono_l k
 unfold frameref_differences.f
 repeat' first
   | (with_reducible exact ih0 _ _ _ _ _)
   | (with_reducible exact ih1 _ _ _ _ _)
   | (with_reducible exact LeO.refl _)
   | (with_reducible exact LeO.none _)
   | (with_reducible refine LeO.ite ?_ ?_)
   | (with_reducible refine LeO.bind ?_ (fun _ => ?_))
   | exact ih0 _ _ _ _ _
   | exact ih1 _ _ _ _ _
   | exact LeO.none _
   | refine LeO.ite ?_ ?_
   | refine LeO.bind ?_ (fun _ => ?_)
set_option maxHeartbeats 8000000 in
set_option maxRecDepth 100000 in
theorem frameref_differences.calls (k : Nat) (A0 : Option Addr) (c0 : Nat) (l0 : List Int) (r1 : Int) (r2 : List Int) (w : World) (hr0 : Kd.C (Kd.int .i64) w A0 l0.length l0) (hc0 : l0.length ≤ c0) (h : frameref_differences.f k l0 = some (r1, r2)) :
  Calls Try.prog 73 #[.slice A0 l0.length c0] w fun e w' => ∃ v1_ : Value, e = .returned (.tuple #[.int .i64 r1, v1_]) ∧ Kd.R (Kd.int .u64) 35 w' w.heap.size (fun _ => True) v1_ r2 ∧ Below w.heap.size w w' := by
 have HR0 := Aside0.mk hr0
 have HC0 := Aside0.mk hc0
 clear hr0 hc0
 have HB := Aside0.mk (Below.refl w.heap.size w)
 have H : (frameref_differences.l0 k l0 0 l0 (l0.length : Int) 0) = some (r1, r2) := h
 clear h
 have H' := Aside0.mk H
 clear H
 go_enter Try.func73, Try.ntmps73
 go_wp2
 go_loopg [4, 12] k (fun kq v4 v12 w' => ∃ (x4_1 : Int) (x12_1 : Int), v4 = .int .i64 x4_1 ∧ v12 = .int .i64 x12_1 ∧ Aside0 (frameref_differences.l0 kq l0 x4_1 l0 (l0.length : Int) x12_1 = some (r1, r2)) ∧ Aside0 (kq ≤ k) ∧ Aside0 (Below w.heap.size w w'))
 case atStart => exact ⟨(0), (0), (by first | rfl | (simp; done) | (simp [*]; done)), (by first | rfl | (simp; done) | (simp [*]; done)), H', ⟨Nat.le_refl _⟩, ⟨by repeat (first | (with_reducible first | exact HB.out | apply below_alloc | apply pw_below_drewN | apply below_drew1) | exact HB.out)⟩⟩
 case round =>
  clear H'
  obtain ⟨x4_1, x12_1, rfl, rfl, HA, HK1, HB⟩ := hrel
  cases gk with
  | zero => exact absurd HA.out (by simp [frameref_differences.l0])
  | succ k1 =>
   have H := HA.out
   clear HA
   simp only [frameref_differences.l0] at H
   by_cases c2 : x12_1 < (l0.length : Int)
   ·rw [if_pos c2] at H
    have c2b0 : decide (x12_1 < (l0.length : Int)) = true := decide_eq_true c2
    clear c2
    by_cases c3 : 0 ≤ x12_1
    ·rw [if_pos c3] at H
     have c3b0 : decide (0 ≤ x12_1) = true := decide_eq_true c3
     clear c3
     by_cases c4 : x12_1 < (l0.length : Int)
     ·rw [if_pos c4] at H
      have c4b0 : decide (x12_1 < (l0.length : Int)) = true := decide_eq_true c4
      clear c4
      by_cases c5 : x12_1 = 0
      ·rw [if_pos c5] at H
       have c5b0 : (x12_1 == 0) = true := beq_iff_eq.mpr c5
       have c5b1 : (x12_1 != 0) = false := bne_eq_false_iff_eq.mpr c5
       clear c5
       have H' := Aside0.mk H
       clear H
       have p120 : 0 ≤ (x12_1 : Int) := of_decide_eq_true (by first | (with_reducible assumption) | assumption)
       have q120 : x12_1 < (l0.length : Int) := of_decide_eq_true (by first | (with_reducible assumption) | assumption)
       obtain ⟨ad120, e120, hx120_0⟩ := Kd.at_int HR0.out x12_1 p120 q120
       cases e120
       replace hx120_0 := (HB.out.cell (World.block_lt_of_cell? w _ hx120_0)).trans hx120_0
       replace p120 := eq_true p120
       replace q120 := eq_true q120
       go_wp2
       go_roundg k1
       case measure => have := HK1.out; omega
       case rel => exact ⟨(rd l0 x12_1), (wrap64 (x12_1 + 1)), (by first | rfl | (simp; done) | (simp [*]; done)), (by first | rfl | (simp; done) | (simp [*]; done)), H', ⟨by have := HK1.out; omega⟩, ⟨by repeat (first | (with_reducible first | exact HB.out | apply below_alloc | apply pw_below_drewN | apply below_drew1) | exact HB.out)⟩⟩
      ·rw [if_neg c5] at H
       have c5b0 : (x12_1 == 0) = false := beq_eq_false_iff_ne.mpr c5
       have c5b1 : (x12_1 != 0) = true := bne_iff_ne.mpr c5
       by_cases c6 : (rd l0 x12_1) < x4_1
       ·rw [if_pos c6] at H
        have c6b0 : decide ((rd l0 x12_1) < x4_1) = true := decide_eq_true c6
        clear c6
        have H' := Aside0.mk H
        clear H
        have p120 : 0 ≤ (x12_1 : Int) := of_decide_eq_true (by first | (with_reducible assumption) | assumption)
        have q120 : x12_1 < (l0.length : Int) := of_decide_eq_true (by first | (with_reducible assumption) | assumption)
        obtain ⟨ad120, e120, hx120_0⟩ := Kd.at_int HR0.out x12_1 p120 q120
        cases e120
        replace hx120_0 := (HB.out.cell (World.block_lt_of_cell? w _ hx120_0)).trans hx120_0
        replace p120 := eq_true p120
        replace q120 := eq_true q120
        go_wp2
        go_roundg k1
        case measure => have := HK1.out; omega
        case rel => exact ⟨(rd l0 x12_1), (wrap64 (x12_1 + 1)), (by first | rfl | (simp; done) | (simp [*]; done)), (by first | rfl | (simp; done) | (simp [*]; done)), H', ⟨by have := HK1.out; omega⟩, ⟨by repeat (first | (with_reducible first | exact HB.out | apply below_alloc | apply pw_below_drewN | apply below_drew1) | exact HB.out)⟩⟩
       ·rw [if_neg c6] at H
        have c6b0 : decide ((rd l0 x12_1) < x4_1) = false := decide_eq_false c6
        clear c6
        have H' := Aside0.mk H
        clear H
        have p120 : 0 ≤ (x12_1 : Int) := of_decide_eq_true (by first | (with_reducible assumption) | assumption)
        have q120 : x12_1 < (l0.length : Int) := of_decide_eq_true (by first | (with_reducible assumption) | assumption)
        obtain ⟨ad120, e120, hx120_0⟩ := Kd.at_int HR0.out x12_1 p120 q120
        cases e120
        replace hx120_0 := (HB.out.cell (World.block_lt_of_cell? w _ hx120_0)).trans hx120_0
        replace p120 := eq_true p120
        replace q120 := eq_true q120
        go_wp2
        go_roundg k1
        case measure => have := HK1.out; omega
        case rel => exact ⟨(x4_1), (wrap64 (x12_1 + 1)), (by first | rfl | (simp; done) | (simp [*]; done)), (by first | rfl | (simp; done) | (simp [*]; done)), H', ⟨by have := HK1.out; omega⟩, ⟨by repeat (first | (with_reducible first | exact HB.out | apply below_alloc | apply pw_below_drewN | apply below_drew1) | exact HB.out)⟩⟩
     ·rw [if_neg c4] at H
      exact absurd H (by simp)
    ·rw [if_neg c3] at H
     exact absurd H (by simp)
   ·rw [if_neg c2] at H
    have c2b0 : decide (x12_1 < (l0.length : Int)) = false := decide_eq_false c2
    clear c2
    by_cases c7 : 0 ≤ (l0.length : Int)
    ·rw [if_pos c7] at H
     have c7b0 := eq_true c7
     have c7b1 : decide (0 ≤ (l0.length : Int)) = true := decide_eq_true c7
     clear c7
     by_cases c8 : ((l0.length : Int) : Int).toNat ≤ 35184372088832
     ·rw [if_pos c8] at H
      have c8b0 := eq_true c8
      have c8b1 : decide (((l0.length : Int) : Int).toNat ≤ 35184372088832) = true := decide_eq_true c8
      clear c8
      obtain ⟨y121, hy121⟩ : ∃ y_ : List Int, y_ = (List.replicate ((l0.length : Int) : Int).toNat 0) := ⟨_, rfl⟩
      replace H : (frameref_differences.l1 k1 x4_1 y121 l0 (l0.length : Int) 0) = some (r1, r2) := by first | (rw [hy121]; with_reducible exact H) | (have H2_ := (Option.bind_some _ _).symm.trans H; rw [hy121]; with_reducible exact H2_) | (have H2_ := (Option.bind_some _ _).symm.trans H; with_reducible exact H2_) | with_reducible exact H | (rw [hy121]; exact H) | exact H
      have Ny121 := Aside0.mk hy121
      clear hy121
      have H' := Aside0.mk H
      clear H
      go_wp2_with (first | ((with_reducible refine gate_dst (N := 28) rfl ?_); refine Kd.R_make (Kd.int .u64) _ 35 rfl (N := 28) rfl 22 _ _ rfl (l0.length : Int) rfl rfl Try.underlying22 (.int .u64 0) 8 info35 rfl (by decide) (by omega) 0 (ok := fun _ => True) (okp := fun _ => True) rfl (fun _ hk => hk) trivial (of_decide_eq_true (by first | (with_reducible assumption) | assumption)) (Nat.le_trans (Nat.mul_le_mul_right _ (of_decide_eq_true (by first | (with_reducible assumption) | assumption) : (l0.length : Int).toNat ≤ 35184372088832)) (by omega)) (Below.refl _ _) (Nat.le_refl _) ?_; intro v122 w9 ho10 hb hg_ hnew_; clear hg_ hnew_; (first | rw [← Ny121.out] at ho10 | (simp only [Int.reduceToNat] at ho10; rw [← Ny121.out] at ho10)); have n0_ := Aside0.mk (Kd.R_lower ho10 (below_size (by repeat (first | (with_reducible first | exact HB.out | apply below_alloc | apply pw_below_drewN | apply below_drew1) | exact HB.out)))); have n1_ := Aside0.mk (below_step (by repeat (first | (with_reducible first | exact HB.out | apply below_alloc | apply pw_below_drewN | apply below_drew1) | exact HB.out)) hb); clear HB; have HO123 := n0_; have HB := n1_; clear n0_ n1_; clear hb ho10))
      go_loopg [31] k1 (fun kq v31 w' => ∃ (x7_2 : List Int) (x31_2 : Int), v31 = .int .i64 x31_2 ∧ Aside0 (frameref_differences.l1 kq x4_1 x7_2 l0 (l0.length : Int) x31_2 = some (r1, r2)) ∧ Aside0 (kq ≤ k1) ∧ Aside0 (Kd.R (Kd.int .u64) 35 w' w.heap.size (fun _ => True) v122 x7_2) ∧ Aside0 (Below w.heap.size w w'))
      case atStart => exact ⟨(y121), (0), (by first | rfl | (simp; done) | (simp [*]; done)), H', ⟨Nat.le_refl _⟩, ⟨by (with_reducible repeat (first | apply Kd.R_alloc | apply Kd.R_drewN | apply Kd.R_drew)); exact HO123.out⟩, ⟨by repeat (first | (with_reducible first | exact HB.out | apply below_alloc | apply pw_below_drewN | apply below_drew1) | exact HB.out)⟩⟩
      case round =>
       clear H'
       try clear p1
       try clear q1
       try clear hx1
       try clear c2
       try clear c2b0
       try clear p2
       try clear c3
       try clear c3b0
       try clear c4
       try clear c4b0
       try clear c5
       try clear c5b0
       try clear c5b1
       try clear c6
       try clear c6b0
       try clear p6
       try clear c7
       try clear c7b0
       try clear c7b1
       try clear c8
       try clear c8b0
       try clear c8b1
       try clear hx120_0
       try clear p120
       try clear q120
       obtain ⟨x7_2, x31_2, rfl, HA, HK2, HO_7, HB⟩ := hrel
       cases gk with
       | zero => exact absurd HA.out (by simp [frameref_differences.l1])
       | succ k2 =>
        have H := HA.out
        clear HA
        simp only [frameref_differences.l1] at H
        by_cases c11 : x31_2 < (l0.length : Int)
        ·rw [if_pos c11] at H
         have c11b0 : decide (x31_2 < (l0.length : Int)) = true := decide_eq_true c11
         clear c11
         by_cases c12 : 0 ≤ x31_2
         ·rw [if_pos c12] at H
          have c12b0 : decide (0 ≤ x31_2) = true := decide_eq_true c12
          clear c12
          by_cases c13 : x31_2 < (l0.length : Int)
          ·rw [if_pos c13] at H
           have c13b0 : decide (x31_2 < (l0.length : Int)) = true := decide_eq_true c13
           clear c13
           by_cases c14 : x31_2 < (x7_2.length : Int)
           ·rw [if_pos c14] at H
            have c14b0 : decide (x31_2 < (x7_2.length : Int)) = true := decide_eq_true c14
            clear c14
            obtain ⟨y125, hy125⟩ : ∃ y_ : List Int, y_ = (x7_2.set (x31_2 : Int).toNat (IntKind.u64.wrap ((IntKind.u64.wrap (rd l0 x31_2)) - (IntKind.u64.wrap (x4_1))))) := ⟨_, rfl⟩
            replace H : (frameref_differences.l1 k2 x4_1 y125 l0 (l0.length : Int) (wrap64 (x31_2 + 1))) = some (r1, r2) := by first | (rw [hy125]; with_reducible exact H) | (have H2_ := (Option.bind_some _ _).symm.trans H; rw [hy125]; with_reducible exact H2_) | (have H2_ := (Option.bind_some _ _).symm.trans H; with_reducible exact H2_) | with_reducible exact H | (rw [hy125]; exact H) | exact H
            have Ny125 := Aside0.mk hy125
            clear hy125
            have H' := Aside0.mk H
            clear H
            have p124 : 0 ≤ (x31_2 : Int) := of_decide_eq_true (by first | (with_reducible assumption) | assumption)
            have q124 : x31_2 < (l0.length : Int) := of_decide_eq_true (by first | (with_reducible assumption) | assumption)
            obtain ⟨ad124, e124, hx124_0⟩ := Kd.at_int HR0.out x31_2 p124 q124
            cases e124
            replace hx124_0 := (HB.out.cell (World.block_lt_of_cell? w _ hx124_0)).trans hx124_0
            replace p124 := eq_true p124
            replace q124 := eq_true q124
            have p15 : 0 ≤ (x31_2 : Int) := of_decide_eq_true (by first | (with_reducible assumption) | assumption)
            have q15 : (x31_2 : Int) < ((x7_2.length : Int) : Int) := of_decide_eq_true (by first | (with_reducible assumption) | assumption)
            obtain ⟨go15, co15, eo15, gb15, gl15, cl15, HG15⟩ := Kd.R_form HO_7.out (by omega)
            (first | cases eo15 | (injection eo15 with ea_ en_ ec_; (first | subst ea_ | (injection ea_ with ea_; subst ea_)); subst ec_; clear en_))
            have GB15 := Aside0.mk gb15
            have GG15 := Aside0.mk HG15
            clear gb15 gl15 HG15
            obtain ⟨hx15_0, hf15_0⟩ := Kd.R_celln 0 HO_7.out (x31_2 : Int) p15 q15
            replace p15 := eq_true p15
            replace q15 := eq_true q15
            have HP16 := Kd.R_putg HO_7.out (x31_2 : Int) (IntKind.u64.wrap ((IntKind.u64.wrap (rd l0 x31_2)) - (IntKind.u64.wrap (x4_1))))
            go_wp2_with (first | ((with_reducible refine gate_store (t := 35) (p := 43) rfl ?_); refine store_event (t := 35) (p := 43) (v := ?vo_w17) (w1 := (wr.setCell ⟨go15, (x31_2 : Int).toNat, none⟩ (.int .u64 (IntKind.u64.wrap ((IntKind.u64.wrap (rd l0 x31_2)) - (IntKind.u64.wrap (x4_1))))))) ?hg ?ho ?hn ?hr ?_; (case ho => rfl); (case hg => (first | rfl | (simp only [*]; rfl) | (simp [*]; done))); (case hn => rfl); (case hr => first | (go_simp; done) | (go_simp; rfl)); intro w17 hw; have hg : wr.grownBy w17 (some go15) := (by rw [hw]; exact HP16.2); have hp_ : Kd.R (Kd.int .u64) 35 w17 w.heap.size (fun _ => True) (.slice (some ⟨go15, 0, none⟩) x7_2.length co15) y125 := (by rw [hw, Ny125.out]; exact HP16.1); clear HP16; have n0_ := Aside0.mk (hp_); have n1_ := Aside0.mk ((by rw [hw]; exact below_set (HB.out) GB15.out : Below w.heap.size w w17)); clear HO_7; clear HB; have HO_7 := n0_; have HB := n1_; clear n0_ n1_; clear hg hw hp_))
            go_roundg k2
            case measure => have := HK1.out; have := HK2.out; omega
            case rel => exact ⟨(y125), (wrap64 (x31_2 + 1)), (by first | rfl | (simp; done) | (simp [*]; done)), H', ⟨by have := HK1.out; have := HK2.out; omega⟩, ⟨by (with_reducible repeat (first | apply Kd.R_alloc | apply Kd.R_drewN | apply Kd.R_drew)); exact HO_7.out⟩, ⟨by repeat (first | (with_reducible first | exact HB.out | apply below_alloc | apply pw_below_drewN | apply below_drew1) | exact HB.out)⟩⟩
           ·rw [if_neg c14] at H
            exact absurd H (by simp)
          ·rw [if_neg c13] at H
           exact absurd H (by simp)
         ·rw [if_neg c12] at H
          exact absurd H (by simp)
        ·rw [if_neg c11] at H
         have c11b0 : decide (x31_2 < (l0.length : Int)) = false := decide_eq_false c11
         clear c11
         simp only [Option.some.injEq, Prod.mk.injEq] at H
         obtain ⟨rfl, rfl⟩ := H
         go_wp2
         go_ret2
         exact ⟨_, by first | rfl | (simp [errW_none, errW_some] <;> rfl) | (simp [*, errW_none, errW_some] <;> rfl), by (with_reducible repeat (first | apply Kd.R_alloc | apply Kd.R_drewN | apply Kd.R_drew)); exact HO_7.out, by repeat (first | (with_reducible first | exact HB.out | apply below_alloc | apply pw_below_drewN | apply below_drew1) | exact HB.out)⟩
     ·rw [if_neg c8] at H
      exact absurd H (by simp)
    ·rw [if_neg c7] at H
     exact absurd H (by simp)

/-! ### frameref_narrowest: function 74 -/
def frameref_narrowest.f : Option Unit := some ()
/-- 65 lengths as cells. -/
def lens (f : Nat → Nat) : Array Value := ((List.range 65).map fun i => Value.int .i64 ((f i : Nat) : Int)).toArray
theorem lens_get (f : Nat → Nat) (i : Nat) (h : i < 65) : (lens f)[i]? = some (.int .i64 ((f i : Nat) : Int)) := by simp [lens, h]
theorem lens_size (f : Nat → Nat) : (lens f).size = 65 := by simp [lens]
set_option maxHeartbeats 1000000 in
set_option maxRecDepth 100000 in
theorem frameref_narrowest.calls (f : Nat → Nat) (w : World) :
    Calls Try.prog 74 #[.agg (lens f)] w fun e w' => e = .returned (.int .i64 ((argm f 64 : Nat) : Int)) ∧ Below w.heap.size w w' := by
  go_enter Try.func74, Try.ntmps74
  obtain ⟨cs, hcs⟩ : ∃ cs, cs = lens f := ⟨_, rfl⟩
  rw [← hcs]
  have HCS := Aside0.mk hcs
  clear hcs
  go_wp2_with ((with_reducible refine gate_dst (N := 1) rfl ?_); go_loud (refine box_event ?hg (N := 1) ?hd (cs := cs) (t := 90) ?hr ?_; (case hd => rfl); (case hg => rfl); (case hr => first | (go_simp; done) | (go_simp; rfl)); intro g0 hg0 w1 hb0 hB0))
  subst hg0
  have B1 := Aside0.mk hB0
  have H1 := Aside0.mk hb0
  clear hB0 hb0
  go_loopw [3, 5] (fun v3 v5 wr => ∃ (i b : Nat), i ≤ 65 ∧ Aside0 (b = argm f (i - 1)) ∧ b ≤ 64 ∧ v3 = .int .i64 (b : Int) ∧ v5 = .int .i64 (i : Int) ∧ Drawn0 w1 wr) (fun _ v5 _ => 65 - (intOf v5).toNat)
  case atStart => exact ⟨0, 0, by omega, ⟨rfl⟩, by omega, rfl, rfl, Drawn0.refl _⟩
  case round =>
    obtain ⟨i, b, hi, hb, hb64, rfl, rfl, ⟨m, rfl⟩⟩ := hrel
    by_cases hlt : i < 65
    · have hlt' : (i : Int) < 65 := by omega
      have hb' : (b : Int) < 65 := by omega
      have hi0 : (0 : Int) ≤ (i : Int) := by omega
      have hb0 : (0 : Int) ≤ (b : Int) := by omega
      have c1 : (w1.drewN m).cell? ⟨w.heap.size, i, none⟩ = some (.int .i64 ((f i : Nat) : Int)) := by
        have : (w1.drewN m).heap[w.heap.size]? = some (.cells cs 90 (0, 0)) := H1.out
        rw [blk_cell this, HCS.out]; exact lens_get f i hlt
      have c2 : (w1.drewN m).cell? ⟨w.heap.size, b, none⟩ = some (.int .i64 ((f b : Nat) : Int)) := by
        have : (w1.drewN m).heap[w.heap.size]? = some (.cells cs 90 (0, 0)) := H1.out
        rw [blk_cell this, HCS.out]; exact lens_get f b (by omega)
      obtain ⟨x, hx⟩ : ∃ x, x = f i := ⟨_, rfl⟩
      obtain ⟨y, hy⟩ : ∃ y, y = f b := ⟨_, rfl⟩
      rw [← hx] at c1
      rw [← hy] at c2
      have d1 : w1.cell? ⟨w.heap.size, i, none⟩ = some (.int .i64 (x : Int)) := c1
      have d2 : w1.cell? ⟨w.heap.size, b, none⟩ = some (.int .i64 (y : Int)) := c2
      clear c1 c2
      have hstep : argm f i = if i = 0 then 0 else if x < y then i else b := by
        by_cases h0 : i = 0
        · subst h0; rfl
        · rw [if_neg h0, hx, hy]
          obtain ⟨j, rfl⟩ : ∃ j, i = j + 1 := ⟨i - 1, by omega⟩
          simp only [argm]
          rw [Nat.add_sub_cancel] at hb
          rw [← hb.out]
      have hxy : i = 0 → x = y := by
        intro h0; subst h0; rw [hx, hy, hb.out]; rfl
      have HS := Aside0.mk hstep
      have HXY := Aside0.mk hxy
      clear hstep hxy hx hy
      by_cases hc : (x : Int) < (y : Int)
      · go_wp2
        go_region
        go_wp2
        refine ⟨⟨i + 1, i, by omega, ⟨?_⟩, by omega, by simp, by simp, (Drawn0.refl _).step _⟩, ?_⟩
        · rw [Nat.add_sub_cancel, HS.out]
          by_cases h0 : i = 0
          · have := HXY.out h0; omega
          · rw [if_neg h0, if_pos (by omega)]
        · simp [intOf]; omega
      · go_wp2
        go_region
        go_wp2
        refine ⟨⟨i + 1, b, by omega, ⟨?_⟩, by omega, by simp, by simp, (Drawn0.refl _).step _⟩, ?_⟩
        · rw [Nat.add_sub_cancel, HS.out]
          by_cases h0 : i = 0
          · rw [if_pos h0, hb.out, h0]; rfl
          · rw [if_neg h0, if_neg (by omega)]
        · simp [intOf]; omega
    · obtain rfl : i = 65 := by omega
      have hf := hb.out
      have HF := Aside0.mk hf
      clear hf
      go_wp2
      go_ret
      exact ⟨by rw [HF.out]; rfl, pw_below_drewN B1.out _⟩
theorem below_row {B g : Nat} {w0 w : World} (hb : Below B w0 w) (hg : B ≤ g) (cs : Array Value) : Below B w0 (w.setRow g cs) :=
  ⟨hb.os, hb.tape, hb.output, by rw [size_setRow]; exact hb.size, fun k hk => (setRow_other w g k cs (by omega)).trans (hb.block k hk)⟩

/-! ### bits_Len64: function 85 -/
def bits_Len64.j0 : Nat → Int → Int → Option (Int)
 | 0, _, _ => none
 | k + 1, x0, x2 => if x0 ≥ 65536 then (if (x0 / 65536) ≥ 256 then (if 0 ≤ (((x0 / 65536) / 256) % 256) then (if (((x0 / 65536) / 256) % 256) < 256 then (some (wrap64 ((wrap64 ((wrap64 (x2 + 16)) + 8)) + (wrap64 (bt (⟨#[0, 1, 2, 2, 3, 3, 3, 3, 4, 4, 4, 4, 4, 4, 4, 4, 5, 5, 5, 5, 5, 5, 5, 5, 5, 5, 5, 5, 5, 5, 5, 5, 6, 6, 6, 6, 6, 6, 6, 6, 6, 6, 6, 6, 6, 6, 6, 6, 6, 6, 6, 6, 6, 6, 6, 6, 6, 6, 6, 6, 6, 6, 6, 6, 7, 7, 7, 7, 7, 7, 7, 7, 7, 7, 7, 7, 7, 7, 7, 7, 7, 7, 7, 7, 7, 7, 7, 7, 7, 7, 7, 7, 7, 7, 7, 7, 7, 7, 7, 7, 7, 7, 7, 7, 7, 7, 7, 7, 7, 7, 7, 7, 7, 7, 7, 7, 7, 7, 7, 7, 7, 7, 7, 7, 7, 7, 7, 7, 8, 8, 8, 8, 8, 8, 8, 8, 8, 8, 8, 8, 8, 8, 8, 8, 8, 8, 8, 8, 8, 8, 8, 8, 8, 8, 8, 8, 8, 8, 8, 8, 8, 8, 8, 8, 8, 8, 8, 8, 8, 8, 8, 8, 8, 8, 8, 8, 8, 8, 8, 8, 8, 8, 8, 8, 8, 8, 8, 8, 8, 8, 8, 8, 8, 8, 8, 8, 8, 8, 8, 8, 8, 8, 8, 8, 8, 8, 8, 8, 8, 8, 8, 8, 8, 8, 8, 8, 8, 8, 8, 8, 8, 8, 8, 8, 8, 8, 8, 8, 8, 8, 8, 8, 8, 8, 8, 8, 8, 8, 8, 8, 8, 8, 8, 8, 8, 8, 8, 8, 8, 8, 8, 8, 8, 8, 8, 8]⟩ : ByteArray) (((x0 / 65536) / 256) % 256)))))) else (none)) else (none)) else (if 0 ≤ ((x0 / 65536) % 256) then (if ((x0 / 65536) % 256) < 256 then (some (wrap64 ((wrap64 (x2 + 16)) + (wrap64 (bt (⟨#[0, 1, 2, 2, 3, 3, 3, 3, 4, 4, 4, 4, 4, 4, 4, 4, 5, 5, 5, 5, 5, 5, 5, 5, 5, 5, 5, 5, 5, 5, 5, 5, 6, 6, 6, 6, 6, 6, 6, 6, 6, 6, 6, 6, 6, 6, 6, 6, 6, 6, 6, 6, 6, 6, 6, 6, 6, 6, 6, 6, 6, 6, 6, 6, 7, 7, 7, 7, 7, 7, 7, 7, 7, 7, 7, 7, 7, 7, 7, 7, 7, 7, 7, 7, 7, 7, 7, 7, 7, 7, 7, 7, 7, 7, 7, 7, 7, 7, 7, 7, 7, 7, 7, 7, 7, 7, 7, 7, 7, 7, 7, 7, 7, 7, 7, 7, 7, 7, 7, 7, 7, 7, 7, 7, 7, 7, 7, 7, 8, 8, 8, 8, 8, 8, 8, 8, 8, 8, 8, 8, 8, 8, 8, 8, 8, 8, 8, 8, 8, 8, 8, 8, 8, 8, 8, 8, 8, 8, 8, 8, 8, 8, 8, 8, 8, 8, 8, 8, 8, 8, 8, 8, 8, 8, 8, 8, 8, 8, 8, 8, 8, 8, 8, 8, 8, 8, 8, 8, 8, 8, 8, 8, 8, 8, 8, 8, 8, 8, 8, 8, 8, 8, 8, 8, 8, 8, 8, 8, 8, 8, 8, 8, 8, 8, 8, 8, 8, 8, 8, 8, 8, 8, 8, 8, 8, 8, 8, 8, 8, 8, 8, 8, 8, 8, 8, 8, 8, 8, 8, 8, 8, 8, 8, 8, 8, 8, 8, 8, 8, 8, 8, 8, 8, 8, 8, 8]⟩ : ByteArray) ((x0 / 65536) % 256)))))) else (none)) else (none))) else (if x0 ≥ 256 then (if 0 ≤ ((x0 / 256) % 256) then (if ((x0 / 256) % 256) < 256 then (some (wrap64 ((wrap64 (x2 + 8)) + (wrap64 (bt (⟨#[0, 1, 2, 2, 3, 3, 3, 3, 4, 4, 4, 4, 4, 4, 4, 4, 5, 5, 5, 5, 5, 5, 5, 5, 5, 5, 5, 5, 5, 5, 5, 5, 6, 6, 6, 6, 6, 6, 6, 6, 6, 6, 6, 6, 6, 6, 6, 6, 6, 6, 6, 6, 6, 6, 6, 6, 6, 6, 6, 6, 6, 6, 6, 6, 7, 7, 7, 7, 7, 7, 7, 7, 7, 7, 7, 7, 7, 7, 7, 7, 7, 7, 7, 7, 7, 7, 7, 7, 7, 7, 7, 7, 7, 7, 7, 7, 7, 7, 7, 7, 7, 7, 7, 7, 7, 7, 7, 7, 7, 7, 7, 7, 7, 7, 7, 7, 7, 7, 7, 7, 7, 7, 7, 7, 7, 7, 7, 7, 8, 8, 8, 8, 8, 8, 8, 8, 8, 8, 8, 8, 8, 8, 8, 8, 8, 8, 8, 8, 8, 8, 8, 8, 8, 8, 8, 8, 8, 8, 8, 8, 8, 8, 8, 8, 8, 8, 8, 8, 8, 8, 8, 8, 8, 8, 8, 8, 8, 8, 8, 8, 8, 8, 8, 8, 8, 8, 8, 8, 8, 8, 8, 8, 8, 8, 8, 8, 8, 8, 8, 8, 8, 8, 8, 8, 8, 8, 8, 8, 8, 8, 8, 8, 8, 8, 8, 8, 8, 8, 8, 8, 8, 8, 8, 8, 8, 8, 8, 8, 8, 8, 8, 8, 8, 8, 8, 8, 8, 8, 8, 8, 8, 8, 8, 8, 8, 8, 8, 8, 8, 8, 8, 8, 8, 8, 8, 8]⟩ : ByteArray) ((x0 / 256) % 256)))))) else (none)) else (none)) else (if 0 ≤ ((x0) % 256) then (if ((x0) % 256) < 256 then (some (wrap64 (x2 + (wrap64 (bt (⟨#[0, 1, 2, 2, 3, 3, 3, 3, 4, 4, 4, 4, 4, 4, 4, 4, 5, 5, 5, 5, 5, 5, 5, 5, 5, 5, 5, 5, 5, 5, 5, 5, 6, 6, 6, 6, 6, 6, 6, 6, 6, 6, 6, 6, 6, 6, 6, 6, 6, 6, 6, 6, 6, 6, 6, 6, 6, 6, 6, 6, 6, 6, 6, 6, 7, 7, 7, 7, 7, 7, 7, 7, 7, 7, 7, 7, 7, 7, 7, 7, 7, 7, 7, 7, 7, 7, 7, 7, 7, 7, 7, 7, 7, 7, 7, 7, 7, 7, 7, 7, 7, 7, 7, 7, 7, 7, 7, 7, 7, 7, 7, 7, 7, 7, 7, 7, 7, 7, 7, 7, 7, 7, 7, 7, 7, 7, 7, 7, 8, 8, 8, 8, 8, 8, 8, 8, 8, 8, 8, 8, 8, 8, 8, 8, 8, 8, 8, 8, 8, 8, 8, 8, 8, 8, 8, 8, 8, 8, 8, 8, 8, 8, 8, 8, 8, 8, 8, 8, 8, 8, 8, 8, 8, 8, 8, 8, 8, 8, 8, 8, 8, 8, 8, 8, 8, 8, 8, 8, 8, 8, 8, 8, 8, 8, 8, 8, 8, 8, 8, 8, 8, 8, 8, 8, 8, 8, 8, 8, 8, 8, 8, 8, 8, 8, 8, 8, 8, 8, 8, 8, 8, 8, 8, 8, 8, 8, 8, 8, 8, 8, 8, 8, 8, 8, 8, 8, 8, 8, 8, 8, 8, 8, 8, 8, 8, 8, 8, 8, 8, 8, 8, 8, 8, 8, 8, 8]⟩ : ByteArray) ((x0) % 256)))))) else (none)) else (none)))
def bits_Len64.f (k : Nat) (a0 : Int) : Option (Int) := if a0 ≥ 4294967296 then (bits_Len64.j0 k (a0 / 4294967296) 32) else (bits_Len64.j0 k a0 0)
theorem bits_Len64.mono_l : ∀ k, (∀ y0 y1, LeO (bits_Len64.j0 k y0 y1) (bits_Len64.j0 (k + 1) y0 y1))
 | 0 => fun _ _ r h => by simp [bits_Len64.j0] at h
 | k + 1 => by
  have ih0 := bits_Len64.mono_l k
  ·intro y0 y1
   unfold bits_Len64.j0
   repeat' first
   | (with_reducible exact ih0 _ _)
   | (with_reducible exact LeO.refl _)
   | (with_reducible exact LeO.none _)
   | (with_reducible refine LeO.ite ?_ ?_)
   | (with_reducible refine LeO.bind ?_ (fun _ => ?_))
   | exact ih0 _ _
   | exact LeO.none _
   | refine LeO.ite ?_ ?_
   | refine LeO.bind ?_ (fun _ => ?_)
theorem bits_Len64.mono : ∀ a0 k, LeO (bits_Len64.f k a0) (bits_Len64.f (k + 1) a0) := by
 intro a0 k
 have ih0 := bits_Len64.mono_l k
 unfold bits_Len64.f
 repeat' first
   | (with_reducible exact ih0 _ _)
   | (with_reducible exact LeO.refl _)
   | (with_reducible exact LeO.none _)
   | (with_reducible refine LeO.ite ?_ ?_)
   | (with_reducible refine LeO.bind ?_ (fun _ => ?_))
   | exact ih0 _ _
   | exact LeO.none _
   | refine LeO.ite ?_ ?_
   | refine LeO.bind ?_ (fun _ => ?_)
set_option maxHeartbeats 8000000 in
set_option maxRecDepth 100000 in
theorem bits_Len64.calls (k : Nat) (a0 : Int) (r : Int) (w : World) (h : bits_Len64.f k a0 = some r) :
  Calls Try.prog 85 #[.int .u64 a0] w fun e w' => e = .returned (.int .i64 r) ∧ Drawn0 w w' := by
 have H : (if a0 ≥ 4294967296 then (bits_Len64.j0 k (a0 / 4294967296) 32) else (bits_Len64.j0 k a0 0)) = some r := h
 clear h
 have HC2 := Aside0.mk H
 clear H
 go_enter Try.func85, Try.ntmps85
 go_upto_if 4 with (fail)
 go_cut [0, 2] (fun v0 v2 wc => ∃ (kq : Nat) (x0_1 : Int) (x2_1 : Int), v0 = .int .u64 x0_1 ∧ v2 = .int .i64 x2_1 ∧ Aside0 (bits_Len64.j0 kq x0_1 x2_1 = some r) ∧ Aside0 (kq ≤ k) ∧ Drawn0 w wc)
 case first =>
  have H := HC2.out
  clear HC2
  by_cases c3 : a0 ≥ 4294967296
  ·rw [if_pos c3] at H
   have c3b0 : decide (4294967296 ≤ a0) = true := decide_eq_true c3
   clear c3
   (first | rw [c3b0] | (simp only [i64_w, i32_w]; rw [c3b0]) | skip)
   have H' := Aside0.mk H
   clear H
   go_wp2
   go_meet
   case rel => exact ⟨_, (a0 / 4294967296), (32), (by first | rfl | (simp; done) | (simp [*]; done)), (by first | rfl | (simp; done) | (simp [*]; done)), H', ⟨by first | omega | exact Nat.le_refl _⟩, by repeat (first | exact Drawn0.refl _ | apply Drawn0.step)⟩
  ·rw [if_neg c3] at H
   have c3b0 : decide (4294967296 ≤ a0) = false := decide_eq_false c3
   clear c3
   (first | rw [c3b0] | (simp only [i64_w, i32_w]; rw [c3b0]) | skip)
   have H' := Aside0.mk H
   clear H
   go_wp2
   go_meet
   case rel => exact ⟨_, (a0), (0), (by first | rfl | (simp; done) | (simp [*]; done)), (by first | rfl | (simp; done) | (simp [*]; done)), H', ⟨by first | omega | exact Nat.le_refl _⟩, by repeat (first | exact Drawn0.refl _ | apply Drawn0.step)⟩
 case rest =>
  clear HC2
  try clear p2
  try clear c3
  try clear c3b0
  obtain ⟨kq, x0_1, x2_1, rfl, rfl, HA, HJ1, ⟨mc1, rfl⟩⟩ := hcut
  cases kq with
  | zero => exact absurd HA.out (by simp [bits_Len64.j0])
  | succ kj1 =>
   have H := HA.out
   clear HA
   simp only [bits_Len64.j0] at H
   by_cases c4 : x0_1 ≥ 65536
   ·rw [if_pos c4] at H
    have c4b0 : decide (65536 ≤ x0_1) = true := decide_eq_true c4
    clear c4
    by_cases c5 : (x0_1 / 65536) ≥ 256
    ·rw [if_pos c5] at H
     have c5b0 : decide (256 ≤ (x0_1 / 65536)) = true := decide_eq_true c5
     clear c5
     obtain ⟨ji6, hji6⟩ : ∃ j_ : Int, (((x0_1 / 65536) / 256) % 256) = j_ := ⟨_, rfl⟩
     replace H : (if 0 ≤ (ji6) then (if (ji6) < 256 then (some (wrap64 ((wrap64 ((wrap64 (x2_1 + 16)) + 8)) + (wrap64 (bt (⟨#[0, 1, 2, 2, 3, 3, 3, 3, 4, 4, 4, 4, 4, 4, 4, 4, 5, 5, 5, 5, 5, 5, 5, 5, 5, 5, 5, 5, 5, 5, 5, 5, 6, 6, 6, 6, 6, 6, 6, 6, 6, 6, 6, 6, 6, 6, 6, 6, 6, 6, 6, 6, 6, 6, 6, 6, 6, 6, 6, 6, 6, 6, 6, 6, 7, 7, 7, 7, 7, 7, 7, 7, 7, 7, 7, 7, 7, 7, 7, 7, 7, 7, 7, 7, 7, 7, 7, 7, 7, 7, 7, 7, 7, 7, 7, 7, 7, 7, 7, 7, 7, 7, 7, 7, 7, 7, 7, 7, 7, 7, 7, 7, 7, 7, 7, 7, 7, 7, 7, 7, 7, 7, 7, 7, 7, 7, 7, 7, 8, 8, 8, 8, 8, 8, 8, 8, 8, 8, 8, 8, 8, 8, 8, 8, 8, 8, 8, 8, 8, 8, 8, 8, 8, 8, 8, 8, 8, 8, 8, 8, 8, 8, 8, 8, 8, 8, 8, 8, 8, 8, 8, 8, 8, 8, 8, 8, 8, 8, 8, 8, 8, 8, 8, 8, 8, 8, 8, 8, 8, 8, 8, 8, 8, 8, 8, 8, 8, 8, 8, 8, 8, 8, 8, 8, 8, 8, 8, 8, 8, 8, 8, 8, 8, 8, 8, 8, 8, 8, 8, 8, 8, 8, 8, 8, 8, 8, 8, 8, 8, 8, 8, 8, 8, 8, 8, 8, 8, 8, 8, 8, 8, 8, 8, 8, 8, 8, 8, 8, 8, 8, 8, 8, 8, 8, 8, 8]⟩ : ByteArray) (ji6)))))) else (none)) else (none)) = some r := by first | (rw [hji6] at H; exact H) | (simp only [hji6] at H ⊢; exact H)
     by_cases c7 : 0 ≤ (ji6)
     ·rw [if_pos c7] at H
      have c7b0 : decide (0 ≤ (ji6)) = true := decide_eq_true c7
      clear c7
      by_cases c8 : (ji6) < 256
      ·rw [if_pos c8] at H
       have c8b0 : decide ((ji6) < 256) = true := decide_eq_true c8
       clear c8
       obtain rfl := Option.some.inj H
       have p9 : 0 ≤ ((ji6) : Int) := of_decide_eq_true (by first | (with_reducible assumption) | assumption)
       have q9 : (ji6) < (256 : Int) := of_decide_eq_true (by first | (with_reducible assumption) | assumption)
       have hx9 := bt_at (⟨#[0, 1, 2, 2, 3, 3, 3, 3, 4, 4, 4, 4, 4, 4, 4, 4, 5, 5, 5, 5, 5, 5, 5, 5, 5, 5, 5, 5, 5, 5, 5, 5, 6, 6, 6, 6, 6, 6, 6, 6, 6, 6, 6, 6, 6, 6, 6, 6, 6, 6, 6, 6, 6, 6, 6, 6, 6, 6, 6, 6, 6, 6, 6, 6, 7, 7, 7, 7, 7, 7, 7, 7, 7, 7, 7, 7, 7, 7, 7, 7, 7, 7, 7, 7, 7, 7, 7, 7, 7, 7, 7, 7, 7, 7, 7, 7, 7, 7, 7, 7, 7, 7, 7, 7, 7, 7, 7, 7, 7, 7, 7, 7, 7, 7, 7, 7, 7, 7, 7, 7, 7, 7, 7, 7, 7, 7, 7, 7, 8, 8, 8, 8, 8, 8, 8, 8, 8, 8, 8, 8, 8, 8, 8, 8, 8, 8, 8, 8, 8, 8, 8, 8, 8, 8, 8, 8, 8, 8, 8, 8, 8, 8, 8, 8, 8, 8, 8, 8, 8, 8, 8, 8, 8, 8, 8, 8, 8, 8, 8, 8, 8, 8, 8, 8, 8, 8, 8, 8, 8, 8, 8, 8, 8, 8, 8, 8, 8, 8, 8, 8, 8, 8, 8, 8, 8, 8, 8, 8, 8, 8, 8, 8, 8, 8, 8, 8, 8, 8, 8, 8, 8, 8, 8, 8, 8, 8, 8, 8, 8, 8, 8, 8, 8, 8, 8, 8, 8, 8, 8, 8, 8, 8, 8, 8, 8, 8, 8, 8, 8, 8, 8, 8, 8, 8, 8, 8]⟩ : ByteArray) (ji6)
       replace p9 := eq_true p9
       replace q9 := eq_true q9
       go_wp2
       go_ret
       exact ⟨by first | rfl | (simp; done) | (simp only [← hji6] <;> (first | rfl | simp)) | (simp [*]; done), by repeat (first | exact Drawn0.refl _ | apply Drawn0.step)⟩
      ·rw [if_neg c8] at H
       exact absurd H (by simp)
     ·rw [if_neg c7] at H
      exact absurd H (by simp)
    ·rw [if_neg c5] at H
     have c5b0 : decide (256 ≤ (x0_1 / 65536)) = false := decide_eq_false c5
     clear c5
     obtain ⟨ji10, hji10⟩ : ∃ j_ : Int, ((x0_1 / 65536) % 256) = j_ := ⟨_, rfl⟩
     replace H : (if 0 ≤ (ji10) then (if (ji10) < 256 then (some (wrap64 ((wrap64 (x2_1 + 16)) + (wrap64 (bt (⟨#[0, 1, 2, 2, 3, 3, 3, 3, 4, 4, 4, 4, 4, 4, 4, 4, 5, 5, 5, 5, 5, 5, 5, 5, 5, 5, 5, 5, 5, 5, 5, 5, 6, 6, 6, 6, 6, 6, 6, 6, 6, 6, 6, 6, 6, 6, 6, 6, 6, 6, 6, 6, 6, 6, 6, 6, 6, 6, 6, 6, 6, 6, 6, 6, 7, 7, 7, 7, 7, 7, 7, 7, 7, 7, 7, 7, 7, 7, 7, 7, 7, 7, 7, 7, 7, 7, 7, 7, 7, 7, 7, 7, 7, 7, 7, 7, 7, 7, 7, 7, 7, 7, 7, 7, 7, 7, 7, 7, 7, 7, 7, 7, 7, 7, 7, 7, 7, 7, 7, 7, 7, 7, 7, 7, 7, 7, 7, 7, 8, 8, 8, 8, 8, 8, 8, 8, 8, 8, 8, 8, 8, 8, 8, 8, 8, 8, 8, 8, 8, 8, 8, 8, 8, 8, 8, 8, 8, 8, 8, 8, 8, 8, 8, 8, 8, 8, 8, 8, 8, 8, 8, 8, 8, 8, 8, 8, 8, 8, 8, 8, 8, 8, 8, 8, 8, 8, 8, 8, 8, 8, 8, 8, 8, 8, 8, 8, 8, 8, 8, 8, 8, 8, 8, 8, 8, 8, 8, 8, 8, 8, 8, 8, 8, 8, 8, 8, 8, 8, 8, 8, 8, 8, 8, 8, 8, 8, 8, 8, 8, 8, 8, 8, 8, 8, 8, 8, 8, 8, 8, 8, 8, 8, 8, 8, 8, 8, 8, 8, 8, 8, 8, 8, 8, 8, 8, 8]⟩ : ByteArray) (ji10)))))) else (none)) else (none)) = some r := by first | (rw [hji10] at H; exact H) | (simp only [hji10] at H ⊢; exact H)
     by_cases c11 : 0 ≤ (ji10)
     ·rw [if_pos c11] at H
      have c11b0 : decide (0 ≤ (ji10)) = true := decide_eq_true c11
      clear c11
      by_cases c12 : (ji10) < 256
      ·rw [if_pos c12] at H
       have c12b0 : decide ((ji10) < 256) = true := decide_eq_true c12
       clear c12
       obtain rfl := Option.some.inj H
       have p13 : 0 ≤ ((ji10) : Int) := of_decide_eq_true (by first | (with_reducible assumption) | assumption)
       have q13 : (ji10) < (256 : Int) := of_decide_eq_true (by first | (with_reducible assumption) | assumption)
       have hx13 := bt_at (⟨#[0, 1, 2, 2, 3, 3, 3, 3, 4, 4, 4, 4, 4, 4, 4, 4, 5, 5, 5, 5, 5, 5, 5, 5, 5, 5, 5, 5, 5, 5, 5, 5, 6, 6, 6, 6, 6, 6, 6, 6, 6, 6, 6, 6, 6, 6, 6, 6, 6, 6, 6, 6, 6, 6, 6, 6, 6, 6, 6, 6, 6, 6, 6, 6, 7, 7, 7, 7, 7, 7, 7, 7, 7, 7, 7, 7, 7, 7, 7, 7, 7, 7, 7, 7, 7, 7, 7, 7, 7, 7, 7, 7, 7, 7, 7, 7, 7, 7, 7, 7, 7, 7, 7, 7, 7, 7, 7, 7, 7, 7, 7, 7, 7, 7, 7, 7, 7, 7, 7, 7, 7, 7, 7, 7, 7, 7, 7, 7, 8, 8, 8, 8, 8, 8, 8, 8, 8, 8, 8, 8, 8, 8, 8, 8, 8, 8, 8, 8, 8, 8, 8, 8, 8, 8, 8, 8, 8, 8, 8, 8, 8, 8, 8, 8, 8, 8, 8, 8, 8, 8, 8, 8, 8, 8, 8, 8, 8, 8, 8, 8, 8, 8, 8, 8, 8, 8, 8, 8, 8, 8, 8, 8, 8, 8, 8, 8, 8, 8, 8, 8, 8, 8, 8, 8, 8, 8, 8, 8, 8, 8, 8, 8, 8, 8, 8, 8, 8, 8, 8, 8, 8, 8, 8, 8, 8, 8, 8, 8, 8, 8, 8, 8, 8, 8, 8, 8, 8, 8, 8, 8, 8, 8, 8, 8, 8, 8, 8, 8, 8, 8, 8, 8, 8, 8, 8, 8]⟩ : ByteArray) (ji10)
       replace p13 := eq_true p13
       replace q13 := eq_true q13
       go_wp2
       go_ret
       exact ⟨by first | rfl | (simp; done) | (simp only [← hji10] <;> (first | rfl | simp)) | (simp [*]; done), by repeat (first | exact Drawn0.refl _ | apply Drawn0.step)⟩
      ·rw [if_neg c12] at H
       exact absurd H (by simp)
     ·rw [if_neg c11] at H
      exact absurd H (by simp)
   ·rw [if_neg c4] at H
    have c4b0 : decide (65536 ≤ x0_1) = false := decide_eq_false c4
    clear c4
    by_cases c14 : x0_1 ≥ 256
    ·rw [if_pos c14] at H
     have c14b0 : decide (256 ≤ x0_1) = true := decide_eq_true c14
     clear c14
     obtain ⟨ji15, hji15⟩ : ∃ j_ : Int, ((x0_1 / 256) % 256) = j_ := ⟨_, rfl⟩
     replace H : (if 0 ≤ (ji15) then (if (ji15) < 256 then (some (wrap64 ((wrap64 (x2_1 + 8)) + (wrap64 (bt (⟨#[0, 1, 2, 2, 3, 3, 3, 3, 4, 4, 4, 4, 4, 4, 4, 4, 5, 5, 5, 5, 5, 5, 5, 5, 5, 5, 5, 5, 5, 5, 5, 5, 6, 6, 6, 6, 6, 6, 6, 6, 6, 6, 6, 6, 6, 6, 6, 6, 6, 6, 6, 6, 6, 6, 6, 6, 6, 6, 6, 6, 6, 6, 6, 6, 7, 7, 7, 7, 7, 7, 7, 7, 7, 7, 7, 7, 7, 7, 7, 7, 7, 7, 7, 7, 7, 7, 7, 7, 7, 7, 7, 7, 7, 7, 7, 7, 7, 7, 7, 7, 7, 7, 7, 7, 7, 7, 7, 7, 7, 7, 7, 7, 7, 7, 7, 7, 7, 7, 7, 7, 7, 7, 7, 7, 7, 7, 7, 7, 8, 8, 8, 8, 8, 8, 8, 8, 8, 8, 8, 8, 8, 8, 8, 8, 8, 8, 8, 8, 8, 8, 8, 8, 8, 8, 8, 8, 8, 8, 8, 8, 8, 8, 8, 8, 8, 8, 8, 8, 8, 8, 8, 8, 8, 8, 8, 8, 8, 8, 8, 8, 8, 8, 8, 8, 8, 8, 8, 8, 8, 8, 8, 8, 8, 8, 8, 8, 8, 8, 8, 8, 8, 8, 8, 8, 8, 8, 8, 8, 8, 8, 8, 8, 8, 8, 8, 8, 8, 8, 8, 8, 8, 8, 8, 8, 8, 8, 8, 8, 8, 8, 8, 8, 8, 8, 8, 8, 8, 8, 8, 8, 8, 8, 8, 8, 8, 8, 8, 8, 8, 8, 8, 8, 8, 8, 8, 8]⟩ : ByteArray) (ji15)))))) else (none)) else (none)) = some r := by first | (rw [hji15] at H; exact H) | (simp only [hji15] at H ⊢; exact H)
     by_cases c16 : 0 ≤ (ji15)
     ·rw [if_pos c16] at H
      have c16b0 : decide (0 ≤ (ji15)) = true := decide_eq_true c16
      clear c16
      by_cases c17 : (ji15) < 256
      ·rw [if_pos c17] at H
       have c17b0 : decide ((ji15) < 256) = true := decide_eq_true c17
       clear c17
       obtain rfl := Option.some.inj H
       have p18 : 0 ≤ ((ji15) : Int) := of_decide_eq_true (by first | (with_reducible assumption) | assumption)
       have q18 : (ji15) < (256 : Int) := of_decide_eq_true (by first | (with_reducible assumption) | assumption)
       have hx18 := bt_at (⟨#[0, 1, 2, 2, 3, 3, 3, 3, 4, 4, 4, 4, 4, 4, 4, 4, 5, 5, 5, 5, 5, 5, 5, 5, 5, 5, 5, 5, 5, 5, 5, 5, 6, 6, 6, 6, 6, 6, 6, 6, 6, 6, 6, 6, 6, 6, 6, 6, 6, 6, 6, 6, 6, 6, 6, 6, 6, 6, 6, 6, 6, 6, 6, 6, 7, 7, 7, 7, 7, 7, 7, 7, 7, 7, 7, 7, 7, 7, 7, 7, 7, 7, 7, 7, 7, 7, 7, 7, 7, 7, 7, 7, 7, 7, 7, 7, 7, 7, 7, 7, 7, 7, 7, 7, 7, 7, 7, 7, 7, 7, 7, 7, 7, 7, 7, 7, 7, 7, 7, 7, 7, 7, 7, 7, 7, 7, 7, 7, 8, 8, 8, 8, 8, 8, 8, 8, 8, 8, 8, 8, 8, 8, 8, 8, 8, 8, 8, 8, 8, 8, 8, 8, 8, 8, 8, 8, 8, 8, 8, 8, 8, 8, 8, 8, 8, 8, 8, 8, 8, 8, 8, 8, 8, 8, 8, 8, 8, 8, 8, 8, 8, 8, 8, 8, 8, 8, 8, 8, 8, 8, 8, 8, 8, 8, 8, 8, 8, 8, 8, 8, 8, 8, 8, 8, 8, 8, 8, 8, 8, 8, 8, 8, 8, 8, 8, 8, 8, 8, 8, 8, 8, 8, 8, 8, 8, 8, 8, 8, 8, 8, 8, 8, 8, 8, 8, 8, 8, 8, 8, 8, 8, 8, 8, 8, 8, 8, 8, 8, 8, 8, 8, 8, 8, 8, 8, 8]⟩ : ByteArray) (ji15)
       replace p18 := eq_true p18
       replace q18 := eq_true q18
       go_wp2
       go_ret
       exact ⟨by first | rfl | (simp; done) | (simp only [← hji15] <;> (first | rfl | simp)) | (simp [*]; done), by repeat (first | exact Drawn0.refl _ | apply Drawn0.step)⟩
      ·rw [if_neg c17] at H
       exact absurd H (by simp)
     ·rw [if_neg c16] at H
      exact absurd H (by simp)
    ·rw [if_neg c14] at H
     have c14b0 : decide (256 ≤ x0_1) = false := decide_eq_false c14
     clear c14
     obtain ⟨ji19, hji19⟩ : ∃ j_ : Int, ((x0_1) % 256) = j_ := ⟨_, rfl⟩
     replace H : (if 0 ≤ (ji19) then (if (ji19) < 256 then (some (wrap64 (x2_1 + (wrap64 (bt (⟨#[0, 1, 2, 2, 3, 3, 3, 3, 4, 4, 4, 4, 4, 4, 4, 4, 5, 5, 5, 5, 5, 5, 5, 5, 5, 5, 5, 5, 5, 5, 5, 5, 6, 6, 6, 6, 6, 6, 6, 6, 6, 6, 6, 6, 6, 6, 6, 6, 6, 6, 6, 6, 6, 6, 6, 6, 6, 6, 6, 6, 6, 6, 6, 6, 7, 7, 7, 7, 7, 7, 7, 7, 7, 7, 7, 7, 7, 7, 7, 7, 7, 7, 7, 7, 7, 7, 7, 7, 7, 7, 7, 7, 7, 7, 7, 7, 7, 7, 7, 7, 7, 7, 7, 7, 7, 7, 7, 7, 7, 7, 7, 7, 7, 7, 7, 7, 7, 7, 7, 7, 7, 7, 7, 7, 7, 7, 7, 7, 8, 8, 8, 8, 8, 8, 8, 8, 8, 8, 8, 8, 8, 8, 8, 8, 8, 8, 8, 8, 8, 8, 8, 8, 8, 8, 8, 8, 8, 8, 8, 8, 8, 8, 8, 8, 8, 8, 8, 8, 8, 8, 8, 8, 8, 8, 8, 8, 8, 8, 8, 8, 8, 8, 8, 8, 8, 8, 8, 8, 8, 8, 8, 8, 8, 8, 8, 8, 8, 8, 8, 8, 8, 8, 8, 8, 8, 8, 8, 8, 8, 8, 8, 8, 8, 8, 8, 8, 8, 8, 8, 8, 8, 8, 8, 8, 8, 8, 8, 8, 8, 8, 8, 8, 8, 8, 8, 8, 8, 8, 8, 8, 8, 8, 8, 8, 8, 8, 8, 8, 8, 8, 8, 8, 8, 8, 8, 8]⟩ : ByteArray) (ji19)))))) else (none)) else (none)) = some r := by first | (rw [hji19] at H; exact H) | (simp only [hji19] at H ⊢; exact H)
     by_cases c20 : 0 ≤ (ji19)
     ·rw [if_pos c20] at H
      have c20b0 : decide (0 ≤ (ji19)) = true := decide_eq_true c20
      clear c20
      by_cases c21 : (ji19) < 256
      ·rw [if_pos c21] at H
       have c21b0 : decide ((ji19) < 256) = true := decide_eq_true c21
       clear c21
       obtain rfl := Option.some.inj H
       have p22 : 0 ≤ ((ji19) : Int) := of_decide_eq_true (by first | (with_reducible assumption) | assumption)
       have q22 : (ji19) < (256 : Int) := of_decide_eq_true (by first | (with_reducible assumption) | assumption)
       have hx22 := bt_at (⟨#[0, 1, 2, 2, 3, 3, 3, 3, 4, 4, 4, 4, 4, 4, 4, 4, 5, 5, 5, 5, 5, 5, 5, 5, 5, 5, 5, 5, 5, 5, 5, 5, 6, 6, 6, 6, 6, 6, 6, 6, 6, 6, 6, 6, 6, 6, 6, 6, 6, 6, 6, 6, 6, 6, 6, 6, 6, 6, 6, 6, 6, 6, 6, 6, 7, 7, 7, 7, 7, 7, 7, 7, 7, 7, 7, 7, 7, 7, 7, 7, 7, 7, 7, 7, 7, 7, 7, 7, 7, 7, 7, 7, 7, 7, 7, 7, 7, 7, 7, 7, 7, 7, 7, 7, 7, 7, 7, 7, 7, 7, 7, 7, 7, 7, 7, 7, 7, 7, 7, 7, 7, 7, 7, 7, 7, 7, 7, 7, 8, 8, 8, 8, 8, 8, 8, 8, 8, 8, 8, 8, 8, 8, 8, 8, 8, 8, 8, 8, 8, 8, 8, 8, 8, 8, 8, 8, 8, 8, 8, 8, 8, 8, 8, 8, 8, 8, 8, 8, 8, 8, 8, 8, 8, 8, 8, 8, 8, 8, 8, 8, 8, 8, 8, 8, 8, 8, 8, 8, 8, 8, 8, 8, 8, 8, 8, 8, 8, 8, 8, 8, 8, 8, 8, 8, 8, 8, 8, 8, 8, 8, 8, 8, 8, 8, 8, 8, 8, 8, 8, 8, 8, 8, 8, 8, 8, 8, 8, 8, 8, 8, 8, 8, 8, 8, 8, 8, 8, 8, 8, 8, 8, 8, 8, 8, 8, 8, 8, 8, 8, 8, 8, 8, 8, 8, 8, 8]⟩ : ByteArray) (ji19)
       replace p22 := eq_true p22
       replace q22 := eq_true q22
       go_wp2
       go_ret
       exact ⟨by first | rfl | (simp; done) | (simp only [← hji19] <;> (first | rfl | simp)) | (simp [*]; done), by repeat (first | exact Drawn0.refl _ | apply Drawn0.step)⟩
      ·rw [if_neg c21] at H
       exact absurd H (by simp)
     ·rw [if_neg c20] at H
      exact absurd H (by simp)

/-! ### varint_BitWidth: function 55 -/
def varint_BitWidth.f (k : Nat) (a0 : Int) : Option (Int) := (bits_Len64.f k a0).bind fun t126 => (some t126)
theorem varint_BitWidth.mono : ∀ a0 k, LeO (varint_BitWidth.f k a0) (varint_BitWidth.f (k + 1) a0) := by
 intro a0 k
 unfold varint_BitWidth.f
 repeat' first
   | (with_reducible exact bits_Len64.mono _ _)
   | (with_reducible exact LeO.refl _)
   | (with_reducible exact LeO.none _)
   | (with_reducible refine LeO.ite ?_ ?_)
   | (with_reducible refine LeO.bind ?_ (fun _ => ?_))
   | exact bits_Len64.mono _ _
   | exact LeO.none _
   | refine LeO.ite ?_ ?_
   | refine LeO.bind ?_ (fun _ => ?_)
set_option maxHeartbeats 8000000 in
set_option maxRecDepth 100000 in
theorem varint_BitWidth.calls (k : Nat) (a0 : Int) (r : Int) (w : World) (h : varint_BitWidth.f k a0 = some r) :
  Calls Try.prog 55 #[.int .u64 a0] w fun e w' => e = .returned (.int .i64 r) ∧ Drawn0 w w' := by
 have H : ((bits_Len64.f k a0).bind fun t126 => (some t126)) = some r := h
 clear h
 replace H := Option.bind_eq_some_iff.mp H
 obtain ⟨t126, A20, H⟩ := H
 replace H : (some t126) = some r := H
 have A2 := Aside0.mk A20
 clear A20
 obtain rfl := Option.some.inj H
 go_enter Try.func55, Try.ntmps55
 go_wp2_with (first | ((with_reducible refine gate_callee (f := 85) rfl ?_); refine goesL_ (some 4) rfl rfl Try.func85 (by kernel_rfl) rfl #[.int .u64 a0] rfl (by (try simp only [List.map_toArray, List.map_cons, List.map_nil]); first | done | rfl | (simp only [List.length_drop, List.length_take]; rfl)) ?_; (with_reducible refine (bits_Len64.calls k a0 t126 _ A2.out).mono ?_); rintro e w' ⟨rfl, ⟨nd, rfl⟩⟩; refine ⟨_, rfl, ?_⟩))
 go_ret
 exact ⟨by first | rfl | (simp; done) | (simp [*]; done), by repeat (first | exact Drawn0.refl _ | apply Drawn0.step)⟩

end Go.Proofs.Ytllhbjkkoogeeaa.QFramerefAt
