/- laminalaw02.ChecksumMix returns true for every argument (Mix and Unmix return the reference's results and are inverse to each other). Conditions: none. -/
import Derived.Test.YtfonjlolliiaeaaQChecksumMixx3
import Derived.Test.YtfonjlolliiaeaaM01
import Derived.Test.YtfonjlolliiaeaaM02
import Derived.Test.YtfonjlolliiaeaaM06
import Derived.Test.YtfonjlolliiaeaaM07
set_option linter.unusedVariables false
set_option linter.unusedSimpArgs false
namespace Go.Proofs.Ytfonjlolliiaeaa.Pure
open Go Go.RowKit Go.Proofs.Ytfonjlolliiaeaa.QChecksumMix Go.Proofs.YtfonjlolliiaeaaW.PrintWords Go.Proofs.YtfonjlolliiaeaaW.PrintLast Go.Proofs.YtfonjlolliiaeaaM

/-! ### Mix, Unmix -/
def mxA (n : Nat) : Nat := (n ^^^ n >>> 30) * 13787848793156543929 % 18446744073709551616
def mxB (n : Nat) : Nat := (n ^^^ n >>> 27) * 10723151780598845931 % 18446744073709551616
def mxN (n : Nat) : Nat := mxB (mxA n) ^^^ mxB (mxA n) >>> 31
def uxN (n : Nat) : Nat := unsh (unsh (unsh n 31 * 3573116690164977347 % 18446744073709551616) 27 * 10871156337175269513 % 18446744073709551616) 30
theorem wrap_mod (x : Nat) : IntKind.u64.wrap (x : Int) = ((x % 18446744073709551616 : Nat) : Int) := by rw [wrap_u64]; omega
theorem xsh (n k : Nat) (hn : n < 2 ^ 64) : n ^^^ n >>> k < 2 ^ 64 :=
  Nat.xor_lt_two_pow hn (Nat.lt_of_le_of_lt (Nat.shiftRight_le n k) hn)
theorem xsh_int (n k : Nat) (hn : n < 2 ^ 64) : bits .xor .u64 (n : Int) (((n >>> k : Nat)) : Int) = ((n ^^^ n >>> k : Nat) : Int) :=
  xor_nat n _ hn (Nat.lt_of_le_of_lt (Nat.shiftRight_le n k) hn)
theorem div30 (n : Nat) : (n : Int) / (1073741824 : Int) = ((n >>> 30 : Nat) : Int) := by rw [Nat.shiftRight_eq_div_pow]; omega
theorem div27 (n : Nat) : (n : Int) / (134217728 : Int) = ((n >>> 27 : Nat) : Int) := by rw [Nat.shiftRight_eq_div_pow]; omega
theorem div31 (n : Nat) : (n : Int) / (2147483648 : Int) = ((n >>> 31 : Nat) : Int) := by rw [Nat.shiftRight_eq_div_pow]; omega
theorem mxA_lt (n : Nat) : mxA n < 2 ^ 64 := Nat.mod_lt _ (by decide)
theorem mxB_lt (n : Nat) : mxB n < 2 ^ 64 := Nat.mod_lt _ (by decide)
theorem mxN_lt (n : Nat) : mxN n < 2 ^ 64 := xsh _ _ (mxB_lt _)
theorem mix_nat (n : Nat) (hn : n < 18446744073709551616) : checksum_Mix.f (n : Int) = some ((mxN n : Nat) : Int) := by
  unfold checksum_Mix.f
  have e1 : IntKind.u64.wrap ((bits .xor .u64 (n : Int) ((n : Int) / 1073741824)) * 13787848793156543929) = ((mxA n : Nat) : Int) := by
    rw [div30, xsh_int n 30 hn, show (((n ^^^ n >>> 30 : Nat) : Int) * (13787848793156543929 : Int)) = (((n ^^^ n >>> 30) * 13787848793156543929 : Nat) : Int) from (Int.natCast_mul _ _).symm, wrap_mod]
    rfl
  rw [e1]
  have e2 : IntKind.u64.wrap ((bits .xor .u64 ((mxA n : Nat) : Int) (((mxA n : Nat) : Int) / 134217728)) * 10723151780598845931) = ((mxB (mxA n) : Nat) : Int) := by
    rw [div27, xsh_int _ 27 (mxA_lt n), show (((mxA n ^^^ mxA n >>> 27 : Nat) : Int) * (10723151780598845931 : Int)) = (((mxA n ^^^ mxA n >>> 27) * 10723151780598845931 : Nat) : Int) from (Int.natCast_mul _ _).symm, wrap_mod]
    rfl
  rw [e2, div31, xsh_int _ 31 (mxB_lt _)]
  rfl

theorem mul_inv (y b c : Nat) (hy : y < 18446744073709551616) (h : b * c % 18446744073709551616 = 1) : y * b % 18446744073709551616 * c % 18446744073709551616 = y := by
  rw [Nat.mod_mul_mod, Nat.mul_assoc, Nat.mul_mod, h, Nat.mul_one, Nat.mod_mod, Nat.mod_eq_of_lt hy]
theorem unsh_lt (n k : Nat) (hn : n < 2 ^ 64) : unsh n k < 2 ^ 64 := by
  have hs : ∀ x, x < 2 ^ 64 → x >>> k < 2 ^ 64 := fun x hx => Nat.lt_of_le_of_lt (Nat.shiftRight_le x k) hx
  unfold unsh
  exact Nat.xor_lt_two_pow hn (hs _ (Nat.xor_lt_two_pow hn (hs _ (Nat.xor_lt_two_pow hn (hs _ hn)))))
theorem unmix_mix (n : Nat) (hn : n < 2 ^ 64) : uxN (mxN n) = n := by
  unfold uxN mxN
  rw [unsh_sh _ 31 (mxB_lt _) (by decide)]
  unfold mxB
  rw [mul_inv _ _ _ (xsh _ 27 (mxA_lt n)) (by decide +kernel), unsh_sh _ 27 (mxA_lt n) (by decide)]
  unfold mxA
  rw [mul_inv _ _ _ (xsh _ 30 hn) (by decide +kernel), unsh_sh _ 30 hn (by decide)]
theorem mix_unmix (n : Nat) (hn : n < 2 ^ 64) : mxN (uxN n) = n := by
  unfold uxN mxN
  obtain ⟨a, ha⟩ : ∃ a, a = unsh n 31 * 3573116690164977347 % 18446744073709551616 := ⟨_, rfl⟩
  obtain ⟨b, hb⟩ : ∃ b, b = unsh a 27 * 10871156337175269513 % 18446744073709551616 := ⟨_, rfl⟩
  have ha64 : a < 2 ^ 64 := by rw [ha]; exact Nat.mod_lt _ (by decide)
  have hb64 : b < 2 ^ 64 := by rw [hb]; exact Nat.mod_lt _ (by decide)
  rw [← ha, ← hb]
  have e1 : mxA (unsh b 30) = unsh a 27 := by
    unfold mxA
    rw [sh_unsh b 30 hb64 (by decide), hb, mul_inv _ _ _ (unsh_lt a 27 ha64) (by decide +kernel)]
  have e2 : mxB (unsh a 27) = unsh n 31 := by
    unfold mxB
    rw [sh_unsh a 27 ha64 (by decide), ha, mul_inv _ _ _ (unsh_lt n 31 hn) (by decide +kernel)]
  rw [e1, e2, sh_unsh n 31 hn (by decide)]
theorem ux_lt (n : Nat) : uxN n < 2 ^ 64 := unsh_lt _ _ (Nat.mod_lt _ (by decide))
theorem shr64 (x j : Nat) (hj : j < 64) : shr .u64 (x : Int) (j : Int) = ((x >>> j : Nat) : Int) := by
  have e : min ((j : Int)).toNat 64 = j := by omega
  unfold shr
  rw [show IntKind.u64.bits = 64 from rfl, e, Nat.shiftRight_eq_div_pow, ← pow_cast j, ← Int.natCast_ediv]
theorem unshift_step_ev (x n j : Nat) (hn : n < 2 ^ 64) (hx : x < 2 ^ 64) (hj : j < 64) : bits .xor .u64 (n : Int) (shr .u64 (x : Int) (j : Int)) = ((n ^^^ x >>> j : Nat) : Int) ∧ n ^^^ x >>> j < 2 ^ 64 := by
  have h : x >>> j < 2 ^ 64 := Nat.lt_of_le_of_lt (Nat.shiftRight_le x j) hx
  exact ⟨by rw [shr64 x j hj, xor_nat _ _ hn h], Nat.xor_lt_two_pow hn h⟩
theorem unshift_ev (n j : Nat) (hn : n < 2 ^ 64) (hj : j = 31 ∨ j = 27 ∨ j = 30) : Ev (fun k => checksum_unshift.f k (n : Int) (j : Int)) ((unsh n j : Nat) : Int) := by
  unfold checksum_unshift.f
  have hj64 : j < 64 := by omega
  refine Ev.neg (by omega) ?_
  have e64 : IntKind.u64.wrap (wrap64 ((64 : Int) / (j : Int))) = 2 := by
    have h2 : ∀ x : Int, x = 2 → IntKind.u64.wrap (wrap64 x) = 2 := by
      intro x hx; rw [hx, w64 _ (by omega) (by omega), wraps_u64 _ (by omega) (by omega)]
    rcases hj with rfl | rfl | rfl <;> exact h2 _ (by rfl)
  rw [e64]
  refine Ev.bind (Ev.of (bits_Len.mono _) (k := 20) (r := 2) (by decide +kernel)) ?_
  obtain ⟨e1, l1⟩ := unshift_step_ev n n j hn hn hj64
  obtain ⟨e2, l2⟩ := unshift_step_ev _ n j hn l1 hj64
  obtain ⟨e3, l3⟩ := unshift_step_ev _ n j hn l2 hj64
  have ew : IntKind.u64.wrap (j : Int) = (j : Int) := wraps_u64 _ (by omega) (by omega)
  have s3 : wrap64 (2 + 1) = 3 := w64 _ (by omega) (by omega)
  have s1 : wrap64 (0 + 1) = 1 := w64 _ (by omega) (by omega)
  have s2 : wrap64 (1 + 1) = 2 := w64 _ (by omega) (by omega)
  refine Ev.succ ?_
  simp only [checksum_unshift.l0, ew, e1, s3, s1]
  refine Ev.pos (by omega) ?_
  refine Ev.pos (by omega) ?_
  refine Ev.succ ?_
  simp only [checksum_unshift.l0, ew, e2, s2]
  refine Ev.pos (by omega) ?_
  refine Ev.pos (by omega) ?_
  refine Ev.succ ?_
  simp only [checksum_unshift.l0, ew, e3, s3]
  refine Ev.pos (by omega) ?_
  refine Ev.pos (by omega) ?_
  refine Ev.succ ?_
  simp only [checksum_unshift.l0]
  refine Ev.neg (by omega) ?_
  exact Ev.now _
theorem runshift_ev (n j : Nat) (hn : n < 2 ^ 64) (hj : j = 31 ∨ j = 27 ∨ j = 30) : Ev (fun k => laminaref02_unshift.f k (n : Int) (j : Int)) ((unsh n j : Nat) : Int) := by
  unfold laminaref02_unshift.f
  have hj64 : j < 64 := by omega
  obtain ⟨e1, l1⟩ := unshift_step_ev n n j hn hn hj64
  obtain ⟨e2, l2⟩ := unshift_step_ev _ n j hn l1 hj64
  obtain ⟨e3, l3⟩ := unshift_step_ev _ n j hn l2 hj64
  have w1 : IntKind.u64.wrap ((0 : Int) + (j : Int)) = (j : Int) := by rw [wraps_u64 _ (by omega) (by omega)]; omega
  have w2 : IntKind.u64.wrap ((j : Int) + (j : Int)) = ((j + j : Nat) : Int) := by rw [wraps_u64 _ (by omega) (by omega)]; omega
  have w3 : IntKind.u64.wrap (((j + j : Nat) : Int) + (j : Int)) = ((j + j + j : Nat) : Int) := by rw [wraps_u64 _ (by omega) (by omega)]; omega
  refine Ev.succ ?_
  simp only [laminaref02_unshift.l0, e1, w1]
  refine Ev.pos (by decide) ?_
  refine Ev.pos (by omega) ?_
  refine Ev.succ ?_
  simp only [laminaref02_unshift.l0, e2, w2]
  refine Ev.pos (by omega) ?_
  refine Ev.pos (by omega) ?_
  refine Ev.succ ?_
  simp only [laminaref02_unshift.l0, e3, w3]
  refine Ev.pos (by omega) ?_
  refine Ev.pos (by omega) ?_
  refine Ev.succ ?_
  simp only [laminaref02_unshift.l0]
  refine Ev.neg (by omega) ?_
  exact Ev.now _
theorem mulw (x c : Nat) : IntKind.u64.wrap ((x : Int) * (c : Int)) = ((x * c % 18446744073709551616 : Nat) : Int) := by
  rw [← Int.natCast_mul, wrap_mod]
theorem unmix_ev (n : Nat) (hn : n < 2 ^ 64) : Ev (fun k => checksum_Unmix.f k (n : Int)) ((uxN n : Nat) : Int) := by
  unfold checksum_Unmix.f
  refine Ev.bind (unshift_ev n 31 hn (.inl rfl)) ?_
  refine Ev.bind (Ev.of (checksum_inverse.mono _) (k := 20) (r := 3573116690164977347) (by decide +kernel)) ?_
  have e1 := mulw (unsh n 31) 3573116690164977347
  rw [show (((3573116690164977347 : Nat)) : Int) = 3573116690164977347 from rfl] at e1
  rw [e1]
  refine Ev.bind (unshift_ev _ 27 (Nat.mod_lt _ (by decide)) (.inr (.inl rfl))) ?_
  refine Ev.bind (Ev.of (checksum_inverse.mono _) (k := 20) (r := 10871156337175269513) (by decide +kernel)) ?_
  have e2 := mulw (unsh (unsh n 31 * 3573116690164977347 % 18446744073709551616) 27) 10871156337175269513
  rw [show (((10871156337175269513 : Nat)) : Int) = 10871156337175269513 from rfl] at e2
  rw [e2]
  refine Ev.bind (unshift_ev _ 30 (Nat.mod_lt _ (by decide)) (.inr (.inr rfl))) ?_
  exact Ev.now _
theorem runmix_ev (n : Nat) (hn : n < 2 ^ 64) : Ev (fun k => laminaref02_Unmix.f k (n : Int)) ((uxN n : Nat) : Int) := by
  unfold laminaref02_Unmix.f
  refine Ev.bind (runshift_ev n 31 hn (.inl rfl)) ?_
  have e1 := mulw (unsh n 31) 3573116690164977347
  rw [show (((3573116690164977347 : Nat)) : Int) = 3573116690164977347 from rfl] at e1
  rw [e1]
  refine Ev.bind (runshift_ev _ 27 (Nat.mod_lt _ (by decide)) (.inr (.inl rfl))) ?_
  have e2 := mulw (unsh (unsh n 31 * 3573116690164977347 % 18446744073709551616) 27) 10871156337175269513
  rw [show (((10871156337175269513 : Nat)) : Int) = 10871156337175269513 from rfl] at e2
  rw [e2]
  refine Ev.bind (runshift_ev _ 30 (Nat.mod_lt _ (by decide)) (.inr (.inr rfl))) ?_
  exact Ev.now _
theorem rmix_eq (x : Int) : laminaref02_Mix.f x = checksum_Mix.f x := rfl

theorem ChecksumMix : laminalaw02_ChecksumMix.Pure := by
  intro a hwf
  have ha := wf_u64 hwf
  obtain ⟨n, rfl⟩ := Int.eq_ofNat_of_zero_le ha.1
  have hn : n < 2 ^ 64 := by omega
  refine Ev.rounds (g := fun k => laminalaw02_ChecksumMix.f k (n : Int)) ?_
  unfold laminalaw02_ChecksumMix.f
  refine Ev.bind0 (mix_nat n hn) ?_
  refine Ev.bind0 (mix_nat n hn) ?_
  refine Ev.pos rfl ?_
  refine Ev.bind (unmix_ev n hn) ?_
  refine Ev.bind (runmix_ev n hn) ?_
  refine Ev.pos rfl ?_
  refine Ev.bind0 (mix_nat n hn) ?_
  refine Ev.bind (unmix_ev _ (mxN_lt n)) ?_
  refine Ev.pos (by rw [unmix_mix n hn]) ?_
  refine Ev.bind (unmix_ev n hn) ?_
  refine Ev.bind0 (mix_nat _ (ux_lt n)) ?_
  refine Ev.pos (by rw [mix_unmix n hn]) ?_
  exact Ev.bind0 rfl (Ev.now _)

end Go.Proofs.Ytfonjlolliiaeaa.Pure
