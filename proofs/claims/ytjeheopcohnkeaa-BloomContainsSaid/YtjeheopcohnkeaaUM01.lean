/- Facts on numbers, bits and varints in plain Lean. -/
import Derived.Laws.BitsLemmas
set_option linter.unusedVariables false
namespace Go.Proofs.YtjeheopcohnkeaaM
open Go

/-! ### wraps -/
theorem wrap_u64 (n : Int) : IntKind.u64.wrap n = n % 18446744073709551616 := by
  simp [IntKind.wrap, IntKind.bits, IntKind.signed]
theorem wrap_u64_of (n : Int) (h0 : 0 ≤ n) (h : n < 18446744073709551616) : IntKind.u64.wrap n = n := by
  rw [wrap_u64]; omega
theorem wraps_u64 (n : Int) (h0 : 0 ≤ n) (h : n < 2 ^ 64) : IntKind.u64.wrap n = n := by
  rw [wrap_u64]; omega
theorem wraps_u8' (n : Int) (h0 : 0 ≤ n) (h : n < 2 ^ 8) : IntKind.u8.wrap n = n := by
  rw [IntKind.wrap_u8]; omega

/-! ### bits -/
theorem bits_or_comm (k : IntKind) (x y : Int) : bits .or k x y = bits .or k y x := by
  simp only [bits, BitVec.or_comm]
theorem bits_and_comm (k : IntKind) (x y : Int) : bits .and k x y = bits .and k y x := by
  simp only [bits, BitVec.and_comm]
theorem bits_xor_comm (k : IntKind) (x y : Int) : bits .xor k x y = bits .xor k y x := by
  simp only [bits, BitVec.xor_comm]
theorem xor_nat (a b : Nat) (ha : a < 2 ^ 64) (hb : b < 2 ^ 64) : bits .xor .u64 a b = ((a ^^^ b : Nat) : Int) := by
  have ha' : a % 2 ^ IntKind.u64.bits = a := Nat.mod_eq_of_lt ha
  have hb' : b % 2 ^ IntKind.u64.bits = b := Nat.mod_eq_of_lt hb
  have h := Nat.xor_lt_two_pow ha hb
  simp only [bits, BitVec.ofInt_natCast, BitVec.toNat_xor, BitVec.toNat_ofNat, ha', hb', wrap_u64]
  omega
theorem and_nat (a b : Nat) (ha : a < 2 ^ 64) (hb : b < 2 ^ 64) : bits .and .u64 a b = ((a &&& b : Nat) : Int) :=
  (bits_nat .u64 64 (by decide) wraps_u64 a b ha hb).1
theorem or_nat (a b : Nat) (ha : a < 2 ^ 64) (hb : b < 2 ^ 64) : bits .or .u64 a b = ((a ||| b : Nat) : Int) :=
  (bits_nat .u64 64 (by decide) wraps_u64 a b ha hb).2
theorem xor_ones_u64 (a : Int) (h0 : 0 ≤ a) (h1 : a < 18446744073709551616) : bits .xor .u64 a 18446744073709551615 = 18446744073709551615 - a := by
  obtain ⟨n, rfl⟩ := Int.eq_ofNat_of_zero_le h0
  have e : BitVec.ofInt IntKind.u64.bits 18446744073709551615 = BitVec.allOnes IntKind.u64.bits := by decide
  have hn : n % 2 ^ 64 = n := Nat.mod_eq_of_lt (by omega)
  simp only [bits, e, BitVec.ofInt_natCast, BitVec.xor_allOnes, BitVec.toNat_not, BitVec.toNat_ofNat, wrap_u64]
  simp only [IntKind.bits, hn]
  omega
theorem xor_zero_u64 (a : Int) (h0 : 0 ≤ a) (h1 : a < 18446744073709551616) : bits .xor .u64 a 0 = a := by
  obtain ⟨n, rfl⟩ := Int.eq_ofNat_of_zero_le h0
  have := xor_nat n 0 (by omega) (by decide)
  simpa using this
theorem xor_ones_i64 (a : Int) (h0 : -9223372036854775808 ≤ a) (h1 : a < 9223372036854775808) : bits .xor .i64 a (-1) = -a - 1 := by
  have e : BitVec.ofInt IntKind.i64.bits (-1) = BitVec.allOnes IntKind.i64.bits := by decide
  simp only [bits, e, BitVec.xor_allOnes, BitVec.toNat_not, BitVec.toNat_ofInt, IntKind.wrap_i64]
  simp only [IntKind.bits]
  omega
theorem xor_zero_i64 (a : Int) (h0 : -9223372036854775808 ≤ a) (h1 : a < 9223372036854775808) : bits .xor .i64 a 0 = a := by
  have e : BitVec.ofInt IntKind.i64.bits 0 = 0#IntKind.i64.bits := by decide
  simp only [bits, e, BitVec.xor_zero, BitVec.toNat_ofInt, IntKind.wrap_i64]
  simp only [IntKind.bits]
  omega
theorem and_one (u : Int) (h0 : 0 ≤ u) (h1 : u < 18446744073709551616) : bits .and .u64 u 1 = u % 2 := by
  have := bits_mask .u64 64 (by decide) wraps_u64 1 (by decide) u h0 h1
  simpa using this
theorem and_127 (c : Int) (h0 : 0 ≤ c) (h1 : c < 256) : bits .and .u8 c 127 = c % 128 := by
  have := bits_mask .u8 8 (by decide) wraps_u8' 7 (by decide) c h0 h1
  simpa using this
theorem or_128 (m : Int) (h0 : 0 ≤ m) (h1 : m < 256) : bits .or .u8 m 128 = 128 + m % 128 := by
  have h : ∀ j : Fin 256, bits .or .u8 (j.val : Int) 128 = 128 + (j.val : Int) % 128 := by decide +kernel
  obtain ⟨n, rfl⟩ := Int.eq_ofNat_of_zero_le h0
  exact h ⟨n, by omega⟩
/-- A low part and a high part. -/
theorem or_add (i : Nat) (lo hi : Int) (l0 : 0 ≤ lo) (l1 : lo < 2 ^ i) (l2 : lo < 18446744073709551616) (h0 : 0 ≤ hi) (h1 : hi < 18446744073709551616) (hm : hi % 2 ^ i = 0) :
    bits .or .u64 lo hi = lo + hi := by
  rw [bits_or_comm, bits_join .u64 64 (by decide) wraps_u64 i hi lo h0 hm h1 l0 l1 l2]
  omega

/-! ### zigzag -/
def zig (x : Int) : Int := if 0 ≤ x then 2 * x else -2 * x - 1
def unzig (u : Int) : Int := if u % 2 = 0 then u / 2 else -(u / 2) - 1
theorem zig_range (x : Int) (h0 : -9223372036854775808 ≤ x) (h1 : x < 9223372036854775808) : 0 ≤ zig x ∧ zig x < 18446744073709551616 := by
  unfold zig; split <;> omega
theorem unzig_range (u : Int) (h0 : 0 ≤ u) (h1 : u < 18446744073709551616) : -9223372036854775808 ≤ unzig u ∧ unzig u < 9223372036854775808 := by
  unfold unzig; split <;> omega
theorem unzig_zig (x : Int) : unzig (zig x) = x := by
  unfold unzig zig; split <;> split <;> omega
theorem zig_unzig (u : Int) (h0 : 0 ≤ u) : zig (unzig u) = u := by
  unfold unzig zig; split <;> split <;> omega
theorem zig_bits (x : Int) (h0 : -9223372036854775808 ≤ x) (h1 : x < 9223372036854775808) :
    bits .xor .u64 (IntKind.u64.wrap (IntKind.u64.wrap x * 2)) (IntKind.u64.wrap (x / 9223372036854775808)) = zig x := by
  unfold zig
  by_cases h : 0 ≤ x
  · have e1 : IntKind.u64.wrap (IntKind.u64.wrap x * 2) = 2 * x := by rw [wrap_u64, wrap_u64]; omega
    have e2 : IntKind.u64.wrap (x / 9223372036854775808) = 0 := by rw [wrap_u64]; omega
    rw [e1, e2, xor_zero_u64 _ (by omega) (by omega), if_pos h]
  · have e1 : IntKind.u64.wrap (IntKind.u64.wrap x * 2) = 2 * x + 18446744073709551616 := by rw [wrap_u64, wrap_u64]; omega
    have e2 : IntKind.u64.wrap (x / 9223372036854775808) = 18446744073709551615 := by rw [wrap_u64]; omega
    rw [e1, e2, xor_ones_u64 _ (by omega) (by omega), if_neg h]
    omega

theorem unzig_bits (u : Int) (h0 : 0 ≤ u) (h1 : u < 18446744073709551616) :
    bits .xor .i64 (IntKind.i64.wrap (u / 2)) (IntKind.i64.wrap (-(IntKind.i64.wrap (bits .and .u64 u 1)))) = unzig u := by
  unfold unzig
  rw [and_one u h0 h1]
  have e1 : IntKind.i64.wrap (u / 2) = u / 2 := by rw [IntKind.wrap_i64]; omega
  by_cases h : u % 2 = 0
  · have e2 : IntKind.i64.wrap (-(IntKind.i64.wrap (u % 2))) = 0 := by rw [IntKind.wrap_i64, IntKind.wrap_i64]; omega
    rw [e1, e2, xor_zero_i64 _ (by omega) (by omega), if_pos h]
  · have e2 : IntKind.i64.wrap (-(IntKind.i64.wrap (u % 2))) = -1 := by rw [IntKind.wrap_i64, IntKind.wrap_i64]; omega
    rw [e1, e2, xor_ones_i64 _ (by omega) (by omega), if_neg h]

/-! ### varints -/
/-- The varint of a number. -/
def venc (n : Nat) : List Int := if n < 128 then [(n : Int)] else ((128 + n % 128 : Nat) : Int) :: venc (n / 128)
termination_by n
theorem venc_lt {n : Nat} (h : n < 128) : venc n = [(n : Int)] := by rw [venc, if_pos h]
theorem venc_ge {n : Nat} (h : ¬ n < 128) : venc n = ((128 + n % 128 : Nat) : Int) :: venc (n / 128) := by rw [venc, if_neg h]
theorem venc_pos (n : Nat) : 1 ≤ (venc n).length := by
  rw [venc]; split <;> simp
theorem venc_len : ∀ (j n : Nat), n < 128 ^ (j + 1) → (venc n).length ≤ j + 1 := by
  intro j
  induction j with
  | zero => intro n h; rw [venc_lt (by simpa using h)]; simp
  | succ j ih =>
    intro n h
    by_cases hn : n < 128
    · rw [venc_lt hn]; simp
    · rw [venc_ge hn, List.length_cons]
      have := ih (n / 128) (by rw [Nat.div_lt_iff_lt_mul (by decide)]; rw [Nat.pow_succ] at h; exact h)
      omega
theorem venc_len10 (n : Nat) (h : n < 18446744073709551616) : (venc n).length ≤ 10 := venc_len 9 n (by omega)
theorem venc_range (n : Nat) : ∀ x ∈ venc n, 0 ≤ x ∧ x < 256 := by
  induction n using Nat.strongRecOn with
  | _ n ih =>
    intro x hx
    by_cases hn : n < 128
    · rw [venc_lt hn, List.mem_singleton] at hx
      omega
    · rw [venc_ge hn, List.mem_cons] at hx
      rcases hx with rfl | hx
      · omega
      · exact ih (n / 128) (by omega) x hx

/-- Decoding at an offset: the number, the offset behind it, the error (0, 2 short, 4 format). f: 10 - i. -/
def vd (b : List Int) (o : Nat) : Nat → Nat → Nat → Int × Int × Int
  | 0, _, _ => (0, 0, 4)
  | f + 1, i, acc =>
    if b.length ≤ o + i then (0, 0, 2)
    else
      let c := (b.getD (o + i) 0).toNat
      if i = 9 ∧ 1 < c ∨ 0 < i ∧ c = 0 then (0, 0, 4)
      else if c < 128 then ((acc + c * 128 ^ i : Nat), (o + i + 1 : Nat), 0)
      else vd b o f (i + 1) (acc + c % 128 * 128 ^ i)
/-- Decode, offsets of any kind: 1 argument. -/
def vdec (b : List Int) (o : Int) : Int × Int × Int :=
  if o < 0 ∨ (b.length : Int) < o then (0, 0, 1) else vd b o.toNat 10 0 0

theorem pow128 (i : Nat) : 128 ^ (i + 1) = 128 * 128 ^ i := by rw [Nat.pow_succ, Nat.mul_comm]

/-- What was encoded is decoded. -/
theorem vd_venc (o : Nat) (b post : List Int) : ∀ (f i acc n : Nat) (pre : List Int), i + f = 10 → 1 ≤ f → n * 128 ^ i < 18446744073709551616 → (0 < i → 0 < n) →
    b = pre ++ (venc n ++ post) → o + i = pre.length → vd b o f i acc = (((acc + n * 128 ^ i : Nat) : Int), ((pre.length + (venc n).length : Nat) : Int), 0) := by
  intro f
  induction f with
  | zero => intro i acc n pre _ h; omega
  | succ f ih =>
    intro i acc n pre hi _ hn hp hb ho
    have hl : ¬ b.length ≤ o + i := by
      have := venc_pos n
      rw [hb, ho, List.length_append, List.length_append]; omega
    have hi9 : i ≤ 9 := by omega
    unfold vd
    rw [if_neg hl]
    by_cases h : n < 128
    · have hc : b.getD (o + i) 0 = (n : Int) := by
        rw [hb, ho, venc_lt h, List.getD_eq_getElem?_getD, List.getElem?_append_right (Nat.le_refl _)]
        simp
      simp only [hc, Int.toNat_natCast]
      have h9 : i = 9 → n ≤ 1 := by
        intro e; subst e
        have : (128 : Nat) ^ 9 = 9223372036854775808 := by decide
        omega
      rw [if_neg (by omega), if_pos h, venc_lt h, ho]
      simp
    · have hc : b.getD (o + i) 0 = ((128 + n % 128 : Nat) : Int) := by
        rw [hb, ho, venc_ge h, List.getD_eq_getElem?_getD, List.getElem?_append_right (Nat.le_refl _)]
        simp
      simp only [hc, Int.toNat_natCast]
      have hf : 1 ≤ f := by
        rcases Nat.eq_zero_or_pos f with h0 | h0
        · have e : i = 9 := by omega
          subst e
          have : (128 : Nat) ^ 9 = 9223372036854775808 := by decide
          omega
        · exact h0
      have hq : n / 128 * 128 ^ (i + 1) = n / 128 * 128 * 128 ^ i := by rw [pow128, Nat.mul_assoc]
      have hdm : n = n / 128 * 128 + n % 128 := by omega
      have hsum : n * 128 ^ i = n / 128 * 128 * 128 ^ i + n % 128 * 128 ^ i := by
        rw [← Nat.add_mul, ← hdm]
      rw [if_neg (by omega), if_neg (by omega), show (128 + n % 128) % 128 = n % 128 by omega,
        ih (i + 1) _ (n / 128) (pre ++ [((128 + n % 128 : Nat) : Int)]) (by omega) hf (by rw [hq]; omega) (by omega) (by rw [hb, venc_ge h]; simp) (by rw [List.length_append, ← ho]; simp; omega)]
      rw [venc_ge h, hq]
      simp only [List.length_append, List.length_cons, List.length_nil, Prod.mk.injEq, and_true]
      constructor <;> congr 1 <;> omega

/-- What is decoded was encoded. -/
theorem vd_ok (o : Nat) (b : List Int) (hb : ∀ x ∈ b, 0 ≤ x ∧ x < 256) : ∀ (f i acc : Nat) (v t : Int), i + f = 10 → vd b o f i acc = (v, t, 0) →
    ∃ n : Nat, v = ((acc + n * 128 ^ i : Nat) : Int) ∧ n * 128 ^ i < 18446744073709551616 ∧ (0 < i → 0 < n) ∧ t = ((o + i + (venc n).length : Nat) : Int) ∧ o + i + (venc n).length ≤ b.length ∧ (b.drop (o + i)).take (venc n).length = venc n := by
  intro f
  induction f with
  | zero => intro i acc v t _ h; simp [vd] at h
  | succ f ih =>
    intro i acc v t hi h
    unfold vd at h
    by_cases hl : b.length ≤ o + i
    · rw [if_pos hl] at h; simp at h
    rw [if_neg hl] at h
    have hlt : o + i < b.length := by omega
    have hget : b.getD (o + i) 0 = b[o + i] := by rw [List.getD_eq_getElem?_getD, List.getElem?_eq_getElem hlt]; rfl
    have hr := hb b[o + i] (List.getElem_mem hlt)
    obtain ⟨c, hc⟩ := Int.eq_ofNat_of_zero_le hr.1
    have hdrop : b.drop (o + i) = (c : Int) :: b.drop (o + i + 1) := by rw [List.drop_eq_getElem_cons hlt, hc]
    simp only [hget, hc, Int.toNat_natCast] at h
    have hc256 : c < 256 := by omega
    by_cases h1 : i = 9 ∧ 1 < c ∨ 0 < i ∧ c = 0
    · rw [if_pos h1] at h; simp at h
    rw [if_neg h1] at h
    have hp9 : i ≤ 9 := by omega
    have hpow : 128 ^ i * 128 ^ (9 - i) = 9223372036854775808 := by rw [← Nat.pow_add, show i + (9 - i) = 9 by omega]
    by_cases h2 : c < 128
    · rw [if_pos h2] at h
      simp only [Prod.mk.injEq, and_true] at h
      refine ⟨c, h.1.symm, ?_, fun hi0 => by omega, ?_, ?_, ?_⟩
      · by_cases e9 : i = 9
        · subst e9
          have : (128 : Nat) ^ 9 = 9223372036854775808 := by decide
          have : c ≤ 1 := by omega
          omega
        · have h8 : 128 ^ i ≤ 128 ^ 8 := Nat.pow_le_pow_right (by decide) (by omega)
          have : (128 : Nat) ^ 8 = 72057594037927936 := by decide
          have : c * 128 ^ i ≤ 127 * 72057594037927936 := Nat.mul_le_mul (by omega) (by omega)
          omega
      · rw [venc_lt h2, ← h.2]; simp
      · rw [venc_lt h2]; simp; omega
      · rw [venc_lt h2, hdrop]; simp
    · rw [if_neg h2] at h
      have i8 : i ≤ 8 := by omega
      obtain ⟨n, hv, hn, hpos, ht, hlen, htake⟩ := ih (i + 1) _ v t (by omega) h
      have hn0 : 0 < n := hpos (by omega)
      have hge : ¬ (n * 128 + c % 128) < 128 := by omega
      have e1 : (n * 128 + c % 128) / 128 = n := by omega
      have e2 : 128 + (n * 128 + c % 128) % 128 = c := by omega
      have e3 : (n * 128 + c % 128) * 128 ^ i = n * 128 ^ (i + 1) + c % 128 * 128 ^ i := by rw [Nat.add_mul, pow128, Nat.mul_assoc]
      have hv' : venc (n * 128 + c % 128) = (c : Int) :: venc n := by rw [venc_ge hge, e1, e2]
      refine ⟨n * 128 + c % 128, ?_, ?_, fun _ => by omega, ?_, ?_, ?_⟩
      · rw [hv, e3]; congr 1; omega
      · rw [e3]
        -- the low part is below 128^(i+1), and n * 128^(i+1) is a multiple below 2^64
        have hlow : c % 128 * 128 ^ i + 128 ^ i ≤ 128 ^ (i + 1) := by
          rw [pow128, ← Nat.succ_mul]
          exact Nat.mul_le_mul_right _ (by omega)
        have hdvd : 2 * (128 ^ (i + 1) * 128 ^ (8 - i)) = 18446744073709551616 := by
          rw [← Nat.pow_add, show i + 1 + (8 - i) = 9 by omega]
        have hpp : 0 < 128 ^ i := Nat.pow_pos (by decide)
        have hq : n < 2 * 128 ^ (8 - i) := by
          rcases Nat.lt_or_ge n (2 * 128 ^ (8 - i)) with h | h
          · exact h
          · exfalso
            have : 2 * 128 ^ (8 - i) * 128 ^ (i + 1) ≤ n * 128 ^ (i + 1) := Nat.mul_le_mul_right _ h
            rw [Nat.mul_assoc, Nat.mul_comm (128 ^ (8 - i))] at this
            omega
        have : (n + 1) * 128 ^ (i + 1) ≤ 2 * 128 ^ (8 - i) * 128 ^ (i + 1) := Nat.mul_le_mul_right _ hq
        rw [Nat.mul_assoc, Nat.mul_comm (128 ^ (8 - i)), Nat.succ_mul] at this
        omega
      · rw [hv', ht]; congr 1; simp; omega
      · rw [hv']; simp; omega
      · rw [hv', hdrop]
        simp only [List.length_cons, List.take_succ_cons]
        rw [show o + i + 1 = o + (i + 1) by omega, htake]
theorem vd_err (b : List Int) (o : Nat) : ∀ (f i acc : Nat), (∃ v t, vd b o f i acc = (v, t, 0)) ∨ vd b o f i acc = (0, 0, 2) ∨ vd b o f i acc = (0, 0, 4) := by
  intro f
  induction f with
  | zero => intro i acc; exact .inr (.inr rfl)
  | succ f ih =>
    intro i acc
    unfold vd
    split
    · exact .inr (.inl rfl)
    · simp only
      split
      · exact .inr (.inr rfl)
      · split
        · exact .inl ⟨_, _, rfl⟩
        · exact ih _ _

/-! ### little-endian numbers -/
def le : List Int → Nat
  | [] => 0
  | c :: r => c.toNat + 256 * le r
def fixed (n : Nat) : Nat → List Int
  | 0 => []
  | s + 1 => ((n % 256 : Nat) : Int) :: fixed (n / 256) s
theorem fixed_len : ∀ (s n : Nat), (fixed n s).length = s := by
  intro s
  induction s with
  | zero => intro n; rfl
  | succ s ih => intro n; simp [fixed, ih]
theorem fixed_get : ∀ (n s i : Nat) (h : i < s), (fixed n s)[i]'(by rw [fixed_len]; exact h) = ((n / 256 ^ i % 256 : Nat) : Int) := by
  intro n s
  induction s generalizing n with
  | zero => intro i h; omega
  | succ s ih =>
    intro i h
    cases i with
    | zero => simp [fixed]
    | succ i =>
      simp only [fixed, List.getElem_cons_succ]
      rw [ih (n / 256) i (by omega), Nat.div_div_eq_div_mul, Nat.pow_succ, Nat.mul_comm 256]
theorem fixed_range : ∀ (s n : Nat), ∀ x ∈ fixed n s, 0 ≤ x ∧ x < 256 := by
  intro s
  induction s with
  | zero => intro n x h; cases h
  | succ s ih =>
    intro n x h
    simp only [fixed, List.mem_cons] at h
    rcases h with rfl | h
    · omega
    · exact ih _ x h
theorem le_append : ∀ (a b : List Int), le (a ++ b) = le a + 256 ^ a.length * le b := by
  intro a
  induction a with
  | nil => intro b; simp [le]
  | cons c a ih =>
    intro b
    simp only [List.cons_append, le, ih, List.length_cons, Nat.pow_succ]
    rw [Nat.mul_add, Nat.mul_comm (256 ^ a.length) 256, Nat.mul_assoc]; omega
theorem le_lt : ∀ (a : List Int), (∀ x ∈ a, 0 ≤ x ∧ x < 256) → le a < 256 ^ a.length := by
  intro a
  induction a with
  | nil => intro _; simp [le]
  | cons c a ih =>
    intro h
    have h1 := ih (fun x hx => h x (List.mem_cons_of_mem _ hx))
    have h2 := h c List.mem_cons_self
    simp only [le, List.length_cons, Nat.pow_succ]
    omega
theorem le_fixed : ∀ (s n : Nat), n < 256 ^ s → le (fixed n s) = n := by
  intro s
  induction s with
  | zero => intro n h; simp at h; simp [fixed, le, h]
  | succ s ih =>
    intro n h
    simp only [fixed, le]
    rw [ih (n / 256) (by rw [Nat.pow_succ] at h; omega)]
    omega
end Go.Proofs.YtjeheopcohnkeaaM
