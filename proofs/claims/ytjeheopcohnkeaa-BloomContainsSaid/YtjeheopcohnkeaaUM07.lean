/- Remainders by a polynomial, bursts, and the mixing function's inverse: plain Lean. -/
import Derived.Test.YtjeheopcohnkeaaUM06
set_option linter.unusedVariables false
set_option linter.unusedSimpArgs false
namespace Go.Proofs.YtjeheopcohnkeaaM
open Go Go.RowKit Go.Proofs.YtjeheopcohnkeaaW.PrintWords

/-! ### the remainder, one bit at a time, on numbers of any size -/
def poly : Nat := 2197175160
def T (x : Nat) : Nat := if x % 2 = 1 then (x / 2) ^^^ poly else x / 2
def Tn : Nat → Nat → Nat
  | 0, x => x
  | k + 1, x => Tn k (T x)
theorem T_zero : T 0 = 0 := by decide
theorem Tn_zero (k : Nat) : Tn k 0 = 0 := by
  induction k with
  | zero => rfl
  | succ k ih => simp only [Tn, T_zero, ih]
theorem xor_mod2 (a b : Nat) : (a ^^^ b) % 2 = (a + b) % 2 := by
  have h := Nat.xor_mod_two_pow (a := a) (b := b) (n := 1)
  simp only [Nat.pow_one] at h
  rw [h]
  rcases Nat.mod_two_eq_zero_or_one a with ha | ha <;> rcases Nat.mod_two_eq_zero_or_one b with hb | hb <;> rw [ha, hb] <;> simp <;> omega
theorem T_xor (a b : Nat) : T (a ^^^ b) = T a ^^^ T b := by
  unfold T
  rw [xor_mod2, Nat.xor_div_two]
  rcases Nat.mod_two_eq_zero_or_one a with ha | ha <;> rcases Nat.mod_two_eq_zero_or_one b with hb | hb
  · rw [if_neg (by omega), if_neg (by omega), if_neg (by omega)]
  · rw [if_pos (by omega), if_neg (by omega), if_pos (by omega), Nat.xor_assoc]
  · rw [if_pos (by omega), if_pos (by omega), if_neg (by omega), Nat.xor_assoc, Nat.xor_assoc, Nat.xor_comm poly]
  · rw [if_neg (by omega), if_pos (by omega), if_pos (by omega)]
    rw [Nat.xor_assoc, Nat.xor_comm poly, Nat.xor_assoc, Nat.xor_self, Nat.xor_zero]
theorem Tn_xor : ∀ (k a b : Nat), Tn k (a ^^^ b) = Tn k a ^^^ Tn k b := by
  intro k
  induction k with
  | zero => intro a b; rfl
  | succ k ih => intro a b; simp only [Tn, T_xor, ih]
theorem Tn_add : ∀ (j k x : Nat), Tn (j + k) x = Tn k (Tn j x) := by
  intro j
  induction j with
  | zero => intro k x; simp [Tn]
  | succ j ih => intro k x; rw [Nat.succ_add]; simp only [Tn, ih]
theorem T_two (x : Nat) : T (2 * x) = x := by
  unfold T; rw [if_neg (by omega)]; omega
theorem Tn_shift : ∀ (k x : Nat), Tn k (2 ^ k * x) = x := by
  intro k
  induction k with
  | zero => intro x; simp [Tn]
  | succ k ih => intro x; simp only [Tn]; rw [Nat.pow_succ, Nat.mul_comm (2 ^ k), Nat.mul_assoc, T_two, ih]
theorem T_lt (x : Nat) (h : x < 2 ^ 32) : T x < 2 ^ 32 := by
  unfold T
  split
  · exact Nat.xor_lt_two_pow (by omega) (by decide)
  · omega
theorem Tn_lt : ∀ (k x : Nat), x < 2 ^ 32 → Tn k x < 2 ^ 32 := by
  intro k
  induction k with
  | zero => intro x h; exact h
  | succ k ih => intro x h; exact ih _ (T_lt x h)
theorem T_ne (x : Nat) (h : x < 2 ^ 32) (h0 : x ≠ 0) : T x ≠ 0 := by
  unfold T
  split
  · intro e
    have h1 : x / 2 = poly := by
      have : (x / 2) ^^^ poly ^^^ poly = 0 ^^^ poly := by rw [e]
      rw [Nat.xor_assoc, Nat.xor_self, Nat.xor_zero, Nat.zero_xor] at this
      exact this
    have h2 : poly = 2197175160 := rfl
    omega
  · omega
theorem Tn_ne : ∀ (k x : Nat), x < 2 ^ 32 → x ≠ 0 → Tn k x ≠ 0 := by
  intro k
  induction k with
  | zero => intro x _ h; exact h
  | succ k ih => intro x h h0; exact ih _ (T_lt x h) (T_ne x h h0)
/-- One byte: the register, xored with the byte, stepped eight times. -/
def stp (r : Nat) (b : Int) : Nat := Tn 8 (r ^^^ b.toNat)
def crcR (r : Nat) (l : List Int) : Nat := l.foldl stp r
theorem crcR_append (r : Nat) (a b : List Int) : crcR r (a ++ b) = crcR (crcR r a) b := List.foldl_append
theorem crcR_cons (r : Nat) (a : Int) (b : List Int) : crcR r (a :: b) = crcR (stp r a) b := rfl
theorem stp_lt (r : Nat) (b : Int) (h : r < 2 ^ 32) (hb : 0 ≤ b ∧ b < 256) : stp r b < 2 ^ 32 :=
  Tn_lt _ _ (Nat.xor_lt_two_pow h (by omega))
theorem crcR_lt : ∀ (l : List Int) (r : Nat), r < 2 ^ 32 → (∀ x ∈ l, 0 ≤ x ∧ x < 256) → crcR r l < 2 ^ 32 := by
  intro l
  induction l with
  | nil => intro r h _; exact h
  | cons b l ih => intro r h hl; exact ih _ (stp_lt r b h (hl b List.mem_cons_self)) (fun x hx => hl x (List.mem_cons_of_mem _ hx))
theorem add_eq_xor (a b k : Nat) (h : a < 2 ^ k) : a + 2 ^ k * b = a ^^^ (2 ^ k * b) := by
  rw [Nat.add_comm, Nat.two_pow_add_eq_or_of_lt h, Nat.xor_comm]
  apply Nat.eq_of_testBit_eq
  intro i
  rw [Nat.testBit_or, Nat.testBit_xor, Nat.testBit_two_pow_mul]
  by_cases hi : i < k
  · simp [Nat.not_le.2 hi]
  · have : a.testBit i = false := Nat.testBit_lt_two_pow (Nat.lt_of_lt_of_le h (Nat.pow_le_pow_right (by decide) (by omega)))
    simp [this]
/-- All bytes at once. -/
theorem crcR_le : ∀ (l : List Int) (r : Nat), (∀ x ∈ l, 0 ≤ x ∧ x < 256) → crcR r l = Tn (8 * l.length) (r ^^^ le l) := by
  intro l
  induction l with
  | nil => intro r _; simp [crcR, le, Tn]
  | cons b l ih =>
    intro r hl
    have hb := hl b List.mem_cons_self
    rw [crcR_cons, ih _ (fun x hx => hl x (List.mem_cons_of_mem _ hx)), List.length_cons, Nat.mul_succ, Nat.add_comm, Tn_add]
    simp only [le, stp]
    rw [show 256 = 2 ^ 8 by rfl, add_eq_xor _ _ 8 (by omega), ← Nat.xor_assoc, Tn_xor 8 (r ^^^ b.toNat), Tn_shift]
/-- A burst: not zero, at most 32 bits long, wherever it stands. -/
theorem burst (w f n : Nat) (hw : w < 2 ^ 32) (h0 : w ≠ 0) : Tn n (2 ^ f * w) ≠ 0 := by
  by_cases h : f ≤ n
  · obtain ⟨d, rfl⟩ := Nat.exists_eq_add_of_le h
    rw [Tn_add, Tn_shift]
    exact Tn_ne _ _ hw h0
  · obtain ⟨d, rfl⟩ := Nat.exists_eq_add_of_le (Nat.le_of_not_le h)
    rw [Nat.pow_add, Nat.mul_assoc, Tn_shift]
    have := Nat.mul_pos (Nat.two_pow_pos d) (Nat.pos_of_ne_zero h0)
    omega
/-- The check: the trailer is the remainder's complement exactly where the whole comes to all ones. -/
theorem check_iff (d t : List Int) (hd : ∀ x ∈ d, 0 ≤ x ∧ x < 256) :
    (4294967295 ^^^ crcR 4294967295 d = le t) ↔ Tn (8 * d.length) (4294967295 ^^^ le (d ++ t)) = 4294967295 := by
  rw [crcR_le d _ hd, le_append, pow256, add_eq_xor _ _ _ (by rw [← pow256]; exact le_lt d hd), ← Nat.xor_assoc, Tn_xor _ (4294967295 ^^^ le d), Tn_shift]
  generalize Tn (8 * d.length) (4294967295 ^^^ le d) = X
  generalize le t = Y
  constructor
  · intro h; rw [← h, ← Nat.xor_assoc, Nat.xor_comm X, Nat.xor_assoc, Nat.xor_self, Nat.xor_zero]
  · intro h; rw [← h, Nat.xor_comm X Y, Nat.xor_assoc, Nat.xor_self, Nat.xor_zero]
/-- One bit of a list of bytes flipped is one bit of the number flipped. -/
theorem le_flip : ∀ (l : List Int) (k : Nat), k < 8 * l.length → (∀ x ∈ l, 0 ≤ x ∧ x < 256) →
    le (l.set (k / 8) (((l.getD (k / 8) 0).toNat ^^^ 2 ^ (k % 8) : Nat) : Int)) = le l ^^^ 2 ^ k := by
  intro l
  induction l with
  | nil => intro k h; simp at h
  | cons c l ih =>
    intro k h hl
    have hc := hl c List.mem_cons_self
    have hl' := fun x hx => hl x (List.mem_cons_of_mem c hx)
    by_cases hk : k < 8
    · rw [show k / 8 = 0 by omega, show k % 8 = k by omega]
      simp only [List.set_cons_zero, List.getD_cons_zero, le, Int.toNat_natCast]
      have h8 : 2 ^ k < 2 ^ 8 := Nat.pow_lt_pow_right (by decide) hk
      rw [show 256 = 2 ^ 8 by rfl, add_eq_xor _ _ 8 (Nat.xor_lt_two_pow (by omega) h8), add_eq_xor _ _ 8 (by omega), Nat.xor_assoc, Nat.xor_assoc, Nat.xor_comm (2 ^ k)]
    · obtain ⟨j, rfl⟩ : ∃ j, k = j + 8 := ⟨k - 8, by omega⟩
      rw [show (j + 8) / 8 = j / 8 + 1 by omega, show (j + 8) % 8 = j % 8 by omega]
      simp only [List.set_cons_succ, List.getD_cons_succ, le]
      rw [ih j (by simp at h; omega) hl', show 256 = 2 ^ 8 by rfl, add_eq_xor _ _ 8 (by omega), add_eq_xor _ _ 8 (by omega), Nat.pow_add, Nat.mul_comm (2 ^ j), ← Nat.mul_comm (le l ^^^ 2 ^ j), Nat.xor_assoc]
      congr 1
      rw [Nat.mul_comm (le l ^^^ 2 ^ j)]
      apply Nat.eq_of_testBit_eq
      intro i
      simp only [Nat.testBit_xor, Nat.testBit_two_pow_mul]
      by_cases hi : i ≥ 8 <;> simp [hi]

/-! ### mixing -/
theorem unshift_step (x k j : Nat) : (x ^^^ x >>> k) ^^^ ((x ^^^ x >>> (k * (j + 1))) >>> k) = x ^^^ x >>> (k * (j + 2)) := by
  rw [Nat.shiftRight_xor_distrib, ← Nat.shiftRight_add, Nat.xor_assoc, ← Nat.xor_assoc (x >>> k), Nat.xor_self, Nat.zero_xor, show k * (j + 1) + k = k * (j + 2) by rw [← Nat.mul_succ]]
theorem shr_zero (x k : Nat) (hx : x < 2 ^ 64) (hk : 64 ≤ k) : x >>> k = 0 := by
  rw [Nat.shiftRight_eq_div_pow]
  exact Nat.div_eq_of_lt (Nat.lt_of_lt_of_le hx (Nat.pow_le_pow_right (by decide) hk))
/-- Three rounds of unshifting. -/
def unsh (n k : Nat) : Nat := n ^^^ ((n ^^^ ((n ^^^ (n >>> k)) >>> k)) >>> k)
theorem unsh_sh (x k : Nat) (hx : x < 2 ^ 64) (hk : 22 ≤ k) : unsh (x ^^^ x >>> k) k = x := by
  unfold unsh
  have h1 := unshift_step x k 0
  have h2 := unshift_step x k 1
  have h3 := unshift_step x k 2
  simp only [Nat.zero_add, Nat.mul_one] at h1
  rw [h1, h2, h3, shr_zero x _ hx (by omega), Nat.xor_zero]
theorem sh_unsh (n k : Nat) (hn : n < 2 ^ 64) (hk : 22 ≤ k) : unsh n k ^^^ unsh n k >>> k = n := by
  unfold unsh
  simp only [Nat.shiftRight_xor_distrib, ← Nat.shiftRight_add]
  rw [shr_zero n (k + k + k) hn (by omega), show n >>> (k + k + k + k) = 0 from shr_zero n _ hn (by omega)]
  simp only [Nat.xor_zero, ← Nat.xor_assoc]
  apply Nat.eq_of_testBit_eq
  intro i
  simp only [Nat.testBit_xor]
  cases n.testBit i <;> cases (n >>> k).testBit i <;> cases (n >>> (k + k)).testBit i <;> rfl
end Go.Proofs.YtjeheopcohnkeaaM
