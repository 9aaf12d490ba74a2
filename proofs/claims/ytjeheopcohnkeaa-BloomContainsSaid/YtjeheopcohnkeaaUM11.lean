/- The bits of a word, counted and in order: plain Lean. -/
import Derived.Test.YtjeheopcohnkeaaUM08
set_option linter.unusedVariables false
set_option linter.unusedSimpArgs false
namespace Go.Proofs.YtjeheopcohnkeaaM
open Go Go.RowKit Go.Proofs.YtjeheopcohnkeaaW.PrintWords

/-! ### the numbers from lo on, n of them, that f accepts -/
def els (f : Nat → Bool) : Nat → Nat → List Nat
  | _, 0 => []
  | lo, n + 1 => if f lo then lo :: els f (lo + 1) n else els f (lo + 1) n
theorem els_congr {f g : Nat → Bool} : ∀ (n lo : Nat), (∀ i, lo ≤ i → i < lo + n → f i = g i) → els f lo n = els g lo n := by
  intro n
  induction n with
  | zero => intro lo _; rfl
  | succ n ih =>
    intro lo h
    simp only [els]
    rw [h lo (Nat.le_refl _) (by omega), ih (lo + 1) (fun i h1 h2 => h i (by omega) (by omega))]
theorem els_none {f : Nat → Bool} : ∀ (n lo : Nat), (∀ i, lo ≤ i → i < lo + n → f i = false) → els f lo n = [] := by
  intro n
  induction n with
  | zero => intro lo _; rfl
  | succ n ih =>
    intro lo h
    simp only [els]
    rw [h lo (Nat.le_refl _) (by omega), ih (lo + 1) (fun i h1 h2 => h i (by omega) (by omega))]
    rfl
theorem els_split {f : Nat → Bool} : ∀ (m lo n : Nat), els f lo (m + n) = els f lo m ++ els f (lo + m) n := by
  intro m
  induction m with
  | zero => intro lo n; simp [els]
  | succ m ih =>
    intro lo n
    rw [Nat.succ_add]
    simp only [els]
    rw [ih, show lo + 1 + m = lo + (m + 1) by omega]
    split <;> simp
theorem els_mem {f : Nat → Bool} : ∀ (n lo : Nat), ∀ x ∈ els f lo n, lo ≤ x ∧ x < lo + n ∧ f x = true := by
  intro n
  induction n with
  | zero => intro lo x h; cases h
  | succ n ih =>
    intro lo x h
    simp only [els] at h
    by_cases hf : f lo = true
    · rw [if_pos hf] at h
      rcases List.mem_cons.1 h with rfl | h
      · exact ⟨Nat.le_refl _, by omega, hf⟩
      · have := ih _ x h; exact ⟨by omega, by omega, this.2.2⟩
    · rw [if_neg hf] at h
      have := ih _ x h; exact ⟨by omega, by omega, this.2.2⟩
theorem els_len_le {f : Nat → Bool} : ∀ (n lo : Nat), (els f lo n).length ≤ n := by
  intro n
  induction n with
  | zero => intro lo; exact Nat.le_refl _
  | succ n ih => intro lo; have := ih (lo + 1); simp only [els]; split <;> simp <;> omega
theorem els_add {f : Nat → Bool} (c : Nat) : ∀ (n lo : Nat), (els (fun i => f (c + i)) lo n).map (c + ·) = els f (c + lo) n := by
  intro n
  induction n with
  | zero => intro lo; rfl
  | succ n ih =>
    intro lo
    have := ih (lo + 1)
    simp only [els]
    rw [show c + lo + 1 = c + (lo + 1) by omega, ← this]
    split <;> simp
/-- The first one. -/
theorem els_first {f : Nat → Bool} {lo t n : Nat} (h1 : lo ≤ t) (h2 : t < lo + n) (h3 : ∀ i, lo ≤ i → i < t → f i = false) (h4 : f t = true) : els f lo n = t :: els f (t + 1) (lo + n - (t + 1)) := by
  have e : n = (t - lo) + ((lo + n - (t + 1)) + 1) := by omega
  rw [e, els_split, els_none (t - lo) lo (fun i a b => h3 i a (by omega)), show lo + (t - lo) = t by omega]
  simp only [List.nil_append, els, h4, if_true]
  congr 2
  omega
/-! ### the lowest bit -/
theorem odd_part : ∀ (x : Nat), x ≠ 0 → ∃ t q, x = 2 ^ t * (2 * q + 1) := by
  intro x
  induction x using Nat.strongRecOn with
  | _ x ih =>
    intro h
    by_cases h2 : x % 2 = 1
    · exact ⟨0, x / 2, by omega⟩
    · obtain ⟨t, q, e⟩ := ih (x / 2) (by omega) (by omega)
      exact ⟨t + 1, q, by rw [Nat.pow_succ, Nat.mul_comm (2 ^ t), Nat.mul_assoc, ← e]; omega⟩
theorem bit_odd (t q i : Nat) : (2 ^ t * (2 * q + 1)).testBit i = (decide (i = t) || (decide (t < i) && q.testBit (i - t - 1))) := by
  rw [Nat.testBit_two_pow_mul]
  by_cases h : t ≤ i
  · obtain ⟨d, rfl⟩ := Nat.exists_eq_add_of_le h
    rw [show t + d - t = d by omega]
    cases d with
    | zero => simp [Nat.testBit_zero]
    | succ d =>
      rw [Nat.testBit_succ, show (2 * q + 1) / 2 = q by omega]
      simp
  · have h1 : i ≠ t := by omega
    have h2 : ¬ t < i := by omega
    simp [h, h1, h2]
theorem bit_pred (t q i : Nat) : (2 ^ t * (2 * q + 1) - 1).testBit i = (decide (i < t) || (decide (t < i) && q.testBit (i - t - 1))) := by
  have e : 2 ^ t * (2 * q + 1) - 1 = 2 ^ (t + 1) * q + (2 ^ t - 1) := by
    have := Nat.two_pow_pos t
    rw [Nat.mul_add, Nat.mul_one, Nat.pow_succ, Nat.mul_assoc]; omega
  have hlt : 2 ^ t - 1 < 2 ^ (t + 1) := by have := Nat.two_pow_pos t; rw [Nat.pow_succ]; omega
  rw [e, Nat.testBit_two_pow_mul_add _ hlt]
  by_cases h : i < t + 1
  · rw [if_pos h, Nat.testBit_two_pow_sub_one]
    have : ¬ t < i := by omega
    simp [this]
  · rw [if_neg h]
    have h1 : ¬ i < t := by omega
    have h2 : t < i := by omega
    rw [show i - (t + 1) = i - t - 1 by omega]
    simp [h1, h2]
theorem clear_low (t q : Nat) : 2 ^ t * (2 * q + 1) &&& (2 ^ t * (2 * q + 1) - 1) = 2 ^ (t + 1) * q := by
  apply Nat.eq_of_testBit_eq
  intro i
  rw [Nat.testBit_and, bit_odd, bit_pred, Nat.testBit_two_pow_mul]
  rcases Nat.lt_trichotomy i t with h | h | h
  · have h1 : i ≠ t := by omega
    have h2 : ¬ t < i := by omega
    have h3 : ¬ t + 1 ≤ i := by omega
    simp [h1, h2, h3]
  · subst h; simp; omega
  · have h1 : i ≠ t := by omega
    have h2 : ¬ i < t := by omega
    have h3 : t + 1 ≤ i := by omega
    simp [h1, h2, h, h3, Nat.sub_sub]
theorem low_bit (t q k : Nat) (h : 2 ^ t * (2 * q + 1) < 2 ^ k) : 2 ^ t * (2 * q + 1) &&& (2 ^ k - 2 ^ t * (2 * q + 1)) = 2 ^ t := by
  have ht : t < k := by
    rcases Nat.lt_or_ge t k with h1 | h1
    · exact h1
    · have := Nat.pow_le_pow_right (n := 2) (by decide) h1
      have h2 : 2 ^ t * 1 ≤ 2 ^ t * (2 * q + 1) := Nat.mul_le_mul_left _ (by omega)
      omega
  obtain ⟨d, rfl⟩ : ∃ d, k = t + 1 + d := ⟨k - t - 1, by omega⟩
  have hq : q < 2 ^ d := by
    have h3 : 2 ^ t * (2 * q + 1) < 2 ^ t * (2 * 2 ^ d) := by
      rw [show 2 ^ t * (2 * 2 ^ d) = 2 ^ (t + 1 + d) by rw [Nat.pow_add, Nat.pow_succ, Nat.mul_assoc]]; exact h
    have := Nat.lt_of_mul_lt_mul_left h3
    omega
  have e : 2 ^ (t + 1 + d) - 2 ^ t * (2 * q + 1) = 2 ^ t * (2 * (2 ^ d - (q + 1)) + 1) := by
    rw [show 2 ^ (t + 1 + d) = 2 ^ t * (2 * 2 ^ d) by rw [Nat.pow_add, Nat.pow_succ, Nat.mul_assoc], ← Nat.mul_sub]
    congr 1
    omega
  rw [e]
  apply Nat.eq_of_testBit_eq
  intro i
  rw [Nat.testBit_and, bit_odd, bit_odd, Nat.testBit_two_pow]
  rcases Nat.lt_trichotomy i t with h1 | h1 | h1
  · have h2 : i ≠ t := by omega
    have h3 : ¬ t < i := by omega
    have h4 : ¬ t = i := by omega
    simp [h2, h3, h4]
  · subst h1; simp
  · have h2 : i ≠ t := by omega
    have h4 : ¬ t = i := by omega
    rw [Nat.testBit_two_pow_sub_succ hq]
    simp [h2, h1, h4]
    intro a _; exact a
/-! ### how many bits -/
def cB (f : Nat → Bool) (lo n : Nat) : Nat := (els f lo n).length
theorem cB_add (f : Nat → Bool) (lo m n : Nat) : cB f lo (m + n) = cB f lo m + cB f (lo + m) n := by
  unfold cB; rw [els_split, List.length_append]
theorem cB_shift (f : Nat → Bool) (c lo n : Nat) : cB (fun i => f (c + i)) lo n = cB f (c + lo) n := by
  unfold cB; rw [← els_add, List.length_map]
def Mk (c : Nat) : Nat → Nat
  | 0 => 0
  | n + 1 => c + 256 * Mk c n
theorem and_split (a b c d : Nat) (ha : a < 256) (hc : c < 256) : (a + 256 * b) &&& (c + 256 * d) = (a &&& c) + 256 * (b &&& d) := by
  have hac : a &&& c < 2 ^ 8 := Nat.lt_of_le_of_lt Nat.and_le_left (by omega)
  rw [show a + 256 * b = 2 ^ 8 * b + a by omega, show c + 256 * d = 2 ^ 8 * d + c by omega, show (a &&& c) + 256 * (b &&& d) = 2 ^ 8 * (b &&& d) + (a &&& c) by omega]
  apply Nat.eq_of_testBit_eq
  intro i
  rw [Nat.testBit_and, Nat.testBit_two_pow_mul_add _ (show a < 2 ^ 8 by omega), Nat.testBit_two_pow_mul_add _ (show c < 2 ^ 8 by omega), Nat.testBit_two_pow_mul_add _ hac]
  split <;> simp
def p1 (a : Nat) : Nat := ((a / 2) &&& 0x55) + (a &&& 0x55)
def p2 (a : Nat) : Nat := ((a / 4) &&& 0x33) + (a &&& 0x33)
def p3 (a : Nat) : Nat := (a / 16 + a) &&& 0x0f
theorem byte_all : ∀ a : Fin 256, (p1 a < 256 ∧ (p2 (p1 a) ≤ 0x44 ∧ p2 (p1 a) % 16 ≤ 4) ∧ p3 (p2 (p1 a)) = cB (fun i => a.val.testBit i) 0 8 ∧ (∀ e : Fin 2, (a.val / 2 + 128 * e.val) &&& 0x55 = (a.val / 2) &&& 0x55)) ∧ (∀ e : Fin 4, (a.val / 4 + 64 * e.val) &&& 0x33 = (a.val / 4) &&& 0x33) := by decide +kernel
theorem byte_16 : ∀ a : Fin 69, ∀ e : Fin 16, (a.val / 16 + 16 * e.val + a.val) &&& 0x0f = p3 a.val := by decide +kernel
def P1 (x n : Nat) : Nat := ((x / 2) &&& Mk 0x55 n) + (x &&& Mk 0x55 n)
def P2 (x n : Nat) : Nat := ((x / 4) &&& Mk 0x33 n) + (x &&& Mk 0x33 n)
def P3 (x n : Nat) : Nat := (x / 16 + x) &&& Mk 0x0f n
theorem P1_step (a b n : Nat) (ha : a < 256) : P1 (a + 256 * b) (n + 1) = p1 a + 256 * P1 b n := by
  have h := ((byte_all ⟨a, ha⟩).1.2.2.2) ⟨b % 2, by omega⟩
  simp only at h
  unfold P1 p1
  simp only [Mk]
  rw [show (a + 256 * b) / 2 = (a / 2 + 128 * (b % 2)) + 256 * (b / 2) by omega, and_split _ _ _ _ (by omega) (by decide), and_split _ _ _ _ ha (by decide), h]
  omega
theorem P2_step (a b n : Nat) (ha : a < 256) : P2 (a + 256 * b) (n + 1) = p2 a + 256 * P2 b n := by
  have h := (byte_all ⟨a, ha⟩).2 ⟨b % 4, by omega⟩
  simp only at h
  unfold P2 p2
  simp only [Mk]
  rw [show (a + 256 * b) / 4 = (a / 4 + 64 * (b % 4)) + 256 * (b / 4) by omega, and_split _ _ _ _ (by omega) (by decide), and_split _ _ _ _ ha (by decide), h]
  omega
theorem P3_step (a b n : Nat) (ha : a ≤ 0x44) (hb : b % 16 ≤ 4) : P3 (a + 256 * b) (n + 1) = p3 a + 256 * P3 b n := by
  have h := byte_16 ⟨a, by omega⟩ ⟨b % 16, by omega⟩
  simp only at h
  unfold P3
  simp only [Mk]
  rw [show (a + 256 * b) / 16 + (a + 256 * b) = (a / 16 + 16 * (b % 16) + a) + 256 * (b / 16 + b) by omega, and_split _ _ _ _ (by omega) (by decide), h]
/-- The counts of the bytes, in bytes. -/
def cbs (x : Nat) : Nat → Nat
  | 0 => 0
  | n + 1 => cB (fun i => (x % 256).testBit i) 0 8 + 256 * cbs (x / 256) n
theorem P12_low (n x : Nat) : P2 (P1 x n) n % 16 ≤ 4 := by
  cases n with
  | zero => simp [P2, P1, Mk]
  | succ n =>
    have ha : x % 256 < 256 := Nat.mod_lt _ (by decide)
    obtain ⟨⟨h1, ⟨_, h2⟩, _⟩, _⟩ := byte_all ⟨x % 256, ha⟩
    simp only at h1 h2
    conv => lhs; lhs; rw [show x = x % 256 + 256 * (x / 256) by omega]
    rw [P1_step _ _ _ ha, P2_step _ _ _ h1]
    omega
theorem P123 : ∀ (n x : Nat), P3 (P2 (P1 x n) n) n = cbs x n := by
  intro n
  induction n with
  | zero => intro x; simp [P3, P2, P1, Mk, cbs]
  | succ n ih =>
    intro x
    have ha : x % 256 < 256 := Nat.mod_lt _ (by decide)
    obtain ⟨⟨h1, ⟨h2, _⟩, h3, _⟩, _⟩ := byte_all ⟨x % 256, ha⟩
    simp only at h1 h2 h3
    conv => lhs; rw [show x = x % 256 + 256 * (x / 256) by omega]
    rw [P1_step _ _ _ ha, P2_step _ _ _ h1, P3_step _ _ _ h2 (P12_low n _), ih, h3]
    rfl
theorem cB8_le (f : Nat → Bool) (lo : Nat) : cB f lo 8 ≤ 8 := els_len_le 8 lo
theorem byte_count (x k : Nat) : cB (fun i => (x / 256 ^ k % 256).testBit i) 0 8 = cB (fun i => x.testBit i) (8 * k) 8 := by
  have h := cB_shift (fun i => x.testBit i) (8 * k) 0 8
  rw [Nat.add_zero] at h
  rw [← h]
  unfold cB
  congr 1
  apply els_congr
  intro i _ hi
  rw [show 256 = 2 ^ 8 by rfl, ← Nat.pow_mul, Nat.testBit_mod_two_pow, Nat.testBit_div_two_pow]
  have : i < 8 := by omega
  simp [this, Nat.add_comm]
/-- math/bits' way of counting. -/
def ones (x : Nat) : Nat :=
  let x3 := P3 (P2 (P1 x 8) 8) 8
  let x4 := x3 + x3 / 256
  let x5 := x4 + x4 / 65536
  let x6 := x5 + x5 / 4294967296
  x6 % 128
theorem ones_eq (x : Nat) : ones x = cB (fun i => x.testBit i) 0 64 := by
  have e : cB (fun i => x.testBit i) 0 64 = cB (fun i => x.testBit i) 0 8 + cB (fun i => x.testBit i) 8 8 + cB (fun i => x.testBit i) 16 8 + cB (fun i => x.testBit i) 24 8 + cB (fun i => x.testBit i) 32 8 + cB (fun i => x.testBit i) 40 8 + cB (fun i => x.testBit i) 48 8 + cB (fun i => x.testBit i) 56 8 := by
    have h0 : cB (fun i => x.testBit i) 0 64 = cB (fun i => x.testBit i) 0 8 + cB (fun i => x.testBit i) 8 56 := cB_add _ 0 8 56
    have h1 : cB (fun i => x.testBit i) 8 56 = cB (fun i => x.testBit i) 8 8 + cB (fun i => x.testBit i) 16 48 := cB_add _ 8 8 48
    have h2 : cB (fun i => x.testBit i) 16 48 = cB (fun i => x.testBit i) 16 8 + cB (fun i => x.testBit i) 24 40 := cB_add _ 16 8 40
    have h3 : cB (fun i => x.testBit i) 24 40 = cB (fun i => x.testBit i) 24 8 + cB (fun i => x.testBit i) 32 32 := cB_add _ 24 8 32
    have h4 : cB (fun i => x.testBit i) 32 32 = cB (fun i => x.testBit i) 32 8 + cB (fun i => x.testBit i) 40 24 := cB_add _ 32 8 24
    have h5 : cB (fun i => x.testBit i) 40 24 = cB (fun i => x.testBit i) 40 8 + cB (fun i => x.testBit i) 48 16 := cB_add _ 40 8 16
    have h6 : cB (fun i => x.testBit i) 48 16 = cB (fun i => x.testBit i) 48 8 + cB (fun i => x.testBit i) 56 8 := cB_add _ 48 8 8
    omega
  have b0 := byte_count x 0
  have b1 := byte_count x 1
  have b2 := byte_count x 2
  have b3 := byte_count x 3
  have b4 := byte_count x 4
  have b5 := byte_count x 5
  have b6 := byte_count x 6
  have b7 := byte_count x 7
  simp only [Nat.pow_zero, Nat.div_one] at b0
  have c : cbs x 8 = cB (fun i => x.testBit i) 0 8 + 256 * (cB (fun i => x.testBit i) 8 8 + 256 * (cB (fun i => x.testBit i) 16 8 + 256 * (cB (fun i => x.testBit i) 24 8 + 256 * (cB (fun i => x.testBit i) 32 8 + 256 * (cB (fun i => x.testBit i) 40 8 + 256 * (cB (fun i => x.testBit i) 48 8 + 256 * (cB (fun i => x.testBit i) 56 8 + 256 * 0))))))) := by
    simp only [cbs, Nat.div_div_eq_div_mul]
    rw [b0]
    rw [show 256 ^ 1 = 256 by rfl] at b1
    rw [show 256 ^ 2 = 256 * 256 by rfl] at b2
    rw [show 256 ^ 3 = 256 * 256 * 256 by rfl] at b3
    rw [show 256 ^ 4 = 256 * 256 * 256 * 256 by rfl] at b4
    rw [show 256 ^ 5 = 256 * 256 * 256 * 256 * 256 by rfl] at b5
    rw [show 256 ^ 6 = 256 * 256 * 256 * 256 * 256 * 256 by rfl] at b6
    rw [show 256 ^ 7 = 256 * 256 * 256 * 256 * 256 * 256 * 256 by rfl] at b7
    rw [b1, b2, b3, b4, b5, b6, b7]
  unfold ones
  simp only
  rw [P123, c, e]
  have l0 := cB8_le (fun i => x.testBit i) 0
  have l1 := cB8_le (fun i => x.testBit i) 8
  have l2 := cB8_le (fun i => x.testBit i) 16
  have l3 := cB8_le (fun i => x.testBit i) 24
  have l4 := cB8_le (fun i => x.testBit i) 32
  have l5 := cB8_le (fun i => x.testBit i) 40
  have l6 := cB8_le (fun i => x.testBit i) 48
  have l7 := cB8_le (fun i => x.testBit i) 56
  generalize cB (fun i => x.testBit i) 0 8 = c0 at *
  generalize cB (fun i => x.testBit i) 8 8 = c1 at *
  generalize cB (fun i => x.testBit i) 16 8 = c2 at *
  generalize cB (fun i => x.testBit i) 24 8 = c3 at *
  generalize cB (fun i => x.testBit i) 32 8 = c4 at *
  generalize cB (fun i => x.testBit i) 40 8 = c5 at *
  generalize cB (fun i => x.testBit i) 48 8 = c6 at *
  generalize cB (fun i => x.testBit i) 56 8 = c7 at *
  clear b0 b1 b2 b3 b4 b5 b6 b7 c e
  obtain ⟨y4, hy4⟩ : ∃ y, y = c4 + 256 * (c5 + 256 * (c6 + 256 * (c7 + 256 * 0))) := ⟨_, rfl⟩
  obtain ⟨y5, hy5⟩ : ∃ y, y = c5 + 256 * (c6 + 256 * (c7 + 256 * 0)) := ⟨_, rfl⟩
  rw [← hy4]
  have e1 : (c0 + 256 * (c1 + 256 * (c2 + 256 * (c3 + 256 * y4)))) / 256 = c1 + 256 * (c2 + 256 * (c3 + 256 * y4)) := by omega
  rw [e1]
  have e2 : (c0 + 256 * (c1 + 256 * (c2 + 256 * (c3 + 256 * y4))) + (c1 + 256 * (c2 + 256 * (c3 + 256 * y4)))) / 65536 = c2 + 256 * (c3 + 256 * y4) + (c3 + 256 * y4) := by omega
  rw [e2]
  have e3 : (c0 + 256 * (c1 + 256 * (c2 + 256 * (c3 + 256 * y4))) + (c1 + 256 * (c2 + 256 * (c3 + 256 * y4))) + (c2 + 256 * (c3 + 256 * y4) + (c3 + 256 * y4))) / 4294967296 = y4 + y5 + (c6 + 256 * (c7 + 256 * 0)) + c7 := by omega
  rw [e3]
  omega
end Go.Proofs.YtjeheopcohnkeaaM
