/- Packed numbers of a fixed bit width, as one number: plain Lean. -/
import Derived.Test.YtjeheopcohnkeaaUM02
set_option linter.unusedVariables false
set_option linter.unusedSimpArgs false
namespace Go.Proofs.YtjeheopcohnkeaaM
open Go Go.RowKit Go.Proofs.YtjeheopcohnkeaaW.PrintWords

/-! ### bytes as a number -/
theorem le_set : ∀ (l : List Int) (j : Nat) (v : Int), j < l.length → le (l.set j v) + (l.getD j 0).toNat * 256 ^ j = le l + v.toNat * 256 ^ j := by
  intro l
  induction l with
  | nil => intro j v h; simp at h
  | cons c l ih =>
    intro j v h
    cases j with
    | zero => simp [le]; omega
    | succ j =>
      have := ih j v (by simpa using h)
      simp only [List.set_cons_succ, le, List.getD_cons_succ, Nat.pow_succ]
      rw [← Nat.mul_assoc, ← Nat.mul_assoc]
      omega
theorem le_get : ∀ (l : List Int) (j : Nat), (∀ x ∈ l, 0 ≤ x ∧ x < 256) → l.getD j 0 = ((le l / 256 ^ j % 256 : Nat) : Int) := by
  intro l
  induction l with
  | nil => intro j h; simp [le]
  | cons c l ih =>
    intro j h
    have hc := h c List.mem_cons_self
    cases j with
    | zero => simp [le]; omega
    | succ j =>
      rw [List.getD_cons_succ, ih j (fun x hx => h x (List.mem_cons_of_mem _ hx))]
      simp only [le]
      rw [show 256 ^ (j + 1) = 256 * 256 ^ j by rw [Nat.pow_succ, Nat.mul_comm], ← Nat.div_div_eq_div_mul, show (c.toNat + 256 * le l) / 256 = le l by omega]
theorem fixed_le : ∀ (l : List Int), (∀ x ∈ l, 0 ≤ x ∧ x < 256) → fixed (le l) l.length = l := by
  intro l
  induction l with
  | nil => intro _; rfl
  | cons c l ih =>
    intro h
    have hc := h c List.mem_cons_self
    simp only [le, List.length_cons, fixed]
    rw [show (c.toNat + 256 * le l) / 256 = le l by omega, ih (fun x hx => h x (List.mem_cons_of_mem _ hx))]
    congr 1
    omega
theorem le_zeros (n : Nat) : le (List.replicate n 0) = 0 := by
  induction n with
  | zero => rfl
  | succ n ih => simp [List.replicate_succ, le, ih]
theorem pow256 (j : Nat) : 256 ^ j = 2 ^ (8 * j) := by rw [show 256 = 2 ^ 8 by rfl, ← Nat.pow_mul]
/-- Byte j of a number below 2^a, where byte j is the one that bit a lies in: below 2^(a%8). -/
theorem byte_lt (N a : Nat) (h : N < 2 ^ a) : N / 256 ^ (a / 8) % 256 < 2 ^ (a % 8) := by
  rw [pow256]
  have h1 : N / 2 ^ (8 * (a / 8)) < 2 ^ (a % 8) := by
    rw [Nat.div_lt_iff_lt_mul (Nat.two_pow_pos _), ← Nat.pow_add, show a % 8 + 8 * (a / 8) = a by omega]; exact h
  exact Nat.lt_of_le_of_lt (Nat.mod_le _ _) h1
/-- Bits of a byte are bits of the number. -/
theorem byte_bits (N a t : Nat) (h : a % 8 + t ≤ 8) : N / 256 ^ (a / 8) % 256 / 2 ^ (a % 8) % 2 ^ t = N / 2 ^ a % 2 ^ t := by
  rw [pow256]
  generalize hM : N / 2 ^ (8 * (a / 8)) = M
  have h2 : N / 2 ^ a = M / 2 ^ (a % 8) := by rw [← hM, Nat.div_div_eq_div_mul, ← Nat.pow_add]; congr 2; omega
  rw [h2, show 256 = 2 ^ (a % 8) * 2 ^ (8 - a % 8) by rw [← Nat.pow_add, show a % 8 + (8 - a % 8) = 8 by omega], Nat.mod_mul_right_div_self,
    show 2 ^ (8 - a % 8) = 2 ^ t * 2 ^ (8 - a % 8 - t) by rw [← Nat.pow_add]; congr 1; omega, Nat.mod_mul_right_mod]
theorem mod_split (x d t : Nat) : x % 2 ^ (d + t) = x % 2 ^ d + x / 2 ^ d % 2 ^ t * 2 ^ d := by
  rw [Nat.pow_add, Nat.mod_mul, Nat.mul_comm (2 ^ d)]
theorem mod_lt_pow (x d : Nat) : x % 2 ^ d < 2 ^ d := Nat.mod_lt _ (Nat.two_pow_pos d)
theorem pow_cast (t : Nat) : ((2 ^ t : Nat) : Int) = 2 ^ t := by simp
theorem pow_le_256 (t : Nat) (h : t ≤ 8) : 2 ^ t ≤ 256 := by
  have := Nat.pow_le_pow_right (n := 2) (by decide) h; simpa using this
theorem pow_le_64 (t : Nat) (h : t ≤ 64) : 2 ^ t ≤ 18446744073709551616 := by
  have := Nat.pow_le_pow_right (n := 2) (by decide) h; simpa using this

/-! ### packed numbers -/
def packN (w : Nat) : List Int → Nat
  | [] => 0
  | v :: l => v.toNat % 2 ^ w + 2 ^ w * packN w l
theorem packN_lt (w : Nat) : ∀ (l : List Int), packN w l < 2 ^ (w * l.length) := by
  intro l
  induction l with
  | nil => simp [packN]
  | cons v l ih =>
    simp only [packN, List.length_cons, Nat.mul_succ]
    have h1 := mod_lt_pow v.toNat w
    rw [Nat.add_comm (w * l.length) w, Nat.pow_add]
    calc v.toNat % 2 ^ w + 2 ^ w * packN w l < 2 ^ w + 2 ^ w * packN w l := by omega
      _ = 2 ^ w * (packN w l + 1) := by rw [Nat.mul_add]; omega
      _ ≤ 2 ^ w * 2 ^ (w * l.length) := Nat.mul_le_mul_left _ ih
theorem packN_snoc (w : Nat) (v : Int) : ∀ (l : List Int), packN w (l ++ [v]) = packN w l + v.toNat % 2 ^ w * 2 ^ (w * l.length) := by
  intro l
  induction l with
  | nil => simp [packN]
  | cons u l ih =>
    simp only [List.cons_append, packN, ih, List.length_cons, Nat.mul_succ]
    rw [Nat.mul_add, Nat.add_comm (w * l.length) w, Nat.pow_add]
    rw [Nat.mul_left_comm (2 ^ w)]
    omega
theorem packN_get (w : Nat) : ∀ (l : List Int) (i : Nat), i < l.length → packN w l / 2 ^ (i * w) % 2 ^ w = (l.getD i 0).toNat % 2 ^ w := by
  intro l
  induction l with
  | nil => intro i h; simp at h
  | cons v l ih =>
    intro i h
    cases i with
    | zero => simp [packN]
    | succ i =>
      rw [List.getD_cons_succ, ← ih i (by simpa using h), show (i + 1) * w = w + i * w by rw [Nat.succ_mul]; omega, Nat.pow_add, ← Nat.div_div_eq_div_mul]
      simp only [packN]
      rw [Nat.add_mul_div_left _ _ (Nat.two_pow_pos w), Nat.div_eq_of_lt (mod_lt_pow _ _), Nat.zero_add]
/-- Numbers out of a stream, and back. -/
def unpackN (w : Nat) (N : Nat) : Nat → List Int
  | 0 => []
  | n + 1 => ((N % 2 ^ w : Nat) : Int) :: unpackN w (N / 2 ^ w) n
theorem unpackN_len (w : Nat) : ∀ (n N : Nat), (unpackN w N n).length = n := by
  intro n
  induction n with
  | zero => intro N; rfl
  | succ n ih => intro N; simp [unpackN, ih]
theorem unpackN_get (w : Nat) : ∀ (n N i : Nat), i < n → (unpackN w N n).getD i 0 = ((N / 2 ^ (i * w) % 2 ^ w : Nat) : Int) := by
  intro n
  induction n with
  | zero => intro N i h; omega
  | succ n ih =>
    intro N i h
    cases i with
    | zero => simp [unpackN]
    | succ i =>
      simp only [unpackN, List.getD_cons_succ]
      rw [ih _ i (by omega), Nat.div_div_eq_div_mul, ← Nat.pow_add, show w + i * w = (i + 1) * w by rw [Nat.succ_mul]; omega]
theorem packN_unpackN (w : Nat) : ∀ (n N : Nat), N < 2 ^ (w * n) → packN w (unpackN w N n) = N := by
  intro n
  induction n with
  | zero => intro N h; simp at h; simp [unpackN, packN, h]
  | succ n ih =>
    intro N h
    simp only [unpackN, packN]
    rw [ih]
    · rw [Int.toNat_natCast, Nat.mod_mod, Nat.mod_add_div]
    · rw [Nat.div_lt_iff_lt_mul (Nat.two_pow_pos w), ← Nat.pow_add]
      rw [Nat.mul_succ] at h; exact h
theorem unpackN_packN (w : Nat) (l : List Int) (h : ∀ x ∈ l, 0 ≤ x ∧ x < 2 ^ w) : unpackN w (packN w l) l.length = l := by
  induction l with
  | nil => rfl
  | cons v l ih =>
    have hv := h v List.mem_cons_self
    have hv2 : v.toNat < 2 ^ w := by
      have := pow_cast w; omega
    simp only [List.length_cons, unpackN, packN]
    rw [Nat.add_mul_mod_self_left, Nat.mod_mod, Nat.mod_eq_of_lt hv2, Nat.add_mul_div_left _ _ (Nat.two_pow_pos w), Nat.div_eq_of_lt hv2, Nat.zero_add, ih (fun x hx => h x (List.mem_cons_of_mem _ hx))]
    congr 1
    omega
def pbytes (n w : Nat) : Nat := (n * w + 7) / 8
/-- What Pack answers. -/
def packed (l : List Int) (w : Nat) : List Int := fixed (packN w l) (pbytes l.length w)
theorem packed_len (l : List Int) (w : Nat) : (packed l w).length = pbytes l.length w := fixed_len _ _
theorem le_packed (l : List Int) (w : Nat) : le (packed l w) = packN w l := by
  unfold packed
  refine le_fixed _ _ (Nat.lt_of_lt_of_le (packN_lt w l) ?_)
  rw [pow256]
  exact Nat.pow_le_pow_right (by decide) (by unfold pbytes; rw [Nat.mul_comm w]; omega)

/-! ### the operations' own spelling -/
theorem mask_u64 (x t : Nat) (hx : x < 18446744073709551616) (ht : t ≤ 64) : bits .and .u64 (x : Int) (2 ^ t - 1) = ((x % 2 ^ t : Nat) : Int) := by
  rw [bits_mask .u64 64 (by decide) wraps_u64 t ht (x : Int) (by omega) (by omega)]; simp
theorem mask_u8 (x t : Nat) (hx : x < 256) (ht : t ≤ 8) : bits .and .u8 (x : Int) (2 ^ t - 1) = ((x % 2 ^ t : Nat) : Int) := by
  rw [bits_mask .u8 8 (by decide) wraps_u8' t ht (x : Int) (by omega) (by omega)]; simp
theorem or_u8 (r x y : Nat) (hx : x < 2 ^ r) (hx2 : x < 256) (hy : y * 2 ^ r < 256) : bits .or .u8 (x : Int) ((y * 2 ^ r : Nat) : Int) = ((x + y * 2 ^ r : Nat) : Int) := by
  rw [bits_or_comm, bits_join .u8 8 (by decide) wraps_u8' r _ _ (by omega) (by simp) (by omega) (by omega) (by have := pow_cast r; omega) (by omega)]
  omega
theorem or_u64 (r x y : Nat) (hx : x < 2 ^ r) (hx2 : x < 18446744073709551616) (hy : y * 2 ^ r < 18446744073709551616) : bits .or .u64 (x : Int) ((y * 2 ^ r : Nat) : Int) = ((x + y * 2 ^ r : Nat) : Int) := by
  rw [bits_or_comm, bits_join .u64 64 (by decide) wraps_u64 r _ _ (by omega) (by simp) (by omega) (by omega) (by have := pow_cast r; omega) (by omega)]
  omega
theorem mask_lit (t : Nat) (ht : t ≤ 8) : ((2 : Int) ^ t - 1) % 256 = 2 ^ t - 1 := by
  have h : ∀ j : Fin 9, ((2 : Int) ^ j.val - 1) % 256 = 2 ^ j.val - 1 := by decide
  exact h ⟨t, by omega⟩
theorem mul_pow_lt (c t g B : Nat) (hc : c < 2 ^ t) (h : t + g ≤ B) : c * 2 ^ g < 2 ^ B := by
  have h1 : c * 2 ^ g < 2 ^ t * 2 ^ g := Nat.mul_lt_mul_of_pos_right hc (Nat.two_pow_pos g)
  rw [← Nat.pow_add] at h1
  exact Nat.lt_of_lt_of_le h1 (Nat.pow_le_pow_right (by decide) h)
/-- One round of bitpack's read. -/
theorem read_step (N p g a r j t : Nat) (x y : Int) (ha : a = p + g) (hr : r = a % 8) (hj : j = a / 8) (hx : x = ((N / 2 ^ p % 2 ^ g : Nat) : Int)) (hy : y = ((N / 256 ^ j % 256 : Nat) : Int)) (ht : r + t ≤ 8) (hgt : g + t ≤ 64) :
    bits .or .u64 x (IntKind.u64.wrap (IntKind.u64.wrap (bits .and .u8 (y / 2 ^ r) ((2 ^ t - 1) % 256)) * 2 ^ g)) = ((N / 2 ^ p % 2 ^ (g + t) : Nat) : Int) := by
  have hY : N / 256 ^ j % 256 < 256 := Nat.mod_lt _ (by decide)
  rw [mask_lit t (by omega), hy, ← pow_cast r, ← Int.natCast_ediv, mask_u8 _ t (Nat.lt_of_le_of_lt (Nat.div_le_self _ _) hY) (by omega)]
  have hc : N / 256 ^ j % 256 / 2 ^ r % 2 ^ t = N / 2 ^ a % 2 ^ t := by
    subst hr hj; exact byte_bits N a t ht
  rw [hc]
  have hlt := mod_lt_pow (N / 2 ^ a) t
  have h256 := pow_le_256 t (by omega)
  have hm := mul_pow_lt _ t g 64 hlt (by omega)
  have hg64 : N / 2 ^ p % 2 ^ g < 2 ^ 64 := Nat.lt_of_lt_of_le (mod_lt_pow _ g) (Nat.pow_le_pow_right (by decide) (by omega))
  rw [wraps_u64 ((N / 2 ^ a % 2 ^ t : Nat) : Int) (by omega) (by omega), ← pow_cast g, ← Int.natCast_mul, wraps_u64 _ (by omega) (by omega), hx, or_u64 g _ _ (mod_lt_pow _ g) hg64 hm, mod_split (N / 2 ^ p) g t, Nat.div_div_eq_div_mul, ← Nat.pow_add, ha]
/-- One round of bitpack's put: the byte. -/
theorem put_byte (m y r t : Nat) (hm : m < 18446744073709551616) (ht : r + t ≤ 8) (hy : y < 2 ^ r) :
    bits .or .u8 (y : Int) (bits .and .u64 (m : Int) (IntKind.u64.wrap (IntKind.u64.wrap (2 ^ t) - 1)) % 256 * 2 ^ r % 256) = ((y + m % 2 ^ t * 2 ^ r : Nat) : Int) ∧ y + m % 2 ^ t * 2 ^ r < 256 := by
  have h1 := pow_le_256 t (by omega)
  have hc := pow_cast t
  have h0 := Nat.two_pow_pos t
  have hlt := mod_lt_pow m t
  have hb := mul_pow_lt _ t r 8 hlt (by omega)
  have hy2 : y < 256 := Nat.lt_of_lt_of_le hy (pow_le_256 r (by omega))
  refine ⟨?_, ?_⟩
  · rw [wraps_u64 ((2 : Int) ^ t) (by omega) (by omega), wraps_u64 ((2 : Int) ^ t - 1) (by omega) (by omega), mask_u64 m t hm (by omega)]
    rw [show ((m % 2 ^ t : Nat) : Int) % 256 = ((m % 2 ^ t : Nat) : Int) by omega, ← pow_cast r, ← Int.natCast_mul, show ((m % 2 ^ t * 2 ^ r : Nat) : Int) % 256 = ((m % 2 ^ t * 2 ^ r : Nat) : Int) by omega]
    exact or_u8 r y _ hy hy2 hb
  · have h3 : y + m % 2 ^ t * 2 ^ r < 2 ^ r * 2 ^ t := by
      have h4 : (m % 2 ^ t + 1) * 2 ^ r ≤ 2 ^ t * 2 ^ r := Nat.mul_le_mul_right _ hlt
      rw [Nat.add_mul, Nat.one_mul] at h4
      rw [Nat.mul_comm (2 ^ r)]; omega
    rw [← Nat.pow_add] at h3
    exact Nat.lt_of_lt_of_le h3 (pow_le_256 _ (by omega))
/-- .. and the whole number. -/
theorem put_le (ys : List Int) (X n at_ d a r j t y m : Nat) (hr : r = a % 8) (hj : j = a / 8) (ha : a = at_ + d) (hm : m = n / 2 ^ d) (hL : le ys = X + n % 2 ^ d * 2 ^ at_) (hjl : j < ys.length) (hy : y = le ys / 256 ^ j % 256) (hY : ∀ x ∈ ys, 0 ≤ x ∧ x < 256) :
    le (ys.set j ((y + m % 2 ^ t * 2 ^ r : Nat) : Int)) = X + n % 2 ^ (d + t) * 2 ^ at_ := by
  have h1 := le_set ys j ((y + m % 2 ^ t * 2 ^ r : Nat) : Int) hjl
  rw [le_get ys j hY, ← hy, Int.toNat_natCast, Int.toNat_natCast, Nat.add_mul, hL] at h1
  have h2 : m % 2 ^ t * 2 ^ r * 256 ^ j = n / 2 ^ d % 2 ^ t * 2 ^ d * 2 ^ at_ := by
    rw [hm, pow256, Nat.mul_assoc, Nat.mul_assoc, ← Nat.pow_add, ← Nat.pow_add]
    congr 2; omega
  rw [mod_split n d t, Nat.add_mul]
  omega
theorem put_lt (X N d at_ a : Nat) (hX : X < 2 ^ at_) (ha : a = at_ + d) : X + N % 2 ^ d * 2 ^ at_ < 2 ^ a := by
  have h1 := mod_lt_pow N d
  have h4 : (N % 2 ^ d + 1) * 2 ^ at_ ≤ 2 ^ d * 2 ^ at_ := Nat.mul_le_mul_right _ h1
  rw [Nat.add_mul, Nat.one_mul, ← Nat.pow_add] at h4
  rw [ha, Nat.add_comm at_ d]; omega
end Go.Proofs.YtjeheopcohnkeaaM
