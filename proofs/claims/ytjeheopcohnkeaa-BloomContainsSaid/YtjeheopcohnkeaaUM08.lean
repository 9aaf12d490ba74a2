/- Sets of small numbers as 64-bit words: plain Lean. -/
import Derived.Test.YtjeheopcohnkeaaUM02
set_option linter.unusedVariables false
set_option linter.unusedSimpArgs false
namespace Go.Proofs.YtjeheopcohnkeaaM
open Go Go.RowKit Go.Proofs.YtjeheopcohnkeaaW.PrintWords

/-! ### a set of numbers as 64-bit words -/
/-- Bit i of the words. -/
def gb (ws : List Int) (i : Nat) : Bool := (ws.getD (i / 64) 0).toNat.testBit (i % 64)
/-- Bit i set. -/
def sb (ws : List Int) (i : Nat) : List Int := ws.set (i / 64) (((ws.getD (i / 64) 0).toNat ||| 2 ^ (i % 64) : Nat) : Int)
def wok (ws : List Int) : Prop := ∀ x ∈ ws, 0 ≤ x ∧ x < 18446744073709551616
theorem wok_get {ws : List Int} (h : wok ws) (i : Nat) : 0 ≤ ws.getD i 0 ∧ ws.getD i 0 < 18446744073709551616 := by
  rw [List.getD_eq_getElem?_getD]
  by_cases hi : i < ws.length
  · rw [List.getElem?_eq_getElem hi]; exact h _ (List.getElem_mem hi)
  · rw [List.getElem?_eq_none (by omega)]; simp
theorem sb_length (ws : List Int) (i : Nat) : (sb ws i).length = ws.length := by simp [sb]
theorem pow_lt64 (k : Nat) (h : k < 64) : 2 ^ k < 2 ^ 64 := Nat.pow_lt_pow_right (by decide) h
theorem sb_wok {ws : List Int} (h : wok ws) (i : Nat) : wok (sb ws i) := by
  intro x hx
  rcases List.mem_or_eq_of_mem_set hx with h1 | h1
  · exact h x h1
  · have h2 := wok_get h (i / 64)
    have h3 : (ws.getD (i / 64) 0).toNat ||| 2 ^ (i % 64) < 2 ^ 64 := Nat.or_lt_two_pow (by omega) (pow_lt64 _ (Nat.mod_lt _ (by decide)))
    rw [h1]; omega
theorem gb_sb {ws : List Int} {i : Nat} (hi : i / 64 < ws.length) (j : Nat) : gb (sb ws i) j = (gb ws j || decide (j = i)) := by
  unfold gb sb
  by_cases hd : j / 64 = i / 64
  · rw [hd]
    simp only [List.getD_eq_getElem?_getD, List.getElem?_set_self hi, Option.getD_some, Int.toNat_natCast, Nat.testBit_or]
    congr 1
    rw [Nat.testBit_two_pow]
    congr 1
    simp only [eq_iff_iff]
    omega
  · rw [List.getD_eq_getElem?_getD, List.getElem?_set_ne (Ne.symm hd), ← List.getD_eq_getElem?_getD]
    rw [decide_eq_false (by intro e; exact hd (by rw [e])), Bool.or_false]
theorem gb_out {ws : List Int} {i : Nat} (h : 64 * ws.length ≤ i) : gb ws i = false := by
  unfold gb
  rw [List.getD_eq_getElem?_getD, List.getElem?_eq_none (by omega)]
  simp
theorem gb_append0 (ws : List Int) (j : Nat) : gb (ws ++ [0]) j = gb ws j := by
  unfold gb
  simp only [List.getD_eq_getElem?_getD]
  by_cases h : j / 64 < ws.length
  · rw [List.getElem?_append_left h]
  · rw [List.getElem?_append_right (by omega), show ws[j / 64]? = none from List.getElem?_eq_none (by omega)]
    by_cases h2 : j / 64 - ws.length = 0
    · rw [h2]; simp
    · rw [List.getElem?_eq_none (by simp; omega)]
theorem gb_zeros (n j : Nat) : gb (List.replicate n 0) j = false := by
  unfold gb
  rw [List.getD_eq_getElem?_getD]
  by_cases h : j / 64 < n
  · rw [List.getElem?_replicate, if_pos h]; simp
  · rw [List.getElem?_eq_none (by simp; omega)]; simp
theorem wok_zeros (n : Nat) : wok (List.replicate n 0) := by
  intro x hx; have := List.eq_of_mem_replicate hx; omega
theorem wok_append0 {ws : List Int} (h : wok ws) : wok (ws ++ [0]) := by
  intro x hx
  rcases List.mem_append.1 hx with h1 | h1
  · exact h x h1
  · have : x = 0 := by simpa using h1
    omega
/-- Words are told by their bits. -/
theorem gb_ext {a b : List Int} (hl : a.length = b.length) (ha : wok a) (hb : wok b) (h : ∀ i, i < 64 * a.length → gb a i = gb b i) : a = b := by
  apply List.ext_getElem hl
  intro k hk hk'
  have h1 := wok_get ha k
  have h2 := wok_get hb k
  have e1 : a.getD k 0 = a[k] := by rw [List.getD_eq_getElem?_getD, List.getElem?_eq_getElem hk]; rfl
  have e2 : b.getD k 0 = b[k] := by rw [List.getD_eq_getElem?_getD, List.getElem?_eq_getElem hk']; rfl
  have h3 : (a.getD k 0).toNat = (b.getD k 0).toNat := by
    apply Nat.eq_of_testBit_eq
    intro i
    by_cases hi : i < 64
    · have h4 := h (64 * k + i) (by omega)
      unfold gb at h4
      rw [show (64 * k + i) / 64 = k by omega, show (64 * k + i) % 64 = i by omega] at h4
      exact h4
    · have hp : 2 ^ 64 ≤ 2 ^ i := Nat.pow_le_pow_right (by decide) (by omega)
      rw [Nat.testBit_lt_two_pow (by omega), Nat.testBit_lt_two_pow (by omega)]
  rw [e1, e2] at h3
  rw [e1] at h1
  rw [e2] at h2
  omega
def wc (n : Nat) : Nat := (n + 63) / 64
/-- The words of the numbers below n that f accepts. -/
def wofN (m : Nat) (f : Nat → Bool) : Nat → List Int
  | 0 => List.replicate m 0
  | k + 1 => if f k then sb (wofN m f k) k else wofN m f k
def wof (n : Nat) (f : Nat → Bool) : List Int := wofN (wc n) f n
theorem wofN_length (m : Nat) (f : Nat → Bool) : ∀ k, (wofN m f k).length = m := by
  intro k
  induction k with
  | zero => simp [wofN]
  | succ k ih => simp only [wofN]; split <;> simp [sb_length, ih]
theorem wofN_wok (m : Nat) (f : Nat → Bool) : ∀ k, wok (wofN m f k) := by
  intro k
  induction k with
  | zero => exact wok_zeros m
  | succ k ih => simp only [wofN]; split; exact sb_wok ih k; exact ih
theorem gb_wofN (m : Nat) (f : Nat → Bool) : ∀ k, k ≤ 64 * m → ∀ j, gb (wofN m f k) j = (decide (j < k) && f j) := by
  intro k
  induction k with
  | zero => intro _ j; simp [wofN, gb_zeros]
  | succ k ih =>
    intro hk j
    have h := ih (by omega) j
    simp only [wofN]
    by_cases hf : f k = true
    · rw [if_pos hf, gb_sb (by rw [wofN_length]; omega), h]
      by_cases hj : j = k
      · subst hj; simp [hf]
      · simp only [decide_eq_false hj, Bool.or_false]
        congr 1
        simp only [decide_eq_decide]; omega
    · rw [if_neg hf, h]
      by_cases hj : j = k
      · subst hj; simp [hf]
      · congr 1
        simp only [decide_eq_decide]; omega
theorem wc_le (n : Nat) : n ≤ 64 * wc n := by unfold wc; omega
theorem wof_length (n : Nat) (f : Nat → Bool) : (wof n f).length = wc n := wofN_length _ _ _
theorem wof_wok (n : Nat) (f : Nat → Bool) : wok (wof n f) := wofN_wok _ _ _
theorem gb_wof (n : Nat) (f : Nat → Bool) (j : Nat) : gb (wof n f) j = (decide (j < n) && f j) := gb_wofN _ _ _ (wc_le n) j
theorem wof_eq {ws : List Int} {n : Nat} {f : Nat → Bool} (hl : ws.length = wc n) (hw : wok ws) (h : ∀ i, gb ws i = (decide (i < n) && f i)) : ws = wof n f :=
  gb_ext (by rw [hl, wof_length]) hw (wof_wok n f) (fun i _ => by rw [h, gb_wof])
theorem wof_congr {n : Nat} {f g : Nat → Bool} (h : ∀ i, i < n → f i = g i) : wof n f = wof n g :=
  wof_eq (wof_length n f) (wof_wok n f) (fun i => by
    rw [gb_wof]
    by_cases hi : i < n
    · rw [h i hi]
    · simp [hi])
/-- One bit more at the end. -/
theorem wof_snoc (n : Nat) (f : Nat → Bool) : wof (n + 1) f = if f n then sb (if n % 64 = 0 then wof n f ++ [0] else wof n f) n else (if n % 64 = 0 then wof n f ++ [0] else wof n f) := by
  have hl : (if n % 64 = 0 then wof n f ++ [0] else wof n f).length = wc (n + 1) := by
    split <;> simp only [List.length_append, wof_length, List.length_singleton] <;> unfold wc <;> omega
  have hg : ∀ j, gb (if n % 64 = 0 then wof n f ++ [0] else wof n f) j = gb (wof n f) j := by
    intro j; split
    · exact gb_append0 _ _
    · rfl
  have hw : wok (if n % 64 = 0 then wof n f ++ [0] else wof n f) := by
    split
    · exact wok_append0 (wof_wok n f)
    · exact wof_wok n f
  symm
  refine wof_eq ?_ ?_ ?_
  · split
    · rw [sb_length]; exact hl
    · exact hl
  · split
    · exact sb_wok hw n
    · exact hw
  · intro j
    by_cases hf : f n = true
    · rw [if_pos hf, gb_sb (by rw [hl]; unfold wc; omega), hg, gb_wof]
      by_cases hj : j = n
      · subst hj; simp [hf]
      · simp only [decide_eq_false hj, Bool.or_false]
        congr 1
        simp only [decide_eq_decide]; omega
    · rw [if_neg hf, hg, gb_wof]
      by_cases hj : j = n
      · subst hj; simp [hf]
      · congr 1
        simp only [decide_eq_decide]; omega
end Go.Proofs.YtjeheopcohnkeaaM
