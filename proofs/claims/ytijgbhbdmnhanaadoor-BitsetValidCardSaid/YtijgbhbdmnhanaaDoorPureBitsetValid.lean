/- laminalaw03.BitsetValid returns true for all its arguments (validity equals the reference for any bitset), the table of math/bits tied to the program's text. Conditions: none beyond the row's own (slices of at most 2^47 - 4096 bytes). -/
import Derived.Test.YtijgbhbdmnhanaaDoorStBitsetValid
import Derived.Test.YtijgbhbdmnhanaaDoorM01
import Derived.Test.YtijgbhbdmnhanaaDoorM02
import Derived.Test.YtijgbhbdmnhanaaDoorM03
import Derived.Test.YtijgbhbdmnhanaaDoorM08
import Derived.Test.YtijgbhbdmnhanaaDoorM11
import Derived.Test.YtijgbhbdmnhanaaDoorM12
import Derived.Test.YtijgbhbdmnhanaaDoorM13
import Derived.Test.YtijgbhbdmnhanaaDoorM16
set_option linter.unusedVariables false
set_option linter.unusedSimpArgs false
namespace Go.Proofs.YtijgbhbdmnhanaaDoor.Pure
open Go Go.RowKit Go.Proofs.YtijgbhbdmnhanaaDoor.QBitsetValid Go.Proofs.YtijgbhbdmnhanaaDoorW.PrintWords Go.Proofs.YtijgbhbdmnhanaaDoorW.PrintLast Go.Proofs.YtijgbhbdmnhanaaDoorM

/-! ### the reference's bitset functions -/
theorem tdiv64 (i : Nat) (h : i < 9223372036854775808) : wrap64 (Int.tdiv (i : Int) 64) = ((i / 64 : Nat) : Int) := by
  rw [Int.tdiv_eq_ediv_of_nonneg (by omega), w64 _ (by omega) (by omega)]; omega
theorem tmod64 (i : Nat) : Int.tmod (i : Int) 64 = ((i % 64 : Nat) : Int) := by
  rw [Int.tmod_eq_emod_of_nonneg (by omega)]; omega
theorem utmod64 (i : Nat) : IntKind.u64.wrap (Int.tmod (i : Int) 64) = ((i % 64 : Nat) : Int) := by
  rw [tmod64]; exact wraps_u64 _ (by omega) (by omega)
theorem pow_cast0 (t : Nat) : ((2 ^ t : Nat) : Int) = 2 ^ t := by simp
theorem shl1 (r : Nat) (hr : r < 64) : shl .u64 1 (r : Int) = ((2 ^ r : Nat) : Int) := by
  have h := pow_lt64 r hr
  have h3 : ∀ p : Nat, p < 2 ^ 64 → IntKind.u64.wrap (p : Int) = (p : Int) := fun p hp => wraps_u64 _ (by omega) (by omega)
  unfold shl
  rw [show min ((r : Int).toNat) IntKind.u64.bits = r by simp [IntKind.bits]; omega, Int.one_mul, ← pow_cast0]
  exact h3 _ h
theorem bit_one (y : Int) (h0 : 0 ≤ y) (h1 : y < 18446744073709551616) (r : Nat) (hr : r < 64) : (Go.bits .and .u64 (shr .u64 y (r : Int)) 1 == 1) = y.toNat.testBit r := by
  obtain ⟨m, rfl⟩ := Int.eq_ofNat_of_zero_le h0
  unfold shr
  rw [show min ((r : Int).toNat) IntKind.u64.bits = r by simp [IntKind.bits]; omega, ← pow_cast0, ← Int.natCast_ediv, Int.toNat_natCast, Nat.testBit_eq_decide_div_mod_eq]
  have hqm := Nat.div_le_self m (2 ^ r)
  generalize m / 2 ^ r = q at hqm ⊢
  rw [and_one _ (by omega) (by omega)]
  by_cases hq : q % 2 = 1
  · rw [decide_eq_true hq]; simp; omega
  · rw [decide_eq_false hq]; simp; omega
theorem or_shl (ws : List Int) (hw : wok ws) (i : Nat) : Go.bits .or .u64 (ws.getD (i / 64) 0) (shl .u64 1 (((i % 64 : Nat)) : Int)) = (((ws.getD (i / 64) 0).toNat ||| 2 ^ (i % 64) : Nat) : Int) := by
  have h := wok_get hw (i / 64)
  rw [shl1 _ (Nat.mod_lt _ (by decide))]
  obtain ⟨m, hm⟩ := Int.eq_ofNat_of_zero_le h.1
  rw [hm] at h ⊢
  rw [Int.toNat_natCast]
  exact or_nat m _ (by omega) (pow_lt64 _ (Nat.mod_lt _ (by decide)))

/-! ### valid sets -/
def vset (a : Int) (ws : List Int) : Prop := 0 ≤ a ∧ a ≤ 1048576 ∧ ws.length = wc a.toNat ∧ ∀ j, a.toNat ≤ j → gb ws j = false
theorem last_word {ws : List Int} (hw : wok ws) {n : Nat} (hl : ws.length = wc n) (hn : n % 64 ≠ 0) :
    ((ws.getD (n / 64) 0).toNat / 2 ^ (n % 64) = 0) ↔ ∀ j, n ≤ j → gb ws j = false := by
  have hlt : n / 64 < ws.length := by rw [hl]; unfold wc; omega
  have hp := Nat.two_pow_pos (n % 64)
  constructor
  · intro h j hj
    by_cases hq : j / 64 = n / 64
    · unfold gb
      rw [hq]
      have h1 : (ws.getD (n / 64) 0).toNat < 2 ^ (n % 64) := by
        rcases Nat.div_eq_zero_iff.1 h with h2 | h2
        · omega
        · exact h2
      exact Nat.testBit_lt_two_pow (Nat.lt_of_lt_of_le h1 (Nat.pow_le_pow_right (by decide) (by omega)))
    · exact gb_out (by rw [hl]; unfold wc; omega)
  · intro h
    refine Nat.div_eq_of_lt (Nat.lt_pow_two_of_testBit _ (fun i hi => ?_))
    by_cases h64 : i < 64
    · have := h (64 * (n / 64) + i) (by omega)
      unfold gb at this
      rw [show (64 * (n / 64) + i) / 64 = n / 64 by omega, show (64 * (n / 64) + i) % 64 = i by omega] at this
      exact this
    · have h2 := wok_get hw (n / 64)
      have hp2 : 2 ^ 64 ≤ 2 ^ i := Nat.pow_le_pow_right (by decide) (by omega)
      exact Nat.testBit_lt_two_pow (by omega)
theorem vset_iff {n : Nat} {ws : List Int} : vset (n : Int) ws ↔ n ≤ 1048576 ∧ ws.length = wc n ∧ ∀ j, n ≤ j → gb ws j = false := by
  unfold vset
  rw [Int.toNat_natCast]
  constructor
  · rintro ⟨_, h2, h3, h4⟩; exact ⟨by omega, h3, h4⟩
  · rintro ⟨h2, h3, h4⟩; exact ⟨by omega, by omega, h3, h4⟩
theorem vset_wof (n : Nat) (f : Nat → Bool) (hn : n ≤ 1048576) : vset (n : Int) (wof n f) :=
  vset_iff.2 ⟨hn, wof_length n f, fun j hj => by rw [gb_wof, decide_eq_false (by omega), Bool.false_and]⟩
theorem vset_eq {n : Nat} {ws : List Int} (hw : wok ws) (h : vset (n : Int) ws) : ws = wof n (gb ws) := by
  obtain ⟨_, h2, h3⟩ := vset_iff.1 h
  refine wof_eq h2 hw (fun i => ?_)
  by_cases hi : i < n
  · rw [decide_eq_true hi, Bool.true_and]
  · rw [decide_eq_false hi, Bool.false_and, h3 i (by omega)]
theorem r03val (a : Int) (ws : List Int) (hw : wok ws) (hl : ws.length < 4611686018427387904) : ∃ b, laminaref03_Valid.f a ws = some b ∧ (b = true ↔ vset a ws) := by
  unfold laminaref03_Valid.f
  by_cases h1 : a < 0
  · exact ⟨false, by rw [if_pos h1], by simp [vset]; omega⟩
  by_cases h2 : a > 1048576
  · exact ⟨false, by rw [if_neg h1, if_pos h2], by simp [vset]; omega⟩
  obtain ⟨n, rfl⟩ := Int.eq_ofNat_of_zero_le (show 0 ≤ a by omega)
  rw [if_neg h1, if_neg h2, w64 ((n : Int) + 63) (by omega) (by omega), show (n : Int) + 63 = ((n + 63 : Nat) : Int) by omega, tdiv64 _ (by omega), tmod64]
  have hwc : (n + 63) / 64 = wc n := rfl
  by_cases h3 : ws.length = wc n
  · rw [if_pos (by omega)]
    by_cases h4 : n % 64 = 0
    · refine ⟨true, by rw [if_pos (by omega)], iff_of_true rfl (vset_iff.2 ⟨by omega, h3, fun j hj => gb_out (by rw [h3]; unfold wc; omega)⟩)⟩
    · have e : wrap64 ((ws.length : Int) - 1) = ((n / 64 : Nat) : Int) := by
        rw [w64 _ (by omega) (by omega), h3]; unfold wc; omega
      have hq : n / 64 < ws.length := by rw [h3]; unfold wc; omega
      rw [if_neg (by omega), e, if_pos (by omega), if_pos (by omega), wraps_u64 ((n % 64 : Nat) : Int) (by omega) (by omega), if_pos (by omega), rd_nat]
      refine ⟨_, rfl, ?_⟩
      have hg := wok_get hw (n / 64)
      have hlw := last_word hw h3 h4
      obtain ⟨m, hm⟩ := Int.eq_ofNat_of_zero_le hg.1
      rw [hm] at hlw ⊢
      rw [Int.toNat_natCast] at hlw
      unfold shr
      rw [show min (((n % 64 : Nat) : Int).toNat) IntKind.u64.bits = n % 64 by simp [IntKind.bits]; omega, ← pow_cast0, ← Int.natCast_ediv]
      rw [vset_iff]
      generalize m / 2 ^ (n % 64) = q at hlw ⊢
      constructor
      · intro h; exact ⟨by omega, h3, hlw.1 (by simpa using h)⟩
      · rintro ⟨_, _, h⟩; have := hlw.2 h; simpa using this
  · refine ⟨false, by rw [if_neg (by omega)], ?_⟩
    rw [vset_iff]
    exact iff_of_false (by simp) (fun h => h3 h.2.1)

/-! ### bitset.Valid -/
theorem ival (a : Int) (ws : List Int) (hw : wok ws) (hl : ws.length < 4611686018427387904) : ∃ b, bitset_Valid.f a ws = some b ∧ (b = true ↔ vset a ws) := by
  unfold bitset_Valid.f
  by_cases h1 : a < 0
  · exact ⟨false, by rw [if_pos h1], by simp [vset]; omega⟩
  by_cases h2 : a > 1048576
  · exact ⟨false, by rw [if_neg h1, if_pos h2], by simp [vset]; omega⟩
  obtain ⟨n, rfl⟩ := Int.eq_ofNat_of_zero_le (show 0 ≤ a by omega)
  rw [if_neg h1, if_neg h2]
  unfold bitset_wordCount.f
  rw [w64 ((n : Int) + 63) (by omega) (by omega), show (n : Int) + 63 = ((n + 63 : Nat) : Int) by omega, tdiv64 _ (by omega), tmod64]
  simp only [Option.bind_some]
  have hwc : (n + 63) / 64 = wc n := rfl
  by_cases h3 : ws.length = wc n
  · rw [if_pos (by omega)]
    by_cases h4 : n % 64 = 0
    · refine ⟨true, by rw [if_pos (by omega)], iff_of_true rfl (vset_iff.2 ⟨by omega, h3, fun j hj => gb_out (by rw [h3]; unfold wc; omega)⟩)⟩
    · have e : wrap64 ((ws.length : Int) - 1) = ((n / 64 : Nat) : Int) := by
        rw [w64 _ (by omega) (by omega), h3]; unfold wc; omega
      have hq : n / 64 < ws.length := by rw [h3]; unfold wc; omega
      rw [if_neg (by omega), e, if_pos (by omega), if_pos (by omega), if_pos (by omega), rd_nat]
      refine ⟨_, rfl, ?_⟩
      have hg := wok_get hw (n / 64)
      have hlw := last_word hw h3 h4
      obtain ⟨m, hm⟩ := Int.eq_ofNat_of_zero_le hg.1
      rw [hm] at hlw ⊢
      rw [Int.toNat_natCast] at hlw
      unfold shr
      rw [show min (((n % 64 : Nat) : Int).toNat) IntKind.u64.bits = n % 64 by simp [IntKind.bits]; omega, ← pow_cast0, ← Int.natCast_ediv]
      rw [vset_iff]
      generalize m / 2 ^ (n % 64) = q at hlw ⊢
      constructor
      · intro h; exact ⟨by omega, h3, hlw.1 (by simpa using h)⟩
      · rintro ⟨_, _, h⟩; have := hlw.2 h; simpa using this
  · refine ⟨false, by rw [if_neg (by omega)], ?_⟩
    rw [vset_iff]
    exact iff_of_false (by simp) (fun h => h3 h.2.1)
theorem b_eq_of_iff {a b : Bool} {P : Prop} (h1 : a = true ↔ P) (h2 : b = true ↔ P) : (a == b) = true := by
  have : a = b := Bool.eq_iff_iff.2 (h1.trans h2.symm)
  rw [this]; simp
theorem wok_of_wf {l : List Int} (h : ∀ x ∈ l, (Lit.int .u64 x).wf = true) : wok l := fun x hx => wf_u64 (h x hx)

theorem BitsetValid : laminalaw03_BitsetValid.Pure := by
  rintro a l ⟨_, hl, hw⟩
  simp only at hl hw
  unfold laminalaw03_BitsetValid.f
  by_cases h1 : (l.length : Int) > 100
  · rw [if_pos h1]
  · rw [if_neg h1]
    obtain ⟨b1, e1, i1⟩ := ival a l (wok_of_wf hw) (by omega)
    obtain ⟨b2, e2, i2⟩ := r03val a l (wok_of_wf hw) (by omega)
    rw [e1, e2]
    simp only [Option.bind_some]
    rw [if_pos (b_eq_of_iff i1 i2)]
    rfl

end Go.Proofs.YtijgbhbdmnhanaaDoor.Pure
