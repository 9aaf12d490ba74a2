/- laminalaw03.BitsetCodec returns true for all its arguments (encoding and decoding equal the reference), the table of math/bits tied to the program's text. Conditions: none beyond the row's own (slices of at most 2^47 - 4096 bytes). -/
import Derived.Test.YtijgbhbdmnhanaaDoorStBitsetCodec
import Derived.Test.YtijgbhbdmnhanaaDoorM01
import Derived.Test.YtijgbhbdmnhanaaDoorM02
import Derived.Test.YtijgbhbdmnhanaaDoorM03
import Derived.Test.YtijgbhbdmnhanaaDoorM08
import Derived.Test.YtijgbhbdmnhanaaDoorM11
import Derived.Test.YtijgbhbdmnhanaaDoorM12
import Derived.Test.YtijgbhbdmnhanaaDoorM13
import Derived.Test.YtijgbhbdmnhanaaDoorM16
set_option linter.unusedVariables false
set_option linter.unusedSimpArgs false
namespace Go.Proofs.YtijgbhbdmnhanaaDoor.Pure
open Go Go.RowKit Go.Proofs.YtijgbhbdmnhanaaDoor.QBitsetCodec Go.Proofs.YtijgbhbdmnhanaaDoorW.PrintWords Go.Proofs.YtijgbhbdmnhanaaDoorW.PrintLast Go.Proofs.YtijgbhbdmnhanaaDoorM

/-! ### the reference's bitset functions -/
theorem tdiv64 (i : Nat) (h : i < 9223372036854775808) : wrap64 (Int.tdiv (i : Int) 64) = ((i / 64 : Nat) : Int) := by
  rw [Int.tdiv_eq_ediv_of_nonneg (by omega), w64 _ (by omega) (by omega)]; omega
theorem tmod64 (i : Nat) : Int.tmod (i : Int) 64 = ((i % 64 : Nat) : Int) := by
  rw [Int.tmod_eq_emod_of_nonneg (by omega)]; omega
theorem utmod64 (i : Nat) : IntKind.u64.wrap (Int.tmod (i : Int) 64) = ((i % 64 : Nat) : Int) := by
  rw [tmod64]; exact wraps_u64 _ (by omega) (by omega)
theorem pow_cast0 (t : Nat) : ((2 ^ t : Nat) : Int) = 2 ^ t := by simp
theorem shl1 (r : Nat) (hr : r < 64) : shl .u64 1 (r : Int) = ((2 ^ r : Nat) : Int) := by
  have h := pow_lt64 r hr
  have h3 : ∀ p : Nat, p < 2 ^ 64 → IntKind.u64.wrap (p : Int) = (p : Int) := fun p hp => wraps_u64 _ (by omega) (by omega)
  unfold shl
  rw [show min ((r : Int).toNat) IntKind.u64.bits = r by simp [IntKind.bits]; omega, Int.one_mul, ← pow_cast0]
  exact h3 _ h
theorem bit_one (y : Int) (h0 : 0 ≤ y) (h1 : y < 18446744073709551616) (r : Nat) (hr : r < 64) : (Go.bits .and .u64 (shr .u64 y (r : Int)) 1 == 1) = y.toNat.testBit r := by
  obtain ⟨m, rfl⟩ := Int.eq_ofNat_of_zero_le h0
  unfold shr
  rw [show min ((r : Int).toNat) IntKind.u64.bits = r by simp [IntKind.bits]; omega, ← pow_cast0, ← Int.natCast_ediv, Int.toNat_natCast, Nat.testBit_eq_decide_div_mod_eq]
  have hqm := Nat.div_le_self m (2 ^ r)
  generalize m / 2 ^ r = q at hqm ⊢
  rw [and_one _ (by omega) (by omega)]
  by_cases hq : q % 2 = 1
  · rw [decide_eq_true hq]; simp; omega
  · rw [decide_eq_false hq]; simp; omega
theorem or_shl (ws : List Int) (hw : wok ws) (i : Nat) : Go.bits .or .u64 (ws.getD (i / 64) 0) (shl .u64 1 (((i % 64 : Nat)) : Int)) = (((ws.getD (i / 64) 0).toNat ||| 2 ^ (i % 64) : Nat) : Int) := by
  have h := wok_get hw (i / 64)
  rw [shl1 _ (Nat.mod_lt _ (by decide))]
  obtain ⟨m, hm⟩ := Int.eq_ofNat_of_zero_le h.1
  rw [hm] at h ⊢
  rw [Int.toNat_natCast]
  exact or_nat m _ (by omega) (pow_lt64 _ (Nat.mod_lt _ (by decide)))
theorem r03con (n i : Nat) (ws : List Int) (hl : ws.length = wc n) (hw : wok ws) (hn : n < 9223372036854775808) : laminaref03_Contains.f (n : Int) ws (i : Int) = some (decide (i < n) && gb ws i) := by
  unfold laminaref03_Contains.f
  rw [if_pos (by omega)]
  by_cases h : i < n
  · have hq : i / 64 < ws.length := by rw [hl]; unfold wc; omega
    rw [if_pos (by omega), tdiv64 i (by omega), utmod64, if_pos (by omega), if_pos (by omega), if_pos (by omega), rd_nat]
    have h2 := wok_get hw (i / 64)
    rw [bit_one _ h2.1 h2.2 _ (Nat.mod_lt _ (by decide)), decide_eq_true h]
    simp [gb]
  · rw [if_neg (by omega), decide_eq_false h]; rfl
theorem r03con_neg (n : Int) (i : Int) (ws : List Int) (hi : i < 0) : laminaref03_Contains.f n ws i = some false := by
  unfold laminaref03_Contains.f
  rw [if_neg (by omega)]

theorem r03new (n : Nat) (hn : n ≤ 1048576) : laminaref03_New.f (n : Int) = some ((n : Int), List.replicate (wc n) 0) := by
  unfold laminaref03_New.f
  rw [if_neg (by omega), if_neg (by omega)]
  have e : wrap64 (Int.tdiv (wrap64 ((n : Int) + 63)) 64) = ((wc n : Nat) : Int) := by
    rw [w64 ((n : Int) + 63) (by omega) (by omega), show (n : Int) + 63 = ((n + 63 : Nat) : Int) by omega, tdiv64 _ (by omega)]; rfl
  rw [e, if_pos (by omega), if_pos (by unfold wc; omega), Int.toNat_natCast]
theorem r03build_l0 (bs : List Bool) (f : Nat → Bool) (hf : ∀ i, i < bs.length → bs.getD i false = f i) (hn : bs.length ≤ 1048576) : ∀ (d i : Nat), i + d = bs.length →
    Ev (fun k => laminaref03_build.l0 k bs (i : Int) (bs.length : Int) (wofN (wc bs.length) f i)) ((bs.length : Int), wof bs.length f) := by
  intro d
  induction d with
  | zero =>
    intro i hi
    refine Ev.succ ?_
    simp only [laminaref03_build.l0]
    refine Ev.neg (by omega) ?_
    refine Ev.eq (Ev.now _) ?_
    rw [show i = bs.length by omega]; rfl
  | succ d ih =>
    intro i hi
    have ih2 := ih (i + 1) (by omega)
    have hq : i / 64 < (wofN (wc bs.length) f i).length := by rw [wofN_length]; unfold wc; omega
    have hrd : rdOf false bs (i : Int) = f i := by rw [← hf i (by omega)]; simp [rdOf]
    refine Ev.succ ?_
    simp only [laminaref03_build.l0, w64_add1 i (by omega), tdiv64 i (by omega), utmod64, hrd]
    refine Ev.pos (by omega) ?_
    refine Ev.pos (by omega) ?_
    simp only [wofN] at ih2
    by_cases h : f i = true
    · rw [if_pos h] at ih2
      refine Ev.pos h ?_
      refine Ev.pos (by omega) ?_
      refine Ev.pos (by omega) ?_
      refine Ev.pos (by omega) ?_
      rw [Int.toNat_natCast, rd_nat, or_shl _ (wofN_wok _ _ _)]
      exact ih2
    · rw [if_neg h] at ih2
      refine Ev.neg h ?_
      exact ih2
theorem r03build (bs : List Bool) (f : Nat → Bool) (hf : ∀ i, i < bs.length → bs.getD i false = f i) (hn : bs.length ≤ 1048576) : Ev (fun k => laminaref03_build.f k bs) ((bs.length : Int), wof bs.length f) := by
  unfold laminaref03_build.f
  refine Ev.bind0 (r03new _ hn) ?_
  exact r03build_l0 bs f hf hn bs.length 0 (by omega)

/-! ### valid sets -/
def vset (a : Int) (ws : List Int) : Prop := 0 ≤ a ∧ a ≤ 1048576 ∧ ws.length = wc a.toNat ∧ ∀ j, a.toNat ≤ j → gb ws j = false
theorem last_word {ws : List Int} (hw : wok ws) {n : Nat} (hl : ws.length = wc n) (hn : n % 64 ≠ 0) :
    ((ws.getD (n / 64) 0).toNat / 2 ^ (n % 64) = 0) ↔ ∀ j, n ≤ j → gb ws j = false := by
  have hlt : n / 64 < ws.length := by rw [hl]; unfold wc; omega
  have hp := Nat.two_pow_pos (n % 64)
  constructor
  · intro h j hj
    by_cases hq : j / 64 = n / 64
    · unfold gb
      rw [hq]
      have h1 : (ws.getD (n / 64) 0).toNat < 2 ^ (n % 64) := by
        rcases Nat.div_eq_zero_iff.1 h with h2 | h2
        · omega
        · exact h2
      exact Nat.testBit_lt_two_pow (Nat.lt_of_lt_of_le h1 (Nat.pow_le_pow_right (by decide) (by omega)))
    · exact gb_out (by rw [hl]; unfold wc; omega)
  · intro h
    refine Nat.div_eq_of_lt (Nat.lt_pow_two_of_testBit _ (fun i hi => ?_))
    by_cases h64 : i < 64
    · have := h (64 * (n / 64) + i) (by omega)
      unfold gb at this
      rw [show (64 * (n / 64) + i) / 64 = n / 64 by omega, show (64 * (n / 64) + i) % 64 = i by omega] at this
      exact this
    · have h2 := wok_get hw (n / 64)
      have hp2 : 2 ^ 64 ≤ 2 ^ i := Nat.pow_le_pow_right (by decide) (by omega)
      exact Nat.testBit_lt_two_pow (by omega)
theorem vset_iff {n : Nat} {ws : List Int} : vset (n : Int) ws ↔ n ≤ 1048576 ∧ ws.length = wc n ∧ ∀ j, n ≤ j → gb ws j = false := by
  unfold vset
  rw [Int.toNat_natCast]
  constructor
  · rintro ⟨_, h2, h3, h4⟩; exact ⟨by omega, h3, h4⟩
  · rintro ⟨h2, h3, h4⟩; exact ⟨by omega, by omega, h3, h4⟩
theorem vset_wof (n : Nat) (f : Nat → Bool) (hn : n ≤ 1048576) : vset (n : Int) (wof n f) :=
  vset_iff.2 ⟨hn, wof_length n f, fun j hj => by rw [gb_wof, decide_eq_false (by omega), Bool.false_and]⟩
theorem vset_eq {n : Nat} {ws : List Int} (hw : wok ws) (h : vset (n : Int) ws) : ws = wof n (gb ws) := by
  obtain ⟨_, h2, h3⟩ := vset_iff.1 h
  refine wof_eq h2 hw (fun i => ?_)
  by_cases hi : i < n
  · rw [decide_eq_true hi, Bool.true_and]
  · rw [decide_eq_false hi, Bool.false_and, h3 i (by omega)]
theorem r03val (a : Int) (ws : List Int) (hw : wok ws) (hl : ws.length ≤ 9223372036854775807) : ∃ b, laminaref03_Valid.f a ws = some b ∧ (b = true ↔ vset a ws) := by
  unfold laminaref03_Valid.f
  by_cases h1 : a < 0
  · exact ⟨false, by rw [if_pos h1], by simp [vset]; omega⟩
  by_cases h2 : a > 1048576
  · exact ⟨false, by rw [if_neg h1, if_pos h2], by simp [vset]; omega⟩
  obtain ⟨n, rfl⟩ := Int.eq_ofNat_of_zero_le (show 0 ≤ a by omega)
  rw [if_neg h1, if_neg h2, w64 ((n : Int) + 63) (by omega) (by omega), show (n : Int) + 63 = ((n + 63 : Nat) : Int) by omega, tdiv64 _ (by omega), tmod64]
  have hwc : (n + 63) / 64 = wc n := rfl
  by_cases h3 : ws.length = wc n
  · rw [if_pos (by omega)]
    by_cases h4 : n % 64 = 0
    · refine ⟨true, by rw [if_pos (by omega)], iff_of_true rfl (vset_iff.2 ⟨by omega, h3, fun j hj => gb_out (by rw [h3]; unfold wc; omega)⟩)⟩
    · have e : wrap64 ((ws.length : Int) - 1) = ((n / 64 : Nat) : Int) := by
        rw [w64 _ (by omega) (by omega), h3]; unfold wc; omega
      have hq : n / 64 < ws.length := by rw [h3]; unfold wc; omega
      rw [if_neg (by omega), e, if_pos (by omega), if_pos (by omega), wraps_u64 ((n % 64 : Nat) : Int) (by omega) (by omega), if_pos (by omega), rd_nat]
      refine ⟨_, rfl, ?_⟩
      have hg := wok_get hw (n / 64)
      have hlw := last_word hw h3 h4
      obtain ⟨m, hm⟩ := Int.eq_ofNat_of_zero_le hg.1
      rw [hm] at hlw ⊢
      rw [Int.toNat_natCast] at hlw
      unfold shr
      rw [show min (((n % 64 : Nat) : Int).toNat) IntKind.u64.bits = n % 64 by simp [IntKind.bits]; omega, ← pow_cast0, ← Int.natCast_ediv]
      rw [vset_iff]
      generalize m / 2 ^ (n % 64) = q at hlw ⊢
      constructor
      · intro h; exact ⟨by omega, h3, hlw.1 (by simpa using h)⟩
      · rintro ⟨_, _, h⟩; have := hlw.2 h; simpa using this
  · refine ⟨false, by rw [if_neg (by omega)], ?_⟩
    rw [vset_iff]
    exact iff_of_false (by simp) (fun h => h3 h.2.1)

/-! ### Of, New -/
def nn (n : Int) : Nat := if n < 0 ∨ n > 1048576 then 0 else n.toNat
theorem nn_le (n : Int) : nn n ≤ 1048576 := by unfold nn; split <;> omega
theorem wc_words (n : Nat) (hn : n ≤ 1048576) : wrap64 (Int.tdiv (wrap64 ((n : Int) + 63)) 64) = ((wc n : Nat) : Int) := by
  rw [w64 ((n : Int) + 63) (by omega) (by omega), Int.tdiv_eq_ediv_of_nonneg (by omega), w64 _ (by omega) (by omega)]
  unfold wc; omega
theorem inew (n : Int) : bitset_New.f n = some ((nn n : Int), List.replicate (wc (nn n)) 0) := by
  have hw : ∀ m : Nat, m ≤ 1048576 → wc m ≤ 16384 + 1 := fun m h => by unfold wc; omega
  have c0 : bitset_wordCount.f 0 = some 0 := by decide +kernel
  unfold bitset_New.f nn
  by_cases h1 : n < 0
  · rw [if_pos h1, if_pos (.inl h1), c0]; rfl
  · rw [if_neg h1]
    by_cases h2 : n > 1048576
    · rw [if_pos h2, if_pos (.inr h2), c0]; rfl
    · rw [if_neg h2, if_neg (by omega)]
      obtain ⟨m, rfl⟩ := Int.eq_ofNat_of_zero_le (show 0 ≤ n by omega)
      have := hw m (by omega)
      unfold bitset_wordCount.f
      rw [wc_words m (by omega)]
      simp only [Option.bind_some]
      rw [if_pos (by omega), if_pos (by omega), Int.toNat_natCast, Int.toNat_natCast]
/-! ### Equal -/
theorem req_l0 (n : Int) (ws : List Int) (hl : ws.length ≤ 1000000) : ∀ (d i : Nat), i + d = ws.length → Ev (fun k => laminaref03_Equal.l0 k (i : Int) n ws n ws) true := by
  intro d
  induction d with
  | zero =>
    intro i h
    refine Ev.succ ?_
    simp only [laminaref03_Equal.l0]
    refine Ev.neg (by omega) ?_
    refine Ev.succ ?_
    simp only [laminaref03_Equal.j2]
    exact Ev.neg (by decide) (Ev.now _)
  | succ d ih =>
    intro i h
    refine Ev.succ ?_
    simp only [laminaref03_Equal.l0]
    refine Ev.pos (by omega) ?_
    rw [decide_eq_true (show (i : Int) < (ws.length : Int) by omega)]
    refine Ev.succ ?_
    simp only [laminaref03_Equal.j2]
    refine Ev.pos (by simp) ?_
    refine Ev.pos (by omega) ?_
    refine Ev.pos (by omega) ?_
    refine Ev.pos (by omega) ?_
    refine Ev.pos (by simp) ?_
    rw [w64_add1 i (by omega)]
    exact ih (i + 1) (by omega)
theorem req_ev (n : Int) (ws : List Int) (hl : ws.length ≤ 1000000) : Ev (fun k => laminaref03_Equal.f k n ws n ws) true := by
  unfold laminaref03_Equal.f
  refine Ev.pos (by simp) ?_
  have e : ((ws.length : Int) != (ws.length : Int)) = false := by simp
  rw [e]
  refine Ev.succ ?_
  simp only [laminaref03_Equal.j0]
  refine Ev.neg (by decide) ?_
  exact req_l0 n ws hl ws.length 0 (by omega)
theorem elsI_succ (ws : List Int) (i : Nat) : elsI ws (i + 1) = if gb ws i = true then elsI ws i ++ [(i : Int)] else elsI ws i := by
  unfold elsI
  rw [els_split i 0 1, Nat.zero_add]
  by_cases h : gb ws i = true
  · rw [if_pos h]
    have : els (gb ws) i 1 = [i] := by simp [els, h]
    rw [this, List.map_append]; rfl
  · rw [if_neg h]
    have : els (gb ws) i 1 = [] := by simp [els, h]
    rw [this, List.append_nil]
theorem elsI_cut {ws : List Int} {n m : Nat} (h : n ≤ m) (hz : ∀ j, n ≤ j → gb ws j = false) : elsI ws m = elsI ws n := by
  unfold elsI
  obtain ⟨c, rfl⟩ : ∃ c, m = n + c := ⟨m - n, by omega⟩
  rw [els_split, Nat.zero_add, els_none c n (fun i h1 _ => hz i h1), List.append_nil]
theorem elsI_len (ws : List Int) (n : Nat) : (elsI ws n).length ≤ n := by unfold elsI; rw [List.length_map]; exact els_len_le n 0

/-! ### varint.Decode and the reference's -/
theorem pow_shl (i : Nat) (hi : i ≤ 9) (c : Int) (h0 : 0 ≤ c) (h1 : c * 128 ^ i < 18446744073709551616) : shl .u64 c (7 * (i : Int)) = c * 128 ^ i := by
  have e : min (7 * (i : Int)).toNat 64 = 7 * i := by omega
  have e2 : (2 : Int) ^ (7 * i) = 128 ^ i := by rw [Int.pow_mul]; rfl
  unfold shl
  rw [show IntKind.u64.bits = 64 from rfl, e, e2]
  exact wrap_u64_of _ (Int.mul_nonneg h0 (Int.pow_nonneg (by decide))) h1
theorem dec_j2 (b : List Int) (hlen : b.length < 4611686018427387904) (o i acc c : Nat) (hi : i ≤ 9) (ho : o + i < b.length) (hc : c < 256) (hacc : acc < 128 ^ i) (f : Nat) (hf : i + f = 9)
    (h9 : ¬ (i = 9 ∧ 1 < c))
    (ih : i < 9 → acc + c % 128 * 128 ^ i < 128 ^ (i + 1) → Ev (fun k => varint_Decode.l0 k b o ((acc + c % 128 * 128 ^ i : Nat) : Int) ((i + 1 : Nat) : Int)) (vd b o f (i + 1) (acc + c % 128 * 128 ^ i))) :
    Ev (fun k => varint_Decode.j2 k b o acc i c i false)
      (if i = 9 ∧ 1 < c ∨ 0 < i ∧ c = 0 then (0, 0, 4) else if c < 128 then (((acc + c * 128 ^ i : Nat) : Int), ((o + i + 1 : Nat) : Int), 0) else vd b o f (i + 1) (acc + c % 128 * 128 ^ i)) := by
  have hp : 0 < 128 ^ i := Nat.pow_pos (by decide)
  have hple : 128 ^ i ≤ 128 ^ 9 := Nat.pow_le_pow_right (by decide) hi
  have h9v : (128 : Nat) ^ 9 = 9223372036854775808 := by decide
  have hm : c % 128 * 128 ^ i < 18446744073709551616 := by
    by_cases e : i = 9
    · subst e
      have : c ≤ 1 := by omega
      have : c % 128 ≤ 1 := by omega
      have := Nat.mul_le_mul_right (128 ^ 9) this
      omega
    · have h8 : 128 ^ i ≤ 128 ^ 8 := Nat.pow_le_pow_right (by decide) (by omega)
      have : (128 : Nat) ^ 8 = 72057594037927936 := by decide
      have : c % 128 * 128 ^ i ≤ 127 * 72057594037927936 := Nat.mul_le_mul (by omega) (by omega)
      omega
  have hlow : c % 128 * 128 ^ i + 128 ^ i ≤ 128 ^ (i + 1) := by
    rw [pow128, ← Nat.succ_mul]
    exact Nat.mul_le_mul_right _ (by omega)
  have hs : shl .u64 (IntKind.u64.wrap (Go.bits .and .u8 c 127)) (wrap64 (7 * (i : Int))) = ((c % 128 * 128 ^ i : Nat) : Int) := by
    rw [and_127 _ (by omega) (by omega), w64 _ (by omega) (by omega), wrap_u64_of _ (by omega) (by omega), pow_shl i hi _ (by omega)]
    · push_cast; rfl
    · have : ((c % 128 * 128 ^ i : Nat) : Int) < 18446744073709551616 := by omega
      push_cast at this
      exact this
  have hor : Go.bits .or .u64 acc ((c % 128 * 128 ^ i : Nat) : Int) = ((acc + c % 128 * 128 ^ i : Nat) : Int) := by
    rw [or_add (7 * i) _ _ (by omega) ?_ (by omega) (by omega) (by omega) ?_]
    · push_cast; rfl
    · have e2 : (2 : Int) ^ (7 * i) = ((128 ^ i : Nat) : Int) := by rw [Int.pow_mul]; simp
      rw [e2]; omega
    · have e2 : (2 : Int) ^ (7 * i) = ((128 ^ i : Nat) : Int) := by rw [Int.pow_mul]; simp
      rw [e2]
      push_cast
      exact Int.mul_emod_left _ _
  refine Ev.succ ?_
  simp only [varint_Decode.j2, hs, hor, w64_add1 i (by omega), w64_add_1 o i (by omega)]
  clear hs hor
  refine Ev.neg (by decide) ?_
  refine Ev.pos (by rw [w64 _ (by omega) (by omega)]; omega) ?_
  by_cases h2 : c < 128
  · refine Ev.neg (by omega) ?_
    have hcm : c % 128 = c := Nat.mod_eq_of_lt h2
    by_cases h0 : c = 0
    · refine Ev.pos (by omega) ?_
      by_cases hi0 : 0 < i
      · refine Ev.pos (by omega) ?_
        exact Ev.eq (Ev.now _) (by rw [if_pos (Or.inr ⟨hi0, h0⟩)])
      · refine Ev.neg (by omega) ?_
        exact Ev.eq (Ev.now _) (by rw [if_neg (by omega), if_pos h2, hcm])
    · refine Ev.neg (by omega) ?_
      exact Ev.eq (Ev.now _) (by rw [if_neg (by omega), if_pos h2, hcm])
  · refine Ev.pos (by omega) ?_
    exact Ev.eq (ih (by omega) (by omega)) (by rw [if_neg (by omega), if_neg h2])
theorem dec_l0 (b : List Int) (hb : ∀ x ∈ b, 0 ≤ x ∧ x < 256) (hlen : b.length < 4611686018427387904) (o : Nat) (ho : o ≤ b.length) :
    ∀ (f i acc : Nat), i + f = 10 → acc < 128 ^ i → Ev (fun k => varint_Decode.l0 k b o acc i) (vd b o f i acc) := by
  intro f
  induction f with
  | zero =>
    intro i acc hi ha
    refine Ev.succ ?_
    simp only [varint_Decode.l0]
    refine Ev.neg (by omega) ?_
    exact Ev.now _
  | succ f ih =>
    intro i acc hi ha
    refine Ev.succ ?_
    simp only [varint_Decode.l0, w64_add o i (by omega), rd_nat]
    refine Ev.pos (by omega) ?_
    unfold vd
    by_cases hl : b.length ≤ o + i
    · refine Ev.pos (by omega) ?_
      exact Ev.eq (Ev.now _) (by rw [if_pos hl])
    refine Ev.neg (by omega) ?_
    refine Ev.pos (by omega) ?_
    refine Ev.pos (by omega) ?_
    rw [if_neg hl]
    have hr := getD_range hb (i := o + i) (by omega)
    obtain ⟨c, hc⟩ := Int.eq_ofNat_of_zero_le hr.1
    simp only [hc, Int.toNat_natCast]
    rw [hc] at hr
    have hstep : ¬ (i = 9 ∧ 1 < c) → Ev (fun k => varint_Decode.j2 k b o acc i c i false) (if i = 9 ∧ 1 < c ∨ 0 < i ∧ c = 0 then (0, 0, 4) else if c < 128 then (((acc + c * 128 ^ i : Nat) : Int), ((o + i + 1 : Nat) : Int), 0) else vd b o f (i + 1) (acc + c % 128 * 128 ^ i)) := fun h =>
      dec_j2 b hlen o i acc c (by omega) (by omega) (by omega) ha f (by omega) h (fun h1 h2 => ih (i + 1) _ (by omega) h2)
    by_cases h9 : i = 9
    · refine Ev.pos (by omega) ?_
      by_cases h1 : 1 < c
      · have : decide ((c : Int) > 1) = true := by simp; omega
        rw [this, if_pos (Or.inl ⟨h9, h1⟩)]
        refine Ev.succ ?_
        simp only [varint_Decode.j2]
        refine Ev.pos (by decide) ?_
        exact Ev.now _
      · have : decide ((c : Int) > 1) = false := by simp; omega
        rw [this]
        exact hstep (by omega)
    · refine Ev.neg (by omega) ?_
      exact hstep (by omega)
theorem dec_ev (b : List Int) (hb : ∀ x ∈ b, 0 ≤ x ∧ x < 256) (hlen : b.length < 4611686018427387904) (o : Int) : Ev (fun k => varint_Decode.f k b o) (vdec b o) := by
  unfold varint_Decode.f vdec
  by_cases h0 : o < 0
  · refine Ev.pos h0 ?_
    rw [if_pos (Or.inl h0)]
    refine Ev.succ ?_
    simp only [varint_Decode.j0]
    refine Ev.pos (by decide) ?_
    exact Ev.now _
  refine Ev.neg h0 ?_
  refine Ev.succ ?_
  simp only [varint_Decode.j0]
  by_cases h1 : (b.length : Int) < o
  · refine Ev.pos (by simpa using h1) ?_
    exact Ev.eq (Ev.now _) (by rw [if_pos (Or.inr h1)])
  · refine Ev.neg (by simpa using h1) ?_
    obtain ⟨n, rfl⟩ := Int.eq_ofNat_of_zero_le (show 0 ≤ o by omega)
    rw [if_neg (by omega), Int.toNat_natCast]
    exact dec_l0 b hb hlen n (by omega) 10 0 0 rfl (by decide)

theorem rdec_j2 (b : List Int) (hlen : b.length < 4611686018427387904) (o i acc c : Nat) (hi : i ≤ 9) (ho : o + i < b.length) (hc : c < 256) (hacc : acc < 128 ^ i) (f : Nat) (hf : i + f = 9)
    (h9 : ¬ (i = 9 ∧ 1 < c)) (h0 : ¬ (0 < i ∧ c = 0))
    (ih : i < 9 → acc + c % 128 * 128 ^ i < 128 ^ (i + 1) → Ev (fun k => laminaref01_Decode.l0 k b o ((acc + c % 128 * 128 ^ i : Nat) : Int) ((128 ^ (i + 1) : Nat) : Int) ((i + 1 : Nat) : Int)) (vd b o f (i + 1) (acc + c % 128 * 128 ^ i))) :
    Ev (fun k => laminaref01_Decode.j2 k b o acc ((128 ^ i : Nat) : Int) i c false)
      (if i = 9 ∧ 1 < c ∨ 0 < i ∧ c = 0 then (0, 0, 4) else if c < 128 then (((acc + c * 128 ^ i : Nat) : Int), ((o + i + 1 : Nat) : Int), 0) else vd b o f (i + 1) (acc + c % 128 * 128 ^ i)) := by
  have hp : 0 < 128 ^ i := Nat.pow_pos (by decide)
  have hple : 128 ^ i ≤ 128 ^ 9 := Nat.pow_le_pow_right (by decide) hi
  have h9v : (128 : Nat) ^ 9 = 9223372036854775808 := by decide
  have hm : acc + c % 128 * 128 ^ i < 18446744073709551616 := by
    by_cases e : i = 9
    · subst e
      have : c % 128 ≤ 1 := by omega
      have := Nat.mul_le_mul_right (128 ^ 9) this
      omega
    · have h8 : 128 ^ i ≤ 128 ^ 8 := Nat.pow_le_pow_right (by decide) (by omega)
      have : (128 : Nat) ^ 8 = 72057594037927936 := by decide
      have : c % 128 * 128 ^ i ≤ 127 * 72057594037927936 := Nat.mul_le_mul (by omega) (by omega)
      omega
  have hlow : c % 128 * 128 ^ i + 128 ^ i ≤ 128 ^ (i + 1) := by
    rw [pow128, ← Nat.succ_mul]
    exact Nat.mul_le_mul_right _ (by omega)
  have ht : Int.tmod (c : Int) 128 = ((c % 128 : Nat) : Int) := by rw [Int.tmod_eq_emod_of_nonneg (by omega)]; rfl
  have hs : IntKind.u64.wrap ((acc : Int) + IntKind.u64.wrap (IntKind.u64.wrap (Int.tmod (c : Int) 128) * ((128 ^ i : Nat) : Int))) = ((acc + c % 128 * 128 ^ i : Nat) : Int) := by
    rw [ht, wrap_u64_of ((c % 128 : Nat) : Int) (by omega) (by omega)]
    have e : ((c % 128 : Nat) : Int) * ((128 ^ i : Nat) : Int) = ((c % 128 * 128 ^ i : Nat) : Int) := by push_cast; rfl
    rw [e, wrap_u64_of ((c % 128 * 128 ^ i : Nat) : Int) (by omega) (by omega), wrap_u64_of _ (by omega) (by omega)]
    push_cast; rfl
  refine Ev.succ ?_
  simp only [laminaref01_Decode.j2, hs, w64_add1 i (by omega), w64_add_1 o i (by omega)]
  clear hs
  refine Ev.neg (by decide) ?_
  by_cases h2 : c < 128
  · refine Ev.pos (by omega) ?_
    exact Ev.eq (Ev.now _) (by rw [if_neg (by omega), if_pos h2, Nat.mod_eq_of_lt h2])
  · refine Ev.neg (by omega) ?_
    have hu : IntKind.u64.wrap (((128 ^ i : Nat) : Int) * 128) = ((128 ^ (i + 1) : Nat) : Int) := by
      have hle : 128 ^ (i + 1) ≤ 128 ^ 9 := Nat.pow_le_pow_right (by decide) (by omega)
      rw [wrap_u64_of _ (by omega) (by rw [pow128] at hle; omega), pow128]
      push_cast
      omega
    rw [hu]
    exact Ev.eq (ih (by omega) (by omega)) (by rw [if_neg (by omega), if_neg h2])
theorem rdec_l0 (b : List Int) (hb : ∀ x ∈ b, 0 ≤ x ∧ x < 256) (hlen : b.length < 4611686018427387904) (o : Nat) (ho : o ≤ b.length) :
    ∀ (f i acc : Nat), i + f = 10 → 1 ≤ f → acc < 128 ^ i → Ev (fun k => laminaref01_Decode.l0 k b o acc ((128 ^ i : Nat) : Int) i) (vd b o f i acc) := by
  intro f
  induction f with
  | zero => intro i acc hi h1; omega
  | succ f ih =>
    intro i acc hi _ ha
    refine Ev.succ ?_
    simp only [laminaref01_Decode.l0, w64_add o i (by omega), rd_nat]
    unfold vd
    by_cases hl : b.length ≤ o + i
    · refine Ev.pos (by omega) ?_
      exact Ev.eq (Ev.now _) (by rw [if_pos hl])
    refine Ev.neg (by omega) ?_
    refine Ev.pos (by omega) ?_
    refine Ev.pos (by omega) ?_
    rw [if_neg hl]
    have hr := getD_range hb (i := o + i) (by omega)
    obtain ⟨c, hc⟩ := Int.eq_ofNat_of_zero_le hr.1
    simp only [hc, Int.toNat_natCast]
    rw [hc] at hr
    have bad : (i = 9 ∧ 1 < c ∨ 0 < i ∧ c = 0) → Ev (fun k => laminaref01_Decode.j2 k b o acc ((128 ^ i : Nat) : Int) i c true) (if i = 9 ∧ 1 < c ∨ 0 < i ∧ c = 0 then (0, 0, 4) else if c < 128 then (((acc + c * 128 ^ i : Nat) : Int), ((o + i + 1 : Nat) : Int), 0) else vd b o f (i + 1) (acc + c % 128 * 128 ^ i)) := fun h => by
      rw [if_pos h]
      refine Ev.succ ?_
      simp only [laminaref01_Decode.j2]
      refine Ev.pos (by decide) ?_
      exact Ev.now _
    have good : ¬ (i = 9 ∧ 1 < c) → ¬ (0 < i ∧ c = 0) → Ev (fun k => laminaref01_Decode.j2 k b o acc ((128 ^ i : Nat) : Int) i c false) (if i = 9 ∧ 1 < c ∨ 0 < i ∧ c = 0 then (0, 0, 4) else if c < 128 then (((acc + c * 128 ^ i : Nat) : Int), ((o + i + 1 : Nat) : Int), 0) else vd b o f (i + 1) (acc + c % 128 * 128 ^ i)) := fun h h' =>
      rdec_j2 b hlen o i acc c (by omega) (by omega) (by omega) ha f (by omega) h h' (fun h1 h2 => ih (i + 1) _ (by omega) (by omega) h2)
    have zero : ((c : Int) == 0) = decide (c = 0) := by
      rw [Bool.eq_iff_iff, beq_iff_eq, decide_eq_true_iff]; omega
    by_cases h9 : i = 9
    · refine Ev.pos (by omega) ?_
      by_cases h1 : 1 < c
      · exact Ev.pos (by omega) (bad (by omega))
      · refine Ev.neg (by omega) ?_
        refine Ev.pos (by omega) ?_
        rw [zero]
        by_cases h0 : c = 0
        · rw [decide_eq_true h0]; exact bad (by omega)
        · rw [decide_eq_false h0]; exact good (by omega) (by omega)
    · refine Ev.neg (by omega) ?_
      by_cases hi0 : 0 < i
      · refine Ev.pos (by omega) ?_
        rw [zero]
        by_cases h0 : c = 0
        · rw [decide_eq_true h0]; exact bad (by omega)
        · rw [decide_eq_false h0]; exact good (by omega) (by omega)
      · exact Ev.neg (by omega) (good (by omega) (by omega))
theorem rdec_ev (b : List Int) (hb : ∀ x ∈ b, 0 ≤ x ∧ x < 256) (hlen : b.length < 4611686018427387904) (o : Int) : Ev (fun k => laminaref01_Decode.f k b o) (vdec b o) := by
  unfold laminaref01_Decode.f vdec
  by_cases h0 : o < 0
  · refine Ev.pos h0 ?_
    rw [if_pos (Or.inl h0)]
    refine Ev.succ ?_
    simp only [laminaref01_Decode.j0]
    refine Ev.pos (by decide) ?_
    exact Ev.now _
  refine Ev.neg h0 ?_
  refine Ev.succ ?_
  simp only [laminaref01_Decode.j0]
  by_cases h1 : (b.length : Int) < o
  · refine Ev.pos (by simpa using h1) ?_
    exact Ev.eq (Ev.now _) (by rw [if_pos (Or.inr h1)])
  · refine Ev.neg (by simpa using h1) ?_
    obtain ⟨n, rfl⟩ := Int.eq_ofNat_of_zero_le (show 0 ≤ o by omega)
    rw [if_neg (by omega), Int.toNat_natCast]
    exact rdec_l0 b hb hlen n (by omega) 10 0 0 rfl (by decide) (by decide)

/-! ### the reference's Encode and Concat -/
theorem renc_l0 : ∀ (f n : Nat) (acc : List Int), n < 128 ^ (f + 1) → n < 18446744073709551616 → acc.length + f < 1000 → Ev (fun k => laminaref01_Encode.l0 k (n : Int) acc) (acc ++ venc n) := by
  intro f
  induction f with
  | zero =>
    intro n acc hn hn6 ha
    have h : n < 128 := by simpa using hn
    refine Ev.succ ?_
    simp only [laminaref01_Encode.l0]
    refine Ev.neg (by omega) ?_
    refine Ev.pos (by omega) ?_
    exact Ev.eq (Ev.now _) (by rw [venc_lt h, show (n : Int) % 256 = n by omega])
  | succ f ih =>
    intro n acc hn hn6 ha
    have hn2 : n / 128 < 128 ^ (f + 1) := by
      rw [Nat.div_lt_iff_lt_mul (by decide), ← Nat.pow_succ]; exact hn
    clear hn
    refine Ev.succ ?_
    simp only [laminaref01_Encode.l0, Int.tdiv_eq_ediv_of_nonneg (show (0 : Int) ≤ n by omega), Int.tmod_eq_emod_of_nonneg (show (0 : Int) ≤ n by omega)]
    by_cases h : n < 128
    · refine Ev.neg (by omega) ?_
      refine Ev.pos (by omega) ?_
      exact Ev.eq (Ev.now _) (by rw [venc_lt h, show (n : Int) % 256 = n by omega])
    · refine Ev.pos (by omega) ?_
      refine Ev.pos (by omega) ?_
      have e : IntKind.u64.wrap (128 + (n : Int) % 128) % 256 = ((128 + n % 128 : Nat) : Int) := by
        rw [wrap_u64_of _ (by omega) (by omega)]; omega
      have e2 : IntKind.u64.wrap ((n : Int) / 128) = ((n / 128 : Nat) : Int) := by rw [wrap_u64_of _ (by omega) (by omega)]; omega
      rw [e, e2]
      have := ih (n / 128) (acc ++ [((128 + n % 128 : Nat) : Int)]) hn2 (by omega) (by simp; omega)
      rw [venc_ge h]
      simpa using this
theorem renc_ev (n : Nat) (h : n < 18446744073709551616) : Ev (fun k => laminaref01_Encode.f k (n : Int)) (venc n) := by
  have hp : (128 : Nat) ^ (9 + 1) = 1180591620717411303424 := by decide
  have := renc_l0 9 n [] (by omega) h (by decide)
  unfold laminaref01_Encode.f
  simpa using this

/-! ### bitset.Decode and the reference's -/
theorem wofN_congr (m : Nat) {f g : Nat → Bool} : ∀ k, (∀ i, i < k → f i = g i) → wofN m f k = wofN m g k := by
  intro k
  induction k with
  | zero => intro _; rfl
  | succ k ih => intro h; simp only [wofN]; rw [h k (Nat.lt_succ_self k), ih (fun i hi => h i (by omega))]
def bw (N : Nat) (acc : List Bool) : List Int := wofN (wc N) (fun i => acc.getD i false) acc.length
theorem bw_len (N : Nat) (acc : List Bool) : (bw N acc).length = wc N := wofN_length _ _ _
theorem bw_wok (N : Nat) (acc : List Bool) : wok (bw N acc) := wofN_wok _ _ _
theorem bw_nil (N : Nat) : bw N [] = List.replicate (wc N) 0 := rfl
theorem bw_snoc (N : Nat) (acc : List Bool) (x : Bool) : bw N (acc ++ [x]) = if x = true then sb (bw N acc) acc.length else bw N acc := by
  unfold bw
  rw [List.length_append, List.length_singleton]
  simp only [wofN]
  have h1 : (acc ++ [x]).getD acc.length false = x := by simp [List.getD_eq_getElem?_getD]
  rw [wofN_congr (wc N) (f := fun i => (acc ++ [x]).getD i false) acc.length (g := fun i => acc.getD i false) (fun i hi => by
    rw [List.getD_eq_getElem?_getD, List.getElem?_append_left hi, ← List.getD_eq_getElem?_getD])]
  simp only [h1]
theorem bw_full (l : List Bool) : bw l.length l = wof l.length (fun i => l.getD i false) := rfl
theorem rep_snoc (d : Nat) (on : Bool) (acc : List Bool) : (acc ++ [on]) ++ List.replicate d on = acc ++ List.replicate (d + 1) on := by
  rw [List.append_assoc, List.replicate_succ]; rfl
theorem idec_l1 (b : List Int) (t : Int) (N : Nat) (hN : N ≤ 1048576) (on : Bool) (run : Nat) (R : Int × List Int × Int × Int) : ∀ (d j : Nat) (acc : List Bool), j + d = run → acc.length + d ≤ N → run ≤ N →
    Ev (fun k => bitset_Decode.l0 k b t (!on) (((acc ++ List.replicate d on).length : Nat) : Int) (N : Int) (bw N (acc ++ List.replicate d on))) R →
    Ev (fun k => bitset_Decode.l1 k b on (acc.length : Int) t (run : Int) (j : Int) (N : Int) (bw N acc)) R := by
  intro d
  induction d with
  | zero =>
    intro j acc h1 h2 h3 h
    refine Ev.succ ?_
    simp only [bitset_Decode.l1]
    refine Ev.neg (by omega) ?_
    simpa using h
  | succ d ih =>
    intro j acc h1 h2 h3 h
    have ih2 := ih (j + 1) (acc ++ [on]) (by omega) (by rw [List.length_append, List.length_singleton]; omega) h3 (by rw [rep_snoc]; exact h)
    have hl : (((acc ++ [on]).length : Nat) : Int) = wrap64 ((acc.length : Int) + 1) := by rw [w64_add1 _ (by omega), List.length_append, List.length_singleton]
    rw [hl, bw_snoc] at ih2
    refine Ev.succ ?_
    simp only [bitset_Decode.l1]
    refine Ev.pos (by omega) ?_
    by_cases c : on = true
    · have hq : acc.length / 64 < (bw N acc).length := by rw [bw_len]; unfold wc; omega
      refine Ev.pos c ?_
      rw [tdiv64 acc.length (by omega), tmod64 acc.length, rd_nat]
      refine Ev.pos (by omega) ?_
      refine Ev.pos (by omega) ?_
      refine Ev.pos (by omega) ?_
      rw [or_shl _ (bw_wok N acc) acc.length, Int.toNat_natCast, w64_add1 j (by omega)]
      rw [if_pos c] at ih2
      exact ih2
    · refine Ev.neg c ?_
      rw [w64_add1 j (by omega)]
      rw [if_neg c] at ih2
      exact ih2
def resD (N : Nat) (x : List Bool × Int × Int) : Int × List Int × Int × Int := if x.2.2 = 0 then ((N : Int), bw N x.1, x.2.1, 0) else (0, [], 0, x.2.2)
theorem idec_l0 (b : List Int) (hb : ∀ x ∈ b, 0 ≤ x ∧ x < 256) (hlen : b.length < 4611686018427387904) (N : Nat) (hN : N ≤ 1048576) : ∀ (d : Nat) (t : Int) (acc : List Bool) (on : Bool), fuelB N acc on d → acc.length ≤ N →
    Ev (fun k => bitset_Decode.l0 k b t on (acc.length : Int) (N : Int) (bw N acc)) (resD N (bdc b N d t acc on)) := by
  intro d
  induction d with
  | zero =>
    intro t acc on hf hle
    have h1 : ¬ acc.length < N := by unfold fuelB at hf; omega
    refine Ev.succ ?_
    simp only [bitset_Decode.l0]
    refine Ev.neg (by omega) ?_
    rw [bdc_full _ _ _ _ _ _ h1]
    exact Ev.now _
  | succ d ih =>
    intro t acc on hf hle
    refine Ev.succ ?_
    simp only [bitset_Decode.l0]
    by_cases h1 : acc.length < N
    rotate_left
    · refine Ev.neg (by omega) ?_
      rw [bdc_full _ _ _ _ _ _ h1]
      exact Ev.now _
    refine Ev.pos (by omega) ?_
    refine Ev.bind (dec_ev b hb hlen t) ?_
    unfold bdc
    rw [if_pos h1]
    by_cases c0 : (vdec b t).2.2 = 0
    rotate_left
    · refine Ev.neg c0 ?_
      rw [if_neg c0]
      exact Ev.eq (Ev.now _) (by unfold resD; rw [if_neg c0])
    refine Ev.pos c0 ?_
    rw [if_pos c0]
    obtain ⟨n, a, rfl, e1, hn, e2, _, _⟩ := b_vdec_ok hb c0
    rw [e1]
    generalize (vdec b (a : Int)).2.1 = t1
    have bad : Ev (fun k => bitset_Decode.j1 k b on (acc.length : Int) (n : Int) t1 true (N : Int) (bw N acc)) (resD N ([], 0, 4)) := by
      refine Ev.succ ?_
      simp only [bitset_Decode.j1]
      refine Ev.pos (by decide) ?_
      exact Ev.now _
    have hw : IntKind.u64.wrap (wrap64 ((N : Int) - (acc.length : Int))) = (N : Int) - (acc.length : Int) := by
      rw [w64 _ (by omega) (by omega), wraps_u64 _ (by omega) (by omega)]
    rw [hw, Int.toNat_natCast]
    have main : ¬ (n = 0 ∧ (on = true ∨ 0 < acc.length)) → Ev (fun k => bitset_Decode.j1 k b on (acc.length : Int) (n : Int) t1 (decide ((n : Int) > (N : Int) - (acc.length : Int))) (N : Int) (bw N acc)) (resD N (if ((n : Int) = 0 ∧ (on = true ∨ 0 < acc.length)) ∨ (N : Int) - acc.length < (n : Int) then ([], 0, 4) else bdc b N d t1 (acc ++ List.replicate n on) (!on))) := by
      intro hk
      by_cases c2 : (n : Int) > (N : Int) - (acc.length : Int)
      · rw [decide_eq_true c2, if_pos (.inr c2)]
        exact bad
      · rw [decide_eq_false c2, if_neg (by rintro (⟨e, hc⟩ | e); exact hk ⟨by omega, hc⟩; exact c2 e)]
        refine Ev.succ ?_
        simp only [bitset_Decode.j1]
        refine Ev.neg (by decide) ?_
        rw [w64n n (by omega)]
        refine idec_l1 b t1 N hN on n _ n 0 acc (by omega) (by omega) (by omega) ?_
        exact ih t1 (acc ++ List.replicate n on) (!on) (fuelB_step hf h1 hk) (by rw [List.length_append, List.length_replicate]; omega)
    by_cases c1 : (n : Int) = 0
    · refine Ev.pos c1 ?_
      by_cases c3 : on = true
      · refine Ev.pos c3 ?_
        rw [if_pos (.inl ⟨c1, .inl c3⟩)]
        exact bad
      · refine Ev.neg c3 ?_
        by_cases c4 : 0 < acc.length
        · refine Ev.pos (by omega) ?_
          rw [if_pos (.inl ⟨c1, .inr c4⟩)]
          exact bad
        · refine Ev.neg (by omega) ?_
          exact main (by rintro ⟨_, h | h⟩; exact c3 h; exact c4 h)
    · refine Ev.neg c1 ?_
      exact main (by rintro ⟨h, _⟩; omega)
def bdR (b : List Int) (o : Int) : Int × List Int × Int × Int := ((bdec b o).1, wof (bdec b o).1.toNat (fun i => (bdec b o).2.1.getD i false), (bdec b o).2.2.1, (bdec b o).2.2.2)
theorem bdR_bad {b : List Int} {o e : Int} (h : bdec b o = (0, [], 0, e)) : bdR b o = (0, [], 0, e) := by
  unfold bdR
  rw [h]
  simp [wof, wofN, wc]
/-- In one form: resD of the rounds is what bdR says. -/
theorem resD_bdR (b : List Int) (hb : ∀ x ∈ b, 0 ≤ x ∧ x < 256) (o : Int) (c0 : (vdec b o).2.2 = 0) (c1 : ¬ (vdec b o).1 > 1048576) : resD (vdec b o).1.toNat (bdc b (vdec b o).1.toNat ((vdec b o).1.toNat + 1) (vdec b o).2.1 [] false) = bdR b o := by
  obtain ⟨n, a, rfl, e1, hn, e2, _, _⟩ := b_vdec_ok hb c0
  have hd : bdec b (a : Int) = if (bdc b (vdec b (a : Int)).1.toNat ((vdec b (a : Int)).1.toNat + 1) (vdec b (a : Int)).2.1 [] false).2.2 = 0 then
      ((vdec b (a : Int)).1, (bdc b (vdec b (a : Int)).1.toNat ((vdec b (a : Int)).1.toNat + 1) (vdec b (a : Int)).2.1 [] false).1, (bdc b (vdec b (a : Int)).1.toNat ((vdec b (a : Int)).1.toNat + 1) (vdec b (a : Int)).2.1 [] false).2.1, 0)
    else (0, [], 0, (bdc b (vdec b (a : Int)).1.toNat ((vdec b (a : Int)).1.toNat + 1) (vdec b (a : Int)).2.1 [] false).2.2) := by
    conv => lhs; unfold bdec
    rw [if_pos c0, if_neg c1]
  have hok := fun h => bdec_ok hb (o := (a : Int)) h
  unfold bdR
  rw [hd] at hok ⊢
  rw [e1] at hok ⊢
  rw [Int.toNat_natCast] at hok ⊢
  obtain ⟨x, hx⟩ : ∃ x, x = bdc b n (n + 1) (vdec b (a : Int)).2.1 [] false := ⟨_, rfl⟩
  rw [← hx] at hok ⊢
  unfold resD
  by_cases c : x.2.2 = 0
  · rw [if_pos c] at hok
    rw [if_pos c, if_pos c]
    obtain ⟨n', a2, a', q1, q2, q3, q4, _⟩ := hok rfl
    simp only at q2 q4
    have : n' = n := by omega
    subst this
    simp only [Int.toNat_natCast]
    rw [← q4]
    rfl
  · rw [if_neg c, if_neg c]
    simp [wof, wofN, wc]
theorem idec_ev (b : List Int) (hb : ∀ x ∈ b, 0 ≤ x ∧ x < 256) (hlen : b.length < 4611686018427387904) (o : Int) : Ev (fun k => bitset_Decode.f k b o) (bdR b o) := by
  unfold bitset_Decode.f
  refine Ev.bind (dec_ev b hb hlen o) ?_
  by_cases c0 : (vdec b o).2.2 = 0
  rotate_left
  · refine Ev.neg c0 ?_
    exact Ev.eq (Ev.now _) (bdR_bad (by unfold bdec; rw [if_neg c0])).symm
  refine Ev.pos c0 ?_
  by_cases c1 : (vdec b o).1 > 1048576
  · refine Ev.pos c1 ?_
    exact Ev.eq (Ev.now _) (bdR_bad (by unfold bdec; rw [if_pos c0, if_pos c1])).symm
  refine Ev.neg c1 ?_
  rw [← resD_bdR b hb o c0 c1]
  obtain ⟨n, a, rfl, e1, hn, e2, _, _⟩ := b_vdec_ok hb c0
  rw [e1] at c1 ⊢
  rw [Int.toNat_natCast, w64n n (by omega)]
  refine Ev.bind0 (inew (n : Int)) ?_
  have hnn : nn (n : Int) = n := by unfold nn; rw [if_neg (by omega)]; rfl
  rw [hnn]
  exact idec_l0 b hb hlen n (by omega) (n + 1) _ [] false (fuelB_start n) (Nat.zero_le _)
/-! the reference's -/
theorem rdec3_l1 (b : List Int) (t : Int) (N : Nat) (hN : N ≤ 1048576) (on : Bool) (run : Nat) (R : Int × List Int × Int × Int) : ∀ (d j : Nat) (acc : List Bool), j + d = run → acc.length + d ≤ N → run ≤ N →
    Ev (fun k => laminaref03_Decode.l0 k b (N : Int) t (acc ++ List.replicate d on) (!on) false) R →
    Ev (fun k => laminaref03_Decode.l1 k b (N : Int) acc on (run : Int) t (j : Int)) R := by
  intro d
  induction d with
  | zero =>
    intro j acc h1 h2 h3 h
    refine Ev.succ ?_
    simp only [laminaref03_Decode.l1]
    refine Ev.neg (by omega) ?_
    simpa using h
  | succ d ih =>
    intro j acc h1 h2 h3 h
    have ih2 := ih (j + 1) (acc ++ [on]) (by omega) (by rw [List.length_append, List.length_singleton]; omega) h3 (by rw [rep_snoc]; exact h)
    refine Ev.succ ?_
    simp only [laminaref03_Decode.l1]
    refine Ev.pos (by omega) ?_
    refine Ev.pos (by omega) ?_
    rw [show IntKind.u64.wrap ((j : Int) + 1) = ((j + 1 : Nat) : Int) by rw [wraps_u64 _ (by omega) (by omega)]; omega]
    exact ih2
theorem rdec3_l0 (b : List Int) (hb : ∀ x ∈ b, 0 ≤ x ∧ x < 256) (hlen : b.length < 4611686018427387904) (N : Nat) (hN : N ≤ 1048576) : ∀ (d : Nat) (t : Int) (acc : List Bool) (on first : Bool), fuelB N acc on d → acc.length ≤ N → (first = true ↔ ¬ (on = true ∨ 0 < acc.length)) →
    Ev (fun k => laminaref03_Decode.l0 k b (N : Int) t acc on first) (resD N (bdc b N d t acc on)) := by
  have fin : ∀ (t : Int) (acc : List Bool), acc.length = N → Ev (fun k => (laminaref03_build.f k acc).bind fun bt190 => (some (bt190.1, bt190.2, t, (0 : Int)))) (resD N (acc, t, 0)) := by
    intro t acc h
    refine Ev.bind (r03build acc (fun i => acc.getD i false) (fun _ _ => rfl) (by omega)) ?_
    refine Ev.eq (Ev.now _) ?_
    unfold resD
    rw [if_pos rfl, ← h]
    rfl
  intro d
  induction d with
  | zero =>
    intro t acc on first hf hle hfi
    have h1 : ¬ acc.length < N := by unfold fuelB at hf; omega
    refine Ev.succ ?_
    simp only [laminaref03_Decode.l0, w64n N (by omega)]
    refine Ev.neg (by omega) ?_
    rw [bdc_full _ _ _ _ _ _ h1]
    exact fin t acc (by omega)
  | succ d ih =>
    intro t acc on first hf hle hfi
    refine Ev.succ ?_
    simp only [laminaref03_Decode.l0, w64n N (by omega)]
    by_cases h1 : acc.length < N
    rotate_left
    · refine Ev.neg (by omega) ?_
      rw [bdc_full _ _ _ _ _ _ h1]
      exact fin t acc (by omega)
    refine Ev.pos (by omega) ?_
    refine Ev.bind (rdec_ev b hb hlen t) ?_
    unfold bdc
    rw [if_pos h1]
    by_cases c0 : (vdec b t).2.2 = 0
    rotate_left
    · refine Ev.neg c0 ?_
      rw [if_neg c0]
      exact Ev.eq (Ev.now _) (by unfold resD; rw [if_neg c0])
    refine Ev.pos c0 ?_
    rw [if_pos c0]
    obtain ⟨n, a, rfl, e1, hn, e2, _, _⟩ := b_vdec_ok hb c0
    rw [e1]
    generalize (vdec b (a : Int)).2.1 = t1
    have bad : Ev (fun k => laminaref03_Decode.j1 k b (N : Int) acc on (n : Int) t1 true) (resD N ([], 0, 4)) := by
      refine Ev.succ ?_
      simp only [laminaref03_Decode.j1]
      refine Ev.pos (by decide) ?_
      exact Ev.now _
    have hw : IntKind.u64.wrap ((N : Int) - IntKind.u64.wrap (acc.length : Int)) = (N : Int) - (acc.length : Int) := by
      rw [wraps_u64 (acc.length : Int) (by omega) (by omega), wraps_u64 _ (by omega) (by omega)]
    rw [hw, Int.toNat_natCast]
    have main : ¬ (n = 0 ∧ (on = true ∨ 0 < acc.length)) → Ev (fun k => laminaref03_Decode.j1 k b (N : Int) acc on (n : Int) t1 (decide ((n : Int) > (N : Int) - (acc.length : Int)))) (resD N (if ((n : Int) = 0 ∧ (on = true ∨ 0 < acc.length)) ∨ (N : Int) - acc.length < (n : Int) then ([], 0, 4) else bdc b N d t1 (acc ++ List.replicate n on) (!on))) := by
      intro hk
      by_cases c2 : (n : Int) > (N : Int) - (acc.length : Int)
      · rw [decide_eq_true c2, if_pos (.inr c2)]
        exact bad
      · rw [decide_eq_false c2, if_neg (by rintro (⟨e, hc⟩ | e); exact hk ⟨by omega, hc⟩; exact c2 e)]
        refine Ev.succ ?_
        simp only [laminaref03_Decode.j1]
        refine Ev.neg (by decide) ?_
        refine rdec3_l1 b t1 N hN on n _ n 0 acc (by omega) (by omega) (by omega) ?_
        refine ih t1 (acc ++ List.replicate n on) (!on) false (fuelB_step hf h1 hk) (by rw [List.length_append, List.length_replicate]; omega) ?_
        refine iff_of_false (by decide) (fun h => h ?_)
        rw [List.length_append, List.length_replicate]
        by_cases e : n = 0
        · left
          cases on with
          | true => exact absurd ⟨e, .inl rfl⟩ hk
          | false => rfl
        · right; omega
    by_cases c1 : (n : Int) = 0
    · refine Ev.pos c1 ?_
      by_cases c3 : first = true
      · refine Ev.pos c3 ?_
        exact main (by rintro ⟨_, h⟩; exact (hfi.1 c3) h)
      · refine Ev.neg c3 ?_
        rw [if_pos (.inl ⟨c1, Decidable.byContradiction fun h => c3 (hfi.2 h)⟩)]
        exact bad
    · refine Ev.neg c1 ?_
      exact main (by rintro ⟨h, _⟩; omega)
theorem rdec3_ev (b : List Int) (hb : ∀ x ∈ b, 0 ≤ x ∧ x < 256) (hlen : b.length < 4611686018427387904) (o : Int) : Ev (fun k => laminaref03_Decode.f k b o) (bdR b o) := by
  unfold laminaref03_Decode.f
  refine Ev.bind (rdec_ev b hb hlen o) ?_
  by_cases c0 : (vdec b o).2.2 = 0
  rotate_left
  · refine Ev.neg c0 ?_
    exact Ev.eq (Ev.now _) (bdR_bad (by unfold bdec; rw [if_neg c0])).symm
  refine Ev.pos c0 ?_
  by_cases c1 : (vdec b o).1 > 1048576
  · refine Ev.pos c1 ?_
    exact Ev.eq (Ev.now _) (bdR_bad (by unfold bdec; rw [if_pos c0, if_pos c1])).symm
  refine Ev.neg c1 ?_
  rw [← resD_bdR b hb o c0 c1]
  obtain ⟨n, a, rfl, e1, hn, e2, _, _⟩ := b_vdec_ok hb c0
  rw [e1] at c1 ⊢
  rw [Int.toNat_natCast]
  exact rdec3_l0 b hb hlen n (by omega) (n + 1) _ [] false true (fuelB_start n) (Nat.zero_le _) (by simp)
theorem bdec_n (b : List Int) (hb : ∀ x ∈ b, 0 ≤ x ∧ x < 256) (o : Int) : (bdec b o).1.toNat ≤ 1048576 := by
  by_cases h : (bdec b o).2.2.2 = 0
  · obtain ⟨n, _, _, _, e, hn, _⟩ := bdec_ok hb h
    rw [e]; omega
  · unfold bdec at h ⊢
    split
    · rename_i c0
      rw [if_pos c0] at h
      split
      · simp
      · rename_i c1
        rw [if_neg c1] at h
        split
        · rename_i c2; rw [if_pos c2] at h; exact absurd rfl h
        · simp
    · simp

/-! ### Encode, the code's and the reference's -/
def rnl : List Bool → Bool → Nat → List Nat
  | [], _, n => [n]
  | x :: l, on, n => if x = on then rnl l on (n + 1) else n :: rnl l x 1
theorem rnl_rnb : ∀ (l : List Bool) (on : Bool) (n : Nat), rnb l on n = ((rnl l on n).map venc).flatten := by
  intro l
  induction l with
  | nil => intro on n; simp [rnb, rnl]
  | cons x l ih =>
    intro on n
    simp only [rnb, rnl]
    split
    · exact ih on (n + 1)
    · rw [ih]; simp
theorem rnl_le : ∀ (l : List Bool) (on : Bool) (n : Nat), ∀ x ∈ rnl l on n, x ≤ n + l.length := by
  intro l
  induction l with
  | nil => intro on n x hx; simp [rnl] at hx; omega
  | cons y l ih =>
    intro on n x hx
    simp only [rnl] at hx
    simp only [List.length_cons]
    split at hx
    · have := ih on (n + 1) x hx; omega
    · rcases List.mem_cons.1 hx with rfl | hx
      · omega
      · have := ih y 1 x hx; omega
theorem rnl_len : ∀ (l : List Bool) (on : Bool) (n : Nat), (rnl l on n).length ≤ l.length + 1 := by
  intro l
  induction l with
  | nil => intro on n; simp [rnl]
  | cons y l ih =>
    intro on n
    simp only [rnl, List.length_cons]
    split
    · have := ih on (n + 1); omega
    · have := ih y 1; simp only [List.length_cons]; omega
theorem rruns_l0 (N : Nat) (ws : List Int) (hl : ws.length = wc N) (hw : wok ws) (hN : N ≤ 1048576) : ∀ (d i : Nat) (out : List Int) (on : Bool) (n : Nat), i + d = N → out.length ≤ i → n ≤ i →
    Ev (fun k => laminaref03_Runs.l0 k out on (n : Int) (i : Int) (N : Int) ws) (out ++ (if N = 0 then [] else (rnl (fl (gb ws) i d) on n).map (fun x : Nat => (x : Int)))) := by
  intro d
  induction d with
  | zero =>
    intro i out on n h1 h2 h3
    refine Ev.succ ?_
    simp only [laminaref03_Runs.l0]
    refine Ev.neg (by omega) ?_
    by_cases c : N = 0
    · refine Ev.neg (by omega) ?_
      rw [if_pos c, List.append_nil]
      exact Ev.now _
    · refine Ev.pos (by omega) ?_
      refine Ev.pos (by omega) ?_
      rw [if_neg c]
      exact Ev.eq (Ev.now _) (by simp [fl, rnl])
  | succ d ih =>
    intro i out on n h1 h2 h3
    refine Ev.succ ?_
    simp only [laminaref03_Runs.l0]
    refine Ev.pos (by omega) ?_
    refine Ev.bind0 (r03con N i ws hl hw (by omega)) ?_
    rw [decide_eq_true (show i < N by omega), Bool.true_and, w64_add1 i (by omega), w64_add1 n (by omega)]
    simp only [fl, rnl]
    by_cases c : gb ws i = on
    · rw [c]
      refine Ev.neg (by simp) ?_
      rw [if_pos rfl]
      exact ih (i + 1) out on (n + 1) (by omega) (by omega) (by omega)
    · refine Ev.pos (by simpa using c) ?_
      refine Ev.pos (by omega) ?_
      have e : gb ws i = !on := by cases h : gb ws i <;> cases on <;> simp_all
      rw [if_neg c, e]
      have ih2 := ih (i + 1) (out ++ [(n : Int)]) (!on) 1 (by omega) (by rw [List.length_append, List.length_singleton]; omega) (by omega)
      refine Ev.eq ih2 ?_
      by_cases cN : N = 0
      · omega
      · rw [if_neg cN, if_neg cN]; simp
theorem rruns_ev (N : Nat) (ws : List Int) (hl : ws.length = wc N) (hw : wok ws) (hN : N ≤ 1048576) : Ev (fun k => laminaref03_Runs.f k (N : Int) ws) (if N = 0 then [] else (rnl (fl (gb ws) 0 N) false 0).map (fun x : Nat => (x : Int))) := by
  unfold laminaref03_Runs.f
  have := rruns_l0 N ws hl hw hN N 0 [] false 0 (by omega) (Nat.le_refl _) (Nat.le_refl _)
  simpa using this
theorem renc3_l0 (rs : List Nat) (hr : ∀ x ∈ rs, x ≤ 2000000) (hl : rs.length ≤ 2000000) : ∀ (d i : Nat) (out : List Int), i + d = rs.length → out.length ≤ 10 + 10 * i →
    Ev (fun k => laminaref03_Encode.l0 k out (rs.map (fun x : Nat => (x : Int))) (i : Int)) (out ++ ((rs.drop i).map venc).flatten) := by
  intro d
  induction d with
  | zero =>
    intro i out h1 h2
    refine Ev.succ ?_
    simp only [laminaref03_Encode.l0, List.length_map]
    refine Ev.neg (by omega) ?_
    rw [List.drop_of_length_le (by omega)]
    exact Ev.eq (Ev.now _) (by simp)
  | succ d ih =>
    intro i out h1 h2
    have hi : i < rs.length := by omega
    have hx := hr _ (List.getElem_mem hi)
    have hv := venc_len10 rs[i] (by omega)
    refine Ev.succ ?_
    simp only [laminaref03_Encode.l0, List.length_map]
    refine Ev.pos (by omega) ?_
    refine Ev.pos (by omega) ?_
    have e1 : rd (rs.map (fun x : Nat => (x : Int))) (i : Int) = (rs[i] : Int) := by
      rw [rd_nat, List.getD_eq_getElem?_getD, List.getElem?_map, List.getElem?_eq_getElem hi]; rfl
    rw [e1, wraps_u64 _ (by omega) (by omega)]
    refine Ev.bind (renc_ev rs[i] (by omega)) ?_
    refine Ev.pos (by omega) ?_
    rw [w64_add1 i (by omega)]
    refine Ev.eq (ih (i + 1) (out ++ venc rs[i]) (by omega) (by rw [List.length_append]; omega)) ?_
    rw [List.drop_eq_getElem_cons hi, List.map_cons, List.flatten_cons, List.append_assoc]
theorem renc3_ev (N : Nat) (ws : List Int) (hl : ws.length = wc N) (hw : wok ws) (hN : N ≤ 1048576) : Ev (fun k => laminaref03_Encode.f k (N : Int) ws) (benc N (fl (gb ws) 0 N)) := by
  unfold laminaref03_Encode.f
  rw [wraps_u64 (N : Int) (by omega) (by omega)]
  refine Ev.bind (renc_ev N (by omega)) ?_
  refine Ev.bind (rruns_ev N ws hl hw hN) ?_
  have hv := venc_len10 N (by omega)
  unfold benc
  by_cases c : N = 0
  · rw [if_pos c, if_pos c]
    have := renc3_l0 [] (fun x hx => by cases hx) (Nat.zero_le _) 0 0 (venc N) rfl (by omega)
    simpa using this
  · rw [if_neg c, if_neg c, rnl_rnb]
    have hle := rnl_le (fl (gb ws) 0 N) false 0
    have hlen := rnl_len (fl (gb ws) 0 N) false 0
    rw [fl_len] at hle hlen
    have := renc3_l0 (rnl (fl (gb ws) 0 N) false 0) (fun x hx => by have := hle x hx; omega) (by omega) _ 0 (venc N) (Nat.zero_add _) (by omega)
    rw [List.drop_zero] at this
    exact this
theorem ienc3 (N : Nat) (ws : List Int) (hl : ws.length = wc N) (hw : wok ws) (hN : N ≤ 1048576) (hz : ∀ j, N ≤ j → gb ws j = false) : bitset_Encode.f (N : Int) ws = some (benc N (fl (gb ws) 0 N)) := by
  unfold bitset_Encode.f
  rw [if_pos ⟨wokB_of hw, by rw [hl]; unfold wc; omega, by omega, by omega⟩, elsI_cut (n := N) (by rw [hl]; exact wc_le N) hz, benc_eq]

/-! ### small -/
theorem wok_of_wf {l : List Int} (h : ∀ x ∈ l, (Lit.int .u64 x).wf = true) : wok l := fun x hx => wf_u64 (h x hx)
theorem sm_ev (a : Int) (l : List Int) (hw : wok l) (hl : l.length ≤ 9223372036854775807) : (∃ n : Nat, a = (n : Int) ∧ n ≤ 3000 ∧ l.length = wc n ∧ (∀ j, n ≤ j → gb l j = false) ∧ laminalaw03_small.f a l = some true) ∨ laminalaw03_small.f a l = some false := by
  unfold laminalaw03_small.f
  by_cases h : a ≤ 3000
  · rw [if_pos h]
    obtain ⟨b, e, i⟩ := r03val a l hw hl
    rw [e]
    cases b with
    | true =>
      left
      have hv := i.1 rfl
      have ha : 0 ≤ a := hv.1
      obtain ⟨n, rfl⟩ := Int.eq_ofNat_of_zero_le ha
      obtain ⟨h1, h2, h3⟩ := vset_iff.1 hv
      exact ⟨n, rfl, by omega, h2, h3, rfl⟩
    | false => right; rfl
  · rw [if_neg h]; right; rfl
theorem lives_ev : Ev (fun _ => laminalaw03_lives.f.bind fun t => some t) true := Ev.now _

theorem BitsetCodec : laminalaw03_BitsetCodec.Pure := by
  intro a l b o hok hb hb8 ho
  obtain ⟨_, hl, hw⟩ := hok
  simp only at hl hw
  obtain ⟨hbl, hbw⟩ := hb
  have hlM : l.length ≤ 9223372036854775807 := hl
  have hbM : b.length < 4611686018427387904 := by omega
  refine Ev.rounds (g := fun k => laminalaw03_BitsetCodec.f k a l b o) ?_
  unfold laminalaw03_BitsetCodec.f
  have bad : Ev (fun k => laminalaw03_BitsetCodec.j0 k b o true a l) true := by
    refine Ev.succ ?_
    simp only [laminalaw03_BitsetCodec.j0]
    refine Ev.pos (by simp) ?_
    exact lives_ev
  rcases sm_ev a l (wok_of_wf hw) hlM with ⟨n, rfl, hn, h1, h2, e⟩ | e
  rotate_left
  · refine Ev.bind0 e ?_
    refine Ev.neg (by decide) ?_
    exact bad
  refine Ev.bind0 e ?_
  refine Ev.pos rfl ?_
  by_cases c : (b.length : Int) > 200
  · rw [decide_eq_true c]; exact bad
  rw [decide_eq_false c]
  have hbb := wf_u8s hbw
  refine Ev.succ ?_
  simp only [laminalaw03_BitsetCodec.j0]
  refine Ev.neg (by decide) ?_
  refine Ev.bind (idec_ev b hbb hbM o) ?_
  refine Ev.bind (rdec3_ev b hbb hbM o) ?_
  refine Ev.bind0 (ienc3 n l h1 (wok_of_wf hw) (by omega) h2) ?_
  refine Ev.bind (renc3_ev n l h1 (wok_of_wf hw) (by omega)) ?_
  refine Ev.pos rfl ?_
  have hlen : (bdR b o).2.1.length ≤ 1000000 := by
    unfold bdR
    simp only
    rw [wof_length]
    have := bdec_n b hbb o
    unfold wc
    omega
  refine Ev.bind (req_ev _ _ hlen) ?_
  refine Ev.pos rfl ?_
  refine Ev.pos rfl ?_
  refine Ev.pos rfl ?_
  exact lives_ev

end Go.Proofs.YtijgbhbdmnhanaaDoor.Pure
