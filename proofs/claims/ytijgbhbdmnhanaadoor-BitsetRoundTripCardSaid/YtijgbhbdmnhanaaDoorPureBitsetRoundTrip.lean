/- laminalaw03.BitsetRoundTrip returns true for all its arguments (Decode inverts Encode, and accepted bytes are re-encoded), the table of math/bits tied to the program's text. Conditions: none beyond the row's own (slices of at most 2^47 - 4096 bytes). -/
import Derived.Test.YtijgbhbdmnhanaaDoorStBitsetRoundTrip
import Derived.Test.YtijgbhbdmnhanaaDoorM01
import Derived.Test.YtijgbhbdmnhanaaDoorM02
import Derived.Test.YtijgbhbdmnhanaaDoorM03
import Derived.Test.YtijgbhbdmnhanaaDoorM08
import Derived.Test.YtijgbhbdmnhanaaDoorM11
import Derived.Test.YtijgbhbdmnhanaaDoorM12
import Derived.Test.YtijgbhbdmnhanaaDoorM13
import Derived.Test.YtijgbhbdmnhanaaDoorM16
set_option linter.unusedVariables false
set_option linter.unusedSimpArgs false
namespace Go.Proofs.YtijgbhbdmnhanaaDoor.Pure
open Go Go.RowKit Go.Proofs.YtijgbhbdmnhanaaDoor.QBitsetRoundTrip Go.Proofs.YtijgbhbdmnhanaaDoorW.PrintWords Go.Proofs.YtijgbhbdmnhanaaDoorW.PrintLast Go.Proofs.YtijgbhbdmnhanaaDoorM

/-! ### the reference's bitset functions -/
theorem tdiv64 (i : Nat) (h : i < 9223372036854775808) : wrap64 (Int.tdiv (i : Int) 64) = ((i / 64 : Nat) : Int) := by
  rw [Int.tdiv_eq_ediv_of_nonneg (by omega), w64 _ (by omega) (by omega)]; omega
theorem tmod64 (i : Nat) : Int.tmod (i : Int) 64 = ((i % 64 : Nat) : Int) := by
  rw [Int.tmod_eq_emod_of_nonneg (by omega)]; omega
theorem utmod64 (i : Nat) : IntKind.u64.wrap (Int.tmod (i : Int) 64) = ((i % 64 : Nat) : Int) := by
  rw [tmod64]; exact wraps_u64 _ (by omega) (by omega)
theorem pow_cast0 (t : Nat) : ((2 ^ t : Nat) : Int) = 2 ^ t := by simp
theorem shl1 (r : Nat) (hr : r < 64) : shl .u64 1 (r : Int) = ((2 ^ r : Nat) : Int) := by
  have h := pow_lt64 r hr
  have h3 : ∀ p : Nat, p < 2 ^ 64 → IntKind.u64.wrap (p : Int) = (p : Int) := fun p hp => wraps_u64 _ (by omega) (by omega)
  unfold shl
  rw [show min ((r : Int).toNat) IntKind.u64.bits = r by simp [IntKind.bits]; omega, Int.one_mul, ← pow_cast0]
  exact h3 _ h
theorem bit_one (y : Int) (h0 : 0 ≤ y) (h1 : y < 18446744073709551616) (r : Nat) (hr : r < 64) : (Go.bits .and .u64 (shr .u64 y (r : Int)) 1 == 1) = y.toNat.testBit r := by
  obtain ⟨m, rfl⟩ := Int.eq_ofNat_of_zero_le h0
  unfold shr
  rw [show min ((r : Int).toNat) IntKind.u64.bits = r by simp [IntKind.bits]; omega, ← pow_cast0, ← Int.natCast_ediv, Int.toNat_natCast, Nat.testBit_eq_decide_div_mod_eq]
  have hqm := Nat.div_le_self m (2 ^ r)
  generalize m / 2 ^ r = q at hqm ⊢
  rw [and_one _ (by omega) (by omega)]
  by_cases hq : q % 2 = 1
  · rw [decide_eq_true hq]; simp; omega
  · rw [decide_eq_false hq]; simp; omega
theorem or_shl (ws : List Int) (hw : wok ws) (i : Nat) : Go.bits .or .u64 (ws.getD (i / 64) 0) (shl .u64 1 (((i % 64 : Nat)) : Int)) = (((ws.getD (i / 64) 0).toNat ||| 2 ^ (i % 64) : Nat) : Int) := by
  have h := wok_get hw (i / 64)
  rw [shl1 _ (Nat.mod_lt _ (by decide))]
  obtain ⟨m, hm⟩ := Int.eq_ofNat_of_zero_le h.1
  rw [hm] at h ⊢
  rw [Int.toNat_natCast]
  exact or_nat m _ (by omega) (pow_lt64 _ (Nat.mod_lt _ (by decide)))

/-! ### valid sets -/
def vset (a : Int) (ws : List Int) : Prop := 0 ≤ a ∧ a ≤ 1048576 ∧ ws.length = wc a.toNat ∧ ∀ j, a.toNat ≤ j → gb ws j = false
theorem last_word {ws : List Int} (hw : wok ws) {n : Nat} (hl : ws.length = wc n) (hn : n % 64 ≠ 0) :
    ((ws.getD (n / 64) 0).toNat / 2 ^ (n % 64) = 0) ↔ ∀ j, n ≤ j → gb ws j = false := by
  have hlt : n / 64 < ws.length := by rw [hl]; unfold wc; omega
  have hp := Nat.two_pow_pos (n % 64)
  constructor
  · intro h j hj
    by_cases hq : j / 64 = n / 64
    · unfold gb
      rw [hq]
      have h1 : (ws.getD (n / 64) 0).toNat < 2 ^ (n % 64) := by
        rcases Nat.div_eq_zero_iff.1 h with h2 | h2
        · omega
        · exact h2
      exact Nat.testBit_lt_two_pow (Nat.lt_of_lt_of_le h1 (Nat.pow_le_pow_right (by decide) (by omega)))
    · exact gb_out (by rw [hl]; unfold wc; omega)
  · intro h
    refine Nat.div_eq_of_lt (Nat.lt_pow_two_of_testBit _ (fun i hi => ?_))
    by_cases h64 : i < 64
    · have := h (64 * (n / 64) + i) (by omega)
      unfold gb at this
      rw [show (64 * (n / 64) + i) / 64 = n / 64 by omega, show (64 * (n / 64) + i) % 64 = i by omega] at this
      exact this
    · have h2 := wok_get hw (n / 64)
      have hp2 : 2 ^ 64 ≤ 2 ^ i := Nat.pow_le_pow_right (by decide) (by omega)
      exact Nat.testBit_lt_two_pow (by omega)
theorem vset_iff {n : Nat} {ws : List Int} : vset (n : Int) ws ↔ n ≤ 1048576 ∧ ws.length = wc n ∧ ∀ j, n ≤ j → gb ws j = false := by
  unfold vset
  rw [Int.toNat_natCast]
  constructor
  · rintro ⟨_, h2, h3, h4⟩; exact ⟨by omega, h3, h4⟩
  · rintro ⟨h2, h3, h4⟩; exact ⟨by omega, by omega, h3, h4⟩
theorem vset_wof (n : Nat) (f : Nat → Bool) (hn : n ≤ 1048576) : vset (n : Int) (wof n f) :=
  vset_iff.2 ⟨hn, wof_length n f, fun j hj => by rw [gb_wof, decide_eq_false (by omega), Bool.false_and]⟩
theorem vset_eq {n : Nat} {ws : List Int} (hw : wok ws) (h : vset (n : Int) ws) : ws = wof n (gb ws) := by
  obtain ⟨_, h2, h3⟩ := vset_iff.1 h
  refine wof_eq h2 hw (fun i => ?_)
  by_cases hi : i < n
  · rw [decide_eq_true hi, Bool.true_and]
  · rw [decide_eq_false hi, Bool.false_and, h3 i (by omega)]
theorem r03val (a : Int) (ws : List Int) (hw : wok ws) (hl : ws.length ≤ 9223372036854775807) : ∃ b, laminaref03_Valid.f a ws = some b ∧ (b = true ↔ vset a ws) := by
  unfold laminaref03_Valid.f
  by_cases h1 : a < 0
  · exact ⟨false, by rw [if_pos h1], by simp [vset]; omega⟩
  by_cases h2 : a > 1048576
  · exact ⟨false, by rw [if_neg h1, if_pos h2], by simp [vset]; omega⟩
  obtain ⟨n, rfl⟩ := Int.eq_ofNat_of_zero_le (show 0 ≤ a by omega)
  rw [if_neg h1, if_neg h2, w64 ((n : Int) + 63) (by omega) (by omega), show (n : Int) + 63 = ((n + 63 : Nat) : Int) by omega, tdiv64 _ (by omega), tmod64]
  have hwc : (n + 63) / 64 = wc n := rfl
  by_cases h3 : ws.length = wc n
  · rw [if_pos (by omega)]
    by_cases h4 : n % 64 = 0
    · refine ⟨true, by rw [if_pos (by omega)], iff_of_true rfl (vset_iff.2 ⟨by omega, h3, fun j hj => gb_out (by rw [h3]; unfold wc; omega)⟩)⟩
    · have e : wrap64 ((ws.length : Int) - 1) = ((n / 64 : Nat) : Int) := by
        rw [w64 _ (by omega) (by omega), h3]; unfold wc; omega
      have hq : n / 64 < ws.length := by rw [h3]; unfold wc; omega
      rw [if_neg (by omega), e, if_pos (by omega), if_pos (by omega), wraps_u64 ((n % 64 : Nat) : Int) (by omega) (by omega), if_pos (by omega), rd_nat]
      refine ⟨_, rfl, ?_⟩
      have hg := wok_get hw (n / 64)
      have hlw := last_word hw h3 h4
      obtain ⟨m, hm⟩ := Int.eq_ofNat_of_zero_le hg.1
      rw [hm] at hlw ⊢
      rw [Int.toNat_natCast] at hlw
      unfold shr
      rw [show min (((n % 64 : Nat) : Int).toNat) IntKind.u64.bits = n % 64 by simp [IntKind.bits]; omega, ← pow_cast0, ← Int.natCast_ediv]
      rw [vset_iff]
      generalize m / 2 ^ (n % 64) = q at hlw ⊢
      constructor
      · intro h; exact ⟨by omega, h3, hlw.1 (by simpa using h)⟩
      · rintro ⟨_, _, h⟩; have := hlw.2 h; simpa using this
  · refine ⟨false, by rw [if_neg (by omega)], ?_⟩
    rw [vset_iff]
    exact iff_of_false (by simp) (fun h => h3 h.2.1)

/-! ### Of, New -/
def nn (n : Int) : Nat := if n < 0 ∨ n > 1048576 then 0 else n.toNat
theorem nn_le (n : Int) : nn n ≤ 1048576 := by unfold nn; split <;> omega
theorem wc_words (n : Nat) (hn : n ≤ 1048576) : wrap64 (Int.tdiv (wrap64 ((n : Int) + 63)) 64) = ((wc n : Nat) : Int) := by
  rw [w64 ((n : Int) + 63) (by omega) (by omega), Int.tdiv_eq_ediv_of_nonneg (by omega), w64 _ (by omega) (by omega)]
  unfold wc; omega
theorem inew (n : Int) : bitset_New.f n = some ((nn n : Int), List.replicate (wc (nn n)) 0) := by
  have hw : ∀ m : Nat, m ≤ 1048576 → wc m ≤ 16384 + 1 := fun m h => by unfold wc; omega
  have c0 : bitset_wordCount.f 0 = some 0 := by decide +kernel
  unfold bitset_New.f nn
  by_cases h1 : n < 0
  · rw [if_pos h1, if_pos (.inl h1), c0]; rfl
  · rw [if_neg h1]
    by_cases h2 : n > 1048576
    · rw [if_pos h2, if_pos (.inr h2), c0]; rfl
    · rw [if_neg h2, if_neg (by omega)]
      obtain ⟨m, rfl⟩ := Int.eq_ofNat_of_zero_le (show 0 ≤ n by omega)
      have := hw m (by omega)
      unfold bitset_wordCount.f
      rw [wc_words m (by omega)]
      simp only [Option.bind_some]
      rw [if_pos (by omega), if_pos (by omega), Int.toNat_natCast, Int.toNat_natCast]
/-! ### Equal -/
theorem req_l0 (n : Int) (ws : List Int) (hl : ws.length ≤ 1000000) : ∀ (d i : Nat), i + d = ws.length → Ev (fun k => laminaref03_Equal.l0 k (i : Int) n ws n ws) true := by
  intro d
  induction d with
  | zero =>
    intro i h
    refine Ev.succ ?_
    simp only [laminaref03_Equal.l0]
    refine Ev.neg (by omega) ?_
    refine Ev.succ ?_
    simp only [laminaref03_Equal.j2]
    exact Ev.neg (by decide) (Ev.now _)
  | succ d ih =>
    intro i h
    refine Ev.succ ?_
    simp only [laminaref03_Equal.l0]
    refine Ev.pos (by omega) ?_
    rw [decide_eq_true (show (i : Int) < (ws.length : Int) by omega)]
    refine Ev.succ ?_
    simp only [laminaref03_Equal.j2]
    refine Ev.pos (by simp) ?_
    refine Ev.pos (by omega) ?_
    refine Ev.pos (by omega) ?_
    refine Ev.pos (by omega) ?_
    refine Ev.pos (by simp) ?_
    rw [w64_add1 i (by omega)]
    exact ih (i + 1) (by omega)
theorem req_ev (n : Int) (ws : List Int) (hl : ws.length ≤ 1000000) : Ev (fun k => laminaref03_Equal.f k n ws n ws) true := by
  unfold laminaref03_Equal.f
  refine Ev.pos (by simp) ?_
  have e : ((ws.length : Int) != (ws.length : Int)) = false := by simp
  rw [e]
  refine Ev.succ ?_
  simp only [laminaref03_Equal.j0]
  refine Ev.neg (by decide) ?_
  exact req_l0 n ws hl ws.length 0 (by omega)
theorem elsI_succ (ws : List Int) (i : Nat) : elsI ws (i + 1) = if gb ws i = true then elsI ws i ++ [(i : Int)] else elsI ws i := by
  unfold elsI
  rw [els_split i 0 1, Nat.zero_add]
  by_cases h : gb ws i = true
  · rw [if_pos h]
    have : els (gb ws) i 1 = [i] := by simp [els, h]
    rw [this, List.map_append]; rfl
  · rw [if_neg h]
    have : els (gb ws) i 1 = [] := by simp [els, h]
    rw [this, List.append_nil]
theorem elsI_cut {ws : List Int} {n m : Nat} (h : n ≤ m) (hz : ∀ j, n ≤ j → gb ws j = false) : elsI ws m = elsI ws n := by
  unfold elsI
  obtain ⟨c, rfl⟩ : ∃ c, m = n + c := ⟨m - n, by omega⟩
  rw [els_split, Nat.zero_add, els_none c n (fun i h1 _ => hz i h1), List.append_nil]
theorem elsI_len (ws : List Int) (n : Nat) : (elsI ws n).length ≤ n := by unfold elsI; rw [List.length_map]; exact els_len_le n 0

/-! ### varint.Decode and the reference's -/
theorem pow_shl (i : Nat) (hi : i ≤ 9) (c : Int) (h0 : 0 ≤ c) (h1 : c * 128 ^ i < 18446744073709551616) : shl .u64 c (7 * (i : Int)) = c * 128 ^ i := by
  have e : min (7 * (i : Int)).toNat 64 = 7 * i := by omega
  have e2 : (2 : Int) ^ (7 * i) = 128 ^ i := by rw [Int.pow_mul]; rfl
  unfold shl
  rw [show IntKind.u64.bits = 64 from rfl, e, e2]
  exact wrap_u64_of _ (Int.mul_nonneg h0 (Int.pow_nonneg (by decide))) h1
theorem dec_j2 (b : List Int) (hlen : b.length < 4611686018427387904) (o i acc c : Nat) (hi : i ≤ 9) (ho : o + i < b.length) (hc : c < 256) (hacc : acc < 128 ^ i) (f : Nat) (hf : i + f = 9)
    (h9 : ¬ (i = 9 ∧ 1 < c))
    (ih : i < 9 → acc + c % 128 * 128 ^ i < 128 ^ (i + 1) → Ev (fun k => varint_Decode.l0 k b o ((acc + c % 128 * 128 ^ i : Nat) : Int) ((i + 1 : Nat) : Int)) (vd b o f (i + 1) (acc + c % 128 * 128 ^ i))) :
    Ev (fun k => varint_Decode.j2 k b o acc i c i false)
      (if i = 9 ∧ 1 < c ∨ 0 < i ∧ c = 0 then (0, 0, 4) else if c < 128 then (((acc + c * 128 ^ i : Nat) : Int), ((o + i + 1 : Nat) : Int), 0) else vd b o f (i + 1) (acc + c % 128 * 128 ^ i)) := by
  have hp : 0 < 128 ^ i := Nat.pow_pos (by decide)
  have hple : 128 ^ i ≤ 128 ^ 9 := Nat.pow_le_pow_right (by decide) hi
  have h9v : (128 : Nat) ^ 9 = 9223372036854775808 := by decide
  have hm : c % 128 * 128 ^ i < 18446744073709551616 := by
    by_cases e : i = 9
    · subst e
      have : c ≤ 1 := by omega
      have : c % 128 ≤ 1 := by omega
      have := Nat.mul_le_mul_right (128 ^ 9) this
      omega
    · have h8 : 128 ^ i ≤ 128 ^ 8 := Nat.pow_le_pow_right (by decide) (by omega)
      have : (128 : Nat) ^ 8 = 72057594037927936 := by decide
      have : c % 128 * 128 ^ i ≤ 127 * 72057594037927936 := Nat.mul_le_mul (by omega) (by omega)
      omega
  have hlow : c % 128 * 128 ^ i + 128 ^ i ≤ 128 ^ (i + 1) := by
    rw [pow128, ← Nat.succ_mul]
    exact Nat.mul_le_mul_right _ (by omega)
  have hs : shl .u64 (IntKind.u64.wrap (Go.bits .and .u8 c 127)) (wrap64 (7 * (i : Int))) = ((c % 128 * 128 ^ i : Nat) : Int) := by
    rw [and_127 _ (by omega) (by omega), w64 _ (by omega) (by omega), wrap_u64_of _ (by omega) (by omega), pow_shl i hi _ (by omega)]
    · push_cast; rfl
    · have : ((c % 128 * 128 ^ i : Nat) : Int) < 18446744073709551616 := by omega
      push_cast at this
      exact this
  have hor : Go.bits .or .u64 acc ((c % 128 * 128 ^ i : Nat) : Int) = ((acc + c % 128 * 128 ^ i : Nat) : Int) := by
    rw [or_add (7 * i) _ _ (by omega) ?_ (by omega) (by omega) (by omega) ?_]
    · push_cast; rfl
    · have e2 : (2 : Int) ^ (7 * i) = ((128 ^ i : Nat) : Int) := by rw [Int.pow_mul]; simp
      rw [e2]; omega
    · have e2 : (2 : Int) ^ (7 * i) = ((128 ^ i : Nat) : Int) := by rw [Int.pow_mul]; simp
      rw [e2]
      push_cast
      exact Int.mul_emod_left _ _
  refine Ev.succ ?_
  simp only [varint_Decode.j2, hs, hor, w64_add1 i (by omega), w64_add_1 o i (by omega)]
  clear hs hor
  refine Ev.neg (by decide) ?_
  refine Ev.pos (by rw [w64 _ (by omega) (by omega)]; omega) ?_
  by_cases h2 : c < 128
  · refine Ev.neg (by omega) ?_
    have hcm : c % 128 = c := Nat.mod_eq_of_lt h2
    by_cases h0 : c = 0
    · refine Ev.pos (by omega) ?_
      by_cases hi0 : 0 < i
      · refine Ev.pos (by omega) ?_
        exact Ev.eq (Ev.now _) (by rw [if_pos (Or.inr ⟨hi0, h0⟩)])
      · refine Ev.neg (by omega) ?_
        exact Ev.eq (Ev.now _) (by rw [if_neg (by omega), if_pos h2, hcm])
    · refine Ev.neg (by omega) ?_
      exact Ev.eq (Ev.now _) (by rw [if_neg (by omega), if_pos h2, hcm])
  · refine Ev.pos (by omega) ?_
    exact Ev.eq (ih (by omega) (by omega)) (by rw [if_neg (by omega), if_neg h2])
theorem dec_l0 (b : List Int) (hb : ∀ x ∈ b, 0 ≤ x ∧ x < 256) (hlen : b.length < 4611686018427387904) (o : Nat) (ho : o ≤ b.length) :
    ∀ (f i acc : Nat), i + f = 10 → acc < 128 ^ i → Ev (fun k => varint_Decode.l0 k b o acc i) (vd b o f i acc) := by
  intro f
  induction f with
  | zero =>
    intro i acc hi ha
    refine Ev.succ ?_
    simp only [varint_Decode.l0]
    refine Ev.neg (by omega) ?_
    exact Ev.now _
  | succ f ih =>
    intro i acc hi ha
    refine Ev.succ ?_
    simp only [varint_Decode.l0, w64_add o i (by omega), rd_nat]
    refine Ev.pos (by omega) ?_
    unfold vd
    by_cases hl : b.length ≤ o + i
    · refine Ev.pos (by omega) ?_
      exact Ev.eq (Ev.now _) (by rw [if_pos hl])
    refine Ev.neg (by omega) ?_
    refine Ev.pos (by omega) ?_
    refine Ev.pos (by omega) ?_
    rw [if_neg hl]
    have hr := getD_range hb (i := o + i) (by omega)
    obtain ⟨c, hc⟩ := Int.eq_ofNat_of_zero_le hr.1
    simp only [hc, Int.toNat_natCast]
    rw [hc] at hr
    have hstep : ¬ (i = 9 ∧ 1 < c) → Ev (fun k => varint_Decode.j2 k b o acc i c i false) (if i = 9 ∧ 1 < c ∨ 0 < i ∧ c = 0 then (0, 0, 4) else if c < 128 then (((acc + c * 128 ^ i : Nat) : Int), ((o + i + 1 : Nat) : Int), 0) else vd b o f (i + 1) (acc + c % 128 * 128 ^ i)) := fun h =>
      dec_j2 b hlen o i acc c (by omega) (by omega) (by omega) ha f (by omega) h (fun h1 h2 => ih (i + 1) _ (by omega) h2)
    by_cases h9 : i = 9
    · refine Ev.pos (by omega) ?_
      by_cases h1 : 1 < c
      · have : decide ((c : Int) > 1) = true := by simp; omega
        rw [this, if_pos (Or.inl ⟨h9, h1⟩)]
        refine Ev.succ ?_
        simp only [varint_Decode.j2]
        refine Ev.pos (by decide) ?_
        exact Ev.now _
      · have : decide ((c : Int) > 1) = false := by simp; omega
        rw [this]
        exact hstep (by omega)
    · refine Ev.neg (by omega) ?_
      exact hstep (by omega)
theorem dec_ev (b : List Int) (hb : ∀ x ∈ b, 0 ≤ x ∧ x < 256) (hlen : b.length < 4611686018427387904) (o : Int) : Ev (fun k => varint_Decode.f k b o) (vdec b o) := by
  unfold varint_Decode.f vdec
  by_cases h0 : o < 0
  · refine Ev.pos h0 ?_
    rw [if_pos (Or.inl h0)]
    refine Ev.succ ?_
    simp only [varint_Decode.j0]
    refine Ev.pos (by decide) ?_
    exact Ev.now _
  refine Ev.neg h0 ?_
  refine Ev.succ ?_
  simp only [varint_Decode.j0]
  by_cases h1 : (b.length : Int) < o
  · refine Ev.pos (by simpa using h1) ?_
    exact Ev.eq (Ev.now _) (by rw [if_pos (Or.inr h1)])
  · refine Ev.neg (by simpa using h1) ?_
    obtain ⟨n, rfl⟩ := Int.eq_ofNat_of_zero_le (show 0 ≤ o by omega)
    rw [if_neg (by omega), Int.toNat_natCast]
    exact dec_l0 b hb hlen n (by omega) 10 0 0 rfl (by decide)

/-! ### bitset.Decode and the reference's -/
theorem wofN_congr (m : Nat) {f g : Nat → Bool} : ∀ k, (∀ i, i < k → f i = g i) → wofN m f k = wofN m g k := by
  intro k
  induction k with
  | zero => intro _; rfl
  | succ k ih => intro h; simp only [wofN]; rw [h k (Nat.lt_succ_self k), ih (fun i hi => h i (by omega))]
def bw (N : Nat) (acc : List Bool) : List Int := wofN (wc N) (fun i => acc.getD i false) acc.length
theorem bw_len (N : Nat) (acc : List Bool) : (bw N acc).length = wc N := wofN_length _ _ _
theorem bw_wok (N : Nat) (acc : List Bool) : wok (bw N acc) := wofN_wok _ _ _
theorem bw_nil (N : Nat) : bw N [] = List.replicate (wc N) 0 := rfl
theorem bw_snoc (N : Nat) (acc : List Bool) (x : Bool) : bw N (acc ++ [x]) = if x = true then sb (bw N acc) acc.length else bw N acc := by
  unfold bw
  rw [List.length_append, List.length_singleton]
  simp only [wofN]
  have h1 : (acc ++ [x]).getD acc.length false = x := by simp [List.getD_eq_getElem?_getD]
  rw [wofN_congr (wc N) (f := fun i => (acc ++ [x]).getD i false) acc.length (g := fun i => acc.getD i false) (fun i hi => by
    rw [List.getD_eq_getElem?_getD, List.getElem?_append_left hi, ← List.getD_eq_getElem?_getD])]
  simp only [h1]
theorem bw_full (l : List Bool) : bw l.length l = wof l.length (fun i => l.getD i false) := rfl
theorem rep_snoc (d : Nat) (on : Bool) (acc : List Bool) : (acc ++ [on]) ++ List.replicate d on = acc ++ List.replicate (d + 1) on := by
  rw [List.append_assoc, List.replicate_succ]; rfl
theorem idec_l1 (b : List Int) (t : Int) (N : Nat) (hN : N ≤ 1048576) (on : Bool) (run : Nat) (R : Int × List Int × Int × Int) : ∀ (d j : Nat) (acc : List Bool), j + d = run → acc.length + d ≤ N → run ≤ N →
    Ev (fun k => bitset_Decode.l0 k b t (!on) (((acc ++ List.replicate d on).length : Nat) : Int) (N : Int) (bw N (acc ++ List.replicate d on))) R →
    Ev (fun k => bitset_Decode.l1 k b on (acc.length : Int) t (run : Int) (j : Int) (N : Int) (bw N acc)) R := by
  intro d
  induction d with
  | zero =>
    intro j acc h1 h2 h3 h
    refine Ev.succ ?_
    simp only [bitset_Decode.l1]
    refine Ev.neg (by omega) ?_
    simpa using h
  | succ d ih =>
    intro j acc h1 h2 h3 h
    have ih2 := ih (j + 1) (acc ++ [on]) (by omega) (by rw [List.length_append, List.length_singleton]; omega) h3 (by rw [rep_snoc]; exact h)
    have hl : (((acc ++ [on]).length : Nat) : Int) = wrap64 ((acc.length : Int) + 1) := by rw [w64_add1 _ (by omega), List.length_append, List.length_singleton]
    rw [hl, bw_snoc] at ih2
    refine Ev.succ ?_
    simp only [bitset_Decode.l1]
    refine Ev.pos (by omega) ?_
    by_cases c : on = true
    · have hq : acc.length / 64 < (bw N acc).length := by rw [bw_len]; unfold wc; omega
      refine Ev.pos c ?_
      rw [tdiv64 acc.length (by omega), tmod64 acc.length, rd_nat]
      refine Ev.pos (by omega) ?_
      refine Ev.pos (by omega) ?_
      refine Ev.pos (by omega) ?_
      rw [or_shl _ (bw_wok N acc) acc.length, Int.toNat_natCast, w64_add1 j (by omega)]
      rw [if_pos c] at ih2
      exact ih2
    · refine Ev.neg c ?_
      rw [w64_add1 j (by omega)]
      rw [if_neg c] at ih2
      exact ih2
def resD (N : Nat) (x : List Bool × Int × Int) : Int × List Int × Int × Int := if x.2.2 = 0 then ((N : Int), bw N x.1, x.2.1, 0) else (0, [], 0, x.2.2)
theorem idec_l0 (b : List Int) (hb : ∀ x ∈ b, 0 ≤ x ∧ x < 256) (hlen : b.length < 4611686018427387904) (N : Nat) (hN : N ≤ 1048576) : ∀ (d : Nat) (t : Int) (acc : List Bool) (on : Bool), fuelB N acc on d → acc.length ≤ N →
    Ev (fun k => bitset_Decode.l0 k b t on (acc.length : Int) (N : Int) (bw N acc)) (resD N (bdc b N d t acc on)) := by
  intro d
  induction d with
  | zero =>
    intro t acc on hf hle
    have h1 : ¬ acc.length < N := by unfold fuelB at hf; omega
    refine Ev.succ ?_
    simp only [bitset_Decode.l0]
    refine Ev.neg (by omega) ?_
    rw [bdc_full _ _ _ _ _ _ h1]
    exact Ev.now _
  | succ d ih =>
    intro t acc on hf hle
    refine Ev.succ ?_
    simp only [bitset_Decode.l0]
    by_cases h1 : acc.length < N
    rotate_left
    · refine Ev.neg (by omega) ?_
      rw [bdc_full _ _ _ _ _ _ h1]
      exact Ev.now _
    refine Ev.pos (by omega) ?_
    refine Ev.bind (dec_ev b hb hlen t) ?_
    unfold bdc
    rw [if_pos h1]
    by_cases c0 : (vdec b t).2.2 = 0
    rotate_left
    · refine Ev.neg c0 ?_
      rw [if_neg c0]
      exact Ev.eq (Ev.now _) (by unfold resD; rw [if_neg c0])
    refine Ev.pos c0 ?_
    rw [if_pos c0]
    obtain ⟨n, a, rfl, e1, hn, e2, _, _⟩ := b_vdec_ok hb c0
    rw [e1]
    generalize (vdec b (a : Int)).2.1 = t1
    have bad : Ev (fun k => bitset_Decode.j1 k b on (acc.length : Int) (n : Int) t1 true (N : Int) (bw N acc)) (resD N ([], 0, 4)) := by
      refine Ev.succ ?_
      simp only [bitset_Decode.j1]
      refine Ev.pos (by decide) ?_
      exact Ev.now _
    have hw : IntKind.u64.wrap (wrap64 ((N : Int) - (acc.length : Int))) = (N : Int) - (acc.length : Int) := by
      rw [w64 _ (by omega) (by omega), wraps_u64 _ (by omega) (by omega)]
    rw [hw, Int.toNat_natCast]
    have main : ¬ (n = 0 ∧ (on = true ∨ 0 < acc.length)) → Ev (fun k => bitset_Decode.j1 k b on (acc.length : Int) (n : Int) t1 (decide ((n : Int) > (N : Int) - (acc.length : Int))) (N : Int) (bw N acc)) (resD N (if ((n : Int) = 0 ∧ (on = true ∨ 0 < acc.length)) ∨ (N : Int) - acc.length < (n : Int) then ([], 0, 4) else bdc b N d t1 (acc ++ List.replicate n on) (!on))) := by
      intro hk
      by_cases c2 : (n : Int) > (N : Int) - (acc.length : Int)
      · rw [decide_eq_true c2, if_pos (.inr c2)]
        exact bad
      · rw [decide_eq_false c2, if_neg (by rintro (⟨e, hc⟩ | e); exact hk ⟨by omega, hc⟩; exact c2 e)]
        refine Ev.succ ?_
        simp only [bitset_Decode.j1]
        refine Ev.neg (by decide) ?_
        rw [w64n n (by omega)]
        refine idec_l1 b t1 N hN on n _ n 0 acc (by omega) (by omega) (by omega) ?_
        exact ih t1 (acc ++ List.replicate n on) (!on) (fuelB_step hf h1 hk) (by rw [List.length_append, List.length_replicate]; omega)
    by_cases c1 : (n : Int) = 0
    · refine Ev.pos c1 ?_
      by_cases c3 : on = true
      · refine Ev.pos c3 ?_
        rw [if_pos (.inl ⟨c1, .inl c3⟩)]
        exact bad
      · refine Ev.neg c3 ?_
        by_cases c4 : 0 < acc.length
        · refine Ev.pos (by omega) ?_
          rw [if_pos (.inl ⟨c1, .inr c4⟩)]
          exact bad
        · refine Ev.neg (by omega) ?_
          exact main (by rintro ⟨_, h | h⟩; exact c3 h; exact c4 h)
    · refine Ev.neg c1 ?_
      exact main (by rintro ⟨h, _⟩; omega)
def bdR (b : List Int) (o : Int) : Int × List Int × Int × Int := ((bdec b o).1, wof (bdec b o).1.toNat (fun i => (bdec b o).2.1.getD i false), (bdec b o).2.2.1, (bdec b o).2.2.2)
theorem bdR_bad {b : List Int} {o e : Int} (h : bdec b o = (0, [], 0, e)) : bdR b o = (0, [], 0, e) := by
  unfold bdR
  rw [h]
  simp [wof, wofN, wc]
/-- In one form: resD of the rounds is what bdR says. -/
theorem resD_bdR (b : List Int) (hb : ∀ x ∈ b, 0 ≤ x ∧ x < 256) (o : Int) (c0 : (vdec b o).2.2 = 0) (c1 : ¬ (vdec b o).1 > 1048576) : resD (vdec b o).1.toNat (bdc b (vdec b o).1.toNat ((vdec b o).1.toNat + 1) (vdec b o).2.1 [] false) = bdR b o := by
  obtain ⟨n, a, rfl, e1, hn, e2, _, _⟩ := b_vdec_ok hb c0
  have hd : bdec b (a : Int) = if (bdc b (vdec b (a : Int)).1.toNat ((vdec b (a : Int)).1.toNat + 1) (vdec b (a : Int)).2.1 [] false).2.2 = 0 then
      ((vdec b (a : Int)).1, (bdc b (vdec b (a : Int)).1.toNat ((vdec b (a : Int)).1.toNat + 1) (vdec b (a : Int)).2.1 [] false).1, (bdc b (vdec b (a : Int)).1.toNat ((vdec b (a : Int)).1.toNat + 1) (vdec b (a : Int)).2.1 [] false).2.1, 0)
    else (0, [], 0, (bdc b (vdec b (a : Int)).1.toNat ((vdec b (a : Int)).1.toNat + 1) (vdec b (a : Int)).2.1 [] false).2.2) := by
    conv => lhs; unfold bdec
    rw [if_pos c0, if_neg c1]
  have hok := fun h => bdec_ok hb (o := (a : Int)) h
  unfold bdR
  rw [hd] at hok ⊢
  rw [e1] at hok ⊢
  rw [Int.toNat_natCast] at hok ⊢
  obtain ⟨x, hx⟩ : ∃ x, x = bdc b n (n + 1) (vdec b (a : Int)).2.1 [] false := ⟨_, rfl⟩
  rw [← hx] at hok ⊢
  unfold resD
  by_cases c : x.2.2 = 0
  · rw [if_pos c] at hok
    rw [if_pos c, if_pos c]
    obtain ⟨n', a2, a', q1, q2, q3, q4, _⟩ := hok rfl
    simp only at q2 q4
    have : n' = n := by omega
    subst this
    simp only [Int.toNat_natCast]
    rw [← q4]
    rfl
  · rw [if_neg c, if_neg c]
    simp [wof, wofN, wc]
theorem idec_ev (b : List Int) (hb : ∀ x ∈ b, 0 ≤ x ∧ x < 256) (hlen : b.length < 4611686018427387904) (o : Int) : Ev (fun k => bitset_Decode.f k b o) (bdR b o) := by
  unfold bitset_Decode.f
  refine Ev.bind (dec_ev b hb hlen o) ?_
  by_cases c0 : (vdec b o).2.2 = 0
  rotate_left
  · refine Ev.neg c0 ?_
    exact Ev.eq (Ev.now _) (bdR_bad (by unfold bdec; rw [if_neg c0])).symm
  refine Ev.pos c0 ?_
  by_cases c1 : (vdec b o).1 > 1048576
  · refine Ev.pos c1 ?_
    exact Ev.eq (Ev.now _) (bdR_bad (by unfold bdec; rw [if_pos c0, if_pos c1])).symm
  refine Ev.neg c1 ?_
  rw [← resD_bdR b hb o c0 c1]
  obtain ⟨n, a, rfl, e1, hn, e2, _, _⟩ := b_vdec_ok hb c0
  rw [e1] at c1 ⊢
  rw [Int.toNat_natCast, w64n n (by omega)]
  refine Ev.bind0 (inew (n : Int)) ?_
  have hnn : nn (n : Int) = n := by unfold nn; rw [if_neg (by omega)]; rfl
  rw [hnn]
  exact idec_l0 b hb hlen n (by omega) (n + 1) _ [] false (fuelB_start n) (Nat.zero_le _)
theorem bdec_n (b : List Int) (hb : ∀ x ∈ b, 0 ≤ x ∧ x < 256) (o : Int) : (bdec b o).1.toNat ≤ 1048576 := by
  by_cases h : (bdec b o).2.2.2 = 0
  · obtain ⟨n, _, _, _, e, hn, _⟩ := bdec_ok hb h
    rw [e]; omega
  · unfold bdec at h ⊢
    split
    · rename_i c0
      rw [if_pos c0] at h
      split
      · simp
      · rename_i c1
        rw [if_neg c1] at h
        split
        · rename_i c2; rw [if_pos c2] at h; exact absurd rfl h
        · simp
    · simp

/-! ### Encode -/
theorem ienc3 (N : Nat) (ws : List Int) (hl : ws.length = wc N) (hw : wok ws) (hN : N ≤ 1048576) (hz : ∀ j, N ≤ j → gb ws j = false) : bitset_Encode.f (N : Int) ws = some (benc N (fl (gb ws) 0 N)) := by
  unfold bitset_Encode.f
  rw [if_pos ⟨wokB_of hw, by rw [hl]; unfold wc; omega, by omega, by omega⟩, elsI_cut (n := N) (by rw [hl]; exact wc_le N) hz, benc_eq]

/-! ### small -/
theorem wok_of_wf {l : List Int} (h : ∀ x ∈ l, (Lit.int .u64 x).wf = true) : wok l := fun x hx => wf_u64 (h x hx)
theorem sm_ev (a : Int) (l : List Int) (hw : wok l) (hl : l.length ≤ 9223372036854775807) : (∃ n : Nat, a = (n : Int) ∧ n ≤ 3000 ∧ l.length = wc n ∧ (∀ j, n ≤ j → gb l j = false) ∧ laminalaw03_small.f a l = some true) ∨ laminalaw03_small.f a l = some false := by
  unfold laminalaw03_small.f
  by_cases h : a ≤ 3000
  · rw [if_pos h]
    obtain ⟨b, e, i⟩ := r03val a l hw hl
    rw [e]
    cases b with
    | true =>
      left
      have hv := i.1 rfl
      have ha : 0 ≤ a := hv.1
      obtain ⟨n, rfl⟩ := Int.eq_ofNat_of_zero_le ha
      obtain ⟨h1, h2, h3⟩ := vset_iff.1 hv
      exact ⟨n, rfl, by omega, h2, h3, rfl⟩
    | false => right; rfl
  · rw [if_neg h]; right; rfl
theorem lives_ev : Ev (fun _ => laminalaw03_lives.f.bind fun t => some t) true := Ev.now _

/-! ### sizes and bytes of an encoding -/
theorem rnb_len : ∀ (l : List Bool) (on : Bool) (n : Nat), n + l.length < 18446744073709551616 → (rnb l on n).length ≤ 10 * (l.length + 1) := by
  intro l
  induction l with
  | nil => intro on n h; have := venc_len10 n (by simp at h; omega); simp only [rnb, List.length_nil]; omega
  | cons x l ih =>
    intro on n h
    simp only [List.length_cons] at h
    simp only [rnb, List.length_cons]
    split
    · have := ih on (n + 1) (by omega); omega
    · have h1 := ih x 1 (by omega)
      have h2 := venc_len10 n (by omega)
      rw [List.length_append]; omega
theorem benc_len (n : Nat) (l : List Bool) (hn : n ≤ 1048576) (hl : l.length = n) : (benc n l).length ≤ 20000000 := by
  unfold benc
  have h1 := venc_len10 n (by omega)
  have h2 := rnb_len l false 0 (by omega)
  rw [List.length_append]
  split
  · simp; omega
  · omega
theorem rnb_rng : ∀ (l : List Bool) (on : Bool) (n : Nat), ∀ x ∈ rnb l on n, 0 ≤ x ∧ x < 256 := by
  intro l
  induction l with
  | nil => intro on n x hx; exact venc_range n x hx
  | cons y l ih =>
    intro on n x hx
    simp only [rnb] at hx
    split at hx
    · exact ih _ _ x hx
    · rcases List.mem_append.1 hx with h | h
      · exact venc_range n x h
      · exact ih _ _ x h
theorem benc_rng (n : Nat) (l : List Bool) : ∀ x ∈ benc n l, 0 ≤ x ∧ x < 256 := by
  intro x hx
  unfold benc at hx
  rcases List.mem_append.1 hx with h | h
  · exact venc_range n x h
  · split at h
    · cases h
    · exact rnb_rng _ _ _ x h
theorem fl_words (N : Nat) (ws : List Int) (hw : wok ws) (hl : ws.length = wc N) (hN : N ≤ 1048576) (hz : ∀ j, N ≤ j → gb ws j = false) : wof N (fun i => (fl (gb ws) 0 N).getD i false) = ws := by
  conv => rhs; rw [vset_eq hw (vset_iff.2 ⟨hN, hl, hz⟩)]
  exact wof_congr (fun j hj => by rw [fl_get (gb ws) N 0 j hj, Nat.zero_add])
theorem fl_wof (l : List Bool) : fl (gb (wof l.length (fun i => l.getD i false))) 0 l.length = l := by
  conv => rhs; rw [fl_of l]
  exact fl_congr _ _ (fun i _ hi => by rw [gb_wof, decide_eq_true (by omega), Bool.true_and])

theorem BitsetRoundTrip : laminalaw03_BitsetRoundTrip.Pure := by
  intro a l x y hok hx hx8 hy hy8
  obtain ⟨_, hl, hw⟩ := hok
  simp only at hl hw
  obtain ⟨hxl, hxw⟩ := hx
  obtain ⟨hyl, hyw⟩ := hy
  have hwk := wok_of_wf hw
  refine Ev.rounds (g := fun k => laminalaw03_BitsetRoundTrip.f k a l x y) ?_
  unfold laminalaw03_BitsetRoundTrip.f
  have bad : Ev (fun k => laminalaw03_BitsetRoundTrip.j0 k x y true a l) true := by
    refine Ev.succ ?_
    simp only [laminalaw03_BitsetRoundTrip.j0]
    refine Ev.pos (by simp) ?_
    exact lives_ev
  rcases sm_ev a l hwk hl with ⟨n, rfl, hn, h1, h2, e⟩ | e
  rotate_left
  · refine Ev.bind0 e ?_
    refine Ev.neg (by decide) ?_
    exact bad
  refine Ev.bind0 e ?_
  refine Ev.pos rfl ?_
  by_cases c : (x.length : Int) > 100
  · refine Ev.pos c ?_; exact bad
  refine Ev.neg c ?_
  by_cases c2 : (y.length : Int) > 100
  · rw [decide_eq_true c2]; exact bad
  rw [decide_eq_false c2]
  have hxb := wf_u8s hxw
  have hyb := wf_u8s hyw
  have hN : n ≤ 1048576 := by omega
  obtain ⟨bs, hbs⟩ : ∃ bs, bs = fl (gb l) 0 n := ⟨_, rfl⟩
  have hbl : bs.length = n := by rw [hbs, fl_len]
  have henc := ienc3 n l h1 hwk hN h2
  rw [← hbs] at henc
  have hlen := benc_len n bs hN hbl
  have hrng := benc_rng n bs
  have hfw := fl_words n l hwk h1 hN h2
  rw [← hbs] at hfw
  have hdrop : (x ++ benc n bs ++ y).drop x.length = benc n bs ++ y := by rw [List.append_assoc, List.drop_left]
  have hde := bdec_enc (b := x ++ benc n bs ++ y) (R := y) (o := x.length) hN hbl (by rw [List.length_append, List.length_append]; omega) hdrop
  obtain ⟨bb, hbb⟩ : ∃ bb, bb = benc n bs := ⟨_, rfl⟩
  rw [← hbb] at henc hlen hrng hde
  have hall : ∀ z ∈ x ++ bb ++ y, 0 ≤ z ∧ z < 256 := by
    intro z hz
    rcases List.mem_append.1 hz with h | h
    · rcases List.mem_append.1 h with h | h
      · exact hxb z h
      · exact hrng z h
    · exact hyb z h
  have hdR : bdR (x ++ bb ++ y) (x.length : Int) = ((n : Int), l, ((x.length + bb.length : Nat) : Int), 0) := by
    unfold bdR
    rw [hde]
    simp only [Int.toNat_natCast]
    rw [hfw]
  refine Ev.succ ?_
  simp only [laminalaw03_BitsetRoundTrip.j0]
  refine Ev.neg (by decide) ?_
  refine Ev.bind0 henc ?_
  simp only [Option.bind_some, List.nil_append]
  refine Ev.pos (by simp; omega) ?_
  refine Ev.pos (by omega) ?_
  refine Ev.pos (by rw [List.length_append]; omega) ?_
  refine Ev.bind (idec_ev _ hall (by rw [List.length_append, List.length_append]; omega) _) ?_
  rw [hdR]
  simp only
  refine Ev.pos (by simp) ?_
  refine Ev.pos (by rw [w64 _ (by omega) (by omega)]; omega) ?_
  refine Ev.bind (req_ev _ l (by rw [h1]; unfold wc; omega)) ?_
  refine Ev.succ ?_
  simp only [laminalaw03_BitsetRoundTrip.j1]
  refine Ev.neg (by decide) ?_
  refine Ev.bind (idec_ev y hyb (by omega) 0) ?_
  have good : ∀ (t e : Int) (u : Int) (us : List Int), e ≠ 0 → Ev (fun k => laminalaw03_BitsetRoundTrip.j2 k y t e false u us) true := by
    intro t e u us he
    refine Ev.succ ?_
    simp only [laminalaw03_BitsetRoundTrip.j2]
    refine Ev.neg (by decide) ?_
    refine Ev.neg he ?_
    exact lives_ev
  by_cases c3 : (bdR y 0).2.2.2 = 0
  rotate_left
  · refine Ev.neg c3 ?_
    exact good _ _ _ _ c3
  refine Ev.pos c3 ?_
  obtain ⟨m, p, p', q1, q2, q3, q4, q5, q6, q7, q8⟩ := bdec_ok hyb (o := 0) c3
  obtain ⟨us, hus⟩ : ∃ us, us = (bdec y 0).2.1 := ⟨_, rfl⟩
  have hp : p = 0 := by omega
  subst hp
  rw [← hus] at q4 q7 q8
  have hR : bdR y 0 = ((m : Int), wof m (fun i => us.getD i false), (p' : Int), 0) := by
    have h3 : (bdec y 0).2.2.2 = 0 := c3
    unfold bdR
    rw [q2, q5, h3, ← hus, Int.toNat_natCast]
  rw [hR]
  simp only
  refine Ev.neg (by omega) ?_
  refine Ev.neg (by omega) ?_
  obtain ⟨bv, ev, iv⟩ := r03val (m : Int) (wof m (fun i => us.getD i false)) (wof_wok _ _) (by rw [wof_length]; unfold wc; omega)
  have hbv : bv = true := iv.2 (vset_wof m _ q3)
  subst hbv
  refine Ev.bind0 ev ?_
  refine Ev.succ ?_
  simp only [laminalaw03_BitsetRoundTrip.j2]
  refine Ev.neg (by decide) ?_
  by_cases c4 : (m : Int) > 3000
  · refine Ev.pos c4 ?_
    exact lives_ev
  refine Ev.neg c4 ?_
  have hen := ienc3 m (wof m (fun i => us.getD i false)) (wof_length _ _) (wof_wok _ _) q3 (fun j hj => by rw [gb_wof, decide_eq_false (by omega), Bool.false_and])
  have hfl : fl (gb (wof m (fun i => us.getD i false))) 0 m = us := by
    have := fl_wof us
    rw [q4] at this
    exact this
  rw [hfl] at hen
  refine Ev.bind0 hen ?_
  refine Ev.pos (by omega) ?_
  refine Ev.pos (by omega) ?_
  have htake : y.take p' = benc m us := by
    rw [List.drop_zero] at q8
    rw [Nat.zero_add] at q7
    rw [q7]
    conv => lhs; rw [q8]
    rw [List.take_left]
  rw [Int.toNat_natCast, htake]
  refine Ev.pos rfl ?_
  exact lives_ev

end Go.Proofs.YtijgbhbdmnhanaaDoor.Pure
