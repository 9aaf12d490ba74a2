/- laminalaw03.BitsetOperations returns true for all its arguments (the set operations equal the reference), the table of math/bits tied to the program's text. Conditions: none beyond the row's own (slices of at most 2^47 - 4096 bytes). -/
import Derived.Test.YtijgbhbdmnhanaaDoorStBitsetOperations
import Derived.Test.YtijgbhbdmnhanaaDoorUM01
import Derived.Test.YtijgbhbdmnhanaaDoorUM02
import Derived.Test.YtijgbhbdmnhanaaDoorUM03
import Derived.Test.YtijgbhbdmnhanaaDoorUM08
import Derived.Test.YtijgbhbdmnhanaaDoorUM11
import Derived.Test.YtijgbhbdmnhanaaDoorUM12
import Derived.Test.YtijgbhbdmnhanaaDoorUM13
import Derived.Test.YtijgbhbdmnhanaaDoorUM15
import Derived.Test.YtijgbhbdmnhanaaDoorUM16
import Derived.Test.YtijgbhbdmnhanaaDoorUM17
set_option linter.unusedVariables false
set_option linter.unusedSimpArgs false
namespace Go.Proofs.YtijgbhbdmnhanaaDoor.Pure
open Go Go.RowKit Go.Proofs.YtijgbhbdmnhanaaDoor.QBitsetOperations Go.Proofs.YtijgbhbdmnhanaaDoorW.PrintWords Go.Proofs.YtijgbhbdmnhanaaDoorW.PrintLast Go.Proofs.YtijgbhbdmnhanaaDoorM

/-! ### the reference's bitset functions -/
theorem tdiv64 (i : Nat) (h : i < 9223372036854775808) : wrap64 (Int.tdiv (i : Int) 64) = ((i / 64 : Nat) : Int) := by
  rw [Int.tdiv_eq_ediv_of_nonneg (by omega), w64 _ (by omega) (by omega)]; omega
theorem tmod64 (i : Nat) : Int.tmod (i : Int) 64 = ((i % 64 : Nat) : Int) := by
  rw [Int.tmod_eq_emod_of_nonneg (by omega)]; omega
theorem utmod64 (i : Nat) : IntKind.u64.wrap (Int.tmod (i : Int) 64) = ((i % 64 : Nat) : Int) := by
  rw [tmod64]; exact wraps_u64 _ (by omega) (by omega)
theorem pow_cast0 (t : Nat) : ((2 ^ t : Nat) : Int) = 2 ^ t := by simp
theorem shl1 (r : Nat) (hr : r < 64) : shl .u64 1 (r : Int) = ((2 ^ r : Nat) : Int) := by
  have h := pow_lt64 r hr
  have h3 : ∀ p : Nat, p < 2 ^ 64 → IntKind.u64.wrap (p : Int) = (p : Int) := fun p hp => wraps_u64 _ (by omega) (by omega)
  unfold shl
  rw [show min ((r : Int).toNat) IntKind.u64.bits = r by simp [IntKind.bits]; omega, Int.one_mul, ← pow_cast0]
  exact h3 _ h
theorem bit_one (y : Int) (h0 : 0 ≤ y) (h1 : y < 18446744073709551616) (r : Nat) (hr : r < 64) : (Go.bits .and .u64 (shr .u64 y (r : Int)) 1 == 1) = y.toNat.testBit r := by
  obtain ⟨m, rfl⟩ := Int.eq_ofNat_of_zero_le h0
  unfold shr
  rw [show min ((r : Int).toNat) IntKind.u64.bits = r by simp [IntKind.bits]; omega, ← pow_cast0, ← Int.natCast_ediv, Int.toNat_natCast, Nat.testBit_eq_decide_div_mod_eq]
  have hqm := Nat.div_le_self m (2 ^ r)
  generalize m / 2 ^ r = q at hqm ⊢
  rw [and_one _ (by omega) (by omega)]
  by_cases hq : q % 2 = 1
  · rw [decide_eq_true hq]; simp; omega
  · rw [decide_eq_false hq]; simp; omega
theorem or_shl (ws : List Int) (hw : wok ws) (i : Nat) : Go.bits .or .u64 (ws.getD (i / 64) 0) (shl .u64 1 (((i % 64 : Nat)) : Int)) = (((ws.getD (i / 64) 0).toNat ||| 2 ^ (i % 64) : Nat) : Int) := by
  have h := wok_get hw (i / 64)
  rw [shl1 _ (Nat.mod_lt _ (by decide))]
  obtain ⟨m, hm⟩ := Int.eq_ofNat_of_zero_le h.1
  rw [hm] at h ⊢
  rw [Int.toNat_natCast]
  exact or_nat m _ (by omega) (pow_lt64 _ (Nat.mod_lt _ (by decide)))
theorem r03con (n i : Nat) (ws : List Int) (hl : ws.length = wc n) (hw : wok ws) (hn : n < 9223372036854775808) : laminaref03_Contains.f (n : Int) ws (i : Int) = some (decide (i < n) && gb ws i) := by
  unfold laminaref03_Contains.f
  rw [if_pos (by omega)]
  by_cases h : i < n
  · have hq : i / 64 < ws.length := by rw [hl]; unfold wc; omega
    rw [if_pos (by omega), tdiv64 i (by omega), utmod64, if_pos (by omega), if_pos (by omega), if_pos (by omega), rd_nat]
    have h2 := wok_get hw (i / 64)
    rw [bit_one _ h2.1 h2.2 _ (Nat.mod_lt _ (by decide)), decide_eq_true h]
    simp [gb]
  · rw [if_neg (by omega), decide_eq_false h]; rfl
theorem r03con_neg (n : Int) (i : Int) (ws : List Int) (hi : i < 0) : laminaref03_Contains.f n ws i = some false := by
  unfold laminaref03_Contains.f
  rw [if_neg (by omega)]

theorem r03new (n : Nat) (hn : n ≤ 1048576) : laminaref03_New.f (n : Int) = some ((n : Int), List.replicate (wc n) 0) := by
  unfold laminaref03_New.f
  rw [if_neg (by omega), if_neg (by omega)]
  have e : wrap64 (Int.tdiv (wrap64 ((n : Int) + 63)) 64) = ((wc n : Nat) : Int) := by
    rw [w64 ((n : Int) + 63) (by omega) (by omega), show (n : Int) + 63 = ((n + 63 : Nat) : Int) by omega, tdiv64 _ (by omega)]; rfl
  rw [e, if_pos (by omega), if_pos (by unfold wc; omega), Int.toNat_natCast]
theorem r03build_l0 (bs : List Bool) (f : Nat → Bool) (hf : ∀ i, i < bs.length → bs.getD i false = f i) (hn : bs.length ≤ 1048576) : ∀ (d i : Nat), i + d = bs.length →
    Ev (fun k => laminaref03_build.l0 k bs (i : Int) (bs.length : Int) (wofN (wc bs.length) f i)) ((bs.length : Int), wof bs.length f) := by
  intro d
  induction d with
  | zero =>
    intro i hi
    refine Ev.succ ?_
    simp only [laminaref03_build.l0]
    refine Ev.neg (by omega) ?_
    refine Ev.eq (Ev.now _) ?_
    rw [show i = bs.length by omega]; rfl
  | succ d ih =>
    intro i hi
    have ih2 := ih (i + 1) (by omega)
    have hq : i / 64 < (wofN (wc bs.length) f i).length := by rw [wofN_length]; unfold wc; omega
    have hrd : rdOf false bs (i : Int) = f i := by rw [← hf i (by omega)]; simp [rdOf]
    refine Ev.succ ?_
    simp only [laminaref03_build.l0, w64_add1 i (by omega), tdiv64 i (by omega), utmod64, hrd]
    refine Ev.pos (by omega) ?_
    refine Ev.pos (by omega) ?_
    simp only [wofN] at ih2
    by_cases h : f i = true
    · rw [if_pos h] at ih2
      refine Ev.pos h ?_
      refine Ev.pos (by omega) ?_
      refine Ev.pos (by omega) ?_
      refine Ev.pos (by omega) ?_
      rw [Int.toNat_natCast, rd_nat, or_shl _ (wofN_wok _ _ _)]
      exact ih2
    · rw [if_neg h] at ih2
      refine Ev.neg h ?_
      exact ih2
theorem r03build (bs : List Bool) (f : Nat → Bool) (hf : ∀ i, i < bs.length → bs.getD i false = f i) (hn : bs.length ≤ 1048576) : Ev (fun k => laminaref03_build.f k bs) ((bs.length : Int), wof bs.length f) := by
  unfold laminaref03_build.f
  refine Ev.bind0 (r03new _ hn) ?_
  exact r03build_l0 bs f hf hn bs.length 0 (by omega)

theorem range_map_set (n i : Nat) (f : Nat → Bool) (l : List Bool) (hl : l.length = n) (h : ∀ j, j < i → l.getD j false = f j) (hi : i < n) : ∀ j, j < i + 1 → (l.set i (f i)).getD j false = f j := by
  intro j hj
  by_cases e : j = i
  · subst e; simp [List.getD_eq_getElem?_getD, List.getElem?_set_self (show j < l.length by omega)]
  · rw [List.getD_eq_getElem?_getD, List.getElem?_set_ne (by omega), ← List.getD_eq_getElem?_getD]; exact h j (by omega)

/-! ### valid sets -/
def vset (a : Int) (ws : List Int) : Prop := 0 ≤ a ∧ a ≤ 1048576 ∧ ws.length = wc a.toNat ∧ ∀ j, a.toNat ≤ j → gb ws j = false
theorem last_word {ws : List Int} (hw : wok ws) {n : Nat} (hl : ws.length = wc n) (hn : n % 64 ≠ 0) :
    ((ws.getD (n / 64) 0).toNat / 2 ^ (n % 64) = 0) ↔ ∀ j, n ≤ j → gb ws j = false := by
  have hlt : n / 64 < ws.length := by rw [hl]; unfold wc; omega
  have hp := Nat.two_pow_pos (n % 64)
  constructor
  · intro h j hj
    by_cases hq : j / 64 = n / 64
    · unfold gb
      rw [hq]
      have h1 : (ws.getD (n / 64) 0).toNat < 2 ^ (n % 64) := by
        rcases Nat.div_eq_zero_iff.1 h with h2 | h2
        · omega
        · exact h2
      exact Nat.testBit_lt_two_pow (Nat.lt_of_lt_of_le h1 (Nat.pow_le_pow_right (by decide) (by omega)))
    · exact gb_out (by rw [hl]; unfold wc; omega)
  · intro h
    refine Nat.div_eq_of_lt (Nat.lt_pow_two_of_testBit _ (fun i hi => ?_))
    by_cases h64 : i < 64
    · have := h (64 * (n / 64) + i) (by omega)
      unfold gb at this
      rw [show (64 * (n / 64) + i) / 64 = n / 64 by omega, show (64 * (n / 64) + i) % 64 = i by omega] at this
      exact this
    · have h2 := wok_get hw (n / 64)
      have hp2 : 2 ^ 64 ≤ 2 ^ i := Nat.pow_le_pow_right (by decide) (by omega)
      exact Nat.testBit_lt_two_pow (by omega)
theorem vset_iff {n : Nat} {ws : List Int} : vset (n : Int) ws ↔ n ≤ 1048576 ∧ ws.length = wc n ∧ ∀ j, n ≤ j → gb ws j = false := by
  unfold vset
  rw [Int.toNat_natCast]
  constructor
  · rintro ⟨_, h2, h3, h4⟩; exact ⟨by omega, h3, h4⟩
  · rintro ⟨h2, h3, h4⟩; exact ⟨by omega, by omega, h3, h4⟩
theorem vset_wof (n : Nat) (f : Nat → Bool) (hn : n ≤ 1048576) : vset (n : Int) (wof n f) :=
  vset_iff.2 ⟨hn, wof_length n f, fun j hj => by rw [gb_wof, decide_eq_false (by omega), Bool.false_and]⟩
theorem vset_eq {n : Nat} {ws : List Int} (hw : wok ws) (h : vset (n : Int) ws) : ws = wof n (gb ws) := by
  obtain ⟨_, h2, h3⟩ := vset_iff.1 h
  refine wof_eq h2 hw (fun i => ?_)
  by_cases hi : i < n
  · rw [decide_eq_true hi, Bool.true_and]
  · rw [decide_eq_false hi, Bool.false_and, h3 i (by omega)]
theorem r03val (a : Int) (ws : List Int) (hw : wok ws) (hl : ws.length ≤ 9223372036854775807) : ∃ b, laminaref03_Valid.f a ws = some b ∧ (b = true ↔ vset a ws) := by
  unfold laminaref03_Valid.f
  by_cases h1 : a < 0
  · exact ⟨false, by rw [if_pos h1], by simp [vset]; omega⟩
  by_cases h2 : a > 1048576
  · exact ⟨false, by rw [if_neg h1, if_pos h2], by simp [vset]; omega⟩
  obtain ⟨n, rfl⟩ := Int.eq_ofNat_of_zero_le (show 0 ≤ a by omega)
  rw [if_neg h1, if_neg h2, w64 ((n : Int) + 63) (by omega) (by omega), show (n : Int) + 63 = ((n + 63 : Nat) : Int) by omega, tdiv64 _ (by omega), tmod64]
  have hwc : (n + 63) / 64 = wc n := rfl
  by_cases h3 : ws.length = wc n
  · rw [if_pos (by omega)]
    by_cases h4 : n % 64 = 0
    · refine ⟨true, by rw [if_pos (by omega)], iff_of_true rfl (vset_iff.2 ⟨by omega, h3, fun j hj => gb_out (by rw [h3]; unfold wc; omega)⟩)⟩
    · have e : wrap64 ((ws.length : Int) - 1) = ((n / 64 : Nat) : Int) := by
        rw [w64 _ (by omega) (by omega), h3]; unfold wc; omega
      have hq : n / 64 < ws.length := by rw [h3]; unfold wc; omega
      rw [if_neg (by omega), e, if_pos (by omega), if_pos (by omega), wraps_u64 ((n % 64 : Nat) : Int) (by omega) (by omega), if_pos (by omega), rd_nat]
      refine ⟨_, rfl, ?_⟩
      have hg := wok_get hw (n / 64)
      have hlw := last_word hw h3 h4
      obtain ⟨m, hm⟩ := Int.eq_ofNat_of_zero_le hg.1
      rw [hm] at hlw ⊢
      rw [Int.toNat_natCast] at hlw
      unfold shr
      rw [show min (((n % 64 : Nat) : Int).toNat) IntKind.u64.bits = n % 64 by simp [IntKind.bits]; omega, ← pow_cast0, ← Int.natCast_ediv]
      rw [vset_iff]
      generalize m / 2 ^ (n % 64) = q at hlw ⊢
      constructor
      · intro h; exact ⟨by omega, h3, hlw.1 (by simpa using h)⟩
      · rintro ⟨_, _, h⟩; have := hlw.2 h; simpa using this
  · refine ⟨false, by rw [if_neg (by omega)], ?_⟩
    rw [vset_iff]
    exact iff_of_false (by simp) (fun h => h3 h.2.1)

/-! ### Of, New -/
def nn (n : Int) : Nat := if n < 0 ∨ n > 1048576 then 0 else n.toNat
theorem nn_le (n : Int) : nn n ≤ 1048576 := by unfold nn; split <;> omega
theorem wc_words (n : Nat) (hn : n ≤ 1048576) : wrap64 (Int.tdiv (wrap64 ((n : Int) + 63)) 64) = ((wc n : Nat) : Int) := by
  rw [w64 ((n : Int) + 63) (by omega) (by omega), Int.tdiv_eq_ediv_of_nonneg (by omega), w64 _ (by omega) (by omega)]
  unfold wc; omega
theorem inew (n : Int) : bitset_New.f n = some ((nn n : Int), List.replicate (wc (nn n)) 0) := by
  have hw : ∀ m : Nat, m ≤ 1048576 → wc m ≤ 16384 + 1 := fun m h => by unfold wc; omega
  have c0 : bitset_wordCount.f 0 = some 0 := by decide +kernel
  unfold bitset_New.f nn
  by_cases h1 : n < 0
  · rw [if_pos h1, if_pos (.inl h1), c0]; rfl
  · rw [if_neg h1]
    by_cases h2 : n > 1048576
    · rw [if_pos h2, if_pos (.inr h2), c0]; rfl
    · rw [if_neg h2, if_neg (by omega)]
      obtain ⟨m, rfl⟩ := Int.eq_ofNat_of_zero_le (show 0 ≤ n by omega)
      have := hw m (by omega)
      unfold bitset_wordCount.f
      rw [wc_words m (by omega)]
      simp only [Option.bind_some]
      rw [if_pos (by omega), if_pos (by omega), Int.toNat_natCast, Int.toNat_natCast]
/-! ### Equal -/
theorem req_l0 (n : Int) (ws : List Int) (hl : ws.length ≤ 1000000) : ∀ (d i : Nat), i + d = ws.length → Ev (fun k => laminaref03_Equal.l0 k (i : Int) n ws n ws) true := by
  intro d
  induction d with
  | zero =>
    intro i h
    refine Ev.succ ?_
    simp only [laminaref03_Equal.l0]
    refine Ev.neg (by omega) ?_
    refine Ev.succ ?_
    simp only [laminaref03_Equal.j2]
    exact Ev.neg (by decide) (Ev.now _)
  | succ d ih =>
    intro i h
    refine Ev.succ ?_
    simp only [laminaref03_Equal.l0]
    refine Ev.pos (by omega) ?_
    rw [decide_eq_true (show (i : Int) < (ws.length : Int) by omega)]
    refine Ev.succ ?_
    simp only [laminaref03_Equal.j2]
    refine Ev.pos (by simp) ?_
    refine Ev.pos (by omega) ?_
    refine Ev.pos (by omega) ?_
    refine Ev.pos (by omega) ?_
    refine Ev.pos (by simp) ?_
    rw [w64_add1 i (by omega)]
    exact ih (i + 1) (by omega)
theorem req_ev (n : Int) (ws : List Int) (hl : ws.length ≤ 1000000) : Ev (fun k => laminaref03_Equal.f k n ws n ws) true := by
  unfold laminaref03_Equal.f
  refine Ev.pos (by simp) ?_
  have e : ((ws.length : Int) != (ws.length : Int)) = false := by simp
  rw [e]
  refine Ev.succ ?_
  simp only [laminaref03_Equal.j0]
  refine Ev.neg (by decide) ?_
  exact req_l0 n ws hl ws.length 0 (by omega)
theorem elsI_succ (ws : List Int) (i : Nat) : elsI ws (i + 1) = if gb ws i = true then elsI ws i ++ [(i : Int)] else elsI ws i := by
  unfold elsI
  rw [els_split i 0 1, Nat.zero_add]
  by_cases h : gb ws i = true
  · rw [if_pos h]
    have : els (gb ws) i 1 = [i] := by simp [els, h]
    rw [this, List.map_append]; rfl
  · rw [if_neg h]
    have : els (gb ws) i 1 = [] := by simp [els, h]
    rw [this, List.append_nil]
theorem elsI_cut {ws : List Int} {n m : Nat} (h : n ≤ m) (hz : ∀ j, n ≤ j → gb ws j = false) : elsI ws m = elsI ws n := by
  unfold elsI
  obtain ⟨c, rfl⟩ : ∃ c, m = n + c := ⟨m - n, by omega⟩
  rw [els_split, Nat.zero_add, els_none c n (fun i h1 _ => hz i h1), List.append_nil]
theorem elsI_len (ws : List Int) (n : Nat) : (elsI ws n).length ≤ n := by unfold elsI; rw [List.length_map]; exact els_len_le n 0

/-! ### words, one by one -/
theorem set_fill (l : List Int) (i : Nat) (hi : i < l.length) (n : Nat) (hn : n = l.length) : (l.take i ++ List.replicate (n - i) (0 : Int)).set i (l.getD i 0) = l.take (i + 1) ++ List.replicate (n - (i + 1)) 0 := by
  subst hn
  rw [List.set_append_right _ _ (by simp; omega), List.length_take, Nat.min_eq_left (by omega), Nat.sub_self, show l.length - i = (l.length - (i + 1)) + 1 by omega, List.replicate_succ, List.set_cons_zero,
    List.getD_eq_getElem?_getD, List.getElem?_eq_getElem hi, Option.getD_some, List.take_succ_eq_append_getElem hi, List.append_assoc, List.singleton_append]
def gl (G : Nat → Int) (m : Nat) : List Int := (List.range m).map G
theorem gl_len (G : Nat → Int) (m : Nat) : (gl G m).length = m := by simp [gl]
theorem gl_get (G : Nat → Int) (m i : Nat) (h : i < m) : (gl G m).getD i 0 = G i := by
  unfold gl; rw [List.getD_eq_getElem?_getD, List.getElem?_map, List.getElem?_range h]; rfl
theorem gl_wok {G : Nat → Int} {m : Nat} (h : ∀ i, i < m → 0 ≤ G i ∧ G i < 18446744073709551616) : wok (gl G m) := by
  intro x hx
  simp only [gl, List.mem_map, List.mem_range] at hx
  obtain ⟨i, hi, rfl⟩ := hx
  exact h i hi
theorem gb_gl {G : Nat → Int} {m : Nat} {f : Nat → Bool} (h : ∀ i r, i < m → r < 64 → (G i).toNat.testBit r = f (64 * i + r)) : ∀ j, j < 64 * m → gb (gl G m) j = f j := by
  intro j hj
  unfold gb
  rw [gl_get G m (j / 64) (by omega), h (j / 64) (j % 64) (by omega) (Nat.mod_lt _ (by decide)), show 64 * (j / 64) + j % 64 = j by omega]
theorem gb_word (ws : List Int) (i r : Nat) (hr : r < 64) : gb ws (64 * i + r) = (ws.getD i 0).toNat.testBit r := by
  unfold gb; rw [show (64 * i + r) / 64 = i by omega, show (64 * i + r) % 64 = r by omega]
theorem comb1 (a : Int) (ws : List Int) (i : Nat) : bitset_combine_1.f a ws (i : Int) = some (ws.getD i 0) := by
  unfold bitset_combine_1.f
  by_cases h : (i : Int) < (ws.length : Int)
  · rw [if_pos h, if_pos (by omega), rd_nat]
  · rw [if_neg h, List.getD_eq_getElem?_getD, List.getElem?_eq_none (by omega)]; rfl
theorem mx_self (n : Nat) : mx (n : Int) (n : Int) = (n : Int) := by unfold mx; split <;> rfl
theorem nn_nat (n : Nat) (h : n ≤ 1048576) : nn (n : Int) = n := by unfold nn; rw [if_neg (by omega)]; rfl
/-- The elements of a set that a sorted list gives. -/

theorem mx_nat (a b : Nat) : mx (a : Int) (b : Int) = ((max a b : Nat) : Int) := by unfold mx; split <;> omega

theorem comb_l0_61 (a b : Int) (wa wb : List Int) (m : Nat) (hm : m ≤ 1000000) (N0 : Int) (G : Nat → Int) (hG : ∀ i, i < m → bitset_And_1.f (wa.getD i 0) (wb.getD i 0) = some (G i)) : ∀ (d i : Nat), i + d = m →
    Ev (fun k => bitset_combine_61.l0 k (m : Int) (i : Int) a wa b wb N0 ((gl G m).take i ++ List.replicate (m - i) 0)) (N0, gl G m) := by
  have hl := gl_len G m
  intro d
  induction d with
  | zero =>
    intro i h
    refine Ev.succ ?_
    simp only [bitset_combine_61.l0]
    refine Ev.neg (by omega) ?_
    refine Ev.eq (Ev.now _) ?_
    rw [show m - i = 0 by omega, List.replicate_zero, List.append_nil, List.take_of_length_le (by omega)]
  | succ d ih =>
    intro i h
    refine Ev.succ ?_
    simp only [bitset_combine_61.l0]
    refine Ev.pos (by omega) ?_
    refine Ev.bind0 (comb1 a wa i) ?_
    refine Ev.bind0 (comb1 b wb i) ?_
    refine Ev.bind0 (hG i (by omega)) ?_
    refine Ev.pos (by omega) ?_
    refine Ev.pos (by simp; omega) ?_
    rw [Int.toNat_natCast, ← gl_get G m i (by omega), set_fill (gl G m) i (by omega) m (by omega), w64_add1 i (by omega)]
    exact ih (i + 1) (by omega)
theorem comb_61 (n : Nat) (hn : n ≤ 1048576) (wa wb : List Int) (G : Nat → Int) (hG : ∀ i, i < wc n → bitset_And_1.f (wa.getD i 0) (wb.getD i 0) = some (G i)) : Ev (fun k => bitset_combine_61.f k (n : Int) wa (n : Int) wb) ((n : Int), gl G (wc n)) := by
  unfold bitset_combine_61.f
  rw [mx_self]
  refine Ev.bind0 (inew (n : Int)) ?_
  rw [nn_nat n hn]
  simp only [List.length_replicate]
  have := comb_l0_61 (n : Int) (n : Int) wa wb (wc n) (by unfold wc; omega) (n : Int) G hG (wc n) 0 (by omega)
  rw [List.take_zero, List.nil_append, Nat.sub_zero] at this
  exact this

theorem comb_l0_64 (a b : Int) (wa wb : List Int) (m : Nat) (hm : m ≤ 1000000) (N0 : Int) (G : Nat → Int) (hG : ∀ i, i < m → bitset_Or_1.f (wa.getD i 0) (wb.getD i 0) = some (G i)) : ∀ (d i : Nat), i + d = m →
    Ev (fun k => bitset_combine_64.l0 k (m : Int) (i : Int) a wa b wb N0 ((gl G m).take i ++ List.replicate (m - i) 0)) (N0, gl G m) := by
  have hl := gl_len G m
  intro d
  induction d with
  | zero =>
    intro i h
    refine Ev.succ ?_
    simp only [bitset_combine_64.l0]
    refine Ev.neg (by omega) ?_
    refine Ev.eq (Ev.now _) ?_
    rw [show m - i = 0 by omega, List.replicate_zero, List.append_nil, List.take_of_length_le (by omega)]
  | succ d ih =>
    intro i h
    refine Ev.succ ?_
    simp only [bitset_combine_64.l0]
    refine Ev.pos (by omega) ?_
    refine Ev.bind0 (comb1 a wa i) ?_
    refine Ev.bind0 (comb1 b wb i) ?_
    refine Ev.bind0 (hG i (by omega)) ?_
    refine Ev.pos (by omega) ?_
    refine Ev.pos (by simp; omega) ?_
    rw [Int.toNat_natCast, ← gl_get G m i (by omega), set_fill (gl G m) i (by omega) m (by omega), w64_add1 i (by omega)]
    exact ih (i + 1) (by omega)
theorem comb_64 (n : Nat) (hn : n ≤ 1048576) (wa wb : List Int) (G : Nat → Int) (hG : ∀ i, i < wc n → bitset_Or_1.f (wa.getD i 0) (wb.getD i 0) = some (G i)) : Ev (fun k => bitset_combine_64.f k (n : Int) wa (n : Int) wb) ((n : Int), gl G (wc n)) := by
  unfold bitset_combine_64.f
  rw [mx_self]
  refine Ev.bind0 (inew (n : Int)) ?_
  rw [nn_nat n hn]
  simp only [List.length_replicate]
  have := comb_l0_64 (n : Int) (n : Int) wa wb (wc n) (by unfold wc; omega) (n : Int) G hG (wc n) 0 (by omega)
  rw [List.take_zero, List.nil_append, Nat.sub_zero] at this
  exact this

theorem comb_l0_66 (a b : Int) (wa wb : List Int) (m : Nat) (hm : m ≤ 1000000) (N0 : Int) (G : Nat → Int) (hG : ∀ i, i < m → bitset_AndNot_1.f (wa.getD i 0) (wb.getD i 0) = some (G i)) : ∀ (d i : Nat), i + d = m →
    Ev (fun k => bitset_combine_66.l0 k (m : Int) (i : Int) a wa b wb N0 ((gl G m).take i ++ List.replicate (m - i) 0)) (N0, gl G m) := by
  have hl := gl_len G m
  intro d
  induction d with
  | zero =>
    intro i h
    refine Ev.succ ?_
    simp only [bitset_combine_66.l0]
    refine Ev.neg (by omega) ?_
    refine Ev.eq (Ev.now _) ?_
    rw [show m - i = 0 by omega, List.replicate_zero, List.append_nil, List.take_of_length_le (by omega)]
  | succ d ih =>
    intro i h
    refine Ev.succ ?_
    simp only [bitset_combine_66.l0]
    refine Ev.pos (by omega) ?_
    refine Ev.bind0 (comb1 a wa i) ?_
    refine Ev.bind0 (comb1 b wb i) ?_
    refine Ev.bind0 (hG i (by omega)) ?_
    refine Ev.pos (by omega) ?_
    refine Ev.pos (by simp; omega) ?_
    rw [Int.toNat_natCast, ← gl_get G m i (by omega), set_fill (gl G m) i (by omega) m (by omega), w64_add1 i (by omega)]
    exact ih (i + 1) (by omega)
theorem comb_66 (n : Nat) (hn : n ≤ 1048576) (wa wb : List Int) (G : Nat → Int) (hG : ∀ i, i < wc n → bitset_AndNot_1.f (wa.getD i 0) (wb.getD i 0) = some (G i)) : Ev (fun k => bitset_combine_66.f k (n : Int) wa (n : Int) wb) ((n : Int), gl G (wc n)) := by
  unfold bitset_combine_66.f
  rw [mx_self]
  refine Ev.bind0 (inew (n : Int)) ?_
  rw [nn_nat n hn]
  simp only [List.length_replicate]
  have := comb_l0_66 (n : Int) (n : Int) wa wb (wc n) (by unfold wc; omega) (n : Int) G hG (wc n) 0 (by omega)
  rw [List.take_zero, List.nil_append, Nat.sub_zero] at this
  exact this

theorem comb_l0_68 (a b : Int) (wa wb : List Int) (m : Nat) (hm : m ≤ 1000000) (N0 : Int) (G : Nat → Int) (hG : ∀ i, i < m → bitset_Not_1.f (wa.getD i 0) (wb.getD i 0) = some (G i)) : ∀ (d i : Nat), i + d = m →
    Ev (fun k => bitset_combine_68.l0 k (m : Int) (i : Int) a wa b wb N0 ((gl G m).take i ++ List.replicate (m - i) 0)) (N0, gl G m) := by
  have hl := gl_len G m
  intro d
  induction d with
  | zero =>
    intro i h
    refine Ev.succ ?_
    simp only [bitset_combine_68.l0]
    refine Ev.neg (by omega) ?_
    refine Ev.eq (Ev.now _) ?_
    rw [show m - i = 0 by omega, List.replicate_zero, List.append_nil, List.take_of_length_le (by omega)]
  | succ d ih =>
    intro i h
    refine Ev.succ ?_
    simp only [bitset_combine_68.l0]
    refine Ev.pos (by omega) ?_
    refine Ev.bind0 (comb1 a wa i) ?_
    refine Ev.bind0 (comb1 b wb i) ?_
    refine Ev.bind0 (hG i (by omega)) ?_
    refine Ev.pos (by omega) ?_
    refine Ev.pos (by simp; omega) ?_
    rw [Int.toNat_natCast, ← gl_get G m i (by omega), set_fill (gl G m) i (by omega) m (by omega), w64_add1 i (by omega)]
    exact ih (i + 1) (by omega)
theorem comb_68 (n : Nat) (hn : n ≤ 1048576) (wa wb : List Int) (G : Nat → Int) (hG : ∀ i, i < wc n → bitset_Not_1.f (wa.getD i 0) (wb.getD i 0) = some (G i)) : Ev (fun k => bitset_combine_68.f k (n : Int) wa (n : Int) wb) ((n : Int), gl G (wc n)) := by
  unfold bitset_combine_68.f
  rw [mx_self]
  refine Ev.bind0 (inew (n : Int)) ?_
  rw [nn_nat n hn]
  simp only [List.length_replicate]
  have := comb_l0_68 (n : Int) (n : Int) wa wb (wc n) (by unfold wc; omega) (n : Int) G hG (wc n) 0 (by omega)
  rw [List.take_zero, List.nil_append, Nat.sub_zero] at this
  exact this

theorem combg_61 (na nb : Nat) (ha : na ≤ 1048576) (hb : nb ≤ 1048576) (wa wb : List Int) (G : Nat → Int) (hG : ∀ i, i < wc (max na nb) → bitset_And_1.f (wa.getD i 0) (wb.getD i 0) = some (G i)) : Ev (fun k => bitset_combine_61.f k (na : Int) wa (nb : Int) wb) (((max na nb : Nat) : Int), gl G (wc (max na nb))) := by
  have hm : mx (na : Int) (nb : Int) = ((max na nb : Nat) : Int) := mx_nat na nb
  have hmx : max na nb ≤ 1048576 := by omega
  unfold bitset_combine_61.f
  rw [hm]
  refine Ev.bind0 (inew ((max na nb : Nat) : Int)) ?_
  rw [nn_nat _ hmx]
  simp only [List.length_replicate]
  have := comb_l0_61 (na : Int) (nb : Int) wa wb (wc (max na nb)) (by unfold wc; omega) ((max na nb : Nat) : Int) G hG (wc (max na nb)) 0 (by omega)
  rw [List.take_zero, List.nil_append, Nat.sub_zero] at this
  exact this

theorem combg_64 (na nb : Nat) (ha : na ≤ 1048576) (hb : nb ≤ 1048576) (wa wb : List Int) (G : Nat → Int) (hG : ∀ i, i < wc (max na nb) → bitset_Or_1.f (wa.getD i 0) (wb.getD i 0) = some (G i)) : Ev (fun k => bitset_combine_64.f k (na : Int) wa (nb : Int) wb) (((max na nb : Nat) : Int), gl G (wc (max na nb))) := by
  have hm : mx (na : Int) (nb : Int) = ((max na nb : Nat) : Int) := mx_nat na nb
  have hmx : max na nb ≤ 1048576 := by omega
  unfold bitset_combine_64.f
  rw [hm]
  refine Ev.bind0 (inew ((max na nb : Nat) : Int)) ?_
  rw [nn_nat _ hmx]
  simp only [List.length_replicate]
  have := comb_l0_64 (na : Int) (nb : Int) wa wb (wc (max na nb)) (by unfold wc; omega) ((max na nb : Nat) : Int) G hG (wc (max na nb)) 0 (by omega)
  rw [List.take_zero, List.nil_append, Nat.sub_zero] at this
  exact this

theorem combg_66 (na nb : Nat) (ha : na ≤ 1048576) (hb : nb ≤ 1048576) (wa wb : List Int) (G : Nat → Int) (hG : ∀ i, i < wc (max na nb) → bitset_AndNot_1.f (wa.getD i 0) (wb.getD i 0) = some (G i)) : Ev (fun k => bitset_combine_66.f k (na : Int) wa (nb : Int) wb) (((max na nb : Nat) : Int), gl G (wc (max na nb))) := by
  have hm : mx (na : Int) (nb : Int) = ((max na nb : Nat) : Int) := mx_nat na nb
  have hmx : max na nb ≤ 1048576 := by omega
  unfold bitset_combine_66.f
  rw [hm]
  refine Ev.bind0 (inew ((max na nb : Nat) : Int)) ?_
  rw [nn_nat _ hmx]
  simp only [List.length_replicate]
  have := comb_l0_66 (na : Int) (nb : Int) wa wb (wc (max na nb)) (by unfold wc; omega) ((max na nb : Nat) : Int) G hG (wc (max na nb)) 0 (by omega)
  rw [List.take_zero, List.nil_append, Nat.sub_zero] at this
  exact this

/-! ### And, Or, AndNot, Not -/
theorem nat_of {x : Int} (h : 0 ≤ x ∧ x < 18446744073709551616) : ∃ n : Nat, x = (n : Int) ∧ n < 18446744073709551616 := ⟨x.toNat, by omega, by omega⟩
theorem xor_max (x : Nat) (hx : x < 18446744073709551616) : Go.bits .xor .u64 IntKind.u64.max (x : Int) = ((2 ^ 64 - (x + 1) : Nat) : Int) := by
  rw [bits_xor_comm, show IntKind.u64.max = 18446744073709551615 by rfl, xor_ones_u64 (x : Int) (by omega) (by omega)]; omega
theorem andNot_nat (x y : Nat) (hx : x < 18446744073709551616) (hy : y < 18446744073709551616) : Go.bits .andNot .u64 (x : Int) (y : Int) = ((x &&& (2 ^ 64 - (y + 1)) : Nat) : Int) := by
  have hx' : x % 2 ^ 64 = x := Nat.mod_eq_of_lt (by omega)
  have hy' : y % 2 ^ 64 = y := Nat.mod_eq_of_lt (by omega)
  have h3 : x &&& (2 ^ 64 - (y + 1)) ≤ x := Nat.and_le_left
  have e : (BitVec.ofNat 64 x &&& ~~~BitVec.ofNat 64 y : BitVec 64).toNat = x &&& (2 ^ 64 - (y + 1)) := by
    rw [BitVec.toNat_and, BitVec.toNat_not, BitVec.toNat_ofNat, BitVec.toNat_ofNat, hx', hy']
    congr 1
    omega
  simp only [Go.bits, IntKind.bits, BitVec.ofInt_natCast, wrap_u64]
  exact (congrArg (fun n : Nat => (n : Int) % 18446744073709551616) e).trans (by omega)
def band (n : Nat) (wa wb : List Int) : List Int := gl (fun i => (((wa.getD i 0).toNat &&& (wb.getD i 0).toNat : Nat) : Int)) (wc n)
def bor (n : Nat) (wa wb : List Int) : List Int := gl (fun i => (((wa.getD i 0).toNat ||| (wb.getD i 0).toNat : Nat) : Int)) (wc n)
def bandn (n : Nat) (wa wb : List Int) : List Int := gl (fun i => (((wa.getD i 0).toNat &&& (2 ^ 64 - ((wb.getD i 0).toNat + 1)) : Nat) : Int)) (wc n)
theorem and_ev (n : Nat) (hn : n ≤ 1048576) (wa wb : List Int) (ha : wok wa) (hb : wok wb) : Ev (fun k => bitset_And.f k (n : Int) wa (n : Int) wb) ((n : Int), band n wa wb) := by
  unfold bitset_And.f
  refine Ev.bind (comb_61 n hn wa wb _ (fun i _ => ?_)) (Ev.now _)
  obtain ⟨x, ex, hx⟩ := nat_of (wok_get ha i)
  obtain ⟨y, ey, hy⟩ := nat_of (wok_get hb i)
  unfold bitset_And_1.f
  rw [ex, ey, and_nat x y hx hy]; rfl
theorem or_ev (n : Nat) (hn : n ≤ 1048576) (wa wb : List Int) (ha : wok wa) (hb : wok wb) : Ev (fun k => bitset_Or.f k (n : Int) wa (n : Int) wb) ((n : Int), bor n wa wb) := by
  unfold bitset_Or.f
  refine Ev.bind (comb_64 n hn wa wb _ (fun i _ => ?_)) (Ev.now _)
  obtain ⟨x, ex, hx⟩ := nat_of (wok_get ha i)
  obtain ⟨y, ey, hy⟩ := nat_of (wok_get hb i)
  unfold bitset_Or_1.f
  rw [ex, ey, or_nat x y hx hy]; rfl
theorem andn_ev (n : Nat) (hn : n ≤ 1048576) (wa wb : List Int) (ha : wok wa) (hb : wok wb) : Ev (fun k => bitset_AndNot.f k (n : Int) wa (n : Int) wb) ((n : Int), bandn n wa wb) := by
  unfold bitset_AndNot.f
  refine Ev.bind (comb_66 n hn wa wb _ (fun i _ => ?_)) (Ev.now _)
  obtain ⟨x, ex, hx⟩ := nat_of (wok_get ha i)
  obtain ⟨y, ey, hy⟩ := nat_of (wok_get hb i)
  unfold bitset_AndNot_1.f
  rw [ex, ey, andNot_nat x y hx hy]; rfl
theorem band_wok {n : Nat} {wa wb : List Int} (ha : wok wa) : wok (band n wa wb) := gl_wok fun i _ => by
  have h := wok_get ha i
  have : (wa.getD i 0).toNat &&& (wb.getD i 0).toNat ≤ (wa.getD i 0).toNat := Nat.and_le_left
  omega
theorem bor_wok {n : Nat} {wa wb : List Int} (ha : wok wa) (hb : wok wb) : wok (bor n wa wb) := gl_wok fun i _ => by
  have h1 := wok_get ha i
  have h2 := wok_get hb i
  have : (wa.getD i 0).toNat ||| (wb.getD i 0).toNat < 2 ^ 64 := Nat.or_lt_two_pow (by omega) (by omega)
  omega
theorem bandn_wok {n : Nat} {wa wb : List Int} (ha : wok wa) : wok (bandn n wa wb) := gl_wok fun i _ => by
  have h := wok_get ha i
  have : (wa.getD i 0).toNat &&& (2 ^ 64 - ((wb.getD i 0).toNat + 1)) ≤ (wa.getD i 0).toNat := Nat.and_le_left
  omega
theorem gb_band {n : Nat} {wa wb : List Int} : ∀ j, j < 64 * wc n → gb (band n wa wb) j = (gb wa j && gb wb j) := gb_gl fun i r _ hr => by
  simp only [Int.toNat_natCast]
  rw [Nat.testBit_and, gb_word _ _ _ hr, gb_word _ _ _ hr]
theorem gb_bor {n : Nat} {wa wb : List Int} : ∀ j, j < 64 * wc n → gb (bor n wa wb) j = (gb wa j || gb wb j) := gb_gl fun i r _ hr => by
  simp only [Int.toNat_natCast]
  rw [Nat.testBit_or, gb_word _ _ _ hr, gb_word _ _ _ hr]
theorem gb_bandn {n : Nat} {wa wb : List Int} (hb : wok wb) : ∀ j, j < 64 * wc n → gb (bandn n wa wb) j = (gb wa j && !gb wb j) := gb_gl fun i r _ hr => by
  have h := wok_get hb i
  simp only [Int.toNat_natCast]
  rw [Nat.testBit_and, Nat.testBit_two_pow_sub_succ (by omega), gb_word _ _ _ hr, gb_word _ _ _ hr, decide_eq_true hr, Bool.true_and]
/-- Not: the words turned, the last one cut. -/
def bnot (n : Nat) (wa : List Int) : List Int :=
  let W := gl (fun i => ((2 ^ 64 - ((wa.getD i 0).toNat + 1) : Nat) : Int)) (wc n)
  if n % 64 = 0 then W else W.set (wc n - 1) (((W.getD (wc n - 1) 0).toNat % 2 ^ (n % 64) : Nat) : Int)
theorem not_ev (n : Nat) (hn : n ≤ 1048576) (wa : List Int) (ha : wok wa) : Ev (fun k => bitset_Not.f k (n : Int) wa) ((n : Int), bnot n wa) := by
  obtain ⟨W, hW⟩ : ∃ W, W = gl (fun i => ((2 ^ 64 - ((wa.getD i 0).toNat + 1) : Nat) : Int)) (wc n) := ⟨_, rfl⟩
  have hWl : W.length = wc n := by rw [hW]; exact gl_len _ _
  have hWk : wok W := by
    rw [hW]
    exact gl_wok fun i _ => by have h := wok_get ha i; omega
  have e1 : Ev (fun k => bitset_combine_68.f k (n : Int) wa (n : Int) wa) ((n : Int), W) := by
    rw [hW]
    refine comb_68 n hn wa wa _ (fun i _ => ?_)
    obtain ⟨x, ex, hx⟩ := nat_of (wok_get ha i)
    unfold bitset_Not_1.f
    rw [ex, xor_max x hx]; rfl
  unfold bitset_Not.f bnot
  refine Ev.bind e1 ?_
  simp only [← hW]
  rw [tmod64 n]
  by_cases c : n % 64 = 0
  · rw [if_pos c]
    refine Ev.pos (by omega) ?_
    exact Ev.now _
  · rw [if_neg c]
    have hw1 : 1 ≤ wc n := by unfold wc; omega
    have hw2 : wc n ≤ 20000 := by unfold wc; omega
    refine Ev.neg (by omega) ?_
    rw [show wrap64 ((W.length : Int) - 1) = ((wc n - 1 : Nat) : Int) by rw [w64 _ (by omega) (by omega)]; omega]
    refine Ev.pos (by omega) ?_
    refine Ev.pos (by omega) ?_
    refine Ev.pos (by omega) ?_
    refine Ev.eq (Ev.now _) ?_
    rw [Int.toNat_natCast, rd_nat]
    obtain ⟨x, ex, hx⟩ := nat_of (wok_get hWk (wc n - 1))
    have hr : n % 64 < 64 := Nat.mod_lt _ (by decide)
    have hp := pow_lt64 (n % 64) hr
    have hp1 := Nat.two_pow_pos (n % 64)
    have hm := bits_mask .u64 64 (by decide) wraps_u64 (n % 64) (by omega) (x : Int) (by omega) (by omega)
    rw [ex, Int.toNat_natCast, shl1 (n % 64) hr, wraps_u64 _ (by omega) (by omega), pow_cast0, hm, ← pow_cast0]
    congr 1
theorem bnot_len (n : Nat) (wa : List Int) : (bnot n wa).length = wc n := by
  unfold bnot; dsimp only; split <;> simp [gl_len]
theorem bnot_wok {n : Nat} {wa : List Int} (ha : wok wa) : wok (bnot n wa) := by
  have hWk : wok (gl (fun i => ((2 ^ 64 - ((wa.getD i 0).toNat + 1) : Nat) : Int)) (wc n)) := gl_wok fun i _ => by have h := wok_get ha i; omega
  unfold bnot
  dsimp only
  split
  · exact hWk
  · intro x hx
    rcases List.mem_or_eq_of_mem_set hx with h | rfl
    · exact hWk x h
    · have h := wok_get hWk (wc n - 1)
      have : ((gl (fun i => ((2 ^ 64 - ((wa.getD i 0).toNat + 1) : Nat) : Int)) (wc n)).getD (wc n - 1) 0).toNat % 2 ^ (n % 64) ≤ ((gl (fun i => ((2 ^ 64 - ((wa.getD i 0).toNat + 1) : Nat) : Int)) (wc n)).getD (wc n - 1) 0).toNat := Nat.mod_le _ _
      omega
theorem gb_bnot {n : Nat} {wa : List Int} (ha : wok wa) : ∀ j, j < 64 * wc n → gb (bnot n wa) j = (decide (j < n) && !gb wa j) := by
  intro j hj
  have h0 : ∀ j, j < 64 * wc n → gb (gl (fun i => ((2 ^ 64 - ((wa.getD i 0).toNat + 1) : Nat) : Int)) (wc n)) j = !gb wa j := gb_gl fun i r _ hr => by
    have h := wok_get ha i
    simp only [Int.toNat_natCast]
    rw [Nat.testBit_two_pow_sub_succ (by omega), gb_word _ _ _ hr, decide_eq_true hr, Bool.true_and]
  have hg := h0 j hj
  obtain ⟨W, hW⟩ : ∃ W, W = gl (fun i => ((2 ^ 64 - ((wa.getD i 0).toNat + 1) : Nat) : Int)) (wc n) := ⟨_, rfl⟩
  have hWl : W.length = wc n := by rw [hW]; exact gl_len _ _
  unfold bnot
  dsimp only
  rw [← hW] at hg ⊢
  by_cases c : n % 64 = 0
  · rw [if_pos c, hg, decide_eq_true (by unfold wc at hj; omega), Bool.true_and]
  · rw [if_neg c]
    by_cases cj : j / 64 = wc n - 1
    · unfold gb at hg ⊢
      rw [cj] at hg ⊢
      rw [List.getD_eq_getElem?_getD, List.getElem?_set_self (by omega), Option.getD_some, Int.toNat_natCast, Nat.testBit_mod_two_pow, hg]
      congr 1
      by_cases d : j < n
      · rw [decide_eq_true d, decide_eq_true (by unfold wc at cj; omega)]
      · rw [decide_eq_false d, decide_eq_false (by unfold wc at cj; omega)]
    · have e : gb (W.set (wc n - 1) (((W.getD (wc n - 1) 0).toNat % 2 ^ (n % 64) : Nat) : Int)) j = gb W j := by
        unfold gb
        rw [List.getD_eq_getElem?_getD, List.getElem?_set_ne (by omega), ← List.getD_eq_getElem?_getD]
      rw [e, hg, decide_eq_true (by unfold wc at cj hj; omega), Bool.true_and]

/-! ### And, Or, AndNot of two sizes -/
theorem andg_ev (na nb : Nat) (hna : na ≤ 1048576) (hnb : nb ≤ 1048576) (wa wb : List Int) (ha : wok wa) (hb : wok wb) : Ev (fun k => bitset_And.f k (na : Int) wa (nb : Int) wb) (((max na nb : Nat) : Int), band (max na nb) wa wb) := by
  unfold bitset_And.f
  refine Ev.bind (combg_61 na nb hna hnb wa wb _ (fun i _ => ?_)) (Ev.now _)
  obtain ⟨x, ex, hx⟩ := nat_of (wok_get ha i)
  obtain ⟨y, ey, hy⟩ := nat_of (wok_get hb i)
  unfold bitset_And_1.f
  rw [ex, ey, and_nat x y hx hy]; rfl
theorem org_ev (na nb : Nat) (hna : na ≤ 1048576) (hnb : nb ≤ 1048576) (wa wb : List Int) (ha : wok wa) (hb : wok wb) : Ev (fun k => bitset_Or.f k (na : Int) wa (nb : Int) wb) (((max na nb : Nat) : Int), bor (max na nb) wa wb) := by
  unfold bitset_Or.f
  refine Ev.bind (combg_64 na nb hna hnb wa wb _ (fun i _ => ?_)) (Ev.now _)
  obtain ⟨x, ex, hx⟩ := nat_of (wok_get ha i)
  obtain ⟨y, ey, hy⟩ := nat_of (wok_get hb i)
  unfold bitset_Or_1.f
  rw [ex, ey, or_nat x y hx hy]; rfl
theorem andng_ev (na nb : Nat) (hna : na ≤ 1048576) (hnb : nb ≤ 1048576) (wa wb : List Int) (ha : wok wa) (hb : wok wb) : Ev (fun k => bitset_AndNot.f k (na : Int) wa (nb : Int) wb) (((max na nb : Nat) : Int), bandn (max na nb) wa wb) := by
  unfold bitset_AndNot.f
  refine Ev.bind (combg_66 na nb hna hnb wa wb _ (fun i _ => ?_)) (Ev.now _)
  obtain ⟨x, ex, hx⟩ := nat_of (wok_get ha i)
  obtain ⟨y, ey, hy⟩ := nat_of (wok_get hb i)
  unfold bitset_AndNot_1.f
  rw [ex, ey, andNot_nat x y hx hy]; rfl

/-! ### the operations as sets -/
theorem set_of {n : Nat} {ws : List Int} {f : Nat → Bool} (hl : ws.length = wc n) (hw : wok ws) (h : ∀ j, j < 64 * wc n → gb ws j = f j) (hf : ∀ j, n ≤ j → f j = false) : ws = wof n f := by
  refine wof_eq hl hw (fun i => ?_)
  by_cases c : i < 64 * wc n
  · rw [h i c]
    by_cases d : i < n
    · rw [decide_eq_true d, Bool.true_and]
    · rw [decide_eq_false d, Bool.false_and, hf i (by omega)]
  · have := wc_le n
    rw [gb_out (by omega), decide_eq_false (by omega), Bool.false_and]
theorem band_w {na nb : Nat} {wa wb : List Int} (ha : wok wa) (za : ∀ j, na ≤ j → gb wa j = false) : band (max na nb) wa wb = wof (max na nb) (fun j => gb wa j && gb wb j) :=
  set_of (gl_len _ _) (band_wok ha) gb_band (fun j hj => by rw [za j (by omega), Bool.false_and])
theorem bor_w {na nb : Nat} {wa wb : List Int} (ha : wok wa) (hb : wok wb) (za : ∀ j, na ≤ j → gb wa j = false) (zb : ∀ j, nb ≤ j → gb wb j = false) : bor (max na nb) wa wb = wof (max na nb) (fun j => gb wa j || gb wb j) :=
  set_of (gl_len _ _) (bor_wok ha hb) gb_bor (fun j hj => by rw [za j (by omega), zb j (by omega), Bool.false_or])
theorem bandn_w {na nb : Nat} {wa wb : List Int} (ha : wok wa) (hb : wok wb) (za : ∀ j, na ≤ j → gb wa j = false) : bandn (max na nb) wa wb = wof (max na nb) (fun j => gb wa j && !gb wb j) :=
  set_of (gl_len _ _) (bandn_wok ha) (gb_bandn hb) (fun j hj => by rw [za j (by omega), Bool.false_and])
theorem bnot_w {n : Nat} {wa : List Int} (ha : wok wa) : bnot n wa = wof n (fun j => decide (j < n) && !gb wa j) :=
  set_of (bnot_len _ _) (bnot_wok ha) (gb_bnot ha) (fun j hj => by rw [decide_eq_false (by omega), Bool.false_and])
theorem bnot_w2 {n : Nat} {wa : List Int} (ha : wok wa) : bnot n wa = wof n (fun j => !gb wa j) := by
  rw [bnot_w ha]
  exact wof_congr (fun i hi => by rw [decide_eq_true hi, Bool.true_and])

/-! ### the reference's operations -/
theorem con_z (N i : Nat) (ws : List Int) (hl : ws.length = wc N) (hw : wok ws) (hN : N ≤ 1048576) (hz : ∀ j, N ≤ j → gb ws j = false) : laminaref03_Contains.f (N : Int) ws (i : Int) = some (gb ws i) := by
  rw [r03con N i ws hl hw (by omega)]
  by_cases c : i < N
  · rw [decide_eq_true c, Bool.true_and]
  · rw [decide_eq_false c, Bool.false_and, hz i (by omega)]
theorem set_range {n i : Nat} {f : Nat → Bool} {l : List Bool} (hl : l.length = n) (h : ∀ j, j < i → l.getD j false = f j) (hi : i < n) {v : Bool} (hv : v = f i) : ∀ j, j < i + 1 → (l.set i v).getD j false = f j := by
  subst hv
  exact range_map_set n i f l hl h hi
theorem op_end (n : Nat) (hn : n ≤ 1048576) (f : Nat → Bool) (l : List Bool) (hl : l.length = n) (h : ∀ j, j < n → l.getD j false = f j) : Ev (fun k => (laminaref03_build.f k l).bind fun bt => some (bt.1, bt.2)) ((n : Int), wof n f) := by
  have := r03build l f (fun i hi => h i (by omega)) (by omega)
  rw [hl] at this
  exact Ev.bind this (Ev.now _)

theorem rand_l0 (na nb : Nat) (hna : na ≤ 1048576) (hnb : nb ≤ 1048576) (wa wb : List Int) (la : wa.length = wc na) (lb : wb.length = wc nb) (ka : wok wa) (kb : wok wb) (za : ∀ j, na ≤ j → gb wa j = false) (zb : ∀ j, nb ≤ j → gb wb j = false) (n : Nat) (hn : n ≤ 1048576) : ∀ (d i : Nat) (l : List Bool), i + d = n → l.length = n → (∀ j, j < i → l.getD j false = (gb wa j && gb wb j)) →
    Ev (fun k => laminaref03_And.l0 k l (i : Int) (na : Int) wa (nb : Int) wb) ((n : Int), wof n (fun j => gb wa j && gb wb j)) := by
  intro d
  induction d with
  | zero =>
    intro i l h1 h2 h3
    refine Ev.succ ?_
    simp only [laminaref03_And.l0]
    refine Ev.neg (by omega) ?_
    exact op_end n hn _ l h2 (fun j hj => h3 j (by omega))
  | succ d ih =>
    intro i l h1 h2 h3
    refine Ev.succ ?_
    simp only [laminaref03_And.l0, w64_add1 i (by omega)]
    refine Ev.pos (by omega) ?_
    refine Ev.bind0 (con_z na i wa la ka hna za) ?_
    by_cases g : gb wa i = true
    · refine Ev.pos g ?_
      refine Ev.bind0 (con_z nb i wb lb kb hnb zb) ?_
      refine Ev.pos (by omega) ?_
      rw [Int.toNat_natCast]
      exact ih (i + 1) _ (by omega) (by simp [h2]) (set_range (f := fun j => gb wa j && gb wb j) h2 h3 (by omega) (by rw [g, Bool.true_and]))
    · refine Ev.neg g ?_
      refine Ev.pos (by omega) ?_
      rw [Int.toNat_natCast]
      exact ih (i + 1) _ (by omega) (by simp [h2]) (set_range (f := fun j => gb wa j && gb wb j) h2 h3 (by omega) (by rw [show gb wa i = false by simpa using g, Bool.false_and]))
theorem rand_ev (na nb : Nat) (hna : na ≤ 1048576) (hnb : nb ≤ 1048576) (wa wb : List Int) (la : wa.length = wc na) (lb : wb.length = wc nb) (ka : wok wa) (kb : wok wb) (za : ∀ j, na ≤ j → gb wa j = false) (zb : ∀ j, nb ≤ j → gb wb j = false) :
    Ev (fun k => laminaref03_And.f k (na : Int) wa (nb : Int) wb) (((max na nb : Nat) : Int), wof (max na nb) (fun j => gb wa j && gb wb j)) := by
  unfold laminaref03_And.f
  rw [mx_nat na nb]
  refine Ev.pos (by omega) ?_
  refine Ev.pos (by omega) ?_
  rw [Int.toNat_natCast]
  exact rand_l0 na nb hna hnb wa wb la lb ka kb za zb (max na nb) (by omega) (max na nb) 0 _ (by omega) (by simp) (fun j hj => by omega)

theorem ror_l0 (na nb : Nat) (hna : na ≤ 1048576) (hnb : nb ≤ 1048576) (wa wb : List Int) (la : wa.length = wc na) (lb : wb.length = wc nb) (ka : wok wa) (kb : wok wb) (za : ∀ j, na ≤ j → gb wa j = false) (zb : ∀ j, nb ≤ j → gb wb j = false) (n : Nat) (hn : n ≤ 1048576) : ∀ (d i : Nat) (l : List Bool), i + d = n → l.length = n → (∀ j, j < i → l.getD j false = (gb wa j || gb wb j)) →
    Ev (fun k => laminaref03_Or.l0 k l (i : Int) (na : Int) wa (nb : Int) wb) ((n : Int), wof n (fun j => gb wa j || gb wb j)) := by
  intro d
  induction d with
  | zero =>
    intro i l h1 h2 h3
    refine Ev.succ ?_
    simp only [laminaref03_Or.l0]
    refine Ev.neg (by omega) ?_
    exact op_end n hn _ l h2 (fun j hj => h3 j (by omega))
  | succ d ih =>
    intro i l h1 h2 h3
    refine Ev.succ ?_
    simp only [laminaref03_Or.l0, w64_add1 i (by omega)]
    refine Ev.pos (by omega) ?_
    refine Ev.bind0 (con_z na i wa la ka hna za) ?_
    by_cases g : gb wa i = true
    · refine Ev.pos g ?_
      refine Ev.pos (by omega) ?_
      rw [Int.toNat_natCast]
      exact ih (i + 1) _ (by omega) (by simp [h2]) (set_range (f := fun j => gb wa j || gb wb j) h2 h3 (by omega) (by rw [g, Bool.true_or]))
    · refine Ev.neg g ?_
      refine Ev.bind0 (con_z nb i wb lb kb hnb zb) ?_
      refine Ev.pos (by omega) ?_
      rw [Int.toNat_natCast]
      exact ih (i + 1) _ (by omega) (by simp [h2]) (set_range (f := fun j => gb wa j || gb wb j) h2 h3 (by omega) (by rw [show gb wa i = false by simpa using g, Bool.false_or]))
theorem ror_ev (na nb : Nat) (hna : na ≤ 1048576) (hnb : nb ≤ 1048576) (wa wb : List Int) (la : wa.length = wc na) (lb : wb.length = wc nb) (ka : wok wa) (kb : wok wb) (za : ∀ j, na ≤ j → gb wa j = false) (zb : ∀ j, nb ≤ j → gb wb j = false) :
    Ev (fun k => laminaref03_Or.f k (na : Int) wa (nb : Int) wb) (((max na nb : Nat) : Int), wof (max na nb) (fun j => gb wa j || gb wb j)) := by
  unfold laminaref03_Or.f
  rw [mx_nat na nb]
  refine Ev.pos (by omega) ?_
  refine Ev.pos (by omega) ?_
  rw [Int.toNat_natCast]
  exact ror_l0 na nb hna hnb wa wb la lb ka kb za zb (max na nb) (by omega) (max na nb) 0 _ (by omega) (by simp) (fun j hj => by omega)

theorem randnot_l0 (na nb : Nat) (hna : na ≤ 1048576) (hnb : nb ≤ 1048576) (wa wb : List Int) (la : wa.length = wc na) (lb : wb.length = wc nb) (ka : wok wa) (kb : wok wb) (za : ∀ j, na ≤ j → gb wa j = false) (zb : ∀ j, nb ≤ j → gb wb j = false) (n : Nat) (hn : n ≤ 1048576) : ∀ (d i : Nat) (l : List Bool), i + d = n → l.length = n → (∀ j, j < i → l.getD j false = (gb wa j && !gb wb j)) →
    Ev (fun k => laminaref03_AndNot.l0 k l (i : Int) (na : Int) wa (nb : Int) wb) ((n : Int), wof n (fun j => gb wa j && !gb wb j)) := by
  intro d
  induction d with
  | zero =>
    intro i l h1 h2 h3
    refine Ev.succ ?_
    simp only [laminaref03_AndNot.l0]
    refine Ev.neg (by omega) ?_
    exact op_end n hn _ l h2 (fun j hj => h3 j (by omega))
  | succ d ih =>
    intro i l h1 h2 h3
    refine Ev.succ ?_
    simp only [laminaref03_AndNot.l0, w64_add1 i (by omega)]
    refine Ev.pos (by omega) ?_
    refine Ev.bind0 (con_z na i wa la ka hna za) ?_
    by_cases g : gb wa i = true
    · refine Ev.pos g ?_
      refine Ev.bind0 (con_z nb i wb lb kb hnb zb) ?_
      refine Ev.pos (by omega) ?_
      rw [Int.toNat_natCast]
      exact ih (i + 1) _ (by omega) (by simp [h2]) (set_range (f := fun j => gb wa j && !gb wb j) h2 h3 (by omega) (by rw [g, Bool.true_and]))
    · refine Ev.neg g ?_
      refine Ev.pos (by omega) ?_
      rw [Int.toNat_natCast]
      exact ih (i + 1) _ (by omega) (by simp [h2]) (set_range (f := fun j => gb wa j && !gb wb j) h2 h3 (by omega) (by rw [show gb wa i = false by simpa using g, Bool.false_and]))
theorem randnot_ev (na nb : Nat) (hna : na ≤ 1048576) (hnb : nb ≤ 1048576) (wa wb : List Int) (la : wa.length = wc na) (lb : wb.length = wc nb) (ka : wok wa) (kb : wok wb) (za : ∀ j, na ≤ j → gb wa j = false) (zb : ∀ j, nb ≤ j → gb wb j = false) :
    Ev (fun k => laminaref03_AndNot.f k (na : Int) wa (nb : Int) wb) (((max na nb : Nat) : Int), wof (max na nb) (fun j => gb wa j && !gb wb j)) := by
  unfold laminaref03_AndNot.f
  rw [mx_nat na nb]
  refine Ev.pos (by omega) ?_
  refine Ev.pos (by omega) ?_
  rw [Int.toNat_natCast]
  exact randnot_l0 na nb hna hnb wa wb la lb ka kb za zb (max na nb) (by omega) (max na nb) 0 _ (by omega) (by simp) (fun j hj => by omega)

theorem rnot_l0 (na : Nat) (hna : na ≤ 1048576) (wa : List Int) (la : wa.length = wc na) (ka : wok wa) (za : ∀ j, na ≤ j → gb wa j = false) : ∀ (d i : Nat) (l : List Bool), i + d = na → l.length = na → (∀ j, j < i → l.getD j false = (!gb wa j)) →
    Ev (fun k => laminaref03_Not.l0 k l (i : Int) (na : Int) wa) ((na : Int), wof na (fun j => !gb wa j)) := by
  intro d
  induction d with
  | zero =>
    intro i l h1 h2 h3
    refine Ev.succ ?_
    simp only [laminaref03_Not.l0]
    refine Ev.neg (by omega) ?_
    exact op_end na hna _ l h2 (fun j hj => h3 j (by omega))
  | succ d ih =>
    intro i l h1 h2 h3
    refine Ev.succ ?_
    simp only [laminaref03_Not.l0, w64_add1 i (by omega)]
    refine Ev.pos (by omega) ?_
    refine Ev.bind0 (con_z na i wa la ka hna za) ?_
    refine Ev.pos (by omega) ?_
    rw [Int.toNat_natCast]
    exact ih (i + 1) _ (by omega) (by simp [h2]) (set_range (f := fun j => !gb wa j) h2 h3 (by omega) rfl)
theorem rnot_ev (na : Nat) (hna : na ≤ 1048576) (wa : List Int) (la : wa.length = wc na) (ka : wok wa) (za : ∀ j, na ≤ j → gb wa j = false) : Ev (fun k => laminaref03_Not.f k (na : Int) wa) ((na : Int), wof na (fun j => !gb wa j)) := by
  unfold laminaref03_Not.f
  refine Ev.pos (by omega) ?_
  refine Ev.pos (by omega) ?_
  rw [Int.toNat_natCast]
  exact rnot_l0 na hna wa la ka za na 0 _ (by omega) (by simp) (fun j hj => by omega)

/-! ### small -/
theorem wok_of_wf {l : List Int} (h : ∀ x ∈ l, (Lit.int .u64 x).wf = true) : wok l := fun x hx => wf_u64 (h x hx)
theorem sm_ev (a : Int) (l : List Int) (hw : wok l) (hl : l.length ≤ 9223372036854775807) : (∃ n : Nat, a = (n : Int) ∧ n ≤ 3000 ∧ l.length = wc n ∧ (∀ j, n ≤ j → gb l j = false) ∧ laminalaw03_small.f a l = some true) ∨ laminalaw03_small.f a l = some false := by
  unfold laminalaw03_small.f
  by_cases h : a ≤ 3000
  · rw [if_pos h]
    obtain ⟨b, e, i⟩ := r03val a l hw hl
    rw [e]
    cases b with
    | true =>
      left
      have hv := i.1 rfl
      have ha : 0 ≤ a := hv.1
      obtain ⟨n, rfl⟩ := Int.eq_ofNat_of_zero_le ha
      obtain ⟨h1, h2, h3⟩ := vset_iff.1 hv
      exact ⟨n, rfl, by omega, h2, h3, rfl⟩
    | false => right; rfl
  · rw [if_neg h]; right; rfl
theorem lives_ev : Ev (fun _ => laminalaw03_lives.f.bind fun t => some t) true := Ev.now _

theorem BitsetOperations : laminalaw03_BitsetOperations.Pure := by
  intro a la b lb oka okb
  obtain ⟨_, hla, hwa⟩ := oka
  obtain ⟨_, hlb, hwb⟩ := okb
  simp only at hla hwa hlb hwb
  have ka := wok_of_wf hwa
  have kb := wok_of_wf hwb
  refine Ev.rounds (g := fun k => laminalaw03_BitsetOperations.f k a la b lb) ?_
  unfold laminalaw03_BitsetOperations.f
  have bad : ∀ x y, Ev (fun k => laminalaw03_BitsetOperations.j0 k true x la y lb) true := by
    intro x y
    refine Ev.succ ?_
    simp only [laminalaw03_BitsetOperations.j0]
    refine Ev.pos (by simp) ?_
    exact lives_ev
  rcases sm_ev a la ka hla with ⟨na, rfl, hna, h1, h2, e⟩ | e
  rotate_left
  · refine Ev.bind0 e ?_
    refine Ev.neg (by decide) ?_
    exact bad _ _
  refine Ev.bind0 e ?_
  refine Ev.pos rfl ?_
  rcases sm_ev b lb kb hlb with ⟨nb, rfl, hnb, g1, g2, e'⟩ | e'
  rotate_left
  · refine Ev.bind0 e' ?_
    exact bad _ _
  refine Ev.bind0 e' ?_
  have hna' : na ≤ 1048576 := by omega
  have hnb' : nb ≤ 1048576 := by omega
  have hwc : ∀ n, n ≤ 3000 → wc n ≤ 50 := by intro n h; unfold wc; omega
  have hm := hwc (max na nb) (by omega)
  have hma := hwc na hna
  refine Ev.succ ?_
  simp only [laminalaw03_BitsetOperations.j0]
  refine Ev.neg (by decide) ?_
  refine Ev.bind (andg_ev na nb hna' hnb' la lb ka kb) ?_
  refine Ev.bind (rand_ev na nb hna' hnb' la lb h1 g1 ka kb h2 g2) ?_
  rw [band_w ka h2]
  refine Ev.bind (req_ev _ _ (by rw [wof_length]; omega)) ?_
  refine Ev.pos rfl ?_
  refine Ev.bind (org_ev na nb hna' hnb' la lb ka kb) ?_
  refine Ev.bind (ror_ev na nb hna' hnb' la lb h1 g1 ka kb h2 g2) ?_
  rw [bor_w ka kb h2 g2]
  refine Ev.bind (req_ev _ _ (by rw [wof_length]; omega)) ?_
  refine Ev.pos rfl ?_
  refine Ev.bind (andng_ev na nb hna' hnb' la lb ka kb) ?_
  refine Ev.bind (randnot_ev na nb hna' hnb' la lb h1 g1 ka kb h2 g2) ?_
  rw [bandn_w ka kb h2]
  refine Ev.bind (req_ev _ _ (by rw [wof_length]; omega)) ?_
  refine Ev.pos rfl ?_
  refine Ev.bind (not_ev na hna' la ka) ?_
  refine Ev.bind (rnot_ev na hna' la h1 ka h2) ?_
  rw [bnot_w2 ka]
  refine Ev.bind (req_ev _ _ (by rw [wof_length]; omega)) ?_
  refine Ev.pos rfl ?_
  exact lives_ev

end Go.Proofs.YtijgbhbdmnhanaaDoor.Pure
