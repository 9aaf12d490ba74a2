/- laminalaw22.DelvecApplies returns true for all its arguments (Apply returns the live rows; those of a union are the rows live in both sets), the table of math/bits tied to the program's text. Conditions: none beyond the row's own (slices and strings of at most 2^47 - 4096 bytes). -/
import Derived.Test.YtfonjlolliiaeaaDoorStDelvecApplies
import Derived.Test.YtfonjlolliiaeaaDoorUM01
import Derived.Test.YtfonjlolliiaeaaDoorUM02
import Derived.Test.YtfonjlolliiaeaaDoorUM03
import Derived.Test.YtfonjlolliiaeaaDoorUM06
import Derived.Test.YtfonjlolliiaeaaDoorUM07
import Derived.Test.YtfonjlolliiaeaaDoorUM08
import Derived.Test.YtfonjlolliiaeaaDoorUM11
import Derived.Test.YtfonjlolliiaeaaDoorUM12
import Derived.Test.YtfonjlolliiaeaaDoorUM13
import Derived.Test.YtfonjlolliiaeaaDoorUM15
import Derived.Test.YtfonjlolliiaeaaDoorUM16
import Derived.Test.YtfonjlolliiaeaaDoorUM17
import Derived.Test.YtfonjlolliiaeaaDoorUM18
import Derived.Test.YtfonjlolliiaeaaDoorUM19
import Derived.Test.YtfonjlolliiaeaaDoorUM20
set_option linter.unusedVariables false
set_option linter.unusedSimpArgs false
namespace Go.Proofs.YtfonjlolliiaeaaDoor.Pure
open Go Go.RowKit Go.Proofs.YtfonjlolliiaeaaDoor.QDelvecApplies Go.Proofs.YtfonjlolliiaeaaDoorW.PrintWords Go.Proofs.YtfonjlolliiaeaaDoorW.PrintLast Go.Proofs.YtfonjlolliiaeaaDoorM

theorem drop_lt {α : Type} {l r : List α} {i : Nat} {x : α} (h : l.drop i = x :: r) : i < l.length := by
  rcases Nat.lt_or_ge i l.length with h1 | h1
  · exact h1
  · rw [List.drop_of_length_le h1] at h; cases h
theorem drop_ge {α : Type} {l : List α} {i : Nat} (h : l.drop i = []) : l.length ≤ i := by
  rwa [List.drop_eq_nil_iff] at h
theorem drop_next {α : Type} {l r : List α} {i : Nat} {x : α} (h : l.drop i = x :: r) : l.drop (i + 1) = r := by
  rw [← List.drop_drop, h]; rfl
theorem drop_mem {α : Type} {l r : List α} {i : Nat} {x : α} (h : l.drop i = x :: r) : x ∈ l := List.mem_of_mem_drop (h ▸ List.mem_cons_self)

/-! ### the reference's bitset functions -/
theorem tdiv64 (i : Nat) (h : i < 9223372036854775808) : wrap64 (Int.tdiv (i : Int) 64) = ((i / 64 : Nat) : Int) := by
  rw [Int.tdiv_eq_ediv_of_nonneg (by omega), w64 _ (by omega) (by omega)]; omega
theorem tmod64 (i : Nat) : Int.tmod (i : Int) 64 = ((i % 64 : Nat) : Int) := by
  rw [Int.tmod_eq_emod_of_nonneg (by omega)]; omega
theorem utmod64 (i : Nat) : IntKind.u64.wrap (Int.tmod (i : Int) 64) = ((i % 64 : Nat) : Int) := by
  rw [tmod64]; exact wraps_u64 _ (by omega) (by omega)
theorem pow_cast0 (t : Nat) : ((2 ^ t : Nat) : Int) = 2 ^ t := by simp
theorem shl1 (r : Nat) (hr : r < 64) : shl .u64 1 (r : Int) = ((2 ^ r : Nat) : Int) := by
  have h := pow_lt64 r hr
  have h3 : ∀ p : Nat, p < 2 ^ 64 → IntKind.u64.wrap (p : Int) = (p : Int) := fun p hp => wraps_u64 _ (by omega) (by omega)
  unfold shl
  rw [show min ((r : Int).toNat) IntKind.u64.bits = r by simp [IntKind.bits]; omega, Int.one_mul, ← pow_cast0]
  exact h3 _ h
theorem bit_one (y : Int) (h0 : 0 ≤ y) (h1 : y < 18446744073709551616) (r : Nat) (hr : r < 64) : (Go.bits .and .u64 (shr .u64 y (r : Int)) 1 == 1) = y.toNat.testBit r := by
  obtain ⟨m, rfl⟩ := Int.eq_ofNat_of_zero_le h0
  unfold shr
  rw [show min ((r : Int).toNat) IntKind.u64.bits = r by simp [IntKind.bits]; omega, ← pow_cast0, ← Int.natCast_ediv, Int.toNat_natCast, Nat.testBit_eq_decide_div_mod_eq]
  have hqm := Nat.div_le_self m (2 ^ r)
  generalize m / 2 ^ r = q at hqm ⊢
  rw [and_one _ (by omega) (by omega)]
  by_cases hq : q % 2 = 1
  · rw [decide_eq_true hq]; simp; omega
  · rw [decide_eq_false hq]; simp; omega
theorem or_shl (ws : List Int) (hw : wok ws) (i : Nat) : Go.bits .or .u64 (ws.getD (i / 64) 0) (shl .u64 1 (((i % 64 : Nat)) : Int)) = (((ws.getD (i / 64) 0).toNat ||| 2 ^ (i % 64) : Nat) : Int) := by
  have h := wok_get hw (i / 64)
  rw [shl1 _ (Nat.mod_lt _ (by decide))]
  obtain ⟨m, hm⟩ := Int.eq_ofNat_of_zero_le h.1
  rw [hm] at h ⊢
  rw [Int.toNat_natCast]
  exact or_nat m _ (by omega) (pow_lt64 _ (Nat.mod_lt _ (by decide)))
theorem r03con (n i : Nat) (ws : List Int) (hl : ws.length = wc n) (hw : wok ws) (hn : n < 9223372036854775808) : laminaref03_Contains.f (n : Int) ws (i : Int) = some (decide (i < n) && gb ws i) := by
  unfold laminaref03_Contains.f
  rw [if_pos (by omega)]
  by_cases h : i < n
  · have hq : i / 64 < ws.length := by rw [hl]; unfold wc; omega
    rw [if_pos (by omega), tdiv64 i (by omega), utmod64, if_pos (by omega), if_pos (by omega), if_pos (by omega), rd_nat]
    have h2 := wok_get hw (i / 64)
    rw [bit_one _ h2.1 h2.2 _ (Nat.mod_lt _ (by decide)), decide_eq_true h]
    simp [gb]
  · rw [if_neg (by omega), decide_eq_false h]; rfl

/-! ### valid sets -/
def vset (a : Int) (ws : List Int) : Prop := 0 ≤ a ∧ a ≤ 1048576 ∧ ws.length = wc a.toNat ∧ ∀ j, a.toNat ≤ j → gb ws j = false
theorem last_word {ws : List Int} (hw : wok ws) {n : Nat} (hl : ws.length = wc n) (hn : n % 64 ≠ 0) :
    ((ws.getD (n / 64) 0).toNat / 2 ^ (n % 64) = 0) ↔ ∀ j, n ≤ j → gb ws j = false := by
  have hlt : n / 64 < ws.length := by rw [hl]; unfold wc; omega
  have hp := Nat.two_pow_pos (n % 64)
  constructor
  · intro h j hj
    by_cases hq : j / 64 = n / 64
    · unfold gb
      rw [hq]
      have h1 : (ws.getD (n / 64) 0).toNat < 2 ^ (n % 64) := by
        rcases Nat.div_eq_zero_iff.1 h with h2 | h2
        · omega
        · exact h2
      exact Nat.testBit_lt_two_pow (Nat.lt_of_lt_of_le h1 (Nat.pow_le_pow_right (by decide) (by omega)))
    · exact gb_out (by rw [hl]; unfold wc; omega)
  · intro h
    refine Nat.div_eq_of_lt (Nat.lt_pow_two_of_testBit _ (fun i hi => ?_))
    by_cases h64 : i < 64
    · have := h (64 * (n / 64) + i) (by omega)
      unfold gb at this
      rw [show (64 * (n / 64) + i) / 64 = n / 64 by omega, show (64 * (n / 64) + i) % 64 = i by omega] at this
      exact this
    · have h2 := wok_get hw (n / 64)
      have hp2 : 2 ^ 64 ≤ 2 ^ i := Nat.pow_le_pow_right (by decide) (by omega)
      exact Nat.testBit_lt_two_pow (by omega)
theorem vset_iff {n : Nat} {ws : List Int} : vset (n : Int) ws ↔ n ≤ 1048576 ∧ ws.length = wc n ∧ ∀ j, n ≤ j → gb ws j = false := by
  unfold vset
  rw [Int.toNat_natCast]
  constructor
  · rintro ⟨_, h2, h3, h4⟩; exact ⟨by omega, h3, h4⟩
  · rintro ⟨h2, h3, h4⟩; exact ⟨by omega, by omega, h3, h4⟩
theorem vset_wof (n : Nat) (f : Nat → Bool) (hn : n ≤ 1048576) : vset (n : Int) (wof n f) :=
  vset_iff.2 ⟨hn, wof_length n f, fun j hj => by rw [gb_wof, decide_eq_false (by omega), Bool.false_and]⟩
theorem vset_eq {n : Nat} {ws : List Int} (hw : wok ws) (h : vset (n : Int) ws) : ws = wof n (gb ws) := by
  obtain ⟨_, h2, h3⟩ := vset_iff.1 h
  refine wof_eq h2 hw (fun i => ?_)
  by_cases hi : i < n
  · rw [decide_eq_true hi, Bool.true_and]
  · rw [decide_eq_false hi, Bool.false_and, h3 i (by omega)]
theorem r03val (a : Int) (ws : List Int) (hw : wok ws) (hl : ws.length ≤ 9223372036854775807) : ∃ b, laminaref03_Valid.f a ws = some b ∧ (b = true ↔ vset a ws) := by
  unfold laminaref03_Valid.f
  by_cases h1 : a < 0
  · exact ⟨false, by rw [if_pos h1], by simp [vset]; omega⟩
  by_cases h2 : a > 1048576
  · exact ⟨false, by rw [if_neg h1, if_pos h2], by simp [vset]; omega⟩
  obtain ⟨n, rfl⟩ := Int.eq_ofNat_of_zero_le (show 0 ≤ a by omega)
  rw [if_neg h1, if_neg h2, w64 ((n : Int) + 63) (by omega) (by omega), show (n : Int) + 63 = ((n + 63 : Nat) : Int) by omega, tdiv64 _ (by omega), tmod64]
  have hwc : (n + 63) / 64 = wc n := rfl
  by_cases h3 : ws.length = wc n
  · rw [if_pos (by omega)]
    by_cases h4 : n % 64 = 0
    · refine ⟨true, by rw [if_pos (by omega)], iff_of_true rfl (vset_iff.2 ⟨by omega, h3, fun j hj => gb_out (by rw [h3]; unfold wc; omega)⟩)⟩
    · have e : wrap64 ((ws.length : Int) - 1) = ((n / 64 : Nat) : Int) := by
        rw [w64 _ (by omega) (by omega), h3]; unfold wc; omega
      have hq : n / 64 < ws.length := by rw [h3]; unfold wc; omega
      rw [if_neg (by omega), e, if_pos (by omega), if_pos (by omega), wraps_u64 ((n % 64 : Nat) : Int) (by omega) (by omega), if_pos (by omega), rd_nat]
      refine ⟨_, rfl, ?_⟩
      have hg := wok_get hw (n / 64)
      have hlw := last_word hw h3 h4
      obtain ⟨m, hm⟩ := Int.eq_ofNat_of_zero_le hg.1
      rw [hm] at hlw ⊢
      rw [Int.toNat_natCast] at hlw
      unfold shr
      rw [show min (((n % 64 : Nat) : Int).toNat) IntKind.u64.bits = n % 64 by simp [IntKind.bits]; omega, ← pow_cast0, ← Int.natCast_ediv]
      rw [vset_iff]
      generalize m / 2 ^ (n % 64) = q at hlw ⊢
      constructor
      · intro h; exact ⟨by omega, h3, hlw.1 (by simpa using h)⟩
      · rintro ⟨_, _, h⟩; have := hlw.2 h; simpa using this
  · refine ⟨false, by rw [if_neg (by omega)], ?_⟩
    rw [vset_iff]
    exact iff_of_false (by simp) (fun h => h3 h.2.1)

/-! ### Of, New -/
def nn (n : Int) : Nat := if n < 0 ∨ n > 1048576 then 0 else n.toNat
theorem nn_le (n : Int) : nn n ≤ 1048576 := by unfold nn; split <;> omega
theorem wc_words (n : Nat) (hn : n ≤ 1048576) : wrap64 (Int.tdiv (wrap64 ((n : Int) + 63)) 64) = ((wc n : Nat) : Int) := by
  rw [w64 ((n : Int) + 63) (by omega) (by omega), Int.tdiv_eq_ediv_of_nonneg (by omega), w64 _ (by omega) (by omega)]
  unfold wc; omega
theorem inew (n : Int) : bitset_New.f n = some ((nn n : Int), List.replicate (wc (nn n)) 0) := by
  have hw : ∀ m : Nat, m ≤ 1048576 → wc m ≤ 16384 + 1 := fun m h => by unfold wc; omega
  have c0 : bitset_wordCount.f 0 = some 0 := by decide +kernel
  unfold bitset_New.f nn
  by_cases h1 : n < 0
  · rw [if_pos h1, if_pos (.inl h1), c0]; rfl
  · rw [if_neg h1]
    by_cases h2 : n > 1048576
    · rw [if_pos h2, if_pos (.inr h2), c0]; rfl
    · rw [if_neg h2, if_neg (by omega)]
      obtain ⟨m, rfl⟩ := Int.eq_ofNat_of_zero_le (show 0 ≤ n by omega)
      have := hw m (by omega)
      unfold bitset_wordCount.f
      rw [wc_words m (by omega)]
      simp only [Option.bind_some]
      rw [if_pos (by omega), if_pos (by omega), Int.toNat_natCast, Int.toNat_natCast]
/-! ### Equal -/
theorem elsI_succ (ws : List Int) (i : Nat) : elsI ws (i + 1) = if gb ws i = true then elsI ws i ++ [(i : Int)] else elsI ws i := by
  unfold elsI
  rw [els_split i 0 1, Nat.zero_add]
  by_cases h : gb ws i = true
  · rw [if_pos h]
    have : els (gb ws) i 1 = [i] := by simp [els, h]
    rw [this, List.map_append]; rfl
  · rw [if_neg h]
    have : els (gb ws) i 1 = [] := by simp [els, h]
    rw [this, List.append_nil]
theorem elsI_cut {ws : List Int} {n m : Nat} (h : n ≤ m) (hz : ∀ j, n ≤ j → gb ws j = false) : elsI ws m = elsI ws n := by
  unfold elsI
  obtain ⟨c, rfl⟩ : ∃ c, m = n + c := ⟨m - n, by omega⟩
  rw [els_split, Nat.zero_add, els_none c n (fun i h1 _ => hz i h1), List.append_nil]
theorem elsI_len (ws : List Int) (n : Nat) : (elsI ws n).length ≤ n := by unfold elsI; rw [List.length_map]; exact els_len_le n 0

/-! ### words, one by one -/
theorem set_fill (l : List Int) (i : Nat) (hi : i < l.length) (n : Nat) (hn : n = l.length) : (l.take i ++ List.replicate (n - i) (0 : Int)).set i (l.getD i 0) = l.take (i + 1) ++ List.replicate (n - (i + 1)) 0 := by
  subst hn
  rw [List.set_append_right _ _ (by simp; omega), List.length_take, Nat.min_eq_left (by omega), Nat.sub_self, show l.length - i = (l.length - (i + 1)) + 1 by omega, List.replicate_succ, List.set_cons_zero,
    List.getD_eq_getElem?_getD, List.getElem?_eq_getElem hi, Option.getD_some, List.take_succ_eq_append_getElem hi, List.append_assoc, List.singleton_append]
def gl (G : Nat → Int) (m : Nat) : List Int := (List.range m).map G
theorem gl_len (G : Nat → Int) (m : Nat) : (gl G m).length = m := by simp [gl]
theorem gl_get (G : Nat → Int) (m i : Nat) (h : i < m) : (gl G m).getD i 0 = G i := by
  unfold gl; rw [List.getD_eq_getElem?_getD, List.getElem?_map, List.getElem?_range h]; rfl
theorem gl_wok {G : Nat → Int} {m : Nat} (h : ∀ i, i < m → 0 ≤ G i ∧ G i < 18446744073709551616) : wok (gl G m) := by
  intro x hx
  simp only [gl, List.mem_map, List.mem_range] at hx
  obtain ⟨i, hi, rfl⟩ := hx
  exact h i hi
theorem gb_gl {G : Nat → Int} {m : Nat} {f : Nat → Bool} (h : ∀ i r, i < m → r < 64 → (G i).toNat.testBit r = f (64 * i + r)) : ∀ j, j < 64 * m → gb (gl G m) j = f j := by
  intro j hj
  unfold gb
  rw [gl_get G m (j / 64) (by omega), h (j / 64) (j % 64) (by omega) (Nat.mod_lt _ (by decide)), show 64 * (j / 64) + j % 64 = j by omega]
theorem gb_word (ws : List Int) (i r : Nat) (hr : r < 64) : gb ws (64 * i + r) = (ws.getD i 0).toNat.testBit r := by
  unfold gb; rw [show (64 * i + r) / 64 = i by omega, show (64 * i + r) % 64 = r by omega]
theorem comb1 (a : Int) (ws : List Int) (i : Nat) : bitset_combine_1.f a ws (i : Int) = some (ws.getD i 0) := by
  unfold bitset_combine_1.f
  by_cases h : (i : Int) < (ws.length : Int)
  · rw [if_pos h, if_pos (by omega), rd_nat]
  · rw [if_neg h, List.getD_eq_getElem?_getD, List.getElem?_eq_none (by omega)]; rfl
theorem mx_self (n : Nat) : mx (n : Int) (n : Int) = (n : Int) := by unfold mx; split <;> rfl
theorem nn_nat (n : Nat) (h : n ≤ 1048576) : nn (n : Int) = n := by unfold nn; rw [if_neg (by omega)]; rfl
/-- The elements of a set that a sorted list gives. -/

theorem mx_nat (a b : Nat) : mx (a : Int) (b : Int) = ((max a b : Nat) : Int) := by unfold mx; split <;> omega

theorem comb_l0_65 (a b : Int) (wa wb : List Int) (m : Nat) (hm : m ≤ 1000000) (N0 : Int) (G : Nat → Int) (hG : ∀ i, i < m → bitset_And_1.f (wa.getD i 0) (wb.getD i 0) = some (G i)) : ∀ (d i : Nat), i + d = m →
    Ev (fun k => bitset_combine_65.l0 k (m : Int) (i : Int) a wa b wb N0 ((gl G m).take i ++ List.replicate (m - i) 0)) (N0, gl G m) := by
  have hl := gl_len G m
  intro d
  induction d with
  | zero =>
    intro i h
    refine Ev.succ ?_
    simp only [bitset_combine_65.l0]
    refine Ev.neg (by omega) ?_
    refine Ev.eq (Ev.now _) ?_
    rw [show m - i = 0 by omega, List.replicate_zero, List.append_nil, List.take_of_length_le (by omega)]
  | succ d ih =>
    intro i h
    refine Ev.succ ?_
    simp only [bitset_combine_65.l0]
    refine Ev.pos (by omega) ?_
    refine Ev.bind0 (comb1 a wa i) ?_
    refine Ev.bind0 (comb1 b wb i) ?_
    refine Ev.bind0 (hG i (by omega)) ?_
    refine Ev.pos (by omega) ?_
    refine Ev.pos (by simp; omega) ?_
    rw [Int.toNat_natCast, ← gl_get G m i (by omega), set_fill (gl G m) i (by omega) m (by omega), w64_add1 i (by omega)]
    exact ih (i + 1) (by omega)
theorem comb_65 (n : Nat) (hn : n ≤ 1048576) (wa wb : List Int) (G : Nat → Int) (hG : ∀ i, i < wc n → bitset_And_1.f (wa.getD i 0) (wb.getD i 0) = some (G i)) : Ev (fun k => bitset_combine_65.f k (n : Int) wa (n : Int) wb) ((n : Int), gl G (wc n)) := by
  unfold bitset_combine_65.f
  rw [mx_self]
  refine Ev.bind0 (inew (n : Int)) ?_
  rw [nn_nat n hn]
  simp only [List.length_replicate]
  have := comb_l0_65 (n : Int) (n : Int) wa wb (wc n) (by unfold wc; omega) (n : Int) G hG (wc n) 0 (by omega)
  rw [List.take_zero, List.nil_append, Nat.sub_zero] at this
  exact this

theorem comb_l0_60 (a b : Int) (wa wb : List Int) (m : Nat) (hm : m ≤ 1000000) (N0 : Int) (G : Nat → Int) (hG : ∀ i, i < m → bitset_Or_1.f (wa.getD i 0) (wb.getD i 0) = some (G i)) : ∀ (d i : Nat), i + d = m →
    Ev (fun k => bitset_combine_60.l0 k (m : Int) (i : Int) a wa b wb N0 ((gl G m).take i ++ List.replicate (m - i) 0)) (N0, gl G m) := by
  have hl := gl_len G m
  intro d
  induction d with
  | zero =>
    intro i h
    refine Ev.succ ?_
    simp only [bitset_combine_60.l0]
    refine Ev.neg (by omega) ?_
    refine Ev.eq (Ev.now _) ?_
    rw [show m - i = 0 by omega, List.replicate_zero, List.append_nil, List.take_of_length_le (by omega)]
  | succ d ih =>
    intro i h
    refine Ev.succ ?_
    simp only [bitset_combine_60.l0]
    refine Ev.pos (by omega) ?_
    refine Ev.bind0 (comb1 a wa i) ?_
    refine Ev.bind0 (comb1 b wb i) ?_
    refine Ev.bind0 (hG i (by omega)) ?_
    refine Ev.pos (by omega) ?_
    refine Ev.pos (by simp; omega) ?_
    rw [Int.toNat_natCast, ← gl_get G m i (by omega), set_fill (gl G m) i (by omega) m (by omega), w64_add1 i (by omega)]
    exact ih (i + 1) (by omega)
theorem comb_60 (n : Nat) (hn : n ≤ 1048576) (wa wb : List Int) (G : Nat → Int) (hG : ∀ i, i < wc n → bitset_Or_1.f (wa.getD i 0) (wb.getD i 0) = some (G i)) : Ev (fun k => bitset_combine_60.f k (n : Int) wa (n : Int) wb) ((n : Int), gl G (wc n)) := by
  unfold bitset_combine_60.f
  rw [mx_self]
  refine Ev.bind0 (inew (n : Int)) ?_
  rw [nn_nat n hn]
  simp only [List.length_replicate]
  have := comb_l0_60 (n : Int) (n : Int) wa wb (wc n) (by unfold wc; omega) (n : Int) G hG (wc n) 0 (by omega)
  rw [List.take_zero, List.nil_append, Nat.sub_zero] at this
  exact this

theorem comb_l0_64 (a b : Int) (wa wb : List Int) (m : Nat) (hm : m ≤ 1000000) (N0 : Int) (G : Nat → Int) (hG : ∀ i, i < m → bitset_AndNot_1.f (wa.getD i 0) (wb.getD i 0) = some (G i)) : ∀ (d i : Nat), i + d = m →
    Ev (fun k => bitset_combine_64.l0 k (m : Int) (i : Int) a wa b wb N0 ((gl G m).take i ++ List.replicate (m - i) 0)) (N0, gl G m) := by
  have hl := gl_len G m
  intro d
  induction d with
  | zero =>
    intro i h
    refine Ev.succ ?_
    simp only [bitset_combine_64.l0]
    refine Ev.neg (by omega) ?_
    refine Ev.eq (Ev.now _) ?_
    rw [show m - i = 0 by omega, List.replicate_zero, List.append_nil, List.take_of_length_le (by omega)]
  | succ d ih =>
    intro i h
    refine Ev.succ ?_
    simp only [bitset_combine_64.l0]
    refine Ev.pos (by omega) ?_
    refine Ev.bind0 (comb1 a wa i) ?_
    refine Ev.bind0 (comb1 b wb i) ?_
    refine Ev.bind0 (hG i (by omega)) ?_
    refine Ev.pos (by omega) ?_
    refine Ev.pos (by simp; omega) ?_
    rw [Int.toNat_natCast, ← gl_get G m i (by omega), set_fill (gl G m) i (by omega) m (by omega), w64_add1 i (by omega)]
    exact ih (i + 1) (by omega)
theorem comb_64 (n : Nat) (hn : n ≤ 1048576) (wa wb : List Int) (G : Nat → Int) (hG : ∀ i, i < wc n → bitset_AndNot_1.f (wa.getD i 0) (wb.getD i 0) = some (G i)) : Ev (fun k => bitset_combine_64.f k (n : Int) wa (n : Int) wb) ((n : Int), gl G (wc n)) := by
  unfold bitset_combine_64.f
  rw [mx_self]
  refine Ev.bind0 (inew (n : Int)) ?_
  rw [nn_nat n hn]
  simp only [List.length_replicate]
  have := comb_l0_64 (n : Int) (n : Int) wa wb (wc n) (by unfold wc; omega) (n : Int) G hG (wc n) 0 (by omega)
  rw [List.take_zero, List.nil_append, Nat.sub_zero] at this
  exact this

theorem combg_65 (na nb : Nat) (ha : na ≤ 1048576) (hb : nb ≤ 1048576) (wa wb : List Int) (G : Nat → Int) (hG : ∀ i, i < wc (max na nb) → bitset_And_1.f (wa.getD i 0) (wb.getD i 0) = some (G i)) : Ev (fun k => bitset_combine_65.f k (na : Int) wa (nb : Int) wb) (((max na nb : Nat) : Int), gl G (wc (max na nb))) := by
  have hm : mx (na : Int) (nb : Int) = ((max na nb : Nat) : Int) := mx_nat na nb
  have hmx : max na nb ≤ 1048576 := by omega
  unfold bitset_combine_65.f
  rw [hm]
  refine Ev.bind0 (inew ((max na nb : Nat) : Int)) ?_
  rw [nn_nat _ hmx]
  simp only [List.length_replicate]
  have := comb_l0_65 (na : Int) (nb : Int) wa wb (wc (max na nb)) (by unfold wc; omega) ((max na nb : Nat) : Int) G hG (wc (max na nb)) 0 (by omega)
  rw [List.take_zero, List.nil_append, Nat.sub_zero] at this
  exact this

theorem combg_60 (na nb : Nat) (ha : na ≤ 1048576) (hb : nb ≤ 1048576) (wa wb : List Int) (G : Nat → Int) (hG : ∀ i, i < wc (max na nb) → bitset_Or_1.f (wa.getD i 0) (wb.getD i 0) = some (G i)) : Ev (fun k => bitset_combine_60.f k (na : Int) wa (nb : Int) wb) (((max na nb : Nat) : Int), gl G (wc (max na nb))) := by
  have hm : mx (na : Int) (nb : Int) = ((max na nb : Nat) : Int) := mx_nat na nb
  have hmx : max na nb ≤ 1048576 := by omega
  unfold bitset_combine_60.f
  rw [hm]
  refine Ev.bind0 (inew ((max na nb : Nat) : Int)) ?_
  rw [nn_nat _ hmx]
  simp only [List.length_replicate]
  have := comb_l0_60 (na : Int) (nb : Int) wa wb (wc (max na nb)) (by unfold wc; omega) ((max na nb : Nat) : Int) G hG (wc (max na nb)) 0 (by omega)
  rw [List.take_zero, List.nil_append, Nat.sub_zero] at this
  exact this

theorem combg_64 (na nb : Nat) (ha : na ≤ 1048576) (hb : nb ≤ 1048576) (wa wb : List Int) (G : Nat → Int) (hG : ∀ i, i < wc (max na nb) → bitset_AndNot_1.f (wa.getD i 0) (wb.getD i 0) = some (G i)) : Ev (fun k => bitset_combine_64.f k (na : Int) wa (nb : Int) wb) (((max na nb : Nat) : Int), gl G (wc (max na nb))) := by
  have hm : mx (na : Int) (nb : Int) = ((max na nb : Nat) : Int) := mx_nat na nb
  have hmx : max na nb ≤ 1048576 := by omega
  unfold bitset_combine_64.f
  rw [hm]
  refine Ev.bind0 (inew ((max na nb : Nat) : Int)) ?_
  rw [nn_nat _ hmx]
  simp only [List.length_replicate]
  have := comb_l0_64 (na : Int) (nb : Int) wa wb (wc (max na nb)) (by unfold wc; omega) ((max na nb : Nat) : Int) G hG (wc (max na nb)) 0 (by omega)
  rw [List.take_zero, List.nil_append, Nat.sub_zero] at this
  exact this

/-! ### And, Or, AndNot, Not -/
theorem nat_of {x : Int} (h : 0 ≤ x ∧ x < 18446744073709551616) : ∃ n : Nat, x = (n : Int) ∧ n < 18446744073709551616 := ⟨x.toNat, by omega, by omega⟩
theorem andNot_nat (x y : Nat) (hx : x < 18446744073709551616) (hy : y < 18446744073709551616) : Go.bits .andNot .u64 (x : Int) (y : Int) = ((x &&& (2 ^ 64 - (y + 1)) : Nat) : Int) := by
  have hx' : x % 2 ^ 64 = x := Nat.mod_eq_of_lt (by omega)
  have hy' : y % 2 ^ 64 = y := Nat.mod_eq_of_lt (by omega)
  have h3 : x &&& (2 ^ 64 - (y + 1)) ≤ x := Nat.and_le_left
  have e : (BitVec.ofNat 64 x &&& ~~~BitVec.ofNat 64 y : BitVec 64).toNat = x &&& (2 ^ 64 - (y + 1)) := by
    rw [BitVec.toNat_and, BitVec.toNat_not, BitVec.toNat_ofNat, BitVec.toNat_ofNat, hx', hy']
    congr 1
    omega
  simp only [Go.bits, IntKind.bits, BitVec.ofInt_natCast, wrap_u64]
  exact (congrArg (fun n : Nat => (n : Int) % 18446744073709551616) e).trans (by omega)
def band (n : Nat) (wa wb : List Int) : List Int := gl (fun i => (((wa.getD i 0).toNat &&& (wb.getD i 0).toNat : Nat) : Int)) (wc n)
def bor (n : Nat) (wa wb : List Int) : List Int := gl (fun i => (((wa.getD i 0).toNat ||| (wb.getD i 0).toNat : Nat) : Int)) (wc n)
def bandn (n : Nat) (wa wb : List Int) : List Int := gl (fun i => (((wa.getD i 0).toNat &&& (2 ^ 64 - ((wb.getD i 0).toNat + 1)) : Nat) : Int)) (wc n)
theorem and_ev (n : Nat) (hn : n ≤ 1048576) (wa wb : List Int) (ha : wok wa) (hb : wok wb) : Ev (fun k => bitset_And.f k (n : Int) wa (n : Int) wb) ((n : Int), band n wa wb) := by
  unfold bitset_And.f
  refine Ev.bind (comb_65 n hn wa wb _ (fun i _ => ?_)) (Ev.now _)
  obtain ⟨x, ex, hx⟩ := nat_of (wok_get ha i)
  obtain ⟨y, ey, hy⟩ := nat_of (wok_get hb i)
  unfold bitset_And_1.f
  rw [ex, ey, and_nat x y hx hy]; rfl
theorem or_ev (n : Nat) (hn : n ≤ 1048576) (wa wb : List Int) (ha : wok wa) (hb : wok wb) : Ev (fun k => bitset_Or.f k (n : Int) wa (n : Int) wb) ((n : Int), bor n wa wb) := by
  unfold bitset_Or.f
  refine Ev.bind (comb_60 n hn wa wb _ (fun i _ => ?_)) (Ev.now _)
  obtain ⟨x, ex, hx⟩ := nat_of (wok_get ha i)
  obtain ⟨y, ey, hy⟩ := nat_of (wok_get hb i)
  unfold bitset_Or_1.f
  rw [ex, ey, or_nat x y hx hy]; rfl
theorem andn_ev (n : Nat) (hn : n ≤ 1048576) (wa wb : List Int) (ha : wok wa) (hb : wok wb) : Ev (fun k => bitset_AndNot.f k (n : Int) wa (n : Int) wb) ((n : Int), bandn n wa wb) := by
  unfold bitset_AndNot.f
  refine Ev.bind (comb_64 n hn wa wb _ (fun i _ => ?_)) (Ev.now _)
  obtain ⟨x, ex, hx⟩ := nat_of (wok_get ha i)
  obtain ⟨y, ey, hy⟩ := nat_of (wok_get hb i)
  unfold bitset_AndNot_1.f
  rw [ex, ey, andNot_nat x y hx hy]; rfl
theorem band_wok {n : Nat} {wa wb : List Int} (ha : wok wa) : wok (band n wa wb) := gl_wok fun i _ => by
  have h := wok_get ha i
  have : (wa.getD i 0).toNat &&& (wb.getD i 0).toNat ≤ (wa.getD i 0).toNat := Nat.and_le_left
  omega
theorem bor_wok {n : Nat} {wa wb : List Int} (ha : wok wa) (hb : wok wb) : wok (bor n wa wb) := gl_wok fun i _ => by
  have h1 := wok_get ha i
  have h2 := wok_get hb i
  have : (wa.getD i 0).toNat ||| (wb.getD i 0).toNat < 2 ^ 64 := Nat.or_lt_two_pow (by omega) (by omega)
  omega
theorem bandn_wok {n : Nat} {wa wb : List Int} (ha : wok wa) : wok (bandn n wa wb) := gl_wok fun i _ => by
  have h := wok_get ha i
  have : (wa.getD i 0).toNat &&& (2 ^ 64 - ((wb.getD i 0).toNat + 1)) ≤ (wa.getD i 0).toNat := Nat.and_le_left
  omega
theorem gb_band {n : Nat} {wa wb : List Int} : ∀ j, j < 64 * wc n → gb (band n wa wb) j = (gb wa j && gb wb j) := gb_gl fun i r _ hr => by
  simp only [Int.toNat_natCast]
  rw [Nat.testBit_and, gb_word _ _ _ hr, gb_word _ _ _ hr]
theorem gb_bor {n : Nat} {wa wb : List Int} : ∀ j, j < 64 * wc n → gb (bor n wa wb) j = (gb wa j || gb wb j) := gb_gl fun i r _ hr => by
  simp only [Int.toNat_natCast]
  rw [Nat.testBit_or, gb_word _ _ _ hr, gb_word _ _ _ hr]
theorem gb_bandn {n : Nat} {wa wb : List Int} (hb : wok wb) : ∀ j, j < 64 * wc n → gb (bandn n wa wb) j = (gb wa j && !gb wb j) := gb_gl fun i r _ hr => by
  have h := wok_get hb i
  simp only [Int.toNat_natCast]
  rw [Nat.testBit_and, Nat.testBit_two_pow_sub_succ (by omega), gb_word _ _ _ hr, gb_word _ _ _ hr, decide_eq_true hr, Bool.true_and]
-- Not: the words turned, the last one cut.

/-! ### And, Or, AndNot of two sizes -/
theorem andg_ev (na nb : Nat) (hna : na ≤ 1048576) (hnb : nb ≤ 1048576) (wa wb : List Int) (ha : wok wa) (hb : wok wb) : Ev (fun k => bitset_And.f k (na : Int) wa (nb : Int) wb) (((max na nb : Nat) : Int), band (max na nb) wa wb) := by
  unfold bitset_And.f
  refine Ev.bind (combg_65 na nb hna hnb wa wb _ (fun i _ => ?_)) (Ev.now _)
  obtain ⟨x, ex, hx⟩ := nat_of (wok_get ha i)
  obtain ⟨y, ey, hy⟩ := nat_of (wok_get hb i)
  unfold bitset_And_1.f
  rw [ex, ey, and_nat x y hx hy]; rfl
theorem org_ev (na nb : Nat) (hna : na ≤ 1048576) (hnb : nb ≤ 1048576) (wa wb : List Int) (ha : wok wa) (hb : wok wb) : Ev (fun k => bitset_Or.f k (na : Int) wa (nb : Int) wb) (((max na nb : Nat) : Int), bor (max na nb) wa wb) := by
  unfold bitset_Or.f
  refine Ev.bind (combg_60 na nb hna hnb wa wb _ (fun i _ => ?_)) (Ev.now _)
  obtain ⟨x, ex, hx⟩ := nat_of (wok_get ha i)
  obtain ⟨y, ey, hy⟩ := nat_of (wok_get hb i)
  unfold bitset_Or_1.f
  rw [ex, ey, or_nat x y hx hy]; rfl
theorem andng_ev (na nb : Nat) (hna : na ≤ 1048576) (hnb : nb ≤ 1048576) (wa wb : List Int) (ha : wok wa) (hb : wok wb) : Ev (fun k => bitset_AndNot.f k (na : Int) wa (nb : Int) wb) (((max na nb : Nat) : Int), bandn (max na nb) wa wb) := by
  unfold bitset_AndNot.f
  refine Ev.bind (combg_64 na nb hna hnb wa wb _ (fun i _ => ?_)) (Ev.now _)
  obtain ⟨x, ex, hx⟩ := nat_of (wok_get ha i)
  obtain ⟨y, ey, hy⟩ := nat_of (wok_get hb i)
  unfold bitset_AndNot_1.f
  rw [ex, ey, andNot_nat x y hx hy]; rfl

/-! ### the operations as sets -/
theorem set_of {n : Nat} {ws : List Int} {f : Nat → Bool} (hl : ws.length = wc n) (hw : wok ws) (h : ∀ j, j < 64 * wc n → gb ws j = f j) (hf : ∀ j, n ≤ j → f j = false) : ws = wof n f := by
  refine wof_eq hl hw (fun i => ?_)
  by_cases c : i < 64 * wc n
  · rw [h i c]
    by_cases d : i < n
    · rw [decide_eq_true d, Bool.true_and]
    · rw [decide_eq_false d, Bool.false_and, hf i (by omega)]
  · have := wc_le n
    rw [gb_out (by omega), decide_eq_false (by omega), Bool.false_and]
theorem band_w {na nb : Nat} {wa wb : List Int} (ha : wok wa) (za : ∀ j, na ≤ j → gb wa j = false) : band (max na nb) wa wb = wof (max na nb) (fun j => gb wa j && gb wb j) :=
  set_of (gl_len _ _) (band_wok ha) gb_band (fun j hj => by rw [za j (by omega), Bool.false_and])
theorem bor_w {na nb : Nat} {wa wb : List Int} (ha : wok wa) (hb : wok wb) (za : ∀ j, na ≤ j → gb wa j = false) (zb : ∀ j, nb ≤ j → gb wb j = false) : bor (max na nb) wa wb = wof (max na nb) (fun j => gb wa j || gb wb j) :=
  set_of (gl_len _ _) (bor_wok ha hb) gb_bor (fun j hj => by rw [za j (by omega), zb j (by omega), Bool.false_or])
theorem bandn_w {na nb : Nat} {wa wb : List Int} (ha : wok wa) (hb : wok wb) (za : ∀ j, na ≤ j → gb wa j = false) : bandn (max na nb) wa wb = wof (max na nb) (fun j => gb wa j && !gb wb j) :=
  set_of (gl_len _ _) (bandn_wok ha) (gb_bandn hb) (fun j hj => by rw [za j (by omega), Bool.false_and])

/-! ### the reference's operations -/
theorem con_z (N i : Nat) (ws : List Int) (hl : ws.length = wc N) (hw : wok ws) (hN : N ≤ 1048576) (hz : ∀ j, N ≤ j → gb ws j = false) : laminaref03_Contains.f (N : Int) ws (i : Int) = some (gb ws i) := by
  rw [r03con N i ws hl hw (by omega)]
  by_cases c : i < N
  · rw [decide_eq_true c, Bool.true_and]
  · rw [decide_eq_false c, Bool.false_and, hz i (by omega)]

theorem icon (N : Nat) (ws : List Int) (hw : wok ws) (hl : ws.length = wc N) (hN : N ≤ 1048576) (a : Int) : bitset_Contains.f (N : Int) ws a = some (decide (0 ≤ a ∧ a < (N : Int)) && gb ws a.toNat) := by
  unfold bitset_Contains.f
  by_cases c : a ≥ 0
  · rw [if_pos c]
    obtain ⟨i, rfl⟩ := Int.eq_ofNat_of_zero_le c
    by_cases h : (i : Int) < (N : Int)
    · have hq : i / 64 < ws.length := by rw [hl]; unfold wc; omega
      rw [if_pos h, tdiv64 i (by omega), tmod64 i, if_pos (by omega), if_pos (by omega), if_pos (by omega), rd_nat]
      have h2 := wok_get hw (i / 64)
      rw [bit_one _ h2.1 h2.2 _ (Nat.mod_lt _ (by decide)), decide_eq_true ⟨c, h⟩]
      simp [gb]
    · rw [if_neg h, decide_eq_false (by omega)]; rfl
  · rw [if_neg c, decide_eq_false (by omega)]; rfl

/-! ### how many bits: Count, Rank -/
theorem and127_i64 (z : Nat) (hz : z < 9223372036854775808) : Go.bits .and .i64 (z : Int) 127 = ((z % 128 : Nat) : Int) := by
  have h1 : z % 2 ^ IntKind.i64.bits = z := Nat.mod_eq_of_lt (Nat.lt_of_lt_of_le hz (by decide))
  have h2 : BitVec.ofInt IntKind.i64.bits 127 = BitVec.ofNat IntKind.i64.bits 127 := by decide
  have h3 : z &&& 127 = z % 128 := Nat.and_two_pow_sub_one_eq_mod z 7
  have h4 : z % 128 < 128 := Nat.mod_lt _ (by decide)
  have h5 : 127 % 2 ^ IntKind.i64.bits = 127 := by decide
  simp only [Go.bits, BitVec.ofInt_natCast, h2, BitVec.toNat_and, BitVec.toNat_ofNat, h1, h5, h3, IntKind.wrap_i64]
  omega
theorem oc_ev (x : Nat) (hx : x < 18446744073709551616) : bits_OnesCount64.f (x : Int) = some ((cB (fun i => x.testBit i) 0 64 : Nat) : Int) := by
  have hM1 : Mk 0x55 8 = 6148914691236517205 := by decide
  have hM2 : Mk 0x33 8 = 3689348814741910323 := by decide
  have hM3 : Mk 0x0f 8 = 1085102592571150095 := by decide
  unfold bits_OnesCount64.f
  rw [← ones_eq]
  unfold ones
  dsimp only
  have a1 : Go.bits .and .u64 ((x : Int) / 2) 6148914691236517205 = ((x / 2 &&& 6148914691236517205 : Nat) : Int) := by
    rw [show ((x : Int) / 2) = ((x / 2 : Nat) : Int) by omega]
    exact and_nat (x / 2) 6148914691236517205 (by omega) (by decide)
  have a2 : Go.bits .and .u64 (x : Int) 6148914691236517205 = ((x &&& 6148914691236517205 : Nat) : Int) := and_nat x 6148914691236517205 hx (by decide)
  obtain ⟨p, hp⟩ : ∃ p, p = P1 x 8 := ⟨_, rfl⟩
  have hpv : p = (x / 2 &&& 6148914691236517205) + (x &&& 6148914691236517205) := by rw [hp]; unfold P1; rw [hM1]
  have l1 : x / 2 &&& 6148914691236517205 ≤ 6148914691236517205 := Nat.and_le_right
  have l2 : x &&& 6148914691236517205 ≤ 6148914691236517205 := Nat.and_le_right
  have y1 : IntKind.u64.wrap ((Go.bits .and .u64 ((x : Int) / 2) 6148914691236517205) + (Go.bits .and .u64 (x : Int) 6148914691236517205)) = (p : Int) := by
    rw [a1, a2, wraps_u64 _ (by omega) (by omega), hpv]; omega
  rw [y1, ← hp]
  have hp64 : p < 18446744073709551616 := by omega
  clear a1 a2 y1 hpv l1 l2 hp hx
  have b1 : Go.bits .and .u64 ((p : Int) / 4) 3689348814741910323 = ((p / 4 &&& 3689348814741910323 : Nat) : Int) := by
    rw [show ((p : Int) / 4) = ((p / 4 : Nat) : Int) by omega]
    exact and_nat (p / 4) 3689348814741910323 (by omega) (by decide)
  have b2 : Go.bits .and .u64 (p : Int) 3689348814741910323 = ((p &&& 3689348814741910323 : Nat) : Int) := and_nat p 3689348814741910323 hp64 (by decide)
  obtain ⟨q, hq⟩ : ∃ q, q = P2 p 8 := ⟨_, rfl⟩
  have hqv : q = (p / 4 &&& 3689348814741910323) + (p &&& 3689348814741910323) := by rw [hq]; unfold P2; rw [hM2]
  have l1 : p / 4 &&& 3689348814741910323 ≤ 3689348814741910323 := Nat.and_le_right
  have l2 : p &&& 3689348814741910323 ≤ 3689348814741910323 := Nat.and_le_right
  have y2 : IntKind.u64.wrap ((Go.bits .and .u64 ((p : Int) / 4) 3689348814741910323) + (Go.bits .and .u64 (p : Int) 3689348814741910323)) = (q : Int) := by
    rw [b1, b2, wraps_u64 _ (by omega) (by omega), hqv]; omega
  rw [y2, ← hq]
  have hq64 : q ≤ 7378697629483820646 := by omega
  clear b1 b2 y2 hqv l1 l2 hq hp64
  obtain ⟨s, hs⟩ : ∃ s, s = P3 q 8 := ⟨_, rfl⟩
  have hsv : s = (q / 16 + q) &&& 1085102592571150095 := by rw [hs]; unfold P3; rw [hM3]
  have l3 : (q / 16 + q) &&& 1085102592571150095 ≤ 1085102592571150095 := Nat.and_le_right
  have y3 : Go.bits .and .u64 (IntKind.u64.wrap ((q : Int) / 16 + (q : Int))) 1085102592571150095 = (s : Int) := by
    rw [wraps_u64 _ (by omega) (by omega), show (q : Int) / 16 + (q : Int) = ((q / 16 + q : Nat) : Int) by omega, hsv]
    exact and_nat (q / 16 + q) 1085102592571150095 (by omega) (by decide)
  rw [y3, ← hs]
  have hs64 : s ≤ 1085102592571150095 := by omega
  clear y3 hsv l3 hs hq64
  have y4 : IntKind.u64.wrap ((s : Int) + (s : Int) / 256) = ((s + s / 256 : Nat) : Int) := by
    rw [wraps_u64 _ (by omega) (by omega)]; omega
  rw [y4]
  obtain ⟨u, hu⟩ : ∃ u, u = s + s / 256 := ⟨_, rfl⟩
  rw [← hu]
  have hu64 : u ≤ 2000000000000000000 := by omega
  clear y4 hu hs64
  have y5 : IntKind.u64.wrap ((u : Int) + (u : Int) / 65536) = ((u + u / 65536 : Nat) : Int) := by
    rw [wraps_u64 _ (by omega) (by omega)]; omega
  rw [y5]
  obtain ⟨v, hv⟩ : ∃ v, v = u + u / 65536 := ⟨_, rfl⟩
  rw [← hv]
  have hv64 : v ≤ 3000000000000000000 := by omega
  clear y5 hv hu64
  have y6 : wrap64 (IntKind.u64.wrap ((v : Int) + (v : Int) / 4294967296)) = ((v + v / 4294967296 : Nat) : Int) := by
    rw [wraps_u64 _ (by omega) (by omega), w64 _ (by omega) (by omega)]; omega
  rw [y6]
  obtain ⟨z, hz⟩ : ∃ z, z = v + v / 4294967296 := ⟨_, rfl⟩
  rw [← hz]
  have hz64 : z ≤ 4000000000000000000 := by omega
  rw [and127_i64 z (by omega)]
theorem cB_word (ws : List Int) (i : Nat) : cB (fun r => (ws.getD i 0).toNat.testBit r) 0 64 = cB (gb ws) (64 * i) 64 := by
  have h := cB_shift (gb ws) (64 * i) 0 64
  rw [Nat.add_zero] at h
  rw [← h]
  unfold cB
  congr 1
  exact els_congr 64 0 (fun r _ hr => (gb_word ws i r (by omega)).symm)
theorem cB_le (f : Nat → Bool) (lo n : Nat) : cB f lo n ≤ n := els_len_le n lo
theorem icount_l0 (N : Int) (ws : List Int) (hw : wok ws) (hl : ws.length ≤ 1000000) : ∀ (d i acc : Nat), i + d = ws.length → acc ≤ 64 * i → Ev (fun k => bitset_Count.l0 k (acc : Int) ws (ws.length : Int) (i : Int)) ((acc + cB (gb ws) (64 * i) (64 * d) : Nat) : Int) := by
  intro d
  induction d with
  | zero =>
    intro i acc h1 h2
    refine Ev.succ ?_
    simp only [bitset_Count.l0]
    refine Ev.neg (by omega) ?_
    exact Ev.now _
  | succ d ih =>
    intro i acc h1 h2
    refine Ev.succ ?_
    simp only [bitset_Count.l0]
    refine Ev.pos (by omega) ?_
    refine Ev.pos (by omega) ?_
    refine Ev.pos (by omega) ?_
    rw [rd_nat]
    have hr := wok_get hw i
    obtain ⟨x, ex, hx⟩ := nat_of hr
    have hcw := cB_word ws i
    rw [ex, Int.toNat_natCast] at hcw
    rw [ex]
    refine Ev.bind0 (oc_ev x hx) ?_
    rw [hcw]
    have hc := cB_le (gb ws) (64 * i) 64
    rw [w64_add acc _ (by omega), w64_add1 i (by omega)]
    refine Ev.eq (ih (i + 1) (acc + cB (gb ws) (64 * i) 64) (by omega) (by omega)) ?_
    rw [show 64 * (d + 1) = 64 + 64 * d by omega, cB_add, show 64 * i + 64 = 64 * (i + 1) by omega, Nat.add_assoc]
theorem icount_ev (N : Int) (ws : List Int) (hw : wok ws) (hl : ws.length ≤ 1000000) : Ev (fun k => bitset_Count.f k N ws) ((cB (gb ws) 0 (64 * ws.length) : Nat) : Int) := by
  unfold bitset_Count.f
  have := icount_l0 N ws hw hl ws.length 0 0 (by omega) (by omega)
  simpa using this
theorem cB_cut {f : Nat → Bool} {n m : Nat} (h : n ≤ m) (hz : ∀ j, n ≤ j → f j = false) : cB f 0 m = cB f 0 n := by
  obtain ⟨c, rfl⟩ : ∃ c, m = n + c := ⟨m - n, by omega⟩
  rw [cB_add]
  unfold cB
  rw [els_none c (0 + n) (fun i h1 _ => hz i (by omega))]
  simp
/-- min(max(i, 0), N). -/
def cl (a : Int) (N : Nat) : Nat := if a < 0 then 0 else if (N : Int) < a then N else a.toNat

/-- The checksum of a list of bytes. -/
def cks (b : List Int) : Nat := 4294967295 ^^^ crcR 4294967295 b
theorem cks_lt (b : List Int) (hb : ∀ x ∈ b, 0 ≤ x ∧ x < 256) : cks b < 4294967296 :=
  Nat.xor_lt_two_pow (n := 32) (by decide) (crcR_lt b _ (by decide) hb)
theorem ck_all {b : List Int} (hb : ∀ x ∈ b, 0 ≤ x ∧ x < 256) : (b.all fun x => decide (0 ≤ x) && decide (x < 256)) = true := by
  simp only [List.all_eq_true, Bool.and_eq_true, decide_eq_true_eq]; exact hb
theorem ck_crc (ls : List (List Int)) (hb : ∀ l ∈ ls, ∀ x ∈ l, 0 ≤ x ∧ x < 256) : checksum_CRC.f ls = some ((4294967295 ^^^ crcF 4294967295 ls : Nat) : Int) := by
  unfold checksum_CRC.f
  rw [if_pos]
  rw [List.all_eq_true]
  exact fun l hl => ck_all (hb l hl)
theorem ck_crc1 (b : List Int) (hb : ∀ x ∈ b, 0 ≤ x ∧ x < 256) : checksum_CRC.f [b] = some ((cks b : Nat) : Int) :=
  ck_crc [b] (by intro l hl; obtain rfl := List.mem_singleton.1 hl; exact hb)

/-! ### reading fixed numbers -/
def rfx (b : List Int) (o s : Int) : Int × Int :=
  if s < 1 ∨ 8 < s ∨ o < 0 ∨ (b.length : Int) < o then (0, 1) else if (b.length : Int) - o < s then (0, 2) else (((le ((b.drop o.toNat).take s.toNat) : Nat) : Int), 0)
theorem rdf_l0 (b : List Int) (hb : ∀ x ∈ b, 0 ≤ x ∧ x < 256) (hlen : b.length < 4611686018427387904) (o s : Nat) (hs : s ≤ 8) (ho : o + s ≤ b.length) :
    ∀ (f i : Nat), i + f = s → Ev (fun k => varint_ReadFixed.l0 k b o ((le ((b.drop o).take i) : Nat) : Int) s i) (((le ((b.drop o).take s) : Nat) : Int), 0) := by
  intro f
  induction f with
  | zero =>
    intro i hi
    refine Ev.succ ?_
    simp only [varint_ReadFixed.l0]
    refine Ev.neg (by omega) ?_
    rw [show i = s by omega]
    exact Ev.now _
  | succ f ih =>
    intro i hi
    have hlt : o + i < b.length := by omega
    have hr := getD_range hb hlt
    obtain ⟨c, hc⟩ := Int.eq_ofNat_of_zero_le hr.1
    rw [hc] at hr
    have hl : ((b.drop o).take i).length = i := by rw [List.length_take, List.length_drop]; omega
    have hall : ∀ x ∈ (b.drop o).take i, 0 ≤ x ∧ x < 256 := fun x hx => hb x (List.mem_of_mem_drop (List.mem_of_mem_take hx))
    have hle := le_lt ((b.drop o).take i) hall
    rw [hl] at hle
    have htake : (b.drop o).take (i + 1) = (b.drop o).take i ++ [(c : Int)] := by
      rw [List.take_succ_eq_append_getElem (by rw [List.length_drop]; omega)]
      congr 2
      rw [List.getElem_drop]
      rw [← hc, List.getD_eq_getElem?_getD, List.getElem?_eq_getElem hlt]; rfl
    have hle2 : le ((b.drop o).take (i + 1)) = le ((b.drop o).take i) + c * 256 ^ i := by
      rw [htake, le_append, hl]; simp [le, Nat.mul_comm]
    have hp7 : 256 ^ i ≤ 256 ^ 7 := Nat.pow_le_pow_right (by decide) (by omega)
    have h7 : (256 : Nat) ^ 7 = 72057594037927936 := by decide
    have hcb : c * 256 ^ i ≤ 255 * 72057594037927936 := Nat.mul_le_mul (by omega) (by omega)
    have e1 : shl .u64 (IntKind.u64.wrap (rd b (((o + i : Nat)) : Int))) (wrap64 (8 * (i : Int))) = ((c * 256 ^ i : Nat) : Int) := by
      have e : min (8 * (i : Int)).toNat 64 = 8 * i := by omega
      have e2 : (2 : Int) ^ (8 * i) = ((256 ^ i : Nat) : Int) := by rw [Int.pow_mul]; simp
      rw [rd_nat, hc, wrap_u64_of (c : Int) (by omega) (by omega), w64 _ (by omega) (by omega)]
      unfold shl
      rw [show IntKind.u64.bits = 64 from rfl, e, e2, show (c : Int) * ((256 ^ i : Nat) : Int) = ((c * 256 ^ i : Nat) : Int) by simp]
      exact wrap_u64_of _ (by omega) (by omega)
    have e2 : bits .or .u64 ((le ((b.drop o).take i) : Nat) : Int) ((c * 256 ^ i : Nat) : Int) = ((le ((b.drop o).take (i + 1)) : Nat) : Int) := by
      have e2 : (2 : Int) ^ (8 * i) = ((256 ^ i : Nat) : Int) := by rw [Int.pow_mul]; simp
      rw [or_add (8 * i) _ _ (by omega) (by rw [e2]; omega) (by omega) (by omega) (by omega) ?_, hle2]
      · omega
      · rw [e2, show ((c * 256 ^ i : Nat) : Int) = (c : Int) * ((256 ^ i : Nat) : Int) from Int.natCast_mul _ _]; exact Int.mul_emod_left _ _
    refine Ev.succ ?_
    simp only [varint_ReadFixed.l0, w64_add o i (by omega), e1, e2, w64_add1 i (by omega)]
    clear e1 e2
    refine Ev.pos (by omega) ?_
    refine Ev.pos (by omega) ?_
    refine Ev.pos (by omega) ?_
    refine Ev.pos (by rw [w64 _ (by omega) (by omega)]; omega) ?_
    exact ih (i + 1) (by omega)
theorem rdf_ev (b : List Int) (hb : ∀ x ∈ b, 0 ≤ x ∧ x < 256) (hlen : b.length < 4611686018427387904) (o s : Int) : Ev (fun k => varint_ReadFixed.f k b o s) (rfx b o s) := by
  unfold varint_ReadFixed.f
  have bad : (s < 1 ∨ 8 < s ∨ o < 0 ∨ (b.length : Int) < o) → Ev (fun k => varint_ReadFixed.j0 k b o s true) (rfx b o s) := fun h => by
    unfold rfx
    rw [if_pos h]
    refine Ev.succ ?_
    simp only [varint_ReadFixed.j0]
    refine Ev.pos (by decide) ?_
    exact Ev.now _
  by_cases h1 : s < 1
  · refine Ev.pos h1 ?_
    exact bad (by omega)
  refine Ev.neg h1 ?_
  by_cases h8 : 8 < s
  · refine Ev.pos h8 ?_
    exact bad (by omega)
  refine Ev.neg h8 ?_
  by_cases h0 : o < 0
  · refine Ev.pos h0 ?_
    exact bad (by omega)
  refine Ev.neg h0 ?_
  by_cases hl : (b.length : Int) < o
  · rw [show decide (o > (b.length : Int)) = true by simpa using hl]
    exact bad (by omega)
  rw [show decide (o > (b.length : Int)) = false by simpa using hl]
  unfold rfx
  rw [if_neg (by omega)]
  obtain ⟨m, rfl⟩ := Int.eq_ofNat_of_zero_le (show 0 ≤ s by omega)
  obtain ⟨n, rfl⟩ := Int.eq_ofNat_of_zero_le (show 0 ≤ o by omega)
  refine Ev.succ ?_
  simp only [varint_ReadFixed.j0, w64 ((b.length : Int) - (n : Int)) (by omega) (by omega)]
  refine Ev.neg (by decide) ?_
  by_cases hsh : (b.length : Int) - n < m
  · refine Ev.pos hsh ?_
    exact Ev.eq (Ev.now _) (by rw [if_pos hsh])
  · refine Ev.neg hsh ?_
    rw [if_neg hsh, Int.toNat_natCast, Int.toNat_natCast]
    have := rdf_l0 b hb hlen n m (by omega) (by omega) m 0 (by omega)
    simpa [le] using this

/-! ### Open -/
def copn (b : List Int) : List Int × Int :=
  if b.length < 4 then ([], 2) else if cks (b.take (b.length - 4)) = le (b.drop (b.length - 4)) then (b.take (b.length - 4), 0) else ([], 5)
theorem ck_open_ev (b : List Int) (hb : ∀ x ∈ b, 0 ≤ x ∧ x < 256) (hl : b.length < 140737488355328) : Ev (fun k => checksum_Open.f k b) (copn b) := by
  unfold checksum_Open.f copn
  rw [w64 _ (by omega) (by omega)]
  by_cases h4 : b.length < 4
  · rw [if_pos h4]
    refine Ev.pos (by omega) ?_
    exact Ev.now _
  · rw [if_neg h4]
    refine Ev.neg (by omega) ?_
    obtain ⟨n, hn⟩ : ∃ n, n = b.length - 4 := ⟨_, rfl⟩
    have e1 : (b.length : Int) - 4 = (n : Int) := by omega
    rw [e1, ← hn, Int.toNat_natCast]
    have hr := rdf_ev b hb (by omega) (n : Int) 4
    have e2 : rfx b (n : Int) 4 = (((le (b.drop n) : Nat) : Int), 0) := by
      unfold rfx
      rw [if_neg (by omega), if_neg (by omega), Int.toNat_natCast, List.take_of_length_le (by rw [List.length_drop]; show _ ≤ (4 : Int).toNat; have : (4 : Int).toNat = 4 := rfl; omega)]
    rw [e2] at hr
    refine Ev.bind hr ?_
    refine Ev.pos rfl ?_
    refine Ev.pos (by omega) ?_
    refine Ev.pos (by omega) ?_
    have hbt : ∀ x ∈ b.take n, 0 ≤ x ∧ x < 256 := fun x hx => hb x (List.mem_of_mem_take hx)
    refine Ev.bind0 (ck_crc1 _ hbt) ?_
    have hc := cks_lt _ hbt
    rw [wraps_u64 _ (by omega) (by omega)]
    by_cases he : cks (b.take n) = le (b.drop n)
    · rw [if_pos he]
      refine Ev.pos (by rw [he]) ?_
      refine Ev.bind0 rfl ?_
      refine Ev.pos (by simp only [List.length_nil, List.length_take]; omega) ?_
      exact Ev.eq (Ev.now _) (by simp)
    · rw [if_neg he]
      refine Ev.neg (by omega) ?_
      exact Ev.now _

/-! ### fixed numbers -/
theorem shr_256 (n i : Nat) (hi : i ≤ 7) (hn : n < 18446744073709551616) : (shr .u64 (n : Int) (wrap64 (8 * (i : Int)))) % 256 = ((n / 256 ^ i % 256 : Nat) : Int) := by
  have e : min (8 * (i : Int)).toNat 64 = 8 * i := by omega
  have e2 : (2 : Int) ^ (8 * i) = ((256 ^ i : Nat) : Int) := by rw [Int.pow_mul]; simp
  rw [w64 _ (by omega) (by omega)]
  unfold shr
  rw [show IntKind.u64.bits = 64 from rfl, e, e2, ← Int.natCast_ediv]
  rfl
theorem fix_l0 (n s : Nat) (hs : s ≤ 8) (hn : n < 18446744073709551616) : ∀ (f i : Nat) (l : List Int), i + f = s → l.length = s → l.take i = (fixed n s).take i → 
    Ev (fun k => varint_Fixed.l0 k n l s i) (fixed n s) := by
  intro f
  induction f with
  | zero =>
    intro i l hi hl ht
    refine Ev.succ ?_
    simp only [varint_Fixed.l0]
    refine Ev.neg (by omega) ?_
    refine Ev.eq (Ev.now _) ?_
    rw [List.take_of_length_le (by omega), List.take_of_length_le (by rw [fixed_len]; omega)] at ht
    exact ht
  | succ f ih =>
    intro i l hi hl ht
    refine Ev.succ ?_
    simp only [varint_Fixed.l0, shr_256 n i (by omega) hn, w64_add1 i (by omega), Int.toNat_natCast]
    refine Ev.pos (by omega) ?_
    refine Ev.pos (by rw [w64 _ (by omega) (by omega)]; omega) ?_
    refine Ev.pos (by omega) ?_
    refine Ev.pos (by omega) ?_
    refine ih (i + 1) _ (by omega) (by rw [List.length_set, hl]) ?_
    have hlt : i < (fixed n s).length := by rw [fixed_len]; omega
    rw [List.take_succ_eq_append_getElem (by rw [List.length_set]; omega), List.take_succ_eq_append_getElem hlt, List.getElem_set_self, List.take_set_of_le (by omega), ht]
    congr 2
    rw [fixed_get n s i (by omega)]
theorem fix_ev (n : Nat) (hn : n < 18446744073709551616) (s : Int) : Ev (fun k => varint_Fixed.f k n s) (if s < 1 ∨ 8 < s then [] else fixed n s.toNat) := by
  unfold varint_Fixed.f
  have bad : (s < 1 ∨ 8 < s) → Ev (fun k => varint_Fixed.j0 k n s true) (if s < 1 ∨ 8 < s then [] else fixed n s.toNat) := fun h => by
    rw [if_pos h]
    refine Ev.succ ?_
    simp only [varint_Fixed.j0]
    refine Ev.pos (by decide) ?_
    exact Ev.now _
  by_cases h1 : s < 1
  · refine Ev.pos h1 ?_
    exact bad (.inl h1)
  refine Ev.neg h1 ?_
  by_cases h8 : 8 < s
  · rw [show decide (s > 8) = true by simpa using h8]
    exact bad (.inr h8)
  · rw [show decide (s > 8) = false by simpa using h8, if_neg (by omega)]
    refine Ev.succ ?_
    simp only [varint_Fixed.j0]
    refine Ev.neg (by decide) ?_
    refine Ev.pos (by omega) ?_
    refine Ev.pos (by omega) ?_
    obtain ⟨m, rfl⟩ := Int.eq_ofNat_of_zero_le (show 0 ≤ s by omega)
    rw [Int.toNat_natCast]
    exact fix_l0 n m (by omega) hn m 0 _ (by omega) (by rw [List.length_replicate]) (by simp)

/-! ### varint.Concat -/
theorem cat_l0 (l : List (List Int)) (hl : l.length < 1000000000) : ∀ (r : List (List Int)) (i : Nat) (acc : List Int), l.drop i = r → acc.length + r.flatten.length < 1000000000 →
    Ev (fun k => varint_Concat.l0 k acc l (l.length : Int) i) (acc ++ r.flatten) := by
  intro r
  induction r with
  | nil =>
    intro i acc h ha
    have := drop_ge h
    refine Ev.succ ?_
    simp only [varint_Concat.l0]
    refine Ev.neg (by omega) ?_
    exact Ev.eq (Ev.now _) (by simp)
  | cons x r ih =>
    intro i acc h ha
    have hlt := drop_lt h
    have hg : rd_L5 l (i : Int) = x := by
      have : rd_L5 l (i : Int) = l.getD i [] := by simp [rd_L5]
      rw [this, List.getD_eq_getElem?_getD, ← List.head?_drop, h]; rfl
    simp only [List.flatten_cons, List.length_append] at ha
    refine Ev.succ ?_
    simp only [varint_Concat.l0, hg, w64_add1 i (by omega)]
    refine Ev.pos (by omega) ?_
    refine Ev.pos (by omega) ?_
    refine Ev.pos (by omega) ?_
    refine Ev.pos (by omega) ?_
    have := ih (i + 1) (acc ++ x) (drop_next h) (by rw [List.length_append]; omega)
    simpa using this
theorem cat_ev (l : List (List Int)) (hl : l.length < 1000000000) (hf : l.flatten.length < 1000000000) : Ev (fun k => varint_Concat.f k l) l.flatten := by
  unfold varint_Concat.f
  have := cat_l0 l hl l 0 [] rfl (by simpa using hf)
  simpa using this

/-! ### Seal -/
theorem ck_seal_ev (b : List Int) (hb : ∀ x ∈ b, 0 ≤ x ∧ x < 256) (hl : b.length < 100000000) : Ev (fun k => checksum_Seal.f k b) (b ++ fixed (cks b) 4) := by
  unfold checksum_Seal.f
  have hc := cks_lt b hb
  refine Ev.bind0 (ck_crc1 b hb) ?_
  rw [wraps_u64 _ (by omega) (by omega)]
  have h1 := fix_ev (cks b) (by omega) 4
  rw [if_neg (by decide)] at h1
  refine Ev.bind h1 ?_
  have h2 := cat_ev [b, fixed (cks b) 4] (show 2 < 1000000000 by decide) (by simp only [List.flatten_cons, List.flatten_nil, List.append_nil, List.length_append, fixed_len]; omega)
  rw [show ([b, fixed (cks b) 4] : List (List Int)).flatten = b ++ fixed (cks b) 4 by simp] at h2
  exact Ev.bind h2 (Ev.now _)

/-! ### varint.Decode and the reference's -/
theorem pow_shl (i : Nat) (hi : i ≤ 9) (c : Int) (h0 : 0 ≤ c) (h1 : c * 128 ^ i < 18446744073709551616) : shl .u64 c (7 * (i : Int)) = c * 128 ^ i := by
  have e : min (7 * (i : Int)).toNat 64 = 7 * i := by omega
  have e2 : (2 : Int) ^ (7 * i) = 128 ^ i := by rw [Int.pow_mul]; rfl
  unfold shl
  rw [show IntKind.u64.bits = 64 from rfl, e, e2]
  exact wrap_u64_of _ (Int.mul_nonneg h0 (Int.pow_nonneg (by decide))) h1
theorem dec_j2 (b : List Int) (hlen : b.length < 4611686018427387904) (o i acc c : Nat) (hi : i ≤ 9) (ho : o + i < b.length) (hc : c < 256) (hacc : acc < 128 ^ i) (f : Nat) (hf : i + f = 9)
    (h9 : ¬ (i = 9 ∧ 1 < c))
    (ih : i < 9 → acc + c % 128 * 128 ^ i < 128 ^ (i + 1) → Ev (fun k => varint_Decode.l0 k b o ((acc + c % 128 * 128 ^ i : Nat) : Int) ((i + 1 : Nat) : Int)) (vd b o f (i + 1) (acc + c % 128 * 128 ^ i))) :
    Ev (fun k => varint_Decode.j2 k b o acc i c i false)
      (if i = 9 ∧ 1 < c ∨ 0 < i ∧ c = 0 then (0, 0, 4) else if c < 128 then (((acc + c * 128 ^ i : Nat) : Int), ((o + i + 1 : Nat) : Int), 0) else vd b o f (i + 1) (acc + c % 128 * 128 ^ i)) := by
  have hp : 0 < 128 ^ i := Nat.pow_pos (by decide)
  have hple : 128 ^ i ≤ 128 ^ 9 := Nat.pow_le_pow_right (by decide) hi
  have h9v : (128 : Nat) ^ 9 = 9223372036854775808 := by decide
  have hm : c % 128 * 128 ^ i < 18446744073709551616 := by
    by_cases e : i = 9
    · subst e
      have : c ≤ 1 := by omega
      have : c % 128 ≤ 1 := by omega
      have := Nat.mul_le_mul_right (128 ^ 9) this
      omega
    · have h8 : 128 ^ i ≤ 128 ^ 8 := Nat.pow_le_pow_right (by decide) (by omega)
      have : (128 : Nat) ^ 8 = 72057594037927936 := by decide
      have : c % 128 * 128 ^ i ≤ 127 * 72057594037927936 := Nat.mul_le_mul (by omega) (by omega)
      omega
  have hlow : c % 128 * 128 ^ i + 128 ^ i ≤ 128 ^ (i + 1) := by
    rw [pow128, ← Nat.succ_mul]
    exact Nat.mul_le_mul_right _ (by omega)
  have hs : shl .u64 (IntKind.u64.wrap (Go.bits .and .u8 c 127)) (wrap64 (7 * (i : Int))) = ((c % 128 * 128 ^ i : Nat) : Int) := by
    rw [and_127 _ (by omega) (by omega), w64 _ (by omega) (by omega), wrap_u64_of _ (by omega) (by omega), pow_shl i hi _ (by omega)]
    · push_cast; rfl
    · have : ((c % 128 * 128 ^ i : Nat) : Int) < 18446744073709551616 := by omega
      push_cast at this
      exact this
  have hor : Go.bits .or .u64 acc ((c % 128 * 128 ^ i : Nat) : Int) = ((acc + c % 128 * 128 ^ i : Nat) : Int) := by
    rw [or_add (7 * i) _ _ (by omega) ?_ (by omega) (by omega) (by omega) ?_]
    · push_cast; rfl
    · have e2 : (2 : Int) ^ (7 * i) = ((128 ^ i : Nat) : Int) := by rw [Int.pow_mul]; simp
      rw [e2]; omega
    · have e2 : (2 : Int) ^ (7 * i) = ((128 ^ i : Nat) : Int) := by rw [Int.pow_mul]; simp
      rw [e2]
      push_cast
      exact Int.mul_emod_left _ _
  refine Ev.succ ?_
  simp only [varint_Decode.j2, hs, hor, w64_add1 i (by omega), w64_add_1 o i (by omega)]
  clear hs hor
  refine Ev.neg (by decide) ?_
  refine Ev.pos (by rw [w64 _ (by omega) (by omega)]; omega) ?_
  by_cases h2 : c < 128
  · refine Ev.neg (by omega) ?_
    have hcm : c % 128 = c := Nat.mod_eq_of_lt h2
    by_cases h0 : c = 0
    · refine Ev.pos (by omega) ?_
      by_cases hi0 : 0 < i
      · refine Ev.pos (by omega) ?_
        exact Ev.eq (Ev.now _) (by rw [if_pos (Or.inr ⟨hi0, h0⟩)])
      · refine Ev.neg (by omega) ?_
        exact Ev.eq (Ev.now _) (by rw [if_neg (by omega), if_pos h2, hcm])
    · refine Ev.neg (by omega) ?_
      exact Ev.eq (Ev.now _) (by rw [if_neg (by omega), if_pos h2, hcm])
  · refine Ev.pos (by omega) ?_
    exact Ev.eq (ih (by omega) (by omega)) (by rw [if_neg (by omega), if_neg h2])
theorem dec_l0 (b : List Int) (hb : ∀ x ∈ b, 0 ≤ x ∧ x < 256) (hlen : b.length < 4611686018427387904) (o : Nat) (ho : o ≤ b.length) :
    ∀ (f i acc : Nat), i + f = 10 → acc < 128 ^ i → Ev (fun k => varint_Decode.l0 k b o acc i) (vd b o f i acc) := by
  intro f
  induction f with
  | zero =>
    intro i acc hi ha
    refine Ev.succ ?_
    simp only [varint_Decode.l0]
    refine Ev.neg (by omega) ?_
    exact Ev.now _
  | succ f ih =>
    intro i acc hi ha
    refine Ev.succ ?_
    simp only [varint_Decode.l0, w64_add o i (by omega), rd_nat]
    refine Ev.pos (by omega) ?_
    unfold vd
    by_cases hl : b.length ≤ o + i
    · refine Ev.pos (by omega) ?_
      exact Ev.eq (Ev.now _) (by rw [if_pos hl])
    refine Ev.neg (by omega) ?_
    refine Ev.pos (by omega) ?_
    refine Ev.pos (by omega) ?_
    rw [if_neg hl]
    have hr := getD_range hb (i := o + i) (by omega)
    obtain ⟨c, hc⟩ := Int.eq_ofNat_of_zero_le hr.1
    simp only [hc, Int.toNat_natCast]
    rw [hc] at hr
    have hstep : ¬ (i = 9 ∧ 1 < c) → Ev (fun k => varint_Decode.j2 k b o acc i c i false) (if i = 9 ∧ 1 < c ∨ 0 < i ∧ c = 0 then (0, 0, 4) else if c < 128 then (((acc + c * 128 ^ i : Nat) : Int), ((o + i + 1 : Nat) : Int), 0) else vd b o f (i + 1) (acc + c % 128 * 128 ^ i)) := fun h =>
      dec_j2 b hlen o i acc c (by omega) (by omega) (by omega) ha f (by omega) h (fun h1 h2 => ih (i + 1) _ (by omega) h2)
    by_cases h9 : i = 9
    · refine Ev.pos (by omega) ?_
      by_cases h1 : 1 < c
      · have : decide ((c : Int) > 1) = true := by simp; omega
        rw [this, if_pos (Or.inl ⟨h9, h1⟩)]
        refine Ev.succ ?_
        simp only [varint_Decode.j2]
        refine Ev.pos (by decide) ?_
        exact Ev.now _
      · have : decide ((c : Int) > 1) = false := by simp; omega
        rw [this]
        exact hstep (by omega)
    · refine Ev.neg (by omega) ?_
      exact hstep (by omega)
theorem dec_ev (b : List Int) (hb : ∀ x ∈ b, 0 ≤ x ∧ x < 256) (hlen : b.length < 4611686018427387904) (o : Int) : Ev (fun k => varint_Decode.f k b o) (vdec b o) := by
  unfold varint_Decode.f vdec
  by_cases h0 : o < 0
  · refine Ev.pos h0 ?_
    rw [if_pos (Or.inl h0)]
    refine Ev.succ ?_
    simp only [varint_Decode.j0]
    refine Ev.pos (by decide) ?_
    exact Ev.now _
  refine Ev.neg h0 ?_
  refine Ev.succ ?_
  simp only [varint_Decode.j0]
  by_cases h1 : (b.length : Int) < o
  · refine Ev.pos (by simpa using h1) ?_
    exact Ev.eq (Ev.now _) (by rw [if_pos (Or.inr h1)])
  · refine Ev.neg (by simpa using h1) ?_
    obtain ⟨n, rfl⟩ := Int.eq_ofNat_of_zero_le (show 0 ≤ o by omega)
    rw [if_neg (by omega), Int.toNat_natCast]
    exact dec_l0 b hb hlen n (by omega) 10 0 0 rfl (by decide)

/-! ### bitset.Decode and the reference's -/
theorem wofN_congr (m : Nat) {f g : Nat → Bool} : ∀ k, (∀ i, i < k → f i = g i) → wofN m f k = wofN m g k := by
  intro k
  induction k with
  | zero => intro _; rfl
  | succ k ih => intro h; simp only [wofN]; rw [h k (Nat.lt_succ_self k), ih (fun i hi => h i (by omega))]
def bw (N : Nat) (acc : List Bool) : List Int := wofN (wc N) (fun i => acc.getD i false) acc.length
theorem bw_len (N : Nat) (acc : List Bool) : (bw N acc).length = wc N := wofN_length _ _ _
theorem bw_wok (N : Nat) (acc : List Bool) : wok (bw N acc) := wofN_wok _ _ _
theorem bw_nil (N : Nat) : bw N [] = List.replicate (wc N) 0 := rfl
theorem bw_snoc (N : Nat) (acc : List Bool) (x : Bool) : bw N (acc ++ [x]) = if x = true then sb (bw N acc) acc.length else bw N acc := by
  unfold bw
  rw [List.length_append, List.length_singleton]
  simp only [wofN]
  have h1 : (acc ++ [x]).getD acc.length false = x := by simp [List.getD_eq_getElem?_getD]
  rw [wofN_congr (wc N) (f := fun i => (acc ++ [x]).getD i false) acc.length (g := fun i => acc.getD i false) (fun i hi => by
    rw [List.getD_eq_getElem?_getD, List.getElem?_append_left hi, ← List.getD_eq_getElem?_getD])]
  simp only [h1]
theorem bw_full (l : List Bool) : bw l.length l = wof l.length (fun i => l.getD i false) := rfl
theorem rep_snoc (d : Nat) (on : Bool) (acc : List Bool) : (acc ++ [on]) ++ List.replicate d on = acc ++ List.replicate (d + 1) on := by
  rw [List.append_assoc, List.replicate_succ]; rfl
theorem idec_l1 (b : List Int) (t : Int) (N : Nat) (hN : N ≤ 1048576) (on : Bool) (run : Nat) (R : Int × List Int × Int × Int) : ∀ (d j : Nat) (acc : List Bool), j + d = run → acc.length + d ≤ N → run ≤ N →
    Ev (fun k => bitset_Decode.l0 k b t (!on) (((acc ++ List.replicate d on).length : Nat) : Int) (N : Int) (bw N (acc ++ List.replicate d on))) R →
    Ev (fun k => bitset_Decode.l1 k b on (acc.length : Int) t (run : Int) (j : Int) (N : Int) (bw N acc)) R := by
  intro d
  induction d with
  | zero =>
    intro j acc h1 h2 h3 h
    refine Ev.succ ?_
    simp only [bitset_Decode.l1]
    refine Ev.neg (by omega) ?_
    simpa using h
  | succ d ih =>
    intro j acc h1 h2 h3 h
    have ih2 := ih (j + 1) (acc ++ [on]) (by omega) (by rw [List.length_append, List.length_singleton]; omega) h3 (by rw [rep_snoc]; exact h)
    have hl : (((acc ++ [on]).length : Nat) : Int) = wrap64 ((acc.length : Int) + 1) := by rw [w64_add1 _ (by omega), List.length_append, List.length_singleton]
    rw [hl, bw_snoc] at ih2
    refine Ev.succ ?_
    simp only [bitset_Decode.l1]
    refine Ev.pos (by omega) ?_
    by_cases c : on = true
    · have hq : acc.length / 64 < (bw N acc).length := by rw [bw_len]; unfold wc; omega
      refine Ev.pos c ?_
      rw [tdiv64 acc.length (by omega), tmod64 acc.length, rd_nat]
      refine Ev.pos (by omega) ?_
      refine Ev.pos (by omega) ?_
      refine Ev.pos (by omega) ?_
      rw [or_shl _ (bw_wok N acc) acc.length, Int.toNat_natCast, w64_add1 j (by omega)]
      rw [if_pos c] at ih2
      exact ih2
    · refine Ev.neg c ?_
      rw [w64_add1 j (by omega)]
      rw [if_neg c] at ih2
      exact ih2
def resD (N : Nat) (x : List Bool × Int × Int) : Int × List Int × Int × Int := if x.2.2 = 0 then ((N : Int), bw N x.1, x.2.1, 0) else (0, [], 0, x.2.2)
theorem idec_l0 (b : List Int) (hb : ∀ x ∈ b, 0 ≤ x ∧ x < 256) (hlen : b.length < 4611686018427387904) (N : Nat) (hN : N ≤ 1048576) : ∀ (d : Nat) (t : Int) (acc : List Bool) (on : Bool), fuelB N acc on d → acc.length ≤ N →
    Ev (fun k => bitset_Decode.l0 k b t on (acc.length : Int) (N : Int) (bw N acc)) (resD N (bdc b N d t acc on)) := by
  intro d
  induction d with
  | zero =>
    intro t acc on hf hle
    have h1 : ¬ acc.length < N := by unfold fuelB at hf; omega
    refine Ev.succ ?_
    simp only [bitset_Decode.l0]
    refine Ev.neg (by omega) ?_
    rw [bdc_full _ _ _ _ _ _ h1]
    exact Ev.now _
  | succ d ih =>
    intro t acc on hf hle
    refine Ev.succ ?_
    simp only [bitset_Decode.l0]
    by_cases h1 : acc.length < N
    rotate_left
    · refine Ev.neg (by omega) ?_
      rw [bdc_full _ _ _ _ _ _ h1]
      exact Ev.now _
    refine Ev.pos (by omega) ?_
    refine Ev.bind (dec_ev b hb hlen t) ?_
    unfold bdc
    rw [if_pos h1]
    by_cases c0 : (vdec b t).2.2 = 0
    rotate_left
    · refine Ev.neg c0 ?_
      rw [if_neg c0]
      exact Ev.eq (Ev.now _) (by unfold resD; rw [if_neg c0])
    refine Ev.pos c0 ?_
    rw [if_pos c0]
    obtain ⟨n, a, rfl, e1, hn, e2, _, _⟩ := b_vdec_ok hb c0
    rw [e1]
    generalize (vdec b (a : Int)).2.1 = t1
    have bad : Ev (fun k => bitset_Decode.j1 k b on (acc.length : Int) (n : Int) t1 true (N : Int) (bw N acc)) (resD N ([], 0, 4)) := by
      refine Ev.succ ?_
      simp only [bitset_Decode.j1]
      refine Ev.pos (by decide) ?_
      exact Ev.now _
    have hw : IntKind.u64.wrap (wrap64 ((N : Int) - (acc.length : Int))) = (N : Int) - (acc.length : Int) := by
      rw [w64 _ (by omega) (by omega), wraps_u64 _ (by omega) (by omega)]
    rw [hw, Int.toNat_natCast]
    have main : ¬ (n = 0 ∧ (on = true ∨ 0 < acc.length)) → Ev (fun k => bitset_Decode.j1 k b on (acc.length : Int) (n : Int) t1 (decide ((n : Int) > (N : Int) - (acc.length : Int))) (N : Int) (bw N acc)) (resD N (if ((n : Int) = 0 ∧ (on = true ∨ 0 < acc.length)) ∨ (N : Int) - acc.length < (n : Int) then ([], 0, 4) else bdc b N d t1 (acc ++ List.replicate n on) (!on))) := by
      intro hk
      by_cases c2 : (n : Int) > (N : Int) - (acc.length : Int)
      · rw [decide_eq_true c2, if_pos (.inr c2)]
        exact bad
      · rw [decide_eq_false c2, if_neg (by rintro (⟨e, hc⟩ | e); exact hk ⟨by omega, hc⟩; exact c2 e)]
        refine Ev.succ ?_
        simp only [bitset_Decode.j1]
        refine Ev.neg (by decide) ?_
        rw [w64n n (by omega)]
        refine idec_l1 b t1 N hN on n _ n 0 acc (by omega) (by omega) (by omega) ?_
        exact ih t1 (acc ++ List.replicate n on) (!on) (fuelB_step hf h1 hk) (by rw [List.length_append, List.length_replicate]; omega)
    by_cases c1 : (n : Int) = 0
    · refine Ev.pos c1 ?_
      by_cases c3 : on = true
      · refine Ev.pos c3 ?_
        rw [if_pos (.inl ⟨c1, .inl c3⟩)]
        exact bad
      · refine Ev.neg c3 ?_
        by_cases c4 : 0 < acc.length
        · refine Ev.pos (by omega) ?_
          rw [if_pos (.inl ⟨c1, .inr c4⟩)]
          exact bad
        · refine Ev.neg (by omega) ?_
          exact main (by rintro ⟨_, h | h⟩; exact c3 h; exact c4 h)
    · refine Ev.neg c1 ?_
      exact main (by rintro ⟨h, _⟩; omega)
def bdR (b : List Int) (o : Int) : Int × List Int × Int × Int := ((bdec b o).1, wof (bdec b o).1.toNat (fun i => (bdec b o).2.1.getD i false), (bdec b o).2.2.1, (bdec b o).2.2.2)
theorem bdR_bad {b : List Int} {o e : Int} (h : bdec b o = (0, [], 0, e)) : bdR b o = (0, [], 0, e) := by
  unfold bdR
  rw [h]
  simp [wof, wofN, wc]
/-- In one form: resD of the rounds is what bdR says. -/
theorem resD_bdR (b : List Int) (hb : ∀ x ∈ b, 0 ≤ x ∧ x < 256) (o : Int) (c0 : (vdec b o).2.2 = 0) (c1 : ¬ (vdec b o).1 > 1048576) : resD (vdec b o).1.toNat (bdc b (vdec b o).1.toNat ((vdec b o).1.toNat + 1) (vdec b o).2.1 [] false) = bdR b o := by
  obtain ⟨n, a, rfl, e1, hn, e2, _, _⟩ := b_vdec_ok hb c0
  have hd : bdec b (a : Int) = if (bdc b (vdec b (a : Int)).1.toNat ((vdec b (a : Int)).1.toNat + 1) (vdec b (a : Int)).2.1 [] false).2.2 = 0 then
      ((vdec b (a : Int)).1, (bdc b (vdec b (a : Int)).1.toNat ((vdec b (a : Int)).1.toNat + 1) (vdec b (a : Int)).2.1 [] false).1, (bdc b (vdec b (a : Int)).1.toNat ((vdec b (a : Int)).1.toNat + 1) (vdec b (a : Int)).2.1 [] false).2.1, 0)
    else (0, [], 0, (bdc b (vdec b (a : Int)).1.toNat ((vdec b (a : Int)).1.toNat + 1) (vdec b (a : Int)).2.1 [] false).2.2) := by
    conv => lhs; unfold bdec
    rw [if_pos c0, if_neg c1]
  have hok := fun h => bdec_ok hb (o := (a : Int)) h
  unfold bdR
  rw [hd] at hok ⊢
  rw [e1] at hok ⊢
  rw [Int.toNat_natCast] at hok ⊢
  obtain ⟨x, hx⟩ : ∃ x, x = bdc b n (n + 1) (vdec b (a : Int)).2.1 [] false := ⟨_, rfl⟩
  rw [← hx] at hok ⊢
  unfold resD
  by_cases c : x.2.2 = 0
  · rw [if_pos c] at hok
    rw [if_pos c, if_pos c]
    obtain ⟨n', a2, a', q1, q2, q3, q4, _⟩ := hok rfl
    simp only at q2 q4
    have : n' = n := by omega
    subst this
    simp only [Int.toNat_natCast]
    rw [← q4]
    rfl
  · rw [if_neg c, if_neg c]
    simp [wof, wofN, wc]
theorem idec_ev (b : List Int) (hb : ∀ x ∈ b, 0 ≤ x ∧ x < 256) (hlen : b.length < 4611686018427387904) (o : Int) : Ev (fun k => bitset_Decode.f k b o) (bdR b o) := by
  unfold bitset_Decode.f
  refine Ev.bind (dec_ev b hb hlen o) ?_
  by_cases c0 : (vdec b o).2.2 = 0
  rotate_left
  · refine Ev.neg c0 ?_
    exact Ev.eq (Ev.now _) (bdR_bad (by unfold bdec; rw [if_neg c0])).symm
  refine Ev.pos c0 ?_
  by_cases c1 : (vdec b o).1 > 1048576
  · refine Ev.pos c1 ?_
    exact Ev.eq (Ev.now _) (bdR_bad (by unfold bdec; rw [if_pos c0, if_pos c1])).symm
  refine Ev.neg c1 ?_
  rw [← resD_bdR b hb o c0 c1]
  obtain ⟨n, a, rfl, e1, hn, e2, _, _⟩ := b_vdec_ok hb c0
  rw [e1] at c1 ⊢
  rw [Int.toNat_natCast, w64n n (by omega)]
  refine Ev.bind0 (inew (n : Int)) ?_
  have hnn : nn (n : Int) = n := by unfold nn; rw [if_neg (by omega)]; rfl
  rw [hnn]
  exact idec_l0 b hb hlen n (by omega) (n + 1) _ [] false (fuelB_start n) (Nat.zero_le _)
theorem bdec_n (b : List Int) (hb : ∀ x ∈ b, 0 ≤ x ∧ x < 256) (o : Int) : (bdec b o).1.toNat ≤ 1048576 := by
  by_cases h : (bdec b o).2.2.2 = 0
  · obtain ⟨n, _, _, _, e, hn, _⟩ := bdec_ok hb h
    rw [e]; omega
  · unfold bdec at h ⊢
    split
    · rename_i c0
      rw [if_pos c0] at h
      split
      · simp
      · rename_i c1
        rw [if_neg c1] at h
        split
        · rename_i c2; rw [if_pos c2] at h; exact absurd rfl h
        · simp
    · simp

/-! ### Encode -/
theorem ienc3 (N : Nat) (ws : List Int) (hl : ws.length = wc N) (hw : wok ws) (hN : N ≤ 1048576) (hz : ∀ j, N ≤ j → gb ws j = false) : bitset_Encode.f (N : Int) ws = some (benc N (fl (gb ws) 0 N)) := by
  unfold bitset_Encode.f
  rw [if_pos ⟨wokB_of hw, by rw [hl]; unfold wc; omega, by omega, by omega⟩, elsI_cut (n := N) (by rw [hl]; exact wc_le N) hz, benc_eq]

/-! ### sizes and bytes of an encoding -/
theorem rnb_len : ∀ (l : List Bool) (on : Bool) (n : Nat), n + l.length < 18446744073709551616 → (rnb l on n).length ≤ 10 * (l.length + 1) := by
  intro l
  induction l with
  | nil => intro on n h; have := venc_len10 n (by simp at h; omega); simp only [rnb, List.length_nil]; omega
  | cons x l ih =>
    intro on n h
    simp only [List.length_cons] at h
    simp only [rnb, List.length_cons]
    split
    · have := ih on (n + 1) (by omega); omega
    · have h1 := ih x 1 (by omega)
      have h2 := venc_len10 n (by omega)
      rw [List.length_append]; omega
theorem benc_len (n : Nat) (l : List Bool) (hn : n ≤ 1048576) (hl : l.length = n) : (benc n l).length ≤ 20000000 := by
  unfold benc
  have h1 := venc_len10 n (by omega)
  have h2 := rnb_len l false 0 (by omega)
  rw [List.length_append]
  split
  · simp; omega
  · omega
theorem rnb_rng : ∀ (l : List Bool) (on : Bool) (n : Nat), ∀ x ∈ rnb l on n, 0 ≤ x ∧ x < 256 := by
  intro l
  induction l with
  | nil => intro on n x hx; exact venc_range n x hx
  | cons y l ih =>
    intro on n x hx
    simp only [rnb] at hx
    split at hx
    · exact ih _ _ x hx
    · rcases List.mem_append.1 hx with h | h
      · exact venc_range n x h
      · exact ih _ _ x h
theorem benc_rng (n : Nat) (l : List Bool) : ∀ x ∈ benc n l, 0 ≤ x ∧ x < 256 := by
  intro x hx
  unfold benc at hx
  rcases List.mem_append.1 hx with h | h
  · exact venc_range n x h
  · split at h
    · cases h
    · exact rnb_rng _ _ _ x h
theorem fl_words (N : Nat) (ws : List Int) (hw : wok ws) (hl : ws.length = wc N) (hN : N ≤ 1048576) (hz : ∀ j, N ≤ j → gb ws j = false) : wof N (fun i => (fl (gb ws) 0 N).getD i false) = ws := by
  conv => rhs; rw [vset_eq hw (vset_iff.2 ⟨hN, hl, hz⟩)]
  exact wof_congr (fun j hj => by rw [fl_get (gb ws) N 0 j hj, Nat.zero_add])
theorem fl_wof (l : List Bool) : fl (gb (wof l.length (fun i => l.getD i false))) 0 l.length = l := by
  conv => rhs; rw [fl_of l]
  exact fl_congr _ _ (fun i _ hi => by rw [gb_wof, decide_eq_true (by omega), Bool.true_and])

/-! ### delete vectors: small sets, Live, Overlap, Same -/
theorem wok_of_wf {l : List Int} (h : ∀ x ∈ l, (Lit.int .u64 x).wf = true) : wok l := fun x hx => wf_u64 (h x hx)
theorem dsm_ev (a : Int) (l : List Int) (hw : wok l) (hl : l.length ≤ 9223372036854775807) : (∃ n : Nat, a = (n : Int) ∧ n ≤ 5000 ∧ l.length = wc n ∧ (∀ j, n ≤ j → gb l j = false) ∧ laminalaw22_small.f a l = some true) ∨ laminalaw22_small.f a l = some false := by
  unfold laminalaw22_small.f
  by_cases h : a ≤ 5000
  · rw [if_pos h]
    obtain ⟨b, e, i⟩ := r03val a l hw hl
    rw [e]
    cases b with
    | true =>
      left
      have hv := i.1 rfl
      have ha : 0 ≤ a := hv.1
      obtain ⟨n, rfl⟩ := Int.eq_ofNat_of_zero_le ha
      obtain ⟨h1, h2, h3⟩ := vset_iff.1 hv
      exact ⟨n, rfl, by omega, h2, h3, rfl⟩
    | false => right; rfl
  · rw [if_neg h]; right; rfl
theorem icon_z (N i : Nat) (ws : List Int) (hl : ws.length = wc N) (hw : wok ws) (hN : N ≤ 1048576) (hz : ∀ j, N ≤ j → gb ws j = false) : bitset_Contains.f (N : Int) ws (i : Int) = some (gb ws i) := by
  rw [icon N ws hw hl hN (i : Int), Int.toNat_natCast]
  by_cases c : i < N
  · rw [decide_eq_true (by omega), Bool.true_and]
  · rw [decide_eq_false (by omega), Bool.false_and, hz i (by omega)]
def lvL (ws : List Int) : Nat → List Int
  | 0 => []
  | n + 1 => if gb ws n = true then lvL ws n else lvL ws n ++ [(n : Int)]
theorem lvL_len (ws : List Int) : ∀ n, (lvL ws n).length ≤ n := by
  intro n
  induction n with
  | zero => exact Nat.le_refl _
  | succ n ih =>
    simp only [lvL]
    split
    · omega
    · simp; omega
theorem liveO_eq (N : Nat) (ws : List Int) (hl : ws.length = wc N) (hw : wok ws) (hN : N ≤ 1048576) (hz : ∀ j, N ≤ j → gb ws j = false) : ∀ n, liveO (N : Int) ws n = some (lvL ws n) := by
  intro n
  induction n with
  | zero => rfl
  | succ n ih =>
    simp only [liveO, ih, Option.bind_some, icon_z N n ws hl hw hN hz, lvL]
theorem ilive (N : Nat) (ws : List Int) (hl : ws.length = wc N) (hw : wok ws) (hN : N ≤ 1048576) (hz : ∀ j, N ≤ j → gb ws j = false) (a : Int) (ha : a ≤ 1000000) : delvec_Live.f a (N : Int) ws = some (lvL ws a.toNat) := by
  unfold delvec_Live.f
  rw [if_pos ha]
  exact liveO_eq N ws hl hw hN hz _
theorem iov_gb {f g : Nat → Bool} {n j : Nat} : gb (wof n f) j = (decide (j < n) && f j) := gb_wof n f j
theorem cB_pos {f : Nat → Bool} {n : Nat} : 0 < cB f 0 n ↔ ∃ j, j < n ∧ f j = true := by
  unfold cB
  constructor
  · intro h
    obtain ⟨x, hx⟩ := List.exists_mem_of_length_pos h
    have := els_mem n 0 x hx
    exact ⟨x, by omega, this.2.2⟩
  · rintro ⟨j, hj, hf⟩
    by_cases c : els f 0 n = []
    · exfalso
      have h1 : els f 0 n = els f 0 j ++ els f (0 + j) ((n - j - 1) + 1) := by rw [← els_split]; congr 1; omega
      rw [c] at h1
      have h2 := (List.append_eq_nil_iff.1 h1.symm).2
      simp only [els, Nat.zero_add, hf, if_true] at h2
      exact absurd h2 (by simp)
    · exact List.length_pos_iff.2 c
def anyN (f : Nat → Bool) : Nat → Bool
  | 0 => false
  | n + 1 => anyN f n || f n
theorem anyN_iff {f : Nat → Bool} : ∀ n, anyN f n = true ↔ ∃ j, j < n ∧ f j = true := by
  intro n
  induction n with
  | zero => simp [anyN]
  | succ n ih =>
    simp only [anyN, Bool.or_eq_true, ih]
    constructor
    · rintro (⟨j, h1, h2⟩ | h)
      · exact ⟨j, by omega, h2⟩
      · exact ⟨n, by omega, h⟩
    · rintro ⟨j, h1, h2⟩
      by_cases c : j = n
      · subst c; exact .inr h2
      · exact .inl ⟨j, by omega, h2⟩
theorem iov_ev (na nb nc : Nat) (hna : na ≤ 1048576) (hnb : nb ≤ 1048576) (hnc : nc ≤ 1048576) (la lb lc : List Int) (ha : wok la) (hb : wok lb) (hc : wok lc) (za : ∀ j, na ≤ j → gb la j = false) :
    Ev (fun k => delvec_Overlap.f k (na : Int) la (nb : Int) lb (nc : Int) lc) (anyN (fun j => gb la j && gb lb j && !gb lc j) na) := by
  unfold delvec_Overlap.f
  have A1 := andg_ev na nb hna hnb la lb ha hb
  rw [band_w ha za] at A1
  refine Ev.bind A1 ?_
  have zw : ∀ j, max na nb ≤ j → gb (wof (max na nb) (fun j => gb la j && gb lb j)) j = false := fun j hj => by rw [gb_wof, decide_eq_false (by omega), Bool.false_and]
  have A2 := andng_ev (max na nb) nc (by omega) hnc _ lc (wof_wok (max na nb) (fun j => gb la j && gb lb j)) hc
  rw [bandn_w (wof_wok _ _) hc zw] at A2
  refine Ev.bind A2 ?_
  have hM : wc (max (max na nb) nc) ≤ 16384 := by unfold wc; omega
  refine Ev.bind (icount_ev _ _ (wof_wok _ _) (by rw [wof_length]; omega)) ?_
  refine Ev.eq (Ev.now _) ?_
  congr 1
  obtain ⟨M, hMe⟩ : ∃ M, M = max (max na nb) nc := ⟨_, rfl⟩
  have hcc : cB (gb (wof M (fun j => gb (wof (max na nb) (fun j => gb la j && gb lb j)) j && !gb lc j))) 0 (64 * wc M) > 0 ↔ anyN (fun j => gb la j && gb lb j && !gb lc j) na = true := by
    rw [anyN_iff]
    show 0 < _ ↔ _
    rw [cB_pos]
    constructor
    · rintro ⟨j, h1, h2⟩
      rw [gb_wof, gb_wof] at h2
      simp only [Bool.and_eq_true, decide_eq_true_eq] at h2
      refine ⟨j, ?_, by simp only [Bool.and_eq_true]; exact ⟨⟨h2.2.1.2.1, h2.2.1.2.2⟩, h2.2.2⟩⟩
      rcases Nat.lt_or_ge j na with h | h
      · exact h
      · rw [za j h] at h2; exact absurd h2.2.1.2.1 (by simp)
    · rintro ⟨j, h1, h2⟩
      simp only [Bool.and_eq_true] at h2
      have := wc_le M
      refine ⟨j, by omega, ?_⟩
      rw [gb_wof, gb_wof]
      simp only [Bool.and_eq_true, decide_eq_true_eq]
      exact ⟨by omega, ⟨by omega, h2.1⟩, h2.2⟩
  rw [← hMe]
  dsimp only
  rw [wof_length]
  cases hA : anyN (fun j => gb la j && gb lb j && !gb lc j) na with
  | true => exact decide_eq_true (by have := hcc.2 hA; omega)
  | false => exact decide_eq_false (fun h => by have := hcc.1 (by omega); rw [hA] at this; cases this)

/-! ### the reference's Live and Overlap; lists of numbers -/
theorem rlive_l0 (N : Nat) (ws : List Int) (hl : ws.length = wc N) (hw : wok ws) (hN : N ≤ 1048576) (hz : ∀ j, N ≤ j → gb ws j = false) (n : Nat) (hn : n ≤ 1000000) : ∀ (d i : Nat), i + d = n →
    Ev (fun k => laminaref22_Live.l0 k (n : Int) (lvL ws i) (i : Int) (N : Int) ws) (lvL ws n) := by
  intro d
  induction d with
  | zero =>
    intro i h
    refine Ev.succ ?_
    simp only [laminaref22_Live.l0]
    refine Ev.neg (by omega) ?_
    exact Ev.eq (Ev.now _) (by rw [show i = n by omega])
  | succ d ih =>
    intro i h
    refine Ev.succ ?_
    simp only [laminaref22_Live.l0, w64_add1 i (by omega)]
    refine Ev.pos (by omega) ?_
    refine Ev.bind0 (con_z N i ws hl hw hN hz) ?_
    have hb := ih (i + 1) (by omega)
    by_cases g : gb ws i = true
    · refine Ev.pos g ?_
      simp only [lvL, g, if_true] at hb
      exact hb
    · refine Ev.neg g ?_
      have := lvL_len ws i
      refine Ev.pos (by omega) ?_
      simp only [lvL] at hb
      rw [if_neg g] at hb
      exact hb
theorem rlive_ev (N : Nat) (ws : List Int) (hl : ws.length = wc N) (hw : wok ws) (hN : N ≤ 1048576) (hz : ∀ j, N ≤ j → gb ws j = false) (a : Int) (ha : a ≤ 1000000) :
    Ev (fun k => laminaref22_Live.f k a (N : Int) ws) (lvL ws a.toNat) := by
  unfold laminaref22_Live.f
  by_cases h : 0 ≤ a
  · obtain ⟨n, rfl⟩ := Int.eq_ofNat_of_zero_le h
    rw [Int.toNat_natCast]
    exact rlive_l0 N ws hl hw hN hz n (by omega) n 0 (by omega)
  · rw [show a.toNat = 0 by omega]
    refine Ev.succ ?_
    simp only [laminaref22_Live.l0]
    exact Ev.neg (by omega) (Ev.now _)

/-! ### Decode -/
theorem copn_rng {b : List Int} (hb : ∀ x ∈ b, 0 ≤ x ∧ x < 256) : ∀ x ∈ (copn b).1, 0 ≤ x ∧ x < 256 := by
  unfold copn
  split
  · intro x hx; cases hx
  · split
    · intro x hx; exact hb x (List.mem_of_mem_take hx)
    · intro x hx; cases hx
theorem copn_len (b : List Int) : (copn b).1.length ≤ b.length := by
  unfold copn
  split
  · exact Nat.zero_le _
  · split
    · rw [List.length_take]; omega
    · exact Nat.zero_le _
def ddec (b : List Int) : ByteArray × Int × List Int × Int :=
  if (copn b).2 = 0 then
    if (vdec (copn b).1 0).2.2 = 0 then
      if (vdec (copn b).1 0).1 > 32 then (⟨#[]⟩, 0, [], 3)
      else if (vdec (copn b).1 0).1 > ((copn b).1.length : Int) - (vdec (copn b).1 0).2.1 then (⟨#[]⟩, 0, [], 2)
      else if (bdR (copn b).1 ((vdec (copn b).1 0).2.1 + (vdec (copn b).1 0).1)).2.2.2 = 0 then
        if (bdR (copn b).1 ((vdec (copn b).1 0).2.1 + (vdec (copn b).1 0).1)).2.2.1 < ((copn b).1.length : Int) then (⟨#[]⟩, 0, [], 3)
        else (strOfNums (((copn b).1.take ((vdec (copn b).1 0).2.1 + (vdec (copn b).1 0).1).toNat).drop (vdec (copn b).1 0).2.1.toNat), (bdR (copn b).1 ((vdec (copn b).1 0).2.1 + (vdec (copn b).1 0).1)).1, (bdR (copn b).1 ((vdec (copn b).1 0).2.1 + (vdec (copn b).1 0).1)).2.1, 0)
      else (⟨#[]⟩, 0, [], (bdR (copn b).1 ((vdec (copn b).1 0).2.1 + (vdec (copn b).1 0).1)).2.2.2)
    else (⟨#[]⟩, 0, [], (vdec (copn b).1 0).2.2)
  else (⟨#[]⟩, 0, [], (copn b).2)
theorem idd_ev (b : List Int) (hb : ∀ x ∈ b, 0 ≤ x ∧ x < 256) (hl : b.length < 140737488355328) : Ev (fun k => delvec_Decode.f k b) (ddec b) := by
  unfold delvec_Decode.f ddec
  have hr := copn_rng hb
  have hle := copn_len b
  refine Ev.bind (ck_open_ev b hb hl) ?_
  obtain ⟨o, ho⟩ : ∃ o, o = copn b := ⟨_, rfl⟩
  rw [← ho] at hr hle ⊢
  by_cases c1 : o.2 = 0
  rotate_left
  · rw [if_neg c1]; exact Ev.neg c1 (Ev.now _)
  rw [if_pos c1]
  refine Ev.pos c1 ?_
  refine Ev.bind (dec_ev o.1 hr (by omega) 0) ?_
  by_cases c2 : (vdec o.1 0).2.2 = 0
  rotate_left
  · rw [if_neg c2]; exact Ev.neg c2 (Ev.now _)
  rw [if_pos c2]
  refine Ev.pos c2 ?_
  obtain ⟨n, a, h0, e1, hn, e2, hle2, _⟩ := b_vdec_ok hr c2
  obtain ⟨t, ht⟩ : ∃ t, t = a + (venc n).length := ⟨_, rfl⟩
  rw [← ht] at e2 hle2
  rw [e1, e2]
  by_cases c3 : (n : Int) > 32
  · rw [if_pos c3]; exact Ev.pos c3 (Ev.now _)
  rw [if_neg c3]
  refine Ev.neg c3 ?_
  refine Ev.pos ⟨by omega, by omega, by omega, by omega⟩ ?_
  by_cases c4 : (n : Int) > (o.1.length : Int) - (t : Int)
  · rw [if_pos c4]; exact Ev.pos c4 (Ev.now _)
  rw [if_neg c4]
  refine Ev.neg c4 ?_
  refine Ev.bind (idec_ev o.1 hr (by omega) _) ?_
  by_cases c5 : (bdR o.1 ((t : Int) + (n : Int))).2.2.2 = 0
  rotate_left
  · exact Ev.eq (Ev.neg c5 (Ev.now _)) (by rw [if_neg c5])
  by_cases c6 : (bdR o.1 ((t : Int) + (n : Int))).2.2.1 < (o.1.length : Int)
  · exact Ev.eq (Ev.pos c5 (Ev.pos c6 (Ev.now _))) (by rw [if_pos c5, if_pos c6])
  · exact Ev.eq (Ev.pos c5 (Ev.neg c6 (Ev.now _))) (by rw [if_pos c5, if_neg c6])

/-! ### Encode, and Decode behind it -/
theorem dv_copn (b : List Int) (hb : ∀ x ∈ b, 0 ≤ x ∧ x < 256) : copn (b ++ fixed (cks b) 4) = (b, 0) := by
  have hl : (b ++ fixed (cks b) 4).length = b.length + 4 := by rw [List.length_append, fixed_len]
  unfold copn
  rw [hl, if_neg (by omega), show b.length + 4 - 4 = b.length by omega, List.take_left, List.drop_left, le_fixed 4 _ (cks_lt b hb), if_pos rfl]
def dvb (file : ByteArray) (n : Nat) (ws : List Int) : List Int := venc file.size ++ (bytesOf file ++ benc n (fl (gb ws) 0 n))
def dve (file : ByteArray) (n : Nat) (ws : List Int) : List Int := dvb file n ws ++ fixed (cks (dvb file n ws)) 4
theorem bytes_rng (s : ByteArray) : ∀ x ∈ bytesOf s, 0 ≤ x ∧ x < 256 := by
  intro x hx
  unfold bytesOf at hx
  obtain ⟨c, _, rfl⟩ := List.mem_map.1 hx
  have := c.toNat_lt
  omega
theorem dvb_rng (file : ByteArray) (n : Nat) (ws : List Int) : ∀ x ∈ dvb file n ws, 0 ≤ x ∧ x < 256 := by
  intro x hx
  unfold dvb at hx
  rcases List.mem_append.1 hx with h | h
  · exact venc_range _ x h
  · rcases List.mem_append.1 h with h | h
    · exact bytes_rng _ x h
    · exact benc_rng _ _ x h
theorem dve_rng (file : ByteArray) (n : Nat) (ws : List Int) : ∀ x ∈ dve file n ws, 0 ≤ x ∧ x < 256 := by
  intro x hx
  unfold dve at hx
  rcases List.mem_append.1 hx with h | h
  · exact dvb_rng _ _ _ x h
  · exact fixed_range _ _ x h
theorem dvb_len (file : ByteArray) (n : Nat) (ws : List Int) (hf : file.size ≤ 32) (hn : n ≤ 1048576) : (dvb file n ws).length ≤ 20000100 := by
  unfold dvb
  have h1 := venc_len10 file.size (by omega)
  have h2 := benc_len n (fl (gb ws) 0 n) hn (fl_len _ _ _)
  rw [List.length_append, List.length_append, bytesOf_length]
  omega
theorem dve_len (file : ByteArray) (n : Nat) (ws : List Int) (hf : file.size ≤ 32) (hn : n ≤ 1048576) : (dve file n ws).length ≤ 20000200 := by
  unfold dve
  have := dvb_len file n ws hf hn
  rw [List.length_append, fixed_len]
  omega
theorem ienc_ev (file : ByteArray) (n : Nat) (ws : List Int) (hf : file.size ≤ 32) (hn : n ≤ 1048576) (hw : wok ws) (hl : ws.length = wc n) (hz : ∀ j, n ≤ j → gb ws j = false) : Ev (fun k => delvec_Encode.f k file (n : Int) ws) (dve file n ws) := by
  unfold delvec_Encode.f
  have hL := dvb_len file n ws hf hn
  have hfl : [venc file.size, bytesOf file, benc n (fl (gb ws) 0 n)].flatten = dvb file n ws := by simp [dvb]
  refine Ev.pos (by omega) ?_
  refine Ev.bind (be_ev file.size (by omega)) ?_
  refine Ev.bind0 (ienc3 n ws hl hw hn hz) ?_
  have hc := cat_ev [venc file.size, bytesOf file, benc n (fl (gb ws) 0 n)] (by simp) (by rw [hfl]; omega)
  rw [hfl] at hc
  refine Ev.bind hc ?_
  exact ck_seal_ev _ (dvb_rng file n ws) (by omega)
theorem strOf_bytes (s : ByteArray) : strOfNums (bytesOf s) = s := by
  apply ByteArray.ext
  apply Array.ext'
  rw [strOfNums_data, bytesOf, List.map_map]
  conv => rhs; rw [← List.map_id s.data.toList]
  refine List.map_congr_left fun c _ => ?_
  simp
theorem ddec_enc (file : ByteArray) (n : Nat) (ws : List Int) (hf : file.size ≤ 32) (hn : n ≤ 1048576) (hw : wok ws) (hl : ws.length = wc n) (hz : ∀ j, n ≤ j → gb ws j = false) : ddec (dve file n ws) = (file, (n : Int), ws, 0) := by
  have hL := dvb_len file n ws hf hn
  have hb := dvb_rng file n ws
  unfold ddec dve
  rw [dv_copn _ hb]
  simp only
  rw [if_pos True.intro]
  have hv := b_vdec_enc (b := dvb file n ws) (R := bytesOf file ++ benc n (fl (gb ws) 0 n)) (o := 0) (n := file.size) (by omega) (Nat.zero_le _) (by rw [List.drop_zero]; rfl)
  rw [Nat.zero_add] at hv
  have hv' : vdec (dvb file n ws) 0 = ((file.size : Int), ((venc file.size).length : Int), 0) := hv
  rw [hv']
  simp only
  have hlen : (dvb file n ws).length = (venc file.size).length + (file.size + (benc n (fl (gb ws) 0 n)).length) := by
    unfold dvb
    rw [List.length_append, List.length_append, bytesOf_length]
  have hd : (dvb file n ws).drop ((venc file.size).length + file.size) = benc n (fl (gb ws) 0 n) ++ [] := by
    unfold dvb
    rw [← List.drop_drop, List.drop_left, ← bytesOf_length, List.drop_left, List.append_nil]
  have hbd := bdec_enc (b := dvb file n ws) (R := []) (o := (venc file.size).length + file.size) (n := n) (l := fl (gb ws) 0 n) hn (fl_len _ _ _) (by rw [hlen]; omega) hd
  rw [if_pos True.intro, if_neg (by omega), if_neg (by rw [hlen]; omega)]
  rw [show ((venc file.size).length : Int) + (file.size : Int) = (((venc file.size).length + file.size : Nat) : Int) by omega]
  unfold bdR
  rw [hbd]
  simp only [Int.toNat_natCast]
  rw [if_pos True.intro, if_neg (by rw [hlen]; omega), fl_words n ws hw hl hn hz]
  congr 1
  rw [show ((dvb file n ws).take ((venc file.size).length + file.size)).drop (venc file.size).length = bytesOf file from ?_, strOf_bytes]
  unfold dvb
  rw [List.drop_take, List.drop_left, Nat.add_sub_cancel_left, ← bytesOf_length, List.take_left]

/-! ### awake -/
theorem aw_file : (⟨#[100, 45, 49]⟩ : ByteArray).size = 3 := rfl
theorem aw_gb (j : Nat) : gb [6] j = (decide (j = 1) || decide (j = 2)) := by
  unfold gb
  by_cases h : j < 64
  · have e : ∀ i : Fin 64, (([6] : List Int).getD (i.val / 64) 0).toNat.testBit (i.val % 64) = (decide (i.val = 1) || decide (i.val = 2)) := by decide +kernel
    exact e ⟨j, h⟩
  · have e : ([6] : List Int).getD (j / 64) 0 = 0 := by
      obtain ⟨q, hq⟩ : ∃ q, j / 64 = q + 1 := ⟨j / 64 - 1, by omega⟩
      rw [hq]; simp
    rw [e, decide_eq_false (by omega), decide_eq_false (by omega)]
    simp
theorem awake_ev : Ev (fun k => (laminalaw22_awake.f k).bind fun t => some t) true := by
  have w6 : wok [6] := by intro x hx; simp at hx; omega
  have hl : ([6] : List Int).length = wc 4 := rfl
  have hz : ∀ j, 4 ≤ j → gb [6] j = false := fun j hj => by rw [aw_gb, decide_eq_false (by omega), decide_eq_false (by omega)]; rfl
  have w0 : wok [] := by intro x hx; cases hx
  refine Ev.bind ?_ (Ev.now _)
  unfold laminalaw22_awake.f
  refine Ev.bind0 rfl ?_
  have hlv := ilive 4 [6] hl w6 (by decide) hz 4 (by decide)
  have e4 : lvL [6] (4 : Int).toNat = [0, 3] := by
    show lvL [6] 4 = [0, 3]
    simp [lvL, aw_gb]
  rw [e4] at hlv
  refine Ev.bind0 hlv ?_
  refine Ev.bind (ienc_ev ⟨#[100, 45, 49]⟩ 4 [6] (by decide) (by decide) w6 hl hz) ?_
  have hdd := idd_ev (dve ⟨#[100, 45, 49]⟩ 4 [6]) (dve_rng _ _ _) (by have := dve_len ⟨#[100, 45, 49]⟩ 4 [6] (by decide) (by decide); omega)
  rw [ddec_enc ⟨#[100, 45, 49]⟩ 4 [6] (by decide) (by decide) w6 hl hz] at hdd
  refine Ev.bind hdd ?_
  refine Ev.pos rfl ?_
  refine Ev.pos (by decide) ?_
  refine Ev.pos (by decide) ?_
  refine Ev.pos (by rw [ByteArray.toList_eq]) ?_
  refine Ev.pos rfl ?_
  refine Ev.pos rfl ?_
  refine Ev.pos (by decide) ?_
  refine Ev.pos (by decide) ?_
  refine Ev.pos rfl ?_
  refine Ev.bind ?_ (Ev.now _)
  have := iov_ev 4 4 0 (by decide) (by decide) (by decide) [6] [6] [] w6 w6 w0 hz
  have e : anyN (fun j => gb [6] j && gb [6] j && !gb [] j) 4 = true := (anyN_iff 4).2 ⟨1, by decide, by rw [aw_gb]; rfl⟩
  rw [e] at this
  exact this

/-! ### rows: each is equal to itself; Apply -/
theorem cmp_self (x : S77) : laminaref04_Compare.f x.f0 x.f1 x.f2 x.f0 x.f1 x.f2 = some 0 := by
  unfold laminaref04_Compare.f
  rw [if_pos rfl]
  have h2 : laminaref04_sign.f (decide (x.f1 < x.f1)) (decide (x.f1 > x.f1)) = some 0 := by
    unfold laminaref04_sign.f
    rw [if_neg (by simp), if_neg (by simp)]
  have hb : Op.bytesLess x.f2.toList x.f2.toList = false := by
    generalize x.f2.toList = l
    induction l with
    | nil => rfl
    | cons c l ih => simp [Op.bytesLess, ih]
  have h1 : laminaref04_sign.f (Op.bytesLess x.f2.toList x.f2.toList) (Op.bytesLess x.f2.toList x.f2.toList) = some 0 := by
    rw [hb]
    rfl
  by_cases c : x.f0 = 3
  · rw [if_pos c, h1]; rfl
  · rw [if_neg c, h2]; rfl
theorem crow_l0 (y : List S77) (hl : y.length ≤ 9223372036854775807) : ∀ (d i : Nat), i + d = y.length → Ev (fun k => laminaref04_CompareRows.l0 k y y (i : Int)) 0 := by
  intro d
  induction d with
  | zero =>
    intro i h
    refine Ev.succ ?_
    simp only [laminaref04_CompareRows.l0]
    refine Ev.neg (by omega) ?_
    refine Ev.succ ?_
    simp only [laminaref04_CompareRows.j1]
    refine Ev.neg (by decide) ?_
    refine Ev.bind0 (a := 0) ?_ (Ev.now _)
    unfold laminaref04_sign.f
    rw [if_neg (by simp), if_neg (by simp)]
  | succ d ih =>
    intro i h
    refine Ev.succ ?_
    simp only [laminaref04_CompareRows.l0]
    refine Ev.pos (by omega) ?_
    refine Ev.succ ?_
    simp only [laminaref04_CompareRows.j1, w64_add1 i (by omega)]
    refine Ev.pos (decide_eq_true (by omega)) ?_
    refine Ev.pos (by omega) ?_
    refine Ev.pos (by omega) ?_
    refine Ev.pos (by omega) ?_
    refine Ev.bind0 (cmp_self _) ?_
    refine Ev.pos rfl ?_
    exact ih (i + 1) (by omega)
theorem crow_ev (y : List S77) (hl : y.length ≤ 9223372036854775807) : Ev (fun k => laminaref04_CompareRows.f k y y) 0 := by
  unfold laminaref04_CompareRows.f
  exact crow_l0 y hl y.length 0 (by omega)
theorem eqr_l0 (x : List (List S77)) (hl : x.length ≤ 1000000) (hx : ∀ y ∈ x, y.length ≤ 9223372036854775807) : ∀ (d i : Nat), i + d = x.length → Ev (fun k => laminalaw22_equal.l0 k x x (i : Int)) true := by
  intro d
  induction d with
  | zero =>
    intro i h
    refine Ev.succ ?_
    simp only [laminalaw22_equal.l0]
    exact Ev.neg (by omega) (Ev.now _)
  | succ d ih =>
    intro i h
    refine Ev.succ ?_
    simp only [laminalaw22_equal.l0, w64_add1 i (by omega)]
    refine Ev.pos (by omega) ?_
    refine Ev.pos (by omega) ?_
    refine Ev.pos (by omega) ?_
    refine Ev.bind (crow_ev _ ?_) ?_
    · unfold rd_L11
      rw [Int.toNat_natCast, List.getD_eq_getElem?_getD, List.getElem?_eq_getElem (by omega)]
      exact hx _ (List.getElem_mem _)
    · refine Ev.pos rfl ?_
      exact ih (i + 1) (by omega)
theorem eqr_ev (x : List (List S77)) (hl : x.length ≤ 1000000) (hx : ∀ y ∈ x, y.length ≤ 9223372036854775807) : Ev (fun k => laminalaw22_equal.f k x x) true := by
  unfold laminalaw22_equal.f
  refine Ev.pos rfl ?_
  exact eqr_l0 x hl hx x.length 0 (by omega)
theorem val_tot (a b : Int) (s : ByteArray) : ∃ t, laminaref04_Valid.f a b s = some t := by
  unfold laminaref04_Valid.f
  repeat' split
  all_goals exact ⟨_, rfl⟩
theorem vrow_l0 (y : List S77) (hl : y.length ≤ 9223372036854775807) : ∀ (d i : Nat), i + d = y.length → ∃ t, Ev (fun k => laminaref04_ValidRow.l0 k y (i : Int)) t := by
  intro d
  induction d with
  | zero =>
    intro i h
    refine ⟨true, Ev.succ ?_⟩
    simp only [laminaref04_ValidRow.l0]
    exact Ev.neg (by omega) (Ev.now _)
  | succ d ih =>
    intro i h
    obtain ⟨t, ht⟩ := val_tot (rd_T77 y (i : Int)).f0 (rd_T77 y (i : Int)).f1 (rd_T77 y (i : Int)).f2
    obtain ⟨u, hu⟩ := ih (i + 1) (by omega)
    cases t with
    | true =>
      refine ⟨u, Ev.succ ?_⟩
      simp only [laminaref04_ValidRow.l0, w64_add1 i (by omega)]
      refine Ev.pos (by omega) ?_
      refine Ev.pos (by omega) ?_
      refine Ev.bind0 ht ?_
      exact Ev.pos rfl hu
    | false =>
      refine ⟨false, Ev.succ ?_⟩
      simp only [laminaref04_ValidRow.l0]
      refine Ev.pos (by omega) ?_
      refine Ev.pos (by omega) ?_
      refine Ev.bind0 ht ?_
      exact Ev.neg (by decide) (Ev.now _)
theorem vrow_ev (y : List S77) (hl : y.length ≤ 9223372036854775807) : ∃ t, Ev (fun k => laminaref04_ValidRow.f k y) t := by
  unfold laminaref04_ValidRow.f
  exact vrow_l0 y hl y.length 0 (by omega)
theorem lvL_mem (ws : List Int) : ∀ n, ∀ x ∈ lvL ws n, 0 ≤ x ∧ x < (n : Int) := by
  intro n
  induction n with
  | zero => intro x h; cases h
  | succ n ih =>
    intro x h
    simp only [lvL] at h
    split at h
    · have := ih x h; omega
    · rcases List.mem_append.1 h with h | h
      · have := ih x h; omega
      · simp at h; omega
theorem iapp (N : Nat) (ws : List Int) (hl : ws.length = wc N) (hw : wok ws) (hN : N ≤ 1048576) (hz : ∀ j, N ≤ j → gb ws j = false) (x : List (List S77)) (hx : x.length ≤ 1000000) : delvec_Apply.f x (N : Int) ws = some ((lvL ws x.length).map (apO x)) := by
  unfold delvec_Apply.f
  rw [if_pos hx, liveO_eq N ws hl hw hN hz]
  rfl
theorem rapp_l0 (x : List (List S77)) (hx : x.length ≤ 1000000) (ix : List Int) (hil : ix.length ≤ x.length) (hi : ∀ y ∈ ix, 0 ≤ y ∧ y < (x.length : Int)) : ∀ (d i : Nat), i + d = ix.length →
    Ev (fun k => laminaref22_Apply.l0 k x ((ix.take i).map (apO x)) ix (i : Int)) (ix.map (apO x)) := by
  intro d
  induction d with
  | zero =>
    intro i h
    refine Ev.succ ?_
    simp only [laminaref22_Apply.l0]
    refine Ev.neg (by omega) ?_
    exact Ev.eq (Ev.now _) (by rw [List.take_of_length_le (by omega)])
  | succ d ih =>
    intro i h
    have hlt : i < ix.length := by omega
    have hrd : rd ix (i : Int) = ix[i] := by rw [rd_nat, List.getD_eq_getElem?_getD, List.getElem?_eq_getElem hlt]; rfl
    have hb := hi ix[i] (List.getElem_mem hlt)
    refine Ev.succ ?_
    simp only [laminaref22_Apply.l0, w64_add1 i (by omega), hrd]
    refine Ev.pos (by omega) ?_
    refine Ev.pos (by omega) ?_
    refine Ev.pos hb.1 ?_
    refine Ev.pos hb.2 ?_
    refine Ev.pos (by rw [List.length_map, List.length_take]; omega) ?_
    have hn := ih (i + 1) (by omega)
    rw [List.take_succ_eq_append_getElem hlt, List.map_append] at hn
    exact hn
theorem rapp_ev (N : Nat) (ws : List Int) (hl : ws.length = wc N) (hw : wok ws) (hN : N ≤ 1048576) (hz : ∀ j, N ≤ j → gb ws j = false) (x : List (List S77)) (hx : x.length ≤ 1000000) : Ev (fun k => laminaref22_Apply.f k x (N : Int) ws) ((lvL ws x.length).map (apO x)) := by
  unfold laminaref22_Apply.f
  have h1 := rlive_ev N ws hl hw hN hz (x.length : Int) (by omega)
  rw [Int.toNat_natCast] at h1
  refine Ev.bind h1 ?_
  exact rapp_l0 x hx (lvL ws x.length) (lvL_len ws x.length) (lvL_mem ws x.length) (lvL ws x.length).length 0 (by omega)
theorem apO_all (x : List (List S77)) : ∀ n, n ≤ x.length → (lvL [] n).map (apO x) = x.take n := by
  intro n
  induction n with
  | zero => intro _; rfl
  | succ n ih =>
    intro h
    have g : gb [] n = false := by unfold gb; simp
    simp only [lvL]
    rw [if_neg (by rw [g]; decide), List.map_append, ih (by omega), List.take_succ_eq_append_getElem (by omega)]
    congr 1
    unfold apO
    simp only [List.map_cons, List.map_nil, Int.toNat_natCast]
    rw [List.getD_eq_getElem?_getD, List.getElem?_eq_getElem (by omega)]
    rfl

theorem both_l1 (x : List (List S77)) (hx : x.length ≤ 200) (hy : ∀ y ∈ x, y.length ≤ 9223372036854775807) (na nb : Nat) (hna : na ≤ 5000) (hnb : nb ≤ 5000) (la lb : List Int) (h1 : la.length = wc na) (h2 : lb.length = wc nb) (ka : wok la) (kb : wok lb) (za : ∀ j, na ≤ j → gb la j = false) (zb : ∀ j, nb ≤ j → gb lb j = false) :
    ∀ (d i : Nat), i + d = x.length → Ev (fun k => laminalaw22_DelvecApplies.l1 k x ((lvL (wof (max na nb) (fun j => gb la j || gb lb j)) i).map (apO x)) (i : Int) (na : Int) la (nb : Int) lb) true := by
  have zU : ∀ j, max na nb ≤ j → gb (wof (max na nb) (fun j => gb la j || gb lb j)) j = false := fun j hj => by rw [gb_wof, decide_eq_false (by omega), Bool.false_and]
  have gU : ∀ j, gb (wof (max na nb) (fun j => gb la j || gb lb j)) j = (gb la j || gb lb j) := by
    intro j
    rw [gb_wof]
    by_cases c : j < max na nb
    · rw [decide_eq_true c, Bool.true_and]
    · rw [decide_eq_false c, za j (by omega), zb j (by omega)]; rfl
  intro d
  induction d with
  | zero =>
    intro i h
    refine Ev.succ ?_
    simp only [laminalaw22_DelvecApplies.l1]
    refine Ev.neg (by omega) ?_
    have A1 := org_ev na nb (by omega) (by omega) la lb ka kb
    rw [bor_w ka kb za zb] at A1
    have U1 : Ev (fun k => delvec_Union.f k (na : Int) la (nb : Int) lb) (((max na nb : Nat) : Int), wof (max na nb) (fun j => gb la j || gb lb j)) := by
      unfold delvec_Union.f
      exact Ev.bind A1 (Ev.now _)
    refine Ev.bind U1 ?_
    refine Ev.bind0 (iapp (max na nb) _ (wof_length _ _) (wof_wok _ _) (by omega) zU x (by omega)) ?_
    rw [show i = x.length by omega]
    refine Ev.bind (eqr_ev _ ?_ ?_) ?_
    · rw [List.length_map]; have := lvL_len (wof (max na nb) (fun j => gb la j || gb lb j)) x.length; omega
    · intro y hy'
      obtain ⟨z, hz, rfl⟩ := List.mem_map.1 hy'
      have hz2 := lvL_mem _ _ z hz
      unfold apO
      rw [List.getD_eq_getElem?_getD, List.getElem?_eq_getElem (by omega)]
      exact hy _ (List.getElem_mem _)
    · refine Ev.pos rfl ?_
      exact awake_ev
  | succ d ih =>
    intro i h
    have hn := ih (i + 1) (by omega)
    simp only [lvL, gU] at hn
    refine Ev.succ ?_
    simp only [laminalaw22_DelvecApplies.l1, w64_add1 i (by omega)]
    refine Ev.pos (by omega) ?_
    refine Ev.bind0 (con_z na i la h1 ka (by omega) za) ?_
    by_cases c1 : gb la i = true
    · refine Ev.pos c1 ?_
      rw [if_pos (by rw [c1, Bool.true_or])] at hn
      exact hn
    · refine Ev.neg c1 ?_
      refine Ev.bind0 (con_z nb i lb h2 kb (by omega) zb) ?_
      by_cases c2 : gb lb i = true
      · refine Ev.pos c2 ?_
        rw [if_pos (by rw [c2, Bool.or_true])] at hn
        exact hn
      · refine Ev.neg c2 ?_
        rw [if_neg (by simp [c1, c2]), List.map_append] at hn
        refine Ev.pos (by omega) ?_
        refine Ev.pos (by rw [List.length_map]; have := lvL_len (wof (max na nb) (fun j => gb la j || gb lb j)) i; omega) ?_
        exact hn
theorem DelvecApplies : laminalaw22_DelvecApplies.Pure := by
  intro x a la b lb hx oka okb
  obtain ⟨hxl, hxy⟩ := hx
  have hy : ∀ y ∈ x, y.length ≤ 9223372036854775807 := fun y hm => (hxy y hm).1
  obtain ⟨_, hla, hwa⟩ := oka
  obtain ⟨_, hlb, hwb⟩ := okb
  simp only at hla hwa hlb hwb
  have ka := wok_of_wf hwa
  have kb := wok_of_wf hwb
  refine Ev.rounds (g := fun k => laminalaw22_DelvecApplies.f k x a la b lb) ?_
  unfold laminalaw22_DelvecApplies.f
  have bad : ∀ p q, Ev (fun k => laminalaw22_DelvecApplies.j0 k x true p la q lb) true := by
    intro p q
    refine Ev.succ ?_
    simp only [laminalaw22_DelvecApplies.j0]
    refine Ev.pos (by simp) ?_
    exact awake_ev
  rcases dsm_ev a la ka hla with ⟨na, rfl, hna, h1, za, e⟩ | e
  rotate_left
  · refine Ev.bind0 e ?_
    refine Ev.neg (by decide) ?_
    exact bad _ _
  refine Ev.bind0 e ?_
  refine Ev.pos rfl ?_
  rcases dsm_ev b lb kb hlb with ⟨nb, rfl, hnb, h2, zb, e'⟩ | e'
  rotate_left
  · refine Ev.bind0 e' ?_
    refine Ev.neg (by decide) ?_
    exact bad _ _
  refine Ev.bind0 e' ?_
  refine Ev.pos rfl ?_
  by_cases h200 : (x.length : Int) > 200
  · rw [decide_eq_true h200]; exact bad _ _
  rw [decide_eq_false h200]
  refine Ev.succ ?_
  simp only [laminalaw22_DelvecApplies.j0]
  refine Ev.neg (by decide) ?_
  have hx2 : x.length ≤ 200 := by omega
  have fin : Ev (fun k => laminalaw22_DelvecApplies.l0 k x (x.length : Int) (na : Int) la (nb : Int) lb) true := by
    refine Ev.succ ?_
    simp only [laminalaw22_DelvecApplies.l0]
    refine Ev.neg (by omega) ?_
    refine Ev.bind0 (iapp na la h1 ka (by omega) za x (by omega)) ?_
    refine Ev.bind (rapp_ev na la h1 ka (by omega) za x (by omega)) ?_
    refine Ev.bind (eqr_ev _ ?_ ?_) ?_
    · rw [List.length_map]; have := lvL_len la x.length; omega
    · intro y hy'
      obtain ⟨z, hz, rfl⟩ := List.mem_map.1 hy'
      have hz2 := lvL_mem _ _ z hz
      unfold apO
      rw [List.getD_eq_getElem?_getD, List.getElem?_eq_getElem (by omega)]
      exact hy _ (List.getElem_mem _)
    · refine Ev.pos rfl ?_
      have w0 : wok [] := by intro x hx; cases hx
      have hA := iapp 0 [] rfl w0 (by decide) (fun j _ => by unfold gb; simp) x (by omega)
      rw [apO_all x x.length (Nat.le_refl _), List.take_length] at hA
      refine Ev.bind0 hA ?_
      refine Ev.bind (eqr_ev x (by omega) hy) ?_
      refine Ev.succ ?_
      simp only [laminalaw22_DelvecApplies.j2]
      refine Ev.neg (by decide) ?_
      exact both_l1 x hx2 hy na nb hna hnb la lb h1 h2 ka kb za zb x.length 0 (by omega)
  have loop : ∀ (d i : Nat), i + d = x.length → Ev (fun k => laminalaw22_DelvecApplies.l0 k x (i : Int) (na : Int) la (nb : Int) lb) true := by
    intro d
    induction d with
    | zero => intro i h; rw [show i = x.length by omega]; exact fin
    | succ d ih =>
      intro i h
      have hrow : (rd_L11 x (i : Int)).length ≤ 9223372036854775807 := by
        unfold rd_L11
        rw [Int.toNat_natCast, List.getD_eq_getElem?_getD, List.getElem?_eq_getElem (by omega)]
        exact hy _ (List.getElem_mem _)
      obtain ⟨t, ht⟩ := vrow_ev (rd_L11 x (i : Int)) hrow
      refine Ev.succ ?_
      simp only [laminalaw22_DelvecApplies.l0, w64_add1 i (by omega)]
      refine Ev.pos (by omega) ?_
      refine Ev.pos (by omega) ?_
      refine Ev.bind ht ?_
      cases t with
      | true => exact Ev.pos rfl (ih (i + 1) (by omega))
      | false =>
        refine Ev.neg (by decide) ?_
        exact awake_ev
  exact loop x.length 0 (by omega)

end Go.Proofs.YtfonjlolliiaeaaDoor.Pure
