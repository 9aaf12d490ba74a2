/- laminalaw03.BitsetAlgebra returns true for all its arguments (De Morgan's laws, and sizes add up), the table of math/bits tied to the program's text. Conditions: none beyond the row's own (slices of at most 2^47 - 4096 bytes). -/
import Derived.Test.YtijgbhbdmnhanaaDoorStBitsetAlgebra
import Derived.Test.YtijgbhbdmnhanaaDoorUM01
import Derived.Test.YtijgbhbdmnhanaaDoorUM02
import Derived.Test.YtijgbhbdmnhanaaDoorUM03
import Derived.Test.YtijgbhbdmnhanaaDoorUM08
import Derived.Test.YtijgbhbdmnhanaaDoorUM11
import Derived.Test.YtijgbhbdmnhanaaDoorUM12
import Derived.Test.YtijgbhbdmnhanaaDoorUM13
import Derived.Test.YtijgbhbdmnhanaaDoorUM14
import Derived.Test.YtijgbhbdmnhanaaDoorUM15
import Derived.Test.YtijgbhbdmnhanaaDoorUM16
import Derived.Test.YtijgbhbdmnhanaaDoorUM17
set_option linter.unusedVariables false
set_option linter.unusedSimpArgs false
namespace Go.Proofs.YtijgbhbdmnhanaaDoor.Pure
open Go Go.RowKit Go.Proofs.YtijgbhbdmnhanaaDoor.QBitsetAlgebra Go.Proofs.YtijgbhbdmnhanaaDoorW.PrintWords Go.Proofs.YtijgbhbdmnhanaaDoorW.PrintLast Go.Proofs.YtijgbhbdmnhanaaDoorM

/-! ### the reference's bitset functions -/
theorem tdiv64 (i : Nat) (h : i < 9223372036854775808) : wrap64 (Int.tdiv (i : Int) 64) = ((i / 64 : Nat) : Int) := by
  rw [Int.tdiv_eq_ediv_of_nonneg (by omega), w64 _ (by omega) (by omega)]; omega
theorem tmod64 (i : Nat) : Int.tmod (i : Int) 64 = ((i % 64 : Nat) : Int) := by
  rw [Int.tmod_eq_emod_of_nonneg (by omega)]; omega
theorem utmod64 (i : Nat) : IntKind.u64.wrap (Int.tmod (i : Int) 64) = ((i % 64 : Nat) : Int) := by
  rw [tmod64]; exact wraps_u64 _ (by omega) (by omega)
theorem pow_cast0 (t : Nat) : ((2 ^ t : Nat) : Int) = 2 ^ t := by simp
theorem shl1 (r : Nat) (hr : r < 64) : shl .u64 1 (r : Int) = ((2 ^ r : Nat) : Int) := by
  have h := pow_lt64 r hr
  have h3 : ∀ p : Nat, p < 2 ^ 64 → IntKind.u64.wrap (p : Int) = (p : Int) := fun p hp => wraps_u64 _ (by omega) (by omega)
  unfold shl
  rw [show min ((r : Int).toNat) IntKind.u64.bits = r by simp [IntKind.bits]; omega, Int.one_mul, ← pow_cast0]
  exact h3 _ h
theorem bit_one (y : Int) (h0 : 0 ≤ y) (h1 : y < 18446744073709551616) (r : Nat) (hr : r < 64) : (Go.bits .and .u64 (shr .u64 y (r : Int)) 1 == 1) = y.toNat.testBit r := by
  obtain ⟨m, rfl⟩ := Int.eq_ofNat_of_zero_le h0
  unfold shr
  rw [show min ((r : Int).toNat) IntKind.u64.bits = r by simp [IntKind.bits]; omega, ← pow_cast0, ← Int.natCast_ediv, Int.toNat_natCast, Nat.testBit_eq_decide_div_mod_eq]
  have hqm := Nat.div_le_self m (2 ^ r)
  generalize m / 2 ^ r = q at hqm ⊢
  rw [and_one _ (by omega) (by omega)]
  by_cases hq : q % 2 = 1
  · rw [decide_eq_true hq]; simp; omega
  · rw [decide_eq_false hq]; simp; omega
theorem or_shl (ws : List Int) (hw : wok ws) (i : Nat) : Go.bits .or .u64 (ws.getD (i / 64) 0) (shl .u64 1 (((i % 64 : Nat)) : Int)) = (((ws.getD (i / 64) 0).toNat ||| 2 ^ (i % 64) : Nat) : Int) := by
  have h := wok_get hw (i / 64)
  rw [shl1 _ (Nat.mod_lt _ (by decide))]
  obtain ⟨m, hm⟩ := Int.eq_ofNat_of_zero_le h.1
  rw [hm] at h ⊢
  rw [Int.toNat_natCast]
  exact or_nat m _ (by omega) (pow_lt64 _ (Nat.mod_lt _ (by decide)))

/-! ### valid sets -/
def vset (a : Int) (ws : List Int) : Prop := 0 ≤ a ∧ a ≤ 1048576 ∧ ws.length = wc a.toNat ∧ ∀ j, a.toNat ≤ j → gb ws j = false
theorem last_word {ws : List Int} (hw : wok ws) {n : Nat} (hl : ws.length = wc n) (hn : n % 64 ≠ 0) :
    ((ws.getD (n / 64) 0).toNat / 2 ^ (n % 64) = 0) ↔ ∀ j, n ≤ j → gb ws j = false := by
  have hlt : n / 64 < ws.length := by rw [hl]; unfold wc; omega
  have hp := Nat.two_pow_pos (n % 64)
  constructor
  · intro h j hj
    by_cases hq : j / 64 = n / 64
    · unfold gb
      rw [hq]
      have h1 : (ws.getD (n / 64) 0).toNat < 2 ^ (n % 64) := by
        rcases Nat.div_eq_zero_iff.1 h with h2 | h2
        · omega
        · exact h2
      exact Nat.testBit_lt_two_pow (Nat.lt_of_lt_of_le h1 (Nat.pow_le_pow_right (by decide) (by omega)))
    · exact gb_out (by rw [hl]; unfold wc; omega)
  · intro h
    refine Nat.div_eq_of_lt (Nat.lt_pow_two_of_testBit _ (fun i hi => ?_))
    by_cases h64 : i < 64
    · have := h (64 * (n / 64) + i) (by omega)
      unfold gb at this
      rw [show (64 * (n / 64) + i) / 64 = n / 64 by omega, show (64 * (n / 64) + i) % 64 = i by omega] at this
      exact this
    · have h2 := wok_get hw (n / 64)
      have hp2 : 2 ^ 64 ≤ 2 ^ i := Nat.pow_le_pow_right (by decide) (by omega)
      exact Nat.testBit_lt_two_pow (by omega)
theorem vset_iff {n : Nat} {ws : List Int} : vset (n : Int) ws ↔ n ≤ 1048576 ∧ ws.length = wc n ∧ ∀ j, n ≤ j → gb ws j = false := by
  unfold vset
  rw [Int.toNat_natCast]
  constructor
  · rintro ⟨_, h2, h3, h4⟩; exact ⟨by omega, h3, h4⟩
  · rintro ⟨h2, h3, h4⟩; exact ⟨by omega, by omega, h3, h4⟩
theorem vset_wof (n : Nat) (f : Nat → Bool) (hn : n ≤ 1048576) : vset (n : Int) (wof n f) :=
  vset_iff.2 ⟨hn, wof_length n f, fun j hj => by rw [gb_wof, decide_eq_false (by omega), Bool.false_and]⟩
theorem vset_eq {n : Nat} {ws : List Int} (hw : wok ws) (h : vset (n : Int) ws) : ws = wof n (gb ws) := by
  obtain ⟨_, h2, h3⟩ := vset_iff.1 h
  refine wof_eq h2 hw (fun i => ?_)
  by_cases hi : i < n
  · rw [decide_eq_true hi, Bool.true_and]
  · rw [decide_eq_false hi, Bool.false_and, h3 i (by omega)]
theorem r03val (a : Int) (ws : List Int) (hw : wok ws) (hl : ws.length ≤ 9223372036854775807) : ∃ b, laminaref03_Valid.f a ws = some b ∧ (b = true ↔ vset a ws) := by
  unfold laminaref03_Valid.f
  by_cases h1 : a < 0
  · exact ⟨false, by rw [if_pos h1], by simp [vset]; omega⟩
  by_cases h2 : a > 1048576
  · exact ⟨false, by rw [if_neg h1, if_pos h2], by simp [vset]; omega⟩
  obtain ⟨n, rfl⟩ := Int.eq_ofNat_of_zero_le (show 0 ≤ a by omega)
  rw [if_neg h1, if_neg h2, w64 ((n : Int) + 63) (by omega) (by omega), show (n : Int) + 63 = ((n + 63 : Nat) : Int) by omega, tdiv64 _ (by omega), tmod64]
  have hwc : (n + 63) / 64 = wc n := rfl
  by_cases h3 : ws.length = wc n
  · rw [if_pos (by omega)]
    by_cases h4 : n % 64 = 0
    · refine ⟨true, by rw [if_pos (by omega)], iff_of_true rfl (vset_iff.2 ⟨by omega, h3, fun j hj => gb_out (by rw [h3]; unfold wc; omega)⟩)⟩
    · have e : wrap64 ((ws.length : Int) - 1) = ((n / 64 : Nat) : Int) := by
        rw [w64 _ (by omega) (by omega), h3]; unfold wc; omega
      have hq : n / 64 < ws.length := by rw [h3]; unfold wc; omega
      rw [if_neg (by omega), e, if_pos (by omega), if_pos (by omega), wraps_u64 ((n % 64 : Nat) : Int) (by omega) (by omega), if_pos (by omega), rd_nat]
      refine ⟨_, rfl, ?_⟩
      have hg := wok_get hw (n / 64)
      have hlw := last_word hw h3 h4
      obtain ⟨m, hm⟩ := Int.eq_ofNat_of_zero_le hg.1
      rw [hm] at hlw ⊢
      rw [Int.toNat_natCast] at hlw
      unfold shr
      rw [show min (((n % 64 : Nat) : Int).toNat) IntKind.u64.bits = n % 64 by simp [IntKind.bits]; omega, ← pow_cast0, ← Int.natCast_ediv]
      rw [vset_iff]
      generalize m / 2 ^ (n % 64) = q at hlw ⊢
      constructor
      · intro h; exact ⟨by omega, h3, hlw.1 (by simpa using h)⟩
      · rintro ⟨_, _, h⟩; have := hlw.2 h; simpa using this
  · refine ⟨false, by rw [if_neg (by omega)], ?_⟩
    rw [vset_iff]
    exact iff_of_false (by simp) (fun h => h3 h.2.1)

/-! ### Of, New -/
def nn (n : Int) : Nat := if n < 0 ∨ n > 1048576 then 0 else n.toNat
theorem nn_le (n : Int) : nn n ≤ 1048576 := by unfold nn; split <;> omega
theorem wc_words (n : Nat) (hn : n ≤ 1048576) : wrap64 (Int.tdiv (wrap64 ((n : Int) + 63)) 64) = ((wc n : Nat) : Int) := by
  rw [w64 ((n : Int) + 63) (by omega) (by omega), Int.tdiv_eq_ediv_of_nonneg (by omega), w64 _ (by omega) (by omega)]
  unfold wc; omega
theorem inew (n : Int) : bitset_New.f n = some ((nn n : Int), List.replicate (wc (nn n)) 0) := by
  have hw : ∀ m : Nat, m ≤ 1048576 → wc m ≤ 16384 + 1 := fun m h => by unfold wc; omega
  have c0 : bitset_wordCount.f 0 = some 0 := by decide +kernel
  unfold bitset_New.f nn
  by_cases h1 : n < 0
  · rw [if_pos h1, if_pos (.inl h1), c0]; rfl
  · rw [if_neg h1]
    by_cases h2 : n > 1048576
    · rw [if_pos h2, if_pos (.inr h2), c0]; rfl
    · rw [if_neg h2, if_neg (by omega)]
      obtain ⟨m, rfl⟩ := Int.eq_ofNat_of_zero_le (show 0 ≤ n by omega)
      have := hw m (by omega)
      unfold bitset_wordCount.f
      rw [wc_words m (by omega)]
      simp only [Option.bind_some]
      rw [if_pos (by omega), if_pos (by omega), Int.toNat_natCast, Int.toNat_natCast]
/-! ### Equal -/
theorem req_l0 (n : Int) (ws : List Int) (hl : ws.length ≤ 1000000) : ∀ (d i : Nat), i + d = ws.length → Ev (fun k => laminaref03_Equal.l0 k (i : Int) n ws n ws) true := by
  intro d
  induction d with
  | zero =>
    intro i h
    refine Ev.succ ?_
    simp only [laminaref03_Equal.l0]
    refine Ev.neg (by omega) ?_
    refine Ev.succ ?_
    simp only [laminaref03_Equal.j2]
    exact Ev.neg (by decide) (Ev.now _)
  | succ d ih =>
    intro i h
    refine Ev.succ ?_
    simp only [laminaref03_Equal.l0]
    refine Ev.pos (by omega) ?_
    rw [decide_eq_true (show (i : Int) < (ws.length : Int) by omega)]
    refine Ev.succ ?_
    simp only [laminaref03_Equal.j2]
    refine Ev.pos (by simp) ?_
    refine Ev.pos (by omega) ?_
    refine Ev.pos (by omega) ?_
    refine Ev.pos (by omega) ?_
    refine Ev.pos (by simp) ?_
    rw [w64_add1 i (by omega)]
    exact ih (i + 1) (by omega)
theorem req_ev (n : Int) (ws : List Int) (hl : ws.length ≤ 1000000) : Ev (fun k => laminaref03_Equal.f k n ws n ws) true := by
  unfold laminaref03_Equal.f
  refine Ev.pos (by simp) ?_
  have e : ((ws.length : Int) != (ws.length : Int)) = false := by simp
  rw [e]
  refine Ev.succ ?_
  simp only [laminaref03_Equal.j0]
  refine Ev.neg (by decide) ?_
  exact req_l0 n ws hl ws.length 0 (by omega)
theorem elsI_succ (ws : List Int) (i : Nat) : elsI ws (i + 1) = if gb ws i = true then elsI ws i ++ [(i : Int)] else elsI ws i := by
  unfold elsI
  rw [els_split i 0 1, Nat.zero_add]
  by_cases h : gb ws i = true
  · rw [if_pos h]
    have : els (gb ws) i 1 = [i] := by simp [els, h]
    rw [this, List.map_append]; rfl
  · rw [if_neg h]
    have : els (gb ws) i 1 = [] := by simp [els, h]
    rw [this, List.append_nil]
theorem elsI_cut {ws : List Int} {n m : Nat} (h : n ≤ m) (hz : ∀ j, n ≤ j → gb ws j = false) : elsI ws m = elsI ws n := by
  unfold elsI
  obtain ⟨c, rfl⟩ : ∃ c, m = n + c := ⟨m - n, by omega⟩
  rw [els_split, Nat.zero_add, els_none c n (fun i h1 _ => hz i h1), List.append_nil]
theorem elsI_len (ws : List Int) (n : Nat) : (elsI ws n).length ≤ n := by unfold elsI; rw [List.length_map]; exact els_len_le n 0

theorem gb_word (ws : List Int) (i r : Nat) (hr : r < 64) : gb ws (64 * i + r) = (ws.getD i 0).toNat.testBit r := by
  unfold gb; rw [show (64 * i + r) / 64 = i by omega, show (64 * i + r) % 64 = r by omega]
theorem nat_of {x : Int} (h : 0 ≤ x ∧ x < 18446744073709551616) : ∃ n : Nat, x = (n : Int) ∧ n < 18446744073709551616 := ⟨x.toNat, by omega, by omega⟩
theorem andNot_nat (x y : Nat) (hx : x < 18446744073709551616) (hy : y < 18446744073709551616) : Go.bits .andNot .u64 (x : Int) (y : Int) = ((x &&& (2 ^ 64 - (y + 1)) : Nat) : Int) := by
  have hx' : x % 2 ^ 64 = x := Nat.mod_eq_of_lt (by omega)
  have hy' : y % 2 ^ 64 = y := Nat.mod_eq_of_lt (by omega)
  have h3 : x &&& (2 ^ 64 - (y + 1)) ≤ x := Nat.and_le_left
  have e : (BitVec.ofNat 64 x &&& ~~~BitVec.ofNat 64 y : BitVec 64).toNat = x &&& (2 ^ 64 - (y + 1)) := by
    rw [BitVec.toNat_and, BitVec.toNat_not, BitVec.toNat_ofNat, BitVec.toNat_ofNat, hx', hy']
    congr 1
    omega
  simp only [Go.bits, IntKind.bits, BitVec.ofInt_natCast, wrap_u64]
  exact (congrArg (fun n : Nat => (n : Int) % 18446744073709551616) e).trans (by omega)

/-! ### words, one by one -/
theorem set_fill (l : List Int) (i : Nat) (hi : i < l.length) (n : Nat) (hn : n = l.length) : (l.take i ++ List.replicate (n - i) (0 : Int)).set i (l.getD i 0) = l.take (i + 1) ++ List.replicate (n - (i + 1)) 0 := by
  subst hn
  rw [List.set_append_right _ _ (by simp; omega), List.length_take, Nat.min_eq_left (by omega), Nat.sub_self, show l.length - i = (l.length - (i + 1)) + 1 by omega, List.replicate_succ, List.set_cons_zero,
    List.getD_eq_getElem?_getD, List.getElem?_eq_getElem hi, Option.getD_some, List.take_succ_eq_append_getElem hi, List.append_assoc, List.singleton_append]
def gl (G : Nat → Int) (m : Nat) : List Int := (List.range m).map G
theorem gl_len (G : Nat → Int) (m : Nat) : (gl G m).length = m := by simp [gl]
theorem gl_get (G : Nat → Int) (m i : Nat) (h : i < m) : (gl G m).getD i 0 = G i := by
  unfold gl; rw [List.getD_eq_getElem?_getD, List.getElem?_map, List.getElem?_range h]; rfl
theorem gl_wok {G : Nat → Int} {m : Nat} (h : ∀ i, i < m → 0 ≤ G i ∧ G i < 18446744073709551616) : wok (gl G m) := by
  intro x hx
  simp only [gl, List.mem_map, List.mem_range] at hx
  obtain ⟨i, hi, rfl⟩ := hx
  exact h i hi
theorem gb_gl {G : Nat → Int} {m : Nat} {f : Nat → Bool} (h : ∀ i r, i < m → r < 64 → (G i).toNat.testBit r = f (64 * i + r)) : ∀ j, j < 64 * m → gb (gl G m) j = f j := by
  intro j hj
  unfold gb
  rw [gl_get G m (j / 64) (by omega), h (j / 64) (j % 64) (by omega) (Nat.mod_lt _ (by decide)), show 64 * (j / 64) + j % 64 = j by omega]
theorem comb1 (a : Int) (ws : List Int) (i : Nat) : bitset_combine_1.f a ws (i : Int) = some (ws.getD i 0) := by
  unfold bitset_combine_1.f
  by_cases h : (i : Int) < (ws.length : Int)
  · rw [if_pos h, if_pos (by omega), rd_nat]
  · rw [if_neg h, List.getD_eq_getElem?_getD, List.getElem?_eq_none (by omega)]; rfl
theorem mx_self (n : Nat) : mx (n : Int) (n : Int) = (n : Int) := by unfold mx; split <;> rfl
theorem nn_nat (n : Nat) (h : n ≤ 1048576) : nn (n : Int) = n := by unfold nn; rw [if_neg (by omega)]; rfl
/-- The elements of a set that a sorted list gives. -/

theorem comb_l0_61 (a b : Int) (wa wb : List Int) (m : Nat) (hm : m ≤ 1000000) (N0 : Int) (G : Nat → Int) (hG : ∀ i, i < m → bitset_And_1.f (wa.getD i 0) (wb.getD i 0) = some (G i)) : ∀ (d i : Nat), i + d = m →
    Ev (fun k => bitset_combine_61.l0 k (m : Int) (i : Int) a wa b wb N0 ((gl G m).take i ++ List.replicate (m - i) 0)) (N0, gl G m) := by
  have hl := gl_len G m
  intro d
  induction d with
  | zero =>
    intro i h
    refine Ev.succ ?_
    simp only [bitset_combine_61.l0]
    refine Ev.neg (by omega) ?_
    refine Ev.eq (Ev.now _) ?_
    rw [show m - i = 0 by omega, List.replicate_zero, List.append_nil, List.take_of_length_le (by omega)]
  | succ d ih =>
    intro i h
    refine Ev.succ ?_
    simp only [bitset_combine_61.l0]
    refine Ev.pos (by omega) ?_
    refine Ev.bind0 (comb1 a wa i) ?_
    refine Ev.bind0 (comb1 b wb i) ?_
    refine Ev.bind0 (hG i (by omega)) ?_
    refine Ev.pos (by omega) ?_
    refine Ev.pos (by simp; omega) ?_
    rw [Int.toNat_natCast, ← gl_get G m i (by omega), set_fill (gl G m) i (by omega) m (by omega), w64_add1 i (by omega)]
    exact ih (i + 1) (by omega)
theorem comb_61 (n : Nat) (hn : n ≤ 1048576) (wa wb : List Int) (G : Nat → Int) (hG : ∀ i, i < wc n → bitset_And_1.f (wa.getD i 0) (wb.getD i 0) = some (G i)) : Ev (fun k => bitset_combine_61.f k (n : Int) wa (n : Int) wb) ((n : Int), gl G (wc n)) := by
  unfold bitset_combine_61.f
  rw [mx_self]
  refine Ev.bind0 (inew (n : Int)) ?_
  rw [nn_nat n hn]
  simp only [List.length_replicate]
  have := comb_l0_61 (n : Int) (n : Int) wa wb (wc n) (by unfold wc; omega) (n : Int) G hG (wc n) 0 (by omega)
  rw [List.take_zero, List.nil_append, Nat.sub_zero] at this
  exact this

theorem comb_l0_64 (a b : Int) (wa wb : List Int) (m : Nat) (hm : m ≤ 1000000) (N0 : Int) (G : Nat → Int) (hG : ∀ i, i < m → bitset_Or_1.f (wa.getD i 0) (wb.getD i 0) = some (G i)) : ∀ (d i : Nat), i + d = m →
    Ev (fun k => bitset_combine_64.l0 k (m : Int) (i : Int) a wa b wb N0 ((gl G m).take i ++ List.replicate (m - i) 0)) (N0, gl G m) := by
  have hl := gl_len G m
  intro d
  induction d with
  | zero =>
    intro i h
    refine Ev.succ ?_
    simp only [bitset_combine_64.l0]
    refine Ev.neg (by omega) ?_
    refine Ev.eq (Ev.now _) ?_
    rw [show m - i = 0 by omega, List.replicate_zero, List.append_nil, List.take_of_length_le (by omega)]
  | succ d ih =>
    intro i h
    refine Ev.succ ?_
    simp only [bitset_combine_64.l0]
    refine Ev.pos (by omega) ?_
    refine Ev.bind0 (comb1 a wa i) ?_
    refine Ev.bind0 (comb1 b wb i) ?_
    refine Ev.bind0 (hG i (by omega)) ?_
    refine Ev.pos (by omega) ?_
    refine Ev.pos (by simp; omega) ?_
    rw [Int.toNat_natCast, ← gl_get G m i (by omega), set_fill (gl G m) i (by omega) m (by omega), w64_add1 i (by omega)]
    exact ih (i + 1) (by omega)
theorem comb_64 (n : Nat) (hn : n ≤ 1048576) (wa wb : List Int) (G : Nat → Int) (hG : ∀ i, i < wc n → bitset_Or_1.f (wa.getD i 0) (wb.getD i 0) = some (G i)) : Ev (fun k => bitset_combine_64.f k (n : Int) wa (n : Int) wb) ((n : Int), gl G (wc n)) := by
  unfold bitset_combine_64.f
  rw [mx_self]
  refine Ev.bind0 (inew (n : Int)) ?_
  rw [nn_nat n hn]
  simp only [List.length_replicate]
  have := comb_l0_64 (n : Int) (n : Int) wa wb (wc n) (by unfold wc; omega) (n : Int) G hG (wc n) 0 (by omega)
  rw [List.take_zero, List.nil_append, Nat.sub_zero] at this
  exact this

theorem comb_l0_66 (a b : Int) (wa wb : List Int) (m : Nat) (hm : m ≤ 1000000) (N0 : Int) (G : Nat → Int) (hG : ∀ i, i < m → bitset_AndNot_1.f (wa.getD i 0) (wb.getD i 0) = some (G i)) : ∀ (d i : Nat), i + d = m →
    Ev (fun k => bitset_combine_66.l0 k (m : Int) (i : Int) a wa b wb N0 ((gl G m).take i ++ List.replicate (m - i) 0)) (N0, gl G m) := by
  have hl := gl_len G m
  intro d
  induction d with
  | zero =>
    intro i h
    refine Ev.succ ?_
    simp only [bitset_combine_66.l0]
    refine Ev.neg (by omega) ?_
    refine Ev.eq (Ev.now _) ?_
    rw [show m - i = 0 by omega, List.replicate_zero, List.append_nil, List.take_of_length_le (by omega)]
  | succ d ih =>
    intro i h
    refine Ev.succ ?_
    simp only [bitset_combine_66.l0]
    refine Ev.pos (by omega) ?_
    refine Ev.bind0 (comb1 a wa i) ?_
    refine Ev.bind0 (comb1 b wb i) ?_
    refine Ev.bind0 (hG i (by omega)) ?_
    refine Ev.pos (by omega) ?_
    refine Ev.pos (by simp; omega) ?_
    rw [Int.toNat_natCast, ← gl_get G m i (by omega), set_fill (gl G m) i (by omega) m (by omega), w64_add1 i (by omega)]
    exact ih (i + 1) (by omega)
theorem comb_66 (n : Nat) (hn : n ≤ 1048576) (wa wb : List Int) (G : Nat → Int) (hG : ∀ i, i < wc n → bitset_AndNot_1.f (wa.getD i 0) (wb.getD i 0) = some (G i)) : Ev (fun k => bitset_combine_66.f k (n : Int) wa (n : Int) wb) ((n : Int), gl G (wc n)) := by
  unfold bitset_combine_66.f
  rw [mx_self]
  refine Ev.bind0 (inew (n : Int)) ?_
  rw [nn_nat n hn]
  simp only [List.length_replicate]
  have := comb_l0_66 (n : Int) (n : Int) wa wb (wc n) (by unfold wc; omega) (n : Int) G hG (wc n) 0 (by omega)
  rw [List.take_zero, List.nil_append, Nat.sub_zero] at this
  exact this

theorem comb_l0_68 (a b : Int) (wa wb : List Int) (m : Nat) (hm : m ≤ 1000000) (N0 : Int) (G : Nat → Int) (hG : ∀ i, i < m → bitset_Not_1.f (wa.getD i 0) (wb.getD i 0) = some (G i)) : ∀ (d i : Nat), i + d = m →
    Ev (fun k => bitset_combine_68.l0 k (m : Int) (i : Int) a wa b wb N0 ((gl G m).take i ++ List.replicate (m - i) 0)) (N0, gl G m) := by
  have hl := gl_len G m
  intro d
  induction d with
  | zero =>
    intro i h
    refine Ev.succ ?_
    simp only [bitset_combine_68.l0]
    refine Ev.neg (by omega) ?_
    refine Ev.eq (Ev.now _) ?_
    rw [show m - i = 0 by omega, List.replicate_zero, List.append_nil, List.take_of_length_le (by omega)]
  | succ d ih =>
    intro i h
    refine Ev.succ ?_
    simp only [bitset_combine_68.l0]
    refine Ev.pos (by omega) ?_
    refine Ev.bind0 (comb1 a wa i) ?_
    refine Ev.bind0 (comb1 b wb i) ?_
    refine Ev.bind0 (hG i (by omega)) ?_
    refine Ev.pos (by omega) ?_
    refine Ev.pos (by simp; omega) ?_
    rw [Int.toNat_natCast, ← gl_get G m i (by omega), set_fill (gl G m) i (by omega) m (by omega), w64_add1 i (by omega)]
    exact ih (i + 1) (by omega)
theorem comb_68 (n : Nat) (hn : n ≤ 1048576) (wa wb : List Int) (G : Nat → Int) (hG : ∀ i, i < wc n → bitset_Not_1.f (wa.getD i 0) (wb.getD i 0) = some (G i)) : Ev (fun k => bitset_combine_68.f k (n : Int) wa (n : Int) wb) ((n : Int), gl G (wc n)) := by
  unfold bitset_combine_68.f
  rw [mx_self]
  refine Ev.bind0 (inew (n : Int)) ?_
  rw [nn_nat n hn]
  simp only [List.length_replicate]
  have := comb_l0_68 (n : Int) (n : Int) wa wb (wc n) (by unfold wc; omega) (n : Int) G hG (wc n) 0 (by omega)
  rw [List.take_zero, List.nil_append, Nat.sub_zero] at this
  exact this

/-! ### And, Or, AndNot, Not -/
theorem xor_max (x : Nat) (hx : x < 18446744073709551616) : Go.bits .xor .u64 IntKind.u64.max (x : Int) = ((2 ^ 64 - (x + 1) : Nat) : Int) := by
  rw [bits_xor_comm, show IntKind.u64.max = 18446744073709551615 by rfl, xor_ones_u64 (x : Int) (by omega) (by omega)]; omega
def band (n : Nat) (wa wb : List Int) : List Int := gl (fun i => (((wa.getD i 0).toNat &&& (wb.getD i 0).toNat : Nat) : Int)) (wc n)
def bor (n : Nat) (wa wb : List Int) : List Int := gl (fun i => (((wa.getD i 0).toNat ||| (wb.getD i 0).toNat : Nat) : Int)) (wc n)
def bandn (n : Nat) (wa wb : List Int) : List Int := gl (fun i => (((wa.getD i 0).toNat &&& (2 ^ 64 - ((wb.getD i 0).toNat + 1)) : Nat) : Int)) (wc n)
theorem and_ev (n : Nat) (hn : n ≤ 1048576) (wa wb : List Int) (ha : wok wa) (hb : wok wb) : Ev (fun k => bitset_And.f k (n : Int) wa (n : Int) wb) ((n : Int), band n wa wb) := by
  unfold bitset_And.f
  refine Ev.bind (comb_61 n hn wa wb _ (fun i _ => ?_)) (Ev.now _)
  obtain ⟨x, ex, hx⟩ := nat_of (wok_get ha i)
  obtain ⟨y, ey, hy⟩ := nat_of (wok_get hb i)
  unfold bitset_And_1.f
  rw [ex, ey, and_nat x y hx hy]; rfl
theorem or_ev (n : Nat) (hn : n ≤ 1048576) (wa wb : List Int) (ha : wok wa) (hb : wok wb) : Ev (fun k => bitset_Or.f k (n : Int) wa (n : Int) wb) ((n : Int), bor n wa wb) := by
  unfold bitset_Or.f
  refine Ev.bind (comb_64 n hn wa wb _ (fun i _ => ?_)) (Ev.now _)
  obtain ⟨x, ex, hx⟩ := nat_of (wok_get ha i)
  obtain ⟨y, ey, hy⟩ := nat_of (wok_get hb i)
  unfold bitset_Or_1.f
  rw [ex, ey, or_nat x y hx hy]; rfl
theorem andn_ev (n : Nat) (hn : n ≤ 1048576) (wa wb : List Int) (ha : wok wa) (hb : wok wb) : Ev (fun k => bitset_AndNot.f k (n : Int) wa (n : Int) wb) ((n : Int), bandn n wa wb) := by
  unfold bitset_AndNot.f
  refine Ev.bind (comb_66 n hn wa wb _ (fun i _ => ?_)) (Ev.now _)
  obtain ⟨x, ex, hx⟩ := nat_of (wok_get ha i)
  obtain ⟨y, ey, hy⟩ := nat_of (wok_get hb i)
  unfold bitset_AndNot_1.f
  rw [ex, ey, andNot_nat x y hx hy]; rfl
theorem band_wok {n : Nat} {wa wb : List Int} (ha : wok wa) : wok (band n wa wb) := gl_wok fun i _ => by
  have h := wok_get ha i
  have : (wa.getD i 0).toNat &&& (wb.getD i 0).toNat ≤ (wa.getD i 0).toNat := Nat.and_le_left
  omega
theorem bor_wok {n : Nat} {wa wb : List Int} (ha : wok wa) (hb : wok wb) : wok (bor n wa wb) := gl_wok fun i _ => by
  have h1 := wok_get ha i
  have h2 := wok_get hb i
  have : (wa.getD i 0).toNat ||| (wb.getD i 0).toNat < 2 ^ 64 := Nat.or_lt_two_pow (by omega) (by omega)
  omega
theorem bandn_wok {n : Nat} {wa wb : List Int} (ha : wok wa) : wok (bandn n wa wb) := gl_wok fun i _ => by
  have h := wok_get ha i
  have : (wa.getD i 0).toNat &&& (2 ^ 64 - ((wb.getD i 0).toNat + 1)) ≤ (wa.getD i 0).toNat := Nat.and_le_left
  omega
theorem gb_band {n : Nat} {wa wb : List Int} : ∀ j, j < 64 * wc n → gb (band n wa wb) j = (gb wa j && gb wb j) := gb_gl fun i r _ hr => by
  simp only [Int.toNat_natCast]
  rw [Nat.testBit_and, gb_word _ _ _ hr, gb_word _ _ _ hr]
theorem gb_bor {n : Nat} {wa wb : List Int} : ∀ j, j < 64 * wc n → gb (bor n wa wb) j = (gb wa j || gb wb j) := gb_gl fun i r _ hr => by
  simp only [Int.toNat_natCast]
  rw [Nat.testBit_or, gb_word _ _ _ hr, gb_word _ _ _ hr]
theorem gb_bandn {n : Nat} {wa wb : List Int} (hb : wok wb) : ∀ j, j < 64 * wc n → gb (bandn n wa wb) j = (gb wa j && !gb wb j) := gb_gl fun i r _ hr => by
  have h := wok_get hb i
  simp only [Int.toNat_natCast]
  rw [Nat.testBit_and, Nat.testBit_two_pow_sub_succ (by omega), gb_word _ _ _ hr, gb_word _ _ _ hr, decide_eq_true hr, Bool.true_and]
/-- Not: the words turned, the last one cut. -/
def bnot (n : Nat) (wa : List Int) : List Int :=
  let W := gl (fun i => ((2 ^ 64 - ((wa.getD i 0).toNat + 1) : Nat) : Int)) (wc n)
  if n % 64 = 0 then W else W.set (wc n - 1) (((W.getD (wc n - 1) 0).toNat % 2 ^ (n % 64) : Nat) : Int)
theorem not_ev (n : Nat) (hn : n ≤ 1048576) (wa : List Int) (ha : wok wa) : Ev (fun k => bitset_Not.f k (n : Int) wa) ((n : Int), bnot n wa) := by
  obtain ⟨W, hW⟩ : ∃ W, W = gl (fun i => ((2 ^ 64 - ((wa.getD i 0).toNat + 1) : Nat) : Int)) (wc n) := ⟨_, rfl⟩
  have hWl : W.length = wc n := by rw [hW]; exact gl_len _ _
  have hWk : wok W := by
    rw [hW]
    exact gl_wok fun i _ => by have h := wok_get ha i; omega
  have e1 : Ev (fun k => bitset_combine_68.f k (n : Int) wa (n : Int) wa) ((n : Int), W) := by
    rw [hW]
    refine comb_68 n hn wa wa _ (fun i _ => ?_)
    obtain ⟨x, ex, hx⟩ := nat_of (wok_get ha i)
    unfold bitset_Not_1.f
    rw [ex, xor_max x hx]; rfl
  unfold bitset_Not.f bnot
  refine Ev.bind e1 ?_
  simp only [← hW]
  rw [tmod64 n]
  by_cases c : n % 64 = 0
  · rw [if_pos c]
    refine Ev.pos (by omega) ?_
    exact Ev.now _
  · rw [if_neg c]
    have hw1 : 1 ≤ wc n := by unfold wc; omega
    have hw2 : wc n ≤ 20000 := by unfold wc; omega
    refine Ev.neg (by omega) ?_
    rw [show wrap64 ((W.length : Int) - 1) = ((wc n - 1 : Nat) : Int) by rw [w64 _ (by omega) (by omega)]; omega]
    refine Ev.pos (by omega) ?_
    refine Ev.pos (by omega) ?_
    refine Ev.pos (by omega) ?_
    refine Ev.eq (Ev.now _) ?_
    rw [Int.toNat_natCast, rd_nat]
    obtain ⟨x, ex, hx⟩ := nat_of (wok_get hWk (wc n - 1))
    have hr : n % 64 < 64 := Nat.mod_lt _ (by decide)
    have hp := pow_lt64 (n % 64) hr
    have hp1 := Nat.two_pow_pos (n % 64)
    have hm := bits_mask .u64 64 (by decide) wraps_u64 (n % 64) (by omega) (x : Int) (by omega) (by omega)
    rw [ex, Int.toNat_natCast, shl1 (n % 64) hr, wraps_u64 _ (by omega) (by omega), pow_cast0, hm, ← pow_cast0]
    congr 1
theorem bnot_len (n : Nat) (wa : List Int) : (bnot n wa).length = wc n := by
  unfold bnot; dsimp only; split <;> simp [gl_len]
theorem bnot_wok {n : Nat} {wa : List Int} (ha : wok wa) : wok (bnot n wa) := by
  have hWk : wok (gl (fun i => ((2 ^ 64 - ((wa.getD i 0).toNat + 1) : Nat) : Int)) (wc n)) := gl_wok fun i _ => by have h := wok_get ha i; omega
  unfold bnot
  dsimp only
  split
  · exact hWk
  · intro x hx
    rcases List.mem_or_eq_of_mem_set hx with h | rfl
    · exact hWk x h
    · have h := wok_get hWk (wc n - 1)
      have : ((gl (fun i => ((2 ^ 64 - ((wa.getD i 0).toNat + 1) : Nat) : Int)) (wc n)).getD (wc n - 1) 0).toNat % 2 ^ (n % 64) ≤ ((gl (fun i => ((2 ^ 64 - ((wa.getD i 0).toNat + 1) : Nat) : Int)) (wc n)).getD (wc n - 1) 0).toNat := Nat.mod_le _ _
      omega
theorem gb_bnot {n : Nat} {wa : List Int} (ha : wok wa) : ∀ j, j < 64 * wc n → gb (bnot n wa) j = (decide (j < n) && !gb wa j) := by
  intro j hj
  have h0 : ∀ j, j < 64 * wc n → gb (gl (fun i => ((2 ^ 64 - ((wa.getD i 0).toNat + 1) : Nat) : Int)) (wc n)) j = !gb wa j := gb_gl fun i r _ hr => by
    have h := wok_get ha i
    simp only [Int.toNat_natCast]
    rw [Nat.testBit_two_pow_sub_succ (by omega), gb_word _ _ _ hr, decide_eq_true hr, Bool.true_and]
  have hg := h0 j hj
  obtain ⟨W, hW⟩ : ∃ W, W = gl (fun i => ((2 ^ 64 - ((wa.getD i 0).toNat + 1) : Nat) : Int)) (wc n) := ⟨_, rfl⟩
  have hWl : W.length = wc n := by rw [hW]; exact gl_len _ _
  unfold bnot
  dsimp only
  rw [← hW] at hg ⊢
  by_cases c : n % 64 = 0
  · rw [if_pos c, hg, decide_eq_true (by unfold wc at hj; omega), Bool.true_and]
  · rw [if_neg c]
    by_cases cj : j / 64 = wc n - 1
    · unfold gb at hg ⊢
      rw [cj] at hg ⊢
      rw [List.getD_eq_getElem?_getD, List.getElem?_set_self (by omega), Option.getD_some, Int.toNat_natCast, Nat.testBit_mod_two_pow, hg]
      congr 1
      by_cases d : j < n
      · rw [decide_eq_true d, decide_eq_true (by unfold wc at cj; omega)]
      · rw [decide_eq_false d, decide_eq_false (by unfold wc at cj; omega)]
    · have e : gb (W.set (wc n - 1) (((W.getD (wc n - 1) 0).toNat % 2 ^ (n % 64) : Nat) : Int)) j = gb W j := by
        unfold gb
        rw [List.getD_eq_getElem?_getD, List.getElem?_set_ne (by omega), ← List.getD_eq_getElem?_getD]
      rw [e, hg, decide_eq_true (by unfold wc at cj hj; omega), Bool.true_and]

/-! ### the operations as sets -/
theorem set_of {n : Nat} {ws : List Int} {f : Nat → Bool} (hl : ws.length = wc n) (hw : wok ws) (h : ∀ j, j < 64 * wc n → gb ws j = f j) (hf : ∀ j, n ≤ j → f j = false) : ws = wof n f := by
  refine wof_eq hl hw (fun i => ?_)
  by_cases c : i < 64 * wc n
  · rw [h i c]
    by_cases d : i < n
    · rw [decide_eq_true d, Bool.true_and]
    · rw [decide_eq_false d, Bool.false_and, hf i (by omega)]
  · have := wc_le n
    rw [gb_out (by omega), decide_eq_false (by omega), Bool.false_and]
theorem bnot_w {n : Nat} {wa : List Int} (ha : wok wa) : bnot n wa = wof n (fun j => decide (j < n) && !gb wa j) :=
  set_of (bnot_len _ _) (bnot_wok ha) (gb_bnot ha) (fun j hj => by rw [decide_eq_false (by omega), Bool.false_and])
theorem bnot_w2 {n : Nat} {wa : List Int} (ha : wok wa) : bnot n wa = wof n (fun j => !gb wa j) := by
  rw [bnot_w ha]
  exact wof_congr (fun i hi => by rw [decide_eq_true hi, Bool.true_and])

/-! ### how many bits: Count, Rank -/
theorem and127_i64 (z : Nat) (hz : z < 9223372036854775808) : Go.bits .and .i64 (z : Int) 127 = ((z % 128 : Nat) : Int) := by
  have h1 : z % 2 ^ IntKind.i64.bits = z := Nat.mod_eq_of_lt (Nat.lt_of_lt_of_le hz (by decide))
  have h2 : BitVec.ofInt IntKind.i64.bits 127 = BitVec.ofNat IntKind.i64.bits 127 := by decide
  have h3 : z &&& 127 = z % 128 := Nat.and_two_pow_sub_one_eq_mod z 7
  have h4 : z % 128 < 128 := Nat.mod_lt _ (by decide)
  have h5 : 127 % 2 ^ IntKind.i64.bits = 127 := by decide
  simp only [Go.bits, BitVec.ofInt_natCast, h2, BitVec.toNat_and, BitVec.toNat_ofNat, h1, h5, h3, IntKind.wrap_i64]
  omega
theorem oc_ev (x : Nat) (hx : x < 18446744073709551616) : bits_OnesCount64.f (x : Int) = some ((cB (fun i => x.testBit i) 0 64 : Nat) : Int) := by
  have hM1 : Mk 0x55 8 = 6148914691236517205 := by decide
  have hM2 : Mk 0x33 8 = 3689348814741910323 := by decide
  have hM3 : Mk 0x0f 8 = 1085102592571150095 := by decide
  unfold bits_OnesCount64.f
  rw [← ones_eq]
  unfold ones
  dsimp only
  have a1 : Go.bits .and .u64 ((x : Int) / 2) 6148914691236517205 = ((x / 2 &&& 6148914691236517205 : Nat) : Int) := by
    rw [show ((x : Int) / 2) = ((x / 2 : Nat) : Int) by omega]
    exact and_nat (x / 2) 6148914691236517205 (by omega) (by decide)
  have a2 : Go.bits .and .u64 (x : Int) 6148914691236517205 = ((x &&& 6148914691236517205 : Nat) : Int) := and_nat x 6148914691236517205 hx (by decide)
  obtain ⟨p, hp⟩ : ∃ p, p = P1 x 8 := ⟨_, rfl⟩
  have hpv : p = (x / 2 &&& 6148914691236517205) + (x &&& 6148914691236517205) := by rw [hp]; unfold P1; rw [hM1]
  have l1 : x / 2 &&& 6148914691236517205 ≤ 6148914691236517205 := Nat.and_le_right
  have l2 : x &&& 6148914691236517205 ≤ 6148914691236517205 := Nat.and_le_right
  have y1 : IntKind.u64.wrap ((Go.bits .and .u64 ((x : Int) / 2) 6148914691236517205) + (Go.bits .and .u64 (x : Int) 6148914691236517205)) = (p : Int) := by
    rw [a1, a2, wraps_u64 _ (by omega) (by omega), hpv]; omega
  rw [y1, ← hp]
  have hp64 : p < 18446744073709551616 := by omega
  clear a1 a2 y1 hpv l1 l2 hp hx
  have b1 : Go.bits .and .u64 ((p : Int) / 4) 3689348814741910323 = ((p / 4 &&& 3689348814741910323 : Nat) : Int) := by
    rw [show ((p : Int) / 4) = ((p / 4 : Nat) : Int) by omega]
    exact and_nat (p / 4) 3689348814741910323 (by omega) (by decide)
  have b2 : Go.bits .and .u64 (p : Int) 3689348814741910323 = ((p &&& 3689348814741910323 : Nat) : Int) := and_nat p 3689348814741910323 hp64 (by decide)
  obtain ⟨q, hq⟩ : ∃ q, q = P2 p 8 := ⟨_, rfl⟩
  have hqv : q = (p / 4 &&& 3689348814741910323) + (p &&& 3689348814741910323) := by rw [hq]; unfold P2; rw [hM2]
  have l1 : p / 4 &&& 3689348814741910323 ≤ 3689348814741910323 := Nat.and_le_right
  have l2 : p &&& 3689348814741910323 ≤ 3689348814741910323 := Nat.and_le_right
  have y2 : IntKind.u64.wrap ((Go.bits .and .u64 ((p : Int) / 4) 3689348814741910323) + (Go.bits .and .u64 (p : Int) 3689348814741910323)) = (q : Int) := by
    rw [b1, b2, wraps_u64 _ (by omega) (by omega), hqv]; omega
  rw [y2, ← hq]
  have hq64 : q ≤ 7378697629483820646 := by omega
  clear b1 b2 y2 hqv l1 l2 hq hp64
  obtain ⟨s, hs⟩ : ∃ s, s = P3 q 8 := ⟨_, rfl⟩
  have hsv : s = (q / 16 + q) &&& 1085102592571150095 := by rw [hs]; unfold P3; rw [hM3]
  have l3 : (q / 16 + q) &&& 1085102592571150095 ≤ 1085102592571150095 := Nat.and_le_right
  have y3 : Go.bits .and .u64 (IntKind.u64.wrap ((q : Int) / 16 + (q : Int))) 1085102592571150095 = (s : Int) := by
    rw [wraps_u64 _ (by omega) (by omega), show (q : Int) / 16 + (q : Int) = ((q / 16 + q : Nat) : Int) by omega, hsv]
    exact and_nat (q / 16 + q) 1085102592571150095 (by omega) (by decide)
  rw [y3, ← hs]
  have hs64 : s ≤ 1085102592571150095 := by omega
  clear y3 hsv l3 hs hq64
  have y4 : IntKind.u64.wrap ((s : Int) + (s : Int) / 256) = ((s + s / 256 : Nat) : Int) := by
    rw [wraps_u64 _ (by omega) (by omega)]; omega
  rw [y4]
  obtain ⟨u, hu⟩ : ∃ u, u = s + s / 256 := ⟨_, rfl⟩
  rw [← hu]
  have hu64 : u ≤ 2000000000000000000 := by omega
  clear y4 hu hs64
  have y5 : IntKind.u64.wrap ((u : Int) + (u : Int) / 65536) = ((u + u / 65536 : Nat) : Int) := by
    rw [wraps_u64 _ (by omega) (by omega)]; omega
  rw [y5]
  obtain ⟨v, hv⟩ : ∃ v, v = u + u / 65536 := ⟨_, rfl⟩
  rw [← hv]
  have hv64 : v ≤ 3000000000000000000 := by omega
  clear y5 hv hu64
  have y6 : wrap64 (IntKind.u64.wrap ((v : Int) + (v : Int) / 4294967296)) = ((v + v / 4294967296 : Nat) : Int) := by
    rw [wraps_u64 _ (by omega) (by omega), w64 _ (by omega) (by omega)]; omega
  rw [y6]
  obtain ⟨z, hz⟩ : ∃ z, z = v + v / 4294967296 := ⟨_, rfl⟩
  rw [← hz]
  have hz64 : z ≤ 4000000000000000000 := by omega
  rw [and127_i64 z (by omega)]
theorem cB_word (ws : List Int) (i : Nat) : cB (fun r => (ws.getD i 0).toNat.testBit r) 0 64 = cB (gb ws) (64 * i) 64 := by
  have h := cB_shift (gb ws) (64 * i) 0 64
  rw [Nat.add_zero] at h
  rw [← h]
  unfold cB
  congr 1
  exact els_congr 64 0 (fun r _ hr => (gb_word ws i r (by omega)).symm)
theorem cB_le (f : Nat → Bool) (lo n : Nat) : cB f lo n ≤ n := els_len_le n lo
theorem icount_l0 (N : Int) (ws : List Int) (hw : wok ws) (hl : ws.length ≤ 1000000) : ∀ (d i acc : Nat), i + d = ws.length → acc ≤ 64 * i → Ev (fun k => bitset_Count.l0 k (acc : Int) ws (ws.length : Int) (i : Int)) ((acc + cB (gb ws) (64 * i) (64 * d) : Nat) : Int) := by
  intro d
  induction d with
  | zero =>
    intro i acc h1 h2
    refine Ev.succ ?_
    simp only [bitset_Count.l0]
    refine Ev.neg (by omega) ?_
    exact Ev.now _
  | succ d ih =>
    intro i acc h1 h2
    refine Ev.succ ?_
    simp only [bitset_Count.l0]
    refine Ev.pos (by omega) ?_
    refine Ev.pos (by omega) ?_
    refine Ev.pos (by omega) ?_
    rw [rd_nat]
    have hr := wok_get hw i
    obtain ⟨x, ex, hx⟩ := nat_of hr
    have hcw := cB_word ws i
    rw [ex, Int.toNat_natCast] at hcw
    rw [ex]
    refine Ev.bind0 (oc_ev x hx) ?_
    rw [hcw]
    have hc := cB_le (gb ws) (64 * i) 64
    rw [w64_add acc _ (by omega), w64_add1 i (by omega)]
    refine Ev.eq (ih (i + 1) (acc + cB (gb ws) (64 * i) 64) (by omega) (by omega)) ?_
    rw [show 64 * (d + 1) = 64 + 64 * d by omega, cB_add, show 64 * i + 64 = 64 * (i + 1) by omega, Nat.add_assoc]
theorem icount_ev (N : Int) (ws : List Int) (hw : wok ws) (hl : ws.length ≤ 1000000) : Ev (fun k => bitset_Count.f k N ws) ((cB (gb ws) 0 (64 * ws.length) : Nat) : Int) := by
  unfold bitset_Count.f
  have := icount_l0 N ws hw hl ws.length 0 0 (by omega) (by omega)
  simpa using this
theorem cB_cut {f : Nat → Bool} {n m : Nat} (h : n ≤ m) (hz : ∀ j, n ≤ j → f j = false) : cB f 0 m = cB f 0 n := by
  obtain ⟨c, rfl⟩ : ∃ c, m = n + c := ⟨m - n, by omega⟩
  rw [cB_add]
  unfold cB
  rw [els_none c (0 + n) (fun i h1 _ => hz i (by omega))]
  simp
/-- min(max(i, 0), N). -/
def cl (a : Int) (N : Nat) : Nat := if a < 0 then 0 else if (N : Int) < a then N else a.toNat
theorem cl_le (a : Int) (N : Nat) : cl a N ≤ N := by
  unfold cl
  split
  · omega
  · split <;> omega
theorem mnmx (a : Int) (N : Nat) : mn (mx a 0) (N : Int) = (cl a N : Int) := by
  unfold mn mx cl
  repeat' split
  all_goals omega
theorem mask_bits (x r : Nat) (hr : r < 64) : cB (fun i => (x % 2 ^ r).testBit i) 0 64 = cB (fun i => x.testBit i) 0 r := by
  obtain ⟨c, hc⟩ : ∃ c, 64 = r + c := ⟨64 - r, by omega⟩
  rw [hc, cB_add]
  have h1 : cB (fun i => (x % 2 ^ r).testBit i) 0 r = cB (fun i => x.testBit i) 0 r := by
    unfold cB
    congr 1
    exact els_congr r 0 (fun i _ hi => by rw [Nat.testBit_mod_two_pow, decide_eq_true (show i < r by omega), Bool.true_and])
  have h2 : cB (fun i => (x % 2 ^ r).testBit i) (0 + r) c = 0 := by
    unfold cB
    rw [els_none c (0 + r) (fun i hi _ => by rw [Nat.testBit_mod_two_pow, decide_eq_false (show ¬ i < r by omega), Bool.false_and])]
    rfl
  rw [h1, h2, Nat.add_zero]
theorem irank_l0 (N m : Nat) (ws : List Int) (hw : wok ws) (hl : ws.length = wc N) (hN : N ≤ 1048576) (hm : m ≤ N) : ∀ (d i acc : Nat), i + d = m / 64 → acc = cB (gb ws) 0 (64 * i) →
    Ev (fun k => bitset_Rank.l0 k (m : Int) (acc : Int) (ws.take (m / 64)) (((ws.take (m / 64)).length : Nat) : Int) (i : Int) (N : Int) ws) ((cB (gb ws) 0 m : Nat) : Int) := by
  have hwc : m / 64 ≤ ws.length := by rw [hl]; unfold wc; omega
  have htl : (ws.take (m / 64)).length = m / 64 := by rw [List.length_take]; omega
  intro d
  induction d with
  | zero =>
    intro i acc h1 h2
    have hi : i = m / 64 := by omega
    have hacc : acc ≤ m := by have := cB_le (gb ws) 0 (64 * i); omega
    refine Ev.succ ?_
    simp only [bitset_Rank.l0, htl]
    refine Ev.neg (by omega) ?_
    rw [tmod64 m]
    by_cases c : m % 64 = 0
    · refine Ev.pos (by omega) ?_
      refine Ev.eq (Ev.now _) ?_
      rw [h2, show 64 * i = m by omega]
    · refine Ev.neg (by omega) ?_
      rw [tdiv64 m (by omega)]
      have hlt : m / 64 < ws.length := by rw [hl]; unfold wc; omega
      refine Ev.pos (by omega) ?_
      refine Ev.pos (by omega) ?_
      refine Ev.pos (by omega) ?_
      rw [rd_nat]
      obtain ⟨x, ex, hx⟩ := nat_of (wok_get hw (m / 64))
      have hr : m % 64 < 64 := Nat.mod_lt _ (by decide)
      have hp := pow_lt64 (m % 64) hr
      have hp1 := Nat.two_pow_pos (m % 64)
      have hmk := bits_mask .u64 64 (by decide) wraps_u64 (m % 64) (by omega) (x : Int) (by omega) (by omega)
      have e1 : Go.bits .and .u64 (x : Int) (IntKind.u64.wrap ((shl .u64 1 ((m % 64 : Nat) : Int)) - 1)) = ((x % 2 ^ (m % 64) : Nat) : Int) := by
        rw [shl1 (m % 64) hr, wraps_u64 _ (by omega) (by omega), pow_cast0, hmk, ← pow_cast0]
        rfl
      have hxm : x % 2 ^ (m % 64) ≤ x := Nat.mod_le _ _
      rw [ex, e1]
      refine Ev.bind0 (oc_ev _ (by omega)) ?_
      rw [mask_bits x (m % 64) hr]
      have hcw : cB (fun i => x.testBit i) 0 (m % 64) = cB (gb ws) (64 * (m / 64)) (m % 64) := by
        have h := cB_shift (gb ws) (64 * (m / 64)) 0 (m % 64)
        rw [Nat.add_zero] at h
        rw [← h]
        unfold cB
        congr 1
        exact els_congr (m % 64) 0 (fun r _ hr2 => by rw [gb_word ws (m / 64) r (by omega), ex, Int.toNat_natCast])
      have hc := cB_le (gb ws) (64 * (m / 64)) (m % 64)
      rw [hcw]
      refine Ev.eq (Ev.now _) ?_
      rw [w64_add acc _ (by omega), h2, hi]
      have := cB_add (gb ws) 0 (64 * (m / 64)) (m % 64)
      rw [Nat.zero_add, show 64 * (m / 64) + m % 64 = m by omega] at this
      rw [this]
  | succ d ih =>
    intro i acc h1 h2
    have hacc : acc ≤ 64 * i := by rw [h2]; exact cB_le _ _ _
    refine Ev.succ ?_
    simp only [bitset_Rank.l0]
    refine Ev.pos (by rw [htl]; omega) ?_
    refine Ev.pos (by omega) ?_
    refine Ev.pos (by rw [htl]; omega) ?_
    have eg : rd (ws.take (m / 64)) (i : Int) = ws.getD i 0 := by
      rw [rd_nat, List.getD_eq_getElem?_getD, List.getElem?_take, if_pos (by omega), ← List.getD_eq_getElem?_getD]
    rw [eg]
    obtain ⟨x, ex, hx⟩ := nat_of (wok_get hw i)
    have hcw := cB_word ws i
    rw [ex, Int.toNat_natCast] at hcw
    rw [ex]
    refine Ev.bind0 (oc_ev x hx) ?_
    rw [hcw]
    have hc := cB_le (gb ws) (64 * i) 64
    rw [w64_add acc _ (by omega), w64_add1 i (by omega)]
    refine ih (i + 1) _ (by omega) ?_
    have := cB_add (gb ws) 0 (64 * i) 64
    rw [Nat.zero_add] at this
    rw [h2, show 64 * (i + 1) = 64 * i + 64 by omega, this]
theorem irank_ev (N : Nat) (ws : List Int) (hw : wok ws) (hl : ws.length = wc N) (hN : N ≤ 1048576) (a : Int) : Ev (fun k => bitset_Rank.f k (N : Int) ws a) ((cB (gb ws) 0 (cl a N) : Nat) : Int) := by
  unfold bitset_Rank.f
  have hm := cl_le a N
  rw [mnmx a N, tdiv64 (cl a N) (by omega)]
  refine Ev.pos (by omega) ?_
  refine Ev.pos (by rw [hl]; unfold wc; omega) ?_
  rw [Int.toNat_natCast]
  exact irank_l0 N (cl a N) ws hw hl hN hm (cl a N / 64) 0 0 (by omega) rfl

/-! ### small -/
theorem wok_of_wf {l : List Int} (h : ∀ x ∈ l, (Lit.int .u64 x).wf = true) : wok l := fun x hx => wf_u64 (h x hx)
theorem sm_ev (a : Int) (l : List Int) (hw : wok l) (hl : l.length ≤ 9223372036854775807) : (∃ n : Nat, a = (n : Int) ∧ n ≤ 3000 ∧ l.length = wc n ∧ (∀ j, n ≤ j → gb l j = false) ∧ laminalaw03_small.f a l = some true) ∨ laminalaw03_small.f a l = some false := by
  unfold laminalaw03_small.f
  by_cases h : a ≤ 3000
  · rw [if_pos h]
    obtain ⟨b, e, i⟩ := r03val a l hw hl
    rw [e]
    cases b with
    | true =>
      left
      have hv := i.1 rfl
      have ha : 0 ≤ a := hv.1
      obtain ⟨n, rfl⟩ := Int.eq_ofNat_of_zero_le ha
      obtain ⟨h1, h2, h3⟩ := vset_iff.1 hv
      exact ⟨n, rfl, by omega, h2, h3, rfl⟩
    | false => right; rfl
  · rw [if_neg h]; right; rfl
theorem lives_ev : Ev (fun _ => laminalaw03_lives.f.bind fun t => some t) true := Ev.now _

theorem cB_cons (f : Nat → Bool) (lo n : Nat) : cB f lo (n + 1) = (if f lo = true then 1 else 0) + cB f (lo + 1) n := by
  unfold cB
  simp only [els]
  split
  · simp [Nat.add_comm]
  · simp
theorem cB_and_or (f g : Nat → Bool) : ∀ (n lo : Nat), cB f lo n + cB g lo n = cB (fun j => f j && g j) lo n + cB (fun j => f j || g j) lo n := by
  intro n
  induction n with
  | zero => intro lo; rfl
  | succ n ih =>
    intro lo
    have h := ih (lo + 1)
    rw [cB_cons, cB_cons, cB_cons, cB_cons]
    cases f lo <;> cases g lo <;> simp <;> omega
theorem cB_congr {f g : Nat → Bool} (n : Nat) (h : ∀ j, j < n → f j = g j) : cB f 0 n = cB g 0 n := by
  unfold cB
  congr 1
  exact els_congr n 0 (fun i _ hi => h i (by omega))
theorem BitsetAlgebra : laminalaw03_BitsetAlgebra.Pure := by
  intro a la b lb oka okb
  obtain ⟨_, hla, hwa⟩ := oka
  obtain ⟨_, hlb, hwb⟩ := okb
  simp only at hla hwa hlb hwb
  have ka := wok_of_wf hwa
  have kb := wok_of_wf hwb
  refine Ev.rounds (g := fun k => laminalaw03_BitsetAlgebra.f k a la b lb) ?_
  unfold laminalaw03_BitsetAlgebra.f
  have bad : ∀ x y, Ev (fun k => laminalaw03_BitsetAlgebra.j0 k true x la y lb) true := by
    intro x y
    refine Ev.succ ?_
    simp only [laminalaw03_BitsetAlgebra.j0]
    refine Ev.pos (by simp) ?_
    exact lives_ev
  rcases sm_ev a la ka hla with ⟨n, rfl, hn, h1, za, e⟩ | e
  rotate_left
  · refine Ev.bind0 e ?_
    refine Ev.neg (by decide) ?_
    exact bad _ _
  refine Ev.bind0 e ?_
  refine Ev.pos rfl ?_
  rcases sm_ev b lb kb hlb with ⟨m, rfl, hm, g1, zb, e'⟩ | e'
  rotate_left
  · refine Ev.bind0 e' ?_
    refine Ev.neg (by decide) ?_
    exact bad _ _
  refine Ev.bind0 e' ?_
  refine Ev.pos rfl ?_
  by_cases c : n = m
  rotate_left
  · rw [show ((n : Int) != (m : Int)) = true by simp; omega]
    exact bad _ _
  subst c
  rw [show ((n : Int) != (n : Int)) = false by simp]
  have hN : n ≤ 1048576 := by omega
  have hwc : wc n ≤ 50 := by unfold wc; omega
  have wk := fun (f : Nat → Bool) => wof_wok n f
  have e1 : band n la lb = wof n (fun j => gb la j && gb lb j) := set_of (gl_len _ _) (band_wok ka) gb_band (fun j hj => by rw [za j hj, Bool.false_and])
  have e2 : bor n la lb = wof n (fun j => gb la j || gb lb j) := set_of (gl_len _ _) (bor_wok ka kb) gb_bor (fun j hj => by rw [za j hj, zb j hj, Bool.false_or])
  have e3 : bandn n la lb = wof n (fun j => gb la j && !gb lb j) := set_of (gl_len _ _) (bandn_wok ka) (gb_bandn kb) (fun j hj => by rw [za j hj, Bool.false_and])
  have nw : ∀ f : Nat → Bool, bnot n (wof n f) = wof n (fun j => !f j) := by
    intro f
    rw [bnot_w2 (wk f)]
    exact wof_congr (fun j hj => by rw [gb_wof, decide_eq_true hj, Bool.true_and])
  have ow : ∀ f g : Nat → Bool, bor n (wof n f) (wof n g) = wof n (fun j => f j || g j) := by
    intro f g
    rw [show bor n (wof n f) (wof n g) = wof n (fun j => gb (wof n f) j || gb (wof n g) j) from set_of (gl_len _ _) (bor_wok (wk f) (wk g)) gb_bor (fun j hj => by rw [gb_wof, gb_wof, decide_eq_false (by omega)]; simp)]
    exact wof_congr (fun j hj => by rw [gb_wof, gb_wof, decide_eq_true hj, Bool.true_and, Bool.true_and])
  have aw : ∀ g : Nat → Bool, band n la (wof n g) = wof n (fun j => gb la j && g j) := by
    intro g
    rw [show band n la (wof n g) = wof n (fun j => gb la j && gb (wof n g) j) from set_of (gl_len _ _) (band_wok ka) gb_band (fun j hj => by rw [za j hj, Bool.false_and])]
    exact wof_congr (fun j hj => by rw [gb_wof, decide_eq_true hj, Bool.true_and])
  have cnt : ∀ (ws : List Int), wok ws → ws.length = wc n → (∀ j, n ≤ j → gb ws j = false) → Ev (fun k => bitset_Count.f k (n : Int) ws) ((cB (gb ws) 0 n : Nat) : Int) := by
    intro ws k1 k2 k3
    have := icount_ev (n : Int) ws k1 (by omega)
    rw [cB_cut (n := n) (by rw [k2]; exact wc_le n) k3] at this
    exact this
  have zw : ∀ f : Nat → Bool, ∀ j, n ≤ j → gb (wof n f) j = false := fun f j hj => by rw [gb_wof, decide_eq_false (by omega), Bool.false_and]
  refine Ev.succ ?_
  simp only [laminalaw03_BitsetAlgebra.j0]
  refine Ev.neg (by decide) ?_
  have A1 := and_ev n hN la lb ka kb
  rw [e1] at A1
  refine Ev.bind A1 ?_
  have A2 := not_ev n hN (wof n (fun j => gb la j && gb lb j)) (wk _)
  rw [nw] at A2
  refine Ev.bind A2 ?_
  have A3 := not_ev n hN la ka
  rw [bnot_w2 ka] at A3
  refine Ev.bind A3 ?_
  have A4 := not_ev n hN lb kb
  rw [bnot_w2 kb] at A4
  refine Ev.bind A4 ?_
  have A5 := or_ev n hN _ _ (wk (fun j => !gb la j)) (wk (fun j => !gb lb j))
  rw [ow] at A5
  refine Ev.bind A5 ?_
  refine Ev.bind A4 ?_
  have A6 := and_ev n hN la _ ka (wk (fun j => !gb lb j))
  rw [aw] at A6
  refine Ev.bind A6 ?_
  have q1 : wof n (fun j => !(gb la j && gb lb j)) = wof n (fun j => !gb la j || !gb lb j) := wof_congr (fun j _ => by cases gb la j <;> cases gb lb j <;> rfl)
  rw [q1]
  refine Ev.bind (req_ev _ _ (by rw [wof_length]; omega)) ?_
  refine Ev.pos rfl ?_
  have A7 := andn_ev n hN la lb ka kb
  rw [e3] at A7
  refine Ev.bind A7 ?_
  refine Ev.bind (req_ev _ _ (by rw [wof_length]; omega)) ?_
  refine Ev.pos rfl ?_
  refine Ev.bind (cnt la ka h1 za) ?_
  refine Ev.bind (cnt lb kb g1 zb) ?_
  refine Ev.bind A1 ?_
  refine Ev.bind (cnt _ (wk _) (wof_length _ _) (zw _)) ?_
  have A8 := or_ev n hN la lb ka kb
  rw [e2] at A8
  refine Ev.bind A8 ?_
  refine Ev.bind (cnt _ (wk _) (wof_length _ _) (zw _)) ?_
  have s1 := cB_and_or (gb la) (gb lb) n 0
  have s2 : cB (gb (wof n (fun j => gb la j && gb lb j))) 0 n = cB (fun j => gb la j && gb lb j) 0 n := cB_congr n (fun j hj => by rw [gb_wof, decide_eq_true hj, Bool.true_and])
  have s3 : cB (gb (wof n (fun j => gb la j || gb lb j))) 0 n = cB (fun j => gb la j || gb lb j) 0 n := cB_congr n (fun j hj => by rw [gb_wof, decide_eq_true hj, Bool.true_and])
  refine Ev.pos (by rw [s2, s3]; congr 1; omega) ?_
  refine Ev.bind A3 ?_
  have A9 := not_ev n hN _ (wk (fun j => !gb la j))
  rw [nw] at A9
  refine Ev.bind A9 ?_
  have q2 : wof n (fun j => !!gb la j) = la := by
    conv => rhs; rw [vset_eq ka (vset_iff.2 ⟨hN, h1, za⟩)]
    exact wof_congr (fun j _ => by simp)
  rw [q2]
  refine Ev.bind (req_ev (n : Int) la (by omega)) ?_
  refine Ev.pos rfl ?_
  exact lives_ev

end Go.Proofs.YtijgbhbdmnhanaaDoor.Pure
