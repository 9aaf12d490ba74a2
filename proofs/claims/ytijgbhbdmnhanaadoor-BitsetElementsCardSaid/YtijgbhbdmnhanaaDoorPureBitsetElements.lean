/- laminalaw03.BitsetElements returns true for all its arguments (construction, membership, counting, rank, select and iteration equal the reference), the table of math/bits tied to the program's text. Conditions: none beyond the row's own (slices of at most 2^47 - 4096 bytes). -/
import Derived.Test.YtijgbhbdmnhanaaDoorStBitsetElements
import Derived.Test.YtijgbhbdmnhanaaDoorUM01
import Derived.Test.YtijgbhbdmnhanaaDoorUM02
import Derived.Test.YtijgbhbdmnhanaaDoorUM03
import Derived.Test.YtijgbhbdmnhanaaDoorUM08
import Derived.Test.YtijgbhbdmnhanaaDoorUM11
import Derived.Test.YtijgbhbdmnhanaaDoorUM12
import Derived.Test.YtijgbhbdmnhanaaDoorUM13
import Derived.Test.YtijgbhbdmnhanaaDoorUM16
import Derived.Test.YtijgbhbdmnhanaaDoorUM17
set_option linter.unusedVariables false
set_option linter.unusedSimpArgs false
namespace Go.Proofs.YtijgbhbdmnhanaaDoor.Pure
open Go Go.RowKit Go.Proofs.YtijgbhbdmnhanaaDoor.QBitsetElements Go.Proofs.YtijgbhbdmnhanaaDoorW.PrintWords Go.Proofs.YtijgbhbdmnhanaaDoorW.PrintLast Go.Proofs.YtijgbhbdmnhanaaDoorM

/-! ### the reference's bitset functions -/
theorem tdiv64 (i : Nat) (h : i < 9223372036854775808) : wrap64 (Int.tdiv (i : Int) 64) = ((i / 64 : Nat) : Int) := by
  rw [Int.tdiv_eq_ediv_of_nonneg (by omega), w64 _ (by omega) (by omega)]; omega
theorem tmod64 (i : Nat) : Int.tmod (i : Int) 64 = ((i % 64 : Nat) : Int) := by
  rw [Int.tmod_eq_emod_of_nonneg (by omega)]; omega
theorem utmod64 (i : Nat) : IntKind.u64.wrap (Int.tmod (i : Int) 64) = ((i % 64 : Nat) : Int) := by
  rw [tmod64]; exact wraps_u64 _ (by omega) (by omega)
theorem pow_cast0 (t : Nat) : ((2 ^ t : Nat) : Int) = 2 ^ t := by simp
theorem shl1 (r : Nat) (hr : r < 64) : shl .u64 1 (r : Int) = ((2 ^ r : Nat) : Int) := by
  have h := pow_lt64 r hr
  have h3 : ∀ p : Nat, p < 2 ^ 64 → IntKind.u64.wrap (p : Int) = (p : Int) := fun p hp => wraps_u64 _ (by omega) (by omega)
  unfold shl
  rw [show min ((r : Int).toNat) IntKind.u64.bits = r by simp [IntKind.bits]; omega, Int.one_mul, ← pow_cast0]
  exact h3 _ h
theorem bit_one (y : Int) (h0 : 0 ≤ y) (h1 : y < 18446744073709551616) (r : Nat) (hr : r < 64) : (Go.bits .and .u64 (shr .u64 y (r : Int)) 1 == 1) = y.toNat.testBit r := by
  obtain ⟨m, rfl⟩ := Int.eq_ofNat_of_zero_le h0
  unfold shr
  rw [show min ((r : Int).toNat) IntKind.u64.bits = r by simp [IntKind.bits]; omega, ← pow_cast0, ← Int.natCast_ediv, Int.toNat_natCast, Nat.testBit_eq_decide_div_mod_eq]
  have hqm := Nat.div_le_self m (2 ^ r)
  generalize m / 2 ^ r = q at hqm ⊢
  rw [and_one _ (by omega) (by omega)]
  by_cases hq : q % 2 = 1
  · rw [decide_eq_true hq]; simp; omega
  · rw [decide_eq_false hq]; simp; omega
theorem or_shl (ws : List Int) (hw : wok ws) (i : Nat) : Go.bits .or .u64 (ws.getD (i / 64) 0) (shl .u64 1 (((i % 64 : Nat)) : Int)) = (((ws.getD (i / 64) 0).toNat ||| 2 ^ (i % 64) : Nat) : Int) := by
  have h := wok_get hw (i / 64)
  rw [shl1 _ (Nat.mod_lt _ (by decide))]
  obtain ⟨m, hm⟩ := Int.eq_ofNat_of_zero_le h.1
  rw [hm] at h ⊢
  rw [Int.toNat_natCast]
  exact or_nat m _ (by omega) (pow_lt64 _ (Nat.mod_lt _ (by decide)))
theorem r03con (n i : Nat) (ws : List Int) (hl : ws.length = wc n) (hw : wok ws) (hn : n < 9223372036854775808) : laminaref03_Contains.f (n : Int) ws (i : Int) = some (decide (i < n) && gb ws i) := by
  unfold laminaref03_Contains.f
  rw [if_pos (by omega)]
  by_cases h : i < n
  · have hq : i / 64 < ws.length := by rw [hl]; unfold wc; omega
    rw [if_pos (by omega), tdiv64 i (by omega), utmod64, if_pos (by omega), if_pos (by omega), if_pos (by omega), rd_nat]
    have h2 := wok_get hw (i / 64)
    rw [bit_one _ h2.1 h2.2 _ (Nat.mod_lt _ (by decide)), decide_eq_true h]
    simp [gb]
  · rw [if_neg (by omega), decide_eq_false h]; rfl
theorem r03con_neg (n : Int) (i : Int) (ws : List Int) (hi : i < 0) : laminaref03_Contains.f n ws i = some false := by
  unfold laminaref03_Contains.f
  rw [if_neg (by omega)]

theorem r03new (n : Nat) (hn : n ≤ 1048576) : laminaref03_New.f (n : Int) = some ((n : Int), List.replicate (wc n) 0) := by
  unfold laminaref03_New.f
  rw [if_neg (by omega), if_neg (by omega)]
  have e : wrap64 (Int.tdiv (wrap64 ((n : Int) + 63)) 64) = ((wc n : Nat) : Int) := by
    rw [w64 ((n : Int) + 63) (by omega) (by omega), show (n : Int) + 63 = ((n + 63 : Nat) : Int) by omega, tdiv64 _ (by omega)]; rfl
  rw [e, if_pos (by omega), if_pos (by unfold wc; omega), Int.toNat_natCast]
theorem range_map_set (n i : Nat) (f : Nat → Bool) (l : List Bool) (hl : l.length = n) (h : ∀ j, j < i → l.getD j false = f j) (hi : i < n) : ∀ j, j < i + 1 → (l.set i (f i)).getD j false = f j := by
  intro j hj
  by_cases e : j = i
  · subst e; simp [List.getD_eq_getElem?_getD, List.getElem?_set_self (show j < l.length by omega)]
  · rw [List.getD_eq_getElem?_getD, List.getElem?_set_ne (by omega), ← List.getD_eq_getElem?_getD]; exact h j (by omega)
theorem list_of_getD (n : Nat) (f : Nat → Bool) (l : List Bool) (hl : l.length = n) (h : ∀ j, j < n → l.getD j false = f j) : l = (List.range n).map f := by
  apply List.ext_getElem
  · simp [hl]
  · intro j h1 h2
    have := h j (by omega)
    rw [List.getD_eq_getElem?_getD, List.getElem?_eq_getElem h1] at this
    simpa using this
theorem r03bits_l0 (n : Nat) (ws : List Int) (hl : ws.length = wc n) (hw : wok ws) (hn : n ≤ 1048576) : ∀ (d i : Nat) (l : List Bool), i + d = n → l.length = n → (∀ j, j < i → l.getD j false = gb ws j) →
    Ev (fun k => laminaref03_bits.l0 k l (i : Int) (n : Int) ws) ((List.range n).map (gb ws)) := by
  intro d
  induction d with
  | zero =>
    intro i l hi hll h
    refine Ev.succ ?_
    simp only [laminaref03_bits.l0]
    refine Ev.neg (by omega) ?_
    exact Ev.eq (Ev.now _) (list_of_getD n _ l hll (fun j hj => h j (by omega)))
  | succ d ih =>
    intro i l hi hll h
    refine Ev.succ ?_
    simp only [laminaref03_bits.l0, w64_add1 i (by omega)]
    refine Ev.pos (by omega) ?_
    refine Ev.bind0 (r03con n i ws hl hw (by omega)) ?_
    refine Ev.pos (by omega) ?_
    refine Ev.pos (by omega) ?_
    rw [decide_eq_true (show i < n by omega), Bool.true_and, Int.toNat_natCast]
    exact ih (i + 1) _ (by omega) (by simp [hll]) (range_map_set n i (gb ws) l hll h (by omega))
theorem r03bits (n : Nat) (ws : List Int) (hl : ws.length = wc n) (hw : wok ws) (hn : n ≤ 1048576) : Ev (fun k => laminaref03_bits.f k (n : Int) ws) ((List.range n).map (gb ws)) := by
  unfold laminaref03_bits.f
  refine Ev.pos (by omega) ?_
  refine Ev.pos (by omega) ?_
  rw [Int.toNat_natCast]
  exact r03bits_l0 n ws hl hw hn n 0 _ (by omega) (by simp) (fun j hj => by omega)
theorem r03build_l0 (bs : List Bool) (f : Nat → Bool) (hf : ∀ i, i < bs.length → bs.getD i false = f i) (hn : bs.length ≤ 1048576) : ∀ (d i : Nat), i + d = bs.length →
    Ev (fun k => laminaref03_build.l0 k bs (i : Int) (bs.length : Int) (wofN (wc bs.length) f i)) ((bs.length : Int), wof bs.length f) := by
  intro d
  induction d with
  | zero =>
    intro i hi
    refine Ev.succ ?_
    simp only [laminaref03_build.l0]
    refine Ev.neg (by omega) ?_
    refine Ev.eq (Ev.now _) ?_
    rw [show i = bs.length by omega]; rfl
  | succ d ih =>
    intro i hi
    have ih2 := ih (i + 1) (by omega)
    have hq : i / 64 < (wofN (wc bs.length) f i).length := by rw [wofN_length]; unfold wc; omega
    have hrd : rdOf false bs (i : Int) = f i := by rw [← hf i (by omega)]; simp [rdOf]
    refine Ev.succ ?_
    simp only [laminaref03_build.l0, w64_add1 i (by omega), tdiv64 i (by omega), utmod64, hrd]
    refine Ev.pos (by omega) ?_
    refine Ev.pos (by omega) ?_
    simp only [wofN] at ih2
    by_cases h : f i = true
    · rw [if_pos h] at ih2
      refine Ev.pos h ?_
      refine Ev.pos (by omega) ?_
      refine Ev.pos (by omega) ?_
      refine Ev.pos (by omega) ?_
      rw [Int.toNat_natCast, rd_nat, or_shl _ (wofN_wok _ _ _)]
      exact ih2
    · rw [if_neg h] at ih2
      refine Ev.neg h ?_
      exact ih2
theorem r03build (bs : List Bool) (f : Nat → Bool) (hf : ∀ i, i < bs.length → bs.getD i false = f i) (hn : bs.length ≤ 1048576) : Ev (fun k => laminaref03_build.f k bs) ((bs.length : Int), wof bs.length f) := by
  unfold laminaref03_build.f
  refine Ev.bind0 (r03new _ hn) ?_
  exact r03build_l0 bs f hf hn bs.length 0 (by omega)
/-- Set. -/
theorem r03set (n : Nat) (ws : List Int) (hl : ws.length = wc n) (hw : wok ws) (hn : n ≤ 1048576) (i : Nat) (hi : i < n) (on : Bool) : Ev (fun k => laminaref03_Set.f k (n : Int) ws (i : Int) on) ((n : Int), wof n (fun j => if j = i then on else gb ws j)) := by
  unfold laminaref03_Set.f
  refine Ev.bind (r03bits n ws hl hw hn) ?_
  refine Ev.pos (by omega) ?_
  refine Ev.pos (by rw [List.length_map, List.length_range]; omega) ?_
  refine Ev.pos (by omega) ?_
  rw [Int.toNat_natCast]
  have hb := r03build (((List.range n).map (gb ws)).set i on) (fun j => if j = i then on else gb ws j) (by
    intro j hj
    simp only [List.length_set, List.length_map, List.length_range] at hj
    by_cases e : j = i
    · subst e; rw [if_pos rfl]; simp [List.getD_eq_getElem?_getD, hi]
    · rw [if_neg e, List.getD_eq_getElem?_getD, List.getElem?_set_ne (by omega)]; simp [hj]) (by simp; omega)
  have hlen : (((List.range n).map (gb ws)).set i on).length = n := by simp
  rw [hlen] at hb
  refine Ev.bind hb ?_
  exact Ev.now _

/-! ### valid sets -/
def vset (a : Int) (ws : List Int) : Prop := 0 ≤ a ∧ a ≤ 1048576 ∧ ws.length = wc a.toNat ∧ ∀ j, a.toNat ≤ j → gb ws j = false
theorem last_word {ws : List Int} (hw : wok ws) {n : Nat} (hl : ws.length = wc n) (hn : n % 64 ≠ 0) :
    ((ws.getD (n / 64) 0).toNat / 2 ^ (n % 64) = 0) ↔ ∀ j, n ≤ j → gb ws j = false := by
  have hlt : n / 64 < ws.length := by rw [hl]; unfold wc; omega
  have hp := Nat.two_pow_pos (n % 64)
  constructor
  · intro h j hj
    by_cases hq : j / 64 = n / 64
    · unfold gb
      rw [hq]
      have h1 : (ws.getD (n / 64) 0).toNat < 2 ^ (n % 64) := by
        rcases Nat.div_eq_zero_iff.1 h with h2 | h2
        · omega
        · exact h2
      exact Nat.testBit_lt_two_pow (Nat.lt_of_lt_of_le h1 (Nat.pow_le_pow_right (by decide) (by omega)))
    · exact gb_out (by rw [hl]; unfold wc; omega)
  · intro h
    refine Nat.div_eq_of_lt (Nat.lt_pow_two_of_testBit _ (fun i hi => ?_))
    by_cases h64 : i < 64
    · have := h (64 * (n / 64) + i) (by omega)
      unfold gb at this
      rw [show (64 * (n / 64) + i) / 64 = n / 64 by omega, show (64 * (n / 64) + i) % 64 = i by omega] at this
      exact this
    · have h2 := wok_get hw (n / 64)
      have hp2 : 2 ^ 64 ≤ 2 ^ i := Nat.pow_le_pow_right (by decide) (by omega)
      exact Nat.testBit_lt_two_pow (by omega)
theorem vset_iff {n : Nat} {ws : List Int} : vset (n : Int) ws ↔ n ≤ 1048576 ∧ ws.length = wc n ∧ ∀ j, n ≤ j → gb ws j = false := by
  unfold vset
  rw [Int.toNat_natCast]
  constructor
  · rintro ⟨_, h2, h3, h4⟩; exact ⟨by omega, h3, h4⟩
  · rintro ⟨h2, h3, h4⟩; exact ⟨by omega, by omega, h3, h4⟩
theorem vset_wof (n : Nat) (f : Nat → Bool) (hn : n ≤ 1048576) : vset (n : Int) (wof n f) :=
  vset_iff.2 ⟨hn, wof_length n f, fun j hj => by rw [gb_wof, decide_eq_false (by omega), Bool.false_and]⟩
theorem vset_eq {n : Nat} {ws : List Int} (hw : wok ws) (h : vset (n : Int) ws) : ws = wof n (gb ws) := by
  obtain ⟨_, h2, h3⟩ := vset_iff.1 h
  refine wof_eq h2 hw (fun i => ?_)
  by_cases hi : i < n
  · rw [decide_eq_true hi, Bool.true_and]
  · rw [decide_eq_false hi, Bool.false_and, h3 i (by omega)]

/-! ### Of, New -/
def nn (n : Int) : Nat := if n < 0 ∨ n > 1048576 then 0 else n.toNat
theorem nn_le (n : Int) : nn n ≤ 1048576 := by unfold nn; split <;> omega
def ofL (n : Nat) : List Int → List Int → List Int
  | ws, [] => ws
  | ws, x :: r => ofL n (if 0 ≤ x ∧ x < (n : Int) then sb ws x.toNat else ws) r
theorem ofL_len (n : Nat) : ∀ (l ws : List Int), (ofL n ws l).length = ws.length := by
  intro l
  induction l with
  | nil => intro ws; rfl
  | cons x r ih => intro ws; simp only [ofL]; rw [ih]; split <;> simp [sb_length]
theorem ofL_wok (n : Nat) : ∀ (l ws : List Int), wok ws → wok (ofL n ws l) := by
  intro l
  induction l with
  | nil => intro ws h; exact h
  | cons x r ih => intro ws h; simp only [ofL]; exact ih _ (by split <;> first | exact sb_wok h _ | exact h)
theorem wc_words (n : Nat) (hn : n ≤ 1048576) : wrap64 (Int.tdiv (wrap64 ((n : Int) + 63)) 64) = ((wc n : Nat) : Int) := by
  rw [w64 ((n : Int) + 63) (by omega) (by omega), Int.tdiv_eq_ediv_of_nonneg (by omega), w64 _ (by omega) (by omega)]
  unfold wc; omega
theorem inew (n : Int) : bitset_New.f n = some ((nn n : Int), List.replicate (wc (nn n)) 0) := by
  have hw : ∀ m : Nat, m ≤ 1048576 → wc m ≤ 16384 + 1 := fun m h => by unfold wc; omega
  have c0 : bitset_wordCount.f 0 = some 0 := by decide +kernel
  unfold bitset_New.f nn
  by_cases h1 : n < 0
  · rw [if_pos h1, if_pos (.inl h1), c0]; rfl
  · rw [if_neg h1]
    by_cases h2 : n > 1048576
    · rw [if_pos h2, if_pos (.inr h2), c0]; rfl
    · rw [if_neg h2, if_neg (by omega)]
      obtain ⟨m, rfl⟩ := Int.eq_ofNat_of_zero_le (show 0 ≤ n by omega)
      have := hw m (by omega)
      unfold bitset_wordCount.f
      rw [wc_words m (by omega)]
      simp only [Option.bind_some]
      rw [if_pos (by omega), if_pos (by omega), Int.toNat_natCast, Int.toNat_natCast]
theorem rnew (n : Int) : laminaref03_New.f n = some ((nn n : Int), List.replicate (wc (nn n)) 0) := by
  have hw : ∀ m : Nat, m ≤ 1048576 → wc m ≤ 16384 + 1 := fun m h => by unfold wc; omega
  unfold laminaref03_New.f nn
  by_cases h1 : n < 0
  · rw [if_pos h1, if_pos (.inl h1)]; rfl
  · rw [if_neg h1]
    by_cases h2 : n > 1048576
    · rw [if_pos h2, if_pos (.inr h2)]; rfl
    · rw [if_neg h2]
      simp only [if_neg (show ¬ (n < 0 ∨ n > 1048576) by omega)]
      obtain ⟨m, rfl⟩ := Int.eq_ofNat_of_zero_le (show 0 ≤ n by omega)
      have := hw m (by omega)
      rw [wc_words m (by omega)]
      rw [if_pos (by omega), if_pos (by omega), Int.toNat_natCast, Int.toNat_natCast]
theorem of_word {x : Int} {n : Nat} (h0 : 0 ≤ x) (h1 : x < (n : Int)) (hn : n ≤ 1048576) : wrap64 (Int.tdiv x 64) = ((x.toNat / 64 : Nat) : Int) ∧ Int.tmod x 64 = ((x.toNat % 64 : Nat) : Int) := by
  obtain ⟨m, rfl⟩ := Int.eq_ofNat_of_zero_le h0
  exact ⟨by rw [tdiv64 m (by omega), Int.toNat_natCast], by rw [tmod64 m, Int.toNat_natCast]⟩
theorem drop_cons {l : List Int} {i : Nat} (h : i < l.length) : l.drop i = l.getD i 0 :: l.drop (i + 1) := by
  rw [List.getD_eq_getElem?_getD, List.getElem?_eq_getElem h, Option.getD_some]; exact List.drop_eq_getElem_cons h
theorem iof_l0 (n : Nat) (hn : n ≤ 1048576) (l : List Int) (hl : l.length ≤ 1000000) : ∀ (d i : Nat) (ws : List Int), i + d = l.length → ws.length = wc n → wok ws → Ev (fun k => bitset_Of.l0 k l (l.length : Int) (i : Int) (n : Int) ws) ((n : Int), ofL n ws (l.drop i)) := by
  intro d
  induction d with
  | zero =>
    intro i ws h1 h2 h3
    refine Ev.succ ?_
    simp only [bitset_Of.l0]
    refine Ev.neg (by omega) ?_
    rw [List.drop_of_length_le (by omega)]
    exact Ev.now _
  | succ d ih =>
    intro i ws h1 h2 h3
    refine Ev.succ ?_
    simp only [bitset_Of.l0]
    refine Ev.pos (by omega) ?_
    refine Ev.pos (by omega) ?_
    refine Ev.pos (by omega) ?_
    rw [rd_nat, w64_add1 i (by omega), drop_cons (by omega : i < l.length)]
    simp only [ofL]
    generalize l.getD i 0 = x
    by_cases c1 : 0 ≤ x
    · refine Ev.pos c1 ?_
      by_cases c2 : x < (n : Int)
      · obtain ⟨e1, e2⟩ := of_word c1 c2 hn
        have hq : x.toNat / 64 < ws.length := by rw [h2]; unfold wc; omega
        refine Ev.pos c2 ?_
        rw [e1, e2]
        refine Ev.pos (by omega) ?_
        refine Ev.pos (by omega) ?_
        refine Ev.pos (by omega) ?_
        rw [rd_nat, or_shl ws h3 x.toNat, Int.toNat_natCast, if_pos ⟨c1, c2⟩]
        exact ih (i + 1) (sb ws x.toNat) (by omega) (by rw [sb_length]; exact h2) (sb_wok h3 _)
      · refine Ev.neg c2 ?_
        rw [if_neg (fun h => c2 h.2)]
        exact ih (i + 1) ws (by omega) h2 h3
    · refine Ev.neg c1 ?_
      rw [if_neg (fun h => c1 h.1)]
      exact ih (i + 1) ws (by omega) h2 h3
theorem iof_ev (n : Int) (l : List Int) (hl : l.length ≤ 1000000) : Ev (fun k => bitset_Of.f k n l) ((nn n : Int), ofL (nn n) (List.replicate (wc (nn n)) 0) l) := by
  unfold bitset_Of.f
  refine Ev.bind0 (inew n) ?_
  have := iof_l0 (nn n) (nn_le n) l hl l.length 0 (List.replicate (wc (nn n)) 0) (by omega) (by simp) (wok_zeros _)
  rw [List.drop_zero] at this
  exact this
theorem rof_l0 (n : Nat) (hn : n ≤ 1048576) (l : List Int) (hl : l.length ≤ 1000000) : ∀ (d i : Nat) (ws : List Int), i + d = l.length → ws.length = wc n → wok ws → Ev (fun k => laminaref03_Of.l0 k l (i : Int) (n : Int) ws) ((n : Int), ofL n ws (l.drop i)) := by
  intro d
  induction d with
  | zero =>
    intro i ws h1 h2 h3
    refine Ev.succ ?_
    simp only [laminaref03_Of.l0]
    refine Ev.neg (by omega) ?_
    rw [List.drop_of_length_le (by omega)]
    exact Ev.now _
  | succ d ih =>
    intro i ws h1 h2 h3
    refine Ev.succ ?_
    simp only [laminaref03_Of.l0]
    refine Ev.pos (by omega) ?_
    refine Ev.pos (by omega) ?_
    rw [rd_nat, w64_add1 i (by omega), drop_cons (by omega : i < l.length)]
    simp only [ofL]
    generalize l.getD i 0 = x
    by_cases c1 : 0 ≤ x
    · refine Ev.pos c1 ?_
      by_cases c2 : x < (n : Int)
      · obtain ⟨e1, e2⟩ := of_word c1 c2 hn
        have hq : x.toNat / 64 < ws.length := by rw [h2]; unfold wc; omega
        refine Ev.pos c2 ?_
        rw [e1, e2, wraps_u64 ((x.toNat % 64 : Nat) : Int) (by omega) (by omega)]
        refine Ev.pos (by omega) ?_
        refine Ev.pos (by omega) ?_
        refine Ev.pos (by omega) ?_
        rw [rd_nat, or_shl ws h3 x.toNat, Int.toNat_natCast, if_pos ⟨c1, c2⟩]
        exact ih (i + 1) (sb ws x.toNat) (by omega) (by rw [sb_length]; exact h2) (sb_wok h3 _)
      · refine Ev.neg c2 ?_
        rw [if_neg (fun h => c2 h.2)]
        exact ih (i + 1) ws (by omega) h2 h3
    · refine Ev.neg c1 ?_
      rw [if_neg (fun h => c1 h.1)]
      exact ih (i + 1) ws (by omega) h2 h3
theorem rof_ev (n : Int) (l : List Int) (hl : l.length ≤ 1000000) : Ev (fun k => laminaref03_Of.f k n l) ((nn n : Int), ofL (nn n) (List.replicate (wc (nn n)) 0) l) := by
  unfold laminaref03_Of.f
  refine Ev.bind0 (rnew n) ?_
  have := rof_l0 (nn n) (nn_le n) l hl l.length 0 (List.replicate (wc (nn n)) 0) (by omega) (by simp) (wok_zeros _)
  rw [List.drop_zero] at this
  exact this
/-! ### Equal -/
theorem req_l0 (n : Int) (ws : List Int) (hl : ws.length ≤ 1000000) : ∀ (d i : Nat), i + d = ws.length → Ev (fun k => laminaref03_Equal.l0 k (i : Int) n ws n ws) true := by
  intro d
  induction d with
  | zero =>
    intro i h
    refine Ev.succ ?_
    simp only [laminaref03_Equal.l0]
    refine Ev.neg (by omega) ?_
    refine Ev.succ ?_
    simp only [laminaref03_Equal.j2]
    exact Ev.neg (by decide) (Ev.now _)
  | succ d ih =>
    intro i h
    refine Ev.succ ?_
    simp only [laminaref03_Equal.l0]
    refine Ev.pos (by omega) ?_
    rw [decide_eq_true (show (i : Int) < (ws.length : Int) by omega)]
    refine Ev.succ ?_
    simp only [laminaref03_Equal.j2]
    refine Ev.pos (by simp) ?_
    refine Ev.pos (by omega) ?_
    refine Ev.pos (by omega) ?_
    refine Ev.pos (by omega) ?_
    refine Ev.pos (by simp) ?_
    rw [w64_add1 i (by omega)]
    exact ih (i + 1) (by omega)
theorem req_ev (n : Int) (ws : List Int) (hl : ws.length ≤ 1000000) : Ev (fun k => laminaref03_Equal.f k n ws n ws) true := by
  unfold laminaref03_Equal.f
  refine Ev.pos (by simp) ?_
  have e : ((ws.length : Int) != (ws.length : Int)) = false := by simp
  rw [e]
  refine Ev.succ ?_
  simp only [laminaref03_Equal.j0]
  refine Ev.neg (by decide) ?_
  exact req_l0 n ws hl ws.length 0 (by omega)
theorem elsI_succ (ws : List Int) (i : Nat) : elsI ws (i + 1) = if gb ws i = true then elsI ws i ++ [(i : Int)] else elsI ws i := by
  unfold elsI
  rw [els_split i 0 1, Nat.zero_add]
  by_cases h : gb ws i = true
  · rw [if_pos h]
    have : els (gb ws) i 1 = [i] := by simp [els, h]
    rw [this, List.map_append]; rfl
  · rw [if_neg h]
    have : els (gb ws) i 1 = [] := by simp [els, h]
    rw [this, List.append_nil]
theorem elsI_cut {ws : List Int} {n m : Nat} (h : n ≤ m) (hz : ∀ j, n ≤ j → gb ws j = false) : elsI ws m = elsI ws n := by
  unfold elsI
  obtain ⟨c, rfl⟩ : ∃ c, m = n + c := ⟨m - n, by omega⟩
  rw [els_split, Nat.zero_add, els_none c n (fun i h1 _ => hz i h1), List.append_nil]
theorem elsI_len (ws : List Int) (n : Nat) : (elsI ws n).length ≤ n := by unfold elsI; rw [List.length_map]; exact els_len_le n 0

theorem gb_word (ws : List Int) (i r : Nat) (hr : r < 64) : gb ws (64 * i + r) = (ws.getD i 0).toNat.testBit r := by
  unfold gb; rw [show (64 * i + r) / 64 = i by omega, show (64 * i + r) % 64 = r by omega]
theorem nat_of {x : Int} (h : 0 ≤ x ∧ x < 18446744073709551616) : ∃ n : Nat, x = (n : Int) ∧ n < 18446744073709551616 := ⟨x.toNat, by omega, by omega⟩
theorem andNot_nat (x y : Nat) (hx : x < 18446744073709551616) (hy : y < 18446744073709551616) : Go.bits .andNot .u64 (x : Int) (y : Int) = ((x &&& (2 ^ 64 - (y + 1)) : Nat) : Int) := by
  have hx' : x % 2 ^ 64 = x := Nat.mod_eq_of_lt (by omega)
  have hy' : y % 2 ^ 64 = y := Nat.mod_eq_of_lt (by omega)
  have h3 : x &&& (2 ^ 64 - (y + 1)) ≤ x := Nat.and_le_left
  have e : (BitVec.ofNat 64 x &&& ~~~BitVec.ofNat 64 y : BitVec 64).toNat = x &&& (2 ^ 64 - (y + 1)) := by
    rw [BitVec.toNat_and, BitVec.toNat_not, BitVec.toNat_ofNat, BitVec.toNat_ofNat, hx', hy']
    congr 1
    omega
  simp only [Go.bits, IntKind.bits, BitVec.ofInt_natCast, wrap_u64]
  exact (congrArg (fun n : Nat => (n : Int) % 18446744073709551616) e).trans (by omega)

/-! ### how many bits: Count, Rank -/
theorem and127_i64 (z : Nat) (hz : z < 9223372036854775808) : Go.bits .and .i64 (z : Int) 127 = ((z % 128 : Nat) : Int) := by
  have h1 : z % 2 ^ IntKind.i64.bits = z := Nat.mod_eq_of_lt (Nat.lt_of_lt_of_le hz (by decide))
  have h2 : BitVec.ofInt IntKind.i64.bits 127 = BitVec.ofNat IntKind.i64.bits 127 := by decide
  have h3 : z &&& 127 = z % 128 := Nat.and_two_pow_sub_one_eq_mod z 7
  have h4 : z % 128 < 128 := Nat.mod_lt _ (by decide)
  have h5 : 127 % 2 ^ IntKind.i64.bits = 127 := by decide
  simp only [Go.bits, BitVec.ofInt_natCast, h2, BitVec.toNat_and, BitVec.toNat_ofNat, h1, h5, h3, IntKind.wrap_i64]
  omega
theorem oc_ev (x : Nat) (hx : x < 18446744073709551616) : bits_OnesCount64.f (x : Int) = some ((cB (fun i => x.testBit i) 0 64 : Nat) : Int) := by
  have hM1 : Mk 0x55 8 = 6148914691236517205 := by decide
  have hM2 : Mk 0x33 8 = 3689348814741910323 := by decide
  have hM3 : Mk 0x0f 8 = 1085102592571150095 := by decide
  unfold bits_OnesCount64.f
  rw [← ones_eq]
  unfold ones
  dsimp only
  have a1 : Go.bits .and .u64 ((x : Int) / 2) 6148914691236517205 = ((x / 2 &&& 6148914691236517205 : Nat) : Int) := by
    rw [show ((x : Int) / 2) = ((x / 2 : Nat) : Int) by omega]
    exact and_nat (x / 2) 6148914691236517205 (by omega) (by decide)
  have a2 : Go.bits .and .u64 (x : Int) 6148914691236517205 = ((x &&& 6148914691236517205 : Nat) : Int) := and_nat x 6148914691236517205 hx (by decide)
  obtain ⟨p, hp⟩ : ∃ p, p = P1 x 8 := ⟨_, rfl⟩
  have hpv : p = (x / 2 &&& 6148914691236517205) + (x &&& 6148914691236517205) := by rw [hp]; unfold P1; rw [hM1]
  have l1 : x / 2 &&& 6148914691236517205 ≤ 6148914691236517205 := Nat.and_le_right
  have l2 : x &&& 6148914691236517205 ≤ 6148914691236517205 := Nat.and_le_right
  have y1 : IntKind.u64.wrap ((Go.bits .and .u64 ((x : Int) / 2) 6148914691236517205) + (Go.bits .and .u64 (x : Int) 6148914691236517205)) = (p : Int) := by
    rw [a1, a2, wraps_u64 _ (by omega) (by omega), hpv]; omega
  rw [y1, ← hp]
  have hp64 : p < 18446744073709551616 := by omega
  clear a1 a2 y1 hpv l1 l2 hp hx
  have b1 : Go.bits .and .u64 ((p : Int) / 4) 3689348814741910323 = ((p / 4 &&& 3689348814741910323 : Nat) : Int) := by
    rw [show ((p : Int) / 4) = ((p / 4 : Nat) : Int) by omega]
    exact and_nat (p / 4) 3689348814741910323 (by omega) (by decide)
  have b2 : Go.bits .and .u64 (p : Int) 3689348814741910323 = ((p &&& 3689348814741910323 : Nat) : Int) := and_nat p 3689348814741910323 hp64 (by decide)
  obtain ⟨q, hq⟩ : ∃ q, q = P2 p 8 := ⟨_, rfl⟩
  have hqv : q = (p / 4 &&& 3689348814741910323) + (p &&& 3689348814741910323) := by rw [hq]; unfold P2; rw [hM2]
  have l1 : p / 4 &&& 3689348814741910323 ≤ 3689348814741910323 := Nat.and_le_right
  have l2 : p &&& 3689348814741910323 ≤ 3689348814741910323 := Nat.and_le_right
  have y2 : IntKind.u64.wrap ((Go.bits .and .u64 ((p : Int) / 4) 3689348814741910323) + (Go.bits .and .u64 (p : Int) 3689348814741910323)) = (q : Int) := by
    rw [b1, b2, wraps_u64 _ (by omega) (by omega), hqv]; omega
  rw [y2, ← hq]
  have hq64 : q ≤ 7378697629483820646 := by omega
  clear b1 b2 y2 hqv l1 l2 hq hp64
  obtain ⟨s, hs⟩ : ∃ s, s = P3 q 8 := ⟨_, rfl⟩
  have hsv : s = (q / 16 + q) &&& 1085102592571150095 := by rw [hs]; unfold P3; rw [hM3]
  have l3 : (q / 16 + q) &&& 1085102592571150095 ≤ 1085102592571150095 := Nat.and_le_right
  have y3 : Go.bits .and .u64 (IntKind.u64.wrap ((q : Int) / 16 + (q : Int))) 1085102592571150095 = (s : Int) := by
    rw [wraps_u64 _ (by omega) (by omega), show (q : Int) / 16 + (q : Int) = ((q / 16 + q : Nat) : Int) by omega, hsv]
    exact and_nat (q / 16 + q) 1085102592571150095 (by omega) (by decide)
  rw [y3, ← hs]
  have hs64 : s ≤ 1085102592571150095 := by omega
  clear y3 hsv l3 hs hq64
  have y4 : IntKind.u64.wrap ((s : Int) + (s : Int) / 256) = ((s + s / 256 : Nat) : Int) := by
    rw [wraps_u64 _ (by omega) (by omega)]; omega
  rw [y4]
  obtain ⟨u, hu⟩ : ∃ u, u = s + s / 256 := ⟨_, rfl⟩
  rw [← hu]
  have hu64 : u ≤ 2000000000000000000 := by omega
  clear y4 hu hs64
  have y5 : IntKind.u64.wrap ((u : Int) + (u : Int) / 65536) = ((u + u / 65536 : Nat) : Int) := by
    rw [wraps_u64 _ (by omega) (by omega)]; omega
  rw [y5]
  obtain ⟨v, hv⟩ : ∃ v, v = u + u / 65536 := ⟨_, rfl⟩
  rw [← hv]
  have hv64 : v ≤ 3000000000000000000 := by omega
  clear y5 hv hu64
  have y6 : wrap64 (IntKind.u64.wrap ((v : Int) + (v : Int) / 4294967296)) = ((v + v / 4294967296 : Nat) : Int) := by
    rw [wraps_u64 _ (by omega) (by omega), w64 _ (by omega) (by omega)]; omega
  rw [y6]
  obtain ⟨z, hz⟩ : ∃ z, z = v + v / 4294967296 := ⟨_, rfl⟩
  rw [← hz]
  have hz64 : z ≤ 4000000000000000000 := by omega
  rw [and127_i64 z (by omega)]
theorem cB_word (ws : List Int) (i : Nat) : cB (fun r => (ws.getD i 0).toNat.testBit r) 0 64 = cB (gb ws) (64 * i) 64 := by
  have h := cB_shift (gb ws) (64 * i) 0 64
  rw [Nat.add_zero] at h
  rw [← h]
  unfold cB
  congr 1
  exact els_congr 64 0 (fun r _ hr => (gb_word ws i r (by omega)).symm)
theorem cB_le (f : Nat → Bool) (lo n : Nat) : cB f lo n ≤ n := els_len_le n lo
theorem icount_l0 (N : Int) (ws : List Int) (hw : wok ws) (hl : ws.length ≤ 1000000) : ∀ (d i acc : Nat), i + d = ws.length → acc ≤ 64 * i → Ev (fun k => bitset_Count.l0 k (acc : Int) ws (ws.length : Int) (i : Int)) ((acc + cB (gb ws) (64 * i) (64 * d) : Nat) : Int) := by
  intro d
  induction d with
  | zero =>
    intro i acc h1 h2
    refine Ev.succ ?_
    simp only [bitset_Count.l0]
    refine Ev.neg (by omega) ?_
    exact Ev.now _
  | succ d ih =>
    intro i acc h1 h2
    refine Ev.succ ?_
    simp only [bitset_Count.l0]
    refine Ev.pos (by omega) ?_
    refine Ev.pos (by omega) ?_
    refine Ev.pos (by omega) ?_
    rw [rd_nat]
    have hr := wok_get hw i
    obtain ⟨x, ex, hx⟩ := nat_of hr
    have hcw := cB_word ws i
    rw [ex, Int.toNat_natCast] at hcw
    rw [ex]
    refine Ev.bind0 (oc_ev x hx) ?_
    rw [hcw]
    have hc := cB_le (gb ws) (64 * i) 64
    rw [w64_add acc _ (by omega), w64_add1 i (by omega)]
    refine Ev.eq (ih (i + 1) (acc + cB (gb ws) (64 * i) 64) (by omega) (by omega)) ?_
    rw [show 64 * (d + 1) = 64 + 64 * d by omega, cB_add, show 64 * i + 64 = 64 * (i + 1) by omega, Nat.add_assoc]
theorem icount_ev (N : Int) (ws : List Int) (hw : wok ws) (hl : ws.length ≤ 1000000) : Ev (fun k => bitset_Count.f k N ws) ((cB (gb ws) 0 (64 * ws.length) : Nat) : Int) := by
  unfold bitset_Count.f
  have := icount_l0 N ws hw hl ws.length 0 0 (by omega) (by omega)
  simpa using this
theorem cB_cut {f : Nat → Bool} {n m : Nat} (h : n ≤ m) (hz : ∀ j, n ≤ j → f j = false) : cB f 0 m = cB f 0 n := by
  obtain ⟨c, rfl⟩ : ∃ c, m = n + c := ⟨m - n, by omega⟩
  rw [cB_add]
  unfold cB
  rw [els_none c (0 + n) (fun i h1 _ => hz i (by omega))]
  simp
/-- min(max(i, 0), N). -/
def cl (a : Int) (N : Nat) : Nat := if a < 0 then 0 else if (N : Int) < a then N else a.toNat
theorem cl_le (a : Int) (N : Nat) : cl a N ≤ N := by
  unfold cl
  split
  · omega
  · split <;> omega
theorem mnmx (a : Int) (N : Nat) : mn (mx a 0) (N : Int) = (cl a N : Int) := by
  unfold mn mx cl
  repeat' split
  all_goals omega
theorem mask_bits (x r : Nat) (hr : r < 64) : cB (fun i => (x % 2 ^ r).testBit i) 0 64 = cB (fun i => x.testBit i) 0 r := by
  obtain ⟨c, hc⟩ : ∃ c, 64 = r + c := ⟨64 - r, by omega⟩
  rw [hc, cB_add]
  have h1 : cB (fun i => (x % 2 ^ r).testBit i) 0 r = cB (fun i => x.testBit i) 0 r := by
    unfold cB
    congr 1
    exact els_congr r 0 (fun i _ hi => by rw [Nat.testBit_mod_two_pow, decide_eq_true (show i < r by omega), Bool.true_and])
  have h2 : cB (fun i => (x % 2 ^ r).testBit i) (0 + r) c = 0 := by
    unfold cB
    rw [els_none c (0 + r) (fun i hi _ => by rw [Nat.testBit_mod_two_pow, decide_eq_false (show ¬ i < r by omega), Bool.false_and])]
    rfl
  rw [h1, h2, Nat.add_zero]
theorem irank_l0 (N m : Nat) (ws : List Int) (hw : wok ws) (hl : ws.length = wc N) (hN : N ≤ 1048576) (hm : m ≤ N) : ∀ (d i acc : Nat), i + d = m / 64 → acc = cB (gb ws) 0 (64 * i) →
    Ev (fun k => bitset_Rank.l0 k (m : Int) (acc : Int) (ws.take (m / 64)) (((ws.take (m / 64)).length : Nat) : Int) (i : Int) (N : Int) ws) ((cB (gb ws) 0 m : Nat) : Int) := by
  have hwc : m / 64 ≤ ws.length := by rw [hl]; unfold wc; omega
  have htl : (ws.take (m / 64)).length = m / 64 := by rw [List.length_take]; omega
  intro d
  induction d with
  | zero =>
    intro i acc h1 h2
    have hi : i = m / 64 := by omega
    have hacc : acc ≤ m := by have := cB_le (gb ws) 0 (64 * i); omega
    refine Ev.succ ?_
    simp only [bitset_Rank.l0, htl]
    refine Ev.neg (by omega) ?_
    rw [tmod64 m]
    by_cases c : m % 64 = 0
    · refine Ev.pos (by omega) ?_
      refine Ev.eq (Ev.now _) ?_
      rw [h2, show 64 * i = m by omega]
    · refine Ev.neg (by omega) ?_
      rw [tdiv64 m (by omega)]
      have hlt : m / 64 < ws.length := by rw [hl]; unfold wc; omega
      refine Ev.pos (by omega) ?_
      refine Ev.pos (by omega) ?_
      refine Ev.pos (by omega) ?_
      rw [rd_nat]
      obtain ⟨x, ex, hx⟩ := nat_of (wok_get hw (m / 64))
      have hr : m % 64 < 64 := Nat.mod_lt _ (by decide)
      have hp := pow_lt64 (m % 64) hr
      have hp1 := Nat.two_pow_pos (m % 64)
      have hmk := bits_mask .u64 64 (by decide) wraps_u64 (m % 64) (by omega) (x : Int) (by omega) (by omega)
      have e1 : Go.bits .and .u64 (x : Int) (IntKind.u64.wrap ((shl .u64 1 ((m % 64 : Nat) : Int)) - 1)) = ((x % 2 ^ (m % 64) : Nat) : Int) := by
        rw [shl1 (m % 64) hr, wraps_u64 _ (by omega) (by omega), pow_cast0, hmk, ← pow_cast0]
        rfl
      have hxm : x % 2 ^ (m % 64) ≤ x := Nat.mod_le _ _
      rw [ex, e1]
      refine Ev.bind0 (oc_ev _ (by omega)) ?_
      rw [mask_bits x (m % 64) hr]
      have hcw : cB (fun i => x.testBit i) 0 (m % 64) = cB (gb ws) (64 * (m / 64)) (m % 64) := by
        have h := cB_shift (gb ws) (64 * (m / 64)) 0 (m % 64)
        rw [Nat.add_zero] at h
        rw [← h]
        unfold cB
        congr 1
        exact els_congr (m % 64) 0 (fun r _ hr2 => by rw [gb_word ws (m / 64) r (by omega), ex, Int.toNat_natCast])
      have hc := cB_le (gb ws) (64 * (m / 64)) (m % 64)
      rw [hcw]
      refine Ev.eq (Ev.now _) ?_
      rw [w64_add acc _ (by omega), h2, hi]
      have := cB_add (gb ws) 0 (64 * (m / 64)) (m % 64)
      rw [Nat.zero_add, show 64 * (m / 64) + m % 64 = m by omega] at this
      rw [this]
  | succ d ih =>
    intro i acc h1 h2
    have hacc : acc ≤ 64 * i := by rw [h2]; exact cB_le _ _ _
    refine Ev.succ ?_
    simp only [bitset_Rank.l0]
    refine Ev.pos (by rw [htl]; omega) ?_
    refine Ev.pos (by omega) ?_
    refine Ev.pos (by rw [htl]; omega) ?_
    have eg : rd (ws.take (m / 64)) (i : Int) = ws.getD i 0 := by
      rw [rd_nat, List.getD_eq_getElem?_getD, List.getElem?_take, if_pos (by omega), ← List.getD_eq_getElem?_getD]
    rw [eg]
    obtain ⟨x, ex, hx⟩ := nat_of (wok_get hw i)
    have hcw := cB_word ws i
    rw [ex, Int.toNat_natCast] at hcw
    rw [ex]
    refine Ev.bind0 (oc_ev x hx) ?_
    rw [hcw]
    have hc := cB_le (gb ws) (64 * i) 64
    rw [w64_add acc _ (by omega), w64_add1 i (by omega)]
    refine ih (i + 1) _ (by omega) ?_
    have := cB_add (gb ws) 0 (64 * i) 64
    rw [Nat.zero_add] at this
    rw [h2, show 64 * (i + 1) = 64 * i + 64 by omega, this]
theorem irank_ev (N : Nat) (ws : List Int) (hw : wok ws) (hl : ws.length = wc N) (hN : N ≤ 1048576) (a : Int) : Ev (fun k => bitset_Rank.f k (N : Int) ws a) ((cB (gb ws) 0 (cl a N) : Nat) : Int) := by
  unfold bitset_Rank.f
  have hm := cl_le a N
  rw [mnmx a N, tdiv64 (cl a N) (by omega)]
  refine Ev.pos (by omega) ?_
  refine Ev.pos (by rw [hl]; unfold wc; omega) ?_
  rw [Int.toNat_natCast]
  exact irank_l0 N (cl a N) ws hw hl hN hm (cl a N / 64) 0 0 (by omega) rfl

/-! ### the reference's Rank, Count, Elements, Select -/
theorem cB_succ (f : Nat → Bool) (i : Nat) : cB f 0 (i + 1) = cB f 0 i + (if f i = true then 1 else 0) := by
  rw [cB_add, Nat.zero_add]
  congr 1
  unfold cB
  by_cases h : f i = true
  · simp [els, h]
  · simp [els, h]
theorem rrank_l0 (N : Nat) (ws : List Int) (hw : wok ws) (hl : ws.length = wc N) (hN : N ≤ 1048576) (a : Int) : ∀ (d i : Nat), i + d = cl a N → Ev (fun k => laminaref03_Rank.l0 k a ((cB (gb ws) 0 i : Nat) : Int) (i : Int) (N : Int) ws) ((cB (gb ws) 0 (cl a N) : Nat) : Int) := by
  have hm := cl_le a N
  intro d
  induction d with
  | zero =>
    intro i h
    have key : Ev (fun k => laminaref03_Rank.j1 k a ((cB (gb ws) 0 i : Nat) : Int) (i : Int) false (N : Int) ws) ((cB (gb ws) 0 (cl a N) : Nat) : Int) := by
      refine Ev.succ ?_
      simp only [laminaref03_Rank.j1]
      refine Ev.neg (by decide) ?_
      exact Ev.eq (Ev.now _) (by rw [show i = cl a N by omega])
    refine Ev.succ ?_
    simp only [laminaref03_Rank.l0]
    by_cases c : (i : Int) < (N : Int)
    · refine Ev.pos c ?_
      have : ¬ (i : Int) < a := by
        have hi : i = cl a N := by omega
        unfold cl at hi
        split at hi
        · omega
        · split at hi <;> omega
      rw [decide_eq_false this]
      exact key
    · refine Ev.neg c ?_
      exact key
  | succ d ih =>
    intro i h
    have hlt : i < cl a N := by omega
    have hia : (i : Int) < a ∧ i < N := by
      unfold cl at hlt
      split at hlt
      · omega
      · split at hlt <;> omega
    have ih2 := ih (i + 1) (by omega)
    rw [cB_succ] at ih2
    have hc := cB_le (gb ws) 0 i
    refine Ev.succ ?_
    simp only [laminaref03_Rank.l0]
    refine Ev.pos (by omega) ?_
    rw [decide_eq_true hia.1]
    refine Ev.succ ?_
    simp only [laminaref03_Rank.j1]
    refine Ev.pos (by decide) ?_
    refine Ev.bind0 (r03con N i ws hl hw (by omega)) ?_
    rw [decide_eq_true hia.2, Bool.true_and, w64_add1 i (by omega), w64_add1 _ (by omega)]
    by_cases g : gb ws i = true
    · refine Ev.pos g ?_
      rw [if_pos g] at ih2
      exact ih2
    · refine Ev.neg g ?_
      rw [if_neg g, Nat.add_zero] at ih2
      exact ih2
theorem rrank_ev (N : Nat) (ws : List Int) (hw : wok ws) (hl : ws.length = wc N) (hN : N ≤ 1048576) (a : Int) : Ev (fun k => laminaref03_Rank.f k (N : Int) ws a) ((cB (gb ws) 0 (cl a N) : Nat) : Int) := by
  unfold laminaref03_Rank.f
  exact rrank_l0 N ws hw hl hN a (cl a N) 0 (by omega)
theorem cl_self (N : Nat) : cl (N : Int) N = N := by unfold cl; rw [if_neg (by omega), if_neg (by omega), Int.toNat_natCast]
theorem rcount_ev (N : Nat) (ws : List Int) (hw : wok ws) (hl : ws.length = wc N) (hN : N ≤ 1048576) : Ev (fun k => laminaref03_Count.f k (N : Int) ws) ((cB (gb ws) 0 N : Nat) : Int) := by
  unfold laminaref03_Count.f
  have := rrank_ev N ws hw hl hN (N : Int)
  rw [cl_self] at this
  exact Ev.bind this (Ev.now _)
theorem rels_l0 (N : Nat) (ws : List Int) (hw : wok ws) (hl : ws.length = wc N) (hN : N ≤ 1048576) : ∀ (d i : Nat), i + d = N → Ev (fun k => laminaref03_Elements.l0 k (elsI ws i) (i : Int) (N : Int) ws) (elsI ws N) := by
  intro d
  induction d with
  | zero =>
    intro i h
    refine Ev.succ ?_
    simp only [laminaref03_Elements.l0]
    refine Ev.neg (by omega) ?_
    exact Ev.eq (Ev.now _) (by rw [show i = N by omega])
  | succ d ih =>
    intro i h
    have ih2 := ih (i + 1) (by omega)
    rw [elsI_succ] at ih2
    have hc := elsI_len ws i
    refine Ev.succ ?_
    simp only [laminaref03_Elements.l0]
    refine Ev.pos (by omega) ?_
    refine Ev.bind0 (r03con N i ws hl hw (by omega)) ?_
    rw [decide_eq_true (show i < N by omega), Bool.true_and, w64_add1 i (by omega)]
    by_cases g : gb ws i = true
    · refine Ev.pos g ?_
      refine Ev.pos (by omega) ?_
      rw [if_pos g] at ih2
      exact ih2
    · refine Ev.neg g ?_
      rw [if_neg g] at ih2
      exact ih2
theorem rels_ev (N : Nat) (ws : List Int) (hw : wok ws) (hl : ws.length = wc N) (hN : N ≤ 1048576) : Ev (fun k => laminaref03_Elements.f k (N : Int) ws) (elsI ws N) := by
  unfold laminaref03_Elements.f
  exact rels_l0 N ws hw hl hN N 0 (by omega)
theorem rsel_ev (N : Nat) (ws : List Int) (hw : wok ws) (hl : ws.length = wc N) (hN : N ≤ 1048576) (hz : ∀ j, N ≤ j → gb ws j = false) (a : Int) : Ev (fun k => laminaref03_Select.f k (N : Int) ws a) (selI ws a) := by
  unfold laminaref03_Select.f selI
  rw [elsI_cut (n := N) (by rw [hl]; exact wc_le N) hz]
  refine Ev.bind (rels_ev N ws hw hl hN) ?_
  by_cases c : a < 0
  · refine Ev.pos c ?_
    rw [if_pos c]
    exact Ev.now _
  refine Ev.neg c ?_
  rw [if_neg c]
  obtain ⟨n, rfl⟩ := Int.eq_ofNat_of_zero_le (show 0 ≤ a by omega)
  by_cases c2 : (n : Int) ≥ ((elsI ws N).length : Int)
  · refine Ev.pos c2 ?_
    refine Ev.eq (Ev.now _) ?_
    rw [Int.toNat_natCast, List.getD_eq_getElem?_getD, List.getElem?_eq_none (by omega)]
    rfl
  · refine Ev.neg c2 ?_
    refine Ev.pos (by omega) ?_
    refine Ev.pos (by omega) ?_
    refine Ev.eq (Ev.now _) ?_
    rw [rd_nat, Int.toNat_natCast, List.getD_eq_getElem?_getD, List.getElem?_eq_getElem (by omega), List.getD_eq_getElem?_getD, List.getElem?_eq_getElem (by omega)]
    rfl
theorem isel (N : Int) (ws : List Int) (hw : wok ws) (hl : ws.length ≤ 1000000) (a : Int) (ha : a < 9223372036854775808) : bitset_Select.f N ws a = some (selI ws a) := by
  unfold bitset_Select.f
  rw [if_pos ⟨wokB_of hw, by omega, ha⟩]

/-! ### Set -/
def cb (ws : List Int) (i : Nat) : List Int := ws.set (i / 64) (((ws.getD (i / 64) 0).toNat &&& (2 ^ 64 - (2 ^ (i % 64) + 1)) : Nat) : Int)
theorem cb_length (ws : List Int) (i : Nat) : (cb ws i).length = ws.length := by simp [cb]
theorem cb_wok {ws : List Int} (h : wok ws) (i : Nat) : wok (cb ws i) := by
  intro x hx
  rcases List.mem_or_eq_of_mem_set hx with h1 | h1
  · exact h x h1
  · have h2 := wok_get h (i / 64)
    have h3 : (ws.getD (i / 64) 0).toNat &&& (2 ^ 64 - (2 ^ (i % 64) + 1)) ≤ (ws.getD (i / 64) 0).toNat := Nat.and_le_left
    rw [h1]; omega
theorem gb_cb {ws : List Int} {i : Nat} (hi : i / 64 < ws.length) (j : Nat) : gb (cb ws i) j = (gb ws j && !decide (j = i)) := by
  unfold gb cb
  by_cases hd : j / 64 = i / 64
  · rw [hd]
    simp only [List.getD_eq_getElem?_getD, List.getElem?_set_self hi, Option.getD_some, Int.toNat_natCast, Nat.testBit_and]
    congr 1
    have hp := pow_lt64 (i % 64) (Nat.mod_lt _ (by decide))
    rw [Nat.testBit_two_pow_sub_succ hp, decide_eq_true (show j % 64 < 64 by omega), Bool.true_and, Nat.testBit_two_pow]
    congr 1
    congr 1
    simp only [eq_iff_iff]
    omega
  · rw [List.getD_eq_getElem?_getD, List.getElem?_set_ne (Ne.symm hd), ← List.getD_eq_getElem?_getD]
    rw [decide_eq_false (by intro e; exact hd (by rw [e]))]
    simp
theorem not_shl (ws : List Int) (hw : wok ws) (i : Nat) : Go.bits .andNot .u64 (ws.getD (i / 64) 0) (shl .u64 1 (((i % 64 : Nat)) : Int)) = (((ws.getD (i / 64) 0).toNat &&& (2 ^ 64 - (2 ^ (i % 64) + 1)) : Nat) : Int) := by
  have h := wok_get hw (i / 64)
  rw [shl1 _ (Nat.mod_lt _ (by decide))]
  obtain ⟨m, hm⟩ := Int.eq_ofNat_of_zero_le h.1
  rw [hm] at h ⊢
  rw [Int.toNat_natCast]
  have hp := pow_lt64 (i % 64) (Nat.mod_lt _ (by decide))
  exact andNot_nat m _ (by omega) (by omega)
theorem iset_ev (N : Nat) (ws : List Int) (hw : wok ws) (hl : ws.length = wc N) (hN : N ≤ 1048576) (hz : ∀ j, N ≤ j → gb ws j = false) (a : Int) (on : Bool) :
    Ev (fun k => bitset_Set.f k (N : Int) ws a on) ((N : Int), wof N (fun j => if (j : Int) = a then on else gb ws j)) := by
  unfold bitset_Set.f
  have hc : slices_Clone_uint64_uint64.f ws = some ws := by unfold slices_Clone_uint64_uint64.f; rw [if_pos (by rw [hl]; unfold wc; omega)]
  refine Ev.bind0 hc ?_
  have same : (¬ (0 ≤ a ∧ a < (N : Int))) → Ev (fun k => bitset_Set.j0 k a on true (N : Int) ws) ((N : Int), wof N (fun j => if (j : Int) = a then on else gb ws j)) := by
    intro h
    refine Ev.succ ?_
    simp only [bitset_Set.j0]
    refine Ev.pos (by decide) ?_
    refine Ev.eq (Ev.now _) ?_
    congr 1
    conv => lhs; rw [vset_eq hw (vset_iff.2 ⟨hN, hl, hz⟩)]
    exact wof_congr (fun j hj => by rw [if_neg (by omega)])
  by_cases c : a < 0
  · refine Ev.pos c ?_
    exact same (by omega)
  refine Ev.neg c ?_
  by_cases c2 : a ≥ (N : Int)
  · rw [decide_eq_true c2]
    exact same (by omega)
  rw [decide_eq_false c2]
  obtain ⟨i, rfl⟩ := Int.eq_ofNat_of_zero_le (show 0 ≤ a by omega)
  have hi : i < N := by omega
  have hq : i / 64 < ws.length := by rw [hl]; unfold wc; omega
  refine Ev.succ ?_
  simp only [bitset_Set.j0]
  refine Ev.neg (by decide) ?_
  rw [tdiv64 i (by omega), tmod64 i, rd_nat]
  have hfin : ∀ ws' : List Int, ws'.length = wc N → wok ws' → (∀ j, gb ws' j = if j = i then on else gb ws j) → ws' = wof N (fun j => if (j : Int) = (i : Int) then on else gb ws j) := by
    intro ws' h1 h2 h3
    refine wof_eq h1 h2 (fun j => ?_)
    rw [h3]
    by_cases e : j = i
    · subst e; rw [decide_eq_true hi]; simp
    · rw [if_neg e, if_neg (by omega)]
      by_cases hj : j < N
      · rw [decide_eq_true hj, Bool.true_and]
      · rw [decide_eq_false hj, Bool.false_and, hz j (by omega)]
  cases on with
  | true =>
    refine Ev.pos rfl ?_
    refine Ev.pos (by omega) ?_
    refine Ev.pos (by omega) ?_
    refine Ev.pos (by omega) ?_
    rw [or_shl ws hw i, Int.toNat_natCast]
    refine Ev.eq (Ev.now _) ?_
    congr 1
    refine hfin (sb ws i) (by rw [sb_length]; exact hl) (sb_wok hw i) (fun j => ?_)
    rw [gb_sb hq]
    by_cases e : j = i
    · simp [e]
    · simp [e]
  | false =>
    refine Ev.neg (by decide) ?_
    refine Ev.pos (by omega) ?_
    refine Ev.pos (by omega) ?_
    refine Ev.pos (by omega) ?_
    rw [not_shl ws hw i, Int.toNat_natCast]
    refine Ev.eq (Ev.now _) ?_
    congr 1
    refine hfin (cb ws i) (by rw [cb_length]; exact hl) (cb_wok hw i) (fun j => ?_)
    rw [gb_cb hq]
    by_cases e : j = i
    · simp [e]
    · simp [e]
theorem rset_ev (N : Nat) (ws : List Int) (hw : wok ws) (hl : ws.length = wc N) (hN : N ≤ 1048576) (hz : ∀ j, N ≤ j → gb ws j = false) (a : Int) (on : Bool) :
    Ev (fun k => laminaref03_Set.f k (N : Int) ws a on) ((N : Int), wof N (fun j => if (j : Int) = a then on else gb ws j)) := by
  by_cases c : 0 ≤ a ∧ a < (N : Int)
  · obtain ⟨i, rfl⟩ := Int.eq_ofNat_of_zero_le c.1
    refine Ev.eq (r03set N ws hl hw hN i (by omega) on) ?_
    congr 1
    exact wof_congr (fun j _ => by
      by_cases e : j = i
      · rw [if_pos e, if_pos (by omega)]
      · rw [if_neg e, if_neg (by omega)])
  · have hb := r03build ((List.range N).map (gb ws)) (gb ws) (by
      intro j hj
      simp only [List.length_map, List.length_range] at hj
      simp [hj]) (by simp; omega)
    have hlen : ((List.range N).map (gb ws)).length = N := by simp
    rw [hlen] at hb
    have e : ((N : Int), wof N (gb ws)) = ((N : Int), wof N (fun j => if (j : Int) = a then on else gb ws j)) := by
      congr 1
      exact wof_congr (fun j hj => by rw [if_neg (by omega)])
    unfold laminaref03_Set.f
    refine Ev.bind (r03bits N ws hl hw hN) ?_
    rw [List.length_map, List.length_range]
    by_cases c1 : a ≥ 0
    · refine Ev.pos c1 ?_
      refine Ev.neg (by omega) ?_
      refine Ev.bind hb ?_
      exact Ev.eq (Ev.now _) e
    · refine Ev.neg c1 ?_
      refine Ev.bind hb ?_
      exact Ev.eq (Ev.now _) e
theorem ints3_l0 (l : List Int) (hl : l.length ≤ 1000000) : ∀ (d i : Nat), i + d = l.length → Ev (fun k => laminalaw03_ints.l0 k l l (i : Int)) true := by
  intro d
  induction d with
  | zero =>
    intro i h
    refine Ev.succ ?_
    simp only [laminalaw03_ints.l0]
    refine Ev.neg (by omega) ?_
    refine Ev.succ ?_
    simp only [laminalaw03_ints.j1]
    exact Ev.neg (by decide) (Ev.now _)
  | succ d ih =>
    intro i h
    refine Ev.succ ?_
    simp only [laminalaw03_ints.l0]
    refine Ev.pos (by omega) ?_
    rw [decide_eq_true (show (i : Int) < (l.length : Int) by omega)]
    refine Ev.succ ?_
    simp only [laminalaw03_ints.j1]
    refine Ev.pos (by simp) ?_
    refine Ev.pos (by omega) ?_
    refine Ev.pos (by omega) ?_
    refine Ev.pos (by omega) ?_
    rw [w64_add1 i (by omega)]
    exact ih (i + 1) (by omega)
theorem ints3_ev (l : List Int) (hl : l.length ≤ 1000000) : Ev (fun k => laminalaw03_ints.f k l l) true := by
  unfold laminalaw03_ints.f
  refine Ev.pos rfl ?_
  exact ints3_l0 l hl l.length 0 (by omega)
theorem ofL_zero (n : Nat) : ∀ (l ws : List Int), ws.length = wc n → (∀ j, n ≤ j → gb ws j = false) → ∀ j, n ≤ j → gb (ofL n ws l) j = false := by
  intro l
  induction l with
  | nil => intro ws _ h; exact h
  | cons x r ih =>
    intro ws h1 h2
    simp only [ofL]
    by_cases c : 0 ≤ x ∧ x < (n : Int)
    · rw [if_pos c]
      refine ih (sb ws x.toNat) (by rw [sb_length]; exact h1) (fun j hj => ?_)
      rw [gb_sb (by rw [h1]; unfold wc; omega), h2 j hj, decide_eq_false (by omega), Bool.or_false]
    · rw [if_neg c]
      exact ih ws h1 h2
theorem icon (N : Nat) (ws : List Int) (hw : wok ws) (hl : ws.length = wc N) (hN : N ≤ 1048576) (a : Int) : bitset_Contains.f (N : Int) ws a = some (decide (0 ≤ a ∧ a < (N : Int)) && gb ws a.toNat) := by
  unfold bitset_Contains.f
  by_cases c : a ≥ 0
  · rw [if_pos c]
    obtain ⟨i, rfl⟩ := Int.eq_ofNat_of_zero_le c
    by_cases h : (i : Int) < (N : Int)
    · have hq : i / 64 < ws.length := by rw [hl]; unfold wc; omega
      rw [if_pos h, tdiv64 i (by omega), tmod64 i, if_pos (by omega), if_pos (by omega), if_pos (by omega), rd_nat]
      have h2 := wok_get hw (i / 64)
      rw [bit_one _ h2.1 h2.2 _ (Nat.mod_lt _ (by decide)), decide_eq_true ⟨c, h⟩]
      simp [gb]
    · rw [if_neg h, decide_eq_false (by omega)]; rfl
  · rw [if_neg c, decide_eq_false (by omega)]; rfl
theorem rcon (N : Nat) (ws : List Int) (hw : wok ws) (hl : ws.length = wc N) (hN : N ≤ 1048576) (a : Int) : laminaref03_Contains.f (N : Int) ws a = some (decide (0 ≤ a ∧ a < (N : Int)) && gb ws a.toNat) := by
  by_cases c : 0 ≤ a
  · obtain ⟨i, rfl⟩ := Int.eq_ofNat_of_zero_le c
    rw [r03con N i ws hl hw (by omega), Int.toNat_natCast]
    congr 2
    simp
  · rw [r03con_neg _ _ _ (by omega), decide_eq_false (by omega)]; rfl

theorem BitsetElements : laminalaw03_BitsetElements.Pure := by
  intro a l i on ha hl hl8 hi
  obtain ⟨hll, hlw⟩ := hl
  have hib := wf_i64 hi
  refine Ev.rounds (g := fun k => laminalaw03_BitsetElements.f k a l i on) ?_
  unfold laminalaw03_BitsetElements.f
  have bad : Ev (fun k => laminalaw03_BitsetElements.j0 k a l i on true) true := by
    refine Ev.succ ?_
    simp only [laminalaw03_BitsetElements.j0]
    refine Ev.pos (by simp) ?_
    exact Ev.now _
  have main : nn a ≤ 3000 → Ev (fun k => laminalaw03_BitsetElements.j0 k a l i on (decide ((l.length : Int) > 100))) true := by
    intro hn
    by_cases c : (l.length : Int) > 100
    · rw [decide_eq_true c]; exact bad
    rw [decide_eq_false c]
    obtain ⟨N, hN⟩ : ∃ N, N = nn a := ⟨_, rfl⟩
    obtain ⟨ws, hws⟩ : ∃ ws, ws = ofL N (List.replicate (wc N) 0) l := ⟨_, rfl⟩
    have hlen : ws.length = wc N := by rw [hws, ofL_len, List.length_replicate]
    have hw : wok ws := by rw [hws]; exact ofL_wok N l _ (wok_zeros _)
    have hz : ∀ j, N ≤ j → gb ws j = false := by rw [hws]; exact ofL_zero N l _ (List.length_replicate ..) (fun j _ => gb_zeros _ _)
    have e1 := iof_ev a l (by omega)
    have e2 := rof_ev a l (by omega)
    rw [← hN] at e1 e2 hn
    rw [← hws] at e1 e2
    have hwc : wc N ≤ 50 := by unfold wc; omega
    have hNle : N ≤ 1048576 := by omega
    refine Ev.succ ?_
    simp only [laminalaw03_BitsetElements.j0]
    refine Ev.neg (by decide) ?_
    refine Ev.bind e1 ?_
    refine Ev.bind e2 ?_
    refine Ev.bind (req_ev _ ws (by omega)) ?_
    refine Ev.pos rfl ?_
    refine Ev.bind0 (inew a) ?_
    refine Ev.bind0 (rnew a) ?_
    refine Ev.bind (req_ev _ _ (by rw [List.length_replicate, ← hN]; omega)) ?_
    refine Ev.pos rfl ?_
    refine Ev.bind (iset_ev N ws hw hlen hNle hz i on) ?_
    refine Ev.bind (rset_ev N ws hw hlen hNle hz i on) ?_
    refine Ev.bind (req_ev _ _ (by rw [wof_length]; omega)) ?_
    refine Ev.succ ?_
    simp only [laminalaw03_BitsetElements.j1]
    refine Ev.neg (by decide) ?_
    refine Ev.bind0 (icon N ws hw hlen hNle i) ?_
    refine Ev.bind0 (rcon N ws hw hlen hNle i) ?_
    refine Ev.pos (by simp) ?_
    refine Ev.bind (icount_ev _ ws hw (by omega)) ?_
    refine Ev.bind (rcount_ev N ws hw hlen hNle) ?_
    refine Ev.pos (by rw [cB_cut (n := N) (by rw [hlen]; exact wc_le N) hz]) ?_
    refine Ev.bind (irank_ev N ws hw hlen hNle i) ?_
    refine Ev.bind (rrank_ev N ws hw hlen hNle i) ?_
    refine Ev.pos rfl ?_
    refine Ev.bind0 (isel _ ws hw (by omega) i hib.2) ?_
    refine Ev.bind (rsel_ev N ws hw hlen hNle hz i) ?_
    refine Ev.pos rfl ?_
    have hel : elsI ws (64 * ws.length) = elsI ws N := elsI_cut (by rw [hlen]; exact wc_le N) hz
    have hell := elsI_len ws N
    have e3 : laminalaw03_elements.f (N : Int) ws = some (elsI ws N) := by
      unfold laminalaw03_elements.f
      rw [if_pos ⟨wokB_of hw, by omega, by rw [hel]; omega⟩, hel]
    refine Ev.bind0 e3 ?_
    refine Ev.bind (rels_ev N ws hw hlen hNle) ?_
    refine Ev.bind (ints3_ev _ (by omega)) ?_
    refine Ev.pos rfl ?_
    exact Ev.now _
  by_cases c1 : a > 3000
  · refine Ev.pos c1 ?_
    by_cases c2 : a ≤ 1048576
    · refine Ev.pos c2 ?_
      exact bad
    · refine Ev.neg c2 ?_
      exact main (by unfold nn; rw [if_pos (.inr (by omega))]; omega)
  · refine Ev.neg c1 ?_
    exact main (by unfold nn; split <;> omega)

end Go.Proofs.YtijgbhbdmnhanaaDoor.Pure
