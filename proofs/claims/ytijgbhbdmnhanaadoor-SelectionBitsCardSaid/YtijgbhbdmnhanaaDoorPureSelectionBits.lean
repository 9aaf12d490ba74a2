/- laminalaw41.SelectionBits returns true for all its arguments (ToBitset and FromBitset return the reference's results), the table of math/bits tied to the program's text. Conditions: none beyond the row's own (slices of at most 2^47 - 4096 bytes). -/
import Derived.Test.YtijgbhbdmnhanaaDoorStSelectionBits
import Derived.Test.YtijgbhbdmnhanaaDoorM01
import Derived.Test.YtijgbhbdmnhanaaDoorM02
import Derived.Test.YtijgbhbdmnhanaaDoorM03
import Derived.Test.YtijgbhbdmnhanaaDoorM04
import Derived.Test.YtijgbhbdmnhanaaDoorM08
import Derived.Test.YtijgbhbdmnhanaaDoorM11
import Derived.Test.YtijgbhbdmnhanaaDoorM12
import Derived.Test.YtijgbhbdmnhanaaDoorM13
set_option linter.unusedVariables false
set_option linter.unusedSimpArgs false
namespace Go.Proofs.YtijgbhbdmnhanaaDoor.Pure
open Go Go.RowKit Go.Proofs.YtijgbhbdmnhanaaDoor.QSelectionBits Go.Proofs.YtijgbhbdmnhanaaDoorW.PrintWords Go.Proofs.YtijgbhbdmnhanaaDoorW.PrintLast Go.Proofs.YtijgbhbdmnhanaaDoorM

/-! ### the reference's selections -/
theorem drop_lt {α : Type} {l r : List α} {i : Nat} {x : α} (h : l.drop i = x :: r) : i < l.length := by
  rcases Nat.lt_or_ge i l.length with h1 | h1
  · exact h1
  · rw [List.drop_of_length_le h1] at h; cases h
theorem drop_ge {α : Type} {l : List α} {i : Nat} (h : l.drop i = []) : l.length ≤ i := by
  rwa [List.drop_eq_nil_iff] at h
theorem drop_next {α : Type} {l r : List α} {i : Nat} {x : α} (h : l.drop i = x :: r) : l.drop (i + 1) = r := by
  rw [← List.drop_drop, h]; rfl
theorem rd_drop {l r : List Int} {i : Nat} {x : Int} (h : l.drop i = x :: r) : rd l (i : Int) = x := by
  rw [rd_nat, List.getD_eq_getElem?_getD, ← List.head?_drop, h]; rfl
def prvI (l : List Int) (i : Nat) : Option Int := if i = 0 then none else some (rd l ((i - 1 : Nat) : Int))
theorem rvalid_l0 (l : List Int) (n : Int) (hl : l.length ≤ 9223372036854775807) : ∀ (r : List Int) (i : Nat), l.drop i = r → Ev (fun k => laminaref41_Valid.l0 k l n i) (vsl n (prvI l i) r) := by
  intro r
  induction r with
  | nil =>
    intro i h
    have := drop_ge h
    refine Ev.succ ?_
    simp only [laminaref41_Valid.l0]
    refine Ev.neg (by omega) ?_
    exact Ev.now _
  | cons x r ih =>
    intro i h
    have hlt := drop_lt h
    have hn := ih (i + 1) (drop_next h)
    have hp : prvI l (i + 1) = some x := by unfold prvI; rw [if_neg (by omega), show i + 1 - 1 = i by omega, rd_drop h]
    rw [hp] at hn
    refine Ev.succ ?_
    simp only [laminaref41_Valid.l0, rd_drop h, w64_add1 i (by omega)]
    refine Ev.pos (by omega) ?_
    refine Ev.pos (by omega) ?_
    unfold vsl
    by_cases c1 : x < 0
    · refine Ev.pos c1 ?_
      exact Ev.eq (Ev.now _) (by rw [if_pos (.inl c1)])
    refine Ev.neg c1 ?_
    by_cases c2 : x ≥ n
    · refine Ev.pos c2 ?_
      exact Ev.eq (Ev.now _) (by rw [if_pos (.inr (.inl c2))])
    refine Ev.neg c2 ?_
    by_cases c3 : (i : Int) > 0
    · refine Ev.pos c3 ?_
      simp only [w64_sub1 i (by omega) (by omega)]
      refine Ev.pos (by omega) ?_
      refine Ev.pos (by omega) ?_
      have he : prvI l i = some (rd l ((i - 1 : Nat) : Int)) := by unfold prvI; rw [if_neg (by omega)]
      by_cases c4 : x ≤ rd l ((i - 1 : Nat) : Int)
      · refine Ev.pos c4 ?_
        exact Ev.eq (Ev.now _) (by rw [if_pos (.inr (.inr (by rw [he]; simpa [pge] using c4)))])
      · refine Ev.neg c4 ?_
        refine Ev.eq hn ?_
        rw [if_neg]
        rintro (h' | h' | h')
        · omega
        · omega
        · rw [he] at h'; simp [pge] at h'; omega
    · refine Ev.neg c3 ?_
      refine Ev.eq hn ?_
      rw [if_neg]
      rintro (h' | h' | h')
      · omega
      · omega
      · unfold prvI at h'; rw [if_pos (by omega)] at h'; simp [pge] at h'
theorem rvalid_ev (l : List Int) (n : Int) (hl : l.length ≤ 9223372036854775807) : Ev (fun k => laminaref41_Valid.f k l n) (vsl n none l) := by
  have := rvalid_l0 l n hl l 0 rfl
  unfold laminaref41_Valid.f
  simpa [prvI] using this
theorem ints_l0 (l : List Int) (hl : l.length < 9223372036854775808) : ∀ (r : List Int) (i : Nat), l.drop i = r → Ev (fun k => laminaref17_Ints.l0 k l l i) true := by
  intro r
  induction r with
  | nil =>
    intro i h
    have := drop_ge h
    refine Ev.succ ?_
    simp only [laminaref17_Ints.l0]
    refine Ev.neg (by omega) ?_
    exact Ev.now _
  | cons x r ih =>
    intro i h
    have hlt := drop_lt h
    refine Ev.succ ?_
    simp only [laminaref17_Ints.l0, w64_add1 i (by omega)]
    refine Ev.pos (by omega) ?_
    refine Ev.pos (by omega) ?_
    refine Ev.pos (by omega) ?_
    refine Ev.pos trivial ?_
    exact ih (i + 1) (drop_next h)
theorem ints_ev (l : List Int) (hl : l.length < 9223372036854775808) : Ev (fun k => laminaref17_Ints.f k l l) true := by
  unfold laminaref17_Ints.f
  refine Ev.pos rfl ?_
  exact ints_l0 l hl l 0 rfl

theorem small_ev (l : List Int) (n : Int) (hl : l.length < 9223372036854775808) : Ev (fun k => laminalaw41_small.f k l n) (decide (n ≤ 300) && vsl n none l) := by
  unfold laminalaw41_small.f
  by_cases h : n ≤ 300
  · refine Ev.pos h ?_
    rw [decide_eq_true h, Bool.true_and]
    exact Ev.bind (rvalid_ev l n (by omega)) (Ev.now _)
  · refine Ev.neg h ?_
    rw [decide_eq_false h]
    exact Ev.now _

/-! ### the reference's bitset functions -/
theorem tdiv64 (i : Nat) (h : i < 9223372036854775808) : wrap64 (Int.tdiv (i : Int) 64) = ((i / 64 : Nat) : Int) := by
  rw [Int.tdiv_eq_ediv_of_nonneg (by omega), w64 _ (by omega) (by omega)]; omega
theorem tmod64 (i : Nat) : Int.tmod (i : Int) 64 = ((i % 64 : Nat) : Int) := by
  rw [Int.tmod_eq_emod_of_nonneg (by omega)]; omega
theorem utmod64 (i : Nat) : IntKind.u64.wrap (Int.tmod (i : Int) 64) = ((i % 64 : Nat) : Int) := by
  rw [tmod64]; exact wraps_u64 _ (by omega) (by omega)
theorem pow_cast0 (t : Nat) : ((2 ^ t : Nat) : Int) = 2 ^ t := by simp
theorem shl1 (r : Nat) (hr : r < 64) : shl .u64 1 (r : Int) = ((2 ^ r : Nat) : Int) := by
  have h := pow_lt64 r hr
  have h3 : ∀ p : Nat, p < 2 ^ 64 → IntKind.u64.wrap (p : Int) = (p : Int) := fun p hp => wraps_u64 _ (by omega) (by omega)
  unfold shl
  rw [show min ((r : Int).toNat) IntKind.u64.bits = r by simp [IntKind.bits]; omega, Int.one_mul, ← pow_cast0]
  exact h3 _ h
theorem bit_one (y : Int) (h0 : 0 ≤ y) (h1 : y < 18446744073709551616) (r : Nat) (hr : r < 64) : (Go.bits .and .u64 (shr .u64 y (r : Int)) 1 == 1) = y.toNat.testBit r := by
  obtain ⟨m, rfl⟩ := Int.eq_ofNat_of_zero_le h0
  unfold shr
  rw [show min ((r : Int).toNat) IntKind.u64.bits = r by simp [IntKind.bits]; omega, ← pow_cast0, ← Int.natCast_ediv, Int.toNat_natCast, Nat.testBit_eq_decide_div_mod_eq]
  have hqm := Nat.div_le_self m (2 ^ r)
  generalize m / 2 ^ r = q at hqm ⊢
  rw [and_one _ (by omega) (by omega)]
  by_cases hq : q % 2 = 1
  · rw [decide_eq_true hq]; simp; omega
  · rw [decide_eq_false hq]; simp; omega
theorem or_shl (ws : List Int) (hw : wok ws) (i : Nat) : Go.bits .or .u64 (ws.getD (i / 64) 0) (shl .u64 1 (((i % 64 : Nat)) : Int)) = (((ws.getD (i / 64) 0).toNat ||| 2 ^ (i % 64) : Nat) : Int) := by
  have h := wok_get hw (i / 64)
  rw [shl1 _ (Nat.mod_lt _ (by decide))]
  obtain ⟨m, hm⟩ := Int.eq_ofNat_of_zero_le h.1
  rw [hm] at h ⊢
  rw [Int.toNat_natCast]
  exact or_nat m _ (by omega) (pow_lt64 _ (Nat.mod_lt _ (by decide)))
theorem r03con (n i : Nat) (ws : List Int) (hl : ws.length = wc n) (hw : wok ws) (hn : n < 9223372036854775808) : laminaref03_Contains.f (n : Int) ws (i : Int) = some (decide (i < n) && gb ws i) := by
  unfold laminaref03_Contains.f
  rw [if_pos (by omega)]
  by_cases h : i < n
  · have hq : i / 64 < ws.length := by rw [hl]; unfold wc; omega
    rw [if_pos (by omega), tdiv64 i (by omega), utmod64, if_pos (by omega), if_pos (by omega), if_pos (by omega), rd_nat]
    have h2 := wok_get hw (i / 64)
    rw [bit_one _ h2.1 h2.2 _ (Nat.mod_lt _ (by decide)), decide_eq_true h]
    simp [gb]
  · rw [if_neg (by omega), decide_eq_false h]; rfl
theorem r03con_neg (n : Int) (i : Int) (ws : List Int) (hi : i < 0) : laminaref03_Contains.f n ws i = some false := by
  unfold laminaref03_Contains.f
  rw [if_neg (by omega)]

/-! ### valid sets -/
def vset (a : Int) (ws : List Int) : Prop := 0 ≤ a ∧ a ≤ 1048576 ∧ ws.length = wc a.toNat ∧ ∀ j, a.toNat ≤ j → gb ws j = false
theorem last_word {ws : List Int} (hw : wok ws) {n : Nat} (hl : ws.length = wc n) (hn : n % 64 ≠ 0) :
    ((ws.getD (n / 64) 0).toNat / 2 ^ (n % 64) = 0) ↔ ∀ j, n ≤ j → gb ws j = false := by
  have hlt : n / 64 < ws.length := by rw [hl]; unfold wc; omega
  have hp := Nat.two_pow_pos (n % 64)
  constructor
  · intro h j hj
    by_cases hq : j / 64 = n / 64
    · unfold gb
      rw [hq]
      have h1 : (ws.getD (n / 64) 0).toNat < 2 ^ (n % 64) := by
        rcases Nat.div_eq_zero_iff.1 h with h2 | h2
        · omega
        · exact h2
      exact Nat.testBit_lt_two_pow (Nat.lt_of_lt_of_le h1 (Nat.pow_le_pow_right (by decide) (by omega)))
    · exact gb_out (by rw [hl]; unfold wc; omega)
  · intro h
    refine Nat.div_eq_of_lt (Nat.lt_pow_two_of_testBit _ (fun i hi => ?_))
    by_cases h64 : i < 64
    · have := h (64 * (n / 64) + i) (by omega)
      unfold gb at this
      rw [show (64 * (n / 64) + i) / 64 = n / 64 by omega, show (64 * (n / 64) + i) % 64 = i by omega] at this
      exact this
    · have h2 := wok_get hw (n / 64)
      have hp2 : 2 ^ 64 ≤ 2 ^ i := Nat.pow_le_pow_right (by decide) (by omega)
      exact Nat.testBit_lt_two_pow (by omega)
theorem vset_iff {n : Nat} {ws : List Int} : vset (n : Int) ws ↔ n ≤ 1048576 ∧ ws.length = wc n ∧ ∀ j, n ≤ j → gb ws j = false := by
  unfold vset
  rw [Int.toNat_natCast]
  constructor
  · rintro ⟨_, h2, h3, h4⟩; exact ⟨by omega, h3, h4⟩
  · rintro ⟨h2, h3, h4⟩; exact ⟨by omega, by omega, h3, h4⟩
theorem vset_wof (n : Nat) (f : Nat → Bool) (hn : n ≤ 1048576) : vset (n : Int) (wof n f) :=
  vset_iff.2 ⟨hn, wof_length n f, fun j hj => by rw [gb_wof, decide_eq_false (by omega), Bool.false_and]⟩
theorem vset_eq {n : Nat} {ws : List Int} (hw : wok ws) (h : vset (n : Int) ws) : ws = wof n (gb ws) := by
  obtain ⟨_, h2, h3⟩ := vset_iff.1 h
  refine wof_eq h2 hw (fun i => ?_)
  by_cases hi : i < n
  · rw [decide_eq_true hi, Bool.true_and]
  · rw [decide_eq_false hi, Bool.false_and, h3 i (by omega)]
theorem r03val (a : Int) (ws : List Int) (hw : wok ws) (hl : ws.length < 4611686018427387904) : ∃ b, laminaref03_Valid.f a ws = some b ∧ (b = true ↔ vset a ws) := by
  unfold laminaref03_Valid.f
  by_cases h1 : a < 0
  · exact ⟨false, by rw [if_pos h1], by simp [vset]; omega⟩
  by_cases h2 : a > 1048576
  · exact ⟨false, by rw [if_neg h1, if_pos h2], by simp [vset]; omega⟩
  obtain ⟨n, rfl⟩ := Int.eq_ofNat_of_zero_le (show 0 ≤ a by omega)
  rw [if_neg h1, if_neg h2, w64 ((n : Int) + 63) (by omega) (by omega), show (n : Int) + 63 = ((n + 63 : Nat) : Int) by omega, tdiv64 _ (by omega), tmod64]
  have hwc : (n + 63) / 64 = wc n := rfl
  by_cases h3 : ws.length = wc n
  · rw [if_pos (by omega)]
    by_cases h4 : n % 64 = 0
    · refine ⟨true, by rw [if_pos (by omega)], iff_of_true rfl (vset_iff.2 ⟨by omega, h3, fun j hj => gb_out (by rw [h3]; unfold wc; omega)⟩)⟩
    · have e : wrap64 ((ws.length : Int) - 1) = ((n / 64 : Nat) : Int) := by
        rw [w64 _ (by omega) (by omega), h3]; unfold wc; omega
      have hq : n / 64 < ws.length := by rw [h3]; unfold wc; omega
      rw [if_neg (by omega), e, if_pos (by omega), if_pos (by omega), wraps_u64 ((n % 64 : Nat) : Int) (by omega) (by omega), if_pos (by omega), rd_nat]
      refine ⟨_, rfl, ?_⟩
      have hg := wok_get hw (n / 64)
      have hlw := last_word hw h3 h4
      obtain ⟨m, hm⟩ := Int.eq_ofNat_of_zero_le hg.1
      rw [hm] at hlw ⊢
      rw [Int.toNat_natCast] at hlw
      unfold shr
      rw [show min (((n % 64 : Nat) : Int).toNat) IntKind.u64.bits = n % 64 by simp [IntKind.bits]; omega, ← pow_cast0, ← Int.natCast_ediv]
      rw [vset_iff]
      generalize m / 2 ^ (n % 64) = q at hlw ⊢
      constructor
      · intro h; exact ⟨by omega, h3, hlw.1 (by simpa using h)⟩
      · rintro ⟨_, _, h⟩; have := hlw.2 h; simpa using this
  · refine ⟨false, by rw [if_neg (by omega)], ?_⟩
    rw [vset_iff]
    exact iff_of_false (by simp) (fun h => h3 h.2.1)

/-! ### Of, New -/
def nn (n : Int) : Nat := if n < 0 ∨ n > 1048576 then 0 else n.toNat
theorem nn_le (n : Int) : nn n ≤ 1048576 := by unfold nn; split <;> omega
def ofL (n : Nat) : List Int → List Int → List Int
  | ws, [] => ws
  | ws, x :: r => ofL n (if 0 ≤ x ∧ x < (n : Int) then sb ws x.toNat else ws) r
theorem ofL_len (n : Nat) : ∀ (l ws : List Int), (ofL n ws l).length = ws.length := by
  intro l
  induction l with
  | nil => intro ws; rfl
  | cons x r ih => intro ws; simp only [ofL]; rw [ih]; split <;> simp [sb_length]
theorem ofL_wok (n : Nat) : ∀ (l ws : List Int), wok ws → wok (ofL n ws l) := by
  intro l
  induction l with
  | nil => intro ws h; exact h
  | cons x r ih => intro ws h; simp only [ofL]; exact ih _ (by split <;> first | exact sb_wok h _ | exact h)
theorem wc_words (n : Nat) (hn : n ≤ 1048576) : wrap64 (Int.tdiv (wrap64 ((n : Int) + 63)) 64) = ((wc n : Nat) : Int) := by
  rw [w64 ((n : Int) + 63) (by omega) (by omega), Int.tdiv_eq_ediv_of_nonneg (by omega), w64 _ (by omega) (by omega)]
  unfold wc; omega
theorem inew (n : Int) : bitset_New.f n = some ((nn n : Int), List.replicate (wc (nn n)) 0) := by
  have hw : ∀ m : Nat, m ≤ 1048576 → wc m ≤ 16384 + 1 := fun m h => by unfold wc; omega
  have c0 : bitset_wordCount.f 0 = some 0 := by decide +kernel
  unfold bitset_New.f nn
  by_cases h1 : n < 0
  · rw [if_pos h1, if_pos (.inl h1), c0]; rfl
  · rw [if_neg h1]
    by_cases h2 : n > 1048576
    · rw [if_pos h2, if_pos (.inr h2), c0]; rfl
    · rw [if_neg h2, if_neg (by omega)]
      obtain ⟨m, rfl⟩ := Int.eq_ofNat_of_zero_le (show 0 ≤ n by omega)
      have := hw m (by omega)
      unfold bitset_wordCount.f
      rw [wc_words m (by omega)]
      simp only [Option.bind_some]
      rw [if_pos (by omega), if_pos (by omega), Int.toNat_natCast, Int.toNat_natCast]
theorem rnew (n : Int) : laminaref03_New.f n = some ((nn n : Int), List.replicate (wc (nn n)) 0) := by
  have hw : ∀ m : Nat, m ≤ 1048576 → wc m ≤ 16384 + 1 := fun m h => by unfold wc; omega
  unfold laminaref03_New.f nn
  by_cases h1 : n < 0
  · rw [if_pos h1, if_pos (.inl h1)]; rfl
  · rw [if_neg h1]
    by_cases h2 : n > 1048576
    · rw [if_pos h2, if_pos (.inr h2)]; rfl
    · rw [if_neg h2]
      simp only [if_neg (show ¬ (n < 0 ∨ n > 1048576) by omega)]
      obtain ⟨m, rfl⟩ := Int.eq_ofNat_of_zero_le (show 0 ≤ n by omega)
      have := hw m (by omega)
      rw [wc_words m (by omega)]
      rw [if_pos (by omega), if_pos (by omega), Int.toNat_natCast, Int.toNat_natCast]
theorem of_word {x : Int} {n : Nat} (h0 : 0 ≤ x) (h1 : x < (n : Int)) (hn : n ≤ 1048576) : wrap64 (Int.tdiv x 64) = ((x.toNat / 64 : Nat) : Int) ∧ Int.tmod x 64 = ((x.toNat % 64 : Nat) : Int) := by
  obtain ⟨m, rfl⟩ := Int.eq_ofNat_of_zero_le h0
  exact ⟨by rw [tdiv64 m (by omega), Int.toNat_natCast], by rw [tmod64 m, Int.toNat_natCast]⟩
theorem drop_cons {l : List Int} {i : Nat} (h : i < l.length) : l.drop i = l.getD i 0 :: l.drop (i + 1) := by
  rw [List.getD_eq_getElem?_getD, List.getElem?_eq_getElem h, Option.getD_some]; exact List.drop_eq_getElem_cons h
theorem iof_l0 (n : Nat) (hn : n ≤ 1048576) (l : List Int) (hl : l.length ≤ 1000000) : ∀ (d i : Nat) (ws : List Int), i + d = l.length → ws.length = wc n → wok ws → Ev (fun k => bitset_Of.l0 k l (l.length : Int) (i : Int) (n : Int) ws) ((n : Int), ofL n ws (l.drop i)) := by
  intro d
  induction d with
  | zero =>
    intro i ws h1 h2 h3
    refine Ev.succ ?_
    simp only [bitset_Of.l0]
    refine Ev.neg (by omega) ?_
    rw [List.drop_of_length_le (by omega)]
    exact Ev.now _
  | succ d ih =>
    intro i ws h1 h2 h3
    refine Ev.succ ?_
    simp only [bitset_Of.l0]
    refine Ev.pos (by omega) ?_
    refine Ev.pos (by omega) ?_
    refine Ev.pos (by omega) ?_
    rw [rd_nat, w64_add1 i (by omega), drop_cons (by omega : i < l.length)]
    simp only [ofL]
    generalize l.getD i 0 = x
    by_cases c1 : 0 ≤ x
    · refine Ev.pos c1 ?_
      by_cases c2 : x < (n : Int)
      · obtain ⟨e1, e2⟩ := of_word c1 c2 hn
        have hq : x.toNat / 64 < ws.length := by rw [h2]; unfold wc; omega
        refine Ev.pos c2 ?_
        rw [e1, e2]
        refine Ev.pos (by omega) ?_
        refine Ev.pos (by omega) ?_
        refine Ev.pos (by omega) ?_
        rw [rd_nat, or_shl ws h3 x.toNat, Int.toNat_natCast, if_pos ⟨c1, c2⟩]
        exact ih (i + 1) (sb ws x.toNat) (by omega) (by rw [sb_length]; exact h2) (sb_wok h3 _)
      · refine Ev.neg c2 ?_
        rw [if_neg (fun h => c2 h.2)]
        exact ih (i + 1) ws (by omega) h2 h3
    · refine Ev.neg c1 ?_
      rw [if_neg (fun h => c1 h.1)]
      exact ih (i + 1) ws (by omega) h2 h3
theorem iof_ev (n : Int) (l : List Int) (hl : l.length ≤ 1000000) : Ev (fun k => bitset_Of.f k n l) ((nn n : Int), ofL (nn n) (List.replicate (wc (nn n)) 0) l) := by
  unfold bitset_Of.f
  refine Ev.bind0 (inew n) ?_
  have := iof_l0 (nn n) (nn_le n) l hl l.length 0 (List.replicate (wc (nn n)) 0) (by omega) (by simp) (wok_zeros _)
  rw [List.drop_zero] at this
  exact this
theorem rof_l0 (n : Nat) (hn : n ≤ 1048576) (l : List Int) (hl : l.length ≤ 1000000) : ∀ (d i : Nat) (ws : List Int), i + d = l.length → ws.length = wc n → wok ws → Ev (fun k => laminaref03_Of.l0 k l (i : Int) (n : Int) ws) ((n : Int), ofL n ws (l.drop i)) := by
  intro d
  induction d with
  | zero =>
    intro i ws h1 h2 h3
    refine Ev.succ ?_
    simp only [laminaref03_Of.l0]
    refine Ev.neg (by omega) ?_
    rw [List.drop_of_length_le (by omega)]
    exact Ev.now _
  | succ d ih =>
    intro i ws h1 h2 h3
    refine Ev.succ ?_
    simp only [laminaref03_Of.l0]
    refine Ev.pos (by omega) ?_
    refine Ev.pos (by omega) ?_
    rw [rd_nat, w64_add1 i (by omega), drop_cons (by omega : i < l.length)]
    simp only [ofL]
    generalize l.getD i 0 = x
    by_cases c1 : 0 ≤ x
    · refine Ev.pos c1 ?_
      by_cases c2 : x < (n : Int)
      · obtain ⟨e1, e2⟩ := of_word c1 c2 hn
        have hq : x.toNat / 64 < ws.length := by rw [h2]; unfold wc; omega
        refine Ev.pos c2 ?_
        rw [e1, e2, wraps_u64 ((x.toNat % 64 : Nat) : Int) (by omega) (by omega)]
        refine Ev.pos (by omega) ?_
        refine Ev.pos (by omega) ?_
        refine Ev.pos (by omega) ?_
        rw [rd_nat, or_shl ws h3 x.toNat, Int.toNat_natCast, if_pos ⟨c1, c2⟩]
        exact ih (i + 1) (sb ws x.toNat) (by omega) (by rw [sb_length]; exact h2) (sb_wok h3 _)
      · refine Ev.neg c2 ?_
        rw [if_neg (fun h => c2 h.2)]
        exact ih (i + 1) ws (by omega) h2 h3
    · refine Ev.neg c1 ?_
      rw [if_neg (fun h => c1 h.1)]
      exact ih (i + 1) ws (by omega) h2 h3
theorem rof_ev (n : Int) (l : List Int) (hl : l.length ≤ 1000000) : Ev (fun k => laminaref03_Of.f k n l) ((nn n : Int), ofL (nn n) (List.replicate (wc (nn n)) 0) l) := by
  unfold laminaref03_Of.f
  refine Ev.bind0 (rnew n) ?_
  have := rof_l0 (nn n) (nn_le n) l hl l.length 0 (List.replicate (wc (nn n)) 0) (by omega) (by simp) (wok_zeros _)
  rw [List.drop_zero] at this
  exact this
/-! ### Equal -/
theorem req_l0 (n : Int) (ws : List Int) (hl : ws.length ≤ 1000000) : ∀ (d i : Nat), i + d = ws.length → Ev (fun k => laminaref03_Equal.l0 k (i : Int) n ws n ws) true := by
  intro d
  induction d with
  | zero =>
    intro i h
    refine Ev.succ ?_
    simp only [laminaref03_Equal.l0]
    refine Ev.neg (by omega) ?_
    refine Ev.succ ?_
    simp only [laminaref03_Equal.j2]
    exact Ev.neg (by decide) (Ev.now _)
  | succ d ih =>
    intro i h
    refine Ev.succ ?_
    simp only [laminaref03_Equal.l0]
    refine Ev.pos (by omega) ?_
    rw [decide_eq_true (show (i : Int) < (ws.length : Int) by omega)]
    refine Ev.succ ?_
    simp only [laminaref03_Equal.j2]
    refine Ev.pos (by simp) ?_
    refine Ev.pos (by omega) ?_
    refine Ev.pos (by omega) ?_
    refine Ev.pos (by omega) ?_
    refine Ev.pos (by simp) ?_
    rw [w64_add1 i (by omega)]
    exact ih (i + 1) (by omega)
theorem req_ev (n : Int) (ws : List Int) (hl : ws.length ≤ 1000000) : Ev (fun k => laminaref03_Equal.f k n ws n ws) true := by
  unfold laminaref03_Equal.f
  refine Ev.pos (by simp) ?_
  have e : ((ws.length : Int) != (ws.length : Int)) = false := by simp
  rw [e]
  refine Ev.succ ?_
  simp only [laminaref03_Equal.j0]
  refine Ev.neg (by decide) ?_
  exact req_l0 n ws hl ws.length 0 (by omega)
theorem elsI_succ (ws : List Int) (i : Nat) : elsI ws (i + 1) = if gb ws i = true then elsI ws i ++ [(i : Int)] else elsI ws i := by
  unfold elsI
  rw [els_split i 0 1, Nat.zero_add]
  by_cases h : gb ws i = true
  · rw [if_pos h]
    have : els (gb ws) i 1 = [i] := by simp [els, h]
    rw [this, List.map_append]; rfl
  · rw [if_neg h]
    have : els (gb ws) i 1 = [] := by simp [els, h]
    rw [this, List.append_nil]
theorem elsI_cut {ws : List Int} {n m : Nat} (h : n ≤ m) (hz : ∀ j, n ≤ j → gb ws j = false) : elsI ws m = elsI ws n := by
  unfold elsI
  obtain ⟨c, rfl⟩ : ∃ c, m = n + c := ⟨m - n, by omega⟩
  rw [els_split, Nat.zero_add, els_none c n (fun i h1 _ => hz i h1), List.append_nil]
theorem elsI_len (ws : List Int) (n : Nat) : (elsI ws n).length ≤ n := by unfold elsI; rw [List.length_map]; exact els_len_le n 0

theorem rfb_l0 (n : Nat) (ws : List Int) (hl : ws.length = wc n) (hw : wok ws) (hn : n ≤ 1048576) : ∀ (d i : Nat), i + d = n → Ev (fun k => laminaref41_FromBitset.l0 k (elsI ws i) (i : Int) (n : Int) ws) (elsI ws n) := by
  intro d
  induction d with
  | zero =>
    intro i h
    refine Ev.succ ?_
    simp only [laminaref41_FromBitset.l0]
    refine Ev.neg (by omega) ?_
    exact Ev.eq (Ev.now _) (by rw [show i = n by omega])
  | succ d ih =>
    intro i h
    have hel := elsI_len ws i
    refine Ev.succ ?_
    simp only [laminaref41_FromBitset.l0]
    refine Ev.pos (by omega) ?_
    refine Ev.bind0 (r03con n i ws hl hw (by omega)) ?_
    rw [decide_eq_true (show i < n by omega), Bool.true_and, w64_add1 i (by omega)]
    have g := ih (i + 1) (by omega)
    rw [elsI_succ] at g
    by_cases c : gb ws i = true
    · rw [if_pos c] at g
      refine Ev.pos c ?_
      refine Ev.pos (by omega) ?_
      exact g
    · rw [if_neg c] at g
      refine Ev.neg c ?_
      exact g
theorem rfb_ev (n : Nat) (ws : List Int) (hl : ws.length = wc n) (hw : wok ws) (hn : n ≤ 1048576) : Ev (fun k => laminaref41_FromBitset.f k (n : Int) ws) (elsI ws n) := rfb_l0 n ws hl hw hn n 0 (by omega)
theorem ifb (a : Int) (n : Nat) (ws : List Int) (hl : ws.length = wc n) (hw : wok ws) (hn : n ≤ 1000) (hz : ∀ j, n ≤ j → gb ws j = false) : selection_FromBitset.f a ws = some (elsI ws n) := by
  have h1 : elsI ws (64 * ws.length) = elsI ws n := elsI_cut (by rw [hl]; exact wc_le n) hz
  have h2 := elsI_len ws n
  have h3 : wc n ≤ 17 := by unfold wc; omega
  unfold selection_FromBitset.f
  rw [if_pos ⟨wokB_of hw, by omega, by rw [h1]; omega⟩, h1]

theorem awake_ev : Ev (fun k => laminalaw41_awake.f k) true := Ev.of laminalaw41_awake.mono (k := 200) (by decide +kernel)
theorem SelectionBits : laminalaw41_SelectionBits.Pure := by
  intro l n a ws hl hl8 hn hx
  have lv : Ev (fun k => (laminalaw41_awake.f k).bind fun t => some t) true := Ev.bind awake_ev (Ev.now _)
  have hll : l.length < 9223372036854775808 := by omega
  have hw : wok ws := fun x hx' => wf_u64 (hx.2.2 x hx')
  have bad : Ev (fun k => laminalaw41_SelectionBits.j0 k l n true a ws) true := by
    refine Ev.succ ?_
    simp only [laminalaw41_SelectionBits.j0]
    refine Ev.pos (by simp) ?_
    exact lv
  refine Ev.rounds (g := fun k => laminalaw41_SelectionBits.f k l n a ws) ?_
  unfold laminalaw41_SelectionBits.f
  refine Ev.bind (small_ev l n hll) ?_
  by_cases h1 : (decide (n ≤ 300) && vsl n none l) = true
  case neg => refine Ev.neg h1 ?_; exact bad
  refine Ev.pos h1 ?_
  rw [Bool.and_eq_true, decide_eq_true_iff] at h1
  by_cases h2 : n < 0
  · refine Ev.pos h2 ?_; exact bad
  refine Ev.neg h2 ?_
  by_cases h3 : a > 300
  · refine Ev.pos h3 ?_; exact bad
  refine Ev.neg h3 ?_
  by_cases h4 : (ws.length : Int) > 10
  · refine Ev.pos h4 ?_; exact bad
  refine Ev.neg h4 ?_
  obtain ⟨b, hv, hvi⟩ := r03val a ws hw (by omega)
  refine Ev.bind0 hv ?_
  cases b with
  | false => exact bad
  | true =>
    have hvs := hvi.1 rfl
    have ha0 : 0 ≤ a := hvs.1
    obtain ⟨m, rfl⟩ := Int.eq_ofNat_of_zero_le ha0
    obtain ⟨hm, hlen, hz⟩ := vset_iff.1 hvs
    have hl1 : l.length ≤ 300 := by
      rcases vsl_len h1.2 with h | h
      · omega
      · rw [h]; simp
    refine Ev.succ ?_
    simp only [laminalaw41_SelectionBits.j0]
    refine Ev.neg (by decide) ?_
    have e1 : Ev (fun k => selection_ToBitset.f k l n) ((nn n : Int), ofL (nn n) (List.replicate (wc (nn n)) 0) l) := by
      unfold selection_ToBitset.f
      exact Ev.bind (iof_ev n l (by omega)) (Ev.now _)
    have e2 : Ev (fun k => laminaref41_ToBitset.f k l n) ((nn n : Int), ofL (nn n) (List.replicate (wc (nn n)) 0) l) := by
      unfold laminaref41_ToBitset.f
      exact Ev.bind (rof_ev n l (by omega)) (Ev.now _)
    refine Ev.bind e1 ?_
    refine Ev.bind e2 ?_
    have hwc : wc (nn n) ≤ 20000 := by have := nn_le n; unfold wc; omega
    refine Ev.bind (req_ev _ _ (by rw [ofL_len, List.length_replicate]; omega)) ?_
    refine Ev.pos rfl ?_
    refine Ev.bind0 (ifb (m : Int) m ws hlen hw (by omega) hz) ?_
    refine Ev.bind (rfb_ev m ws hlen hw (by omega)) ?_
    have hel := elsI_len ws m
    refine Ev.bind (ints_ev _ (by omega)) ?_
    refine Ev.pos rfl ?_
    exact lv

end Go.Proofs.YtijgbhbdmnhanaaDoor.Pure
