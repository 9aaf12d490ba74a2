/- laminalaw15.BloomUnion returns true for all its arguments (Union and Valid return the reference's results). Conditions: none beyond the row's own (slices of at most 2^47 - 4096 bytes). -/
import Derived.Test.YtjeheopcohnkeaaStBloomUnion
import Derived.Test.YtjeheopcohnkeaaUM01
import Derived.Test.YtjeheopcohnkeaaUM02
import Derived.Test.YtjeheopcohnkeaaUM03
import Derived.Test.YtjeheopcohnkeaaUM06
import Derived.Test.YtjeheopcohnkeaaUM07
import Derived.Test.YtjeheopcohnkeaaUM08
import Derived.Test.YtjeheopcohnkeaaUM11
import Derived.Test.YtjeheopcohnkeaaUM15
import Derived.Test.YtjeheopcohnkeaaUM18
import Derived.Test.YtjeheopcohnkeaaUM21
set_option linter.unusedVariables false
set_option linter.unusedSimpArgs false
namespace Go.Proofs.Ytjeheopcohnkeaa.Pure
open Go Go.RowKit Go.Proofs.Ytjeheopcohnkeaa.QBloomUnion Go.Proofs.YtjeheopcohnkeaaW.PrintWords Go.Proofs.YtjeheopcohnkeaaW.PrintLast Go.Proofs.YtjeheopcohnkeaaM

theorem drop_lt {α : Type} {l r : List α} {i : Nat} {x : α} (h : l.drop i = x :: r) : i < l.length := by
  rcases Nat.lt_or_ge i l.length with h1 | h1
  · exact h1
  · rw [List.drop_of_length_le h1] at h; cases h
theorem drop_ge {α : Type} {l : List α} {i : Nat} (h : l.drop i = []) : l.length ≤ i := by
  rwa [List.drop_eq_nil_iff] at h
theorem drop_next {α : Type} {l r : List α} {i : Nat} {x : α} (h : l.drop i = x :: r) : l.drop (i + 1) = r := by
  rw [← List.drop_drop, h]; rfl
theorem drop_mem {α : Type} {l r : List α} {i : Nat} {x : α} (h : l.drop i = x :: r) : x ∈ l := List.mem_of_mem_drop (h ▸ List.mem_cons_self)

/-! ### the reference's bitset functions -/
theorem tdiv64 (i : Nat) (h : i < 9223372036854775808) : wrap64 (Int.tdiv (i : Int) 64) = ((i / 64 : Nat) : Int) := by
  rw [Int.tdiv_eq_ediv_of_nonneg (by omega), w64 _ (by omega) (by omega)]; omega
theorem tmod64 (i : Nat) : Int.tmod (i : Int) 64 = ((i % 64 : Nat) : Int) := by
  rw [Int.tmod_eq_emod_of_nonneg (by omega)]; omega
theorem utmod64 (i : Nat) : IntKind.u64.wrap (Int.tmod (i : Int) 64) = ((i % 64 : Nat) : Int) := by
  rw [tmod64]; exact wraps_u64 _ (by omega) (by omega)
theorem pow_cast0 (t : Nat) : ((2 ^ t : Nat) : Int) = 2 ^ t := by simp
theorem shl1 (r : Nat) (hr : r < 64) : shl .u64 1 (r : Int) = ((2 ^ r : Nat) : Int) := by
  have h := pow_lt64 r hr
  have h3 : ∀ p : Nat, p < 2 ^ 64 → IntKind.u64.wrap (p : Int) = (p : Int) := fun p hp => wraps_u64 _ (by omega) (by omega)
  unfold shl
  rw [show min ((r : Int).toNat) IntKind.u64.bits = r by simp [IntKind.bits]; omega, Int.one_mul, ← pow_cast0]
  exact h3 _ h
theorem bit_one (y : Int) (h0 : 0 ≤ y) (h1 : y < 18446744073709551616) (r : Nat) (hr : r < 64) : (Go.bits .and .u64 (shr .u64 y (r : Int)) 1 == 1) = y.toNat.testBit r := by
  obtain ⟨m, rfl⟩ := Int.eq_ofNat_of_zero_le h0
  unfold shr
  rw [show min ((r : Int).toNat) IntKind.u64.bits = r by simp [IntKind.bits]; omega, ← pow_cast0, ← Int.natCast_ediv, Int.toNat_natCast, Nat.testBit_eq_decide_div_mod_eq]
  have hqm := Nat.div_le_self m (2 ^ r)
  generalize m / 2 ^ r = q at hqm ⊢
  rw [and_one _ (by omega) (by omega)]
  by_cases hq : q % 2 = 1
  · rw [decide_eq_true hq]; simp; omega
  · rw [decide_eq_false hq]; simp; omega
theorem or_shl (ws : List Int) (hw : wok ws) (i : Nat) : Go.bits .or .u64 (ws.getD (i / 64) 0) (shl .u64 1 (((i % 64 : Nat)) : Int)) = (((ws.getD (i / 64) 0).toNat ||| 2 ^ (i % 64) : Nat) : Int) := by
  have h := wok_get hw (i / 64)
  rw [shl1 _ (Nat.mod_lt _ (by decide))]
  obtain ⟨m, hm⟩ := Int.eq_ofNat_of_zero_le h.1
  rw [hm] at h ⊢
  rw [Int.toNat_natCast]
  exact or_nat m _ (by omega) (pow_lt64 _ (Nat.mod_lt _ (by decide)))
theorem r03con (n i : Nat) (ws : List Int) (hl : ws.length = wc n) (hw : wok ws) (hn : n < 9223372036854775808) : laminaref03_Contains.f (n : Int) ws (i : Int) = some (decide (i < n) && gb ws i) := by
  unfold laminaref03_Contains.f
  rw [if_pos (by omega)]
  by_cases h : i < n
  · have hq : i / 64 < ws.length := by rw [hl]; unfold wc; omega
    rw [if_pos (by omega), tdiv64 i (by omega), utmod64, if_pos (by omega), if_pos (by omega), if_pos (by omega), rd_nat]
    have h2 := wok_get hw (i / 64)
    rw [bit_one _ h2.1 h2.2 _ (Nat.mod_lt _ (by decide)), decide_eq_true h]
    simp [gb]
  · rw [if_neg (by omega), decide_eq_false h]; rfl

theorem r03new (n : Nat) (hn : n ≤ 1048576) : laminaref03_New.f (n : Int) = some ((n : Int), List.replicate (wc n) 0) := by
  unfold laminaref03_New.f
  rw [if_neg (by omega), if_neg (by omega)]
  have e : wrap64 (Int.tdiv (wrap64 ((n : Int) + 63)) 64) = ((wc n : Nat) : Int) := by
    rw [w64 ((n : Int) + 63) (by omega) (by omega), show (n : Int) + 63 = ((n + 63 : Nat) : Int) by omega, tdiv64 _ (by omega)]; rfl
  rw [e, if_pos (by omega), if_pos (by unfold wc; omega), Int.toNat_natCast]
theorem r03build_l0 (bs : List Bool) (f : Nat → Bool) (hf : ∀ i, i < bs.length → bs.getD i false = f i) (hn : bs.length ≤ 1048576) : ∀ (d i : Nat), i + d = bs.length →
    Ev (fun k => laminaref03_build.l0 k bs (i : Int) (bs.length : Int) (wofN (wc bs.length) f i)) ((bs.length : Int), wof bs.length f) := by
  intro d
  induction d with
  | zero =>
    intro i hi
    refine Ev.succ ?_
    simp only [laminaref03_build.l0]
    refine Ev.neg (by omega) ?_
    refine Ev.eq (Ev.now _) ?_
    rw [show i = bs.length by omega]; rfl
  | succ d ih =>
    intro i hi
    have ih2 := ih (i + 1) (by omega)
    have hq : i / 64 < (wofN (wc bs.length) f i).length := by rw [wofN_length]; unfold wc; omega
    have hrd : rdOf false bs (i : Int) = f i := by rw [← hf i (by omega)]; simp [rdOf]
    refine Ev.succ ?_
    simp only [laminaref03_build.l0, w64_add1 i (by omega), tdiv64 i (by omega), utmod64, hrd]
    refine Ev.pos (by omega) ?_
    refine Ev.pos (by omega) ?_
    simp only [wofN] at ih2
    by_cases h : f i = true
    · rw [if_pos h] at ih2
      refine Ev.pos h ?_
      refine Ev.pos (by omega) ?_
      refine Ev.pos (by omega) ?_
      refine Ev.pos (by omega) ?_
      rw [Int.toNat_natCast, rd_nat, or_shl _ (wofN_wok _ _ _)]
      exact ih2
    · rw [if_neg h] at ih2
      refine Ev.neg h ?_
      exact ih2
theorem r03build (bs : List Bool) (f : Nat → Bool) (hf : ∀ i, i < bs.length → bs.getD i false = f i) (hn : bs.length ≤ 1048576) : Ev (fun k => laminaref03_build.f k bs) ((bs.length : Int), wof bs.length f) := by
  unfold laminaref03_build.f
  refine Ev.bind0 (r03new _ hn) ?_
  exact r03build_l0 bs f hf hn bs.length 0 (by omega)

theorem range_map_set (n i : Nat) (f : Nat → Bool) (l : List Bool) (hl : l.length = n) (h : ∀ j, j < i → l.getD j false = f j) (hi : i < n) : ∀ j, j < i + 1 → (l.set i (f i)).getD j false = f j := by
  intro j hj
  by_cases e : j = i
  · subst e; simp [List.getD_eq_getElem?_getD, List.getElem?_set_self (show j < l.length by omega)]
  · rw [List.getD_eq_getElem?_getD, List.getElem?_set_ne (by omega), ← List.getD_eq_getElem?_getD]; exact h j (by omega)

/-! ### valid sets -/
def vset (a : Int) (ws : List Int) : Prop := 0 ≤ a ∧ a ≤ 1048576 ∧ ws.length = wc a.toNat ∧ ∀ j, a.toNat ≤ j → gb ws j = false
theorem last_word {ws : List Int} (hw : wok ws) {n : Nat} (hl : ws.length = wc n) (hn : n % 64 ≠ 0) :
    ((ws.getD (n / 64) 0).toNat / 2 ^ (n % 64) = 0) ↔ ∀ j, n ≤ j → gb ws j = false := by
  have hlt : n / 64 < ws.length := by rw [hl]; unfold wc; omega
  have hp := Nat.two_pow_pos (n % 64)
  constructor
  · intro h j hj
    by_cases hq : j / 64 = n / 64
    · unfold gb
      rw [hq]
      have h1 : (ws.getD (n / 64) 0).toNat < 2 ^ (n % 64) := by
        rcases Nat.div_eq_zero_iff.1 h with h2 | h2
        · omega
        · exact h2
      exact Nat.testBit_lt_two_pow (Nat.lt_of_lt_of_le h1 (Nat.pow_le_pow_right (by decide) (by omega)))
    · exact gb_out (by rw [hl]; unfold wc; omega)
  · intro h
    refine Nat.div_eq_of_lt (Nat.lt_pow_two_of_testBit _ (fun i hi => ?_))
    by_cases h64 : i < 64
    · have := h (64 * (n / 64) + i) (by omega)
      unfold gb at this
      rw [show (64 * (n / 64) + i) / 64 = n / 64 by omega, show (64 * (n / 64) + i) % 64 = i by omega] at this
      exact this
    · have h2 := wok_get hw (n / 64)
      have hp2 : 2 ^ 64 ≤ 2 ^ i := Nat.pow_le_pow_right (by decide) (by omega)
      exact Nat.testBit_lt_two_pow (by omega)
theorem vset_iff {n : Nat} {ws : List Int} : vset (n : Int) ws ↔ n ≤ 1048576 ∧ ws.length = wc n ∧ ∀ j, n ≤ j → gb ws j = false := by
  unfold vset
  rw [Int.toNat_natCast]
  constructor
  · rintro ⟨_, h2, h3, h4⟩; exact ⟨by omega, h3, h4⟩
  · rintro ⟨h2, h3, h4⟩; exact ⟨by omega, by omega, h3, h4⟩
theorem vset_wof (n : Nat) (f : Nat → Bool) (hn : n ≤ 1048576) : vset (n : Int) (wof n f) :=
  vset_iff.2 ⟨hn, wof_length n f, fun j hj => by rw [gb_wof, decide_eq_false (by omega), Bool.false_and]⟩
theorem vset_eq {n : Nat} {ws : List Int} (hw : wok ws) (h : vset (n : Int) ws) : ws = wof n (gb ws) := by
  obtain ⟨_, h2, h3⟩ := vset_iff.1 h
  refine wof_eq h2 hw (fun i => ?_)
  by_cases hi : i < n
  · rw [decide_eq_true hi, Bool.true_and]
  · rw [decide_eq_false hi, Bool.false_and, h3 i (by omega)]
theorem r03val (a : Int) (ws : List Int) (hw : wok ws) (hl : ws.length ≤ 9223372036854775807) : ∃ b, laminaref03_Valid.f a ws = some b ∧ (b = true ↔ vset a ws) := by
  unfold laminaref03_Valid.f
  by_cases h1 : a < 0
  · exact ⟨false, by rw [if_pos h1], by simp [vset]; omega⟩
  by_cases h2 : a > 1048576
  · exact ⟨false, by rw [if_neg h1, if_pos h2], by simp [vset]; omega⟩
  obtain ⟨n, rfl⟩ := Int.eq_ofNat_of_zero_le (show 0 ≤ a by omega)
  rw [if_neg h1, if_neg h2, w64 ((n : Int) + 63) (by omega) (by omega), show (n : Int) + 63 = ((n + 63 : Nat) : Int) by omega, tdiv64 _ (by omega), tmod64]
  have hwc : (n + 63) / 64 = wc n := rfl
  by_cases h3 : ws.length = wc n
  · rw [if_pos (by omega)]
    by_cases h4 : n % 64 = 0
    · refine ⟨true, by rw [if_pos (by omega)], iff_of_true rfl (vset_iff.2 ⟨by omega, h3, fun j hj => gb_out (by rw [h3]; unfold wc; omega)⟩)⟩
    · have e : wrap64 ((ws.length : Int) - 1) = ((n / 64 : Nat) : Int) := by
        rw [w64 _ (by omega) (by omega), h3]; unfold wc; omega
      have hq : n / 64 < ws.length := by rw [h3]; unfold wc; omega
      rw [if_neg (by omega), e, if_pos (by omega), if_pos (by omega), wraps_u64 ((n % 64 : Nat) : Int) (by omega) (by omega), if_pos (by omega), rd_nat]
      refine ⟨_, rfl, ?_⟩
      have hg := wok_get hw (n / 64)
      have hlw := last_word hw h3 h4
      obtain ⟨m, hm⟩ := Int.eq_ofNat_of_zero_le hg.1
      rw [hm] at hlw ⊢
      rw [Int.toNat_natCast] at hlw
      unfold shr
      rw [show min (((n % 64 : Nat) : Int).toNat) IntKind.u64.bits = n % 64 by simp [IntKind.bits]; omega, ← pow_cast0, ← Int.natCast_ediv]
      rw [vset_iff]
      generalize m / 2 ^ (n % 64) = q at hlw ⊢
      constructor
      · intro h; exact ⟨by omega, h3, hlw.1 (by simpa using h)⟩
      · rintro ⟨_, _, h⟩; have := hlw.2 h; simpa using this
  · refine ⟨false, by rw [if_neg (by omega)], ?_⟩
    rw [vset_iff]
    exact iff_of_false (by simp) (fun h => h3 h.2.1)

/-! ### Of, New -/
def nn (n : Int) : Nat := if n < 0 ∨ n > 1048576 then 0 else n.toNat
theorem nn_le (n : Int) : nn n ≤ 1048576 := by unfold nn; split <;> omega
def ofL (n : Nat) : List Int → List Int → List Int
  | ws, [] => ws
  | ws, x :: r => ofL n (if 0 ≤ x ∧ x < (n : Int) then sb ws x.toNat else ws) r
theorem ofL_len (n : Nat) : ∀ (l ws : List Int), (ofL n ws l).length = ws.length := by
  intro l
  induction l with
  | nil => intro ws; rfl
  | cons x r ih => intro ws; simp only [ofL]; rw [ih]; split <;> simp [sb_length]
theorem ofL_wok (n : Nat) : ∀ (l ws : List Int), wok ws → wok (ofL n ws l) := by
  intro l
  induction l with
  | nil => intro ws h; exact h
  | cons x r ih => intro ws h; simp only [ofL]; exact ih _ (by split <;> first | exact sb_wok h _ | exact h)
theorem wc_words (n : Nat) (hn : n ≤ 1048576) : wrap64 (Int.tdiv (wrap64 ((n : Int) + 63)) 64) = ((wc n : Nat) : Int) := by
  rw [w64 ((n : Int) + 63) (by omega) (by omega), Int.tdiv_eq_ediv_of_nonneg (by omega), w64 _ (by omega) (by omega)]
  unfold wc; omega
theorem inew (n : Int) : bitset_New.f n = some ((nn n : Int), List.replicate (wc (nn n)) 0) := by
  have hw : ∀ m : Nat, m ≤ 1048576 → wc m ≤ 16384 + 1 := fun m h => by unfold wc; omega
  have c0 : bitset_wordCount.f 0 = some 0 := by decide +kernel
  unfold bitset_New.f nn
  by_cases h1 : n < 0
  · rw [if_pos h1, if_pos (.inl h1), c0]; rfl
  · rw [if_neg h1]
    by_cases h2 : n > 1048576
    · rw [if_pos h2, if_pos (.inr h2), c0]; rfl
    · rw [if_neg h2, if_neg (by omega)]
      obtain ⟨m, rfl⟩ := Int.eq_ofNat_of_zero_le (show 0 ≤ n by omega)
      have := hw m (by omega)
      unfold bitset_wordCount.f
      rw [wc_words m (by omega)]
      simp only [Option.bind_some]
      rw [if_pos (by omega), if_pos (by omega), Int.toNat_natCast, Int.toNat_natCast]
theorem rnew (n : Int) : laminaref03_New.f n = some ((nn n : Int), List.replicate (wc (nn n)) 0) := by
  have hw : ∀ m : Nat, m ≤ 1048576 → wc m ≤ 16384 + 1 := fun m h => by unfold wc; omega
  unfold laminaref03_New.f nn
  by_cases h1 : n < 0
  · rw [if_pos h1, if_pos (.inl h1)]; rfl
  · rw [if_neg h1]
    by_cases h2 : n > 1048576
    · rw [if_pos h2, if_pos (.inr h2)]; rfl
    · rw [if_neg h2]
      simp only [if_neg (show ¬ (n < 0 ∨ n > 1048576) by omega)]
      obtain ⟨m, rfl⟩ := Int.eq_ofNat_of_zero_le (show 0 ≤ n by omega)
      have := hw m (by omega)
      rw [wc_words m (by omega)]
      rw [if_pos (by omega), if_pos (by omega), Int.toNat_natCast, Int.toNat_natCast]
theorem of_word {x : Int} {n : Nat} (h0 : 0 ≤ x) (h1 : x < (n : Int)) (hn : n ≤ 1048576) : wrap64 (Int.tdiv x 64) = ((x.toNat / 64 : Nat) : Int) ∧ Int.tmod x 64 = ((x.toNat % 64 : Nat) : Int) := by
  obtain ⟨m, rfl⟩ := Int.eq_ofNat_of_zero_le h0
  exact ⟨by rw [tdiv64 m (by omega), Int.toNat_natCast], by rw [tmod64 m, Int.toNat_natCast]⟩
theorem drop_cons {l : List Int} {i : Nat} (h : i < l.length) : l.drop i = l.getD i 0 :: l.drop (i + 1) := by
  rw [List.getD_eq_getElem?_getD, List.getElem?_eq_getElem h, Option.getD_some]; exact List.drop_eq_getElem_cons h
theorem iof_l0 (n : Nat) (hn : n ≤ 1048576) (l : List Int) (hl : l.length ≤ 1000000) : ∀ (d i : Nat) (ws : List Int), i + d = l.length → ws.length = wc n → wok ws → Ev (fun k => bitset_Of.l0 k l (l.length : Int) (i : Int) (n : Int) ws) ((n : Int), ofL n ws (l.drop i)) := by
  intro d
  induction d with
  | zero =>
    intro i ws h1 h2 h3
    refine Ev.succ ?_
    simp only [bitset_Of.l0]
    refine Ev.neg (by omega) ?_
    rw [List.drop_of_length_le (by omega)]
    exact Ev.now _
  | succ d ih =>
    intro i ws h1 h2 h3
    refine Ev.succ ?_
    simp only [bitset_Of.l0]
    refine Ev.pos (by omega) ?_
    refine Ev.pos (by omega) ?_
    refine Ev.pos (by omega) ?_
    rw [rd_nat, w64_add1 i (by omega), drop_cons (by omega : i < l.length)]
    simp only [ofL]
    generalize l.getD i 0 = x
    by_cases c1 : 0 ≤ x
    · refine Ev.pos c1 ?_
      by_cases c2 : x < (n : Int)
      · obtain ⟨e1, e2⟩ := of_word c1 c2 hn
        have hq : x.toNat / 64 < ws.length := by rw [h2]; unfold wc; omega
        refine Ev.pos c2 ?_
        rw [e1, e2]
        refine Ev.pos (by omega) ?_
        refine Ev.pos (by omega) ?_
        refine Ev.pos (by omega) ?_
        rw [rd_nat, or_shl ws h3 x.toNat, Int.toNat_natCast, if_pos ⟨c1, c2⟩]
        exact ih (i + 1) (sb ws x.toNat) (by omega) (by rw [sb_length]; exact h2) (sb_wok h3 _)
      · refine Ev.neg c2 ?_
        rw [if_neg (fun h => c2 h.2)]
        exact ih (i + 1) ws (by omega) h2 h3
    · refine Ev.neg c1 ?_
      rw [if_neg (fun h => c1 h.1)]
      exact ih (i + 1) ws (by omega) h2 h3
theorem iof_ev (n : Int) (l : List Int) (hl : l.length ≤ 1000000) : Ev (fun k => bitset_Of.f k n l) ((nn n : Int), ofL (nn n) (List.replicate (wc (nn n)) 0) l) := by
  unfold bitset_Of.f
  refine Ev.bind0 (inew n) ?_
  have := iof_l0 (nn n) (nn_le n) l hl l.length 0 (List.replicate (wc (nn n)) 0) (by omega) (by simp) (wok_zeros _)
  rw [List.drop_zero] at this
  exact this
/-! ### Equal -/
theorem req_l0 (n : Int) (ws : List Int) (hl : ws.length ≤ 1000000) : ∀ (d i : Nat), i + d = ws.length → Ev (fun k => laminaref03_Equal.l0 k (i : Int) n ws n ws) true := by
  intro d
  induction d with
  | zero =>
    intro i h
    refine Ev.succ ?_
    simp only [laminaref03_Equal.l0]
    refine Ev.neg (by omega) ?_
    refine Ev.succ ?_
    simp only [laminaref03_Equal.j2]
    exact Ev.neg (by decide) (Ev.now _)
  | succ d ih =>
    intro i h
    refine Ev.succ ?_
    simp only [laminaref03_Equal.l0]
    refine Ev.pos (by omega) ?_
    rw [decide_eq_true (show (i : Int) < (ws.length : Int) by omega)]
    refine Ev.succ ?_
    simp only [laminaref03_Equal.j2]
    refine Ev.pos (by simp) ?_
    refine Ev.pos (by omega) ?_
    refine Ev.pos (by omega) ?_
    refine Ev.pos (by omega) ?_
    refine Ev.pos (by simp) ?_
    rw [w64_add1 i (by omega)]
    exact ih (i + 1) (by omega)
theorem req_ev (n : Int) (ws : List Int) (hl : ws.length ≤ 1000000) : Ev (fun k => laminaref03_Equal.f k n ws n ws) true := by
  unfold laminaref03_Equal.f
  refine Ev.pos (by simp) ?_
  have e : ((ws.length : Int) != (ws.length : Int)) = false := by simp
  rw [e]
  refine Ev.succ ?_
  simp only [laminaref03_Equal.j0]
  refine Ev.neg (by decide) ?_
  exact req_l0 n ws hl ws.length 0 (by omega)

/-! ### words, one by one -/
theorem set_fill (l : List Int) (i : Nat) (hi : i < l.length) (n : Nat) (hn : n = l.length) : (l.take i ++ List.replicate (n - i) (0 : Int)).set i (l.getD i 0) = l.take (i + 1) ++ List.replicate (n - (i + 1)) 0 := by
  subst hn
  rw [List.set_append_right _ _ (by simp; omega), List.length_take, Nat.min_eq_left (by omega), Nat.sub_self, show l.length - i = (l.length - (i + 1)) + 1 by omega, List.replicate_succ, List.set_cons_zero,
    List.getD_eq_getElem?_getD, List.getElem?_eq_getElem hi, Option.getD_some, List.take_succ_eq_append_getElem hi, List.append_assoc, List.singleton_append]
def gl (G : Nat → Int) (m : Nat) : List Int := (List.range m).map G
theorem gl_len (G : Nat → Int) (m : Nat) : (gl G m).length = m := by simp [gl]
theorem gl_get (G : Nat → Int) (m i : Nat) (h : i < m) : (gl G m).getD i 0 = G i := by
  unfold gl; rw [List.getD_eq_getElem?_getD, List.getElem?_map, List.getElem?_range h]; rfl
theorem gl_wok {G : Nat → Int} {m : Nat} (h : ∀ i, i < m → 0 ≤ G i ∧ G i < 18446744073709551616) : wok (gl G m) := by
  intro x hx
  simp only [gl, List.mem_map, List.mem_range] at hx
  obtain ⟨i, hi, rfl⟩ := hx
  exact h i hi
theorem gb_gl {G : Nat → Int} {m : Nat} {f : Nat → Bool} (h : ∀ i r, i < m → r < 64 → (G i).toNat.testBit r = f (64 * i + r)) : ∀ j, j < 64 * m → gb (gl G m) j = f j := by
  intro j hj
  unfold gb
  rw [gl_get G m (j / 64) (by omega), h (j / 64) (j % 64) (by omega) (Nat.mod_lt _ (by decide)), show 64 * (j / 64) + j % 64 = j by omega]
theorem gb_word (ws : List Int) (i r : Nat) (hr : r < 64) : gb ws (64 * i + r) = (ws.getD i 0).toNat.testBit r := by
  unfold gb; rw [show (64 * i + r) / 64 = i by omega, show (64 * i + r) % 64 = r by omega]
theorem comb1 (a : Int) (ws : List Int) (i : Nat) : bitset_combine_1.f a ws (i : Int) = some (ws.getD i 0) := by
  unfold bitset_combine_1.f
  by_cases h : (i : Int) < (ws.length : Int)
  · rw [if_pos h, if_pos (by omega), rd_nat]
  · rw [if_neg h, List.getD_eq_getElem?_getD, List.getElem?_eq_none (by omega)]; rfl
theorem mx_self (n : Nat) : mx (n : Int) (n : Int) = (n : Int) := by unfold mx; split <;> rfl
theorem nn_nat (n : Nat) (h : n ≤ 1048576) : nn (n : Int) = n := by unfold nn; rw [if_neg (by omega)]; rfl
/-- The elements of a set that a sorted list gives. -/
theorem ofL_gb (n : Nat) : ∀ (l ws : List Int), ws.length = wc n → (∀ x ∈ l, 0 ≤ x ∧ x < (n : Int)) → ∀ j, gb (ofL n ws l) j = (gb ws j || l.contains (j : Int)) := by
  intro l
  induction l with
  | nil => intro ws _ _ j; simp [ofL]
  | cons x r ih =>
    intro ws h1 h2 j
    have hx := h2 x List.mem_cons_self
    simp only [ofL]
    rw [if_pos hx, ih (sb ws x.toNat) (by rw [sb_length]; exact h1) (fun y hy => h2 y (List.mem_cons_of_mem _ hy)), gb_sb (by rw [h1]; unfold wc; omega), List.contains_cons]
    have e : decide (j = x.toNat) = ((j : Int) == x) := by
      by_cases c : j = x.toNat
      · rw [decide_eq_true c]; simp; omega
      · rw [decide_eq_false c]; simp; omega
    rw [e, Bool.or_assoc]

theorem mx_nat (a b : Nat) : mx (a : Int) (b : Int) = ((max a b : Nat) : Int) := by unfold mx; split <;> omega

theorem comb_l0_55 (a b : Int) (wa wb : List Int) (m : Nat) (hm : m ≤ 1000000) (N0 : Int) (G : Nat → Int) (hG : ∀ i, i < m → bitset_Or_1.f (wa.getD i 0) (wb.getD i 0) = some (G i)) : ∀ (d i : Nat), i + d = m →
    Ev (fun k => bitset_combine_55.l0 k (m : Int) (i : Int) a wa b wb N0 ((gl G m).take i ++ List.replicate (m - i) 0)) (N0, gl G m) := by
  have hl := gl_len G m
  intro d
  induction d with
  | zero =>
    intro i h
    refine Ev.succ ?_
    simp only [bitset_combine_55.l0]
    refine Ev.neg (by omega) ?_
    refine Ev.eq (Ev.now _) ?_
    rw [show m - i = 0 by omega, List.replicate_zero, List.append_nil, List.take_of_length_le (by omega)]
  | succ d ih =>
    intro i h
    refine Ev.succ ?_
    simp only [bitset_combine_55.l0]
    refine Ev.pos (by omega) ?_
    refine Ev.bind0 (comb1 a wa i) ?_
    refine Ev.bind0 (comb1 b wb i) ?_
    refine Ev.bind0 (hG i (by omega)) ?_
    refine Ev.pos (by omega) ?_
    refine Ev.pos (by simp; omega) ?_
    rw [Int.toNat_natCast, ← gl_get G m i (by omega), set_fill (gl G m) i (by omega) m (by omega), w64_add1 i (by omega)]
    exact ih (i + 1) (by omega)
theorem comb_55 (n : Nat) (hn : n ≤ 1048576) (wa wb : List Int) (G : Nat → Int) (hG : ∀ i, i < wc n → bitset_Or_1.f (wa.getD i 0) (wb.getD i 0) = some (G i)) : Ev (fun k => bitset_combine_55.f k (n : Int) wa (n : Int) wb) ((n : Int), gl G (wc n)) := by
  unfold bitset_combine_55.f
  rw [mx_self]
  refine Ev.bind0 (inew (n : Int)) ?_
  rw [nn_nat n hn]
  simp only [List.length_replicate]
  have := comb_l0_55 (n : Int) (n : Int) wa wb (wc n) (by unfold wc; omega) (n : Int) G hG (wc n) 0 (by omega)
  rw [List.take_zero, List.nil_append, Nat.sub_zero] at this
  exact this

/-! ### And, Or, AndNot, Not -/
theorem nat_of {x : Int} (h : 0 ≤ x ∧ x < 18446744073709551616) : ∃ n : Nat, x = (n : Int) ∧ n < 18446744073709551616 := ⟨x.toNat, by omega, by omega⟩
theorem andNot_nat (x y : Nat) (hx : x < 18446744073709551616) (hy : y < 18446744073709551616) : Go.bits .andNot .u64 (x : Int) (y : Int) = ((x &&& (2 ^ 64 - (y + 1)) : Nat) : Int) := by
  have hx' : x % 2 ^ 64 = x := Nat.mod_eq_of_lt (by omega)
  have hy' : y % 2 ^ 64 = y := Nat.mod_eq_of_lt (by omega)
  have h3 : x &&& (2 ^ 64 - (y + 1)) ≤ x := Nat.and_le_left
  have e : (BitVec.ofNat 64 x &&& ~~~BitVec.ofNat 64 y : BitVec 64).toNat = x &&& (2 ^ 64 - (y + 1)) := by
    rw [BitVec.toNat_and, BitVec.toNat_not, BitVec.toNat_ofNat, BitVec.toNat_ofNat, hx', hy']
    congr 1
    omega
  simp only [Go.bits, IntKind.bits, BitVec.ofInt_natCast, wrap_u64]
  exact (congrArg (fun n : Nat => (n : Int) % 18446744073709551616) e).trans (by omega)
def band (n : Nat) (wa wb : List Int) : List Int := gl (fun i => (((wa.getD i 0).toNat &&& (wb.getD i 0).toNat : Nat) : Int)) (wc n)
def bor (n : Nat) (wa wb : List Int) : List Int := gl (fun i => (((wa.getD i 0).toNat ||| (wb.getD i 0).toNat : Nat) : Int)) (wc n)
def bandn (n : Nat) (wa wb : List Int) : List Int := gl (fun i => (((wa.getD i 0).toNat &&& (2 ^ 64 - ((wb.getD i 0).toNat + 1)) : Nat) : Int)) (wc n)
theorem or_ev (n : Nat) (hn : n ≤ 1048576) (wa wb : List Int) (ha : wok wa) (hb : wok wb) : Ev (fun k => bitset_Or.f k (n : Int) wa (n : Int) wb) ((n : Int), bor n wa wb) := by
  unfold bitset_Or.f
  refine Ev.bind (comb_55 n hn wa wb _ (fun i _ => ?_)) (Ev.now _)
  obtain ⟨x, ex, hx⟩ := nat_of (wok_get ha i)
  obtain ⟨y, ey, hy⟩ := nat_of (wok_get hb i)
  unfold bitset_Or_1.f
  rw [ex, ey, or_nat x y hx hy]; rfl
theorem band_wok {n : Nat} {wa wb : List Int} (ha : wok wa) : wok (band n wa wb) := gl_wok fun i _ => by
  have h := wok_get ha i
  have : (wa.getD i 0).toNat &&& (wb.getD i 0).toNat ≤ (wa.getD i 0).toNat := Nat.and_le_left
  omega
theorem bor_wok {n : Nat} {wa wb : List Int} (ha : wok wa) (hb : wok wb) : wok (bor n wa wb) := gl_wok fun i _ => by
  have h1 := wok_get ha i
  have h2 := wok_get hb i
  have : (wa.getD i 0).toNat ||| (wb.getD i 0).toNat < 2 ^ 64 := Nat.or_lt_two_pow (by omega) (by omega)
  omega
theorem bandn_wok {n : Nat} {wa wb : List Int} (ha : wok wa) : wok (bandn n wa wb) := gl_wok fun i _ => by
  have h := wok_get ha i
  have : (wa.getD i 0).toNat &&& (2 ^ 64 - ((wb.getD i 0).toNat + 1)) ≤ (wa.getD i 0).toNat := Nat.and_le_left
  omega
theorem gb_band {n : Nat} {wa wb : List Int} : ∀ j, j < 64 * wc n → gb (band n wa wb) j = (gb wa j && gb wb j) := gb_gl fun i r _ hr => by
  simp only [Int.toNat_natCast]
  rw [Nat.testBit_and, gb_word _ _ _ hr, gb_word _ _ _ hr]
theorem gb_bor {n : Nat} {wa wb : List Int} : ∀ j, j < 64 * wc n → gb (bor n wa wb) j = (gb wa j || gb wb j) := gb_gl fun i r _ hr => by
  simp only [Int.toNat_natCast]
  rw [Nat.testBit_or, gb_word _ _ _ hr, gb_word _ _ _ hr]
theorem gb_bandn {n : Nat} {wa wb : List Int} (hb : wok wb) : ∀ j, j < 64 * wc n → gb (bandn n wa wb) j = (gb wa j && !gb wb j) := gb_gl fun i r _ hr => by
  have h := wok_get hb i
  simp only [Int.toNat_natCast]
  rw [Nat.testBit_and, Nat.testBit_two_pow_sub_succ (by omega), gb_word _ _ _ hr, gb_word _ _ _ hr, decide_eq_true hr, Bool.true_and]
-- Not: the words turned, the last one cut.

/-! ### the operations as sets -/
theorem set_of {n : Nat} {ws : List Int} {f : Nat → Bool} (hl : ws.length = wc n) (hw : wok ws) (h : ∀ j, j < 64 * wc n → gb ws j = f j) (hf : ∀ j, n ≤ j → f j = false) : ws = wof n f := by
  refine wof_eq hl hw (fun i => ?_)
  by_cases c : i < 64 * wc n
  · rw [h i c]
    by_cases d : i < n
    · rw [decide_eq_true d, Bool.true_and]
    · rw [decide_eq_false d, Bool.false_and, hf i (by omega)]
  · have := wc_le n
    rw [gb_out (by omega), decide_eq_false (by omega), Bool.false_and]
theorem band_w {na nb : Nat} {wa wb : List Int} (ha : wok wa) (za : ∀ j, na ≤ j → gb wa j = false) : band (max na nb) wa wb = wof (max na nb) (fun j => gb wa j && gb wb j) :=
  set_of (gl_len _ _) (band_wok ha) gb_band (fun j hj => by rw [za j (by omega), Bool.false_and])
theorem bor_w {na nb : Nat} {wa wb : List Int} (ha : wok wa) (hb : wok wb) (za : ∀ j, na ≤ j → gb wa j = false) (zb : ∀ j, nb ≤ j → gb wb j = false) : bor (max na nb) wa wb = wof (max na nb) (fun j => gb wa j || gb wb j) :=
  set_of (gl_len _ _) (bor_wok ha hb) gb_bor (fun j hj => by rw [za j (by omega), zb j (by omega), Bool.false_or])
theorem bandn_w {na nb : Nat} {wa wb : List Int} (ha : wok wa) (hb : wok wb) (za : ∀ j, na ≤ j → gb wa j = false) : bandn (max na nb) wa wb = wof (max na nb) (fun j => gb wa j && !gb wb j) :=
  set_of (gl_len _ _) (bandn_wok ha) (gb_bandn hb) (fun j hj => by rw [za j (by omega), Bool.false_and])

/-! ### the reference's operations -/
theorem con_z (N i : Nat) (ws : List Int) (hl : ws.length = wc N) (hw : wok ws) (hN : N ≤ 1048576) (hz : ∀ j, N ≤ j → gb ws j = false) : laminaref03_Contains.f (N : Int) ws (i : Int) = some (gb ws i) := by
  rw [r03con N i ws hl hw (by omega)]
  by_cases c : i < N
  · rw [decide_eq_true c, Bool.true_and]
  · rw [decide_eq_false c, Bool.false_and, hz i (by omega)]
theorem set_range {n i : Nat} {f : Nat → Bool} {l : List Bool} (hl : l.length = n) (h : ∀ j, j < i → l.getD j false = f j) (hi : i < n) {v : Bool} (hv : v = f i) : ∀ j, j < i + 1 → (l.set i v).getD j false = f j := by
  subst hv
  exact range_map_set n i f l hl h hi
theorem op_end (n : Nat) (hn : n ≤ 1048576) (f : Nat → Bool) (l : List Bool) (hl : l.length = n) (h : ∀ j, j < n → l.getD j false = f j) : Ev (fun k => (laminaref03_build.f k l).bind fun bt => some (bt.1, bt.2)) ((n : Int), wof n f) := by
  have := r03build l f (fun i hi => h i (by omega)) (by omega)
  rw [hl] at this
  exact Ev.bind this (Ev.now _)

theorem ror_l0 (na nb : Nat) (hna : na ≤ 1048576) (hnb : nb ≤ 1048576) (wa wb : List Int) (la : wa.length = wc na) (lb : wb.length = wc nb) (ka : wok wa) (kb : wok wb) (za : ∀ j, na ≤ j → gb wa j = false) (zb : ∀ j, nb ≤ j → gb wb j = false) (n : Nat) (hn : n ≤ 1048576) : ∀ (d i : Nat) (l : List Bool), i + d = n → l.length = n → (∀ j, j < i → l.getD j false = (gb wa j || gb wb j)) →
    Ev (fun k => laminaref03_Or.l0 k l (i : Int) (na : Int) wa (nb : Int) wb) ((n : Int), wof n (fun j => gb wa j || gb wb j)) := by
  intro d
  induction d with
  | zero =>
    intro i l h1 h2 h3
    refine Ev.succ ?_
    simp only [laminaref03_Or.l0]
    refine Ev.neg (by omega) ?_
    exact op_end n hn _ l h2 (fun j hj => h3 j (by omega))
  | succ d ih =>
    intro i l h1 h2 h3
    refine Ev.succ ?_
    simp only [laminaref03_Or.l0, w64_add1 i (by omega)]
    refine Ev.pos (by omega) ?_
    refine Ev.bind0 (con_z na i wa la ka hna za) ?_
    by_cases g : gb wa i = true
    · refine Ev.pos g ?_
      refine Ev.pos (by omega) ?_
      rw [Int.toNat_natCast]
      exact ih (i + 1) _ (by omega) (by simp [h2]) (set_range (f := fun j => gb wa j || gb wb j) h2 h3 (by omega) (by rw [g, Bool.true_or]))
    · refine Ev.neg g ?_
      refine Ev.bind0 (con_z nb i wb lb kb hnb zb) ?_
      refine Ev.pos (by omega) ?_
      rw [Int.toNat_natCast]
      exact ih (i + 1) _ (by omega) (by simp [h2]) (set_range (f := fun j => gb wa j || gb wb j) h2 h3 (by omega) (by rw [show gb wa i = false by simpa using g, Bool.false_or]))
theorem ror_ev (na nb : Nat) (hna : na ≤ 1048576) (hnb : nb ≤ 1048576) (wa wb : List Int) (la : wa.length = wc na) (lb : wb.length = wc nb) (ka : wok wa) (kb : wok wb) (za : ∀ j, na ≤ j → gb wa j = false) (zb : ∀ j, nb ≤ j → gb wb j = false) :
    Ev (fun k => laminaref03_Or.f k (na : Int) wa (nb : Int) wb) (((max na nb : Nat) : Int), wof (max na nb) (fun j => gb wa j || gb wb j)) := by
  unfold laminaref03_Or.f
  rw [mx_nat na nb]
  refine Ev.pos (by omega) ?_
  refine Ev.pos (by omega) ?_
  rw [Int.toNat_natCast]
  exact ror_l0 na nb hna hnb wa wb la lb ka kb za zb (max na nb) (by omega) (max na nb) 0 _ (by omega) (by simp) (fun j hj => by omega)

/-! ### bitset.Valid -/
theorem ival (a : Int) (ws : List Int) (hw : wok ws) (hl : ws.length ≤ 9223372036854775807) : ∃ b, bitset_Valid.f a ws = some b ∧ (b = true ↔ vset a ws) := by
  unfold bitset_Valid.f
  by_cases h1 : a < 0
  · exact ⟨false, by rw [if_pos h1], by simp [vset]; omega⟩
  by_cases h2 : a > 1048576
  · exact ⟨false, by rw [if_neg h1, if_pos h2], by simp [vset]; omega⟩
  obtain ⟨n, rfl⟩ := Int.eq_ofNat_of_zero_le (show 0 ≤ a by omega)
  rw [if_neg h1, if_neg h2]
  unfold bitset_wordCount.f
  rw [w64 ((n : Int) + 63) (by omega) (by omega), show (n : Int) + 63 = ((n + 63 : Nat) : Int) by omega, tdiv64 _ (by omega), tmod64]
  simp only [Option.bind_some]
  have hwc : (n + 63) / 64 = wc n := rfl
  by_cases h3 : ws.length = wc n
  · rw [if_pos (by omega)]
    by_cases h4 : n % 64 = 0
    · refine ⟨true, by rw [if_pos (by omega)], iff_of_true rfl (vset_iff.2 ⟨by omega, h3, fun j hj => gb_out (by rw [h3]; unfold wc; omega)⟩)⟩
    · have e : wrap64 ((ws.length : Int) - 1) = ((n / 64 : Nat) : Int) := by
        rw [w64 _ (by omega) (by omega), h3]; unfold wc; omega
      have hq : n / 64 < ws.length := by rw [h3]; unfold wc; omega
      rw [if_neg (by omega), e, if_pos (by omega), if_pos (by omega), if_pos (by omega), rd_nat]
      refine ⟨_, rfl, ?_⟩
      have hg := wok_get hw (n / 64)
      have hlw := last_word hw h3 h4
      obtain ⟨m, hm⟩ := Int.eq_ofNat_of_zero_le hg.1
      rw [hm] at hlw ⊢
      rw [Int.toNat_natCast] at hlw
      unfold shr
      rw [show min (((n % 64 : Nat) : Int).toNat) IntKind.u64.bits = n % 64 by simp [IntKind.bits]; omega, ← pow_cast0, ← Int.natCast_ediv]
      rw [vset_iff]
      generalize m / 2 ^ (n % 64) = q at hlw ⊢
      constructor
      · intro h; exact ⟨by omega, h3, hlw.1 (by simpa using h)⟩
      · rintro ⟨_, _, h⟩; have := hlw.2 h; simpa using this
  · refine ⟨false, by rw [if_neg (by omega)], ?_⟩
    rw [vset_iff]
    exact iff_of_false (by simp) (fun h => h3 h.2.1)
theorem b_eq_of_iff {a b : Bool} {P : Prop} (h1 : a = true ↔ P) (h2 : b = true ↔ P) : (a == b) = true := by
  have : a = b := Bool.eq_iff_iff.2 (h1.trans h2.symm)
  rw [this]; simp
theorem wok_of_wf {l : List Int} (h : ∀ x ∈ l, (Lit.int .u64 x).wf = true) : wok l := fun x hx => wf_u64 (h x hx)

/-! ### the parameters of a filter -/
def parN (h n : Nat) : Bool := (h == 0 && n == 0) || (decide (1 ≤ h) && decide (h ≤ 11) && decide (64 ≤ n) && decide (n ≤ 65536) && ((n &&& (n - 1)) == 0))
theorem parN_n {h n : Nat} (hp : parN h n = true) : h ≤ 11 ∧ n ≤ 65536 ∧ (h = 0 ↔ n = 0) ∧ (h ≠ 0 → 64 ≤ n) := by
  unfold parN at hp
  simp only [Bool.or_eq_true, Bool.and_eq_true, beq_iff_eq, decide_eq_true_eq] at hp
  omega
theorem and_self_pred (n : Nat) (h1 : 1 ≤ n) (h : n < 9223372036854775808) : (Go.bits .and .u64 (n : Int) (IntKind.u64.wrap ((n : Int) - 1)) == 0) = ((n &&& (n - 1)) == 0) := by
  rw [show (n : Int) - 1 = ((n - 1 : Nat) : Int) by omega, wraps_u64 _ (by omega) (by omega), and_nat n (n - 1) (by omega) (by omega)]
  rw [Bool.eq_iff_iff, beq_iff_eq, beq_iff_eq]
  omega
theorem and_i64 (a b : Nat) (ha : a < 9223372036854775808) (hb : b < 9223372036854775808) : Go.bits .and .i64 (a : Int) (b : Int) = ((a &&& b : Nat) : Int) := by
  have h1 : a &&& b ≤ a := Nat.and_le_left
  have ea : a % 2 ^ 64 = a := Nat.mod_eq_of_lt (by omega)
  have eb : b % 2 ^ 64 = b := Nat.mod_eq_of_lt (by omega)
  simp only [Go.bits, BitVec.ofInt_natCast, BitVec.toNat_and, BitVec.toNat_ofNat, IntKind.wrap_i64]
  simp only [IntKind.bits]
  rw [ea, eb]
  omega
theorem sound_ev (h n : Nat) : bloom_sound.f (h : Int) (n : Int) = some (parN h n) := by
  unfold bloom_sound.f parN
  by_cases h0 : h = 0
  · subst h0
    rw [if_pos (show ((0 : Nat) : Int) = 0 from rfl)]
    congr 1
    rw [Bool.eq_iff_iff]
    simp
    omega
  rw [if_neg (by omega)]
  by_cases n0 : n = 0
  · subst n0
    rw [if_pos (show ((0 : Nat) : Int) = 0 from rfl)]
    congr 1
    rw [Bool.eq_iff_iff]
    simp <;> omega
  rw [if_neg (by omega)]
  by_cases h1 : h ≤ 11
  case neg =>
    rw [if_neg (by omega)]
    congr 1
    rw [Bool.eq_iff_iff]
    simp
    omega
  rw [if_pos (by omega)]
  by_cases n1 : 64 ≤ n
  case neg =>
    rw [if_neg (by omega)]
    congr 1
    rw [Bool.eq_iff_iff]
    simp
    omega
  rw [if_pos (by omega)]
  by_cases n2 : n ≤ 65536
  case neg =>
    rw [if_neg (by omega)]
    congr 1
    rw [Bool.eq_iff_iff]
    simp
    omega
  rw [if_pos (by omega), and_self_pred n (by omega) (by omega)]
  congr 1
  have e0 : (h == 0) = false := by simp; omega
  rw [e0, decide_eq_true (show 1 ≤ h by omega), decide_eq_true h1, decide_eq_true n1, decide_eq_true n2]
  simp
theorem shape_ev (h n : Int) (hh : -9223372036854775808 ≤ h ∧ h < 9223372036854775808) (hn : -9223372036854775808 ≤ n ∧ n < 9223372036854775808) : ∃ b, laminaref15_shape.f h n = some b ∧ (b = true ↔ 0 ≤ h ∧ 0 ≤ n ∧ parN h.toNat n.toNat = true) := by
  have key : ∃ b, (if h ≥ 1 then (if h ≤ 11 then (if n ≥ 64 then (if n ≤ 65536 then (some ((Go.bits .and .i64 n (wrap64 (n - 1))) == 0)) else (some false)) else (some false)) else (some false)) else (some false)) = some b ∧ (b = true ↔ 1 ≤ h ∧ 0 ≤ n ∧ parN h.toNat n.toNat = true) := by
    by_cases h1 : h ≥ 1
    case neg => rw [if_neg h1]; exact ⟨_, rfl, by simp; omega⟩
    rw [if_pos h1]
    by_cases h2 : h ≤ 11
    case neg =>
      rw [if_neg h2]
      refine ⟨_, rfl, by simp; intro _ _; unfold parN; simp; omega⟩
    rw [if_pos h2]
    by_cases n1 : n ≥ 64
    case neg =>
      rw [if_neg n1]
      refine ⟨_, rfl, by simp; intro _ _; unfold parN; simp; omega⟩
    rw [if_pos n1]
    by_cases n2 : n ≤ 65536
    case neg =>
      rw [if_neg n2]
      refine ⟨_, rfl, by simp; intro _ _; unfold parN; simp; omega⟩
    rw [if_pos n2]
    refine ⟨_, rfl, ?_⟩
    obtain ⟨hq, rfl⟩ := Int.eq_ofNat_of_zero_le (show 0 ≤ h by omega)
    obtain ⟨nn', rfl⟩ := Int.eq_ofNat_of_zero_le (show 0 ≤ n by omega)
    rw [w64 _ (by omega) (by omega), show (nn' : Int) - 1 = ((nn' - 1 : Nat) : Int) by omega, and_i64 _ _ (by omega) (by omega)]
    rw [Int.toNat_natCast, Int.toNat_natCast]
    unfold parN
    rw [decide_eq_true (show 1 ≤ hq by omega), decide_eq_true (show hq ≤ 11 by omega), decide_eq_true (show 64 ≤ nn' by omega), decide_eq_true (show nn' ≤ 65536 by omega)]
    have e0 : (hq == 0) = false := by simp; omega
    rw [e0]
    simp
    omega
  obtain ⟨b, e, hb⟩ := key
  unfold laminaref15_shape.f
  by_cases h0 : h = 0
  · subst h0
    rw [if_pos rfl]
    by_cases n0 : n = 0
    · subst n0
      rw [if_pos rfl]
      exact ⟨_, rfl, by simp [parN]⟩
    · rw [if_neg n0, e]
      refine ⟨b, rfl, ?_⟩
      rw [hb]
      unfold parN
      simp
      omega
  · rw [if_neg h0, e]
    refine ⟨b, rfl, ?_⟩
    rw [hb]
    constructor
    · rintro ⟨a1, a2, a3⟩; exact ⟨by omega, a2, a3⟩
    · rintro ⟨a1, a2, a3⟩; exact ⟨by omega, a2, a3⟩
/-! ### valid filters -/
def vfil (h n : Int) (ws : List Int) : Prop := (0 ≤ h ∧ 0 ≤ n ∧ parN h.toNat n.toNat = true) ∧ vset n ws
theorem bval (h n : Int) (ws : List Int) (hh : -9223372036854775808 ≤ h ∧ h < 9223372036854775808) (hn : -9223372036854775808 ≤ n ∧ n < 9223372036854775808) (hw : wok ws) (hl : ws.length ≤ 9223372036854775807) : ∃ b, bloom_Valid.f h n ws = some b ∧ (b = true ↔ vfil h n ws) := by
  unfold bloom_Valid.f vfil
  by_cases h0 : h ≥ 0
  case neg => rw [if_neg h0]; exact ⟨_, rfl, by simp; omega⟩
  by_cases n0 : n ≥ 0
  case neg => rw [if_pos h0, if_neg n0]; exact ⟨_, rfl, by simp; omega⟩
  rw [if_pos h0, if_pos n0]
  obtain ⟨a, rfl⟩ := Int.eq_ofNat_of_zero_le h0
  obtain ⟨c, rfl⟩ := Int.eq_ofNat_of_zero_le n0
  rw [wraps_u64 _ (by omega) (by omega), wraps_u64 _ (by omega) (by omega), sound_ev a c, Option.bind_some, Int.toNat_natCast, Int.toNat_natCast]
  cases hp : parN a c with
  | false => exact ⟨false, by simp, by simp⟩
  | true =>
    obtain ⟨b, e, hb⟩ := ival (c : Int) ws hw hl
    refine ⟨b, by simp [e], ?_⟩
    rw [hb]
    simp
theorem rval (h n : Int) (ws : List Int) (hh : -9223372036854775808 ≤ h ∧ h < 9223372036854775808) (hn : -9223372036854775808 ≤ n ∧ n < 9223372036854775808) (hw : wok ws) (hl : ws.length ≤ 9223372036854775807) : ∃ b, laminaref15_Valid.f h n ws = some b ∧ (b = true ↔ vfil h n ws) := by
  obtain ⟨s, e, hs⟩ := shape_ev h n hh hn
  unfold laminaref15_Valid.f vfil
  rw [e, Option.bind_some]
  cases s with
  | false =>
    refine ⟨false, by simp, ?_⟩
    rw [← hs]
    simp
  | true =>
    obtain ⟨b, e2, hb⟩ := r03val n ws hw hl
    refine ⟨b, by simp [e2], ?_⟩
    rw [← hs, hb]
    simp
theorem vfil_nat {h n : Int} {ws : List Int} (hv : vfil h n ws) : ∃ hn nn' : Nat, h = (hn : Int) ∧ n = (nn' : Int) ∧ parN hn nn' = true ∧ nn' ≤ 65536 ∧ hn ≤ 11 ∧ ws.length = wc nn' ∧ ∀ j, nn' ≤ j → gb ws j = false := by
  obtain ⟨⟨h0, n0, hp⟩, hs⟩ := hv
  obtain ⟨a, rfl⟩ := Int.eq_ofNat_of_zero_le h0
  obtain ⟨c, rfl⟩ := Int.eq_ofNat_of_zero_le n0
  rw [Int.toNat_natCast, Int.toNat_natCast] at hp
  obtain ⟨_, h2, h3⟩ := vset_iff.1 hs
  obtain ⟨p1, p2, _⟩ := parN_n hp
  exact ⟨a, c, rfl, rfl, hp, p2, p1, h2, h3⟩
theorem vfil_of {hn nn' : Nat} {ws : List Int} (hp : parN hn nn' = true) (hl : ws.length = wc nn') (hz : ∀ j, nn' ≤ j → gb ws j = false) : vfil (hn : Int) (nn' : Int) ws := by
  obtain ⟨p1, p2, _⟩ := parN_n hp
  exact ⟨⟨by omega, by omega, by rwa [Int.toNat_natCast, Int.toNat_natCast]⟩, vset_iff.2 ⟨by omega, hl, hz⟩⟩
theorem beq_ev (h n : Int) (ws : List Int) (hl : ws.length ≤ 1000000) : Ev (fun k => laminaref15_Equal.f k h n ws h n ws) true := by
  unfold laminaref15_Equal.f
  refine Ev.pos rfl ?_
  refine Ev.bind (req_ev n ws hl) ?_
  exact Ev.now _

theorem blives_ev : laminalaw15_lives.f = some true := rfl
theorem iuni_ev (h n : Nat) (hn : n ≤ 1048576) (la lb : List Int) (ha : wok la) (hb : wok lb) : Ev (fun k => bloom_Union.f k (h : Int) (n : Int) la (h : Int) (n : Int) lb) ((h : Int), (n : Int), bor n la lb, 0) := by
  unfold bloom_Union.f
  refine Ev.pos rfl ?_
  refine Ev.pos rfl ?_
  refine Ev.bind (or_ev n hn la lb ha hb) ?_
  exact Ev.now _
theorem runi_ev (h n : Nat) (hn : n ≤ 1048576) (la lb : List Int) (l1 : la.length = wc n) (l2 : lb.length = wc n) (ha : wok la) (hb : wok lb) (za : ∀ j, n ≤ j → gb la j = false) (zb : ∀ j, n ≤ j → gb lb j = false) : Ev (fun k => laminaref15_Union.f k (h : Int) (n : Int) la (h : Int) (n : Int) lb) ((h : Int), (n : Int), bor n la lb, 0) := by
  unfold laminaref15_Union.f
  refine Ev.pos rfl ?_
  refine Ev.pos rfl ?_
  have e := bor_w (na := n) (nb := n) ha hb za zb
  have r := ror_ev n n hn hn la lb l1 l2 ha hb za zb
  rw [Nat.max_self] at e r
  rw [← e] at r
  refine Ev.bind r ?_
  exact Ev.now _
theorem BloomUnion : laminalaw15_BloomUnion.Pure := by
  intro a n la b m lb oka okb
  obtain ⟨fa, fn, hla, hwa⟩ := oka
  obtain ⟨fb, fm, hlb, hwb⟩ := okb
  simp only at fa fn hla hwa fb fm hlb hwb
  have ka := wok_of_wf hwa
  have kb := wok_of_wf hwb
  have ia := wf_i64 fa
  have in_ := wf_i64 fn
  have ib := wf_i64 fb
  have im := wf_i64 fm
  simp only [maxLen] at hla hlb
  obtain ⟨v1, e1, i1⟩ := bval a n la ia in_ ka hla
  obtain ⟨v2, e2, i2⟩ := rval a n la ia in_ ka hla
  obtain ⟨v3, e3, i3⟩ := bval b m lb ib im kb hlb
  obtain ⟨v4, e4, i4⟩ := rval b m lb ib im kb hlb
  have q1 : (v1 != v2) = false := by rw [bne, b_eq_of_iff i1 i2]; rfl
  have q3 : (v3 != v4) = false := by rw [bne, b_eq_of_iff i3 i4]; rfl
  refine Ev.rounds (g := fun k => laminalaw15_BloomUnion.f k a n la b m lb) ?_
  unfold laminalaw15_BloomUnion.f
  have big : Ev (fun k => laminalaw15_BloomUnion.j0 k true a n la b m lb) true := by
    refine Ev.succ ?_
    simp only [laminalaw15_BloomUnion.j0]
    refine Ev.pos (by simp) ?_
    exact Ev.bind0 blives_ev (Ev.now _)
  have bad : Ev (fun k => laminalaw15_BloomUnion.j2 k true a n la b m lb) true := by
    refine Ev.succ ?_
    simp only [laminalaw15_BloomUnion.j2]
    refine Ev.pos (by simp) ?_
    exact Ev.bind0 blives_ev (Ev.now _)
  by_cases c1 : (la.length : Int) > 2000
  · refine Ev.pos c1 ?_
    exact big
  refine Ev.neg c1 ?_
  by_cases c2 : (lb.length : Int) > 2000
  · rw [decide_eq_true c2]; exact big
  rw [decide_eq_false c2]
  refine Ev.succ ?_
  simp only [laminalaw15_BloomUnion.j0]
  refine Ev.neg (by decide) ?_
  refine Ev.bind0 e1 ?_
  refine Ev.bind0 e2 ?_
  refine Ev.neg (by simp [q1]) ?_
  refine Ev.bind0 e3 ?_
  refine Ev.bind0 e4 ?_
  rw [q3]
  refine Ev.succ ?_
  simp only [laminalaw15_BloomUnion.j1]
  refine Ev.neg (by decide) ?_
  refine Ev.bind0 e2 ?_
  cases v2 with
  | false => exact Ev.neg (by decide) bad
  | true =>
    refine Ev.pos rfl ?_
    refine Ev.bind0 e4 ?_
    cases v4 with
    | false => exact bad
    | true =>
      obtain ⟨a', n', rfl, rfl, pa, nl, hl, l1, z1⟩ := vfil_nat (i2.1 rfl)
      obtain ⟨b', m', rfl, rfl, pb, ml, hl2, l2, z2⟩ := vfil_nat (i4.1 rfl)
      refine Ev.succ ?_
      simp only [laminalaw15_BloomUnion.j2, Bool.not_true]
      refine Ev.neg (by decide) ?_
      have fin : ∀ (h n : Int) (ws : List Int) (e : Int), ws.length ≤ 1000000 → Ev (fun k => (laminaref15_Equal.f k h n ws h n ws).bind fun t290 => (if t290 = true then (if e = e then ((laminalaw15_lives.f).bind fun t291 => (some t291)) else (some false)) else (some false))) true := by
        intro h n ws e hws
        refine Ev.bind (beq_ev h n ws hws) ?_
        refine Ev.pos rfl ?_
        refine Ev.pos rfl ?_
        exact Ev.bind0 blives_ev (Ev.now _)
      by_cases d1 : a' = b'
      · subst d1
        by_cases d2 : n' = m'
        · subst d2
          refine Ev.bind (iuni_ev a' n' (by omega) la lb ka kb) ?_
          refine Ev.bind (runi_ev a' n' (by omega) la lb l1 l2 ka kb z1 z2) ?_
          refine fin _ _ _ _ ?_
          unfold bor
          rw [gl_len]
          unfold wc
          omega
        · refine Ev.bind (a := ((0 : Int), (0 : Int), ([] : List Int), (1 : Int))) (by unfold bloom_Union.f; exact Ev.pos rfl (Ev.neg (by omega) (Ev.now _))) ?_
          refine Ev.bind (a := ((0 : Int), (0 : Int), ([] : List Int), (1 : Int))) (by unfold laminaref15_Union.f; exact Ev.pos rfl (Ev.neg (by omega) (Ev.now _))) ?_
          exact fin _ _ _ _ (by simp)
      · refine Ev.bind (a := ((0 : Int), (0 : Int), ([] : List Int), (1 : Int))) (by unfold bloom_Union.f; exact Ev.neg (by omega) (Ev.now _)) ?_
        refine Ev.bind (a := ((0 : Int), (0 : Int), ([] : List Int), (1 : Int))) (by unfold laminaref15_Union.f; exact Ev.neg (by omega) (Ev.now _)) ?_
        exact fin _ _ _ _ (by simp)

end Go.Proofs.Ytjeheopcohnkeaa.Pure
